/- The engine, part 3: what is proved of the model, for any program; no condition. -/
import Derived.Test.YtcdojenmonmcfaaGreatEb
set_option linter.all false
namespace Go.Eng
section
variable {U:Un} {T:Tab} {F:Fr} {S:SS U.D} {τ:Nat->Int}
theorem J2: ∀ {l:List V},l.all V.fresh=true->Qc l=true:=by
 intro l
 induction l with
 |nil=>intro _;rfl
 |cons v r ih=>
  simp_all[Qc]
theorem Al6: ∀ {l:List (List V)},(∀x∈l,Qc x=true)->Q78 l=true:=by
 intro l
 induction l with
 |nil=>intro _;rfl
 |cons v r ih=>
  intro h;simp only[Q78,h v (by simp),ih fun x hx=>h x (by simp[hx]),Bool.and_self]
theorem Rs (hU:Ab U){d:Bool}{t:Nat}(h:(d&& !U.far t 1000||U.flat t)=true)(x:U.D t):(U.eT d t x).all V.fresh=true:=by
 cases d with
 |true=>exact hU.fresh t x (by simpa using h)
 |false=>
  have h:U.flat t=true:=by grind
  show(U.en t x).all V.fresh=true;rw[←hU.flat t h];exact hU.fresh t x (by simp[h])
theorem H4{v:V}(hc:v.closed=true){lent:Bool}(hf:lent=false∨v.fresh=true)(outs:List Nat)(ν:Nat->Nat):v.back lent outs ν=v:=by
 cases v with
 |row o es xs=>
  grind [V.back]
 |int=>rfl
 |bool=>rfl
 |str=>rfl
 |nilp=>rfl
 |_=>cases hc
theorem Yi (hU:Ab U){lent d:Bool}{t:Nat}(h:(!lent||(d&& !U.far t 1000||U.flat t))=true)(outs:List Nat)(ν:Nat->Nat)(l:List (U.D t)):(l.map (U.eT d t)).map (fun x=>x.map (V.back lent outs ν))=l.map (U.eT d t):=by
 rw[Dr];refine Fk fun a _=> ?_
 show(U.eT d t a).map _=U.eT d t a;refine(Fk fun v hv=> ?_).trans (List.map_id _);refine H4 (Z1.1 ((hU.eT d t).2 a) v hv) ?_ _ _;cases lent with
 |false=>grind
 |true=>
  right;refine Z1.1 (Rs hU (d:=d) (t:=t) ?_ a) v hv
  grind
theorem Us (hU:Ab U){lent:Bool}{outs:List Nat}{ν ver:Nat->Nat}(hν: ∀id∈outs,ν id=ver id){v:SV U.D}(h:Ub U lent v=true):(v.toV U).back lent outs ν=(v.up U outs ver).toV U:=by
 cases v with
 |int k n g=>rfl
 |bool b=>rfl
 |str s=>rfl
 |nilp=>rfl
 |row t l=>
  cases l with
  |nil=>exact H4 (by rfl) (.inr rfl) _ _
  |cons x r=>
   have h:(!lent||false)=true:=h
   exact H4 (by rfl) (.inl (by grind)) _ _
 |rowT t d l=>
  have h:(!lent||(d&& !U.far t 1000||U.flat t))=true:=h
  refine H4 (by rfl) ?_ _ _
  cases lent with
  |false=>grind
  |true=>
   right
   show(true&&Q78 (l.map (U.eT d t)))=true;rw[Z30];refine Al6 fun x hx=> ?_;obtain⟨a,_,rfl⟩:=Ey.1 hx
   grind [J2,Rs]
 |own id ve n=>
  cases id with
  |zero=>rfl
  |succ i=>
   grind [V.back,SV.up,SV.toV]
 |ptr id ve j=>
  cases id with
  |zero=>rfl
  |succ i=>
   grind [V.back,SV.up,SV.toV]
 |_=>cases h
theorem Wn (hU:Ab U){lent:Bool}{outs:List Nat}{ν ver:Nat->Nat}(hν: ∀id∈outs,ν id=ver id){cs:List (SV U.D)}(h:cs.all (Ub U lent)=true):(cs.map (SV.toV U)).map (V.back lent outs ν)=(Aat U outs ver cs).map (SV.toV U):=by
 simp_all[Aat,Us]
theorem L9{α β:Type}(f:α->β)(l:List α)(d:α)(d':β)(h:f d=d'):(l.map f).headD d'=f (l.headD d):=by
 cases l with
 |nil=>grind
 |cons x r=>rfl
theorem Afo (hU:Ab U){lent:Bool}{outs:List Nat}{ν ver:Nat->Nat}(hν: ∀id∈outs,ν id=ver id){a:SA U.D}(h:Wd U lent a=true):(a.toA U).backT lent outs ν=(a.up U outs ver).toA U:=by
 cases a with
 |c v=>show A.c _=A.c _;rw[Us hU hν h]
 |g cs=>show A.g _=A.g _;rw[Wn hU hν h]
 |t xs=>
  show A.t ((xs.map _).map _)=A.t ((xs.map _).map _)
  congr 1
  rw[Dr,Dr];refine Fk fun x hx=> ?_
  have hx:x.2.all (Ub U lent)=true:=Z1.1 h x hx
  have hb:=Wn hU hν hx;obtain⟨ag,cs⟩:=x;cases ag with
  |true=>show A.g _=A.g _;rw[hb]
  |false=>
   show A.c ((((cs.map (SV.toV U)).headD .undef)).back lent outs ν)=A.c ((((Aat U outs ver cs).map (SV.toV U)).headD .undef));rw[←hb,L9 (V.back lent outs ν) _ V.undef V.undef rfl]
theorem Al7 (v:Nat)(B:SB U.D):(B.upV v).toB U=⟨v,(B.toB U).es,(B.toB U).xs⟩:=by cases B<;>rfl
theorem Wo (v:Nat)(B:SB U.D):(B.upV v).ver=v:=by cases B<;>rfl
theorem Wp (v:Nat)(B:SB U.D):(B.upV v).len=B.len:=by cases B<;>rfl
theorem Yj (v:Nat)(B:SB U.D):(B.upV v).clean=false:=by cases B<;>rfl
theorem Ab1 (hU:Ab U){lent:Bool}{outs:List Nat}{ν:Nat->Nat}{B:SB U.D}(h:M7 U lent B=true):(B.toB U).xs.map (fun x=>x.map (V.back lent outs ν))=(B.toB U).xs:=by
 cases B with
 |rows v t d c l=>exact Yi hU h outs ν l
 |box v cs=>
  show [(cs.map (SV.toV U)).map (V.back lent outs ν)]=[cs.map (SV.toV U)]
  congr 1
  rw[Dr];refine Fk fun c hc=> ?_
  have:=Z1.1 h c hc;simp only[Z4]at this
  have hb:=Us (U:=U) hU (lent:=lent) (outs:=outs) (ν:=ν) (ver:=ν) (fun _ _=>rfl) this.2;refine hb.trans ?_;cases c<;>first|rfl|(cases this.1.1)
 |arr v n t l=>cases h
 |opn v t d q l g i cs=>cases h
theorem Ai1 (hU:Ab U){lent:Bool}{outs:List Nat}{ν ver:Nat->Nat}: ∀(l:List Nat) (Bs:List (SB U.D)),(∀id∈l,ν id=ver id)->Bs.all (M7 U lent)=true→
  Hb lent outs ν l (Bs.map (SB.toB U))=(Q72 U ver l Bs).map fun p=>(p.1,p.2.map (SB.toB U)):=by
 intro l
 induction l with
 |nil=>intro Bs _ _;rfl
 |cons id r ih=>
  intro Bs hν hB;cases Bs with
  |nil=>rfl
  |cons B Bs=>
   simp only[Ge,Z4]at hB;simp only[Z8,Hb,Q72,Vv,Al7,ih Bs (fun i hi=>hν i (by simp[hi])) hB.2,hν id (by simp),Ab1 hU hB.1]
theorem Nr{α:Type}{x:Option α}{r:α}: ∀ {l:List (Nat×Nat)},Aav x l=some r->x=some r∧ ∀p∈l,p.1=p.2:=by
 intro l
 induction l with
 |nil=>intro h;exact⟨h,by simp⟩
 |cons p s ih=>
  intro h
  have key:(∃h2:Aav x s=some r,p.1=p.2)->x=some r∧ ∀q∈p::s,q.1=q.2:=by
   grind
  unfold Aav at h
  grind
theorem Ut: ∀(io:List Nat) (H1:List (SB U.D)),Hx U S io H1=true->(∀p∈Ua U S io H1,p.1=p.2)→
  D5 (S.toSt U) io (H1.map (SB.toB U))∧ ∀(i id:Nat) B1,io[i]? =some id->H1[i]? =some B1-> ∃B,S.blk id=some B∧B.len=B1.len:=by
 intro io
 induction io with
 |nil=>grind [Aib]
 |cons x r ih=>
  intro H1 h hl;cases H1 with
  |nil=>cases h
  |cons B Bs=>
   simp only[Hx,Z4]at h;obtain⟨h1,h2⟩:=h
   have key:(∃B0,S.blk x=some B0∧B0.len=B.len∧(B0.toB U).es=(B.toB U).es∧(B0.toB U).xs.length=(B.toB U).xs.length)∧ ∀p∈Ua U S r Bs,p.1=p.2:=by
    split at h1
    ·rename_i v t d c l v' t' d' c' l' e
     have e3:=Z2 h1;simp only[Ua,e,Eg,forall_eq_or_imp]at hl;refine⟨⟨_,e,?_,?_,?_⟩,hl.2⟩
     ·simp only[SB.len];omega
     ·grind [SB.toB]
     ·simp only[SB.toB,Hm];omega
    ·rename_i v cs v' cs' e
     have e3:=Z2 h1;refine⟨⟨_,e,rfl,?_,rfl⟩,hl⟩;simp only[SB.toB];omega
    grind
   obtain⟨⟨B0,k1,k2,k3,k4⟩,k5⟩:=key;obtain⟨g1,g2⟩:=ih Bs h2 k5;refine⟨⟨fun C hC=> ?_,g1⟩,fun i id B1 hi hB1=> ?_⟩
   all_goals grind [Ac]
theorem Uu (d:Nat)(rest:List Oper)(n:Nat):(T9 d rest n).length=n:=by
 unfold T9
 grind
def Ab2:SA U.D->List (SV U.D)
 | .c v=>[v]
 | .g cs=>cs
 | .t xs=>xs.flatMap (·.2)
def Ns (n:Nat)(H:List (SB U.D))(c:SV U.D):Prop:= ∀i v len,c= .own (i+1) v len->n≤i∧ ∀B,H[i - n]? =some B->len=B.len
theorem Ma{n:Nat}{H:List (SB U.D)}{c:SV U.D}(h:c.shut=true):Ns n H c:=by rintro i v len rfl;cases h
theorem Uv: ∀(cs:List (SV U.D)) (n:Nat),cs.all SV.shut=true-> ∀H,∀c∈(Q9 U n cs).1,Ns n ((Q9 U n cs).2++H) c∧ ∀i v len,c= .own (i+1) v len->i<n+(Q9 U n cs).2.length:=by
 intro cs
 induction cs with
 |nil=>intro n _ H c hc;cases hc
 |cons x r ih=>
  intro n h H c hc;simp only[Ge,Z4]at h
  by_cases hx:isT x=true
  ·cases x with
   |rowT t d l=>
    simp only[Q9]at hc ⊢;rcases Eg.1 hc with rfl|hc
    ·refine⟨fun i v len e=> ?_,fun i v len e=> ?_⟩
     ·simp only[SV.own.injEq,Nat.add_right_cancel_iff]at e;obtain⟨rfl,_,rfl⟩:=e;refine⟨Z9 _,fun B hB=> ?_⟩;rw[Nat.sub_self]at hB;simp only[Z45,Y8,Z7]at hB;subst hB;rfl
     grind
    ·obtain⟨g1,g2⟩:=ih (n+1) h.2 H c hc;refine⟨fun i v len e=> ?_,fun i v len e=> ?_⟩
     ·obtain⟨k1,k2⟩:=g1 i v len e
      grind
     grind
   |_=>cases hx
  ·have hx:isT x=false:=by grind
   rw[Q26 hx]at hc ⊢;rcases Eg.1 hc with rfl|hc
   ·exact⟨Ma h.1,fun i v len e=>by subst e;cases h.1⟩
   ·exact ih n h.2 H c hc
theorem Ab3 (hU:Ab U){W:List TC}: ∀(rs:List RM) (n:Nat) (r:Aw U (rs.map RM.code++W)),∀x∈(Dz U W rs n r).1,∀c∈x.2,Ns n (Dz U W rs n r).2.1 c:=by
 intro rs
 induction rs with
 |nil=>intro n r x hx;cases hx
 |cons m rs ih=>
  intro n r x hx c hc;cases m with
  |v t=>
   simp only[Dz]at hx ⊢;rcases Eg.1 hx with rfl|hx
   ·exact Ma (Z1.1 (hU.csSh t _) c hc)
   grind
  |n t m=>
   simp only[Dz]at hx ⊢;rcases Eg.1 hx with rfl|hx
   ·exact(Uv _ n (hU.shut t m _) _ c hc).1
   ·intro i v len e;obtain⟨k1,k2⟩:=ih _ _ x hx c hc i v len e
    grind
  |p t m=>
   simp only[Dz]at hx ⊢;rcases Eg.1 hx with rfl|hx
   ·intro i v len e
    grind
   ·intro i v len e;obtain⟨k1,k2⟩:=ih _ _ x hx c hc i v len e
    grind
theorem Yk: ∀(es:List (Nat×Bool)) (W:List TC) (r:Aw U (es.map (fun e=>TC.l e.1)++W)),(F0 U es W r).1.length=es.length:=by
 intro es
 induction es with
 |nil=>intro W r;rfl
 |cons e es ih=>grind [F0]
theorem Ab4: ∀(ps:List PM) (r:Aw U (Ax ps)),(Gl U ps r).length=Bg ps:=by
 intro ps
 induction ps with
 |nil=>intro r;rfl
 |cons p ps ih=>
  intro r;cases p with
  |v t=>exact ih r
  |b t m=>grind [Gl,Bg]
  |w t m es=>
   grind [Yk,Gl,Bg]
  |r t=>exact ih r
  |f fid caps ts=>exact ih r
theorem Ru (l:List (Bool×List (SV U.D))): ∀c∈Ab2 (Wa U l),∃x∈l,c∈x.2:=by
 unfold Wa;split
 ·intro c hc;exact⟨_,Pz.2 rfl,hc⟩
 ·intro c hc;exact⟨_,Pz.2 rfl,hc⟩
 ·intro c hc;obtain⟨x,h1,h2⟩:=List.mem_flatMap.1 hc
  grind
theorem Afp (hU:Ab U)(sg:Sig)(r:Aw U sg.codes): ∀c∈Ab2 (sg.res U r),Wl (sg.blks U r) c:=by
 intro c hc i v len e B hB;obtain⟨x,h1,h2⟩:=Ru _ c hc;obtain⟨k1,k2⟩:=Ab3 hU sg.rs (Bg sg.ps) r x h1 c h2 i v len e
 grind [Sig.blks,Ab4]
end
end Go.Eng
namespace Go.Eng
section
variable {U:Un} {T:Tab} {F:Fr} {S:SS U.D} {τ:Nat->Int}
theorem Wq{e:List (Nat×SA U.D)}{nv:List (Nat×Nat)}{c:Nat}: ∀(l H:List (Nat×Option (SB U.D))) (i:Nat),(∀p∈l,p.1≠i)->(⟨e,l.reverse++H,nv,c⟩:SS U.D).blk i=(⟨e,H,nv,c⟩:SS U.D).blk i:=by
 intro l
 induction l with
 |nil=>grind
 |cons x r ih=>
  intro H i h;rw[List.reverse_cons,Z31,List.singleton_append,ih _ i fun p hp=>h p (by simp[hp])]
  obtain⟨k,b⟩:=x;rw[Ra,if_neg fun e=>h (k,b) (by simp) e.symm]
theorem J3{ver:Nat->Nat}: ∀(l:List Nat) (Bs:List (SB U.D)),∀p∈Q72 U ver l Bs,p.1∈l:=by
 intro l
 induction l with
 |nil=>intro Bs p hp;cases Bs<;>cases hp
 |cons id r ih=>
  intro Bs p hp;cases Bs with
  |nil=>cases hp
  |cons B Bs=>
   rcases Eg.1 hp with rfl|hp
   all_goals grind
theorem Ai2{e:List (Nat×SA U.D)}{nv:List (Nat×Nat)}{c:Nat}{ver:Nat->Nat}: ∀(l:List Nat) (Bs:List (SB U.D)) (H:List (Nat×Option (SB U.D))),l.Nodup-> ∀(i id:Nat) B,l[i]? =some id->Bs[i]? =some B→
  (⟨e,(Q72 U ver l Bs).reverse++H,nv,c⟩:SS U.D).blk id=some (B.upV (ver id)):=by
 intro l
 induction l with
 |nil=>grind
 |cons x r ih=>
  intro Bs H hd i id B hi hB
  have hd':=List.nodup_cons.1 hd;cases Bs with
  |nil=>simp at hB
  |cons C Bs=>
   simp only[Q72];rw[List.reverse_cons,Z31,List.singleton_append];cases i with
   |zero=>
    simp only[Y8,Z7]at hi hB;subst hi;subst hB;rw[Wq _ _ _ fun p hp e=>hd'.1 (by grind [J3]),Ra,if_pos rfl]
   |succ i=>grind
theorem Rv (io news:List Nat):Fe (io++news) (Xt io news)=news:=by
 unfold Xt
 induction io with
 |nil=>
  induction news with
  |nil=>rfl
  |cons x r ih=>grind [Fe]
 |cons x r ih=>assumption
theorem J4{io:List Nat}{id:Nat}{B:SB U.D}(h:id∈io)(hB:S.blk id=some B):Dk U S io id=B.ver:=by
 simp_all[Dk]
theorem Ai3{io:List Nat}{id:Nat}(h:id ∉ io):Dk U S io id=S.ver id:=by
 unfold Dk
 grind
theorem Uw{io news:List Nat}(hd:(io++news).Nodup)(hl: ∀id∈io,∃B,S.blk id=some B): ∀id∈io++news,Dx (S.toSt U) (io++news) (Xt io news) id=Dk U S io id:=by
 intro id hid;obtain⟨i,hi⟩:=List.getElem?_of_mem hid;rcases Hn i io.length with h|h
 ·have hk:(Xt io news)[i]? =some true:=by
   grind [Xt]
  have hio:id∈io:=by grind
  obtain⟨B,hB⟩:=hl id hio;rw[(Hr hd hi hk).1,if_pos rfl,Ac hB,J4 hio hB];exact Q93 B
 ·have hnew:id∈news:=by grind
  have hk:(Xt io news)[i]? =some false:=by
   grind [Xt]
  have hno:id ∉ io:=fun h2=>(List.nodup_append.1 hd).2.2 id h2 id hnew rfl;rw[(Hr hd hi hk).1,if_neg (by simp),Ai3 hno]
  rfl
theorem Ak2{l:List Nat}{x:Nat}(h:Ar l x=none):x ∉ l:=by
 induction l with
 |nil=>simp
 |cons y r ih=>
  simp only[Ar]at h
  by_cases e:x=y
  all_goals simp_all
theorem Rw{io:List Nat}: ∀(args:List (SA U.D)),∀a∈args,∀c∈a.cells,∀id,Aby c=some id->id ∉ io->id∈Q54 U io args:=by
 intro args
 induction args with
 |nil=>grind
 |cons x r ih=>
  intro a ha c hc id hr hn
  have hcon:io.contains id=false:=by
   grind
  rcases Eg.1 ha with rfl|ha
  ·refine List.mem_append_left _ (List.mem_flatMap.2 ⟨c,hc,?_⟩);cases c with
   |own id' v n=>cases hr;grind
   |part id' v lo hi=>cases hr;grind
   |_=>cases hr
  ·exact List.mem_append_right _ (ih a ha c hc id hr hn)
theorem A4.callArgs (h:A4 S τ)(caps:List (Nat×Nat))(rs:List (Σ t,U.D t))(l:List (Operand×TypeId)): ∀a∈callArgs U T S caps rs l,a.ok S τ:=by
 intro a ha;rcases Mj.1 ha with ha|ha
 ·obtain⟨p,_,rfl⟩:=Ey.1 ha;exact h.val _ _
 ·rcases Mj.1 ha with ha|ha
  ·obtain⟨p,_,rfl⟩:=Ey.1 ha
   trivial
  ·obtain⟨p,_,rfl⟩:=Ey.1 ha
   trivial
theorem Ux{caps:List (Nat×Nat)}{rs:List (Σ t,U.D t)}{xs:Array Operand}{ats:Array TypeId}(hs:xs.size=ats.size)(h:(xs.toList.zip ats.toList).all (fun p=>Aii U p.1 (S.val T p.2 p.1))=true):
  (Go.Eng.callArgs U T S caps rs (xs.toList.zip ats.toList)).map (SA.toA U)=Q90 (S.toSt U) xs ((caps.map fun c=> .ptr c.1 c.2 0 0)++rs.map fun q=> .ip (U.sz q.1) [U.en q.1 q.2] 0 0):=by
 unfold Go.Eng.callArgs Q90;rw[Vu,Vu,Vu,Dr,Dr,Dr,Dr,Dr]
 congr 1
 have h1:xs.toList=(xs.toList.zip ats.toList).map Prod.fst:=(List.map_fst_zip (by simp[hs])).symm
 conv=>rhs;rw[h1,Dr]
 refine Fk fun p hp=> ?_;exact(Abz (Z1.1 h p hp)).symm
theorem Al8{S':SS U.D}{outs:List Nat}{ver:Nat->Nat}{c:SV U.D}(h: ∀i v len id,c= .own (i+1) v len->outs[i]? =some id->(SV.own id (ver id) len:SV U.D).ok S' τ):(c.up U outs ver).ok S' τ:=by
 cases c with
 |own id v n=>
  cases id with
  |zero=>trivial
  |succ i=>
   simp only[SV.up];cases e:outs[i]? with
   |none=>trivial
   |some id=>grind
 |ptr id v j=>
  cases id with
  |zero=>trivial
  |succ i=>
   simp only[SV.up];cases outs[i]? <;>trivial
 |int k n g=>exact Fp
 |_=>trivial
theorem Ai4{S':SS U.D}{outs:List Nat}{ver:Nat->Nat}{a:SA U.D}(h: ∀c∈Ab2 a,(c.up U outs ver).ok S' τ):(a.up U outs ver).ok S' τ:=by
 cases a with
 |c v=>exact h v (by simp[Ab2])
 |g cs=>
  intro c hc;obtain⟨c0,h1,rfl⟩:=Ey.1 hc;exact h c0 h1
 |t xs=>
  intro x hx c hc;obtain⟨x0,h1,rfl⟩:=Ey.1 hx;obtain⟨c0,h2,rfl⟩:=Ey.1 hc;exact h c0 (List.mem_flatMap.2 ⟨x0,h1,h2⟩)
theorem Uy (hU:Ab U)(hw:A4 S τ){f:FuncId}(hf:Ei F.P f){o:Oper}{x:Operand}{xs:Array Operand}{ats:Array TypeId}{lent:Bool}{caps:List (Nat×Nat)}{rs:List (Σ t,U.D t)}{args:List (SA U.D)}{io news:List Nat}{H0 H1:List (SB U.D)}{res:SA U.D}{α:Type}{k:Ai U.D->Option α}{r:α}
  (ho:o.op= .call ⟨.value x,xs,ats⟩) (hx:(S.toSt U).val [] x= .c (.fn f ((caps.map fun c=> .ptr c.1 c.2 0 0)++rs.map fun q=> .ip (U.sz q.1) [U.en q.1 q.2] 0 0))) (ha:args.map (SA.toA U)=Q90 (S.toSt U) xs ((caps.map fun c=> .ptr c.1 c.2 0 0)++rs.map fun q=> .ip (U.sz q.1) [U.en q.1 q.2] 0 0)) (hok: ∀a∈args,a.ok S τ)
  (hlow:(args.map (SA.low U lent io S)).all (Wb U)=true) (hH0:Aas U S io=some H0) (hn:news.length=H1.length - io.length)
  (hsp:Sp F.P f ((args.map (SA.low U lent io S)).map (SA.toA U)) (H0.map (SB.toB U)) (res.toA U) (H1.map (SB.toB U))) (hres: ∀c∈Ab2 res,Wl H1 c)
  (h:M8 U S lent io (Q54 U io args) news (Q2 (x::xs.toList)) k H1 res=some r):Bq U F T S τ o k r:=by
 unfold M8 at h;split at h
 ·rename_i hc;simp only[Z4,decide_eq_true_eq]at hc;obtain⟨⟨⟨⟨⟨hk,hA⟩,hB⟩,hlen⟩,hnd⟩,hnew⟩:=hc
  have hlen:=Ex hlen;obtain⟨hk1,hl⟩:=Nr h;obtain⟨hsl,hkl⟩:=Ut io H1 hk hl;obtain⟨hb1,hb2⟩:=L8 hU (lent:=lent) (io0:=io) (L:=io++news++Q54 U io args) io hH0 (fun id hi=>by simp[hi])
  have hlive: ∀id∈io,∃B,S.blk id=some B:=fun id hi=>by
   grind [List.getElem?_of_mem]
  have hνs:=Uw (U:=U) hnd hlive
  have houts:(io++news).length=H1.length:=by grind
  refine⟨_,hk1,?_,?_⟩
  ·refine sCg (H0:=H0.map (SB.toB U)) (H1:=H1.map (SB.toB U)) hsp hf lent io news (io++news++Q54 U io args) ho hx ?_ hb1 hnd ?_ ?_ hnew (by grind) hsl ?_ (Rv io news) ?_
   ·rw[←ha,Dr,Dr];refine Fk fun a hm=> ?_;refine Aiz hU (hok a hm) (fun id i hp=> ?_) (fun c hcc id hr hp=> ?_) (Z1.1 hlow _ (List.mem_map_of_mem hm))
    ·have:=Z6 (Q27 hp);grind
    grind [Rw]
   ·refine Z1.2 fun id hi=> ?_;obtain⟨B,hB⟩:=hlive id hi
    simp_all[Q67]
   ·grind
   all_goals grind [Ai1,Afo]
  ·have hblk: ∀(i id:Nat) B,(io++news)[i]? =some id->H1[i]? =some B->(S.app o.dst {v:=res.up U (io++news) (Dk U S io),upd:=Q72 U (Dk U S io) (io++news) H1,bump:=news,use:=Q2 (x::xs.toList),ids:=io++news++Q54 U io args}).blk id=some (B.upV (Dk U S io id)):=fun i id B hi hB=>Ai2 _ _ _ hnd i id B hi hB
   have hblk0: ∀id,id ∉ io++news->(S.app o.dst {v:=res.up U (io++news) (Dk U S io),upd:=Q72 U (Dk U S io) (io++news) H1,bump:=news,use:=Q2 (x::xs.toList),ids:=io++news++Q54 U io args}).blk id=S.blk id:=fun id hi=>Wq _ _ _ fun p hp e=>hi (by grind [J3])
   have hver: ∀id,(S.app o.dst {v:=res.up U (io++news) (Dk U S io),upd:=Q72 U (Dk U S io) (io++news) H1,bump:=news,use:=Q2 (x::xs.toList),ids:=io++news++Q54 U io args}).ver id=Da S.ver news id:=fun id=>Rb news S.nv id
   have hH1: ∀(i id:Nat),(io++news)[i]? =some id-> ∃B,H1[i]? =some B:=fun i id hi=>by
    have:=(Z3.1 hi).1
    simp_all
   have hlt: ∀id∈io++news,Dk U S io id<Da S.ver news id:=fun id hi=>by
    by_cases h1:id∈io
    ·obtain⟨B,hB⟩:=hlive id h1;rw[J4 h1 hB];exact Vw (hw.2.2 id B hB).1 (Q86 _ _ _)
    ·rw[Ai3 h1];exact Qh _ ((Mj.1 hi).resolve_left h1)
   generalize hS':(S.app o.dst {v:=res.up U (io++news) (Dk U S io),upd:=Q72 U (Dk U S io) (io++news) H1,bump:=news,use:=Q2 (x::xs.toList),ids:=io++news++Q54 U io args})=S' at hblk hblk0 hver ⊢
   have hctr:S'.ctr=S.ctr:=by rw[←hS'];rfl
   have hevo:Gd S S':=by
    refine⟨by omega,fun id=>by grind [Q86],fun id B' hB' hv=> ?_⟩
    by_cases hi:id∈io++news
    ·obtain⟨i,hi2⟩:=List.getElem?_of_mem hi;obtain⟨B1,hB1⟩:=hH1 i id hi2;rw[hblk i id B1 hi2 hB1]at hB';cases hB';rw[Wo]at hv ⊢;rcases Hn i io.length with hlt|hge
     ·rw[Z15 hlt]at hi2;obtain⟨B,k1,k2⟩:=hkl i id B1 hi2 hB1;refine⟨B,k1,?_,by grind [Wp],fun h=> ?_⟩
      ·exact(J4 (Z6 hi2) k1).symm
      grind [Yj]
     ·exfalso;rw[Vt hge]at hi2
      have hno:id ∉ io:=fun h2=>(List.nodup_append.1 hnd).2.2 id h2 id (Z6 hi2) rfl
      simp_all[Ai3]
    grind
   rw[←hS']at hevo hblk hblk0 hver ⊢;refine hw.app hevo (Ai4 fun c hc=>Al8 fun i v len id e hi=>⟨?_,fun B hB hv=> ?_⟩) fun id B hB2=> ?_
   ·grind
   ·obtain⟨B1,hB1⟩:=hH1 i id hi;rw[hblk i id B1 hi hB1]at hB;cases hB;rw[Wp];exact hres c hc i v len e B1 hB1
   ·by_cases hi:id∈io++news
    ·right;obtain⟨i,hi2⟩:=List.getElem?_of_mem hi;obtain⟨B1,hB1⟩:=hH1 i id hi2;rw[hblk i id B1 hi2 hB1]at hB2;cases hB2;refine⟨by grind [Wo],?_⟩
     have hb:=Z1.1 hB B1 (Z6 hB1);cases B1 with
     |rows v t d c l=>trivial
     |box v cs=>
      intro c hc
      have:=Z1.1 hb c hc;simp only[Z4]at this;exact Q49 this.1.1 this.1.2
     |arr v n t l=>cases hb
     |opn v t d q l g i cs=>cases hb
    grind
 ·cases h
theorem Ab5 (hU:Ab U)(hw:A4 S τ){Γ:List (Nat×Fh U)}(hΓ: ∀f c,lk Γ f=some c->Fh.Ok U F.P f c∧Ei F.P f){o:Oper}{rest:List Oper}{x:Operand}{xs:Array Operand}{ats:Array TypeId}{α:Type}{k:Ai U.D->Option α}{r:α}
  (ho:o.op= .call ⟨.value x,xs,ats⟩) (h:Aax U T Γ S o.dst rest x xs ats k=some r):Bq U F T S τ o k r:=by
 unfold Aax at h;split at h
 ·rename_i f caps rs ex;split at h
  ·rename_i sg m ef;obtain⟨hc,hf⟩:=hΓ f _ ef;split at h
   ·rename_i e1;simp only[Z4]at e1;generalize Wc [] (Xx U sg.ps (callArgs U T S caps rs (xs.toList.zip ats.toList)))=io at h;unfold Aaw at h;split at h
    ·rename_i H0 e2 e3
     have hargs:=hw.callArgs (T:=T) caps rs (xs.toList.zip ats.toList);obtain⟨hb1,hb2⟩:=L8 hU (lent:=true) (io0:=[]) (L:=io) _ e2 (fun id hi=>hi);obtain⟨mm,g1,g2⟩:=Afl hU sg.ps _ 0 m [] [] (by simp) hc (fun a ha c hcc i v len e B hB=>by
      obtain⟨a0,ha0,rfl⟩:=Ey.1 ha
      have: ∃c0∈a0.cells,c0.low U sg.lend io S=c∨c= .undef:=by
       cases a0 with
       |c v0=>exact⟨v0,by simp[SA.cells],.inl (Pz.1 hcc).symm⟩
       |g cs=>
        obtain⟨c0,h1,h2⟩:=Ey.1 hcc;exact⟨c0,h1,.inl h2⟩
       |t xs2=>
        have:=Z1.1 e3 _ (List.mem_map_of_mem ha0);cases this
      obtain⟨c0,h1,h2⟩:=this;rcases h2 with h2|h2
      ·subst e;obtain⟨id,ver,C,rfl,k2,k3,k4⟩:=Afm h2;obtain⟨C',b,k5,k6,k7⟩:=hb2 i id (Q27 k2);rw[hB]at k6;cases k6;rw[k3]at k5;cases k5;rw[←k7];exact(Q51 (hargs a0 ha0) _ h1).2 C k3 k4
      grind) h
     cases mm with
     |none=>cases g1
     |some q=>
      exact Uy hU hw hf ho (Ek ex (by simp) rfl) (Ux (Z2 e1.1) e1.2) hargs e3 e2 (Uu _ _ _) (g2 q rfl) (Afp hU sg q) g1
    ·cases h
   ·cases h
  ·cases h
 ·cases h
end
end Go.Eng
namespace Go.Eng
section
variable {U:Un} {T:Tab} {F:Fr} {S:SS U.D} {τ:Nat->Int} {o:Oper} {α β:Type} {k:Ai U.D->Option α} {r:α}
structure Nt (U:Un)(T:Tab)(P:Program){α:Type}(X:Ox U α):Prop where
 Γ: ∀f c,lk X.Γ f=some c->Fh.Ok U P f c∧Ei P f
 eq:Aa8 P T X.eqOk
 ov: ∀d l,lk X.ov d=some l-> ∀f c,lk l f=some c->Fh.Ok U P f c∧Ei P f
theorem Yl{α:Type}: ∀(a b:List (Nat×α)) (n:Nat) {v:α},lk (a++b) n=some v->lk a n=some v∨lk b n=some v:=by
 intro a
 induction a with
 |nil=>grind
 |cons x r ih=>
  intro b n v h;obtain⟨k,u⟩:=x;rw[Z45,Sz]at h;rw[Sz]
  grind
theorem Nt.all{P:Program}{X:Ox U α}(hX:Nt U T P X)(dst:Option Tmp): ∀f c,lk (ovG U X dst) f=some c->Fh.Ok U P f c∧Ei P f:=by
 intro f c h;unfold ovG at h;split at h
 ·split at h
  all_goals grind [Yl,ov,Γ]
 grind [Γ]
theorem Ab6 (hU:Ab U)(hw:A4 S τ){X:Ox U α}(hX:Nt U T F.P X){rest:List Oper}(h:stp U T X S rest o k=some r):Bq U F T S τ o k r:=by
 unfold stp at h;split at h
 ·grind [Rj]
 ·rename_i x ho;exact Rj hw (.inr ho) h
 ·grind [Aa7]
 ·rename_i op t x y ty ho;split at h
  ·exact Aa9 hw hX.eq ho h
  grind [Afa]
 ·grind [Aip]
 ·grind [Aba]
 ·grind [X4]
 ·grind [Abb]
 ·grind [Uk]
 ·grind [Abf]
 ·grind [X7]
 ·grind [Ya]
 ·grind [Afg]
 ·grind [Afb]
 ·grind [Yb]
 ·grind [Ul]
 ·grind [Uo]
 ·grind [Yf]
 ·grind [Yc]
 ·grind [Abq]
 ·rename_i c ho;obtain⟨callee,args,argTypes⟩:=c;simp only at h;split at h
  ·rename_i x t e2 e3
   have e2:args= #[x]:=Array.toList_inj.1 e2
   have e3:argTypes= #[t]:=Array.toList_inj.1 e3
   grind [Afh]
  ·rename_i x y t t' e2 e3
   have e2:args= #[x,y]:=Array.toList_inj.1 e2
   have e3:argTypes= #[t,t']:=Array.toList_inj.1 e3
   grind [Nat.eq_of_beq_eq_true,Uq]
  ·rename_i x y t t' e2 e3
   have e2:args= #[x,y]:=Array.toList_inj.1 e2
   have e3:argTypes= #[t,t']:=Array.toList_inj.1 e3
   grind [Abx]
  ·rename_i x y e2
   have e2:args= #[x,y]:=Array.toList_inj.1 e2;subst e2;exact Js (mx:=false) hw ho h
  ·rename_i x y e2
   have e2:args= #[x,y]:=Array.toList_inj.1 e2;subst e2;exact Js (mx:=true) hw ho h
  ·exact Ab5 hU hw (hX.all o.dst) ho h
  ·cases h
 ·cases h
end
end Go.Eng
namespace Go.Eng
section
variable {F:Fr} {S:St} {a:Act} {w:World} {σ:Nat->List Nat} {β:Nat->Option (Nat×Nat×Nat)}
def C4 (P:Nat->Bool)(id:Nat):List Nat->List Nat
 |i::k::j::r=>if i=id∧P j=true then []else i::k::j::r
 |s=>s
theorem Nu{P:Nat->Bool}{id:Nat}{p:List Nat}(h: ∀i r,p=i::r->i≠id):C4 P id p=p:=by
 unfold C4;split
 ·rename_i i k j r;rw[if_neg (fun e=>h i _ rfl e.1)]
 ·rfl
def Ds (P:Nat->Bool)(xs:List (List V)):List (List V):=xs.map fun x=>x.mapIdx fun j v=>bif P j then v.share else v
theorem Am.shal (hs:Am F S a w σ β)(P:Nat->Bool){id:Nat}{B:Blk}(hB:S.H id=some B)(hcl:allClosed B=true):Am F ⟨S.env,Aa S.H id (some ⟨B.ver,B.es,Ds P B.xs⟩),S.nv⟩ a w (fun b=>C4 P id (σ b)) β:=by
 have hid0:id≠0:=by rintro rfl;have h0:S.H 0=none:=hs.hr.far;rw[h0]at hB;cases hB
 have hext:Ky (S.cx w σ β) ((⟨S.env,Aa S.H id (some ⟨B.ver,B.es,Ds P B.xs⟩),S.nv⟩:St).cx w (fun b=>C4 P id (σ b)) β):=by
  refine⟨fun i=>Z9 _,fun i B' h _=> ?_⟩
  have h':Aa S.H id (some ⟨B.ver,B.es,Ds P B.xs⟩) i=some B':=h
  by_cases e:i=id
  ·subst e;rw[Q1]at h';cases h';exact⟨B,hB,rfl,rfl,by simp[Ds],rfl⟩
  ·rw[Q0 _ _ e]at h';exact⟨B',h',rfl,rfl,rfl,rfl⟩
 have hnear: ∀p:List Nat,(∀r,p++r≠[]->p≠[]->C4 P id (p++r)=p++r)->Cv w σ w (fun b=>C4 P id (σ b)) p:=by
  intro p hp b _ hc;refine⟨rfl,?_⟩
  show C4 P id (σ b)=σ b;rcases hc with hc|⟨h1,r,h2⟩
  ·rw[hc];rfl
  ·rw[←h2];exact hp r (by simp[h1]) h1
 have hn1: ∀i,i≠id->Cv w σ w (fun b=>C4 P id (σ b)) [i]:=fun i hi=>hnear [i] fun r _ _=>Nu fun i' r' e=>by cases e;exact hi
 refine⟨⟨?_,fun i B' h=> ?_,fun b hb=> ?_⟩,hs.mpos,⟨hs.kp.os,hs.kp.tape,hs.kp.output,hs.kp.size,hs.kp.heap,fun b hb hc=> ?_⟩,hs.inn,fun t=>(hs.env t).mono hext (hnear [] fun r _ h=>absurd rfl h)⟩
 ·exact(Q0 _ _ (fun h=>hid0 h.symm)).trans hs.hr.far
 ·have h':Aa S.H id (some ⟨B.ver,B.es,Ds P B.xs⟩) i=some B':=h
  by_cases e:i=id
  ·subst e;rw[Q1]at h';cases h';obtain⟨hver,hBR⟩:=hs.hr.blk i B hB;refine⟨hver,?_⟩;cases eb:β i with
   |none=>
    have:=hBR.void eb;exact .mk_void eb (by rw[this];rfl)
   |some q=>
    obtain⟨b,o,n⟩:=q;obtain⟨q1,q2,q3,arr,T,q4,q5,q6⟩:=hBR.some eb
    have q1:σ b=[i]:=q1;refine .mk eb ⟨by show C4 P i (σ b)=[i];rw[q1];rfl,?_,by simpa[Ds]using q3,arr,T,q4,q5,fun k j x v hk hj=> ?_⟩
    ·intro x hx;obtain⟨x0,g1,rfl⟩:=Ey.1 hx;simpa using q2 x0 g1
    ·simp only[Ds]at hk;rw[Dv]at hk;obtain⟨x0,g1,rfl⟩:=Z5.1 hk;rw[List.getElem?_mapIdx]at hj;obtain⟨v0,g2,rfl⟩:=Z5.1 hj;obtain⟨c,g3,g4⟩:=q6 k j x0 v0 g1 g2;refine⟨c,g3,?_⟩;cases hP:P j with
     |false=>exact g4.mono hext (hnear [i,k,j] fun r _ _=>by simp[C4,hP])
     |true=>
      refine .c ?_
      have hc0:=Z1.1 (Z1.1 hcl x0 (Z6 g1)) v0 (Z6 g2);refine(g4.rc hc0).share (fun b' hb' hor=> ?_) _
      show C4 P i (σ b')=[];rcases hor with hor|⟨_,r,hr⟩
      ·have hor:σ b'=[]:=hor;rw[hor];rfl
      ·have hr:[i,k,j]++r=σ b':=hr;rw[←hr];simp[C4,hP]
  ·rw[Q0 _ _ e]at h';obtain⟨h1,h2⟩:=hs.hr.blk i B' h';exact⟨h1,h2.mono hext rfl (hn1 i e)⟩
 ·show C4 P id (σ b)=[];rw[show σ b=[] from hs.hr.new b hb];rfl
 ·show C4 P id (σ b)=F.σ0 b;rw[hs.kp.free b hb hc];rcases hc with hc|hc
  ·rw[hc];rfl
  ·rw[hc];rfl
theorem J5 (xs:List (List V)):Ds (fun _=>true) xs=shareLL xs:=by
 unfold Ds;rw[Q13];exact Fk fun x _=>List.ext_getElem? fun i=>by simp
def Afq (id:Nat):V->Bool
 | .ptr i _ _ _=>Nat.beq i id
 |_=>false
def V.fgt (id:Nat):V->V
 | .ptr i ver k j=>bif Nat.beq i id then .undef else .ptr i ver k j
 | .fn f caps=>bif caps.any (Afq id)then .undef else .fn f caps
 |v=>v
def A.fgt (id:Nat):A->A
 | .c v=> .c (v.fgt id)
 | .g cs=> .g (cs.map (V.fgt id))
 | .t xs=> .t xs
def Blk.fgt (id:Nat)(B:Blk):Blk:=⟨B.ver,B.es,B.xs.map fun x=>x.map (V.fgt id)⟩
def St.fgt (S:St)(id:Nat):St:=⟨fun t=>(S.env t).fgt id,fun i=>(S.H i).map (Blk.fgt id),S.nv⟩
theorem Ai5 (id:Nat)(v:V):v.fgt id=v∨v.fgt id= .undef:=by
 cases v with
 |ptr i ver k j=>grind [V.fgt]
 |fn f caps=>grind [V.fgt]
 |_=>exact .inl rfl
theorem RV.fgt{E E':Cx}{p:List Nat}{v:V}{c:Value}(h:RV E p v c)(id:Nat)(hx:Ky E E')(hn:Cv E.w E.σ E'.w E'.σ p):RV E' p (v.fgt id) c:=by
 rcases Ai5 id v with e|e
 ·grind [mono]
 ·rw[e];exact .undef _ _
theorem Am.fgt (hs:Am F S a w σ β)(id:Nat):Am F (S.fgt id) a w σ β:=by
 have hext:Ky (S.cx w σ β) ((S.fgt id).cx w σ β):=by
  refine⟨fun i=>Z9 _,fun i B' h _=> ?_⟩
  have h':(S.H i).map (Blk.fgt id)=some B':=h;obtain⟨B,h1,rfl⟩:=Z5.1 h';exact⟨B,h1,rfl,rfl,by simp[Blk.fgt],rfl⟩
 have hnear: ∀p:List Nat,Cv w σ w σ p:=fun p b _ _=>⟨rfl,rfl⟩;refine⟨⟨?_,fun i B' h=> ?_,hs.hr.new⟩,hs.mpos,hs.kp,hs.inn,fun t=> ?_⟩
 ·show(S.H 0).map _=none;rw[show S.H 0=none from hs.hr.far];rfl
 ·have h':(S.H i).map (Blk.fgt id)=some B':=h;obtain⟨B,h1,rfl⟩:=Z5.1 h';obtain⟨hver,hBR⟩:=hs.hr.blk i B h1;refine⟨hver,?_⟩;cases eb:β i with
  |none=>
   have:=hBR.void eb;exact .mk_void eb (by simp[Blk.fgt,this])
  |some q=>
   obtain⟨b,o,n⟩:=q;obtain⟨q1,q2,q3,arr,T,q4,q5,q6⟩:=hBR.some eb;refine .mk eb ⟨q1,?_,by grind [Blk.fgt],arr,T,q4,q5,fun k j x v hk hj=> ?_⟩
   ·simp_all[Blk.fgt]
   ·simp only[Blk.fgt,Dv]at hk;obtain⟨x0,g1,rfl⟩:=Z5.1 hk;rw[Dv]at hj;obtain⟨v0,g2,rfl⟩:=Z5.1 hj;obtain⟨c,g3,g4⟩:=q6 k j x0 v0 g1 g2;exact⟨c,g3,g4.fgt id hext (hnear _)⟩
 ·have:=hs.env t
  show RA _ ((S.env t).fgt id) _;cases hx:S.env t with
  |c v=>rw[hx]at this;cases this with|c h=>exact .c (h.fgt id hext (hnear _))
  |g cs=>
   rw[hx]at this;generalize a.tmps.getD t undef=c0 at this;cases this with
   |g _ arr hsz h=>
    refine .g _ _ (by grind) fun i v hi=> ?_
    rw[Dv]at hi;obtain⟨v0,h3,rfl⟩:=Z5.1 hi;obtain⟨c,h1,h2⟩:=h i v0 h3;exact⟨c,h1,h2.fgt id hext (hnear _)⟩
  |t xs=>
   rw[hx]at this;exact this.mono hext (hnear _)
def A.cold:A->A
 | .c v=> .c v.cold
 | .g cs=> .g (cs.map V.cold)
 |x=>x
theorem RA.cold{E:Cx}{x:A}{c:Value}(h:RA E x c):RA E x.cold c:=by
 cases h with
 |c h=>exact .c h.cold
 |g cs arr hsz h=>
  refine .g _ _ (by grind) fun i v hi=> ?_
  rw[Dv]at hi;obtain⟨v0,h3,rfl⟩:=Z5.1 hi
  grind [RV.cold]
 |t xs arr cv hs h1 h2=>exact .t _ _ _ hs h1 h2
theorem Am.coldE (hs:Am F S a w σ β)(t:Nat):Am F ⟨Aa S.env t (S.env t).cold,S.H,S.nv⟩ a w σ β:=by
 refine⟨hs.hr,hs.mpos,hs.kp,hs.inn,fun t'=> ?_⟩
 show RA (S.cx w σ β) (Aa S.env t (S.env t).cold t') _
 by_cases e:t'=t
 all_goals grind [Q1,RA.cold,env,Q0]
end
def Dc (F:Fr)(S S':St):Prop:= ∀(a:Act) (w:World),RS F S a w->RS F S' a w
theorem Dc.refl{F:Fr}(S:St):Dc F S S:=fun _ _ h=>h
theorem Dc.trans{F:Fr}{S S' S'':St}(h:Dc F S S')(h':Dc F S' S''):Dc F S S'':=fun a w hs=>h' a w (h a w hs)
end Go.Eng
namespace Go.Eng
section
variable {U:Un} {T:Tab} {F:Fr} {S S':SS U.D} {τ:Nat->Int} {α:Type} {k:SS U.D->Option α} {r:α}
def Go1 (F:Fr)(S S':SS U.D):Prop:=Dc F (S.toSt U) (S'.toSt U)∧WF S'
theorem Gr (he:Fl F T){nid:Nat}(h:Nat.ble 100 nid=true):F.m≤nid:=by have:=Ex h;grind [Fl.m]
theorem K7{a b:Nat}(h:Nat.beq a b=false):a≠b:=by rintro rfl;simp at h
theorem A4.upHs (h:A4 S τ){l:List (Nat×Option (SB U.D))}(e:Gd S (Gn U S l))(hb: ∀id B,(Gn U S l).blk id=some B->S.blk id=some B∨(B.ver<S.ver id∧B.ok (Gn U S l) τ)):A4 (Gn U S l) τ:=by
 refine⟨h.1,fun t v ht=>(h.2.1 t v ht).mono e,fun id B hB=> ?_⟩;rcases hb id B hB with h1|h1
 ·exact⟨(h.2.2 id B h1).1,(h.2.2 id B h1).2.mono e⟩
 ·exact h1
theorem Q87 (id:Nat)(b:Option (SB U.D))(i:Nat):(Gn U S [(id,b)]).blk i=if i=id then b else S.blk i:=Ra _ _ _ _ _ _ _
theorem Ab7{id:Nat}{B B':SB U.D}(hB:S.blk id=some B)(h1:B'.ver=B.ver)(h2:B'.len=B.len)(h3:B'.clean=false):Gd S (Gn U S [(id,some B')]):=by
 refine⟨Z9 _,fun _=>Z9 _,fun i C hC _=> ?_⟩;rw[Q87]at hC
 grind
theorem A4.upH1 (h:A4 S τ){id:Nat}{B B':SB U.D}(hB:S.blk id=some B)(h1:B'.ver=B.ver)(h2:B'.len=B.len)(h3:B'.clean=false)(h4:B'.ok S τ):A4 (Gn U S [(id,some B')]) τ:=by
 have e:=Ab7 hB h1 h2 h3;refine h.upHs e fun i C hC=> ?_;rw[Q87]at hC;split at hC
 ·rename_i e2;cases hC;subst e2;exact .inr ⟨by rw[h1];exact(h.2.2 _ B hB).1,h4.mono e⟩
 grind
theorem Rx (h1: ∀t,((S.get t).toA U)=((S'.get t).toA U))(h2: ∀i,(S.blk i).map (SB.toB U)=(S'.blk i).map (SB.toB U))(h3: ∀i,S.ver i=S'.ver i):S.toSt U=S'.toSt U:=St.Sim.eq ⟨h1,h2,h3⟩
theorem J6 (x:Nat)(v:SA U.D)(e:List (Nat×SA U.D))(H:List (Nat×Option (SB U.D)))(nv:List (Nat×Nat))(c t:Nat):(⟨(x,v)::e,H,nv,c⟩:SS U.D).get t=if t=x then v else(⟨e,H,nv,c⟩:SS U.D).get t:=by
 simp only[SS.get,Sz]
 grind
theorem Afr{id nid:Nat}{B B' N:SB U.D}(hne:id≠nid)(hB:S.blk id=some B)(h1:B'.ver=B.ver)(h2:B'.len=B.len)(h3:B'.clean=false)(h4:N.ver=S.ver nid):
  Gd S (S.app none {v:= .c .undef,upd:=[(nid,some N),(id,some B')],bump:=[nid]})∧ ∀i,(S.app none {v:= .c .undef,upd:=[(nid,some N),(id,some B')],bump:=[nid]}).blk i=if i=id then some B' else if i=nid then some N else S.blk i:=by
 have hb: ∀i,(S.app none {v:= .c .undef,upd:=[(nid,some N),(id,some B')],bump:=[nid]}).blk i=if i=id then some B' else if i=nid then some N else S.blk i:=fun i=>by
  show(⟨S.env,(id,some B')::(nid,some N)::S.H,_,S.ctr⟩:SS U.D).blk i=_;rw[Ra,Ra];rfl
 refine⟨⟨Z9 _,fun i=> ?_,fun i C hC hlt=> ?_⟩,hb⟩
 ·rw[X6];grind
 grind
theorem Wr (hw:A4 S τ){id nid:Nat}{B B' N:SB U.D}(hne:id≠nid)(hB:S.blk id=some B)(h1:B'.ver=B.ver)(h2:B'.len=B.len)(h3:B'.clean=false)(h4:N.ver=S.ver nid)(hN:N.ok S τ)
  (hok:B'.ok (S.app none {v:= .c .undef,upd:=[(nid,some N),(id,some B')],bump:=[nid]}) τ):A4 (S.app none {v:= .c .undef,upd:=[(nid,some N),(id,some B')],bump:=[nid]}) τ:=by
 obtain⟨e,hb⟩:=Afr hne hB h1 h2 h3 h4;refine hw.app e trivial fun i C hC=> ?_;rw[hb]at hC;split at hC
 ·rename_i e2;cases hC;subst e2;refine .inr ⟨?_,hok⟩;rw[X6,if_neg hne,h1];exact(hw.2.2 _ B hB).1
 ·split at hC
  ·rename_i e2;cases hC;subst e2;refine .inr ⟨?_,hN.mono e⟩
   simp_all[X6]
  grind
theorem Mb{id nid:Nat}{B B' N:SB U.D}(hne:id≠nid)(hB:S.blk id=some B)(h1:B'.ver=B.ver)(h2:B'.len=B.len)(h3:B'.clean=false)(h4:N.ver=S.ver nid):
  (SV.own nid (S.ver nid) N.len:SV U.D).ok (S.app none {v:= .c .undef,upd:=[(nid,some N),(id,some B')],bump:=[nid]}) τ:=by
 obtain⟨e,hb⟩:=Afr hne hB h1 h2 h3 h4;refine⟨by simp_all[X6],fun C hC _=> ?_⟩
 grind
theorem Afs (he:Fl F T)(hw:A4 S τ){id j nid:Nat}(h:(Cmd.take id j nid).run U T S k=some r): ∃S',k S'=some r∧Go1 F S S':=by
 simp only[Cmd.run]at h;split at h
 ·rename_i ver cs e1;split at h
  ·rename_i t d l e2;split at h
   ·rename_i e3;simp only[Z4,Z44]at e3
    have hne:=K7 e3.2;refine⟨_,h,?_,τ,?_⟩
    ·rintro a w ⟨hd,hsz,σ,β,hs⟩;obtain⟨σ',β',hs'⟩:=hs.takeN (k:=0) (x:=cs.map (SV.toV U)) (j:=j) (e:=U.sz t) (ys:=l.map (U.eT d t)) (nid:=nid) (Ac e1) rfl (by rw[Dv,e2];rfl) (Gr he e3.1) hne
     refine⟨hd,hsz,σ',β',?_⟩
     have:=Q81 S none {v:= .c .undef,upd:=[(nid,some (.rows (S.ver nid) t d true l)),(id,some (.box ver (cs.set j (.own nid (S.ver nid) l.length))))],bump:=[nid]};refine Eq.mp (congrArg (fun X=>Am F X a w σ' β') (Eq.trans ?_ this.symm)) hs'
     show(⟨_,_,_⟩:St)=⟨_,_,_⟩;simp only[Hm,Ai.toRec,St.app,Z8,P3,Vv,SB.toB,List.map_set,Z49,SV.toV];rfl
    ·refine Wr hw hne e1 rfl rfl rfl rfl trivial ?_;intro c hc;rcases Z54 hc with hc|rfl
     ·exact((hw.2.2 id _ e1).2 c hc).mono (Afr (B':= .box ver (cs.set j (.own nid (S.ver nid) l.length))) (N:= .rows (S.ver nid) t d true l) hne e1 rfl rfl rfl rfl).1
     ·exact Mb (N:= .rows (S.ver nid) t d true l) hne e1 rfl rfl rfl rfl
   ·cases h
  ·exact⟨S,h,Dc.refl _,τ,hw⟩
  ·cases h
 ·cases h
theorem Ab8 (he:Fl F T)(hw:A4 S τ){id j nid:Nat}(h:(Cmd.takeE id j nid).run U T S k=some r): ∃S',k S'=some r∧Go1 F S S':=by
 simp only[Cmd.run]at h;split at h
 ·rename_i ver t0 d0 dirty l0 g i cs e1;obtain⟨hi,htag,hcs,hlen,horig⟩:=(hw.2.2 id _ e1).2;split at h
  ·rename_i t d l e2;split at h
   ·rename_i e3;simp only[Z4,Z44]at e3
    have hne:=K7 e3.2;refine⟨_,h,?_,τ,?_⟩
    ·rintro a w ⟨hd,hsz,σ,β,hs⟩;obtain⟨σ',β',hs'⟩:=hs.takeN (k:=i.toNat) (x:=cs.map (SV.toV U)) (j:=j) (e:=U.sz t) (ys:=l.map (U.eT d t)) (nid:=nid) (Ac e1) (by grind) (by rw[Dv,e2];rfl) (Gr he e3.1) hne
     refine⟨hd,hsz,σ',β',?_⟩
     have:=Q81 S none {v:= .c .undef,upd:=[(nid,some (.rows (S.ver nid) t d true l)),(id,some (.opn ver t0 d0 dirty l0 g i (cs.set j (.own nid (S.ver nid) l.length))))],bump:=[nid]};refine Eq.mp (congrArg (fun X=>Am F X a w σ' β') (Eq.trans ?_ this.symm)) hs'
     show(⟨_,_,_⟩:St)=⟨_,_,_⟩;simp only[Hm,Ai.toRec,St.app,Z8,P3,Vv,SB.toB,List.map_set,Z49,SV.toV,List.set_set];rfl
    ·have hev:=(Afr (B':= .opn ver t0 d0 dirty l0 g i (cs.set j (.own nid (S.ver nid) l.length))) (N:= .rows (S.ver nid) t d true l) hne e1 rfl rfl rfl rfl);refine Wr hw hne e1 rfl rfl rfl rfl trivial ⟨hi,htag.mono hev.1.ctr,fun c hc=> ?_,by grind,fun hq j' c hc=> ?_⟩
     ·rcases Z54 hc with hc|rfl
      ·exact(hcs c hc).mono hev.1
      ·exact Mb (N:= .rows (S.ver nid) t d true l) hne e1 rfl rfl rfl rfl
     ·rw[Z41]at hc;split at hc
      ·rename_i ej;subst ej;split at hc
       ·cases hc;refine .inr ⟨nid,S.ver nid,l.length,rfl,fun t' d' l' hB=> ?_⟩;rw[hev.2,if_neg (fun h=>hne h.symm),if_pos rfl]at hB;cases hB;rcases horig hq j _ e2 with h1|⟨_,_,_,h1,_⟩
        all_goals grind
       grind
      ·exact(horig hq j' c hc).mono (hcs c (Z6 hc)) hev.1
   ·cases h
  ·exact⟨S,h,Dc.refl _,τ,hw⟩
  ·cases h
 ·cases h
theorem A4.tick (hw:A4 S τ)(i:Int):A4 (⟨S.env,S.H,S.nv,S.ctr+1⟩:SS U.D) (fun g=>if g=2*S.ctr+1 then i else τ g):=by
 have key: ∀ {g:Nat} {n:Int},Dm S.ctr τ g n->Dm (S.ctr+1) (fun g=>if g=2*S.ctr+1 then i else τ g) g n:=by
  intro g n h hg;obtain⟨h1,h2⟩:=h hg
  grind
 have kv: ∀ {v:SV U.D},v.ok S τ->v.ok (⟨S.env,S.H,S.nv,S.ctr+1⟩:SS U.D) (fun g=>if g=2*S.ctr+1 then i else τ g):=by
  intro v h;cases v with
  |int k n g=>exact key h
  |ptrE id ver g i j=>exact⟨key h.1,h.2⟩
  |_=>exact h
 refine⟨fun n=> ?_,fun t v ht=> ?_,fun id B hB=>⟨(hw.2.2 id B hB).1,?_⟩⟩
 ·have:2*n+2≠2*S.ctr+1:=by omega
  simp only[if_neg this];exact hw.1 n
 ·have:=hw.2.1 t v ht;cases v with
  |c v=>exact kv this
  |g cs=>exact fun c hc=>kv (this c hc)
  |t xs=>exact fun x hx c hc=>kv (this x hx c hc)
 ·have:=(hw.2.2 id B hB).2;cases B with
  |box v cs=>exact fun c hc=>kv (this c hc)
  |opn v t d q l g i cs=>exact⟨this.1,key this.2.1,fun c hc=>kv (this.2.2.1 c hc),this.2.2.2⟩
  |_=>trivial
theorem Ry (hU:Ab U){ver t g:Nat}{d q:Bool}{l:List (U.D t)}{i:Int}(hb:0≤i∧i<(l.length:Int)):(SB.opn ver t d q l g i (U.cells d t (U.gt l i)):SB U.D).toB U=⟨ver,U.sz t,l.map (U.eT d t)⟩:=by
 letI:=U.inh t
 simp only[SB.toB,Rm hU d l i]
 congr 1
 refine List.ext_getElem? fun n=> ?_;rw[Z41];split
 ·rename_i e;subst e;rw[if_pos (by grind)]
  exact(Qk _ hb).symm
 ·rfl
theorem Nv (hU:Ab U){ver t g:Nat}{d:Bool}{l:List (U.D t)}{i:Int}(hb:0≤i∧i<(l.length:Int))(ht:Dm S.ctr τ g i):(SB.opn ver t d false l g i (U.cells d t (U.gt l i)):SB U.D).ok S τ:=
 ⟨hb,ht,Abl hU,hU.cellsLen d t _,fun _ j c h=> .inl h⟩
theorem Ws{x:Nat}{v:SA U.D}{id:Nat}{B B':SB U.D}{c:Nat}(hv:v.toA U=(S.get x).toA U)(hB:S.blk id=some B)(hBB:B'.toB U=B.toB U):(⟨(x,v)::S.env,(id,some B')::S.H,S.nv,c⟩:SS U.D).toSt U=S.toSt U:=by
 refine Rx (fun t=> ?_) (fun i=> ?_) (fun i=>rfl)
 ·rw[J6];split
  ·grind
  ·rfl
 ·rw[Ra];split
  ·grind
  ·rfl
theorem Rz{id:Nat}{B B':SB U.D}(hB:S.blk id=some B)(hBB:B'.toB U=B.toB U):(Gn U S [(id,some B')]).toSt U=S.toSt U:=by
 refine Rx (fun t=>rfl) (fun i=> ?_) (fun i=>rfl);rw[Q87]
 grind
theorem Aft (hU:Ab U)(hw:A4 S τ){id:Nat}{ix:Operand}(h:(Cmd.opn id ix).run U T S k=some r): ∃S',k S'=some r∧Go1 F S S':=by
 simp only[Cmd.run]at h;split at h
 ·rename_i ver t d c l kd i g e1 e2;split at h
  ·rename_i hb;split at h
   ·rename_i x;refine⟨_,h,?_,fun g=>if g=2*S.ctr+1 then i else τ g,?_⟩
    ·rw[Ws (v:= .c (.int kd i (2*S.ctr+1))) (by have e2:S.get x=_:=e2;rw[e2];rfl) e1 (Ry hU hb)]
     exact Dc.refl _
    ·have h1:=hw.tick i
     have htag:Dm (S.ctr+1) (fun g=>if g=2*S.ctr+1 then i else τ g) (2*S.ctr+1) i:=fun _=>⟨by simp,.inr (by omega)⟩
     exact h1.chg (dst:=some x) (v:= .c (.int kd i (2*S.ctr+1))) (use:=[]) (ids:=[]) (id:=id) (B:= .rows ver t d c l) e1 rfl rfl rfl htag (Nv hU hb htag)
   ·cases h
   ·rename_i g' _
    have hv:=hw.val (T:=T) 0 ix;rw[e2]at hv;refine⟨_,h,?_,τ,hw.upH1 e1 rfl rfl rfl (Nv hU hb hv)⟩;rw[Rz e1 (Ry hU hb)];exact Dc.refl _
  ·cases h
 ·exact⟨S,h,Dc.refl _,τ,hw⟩
 ·cases h
theorem Afu (hU:Ab U)(hw:A4 S τ){id x:Nat}(h:(Cmd.opp id x).run U T S k=some r): ∃S',k S'=some r∧Go1 F S S':=by
 simp only[Cmd.run]at h;split at h
 ·rename_i id' ver g i j e1
  have hv:=hw.get x;rw[e1]at hv;split at h
  ·rename_i ver' t d c l e2;split at h
   ·rename_i e3;simp only[Z4]at e3
    have h1:=Z2 e3.1
    have h2:=Z2 e3.2;subst h1;subst h2
    have hb:0≤i∧i<(l.length:Int):=hv.2.2 _ e2 rfl;split at h
    ·refine⟨_,h,?_,fun g=>if g=2*S.ctr+1 then i else τ g,?_⟩
     ·rw[Ws (v:= .c (.ptrE id ver (2*S.ctr+1) i j)) (by rw[e1];rfl) e2 (Ry hU hb)]
      exact Dc.refl _
     ·have h1:=hw.tick i
      have htag:Dm (S.ctr+1) (fun g=>if g=2*S.ctr+1 then i else τ g) (2*S.ctr+1) i:=fun _=>⟨by simp,.inr (by omega)⟩
      exact h1.chg (dst:=some x) (v:= .c (.ptrE id ver (2*S.ctr+1) i j)) (use:=[]) (ids:=[]) (id:=id) (B:= .rows ver t d c l) e2 rfl rfl rfl ⟨htag,hv.2⟩ (Nv hU hb htag)
    ·refine⟨_,h,?_,τ,hw.upH1 e2 rfl rfl rfl (Nv hU hb hv.1)⟩;rw[Rz e2 (Ry hU hb)];exact Dc.refl _
   ·cases h
  ·exact⟨S,h,Dc.refl _,τ,hw⟩
  ·cases h
 ·cases h
end
end Go.Eng
namespace Go.Eng
section
variable {U:Un} {T:Tab} {F:Fr} {S S':SS U.D} {τ:Nat->Int} {α:Type} {k:SS U.D->Option α} {r:α}
theorem Q66{v w:SV U.D}{is:List Nat}{b:Bool}(h:Hy U S v=some (w,is,b)):
  (∃nid ver n t d cl l,v= .own nid ver n∧S.blk nid=some (.rows ver t d cl l)∧w= .rowT t d l∧is=[nid]∧b= !cl)∨((∀nid ver n,v≠ .own nid ver n)∧w=v∧is=[]∧b=false):=by
 cases v with
 |own nid ver n=>
  left;simp only[Hy]at h;split at h
  ·rename_i ver' t d cl l e1;split at h
   ·rename_i e2
    have:=Z2 e2
    grind
   ·cases h
  ·cases h
 |_=>right;cases h;grind
theorem Q38{v:SV U.D}{r cs':List (SV U.D)}{ids:List Nat}{ch:Bool}(h:putCells U S (v::r)=some (cs',ids,ch)):
  ∃w is b ws is' c,Hy U S v=some (w,is,b)∧putCells U S r=some (ws,is',c)∧cs'=w::ws∧ids=is++is'∧ch=(b||c):=by
 simp only[putCells]at h
 grind
theorem Ab9{β:Type}{l:List β}{n:Nat}{x:β}(h:l[n]? =some x):l.set n x=l:=by
 refine List.ext_getElem? fun m=> ?_
 grind
theorem Afv{β:Type}(p r:List β)(x y:β):(p++x::r).set p.length y=(p++[y])++r:=by
 grind
theorem Ama (hU:Ab U){id kk ver es:Nat}{a:Act}{w:World}{β:Nat->Option (Nat×Nat×Nat)}: ∀(cs pre cs':List (SV U.D)) (ids:List Nat) (ch:Bool) (xs:List (List V)) (S0:St) (σ:Nat->List Nat),S0.H id=some ⟨ver,es,xs⟩->xs[kk]? =some ((pre++cs).map (SV.toV U))->putCells U S cs=some (cs',ids,ch)→
  ids.Nodup->(∀i∈ids,F.m≤i)->id ∉ ids->(∀i∈ids,S0.H i=(S.blk i).map (SB.toB U))->(∀c∈cs,c.ok S τ)->Am F S0 a w σ β→
  ∃σ',Am F ⟨S0.env,fun i=>if i∈ids then none else if i=id then some ⟨ver,es,xs.set kk ((pre++cs').map (SV.toV U))⟩else S0.H i,S0.nv⟩ a w σ' β:=by
 intro cs
 induction cs with
 |nil=>
  intro pre cs' ids ch xs S0 σ hB hk h _ _ _ _ _ hs;cases h;refine⟨σ,?_⟩
  have:(fun i=>if i∈([]:List Nat)then none else if i=id then some (⟨ver,es,xs.set kk ((pre++[]).map (SV.toV U))⟩:Blk)else S0.H i)=S0.H:=by
   funext i
   simp_all[Ab9]
  simp_all
 |cons v r ih=>
  intro pre cs' ids ch xs S0 σ hB hk h hnd hm hid hH hok hs;obtain⟨w',is,b,ws,is',c,h1,h2,rfl,rfl,_⟩:=Q38 h
  have hkl:kk<xs.length:=(Z3.1 hk).1;rcases Q66 h1 with ⟨nid,ver',n,t,d,cl,l,rfl,e1,rfl,rfl,_⟩|⟨_,rfl,rfl,_⟩
  ·have h7:=hok (.own nid ver' n) (by simp)
   have hn:n=l.length:=h7.2 _ e1 rfl
   have hne:id≠nid:=fun e=>hid (by simp[e])
   have hN:S0.H nid=some ⟨ver',U.sz t,l.map (U.eT d t)⟩:=by rw[hH nid (by simp),e1];rfl
   obtain⟨σ',hs'⟩:=hs.putN (k:=kk) (j:=pre.length) (x:=(pre++SV.own nid ver' n::r).map (SV.toV U)) hB hk (by
    simp_all[SV.toV]) hN (Q42 hU d t ver' l) hne (hm nid (by simp))
   have hset:((pre++SV.own nid ver' n::r).map (SV.toV U)).set pre.length (.row true (U.sz t) (l.map (U.eT d t)))=((pre++[SV.rowT t d l])++r).map (SV.toV U):=by
    rw[←Afv pre r (.own nid ver' n) (.rowT t d l),List.map_set];rfl
   rw[hset]at hs'
   have hd:=List.nodup_append.1 hnd;obtain⟨σ2,g⟩:=ih (pre++[SV.rowT t d l]) ws is' c (xs.set kk (((pre++[SV.rowT t d l])++r).map (SV.toV U))) _ σ' (Q1 _ _ _) (by grind) h2 hd.2.1 (fun i hi=>hm i (by simp[hi])) (fun hi=>hid (by simp[hi]))
    (fun i hi=>by
     show Aa (Aa S0.H nid none) id _ i=_
     have q1:i≠id:=fun e=>hid (by grind)
     have q2:i≠nid:=fun e=>hd.2.2 nid (by simp) i hi e.symm
     grind [Q0]) (fun c hc=>hok c (by simp[hc])) hs'
   refine⟨σ2,?_⟩;refine Eq.mp (congrArg (fun X=>Am F X a w σ2 β) ?_) g
   show(⟨S0.env,_,S0.nv⟩:St)=⟨S0.env,_,S0.nv⟩
   congr 1
   funext i
   rw[List.set_set];simp only[Z31,List.singleton_append,Z45,Z38,Eg]
   by_cases q1:i∈is'
   ·grind
   ·by_cases q2:i=nid
    ·have q3:i≠id:=fun e=>hne (by omega)
     simp_all[Q0,Q1]
    ·have q4: ¬(i=nid∨i∈is'):=fun h=>h.elim q2 q1
     simp_all[Q0]
  ·obtain⟨σ2,g⟩:=ih (pre++[w']) ws is' c xs S0 σ hB (by grind) h2 (by grind) (fun i hi=>hm i (by grind)) (by grind) (fun i hi=>hH i (by grind)) (fun c hc=>hok c (by simp[hc])) hs
   grind
theorem Q80 (id:Nat)(b:Option (SB U.D))(i:Nat): ∀ids:List Nat,(Gn U S (ids.map (fun i=>(i,none))++[(id,b)])).blk i=if i∈ids then none else if i=id then b else S.blk i:=by
 intro ids
 induction ids with
 |nil=>simp_all[Q87]
 |cons x r ih=>
  show(⟨S.env,(x,none)::((r.map (fun i=>(i,none))++[(id,b)])++S.H),S.nv,S.ctr⟩:SS U.D).blk i=_;rw[Ra]
  by_cases h:i=x
  ·grind
  ·rw[if_neg h]
   have:(⟨S.env,((r.map (fun i=>(i,none))++[(id,b)])++S.H),S.nv,S.ctr⟩:SS U.D).blk i=_:=ih
   grind
theorem Nw{id:Nat}{ids:List Nat}{B B':SB U.D}(hB:S.blk id=some B)(h1:B'.ver=B.ver)(h2:B'.len=B.len)(h3:B'.clean=false):Gd S (Gn U S (ids.map (fun i=>(i,none))++[(id,some B')])):=by
 refine⟨Z9 _,fun _=>Z9 _,fun i C hC _=> ?_⟩;rw[Q80]at hC
 grind
theorem Nx (hw:A4 S τ){id:Nat}{ids:List Nat}{B B':SB U.D}(hB:S.blk id=some B)(h1:B'.ver=B.ver)(h2:B'.len=B.len)(h3:B'.clean=false)(h4:B'.ok S τ):A4 (Gn U S (ids.map (fun i=>(i,none))++[(id,some B')])) τ:=by
 have e:=Nw (ids:=ids) hB h1 h2 h3;refine hw.upHs e fun i C hC=> ?_;rw[Q80]at hC;split at hC
 ·cases hC
 ·split at hC
  ·rename_i e2;cases hC;subst e2;exact .inr ⟨by rw[h1];exact(hw.2.2 _ B hB).1,h4.mono e⟩
  grind
theorem Mc{id:Nat}{ids:List Nat}(h:Ly id ids=true):ids.Nodup∧(∀i∈ids,Nat.ble 100 i=true)∧id ∉ ids:=by
 simp only[Ly,Z4,decide_eq_true_eq,Z44]at h
 grind
theorem Uz (hU:Ab U)(he:Fl F T){id kk ver es:Nat}{ids:List Nat}{ch:Bool}{xs:List (List V)}{cs cs':List (SV U.D)}{B B':SB U.D}(hB:S.blk id=some B)(hBx:B.toB U=⟨ver,es,xs⟩)(hk:xs[kk]? =some (cs.map (SV.toV U)))(hput:putCells U S cs=some (cs',ids,ch))(hids:Ly id ids=true)(hok: ∀c∈cs,c.ok S τ)
  (hB':B'.toB U=⟨ver,es,xs.set kk (cs'.map (SV.toV U))⟩):Dc F (S.toSt U) ((Gn U S (ids.map (fun i=>(i,none))++[(id,some B')])).toSt U):=by
 obtain⟨h1,h2,h3⟩:=Mc hids;rintro a w ⟨hd,hsz,σ,β,hs⟩;obtain⟨σ',g⟩:=Ama hU cs [] cs' ids ch xs (S.toSt U) σ (by rw[Ac hB,hBx]) hk hput h1 (fun i hi=>Gr he (h2 i hi)) h3 (fun i _=>rfl) hok hs
 refine⟨hd,hsz,σ',β,?_⟩;refine Eq.mp (congrArg (fun X=>Am F X a w σ' β) ?_) g;refine St.Sim.eq ⟨fun t=>rfl,fun i=> ?_,fun i=>rfl⟩
 show(if i∈ids then none else if i=id then some _ else(S.blk i).map (SB.toB U))=Option.map (SB.toB U) ((Gn U S (ids.map (fun i=>(i,none))++[(id,some B')])).blk i)
 grind [Q80]
theorem Ny: ∀ {cs cs':List (SV U.D)} {ids:List Nat} {ch:Bool},putCells U S cs=some (cs',ids,ch)->cs'.length=cs.length:=by
 intro cs
 induction cs with
 |nil=>intro cs' ids ch h;cases h;rfl
 |cons v r ih=>
  grind [Q38]
theorem R1: ∀ {cs cs':List (SV U.D)} {ids:List Nat} {ch:Bool},putCells U S cs=some (cs',ids,ch)->(∀c∈cs,c.ok S τ)-> ∀c∈cs',c.ok S τ:=by
 intro cs
 induction cs with
 |nil=>intro cs' ids ch h _;cases h;omega
 |cons v r ih=>
  intro cs' ids ch h hok;obtain⟨w',is,b,ws,is',c,h1,h2,rfl,rfl,_⟩:=Q38 h;intro c hc;rcases Eg.1 hc with rfl|hc
  ·rcases Q66 h1 with ⟨nid,ver',n,t,d,cl,l,rfl,e1,rfl,rfl,_⟩|⟨_,rfl,rfl,_⟩
   ·trivial
   grind
  grind
theorem K8: ∀ {cs cs':List (SV U.D)} {ids:List Nat} {ch:Bool},putCells U S cs=some (cs',ids,ch)-> ∀i∈ids,∃v t d cl l,S.blk i=some (.rows v t d cl l):=by
 intro cs
 induction cs with
 |nil=>intro cs' ids ch h;cases h;grind
 |cons v r ih=>
  intro cs' ids ch h i hi;obtain⟨w',is,b,ws,is',c,h1,h2,rfl,rfl,_⟩:=Q38 h;rcases Mj.1 hi with hi|hi
  all_goals grind [Q66]
theorem K9: ∀(cs cells:List (SV U.D)) {cs':List (SV U.D)} {ids:List Nat},cs.length=cells.length->(∀(j:Nat) c,cs[j]? =some c->Un.orig S (cells[j]?) c)->cells.all SV.shut=true->putCells U S cs=some (cs',ids,false)->cs'=cells:=by
 intro cs
 induction cs with
 |nil=>
  intro cells cs' ids hl _ _ h;cases h
  grind
 |cons v r ih=>
  intro cells cs' ids hl ho hsh h;obtain⟨w',is,b,ws,is',c,h1,h2,rfl,rfl,hbc⟩:=Q38 h
  have hb:b=false:=by
   grind
  have hc:c=false:=by
   grind
  subst hb;subst hc;cases cells with
  |nil=>cases hl
  |cons x s=>
   simp only[Ge,Z4]at hsh
   have h3:=ih s (by grind) (fun j c hj=>by simpa using ho (j+1) c (by grind)) hsh.2 h2
   have h4:Un.orig S (some x) v:=by simpa using ho 0 v (by simp)
   subst h3
   congr 1
   rcases Q66 h1 with ⟨nid,ver',n,t,d,cl,l,rfl,e1,rfl,rfl,hcl⟩|⟨hno,rfl,rfl,_⟩
   ·have hcl:cl=true:=by
     grind
    subst hcl;rcases h4 with h4|⟨nid',ver2,n2,e2,h4⟩
    ·cases h4;cases hsh.1
    grind
   ·rcases h4 with h4|⟨nid',ver2,n2,e2,h4⟩
    all_goals grind
theorem Am.cast{S S':St}{a:Act}{w:World}{σ:Nat->List Nat}{β:Nat->Option (Nat×Nat×Nat)}(h:S=S')(hs:Am F S a w σ β):Am F S' a w σ β:=h ▸ hs
theorem U0 (P:Nat->Bool){id:Nat}{B B':SB U.D}(hB:S.blk id=some B)(hcl:allClosed (B.toB U)=true)(hB':B'.toB U=⟨(B.toB U).ver,(B.toB U).es,Ds P (B.toB U).xs⟩):Dc F (S.toSt U) ((Gn U S [(id,some B')]).toSt U):=by
 rintro a w ⟨hd,hsz,σ,β,hs⟩
 have h2:=hs.shal P (Ac hB) hcl;refine⟨hd,hsz,_,_,Am.cast ?_ h2⟩;refine St.Sim.eq ⟨fun x=>rfl,fun i=> ?_,fun i=>rfl⟩
 show Aa (S.toSt U).H id _ i=Option.map (SB.toB U) ((Gn U S [(id,some B')]).blk i);rw[Q87];split
 ·grind [Q1]
 ·rename_i e;rw[Q0 _ _ e];rfl
theorem J7 (hU:Ab U){c:SV U.D}(h:c.shut=true):(Uc U c).toV U=(c.toV U).share:=by
 cases c with
 |rowT t d l=>show V.row false _ _=V.row false _ _;rw[Aiw hU]
 |row t l=>show V.row false _ _=V.row false _ _;rw[(hU.en t).shareLL]
 |_=>first|rfl|cases h
theorem Ym (hU:Ab U)(d:Bool)(t:Nat): ∀(cs:List (SV U.D)) (n:Nat),cs.all SV.shut=true->(F3 U d t n cs).map (SV.toV U)=(cs.map (SV.toV U)).mapIdx fun j v=>bif U.farP d t (n+j)then v.share else v:=by
 intro cs
 induction cs with
 |nil=>intro n _;rfl
 |cons c r ih=>
  intro n h;simp only[Ge,Z4]at h;simp only[F3,Z8,ih (n+1) h.2,List.mapIdx_cons,Nat.add_zero]
  congr 1
  ·cases U.farP d t n with
   |true=>exact J7 hU h.1
   |false=>rfl
  ·congr 1
   funext j v
   rw[show n+1+j=n+(j+1)by omega]
theorem Ai6 (hU:Ab U)(d:Bool)(t:Nat)(z:U.D t):((U.eT d t z).mapIdx fun j v=>bif U.farP d t j then v.share else v)=U.eT d t z:=by
 refine List.ext_getElem? fun j=> ?_;rw[List.getElem?_mapIdx];cases e:(U.eT d t z)[j]? with
 |none=>rfl
 |some v=>
  simp only[Vv,Z7];cases d with
  |true=>
   cases hf:U.farP true t j with
   |false=>rfl
   |true=>exact hU.far t z j v e hf
  |false=>
   show v.share=v
   have:=(hU.en t).shareLL [z];rw[Q13]at this
   have this:(U.en t z).map V.share=U.en t z:=by simpa using this
   have e:(U.en t z)[j]? =some v:=e
   have h2:=congrArg (fun l=>l[j]?) this;simp only[Dv,e,Vv,Z7]at h2;exact h2
theorem Aca (hU:Ab U)(he:Fl F T){id ver t:Nat}{d q:Bool}{l:List (U.D t)}{g:Nat}{i:Int}{ids:List Nat}{ch:Bool}{cs cs':List (SV U.D)}{x:U.D t}(hB:S.blk id=some (.opn ver t d q l g i cs))(hi:0≤i∧i<(l.length:Int))(hput:putCells U S cs=some (cs',ids,ch))(hids:Ly id ids=true)(hsh:cs'.all SV.shut=true)(hok: ∀c∈cs,c.ok S τ)
  (hx:U.fold d t (F3 U d t 0 cs')=some x):Dc F (S.toSt U) ((Gn U S (ids.map (fun i=>(i,none))++[(id,some (.rows ver t d false (l.set i.toNat x)))])).toSt U):=by
 have hxs:((l.map (U.eT d t)).set i.toNat (cs.map (SV.toV U)))[i.toNat]? =some (cs.map (SV.toV U)):=by rw[Z41,if_pos rfl,if_pos (by rw[Hm];omega)]
 have h1:=Uz (F:=F) (T:=T) hU he (kk:=i.toNat) (B':= .opn ver t d true l g i cs') hB rfl hxs hput hids hok (by simp only[SB.toB,List.set_set])
 have hnot:id ∉ ids:=by
  obtain⟨_,_,h3⟩:=Mc hids;exact h3
 have hB1:(Gn U S (ids.map (fun i=>(i,none))++[(id,some (.opn ver t d true l g i cs'))])).blk id=some (.opn ver t d true l g i cs'):=by rw[Q80,if_neg hnot,if_pos rfl]
 have hcl:allClosed ((SB.opn ver t d true l g i cs').toB U)=true:=by
  refine Z1.2 fun y hy=> ?_;rcases Z54 hy with hy|rfl
  ·obtain⟨z,_,rfl⟩:=Ey.1 hy;exact(hU.eT d t).2 z
  ·rw[List.all_map];exact Z1.2 fun c hc=>Q33 hU (Z1.1 hsh c hc)
 have h2:=U0 (F:=F) (U.farP d t) (B':= .rows ver t d false (l.set i.toNat x)) hB1 hcl (by
  simp only[SB.toB]
  show Blk.mk _ _ _=Blk.mk _ _ _
  congr 1
  simp only[Ds];rw[List.map_set,List.map_set,Dr]
  congr 1
  ·exact Fk fun z _=>(Ai6 hU d t z).symm
  ·rw[←Abk hU hx,Ym hU d t cs' 0 hsh];simp only[Nat.zero_add])
 have h3:=h1.trans h2;refine Eq.mp (congrArg (Dc F (S.toSt U)) ?_) h3;refine St.Sim.eq ⟨fun t=>rfl,fun j=> ?_,fun j=>rfl⟩
 show Option.map (SB.toB U) (SS.blk _ j)=Option.map (SB.toB U) (SS.blk _ j);rw[Q87,Q80,Q80]
 grind
theorem Md (hU:Ab U)(he:Fl F T)(hw:A4 S τ){id:Nat}(h:M9 U S id=some S'):Dc F (S.toSt U) (S'.toSt U)∧A4 S' τ∧Gd S S'∧ ∀i v cs,S.blk i=some (.box v cs)->S'.blk i=some (.box v cs):=by
 unfold M9 at h;split at h
 ·rename_i ver t d dirty l g i cs e1;obtain⟨hi,htag,hcs,hlen,horig⟩:=(hw.2.2 id _ e1).2;split at h
  ·rename_i cs' ids ch e2
   have hxs:((l.map (U.eT d t)).set i.toNat (cs.map (SV.toV U)))[i.toNat]? =some (cs.map (SV.toV U)):=by grind
   have hbox: ∀(b:SB U.D) (j v:Nat) (cs0:List (SV U.D)),S.blk j=some (.box v cs0)->(Gn U S (ids.map (fun i=>(i,none))++[(id,some b)])).blk j=some (.box v cs0):=by
    intro b j v cs0 hj;rw[Q80,if_neg,if_neg,hj]
    all_goals grind [K8]
   split at h
   ·rename_i e3 e4;cases h;simp only[Z4]at e3;simp only[Bool.or_eq_false_iff]at e4;rw[e4.2]at e2
    have hsame:=K9 cs (U.cells d t (U.gt l i)) (hlen.trans (hU.cellsLen d t _).symm) (horig e4.1) (hU.cellsShut d t _) e2;refine⟨Uz hU he (kk:=i.toNat) e1 rfl hxs e2 e3.2 hcs ?_,Nx hw e1 rfl rfl rfl trivial,Nw e1 rfl rfl rfl,hbox _⟩;rw[hsame,List.set_set];exact(Ry hU (q:=false) (g:=g) hi).symm
   ·rename_i e3 e4;simp only[Z4]at e3;split at h
    ·rename_i a ha;cases h;exact⟨Aca hU he e1 hi e2 e3.2 e3.1 hcs ha,Nx hw e1 rfl (by simp[SB.len]) rfl trivial,Nw e1 rfl (by simp[SB.len]) rfl,hbox _⟩
    ·cases h
   ·cases h
  ·cases h
 all_goals grind [Dc.refl,Gd.refl]
theorem Gd.trans{S1 S2 S3:SS U.D}(h:Gd S1 S2)(h':Gd S2 S3):Gd S1 S3:=by
 refine⟨Vx h.ctr h'.ctr,fun id=>Vx (h.ver id) (h'.ver id),fun id B' hB hv=> ?_⟩;obtain⟨B2,k1,k2,k3,k4⟩:=h'.old id B' hB (Vw hv (h.ver id));obtain⟨B1,m1,m2,m3,m4⟩:=h.old id B2 k1 (by omega)
 grind
theorem U1 (hU:Ab U)(he:Fl F T): ∀(cs:List (SV U.D)) {S S':SS U.D},A4 S τ->Aay U S cs=some S'->Dc F (S.toSt U) (S'.toSt U)∧A4 S' τ∧Gd S S'∧ ∀i v cs,S.blk i=some (.box v cs)->S'.blk i=some (.box v cs):=by
 intro cs
 induction cs with
 |nil=>intro S S' hw h;cases h;grind [Dc.refl,Gd.refl]
 |cons v r ih=>
  intro S S' hw h;cases v with
  |own nid ver n=>
   grind [Aay,Md,Dc.trans,Gd.trans]
  |_=>exact ih hw h
theorem Yn (hU:Ab U)(he:Fl F T)(hw:A4 S τ){id:Nat}(h:Ud U S id=some S'):Dc F (S.toSt U) (S'.toSt U)∧A4 S' τ:=by
 unfold Ud at h;split at h
 ·rename_i ver cs e1;split at h
  ·rename_i S1 e2;obtain⟨g1,g2,g3,g4⟩:=U1 hU he cs hw e2;split at h
   ·rename_i cs' ids ch e3;split at h
    ·rename_i e4;cases h
     have hB:=g4 id ver cs e1
     have hcs:=(g2.2.2 id _ hB).2;refine⟨g1.trans (Uz hU he (kk:=0) hB rfl rfl e3 e4 hcs ?_),Nx g2 hB rfl rfl rfl (R1 e3 hcs)⟩
     grind [SB.toB,Ny]
    ·cases h
   ·cases h
  ·cases h
 ·have:=Md hU he hw h
  grind
 all_goals grind [Dc.refl]
end
end Go.Eng
namespace Go.Eng
section
variable {U:Un} {T:Tab} {F:Fr} {S S':SS U.D} {τ:Nat->Int} {α:Type} {k:SS U.D->Option α} {r:α}
theorem J8{v:V}(h:v.closed=true)(id:Nat):v.fgt id=v:=by cases v<;>first|rfl|cases h
theorem J9{v:V}(h:v.closed=true)(id:Nat)(B:Blk):v.frz id B=v:=by cases v<;>first|rfl|cases h
theorem Bb{a b:Nat}(h:Nat.beq a b=true):a=b:=Z2 h
theorem Ag2 (hU:Ab U){id ver t:Nat}{d c:Bool}{l:List (U.D t)}(hB:S.blk id=some (.rows ver t d c l)){v:SV U.D}(hv:v.ok S τ):(Eo U id ver t l v).toV U=((v.toV U).fgt id).frz id ⟨ver,U.sz t,l.map (U.eT d t)⟩:=by
 cases v with
 |own i v n=>
  simp only[Eo]
  show _=V.frz1 id ⟨ver,U.sz t,l.map (U.eT d t)⟩ (.own i v 0 n);split
  ·rename_i e1
   have e1:=Bb e1;subst e1;split
   ·rename_i e2
    have e2:=Bb e2;subst e2
    have hn:n=l.length:=hv.2 _ hB rfl;simp only[V.frz1,if_true,J1 hU,hn,Z55,List.take_length];rfl
   ·rename_i e2
    have:=K7 e2;simp only[V.frz1,if_true,if_neg (Ne.symm this)];rfl
  ·rename_i e1;simp only[V.frz1,if_neg (K7 e1)];rfl
 |part i v lo hi=>
  simp only[Eo]
  show _=V.frz1 id ⟨ver,U.sz t,l.map (U.eT d t)⟩ (.own i v lo.toNat (hi - lo).toNat);split
  ·rename_i e1
   have e1:=Bb e1;subst e1;split
   ·rename_i e2
    have e2:=Bb e2;subst e2;simp only[V.frz1,if_true,J1 hU];rfl
   ·rename_i e2
    have:=K7 e2;simp only[V.frz1,if_true,if_neg (Ne.symm this)];rfl
  ·rename_i e1;simp only[V.frz1,if_neg (K7 e1)];rfl
 |ptr i v j=>
  simp only[Eo,SV.toV,V.fgt];cases e1:Nat.beq i id with
  |true=>rfl
  |false=>show _=V.frz1 id _ (.ptr i v 0 j);simp_all[V.frz1,K7]
 |ptrE i v g x j=>
  simp only[Eo,SV.toV,V.fgt];cases e1:Nat.beq i id with
  |true=>rfl
  |false=>show _=V.frz1 id _ (.ptr i v x.toNat j);simp_all[V.frz1,K7]
 |ptrA i v x=>
  simp only[Eo,SV.toV,V.fgt];cases e1:Nat.beq i id with
  |true=>rfl
  |false=>show _=V.frz1 id _ (.ptr i v 0 x.toNat);simp_all[V.frz1,K7]
 |fn f caps rs=>
  simp only[Eo,SV.toV,V.fgt]
  have hany:((caps.map fun c=>V.ptr c.1 c.2 0 0)++rs.map fun q=>V.ip (U.sz q.1) [U.en q.1 q.2] 0 0).any (Afq id)=caps.any fun c=>Nat.beq c.1 id:=by
   rw[List.any_append,List.any_map,List.any_map]
   have:(rs.any (Afq id ∘ fun q=>V.ip (U.sz q.1) [U.en q.1 q.2] 0 0))=false:=List.any_eq_false.2 fun q _=>by simp[Afq]
   rw[this,Bool.or_false];rfl
  rw[hany];cases e1:caps.any fun c=>Nat.beq c.1 id with
  |true=>rfl
  |false=>
   show V.fn f _=V.fn f _
   congr 1
   rw[Vu,Dr,Dr]
   congr 1
   refine Fk fun c hc=> ?_
   have:Nat.beq c.1 id=false:=by
    grind
   simp_all[V.frz1,K7]
 |_=>rfl
theorem H5{id ver t:Nat}{l:List (U.D t)}{v:SV U.D}(hv:v.ok S τ):(Eo U id ver t l v).ok S τ:=by
 cases v with
 |own i v n=>
  simp only[Eo];split
  ·split<;>trivial
  omega
 |part i v lo hi=>
  simp only[Eo];split
  ·split<;>trivial
  omega
 |ptrE i v g x j=>
  simp only[Eo];split
  ·trivial
  omega
 |ptr i v j=>simp only[Eo];split<;>trivial
 |ptrA i v x=>simp only[Eo];split<;>trivial
 |fn f caps rs=>simp only[Eo];split<;>trivial
 |_=>exact hv
theorem Gs{β γ:Type}(f:β->γ): ∀(l:List (Nat×β)) (n:Nat),lk (l.map fun p=>(p.1,f p.2)) n=(lk l n).map f:=by
 intro l
 induction l with
 |nil=>intro n;rfl
 |cons x r ih=>
  grind [Sz]
theorem Ai7 (hU:Ab U){id ver t:Nat}{d c:Bool}{l:List (U.D t)}(hB:S.blk id=some (.rows ver t d c l)){cs:List (SV U.D)}(h: ∀x∈cs,x.ok S τ):(cs.map (Eo U id ver t l)).map (SV.toV U)=((cs.map (SV.toV U)).map (V.fgt id)).map (V.frz id ⟨ver,U.sz t,l.map (U.eT d t)⟩):=by
 rw[Dr,Dr,Dr]
 grind [List.map_congr_left,Ag2]
theorem Ka{l:List V}(h:l.all V.closed=true)(id:Nat)(B:Blk):(l.map (V.fgt id)).map (V.frz id B)=l:=by
 rw[Dr];refine(Fk fun v hv=> ?_).trans (List.map_id _)
 have:=Z1.1 h v hv
 grind [J8,J9]
theorem Ai8 (hU:Ab U){id ver t:Nat}{d c:Bool}{l:List (U.D t)}(hB:S.blk id=some (.rows ver t d c l)){B:SB U.D}(h:B.ok S τ):
  (frzB U id ver t l B).toB U=⟨(B.toB U).ver,(B.toB U).es,((B.toB U).fgt id).xs.map fun x=>x.map (V.frz id ⟨ver,U.sz t,l.map (U.eT d t)⟩)⟩:=by
 have rows: ∀(t':Nat) (d':Bool) (l':List (U.D t')),((l'.map (U.eT d' t')).map fun x=>x.map (V.fgt id)).map (fun x=>x.map (V.frz id ⟨ver,U.sz t,l.map (U.eT d t)⟩))=l'.map (U.eT d' t'):=by
  intro t' d' l';rw[Dr,Dr];exact Fk fun a _=>Ka ((hU.eT d' t').2 a) _ _
 cases B with
 |rows v t' d' c' l'=>grind [frzB,SB.toB,Blk.fgt]
 |box v cs=>
  simp only[frzB,SB.toB,Blk.fgt,Hm,Z8,P3];rw[Ai7 hU hB h]
 |arr v n t' l'=>
  simp only[frzB,SB.toB,Blk.fgt,Z8,P3];rw[Ka];refine Z1.2 fun v hv=> ?_;obtain⟨x,h1,h2⟩:=List.mem_flatten.1 hv;obtain⟨a,_,rfl⟩:=Ey.1 h1;exact Z1.1 ((hU.en t').closed a) v h2
 |opn v t' d' q l' g i cs=>
  simp only[frzB,SB.toB,Blk.fgt,List.map_set,rows];rw[Ai7 hU hB h.2.2.1]
theorem R2{id ver t:Nat}{l:List (U.D t)}(B:SB U.D):(frzB U id ver t l B).ver=B.ver∧(frzB U id ver t l B).len=B.len∧((frzB U id ver t l B).clean=true->B=frzB U id ver t l B):=by
 cases B with
 |rows=>exact⟨rfl,rfl,fun _=>rfl⟩
 |box=>exact⟨rfl,rfl,fun h=>by cases h⟩
 |arr=>exact⟨rfl,rfl,fun h=>by cases h⟩
 |opn=>exact⟨rfl,rfl,fun h=>by cases h⟩
theorem Me (hU:Ab U)(hw:A4 S τ){id:Nat}(h:Na U S id=some S'):Dc F (S.toSt U) (S'.toSt U)∧A4 S' τ:=by
 unfold Na at h;split at h
 ·rename_i ver t d c l hB;cases h
  have hblk: ∀i,(⟨S.env.map fun p=>(p.1,Xy U id ver t l p.2),(id,none)::S.H.map fun p=>(p.1,p.2.map (frzB U id ver t l)),S.nv,S.ctr⟩:SS U.D).blk i=if i=id then none else(S.blk i).map (frzB U id ver t l):=by
   intro i;rw[Ra];split
   ·rfl
   ·simp only[SS.blk,Gs]
    grind
  refine⟨?_,?_⟩
  ·rintro a w ⟨hd,hsz,σ,β,hs⟩
   have h1:=hs.fgt id
   have hB1:((S.toSt U).fgt id).H id=some ⟨ver,U.sz t,l.map (U.eT d t)⟩:=by
    show((S.blk id).map (SB.toB U)).map (Blk.fgt id)=_;rw[hB];simp only[Vv,SB.toB,Blk.fgt]
    congr 2
    rw[Dr];refine Fk fun a _=> ?_
    show(U.eT d t a).map (V.fgt id)=U.eT d t a;refine(Fk fun v hv=> ?_).trans (List.map_id _);exact J8 (Z1.1 ((hU.eT d t).2 a) v hv) id
   have h2:=h1.frz hB1 (Q42 hU d t ver l);refine⟨hd,hsz,_,_,Am.cast ?_ h2⟩;refine St.Sim.eq ⟨fun x=> ?_,fun i=> ?_,fun i=>rfl⟩
   ·have hx:=hw.get x
    have e0:(⟨S.env.map fun p=>(p.1,Xy U id ver t l p.2),(id,none)::S.H.map fun p=>(p.1,p.2.map (frzB U id ver t l)),S.nv,S.ctr⟩:SS U.D).get x=((lk S.env x).map (Xy U id ver t l)).getD (.c .undef):=by
     simp only[SS.get,Gs]
     grind
    have e1:S.get x=(lk S.env x).getD (.c .undef):=by
     simp only[SS.get]
     grind
    refine Eq.trans ?_ (congrArg (SA.toA U) e0).symm
    show(((S.get x).toA U).fgt id).frz id _=_;rw[e1]at hx ⊢;cases e:lk S.env x with
    |none=>rfl
    |some v=>
     rw[e]at hx;cases v with
     |c v=>show A.c _=A.c _;rw[Ag2 hU hB hx]
     |g cs=>show A.g _=A.g _;rw[Ai7 hU hB hx]
     |t xs=>rfl
   ·show(if i=id then none else(((S.blk i).map (SB.toB U)).map (Blk.fgt id)).map _)=_
    refine Eq.trans ?_ (congrArg (Option.map (SB.toB U)) (hblk i)).symm;split
    ·rfl
    ·cases e:S.blk i with
     |none=>rfl
     |some B=>
      simp only[Vv,Ai8 hU hB (hw.2.2 i B e).2];rfl
  ·have hev:Gd S (⟨S.env.map fun p=>(p.1,Xy U id ver t l p.2),(id,none)::S.H.map fun p=>(p.1,p.2.map (frzB U id ver t l)),S.nv,S.ctr⟩:SS U.D):=by
    refine⟨Z9 _,fun _=>Z9 _,fun i C hC _=> ?_⟩;rw[hblk]at hC;split at hC
    ·cases hC
    ·obtain⟨B,h1,rfl⟩:=Z5.1 hC;obtain⟨k1,k2,k3⟩:=R2 (U:=U) (id:=id) (ver:=ver) (t:=t) (l:=l) B
     grind
   refine⟨hw.1,fun x v hx=> ?_,fun i C hC=> ?_⟩
   ·have hx:lk (S.env.map fun p=>(p.1,Xy U id ver t l p.2)) x=some v:=hx;rw[Gs]at hx;obtain⟨v0,h1,rfl⟩:=Z5.1 hx
    have h0:=hw.2.1 x v0 h1;refine SA.ok.mono (S:=S) ?_ hev;cases v0 with
    |c v=>exact H5 h0
    |g cs=>
     intro c hc;obtain⟨c0,h1,rfl⟩:=Ey.1 hc;exact H5 (h0 c0 h1)
    |t xs=>trivial
   ·rw[hblk]at hC;split at hC
    ·cases hC
    ·obtain⟨B,h1,rfl⟩:=Z5.1 hC;obtain⟨h2,h3⟩:=hw.2.2 i B h1;refine⟨by rw[(R2 B).1];exact h2,SB.ok.mono (S:=S) ?_ hev⟩
     cases B with
     |box v cs=>
      intro c hc;obtain⟨c0,h1,rfl⟩:=Ey.1 hc;exact H5 (h3 c0 h1)
     |opn v t' d' q l' g i' cs=>
      refine⟨h3.1,h3.2.1,fun c hc=> ?_,by rw[Hm];exact h3.2.2.2.1,fun h=>by cases h⟩
      obtain⟨c0,h1,rfl⟩:=Ey.1 hc;exact H5 (h3.2.2.1 c0 h1)
     |_=>trivial
 all_goals grind [Dc.refl]
theorem Yo (hU:Ab U): ∀(l:List Nat) {S S':SS U.D},A4 S τ->Nb U S l=some S'->Dc F (S.toSt U) (S'.toSt U)∧A4 S' τ:=by
 intro l
 induction l with
 |nil=>intro S S' hw h;cases h;grind [Dc.refl]
 |cons x r ih=>
  grind [Nb,Me,Dc.trans]
theorem Nz (c:SV U.D):(D6 U c).toV U=(c.toV U).cold:=by
 cases c with
 |rowT t d l=>cases l<;>rfl
 |_=>rfl
theorem R3{c:SV U.D}(h:c.ok S τ):(D6 U c).ok S τ:=by
 cases c with
 |rowT t d l=>cases l<;>trivial
 |_=>exact h
theorem R4 (x:Nat)(v:SA U.D):(upE U S x v).toSt U=⟨Aa (S.toSt U).env x (v.toA U),(S.toSt U).H,(S.toSt U).nv⟩:=by
 refine St.Sim.eq ⟨fun t=> ?_,fun i=>rfl,fun i=>rfl⟩
 show((upE U S x v).get t).toA U=Aa (S.toSt U).env x (v.toA U) t;unfold upE;rw[J6];split
 ·grind [Q1]
 ·rename_i e;rw[Q0 _ _ e];rfl
theorem A4.upE (hw:A4 S τ)(x:Nat){v:SA U.D}(hv:v.ok S τ):A4 (upE U S x v) τ:=hw.pure (dst:=some x) (use:=[]) (ids:=[]) hv
theorem Wt{x:Nat}{v:SA U.D}(hv:v.toA U=((S.get x).toA U).cold):Dc F (S.toSt U) ((upE U S x v).toSt U):=by
 rintro a w ⟨hd,hsz,σ,β,hs⟩;refine⟨hd,hsz,σ,β,?_⟩;rw[R4,hv];exact hs.coldE x
theorem Acb{x id:Nat}{v:SA U.D}{B:SB U.D}:(S.app (some x) {v,upd:=[(id,some B)],bump:=[id]}).toSt U=⟨Aa (S.toSt U).env x (v.toA U),Aa (S.toSt U).H id (some (B.toB U)),Aa (S.toSt U).nv id ((S.toSt U).nv id+1)⟩:=by
 rw[Q81];rfl
theorem Acd{β:Type}: ∀ {l:List (Nat×β)} {n:Nat} {v:β},lk l n=some v->(n,v)∈l:=by
 intro l
 induction l with
 |nil=>intro n v h;cases h
 |cons x r ih=>
  grind [Sz]
theorem Ag3 (hU:Ab U){id ver t:Nat}{cs:List (SV U.D)}{x:U.D t}(hB:S.blk id=some (.box ver cs))(hx:(cs.map (Uc U)).map (SV.toV U)=U.en t x)(hcs:cs.all SV.shut=true){v:SV U.D}(hv:v.ok S τ)(hf:Qv U id v=true):
  (Ew U id ver t x v).toV U=(v.toV U).frz id ⟨ver,cs.length,[cs.map (SV.toV U)]⟩:=by
 have hsh:shareLL [cs.map (SV.toV U)]=[U.en t x]:=by
  rw[Q13,Z8,P3,←hx,Dr,Dr]
  congr 1
  exact Fk fun c hc=>(J7 hU (Z1.1 hcs c hc)).symm
 have hlen:cs.length=U.sz t:=by
  have:=congrArg List.length hx;rw[(hU.en t).len]at this
  grind
 have h1:([cs.map (SV.toV U)]:List (List V)).length≤maxLen:=by grind [maxLen]
 cases v with
 |own i v n=>
  simp only[Ew]
  show _=V.frz1 id ⟨ver,cs.length,[cs.map (SV.toV U)]⟩ (.own i v 0 n);split
  ·rename_i e1
   have e1:=Bb e1;subst e1;split
   ·rename_i e2
    have e2:=Bb e2;subst e2
    have hn:n=0:=hv.2 _ hB rfl;subst hn;simp only[V.frz1,if_true,E2,Z55,List.take_zero,hlen];rfl
   ·rename_i e2
    have:=K7 e2;simp only[V.frz1,if_true,if_neg (Ne.symm this)];rfl
  ·rename_i e1;simp only[V.frz1,if_neg (K7 e1)];rfl
 |part i v lo hi=>
  simp only[Ew]
  show _=V.frz1 id ⟨ver,cs.length,[cs.map (SV.toV U)]⟩ (.own i v lo.toNat (hi - lo).toNat);split
  ·rename_i e1
   have e1:=Bb e1;subst e1;split
   ·rename_i e2
    have e2:=Bb e2;subst e2;obtain⟨q1,q2,q3⟩:=hv.2 _ hB rfl
    have q3:hi≤((0:Nat):Int):=q3
    have:(hi - lo).toNat=0:=by omega
    rw[this];simp only[V.frz1,if_true,E2,List.take_zero,hlen];rfl
   ·rename_i e2
    have:=K7 e2;simp only[V.frz1,if_true,if_neg (Ne.symm this)];rfl
  ·rename_i e1;simp only[V.frz1,if_neg (K7 e1)];rfl
 |ptr i v j=>
  simp only[Ew]
  show _=V.frz1 id ⟨ver,cs.length,[cs.map (SV.toV U)]⟩ (.ptr i v 0 j);split
  ·rename_i e1
   have e1:=Bb e1;subst e1;split
   ·rename_i e2
    have e2:=Bb e2;subst e2;simp only[V.frz1,if_true,h1,and_self,hsh,hlen];rfl
   ·rename_i e2
    have:=K7 e2;simp only[V.frz1,if_true];rw[if_neg (fun h=>this h.1.symm)];rfl
  ·rename_i e1;simp only[V.frz1,if_neg (K7 e1)];rfl
 |ptrE i v g x' j=>
  simp only[Ew]
  show _=V.frz1 id ⟨ver,cs.length,[cs.map (SV.toV U)]⟩ (.ptr i v x'.toNat j);split
  ·rename_i e1
   have e1:=Bb e1;subst e1;simp only[V.frz1,if_true]
   by_cases e2:ver=v
   ·obtain⟨q1,q2⟩:=hv.2.2 _ hB e2
    have q2:x'<((0:Nat):Int):=q2;omega
   ·rw[if_neg (fun h=>e2 h.1)];rfl
  ·rename_i e1;simp only[V.frz1,if_neg (K7 e1)];rfl
 |ptrA i v x'=>
  simp only[Ew]
  show _=V.frz1 id ⟨ver,cs.length,[cs.map (SV.toV U)]⟩ (.ptr i v 0 x'.toNat);split
  ·rename_i e1
   have e1:=Bb e1;subst e1;split
   ·rename_i e2
    have e2:=Bb e2;subst e2;simp only[V.frz1,if_true,h1,and_self,hsh,hlen];rfl
   ·rename_i e2
    have:=K7 e2;simp only[V.frz1,if_true];rw[if_neg (fun h=>this h.1.symm)];rfl
  ·rename_i e1;simp only[V.frz1,if_neg (K7 e1)];rfl
 |fn f caps rs=>
  simp only[Ew]
  show V.fn f _=V.fn f _
  congr 1
  rw[Vu,Dr,Dr]
  congr 1
  refine Fk fun c hc=> ?_
  have:Nat.beq c.1 id=false:=by
   have h:(!caps.any fun c=>Nat.beq c.1 id)=true:=hf
   grind
  simp_all[V.frz1,K7]
 |_=>rfl
theorem H6{id ver t:Nat}{x:U.D t}{v:SV U.D}(hv:v.ok S τ):(Ew U id ver t x v).ok S τ:=by
 cases v with
 |own i v n=>
  simp only[Ew];split
  ·split<;>trivial
  omega
 |part i v lo hi=>
  simp only[Ew];split
  ·split<;>trivial
  omega
 |ptrE i v g x j=>
  simp only[Ew];split
  ·trivial
  omega
 |ptr i v j=>
  simp only[Ew];split
  ·split<;>trivial
  ·trivial
 |ptrA i v x=>
  simp only[Ew];split
  ·split<;>trivial
  ·trivial
 |_=>exact hv
theorem Ai9 (hU:Ab U){id ver t:Nat}{cs0:List (SV U.D)}{x:U.D t}(hB:S.blk id=some (.box ver cs0))(hx:(cs0.map (Uc U)).map (SV.toV U)=U.en t x)(hcs:cs0.all SV.shut=true){cs:List (SV U.D)}(h: ∀y∈cs,y.ok S τ)(hf:cs.all (Qv U id)=true):
  (cs.map (Ew U id ver t x)).map (SV.toV U)=(cs.map (SV.toV U)).map (V.frz id ⟨ver,cs0.length,[cs0.map (SV.toV U)]⟩):=by
 rw[Dr,Dr];exact Fk fun y hy=>Ag3 hU hB hx hcs (h y hy) (Z1.1 hf y hy)
theorem Amb{l:List V}(h:l.all V.closed=true)(id:Nat)(B:Blk):l.map (V.frz id B)=l:=by
 refine(Fk fun v hv=> ?_).trans (List.map_id _)
 simp_all[J9]
theorem Aja (hU:Ab U){id ver t:Nat}{cs0:List (SV U.D)}{x:U.D t}(hB:S.blk id=some (.box ver cs0))(hx:(cs0.map (Uc U)).map (SV.toV U)=U.en t x)(hcs:cs0.all SV.shut=true){B:SB U.D}(h:B.ok S τ)(hf:Uf U id (some B)=true):
  (F4 U id ver t x B).toB U=⟨(B.toB U).ver,(B.toB U).es,(B.toB U).xs.map fun y=>y.map (V.frz id ⟨ver,cs0.length,[cs0.map (SV.toV U)]⟩)⟩:=by
 have rows: ∀(t':Nat) (d':Bool) (l':List (U.D t')),(l'.map (U.eT d' t')).map (fun y=>y.map (V.frz id ⟨ver,cs0.length,[cs0.map (SV.toV U)]⟩))=l'.map (U.eT d' t'):=by
  simp_all[Amb,Ab.eT]
 cases B with
 |rows v t' d' c' l'=>grind [F4,SB.toB]
 |box v cs=>
  simp only[F4,SB.toB,Hm,Z8,P3];rw[Ai9 hU hB hx hcs h hf]
 |arr v n t' l'=>
  simp only[F4,SB.toB,Z8,P3];rw[Amb];refine Z1.2 fun v hv=> ?_;obtain⟨x,h1,h2⟩:=List.mem_flatten.1 hv;obtain⟨a,_,rfl⟩:=Ey.1 h1;exact Z1.1 ((hU.en t').closed a) v h2
 |opn v t' d' q l' g i cs=>
  simp only[F4,SB.toB,List.map_set,rows];rw[Ai9 hU hB hx hcs h.2.2.1 hf]
theorem R5{id ver t:Nat}{x:U.D t}(B:SB U.D):(F4 U id ver t x B).ver=B.ver∧(F4 U id ver t x B).len=B.len∧((F4 U id ver t x B).clean=true->B=F4 U id ver t x B):=by
 cases B with
 |rows=>exact⟨rfl,rfl,fun _=>rfl⟩
 |box=>exact⟨rfl,rfl,fun h=>by cases h⟩
 |arr=>exact⟨rfl,rfl,fun h=>by cases h⟩
 |opn=>exact⟨rfl,rfl,fun h=>by cases h⟩
theorem Yp (hU:Ab U)(hw:A4 S τ){id t:Nat}(h:Ug U S id t=some S'):Dc F (S.toSt U) (S'.toSt U)∧A4 S' τ:=by
 unfold Ug at h;split at h
 ·rename_i ver cs0 hB;split at h
  ·rename_i x hc hfold;simp only[Z4]at hc;obtain⟨⟨hcs,hfe⟩,hfh⟩:=hc
   have hx:=hU.fS t _ x hfold;cases h
   have hblk: ∀i,(⟨S.env.map fun p=>(p.1,Xz U id ver t x p.2),(id,none)::S.H.map fun p=>(p.1,p.2.map (F4 U id ver t x)),S.nv,S.ctr⟩:SS U.D).blk i=if i=id then none else(S.blk i).map (F4 U id ver t x):=by
    intro i;rw[Ra];split
    ·rfl
    ·simp only[SS.blk,Gs]
     grind
   have henv: ∀x v,lk S.env x=some v->Ue U id v=true:=fun x v h=>Z1.1 hfe _ (Acd h)
   have hH: ∀i B,S.blk i=some B->Uf U id (some B)=true:=fun i B h=>by
    have h':=h;unfold SS.blk at h';split at h'
    ·rename_i b e;subst h';exact Z1.1 hfh _ (Acd e)
    grind
   refine⟨?_,?_⟩
   ·rintro a w ⟨hd,hsz,σ,β,hs⟩
    have hcl:allClosed ⟨ver,cs0.length,[cs0.map (SV.toV U)]⟩=true:=by
     simp_all[allClosed,Q33]
    have h2:=hs.frz (B:=⟨ver,cs0.length,[cs0.map (SV.toV U)]⟩) (id:=id) (Ac hB) hcl;refine⟨hd,hsz,_,_,Am.cast ?_ h2⟩;refine St.Sim.eq ⟨fun y=> ?_,fun i=> ?_,fun i=>rfl⟩
    ·have hy:=hw.get y
     have e0:(⟨S.env.map fun p=>(p.1,Xz U id ver t x p.2),(id,none)::S.H.map fun p=>(p.1,p.2.map (F4 U id ver t x)),S.nv,S.ctr⟩:SS U.D).get y=((lk S.env y).map (Xz U id ver t x)).getD (.c .undef):=by
      simp only[SS.get,Gs]
      grind
     have e1:S.get y=(lk S.env y).getD (.c .undef):=by
      simp only[SS.get]
      grind
     refine Eq.trans ?_ (congrArg (SA.toA U) e0).symm
     show((S.get y).toA U).frz id _=_;rw[e1]at hy ⊢;cases e:lk S.env y with
     |none=>rfl
     |some v=>
      rw[e]at hy
      have hf:=henv y v e;cases v with
      |c v=>show A.c _=A.c _;rw[Ag3 hU hB hx hcs hy (by grind [Ue,SA.cells])]
      |g cs=>show A.g _=A.g _;rw[Ai9 hU hB hx hcs hy hf]
      |t xs=>rfl
    ·show(if i=id then none else((S.blk i).map (SB.toB U)).map _)=_
     refine Eq.trans ?_ (congrArg (Option.map (SB.toB U)) (hblk i)).symm;split
     ·rfl
     ·cases e:S.blk i with
      |none=>rfl
      |some B=>
       simp only[Vv,Aja hU hB hx hcs (hw.2.2 i B e).2 (hH i B e)]
   ·have hev:Gd S (⟨S.env.map fun p=>(p.1,Xz U id ver t x p.2),(id,none)::S.H.map fun p=>(p.1,p.2.map (F4 U id ver t x)),S.nv,S.ctr⟩:SS U.D):=by
     refine⟨Z9 _,fun _=>Z9 _,fun i C hC _=> ?_⟩;rw[hblk]at hC;split at hC
     ·cases hC
     ·obtain⟨B,h1,rfl⟩:=Z5.1 hC;obtain⟨k1,k2,k3⟩:=R5 (U:=U) (id:=id) (ver:=ver) (x:=x) B
      grind
    refine⟨hw.1,fun y v hy=> ?_,fun i C hC=> ?_⟩
    ·have hy:lk (S.env.map fun p=>(p.1,Xz U id ver t x p.2)) y=some v:=hy;rw[Gs]at hy;obtain⟨v0,h1,rfl⟩:=Z5.1 hy
     have h0:=hw.2.1 y v0 h1;refine SA.ok.mono (S:=S) ?_ hev;cases v0 with
     |c v=>exact H6 h0
     |g cs=>
      intro c hc;obtain⟨c0,h1,rfl⟩:=Ey.1 hc;exact H6 (h0 c0 h1)
     |t xs=>trivial
    ·rw[hblk]at hC;split at hC
     ·cases hC
     ·obtain⟨B,h1,rfl⟩:=Z5.1 hC;obtain⟨h2,h3⟩:=hw.2.2 i B h1;refine⟨by rw[(R5 B).1];exact h2,SB.ok.mono (S:=S) ?_ hev⟩
      cases B with
      |box v cs=>
       intro c hc;obtain⟨c0,h1,rfl⟩:=Ey.1 hc;exact H6 (h3 c0 h1)
      |opn v t' d' q l' g i' cs=>
       refine⟨h3.1,h3.2.1,fun c hc=> ?_,by rw[Hm];exact h3.2.2.2.1,fun h=>by cases h⟩
       obtain⟨c0,h1,rfl⟩:=Ey.1 hc;exact H6 (h3.2.2.1 c0 h1)
      |_=>trivial
  ·cases h
 ·cases h
theorem Cmd.run_ok (hU:Ab U)(he:Fl F T)(hw:A4 S τ){c:Cmd}(h:c.run U T S k=some r): ∃S',k S'=some r∧Go1 F S S':=by
 cases c with
 |take id j nid=>grind [Afs]
 |opn id ix=>exact Aft hU hw h
 |opp id x=>exact Afu hU hw h
 |takeE id j nid=>grind [Ab8]
 |put id=>
  simp only[Cmd.run]at h;split at h
  ·rename_i S1 e1;obtain⟨g1,g2⟩:=Yn hU he hw e1;exact⟨S1,h,g1,τ,g2⟩
  ·cases h
 |frz id=>
  simp only[Cmd.run]at h;split at h
  ·rename_i S1 e1;obtain⟨g1,g2⟩:=Me (F:=F) hU hw e1;exact⟨S1,h,g1,τ,g2⟩
  ·cases h
 |putc id j=>
  simp only[Cmd.run]at h;split at h
  ·rename_i ver cs e1
   have hok:=(hw.2.2 id _ e1).2;split at h
   ·rename_i nid nver n e2;split at h
    ·rename_i nver' t d cl l e3;split at h
     ·rename_i e4;simp only[Z4,Z44]at e4;obtain⟨⟨q1,q2⟩,q3⟩:=e4
      have q1:=Bb q1;subst q1
      have hne:=K7 q3
      have hn:n=l.length:=(hok _ (Z6 e2)).2 _ e3 rfl;refine⟨_,h,?_,τ,Nx hw e1 rfl rfl rfl (fun c hc=> ?_)⟩
      ·rintro a w ⟨hd,hsz,σ,β,hs⟩;obtain⟨σ',hs'⟩:=hs.putN (k:=0) (j:=j) (nid:=nid) (nver:=nver') (e:=U.sz t) (ys:=l.map (U.eT d t)) (x:=cs.map (SV.toV U)) (Ac e1) rfl (by grind [SV.toV]) (Ac e3) (Q42 hU d t nver' l) hne (Gr he q2)
       refine⟨hd,hsz,σ',β,Am.cast ?_ hs'⟩;refine St.Sim.eq ⟨fun t=>rfl,fun i=> ?_,fun i=>rfl⟩
       show Aa (Aa (S.toSt U).H nid none) id _ i=Option.map (SB.toB U) ((Gn U S (([nid].map fun i=>(i,none))++[(id,some (.box ver (cs.set j (.rowT t d l))))])).blk i);rw[Q80];simp only[Pz]
       by_cases g1:i=nid
       ·simp_all[Q0,Ne.symm,Q1]
       ·rw[if_neg g1]
        by_cases g2:i=id
        ·subst g2;rw[if_pos rfl,Q1,Vv];simp only[SB.toB,Z49,List.map_set];rfl
        ·rw[if_neg g2,Q0 _ _ g2,Q0 _ _ g1];rfl
      ·rcases Z54 hc with hc|rfl
       ·exact hok c hc
       ·trivial
     ·cases h
    ·cases h
   ·exact⟨S,h,Dc.refl _,τ,hw⟩
   ·cases h
  ·cases h
 |frzB id t=>
  simp only[Cmd.run]at h;split at h
  ·rename_i S1 e1;obtain⟨g1,g2⟩:=Yp (F:=F) hU hw e1;exact⟨S1,h,g1,τ,g2⟩
  ·cases h
 |frzT x=>
  simp only[Cmd.run]at h;split at h
  ·rename_i S1 e1;obtain⟨g1,g2⟩:=Yo (F:=F) hU _ hw e1;exact⟨S1,h,g1,τ,g2⟩
  ·cases h
 |shal id=>
  simp only[Cmd.run]at h;split at h
  ·rename_i ver t c l e1;split at h
   ·exact⟨S,h,Dc.refl _,τ,hw⟩
   ·refine⟨_,h,U0 (fun _=>true) e1 (Q42 hU true t ver l) ?_,τ,hw.upH1 e1 rfl rfl rfl trivial⟩
    show Blk.mk _ _ (l.map (U.en t))=Blk.mk _ _ (Ds _ (l.map (U.eT true t)));rw[J5,Aiw hU];rfl
  ·exact⟨S,h,Dc.refl _,τ,hw⟩
  ·cases h
 |nilO x nid=>
  simp only[Cmd.run]at h;split at h
  ·rename_i t d e1;split at h
   ·rename_i e2;refine⟨_,h,?_,τ,hw.new (dst:=some x) (use:=[]) (ids:=[]) (id:=nid) (B:= .rows (S.ver nid) t d false []) rfl (Q39 rfl) trivial⟩;rintro a w ⟨hd,hsz,σ,β,hs⟩
    have:=hs.ownNil (t:=x) (es:=U.sz t) (id:=nid) (by show(S.get x).toA U=_;rw[e1];rfl) (Gr he e2)
    refine⟨hd,hsz,_,_,Am.cast ?_ this⟩;exact(Acb (S:=S) (x:=x) (id:=nid) (v:= .c (.own nid (S.ver nid) 0)) (B:= .rows (S.ver nid) t d false [])).symm
   ·cases h
  ·exact⟨S,h,Dc.refl _,τ,hw⟩
  ·cases h
 |nilG x j nid=>
  simp only[Cmd.run]at h;split at h
  ·rename_i cs e1;split at h
   ·rename_i t d e0;split at h
    ·rename_i e2
     have hok:=hw.get x;rw[e1]at hok;refine⟨_,h,?_,τ,hw.new (dst:=some x) (use:=[]) (ids:=[]) (id:=nid) (v:= .g (cs.set j (.own nid (S.ver nid) 0))) (B:= .rows (S.ver nid) t d false []) rfl (fun c hc=> ?_) trivial⟩
     ·rintro a w ⟨hd,hsz,σ,β,hs⟩
      have:=hs.ownNilG (t:=x) (es:=U.sz t) (id:=nid) (cs:=cs.map (SV.toV U)) (j:=j) (by show(S.get x).toA U=_;rw[e1];rfl) (by rw[Dv,e0];rfl) (Gr he e2)
      refine⟨hd,hsz,_,_,Am.cast ?_ this⟩;refine Eq.trans ?_ (Acb (S:=S) (x:=x) (id:=nid) (v:= .g (cs.set j (.own nid (S.ver nid) 0))) (B:= .rows (S.ver nid) t d false [])).symm
      show(⟨Aa _ _ (A.g ((cs.map (SV.toV U)).set j _)),_,_⟩:St)=⟨Aa _ _ (A.g ((cs.set j _).map (SV.toV U))),_,_⟩;rw[List.map_set];rfl
     ·rcases Z54 hc with hc|rfl
      ·exact(hok c hc).mono (Wi rfl)
      ·exact Q39 (τ:=τ) (n:=0) rfl
    ·cases h
   ·cases h
  ·cases h
 |cold x=>
  simp only[Cmd.run]at h
  have hok:=hw.get x;split at h
  ·rename_i v e1;rw[e1]at hok;refine⟨_,h,Wt ?_,τ,hw.upE x (v:= .c (D6 U v)) (R3 hok)⟩;rw[e1];show A.c _=A.c _;rw[Nz]
  ·rename_i cs e1;rw[e1]at hok;refine⟨_,h,Wt ?_,τ,hw.upE x (v:= .g (cs.map (D6 U))) (fun c hc=> ?_)⟩
   ·rw[e1];show A.g _=A.g _
    simp_all[Nz]
   ·obtain⟨c0,h1,rfl⟩:=Ey.1 hc;exact R3 (hok c0 h1)
  ·exact⟨S,h,Dc.refl _,τ,hw⟩
 |cut x=>
  simp only[Cmd.run]at h;split at h
  ·rename_i id ver lo hi e1
   have hok:=hw.get x;rw[e1]at hok;split at h
   ·rename_i ver' t d c l e2;split at h
    ·rename_i e3
     have e3:=Bb e3;subst e3;obtain⟨h1,h2,h3⟩:=hok.2 _ e2 rfl
     have h3:hi≤(l.length:Int):=h3;refine⟨_,h,?_,τ,hw.new (dst:=some x) (use:=[]) (ids:=[]) (id:=id) (B:= .rows (S.ver id) t d false (l.take hi.toNat)) rfl (Q39 rfl) trivial⟩;rintro a w ⟨hd,hsz,σ,β,hs⟩
     have:=hs.cut (t:=x) (id:=id) (ver:=ver) (k:=hi.toNat) (by show(S.get x).toA U=_;rw[e1];show A.c (.own id ver _ (hi - 0).toNat)=_;grind) (Ac e2) (by grind)
     refine⟨hd,hsz,_,_,Am.cast ?_ this⟩;refine Eq.trans ?_ (Acb (S:=S) (x:=x) (id:=id) (v:= .c (.own id (S.ver id) (l.take hi.toNat).length)) (B:= .rows (S.ver id) t d false (l.take hi.toNat))).symm
     have hlen:(l.take hi.toNat).length=hi.toNat:=by grind
     simp only[SB.toB,SA.toA,SV.toV,hlen,List.map_take];rfl
    ·cases h
   ·cases h
  ·exact⟨S,h,Dc.refl _,τ,hw⟩
  ·cases h
 |len x=>
  simp only[Cmd.run]at h;split at h
  ·rename_i id ver n e1
   have hok:=hw.get x;rw[e1]at hok;split at h
   ·rename_i ver' t d c l e2;split at h
    ·rename_i e3
     have e3:=Bb e3;subst e3
     have hn:n=l.length:=hok.2 _ e2 rfl;subst hn;refine⟨_,h,?_,τ,hw.upE x hok⟩
     have:(upE U S x (.c (.own id ver l.length))).toSt U=S.toSt U:=by
      rw[R4];refine St.Sim.eq ⟨fun t'=> ?_,fun i=>rfl,fun i=>rfl⟩
      show Aa (S.toSt U).env x _ t'=_
      by_cases e:t'=x
      ·subst e;rw[Q1];show _=(S.get t').toA U;rw[e1]
      grind [Q0]
     grind [Dc.refl]
    ·cases h
   ·cases h
  ·exact⟨S,h,Dc.refl _,τ,hw⟩
 |share id=>
  simp only[Cmd.run]at h;split at h
  ·rename_i ver cs e1;split at h
   ·rename_i e2
    have hcs:=(hw.2.2 id _ e1).2;refine⟨_,h,U0 (fun _=>true) e1 ?_ ?_,τ,hw.upH1 e1 rfl rfl rfl fun c hc=> ?_⟩
    ·simp only[allClosed,SB.toB,Ge,List.all_nil,Bool.and_true,List.all_map];exact Z1.2 fun c hc=>Q33 hU (Z1.1 e2 c hc)
    ·simp only[SB.toB,Hm]
     show Blk.mk _ _ _=Blk.mk _ _ _
     congr 1
     rw[J5,Q13,Z8,P3,Dr,Dr]
     congr 1
     exact Fk fun c hc=>J7 hU (Z1.1 e2 c hc)
    ·obtain⟨c0,h1,rfl⟩:=Ey.1 hc;cases c0 with
     |rowT t d l=>trivial
     |_=>exact hcs _ h1
   ·cases h
  ·cases h
theorem Q83 (hU:Ab U)(he:Fl F T): ∀(l:List Cmd) {S:SS U.D} {k:SS U.D->Option α},WF S->Q74 U T S k l=some r-> ∃S',k S'=some r∧Go1 F S S':=by
 intro l
 induction l with
 |nil=>intro S k hw h;exact⟨S,h,Dc.refl _,hw⟩
 |cons c l ih=>
  intro S k hw h;obtain⟨τ,hw⟩:=hw;obtain⟨S1,h1,g1,g2⟩:=Cmd.run_ok hU he hw (k:=fun S'=>Q74 U T S' k l) h;obtain⟨S2,h2,k1,k2⟩:=ih g2 h1;exact⟨S2,h2,g1.trans k1,k2⟩
end
end Go.Eng
namespace Go.Eng
section
variable {U:Un} {T:Tab} {F:Fr} {S S':SS U.D} {α:Type} {r:α} {X:Ox U α}
theorem Kb{spl:List Nat}{dst:Option Tmp}{rec:Ai U.D}{k:Ai U.D->Option α}(h:Nd U spl dst rec k=some r):k rec=some r:=by
 unfold Nd at h;split at h
 ·rename_i d e hv;split at h
  ·cases e with
   |true=>
    have:rec={rec with v:= .c (.bool true)}:=by cases rec;grind
    grind
   |false=>
    have:rec={rec with v:= .c (.bool false)}:=by cases rec;grind
    grind
  ·exact h
 ·exact h
theorem Mf (hU:Ab U)(he:Fl F T){draw:Bool}{dst:Option Tmp}{k:SS U.D->Option α}(hw:WF S)(h:Nf U T X draw dst S k=some r): ∃S',k S'=some r∧Go1 F S S'∧(draw=true->S'=S):=by
 unfold Nf at h;split at h
 ·grind [Q83]
 ·exact⟨S,h,⟨Dc.refl _,hw⟩,fun _=>rfl⟩
theorem Yq{a b:Option α}(h:Aik a b=some r):a=some r∧b=some r:=by
 by_cases e:a=b
 all_goals simp_all[Aik]
theorem U2{draw:Bool}{o:Oper}{e:Bool}(h:Lz U T draw S o=some e):
  draw=false∧o.guard=none∧ ∃(t:Nat) (x:Operand) (ty q:Nat) (l:List (U.D q)) (ti:TI) (el:Nat),o.op= .binOp .eql t x (.const (.slice none 0 0)) ty∧S.val T 0 x= .c (.row q l)∧tg T t=some ti∧ti.k= .slice el∧e=l.isEmpty:=by
 unfold Lz at h
 grind
theorem Ace{draw:Bool}{ops:Array Oper}{o:Oper}{l:List Oper}{fps:List FP}{k:SS U.D->Option α}{e:Bool}(hn:Lz U T draw S o=some e)(h:Ep U T X draw ops (o::l) S fps k=some r):
  (∀d,o.dst=some d->d<X.N)∧ ∀b:Bool,(b=true->e=true)->Ep U T X draw ops l (S.app o.dst {v:= .c (.bool b)}) (([],[],[])::fps) k=some r:=by
 unfold Ep at h;split at h
 ·rename_i hd;refine⟨fun d e=> ?_,?_⟩
  ·simp_all
  ·rw[hn]at h;simp only at h;cases e with
   |true=>
    obtain⟨h1,h2⟩:=Yq h
    simp_all
   |false=>
    grind
 ·cases h
theorem R6 (hU:Ab U)(he:Fl F T)(hX:Nt U T F.P X)(hw:WF S){draw:Bool}{ops:Array Oper}{o:Oper}{l:List Oper}{fps:List FP}{k:SS U.D->Option α}(hn:Lz U T draw S o=none)(h:Ep U T X draw ops (o::l) S fps k=some r):
  (∀d,o.dst=some d->d<X.N)∧ ∃(rec:Ai U.D) (us:List Tmp) (S1:SS U.D),Ep U T X draw ops l S1 ((us++rec.use,rec.fp.2)::fps) k=some r∧Go1 F (S.app o.dst rec) S1∧(draw=true->S1=S.app o.dst rec)∧
   ((o.guard=none∧us=[]∧B5 F T o (S.toSt U) (rec.toRec U))∨
    (∃j b d,o.guard=some (j,b)∧S6 ops j=some d∧((us=[d]∧(S.toSt U).env d= .c (.bool b)∧B5 F T o (S.toSt U) (rec.toRec U))∨
     (us=[]∧rec={v:= .c .skip,use:=[d]}∧((∃c,(S.toSt U).env d= .c (.bool c)∧(c==b)=false)∨(S.toSt U).env d= .c .skip))))):=by
 obtain⟨τ,hw⟩:=hw;unfold Ep at h;split at h
 ·rename_i hd;refine⟨fun d e=> ?_,?_⟩
  ·simp_all
  ·rw[hn]at h;simp only at h;split at h
   ·rename_i hg;obtain⟨rec,h1,h2,h3⟩:=Ab6 hU hw hX h;obtain⟨S1,h4,h5,h6⟩:=Mf hU he ⟨τ,h3⟩ (Kb h1);exact⟨rec,[],S1,h4,h5,h6,.inl ⟨hg,rfl,h2⟩⟩
   ·rename_i j b hg;split at h
    ·rename_i d hgt;split at h
     ·rename_i c hc
      have hcv:(S.toSt U).env d= .c (.bool c):=by show(S.get d).toA U=_;rw[hc];rfl
      split at h
      ·rename_i hcb;obtain⟨rec,h1,h2,h3⟩:=Ab6 hU hw hX h;obtain⟨S1,h4,h5,h6⟩:=Mf hU he ⟨τ,h3⟩ (Kb h1)
       grind
      ·rename_i hcb;exact⟨{v:= .c .skip,use:=[d]},[],_,h,⟨Dc.refl _,τ,hw.pure trivial⟩,fun _=>rfl,.inr ⟨j,b,d,hg,hgt,.inr ⟨rfl,rfl,.inl ⟨c,hcv,hcb⟩⟩⟩⟩
     ·rename_i hc;exact⟨{v:= .c .skip,use:=[d]},[],_,h,⟨Dc.refl _,τ,hw.pure trivial⟩,fun _=>rfl,.inr ⟨j,b,d,hg,hgt,.inr ⟨rfl,rfl,.inr (by show(S.get d).toA U=_;rw[hc];rfl)⟩⟩⟩
     ·cases h
    ·cases h
 ·cases h
theorem Aow{ops:Array Oper}{i:Nat}{S S':St}{l:List Oper}{Q:Exit->St->Prop}(h:Dc F S S')(k:VW F T ops i S' l Q):VW F T ops i S l Q:=fun he hf hl a w hs=>k he hf hl a w (h a w hs)
theorem Afw (hU:Ab U)(he:Fl F T)(hX:Nt U T F.P X){ops:Array Oper}{k:SS U.D->Option α}{Q:Exit->St->Prop}(hQ: ∀S',k S'=some r->WF S'->Q .normal (S'.toSt U)):
  ∀(l:List Oper) (S:SS U.D) (fps:List FP) (i:Nat),WF S->Ep U T X false ops l S fps k=some r->VW F T ops i (S.toSt U) l Q∧ ∀o∈l,∀d,o.dst=some d->d<X.N:=by
 intro l
 induction l with
 |nil=>intro S fps i hw h;exact⟨ve (hQ S h hw),fun o ho=>by cases ho⟩
 |cons o l ih=>
  intro S fps i hw h;cases hn:Lz U T false S o with
  |some e=>
   obtain⟨hd,hk⟩:=Ace hn h;obtain⟨_,hg,t,x,ty,q,lx,ti,el,ho,hx,ht,hkk,rfl⟩:=U2 hn
   have hwb: ∀b:Bool,WF (S.app o.dst {v:= .c (.bool b)}):=fun b=>by obtain⟨τ,hw⟩:=hw;exact⟨τ,hw.pure trivial⟩
   refine⟨vN ho (Hz hx) ht hkk hg fun b hb=> ?_,fun o' ho'=> ?_⟩
   ·have:=(ih _ _ (i+1) (hwb b) (hk b fun e=>by simp_all)).1
    rw[Q81]at this;exact this
   ·rcases Eg.1 ho' with rfl|ho'
    ·exact hd
    ·exact(ih _ _ (i+1) (hwb false) (hk false fun e=>by cases e)).2 o' ho'
  |none=>
  obtain⟨hd,rec,us,S1,h1,⟨hwk,hw1⟩,_,h3⟩:=R6 hU he hX hw hn h;obtain⟨g1,g2⟩:=ih S1 _ (i+1) hw1 h1
  have g1:=Aow hwk g1;rw[Q81]at g1;refine⟨?_,fun o' ho=> ?_⟩
  ·rcases h3 with ⟨hg,rfl,hst⟩|⟨j,b,d,hg,hgt,⟨rfl,hv,hst⟩|⟨rfl,rfl,⟨c,hv,hne⟩|hv⟩⟩
   ·grind [v0]
   ·exact u0 hst hg hgt hv g1
   ·exact uP hg hgt hv hne g1
   ·exact uS hg hgt hv g1
  grind
def fpR (r:Rec):FP:=(r.use,r.ids,Gg r)
theorem Acf (ops:Array Oper)(rs:List Rec):Jn ops (rs.map fpR)=P4 ops rs:=by
 unfold Jn P4
 congr 1
 funext j
 congr 1
 funext i
 rw[Dv,Dv];cases rs[i]? <;>cases rs[j]? <;>rfl
theorem VT.mono{ops:Array Oper}{i:Nat}{S:St}{l:List Oper}{K K':List Rec->St->Prop}(h:VT F T ops i S l K)(hk: ∀rs S',K rs S'->K' rs S'):VT F T ops i S l K':=fun he hf hl=>by
 obtain⟨rs,S',t,h2⟩:=h he hf hl
 grind
theorem Afx (hU:Ab U)(he:Fl F T)(hX:Nt U T F.P X){ops:Array Oper}{k:SS U.D->Option α}:
  ∀(l:List Oper) (S:SS U.D) (fps:List FP) (i:Nat),WF S->Ep U T X true ops l S fps k=some r→
   VT F T ops i (S.toSt U) l (fun rs S'=> ∃S1:SS U.D,S'=S1.toSt U∧WF S1∧k S1=some r∧Jn ops (fps.reverse++rs.map fpR)=true)∧ ∀o∈l,∀d,o.dst=some d->d<X.N:=by
 intro l
 induction l with
 |nil=>
  intro S fps i hw h;refine⟨ge ?_,fun o ho=>by cases ho⟩
  unfold Ep at h
  grind
 |cons o l ih=>
  intro S fps i hw h;obtain⟨hd,rec,us,S1,h1,⟨hwk,hw1⟩,hS1,h3⟩:=R6 hU he hX hw (by rfl) h
  have hS1:=hS1 rfl;subst hS1;obtain⟨g1,g2⟩:=ih _ _ (i+1) hw1 h1;rw[Q81]at g1
  have hfp:fpR {rec.toRec U with use:=us++rec.use}=(us++rec.use,rec.fp.2):=by
   show(us++rec.use,rec.ids,Gg (rec.toRec U))=_
   have:Gg (rec.toRec U)=rec.upd.map (·.1)++rec.bump:=by
    show(rec.upd.map _).map _++rec.bump=_
    simp_all
   rw[this];rfl
  have hK: ∀rs S',(∃S1:SS U.D,S'=S1.toSt U∧WF S1∧k S1=some r∧Jn ops (((us++rec.use,rec.fp.2)::fps).reverse++rs.map fpR)=true)→
    (∃S1:SS U.D,S'=S1.toSt U∧WF S1∧k S1=some r∧Jn ops (fps.reverse++({rec.toRec U with use:=us++rec.use}::rs).map fpR)=true):=by
   grind
  have g1:=g1.mono hK;refine⟨?_,fun o' ho=> ?_⟩
  ·rcases h3 with ⟨hg,rfl,hst⟩|⟨j,b,d,hg,hgt,⟨rfl,hv,hst⟩|⟨rfl,rfl,⟨c,hv,hne⟩|hv⟩⟩
   ·exact g0 hst hg g1
   ·exact q0 hst hg hgt hv g1
   ·exact qP hg hgt hv hne g1
   ·exact qS hg hgt hv g1
  grind
theorem R7{N:Nat}{l:List Oper}(h: ∀o∈l,∀d,o.dst=some d->d<N):V5 N l=true:=by
 refine Z1.2 fun o ho=> ?_
 grind
theorem W.weakF{c:Code}{S S':St}{Q:Exit->St->Prop}(h:Dc F S S')(k:W F c S' Q):W F c S Q:=fun a w hs=>k a w (h a w hs)
theorem Yr (hU:Ab U)(he:Fl F T)(hX:Nt U T F.P X)(hN:F.N=X.N)(hm:F.P.follows .mixedOrders=true){id:Nat}{ops:Array Oper}{draw:Bool}{k:SS U.D->Option α}{Q:Exit->St->Prop}(hQ: ∀S',k S'=some r->WF S'->Q .normal (S'.toSt U))(hw:WF S)(hdn:(!draw||Gh ops)=true)
  (h:Ep U T X draw ops ops.toList S [] k=some r):W F (.region id ops draw) (S.toSt U) Q:=by
 cases draw with
 |false=>
  obtain⟨g1,g2⟩:=Afw hU he hX hQ ops.toList S [] 0 hw h
  have:=Ah9 (id:=id) (ops:=ops.toList) he (by grind [R7]) (by simpa using g1)
  omega
 |true=>
  obtain⟨g1,g2⟩:=Afx hU he hX ops.toList S [] 0 hw h
  have:=Ah2 (id:=id) (ops:=ops.toList) (Q:=Q) he (by grind [R7]) hm (by simp_all) (by
   refine VT.mono (K:=fun rs S'=> ∃S1:SS U.D,S'=S1.toSt U∧WF S1∧k S1=some r∧Jn ops (([]:List FP).reverse++rs.map fpR)=true) (by simpa using g1) ?_
   simp_all[Acf])
  omega
end
end Go.Eng
namespace Go.Eng
section
variable {U:Un} {T:Tab} {F:Fr} {S S':SS U.D} {α:Type} {r:α}
def N0 (l:List (Nat×SA U.D)):List (Nat×A):=l.map fun p=>(p.1,p.2.toA U)
theorem Acg (H:List (Nat×Option (SB U.D)))(nv:List (Nat×Nat))(c:Nat): ∀(l:List (Nat×SA U.D)) (t:Nat),((⟨l,H,nv,c⟩:SS U.D).get t).toA U=K4 (N0 l) t:=by
 intro l
 induction l with
 |nil=>intro t;rfl
 |cons x r ih=>
  intro t;obtain⟨k,v⟩:=x;rw[J6]
  show _=if t=k then v.toA U else K4 (N0 r) t
  grind
def E5:List (Nat×Option (SB U.D))->List (Nat×Blk)
 |[]=>[]
 |(k,some B)::r=>(k,B.toB U)::E5 r
 |(k,none)::r=>E5 r
def Wu (l:List (Nat×Option (SB U.D))):Prop:= ∀p∈l,p.2.isSome=true
theorem Ach (e:List (Nat×SA U.D))(nv:List (Nat×Nat))(c:Nat): ∀(l:List (Nat×Option (SB U.D))) (i:Nat),Wu l->((⟨e,l,nv,c⟩:SS U.D).blk i).map (SB.toB U)=Jh (E5 l) i:=by
 intro l
 induction l with
 |nil=>intro i _;rfl
 |cons x r ih=>
  intro i h;obtain⟨k,b⟩:=x;cases b with
  |none=>have:=h (k,none) (by simp);cases this
  |some B=>
   rw[Ra]
   show _=if i=k then some (B.toB U)else Jh (E5 r) i
   split
   ·rfl
   ·exact ih i fun p hp=>h p (by simp[hp])
theorem R8: ∀a b:List (Nat×Option (SB U.D)),E5 (a++b)=E5 a++E5 b:=by
 intro a b
 induction a with
 |nil=>rfl
 |cons x r ih=>
  obtain⟨k,b'⟩:=x;cases b' with
  |none=>exact ih
  |some B=>grind [E5]
theorem Q70{l:List V}(h:l.all V.closed=true)(H:Nat->Option Blk):l.map (V.can H)=l:=
 (Fk fun v hv=>Ah7 (Z1.1 h v hv)).trans (List.map_id _)
theorem Kc (hU:Ab U)(d:Bool)(t:Nat)(l:List (U.D t))(H:Nat->Option Blk):(l.map (U.eT d t)).map (fun x=>x.map (V.can H))=l.map (U.eT d t):=by
 simp_all[Q70,Ab.eT]
theorem Q73 (hU:Ab U){cs:List (SV U.D)}(h:cs.all SV.shut=true):(cs.map (SV.toV U)).all V.closed=true:=by
 simp_all[Q33]
theorem Aci (hU:Ab U)(t:Nat)(a:U.D t)(H:Nat->Option Blk):((Fo U t a).toA U).can H=(Fo U t a).toA U:=by
 have hc:=Q73 hU (hU.csSh t a);unfold Fo;split
 ·show A.g _=A.g _;rw[Q70 hc]
 ·split
  ·rename_i v e;rw[e]at hc
   show A.c _=A.c _
   grind [Ah7]
  ·rfl
theorem Afy (hU:Ab U){τ:Nat->Int}(t:Nat)(a:U.D t):(Fo U t a).ok S τ:=by
 have hk: ∀c∈U.cs t a,c.ok S τ:=fun c hc=>Q49 (Z1.1 (hU.csSh t a) c hc) (hU.cellsTag false t a c hc);unfold Fo;split
 ·exact hk
 ·split
  ·rename_i v e;rw[e]at hk;exact hk v (by simp)
  ·trivial
theorem U3{W:List TC}{w:Option (Af U W)}{t:Nat}{l:List Qw}{cs0:List (SV U.D)}{q:Af U (Ng (.v t::l)++W)}(h:D0 U S w (.v t::l) cs0=some q):
  ∃c cs,cs0=c::cs∧ ∃a,U.fS t [c]=some a∧ ∃q',D0 U S w l cs=some q'∧q=(a,q'):=by
 cases cs0 with
 |nil=>exact absurd h (fun h=>by cases (show(none:Option (Af U (Ng (.v t::l)++W)))=some q from h))
 |cons c cs=>
  refine⟨c,cs,rfl,?_⟩
  have h:(match U.fS t [c],D0 U S w l cs with
   |some a,some q'=>some ((a,q'):U.D t×Af U (Ng l++W))
   |_,_=>none)=some q:=h
  grind
theorem U4{W:List TC}{w:Option (Af U W)}{e:Nat}{d:Bool}{l:List Qw}{cs0:List (SV U.D)}{q:Af U (Ng (.T e d::l)++W)}(h:D0 U S w (.T e d::l) cs0=some q):
  ∃(l':List (U.D e)) (cs:List (SV U.D)),cs0= .rowT e d l'::cs∧ ∃q',D0 U S w l cs=some q'∧q=(l',q'):=by
 have no:(none:Option (Af U (Ng (.T e d::l)++W)))=some q->False:=fun h=>by cases h
 cases cs0 with
 |nil=>exact(no h).elim
 |cons c cs=>
  cases c with
  |rowT e' d' l'=>
   have h:(match d'==d,decEq e' e,D0 U S w l cs with
    |true,.isTrue h,some q'=>some ((h ▸ l',q'):List (U.D e)×Af U (Ng l++W))
    |_,_,_=>none)=some q:=h
   cases e1:d'==d with
   |false=>grind
   |true=>
    have hd:=eq_of_beq e1;subst hd;cases e2:decEq e' e with
    |isFalse hne=>simp_all
    |isTrue he=>
     subst he;cases e3:D0 U S w l cs with
     |none=>grind
     |some q'=>rw[e1,e2,e3]at h;grind
  |_=>exact(no h).elim
theorem U5{W:List TC}{w:Option (Af U W)}{id:Nat}{l:List Qw}{cs0:List (SV U.D)}{q:Af U (Ng (.O id::l)++W)}(h:D0 U S w (.O id::l) cs0=some q):
  ∃(n:Nat) (cs:List (SV U.D)) (B:SB U.D),S.blk id=some B∧cs0= .own id B.ver n::cs∧ ∃q',D0 U S w l cs=some q'∧q=(n,q'):=by
 have no:(none:Option (Af U (Ng (.O id::l)++W)))=some q->False:=fun h=>by cases h
 cases cs0 with
 |nil=>exact(no h).elim
 |cons c cs=>
  cases c with
  |own id' ver n=>
   have h:(match S.blk id' with
    |some B=>match Nat.beq id id'&&Nat.beq ver B.ver,D0 U S w l cs with
     |true,some q'=>some ((n,q'):Nat×Af U (Ng l++W))
     |_,_=>none
    |none=>none)=some q:=h
   split at h
   ·rename_i B e0;split at h
    ·rename_i q' e1 e3;simp only[Z4]at e1
     have h1:=Bb e1.1
     have h2:=Bb e1.2
     grind
    ·cases h
   ·cases h
  |_=>exact(no h).elim
theorem R9{id:Nat}{cl:List Qw}{l:List (Nat×Zd)}{q:Af U (Q3 ((id,.ob cl)::l))}(h:C2 U S ((id,.ob cl)::l)=some q): ∃ver cs,S.blk id=some (.box ver cs)∧D0 U S (C2 U S l) cl cs=some q:=by
 have h:(match S.blk id with
  |some (.box _ cs)=>D0 U S (C2 U S l) cl cs
  |_=>none)=some q:=h
 grind
theorem N1{id e:Nat}{d:Bool}{cl:List Qw}{l:List (Nat×Zd)}{q:Af U (Q3 ((id,.opn e d cl)::l))}(h:C2 U S ((id,.opn e d cl)::l)=some q): ∃ver q0 g i cs,∃l0:List (U.D e),∃q',S.blk id=some (.opn ver e d q0 l0 g i cs)∧D0 U S (C2 U S l) cl cs=some q'∧q=(l0,(i.toNat,q')):=by
 have h:(match S.blk id with
  |some (.opn _ e' d' _ l0 _ i cs)=>match d'==d,decEq e' e,D0 U S (C2 U S l) cl cs with
   |true,.isTrue h,some q=>some ((h ▸ l0,(i.toNat,q)):List (U.D e)×Nat×Af U (Ng cl++Q3 l))
   |_,_,_=>none
  |_=>none)=some q:=h
 split at h
 ·rename_i ver e' d' q0 l0 g i cs hB;cases e1:d'==d with
  |false=>grind
  |true=>
   have hd:=eq_of_beq e1;subst hd;cases e2:decEq e' e with
   |isFalse hne=>simp_all
   |isTrue he=>
    subst he;cases e3:D0 U S (C2 U S l) cl cs with
    |none=>grind
    |some q'=>rw[e1,e2,e3]at h;grind
 ·cases h
theorem N2{id:Nat}{cl:List Qw}{l:List (Nat×Zd)}{q:Af U (Q3 ((id,.box cl)::l))}(h:C2 U S ((id,.box cl)::l)=some q): ∃ver cs,S.blk id=some (.box ver cs)∧D0 U S (C2 U S l) cl cs=some q:=by
 have h:(match S.blk id with
  |some (.box _ cs)=>D0 U S (C2 U S l) cl cs
  |_=>none)=some q:=h
 grind
theorem Sa{id t:Nat}{m:Bool}{l:List (Nat×Zd)}{q:Af U (Q3 ((id,.st t m)::l))}(h:C2 U S ((id,.st t m)::l)=some q): ∃ver cs a q',S.blk id=some (.box ver cs)∧U.fO t m cs=some a∧C2 U S l=some q'∧q=(a,q'):=by
 have h:(match S.blk id with
  |some (.box _ cs)=>match U.fO t m cs,C2 U S l with
   |some a,some q=>some ((a,q):U.D t×Af U (Q3 l))
   |_,_=>none
  |_=>none)=some q:=h
 grind
theorem N3{id n e:Nat}{l:List (Nat×Zd)}{q:Af U (Q3 ((id,.arr n e)::l))}(h:C2 U S ((id,.arr n e)::l)=some q): ∃ver,∃l':List (U.D e),∃q',S.blk id=some (.arr ver n e l')∧C2 U S l=some q'∧q=(l',q'):=by
 have h:(match S.blk id with
  |some (.arr _ n' e' l')=>match Nat.beq n n',decEq e' e,C2 U S l with
   |true,.isTrue h,some q=>some ((h ▸ l',q):List (U.D e)×Af U (Q3 l))
   |_,_,_=>none
  |_=>none)=some q:=h
 split at h
 ·rename_i ver n' e' l' hB;cases e1:Nat.beq n n' with
  |false=>grind
  |true=>
   have hn:=Bb e1;subst hn;cases e2:decEq e' e with
   |isFalse hne=>simp_all
   |isTrue he=>
    subst he;cases e3:C2 U S l with
    |none=>grind
    |some q'=>rw[e1,e2,e3]at h;grind
 ·cases h
theorem N4{id e:Nat}{d:Bool}{l:List (Nat×Zd)}{q:Af U (Q3 ((id,.rws e d)::l))}(h:C2 U S ((id,.rws e d)::l)=some q): ∃ver c,∃l':List (U.D e),∃q',S.blk id=some (.rows ver e d c l')∧C2 U S l=some q'∧q=(l',q'):=by
 have h:(match S.blk id with
  |some (.rows _ e' d' _ l')=>match d'==d,decEq e' e,C2 U S l with
   |true,.isTrue h,some q=>some ((h ▸ l',q):List (U.D e)×Af U (Q3 l))
   |_,_,_=>none
  |_=>none)=some q:=h
 split at h
 ·rename_i ver e' d' c l' hB;cases e1:d'==d with
  |false=>grind
  |true=>
   have hd:=eq_of_beq e1;subst hd;cases e2:decEq e' e with
   |isFalse hne=>simp_all
   |isTrue he=>
    subst he;cases e3:C2 U S l with
    |none=>grind
    |some q'=>rw[e1,e2,e3]at h;grind
 ·cases h
theorem U6{W:List TC}{w:Option (Af U W)}{x t:Nat}{l:List (Nat×Sh)}{q:Af U (Q8 W ((x,.v t)::l))}(h:Db U S w ((x,.v t)::l)=some q): ∃a q',Xw U t (S.get x)=some a∧Db U S w l=some q'∧q=(a,q'):=by
 have h:(match Xw U t (S.get x),Db U S w l with
  |some a,some q=>some ((a,q):U.D t×Af U (Q8 W l))
  |_,_=>none)=some q:=h
 grind
theorem U7{W:List TC}{w:Option (Af U W)}{x id0 e:Nat}{d:Bool}{l:List (Nat×Sh)}{q:Af U (Q8 W ((x,.o id0 e d)::l))}(h:Db U S w ((x,.o id0 e d)::l)=some q):
  ∃ver n c,∃l':List (U.D e),∃q',S.get x= .c (.own id0 ver n)∧S.blk id0=some (.rows ver e d c l')∧Db U S w l=some q'∧q=(l',q'):=by
 have h:(match S.get x with
  | .c (.own id ver n)=>match S.blk id with
   |some (.rows ver' e' d' _ l')=>match Nat.beq ver ver'&&Nat.beq id id0&&(d'==d),decEq e' e,Db U S w l with
    |true,.isTrue h,some q=>some ((h ▸ l',q):List (U.D e)×Af U (Q8 W l))
    |_,_,_=>none
   |_=>none
  |_=>none)=some q:=h
 split at h
 ·rename_i id ver n ev;split at h
  ·rename_i ver' e' d' c l' hB;cases e1:(Nat.beq ver ver'&&Nat.beq id id0&&(d'==d))with
   |false=>grind
   |true=>
    cases e2:decEq e' e with
    |isFalse hne=>simp_all
    |isTrue he=>
     subst he;cases e3:Db U S w l with
     |none=>grind
     |some q'=>
      rw[e1,e2,e3]at h;simp only[Z4]at e1
      have h1:=Bb e1.1.1
      have h2:=Bb e1.1.2
      grind
  ·cases h
 ·cases h
theorem U8{W:List TC}{w:Option (Af U W)}{x id:Nat}{l:List (Nat×Sh)}{q:Af U (Q8 W ((x,.p id)::l))}(h:Db U S w ((x,.p id)::l)=some q):
  ∃B,S.get x= .c (.ptr id B.ver 0)∧S.blk id=some B∧Db U S w l=some q:=by
 have h:(match S.get x with
  | .c (.ptr id' ver 0)=>match S.blk id with
   |some B=>match Nat.beq id id'&&Nat.beq ver B.ver,Db U S w l with
    |true,some q=>some (q:Af U (Q8 W l))
    |_,_=>none
   |none=>none
  |_=>none)=some q:=h
 split at h
 ·rename_i id' ver ev;split at h
  ·rename_i B hB;split at h
   ·rename_i q' e1 e2;simp only[Z4]at e1
    have h1:=Bb e1.1
    have h2:=Bb e1.2;subst h1;subst h2;exact⟨B,ev,hB,e2.trans h⟩
   ·cases h
  ·cases h
 ·cases h
theorem Acj{W:List TC}{w:Option (Af U W)}: ∀(ts:List Nat) (rs:List (Σ t,U.D t)) {q:Af U (Jo ts W)},Aaz U w ts rs=some q->w=some (Fc U W ts q).2∧rs=(Fc U W ts q).1:=by
 intro ts
 induction ts with
 |nil=>
  intro rs q h;cases rs with
  |nil=>exact⟨h,rfl⟩
  |cons z r=>cases h
 |cons t ts ih=>
  intro rs q h;cases rs with
  |nil=>cases h
  |cons z r=>
   obtain⟨t',x⟩:=z
   have h:(match decEq t' t,Aaz U w ts r with
    | .isTrue h,some q=>some ((h ▸ x,q):U.D t×Af U (Jo ts W))
    |_,_=>none)=some q:=h
   split at h
   ·rename_i e q' e1 e2;subst e;cases h;obtain⟨k1,k2⟩:=ih r e2
    simp_all[Fc]
   ·cases h
theorem U9{W:List TC}{w:Option (Af U W)}{x t:Nat}{l:List (Nat×Sh)}{q:Af U (Q8 W ((x,.r t)::l))}(h:Db U S w ((x,.r t)::l)=some q): ∃(a:U.D t) (q':Af U (Q8 W l)),S.get x= .c (.ptrB t a 0)∧Db U S w l=some q'∧q=(a,q'):=by
 have h:(match S.get x with
  | .c (.ptrB t' a 0)=>match decEq t' t,Db U S w l with
   | .isTrue h,some q=>some ((h ▸ a,q):U.D t×Af U (Q8 W l))
   |_,_=>none
  |_=>none)=some q:=h
 split at h
 ·rename_i t' a ev;split at h
  all_goals grind
 ·cases h
theorem Va{W:List TC}{w:Option (Af U W)}{x fid:Nat}{caps ts:List Nat}{l:List (Nat×Sh)}{q:Af U (Q8 W ((x,.f fid caps ts)::l))}(h:Db U S w ((x,.f fid caps ts)::l)=some q):
  S.get x= .c (.fn fid (caps.map fun i=>(i,match S.blk i with|some B=>B.ver|none=>0)) (Fc U (Q8 W l) ts q).1)∧(∀i∈caps,∃B,S.blk i=some B)∧Db U S w l=some (Fc U (Q8 W l) ts q).2:=by
 have h:(match S.get x with
  | .c (.fn f cs rs)=>match Nat.beq f fid&&decide (cs=caps.map fun i=>(i,match S.blk i with|some B=>B.ver|none=>0))&&caps.all (fun i=>(S.blk i).isSome)with
   |true=>Aaz U (Db U S w l) ts rs
   |false=>(none:Option (Af U (Jo ts (Q8 W l))))
  |_=>none)=some q:=h
 split at h
 ·rename_i f cs rs ev;split at h
  ·rename_i e1;simp only[Z4,decide_eq_true_eq]at e1
   have h1:=Bb e1.1.1;subst h1;obtain⟨k1,k2⟩:=Acj ts rs h;refine⟨by grind,fun i hi=> ?_,k1⟩
   have:=Z1.1 e1.2 i hi;cases hB:S.blk i with
   |none=>grind
   |some B=>grind
  ·cases h
 ·cases h
theorem Vb{W:List TC}{w:Option (Af U W)}{x:Nat}{v:Bool}{l:List (Nat×Sh)}{q:Af U (Q8 W ((x,.b v)::l))}(h:Db U S w ((x,.b v)::l)=some q):
  S.get x= .c (.bool v)∧Db U S w l=some q:=by
 have h:(match S.get x with
  | .c (.bool v')=>match v==v',Db U S w l with
   |true,some q=>some (q:Af U (Q8 W l))
   |_,_=>none
  |_=>none)=some q:=h
 split at h
 ·rename_i v' ev;split at h
  ·rename_i q' e1 e2
   have e1:=eq_of_beq e1;subst e1;exact⟨ev,e2.trans h⟩
  ·cases h
 ·cases h
def Ag4 (S:SS U.D)(c:SV U.D):Prop:=(c.shut=true∧Eu c=true)∨ ∃id n B,c= .own id 0 n∧S.blk id=some B∧n=B.len
theorem Vc (hU:Ab U){τ:Nat->Int}{W:List TC}{w:Option (Af U W)}: ∀(l:List Qw) (cs:List (SV U.D)) {q:Af U (Ng l++W)},(∀c∈cs,c.ok S τ)->D0 U S w l cs=some q→
  (Dl U W l q).1.map (SV.toV U)=(cs.map (SV.toV U)).map (V.can (S.toSt U).H)∧w=some (Dl U W l q).2∧(∀c∈(Dl U W l q).1,Ag4 S c):=by
 intro l
 induction l with
 |nil=>
  intro cs q _ h;cases cs with
  |nil=>exact⟨rfl,h,by intro c hc;cases hc⟩
  |cons x r=>cases h
 |cons x l ih=>
  intro cs q hok h;cases x with
  |v t=>
   obtain⟨c,cs,rfl,a,e1,q',e2,rfl⟩:=U3 h;obtain⟨g1,g2,g3⟩:=ih cs (fun c hc=>hok c (by simp[hc])) e2
   have h1:=hU.fS t _ a e1
   have hsh:=hU.csSh t a
   have htg: ∀c∈U.cs t a,Eu c=true:=hU.cellsTag false t a
   have hone:(Ui U t a).toV U=c.toV U∧(Ui U t a).shut=true∧Eu (Ui U t a)=true:=by
    rw[←hU.cs t a]at h1;unfold Ui;generalize U.cs t a=l0 at h1 hsh htg ⊢;cases l0 with
    |nil=>cases h1
    |cons v l0=>
     simp_all
   refine⟨?_,g2,fun c' hc'=> ?_⟩
   ·show((Ui U t a)::(Dl U W l q').1).map (SV.toV U)=_;rw[Z8,Z8,Z8,g1,←hone.1,Ah7 (Q33 hU hone.2.1)]
   ·have hc':c'=Ui U t a∨c'∈(Dl U W l q').1:=Eg.1 hc';rcases hc' with rfl|hc'
    ·exact .inl hone.2
    grind
  |T e d=>
   obtain⟨l',cs',rfl,q',e3,rfl⟩:=U4 h;obtain⟨g1,g2,g3⟩:=ih cs' (fun c hc=>hok c (by simp[hc])) e3
   refine⟨?_,g2,fun c' hc'=> ?_⟩
   ·show((SV.rowT e d l')::(Dl U W l q').1).map (SV.toV U)=_;rw[Z8,Z8,Z8,g1];rfl
   ·have hc':c'= .rowT e d l'∨c'∈(Dl U W l q').1:=Eg.1 hc';rcases hc' with rfl|hc'
    ·exact .inl ⟨rfl,rfl⟩
    grind
  |O id=>
   obtain⟨n,cs',B,hB,rfl,q',e3,rfl⟩:=U5 h;obtain⟨g1,g2,g3⟩:=ih cs' (fun c hc=>hok c (by simp[hc])) e3
   have hn:n=B.len:=(hok (.own id B.ver n) (by simp)).2 B hB rfl
   refine⟨?_,g2,fun c' hc'=> ?_⟩
   ·show((SV.own id 0 n)::(Dl U W l q').1).map (SV.toV U)=_;rw[Z8,Z8,Z8,g1]
    congr 1
    show V.own id 0 0 n=V.can1 (S.toSt U).H (.own id B.ver 0 n)
    simp_all[V.can1,Q93,Ac]
   ·have hc':c'= .own id 0 n∨c'∈(Dl U W l q').1:=Eg.1 hc';rcases hc' with rfl|hc'
    ·exact .inr ⟨id,n,B,rfl,hB,hn⟩
    grind
def Ack (S:SS U.D)(l:List (Nat×Option (SB U.D))):Prop:= ∀p∈l,∃B B',p.2=some B'∧S.blk p.1=some B∧B.len=B'.len∧B'.ver=0∧ ∀(S2:SS U.D) (τ:Nat->Int),(∀c,Ag4 S c->c.ok S2 τ)->B'.ok S2 τ
theorem Q47{S:St}{id:Nat}{B:Blk}{l:List Nat}(h:S.H id=some B):Cm S (id::l)=(id,⟨0,B.es,B.xs.map fun x=>x.map (V.can S.H)⟩)::Cm S l:=by
 grind [Cm]
theorem Ajc (hU:Ab U){τ:Nat->Int}(hw:A4 S τ): ∀(l:List (Nat×Zd)) {q:Af U (Q3 l)},C2 U S l=some q->E5 (D7 U l q)=Cm (S.toSt U) (l.map (·.1))∧Ack S (D7 U l q):=by
 intro l
 induction l with
 |nil=>intro q h;exact⟨rfl,by intro p hp;cases hp⟩
 |cons x l ih=>
  intro q h;obtain⟨id,b⟩:=x;cases b with
  |box cl=>
   obtain⟨ver,cs,hB,h⟩:=N2 h;obtain⟨g1,g2,g3⟩:=Vc hU cl cs (hw.2.2 id _ hB).2 h;obtain⟨k1,k2⟩:=ih g2
   have hlen:(Dl U (Q3 l) cl q).1.length=cs.length:=by
    have:=congrArg List.length g1
    grind
   refine⟨?_,fun p hp=> ?_⟩
   ·simp_all[Q47,Ac,SB.toB,E5,D7]
   ·have hp:p=(id,some (.box 0 (Dl U (Q3 l) cl q).1))∨p∈D7 U l (Dl U (Q3 l) cl q).2:=Eg.1 hp;rcases hp with rfl|hp
    ·exact⟨_,_,rfl,hB,rfl,rfl,fun S2 τ hF c hc=>hF c (g3 c hc)⟩
    ·exact k2 p hp
  |st t m=>
   obtain⟨ver,cs,a,q',hB,e1,e2,rfl⟩:=Sa h;obtain⟨k1,k2⟩:=ih e2
   have h1:=hU.fO t m cs a e1
   have hlen:(U.cO t m a).length=cs.length:=by
    have:=congrArg List.length h1
    grind
   have hsh:=hU.shut t m a;refine⟨?_,fun p hp=> ?_⟩
   ·rw[Z8,Q47 (Ac hB)]
    show(id,(SB.box 0 (U.cO t m a)).toB U)::E5 (D7 U l q')=_
    grind [SB.toB,Q70,Q73]
   ·have hp:p=(id,some (.box 0 (U.cO t m a)))∨p∈D7 U l q':=Eg.1 hp;rcases hp with rfl|hp
    ·exact⟨_,_,rfl,hB,rfl,rfl,fun S2 τ _ c hc=>Q49 (Z1.1 hsh c hc) (Z1.1 (hU.tagO t m a) c hc)⟩
    ·exact k2 p hp
  |arr n e=>
   obtain⟨ver,l',q',hB,e3,rfl⟩:=N3 h;obtain⟨k1,k2⟩:=ih e3;refine⟨?_,fun p hp=> ?_⟩
   ·rw[Z8,Q47 (Ac hB)]
    show(id,(SB.arr 0 n e l').toB U)::E5 (D7 U l q')=_;rw[k1];simp only[SB.toB]
    congr 3
    simp only[Z8,P3];rw[Q70];refine Z1.2 fun v hv=> ?_;obtain⟨x,h1,h2⟩:=List.mem_flatten.1 hv;obtain⟨a,_,rfl⟩:=Ey.1 h1;exact Z1.1 ((hU.en e).closed a) v h2
   ·have hp:p=(id,some (.arr 0 n e l'))∨p∈D7 U l q':=Eg.1 hp;rcases hp with rfl|hp
    ·exact⟨_,_,rfl,hB,rfl,rfl,fun S2 τ _=>trivial⟩
    ·exact k2 p hp
  |rws e d=>
   obtain⟨ver,c,l',q',hB,e3,rfl⟩:=N4 h;obtain⟨k1,k2⟩:=ih e3;refine⟨?_,fun p hp=> ?_⟩
   ·rw[Z8,Q47 (Ac hB)]
    grind [SB.toB,E5,D7,Kc]
   ·have hp:p=(id,some (.rows 0 e d false l'))∨p∈D7 U l q':=Eg.1 hp;rcases hp with rfl|hp
    ·exact⟨_,_,rfl,hB,rfl,rfl,fun S2 τ _=>trivial⟩
    ·exact k2 p hp
  |ob cl=>
   obtain⟨ver,cs,hB,h⟩:=R9 h;obtain⟨g1,g2,g3⟩:=Vc hU cl cs (hw.2.2 id _ hB).2 h;obtain⟨k1,k2⟩:=ih g2
   have hlen:(Dl U (Q3 l) cl q).1.length=cs.length:=by
    have:=congrArg List.length g1
    grind
   refine⟨?_,fun p hp=> ?_⟩
   ·simp_all[Q47,Ac,SB.toB,E5,D7]
   ·have hp:p=(id,some (.box 0 (Dl U (Q3 l) cl q).1))∨p∈D7 U l (Dl U (Q3 l) cl q).2:=Eg.1 hp;rcases hp with rfl|hp
    ·exact⟨_,_,rfl,hB,rfl,rfl,fun S2 τ hF c hc=>hF c (g3 c hc)⟩
    ·exact k2 p hp
  |opn e d cl=>
   obtain⟨ver,q0,g,i,cs,l0,q',hB,hx,rfl⟩:=N1 h;obtain⟨hi,_,hcs,hcl,_⟩:=(hw.2.2 id _ hB).2;obtain⟨g1,g2,g3⟩:=Vc hU cl cs hcs hx;obtain⟨k1,k2⟩:=ih g2
   have hlen:(Dl U (Q3 l) cl q').1.length=cs.length:=by
    have:=congrArg List.length g1
    grind
   have hii:((i.toNat:Nat):Int)=i:=Int.toNat_of_nonneg hi.1;refine⟨?_,fun p hp=> ?_⟩
   ·rw[Z8,Q47 (Ac hB)]
    show(id,(SB.opn 0 e d true l0 0 (i.toNat:Int) (Dl U (Q3 l) cl q').1).toB U)::E5 (D7 U l (Dl U (Q3 l) cl q').2)=_
    grind [SB.toB,List.map_set,Kc]
   ·have hp:p=(id,some (.opn 0 e d true l0 0 (i.toNat:Int) (Dl U (Q3 l) cl q').1))∨p∈D7 U l (Dl U (Q3 l) cl q').2:=Eg.1 hp;rcases hp with rfl|hp
    ·exact⟨_,_,rfl,hB,rfl,rfl,fun S2 τ hF=>⟨by omega,fun h=>absurd rfl h,fun c hc=>hF c (g3 c hc),by omega,fun h=>by cases h⟩⟩
    ·exact k2 p hp
def Acl:List (Nat×Sh)->List Nat
 |[]=>[]
 |(x,.o id _ _)::r=>id::Acl r
 |_::r=>Acl r
def Amc (S:SS U.D)(l:List (Nat×SA U.D)):Prop:= ∀p∈l,(∀(S2:SS U.D) (τ:Nat->Int),p.2.ok S2 τ)∨ ∃id n B,p.2= .c (.own id 0 n)∧S.blk id=some B∧n=B.len
theorem Ajd (hU:Ab U){τ:Nat->Int}(hw:A4 S τ){W:List TC}{w:Option (Af U W)}: ∀(l:List (Nat×Sh)) {q:Af U (Q8 W l)},Db U S w l=some q→
  N0 (Ca U W l q).1=Fv (S.toSt U) (l.map (·.1))∧E5 (Ca U W l q).2.1=Cm (S.toSt U) (Acl l)∧w=some (Ca U W l q).2.2∧Amc S (Ca U W l q).1∧Ack S (Ca U W l q).2.1:=by
 intro l
 induction l with
 |nil=>intro q h;exact⟨rfl,rfl,h,(by intro p hp;cases hp),(by intro p hp;cases hp)⟩
 |cons x l ih=>
  intro q h;obtain⟨x,sh⟩:=x;cases sh with
  |v t=>
   obtain⟨a,q',e1,e2,rfl⟩:=U6 h;obtain⟨g1,g2,g3,g4,g5⟩:=ih e2;refine⟨?_,g2,g3,fun p hp=> ?_,g5⟩
   ·show(x,(Fo U t a).toA U)::N0 (Ca U W l q').1=(x,((S.get x).toA U).can (S.toSt U).H)::_
    grind [Rq,Aci]
   ·have hp:p=(x,Fo U t a)∨p∈(Ca U W l q').1:=Eg.1 hp;rcases hp with rfl|hp
    ·grind [Afy]
    ·exact g4 p hp
  |o id0 e d=>
   obtain⟨ver,n,c,l',q',ev,hB,e3,rfl⟩:=U7 h;obtain⟨g1,g2,g3,g4,g5⟩:=ih e3
   have hv:=hw.get x;rw[ev]at hv
   have hn:n=l'.length:=hv.2 _ hB rfl;refine⟨?_,?_,g3,fun p hp=> ?_,fun p hp=> ?_⟩
   ·show(x,A.c (.own id0 0 0 l'.length))::N0 (Ca U W l q').1=(x,((S.get x).toA U).can (S.toSt U).H)::_;rw[g1,ev]
    show _=(x,A.c (V.can1 (S.toSt U).H (.own id0 ver 0 n)))::_
    simp_all[V.can1,SB.toB,Ac]
   ·show(id0,(SB.rows 0 e d false l').toB U)::E5 (Ca U W l q').2.1=Cm _ (id0::Acl l);rw[Q47 (Ac hB),g2]
    grind [SB.toB,Kc]
   ·have hp:p=(x,.c (.own id0 0 l'.length))∨p∈(Ca U W l q').1:=Eg.1 hp;rcases hp with rfl|hp
    ·exact .inr ⟨_,_,_,rfl,hB,rfl⟩
    ·exact g4 p hp
   ·have hp:p=(id0,some (.rows 0 e d false l'))∨p∈(Ca U W l q').2.1:=Eg.1 hp;rcases hp with rfl|hp
    ·exact⟨_,_,rfl,hB,rfl,rfl,fun S2 τ _=>trivial⟩
    ·exact g5 p hp
  |p id=>
   obtain⟨B,ev,hB,e2⟩:=U8 h;obtain⟨g1,g2,g3,g4,g5⟩:=ih e2;refine⟨?_,g2,g3,fun p hp=> ?_,g5⟩
   ·show(x,A.c (.ptr id 0 0 0))::N0 (Ca U W l q).1=(x,((S.get x).toA U).can (S.toSt U).H)::_;rw[g1,ev]
    show _=(x,A.c (V.can1 (S.toSt U).H (.ptr id B.ver 0 0)))::_
    simp_all[V.can1,Q93,Ac]
   ·have hp:p=(x,.c (.ptr id 0 0))∨p∈(Ca U W l q).1:=Eg.1 hp;rcases hp with rfl|hp
    ·exact .inl fun S2 τ=>trivial
    ·exact g4 p hp
  |r t=>
   obtain⟨a,q',ev,e2,rfl⟩:=U9 h;obtain⟨g1,g2,g3,g4,g5⟩:=ih e2;refine⟨?_,g2,g3,fun p hp=> ?_,g5⟩
   ·show(x,A.c (.ip (U.sz t) [U.en t a] 0 0))::N0 (Ca U W l q').1=(x,((S.get x).toA U).can (S.toSt U).H)::_;rw[g1,ev];rfl
   ·have hp:p=(x,.c (.ptrB t a 0))∨p∈(Ca U W l q').1:=Eg.1 hp;rcases hp with rfl|hp
    ·exact .inl fun S2 τ=>trivial
    ·exact g4 p hp
  |f fid caps ts=>
   obtain⟨ev,hall,e2⟩:=Va h;obtain⟨g1,g2,g3,g4,g5⟩:=ih e2
   have hq:Ca U W ((x,.f fid caps ts)::l) q=((x,.c (.fn fid (caps.map fun i=>(i,0)) (Fc U (Q8 W l) ts q).1))::(Ca U W l (Fc U (Q8 W l) ts q).2).1,(Ca U W l (Fc U (Q8 W l) ts q).2).2.1,(Ca U W l (Fc U (Q8 W l) ts q).2).2.2):=rfl;rw[hq];refine⟨?_,g2,g3,fun p hp=> ?_,g5⟩
   ·show(x,A.c (.fn fid (((caps.map fun i=>(i,0)).map fun c=>V.ptr c.1 c.2 0 0)++(Fc U (Q8 W l) ts q).1.map fun z=>V.ip (U.sz z.1) [U.en z.1 z.2] 0 0)))::N0 (Ca U W l (Fc U (Q8 W l) ts q).2).1=(x,((S.get x).toA U).can (S.toSt U).H)::_;rw[g1,ev]
    show _=(x,A.c (V.fn fid ((((caps.map fun i=>(i,match S.blk i with|some B=>B.ver|none=>0)).map fun c=>V.ptr c.1 c.2 0 0)++(Fc U (Q8 W l) ts q).1.map fun z=>V.ip (U.sz z.1) [U.en z.1 z.2] 0 0).map (V.can1 (S.toSt U).H))))::_
    rw[Vu,Dr,Dr,Dr,Dr]
    congr 4
    congr 1
    refine Fk fun i hi=> ?_;obtain⟨B,hB⟩:=hall i hi
    simp_all[V.can1,Q93,Ac]
   ·have hp:p=(x,.c (.fn fid (caps.map fun i=>(i,0)) (Fc U (Q8 W l) ts q).1))∨p∈(Ca U W l (Fc U (Q8 W l) ts q).2).1:=Eg.1 hp;rcases hp with rfl|hp
    ·exact .inl fun S2 τ=>trivial
    ·exact g4 p hp
  |b v=>
   obtain⟨ev,e2⟩:=Vb h;obtain⟨g1,g2,g3,g4,g5⟩:=ih e2;refine⟨?_,g2,g3,fun p hp=> ?_,g5⟩
   ·show(x,A.c (.bool v))::N0 (Ca U W l q).1=(x,((S.get x).toA U).can (S.toSt U).H)::_;rw[g1,ev];rfl
   ·have hp:p=(x,.c (.bool v))∨p∈(Ca U W l q).1:=Eg.1 hp;rcases hp with rfl|hp
    ·exact .inl fun S2 τ=>trivial
    ·exact g4 p hp
theorem Q98{β:Type}: ∀ {l:List (Nat×β)} {n:Nat} {v:β},lk l n=some v->(n,v)∈l:=by
 intro l
 induction l with
 |nil=>intro n v h;cases h
 |cons x r ih=>
  grind [Sz]
theorem Aje (hU:Ab U)(hw:WF S){s:Ej}{q:Af U s.codes}(h:s.ext U S=some q):Dc F (S.toSt U) ((s.emb U q).toSt U)∧WF (s.emb U q):=by
 obtain⟨τ,hw⟩:=hw;obtain⟨g1,g2,g3,g4,g5⟩:=Ajd hU hw s.e h;obtain⟨k1,k2⟩:=Ajc hU hw s.b g3
 have hfrom:Ack S ((Ca U (Q3 s.b) s.e q).2.1++D7 U s.b (Ca U (Q3 s.b) s.e q).2.2):=by
  intro p hp;rcases Mj.1 hp with hp|hp
  ·exact g5 p hp
  ·exact k2 p hp
 have hsome:Wu ((Ca U (Q3 s.b) s.e q).2.1++D7 U s.b (Ca U (Q3 s.b) s.e q).2.2):=fun p hp=>by
  obtain⟨B,B',e,_⟩:=hfrom p hp
  grind
 have hst:StL (Fv (S.toSt U) (s.e.map (·.1))) (Cm (S.toSt U) (Acl s.e++s.b.map (·.1)))=(s.emb U q).toSt U:=by
  refine St.Sim.eq ⟨fun t=> ?_,fun i=> ?_,fun i=>rfl⟩
  ·show K4 _ t=_;rw[←g1];exact(Acg _ _ _ _ t).symm
  ·show Jh _ i=_;rw[Mu,←g2,←k1,←R8];exact(Ach _ _ _ _ i hsome).symm
 refine⟨?_,fun g=>((g - 2) / 2:Nat),fun n=>by simp,fun t v ht=> ?_,fun id B hB=> ?_⟩
 ·rintro a w ⟨hd,hsz,σ,β,hs⟩;exact⟨hd,hsz,σ,β,Am.cast hst (hs.can _ _)⟩
 ·have hm:=Q98 ht;rcases g4 _ hm with h1|⟨id,n,B,h1,h2,h3⟩
  ·grind
  ·have h1:v= .c (.own id 0 n):=h1;subst h1;refine⟨Nat.zero_lt_one,fun C hC _=> ?_⟩;simp only[SS.blk]at hC;split at hC
   ·rename_i b hb;subst hC;obtain⟨B2,B2',q1,q2,q3,_⟩:=hfrom _ (Q98 hb)
    grind
   grind
 ·simp only[SS.blk]at hB;split at hB
  ·rename_i b hb;subst hB;obtain⟨B2,B2',q1,q2,q3,q4,q5⟩:=hfrom _ (Q98 hb);cases q1;refine⟨by rw[q4];exact Nat.zero_lt_one,q5 _ _ fun c hc=> ?_⟩
   rcases hc with hc|⟨id',n,B',rfl,h2,h3⟩
   ·exact Q49 hc.1 hc.2
   ·refine⟨Nat.zero_lt_one,fun C hC _=> ?_⟩;simp only[SS.blk]at hC;split at hC
    ·rename_i b hb';subst hC;obtain⟨B3,B3',r1,r2,r3,_⟩:=hfrom _ (Q98 hb')
     grind
    grind
  grind
theorem Acm (hU:Ab U)(he:Fl F T)(hw:WF S){s:Ej}{f:Af U s.codes->Option α}(h:arr U T s f S=some r): ∃q,f q=some r∧Dc F (S.toSt U) ((s.emb U q).toSt U)∧WF (s.emb U q):=by
 unfold arr at h;obtain⟨S1,h1,h2,h3⟩:=Q83 hU he _ hw h;obtain⟨q,h4,h5⟩:=Option.bind_eq_some_iff.1 h1
 grind [Aje,Dc.trans]
end
end Go.Eng
namespace Go.Eng
def Sb:List Bool->Nat->Nat
 |[],p=>p
 |false::r,p=>Sb r (2*p)
 |true::r,p=>Sb r (2*p+1)
theorem Ys: ∀(n m p:Nat) (acc:List Bool),p≤n->p≤m->Uh n p acc=Uh m p acc:=by
 intro n
 induction n with
 |zero=>
  intro m p acc h1 _
  have:p=0:=by omega
  subst this;cases m<;>rfl
 |succ n ih=>
  intro m p acc h1 h2;cases m with
  |zero=>
   grind
  |succ m=>
   simp only[Uh]
   grind
theorem Acn: ∀(n p:Nat) (acc:List Bool),Uh n p acc=Uh n p []++acc:=by
 intro n
 induction n with
 |zero=>intro p acc;rfl
 |succ n ih=>
  grind [Uh]
theorem Vd{p:Nat}(hp:1≤p)(b:Bool):Uh (2*p+b.toNat) (2*p+b.toNat) []=Uh p p []++[b]:=by
 have hb:b.toNat≤1:=by cases b<;>decide
 obtain⟨m,hm⟩: ∃m,2*p+b.toNat=m+1:=⟨2*p+b.toNat - 1,by omega⟩
 have h1:Nat.ble (2*p+b.toNat) 1=false:=by
  cases e:Nat.ble (2*p+b.toNat) 1 with
  |false=>rfl
  |true=>have:=Ex e;omega
 have h2:(2*p+b.toNat) / 2=p:=by omega
 have h3:Nat.beq ((2*p+b.toNat) % 2) 1=b:=by
  have:(2*p+b.toNat) % 2=b.toNat:=by omega
  rw[this];cases b<;>rfl
 have h4:Uh (2*p+b.toNat) (2*p+b.toNat) []=Uh m p [b]:=by
  grind [Uh]
 rw[h4,Acn,Ys m p p [] (by omega) (Z9 _)]
theorem Aco (js:List Nat): ∀(l l2:List Bool) (p:Nat) (c:Code) (fr:List Fm),Er js (l++l2) p c fr=(Er js l p c fr).bind fun x=>Er js l2 (Sb l p) x.1 x.2:=by
 intro l
 induction l with
 |nil=>intro l2 p c fr;rfl
 |cons b l ih=>
  intro l2 p c fr;rw[Z45];cases c with
  |seq x y=>
   cases b with
   |false=>
    simp only[Er,Sb];cases js.contains p<;>exact ih _ _ _ _
   |true=>exact ih _ _ _ _
  |cond x a b'=>cases b<;>exact ih _ _ _ _
  |block id x=>
   cases b with
   |false=>exact ih _ _ _ _
   |true=>rfl
  |loop x=>
   cases b with
   |false=>exact ih _ _ _ _
   |true=>rfl
  |_=>rfl
theorem Yt: ∀(n p:Nat) (acc:List Bool),p≤n->1≤p->Sb (Uh n p acc) 1=Sb acc p:=by
 intro n
 induction n with
 |zero=>omega
 |succ n ih=>
  intro p acc h1 h2;simp only[Uh];split
  ·rename_i e
   have:=Ex e
   grind
  ·rename_i e
   have: ¬p≤1:=fun h=>by grind [Nat.ble_eq_true_of_le]
   rw[ih (p / 2) _ (by omega) (by omega)]
   cases e2:Nat.beq (p % 2) 1 with
   |true=>grind [Nat.eq_of_beq_eq_true,Sb]
   |false=>
    have:p % 2≠1:=by intro h;simp_all
    grind [Sb]
variable {js:List Nat} {c0:Code}
theorem Ajf{p:Nat}(hp:1≤p)(b:Bool):K5 js c0 (2*p+b.toNat)=(K5 js c0 p).bind fun x=>Er js [b] p x.1 x.2:=by
 unfold K5;rw[Vd hp b,Aco,Yt p p [] (Z9 _) hp];rfl
theorem Wv{p:Nat}{c:Code}{fr:List Fm}(hp:1≤p)(h:K5 js c0 p=some (c,fr)):K5 js c0 (2*p)=Er js [false] p c fr:=by
 have:=Ajf (js:=js) (c0:=c0) hp false
 grind
theorem Acp{p:Nat}{c:Code}{fr:List Fm}(hp:1≤p)(h:K5 js c0 p=some (c,fr)):K5 js c0 (2*p+1)=Er js [true] p c fr:=by
 have:=Ajf (js:=js) (c0:=c0) hp true
 grind
def Ve (js:List Nat)(c0:Code):List Fm->Prop
 |[]=>True
 | .th c p::r=>1≤p∧K5 js c0 p=some (c,r)∧Ve js c0 r
 | .bl _::r=>Ve js c0 r
 | .lp _::r=>Ve js c0 r
 | .jn p::r=>(∃a b,K5 js c0 p=some (.seq a b,r))∧Ve js c0 r
def Ag5 (n:Nat)(fr:List Fm):Prop:= ∀p,Fm.lp p∈fr->p<n
theorem Acq: ∀(p:Nat) {c:Code} {fr:List Fm},1≤p->K5 js c0 p=some (c,fr)->Ve js c0 fr∧Ag5 p fr:=by
 intro p
 induction p using Nat.strongRecOn with
 |ind p ih=>
  intro c fr hp h;rcases Hn p 2 with h2|h2
  ·have:p=1:=by omega
   subst this
   have:some (c0,([]:List Fm))=some (c,fr):=h;cases this;exact⟨trivial,by intro p hp;cases hp⟩
  ·obtain⟨q,b,rfl⟩: ∃q b,p=2*q+Bool.toNat b:=by
    refine⟨p / 2,Nat.beq (p % 2) 1,?_⟩;cases e:Nat.beq (p % 2) 1 with
    |true=>grind [Nat.eq_of_beq_eq_true]
    |false=>
     have:p % 2≠1:=by intro h;simp_all
     grind
   have hb:b.toNat≤1:=by cases b<;>decide
   have hq:1≤q:=by omega
   have h0:=h;rw[Ajf hq b]at h;obtain⟨⟨c1,fr1⟩,h3,h4⟩:=Option.bind_eq_some_iff.1 h;obtain⟨k1,k2⟩:=ih q (by omega) hq h3
   have mono:Ag5 (2*q+b.toNat) fr1:=fun p' hp'=>by have:=k2 p' hp';omega
   have h4:Er js [b] q c1 fr1=some (c,fr):=h4;cases c1 with
   |seq x y=>
    cases b with
    |false=>
     simp only[Er]at h4;split at h4
     ·cases h4;exact⟨⟨⟨_,_,h3⟩,k1⟩,fun p' hp'=>by
       rcases Eg.1 hp' with e|e
       ·cases e
       ·exact mono p' e⟩
     ·cases h4;refine⟨⟨by omega,?_,k1⟩,fun p' hp'=>by
       rcases Eg.1 hp' with e|e
       ·cases e
       ·exact mono p' e⟩
      rw[Acp hq h3];rfl
    |true=>cases h4;grind
   |cond x a b'=>cases b<;>(cases h4;grind)
   |block id x=>
    cases b with
    |false=>
     cases h4;exact⟨k1,fun p' hp'=>by
      rcases Eg.1 hp' with e|e
      ·cases e
      ·exact mono p' e⟩
    |true=>cases h4
   |loop x=>
    cases b with
    |false=>
     cases h4;exact⟨k1,fun p' hp'=>by
      rcases Eg.1 hp' with e|e
      ·grind
      ·exact mono p' e⟩
    |true=>cases h4
   |_=>cases h4
section
variable {U:Un} {T:Tab} {α:Type}
def BP (U:Un){α:Type}(F:Fr)(r:α)(B:List (Nat×(SS U.D->Option α)))(p:Nat)(S:St):Prop:= ∃f S1,lk B p=some f∧Dc F S (S1.toSt U)∧WF S1∧f S1=some r
def QS (U:Un){α:Type}(F:Fr)(js:List Nat)(c0:Code)(r:α)(R0:St->Prop)(B:List (Nat×(SS U.D->Option α))):List Fm->Exit->St->Prop
 |[]=>fun e S=>(e= .normal∨e= .ret)∧R0 S
 | .th c _::fr=>Exit.andThen (fun S=>W F c S (QS U F js c0 r R0 B fr)) (QS U F js c0 r R0 B fr)
 | .bl id::fr=>Exit.shutBlock id (QS U F js c0 r R0 B fr)
 | .lp p::fr=>Exit.andThen (BP U F r B p) (QS U F js c0 r R0 B fr)
 | .jn p::fr=>Exit.andThen (fun S=> ∀a b fr',K5 js c0 p=some (.seq a b,fr')->W F b S (QS U F js c0 r R0 B fr)) (QS U F js c0 r R0 B fr)
theorem Sc{F:Fr}{r:α}{R0:St->Prop}{B B':List (Nat×(SS U.D->Option α))}: ∀(fr:List Fm),(∀p,Fm.lp p∈fr->lk B p=lk B' p)->QS U F js c0 r R0 B fr=QS U F js c0 r R0 B' fr:=by
 intro fr
 induction fr with
 |nil=>intro _;rfl
 |cons x fr ih=>
  intro h
  have:=ih fun p hp=>h p (by simp[hp])
  cases x with
  |th c p=>grind [QS]
  |bl id=>grind [QS]
  |lp p=>
   have h1:BP U F r B p=BP U F r B' p:=by
    funext S
    grind [BP]
   grind [QS]
  |jn p=>grind [QS]
theorem Ajg{F:Fr}{r:α}{R0:St->Prop}{B:List (Nat×(SS U.D->Option α))}{S:St}(h:R0 S): ∀(fr:List Fm),QS U F js c0 r R0 B fr .ret S:=by
 intro fr
 induction fr with
 |nil=>exact⟨.inr rfl,h⟩
 |cons x fr ih=>cases x<;>exact ih
def Ag6 (U:Un)(F:Fr)(js:List Nat)(c0:Code)(r:α)(R0:St->Prop)(B:List (Nat×(SS U.D->Option α)))(p:Nat)(f:SS U.D->Option α):Prop:=
 1≤p∧ ∀c fr,K5 js c0 p=some (c,fr)-> ∀S1:SS U.D,WF S1->f S1=some r→
  (∀x,c= .loop x->W F c (S1.toSt U) (QS U F js c0 r R0 B fr))∧(∀a b,c= .seq a b->W F b (S1.toSt U) (QS U F js c0 r R0 B fr))
theorem Amd (hU:Ab U){F:Fr}(he:Fl F T){X:Ox U α}(hX:Nt U T F.P X)(hN:F.N=X.N)(hm:F.P.follows .mixedOrders=true){r:α}{R0:St->Prop}(hfin: ∀S:SS U.D,WF S->X.fin S=some r->R0 (S.toSt U))
  (hcut: ∀p f,lk X.Λ p=some f->Ag6 U F X.js c0 r R0 X.Λb p f): ∀n:Nat,
  (∀c p fr (S:SS U.D),1≤p->K5 X.js c0 p=some (c,fr)->WF S->go U T X n (.code c p) S fr=some r->W F c (S.toSt U) (QS U F X.js c0 r R0 X.Λb fr))∧
  (∀fr (S:SS U.D),Ve X.js c0 fr->WF S->go U T X n .nrm S fr=some r->QS U F X.js c0 r R0 X.Λb fr .normal (S.toSt U))∧
  (∀id fr (S:SS U.D),Ve X.js c0 fr->WF S->go U T X n (.ex id) S fr=some r->QS U F X.js c0 r R0 X.Λb fr (.exit id) (S.toSt U)):=by
 intro n
 induction n with
 |zero=>exact⟨(by intro _ _ _ _ _ _ _ h;cases h),(by intro _ _ _ _ h;cases h),(by intro _ _ _ _ _ h;cases h)⟩
 |succ n ih=>
  obtain⟨ihc,ihn,ihe⟩:=ih;refine⟨fun c p fr S hp hat hw h=> ?_,fun fr S hfr hw h=> ?_,fun id fr S hfr hw h=> ?_⟩
  ·obtain⟨hfr,_⟩:=Acq p hp hat;cases c with
   |skip=>exact Ahc (ihn fr S hfr hw h)
   |label l=>exact Aeb (ihn fr S hfr hw h)
   |region id ops draw=>
    have h:(match !draw||Gh ops with
     |true=>Q74 U T S (fun S=>Ep U T X draw ops ops.toList S [] fun S'=>go U T X n .nrm S' fr) (lkD X.pre id)
     |false=>none)=some r:=h
    split at h
    ·rename_i hdn;obtain⟨S1,h1,h2,h3⟩:=Q83 hU he _ hw h
     grind [W.weakF,Yr]
    ·cases h
   |seq a b=>
    have h:(match X.js.contains p with
     |true=>go U T X n (.code a (2*p)) S (.jn p::fr)
     |false=>go U T X n (.code a (2*p)) S (.th b (2*p+1)::fr))=some r:=h
    have hl:=Wv hp hat;refine Ale ?_;split at h
    ·rename_i hj
     have hl:K5 X.js c0 (2*p)=some (a,.jn p::fr):=by grind [Er]
     have:=ihc a (2*p) _ S (by omega) hl hw h
     refine this.mono fun e S' hq=> ?_;cases e with
     |normal=>exact hq a b fr hat
     |_=>exact hq
    ·rename_i hj
     have hl:K5 X.js c0 (2*p)=some (a,.th b (2*p+1)::fr):=by grind [Er]
     exact ihc a (2*p) _ S (by omega) hl hw h
   |cond x a b=>
    have h:(match S.val T 0 x with
     | .c (.bool e)=>bif e then go U T X n (.code a (2*p)) S fr else go U T X n (.code b (2*p+1)) S fr
     |_=>none)=some r:=h
    split at h
    ·rename_i e ev;refine Ahz (b:=e) (Q62 ev) ?_;cases e with
     |true=>exact ihc a (2*p) fr S (by omega) (by rw[Wv hp hat];rfl) hw h
     |false=>exact ihc b (2*p+1) fr S (by omega) (by rw[Acp hp hat];rfl) hw h
    ·cases h
   |block id c=>
    exact Aec (ihc c (2*p) _ S (by omega) (by rw[Wv hp hat];rfl) hw h)
   |loop x=>
    have h:lkF U X.Λ p S=some r:=h;unfold lkF at h;split at h
    ·rename_i f ef;exact((hcut p f ef).2 _ _ hat S hw h).1 x rfl
    ·cases h
   |exit id=>exact Ahd (ihe id fr S hfr hw h)
   |ret=>exact Ald (Ajg (hfin S hw h) fr)
   |_=>cases h
  ·cases fr with
   |nil=>exact⟨.inl rfl,hfin S hw h⟩
   |cons x fr=>
    cases x with
    |th c p=>exact ihc c p fr S hfr.1 hfr.2.1 hw h
    |bl id=>exact ihn fr S hfr hw h
    |lp p=>
     have h:lkF U X.Λb p S=some r:=h;unfold lkF at h;split at h
     ·rename_i f ef;exact⟨f,S,ef,Dc.refl _,hw,h⟩
     ·cases h
    |jn p=>
     have h:lkF U X.Λ p S=some r:=h;unfold lkF at h;split at h
     ·rename_i f ef;obtain⟨⟨a,b,hat⟩,hfr⟩:=hfr;intro a' b' fr' hat';rw[hat]at hat';cases hat';exact((hcut p f ef).2 _ _ hat S hw h).2 a b rfl
     ·cases h
  ·cases fr with
   |nil=>cases h
   |cons x fr=>
    cases x with
    |th c p=>exact ihe id fr S hfr.2.2 hw h
    |bl id'=>
     replace h:(match Nat.beq id id' with
      |true=>go U T X n .nrm S fr
      |false=>go U T X n (.ex id) S fr)=some r:=h
     split at h
     ·rename_i e
      have:=Bb e;subst this;exact Ah6 (ihn fr S hfr hw h)
     ·rename_i e;exact Aet e (ihe id fr S hfr hw h)
    |lp p=>exact ihe id fr S hfr hw h
    |jn p=>exact ihe id fr S hfr.2 hw h
end
end Go.Eng
namespace Go.Eng
section
variable {U:Un} {T:Tab} {S:SS U.D} {τ:Nat->Int}
theorem Sd{c:TC}: ∀ {r:List TC} (x:c.T U) (y:Aw U r),Aw.hd U (Aw.mk U x y)=x:=by
 intro r;cases r<;>(intro x y;rfl)
theorem Se{c:TC}: ∀ {r:List TC} (x:c.T U) (y:Aw U r),Aw.tl U (Aw.mk U x y)=y:=by
 intro r;cases r with
 |nil=>intro x y;rfl
 |cons=>intro x y;rfl
theorem Mg (hU:Ab U){outs:List Nat}{id ver t:Nat}{d c:Bool}{l:List (U.D t)}(h:S.blk id=some (.rows ver t d c l)):Fy false outs (S.toSt U).H id=(SB.rows 0 t d false l).toB U:=by
 unfold Fy;rw[Ac h];cases d with
 |true=>exact(hU.eF t).lowB_at _ _ _ _ _
 |false=>exact Go.Eng.lowB_at (hU.en t) _ _ _ _ _
theorem Ajh (hU:Ab U){outs:List Nat}{W:List TC}: ∀(es:List (Nat×Bool)) (n:Nat) (w:Option (Aw U W)) (q:Aw U (es.map (fun e=>TC.l e.1)++W)),Aa2 U S es W n w=some q→
  w=some (F0 U es W q).2∧(List.range' (n+1) es.length).map (Fy false outs (S.toSt U).H)=(F0 U es W q).1.map (SB.toB U)∧ ∀i∈List.range' (n+1) es.length,((S.toSt U).H i).isSome=true:=by
 intro es
 induction es with
 |nil=>intro n w q h;exact⟨h,rfl,by grind⟩
 |cons e es ih=>
  intro n w q h;obtain⟨e,d⟩:=e;unfold Aa2 at h;split at h
  ·rename_i ver e' d' c l q' hB hq;cases e1:d'==d with
   |false=>grind
   |true=>
    have hd:=eq_of_beq e1;subst hd;cases e2:decEq e' e with
    |isFalse hne=>simp_all
    |isTrue he=>
     subst he;rw[e1,e2]at h
     have h:=Z32 h;obtain⟨g1,g2,g3⟩:=ih (n+1) w q' hq
     have hh:Aw.hd U q=l:=by rw[←h];exact Sd (c:= .l e') l q'
     have ht:Aw.tl U q=q':=by grind [Se]
     refine⟨?_,?_,fun i hi=> ?_⟩
     ·simp_all[F0]
     ·show _=List.map (SB.toB U) (SB.rows 0 e' d' false (Aw.hd U q)::(F0 U es W (Aw.tl U q)).1);rw[ht,hh,Z8,←g2,←Mg hU (outs:=outs) hB];rfl
     ·have hi:i∈(n+1)::List.range' (n+1+1) es.length:=hi;rcases Eg.1 hi with rfl|hi
      all_goals simp_all[Ac]
  ·cases h
theorem Aji (hU:Ab U){outs:List Nat}: ∀(ps:List PM) (n:Nat) (q:Aw U (Ax ps)),Nj U S ps n=some q→
  (List.range' (n+1) (Bg ps)).map (Fy false outs (S.toSt U).H)=(Gl U ps q).map (SB.toB U)∧ ∀i∈List.range' (n+1) (Bg ps),((S.toSt U).H i).isSome=true:=by
 intro ps
 induction ps with
 |nil=>intro n q h;exact⟨rfl,by grind [Bg]⟩
 |cons p ps ih=>
  intro n q h;cases p with
  |v t=>exact ih n q h
  |r t=>exact ih n q h
  |f fid caps ts=>exact ih n q h
  |b t m=>
   have h:(match S.blk (n+1),Nj U S ps (n+1)with
    |some (.box _ cs),some q=>match U.fO t m cs with
     |some x=>some (Aw.mk U (c:= .d t) x q)
     |none=>none
    |_,_=>none)=some q:=h
   split at h
   ·rename_i ver cs q' hB hq;split at h
    ·rename_i x hx
     have h:=Z32 h;obtain⟨g1,g2⟩:=ih (n+1) q' hq
     have hh:Aw.hd U q=x:=by grind [Sd]
     have ht:Aw.tl U q=q':=by grind [Se]
     have hc:=hU.fO t m cs x hx
     have hlen:(U.cO t m x).length=cs.length:=by
      have:=congrArg List.length hc
      grind
     have hr:List.range' (n+1) (Bg (.b t m::ps))=(n+1)::List.range' (n+1+1) (Bg ps):=by
      rfl
     rw[hr];refine⟨?_,fun i hi=> ?_⟩
     ·show _=List.map (SB.toB U) (SB.box 0 (U.cO t m (Aw.hd U q))::Gl U ps (Aw.tl U q));rw[ht,hh,Z8,Z8,←g1]
      congr 1
      unfold Fy;rw[Ac hB]
      show Blk.mk 0 cs.length [(cs.map (SV.toV U)).map _]=Blk.mk 0 _ [_];rw[hlen,hc]
      congr 2
      refine(Fk fun v hv=> ?_).trans (List.map_id _);exact Afn (Z1.1 (Q73 hU (hU.shut t m x)) v hv) _ _ _
     ·rcases Eg.1 hi with rfl|hi
      all_goals simp_all[Ac]
    ·cases h
   ·cases h
  |w t m es=>
   have h:Aa2 U S es (Ax ps) n (Nj U S ps (n+es.length))=some q:=h;obtain⟨g1,g2,g3⟩:=Ajh hU (outs:=outs) es n _ q h;obtain⟨k1,k2⟩:=ih (n+es.length) _ g1
   have hr:List.range' (n+1) (Bg (.w t m es::ps))=List.range' (n+1) es.length++List.range' (n+es.length+1) (Bg ps):=by
    show List.range' (n+1) (Bg ps+es.length)=_;rw[Nat.add_comm (Bg ps),←List.range'_append_1,Nat.add_right_comm]
   rw[hr];refine⟨?_,fun i hi=> ?_⟩
   ·simp_all[Gl]
   grind
def El (agg:Bool)(cs:List V):A:=match agg with
 |true=> .g cs
 |false=> .c (cs.headD .undef)
theorem Afz{t sz:Nat}{agg:Bool}(h:szT T t=some (sz,agg)): ∃ti,tg T t=some ti∧ti.size=sz∧ti.k.agg=agg:=by
 unfold szT at h
 grind
theorem Kd (hw:A4 S τ){x:ResultVar}{agg:Bool}{cs:List (SV U.D)}(h:Q64 U T S x=some (agg,cs)):
  Ln T (S.toSt U) x=some (El agg (cs.map (SV.toV U)))∧(∀c∈cs,c.ok S τ)∧(agg=false-> ∃v,cs=[v]):=by
 cases x with
 |tmp t=>
  have hok:=hw.get t;simp only[Q64]at h;split at h
  ·rename_i v e;cases h;rw[e]at hok;refine⟨?_,fun c hc=> ?_,fun _=>⟨_,rfl⟩⟩
   ·show some ((S.get t).toA U)=_;rw[e];rfl
   ·simp only[Pz]at hc;subst hc;exact hok
  ·rename_i cs' e;cases h;rw[e]at hok;exact⟨by show some ((S.get t).toA U)=_;rw[e];rfl,hok,fun h=>by cases h⟩
  ·cases h
 |cell a t=>
  simp only[Q64]at h;split at h
  ·rename_i id ver j sz agg' ea es;obtain⟨ti,ht,rfl,rfl⟩:=Afz es;split at h
   ·rename_i ver' cs' hB;split at h
    ·rename_i hc;cases h;simp only[Z4]at hc;obtain⟨⟨⟨h1,h2⟩,h3⟩,h4⟩:=hc
     have h1:=Bb h1;subst h1
     have h2:=Ex h2
     have hlen:(slc cs' j ti.size).length=ti.size:=by grind [slc]
     refine⟨?_,fun c hc=>(hw.2.2 id _ hB).2 c (List.mem_of_mem_drop (Z42 hc)),fun ha=> ?_⟩
     ·have e1:(S.toSt U).env a= .c (.ptr id ver 0 j):=by show(S.get a).toA U=_;rw[ea];rfl
      have hno:(((cs'.map (SV.toV U)).drop j).take ti.size).all (fun v=> !Sx v)=true:=by
       rw[←H2];exact Rk h3
      simp only[Ln,ht,e1,Ac hB,SB.toB,Y8];rw[if_pos ⟨trivial,by grind,hno⟩,←H2]
      unfold Di El;cases hk:ti.k.agg with
      |true=>rfl
      |false=>
       rw[hk]at h4
       have h5:ti.size=1:=Bb (by grind)
       rw[h5]at hlen ⊢;generalize slc cs' j 1=l at hlen ⊢
       match l,hlen with
       |[v],_=>rfl
     ·rw[ha]at h4
      have h5:ti.size=1:=Bb (by grind)
      rw[h5]at hlen ⊢;generalize slc cs' j 1=l at hlen ⊢
      match l,hlen with
      |[v],_=>grind
    ·cases h
   ·cases h
  ·cases h
theorem Acr{v:SV U.D}(h:isT v=false):(v.toV U).cold=v.toV U:=by cases v<;>first|rfl|cases h
theorem Sf{v:V}(h:v.cold.closed=true):v.closed=true:=by
 cases v with
 |row o es xs=>rfl
 |int=>rfl
 |bool=>rfl
 |str=>rfl
 |nilp=>rfl
 |_=>cases h
def F5 (outs:List Nat)(H:Nat->Option Blk)(v:V):V:=(v.low false outs H).cold
theorem Ame{outs:List Nat}{H:Nat->Option Blk}{v:V}(h:v.closed=true):F5 outs H v=v.cold:=by grind [F5,Afn]
theorem Sg{outs:List Nat}{H:Nat->Option Blk}{agg:Bool}{l:List V}:A.low false outs H (El agg l)=El agg (l.map (F5 outs H)):=by
 cases agg with
 |true=>rfl
 |false=>show A.c (F5 outs H (l.headD .undef))=A.c ((l.map (F5 outs H)).headD .undef);rw[L9 (F5 outs H) l .undef .undef rfl]
theorem Vf{v:SV U.D}{r cs':List (SV U.D)}{is:List Nat}(h:E4 U S (v::r)=some (cs',is)):
  (∃id ver n t d c l cs2 is2,v= .own id ver n∧S.blk id=some (.rows ver t d c l)∧E4 U S r=some (cs2,is2)∧cs'= .rowT t d l::cs2∧is=id::is2)∨(v.shut=true∧isT v=false∧ ∃cs2,E4 U S r=some (cs2,is)∧cs'=v::cs2):=by
 have other:(match v.shut&& !isT v,E4 U S r with
  |true,some (cs,ids)=>some (v::cs,ids)
  |_,_=>none)=some (cs',is)->(v.shut=true∧isT v=false∧ ∃cs2,E4 U S r=some (cs2,is)∧cs'=v::cs2):=by
  grind
 cases v with
 |own id ver n=>
  left
  have h:(match S.blk id,E4 U S r with
   |some (.rows ver' t d _ l),some (cs,ids)=>match Nat.beq ver ver' with
    |true=>some (.rowT t d l::cs,id::ids)
    |false=>none
   |_,_=>none)=some (cs',is):=h
  split at h
  ·rename_i ver' t d c l cs2 is2 hB e2;split at h
   ·rename_i e3
    have:=Bb e3
    grind
   ·cases h
  ·cases h
 |_=>exact .inr (other h)
theorem Af0 (hU:Ab U){outs:List Nat}(hnd:outs.Nodup): ∀(cs:List (SV U.D)) {cs':List (SV U.D)} {is:List Nat} (n:Nat) (cs1:List (SV U.D)),E4 U S cs=some (cs',is)->(∀c∈cs,c.ok S τ)->cs'.map (SV.toV U)=cs1.map (SV.toV U)->(∀(k id:Nat),is[k]? =some id->outs[n+k]? =some id)→
  (cs.map (SV.toV U)).map (F5 outs (S.toSt U).H)=(Q9 U n cs1).1.map (SV.toV U)∧is.map (Fy false outs (S.toSt U).H)=(Q9 U n cs1).2.map (SB.toB U)∧ ∀id∈is,((S.toSt U).H id).isSome=true:=by
 intro cs
 induction cs with
 |nil=>
  intro cs' is n cs1 h _ h1 _;cases h;cases cs1 with
  |nil=>exact⟨rfl,rfl,by grind⟩
  |cons x r=>cases h1
 |cons v r ih=>
  intro cs' is n cs1 h hok h1 hat;rcases Vf h with ⟨id,ver,m,t,d,c,l,cs2,is2,rfl,hB,e2,rfl,rfl⟩|⟨hs,hT,cs2,e2,rfl⟩
  ·cases cs1 with
   |nil=>cases h1
   |cons x s=>
    simp only[Z8,S5]at h1;obtain⟨t',d',l',rfl,hsz,hll⟩:=Wm (v:=x) h1.1.symm;obtain⟨g1,g2,g3⟩:=ih (n+1) s e2 (fun c hc=>hok c (by simp[hc])) h1.2 (fun k id' hk=>by
     have:=hat (k+1) id' (by grind)
     grind)
    have hv:=hok (.own id ver m) (by simp)
    have hm:m=l.length:=hv.2 _ hB rfl
    have hll2:l'.length=l.length:=by
     have:=congrArg List.length hll
     grind
    have hpos:Ar outs id=some n:=Ft hnd (hat 0 id (by simp))
    refine⟨?_,?_,fun i hi=> ?_⟩
    ·simp only[Q9,Z8,g1,S5,and_true]
     show(V.low1 false outs (S.toSt U).H (.own id ver 0 m)).cold=_;simp only[V.low1,Ac hB,SB.toB,if_true,hpos,hm,hll2];rfl
    ·simp only[Q9,Z8,g2,S5,and_true];rw[Mg hU hB]
     grind [SB.toB]
    ·rcases Eg.1 hi with rfl|hi
     all_goals simp_all[Ac]
  ·cases cs1 with
   |nil=>cases h1
   |cons x s=>
    simp only[Z8,S5]at h1;obtain⟨g1,g2,g3⟩:=ih n s e2 (fun c hc=>hok c (by simp[hc])) h1.2 hat
    have hx:isT x=false:=by
     cases hx:isT x with
     |false=>rfl
     |true=>
      have h2:=Q59 (U:=U) x;rw[←h1.1,Q59,hT,hx]at h2;cases h2
    rw[Q26 hx];refine⟨?_,g2,g3⟩;simp only[Z8,g1,S5,and_true];rw[Ame (Q33 hU hs),Acr hT,h1.1]
theorem Acs (cs:List (SV U.D)): ∀n m:Nat,(Q9 U n cs).2=(Q9 U m cs).2:=by
 induction cs with
 |nil=>intro n m;rfl
 |cons v r ih=>
  intro n m
  by_cases hx:isT v=true
  ·cases v with
   |rowT t d l=>grind [Q9]
   |_=>cases hx
  grind [Q26]
theorem Yu{x:ResultVar}{id:Nat}{cs:List (SV U.D)}(h:Wh U S x=some (id,cs)): ∃y ver,x= .tmp y∧S.get y= .c (.ptr id ver 0)∧S.blk id=some (.box ver cs):=by
 cases x with
 |cell a t=>cases h
 |tmp y=>
  simp only[Wh]at h;split at h
  ·rename_i id' ver e;split at h
   ·rename_i ver' cs' hB;split at h
    all_goals simp_all
   ·cases h
  ·cases h
theorem Ajj (hU:Ab U)(hw:A4 S τ){W:List TC}{w:Option (Aw U W)}{outs:List Nat}(hnd:outs.Nodup): ∀(xs:List ResultVar) (rs:List RM) (n:Nat) {q:Aw U (rs.map RM.code++W)} {ids:List Nat},Nk U T S w xs rs=some (q,ids)->(∀(k id:Nat),ids[k]? =some id->outs[n+k]? =some id)→
  ∃Cs:List (Bool×List (SV U.D)),xs.map (Ln T (S.toSt U))=Cs.map (fun c=>some (El c.1 (c.2.map (SV.toV U))))∧
   Cs.map (fun c=>(c.1,(c.2.map (SV.toV U)).map (F5 outs (S.toSt U).H)))=(Dz U W rs n q).1.map (fun c=>(c.1,c.2.map (SV.toV U)))∧(∀c∈Cs,c.1=false-> ∃v,c.2=[v])∧
   ids.map (Fy false outs (S.toSt U).H)=(Dz U W rs n q).2.1.map (SB.toB U)∧w=some (Dz U W rs n q).2.2∧ ∀id∈ids,((S.toSt U).H id).isSome=true:=by
 intro xs
 induction xs with
 |nil=>
  intro rs n q ids h _;cases rs with
  |nil=>
   unfold Nk at h;cases hw':w with
   |none=>grind
   |some q'=>
    rw[hw']at h;cases h;exact⟨[],rfl,rfl,(by grind),rfl,rfl,(by grind)⟩
  |cons r rs=>cases r<;>cases h
 |cons x xs ih=>
  intro rs n q ids h hat;cases rs with
  |nil=>cases h
  |cons r rs=>
   cases r with
   |v t=>
    have h:(match Q64 U T S x,Nk U T S w xs rs with
     |some (agg,cs),some (q,ids)=>match agg==U.ag t,U.fS t (cs.map (D6 U))with
      |true,some a=>some (Aw.mk U (c:= .d t) a q,ids)
      |_,_=>none
     |_,_=>none)=some (q,ids):=h
    split at h
    ·rename_i agg cs q' ids' e1 e2;split at h
     ·rename_i a ha hf
      have h:=Z32 h
      have hq:Aw.mk U (c:= .d t) a q'=q:=congrArg Prod.fst h
      have hi:ids'=ids:=congrArg Prod.snd h;subst hi
      have hh:Aw.hd U q=a:=by rw[←hq];exact Sd (c:= .d t) a q'
      have ht:Aw.tl U q=q':=by rw[←hq];exact Se (c:= .d t) a q'
      have hag:=eq_of_beq ha;obtain⟨k1,k2,k3⟩:=Kd hw e1;obtain⟨Cs,g1,g2,g3,g4,g5,g6⟩:=ih rs n e2 hat
      have hcs:=hU.fS t _ a hf
      have hout:(cs.map (SV.toV U)).map (F5 outs (S.toSt U).H)=(U.cs t a).map (SV.toV U):=by
       rw[hU.cs t a,←hcs,Dr,Dr];refine Fk fun c hc=> ?_
       have hcl:((D6 U c).toV U).closed=true:=Z1.1 ((hU.en t).closed a) _ (by grind)
       grind [Nz,Ame,Sf]
      refine⟨(agg,cs)::Cs,?_,?_,?_,?_,?_,g6⟩
      ·grind
      ·simp_all[Dz]
      ·grind
      all_goals simp_all[Dz]
     ·cases h
    ·cases h
   |n t m=>
    have h:(match Q64 U T S x,Nk U T S w xs rs with
     |some (agg,cs),some (q,ids)=>match E4 U S cs with
      |some (cs',is)=>match agg==U.ag t,U.fO t m cs' with
       |true,some a=>some (Aw.mk U (c:= .d t) a q,is++ids)
       |_,_=>none
      |none=>none
     |_,_=>none)=some (q,ids):=h
    split at h
    ·rename_i agg cs q' ids' e1 e2;split at h
     ·rename_i cs' is e3;split at h
      ·rename_i a ha hf
       have h:=Z32 h
       have hq:Aw.mk U (c:= .d t) a q'=q:=congrArg Prod.fst h
       have hi:is++ids'=ids:=congrArg Prod.snd h;subst hi
       have hh:Aw.hd U q=a:=by rw[←hq];exact Sd (c:= .d t) a q'
       have ht:Aw.tl U q=q':=by rw[←hq];exact Se (c:= .d t) a q'
       have hag:=eq_of_beq ha;obtain⟨k1,k2,k3⟩:=Kd hw e1
       have hc:=hU.fO t m cs' a hf;obtain⟨o1,o2,o3⟩:=Af0 hU hnd cs n (U.cO t m a) e3 k2 hc (fun k id hk=>hat k id (by
        grind))
       have hlen:(Q9 U n (U.cO t m a)).2.length=is.length:=by
        have:=congrArg List.length o2
        grind
       obtain⟨Cs,g1,g2,g3,g4,g5,g6⟩:=ih rs (n+is.length) e2 (fun k id hk=>by
        have:=hat (is.length+k) id (by grind)
        grind)
       refine⟨(agg,cs)::Cs,?_,?_,?_,?_,?_,?_⟩
       ·grind
       ·simp_all[Dz]
       ·grind
       ·simp_all[Dz]
       ·simp_all[Dz]
       grind
      ·cases h
     ·cases h
    ·cases h
   |p t m=>
    have h:(match Wh U S x,Nk U T S w xs rs with
     |some (id,cs),some (q,ids)=>match U.fO t m cs with
      |some a=>some (Aw.mk U (c:= .d t) a q,id::ids)
      |none=>none
     |_,_=>none)=some (q,ids):=h
    split at h
    ·rename_i id cs q' ids' e1 e2;split at h
     ·rename_i a hf
      have h:=Z32 h
      have hq:Aw.mk U (c:= .d t) a q'=q:=congrArg Prod.fst h
      have hi:id::ids'=ids:=congrArg Prod.snd h;subst hi
      have hh:Aw.hd U q=a:=by rw[←hq];exact Sd (c:= .d t) a q'
      have ht:Aw.tl U q=q':=by rw[←hq];exact Se (c:= .d t) a q'
      obtain⟨y,ver,rfl,hy,hB⟩:=Yu e1
      have hc:=hU.fO t m cs a hf
      have hlen:(U.cO t m a).length=cs.length:=by
       have:=congrArg List.length hc
       grind
      have hpos:Ar outs id=some n:=Ft hnd (hat 0 id (by simp))
      obtain⟨Cs,g1,g2,g3,g4,g5,g6⟩:=ih rs (n+1) e2 (fun k id' hk=>by
       have:=hat (k+1) id' (by grind)
       grind)
      refine⟨(false,[.ptr id ver 0])::Cs,?_,?_,?_,?_,?_,?_⟩
      ·rw[Z8,Z8,g1]
       congr 1
       show some ((S.get y).toA U)=_;rw[hy];rfl
      ·show _=List.map _ ((false,[SV.ptr (n+1) 0 0])::(Dz U W rs (n+1) (Aw.tl U q)).1);rw[ht,Z8,Z8,g2]
       congr 2
       show [F5 outs (S.toSt U).H (.ptr id ver 0 0)]=[V.ptr (n+1) 0 0 0];unfold F5;simp only[V.low,V.low1,Ac hB,SB.toB,if_true,hpos];rfl
      ·grind
      ·show _=List.map _ (SB.box 0 (U.cO t m (Aw.hd U q))::(Dz U W rs (n+1) (Aw.tl U q)).2.1);rw[ht,hh,Z8,Z8,←g4]
       congr 1
       unfold Fy;rw[Ac hB]
       show Blk.mk 0 cs.length [(cs.map (SV.toV U)).map _]=Blk.mk 0 _ [_];rw[hlen,hc]
       congr 2
       refine(Fk fun v hv=> ?_).trans (List.map_id _);exact Afn (Z1.1 (Q73 hU (hU.shut t m a)) v hv) _ _ _
      ·simp_all[Dz]
      ·intro i hi;rcases Eg.1 hi with rfl|hi
       all_goals simp_all[Ac]
     ·cases h
    ·cases h
theorem Yv{β γ:Type}{f:β->Option γ}: ∀ {xs:List β} {l:List γ},xs.map f=l.map some->xs.mapM f=some l:=by
 intro xs
 induction xs with
 |nil=>simp_all
 |cons x xs ih=>
  intro l h;cases l with
  |nil=>cases h
  |cons y l=>
   simp only[Z8,S5]at h;rw[List.mapM_cons,h.1,ih h.2];rfl
theorem Amf{xs:List ResultVar}{S0:St}{outs:List Nat}{Cs L:List (Bool×List (SV U.D))}(h1:xs.map (Ln T S0)=Cs.map (fun c=>some (El c.1 (c.2.map (SV.toV U)))))(h2:Cs.map (fun c=>(c.1,(c.2.map (SV.toV U)).map (F5 outs S0.H)))=L.map (fun c=>(c.1,c.2.map (SV.toV U))))(h3: ∀c∈Cs,c.1=false-> ∃v,c.2=[v]):
  ∃u,Qd T S0 xs=some u∧u.lowT false outs S0.H=(Wa U L).toA U:=by
 have many: ∀(xs:List ResultVar),xs.map (Ln T S0)=Cs.map (fun c=>some (El c.1 (c.2.map (SV.toV U))))->(∃u,(xs.mapM (Ln T S0)).map A.t=some u∧u.lowT false outs S0.H=(SA.t L:SA U.D).toA U):=by
  intro xs h1;refine⟨.t (Cs.map fun c=>El c.1 (c.2.map (SV.toV U))),?_,?_⟩
  ·rw[Yv (l:=Cs.map fun c=>El c.1 (c.2.map (SV.toV U))) (by simp_all)];rfl
  ·show A.t _=A.t _
   congr 1
   rw[Dr]
   have e1:(Cs.map fun c=>A.low false outs S0.H (El c.1 (c.2.map (SV.toV U))))=(Cs.map (fun c=>(c.1,(c.2.map (SV.toV U)).map (F5 outs S0.H)))).map fun c=>El c.1 c.2:=by
    grind [List.map_congr_left,Sg]
   refine Eq.trans e1 ?_;rw[h2,Dr];rfl
 have one: ∀ {l:List (Bool×List (SV U.D))} {m:List (Bool×List (SV U.D))},l.length=1-> ∃c,l=[c]:=by
  intro l m h;cases l with
  |nil=>cases h
  |cons c r=>grind
 have hl1:=congrArg List.length h1
 have hl2:=congrArg List.length h2;simp only[Hm]at hl1 hl2;cases xs with
 |nil=>
  have hC:Cs=[]:=Y9.1 hl1.symm;subst hC
  have hL:L=[]:=Y9.1 hl2.symm;subst hL;exact⟨.t [],rfl,rfl⟩
 |cons x xs=>
  cases xs with
  |nil=>
   obtain⟨c,rfl⟩:=one (l:=Cs) (m:=[]) hl1.symm;obtain⟨c',rfl⟩:=one (l:=L) (m:=[]) hl2.symm;simp only[Z8,P3,S5,and_true,Prod.mk.injEq]at h1 h2;obtain⟨ag,cs⟩:=c;obtain⟨ag',cs'⟩:=c';obtain⟨e,h2⟩:=h2
   have e:ag=ag':=e;subst e;refine⟨_,h1,?_⟩
   have hl:A.lowT false outs S0.H (El ag (cs.map (SV.toV U)))=A.low false outs S0.H (El ag (cs.map (SV.toV U))):=by cases ag<;>rfl
   refine hl.trans (Sg.trans ?_)
   have h2:(cs.map (SV.toV U)).map (F5 outs S0.H)=cs'.map (SV.toV U):=h2;rw[h2];cases ag with
   |true=>rfl
   |false=>
    obtain⟨v,hv⟩:=h3 (false,cs) (by simp) rfl
    have hv:cs=[v]:=hv;subst hv
    have hl3:=congrArg List.length h2;cases cs' with
    |nil=>cases hl3
    |cons v' r=>cases r with
     |nil=>rfl
     |cons v2 r=>grind
  |cons y zs=>
   obtain⟨u,k1,k2⟩:=many (x::y::zs) h1;refine⟨u,k1,?_⟩
   have hlen:L.length=zs.length+2:=by grind
   cases L with
   |nil=>cases hlen
   |cons a L=>
    cases L with
    |nil=>grind
    |cons b L=>
     rw[k2];obtain⟨a1,a2⟩:=a;cases a1 with
     |true=>rfl
     |false=>
      cases a2 with
      |nil=>rfl
      |cons v r=>cases r<;>rfl
end
end Go.Eng
namespace Go.Eng
section
variable {U:Un} {T:Tab} {P:Program} {sg:Sig} {rl:List ResultVar} {N:Nat} {js:List Nat} {c0:Code}
def N5 (F:Fr)(U:Un)(T:Tab)(rl:List ResultVar)(sg:Sig)(r:Aw U sg.codes)(S:St):Prop:= ∃S1:St,Dc F S S1∧Ret T rl (Bg sg.ps) ((sg.res U r).toA U) ((sg.blks U r).map (SB.toB U)) .ret S1
theorem Ak5 (n k:Nat)(h:k<n):(List.range' 1 n)[k]? =some (k+1):=by
 grind
theorem Ajk (hU:Ab U){F:Fr}(he:Fl F T)(hm:F.m=Bg sg.ps+1){S:SS U.D}(hw:WF S){r:Aw U sg.codes}(h:Ae5 U T sg rl S=some r):N5 F U T rl sg r (S.toSt U)∧rl.length≤4:=by
 unfold Ae5 at h;obtain⟨S1,h1,h2,τ,h3⟩:=Q83 hU he _ hw h;unfold Alt at h1;split at h1
 ·rename_i q ids hq;split at h1
  ·rename_i hc;cases h1;simp only[Z4,decide_eq_true_eq]at hc;obtain⟨⟨hnd,h100⟩,hl4⟩:=hc;refine⟨⟨_,h2,?_⟩,Ex hl4⟩
   have hmm:=he.m
   have hlt: ∀i∈List.range' 1 (Bg sg.ps),i<100:=fun i hi=>by
    grind
   have houts:(List.range' 1 (Bg sg.ps)++ids).Nodup:=by
    refine List.nodup_append.2 ⟨List.nodup_range',hnd,fun i hi j hj e=> ?_⟩
    have:=Ex (Z1.1 h100 j hj)
    grind
   obtain⟨Cs,g1,g2,g3,g4,g5,g6⟩:=Ajj hU h3 (outs:=List.range' 1 (Bg sg.ps)++ids) houts rl sg.rs (Bg sg.ps) hq (fun k id hk=>by
    grind)
   obtain⟨k1,k2⟩:=Aji hU (outs:=List.range' 1 (Bg sg.ps)++ids) sg.ps 0 _ g5;obtain⟨u,u1,u2⟩:=Amf g1 g2 g3;refine Aoo (Bg sg.ps) (List.range' 1 (Bg sg.ps)++ids) houts ?_ ?_ u1 u2 ?_
   ·grind
   ·grind
   ·rw[Vu,g4]
    show _=List.map (SB.toB U) (Gl U sg.ps (Dz U (Ax sg.ps) sg.rs (Bg sg.ps) r).2.2++(Dz U (Ax sg.ps) sg.rs (Bg sg.ps) r).2.1)
    grind
  grind
 grind
abbrev Λt (U:Un)(sg:Sig):=List (Nat×(SS U.D->Option (Aw U sg.codes)))
def Cut (U:Un)(T:Tab)(P:Program)(rl:List ResultVar)(sg:Sig)(N:Nat)(js:List Nat)(c0:Code)(B:Λt U sg)(p:Nat)(f:SS U.D->Option (Aw U sg.codes)):Prop:=
 ∀(F:Fr) (r:Aw U sg.codes),F.P=P->F.N=N->Fl F T->F.m=Bg sg.ps+1->Ag6 U F js c0 r (N5 F U T rl sg r) B p f
def Vg (U:Un)(T:Tab)(P:Program)(rl:List ResultVar)(sg:Sig)(N:Nat)(js:List Nat)(c0:Code)(B:Λt U sg)(l:Λt U sg):Prop:= ∀p f,lk l p=some f->Cut U T P rl sg N js c0 B p f
theorem kN{B:Λt U sg}:Vg U T P rl sg N js c0 B []:=fun p f h=>by cases h
theorem kC{B l:Λt U sg}{p:Nat}{f:SS U.D->Option (Aw U sg.codes)}(h:Cut U T P rl sg N js c0 B p f)(t:Vg U T P rl sg N js c0 B l):Vg U T P rl sg N js c0 B ((p,f)::l):=fun p' f' e=>by
 rw[Sz]at e;split at e
 ·grind
 ·exact t p' f' e
structure XOk (U:Un)(T:Tab)(P:Program)(rl:List ResultVar)(sg:Sig)(N:Nat)(js:List Nat)(x:Λt U sg->Λt U sg->Ox U (Aw U sg.codes)):Prop where
 un:Ab U
 mix:P.follows .mixedOrders=true
 Λ: ∀a b,(x a b).Λ=a
 Λb: ∀a b,(x a b).Λb=b
 N: ∀a b,(x a b).N=N
 js: ∀a b,(x a b).js=js
 fin: ∀a b,(x a b).fin=Ae5 U T sg rl
 ok: ∀a b,Nt U T P (x a b)
variable {x:Λt U sg->Λt U sg->Ox U (Aw U sg.codes)}
theorem XOk.go (hx:XOk U T P rl sg N js x){Λ B:Λt U sg}(hc:Vg U T P rl sg N js c0 B Λ){F:Fr}{r:Aw U sg.codes}(hP:F.P=P)(hN:F.N=N)(he:Fl F T)(hm:F.m=Bg sg.ps+1){n p:Nat}{c:Code}{fr:List Fm}{S:SS U.D}
  (hp:1≤p) (hat:K5 js c0 p=some (c,fr)) (hw:WF S) (h:go U T (x Λ B) n (.code c p) S fr=some r):W F c (S.toSt U) (QS U F js c0 r (N5 F U T rl sg r) B fr):=by
 subst hP
 have:=(Amd hx.un he (X:=x Λ B) (hx.ok Λ B) (by rw[hx.N,hN]) hx.mix (r:=r) (R0:=N5 F U T rl sg r) (c0:=c0) (fun S hw h=>by
  rw[hx.fin]at h;exact(Ajk hx.un he hm hw h).1) (fun p f hf=>by
  rw[hx.Λ]at hf;rw[hx.js,hx.Λb];exact hc p f hf F r rfl hN he hm) n).1 c p fr S hp (by rw[hx.js];exact hat) hw h
 rw[hx.js,hx.Λb]at this;exact this
theorem Si{X:Ox U (Aw U sg.codes)}{p:Nat}{S:SS U.D}{r:Aw U sg.codes}(h:Ae3 U T X c0 p S=some r): ∃c fr,K5 X.js c0 p=some (c,fr)∧go U T X 1000 (.code c p) S fr=some r:=by
 grind [Ae3]
theorem Amg (hx:XOk U T P rl sg N js x){Λ B:Λt U sg}{p:Nat}{h:Ej}{M:Af U h.codes->Option (Aw U sg.codes)}(hp:Nat.ble 1 p=true)(e: ∀q,M q=Ae3 U T (x Λ B) c0 (2*p+1) (h.emb U q))(hc:Vg U T P rl sg N js c0 B Λ):Cut U T P rl sg N js c0 B p (arr U T h M):=by
 intro F r hP hN he hm
 have hp:=Ex hp;refine⟨hp,fun c fr hat S1 hw hf=> ?_⟩;obtain⟨q,h1,h2,h3⟩:=Acm (F:=F) hx.un he hw hf;rw[e]at h1;obtain⟨c',fr',h4,h5⟩:=Si h1;rw[hx.js]at h4
 have hg:=hx.go hc hP hN he hm (by omega) h4 h3 h5
 rw[Acp hp hat]at h4;refine⟨fun y hy=> ?_,fun a b hy=> ?_⟩
 ·subst hy;cases h4
 ·subst hy;cases h4;exact W.weakF h2 hg
def Sj (js:List Nat)(c0:Code)(p:Nat):Bool:=match K5 js c0 p with
 |some (.loop _,_)=>true
 |_=>false
theorem Amh (hx:XOk U T P rl sg N js x){Λ:Nat->Λt U sg}{B:Λt U sg}{p:Nat}{h:Ej}{M:Nat->Af U h.codes->Option (Aw U sg.codes)}(hp:Nat.ble 1 p=true)(hk:Sj js c0 p=true)(e0: ∀q,M 0 q=none)(e: ∀n q,M (n+1) q=Ae3 U T (x (Λ n) ((p,arr U T h (M n))::B)) c0 (2*p) (h.emb U q))
  (hc: ∀n,Vg U T P rl sg N js c0 ((p,arr U T h (M n))::B) (Λ n)) (n:Nat):Cut U T P rl sg N js c0 B p (arr U T h (M n)):=by
 intro F r hP hN he hm
 have hp:=Ex hp;refine⟨hp,fun c fr hat S1 hw hf=>⟨fun y hy=> ?_,fun a b hy=> ?_⟩⟩
 ·subst hy;obtain⟨_,hlps⟩:=Acq p hp hat
  have hat2:=Wv hp hat
  have hat2:K5 js c0 (2*p)=some (y,.lp p::fr):=hat2;refine Ahe (fun n S=> ∃S2:SS U.D,Dc F S (S2.toSt U)∧WF S2∧arr U T h (M n) S2=some r) n ⟨S1,Dc.refl _,hw,hf⟩ ?_;rintro n S ⟨S2,g1,g2,g3⟩;obtain⟨q,h1,h2,h3⟩:=Acm (F:=F) hx.un he g2 g3;cases n with
  |zero=>grind
  |succ n=>
   rw[e]at h1;obtain⟨c',fr',h4,h5⟩:=Si h1;rw[hx.js,hat2]at h4;cases h4
   have hg:=hx.go (hc n) hP hN he hm (by omega) hat2 h3 h5
   refine W.weakF (g1.trans h2) (hg.mono fun e S' hq=> ?_)
   have hcong:QS U F js c0 r (N5 F U T rl sg r) ((p,arr U T h (M n))::B) fr=QS U F js c0 r (N5 F U T rl sg r) B fr:=Sc fr fun p' hp'=>Q68 _ _ (by have:=hlps p' hp';omega)
   have hq:Exit.andThen (BP U F r ((p,arr U T h (M n))::B) p) (QS U F js c0 r (N5 F U T rl sg r) ((p,arr U T h (M n))::B) fr) e S':=hq;rw[hcong]at hq;cases e with
   |normal=>
    obtain⟨f,S3,k1,k2,k3,k4⟩:=hq;rw[Alu]at k1;cases k1;exact⟨n,Nat.lt_succ_self n,S3,k2,k3,k4⟩
   |_=>exact hq
 grind [Sj]
def SV.isF{D:Nat->Type}:SV D->Bool
 | .fn .. | .ptrB .. =>true
 |_=>false
def Es (H:List (SB U.D))(c:SV U.D):Prop:=(c.shut=true∧Eu c=true)∨(∃i j,c= .ptr i 0 j)∨c.isF=true∨c= .undef∨ ∃i n B,c= .own (i+1) 0 n∧H[i]? =some B∧n=B.len
def Ag7:SB U.D->Prop
 | .rows v _ _ _ _=>v=0
 | .box v cs=>v=0∧ ∀c∈cs,c.shut=true∧Eu c=true
 |_=>False
def Acu (as:List (SA U.D))(H:List (SB U.D)):Prop:=(∀a∈as,(∀xs,a≠ .t xs)∧ ∀c∈a.cells,Es H c)∧ ∀B∈H,Ag7 B
theorem Es.app{H H':List (SB U.D)}{c:SV U.D}(h:Es H c):Es (H++H') c:=by
 rcases h with h|h|h|h|⟨i,n,B,h1,h2,h3⟩
 ·exact .inl h
 ·exact .inr (.inl h)
 ·exact .inr (.inr (.inl h))
 ·exact .inr (.inr (.inr (.inl h)))
 ·exact .inr (.inr (.inr (.inr ⟨i,n,B,h1,by grind,h3⟩)))
theorem Mh: ∀(as:List (SA U.D)) (n t:Nat),lk (Gp U n as) t=if n≤t then as[t - n]? else none:=by
 intro as
 induction as with
 |nil=>grind [Gp,lk]
 |cons a r ih=>
  intro n t;simp only[Gp];rw[Sz,ih]
  grind
theorem Mi: ∀(H:List (SB U.D)) (n t:Nat),lk (Jp U n H) t=if n≤t then(H[t - n]?).map some else none:=by
 intro H
 induction H with
 |nil=>grind [Jp,lk]
 |cons a r ih=>
  intro n t;simp only[Jp];rw[Sz,ih]
  grind
theorem Ajl (as:List (SA U.D))(H:List (SB U.D))(i:Nat):(We U as H).blk (i+1)=H[i]? :=by
 simp only[We,SS.blk,Mi]
 grind
theorem Ke (as:List (SA U.D))(H:List (SB U.D)):(We U as H).blk 0=none:=by
 simp_all[We,SS.blk,Mi]
theorem Af1 (as:List (SA U.D))(H:List (SB U.D)):(We U as H).toSt U=V4 (as.map (SA.toA U)) (H.map (SB.toB U)):=by
 refine St.Sim.eq ⟨fun t=> ?_,fun i=> ?_,fun i=>rfl⟩
 ·show((We U as H).get t).toA U=((as.map (SA.toA U))[t]?).getD (.c .undef);simp only[We,SS.get,Mh];rw[if_pos (Z21 t),Nat.sub_zero,Dv];cases as[t]? <;>rfl
 ·cases i with
  |zero=>show((We U as H).blk 0).map _=none;rw[Ke];rfl
  |succ i=>show((We U as H).blk (i+1)).map (SB.toB U)=(H.map (SB.toB U))[i]?;grind [Ajl]
theorem Acv{as:List (SA U.D)}{H:List (SB U.D)}(h:Acu as H):WF (We U as H):=by
 have hcell: ∀c:SV U.D,Es H c->c.ok (We U as H) (fun g=>((g - 2) / 2:Nat)):=by
  rintro c (h|⟨i,j,rfl⟩|hF|rfl|⟨i,n,B,rfl,h2,h3⟩)
  ·exact Q49 h.1 h.2
  ·trivial
  ·cases c<;>first|trivial|cases hF
  ·trivial
  ·refine⟨Nat.zero_lt_one,fun C hC _=> ?_⟩
   grind [Ajl]
 refine⟨fun g=>((g - 2) / 2:Nat),fun n=>by simp,fun t v ht=> ?_,fun id B hB=> ?_⟩
 ·have ht:lk (Gp U 0 as) t=some v:=ht;rw[Mh,if_pos (Z21 t)]at ht;obtain⟨h1,h2⟩:=h.1 v (Z6 ht);cases v with
  |c v=>exact hcell v (h2 v (by simp[SA.cells]))
  |g cs=>exact fun c hc=>hcell c (h2 c hc)
  |t xs=>grind
 ·cases id with
  |zero=>grind [Ke]
  |succ i=>
   rw[Ajl]at hB
   have:=h.2 B (Z6 hB);cases B with
   |rows v t d c l=>exact⟨by show v<1;rw[show v=0 from this];omega,trivial⟩
   |box v cs=>exact⟨by show v<1;rw[this.1];omega,fun c hc=>Q49 (this.2 c hc).1 (this.2 c hc).2⟩
   |_=>cases this
theorem N6: ∀(cs:List (SV U.D)) (H:List (SB U.D)),(∀c∈cs,c.shut=true∧Eu c=true)-> ∀c∈(Q9 U H.length cs).1,Es (H++(Q9 U H.length cs).2) c:=by
 intro cs
 induction cs with
 |nil=>intro H _ c hc;cases hc
 |cons v r ih=>
  intro H h c hc
  by_cases hx:isT v=true
  ·cases v with
   |rowT t d l=>
    simp only[Q9]at hc ⊢;rcases Eg.1 hc with rfl|hc
    ·exact .inr (.inr (.inr (.inr ⟨H.length,l.length,.rows 0 t d false l,rfl,by grind,rfl⟩)))
    ·have:=ih (H++[.rows 0 t d false l]) (fun c hc=>h c (by simp[hc])) c (by grind)
     grind
   |_=>cases hx
  ·have hx:isT v=false:=by grind
   rw[Q26 hx]at hc ⊢;rcases Eg.1 hc with rfl|hc
   ·exact .inl (h _ (by simp))
   grind
theorem Sk: ∀(cs:List (SV U.D)) (n:Nat),∀B∈(Q9 U n cs).2,Ag7 B:=by
 intro cs
 induction cs with
 |nil=>intro n B hB;cases hB
 |cons v r ih=>
  intro n B hB
  by_cases hx:isT v=true
  ·cases v with
   |rowT t d l=>
    simp only[Q9]at hB;rcases Eg.1 hB with rfl|hB
    ·rfl
    grind
   |_=>cases hx
  grind [Q26]
def Ww (U:Un):List PM->Prop
 |[]=>True
 | .w t md es::r=>(∀x,(Q9 U 0 (U.cO t md x)).2.length=es.length)∧Ww U r
 |_::r=>Ww U r
theorem Vh{ag:Bool}{cs:List (SV U.D)}{H:List (SB U.D)}(h: ∀c∈cs,Es H c):(∀xs,Qy U ag cs≠ .t xs)∧ ∀c∈(Qy U ag cs).cells,Es H c:=by
 cases ag with
 |true=>exact⟨(by intro xs e;cases e),h⟩
 |false=>
  refine⟨(by intro xs e;cases e),fun c hc=> ?_⟩
  have hc:c∈[cs.headD .undef]:=hc;simp only[Pz]at hc;subst hc;cases cs with
  |nil=>exact .inr (.inr (.inr (.inl rfl)))
  |cons v r=>grind
theorem Yw{X:Type}: ∀(ts:List Nat) (m:FnC U ts X) {p q:List (Σ t,U.D t)->X->Prop},(∀rs m',p rs m'->q rs m')->X0 U ts p m->X0 U ts q m:=by
 intro ts
 induction ts with
 |nil=>intro m p q h hp;exact h _ _ hp
 |cons t ts ih=>intro m p q h hp x;exact ih (m x) (fun rs m' hr=>h _ m' hr) (hp x)
theorem Af2 (hU:Ab U){f:FuncId}{X:Ox U (Aw U sg.codes)}(base: ∀as H r,Acu as H->as.length=sg.ps.length->H.length=Bg sg.ps->go U T X 1000 (.code c0 1) (We U as H) []=some r->Sp P f (as.map (SA.toA U)) (H.map (SB.toB U)) ((sg.res U r).toA U) ((sg.blks U r).map (SB.toB U))):
  ∀(ps:List PM) (n:Nat) (as:List (SA U.D)) (H:List (SB U.D)) (m:V8 U ps (Option (Aw U sg.codes))),Ww U ps->Acu as H->as.length+ps.length=sg.ps.length->H.length=n->H.length+Bg ps=Bg sg.ps->Uj U T X c0 ps n as H m->Qz U P f sg ps n as H m:=by
 intro ps
 induction ps with
 |nil=>
  intro n as H m _ he h1 _ h2 h r hr
  have h:m=go U T X 1000 (.code c0 1) (We U as H) []:=h
  grind [Bg]
 |cons p ps ih=>
  intro n as H m hsig he h1 hn h2 h;cases p with
  |v t=>
   intro x;refine ih n (as++[Fo U t x]) H (m x) hsig ⟨fun a ha=> ?_,he.2⟩ (by grind) hn h2 (h x)
   rcases Mj.1 ha with ha|ha
   ·exact he.1 a ha
   ·simp only[Pz]at ha;subst ha
    have hk: ∀c∈U.cs t x,Es H c:=fun c hc=> .inl ⟨Z1.1 (hU.csSh t x) c hc,hU.cellsTag false t x c hc⟩;unfold Fo;split
    ·exact⟨(by grind),hk⟩
    ·split
     ·rename_i v e;rw[e]at hk;exact⟨(by grind),hk⟩
     ·refine⟨(by grind),fun c hc=> ?_⟩
      have hc:c∈[SV.undef]:=hc;simp only[Pz]at hc;subst hc;exact .inr (.inr (.inr (.inl rfl)))
  |b t md=>
   intro x;refine ih (n+1) _ _ (m x) hsig ⟨fun a ha=> ?_,fun B hB=> ?_⟩ (by grind) (by simp[hn]) (by grind [Bg]) (h x)
   ·rcases Mj.1 ha with ha|ha
    ·exact⟨(he.1 a ha).1,fun c hc=>((he.1 a ha).2 c hc).app⟩
    ·simp only[Pz]at ha;subst ha;refine⟨(by grind),fun c hc=> ?_⟩
     have hc:c∈[SV.ptr (n+1) 0 0]:=hc;simp only[Pz]at hc;exact .inr (.inl ⟨_,_,hc⟩)
   ·rcases Mj.1 hB with hB|hB
    ·exact he.2 B hB
    ·simp only[Pz]at hB;subst hB;exact⟨rfl,fun c hc=>⟨Z1.1 (hU.shut t md x) c hc,Z1.1 (hU.tagO t md x) c hc⟩⟩
  |w t md es=>
   intro x
   have hlen:(Q9 U n (U.cO t md x)).2.length=es.length:=by rw[Acs _ n 0];exact hsig.1 x
   subst hn;refine ih (H.length+es.length) _ _ (m x) hsig.2 ⟨fun a ha=> ?_,fun B hB=> ?_⟩ (by grind) (by grind) (by grind [Bg]) (h x)
   ·rcases Mj.1 ha with ha|ha
    ·exact⟨(he.1 a ha).1,fun c hc=>((he.1 a ha).2 c hc).app⟩
    ·simp only[Pz]at ha;subst ha;exact Vh (N6 _ H fun c hc=>⟨Z1.1 (hU.shut t md x) c hc,Z1.1 (hU.tagO t md x) c hc⟩)
   ·rcases Mj.1 hB with hB|hB
    ·exact he.2 B hB
    grind [Sk]
  |r t=>
   intro x;refine ih n _ H (m x) hsig ⟨fun a ha=> ?_,he.2⟩ (by grind) hn h2 (h x)
   rcases Mj.1 ha with ha|ha
   ·exact he.1 a ha
   ·simp only[Pz]at ha;subst ha;refine⟨(by grind),fun c hc=> ?_⟩
    have hc:c∈[SV.ptrB t x 0]:=hc;simp only[Pz]at hc;exact .inr (.inr (.inl (by rw[hc];rfl)))
  |f fid caps ts=>
   refine Yw ts m (fun rs m' h=> ?_) h;refine ih n _ H m' hsig ⟨fun a ha=> ?_,he.2⟩ (by grind) hn h2 h
   rcases Mj.1 ha with ha|ha
   ·exact he.1 a ha
   ·simp only[Pz]at ha;subst ha;refine⟨(by grind),fun c hc=> ?_⟩
    have hc:c∈[SV.fn fid (caps.map fun i=>(i,0)) rs]:=hc;simp only[Pz]at hc;exact .inr (.inr (.inl (by rw[hc];rfl)))
theorem Aox (hx:XOk U T P rl sg N js x)(hT:Ae P T){Λ:Λt U sg}{f:FuncId}{fn:Func}{m:V8 U sg.ps (Option (Aw U sg.codes))}(e:Uj U T (x Λ []) c0 sg.ps 0 [] [] m)(hc:Vg U T P rl sg N js c0 [] Λ)(hf:P.funcs[f]? =some fn)(hname:(fn.name== "runtime.NumGoroutine")=false)(hb:fn.body=some c0)(hl:fn.results=rl.toArray)(hN:fn.ntmps=N)(hargs:Nat.ble sg.ps.length N=true)(hm:Nat.ble (Bg sg.ps+1) 100=true)(hl4:Nat.ble rl.length 4=true)(hs:Ww U sg.ps):
  Fh.Ok U P f ⟨sg,m⟩∧Ei P f:=by
 refine⟨?_,fn,hf,hname,by grind⟩
 refine Af2 hx.un (X:=x Λ []) (c0:=c0) (T:=T) (fun as H r hent has hH hg=> ?_) sg.ps 0 [] [] m hs ⟨by simp,by simp⟩ (by simp) rfl (by simp) e
 refine SpW hT hf hb hl N (Bg sg.ps+1) hl4 hN (by grind) (by simp[hH]) hm fun w0 σ0 β0 he=> ?_
 have hg:=hx.go (F:=⟨P,N,w0,σ0,β0,Bg sg.ps+1⟩) hc rfl rfl he rfl (Z9 1) rfl (Acv hent) hg;rw[Af1]at hg;intro a w hrs;refine wp_mono (hg a w hrs) ?_;rintro ex a' w' ⟨S,⟨hex,S1,h1,h2⟩,h3⟩;refine⟨S1,?_,h1 a' w' h3⟩;rw[Hm,hH];exact⟨hex,h2.2⟩
end
end Go.Eng
namespace Go.Eng
section
variable {U:Un} {T:Tab} {P:Program}
theorem gN: ∀f c,lk ([]:List (Nat×Fh U)) f=some c->Fh.Ok U P f c∧Ei P f:=fun f c h=>by cases h
theorem gC{f:Nat}{c:Fh U}{l:List (Nat×Fh U)}(h:Fh.Ok U P f c∧Ei P f)(t: ∀f c,lk l f=some c->Fh.Ok U P f c∧Ei P f): ∀f' c',lk ((f,c)::l) f'=some c'->Fh.Ok U P f' c'∧Ei P f':=by grind [Sz]
theorem oN: ∀d l,lk ([]:List (Nat×List (Nat×Fh U))) d=some l-> ∀f c,lk l f=some c->Fh.Ok U P f c∧Ei P f:=fun d l h=>by cases h
theorem oC{d:Nat}{l:List (Nat×Fh U)}{r:List (Nat×List (Nat×Fh U))}(h: ∀f c,lk l f=some c->Fh.Ok U P f c∧Ei P f)(t: ∀d l,lk r d=some l-> ∀f c,lk l f=some c->Fh.Ok U P f c∧Ei P f): ∀d' l',lk ((d,l)::r) d'=some l'-> ∀f c,lk l' f=some c->Fh.Ok U P f c∧Ei P f:=by grind [Sz]
def Ami (js:List Nat)(c0:Code)(p x:Nat):Bool:=match K5 js c0 p with
 |some (_,fr)=>fr.all fun f=>match f with
  | .lp y=> !(Nat.beq y x)
  |_=>true
 |none=>true
theorem Aoy{rl:List ResultVar}{sg:Sig}{N:Nat}{js:List Nat}{c0:Code}{B:Λt U sg}{p x:Nat}{f g:SS U.D->Option (Aw U sg.codes)}(hn:Ami js c0 p x=true)(h:Cut U T P rl sg N js c0 B p f):Cut U T P rl sg N js c0 ((x,g)::B) p f:=by
 intro F r hP hN he hm;obtain⟨h1,h2⟩:=h F r hP hN he hm;refine⟨h1,fun c fr hat S1 hw hf=> ?_⟩
 have hq:QS U F js c0 r (N5 F U T rl sg r) ((x,g)::B) fr=QS U F js c0 r (N5 F U T rl sg r) B fr:=Sc fr fun p' hp'=>Q68 _ _ (by
  unfold Ami at hn;rw[hat]at hn
  have:=Z1.1 hn _ hp';intro e
  simp_all)
 grind
def eqT (l:List Nat)(t:Nat):Bool:=l.any (Nat.beq t)
theorem Af3{l:List Nat}(h:l.all (fun t=> !(P.eqGuardType P.depth t)&&Fx P T 20 t)=true):Aa8 P T (eqT l):=fun t ht=>by
 obtain⟨u,hu,e⟩:=List.any_eq_true.1 ht
 simp_all
theorem xok (hU:Ab U)(hm:P.follows .mixedOrders=true){rl:List ResultVar}{sg:Sig}{N:Nat}{js:List Nat}{Γ:List (Nat×Fh U)}{ov:List (Nat×List (Nat×Fh U))}{eqOk:Nat->Bool}{spl:List Nat}{pre post:List (Nat×List Cmd)}(hΓ: ∀f c,lk Γ f=some c->Fh.Ok U P f c∧Ei P f)(hov: ∀d l,lk ov d=some l-> ∀f c,lk l f=some c->Fh.Ok U P f c∧Ei P f)(heq:Aa8 P T eqOk):
  XOk U T P rl sg N js (fun L B=>⟨Γ,ov,eqOk,N,spl,pre,post,js,L,B,Ae5 U T sg rl⟩):=
 ⟨hU,hm,fun _ _=>rfl,fun _ _=>rfl,fun _ _=>rfl,fun _ _=>rfl,fun _ _=>rfl,fun _ _=>⟨hΓ,heq,hov⟩⟩
theorem At{α:Type}{f:α->List V}(h: ∀a,(f a).all V.fresh=true)(es:Nat)(l:List α):(V.row true es (l.map f)).fresh=true:=by
 show(true&&Q78 (l.map f))=true;rw[Z30];refine Al6 fun x hx=> ?_;obtain⟨a,_,rfl⟩:=Ey.1 hx;exact J2 (h a)
theorem Yx (k:IntKind)(n:Int):(V.int k n).fresh=true:=rfl
theorem Yy (b:Bool):(V.bool b).fresh=true:=rfl
theorem Yz (s:ByteArray):(V.str s).fresh=true:=rfl
structure Dft (U:Un)(t:Nat):Prop where
 sz:U.sz t=0
 en: ∀x,U.en t x=[]
 eF: ∀x,U.eF t x=[]
 cs: ∀x,U.cs t x=[]
 cO: ∀m x,U.cO t m x=[]
 fS: ∀c,U.fS t c=none
 fO: ∀m c,U.fO t m c=none
theorem A8{U:Un}{t:Nat}(h: ∀j,U.far t j=false): ∀x j v,(U.eF t x)[j]? =some v->U.far t j=true->v.share=v:=fun x j v _ e=>by rw[h j]at e;cases e
structure Gt (U:Un)(t:Nat):Prop where
 en:En (U.en t) (U.sz t)
 eF:Ff (U.eF t) (U.en t) (U.sz t)
 cs: ∀x,(U.cs t x).map (SV.toV U)=U.en t x
 cO: ∀x,(U.cO t true x).map (SV.toV U)=U.eF t x
 shut: ∀m x,(U.cO t m x).all SV.shut=true
 fS: ∀c x,U.fS t c=some x->c.map (SV.toV U)=U.en t x
 fO: ∀m c x,U.fO t m c=some x->c.map (SV.toV U)=(U.cO t m x).map (SV.toV U)
 flat:U.flat t=true->U.eF t=U.en t
 csSh: ∀x,(U.cs t x).all SV.shut=true
 tagO: ∀m x,(U.cO t m x).all Eu=true
 fresh: ∀x,(!U.far t 1000||U.flat t)=true->(U.eF t x).all V.fresh=true
 csTag: ∀x,(U.cs t x).all Eu=true
 far: ∀x j v,(U.eF t x)[j]? =some v->U.far t j=true->v.share=v
theorem Dft.un1{t:Nat}(h:Dft U t):Gt U t:=by
 refine⟨⟨fun a=> ?_,fun a=> ?_,fun a=> ?_,fun a=> ?_⟩,⟨fun a=> ?_,fun a=> ?_,fun a=> ?_⟩,fun x=> ?_,fun x=> ?_,fun m x=> ?_,fun c x e=> ?_,fun m c x e=> ?_,fun _=> ?_,fun x=> ?_,fun m x=> ?_,fun x _=> ?_,fun x=> ?_,fun x j v hj _=> ?_⟩
 ·rw[h.en,h.sz];rfl
 ·rw[h.en];rfl
 ·rw[h.en];rfl
 ·rw[h.en];rfl
 ·grind [eF,sz]
 ·rw[h.eF];rfl
 ·rw[h.eF,h.en];rfl
 ·grind [cs,en]
 ·grind [cO,eF]
 ·rw[h.cO];rfl
 ·grind [fS]
 ·grind [fO]
 ·funext x;rw[h.eF,h.en]
 ·rw[h.cs];rfl
 ·rw[h.cO];rfl
 ·rw[h.eF];rfl
 ·rw[h.cs];rfl
 ·rw[h.eF]at hj;simp at hj
theorem Ab.of (h: ∀t,Gt U t):Ab U:=⟨fun t=>(h t).en,fun t=>(h t).eF,fun t=>(h t).cs,fun t=>(h t).cO,fun t=>(h t).shut,fun t=>(h t).fS,fun t=>(h t).fO,fun t=>(h t).flat,fun t=>(h t).csSh,fun t=>(h t).tagO,fun t=>(h t).fresh,fun d t x c hc=>by
 cases d with
 |true=>exact Z1.1 ((h t).tagO true x) c hc
 |false=>exact Z1.1 ((h t).csTag x) c hc,fun t=>(h t).far⟩
end
end Go.Eng
namespace Go.Eng
open Go.Sort
def Q77 (l:List Int):Blk:=⟨0,1,l.map fun x=>[V.int .i64 x]⟩
theorem Af4{P:Program}{f:FuncId}
  (hs: ∀(blk off cap:Nat) (zs:List Int) (w:World),Holds (Value.int .i64) w blk off zs.toArray->blk<w.heap.size->zs.length<4611686018427387904→
   Calls P f #[.slice (some ⟨blk,off,none⟩) zs.length cap] w fun e w'=>e= .returned (.tuple #[])∧ ∃n os,w'=grow (putRow (Value.int .i64) (Sort.ahead w n) blk off (zs.mergeSort fun x y=>decide (x≤y)).toArray) os)
  (hn: ∀(p:Option Addr) (cap:Nat) (w:World),Calls P f #[.slice p 0 cap] w fun e w'=>e= .returned (.tuple #[])∧w'=w)
  (l:List Int) (hl:l.length<4611686018427387904):
  Sp P f [.c (.own 1 0 0 l.length)] [Q77 l] (.t []) [Q77 (l.mergeSort fun x y=>decide (x≤y))]:=by
 intro vals w σ β hr hsz hargs;obtain⟨v,e0,h0⟩:=hargs 0 _ rfl
 have hvals:vals= #[v]:=by
  apply Array.ext_getElem?;intro i
  match i with
  |0=>exact e0
  |i+1=>rw[Array.getElem?_eq_none (by simp at hsz;omega)];rfl
 subst hvals;obtain⟨A,cap,rfl,hv,hcap,hmax,hb⟩:=Xc h0;obtain⟨hin,hat⟩:=hb (Q77 l) rfl rfl
 have hres: ∀E,RA E (.t []) (.tuple #[]):=fun E=> .t [] #[] (fun _=>default) rfl (fun i v hi=>by simp at hi) (fun i v hi=>by simp at hi)
 cases hl0:l with
 |nil=>
  subst hl0;refine(hn A cap w).mono ?_;rintro e w' ⟨rfl,rfl⟩;refine⟨_,σ,β,rfl,.refl _ _,fun _ _=>rfl,Z9 _,?_,hres _⟩;simpa using hr
 |cons y ys=>
  rw[←hl0]
  have hpos:0<l.length:=by rw[hl0];simp
  rcases hat with hat|⟨b,o,n,hβ,rfl,hcn⟩
  ·omega
  have hblk:=(hr.blk 1 (Q77 l) rfl).2;obtain⟨hσ,hes,hln,arr,T,hh,hasz,hc⟩:=hblk.some hβ;simp only[Q77,Hm,Nat.mul_one,Nat.zero_mul,Nat.add_zero]at hes hln hasz hc hcn ⊢
  have hcell: ∀j x,l[j]? =some x->arr[o+j]? =some (.int .i64 x):=by
   intro j x hj;obtain⟨c,c1,c2⟩:=hc j 0 [V.int .i64 x] (V.int .i64 x) (by simp[hj]) rfl
   cases c2 with
   |c h=>cases h;exact c1
  have hlt:b<w.heap.size:=Aea hh
  have hH:Holds (Value.int .i64) w b o l.toArray:=by
   intro j hj
   have hj':j<l.length:=by simpa using hj
   refine⟨?_,by simp[World.frozen?,hh]⟩
   rw[Za hh,hcell j l[j] (Fa hj')];simp[hj']
  refine(hs b o cap l w hH hlt hl).mono ?_;rintro e w' ⟨rfl,m,os,rfl⟩
  have hb':(grow (putRow (Value.int .i64) (Sort.ahead w m) b o (l.mergeSort fun x y=>decide (x≤y)).toArray) os).heap[b]? =some (.cells (Go.Sort.putCells (Value.int .i64) o (l.mergeSort fun x y=>decide (x≤y)).toArray arr) T (0,0)):=by
   rw[heap_grow_old _ _ (by simpa using hlt)]
   simp[putRow,mapBlock,Sort.ahead,Array.getElem?_modify,hh,onCells]
  have ho': ∀k,k<w.heap.size->k≠b->(grow (putRow (Value.int .i64) (Sort.ahead w m) b o (l.mergeSort fun x y=>decide (x≤y)).toArray) os).heap[k]? =w.heap[k]? :=by
   intro k hk hne;rw[heap_grow_old _ _ (by simpa using hk)]
   have:b≠k:=fun e=>hne e.symm;simp[putRow,mapBlock,Sort.ahead,Array.getElem?_modify,this]
  have hlen:(l.mergeSort fun x y=>decide (x≤y)).length=l.length:=List.length_mergeSort _;refine⟨_,σ,β,rfl,⟨rfl,rfl,rfl,by simp,fun k hk hk2=> ?_,fun _ _ _=>rfl⟩,fun _ _=>rfl,Z9 _,⟨rfl,fun id B hB=> ?_,fun k hk=>hr.new k ?_⟩,hres _⟩
  ·refine ho' k hk fun e=> ?_;subst e;simp only at hσ;rw[hσ]at hk2;rcases hk2 with h|h<;>simp at h
  ·match id,hB with
   |1,hB=>
    simp only[Eh,Y8,Z7]at hB;subst hB;refine⟨by simp[Q77],?_⟩
    refine .mk hβ ⟨hσ,by simp[Q77],by simp[Q77,hlen];omega,_,T,hb',by simp[Q77,Go.Sort.putCells];omega,?_⟩
    intro k j x v hk hj;simp only[Q77,Dv]at hk;obtain⟨z,h1,rfl⟩:=Z5.1 hk
    match j,hj with
    |0,hj=>
     simp only[Y8,Z7]at hj;subst hj
     have hk3:k<(l.mergeSort fun x y=>decide (x≤y)).length:=(Z3.1 h1).1;refine⟨.int .i64 z,?_,.c (.int _ _ _)⟩
     have h4:(l.mergeSort fun x y=>decide (x≤y))[k]=z:=(Z3.1 h1).2;simp only[Q77,Nat.mul_one,Nat.add_zero,Go.Sort.putCells,Array.getElem?_mapIdx];rw[Array.getElem?_eq_getElem (by omega)]
     simp only[Vv,List.size_toArray];rw[if_pos ⟨by omega,by omega⟩]
     simp[h1]
  ·have:w.heap.size≤(grow (putRow (Value.int .i64) (Sort.ahead w m) b o (l.mergeSort fun x y=>decide (x≤y)).toArray) os).heap.size:=by simp
   exact Vx this hk
end Go.Eng
