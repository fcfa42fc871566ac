/- The engine, part 3: what is proved of the model, for any program; no condition. -/
import Derived.Test.YtgcnddnmhllahaaGreatIb
set_option linter.all false
namespace Go.Eng
section
variable {U:Un} {T:Tab} {F:Fr} {S:SS U.D} {τ:Nat->Int}
theorem J9 (B:SB U.D):(B.toB U).ver=B.ver:=by cases B<;>rfl
theorem Ka{L:List Nat}{id:Nat}{B:SB U.D}(h:S.blk id=some B)(hi:id∈L):Cw L (S.toSt U).H id=some (B.toB U):=by
 simp_all[Cw,Am]
def Aau:SV U.D->Option Nat
 | .own id _ _=>some id
 | .part id _ _ _=>some id
 |_=>none
theorem Agx (hU:Ad U){lent:Bool}{io L:List Nat}{id ver off len:Nat}{t:Nat}{d c:Bool}{l:List (U.D t)}(hB:S.blk id=some (.rows ver t d c l))(hi:id∈L)(hp:A7 io id=none):
  V.low true io (Cw L (S.toSt U).H) (.own id ver off len)= .row false (U.sz t) (((l.drop off).take len).map (U.en t)):=by
 show V.low1 true io _ (.own id ver off len)=_;simp_all[V.low1,SB.toB,Ka,Hw,R5]
theorem Aoz{io L:List Nat}(hio: ∀(id i:Nat),A7 io id=some i->id∈L){lent:Bool}: ∀(caps:List (Nat×Nat)) {cs:List (Nat×Nat)},Rh U io S caps=some cs->
  (caps.map fun c=>V.ptr c.1 c.2 0 0).map (V.low1 lent io (Cw L (S.toSt U).H))=cs.map fun c=>V.ptr c.1 c.2 0 0:=by
 intro caps;induction caps with
 |nil=>intro cs h;cases h;rfl
 |cons c r ih=>
  intro cs h;unfold Rh at h;split at h
  ·rename_i B i cs2 e1 e2 e3;split at h
   ·rename_i e4;cases h;simp_all[V.low1,J9,Ka]
   ·cases h
  ·cases h
theorem Agy (hU:Ad U){lent:Bool}{io L:List Nat}{v:SV U.D}(hv:v.ok S τ)(hio: ∀(id i:Nat),A7 io id=some i->id∈L)(hl: ∀id,Aau v=some id->A7 io id=none->id∈L)(h:(v.low U lent io S).isU=false):
  ((v.toV U).low lent io (Cw L (S.toSt U).H)).cold=(v.low U lent io S).toV U:=by
 cases v with
 |int k n g=>rfl
 |bool b=>rfl
 |str s=>rfl
 |row t l=>rfl
 |nilp=>rfl
 |rowT t d l=>
  cases l with
  |nil=>rfl
  |cons x r=>cases h
 |own id ver n=>
  simp only[SV.low]at h ⊢;split at h
  ·rename_i B e1;split at h
   ·rename_i e2;have e2:=Z2 e2;split at h
    ·rename_i i e3;show(V.low1 lent io _ (.own id ver 0 n)).cold=_;simp only[V.low1,Ka e1 (hio _ _ e3),J9,e2,if_true,e3];rfl
    ·rename_i e3;unfold Vg at h ⊢;split at h
     ·rename_i ver' t d c l e2b;split at h
      ·have hn:n=l.length:=hv.2 _ e1 e2;have e2:ver'=ver:=e2;subst e2;have:=Agx hU (lent:=true) (off:=0) (len:=n) e1 (hl id rfl e3) e3;show(V.low true io _ (.own id ver' 0 n)).cold=_;rw[this,hn,Hf,List.take_length];rfl
      ·cases h
     ·cases h
   ·cases h
  ·cases h
 |part id ver lo hi=>
  simp only[SV.low]at h ⊢;split at h
  ·rename_i B e1;split at h
   ·rename_i e2;have e2:=Z2 e2;split at h
    ·cases h
    ·rename_i e3;unfold Vh at h ⊢;split at h
     ·rename_i ver' t d c l e2b;split at h
      ·have e2:ver'=ver:=e2;subst e2;have:=Agx hU (lent:=true) (off:=lo.toNat) (len:=(hi - lo).toNat) e1 (hl id rfl e3) e3;show(V.low true io _ (.own id ver' lo.toNat (hi - lo).toNat)).cold=_;rw[this];rfl
      ·cases h
     ·cases h
   ·cases h
  ·cases h
 |ptr id ver j=>
  simp only[SV.low]at h ⊢;split at h
  ·rename_i B e1;split at h
   ·rename_i e2;have e2:=Z2 e2;split at h
    ·rename_i i e3;show(V.low1 lent io _ (.ptr id ver 0 j)).cold=_;simp only[V.low1,Ka e1 (hio _ _ e3),J9,e2,if_true,e3];rfl
    ·cases h
   ·cases h
  ·cases h
 |ptrB t x j=>rfl
 |fn f caps rs=>
  simp only[SV.low]at h ⊢;split at h
  ·rename_i cs e;show(V.fn f (((caps.map fun c=>V.ptr c.1 c.2 0 0)++rs.map fun q=>V.ip (U.sz q.1) [U.en q.1 q.2] 0 0).map (V.low1 lent io (Cw L (S.toSt U).H)))).cold=V.fn f ((cs.map fun c=>V.ptr c.1 c.2 0 0)++rs.map fun q=>V.ip (U.sz q.1) [U.en q.1 q.2] 0 0);rw[Er,Aoz hio caps e,Ar];rfl
  ·cases h
 |ptrE id ver g i j=>cases h
 |ptrA id ver i=>cases h
 |ptrR t l i j=>cases h
 |skip=>cases h
 |undef=>cases h
theorem Ao0 (hU:Ad U){lent:Bool}{io L:List Nat}{a:SA U.D}(hv:a.ok S τ)(hio: ∀(id i:Nat),A7 io id=some i->id∈L)(hl: ∀c∈a.cells,∀id,Aau c=some id->A7 io id=none->id∈L)(h:Ri U (a.low U lent io S)=true):
  (a.toA U).low lent io (Cw L (S.toSt U).H)=(a.low U lent io S).toA U:=by
 cases a with
 |c v=>
  show A.c _=A.c _;rw[Agy hU hv hio (hl v (by simp[SA.cells])) (by grind [Ri,SA.low,SA.cells])]
 |g cs=>
  show A.g _=A.g _;congr 1;rw[Ar,Ar];refine Bf fun c hc=> ?_;refine Agy hU (hv c hc) hio (hl c hc) ?_
  have:=Z1.1 h (c.low U lent io S) (List.mem_map_of_mem hc)
  grind
 |t xs=>cases h
theorem Ao1{ty:Nat}{x:Operand}(h:Vl U x (S.val T ty x)=true):(S.toSt U).val [] x=(S.val T ty x).toA U:=by
 cases x with
 |tmp t=>rfl
 |func f=>rfl
 |global g=>rfl
 |const v=>
  have h:(Q6 (S.val T ty (.const v)).cells&&C2 (S.val T ty (.const v)).cells)=true:=h;simp only[Z4]at h;cases e:S.val T ty (.const v)with
  |c w=>
   rw[e]at h;refine Aga e (by simp_all[Q6,SA.cells]) ?_;simp_all[C2,SA.cells]
  |g cs=>
   rw[e]at h;exact R2 e (J7 h.1) h.2
  |t xs=>exact Aaj e
theorem Ao2{lent:Bool}{io:List Nat}{v:SV U.D}{i v' len:Nat}(h:v.low U lent io S= .own (i+1) v' len): ∃id ver B,v= .own id ver len/\A7 io id=some i/\S.blk id=some B/\B.ver=ver:=by
 cases v with
 |own id ver n=>
  simp only[SV.low]at h;split at h
  ·rename_i B e1;split at h
   ·rename_i e2;split at h
    ·rename_i j e3;simp only[SV.own.injEq,Nat.add_right_cancel_iff]at h;obtain⟨rfl,_,rfl⟩:=h;exact⟨id,ver,B,rfl,e3,e1,Z2 e2⟩
    ·unfold Vg at h
     grind
   ·cases h
  ·cases h
 |part id ver lo hi=>
  simp only[SV.low]at h;split at h
  ·split at h
   ·split at h
    ·cases h
    ·unfold Vh at h
     grind
   ·cases h
  ·cases h
 |ptr id ver j=>
  grind [SV.low]
 |fn f caps rs=>
  grind [SV.low]
 |rowT t d l=>cases l<;>cases h
 |_=>cases h
theorem Kb{c:SV U.D}(hU:Ad U)(h:c.shut=true):(c.toV U).closed=true:=by cases c<;>first|rfl|cases h
theorem R9{v:V}(h:v.closed=true)(lent:Bool)(io:List Nat)(H:Nat->Option Blk):v.low lent io H=v:=by
 have:=Afs (l:=[v]) (by grind) lent io H
 grind
theorem Ao3 (hU:Ad U){lent:Bool}{io L:List Nat}{id:Nat}{b:SB U.D}(h:Vi U S id=some b)(hi:id∈L):Eu lent io (Cw L (S.toSt U).H) id=b.toB U/\ ∃B,S.blk id=some B/\B.len=b.len:=by
 unfold Vi at h;split at h
 ·rename_i ver t d c l e;cases h;refine⟨?_,_,e,rfl⟩;unfold Eu;rw[Ka e hi];cases d with
  |true=>exact(hU.eF t).lowB_at _ _ _ _ _
  |false=>exact Go.Eng.lowB_at (hU.en t) _ _ _ _ _
 ·rename_i ver cs e;split at h
  ·rename_i e2;cases h;refine⟨?_,_,e,rfl⟩;unfold Eu;rw[Ka e hi];show Blk.mk 0 _ _=Blk.mk 0 _ _;congr 1;simp only[SB.toB,Z8,De];congr 1;rw[Ar];exact Bf fun c hc=>R9 (Kb hU (Z1.1 e2 c hc)) _ _ _
  ·cases h
 ·cases h
theorem Agz (hU:Ad U){lent:Bool}{io0 L:List Nat}: ∀(io:List Nat) {H0:List (SB U.D)},Nh U S io=some H0->(∀id∈io,id∈L)->
  io.map (Eu lent io0 (Cw L (S.toSt U).H))=H0.map (SB.toB U)/\ ∀(i id:Nat),io[i]? =some id-> ∃(B b:SB U.D),S.blk id=some B/\H0[i]? =some b/\B.len=b.len:=by
 intro io;induction io with
 |nil=>intro H0 h _;cases h;grind
 |cons x r ih=>
  grind [Nh,Ao3]
end
section
variable {U:Un} {T:Tab} {F:Fr} {S:SS U.D} {τ:Nat->Int}
theorem Ag0: ∀ {l:List V},l.all V.fresh=true->Hl l=true:=by
 intro l;induction l with
 |nil=>intro _;rfl
 |cons v r ih=>
  simp_all[Hl]
theorem Ag1: ∀ {l:List (List V)},(∀x∈l,Hl x=true)->Hk l=true:=by
 intro l;induction l with
 |nil=>intro _;rfl
 |cons v r ih=>
  intro h;simp only[Hk,h v (by simp),ih fun x hx=>h x (by simp[hx]),Bool.and_self]
theorem Ag2 (hU:Ad U){d:Bool}{t:Nat}(h:(d&& !U.far t 1000||U.flat t)=true)(x:U.D t):(U.eT d t x).all V.fresh=true:=by
 cases d with
 |true=>exact hU.fresh t x (by simpa using h)
 |false=>
  have h:U.flat t=true:=by grind
  show(U.en t x).all V.fresh=true;rw[<-hU.flat t h];exact hU.fresh t x (by simp[h])
theorem Sa{v:V}(hc:v.closed=true){lent:Bool}(hf:lent=false\/v.fresh=true)(outs:List Nat)(ν:Nat->Nat):v.back lent outs ν=v:=by
 cases v with
 |row o es xs=>
  grind [V.back]
 |int=>rfl
 |bool=>rfl
 |str=>rfl
 |nilp=>rfl
 |_=>cases hc
theorem Ao4 (hU:Ad U){lent d:Bool}{t:Nat}(h:(!lent||(d&& !U.far t 1000||U.flat t))=true)(outs:List Nat)(ν:Nat->Nat)(l:List (U.D t)):(l.map (U.eT d t)).map (fun x=>x.map (V.back lent outs ν))=l.map (U.eT d t):=by
 rw[Ar];refine Bf fun a _=> ?_
 show(U.eT d t a).map _=U.eT d t a;refine(Bf fun v hv=> ?_).trans (List.map_id _);refine Sa (Z1.1 ((hU.eT d t).2 a) v hv) ?_ _ _;cases lent with
 |false=>grind
 |true=>
  right;refine Z1.1 (Ag2 hU (d:=d) (t:=t) ?_ a) v hv
  grind
theorem Aav (hU:Ad U){lent:Bool}{outs:List Nat}{ν ver:Nat->Nat}(hν: ∀id∈outs,ν id=ver id){v:SV U.D}(h:Ju U lent v=true):(v.toV U).back lent outs ν=(v.up U outs ver).toV U:=by
 cases v with
 |int k n g=>rfl
 |bool b=>rfl
 |str s=>rfl
 |nilp=>rfl
 |row t l=>
  cases l with
  |nil=>exact Sa (by rfl) (.inr rfl) _ _
  |cons x r=>
   have h:(!lent||false)=true:=h
   exact Sa (by rfl) (.inl (by grind)) _ _
 |rowT t d l=>
  have h:(!lent||(d&& !U.far t 1000||U.flat t))=true:=h
  refine Sa (by rfl) ?_ _ _;cases lent with
  |false=>grind
  |true=>
   right;show(true&&Hk (l.map (U.eT d t)))=true;rw[Z30];refine Ag1 fun x hx=> ?_;obtain⟨a,_,rfl⟩:=A8.1 hx
   grind [Ag0,Ag2]
 |own id ve n=>
  cases id with
  |zero=>rfl
  |succ i=>
   grind [V.back,SV.up,SV.toV]
 |ptr id ve j=>
  cases id with
  |zero=>rfl
  |succ i=>
   grind [V.back,SV.up,SV.toV]
 |_=>cases h
theorem Ag3 (hU:Ad U){lent:Bool}{outs:List Nat}{ν ver:Nat->Nat}(hν: ∀id∈outs,ν id=ver id){cs:List (SV U.D)}(h:cs.all (Ju U lent)=true):(cs.map (SV.toV U)).map (V.back lent outs ν)=(Ni U outs ver cs).map (SV.toV U):=by
 simp_all[Ni,Aav]
theorem Ag4{α β:Type}(f:α->β)(l:List α)(d:α)(d':β)(h:f d=d'):(l.map f).headD d'=f (l.headD d):=by
 cases l with
 |nil=>grind
 |cons x r=>rfl
theorem Ao5 (hU:Ad U){lent:Bool}{outs:List Nat}{ν ver:Nat->Nat}(hν: ∀id∈outs,ν id=ver id){a:SA U.D}(h:Afy U lent a=true):(a.toA U).backT lent outs ν=(a.up U outs ver).toA U:=by
 cases a with
 |c v=>show A.c _=A.c _;rw[Aav hU hν h]
 |g cs=>show A.g _=A.g _;rw[Ag3 hU hν h]
 |t xs=>
  show A.t ((xs.map _).map _)=A.t ((xs.map _).map _);congr 1;rw[Ar,Ar];refine Bf fun x hx=> ?_
  have hx:x.2.all (Ju U lent)=true:=Z1.1 h x hx;have hb:=Ag3 hU hν hx;obtain⟨ag,cs⟩:=x;cases ag with
  |true=>show A.g _=A.g _;rw[hb]
  |false=>
   show A.c ((((cs.map (SV.toV U)).headD .undef)).back lent outs ν)=A.c ((((Ni U outs ver cs).map (SV.toV U)).headD .undef));rw[<-hb,Ag4 (V.back lent outs ν) _ V.undef V.undef rfl]
theorem Ao6 (v:Nat)(B:SB U.D):(B.upV v).toB U=⟨v,(B.toB U).es,(B.toB U).xs⟩:=by cases B<;>rfl
theorem Ag5 (v:Nat)(B:SB U.D):(B.upV v).ver=v:=by cases B<;>rfl
theorem Ag6 (v:Nat)(B:SB U.D):(B.upV v).len=B.len:=by cases B<;>rfl
theorem Ao7 (v:Nat)(B:SB U.D):(B.upV v).clean=false:=by cases B<;>rfl
theorem Ao8 (hU:Ad U){lent:Bool}{outs:List Nat}{ν:Nat->Nat}{B:SB U.D}(h:Vk U lent B=true):(B.toB U).xs.map (fun x=>x.map (V.back lent outs ν))=(B.toB U).xs:=by
 cases B with
 |rows v t d c l=>exact Ao4 hU h outs ν l
 |box v cs=>
  show [(cs.map (SV.toV U)).map (V.back lent outs ν)]=[cs.map (SV.toV U)];congr 1;rw[Ar];refine Bf fun c hc=> ?_
  have:=Z1.1 h c hc;simp only[Z4]at this;have hb:=Aav (U:=U) hU (lent:=lent) (outs:=outs) (ν:=ν) (ver:=ν) (fun _ _=>rfl) this.2;refine hb.trans ?_;cases c<;>first|rfl|(cases this.1.1)
 |arr v n t l=>cases h
 |opn v t d q l g i cs=>cases h
theorem Ao9 (hU:Ad U){lent:Bool}{outs:List Nat}{ν ver:Nat->Nat}: ∀(l:List Nat) (Bs:List (SB U.D)),(∀id∈l,ν id=ver id)->Bs.all (Vk U lent)=true->
  Fb lent outs ν l (Bs.map (SB.toB U))=(Fq U ver l Bs).map fun p=>(p.1,p.2.map (SB.toB U)):=by
 intro l;induction l with
 |nil=>intro Bs _ _;rfl
 |cons id r ih=>
  intro Bs hν hB;cases Bs with
  |nil=>rfl
  |cons B Bs=>
   simp only[Bb,Z4]at hB;simp only[Z8,Fb,Fq,Du,Ao6,ih Bs (fun i hi=>hν i (by simp[hi])) hB.2,hν id (by simp),Ao8 hU hB.1]
theorem Apa{α:Type}{x:Option α}{r:α}: ∀ {l:List (Nat×Nat)},Nj x l=some r->x=some r/\ ∀p∈l,p.1=p.2:=by
 intro l;induction l with
 |nil=>intro h;exact⟨h,by simp⟩
 |cons p s ih=>
  intro h;have key:(∃h2:Nj x s=some r,p.1=p.2)->x=some r/\ ∀q∈p::s,q.1=q.2:=by
   grind
  unfold Nj at h
  grind
theorem Apb: ∀(io:List Nat) (H1:List (SB U.D)),Rk U S io H1=true->(∀p∈Jt U S io H1,p.1=p.2)->
  Jp (S.toSt U) io (H1.map (SB.toB U))/\ ∀(i id:Nat) B1,io[i]? =some id->H1[i]? =some B1-> ∃B,S.blk id=some B/\B.len=B1.len:=by
 intro io;induction io with
 |nil=>grind [Amo]
 |cons x r ih=>
  intro H1 h hl;cases H1 with
  |nil=>cases h
  |cons B Bs=>
   simp only[Rk,Z4]at h;obtain⟨h1,h2⟩:=h;have key:(∃B0,S.blk x=some B0/\B0.len=B.len/\(B0.toB U).es=(B.toB U).es/\(B0.toB U).xs.length=(B.toB U).xs.length)/\ ∀p∈Jt U S r Bs,p.1=p.2:=by
    split at h1
    ·rename_i v t d c l v' t' d' c' l' e;have e3:=Z2 h1;simp only[Jt,e,Ax,forall_eq_or_imp]at hl;refine⟨⟨_,e,?_,?_,?_⟩,hl.2⟩
     ·simp only[SB.len];omega
     ·grind [SB.toB]
     ·simp only[SB.toB,Bi];omega
    ·rename_i v cs v' cs' e;have e3:=Z2 h1;refine⟨⟨_,e,rfl,?_,rfl⟩,hl⟩;simp only[SB.toB];omega
    grind
   obtain⟨⟨B0,k1,k2,k3,k4⟩,k5⟩:=key;obtain⟨g1,g2⟩:=ih Bs h2 k5;refine⟨⟨fun C hC=> ?_,g1⟩,fun i id B1 hi hB1=> ?_⟩
   all_goals grind [Am]
theorem Apc (d:Nat)(rest:List Oper)(n:Nat):(Vj d rest n).length=n:=by
 unfold Vj
 grind
def N4:SA U.D->List (SV U.D)
 | .c v=>[v]
 | .g cs=>cs
 | .t xs=>xs.flatMap (·.2)
def Aaw (n:Nat)(H:List (SB U.D))(c:SV U.D):Prop:= ∀i v len,c= .own (i+1) v len->n<=i/\ ∀B,H[i - n]? =some B->len=B.len
theorem Ag7{n:Nat}{H:List (SB U.D)}{c:SV U.D}(h:c.shut=true):Aaw n H c:=by rintro i v len rfl;cases h
theorem Apd: ∀(cs:List (SV U.D)) (n:Nat),cs.all SV.shut=true-> ∀H,∀c∈(Q9 U n cs).1,Aaw n ((Q9 U n cs).2++H) c/\ ∀i v len,c= .own (i+1) v len->i<n+(Q9 U n cs).2.length:=by
 intro cs;induction cs with
 |nil=>intro n _ H c hc;cases hc
 |cons x r ih=>
  intro n h H c hc;simp only[Bb,Z4]at h;by_cases hx:isT x=true
  ·cases x with
   |rowT t d l=>
    simp only[Q9]at hc ⊢;rcases Ax.1 hc with rfl|hc
    ·refine⟨fun i v len e=> ?_,fun i v len e=> ?_⟩
     ·simp only[SV.own.injEq,Nat.add_right_cancel_iff]at e;obtain⟨rfl,_,rfl⟩:=e;refine⟨Z9 _,fun B hB=> ?_⟩;rw[Nat.sub_self]at hB;simp only[Gh,E9,Z7]at hB;subst hB;rfl
     grind
    ·obtain⟨g1,g2⟩:=ih (n+1) h.2 H c hc;refine⟨fun i v len e=> ?_,fun i v len e=> ?_⟩
     ·obtain⟨k1,k2⟩:=g1 i v len e
      grind
     grind
   |_=>cases hx
  ·have hx:isT x=false:=by grind
   rw[Lq hx]at hc ⊢;rcases Ax.1 hc with rfl|hc
   ·exact⟨Ag7 h.1,fun i v len e=>by subst e;cases h.1⟩
   ·exact ih n h.2 H c hc
theorem Ape (hU:Ad U){W:List TC}: ∀(rs:List RM) (n:Nat) (r:Af U (rs.map RM.code++W)),∀x∈(Cl U W rs n r).1,∀c∈x.2,Aaw n (Cl U W rs n r).2.1 c:=by
 intro rs;induction rs with
 |nil=>intro n r x hx;cases hx
 |cons m rs ih=>
  intro n r x hx c hc;cases m with
  |v t=>
   simp only[Cl]at hx ⊢;rcases Ax.1 hx with rfl|hx
   ·exact Ag7 (Z1.1 (hU.csSh t _) c hc)
   grind
  |n t m=>
   simp only[Cl]at hx ⊢;rcases Ax.1 hx with rfl|hx
   ·exact(Apd _ n (hU.shut t m _) _ c hc).1
   ·intro i v len e;obtain⟨k1,k2⟩:=ih _ _ x hx c hc i v len e
    grind
  |p t m=>
   simp only[Cl]at hx ⊢;rcases Ax.1 hx with rfl|hx
   ·intro i v len e
    grind
   ·intro i v len e;obtain⟨k1,k2⟩:=ih _ _ x hx c hc i v len e
    grind
theorem Apf: ∀(es:List (Nat×Bool)) (W:List TC) (r:Af U (es.map (fun e=>TC.l e.1)++W)),(Gt U es W r).1.length=es.length:=by
 intro es;induction es with
 |nil=>intro W r;rfl
 |cons e es ih=>grind [Gt]
theorem Apg: ∀(ps:List PM) (r:Af U (Dh ps)),(E6 U ps r).length=Aw ps:=by
 intro ps;induction ps with
 |nil=>intro r;rfl
 |cons p ps ih=>
  intro r;cases p with
  |v t=>exact ih r
  |b t m=>grind [E6,Aw]
  |w t m es=>
   grind [Apf,E6,Aw]
  |r t=>exact ih r
  |f fid caps ts=>exact ih r
theorem Aph (l:List (Bool×List (SV U.D))): ∀c∈N4 (Rf U l),∃x∈l,c∈x.2:=by
 unfold Rf;split
 ·intro c hc;exact⟨_,Dt.2 rfl,hc⟩
 ·intro c hc;exact⟨_,Dt.2 rfl,hc⟩
 ·intro c hc;obtain⟨x,h1,h2⟩:=List.mem_flatMap.1 hc
  grind
theorem Api (hU:Ad U)(sg:Sig)(r:Af U sg.codes): ∀c∈N4 (sg.res U r),R8 (sg.blks U r) c:=by
 intro c hc i v len e B hB;obtain⟨x,h1,h2⟩:=Aph _ c hc;obtain⟨k1,k2⟩:=Ape hU sg.rs (Aw sg.ps) r x h1 c h2 i v len e
 grind [Sig.blks,Apg]
end
section
variable {U:Un} {T:Tab} {F:Fr} {S:SS U.D} {τ:Nat->Int}
theorem Ag8{e:List (Nat×SA U.D)}{nv:List (Nat×Nat)}{c:Nat}: ∀(l H:List (Nat×Option (SB U.D))) (i:Nat),(∀p∈l,p.1≠i)->(⟨e,l.reverse++H,nv,c⟩:SS U.D).blk i=(⟨e,H,nv,c⟩:SS U.D).blk i:=by
 intro l;induction l with
 |nil=>grind
 |cons x r ih=>
  intro H i h;rw[List.reverse_cons,Je,List.singleton_append,ih _ i fun p hp=>h p (by simp[hp])];obtain⟨k,b⟩:=x;rw[D2,if_neg fun e=>h (k,b) (by simp) e.symm]
theorem Ag9{ver:Nat->Nat}: ∀(l:List Nat) (Bs:List (SB U.D)),∀p∈Fq U ver l Bs,p.1∈l:=by
 intro l;induction l with
 |nil=>intro Bs p hp;cases Bs<;>cases hp
 |cons id r ih=>
  intro Bs p hp;cases Bs with
  |nil=>cases hp
  |cons B Bs=>
   rcases Ax.1 hp with rfl|hp
   all_goals grind
theorem Apj{e:List (Nat×SA U.D)}{nv:List (Nat×Nat)}{c:Nat}{ver:Nat->Nat}: ∀(l:List Nat) (Bs:List (SB U.D)) (H:List (Nat×Option (SB U.D))),l.Nodup-> ∀(i id:Nat) B,l[i]? =some id->Bs[i]? =some B->
  (⟨e,(Fq U ver l Bs).reverse++H,nv,c⟩:SS U.D).blk id=some (B.upV (ver id)):=by
 intro l;induction l with
 |nil=>grind
 |cons x r ih=>
  intro Bs H hd i id B hi hB;have hd':=List.nodup_cons.1 hd;cases Bs with
  |nil=>simp at hB
  |cons C Bs=>
   simp only[Fq];rw[List.reverse_cons,Je,List.singleton_append];cases i with
   |zero=>
    simp only[E9,Z7]at hi hB;subst hi;subst hB;rw[Ag8 _ _ _ fun p hp e=>hd'.1 (by grind [Ag9]),D2,if_pos rfl]
   |succ i=>grind
theorem Apk (io news:List Nat):F9 (io++news) (E4 io news)=news:=by
 unfold E4;induction io with
 |nil=>
  induction news with
  |nil=>rfl
  |cons x r ih=>grind [F9]
 |cons x r ih=>assumption
theorem Aax{io:List Nat}{id:Nat}{B:SB U.D}(h:id∈io)(hB:S.blk id=some B):Dz U S io id=B.ver:=by
 simp_all[Dz]
theorem Aay{io:List Nat}{id:Nat}(h:id ∉ io):Dz U S io id=S.ver id:=by
 unfold Dz
 grind
theorem Apl{io news:List Nat}(hd:(io++news).Nodup)(hl: ∀id∈io,∃B,S.blk id=some B): ∀id∈io++news,Cf (S.toSt U) (io++news) (E4 io news) id=Dz U S io id:=by
 intro id hid;obtain⟨i,hi⟩:=List.getElem?_of_mem hid;rcases Bj i io.length with h|h
 ·have hk:(E4 io news)[i]? =some true:=by
   grind [E4]
  have hio:id∈io:=by grind
  obtain⟨B,hB⟩:=hl id hio;rw[(Qh hd hi hk).1,if_pos rfl,Am hB,Aax hio hB];exact J9 B
 ·have hnew:id∈news:=by grind
  have hk:(E4 io news)[i]? =some false:=by
   grind [E4]
  have hno:id ∉ io:=fun h2=>(List.nodup_append.1 hd).2.2 id h2 id hnew rfl;rw[(Qh hd hi hk).1,if_neg (by simp),Aay hno]
  rfl
theorem Ax6{l:List Nat}{x:Nat}(h:A7 l x=none):x ∉ l:=by
 induction l with
 |nil=>simp
 |cons y r ih=>
  simp only[A7]at h;by_cases e:x=y
  all_goals simp_all
theorem Apm{io:List Nat}: ∀(args:List (SA U.D)),∀a∈args,∀c∈a.cells,∀id,Aau c=some id->id ∉ io->id∈Ge U io args:=by
 intro args;induction args with
 |nil=>grind
 |cons x r ih=>
  intro a ha c hc id hr hn;have hcon:io.contains id=false:=by
   grind
  rcases Ax.1 ha with rfl|ha
  ·refine List.mem_append_left _ (List.mem_flatMap.2 ⟨c,hc,?_⟩);cases c with
   |own id' v n=>cases hr;grind
   |part id' v lo hi=>cases hr;grind
   |_=>cases hr
  ·exact List.mem_append_right _ (ih a ha c hc id hr hn)
theorem Ae.callArgs (h:Ae S τ)(caps:List (Nat×Nat))(rs:List (Σ t,U.D t))(l:List (Operand×TypeId)): ∀a∈callArgs U T S caps rs l,a.ok S τ:=by
 intro a ha;rcases C5.1 ha with ha|ha
 ·obtain⟨p,_,rfl⟩:=A8.1 ha;exact h.val _ _
 ·rcases C5.1 ha with ha|ha
  ·obtain⟨p,_,rfl⟩:=A8.1 ha;trivial
  ·obtain⟨p,_,rfl⟩:=A8.1 ha;trivial
theorem Apn{caps:List (Nat×Nat)}{rs:List (Σ t,U.D t)}{xs:Array Operand}{ats:Array TypeId}(hs:xs.size=ats.size)(h:(xs.toList.zip ats.toList).all (fun p=>Vl U p.1 (S.val T p.2 p.1))=true):
  (Go.Eng.callArgs U T S caps rs (xs.toList.zip ats.toList)).map (SA.toA U)=Ga (S.toSt U) xs ((caps.map fun c=> .ptr c.1 c.2 0 0)++rs.map fun q=> .ip (U.sz q.1) [U.en q.1 q.2] 0 0):=by
 unfold Go.Eng.callArgs Ga;rw[Er,Er,Er,Ar,Ar,Ar,Ar,Ar];congr 1;have h1:xs.toList=(xs.toList.zip ats.toList).map Prod.fst:=(List.map_fst_zip (by simp[hs])).symm
 conv=>rhs;rw[h1,Ar]
 refine Bf fun p hp=> ?_;exact(Ao1 (Z1.1 h p hp)).symm
theorem Apo{S':SS U.D}{outs:List Nat}{ver:Nat->Nat}{c:SV U.D}(h: ∀i v len id,c= .own (i+1) v len->outs[i]? =some id->(SV.own id (ver id) len:SV U.D).ok S' τ):(c.up U outs ver).ok S' τ:=by
 cases c with
 |own id v n=>
  cases id with
  |zero=>trivial
  |succ i=>
   simp only[SV.up];cases e:outs[i]? with
   |none=>trivial
   |some id=>grind
 |ptr id v j=>
  cases id with
  |zero=>trivial
  |succ i=>
   simp only[SV.up];cases outs[i]? <;>trivial
 |int k n g=>exact Ep
 |_=>trivial
theorem App{S':SS U.D}{outs:List Nat}{ver:Nat->Nat}{a:SA U.D}(h: ∀c∈N4 a,(c.up U outs ver).ok S' τ):(a.up U outs ver).ok S' τ:=by
 cases a with
 |c v=>exact h v (by simp[N4])
 |g cs=>
  intro c hc;obtain⟨c0,h1,rfl⟩:=A8.1 hc;exact h c0 h1
 |t xs=>
  intro x hx c hc;obtain⟨x0,h1,rfl⟩:=A8.1 hx;obtain⟨c0,h2,rfl⟩:=A8.1 hc;exact h c0 (List.mem_flatMap.2 ⟨x0,h1,h2⟩)
theorem Apq (hU:Ad U)(hw:Ae S τ){f:FuncId}(hf:Cg F.P f){o:Oper}{x:Operand}{xs:Array Operand}{ats:Array TypeId}{lent:Bool}{caps:List (Nat×Nat)}{rs:List (Σ t,U.D t)}{args:List (SA U.D)}{io news:List Nat}{H0 H1:List (SB U.D)}{res:SA U.D}{α:Type}{k:Aj U.D->Option α}{r:α}
  (ho:o.op= .call ⟨.value x,xs,ats⟩) (hx:(S.toSt U).val [] x= .c (.fn f ((caps.map fun c=> .ptr c.1 c.2 0 0)++rs.map fun q=> .ip (U.sz q.1) [U.en q.1 q.2] 0 0))) (ha:args.map (SA.toA U)=Ga (S.toSt U) xs ((caps.map fun c=> .ptr c.1 c.2 0 0)++rs.map fun q=> .ip (U.sz q.1) [U.en q.1 q.2] 0 0)) (hok: ∀a∈args,a.ok S τ)
  (hlow:(args.map (SA.low U lent io S)).all (Ri U)=true) (hH0:Nh U S io=some H0) (hn:news.length=H1.length - io.length)
  (hsp:Sp F.P f ((args.map (SA.low U lent io S)).map (SA.toA U)) (H0.map (SB.toB U)) (res.toA U) (H1.map (SB.toB U))) (hres: ∀c∈N4 res,R8 H1 c)
  (h:Vm U S lent io (Ge U io args) news (Q2 (x::xs.toList)) k H1 res=some r):Ah U F T S τ o k r:=by
 unfold Vm at h;split at h
 ·rename_i hc;simp only[Z4,decide_eq_true_eq]at hc;obtain⟨⟨⟨⟨⟨hk,hA⟩,hB⟩,hlen⟩,hnd⟩,hnew⟩:=hc;have hlen:=Az hlen;obtain⟨hk1,hl⟩:=Apa h;obtain⟨hsl,hkl⟩:=Apb io H1 hk hl;obtain⟨hb1,hb2⟩:=Agz hU (lent:=lent) (io0:=io) (L:=io++news++Ge U io args) io hH0 (fun id hi=>by simp[hi]);have hlive: ∀id∈io,∃B,S.blk id=some B:=fun id hi=>by
   grind [List.getElem?_of_mem]
  have hνs:=Apl (U:=U) hnd hlive;have houts:(io++news).length=H1.length:=by grind
  refine⟨_,hk1,?_,?_⟩
  ·refine sCg (H0:=H0.map (SB.toB U)) (H1:=H1.map (SB.toB U)) hsp hf lent io news (io++news++Ge U io args) ho hx ?_ hb1 hnd ?_ ?_ hnew (by grind) hsl ?_ (Apk io news) ?_
   ·rw[<-ha,Ar,Ar];refine Bf fun a hm=> ?_;refine Ao0 hU (hok a hm) (fun id i hp=> ?_) (fun c hcc id hr hp=> ?_) (Z1.1 hlow _ (List.mem_map_of_mem hm))
    ·have:=Z6 (Hj hp);grind
    grind [Apm]
   ·refine Z1.2 fun id hi=> ?_;obtain⟨B,hB⟩:=hlive id hi
    simp_all[Ka]
   ·grind
   all_goals grind [Ao9,Ao5]
  ·have hblk: ∀(i id:Nat) B,(io++news)[i]? =some id->H1[i]? =some B->(S.app o.dst {v:=res.up U (io++news) (Dz U S io),upd:=Fq U (Dz U S io) (io++news) H1,bump:=news,use:=Q2 (x::xs.toList),ids:=io++news++Ge U io args}).blk id=some (B.upV (Dz U S io id)):=fun i id B hi hB=>Apj _ _ _ hnd i id B hi hB
   have hblk0: ∀id,id ∉ io++news->(S.app o.dst {v:=res.up U (io++news) (Dz U S io),upd:=Fq U (Dz U S io) (io++news) H1,bump:=news,use:=Q2 (x::xs.toList),ids:=io++news++Ge U io args}).blk id=S.blk id:=fun id hi=>Ag8 _ _ _ fun p hp e=>hi (by grind [Ag9])
   have hver: ∀id,(S.app o.dst {v:=res.up U (io++news) (Dz U S io),upd:=Fq U (Dz U S io) (io++news) H1,bump:=news,use:=Q2 (x::xs.toList),ids:=io++news++Ge U io args}).ver id=Do S.ver news id:=fun id=>Af5 news S.nv id
   have hH1: ∀(i id:Nat),(io++news)[i]? =some id-> ∃B,H1[i]? =some B:=fun i id hi=>by
    have:=(Z3.1 hi).1;simp_all
   have hlt: ∀id∈io++news,Dz U S io id<Do S.ver news id:=fun id hi=>by
    by_cases h1:id∈io
    ·obtain⟨B,hB⟩:=hlive id h1;rw[Aax h1 hB];exact Ee (hw.2.2 id B hB).1 (Ku _ _ _)
    ·rw[Aay h1];exact Aey _ ((C5.1 hi).resolve_left h1)
   generalize hS':(S.app o.dst {v:=res.up U (io++news) (Dz U S io),upd:=Fq U (Dz U S io) (io++news) H1,bump:=news,use:=Q2 (x::xs.toList),ids:=io++news++Ge U io args})=S' at hblk hblk0 hver ⊢;have hctr:S'.ctr=S.ctr:=by rw[<-hS'];rfl
   have hevo:Br S S':=by
    refine⟨by omega,fun id=>by grind [Ku],fun id B' hB' hv=> ?_⟩;by_cases hi:id∈io++news
    ·obtain⟨i,hi2⟩:=List.getElem?_of_mem hi;obtain⟨B1,hB1⟩:=hH1 i id hi2;rw[hblk i id B1 hi2 hB1]at hB';cases hB';rw[Ag5]at hv ⊢;rcases Bj i io.length with hlt|hge
     ·rw[D5 hlt]at hi2;obtain⟨B,k1,k2⟩:=hkl i id B1 hi2 hB1;refine⟨B,k1,?_,by grind [Ag6],fun h=> ?_⟩
      ·exact(Aax (Z6 hi2) k1).symm
      grind [Ao7]
     ·exfalso;rw[C4 hge]at hi2;have hno:id ∉ io:=fun h2=>(List.nodup_append.1 hnd).2.2 id h2 id (Z6 hi2) rfl
      simp_all[Aay]
    grind
   rw[<-hS']at hevo hblk hblk0 hver ⊢;refine hw.app hevo (App fun c hc=>Apo fun i v len id e hi=>⟨?_,fun B hB hv=> ?_⟩) fun id B hB2=> ?_
   ·grind
   ·obtain⟨B1,hB1⟩:=hH1 i id hi;rw[hblk i id B1 hi hB1]at hB;cases hB;rw[Ag6];exact hres c hc i v len e B1 hB1
   ·by_cases hi:id∈io++news
    ·right;obtain⟨i,hi2⟩:=List.getElem?_of_mem hi;obtain⟨B1,hB1⟩:=hH1 i id hi2;rw[hblk i id B1 hi2 hB1]at hB2;cases hB2;refine⟨by grind [Ag5],?_⟩;have hb:=Z1.1 hB B1 (Z6 hB1);cases B1 with
     |rows v t d c l=>trivial
     |box v cs=>
      intro c hc;have:=Z1.1 hb c hc;simp only[Z4]at this;exact Fu this.1.1 this.1.2
     |arr v n t l=>cases hb
     |opn v t d q l g i cs=>cases hb
    grind
 ·cases h
theorem Apr (hU:Ad U)(hw:Ae S τ){Γ:List (Nat×Bc U)}(hΓ: ∀f c,lk Γ f=some c->Bc.Ok U F.P f c/\Cg F.P f){o:Oper}{rest:List Oper}{x:Operand}{xs:Array Operand}{ats:Array TypeId}{α:Type}{k:Aj U.D->Option α}{r:α}
  (ho:o.op= .call ⟨.value x,xs,ats⟩) (h:Vn U T Γ S o.dst rest x xs ats k=some r):Ah U F T S τ o k r:=by
 unfold Vn at h;split at h
 ·rename_i f caps rs ex;split at h
  ·rename_i sg m ef;obtain⟨hc,hf⟩:=hΓ f _ ef;split at h
   ·rename_i e1;simp only[Z4]at e1;generalize Rj [] (K8 U sg.ps (callArgs U T S caps rs (xs.toList.zip ats.toList)))=io at h;unfold Afz at h;split at h
    ·rename_i H0 e2 e3;have hargs:=hw.callArgs (T:=T) caps rs (xs.toList.zip ats.toList);obtain⟨hb1,hb2⟩:=Agz hU (lent:=true) (io0:=[]) (L:=io) _ e2 (fun id hi=>hi);obtain⟨mm,g1,g2⟩:=Aoy hU sg.ps _ 0 m [] [] (by simp) hc (fun a ha c hcc i v len e B hB=>by
      obtain⟨a0,ha0,rfl⟩:=A8.1 ha;have: ∃c0∈a0.cells,c0.low U sg.lend io S=c\/c= .undef:=by
       cases a0 with
       |c v0=>exact⟨v0,by simp[SA.cells],.inl (Dt.1 hcc).symm⟩
       |g cs=>
        obtain⟨c0,h1,h2⟩:=A8.1 hcc;exact⟨c0,h1,.inl h2⟩
       |t xs2=>
        have:=Z1.1 e3 _ (List.mem_map_of_mem ha0);cases this
      obtain⟨c0,h1,h2⟩:=this;rcases h2 with h2|h2
      ·subst e;obtain⟨id,ver,C,rfl,k2,k3,k4⟩:=Ao2 h2;obtain⟨C',b,k5,k6,k7⟩:=hb2 i id (Hj k2);rw[hB]at k6;cases k6;rw[k3]at k5;cases k5;rw[<-k7];exact(J8 (hargs a0 ha0) _ h1).2 C k3 k4
      grind) h
     cases mm with
     |none=>cases g1
     |some q=>
      exact Apq hU hw hf ho (Eo ex (by simp) rfl) (Apn (Z2 e1.1) e1.2) hargs e3 e2 (Apc _ _ _) (g2 q rfl) (Api hU sg q) g1
    ·cases h
   ·cases h
  ·cases h
 ·cases h
end
section
variable {T:Tab} {F:Fr} {S:St}
theorem Aps{o:Oper}{x:Operand}{t e:Nat}(h:o.op= .call {callee:= .builtin .clear,args:= #[x],argTypes:= #[t]}){ti te:TI}(ht:tg T t=some ti)(hk:ti.k= .slice e)(he:tg T e=some te){kz:IntKind}{nz:Int}(hv0:te.zero=[.int kz nz]){id ver off len:Nat}{xs:List (List V)}(hx:S.val [] x= .c (.own id ver off len))(hB:S.H id=some ⟨ver,1,xs⟩)(h0:0<len):
  Ai F T o S {v:= .t [],upd:=[(id,some ⟨ver,1,xs.take off++List.replicate len te.zero++xs.drop (off+len)⟩)],use:=Q2 [x],ids:=[id]}:=by
 intro henv hd S' h1 h2 a w hs;obtain⟨hdf,hsz,σ,β,hs⟩:=hs;have hB':S'.H id=some ⟨ver,1,xs⟩:=by grind
 have hx':S'.val [] x= .c (.own id ver off len):=by rw[By (l:=[x]) (by simp) (fun t ht=>h1 t ht),hx]
 have g1:=Q4 hs [] x;rw[hx']at g1;have g1':=B7 g1;obtain⟨z,hz,hzc,hz1⟩:=(henv.tab.ty he).zero w;have hcz:z.cells.toList=[.int kz nz]:=by
  rw[hv0]at hzc
  match e:z.cells.toList,hzc with
  |[.int k' n'],hzc=>
   simp only[F6,E3,Bool.and_true,Z4,decide_eq_true_eq]at hzc;obtain⟨rfl,rfl⟩:=hzc;rfl
  | .int _ _::_::_,hzc=>simp[F6]at hzc
 have hzs:z.cells.size=1:=by rw[<-Array.length_toList,hcz];rfl
 have hc0:z.cells[0]? =some (.int kz nz):=by rw[<-Array.getElem?_toList,hcz];rfl
 generalize ec:a.eval x=cx at g1';cases g1' with
 |c h=>cases h
 |own _ _ _ _ _ A n cap hn hver hcap hmax hh=>
  subst hn;obtain⟨q1,q2⟩:=hh _ hB' rfl;have q1:off+n<=xs.length:=q1;obtain⟨b,o',n',h3,rfl,h5⟩:=q2.at_ (by omega);obtain⟨r1,r2,r3,arr,T',r4,r5,r6⟩:=(hs.hr.blk id _ hB').2.some h3;have r5:o'+n'*1<=arr.size:=r5;have r3:xs.length<=n':=r3;have hzl:(Builtin.zeroCells z.cells n).toList=List.replicate n (Value.int kz nz):=by
   apply List.ext_getElem?;intro j;simp only[Builtin.zeroCells,hzs,Nat.mul_one,Nat.mod_one,Array.toList_map,Array.toList_range,As,List.getElem?_replicate];by_cases hj:j<n
   ·rw[List.getElem?_range hj,if_pos hj];simp only[Du,Z7];rw[getElem!_pos z.cells 0 (by omega)];rw[Array.getElem?_eq_getElem (by omega)]at hc0;exact F0 hc0
   ·rw[if_neg hj,Pw (by simp;omega)];rfl
  have hone: ∀u∈List.replicate n (Value.int kz nz),u.oneCell'=true:=by
   intro u hu;rw[List.eq_of_mem_replicate hu];rfl
  have hst:=run_storeCells_at F.P b (o'+off*1) T' (List.replicate n (Value.int kz nz)) 0 arr w r4 (by simp;omega) hone;simp only[Nat.add_zero]at hst;have hrun:(Builtin.clear_ #[t] o.type #[.slice (some ⟨b,o'+off*1,none⟩) n cap]).run F.P w= .ok (.tuple #[]) (w.setRow b (An arr (o'+off*1) (List.replicate n (Value.int kz nz)))):=by
   have hu:=(henv.tab.ty ht).slice hk;obtain⟨m,rfl⟩: ∃m,n=m+1:=⟨n - 1,by omega⟩;have e:(Builtin.clear_ #[t] o.type #[.slice (some ⟨b,o'+off*1,none⟩) (m+1) cap]).run F.P w=((storeCells ⟨b,o'+off*1,none⟩ (Builtin.zeroCells z.cells (m+1)).toList)>>=fun _=>(pure (.tuple #[]):Sem Value)).run F.P w:=by
    simp[Builtin.clear_,run_underlying hu,hz]
   rw[e,hzl];simp only[Sem.run_bind,hst,Result.andThen_ok,Sem.run_pure];rfl
  have hop:(execOp a.eval o)=(do let d <-resolve a.eval ⟨.builtin .clear,#[x],#[t]⟩ o.type;invoke d.target d.args):=by grind [execOp]
  have e2:(Array.map a.eval #[x])= #[.slice (some ⟨b,o'+off*1,none⟩) n cap]:=by simp[ec]
  have hexec:(execOp a.eval o).run F.P w= .ok (.value (.tuple #[])) (w.setRow b (An arr (o'+off*1) (List.replicate n (Value.int kz nz)))):=by
   grind [resolve,Sem.run_bind,Sem.run_pure,Result.andThen_ok,invoke,builtin]
  have hov: ∀i,(An arr (o'+off*1) (List.replicate n (Value.int kz nz)))[i]? =if o'+off*1<=i/\i<o'+off*1+(List.replicate n (Value.int kz nz)).length then(List.replicate n (Value.int kz nz))[i - (o'+off*1)]? else arr[i]? :=Eh (by simp;omega)
  have hlen:(xs.take off++List.replicate n te.zero++xs.drop (off+n)).length=xs.length:=by simp;omega
  have hxes: ∀z∈xs,z.length=1:=r2;have hw:=hs.write hB' h3 r4 (arr':=An arr (o'+off*1) (List.replicate n (Value.int kz nz))) (Dx (by rw[List.length_replicate];omega)) (xs':=xs.take off++List.replicate n te.zero++xs.drop (off+n)) hlen (fun y hy=>by
   simp only[C5,List.mem_replicate]at hy;show y.length=1;rcases hy with (hy|⟨_,rfl⟩)|hy
   ·exact hxes _ (Kk hy)
   ·rw[hv0];rfl
   ·exact hxes _ (List.mem_of_mem_drop hy)) (fun k j y vv hk hj=>by
   have hkl:=(Z3.1 hk).1;rw[hlen]at hkl;show ∃c,(An arr (o'+off*1) (List.replicate n (Value.int kz nz)))[o'+k*1+j]? =some c/\_;rw[hov,List.length_replicate];have hla:(xs.take off++List.replicate n te.zero).length=off+n:=by simp;omega
   have hto:(xs.take off).length=off:=by simp;omega
   by_cases hin:off<=k/\k<off+n
   ·have hy:y=te.zero:=by
     rw[D5 (by omega),C4 (by omega),List.getElem?_replicate]at hk;split at hk
     ·exact(F0 hk).symm
     ·cases hk
    subst hy;rw[hv0]at hj;have hj0:j=0:=by
     have:=(Z3.1 hj).1;simp at this;omega
    subst hj0;cases hj;refine⟨.int kz nz,?_,.c (.int _ _ _)⟩;rw[if_pos ⟨by omega,by omega⟩,List.getElem?_replicate,if_pos (by omega)]
   ·have hk3:xs[k]? =some y:=by
     rcases Bj k off with q|q
     ·rw[Je,D5 (by omega),Jf,if_pos q]at hk;exact hk
     ·rw[C4 (by omega),Mu,hla,show off+n+(k - (off+n))=k by omega]at hk;exact hk
    have hj0:j=0:=by
     have:=(Z3.1 hj).1;rw[hxes y (Z6 hk3)]at this;omega
    rw[if_neg (by omega)];exact r6 k j y vv hk3 hj)
  refine .inl ⟨.tuple #[],_,hexec,by grind [Df],by grind [Q7],σ,β,?_⟩;exact hw.putT (dst:=o.dst) (x:= .t []) (v:= .tuple #[]) hsz hd (.t [] #[] (fun _=>default) rfl (fun i v hi=>by simp at hi) (fun i v hi=>by simp at hi))
end
section
variable {U:Un} {T:Tab} {F:Fr} {S:SS U.D} {τ:Nat->Int} {o:Oper} {α:Type} {k:Aj U.D->Option α} {r:α}
theorem Apt (hU:Ad U)(hw:Ae S τ){t:Nat}{x:Operand}(ho:o.op= .call {callee:= .builtin .clear,args:= #[x],argTypes:= #[t]})(h:Ve U T S t x k=some r):Ah U F T S τ o k r:=by
 unfold Ve at h;have hx0:=hw.val (T:=T) t x;split at h
 ·rename_i ti u ht hx;rw[hx]at hx0;split at h
  ·rename_i e id ver off len d e' l hk hd;split at h
   ·rename_i te h1 he _;subst h1;split at h
    ·rename_i z hz;obtain⟨z1,z2,z3⟩:=N2 (S:=S) (τ:=τ) hw.1 hz;split at h
     ·rename_i kz nz a c1 hc ha;simp only[Z4]at hc;obtain⟨c2,c3⟩:=hc;have c2:=Z2 c2;have hza:te.zero=U.eT d e' a:=by
       have:te.zero=U.eF e' a:=by rw[<-z1,hU.fO e' true z a ha,hU.cO]
       cases d with
       |true=>exact this
       |false=>rw[this,hU.flat e' c3];rfl
      split at h
      ·rename_i hl;obtain⟨⟨cl,hB⟩,hv,hnT,hnu,hle⟩:=Agu hd hx0;have hvx:=Eo hx hnu hnT;rw[hv]at hvx;refine⟨_,h,?_,hw.chg (B':= .rows ver e' d false (l.take off++List.replicate len a++l.drop (off+len))) hB rfl ?_ rfl (fun x hx=>by cases hx) trivial⟩
       ·have:=Aps (F:=F) ho ht hk he c1 (xs:=l.map (U.eT d e')) hvx (by rw[Am hB];simp[SB.toB,c2]) hl;have e1:(l.map (U.eT d e')).take off++List.replicate len te.zero++(l.map (U.eT d e')).drop (off+len)=(l.take off++List.replicate len a++l.drop (off+len)).map (U.eT d e'):=by
         simp[hza]
        rw[e1]at this;simp only[Aj.toRec,Z8,De,Du,SB.toB,c2];exact this
       ·simp[SB.len];omega
      ·cases h
     ·cases h
    ·cases h
   ·cases h
  ·cases h
 ·cases h
end
section
variable {U:Un} {T:Tab} {F:Fr} {S:SS U.D} {τ:Nat->Int} {o:Oper} {α β:Type} {k:Aj U.D->Option α} {r:α}
def Fw (U:Un)(T:Tab)(P:Program){α:Type}(q:SS U.D->List Oper->Oper->(Aj U.D->Option α)->Option α):Prop:=
 ∀(F:Fr),F.P=P-> ∀(S:SS U.D) (τ:Nat->Int) (rest:List Oper) (o:Oper) (k:Aj U.D->Option α) (r:α),Ae S τ->q S rest o k=some r->Ah U F T S τ o k r
structure Gf (U:Un)(T:Tab)(P:Program){α:Type}(X:Ox U α):Prop where
 Γ: ∀f c,lk X.Γ f=some c->Bc.Ok U P f c/\Cg P f
 eq:Nv P T X.eqOk
 ov: ∀d l,lk X.ov d=some l-> ∀f c,lk l f=some c->Bc.Ok U P f c/\Cg P f
 kop: ∀d q,lk X.kop d=some q->Fw U T P q
theorem Apu{α:Type}: ∀(a b:List (Nat×α)) (n:Nat) {v:α},lk (a++b) n=some v->lk a n=some v\/lk b n=some v:=by
 intro a;induction a with
 |nil=>grind
 |cons x r ih=>
  intro b n v h;obtain⟨k,u⟩:=x;rw[Gh,D1]at h;rw[D1]
  grind
theorem Gf.all{P:Program}{X:Ox U α}(hX:Gf U T P X)(dst:Option Tmp): ∀f c,lk (ovG U X dst) f=some c->Bc.Ok U P f c/\Cg P f:=by
 intro f c h;unfold ovG at h;split at h
 ·split at h
  all_goals grind [Apu,ov,Γ]
 grind [Γ]
theorem Apv (hU:Ad U)(hw:Ae S τ){X:Ox U α}(hX:Gf U T F.P X){rest:List Oper}(h:Aae U T X S rest o k=some r):Ah U F T S τ o k r:=by
 unfold Aae at h;split at h
 ·grind [Age]
 ·rename_i x ho;exact Age hw (.inr ho) h
 ·grind [Anh]
 ·rename_i op t x y ty ho;split at h
  ·exact Ank hw hX.eq ho h
  grind [Anj]
 ·grind [Anl]
 ·grind [Anm]
 ·grind [Ann]
 ·grind [Ano]
 ·grind [Ant]
 ·grind [Anu]
 ·grind [An1]
 ·grind [An6]
 ·grind [An7]
 ·grind [Anp]
 ·grind [An8]
 ·grind [Aoa]
 ·grind [Agp]
 ·grind [Aop]
 ·grind [Aoc]
 ·grind [Aog]
 ·rename_i c ho;obtain⟨callee,args,argTypes⟩:=c;simp only at h;split at h
  ·rename_i x t e2 e3;have e2:args= #[x]:=Array.toList_inj.1 e2;have e3:argTypes= #[t]:=Array.toList_inj.1 e3
   grind [Aod]
  ·rename_i x y t t' e2 e3;have e2:args= #[x,y]:=Array.toList_inj.1 e2;have e3:argTypes= #[t,t']:=Array.toList_inj.1 e3
   grind [Nat.eq_of_beq_eq_true,Aos]
  ·rename_i x y t t' e2 e3;have e2:args= #[x,y]:=Array.toList_inj.1 e2;have e3:argTypes= #[t,t']:=Array.toList_inj.1 e3
   grind [Aot]
  ·rename_i x t e2 e3;have e2:args= #[x]:=Array.toList_inj.1 e2;have e3:argTypes= #[t]:=Array.toList_inj.1 e3
   grind [Apt]
  ·rename_i x y e2;have e2:args= #[x,y]:=Array.toList_inj.1 e2;subst e2;exact Agf (mx:=false) hw ho h
  ·rename_i x y e2;have e2:args= #[x,y]:=Array.toList_inj.1 e2;subst e2;exact Agf (mx:=true) hw ho h
  ·exact Apr hU hw (hX.all o.dst) ho h
  ·cases h
 ·cases h
theorem Aha (hU:Ad U)(hw:Ae S τ){X:Ox U α}(hX:Gf U T F.P X){rest:List Oper}(h:Rp U T X S rest o k=some r):Ah U F T S τ o k r:=by
 unfold Rp at h;split at h
 ·rename_i q hq;unfold Af0 at hq;split at hq
  ·exact hX.kop _ q hq F rfl S τ rest o k r hw h
  ·cases hq
 ·exact Apv hU hw hX h
end
section
variable {F:Fr} {S:St} {a:Act} {w:World} {σ:Nat->List Nat} {β:Nat->Option (Nat×Nat×Nat)}
def Ez (P:Nat->Bool)(id:Nat):List Nat->List Nat
 |i::k::j::r=>if i=id/\P j=true then []else i::k::j::r
 |s=>s
theorem Apw{P:Nat->Bool}{id:Nat}{p:List Nat}(h: ∀i r,p=i::r->i≠id):Ez P id p=p:=by
 unfold Ez;split
 ·rename_i i k j r;rw[if_neg (fun e=>h i _ rfl e.1)]
 ·rfl
def Fi (P:Nat->Bool)(xs:List (List V)):List (List V):=xs.map fun x=>x.mapIdx fun j v=>bif P j then v.share else v
theorem Ac.shal (hs:Ac F S a w σ β)(P:Nat->Bool){id:Nat}{B:Blk}(hB:S.H id=some B)(hcl:allClosed B=true):Ac F ⟨S.env,Aa S.H id (some ⟨B.ver,B.es,Fi P B.xs⟩),S.nv⟩ a w (fun b=>Ez P id (σ b)) β:=by
 have hid0:id≠0:=by rintro rfl;have h0:S.H 0=none:=hs.hr.far;rw[h0]at hB;cases hB
 have hext:Cq (S.cx w σ β) ((⟨S.env,Aa S.H id (some ⟨B.ver,B.es,Fi P B.xs⟩),S.nv⟩:St).cx w (fun b=>Ez P id (σ b)) β):=by
  refine⟨fun i=>Z9 _,fun i B' h _=> ?_⟩;have h':Aa S.H id (some ⟨B.ver,B.es,Fi P B.xs⟩) i=some B':=h;by_cases e:i=id
  ·subst e;rw[Q1]at h';cases h';exact⟨B,hB,rfl,rfl,by simp[Fi],rfl⟩
  ·rw[Q0 _ _ e]at h';exact⟨B',h',rfl,rfl,rfl,rfl⟩
 have hnear: ∀p:List Nat,(∀r,p++r≠[]->p≠[]->Ez P id (p++r)=p++r)->Bg w σ w (fun b=>Ez P id (σ b)) p:=by
  intro p hp b _ hc;refine⟨rfl,?_⟩;show Ez P id (σ b)=σ b;rcases hc with hc|⟨h1,r,h2⟩
  ·rw[hc];rfl
  ·rw[<-h2];exact hp r (by simp[h1]) h1
 have hn1: ∀i,i≠id->Bg w σ w (fun b=>Ez P id (σ b)) [i]:=fun i hi=>hnear [i] fun r _ _=>Apw fun i' r' e=>by cases e;exact hi
 refine⟨⟨?_,fun i B' h=> ?_,fun b hb=> ?_⟩,hs.mpos,⟨hs.kp.os,hs.kp.tape,hs.kp.output,hs.kp.size,hs.kp.heap,fun b hb hc=> ?_⟩,hs.inn,fun t=>(hs.env t).mono hext (hnear [] fun r _ h=>absurd rfl h)⟩
 ·exact(Q0 _ _ (fun h=>hid0 h.symm)).trans hs.hr.far
 ·have h':Aa S.H id (some ⟨B.ver,B.es,Fi P B.xs⟩) i=some B':=h;by_cases e:i=id
  ·subst e;rw[Q1]at h';cases h';obtain⟨hver,hBR⟩:=hs.hr.blk i B hB;refine⟨hver,?_⟩;cases eb:β i with
   |none=>
    have:=hBR.void eb;exact .mk_void eb (by rw[this];rfl)
   |some q=>
    obtain⟨b,o,n⟩:=q;obtain⟨q1,q2,q3,arr,T,q4,q5,q6⟩:=hBR.some eb;have q1:σ b=[i]:=q1;refine .mk eb ⟨by show Ez P i (σ b)=[i];rw[q1];rfl,?_,by simpa[Fi]using q3,arr,T,q4,q5,fun k j x v hk hj=> ?_⟩
    ·intro x hx;obtain⟨x0,g1,rfl⟩:=A8.1 hx;simpa using q2 x0 g1
    ·simp only[Fi]at hk;rw[As]at hk;obtain⟨x0,g1,rfl⟩:=Z5.1 hk;rw[List.getElem?_mapIdx]at hj;obtain⟨v0,g2,rfl⟩:=Z5.1 hj;obtain⟨c,g3,g4⟩:=q6 k j x0 v0 g1 g2;refine⟨c,g3,?_⟩;cases hP:P j with
     |false=>exact g4.mono hext (hnear [i,k,j] fun r _ _=>by simp[Ez,hP])
     |true=>
      refine .c ?_;have hc0:=Z1.1 (Z1.1 hcl x0 (Z6 g1)) v0 (Z6 g2);refine(g4.rc hc0).share (fun b' hb' hor=> ?_) _;show Ez P i (σ b')=[];rcases hor with hor|⟨_,r,hr⟩
      ·have hor:σ b'=[]:=hor;rw[hor];rfl
      ·have hr:[i,k,j]++r=σ b':=hr;rw[<-hr];simp[Ez,hP]
  ·rw[Q0 _ _ e]at h';obtain⟨h1,h2⟩:=hs.hr.blk i B' h';exact⟨h1,h2.mono hext rfl (hn1 i e)⟩
 ·show Ez P id (σ b)=[];rw[show σ b=[] from hs.hr.new b hb];rfl
 ·show Ez P id (σ b)=F.σ0 b;rw[hs.kp.free b hb hc];rcases hc with hc|hc
  ·rw[hc];rfl
  ·rw[hc];rfl
theorem Ahb (xs:List (List V)):Fi (fun _=>true) xs=shareLL xs:=by
 unfold Fi;rw[F3];exact Bf fun x _=>List.ext_getElem? fun i=>by simp
def Sb (id:Nat):V->Bool
 | .ptr i _ _ _=>Nat.beq i id
 |_=>false
def V.fgt (id:Nat):V->V
 | .ptr i ver k j=>bif Nat.beq i id then .undef else .ptr i ver k j
 | .fn f caps=>bif caps.any (Sb id)then .undef else .fn f caps
 |v=>v
def A.fgt (id:Nat):A->A
 | .c v=> .c (v.fgt id)
 | .g cs=> .g (cs.map (V.fgt id))
 | .t xs=> .t xs
def Blk.fgt (id:Nat)(B:Blk):Blk:=⟨B.ver,B.es,B.xs.map fun x=>x.map (V.fgt id)⟩
def St.fgt (S:St)(id:Nat):St:=⟨fun t=>(S.env t).fgt id,fun i=>(S.H i).map (Blk.fgt id),S.nv⟩
theorem Apx (id:Nat)(v:V):v.fgt id=v\/v.fgt id= .undef:=by
 cases v with
 |ptr i ver k j=>grind [V.fgt]
 |fn f caps=>grind [V.fgt]
 |_=>exact .inl rfl
theorem RV.fgt{E E':Cx}{p:List Nat}{v:V}{c:Value}(h:RV E p v c)(id:Nat)(hx:Cq E E')(hn:Bg E.w E.σ E'.w E'.σ p):RV E' p (v.fgt id) c:=by
 rcases Apx id v with e|e
 ·grind [mono]
 ·rw[e];exact .undef _ _
theorem Ac.fgt (hs:Ac F S a w σ β)(id:Nat):Ac F (S.fgt id) a w σ β:=by
 have hext:Cq (S.cx w σ β) ((S.fgt id).cx w σ β):=by
  refine⟨fun i=>Z9 _,fun i B' h _=> ?_⟩;have h':(S.H i).map (Blk.fgt id)=some B':=h;obtain⟨B,h1,rfl⟩:=Z5.1 h';exact⟨B,h1,rfl,rfl,by simp[Blk.fgt],rfl⟩
 have hnear: ∀p:List Nat,Bg w σ w σ p:=fun p b _ _=>⟨rfl,rfl⟩;refine⟨⟨?_,fun i B' h=> ?_,hs.hr.new⟩,hs.mpos,hs.kp,hs.inn,fun t=> ?_⟩
 ·show(S.H 0).map _=none;rw[show S.H 0=none from hs.hr.far];rfl
 ·have h':(S.H i).map (Blk.fgt id)=some B':=h;obtain⟨B,h1,rfl⟩:=Z5.1 h';obtain⟨hver,hBR⟩:=hs.hr.blk i B h1;refine⟨hver,?_⟩;cases eb:β i with
  |none=>
   have:=hBR.void eb;exact .mk_void eb (by simp[Blk.fgt,this])
  |some q=>
   obtain⟨b,o,n⟩:=q;obtain⟨q1,q2,q3,arr,T,q4,q5,q6⟩:=hBR.some eb;refine .mk eb ⟨q1,?_,by grind [Blk.fgt],arr,T,q4,q5,fun k j x v hk hj=> ?_⟩
   ·simp_all[Blk.fgt]
   ·simp only[Blk.fgt,As]at hk;obtain⟨x0,g1,rfl⟩:=Z5.1 hk;rw[As]at hj;obtain⟨v0,g2,rfl⟩:=Z5.1 hj;obtain⟨c,g3,g4⟩:=q6 k j x0 v0 g1 g2;exact⟨c,g3,g4.fgt id hext (hnear _)⟩
 ·have:=hs.env t;show RA _ ((S.env t).fgt id) _;cases hx:S.env t with
  |c v=>rw[hx]at this;cases this with|c h=>exact .c (h.fgt id hext (hnear _))
  |g cs=>
   rw[hx]at this;generalize a.tmps.getD t undef=c0 at this;cases this with
   |g _ arr hsz h=>
    refine .g _ _ (by grind) fun i v hi=> ?_
    rw[As]at hi;obtain⟨v0,h3,rfl⟩:=Z5.1 hi;obtain⟨c,h1,h2⟩:=h i v0 h3;exact⟨c,h1,h2.fgt id hext (hnear _)⟩
  |t xs=>
   rw[hx]at this;exact this.mono hext (hnear _)
def A.cold:A->A
 | .c v=> .c v.cold
 | .g cs=> .g (cs.map V.cold)
 |x=>x
theorem RA.cold{E:Cx}{x:A}{c:Value}(h:RA E x c):RA E x.cold c:=by
 cases h with
 |c h=>exact .c h.cold
 |g cs arr hsz h=>
  refine .g _ _ (by grind) fun i v hi=> ?_
  rw[As]at hi;obtain⟨v0,h3,rfl⟩:=Z5.1 hi
  grind [RV.cold]
 |t xs arr cv hs h1 h2=>exact .t _ _ _ hs h1 h2
theorem Ac.coldE (hs:Ac F S a w σ β)(t:Nat):Ac F ⟨Aa S.env t (S.env t).cold,S.H,S.nv⟩ a w σ β:=by
 refine⟨hs.hr,hs.mpos,hs.kp,hs.inn,fun t'=> ?_⟩;show RA (S.cx w σ β) (Aa S.env t (S.env t).cold t') _;by_cases e:t'=t
 all_goals grind [Q1,RA.cold,env,Q0]
end
def Ao (F:Fr)(S S':St):Prop:= ∀(a:Act) (w:World),RS F S a w->RS F S' a w
theorem Ao.refl{F:Fr}(S:St):Ao F S S:=fun _ _ h=>h
theorem Ao.trans{F:Fr}{S S' S'':St}(h:Ao F S S')(h':Ao F S' S''):Ao F S S'':=fun a w hs=>h' a w (h a w hs)
section
variable {U:Un} {T:Tab} {F:Fr} {S S':SS U.D} {τ:Nat->Int} {α:Type} {k:SS U.D->Option α} {r:α}
def Hx (F:Fr)(S S':SS U.D):Prop:=Ao F (S.toSt U) (S'.toSt U)/\WF S'
theorem Lr (he:Bh F T){nid:Nat}(h:Nat.ble 100 nid=true):F.m<=nid:=by have:=Az h;grind [Bh.m]
theorem Cy{a b:Nat}(h:Nat.beq a b=false):a≠b:=by rintro rfl;simp at h
theorem Ae.upHs (h:Ae S τ){l:List (Nat×Option (SB U.D))}(e:Br S (Bz U S l))(hb: ∀id B,(Bz U S l).blk id=some B->S.blk id=some B\/(B.ver<S.ver id/\B.ok (Bz U S l) τ)):Ae (Bz U S l) τ:=by
 refine⟨h.1,fun t v ht=>(h.2.1 t v ht).mono e,fun id B hB=> ?_⟩;rcases hb id B hB with h1|h1
 ·exact⟨(h.2.2 id B h1).1,(h.2.2 id B h1).2.mono e⟩
 ·exact h1
theorem Ls (id:Nat)(b:Option (SB U.D))(i:Nat):(Bz U S [(id,b)]).blk i=if i=id then b else S.blk i:=D2 _ _ _ _ _ _ _
theorem Apy{id:Nat}{B B':SB U.D}(hB:S.blk id=some B)(h1:B'.ver=B.ver)(h2:B'.len=B.len)(h3:B'.clean=false):Br S (Bz U S [(id,some B')]):=by
 refine⟨Z9 _,fun _=>Z9 _,fun i C hC _=> ?_⟩;rw[Ls]at hC
 grind
theorem Ae.upH1 (h:Ae S τ){id:Nat}{B B':SB U.D}(hB:S.blk id=some B)(h1:B'.ver=B.ver)(h2:B'.len=B.len)(h3:B'.clean=false)(h4:B'.ok S τ):Ae (Bz U S [(id,some B')]) τ:=by
 have e:=Apy hB h1 h2 h3;refine h.upHs e fun i C hC=> ?_;rw[Ls]at hC;split at hC
 ·rename_i e2;cases hC;subst e2;exact .inr ⟨by rw[h1];exact(h.2.2 _ B hB).1,h4.mono e⟩
 grind
theorem Ahc (h1: ∀t,((S.get t).toA U)=((S'.get t).toA U))(h2: ∀i,(S.blk i).map (SB.toB U)=(S'.blk i).map (SB.toB U))(h3: ∀i,S.ver i=S'.ver i):S.toSt U=S'.toSt U:=St.Sim.eq ⟨h1,h2,h3⟩
theorem Aaz (x:Nat)(v:SA U.D)(e:List (Nat×SA U.D))(H:List (Nat×Option (SB U.D)))(nv:List (Nat×Nat))(c t:Nat):(⟨(x,v)::e,H,nv,c⟩:SS U.D).get t=if t=x then v else(⟨e,H,nv,c⟩:SS U.D).get t:=by
 simp only[SS.get,D1]
 grind
theorem Sc{id nid:Nat}{B B' N:SB U.D}(hne:id≠nid)(hB:S.blk id=some B)(h1:B'.ver=B.ver)(h2:B'.len=B.len)(h3:B'.clean=false)(h4:N.ver=S.ver nid):
  Br S (S.app none {v:= .c .undef,upd:=[(nid,some N),(id,some B')],bump:=[nid]})/\ ∀i,(S.app none {v:= .c .undef,upd:=[(nid,some N),(id,some B')],bump:=[nid]}).blk i=if i=id then some B' else if i=nid then some N else S.blk i:=by
 have hb: ∀i,(S.app none {v:= .c .undef,upd:=[(nid,some N),(id,some B')],bump:=[nid]}).blk i=if i=id then some B' else if i=nid then some N else S.blk i:=fun i=>by
  show(⟨S.env,(id,some B')::(nid,some N)::S.H,_,S.ctr⟩:SS U.D).blk i=_;rw[D2,D2];rfl
 refine⟨⟨Z9 _,fun i=> ?_,fun i C hC hlt=> ?_⟩,hb⟩
 ·rw[Ey];grind
 grind
theorem Ahd (hw:Ae S τ){id nid:Nat}{B B' N:SB U.D}(hne:id≠nid)(hB:S.blk id=some B)(h1:B'.ver=B.ver)(h2:B'.len=B.len)(h3:B'.clean=false)(h4:N.ver=S.ver nid)(hN:N.ok S τ)
  (hok:B'.ok (S.app none {v:= .c .undef,upd:=[(nid,some N),(id,some B')],bump:=[nid]}) τ):Ae (S.app none {v:= .c .undef,upd:=[(nid,some N),(id,some B')],bump:=[nid]}) τ:=by
 obtain⟨e,hb⟩:=Sc hne hB h1 h2 h3 h4;refine hw.app e trivial fun i C hC=> ?_;rw[hb]at hC;split at hC
 ·rename_i e2;cases hC;subst e2;refine .inr ⟨?_,hok⟩;rw[Ey,if_neg hne,h1];exact(hw.2.2 _ B hB).1
 ·split at hC
  ·rename_i e2;cases hC;subst e2;refine .inr ⟨?_,hN.mono e⟩;simp_all[Ey]
  grind
theorem Ahe{id nid:Nat}{B B' N:SB U.D}(hne:id≠nid)(hB:S.blk id=some B)(h1:B'.ver=B.ver)(h2:B'.len=B.len)(h3:B'.clean=false)(h4:N.ver=S.ver nid):
  (SV.own nid (S.ver nid) N.len:SV U.D).ok (S.app none {v:= .c .undef,upd:=[(nid,some N),(id,some B')],bump:=[nid]}) τ:=by
 obtain⟨e,hb⟩:=Sc hne hB h1 h2 h3 h4;refine⟨by simp_all[Ey],fun C hC _=> ?_⟩
 grind
theorem Apz (he:Bh F T)(hw:Ae S τ){id j nid:Nat}(h:(Cmd.take id j nid).run U T S k=some r): ∃S',k S'=some r/\Hx F S S':=by
 simp only[Cmd.run]at h;split at h
 ·rename_i ver cs e1;split at h
  ·rename_i t d l e2;split at h
   ·rename_i e3;simp only[Z4,Gg]at e3;have hne:=Cy e3.2;refine⟨_,h,?_,τ,?_⟩
    ·rintro a w ⟨hd,hsz,σ,β,hs⟩;obtain⟨σ',β',hs'⟩:=hs.takeN (k:=0) (x:=cs.map (SV.toV U)) (j:=j) (e:=U.sz t) (ys:=l.map (U.eT d t)) (nid:=nid) (Am e1) rfl (by rw[As,e2];rfl) (Lr he e3.1) hne
     refine⟨hd,hsz,σ',β',?_⟩;have:=Lj S none {v:= .c .undef,upd:=[(nid,some (.rows (S.ver nid) t d true l)),(id,some (.box ver (cs.set j (.own nid (S.ver nid) l.length))))],bump:=[nid]};refine Eq.mp (congrArg (fun X=>Ac F X a w σ' β') (Eq.trans ?_ this.symm)) hs';show(⟨_,_,_⟩:St)=⟨_,_,_⟩;simp only[Bi,Aj.toRec,St.app,Z8,De,Du,SB.toB,List.map_set,Tb,SV.toV];rfl
    ·refine Ahd hw hne e1 rfl rfl rfl rfl trivial ?_;intro c hc;rcases Mv hc with hc|rfl
     ·exact((hw.2.2 id _ e1).2 c hc).mono (Sc (B':= .box ver (cs.set j (.own nid (S.ver nid) l.length))) (N:= .rows (S.ver nid) t d true l) hne e1 rfl rfl rfl rfl).1
     ·exact Ahe (N:= .rows (S.ver nid) t d true l) hne e1 rfl rfl rfl rfl
   ·cases h
  ·exact⟨S,h,Ao.refl _,τ,hw⟩
  ·cases h
 ·cases h
theorem Ap0 (he:Bh F T)(hw:Ae S τ){id j nid:Nat}(h:(Cmd.takeE id j nid).run U T S k=some r): ∃S',k S'=some r/\Hx F S S':=by
 simp only[Cmd.run]at h;split at h
 ·rename_i ver t0 d0 dirty l0 g i cs e1;obtain⟨hi,htag,hcs,hlen,horig⟩:=(hw.2.2 id _ e1).2;split at h
  ·rename_i t d l e2;split at h
   ·rename_i e3;simp only[Z4,Gg]at e3;have hne:=Cy e3.2;refine⟨_,h,?_,τ,?_⟩
    ·rintro a w ⟨hd,hsz,σ,β,hs⟩;obtain⟨σ',β',hs'⟩:=hs.takeN (k:=i.toNat) (x:=cs.map (SV.toV U)) (j:=j) (e:=U.sz t) (ys:=l.map (U.eT d t)) (nid:=nid) (Am e1) (by grind) (by rw[As,e2];rfl) (Lr he e3.1) hne
     refine⟨hd,hsz,σ',β',?_⟩;have:=Lj S none {v:= .c .undef,upd:=[(nid,some (.rows (S.ver nid) t d true l)),(id,some (.opn ver t0 d0 dirty l0 g i (cs.set j (.own nid (S.ver nid) l.length))))],bump:=[nid]};refine Eq.mp (congrArg (fun X=>Ac F X a w σ' β') (Eq.trans ?_ this.symm)) hs';show(⟨_,_,_⟩:St)=⟨_,_,_⟩;simp only[Bi,Aj.toRec,St.app,Z8,De,Du,SB.toB,List.map_set,Tb,SV.toV,List.set_set];rfl
    ·have hev:=(Sc (B':= .opn ver t0 d0 dirty l0 g i (cs.set j (.own nid (S.ver nid) l.length))) (N:= .rows (S.ver nid) t d true l) hne e1 rfl rfl rfl rfl);refine Ahd hw hne e1 rfl rfl rfl rfl trivial ⟨hi,htag.mono hev.1.ctr,fun c hc=> ?_,by grind,fun hq j' c hc=> ?_⟩
     ·rcases Mv hc with hc|rfl
      ·exact(hcs c hc).mono hev.1
      ·exact Ahe (N:= .rows (S.ver nid) t d true l) hne e1 rfl rfl rfl rfl
     ·rw[He]at hc;split at hc
      ·rename_i ej;subst ej;split at hc
       ·cases hc;refine .inr ⟨nid,S.ver nid,l.length,rfl,fun t' d' l' hB=> ?_⟩;rw[hev.2,if_neg (fun h=>hne h.symm),if_pos rfl]at hB;cases hB;rcases horig hq j _ e2 with h1|⟨_,_,_,h1,_⟩
        all_goals grind
       grind
      ·exact(horig hq j' c hc).mono (hcs c (Z6 hc)) hev.1
   ·cases h
  ·exact⟨S,h,Ao.refl _,τ,hw⟩
  ·cases h
 ·cases h
theorem Ae.tick (hw:Ae S τ)(i:Int):Ae (⟨S.env,S.H,S.nv,S.ctr+1⟩:SS U.D) (fun g=>if g=2*S.ctr+1 then i else τ g):=by
 have key: ∀ {g:Nat} {n:Int},D3 S.ctr τ g n->D3 (S.ctr+1) (fun g=>if g=2*S.ctr+1 then i else τ g) g n:=by
  intro g n h hg;obtain⟨h1,h2⟩:=h hg
  grind
 have kv: ∀ {v:SV U.D},v.ok S τ->v.ok (⟨S.env,S.H,S.nv,S.ctr+1⟩:SS U.D) (fun g=>if g=2*S.ctr+1 then i else τ g):=by
  intro v h;cases v with
  |int k n g=>exact key h
  |ptrE id ver g i j=>exact⟨key h.1,h.2⟩
  |_=>exact h
 refine⟨fun n=> ?_,fun t v ht=> ?_,fun id B hB=>⟨(hw.2.2 id B hB).1,?_⟩⟩
 ·have:2*n+2≠2*S.ctr+1:=by omega
  simp only[if_neg this];exact hw.1 n
 ·have:=hw.2.1 t v ht;cases v with
  |c v=>exact kv this
  |g cs=>exact fun c hc=>kv (this c hc)
  |t xs=>exact fun x hx c hc=>kv (this x hx c hc)
 ·have:=(hw.2.2 id B hB).2;cases B with
  |box v cs=>exact fun c hc=>kv (this c hc)
  |opn v t d q l g i cs=>exact⟨this.1,key this.2.1,fun c hc=>kv (this.2.2.1 c hc),this.2.2.2⟩
  |_=>trivial
theorem N5 (hU:Ad U){ver t g:Nat}{d q:Bool}{l:List (U.D t)}{i:Int}(hb:0<=i/\i<(l.length:Int)):(SB.opn ver t d q l g i (U.cells d t (U.gt l i)):SB U.D).toB U=⟨ver,U.sz t,l.map (U.eT d t)⟩:=by
 letI:=U.inh t
 simp only[SB.toB,Ny hU d l i];congr 1;refine List.ext_getElem? fun n=> ?_;rw[He];split
 ·rename_i e;subst e;rw[if_pos (by grind)];exact(M5 _ hb).symm
 ·rfl
theorem Sd (hU:Ad U){ver t g:Nat}{d:Bool}{l:List (U.D t)}{i:Int}(hb:0<=i/\i<(l.length:Int))(ht:D3 S.ctr τ g i):(SB.opn ver t d false l g i (U.cells d t (U.gt l i)):SB U.D).ok S τ:=
 ⟨hb,ht,Aam hU,hU.cellsLen d t _,fun _ j c h=> .inl h⟩
theorem Ahf{x:Nat}{v:SA U.D}{id:Nat}{B B':SB U.D}{c:Nat}(hv:v.toA U=(S.get x).toA U)(hB:S.blk id=some B)(hBB:B'.toB U=B.toB U):(⟨(x,v)::S.env,(id,some B')::S.H,S.nv,c⟩:SS U.D).toSt U=S.toSt U:=by
 refine Ahc (fun t=> ?_) (fun i=> ?_) (fun i=>rfl)
 ·rw[Aaz];split
  ·grind
  ·rfl
 ·rw[D2];split
  ·grind
  ·rfl
theorem Ahg{id:Nat}{B B':SB U.D}(hB:S.blk id=some B)(hBB:B'.toB U=B.toB U):(Bz U S [(id,some B')]).toSt U=S.toSt U:=by
 refine Ahc (fun t=>rfl) (fun i=> ?_) (fun i=>rfl);rw[Ls]
 grind
theorem Ap1 (hU:Ad U)(hw:Ae S τ){id:Nat}{ix:Operand}(h:(Cmd.opn id ix).run U T S k=some r): ∃S',k S'=some r/\Hx F S S':=by
 simp only[Cmd.run]at h;split at h
 ·rename_i ver t d c l kd i g e1 e2;split at h
  ·rename_i hb;split at h
   ·rename_i x;refine⟨_,h,?_,fun g=>if g=2*S.ctr+1 then i else τ g,?_⟩
    ·rw[Ahf (v:= .c (.int kd i (2*S.ctr+1))) (by have e2:S.get x=_:=e2;rw[e2];rfl) e1 (N5 hU hb)];exact Ao.refl _
    ·have h1:=hw.tick i;have htag:D3 (S.ctr+1) (fun g=>if g=2*S.ctr+1 then i else τ g) (2*S.ctr+1) i:=fun _=>⟨by simp,.inr (by omega)⟩
     exact h1.chg (dst:=some x) (v:= .c (.int kd i (2*S.ctr+1))) (use:=[]) (ids:=[]) (id:=id) (B:= .rows ver t d c l) e1 rfl rfl rfl htag (Sd hU hb htag)
   ·cases h
   ·rename_i g' _;have hv:=hw.val (T:=T) 0 ix;rw[e2]at hv;refine⟨_,h,?_,τ,hw.upH1 e1 rfl rfl rfl (Sd hU hb hv)⟩;rw[Ahg e1 (N5 hU hb)];exact Ao.refl _
  ·cases h
 ·exact⟨S,h,Ao.refl _,τ,hw⟩
 ·cases h
theorem Ap2 (hU:Ad U)(hw:Ae S τ){id x:Nat}(h:(Cmd.opp id x).run U T S k=some r): ∃S',k S'=some r/\Hx F S S':=by
 simp only[Cmd.run]at h;split at h
 ·rename_i id' ver g i j e1;have hv:=hw.get x;rw[e1]at hv;split at h
  ·rename_i ver' t d c l e2;split at h
   ·rename_i e3;simp only[Z4]at e3;have h1:=Z2 e3.1;have h2:=Z2 e3.2;subst h1;subst h2;have hb:0<=i/\i<(l.length:Int):=hv.2.2 _ e2 rfl;split at h
    ·refine⟨_,h,?_,fun g=>if g=2*S.ctr+1 then i else τ g,?_⟩
     ·rw[Ahf (v:= .c (.ptrE id ver (2*S.ctr+1) i j)) (by rw[e1];rfl) e2 (N5 hU hb)];exact Ao.refl _
     ·have h1:=hw.tick i;have htag:D3 (S.ctr+1) (fun g=>if g=2*S.ctr+1 then i else τ g) (2*S.ctr+1) i:=fun _=>⟨by simp,.inr (by omega)⟩
      exact h1.chg (dst:=some x) (v:= .c (.ptrE id ver (2*S.ctr+1) i j)) (use:=[]) (ids:=[]) (id:=id) (B:= .rows ver t d c l) e2 rfl rfl rfl ⟨htag,hv.2⟩ (Sd hU hb htag)
    ·refine⟨_,h,?_,τ,hw.upH1 e2 rfl rfl rfl (Sd hU hb hv.1)⟩;rw[Ahg e2 (N5 hU hb)];exact Ao.refl _
   ·cases h
  ·exact⟨S,h,Ao.refl _,τ,hw⟩
  ·cases h
 ·cases h
end
section
variable {U:Un} {T:Tab} {F:Fr} {S S':SS U.D} {τ:Nat->Int} {α:Type} {k:SS U.D->Option α} {r:α}
theorem Se{v w:SV U.D}{is:List Nat}{b:Bool}(h:Rl U S v=some (w,is,b)):
  (∃nid ver n t d cl l,v= .own nid ver n/\S.blk nid=some (.rows ver t d cl l)/\w= .rowT t d l/\is=[nid]/\b= !cl)\/((∀nid ver n,v≠ .own nid ver n)/\w=v/\is=[]/\b=false):=by
 cases v with
 |own nid ver n=>
  left;simp only[Rl]at h;split at h
  ·rename_i ver' t d cl l e1;split at h
   ·rename_i e2;have:=Z2 e2
    grind
   ·cases h
  ·cases h
 |_=>right;cases h;grind
theorem N6{v:SV U.D}{r cs':List (SV U.D)}{ids:List Nat}{ch:Bool}(h:putCells U S (v::r)=some (cs',ids,ch)):
  ∃w is b ws is' c,Rl U S v=some (w,is,b)/\putCells U S r=some (ws,is',c)/\cs'=w::ws/\ids=is++is'/\ch=(b||c):=by
 simp only[putCells]at h
 grind
theorem Ap3{β:Type}{l:List β}{n:Nat}{x:β}(h:l[n]? =some x):l.set n x=l:=by
 refine List.ext_getElem? fun m=> ?_
 grind
theorem Ap4{β:Type}(p r:List β)(x y:β):(p++x::r).set p.length y=(p++[y])++r:=by
 grind
theorem Ap5 (hU:Ad U){id kk ver es:Nat}{a:Act}{w:World}{β:Nat->Option (Nat×Nat×Nat)}: ∀(cs pre cs':List (SV U.D)) (ids:List Nat) (ch:Bool) (xs:List (List V)) (S0:St) (σ:Nat->List Nat),S0.H id=some ⟨ver,es,xs⟩->xs[kk]? =some ((pre++cs).map (SV.toV U))->putCells U S cs=some (cs',ids,ch)->
  ids.Nodup->(∀i∈ids,F.m<=i)->id ∉ ids->(∀i∈ids,S0.H i=(S.blk i).map (SB.toB U))->(∀c∈cs,c.ok S τ)->Ac F S0 a w σ β->
  ∃σ',Ac F ⟨S0.env,fun i=>if i∈ids then none else if i=id then some ⟨ver,es,xs.set kk ((pre++cs').map (SV.toV U))⟩else S0.H i,S0.nv⟩ a w σ' β:=by
 intro cs;induction cs with
 |nil=>
  intro pre cs' ids ch xs S0 σ hB hk h _ _ _ _ _ hs;cases h;refine⟨σ,?_⟩;have:(fun i=>if i∈([]:List Nat)then none else if i=id then some (⟨ver,es,xs.set kk ((pre++[]).map (SV.toV U))⟩:Blk)else S0.H i)=S0.H:=by
   funext i;simp_all[Ap3]
  simp_all
 |cons v r ih=>
  intro pre cs' ids ch xs S0 σ hB hk h hnd hm hid hH hok hs;obtain⟨w',is,b,ws,is',c,h1,h2,rfl,rfl,_⟩:=N6 h;have hkl:kk<xs.length:=(Z3.1 hk).1;rcases Se h1 with ⟨nid,ver',n,t,d,cl,l,rfl,e1,rfl,rfl,_⟩|⟨_,rfl,rfl,_⟩
  ·have h7:=hok (.own nid ver' n) (by simp);have hn:n=l.length:=h7.2 _ e1 rfl;have hne:id≠nid:=fun e=>hid (by simp[e])
   have hN:S0.H nid=some ⟨ver',U.sz t,l.map (U.eT d t)⟩:=by rw[hH nid (by simp),e1];rfl
   obtain⟨σ',hs'⟩:=hs.putN (k:=kk) (j:=pre.length) (x:=(pre++SV.own nid ver' n::r).map (SV.toV U)) hB hk (by
    simp_all[SV.toV]) hN (Hw hU d t ver' l) hne (hm nid (by simp))
   have hset:((pre++SV.own nid ver' n::r).map (SV.toV U)).set pre.length (.row true (U.sz t) (l.map (U.eT d t)))=((pre++[SV.rowT t d l])++r).map (SV.toV U):=by
    rw[<-Ap4 pre r (.own nid ver' n) (.rowT t d l),List.map_set];rfl
   rw[hset]at hs';have hd:=List.nodup_append.1 hnd;obtain⟨σ2,g⟩:=ih (pre++[SV.rowT t d l]) ws is' c (xs.set kk (((pre++[SV.rowT t d l])++r).map (SV.toV U))) _ σ' (Q1 _ _ _) (by grind) h2 hd.2.1 (fun i hi=>hm i (by simp[hi])) (fun hi=>hid (by simp[hi]))
    (fun i hi=>by
     show Aa (Aa S0.H nid none) id _ i=_;have q1:i≠id:=fun e=>hid (by grind)
     have q2:i≠nid:=fun e=>hd.2.2 nid (by simp) i hi e.symm
     grind [Q0]) (fun c hc=>hok c (by simp[hc])) hs'
   refine⟨σ2,?_⟩;refine Eq.mp (congrArg (fun X=>Ac F X a w σ2 β) ?_) g;show(⟨S0.env,_,S0.nv⟩:St)=⟨S0.env,_,S0.nv⟩;congr 1;funext i;rw[List.set_set];simp only[Je,List.singleton_append,Gh,Hd,Ax];by_cases q1:i∈is'
   ·grind
   ·by_cases q2:i=nid
    ·have q3:i≠id:=fun e=>hne (by omega)
     simp_all[Q0,Q1]
    ·have q4: ¬(i=nid\/i∈is'):=fun h=>h.elim q2 q1
     simp_all[Q0]
  ·obtain⟨σ2,g⟩:=ih (pre++[w']) ws is' c xs S0 σ hB (by grind) h2 (by grind) (fun i hi=>hm i (by grind)) (by grind) (fun i hi=>hH i (by grind)) (fun c hc=>hok c (by simp[hc])) hs
   grind
theorem Hy (id:Nat)(b:Option (SB U.D))(i:Nat): ∀ids:List Nat,(Bz U S (ids.map (fun i=>(i,none))++[(id,b)])).blk i=if i∈ids then none else if i=id then b else S.blk i:=by
 intro ids;induction ids with
 |nil=>simp_all[Ls]
 |cons x r ih=>
  show(⟨S.env,(x,none)::((r.map (fun i=>(i,none))++[(id,b)])++S.H),S.nv,S.ctr⟩:SS U.D).blk i=_;rw[D2];by_cases h:i=x
  ·grind
  ·rw[if_neg h];have:(⟨S.env,((r.map (fun i=>(i,none))++[(id,b)])++S.H),S.nv,S.ctr⟩:SS U.D).blk i=_:=ih
   grind
theorem Aa0{id:Nat}{ids:List Nat}{B B':SB U.D}(hB:S.blk id=some B)(h1:B'.ver=B.ver)(h2:B'.len=B.len)(h3:B'.clean=false):Br S (Bz U S (ids.map (fun i=>(i,none))++[(id,some B')])):=by
 refine⟨Z9 _,fun _=>Z9 _,fun i C hC _=> ?_⟩;rw[Hy]at hC
 grind
theorem Sf (hw:Ae S τ){id:Nat}{ids:List Nat}{B B':SB U.D}(hB:S.blk id=some B)(h1:B'.ver=B.ver)(h2:B'.len=B.len)(h3:B'.clean=false)(h4:B'.ok S τ):Ae (Bz U S (ids.map (fun i=>(i,none))++[(id,some B')])) τ:=by
 have e:=Aa0 (ids:=ids) hB h1 h2 h3;refine hw.upHs e fun i C hC=> ?_;rw[Hy]at hC;split at hC
 ·cases hC
 ·split at hC
  ·rename_i e2;cases hC;subst e2;exact .inr ⟨by rw[h1];exact(hw.2.2 _ B hB).1,h4.mono e⟩
  grind
theorem Ahh{id:Nat}{ids:List Nat}(h:K9 id ids=true):ids.Nodup/\(∀i∈ids,Nat.ble 100 i=true)/\id ∉ ids:=by
 simp only[K9,Z4,decide_eq_true_eq,Gg]at h
 grind
theorem Aa1 (hU:Ad U)(he:Bh F T){id kk ver es:Nat}{ids:List Nat}{ch:Bool}{xs:List (List V)}{cs cs':List (SV U.D)}{B B':SB U.D}(hB:S.blk id=some B)(hBx:B.toB U=⟨ver,es,xs⟩)(hk:xs[kk]? =some (cs.map (SV.toV U)))(hput:putCells U S cs=some (cs',ids,ch))(hids:K9 id ids=true)(hok: ∀c∈cs,c.ok S τ)
  (hB':B'.toB U=⟨ver,es,xs.set kk (cs'.map (SV.toV U))⟩):Ao F (S.toSt U) ((Bz U S (ids.map (fun i=>(i,none))++[(id,some B')])).toSt U):=by
 obtain⟨h1,h2,h3⟩:=Ahh hids;rintro a w ⟨hd,hsz,σ,β,hs⟩;obtain⟨σ',g⟩:=Ap5 hU cs [] cs' ids ch xs (S.toSt U) σ (by rw[Am hB,hBx]) hk hput h1 (fun i hi=>Lr he (h2 i hi)) h3 (fun i _=>rfl) hok hs;refine⟨hd,hsz,σ',β,?_⟩;refine Eq.mp (congrArg (fun X=>Ac F X a w σ' β) ?_) g;refine St.Sim.eq ⟨fun t=>rfl,fun i=> ?_,fun i=>rfl⟩;show(if i∈ids then none else if i=id then some _ else(S.blk i).map (SB.toB U))=Option.map (SB.toB U) ((Bz U S (ids.map (fun i=>(i,none))++[(id,some B')])).blk i)
 grind [Hy]
theorem Ap6: ∀ {cs cs':List (SV U.D)} {ids:List Nat} {ch:Bool},putCells U S cs=some (cs',ids,ch)->cs'.length=cs.length:=by
 intro cs;induction cs with
 |nil=>intro cs' ids ch h;cases h;rfl
 |cons v r ih=>
  grind [N6]
theorem Ap7: ∀ {cs cs':List (SV U.D)} {ids:List Nat} {ch:Bool},putCells U S cs=some (cs',ids,ch)->(∀c∈cs,c.ok S τ)-> ∀c∈cs',c.ok S τ:=by
 intro cs;induction cs with
 |nil=>intro cs' ids ch h _;cases h;omega
 |cons v r ih=>
  intro cs' ids ch h hok;obtain⟨w',is,b,ws,is',c,h1,h2,rfl,rfl,_⟩:=N6 h;intro c hc;rcases Ax.1 hc with rfl|hc
  ·rcases Se h1 with ⟨nid,ver',n,t,d,cl,l,rfl,e1,rfl,rfl,_⟩|⟨_,rfl,rfl,_⟩
   ·trivial
   grind
  grind
theorem Ap8: ∀ {cs cs':List (SV U.D)} {ids:List Nat} {ch:Bool},putCells U S cs=some (cs',ids,ch)-> ∀i∈ids,∃v t d cl l,S.blk i=some (.rows v t d cl l):=by
 intro cs;induction cs with
 |nil=>intro cs' ids ch h;cases h;grind
 |cons v r ih=>
  intro cs' ids ch h i hi;obtain⟨w',is,b,ws,is',c,h1,h2,rfl,rfl,_⟩:=N6 h;rcases C5.1 hi with hi|hi
  all_goals grind [Se]
theorem Ap9: ∀(cs cells:List (SV U.D)) {cs':List (SV U.D)} {ids:List Nat},cs.length=cells.length->(∀(j:Nat) c,cs[j]? =some c->Un.orig S (cells[j]?) c)->cells.all SV.shut=true->putCells U S cs=some (cs',ids,false)->cs'=cells:=by
 intro cs;induction cs with
 |nil=>
  intro cells cs' ids hl _ _ h;cases h
  grind
 |cons v r ih=>
  intro cells cs' ids hl ho hsh h;obtain⟨w',is,b,ws,is',c,h1,h2,rfl,rfl,hbc⟩:=N6 h;have hb:b=false:=by
   grind
  have hc:c=false:=by
   grind
  subst hb;subst hc;cases cells with
  |nil=>cases hl
  |cons x s=>
   simp only[Bb,Z4]at hsh;have h3:=ih s (by grind) (fun j c hj=>by simpa using ho (j+1) c (by grind)) hsh.2 h2;have h4:Un.orig S (some x) v:=by simpa using ho 0 v (by simp)
   subst h3;congr 1;rcases Se h1 with ⟨nid,ver',n,t,d,cl,l,rfl,e1,rfl,rfl,hcl⟩|⟨hno,rfl,rfl,_⟩
   ·have hcl:cl=true:=by
     grind
    subst hcl;rcases h4 with h4|⟨nid',ver2,n2,e2,h4⟩
    ·cases h4;cases hsh.1
    grind
   ·rcases h4 with h4|⟨nid',ver2,n2,e2,h4⟩
    all_goals grind
theorem Ac.cast{S S':St}{a:Act}{w:World}{σ:Nat->List Nat}{β:Nat->Option (Nat×Nat×Nat)}(h:S=S')(hs:Ac F S a w σ β):Ac F S' a w σ β:=h ▸ hs
theorem Aa2 (P:Nat->Bool){id:Nat}{B B':SB U.D}(hB:S.blk id=some B)(hcl:allClosed (B.toB U)=true)(hB':B'.toB U=⟨(B.toB U).ver,(B.toB U).es,Fi P (B.toB U).xs⟩):Ao F (S.toSt U) ((Bz U S [(id,some B')]).toSt U):=by
 rintro a w ⟨hd,hsz,σ,β,hs⟩
 have h2:=hs.shal P (Am hB) hcl;refine⟨hd,hsz,_,_,Ac.cast ?_ h2⟩;refine St.Sim.eq ⟨fun x=>rfl,fun i=> ?_,fun i=>rfl⟩;show Aa (S.toSt U).H id _ i=Option.map (SB.toB U) ((Bz U S [(id,some B')]).blk i);rw[Ls];split
 ·grind [Q1]
 ·rename_i e;rw[Q0 _ _ e];rfl
theorem Aa3 (hU:Ad U){c:SV U.D}(h:c.shut=true):(Jv U c).toV U=(c.toV U).share:=by
 cases c with
 |rowT t d l=>show V.row false _ _=V.row false _ _;rw[Aap hU]
 |row t l=>show V.row false _ _=V.row false _ _;rw[(hU.en t).shareLL]
 |_=>first|rfl|cases h
theorem Aqa (hU:Ad U)(d:Bool)(t:Nat): ∀(cs:List (SV U.D)) (n:Nat),cs.all SV.shut=true->(Nk U d t n cs).map (SV.toV U)=(cs.map (SV.toV U)).mapIdx fun j v=>bif U.farP d t (n+j)then v.share else v:=by
 intro cs;induction cs with
 |nil=>intro n _;rfl
 |cons c r ih=>
  intro n h;simp only[Bb,Z4]at h;simp only[Nk,Z8,ih (n+1) h.2,List.mapIdx_cons,Nat.add_zero];congr 1
  ·cases U.farP d t n with
   |true=>exact Aa3 hU h.1
   |false=>rfl
  ·congr 1;funext j v;rw[show n+1+j=n+(j+1)by omega]
theorem Aqb (hU:Ad U)(d:Bool)(t:Nat)(z:U.D t):((U.eT d t z).mapIdx fun j v=>bif U.farP d t j then v.share else v)=U.eT d t z:=by
 refine List.ext_getElem? fun j=> ?_;rw[List.getElem?_mapIdx];cases e:(U.eT d t z)[j]? with
 |none=>rfl
 |some v=>
  simp only[Du,Z7];cases d with
  |true=>
   cases hf:U.farP true t j with
   |false=>rfl
   |true=>exact hU.far t z j v e hf
  |false=>
   show v.share=v;have:=(hU.en t).shareLL [z];rw[F3]at this;have this:(U.en t z).map V.share=U.en t z:=by simpa using this
   have e:(U.en t z)[j]? =some v:=e;have h2:=congrArg (fun l=>l[j]?) this;simp only[As,e,Du,Z7]at h2;exact h2
theorem Aqc (hU:Ad U)(he:Bh F T){id ver t:Nat}{d q:Bool}{l:List (U.D t)}{g:Nat}{i:Int}{ids:List Nat}{ch:Bool}{cs cs':List (SV U.D)}{x:U.D t}(hB:S.blk id=some (.opn ver t d q l g i cs))(hi:0<=i/\i<(l.length:Int))(hput:putCells U S cs=some (cs',ids,ch))(hids:K9 id ids=true)(hsh:cs'.all SV.shut=true)(hok: ∀c∈cs,c.ok S τ)
  (hx:U.fold d t (Nk U d t 0 cs')=some x):Ao F (S.toSt U) ((Bz U S (ids.map (fun i=>(i,none))++[(id,some (.rows ver t d false (l.set i.toNat x)))])).toSt U):=by
 have hxs:((l.map (U.eT d t)).set i.toNat (cs.map (SV.toV U)))[i.toNat]? =some (cs.map (SV.toV U)):=by rw[He,if_pos rfl,if_pos (by rw[Bi];omega)]
 have h1:=Aa1 (F:=F) (T:=T) hU he (kk:=i.toNat) (B':= .opn ver t d true l g i cs') hB rfl hxs hput hids hok (by simp only[SB.toB,List.set_set]);have hnot:id ∉ ids:=by
  obtain⟨_,_,h3⟩:=Ahh hids;exact h3
 have hB1:(Bz U S (ids.map (fun i=>(i,none))++[(id,some (.opn ver t d true l g i cs'))])).blk id=some (.opn ver t d true l g i cs'):=by rw[Hy,if_neg hnot,if_pos rfl]
 have hcl:allClosed ((SB.opn ver t d true l g i cs').toB U)=true:=by
  refine Z1.2 fun y hy=> ?_;rcases Mv hy with hy|rfl
  ·obtain⟨z,_,rfl⟩:=A8.1 hy;exact(hU.eT d t).2 z
  ·rw[List.all_map];exact Z1.2 fun c hc=>Kb hU (Z1.1 hsh c hc)
 have h2:=Aa2 (F:=F) (U.farP d t) (B':= .rows ver t d false (l.set i.toNat x)) hB1 hcl (by
  simp only[SB.toB];show Blk.mk _ _ _=Blk.mk _ _ _;congr 1;simp only[Fi];rw[List.map_set,List.map_set,Ar];congr 1
  ·exact Bf fun z _=>(Aqb hU d t z).symm
  ·rw[<-Agj hU hx,Aqa hU d t cs' 0 hsh];simp only[Nat.zero_add])
 have h3:=h1.trans h2;refine Eq.mp (congrArg (Ao F (S.toSt U)) ?_) h3;refine St.Sim.eq ⟨fun t=>rfl,fun j=> ?_,fun j=>rfl⟩;show Option.map (SB.toB U) (SS.blk _ j)=Option.map (SB.toB U) (SS.blk _ j);rw[Ls,Hy,Hy]
 grind
theorem Ahi (hU:Ad U)(he:Bh F T)(hw:Ae S τ){id:Nat}(h:Rm U S id=some S'):Ao F (S.toSt U) (S'.toSt U)/\Ae S' τ/\Br S S'/\ ∀i v cs,S.blk i=some (.box v cs)->S'.blk i=some (.box v cs):=by
 unfold Rm at h;split at h
 ·rename_i ver t d dirty l g i cs e1;obtain⟨hi,htag,hcs,hlen,horig⟩:=(hw.2.2 id _ e1).2;split at h
  ·rename_i cs' ids ch e2;have hxs:((l.map (U.eT d t)).set i.toNat (cs.map (SV.toV U)))[i.toNat]? =some (cs.map (SV.toV U)):=by grind
   have hbox: ∀(b:SB U.D) (j v:Nat) (cs0:List (SV U.D)),S.blk j=some (.box v cs0)->(Bz U S (ids.map (fun i=>(i,none))++[(id,some b)])).blk j=some (.box v cs0):=by
    intro b j v cs0 hj;rw[Hy,if_neg,if_neg,hj]
    all_goals grind [Ap8]
   split at h
   ·rename_i e3 e4;cases h;simp only[Z4]at e3;simp only[Bool.or_eq_false_iff]at e4;rw[e4.2]at e2;have hsame:=Ap9 cs (U.cells d t (U.gt l i)) (hlen.trans (hU.cellsLen d t _).symm) (horig e4.1) (hU.cellsShut d t _) e2;refine⟨Aa1 hU he (kk:=i.toNat) e1 rfl hxs e2 e3.2 hcs ?_,Sf hw e1 rfl rfl rfl trivial,Aa0 e1 rfl rfl rfl,hbox _⟩;rw[hsame,List.set_set];exact(N5 hU (q:=false) (g:=g) hi).symm
   ·rename_i e3 e4;simp only[Z4]at e3;split at h
    ·rename_i a ha;cases h;exact⟨Aqc hU he e1 hi e2 e3.2 e3.1 hcs ha,Sf hw e1 rfl (by simp[SB.len]) rfl trivial,Aa0 e1 rfl (by simp[SB.len]) rfl,hbox _⟩
    ·cases h
   ·cases h
  ·cases h
 all_goals grind [Ao.refl,Br.refl]
theorem Br.trans{S1 S2 S3:SS U.D}(h:Br S1 S2)(h':Br S2 S3):Br S1 S3:=by
 refine⟨Dn h.ctr h'.ctr,fun id=>Dn (h.ver id) (h'.ver id),fun id B' hB hv=> ?_⟩;obtain⟨B2,k1,k2,k3,k4⟩:=h'.old id B' hB (Ee hv (h.ver id));obtain⟨B1,m1,m2,m3,m4⟩:=h.old id B2 k1 (by omega)
 grind
theorem Aqd (hU:Ad U)(he:Bh F T): ∀(cs:List (SV U.D)) {S S':SS U.D},Ae S τ->Nl U S cs=some S'->Ao F (S.toSt U) (S'.toSt U)/\Ae S' τ/\Br S S'/\ ∀i v cs,S.blk i=some (.box v cs)->S'.blk i=some (.box v cs):=by
 intro cs;induction cs with
 |nil=>intro S S' hw h;cases h;grind [Ao.refl,Br.refl]
 |cons v r ih=>
  intro S S' hw h;cases v with
  |own nid ver n=>
   grind [Nl,Ahi,Ao.trans,Br.trans]
  |_=>exact ih hw h
theorem Aqe (hU:Ad U)(he:Bh F T)(hw:Ae S τ){id:Nat}(h:Vo U S id=some S'):Ao F (S.toSt U) (S'.toSt U)/\Ae S' τ:=by
 unfold Vo at h;split at h
 ·rename_i ver cs e1;split at h
  ·rename_i S1 e2;obtain⟨g1,g2,g3,g4⟩:=Aqd hU he cs hw e2;split at h
   ·rename_i cs' ids ch e3;split at h
    ·rename_i e4;cases h;have hB:=g4 id ver cs e1;have hcs:=(g2.2.2 id _ hB).2;refine⟨g1.trans (Aa1 hU he (kk:=0) hB rfl rfl e3 e4 hcs ?_),Sf g2 hB rfl rfl rfl (Ap7 e3 hcs)⟩
     grind [SB.toB,Ap6]
    ·cases h
   ·cases h
  ·cases h
 ·have:=Ahi hU he hw h
  grind
 all_goals grind [Ao.refl]
end
section
variable {U:Un} {T:Tab} {F:Fr} {S S':SS U.D} {τ:Nat->Int} {α:Type} {k:SS U.D->Option α} {r:α}
theorem Ahj{v:V}(h:v.closed=true)(id:Nat):v.fgt id=v:=by cases v<;>first|rfl|cases h
theorem Ahk{v:V}(h:v.closed=true)(id:Nat)(B:Blk):v.frz id B=v:=by cases v<;>first|rfl|cases h
theorem Bt{a b:Nat}(h:Nat.beq a b=true):a=b:=Z2 h
theorem Ahl (hU:Ad U){id ver t:Nat}{d c:Bool}{l:List (U.D t)}(hB:S.blk id=some (.rows ver t d c l)){v:SV U.D}(hv:v.ok S τ):(Di U id ver t l v).toV U=((v.toV U).fgt id).frz id ⟨ver,U.sz t,l.map (U.eT d t)⟩:=by
 cases v with
 |own i v n=>
  simp only[Di];show _=V.frz1 id ⟨ver,U.sz t,l.map (U.eT d t)⟩ (.own i v 0 n);split
  ·rename_i e1;have e1:=Bt e1;subst e1;split
   ·rename_i e2;have e2:=Bt e2;subst e2;have hn:n=l.length:=hv.2 _ hB rfl;simp only[V.frz1,if_true,R5 hU,hn,Hf,List.take_length];rfl
   ·rename_i e2;have:=Cy e2;simp only[V.frz1,if_true,if_neg (Ne.symm this)];rfl
  ·rename_i e1;simp only[V.frz1,if_neg (Cy e1)];rfl
 |part i v lo hi=>
  simp only[Di];show _=V.frz1 id ⟨ver,U.sz t,l.map (U.eT d t)⟩ (.own i v lo.toNat (hi - lo).toNat);split
  ·rename_i e1;have e1:=Bt e1;subst e1;split
   ·rename_i e2;have e2:=Bt e2;subst e2;simp only[V.frz1,if_true,R5 hU];rfl
   ·rename_i e2;have:=Cy e2;simp only[V.frz1,if_true,if_neg (Ne.symm this)];rfl
  ·rename_i e1;simp only[V.frz1,if_neg (Cy e1)];rfl
 |ptr i v j=>
  simp only[Di,SV.toV,V.fgt];cases e1:Nat.beq i id with
  |true=>rfl
  |false=>show _=V.frz1 id _ (.ptr i v 0 j);simp_all[V.frz1,Cy]
 |ptrE i v g x j=>
  simp only[Di,SV.toV,V.fgt];cases e1:Nat.beq i id with
  |true=>rfl
  |false=>show _=V.frz1 id _ (.ptr i v x.toNat j);simp_all[V.frz1,Cy]
 |ptrA i v x=>
  simp only[Di,SV.toV,V.fgt];cases e1:Nat.beq i id with
  |true=>rfl
  |false=>show _=V.frz1 id _ (.ptr i v 0 x.toNat);simp_all[V.frz1,Cy]
 |fn f caps rs=>
  simp only[Di,SV.toV,V.fgt];have hany:((caps.map fun c=>V.ptr c.1 c.2 0 0)++rs.map fun q=>V.ip (U.sz q.1) [U.en q.1 q.2] 0 0).any (Sb id)=caps.any fun c=>Nat.beq c.1 id:=by
   rw[List.any_append,List.any_map,List.any_map];have:(rs.any (Sb id ∘ fun q=>V.ip (U.sz q.1) [U.en q.1 q.2] 0 0))=false:=List.any_eq_false.2 fun q _=>by simp[Sb]
   rw[this,Bool.or_false];rfl
  rw[hany];cases e1:caps.any fun c=>Nat.beq c.1 id with
  |true=>rfl
  |false=>
   show V.fn f _=V.fn f _;congr 1;rw[Er,Ar,Ar];congr 1;refine Bf fun c hc=> ?_
   have:Nat.beq c.1 id=false:=by
    grind
   simp_all[V.frz1,Cy]
 |_=>rfl
theorem Sg{id ver t:Nat}{l:List (U.D t)}{v:SV U.D}(hv:v.ok S τ):(Di U id ver t l v).ok S τ:=by
 cases v with
 |own i v n=>
  simp only[Di];split
  ·split<;>trivial
  omega
 |part i v lo hi=>
  simp only[Di];split
  ·split<;>trivial
  omega
 |ptrE i v g x j=>
  simp only[Di];split
  ·trivial
  omega
 |ptr i v j=>simp only[Di];split<;>trivial
 |ptrA i v x=>simp only[Di];split<;>trivial
 |fn f caps rs=>simp only[Di];split<;>trivial
 |_=>exact hv
theorem Lt{β γ:Type}(f:β->γ): ∀(l:List (Nat×β)) (n:Nat),lk (l.map fun p=>(p.1,f p.2)) n=(lk l n).map f:=by
 intro l;induction l with
 |nil=>intro n;rfl
 |cons x r ih=>
  grind [D1]
theorem Aa4 (hU:Ad U){id ver t:Nat}{d c:Bool}{l:List (U.D t)}(hB:S.blk id=some (.rows ver t d c l)){cs:List (SV U.D)}(h: ∀x∈cs,x.ok S τ):(cs.map (Di U id ver t l)).map (SV.toV U)=((cs.map (SV.toV U)).map (V.fgt id)).map (V.frz id ⟨ver,U.sz t,l.map (U.eT d t)⟩):=by
 rw[Ar,Ar,Ar]
 grind [List.map_congr_left,Ahl]
theorem Ahm{l:List V}(h:l.all V.closed=true)(id:Nat)(B:Blk):(l.map (V.fgt id)).map (V.frz id B)=l:=by
 rw[Ar];refine(Bf fun v hv=> ?_).trans (List.map_id _);have:=Z1.1 h v hv
 grind [Ahj,Ahk]
theorem Aqf (hU:Ad U){id ver t:Nat}{d c:Bool}{l:List (U.D t)}(hB:S.blk id=some (.rows ver t d c l)){B:SB U.D}(h:B.ok S τ):
  (frzB U id ver t l B).toB U=⟨(B.toB U).ver,(B.toB U).es,((B.toB U).fgt id).xs.map fun x=>x.map (V.frz id ⟨ver,U.sz t,l.map (U.eT d t)⟩)⟩:=by
 have rows: ∀(t':Nat) (d':Bool) (l':List (U.D t')),((l'.map (U.eT d' t')).map fun x=>x.map (V.fgt id)).map (fun x=>x.map (V.frz id ⟨ver,U.sz t,l.map (U.eT d t)⟩))=l'.map (U.eT d' t'):=by
  intro t' d' l';rw[Ar,Ar];exact Bf fun a _=>Ahm ((hU.eT d' t').2 a) _ _
 cases B with
 |rows v t' d' c' l'=>grind [frzB,SB.toB,Blk.fgt]
 |box v cs=>
  simp only[frzB,SB.toB,Blk.fgt,Bi,Z8,De];rw[Aa4 hU hB h]
 |arr v n t' l'=>
  simp only[frzB,SB.toB,Blk.fgt,Z8,De];rw[Ahm];refine Z1.2 fun v hv=> ?_;obtain⟨x,h1,h2⟩:=List.mem_flatten.1 hv;obtain⟨a,_,rfl⟩:=A8.1 h1;exact Z1.1 ((hU.en t').closed a) v h2
 |opn v t' d' q l' g i cs=>
  simp only[frzB,SB.toB,Blk.fgt,List.map_set,rows];rw[Aa4 hU hB h.2.2.1]
theorem Ahn{id ver t:Nat}{l:List (U.D t)}(B:SB U.D):(frzB U id ver t l B).ver=B.ver/\(frzB U id ver t l B).len=B.len/\((frzB U id ver t l B).clean=true->B=frzB U id ver t l B):=by
 cases B with
 |rows=>exact⟨rfl,rfl,fun _=>rfl⟩
 |box=>exact⟨rfl,rfl,fun h=>by cases h⟩
 |arr=>exact⟨rfl,rfl,fun h=>by cases h⟩
 |opn=>exact⟨rfl,rfl,fun h=>by cases h⟩
theorem Aho (hU:Ad U)(hw:Ae S τ){id:Nat}(h:Rn U S id=some S'):Ao F (S.toSt U) (S'.toSt U)/\Ae S' τ:=by
 unfold Rn at h;split at h
 ·rename_i ver t d c l hB;cases h;have hblk: ∀i,(⟨S.env.map fun p=>(p.1,La U id ver t l p.2),(id,none)::S.H.map fun p=>(p.1,p.2.map (frzB U id ver t l)),S.nv,S.ctr⟩:SS U.D).blk i=if i=id then none else(S.blk i).map (frzB U id ver t l):=by
   intro i;rw[D2];split
   ·rfl
   ·simp only[SS.blk,Lt]
    grind
  refine⟨?_,?_⟩
  ·rintro a w ⟨hd,hsz,σ,β,hs⟩
   have h1:=hs.fgt id;have hB1:((S.toSt U).fgt id).H id=some ⟨ver,U.sz t,l.map (U.eT d t)⟩:=by
    show((S.blk id).map (SB.toB U)).map (Blk.fgt id)=_;rw[hB];simp only[Du,SB.toB,Blk.fgt];congr 2;rw[Ar];refine Bf fun a _=> ?_
    show(U.eT d t a).map (V.fgt id)=U.eT d t a;refine(Bf fun v hv=> ?_).trans (List.map_id _);exact Ahj (Z1.1 ((hU.eT d t).2 a) v hv) id
   have h2:=h1.frz hB1 (Hw hU d t ver l);refine⟨hd,hsz,_,_,Ac.cast ?_ h2⟩;refine St.Sim.eq ⟨fun x=> ?_,fun i=> ?_,fun i=>rfl⟩
   ·have hx:=hw.get x;have e0:(⟨S.env.map fun p=>(p.1,La U id ver t l p.2),(id,none)::S.H.map fun p=>(p.1,p.2.map (frzB U id ver t l)),S.nv,S.ctr⟩:SS U.D).get x=((lk S.env x).map (La U id ver t l)).getD (.c .undef):=by
     simp only[SS.get,Lt]
     grind
    have e1:S.get x=(lk S.env x).getD (.c .undef):=by
     simp only[SS.get]
     grind
    refine Eq.trans ?_ (congrArg (SA.toA U) e0).symm;show(((S.get x).toA U).fgt id).frz id _=_;rw[e1]at hx ⊢;cases e:lk S.env x with
    |none=>rfl
    |some v=>
     rw[e]at hx;cases v with
     |c v=>show A.c _=A.c _;rw[Ahl hU hB hx]
     |g cs=>show A.g _=A.g _;rw[Aa4 hU hB hx]
     |t xs=>rfl
   ·show(if i=id then none else(((S.blk i).map (SB.toB U)).map (Blk.fgt id)).map _)=_;refine Eq.trans ?_ (congrArg (Option.map (SB.toB U)) (hblk i)).symm;split
    ·rfl
    ·cases e:S.blk i with
     |none=>rfl
     |some B=>
      simp only[Du,Aqf hU hB (hw.2.2 i B e).2];rfl
  ·have hev:Br S (⟨S.env.map fun p=>(p.1,La U id ver t l p.2),(id,none)::S.H.map fun p=>(p.1,p.2.map (frzB U id ver t l)),S.nv,S.ctr⟩:SS U.D):=by
    refine⟨Z9 _,fun _=>Z9 _,fun i C hC _=> ?_⟩;rw[hblk]at hC;split at hC
    ·cases hC
    ·obtain⟨B,h1,rfl⟩:=Z5.1 hC;obtain⟨k1,k2,k3⟩:=Ahn (U:=U) (id:=id) (ver:=ver) (t:=t) (l:=l) B
     grind
   refine⟨hw.1,fun x v hx=> ?_,fun i C hC=> ?_⟩
   ·have hx:lk (S.env.map fun p=>(p.1,La U id ver t l p.2)) x=some v:=hx;rw[Lt]at hx;obtain⟨v0,h1,rfl⟩:=Z5.1 hx;have h0:=hw.2.1 x v0 h1;refine SA.ok.mono (S:=S) ?_ hev;cases v0 with
    |c v=>exact Sg h0
    |g cs=>
     intro c hc;obtain⟨c0,h1,rfl⟩:=A8.1 hc;exact Sg (h0 c0 h1)
    |t xs=>trivial
   ·rw[hblk]at hC;split at hC
    ·cases hC
    ·obtain⟨B,h1,rfl⟩:=Z5.1 hC;obtain⟨h2,h3⟩:=hw.2.2 i B h1;refine⟨by rw[(Ahn B).1];exact h2,SB.ok.mono (S:=S) ?_ hev⟩;cases B with
     |box v cs=>
      intro c hc;obtain⟨c0,h1,rfl⟩:=A8.1 hc;exact Sg (h3 c0 h1)
     |opn v t' d' q l' g i' cs=>
      refine⟨h3.1,h3.2.1,fun c hc=> ?_,by rw[Bi];exact h3.2.2.2.1,fun h=>by cases h⟩;obtain⟨c0,h1,rfl⟩:=A8.1 hc;exact Sg (h3.2.2.1 c0 h1)
     |_=>trivial
 all_goals grind [Ao.refl]
theorem Aqg (hU:Ad U): ∀(l:List Nat) {S S':SS U.D},Ae S τ->Ro U S l=some S'->Ao F (S.toSt U) (S'.toSt U)/\Ae S' τ:=by
 intro l;induction l with
 |nil=>intro S S' hw h;cases h;grind [Ao.refl]
 |cons x r ih=>
  grind [Ro,Aho,Ao.trans]
theorem Aa5 (c:SV U.D):(Ek U c).toV U=(c.toV U).cold:=by
 cases c with
 |rowT t d l=>cases l<;>rfl
 |_=>rfl
theorem Ahp{c:SV U.D}(h:c.ok S τ):(Ek U c).ok S τ:=by
 cases c with
 |rowT t d l=>cases l<;>trivial
 |_=>exact h
theorem Ahq (x:Nat)(v:SA U.D):(upE U S x v).toSt U=⟨Aa (S.toSt U).env x (v.toA U),(S.toSt U).H,(S.toSt U).nv⟩:=by
 refine St.Sim.eq ⟨fun t=> ?_,fun i=>rfl,fun i=>rfl⟩;show((upE U S x v).get t).toA U=Aa (S.toSt U).env x (v.toA U) t;unfold upE;rw[Aaz];split
 ·grind [Q1]
 ·rename_i e;rw[Q0 _ _ e];rfl
theorem Ae.upE (hw:Ae S τ)(x:Nat){v:SA U.D}(hv:v.ok S τ):Ae (upE U S x v) τ:=hw.pure (dst:=some x) (use:=[]) (ids:=[]) hv
theorem Ahr{x:Nat}{v:SA U.D}(hv:v.toA U=((S.get x).toA U).cold):Ao F (S.toSt U) ((upE U S x v).toSt U):=by
 rintro a w ⟨hd,hsz,σ,β,hs⟩;refine⟨hd,hsz,σ,β,?_⟩;rw[Ahq,hv];exact hs.coldE x
theorem Aa6{x id:Nat}{v:SA U.D}{B:SB U.D}:(S.app (some x) {v,upd:=[(id,some B)],bump:=[id]}).toSt U=⟨Aa (S.toSt U).env x (v.toA U),Aa (S.toSt U).H id (some (B.toB U)),Aa (S.toSt U).nv id ((S.toSt U).nv id+1)⟩:=by
 rw[Lj];rfl
theorem Ahs{β:Type}: ∀ {l:List (Nat×β)} {n:Nat} {v:β},lk l n=some v->(n,v)∈l:=by
 intro l;induction l with
 |nil=>intro n v h;cases h
 |cons x r ih=>
  grind [D1]
theorem Aht (hU:Ad U){id ver t:Nat}{cs:List (SV U.D)}{x:U.D t}(hB:S.blk id=some (.box ver cs))(hx:(cs.map (Jv U)).map (SV.toV U)=U.en t x)(hcs:cs.all SV.shut=true){v:SV U.D}(hv:v.ok S τ)(hf:Nm U id v=true):
  (Dp U id ver t x v).toV U=(v.toV U).frz id ⟨ver,cs.length,[cs.map (SV.toV U)]⟩:=by
 have hsh:shareLL [cs.map (SV.toV U)]=[U.en t x]:=by
  rw[F3,Z8,De,<-hx,Ar,Ar];congr 1;exact Bf fun c hc=>(Aa3 hU (Z1.1 hcs c hc)).symm
 have hlen:cs.length=U.sz t:=by
  have:=congrArg List.length hx;rw[(hU.en t).len]at this
  grind
 have h1:([cs.map (SV.toV U)]:List (List V)).length<=maxLen:=by grind [maxLen]
 cases v with
 |own i v n=>
  simp only[Dp];show _=V.frz1 id ⟨ver,cs.length,[cs.map (SV.toV U)]⟩ (.own i v 0 n);split
  ·rename_i e1;have e1:=Bt e1;subst e1;split
   ·rename_i e2;have e2:=Bt e2;subst e2;have hn:n=0:=hv.2 _ hB rfl;subst hn;simp only[V.frz1,if_true,C1,Hf,List.take_zero,hlen];rfl
   ·rename_i e2;have:=Cy e2;simp only[V.frz1,if_true,if_neg (Ne.symm this)];rfl
  ·rename_i e1;simp only[V.frz1,if_neg (Cy e1)];rfl
 |part i v lo hi=>
  simp only[Dp];show _=V.frz1 id ⟨ver,cs.length,[cs.map (SV.toV U)]⟩ (.own i v lo.toNat (hi - lo).toNat);split
  ·rename_i e1;have e1:=Bt e1;subst e1;split
   ·rename_i e2;have e2:=Bt e2;subst e2;obtain⟨q1,q2,q3⟩:=hv.2 _ hB rfl;have q3:hi<=((0:Nat):Int):=q3;have:(hi - lo).toNat=0:=by omega
    rw[this];simp only[V.frz1,if_true,C1,List.take_zero,hlen];rfl
   ·rename_i e2;have:=Cy e2;simp only[V.frz1,if_true,if_neg (Ne.symm this)];rfl
  ·rename_i e1;simp only[V.frz1,if_neg (Cy e1)];rfl
 |ptr i v j=>
  simp only[Dp];show _=V.frz1 id ⟨ver,cs.length,[cs.map (SV.toV U)]⟩ (.ptr i v 0 j);split
  ·rename_i e1;have e1:=Bt e1;subst e1;split
   ·rename_i e2;have e2:=Bt e2;subst e2;simp only[V.frz1,if_true,h1,and_self,hsh,hlen];rfl
   ·rename_i e2;have:=Cy e2;simp only[V.frz1,if_true];rw[if_neg (fun h=>this h.1.symm)];rfl
  ·rename_i e1;simp only[V.frz1,if_neg (Cy e1)];rfl
 |ptrE i v g x' j=>
  simp only[Dp];show _=V.frz1 id ⟨ver,cs.length,[cs.map (SV.toV U)]⟩ (.ptr i v x'.toNat j);split
  ·rename_i e1;have e1:=Bt e1;subst e1;simp only[V.frz1,if_true];by_cases e2:ver=v
   ·obtain⟨q1,q2⟩:=hv.2.2 _ hB e2;have q2:x'<((0:Nat):Int):=q2;omega
   ·rw[if_neg (fun h=>e2 h.1)];rfl
  ·rename_i e1;simp only[V.frz1,if_neg (Cy e1)];rfl
 |ptrA i v x'=>
  simp only[Dp];show _=V.frz1 id ⟨ver,cs.length,[cs.map (SV.toV U)]⟩ (.ptr i v 0 x'.toNat);split
  ·rename_i e1;have e1:=Bt e1;subst e1;split
   ·rename_i e2;have e2:=Bt e2;subst e2;simp only[V.frz1,if_true,h1,and_self,hsh,hlen];rfl
   ·rename_i e2;have:=Cy e2;simp only[V.frz1,if_true];rw[if_neg (fun h=>this h.1.symm)];rfl
  ·rename_i e1;simp only[V.frz1,if_neg (Cy e1)];rfl
 |fn f caps rs=>
  simp only[Dp];show V.fn f _=V.fn f _;congr 1;rw[Er,Ar,Ar];congr 1;refine Bf fun c hc=> ?_
  have:Nat.beq c.1 id=false:=by
   have h:(!caps.any fun c=>Nat.beq c.1 id)=true:=hf
   grind
  simp_all[V.frz1,Cy]
 |_=>rfl
theorem Si{id ver t:Nat}{x:U.D t}{v:SV U.D}(hv:v.ok S τ):(Dp U id ver t x v).ok S τ:=by
 cases v with
 |own i v n=>
  simp only[Dp];split
  ·split<;>trivial
  omega
 |part i v lo hi=>
  simp only[Dp];split
  ·split<;>trivial
  omega
 |ptrE i v g x j=>
  simp only[Dp];split
  ·trivial
  omega
 |ptr i v j=>
  simp only[Dp];split
  ·split<;>trivial
  ·trivial
 |ptrA i v x=>
  simp only[Dp];split
  ·split<;>trivial
  ·trivial
 |_=>exact hv
theorem Aa7 (hU:Ad U){id ver t:Nat}{cs0:List (SV U.D)}{x:U.D t}(hB:S.blk id=some (.box ver cs0))(hx:(cs0.map (Jv U)).map (SV.toV U)=U.en t x)(hcs:cs0.all SV.shut=true){cs:List (SV U.D)}(h: ∀y∈cs,y.ok S τ)(hf:cs.all (Nm U id)=true):
  (cs.map (Dp U id ver t x)).map (SV.toV U)=(cs.map (SV.toV U)).map (V.frz id ⟨ver,cs0.length,[cs0.map (SV.toV U)]⟩):=by
 rw[Ar,Ar];exact Bf fun y hy=>Aht hU hB hx hcs (h y hy) (Z1.1 hf y hy)
theorem Ahu{l:List V}(h:l.all V.closed=true)(id:Nat)(B:Blk):l.map (V.frz id B)=l:=by
 refine(Bf fun v hv=> ?_).trans (List.map_id _);simp_all[Ahk]
theorem Aqh (hU:Ad U){id ver t:Nat}{cs0:List (SV U.D)}{x:U.D t}(hB:S.blk id=some (.box ver cs0))(hx:(cs0.map (Jv U)).map (SV.toV U)=U.en t x)(hcs:cs0.all SV.shut=true){B:SB U.D}(h:B.ok S τ)(hf:Aab U id (some B)=true):
  (Ew U id ver t x B).toB U=⟨(B.toB U).ver,(B.toB U).es,(B.toB U).xs.map fun y=>y.map (V.frz id ⟨ver,cs0.length,[cs0.map (SV.toV U)]⟩)⟩:=by
 have rows: ∀(t':Nat) (d':Bool) (l':List (U.D t')),(l'.map (U.eT d' t')).map (fun y=>y.map (V.frz id ⟨ver,cs0.length,[cs0.map (SV.toV U)]⟩))=l'.map (U.eT d' t'):=by
  simp_all[Ahu,Ad.eT]
 cases B with
 |rows v t' d' c' l'=>grind [Ew,SB.toB]
 |box v cs=>
  simp only[Ew,SB.toB,Bi,Z8,De];rw[Aa7 hU hB hx hcs h hf]
 |arr v n t' l'=>
  simp only[Ew,SB.toB,Z8,De];rw[Ahu];refine Z1.2 fun v hv=> ?_;obtain⟨x,h1,h2⟩:=List.mem_flatten.1 hv;obtain⟨a,_,rfl⟩:=A8.1 h1;exact Z1.1 ((hU.en t').closed a) v h2
 |opn v t' d' q l' g i cs=>
  simp only[Ew,SB.toB,List.map_set,rows];rw[Aa7 hU hB hx hcs h.2.2.1 hf]
theorem Ahv{id ver t:Nat}{x:U.D t}(B:SB U.D):(Ew U id ver t x B).ver=B.ver/\(Ew U id ver t x B).len=B.len/\((Ew U id ver t x B).clean=true->B=Ew U id ver t x B):=by
 cases B with
 |rows=>exact⟨rfl,rfl,fun _=>rfl⟩
 |box=>exact⟨rfl,rfl,fun h=>by cases h⟩
 |arr=>exact⟨rfl,rfl,fun h=>by cases h⟩
 |opn=>exact⟨rfl,rfl,fun h=>by cases h⟩
theorem Aqi (hU:Ad U)(hw:Ae S τ){id t:Nat}(h:Aac U S id t=some S'):Ao F (S.toSt U) (S'.toSt U)/\Ae S' τ:=by
 unfold Aac at h;split at h
 ·rename_i ver cs0 hB;split at h
  ·rename_i x hc hfold;simp only[Z4]at hc;obtain⟨⟨hcs,hfe⟩,hfh⟩:=hc;have hx:=hU.fS t _ x hfold;cases h;have hblk: ∀i,(⟨S.env.map fun p=>(p.1,Lb U id ver t x p.2),(id,none)::S.H.map fun p=>(p.1,p.2.map (Ew U id ver t x)),S.nv,S.ctr⟩:SS U.D).blk i=if i=id then none else(S.blk i).map (Ew U id ver t x):=by
    intro i;rw[D2];split
    ·rfl
    ·simp only[SS.blk,Lt]
     grind
   have henv: ∀x v,lk S.env x=some v->Aaa U id v=true:=fun x v h=>Z1.1 hfe _ (Ahs h)
   have hH: ∀i B,S.blk i=some B->Aab U id (some B)=true:=fun i B h=>by
    have h':=h;unfold SS.blk at h';split at h'
    ·rename_i b e;subst h';exact Z1.1 hfh _ (Ahs e)
    grind
   refine⟨?_,?_⟩
   ·rintro a w ⟨hd,hsz,σ,β,hs⟩
    have hcl:allClosed ⟨ver,cs0.length,[cs0.map (SV.toV U)]⟩=true:=by
     simp_all[allClosed,Kb]
    have h2:=hs.frz (B:=⟨ver,cs0.length,[cs0.map (SV.toV U)]⟩) (id:=id) (Am hB) hcl;refine⟨hd,hsz,_,_,Ac.cast ?_ h2⟩;refine St.Sim.eq ⟨fun y=> ?_,fun i=> ?_,fun i=>rfl⟩
    ·have hy:=hw.get y;have e0:(⟨S.env.map fun p=>(p.1,Lb U id ver t x p.2),(id,none)::S.H.map fun p=>(p.1,p.2.map (Ew U id ver t x)),S.nv,S.ctr⟩:SS U.D).get y=((lk S.env y).map (Lb U id ver t x)).getD (.c .undef):=by
      simp only[SS.get,Lt]
      grind
     have e1:S.get y=(lk S.env y).getD (.c .undef):=by
      simp only[SS.get]
      grind
     refine Eq.trans ?_ (congrArg (SA.toA U) e0).symm;show((S.get y).toA U).frz id _=_;rw[e1]at hy ⊢;cases e:lk S.env y with
     |none=>rfl
     |some v=>
      rw[e]at hy;have hf:=henv y v e;cases v with
      |c v=>show A.c _=A.c _;rw[Aht hU hB hx hcs hy (by grind [Aaa,SA.cells])]
      |g cs=>show A.g _=A.g _;rw[Aa7 hU hB hx hcs hy hf]
      |t xs=>rfl
    ·show(if i=id then none else((S.blk i).map (SB.toB U)).map _)=_;refine Eq.trans ?_ (congrArg (Option.map (SB.toB U)) (hblk i)).symm;split
     ·rfl
     ·cases e:S.blk i with
      |none=>rfl
      |some B=>
       simp only[Du,Aqh hU hB hx hcs (hw.2.2 i B e).2 (hH i B e)]
   ·have hev:Br S (⟨S.env.map fun p=>(p.1,Lb U id ver t x p.2),(id,none)::S.H.map fun p=>(p.1,p.2.map (Ew U id ver t x)),S.nv,S.ctr⟩:SS U.D):=by
     refine⟨Z9 _,fun _=>Z9 _,fun i C hC _=> ?_⟩;rw[hblk]at hC;split at hC
     ·cases hC
     ·obtain⟨B,h1,rfl⟩:=Z5.1 hC;obtain⟨k1,k2,k3⟩:=Ahv (U:=U) (id:=id) (ver:=ver) (x:=x) B
      grind
    refine⟨hw.1,fun y v hy=> ?_,fun i C hC=> ?_⟩
    ·have hy:lk (S.env.map fun p=>(p.1,Lb U id ver t x p.2)) y=some v:=hy;rw[Lt]at hy;obtain⟨v0,h1,rfl⟩:=Z5.1 hy;have h0:=hw.2.1 y v0 h1;refine SA.ok.mono (S:=S) ?_ hev;cases v0 with
     |c v=>exact Si h0
     |g cs=>
      intro c hc;obtain⟨c0,h1,rfl⟩:=A8.1 hc;exact Si (h0 c0 h1)
     |t xs=>trivial
    ·rw[hblk]at hC;split at hC
     ·cases hC
     ·obtain⟨B,h1,rfl⟩:=Z5.1 hC;obtain⟨h2,h3⟩:=hw.2.2 i B h1;refine⟨by rw[(Ahv B).1];exact h2,SB.ok.mono (S:=S) ?_ hev⟩;cases B with
      |box v cs=>
       intro c hc;obtain⟨c0,h1,rfl⟩:=A8.1 hc;exact Si (h3 c0 h1)
      |opn v t' d' q l' g i' cs=>
       refine⟨h3.1,h3.2.1,fun c hc=> ?_,by rw[Bi];exact h3.2.2.2.1,fun h=>by cases h⟩;obtain⟨c0,h1,rfl⟩:=A8.1 hc;exact Si (h3.2.2.1 c0 h1)
      |_=>trivial
  ·cases h
 ·cases h
theorem Cmd.run_ok (hU:Ad U)(he:Bh F T)(hw:Ae S τ){c:Cmd}(h:c.run U T S k=some r): ∃S',k S'=some r/\Hx F S S':=by
 cases c with
 |take id j nid=>grind [Apz]
 |opn id ix=>exact Ap1 hU hw h
 |opp id x=>exact Ap2 hU hw h
 |takeE id j nid=>grind [Ap0]
 |put id=>
  simp only[Cmd.run]at h;split at h
  ·rename_i S1 e1;obtain⟨g1,g2⟩:=Aqe hU he hw e1;exact⟨S1,h,g1,τ,g2⟩
  ·cases h
 |frz id=>
  simp only[Cmd.run]at h;split at h
  ·rename_i S1 e1;obtain⟨g1,g2⟩:=Aho (F:=F) hU hw e1;exact⟨S1,h,g1,τ,g2⟩
  ·cases h
 |putc id j=>
  simp only[Cmd.run]at h;split at h
  ·rename_i ver cs e1;have hok:=(hw.2.2 id _ e1).2;split at h
   ·rename_i nid nver n e2;split at h
    ·rename_i nver' t d cl l e3;split at h
     ·rename_i e4;simp only[Z4,Gg]at e4;obtain⟨⟨q1,q2⟩,q3⟩:=e4;have q1:=Bt q1;subst q1;have hne:=Cy q3;have hn:n=l.length:=(hok _ (Z6 e2)).2 _ e3 rfl;refine⟨_,h,?_,τ,Sf hw e1 rfl rfl rfl (fun c hc=> ?_)⟩
      ·rintro a w ⟨hd,hsz,σ,β,hs⟩;obtain⟨σ',hs'⟩:=hs.putN (k:=0) (j:=j) (nid:=nid) (nver:=nver') (e:=U.sz t) (ys:=l.map (U.eT d t)) (x:=cs.map (SV.toV U)) (Am e1) rfl (by grind [SV.toV]) (Am e3) (Hw hU d t nver' l) hne (Lr he q2)
       refine⟨hd,hsz,σ',β,Ac.cast ?_ hs'⟩;refine St.Sim.eq ⟨fun t=>rfl,fun i=> ?_,fun i=>rfl⟩;show Aa (Aa (S.toSt U).H nid none) id _ i=Option.map (SB.toB U) ((Bz U S (([nid].map fun i=>(i,none))++[(id,some (.box ver (cs.set j (.rowT t d l))))])).blk i);rw[Hy];simp only[Dt];by_cases g1:i=nid
       ·simp_all[Q0,Ne.symm,Q1]
       ·rw[if_neg g1];by_cases g2:i=id
        ·subst g2;rw[if_pos rfl,Q1,Du];simp only[SB.toB,Tb,List.map_set];rfl
        ·rw[if_neg g2,Q0 _ _ g2,Q0 _ _ g1];rfl
      ·rcases Mv hc with hc|rfl
       ·exact hok c hc
       ·trivial
     ·cases h
    ·cases h
   ·exact⟨S,h,Ao.refl _,τ,hw⟩
   ·cases h
  ·cases h
 |frzB id t=>
  simp only[Cmd.run]at h;split at h
  ·rename_i S1 e1;obtain⟨g1,g2⟩:=Aqi (F:=F) hU hw e1;exact⟨S1,h,g1,τ,g2⟩
  ·cases h
 |frzT x=>
  simp only[Cmd.run]at h;split at h
  ·rename_i S1 e1;obtain⟨g1,g2⟩:=Aqg (F:=F) hU _ hw e1;exact⟨S1,h,g1,τ,g2⟩
  ·cases h
 |shal id=>
  simp only[Cmd.run]at h;split at h
  ·rename_i ver t c l e1;split at h
   ·exact⟨S,h,Ao.refl _,τ,hw⟩
   ·refine⟨_,h,Aa2 (fun _=>true) e1 (Hw hU true t ver l) ?_,τ,hw.upH1 e1 rfl rfl rfl trivial⟩;show Blk.mk _ _ (l.map (U.en t))=Blk.mk _ _ (Fi _ (l.map (U.eT true t)));rw[Ahb,Aap hU];rfl
  ·exact⟨S,h,Ao.refl _,τ,hw⟩
  ·cases h
 |nilO x nid=>
  simp only[Cmd.run]at h;split at h
  ·rename_i t d e1;split at h
   ·rename_i e2;refine⟨_,h,?_,τ,hw.new (dst:=some x) (use:=[]) (ids:=[]) (id:=nid) (B:= .rows (S.ver nid) t d false []) rfl (J6 rfl) trivial⟩;rintro a w ⟨hd,hsz,σ,β,hs⟩;have:=hs.ownNil (t:=x) (es:=U.sz t) (id:=nid) (by show(S.get x).toA U=_;rw[e1];rfl) (Lr he e2);refine⟨hd,hsz,_,_,Ac.cast ?_ this⟩;exact(Aa6 (S:=S) (x:=x) (id:=nid) (v:= .c (.own nid (S.ver nid) 0)) (B:= .rows (S.ver nid) t d false [])).symm
   ·cases h
  ·exact⟨S,h,Ao.refl _,τ,hw⟩
  ·cases h
 |nilG x j nid=>
  simp only[Cmd.run]at h;split at h
  ·rename_i cs e1;split at h
   ·rename_i t d e0;split at h
    ·rename_i e2;have hok:=hw.get x;rw[e1]at hok;refine⟨_,h,?_,τ,hw.new (dst:=some x) (use:=[]) (ids:=[]) (id:=nid) (v:= .g (cs.set j (.own nid (S.ver nid) 0))) (B:= .rows (S.ver nid) t d false []) rfl (fun c hc=> ?_) trivial⟩
     ·rintro a w ⟨hd,hsz,σ,β,hs⟩
      have:=hs.ownNilG (t:=x) (es:=U.sz t) (id:=nid) (cs:=cs.map (SV.toV U)) (j:=j) (by show(S.get x).toA U=_;rw[e1];rfl) (by rw[As,e0];rfl) (Lr he e2);refine⟨hd,hsz,_,_,Ac.cast ?_ this⟩;refine Eq.trans ?_ (Aa6 (S:=S) (x:=x) (id:=nid) (v:= .g (cs.set j (.own nid (S.ver nid) 0))) (B:= .rows (S.ver nid) t d false [])).symm;show(⟨Aa _ _ (A.g ((cs.map (SV.toV U)).set j _)),_,_⟩:St)=⟨Aa _ _ (A.g ((cs.set j _).map (SV.toV U))),_,_⟩;rw[List.map_set];rfl
     ·rcases Mv hc with hc|rfl
      ·exact(hok c hc).mono (Agi rfl)
      ·exact J6 (τ:=τ) (n:=0) rfl
    ·cases h
   ·cases h
  ·cases h
 |cold x=>
  simp only[Cmd.run]at h;have hok:=hw.get x;split at h
  ·rename_i v e1;rw[e1]at hok;refine⟨_,h,Ahr ?_,τ,hw.upE x (v:= .c (Ek U v)) (Ahp hok)⟩;rw[e1];show A.c _=A.c _;rw[Aa5]
  ·rename_i cs e1;rw[e1]at hok;refine⟨_,h,Ahr ?_,τ,hw.upE x (v:= .g (cs.map (Ek U))) (fun c hc=> ?_)⟩
   ·rw[e1];show A.g _=A.g _;simp_all[Aa5]
   ·obtain⟨c0,h1,rfl⟩:=A8.1 hc;exact Ahp (hok c0 h1)
  ·exact⟨S,h,Ao.refl _,τ,hw⟩
 |cut x=>
  simp only[Cmd.run]at h;split at h
  ·rename_i id ver lo hi e1;have hok:=hw.get x;rw[e1]at hok;split at h
   ·rename_i ver' t d c l e2;split at h
    ·rename_i e3;have e3:=Bt e3;subst e3;obtain⟨h1,h2,h3⟩:=hok.2 _ e2 rfl;have h3:hi<=(l.length:Int):=h3;refine⟨_,h,?_,τ,hw.new (dst:=some x) (use:=[]) (ids:=[]) (id:=id) (B:= .rows (S.ver id) t d false (l.take hi.toNat)) rfl (J6 rfl) trivial⟩;rintro a w ⟨hd,hsz,σ,β,hs⟩;have:=hs.cut (t:=x) (id:=id) (ver:=ver) (k:=hi.toNat) (by show(S.get x).toA U=_;rw[e1];show A.c (.own id ver _ (hi - 0).toNat)=_;grind) (Am e2) (by grind);refine⟨hd,hsz,_,_,Ac.cast ?_ this⟩;refine Eq.trans ?_ (Aa6 (S:=S) (x:=x) (id:=id) (v:= .c (.own id (S.ver id) (l.take hi.toNat).length)) (B:= .rows (S.ver id) t d false (l.take hi.toNat))).symm;have hlen:(l.take hi.toNat).length=hi.toNat:=by grind
     simp only[SB.toB,SA.toA,SV.toV,hlen,List.map_take];rfl
    ·cases h
   ·cases h
  ·exact⟨S,h,Ao.refl _,τ,hw⟩
  ·cases h
 |len x=>
  simp only[Cmd.run]at h;split at h
  ·rename_i id ver n e1;have hok:=hw.get x;rw[e1]at hok;split at h
   ·rename_i ver' t d c l e2;split at h
    ·rename_i e3;have e3:=Bt e3;subst e3;have hn:n=l.length:=hok.2 _ e2 rfl;subst hn;refine⟨_,h,?_,τ,hw.upE x hok⟩;have:(upE U S x (.c (.own id ver l.length))).toSt U=S.toSt U:=by
      rw[Ahq];refine St.Sim.eq ⟨fun t'=> ?_,fun i=>rfl,fun i=>rfl⟩;show Aa (S.toSt U).env x _ t'=_;by_cases e:t'=x
      ·subst e;rw[Q1];show _=(S.get t').toA U;rw[e1]
      grind [Q0]
     grind [Ao.refl]
    ·cases h
   ·cases h
  ·exact⟨S,h,Ao.refl _,τ,hw⟩
 |share id=>
  simp only[Cmd.run]at h;split at h
  ·rename_i ver cs e1;split at h
   ·rename_i e2;have hcs:=(hw.2.2 id _ e1).2;refine⟨_,h,Aa2 (fun _=>true) e1 ?_ ?_,τ,hw.upH1 e1 rfl rfl rfl fun c hc=> ?_⟩
    ·simp only[allClosed,SB.toB,Bb,List.all_nil,Bool.and_true,List.all_map];exact Z1.2 fun c hc=>Kb hU (Z1.1 e2 c hc)
    ·simp only[SB.toB,Bi];show Blk.mk _ _ _=Blk.mk _ _ _;congr 1;rw[Ahb,F3,Z8,De,Ar,Ar];congr 1;exact Bf fun c hc=>Aa3 hU (Z1.1 e2 c hc)
    ·obtain⟨c0,h1,rfl⟩:=A8.1 hc;cases c0 with
     |rowT t d l=>trivial
     |_=>exact hcs _ h1
   ·cases h
  ·cases h
theorem Sj (hU:Ad U)(he:Bh F T): ∀(l:List Cmd) {S:SS U.D} {k:SS U.D->Option α},WF S->Hs U T S k l=some r-> ∃S',k S'=some r/\Hx F S S':=by
 intro l;induction l with
 |nil=>intro S k hw h;exact⟨S,h,Ao.refl _,hw⟩
 |cons c l ih=>
  intro S k hw h;obtain⟨τ,hw⟩:=hw;obtain⟨S1,h1,g1,g2⟩:=Cmd.run_ok hU he hw (k:=fun S'=>Hs U T S' k l) h;obtain⟨S2,h2,k1,k2⟩:=ih g2 h1;exact⟨S2,h2,g1.trans k1,k2⟩
end
section
variable {U:Un} {T:Tab} {F:Fr} {S S':SS U.D} {α:Type} {r:α} {X:Ox U α}
theorem Ahw{spl:List Nat}{dst:Option Tmp}{rec:Aj U.D}{k:Aj U.D->Option α}(h:Rq U spl dst rec k=some r):k rec=some r:=by
 unfold Rq at h;split at h
 ·rename_i d e hv;split at h
  ·cases e with
   |true=>
    have:rec={rec with v:= .c (.bool true)}:=by cases rec;grind
    grind
   |false=>
    have:rec={rec with v:= .c (.bool false)}:=by cases rec;grind
    grind
  ·exact h
 ·exact h
theorem Ahx (hU:Ad U)(he:Bh F T){draw:Bool}{dst:Option Tmp}{k:SS U.D->Option α}(hw:WF S)(h:Rr U T X draw dst S k=some r): ∃S',k S'=some r/\Hx F S S'/\(draw=true->S'=S):=by
 unfold Rr at h;split at h
 ·grind [Sj]
 ·exact⟨S,h,⟨Ao.refl _,hw⟩,fun _=>rfl⟩
theorem Aqj{a b:Option α}(h:Aag a b=some r):a=some r/\b=some r:=by
 by_cases e:a=b
 all_goals simp_all[Aag]
theorem Aqk{draw:Bool}{o:Oper}{e:Bool}(h:Lc U T draw S o=some e):
  draw=false/\o.guard=none/\ ∃(t:Nat) (x:Operand) (ty q:Nat) (l:List (U.D q)) (ti:TI) (el:Nat),o.op= .binOp .eql t x (.const (.slice none 0 0)) ty/\S.val T 0 x= .c (.row q l)/\tg T t=some ti/\ti.k= .slice el/\e=l.isEmpty:=by
 unfold Lc at h
 grind
theorem Aql{draw:Bool}{ops:Array Oper}{o:Oper}{l:List Oper}{fps:List FP}{k:SS U.D->Option α}{e:Bool}(hn:Lc U T draw S o=some e)(h:Dj U T X draw ops (o::l) S fps k=some r):
  (∀d,o.dst=some d->d<X.N)/\ ∀b:Bool,(b=true->e=true)->Dj U T X draw ops l (S.app o.dst {v:= .c (.bool b)}) (([],[],[])::fps) k=some r:=by
 unfold Dj at h;split at h
 ·rename_i hd;refine⟨fun d e=> ?_,?_⟩
  ·simp_all
  ·rw[hn]at h;simp only at h;cases e with
   |true=>
    obtain⟨h1,h2⟩:=Aqj h;simp_all
   |false=>
    grind
 ·cases h
theorem Ahy (hU:Ad U)(he:Bh F T)(hX:Gf U T F.P X)(hw:WF S){draw:Bool}{ops:Array Oper}{o:Oper}{l:List Oper}{fps:List FP}{k:SS U.D->Option α}(hn:Lc U T draw S o=none)(h:Dj U T X draw ops (o::l) S fps k=some r):
  (∀d,o.dst=some d->d<X.N)/\ ∃(rec:Aj U.D) (us:List Tmp) (S1:SS U.D),Dj U T X draw ops l S1 ((us++rec.use,rec.fp.2)::fps) k=some r/\Hx F (S.app o.dst rec) S1/\(draw=true->S1=S.app o.dst rec)/\
   ((o.guard=none/\us=[]/\Ai F T o (S.toSt U) (rec.toRec U))\/
    (∃j b d,o.guard=some (j,b)/\Eg ops j=some d/\((us=[d]/\(S.toSt U).env d= .c (.bool b)/\Ai F T o (S.toSt U) (rec.toRec U))\/
     (us=[]/\rec={v:= .c .skip,use:=[d]}/\((∃c,(S.toSt U).env d= .c (.bool c)/\(c==b)=false)\/(S.toSt U).env d= .c .skip))))):=by
 obtain⟨τ,hw⟩:=hw;unfold Dj at h;split at h
 ·rename_i hd;refine⟨fun d e=> ?_,?_⟩
  ·simp_all
  ·rw[hn]at h;simp only at h;split at h
   ·rename_i hg;obtain⟨rec,h1,h2,h3⟩:=Aha hU hw hX h;obtain⟨S1,h4,h5,h6⟩:=Ahx hU he ⟨τ,h3⟩ (Ahw h1);exact⟨rec,[],S1,h4,h5,h6,.inl ⟨hg,rfl,h2⟩⟩
   ·rename_i j b hg;split at h
    ·rename_i d hgt;split at h
     ·rename_i c hc;have hcv:(S.toSt U).env d= .c (.bool c):=by show(S.get d).toA U=_;rw[hc];rfl
      split at h
      ·rename_i hcb;obtain⟨rec,h1,h2,h3⟩:=Aha hU hw hX h;obtain⟨S1,h4,h5,h6⟩:=Ahx hU he ⟨τ,h3⟩ (Ahw h1)
       grind
      ·rename_i hcb;exact⟨{v:= .c .skip,use:=[d]},[],_,h,⟨Ao.refl _,τ,hw.pure trivial⟩,fun _=>rfl,.inr ⟨j,b,d,hg,hgt,.inr ⟨rfl,rfl,.inl ⟨c,hcv,hcb⟩⟩⟩⟩
     ·rename_i hc;exact⟨{v:= .c .skip,use:=[d]},[],_,h,⟨Ao.refl _,τ,hw.pure trivial⟩,fun _=>rfl,.inr ⟨j,b,d,hg,hgt,.inr ⟨rfl,rfl,.inr (by show(S.get d).toA U=_;rw[hc];rfl)⟩⟩⟩
     ·cases h
    ·cases h
 ·cases h
theorem Aqm{ops:Array Oper}{i:Nat}{S S':St}{l:List Oper}{Q:Exit->St->Prop}(h:Ao F S S')(k:VW F T ops i S' l Q):VW F T ops i S l Q:=fun he hf hl a w hs=>k he hf hl a w (h a w hs)
theorem Aqn (hU:Ad U)(he:Bh F T)(hX:Gf U T F.P X){ops:Array Oper}{k:SS U.D->Option α}{Q:Exit->St->Prop}(hQ: ∀S',k S'=some r->WF S'->Q .normal (S'.toSt U)):
  ∀(l:List Oper) (S:SS U.D) (fps:List FP) (i:Nat),WF S->Dj U T X false ops l S fps k=some r->VW F T ops i (S.toSt U) l Q/\ ∀o∈l,∀d,o.dst=some d->d<X.N:=by
 intro l;induction l with
 |nil=>intro S fps i hw h;exact⟨ve (hQ S h hw),fun o ho=>by cases ho⟩
 |cons o l ih=>
  intro S fps i hw h;cases hn:Lc U T false S o with
  |some e=>
   obtain⟨hd,hk⟩:=Aql hn h;obtain⟨_,hg,t,x,ty,q,lx,ti,el,ho,hx,ht,hkk,rfl⟩:=Aqk hn;have hwb: ∀b:Bool,WF (S.app o.dst {v:= .c (.bool b)}):=fun b=>by obtain⟨τ,hw⟩:=hw;exact⟨τ,hw.pure trivial⟩
   refine⟨vN ho (Rz hx) ht hkk hg fun b hb=> ?_,fun o' ho'=> ?_⟩
   ·have:=(ih _ _ (i+1) (hwb b) (hk b fun e=>by simp_all)).1;rw[Lj]at this;exact this
   ·rcases Ax.1 ho' with rfl|ho'
    ·exact hd
    ·exact(ih _ _ (i+1) (hwb false) (hk false fun e=>by cases e)).2 o' ho'
  |none=>
  obtain⟨hd,rec,us,S1,h1,⟨hwk,hw1⟩,_,h3⟩:=Ahy hU he hX hw hn h;obtain⟨g1,g2⟩:=ih S1 _ (i+1) hw1 h1;have g1:=Aqm hwk g1;rw[Lj]at g1;refine⟨?_,fun o' ho=> ?_⟩
  ·rcases h3 with ⟨hg,rfl,hst⟩|⟨j,b,d,hg,hgt,⟨rfl,hv,hst⟩|⟨rfl,rfl,⟨c,hv,hne⟩|hv⟩⟩
   ·grind [v0]
   ·exact u0 hst hg hgt hv g1
   ·exact uP hg hgt hv hne g1
   ·exact uS hg hgt hv g1
  grind
def Lu (r:Rec):FP:=(r.use,r.ids,Km r)
theorem Aqo (ops:Array Oper)(rs:List Rec):Jw ops (rs.map Lu)=Hg ops rs:=by
 unfold Jw Hg;congr 1;funext j;congr 1;funext i;rw[As,As];cases rs[i]? <;>cases rs[j]? <;>rfl
theorem VT.mono{ops:Array Oper}{i:Nat}{S:St}{l:List Oper}{K K':List Rec->St->Prop}(h:VT F T ops i S l K)(hk: ∀rs S',K rs S'->K' rs S'):VT F T ops i S l K':=fun he hf hl=>by
 obtain⟨rs,S',t,h2⟩:=h he hf hl
 grind
theorem Aqp (hU:Ad U)(he:Bh F T)(hX:Gf U T F.P X){ops:Array Oper}{k:SS U.D->Option α}:
  ∀(l:List Oper) (S:SS U.D) (fps:List FP) (i:Nat),WF S->Dj U T X true ops l S fps k=some r->
   VT F T ops i (S.toSt U) l (fun rs S'=> ∃S1:SS U.D,S'=S1.toSt U/\WF S1/\k S1=some r/\Jw ops (fps.reverse++rs.map Lu)=true)/\ ∀o∈l,∀d,o.dst=some d->d<X.N:=by
 intro l;induction l with
 |nil=>
  intro S fps i hw h;refine⟨ge ?_,fun o ho=>by cases ho⟩;unfold Dj at h
  grind
 |cons o l ih=>
  intro S fps i hw h;obtain⟨hd,rec,us,S1,h1,⟨hwk,hw1⟩,hS1,h3⟩:=Ahy hU he hX hw (by rfl) h;have hS1:=hS1 rfl;subst hS1;obtain⟨g1,g2⟩:=ih _ _ (i+1) hw1 h1;rw[Lj]at g1;have hfp:Lu {rec.toRec U with use:=us++rec.use}=(us++rec.use,rec.fp.2):=by
   show(us++rec.use,rec.ids,Km (rec.toRec U))=_;have:Km (rec.toRec U)=rec.upd.map (·.1)++rec.bump:=by
    show(rec.upd.map _).map _++rec.bump=_;simp_all
   rw[this];rfl
  have hK: ∀rs S',(∃S1:SS U.D,S'=S1.toSt U/\WF S1/\k S1=some r/\Jw ops (((us++rec.use,rec.fp.2)::fps).reverse++rs.map Lu)=true)->
    (∃S1:SS U.D,S'=S1.toSt U/\WF S1/\k S1=some r/\Jw ops (fps.reverse++({rec.toRec U with use:=us++rec.use}::rs).map Lu)=true):=by
   grind
  have g1:=g1.mono hK;refine⟨?_,fun o' ho=> ?_⟩
  ·rcases h3 with ⟨hg,rfl,hst⟩|⟨j,b,d,hg,hgt,⟨rfl,hv,hst⟩|⟨rfl,rfl,⟨c,hv,hne⟩|hv⟩⟩
   ·exact g0 hst hg g1
   ·exact q0 hst hg hgt hv g1
   ·exact qP hg hgt hv hne g1
   ·exact qS hg hgt hv g1
  grind
theorem Ahz{N:Nat}{l:List Oper}(h: ∀o∈l,∀d,o.dst=some d->d<N):Qj N l=true:=by
 refine Z1.2 fun o ho=> ?_
 grind
theorem W.weakF{c:Code}{S S':St}{Q:Exit->St->Prop}(h:Ao F S S')(k:W F c S' Q):W F c S Q:=fun a w hs=>k a w (h a w hs)
theorem Aqq (hU:Ad U)(he:Bh F T)(hX:Gf U T F.P X)(hN:F.N=X.N)(hm:F.P.follows .mixedOrders=true){id:Nat}{ops:Array Oper}{draw:Bool}{k:SS U.D->Option α}{Q:Exit->St->Prop}(hQ: ∀S',k S'=some r->WF S'->Q .normal (S'.toSt U))(hw:WF S)(hdn:(!draw||Ko ops)=true)
  (h:Dj U T X draw ops ops.toList S [] k=some r):W F (.region id ops draw) (S.toSt U) Q:=by
 cases draw with
 |false=>
  obtain⟨g1,g2⟩:=Aqn hU he hX hQ ops.toList S [] 0 hw h;have:=Amb (id:=id) (ops:=ops.toList) he (by grind [Ahz]) (by simpa using g1);omega
 |true=>
  obtain⟨g1,g2⟩:=Aqp hU he hX ops.toList S [] 0 hw h;have:=Ald (id:=id) (ops:=ops.toList) (Q:=Q) he (by grind [Ahz]) hm (by simp_all) (by
   refine VT.mono (K:=fun rs S'=> ∃S1:SS U.D,S'=S1.toSt U/\WF S1/\k S1=some r/\Jw ops (([]:List FP).reverse++rs.map Lu)=true) (by simpa using g1) ?_;simp_all[Aqo])
  omega
end
section
variable {U:Un} {T:Tab} {F:Fr} {S S':SS U.D} {α:Type} {r:α}
def G4 (l:List (Nat×SA U.D)):List (Nat×A):=l.map fun p=>(p.1,p.2.toA U)
theorem Aqr (H:List (Nat×Option (SB U.D)))(nv:List (Nat×Nat))(c:Nat): ∀(l:List (Nat×SA U.D)) (t:Nat),((⟨l,H,nv,c⟩:SS U.D).get t).toA U=Gb (G4 l) t:=by
 intro l;induction l with
 |nil=>intro t;rfl
 |cons x r ih=>
  intro t;obtain⟨k,v⟩:=x;rw[Aaz];show _=if t=k then v.toA U else Gb (G4 r) t
  grind
def D4:List (Nat×Option (SB U.D))->List (Nat×Blk)
 |[]=>[]
 |(k,some B)::r=>(k,B.toB U)::D4 r
 |(k,none)::r=>D4 r
def Ah0 (l:List (Nat×Option (SB U.D))):Prop:= ∀p∈l,p.2.isSome=true
theorem Aqs (e:List (Nat×SA U.D))(nv:List (Nat×Nat))(c:Nat): ∀(l:List (Nat×Option (SB U.D))) (i:Nat),Ah0 l->((⟨e,l,nv,c⟩:SS U.D).blk i).map (SB.toB U)=Fo (D4 l) i:=by
 intro l;induction l with
 |nil=>intro i _;rfl
 |cons x r ih=>
  intro i h;obtain⟨k,b⟩:=x;cases b with
  |none=>have:=h (k,none) (by simp);cases this
  |some B=>
   rw[D2];show _=if i=k then some (B.toB U)else Fo (D4 r) i
   split
   ·rfl
   ·exact ih i fun p hp=>h p (by simp[hp])
theorem Aqt: ∀a b:List (Nat×Option (SB U.D)),D4 (a++b)=D4 a++D4 b:=by
 intro a b;induction a with
 |nil=>rfl
 |cons x r ih=>
  obtain⟨k,b'⟩:=x;cases b' with
  |none=>exact ih
  |some B=>grind [D4]
theorem Sk{l:List V}(h:l.all V.closed=true)(H:Nat->Option Blk):l.map (V.can H)=l:=
 (Bf fun v hv=>Uj (Z1.1 h v hv)).trans (List.map_id _)
theorem Aa8 (hU:Ad U)(d:Bool)(t:Nat)(l:List (U.D t))(H:Nat->Option Blk):(l.map (U.eT d t)).map (fun x=>x.map (V.can H))=l.map (U.eT d t):=by
 simp_all[Sk,Ad.eT]
theorem Sl (hU:Ad U){cs:List (SV U.D)}(h:cs.all SV.shut=true):(cs.map (SV.toV U)).all V.closed=true:=by
 simp_all[Kb]
theorem Aqu (hU:Ad U)(t:Nat)(a:U.D t)(H:Nat->Option Blk):((El U t a).toA U).can H=(El U t a).toA U:=by
 have hc:=Sl hU (hU.csSh t a);unfold El;split
 ·show A.g _=A.g _;rw[Sk hc]
 ·split
  ·rename_i v e;rw[e]at hc;show A.c _=A.c _
   grind [Uj]
  ·rfl
theorem Aqv (hU:Ad U){τ:Nat->Int}(t:Nat)(a:U.D t):(El U t a).ok S τ:=by
 have hk: ∀c∈U.cs t a,c.ok S τ:=fun c hc=>Fu (Z1.1 (hU.csSh t a) c hc) (hU.cellsTag false t a c hc);unfold El;split
 ·exact hk
 ·split
  ·rename_i v e;rw[e]at hk;exact hk v (by simp)
  ·trivial
theorem Aqw{W:List TC}{w:Option (Ak U W)}{t:Nat}{l:List D0}{cs0:List (SV U.D)}{q:Ak U (Dl (.v t::l)++W)}(h:Cm U S w (.v t::l) cs0=some q):
  ∃c cs,cs0=c::cs/\ ∃a,U.fS t [c]=some a/\ ∃q',Cm U S w l cs=some q'/\q=(a,q'):=by
 cases cs0 with
 |nil=>exact absurd h (fun h=>by cases (show(none:Option (Ak U (Dl (.v t::l)++W)))=some q from h))
 |cons c cs=>
  refine⟨c,cs,rfl,?_⟩;have h:(match U.fS t [c],Cm U S w l cs with
   |some a,some q'=>some ((a,q'):U.D t×Ak U (Dl l++W))
   |_,_=>none)=some q:=h
  grind
theorem Aqx{W:List TC}{w:Option (Ak U W)}{e:Nat}{d:Bool}{l:List D0}{cs0:List (SV U.D)}{q:Ak U (Dl (.T e d::l)++W)}(h:Cm U S w (.T e d::l) cs0=some q):
  ∃(l':List (U.D e)) (cs:List (SV U.D)),cs0= .rowT e d l'::cs/\ ∃q',Cm U S w l cs=some q'/\q=(l',q'):=by
 have no:(none:Option (Ak U (Dl (.T e d::l)++W)))=some q->False:=fun h=>by cases h
 cases cs0 with
 |nil=>exact(no h).elim
 |cons c cs=>
  cases c with
  |rowT e' d' l'=>
   have h:(match d'==d,decEq e' e,Cm U S w l cs with
    |true,.isTrue h,some q'=>some ((h ▸ l',q'):List (U.D e)×Ak U (Dl l++W))
    |_,_,_=>none)=some q:=h
   cases e1:d'==d with
   |false=>grind
   |true=>
    have hd:=eq_of_beq e1;subst hd;cases e2:decEq e' e with
    |isFalse hne=>simp_all
    |isTrue he=>
     subst he;cases e3:Cm U S w l cs with
     |none=>grind
     |some q'=>rw[e1,e2,e3]at h;grind
  |_=>exact(no h).elim
theorem Aqy{W:List TC}{w:Option (Ak U W)}{id:Nat}{l:List D0}{cs0:List (SV U.D)}{q:Ak U (Dl (.O id::l)++W)}(h:Cm U S w (.O id::l) cs0=some q):
  ∃(n:Nat) (cs:List (SV U.D)) (B:SB U.D),S.blk id=some B/\cs0= .own id B.ver n::cs/\ ∃q',Cm U S w l cs=some q'/\q=(n,q'):=by
 have no:(none:Option (Ak U (Dl (.O id::l)++W)))=some q->False:=fun h=>by cases h
 cases cs0 with
 |nil=>exact(no h).elim
 |cons c cs=>
  cases c with
  |own id' ver n=>
   have h:(match S.blk id' with
    |some B=>match Nat.beq id id'&&Nat.beq ver B.ver,Cm U S w l cs with
     |true,some q'=>some ((n,q'):Nat×Ak U (Dl l++W))
     |_,_=>none
    |none=>none)=some q:=h
   split at h
   ·rename_i B e0;split at h
    ·rename_i q' e1 e3;simp only[Z4]at e1;have h1:=Bt e1.1;have h2:=Bt e1.2
     grind
    ·cases h
   ·cases h
  |_=>exact(no h).elim
theorem Aqz{id:Nat}{cl:List D0}{l:List (Nat×Ff)}{q:Ak U (Q3 ((id,.ob cl)::l))}(h:Bq U S ((id,.ob cl)::l)=some q): ∃ver cs,S.blk id=some (.box ver cs)/\Cm U S (Bq U S l) cl cs=some q:=by
 have h:(match S.blk id with
  |some (.box _ cs)=>Cm U S (Bq U S l) cl cs
  |_=>none)=some q:=h
 grind
theorem Aq0{id e:Nat}{d:Bool}{cl:List D0}{l:List (Nat×Ff)}{q:Ak U (Q3 ((id,.opn e d cl)::l))}(h:Bq U S ((id,.opn e d cl)::l)=some q): ∃ver q0 g i cs,∃l0:List (U.D e),∃q',S.blk id=some (.opn ver e d q0 l0 g i cs)/\Cm U S (Bq U S l) cl cs=some q'/\q=(l0,(i.toNat,q')):=by
 have h:(match S.blk id with
  |some (.opn _ e' d' _ l0 _ i cs)=>match d'==d,decEq e' e,Cm U S (Bq U S l) cl cs with
   |true,.isTrue h,some q=>some ((h ▸ l0,(i.toNat,q)):List (U.D e)×Nat×Ak U (Dl cl++Q3 l))
   |_,_,_=>none
  |_=>none)=some q:=h
 split at h
 ·rename_i ver e' d' q0 l0 g i cs hB;cases e1:d'==d with
  |false=>grind
  |true=>
   have hd:=eq_of_beq e1;subst hd;cases e2:decEq e' e with
   |isFalse hne=>simp_all
   |isTrue he=>
    subst he;cases e3:Cm U S (Bq U S l) cl cs with
    |none=>grind
    |some q'=>rw[e1,e2,e3]at h;grind
 ·cases h
theorem Aq1{id:Nat}{cl:List D0}{l:List (Nat×Ff)}{q:Ak U (Q3 ((id,.box cl)::l))}(h:Bq U S ((id,.box cl)::l)=some q): ∃ver cs,S.blk id=some (.box ver cs)/\Cm U S (Bq U S l) cl cs=some q:=by
 have h:(match S.blk id with
  |some (.box _ cs)=>Cm U S (Bq U S l) cl cs
  |_=>none)=some q:=h
 grind
theorem Aq2{id t:Nat}{m:Bool}{l:List (Nat×Ff)}{q:Ak U (Q3 ((id,.st t m)::l))}(h:Bq U S ((id,.st t m)::l)=some q): ∃ver cs a q',S.blk id=some (.box ver cs)/\U.fO t m cs=some a/\Bq U S l=some q'/\q=(a,q'):=by
 have h:(match S.blk id with
  |some (.box _ cs)=>match U.fO t m cs,Bq U S l with
   |some a,some q=>some ((a,q):U.D t×Ak U (Q3 l))
   |_,_=>none
  |_=>none)=some q:=h
 grind
theorem Aq3{id n e:Nat}{l:List (Nat×Ff)}{q:Ak U (Q3 ((id,.arr n e)::l))}(h:Bq U S ((id,.arr n e)::l)=some q): ∃ver,∃l':List (U.D e),∃q',S.blk id=some (.arr ver n e l')/\Bq U S l=some q'/\q=(l',q'):=by
 have h:(match S.blk id with
  |some (.arr _ n' e' l')=>match Nat.beq n n',decEq e' e,Bq U S l with
   |true,.isTrue h,some q=>some ((h ▸ l',q):List (U.D e)×Ak U (Q3 l))
   |_,_,_=>none
  |_=>none)=some q:=h
 split at h
 ·rename_i ver n' e' l' hB;cases e1:Nat.beq n n' with
  |false=>grind
  |true=>
   have hn:=Bt e1;subst hn;cases e2:decEq e' e with
   |isFalse hne=>simp_all
   |isTrue he=>
    subst he;cases e3:Bq U S l with
    |none=>grind
    |some q'=>rw[e1,e2,e3]at h;grind
 ·cases h
theorem Aq4{id e:Nat}{d:Bool}{l:List (Nat×Ff)}{q:Ak U (Q3 ((id,.rws e d)::l))}(h:Bq U S ((id,.rws e d)::l)=some q): ∃ver c,∃l':List (U.D e),∃q',S.blk id=some (.rows ver e d c l')/\Bq U S l=some q'/\q=(l',q'):=by
 have h:(match S.blk id with
  |some (.rows _ e' d' _ l')=>match d'==d,decEq e' e,Bq U S l with
   |true,.isTrue h,some q=>some ((h ▸ l',q):List (U.D e)×Ak U (Q3 l))
   |_,_,_=>none
  |_=>none)=some q:=h
 split at h
 ·rename_i ver e' d' c l' hB;cases e1:d'==d with
  |false=>grind
  |true=>
   have hd:=eq_of_beq e1;subst hd;cases e2:decEq e' e with
   |isFalse hne=>simp_all
   |isTrue he=>
    subst he;cases e3:Bq U S l with
    |none=>grind
    |some q'=>rw[e1,e2,e3]at h;grind
 ·cases h
theorem Aq5{W:List TC}{w:Option (Ak U W)}{x t:Nat}{l:List (Nat×Sh)}{q:Ak U (Q8 W ((x,.v t)::l))}(h:B5 U S w ((x,.v t)::l)=some q): ∃a q',K6 U t (S.get x)=some a/\B5 U S w l=some q'/\q=(a,q'):=by
 have h:(match K6 U t (S.get x),B5 U S w l with
  |some a,some q=>some ((a,q):U.D t×Ak U (Q8 W l))
  |_,_=>none)=some q:=h
 grind
theorem Aq6{W:List TC}{w:Option (Ak U W)}{x id0 e:Nat}{d:Bool}{l:List (Nat×Sh)}{q:Ak U (Q8 W ((x,.o id0 e d)::l))}(h:B5 U S w ((x,.o id0 e d)::l)=some q):
  ∃ver n c,∃l':List (U.D e),∃q',S.get x= .c (.own id0 ver n)/\S.blk id0=some (.rows ver e d c l')/\B5 U S w l=some q'/\q=(l',q'):=by
 have h:(match S.get x with
  | .c (.own id ver n)=>match S.blk id with
   |some (.rows ver' e' d' _ l')=>match Nat.beq ver ver'&&Nat.beq id id0&&(d'==d),decEq e' e,B5 U S w l with
    |true,.isTrue h,some q=>some ((h ▸ l',q):List (U.D e)×Ak U (Q8 W l))
    |_,_,_=>none
   |_=>none
  |_=>none)=some q:=h
 split at h
 ·rename_i id ver n ev;split at h
  ·rename_i ver' e' d' c l' hB;cases e1:(Nat.beq ver ver'&&Nat.beq id id0&&(d'==d))with
   |false=>grind
   |true=>
    cases e2:decEq e' e with
    |isFalse hne=>simp_all
    |isTrue he=>
     subst he;cases e3:B5 U S w l with
     |none=>grind
     |some q'=>
      rw[e1,e2,e3]at h;simp only[Z4]at e1;have h1:=Bt e1.1.1;have h2:=Bt e1.1.2
      grind
  ·cases h
 ·cases h
theorem Aq7{W:List TC}{w:Option (Ak U W)}{x id:Nat}{l:List (Nat×Sh)}{q:Ak U (Q8 W ((x,.p id)::l))}(h:B5 U S w ((x,.p id)::l)=some q):
  ∃B,S.get x= .c (.ptr id B.ver 0)/\S.blk id=some B/\B5 U S w l=some q:=by
 have h:(match S.get x with
  | .c (.ptr id' ver 0)=>match S.blk id with
   |some B=>match Nat.beq id id'&&Nat.beq ver B.ver,B5 U S w l with
    |true,some q=>some (q:Ak U (Q8 W l))
    |_,_=>none
   |none=>none
  |_=>none)=some q:=h
 split at h
 ·rename_i id' ver ev;split at h
  ·rename_i B hB;split at h
   ·rename_i q' e1 e2;simp only[Z4]at e1;have h1:=Bt e1.1;have h2:=Bt e1.2;subst h1;subst h2;exact⟨B,ev,hB,e2.trans h⟩
   ·cases h
  ·cases h
 ·cases h
theorem Aq8{W:List TC}{w:Option (Ak U W)}: ∀(ts:List Nat) (rs:List (Σ t,U.D t)) {q:Ak U (Jx ts W)},Nn U w ts rs=some q->w=some (Eb U W ts q).2/\rs=(Eb U W ts q).1:=by
 intro ts;induction ts with
 |nil=>
  intro rs q h;cases rs with
  |nil=>exact⟨h,rfl⟩
  |cons z r=>cases h
 |cons t ts ih=>
  intro rs q h;cases rs with
  |nil=>cases h
  |cons z r=>
   obtain⟨t',x⟩:=z;have h:(match decEq t' t,Nn U w ts r with
    | .isTrue h,some q=>some ((h ▸ x,q):U.D t×Ak U (Jx ts W))
    |_,_=>none)=some q:=h
   split at h
   ·rename_i e q' e1 e2;subst e;cases h;obtain⟨k1,k2⟩:=ih r e2;simp_all[Eb]
   ·cases h
theorem Aq9{W:List TC}{w:Option (Ak U W)}{x t:Nat}{l:List (Nat×Sh)}{q:Ak U (Q8 W ((x,.r t)::l))}(h:B5 U S w ((x,.r t)::l)=some q): ∃(a:U.D t) (q':Ak U (Q8 W l)),S.get x= .c (.ptrB t a 0)/\B5 U S w l=some q'/\q=(a,q'):=by
 have h:(match S.get x with
  | .c (.ptrB t' a 0)=>match decEq t' t,B5 U S w l with
   | .isTrue h,some q=>some ((h ▸ a,q):U.D t×Ak U (Q8 W l))
   |_,_=>none
  |_=>none)=some q:=h
 split at h
 ·rename_i t' a ev;split at h
  all_goals grind
 ·cases h
theorem Ara{W:List TC}{w:Option (Ak U W)}{x fid:Nat}{caps ts:List Nat}{l:List (Nat×Sh)}{q:Ak U (Q8 W ((x,.f fid caps ts)::l))}(h:B5 U S w ((x,.f fid caps ts)::l)=some q):
  S.get x= .c (.fn fid (caps.map fun i=>(i,match S.blk i with|some B=>B.ver|none=>0)) (Eb U (Q8 W l) ts q).1)/\(∀i∈caps,∃B,S.blk i=some B)/\B5 U S w l=some (Eb U (Q8 W l) ts q).2:=by
 have h:(match S.get x with
  | .c (.fn f cs rs)=>match Nat.beq f fid&&decide (cs=caps.map fun i=>(i,match S.blk i with|some B=>B.ver|none=>0))&&caps.all (fun i=>(S.blk i).isSome)with
   |true=>Nn U (B5 U S w l) ts rs
   |false=>(none:Option (Ak U (Jx ts (Q8 W l))))
  |_=>none)=some q:=h
 split at h
 ·rename_i f cs rs ev;split at h
  ·rename_i e1;simp only[Z4,decide_eq_true_eq]at e1;have h1:=Bt e1.1.1;subst h1;obtain⟨k1,k2⟩:=Aq8 ts rs h;refine⟨by grind,fun i hi=> ?_,k1⟩;have:=Z1.1 e1.2 i hi;cases hB:S.blk i with
   |none=>grind
   |some B=>grind
  ·cases h
 ·cases h
theorem Arb{W:List TC}{w:Option (Ak U W)}{x:Nat}{v:Bool}{l:List (Nat×Sh)}{q:Ak U (Q8 W ((x,.b v)::l))}(h:B5 U S w ((x,.b v)::l)=some q):
  S.get x= .c (.bool v)/\B5 U S w l=some q:=by
 have h:(match S.get x with
  | .c (.bool v')=>match v==v',B5 U S w l with
   |true,some q=>some (q:Ak U (Q8 W l))
   |_,_=>none
  |_=>none)=some q:=h
 split at h
 ·rename_i v' ev;split at h
  ·rename_i q' e1 e2;have e1:=eq_of_beq e1;subst e1;exact⟨ev,e2.trans h⟩
  ·cases h
 ·cases h
def Ah1 (S:SS U.D)(c:SV U.D):Prop:=(c.shut=true/\Fc c=true)\/ ∃id n B,c= .own id 0 n/\S.blk id=some B/\n=B.len
theorem Aa9 (hU:Ad U){τ:Nat->Int}{W:List TC}{w:Option (Ak U W)}: ∀(l:List D0) (cs:List (SV U.D)) {q:Ak U (Dl l++W)},(∀c∈cs,c.ok S τ)->Cm U S w l cs=some q->
  (Ca U W l q).1.map (SV.toV U)=(cs.map (SV.toV U)).map (V.can (S.toSt U).H)/\w=some (Ca U W l q).2/\(∀c∈(Ca U W l q).1,Ah1 S c):=by
 intro l;induction l with
 |nil=>
  intro cs q _ h;cases cs with
  |nil=>exact⟨rfl,h,by intro c hc;cases hc⟩
  |cons x r=>cases h
 |cons x l ih=>
  intro cs q hok h;cases x with
  |v t=>
   obtain⟨c,cs,rfl,a,e1,q',e2,rfl⟩:=Aqw h;obtain⟨g1,g2,g3⟩:=ih cs (fun c hc=>hok c (by simp[hc])) e2;have h1:=hU.fS t _ a e1;have hsh:=hU.csSh t a;have htg: ∀c∈U.cs t a,Fc c=true:=hU.cellsTag false t a;have hone:(Jy U t a).toV U=c.toV U/\(Jy U t a).shut=true/\Fc (Jy U t a)=true:=by
    rw[<-hU.cs t a]at h1;unfold Jy;generalize U.cs t a=l0 at h1 hsh htg ⊢;cases l0 with
    |nil=>cases h1
    |cons v l0=>
     simp_all
   refine⟨?_,g2,fun c' hc'=> ?_⟩
   ·show((Jy U t a)::(Ca U W l q').1).map (SV.toV U)=_;rw[Z8,Z8,Z8,g1,<-hone.1,Uj (Kb hU hone.2.1)]
   ·have hc':c'=Jy U t a\/c'∈(Ca U W l q').1:=Ax.1 hc';rcases hc' with rfl|hc'
    ·exact .inl hone.2
    grind
  |T e d=>
   obtain⟨l',cs',rfl,q',e3,rfl⟩:=Aqx h;obtain⟨g1,g2,g3⟩:=ih cs' (fun c hc=>hok c (by simp[hc])) e3;refine⟨?_,g2,fun c' hc'=> ?_⟩
   ·show((SV.rowT e d l')::(Ca U W l q').1).map (SV.toV U)=_;rw[Z8,Z8,Z8,g1];rfl
   ·have hc':c'= .rowT e d l'\/c'∈(Ca U W l q').1:=Ax.1 hc';rcases hc' with rfl|hc'
    ·exact .inl ⟨rfl,rfl⟩
    grind
  |O id=>
   obtain⟨n,cs',B,hB,rfl,q',e3,rfl⟩:=Aqy h;obtain⟨g1,g2,g3⟩:=ih cs' (fun c hc=>hok c (by simp[hc])) e3;have hn:n=B.len:=(hok (.own id B.ver n) (by simp)).2 B hB rfl;refine⟨?_,g2,fun c' hc'=> ?_⟩
   ·show((SV.own id 0 n)::(Ca U W l q').1).map (SV.toV U)=_;rw[Z8,Z8,Z8,g1];congr 1;show V.own id 0 0 n=V.can1 (S.toSt U).H (.own id B.ver 0 n);simp_all[V.can1,J9,Am]
   ·have hc':c'= .own id 0 n\/c'∈(Ca U W l q').1:=Ax.1 hc';rcases hc' with rfl|hc'
    ·exact .inr ⟨id,n,B,rfl,hB,hn⟩
    grind
def Aba (S:SS U.D)(l:List (Nat×Option (SB U.D))):Prop:= ∀p∈l,∃B B',p.2=some B'/\S.blk p.1=some B/\B.len=B'.len/\B'.ver=0/\ ∀(S2:SS U.D) (τ:Nat->Int),(∀c,Ah1 S c->c.ok S2 τ)->B'.ok S2 τ
theorem Kc{S:St}{id:Nat}{B:Blk}{l:List Nat}(h:S.H id=some B):C9 S (id::l)=(id,⟨0,B.es,B.xs.map fun x=>x.map (V.can S.H)⟩)::C9 S l:=by
 grind [C9]
theorem Arc (hU:Ad U){τ:Nat->Int}(hw:Ae S τ): ∀(l:List (Nat×Ff)) {q:Ak U (Q3 l)},Bq U S l=some q->D4 (Ct U l q)=C9 (S.toSt U) (l.map (·.1))/\Aba S (Ct U l q):=by
 intro l;induction l with
 |nil=>intro q h;exact⟨rfl,by intro p hp;cases hp⟩
 |cons x l ih=>
  intro q h;obtain⟨id,b⟩:=x;cases b with
  |box cl=>
   obtain⟨ver,cs,hB,h⟩:=Aq1 h;obtain⟨g1,g2,g3⟩:=Aa9 hU cl cs (hw.2.2 id _ hB).2 h;obtain⟨k1,k2⟩:=ih g2;have hlen:(Ca U (Q3 l) cl q).1.length=cs.length:=by
    have:=congrArg List.length g1
    grind
   refine⟨?_,fun p hp=> ?_⟩
   ·simp_all[Kc,Am,SB.toB,D4,Ct]
   ·have hp:p=(id,some (.box 0 (Ca U (Q3 l) cl q).1))\/p∈Ct U l (Ca U (Q3 l) cl q).2:=Ax.1 hp;rcases hp with rfl|hp
    ·exact⟨_,_,rfl,hB,rfl,rfl,fun S2 τ hF c hc=>hF c (g3 c hc)⟩
    ·exact k2 p hp
  |st t m=>
   obtain⟨ver,cs,a,q',hB,e1,e2,rfl⟩:=Aq2 h;obtain⟨k1,k2⟩:=ih e2;have h1:=hU.fO t m cs a e1;have hlen:(U.cO t m a).length=cs.length:=by
    have:=congrArg List.length h1
    grind
   have hsh:=hU.shut t m a;refine⟨?_,fun p hp=> ?_⟩
   ·rw[Z8,Kc (Am hB)];show(id,(SB.box 0 (U.cO t m a)).toB U)::D4 (Ct U l q')=_
    grind [SB.toB,Sk,Sl]
   ·have hp:p=(id,some (.box 0 (U.cO t m a)))\/p∈Ct U l q':=Ax.1 hp;rcases hp with rfl|hp
    ·exact⟨_,_,rfl,hB,rfl,rfl,fun S2 τ _ c hc=>Fu (Z1.1 hsh c hc) (Z1.1 (hU.tagO t m a) c hc)⟩
    ·exact k2 p hp
  |arr n e=>
   obtain⟨ver,l',q',hB,e3,rfl⟩:=Aq3 h;obtain⟨k1,k2⟩:=ih e3;refine⟨?_,fun p hp=> ?_⟩
   ·rw[Z8,Kc (Am hB)];show(id,(SB.arr 0 n e l').toB U)::D4 (Ct U l q')=_;rw[k1];simp only[SB.toB];congr 3;simp only[Z8,De];rw[Sk];refine Z1.2 fun v hv=> ?_;obtain⟨x,h1,h2⟩:=List.mem_flatten.1 hv;obtain⟨a,_,rfl⟩:=A8.1 h1;exact Z1.1 ((hU.en e).closed a) v h2
   ·have hp:p=(id,some (.arr 0 n e l'))\/p∈Ct U l q':=Ax.1 hp;rcases hp with rfl|hp
    ·exact⟨_,_,rfl,hB,rfl,rfl,fun S2 τ _=>trivial⟩
    ·exact k2 p hp
  |rws e d=>
   obtain⟨ver,c,l',q',hB,e3,rfl⟩:=Aq4 h;obtain⟨k1,k2⟩:=ih e3;refine⟨?_,fun p hp=> ?_⟩
   ·rw[Z8,Kc (Am hB)]
    grind [SB.toB,D4,Ct,Aa8]
   ·have hp:p=(id,some (.rows 0 e d false l'))\/p∈Ct U l q':=Ax.1 hp;rcases hp with rfl|hp
    ·exact⟨_,_,rfl,hB,rfl,rfl,fun S2 τ _=>trivial⟩
    ·exact k2 p hp
  |ob cl=>
   obtain⟨ver,cs,hB,h⟩:=Aqz h;obtain⟨g1,g2,g3⟩:=Aa9 hU cl cs (hw.2.2 id _ hB).2 h;obtain⟨k1,k2⟩:=ih g2;have hlen:(Ca U (Q3 l) cl q).1.length=cs.length:=by
    have:=congrArg List.length g1
    grind
   refine⟨?_,fun p hp=> ?_⟩
   ·simp_all[Kc,Am,SB.toB,D4,Ct]
   ·have hp:p=(id,some (.box 0 (Ca U (Q3 l) cl q).1))\/p∈Ct U l (Ca U (Q3 l) cl q).2:=Ax.1 hp;rcases hp with rfl|hp
    ·exact⟨_,_,rfl,hB,rfl,rfl,fun S2 τ hF c hc=>hF c (g3 c hc)⟩
    ·exact k2 p hp
  |opn e d cl=>
   obtain⟨ver,q0,g,i,cs,l0,q',hB,hx,rfl⟩:=Aq0 h;obtain⟨hi,_,hcs,hcl,_⟩:=(hw.2.2 id _ hB).2;obtain⟨g1,g2,g3⟩:=Aa9 hU cl cs hcs hx;obtain⟨k1,k2⟩:=ih g2;have hlen:(Ca U (Q3 l) cl q').1.length=cs.length:=by
    have:=congrArg List.length g1
    grind
   have hii:((i.toNat:Nat):Int)=i:=Int.toNat_of_nonneg hi.1;refine⟨?_,fun p hp=> ?_⟩
   ·rw[Z8,Kc (Am hB)];show(id,(SB.opn 0 e d true l0 0 (i.toNat:Int) (Ca U (Q3 l) cl q').1).toB U)::D4 (Ct U l (Ca U (Q3 l) cl q').2)=_
    grind [SB.toB,List.map_set,Aa8]
   ·have hp:p=(id,some (.opn 0 e d true l0 0 (i.toNat:Int) (Ca U (Q3 l) cl q').1))\/p∈Ct U l (Ca U (Q3 l) cl q').2:=Ax.1 hp;rcases hp with rfl|hp
    ·exact⟨_,_,rfl,hB,rfl,rfl,fun S2 τ hF=>⟨by omega,fun h=>absurd rfl h,fun c hc=>hF c (g3 c hc),by omega,fun h=>by cases h⟩⟩
    ·exact k2 p hp
def N7:List (Nat×Sh)->List Nat
 |[]=>[]
 |(x,.o id _ _)::r=>id::N7 r
 |_::r=>N7 r
def Ard (S:SS U.D)(l:List (Nat×SA U.D)):Prop:= ∀p∈l,(∀(S2:SS U.D) (τ:Nat->Int),p.2.ok S2 τ)\/ ∃id n B,p.2= .c (.own id 0 n)/\S.blk id=some B/\n=B.len
theorem Are (hU:Ad U){τ:Nat->Int}(hw:Ae S τ){W:List TC}{w:Option (Ak U W)}: ∀(l:List (Nat×Sh)) {q:Ak U (Q8 W l)},B5 U S w l=some q->
  G4 (Ba U W l q).1=Gm (S.toSt U) (l.map (·.1))/\D4 (Ba U W l q).2.1=C9 (S.toSt U) (N7 l)/\w=some (Ba U W l q).2.2/\Ard S (Ba U W l q).1/\Aba S (Ba U W l q).2.1:=by
 intro l;induction l with
 |nil=>intro q h;exact⟨rfl,rfl,h,(by intro p hp;cases hp),(by intro p hp;cases hp)⟩
 |cons x l ih=>
  intro q h;obtain⟨x,sh⟩:=x;cases sh with
  |v t=>
   obtain⟨a,q',e1,e2,rfl⟩:=Aq5 h;obtain⟨g1,g2,g3,g4,g5⟩:=ih e2;refine⟨?_,g2,g3,fun p hp=> ?_,g5⟩
   ·show(x,(El U t a).toA U)::G4 (Ba U W l q').1=(x,((S.get x).toA U).can (S.toSt U).H)::_
    grind [Agv,Aqu]
   ·have hp:p=(x,El U t a)\/p∈(Ba U W l q').1:=Ax.1 hp;rcases hp with rfl|hp
    ·grind [Aqv]
    ·exact g4 p hp
  |o id0 e d=>
   obtain⟨ver,n,c,l',q',ev,hB,e3,rfl⟩:=Aq6 h;obtain⟨g1,g2,g3,g4,g5⟩:=ih e3;have hv:=hw.get x;rw[ev]at hv;have hn:n=l'.length:=hv.2 _ hB rfl;refine⟨?_,?_,g3,fun p hp=> ?_,fun p hp=> ?_⟩
   ·show(x,A.c (.own id0 0 0 l'.length))::G4 (Ba U W l q').1=(x,((S.get x).toA U).can (S.toSt U).H)::_;rw[g1,ev];show _=(x,A.c (V.can1 (S.toSt U).H (.own id0 ver 0 n)))::_;simp_all[V.can1,SB.toB,Am]
   ·show(id0,(SB.rows 0 e d false l').toB U)::D4 (Ba U W l q').2.1=C9 _ (id0::N7 l);rw[Kc (Am hB),g2]
    grind [SB.toB,Aa8]
   ·have hp:p=(x,.c (.own id0 0 l'.length))\/p∈(Ba U W l q').1:=Ax.1 hp;rcases hp with rfl|hp
    ·exact .inr ⟨_,_,_,rfl,hB,rfl⟩
    ·exact g4 p hp
   ·have hp:p=(id0,some (.rows 0 e d false l'))\/p∈(Ba U W l q').2.1:=Ax.1 hp;rcases hp with rfl|hp
    ·exact⟨_,_,rfl,hB,rfl,rfl,fun S2 τ _=>trivial⟩
    ·exact g5 p hp
  |p id=>
   obtain⟨B,ev,hB,e2⟩:=Aq7 h;obtain⟨g1,g2,g3,g4,g5⟩:=ih e2;refine⟨?_,g2,g3,fun p hp=> ?_,g5⟩
   ·show(x,A.c (.ptr id 0 0 0))::G4 (Ba U W l q).1=(x,((S.get x).toA U).can (S.toSt U).H)::_;rw[g1,ev];show _=(x,A.c (V.can1 (S.toSt U).H (.ptr id B.ver 0 0)))::_;simp_all[V.can1,J9,Am]
   ·have hp:p=(x,.c (.ptr id 0 0))\/p∈(Ba U W l q).1:=Ax.1 hp;rcases hp with rfl|hp
    ·exact .inl fun S2 τ=>trivial
    ·exact g4 p hp
  |r t=>
   obtain⟨a,q',ev,e2,rfl⟩:=Aq9 h;obtain⟨g1,g2,g3,g4,g5⟩:=ih e2;refine⟨?_,g2,g3,fun p hp=> ?_,g5⟩
   ·show(x,A.c (.ip (U.sz t) [U.en t a] 0 0))::G4 (Ba U W l q').1=(x,((S.get x).toA U).can (S.toSt U).H)::_;rw[g1,ev];rfl
   ·have hp:p=(x,.c (.ptrB t a 0))\/p∈(Ba U W l q').1:=Ax.1 hp;rcases hp with rfl|hp
    ·exact .inl fun S2 τ=>trivial
    ·exact g4 p hp
  |f fid caps ts=>
   obtain⟨ev,hall,e2⟩:=Ara h;obtain⟨g1,g2,g3,g4,g5⟩:=ih e2;have hq:Ba U W ((x,.f fid caps ts)::l) q=((x,.c (.fn fid (caps.map fun i=>(i,0)) (Eb U (Q8 W l) ts q).1))::(Ba U W l (Eb U (Q8 W l) ts q).2).1,(Ba U W l (Eb U (Q8 W l) ts q).2).2.1,(Ba U W l (Eb U (Q8 W l) ts q).2).2.2):=rfl;rw[hq];refine⟨?_,g2,g3,fun p hp=> ?_,g5⟩
   ·show(x,A.c (.fn fid (((caps.map fun i=>(i,0)).map fun c=>V.ptr c.1 c.2 0 0)++(Eb U (Q8 W l) ts q).1.map fun z=>V.ip (U.sz z.1) [U.en z.1 z.2] 0 0)))::G4 (Ba U W l (Eb U (Q8 W l) ts q).2).1=(x,((S.get x).toA U).can (S.toSt U).H)::_;rw[g1,ev];show _=(x,A.c (V.fn fid ((((caps.map fun i=>(i,match S.blk i with|some B=>B.ver|none=>0)).map fun c=>V.ptr c.1 c.2 0 0)++(Eb U (Q8 W l) ts q).1.map fun z=>V.ip (U.sz z.1) [U.en z.1 z.2] 0 0).map (V.can1 (S.toSt U).H))))::_
    rw[Er,Ar,Ar,Ar,Ar];congr 4;congr 1;refine Bf fun i hi=> ?_;obtain⟨B,hB⟩:=hall i hi
    simp_all[V.can1,J9,Am]
   ·have hp:p=(x,.c (.fn fid (caps.map fun i=>(i,0)) (Eb U (Q8 W l) ts q).1))\/p∈(Ba U W l (Eb U (Q8 W l) ts q).2).1:=Ax.1 hp;rcases hp with rfl|hp
    ·exact .inl fun S2 τ=>trivial
    ·exact g4 p hp
  |b v=>
   obtain⟨ev,e2⟩:=Arb h;obtain⟨g1,g2,g3,g4,g5⟩:=ih e2;refine⟨?_,g2,g3,fun p hp=> ?_,g5⟩
   ·show(x,A.c (.bool v))::G4 (Ba U W l q).1=(x,((S.get x).toA U).can (S.toSt U).H)::_;rw[g1,ev];rfl
   ·have hp:p=(x,.c (.bool v))\/p∈(Ba U W l q).1:=Ax.1 hp;rcases hp with rfl|hp
    ·exact .inl fun S2 τ=>trivial
    ·exact g4 p hp
theorem Sm{β:Type}: ∀ {l:List (Nat×β)} {n:Nat} {v:β},lk l n=some v->(n,v)∈l:=by
 intro l;induction l with
 |nil=>intro n v h;cases h
 |cons x r ih=>
  grind [D1]
theorem Arf (hU:Ad U)(hw:WF S){s:E7}{q:Ak U s.codes}(h:s.ext U S=some q):Ao F (S.toSt U) ((s.emb U q).toSt U)/\WF (s.emb U q):=by
 obtain⟨τ,hw⟩:=hw;obtain⟨g1,g2,g3,g4,g5⟩:=Are hU hw s.e h;obtain⟨k1,k2⟩:=Arc hU hw s.b g3;have hfrom:Aba S ((Ba U (Q3 s.b) s.e q).2.1++Ct U s.b (Ba U (Q3 s.b) s.e q).2.2):=by
  intro p hp;rcases C5.1 hp with hp|hp
  ·exact g5 p hp
  ·exact k2 p hp
 have hsome:Ah0 ((Ba U (Q3 s.b) s.e q).2.1++Ct U s.b (Ba U (Q3 s.b) s.e q).2.2):=fun p hp=>by
  obtain⟨B,B',e,_⟩:=hfrom p hp
  grind
 have hst:StL (Gm (S.toSt U) (s.e.map (·.1))) (C9 (S.toSt U) (N7 s.e++s.b.map (·.1)))=(s.emb U q).toSt U:=by
  refine St.Sim.eq ⟨fun t=> ?_,fun i=> ?_,fun i=>rfl⟩
  ·show Gb _ t=_;rw[<-g1];exact(Aqr _ _ _ _ t).symm
  ·show Fo _ i=_;rw[Al2,<-g2,<-k1,<-Aqt];exact(Aqs _ _ _ _ i hsome).symm
 refine⟨?_,fun g=>((g - 2) / 2:Nat),fun n=>by simp,fun t v ht=> ?_,fun id B hB=> ?_⟩
 ·rintro a w ⟨hd,hsz,σ,β,hs⟩;exact⟨hd,hsz,σ,β,Ac.cast hst (hs.can _ _)⟩
 ·have hm:=Sm ht;rcases g4 _ hm with h1|⟨id,n,B,h1,h2,h3⟩
  ·grind
  ·have h1:v= .c (.own id 0 n):=h1;subst h1;refine⟨Nat.zero_lt_one,fun C hC _=> ?_⟩;simp only[SS.blk]at hC;split at hC
   ·rename_i b hb;subst hC;obtain⟨B2,B2',q1,q2,q3,_⟩:=hfrom _ (Sm hb)
    grind
   grind
 ·simp only[SS.blk]at hB;split at hB
  ·rename_i b hb;subst hB;obtain⟨B2,B2',q1,q2,q3,q4,q5⟩:=hfrom _ (Sm hb);cases q1;refine⟨by rw[q4];exact Nat.zero_lt_one,q5 _ _ fun c hc=> ?_⟩;rcases hc with hc|⟨id',n,B',rfl,h2,h3⟩
   ·exact Fu hc.1 hc.2
   ·refine⟨Nat.zero_lt_one,fun C hC _=> ?_⟩;simp only[SS.blk]at hC;split at hC
    ·rename_i b hb';subst hC;obtain⟨B3,B3',r1,r2,r3,_⟩:=hfrom _ (Sm hb')
     grind
    grind
  grind
theorem Ah2 (hU:Ad U)(he:Bh F T)(hw:WF S){s:E7}{f:Ak U s.codes->Option α}(h:arr U T s f S=some r): ∃q,f q=some r/\Ao F (S.toSt U) ((s.emb U q).toSt U)/\WF (s.emb U q):=by
 unfold arr at h;obtain⟨S1,h1,h2,h3⟩:=Sj hU he _ hw h;obtain⟨q,h4,h5⟩:=Option.bind_eq_some_iff.1 h1
 grind [Arf,Ao.trans]
end
def Hz:List Bool->Nat->Nat
 |[],p=>p
 |false::r,p=>Hz r (2*p)
 |true::r,p=>Hz r (2*p+1)
theorem Arg: ∀(n m p:Nat) (acc:List Bool),p<=n->p<=m->Em n p acc=Em m p acc:=by
 intro n;induction n with
 |zero=>
  intro m p acc h1 _;have:p=0:=by omega
  subst this;cases m<;>rfl
 |succ n ih=>
  intro m p acc h1 h2;cases m with
  |zero=>
   grind
  |succ m=>
   simp only[Em]
   grind
theorem Arh: ∀(n p:Nat) (acc:List Bool),Em n p acc=Em n p []++acc:=by
 intro n;induction n with
 |zero=>intro p acc;rfl
 |succ n ih=>
  grind [Em]
theorem Ari{p:Nat}(hp:1<=p)(b:Bool):Em (2*p+b.toNat) (2*p+b.toNat) []=Em p p []++[b]:=by
 have hb:b.toNat<=1:=by cases b<;>decide
 obtain⟨m,hm⟩: ∃m,2*p+b.toNat=m+1:=⟨2*p+b.toNat - 1,by omega⟩;have h1:Nat.ble (2*p+b.toNat) 1=false:=by
  cases e:Nat.ble (2*p+b.toNat) 1 with
  |false=>rfl
  |true=>have:=Az e;omega
 have h2:(2*p+b.toNat) / 2=p:=by omega
 have h3:Nat.beq ((2*p+b.toNat) % 2) 1=b:=by
  have:(2*p+b.toNat) % 2=b.toNat:=by omega
  rw[this];cases b<;>rfl
 have h4:Em (2*p+b.toNat) (2*p+b.toNat) []=Em m p [b]:=by
  grind [Em]
 rw[h4,Arh,Arg m p p [] (by omega) (Z9 _)]
theorem Arj (js:List Nat): ∀(l l2:List Bool) (p:Nat) (c:Code) (fr:List Fm),Dk js (l++l2) p c fr=(Dk js l p c fr).bind fun x=>Dk js l2 (Hz l p) x.1 x.2:=by
 intro l;induction l with
 |nil=>intro l2 p c fr;rfl
 |cons b l ih=>
  intro l2 p c fr;rw[Gh];cases c with
  |seq x y=>
   cases b with
   |false=>
    simp only[Dk,Hz];cases js.contains p<;>exact ih _ _ _ _
   |true=>exact ih _ _ _ _
  |cond x a b'=>cases b<;>exact ih _ _ _ _
  |block id x=>
   cases b with
   |false=>exact ih _ _ _ _
   |true=>rfl
  |loop x=>
   cases b with
   |false=>exact ih _ _ _ _
   |true=>rfl
  |_=>rfl
theorem Ark: ∀(n p:Nat) (acc:List Bool),p<=n->1<=p->Hz (Em n p acc) 1=Hz acc p:=by
 intro n;induction n with
 |zero=>omega
 |succ n ih=>
  intro p acc h1 h2;simp only[Em];split
  ·rename_i e;have:=Az e
   grind
  ·rename_i e;have: ¬p<=1:=fun h=>by grind [Nat.ble_eq_true_of_le]
   rw[ih (p / 2) _ (by omega) (by omega)];cases e2:Nat.beq (p % 2) 1 with
   |true=>grind [Nat.eq_of_beq_eq_true,Hz]
   |false=>
    have:p % 2≠1:=by intro h;simp_all
    grind [Hz]
variable {js:List Nat} {c0:Code}
theorem Abb{p:Nat}(hp:1<=p)(b:Bool):C3 js c0 (2*p+b.toNat)=(C3 js c0 p).bind fun x=>Dk js [b] p x.1 x.2:=by
 unfold C3;rw[Ari hp b,Arj,Ark p p [] (Z9 _) hp];rfl
theorem Sn{p:Nat}{c:Code}{fr:List Fm}(hp:1<=p)(h:C3 js c0 p=some (c,fr)):C3 js c0 (2*p)=Dk js [false] p c fr:=by
 have:=Abb (js:=js) (c0:=c0) hp false
 grind
theorem Abc{p:Nat}{c:Code}{fr:List Fm}(hp:1<=p)(h:C3 js c0 p=some (c,fr)):C3 js c0 (2*p+1)=Dk js [true] p c fr:=by
 have:=Abb (js:=js) (c0:=c0) hp true
 grind
def Ke (js:List Nat)(c0:Code):List Fm->Prop
 |[]=>True
 | .th c p::r=>1<=p/\C3 js c0 p=some (c,r)/\Ke js c0 r
 | .bl _::r=>Ke js c0 r
 | .lp _::r=>Ke js c0 r
 | .jn p::r=>(∃a b,C3 js c0 p=some (.seq a b,r))/\Ke js c0 r
def Ah3 (n:Nat)(fr:List Fm):Prop:= ∀p,Fm.lp p∈fr->p<n
theorem Ah4: ∀(p:Nat) {c:Code} {fr:List Fm},1<=p->C3 js c0 p=some (c,fr)->Ke js c0 fr/\Ah3 p fr:=by
 intro p;induction p using Nat.strongRecOn with
 |ind p ih=>
  intro c fr hp h;rcases Bj p 2 with h2|h2
  ·have:p=1:=by omega
   subst this;have:some (c0,([]:List Fm))=some (c,fr):=h;cases this;exact⟨trivial,by intro p hp;cases hp⟩
  ·obtain⟨q,b,rfl⟩: ∃q b,p=2*q+Bool.toNat b:=by
    refine⟨p / 2,Nat.beq (p % 2) 1,?_⟩;cases e:Nat.beq (p % 2) 1 with
    |true=>grind [Nat.eq_of_beq_eq_true]
    |false=>
     have:p % 2≠1:=by intro h;simp_all
     grind
   have hb:b.toNat<=1:=by cases b<;>decide
   have hq:1<=q:=by omega
   have h0:=h;rw[Abb hq b]at h;obtain⟨⟨c1,fr1⟩,h3,h4⟩:=Option.bind_eq_some_iff.1 h;obtain⟨k1,k2⟩:=ih q (by omega) hq h3;have mono:Ah3 (2*q+b.toNat) fr1:=fun p' hp'=>by have:=k2 p' hp';omega
   have h4:Dk js [b] q c1 fr1=some (c,fr):=h4;cases c1 with
   |seq x y=>
    cases b with
    |false=>
     simp only[Dk]at h4;split at h4
     ·cases h4;exact⟨⟨⟨_,_,h3⟩,k1⟩,fun p' hp'=>by
       rcases Ax.1 hp' with e|e
       ·cases e
       ·exact mono p' e⟩
     ·cases h4;refine⟨⟨by omega,?_,k1⟩,fun p' hp'=>by
       rcases Ax.1 hp' with e|e
       ·cases e
       ·exact mono p' e⟩
      rw[Abc hq h3];rfl
    |true=>cases h4;grind
   |cond x a b'=>cases b<;>(cases h4;grind)
   |block id x=>
    cases b with
    |false=>
     cases h4;exact⟨k1,fun p' hp'=>by
      rcases Ax.1 hp' with e|e
      ·cases e
      ·exact mono p' e⟩
    |true=>cases h4
   |loop x=>
    cases b with
    |false=>
     cases h4;exact⟨k1,fun p' hp'=>by
      rcases Ax.1 hp' with e|e
      ·grind
      ·exact mono p' e⟩
    |true=>cases h4
   |_=>cases h4
section
variable {U:Un} {T:Tab} {α:Type}
def BP (U:Un){α:Type}(F:Fr)(r:α)(B:List (Nat×(SS U.D->Option α)))(p:Nat)(S:St):Prop:= ∃f S1,lk B p=some f/\Ao F S (S1.toSt U)/\WF S1/\f S1=some r
def QS (U:Un){α:Type}(F:Fr)(js:List Nat)(c0:Code)(r:α)(R0:St->Prop)(B:List (Nat×(SS U.D->Option α))):List Fm->Exit->St->Prop
 |[]=>fun e S=>(e= .normal\/e= .ret)/\R0 S
 | .th c _::fr=>Exit.andThen (fun S=>W F c S (QS U F js c0 r R0 B fr)) (QS U F js c0 r R0 B fr)
 | .bl id::fr=>Exit.shutBlock id (QS U F js c0 r R0 B fr)
 | .lp p::fr=>Exit.andThen (BP U F r B p) (QS U F js c0 r R0 B fr)
 | .jn p::fr=>Exit.andThen (fun S=> ∀a b fr',C3 js c0 p=some (.seq a b,fr')->W F b S (QS U F js c0 r R0 B fr)) (QS U F js c0 r R0 B fr)
theorem Ah5{F:Fr}{r:α}{R0:St->Prop}{B B':List (Nat×(SS U.D->Option α))}: ∀(fr:List Fm),(∀p,Fm.lp p∈fr->lk B p=lk B' p)->QS U F js c0 r R0 B fr=QS U F js c0 r R0 B' fr:=by
 intro fr;induction fr with
 |nil=>intro _;rfl
 |cons x fr ih=>
  intro h;have:=ih fun p hp=>h p (by simp[hp])
  cases x with
  |th c p=>grind [QS]
  |bl id=>grind [QS]
  |lp p=>
   have h1:BP U F r B p=BP U F r B' p:=by
    funext S
    grind [BP]
   grind [QS]
  |jn p=>grind [QS]
theorem Arl{F:Fr}{r:α}{R0:St->Prop}{B:List (Nat×(SS U.D->Option α))}{S:St}(h:R0 S): ∀(fr:List Fm),QS U F js c0 r R0 B fr .ret S:=by
 intro fr;induction fr with
 |nil=>exact⟨.inr rfl,h⟩
 |cons x fr ih=>cases x<;>exact ih
def Ah6 (U:Un)(F:Fr)(js:List Nat)(c0:Code)(r:α)(R0:St->Prop)(B:List (Nat×(SS U.D->Option α)))(p:Nat)(f:SS U.D->Option α):Prop:=
 1<=p/\ ∀c fr,C3 js c0 p=some (c,fr)-> ∀S1:SS U.D,WF S1->f S1=some r->
  (∀x,c= .loop x->W F c (S1.toSt U) (QS U F js c0 r R0 B fr))/\(∀a b,c= .seq a b->W F b (S1.toSt U) (QS U F js c0 r R0 B fr))
theorem Arm (hU:Ad U){F:Fr}(he:Bh F T){X:Ox U α}(hX:Gf U T F.P X)(hN:F.N=X.N)(hm:F.P.follows .mixedOrders=true){r:α}{R0:St->Prop}(hfin: ∀S:SS U.D,WF S->X.fin S=some r->R0 (S.toSt U))
  (hcut: ∀p f,lk X.Λ p=some f->Ah6 U F X.js c0 r R0 X.Λb p f): ∀n:Nat,
  (∀c p fr (S:SS U.D),1<=p->C3 X.js c0 p=some (c,fr)->WF S->go U T X n (.code c p) S fr=some r->W F c (S.toSt U) (QS U F X.js c0 r R0 X.Λb fr))/\
  (∀fr (S:SS U.D),Ke X.js c0 fr->WF S->go U T X n .nrm S fr=some r->QS U F X.js c0 r R0 X.Λb fr .normal (S.toSt U))/\
  (∀id fr (S:SS U.D),Ke X.js c0 fr->WF S->go U T X n (.ex id) S fr=some r->QS U F X.js c0 r R0 X.Λb fr (.exit id) (S.toSt U)):=by
 intro n;induction n with
 |zero=>exact⟨(by intro _ _ _ _ _ _ _ h;cases h),(by intro _ _ _ _ h;cases h),(by intro _ _ _ _ _ h;cases h)⟩
 |succ n ih=>
  obtain⟨ihc,ihn,ihe⟩:=ih;refine⟨fun c p fr S hp hat hw h=> ?_,fun fr S hfr hw h=> ?_,fun id fr S hfr hw h=> ?_⟩
  ·obtain⟨hfr,_⟩:=Ah4 p hp hat;cases c with
   |skip=>exact Ai6 (ihn fr S hfr hw h)
   |label l=>exact Ai7 (ihn fr S hfr hw h)
   |region id ops draw=>
    have h:(match !draw||Ko ops with
     |true=>Hs U T S (fun S=>Dj U T X draw ops ops.toList S [] fun S'=>go U T X n .nrm S' fr) (lkD X.pre id)
     |false=>none)=some r:=h
    split at h
    ·rename_i hdn;obtain⟨S1,h1,h2,h3⟩:=Sj hU he _ hw h
     grind [W.weakF,Aqq]
    ·cases h
   |seq a b=>
    have h:(match X.js.contains p with
     |true=>go U T X n (.code a (2*p)) S (.jn p::fr)
     |false=>go U T X n (.code a (2*p)) S (.th b (2*p+1)::fr))=some r:=h
    have hl:=Sn hp hat;refine Aja ?_;split at h
    ·rename_i hj;have hl:C3 X.js c0 (2*p)=some (a,.jn p::fr):=by grind [Dk]
     have:=ihc a (2*p) _ S (by omega) hl hw h;refine this.mono fun e S' hq=> ?_;cases e with
     |normal=>exact hq a b fr hat
     |_=>exact hq
    ·rename_i hj;have hl:C3 X.js c0 (2*p)=some (a,.th b (2*p+1)::fr):=by grind [Dk]
     exact ihc a (2*p) _ S (by omega) hl hw h
   |cond x a b=>
    have h:(match S.val T 0 x with
     | .c (.bool e)=>bif e then go U T X n (.code a (2*p)) S fr else go U T X n (.code b (2*p+1)) S fr
     |_=>none)=some r:=h
    split at h
    ·rename_i e ev;refine Akn (b:=e) (J2 ev) ?_;cases e with
     |true=>exact ihc a (2*p) fr S (by omega) (by rw[Sn hp hat];rfl) hw h
     |false=>exact ihc b (2*p+1) fr S (by omega) (by rw[Abc hp hat];rfl) hw h
    ·cases h
   |block id c=>
    exact Ajb (ihc c (2*p) _ S (by omega) (by rw[Sn hp hat];rfl) hw h)
   |loop x=>
    have h:Gu U X.Λ p S=some r:=h;unfold Gu at h;split at h
    ·rename_i f ef;exact((hcut p f ef).2 _ _ hat S hw h).1 x rfl
    ·cases h
   |exit id=>exact Ai8 (ihe id fr S hfr hw h)
   |ret=>exact Ai9 (Arl (hfin S hw h) fr)
   |_=>cases h
  ·cases fr with
   |nil=>exact⟨.inl rfl,hfin S hw h⟩
   |cons x fr=>
    cases x with
    |th c p=>exact ihc c p fr S hfr.1 hfr.2.1 hw h
    |bl id=>exact ihn fr S hfr hw h
    |lp p=>
     have h:Gu U X.Λb p S=some r:=h;unfold Gu at h;split at h
     ·rename_i f ef;exact⟨f,S,ef,Ao.refl _,hw,h⟩
     ·cases h
    |jn p=>
     have h:Gu U X.Λ p S=some r:=h;unfold Gu at h;split at h
     ·rename_i f ef;obtain⟨⟨a,b,hat⟩,hfr⟩:=hfr;intro a' b' fr' hat';rw[hat]at hat';cases hat';exact((hcut p f ef).2 _ _ hat S hw h).2 a b rfl
     ·cases h
  ·cases fr with
   |nil=>cases h
   |cons x fr=>
    cases x with
    |th c p=>exact ihe id fr S hfr.2.2 hw h
    |bl id'=>
     replace h:(match Nat.beq id id' with
      |true=>go U T X n .nrm S fr
      |false=>go U T X n (.ex id) S fr)=some r:=h
     split at h
     ·rename_i e;have:=Bt e;subst this;exact Alp (ihn fr S hfr hw h)
     ·rename_i e;exact Alq e (ihe id fr S hfr hw h)
    |lp p=>exact ihe id fr S hfr hw h
    |jn p=>exact ihe id fr S hfr.2 hw h
end
section
variable {U:Un} {T:Tab} {S:SS U.D} {τ:Nat->Int}
theorem N8{c:TC}: ∀ {r:List TC} (x:c.T U) (y:Af U r),Af.hd U (Af.mk U x y)=x:=by
 intro r;cases r<;>(intro x y;rfl)
theorem N9{c:TC}: ∀ {r:List TC} (x:c.T U) (y:Af U r),Af.tl U (Af.mk U x y)=y:=by
 intro r;cases r with
 |nil=>intro x y;rfl
 |cons=>intro x y;rfl
theorem Ah7 (hU:Ad U){outs:List Nat}{id ver t:Nat}{d c:Bool}{l:List (U.D t)}(h:S.blk id=some (.rows ver t d c l)):Eu false outs (S.toSt U).H id=(SB.rows 0 t d false l).toB U:=by
 unfold Eu;rw[Am h];cases d with
 |true=>exact(hU.eF t).lowB_at _ _ _ _ _
 |false=>exact Go.Eng.lowB_at (hU.en t) _ _ _ _ _
theorem Arn (hU:Ad U){outs:List Nat}{W:List TC}: ∀(es:List (Nat×Bool)) (n:Nat) (w:Option (Af U W)) (q:Af U (es.map (fun e=>TC.l e.1)++W)),Nr U S es W n w=some q->
  w=some (Gt U es W q).2/\(List.range' (n+1) es.length).map (Eu false outs (S.toSt U).H)=(Gt U es W q).1.map (SB.toB U)/\ ∀i∈List.range' (n+1) es.length,((S.toSt U).H i).isSome=true:=by
 intro es;induction es with
 |nil=>intro n w q h;exact⟨h,rfl,by grind⟩
 |cons e es ih=>
  intro n w q h;obtain⟨e,d⟩:=e;unfold Nr at h;split at h
  ·rename_i ver e' d' c l q' hB hq;cases e1:d'==d with
   |false=>grind
   |true=>
    have hd:=eq_of_beq e1;subst hd;cases e2:decEq e' e with
    |isFalse hne=>simp_all
    |isTrue he=>
     subst he;rw[e1,e2]at h;have h:=F0 h;obtain⟨g1,g2,g3⟩:=ih (n+1) w q' hq;have hh:Af.hd U q=l:=by rw[<-h];exact N8 (c:= .l e') l q'
     have ht:Af.tl U q=q':=by grind [N9]
     refine⟨?_,?_,fun i hi=> ?_⟩
     ·simp_all[Gt]
     ·show _=List.map (SB.toB U) (SB.rows 0 e' d' false (Af.hd U q)::(Gt U es W (Af.tl U q)).1);rw[ht,hh,Z8,<-g2,<-Ah7 hU (outs:=outs) hB];rfl
     ·have hi:i∈(n+1)::List.range' (n+1+1) es.length:=hi;rcases Ax.1 hi with rfl|hi
      all_goals simp_all[Am]
  ·cases h
theorem Aro (hU:Ad U){outs:List Nat}: ∀(ps:List PM) (n:Nat) (q:Af U (Dh ps)),Gv U S ps n=some q->
  (List.range' (n+1) (Aw ps)).map (Eu false outs (S.toSt U).H)=(E6 U ps q).map (SB.toB U)/\ ∀i∈List.range' (n+1) (Aw ps),((S.toSt U).H i).isSome=true:=by
 intro ps;induction ps with
 |nil=>intro n q h;exact⟨rfl,by grind [Aw]⟩
 |cons p ps ih=>
  intro n q h;cases p with
  |v t=>exact ih n q h
  |r t=>exact ih n q h
  |f fid caps ts=>exact ih n q h
  |b t m=>
   have h:(match S.blk (n+1),Gv U S ps (n+1)with
    |some (.box _ cs),some q=>match U.fO t m cs with
     |some x=>some (Af.mk U (c:= .d t) x q)
     |none=>none
    |_,_=>none)=some q:=h
   split at h
   ·rename_i ver cs q' hB hq;split at h
    ·rename_i x hx;have h:=F0 h;obtain⟨g1,g2⟩:=ih (n+1) q' hq;have hh:Af.hd U q=x:=by grind [N8]
     have ht:Af.tl U q=q':=by grind [N9]
     have hc:=hU.fO t m cs x hx;have hlen:(U.cO t m x).length=cs.length:=by
      have:=congrArg List.length hc
      grind
     have hr:List.range' (n+1) (Aw (.b t m::ps))=(n+1)::List.range' (n+1+1) (Aw ps):=by
      rfl
     rw[hr];refine⟨?_,fun i hi=> ?_⟩
     ·show _=List.map (SB.toB U) (SB.box 0 (U.cO t m (Af.hd U q))::E6 U ps (Af.tl U q));rw[ht,hh,Z8,Z8,<-g1];congr 1;unfold Eu;rw[Am hB];show Blk.mk 0 cs.length [(cs.map (SV.toV U)).map _]=Blk.mk 0 _ [_];rw[hlen,hc];congr 2;refine(Bf fun v hv=> ?_).trans (List.map_id _);exact R9 (Z1.1 (Sl hU (hU.shut t m x)) v hv) _ _ _
     ·rcases Ax.1 hi with rfl|hi
      all_goals simp_all[Am]
    ·cases h
   ·cases h
  |w t m es=>
   have h:Nr U S es (Dh ps) n (Gv U S ps (n+es.length))=some q:=h;obtain⟨g1,g2,g3⟩:=Arn hU (outs:=outs) es n _ q h;obtain⟨k1,k2⟩:=ih (n+es.length) _ g1;have hr:List.range' (n+1) (Aw (.w t m es::ps))=List.range' (n+1) es.length++List.range' (n+es.length+1) (Aw ps):=by
    show List.range' (n+1) (Aw ps+es.length)=_;rw[Nat.add_comm (Aw ps),<-List.range'_append_1,Nat.add_right_comm]
   rw[hr];refine⟨?_,fun i hi=> ?_⟩
   ·simp_all[E6]
   grind
def E8 (agg:Bool)(cs:List V):A:=match agg with
 |true=> .g cs
 |false=> .c (cs.headD .undef)
theorem Arp{t sz:Nat}{agg:Bool}(h:Js T t=some (sz,agg)): ∃ti,tg T t=some ti/\ti.size=sz/\ti.k.agg=agg:=by
 unfold Js at h
 grind
theorem Ah8 (hw:Ae S τ){x:ResultVar}{agg:Bool}{cs:List (SV U.D)}(h:Jz U T S x=some (agg,cs)):
  C8 T (S.toSt U) x=some (E8 agg (cs.map (SV.toV U)))/\(∀c∈cs,c.ok S τ)/\(agg=false-> ∃v,cs=[v]):=by
 cases x with
 |tmp t=>
  have hok:=hw.get t;simp only[Jz]at h;split at h
  ·rename_i v e;cases h;rw[e]at hok;refine⟨?_,fun c hc=> ?_,fun _=>⟨_,rfl⟩⟩
   ·show some ((S.get t).toA U)=_;rw[e];rfl
   ·simp only[Dt]at hc;subst hc;exact hok
  ·rename_i cs' e;cases h;rw[e]at hok;exact⟨by show some ((S.get t).toA U)=_;rw[e];rfl,hok,fun h=>by cases h⟩
  ·cases h
 |cell a t=>
  simp only[Jz]at h;split at h
  ·rename_i id ver j sz agg' ea es;obtain⟨ti,ht,rfl,rfl⟩:=Arp es;split at h
   ·rename_i ver' cs' hB;split at h
    ·rename_i hc;cases h;simp only[Z4]at hc;obtain⟨⟨⟨h1,h2⟩,h3⟩,h4⟩:=hc;have h1:=Bt h1;subst h1;have h2:=Az h2;have hlen:(Gc cs' j ti.size).length=ti.size:=by grind [Gc]
     refine⟨?_,fun c hc=>(hw.2.2 id _ hB).2 c (List.mem_of_mem_drop (Kk hc)),fun ha=> ?_⟩
     ·have e1:(S.toSt U).env a= .c (.ptr id ver 0 j):=by show(S.get a).toA U=_;rw[ea];rfl
      have hno:(((cs'.map (SV.toV U)).drop j).take ti.size).all (fun v=> !D7 v)=true:=by
       rw[<-R3];exact Agg h3
      simp only[C8,ht,e1,Am hB,SB.toB,E9];rw[if_pos ⟨trivial,by grind,hno⟩,<-R3];unfold Dw E8;cases hk:ti.k.agg with
      |true=>rfl
      |false=>
       rw[hk]at h4;have h5:ti.size=1:=Bt (by grind);rw[h5]at hlen ⊢;generalize Gc cs' j 1=l at hlen ⊢
       match l,hlen with
       |[v],_=>rfl
     ·rw[ha]at h4;have h5:ti.size=1:=Bt (by grind);rw[h5]at hlen ⊢;generalize Gc cs' j 1=l at hlen ⊢
      match l,hlen with
      |[v],_=>grind
    ·cases h
   ·cases h
  ·cases h
theorem Arq{v:SV U.D}(h:isT v=false):(v.toV U).cold=v.toV U:=by cases v<;>first|rfl|cases h
theorem Arr{v:V}(h:v.cold.closed=true):v.closed=true:=by
 cases v with
 |row o es xs=>rfl
 |int=>rfl
 |bool=>rfl
 |str=>rfl
 |nilp=>rfl
 |_=>cases h
def E0 (outs:List Nat)(H:Nat->Option Blk)(v:V):V:=(v.low false outs H).cold
theorem Ah9{outs:List Nat}{H:Nat->Option Blk}{v:V}(h:v.closed=true):E0 outs H v=v.cold:=by grind [E0,R9]
theorem Aia{outs:List Nat}{H:Nat->Option Blk}{agg:Bool}{l:List V}:A.low false outs H (E8 agg l)=E8 agg (l.map (E0 outs H)):=by
 cases agg with
 |true=>rfl
 |false=>show A.c (E0 outs H (l.headD .undef))=A.c ((l.map (E0 outs H)).headD .undef);rw[Ag4 (E0 outs H) l .undef .undef rfl]
theorem Ars{v:SV U.D}{r cs':List (SV U.D)}{is:List Nat}(h:Fs U S (v::r)=some (cs',is)):
  (∃id ver n t d c l cs2 is2,v= .own id ver n/\S.blk id=some (.rows ver t d c l)/\Fs U S r=some (cs2,is2)/\cs'= .rowT t d l::cs2/\is=id::is2)\/(v.shut=true/\isT v=false/\ ∃cs2,Fs U S r=some (cs2,is)/\cs'=v::cs2):=by
 have other:(match v.shut&& !isT v,Fs U S r with
  |true,some (cs,ids)=>some (v::cs,ids)
  |_,_=>none)=some (cs',is)->(v.shut=true/\isT v=false/\ ∃cs2,Fs U S r=some (cs2,is)/\cs'=v::cs2):=by
  grind
 cases v with
 |own id ver n=>
  left;have h:(match S.blk id,Fs U S r with
   |some (.rows ver' t d _ l),some (cs,ids)=>match Nat.beq ver ver' with
    |true=>some (.rowT t d l::cs,id::ids)
    |false=>none
   |_,_=>none)=some (cs',is):=h
  split at h
  ·rename_i ver' t d c l cs2 is2 hB e2;split at h
   ·rename_i e3;have:=Bt e3
    grind
   ·cases h
  ·cases h
 |_=>exact .inr (other h)
theorem Art (hU:Ad U){outs:List Nat}(hnd:outs.Nodup): ∀(cs:List (SV U.D)) {cs':List (SV U.D)} {is:List Nat} (n:Nat) (cs1:List (SV U.D)),Fs U S cs=some (cs',is)->(∀c∈cs,c.ok S τ)->cs'.map (SV.toV U)=cs1.map (SV.toV U)->(∀(k id:Nat),is[k]? =some id->outs[n+k]? =some id)->
  (cs.map (SV.toV U)).map (E0 outs (S.toSt U).H)=(Q9 U n cs1).1.map (SV.toV U)/\is.map (Eu false outs (S.toSt U).H)=(Q9 U n cs1).2.map (SB.toB U)/\ ∀id∈is,((S.toSt U).H id).isSome=true:=by
 intro cs;induction cs with
 |nil=>
  intro cs' is n cs1 h _ h1 _;cases h;cases cs1 with
  |nil=>exact⟨rfl,rfl,by grind⟩
  |cons x r=>cases h1
 |cons v r ih=>
  intro cs' is n cs1 h hok h1 hat;rcases Ars h with ⟨id,ver,m,t,d,c,l,cs2,is2,rfl,hB,e2,rfl,rfl⟩|⟨hs,hT,cs2,e2,rfl⟩
  ·cases cs1 with
   |nil=>cases h1
   |cons x s=>
    simp only[Z8,Ed]at h1;obtain⟨t',d',l',rfl,hsz,hll⟩:=Agw (v:=x) h1.1.symm;obtain⟨g1,g2,g3⟩:=ih (n+1) s e2 (fun c hc=>hok c (by simp[hc])) h1.2 (fun k id' hk=>by
     have:=hat (k+1) id' (by grind)
     grind)
    have hv:=hok (.own id ver m) (by simp);have hm:m=l.length:=hv.2 _ hB rfl;have hll2:l'.length=l.length:=by
     have:=congrArg List.length hll
     grind
    have hpos:A7 outs id=some n:=Qb hnd (hat 0 id (by simp));refine⟨?_,?_,fun i hi=> ?_⟩
    ·simp only[Q9,Z8,g1,Ed,and_true];show(V.low1 false outs (S.toSt U).H (.own id ver 0 m)).cold=_;simp only[V.low1,Am hB,SB.toB,if_true,hpos,hm,hll2];rfl
    ·simp only[Q9,Z8,g2,Ed,and_true];rw[Ah7 hU hB]
     grind [SB.toB]
    ·rcases Ax.1 hi with rfl|hi
     all_goals simp_all[Am]
  ·cases cs1 with
   |nil=>cases h1
   |cons x s=>
    simp only[Z8,Ed]at h1;obtain⟨g1,g2,g3⟩:=ih n s e2 (fun c hc=>hok c (by simp[hc])) h1.2 hat;have hx:isT x=false:=by
     cases hx:isT x with
     |false=>rfl
     |true=>
      have h2:=Nw (U:=U) x;rw[<-h1.1,Nw,hT,hx]at h2;cases h2
    rw[Lq hx];refine⟨?_,g2,g3⟩;simp only[Z8,g1,Ed,and_true];rw[Ah9 (Kb hU hs),Arq hT,h1.1]
theorem Aru (cs:List (SV U.D)): ∀n m:Nat,(Q9 U n cs).2=(Q9 U m cs).2:=by
 induction cs with
 |nil=>intro n m;rfl
 |cons v r ih=>
  intro n m;by_cases hx:isT v=true
  ·cases v with
   |rowT t d l=>grind [Q9]
   |_=>cases hx
  grind [Lq]
theorem Arv{x:ResultVar}{id:Nat}{cs:List (SV U.D)}(h:Rx U S x=some (id,cs)): ∃y ver,x= .tmp y/\S.get y= .c (.ptr id ver 0)/\S.blk id=some (.box ver cs):=by
 cases x with
 |cell a t=>cases h
 |tmp y=>
  simp only[Rx]at h;split at h
  ·rename_i id' ver e;split at h
   ·rename_i ver' cs' hB;split at h
    all_goals simp_all
   ·cases h
  ·cases h
theorem Arw (hU:Ad U)(hw:Ae S τ){W:List TC}{w:Option (Af U W)}{outs:List Nat}(hnd:outs.Nodup): ∀(xs:List ResultVar) (rs:List RM) (n:Nat) {q:Af U (rs.map RM.code++W)} {ids:List Nat},Gw U T S w xs rs=some (q,ids)->(∀(k id:Nat),ids[k]? =some id->outs[n+k]? =some id)->
  ∃Cs:List (Bool×List (SV U.D)),xs.map (C8 T (S.toSt U))=Cs.map (fun c=>some (E8 c.1 (c.2.map (SV.toV U))))/\
   Cs.map (fun c=>(c.1,(c.2.map (SV.toV U)).map (E0 outs (S.toSt U).H)))=(Cl U W rs n q).1.map (fun c=>(c.1,c.2.map (SV.toV U)))/\(∀c∈Cs,c.1=false-> ∃v,c.2=[v])/\
   ids.map (Eu false outs (S.toSt U).H)=(Cl U W rs n q).2.1.map (SB.toB U)/\w=some (Cl U W rs n q).2.2/\ ∀id∈ids,((S.toSt U).H id).isSome=true:=by
 intro xs;induction xs with
 |nil=>
  intro rs n q ids h _;cases rs with
  |nil=>
   unfold Gw at h;cases hw':w with
   |none=>grind
   |some q'=>
    rw[hw']at h;cases h;exact⟨[],rfl,rfl,(by grind),rfl,rfl,(by grind)⟩
  |cons r rs=>cases r<;>cases h
 |cons x xs ih=>
  intro rs n q ids h hat;cases rs with
  |nil=>cases h
  |cons r rs=>
   cases r with
   |v t=>
    have h:(match Jz U T S x,Gw U T S w xs rs with
     |some (agg,cs),some (q,ids)=>match agg==U.ag t,U.fS t (cs.map (Ek U))with
      |true,some a=>some (Af.mk U (c:= .d t) a q,ids)
      |_,_=>none
     |_,_=>none)=some (q,ids):=h
    split at h
    ·rename_i agg cs q' ids' e1 e2;split at h
     ·rename_i a ha hf;have h:=F0 h;have hq:Af.mk U (c:= .d t) a q'=q:=congrArg Prod.fst h;have hi:ids'=ids:=congrArg Prod.snd h;subst hi;have hh:Af.hd U q=a:=by rw[<-hq];exact N8 (c:= .d t) a q'
      have ht:Af.tl U q=q':=by rw[<-hq];exact N9 (c:= .d t) a q'
      have hag:=eq_of_beq ha;obtain⟨k1,k2,k3⟩:=Ah8 hw e1;obtain⟨Cs,g1,g2,g3,g4,g5,g6⟩:=ih rs n e2 hat;have hcs:=hU.fS t _ a hf;have hout:(cs.map (SV.toV U)).map (E0 outs (S.toSt U).H)=(U.cs t a).map (SV.toV U):=by
       rw[hU.cs t a,<-hcs,Ar,Ar];refine Bf fun c hc=> ?_
       have hcl:((Ek U c).toV U).closed=true:=Z1.1 ((hU.en t).closed a) _ (by grind)
       grind [Aa5,Ah9,Arr]
      refine⟨(agg,cs)::Cs,?_,?_,?_,?_,?_,g6⟩
      ·grind
      ·simp_all[Cl]
      ·grind
      all_goals simp_all[Cl]
     ·cases h
    ·cases h
   |n t m=>
    have h:(match Jz U T S x,Gw U T S w xs rs with
     |some (agg,cs),some (q,ids)=>match Fs U S cs with
      |some (cs',is)=>match agg==U.ag t,U.fO t m cs' with
       |true,some a=>some (Af.mk U (c:= .d t) a q,is++ids)
       |_,_=>none
      |none=>none
     |_,_=>none)=some (q,ids):=h
    split at h
    ·rename_i agg cs q' ids' e1 e2;split at h
     ·rename_i cs' is e3;split at h
      ·rename_i a ha hf;have h:=F0 h;have hq:Af.mk U (c:= .d t) a q'=q:=congrArg Prod.fst h;have hi:is++ids'=ids:=congrArg Prod.snd h;subst hi;have hh:Af.hd U q=a:=by rw[<-hq];exact N8 (c:= .d t) a q'
       have ht:Af.tl U q=q':=by rw[<-hq];exact N9 (c:= .d t) a q'
       have hag:=eq_of_beq ha;obtain⟨k1,k2,k3⟩:=Ah8 hw e1;have hc:=hU.fO t m cs' a hf;obtain⟨o1,o2,o3⟩:=Art hU hnd cs n (U.cO t m a) e3 k2 hc (fun k id hk=>hat k id (by
        grind))
       have hlen:(Q9 U n (U.cO t m a)).2.length=is.length:=by
        have:=congrArg List.length o2
        grind
       obtain⟨Cs,g1,g2,g3,g4,g5,g6⟩:=ih rs (n+is.length) e2 (fun k id hk=>by
        have:=hat (is.length+k) id (by grind)
        grind)
       refine⟨(agg,cs)::Cs,?_,?_,?_,?_,?_,?_⟩
       ·grind
       ·simp_all[Cl]
       ·grind
       ·simp_all[Cl]
       ·simp_all[Cl]
       grind
      ·cases h
     ·cases h
    ·cases h
   |p t m=>
    have h:(match Rx U S x,Gw U T S w xs rs with
     |some (id,cs),some (q,ids)=>match U.fO t m cs with
      |some a=>some (Af.mk U (c:= .d t) a q,id::ids)
      |none=>none
     |_,_=>none)=some (q,ids):=h
    split at h
    ·rename_i id cs q' ids' e1 e2;split at h
     ·rename_i a hf;have h:=F0 h;have hq:Af.mk U (c:= .d t) a q'=q:=congrArg Prod.fst h;have hi:id::ids'=ids:=congrArg Prod.snd h;subst hi;have hh:Af.hd U q=a:=by rw[<-hq];exact N8 (c:= .d t) a q'
      have ht:Af.tl U q=q':=by rw[<-hq];exact N9 (c:= .d t) a q'
      obtain⟨y,ver,rfl,hy,hB⟩:=Arv e1;have hc:=hU.fO t m cs a hf;have hlen:(U.cO t m a).length=cs.length:=by
       have:=congrArg List.length hc
       grind
      have hpos:A7 outs id=some n:=Qb hnd (hat 0 id (by simp));obtain⟨Cs,g1,g2,g3,g4,g5,g6⟩:=ih rs (n+1) e2 (fun k id' hk=>by
       have:=hat (k+1) id' (by grind)
       grind)
      refine⟨(false,[.ptr id ver 0])::Cs,?_,?_,?_,?_,?_,?_⟩
      ·rw[Z8,Z8,g1];congr 1;show some ((S.get y).toA U)=_;rw[hy];rfl
      ·show _=List.map _ ((false,[SV.ptr (n+1) 0 0])::(Cl U W rs (n+1) (Af.tl U q)).1);rw[ht,Z8,Z8,g2];congr 2;show [E0 outs (S.toSt U).H (.ptr id ver 0 0)]=[V.ptr (n+1) 0 0 0];unfold E0;simp only[V.low,V.low1,Am hB,SB.toB,if_true,hpos];rfl
      ·grind
      ·show _=List.map _ (SB.box 0 (U.cO t m (Af.hd U q))::(Cl U W rs (n+1) (Af.tl U q)).2.1);rw[ht,hh,Z8,Z8,<-g4];congr 1;unfold Eu;rw[Am hB];show Blk.mk 0 cs.length [(cs.map (SV.toV U)).map _]=Blk.mk 0 _ [_];rw[hlen,hc];congr 2;refine(Bf fun v hv=> ?_).trans (List.map_id _);exact R9 (Z1.1 (Sl hU (hU.shut t m a)) v hv) _ _ _
      ·simp_all[Cl]
      ·intro i hi;rcases Ax.1 hi with rfl|hi
       all_goals simp_all[Am]
     ·cases h
    ·cases h
theorem Arx{β γ:Type}{f:β->Option γ}: ∀ {xs:List β} {l:List γ},xs.map f=l.map some->xs.mapM f=some l:=by
 intro xs;induction xs with
 |nil=>simp_all
 |cons x xs ih=>
  intro l h;cases l with
  |nil=>cases h
  |cons y l=>
   simp only[Z8,Ed]at h;rw[List.mapM_cons,h.1,ih h.2];rfl
theorem Ary{xs:List ResultVar}{S0:St}{outs:List Nat}{Cs L:List (Bool×List (SV U.D))}(h1:xs.map (C8 T S0)=Cs.map (fun c=>some (E8 c.1 (c.2.map (SV.toV U)))))(h2:Cs.map (fun c=>(c.1,(c.2.map (SV.toV U)).map (E0 outs S0.H)))=L.map (fun c=>(c.1,c.2.map (SV.toV U))))(h3: ∀c∈Cs,c.1=false-> ∃v,c.2=[v]):
  ∃u,Hm T S0 xs=some u/\u.lowT false outs S0.H=(Rf U L).toA U:=by
 have many: ∀(xs:List ResultVar),xs.map (C8 T S0)=Cs.map (fun c=>some (E8 c.1 (c.2.map (SV.toV U))))->(∃u,(xs.mapM (C8 T S0)).map A.t=some u/\u.lowT false outs S0.H=(SA.t L:SA U.D).toA U):=by
  intro xs h1;refine⟨.t (Cs.map fun c=>E8 c.1 (c.2.map (SV.toV U))),?_,?_⟩
  ·rw[Arx (l:=Cs.map fun c=>E8 c.1 (c.2.map (SV.toV U))) (by simp_all)];rfl
  ·show A.t _=A.t _;congr 1;rw[Ar];have e1:(Cs.map fun c=>A.low false outs S0.H (E8 c.1 (c.2.map (SV.toV U))))=(Cs.map (fun c=>(c.1,(c.2.map (SV.toV U)).map (E0 outs S0.H)))).map fun c=>E8 c.1 c.2:=by
    grind [List.map_congr_left,Aia]
   refine Eq.trans e1 ?_;rw[h2,Ar];rfl
 have one: ∀ {l:List (Bool×List (SV U.D))} {m:List (Bool×List (SV U.D))},l.length=1-> ∃c,l=[c]:=by
  intro l m h;cases l with
  |nil=>cases h
  |cons c r=>grind
 have hl1:=congrArg List.length h1;have hl2:=congrArg List.length h2;simp only[Bi]at hl1 hl2;cases xs with
 |nil=>
  have hC:Cs=[]:=Ec.1 hl1.symm;subst hC;have hL:L=[]:=Ec.1 hl2.symm;subst hL;exact⟨.t [],rfl,rfl⟩
 |cons x xs=>
  cases xs with
  |nil=>
   obtain⟨c,rfl⟩:=one (l:=Cs) (m:=[]) hl1.symm;obtain⟨c',rfl⟩:=one (l:=L) (m:=[]) hl2.symm;simp only[Z8,De,Ed,and_true,Prod.mk.injEq]at h1 h2;obtain⟨ag,cs⟩:=c;obtain⟨ag',cs'⟩:=c';obtain⟨e,h2⟩:=h2;have e:ag=ag':=e;subst e;refine⟨_,h1,?_⟩;have hl:A.lowT false outs S0.H (E8 ag (cs.map (SV.toV U)))=A.low false outs S0.H (E8 ag (cs.map (SV.toV U))):=by cases ag<;>rfl
   refine hl.trans (Aia.trans ?_);have h2:(cs.map (SV.toV U)).map (E0 outs S0.H)=cs'.map (SV.toV U):=h2;rw[h2];cases ag with
   |true=>rfl
   |false=>
    obtain⟨v,hv⟩:=h3 (false,cs) (by simp) rfl;have hv:cs=[v]:=hv;subst hv;have hl3:=congrArg List.length h2;cases cs' with
    |nil=>cases hl3
    |cons v' r=>cases r with
     |nil=>rfl
     |cons v2 r=>grind
  |cons y zs=>
   obtain⟨u,k1,k2⟩:=many (x::y::zs) h1;refine⟨u,k1,?_⟩;have hlen:L.length=zs.length+2:=by grind
   cases L with
   |nil=>cases hlen
   |cons a L=>
    cases L with
    |nil=>grind
    |cons b L=>
     rw[k2];obtain⟨a1,a2⟩:=a;cases a1 with
     |true=>rfl
     |false=>
      cases a2 with
      |nil=>rfl
      |cons v r=>cases r<;>rfl
end
section
variable {U:Un} {T:Tab} {P:Program} {sg:Sig} {rl:List ResultVar} {N:Nat} {js:List Nat} {c0:Code}
def G5 (F:Fr)(U:Un)(T:Tab)(rl:List ResultVar)(sg:Sig)(r:Af U sg.codes)(S:St):Prop:= ∃S1:St,Ao F S S1/\Qg T rl (Aw sg.ps) ((sg.res U r).toA U) ((sg.blks U r).map (SB.toB U)) .ret S1
theorem Ax7 (n k:Nat)(h:k<n):(List.range' 1 n)[k]? =some (k+1):=by
 grind
theorem Arz (hU:Ad U){F:Fr}(he:Bh F T)(hm:F.m=Aw sg.ps+1){S:SS U.D}(hw:WF S){r:Af U sg.codes}(h:Ry U T sg rl S=some r):G5 F U T rl sg r (S.toSt U)/\rl.length<=4:=by
 unfold Ry at h;obtain⟨S1,h1,h2,τ,h3⟩:=Sj hU he _ hw h;unfold Af3 at h1;split at h1
 ·rename_i q ids hq;split at h1
  ·rename_i hc;cases h1;simp only[Z4,decide_eq_true_eq]at hc;obtain⟨⟨hnd,h100⟩,hl4⟩:=hc;refine⟨⟨_,h2,?_⟩,Az hl4⟩;have hmm:=he.m;have hlt: ∀i∈List.range' 1 (Aw sg.ps),i<100:=fun i hi=>by
    grind
   have houts:(List.range' 1 (Aw sg.ps)++ids).Nodup:=by
    refine List.nodup_append.2 ⟨List.nodup_range',hnd,fun i hi j hj e=> ?_⟩;have:=Az (Z1.1 h100 j hj)
    grind
   obtain⟨Cs,g1,g2,g3,g4,g5,g6⟩:=Arw hU h3 (outs:=List.range' 1 (Aw sg.ps)++ids) houts rl sg.rs (Aw sg.ps) hq (fun k id hk=>by
    grind)
   obtain⟨k1,k2⟩:=Aro hU (outs:=List.range' 1 (Aw sg.ps)++ids) sg.ps 0 _ g5;obtain⟨u,u1,u2⟩:=Ary g1 g2 g3;refine Amq (Aw sg.ps) (List.range' 1 (Aw sg.ps)++ids) houts ?_ ?_ u1 u2 ?_
   ·grind
   ·grind
   ·rw[Er,g4];show _=List.map (SB.toB U) (E6 U sg.ps (Cl U (Dh sg.ps) sg.rs (Aw sg.ps) r).2.2++(Cl U (Dh sg.ps) sg.rs (Aw sg.ps) r).2.1)
    grind
  grind
 grind
abbrev Λt (U:Un)(sg:Sig):=List (Nat×(SS U.D->Option (Af U sg.codes)))
def Lw (U:Un)(T:Tab)(P:Program)(rl:List ResultVar)(sg:Sig)(N:Nat)(js:List Nat)(c0:Code)(B:Λt U sg)(p:Nat)(f:SS U.D->Option (Af U sg.codes)):Prop:=
 ∀(F:Fr) (r:Af U sg.codes),F.P=P->F.N=N->Bh F T->F.m=Aw sg.ps+1->Ah6 U F js c0 r (G5 F U T rl sg r) B p f
def Kf (U:Un)(T:Tab)(P:Program)(rl:List ResultVar)(sg:Sig)(N:Nat)(js:List Nat)(c0:Code)(B:Λt U sg)(l:Λt U sg):Prop:= ∀p f,lk l p=some f->Lw U T P rl sg N js c0 B p f
theorem kN{B:Λt U sg}:Kf U T P rl sg N js c0 B []:=fun p f h=>by cases h
theorem kC{B l:Λt U sg}{p:Nat}{f:SS U.D->Option (Af U sg.codes)}(h:Lw U T P rl sg N js c0 B p f)(t:Kf U T P rl sg N js c0 B l):Kf U T P rl sg N js c0 B ((p,f)::l):=fun p' f' e=>by
 rw[D1]at e;split at e
 ·grind
 ·exact t p' f' e
structure Ly (U:Un)(T:Tab)(P:Program)(rl:List ResultVar)(sg:Sig)(N:Nat)(js:List Nat)(x:Λt U sg->Λt U sg->Ox U (Af U sg.codes)):Prop where
 un:Ad U
 mix:P.follows .mixedOrders=true
 Λ: ∀a b,(x a b).Λ=a
 Λb: ∀a b,(x a b).Λb=b
 N: ∀a b,(x a b).N=N
 js: ∀a b,(x a b).js=js
 fin: ∀a b,(x a b).fin=Ry U T sg rl
 ok: ∀a b,Gf U T P (x a b)
variable {x:Λt U sg->Λt U sg->Ox U (Af U sg.codes)}
theorem Ly.go (hx:Ly U T P rl sg N js x){Λ B:Λt U sg}(hc:Kf U T P rl sg N js c0 B Λ){F:Fr}{r:Af U sg.codes}(hP:F.P=P)(hN:F.N=N)(he:Bh F T)(hm:F.m=Aw sg.ps+1){n p:Nat}{c:Code}{fr:List Fm}{S:SS U.D}
  (hp:1<=p) (hat:C3 js c0 p=some (c,fr)) (hw:WF S) (h:go U T (x Λ B) n (.code c p) S fr=some r):W F c (S.toSt U) (QS U F js c0 r (G5 F U T rl sg r) B fr):=by
 subst hP;have:=(Arm hx.un he (X:=x Λ B) (hx.ok Λ B) (by rw[hx.N,hN]) hx.mix (r:=r) (R0:=G5 F U T rl sg r) (c0:=c0) (fun S hw h=>by
  rw[hx.fin]at h;exact(Arz hx.un he hm hw h).1) (fun p f hf=>by
  rw[hx.Λ]at hf;rw[hx.js,hx.Λb];exact hc p f hf F r rfl hN he hm) n).1 c p fr S hp (by rw[hx.js];exact hat) hw h
 rw[hx.js,hx.Λb]at this;exact this
theorem Aib{X:Ox U (Af U sg.codes)}{p:Nat}{S:SS U.D}{r:Af U sg.codes}(h:Rs U T X c0 p S=some r): ∃c fr,C3 X.js c0 p=some (c,fr)/\go U T X 1000 (.code c p) S fr=some r:=by
 grind [Rs]
theorem Ax8 (hx:Ly U T P rl sg N js x){Λ B:Λt U sg}{p:Nat}{h:E7}{M:Ak U h.codes->Option (Af U sg.codes)}(hp:Nat.ble 1 p=true)(e: ∀q,M q=Rs U T (x Λ B) c0 (2*p+1) (h.emb U q))(hc:Kf U T P rl sg N js c0 B Λ):Lw U T P rl sg N js c0 B p (arr U T h M):=by
 intro F r hP hN he hm;have hp:=Az hp;refine⟨hp,fun c fr hat S1 hw hf=> ?_⟩;obtain⟨q,h1,h2,h3⟩:=Ah2 (F:=F) hx.un he hw hf;rw[e]at h1;obtain⟨c',fr',h4,h5⟩:=Aib h1;rw[hx.js]at h4;have hg:=hx.go hc hP hN he hm (by omega) h4 h3 h5;rw[Abc hp hat]at h4;refine⟨fun y hy=> ?_,fun a b hy=> ?_⟩
 ·subst hy;cases h4
 ·subst hy;cases h4;exact W.weakF h2 hg
def Aic (js:List Nat)(c0:Code)(p:Nat):Bool:=match C3 js c0 p with
 |some (.loop _,_)=>true
 |_=>false
theorem Ax9 (hx:Ly U T P rl sg N js x){Λ:Nat->Λt U sg}{B:Λt U sg}{p:Nat}{h:E7}{M:Nat->Ak U h.codes->Option (Af U sg.codes)}(hp:Nat.ble 1 p=true)(hk:Aic js c0 p=true)(e0: ∀q,M 0 q=none)(e: ∀n q,M (n+1) q=Rs U T (x (Λ n) ((p,arr U T h (M n))::B)) c0 (2*p) (h.emb U q))
  (hc: ∀n,Kf U T P rl sg N js c0 ((p,arr U T h (M n))::B) (Λ n)) (n:Nat):Lw U T P rl sg N js c0 B p (arr U T h (M n)):=by
 intro F r hP hN he hm;have hp:=Az hp;refine⟨hp,fun c fr hat S1 hw hf=>⟨fun y hy=> ?_,fun a b hy=> ?_⟩⟩
 ·subst hy;obtain⟨_,hlps⟩:=Ah4 p hp hat;have hat2:=Sn hp hat;have hat2:C3 js c0 (2*p)=some (y,.lp p::fr):=hat2;refine Ajc (fun n S=> ∃S2:SS U.D,Ao F S (S2.toSt U)/\WF S2/\arr U T h (M n) S2=some r) n ⟨S1,Ao.refl _,hw,hf⟩ ?_;rintro n S ⟨S2,g1,g2,g3⟩;obtain⟨q,h1,h2,h3⟩:=Ah2 (F:=F) hx.un he g2 g3;cases n with
  |zero=>grind
  |succ n=>
   rw[e]at h1;obtain⟨c',fr',h4,h5⟩:=Aib h1;rw[hx.js,hat2]at h4;cases h4;have hg:=hx.go (hc n) hP hN he hm (by omega) hat2 h3 h5;refine W.weakF (g1.trans h2) (hg.mono fun e S' hq=> ?_);have hcong:QS U F js c0 r (G5 F U T rl sg r) ((p,arr U T h (M n))::B) fr=QS U F js c0 r (G5 F U T rl sg r) B fr:=Ah5 fr fun p' hp'=>Q68 _ _ (by have:=hlps p' hp';omega)
   have hq:Exit.andThen (BP U F r ((p,arr U T h (M n))::B) p) (QS U F js c0 r (G5 F U T rl sg r) ((p,arr U T h (M n))::B) fr) e S':=hq;rw[hcong]at hq;cases e with
   |normal=>
    obtain⟨f,S3,k1,k2,k3,k4⟩:=hq;rw[Af4]at k1;cases k1;exact⟨n,Nat.lt_succ_self n,S3,k2,k3,k4⟩
   |_=>exact hq
 grind [Aic]
def SV.isF{D:Nat->Type}:SV D->Bool
 | .fn .. | .ptrB .. =>true
 |_=>false
def G6 (H:List (SB U.D))(c:SV U.D):Prop:=(c.shut=true/\Fc c=true)\/(∃i j,c= .ptr i 0 j)\/c.isF=true\/c= .undef\/ ∃i n B,c= .own (i+1) 0 n/\H[i]? =some B/\n=B.len
def Aid:SB U.D->Prop
 | .rows v _ _ _ _=>v=0
 | .box v cs=>v=0/\ ∀c∈cs,c.shut=true/\Fc c=true
 |_=>False
def Abd (as:List (SA U.D))(H:List (SB U.D)):Prop:=(∀a∈as,(∀xs,a≠ .t xs)/\ ∀c∈a.cells,G6 H c)/\ ∀B∈H,Aid B
theorem G6.app{H H':List (SB U.D)}{c:SV U.D}(h:G6 H c):G6 (H++H') c:=by
 rcases h with h|h|h|h|⟨i,n,B,h1,h2,h3⟩
 ·exact .inl h
 ·exact .inr (.inl h)
 ·exact .inr (.inr (.inl h))
 ·exact .inr (.inr (.inr (.inl h)))
 ·exact .inr (.inr (.inr (.inr ⟨i,n,B,h1,by grind,h3⟩)))
theorem Aie: ∀(as:List (SA U.D)) (n t:Nat),lk (Le U n as) t=if n<=t then as[t - n]? else none:=by
 intro as;induction as with
 |nil=>grind [Le,lk]
 |cons a r ih=>
  intro n t;simp only[Le];rw[D1,ih]
  grind
theorem Aif: ∀(H:List (SB U.D)) (n t:Nat),lk (Np U n H) t=if n<=t then(H[t - n]?).map some else none:=by
 intro H;induction H with
 |nil=>grind [Np,lk]
 |cons a r ih=>
  intro n t;simp only[Np];rw[D1,ih]
  grind
theorem Abe (as:List (SA U.D))(H:List (SB U.D))(i:Nat):(Ex U as H).blk (i+1)=H[i]? :=by
 simp only[Ex,SS.blk,Aif]
 grind
theorem Aig (as:List (SA U.D))(H:List (SB U.D)):(Ex U as H).blk 0=none:=by
 simp_all[Ex,SS.blk,Aif]
theorem Ar0 (as:List (SA U.D))(H:List (SB U.D)):(Ex U as H).toSt U=Qe (as.map (SA.toA U)) (H.map (SB.toB U)):=by
 refine St.Sim.eq ⟨fun t=> ?_,fun i=> ?_,fun i=>rfl⟩
 ·show((Ex U as H).get t).toA U=((as.map (SA.toA U))[t]?).getD (.c .undef);simp only[Ex,SS.get,Aie];rw[if_pos (Hc t),Nat.sub_zero,As];cases as[t]? <;>rfl
 ·cases i with
  |zero=>show((Ex U as H).blk 0).map _=none;rw[Aig];rfl
  |succ i=>show((Ex U as H).blk (i+1)).map (SB.toB U)=(H.map (SB.toB U))[i]?;grind [Abe]
theorem Ar1{as:List (SA U.D)}{H:List (SB U.D)}(h:Abd as H):WF (Ex U as H):=by
 have hcell: ∀c:SV U.D,G6 H c->c.ok (Ex U as H) (fun g=>((g - 2) / 2:Nat)):=by
  rintro c (h|⟨i,j,rfl⟩|hF|rfl|⟨i,n,B,rfl,h2,h3⟩)
  ·exact Fu h.1 h.2
  ·trivial
  ·cases c<;>first|trivial|cases hF
  ·trivial
  ·refine⟨Nat.zero_lt_one,fun C hC _=> ?_⟩
   grind [Abe]
 refine⟨fun g=>((g - 2) / 2:Nat),fun n=>by simp,fun t v ht=> ?_,fun id B hB=> ?_⟩
 ·have ht:lk (Le U 0 as) t=some v:=ht;rw[Aie,if_pos (Hc t)]at ht;obtain⟨h1,h2⟩:=h.1 v (Z6 ht);cases v with
  |c v=>exact hcell v (h2 v (by simp[SA.cells]))
  |g cs=>exact fun c hc=>hcell c (h2 c hc)
  |t xs=>grind
 ·cases id with
  |zero=>grind [Aig]
  |succ i=>
   rw[Abe]at hB;have:=h.2 B (Z6 hB);cases B with
   |rows v t d c l=>exact⟨by show v<1;rw[show v=0 from this];omega,trivial⟩
   |box v cs=>exact⟨by show v<1;rw[this.1];omega,fun c hc=>Fu (this.2 c hc).1 (this.2 c hc).2⟩
   |_=>cases this
theorem Ar2: ∀(cs:List (SV U.D)) (H:List (SB U.D)),(∀c∈cs,c.shut=true/\Fc c=true)-> ∀c∈(Q9 U H.length cs).1,G6 (H++(Q9 U H.length cs).2) c:=by
 intro cs;induction cs with
 |nil=>intro H _ c hc;cases hc
 |cons v r ih=>
  intro H h c hc;by_cases hx:isT v=true
  ·cases v with
   |rowT t d l=>
    simp only[Q9]at hc ⊢;rcases Ax.1 hc with rfl|hc
    ·exact .inr (.inr (.inr (.inr ⟨H.length,l.length,.rows 0 t d false l,rfl,by grind,rfl⟩)))
    ·have:=ih (H++[.rows 0 t d false l]) (fun c hc=>h c (by simp[hc])) c (by grind)
     grind
   |_=>cases hx
  ·have hx:isT v=false:=by grind
   rw[Lq hx]at hc ⊢;rcases Ax.1 hc with rfl|hc
   ·exact .inl (h _ (by simp))
   grind
theorem Ar3: ∀(cs:List (SV U.D)) (n:Nat),∀B∈(Q9 U n cs).2,Aid B:=by
 intro cs;induction cs with
 |nil=>intro n B hB;cases hB
 |cons v r ih=>
  intro n B hB;by_cases hx:isT v=true
  ·cases v with
   |rowT t d l=>
    simp only[Q9]at hB;rcases Ax.1 hB with rfl|hB
    ·rfl
    grind
   |_=>cases hx
  grind [Lq]
def So (U:Un):List PM->Prop
 |[]=>True
 | .w t md es::r=>(∀x,(Q9 U 0 (U.cO t md x)).2.length=es.length)/\So U r
 |_::r=>So U r
theorem Ar4{ag:Bool}{cs:List (SV U.D)}{H:List (SB U.D)}(h: ∀c∈cs,G6 H c):(∀xs,Ns U ag cs≠ .t xs)/\ ∀c∈(Ns U ag cs).cells,G6 H c:=by
 cases ag with
 |true=>exact⟨(by intro xs e;cases e),h⟩
 |false=>
  refine⟨(by intro xs e;cases e),fun c hc=> ?_⟩;have hc:c∈[cs.headD .undef]:=hc;simp only[Dt]at hc;subst hc;cases cs with
  |nil=>exact .inr (.inr (.inr (.inl rfl)))
  |cons v r=>grind
theorem Ar5{X:Type}: ∀(ts:List Nat) (m:K5 U ts X) {p q:List (Σ t,U.D t)->X->Prop},(∀rs m',p rs m'->q rs m')->Li U ts p m->Li U ts q m:=by
 intro ts;induction ts with
 |nil=>intro m p q h hp;exact h _ _ hp
 |cons t ts ih=>intro m p q h hp x;exact ih (m x) (fun rs m' hr=>h _ m' hr) (hp x)
theorem Ar6 (hU:Ad U){f:FuncId}{X:Ox U (Af U sg.codes)}(base: ∀as H r,Abd as H->as.length=sg.ps.length->H.length=Aw sg.ps->go U T X 1000 (.code c0 1) (Ex U as H) []=some r->Sp P f (as.map (SA.toA U)) (H.map (SB.toB U)) ((sg.res U r).toA U) ((sg.blks U r).map (SB.toB U))):
  ∀(ps:List PM) (n:Nat) (as:List (SA U.D)) (H:List (SB U.D)) (m:Ev U ps (Option (Af U sg.codes))),So U ps->Abd as H->as.length+ps.length=sg.ps.length->H.length=n->H.length+Aw ps=Aw sg.ps->J0 U T X c0 ps n as H m->Hu U P f sg ps n as H m:=by
 intro ps;induction ps with
 |nil=>
  intro n as H m _ he h1 _ h2 h r hr;have h:m=go U T X 1000 (.code c0 1) (Ex U as H) []:=h
  grind [Aw]
 |cons p ps ih=>
  intro n as H m hsig he h1 hn h2 h;cases p with
  |v t=>
   intro x;refine ih n (as++[El U t x]) H (m x) hsig ⟨fun a ha=> ?_,he.2⟩ (by grind) hn h2 (h x);rcases C5.1 ha with ha|ha
   ·exact he.1 a ha
   ·simp only[Dt]at ha;subst ha;have hk: ∀c∈U.cs t x,G6 H c:=fun c hc=> .inl ⟨Z1.1 (hU.csSh t x) c hc,hU.cellsTag false t x c hc⟩;unfold El;split
    ·exact⟨(by grind),hk⟩
    ·split
     ·rename_i v e;rw[e]at hk;exact⟨(by grind),hk⟩
     ·refine⟨(by grind),fun c hc=> ?_⟩;have hc:c∈[SV.undef]:=hc;simp only[Dt]at hc;subst hc;exact .inr (.inr (.inr (.inl rfl)))
  |b t md=>
   intro x;refine ih (n+1) _ _ (m x) hsig ⟨fun a ha=> ?_,fun B hB=> ?_⟩ (by grind) (by simp[hn]) (by grind [Aw]) (h x)
   ·rcases C5.1 ha with ha|ha
    ·exact⟨(he.1 a ha).1,fun c hc=>((he.1 a ha).2 c hc).app⟩
    ·simp only[Dt]at ha;subst ha;refine⟨(by grind),fun c hc=> ?_⟩;have hc:c∈[SV.ptr (n+1) 0 0]:=hc;simp only[Dt]at hc;exact .inr (.inl ⟨_,_,hc⟩)
   ·rcases C5.1 hB with hB|hB
    ·exact he.2 B hB
    ·simp only[Dt]at hB;subst hB;exact⟨rfl,fun c hc=>⟨Z1.1 (hU.shut t md x) c hc,Z1.1 (hU.tagO t md x) c hc⟩⟩
  |w t md es=>
   intro x;have hlen:(Q9 U n (U.cO t md x)).2.length=es.length:=by rw[Aru _ n 0];exact hsig.1 x
   subst hn;refine ih (H.length+es.length) _ _ (m x) hsig.2 ⟨fun a ha=> ?_,fun B hB=> ?_⟩ (by grind) (by grind) (by grind [Aw]) (h x)
   ·rcases C5.1 ha with ha|ha
    ·exact⟨(he.1 a ha).1,fun c hc=>((he.1 a ha).2 c hc).app⟩
    ·simp only[Dt]at ha;subst ha;exact Ar4 (Ar2 _ H fun c hc=>⟨Z1.1 (hU.shut t md x) c hc,Z1.1 (hU.tagO t md x) c hc⟩)
   ·rcases C5.1 hB with hB|hB
    ·exact he.2 B hB
    grind [Ar3]
  |r t=>
   intro x;refine ih n _ H (m x) hsig ⟨fun a ha=> ?_,he.2⟩ (by grind) hn h2 (h x);rcases C5.1 ha with ha|ha
   ·exact he.1 a ha
   ·simp only[Dt]at ha;subst ha;refine⟨(by grind),fun c hc=> ?_⟩;have hc:c∈[SV.ptrB t x 0]:=hc;simp only[Dt]at hc;exact .inr (.inr (.inl (by rw[hc];rfl)))
  |f fid caps ts=>
   refine Ar5 ts m (fun rs m' h=> ?_) h;refine ih n _ H m' hsig ⟨fun a ha=> ?_,he.2⟩ (by grind) hn h2 h;rcases C5.1 ha with ha|ha
   ·exact he.1 a ha
   ·simp only[Dt]at ha;subst ha;refine⟨(by grind),fun c hc=> ?_⟩;have hc:c∈[SV.fn fid (caps.map fun i=>(i,0)) rs]:=hc;simp only[Dt]at hc;exact .inr (.inr (.inl (by rw[hc];rfl)))
theorem Aya (hx:Ly U T P rl sg N js x)(hT:Av P T){Λ:Λt U sg}{f:FuncId}{fn:Func}{m:Ev U sg.ps (Option (Af U sg.codes))}(e:J0 U T (x Λ []) c0 sg.ps 0 [] [] m)(hc:Kf U T P rl sg N js c0 [] Λ)(hf:P.funcs[f]? =some fn)(hname:(fn.name== "runtime.NumGoroutine")=false)(hb:fn.body=some c0)(hl:fn.results=rl.toArray)(hN:fn.ntmps=N)(hargs:Nat.ble sg.ps.length N=true)(hm:Nat.ble (Aw sg.ps+1) 100=true)(hl4:Nat.ble rl.length 4=true)(hs:So U sg.ps):
  Bc.Ok U P f ⟨sg,m⟩/\Cg P f:=by
 refine⟨?_,fn,hf,hname,by grind⟩;refine Ar6 hx.un (X:=x Λ []) (c0:=c0) (T:=T) (fun as H r hent has hH hg=> ?_) sg.ps 0 [] [] m hs ⟨by simp,by simp⟩ (by simp) rfl (by simp) e;refine SpW hT hf hb hl N (Aw sg.ps+1) hl4 hN (by grind) (by simp[hH]) hm fun w0 σ0 β0 he=> ?_
 have hg:=hx.go (F:=⟨P,N,w0,σ0,β0,Aw sg.ps+1⟩) hc rfl rfl he rfl (Z9 1) rfl (Ar1 hent) hg;rw[Ar0]at hg;intro a w hrs;refine wp_mono (hg a w hrs) ?_;rintro ex a' w' ⟨S,⟨hex,S1,h1,h2⟩,h3⟩;refine⟨S1,?_,h1 a' w' h3⟩;rw[Bi,hH];exact⟨hex,h2.2⟩
end
section
variable {U:Un} {T:Tab} {P:Program}
theorem gN: ∀f c,lk ([]:List (Nat×Bc U)) f=some c->Bc.Ok U P f c/\Cg P f:=fun f c h=>by cases h
theorem gC{f:Nat}{c:Bc U}{l:List (Nat×Bc U)}(h:Bc.Ok U P f c/\Cg P f)(t: ∀f c,lk l f=some c->Bc.Ok U P f c/\Cg P f): ∀f' c',lk ((f,c)::l) f'=some c'->Bc.Ok U P f' c'/\Cg P f':=by grind [D1]
theorem oN: ∀d l,lk ([]:List (Nat×List (Nat×Bc U))) d=some l-> ∀f c,lk l f=some c->Bc.Ok U P f c/\Cg P f:=fun d l h=>by cases h
theorem oC{d:Nat}{l:List (Nat×Bc U)}{r:List (Nat×List (Nat×Bc U))}(h: ∀f c,lk l f=some c->Bc.Ok U P f c/\Cg P f)(t: ∀d l,lk r d=some l-> ∀f c,lk l f=some c->Bc.Ok U P f c/\Cg P f): ∀d' l',lk ((d,l)::r) d'=some l'-> ∀f c,lk l' f=some c->Bc.Ok U P f c/\Cg P f:=by grind [D1]
theorem Ayb{α:Type}: ∀d q,lk ([]:List (Nat×(SS U.D->List Oper->Oper->(Aj U.D->Option α)->Option α))) d=some q->Fw U T P q:=fun d q h=>by cases h
theorem Ayc{α:Type}{d:Nat}{q:SS U.D->List Oper->Oper->(Aj U.D->Option α)->Option α}{l:List (Nat×(SS U.D->List Oper->Oper->(Aj U.D->Option α)->Option α))}(h:Fw U T P q)(t: ∀d q,lk l d=some q->Fw U T P q): ∀d' q',lk ((d,q)::l) d'=some q'->Fw U T P q':=by grind [D1]
def Aih (js:List Nat)(c0:Code)(p x:Nat):Bool:=match C3 js c0 p with
 |some (_,fr)=>fr.all fun f=>match f with
  | .lp y=> !(Nat.beq y x)
  |_=>true
 |none=>true
theorem Ayd{rl:List ResultVar}{sg:Sig}{N:Nat}{js:List Nat}{c0:Code}{B:Λt U sg}{p x:Nat}{f g:SS U.D->Option (Af U sg.codes)}(hn:Aih js c0 p x=true)(h:Lw U T P rl sg N js c0 B p f):Lw U T P rl sg N js c0 ((x,g)::B) p f:=by
 intro F r hP hN he hm;obtain⟨h1,h2⟩:=h F r hP hN he hm;refine⟨h1,fun c fr hat S1 hw hf=> ?_⟩;have hq:QS U F js c0 r (G5 F U T rl sg r) ((x,g)::B) fr=QS U F js c0 r (G5 F U T rl sg r) B fr:=Ah5 fr fun p' hp'=>Q68 _ _ (by
  unfold Aih at hn;rw[hat]at hn;have:=Z1.1 hn _ hp';intro e;simp_all)
 grind
def eqT (l:List Nat)(t:Nat):Bool:=l.any (Nat.beq t)
theorem Ar7{l:List Nat}(h:l.all (fun t=> !(P.eqGuardType P.depth t)&&Gq P T 20 t)=true):Nv P T (eqT l):=fun t ht=>by
 obtain⟨u,hu,e⟩:=List.any_eq_true.1 ht;simp_all
theorem xok (hU:Ad U)(hm:P.follows .mixedOrders=true){rl:List ResultVar}{sg:Sig}{N:Nat}{js:List Nat}{Γ:List (Nat×Bc U)}{ov:List (Nat×List (Nat×Bc U))}{eqOk:Nat->Bool}{spl:List Nat}{pre post:List (Nat×List Cmd)}{kp:List (Nat×(SS U.D->List Oper->Oper->(Aj U.D->Option (Af U sg.codes))->Option (Af U sg.codes)))}(hΓ: ∀f c,lk Γ f=some c->Bc.Ok U P f c/\Cg P f)(hov: ∀d l,lk ov d=some l-> ∀f c,lk l f=some c->Bc.Ok U P f c/\Cg P f)(heq:Nv P T eqOk)(hkp: ∀d q,lk kp d=some q->Fw U T P q):
  Ly U T P rl sg N js (fun L B=>⟨Γ,ov,eqOk,N,spl,pre,post,js,L,B,Ry U T sg rl,kp⟩):=
 ⟨hU,hm,fun _ _=>rfl,fun _ _=>rfl,fun _ _=>rfl,fun _ _=>rfl,fun _ _=>rfl,fun _ _=>⟨hΓ,heq,hov,hkp⟩⟩
theorem Co{α:Type}{f:α->List V}(h: ∀a,(f a).all V.fresh=true)(es:Nat)(l:List α):(V.row true es (l.map f)).fresh=true:=by
 show(true&&Hk (l.map f))=true;rw[Z30];refine Ag1 fun x hx=> ?_;obtain⟨a,_,rfl⟩:=A8.1 hx;exact Ag0 (h a)
theorem Dq (k:IntKind)(n:Int):(V.int k n).fresh=true:=rfl
theorem Dr (b:Bool):(V.bool b).fresh=true:=rfl
theorem Ds (s:ByteArray):(V.str s).fresh=true:=rfl
structure Dft (U:Un)(t:Nat):Prop where
 sz:U.sz t=0
 en: ∀x,U.en t x=[]
 eF: ∀x,U.eF t x=[]
 cs: ∀x,U.cs t x=[]
 cO: ∀m x,U.cO t m x=[]
 fS: ∀c,U.fS t c=none
 fO: ∀m c,U.fO t m c=none
theorem Be{U:Un}{t:Nat}(h: ∀j,U.far t j=false): ∀x j v,(U.eF t x)[j]? =some v->U.far t j=true->v.share=v:=fun x j v _ e=>by rw[h j]at e;cases e
structure A6 (U:Un)(t:Nat):Prop where
 en:En (U.en t) (U.sz t)
 eF:Ay (U.eF t) (U.en t) (U.sz t)
 cs: ∀x,(U.cs t x).map (SV.toV U)=U.en t x
 cO: ∀x,(U.cO t true x).map (SV.toV U)=U.eF t x
 shut: ∀m x,(U.cO t m x).all SV.shut=true
 fS: ∀c x,U.fS t c=some x->c.map (SV.toV U)=U.en t x
 fO: ∀m c x,U.fO t m c=some x->c.map (SV.toV U)=(U.cO t m x).map (SV.toV U)
 flat:U.flat t=true->U.eF t=U.en t
 csSh: ∀x,(U.cs t x).all SV.shut=true
 tagO: ∀m x,(U.cO t m x).all Fc=true
 fresh: ∀x,(!U.far t 1000||U.flat t)=true->(U.eF t x).all V.fresh=true
 csTag: ∀x,(U.cs t x).all Fc=true
 far: ∀x j v,(U.eF t x)[j]? =some v->U.far t j=true->v.share=v
theorem Dft.un1{t:Nat}(h:Dft U t):A6 U t:=by
 refine⟨⟨fun a=> ?_,fun a=> ?_,fun a=> ?_,fun a=> ?_⟩,⟨fun a=> ?_,fun a=> ?_,fun a=> ?_⟩,fun x=> ?_,fun x=> ?_,fun m x=> ?_,fun c x e=> ?_,fun m c x e=> ?_,fun _=> ?_,fun x=> ?_,fun m x=> ?_,fun x _=> ?_,fun x=> ?_,fun x j v hj _=> ?_⟩
 ·rw[h.en,h.sz];rfl
 ·rw[h.en];rfl
 ·rw[h.en];rfl
 ·rw[h.en];rfl
 ·grind [eF,sz]
 ·rw[h.eF];rfl
 ·rw[h.eF,h.en];rfl
 ·grind [cs,en]
 ·grind [cO,eF]
 ·rw[h.cO];rfl
 ·grind [fS]
 ·grind [fO]
 ·funext x;rw[h.eF,h.en]
 ·rw[h.cs];rfl
 ·rw[h.cO];rfl
 ·rw[h.eF];rfl
 ·rw[h.cs];rfl
 ·rw[h.eF]at hj;simp at hj
theorem Ad.of (h: ∀t,A6 U t):Ad U:=⟨fun t=>(h t).en,fun t=>(h t).eF,fun t=>(h t).cs,fun t=>(h t).cO,fun t=>(h t).shut,fun t=>(h t).fS,fun t=>(h t).fO,fun t=>(h t).flat,fun t=>(h t).csSh,fun t=>(h t).tagO,fun t=>(h t).fresh,fun d t x c hc=>by
 cases d with
 |true=>exact Z1.1 ((h t).tagO true x) c hc
 |false=>exact Z1.1 ((h t).csTag x) c hc,fun t=>(h t).far⟩
end
open Go.Sort
def Fx (l:List Int):Blk:=⟨0,1,l.map fun x=>[V.int .i64 x]⟩
theorem Ar8{P:Program}{f:FuncId}
  (hs: ∀(blk off cap:Nat) (zs:List Int) (w:World),Holds (Value.int .i64) w blk off zs.toArray->blk<w.heap.size->zs.length<4611686018427387904->
   Calls P f #[.slice (some ⟨blk,off,none⟩) zs.length cap] w fun e w'=>e= .returned (.tuple #[])/\ ∃n os,w'=grow (putRow (Value.int .i64) (Sort.ahead w n) blk off (zs.mergeSort fun x y=>decide (x<=y)).toArray) os)
  (hn: ∀(p:Option Addr) (cap:Nat) (w:World),Calls P f #[.slice p 0 cap] w fun e w'=>e= .returned (.tuple #[])/\w'=w)
  (l:List Int) (hl:l.length<4611686018427387904):
  Sp P f [.c (.own 1 0 0 l.length)] [Fx l] (.t []) [Fx (l.mergeSort fun x y=>decide (x<=y))]:=by
 intro vals w σ β hr hsz hargs;obtain⟨v,e0,h0⟩:=hargs 0 _ rfl;have hvals:vals= #[v]:=by
  apply Array.ext_getElem?;intro i
  match i with
  |0=>exact e0
  |i+1=>rw[Array.getElem?_eq_none (by simp at hsz;omega)];rfl
 subst hvals;obtain⟨A,cap,rfl,hv,hcap,hmax,hb⟩:=Mz h0;obtain⟨hin,hat⟩:=hb (Fx l) rfl rfl;have hres: ∀E,RA E (.t []) (.tuple #[]):=fun E=> .t [] #[] (fun _=>default) rfl (fun i v hi=>by simp at hi) (fun i v hi=>by simp at hi)
 cases hl0:l with
 |nil=>
  subst hl0;refine(hn A cap w).mono ?_;rintro e w' ⟨rfl,rfl⟩;refine⟨_,σ,β,rfl,.refl _ _,fun _ _=>rfl,Z9 _,?_,hres _⟩;simpa using hr
 |cons y ys=>
  rw[<-hl0];have hpos:0<l.length:=by rw[hl0];simp
  rcases hat with hat|⟨b,o,n,hβ,rfl,hcn⟩
  ·omega
  have hblk:=(hr.blk 1 (Fx l) rfl).2;obtain⟨hσ,hes,hln,arr,T,hh,hasz,hc⟩:=hblk.some hβ;simp only[Fx,Bi,Nat.mul_one,Nat.zero_mul,Nat.add_zero]at hes hln hasz hc hcn ⊢;have hcell: ∀j x,l[j]? =some x->arr[o+j]? =some (.int .i64 x):=by
   intro j x hj;obtain⟨c,c1,c2⟩:=hc j 0 [V.int .i64 x] (V.int .i64 x) (by simp[hj]) rfl;cases c2 with
   |c h=>cases h;exact c1
  have hlt:b<w.heap.size:=Kl hh;have hH:Holds (Value.int .i64) w b o l.toArray:=by
   intro j hj;have hj':j<l.length:=by simpa using hj
   refine⟨?_,by simp[World.frozen?,hh]⟩;rw[Cb hh,hcell j l[j] (A3 hj')];simp[hj']
  refine(hs b o cap l w hH hlt hl).mono ?_;rintro e w' ⟨rfl,m,os,rfl⟩;have hb':(grow (putRow (Value.int .i64) (Sort.ahead w m) b o (l.mergeSort fun x y=>decide (x<=y)).toArray) os).heap[b]? =some (.cells (Go.Sort.putCells (Value.int .i64) o (l.mergeSort fun x y=>decide (x<=y)).toArray arr) T (0,0)):=by
   rw[heap_grow_old _ _ (by simpa using hlt)];simp[putRow,mapBlock,Sort.ahead,Array.getElem?_modify,hh,onCells]
  have ho': ∀k,k<w.heap.size->k≠b->(grow (putRow (Value.int .i64) (Sort.ahead w m) b o (l.mergeSort fun x y=>decide (x<=y)).toArray) os).heap[k]? =w.heap[k]? :=by
   intro k hk hne;rw[heap_grow_old _ _ (by simpa using hk)];have:b≠k:=fun e=>hne e.symm;simp[putRow,mapBlock,Sort.ahead,Array.getElem?_modify,this]
  have hlen:(l.mergeSort fun x y=>decide (x<=y)).length=l.length:=List.length_mergeSort _;refine⟨_,σ,β,rfl,⟨rfl,rfl,rfl,by simp,fun k hk hk2=> ?_,fun _ _ _=>rfl⟩,fun _ _=>rfl,Z9 _,⟨rfl,fun id B hB=> ?_,fun k hk=>hr.new k ?_⟩,hres _⟩
  ·refine ho' k hk fun e=> ?_;subst e;simp only at hσ;rw[hσ]at hk2;rcases hk2 with h|h<;>simp at h
  ·match id,hB with
   |1,hB=>
    simp only[C7,E9,Z7]at hB;subst hB;refine⟨by simp[Fx],?_⟩;refine .mk hβ ⟨hσ,by simp[Fx],by simp[Fx,hlen];omega,_,T,hb',by simp[Fx,Go.Sort.putCells];omega,?_⟩;intro k j x v hk hj;simp only[Fx,As]at hk;obtain⟨z,h1,rfl⟩:=Z5.1 hk
    match j,hj with
    |0,hj=>
     simp only[E9,Z7]at hj;subst hj;have hk3:k<(l.mergeSort fun x y=>decide (x<=y)).length:=(Z3.1 h1).1;refine⟨.int .i64 z,?_,.c (.int _ _ _)⟩;have h4:(l.mergeSort fun x y=>decide (x<=y))[k]=z:=(Z3.1 h1).2;simp only[Fx,Nat.mul_one,Nat.add_zero,Go.Sort.putCells,Array.getElem?_mapIdx];rw[Array.getElem?_eq_getElem (by omega)];simp only[Du,List.size_toArray];rw[if_pos ⟨by omega,by omega⟩];simp[h1]
  ·have:w.heap.size<=(grow (putRow (Value.int .i64) (Sort.ahead w m) b o (l.mergeSort fun x y=>decide (x<=y)).toArray) os).heap.size:=by simp
   exact Dn this hk
def Pa (P:Program)(f:FuncId)(es:Nat):Prop:=Cg P f/\ ∀(b o n cap:Nat) (w:World) (arr:Array Value) (T:TypeId),w.heap[b]? =some (.cells arr T (0,0))->o+cap*es<=arr.size->0<n->n<=cap->cap<=maxLen->(∀j v,j<n*es->arr[o+j]? =some v->v.oneCell'=true)->
 Calls P f #[.slice (some ⟨b,o,none⟩) n cap,.int .i64 0,.int .i64 1] w fun e w'=>e= .returned (.slice (some ⟨b,o,none⟩) (n - 1) cap)/\ ∃d arr',w'=({w with drawn:=d}:World).setRow b arr'/\arr'.size=arr.size/\ ∀j,j<(n - 1)*es->arr'[o+j]? =arr[o+es+j]?
def Sq (P:Program)(f:FuncId)(es by_:Nat):Prop:=Cg P f/\ ∀(A:Option Addr) (n cap vb vo vc:Nat) (w:World) (olds news:List Value) (va:Array Value) (vT:TypeId),n<=cap->cap<=maxLen->
 (0<cap-> ∃b o arr T,A=some ⟨b,o,none⟩/\b≠vb/\w.heap[b]? =some (.cells arr T (0,0))/\o+cap*es<=arr.size/\ ∀(j:Nat) u,olds[j]? =some u->arr[o+j]? =some u)->
 olds.length=n*es->news.length=es->w.heap[vb]? =some (.cells va vT (0,0))->vo+es<=va.size->(∀(j:Nat) u,news[j]? =some u->va[vo+j]? =some u)->(∀u∈olds,u.oneCell'=true)->(∀u∈news,u.oneCell'=true)->(n+1)*by_<=140737488355328->n+1<=maxLen->
 Calls P f #[.slice A n cap,.int .i64 0,.slice (some ⟨vb,vo,none⟩) 1 vc] w fun e w'=>
  (∃b o arr T d arr',A=some ⟨b,o,none⟩/\w.heap[b]? =some (.cells arr T (0,0))/\n+1<=cap/\e= .returned (.slice A (n+1) cap)/\w'=({w with drawn:=d}:World).setRow b arr'/\arr'.size=arr.size/\ ∀(j:Nat) u,(news++olds)[j]? =some u->arr'[o+j]? =some u)\/
  (∃d arr' g T,e= .returned (.slice (some ⟨w.heap.size,0,none⟩) (n+1) g)/\w'=World.push ({w with drawn:=d}:World) arr' T/\n+1<=g/\g<=maxLen/\g*es<=arr'.size/\ ∀(j:Nat) u,(news++olds)[j]? =some u->arr'[j]? =some u)
section
variable {T:Tab} {F:Fr} {S:St} {a:Act} {w:World} {σ:Nat->List Nat} {β:Nat->Option (Nat×Nat×Nat)}
theorem Ac.drawnN (hx:Ac F S a w σ β)(d:Nat):Ac F S a {w with drawn:=d} σ β:=by
 have hext:Cq (S.cx w σ β) (S.cx {w with drawn:=d} σ β):=⟨fun _=>Z9 _,fun id B h _=>⟨B,h,rfl,rfl,rfl,rfl⟩⟩;have hn: ∀p,Bg w σ {w with drawn:=d} σ p:=fun p b _ _=>⟨rfl,rfl⟩
 refine⟨⟨hx.hr.far,fun id B hB=> ?_,hx.hr.new⟩,hx.mpos,⟨hx.kp.os,hx.kp.tape,hx.kp.output,hx.kp.size,hx.kp.heap,hx.kp.free⟩,hx.inn,fun t=>(hx.env t).mono hext (hn [])⟩;obtain⟨e1,e2⟩:=hx.hr.blk id B hB;exact⟨e1,e2.mono hext rfl (hn [id])⟩
theorem RC.one{p:List Nat}{v:V}{u:Value}(h:RC w σ p v u):u.oneCell'=true:=by cases h<;>rfl
def Sr (id nid:Nat):List Nat->List Nat
 |i::k::r=>if i=id then nid::(k - 1)::r else i::k::r
 |s=>s
theorem Ar9 (hs:Ac F S a w σ β){f es:Nat}(hd:Pa F.P f es)(hpos:0<es){id ver:Nat}{xs:List (List V)}{cu:Value}(hu:RV (S.cx w σ β) [] (.own id ver 0 xs.length) cu)(hX:S.H id=some ⟨ver,es,xs⟩)(hcx:allClosed ⟨ver,es,xs⟩=true)(h0:0<xs.length)(nid:Nat)(hnid:F.m<=nid):
  Calls F.P f #[cu,.int .i64 0,.int .i64 1] w fun e w'=> ∃c σ' β',e= .returned c/\Ac F ⟨S.env,Aa (Aa S.H id none) nid (some ⟨S.nv nid,es,xs.drop 1⟩),Aa S.nv nid (S.nv nid+1)⟩ a w' σ' β'/\
   RV ((⟨S.env,Aa (Aa S.H id none) nid (some ⟨S.nv nid,es,xs.drop 1⟩),Aa S.nv nid (S.nv nid+1)⟩:St).cx w' σ' β') [] (.own nid (S.nv nid) 0 (xs.length - 1)) c:=by
 have hid0:id≠0:=by rintro rfl;have h0:S.H 0=none:=hs.hr.far;grind
 obtain⟨A,cap,rfl,hc1,hc2,hxes,hxc⟩:=Ky hs hu hX hcx;obtain⟨b,o,n,arr,T',h3,rfl,h5,q1,q4,q5,q6⟩:=hxc (by omega);have hd1:=(hs.dropH id).reσ (Sr id nid) rfl rfl (fun i B hB r=>by
  have hB:Aa S.H id none i=some B:=hB;have h1:i≠id:=by grind [Q1]
  cases r with
  |nil=>rfl
  |cons k r=>simp_all[Sr])
 have hfit:o+cap*es<=arr.size:=by have:=Bx es h5;omega
 refine(hd.2 b o xs.length cap w arr T' q4 hfit h0 hc1 hc2 (fun j v hj hv=> ?_)).mono ?_
 ·have hq:j / es<xs.length:=Nat.div_lt_of_lt_mul (by grind);have hyk:xs[j / es]? =some xs[j / es]:=A3 hq;have hyl:xs[j / es].length=es:=hxes _ (Z6 hyk);have hmod:j % es<xs[j / es].length:=by simp_all[Nat.mod_lt]
  obtain⟨uu,g1,g2⟩:=q6 (j / es) (j % es) _ _ hyk (A3 hmod);have e:o+j / es*es+j % es=o+j:=by have:=Nat.div_add_mod j es;rw[Nat.mul_comm]at this;omega
  rw[e,hv]at g1;cases g1;exact g2.one
 ·rintro e w' ⟨rfl,d,arr',rfl,hsz,hcell⟩
  have hall: ∀x∈xs.drop 1,x.length=es:=fun x hx=>hxes x (List.mem_of_mem_drop hx)
  have hfin:=(hd1.drawnN d).retakeP (id:=id) (Q1 _ _ _) hid0 (b:=b) (by rw[q1];rfl) hnid (arr':=arr') q4 hsz (o':=o) (n':=n) (es:=es) (xs':=xs.drop 1) q5 (by rw[List.length_drop];omega) hall (fun k j x v hk hj=>by
   obtain⟨hkl,hjl⟩:=Jo hall hk hj;rw[Mu]at hk;obtain⟨c,g1,g2⟩:=q6 (1+k) j x v hk hj;have e:o+(1+k)*es+j=o+es+(k*es+j):=by grind
   rw[e]at g1;have hlt:k*es+j<(xs.length - 1)*es:=by
    rw[List.length_drop]at hkl;have:=Bx es (show k+1<=xs.length - 1 by omega)
    grind
   refine⟨c,by rw[Gi,hcell _ hlt,g1],.c ?_⟩;have g3:RC w (fun b=>Sr id nid (σ b)) [nid,k,j] v c:=g2.move (fun b hb=>by simp only[hb];rfl) (fun b r _ hb=>by simp only[hb,Gh,Hd,Sr];grind) (fun _=>by simp);exact g3.mono fun b _ _=>⟨rfl,rfl⟩)
  refine⟨_,_,_,rfl,hfin,?_⟩;refine .own _ _ _ _ _ _ _ _ rfl (by show S.nv nid<Aa S.nv nid (S.nv nid+1) nid;rw[Q1];omega) (by omega) hc2 fun B2 hB2 _=> ?_
  have h':Aa (Aa S.H id none) nid (some ⟨S.nv nid,es,xs.drop 1⟩) nid=some B2:=hB2;rw[Q1]at h';cases h';exact⟨by simp,.inr ⟨b,o,n,Q1 _ _ _,by simp,by omega⟩⟩
theorem Asa (hs:Ac F S a w σ β){f es by_:Nat}(hd:Sq F.P f es by_)(hpos:0<es){id ver idw vw:Nat}{xs:List (List V)}{y:List V}{cu cv:Value}(hu:RV (S.cx w σ β) [] (.own id ver 0 xs.length) cu)(hv:RV (S.cx w σ β) [] (.own idw vw 0 1) cv)
  (hX:S.H id=some ⟨ver,es,xs⟩) (hcx:allClosed ⟨ver,es,xs⟩=true) (hY:S.H idw=some ⟨vw,es,[y]⟩) (hcy:noT [y]=true) (hne:idw≠id) (hb:(xs.length+1)*by_<=140737488355328/\xs.length+1<=maxLen) (nid:Nat) (hnid:F.m<=nid):
  Calls F.P f #[cu,.int .i64 0,cv] w fun e w'=> ∃c σ' β',e= .returned c/\Ac F ⟨S.env,Aa (Aa (Aa S.H idw none) id none) nid (some ⟨S.nv nid,es,y::xs⟩),Aa S.nv nid (S.nv nid+1)⟩ a w' σ' β'/\
   RV ((⟨S.env,Aa (Aa (Aa S.H idw none) id none) nid (some ⟨S.nv nid,es,y::xs⟩),Aa S.nv nid (S.nv nid+1)⟩:St).cx w' σ' β') [] (.own nid (S.nv nid) 0 (xs.length+1)) c:=by
 have hid0:id≠0:=by rintro rfl;have h0:S.H 0=none:=hs.hr.far;grind
 have hidw0:idw≠0:=by rintro rfl;have h0:S.H 0=none:=hs.hr.far;grind
 obtain⟨A,cap,rfl,hc1,hc2,hxes,hxc⟩:=Ky hs hu hX hcx;obtain⟨A2,cap2,rfl,hd1,hd2,hyes,hyc⟩:=Aft (xs:=[y]) hs hv hY hcy;obtain⟨vb,vo,vn,va,vT,hv3,rfl,hv5,k1,k4,k5,k6⟩:=hyc (by simp at hd1;omega);obtain⟨news,hnl,hnc,hnv⟩:=Jq (w:=w) (b:=vb) (o:=vo) hpos [y] (fun k j v u=>RV (S.cx w σ β) [] v u) hyes (fun k j x v hk hj=>by
  obtain⟨u,g1,g2⟩:=k6 k j x v hk hj;exact⟨u,(Cb k4).trans g1,g2⟩)
 have hnl:news.length=es:=by simpa using hnl
 have one: ∀(zs:List (List V)) (us:List Value),(∀x∈zs,x.length=es)->us.length=zs.length*es->(∀(k j:Nat) x v,zs[k]? =some x->x[j]? =some v-> ∃u,us[k*es+j]? =some u/\u.oneCell'=true)-> ∀u∈us,u.oneCell'=true:=by
  intro zs us hz hl hq u hu;obtain⟨j,hj⟩:=C6.1 hu;have hjl:j<zs.length*es:=by rw[<-hl];exact(Z3.1 hj).1
  have hq1:j / es<zs.length:=Nat.div_lt_of_lt_mul (by grind);have hyk:zs[j / es]? =some zs[j / es]:=A3 hq1;have hyl:zs[j / es].length=es:=hz _ (Z6 hyk);have hmod:j % es<zs[j / es].length:=by simp_all[Nat.mod_lt]
  obtain⟨uu,g1,g2⟩:=hq (j / es) (j % es) _ _ hyk (A3 hmod);have e:j / es*es+j % es=j:=by simp_all[Nat.mul_comm,Nat.div_add_mod]
  rw[e,hj]at g1;cases g1;exact g2
 have hbvb: ∀b,σ b=[id]->b≠vb:=by rintro b hb rfl;rw[k1]at hb;cases hb;exact hne rfl
 obtain⟨olds,hol,hoc,hov⟩: ∃olds:List Value,olds.length=xs.length*es/\(0<cap-> ∃b o n arr T,β id=some (b,o,n)/\A=some ⟨b,o,none⟩/\cap<=n/\σ b=[id]/\w.heap[b]? =some (.cells arr T (0,0))/\o+n*es<=arr.size/\ ∀(j:Nat) u,olds[j]? =some u->arr[o+j]? =some u)/\ ∀(k j:Nat) x v,xs[k]? =some x->x[j]? =some v-> ∃u,olds[k*es+j]? =some u/\RC w σ [id,k,j] v u:=by
  rcases Cz cap with h0|h0
  ·have hx0:xs=[]:=Ec.1 (by omega);subst hx0;exact⟨[],by simp,fun h=>by omega,fun k j x v h=>by simp at h⟩
  ·obtain⟨b,o,n,arr,T',g0,rfl,g5,g1,g4,g6,g2⟩:=hxc h0;obtain⟨us,p1,p2,p3⟩:=Jq (w:=w) (b:=b) (o:=o) hpos xs (fun k j v u=>RC w σ [id,k,j] v u) hxes (fun k j x v hk hj=>by
    obtain⟨u,q1,q2⟩:=g2 k j x v hk hj;exact⟨u,(Cb g4).trans q1,q2⟩)
   exact⟨us,p1,fun _=>⟨b,o,n,arr,T',g0,rfl,g5,g1,g4,g6,fun j u hj=>by rw[<-Cb g4];exact p2 j u hj⟩,p3⟩
 have hall: ∀x∈y::xs,x.length=es:=fun x hx=>(Ax.1 hx).elim (fun e=>hyes x (by simp[e])) (hxes x)
 have hd0:Ac F ⟨S.env,Aa (Aa S.H idw none) id none,S.nv⟩ a w σ β:=(hs.dropH idw).dropH id;have hd3:=hd0.reσ (A5 idw id nid 1) rfl rfl (fun i B hB r=>by
  have hB:Aa (Aa S.H idw none) id none i=some B:=hB;have h1:i≠id:=by grind [Q1]
  rw[Q0 _ _ h1]at hB;have h2:i≠idw:=by grind [Q1]
  cases r with
  |nil=>rfl
  |cons k r=>simp_all[A5])
 have hm1: ∀(w':World) (v:V) (u:Value),w'.heap=w.heap->RV (S.cx w σ β) [] v u-> ∀q,RV ((⟨S.env,Aa (Aa S.H idw none) id none,S.nv⟩:St).cx w' (fun b=>A5 idw id nid 1 (σ b)) β) q v u:=fun w' v u hw h q=>by
  refine(h.mono (E':=((⟨S.env,Aa (Aa S.H idw none) id none,S.nv⟩:St).cx w' (fun b=>A5 idw id nid 1 (σ b)) β)) ⟨fun _=>Z9 _,fun i B' hB _=> ?_⟩ fun b _ hc=>⟨by show w'.heap[b]? =w.heap[b]?;rw[hw],?_⟩).any q
  ·have hB:Aa (Aa S.H idw none) id none i=some B':=hB;have h1:i≠id:=by grind [Q1]
   rw[Q0 _ _ h1]at hB;have h2:i≠idw:=by grind [Q1]
   rw[Q0 _ _ h2]at hB;exact⟨B',hB,rfl,rfl,rfl,rfl⟩
  ·show A5 idw id nid 1 (σ b)=σ b;have hc:σ b=[]:=hc.resolve_right (by simp);rw[hc];rfl
 have hm2: ∀(k j:Nat) (v:V) (u:Value),RC w σ [id,k,j] v u->RC w (fun b=>A5 idw id nid 1 (σ b)) [nid,1+k,j] v u:=fun k j v u h=>h.move (fun b hb=>by simp only[hb];rfl) (fun b r _ hb=>by
  simp only[hb,Gh,Hd,A5]
  grind) (fun _=>by simp)
 have hcells: ∀(d k j:Nat) x v,(y::xs)[k]? =some x->x[j]? =some v-> ∃u,(news++olds)[k*es+j]? =some u/\RV ((⟨S.env,Aa (Aa S.H idw none) id none,S.nv⟩:St).cx {w with drawn:=d} (fun b=>A5 idw id nid 1 (σ b)) β) [nid,k,j] v u:=by
  intro d k j x v hk hj;cases k with
  |zero=>
   obtain⟨u,g1,g2⟩:=hnv 0 j x v (by simpa using hk) hj;refine⟨u,?_,hm1 {w with drawn:=d} v u rfl g2 _⟩;rw[D5 (Z3.1 g1).1];exact g1
  |succ k=>
   obtain⟨u,g1,g2⟩:=hov k j x v (by simpa using hk) hj;refine⟨u,?_,.c (RC.mono (w:=w) (by have:=hm2 k j v u g2;rwa[Nat.add_comm 1 k]at this) fun b _ _=>⟨rfl,rfl⟩)⟩;rw[C4 (by rw[hnl];grind),hnl];rw[<-g1];congr 1;grind
 refine(hd.2 A xs.length cap vb vo cap2 w olds news va vT hc1 hc2 (fun h=>by
   obtain⟨b,o,n,arr,T',g0,g,g5,g1,g4,g6,g2⟩:=hoc h;exact⟨b,o,arr,T',g,hbvb b g1,g4,by have:=Bx es g5;omega,g2⟩) hol hnl k4 (by have:1*es<=vn*es:=Bx es (by simp at hd1;omega);omega) (fun j u hj=>by rw[<-Cb k4];exact hnc j u hj) (one xs olds hxes hol fun k j x v hk hj=>by obtain⟨u,p1,p2⟩:=hov k j x v hk hj;exact⟨u,p1,p2.one⟩) (one [y] news hyes (by simpa using hnl) fun k j x v hk hj=>by
   obtain⟨u,p1,p2⟩:=hnv k j x v hk hj;obtain⟨z1,z2⟩:=Qn hcy hk hj;exact⟨u,p1,p2.one z1 z2⟩) hb.1 hb.2).mono ?_
 rintro e w' (⟨b,o,arr,T',d,arr',rfl,g4,hroom,rfl,rfl,hsz,hcell⟩|⟨d,arr',g,T',rfl,rfl,hg1,hg2,hg3,hcell⟩)
 ·obtain⟨b2,o2,n,arr2,T2,g0,gA,g5,g1,g4',g6,g2⟩:=hoc (by omega);cases gA;rw[g4]at g4';cases g4';have hfin:=(hd3.drawnN d).retakeP (id:=id) (Q1 _ _ _) hid0 (b:=b) (by rw[g1];rfl) hnid (arr':=arr') g4 hsz (o':=o) (n':=n) (es:=es) (xs':=y::xs) g6 (by simp;omega) hall (fun k j x v hk hj=>by
   obtain⟨u,p1,p2⟩:=hcells d k j x v hk hj;exact⟨u,by rw[Gi];exact hcell _ u p1,p2⟩)
  refine⟨_,_,_,rfl,hfin,?_⟩;refine .own _ _ _ _ _ _ _ _ rfl (by show S.nv nid<Aa S.nv nid (S.nv nid+1) nid;rw[Q1];omega) hroom hc2 fun B2 hB2 _=> ?_
  have h':Aa (Aa (Aa S.H idw none) id none) nid (some ⟨S.nv nid,es,y::xs⟩) nid=some B2:=hB2;rw[Q1]at h';cases h';exact⟨by simp,.inr ⟨b,o,n,Q1 _ _ _,by simp,by omega⟩⟩
 ·have hs2:=hd3.drawnN d;have hal:=hs2.allocP hnid (es:=es) (n:=g) (xs:=y::xs) (arr:=arr') T' hall (fun k j x v hk hj=>by
   obtain⟨u,p1,p2⟩:=hcells d k j x v hk hj;exact⟨u,hcell _ u p1,p2⟩) (by simpa using hg1) hg3
  refine⟨_,_,_,rfl,hal,?_⟩;exact Jm (S:=⟨S.env,Aa (Aa S.H idw none) id none,S.nv⟩) nid es g (y::xs) (World.push ({w with drawn:=d}:World) arr' T') (Aa (fun b=>A5 idw id nid 1 (σ b)) w.heap.size [nid]) β w.heap.size (by simpa using hg1) hg2
theorem Abg{F:Fr}{a:Act}{o:Oper}{g:FuncId}{xs:Array Operand}{ats:Array TypeId}(h:o.op= .call ⟨.value (.func g),xs,ats⟩)(hf:Cg F.P g)(w:World):(execOp a.eval o).run F.P w= .ok (.enter g (xs.map a.eval)) w:=by
 have e1:execOp a.eval o=(do let d <-resolve a.eval ⟨.value (.func g),xs,ats⟩ o.type;invoke d.target d.args):=by grind [execOp]
 have e0:a.eval (.func g)= .func (.func g) #[] #[]:=rfl;have e3: ∀vs:Array Value,vs++ #[]=vs:=fun vs=>by simp
 have:=Ae0 hf (xs.map a.eval) w
 grind [resolve,Deferred.ofValue,invoke]
theorem Asb{o:Oper}{f es:Nat}(hd:Pa F.P f es){x y z:Operand}{ats:Array TypeId}(h:o.op= .call ⟨.value (.func f),#[x,y,z],ats⟩)(nid:Nat){id ver:Nat}{xs:List (List V)}(hx:S.val [] x= .c (.own id ver 0 xs.length))(hy:S.val [] y= .c (.int .i64 0))(hz:S.val [] z= .c (.int .i64 1))
  (hX:S.H id=some ⟨ver,es,xs⟩) (hcx:allClosed ⟨ver,es,xs⟩=true) (h0:0<xs.length) (hpos:0<es) (hn:Nat.ble 100 nid=true):
  Ai F T o S {v:= .c (.own nid (S.nv nid) 0 (xs.length - 1)),upd:=[(id,none),(nid,some ⟨S.nv nid,es,xs.drop 1⟩)],bump:=[nid],use:=Q2 [x,y,z],ids:=[nid,id]}:=by
 intro henv hdst S' h1 h2 a w hs;obtain⟨hdf,hsz,σ,β,hs⟩:=hs;have hnv:S'.nv nid=S.nv nid:=(h2 nid (by simp)).2;have hHx:S'.H id=S.H id:=(h2 id (by simp)).1;have hv: ∀u∈[x,y,z],S'.val [] u=S.val [] u:=fun u hu=>By (l:=[x,y,z]) hu (fun t ht=>h1 t ht) []
 have g1:=Q4 hs [] x;have g2:=Q4 hs [] y;have g3:=Q4 hs [] z;rw[hv x (by simp),hx]at g1;rw[hv y (by simp),hy]at g2;rw[hv z (by simp),hz]at g3;have e2:=Bo g2;have e3:=Bo g3;refine .inr (.inr ⟨f,_,w,Abg h hd.1 w,?_⟩);have:=Ar9 hs hd hpos (B7 g1) (hHx.trans hX) hcx h0 nid (Dn henv.m (Az hn));have ea:(#[x,y,z]:Array Operand).map a.eval= #[a.eval x,.int .i64 0,.int .i64 1]:=by simp[e2,e3]
 rw[ea];refine this.mono ?_;rintro e w' ⟨c,σ',β',rfl,hfin,hres⟩;refine⟨c,rfl,by grind [Df],by grind [Q7],σ',β',?_⟩;have:=hfin.putT hsz hdst (.c hres);have e:S'.app o.dst {v:= .c (.own nid (S.nv nid) 0 (xs.length - 1)),upd:=[(id,none),(nid,some ⟨S.nv nid,es,xs.drop 1⟩)],bump:=[nid],use:=Q2 [x,y,z],ids:=[nid,id]}=
   (⟨S'.env,Aa (Aa S'.H id none) nid (some ⟨S'.nv nid,es,xs.drop 1⟩),Aa S'.nv nid (S'.nv nid+1)⟩:St).put o.dst (.c (.own nid (S'.nv nid) 0 (xs.length - 1))):=by
  unfold St.app St.put;simp only[<-hnv];rfl
 grind
theorem Asc{o:Oper}{f es by_:Nat}(hd:Sq F.P f es by_){x y z:Operand}{ats:Array TypeId}(h:o.op= .call ⟨.value (.func f),#[x,y,z],ats⟩)(nid:Nat){id ver idw vw:Nat}{xs:List (List V)}{e:List V}(hx:S.val [] x= .c (.own id ver 0 xs.length))(hy:S.val [] y= .c (.int .i64 0))(hz:S.val [] z= .c (.own idw vw 0 1))
  (hX:S.H id=some ⟨ver,es,xs⟩) (hcx:allClosed ⟨ver,es,xs⟩=true) (hY:S.H idw=some ⟨vw,es,[e]⟩) (hcy:noT [e]=true) (hne:idw≠id) (hb:(xs.length+1)*by_<=140737488355328/\xs.length+1<=maxLen) (hpos:0<es) (hn:Nat.ble 100 nid=true):
  Ai F T o S {v:= .c (.own nid (S.nv nid) 0 (xs.length+1)),upd:=[(idw,none),(id,none),(nid,some ⟨S.nv nid,es,e::xs⟩)],bump:=[nid],use:=Q2 [x,y,z],ids:=[nid,id,idw]}:=by
 intro henv hdst S' h1 h2 a w hs;obtain⟨hdf,hsz,σ,β,hs⟩:=hs;have hnv:S'.nv nid=S.nv nid:=(h2 nid (by simp)).2;have hHx:S'.H id=S.H id:=(h2 id (by simp)).1;have hHw:S'.H idw=S.H idw:=(h2 idw (by simp)).1;have hv: ∀u∈[x,y,z],S'.val [] u=S.val [] u:=fun u hu=>By (l:=[x,y,z]) hu (fun t ht=>h1 t ht) []
 have g1:=Q4 hs [] x;have g2:=Q4 hs [] y;have g3:=Q4 hs [] z;rw[hv x (by simp),hx]at g1;rw[hv y (by simp),hy]at g2;rw[hv z (by simp),hz]at g3;have e2:=Bo g2;refine .inr (.inr ⟨f,_,w,Abg h hd.1 w,?_⟩);have:=Asa hs hd hpos (B7 g1) (B7 g3) (hHx.trans hX) hcx (hHw.trans hY) hcy hne hb nid (Dn henv.m (Az hn));have ea:(#[x,y,z]:Array Operand).map a.eval= #[a.eval x,.int .i64 0,a.eval z]:=by simp[e2]
 rw[ea];refine this.mono ?_;rintro ex w' ⟨c,σ',β',rfl,hfin,hres⟩;refine⟨c,rfl,by grind [Df],by grind [Q7],σ',β',?_⟩;have:=hfin.putT hsz hdst (.c hres);have ee:S'.app o.dst {v:= .c (.own nid (S.nv nid) 0 (xs.length+1)),upd:=[(idw,none),(id,none),(nid,some ⟨S.nv nid,es,e::xs⟩)],bump:=[nid],use:=Q2 [x,y,z],ids:=[nid,id,idw]}=
   (⟨S'.env,Aa (Aa (Aa S'.H idw none) id none) nid (some ⟨S'.nv nid,es,e::xs⟩),Aa S'.nv nid (S'.nv nid+1)⟩:St).put o.dst (.c (.own nid (S'.nv nid) 0 (xs.length+1))):=by
  unfold St.app St.put;simp only[<-hnv];rfl
 grind
end
section
variable (U:Un) (T:Tab) {α:Type}
def Aij (f es:Nat)(S:SS U.D)(rest:List Oper)(o:Oper)(k:Aj U.D->Option α):Option α:=
 match o.op,o.dst with
 | .call ⟨.value (.func g),⟨[x,y,z]⟩,⟨[tx,ty,tz]⟩⟩,some d=>match S.val T tx x,S.val T ty y,S.val T tz z with
  | .c (.own id ver n),.c (.int .i64 i _),.c (.int .i64 j _)=>match S.blk id with
   |some (.rows ver' e dd _ l)=>match Nat.beq f g&&Nat.beq ver ver'&&Nat.beq es (U.sz e)&&decide (i=0)&&decide (j=1)&&Nat.blt 0 es with
    |true=>if 0<l.length then k {v:= .c (.own (Ag d rest) (S.ver (Ag d rest)) (l.drop 1).length),upd:=[(id,none),(Ag d rest,some (.rows (S.ver (Ag d rest)) e dd false (l.drop 1)))],bump:=[Ag d rest],use:=Q2 [x,y,z],ids:=[Ag d rest,id]}else none
    |false=>none
   |_=>none
  |_,_,_=>none
 |_,_=>none
def Aik (f es by_:Nat)(S:SS U.D)(rest:List Oper)(o:Oper)(k:Aj U.D->Option α):Option α:=
 match o.op,o.dst with
 | .call ⟨.value (.func g),⟨[x,y,z]⟩,⟨[tx,ty,tz]⟩⟩,some d=>match S.val T tx x,S.val T ty y,S.val T tz z with
  | .c (.own id ver n),.c (.int .i64 i _),.c (.own idw vw m)=>match S.blk id,S.blk idw with
   |some (.rows ver' e true _ l),some (.opn vw' ew _ _ [_] _ _ cs)=>match Nat.beq f g&&Nat.beq ver ver'&&Nat.beq vw vw'&&Nat.beq es (U.sz e)&&decide (i=0)&&Nat.blt 0 es&& !Nat.beq idw id&&cs.all (K4 U),decEq ew e with
    |true,.isTrue h=>if(l.length+1)*by_<=140737488355328/\l.length+1<=maxLen then k {v:= .c (.own (Ag d rest) (S.ver (Ag d rest)) (l.length+1)),upd:=[(idw,none),(id,none),(Ag d rest,some (.opn (S.ver (Ag d rest)) e true true (@default _ (U.inh e)::l) 0 0 cs))],bump:=[Ag d rest],use:=Q2 [x,y,z],ids:=[Ag d rest,id,idw]}else none
    |_,_=>none
   |_,_=>none
  |_,_,_=>none
 |_,_=>none
variable {U T}
theorem Ayf (hU:Ad U){P:Program}{f es:Nat}(hd:Pa P f es):Fw U T P (α:=α) (Aij U T f es):=by
 intro F hP S τ rest o k r hw h;subst hP;unfold Aij at h;split at h
 ·rename_i g x y z tx ty tz d ho hdst;split at h
  ·rename_i id ver n i gi j gj hx hy hz;split at h
   ·rename_i ver' e dd c l hB;split at h
    ·rename_i hc;simp only[Z4,decide_eq_true_eq]at hc;obtain⟨⟨⟨⟨⟨c1,c2⟩,c3⟩,rfl⟩,rfl⟩,c6⟩:=hc;have c1:=Z2 c1;have c2:=Z2 c2;have c3:=Z2 c3;subst c1;subst c2;subst c3;split at h
     ·rename_i hl;have hx0:=hw.val (T:=T) tx x;rw[hx]at hx0;have hn:n=l.length:=hx0.2 _ hB rfl;subst hn;refine⟨_,h,?_,hw.app2 (B:= .rows (S.ver (Ag d rest)) e dd false (l.drop 1)) rfl (Agq rfl) trivial⟩;have:=Asb (F:=F) (T:=T) hd ho (Ag d rest) (ver:=ver) (xs:=l.map (U.eT dd e)) (by rw[Bi];exact Fg hx) (B6 hy) (B6 hz) (Am hB) (Hw hU _ _ _ _) (by simpa using hl) (Az c6) (G3 d rest);rw[Bi,<-List.map_drop,<-List.length_drop]at this;exact this
     ·cases h
    ·cases h
   ·cases h
  ·cases h
 ·cases h
theorem Ayg (hU:Ad U){P:Program}{f es by_:Nat}(hd:Sq P f es by_):Fw U T P (α:=α) (Aik U T f es by_):=by
 intro F hP S τ rest o k r hw h;subst hP;unfold Aik at h;split at h
 ·rename_i g x y z tx ty tz d ho hdst;split at h
  ·rename_i id ver n i gi idw vw m hx hy hz;split at h
   ·rename_i ver' e c l vw' ew dw qw a0 gw iw cs hB hBw;split at h
    ·rename_i hq hc _;subst hq;simp only[Z4,decide_eq_true_eq,Gg]at hc;obtain⟨⟨⟨⟨⟨⟨⟨c1,c2⟩,c3⟩,c4⟩,rfl⟩,c6⟩,c7⟩,c8⟩:=hc;have hbo:=(hw.2.2 idw _ hBw).2;have hiw:iw=0:=by
      obtain⟨⟨g1,g2⟩,_⟩:=hbo
      grind
     subst hiw;have c1:=Z2 c1;have c2:=Z2 c2;have c3:=Z2 c3;have c4:=Z2 c4;subst c1;subst c2;subst c3;subst c4;split at h
     ·rename_i hl;have hx0:=hw.val (T:=T) tx x;rw[hx]at hx0;have hn:n=l.length:=hx0.2 _ hB rfl;subst hn;have hz0:=hw.val (T:=T) tz z;rw[hz]at hz0;have hm:m=1:=hz0.2 _ hBw rfl;subst hm;refine⟨_,h,?_,hw.app3 (B:= .opn (S.ver (Ag d rest)) ew true true (@default _ (U.inh ew)::l) 0 0 cs) rfl (R6 rfl) ⟨⟨by omega,by grind⟩,fun h=>absurd rfl h,hbo.2.2.1,hbo.2.2.2.1,fun h=>by cases h⟩⟩;have:=Asc (F:=F) (T:=T) hd ho (Ag d rest) (ver:=ver) (vw:=vw) (xs:=l.map (U.eT true ew)) (e:=cs.map (SV.toV U)) (by rw[Bi];exact Fg hx) (B6 hy) (Fg hz) (Am hB) (Hw hU _ _ _ _) (Am hBw) (Aat c8) (Cy c7) (by rw[Bi];exact hl) (Az c6) (G3 d rest);rw[Bi]at this;exact this
     ·cases h
    ·cases h
   ·cases h
  ·cases h
 ·cases h
end
def Abh (P:Program)(f:FuncId):Prop:=Cg P f/\ ∀(b o n cap:Nat) (x y c0 c2 c3 c4 c5:Value) (s k:Int) (w:World),0<=Ci .i64 k s->Ci .i64 k s<Ci .i64 (Fp .i64 k 1) s->Ci .i64 (Fp .i64 k 1) s<=(n:Int)->n<=cap->cap<=maxLen->
 Calls P f #[.agg #[.slice (some ⟨b,o,none⟩) n cap,x,y],.agg #[c0,.int .i64 s,c2,c3,c4,c5],.int .i64 k] w fun e w'=>e= .returned (.slice (some ⟨b,o+(Ci .i64 k s).toNat,none⟩) (Ci .i64 (Fp .i64 k 1) s - Ci .i64 k s).toNat (cap - (Ci .i64 k s).toNat))/\w'.os=w.os/\w'.tape=w.tape/\w'.output=w.output/\w.heap.size<=w'.heap.size/\ ∀b,b<w.heap.size->w'.heap[b]? =w.heap[b]?
section
variable {T:Tab} {F:Fr} {S:St}
theorem Ac.more{a:Act}{w w':World}{σ:Nat->List Nat}{β:Nat->Option (Nat×Nat×Nat)}(hx:Ac F S a w σ β)(h:w'.os=w.os/\w'.tape=w.tape/\w'.output=w.output/\w.heap.size<=w'.heap.size/\ ∀b,b<w.heap.size->w'.heap[b]? =w.heap[b]?):Ac F S a w' σ β:=by
 obtain⟨h1,h2,h3,h4,h5⟩:=h;have hext:Cq (S.cx w σ β) (S.cx w' σ β):=⟨fun _=>Z9 _,fun id B h _=>⟨B,h,rfl,rfl,rfl,rfl⟩⟩;have hn: ∀p,Bg w σ w' σ p:=fun p b hb _=>⟨h5 b hb,rfl⟩;refine⟨⟨hx.hr.far,fun id B hB=> ?_,fun b hb=>hx.hr.new b (Dn h4 hb)⟩,hx.mpos,⟨h1.trans hx.kp.os,h2.trans hx.kp.tape,h3.trans hx.kp.output,Dn hx.kp.size h4,fun b hb hc=>(h5 b (Ee hb hx.kp.size)).trans (hx.kp.heap b hb hc),hx.kp.free⟩,hx.inn,fun t=>(hx.env t).mono hext (hn [])⟩
 obtain⟨e1,e2⟩:=hx.hr.blk id B hB;exact⟨e1,e2.mono hext rfl (hn [id])⟩
theorem Asd{E:Cx}{u v1 v2:V}{c:Value}(h:RA E (.g [u,v1,v2]) c): ∃x y z,c= .agg #[x,y,z]/\RV E [] u x:=by
 cases h with
 |g _ arr hs h=>
  match arr,hs,h with
  |⟨[x,y,z]⟩,hs,h=>
   obtain⟨c,h1,h2⟩:=h 0 u rfl;cases h1;exact⟨x,y,z,rfl,h2⟩
theorem Ase{E:Cx}{v0 v2 v3 v4 v5:V}{s:Int}{c:Value}(h:RA E (.g [v0,.int .i64 s,v2,v3,v4,v5]) c): ∃c0 c2 c3 c4 c5,c= .agg #[c0,.int .i64 s,c2,c3,c4,c5]:=by
 cases h with
 |g _ arr hs h=>
  match arr,hs,h with
  |⟨[c0,c1,c2,c3,c4,c5]⟩,hs,h=>
   obtain⟨c,h1,h2⟩:=h 1 _ rfl;cases h1;cases h2 with
   |c h2=>cases h2;exact⟨c0,c2,c3,c4,c5,rfl⟩
theorem Asf{o:Oper}{t:Nat}{x:Operand}{lo hi:Option Operand}(h:o.op= .slice t x lo hi none){id ver off n:Nat}(hx:S.val [] x= .c (.own id ver off n)){B:Blk}(hB:S.H id=some B)(hver:B.ver=ver)(hes:C0 T t=some B.es)
  {l hh:Int} (hl:Bp S 0 lo=some l) (hr:Bp S n hi=some hh) (hb:0<=l/\l<=hh/\hh<=n):Ai F T o S {v:= .c (.own id ver (off+l.toNat) (hh - l).toNat),use:=Q2 ([x]++lo.toList++hi.toList),ids:=[id]}:=A9 _ _ fun he S' h1 h2=>by
 have key: ∀(d:Int) (y:Option Operand) (m:Int),(∀z∈y.toList,z∈[x]++lo.toList++hi.toList)->Bp S d y=some m->Bp S' d y=some m:=by
  intro d y m hy hn;cases y with
  |none=>exact hn
  |some z=>
   unfold Bp at hn ⊢;simp only at hn ⊢;rw[By (hy z (by simp)) h1];exact hn
 exact Aeq he.tab h (vc h1 (by simp) hx) (by grind) hver hes (key _ _ _ (fun z hz=>by grind) hl) (key _ _ _ (fun z hz=>by grind) hr) hb.1 hb.2.1 hb.2.2
theorem Asg{o:Oper}{f:Nat}(hd:Abh F.P f){x y z:Operand}{ats:Array TypeId}(h:o.op= .call ⟨.value (.func f),#[x,y,z],ats⟩){shx shy:List Nat}{id ver n:Nat}{u1 u2 v0 v2 v3 v4 v5:V}{s k:Int}{xs:List (List V)}(hx:S.val shx x= .g [.own id ver 0 n,u1,u2])(hy:S.val shy y= .g [v0,.int .i64 s,v2,v3,v4,v5])(hz:S.val [] z= .c (.int .i64 k))
  (hX:S.H id=some ⟨ver,1,xs⟩) (hn:n=xs.length) (h1:0<=Ci .i64 k s) (h2:Ci .i64 k s<Ci .i64 (Fp .i64 k 1) s) (h3:Ci .i64 (Fp .i64 k 1) s<=(n:Int)):
  Ai F T o S {v:= .c (.own id ver (Ci .i64 k s).toNat (Ci .i64 (Fp .i64 k 1) s - Ci .i64 k s).toNat),use:=Q2 [x,y,z],ids:=[id]}:=by
 intro henv hdst S' e1 e2 a w hs;obtain⟨hdf,hsz,σ,β,hs⟩:=hs;have hHx:S'.H id=S.H id:=(e2 id (by simp)).1;have hv: ∀sh,∀u∈[x,y,z],S'.val sh u=S.val sh u:=fun sh u hu=>By (l:=[x,y,z]) hu (fun t ht=>e1 t ht) sh
 have g1:=Q4 hs shx x;have g2:=Q4 hs shy y;have g3:=Q4 hs [] z;rw[hv shx x (by simp),hx]at g1;rw[hv shy y (by simp),hy]at g2;rw[hv [] z (by simp),hz]at g3;have q3:=Bo g3;obtain⟨a0,a1,a2,p1,r0⟩:=Asd g1;obtain⟨c0,c2,c3,c4,c5,p2⟩:=Ase g2;cases r0 with
 |c r0=>cases r0
 |own _ _ _ _ _ A n' cap hn' hver hcap hmax hh=>
  subst hn';obtain⟨k1,k2⟩:=hh _ (hHx.trans hX) rfl;have hpos:0<cap:=by omega
  obtain⟨b,o',m,b1,rfl,b3⟩:=k2.at_ hpos;refine .inr (.inr ⟨f,_,w,Abg h hd.1 w,?_⟩);have ea:(#[x,y,z]:Array Operand).map a.eval= #[.agg #[.slice (some ⟨b,o'+0*1,none⟩) n' cap,a1,a2],.agg #[c0,.int .i64 s,c2,c3,c4,c5],.int .i64 k]:=by simp[p1,p2,q3]
  rw[ea];refine(hd.2 b (o'+0*1) n' cap a1 a2 c0 c2 c3 c4 c5 s k w h1 h2 h3 hcap hmax).mono ?_;rintro e w' ⟨rfl,hm⟩;refine⟨_,rfl,by grind [Df],by grind [Q7],σ,β,?_⟩;refine(hs.more hm).putT hsz hdst (.c (.own _ _ _ _ _ _ _ _ rfl hver (by omega) (by omega) fun B hB hb=> ?_));have hB:S'.H id=some B:=hB;rw[hHx,hX]at hB;cases hB;refine⟨by show _<=xs.length;omega,.inr ⟨b,o',m,b1,?_,by omega⟩⟩;show some _=some _;congr 2;show o'+0*1+_=o'+_*1;omega
end
section
variable (U:Un) (T:Tab) {α:Type}
def Abi:Operand->Bool
 | .tmp _=>true
 |_=>false
def Ail (f:Nat)(S:SS U.D)(rest:List Oper)(o:Oper)(k:Aj U.D->Option α):Option α:=
 match o.op with
 | .call ⟨.value (.func g),⟨[x,y,z]⟩,⟨[tx,ty,tz]⟩⟩=>match S.val T tx x,S.val T ty y,S.val T tz z with
  | .g [.own id ver n,u1,u2],.g [c0,.int .i64 s _,c2,c3,c4,c5],.c (.int .i64 j _)=>match S.blk id with
   |some (.rows ver' e dd _ l)=>match Nat.beq f g&&Nat.beq ver ver'&&Nat.beq (U.sz e) 1&&Abi x&&Abi y with
    |true=>if(0:Int)<=Ci .i64 j s/\Ci .i64 j s<Ci .i64 (Fp .i64 j 1) s/\Ci .i64 (Fp .i64 j 1) s<=(l.length:Int)then k {v:= .c (.part id ver (Ci .i64 j s) (Ci .i64 (Fp .i64 j 1) s)),use:=Q2 [x,y,z],ids:=[id]}else none
    |false=>none
   |_=>none
  |_,_,_=>none
 |_=>none
def Aim (S:SS U.D)(rest:List Oper)(o:Oper)(k:Aj U.D->Option α):Option α:=
 match o.op with
 | .slice t x lo hi none=>match S.val T t x with
  | .c (.part id ver p q)=>match S.blk id,C0 T t with
   |some (.rows ver' e d c l),some es=>match Nat.beq ver' ver&&Nat.beq es (U.sz e),Hq U T S 0 lo,Hq U T S (q - p) hi with
    |true,some a,some b=>if(0:Int)<=a/\a<=b/\b<=q - p then k {v:= .c (.part id ver (p+a) (p+b)),use:=Q2 ([x]++lo.toList++hi.toList),ids:=[id]}else none
    |_,_,_=>none
   |_,_=>none
  |_=>none
 |_=>none
def Ain (S:SS U.D)(rest:List Oper)(o:Oper)(k:Aj U.D->Option α):Option α:=
 match o.op with
 | .buildSlice t n parts=>Qy U T S o.dst [] t n parts k
 |_=>none
variable {U T}
theorem Ayh (hU:Ad U){P:Program}:Fw U T P (α:=α) (Ain U T):=by
 intro F hP S τ rest o k r hw h;unfold Ain at h;split at h
 ·rename_i ho;exact Agp hU hw ho h
 ·cases h
theorem Ayi{P:Program}:Fw U T P (α:=α) (Aim U T):=by
 intro F hP S τ rest o k r hw h;subst hP;unfold Aim at h;split at h
 ·rename_i t x lo hi ho;have hx0:=hw.val (T:=T) t x;split at h
  ·rename_i id ver p q hx;rw[hx]at hx0;split at h
   ·rename_i ver' e d c l es hB hes;split at h
    ·rename_i a b hc ha hb;simp only[Z4]at hc;have h1:=Z2 hc.1;have h2:=Z2 hc.2;subst h1;subst h2;split at h
     ·rename_i hr;obtain⟨q1,q2,q3⟩:=hx0.2 _ hB rfl;have hvx:=Eo hx (by simp) rfl;refine Ah.pure hw (v:= .c (.part id ver' (p+a) (p+b))) ⟨hx0.1,fun B' hB' _=> ?_⟩ ?_ h
      ·rw[hB]at hB';cases hB';exact⟨by omega,by omega,by omega⟩
      ·have hb':Bp (S.toSt U) (((q - p).toNat:Nat):Int) hi=some b:=by
        rw[show(((q - p).toNat:Nat):Int)=q - p by omega];exact Lo hb
       have:=Asf (F:=F) (T:=T) ho hvx (Am hB) rfl hes (Lo ha) hb' (by omega);rw[show p.toNat+a.toNat=(p+a).toNat by omega,show b - a=p+b - (p+a)by omega]at this;exact this
     ·cases h
    ·cases h
   ·cases h
  ·cases h
 ·cases h
theorem Aio{S:SS U.D}{t:Nat}{x:Operand}(hx:Abi x=true)(sh:List Nat):(S.toSt U).val sh x=(S.val T t x).toA U:=by
 cases x with
 |tmp x=>rfl
 |_=>cases hx
theorem Ayj (hU:Ad U){P:Program}{f:Nat}(hd:Abh P f):Fw U T P (α:=α) (Ail U T f):=by
 intro F hP S τ rest o k r hw h;subst hP;unfold Ail at h;split at h
 ·rename_i g x y z tx ty tz ho;split at h
  ·rename_i id ver n u1 u2 c0 s gs c2 c3 c4 c5 j gj hx hy hz;split at h
   ·rename_i ver' e dd c l hB;split at h
    ·rename_i hc;simp only[Z4]at hc;obtain⟨⟨⟨⟨c1,cv⟩,ce⟩,cx⟩,cy⟩:=hc;have c1:=Z2 c1;have cv:=Z2 cv;have ce:=Z2 ce;subst c1;subst cv;split at h
     ·rename_i hl;have hx0:=hw.val (T:=T) tx x;rw[hx]at hx0;have hx1:(SV.own id ver n:SV U.D).ok S τ:=hx0 _ (List.mem_cons_self ..);have hn:n=l.length:=hx1.2 _ hB rfl;have hver:ver<S.ver id:=hx1.1;have hvx:=Aio (U:=U) (T:=T) (S:=S) (t:=tx) cx [];have hvy:=Aio (U:=U) (T:=T) (S:=S) (t:=ty) cy [];rw[hx]at hvx;rw[hy]at hvy;refine⟨_,h,?_,hw.pure ⟨hver,fun B hB' hb=> ?_⟩⟩
      ·exact Asg (F:=F) (T:=T) hd ho hvx hvy (B6 hz) (by rw[Am hB];simp only[SB.toB,ce];rfl) (by rw[hn,Bi]) hl.1 hl.2.1 (by rw[hn];exact hl.2.2)
      ·rw[hB]at hB';cases hB';exact⟨hl.1,Int.le_of_lt hl.2.1,hl.2.2⟩
     ·cases h
    ·cases h
   ·cases h
  ·cases h
 ·cases h
end
end Go.Eng
