/- The plain law for FnApartAll; no condition. -/
import Derived.Test.YtjdblamhaljjbaaGreatFFnApartAllPa
set_option linter.all false
namespace Go.Proofs.YtjdblamhaljjbaaGreat
open Go.Eng Go.ChangeShapes Go.WideShapes Go.ChangeAt Go.RowKit
def AlW (l:List Bg)(k:Int):Prop:= ∃t,AtT l t∧Al l.length t k
structure A3g (w w':Es):Prop where
 conf:w'.fC=w.fC
 len:w'.fL.length=w.fL.length
 node: ∀k,AlW w.fL k->AlW w'.fL k∧(∃a b c,gt w'.fL k=lnk (gt w.fL k) a b c)∧ ∀n,Ak5 w'.fL n k=Ak5 w.fL n k
theorem A8c (n:Bg):lnk n n.B5 n.Hg n.Hh=n:=rfl
theorem A3g.refl (w:Es):A3g w w:=⟨rfl,rfl,fun k h=>⟨h,⟨_,_,_,(A8c _).symm⟩,fun _=>rfl⟩⟩
theorem A3g.trans{a b c:Es}(h:A3g a b)(g:A3g b c):A3g a c:=by
 refine⟨g.conf.trans h.conf,g.len.trans h.len,fun k hk=> ?_⟩;obtain⟨h1,⟨x,y,z,h2⟩,h3⟩:=h.node k hk;obtain⟨g1,⟨u,v,w,g2⟩,g3⟩:=g.node k h1;exact⟨g1,⟨u,v,w,by rw[g2,h2];rfl⟩,fun n=>(g3 n).trans (h3 n)⟩
theorem A9k{w w':Es}(hc:w'.fC=w.fC)(hl:w'.fL=w.fL):A3g w w':=⟨hc,by rw[hl],fun k h=>by rw[hl];exact⟨h,⟨_,_,_,(A8c _).symm⟩,fun _=>rfl⟩⟩
theorem Bnw{N:Int}{t t':Int->Lk}(h: ∀y,Al N t y->Lv N t' y∧(t' y).up=(t y).up∧(Cu N t y->Al N t ((t y).up - 1)->Cu N t' y)){k:Int}(hk:Al N t k):Al N t' k:=by
 induction hk with
 |root a b=>
  obtain⟨h1,h2,h3⟩:=h _ (.root a b);exact .root h1 (by rw[h2];exact b)
 |step a b c ih=>
  obtain⟨h1,h2,h3⟩:=h _ (.step a b c);exact .step h1 (h3 b c) (by rw[h2];exact ih)
theorem Bys{N:Int}{t:Int->Lk}{g:Int}(hg:Oo N t g){k:Int}(hk:Al N t k):Al N (rem t g) k:=by
 refine Bnw (fun y hy=> ?_) hk
 have hne:y≠g:=fun e=>hy.noOr (e ▸ hg);refine⟨Apl.2 ⟨hne,hy.lv⟩,by rw[Ajr hne],fun hc hu=>(Ay0 hne).2 ⟨fun e=> ?_,hc⟩⟩
 rw[e,Int.add_sub_cancel]at hu;exact hu.noOr hg
theorem Byt{N:Int}{t:Int->Lk}{g:Int}(hg:(t g).lv=false){k:Int}(hk:Al N t k):Al N (clr t g) k:=by
 refine Bnw (fun y hy=> ?_) hk;exact⟨(Auj hg).2 hy.lv,by rw[Agf hg hy.lv],fun hc _=>(A2k hg hy.lv).2 hc⟩
theorem Bnx{N:Int}{t t':Int->Lk}(h: ∀x,0≤x∧x<N->t' x=t x){k:Int}(hk:Al N t k):Al N t' k:=by
 refine Bnw (fun y hy=> ?_) hk
 have hy1:=hy.lv;refine⟨⟨hy1.1,by rw[h y hy1.1];exact hy1.2⟩,by rw[h y hy1.1],fun hc _=> ?_⟩
 have hc1:=hc.1;unfold Cu Lv;rw[h y hy1.1,h _ hc1.1];exact hc
theorem AlW.al{l:List Bg}{t:Int->Lk}(A:AtT l t){k:Int}(h:AlW l k):Al l.length t k:=by
 obtain⟨t',A',h'⟩:=h;exact Bnx (fun x hx=>by rw[A x hx,A' x hx]) h'
theorem Bdn{w w':Es}{t t':Int->Lk}(R:Rg w.fL)(R':Rg w'.fL)(A:AtT w.fL t)(A':AtT w'.fL t')(F:Aic w.fL.length t (Awb w.fQ))(hc:w'.fC=w.fC)(hl:w'.fL.length=w.fL.length)
  (hn: ∀k,Al w.fL.length t k->Al w.fL.length t' k∧(t' k).up=(t k).up∧ ∃a b c,gt w'.fL k=lnk (gt w.fL k) a b c):A3g w w':=by
 refine⟨hc,hl,fun k hk=> ?_⟩
 have h:=hk.al A;obtain⟨h1,h2,h3⟩:=hn k h;refine⟨⟨t',A',by rw[hl];exact h1⟩,h3,fun n=> ?_⟩
 rw[A3c A' R',A3c A R,hl];obtain⟨d,U⟩:=F.uw;exact Azk _ _ fun y hy=>(hn y ((Bgr U n k h).1 y hy).2).2.1
theorem Ayo{α:Type}[Inhabited α](a:α)(l:List α){i:Nat}(h:i<l.length):gt (a::l) ((i+1:Nat):Int)=gt l (i:Int):=by
 rw[Abh (by simp;omega),Abh h];rfl
theorem Bny{α:Type}[Inhabited α](f:α->Nat): ∀(l l':List α),l'.length=l.length->(∀x:Nat,x<l.length->f (gt l' (x:Int))=f (gt l (x:Int)))->(l'.map f).sum=(l.map f).sum:=by
 intro l
 induction l with
 |nil=>intro l' h _;rw[Mv.1 h]
 |cons a l ih=>
  intro l' h hx;cases l' with
  |nil=>simp at h
  |cons b l'=>
   have hl:l'.length=l.length:=by simpa using h
   have h0:=hx 0 (by simp)
   have:=ih l' hl fun x h=>by
    have:=hx (x+1) (by simp;omega)
    rwa[Ayo _ _ (by omega),Ayo _ _ h]at this
   simp only[Z8,List.sum_cons,this];rw[show f b=f a from h0]
theorem Br0{α:Type}[Inhabited α](f:α->Nat): ∀(l l':List α) (g:Nat),l'.length=l.length->g<l.length->(∀x:Nat,x<l.length->x≠g->f (gt l' (x:Int))=f (gt l (x:Int)))->(l'.map f).sum+f (gt l (g:Int))=(l.map f).sum+f (gt l' (g:Int)):=by
 intro l
 induction l with
 |nil=>intro l' g _ h;simp at h
 |cons a l ih=>
  intro l' g h hg hx;cases l' with
  |nil=>simp at h
  |cons b l'=>
   have hl:l'.length=l.length:=by simpa using h
   simp only[Z8,List.sum_cons];cases g with
   |zero=>
    have:=Bny f l l' hl fun x h=>by
     have:=hx (x+1) (by simp;omega) (by omega)
     rwa[Ayo _ _ (by omega),Ayo _ _ h]at this
    rw[this]
    show f b+_+f a=f a+_+f b;omega
   |succ g=>
    have hg:g<l.length:=by simpa using hg
    have h0:f b=f a:=hx 0 (by simp) (by omega)
    have:=ih l' g hl hg fun x h hn=>by
     have:=hx (x+1) (by simp;omega) (by omega)
     rwa[Ayo _ _ (by omega),Ayo _ _ h]at this
    rw[Ayo _ _ hg,Ayo _ _ (by omega)]
    omega
theorem A1i{f:Bg->Nat}{l l':List Bg}{g:Int}(hl:l'.length=l.length)(hg:0≤g∧g<(l.length:Int))(hx: ∀x,0≤x∧x<(l.length:Int)->x≠g->f (gt l' x)=f (gt l x)):(l'.map f).sum+f (gt l g)=(l.map f).sum+f (gt l' g):=by
 have:=Br0 f l l' g.toNat hl (by omega) fun x h hn=>hx x ⟨by omega,by omega⟩ (by omega)
 rwa[show((g.toNat:Nat):Int)=g by omega]at this
theorem A1j (c:Fa){st:Int}(h:st≠1)(g:Int):wtN c (Ar2 st g)=0:=by unfold wtN Ar2;rw[if_neg h]
structure Bfl (w w':Es)(E:Int):Prop where
 inv:Inv w'
 mem: ∀x∈w'.fP.Gl,0≤x∧x≤255
 ep: ∀k,0≤k∧k<(w'.fL.length:Int)->EpP E (gt w'.fL k)
 pot:pot w'<pot w
 wt:wt w'≤wt w
 stay:A3g w w'
theorem Bfl.good{w w':Es}{E:Int}(S:Bfl w w' E){n:Nat}(G:E7 w E n):E7 w' E n:=⟨S.inv,S.mem,S.ep,by have:=S.wt;have:=G.wt;omega⟩
theorem Bnz{w:Es}{E:Int}{n:Nat}(G:E7 w E n){x:A3}{qs:List A3}(hq:w.fQ=x::qs)(h0:0<x.Dt.length):Bfl w (A3f w x qs) E:=by
 have e:wtQ w.fC (Bnq x)+1=wtQ w.fC x:=by
  unfold wtQ Bnq;simp only[List.length_take];omega
 have ep:pot (A3f w x qs)+1=pot w:=by
  unfold pot;rw[hq]
  show(w.fL.map (wtN w.fC)).sum+((Bnq x::qs).map (wtQ w.fC)).sum+1=_;simp only[Z8,List.sum_cons];omega
 refine⟨Bry G.inv hq h0,G.mem,G.ep,by omega,?_,A9k rfl rfl⟩
 unfold wt
 show pot (A3f w x qs)+(w.Rl++[_]).length≤_;rw[Kr,List.length_singleton];omega
theorem Biv{w:Es}{E:Int}{n:Nat}(G:E7 w E n){x:A3}{qs:List A3}(hq:w.fQ=x::qs)(hc:0<x.Af.length):Bfl w (Ay2 w x qs) E:=by
 have X:=Bfk G.inv hq hc;obtain⟨b1,b2,b3,b4,b5,b6⟩:=Ap X.rc.conf
 have ht:=X.to
 have hd:=X.rc.done
 have e:wtQ w.fC (A0r w x)<wtQ w.fC x:=by
  have hm:w.fC.Ez.toNat*x.Af.length=w.fC.Ez.toNat*(x.Af.length - 1)+w.fC.Ez.toNat:=by
   conv=>lhs;rw[show x.Af.length=x.Af.length - 1+1 by omega]
   rw[Nat.mul_succ]
  unfold A0r;split
  ·unfold wtQ;simp only;omega
  ·unfold wtQ;simp only[List.length_drop];omega
 have ep:pot (Ay2 w x qs)<pot w:=by
  unfold pot;rw[hq]
  show(w.fL.map (wtN w.fC)).sum+((A0r w x::qs).map (wtQ w.fC)).sum<_;simp only[Z8,List.sum_cons];omega
 refine⟨Bnt G.inv hq hc,Bns G.mem,G.ep,ep,?_,A9k rfl rfl⟩;unfold wt
 show pot (Ay2 w x qs)+w.Rl.length≤_;omega
theorem Bn0{w:Es}(I:Inv w){t:Int->Lk}(A:AtT w.fL t)(F:Aic w.fL.length t (Awb w.fQ)){x:A3}{qs:List A3}(hq:w.fQ=x::qs)(hf:x.B5≠0):
  (∀y,0≤y∧y<(w.fL.length:Int)->y≠x.B5 - 1->gt (Az7 w.fL (x.B5 - 1)) y=Biu (gt w.fL (x.B5 - 1)) (gt w.fL y) (x.B5 - 1) y)∧gt (Az7 w.fL (x.B5 - 1)) (x.B5 - 1)=Ar2 2 (gt w.fL (x.B5 - 1)).Bz:=by
 have X:=Bcf I A F hq hf;exact⟨fun y hy hne=>Bgx I.rg X.lv.1 hy hne X.pv (X.nf y hy),Bgy X.lv.1⟩
theorem Biw{w:Es}{E:Int}{n:Nat}(G:E7 w E n)(hE:0≤E){x:A3}{qs:List A3}(hq:w.fQ=x::qs)(hf:x.B5≠0):Bfl w (Ay3 w x qs) E:=by
 obtain⟨t,A,F⟩:=G.inv.forest
 have X:=Bcf G.inv A F hq hf;obtain⟨hg,hb⟩:=Bn0 G.inv A F hq hf
 have hk:=X.lv.1
 have L:=G.inv.live A X.lv
 have I':=Bnv G.inv hq hf
 have hN:=Bdm w.fL (x.B5 - 1)
 have hs:=A1i (f:=wtN w.fC) hN hk fun y hy hne=>by rw[hg y hy hne];rfl
 rw[hb,A1j _ (by decide)]at hs
 have e1:wtN w.fC (gt w.fL (x.B5 - 1))=2+(gt w.fL (x.B5 - 1)).Dt.length+w.fC.Ez.toNat*(gt w.fL (x.B5 - 1)).Af.length:=by unfold wtN;rw[if_pos L.st]
 have e2:wtQ w.fC (Aje (gt w.fL (x.B5 - 1)) x.B5)=1+(gt w.fL (x.B5 - 1)).Dt.length+w.fC.Ez.toNat*(gt w.fL (x.B5 - 1)).Af.length:=rfl
 have e3:wtQ w.fC (Bdl w.fL x)=wtQ w.fC x:=rfl
 have ep:pot (Ay3 w x qs)<pot w:=by
  unfold pot;rw[hq]
  show((Az7 w.fL (x.B5 - 1)).map (wtN w.fC)).sum+((Aje (gt w.fL (x.B5 - 1)) x.B5::Bdl w.fL x::qs).map (wtQ w.fC)).sum<_;simp only[Z8,List.sum_cons];omega
 refine⟨I',?_,fun y hy=> ?_,ep,?_,?_⟩
 ·show ∀y∈(Ahf w.fP _).Gl,_;rw[(Ayn G.inv hk).2.1];exact G.mem
 ·have hy:0≤y∧y<((Az7 w.fL (x.B5 - 1)).length:Int):=hy;rw[hN]at hy
  show EpP E (gt (Az7 w.fL (x.B5 - 1)) y)
  by_cases e:y=x.B5 - 1
  ·rw[e,hb];exact⟨hE,hE,⟨Int.le_refl 0,by show(0:Int)≤1000;omega⟩⟩
  ·rw[hg y hy e]
   have:=G.ep y hy;exact⟨this.ep,this.ue,this.cur⟩
 ·unfold wt
  show pot (Ay3 w x qs)+w.Rl.length≤_;omega
 ·refine Bdn G.inv.rg I'.rg A (Bgw A hk hN hg hb) F rfl hN fun y hy=> ?_
  have hne:y≠x.B5 - 1:=fun e=>hy.noOr (e ▸ X.or);exact⟨Bys X.or hy,by rw[Ajr hne],_,_,_,hg y hy.lv.1 hne⟩
def A4x (n:Bg)(gens:Int):Bg:=if gens≤n.Bz then Ar2 3 n.Bz else Ar2 0 (n.Bz+1)
def Axc (w:Es)(x:A3):List Bg:=if x.As=0 then w.fL else w.fL.set (x.As - 1).toNat (A4x (gt w.fL (x.As - 1)) w.fC.E0)
def A3h (w:Es)(x:A3)(qs:List A3):Es:=Es.mk w.fC w.fP (Axc w x) qs w.Rl
theorem Bcg (w:Es)(x:A3):(Axc w x).length=w.fL.length:=by unfold Axc;split<;>simp
structure Byu (w:Es)(x:A3)(qs:List A3):Prop where
 rc:Brx w.fC x
 k:x.As≠0->0≤x.As - 1∧x.As - 1<(w.fL.length:Int)
 st:x.As≠0->(gt w.fL (x.As - 1)).Ja=2
 gn:x.As≠0->1≤(gt w.fL (x.As - 1)).Bz∧(gt w.fL (x.As - 1)).Bz≤w.fC.E0
 no:x.As≠0->x.As - 1 ∉ slL qs
theorem Bgz{w:Es}(I:Inv w){x:A3}{qs:List A3}(hq:w.fQ=x::qs):Byu w x qs:=by
 have R:=Axk.1 (Axr I hq).1;obtain⟨b1,b2,b3,b4,b5,b6⟩:=Ap I.conf
 have hx:x∈w.fQ:=by rw[hq];exact List.mem_cons_self
 have hs:=R.slot
 have h1:x.As≠0->(0≤x.As - 1∧x.As - 1<(w.fL.length:Int))∧(gt w.fL (x.As - 1)).Ja=2:=fun h=>by
  have:=Bgs hx h;rw[sb1 (by omega) (by omega)]at this
  exact(I.sli _).1 this
 refine⟨R,fun h=>(h1 h).1,fun h=>(h1 h).2,fun h=>(Ay1 (I.node _ (h1 h).1)).2.2,fun h=> ?_⟩
 have:=I.sln;rw[hq]at this
 have this:((if x.As=0 then []else [Aqd .i64 x.As 1])++slL qs).Nodup:=this
 rw[if_neg h,sb1 (by omega) (by omega)]at this
 exact(List.nodup_cons.1 this).1
theorem Byv{w:Es}{x:A3}{qs:List A3}(X:Byu w x qs){y:Int}(hy:0≤y∧y<(w.fL.length:Int)):gt (Axc w x) y=if x.As≠0∧y=x.As - 1 then A4x (gt w.fL y) w.fC.E0 else gt w.fL y:=by
 unfold Axc
 by_cases h:x.As=0
 ·rw[if_pos h,if_neg (fun q=>q.1 h)]
 ·rw[if_neg h,Apo (X.k h) hy]
  by_cases e:y=x.As - 1
  ·rw[if_pos e,if_pos ⟨h,e⟩,e]
  ·rw[if_neg e,if_neg (fun q=>e q.2)]
theorem Bfm{n:Bg}{gens:Int}(h:1≤n.Bz∧n.Bz≤gens): ∃st g,A4x n gens=Ar2 st g∧(st=0∨st=3)∧1≤g∧g≤gens:=by
 unfold A4x;split
 ·exact⟨3,_,rfl,.inr rfl,h⟩
 ·exact⟨0,_,rfl,.inl rfl,by omega,by omega⟩
theorem Aw5{w:Es}{x:A3}{qs:List A3}(X:Byu w x qs){y:Int}(hy:0≤y∧y<(w.fL.length:Int)):(gt (Axc w x) y=gt w.fL y∧ ¬(x.As≠0∧y=x.As - 1))∨((x.As≠0∧y=x.As - 1)∧(gt w.fL y).Ja=2∧ ∃st g,gt (Axc w x) y=Ar2 st g∧(st=0∨st=3)∧1≤g∧g≤w.fC.E0):=by
 rw[Byv X hy]
 by_cases h:x.As≠0∧y=x.As - 1
 ·rw[if_pos h];refine .inr ⟨h,by rw[h.2];exact X.st h.1,?_⟩
  exact Bfm (by rw[h.2];exact X.gn h.1)
 ·rw[if_neg h];exact .inl ⟨rfl,h⟩
theorem A8d{w:Es}(I:Inv w){t:Int->Lk}(A:AtT w.fL t)(F:Aic w.fL.length t (Awb w.fQ)){x:A3}{qs:List A3}(hq:w.fQ=x::qs)(hf:x.B5=0):
  ∃t',AtT (Axc w x) t'∧Aic w.fL.length t' (Awb qs)∧(∀k,Al w.fL.length t k->Al w.fL.length t' k∧(t' k).up=(t k).up):=by
 have X:=Bgz I hq
 have F1:Aic w.fL.length t ((x.As,0)::Awb qs):=by rw[hq]at F;rw[←hf];exact F
 by_cases h:x.As=0
 ·refine⟨t,?_,A76 F1,fun k hk=>⟨hk,rfl⟩⟩;unfold Axc;rw[if_pos h];exact A
 ·have hk:=X.k h
  have hlv:(t (x.As - 1)).lv=false:=by rw[A _ hk];show((gt w.fL (x.As - 1)).Ja==1)=false;rw[X.st h];rfl
  refine⟨clr t (x.As - 1),fun y hy=> ?_,Bb5 F1 h fun e he e2=> ?_,fun k hk=>⟨Byt hlv hk,by rw[Agf hlv hk.lv]⟩⟩
  ·rw[Bcg]at hy;unfold clr;rcases Aw5 X hy with ⟨e,f⟩|⟨f,_,st,g,e,hs,_⟩
   ·rw[if_neg (fun r=>f ⟨h,r⟩),e,A y hy]
   ·rw[if_pos f.2,e];rcases hs with s|s<;>subst s<;>rfl
  ·obtain⟨z,hz,e3⟩:=E8.1 he
   have e3:z.As=e.1:=by rw[←e3]
   refine X.no h (List.mem_flatMap.2 ⟨z,hz,?_⟩)
   have hs:=X.rc.slot;obtain⟨b1,b2,b3,b4,b5,b6⟩:=Ap I.conf;rw[e3,e2,if_neg h,sb1 (by omega) (by omega)];simp
theorem Br1{w:Es}(I:Inv w){x:A3}{qs:List A3}(hq:w.fQ=x::qs)(hc:x.Af=[])(hf:x.B5=0):Inv (A3h w x qs):=by
 obtain⟨t,A,F⟩:=I.forest
 have X:=Bgz I hq;obtain⟨t',A',F',_⟩:=A8d I A F hq hf
 have hN:=Bcg w x
 have hch:chL w.fQ=chL qs:=by rw[hq];show x.Af++_=_;rw[hc];rfl
 have hsl:slL w.fQ=(if x.As=0 then []else [Aqd .i64 x.As 1])++slL qs:=by rw[hq];rfl
 have hsn:=I.sln;rw[hsl]at hsn
 refine⟨I.pool,by show((Axc w x).length:Int)=_;rw[hN];exact I.len,fun y hy=> ?_,fun y hy c=> ?_,fun y hy=> ?_,⟨t',A',by show Aic ((Axc w x).length:Int) t' _;rw[hN];exact F'⟩,fun y hy=>I.wrec y (by rw[hq];exact Z56 _ hy),by show(chL qs).Nodup;rw[←hch];exact I.chn,fun c=>by show c∈chL qs ↔ _;rw[←hch];exact I.chi c,?_,fun s=> ?_,I.log⟩
 ·have hy:0≤y∧y<((Axc w x).length:Int):=hy;rw[hN]at hy
  show Aso w.fC (gt (Axc w x) y)=true;rcases Aw5 X hy with ⟨e,_⟩|⟨_,_,st,g,e,hs,hg⟩
  ·rw[e];exact I.node y hy
  ·rw[e];exact A1t I.conf (by omega) (by omega) hg
 ·have hy:0≤y∧y<((Axc w x).length:Int):=hy;rw[hN]at hy
  show c∈(gt (Axc w x) y).Af ↔ _;rcases Aw5 X hy with ⟨e,_⟩|⟨_,h2,st,g,e,hs,hg⟩
  ·rw[e];exact I.own y hy c
  ·rw[e]
   have:=I.own y hy c;rw[Aw4 (I.node y hy) (by omega)]at this
   exact this
 ·have hy:0≤y∧y<((Axc w x).length:Int):=hy;rw[hN]at hy
  show(gt (Axc w x) y).Er.all (Ar5 w.fC (gt (Axc w x) y).Af)=true∧Ank (gt (Axc w x) y).Er=true∧Asm w.fC w.fP.Gl (gt (Axc w x) y)=true;rcases Aw5 X hy with ⟨e,_⟩|⟨_,h2,st,g,e,hs,hg⟩
  ·rw[e];exact I.thing y hy
  ·rw[e];exact⟨rfl,rfl,rfl⟩
 ·exact(Agh.1 hsn).2.1
 ·show s∈slL qs ↔ (0≤s∧s<((Axc w x).length:Int))∧(gt (Axc w x) s).Ja=2
  have hi:=I.sli s;rw[hsl,Ho]at hi
  have hss:=X.rc.slot;obtain⟨b1,b2,b3,b4,b5,b6⟩:=Ap I.conf;rw[hN];constructor
  ·intro h;obtain⟨a,b⟩:=hi.1 (.inr h);refine⟨a,?_⟩;rcases Aw5 X a with ⟨e,_⟩|⟨⟨h1,h2⟩,_⟩
   ·rw[e];exact b
   ·rw[h2]at h;exact absurd h (X.no h1)
  ·rintro⟨a,b⟩;rcases Aw5 X a with ⟨e,f⟩|⟨_,_,st,g,e,hs,_⟩
   ·rw[e]at b;rcases hi.2 ⟨a,b⟩with h|h
    ·by_cases q:x.As=0
     ·rw[if_pos q]at h;cases h
     ·rw[if_neg q,sb1 (by omega) (by omega),Pl]at h
      exact absurd ⟨q,h⟩ f
    ·exact h
   ·rw[e]at b
    have b:st=2:=b;omega
theorem Bn1{w:Es}{E:Int}{n:Nat}(G:E7 w E n)(hE:0≤E){x:A3}{qs:List A3}(hq:w.fQ=x::qs)(hc:x.Af=[])(hf:x.B5=0):Bfl w (A3h w x qs) E:=by
 obtain⟨t,A,F⟩:=G.inv.forest
 have X:=Bgz G.inv hq;obtain⟨t',A',F',hal⟩:=A8d G.inv A F hq hf
 have I':=Br1 G.inv hq hc hf
 have hN:=Bcg w x
 have hs:((Axc w x).map (wtN w.fC)).sum=(w.fL.map (wtN w.fC)).sum:=Bny _ _ _ hN fun y hy=>by
  rcases Aw5 X (y:=(y:Int)) ⟨by omega,by omega⟩with ⟨e,_⟩|⟨_,h2,st,g,e,hs,hg⟩
  ·rw[e]
  ·rw[e,A1j _ (by omega)];unfold wtN;rw[if_neg (by omega)]
 have ep:pot (A3h w x qs)<pot w:=by
  have h1:1≤wtQ w.fC x:=by unfold wtQ;omega
  unfold pot;rw[hq]
  show((Axc w x).map (wtN w.fC)).sum+(qs.map (wtQ w.fC)).sum<_;simp only[Z8,List.sum_cons];omega
 refine⟨I',G.mem,fun y hy=> ?_,ep,?_,?_⟩
 ·have hy:0≤y∧y<((Axc w x).length:Int):=hy;rw[hN]at hy
  show EpP E (gt (Axc w x) y);rcases Aw5 X hy with ⟨e,_⟩|⟨_,h2,st,g,e,hs,hg⟩
  ·rw[e];exact G.ep y hy
  ·rw[e];exact⟨hE,hE,⟨Int.le_refl 0,by show(0:Int)≤1000;omega⟩⟩
 ·unfold wt
  show pot (A3h w x qs)+w.Rl.length≤_;omega
 ·refine Bdn G.inv.rg I'.rg A A' F rfl hN fun y hy=> ?_;refine⟨(hal y hy).1,(hal y hy).2,?_⟩;rcases Aw5 X hy.lv.1 with ⟨e,_⟩|⟨_,h2,_⟩
  ·exact⟨_,_,_,e⟩
  ·have:=((Avz A).1 hy.lv).2;omega
section
variable {K:Nat} (hK:281474976710656≤K)
include hK
theorem Bn2 (w:Es)(hw:A03 w.fP)(l:List Int)(hl:l.length≤140737488355327):Arh K w l=some (Es.mk w.fC (Ahf w.fP l) w.fL w.fQ w.Rl):=by
 unfold Arh;refine Bgo hK l (by omega) A0m w.fP A03 hw (fun s x h=>(Bgn h x).1) _ (fun n s i=>Agi K l n i w.fC.Af w.fC.Ez w.fC.Db w.fC.Fv w.fC.Dc w.fC.E0 s.Gl s.Ja s.Gm w.fL w.fQ w.Rl) (fun n s i h hs=> ?_) (fun n=> ?_)
 ·simp only[Agi];rw[Aha h,cond_true,if_pos (Aph h),Abh h,show Eb.mk s.Gl s.Ja s.Gm=s from rfl,A70 K hs,Z0,Agw (by omega)]
 ·show Agi K l (n+1) _ _ _ _ _ _ _ _ _ _ _ _ _=_;rw[Agi,Ai2 (Z9 _),cond_false];rfl
theorem Br2{w:Es}(I:Inv w)(hw:Avx w)(hQ:w.fQ.length≤1000000000){x:A3}{qs:List A3}(hq:w.fQ=x::qs)(hf:x.B5≠0):Awi K w=some (Ay3 w x qs):=by
 have hm:=Abn;obtain⟨t,A,F⟩:=I.forest
 have X:=Bcf I A F hq hf
 have hk:=X.lv.1
 have hF:=X.rc.first
 have L:=I.live A X.lv;obtain⟨b1,b2,b3,b4,b5,b6⟩:=Ap I.conf
 have hlen:=I.len
 have hn:=hw.l.1 _ (Aqx hk.1 hk.2)
 have e1:Aqd .i64 x.B5 1=x.B5 - 1:=sb1 (by omega) (by omega)
 have e2:Aqc .i64 (x.B5 - 1) 1=x.B5:=by rw[ad1 (by omega) (by omega)];omega
 have hnx:=L.next
 have hlq:(w.fQ).length=qs.length+1:=by rw[hq];simp
 have hj: ∀(l:List Bg) (q:List A3),l.length=w.fL.length->q.length=w.fQ.length->As0 K (gt w.fL (x.B5 - 1)) (x.B5 - 1) w.fC.Af w.fC.Ez w.fC.Db w.fC.Fv w.fC.Dc w.fC.E0 w.fP.Gl w.fP.Ja w.fP.Gm l q w.Rl=some (Es.mk w.fC (Ahf w.fP (gt w.fL (x.B5 - 1)).Af) (l.set (x.B5 - 1).toNat (Ar2 2 (gt w.fL (x.B5 - 1)).Bz)) (Aje (gt w.fL (x.B5 - 1)) x.B5::q) w.Rl):=by
  intro l q hl1 hq1
  have h8:=hn.tags.2
  have h9:=hn.chunks.2;unfold As0;rw[Bn2 hK (Es.mk w.fC w.fP l q w.Rl) hw.p _ (A25 hK hn.chunks),Z0];unfold Axl Axv;simp only[Z0,Z38,List.singleton_append,Yy];rw[hl1,if_pos hk,if_pos ⟨by omega,by omega⟩,if_pos ⟨by omega,by omega⟩,e2,Z0,if_pos ⟨by omega,by omega⟩]
  rfl
 unfold Awi;rw[hq,gt0,if_pos ⟨by omega,by simp⟩,e1,if_pos hk,Av8 K hn,Z0,if_pos ⟨by omega,by simp⟩,Avy,Z0]
 unfold Ay3 Az7
 have hp:plB w.fL (gt w.fL (x.B5 - 1)).Hg=decide (1≤(gt w.fL (x.B5 - 1)).Hg∧(gt w.fL (x.B5 - 1)).Hg≤(w.fL.length:Int)):=by
  rw[Bool.eq_iff_iff,A3d (by omega) (by omega),decide_eq_true_iff]
  omega
 rw[hp]
 by_cases q:1≤(gt w.fL (x.B5 - 1)).Hg∧(gt w.fL (x.B5 - 1)).Hg≤(w.fL.length:Int)
 ·rw[decide_eq_true q];simp only[cond_true];rw[sb1 (by omega) (by omega),if_pos ⟨by omega,by omega⟩]
  unfold Asn;exact hj _ _ (by rw[Z49]) (by rw[hq];simp)
 ·rw[decide_eq_false q];simp only[cond_false];exact hj _ _ rfl (by rw[hq];simp)
theorem Bn3{l:List Bg}(hl:Ai4 l){k gens:Int}(hk:0≤k∧k<(l.length:Int))(hg:0≤(gt l k).Bz∧(gt l k).Bz≤1000):Ax6 K l k gens=some (l.set k.toNat (A4x (gt l k) gens)):=by
 unfold Ax6 Arq Awj A4x;rw[A0k hK hl,Z0,A04 K (Ak8 hl),decide_eq_true hk];simp only[Z0,Bool.not_true,cond_false,if_pos hk];rw[ad1 (by omega) (by omega)]
 by_cases q:gens≤(gt l k).Bz
 ·rw[decide_eq_true (show(gt l k).Bz≥gens from q),if_pos q];rfl
 ·rw[decide_eq_false (show ¬(gt l k).Bz≥gens from q),if_neg q];rfl
theorem Bg0{w:Es}{E:Int}{n:Nat}(G:E7 w E n)(hE:0≤E∧E≤1000000000)(hn:n≤1000000000)(h0:0<w.fQ.length): ∃w',At5 K w=some w'∧Bfl w w' E:=by
 have hm:=Abn
 have W:=G.ww hE.2 hn
 have h1:=Byp w
 have h2:=Bnn w
 have h3:=G.wt;cases hq:w.fQ with
 |nil=>rw[hq]at h0;simp at h0
 |cons x qs=>
 have R:=Axk.1 (Axr G.inv hq).1
 have hlq:(w.fQ).length=qs.length+1:=by rw[hq];simp
 unfold At5 Azo;rw[hq,gt0,if_pos ⟨by omega,by simp⟩]
 by_cases c1:0<x.Dt.length
 ·refine⟨_,?_,Bnz G hq c1⟩;rw[decide_eq_true (show(x.Dt.length:Int)>0 by omega)]
  simp only[cond_true,Z0,beq_self_eq_true];rw[Byr K hq c1 R.ntag (by omega)];rfl
 ·rw[decide_eq_false (show ¬(x.Dt.length:Int)>0 by omega)]
  by_cases c2:0<x.Af.length
  ·refine⟨_,?_,Biv G hq c2⟩;rw[decide_eq_true (show(x.Af.length:Int)>0 by omega)]
   simp only[cond_true,cond_false,Z0];rw[show((2:Int)==1)=false from rfl,show((2:Int)==2)=true from rfl]
   simp only[cond_true,cond_false];rw[Brz hK G.inv W.p hq c2];rfl
  ·rw[decide_eq_false (show ¬(x.Af.length:Int)>0 by omega)]
   have hc:x.Af=[]:=Mv.1 (by omega)
   by_cases c3:x.B5=0
   ·refine⟨_,?_,Bn1 G hE.1 hq hc c3⟩
    have X:=Bgz G.inv hq
    have hs:=R.slot;obtain⟨b1,b2,b3,b4,b5,b6⟩:=Ap G.inv.conf
    have et:((x::qs).drop (1:Int).toNat).take (((x::qs).length:Int) - 1).toNat=qs:=by
     show qs.take _=qs;exact List.take_of_length_le (by simp)
    rw[c3];simp only[bne_self_eq_false,cond_false,Z0];rw[show((4:Int)==1)=false from rfl,show((4:Int)==2)=false from rfl,show((4:Int)==3)=false from rfl]
    simp only[cond_false];rw[if_pos ⟨by omega,by simp⟩,et,Z38]
    have hl1:(((x::qs).length:Nat):Int)=(qs.length:Int)+1:=by simp
    rw[hl1,if_pos (show(0:Int)≤0∧(0:Int)<(qs.length:Int)+1 from⟨by omega,by omega⟩),if_pos (show(0:Int)≤1∧(1:Int)≤(qs.length:Int)+1∧(qs.length:Int)+1≤(qs.length:Int)+1 from⟨by omega,by omega,by omega⟩),if_pos (show qs.length*72≤140737488355328∧qs.length≤maxLen from⟨by omega,by omega⟩)]
    unfold A3h Axc
    by_cases q:x.As=0
    ·rw[q,if_pos rfl];rfl
    ·have hgn:=X.gn q;rw[Aue q,if_neg q,sb1 (by omega) (by omega),Bn3 hK W.l (X.k q) ⟨by omega,by omega⟩]
     simp only[cond_true,Z0];rw[if_pos (show(0:Int)≤1∧(1:Int)≤(qs.length:Int)+1∧(qs.length:Int)+1≤(qs.length:Int)+1 from⟨by omega,by omega,by omega⟩),if_pos (show qs.length*72≤140737488355328∧qs.length≤maxLen from⟨by omega,by omega⟩)]
   ·refine⟨_,?_,Biw G hE.1 hq c3⟩;rw[Aue c3];simp only[cond_true,cond_false,Z0];rw[show((3:Int)==1)=false from rfl,show((3:Int)==2)=false from rfl,show((3:Int)==3)=true from rfl]
    simp only[cond_true,cond_false];rw[Br2 hK G.inv W (by omega) hq c3];rfl
structure Steps (w w':Es)(E:Int)(n:Nat):Prop where
 good:E7 w' E n
 stay:A3g w w'
theorem Bix{E:Int}{n:Nat}(hE:0≤E∧E≤1000000000)(hn:n≤1000000000)(m:Int): ∀(f:Nat) (i:Int) (w:Es),E7 w E n->pot w<f-> ∃r w',As3 K m f i w.fC.Af w.fC.Ez w.fC.Db w.fC.Fv w.fC.Dc w.fC.E0 w.fP.Gl w.fP.Ja w.fP.Gm w.fL w.fQ w.Rl=some (r,w')∧Steps w w' E n:=by
 intro f
 induction f with
 |zero=>intro i w _ h;omega
 |succ f ih=>
  intro i w G hf;rw[As3];cases decide (i<m)with
  |false=>exact⟨m,w,rfl,G,A3g.refl w⟩
  |true=>
  simp only[cond_true]
  by_cases q:w.fQ.length=0
  ·rw[q];exact⟨i,w,rfl,G,A3g.refl w⟩
  ·obtain⟨w1,e1,S⟩:=Bg0 hK G hE hn (by omega)
   have hp:=S.pot;obtain⟨r,w2,e2,S2⟩:=ih (Aqc .i64 i 1) w1 (S.good G) (by omega)
   refine⟨r,w2,?_,S2.good,S.stay.trans S2.stay⟩;rw[Aky (by omega)]
   simp only[cond_false];rw[show Es.mk (Fa.mk w.fC.Af w.fC.Ez w.fC.Db w.fC.Fv w.fC.Dc w.fC.E0) (Eb.mk w.fP.Gl w.fP.Ja w.fP.Gm) w.fL w.fQ w.Rl=w from rfl,e1,Z0]
   exact e2
theorem A5w{E:Int}{n:Nat}(hE:0≤E∧E≤1000000000)(hn:n≤1000000000)(m:Int){w:Es}(G:E7 w E n): ∃r w',As4 K w m=some (r,w')∧Steps w w' E n:=by
 have:=G.wt;unfold wt at this;exact Bix hK hE hn m K 0 w G (by omega)
def Azm (p:Eb)(at_ n:Int):Bool:=decide (0≤at_)&&(decide (1≤n)&&(decide (at_+n≤(p.Ja.length:Int))&&(List.range n.toNat).all (fun k=>gt p.Ja (at_+(k:Int))==0)))
omit hK in
theorem Awa{p:Eb}{a n:Int}:Azm p a n=true ↔ 0≤a∧1≤n∧a+n≤(p.Ja.length:Int)∧ ∀c,a≤c∧c<a+n->gt p.Ja c=0:=by
 unfold Azm;simp only[Z4,decide_eq_true_eq,Z1,List.mem_range,beq_iff_eq];refine and_congr_right fun h1=>and_congr_right fun h2=>and_congr_right fun h3=> ?_;constructor
 ·intro h c hc
  have:=h (c - a).toNat (by omega)
  rwa[show a+(((c - a).toNat:Nat):Int)=c by omega]at this
 ·intro h k hk;exact h _ ⟨by omega,by omega⟩
theorem A9l{p:Eb}(hp:p.Ja.length≤1000000000){a n:Int}(ha: -1000000000≤a∧a≤1000000000)(hn: -1000000000≤n∧n≤1000000000):Au2 K p a n=some (Azm p a n):=by
 unfold Au2 Azm
 by_cases h1:a<0
 ·rw[decide_eq_true h1,decide_eq_false (by omega: ¬0≤a)];rfl
 rw[decide_eq_false h1,decide_eq_true (by omega:0≤a)]
 by_cases h2:n<1
 ·rw[decide_eq_true h2,decide_eq_false (by omega: ¬1≤n)];rfl
 rw[decide_eq_false h2,decide_eq_true (by omega:1≤n)]
 simp only[cond_false,Z30]
 have es:Aqd .i64 (p.Ja.length:Int) a=(p.Ja.length:Int) - a:=by unfold Aqd;exact Abf (by omega) (by omega)
 rw[es]
 by_cases h3:a+n≤(p.Ja.length:Int)
 ·rw[decide_eq_false (by omega),decide_eq_false (by omega),decide_eq_true h3]
  simp only[cond_false,Z30]
  have ea:Aqc .i64 a n=a+n:=by unfold Aqc;exact Abf (by omega) (by omega)
  have:=Auf hK n.toNat (by omega) (fun k=>gt p.Ja (a+(k:Int))==0) (some true) (fun f i=>Ar8 K a n f (a+i) p.Gl p.Ja p.Gm) (fun f i h=> ?_) (fun f=> ?_)
  ·simp only[Int.add_zero]at this;rw[this];cases (List.range n.toNat).all _<;>rfl
  ·simp only[Ar8]
   have e1:Aqc .i64 (a+(i:Int)) 1=a+((i+1:Nat):Int):=by rw[ad1 (by omega) (by omega)];omega
   rw[ea,decide_eq_true (by omega),cond_true,if_pos ⟨by omega,by omega⟩,e1]
   cases e:gt p.Ja (a+(i:Int))==0<;>simp[bne,e]
  ·simp only[Ar8];rw[ea,decide_eq_false (by omega)];rfl
 ·rw[decide_eq_false h3];simp only[Bool.false_and]
  by_cases h4:a>(p.Ja.length:Int)
  ·rw[decide_eq_true h4];rfl
  ·rw[decide_eq_false h4,decide_eq_true (by omega)];rfl
theorem A5b{p:Eb}(hp:p.Ja.length≤1000000000){n:Int}(hn: -1000000000≤n∧n≤1000000000): ∃r,Ave K p n=some r∧(r= -1∨Azm p r n=true):=by
 have key: ∀(f i:Nat),i≤p.Ja.length->p.Ja.length - i<f-> ∃r,Ase K n f (i:Int) p.Gl p.Ja p.Gm=some r∧(r= -1∨Azm p r n=true):=by
  intro f
  induction f with
  |zero=>intro i _ h;omega
  |succ f ih=>
   intro i hi hf;rw[Ase];rcases Ge i p.Ja.length with h|h
   ·rw[Aha h,cond_true,show Eb.mk p.Gl p.Ja p.Gm=p from rfl,A9l hK hp ⟨by omega,by omega⟩ hn,Z0]
    cases e:Azm p (i:Int) n with
    |true=>exact⟨_,rfl,.inr e⟩
    |false=>
     rw[Agw (by omega)]
     exact ih (i+1) h (by omega)
   ·rw[Ai2 h];exact⟨_,rfl,.inl rfl⟩
 exact key K 0 (Z21 _) (by omega)
theorem Bn4{E:Int}{n:Nat}(hE:0≤E∧E≤1000000000)(hn:n≤1000000000)(a:Int){run:Int}(hr: -1000000000≤run∧run≤1000000000): ∀(f:Nat) (i:Int) (w:Es),E7 w E n->pot w<f-> ∃r w',Aqz K a run f i w.fC.Af w.fC.Ez w.fC.Db w.fC.Fv w.fC.Dc w.fC.E0 w.fP.Gl w.fP.Ja w.fP.Gm w.fL w.fQ w.Rl=some (r,w')∧Steps w w' E n:=by
 intro f
 induction f with
 |zero=>intro i w _ h;omega
 |succ f ih=>
  intro i w G hf
  have W:=G.ww hE.2 hn
  have hst:=(Ai3.1 G.inv.pool).st;obtain⟨b1,b2,b3,b4,b5,b6⟩:=Ap G.inv.conf
  have hlen:=G.inv.len;rw[Aqz]
  have hw:Es.mk (Fa.mk w.fC.Af w.fC.Ez w.fC.Db w.fC.Fv w.fC.Dc w.fC.E0) (Eb.mk w.fP.Gl w.fP.Ja w.fP.Gm) w.fL w.fQ w.Rl=w:=rfl
  have hp:Eb.mk w.fP.Gl w.fP.Ja w.fP.Gm=w.fP:=rfl;obtain⟨cn,hcn⟩: ∃cn,Ap6 K w.fL 0=some cn:=⟨_,A0q hK w.fL 0 (by omega)⟩
  rw[hw,hp,hcn]
  by_cases q:0<w.fQ.length
  ·obtain⟨w1,e1,S⟩:=Bg0 hK G hE hn q
   have hpot:=S.pot;obtain⟨r,w2,e2,S2⟩:=ih (Aqc .i64 i 1) w1 (S.good G) (by omega)
   have hgo: ∃r w',Atk K i w.fC.Af w.fC.Ez w.fC.Db w.fC.Fv w.fC.Dc w.fC.E0 w.fP.Gl w.fP.Ja w.fP.Gm w.fL w.fQ w.Rl (Aqz K a run f)=some (r,w')∧Steps w w' E n:=by
    refine⟨r,w2,?_,S2.good,S.stay.trans S2.stay⟩;unfold Atk;rw[hw,e1,Z0];exact e2
   have hno: ∃r w',(some (i,w):Option (Int×Es))=some (r,w')∧Steps w w' E n:=⟨_,_,rfl,G,A3g.refl w⟩;obtain⟨r5,e5,_⟩:=A5b hK (p:=w.fP) (by omega) hr
   rw[decide_eq_true (show(w.fQ.length:Int)>0 by omega),e5]
   simp only[cond_true,Z0];cases decide (cn<a)with
   |true=>exact hgo
   |false=>
    simp only[cond_false];cases decide (run>0)with
    |false=>exact hno
    |true=>
     simp only[cond_true];cases decide (r5<0)with
     |true=>exact hgo
     |false=>exact hno
  ·rw[decide_eq_false (show ¬(w.fQ.length:Int)>0 by omega)]
   exact⟨_,_,rfl,G,A3g.refl w⟩
theorem Bfn{E:Int}{n:Nat}(hE:0≤E∧E≤1000000000)(hn:n≤1000000000)(a:Int){run:Int}(hr: -1000000000≤run∧run≤1000000000){w:Es}(G:E7 w E n): ∃r w',Au5 K w a run=some (r,w')∧Steps w w' E n:=by
 have:=G.wt;unfold wt at this;exact Bn4 hK hE hn a hr K 0 w G (by omega)
end
section
variable {K:Nat} (hK:281474976710656≤K)
include hK
theorem Bch{l:List Bg}(hl:l.length≤1000000000): ∃r,Aw7 K l=some r∧(r= -1∨(0≤r∧r<(l.length:Int))∧(gt l r).Ja=0):=by
 have key: ∀(f i:Nat),i≤l.length->l.length - i<f-> ∃r,Ars K l f (i:Int)=some r∧(r= -1∨(0≤r∧r<(l.length:Int))∧(gt l r).Ja=0):=by
  intro f
  induction f with
  |zero=>intro i _ h;omega
  |succ f ih=>
   intro i hi hf;rw[Ars];rcases Ge i l.length with h|h
   ·rw[Aha h,cond_true,if_pos (Aph h),Agw (by omega)]
    by_cases e:(gt l (i:Int)).Ja=0
    ·rw[e];exact⟨_,rfl,.inr ⟨⟨by omega,by omega⟩,e⟩⟩
    ·rw[Aky e];exact ih (i+1) h (by omega)
   ·rw[Ai2 h];exact⟨_,rfl,.inl rfl⟩
 exact key K 0 (Z21 _) (by omega)
theorem A3i{p:Eb}(hp:p.Ja.length≤1000000000): ∃r,Aun K p=some r∧(r= -1∨Azm p r 1=true):=by
 have key: ∀(f i:Nat),i≤p.Ja.length->p.Ja.length - i<f-> ∃r,Art K f (i:Int) p.Gl p.Ja p.Gm=some r∧(r= -1∨Azm p r 1=true):=by
  intro f
  induction f with
  |zero=>intro i _ h;omega
  |succ f ih=>
   intro i hi hf;rw[Art];rcases Ge i p.Ja.length with h|h
   ·rw[Aha h,cond_true,if_pos (Aph h),Agw (by omega)]
    by_cases e:gt p.Ja (i:Int)=0
    ·rw[e];refine⟨_,rfl,.inr (Awa.2 ⟨by omega,by omega,by omega,fun c hc=> ?_⟩)⟩
     rw[show c=(i:Int)by omega];exact e
    ·rw[Aky e];exact ih (i+1) h (by omega)
   ·rw[Ai2 h];exact⟨_,rfl,.inl rfl⟩
 exact key K 0 (Z21 _) (by omega)
structure Biy (p p':Eb)(a n k:Int):Prop where
 mem:p'.Gl=p.Gl
 st:p'.Ja.length=p.Ja.length
 own:p'.Gm.length=p.Gm.length
 one: ∀c,0≤c∧c<(p.Ja.length:Int)->gt p'.Ja c=(if a≤c∧c<a+n then 1 else gt p.Ja c)∧gt p'.Gm c=(if a≤c∧c<a+n then k else gt p.Gm c)
theorem A2m{p:Eb}(hw:A03 p)(hp:p.Ja.length≤1000000)(ho:p.Gm.length=p.Ja.length){a n k:Int}(hf:Azm p a n=true): ∃p',Aru K p a n k=some p'∧Biy p p' a n k:=by
 obtain⟨h1,h2,h3,h4⟩:=Awa.1 hf;unfold Aru;rw[Azj K hw,A9l hK (by omega) ⟨by omega,by omega⟩ ⟨by omega,by omega⟩,hf,ho]
 simp only[Z0,cond_true,bne_self_eq_false,cond_false]
 have ea:Aqc .i64 a n=a+n:=by unfold Aqc;exact Abf (by omega) (by omega)
 have key: ∀(f i:Nat) (q:Eb),(i:Int)≤n->n.toNat - i<f->Biy p q a i k-> ∃p',As1 K a n k f (a+(i:Int)) q (Eb.mk [] [] [])=some p'∧Biy p p' a n k:=by
  intro f
  induction f with
  |zero=>intro i q _ h;omega
  |succ f ih=>
   intro i q hi hf T;rw[As1,ea]
   by_cases h:(i:Int)=n
   ·rw[decide_eq_false (by omega),cond_false,←h]
    exact⟨q,rfl,T⟩
   ·have e1:Aqc .i64 (a+(i:Int)) 1=a+((i+1:Nat):Int):=by rw[ad1 (by omega) (by omega)];omega
    have hs:=T.st
    have hso:=T.own;rw[decide_eq_true (by omega),cond_true,if_pos ⟨by omega,by omega⟩,if_pos ⟨by omega,by omega⟩,e1]
    refine ih (i+1) _ (by omega) (by omega) ⟨T.mem,by simp[T.st],by simp[T.own],fun c hc=> ?_⟩
    obtain⟨t1,t2⟩:=T.one c hc;simp only;rw[Az5 (by omega) (by omega),Az5 (by omega) (by omega),t1,t2]
    by_cases q1:c=a+(i:Int)
    ·rw[if_pos q1,if_pos q1,if_pos (by omega),if_pos (by omega)];exact⟨rfl,rfl⟩
    ·rw[if_neg q1,if_neg q1]
     by_cases q2:a≤c∧c<a+(i:Int)
     ·rw[if_pos q2,if_pos q2,if_pos (by omega),if_pos (by omega)];exact⟨rfl,rfl⟩
     ·rw[if_neg q2,if_neg q2,if_neg (by omega),if_neg (by omega)];exact⟨rfl,rfl⟩
 have:=key K 0 p (by omega) (by omega) ⟨rfl,rfl,rfl,fun c hc=>by rw[if_neg (by omega),if_neg (by omega)];exact⟨rfl,rfl⟩⟩
 simpa using this
end
theorem Bg1{w:Es}(I:Inv w){k:Int}(hk:0≤k∧k<(w.fL.length:Int))(p':Eb)(l':List Bg)(t':Int->Lk)(hN:l'.length=w.fL.length)
  (ho: ∀x,0≤x∧x<(w.fL.length:Int)->x≠k-> ∃a b c,gt l' x=lnk (gt w.fL x) a b c∧(0≤a∧a≤w.fC.Db)∧(0≤b∧b≤w.fC.Db)∧(0≤c∧c≤w.fC.Db))
  (hs2:(gt w.fL k).Ja≠2) (L:Ava w.fC (gt l' k)) (A':AtT l' t') (F':Aic w.fL.length t' (Awb w.fQ))
  (P':A49 w.fC p') (hm:p'.Gl=w.fP.Gl)
  (hone: ∀c,0≤c∧c<w.fC.Af->(gt p'.Ja c=2 ↔ gt w.fP.Ja c=2)∧(gt p'.Ja c=1∧gt p'.Gm c=k ↔ c∈(gt l' k).Af)∧ ∀x,x≠k->(gt p'.Ja c=1∧gt p'.Gm c=x ↔ gt w.fP.Ja c=1∧gt w.fP.Gm c=x))
  (hth:(gt l' k).Er.all (Ar5 w.fC (gt l' k).Af)=true∧Ank (gt l' k).Er=true∧Asm w.fC w.fP.Gl (gt l' k)=true):
  Inv (Es.mk w.fC p' l' w.fQ w.Rl):=by
 refine⟨Ai3.2 P',by show(l'.length:Int)=_;rw[hN];exact I.len,fun x hx=> ?_,fun x hx c=> ?_,fun x hx=> ?_,⟨t',A',by show Aic (l'.length:Int) _ _;rw[hN];exact F'⟩,fun x hx=> ?_,I.chn,fun c=> ?_,I.sln,fun s=> ?_,I.log⟩
 ·have hx:0≤x∧x<(l'.length:Int):=hx;rw[hN]at hx
  show Aso w.fC (gt l' x)=true
  by_cases e:x=k
  ·rw[e];exact(Ajx.2 L).1
  ·obtain⟨a,b,c,h1,h2,h3,h4⟩:=ho x hx e;rw[h1]
   by_cases hs:(gt w.fL x).Ja=1
   ·exact(Ajx.2 (A78 (Ajx.1 ⟨I.node x hx,hs⟩) h2 h3 h4)).1
   ·have X:=Aw4 (I.node x hx) hs
    have B:=F'.tree.bare x hx.1 hx.2 (by rw[A' x (by rw[hN];exact hx),h1];simpa[A1d,lnk]using hs)
    rw[A' x (by rw[hN];exact hx),h1]at B
    obtain⟨_,B2,B3,B4⟩:=B
    have q1:a=0:=B2
    have q2:b=0:=B3
    have q3:c=0:=B4
    have this:lnk (gt w.fL x) 0 0 0=gt w.fL x:=by rw[X];rfl
    rw[q1,q2,q3,this];exact I.node x hx
 ·have hx:0≤x∧x<(l'.length:Int):=hx;rw[hN]at hx
  show c∈(gt l' x).Af ↔ (0≤c∧c<w.fC.Af)∧gt p'.Ja c=1∧gt p'.Gm c=x
  by_cases e:x=k
  ·rw[e];constructor
   ·intro h
    have hin:=Awy L.dist c h;exact⟨hin,(hone c hin).2.1.2 h⟩
   ·rintro⟨a,b⟩;exact(hone c a).2.1.1 b
  ·obtain⟨a,b,d,h1,_⟩:=ho x hx e;rw[h1]
   show c∈(gt w.fL x).Af ↔ _;rw[I.own x hx c];exact and_congr_right fun h=>((hone c h).2.2 x e).symm
 ·have hx:0≤x∧x<(l'.length:Int):=hx;rw[hN]at hx
  show(gt l' x).Er.all (Ar5 w.fC (gt l' x).Af)=true∧Ank (gt l' x).Er=true∧Asm w.fC p'.Gl (gt l' x)=true;rw[hm]
  by_cases e:x=k
  ·rw[e];exact hth
  ·obtain⟨a,b,d,h1,_⟩:=ho x hx e;rw[h1];exact I.thing x hx
 ·obtain⟨a,b⟩:=I.wrec x hx;refine⟨a,?_⟩;unfold Apk at b ⊢
  show(_||Ari ((p'.Gl.drop _).take _))=true
  rw[hm];exact b
 ·show c∈chL w.fQ ↔ (0≤c∧c<w.fC.Af)∧gt p'.Ja c=2;rw[I.chi c];exact and_congr_right fun h=>(hone c h).1.symm
 ·show s∈slL w.fQ ↔ (0≤s∧s<(l'.length:Int))∧(gt l' s).Ja=2;rw[I.sli s,hN];refine and_congr_right fun h=> ?_
  by_cases e:s=k
  ·rw[e,L.st];constructor
   ·intro q;exact absurd q hs2
   ·intro q;cases q
  ·obtain⟨a,b,d,h1,_⟩:=ho s h e;rw[h1];rfl
theorem A9m{w:Es}(I:Inv w){p':Eb}{a n k:Int}(hk:0≤k∧k<(w.fL.length:Int))(hf:Azm w.fP a n=true)(T:Biy w.fP p' a n k):
  A49 w.fC p'∧ ∀c,0≤c∧c<w.fC.Af->(gt p'.Ja c=2 ↔ gt w.fP.Ja c=2)∧(gt p'.Ja c=1∧gt p'.Gm c=k ↔ c∈(gt w.fL k).Af∨a≤c∧c<a+n)∧ ∀x,x≠k->(gt p'.Ja c=1∧gt p'.Gm c=x ↔ gt w.fP.Ja c=1∧gt w.fP.Gm c=x):=by
 have P:=Ai3.1 I.pool;obtain⟨f1,f2,f3,f4⟩:=Awa.1 hf
 have hlen:=I.len;refine⟨⟨P.conf,by rw[T.mem];exact P.mem,by rw[T.st];exact P.st,by rw[T.own];exact P.own,fun c hc=> ?_⟩,fun c hc=> ?_⟩
 ·obtain⟨t1,t2⟩:=T.one c (by rw[P.st];exact hc)
  obtain⟨p1,p2,p3,p4⟩:=P.one c hc;rw[t1,t2,T.mem]
  by_cases q:a≤c∧c<a+n
  ·rw[if_pos q,if_pos q];exact⟨by omega,fun _=>by omega,fun h=>absurd rfl h,fun h=>by omega⟩
  ·rw[if_neg q,if_neg q];exact⟨p1,p2,p3,p4⟩
 ·obtain⟨t1,t2⟩:=T.one c (by rw[P.st];exact hc)
  rw[t1,t2]
  have ho:=I.own k hk c
  by_cases q:a≤c∧c<a+n
  ·rw[if_pos q,if_pos q,f4 c q];refine⟨by omega,⟨fun _=> .inr q,fun _=>⟨rfl,rfl⟩⟩,fun x hx=>⟨fun h=>absurd h.2.symm hx,fun h=>by omega⟩⟩
  ·rw[if_neg q,if_neg q];refine⟨Iff.rfl,⟨fun h=> .inl (ho.2 ⟨hc,h⟩),fun h=> ?_⟩,fun x hx=>Iff.rfl⟩;rcases h with h|h
   ·exact(ho.1 h).2
   ·exact absurd h q
structure Byw (l l':List Bg)(p k:Int):Prop where
 len:l'.length=l.length
 at_:gt l' k=Bg.mk (gt l k).Ja (gt l k).Bz (gt l k).Js (p+1) (gt l p).Js (gt l k).B5 (gt l p).B5 0 (gt l k).Af (gt l k).Rk (gt l k).Hi (gt l k).Er (gt l k).Dt
 ot: ∀x,0≤x∧x<(l.length:Int)->x≠k->gt l' x=lnk (gt l x) (if x=p then k+1 else(gt l x).B5) (gt l x).Hg (if x+1=(gt l p).B5 then k+1 else(gt l x).Hh)
section
variable {K:Nat} (hK:281474976710656≤K)
include hK
theorem Br3{l:List Bg}(hl:Ai4 l)(h8:l.length≤1000){p k:Int}(hp:0≤p∧p<(l.length:Int))(hk:0≤k∧k<(l.length:Int))(hne:p≠k)(hf:0≤(gt l p).B5∧(gt l p).B5≤(l.length:Int))(hfk:(gt l p).B5≠k+1): ∃l',Av2 K l p k=some l'∧Byw l l' p k:=by
 have e1:Aqc .i64 p 1=p+1:=ad1 (by omega) (by omega)
 have e2:Aqc .i64 k 1=k+1:=ad1 (by omega) (by omega)
 have e3:Aqd .i64 (gt l p).B5 1=(gt l p).B5 - 1:=sb1 (by omega) (by omega)
 have g1: ∀v,gt (l.set k.toNat v) k=v:=fun v=>Ayk hk v
 have g2: ∀v,gt (l.set k.toNat v) p=gt l p:=fun v=>Ayl hk.1 hp (Ne.symm hne) v;unfold Av2 Axf;rw[A0k hK hl,Z0,e1,e2,Avy,decide_eq_true (by omega),Z0,cond_true,Avy,decide_eq_true (by omega),Z0,cond_true,Aky hne,cond_false,e3]
 simp only[Asn,if_pos hp,if_pos hk,Z49,g1,g2,List.set_set];rw[Avy,Z0]
 have hp': ∀v:Bg,0≤p∧p<((l.set k.toNat v).length:Int):=fun v=>by rw[Z49];exact hp
 have h2: ∀(u v:Bg) (x:Int),0≤x∧x<(l.length:Int)->gt ((l.set k.toNat u).set p.toNat v) x=if x=p then v else if x=k then u else gt l x:=by
  intro u v x hx;rw[Apo (hp' _) (by simpa using hx),Apo hk hx]
 by_cases q:1≤(gt l p).B5∧(gt l p).B5≤(l.length:Int)
 ·rw[decide_eq_true q,cond_true,if_pos ⟨by omega,by omega⟩]
  refine⟨_,rfl,by simp,?_,fun x hx hxk=> ?_⟩
  ·rw[Ayl (by omega) (by simpa using hk) (by omega),Ayl hp.1 (by simpa using hk) hne,g1]
  ·by_cases a:x=(gt l p).B5 - 1
   ·rw[if_pos (show x+1=(gt l p).B5 by omega),←a,Ayk (by simpa using hx),h2 _ _ x hx,if_neg hxk]
    by_cases b:x=p
    ·rw[if_pos b,if_pos b,b];rfl
    ·rw[if_neg b,if_neg b];rfl
   ·rw[Ayl (by omega) (by simpa using hx) (Ne.symm a),h2 _ _ x hx,if_neg hxk,if_neg (show ¬x+1=(gt l p).B5 by omega)]
    by_cases b:x=p
    ·rw[if_pos b,if_pos b,b];rfl
    ·rw[if_neg b,if_neg b];rfl
 ·rw[decide_eq_false q,cond_false];refine⟨_,rfl,by simp,?_,fun x hx hxk=> ?_⟩
  ·rw[Ayl hp.1 (by simpa using hk) hne,g1]
  ·rw[h2 _ _ x hx,if_neg hxk,if_neg (show ¬x+1=(gt l p).B5 by omega)]
   by_cases b:x=p
   ·rw[if_pos b,if_pos b,b];rfl
   ·rw[if_neg b,if_neg b];rfl
end
def A82 (g c:Int):Bg:=Bg.mk 1 g 0 0 0 0 0 0 [c] (c+1) 0 [] []
structure Bg2 (w:Es)(t:Int->Lk)(k c p:Int):Prop where
 hk:0≤k∧k<(w.fL.length:Int)
 st:(gt w.fL k).Ja=0
 free:Azm w.fP c 1=true
 up:p= -1∨Al w.fL.length t p∧(rise w.fL.length t w.fL.length p).length<4
theorem Bg2.bare{w:Es}(I:Inv w){t:Int->Lk}{k c p:Int}(M:Bg2 w t k c p):gt w.fL k=Ar2 0 (gt w.fL k).Bz:=by
 have:=Aw4 (I.node k M.hk) (by rw[M.st];decide)
 rw[M.st]at this;exact this
def mkN (w:Es)(k c p:Int):Bg:=Bg.mk 1 (gt w.fL k).Bz 0 (p+1) (if p+1=0 then 0 else(gt w.fL p).Js) 0 (if p+1=0 then 0 else(gt w.fL p).B5) 0 [c] (c+1) 0 [] []
structure Bvg (w:Es)(l':List Bg)(k c p:Int):Prop where
 len:l'.length=w.fL.length
 at_:gt l' k=mkN w k c p
 ot: ∀x,0≤x∧x<(w.fL.length:Int)->x≠k->gt l' x=lnk (gt w.fL x) (if x=p then k+1 else(gt w.fL x).B5) (gt w.fL x).Hg (if p+1≠0∧x+1=(gt w.fL p).B5 then k+1 else(gt w.fL x).Hh)
theorem A5c{c:Fa}{n:Bg}{mem:List Int}{ch:Int}(h1:n.Rk=ch+1)(h2:n.Hi=0)(hz:Ari (A0g c mem ch)=true)(ha:n.Er.all (fun t=>Ana t (Av7 c n))=true):Asm c mem n=true:=by
 unfold Asm;rw[ha,Bool.and_true,Bool.or_eq_true];refine .inr ?_
 have e1:(Av7 c n).fAt=ch*c.Ez:=by unfold Av7;rw[h1,h2,Int.add_sub_cancel,Int.add_zero]
 have e2:(Av7 c n).Xf=c.Ez:=by unfold Av7;rw[h2];simp
 rw[e1,e2];exact hz
theorem Bn5{w:Es}(I:Inv w){t:Int->Lk}(A:AtT w.fL t)(F:Aic w.fL.length t (Awb w.fQ)){k c p:Int}(M:Bg2 w t k c p){p':Eb}(T:Biy w.fP p' c 1 k){l':List Bg}(L:Bvg w l' k c p):Inv (Es.mk w.fC p' l' w.fQ w.Rl):=by
 have hk:=M.hk
 have hb:=M.bare I
 have hb1:(gt w.fL k).Af=[]:=by rw[hb];rfl
 have P:=Ai3.1 I.pool;obtain⟨T1,T2⟩:=A9m I hk M.free T;obtain⟨f1,f2,f3,f4⟩:=Awa.1 M.free;obtain⟨b1,b2,b3,b4,b5,b6⟩:=Ap I.conf
 have hlen:=I.len
 have hg:=Ay1 (I.node k hk)
 have hc:0≤c∧c<w.fC.Af:=by have:=P.st;omega
 have hp:p= -1∨(0≤p∧p<(w.fL.length:Int)):=M.up.imp_right fun h=>h.1.lv.1
 have hpf:p+1≠0->(0≤p∧p<(w.fL.length:Int))∧p≠k:=fun h=>by
  rcases M.up with e|⟨e,_⟩
  ·omega
  ·refine⟨e.lv.1,fun q=> ?_⟩
   have:=((Avz A).1 e.lv).2;rw[q,M.st]at this;cases this
 have hA:AtT l' (ins t k p):=by
  intro x hx;rw[L.len]at hx
  by_cases e:x=k
  ·subst e;rw[Aux,L.at_];unfold mkN A1d;simp only
   by_cases q:p+1=0
   ·rw[if_pos q,if_pos q,if_pos q,if_pos q];rfl
   ·rw[if_neg q,if_neg q,if_neg q,if_neg q,A p (hpf q).1];rfl
  ·rw[Ata e,L.ot x hx e,A x hx]
   by_cases q:p+1=0
   ·rw[if_neg (fun r:p+1≠0∧x+1=(t p).fi=>r.1 q),if_neg (fun r:p+1≠0∧x+1=(gt w.fL p).B5=>r.1 q)];rfl
   ·rw[A p (hpf q).1];rfl
 have hF:Aic w.fL.length (ins t k p) (Awb w.fQ):=by
  refine Bdf F hk ?_ ?_ M.up
  ·rw[A k hk];show((gt w.fL k).Ja==1)=false;rw[M.st];rfl
  ·rw[A k hk];show((gt w.fL k).Ja==2)=false;rw[M.st];rfl
 have hfp:0≤(if p+1=0 then 0 else(gt w.fL p).B5)∧(if p+1=0 then 0 else(gt w.fL p).B5)≤w.fC.Db:=by
  split
  ·omega
  ·rename_i q
   have:=(I.rg.rg p (hpf q).1).2.1;omega
 have hep:0≤(if p+1=0 then 0 else(gt w.fL p).Js):=by
  split
  ·omega
  ·rename_i q;rcases M.up with e|⟨e,_⟩
   ·omega
   ·exact(I.live A e.lv).ep
 have hz:Ari (A0g w.fC w.fP.Gl c)=true:=(P.one c hc).2.2.2 (f4 c ⟨by omega,by omega⟩)
 refine Bg1 I hk p' l' (ins t k p) L.len (fun x hx e=>⟨_,_,_,L.ot x hx e,?_,?_,?_⟩) (by rw[M.st];decide) ?_ hA hF T1 T.mem (fun x hx=> ?_) ?_
 ·have:=(I.rg.rg x hx).2.1;split<;>omega
 ·have:=(I.rg.rg x hx).2.2.1;omega
 ·have:=(I.rg.rg x hx).2.2.2;split<;>omega
 ·rw[L.at_];refine⟨I.conf,rfl,hg.2.2,?_,⟨Int.le_refl 0,by show(0:Int)≤_;omega⟩,hfp,⟨Int.le_refl 0,by show(0:Int)≤_;omega⟩,Int.le_refl 0,hep,Az6.2 ⟨by simp[mkN],fun x hx=> ?_⟩,?_,Z21 _,Z21 _,rfl,rfl⟩
  ·show 0≤p+1∧p+1≤_;omega
  ·rw[Pl.1 (show x∈[c] from hx)];exact hc
  ·unfold A5h mkN;simp only;rw[Aky (by omega),cond_false,sb1 (by omega) (by omega),Int.add_sub_cancel,Abm.2 ⟨by omega,by omega⟩]
   simp
 ·obtain⟨a1,a2,a3⟩:=T2 x hx;refine⟨a1,?_,a3⟩;rw[a2,hb1,L.at_]
  show x∈[]∨_ ↔ x∈[c];rw[Pl];constructor
  ·rintro(h|h)
   ·cases h
   ·omega
  ·intro h;exact .inr (by omega)
 ·rw[L.at_];exact⟨rfl,rfl,A5c rfl rfl hz rfl⟩
theorem Bn6{l:List Bg}{t:Int->Lk}(A:AtT l t)(R:Rg l): ∀(n:Nat) (k:Int),Awx l (Ak5 l n k)=true->Azs l (Ak5 l n k)=true->Al l.length t k:=by
 intro n
 induction n with
 |zero=>intro k _ h;simp[Ak5,Azs]at h
 |succ n ih=>
  intro k h1 h2;unfold Ak5 at h1 h2
  by_cases hk:0≤k∧k<(l.length:Int)
  ·rw[if_pos hk]at h1 h2
   have hu:=(R.rg k hk).1
   have hl:=R.len;rw[sb1 (by omega) (by omega)]at h1 h2
   cases hr:Ak5 l n ((gt l k).fUp - 1)with
   |nil=>
    rw[hr]at h1 h2
    have s1:(gt l k).Ja=1:=by simpa[Awx]using h1
    have s2:(gt l k).fUp=0:=by
     have:((gt l (gt [k] ((0:Nat):Int))).fUp==0)=true:=by simpa[Azs]using h2
     exact beq_iff_eq.1 this
    exact .root ((Avz A).2 ⟨hk,s1⟩) (by rw[A k hk];exact s2)
   |cons y r=>
    have hy:y=(gt l k).fUp - 1∧0≤y∧y<(l.length:Int):=by
     cases n with
     |zero=>simp[Ak5]at hr
     |succ m=>
      unfold Ak5 at hr;split at hr
      ·rename_i q;obtain⟨e,_⟩:=List.cons.inj hr;exact⟨e.symm,by omega,by omega⟩
      ·cases hr
    rw[hr]at h1 h2
    have h1:((gt l k).Ja==1&&((gt l k).Hf==(gt l y).Js)&&Awx l (y::r))=true:=h1;rw[Z4,Z4,beq_iff_eq,beq_iff_eq]at h1;obtain⟨⟨s1,s2⟩,s3⟩:=h1
    have s4:Azs l (y::r)=true:=by
     unfold Azs at h2 ⊢;rw[if_pos (by simp)]at h2 ⊢
     have e:gt (k::y::r) (((k::y::r).length - 1:Nat):Int)=gt (y::r) (((y::r).length - 1:Nat):Int):=by
      rw[show(k::y::r).length - 1=((y::r).length - 1)+1 by simp]
      exact Ayo _ _ (by simp)
     rw[e]at h2;exact h2
    have h5:(gt l y).Ja=1:=by
     cases r with
     |nil=>simpa[Awx]using s3
     |cons z r=>
      simp only[Awx,Z4,beq_iff_eq]at s3;exact s3.1.1
    have h6:=ih ((gt l k).fUp - 1) (by rw[hr];exact s3) (by rw[hr];exact s4)
    refine .step ((Avz A).2 ⟨hk,s1⟩) ?_ (by rw[A k hk];exact h6)
    unfold Cu;rw[A k hk]
    show Lv _ t ((gt l k).fUp - 1)∧(t ((gt l k).fUp - 1)).ep=(gt l k).Hf;rw[←hy.1,A y hy.2,s2];exact⟨(Avz A).2 ⟨hy.2,h5⟩,rfl⟩
  ·rw[if_neg hk]at h2;simp[Azs]at h2
theorem Biz{w:Es}(I:Inv w){k:Int}(h:Axx w.fL k=true):AlW w.fL k:=by
 obtain⟨t,A,_⟩:=I.forest;unfold Axx at h;rw[Z4]at h;exact⟨t,A,Bn6 A I.rg _ _ h.1 h.2⟩
theorem A1v{w:Es}(I:Inv w){h:Ca}(h0:(Atp w.fL h).2=0):AlW w.fL (Atp w.fL h).1:=by
 unfold Atp at *;cases e1:Ayw h with
 |false=>rw[e1]at h0;simp at h0
 |true=>
  rw[e1]at h0;simp only[cond_true]at h0 ⊢;cases e2:decide (Atg w.fL h<0)with
  |true=>rw[e2]at h0;simp at h0
  |false=>
   rw[e2]at h0;simp only[cond_false]at h0 ⊢;cases e3:Axx w.fL (Atg w.fL h)with
   |false=>rw[e3]at h0;simp at h0
   |true=>simp only[cond_true];exact Biz I e3
section
variable {K:Nat} (hK:281474976710656≤K)
include hK
theorem Bdo{w:Es}(hw:Avx w)(h8:w.fL.length≤1000): ∃r,Axt K w=some r:=by
 have key: ∀(f i:Nat) (v:Int),i≤w.fL.length->w.fL.length - i<f-> ∃r,Agg K f v (i:Int) w.fC.Af w.fC.Ez w.fC.Db w.fC.Fv w.fC.Dc w.fC.E0 w.fP.Gl w.fP.Ja w.fP.Gm w.fL w.fQ w.Rl=some r:=by
  intro f
  induction f with
  |zero=>intro i _ _ h;omega
  |succ f ih=>
   intro i v hi hf;rw[Agg];rcases Ge i w.fL.length with h|h
   ·have go: ∀v,∃r,Ak1 K (i:Int) w.fC.Af w.fC.Ez w.fC.Db w.fC.Fv w.fC.Dc w.fC.E0 w.fP.Gl w.fP.Ja w.fP.Gm w.fL w.fQ w.Rl (Agg K f) v=some r:=by
     intro v;unfold Ak1;rw[Agw (by omega)]
     exact ih (i+1) v h (by omega)
    rw[Aha h,cond_true,if_pos (Aph h),A05 hK hw.l _ ⟨by omega,by omega⟩]
    simp only[Z0,if_pos (Aph h)];cases (gt w.fL (i:Int)).Ja==0 with
    |true=>exact go _
    |false=>
     simp only[cond_false];cases Axx w.fL (i:Int)with
     |true=>exact go _
     |false=>
      simp only[cond_false];cases (gt w.fL (i:Int)).Ja != 3 with
      |false=>exact go _
      |true=>
       simp only[cond_true];cases decide ((gt w.fL (i:Int)).Bz<w.fC.E0)<;>exact go _
   ·rw[Ai2 h];exact⟨_,rfl⟩
 exact key K 0 0 (Z21 _) (by omega)
theorem A8e{w:Es}(hw:Avx w)(h8:w.fL.length≤1000): ∃r,Awf K w=some r∧r.length≤w.fL.length∧ ∀x∈r,(0≤x∧x<(w.fL.length:Int))∧Axx w.fL x=true:=by
 have hm:=Abn
 have key: ∀(f i:Nat) (v:List Int),i≤w.fL.length->w.fL.length - i<f->v.length≤i->(∀x∈v,(0≤x∧x<(w.fL.length:Int))∧Axx w.fL x=true)-> ∃r,Arj K f v (i:Int) w.fC.Af w.fC.Ez w.fC.Db w.fC.Fv w.fC.Dc w.fC.E0 w.fP.Gl w.fP.Ja w.fP.Gm w.fL w.fQ w.Rl=some r∧r.length≤w.fL.length∧ ∀x∈r,(0≤x∧x<(w.fL.length:Int))∧Axx w.fL x=true:=by
  intro f
  induction f with
  |zero=>intro i _ _ h;omega
  |succ f ih=>
   intro i v hi hf hl hv;rw[Arj];rcases Ge i w.fL.length with h|h
   ·rw[Aha h,cond_true,A05 hK hw.l _ ⟨by omega,by omega⟩]
    simp only[Z0];cases e:Axx w.fL (i:Int)with
    |false=>
     simp only[cond_false];unfold Ast;rw[Agw (by omega)]
     exact ih (i+1) v h (by omega) (by omega) hv
    |true=>
     simp only[cond_true];rw[if_pos ⟨by simp;omega,by simp;omega⟩]
     unfold Ast;rw[Agw (by omega)]
     refine ih (i+1) _ h (by omega) (by simp;omega) fun x hx=> ?_
     rcases Ho.1 hx with hx|hx
     ·exact hv x hx
     ·rw[Pl.1 hx];exact⟨⟨by omega,by omega⟩,e⟩
   ·rw[Ai2 h];exact⟨_,rfl,by omega,hv⟩
 exact key K 0 [] (Z21 _) (by omega) (by simp) (fun x hx=>by cases hx)
theorem A1k{w:Es}(hw:Avx w)(h8:w.fL.length≤1000)(n:Int): ∃b,Ar7 K w n=some b:=by
 obtain⟨r,e,hl,_⟩:=A8e hK hw h8
 have key: ∀(f i:Nat) (v:Int),i≤r.length->r.length - i<f-> ∃x,Ap5 K r f v (i:Int) w.fC.Af w.fC.Ez w.fC.Db w.fC.Fv w.fC.Dc w.fC.E0 w.fP.Gl w.fP.Ja w.fP.Gm w.fL w.fQ w.Rl=some x:=by
  intro f
  induction f with
  |zero=>intro i _ _ h;omega
  |succ f ih=>
   intro i v hi hf;rw[Ap5];rcases Ge i r.length with h|h
   ·rw[Aha h,cond_true,if_pos (Aph h),A24 hK _ _ hw.p.st.2,Z0,Agw (by omega)]
    exact ih (i+1) _ h (by omega)
   ·rw[Ai2 h];exact⟨_,rfl⟩
 obtain⟨x,ex⟩:=key K 0 0 (Z21 _) (by omega)
 have ex:Ap5 K r K 0 0 w.fC.Af w.fC.Ez w.fC.Db w.fC.Fv w.fC.Dc w.fC.E0 w.fP.Gl w.fP.Ja w.fP.Gm w.fL w.fQ w.Rl=some x:=ex;unfold Ar7 Axu;rw[e,Z0,ex];simp only[Z0];cases decide (n≥0)<;>cases decide (n≤w.fC.Af)<;>exact⟨_,rfl⟩
omit hK in
theorem A1l{l:List Bg}(hl:l.length≤1000000)(k:Int): ∃h,Ar6 K l k=some h:=by
 unfold Ar6;rw[A04 K (by omega),Z0]
 by_cases q:0≤k∧k<(l.length:Int)
 ·rw[decide_eq_true q,if_pos q];exact⟨_,rfl⟩
 ·rw[decide_eq_false q];exact⟨_,rfl⟩
end
def A2n (n:Bg)(c:Int):Bg:=Bg.mk n.Ja n.Bz n.Js n.fUp n.Hf n.B5 n.Hg n.Hh (n.Af++[c]) (c+1) 0 n.Er n.Dt
theorem A9n{c:Fa}{n:Bg}(L:Ava c n){k:Int}(hk:0≤k∧k<c.Af)(hn:k ∉ n.Af):Ava c (A2n n k):=by
 obtain⟨b1,b2,_⟩:=Ap L.conf
 have hd:=Az6.1 L.dist;refine⟨L.conf,L.st,L.gen,L.up,L.first,L.next,L.prev,L.ep,L.ue,Az6.2 ⟨Agh.2 ⟨hd.1,by simp,fun x h1 h2=>by rw[Pl]at h2;subst h2;exact hn h1⟩,fun x hx=> ?_⟩,?_,L.nth,L.ntag,L.tags,L.things⟩
 ·rcases Ho.1 hx with h|h
  ·exact hd.2 x h
  ·rw[Pl.1 h];exact hk
 ·unfold A5h A2n;simp only;rw[Aky (by omega),cond_false,sb1 (by omega) (by omega),Int.add_sub_cancel,Abm.2 ⟨by omega,by omega⟩]
  simp
section
variable {K:Nat} (hK:281474976710656≤K)
include hK
theorem A9o{c:Fa}{n:Bg}(L:Ava c n)(hw:Ato n){k:Int}(hk:0≤k∧k<c.Af)(hn:k ∉ n.Af):Au6 K c n k=some (A2n n k,true):=by
 have hm:=Abn
 have L2:=A9n L hk hn;obtain⟨b1,b2,_⟩:=Ap L.conf
 have h1:=Awz L.conf L.dist
 have h3:=L.nth
 have h4:=L.ntag
 have e:Bg.mk n.Ja n.Bz n.Js n.fUp n.Hf n.B5 n.Hg n.Hh (n.Af++[k]) (Aqc .i64 k 1) 0 n.Er n.Dt=A2n n k:=by unfold A2n;rw[ad1 (by omega) (by omega)]
 unfold Au6
 have hb:A2n n k=A2n n k:=rfl;rw[Av8 K hw,Z0,show(n.Ja != 1)=false by rw[L.st];rfl,cond_false,Api,Azz hK L.conf,Abm.2 ⟨by omega,by omega⟩,Z0,Bool.not_true,cond_false,if_pos ⟨by simp;omega,by simp;omega⟩,e]
 have hl:(A2n n k).Af.length=n.Af.length+1:=by unfold A2n;simp
 rw[Av6 hK c (A2n n k) (by omega) (show n.Er.length≤_ by omega) (show n.Dt.length≤_ by omega),(Ajx.2 L2).1]
 rfl
omit hK in
theorem E7.le{w:Es}{E E':Int}{n m:Nat}(G:E7 w E n)(hE:E≤E')(h:n≤m):E7 w E' m:=⟨G.inv,G.mem,fun k hk=>by have:=G.ep k hk;exact⟨Int.le_trans this.ep hE,Int.le_trans this.ue hE,this.cur⟩,U7 G.wt h⟩
theorem Bi0{E:Int}{n:Nat}(hE:0≤E∧E≤900000000)(hn:n≤900000000){w:Es}(G:E7 w E n){p at_ ch:Int}(hp:p= -1∨AlW w.fL p∧(Ak5 w.fL w.fL.length p).length<4)(ha:(0≤at_∧at_<(w.fL.length:Int))∧(gt w.fL at_).Ja=0)(hc:Azm w.fP ch 1=true):
  ∃p' l',Aru K w.fP ch 1 at_=some p'∧(p= -1->l'=w.fL.set at_.toNat (A82 (gt w.fL at_).Bz ch))∧(p≠ -1->Av2 K (w.fL.set at_.toNat (A82 (gt w.fL at_).Bz ch)) p at_=some l')∧E7 (Es.mk w.fC p' l' w.fQ w.Rl) E (n+18)∧l'.length=w.fL.length:=by
 have I:=G.inv
 have W:=G.ww (by omega) (by omega)
 obtain⟨t,A,F⟩:=I.forest;obtain⟨b1,b2,b3,b4,b5,b6⟩:=Ap I.conf
 have P:=Ai3.1 I.pool
 have hst:=P.st
 have how:=P.own
 have hlen:=I.len;obtain⟨f1,f2,f3,f4⟩:=Awa.1 hc
 have M:Bg2 w t at_ ch p:=⟨ha.1,ha.2,hc,hp.imp_right fun h=>⟨h.1.al A,by rw[A3c A I.rg]at h;exact h.2⟩⟩
 obtain⟨p',ep,T⟩:=A2m hK W.p (by omega) (by omega) (k:=at_) hc
 have hg:=Ay1 (I.node at_ ha.1)
 have hbare:=M.bare I
 have hl': ∃l',(p= -1->l'=w.fL.set at_.toNat (A82 (gt w.fL at_).Bz ch))∧(p≠ -1->Av2 K (w.fL.set at_.toNat (A82 (gt w.fL at_).Bz ch)) p at_=some l')∧Bvg w l' at_ ch p:=by
  by_cases q:p= -1
  ·refine⟨w.fL.set at_.toNat (A82 (gt w.fL at_).Bz ch),fun _=>rfl,fun h=>absurd q h,by simp,?_,fun x hx hne=> ?_⟩
   ·rw[Ayk ha.1];unfold A82 mkN;rw[q];rfl
   ·have hpx:x≠p:=by omega
    rw[Ayl ha.1.1 hx (Ne.symm hne),if_neg hpx,if_neg (fun r=>r.1 (by omega))]
    rfl
  ·obtain⟨al,_⟩:=hp.resolve_left q
   have al:=al.al A
   have hpi:=al.lv.1
   have hpl:=(Avz A).1 al.lv
   have hne:p≠at_:=fun e=>by rw[e,ha.2]at hpl;exact absurd hpl.2 (by decide)
   have hgp: ∀v,gt (w.fL.set at_.toNat v) p=gt w.fL p:=fun v=>Ayl ha.1.1 hpi (Ne.symm hne) v
   have hnw:Ato (A82 (gt w.fL at_).Bz ch):=⟨Abk (x:=(1:Int)) (by omega) (by omega),Abk (by show _≤(gt w.fL at_).Bz;omega) (by show(gt w.fL at_).Bz≤_;omega),A2f,A2f,A2f,A2f,A2f,A2f,Auk (fun x hx=>by rw[Pl.1 (show x∈[ch] from hx)];omega) (by show [ch].length≤_;simp),Abk (by show _≤ch+1;omega) (by show ch+1≤_;omega),A2f,A45,A4t⟩
   have hW:Ai4 (w.fL.set at_.toNat (A82 (gt w.fL at_).Bz ch)):=by
    refine⟨fun x hx=> ?_,by rw[Z49];exact W.l.2⟩
    rcases Z54 hx with h|h
    ·exact W.l.1 x h
    ·rw[h];exact hnw
   have hfr:=(I.rg.rg p hpi).2.1;obtain⟨l',e,L⟩:=Br3 hK hW (by simp;omega) (p:=p) (k:=at_) (by simpa using hpi) (by simpa using ha.1) hne (by rw[hgp];simpa using hfr) (by
    rw[hgp];intro e
    have h1:=(F.tree.link p al.lv).first (by rw[A p hpi];show(gt w.fL p).B5≠0;omega)
    have h2:=((Avz A).1 h1.1).2;rw[A p hpi]at h2
    have h2:(gt w.fL ((gt w.fL p).B5 - 1)).Ja=1:=h2;rw[e,Int.add_sub_cancel,ha.2]at h2;cases h2)
   refine⟨l',fun h=>absurd h q,fun _=>e,by rw[L.len];simp,?_,fun x hx hxk=> ?_⟩
   ·rw[L.at_,Ayk ha.1,hgp];unfold A82 mkN;rw[if_neg (by omega),if_neg (by omega)]
   ·rw[L.ot x (by simpa using hx) hxk,Ayl ha.1.1 hx (Ne.symm hxk),hgp]
    by_cases r:x+1=(gt w.fL p).B5
    ·rw[if_pos r,if_pos (show p+1≠0∧x+1=(gt w.fL p).B5 from⟨by omega,r⟩)]
    ·rw[if_neg r,if_neg (fun s:p+1≠0∧x+1=(gt w.fL p).B5=>r s.2)]
 obtain⟨l',h1,h2,L⟩:=hl'
 have I':=Bn5 I A F M T L;refine⟨p',l',ep,h1,h2,⟨I',?_,fun x hx=> ?_,?_⟩,L.len⟩
 ·show ∀x∈p'.Gl,_;rw[T.mem];exact G.mem
 ·have hx:0≤x∧x<(l'.length:Int):=hx;rw[L.len]at hx
  show EpP E (gt l' x)
  by_cases e:x=at_
  ·rw[e,L.at_];refine⟨hE.1,?_,⟨by show 0≤ch+1;omega,by show ch+1≤_;omega⟩⟩
   show(if p+1=0 then 0 else(gt w.fL p).Js)≤E
   split
   ·exact hE.1
   ·rename_i q
    have:=(hp.resolve_left (by omega)).1.al A
    exact(G.ep p this.lv.1).ep
  ·rw[L.ot x hx e]
   have:=G.ep x hx;exact⟨this.ep,this.ue,this.cur⟩
 ·have hs:=A1i (f:=wtN w.fC) L.len ha.1 fun x hx hne=>by rw[L.ot x hx hne];rfl
  have e0:wtN w.fC (gt w.fL at_)=0:=by rw[hbare];exact A1j _ (by decide) _
  have e1:wtN w.fC (gt l' at_)≤18:=by
   rw[L.at_];unfold wtN mkN;simp only[if_pos,List.length_singleton,List.length_nil];omega
  have h3:=G.wt;unfold wt pot at h3 ⊢
  show(l'.map (wtN w.fC)).sum+_+_≤_;simp only at h3 ⊢;omega
end
section
variable {K:Nat} (hK:281474976710656≤K)
include hK
theorem A1m{E:Int}{n:Nat}(hE:0≤E∧E≤900000000)(hn:n≤900000000){w:Es}(G:E7 w E n){p:Int}(a b:F4)(hp:a.Yw=0->p= -1∨AlW w.fL p∧(Ak5 w.fL w.fL.length p).length<4):
  ∃r w',Anc K p w.fC.Af w.fC.Ez w.fC.Db w.fC.Fv w.fC.Dc w.fC.E0 w.fP.Gl w.fP.Ja w.fP.Gm w.fL w.fQ w.Rl a b=some (r,w')∧E7 w' E (n+18)∧w'.fC=w.fC:=by
 unfold Anc
 by_cases h0:a.Yw=0
 ·have hp:=hp h0;rw[h0];simp only[bne_self_eq_false,cond_false];obtain⟨d,w1,e1,S⟩:=Bfn hK (by omega:0≤E∧E≤1000000000) (by omega) 1 (run:=1) (by omega) G
  rw[show Es.mk (Fa.mk w.fC.Af w.fC.Ez w.fC.Db w.fC.Fv w.fC.Dc w.fC.E0) (Eb.mk w.fP.Gl w.fP.Ja w.fP.Gm) w.fL w.fQ w.Rl=w from rfl,e1]
  simp only[Z0]
  have G1:=S.good
  have T1:=S.stay
  have P1:=Ai3.1 G1.inv.pool
  have hst:=P1.st
  have hlen:=G1.inv.len;obtain⟨b1,b2,b3,b4,b5,b6⟩:=Ap G1.inv.conf;obtain⟨at_,e2,h2⟩:=Bch hK (l:=w1.fL) (by omega)
  obtain⟨ch,e3,h3⟩:=A3i hK (p:=w1.fP) (by omega)
  rw[e2,e3];simp only[Z0]
  have G1':=E7.le G1 (Int.le_refl E) (by omega:n≤n+18)
  by_cases q1:at_<0
  ·rw[decide_eq_true q1];exact⟨_,_,rfl,G1',T1.conf⟩
  ·rw[decide_eq_false q1];simp only[cond_false]
   by_cases q2:ch<0
   ·rw[decide_eq_true q2];exact⟨_,_,rfl,G1',T1.conf⟩
   ·rw[decide_eq_false q2];simp only[cond_false];obtain⟨hat,hfree⟩:=h2.resolve_left (by omega)
    have hch:=h3.resolve_left (by omega)
    obtain⟨f1,f2,f3,f4⟩:=Awa.1 hch
    have hp1:p= -1∨AlW w1.fL p∧(Ak5 w1.fL w1.fL.length p).length<4:=hp.imp_right fun h=>by
     obtain⟨x1,_,x3⟩:=T1.node p h.1;rw[x3,T1.len];exact⟨x1,h.2⟩
    obtain⟨p',l',et,k1,k2,G2,hl2⟩:=Bi0 hK hE hn G1 hp1 ⟨hat,hfree⟩ hch
    have hg:=Ay1 (G1.inv.node at_ hat)
    have L0:Ava w1.fC (Bg.mk 1 (gt w1.fL at_).Bz 0 0 0 0 0 0 [] 0 0 [] []):=⟨G1.inv.conf,rfl,hg.2.2,⟨Int.le_refl 0,by show(0:Int)≤_;omega⟩,⟨Int.le_refl 0,by show(0:Int)≤_;omega⟩,⟨Int.le_refl 0,by show(0:Int)≤_;omega⟩,⟨Int.le_refl 0,by show(0:Int)≤_;omega⟩,Int.le_refl 0,Int.le_refl 0,rfl,rfl,Z21 _,Z21 _,rfl,rfl⟩
    have W0:Ato (Bg.mk 1 (gt w1.fL at_).Bz 0 0 0 0 0 0 [] 0 0 [] []):=A4v (E:=0) (Ajx.2 L0).1 ⟨Int.le_refl 0,Int.le_refl 0,Int.le_refl 0,by show(0:Int)≤1000;omega⟩ (by omega)
    unfold Arq;simp only[Z0,if_pos hat];rw[et,Z0,A9o hK L0 W0 ⟨f1,by omega⟩ (by intro h;cases h),Z0]
    simp only
    have hnew:A2n (Bg.mk 1 (gt w1.fL at_).Bz 0 0 0 0 0 0 [] 0 0 [] []) ch=A82 (gt w1.fL at_).Bz ch:=rfl;rw[hnew]
    by_cases q3:p= -1
    ·rw[decide_eq_false (by omega: ¬p≥0)]
     simp only[cond_false];rw[←k1 q3];obtain⟨hd,eh⟩:=A1l (K:=K) (l:=l') (by omega) at_
     obtain⟨t,w2,es,S2⟩:=A5w hK (E:=E) (n:=n+18) (by omega) (by omega) w1.fC.Fv G2
     rw[eh,Z0,es];exact⟨_,_,rfl,S2.good,S2.stay.conf.trans T1.conf⟩
    ·have hp2:0≤p:=by
      obtain⟨t,A,F⟩:=G1.inv.forest;exact((hp1.resolve_left q3).1.al A).lv.1.1
     rw[decide_eq_true (show p≥0 from hp2)]
     simp only[cond_true];rw[k2 q3,Z0];obtain⟨hd,eh⟩:=A1l (K:=K) (l:=l') (by omega) at_
     obtain⟨t,w2,es,S2⟩:=A5w hK (E:=E) (n:=n+18) (by omega) (by omega) w1.fC.Fv G2
     rw[eh,Z0,es];exact⟨_,_,rfl,S2.good,S2.stay.conf.trans T1.conf⟩
 ·rw[Aue h0];exact⟨_,_,rfl,E7.le G (Int.le_refl E) (by omega),rfl⟩
theorem Bdp{E:Int}{n:Nat}(hE:0≤E∧E≤900000000)(hn:n≤900000000){w:Es}(G:E7 w E n){p:Int}(v:Bool)(a b:F4)(hp:v=false->p= -1∨AlW w.fL p∧(Ak5 w.fL w.fL.length p).length<4):
  ∃r w',As5 K p v w.fC.Af w.fC.Ez w.fC.Db w.fC.Fv w.fC.Dc w.fC.E0 w.fP.Gl w.fP.Ja w.fP.Gm w.fL w.fQ w.Rl a b=some (r,w')∧E7 w' E (n+18)∧w'.fC=w.fC:=by
 have W:=G.ww (by omega) (by omega)
 have hlen:=G.inv.len;obtain⟨b1,b2,b3,b4,b5,b6⟩:=Ap G.inv.conf;unfold As5;cases v with
 |true=>exact A1m hK hE hn G (p:=p) (F4.mk 3 a.fH a.fR a.fB a.Yx a.Fv a.Rm) b (fun h=>absurd (show(3:Int)=0 from h) (by decide))
 |false=>
  simp only[cond_false];rw[show Es.mk (Fa.mk w.fC.Af w.fC.Ez w.fC.Db w.fC.Fv w.fC.Dc w.fC.E0) (Eb.mk w.fP.Gl w.fP.Ja w.fP.Gm) w.fL w.fQ w.Rl=w from rfl]
  obtain⟨r,er⟩:=Bdo hK W (by omega)
  rw[er,Z0];cases r==0 with
  |true=>exact A1m hK hE hn G (p:=p) (F4.mk 4 a.fH a.fR a.fB a.Yx a.Fv a.Rm) b (fun h=>absurd (show(4:Int)=0 from h) (by decide))
  |false=>
   simp only[cond_false];obtain⟨f,ef⟩:=A1k hK W (by omega) 1
   rw[ef,Z0];cases f with
   |false=>exact A1m hK hE hn G (p:=p) (F4.mk 5 a.fH a.fR a.fB a.Yx a.Fv a.Rm) b (fun h=>absurd (show(5:Int)=0 from h) (by decide))
   |true=>exact A1m hK hE hn G (p:=p) a b (fun _=>hp rfl)
theorem Bfo{E:Int}{n:Nat}(hE:0≤E∧E≤900000000)(hn:n≤900000000){w:Es}(G:E7 w E n)(h:Ca): ∃r w',Awl K w h=some (r,w')∧E7 w' E (n+18)∧w'.fC=w.fC:=by
 have W:=G.ww (by omega) (by omega)
 have hlen:=G.inv.len;obtain⟨b1,b2,b3,b4,b5,b6⟩:=Ap G.inv.conf
 have hup: ∃p c,Ax3 K w h=some (p,c)∧(c=0->p= -1∨AlW w.fL p):=by
  unfold Ax3;cases ((h.As==0)&&((h.Bz==0)&&true))with
  |true=>exact⟨-1,0,rfl,fun _=> .inl rfl⟩
  |false=>
   simp only[cond_false];rw[Atr hK W.l,Z0];exact⟨_,_,rfl,fun h0=> .inr (A1v G.inv h0)⟩
 obtain⟨p,c,ep,hp⟩:=hup;unfold Awl;rw[ep,Z0,Axa hK w W.l,Z0];simp only
 by_cases q:c=0
 ·rw[q];simp only[bne_self_eq_false,cond_false];rcases hp q with e|e
  ·rw[e,decide_eq_false (by omega)]
   exact Bdp hK hE hn G false _ _ (fun _=> .inl rfl)
  ·have hpi:0≤p∧p<(w.fL.length:Int):=by
    obtain⟨t,A,F⟩:=G.inv.forest;exact(e.al A).lv.1
   rw[decide_eq_true (show p≥0 from hpi.1)]
   simp only[cond_true];unfold Au1;rw[A0i hK W.l p ⟨by omega,by omega⟩]
   simp only[Z0];refine Bdp hK hE hn G _ _ _ (fun hv=> .inr ⟨e,?_⟩)
   have:=of_decide_eq_false hv;omega
 ·rw[Aue q];exact A1m hK hE hn G (p:=p) (F4.mk c (Ca.mk 0 0) (E2.mk (Ca.mk 0 0) 0 0) [] (Bdc w h) 0 0) (F4.mk 0 (Ca.mk 0 0) (E2.mk (Ca.mk 0 0) 0 0) [] 0 0 0) (fun h=>absurd h q)
end
theorem A1n{c:Fa}{ch:List Int}{t:Bf}(h:Ar5 c ch t=true){j:Int}(h0:t.fAt≤j)(h1:j<t.fAt+t.Xf):j / c.Ez∈ch:=by
 unfold Ar5 at h;rw[Z4,Z1]at h;obtain⟨ht,hc⟩:=h;obtain⟨hs,hin⟩:=Ayv ht;obtain⟨b1,b2,_⟩:=Ap hin.1
 have e1:t.fAt / c.Ez≤j / c.Ez:=Int.ediv_le_ediv (by omega) h0
 have e2:j / c.Ez≤(t.fAt+t.Xf - 1) / c.Ez:=Int.ediv_le_ediv (by omega) (by omega)
 have:=hc (j / c.Ez - t.fAt / c.Ez).toNat (by rw[List.mem_range];omega)
 rw[show t.fAt / c.Ez+(((j / c.Ez - t.fAt / c.Ez).toNat:Nat):Int)=j / c.Ez by omega]at this
 exact List.contains_iff_mem.1 this
theorem A4y{a s j:Int}(hs:0<s)(h0:a*s≤j)(h1:j<a*s+s):j / s=a:=by
 have h2:a≤j / s:=(Int.le_ediv_iff_mul_le hs).2 h0
 have h3:j / s<a+1:=Int.ediv_lt_of_lt_mul hs (by rw[Int.add_mul,Int.one_mul];exact h1)
 omega
theorem Ay4{a b:Bf}(h: ∀j,a.fAt≤j->j<a.fAt+a.Xf->b.fAt≤j->j<b.fAt+b.Xf->False):Ana a b=true:=by
 unfold Ana;rw[decide_eq_true_iff]
 by_cases h1:a.Xf≤0
 ·exact .inl h1
 by_cases h2:b.Xf≤0
 ·exact .inr (.inl h2)
 by_cases h3:a.fAt+a.Xf≤b.fAt
 ·exact .inr (.inr (.inl h3))
 by_cases h4:b.fAt+b.Xf≤a.fAt
 ·exact .inr (.inr (.inr h4))
 exfalso
 by_cases h5:a.fAt≤b.fAt
 ·exact h b.fAt h5 (by omega) (by omega) (by omega)
 ·exact h a.fAt (by omega) (by omega) (by omega) (by omega)
theorem Bdq{a b:Bf}(h:Ana a b=true){j:Int}(h1:a.fAt≤j)(h2:j<a.fAt+a.Xf)(h3:b.fAt≤j)(h4:j<b.fAt+b.Xf):False:=by
 unfold Ana at h;rw[decide_eq_true_iff]at h;omega
theorem A3j{l:List Bf}:Ank l=true ↔ l.Pairwise (fun a b=>Ana a b=true):=by
 unfold Ank;rw[Z1,List.pairwise_iff_getElem];constructor
 ·intro h i j hi hj hij
  have:=h j (by rw[List.mem_range];exact hj)
  rw[Z1]at this
  have h2:=this l[i] (by
   rw[List.mem_iff_getElem];exact⟨i,by simp;omega,by simp⟩)
  rwa[Abh hj]at h2
 ·intro h j hj;rw[List.mem_range]at hj;rw[Z1];intro o ho;obtain⟨i,hi,e⟩:=List.mem_iff_getElem.1 ho;simp only[List.length_take]at hi;simp only[List.getElem_take]at e;rw[Abh hj,←e];exact h i j (by omega) hj (by omega)
theorem A3k{l:List Bf}{t:Bf}(h:Ank l=true)(ht: ∀o∈l,Ana o t=true):Ank (l++[t])=true:=by
 rw[A3j]at h ⊢;rw[List.pairwise_append];exact⟨h,by simp,fun a ha b hb=>by rw[Pl.1 hb];exact ht a ha⟩
theorem A3l{c:Fa}{n:Bg}(L:Ava c n)(hc:0≤n.Rk∧n.Rk≤1000)(h0:n.Rk≠0):n.Rk - 1∈n.Af∧0≤n.Hi∧n.Hi≤c.Ez:=by
 have:=L.cur;unfold A5h at this;rw[Aky h0,cond_false,Z4,Abm,sb1 (by omega) (by omega)]at this
 exact⟨List.contains_iff_mem.1 this.1,this.2⟩
theorem Bg3{c:Fa}{ch ch':List Int}(h: ∀x∈ch,x∈ch'){t:Bf}(ht:Ar5 c ch t=true):Ar5 c ch' t=true:=by
 unfold Ar5 at ht ⊢;rw[Z4,Z1]at ht ⊢;exact⟨ht.1,fun j hj=>List.contains_iff_mem.2 (h _ (List.contains_iff_mem.1 (ht.2 j hj)))⟩
def A8f (c:Fa)(n:Bg)(off size:Int):Bg:=Bg.mk n.Ja n.Bz n.Js n.fUp n.Hf n.B5 n.Hg n.Hh n.Af n.Rk (off+size) (n.Er++[Bf.mk ((n.Rk - 1)*c.Ez+off) size 0]) n.Dt
structure Bn7 (c:Fa)(n:Bg)(off size:Int):Prop where
 cur:n.Rk≠0
 ho:n.Hi≤off
 hz:1≤size
 fit:off+size≤c.Ez
 cnt:n.Er.length<12
structure ThP (c:Fa)(mem:List Int)(n:Bg):Prop where
 inch:n.Er.all (Ar5 c n.Af)=true
 apart:Ank n.Er=true
 loose:Asm c mem n=true
theorem Bn8{c:Fa}{mem:List Int}{n:Bg}{off size:Int}(L:Ava c n)(hc:0≤n.Rk∧n.Rk≤1000)(T:ThP c mem n)(S:Bn7 c n off size):Ava c (A8f c n off size)∧ThP c mem (A8f c n off size):=by
 obtain⟨b1,b2,_⟩:=Ap L.conf;obtain⟨m1,m2,m3⟩:=A3l L hc S.cur
 have hm:=Awy L.dist _ m1
 have ho:=S.ho;have hz:=S.hz;have hf:=S.fit;have hn:=S.cnt
 have hlo:=T.loose;unfold Asm at hlo;rw[Aky S.cur,Z52,Z4,Z1]at hlo;obtain⟨z1,z2⟩:=hlo
 have q0:0≤(n.Rk - 1)*c.Ez:=Int.mul_nonneg (by omega) (by omega)
 have q1:(n.Rk - 1)*c.Ez+c.Ez≤c.Af*c.Ez:=by
  have:(n.Rk - 1+1)*c.Ez≤c.Af*c.Ez:=Int.mul_le_mul_of_nonneg_right (by omega) (by omega)
  rw[Int.add_mul,Int.one_mul]at this;exact this
 have hby:Anl c=c.Af*c.Ez:=by unfold Anl;rw[L.conf];rfl
 have d1:((n.Rk - 1)*c.Ez+off) / c.Ez=n.Rk - 1:=A4y (by omega) (by omega) (by omega)
 have d2:((n.Rk - 1)*c.Ez+off+size - 1) / c.Ez=n.Rk - 1:=A4y (by omega) (by omega) (by omega)
 have htb:Ard c (Bf.mk ((n.Rk - 1)*c.Ez+off) size 0)=true:=by
  unfold Ard;rw[decide_eq_true (show Avv c (Bf.mk ((n.Rk - 1)*c.Ez+off) size 0) from⟨L.conf,hz,by show 0≤_+off;omega,by rw[hby];show(n.Rk - 1)*c.Ez+off+size≤_;omega⟩)]
  show(decide (size≤c.Ez)&&(((n.Rk - 1)*c.Ez+off) / c.Ez==((n.Rk - 1)*c.Ez+off+size - 1) / c.Ez))=true;rw[d1,d2,decide_eq_true (by omega)];simp
 have htc:Ar5 c n.Af (Bf.mk ((n.Rk - 1)*c.Ez+off) size 0)=true:=by
  unfold Ar5;rw[htb,Z30];simp only;rw[d1,d2,Int.sub_self,Z1];intro j hj;rw[List.mem_range]at hj;rw[show(j:Int)=0 by omega,Int.add_zero]
  exact List.contains_iff_mem.2 m1
 have hr: ∀o∈n.Er,∀j,o.fAt≤j->j<o.fAt+o.Xf->(n.Rk - 1)*c.Ez+n.Hi≤j->j<(n.Rk - 1)*c.Ez+c.Ez->False:=fun o h j h1 h2 h3 h4=>Bdq (z2 o h) h1 h2 (b:=Av7 c n) h3 (by show j<(n.Rk - 1)*c.Ez+n.Hi+(c.Ez - n.Hi);omega)
 refine⟨⟨L.conf,L.st,L.gen,L.up,L.first,L.next,L.prev,L.ep,L.ue,L.dist,?_,?_,L.ntag,L.tags,?_⟩,⟨?_,?_,?_⟩⟩
 ·unfold A5h A8f;simp only;rw[Aky S.cur,cond_false,sb1 (by omega) (by omega),List.contains_iff_mem.2 m1,Abm.2 ⟨by omega,by omega⟩];rfl
 ·show(n.Er++[_]).length≤12;simp;omega
 ·show(n.Er++[_]).all (Ard c)=true;rw[List.all_append,L.things,Gc,htb];rfl
 ·show(n.Er++[_]).all (Ar5 c n.Af)=true;rw[List.all_append,T.inch,Gc,htc];rfl
 ·refine A3k T.apart fun o h=>Ay4 fun j h1 h2 h3 h4=>hr o h j h1 h2 ?_ ?_
  ·have h3:(n.Rk - 1)*c.Ez+off≤j:=h3;omega
  ·have h4:j<(n.Rk - 1)*c.Ez+off+size:=h4;omega
 ·unfold Asm;rw[Bool.or_eq_true,Z4];refine .inr ⟨?_,?_⟩
  ·rw[A1h]at z1 ⊢;intro j h1 h2 h3
   have h1:((n.Rk - 1)*c.Ez+(off+size)).toNat≤j:=h1
   have h2:j<((n.Rk - 1)*c.Ez+(off+size)).toNat+(c.Ez - (off+size)).toNat:=h2;refine z1 j ?_ ?_ h3
   ·show((n.Rk - 1)*c.Ez+n.Hi).toNat≤j;omega
   ·show j<((n.Rk - 1)*c.Ez+n.Hi).toNat+(c.Ez - n.Hi).toNat;omega
  ·show(n.Er++[_]).all _=true;rw[List.all_append,Gc,Z4,Z4,Z1];refine⟨fun o h=>Ay4 fun j h1 h2 h3 h4=>hr o h j h1 h2 ?_ ?_,Ay4 fun j h1 h2 h3 h4=> ?_,rfl⟩
   ·have h3:(n.Rk - 1)*c.Ez+(off+size)≤j:=h3;omega
   ·have h4:j<(n.Rk - 1)*c.Ez+(off+size)+(c.Ez - (off+size)):=h4;omega
   ·have h2:j<(n.Rk - 1)*c.Ez+off+size:=h2
    have h3:(n.Rk - 1)*c.Ez+(off+size)≤j:=h3;omega
def A3m (a n:Int):List Int:=(List.range n.toNat).map (fun(i:Nat)=>a+(i:Int))
theorem A3n{a n x:Int}:x∈A3m a n ↔ a≤x∧x<a+n:=by
 unfold A3m;rw[E8];constructor
 ·rintro⟨i,hi,e⟩;rw[List.mem_range]at hi;omega
 ·intro h;exact⟨(x - a).toNat,by rw[List.mem_range];omega,by omega⟩
theorem Bfp (a n:Int):(A3m a n).Nodup:=by
 unfold A3m;refine List.Pairwise.map _ (fun x y h=> ?_) List.nodup_range;omega
def Azu (c:Fa)(n:Bg)(a run size:Int):Bg:=Bg.mk n.Ja n.Bz n.Js n.fUp n.Hf n.B5 n.Hg n.Hh (n.Af++A3m a run) n.Rk n.Hi (n.Er++[Bf.mk (a*c.Ez) size run]) n.Dt
structure Bfq (c:Fa)(n:Bg)(a run size:Int):Prop where
 hz:c.Ez<size∧size≤200
 hr:run=Aug size c.Ez
 at_:0≤a∧a+run≤c.Af
 new: ∀x∈n.Af,¬(a≤x∧x<a+run)
 cnt:n.Er.length<12
theorem Bdr{c:Fa}{mem:List Int}{n:Bg}{a run size:Int}(L:Ava c n)(hc:0≤n.Rk∧n.Rk≤1000)(T:ThP c mem n)(S:Bfq c n a run size):Ava c (Azu c n a run size)∧ThP c mem (Azu c n a run size):=by
 obtain⟨b1,b2,_⟩:=Ap L.conf
 have hz:=S.hz;have ha:=S.at_;have hn:=S.cnt
 have hrun:run=(size+c.Ez - 1) / c.Ez:=by
  rw[S.hr];unfold Aug;rw[Abm.2 ⟨by omega,by omega⟩,Abm.2 ⟨by omega,by omega⟩];rfl
 have hru:size≤run*c.Ez:=by
  have:=Int.lt_ediv_add_one_mul_self (size+c.Ez - 1) (show 0<c.Ez by omega)
  rw[←hrun,Int.add_mul,Int.one_mul]at this;omega
 have hr1:1≤run:=by
  rw[hrun];exact(Int.le_ediv_iff_mul_le (by omega)).2 (by omega)
 have q0:0≤a*c.Ez:=Int.mul_nonneg (by omega) (by omega)
 have q1:a*c.Ez+run*c.Ez≤c.Af*c.Ez:=by
  rw[←Int.add_mul];exact Int.mul_le_mul_of_nonneg_right (by omega) (by omega)
 have hby:Anl c=c.Af*c.Ez:=by unfold Anl;rw[L.conf];rfl
 have htb:Ard c (Bf.mk (a*c.Ez) size run)=true:=by
  unfold Ard;rw[decide_eq_true (show Avv c (Bf.mk (a*c.Ez) size run) from⟨L.conf,by show 1≤size;omega,q0,by rw[hby];show a*c.Ez+size≤_;omega⟩)]
  show(bif run==0 then _ else decide (size>c.Ez)&&(run==Aug size c.Ez&&(a*c.Ez) % c.Ez==0))=true
  rw[Aky (by omega),cond_false,decide_eq_true (by omega),←S.hr,Int.mul_emod_left];simp
 have hdv: ∀j,a*c.Ez≤j->j<a*c.Ez+size->a≤j / c.Ez∧j / c.Ez<a+run:=fun j h1 h2=>by
  refine⟨(Int.le_ediv_iff_mul_le (by omega)).2 h1,Int.ediv_lt_of_lt_mul (by omega) ?_⟩
  rw[Int.add_mul];omega
 have htc:Ar5 c (n.Af++A3m a run) (Bf.mk (a*c.Ez) size run)=true:=by
  unfold Ar5;rw[htb,Z30,Z1];intro j hj;rw[List.mem_range]at hj
  have e1:=hdv (a*c.Ez) (Int.le_refl _) (by omega)
  have e2:=hdv (a*c.Ez+size - 1) (by omega) (by omega)
  have hj:j<((a*c.Ez+size - 1) / c.Ez - a*c.Ez / c.Ez+1).toNat:=hj;refine List.contains_iff_mem.2 (Ho.2 (.inr (A3n.2 ?_)))
  show a≤a*c.Ez / c.Ez+(j:Int)∧a*c.Ez / c.Ez+(j:Int)<a+run;omega
 have hmono: ∀x∈n.Af,x∈n.Af++A3m a run:=fun x h=>Ho.2 (.inl h)
 have hold: ∀o∈n.Er,∀j,o.fAt≤j->j<o.fAt+o.Xf->a*c.Ez≤j->j<a*c.Ez+size->False:=fun o h j h1 h2 h3 h4=>S.new _ (A1n (Z1.1 T.inch o h) h1 h2) (hdv j h3 h4)
 have hd:=Az6.1 L.dist;refine⟨⟨L.conf,L.st,L.gen,L.up,L.first,L.next,L.prev,L.ep,L.ue,?_,?_,?_,L.ntag,L.tags,?_⟩,⟨?_,?_,?_⟩⟩
 ·refine Az6.2 ⟨Agh.2 ⟨hd.1,Bfp _ _,fun x h1 h2=>S.new x h1 (A3n.1 h2)⟩,fun x hx=> ?_⟩;rcases Ho.1 hx with h|h
  ·exact hd.2 x h
  ·have:=A3n.1 h;omega
 ·have:=L.cur;unfold A5h at this ⊢
  show(bif n.Rk==0 then n.Hi==0 else(n.Af++A3m a run).contains (Aqd .i64 n.Rk 1)&&inB n.Hi 0 c.Ez)=true
  cases e:n.Rk==0 with
  |true=>rw[e]at this;exact this
  |false=>
   rw[e,cond_false,Z4]at this;rw[cond_false,this.2,Bool.and_true];exact List.contains_iff_mem.2 (hmono _ (List.contains_iff_mem.1 this.1))
 ·show(n.Er++[_]).length≤12;simp;omega
 ·show(n.Er++[_]).all (Ard c)=true;rw[List.all_append,L.things,Gc,htb];rfl
 ·show(n.Er++[_]).all (Ar5 c (n.Af++A3m a run))=true;rw[List.all_append,Gc,htc,Z4,Z1];exact⟨fun o h=>Bg3 hmono (Z1.1 T.inch o h),rfl⟩
 ·exact A3k T.apart fun o h=>Ay4 fun j h1 h2 h3 h4=>hold o h j h1 h2 h3 h4
 ·have hlo:=T.loose;unfold Asm at hlo ⊢;rw[Bool.or_eq_true,Z4]at hlo ⊢;rcases hlo with h|⟨h,h'⟩
  ·exact .inl h
  ·by_cases e:n.Rk=0
   ·exact .inl (by show(n.Rk==0)=true;rw[e];rfl)
   ·refine .inr ⟨h,?_⟩
    show(n.Er++[_]).all (fun t=>Ana t (Av7 c n))=true;rw[List.all_append,h',Gc,Z30,Z4];refine⟨Ay4 fun j h1 h2 h3 h4=> ?_,rfl⟩;obtain⟨m1,m2,m3⟩:=A3l L hc e
    have h3:(n.Rk - 1)*c.Ez+n.Hi≤j:=h3
    have h4:j<(n.Rk - 1)*c.Ez+n.Hi+(c.Ez - n.Hi):=h4
    have:=A4y (a:=n.Rk - 1) (s:=c.Ez) (j:=j) (by omega) (by omega) (by omega)
    exact S.new _ m1 (by rw[←this];exact hdv j h1 h2)
def A2o (al:Int):Bool:=al==1||(al==2||al==4)
theorem A0o (K:Nat)(al:Int):Arv K al=some (A2o al):=by
 unfold Arv A2o;cases al==1<;>cases al==2<;>rfl
theorem Bds{al:Int}(h:A2o al=true):al=1∨al=2∨al=4:=by
 unfold A2o at h
 rwa[Bool.or_eq_true,Bool.or_eq_true,beq_iff_eq,beq_iff_eq,beq_iff_eq]at h
theorem Bfr (K:Nat){b al:Int}(hb:0≤b∧b≤1000)(ha:A2o al=true): ∃off,Awm K b al=some off∧b≤off∧off≤2000:=by
 unfold Awm;rw[Api,Abm.2 ⟨by omega,by omega⟩,A0o,ha]
 simp only[Z0,cond_true,Bool.not_true,cond_false]
 have e:Aqd .i64 (Aqc .i64 b al) 1=b+al - 1:=by
  have:=Bds ha;unfold Aqd Aqc;rw[Abf (n:=b+al) (by omega) (by omega),Abf (by omega) (by omega)]
 rw[e]
 have key: ∀a:Int,1≤a->a≤4->Aqe .i64 (Anr .i64 (b+a - 1) a) a=(b+a - 1) / a*a:=by
  intro a h1 h2
  have h3:(b+a - 1) / a≤b+a - 1:=Int.ediv_le_self _ (by omega)
  have h4:0≤(b+a - 1) / a:=Int.ediv_nonneg (by omega) (by omega)
  have h5:=Auu (a:=(b+a - 1) / a) (b:=a) (m:=2000) (n:=4) h4 (by omega) (by omega) h2
  unfold Anr Aqe;rw[Int.tdiv_eq_ediv_of_nonneg (by omega),Abf (n:=(b+a - 1) / a) (by omega) (by omega),Abf (by omega) (by omega)]
 rcases Bds ha with h|h|h
 ·subst h;rw[if_pos (by decide),key 1 (by omega) (by omega)]
  exact⟨_,rfl,by omega,by omega⟩
 ·subst h;rw[if_pos (by decide),key 2 (by omega) (by omega)]
  exact⟨_,rfl,by omega,by omega⟩
 ·subst h;rw[if_pos (by decide),key 4 (by omega) (by omega)]
  exact⟨_,rfl,by omega,by omega⟩
section
variable {K:Nat} (hK:281474976710656≤K)
include hK
theorem A9p{c:Fa}{n:Bg}(L:Ava c n)(W:Ato n)(hc:0≤n.Rk∧n.Rk≤1000)(size al:Int)(hs: -1000000≤size∧size≤1000000): ∃at_ b,Au7 K c n size al=some (at_,b)∧(b=true-> ∃off,at_=(n.Rk - 1)*c.Ez+off∧n.Rk≠0∧n.Hi≤off∧1≤size∧off+size≤c.Ez):=by
 obtain⟨b1,b2,_⟩:=Ap L.conf
 have h1:=Awz L.conf L.dist
 have h3:=L.nth
 have h4:=L.ntag;unfold Au7;rw[Av6 hK c n (by omega) (by omega) (by omega),(Ajx.2 L).1]
 simp only[Z0,cond_true]
 by_cases q:n.Rk=0
 ·rw[q];exact⟨_,_,rfl,fun h=>by cases h⟩
 ·rw[Aky q,Api];simp only[cond_false,Z0]
  by_cases q2:1≤size∧size≤c.Ez
  ·rw[Abm.2 q2,A0o];simp only[cond_true,Z0];cases ha:A2o al with
   |false=>exact⟨_,_,rfl,fun h=>by cases h⟩
   |true=>
    obtain⟨m1,m2,m3⟩:=A3l L hc q
    have hm:=Awy L.dist _ m1;obtain⟨off,eo,ho1,ho2⟩:=Bfr K (b:=n.Hi) ⟨m2,by omega⟩ ha
    simp only[Bool.not_true,cond_false];rw[eo,Z0]
    have e1:Aqc .i64 off size=off+size:=by unfold Aqc;exact Abf (by omega) (by omega)
    have e2:Aqd .i64 n.Rk 1=n.Rk - 1:=sb1 (by omega) (by omega)
    have h5:=Auu (a:=n.Rk - 1) (b:=c.Ez) (m:=12) (n:=16) (by omega) (by omega) (by omega) b2.2
    have e3:Aqe .i64 (n.Rk - 1) c.Ez=(n.Rk - 1)*c.Ez:=by unfold Aqe;exact Abf (by omega) (by omega)
    have e4:Aqc .i64 ((n.Rk - 1)*c.Ez) off=(n.Rk - 1)*c.Ez+off:=by unfold Aqc;exact Abf (by omega) (by omega)
    rw[e1,e2,e3,e4]
    by_cases q3:off+size>c.Ez
    ·rw[decide_eq_true q3];exact⟨_,_,rfl,fun h=>by cases h⟩
    ·rw[decide_eq_false q3];exact⟨_,_,rfl,fun _=>⟨off,rfl,q,ho1,q2.1,by omega⟩⟩
  ·rw[Bbi.2 q2];exact⟨_,_,rfl,fun h=>by cases h⟩
theorem Bdt{c:Fa}{n:Bg}(L:Ava c n)(W:Ato n)(hc:0≤n.Rk∧n.Rk≤1000)(size al:Int)(hs: -1000000≤size∧size≤1000000): ∃n' b,Avk K c n size al=some (n',b)∧(n'=n∨ ∃off,Bn7 c n off size∧n'=A8f c n off size):=by
 have hm:=Abn;obtain⟨b1,b2,_⟩:=Ap L.conf
 have h3:=L.nth;obtain⟨at_,b,e,hb⟩:=A9p hK L W hc size al hs;unfold Avk;rw[Av8 K W,Z0,e,Z0];cases b with
 |false=>exact⟨_,_,rfl,.inl rfl⟩
 |true=>
  obtain⟨off,e1,h1,h2,h4,h5⟩:=hb rfl;obtain⟨m1,m2,m3⟩:=A3l L hc h1
  have hmi:=Awy L.dist _ m1;simp only[cond_true]
  by_cases q:(n.Er.length:Int)≥12
  ·rw[decide_eq_true q];exact⟨_,_,rfl,.inl rfl⟩
  ·rw[decide_eq_false q];simp only[cond_false];rw[if_pos ⟨by simp;omega,by simp;omega⟩]
   refine⟨_,_,rfl,.inr ⟨off,⟨h1,h2,h4,h5,by omega⟩,?_⟩⟩
   have e2:Aqd .i64 n.Rk 1=n.Rk - 1:=sb1 (by omega) (by omega)
   have h6:=Auu (a:=n.Rk - 1) (b:=c.Ez) (m:=12) (n:=16) (by omega) (by omega) (by omega) b2.2
   have e3:Aqe .i64 (n.Rk - 1) c.Ez=(n.Rk - 1)*c.Ez:=by unfold Aqe;exact Abf (by omega) (by omega)
   have e4:Aqd .i64 at_ ((n.Rk - 1)*c.Ez)=off:=by unfold Aqd;rw[e1,Abf (by omega) (by omega)];omega
   have e5:Aqc .i64 off size=off+size:=by unfold Aqc;exact Abf (by omega) (by omega)
   rw[e2,e3,e4,e5,e1];rfl
theorem Bn9{c:Fa}{n:Bg}(L:Ava c n)(W:Ato n)(hc:0≤n.Rk∧n.Rk≤1000)(size al:Int)(hs: -1000000≤size∧size≤1000000): ∃b,Ats K c n size al=some b:=by
 have h1:=Awz L.conf L.dist
 have h3:=L.nth
 have h4:=L.ntag;obtain⟨at_,b,e,hb⟩:=A9p hK L W hc size al hs;unfold Ats;rw[e,Av6 hK c n (by omega) (by omega) (by omega),(Ajx.2 L).1,Api,A0o,L.st]
 simp only[Z0];cases b<;>cases inB size 1 c.Ez<;>exact⟨_,rfl⟩
theorem Bdu{c:Fa}{mem:List Int}{n:Bg}(L:Ava c n)(W:Ato n)(hc:0≤n.Rk∧n.Rk≤1000)(T:ThP c mem n){a run size:Int}(S:Bfq c n a run size):Avi K c n a size=some (Azu c n a run size,true):=by
 have hm:=Abn;obtain⟨b1,b2,_⟩:=Ap L.conf
 have h1:=Awz L.conf L.dist
 have h3:=L.nth
 have h4:=L.ntag
 have hz:=S.hz;have ha:=S.at_;obtain⟨L2,T2⟩:=Bdr L hc T S
 have hrun:run=(size+c.Ez - 1) / c.Ez:=by
  rw[S.hr];unfold Aug;rw[Abm.2 ⟨by omega,by omega⟩,Abm.2 ⟨by omega,by omega⟩];rfl
 have hru:size≤run*c.Ez:=by
  have:=Int.lt_ediv_add_one_mul_self (size+c.Ez - 1) (show 0<c.Ez by omega)
  rw[←hrun,Int.add_mul,Int.one_mul]at this;omega
 have hr1:1≤run:=by
  rw[hrun];exact(Int.le_ediv_iff_mul_le (by omega)).2 (by omega)
 have q1:run*c.Ez≤c.Af*c.Ez:=Int.mul_le_mul_of_nonneg_right (by omega) (by omega)
 have hby:Anl c=c.Af*c.Ez:=by unfold Anl;rw[L.conf];rfl
 have e3:Aqe .i64 a c.Ez=a*c.Ez:=by
  have h5:=Auu (a:=a) (b:=c.Ez) (m:=12) (n:=16) (by omega) (by omega) (by omega) b2.2
  unfold Aqe;exact Abf (by omega) (by omega)
 unfold Avi Ap1 Anb;rw[Av8 K W,Z0,Atc,L.conf];simp only[Z0,cond_true];rw[show(n.Ja != 1)=false by rw[L.st];rfl,cond_false,decide_eq_true (by omega),cond_true,Auv,Z0,decide_eq_false (by omega),cond_false,Api,Azz hK L.conf,Abm.2 ⟨by omega,by omega⟩]
 simp only[Z0,Bool.not_true,cond_false];rw[A0f,Z0,←S.hr,Z0]
 have key: ∀(f i:Nat) (v:List Int),(i:Int)≤run->run.toNat - i<f->v=n.Af++(List.range i).map (fun(j:Nat)=>a+(j:Int))->Asf K c a size run f (i:Int) (Bg.mk n.Ja n.Bz n.Js n.fUp n.Hf n.B5 n.Hg n.Hh v n.Rk n.Hi n.Er n.Dt) (Bg.mk 0 0 0 0 0 0 0 0 [] 0 0 [] []) n.Ja n.Bz n.Js n.fUp n.Hf n.B5 n.Hg n.Hh n.Af n.Rk n.Hi n.Er n.Dt=some (Azu c n a run size,true):=by
  intro f
  induction f with
  |zero=>intro i v _ h;omega
  |succ f ih=>
   intro i v hi hf hv
   have hvl:v.length=n.Af.length+i:=by rw[hv];simp
   rw[Asf]
   by_cases h:(i:Int)=run
   ·rw[decide_eq_false (by omega),cond_false,e3]
    simp only;rw[if_pos ⟨by simp;omega,by simp;omega⟩]
    have el:Bg.mk n.Ja n.Bz n.Js n.fUp n.Hf n.B5 n.Hg n.Hh v n.Rk n.Hi (n.Er++[Bf.mk (a*c.Ez) size run]) n.Dt=Azu c n a run size:=by
     unfold Azu A3m;rw[hv,←h,Int.toNat_natCast]
    have hl2:=L2.nth
    have hl3:=Awz L2.conf L2.dist;rw[el,Av6 hK c (Azu c n a run size) (by omega) (by omega) (show n.Dt.length≤_ by omega),(Ajx.2 L2).1]
    rfl
   ·have e1:Aqc .i64 a (i:Int)=a+(i:Int):=by unfold Aqc;exact Abf (by omega) (by omega)
    rw[decide_eq_true (by omega),cond_true,e1,Agw (by omega)]
    simp only;rw[if_pos ⟨by simp;omega,by simp;omega⟩]
    refine ih (i+1) _ (by omega) (by omega) ?_
    rw[hv,List.range_succ,G3,My];rfl
 have:=key K 0 n.Af (by omega) (by omega) (by simp)
 exact this
end
theorem A1o{w:Es}{E:Int}{n:Nat}(G:E7 w E n){k:Int}(hk:AlW w.fL k){p':Eb}{n':Bg}
  (P':A49 w.fC p') (hone: ∀c,0≤c∧c<w.fC.Af->(gt p'.Ja c=2 ↔ gt w.fP.Ja c=2)∧(gt p'.Ja c=1∧gt p'.Gm c=k ↔ c∈n'.Af)∧ ∀x,x≠k->(gt p'.Ja c=1∧gt p'.Gm c=x ↔ gt w.fP.Ja c=1∧gt w.fP.Gm c=x))
  (hm:p'.Gl=w.fP.Gl) (hlk:A1d n'=A1d (gt w.fL k)) (L:Ava w.fC n') (T:ThP w.fC w.fP.Gl n') (he:EpP E n') {m:Nat} (hwt:wtN w.fC n'≤wtN w.fC (gt w.fL k)+m):
  E7 (Es.mk w.fC p' (w.fL.set k.toNat n') w.fQ w.Rl) E (n+m)∧AlW (w.fL.set k.toNat n') k∧gt (w.fL.set k.toNat n') k=n':=by
 obtain⟨t,A,F⟩:=G.inv.forest
 have al:=hk.al A
 have hki:=al.lv.1
 have hst:=((Avz A).1 al.lv).2
 have hg: ∀x,0≤x∧x<(w.fL.length:Int)->gt (w.fL.set k.toNat n') x=if x=k then n' else gt w.fL x:=fun x hx=>Apo hki hx n'
 have hgk:gt (w.fL.set k.toNat n') k=n':=Ayk hki n'
 have A':AtT (w.fL.set k.toNat n') t:=fun x hx=>by
  rw[Z49]at hx;rw[hg x hx,A x hx]
  by_cases e:x=k
  ·rw[if_pos e,e,hlk]
  ·rw[if_neg e]
 have I':Inv (Es.mk w.fC p' (w.fL.set k.toNat n') w.fQ w.Rl):=by
  refine Bg1 G.inv hki p' _ t (by simp) (fun x hx hne=>⟨_,_,_,by rw[hg x hx,if_neg hne];exact(A8c _).symm,?_,?_,?_⟩) (by omega) (by rw[hgk];exact L) A' F P' hm (by rw[hgk];exact hone) (by rw[hgk];exact⟨T.inch,T.apart,T.loose⟩)
  ·rw[←G.inv.len];exact(G.inv.rg.rg x hx).2.1
  ·rw[←G.inv.len];exact(G.inv.rg.rg x hx).2.2.1
  ·rw[←G.inv.len];exact(G.inv.rg.rg x hx).2.2.2
 refine⟨⟨I',by show ∀x∈p'.Gl,_;rw[hm];exact G.mem,fun x hx=> ?_,?_⟩,⟨t,A',by rw[Z49];exact al⟩,hgk⟩
 ·have hx:0≤x∧x<((w.fL.set k.toNat n').length:Int):=hx;rw[Z49]at hx
  show EpP E (gt (w.fL.set k.toNat n') x);rw[hg x hx];split
  ·exact he
  ·exact G.ep x hx
 ·have hs:=A1i (f:=wtN w.fC) (l:=w.fL) (l':=w.fL.set k.toNat n') (by simp) hki fun x hx hne=>by rw[hg x hx,if_neg hne]
  rw[hgk]at hs
  have h3:=G.wt;unfold wt pot at h3 ⊢;simp only at h3 ⊢;omega
theorem E7.live{w:Es}{E:Int}{n:Nat}(G:E7 w E n){k:Int}(hk:AlW w.fL k):(0≤k∧k<(w.fL.length:Int))∧Ava w.fC (gt w.fL k)∧ThP w.fC w.fP.Gl (gt w.fL k)∧EpP E (gt w.fL k):=by
 obtain⟨t,A,F⟩:=G.inv.forest
 have al:=(hk.al A).lv;obtain⟨t1,t2,t3⟩:=G.inv.thing k al.1;exact⟨al.1,G.inv.live A al,⟨t1,t2,t3⟩,G.ep k al.1⟩
theorem A8g{w:Es}(I:Inv w){k:Int}(hk:0≤k∧k<(w.fL.length:Int)){ch:List Int}(h:ch=(gt w.fL k).Af): ∀c,0≤c∧c<w.fC.Af->(gt w.fP.Ja c=2 ↔ gt w.fP.Ja c=2)∧(gt w.fP.Ja c=1∧gt w.fP.Gm c=k ↔ c∈ch)∧ ∀x,x≠k->(gt w.fP.Ja c=1∧gt w.fP.Gm c=x ↔ gt w.fP.Ja c=1∧gt w.fP.Gm c=x):=fun c hc=>⟨Iff.rfl,by rw[h,I.own k hk c];exact⟨fun a=>⟨hc,a⟩,fun a=>a.2⟩,fun _ _=>Iff.rfl⟩
theorem A9q{w:Es}(I:Inv w){p':Eb}{a n k:Int}(hk:0≤k∧k<(w.fL.length:Int))(hf:Azm w.fP a n=true)(T:Biy w.fP p' a n k){ch:List Int}(h: ∀c,c∈ch ↔ c∈(gt w.fL k).Af∨a≤c∧c<a+n):
  A49 w.fC p'∧ ∀c,0≤c∧c<w.fC.Af->(gt p'.Ja c=2 ↔ gt w.fP.Ja c=2)∧(gt p'.Ja c=1∧gt p'.Gm c=k ↔ c∈ch)∧ ∀x,x≠k->(gt p'.Ja c=1∧gt p'.Gm c=x ↔ gt w.fP.Ja c=1∧gt w.fP.Gm c=x):=by
 obtain⟨a1,a2⟩:=A9m I hk hf T;exact⟨a1,fun c hc=>⟨(a2 c hc).1,by rw[h c];exact(a2 c hc).2.1,(a2 c hc).2.2⟩⟩
section
variable {K:Nat} (hK:281474976710656≤K)
include hK
theorem A9r{E:Int}{n:Nat}(hE:0≤E∧E≤900000000)(hn:n≤900000000){w:Es}(G:E7 w E n){k:Int}(hk:AlW w.fL k)(size al:Int)(hs: -1000000≤size∧size≤1000000)(v19:F4)(v20 v21 v22 v23 v24 v25 v26:Int)(v27:List Int)(v28 v29 v30:Int):
  ∃r w',Asg K k size al w.fC.Af w.fC.Ez w.fC.Db w.fC.Fv w.fC.Dc w.fC.E0 w.fP.Gl w.fP.Ja w.fP.Gm w.fL w.fQ w.Rl v19 v20 v21 v22 v23 v24 v25 v26 v27 v28 v29 v30=some (r,w')∧E7 w' E n∧w'.fC=w.fC∧w'.fL.length=w.fL.length:=by
 obtain⟨hki,L,T,e⟩:=G.live hk
 have W:=A4v (Ajx.2 L).1 e (by omega)
 obtain⟨n',b,e1,h⟩:=Bdt hK L W e.cur size al hs;unfold Asg;rw[if_pos hki,show Fa.mk w.fC.Af w.fC.Ez w.fC.Db w.fC.Fv w.fC.Dc w.fC.E0=w.fC from rfl,e1,Z0,if_pos hki]
 have P:=Ai3.1 G.inv.pool;refine⟨_,_,rfl,?_,rfl,by simp⟩
 rcases h with h|⟨off,S,h⟩
 ·rw[h];exact(A1o G hk (n':=gt w.fL k) (m:=0) P (A8g G.inv hki rfl) rfl rfl L T e (by omega)).1
 ·rw[h];obtain⟨L2,T2⟩:=Bn8 L e.cur T S;exact(A1o G hk (n':=A8f w.fC (gt w.fL k) off size) (m:=0) P (A8g G.inv hki rfl) rfl rfl L2 T2 ⟨e.ep,e.ue,e.cur⟩ (Z9 _)).1
theorem Boa{E:Int}{n:Nat}(hE:0≤E∧E≤900000000)(hn:n≤880000000){w:Es}(G:E7 w E n){k:Int}(hk:AlW w.fL k)(size al:Int)(hs: -1000000≤size∧size≤1000000)(a4:F4):
  ∃r w',Avl K w k size al a4=some (r,w')∧E7 w' E (n+16)∧w'.fC=w.fC∧w'.fL.length=w.fL.length:=by
 obtain⟨hki,L,T,e⟩:=G.live hk
 have W:=A4v (Ajx.2 L).1 e (by omega)
 have WW:=G.ww (by omega) (by omega)
 have hlen:=G.inv.len;obtain⟨b1,b2,b3,b4,b5,b6⟩:=Ap G.inv.conf;obtain⟨nb,e1⟩:=Bn9 hK L W e.cur size al hs;unfold Avl;rw[if_pos hki,e1,Z0];cases nb with
 |false=>
  simp only[cond_false];obtain⟨r,w',h1,h2,h3⟩:=A9r hK hE (by omega) G hk size al hs (F4.mk 0 (Ca.mk 0 0) (E2.mk (Ca.mk 0 0) 0 0) [] 0 0 0) a4.Yw a4.fH.As a4.fH.Bz a4.fR.fH.As a4.fR.fH.Bz a4.fR.Js a4.fR.Xh a4.fB a4.Yx a4.Fv a4.Rm
  exact⟨r,w',h1,E7.le h2 (Int.le_refl E) (by omega),h3⟩
 |true=>
  simp only[cond_true];obtain⟨fb,ef⟩:=A1k hK WW (by omega) 1
  rw[ef,Z0];cases fb with
  |false=>exact⟨_,_,rfl,E7.le G (Int.le_refl E) (by omega),rfl,rfl⟩
  |true=>
   simp only[Bool.not_true,cond_false];obtain⟨d,w1,ed,S⟩:=Bfn hK (by omega:0≤E∧E≤1000000000) (by omega) 0 (run:=1) (by omega) G
   have G1:=S.good;obtain⟨hk1,⟨x1,x2,x3,hnode⟩,_⟩:=S.stay.node k hk;obtain⟨hki1,L1,T1,e1⟩:=G1.live hk1
   have W1:=A4v (Ajx.2 L1).1 e1 (by omega)
   have WW1:=G1.ww (by omega) (by omega)
   have P1:=Ai3.1 G1.inv.pool
   have hst:=P1.st
   have how:=P1.own
   have hc1:=S.stay.conf;obtain⟨ch,ec,hch⟩:=A3i hK (p:=w1.fP) (by rw[hc1]at hst;omega)
   rw[ed,Z0];simp only;rw[ec,Z0]
   by_cases q:ch<0
   ·rw[decide_eq_true q];exact⟨_,_,rfl,E7.le G1 (Int.le_refl E) (by omega),hc1,S.stay.len⟩
   ·rw[decide_eq_false q];simp only[cond_false]
    have hf:=hch.resolve_left (by omega)
    obtain⟨f1,f2,f3,f4⟩:=Awa.1 hf;obtain⟨p',ep,T'⟩:=A2m hK WW1.p (by rw[hc1]at hst;omega) (by omega) (k:=k) hf
    have hnew:ch ∉ (gt w1.fL k).Af:=fun h=>by
     have:=((G1.inv.own k hki1 ch).1 h).2.1;rw[f4 ch ⟨by omega,by omega⟩]at this
     cases this
    rw[ep,Z0,if_pos hki1,A9o hK L1 W1 ⟨f1,by omega⟩ hnew,Z0,if_pos hki1]
    simp only;obtain⟨P',hone⟩:=A9q G1.inv hki1 hf T' (ch:=(A2n (gt w1.fL k) ch).Af) fun c=>by
     show c∈(gt w1.fL k).Af++[ch] ↔ _;rw[Ho,Pl];exact or_congr_right (by omega)
    have T2:ThP w1.fC w1.fP.Gl (A2n (gt w1.fL k) ch):=by
     refine⟨?_,T1.apart,?_⟩
     ·rw[Z1];exact fun o ho=>Bg3 (fun x hx=>Ho.2 (.inl hx)) (Z1.1 T1.inch o ho)
     ·refine A5c rfl rfl ((P1.one ch ⟨f1,by omega⟩).2.2.2 (f4 ch ⟨by omega,by omega⟩)) ?_
      rw[Z1];intro o ho;refine Ay4 fun j h1 h2 h3 h4=> ?_
      have h3:(ch+1 - 1)*w1.fC.Ez+0≤j:=h3
      have h4:j<(ch+1 - 1)*w1.fC.Ez+0+(w1.fC.Ez - 0):=h4;rw[Int.add_sub_cancel]at h3 h4
      have:=A4y (a:=ch) (s:=w1.fC.Ez) (j:=j) (by rw[hc1];omega) (by omega) (by omega)
      have h5:=A1n (Z1.1 T1.inch o ho) h1 h2;rw[this]at h5;exact hnew h5
    obtain⟨G2,hk2,hg2⟩:=A1o G1 hk1 (n':=A2n (gt w1.fL k) ch) (m:=16) P' hone T'.mem rfl (A9n L1 ⟨f1,by omega⟩ hnew) T2 ⟨e1.ep,e1.ue,⟨by show 0≤ch+1;omega,by show ch+1≤_;rw[hc1]at hst;omega⟩⟩ (by
     have hz:w1.fC.Ez.toNat≤16:=by rw[hc1];omega
     have hst1:(A2n (gt w1.fL k) ch).Ja=1:=L1.st;unfold wtN;rw[if_pos L1.st,if_pos hst1]
     show 2+(gt w1.fL k).Dt.length+w1.fC.Ez.toNat*((gt w1.fL k).Af++[ch]).length≤_;rw[Kr,List.length_singleton,Nat.mul_succ];omega)
    obtain⟨r,w',h1,h2,h3,h4⟩:=A9r hK hE (n:=n+16) (by omega) G2 hk2 size al hs (F4.mk 0 (Ca.mk 0 0) (E2.mk (Ca.mk 0 0) 0 0) [] 0 0 0) a4.Yw a4.fH.As a4.fH.Bz a4.fR.fH.As a4.fR.fH.Bz a4.fR.Js a4.fR.Xh a4.fB a4.Yx a4.Fv d
    refine⟨r,w',h1,h2,h3.trans hc1,h4.trans ?_⟩
    show(w1.fL.set _ _).length=_;rw[Z49];exact S.stay.len
theorem Bob{E:Int}{n:Nat}(hE:0≤E∧E≤900000000)(hn:n≤900000000){w:Es}(G:E7 w E n){k:Int}(hk:AlW w.fL k)(size:Int)(hs:w.fC.Ez<size∧size≤200)(hcnt:(gt w.fL k).Er.length<12)(a4:F4):
  ∃r w',Avj K w k size a4=some (r,w')∧E7 w' E (n+192)∧w'.fC=w.fC∧w'.fL.length=w.fL.length:=by
 have WW:=G.ww (by omega) (by omega)
 have hlen:=G.inv.len;obtain⟨b1,b2,b3,b4,b5,b6⟩:=Ap G.inv.conf;unfold Avj Anb;rw[A0f,Z0,Z0];obtain⟨fb,ef⟩:=A1k hK WW (by omega) (Aug size w.fC.Ez)
 have hrun:Aug size w.fC.Ez=(size+w.fC.Ez - 1) / w.fC.Ez:=by
  unfold Aug;rw[Abm.2 ⟨by omega,by omega⟩,Abm.2 ⟨by omega,by omega⟩];rfl
 have hr2:Aug size w.fC.Ez≤1000:=by
  have:(size+w.fC.Ez - 1) / w.fC.Ez≤size+w.fC.Ez - 1:=Int.ediv_le_self _ (by omega)
  omega
 have hr1:1≤Aug size w.fC.Ez:=by
  rw[hrun];exact(Int.le_ediv_iff_mul_le (by omega)).2 (by omega)
 rw[ef,Z0];cases fb with
 |false=>exact⟨_,_,rfl,E7.le G (Int.le_refl E) (by omega),rfl,rfl⟩
 |true=>
  simp only[Bool.not_true,cond_false];obtain⟨d,w1,ed,S⟩:=Bfn hK (by omega:0≤E∧E≤1000000000) (by omega) 0 (run:=Aug size w.fC.Ez) (by omega) G
  have G1:=S.good;obtain⟨hk1,⟨x1,x2,x3,hnode⟩,_⟩:=S.stay.node k hk;obtain⟨hki1,L1,T1,e1⟩:=G1.live hk1
  have W1:=A4v (Ajx.2 L1).1 e1 (by omega)
  have WW1:=G1.ww (by omega) (by omega)
  have P1:=Ai3.1 G1.inv.pool
  have hst:=P1.st
  have how:=P1.own
  have hc1:=S.stay.conf;rw[hc1]at hst how;obtain⟨at_,ec,hat⟩:=A5b hK (p:=w1.fP) (n:=Aug size w.fC.Ez) (by omega) (by omega)
  rw[ed,Z0];simp only;rw[ec,Z0]
  by_cases q:at_<0
  ·rw[decide_eq_true q];exact⟨_,_,rfl,E7.le G1 (Int.le_refl E) (by omega),hc1,S.stay.len⟩
  ·rw[decide_eq_false q];simp only[cond_false]
   have hf:=hat.resolve_left (by omega)
   obtain⟨f1,f2,f3,f4⟩:=Awa.1 hf;obtain⟨p',ep,T'⟩:=A2m hK WW1.p (by omega) (by omega) (k:=k) hf
   have SP:Bfq w1.fC (gt w1.fL k) at_ (Aug size w.fC.Ez) size:=by
    refine⟨by rw[hc1];exact hs,by rw[hc1],by rw[hc1];omega,fun x hx h=> ?_,by rw[hnode];exact hcnt⟩
    have:=((G1.inv.own k hki1 x).1 hx).2.1;rw[f4 x h]at this;cases this
   obtain⟨L2,T2⟩:=Bdr L1 e1.cur T1 SP;rw[ep,Z0,if_pos hki1,Bdu hK L1 W1 e1.cur T1 SP,Z0,if_pos hki1];obtain⟨P',hone⟩:=A9q G1.inv hki1 hf T' (ch:=(Azu w1.fC (gt w1.fL k) at_ (Aug size w.fC.Ez) size).Af) fun c=>by
    show c∈(gt w1.fL k).Af++A3m at_ (Aug size w.fC.Ez) ↔ _;rw[Ho,A3n]
   obtain⟨G2,hk2,hg2⟩:=A1o G1 hk1 (n':=Azu w1.fC (gt w1.fL k) at_ (Aug size w.fC.Ez) size) (m:=192) P' hone T'.mem rfl L2 T2 ⟨e1.ep,e1.ue,e1.cur⟩ (by
    have hst1:(Azu w1.fC (gt w1.fL k) at_ (Aug size w.fC.Ez) size).Ja=1:=L1.st;unfold wtN;rw[if_pos L1.st,if_pos hst1]
    show 2+(gt w1.fL k).Dt.length+w1.fC.Ez.toNat*((gt w1.fL k).Af++A3m at_ (Aug size w.fC.Ez)).length≤_
    have hrl:(A3m at_ (Aug size w.fC.Ez)).length≤12:=by unfold A3m;simp;omega
    have:=Nat.mul_le_mul (show w1.fC.Ez.toNat≤16 by rw[hc1];omega) hrl
    rw[Kr,Nat.mul_add];omega)
   refine⟨_,_,rfl,G2,hc1,?_⟩
   show(w1.fL.set _ _).length=_;rw[Z49];exact S.stay.len
theorem A9s{E:Int}{n:Nat}(hE:0≤E∧E≤900000000)(hn:n≤900000000){w:Es}(G:E7 w E n){k:Int}(hk:0≤k∧k<(w.fL.length:Int))(h:Ca)(c a b d e f g:Int)(l:List Int)(x y z:Int):
  ∃r w',Ash K h k w.fC.Af w.fC.Ez w.fC.Db w.fC.Fv w.fC.Dc w.fC.E0 w.fP.Gl w.fP.Ja w.fP.Gm w.fL w.fQ w.Rl c a b d e f g l x y z=some (r,w')∧E7 w' E n∧w'.fC=w.fC:=by
 unfold Ash;rw[show Es.mk (Fa.mk w.fC.Af w.fC.Ez w.fC.Db w.fC.Fv w.fC.Dc w.fC.E0) (Eb.mk w.fP.Gl w.fP.Ja w.fP.Gm) w.fL w.fQ w.Rl=w from rfl]
 cases c != 0 with
 |true=>exact⟨_,_,rfl,G,rfl⟩
 |false=>
  simp only[cond_false];obtain⟨t,w2,es,S2⟩:=A5w hK (E:=E) (n:=n) (by omega) (by omega) w.fC.Fv G
  rw[if_pos hk,if_pos hk,es];exact⟨_,_,rfl,S2.good,S2.stay.conf⟩
theorem A4z{E:Int}{n:Nat}(hE:0≤E∧E≤900000000)(hn:n≤800000000){w:Es}(G:E7 w E n)(h:Ca){size al:Int}(hs:1≤size∧size≤200){k:Int}(a b:F4)(hk:a.Yw=0->AlW w.fL k∧(gt w.fL k).Er.length<12):
  ∃r w',Ap8 K h size al k w.fC.Af w.fC.Ez w.fC.Db w.fC.Fv w.fC.Dc w.fC.E0 w.fP.Gl w.fP.Ja w.fP.Gm w.fL w.fQ w.Rl a b=some (r,w')∧E7 w' E (n+192)∧w'.fC=w.fC:=by
 unfold Ap8 Ap1;rw[show Es.mk (Fa.mk w.fC.Af w.fC.Ez w.fC.Db w.fC.Fv w.fC.Dc w.fC.E0) (Eb.mk w.fP.Gl w.fP.Ja w.fP.Gm) w.fL w.fQ w.Rl=w from rfl,show Fa.mk w.fC.Af w.fC.Ez w.fC.Db w.fC.Fv w.fC.Dc w.fC.E0=w.fC from rfl]
 by_cases h0:a.Yw=0
 ·obtain⟨hk,hcnt⟩:=hk h0
  have hki:=(G.live hk).1;rw[h0];simp only[bne_self_eq_false,cond_false,Z0]
  by_cases q:size>w.fC.Ez
  ·rw[decide_eq_true q];simp only[cond_true];obtain⟨r,w',h1,h2,h3,h4⟩:=Bob hK hE (by omega) G hk size ⟨q,hs.2⟩ hcnt a
   rw[h1,Z0];obtain⟨r2,w2,k1,k2,k3⟩:=A9s hK hE (n:=n+192) (by omega) h2 (k:=k) (by rw[h4];exact hki) h r.Yw r.fH.As r.fH.Bz r.fR.fH.As r.fR.fH.Bz r.fR.Js r.fR.Xh r.fB r.Yx r.Fv r.Rm
   exact⟨r2,w2,k1,k2,k3.trans h3⟩
  ·rw[decide_eq_false q];simp only[cond_false];obtain⟨r,w',h1,h2,h3,h4⟩:=Boa hK hE (by omega) G hk size al (by omega) a
   rw[h1,Z0];obtain⟨r2,w2,k1,k2,k3⟩:=A9s hK hE (n:=n+16) (by omega) h2 (k:=k) (by rw[h4];exact hki) h r.Yw r.fH.As r.fH.Bz r.fR.fH.As r.fR.fH.Bz r.fR.Js r.fR.Xh r.fB r.Yx r.Fv r.Rm
   exact⟨r2,w2,k1,E7.le k2 (Int.le_refl E) (by omega),k3.trans h3⟩
 ·rw[Aue h0];exact⟨_,_,rfl,E7.le G (Int.le_refl E) (by omega),rfl⟩
theorem Bdv{E:Int}{n:Nat}(hE:0≤E∧E≤900000000)(hn:n≤800000000){w:Es}(G:E7 w E n)(h:Ca)(size al:Int): ∃r w',Avm K w h size al=some (r,w')∧E7 w' E (n+192)∧w'.fC=w.fC:=by
 have W:=G.ww (by omega) (by omega)
 have G0:=E7.le G (Int.le_refl E) (by omega:n≤n+192)
 unfold Avm;rw[Api,Z0]
 by_cases q:1≤size∧size≤200
 ·rw[Abm.2 q,A0o];simp only[cond_true,Z0];cases A2o al with
  |false=>exact⟨_,_,rfl,G0,rfl⟩
  |true=>
   simp only[Bool.not_true,cond_false];rw[Atr hK W.l,Z0,Axa hK w W.l,Z0]
   by_cases h0:(Atp w.fL h).2=0
   ·have hal:=A1v G.inv h0
    have hki:=(G.live hal).1;rw[h0];simp only[beq_self_eq_true,cond_true];rw[if_pos hki]
    by_cases q2:((gt w.fL (Atp w.fL h).1).Er.length:Int)≥12
    ·rw[decide_eq_true q2];exact A4z hK hE hn G h q (al:=al) (k:=(Atp w.fL h).1) (F4.mk 8 (Ca.mk 0 0) (E2.mk (Ca.mk 0 0) 0 0) [] (Bdc w h) 0 0) (F4.mk 0 (Ca.mk 0 0) (E2.mk (Ca.mk 0 0) 0 0) [] 0 0 0) (fun f=>absurd (show(8:Int)=0 from f) (by decide))
    ·rw[decide_eq_false q2];exact A4z hK hE hn G h q (al:=al) (k:=(Atp w.fL h).1) (F4.mk 0 (Ca.mk 0 0) (E2.mk (Ca.mk 0 0) 0 0) [] (Bdc w h) 0 0) (F4.mk 0 (Ca.mk 0 0) (E2.mk (Ca.mk 0 0) 0 0) [] 0 0 0) (fun f=>⟨hal,by omega⟩)
   ·rw[Aky h0];exact A4z hK hE hn G h q (al:=al) (k:=(Atp w.fL h).1) (F4.mk (Atp w.fL h).2 (Ca.mk 0 0) (E2.mk (Ca.mk 0 0) 0 0) [] (Bdc w h) 0 0) (F4.mk 0 (Ca.mk 0 0) (E2.mk (Ca.mk 0 0) 0 0) [] 0 0 0) (fun f=>absurd f h0)
 ·rw[Bbi.2 q];exact⟨_,_,rfl,G0,rfl⟩
end
def Fy (mem:List Int)(p:Int)(s:List Int):List Int:=mem.take p.toNat++s++mem.drop (p.toNat+s.length)
def A5x (mem:List Int)(t:Bf)(off:Int)(s:List Int):Bool:=decide ((0≤off∧(0:Int)≤(s.length:Int)∧off+(s.length:Int)≤t.Xf)∧0≤Aqc .i64 t.fAt off∧Aqc .i64 t.fAt off+(s.length:Int)≤(mem.length:Int))
def Bfs (mem:List Int)(t:Bf)(off:Int)(s:List Int):List Int×Bool:=bif A5x mem t off s then(Fy mem (Aqc .i64 t.fAt off) s,true)else(mem,false)
theorem Gf{mem:List Int}{p:Int}{s:List Int}(h0:0≤p)(h1:p+(s.length:Int)≤(mem.length:Int)):(Fy mem p s).length=mem.length:=by
 unfold Fy;simp;omega
theorem Boc{mem s:List Int}{p j:Nat}(hj:j<s.length)(hp:p+s.length≤mem.length):(mem.take p++s.take j++mem.drop (p+j)).set (p+j) s[j]=mem.take p++s.take (j+1)++mem.drop (p+(j+1)):=by
 have hl:(mem.take p++s.take j).length=p+j:=by simp;omega
 rw[List.set_append_right _ _ (by omega),hl,Nat.sub_self,Z47 (by omega:p+j<mem.length),List.set_cons_zero,←List.take_append_getElem hj]
 simp only[Z53,My,Sk,Z38]
section
variable {K:Nat} (hK:281474976710656≤K)
include hK
theorem Bft{mem s:List Int}(hm:mem.length≤140737488355327)(p:Int)(hs:s.length≤140737488355327):Ayb K mem p s=some (bif decide (0≤p∧(0:Int)≤(s.length:Int)∧p+(s.length:Int)≤(mem.length:Int))then(Fy mem p s,true)else(mem,false)):=by
 have hx:=Abn;unfold Ayb;simp only[Z38];rw[if_pos ⟨by omega,by omega⟩,Bdb K hm,Z0,Age]
 by_cases h:0≤p∧(0:Int)≤(s.length:Int)∧p+(s.length:Int)≤(mem.length:Int)
 ·rw[decide_eq_true h,cond_true,cond_true];obtain⟨q,rfl⟩: ∃q:Nat,p=q:=⟨p.toNat,by omega⟩
  have:=Bbr hK s (by omega) (fun _=>true) (some (Fy mem (q:Int) s,true)) none (fun n j=>Ap3 K (q:Int) s n (mem.take q++s.take j++mem.drop (q+j)) (j:Int)) (fun n j hj=> ?_) (fun n=> ?_)
  ·rw[Z1.2 (fun _ _=>rfl)]at this;simpa using this
  ·have hl:(mem.take q++s.take j++mem.drop (q+j)).length=mem.length:=by simp;omega
   have e:Aqc .i64 (q:Int) (j:Int)=((q+j:Nat):Int):=by unfold Aqc;rw[Abf (by omega) (by omega)];omega
   show Ap3 K (q:Int) s (n+1) _ _=_;rw[Ap3,Aha hj,cond_true,if_pos (Aph hj),e,hl,if_pos ⟨by omega,by omega⟩,Agw (by omega),Abh hj,Int.toNat_natCast,Boc hj (by omega)]
   rfl
  ·show Ap3 K (q:Int) s (n+1) _ _=_;rw[Ap3,Ai2 (Z9 _),cond_false,List.take_length];simp[Fy]
 ·rw[decide_eq_false h];rfl
theorem A5i{mem s:List Int}(hm:mem.length≤140737488355327)(hs:s.length≤140737488355327){t:Bf}(wt:Bbk t)(off:Int):Atv K mem t off s=some (Bfs mem t off s):=by
 have hx:=Abn;obtain⟨wl1,wl2⟩:=wt.2.1;unfold Atv Aws Bfs A5x;simp only[Z38];rw[if_pos ⟨by omega,by omega⟩,Bft hK hm _ hs]
 simp only[Z0];rw[decide_eq_true (show(s.length:Int)≥0 by omega)]
 by_cases h1:(0:Int)≤off
 ·rw[decide_eq_true (show off≥0 from h1)]
  by_cases h3:off≤t.Xf
  ·rw[decide_eq_true h3]
   have e:Aqd .i64 t.Xf off=t.Xf - off:=by unfold Aqd;rw[Abf (by omega) (by omega)]
   rw[e]
   by_cases h4:(s.length:Int)≤t.Xf - off
   ·rw[decide_eq_true h4];simp only[cond_true]
    by_cases h5:0≤Aqc .i64 t.fAt off∧Aqc .i64 t.fAt off+(s.length:Int)≤(mem.length:Int)
    ·rw[decide_eq_true (show 0≤Aqc .i64 t.fAt off∧(0:Int)≤(s.length:Int)∧Aqc .i64 t.fAt off+(s.length:Int)≤(mem.length:Int) from⟨h5.1,by omega,h5.2⟩),decide_eq_true (show(0≤off∧(0:Int)≤(s.length:Int)∧off+(s.length:Int)≤t.Xf)∧0≤Aqc .i64 t.fAt off∧Aqc .i64 t.fAt off+(s.length:Int)≤(mem.length:Int) from⟨⟨h1,by omega,by omega⟩,h5⟩),decide_eq_true (show Aqc .i64 t.fAt off≥0 from h5.1)]
     cases decide (t.fAt<0)<;>rfl
    ·rw[decide_eq_false (show ¬(0≤Aqc .i64 t.fAt off∧(0:Int)≤(s.length:Int)∧Aqc .i64 t.fAt off+(s.length:Int)≤(mem.length:Int))by omega),decide_eq_false (show ¬((0≤off∧(0:Int)≤(s.length:Int)∧off+(s.length:Int)≤t.Xf)∧0≤Aqc .i64 t.fAt off∧Aqc .i64 t.fAt off+(s.length:Int)≤(mem.length:Int))by omega)]
     cases decide (t.fAt<0)<;>cases decide (Aqc .i64 t.fAt off≥0)<;>rfl
   ·rw[decide_eq_false h4,decide_eq_false (show ¬((0≤off∧(0:Int)≤(s.length:Int)∧off+(s.length:Int)≤t.Xf)∧0≤Aqc .i64 t.fAt off∧Aqc .i64 t.fAt off+(s.length:Int)≤(mem.length:Int))by omega)];rfl
  ·rw[decide_eq_false h3,decide_eq_false (show ¬((0≤off∧(0:Int)≤(s.length:Int)∧off+(s.length:Int)≤t.Xf)∧0≤Aqc .i64 t.fAt off∧Aqc .i64 t.fAt off+(s.length:Int)≤(mem.length:Int))by omega)];rfl
 ·rw[decide_eq_false (show ¬off≥0 from h1),decide_eq_false (show ¬((0≤off∧(0:Int)≤(s.length:Int)∧off+(s.length:Int)≤t.Xf)∧0≤Aqc .i64 t.fAt off∧Aqc .i64 t.fAt off+(s.length:Int)≤(mem.length:Int))by omega)];rfl
end
def B3s (n:Bg)(v:Int):Bg:=Bg.mk n.Ja n.Bz n.Js n.fUp n.Hf n.B5 n.Hg n.Hh n.Af n.Rk n.Hi n.Er (n.Dt++([v]:List Int))
theorem Br4 (K:Nat)(r:E2): ∃b,Ax9 K r=some b:=by
 unfold Ax9;rw[A1z];simp only[Z0];cases Ayw r.fH<;>cases decide (r.Js≥0)<;>exact⟨_,rfl⟩
theorem Bi1 (K:Nat){n:Bg}(hn:Ato n)(r:E2): ∃t b,Awr K n r=some (t,b)∧(b=true->t∈n.Er):=by
 have h2:=hn.things
 have hl:n.Er.length≤140737488355327:=by have:=h2.2;omega
 unfold Awr;rw[A04 K hl];simp only[Z0]
 by_cases hs:0≤r.Xh∧r.Xh<(n.Er.length:Int)
 ·rw[decide_eq_true hs,if_pos hs]
  have hm:gt n.Er r.Xh∈n.Er:=Aqx hs.1 hs.2;cases n.Ja != 1<;>cases n.Js != r.Js<;>first|exact⟨_,_,rfl,fun _=>hm⟩|exact⟨_,_,rfl,fun h=>Bool.noConfusion h⟩
 ·rw[decide_eq_false hs];cases n.Ja != 1<;>cases n.Js != r.Js<;>exact⟨_,_,rfl,fun h=>by cases h⟩
theorem A5d{K:Nat}(hK:281474976710656≤K){w:Es}(I:Inv w)(hw:Ai4 w.fL)(r:E2): ∃k t c,As8 K w r=some (k,t,c)∧(c=0->AlW w.fL k∧t∈(gt w.fL k).Er):=by
 unfold As8;obtain⟨b,h1⟩:=Br4 K r;rw[h1,Atr hK hw];simp only[Z0];cases b with
 |false=>exact⟨_,_,_,rfl,fun h=>by cases h⟩
 |true=>
  simp only[Bool.not_true,cond_false]
  by_cases h0:(Atp w.fL r.fH).2=0
  ·have hi:=Bmx h0
   have hal:=A1v I h0;rw[if_pos hi,h0];obtain⟨q,b,h3,h4⟩:=Bi1 K (hw.1 _ (Aqx hi.1 hi.2)) r;rw[h3];simp only[Z0,bne_self_eq_false,cond_false];cases b with
   |false=>exact⟨_,_,_,rfl,fun h=>by cases h⟩
   |true=>exact⟨_,_,_,rfl,fun _=>⟨hal,h4 rfl⟩⟩
  ·rw[Aue h0];exact⟨_,_,_,rfl,fun h=>absurd h h0⟩
theorem Br5{mem:List Int}{p:Int}{s:List Int}(h0:0≤p)(h1:p+(s.length:Int)≤(mem.length:Int)){j:Nat}(hj:j<mem.length)(h: ¬(p≤(j:Int)∧(j:Int)<p+(s.length:Int))):gt (Fy mem p s) (j:Int)=gt mem (j:Int):=by
 have hl:=Gf h0 h1;rw[Abh (by rw[hl];exact hj),Abh hj]
 unfold Fy
 by_cases q:(j:Int)<p
 ·rw[List.getElem_append_left (by simp;omega),List.getElem_append_left (by simp;omega),List.getElem_take]
 ·rw[List.getElem_append_right (by simp;omega),List.getElem_drop]
  congr 1
  simp;omega
theorem Bod{mem:List Int}{p:Int}{s:List Int}(hm: ∀x∈mem,0≤x∧x≤255)(hs: ∀x∈s,0≤x∧x≤255): ∀x∈Fy mem p s,0≤x∧x≤255:=by
 intro x hx;unfold Fy at hx;rcases Ho.1 hx with h|h
 ·rcases Ho.1 h with h|h
  ·exact hm x (Z42 h)
  ·exact hs x h
 ·exact hm x (List.mem_of_mem_drop h)
theorem Boe{w:Es}{E:Int}{n:Nat}(G:E7 w E n){k:Int}(hk:AlW w.fL k){t:Bf}(ht:t∈(gt w.fL k).Er){mem':List Int}(hl:mem'.length=w.fP.Gl.length)
  (hb: ∀x∈mem',0≤x∧x≤255) (hs: ∀j:Nat,j<w.fP.Gl.length-> ¬(t.fAt≤(j:Int)∧(j:Int)<t.fAt+t.Xf)->gt mem' (j:Int)=gt w.fP.Gl (j:Int)):
  E7 (Es.mk w.fC (Eb.mk mem' w.fP.Ja w.fP.Gm) w.fL w.fQ w.Rl) E n:=by
 have I:=G.inv
 have P:=Ai3.1 I.pool;obtain⟨hki,L,T,e⟩:=G.live hk;obtain⟨b1,b2,b3,b4,b5,b6⟩:=Ap I.conf
 have hin: ∀j,t.fAt≤j->j<t.fAt+t.Xf->j / w.fC.Ez∈(gt w.fL k).Af:=fun j h1 h2=>A1n (Z1.1 T.inch t ht) h1 h2
 have hz: ∀a m:Nat,Ari ((w.fP.Gl.drop a).take m)=true->(∀j:Nat,a≤j->j<a+m-> ¬(t.fAt≤(j:Int)∧(j:Int)<t.fAt+t.Xf))->Ari ((mem'.drop a).take m)=true:=by
  intro a m h hd;rw[A1h]at h ⊢;intro j h1 h2 h3;rw[hl]at h3;rw[hs j h3 (hd j h1 h2)];exact h j h1 h2 h3
 have hch: ∀c,0≤c∧c<w.fC.Af->gt w.fP.Ja c≠1-> ∀j:Nat,(c*w.fC.Ez).toNat≤j->j<(c*w.fC.Ez).toNat+w.fC.Ez.toNat-> ¬(t.fAt≤(j:Int)∧(j:Int)<t.fAt+t.Xf):=by
  intro c hc hst j h1 h2 h3
  have h0:0≤c*w.fC.Ez:=Int.mul_nonneg hc.1 (by omega)
  have h4:=hin j h3.1 h3.2;rw[A4y (a:=c) (by omega) (by omega) (by omega)]at h4
  exact hst ((I.own k hki c).1 h4).2.1
 refine⟨Bcd I (Eb.mk mem' w.fP.Ja w.fP.Gm) w.fQ w.Rl ⟨P.conf,by rw[←P.mem];show(mem'.length:Int)=_;rw[hl],P.st,P.own,fun c hc=> ?_⟩ (fun c hc=>⟨Iff.rfl,rfl⟩) (fun x hx=> ?_) rfl rfl (fun x hx=> ?_) I.chn I.chi I.log,hb,G.ep,G.wt⟩
 ·obtain⟨p1,p2,p3,p4⟩:=P.one c hc;refine⟨p1,p2,p3,fun h=>hz _ _ (p4 h) fun j h1 h2=>hch c hc ?_ j h1 h2⟩
  have h:gt w.fP.Ja c=0:=h;omega
 ·have h3:=(I.thing x hx).2.2
  by_cases hs1:(gt w.fL x).Ja=1
  ·have Lx:=Ajx.1 ⟨I.node x hx,hs1⟩
   have ex:=G.ep x hx
   by_cases hcur:(gt w.fL x).Rk=0
   ·unfold Asm;rw[hcur];rfl
   ·obtain⟨m1,m2,m3⟩:=A3l Lx ex.cur hcur
    have hm:=Awy Lx.dist _ m1
    have h0:0≤((gt w.fL x).Rk - 1)*w.fC.Ez:=Int.mul_nonneg hm.1 (by omega)
    unfold Asm at h3 ⊢;rw[Aky hcur,Z52,Z4]at h3 ⊢;refine⟨hz _ _ h3.1 fun j h1 h2 h4=> ?_,h3.2⟩
    have h1:(((gt w.fL x).Rk - 1)*w.fC.Ez+(gt w.fL x).Hi).toNat≤j:=h1
    have h2:j<(((gt w.fL x).Rk - 1)*w.fC.Ez+(gt w.fL x).Hi).toNat+(w.fC.Ez - (gt w.fL x).Hi).toNat:=h2
    have h5:=hin j h4.1 h4.2;rw[A4y (a:=(gt w.fL x).Rk - 1) (by omega) (by omega) (by omega)]at h5
    have e1:=((I.own k hki _).1 h5).2.2
    have e2:=((I.own x hx _).1 m1).2.2
    have exk:x=k:=by omega
    rw[exk]at h3 h1 h2;refine Bdq (Z1.1 h3.2 t ht) h4.1 h4.2 (b:=Av7 w.fC (gt w.fL k)) ?_ ?_
    ·show((gt w.fL k).Rk - 1)*w.fC.Ez+(gt w.fL k).Hi≤(j:Int);omega
    ·show(j:Int)<((gt w.fL k).Rk - 1)*w.fC.Ez+(gt w.fL k).Hi+(w.fC.Ez - (gt w.fL k).Hi);rw[exk]at m2 m3 h0;omega
  ·rw[Aw4 (I.node x hx) hs1];rfl
 ·obtain⟨a,b⟩:=I.wrec x hx;refine⟨a,?_⟩
  have R:=Axk.1 a
  by_cases hc:0<x.Af.length
  ·have hm:gt x.Af 0∈x.Af:=Arz (i:=0) hc
   have h1:=(I.chi _).1 (Bb8 hx hm);unfold Apk at b ⊢;rw[Bool.or_eq_true]at b ⊢;rcases b with b|b
   ·exact .inl b
   ·refine .inr (hz _ _ b fun j h2 h3=>hch _ h1.1 (by omega) j h2 ?_)
    have hd:=R.done
    have h3:j<(gt x.Af 0*w.fC.Ez).toNat+x.Hj.toNat:=h3;omega
  ·unfold Apk;rw[decide_eq_false (by omega)];rfl
section
variable {K:Nat} (hK:281474976710656≤K)
include hK
theorem Br6{E:Int}{n:Nat}(hE:0≤E∧E≤900000000)(hn:n≤800000000){w:Es}(G:E7 w E n)(r:E2)(off m:Int): ∃a,Azh K w r off m=some (w,a):=by
 have W:=G.ww (by omega) (by omega)
 have P:=A4w (Ai3.1 G.inv.pool);obtain⟨k,t,c,e,h⟩:=A5d hK G.inv W.l r;unfold Azh;rw[Aw1 hK W,Ayj hK w W,G.inv.ok,e,Axa hK w W.l];simp only[Z0,Bool.not_true,cond_false]
 by_cases h0:c=0
 ·obtain⟨hk,ht⟩:=h h0
  have hT:=Bcb (Z1.1 (G.live hk).2.1.things t ht);rw[h0];simp only[bne_self_eq_false,cond_false];rw[A7z K (by omega) hT,Z0]
  cases (Bm2 w.fP.Gl t off m).2<;>exact⟨_,rfl⟩
 ·rw[Aue h0];exact⟨_,rfl⟩
theorem Bof{E:Int}{n:Nat}(hE:0≤E∧E≤900000000)(hn:n≤800000000){w:Es}(G:E7 w E n)(r:E2)(off:Int){s:List Int}(hs: ∀x∈s,0≤x∧x≤255)(hl:s.length≤1000000): ∃a w',Ayc K w r off s=some (w',a)∧E7 w' E n∧w'.fC=w.fC:=by
 have W:=G.ww (by omega) (by omega)
 have P:=A4w (Ai3.1 G.inv.pool);obtain⟨k,t,c,e,h⟩:=A5d hK G.inv W.l r;unfold Ayc;rw[Aw1 hK W,Ayj hK w W,G.inv.ok,e,Axa hK w W.l];simp only[Z0,Bool.not_true,cond_false]
 by_cases h0:c=0
 ·obtain⟨hk,ht⟩:=h h0
  have htb:=Z1.1 (G.live hk).2.1.things t ht
  have hT:=Bcb htb;obtain⟨s1,s2,s3,s4⟩:=(Ayv htb).1;rw[h0];simp only[bne_self_eq_false,cond_false];rw[A5i hK (by omega) (by omega) hT,Z0]
  unfold Bfs;cases ho:A5x w.fP.Gl t off s with
  |false=>exact⟨_,_,rfl,G,rfl⟩
  |true=>
   unfold A5x at ho;rw[decide_eq_true_iff]at ho
   have ea:Aqc .i64 t.fAt off=t.fAt+off:=by unfold Aqc;exact Abf (by omega) (by omega)
   rw[ea]at ho ⊢;refine⟨_,_,rfl,Boe G hk ht (Gf (by omega) (by omega)) (Bod G.mem hs) (fun j hj hne=>Br5 (by omega) (by omega) hj (by omega)),rfl⟩
 ·rw[Aue h0];exact⟨_,_,rfl,G,rfl⟩
theorem Bog{E:Int}{n:Nat}(hE:0≤E∧E≤900000000)(hn:n≤800000000){w:Es}(G:E7 w E n)(h:Ca)(v:Int): ∃a w',A0e K w h v=some (w',a)∧E7 w' E (n+1)∧w'.fC=w.fC:=by
 have hm:=Abn
 have W:=G.ww (by omega) (by omega)
 have G0:=E7.le G (Int.le_refl E) (by omega:n≤n+1)
 unfold A0e Awt Ayd;rw[Aw1 hK W,Ayj hK w W,G.inv.ok,Api,Atr hK W.l,Axa hK w W.l];simp only[Z0,cond_true]
 by_cases hv:0≤v∧v≤255
 ·rw[Abm.2 hv];simp only[Bool.not_true,cond_false]
  by_cases h0:(Atp w.fL h).2=0
  ·have hal:=A1v G.inv h0;obtain⟨hki,L,T,e⟩:=G.live hal;rw[h0];simp only[beq_self_eq_true,cond_true,if_pos hki]
   by_cases q:((gt w.fL (Atp w.fL h).1).Dt.length:Int)≥6
   ·rw[decide_eq_true q];exact⟨_,_,rfl,G0,rfl⟩
   ·rw[decide_eq_false q];simp only[cond_false];rw[if_pos ⟨by simp;omega,by simp;omega⟩]
    refine⟨_,_,rfl,?_,rfl⟩
    have P:=Ai3.1 G.inv.pool;refine(A1o G hal (n':=B3s (gt w.fL (Atp w.fL h).1) v) (m:=1) P (A8g G.inv hki rfl) rfl rfl ⟨L.conf,L.st,L.gen,L.up,L.first,L.next,L.prev,L.ep,L.ue,L.dist,L.cur,L.nth,?_,?_,L.things⟩ ⟨T.inch,T.apart,T.loose⟩ ⟨e.ep,e.ue,e.cur⟩ ?_).1
    ·show(_++[v]).length≤6;simp;omega
    ·show(_++[v]).all _=true;rw[List.all_append,L.tags,Gc,Abm.2 hv];rfl
    ·have hst1:(B3s (gt w.fL (Atp w.fL h).1) v).Ja=1:=L.st;unfold wtN;rw[if_pos L.st,if_pos hst1]
     show 2+(_++[v]).length+w.fC.Ez.toNat*(gt w.fL (Atp w.fL h).1).Af.length≤_;rw[Kr,List.length_singleton];omega
  ·rw[Aky h0];simp only[cond_false];exact⟨_,_,rfl,G0,rfl⟩
 ·rw[Bbi.2 hv];exact⟨_,_,rfl,G0,rfl⟩
theorem Boh{E:Int}{n:Nat}(hE:0≤E∧E≤900000000)(hn:n≤800000000){w:Es}(G:E7 w E n)(h:Ca): ∃a,Aye K w h=some (w,a):=by
 have W:=G.ww (by omega) (by omega)
 unfold Aye Awu;rw[Aw1 hK W,Ayj hK w W,G.inv.ok,Atr hK W.l,Axa hK w W.l];simp only[Z0,Bool.not_true,cond_false]
 by_cases h0:(Atp w.fL h).2=0
 ·have hal:=A1v G.inv h0;obtain⟨hki,L,T,e⟩:=G.live hal
  have hn:=W.l.1 _ (Aqx hki.1 hki.2);rw[h0];simp only[beq_self_eq_true,cond_true,if_pos hki];unfold Ayp;rw[Av6 hK _ _ (A25 hK hn.chunks) (Bmv hK hn.things) (A25 hK hn.tags)];simp only[Z0];cases (gt w.fL (Atp w.fL h).1).Rk==0<;>cases Aso w.fC (gt w.fL (Atp w.fL h).1)<;>exact⟨_,rfl⟩
 ·rw[Aky h0];exact⟨_,rfl⟩
end
def Axy (a:List Int):Prop:= ∀x∈a,0≤x∧x≤255
theorem Bfu{a b:List Int}(h:Axy a)(g:Axy b):Axy (a++b):=by
 intro x hx;rcases Ho.1 hx with h1|h1
 ·exact h x h1
 ·exact g x h1
def Am6 (c:Eu):Prop:=Axy c.fb∧c.fb.length≤1048576∧0≤c.fi∧c.fi≤(c.fb.length:Int)
theorem Bg4 (x:Int):0≤Aqf .i64 x 255∧Aqf .i64 x 255≤255:=by
 unfold Aqf
 have e:(BitVec.ofInt IntKind.i64.bits x &&& BitVec.ofInt IntKind.i64.bits 255).toNat≤255:=by
  rw[BitVec.toNat_and];exact U7 Nat.and_le_right (by decide)
 rw[Abf (by omega) (by omega)]
 omega
theorem Bfv (K:Nat){a:List Int}(hb:Axy a)(ha:a.length≤1048576): ∀(n i:Nat) (v:Int),i≤a.length->a.length - i<n-> ∃c,Atz K a n v (i:Int)=some c∧Am6 c:=by
 intro n
 induction n with
 |zero=>intro i _ _ h;omega
 |succ n ih=>
  intro i v hi hn;rw[Atz]
  have done: ∀v,Am6 (Eu.mk a 0 v):=fun v=>⟨hb,ha,by show(0:Int)≤0;omega,by show(0:Int)≤_;omega⟩
  rcases Ge i a.length with h|h
  ·rw[Aha h];simp only[cond_true];cases decide ((i:Int)<4000)with
   |false=>exact⟨_,rfl,done _⟩
   |true=>
    simp only[cond_true];rw[if_pos ⟨by omega,by omega⟩,Agw (i:=i) (by omega)]
    exact ih (i+1) _ h (by omega)
  ·rw[Ai2 h];exact⟨_,rfl,done _⟩
theorem Boi{K:Nat}(hK:281474976710656≤K){a:List Int}(hb:Axy a)(ha:a.length≤1048576): ∃c,Ax2 K a=some c∧Am6 c:=by
 unfold Ax2;exact Bfv K hb ha K 0 _ (Z21 _) (by omega)
theorem A1w (K:Nat){c:Eu}(hc:Am6 c): ∃r,Are K c=some r∧(0≤r.1∧r.1≤255)∧Am6 r.2:=by
 obtain⟨h1,h2,h3,h4⟩:=hc;unfold Are Avb;rw[if_pos (by decide),if_pos (by decide)]
 by_cases h:c.fi<(c.fb.length:Int)
 ·rw[decide_eq_true h];simp only[cond_true];rw[if_pos ⟨h3,h⟩]
  have e:Aqc .i64 c.fi 1=c.fi+1:=by unfold Aqc;rw[Abf (by omega) (by omega)]
  exact⟨_,rfl,Bg4 _,h1,h2,by show(0:Int)≤Aqc .i64 c.fi 1;omega,by show Aqc .i64 c.fi 1≤(c.fb.length:Int);omega⟩
 ·rw[decide_eq_false h];exact⟨_,rfl,Bg4 _,h1,h2,h3,h4⟩
theorem Aex (K:Nat){c:Eu}(hc:Am6 c){n:Int}(hn:0<n): ∃r,Abe K c n=some r∧(0≤r.1∧r.1<n)∧Am6 r.2:=by
 unfold Abe;rw[decide_eq_false (show ¬n≤0 by omega)]
 simp only[cond_false];obtain⟨r1,e1,b1,w1⟩:=A1w K hc
 by_cases h:n≤256
 ·rw[decide_eq_true h,e1];simp only[cond_true,Z0];rw[if_pos (by omega)]
  exact⟨_,rfl,⟨Int.tmod_nonneg _ b1.1,Int.tmod_lt_of_pos _ hn⟩,w1⟩
 ·rw[decide_eq_false h,e1];simp only[cond_false,Z0];obtain⟨r2,e2,b2,w2⟩:=A1w K w1;rw[e2];simp only[Z0];obtain⟨r3,e3,b3,w3⟩:=A1w K w2;rw[e3];simp only[Z0];rw[if_pos (by omega)]
  refine⟨_,rfl,⟨Int.tmod_nonneg _ ?_,Int.tmod_lt_of_pos _ hn⟩,w3⟩;unfold Aqc Aqe;rw[Abf (n:=r1.1*65536) (by omega) (by omega),Abf (n:=r2.1*256) (by omega) (by omega),Abf (n:=r1.1*65536+r2.1*256) (by omega) (by omega),Abf (by omega) (by omega)]
  omega
theorem Az8 (K:Nat){c:Eu}(hc:Am6 c){n:Int}(hn:0<n): ∃r,Arf K c n=some r∧Am6 r.2:=by
 obtain⟨r,e,_,w⟩:=Aex K hc hn;unfold Arf;rw[e];exact⟨_,rfl,w⟩
theorem Ay5 (K:Nat){c:Eu}(hc:Am6 c){l:List Int}(hl:0<l.length): ∃x c',Apt K c l=some (x,c',l)∧x∈l∧Am6 c':=by
 obtain⟨r,e,b,w⟩:=Aex K hc (n:=(l.length:Int)) (by omega)
 unfold Apt;rw[e];simp only[Z0];rw[if_pos b];exact⟨_,_,rfl,Aqx b.1 b.2,w⟩
theorem A5e (K:Nat){c:Eu}(hc:Am6 c)(n:Int): ∃r,Abe K c n=some r∧Am6 r.2:=by
 by_cases h:0<n
 ·obtain⟨r,e,_,w⟩:=Aex K hc h;exact⟨r,e,w⟩
 ·unfold Abe;rw[decide_eq_true (show n≤0 by omega)]
  exact⟨_,rfl,hc⟩
theorem B3t (x:Int):0≤IntKind.u8.wrap x∧IntKind.u8.wrap x≤255:=by rw[IntKind.wrap_u8];omega
theorem A8h{K:Nat}(hK:281474976710656≤K){c:Eu}(hc:Am6 c){n:Int}(h1:n≤1000): ∃b c',Awg K c n=some (b,c')∧Axy b∧b.length≤1000∧Am6 c':=by
 have hm:=Abn
 have key: ∀(f i:Nat) (l:List Int) (c:Eu),Am6 c->Axy l->l.length=i->(i:Int)≤1000->(1000 - i)<f-> ∃b c',Asu K n f l (i:Int) c.fb c.fi c.fh=some (b,c')∧Axy b∧b.length≤1000∧Am6 c':=by
  intro f
  induction f with
  |zero=>intro i _ _ _ _ _ _ h;omega
  |succ f ih=>
   intro i l c hc hl hi h2 hf;rw[Asu]
   by_cases q:(i:Int)<n
   ·obtain⟨r,e,_,w⟩:=A1w K hc;rw[decide_eq_true q,cond_true,show Eu.mk c.fb c.fi c.fh=c from rfl,e,Z0,if_pos ⟨by simp;omega,by simp;omega⟩,Agw (by omega)]
    exact ih (i+1) _ r.2 w (Bfu hl fun x hx=>by rw[Pl.1 hx];exact B3t _) (by simp[hi]) (by omega) (by omega)
   ·rw[decide_eq_false q];exact⟨_,_,rfl,hl,by omega,hc⟩
 exact key K 0 [] c hc (fun x hx=>by cases hx) rfl (by omega) (by omega)
def Akt (o:Dg):Prop:=Axy o.fB∧o.fB.length≤1000
theorem Ap4 (k:Int)(h:Ca)(r:E2)(n m:Int):Akt (Dg.mk k h r n m []):=⟨(fun x hx=>by cases hx),Z21 _⟩
theorem Bdw (K:Nat){c:Eu}(hc:Am6 c): ∃h c',Avd K c=some (h,c')∧Am6 c':=by
 unfold Avd;obtain⟨r,e,_,w⟩:=Aex K hc (n:=5) (by omega)
 obtain⟨q,e2,_,w2⟩:=Aex K w (n:=3) (by omega)
 rw[e,Z0,e2];exact⟨_,_,rfl,w2⟩
theorem A8i{K:Nat}(hK:281474976710656≤K){c:Eu}(hc:Am6 c)(k:Int)(b:Bool)(r:E2)(h:Ca){o:Dg}(ho:Akt o)(p:Dg): ∃o' c',Ark K k b c.fb c.fi c.fh r h o p=some (o',c')∧Akt o'∧Am6 c':=by
 unfold Ark
 have e0:Eu.mk c.fb c.fi c.fh=c:=rfl;rw[e0];cases b with
 |true=>exact⟨_,_,rfl,⟨ho.1,ho.2⟩,hc⟩
 |false=>
  simp only[cond_false];cases k==2 with
  |true=>
   simp only[cond_true];obtain⟨x,c1,e1,_,w1⟩:=Ay5 K hc (l:=[1,2,3,5,8,9,17,20,0,201]) (by simp)
   obtain⟨y,c2,e2,_,w2⟩:=Ay5 K w1 (l:=[1,1,2,4,3]) (by simp)
   rw[e1,Z0,if_pos rfl,e2,Z0,if_pos rfl];exact⟨_,_,rfl,⟨ho.1,ho.2⟩,w2⟩
  |false=>
   simp only[cond_false];cases k==3 with
   |true=>
    simp only[cond_true];obtain⟨x,e1,_,w1⟩:=Aex K hc (n:=4) (by omega)
    obtain⟨y,e2,_,w2⟩:=Aex K w1 (n:=5) (by omega)
    rw[e1,Z0,e2,Z0];exact⟨_,_,rfl,⟨ho.1,ho.2⟩,w2⟩
   |false=>
    simp only[cond_false];cases k==4 with
    |true=>
     simp only[cond_true];obtain⟨x,e1,_,w1⟩:=Aex K hc (n:=4) (by omega)
     obtain⟨y,e2,b2,w2⟩:=Aex K w1 (n:=4) (by omega)
     obtain⟨z,c3,e3,b3,l3,w3⟩:=A8h hK w2 (n:=y.1) (by omega)
     rw[e1,Z0,e2,Z0,e3,Z0];exact⟨_,_,rfl,⟨b3,l3⟩,w3⟩
    |false=>
     simp only[cond_false];cases k==5 with
     |true=>
      simp only[cond_true];obtain⟨x,c1,e1,_,w1⟩:=Ay5 K hc (l:=[1,7,255,256]) (by simp)
      rw[e1,Z0,if_pos rfl];exact⟨_,_,rfl,⟨ho.1,ho.2⟩,w1⟩
     |false=>exact⟨_,_,rfl,ho,hc⟩
theorem A8j{K:Nat}(hK:281474976710656≤K){c:Eu}(hc:Am6 c): ∃o c',At0 K c=some (o,c')∧Akt o∧Am6 c':=by
 unfold At0;obtain⟨r1,e1,_,w1⟩:=Aex K hc (n:=9) (by omega)
 obtain⟨h2,c2,e2,w2⟩:=Bdw K w1;obtain⟨r3,e3,_,w3⟩:=Aex K w2 (n:=2) (by omega)
 obtain⟨r4,e4,_,w4⟩:=Aex K w3 (n:=3) (by omega)
 rw[e1,Z0,e2,Z0,e3,Z0,e4,Z0];cases Aqc .i64 1 r1.1==1 with
 |true=>
  simp only[cond_true];obtain⟨r5,e5,w5⟩:=Az8 K w4 (n:=2) (by omega)
  rw[e5,Z0];cases r5.1 with
  |true=>exact⟨_,_,rfl,Ap4 _ _ _ _ _,w5⟩
  |false=>exact⟨_,_,rfl,Ap4 _ _ _ _ _,w5⟩
 |false=>
  simp only[cond_false];cases Aqc .i64 1 r1.1==6 with
  |true=>simp only[cond_true];exact A8i hK w4 _ _ _ _ (Ap4 _ _ _ _ _) _
  |false=>
   simp only[cond_false];cases Aqc .i64 1 r1.1==7 with
   |true=>simp only[cond_true];exact A8i hK w4 _ _ _ _ (Ap4 _ _ _ _ _) _
   |false=>simp only[cond_false];exact A8i hK w4 _ _ _ _ (Ap4 _ _ _ _ _) _
theorem Bi2 (K:Nat){c:Eu}(hc:Am6 c): ∃x c',Axd K c=some (x,c')∧Alm x=true∧Am6 c':=by
 unfold Axd;obtain⟨r1,e1,b1,w1⟩:=Aex K hc (n:=11) (by omega)
 obtain⟨x2,c2,e2,m2,w2⟩:=Ay5 K w1 (l:=[8,8,9,12,16]) (by simp)
 obtain⟨r3,e3,b3,w3⟩:=Aex K w2 (n:=7) (by omega)
 obtain⟨r4,e4,b4,w4⟩:=Aex K w3 (n:=6) (by omega)
 obtain⟨x5,c5,e5,m5,w5⟩:=Ay5 K w4 (l:=[1,3,4,8,16]) (by simp)
 obtain⟨r6,e6,b6,w6⟩:=Aex K w5 (n:=4) (by omega)
 rw[e1,Z0,e2,Z0,if_pos rfl,e3,Z0,e4,Z0,e5,Z0,if_pos rfl,e6];refine⟨_,_,rfl,?_,w6⟩
 have a1:Aqc .i64 2 r1.1=2+r1.1:=by unfold Aqc;exact Abf (by omega) (by omega)
 have a3:Aqc .i64 2 r3.1=2+r3.1:=by unfold Aqc;exact Abf (by omega) (by omega)
 have a4:Aqc .i64 1 r4.1=1+r4.1:=by unfold Aqc;exact Abf (by omega) (by omega)
 have a6:Aqc .i64 1 r6.1=1+r6.1:=by unfold Aqc;exact Abf (by omega) (by omega)
 rw[a1,a3,a4,a6]
 have m2:x2=8∨x2=8∨x2=9∨x2=12∨x2=16:=by simpa using m2
 have m5:x5=1∨x5=3∨x5=4∨x5=8∨x5=16:=by simpa using m5
 unfold Alm;simp only[Z4,Abm];omega
theorem Bfw{w:Es}{E:Int}{n:Nat}(G:E7 w E n)(hE:0≤E){k:Int}(hk:AlW w.fL k):E7 (Axb w k) E n:=by
 obtain⟨t,A,F⟩:=G.inv.forest
 have al:=hk.al A
 have I':=Bio G.inv A F al;obtain⟨hki,L,T,e⟩:=G.live hk
 have R:=G.inv.rg
 have hN:(Axb w k).fL.length=w.fL.length:=by unfold Axb;simp only;rw[Z49,Aym]
 have hg: ∀x,0≤x∧x<(w.fL.length:Int)->gt (Axb w k).fL x=if x=k then Ar2 2 (gt (Aqy w.fL k) k).Bz else gt (Aqy w.fL k) x:=fun x hx=>by
  unfold Axb;simp only;rw[Apo (by rw[Aym];exact hki) (by rw[Aym];exact hx)];rfl
 refine⟨I',?_,fun x hx=> ?_,?_⟩
 ·show ∀x∈(Ahf w.fP _).Gl,_;rw[(Ayn G.inv hki).2.1];exact G.mem
 ·rw[hN]at hx;rw[hg x hx]
  by_cases q:x=k
  ·rw[if_pos q];exact⟨hE,hE,⟨Int.le_refl 0,by show(0:Int)≤1000;omega⟩⟩
  ·rw[if_neg q,A1e R hki hx q]
   have:=G.ep x hx;exact⟨this.ep,this.ue,this.cur⟩
 ·have hs:=A1i (f:=wtN w.fC) hN hki fun x hx hne=>by rw[hg x hx,if_neg hne,A1e R hki hx hne];rfl
  rw[hg k hki,if_pos rfl,A1j _ (by decide)]at hs
  have e1:wtN w.fC (gt w.fL k)=2+(gt w.fL k).Dt.length+w.fC.Ez.toNat*(gt w.fL k).Af.length:=by unfold wtN;rw[if_pos L.st]
  have h3:=G.wt;unfold wt pot at h3 ⊢
  show((Axb w k).fL.map (wtN w.fC)).sum+((w.fQ++[Aje (gt w.fL k) (Aqc .i64 k 1)]).map (wtQ w.fC)).sum+w.Rl.length≤_
  have e2:wtQ w.fC (Aje (gt w.fL k) (Aqc .i64 k 1))=1+(gt w.fL k).Dt.length+w.fC.Ez.toNat*(gt w.fL k).Af.length:=rfl;rw[G3,List.sum_append,Z8,Hr,List.sum_cons,List.sum_nil,e2];omega
theorem Bfx{w:Es}{E:Int}{n:Nat}(G:E7 w E n)(hE:0≤E∧E≤900000000){k:Int}(hk:AlW w.fL k):E7 (Ayz w k) (E+1) (n+1):=by
 obtain⟨t,A,F⟩:=G.inv.forest
 have al:=hk.al A;obtain⟨hki,L,T,e⟩:=G.live hk
 have h0:=L.ep
 have h1:=e.ep
 have I':=Bip G.inv A F al (by omega)
 have hN:(Ayz w k).fL.length=w.fL.length:=by unfold Ayz;simp only;rw[Z49]
 have hg: ∀x,0≤x∧x<(w.fL.length:Int)->gt (Ayz w k).fL x=if x=k then Aw2 (gt w.fL k)else gt w.fL x:=fun x hx=>Apo hki hx _
 refine⟨I',?_,fun x hx=> ?_,?_⟩
 ·show ∀x∈(Ahf w.fP _).Gl,_;rw[(Ayn G.inv hki).2.1];exact G.mem
 ·rw[hN]at hx;rw[hg x hx]
  have hx':=G.ep x hx
  by_cases q:x=k
  ·rw[if_pos q];refine⟨?_,?_,⟨Int.le_refl 0,by show(0:Int)≤1000;omega⟩⟩
   ·show Aqc .i64 (gt w.fL k).Js 1≤_;rw[ad1 (by omega) (by omega)];omega
   ·have:=e.ue
    show(gt w.fL k).Hf≤_;omega
  ·rw[if_neg q]
   have h2:=hx'.ep;have h3:=hx'.ue;exact⟨by omega,by omega,hx'.cur⟩
 ·have hs:=A1i (f:=wtN w.fC) hN hki fun x hx hne=>by rw[hg x hx,if_neg hne]
  rw[hg k hki,if_pos rfl]at hs
  have e1:wtN w.fC (gt w.fL k)=2+(gt w.fL k).Dt.length+w.fC.Ez.toNat*(gt w.fL k).Af.length:=by unfold wtN;rw[if_pos L.st]
  have e0:wtN w.fC (Aw2 (gt w.fL k))=2:=by
   have hst1:(Aw2 (gt w.fL k)).Ja=1:=L.st;unfold wtN;rw[if_pos hst1];rfl
  have h3:=G.wt;unfold wt pot at h3 ⊢
  show((Ayz w k).fL.map (wtN w.fC)).sum+((w.fQ++[Aje (gt w.fL k) 0]).map (wtQ w.fC)).sum+w.Rl.length≤_
  have e2:wtQ w.fC (Aje (gt w.fL k) 0)=1+(gt w.fL k).Dt.length+w.fC.Ez.toNat*(gt w.fL k).Af.length:=rfl;rw[G3,List.sum_append,Z8,Hr,List.sum_cons,List.sum_nil,e2];omega
section
variable {K:Nat} (hK:281474976710656≤K)
include hK
theorem Byy{E:Int}{n:Nat}(hE:0≤E∧E≤900000000)(hn:n≤800000000){w:Es}(G:E7 w E n){o:Dg}(ho:Akt o): ∃w' a,Axi K w o=some (w',a)∧E7 w' E (n+1)∧w'.fC=w.fC:=by
 have W:=G.ww (by omega) (by omega)
 have G0:=E7.le G (Int.le_refl E) (by omega:n≤n+1)
 unfold Axi;cases o.Yv==3 with
 |true=>
  simp only[cond_true];obtain⟨a,e⟩:=Br6 hK hE hn G o.fR o.fN o.fM;rw[e];exact⟨_,_,rfl,G0,rfl⟩
 |false=>
  simp only[cond_false];cases o.Yv==4 with
  |true=>
   simp only[cond_true];obtain⟨a,w',e,g,c⟩:=Bof hK hE hn G o.fR o.fN (s:=o.fB) ho.1 (by have:=ho.2;omega)
   rw[e];exact⟨_,_,rfl,E7.le g (Int.le_refl E) (by omega),c⟩
  |false=>
   simp only[cond_false];cases o.Yv==5 with
   |true=>
    simp only[cond_true];obtain⟨a,w',e,g,c⟩:=Bog hK hE hn G o.fH o.fN;rw[e];exact⟨_,_,rfl,g,c⟩
   |false=>
    simp only[cond_false];cases o.Yv==8 with
    |true=>
     simp only[cond_true];obtain⟨a,e⟩:=Boh hK hE hn G o.fH;rw[e];exact⟨_,_,rfl,G0,rfl⟩
    |false=>
     simp only[cond_false];rw[Aw1 hK W];exact⟨_,_,rfl,G0,rfl⟩
theorem Boj{E:Int}{n:Nat}(hE:0≤E∧E≤800000000)(hn:n≤700000000){w:Es}(G:E7 w E n)(b:Bool){o:Dg}(ho:Akt o)(z:F4):
  ∃a w',Auc K b w.fC.Af w.fC.Ez w.fC.Db w.fC.Fv w.fC.Dc w.fC.E0 w.fP.Gl w.fP.Ja w.fP.Gm w.fL w.fQ w.Rl z o.Yv o.fH.As o.fH.Bz o.fR.fH.As o.fR.fH.Bz o.fR.Js o.fR.Xh o.fN o.fM o.fB=some (a,w')∧E7 w' (E+1) (n+1)∧w'.fC=w.fC:=by
 have W:=G.ww (by omega) (by omega)
 have hq:=Byp w
 have hwt:=G.wt
 have G0:=E7.le G (by omega:E≤E+1) (by omega:n≤n+1)
 unfold Auc;rw[show Es.mk (Fa.mk w.fC.Af w.fC.Ez w.fC.Db w.fC.Fv w.fC.Dc w.fC.E0) (Eb.mk w.fP.Gl w.fP.Ja w.fP.Gm) w.fL w.fQ w.Rl=w from rfl]
 cases b with
 |true=>
  simp only[cond_true];rw[Atr hK W.l,Z0,Axa hK w W.l,Z0]
  by_cases h0:(Atp w.fL (Ca.mk o.fH.As o.fH.Bz)).2=0
  ·have hal:=A1v G.inv h0
   have hki:=(G.live hal).1;rw[h0];simp only[bne_self_eq_false,cond_false];cases o.Yv==6 with
   |true=>
    simp only[cond_true];rw[Bbx hK w W (by omega) hki,Z0]
    exact⟨_,_,rfl,Bfx G (by omega) hal,rfl⟩
   |false=>
    simp only[cond_false];rw[Bfh hK w W (by omega) hki,Z0]
    exact⟨_,_,rfl,E7.le (Bfw G hE.1 hal) (by omega) (by omega),rfl⟩
  ·rw[Aue h0];exact⟨_,_,rfl,G0,rfl⟩
 |false=>
  simp only[cond_false];rw[show Dg.mk o.Yv (Ca.mk o.fH.As o.fH.Bz) (E2.mk (Ca.mk o.fR.fH.As o.fR.fH.Bz) o.fR.Js o.fR.Xh) o.fN o.fM o.fB=o from rfl]
  obtain⟨w',a,e,g,c⟩:=Byy hK (by omega) (by omega) G ho
  rw[e];exact⟨_,_,rfl,E7.le g (by omega) (Z9 _),c⟩
theorem B3u{E:Int}{n:Nat}(hE:0≤E∧E≤800000000)(hn:n≤700000000){w:Es}(G:E7 w E n){o:Dg}(ho:Akt o): ∃a w',Ayf K w o=some (a,w')∧E7 w' (E+1) (n+192)∧w'.fC=w.fC:=by
 unfold Ayf;cases o.Yv==1 with
 |true=>
  simp only[cond_true];obtain⟨r,w',e,g,c⟩:=Bfo hK (by omega) (by omega) G o.fH
  rw[e];exact⟨_,_,rfl,E7.le g (by omega) (by omega),c⟩
 |false=>
  simp only[cond_false];cases o.Yv==2 with
  |true=>
   simp only[cond_true];obtain⟨r,w',e,g,c⟩:=Bdv hK (by omega) (by omega) G o.fH o.fN o.fM
   rw[e];exact⟨_,_,rfl,E7.le g (by omega) (by omega),c⟩
  |false=>
   simp only[cond_false];cases o.Yv==9 with
   |true=>
    simp only[cond_true];obtain⟨r,w',e,S⟩:=A5w hK (E:=E) (n:=n) (by omega) (by omega) 4000 G
    rw[e];exact⟨_,_,rfl,E7.le S.good (by omega) (by omega),S.stay.conf⟩
   |false=>
    simp only[cond_false];cases o.Yv==6 with
    |true=>
     simp only[cond_true];obtain⟨r,w',e,g,c⟩:=Boj hK hE hn G true ho (F4.mk 0 (Ca.mk 0 0) (E2.mk (Ca.mk 0 0) 0 0) [] 0 0 0);exact⟨_,_,e,E7.le g (Int.le_refl _) (by omega),c⟩
    |false=>
     simp only[cond_false];obtain⟨r,w',e,g,c⟩:=Boj hK hE hn G (o.Yv==7) ho (F4.mk 0 (Ca.mk 0 0) (E2.mk (Ca.mk 0 0) 0 0) [] 0 0 0);exact⟨_,_,e,E7.le g (Int.le_refl _) (by omega),c⟩
end
theorem Bci{α:Type}[Inhabited α]{n:Nat}(x:α){k:Int}(hk:0≤k∧k<(n:Int)):gt (List.replicate n x) k=x:=by
 obtain⟨j,rfl⟩: ∃j:Nat,k=j:=⟨k.toNat,by omega⟩
 rw[Abh (by simp;omega)]
 simp
theorem A8k{α:Type}(i:Nat)(x:α):List.replicate i x++[x]=List.replicate (i+1) x:=by rw[List.replicate_succ']
section
variable {K:Nat} (hK:281474976710656≤K)
include hK
def Bg5 (c:Fa):Eb:=Eb.mk (List.replicate (c.Af*c.Ez).toNat 0) (List.replicate c.Af.toNat 0) (List.replicate c.Af.toNat (-1))
theorem Bfy{c:Fa}(hc:Alm c=true):Awd K c=some (Bg5 c):=by
 have hm:=Abn;obtain⟨b1,b2,b3,b4,b5,b6⟩:=Ap hc
 have hb:=Auu (a:=c.Af) (b:=c.Ez) (m:=12) (n:=16) (by omega) b1.2 (by omega) b2.2
 have hby:Anl c=c.Af*c.Ez:=by unfold Anl;rw[hc];rfl
 unfold Awd Az9;rw[Atc,hc,Z0,Bool.not_true,cond_false,Auv,Z0,hby,Api,Abm.2 ⟨by omega,by omega⟩]
 simp only[Z0,Bool.not_true,cond_false];rw[if_pos ⟨by omega,by omega,by omega,by omega⟩,Z0]
 have key: ∀(f i:Nat),(i:Int)≤c.Af->c.Af.toNat - i<f->Asq K c f (i:Int) (Eb.mk (List.replicate (c.Af*c.Ez).toNat 0) (List.replicate i 0) (List.replicate i (-1))) (Eb.mk [] [] [])=some (Bg5 c):=by
  intro f
  induction f with
  |zero=>intro i _ h;omega
  |succ f ih=>
   intro i hi hf;rw[Asq]
   by_cases q:(i:Int)=c.Af
   ·rw[decide_eq_false (by omega)]
    unfold Bg5;rw[←q];rfl
   ·rw[decide_eq_true (by omega),cond_true,if_pos ⟨by simp;omega,by simp;omega⟩,if_pos ⟨by simp;omega,by simp;omega⟩,Agw (by omega)]
    simp only;rw[A8k,A8k];exact ih (i+1) (by omega) (by omega)
 exact key K 0 (by omega) (by omega)
theorem Bdx{c:Fa}(hc:Alm c=true):Axs K c=some (List.replicate c.Db.toNat (Ar2 0 1)):=by
 have hm:=Abn;obtain⟨b1,b2,b3,b4,b5,b6⟩:=Ap hc
 have key: ∀(f i:Nat),(i:Int)≤c.Db->c.Db.toNat - i<f->Asc K c f (List.replicate i (Ar2 0 1)) (i:Int)=some (List.replicate c.Db.toNat (Ar2 0 1)):=by
  intro f
  induction f with
  |zero=>intro i _ h;omega
  |succ f ih=>
   intro i hi hf;rw[Asc]
   by_cases q:(i:Int)=c.Db
   ·rw[decide_eq_false (by omega),←q];rfl
   ·unfold Arq;rw[decide_eq_true (by omega),cond_true,Atc,hc]
    simp only[Z0,cond_true];rw[show Bg.mk 0 1 0 0 0 0 0 0 [] 0 0 [] []=Ar2 0 1 from rfl,if_pos ⟨by simp;omega,by simp;omega⟩,Agw (by omega),A8k]
    exact ih (i+1) (by omega) (by omega)
 exact key K 0 (by omega) (by omega)
def Azv (c:Fa):Es:=Es.mk c (Bg5 c) (List.replicate c.Db.toNat (Ar2 0 1)) [] []
theorem Bdy{c:Fa}(hc:Alm c=true):Avc K c=some (Azv c):=by
 unfold Avc;rw[Atc,hc,Z0,Bool.not_true,cond_false,Bfy hK hc,Z0,Bdx hK hc];rfl
end
def Bok (_:Int):Lk:=⟨false,false,0,0,0,0,0,0⟩
theorem A0p{N x:Int}: ¬Lv N Bok x:=fun h=>by have:=h.2;cases this
theorem Bdz (N:Int):Aic N Bok []:=by
 refine⟨⟨fun k h=>absurd h A0p,fun k h=>absurd h A0p,fun _ _ _ _=>⟨rfl,rfl,rfl,rfl⟩⟩,⟨fun _=>0,fun x h=>absurd h A0p⟩,⟨fun _=>0,fun x h=>absurd h A0p⟩,⟨List.nodup_nil,fun x=>⟨(fun h=>by cases h),fun h=>absurd h.1 A0p⟩,(fun f h=>by cases h)⟩,trivial,fun x h=>absurd h A0p,fun x h=>absurd h A0p,(fun e h=>by cases h)⟩
theorem Bol{c:Fa}(hc:Alm c=true):E7 (Azv c) 0 0:=by
 obtain⟨b1,b2,b3,b4,b5,b6⟩:=Ap hc
 have hb:=Auu (a:=c.Af) (b:=c.Ez) (m:=12) (n:=16) (by omega) b1.2 (by omega) b2.2
 have hN:((Azv c).fL.length:Int)=c.Db:=by show((List.replicate _ _).length:Int)=_;rw[List.length_replicate];omega
 have hg: ∀k,0≤k∧k<((Azv c).fL.length:Int)->gt (Azv c).fL k=Ar2 0 1:=fun k hk=>Bci _ (by rw[hN]at hk;omega)
 have hs: ∀k,0≤k∧k<c.Af->gt (Azv c).fP.Ja k=0:=fun k hk=>Bci _ (by omega)
 have ho: ∀k,0≤k∧k<c.Af->gt (Azv c).fP.Gm k= -1:=fun k hk=>Bci _ (by omega)
 have hz: ∀a m:Nat,Ari (((Azv c).fP.Gl.drop a).take m)=true:=fun a m=>by
  rw[A1h];intro j _ _ h
  have h:j<(List.replicate (c.Af*c.Ez).toNat (0:Int)).length:=h;rw[List.length_replicate]at h;exact Bci _ ⟨by omega,by omega⟩
 refine⟨⟨Ai3.2 ⟨hc,?_,?_,?_,fun k hk=> ?_⟩,hN,fun k hk=> ?_,fun k hk x=> ?_,fun k hk=> ?_,⟨Bok,(fun k hk=>by rw[hg k hk];rfl),Bdz _⟩,(fun x h=>by cases h),List.nodup_nil,fun x=> ?_,List.nodup_nil,fun s=> ?_,rfl⟩,fun x hx=> ?_,fun k hk=> ?_,?_⟩
 ·show((List.replicate _ _).length:Int)=c.Af*c.Ez;rw[List.length_replicate];omega
 ·show((List.replicate _ _).length:Int)=c.Af;rw[List.length_replicate];omega
 ·show((List.replicate _ _).length:Int)=c.Af;rw[List.length_replicate];omega
 ·rw[hs k hk,ho k hk];exact⟨by omega,fun h=>by omega,fun _=>rfl,fun _=>hz _ _⟩
 ·rw[hg k hk];exact A1t hc (by omega) (by omega) (by show 1≤1∧1≤c.E0;omega)
 ·rw[hg k hk];constructor
  ·intro h;cases h
  ·rintro⟨a,b,_⟩;rw[hs x a]at b;cases b
 ·rw[hg k hk];exact⟨rfl,rfl,rfl⟩
 ·constructor
  ·intro h;cases h
  ·rintro⟨a,b⟩;rw[hs x a]at b;cases b
 ·constructor
  ·intro h;cases h
  ·rintro⟨a,b⟩;rw[hg s a]at b;cases b
 ·have hx:x∈List.replicate (c.Af*c.Ez).toNat (0:Int):=hx;rw[(List.mem_replicate.1 hx).2];omega
 ·rw[hg k hk];exact⟨Int.le_refl 0,Int.le_refl 0,Int.le_refl 0,by show(0:Int)≤1000;omega⟩
 ·have e:wtN c (Ar2 0 1)=0:=A1j _ (by decide) _
  unfold wt pot Azv;simp[e]
section
variable {K:Nat} (hK:281474976710656≤K)
include hK
def A5f (w:Es)(o:Dg)(c:Eu):Dg×Eu×(List Int)×(List Int)×(List Int)×(List Bg)×(List A3)×(List Int):=(o,c,w.fP.Gl,w.fP.Ja,w.fP.Gm,w.fL,w.fQ,w.Rl)
omit hK in
theorem Bd0 (w:Es)(h:Ca)(d:Int){c:Eu}(hc:Am6 c)(b:Bool): ∃o c',Asv K h w.fP.Gl w.fP.Ja w.fP.Gm w.fL w.fQ w.Rl d c.fb c.fi c.fh b=some (A5f w o c')∧Akt o∧Am6 c':=by
 unfold Asv;rw[show Eu.mk c.fb c.fi c.fh=c from rfl]
 cases b with
 |true=>
  simp only[cond_true];obtain⟨r,e,_,w1⟩:=Aex K hc (n:=256) (by omega)
  rw[e];exact⟨_,_,rfl,Ap4 _ _ _ _ _,w1⟩
 |false=>
  simp only[cond_false];cases d==13 with
  |true=>exact⟨_,_,rfl,Ap4 _ _ _ _ _,hc⟩
  |false=>
   simp only[cond_false];cases d==14 with
   |true=>exact⟨_,_,rfl,Ap4 _ _ _ _ _,hc⟩
   |false=>
    simp only[cond_false];obtain⟨r,e,w1⟩:=Az8 K hc (n:=6) (by omega)
    rw[e,Z0];cases r.1 with
    |true=>exact⟨_,_,rfl,Ap4 _ _ _ _ _,w1⟩
    |false=>exact⟨_,_,rfl,Ap4 _ _ _ _ _,w1⟩
theorem Bd1 (w:Es)(h:Ca)(r:E2)(d:Int){c:Eu}(hc:Am6 c)(b:Bool): ∃o c',Asw K h r w.fP.Gl w.fP.Ja w.fP.Gm w.fL w.fQ w.Rl d c.fb c.fi c.fh b=some (A5f w o c')∧Akt o∧Am6 c':=by
 unfold Asw;rw[show Eu.mk c.fb c.fi c.fh=c from rfl]
 cases b with
 |true=>
  simp only[cond_true];obtain⟨x,e,b1,w1⟩:=Aex K hc (n:=2) (by omega)
  have e1:Aqc .i64 1 x.1=1+x.1:=by unfold Aqc;exact Abf (by omega) (by omega)
  obtain⟨y,c2,e2,b2,l2,w2⟩:=A8h hK w1 (n:=1+x.1) (by omega)
  rw[e,Z0,e1,e2];exact⟨_,_,rfl,⟨b2,l2⟩,w2⟩
 |false=>
  simp only[cond_false];cases d==10 with
  |true=>
   simp only[cond_true];obtain⟨x,e,_,w1⟩:=Aex K hc (n:=3) (by omega)
   rw[e];exact⟨_,_,rfl,Ap4 _ _ _ _ _,w1⟩
  |false=>
   simp only[cond_false];cases d==11 with
   |true=>simp only[cond_true];exact Bd0 w h d hc true
   |false=>simp only[cond_false];exact Bd0 w h d hc (d==12)
theorem A8l (w:Es)(h:Ca)(r:E2)(z d:Int){c:Eu}(hc:Am6 c)(b:Bool): ∃o c',Arl K h r z w.fP.Gl w.fP.Ja w.fP.Gm w.fL w.fQ w.Rl d c.fb c.fi c.fh b=some (A5f w o c')∧Akt o∧Am6 c':=by
 unfold Arl;rw[show Eu.mk c.fb c.fi c.fh=c from rfl]
 cases b with
 |true=>
  simp only[cond_true];obtain⟨x,c1,e1,_,w1⟩:=Ay5 K hc (l:=[1,2,3,4,5,8]) (by simp)
  obtain⟨y,c2,e2,_,w2⟩:=Ay5 K w1 (l:=[1,1,2,4]) (by simp)
  rw[e1,Z0,if_pos rfl,e2,Z0,if_pos rfl];exact⟨_,_,rfl,Ap4 _ _ _ _ _,w2⟩
 |false=>
  simp only[cond_false];cases d==7 with
  |true=>
   simp only[cond_true];obtain⟨x,e,w1⟩:=A5e K hc z;rw[e];exact⟨_,_,rfl,Ap4 _ _ _ _ _,w1⟩
  |false=>
   simp only[cond_false];cases d==8 with
   |true=>simp only[cond_true];exact Bd1 hK w h r d hc true
   |false=>simp only[cond_false];exact Bd1 hK w h r d hc (d==9)
theorem A8m (w:Es)(h:Ca)(r:E2)(z d:Int){c:Eu}(hc:Am6 c)(b:Bool): ∃o c',Arm K h r z w.fP.Gl w.fP.Ja w.fP.Gm w.fL w.fQ w.Rl d b c.fb c.fi c.fh=some (A5f w o c')∧Akt o∧Am6 c':=by
 unfold Arm;rw[show Eu.mk c.fb c.fi c.fh=c from rfl]
 cases b with
 |true=>exact⟨_,_,rfl,Ap4 _ _ _ _ _,hc⟩
 |false=>
  simp only[cond_false];cases d==3 with
  |true=>exact⟨_,_,rfl,Ap4 _ _ _ _ _,hc⟩
  |false=>
   simp only[cond_false];cases d==4 with
   |true=>simp only[cond_true];exact A8l hK w h r z d hc true
   |false=>
    simp only[cond_false];cases d==5 with
    |true=>simp only[cond_true];exact A8l hK w h r z d hc true
    |false=>simp only[cond_false];exact A8l hK w h r z d hc (d==6)
theorem Bd2 (w:Es)(h:Ca)(r:E2)(q:Dg){c:Eu}(hc:Am6 c): ∃o c',Asx K h c.fb c.fi c.fh r q w.fC.Af w.fC.Ez w.fC.Db w.fC.Fv w.fC.Dc w.fC.E0 w.fP.Gl.length w.fP.Ja.length w.fP.Gm.length w.fL.length w.fQ.length w.Rl.length w.fP.Gl w.fP.Ja w.fP.Gm w.fL w.fQ w.Rl=some (A5f w o c')∧Akt o∧Am6 c':=by
 unfold Asx;rw[show Eu.mk c.fb c.fi c.fh=c from rfl]
 obtain⟨x,e,_,w1⟩:=Aex K hc (n:=16) (by omega)
 rw[e,Z0];cases x.1==0 with
 |true=>simp only[cond_true];exact A8m hK w h r _ _ w1 true
 |false=>
  simp only[cond_false];cases x.1==1 with
  |true=>simp only[cond_true];exact A8m hK w h r _ _ w1 true
  |false=>simp only[cond_false];exact A8m hK w h r _ _ w1 _
theorem Bg6{w:Es}(W:Avx w)(h8:w.fL.length≤1000){c:Eu}(hc:Am6 c): ∃o c',At1 K c w=some (A5f w o c')∧Akt o∧Am6 c':=by
 unfold At1;obtain⟨r1,e1,hl,hr⟩:=A8e hK W h8;rw[e1,Z0];cases hz:(r1.length:Int)==0 with
 |true=>
  simp only[cond_true];obtain⟨x,e,w1⟩:=Az8 K hc (n:=2) (by omega)
  rw[e,Z0];cases x.1 with
  |true=>exact⟨_,_,rfl,Ap4 _ _ _ _ _,w1⟩
  |false=>
   simp only[cond_false];obtain⟨o,c2,e2,ho,w2⟩:=A8j hK w1;rw[e2];exact⟨_,_,rfl,ho,w2⟩
 |false=>
  have hz: ¬(r1.length:Int)=0:=by simpa using hz
  simp only[cond_false];obtain⟨x,e,w1⟩:=Az8 K hc (n:=10) (by omega)
  rw[e,Z0];cases x.1 with
  |true=>
   simp only[cond_true];obtain⟨y,e2,w2⟩:=Az8 K w1 (n:=2) (by omega)
   rw[e2,Z0];cases y.1 with
   |true=>exact⟨_,_,rfl,Ap4 _ _ _ _ _,w2⟩
   |false=>
    simp only[cond_false];obtain⟨o,c2,e3,ho,w3⟩:=A8j hK w2;rw[e3];exact⟨_,_,rfl,ho,w3⟩
  |false=>
   simp only[cond_false];obtain⟨y,e2,b2,w2⟩:=Aex K w1 (n:=(r1.length:Int)) (by omega)
   rw[e2,Z0,if_pos b2]
   have hk:=(hr _ (Aqx b2.1 b2.2)).1;obtain⟨h,eh⟩:=A1l (K:=K) (l:=w.fL) (by omega) (gt r1 y.1)
   rw[eh,Z0,if_pos hk,if_pos hk];cases decide (((gt w.fL (gt r1 y.1)).Er.length:Int)>0)with
   |true=>
    simp only[cond_true];obtain⟨z,e3,w3⟩:=A5e K w2 ((gt w.fL (gt r1 y.1)).Er.length:Int);rw[if_pos hk,e3,Z0];exact Bd2 hK w h _ _ w3
   |false=>
    simp only[cond_false];exact Bd2 hK w h _ _ w2
theorem run_ok{c:Eu}(hc:Am6 c){most:Int}(hm:0<most∧most≤1000): ∃x l w c' E n,Axj K c most=some (x,l,w,c')∧E7 w E n∧(0≤E∧E≤200)∧n≤38400∧w.fC=x∧Alm x=true∧l.length≤200∧(∀o∈l,Akt o)∧Am6 c':=by
 have hx:=Abn;unfold Axj;obtain⟨x,c1,e1,hx1,w1⟩:=Bi2 K hc;obtain⟨y,e2,b2,w2⟩:=Aex K w1 (n:=most) (by omega)
 rw[e1,Z0,Bdy hK hx1,Z0,e2,Z0]
 have ea:Aqc .i64 4 y.1=4+y.1:=by unfold Aqc;exact Abf (by omega) (by omega)
 rw[ea]
 have key: ∀(f i:Nat) (l:List Dg) (w:Es) (c:Eu),(i:Int)≤4+y.1->i<f->E7 w (l.length:Int) (192*l.length)->w.fC=x->l.length≤200->(∀o∈l,Akt o)->Am6 c-> ∃x' l' w' c' E n,Atn K f l (i:Int) c.fb c.fi c.fh w x (Es.mk (Fa.mk 0 0 0 0 0 0) (Eb.mk [] [] []) [] [] []) (Fa.mk 0 0 0 0 0 0)=some (x',l',w',c')∧E7 w' E n∧(0≤E∧E≤200)∧n≤38400∧w'.fC=x'∧Alm x'=true∧l'.length≤200∧(∀o∈l',Akt o)∧Am6 c':=by
  intro f
  induction f with
  |zero=>intro i l w c _ h;omega
  |succ f ih=>
   intro i l w c hi hf G hwc hl ho hcc
   have done: ∃x' l' w' c' E n,some (x,l,w,Eu.mk c.fb c.fi c.fh)=some (x',l',w',c')∧E7 w' E n∧(0≤E∧E≤200)∧n≤38400∧w'.fC=x'∧Alm x'=true∧l'.length≤200∧(∀o∈l',Akt o)∧Am6 c':=⟨_,_,_,_,_,_,rfl,G,by omega,by omega,hwc,hx1,hl,ho,hcc⟩
   rw[Atn]
   by_cases q:0<i
   ·rw[decide_eq_true (show(i:Int)>0 by omega),cond_true]
    by_cases q2:l.length<200
    ·rw[decide_eq_true (show(l.length:Int)<200 by omega),cond_true]
     have W:=G.ww (by omega) (by omega)
     obtain⟨b1,b2,b3,_⟩:=Ap G.inv.conf
     have hlen:=G.inv.len;obtain⟨o,c2,e3,hop,w3⟩:=Bg6 hK W (by omega) hcc
     obtain⟨a,w',e4,G',hc'⟩:=B3u hK (E:=(l.length:Int)) (n:=192*l.length) (by omega) (by omega) G hop
     rw[show Eu.mk c.fb c.fi c.fh=c from rfl,e3,Z0]
     unfold A5f;simp only;rw[if_pos ⟨trivial,trivial,trivial,trivial,trivial,trivial⟩,if_pos ⟨by simp;omega,by simp;omega⟩]
     rw[show Es.mk w.fC (Eb.mk w.fP.Gl w.fP.Ja w.fP.Gm) w.fL w.fQ w.Rl=w from rfl,e4,Z0]
     have es:Aqd .i64 (i:Int) 1=((i - 1:Nat):Int):=by rw[sb1 (by omega) (by omega)];omega
     rw[es];refine ih (i - 1) (l++[o]) w' c2 (by omega) (by omega) ?_ (hc'.trans hwc) (by simp;omega) ?_ w3
     ·rw[Kr,List.length_singleton];exact E7.le G' (by omega) (by omega)
     ·intro o' h';rcases Ho.1 h' with h'|h'
      ·exact ho o' h'
      ·rw[Pl.1 h'];exact hop
    ·rw[decide_eq_false (show ¬(l.length:Int)<200 by omega)];exact done
   ·rw[decide_eq_false (show ¬(i:Int)>0 by omega)];exact done
 have:=key K (4+y.1).toNat [] (Azv x) y.2 (by omega) (by omega) (Bol hx1) rfl (by simp) (fun o h=>by cases h) w2
 rw[show(((4+y.1).toNat:Nat):Int)=4+y.1 by omega]at this
 exact this
omit hK in
theorem Bi3 (a:List Int){m:Int}(hm:0≤m∧m≤1000)(ha:a.length≤1048576): ∃r,Auz K a m=some r∧0≤r∧r≤1000:=by
 unfold Auz
 have h3:(a.length:Int) / 12≤(a.length:Int):=Int.ediv_le_self _ (by omega)
 have h4:0≤(a.length:Int) / 12:=Int.ediv_nonneg (by omega) (by omega)
 have e1:Anr .i64 (a.length:Int) 12=(a.length:Int) / 12:=by
  unfold Anr;rw[Int.tdiv_eq_ediv_of_nonneg (by omega)];exact Abf (by omega) (by omega)
 have e2:Aqc .i64 3 ((a.length:Int) / 12)=3+(a.length:Int) / 12:=by unfold Aqc;exact Abf (by omega) (by omega)
 rw[if_pos (by decide),e1,e2]
 by_cases q:3+(a.length:Int) / 12>m
 ·rw[decide_eq_true q];exact⟨_,rfl,hm⟩
 ·rw[decide_eq_false q];exact⟨_,rfl,by omega,by omega⟩
theorem Bcj{a:List Int}(hb:Axy a)(ha:a.length≤1048576): ∃w o E n,Aut K a=some (w,o)∧E7 w E n∧(0≤E∧E≤200)∧n≤38400∧Akt o:=by
 unfold Aut;obtain⟨c,e1,w1⟩:=Boi hK hb ha;obtain⟨m,e2,hm⟩:=Bi3 (K:=K) a (m:=50) (by omega) ha
 have ea:Aqc .i64 20 m=20+m:=by unfold Aqc;exact Abf (by omega) (by omega)
 have h50:m≤900∨900<m:=by omega
 rw[e1,Z0,e2,Z0,ea];unfold Axw
 have hm2:m≤50:=by
  unfold Auz at e2;rw[if_pos (by decide)]at e2
  by_cases q:(Aqc .i64 3 (Anr .i64 (a.length:Int) 12))>50
  ·rw[decide_eq_true q]at e2;simp only[cond_true,Z7]at e2;omega
  ·rw[decide_eq_false q]at e2;simp only[cond_false,Z7]at e2;omega
 obtain⟨x,l,w,c2,E,n,e3,G,hE,hn,_,_,_,_,w3⟩:=run_ok hK w1 (most:=20+m) (by omega)
 have W:=G.ww (by omega) (by omega)
 obtain⟨b1,b2,b3,_⟩:=Ap G.inv.conf
 have hlen:=G.inv.len;obtain⟨o,c4,e4,ho,_⟩:=Bg6 hK W (by omega) w3
 rw[e3];simp only[Z0];rw[e4,Z0];unfold A5f;simp only;rw[if_pos ⟨trivial,trivial,trivial,trivial,trivial,trivial⟩];exact⟨_,_,_,_,rfl,G,hE,hn,ho⟩
end
def A5g (l:List Bg)(i:Nat):List Bf:=(List.range i).flatMap fun(k:Nat)=>(gt l (k:Int)).Er
theorem A2p (l:List Bg)(i:Nat):A5g l (i+1)=A5g l i++(gt l (i:Int)).Er:=by
 unfold A5g;rw[List.range_succ,List.flatMap_append];simp
theorem A9t{l:List Bg}{i:Nat}{t:Bf}(h:t∈A5g l i): ∃k:Nat,k<i∧t∈(gt l (k:Int)).Er:=by
 unfold A5g at h;obtain⟨k,hk,ht⟩:=List.mem_flatMap.1 h;exact⟨k,List.mem_range.1 hk,ht⟩
theorem A8n{w:Es}(I:Inv w){k:Int}(hk:0≤k∧k<(w.fL.length:Int)):(gt w.fL k).Er.length≤12:=by
 by_cases h:(gt w.fL k).Ja=1
 ·exact(Ajx.1 ⟨I.node k hk,h⟩).nth
 ·rw[Aw4 (I.node k hk) h];exact Z21 _
theorem Bi4{w:Es}(I:Inv w): ∀i:Nat,i≤w.fL.length->(A5g w.fL i).length≤12*i:=by
 intro i
 induction i with
 |zero=>intro _;exact Z9 _
 |succ i ih=>
  intro hi
  have h1:=ih (by omega)
  have h2:=A8n I (k:=(i:Int)) ⟨by omega,by omega⟩
  rw[A2p,Kr];omega
theorem Bd3{w:Es}(I:Inv w): ∀i:Nat,i≤w.fL.length->Ank (A5g w.fL i)=true:=by
 intro i
 induction i with
 |zero=>intro _;rfl
 |succ i ih=>
  intro hi
  have h1:=ih (by omega)
  have hki:0≤(i:Int)∧(i:Int)<(w.fL.length:Int):=⟨by omega,by omega⟩
  obtain⟨t1,t2,_⟩:=I.thing _ hki;rw[A3j]at h1 t2 ⊢;rw[A2p,List.pairwise_append];refine⟨h1,t2,fun a ha b hb=>Ay4 fun j j1 j2 j3 j4=> ?_⟩;obtain⟨k,hk,hak⟩:=A9t ha
  have hkk:0≤(k:Int)∧(k:Int)<(w.fL.length:Int):=⟨by omega,by omega⟩
  have c1:=A1n (Z1.1 (I.thing _ hkk).1 a hak) j1 j2
  have c2:=A1n (Z1.1 t1 b hb) j3 j4
  have o1:=((I.own _ hkk _).1 c1).2.2
  have o2:=((I.own _ hki _).1 c2).2.2;omega
theorem Bi5{w:Es}(I:Inv w){k:Int}(hk:0≤k∧k<(w.fL.length:Int)):((gt w.fL k).Af.length:Int)=((Atf w.fP k).length:Int):=by
 have:=I.chunks hk;unfold A1p at this;rw[Z4,beq_iff_eq]at this
 have:=this.2;omega
theorem A5j (a:List Int)(u:Bbh a): ∃K,Atx K a=some true:=by
 have hm:=Abn;refine⟨K0,?_⟩
 have hK:=Z9 K0
 have hb:Axy a:=(Big u).1;unfold Atx A12;rw[Z0]
 by_cases q:(a.length:Int)>1048576
 ·rw[decide_eq_true q];rfl
 ·rw[decide_eq_false q];simp only[cond_false];obtain⟨w,o,E,n,e,G,hE,hn,_⟩:=Bcj hK hb (by omega)
  rw[e,Z0]
  have I:=G.inv
  have W:=G.ww (by omega) (by omega)
  obtain⟨b1,b2,b3,_⟩:=Ap I.conf
  have hlen:=I.len
  have key: ∀(f i:Nat),i≤w.fL.length->w.fL.length - i<f->Arc K0 f (A5g w.fL i) (i:Int) w=some true:=by
   intro f
   induction f with
   |zero=>intro i _ h;omega
   |succ f ih=>
    intro i hi hf
    have hl:=Bi4 I i hi;rw[Arc];rcases Ge i w.fL.length with h|h
    ·have hki:0≤(i:Int)∧(i:Int)<(w.fL.length:Int):=Aph h
     have hw:=W.l.1 _ (Arz h)
     have htl:=A8n I hki;rw[Aha h,cond_true,if_pos hki,A8x hK _ _ (A25 hK hw.chunks) (by omega),(I.thing _ hki).1,Z0,cond_true,if_pos hki,Bbn hK _ _ W.p.st.2,Z0,Bi5 I hki]
     simp only[bne_self_eq_false,cond_false];rw[if_pos hki,if_pos ⟨by simp;omega,by simp;omega⟩,Agw (by omega),←A2p]
     exact ih (i+1) h (by omega)
    ·obtain rfl:i=w.fL.length:=by omega
     rw[Ai2 (Z9 _),cond_false,A8w hK _ (by omega) (fun t ht=> ?_),Bd3 I _ (Z9 _)]
     ·rfl
     ·obtain⟨k,hk,htk⟩:=A9t ht
      have hkk:0≤(k:Int)∧(k:Int)<(w.fL.length:Int):=⟨by omega,by omega⟩
      have:=Z1.1 (I.thing _ hkk).1 t htk;unfold Ar5 at this;rw[Z4]at this;exact(Ayv this.1).1
  exact key K0 0 (Z21 _) (by unfold K0;omega)
end Go.Proofs.YtjdblamhaljjbaaGreat
