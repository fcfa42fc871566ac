/- The plain law for FnTags; no condition. -/
import Derived.Test.YtcdojenmonmcfaaGreatFFnTagsPa
set_option linter.all false
namespace Go.Proofs.YtcdojenmonmcfaaGreat
open Go.Eng Go.ChangeShapes Go.WideShapes Go.ChangeAt Go.RowKit
def Bi5 (g n:As)(k x:Int):As:=lnk n (if g.So=0∧x+1=g.fUp∧n.Ef=k+1 then g.Sn else n.Ef) (if x+1=g.So then g.Sn else n.Sn) (if x+1=g.Sn then g.So else n.So)
theorem Bg2{l l':List As}{t:Int->Lk}(A:AtT l t){k:Int}(hk:0≤k∧k<(l.length:Int))(hN:l'.length=l.length)(hg: ∀x,0≤x∧x<(l.length:Int)->x≠k->gt l' x=Bi5 (gt l k) (gt l x) k x){gn:Int}(hb:gt l' k=Aqj 2 gn):AtT l' (rem t k):=by
 intro x hx;rw[hN]at hx
 by_cases e:x=k
 ·subst e;rw[A5t,hb];rfl
 ·rw[Akz e,hg x hx e,A x hx,A k hk];rfl
theorem Boa{w:C5}(I:Inv w){t:Int->Lk}(A:AtT w.fL t)(F:Ag8 w.fL.length t (Ax9 w.fQ)){k:Int}(hl:Lv w.fL.length t k)(l':List As)(q':List Az)(hN:l'.length=w.fL.length)
  (hg: ∀x,0≤x∧x<(w.fL.length:Int)->x≠k->gt l' x=Bi5 (gt w.fL k) (gt w.fL x) k x) (hb:gt l' k=Aqj 2 (gt w.fL k).C9)
  (F':Ag8 w.fL.length (rem t k) (Ax9 q')) (hr: ∀x∈q',Alb w.fC x=true∧Ank w x=true)
  (hcn:(chL q').Nodup) (hci: ∀c,c∈chL q' ↔ c∈chL w.fQ++(gt w.fL k).Ay) (hsn:(slL q').Nodup) (hsi: ∀s,s∈slL q' ↔ s∈slL w.fQ∨s=k):
  Inv (C5.mk w.fC (Aio w.fP (gt w.fL k).Ay) l' q' w.Acy):=by
 have hk:=hl.1
 have P:=I.live A hl;obtain⟨L1,L2,L3⟩:=A17 I hk;refine⟨Air.2 L1,by simp_all[Inv.len],fun x hx=> ?_,fun x hx c=> ?_,fun x hx=> ?_,⟨rem t k,Bg2 A hk hN hg hb,?_⟩,fun x hx=> ?_,hcn,fun c=> ?_,hsn,fun s=> ?_,I.log⟩
 ·have hx:0≤x∧x<(l'.length:Int):=hx;rw[hN]at hx
  show Ap6 w.fC (gt l' x)=true
  by_cases e:x=k
  ·grind [A4p,Inv.conf,Aqv.gen]
  ·rw[hg x hx e];obtain⟨a1,a2,a3,a4⟩:=A3d (I.node k hk)
   by_cases hs:(gt w.fL x).Vi=1
   ·have X:=Ag9.1 ⟨I.node x hx,hs⟩;refine(Ag9.2 (A8q X ?_ ?_ ?_)).1
    ·split
     ·exact a3
     ·exact X.first
    ·split
     ·exact a3
     ·exact X.next
    ·split
     ·exact a4
     ·exact X.prev
   ·have X:=Awk (I.node x hx) hs
    have B:=(A8i F.tree hl).bare x hx.1 hx.2 (by rw[Akz e,A x hx];grind [A3c])
    rw[Akz e,A x hx,A k hk]at B;obtain⟨_,B2,B3,B4⟩:=B
    have q1:(if(gt w.fL k).So=0∧x+1=(gt w.fL k).fUp∧(gt w.fL x).Ef=k+1 then(gt w.fL k).Sn else(gt w.fL x).Ef)=0:=B2
    have q2:(if x+1=(gt w.fL k).So then(gt w.fL k).Sn else(gt w.fL x).Sn)=0:=B3
    have q3:(if x+1=(gt w.fL k).Sn then(gt w.fL k).So else(gt w.fL x).So)=0:=B4
    have this:lnk (gt w.fL x) 0 0 0=gt w.fL x:=by rw[X];rfl
    grind [Bi5,Inv.node]
 ·have hx:0≤x∧x<(l'.length:Int):=hx;rw[hN]at hx
  show c∈(gt l' x).Ay ↔ (0≤c∧c<w.fC.Ay)∧gt (Aio w.fP (gt w.fL k).Ay).Vi c=1∧gt (Aio w.fP (gt w.fL k).Ay).N8 c=x
  by_cases e:x=k
  ·rw[e,hb];constructor
   ·intro q;cases q
   ·rintro⟨a,b,d⟩;rw[(L3 c a).1]at b;rw[(L3 c a).2]at d;split at b
    all_goals simp_all[Inv.own]
  ·rw[hg x hx e]
   show c∈(gt w.fL x).Ay ↔ _;rw[I.own x hx c];constructor
   ·rintro⟨a,b,d⟩
    have q:c ∉ (gt w.fL k).Ay:=fun q=>e (by have:=((I.own k hk c).1 q).2.2;omega)
    grind
   grind
 ·have hx:0≤x∧x<(l'.length:Int):=hx;rw[hN]at hx
  show(gt l' x).F6.all (Arp w.fC (gt l' x).Ay)=true∧Aot (gt l' x).F6=true∧Arq w.fC (Aio w.fP (gt w.fL k).Ay).N7 (gt l' x)=true
  by_cases e:x=k
  ·rw[e,hb];exact⟨rfl,rfl,rfl⟩
  ·rw[hg x hx e];obtain⟨t1,t2,t3⟩:=I.thing x hx;refine⟨t1,t2,?_⟩;rw[L2];exact t3
 ·grind
 ·obtain⟨a,b⟩:=hr x hx;refine⟨a,?_⟩;unfold Ank at b ⊢
  grind
 ·grind [Bbn]
 ·show s∈slL q' ↔ (0≤s∧s<(l'.length:Int))∧(gt l' s).Vi=2;rw[hsi s,hN,I.sli];constructor
  ·rintro(⟨a,b⟩|a)
   ·refine⟨a,?_⟩
    have e:s≠k:=fun e=>by grind [Aqv.st]
    rw[hg s a e];exact b
   ·rw[a,hb];exact⟨hk,rfl⟩
  ·rintro⟨a,b⟩
   by_cases e:s=k
   ·omega
   ·rw[hg s a e]at b;exact .inl ⟨a,b⟩
def A2v (l:List As)(g:Int):List As:=((bif plB l (gt l g).Sn then l.set ((gt l g).Sn - 1).toNat (Bni (gt l ((gt l g).Sn - 1)) 0)else l).set g.toNat (Aqj 2 (gt l g).C9))
def Bdf (l:List As)(x:Az):Az:=Az.mk x.Bm (gt l (x.Ef - 1)).Sn x.Fi x.Ay x.Wz
def A1o (w:C5)(x:Az)(qs:List Az):C5:=
 C5.mk w.fC (Aio w.fP (gt w.fL (x.Ef - 1)).Ay) (A2v w.fL (x.Ef - 1)) (Ago (gt w.fL (x.Ef - 1)) x.Ef::Bdf w.fL x::qs) w.Acy
theorem Bdg (l:List As)(g:Int):(A2v l g).length=l.length:=by
 unfold A2v;grind
theorem Bg3{l:List As}(R:Rg l){g x:Int}(hg:0≤g∧g<(l.length:Int))(hx:0≤x∧x<(l.length:Int))(hne:x≠g)(hp:(gt l g).So=0)(hf: ¬(x+1=(gt l g).fUp∧(gt l x).Ef=g+1)):gt (A2v l g) x=Bi5 (gt l g) (gt l x) g x:=by
 obtain⟨r1,r2,r3,r4⟩:=R.rg g hg
 have hl:=R.len;unfold A2v Bi5;rw[Bdb r3.1 r3.2 hl,hp,if_neg (fun q=>hf q.2),if_neg (by omega: ¬x+1=0)]
 by_cases h:(gt l g).Sn=0
 ·rw[h];simp only[beq_self_eq_true,Bool.not_true,cond_false];rw[Apy hg hx,if_neg hne,if_neg (by omega)];rfl
 ·rw[Aps h];simp only[Bool.not_false,cond_true];rw[Apy (by grind) (by grind),if_neg hne,Apy (by omega) hx]
  by_cases e:x=(gt l g).Sn - 1
  ·rw[if_pos e,if_pos (by omega),←e];rfl
  ·rw[if_neg e,if_neg (by omega)];rfl
theorem Bg4{l:List As}{g:Int}(hg:0≤g∧g<(l.length:Int)):gt (A2v l g) g=Aqj 2 (gt l g).C9:=by
 unfold A2v;rw[Au7]
 grind
structure B0l (w:C5)(t:Int->Lk)(x:Az)(qs:List Az):Prop where
 rc:Bn5 w.fC x
 lv:Lv w.fL.length t (x.Ef - 1)
 or:Oo w.fL.length t (x.Ef - 1)
 pv:(gt w.fL (x.Ef - 1)).So=0
 fr:Ag8 w.fL.length (rem t (x.Ef - 1)) (Ax9 (Ago (gt w.fL (x.Ef - 1)) x.Ef::Bdf w.fL x::qs))
 nf: ∀y,0≤y∧y<(w.fL.length:Int)-> ¬(y+1=(gt w.fL (x.Ef - 1)).fUp∧(gt w.fL y).Ef=x.Ef - 1+1)
theorem Bbr{w:C5}(I:Inv w){t:Int->Lk}(A:AtT w.fL t)(F:Ag8 w.fL.length t (Ax9 w.fQ)){x:Az}{qs:List Az}(hq:w.fQ=x::qs)(hf:x.Ef≠0):B0l w t x qs:=by
 have R:=Awm.1 (A0d I hq).1
 have hx:x∈w.fQ:=by grind
 have hF:=R.first
 have e:x.Ef - 1+1=x.Ef:=by omega
 have F1:Ag8 w.fL.length t ((x.Bm,x.Ef - 1+1)::Ax9 qs):=by rw[e];rw[hq]at F;exact F
 obtain⟨h1,h2,h3⟩:=Bc7 F1 (by omega)
 have hin:=h1.1
 have hor:Oo w.fL.length t (x.Ef - 1):=F.kid.or (Inv.qs hx) (A5u hin)
 have hpv:(gt w.fL (x.Ef - 1)).So=0:=by rw[A _ hin]at h2;exact h2
 refine⟨R,h1,hor,hpv,?_,?_⟩
 ·rw[A _ hin,e]at h3;exact h3
 ·rintro y hy ⟨a,b⟩
  have hup:(t (x.Ef - 1)).up=y+1:=by rw[A _ hin,a];rfl
  have hfi:(t y).fi=x.Ef:=by rw[A _ hy,←e,←b];rfl
  cases hlv:(t y).lv with
  |false=>
   have:=(F.tree.bare y hy.1 hy.2 hlv).2.1;omega
  |true=>
   have hY:Lv w.fL.length t y:=⟨hy,hlv⟩
   have:=(F.tree.link y hY).first (by omega)
   rw[hfi]at this;refine hor.2.2 ⟨?_,?_⟩
   all_goals grind
theorem Bob{w:C5}(I:Inv w){x:Az}{qs:List Az}(hq:w.fQ=x::qs)(hf:x.Ef≠0):Inv (A1o w x qs):=by
 obtain⟨t,A,F⟩:=I.forest
 have X:=Bbr I A F hq hf
 have hk:=X.lv.1
 have hF:=X.rc.first
 have L:=I.live A X.lv;obtain⟨b1,b2,b3,b4,b5,b6⟩:=F2 I.conf
 have hch:chL w.fQ=x.Ay++chL qs:=by rw[hq];rfl
 have hcn:=Bbm I hk;rw[hch]at hcn
 have hsl:slL w.fQ=(if x.Bm=0 then []else [An7 .i64 x.Bm 1])++slL qs:=by rw[hq];rfl
 have hsn:=I.sln;rw[hsl]at hsn
 have e1:slL (Ago (gt w.fL (x.Ef - 1)) x.Ef::Bdf w.fL x::qs)=(x.Ef - 1)::((if x.Bm=0 then []else [An7 .i64 x.Bm 1])++slL qs):=by
  show(if x.Ef=0 then []else [An7 .i64 x.Ef 1])++_=_
  rw[if_neg hf,sb1 (by omega) (by omega)];rfl
 have hns:x.Ef - 1 ∉ slL w.fQ:=fun h=>by
  have:=((I.sli _).1 h).2
  grind [Aqv.st]
 unfold A1o;refine Boa I A F X.lv _ _ (Bdg _ _) (fun y hy hne=>Bg3 I.rg hk hy hne X.pv (X.nf y hy)) (Bg4 hk) X.fr (fun y hy=> ?_) ?_ (fun c=> ?_) ?_ (fun s=> ?_)
 ·rcases Eg.1 hy with e|e
  ·grind [A37,A8r]
  ·rcases Eg.1 e with e|e
   ·rw[e];exact⟨Awm.2 ⟨X.rc.conf,X.rc.slot,L.next,X.rc.ntag,X.rc.tags,X.rc.dist,X.rc.done,X.rc.zero⟩,(A0d I hq).2⟩
   grind [Inv.wrec]
 ·show((gt w.fL (x.Ef - 1)).Ay++(x.Ay++chL qs)).Nodup
  grind
 ·rw[hch]
  show c∈(gt w.fL (x.Ef - 1)).Ay++(x.Ay++chL qs) ↔ _
  grind
 all_goals grind
def AlW (l:List As)(k:Int):Prop:= ∃t,AtT l t∧Al l.length t k
structure A4v (w w':C5):Prop where
 conf:w'.fC=w.fC
 len:w'.fL.length=w.fL.length
 node: ∀k,AlW w.fL k->AlW w'.fL k∧(∃a b c,gt w'.fL k=lnk (gt w.fL k) a b c)∧ ∀n,Ail w'.fL n k=Ail w.fL n k
theorem A8u (n:As):lnk n n.Ef n.Sn n.So=n:=rfl
theorem A4v.refl (w:C5):A4v w w:=⟨rfl,rfl,fun k h=>⟨h,⟨_,_,_,(A8u _).symm⟩,fun _=>rfl⟩⟩
theorem A4v.trans{a b c:C5}(h:A4v a b)(g:A4v b c):A4v a c:=by
 refine⟨g.conf.trans h.conf,g.len.trans h.len,fun k hk=> ?_⟩;obtain⟨h1,⟨x,y,z,h2⟩,h3⟩:=h.node k hk;obtain⟨g1,⟨u,v,w,g2⟩,g3⟩:=g.node k h1;exact⟨g1,⟨u,v,w,by rw[g2,h2];rfl⟩,fun n=>(g3 n).trans (h3 n)⟩
theorem A96{w w':C5}(hc:w'.fC=w.fC)(hl:w'.fL=w.fL):A4v w w':=⟨hc,by rw[hl],fun k h=>by rw[hl];exact⟨h,⟨_,_,_,(A8u _).symm⟩,fun _=>rfl⟩⟩
theorem Boc{N:Int}{t t':Int->Lk}(h: ∀y,Al N t y->Lv N t' y∧(t' y).up=(t y).up∧(Cu N t y->Al N t ((t y).up - 1)->Cu N t' y)){k:Int}(hk:Al N t k):Al N t' k:=by
 induction hk with
 |root a b=>
  obtain⟨h1,h2,h3⟩:=h _ (.root a b);exact .root h1 (by omega)
 |step a b c ih=>
  obtain⟨h1,h2,h3⟩:=h _ (.step a b c);exact .step h1 (h3 b c) (by grind)
theorem Bw8{N:Int}{t:Int->Lk}{g:Int}(hg:Oo N t g){k:Int}(hk:Al N t k):Al N (rem t g) k:=by
 refine Boc (fun y hy=> ?_) hk
 have hne:y≠g:=fun e=>hy.noOr (e ▸ hg);refine⟨Apj.2 ⟨hne,hy.lv⟩,by rw[Akz hne],fun hc hu=>(A1l hne).2 ⟨fun e=> ?_,hc⟩⟩
 simp_all[Al.noOr]
theorem Bw9{N:Int}{t:Int->Lk}{g:Int}(hg:(t g).lv=false){k:Int}(hk:Al N t k):Al N (clr t g) k:=by
 refine Boc (fun y hy=> ?_) hk;exact⟨(Av1 hg).2 hy.lv,by rw[Alc hg hy.lv],fun hc _=>(A6q hg hy.lv).2 hc⟩
theorem Bod{N:Int}{t t':Int->Lk}(h: ∀x,0≤x∧x<N->t' x=t x){k:Int}(hk:Al N t k):Al N t' k:=by
 refine Boc (fun y hy=> ?_) hk
 have hy1:=hy.lv
 simp_all[Cu,Lv]
theorem AlW.al{l:List As}{t:Int->Lk}(A:AtT l t){k:Int}(h:AlW l k):Al l.length t k:=by
 obtain⟨t',A',h'⟩:=h;exact Bod (fun x hx=>by rw[A x hx,A' x hx]) h'
theorem Bdh{w w':C5}{t t':Int->Lk}(R:Rg w.fL)(R':Rg w'.fL)(A:AtT w.fL t)(A':AtT w'.fL t')(F:Ag8 w.fL.length t (Ax9 w.fQ))(hc:w'.fC=w.fC)(hl:w'.fL.length=w.fL.length)
  (hn: ∀k,Al w.fL.length t k->Al w.fL.length t' k∧(t' k).up=(t k).up∧ ∃a b c,gt w'.fL k=lnk (gt w.fL k) a b c):A4v w w':=by
 refine⟨hc,hl,fun k hk=> ?_⟩
 have h:=hk.al A;obtain⟨h1,h2,h3⟩:=hn k h;refine⟨⟨t',A',by grind⟩,h3,fun n=> ?_⟩
 rw[A5v A' R',A5v A R,hl];obtain⟨d,U⟩:=F.uw;exact A13 _ _ fun y hy=>(hn y ((Bgy U n k h).1 y hy).2).2.1
theorem Bri{α:Type}[Inhabited α](a:α)(l:List α){i:Nat}(h:i<l.length):gt (a::l) ((i+1:Nat):Int)=gt l (i:Int):=by
 rfl
theorem Boe{α:Type}[Inhabited α](f:α->Nat): ∀(l l':List α),l'.length=l.length->(∀x:Nat,x<l.length->f (gt l' (x:Int))=f (gt l (x:Int)))->(l'.map f).sum=(l.map f).sum:=by
 intro l
 induction l with
 |nil=>grind
 |cons a l ih=>
  intro l' h hx;cases l' with
  |nil=>simp at h
  |cons b l'=>
   have hl:l'.length=l.length:=by grind
   have h0:=hx 0 (by simp)
   have:=ih l' hl fun x h=>by
    have:=hx (x+1) (by grind)
    assumption
   simp only[Z8,List.sum_cons,this];rw[show f b=f a from h0]
theorem Brj{α:Type}[Inhabited α](f:α->Nat): ∀(l l':List α) (g:Nat),l'.length=l.length->g<l.length->(∀x:Nat,x<l.length->x≠g->f (gt l' (x:Int))=f (gt l (x:Int)))->(l'.map f).sum+f (gt l (g:Int))=(l.map f).sum+f (gt l' (g:Int)):=by
 intro l
 induction l with
 |nil=>grind
 |cons a l ih=>
  intro l' g h hg hx;cases l' with
  |nil=>simp at h
  |cons b l'=>
   have hl:l'.length=l.length:=by grind
   simp only[Z8,List.sum_cons];cases g with
   |zero=>
    have:=Boe f l l' hl fun x h=>by
     have:=hx (x+1) (by grind) (by omega)
     assumption
    rw[this]
    show f b+_+f a=f a+_+f b;omega
   |succ g=>
    have hg:g<l.length:=by grind
    have h0:f b=f a:=hx 0 (by simp) (by omega)
    have:=ih l' g hl hg fun x h hn=>by
     have:=hx (x+1) (by grind) (by omega)
     assumption
    grind [Bri]
theorem A39{f:As->Nat}{l l':List As}{g:Int}(hl:l'.length=l.length)(hg:0≤g∧g<(l.length:Int))(hx: ∀x,0≤x∧x<(l.length:Int)->x≠g->f (gt l' x)=f (gt l x)):(l'.map f).sum+f (gt l g)=(l.map f).sum+f (gt l' g):=by
 have:=Brj f l l' g.toNat hl (by omega) fun x h hn=>hx x ⟨by omega,by omega⟩ (by omega)
 rwa[show((g.toNat:Nat):Int)=g by omega]at this
theorem A4a (c:Ea){st:Int}(h:st≠1)(g:Int):wtN c (Aqj st g)=0:=by unfold wtN Aqj;rw[if_neg h]
structure Bff (w w':C5)(E:Int):Prop where
 inv:Inv w'
 mem: ∀x∈w'.fP.N7,0≤x∧x≤255
 ep: ∀k,0≤k∧k<(w'.fL.length:Int)->EpP E (gt w'.fL k)
 pot:pot w'<pot w
 wt:wt w'≤wt w
 stay:A4v w w'
theorem Bff.good{w w':C5}{E:Int}(S:Bff w w' E){n:Nat}(G:Dy w E n):Dy w' E n:=⟨S.inv,S.mem,S.ep,by have:=S.wt;have:=G.wt;omega⟩
theorem Bof{w:C5}{E:Int}{n:Nat}(G:Dy w E n){x:Az}{qs:List Az}(hq:w.fQ=x::qs)(h0:0<x.Fi.length):Bff w (A5y w x qs) E:=by
 have e:wtQ w.fC (Bn6 x)+1=wtQ w.fC x:=by
  grind [wtQ,Bn6]
 have ep:pot (A5y w x qs)+1=pot w:=by
  unfold pot;rw[hq]
  show(w.fL.map (wtN w.fC)).sum+((Bn6 x::qs).map (wtQ w.fC)).sum+1=_
  grind
 refine⟨Brg G.inv hq h0,G.mem,G.ep,by omega,?_,A96 rfl rfl⟩
 unfold wt
 show pot (A5y w x qs)+(w.Acy++[_]).length≤_
 grind
theorem Bi6{w:C5}{E:Int}{n:Nat}(G:Dy w E n){x:Az}{qs:List Az}(hq:w.fQ=x::qs)(hc:0<x.Ay.length):Bff w (A1n w x qs) E:=by
 have X:=Bfe G.inv hq hc;obtain⟨b1,b2,b3,b4,b5,b6⟩:=F2 X.rc.conf
 have ht:=X.to
 have hd:=X.rc.done
 have e:wtQ w.fC (A3l w x)<wtQ w.fC x:=by
  have hm:w.fC.G8.toNat*x.Ay.length=w.fC.G8.toNat*(x.Ay.length - 1)+w.fC.G8.toNat:=by
   conv=>lhs;rw[show x.Ay.length=x.Ay.length - 1+1 by omega]
   rfl
  grind [A3l,wtQ]
 have ep:pot (A1n w x qs)<pot w:=by
  unfold pot;rw[hq]
  show(w.fL.map (wtN w.fC)).sum+((A3l w x::qs).map (wtQ w.fC)).sum<_
  grind
 refine⟨Bn9 G.inv hq hc,Bn8 G.mem,G.ep,ep,?_,A96 rfl rfl⟩;unfold wt
 show pot (A1n w x qs)+w.Acy.length≤_;omega
theorem Bog{w:C5}(I:Inv w){t:Int->Lk}(A:AtT w.fL t)(F:Ag8 w.fL.length t (Ax9 w.fQ)){x:Az}{qs:List Az}(hq:w.fQ=x::qs)(hf:x.Ef≠0):
  (∀y,0≤y∧y<(w.fL.length:Int)->y≠x.Ef - 1->gt (A2v w.fL (x.Ef - 1)) y=Bi5 (gt w.fL (x.Ef - 1)) (gt w.fL y) (x.Ef - 1) y)∧gt (A2v w.fL (x.Ef - 1)) (x.Ef - 1)=Aqj 2 (gt w.fL (x.Ef - 1)).C9:=by
 have X:=Bbr I A F hq hf;exact⟨fun y hy hne=>Bg3 I.rg X.lv.1 hy hne X.pv (X.nf y hy),Bg4 X.lv.1⟩
theorem Bi7{w:C5}{E:Int}{n:Nat}(G:Dy w E n)(hE:0≤E){x:Az}{qs:List Az}(hq:w.fQ=x::qs)(hf:x.Ef≠0):Bff w (A1o w x qs) E:=by
 obtain⟨t,A,F⟩:=G.inv.forest
 have X:=Bbr G.inv A F hq hf;obtain⟨hg,hb⟩:=Bog G.inv A F hq hf
 have hk:=X.lv.1
 have L:=G.inv.live A X.lv
 have I':=Bob G.inv hq hf
 have hN:=Bdg w.fL (x.Ef - 1)
 have hs:=A39 (f:=wtN w.fC) hN hk fun y hy hne=>by rw[hg y hy hne];rfl
 rw[hb,A4a _ (by decide)]at hs
 have e1:wtN w.fC (gt w.fL (x.Ef - 1))=2+(gt w.fL (x.Ef - 1)).Fi.length+w.fC.G8.toNat*(gt w.fL (x.Ef - 1)).Ay.length:=by unfold wtN;rw[if_pos L.st]
 have e2:wtQ w.fC (Ago (gt w.fL (x.Ef - 1)) x.Ef)=1+(gt w.fL (x.Ef - 1)).Fi.length+w.fC.G8.toNat*(gt w.fL (x.Ef - 1)).Ay.length:=rfl
 have e3:wtQ w.fC (Bdf w.fL x)=wtQ w.fC x:=rfl
 have ep:pot (A1o w x qs)<pot w:=by
  unfold pot;rw[hq]
  show((A2v w.fL (x.Ef - 1)).map (wtN w.fC)).sum+((Ago (gt w.fL (x.Ef - 1)) x.Ef::Bdf w.fL x::qs).map (wtQ w.fC)).sum<_
  grind
 refine⟨I',?_,fun y hy=> ?_,ep,?_,?_⟩
 ·show ∀y∈(Aio w.fP _).N7,_;rw[(A17 G.inv hk).2.1];exact G.mem
 ·have hy:0≤y∧y<((A2v w.fL (x.Ef - 1)).length:Int):=hy;rw[hN]at hy
  show EpP E (gt (A2v w.fL (x.Ef - 1)) y)
  by_cases e:y=x.Ef - 1
  ·rw[e,hb];exact⟨hE,hE,⟨Int.le_refl 0,by show(0:Int)≤1000;omega⟩⟩
  ·rw[hg y hy e]
   have:=G.ep y hy;exact⟨this.ep,this.ue,this.cur⟩
 ·unfold wt
  show pot (A1o w x qs)+w.Acy.length≤_;omega
 ·refine Bdh G.inv.rg I'.rg A (Bg2 A hk hN hg hb) F rfl hN fun y hy=> ?_
  have hne:y≠x.Ef - 1:=fun e=>hy.noOr (e ▸ X.or);exact⟨Bw8 X.or hy,by rw[Akz hne],_,_,_,hg y hy.lv.1 hne⟩
def A6s (n:As)(gens:Int):As:=if gens≤n.C9 then Aqj 3 n.C9 else Aqj 0 (n.C9+1)
def Azs (w:C5)(x:Az):List As:=if x.Bm=0 then w.fL else w.fL.set (x.Bm - 1).toNat (A6s (gt w.fL (x.Bm - 1)) w.fC.G9)
def A5z (w:C5)(x:Az)(qs:List Az):C5:=C5.mk w.fC w.fP (Azs w x) qs w.Acy
theorem Bbs (w:C5)(x:Az):(Azs w x).length=w.fL.length:=by grind [Azs]
structure Brk (w:C5)(x:Az)(qs:List Az):Prop where
 rc:Bn5 w.fC x
 k:x.Bm≠0->0≤x.Bm - 1∧x.Bm - 1<(w.fL.length:Int)
 st:x.Bm≠0->(gt w.fL (x.Bm - 1)).Vi=2
 gn:x.Bm≠0->1≤(gt w.fL (x.Bm - 1)).C9∧(gt w.fL (x.Bm - 1)).C9≤w.fC.G9
 no:x.Bm≠0->x.Bm - 1 ∉ slL qs
theorem Bg5{w:C5}(I:Inv w){x:Az}{qs:List Az}(hq:w.fQ=x::qs):Brk w x qs:=by
 have R:=Awm.1 (A0d I hq).1;obtain⟨b1,b2,b3,b4,b5,b6⟩:=F2 I.conf
 have hx:x∈w.fQ:=by grind
 have hs:=R.slot
 have h1:x.Bm≠0->(0≤x.Bm - 1∧x.Bm - 1<(w.fL.length:Int))∧(gt w.fL (x.Bm - 1)).Vi=2:=fun h=>by
  have:=Bgz hx h;rw[sb1 (by omega) (by omega)]at this
  exact(I.sli _).1 this
 refine⟨R,fun h=>(h1 h).1,fun h=>(h1 h).2,fun h=>(A1m (I.node _ (h1 h).1)).2.2,fun h=> ?_⟩
 have:=I.sln;rw[hq]at this
 have this:((if x.Bm=0 then []else [An7 .i64 x.Bm 1])++slL qs).Nodup:=this
 rw[if_neg h,sb1 (by omega) (by omega)]at this
 grind
theorem Bxa{w:C5}{x:Az}{qs:List Az}(X:Brk w x qs){y:Int}(hy:0≤y∧y<(w.fL.length:Int)):gt (Azs w x) y=if x.Bm≠0∧y=x.Bm - 1 then A6s (gt w.fL y) w.fC.G9 else gt w.fL y:=by
 unfold Azs
 by_cases h:x.Bm=0
 ·grind
 ·rw[if_neg h,Apy (X.k h) hy]
  grind
theorem Bfg{n:As}{gens:Int}(h:1≤n.C9∧n.C9≤gens): ∃st g,A6s n gens=Aqj st g∧(st=0∨st=3)∧1≤g∧g≤gens:=by
 unfold A6s;split
 all_goals grind
theorem Azg{w:C5}{x:Az}{qs:List Az}(X:Brk w x qs){y:Int}(hy:0≤y∧y<(w.fL.length:Int)):(gt (Azs w x) y=gt w.fL y∧ ¬(x.Bm≠0∧y=x.Bm - 1))∨((x.Bm≠0∧y=x.Bm - 1)∧(gt w.fL y).Vi=2∧ ∃st g,gt (Azs w x) y=Aqj st g∧(st=0∨st=3)∧1≤g∧g≤w.fC.G9):=by
 rw[Bxa X hy]
 by_cases h:x.Bm≠0∧y=x.Bm - 1
 ·rw[if_pos h];refine .inr ⟨h,by rw[h.2];exact X.st h.1,?_⟩
  exact Bfg (by rw[h.2];exact X.gn h.1)
 grind
theorem A8v{w:C5}(I:Inv w){t:Int->Lk}(A:AtT w.fL t)(F:Ag8 w.fL.length t (Ax9 w.fQ)){x:Az}{qs:List Az}(hq:w.fQ=x::qs)(hf:x.Ef=0):
  ∃t',AtT (Azs w x) t'∧Ag8 w.fL.length t' (Ax9 qs)∧(∀k,Al w.fL.length t k->Al w.fL.length t' k∧(t' k).up=(t k).up):=by
 have X:=Bg5 I hq
 have F1:Ag8 w.fL.length t ((x.Bm,0)::Ax9 qs):=by rw[hq]at F;rw[←hf];exact F
 by_cases h:x.Bm=0
 ·refine⟨t,?_,A8n F1,fun k hk=>⟨hk,rfl⟩⟩
  simp_all[Azs]
 ·have hk:=X.k h
  have hlv:(t (x.Bm - 1)).lv=false:=by rw[A _ hk];show((gt w.fL (x.Bm - 1)).Vi==1)=false;rw[X.st h];rfl
  refine⟨clr t (x.Bm - 1),fun y hy=> ?_,Bbi F1 h fun e he e2=> ?_,fun k hk=>⟨Bw9 hlv hk,by rw[Alc hlv hk.lv]⟩⟩
  ·rw[Bbs]at hy;unfold clr;rcases Azg X hy with ⟨e,f⟩|⟨f,_,st,g,e,hs,_⟩
   ·rw[if_neg (fun r=>f ⟨h,r⟩),e,A y hy]
   ·rw[if_pos f.2,e];rcases hs with s|s<;>subst s<;>rfl
  ·obtain⟨z,hz,e3⟩:=Ey.1 he
   have e3:z.Bm=e.1:=by grind
   refine X.no h (List.mem_flatMap.2 ⟨z,hz,?_⟩)
   have hs:=X.rc.slot;obtain⟨b1,b2,b3,b4,b5,b6⟩:=F2 I.conf;rw[e3,e2,if_neg h,sb1 (by omega) (by omega)];simp
theorem Brl{w:C5}(I:Inv w){x:Az}{qs:List Az}(hq:w.fQ=x::qs)(hc:x.Ay=[])(hf:x.Ef=0):Inv (A5z w x qs):=by
 obtain⟨t,A,F⟩:=I.forest
 have X:=Bg5 I hq;obtain⟨t',A',F',_⟩:=A8v I A F hq hf
 have hN:=Bbs w x
 have hch:chL w.fQ=chL qs:=by rw[hq];show x.Ay++_=_;rw[hc];rfl
 have hsl:slL w.fQ=(if x.Bm=0 then []else [An7 .i64 x.Bm 1])++slL qs:=by rw[hq];rfl
 have hsn:=I.sln;rw[hsl]at hsn
 refine⟨I.pool,by show((Azs w x).length:Int)=_;rw[hN];exact I.len,fun y hy=> ?_,fun y hy c=> ?_,fun y hy=> ?_,⟨t',A',by show Ag8 ((Azs w x).length:Int) t' _;rw[hN];exact F'⟩,fun y hy=>I.wrec y (by rw[hq];exact Z56 _ hy),by show(chL qs).Nodup;grind [Inv.chn],fun c=>by show c∈chL qs ↔ _;rw[←hch];exact I.chi c,?_,fun s=> ?_,I.log⟩
 ·have hy:0≤y∧y<((Azs w x).length:Int):=hy;rw[hN]at hy
  show Ap6 w.fC (gt (Azs w x) y)=true
  grind [Azg,Inv.node,A4p,Inv.conf]
 ·have hy:0≤y∧y<((Azs w x).length:Int):=hy;rw[hN]at hy
  show c∈(gt (Azs w x) y).Ay ↔ _;rcases Azg X hy with ⟨e,_⟩|⟨_,h2,st,g,e,hs,hg⟩
  ·rw[e];exact I.own y hy c
  ·rw[e]
   have:=I.own y hy c;rw[Awk (I.node y hy) (by omega)]at this
   exact this
 ·have hy:0≤y∧y<((Azs w x).length:Int):=hy;rw[hN]at hy
  show(gt (Azs w x) y).F6.all (Arp w.fC (gt (Azs w x) y).Ay)=true∧Aot (gt (Azs w x) y).F6=true∧Arq w.fC w.fP.N7 (gt (Azs w x) y)=true;rcases Azg X hy with ⟨e,_⟩|⟨_,h2,st,g,e,hs,hg⟩
  ·grind [Inv.thing]
  ·rw[e];exact⟨rfl,rfl,rfl⟩
 ·exact(Ang.1 hsn).2.1
 ·show s∈slL qs ↔ (0≤s∧s<((Azs w x).length:Int))∧(gt (Azs w x) s).Vi=2
  have hi:=I.sli s;rw[hsl,Mj]at hi
  have hss:=X.rc.slot;obtain⟨b1,b2,b3,b4,b5,b6⟩:=F2 I.conf;rw[hN];constructor
  ·intro h;obtain⟨a,b⟩:=hi.1 (.inr h);refine⟨a,?_⟩;rcases Azg X a with ⟨e,_⟩|⟨⟨h1,h2⟩,_⟩
   ·grind
   ·rw[h2]at h;grind [Brk.no]
  ·rintro⟨a,b⟩;rcases Azg X a with ⟨e,f⟩|⟨_,_,st,g,e,hs,_⟩
   ·rw[e]at b;rcases hi.2 ⟨a,b⟩with h|h
    ·by_cases q:x.Bm=0
     ·grind
     ·rw[if_neg q,sb1 (by omega) (by omega),Pz]at h
      omega
    ·exact h
   ·rw[e]at b
    have b:st=2:=b;omega
theorem Boh{w:C5}{E:Int}{n:Nat}(G:Dy w E n)(hE:0≤E){x:Az}{qs:List Az}(hq:w.fQ=x::qs)(hc:x.Ay=[])(hf:x.Ef=0):Bff w (A5z w x qs) E:=by
 obtain⟨t,A,F⟩:=G.inv.forest
 have X:=Bg5 G.inv hq;obtain⟨t',A',F',hal⟩:=A8v G.inv A F hq hf
 have I':=Brl G.inv hq hc hf
 have hN:=Bbs w x
 have hs:((Azs w x).map (wtN w.fC)).sum=(w.fL.map (wtN w.fC)).sum:=Boe _ _ _ hN fun y hy=>by
  rcases Azg X (y:=(y:Int)) ⟨by omega,by omega⟩with ⟨e,_⟩|⟨_,h2,st,g,e,hs,hg⟩
  ·rw[e]
  ·rw[e,A4a _ (by omega)];simp_all[wtN]
 have ep:pot (A5z w x qs)<pot w:=by
  have h1:1≤wtQ w.fC x:=by grind [wtQ]
  unfold pot;rw[hq]
  show((Azs w x).map (wtN w.fC)).sum+(qs.map (wtQ w.fC)).sum<_
  grind
 refine⟨I',G.mem,fun y hy=> ?_,ep,?_,?_⟩
 ·have hy:0≤y∧y<((Azs w x).length:Int):=hy;rw[hN]at hy
  show EpP E (gt (Azs w x) y);rcases Azg X hy with ⟨e,_⟩|⟨_,h2,st,g,e,hs,hg⟩
  ·grind [Dy.ep]
  ·rw[e];exact⟨hE,hE,⟨Int.le_refl 0,by show(0:Int)≤1000;omega⟩⟩
 ·unfold wt
  show pot (A5z w x qs)+w.Acy.length≤_;omega
 ·refine Bdh G.inv.rg I'.rg A A' F rfl hN fun y hy=> ?_;refine⟨(hal y hy).1,(hal y hy).2,?_⟩;rcases Azg X hy.lv.1 with ⟨e,_⟩|⟨_,h2,_⟩
  ·exact⟨_,_,_,e⟩
  ·have:=((Ax0 A).1 hy.lv).2;omega
section
variable {K:Nat} (hK:281474976710656≤K)
include hK
theorem Boi (w:C5)(hw:Azk w.fP)(l:List Int)(hl:l.length≤140737488355327):Aq5 K w l=some (C5.mk w.fC (Aio w.fP l) w.fL w.fQ w.Acy):=by
 unfold Aq5;refine Ba5 hK l (by omega) A1r w.fP Azk hw (fun s x h=>(A7p h x).1) _ (fun n s i=>Ai0 K l n i w.fC.Ay w.fC.G8 w.fC.E6 w.fC.Gu w.fC.E7 w.fC.G9 s.N7 s.Vi s.N8 w.fL w.fQ w.Acy) (fun n s i h hs=> ?_) (fun n=> ?_)
 ·simp only[Ai0];rw[Ad7 h,cond_true,if_pos (Aiy h),V2 h,show Dn.mk s.N7 s.Vi s.N8=s from rfl,A8g K hs,Z0,Ad5 (by omega)]
 ·show Ai0 K l (n+1) _ _ _ _ _ _ _ _ _ _ _ _ _=_;rw[Ai0,Ars (Z9 _),cond_false];rfl
theorem Brm{w:C5}(I:Inv w)(hw:Aid w)(hQ:w.fQ.length≤1000000000){x:Az}{qs:List Az}(hq:w.fQ=x::qs)(hf:x.Ef≠0):Ayf K w=some (A1o w x qs):=by
 have hm:=V1;obtain⟨t,A,F⟩:=I.forest
 have X:=Bbr I A F hq hf
 have hk:=X.lv.1
 have hF:=X.rc.first
 have L:=I.live A X.lv;obtain⟨b1,b2,b3,b4,b5,b6⟩:=F2 I.conf
 have hlen:=I.len
 have hn:=hw.l.1 _ (Akq hk.1 hk.2)
 have e1:An7 .i64 x.Ef 1=x.Ef - 1:=sb1 (by omega) (by omega)
 have e2:An6 .i64 (x.Ef - 1) 1=x.Ef:=by grind [ad1]
 have hnx:=L.next
 have hlq:(w.fQ).length=qs.length+1:=by grind
 have hj: ∀(l:List As) (q:List Az),l.length=w.fL.length->q.length=w.fQ.length->As0 K (gt w.fL (x.Ef - 1)) (x.Ef - 1) w.fC.Ay w.fC.G8 w.fC.E6 w.fC.Gu w.fC.E7 w.fC.G9 w.fP.N7 w.fP.Vi w.fP.N8 l q w.Acy=some (C5.mk w.fC (Aio w.fP (gt w.fL (x.Ef - 1)).Ay) (l.set (x.Ef - 1).toNat (Aqj 2 (gt w.fL (x.Ef - 1)).C9)) (Ago (gt w.fL (x.Ef - 1)) x.Ef::q) w.Acy):=by
  intro l q hl1 hq1
  have h8:=hn.tags.2
  have h9:=hn.chunks.2;unfold As0;rw[Boi hK (C5.mk w.fC w.fP l q w.Acy) hw.p _ (Ax8 hK hn.chunks),Z0];unfold Az9 A0i;simp only[Z0,Z38,List.singleton_append,Z28];simp only[hl1,if_pos hk,e2,Z0]
  iterate 4 (try rw[if_pos ⟨by omega,by omega⟩])
  try simp only[Z0]
  iterate 4 (try rw[if_pos ⟨by omega,by omega⟩])
  rfl
 unfold Ayf;rw[hq,gt0,if_pos ⟨by omega,by simp⟩,e1]
 simp only[if_pos hk];rw[Atv K hn,Z0,if_pos ⟨by omega,by simp⟩,Axx,Z0]
 unfold A1o A2v
 have hp:plB w.fL (gt w.fL (x.Ef - 1)).Sn=decide (1≤(gt w.fL (x.Ef - 1)).Sn∧(gt w.fL (x.Ef - 1)).Sn≤(w.fL.length:Int)):=by
  rw[Bool.eq_iff_iff,A5w (by omega) (by omega),decide_eq_true_iff]
  omega
 rw[hp]
 by_cases q:1≤(gt w.fL (x.Ef - 1)).Sn∧(gt w.fL (x.Ef - 1)).Sn≤(w.fL.length:Int)
 ·rw[decide_eq_true q];simp only[cond_true];rw[sb1 (by omega) (by omega),if_pos ⟨by omega,by omega⟩]
  unfold Aqk;exact hj _ _ (by grind) (by grind)
 ·rw[decide_eq_false q];simp only[cond_false];exact hj _ _ rfl (by grind)
theorem Boj{l:List As}(hl:Ad6 l){k gens:Int}(hk:0≤k∧k<(l.length:Int))(hg:0≤(gt l k).C9∧(gt l k).C9≤1000):A0t K l k gens=some (l.set k.toNat (A6s (gt l k) gens)):=by
 unfold A0t Ak0 Ayg A6s;rw[A26 hK hl,Z0,A0b K (Acz hl),decide_eq_true hk];simp only[Z0,Bool.not_true,cond_false,if_pos hk];rw[ad1 (by omega) (by omega)]
 by_cases q:gens≤(gt l k).C9
 ·rw[decide_eq_true (show(gt l k).C9≥gens from q),if_pos q];rfl
 ·rw[decide_eq_false (show ¬(gt l k).C9≥gens from q),if_neg q];rfl
theorem Bg6{w:C5}{E:Int}{n:Nat}(G:Dy w E n)(hE:0≤E∧E≤1000000000)(hn:n≤1000000000)(h0:0<w.fQ.length): ∃w',Ave K w=some w'∧Bff w w' E:=by
 have hm:=V1
 have W:=G.ww hE.2 hn
 have h1:=Bre w
 have h2:=Bfd w
 have h3:=G.wt;cases hq:w.fQ with
 |nil=>grind
 |cons x qs=>
 have R:=Awm.1 (A0d G.inv hq).1
 have hlq:(w.fQ).length=qs.length+1:=by grind
 unfold Ave A2b;rw[hq,gt0,if_pos ⟨by omega,by simp⟩]
 by_cases c1:0<x.Fi.length
 ·refine⟨_,?_,Bof G hq c1⟩;rw[decide_eq_true (show(x.Fi.length:Int)>0 by omega)]
  simp only[cond_true,Z0,beq_self_eq_true]
  grind [Bw7,Bn5.ntag]
 ·rw[decide_eq_false (show ¬(x.Fi.length:Int)>0 by omega)]
  by_cases c2:0<x.Ay.length
  ·refine⟨_,?_,Bi6 G hq c2⟩;rw[decide_eq_true (show(x.Ay.length:Int)>0 by omega)]
   simp only[cond_true,cond_false,Z0];rw[show((2:Int)==1)=false from rfl,show((2:Int)==2)=true from rfl]
   simp only[cond_true,cond_false];rw[Brh hK G.inv W.p hq c2];rfl
  ·rw[decide_eq_false (show ¬(x.Ay.length:Int)>0 by omega)]
   have hc:x.Ay=[]:=Y9.1 (by omega)
   by_cases c3:x.Ef=0
   ·refine⟨_,?_,Boh G hE.1 hq hc c3⟩
    have X:=Bg5 G.inv hq
    have hs:=R.slot;obtain⟨b1,b2,b3,b4,b5,b6⟩:=F2 G.inv.conf
    have et:((x::qs).drop (1:Int).toNat).take (((x::qs).length:Int) - 1).toNat=qs:=by
     simp_all
    rw[c3];simp only[bne_self_eq_false,cond_false,Z0];rw[show((4:Int)==1)=false from rfl,show((4:Int)==2)=false from rfl,show((4:Int)==3)=false from rfl]
    simp only[cond_false]
    have hl1:(((x::qs).length:Nat):Int)=(qs.length:Int)+1:=by simp
    have hj: ∀l:List As,As1 K w.fC.Ay w.fC.G8 w.fC.E6 w.fC.Gu w.fC.E7 w.fC.G9 w.fP.N7 w.fP.Vi w.fP.N8 l (x::qs) w.Acy=some (C5.mk w.fC w.fP l qs w.Acy):=by
     intro l;unfold As1;rw[et,Z38,hl1,if_pos (show(0:Int)≤1∧(1:Int)≤(qs.length:Int)+1∧(qs.length:Int)+1≤(qs.length:Int)+1 from⟨by omega,by omega,by omega⟩),if_pos (show qs.length*72≤140737488355328∧qs.length≤maxLen from⟨by omega,by omega⟩)]
    rw[if_pos ⟨by omega,by simp⟩]
    unfold A5z Azs
    by_cases q:x.Bm=0
    ·grind
    ·have hgn:=X.gn q;rw[A0m q,if_neg q,cond_true,if_pos ⟨by omega,by simp⟩,sb1 (by omega) (by omega),Boj hK W.l (X.k q) ⟨by omega,by omega⟩,Z0]
     exact hj _
   ·refine⟨_,?_,Bi7 G hE.1 hq c3⟩;rw[A0m c3];simp only[cond_true,cond_false,Z0];rw[show((3:Int)==1)=false from rfl,show((3:Int)==2)=false from rfl,show((3:Int)==3)=true from rfl]
    simp only[cond_true,cond_false];rw[Brm hK G.inv W (by omega) hq c3];rfl
structure Steps (w w':C5)(E:Int)(n:Nat):Prop where
 good:Dy w' E n
 stay:A4v w w'
theorem Bi8{E:Int}{n:Nat}(hE:0≤E∧E≤1000000000)(hn:n≤1000000000)(m:Int): ∀(f:Nat) (i:Int) (w:C5),Dy w E n->pot w<f-> ∃r w',As4 K m f i w.fC.Ay w.fC.G8 w.fC.E6 w.fC.Gu w.fC.E7 w.fC.G9 w.fP.N7 w.fP.Vi w.fP.N8 w.fL w.fQ w.Acy=some (r,w')∧Steps w w' E n:=by
 intro f
 induction f with
 |zero=>omega
 |succ f ih=>
  intro i w G hf;rw[As4];cases decide (i<m)with
  |false=>exact⟨m,w,rfl,G,A4v.refl w⟩
  |true=>
  simp only[cond_true]
  by_cases q:w.fQ.length=0
  ·rw[q];exact⟨i,w,rfl,G,A4v.refl w⟩
  ·obtain⟨w1,e1,S⟩:=Bg6 hK G hE hn (by omega)
   have hp:=S.pot;obtain⟨r,w2,e2,S2⟩:=ih (An6 .i64 i 1) w1 (S.good G) (by omega)
   refine⟨r,w2,?_,S2.good,S.stay.trans S2.stay⟩
   simp_all[Aps]
theorem A7w{E:Int}{n:Nat}(hE:0≤E∧E≤1000000000)(hn:n≤1000000000)(m:Int){w:C5}(G:Dy w E n): ∃r w',Avg K w m=some (r,w')∧Steps w w' E n:=by
 have:=G.wt;unfold wt at this;exact Bi8 hK hE hn m K 0 w G (by omega)
def A18 (p:Dn)(at_ n:Int):Bool:=decide (0≤at_)&&(decide (1≤n)&&(decide (at_+n≤(p.Vi.length:Int))&&(List.range n.toNat).all (fun k=>gt p.Vi (at_+(k:Int))==0)))
omit hK in
theorem Ax6{p:Dn}{a n:Int}:A18 p a n=true ↔ 0≤a∧1≤n∧a+n≤(p.Vi.length:Int)∧ ∀c,a≤c∧c<a+n->gt p.Vi c=0:=by
 unfold A18;simp only[Z4,decide_eq_true_eq,Z1,List.mem_range,beq_iff_eq];refine and_congr_right fun h1=>and_congr_right fun h2=>and_congr_right fun h3=> ?_;constructor
 ·intro h c hc
  have:=h (c - a).toNat (by omega)
  grind
 grind
theorem A97{p:Dn}(hp:p.Vi.length≤1000000000){a n:Int}(ha: -1000000000≤a∧a≤1000000000)(hn: -1000000000≤n∧n≤1000000000):Aws K p a n=some (A18 p a n):=by
 unfold Aws A18
 by_cases h1:a<0
 ·grind
 rw[decide_eq_false h1,decide_eq_true (by omega:0≤a)]
 by_cases h2:n<1
 ·grind
 rw[decide_eq_false h2,decide_eq_true (by omega:1≤n)]
 simp only[cond_false,Z30]
 have es:An7 .i64 (p.Vi.length:Int) a=(p.Vi.length:Int) - a:=by grind [An7,K0]
 rw[es]
 by_cases h3:a+n≤(p.Vi.length:Int)
 ·rw[decide_eq_false (by omega),decide_eq_false (by omega),decide_eq_true h3]
  simp only[cond_false,Z30]
  have ea:An6 .i64 a n=a+n:=by grind [An6,K0]
  have:=Apw hK n.toNat (by omega) (fun k=>gt p.Vi (a+(k:Int))==0) (some true) (fun f i=>Ary K a n f (a+i) p.N7 p.Vi p.N8) (fun f i h=> ?_) (fun f=> ?_)
  ·grind
  ·simp only[Ary]
   have e1:An6 .i64 (a+(i:Int)) 1=a+((i+1:Nat):Int):=by grind [ad1]
   grind
  grind [Ary]
 grind
theorem A7d{p:Dn}(hp:p.Vi.length≤1000000000){n:Int}(hn: -1000000000≤n∧n≤1000000000): ∃r,Aw6 K p n=some r∧(r= -1∨A18 p r n=true):=by
 have key: ∀(f i:Nat),i≤p.Vi.length->p.Vi.length - i<f-> ∃r,Ar9 K n f (i:Int) p.N7 p.Vi p.N8=some r∧(r= -1∨A18 p r n=true):=by
  intro f
  induction f with
  |zero=>omega
  |succ f ih=>
   intro i hi hf;rw[Ar9];rcases Hn i p.Vi.length with h|h
   ·rw[Ad7 h,cond_true,show Dn.mk p.N7 p.Vi p.N8=p from rfl,A97 hK hp ⟨by omega,by omega⟩ hn,Z0]
    cases e:A18 p (i:Int) n with
    |true=>grind
    |false=>
     grind [Ad5]
   grind
 exact key K 0 (Z21 _) (by omega)
theorem Bok{E:Int}{n:Nat}(hE:0≤E∧E≤1000000000)(hn:n≤1000000000)(a:Int){run:Int}(hr: -1000000000≤run∧run≤1000000000): ∀(f:Nat) (i:Int) (w:C5),Dy w E n->pot w<f-> ∃r w',Aql K a run f i w.fC.Ay w.fC.G8 w.fC.E6 w.fC.Gu w.fC.E7 w.fC.G9 w.fP.N7 w.fP.Vi w.fP.N8 w.fL w.fQ w.Acy=some (r,w')∧Steps w w' E n:=by
 intro f
 induction f with
 |zero=>omega
 |succ f ih=>
  intro i w G hf
  have W:=G.ww hE.2 hn
  have hst:=(Air.1 G.inv.pool).st;obtain⟨b1,b2,b3,b4,b5,b6⟩:=F2 G.inv.conf
  have hlen:=G.inv.len;rw[Aql]
  have hw:C5.mk (Ea.mk w.fC.Ay w.fC.G8 w.fC.E6 w.fC.Gu w.fC.E7 w.fC.G9) (Dn.mk w.fP.N7 w.fP.Vi w.fP.N8) w.fL w.fQ w.Acy=w:=rfl
  have hp:Dn.mk w.fP.N7 w.fP.Vi w.fP.N8=w.fP:=rfl;obtain⟨cn,hcn⟩: ∃cn,Aqf K w.fL 0=some cn:=⟨_,A3k hK w.fL 0 (by omega)⟩
  rw[hw,hp,hcn]
  by_cases q:0<w.fQ.length
  ·obtain⟨w1,e1,S⟩:=Bg6 hK G hE hn q
   have hpot:=S.pot;obtain⟨r,w2,e2,S2⟩:=ih (An6 .i64 i 1) w1 (S.good G) (by omega)
   have hgo: ∃r w',At7 K i w.fC.Ay w.fC.G8 w.fC.E6 w.fC.Gu w.fC.E7 w.fC.G9 w.fP.N7 w.fP.Vi w.fP.N8 w.fL w.fQ w.Acy (Aql K a run f)=some (r,w')∧Steps w w' E n:=by
    refine⟨r,w2,?_,S2.good,S.stay.trans S2.stay⟩
    simp_all[At7]
   have hno: ∃r w',(some (i,w):Option (Int×C5))=some (r,w')∧Steps w w' E n:=⟨_,_,rfl,G,A4v.refl w⟩;obtain⟨r5,e5,_⟩:=A7d hK (p:=w.fP) (by omega) hr
   grind
  ·rw[decide_eq_false (show ¬(w.fQ.length:Int)>0 by omega)]
   exact⟨_,_,rfl,G,A4v.refl w⟩
theorem Bfh{E:Int}{n:Nat}(hE:0≤E∧E≤1000000000)(hn:n≤1000000000)(a:Int){run:Int}(hr: -1000000000≤run∧run≤1000000000){w:C5}(G:Dy w E n): ∃r w',Awv K w a run=some (r,w')∧Steps w w' E n:=by
 have:=G.wt;unfold wt at this;exact Bok hK hE hn a hr K 0 w G (by omega)
end
section
variable {K:Nat} (hK:281474976710656≤K)
include hK
theorem Bbt{l:List As}(hl:l.length≤1000000000): ∃r,Azn K l=some r∧(r= -1∨(0≤r∧r<(l.length:Int))∧(gt l r).Vi=0):=by
 have key: ∀(f i:Nat),i≤l.length->l.length - i<f-> ∃r,Arh K l f (i:Int)=some r∧(r= -1∨(0≤r∧r<(l.length:Int))∧(gt l r).Vi=0):=by
  intro f
  induction f with
  |zero=>omega
  |succ f ih=>
   intro i hi hf;rw[Arh];rcases Hn i l.length with h|h
   ·rw[Ad7 h,cond_true,if_pos (Aiy h),Ad5 (by omega)]
    grind
   grind
 exact key K 0 (Z21 _) (by omega)
theorem A50{p:Dn}(hp:p.Vi.length≤1000000000): ∃r,Av4 K p=some r∧(r= -1∨A18 p r 1=true):=by
 have key: ∀(f i:Nat),i≤p.Vi.length->p.Vi.length - i<f-> ∃r,Ari K f (i:Int) p.N7 p.Vi p.N8=some r∧(r= -1∨A18 p r 1=true):=by
  intro f
  induction f with
  |zero=>omega
  |succ f ih=>
   intro i hi hf;rw[Ari];rcases Hn i p.Vi.length with h|h
   ·rw[Ad7 h,cond_true,if_pos (Aiy h),Ad5 (by omega)]
    by_cases e:gt p.Vi (i:Int)=0
    ·rw[e];refine⟨_,rfl,.inr (Ax6.2 ⟨by omega,by omega,by omega,fun c hc=> ?_⟩)⟩
     grind
    grind
   grind
 exact key K 0 (Z21 _) (by omega)
structure Bi9 (p p':Dn)(a n k:Int):Prop where
 mem:p'.N7=p.N7
 st:p'.Vi.length=p.Vi.length
 own:p'.N8.length=p.N8.length
 one: ∀c,0≤c∧c<(p.Vi.length:Int)->gt p'.Vi c=(if a≤c∧c<a+n then 1 else gt p.Vi c)∧gt p'.N8 c=(if a≤c∧c<a+n then k else gt p.N8 c)
theorem A5e{p:Dn}(hw:Azk p)(hp:p.Vi.length≤1000000)(ho:p.N8.length=p.Vi.length){a n k:Int}(hf:A18 p a n=true): ∃p',Arj K p a n k=some p'∧Bi9 p p' a n k:=by
 obtain⟨h1,h2,h3,h4⟩:=Ax6.1 hf;unfold Arj;rw[A11 K hw,A97 hK (by omega) ⟨by omega,by omega⟩ ⟨by omega,by omega⟩,hf,ho]
 simp only[Z0,cond_true,bne_self_eq_false,cond_false]
 have ea:An6 .i64 a n=a+n:=by grind [An6,K0]
 have key: ∀(f i:Nat) (q:Dn),(i:Int)≤n->n.toNat - i<f->Bi9 p q a i k-> ∃p',As2 K a n k f (a+(i:Int)) q (Dn.mk [] [] [])=some p'∧Bi9 p p' a n k:=by
  intro f
  induction f with
  |zero=>omega
  |succ f ih=>
   intro i q hi hf T;rw[As2,ea]
   by_cases h:(i:Int)=n
   ·grind
   ·have e1:An6 .i64 (a+(i:Int)) 1=a+((i+1:Nat):Int):=by grind [ad1]
    have hs:=T.st
    have hso:=T.own;rw[decide_eq_true (by omega),cond_true,if_pos ⟨by omega,by omega⟩,if_pos ⟨by omega,by omega⟩,e1]
    refine ih (i+1) _ (by omega) (by omega) ⟨T.mem,by grind,by grind,fun c hc=> ?_⟩
    obtain⟨t1,t2⟩:=T.one c hc;simp only;rw[A2t (by omega) (by omega),A2t (by omega) (by omega),t1,t2]
    omega
 have:=key K 0 p (by omega) (by omega) ⟨rfl,rfl,rfl,fun c hc=>by omega⟩
 grind
end
theorem Bg7{w:C5}(I:Inv w){k:Int}(hk:0≤k∧k<(w.fL.length:Int))(p':Dn)(l':List As)(t':Int->Lk)(hN:l'.length=w.fL.length)
  (ho: ∀x,0≤x∧x<(w.fL.length:Int)->x≠k-> ∃a b c,gt l' x=lnk (gt w.fL x) a b c∧(0≤a∧a≤w.fC.E6)∧(0≤b∧b≤w.fC.E6)∧(0≤c∧c≤w.fC.E6))
  (hs2:(gt w.fL k).Vi≠2) (L:Aqv w.fC (gt l' k)) (A':AtT l' t') (F':Ag8 w.fL.length t' (Ax9 w.fQ))
  (P':A16 w.fC p') (hm:p'.N7=w.fP.N7)
  (hone: ∀c,0≤c∧c<w.fC.Ay->(gt p'.Vi c=2 ↔ gt w.fP.Vi c=2)∧(gt p'.Vi c=1∧gt p'.N8 c=k ↔ c∈(gt l' k).Ay)∧ ∀x,x≠k->(gt p'.Vi c=1∧gt p'.N8 c=x ↔ gt w.fP.Vi c=1∧gt w.fP.N8 c=x))
  (hth:(gt l' k).F6.all (Arp w.fC (gt l' k).Ay)=true∧Aot (gt l' k).F6=true∧Arq w.fC w.fP.N7 (gt l' k)=true):
  Inv (C5.mk w.fC p' l' w.fQ w.Acy):=by
 refine⟨Air.2 P',by simp_all[Inv.len],fun x hx=> ?_,fun x hx c=> ?_,fun x hx=> ?_,⟨t',A',by grind⟩,fun x hx=> ?_,I.chn,fun c=> ?_,I.sln,fun s=> ?_,I.log⟩
 ·have hx:0≤x∧x<(l'.length:Int):=hx;rw[hN]at hx
  show Ap6 w.fC (gt l' x)=true
  by_cases e:x=k
  ·rw[e];exact(Ag9.2 L).1
  ·obtain⟨a,b,c,h1,h2,h3,h4⟩:=ho x hx e;rw[h1]
   by_cases hs:(gt w.fL x).Vi=1
   ·exact(Ag9.2 (A8q (Ag9.1 ⟨I.node x hx,hs⟩) h2 h3 h4)).1
   ·have X:=Awk (I.node x hx) hs
    have B:=F'.tree.bare x hx.1 hx.2 (by rw[A' x (by omega),h1];grind [A3c,lnk])
    rw[A' x (by omega),h1]at B
    obtain⟨_,B2,B3,B4⟩:=B
    have q1:a=0:=B2
    have q2:b=0:=B3
    have q3:c=0:=B4
    have this:lnk (gt w.fL x) 0 0 0=gt w.fL x:=by rw[X];rfl
    grind [Inv.node]
 ·have hx:0≤x∧x<(l'.length:Int):=hx;rw[hN]at hx
  show c∈(gt l' x).Ay ↔ (0≤c∧c<w.fC.Ay)∧gt p'.Vi c=1∧gt p'.N8 c=x
  by_cases e:x=k
  ·rw[e];constructor
   ·intro h
    have hin:=Axu L.dist c h
    grind
   grind
  ·obtain⟨a,b,d,h1,_⟩:=ho x hx e;rw[h1]
   show c∈(gt w.fL x).Ay ↔ _;rw[I.own x hx c]
   simp_all
 ·have hx:0≤x∧x<(l'.length:Int):=hx;rw[hN]at hx
  show(gt l' x).F6.all (Arp w.fC (gt l' x).Ay)=true∧Aot (gt l' x).F6=true∧Arq w.fC p'.N7 (gt l' x)=true;rw[hm]
  by_cases e:x=k
  ·grind
  ·obtain⟨a,b,d,h1,_⟩:=ho x hx e;rw[h1];exact I.thing x hx
 ·obtain⟨a,b⟩:=I.wrec x hx
  simp_all[Ank]
 ·show c∈chL w.fQ ↔ (0≤c∧c<w.fC.Ay)∧gt p'.Vi c=2;rw[I.chi c]
  grind
 ·show s∈slL w.fQ ↔ (0≤s∧s<(l'.length:Int))∧(gt l' s).Vi=2;rw[I.sli s,hN];refine and_congr_right fun h=> ?_
  by_cases e:s=k
  ·grind [Aqv.st]
  ·obtain⟨a,b,d,h1,_⟩:=ho s h e;rw[h1];rfl
theorem A98{w:C5}(I:Inv w){p':Dn}{a n k:Int}(hk:0≤k∧k<(w.fL.length:Int))(hf:A18 w.fP a n=true)(T:Bi9 w.fP p' a n k):
  A16 w.fC p'∧ ∀c,0≤c∧c<w.fC.Ay->(gt p'.Vi c=2 ↔ gt w.fP.Vi c=2)∧(gt p'.Vi c=1∧gt p'.N8 c=k ↔ c∈(gt w.fL k).Ay∨a≤c∧c<a+n)∧ ∀x,x≠k->(gt p'.Vi c=1∧gt p'.N8 c=x ↔ gt w.fP.Vi c=1∧gt w.fP.N8 c=x):=by
 have P:=Air.1 I.pool;obtain⟨f1,f2,f3,f4⟩:=Ax6.1 hf
 have hlen:=I.len;refine⟨⟨P.conf,by rw[T.mem];exact P.mem,by rw[T.st];exact P.st,by rw[T.own];exact P.own,fun c hc=> ?_⟩,fun c hc=> ?_⟩
 ·obtain⟨t1,t2⟩:=T.one c (by rw[P.st];exact hc)
  obtain⟨p1,p2,p3,p4⟩:=P.one c hc;rw[t1,t2,T.mem]
  grind
 ·obtain⟨t1,t2⟩:=T.one c (by rw[P.st];exact hc)
  rw[t1,t2]
  have ho:=I.own k hk c
  grind
structure Bxb (l l':List As)(p k:Int):Prop where
 len:l'.length=l.length
 at_:gt l' k=As.mk (gt l k).Vi (gt l k).C9 (gt l k).Sl (p+1) (gt l p).Sl (gt l k).Ef (gt l p).Ef 0 (gt l k).Ay (gt l k).Acx (gt l k).Sq (gt l k).F6 (gt l k).Fi
 ot: ∀x,0≤x∧x<(l.length:Int)->x≠k->gt l' x=lnk (gt l x) (if x=p then k+1 else(gt l x).Ef) (gt l x).Sn (if x+1=(gt l p).Ef then k+1 else(gt l x).So)
section
variable {K:Nat} (hK:281474976710656≤K)
include hK
theorem Brn{l:List As}(hl:Ad6 l)(h8:l.length≤1000){p k:Int}(hp:0≤p∧p<(l.length:Int))(hk:0≤k∧k<(l.length:Int))(hne:p≠k)(hf:0≤(gt l p).Ef∧(gt l p).Ef≤(l.length:Int))(hfk:(gt l p).Ef≠k+1): ∃l',Ax3 K l p k=some l'∧Bxb l l' p k:=by
 have e1:An6 .i64 p 1=p+1:=ad1 (by omega) (by omega)
 have e2:An6 .i64 k 1=k+1:=ad1 (by omega) (by omega)
 have e3:An7 .i64 (gt l p).Ef 1=(gt l p).Ef - 1:=sb1 (by omega) (by omega)
 have g1: ∀v,gt (l.set k.toNat v) k=v:=fun v=>Au7 hk v
 have g2: ∀v,gt (l.set k.toNat v) p=gt l p:=fun v=>Azc hk.1 hp (Ne.symm hne) v;unfold Ax3 Azu;rw[A26 hK hl,Z0,e1,e2,Axx,decide_eq_true (by omega),Z0,cond_true,Axx,decide_eq_true (by omega),Z0,cond_true,Aps hne,cond_false,e3]
 simp only[Aqk,if_pos hp,if_pos hk,Z49,g1,g2,List.set_set];rw[Axx,Z0]
 have hp': ∀v:As,0≤p∧p<((l.set k.toNat v).length:Int):=fun v=>by grind
 have h2: ∀(u v:As) (x:Int),0≤x∧x<(l.length:Int)->gt ((l.set k.toNat u).set p.toNat v) x=if x=p then v else if x=k then u else gt l x:=by
  grind [Apy]
 by_cases q:1≤(gt l p).Ef∧(gt l p).Ef≤(l.length:Int)
 ·rw[decide_eq_true q,cond_true,if_pos ⟨by omega,by omega⟩]
  refine⟨_,rfl,by simp,?_,fun x hx hxk=> ?_⟩
  ·rw[Azc (by omega) (by grind) (by omega),Azc hp.1 (by grind) hne,g1]
  ·by_cases a:x=(gt l p).Ef - 1
   ·rw[if_pos (show x+1=(gt l p).Ef by omega),←a,Au7 (by grind),h2 _ _ x hx,if_neg hxk]
    by_cases b:x=p
    ·rw[if_pos b,if_pos b,b];rfl
    ·rw[if_neg b,if_neg b];rfl
   ·rw[Azc (by omega) (by grind) (Ne.symm a),h2 _ _ x hx,if_neg hxk,if_neg (show ¬x+1=(gt l p).Ef by omega)]
    by_cases b:x=p
    ·rw[if_pos b,if_pos b,b];rfl
    ·rw[if_neg b,if_neg b];rfl
 ·rw[decide_eq_false q,cond_false];refine⟨_,rfl,by simp,?_,fun x hx hxk=> ?_⟩
  ·grind
  ·rw[h2 _ _ x hx,if_neg hxk,if_neg (show ¬x+1=(gt l p).Ef by omega)]
   by_cases b:x=p
   ·rw[if_pos b,if_pos b,b];rfl
   ·rw[if_neg b,if_neg b];rfl
end
def A9q (g c:Int):As:=As.mk 1 g 0 0 0 0 0 0 [c] (c+1) 0 [] []
structure Bdi (w:C5)(t:Int->Lk)(k c p:Int):Prop where
 hk:0≤k∧k<(w.fL.length:Int)
 st:(gt w.fL k).Vi=0
 free:A18 w.fP c 1=true
 up:p= -1∨Al w.fL.length t p∧(rise w.fL.length t w.fL.length p).length<4
theorem Bdi.bare{w:C5}(I:Inv w){t:Int->Lk}{k c p:Int}(M:Bdi w t k c p):gt w.fL k=Aqj 0 (gt w.fL k).C9:=by
 have:=Awk (I.node k M.hk) (by grind [st])
 grind [st]
def mkN (w:C5)(k c p:Int):As:=As.mk 1 (gt w.fL k).C9 0 (p+1) (if p+1=0 then 0 else(gt w.fL p).Sl) 0 (if p+1=0 then 0 else(gt w.fL p).Ef) 0 [c] (c+1) 0 [] []
structure Btk (w:C5)(l':List As)(k c p:Int):Prop where
 len:l'.length=w.fL.length
 at_:gt l' k=mkN w k c p
 ot: ∀x,0≤x∧x<(w.fL.length:Int)->x≠k->gt l' x=lnk (gt w.fL x) (if x=p then k+1 else(gt w.fL x).Ef) (gt w.fL x).Sn (if p+1≠0∧x+1=(gt w.fL p).Ef then k+1 else(gt w.fL x).So)
theorem A7e{c:Ea}{n:As}{mem:List Int}{ch:Int}(h1:n.Acx=ch+1)(h2:n.Sq=0)(hz:Aqu (Avv c mem ch)=true)(ha:n.F6.all (fun t=>Am9 t (Au6 c n))=true):Arq c mem n=true:=by
 unfold Arq;rw[ha,Bool.and_true,Bool.or_eq_true];refine .inr ?_
 have e1:(Au6 c n).fAt=ch*c.G8:=by simp_all[Au6]
 have e2:(Au6 c n).Ajm=c.G8:=by grind [Au6]
 rw[e1,e2];exact hz
theorem Bol{w:C5}(I:Inv w){t:Int->Lk}(A:AtT w.fL t)(F:Ag8 w.fL.length t (Ax9 w.fQ)){k c p:Int}(M:Bdi w t k c p){p':Dn}(T:Bi9 w.fP p' c 1 k){l':List As}(L:Btk w l' k c p):Inv (C5.mk w.fC p' l' w.fQ w.Acy):=by
 have hk:=M.hk
 have hb:=M.bare I
 have hb1:(gt w.fL k).Ay=[]:=by rw[hb];rfl
 have P:=Air.1 I.pool;obtain⟨T1,T2⟩:=A98 I hk M.free T;obtain⟨f1,f2,f3,f4⟩:=Ax6.1 M.free;obtain⟨b1,b2,b3,b4,b5,b6⟩:=F2 I.conf
 have hlen:=I.len
 have hg:=A1m (I.node k hk)
 have hc:0≤c∧c<w.fC.Ay:=by have:=P.st;omega
 have hp:p= -1∨(0≤p∧p<(w.fL.length:Int)):=M.up.imp_right fun h=>h.1.lv.1
 have hpf:p+1≠0->(0≤p∧p<(w.fL.length:Int))∧p≠k:=fun h=>by
  rcases M.up with e|⟨e,_⟩
  ·omega
  ·refine⟨e.lv.1,fun q=> ?_⟩
   have:=((Ax0 A).1 e.lv).2
   grind [Bdi.st]
 have hA:AtT l' (ins t k p):=by
  intro x hx;rw[L.len]at hx
  by_cases e:x=k
  ·subst e;rw[Awn,L.at_];unfold mkN A3c;simp only
   by_cases q:p+1=0
   ·grind
   ·rw[if_neg q,if_neg q,if_neg q,if_neg q,A p (hpf q).1];rfl
  ·rw[Atw e,L.ot x hx e,A x hx]
   by_cases q:p+1=0
   ·rw[if_neg (fun r:p+1≠0∧x+1=(t p).fi=>r.1 q),if_neg (fun r:p+1≠0∧x+1=(gt w.fL p).Ef=>r.1 q)];rfl
   ·rw[A p (hpf q).1];rfl
 have hF:Ag8 w.fL.length (ins t k p) (Ax9 w.fQ):=by
  refine Bc8 F hk ?_ ?_ M.up
  ·rw[A k hk];show((gt w.fL k).Vi==1)=false;rw[M.st];rfl
  ·rw[A k hk];show((gt w.fL k).Vi==2)=false;rw[M.st];rfl
 have hfp:0≤(if p+1=0 then 0 else(gt w.fL p).Ef)∧(if p+1=0 then 0 else(gt w.fL p).Ef)≤w.fC.E6:=by
  split
  ·omega
  ·rename_i q
   have:=(I.rg.rg p (hpf q).1).2.1;omega
 have hep:0≤(if p+1=0 then 0 else(gt w.fL p).Sl):=by
  split
  ·omega
  ·rename_i q;rcases M.up with e|⟨e,_⟩
   ·omega
   ·exact(I.live A e.lv).ep
 have hz:Aqu (Avv w.fC w.fP.N7 c)=true:=(P.one c hc).2.2.2 (f4 c ⟨by omega,by omega⟩)
 refine Bg7 I hk p' l' (ins t k p) L.len (fun x hx e=>⟨_,_,_,L.ot x hx e,?_,?_,?_⟩) (by rw[M.st];decide) ?_ hA hF T1 T.mem (fun x hx=> ?_) ?_
 ·have:=(I.rg.rg x hx).2.1;omega
 ·have:=(I.rg.rg x hx).2.2.1;omega
 ·have:=(I.rg.rg x hx).2.2.2;omega
 ·rw[L.at_];refine⟨I.conf,rfl,hg.2.2,?_,⟨Int.le_refl 0,by show(0:Int)≤_;omega⟩,hfp,⟨Int.le_refl 0,by show(0:Int)≤_;omega⟩,Int.le_refl 0,hep,A2u.2 ⟨by simp[mkN],fun x hx=> ?_⟩,?_,Z21 _,Z21 _,rfl,rfl⟩
  ·show 0≤p+1∧p+1≤_;omega
  ·rw[Pz.1 (show x∈[c] from hx)];exact hc
  ·unfold A5k mkN;simp only;rw[Aps (by omega),cond_false,sb1 (by omega) (by omega),Int.add_sub_cancel,Acw.2 ⟨by omega,by omega⟩]
   simp
 ·obtain⟨a1,a2,a3⟩:=T2 x hx;refine⟨a1,?_,a3⟩;rw[a2,hb1,L.at_]
  show x∈[]∨_ ↔ x∈[c]
  grind
 ·rw[L.at_];exact⟨rfl,rfl,A7e rfl rfl hz rfl⟩
theorem Bdj{l:List As}{t:Int->Lk}(A:AtT l t)(R:Rg l): ∀(n:Nat) (k:Int),Arv l (Ail l n k)=true->A2g l (Ail l n k)=true->Al l.length t k:=by
 intro n
 induction n with
 |zero=>grind [Ail,A2g]
 |succ n ih=>
  intro k h1 h2;unfold Ail at h1 h2
  by_cases hk:0≤k∧k<(l.length:Int)
  ·rw[if_pos hk]at h1 h2
   have hu:=(R.rg k hk).1
   have hl:=R.len;rw[sb1 (by omega) (by omega)]at h1 h2
   cases hr:Ail l n ((gt l k).fUp - 1)with
   |nil=>
    rw[hr]at h1 h2
    have s1:(gt l k).Vi=1:=by grind [Arv]
    have s2:(gt l k).fUp=0:=by
     have:((gt l (gt [k] ((0:Nat):Int))).fUp==0)=true:=by assumption
     exact beq_iff_eq.1 this
    exact .root ((Ax0 A).2 ⟨hk,s1⟩) (by rw[A k hk];exact s2)
   |cons y r=>
    have hy:y=(gt l k).fUp - 1∧0≤y∧y<(l.length:Int):=by
     cases n with
     |zero=>simp[Ail]at hr
     |succ m=>
      unfold Ail at hr
      grind
    rw[hr]at h1 h2
    have h1:((gt l k).Vi==1&&((gt l k).Sm==(gt l y).Sl)&&Arv l (y::r))=true:=h1;rw[Z4,Z4,beq_iff_eq,beq_iff_eq]at h1;obtain⟨⟨s1,s2⟩,s3⟩:=h1
    have s4:A2g l (y::r)=true:=by
     assumption
    have h5:(gt l y).Vi=1:=by
     cases r with
     |nil=>grind [Arv]
     |cons z r=>
      simp_all[Arv]
    have h6:=ih ((gt l k).fUp - 1) (by grind) (by grind)
    refine .step ((Ax0 A).2 ⟨hk,s1⟩) ?_ (by rw[A k hk];exact h6)
    unfold Cu;rw[A k hk]
    show Lv _ t ((gt l k).fUp - 1)∧(t ((gt l k).fUp - 1)).ep=(gt l k).Sm;rw[←hy.1,A y hy.2,s2];exact⟨(Ax0 A).2 ⟨hy.2,h5⟩,rfl⟩
  simp_all[A2g]
theorem Bja{w:C5}(I:Inv w){k:Int}(h:Avw w.fL k=true):AlW w.fL k:=by
 obtain⟨t,A,_⟩:=I.forest;unfold Avw at h;rw[Z4]at h;exact⟨t,A,Bdj A I.rg _ _ h.1 h.2⟩
theorem A4s{w:C5}(I:Inv w){h:An}(h0:(Agu w.fL h).2=0):AlW w.fL (Agu w.fL h).1:=by
 unfold Agu at *;cases e1:Aul h with
 |false=>grind
 |true=>
  rw[e1]at h0;simp only[cond_true]at h0 ⊢;cases e2:decide (Ap5 w.fL h<0)with
  |true=>grind
  |false=>
   rw[e2]at h0;simp only[cond_false]at h0 ⊢;cases e3:Avw w.fL (Ap5 w.fL h)with
   |false=>grind
   |true=>simp_all[Bja]
section
variable {K:Nat} (hK:281474976710656≤K)
include hK
theorem Bdk{w:C5}(hw:Aid w)(h8:w.fL.length≤1000): ∃r,A0g K w=some r:=by
 have key: ∀(f i:Nat) (v:Int),i≤w.fL.length->w.fL.length - i<f-> ∃r,Ain K f v (i:Int) w.fC.Ay w.fC.G8 w.fC.E6 w.fC.Gu w.fC.E7 w.fC.G9 w.fP.N7 w.fP.Vi w.fP.N8 w.fL w.fQ w.Acy=some r:=by
  intro f
  induction f with
  |zero=>omega
  |succ f ih=>
   intro i v hi hf;rw[Ain];rcases Hn i w.fL.length with h|h
   ·have go: ∀v,∃r,Ana K (i:Int) w.fC.Ay w.fC.G8 w.fC.E6 w.fC.Gu w.fC.E7 w.fC.G9 w.fP.N7 w.fP.Vi w.fP.N8 w.fL w.fQ w.Acy (Ain K f) v=some r:=by
     intro v;unfold Ana;rw[Ad5 (by omega)]
     exact ih (i+1) v h (by omega)
    rw[Ad7 h,cond_true,if_pos (Aiy h),A3w hK hw.l _ ⟨by omega,by omega⟩]
    simp only[Z0,if_pos (Aiy h)];cases (gt w.fL (i:Int)).Vi==0 with
    |true=>exact go _
    |false=>
     simp only[cond_false];cases Avw w.fL (i:Int)with
     |true=>exact go _
     |false=>
      simp only[cond_false];cases (gt w.fL (i:Int)).Vi != 3 with
      |false=>exact go _
      |true=>
       simp only[cond_true];cases decide ((gt w.fL (i:Int)).C9<w.fC.G9)<;>exact go _
   ·rw[Ars h];grind
 exact key K 0 0 (Z21 _) (by omega)
theorem A5f{w:C5}(hw:Aid w)(h8:w.fL.length≤1000): ∃r,Avb K w=some r∧r.length≤w.fL.length∧ ∀x∈r,(0≤x∧x<(w.fL.length:Int))∧Avw w.fL x=true:=by
 have hm:=V1
 have key: ∀(f i:Nat) (v:List Int),i≤w.fL.length->w.fL.length - i<f->v.length≤i->(∀x∈v,(0≤x∧x<(w.fL.length:Int))∧Avw w.fL x=true)-> ∃r,Aq8 K f v (i:Int) w.fC.Ay w.fC.G8 w.fC.E6 w.fC.Gu w.fC.E7 w.fC.G9 w.fP.N7 w.fP.Vi w.fP.N8 w.fL w.fQ w.Acy=some r∧r.length≤w.fL.length∧ ∀x∈r,(0≤x∧x<(w.fL.length:Int))∧Avw w.fL x=true:=by
  intro f
  induction f with
  |zero=>omega
  |succ f ih=>
   intro i v hi hf hl hv;rw[Aq8];rcases Hn i w.fL.length with h|h
   ·rw[Ad7 h,cond_true,A3w hK hw.l _ ⟨by omega,by omega⟩]
    simp only[Z0];cases e:Avw w.fL (i:Int)with
    |false=>
     simp only[cond_false]
     grind [Asr,Ad5]
    |true=>
     simp only[cond_true];rw[if_pos ⟨by grind,by grind⟩]
     unfold Asr;rw[Ad5 (by omega)]
     refine ih (i+1) _ h (by omega) (by grind) fun x hx=> ?_
     grind
   grind
 exact key K 0 [] (Z21 _) (by omega) (by simp) (fun x hx=>by cases hx)
theorem A4b{w:C5}(hw:Aid w)(h8:w.fL.length≤1000)(n:Int): ∃b,Arx K w n=some b:=by
 obtain⟨r,e,hl,_⟩:=A5f hK hw h8
 have key: ∀(f i:Nat) (v:Int),i≤r.length->r.length - i<f-> ∃x,Aqe K r f v (i:Int) w.fC.Ay w.fC.G8 w.fC.E6 w.fC.Gu w.fC.E7 w.fC.G9 w.fP.N7 w.fP.Vi w.fP.N8 w.fL w.fQ w.Acy=some x:=by
  intro f
  induction f with
  |zero=>omega
  |succ f ih=>
   intro i v hi hf;rw[Aqe];rcases Hn i r.length with h|h
   ·rw[Ad7 h,cond_true,if_pos (Aiy h),A5l hK _ _ hw.p.st.2,Z0,Ad5 (by omega)]
    exact ih (i+1) _ h (by omega)
   ·rw[Ars h];grind
 obtain⟨x,ex⟩:=key K 0 0 (Z21 _) (by omega)
 have ex:Aqe K r K 0 0 w.fC.Ay w.fC.G8 w.fC.E6 w.fC.Gu w.fC.E7 w.fC.G9 w.fP.N7 w.fP.Vi w.fP.N8 w.fL w.fQ w.Acy=some x:=ex;unfold Arx A0h;rw[e,Z0,ex];simp only[Z0];cases decide (n≥0)<;>cases decide (n≤w.fC.Ay)<;>exact⟨_,rfl⟩
omit hK in
theorem A4c{l:List As}(hl:l.length≤1000000)(k:Int): ∃h,Anl K l k=some h:=by
 unfold Anl;rw[A0b K (by omega),Z0]
 by_cases q:0≤k∧k<(l.length:Int)
 all_goals simp_all[decide_eq_false]
end
def A4w (n:As)(c:Int):As:=As.mk n.Vi n.C9 n.Sl n.fUp n.Sm n.Ef n.Sn n.So (n.Ay++[c]) (c+1) 0 n.F6 n.Fi
theorem A6t{c:Ea}{n:As}(L:Aqv c n){k:Int}(hk:0≤k∧k<c.Ay)(hn:k ∉ n.Ay):Aqv c (A4w n k):=by
 obtain⟨b1,b2,_⟩:=F2 L.conf
 have hd:=A2u.1 L.dist;refine⟨L.conf,L.st,L.gen,L.up,L.first,L.next,L.prev,L.ep,L.ue,A2u.2 ⟨Ang.2 ⟨hd.1,by simp,fun x h1 h2=>by grind⟩,fun x hx=> ?_⟩,?_,L.nth,L.ntag,L.tags,L.things⟩
 ·rcases Mj.1 hx with h|h
  all_goals grind
 ·unfold A5k A4w;simp only;rw[Aps (by omega),cond_false,sb1 (by omega) (by omega),Int.add_sub_cancel,Acw.2 ⟨by omega,by omega⟩]
  simp
section
variable {K:Nat} (hK:281474976710656≤K)
include hK
theorem A6u{c:Ea}{n:As}(L:Aqv c n)(hw:Apx n){k:Int}(hk:0≤k∧k<c.Ay)(hn:k ∉ n.Ay):Aum K c n k=some (A4w n k,true):=by
 have hm:=V1
 have L2:=A6t L hk hn;obtain⟨b1,b2,_⟩:=F2 L.conf
 have h1:=Asi L.conf L.dist
 have h3:=L.nth
 have h4:=L.ntag
 have e:As.mk n.Vi n.C9 n.Sl n.fUp n.Sm n.Ef n.Sn n.So (n.Ay++[k]) (An6 .i64 k 1) 0 n.F6 n.Fi=A4w n k:=by grind [A4w,ad1]
 unfold Aum
 have hb:A4w n k=A4w n k:=rfl;rw[Atv K hw,Z0,show(n.Vi != 1)=false by rw[L.st];rfl,cond_false,Ane,Azo hK L.conf,Acw.2 ⟨by omega,by omega⟩,Z0,Bool.not_true,cond_false,if_pos ⟨by grind,by grind⟩,e]
 have hl:(A4w n k).Ay.length=n.Ay.length+1:=by grind
 rw[Atu hK c (A4w n k) (by omega) (show n.F6.length≤_ by omega) (show n.Fi.length≤_ by omega),(Ag9.2 L2).1]
 rfl
omit hK in
theorem Dy.le{w:C5}{E E':Int}{n m:Nat}(G:Dy w E n)(hE:E≤E')(h:n≤m):Dy w E' m:=⟨G.inv,G.mem,fun k hk=>by have:=G.ep k hk;exact⟨Int.le_trans this.ep hE,Int.le_trans this.ue hE,this.cur⟩,Vx G.wt h⟩
theorem Bjb{E:Int}{n:Nat}(hE:0≤E∧E≤900000000)(hn:n≤900000000){w:C5}(G:Dy w E n){p at_ ch:Int}(hp:p= -1∨AlW w.fL p∧(Ail w.fL w.fL.length p).length<4)(ha:(0≤at_∧at_<(w.fL.length:Int))∧(gt w.fL at_).Vi=0)(hc:A18 w.fP ch 1=true):
  ∃p' l',Arj K w.fP ch 1 at_=some p'∧(p= -1->l'=w.fL.set at_.toNat (A9q (gt w.fL at_).C9 ch))∧(p≠ -1->Ax3 K (w.fL.set at_.toNat (A9q (gt w.fL at_).C9 ch)) p at_=some l')∧Dy (C5.mk w.fC p' l' w.fQ w.Acy) E (n+18)∧l'.length=w.fL.length:=by
 have I:=G.inv
 have W:=G.ww (by omega) (by omega)
 obtain⟨t,A,F⟩:=I.forest;obtain⟨b1,b2,b3,b4,b5,b6⟩:=F2 I.conf
 have P:=Air.1 I.pool
 have hst:=P.st
 have how:=P.own
 have hlen:=I.len;obtain⟨f1,f2,f3,f4⟩:=Ax6.1 hc
 have M:Bdi w t at_ ch p:=⟨ha.1,ha.2,hc,hp.imp_right fun h=>⟨h.1.al A,by rw[A5v A I.rg]at h;exact h.2⟩⟩
 obtain⟨p',ep,T⟩:=A5e hK W.p (by omega) (by omega) (k:=at_) hc
 have hg:=A1m (I.node at_ ha.1)
 have hbare:=M.bare I
 have hl': ∃l',(p= -1->l'=w.fL.set at_.toNat (A9q (gt w.fL at_).C9 ch))∧(p≠ -1->Ax3 K (w.fL.set at_.toNat (A9q (gt w.fL at_).C9 ch)) p at_=some l')∧Btk w l' at_ ch p:=by
  by_cases q:p= -1
  ·refine⟨w.fL.set at_.toNat (A9q (gt w.fL at_).C9 ch),fun _=>rfl,fun h=>absurd q h,by simp,?_,fun x hx hne=> ?_⟩
   ·rw[Au7 ha.1]
    grind [A9q,mkN]
   ·have hpx:x≠p:=by omega
    rw[Azc ha.1.1 hx (Ne.symm hne),if_neg hpx,if_neg (fun r=>r.1 (by omega))]
    rfl
  ·obtain⟨al,_⟩:=hp.resolve_left q
   have al:=al.al A
   have hpi:=al.lv.1
   have hpl:=(Ax0 A).1 al.lv
   have hne:p≠at_:=fun e=>by grind
   have hgp: ∀v,gt (w.fL.set at_.toNat v) p=gt w.fL p:=fun v=>Azc ha.1.1 hpi (Ne.symm hne) v
   have hnw:Apx (A9q (gt w.fL at_).C9 ch):=⟨Ht (x:=(1:Int)) (by omega) (by omega),Ht (by show _≤(gt w.fL at_).C9;omega) (by show(gt w.fL at_).C9≤_;omega),Au9,Au9,Au9,Au9,Au9,Au9,Av2 (fun x hx=>by rw[Pz.1 (show x∈[ch] from hx)];omega) (by show [ch].length≤_;simp),Ht (by show _≤ch+1;omega) (by show ch+1≤_;omega),Au9,A12,Awj⟩
   have hW:Ad6 (w.fL.set at_.toNat (A9q (gt w.fL at_).C9 ch)):=by
    refine⟨fun x hx=> ?_,by grind⟩
    rcases Z54 hx with h|h
    ·exact W.l.1 x h
    grind
   have hfr:=(I.rg.rg p hpi).2.1;obtain⟨l',e,L⟩:=Brn hK hW (by grind) (p:=p) (k:=at_) (by grind) (by grind) hne (by grind) (by
    rw[hgp];intro e
    have h1:=(F.tree.link p al.lv).first (by rw[A p hpi];show(gt w.fL p).Ef≠0;omega)
    have h2:=((Ax0 A).1 h1.1).2;rw[A p hpi]at h2
    have h2:(gt w.fL ((gt w.fL p).Ef - 1)).Vi=1:=h2
    grind)
   refine⟨l',fun h=>absurd h q,fun _=>e,by rw[L.len];simp,?_,fun x hx hxk=> ?_⟩
   ·rw[L.at_,Au7 ha.1,hgp];unfold A9q mkN
    grind
   ·rw[L.ot x (by grind) hxk,Azc ha.1.1 hx (Ne.symm hxk),hgp]
    grind
 obtain⟨l',h1,h2,L⟩:=hl'
 have I':=Bol I A F M T L;refine⟨p',l',ep,h1,h2,⟨I',?_,fun x hx=> ?_,?_⟩,L.len⟩
 ·show ∀x∈p'.N7,_;rw[T.mem];exact G.mem
 ·have hx:0≤x∧x<(l'.length:Int):=hx;rw[L.len]at hx
  show EpP E (gt l' x)
  by_cases e:x=at_
  ·rw[e,L.at_];refine⟨hE.1,?_,⟨by show 0≤ch+1;omega,by show ch+1≤_;omega⟩⟩
   show(if p+1=0 then 0 else(gt w.fL p).Sl)≤E
   split
   ·exact hE.1
   ·rename_i q
    have:=(hp.resolve_left (by omega)).1.al A
    exact(G.ep p this.lv.1).ep
  ·rw[L.ot x hx e]
   have:=G.ep x hx;exact⟨this.ep,this.ue,this.cur⟩
 ·have hs:=A39 (f:=wtN w.fC) L.len ha.1 fun x hx hne=>by rw[L.ot x hx hne];rfl
  have e0:wtN w.fC (gt w.fL at_)=0:=by grind [A4a]
  have e1:wtN w.fC (gt l' at_)≤18:=by
   rw[L.at_];unfold wtN mkN
   grind
  have h3:=G.wt;unfold wt pot at h3 ⊢
  grind
end
section
variable {K:Nat} (hK:281474976710656≤K)
include hK
theorem A4d{E:Int}{n:Nat}(hE:0≤E∧E≤900000000)(hn:n≤900000000){w:C5}(G:Dy w E n){p:Int}(a b:Et)(hp:a.W4=0->p= -1∨AlW w.fL p∧(Ail w.fL w.fL.length p).length<4):
  ∃r w',Anw K p w.fC.Ay w.fC.G8 w.fC.E6 w.fC.Gu w.fC.E7 w.fC.G9 w.fP.N7 w.fP.Vi w.fP.N8 w.fL w.fQ w.Acy a b=some (r,w')∧Dy w' E (n+18)∧w'.fC=w.fC:=by
 unfold Anw
 by_cases h0:a.W4=0
 ·have hp:=hp h0;rw[h0];simp only[bne_self_eq_false,cond_false];obtain⟨d,w1,e1,S⟩:=Bfh hK (by omega:0≤E∧E≤1000000000) (by omega) 1 (run:=1) (by omega) G
  rw[show C5.mk (Ea.mk w.fC.Ay w.fC.G8 w.fC.E6 w.fC.Gu w.fC.E7 w.fC.G9) (Dn.mk w.fP.N7 w.fP.Vi w.fP.N8) w.fL w.fQ w.Acy=w from rfl,e1]
  simp only[Z0]
  have G1:=S.good
  have T1:=S.stay
  have P1:=Air.1 G1.inv.pool
  have hst:=P1.st
  have hlen:=G1.inv.len;obtain⟨b1,b2,b3,b4,b5,b6⟩:=F2 G1.inv.conf;obtain⟨at_,e2,h2⟩:=Bbt hK (l:=w1.fL) (by omega)
  obtain⟨ch,e3,h3⟩:=A50 hK (p:=w1.fP) (by omega)
  rw[e2,e3];simp only[Z0]
  have G1':=Dy.le G1 (Int.le_refl E) (by omega:n≤n+18)
  by_cases q1:at_<0
  ·rw[decide_eq_true q1];exact⟨_,_,rfl,G1',T1.conf⟩
  ·rw[decide_eq_false q1];simp only[cond_false]
   by_cases q2:ch<0
   ·rw[decide_eq_true q2];exact⟨_,_,rfl,G1',T1.conf⟩
   ·rw[decide_eq_false q2];simp only[cond_false];obtain⟨hat,hfree⟩:=h2.resolve_left (by omega)
    have hch:=h3.resolve_left (by omega)
    obtain⟨f1,f2,f3,f4⟩:=Ax6.1 hch
    have hp1:p= -1∨AlW w1.fL p∧(Ail w1.fL w1.fL.length p).length<4:=hp.imp_right fun h=>by
     obtain⟨x1,_,x3⟩:=T1.node p h.1;rw[x3,T1.len]
     grind
    obtain⟨p',l',et,k1,k2,G2,hl2⟩:=Bjb hK hE hn G1 hp1 ⟨hat,hfree⟩ hch
    have hg:=A1m (G1.inv.node at_ hat)
    have L0:Aqv w1.fC (As.mk 1 (gt w1.fL at_).C9 0 0 0 0 0 0 [] 0 0 [] []):=⟨G1.inv.conf,rfl,hg.2.2,⟨Int.le_refl 0,by grind⟩,⟨Int.le_refl 0,by grind⟩,⟨Int.le_refl 0,by grind⟩,⟨Int.le_refl 0,by grind⟩,Int.le_refl 0,Int.le_refl 0,rfl,rfl,Z21 _,Z21 _,rfl,rfl⟩
    have W0:Apx (As.mk 1 (gt w1.fL at_).C9 0 0 0 0 0 0 [] 0 0 [] []):=A3f (E:=0) (Ag9.2 L0).1 ⟨Int.le_refl 0,Int.le_refl 0,Int.le_refl 0,by grind⟩ (by omega)
    unfold Ak0;simp only[Z0,if_pos hat];rw[et,Z0,A6u hK L0 W0 ⟨f1,by omega⟩ (by grind),Z0]
    simp only
    have hnew:A4w (As.mk 1 (gt w1.fL at_).C9 0 0 0 0 0 0 [] 0 0 [] []) ch=A9q (gt w1.fL at_).C9 ch:=rfl;rw[hnew]
    by_cases q3:p= -1
    ·rw[decide_eq_false (by omega: ¬p≥0)]
     simp only[cond_false];rw[←k1 q3];obtain⟨hd,eh⟩:=A4c (K:=K) (l:=l') (by omega) at_
     obtain⟨t,w2,es,S2⟩:=A7w hK (E:=E) (n:=n+18) (by omega) (by omega) w1.fC.Gu G2
     unfold As5;rw[eh,Z0,show C5.mk (Ea.mk w1.fC.Ay w1.fC.G8 w1.fC.E6 w1.fC.Gu w1.fC.E7 w1.fC.G9) (Dn.mk p'.N7 p'.Vi p'.N8) l' w1.fQ w1.Acy=C5.mk w1.fC p' l' w1.fQ w1.Acy from rfl,es]
     exact⟨_,_,rfl,S2.good,S2.stay.conf.trans T1.conf⟩
    ·have hp2:0≤p:=by
      obtain⟨t,A,F⟩:=G1.inv.forest;exact((hp1.resolve_left q3).1.al A).lv.1.1
     rw[decide_eq_true (show p≥0 from hp2)]
     simp only[cond_true];rw[k2 q3,Z0];obtain⟨hd,eh⟩:=A4c (K:=K) (l:=l') (by omega) at_
     obtain⟨t,w2,es,S2⟩:=A7w hK (E:=E) (n:=n+18) (by omega) (by omega) w1.fC.Gu G2
     unfold As5;rw[eh,Z0,show C5.mk (Ea.mk w1.fC.Ay w1.fC.G8 w1.fC.E6 w1.fC.Gu w1.fC.E7 w1.fC.G9) (Dn.mk p'.N7 p'.Vi p'.N8) l' w1.fQ w1.Acy=C5.mk w1.fC p' l' w1.fQ w1.Acy from rfl,es]
     exact⟨_,_,rfl,S2.good,S2.stay.conf.trans T1.conf⟩
 ·rw[A0m h0];exact⟨_,_,rfl,Dy.le G (Int.le_refl E) (by omega),rfl⟩
theorem Bdl{E:Int}{n:Nat}(hE:0≤E∧E≤900000000)(hn:n≤900000000){w:C5}(G:Dy w E n){p:Int}(v:Bool)(a b:Et)(hp:v=false->p= -1∨AlW w.fL p∧(Ail w.fL w.fL.length p).length<4):
  ∃r w',As6 K p v w.fC.Ay w.fC.G8 w.fC.E6 w.fC.Gu w.fC.E7 w.fC.G9 w.fP.N7 w.fP.Vi w.fP.N8 w.fL w.fQ w.Acy a b=some (r,w')∧Dy w' E (n+18)∧w'.fC=w.fC:=by
 have W:=G.ww (by omega) (by omega)
 have hlen:=G.inv.len;obtain⟨b1,b2,b3,b4,b5,b6⟩:=F2 G.inv.conf;unfold As6;cases v with
 |true=>exact A4d hK hE hn G (p:=p) (Et.mk 3 a.fH a.fR a.fB a.W5 a.Gu a.N9) b (fun h=>absurd (show(3:Int)=0 from h) (by decide))
 |false=>
  simp only[cond_false];rw[show C5.mk (Ea.mk w.fC.Ay w.fC.G8 w.fC.E6 w.fC.Gu w.fC.E7 w.fC.G9) (Dn.mk w.fP.N7 w.fP.Vi w.fP.N8) w.fL w.fQ w.Acy=w from rfl]
  obtain⟨r,er⟩:=Bdk hK W (by omega)
  rw[er,Z0];cases r==0 with
  |true=>exact A4d hK hE hn G (p:=p) (Et.mk 4 a.fH a.fR a.fB a.W5 a.Gu a.N9) b (fun h=>absurd (show(4:Int)=0 from h) (by decide))
  |false=>
   simp only[cond_false];obtain⟨f,ef⟩:=A4b hK W (by omega) 1
   rw[ef,Z0];cases f with
   |false=>exact A4d hK hE hn G (p:=p) (Et.mk 5 a.fH a.fR a.fB a.W5 a.Gu a.N9) b (fun h=>absurd (show(5:Int)=0 from h) (by decide))
   |true=>simp_all[A4d]
theorem Bfi{E:Int}{n:Nat}(hE:0≤E∧E≤900000000)(hn:n≤900000000){w:C5}(G:Dy w E n)(h:An): ∃r w',Ayi K w h=some (r,w')∧Dy w' E (n+18)∧w'.fC=w.fC:=by
 have W:=G.ww (by omega) (by omega)
 have hlen:=G.inv.len;obtain⟨b1,b2,b3,b4,b5,b6⟩:=F2 G.inv.conf
 have hup: ∃p c,A0q K w h=some (p,c)∧(c=0->p= -1∨AlW w.fL p):=by
  unfold A0q;cases ((h.Bm==0)&&((h.C9==0)&&true))with
  |true=>grind
  |false=>
   simp only[cond_false];rw[Aqa hK W.l,Z0];exact⟨_,_,rfl,fun h0=> .inr (A4s G.inv h0)⟩
 obtain⟨p,c,ep,hp⟩:=hup;unfold Ayi;rw[ep,Z0,Awi hK w W.l,Z0];simp only
 by_cases q:c=0
 ·rw[q];simp only[bne_self_eq_false,cond_false];rcases hp q with e|e
  ·simp_all[Bdl]
  ·have hpi:0≤p∧p<(w.fL.length:Int):=by
    obtain⟨t,A,F⟩:=G.inv.forest;exact(e.al A).lv.1
   rw[decide_eq_true (show p≥0 from hpi.1)]
   simp only[cond_true];unfold Awr;rw[A23 hK W.l p ⟨by omega,by omega⟩]
   simp only[Z0];refine Bdl hK hE hn G _ _ _ (fun hv=> .inr ⟨e,?_⟩)
   grind
 ·rw[A0m q];exact A4d hK hE hn G (p:=p) (Et.mk c (An.mk 0 0) (Br.mk (An.mk 0 0) 0 0) [] (A31 w h) 0 0) (Et.mk 0 (An.mk 0 0) (Br.mk (An.mk 0 0) 0 0) [] 0 0 0) (fun h=>absurd h q)
end
theorem A8w{c:Ea}{ch:List Int}{t:Bc}(h:Arp c ch t=true){j:Int}(h0:t.fAt≤j)(h1:j<t.fAt+t.Ajm):j / c.G8∈ch:=by
 unfold Arp at h;rw[Z4,Z1]at h;obtain⟨ht,hc⟩:=h;obtain⟨hs,hin⟩:=A2m ht;obtain⟨b1,b2,_⟩:=F2 hin.1
 have e1:t.fAt / c.G8≤j / c.G8:=Int.ediv_le_ediv (by omega) h0
 have e2:j / c.G8≤(t.fAt+t.Ajm - 1) / c.G8:=Int.ediv_le_ediv (by omega) (by omega)
 have:=hc (j / c.G8 - t.fAt / c.G8).toNat (by grind)
 grind
theorem A6v{a s j:Int}(hs:0<s)(h0:a*s≤j)(h1:j<a*s+s):j / s=a:=by
 have h2:a≤j / s:=(Int.le_ediv_iff_mul_le hs).2 h0
 have h3:j / s<a+1:=Int.ediv_lt_of_lt_mul hs (by grind)
 omega
theorem A2w{a b:Bc}(h: ∀j,a.fAt≤j->j<a.fAt+a.Ajm->b.fAt≤j->j<b.fAt+b.Ajm->False):Am9 a b=true:=by
 unfold Am9;rw[decide_eq_true_iff]
 by_cases h1:a.Ajm≤0
 ·omega
 by_cases h2:b.Ajm≤0
 ·omega
 by_cases h3:a.fAt+a.Ajm≤b.fAt
 ·omega
 by_cases h4:b.fAt+b.Ajm≤a.fAt
 ·omega
 exfalso
 by_cases h5:a.fAt≤b.fAt
 ·exact h b.fAt h5 (by omega) (by omega) (by omega)
 ·exact h a.fAt (by omega) (by omega) (by omega) (by omega)
theorem Bdm{a b:Bc}(h:Am9 a b=true){j:Int}(h1:a.fAt≤j)(h2:j<a.fAt+a.Ajm)(h3:b.fAt≤j)(h4:j<b.fAt+b.Ajm):False:=by
 unfold Am9 at h
 grind
theorem Bbu{l:List Bc}:Aot l=true ↔ l.Pairwise (fun a b=>Am9 a b=true):=by
 unfold Aot;rw[Z1,List.pairwise_iff_getElem];constructor
 ·intro h i j hi hj hij
  have:=h j (by grind)
  grind [List.mem_iff_getElem,V2]
 ·intro h j hj;rw[List.mem_range]at hj;rw[Z1];intro o ho;obtain⟨i,hi,e⟩:=List.mem_iff_getElem.1 ho
  grind [V2]
theorem A51{l:List Bc}{t:Bc}(h:Aot l=true)(ht: ∀o∈l,Am9 o t=true):Aot (l++[t])=true:=by
 simp_all[Bbu,List.pairwise_append]
theorem A52{c:Ea}{n:As}(L:Aqv c n)(hc:0≤n.Acx∧n.Acx≤1000)(h0:n.Acx≠0):n.Acx - 1∈n.Ay∧0≤n.Sq∧n.Sq≤c.G8:=by
 have:=L.cur;unfold A5k at this;rw[Aps h0,cond_false,Z4,Acw,sb1 (by omega) (by omega)]at this
 grind
theorem Bg8{c:Ea}{ch ch':List Int}(h: ∀x∈ch,x∈ch'){t:Bc}(ht:Arp c ch t=true):Arp c ch' t=true:=by
 unfold Arp at ht ⊢;rw[Z4,Z1]at ht ⊢;exact⟨ht.1,fun j hj=>List.contains_iff_mem.2 (h _ (List.contains_iff_mem.1 (ht.2 j hj)))⟩
def A8x (c:Ea)(n:As)(off size:Int):As:=As.mk n.Vi n.C9 n.Sl n.fUp n.Sm n.Ef n.Sn n.So n.Ay n.Acx (off+size) (n.F6++[Bc.mk ((n.Acx - 1)*c.G8+off) size 0]) n.Fi
structure Bom (c:Ea)(n:As)(off size:Int):Prop where
 cur:n.Acx≠0
 ho:n.Sq≤off
 hz:1≤size
 fit:off+size≤c.G8
 cnt:n.F6.length<12
structure ThP (c:Ea)(mem:List Int)(n:As):Prop where
 inch:n.F6.all (Arp c n.Ay)=true
 apart:Aot n.F6=true
 loose:Arq c mem n=true
theorem Bdn{c:Ea}{mem:List Int}{n:As}{off size:Int}(L:Aqv c n)(hc:0≤n.Acx∧n.Acx≤1000)(T:ThP c mem n)(S:Bom c n off size):Aqv c (A8x c n off size)∧ThP c mem (A8x c n off size):=by
 obtain⟨b1,b2,_⟩:=F2 L.conf;obtain⟨m1,m2,m3⟩:=A52 L hc S.cur
 have hm:=Axu L.dist _ m1
 have ho:=S.ho;have hz:=S.hz;have hf:=S.fit;have hn:=S.cnt
 have hlo:=T.loose;unfold Arq at hlo;rw[Aps S.cur,Z52,Z4,Z1]at hlo;obtain⟨z1,z2⟩:=hlo
 have q0:0≤(n.Acx - 1)*c.G8:=Int.mul_nonneg (by omega) (by omega)
 have q1:(n.Acx - 1)*c.G8+c.G8≤c.Ay*c.G8:=by
  have:(n.Acx - 1+1)*c.G8≤c.Ay*c.G8:=Int.mul_le_mul_of_nonneg_right (by omega) (by omega)
  grind
 have hby:Ala c=c.Ay*c.G8:=by unfold Ala;rw[L.conf];rfl
 have d1:((n.Acx - 1)*c.G8+off) / c.G8=n.Acx - 1:=A6v (by omega) (by omega) (by omega)
 have d2:((n.Acx - 1)*c.G8+off+size - 1) / c.G8=n.Acx - 1:=A6v (by omega) (by omega) (by omega)
 have htb:Apt c (Bc.mk ((n.Acx - 1)*c.G8+off) size 0)=true:=by
  unfold Apt;rw[decide_eq_true (show Axt c (Bc.mk ((n.Acx - 1)*c.G8+off) size 0) from⟨L.conf,hz,by grind,by grind⟩)]
  grind
 have htc:Arp c n.Ay (Bc.mk ((n.Acx - 1)*c.G8+off) size 0)=true:=by
  unfold Arp
  grind
 have hr: ∀o∈n.F6,∀j,o.fAt≤j->j<o.fAt+o.Ajm->(n.Acx - 1)*c.G8+n.Sq≤j->j<(n.Acx - 1)*c.G8+c.G8->False:=fun o h j h1 h2 h3 h4=>Bdm (z2 o h) h1 h2 (b:=Au6 c n) h3 (by show j<(n.Acx - 1)*c.G8+n.Sq+(c.G8 - n.Sq);omega)
 refine⟨⟨L.conf,L.st,L.gen,L.up,L.first,L.next,L.prev,L.ep,L.ue,L.dist,?_,?_,L.ntag,L.tags,?_⟩,⟨?_,?_,?_⟩⟩
 ·unfold A5k A8x;simp only;rw[Aps S.cur,cond_false,sb1 (by omega) (by omega),List.contains_iff_mem.2 m1,Acw.2 ⟨by omega,by omega⟩];rfl
 ·show(n.F6++[_]).length≤12
  grind
 ·show(n.F6++[_]).all (Apt c)=true
  grind [Aqv.things]
 ·show(n.F6++[_]).all (Arp c n.Ay)=true
  grind [ThP.inch]
 ·refine A51 T.apart fun o h=>A2w fun j h1 h2 h3 h4=>hr o h j h1 h2 ?_ ?_
  all_goals grind
 ·unfold Arq;rw[Bool.or_eq_true,Z4];refine .inr ⟨?_,?_⟩
  ·rw[A38]at z1 ⊢;intro j h1 h2 h3
   have h1:((n.Acx - 1)*c.G8+(off+size)).toNat≤j:=h1
   have h2:j<((n.Acx - 1)*c.G8+(off+size)).toNat+(c.G8 - (off+size)).toNat:=h2;refine z1 j ?_ ?_ h3
   ·show((n.Acx - 1)*c.G8+n.Sq).toNat≤j;omega
   ·show j<((n.Acx - 1)*c.G8+n.Sq).toNat+(c.G8 - n.Sq).toNat;omega
  ·show(n.F6++[_]).all _=true;rw[List.all_append,Ge,Z4,Z4,Z1];refine⟨fun o h=>A2w fun j h1 h2 h3 h4=>hr o h j h1 h2 ?_ ?_,A2w fun j h1 h2 h3 h4=> ?_,rfl⟩
   ·have h3:(n.Acx - 1)*c.G8+(off+size)≤j:=h3;omega
   ·have h4:j<(n.Acx - 1)*c.G8+(off+size)+(c.G8 - (off+size)):=h4;omega
   ·have h2:j<(n.Acx - 1)*c.G8+off+size:=h2
    have h3:(n.Acx - 1)*c.G8+(off+size)≤j:=h3;omega
def A53 (a n:Int):List Int:=(List.range n.toNat).map (fun(i:Nat)=>a+(i:Int))
theorem A54{a n x:Int}:x∈A53 a n ↔ a≤x∧x<a+n:=by
 unfold A53;rw[Ey];constructor
 ·grind
 ·intro h;exact⟨(x - a).toNat,by grind,by omega⟩
theorem Bfj (a n:Int):(A53 a n).Nodup:=by
 grind [A53,List.nodup_range]
def A2h (c:Ea)(n:As)(a run size:Int):As:=As.mk n.Vi n.C9 n.Sl n.fUp n.Sm n.Ef n.Sn n.So (n.Ay++A53 a run) n.Acx n.Sq (n.F6++[Bc.mk (a*c.G8) size run]) n.Fi
structure Bfk (c:Ea)(n:As)(a run size:Int):Prop where
 hz:c.G8<size∧size≤200
 hr:run=Att size c.G8
 at_:0≤a∧a+run≤c.Ay
 new: ∀x∈n.Ay,¬(a≤x∧x<a+run)
 cnt:n.F6.length<12
theorem Bdo{c:Ea}{mem:List Int}{n:As}{a run size:Int}(L:Aqv c n)(hc:0≤n.Acx∧n.Acx≤1000)(T:ThP c mem n)(S:Bfk c n a run size):Aqv c (A2h c n a run size)∧ThP c mem (A2h c n a run size):=by
 obtain⟨b1,b2,_⟩:=F2 L.conf
 have hz:=S.hz;have ha:=S.at_;have hn:=S.cnt
 have hrun:run=(size+c.G8 - 1) / c.G8:=by
  rw[S.hr];unfold Att;rw[Acw.2 ⟨by omega,by omega⟩,Acw.2 ⟨by omega,by omega⟩];rfl
 have hru:size≤run*c.G8:=by
  have:=Int.lt_ediv_add_one_mul_self (size+c.G8 - 1) (show 0<c.G8 by omega)
  grind
 have hr1:1≤run:=by
  rw[hrun];exact(Int.le_ediv_iff_mul_le (by omega)).2 (by omega)
 have q0:0≤a*c.G8:=Int.mul_nonneg (by omega) (by omega)
 have q1:a*c.G8+run*c.G8≤c.Ay*c.G8:=by
  rw[←Int.add_mul];exact Int.mul_le_mul_of_nonneg_right (by omega) (by omega)
 have hby:Ala c=c.Ay*c.G8:=by unfold Ala;rw[L.conf];rfl
 have htb:Apt c (Bc.mk (a*c.G8) size run)=true:=by
  unfold Apt;rw[decide_eq_true (show Axt c (Bc.mk (a*c.G8) size run) from⟨L.conf,by grind,q0,by grind⟩)]
  show(bif run==0 then _ else decide (size>c.G8)&&(run==Att size c.G8&&(a*c.G8) % c.G8==0))=true
  rw[Aps (by omega),cond_false,decide_eq_true (by omega),←S.hr,Int.mul_emod_left];simp
 have hdv: ∀j,a*c.G8≤j->j<a*c.G8+size->a≤j / c.G8∧j / c.G8<a+run:=fun j h1 h2=>by
  refine⟨(Int.le_ediv_iff_mul_le (by omega)).2 h1,Int.ediv_lt_of_lt_mul (by omega) ?_⟩
  grind
 have htc:Arp c (n.Ay++A53 a run) (Bc.mk (a*c.G8) size run)=true:=by
  unfold Arp;rw[htb,Z30,Z1];intro j hj;rw[List.mem_range]at hj
  have e1:=hdv (a*c.G8) (Int.le_refl _) (by omega)
  have e2:=hdv (a*c.G8+size - 1) (by omega) (by omega)
  have hj:j<((a*c.G8+size - 1) / c.G8 - a*c.G8 / c.G8+1).toNat:=hj;refine List.contains_iff_mem.2 (Mj.2 (.inr (A54.2 ?_)))
  grind
 have hmono: ∀x∈n.Ay,x∈n.Ay++A53 a run:=fun x h=>Mj.2 (.inl h)
 have hold: ∀o∈n.F6,∀j,o.fAt≤j->j<o.fAt+o.Ajm->a*c.G8≤j->j<a*c.G8+size->False:=fun o h j h1 h2 h3 h4=>S.new _ (A8w (Z1.1 T.inch o h) h1 h2) (hdv j h3 h4)
 have hd:=A2u.1 L.dist;refine⟨⟨L.conf,L.st,L.gen,L.up,L.first,L.next,L.prev,L.ep,L.ue,?_,?_,?_,L.ntag,L.tags,?_⟩,⟨?_,?_,?_⟩⟩
 ·refine A2u.2 ⟨Ang.2 ⟨hd.1,Bfj _ _,fun x h1 h2=>S.new x h1 (A54.1 h2)⟩,fun x hx=> ?_⟩;rcases Mj.1 hx with h|h
  ·grind
  ·have:=A54.1 h;omega
 ·have:=L.cur;unfold A5k at this ⊢
  show(bif n.Acx==0 then n.Sq==0 else(n.Ay++A53 a run).contains (An7 .i64 n.Acx 1)&&inB n.Sq 0 c.G8)=true
  grind
 ·show(n.F6++[_]).length≤12
  grind
 ·show(n.F6++[_]).all (Apt c)=true
  grind [Aqv.things]
 ·show(n.F6++[_]).all (Arp c (n.Ay++A53 a run))=true;rw[List.all_append,Ge,htc,Z4,Z1];exact⟨fun o h=>Bg8 hmono (Z1.1 T.inch o h),rfl⟩
 ·exact A51 T.apart fun o h=>A2w fun j h1 h2 h3 h4=>hold o h j h1 h2 h3 h4
 ·have hlo:=T.loose;unfold Arq at hlo ⊢;rw[Bool.or_eq_true,Z4]at hlo ⊢;rcases hlo with h|⟨h,h'⟩
  ·exact .inl h
  ·by_cases e:n.Acx=0
   ·exact .inl (by show(n.Acx==0)=true;grind)
   ·refine .inr ⟨h,?_⟩
    show(n.F6++[_]).all (fun t=>Am9 t (Au6 c n))=true;rw[List.all_append,h',Ge,Z30,Z4];refine⟨A2w fun j h1 h2 h3 h4=> ?_,rfl⟩;obtain⟨m1,m2,m3⟩:=A52 L hc e
    have h3:(n.Acx - 1)*c.G8+n.Sq≤j:=h3
    have h4:j<(n.Acx - 1)*c.G8+n.Sq+(c.G8 - n.Sq):=h4
    have:=A6v (a:=n.Acx - 1) (s:=c.G8) (j:=j) (by omega) (by omega) (by omega)
    exact S.new _ m1 (by grind)
def A5g (al:Int):Bool:=al==1||(al==2||al==4)
theorem A3g (K:Nat)(al:Int):Ark K al=some (A5g al):=by
 grind [Ark,A5g]
theorem Bdp{al:Int}(h:A5g al=true):al=1∨al=2∨al=4:=by
 simp_all[A5g]
theorem Bfl (K:Nat){b al:Int}(hb:0≤b∧b≤1000)(ha:A5g al=true): ∃off,Ayj K b al=some off∧b≤off∧off≤2000:=by
 unfold Ayj;rw[Ane,Acw.2 ⟨by omega,by omega⟩,A3g,ha]
 simp only[Z0,cond_true,Bool.not_true,cond_false]
 have e:An7 .i64 (An6 .i64 b al) 1=b+al - 1:=by
  grind [Bdp,An7,An6,K0]
 rw[e]
 have key: ∀a:Int,1≤a->a≤4->An8 .i64 (Alk .i64 (b+a - 1) a) a=(b+a - 1) / a*a:=by
  intro a h1 h2
  have h3:(b+a - 1) / a≤b+a - 1:=Int.ediv_le_self _ (by omega)
  have h4:0≤(b+a - 1) / a:=Int.ediv_nonneg (by omega) (by omega)
  have h5:=Au4 (a:=(b+a - 1) / a) (b:=a) (m:=2000) (n:=4) h4 (by omega) (by omega) h2
  grind [Alk,An8,K0]
 rcases Bdp ha with h|h|h
 ·subst h;rw[if_pos (by decide),key 1 (by omega) (by omega)]
  grind
 ·subst h;rw[if_pos (by decide),key 2 (by omega) (by omega)]
  grind
 ·subst h;rw[if_pos (by decide),key 4 (by omega) (by omega)]
  grind
section
variable {K:Nat} (hK:281474976710656≤K)
include hK
theorem A99{c:Ea}{n:As}(L:Aqv c n)(W:Apx n)(hc:0≤n.Acx∧n.Acx≤1000)(size al:Int)(hs: -1000000≤size∧size≤1000000): ∃at_ b,Aww K c n size al=some (at_,b)∧(b=true-> ∃off,at_=(n.Acx - 1)*c.G8+off∧n.Acx≠0∧n.Sq≤off∧1≤size∧off+size≤c.G8):=by
 obtain⟨b1,b2,_⟩:=F2 L.conf
 have h1:=Asi L.conf L.dist
 have h3:=L.nth
 have h4:=L.ntag;unfold Aww;rw[Atu hK c n (by omega) (by omega) (by omega),(Ag9.2 L).1]
 simp only[Z0,cond_true]
 by_cases q:n.Acx=0
 ·simp_all
 ·rw[Aps q,Ane];simp only[cond_false,Z0]
  by_cases q2:1≤size∧size≤c.G8
  ·rw[Acw.2 q2,A3g];simp only[cond_true,Z0];cases ha:A5g al with
   |false=>simp_all
   |true=>
    obtain⟨m1,m2,m3⟩:=A52 L hc q
    have hm:=Axu L.dist _ m1;obtain⟨off,eo,ho1,ho2⟩:=Bfl K (b:=n.Sq) ⟨m2,by omega⟩ ha
    simp only[Bool.not_true,cond_false];rw[eo,Z0]
    have e1:An6 .i64 off size=off+size:=by grind [An6,K0]
    have e2:An7 .i64 n.Acx 1=n.Acx - 1:=sb1 (by omega) (by omega)
    have h5:=Au4 (a:=n.Acx - 1) (b:=c.G8) (m:=12) (n:=16) (by omega) (by omega) (by omega) b2.2
    have e3:An8 .i64 (n.Acx - 1) c.G8=(n.Acx - 1)*c.G8:=by grind [An8,K0]
    have e4:An6 .i64 ((n.Acx - 1)*c.G8) off=(n.Acx - 1)*c.G8+off:=by grind [An6,K0]
    rw[e1,e2,e3,e4]
    by_cases q3:off+size>c.G8
    all_goals simp_all[decide_eq_false]
  ·rw[A7l.2 q2];grind
theorem A7f{c:Ea}{n:As}(L:Aqv c n)(W:Apx n)(hc:0≤n.Acx∧n.Acx≤1000)(size al:Int)(hs: -1000000≤size∧size≤1000000): ∃n' b,At8 K c n size al=some (n',b)∧(n'=n∨ ∃off,Bom c n off size∧n'=A8x c n off size):=by
 have hm:=V1;obtain⟨b1,b2,_⟩:=F2 L.conf
 have h3:=L.nth;obtain⟨at_,b,e,hb⟩:=A99 hK L W hc size al hs;unfold At8;rw[Atv K W,Z0,e,Z0];cases b with
 |false=>grind
 |true=>
  obtain⟨off,e1,h1,h2,h4,h5⟩:=hb rfl;obtain⟨m1,m2,m3⟩:=A52 L hc h1
  have hmi:=Axu L.dist _ m1;simp only[cond_true]
  by_cases q:(n.F6.length:Int)≥12
  ·simp_all
  ·rw[decide_eq_false q];simp only[cond_false];rw[if_pos ⟨by grind,by grind⟩]
   refine⟨_,_,rfl,.inr ⟨off,⟨h1,h2,h4,h5,by omega⟩,?_⟩⟩
   have e2:An7 .i64 n.Acx 1=n.Acx - 1:=sb1 (by omega) (by omega)
   have h6:=Au4 (a:=n.Acx - 1) (b:=c.G8) (m:=12) (n:=16) (by omega) (by omega) (by omega) b2.2
   have e3:An8 .i64 (n.Acx - 1) c.G8=(n.Acx - 1)*c.G8:=by grind [An8,K0]
   have e4:An7 .i64 at_ ((n.Acx - 1)*c.G8)=off:=by grind [An7,K0]
   have e5:An6 .i64 off size=off+size:=by grind [An6,K0]
   rw[e2,e3,e4,e5,e1];rfl
theorem Bon{c:Ea}{n:As}(L:Aqv c n)(W:Apx n)(hc:0≤n.Acx∧n.Acx≤1000)(size al:Int)(hs: -1000000≤size∧size≤1000000): ∃b,Aux K c n size al=some b:=by
 have h1:=Asi L.conf L.dist
 have h3:=L.nth
 have h4:=L.ntag;obtain⟨at_,b,e,hb⟩:=A99 hK L W hc size al hs;unfold Aux;rw[e,Atu hK c n (by omega) (by omega) (by omega),(Ag9.2 L).1,Ane,A3g,L.st]
 simp only[Z0];cases b<;>cases inB size 1 c.G8<;>exact⟨_,rfl⟩
theorem Bdq{c:Ea}{mem:List Int}{n:As}(L:Aqv c n)(W:Apx n)(hc:0≤n.Acx∧n.Acx≤1000)(T:ThP c mem n){a run size:Int}(S:Bfk c n a run size):Aqn K c n a size=some (A2h c n a run size,true):=by
 have hm:=V1;obtain⟨b1,b2,_⟩:=F2 L.conf
 have h1:=Asi L.conf L.dist
 have h3:=L.nth
 have h4:=L.ntag
 have hz:=S.hz;have ha:=S.at_;obtain⟨L2,T2⟩:=Bdo L hc T S
 have hrun:run=(size+c.G8 - 1) / c.G8:=by
  rw[S.hr];unfold Att;rw[Acw.2 ⟨by omega,by omega⟩,Acw.2 ⟨by omega,by omega⟩];rfl
 have hru:size≤run*c.G8:=by
  have:=Int.lt_ediv_add_one_mul_self (size+c.G8 - 1) (show 0<c.G8 by omega)
  grind
 have hr1:1≤run:=by
  rw[hrun];exact(Int.le_ediv_iff_mul_le (by omega)).2 (by omega)
 have q1:run*c.G8≤c.Ay*c.G8:=Int.mul_le_mul_of_nonneg_right (by omega) (by omega)
 have hby:Ala c=c.Ay*c.G8:=by unfold Ala;rw[L.conf];rfl
 have e3:An8 .i64 a c.G8=a*c.G8:=by
  have h5:=Au4 (a:=a) (b:=c.G8) (m:=12) (n:=16) (by omega) (by omega) (by omega) b2.2
  grind [An8,K0]
 unfold Aqn Ao7 Al1;rw[Atv K W,Z0,Aq6,L.conf];simp only[Z0,cond_true];rw[show(n.Vi != 1)=false by rw[L.st];rfl,cond_false,decide_eq_true (by omega),cond_true,At3,Z0,decide_eq_false (by omega),cond_false,Ane,Azo hK L.conf,Acw.2 ⟨by omega,by omega⟩]
 simp only[Z0,Bool.not_true,cond_false];rw[A07,Z0,←S.hr,Z0]
 have key: ∀(f i:Nat) (v:List Int),(i:Int)≤run->run.toNat - i<f->v=n.Ay++(List.range i).map (fun(j:Nat)=>a+(j:Int))->Anb K c a size run f (i:Int) (As.mk n.Vi n.C9 n.Sl n.fUp n.Sm n.Ef n.Sn n.So v n.Acx n.Sq n.F6 n.Fi) (As.mk 0 0 0 0 0 0 0 0 [] 0 0 [] []) n.Vi n.C9 n.Sl n.fUp n.Sm n.Ef n.Sn n.So n.Ay n.Acx n.Sq n.F6 n.Fi=some (A2h c n a run size,true):=by
  intro f
  induction f with
  |zero=>omega
  |succ f ih=>
   intro i v hi hf hv
   have hvl:v.length=n.Ay.length+i:=by grind
   rw[Anb]
   by_cases h:(i:Int)=run
   ·rw[decide_eq_false (by omega),cond_false,e3]
    simp only;rw[if_pos ⟨by grind,by grind⟩]
    have el:As.mk n.Vi n.C9 n.Sl n.fUp n.Sm n.Ef n.Sn n.So v n.Acx n.Sq (n.F6++[Bc.mk (a*c.G8) size run]) n.Fi=A2h c n a run size:=by
     grind [A2h,A53]
    have hl2:=L2.nth
    have hl3:=Asi L2.conf L2.dist;rw[el,Atu hK c (A2h c n a run size) (by omega) (by omega) (show n.Fi.length≤_ by omega),(Ag9.2 L2).1]
    rfl
   ·have e1:An6 .i64 a (i:Int)=a+(i:Int):=by unfold An6;exact K0 (by omega) (by omega)
    rw[decide_eq_true (by omega),cond_true,e1,Ad5 (by omega)]
    simp only;rw[if_pos ⟨by grind,by grind⟩]
    refine ih (i+1) _ (by omega) (by omega) ?_
    grind [List.range_succ]
 have:=key K 0 n.Ay (by omega) (by omega) (by simp)
 exact this
end
theorem A4e{w:C5}{E:Int}{n:Nat}(G:Dy w E n){k:Int}(hk:AlW w.fL k){p':Dn}{n':As}
  (P':A16 w.fC p') (hone: ∀c,0≤c∧c<w.fC.Ay->(gt p'.Vi c=2 ↔ gt w.fP.Vi c=2)∧(gt p'.Vi c=1∧gt p'.N8 c=k ↔ c∈n'.Ay)∧ ∀x,x≠k->(gt p'.Vi c=1∧gt p'.N8 c=x ↔ gt w.fP.Vi c=1∧gt w.fP.N8 c=x))
  (hm:p'.N7=w.fP.N7) (hlk:A3c n'=A3c (gt w.fL k)) (L:Aqv w.fC n') (T:ThP w.fC w.fP.N7 n') (he:EpP E n') {m:Nat} (hwt:wtN w.fC n'≤wtN w.fC (gt w.fL k)+m):
  Dy (C5.mk w.fC p' (w.fL.set k.toNat n') w.fQ w.Acy) E (n+m)∧AlW (w.fL.set k.toNat n') k∧gt (w.fL.set k.toNat n') k=n':=by
 obtain⟨t,A,F⟩:=G.inv.forest
 have al:=hk.al A
 have hki:=al.lv.1
 have hst:=((Ax0 A).1 al.lv).2
 have hg: ∀x,0≤x∧x<(w.fL.length:Int)->gt (w.fL.set k.toNat n') x=if x=k then n' else gt w.fL x:=fun x hx=>Apy hki hx n'
 have hgk:gt (w.fL.set k.toNat n') k=n':=Au7 hki n'
 have A':AtT (w.fL.set k.toNat n') t:=fun x hx=>by
  rw[Z49]at hx;rw[hg x hx,A x hx]
  grind
 have I':Inv (C5.mk w.fC p' (w.fL.set k.toNat n') w.fQ w.Acy):=by
  refine Bg7 G.inv hki p' _ t (by simp) (fun x hx hne=>⟨_,_,_,by rw[hg x hx,if_neg hne];exact(A8u _).symm,?_,?_,?_⟩) (by omega) (by grind) A' F P' hm (by simp_all) (by grind [ThP.inch,ThP.apart,ThP.loose])
  ·rw[←G.inv.len];exact(G.inv.rg.rg x hx).2.1
  ·rw[←G.inv.len];exact(G.inv.rg.rg x hx).2.2.1
  ·rw[←G.inv.len];exact(G.inv.rg.rg x hx).2.2.2
 refine⟨⟨I',by show ∀x∈p'.N7,_;rw[hm];exact G.mem,fun x hx=> ?_,?_⟩,⟨t,A',by grind⟩,hgk⟩
 ·have hx:0≤x∧x<((w.fL.set k.toNat n').length:Int):=hx;rw[Z49]at hx
  show EpP E (gt (w.fL.set k.toNat n') x)
  grind [Dy.ep]
 ·have hs:=A39 (f:=wtN w.fC) (l:=w.fL) (l':=w.fL.set k.toNat n') (by simp) hki fun x hx hne=>by grind
  rw[hgk]at hs
  have h3:=G.wt
  grind [wt,pot]
theorem Dy.live{w:C5}{E:Int}{n:Nat}(G:Dy w E n){k:Int}(hk:AlW w.fL k):(0≤k∧k<(w.fL.length:Int))∧Aqv w.fC (gt w.fL k)∧ThP w.fC w.fP.N7 (gt w.fL k)∧EpP E (gt w.fL k):=by
 obtain⟨t,A,F⟩:=G.inv.forest
 have al:=(hk.al A).lv;obtain⟨t1,t2,t3⟩:=G.inv.thing k al.1;exact⟨al.1,G.inv.live A al,⟨t1,t2,t3⟩,G.ep k al.1⟩
theorem A8y{w:C5}(I:Inv w){k:Int}(hk:0≤k∧k<(w.fL.length:Int)){ch:List Int}(h:ch=(gt w.fL k).Ay): ∀c,0≤c∧c<w.fC.Ay->(gt w.fP.Vi c=2 ↔ gt w.fP.Vi c=2)∧(gt w.fP.Vi c=1∧gt w.fP.N8 c=k ↔ c∈ch)∧ ∀x,x≠k->(gt w.fP.Vi c=1∧gt w.fP.N8 c=x ↔ gt w.fP.Vi c=1∧gt w.fP.N8 c=x):=fun c hc=>⟨Iff.rfl,by simp_all[Inv.own],fun _ _=>Iff.rfl⟩
theorem Baa{w:C5}(I:Inv w){p':Dn}{a n k:Int}(hk:0≤k∧k<(w.fL.length:Int))(hf:A18 w.fP a n=true)(T:Bi9 w.fP p' a n k){ch:List Int}(h: ∀c,c∈ch ↔ c∈(gt w.fL k).Ay∨a≤c∧c<a+n):
  A16 w.fC p'∧ ∀c,0≤c∧c<w.fC.Ay->(gt p'.Vi c=2 ↔ gt w.fP.Vi c=2)∧(gt p'.Vi c=1∧gt p'.N8 c=k ↔ c∈ch)∧ ∀x,x≠k->(gt p'.Vi c=1∧gt p'.N8 c=x ↔ gt w.fP.Vi c=1∧gt w.fP.N8 c=x):=by
 obtain⟨a1,a2⟩:=A98 I hk hf T
 grind
section
variable {K:Nat} (hK:281474976710656≤K)
include hK
theorem Bab{E:Int}{n:Nat}(hE:0≤E∧E≤900000000)(hn:n≤900000000){w:C5}(G:Dy w E n){k:Int}(hk:AlW w.fL k)(size al:Int)(hs: -1000000≤size∧size≤1000000)(v19:Et)(v20 v21 v22 v23 v24 v25 v26:Int)(v27:List Int)(v28 v29 v30:Int):
  ∃r w',Asa K k size al w.fC.Ay w.fC.G8 w.fC.E6 w.fC.Gu w.fC.E7 w.fC.G9 w.fP.N7 w.fP.Vi w.fP.N8 w.fL w.fQ w.Acy v19 v20 v21 v22 v23 v24 v25 v26 v27 v28 v29 v30=some (r,w')∧Dy w' E n∧w'.fC=w.fC∧w'.fL.length=w.fL.length:=by
 obtain⟨hki,L,T,e⟩:=G.live hk
 have W:=A3f (Ag9.2 L).1 e (by omega)
 obtain⟨n',b,e1,h⟩:=A7f hK L W e.cur size al hs;unfold Asa;simp only[if_pos hki];rw[show Ea.mk w.fC.Ay w.fC.G8 w.fC.E6 w.fC.Gu w.fC.E7 w.fC.G9=w.fC from rfl,e1,Z0]
 have P:=Air.1 G.inv.pool;refine⟨_,_,rfl,?_,rfl,by simp⟩
 rcases h with h|⟨off,S,h⟩
 ·rw[h];exact(A4e G hk (n':=gt w.fL k) (m:=0) P (A8y G.inv hki rfl) rfl rfl L T e (by omega)).1
 ·rw[h];obtain⟨L2,T2⟩:=Bdn L e.cur T S;exact(A4e G hk (n':=A8x w.fC (gt w.fL k) off size) (m:=0) P (A8y G.inv hki rfl) rfl rfl L2 T2 ⟨e.ep,e.ue,e.cur⟩ (Z9 _)).1
theorem Boo{E:Int}{n:Nat}(hE:0≤E∧E≤900000000)(hn:n≤880000000){w:C5}(G:Dy w E n){k:Int}(hk:AlW w.fL k)(size al:Int)(hs: -1000000≤size∧size≤1000000)(a4:Et):
  ∃r w',Axb K w k size al a4=some (r,w')∧Dy w' E (n+16)∧w'.fC=w.fC∧w'.fL.length=w.fL.length:=by
 obtain⟨hki,L,T,e⟩:=G.live hk
 have W:=A3f (Ag9.2 L).1 e (by omega)
 have WW:=G.ww (by omega) (by omega)
 have hlen:=G.inv.len;obtain⟨b1,b2,b3,b4,b5,b6⟩:=F2 G.inv.conf;obtain⟨nb,e1⟩:=Bon hK L W e.cur size al hs;unfold Axb;simp only[if_pos hki];rw[e1,Z0];cases nb with
 |false=>
  simp only[cond_false];obtain⟨r,w',h1,h2,h3⟩:=Bab hK hE (by omega) G hk size al hs (Et.mk 0 (An.mk 0 0) (Br.mk (An.mk 0 0) 0 0) [] 0 0 0) a4.W4 a4.fH.Bm a4.fH.C9 a4.fR.fH.Bm a4.fR.fH.C9 a4.fR.Sl a4.fR.fNo a4.fB a4.W5 a4.Gu a4.N9
  exact⟨r,w',h1,Dy.le h2 (Int.le_refl E) (by omega),h3⟩
 |true=>
  simp only[cond_true];obtain⟨fb,ef⟩:=A4b hK WW (by omega) 1
  rw[ef,Z0];cases fb with
  |false=>exact⟨_,_,rfl,Dy.le G (Int.le_refl E) (by omega),rfl,rfl⟩
  |true=>
   simp only[Bool.not_true,cond_false];obtain⟨d,w1,ed,S⟩:=Bfh hK (by omega:0≤E∧E≤1000000000) (by omega) 0 (run:=1) (by omega) G
   have G1:=S.good;obtain⟨hk1,⟨x1,x2,x3,hnode⟩,_⟩:=S.stay.node k hk;obtain⟨hki1,L1,T1,e1⟩:=G1.live hk1
   have W1:=A3f (Ag9.2 L1).1 e1 (by omega)
   have WW1:=G1.ww (by omega) (by omega)
   have P1:=Air.1 G1.inv.pool
   have hst:=P1.st
   have how:=P1.own
   have hc1:=S.stay.conf;obtain⟨ch,ec,hch⟩:=A50 hK (p:=w1.fP) (by grind)
   rw[ed,Z0];simp only;rw[ec,Z0]
   by_cases q:ch<0
   ·rw[decide_eq_true q];exact⟨_,_,rfl,Dy.le G1 (Int.le_refl E) (by omega),hc1,S.stay.len⟩
   ·rw[decide_eq_false q];simp only[cond_false]
    have hf:=hch.resolve_left (by omega)
    obtain⟨f1,f2,f3,f4⟩:=Ax6.1 hf;obtain⟨p',ep,T'⟩:=A5e hK WW1.p (by grind) (by omega) (k:=k) hf
    have hnew:ch ∉ (gt w1.fL k).Ay:=fun h=>by
     have:=((G1.inv.own k hki1 ch).1 h).2.1
     grind
    rw[ep,Z0];simp only[if_pos hki1];rw[A6u hK L1 W1 ⟨f1,by omega⟩ hnew,Z0]
    simp only[if_pos hki1];obtain⟨P',hone⟩:=Baa G1.inv hki1 hf T' (ch:=(A4w (gt w1.fL k) ch).Ay) fun c=>by
     show c∈(gt w1.fL k).Ay++[ch] ↔ _
     grind
    have T2:ThP w1.fC w1.fP.N7 (A4w (gt w1.fL k) ch):=by
     refine⟨?_,T1.apart,?_⟩
     ·rw[Z1];exact fun o ho=>Bg8 (fun x hx=>Mj.2 (.inl hx)) (Z1.1 T1.inch o ho)
     ·refine A7e rfl rfl ((P1.one ch ⟨f1,by omega⟩).2.2.2 (f4 ch ⟨by omega,by omega⟩)) ?_
      rw[Z1];intro o ho;refine A2w fun j h1 h2 h3 h4=> ?_
      have h3:(ch+1 - 1)*w1.fC.G8+0≤j:=h3
      have h4:j<(ch+1 - 1)*w1.fC.G8+0+(w1.fC.G8 - 0):=h4;rw[Int.add_sub_cancel]at h3 h4
      have:=A6v (a:=ch) (s:=w1.fC.G8) (j:=j) (by omega) (by omega) (by omega)
      have h5:=A8w (Z1.1 T1.inch o ho) h1 h2
      grind
    obtain⟨G2,hk2,hg2⟩:=A4e G1 hk1 (n':=A4w (gt w1.fL k) ch) (m:=16) P' hone T'.mem rfl (A6t L1 ⟨f1,by omega⟩ hnew) T2 ⟨e1.ep,e1.ue,⟨by show 0≤ch+1;omega,by show ch+1≤_;grind⟩⟩ (by
     have hz:w1.fC.G8.toNat≤16:=by grind
     have hst1:(A4w (gt w1.fL k) ch).Vi=1:=L1.st;unfold wtN;rw[if_pos L1.st,if_pos hst1]
     show 2+(gt w1.fL k).Fi.length+w1.fC.G8.toNat*((gt w1.fL k).Ay++[ch]).length≤_;rw[Z23,List.length_singleton,Nat.mul_succ];omega)
    obtain⟨r,w',h1,h2,h3,h4⟩:=Bab hK hE (n:=n+16) (by omega) G2 hk2 size al hs (Et.mk 0 (An.mk 0 0) (Br.mk (An.mk 0 0) 0 0) [] 0 0 0) a4.W4 a4.fH.Bm a4.fH.C9 a4.fR.fH.Bm a4.fR.fH.C9 a4.fR.Sl a4.fR.fNo a4.fB a4.W5 a4.Gu d
    refine⟨r,w',h1,h2,h3.trans hc1,h4.trans ?_⟩
    show(w1.fL.set _ _).length=_
    grind [A4v.len,Steps.stay]
theorem Bop{E:Int}{n:Nat}(hE:0≤E∧E≤900000000)(hn:n≤900000000){w:C5}(G:Dy w E n){k:Int}(hk:AlW w.fL k)(size:Int)(hs:w.fC.G8<size∧size≤200)(hcnt:(gt w.fL k).F6.length<12)(a4:Et):
  ∃r w',Axa K w k size a4=some (r,w')∧Dy w' E (n+192)∧w'.fC=w.fC∧w'.fL.length=w.fL.length:=by
 have WW:=G.ww (by omega) (by omega)
 have hlen:=G.inv.len;obtain⟨b1,b2,b3,b4,b5,b6⟩:=F2 G.inv.conf;unfold Axa Al1;rw[A07,Z0,Z0];obtain⟨fb,ef⟩:=A4b hK WW (by omega) (Att size w.fC.G8)
 have hrun:Att size w.fC.G8=(size+w.fC.G8 - 1) / w.fC.G8:=by
  unfold Att;rw[Acw.2 ⟨by omega,by omega⟩,Acw.2 ⟨by omega,by omega⟩];rfl
 have hr2:Att size w.fC.G8≤1000:=by
  have:(size+w.fC.G8 - 1) / w.fC.G8≤size+w.fC.G8 - 1:=Int.ediv_le_self _ (by omega)
  omega
 have hr1:1≤Att size w.fC.G8:=by
  rw[hrun];exact(Int.le_ediv_iff_mul_le (by omega)).2 (by omega)
 rw[ef,Z0];cases fb with
 |false=>exact⟨_,_,rfl,Dy.le G (Int.le_refl E) (by omega),rfl,rfl⟩
 |true=>
  simp only[Bool.not_true,cond_false];obtain⟨d,w1,ed,S⟩:=Bfh hK (by omega:0≤E∧E≤1000000000) (by omega) 0 (run:=Att size w.fC.G8) (by omega) G
  have G1:=S.good;obtain⟨hk1,⟨x1,x2,x3,hnode⟩,_⟩:=S.stay.node k hk;obtain⟨hki1,L1,T1,e1⟩:=G1.live hk1
  have W1:=A3f (Ag9.2 L1).1 e1 (by omega)
  have WW1:=G1.ww (by omega) (by omega)
  have P1:=Air.1 G1.inv.pool
  have hst:=P1.st
  have how:=P1.own
  have hc1:=S.stay.conf;rw[hc1]at hst how;obtain⟨at_,ec,hat⟩:=A7d hK (p:=w1.fP) (n:=Att size w.fC.G8) (by omega) (by omega)
  rw[ed,Z0];simp only;rw[ec,Z0]
  by_cases q:at_<0
  ·rw[decide_eq_true q];exact⟨_,_,rfl,Dy.le G1 (Int.le_refl E) (by omega),hc1,S.stay.len⟩
  ·rw[decide_eq_false q];simp only[cond_false]
   have hf:=hat.resolve_left (by omega)
   obtain⟨f1,f2,f3,f4⟩:=Ax6.1 hf;obtain⟨p',ep,T'⟩:=A5e hK WW1.p (by omega) (by omega) (k:=k) hf
   have SP:Bfk w1.fC (gt w1.fL k) at_ (Att size w.fC.G8) size:=by
    refine⟨by grind,by rw[hc1],by grind,fun x hx h=> ?_,by rw[hnode];exact hcnt⟩
    have:=((G1.inv.own k hki1 x).1 hx).2.1
    grind
   obtain⟨L2,T2⟩:=Bdo L1 e1.cur T1 SP;rw[ep,Z0];simp only[if_pos hki1];rw[Bdq hK L1 W1 e1.cur T1 SP,Z0]
   try simp only[if_pos hki1]
   obtain⟨P',hone⟩:=Baa G1.inv hki1 hf T' (ch:=(A2h w1.fC (gt w1.fL k) at_ (Att size w.fC.G8) size).Ay) fun c=>by
    show c∈(gt w1.fL k).Ay++A53 at_ (Att size w.fC.G8) ↔ _
    simp_all[A54]
   obtain⟨G2,hk2,hg2⟩:=A4e G1 hk1 (n':=A2h w1.fC (gt w1.fL k) at_ (Att size w.fC.G8) size) (m:=192) P' hone T'.mem rfl L2 T2 ⟨e1.ep,e1.ue,e1.cur⟩ (by
    have hst1:(A2h w1.fC (gt w1.fL k) at_ (Att size w.fC.G8) size).Vi=1:=L1.st;unfold wtN;rw[if_pos L1.st,if_pos hst1]
    show 2+(gt w1.fL k).Fi.length+w1.fC.G8.toNat*((gt w1.fL k).Ay++A53 at_ (Att size w.fC.G8)).length≤_
    have hrl:(A53 at_ (Att size w.fC.G8)).length≤12:=by grind [A53]
    have:=Nat.mul_le_mul (show w1.fC.G8.toNat≤16 by grind) hrl
    rw[Z23,Nat.mul_add];omega)
   refine⟨_,_,rfl,G2,hc1,?_⟩
   show(w1.fL.set _ _).length=_
   grind [A4v.len,Steps.stay]
theorem Bac{E:Int}{n:Nat}(hE:0≤E∧E≤900000000)(hn:n≤900000000){w:C5}(G:Dy w E n){k:Int}(hk:0≤k∧k<(w.fL.length:Int))(h:An)(c a b d e f g:Int)(l:List Int)(x y z:Int):
  ∃r w',Asb K h k w.fC.Ay w.fC.G8 w.fC.E6 w.fC.Gu w.fC.E7 w.fC.G9 w.fP.N7 w.fP.Vi w.fP.N8 w.fL w.fQ w.Acy c a b d e f g l x y z=some (r,w')∧Dy w' E n∧w'.fC=w.fC:=by
 unfold Asb;rw[show C5.mk (Ea.mk w.fC.Ay w.fC.G8 w.fC.E6 w.fC.Gu w.fC.E7 w.fC.G9) (Dn.mk w.fP.N7 w.fP.Vi w.fP.N8) w.fL w.fQ w.Acy=w from rfl]
 cases c != 0 with
 |true=>grind
 |false=>
  simp only[cond_false];obtain⟨t,w2,es,S2⟩:=A7w hK (E:=E) (n:=n) (by omega) (by omega) w.fC.Gu G
  simp only[if_pos hk,es,Z0];exact⟨_,_,rfl,S2.good,S2.stay.conf⟩
theorem A6w{E:Int}{n:Nat}(hE:0≤E∧E≤900000000)(hn:n≤800000000){w:C5}(G:Dy w E n)(h:An){size al:Int}(hs:1≤size∧size≤200){k:Int}(a b:Et)(hk:a.W4=0->AlW w.fL k∧(gt w.fL k).F6.length<12):
  ∃r w',Aqg K h size al k w.fC.Ay w.fC.G8 w.fC.E6 w.fC.Gu w.fC.E7 w.fC.G9 w.fP.N7 w.fP.Vi w.fP.N8 w.fL w.fQ w.Acy a b=some (r,w')∧Dy w' E (n+192)∧w'.fC=w.fC:=by
 unfold Aqg Ao7;rw[show C5.mk (Ea.mk w.fC.Ay w.fC.G8 w.fC.E6 w.fC.Gu w.fC.E7 w.fC.G9) (Dn.mk w.fP.N7 w.fP.Vi w.fP.N8) w.fL w.fQ w.Acy=w from rfl,show Ea.mk w.fC.Ay w.fC.G8 w.fC.E6 w.fC.Gu w.fC.E7 w.fC.G9=w.fC from rfl]
 by_cases h0:a.W4=0
 ·obtain⟨hk,hcnt⟩:=hk h0
  have hki:=(G.live hk).1;rw[h0];simp only[bne_self_eq_false,cond_false,Z0]
  by_cases q:size>w.fC.G8
  ·rw[decide_eq_true q];simp only[cond_true];obtain⟨r,w',h1,h2,h3,h4⟩:=Bop hK hE (by omega) G hk size ⟨q,hs.2⟩ hcnt a
   rw[h1,Z0];obtain⟨r2,w2,k1,k2,k3⟩:=Bac hK hE (n:=n+192) (by omega) h2 (k:=k) (by omega) h r.W4 r.fH.Bm r.fH.C9 r.fR.fH.Bm r.fR.fH.C9 r.fR.Sl r.fR.fNo r.fB r.W5 r.Gu r.N9
   grind
  ·rw[decide_eq_false q];simp only[cond_false];obtain⟨r,w',h1,h2,h3,h4⟩:=Boo hK hE (by omega) G hk size al (by omega) a
   rw[h1,Z0];obtain⟨r2,w2,k1,k2,k3⟩:=Bac hK hE (n:=n+16) (by omega) h2 (k:=k) (by omega) h r.W4 r.fH.Bm r.fH.C9 r.fR.fH.Bm r.fR.fH.C9 r.fR.Sl r.fR.fNo r.fB r.W5 r.Gu r.N9
   exact⟨r2,w2,k1,Dy.le k2 (Int.le_refl E) (by omega),k3.trans h3⟩
 ·rw[A0m h0];exact⟨_,_,rfl,Dy.le G (Int.le_refl E) (by omega),rfl⟩
theorem Bdr{E:Int}{n:Nat}(hE:0≤E∧E≤900000000)(hn:n≤800000000){w:C5}(G:Dy w E n)(h:An)(size al:Int): ∃r w',Axc K w h size al=some (r,w')∧Dy w' E (n+192)∧w'.fC=w.fC:=by
 have W:=G.ww (by omega) (by omega)
 have G0:=Dy.le G (Int.le_refl E) (by omega:n≤n+192)
 unfold Axc;rw[Ane,Z0]
 by_cases q:1≤size∧size≤200
 ·rw[Acw.2 q,A3g];simp only[cond_true,Z0];cases A5g al with
  |false=>exact⟨_,_,rfl,G0,rfl⟩
  |true=>
   simp only[Bool.not_true,cond_false];rw[Aqa hK W.l,Z0,Awi hK w W.l,Z0]
   by_cases h0:(Agu w.fL h).2=0
   ·have hal:=A4s G.inv h0
    have hki:=(G.live hal).1;rw[h0];simp only[beq_self_eq_true,cond_true];simp only[if_pos hki]
    by_cases q2:((gt w.fL (Agu w.fL h).1).F6.length:Int)≥12
    ·rw[decide_eq_true q2];exact A6w hK hE hn G h q (al:=al) (k:=(Agu w.fL h).1) (Et.mk 8 (An.mk 0 0) (Br.mk (An.mk 0 0) 0 0) [] (A31 w h) 0 0) (Et.mk 0 (An.mk 0 0) (Br.mk (An.mk 0 0) 0 0) [] 0 0 0) (fun f=>absurd (show(8:Int)=0 from f) (by decide))
    ·rw[decide_eq_false q2];exact A6w hK hE hn G h q (al:=al) (k:=(Agu w.fL h).1) (Et.mk 0 (An.mk 0 0) (Br.mk (An.mk 0 0) 0 0) [] (A31 w h) 0 0) (Et.mk 0 (An.mk 0 0) (Br.mk (An.mk 0 0) 0 0) [] 0 0 0) (fun f=>⟨hal,by omega⟩)
   ·rw[Aps h0];exact A6w hK hE hn G h q (al:=al) (k:=(Agu w.fL h).1) (Et.mk (Agu w.fL h).2 (An.mk 0 0) (Br.mk (An.mk 0 0) 0 0) [] (A31 w h) 0 0) (Et.mk 0 (An.mk 0 0) (Br.mk (An.mk 0 0) 0 0) [] 0 0 0) (fun f=>absurd f h0)
 ·rw[A7l.2 q]
  grind
end
def Em (mem:List Int)(p:Int)(s:List Int):List Int:=mem.take p.toNat++s++mem.drop (p.toNat+s.length)
def A7x (mem:List Int)(t:Bc)(off:Int)(s:List Int):Bool:=decide ((0≤off∧(0:Int)≤(s.length:Int)∧off+(s.length:Int)≤t.Ajm)∧0≤An6 .i64 t.fAt off∧An6 .i64 t.fAt off+(s.length:Int)≤(mem.length:Int))
def Bfm (mem:List Int)(t:Bc)(off:Int)(s:List Int):List Int×Bool:=bif A7x mem t off s then(Em mem (An6 .i64 t.fAt off) s,true)else(mem,false)
theorem E0{mem:List Int}{p:Int}{s:List Int}(h0:0≤p)(h1:p+(s.length:Int)≤(mem.length:Int)):(Em mem p s).length=mem.length:=by
 grind [Em]
theorem Boq{mem s:List Int}{p j:Nat}(hj:j<s.length)(hp:p+s.length≤mem.length):(mem.take p++s.take j++mem.drop (p+j)).set (p+j) s[j]=mem.take p++s.take (j+1)++mem.drop (p+(j+1)):=by
 have hl:(mem.take p++s.take j).length=p+j:=by grind
 rw[List.set_append_right _ _ (by omega),hl,Nat.sub_self,Z47 (by omega:p+j<mem.length),List.set_cons_zero,←List.take_append_getElem hj]
 grind
section
variable {K:Nat} (hK:281474976710656≤K)
include hK
theorem Bfn{mem s:List Int}(hm:mem.length≤140737488355327)(p:Int)(hs:s.length≤140737488355327):A0y K mem p s=some (bif decide (0≤p∧(0:Int)≤(s.length:Int)∧p+(s.length:Int)≤(mem.length:Int))then(Em mem p s,true)else(mem,false)):=by
 have hx:=V1;unfold A0y;simp only[Z38];rw[if_pos ⟨by omega,by omega⟩,Bc3 K hm,Z0,Ae2]
 by_cases h:0≤p∧(0:Int)≤(s.length:Int)∧p+(s.length:Int)≤(mem.length:Int)
 ·rw[decide_eq_true h,cond_true,cond_true];obtain⟨q,rfl⟩: ∃q:Nat,p=q:=⟨p.toNat,by omega⟩
  have:=A7n hK s (by omega) (fun _=>true) (some (Em mem (q:Int) s,true)) none (fun n j=>Aqc K (q:Int) s n (mem.take q++s.take j++mem.drop (q+j)) (j:Int)) (fun n j hj=> ?_) (fun n=> ?_)
  ·rw[Z1.2 (fun _ _=>rfl)]at this
   simp_all
  ·have hl:(mem.take q++s.take j++mem.drop (q+j)).length=mem.length:=by grind
   have e:An6 .i64 (q:Int) (j:Int)=((q+j:Nat):Int):=by grind [An6,K0]
   show Aqc K (q:Int) s (n+1) _ _=_;rw[Aqc,Ad7 hj,cond_true,if_pos (Aiy hj),e,hl,if_pos ⟨by omega,by omega⟩,Ad5 (by omega),V2 hj,Int.toNat_natCast,Boq hj (by omega)]
   rfl
  ·show Aqc K (q:Int) s (n+1) _ _=_
   simp_all[Aqc,Em]
 grind
theorem A7k{mem s:List Int}(hm:mem.length≤140737488355327)(hs:s.length≤140737488355327){t:Bc}(wt:ThingW t)(off:Int):Au0 K mem t off s=some (Bfm mem t off s):=by
 have hx:=V1;obtain⟨wl1,wl2⟩:=wt.2.1;unfold Au0 Ayp Bfm A7x;simp only[Z38];rw[if_pos ⟨by omega,by omega⟩,Bfn hK hm _ hs]
 simp only[Z0];rw[decide_eq_true (show(s.length:Int)≥0 by omega)]
 by_cases h1:(0:Int)≤off
 ·rw[decide_eq_true (show off≥0 from h1)]
  by_cases h3:off≤t.Ajm
  ·rw[decide_eq_true h3]
   have e:An7 .i64 t.Ajm off=t.Ajm - off:=by grind [An7,K0]
   grind
  grind
 grind
end
def Bbv (n:As)(v:Int):As:=As.mk n.Vi n.C9 n.Sl n.fUp n.Sm n.Ef n.Sn n.So n.Ay n.Acx n.Sq n.F6 (n.Fi++([v]:List Int))
theorem Bro (K:Nat)(r:Br): ∃b,A0w K r=some b:=by
 unfold A0w;rw[A40];simp only[Z0];cases Aul r.fH<;>cases decide (r.Sl≥0)<;>exact⟨_,rfl⟩
theorem Bjd (K:Nat){n:As}(hn:Apx n)(r:Br): ∃t b,Ayo K n r=some (t,b)∧(b=true->t∈n.F6):=by
 have h2:=hn.things
 have hl:n.F6.length≤140737488355327:=by have:=h2.2;omega
 unfold Ayo;rw[A0b K hl];simp only[Z0]
 by_cases hs:0≤r.fNo∧r.fNo<(n.F6.length:Int)
 ·rw[decide_eq_true hs,if_pos hs]
  have hm:gt n.F6 r.fNo∈n.F6:=Akq hs.1 hs.2;cases n.Vi != 1<;>cases n.Sl != r.Sl<;>first|simp_all|grind
 ·rw[decide_eq_false hs]
  simp_all
theorem A7g{K:Nat}(hK:281474976710656≤K){w:C5}(I:Inv w)(hw:Ad6 w.fL)(r:Br): ∃k t c,As9 K w r=some (k,t,c)∧(c=0->AlW w.fL k∧t∈(gt w.fL k).F6):=by
 unfold As9;obtain⟨b,h1⟩:=Bro K r;rw[h1,Aqa hK hw];simp only[Z0];cases b with
 |false=>exact⟨_,_,_,rfl,fun h=>by cases h⟩
 |true=>
  simp only[Bool.not_true,cond_false]
  by_cases h0:(Agu w.fL r.fH).2=0
  ·have hi:=A2o h0
   have hal:=A4s I h0;rw[if_pos hi,h0];obtain⟨q,b,h3,h4⟩:=Bjd K (hw.1 _ (Akq hi.1 hi.2)) r;rw[h3];simp only[Z0,bne_self_eq_false,cond_false];cases b with
   |false=>exact⟨_,_,_,rfl,fun h=>by cases h⟩
   |true=>exact⟨_,_,_,rfl,fun _=>⟨hal,h4 rfl⟩⟩
  ·rw[A0m h0]
   grind
theorem Brp{mem:List Int}{p:Int}{s:List Int}(h0:0≤p)(h1:p+(s.length:Int)≤(mem.length:Int)){j:Nat}(hj:j<mem.length)(h: ¬(p≤(j:Int)∧(j:Int)<p+(s.length:Int))):gt (Em mem p s) (j:Int)=gt mem (j:Int):=by
 have hl:=E0 h0 h1;rw[V2 (by omega),V2 hj]
 unfold Em
 by_cases q:(j:Int)<p
 ·grind
 ·rw[List.getElem_append_right (by grind),List.getElem_drop]
  grind
theorem Bor{mem:List Int}{p:Int}{s:List Int}(hm: ∀x∈mem,0≤x∧x≤255)(hs: ∀x∈s,0≤x∧x≤255): ∀x∈Em mem p s,0≤x∧x≤255:=by
 intro x hx;unfold Em at hx;rcases Mj.1 hx with h|h
 ·rcases Mj.1 h with h|h
  ·exact hm x (Z42 h)
  ·exact hs x h
 ·exact hm x (List.mem_of_mem_drop h)
theorem Bos{w:C5}{E:Int}{n:Nat}(G:Dy w E n){k:Int}(hk:AlW w.fL k){t:Bc}(ht:t∈(gt w.fL k).F6){mem':List Int}(hl:mem'.length=w.fP.N7.length)
  (hb: ∀x∈mem',0≤x∧x≤255) (hs: ∀j:Nat,j<w.fP.N7.length-> ¬(t.fAt≤(j:Int)∧(j:Int)<t.fAt+t.Ajm)->gt mem' (j:Int)=gt w.fP.N7 (j:Int)):
  Dy (C5.mk w.fC (Dn.mk mem' w.fP.Vi w.fP.N8) w.fL w.fQ w.Acy) E n:=by
 have I:=G.inv
 have P:=Air.1 I.pool;obtain⟨hki,L,T,e⟩:=G.live hk;obtain⟨b1,b2,b3,b4,b5,b6⟩:=F2 I.conf
 have hin: ∀j,t.fAt≤j->j<t.fAt+t.Ajm->j / w.fC.G8∈(gt w.fL k).Ay:=fun j h1 h2=>A8w (Z1.1 T.inch t ht) h1 h2
 have hz: ∀a m:Nat,Aqu ((w.fP.N7.drop a).take m)=true->(∀j:Nat,a≤j->j<a+m-> ¬(t.fAt≤(j:Int)∧(j:Int)<t.fAt+t.Ajm))->Aqu ((mem'.drop a).take m)=true:=by
  grind [A38]
 have hch: ∀c,0≤c∧c<w.fC.Ay->gt w.fP.Vi c≠1-> ∀j:Nat,(c*w.fC.G8).toNat≤j->j<(c*w.fC.G8).toNat+w.fC.G8.toNat-> ¬(t.fAt≤(j:Int)∧(j:Int)<t.fAt+t.Ajm):=by
  intro c hc hst j h1 h2 h3
  have h0:0≤c*w.fC.G8:=Int.mul_nonneg hc.1 (by omega)
  have h4:=hin j h3.1 h3.2;rw[A6v (a:=c) (by omega) (by omega) (by omega)]at h4
  exact hst ((I.own k hki c).1 h4).2.1
 refine⟨Bbp I (Dn.mk mem' w.fP.Vi w.fP.N8) w.fQ w.Acy ⟨P.conf,by rw[←P.mem];grind,P.st,P.own,fun c hc=> ?_⟩ (fun c hc=>⟨Iff.rfl,rfl⟩) (fun x hx=> ?_) rfl rfl (fun x hx=> ?_) I.chn I.chi I.log,hb,G.ep,G.wt⟩
 ·obtain⟨p1,p2,p3,p4⟩:=P.one c hc;refine⟨p1,p2,p3,fun h=>hz _ _ (p4 h) fun j h1 h2=>hch c hc ?_ j h1 h2⟩
  grind
 ·have h3:=(I.thing x hx).2.2
  by_cases hs1:(gt w.fL x).Vi=1
  ·have Lx:=Ag9.1 ⟨I.node x hx,hs1⟩
   have ex:=G.ep x hx
   by_cases hcur:(gt w.fL x).Acx=0
   ·grind [Arq]
   ·obtain⟨m1,m2,m3⟩:=A52 Lx ex.cur hcur
    have hm:=Axu Lx.dist _ m1
    have h0:0≤((gt w.fL x).Acx - 1)*w.fC.G8:=Int.mul_nonneg hm.1 (by omega)
    unfold Arq at h3 ⊢;rw[Aps hcur,Z52,Z4]at h3 ⊢;refine⟨hz _ _ h3.1 fun j h1 h2 h4=> ?_,h3.2⟩
    have h1:(((gt w.fL x).Acx - 1)*w.fC.G8+(gt w.fL x).Sq).toNat≤j:=h1
    have h2:j<(((gt w.fL x).Acx - 1)*w.fC.G8+(gt w.fL x).Sq).toNat+(w.fC.G8 - (gt w.fL x).Sq).toNat:=h2
    have h5:=hin j h4.1 h4.2;rw[A6v (a:=(gt w.fL x).Acx - 1) (by omega) (by omega) (by omega)]at h5
    have e1:=((I.own k hki _).1 h5).2.2
    have e2:=((I.own x hx _).1 m1).2.2
    have exk:x=k:=by omega
    rw[exk]at h3 h1 h2;refine Bdm (Z1.1 h3.2 t ht) h4.1 h4.2 (b:=Au6 w.fC (gt w.fL k)) ?_ ?_
    ·grind
    ·show(j:Int)<((gt w.fL k).Acx - 1)*w.fC.G8+(gt w.fL k).Sq+(w.fC.G8 - (gt w.fL k).Sq)
     grind
  ·rw[Awk (I.node x hx) hs1];rfl
 ·obtain⟨a,b⟩:=I.wrec x hx;refine⟨a,?_⟩
  have R:=Awm.1 a
  by_cases hc:0<x.Ay.length
  ·have hm:gt x.Ay 0∈x.Ay:=Aou (i:=0) hc
   have h1:=(I.chi _).1 (Bbl hx hm);unfold Ank at b ⊢;rw[Bool.or_eq_true]at b ⊢;rcases b with b|b
   ·grind
   ·refine .inr (hz _ _ b fun j h2 h3=>hch _ h1.1 (by omega) j h2 ?_)
    have hd:=R.done
    grind
  grind [Ank]
section
variable {K:Nat} (hK:281474976710656≤K)
include hK
theorem Brq{E:Int}{n:Nat}(hE:0≤E∧E≤900000000)(hn:n≤800000000){w:C5}(G:Dy w E n)(r:Br)(off m:Int): ∃a,A1u K w r off m=some (w,a):=by
 have W:=G.ww (by omega) (by omega)
 have P:=A6r (Air.1 G.inv.pool);obtain⟨k,t,c,e,h⟩:=A7g hK G.inv W.l r;unfold A1u;rw[At4 hK W,Awh hK w W,G.inv.ok,e,Awi hK w W.l];simp only[Z0,Bool.not_true,cond_false]
 by_cases h0:c=0
 ·obtain⟨hk,ht⟩:=h h0
  have hT:=Bbo (Z1.1 (G.live hk).2.1.things t ht);rw[h0];simp only[bne_self_eq_false,cond_false];rw[A8f K (by omega) hT,Z0]
  cases (Bng w.fP.N7 t off m).2<;>exact⟨_,rfl⟩
 simp_all[A0m]
theorem Bou{E:Int}{n:Nat}(hE:0≤E∧E≤900000000)(hn:n≤800000000){w:C5}(G:Dy w E n)(r:Br)(off:Int){s:List Int}(hs: ∀x∈s,0≤x∧x≤255)(hl:s.length≤1000000): ∃a w',A0z K w r off s=some (w',a)∧Dy w' E n∧w'.fC=w.fC:=by
 have W:=G.ww (by omega) (by omega)
 have P:=A6r (Air.1 G.inv.pool);obtain⟨k,t,c,e,h⟩:=A7g hK G.inv W.l r;unfold A0z;rw[At4 hK W,Awh hK w W,G.inv.ok,e,Awi hK w W.l];simp only[Z0,Bool.not_true,cond_false]
 by_cases h0:c=0
 ·obtain⟨hk,ht⟩:=h h0
  have htb:=Z1.1 (G.live hk).2.1.things t ht
  have hT:=Bbo htb;obtain⟨s1,s2,s3,s4⟩:=(A2m htb).1;rw[h0];simp only[bne_self_eq_false,cond_false];rw[A7k hK (by omega) (by omega) hT,Z0]
  unfold Bfm;cases ho:A7x w.fP.N7 t off s with
  |false=>exact⟨_,_,rfl,G,rfl⟩
  |true=>
   unfold A7x at ho;rw[decide_eq_true_iff]at ho
   have ea:An6 .i64 t.fAt off=t.fAt+off:=by grind [An6,K0]
   rw[ea]at ho ⊢;refine⟨_,_,rfl,Bos G hk ht (E0 (by omega) (by omega)) (Bor G.mem hs) (fun j hj hne=>Brp (by omega) (by omega) hj (by omega)),rfl⟩
 ·rw[A0m h0];grind
theorem Bov{E:Int}{n:Nat}(hE:0≤E∧E≤900000000)(hn:n≤800000000){w:C5}(G:Dy w E n)(h:An)(v:Int): ∃a w',Axv K w h v=some (w',a)∧Dy w' E (n+1)∧w'.fC=w.fC:=by
 have hm:=V1
 have W:=G.ww (by omega) (by omega)
 have G0:=Dy.le G (Int.le_refl E) (by omega:n≤n+1)
 unfold Axv Awa Ayq;rw[At4 hK W,Awh hK w W,G.inv.ok,Ane,Aqa hK W.l,Awi hK w W.l];simp only[Z0,cond_true]
 by_cases hv:0≤v∧v≤255
 ·rw[Acw.2 hv];simp only[Bool.not_true,cond_false]
  by_cases h0:(Agu w.fL h).2=0
  ·have hal:=A4s G.inv h0;obtain⟨hki,L,T,e⟩:=G.live hal;rw[h0];simp only[beq_self_eq_true,cond_true,if_pos hki]
   by_cases q:((gt w.fL (Agu w.fL h).1).Fi.length:Int)≥6
   ·rw[decide_eq_true q];grind
   ·rw[decide_eq_false q];simp only[cond_false];rw[if_pos ⟨by grind,by grind⟩]
    refine⟨_,_,rfl,?_,rfl⟩
    have P:=Air.1 G.inv.pool;refine(A4e G hal (n':=Bbv (gt w.fL (Agu w.fL h).1) v) (m:=1) P (A8y G.inv hki rfl) rfl rfl ⟨L.conf,L.st,L.gen,L.up,L.first,L.next,L.prev,L.ep,L.ue,L.dist,L.cur,L.nth,?_,?_,L.things⟩ ⟨T.inch,T.apart,T.loose⟩ ⟨e.ep,e.ue,e.cur⟩ ?_).1
    ·show(_++[v]).length≤6
     grind
    ·show(_++[v]).all _=true;rw[List.all_append,L.tags,Ge,Acw.2 hv];rfl
    ·have hst1:(Bbv (gt w.fL (Agu w.fL h).1) v).Vi=1:=L.st;unfold wtN;rw[if_pos L.st,if_pos hst1]
     show 2+(_++[v]).length+w.fC.G8.toNat*(gt w.fL (Agu w.fL h).1).Ay.length≤_
     grind
  ·rw[Aps h0]
   grind
 ·rw[A7l.2 hv];exact⟨_,_,rfl,G0,rfl⟩
theorem Bow{E:Int}{n:Nat}(hE:0≤E∧E≤900000000)(hn:n≤800000000){w:C5}(G:Dy w E n)(h:An): ∃a,Atz K w h=some (w,a):=by
 have W:=G.ww (by omega) (by omega)
 unfold Atz Avn;rw[At4 hK W,Awh hK w W,G.inv.ok,Aqa hK W.l,Awi hK w W.l];simp only[Z0,Bool.not_true,cond_false]
 by_cases h0:(Agu w.fL h).2=0
 ·have hal:=A4s G.inv h0;obtain⟨hki,L,T,e⟩:=G.live hal
  have hn:=W.l.1 _ (Akq hki.1 hki.2);rw[h0];simp only[beq_self_eq_true,cond_true,if_pos hki];unfold Avm;rw[Atu hK _ _ (Ax8 hK hn.chunks) (A90 hK hn.things) (Ax8 hK hn.tags)];simp only[Z0];cases (gt w.fL (Agu w.fL h).1).Acx==0<;>cases Ap6 w.fC (gt w.fL (Agu w.fL h).1)<;>exact⟨_,rfl⟩
 simp_all[Aps]
end
def Azh (a:List Int):Prop:= ∀x∈a,0≤x∧x≤255
theorem Bfo{a b:List Int}(h:Azh a)(g:Azh b):Azh (a++b):=by
 intro x hx;rcases Mj.1 hx with h1|h1
 ·exact h x h1
 ·exact g x h1
def Aey (c:D1):Prop:=Azh c.fb∧c.fb.length≤1048576∧0≤c.fi∧c.fi≤(c.fb.length:Int)
theorem Bg9 (x:Int):0≤An9 .i64 x 255∧An9 .i64 x 255≤255:=by
 grind [An9,BitVec.ofInt,IntKind.bits,Nat.and_le_right,K0]
theorem Bfp (K:Nat){a:List Int}(hb:Azh a)(ha:a.length≤1048576): ∀(n i:Nat) (v:Int),i≤a.length->a.length - i<n-> ∃c,Ava K a n v (i:Int)=some c∧Aey c:=by
 intro n
 induction n with
 |zero=>omega
 |succ n ih=>
  intro i v hi hn;rw[Ava]
  have done: ∀v,Aey (D1.mk a 0 v):=fun v=>⟨hb,ha,by grind,by grind⟩
  rcases Hn i a.length with h|h
  ·rw[Ad7 h];simp only[cond_true];cases decide ((i:Int)<4000)with
   |false=>grind
   |true=>
    simp only[cond_true];rw[if_pos ⟨by omega,by omega⟩,Ad5 (i:=i) (by omega)]
    exact ih (i+1) _ h (by omega)
  ·rw[Ars h];grind
theorem Box{K:Nat}(hK:281474976710656≤K){a:List Int}(hb:Azh a)(ha:a.length≤1048576): ∃c,A0p K a=some c∧Aey c:=by
 unfold A0p;exact Bfp K hb ha K 0 _ (Z21 _) (by omega)
theorem A4t (K:Nat){c:D1}(hc:Aey c): ∃r,Aq3 K c=some r∧(0≤r.1∧r.1≤255)∧Aey r.2:=by
 obtain⟨h1,h2,h3,h4⟩:=hc;unfold Aq3 Aw4;rw[if_pos (by decide),if_pos (by decide)]
 by_cases h:c.fi<(c.fb.length:Int)
 ·rw[decide_eq_true h];simp only[cond_true];rw[if_pos ⟨h3,h⟩]
  have e:An6 .i64 c.fi 1=c.fi+1:=by grind [An6,K0]
  exact⟨_,rfl,Bg9 _,h1,h2,by grind,by grind⟩
 ·rw[decide_eq_false h];exact⟨_,rfl,Bg9 _,h1,h2,h3,h4⟩
theorem Agq (K:Nat){c:D1}(hc:Aey c){n:Int}(hn:0<n): ∃r,Ap K c n=some r∧(0≤r.1∧r.1<n)∧Aey r.2:=by
 unfold Ap;rw[decide_eq_false (show ¬n≤0 by omega)]
 simp only[cond_false];obtain⟨r1,e1,b1,w1⟩:=A4t K hc
 by_cases h:n≤256
 ·rw[decide_eq_true h,e1];simp only[cond_true,Z0];rw[if_pos (by omega)]
  simp_all[Int.tmod_nonneg,Int.tmod_lt_of_pos]
 ·rw[decide_eq_false h,e1];simp only[cond_false,Z0];obtain⟨r2,e2,b2,w2⟩:=A4t K w1;rw[e2];simp only[Z0];obtain⟨r3,e3,b3,w3⟩:=A4t K w2;rw[e3];simp only[Z0];rw[if_pos (by omega)]
  refine⟨_,rfl,⟨Int.tmod_nonneg _ ?_,Int.tmod_lt_of_pos _ hn⟩,w3⟩;unfold An6 An8;rw[K0 (n:=r1.1*65536) (by omega) (by omega),K0 (n:=r2.1*256) (by omega) (by omega),K0 (n:=r1.1*65536+r2.1*256) (by omega) (by omega),K0 (by omega) (by omega)]
  omega
theorem Ats (K:Nat){c:D1}(hc:Aey c){n:Int}(hn:0<n): ∃r,Aim K c n=some r∧Aey r.2:=by
 obtain⟨r,e,_,w⟩:=Agq K hc hn
 simp_all[Aim]
theorem Azi (K:Nat){c:D1}(hc:Aey c){l:List Int}(hl:0<l.length): ∃x c',K1 K c l=some (x,c',l)∧x∈l∧Aey c':=by
 obtain⟨r,e,b,w⟩:=Agq K hc (n:=(l.length:Int)) (by omega)
 unfold K1;rw[e];simp only[Z0];rw[if_pos b];exact⟨_,_,rfl,Akq b.1 b.2,w⟩
theorem A7h (K:Nat){c:D1}(hc:Aey c)(n:Int): ∃r,Ap K c n=some r∧Aey r.2:=by
 by_cases h:0<n
 ·obtain⟨r,e,_,w⟩:=Agq K hc h
  grind
 ·unfold Ap
  simp_all
theorem B0m (x:Int):0≤IntKind.u8.wrap x∧IntKind.u8.wrap x≤255:=by rw[IntKind.wrap_u8];omega
theorem A8z{K:Nat}(hK:281474976710656≤K){c:D1}(hc:Aey c){n:Int}(h1:n≤1000): ∃b c',Ayc K c n=some (b,c')∧Azh b∧b.length≤1000∧Aey c':=by
 have hm:=V1
 have key: ∀(f i:Nat) (l:List Int) (c:D1),Aey c->Azh l->l.length=i->(i:Int)≤1000->(1000 - i)<f-> ∃b c',Ass K n f l (i:Int) c.fb c.fi c.fh=some (b,c')∧Azh b∧b.length≤1000∧Aey c':=by
  intro f
  induction f with
  |zero=>omega
  |succ f ih=>
   intro i l c hc hl hi h2 hf;rw[Ass]
   by_cases q:(i:Int)<n
   ·obtain⟨r,e,_,w⟩:=A4t K hc;rw[decide_eq_true q,cond_true,show D1.mk c.fb c.fi c.fh=c from rfl,e,Z0,if_pos ⟨by grind,by grind⟩,Ad5 (by omega)]
    exact ih (i+1) _ r.2 w (Bfo hl fun x hx=>by simp_all[B0m]) (by simp[hi]) (by omega) (by omega)
   ·rw[decide_eq_false q]
    grind
 exact key K 0 [] c hc (fun x hx=>by cases hx) rfl (by omega) (by omega)
def Aii (o:Co):Prop:=Azh o.fB∧o.fB.length≤1000
theorem Aqd (k:Int)(h:An)(r:Br)(n m:Int):Aii (Co.mk k h r n m []):=⟨(fun x hx=>by cases hx),Z21 _⟩
theorem A7i (K:Nat){c:D1}(hc:Aey c): ∃h c',At5 K c=some (h,c')∧Aey c':=by
 unfold At5;obtain⟨r,e,_,w⟩:=Agq K hc (n:=5) (by omega)
 obtain⟨q,e2,_,w2⟩:=Agq K w (n:=3) (by omega)
 rw[e,Z0,e2];exact⟨_,_,rfl,w2⟩
theorem A80{K:Nat}(hK:281474976710656≤K){c:D1}(hc:Aey c)(k:Int)(b:Bool)(r:Br)(h:An){o:Co}(ho:Aii o)(p:Co): ∃o' c',Aq9 K k b c.fb c.fi c.fh r h o p=some (o',c')∧Aii o'∧Aey c':=by
 unfold Aq9
 have e0:D1.mk c.fb c.fi c.fh=c:=rfl;rw[e0];cases b with
 |true=>exact⟨_,_,rfl,⟨ho.1,ho.2⟩,hc⟩
 |false=>
  simp only[cond_false];cases k==2 with
  |true=>
   simp only[cond_true];obtain⟨x,c1,e1,_,w1⟩:=Azi K hc (l:=[1,2,3,5,8,9,17,20,0,201]) (by simp)
   obtain⟨y,c2,e2,_,w2⟩:=Azi K w1 (l:=[1,1,2,4,3]) (by simp)
   rw[e1,Z0,if_pos rfl,e2,Z0,if_pos rfl];exact⟨_,_,rfl,⟨ho.1,ho.2⟩,w2⟩
  |false=>
   simp only[cond_false];cases k==3 with
   |true=>
    simp only[cond_true];obtain⟨x,e1,_,w1⟩:=Agq K hc (n:=4) (by omega)
    obtain⟨y,e2,_,w2⟩:=Agq K w1 (n:=5) (by omega)
    rw[e1,Z0,e2,Z0];exact⟨_,_,rfl,⟨ho.1,ho.2⟩,w2⟩
   |false=>
    simp only[cond_false];cases k==4 with
    |true=>
     simp only[cond_true];obtain⟨x,e1,_,w1⟩:=Agq K hc (n:=4) (by omega)
     obtain⟨y,e2,b2,w2⟩:=Agq K w1 (n:=4) (by omega)
     obtain⟨z,c3,e3,b3,l3,w3⟩:=A8z hK w2 (n:=y.1) (by omega)
     rw[e1,Z0,e2,Z0,e3,Z0];exact⟨_,_,rfl,⟨b3,l3⟩,w3⟩
    |false=>
     simp only[cond_false];cases k==5 with
     |true=>
      simp only[cond_true];obtain⟨x,c1,e1,_,w1⟩:=Azi K hc (l:=[1,7,255,256]) (by simp)
      rw[e1,Z0,if_pos rfl];exact⟨_,_,rfl,⟨ho.1,ho.2⟩,w1⟩
     |false=>exact⟨_,_,rfl,ho,hc⟩
theorem A81{K:Nat}(hK:281474976710656≤K){c:D1}(hc:Aey c): ∃o c',Avc K c=some (o,c')∧Aii o∧Aey c':=by
 unfold Avc;obtain⟨r1,e1,_,w1⟩:=Agq K hc (n:=9) (by omega)
 obtain⟨h2,c2,e2,w2⟩:=A7i K w1;obtain⟨r3,e3,_,w3⟩:=Agq K w2 (n:=2) (by omega)
 obtain⟨r4,e4,_,w4⟩:=Agq K w3 (n:=3) (by omega)
 rw[e1,Z0,e2,Z0,e3,Z0,e4,Z0];cases An6 .i64 1 r1.1==1 with
 |true=>
  simp only[cond_true];obtain⟨r5,e5,w5⟩:=Ats K w4 (n:=2) (by omega)
  rw[e5,Z0];cases r5.1 with
  |true=>exact⟨_,_,rfl,Aqd _ _ _ _ _,w5⟩
  |false=>exact⟨_,_,rfl,Aqd _ _ _ _ _,w5⟩
 |false=>
  simp only[cond_false];cases An6 .i64 1 r1.1==6 with
  |true=>simp_all[A80,Aqd]
  |false=>
   simp only[cond_false];cases An6 .i64 1 r1.1==7 with
   |true=>simp_all[A80,Aqd]
   |false=>simp_all[A80,Aqd]
theorem Bad (K:Nat){c:D1}(hc:Aey c): ∃x c',Awp K c=some (x,c')∧Ahn x=true∧Aey c':=by
 unfold Awp;obtain⟨r1,e1,b1,w1⟩:=Agq K hc (n:=11) (by omega)
 obtain⟨x2,c2,e2,m2,w2⟩:=Azi K w1 (l:=[8,8,9,12,16]) (by simp)
 obtain⟨r3,e3,b3,w3⟩:=Agq K w2 (n:=7) (by omega)
 obtain⟨r4,e4,b4,w4⟩:=Agq K w3 (n:=6) (by omega)
 obtain⟨x5,c5,e5,m5,w5⟩:=Azi K w4 (l:=[1,3,4,8,16]) (by simp)
 obtain⟨r6,e6,b6,w6⟩:=Agq K w5 (n:=4) (by omega)
 rw[e1,Z0,e2,Z0,if_pos rfl,e3,Z0,e4,Z0,e5,Z0,if_pos rfl,e6];refine⟨_,_,rfl,?_,w6⟩
 have a1:An6 .i64 2 r1.1=2+r1.1:=by grind [An6,K0]
 have a3:An6 .i64 2 r3.1=2+r3.1:=by grind [An6,K0]
 have a4:An6 .i64 1 r4.1=1+r4.1:=by grind [An6,K0]
 have a6:An6 .i64 1 r6.1=1+r6.1:=by grind [An6,K0]
 rw[a1,a3,a4,a6]
 have m2:x2=8∨x2=8∨x2=9∨x2=12∨x2=16:=by grind
 have m5:x5=1∨x5=3∨x5=4∨x5=8∨x5=16:=by grind
 unfold Ahn;simp only[Z4,Acw];omega
theorem Bfq{w:C5}{E:Int}{n:Nat}(G:Dy w E n)(hE:0≤E){k:Int}(hk:AlW w.fL k):Dy (Am6 w k) E n:=by
 obtain⟨t,A,F⟩:=G.inv.forest
 have al:=hk.al A
 have I':=Biz G.inv A F al;obtain⟨hki,L,T,e⟩:=G.live hk
 have R:=G.inv.rg
 have hN:(Am6 w k).fL.length=w.fL.length:=by grind [Am6,Awl]
 have hg: ∀x,0≤x∧x<(w.fL.length:Int)->gt (Am6 w k).fL x=if x=k then Aqj 2 (gt (Anf w.fL k) k).C9 else gt (Anf w.fL k) x:=fun x hx=>by
  unfold Am6;simp only;rw[Apy (by grind [Awl]) (by grind [Awl])];rfl
 refine⟨I',?_,fun x hx=> ?_,?_⟩
 ·show ∀x∈(Aio w.fP _).N7,_;rw[(A17 G.inv hki).2.1];exact G.mem
 ·rw[hN]at hx;rw[hg x hx]
  by_cases q:x=k
  ·rw[if_pos q];exact⟨hE,hE,⟨Int.le_refl 0,by show(0:Int)≤1000;omega⟩⟩
  ·rw[if_neg q,A3e R hki hx q]
   have:=G.ep x hx;exact⟨this.ep,this.ue,this.cur⟩
 ·have hs:=A39 (f:=wtN w.fC) hN hki fun x hx hne=>by rw[hg x hx,if_neg hne,A3e R hki hx hne];rfl
  rw[hg k hki,if_pos rfl,A4a _ (by decide)]at hs
  have e1:wtN w.fC (gt w.fL k)=2+(gt w.fL k).Fi.length+w.fC.G8.toNat*(gt w.fL k).Ay.length:=by unfold wtN;rw[if_pos L.st]
  have h3:=G.wt;unfold wt pot at h3 ⊢
  show((Am6 w k).fL.map (wtN w.fC)).sum+((w.fQ++[Ago (gt w.fL k) (An6 .i64 k 1)]).map (wtQ w.fC)).sum+w.Acy.length≤_
  have e2:wtQ w.fC (Ago (gt w.fL k) (An6 .i64 k 1))=1+(gt w.fL k).Fi.length+w.fC.G8.toNat*(gt w.fL k).Ay.length:=rfl
  grind
theorem Bfr{w:C5}{E:Int}{n:Nat}(G:Dy w E n)(hE:0≤E∧E≤900000000){k:Int}(hk:AlW w.fL k):Dy (A1k w k) (E+1) (n+1):=by
 obtain⟨t,A,F⟩:=G.inv.forest
 have al:=hk.al A;obtain⟨hki,L,T,e⟩:=G.live hk
 have h0:=L.ep
 have h1:=e.ep
 have I':=Bi0 G.inv A F al (by omega)
 have hN:(A1k w k).fL.length=w.fL.length:=by grind [A1k]
 have hg: ∀x,0≤x∧x<(w.fL.length:Int)->gt (A1k w k).fL x=if x=k then Azb (gt w.fL k)else gt w.fL x:=fun x hx=>Apy hki hx _
 refine⟨I',?_,fun x hx=> ?_,?_⟩
 ·show ∀x∈(Aio w.fP _).N7,_;rw[(A17 G.inv hki).2.1];exact G.mem
 ·rw[hN]at hx;rw[hg x hx]
  have hx':=G.ep x hx
  by_cases q:x=k
  ·rw[if_pos q];refine⟨?_,?_,⟨Int.le_refl 0,by show(0:Int)≤1000;omega⟩⟩
   ·show An6 .i64 (gt w.fL k).Sl 1≤_
    grind [ad1]
   ·have:=e.ue
    show(gt w.fL k).Sm≤_;omega
  ·rw[if_neg q]
   have h2:=hx'.ep;have h3:=hx'.ue;exact⟨by omega,by omega,hx'.cur⟩
 ·have hs:=A39 (f:=wtN w.fC) hN hki fun x hx hne=>by grind
  rw[hg k hki,if_pos rfl]at hs
  have e1:wtN w.fC (gt w.fL k)=2+(gt w.fL k).Fi.length+w.fC.G8.toNat*(gt w.fL k).Ay.length:=by unfold wtN;rw[if_pos L.st]
  have e0:wtN w.fC (Azb (gt w.fL k))=2:=by
   have hst1:(Azb (gt w.fL k)).Vi=1:=L.st;unfold wtN;rw[if_pos hst1];rfl
  have h3:=G.wt;unfold wt pot at h3 ⊢
  show((A1k w k).fL.map (wtN w.fC)).sum+((w.fQ++[Ago (gt w.fL k) 0]).map (wtQ w.fC)).sum+w.Acy.length≤_
  have e2:wtQ w.fC (Ago (gt w.fL k) 0)=1+(gt w.fL k).Fi.length+w.fC.G8.toNat*(gt w.fL k).Ay.length:=rfl
  grind
section
variable {K:Nat} (hK:281474976710656≤K)
include hK
theorem Bxd{E:Int}{n:Nat}(hE:0≤E∧E≤900000000)(hn:n≤800000000){w:C5}(G:Dy w E n){o:Co}(ho:Aii o): ∃w' a,Azx K w o=some (w',a)∧Dy w' E (n+1)∧w'.fC=w.fC:=by
 have W:=G.ww (by omega) (by omega)
 have G0:=Dy.le G (Int.le_refl E) (by omega:n≤n+1)
 unfold Azx;cases o.W3==3 with
 |true=>
  simp only[cond_true];obtain⟨a,e⟩:=Brq hK hE hn G o.fR o.fN o.fM
  grind
 |false=>
  simp only[cond_false];cases o.W3==4 with
  |true=>
   simp only[cond_true];obtain⟨a,w',e,g,c⟩:=Bou hK hE hn G o.fR o.fN (s:=o.fB) ho.1 (by have:=ho.2;omega)
   rw[e];exact⟨_,_,rfl,Dy.le g (Int.le_refl E) (by omega),c⟩
  |false=>
   simp only[cond_false];cases o.W3==5 with
   |true=>
    simp only[cond_true];obtain⟨a,w',e,g,c⟩:=Bov hK hE hn G o.fH o.fN
    grind
   |false=>
    simp only[cond_false];cases o.W3==8 with
    |true=>
     simp only[cond_true];obtain⟨a,e⟩:=Bow hK hE hn G o.fH
     grind
    |false=>
     simp_all[At4]
theorem Boy{E:Int}{n:Nat}(hE:0≤E∧E≤800000000)(hn:n≤700000000){w:C5}(G:Dy w E n)(b:Bool){o:Co}(ho:Aii o)(z:Et):
  ∃a w',Avo K b w.fC.Ay w.fC.G8 w.fC.E6 w.fC.Gu w.fC.E7 w.fC.G9 w.fP.N7 w.fP.Vi w.fP.N8 w.fL w.fQ w.Acy z o.W3 o.fH.Bm o.fH.C9 o.fR.fH.Bm o.fR.fH.C9 o.fR.Sl o.fR.fNo o.fN o.fM o.fB=some (a,w')∧Dy w' (E+1) (n+1)∧w'.fC=w.fC:=by
 have W:=G.ww (by omega) (by omega)
 have hq:=Bre w
 have hwt:=G.wt
 have G0:=Dy.le G (by omega:E≤E+1) (by omega:n≤n+1)
 unfold Avo;rw[show C5.mk (Ea.mk w.fC.Ay w.fC.G8 w.fC.E6 w.fC.Gu w.fC.E7 w.fC.G9) (Dn.mk w.fP.N7 w.fP.Vi w.fP.N8) w.fL w.fQ w.Acy=w from rfl]
 cases b with
 |true=>
  simp only[cond_true];rw[Aqa hK W.l,Z0,Awi hK w W.l,Z0]
  by_cases h0:(Agu w.fL (An.mk o.fH.Bm o.fH.C9)).2=0
  ·have hal:=A4s G.inv h0
   have hki:=(G.live hal).1;rw[h0];simp only[bne_self_eq_false,cond_false];cases o.W3==6 with
   |true=>
    simp only[cond_true];rw[Ba8 hK w W (by omega) hki,Z0]
    exact⟨_,_,rfl,Bfr G (by omega) hal,rfl⟩
   |false=>
    simp only[cond_false];rw[Be9 hK w W (by omega) hki,Z0]
    exact⟨_,_,rfl,Dy.le (Bfq G hE.1 hal) (by omega) (by omega),rfl⟩
  ·rw[A0m h0]
   grind
 |false=>
  simp only[cond_false];rw[show Co.mk o.W3 (An.mk o.fH.Bm o.fH.C9) (Br.mk (An.mk o.fR.fH.Bm o.fR.fH.C9) o.fR.Sl o.fR.fNo) o.fN o.fM o.fB=o from rfl]
  obtain⟨w',a,e,g,c⟩:=Bxd hK (by omega) (by omega) G ho
  rw[e];exact⟨_,_,rfl,Dy.le g (by omega) (Z9 _),c⟩
theorem B0n{E:Int}{n:Nat}(hE:0≤E∧E≤800000000)(hn:n≤700000000){w:C5}(G:Dy w E n){o:Co}(ho:Aii o): ∃a w',A00 K w o=some (a,w')∧Dy w' (E+1) (n+192)∧w'.fC=w.fC:=by
 unfold A00;cases o.W3==1 with
 |true=>
  simp only[cond_true];obtain⟨r,w',e,g,c⟩:=Bfi hK (by omega) (by omega) G o.fH
  rw[e];exact⟨_,_,rfl,Dy.le g (by omega) (by omega),c⟩
 |false=>
  simp only[cond_false];cases o.W3==2 with
  |true=>
   simp only[cond_true];obtain⟨r,w',e,g,c⟩:=Bdr hK (by omega) (by omega) G o.fH o.fN o.fM
   rw[e];exact⟨_,_,rfl,Dy.le g (by omega) (by omega),c⟩
  |false=>
   simp only[cond_false];cases o.W3==9 with
   |true=>
    simp only[cond_true];obtain⟨r,w',e,S⟩:=A7w hK (E:=E) (n:=n) (by omega) (by omega) 4000 G
    rw[e];exact⟨_,_,rfl,Dy.le S.good (by omega) (by omega),S.stay.conf⟩
   |false=>
    simp only[cond_false];cases o.W3==6 with
    |true=>
     simp only[cond_true];obtain⟨r,w',e,g,c⟩:=Boy hK hE hn G true ho (Et.mk 0 (An.mk 0 0) (Br.mk (An.mk 0 0) 0 0) [] 0 0 0);exact⟨_,_,e,Dy.le g (Int.le_refl _) (by omega),c⟩
    |false=>
     simp only[cond_false];obtain⟨r,w',e,g,c⟩:=Boy hK hE hn G (o.W3==7) ho (Et.mk 0 (An.mk 0 0) (Br.mk (An.mk 0 0) 0 0) [] 0 0 0);exact⟨_,_,e,Dy.le g (Int.le_refl _) (by omega),c⟩
end
theorem Bbw{α:Type}[Inhabited α]{n:Nat}(x:α){k:Int}(hk:0≤k∧k<(n:Int)):gt (List.replicate n x) k=x:=by
 obtain⟨j,rfl⟩: ∃j:Nat,k=j:=⟨k.toNat,by omega⟩
 grind [V2]
theorem A82{α:Type}(i:Nat)(x:α):List.replicate i x++[x]=List.replicate (i+1) x:=by rw[List.replicate_succ']
section
variable {K:Nat} (hK:281474976710656≤K)
include hK
def Bha (c:Ea):Dn:=Dn.mk (List.replicate (c.Ay*c.G8).toNat 0) (List.replicate c.Ay.toNat 0) (List.replicate c.Ay.toNat (-1))
theorem Bfs{c:Ea}(hc:Ahn c=true):Aya K c=some (Bha c):=by
 have hm:=V1;obtain⟨b1,b2,b3,b4,b5,b6⟩:=F2 hc
 have hb:=Au4 (a:=c.Ay) (b:=c.G8) (m:=12) (n:=16) (by omega) b1.2 (by omega) b2.2
 have hby:Ala c=c.Ay*c.G8:=by grind [Ala]
 unfold Aya A2y;rw[Aq6,hc,Z0,Bool.not_true,cond_false,At3,Z0,hby,Ane,Acw.2 ⟨by omega,by omega⟩]
 simp only[Z0,Bool.not_true,cond_false];rw[if_pos ⟨by omega,by omega,by omega,by omega⟩,Z0]
 have key: ∀(f i:Nat),(i:Int)≤c.Ay->c.Ay.toNat - i<f->Asp K c f (i:Int) (Dn.mk (List.replicate (c.Ay*c.G8).toNat 0) (List.replicate i 0) (List.replicate i (-1))) (Dn.mk [] [] [])=some (Bha c):=by
  intro f
  induction f with
  |zero=>omega
  |succ f ih=>
   intro i hi hf;rw[Asp]
   by_cases q:(i:Int)=c.Ay
   ·rw[decide_eq_false (by omega)]
    unfold Bha;rw[←q];rfl
   ·rw[decide_eq_true (by omega),cond_true,if_pos ⟨by grind,by grind⟩,if_pos ⟨by grind,by grind⟩,Ad5 (by omega)]
    simp only;rw[A82,A82];exact ih (i+1) (by omega) (by omega)
 exact key K 0 (by omega) (by omega)
theorem Bds{c:Ea}(hc:Ahn c=true):A0f K c=some (List.replicate c.E6.toNat (Aqj 0 1)):=by
 have hm:=V1;obtain⟨b1,b2,b3,b4,b5,b6⟩:=F2 hc
 have key: ∀(f i:Nat),(i:Int)≤c.E6->c.E6.toNat - i<f->Ar7 K c f (List.replicate i (Aqj 0 1)) (i:Int)=some (List.replicate c.E6.toNat (Aqj 0 1)):=by
  intro f
  induction f with
  |zero=>omega
  |succ f ih=>
   intro i hi hf;rw[Ar7]
   by_cases q:(i:Int)=c.E6
   ·grind
   ·unfold Ak0;rw[decide_eq_true (by omega),cond_true,Aq6,hc]
    simp only[Z0,cond_true];rw[show As.mk 0 1 0 0 0 0 0 0 [] 0 0 [] []=Aqj 0 1 from rfl,if_pos ⟨by grind,by grind⟩,Ad5 (by omega),A82]
    exact ih (i+1) (by omega) (by omega)
 exact key K 0 (by omega) (by omega)
def A2i (c:Ea):C5:=C5.mk c (Bha c) (List.replicate c.E6.toNat (Aqj 0 1)) [] []
theorem Bdt{c:Ea}(hc:Ahn c=true):Aw5 K c=some (A2i c):=by
 unfold Aw5;rw[Aq6,hc,Z0,Bool.not_true,cond_false,Bfs hK hc,Z0,Bds hK hc];rfl
end
def Boz (_:Int):Lk:=⟨false,false,0,0,0,0,0,0⟩
theorem A3h{N x:Int}: ¬Lv N Boz x:=fun h=>by have:=h.2;cases this
theorem Bdu (N:Int):Ag8 N Boz []:=by
 refine⟨⟨fun k h=>absurd h A3h,fun k h=>absurd h A3h,fun _ _ _ _=>⟨rfl,rfl,rfl,rfl⟩⟩,⟨fun _=>0,fun x h=>absurd h A3h⟩,⟨fun _=>0,fun x h=>absurd h A3h⟩,⟨List.nodup_nil,fun x=>⟨(fun h=>by cases h),fun h=>absurd h.1 A3h⟩,(fun f h=>by cases h)⟩,trivial,fun x h=>absurd h A3h,fun x h=>absurd h A3h,(fun e h=>by cases h)⟩
theorem Bo0{c:Ea}(hc:Ahn c=true):Dy (A2i c) 0 0:=by
 obtain⟨b1,b2,b3,b4,b5,b6⟩:=F2 hc
 have hb:=Au4 (a:=c.Ay) (b:=c.G8) (m:=12) (n:=16) (by omega) b1.2 (by omega) b2.2
 have hN:((A2i c).fL.length:Int)=c.E6:=by show((List.replicate _ _).length:Int)=_;grind
 have hg: ∀k,0≤k∧k<((A2i c).fL.length:Int)->gt (A2i c).fL k=Aqj 0 1:=fun k hk=>Bbw _ (by omega)
 have hs: ∀k,0≤k∧k<c.Ay->gt (A2i c).fP.Vi k=0:=fun k hk=>Bbw _ (by omega)
 have ho: ∀k,0≤k∧k<c.Ay->gt (A2i c).fP.N8 k= -1:=fun k hk=>Bbw _ (by omega)
 have hz: ∀a m:Nat,Aqu (((A2i c).fP.N7.drop a).take m)=true:=fun a m=>by
  rw[A38];intro j _ _ h
  have h:j<(List.replicate (c.Ay*c.G8).toNat (0:Int)).length:=h;rw[List.length_replicate]at h;exact Bbw _ ⟨by omega,by omega⟩
 refine⟨⟨Air.2 ⟨hc,?_,?_,?_,fun k hk=> ?_⟩,hN,fun k hk=> ?_,fun k hk x=> ?_,fun k hk=> ?_,⟨Boz,(fun k hk=>by rw[hg k hk];rfl),Bdu _⟩,(fun x h=>by cases h),List.nodup_nil,fun x=> ?_,List.nodup_nil,fun s=> ?_,rfl⟩,fun x hx=> ?_,fun k hk=> ?_,?_⟩
 ·show((List.replicate _ _).length:Int)=c.Ay*c.G8;grind
 ·show((List.replicate _ _).length:Int)=c.Ay;grind
 ·show((List.replicate _ _).length:Int)=c.Ay;grind
 ·rw[hs k hk,ho k hk];exact⟨by omega,fun h=>by omega,fun _=>rfl,fun _=>hz _ _⟩
 ·rw[hg k hk];exact A4p hc (by omega) (by omega) (by omega)
 ·rw[hg k hk];constructor
  ·intro h;cases h
  ·rintro⟨a,b,_⟩;rw[hs x a]at b;cases b
 ·rw[hg k hk];exact⟨rfl,rfl,rfl⟩
 ·constructor
  ·intro h;cases h
  ·rintro⟨a,b⟩;rw[hs x a]at b;cases b
 ·constructor
  ·intro h;cases h
  ·rintro⟨a,b⟩;rw[hg s a]at b;cases b
 ·have hx:x∈List.replicate (c.Ay*c.G8).toNat (0:Int):=hx
  grind
 ·rw[hg k hk];exact⟨Int.le_refl 0,Int.le_refl 0,Int.le_refl 0,by show(0:Int)≤1000;omega⟩
 ·have e:wtN c (Aqj 0 1)=0:=A4a _ (by decide) _
  simp_all[wt,pot,A2i]
section
variable {K:Nat} (hK:281474976710656≤K)
include hK
def A83 (w:C5)(o:Co)(c:D1):Co×D1×(List Int)×(List Int)×(List Int)×(List As)×(List Az)×(List Int):=(o,c,w.fP.N7,w.fP.Vi,w.fP.N8,w.fL,w.fQ,w.Acy)
omit hK in
theorem Bdv (w:C5)(h:An)(d:Int){c:D1}(hc:Aey c)(b:Bool): ∃o c',Ast K h w.fP.N7 w.fP.Vi w.fP.N8 w.fL w.fQ w.Acy d c.fb c.fi c.fh b=some (A83 w o c')∧Aii o∧Aey c':=by
 unfold Ast;rw[show D1.mk c.fb c.fi c.fh=c from rfl]
 cases b with
 |true=>
  simp only[cond_true];obtain⟨r,e,_,w1⟩:=Agq K hc (n:=256) (by omega)
  rw[e];exact⟨_,_,rfl,Aqd _ _ _ _ _,w1⟩
 |false=>
  simp only[cond_false];cases d==13 with
  |true=>exact⟨_,_,rfl,Aqd _ _ _ _ _,hc⟩
  |false=>
   simp only[cond_false];cases d==14 with
   |true=>exact⟨_,_,rfl,Aqd _ _ _ _ _,hc⟩
   |false=>
    simp only[cond_false];obtain⟨r,e,w1⟩:=Ats K hc (n:=6) (by omega)
    rw[e,Z0];cases r.1 with
    |true=>exact⟨_,_,rfl,Aqd _ _ _ _ _,w1⟩
    |false=>exact⟨_,_,rfl,Aqd _ _ _ _ _,w1⟩
theorem Bdw (w:C5)(h:An)(r:Br)(d:Int){c:D1}(hc:Aey c)(b:Bool): ∃o c',Asu K h r w.fP.N7 w.fP.Vi w.fP.N8 w.fL w.fQ w.Acy d c.fb c.fi c.fh b=some (A83 w o c')∧Aii o∧Aey c':=by
 unfold Asu;rw[show D1.mk c.fb c.fi c.fh=c from rfl]
 cases b with
 |true=>
  simp only[cond_true];obtain⟨x,e,b1,w1⟩:=Agq K hc (n:=2) (by omega)
  have e1:An6 .i64 1 x.1=1+x.1:=by grind [An6,K0]
  obtain⟨y,c2,e2,b2,l2,w2⟩:=A8z hK w1 (n:=1+x.1) (by omega)
  rw[e,Z0,e1,e2];exact⟨_,_,rfl,⟨b2,l2⟩,w2⟩
 |false=>
  simp only[cond_false];cases d==10 with
  |true=>
   simp only[cond_true];obtain⟨x,e,_,w1⟩:=Agq K hc (n:=3) (by omega)
   rw[e];exact⟨_,_,rfl,Aqd _ _ _ _ _,w1⟩
  |false=>
   simp only[cond_false];cases d==11 with
   |true=>simp_all[Bdv]
   |false=>simp_all[Bdv]
theorem A84 (w:C5)(h:An)(r:Br)(z d:Int){c:D1}(hc:Aey c)(b:Bool): ∃o c',Ara K h r z w.fP.N7 w.fP.Vi w.fP.N8 w.fL w.fQ w.Acy d c.fb c.fi c.fh b=some (A83 w o c')∧Aii o∧Aey c':=by
 unfold Ara;rw[show D1.mk c.fb c.fi c.fh=c from rfl]
 cases b with
 |true=>
  simp only[cond_true];obtain⟨x,c1,e1,_,w1⟩:=Azi K hc (l:=[1,2,3,4,5,8]) (by simp)
  obtain⟨y,c2,e2,_,w2⟩:=Azi K w1 (l:=[1,1,2,4]) (by simp)
  rw[e1,Z0,if_pos rfl,e2,Z0,if_pos rfl];exact⟨_,_,rfl,Aqd _ _ _ _ _,w2⟩
 |false=>
  simp only[cond_false];cases d==7 with
  |true=>
   simp only[cond_true];obtain⟨x,e,w1⟩:=A7h K hc z;rw[e];exact⟨_,_,rfl,Aqd _ _ _ _ _,w1⟩
  |false=>
   simp only[cond_false];cases d==8 with
   |true=>simp_all[Bdw]
   |false=>simp_all[Bdw]
theorem A85 (w:C5)(h:An)(r:Br)(z d:Int){c:D1}(hc:Aey c)(b:Bool): ∃o c',Arb K h r z w.fP.N7 w.fP.Vi w.fP.N8 w.fL w.fQ w.Acy d b c.fb c.fi c.fh=some (A83 w o c')∧Aii o∧Aey c':=by
 unfold Arb;rw[show D1.mk c.fb c.fi c.fh=c from rfl]
 cases b with
 |true=>exact⟨_,_,rfl,Aqd _ _ _ _ _,hc⟩
 |false=>
  simp only[cond_false];cases d==3 with
  |true=>exact⟨_,_,rfl,Aqd _ _ _ _ _,hc⟩
  |false=>
   simp only[cond_false];cases d==4 with
   |true=>simp_all[A84]
   |false=>
    simp only[cond_false];cases d==5 with
    |true=>simp_all[A84]
    |false=>simp_all[A84]
theorem Bdx (w:C5)(h:An)(r:Br)(q:Co){c:D1}(hc:Aey c): ∃o c',Asv K h c.fb c.fi c.fh r q w.fC.Ay w.fC.G8 w.fC.E6 w.fC.Gu w.fC.E7 w.fC.G9 w.fP.N7.length w.fP.Vi.length w.fP.N8.length w.fL.length w.fQ.length w.Acy.length w.fP.N7 w.fP.Vi w.fP.N8 w.fL w.fQ w.Acy=some (A83 w o c')∧Aii o∧Aey c':=by
 unfold Asv;rw[show D1.mk c.fb c.fi c.fh=c from rfl]
 obtain⟨x,e,_,w1⟩:=Agq K hc (n:=16) (by omega)
 rw[e,Z0];cases x.1==0 with
 |true=>simp_all[A85]
 |false=>
  simp only[cond_false];cases x.1==1 with
  |true=>simp_all[A85]
  |false=>simp_all[A85]
theorem Brr{w:C5}(W:Aid w)(h8:w.fL.length≤1000){c:D1}(hc:Aey c): ∃o c',Ayd K c w=some (A83 w o c')∧Aii o∧Aey c':=by
 unfold Ayd;obtain⟨r1,e1,hl,hr⟩:=A5f hK W h8;rw[e1,Z0];cases hz:(r1.length:Int)==0 with
 |true=>
  simp only[cond_true];obtain⟨x,e,w1⟩:=Ats K hc (n:=2) (by omega)
  rw[e,Z0];cases x.1 with
  |true=>exact⟨_,_,rfl,Aqd _ _ _ _ _,w1⟩
  |false=>
   simp only[cond_false];obtain⟨o,c2,e2,ho,w2⟩:=A81 hK w1;rw[e2];exact⟨_,_,rfl,ho,w2⟩
 |false=>
  have hz: ¬(r1.length:Int)=0:=by grind
  simp only[cond_false];obtain⟨x,e,w1⟩:=Ats K hc (n:=10) (by omega)
  rw[e,Z0];cases x.1 with
  |true=>
   simp only[cond_true];obtain⟨y,e2,w2⟩:=Ats K w1 (n:=2) (by omega)
   rw[e2,Z0];cases y.1 with
   |true=>exact⟨_,_,rfl,Aqd _ _ _ _ _,w2⟩
   |false=>
    simp only[cond_false];obtain⟨o,c2,e3,ho,w3⟩:=A81 hK w2;rw[e3];exact⟨_,_,rfl,ho,w3⟩
  |false=>
   simp only[cond_false];obtain⟨y,e2,b2,w2⟩:=Agq K w1 (n:=(r1.length:Int)) (by omega)
   rw[e2,Z0,if_pos b2]
   have hk:=(hr _ (Akq b2.1 b2.2)).1;obtain⟨h,eh⟩:=A4c (K:=K) (l:=w.fL) (by omega) (gt r1 y.1)
   simp only[eh,Z0,if_pos hk];cases decide (((gt w.fL (gt r1 y.1)).F6.length:Int)>0)with
   |true=>
    simp only[cond_true];obtain⟨z,e3,w3⟩:=A7h K w2 ((gt w.fL (gt r1 y.1)).F6.length:Int)
    simp_all[Bdx]
   |false=>
    simp_all[Bdx]
theorem run_ok{c:D1}(hc:Aey c){most:Int}(hm:0<most∧most≤1000): ∃x l w c' E n,Azy K c most=some (x,l,w,c')∧Dy w E n∧(0≤E∧E≤200)∧n≤38400∧w.fC=x∧Ahn x=true∧l.length≤200∧(∀o∈l,Aii o)∧Aey c':=by
 have hx:=V1;unfold Azy;obtain⟨x,c1,e1,hx1,w1⟩:=Bad K hc;obtain⟨y,e2,b2,w2⟩:=Agq K w1 (n:=most) (by omega)
 rw[e1,Z0,Bdt hK hx1,Z0,e2,Z0]
 have ea:An6 .i64 4 y.1=4+y.1:=by grind [An6,K0]
 rw[ea]
 have key: ∀(f i:Nat) (l:List Co) (w:C5) (c:D1),(i:Int)≤4+y.1->i<f->Dy w (l.length:Int) (192*l.length)->w.fC=x->l.length≤200->(∀o∈l,Aii o)->Aey c-> ∃x' l' w' c' E n,Aub K f l (i:Int) c.fb c.fi c.fh w x (C5.mk (Ea.mk 0 0 0 0 0 0) (Dn.mk [] [] []) [] [] []) (Ea.mk 0 0 0 0 0 0)=some (x',l',w',c')∧Dy w' E n∧(0≤E∧E≤200)∧n≤38400∧w'.fC=x'∧Ahn x'=true∧l'.length≤200∧(∀o∈l',Aii o)∧Aey c':=by
  intro f
  induction f with
  |zero=>omega
  |succ f ih=>
   intro i l w c hi hf G hwc hl ho hcc
   have done: ∃x' l' w' c' E n,some (x,l,w,D1.mk c.fb c.fi c.fh)=some (x',l',w',c')∧Dy w' E n∧(0≤E∧E≤200)∧n≤38400∧w'.fC=x'∧Ahn x'=true∧l'.length≤200∧(∀o∈l',Aii o)∧Aey c':=⟨_,_,_,_,_,_,rfl,G,by omega,by omega,hwc,hx1,hl,ho,hcc⟩
   rw[Aub]
   by_cases q:0<i
   ·rw[decide_eq_true (show(i:Int)>0 by omega),cond_true]
    by_cases q2:l.length<200
    ·rw[decide_eq_true (show(l.length:Int)<200 by omega),cond_true]
     have W:=G.ww (by omega) (by omega)
     obtain⟨b1,b2,b3,_⟩:=F2 G.inv.conf
     have hlen:=G.inv.len;obtain⟨o,c2,e3,hop,w3⟩:=Brr hK W (by omega) hcc
     obtain⟨a,w',e4,G',hc'⟩:=B0n hK (E:=(l.length:Int)) (n:=192*l.length) (by omega) (by omega) G hop
     rw[show D1.mk c.fb c.fi c.fh=c from rfl,e3,Z0]
     unfold A83;simp only;rw[if_pos ⟨trivial,trivial,trivial,trivial,trivial,trivial⟩,if_pos ⟨by grind,by grind⟩]
     rw[show C5.mk w.fC (Dn.mk w.fP.N7 w.fP.Vi w.fP.N8) w.fL w.fQ w.Acy=w from rfl,e4,Z0]
     have es:An7 .i64 (i:Int) 1=((i - 1:Nat):Int):=by grind [sb1]
     rw[es];refine ih (i - 1) (l++[o]) w' c2 (by omega) (by omega) ?_ (hc'.trans hwc) (by grind) ?_ w3
     ·rw[Z23,List.length_singleton]
      grind
     grind
    grind
   simp_all
 have:=key K (4+y.1).toNat [] (A2i x) y.2 (by omega) (by omega) (Bo0 hx1) rfl (by simp) (fun o h=>by cases h) w2
 grind
end
section
variable (N:Int) (t:Int->Lk)
inductive Up (a:Int):Int->Prop
 |refl:Lv N t a->Up a a
 |step {b:Int}:Lv N t b->Cu N t b->Up a ((t b).up - 1)->Up a b
end
section
variable {N:Int} {t:Int->Lk}
theorem Up.lv{a b:Int}(h:Up N t a b):Lv N t a∧Lv N t b:=by
 induction h with
 |refl h=>grind
 |step h _ _ ih=>grind
theorem Up.trans{a b c:Int}(h:Up N t a b)(g:Up N t b c):Up N t a c:=by
 induction g with
 |refl _=>exact h
 |step h1 h2 _ ih=>exact .step h1 h2 ih
theorem Up.le{d:Int->Nat}(U: ∀x,Lv N t x->Cu N t x->d ((t x).up - 1)<d x){a b:Int}(h:Up N t a b):d a≤d b:=by
 induction h with
 |refl _=>omega
 |step h1 h2 _ ih=>grind
theorem Up.al{a b:Int}(h:Up N t a b)(g:Al N t a):Al N t b:=by
 induction h with
 |refl _=>exact g
 |step h1 h2 _ ih=>exact .step h1 h2 ih
variable {r:Int->Nat} {d:Int->Nat}
end
def B0o (w:C5):Nat->Int->List Int
 |0,_=>[]
 |n+1,k=>k::(kidsK w k).flatMap (B0o w n)
structure Bxe (w:C5)(t:Int->Lk)(k:Int):Prop where
 inv:Inv w
 tab:AtT w.fL t
 fr:Ag8 w.fL.length t (Ax9 w.fQ)
 al:Al w.fL.length t k
structure Bae (w w':C5)(t:Int->Lk)(k:Int):Prop where
 inv:Inv w'
 len:w'.fL.length=w.fL.length
 tab:AtT w'.fL (rem t k)
 fr:Ag8 w.fL.length (rem t k) (Ax9 w'.fQ)
 conf:w'.fC=w.fC
 q:w'.fQ=w.fQ++[Ago (gt w.fL k) (k+1)]
 node: ∀x,0≤x∧x<(w.fL.length:Int)->x≠k-> ∃a b c,gt w'.fL x=lnk (gt w.fL x) a b c
theorem Bje (c:Ea)(a b:Int)(f g:Int)(ts cs:List Int)(d:Int):Bw0 c (Az.mk a f ts cs d)=Bw0 c (Az.mk b g ts cs d):=rfl
theorem Bae.own{w w':C5}{t:Int->Lk}{k:Int}(L:Bae w w' t k){x:Int}(hx:0≤x∧x<(w.fL.length:Int))(hne:x≠k):Bw1 w' x=Bw1 w x:=by
 obtain⟨a,b,c,e⟩:=L.node x hx hne;unfold Bw1;rw[e,L.conf];exact Bje _ _ _ _ _ _ _ _
theorem Bae.kids{w w':C5}{t:Int->Lk}{k:Int}(P:Bxe w t k)(L:Bae w w' t k){x:Az}(hx:x∈w.fQ):P2 w'.fL x.Ef=P2 w.fL x.Ef:=by
 have hf:=P.inv.first hx;rw[A5d P.tab P.inv.rg hf.1 (by omega),A5d L.tab L.inv.rg hf.1 (by omega),L.len]
 exact A6p P.fr.tree P.al.lv P.al.noOr P.fr.kid (Inv.qs hx)
def Alf (w:C5)(x:Int):List Int:=(gt w.fL x).Fi.reverse
def tOf (w:C5)(k:Int):List Int:=(B0o w w.fL.length k).flatMap (Alf w)
def pAt (w:C5)(x:Az):List Int:=x.Fi.reverse++(P2 w.fL x.Ef).flatMap (tOf w)
theorem Bae.tags{w w':C5}{t:Int->Lk}{k:Int}(L:Bae w w' t k){x:Int}(hx:0≤x∧x<(w.fL.length:Int))(hne:x≠k):Alf w' x=Alf w x:=by
 obtain⟨a,b,c,e⟩:=L.node x hx hne;unfold Alf;rw[e];rfl
section
variable {M:Type} (op:M->M->M) (e:M) (g:Int->M) (w:C5)
def Auw (D:List Int->List Int->M×List Int)(s:M×List Int)(k:Int):M×List Int:=
 if k∈s.2 then s else(op s.1 (op (g k) (D (kidsK w k) (s.2++[k])).1),(D (kidsK w k) (s.2++[k])).2)
def A4x:Nat->List Int->List Int->M×List Int
 |0,ks,met=>ks.foldl (Auw op g w fun _ m=>(e,m)) (e,met)
 |u+1,ks,met=>ks.foldl (Auw op g w (A4x u)) (e,met)
def Bhb:Nat->List Int->List Int->M×List Int
 |0=>fun _ m=>(e,m)
 |u+1=>A4x op e g w u
end
section
variable {M:Type} {op:M->M->M} {e:M} {g:Int->M} {w:C5}
theorem Bbx (u:Nat)(ks met:List Int):A4x op e g w u ks met=ks.foldl (Auw op g w (Bhb op e g w u)) (e,met):=by cases u<;>rfl
def Bo1 (w:C5)(D:List Int->List Int->M×List Int):Prop:= ∀ks met,(∀x∈ks,0≤x∧x<(w.fL.length:Int))->Azm w met->Azm w (D ks met).2∧met.length≤(D ks met).2.length
theorem A6x{D:List Int->List Int->M×List Int}(hD:Bo1 w D){s:M×List Int}(hs:Azm w s.2){k:Int}(hk:0≤k∧k<(w.fL.length:Int)):Azm w (Auw op g w D s k).2∧s.2.length≤(Auw op g w D s k).2.length:=by
 unfold Auw
 by_cases h:k∈s.2
 ·grind
 ·rw[if_neg h];obtain⟨a,b⟩:=hD (kidsK w k) (s.2++[k]) (A34 w k) (A7r hs hk h)
  grind
theorem Bjf{D:List Int->List Int->M×List Int}(hD:Bo1 w D): ∀(ks:List Int) (s:M×List Int),(∀x∈ks,0≤x∧x<(w.fL.length:Int))->Azm w s.2->Azm w (ks.foldl (Auw op g w D) s).2∧s.2.length≤(ks.foldl (Auw op g w D) s).2.length:=by
 intro ks
 induction ks with
 |nil=>grind
 |cons k ks ih=>
  grind [A6x]
theorem A4f: ∀u,Bo1 w (Bhb op e g w u):=by
 intro u
 induction u with
 |zero=>intro ks met _ h;exact⟨h,Z9 _⟩
 |succ u ih=>
  intro ks met hk h
  show Azm w (A4x op e g w u ks met).2∧_≤(A4x op e g w u ks met).2.length;rw[Bbx];exact Bjf ih ks (e,met) hk h
end
section
variable {K:Nat} (hK:281474976710656≤K)
include hK
end
section
variable {K:Nat} (hK:281474976710656≤K)
include hK
end
theorem Bo2{l:List Int}{i:Nat}(h:2*i+1<l.length)(v:List Int)(hl:v.length=l.length)(hv: ∀j:Nat,j<l.length->gt v (j:Int)=if j<i∨l.length - i≤j then gt l ((l.length - 1 - j:Nat):Int)else gt l (j:Int)):
  ∀j:Nat,j<l.length->gt ((v.set i (gt v ((l.length - 1 - i:Nat):Int))).set (l.length - 1 - i) (gt v (i:Int))) (j:Int)=if j<i+1∨l.length - (i+1)≤j then gt l ((l.length - 1 - j:Nat):Int)else gt l (j:Int):=by
 intro j hj
 have g: ∀(x:List Int) (a b:Nat) (y:Int),a<x.length->b<x.length->gt (x.set a y) (b:Int)=if b=a then y else gt x (b:Int):=by
  intro x a b y ha hb;rw[V2 (by simpa using hb),V2 hb,List.getElem_set]
  by_cases e:a=b
  ·rw[if_pos e,if_pos e.symm]
  ·rw[if_neg e,if_neg (Ne.symm e)]
 rw[g _ _ _ _ (by simp;omega) (by simp;omega),g _ _ _ _ (by omega) (by omega),hv j hj,hv i (by omega),hv (l.length - 1 - i) (by omega)]
 by_cases h1:j=l.length - 1 - i
 ·rw[if_pos h1,if_neg (by omega),if_pos (by omega)]
  congr 2
  omega
 ·rw[if_neg h1]
  by_cases h2:j=i
  ·rw[if_pos h2,if_neg (by omega),if_pos (by omega),h2]
  ·rw[if_neg h2]
   by_cases h3:j<i∨l.length - i≤j
   ·rw[if_pos h3,if_pos (by omega)]
   ·rw[if_neg h3,if_neg (by omega)]
theorem Bft{K:Nat}(hK:281474976710656≤K)(l:List Int)(hl:l.length≤1000000):Ash K l=some l.reverse:=by
 unfold Ash
 have e0:An7 .i64 (l.length:Int) 1=(l.length:Int) - 1:=sb1 (by omega) (by omega)
 rw[e0]
 have key: ∀(f i:Nat) (v:List Int),v.length=l.length->(∀j:Nat,j<l.length->gt v (j:Int)=if j<i∨l.length - i≤j then gt l ((l.length - 1 - j:Nat):Int)else gt l (j:Int))->2*i≤l.length+1->l.length - i<f->Api K f v (i:Int) ((l.length:Int) - 1 - (i:Int))=some l.reverse:=by
  intro f
  induction f with
  |zero=>intro i v _ _ _ h;omega
  |succ f ih=>
   intro i v hv hg hi hf;rw[Api]
   by_cases q:2*i+1<l.length
   ·have e1:(l.length:Int) - 1 - (i:Int)=((l.length - 1 - i:Nat):Int):=by omega
    have e2:An7 .i64 ((l.length - 1 - i:Nat):Int) 1=(l.length:Int) - 1 - ((i+1:Nat):Int):=by rw[sb1 (by omega) (by omega)];omega
    rw[e1,decide_eq_true (by omega),cond_true,if_pos ⟨by omega,by omega⟩,if_pos ⟨by omega,by omega⟩,if_pos ⟨by omega,by omega⟩,if_pos ⟨by omega,by simp;omega⟩,e2,Ad5 (by omega),Int.toNat_natCast,Int.toNat_natCast]
    exact ih (i+1) _ (by simp[hv]) (Bo2 q v hv hg) (by omega) (by omega)
   ·rw[decide_eq_false (by omega),cond_false,Z7]
    refine List.ext_getElem (by simp[hv]) fun j h1 h2=> ?_
    have hj:j<l.length:=by omega
    have:=hg j hj;rw[V2 h1]at this;rw[this,List.getElem_reverse]
    by_cases h3:j<i∨l.length - i≤j
    ·rw[if_pos h3,V2 (by omega)]
    ·rw[if_neg h3,V2 hj]
     congr 1
     omega
 have:=key K 0 l rfl (fun j hj=>by rw[if_neg (by omega)]) (by omega) (by omega)
 rw[show(l.length:Int) - 1 - ((0:Nat):Int)=(l.length:Int) - 1 by omega]at this
 exact this
theorem A44{K:Nat}(hK:281474976710656≤K)(l:List Int)(hl:l.length≤1000000):Auj K l=some l.reverse:=by
 unfold Auj;rw[Ar5 K (by omega),Z0,Bft hK l hl,Z0,if_pos (by simp)]
def Six (w:C5):Prop:= ∀k,0≤k∧k<(w.fL.length:Int)->(gt w.fL k).Fi.length≤6
def Bxf (D:List Int->List Int->List Int×List Int)(w:C5):Prop:= ∀ks met,(∀x∈ks,0≤x∧x<(w.fL.length:Int))->Azm w met->(D ks met).1.length+6*met.length≤6*(D ks met).2.length
theorem Baf{w:C5}(S:Six w){D:List Int->List Int->List Int×List Int}(hD:Bo1 w D)(hT:Bxf D w){s:List Int×List Int}(hs:Azm w s.2){k:Int}(hk:0≤k∧k<(w.fL.length:Int)):(Auw (· ++ ·) (Alf w) w D s k).1.length+6*s.2.length≤s.1.length+6*(Auw (· ++ ·) (Alf w) w D s k).2.length:=by
 unfold Auw
 by_cases h:k∈s.2
 ·rw[if_pos h];exact Z9 _
 ·rw[if_neg h]
  have h1:=hT (kidsK w k) (s.2++[k]) (A34 w k) (A7r hs hk h)
  have h2:=S k hk;rw[Z23,List.length_singleton]at h1
  show(s.1++(Alf w k++(D (kidsK w k) (s.2++[k])).1)).length+_≤_+6*(D (kidsK w k) (s.2++[k])).2.length;rw[Z23,Z23]
  have h3:(Alf w k).length≤6:=by unfold Alf;rw[List.length_reverse];exact h2
  omega
theorem Bjg{w:C5}(S:Six w){D:List Int->List Int->List Int×List Int}(hD:Bo1 w D)(hT:Bxf D w): ∀(ks:List Int) (s:List Int×List Int),(∀x∈ks,0≤x∧x<(w.fL.length:Int))->Azm w s.2->(ks.foldl (Auw (· ++ ·) (Alf w) w D) s).1.length+6*s.2.length≤s.1.length+6*(ks.foldl (Auw (· ++ ·) (Alf w) w D) s).2.length:=by
 intro ks
 induction ks with
 |nil=>intro s _ _;exact Z9 _
 |cons k ks ih=>
  intro s hk hs;rw[List.foldl_cons]
  have h1:=Baf S hD hT hs (hk k List.mem_cons_self);obtain⟨a,b⟩:=A6x (op:=(· ++ ·)) (g:=Alf w) hD hs (hk k List.mem_cons_self)
  have h2:=ih _ (fun x hx=>hk x (Z56 _ hx)) a;omega
theorem Bfu{w:C5}(S:Six w): ∀u,Bxf (Bhb (· ++ ·) [] (Alf w) w u) w:=by
 intro u
 induction u with
 |zero=>intro ks met _ _;show([]:List Int).length+6*met.length≤6*met.length;simp
 |succ u ih=>
  intro ks met hk h
  show(A4x (· ++ ·) [] (Alf w) w u ks met).1.length+_≤6*(A4x (· ++ ·) [] (Alf w) w u ks met).2.length;rw[Bbx]
  have:=Bjg S (A4f (op:=(· ++ ·)) (e:=[]) (g:=Alf w) u) ih ks ([],met) hk h;simpa using this
theorem Bjh (w:C5)(hw:Aid w)(S:Six w)(h8:w.fL.length≤1000): ∀(u K:Nat) (ks met:List Int),281474976710656+u<K->ks.length≤140737488355327->(∀x∈ks,0≤x∧x<(w.fL.length:Int))->Azm w met->w.fL.length≤met.length+u→
  Akw K w ks (mof w met)=some ((A4x (· ++ ·) [] (Alf w) w u ks met).1,mof w (A4x (· ++ ·) [] (Alf w) w u ks met).2):=by
 have hmx:=V1;intro u
 induction u using Nat.strongRecOn with
 |_ u ih=>
  intro K ks met hKu hlen hin hm hu;obtain⟨J,rfl⟩: ∃J,K=J+1:=⟨K - 1,by omega⟩
  have hJ:281474976710656≤J:=by omega
  rw[Akw,Ay8,Bbx]
  refine Bnn (K:=J) hJ ks (by omega) (Auw (· ++ ·) (Alf w) w (Bhb (· ++ ·) [] (Alf w) w u)) ([],met) (fun s=>Azm w s.2∧met.length≤s.2.length∧s.1.length≤6*s.2.length) ⟨hm,Z9 _,Z21 _⟩ (fun s x hx hs=> ?_) _ (fun n s i=>Am8 J (Akw J) ks n (mof w s.2) s.1 (ks.length:Int) i w.fC.Ay w.fC.G8 w.fC.E6 w.fC.Gu w.fC.E7 w.fC.G9 w.fP.N7 w.fP.Vi w.fP.N8 w.fL w.fQ w.Acy) (fun n s i h hs=> ?_) (fun n=> ?_)
  ·obtain⟨a,b⟩:=A6x (op:=(·++ ·)) (g:=Alf w) (A4f (op:=(·++ ·)) (e:=[]) (g:=Alf w) (w:=w) u) hs.1 (hin x hx)
   have c:=Baf S (A4f (op:=(· ++ ·)) (e:=[]) (g:=Alf w) u) (Bfu S u) hs.1 (hin x hx);exact⟨a,by omega,by omega⟩
  ·have hk:=hin _ (List.getElem_mem h)
   have hml:=A7q hs.1
   have hs6:=S _ hk;simp only[Am8,Asn];rw[Ad7 h,cond_true,if_pos (Aiy h),V2 h,A4n,if_pos hk,Bw2 hk,Ad5 (by omega)]
   unfold Auw
   by_cases hc:ks[i]∈s.2
   ·rw[if_pos hc,List.contains_iff_mem.2 hc,cond_true]
   ·obtain⟨v,rfl,hv⟩:=B0k hs.1 hs.2.1 hu hk hc
    have hcf:s.2.contains ks[i]=false:=by rw[List.contains_eq_mem];exact decide_eq_false hc
    have hmo:=A7r hs.1 hk hc
    have:=ih v (by omega) J (kidsK w ks[i]) (s.2++[ks[i]]) (by omega) (Bir hw _) (A34 w _) hmo hv
    have hkl:=Bfu S (v+1) (kidsK w ks[i]) (s.2++[ks[i]]) (A34 w _) hmo
    have hkm:=A7q (A4f (op:=(· ++ ·)) (e:=[]) (g:=Alf w) (w:=w) (v+1) (kidsK w ks[i]) (s.2++[ks[i]]) (A34 w _) hmo).1
    have hsl:=hs.2.2;rw[if_neg hc,hcf,cond_false,if_pos hk,if_pos hk,A44 hJ _ (by omega)]
    simp only[Z0];rw[if_pos ⟨by simp;omega,by simp;omega⟩,if_pos hk,Brc hk,A3z hJ hw.l]
    simp only[Z0];unfold kidsK at this;rw[this];simp only[Z0]
    have hkl:(A4x (· ++ ·) [] (Alf w) w v (P2 w.fL (gt w.fL ks[i]).Ef) (s.2++[ks[i]])).1.length+_≤_:=hkl;rw[if_pos (by rw[A4n,A4n]),if_pos ⟨by simp;omega,by simp;omega⟩,Z31]
    rfl
  ·simp only[Am8];rw[Ars (Z9 _),cond_false]
theorem A4g{α β:Type}(f:α->List β)(l:List α){i:Nat}(h:i<l.length):(l.take (i+1)).flatMap f=(l.take i).flatMap f++f l[i]:=by
 rw[←List.take_append_getElem h,List.flatMap_append];simp
theorem A4u{α:Type}(f:α->List Int)(m:Nat): ∀l:List α,(∀x∈l,(f x).length≤m)->(l.flatMap f).length≤m*l.length:=by
 intro l
 induction l with
 |nil=>intro _;simp
 |cons a l ih=>
  intro h
  have h1:=h a List.mem_cons_self
  have h2:=ih fun x hx=>h x (Z56 _ hx);rw[List.flatMap_cons,Z23,Z28,Nat.mul_succ];omega
section
variable {K:Nat} (hK:281474976710656≤K)
include hK
theorem Bxg{α:Type}(l:List α)(hl:l.length≤140737488355328)(L:Nat->Int->Option Bool)
  (hs: ∀n (i:Nat) (h:i<l.length),L (n+1) (i:Int)=L n ((i+1:Nat):Int)) (he: ∀n,L (n+1) (l.length:Int)=some true):L K 0=some true:=by
 rw[Aso hK l hl (fun _=>true) (some true) L (fun n i h=>by grind) he,Z1.2 (fun _ _=>rfl)]
 rfl
theorem A4h (l:List Int)(hl:l.length≤140737488355327):A0a K l l=some true:=by
 unfold A0a;simp only[bne_self_eq_false,cond_false];exact Bm9 l (by omega) (Az4 K l l) (fun n i=>rfl) K 0 (Z21 _) (by omega)
theorem Ax7 (l:List Int)(hl:l.length≤140737488355327):Akp K l l=some true:=by
 unfold Akp;simp only[bne_self_eq_false,cond_false];exact Bm9 l (by omega) (Au3 K l l) (fun n i=>rfl) K 0 (Z21 _) (by omega)
theorem A9r{p:Dn}(h:Azk p):Axq K p p=some true:=by
 unfold Axq;rw[A4h hK _ h.mem.2,Z0,cond_true,Ax7 hK _ (Ax8 hK h.st),Z0,cond_true,Ax7 hK _ (Ax8 hK h.own)];rfl
theorem A9s{n:As}(h:Apx n):Axr K n n=some true:=by
 have h2:=h.things.2;unfold Axr;simp only[bne_self_eq_false,cond_false];rw[Ax7 hK _ (Ax8 hK h.chunks),Z0,cond_true,Ax7 hK _ (Ax8 hK h.tags),Z0,Bool.not_true,cond_false]
 refine Bxg hK n.F6 (by omega) (fun m i=>Aqi K m i n.Vi n.C9 n.Sl n.fUp n.Sm n.Ef n.Sn n.So n.Ay n.Acx n.Sq n.F6 n.Fi n.Vi n.C9 n.Sl n.fUp n.Sm n.Ef n.Sn n.So n.Ay n.Acx n.Sq n.F6 n.Fi) (fun m i hi=> ?_) (fun m=> ?_)
 ·simp only[Aqi];rw[Ad7 hi,cond_true,if_pos (Aiy hi),if_pos (Aiy hi),Ad5 (by omega)]
  simp
 simp_all[Aqi]
theorem A86{l:List As}(h:Ad6 l):Awe K l l=some true:=by
 have h2:=h.2;unfold Awe;simp only[bne_self_eq_false,cond_false];refine Bxg hK l (by omega) (Ap3 K l l) (fun m i hi=> ?_) (fun m=> ?_)
 ·rw[Ap3,Ad7 hi,cond_true,if_pos (Aiy hi),if_pos (Aiy hi),A9s hK (h.1 _ (Aou hi)),Z0,Bool.not_true,cond_false,Ad5 (by omega)]
 simp_all[Ap3]
theorem A87{x:Az}(h:A1f x):Awf K x x=some true:=by
 unfold Awf;simp only[beq_self_eq_true,cond_true];rw[Ax7 hK _ (Ax8 hK h.tags),Z0,cond_true,Ax7 hK _ (Ax8 hK h.chunks)];rfl
theorem A1p{w:C5}(h:Aid w):Ard K w w=some true:=by
 have h2:=h.q.2;unfold Ard;simp only[beq_self_eq_true,Bool.and_self,Bool.not_true,cond_false];rw[A9r hK h.p,Z0,cond_true,A86 hK h.l,Z0,cond_true];simp only[bne_self_eq_false,cond_false];rw[Ax7 hK _ (Ax8 hK h.log),Z0,Bool.not_true,cond_false]
 refine Bxg hK w.fQ (by omega) (fun m i=>Ap4 K m i w.fC.Ay w.fC.G8 w.fC.E6 w.fC.Gu w.fC.E7 w.fC.G9 w.fP.N7 w.fP.Vi w.fP.N8 w.fL w.fQ w.Acy w.fC.Ay w.fC.G8 w.fC.E6 w.fC.Gu w.fC.E7 w.fC.G9 w.fP.N7 w.fP.Vi w.fP.N8 w.fL w.fQ w.Acy) (fun m i hi=> ?_) (fun m=> ?_)
 ·simp only[Ap4];rw[Ad7 hi,cond_true,if_pos (Aiy hi),if_pos (Aiy hi),A87 hK (h.q.1 _ (Aou hi)),Z0,Bool.not_true,cond_false,Ad5 (by omega)]
 simp_all[Ap4]
end
instance:DecidablePred wfi:=fun x=>inferInstanceAs (Decidable (_∧_))
theorem Azj (n:Int):wfi (IntKind.i64.wrap n):=by rw[IntKind.wrap_i64];exact⟨by omega,by omega⟩
def OkP{α:Type}(x:Option (α×D1))(P:α->Prop):Prop:= ∃a c,x=some (a,c)∧P a∧Aey c
theorem okp{α:Type}{a:α}{c:D1}{P:α->Prop}(h:P a)(hc:Aey c):OkP (some (a,c)) P:=⟨_,_,rfl,h,hc⟩
theorem OkP.mono{α:Type}{x:Option (α×D1)}{P Q:α->Prop}(h:OkP x P)(k: ∀a,P a->Q a):OkP x Q:=by
 obtain⟨a,c,e,p,hc⟩:=h;exact⟨a,c,e,k a p,hc⟩
theorem Abc{α β:Type}{x:Option (α×D1)}{f:α×D1->Option (β×D1)}{P:α->Prop}{Q:β->Prop}(h:OkP x P)(k: ∀a c,P a->Aey c->OkP (f (a,c)) Q):OkP (x.bind f) Q:=by
 obtain⟨a,c,e,p,hc⟩:=h
 grind
theorem Aqw{α:Type}{p:Prop}[Decidable p]{x:Option (α×D1)}{Q:α->Prop}(h:p)(k:OkP x Q):OkP (if p then x else none) Q:=by grind
theorem Akx{α:Type}{b:Bool}{x y:Option (α×D1)}{Q:α->Prop}(k:b=true->OkP x Q)(l:b=false->OkP y Q):OkP (bif b then x else y) Q:=by
 grind
theorem Apk (K:Nat){c:D1}(hc:Aey c){n:Int}(hn:0<n):OkP (Ap K c n) fun x=>0≤x∧x<n:=by
 obtain⟨r,e,b,w⟩:=Agq K hc hn;exact⟨_,_,e,b,w⟩
theorem A2x{β:Type}(K:Nat){c:D1}{l:List Int}{f:Int×D1×List Int->Option (β×D1)}{Q:β->Prop}(hc:Aey c)(hl:0<l.length)(k: ∀x c,x∈l->Aey c->OkP (f (x,c,l)) Q):OkP ((K1 K c l).bind f) Q:=by
 obtain⟨x,c',e,m,w⟩:=Azi K hc hl
 grind
theorem Bo3 (K:Nat){c:D1}(hc:Aey c):OkP (A01 K c) ConfW:=by
 unfold A01 Apc;obtain⟨x,c1,e,hx,w⟩:=Bad K hc
 have W:=Bn2 hx;rw[e,Z0];dsimp only
 repeat' (first|refine A2x _ (by assumption) (by decide) (fun x c hx hc=>Aqw rfl ?_)|refine Abc (Apk _ (by assumption) (by omega)) (fun x c hx hc=> ?_)|refine Akx (fun _=> ?_) (fun _=> ?_))
 all_goals refine okp ?_ (by assumption)
 ·exact⟨(by decide: ∀y∈([1,2,12,13]:List Int),wfi y) _ ‹_›,W.size,W.slots,W.tax,W.slice,W.gens⟩
 ·exact⟨W.chunks,(by decide: ∀y∈([7,8,16,17]:List Int),wfi y) _ ‹_›,W.slots,W.tax,W.slice,W.gens⟩
 ·exact⟨W.chunks,W.size,(by decide: ∀y∈([1,8,9]:List Int),wfi y) _ ‹_›,W.tax,W.slice,W.gens⟩
 ·exact⟨W.chunks,W.size,W.slots,(by decide: ∀y∈([0,8,9]:List Int),wfi y) _ ‹_›,W.slice,W.gens⟩
 ·exact⟨W.chunks,W.size,W.slots,W.tax,(by decide: ∀y∈([0,17]:List Int),wfi y) _ ‹_›,W.gens⟩
 ·exact⟨W.chunks,W.size,W.slots,W.tax,W.slice,(by decide: ∀y∈([0,5]:List Int),wfi y) _ ‹_›⟩
 ·exact W
theorem A55{l:List Int}(h:l.length≤1000)(x:Int):(l++[x]).length*8≤140737488355328∧(l++[x]).length≤maxLen:=by
 grind [V1]
theorem Bby{l:List Bc}(h:l.length≤1000)(x:Bc):(l++[x]).length*24≤140737488355328∧(l++[x]).length≤maxLen:=by
 grind [V1]
theorem A1q{l:List Int}(h:A2n l)(hl:l.length≤1000){x:Int}(hx:wfi x):A2n (l++[x]):=by
 refine⟨fun y hy=> ?_,by grind⟩
 rcases Mj.1 hy with hy|hy
 ·exact h.1 y hy
 grind
structure SN (m:Nat)(n:As):Prop where
 w:Apx n
 c:n.Ay.length≤m
 t:n.F6.length≤m
 g:n.Fi.length≤m
theorem SN.tag{m:Nat}{n:As}(h:SN m n)(hm:m≤1000){x:Int}(hx:wfi x):SN (m+1) (As.mk n.Vi n.C9 n.Sl n.fUp n.Sm n.Ef n.Sn n.So n.Ay n.Acx n.Sq n.F6 (n.Fi++[x])):=by
 have:=h.c;have:=h.t;have:=h.g;exact⟨{h.w with tags:=A1q h.w.tags (by omega) hx},Nat.le_succ_of_le h.c,Nat.le_succ_of_le h.t,by grind⟩
theorem SN.chunk{m:Nat}{n:As}(h:SN m n)(hm:m≤1000){x:Int}(hx:wfi x):SN (m+1) (As.mk n.Vi n.C9 n.Sl n.fUp n.Sm n.Ef n.Sn n.So (n.Ay++[x]) n.Acx n.Sq n.F6 n.Fi):=by
 have:=h.c;have:=h.t;have:=h.g;exact⟨{h.w with chunks:=A1q h.w.chunks (by omega) hx},by grind,Nat.le_succ_of_le h.t,Nat.le_succ_of_le h.g⟩
theorem SN.thing{m:Nat}{n:As}(h:SN m n)(hm:m≤1000){x:Bc}(hx:ThingW x):SN (m+1) (As.mk n.Vi n.C9 n.Sl n.fUp n.Sm n.Ef n.Sn n.So n.Ay n.Acx n.Sq (n.F6++[x]) n.Fi):=by
 have:=h.c;have:=h.t;have:=h.g;refine⟨{h.w with things:=⟨fun y hy=> ?_,by grind⟩},Nat.le_succ_of_le h.c,by grind,Nat.le_succ_of_le h.g⟩
 rcases Mj.1 hy with hy|hy
 ·exact h.w.things.1 y hy
 grind
theorem SN.mono{m k:Nat}{n:As}(h:SN m n)(hk:m≤k):SN k n:=⟨h.w,Vx h.c hk,Vx h.t hk,Vx h.g hk⟩
theorem sbn{i:Nat}(hi:0<i)(h:i≤1000):An7 .i64 (i:Int) 1=((i - 1:Nat):Int):=by grind [sb1]
theorem Bfv (K:Nat){c:D1}(hc:Aey c){x:Ea}(hx:Ahn x=true):OkP (Ayr K c x) ThingW:=by
 obtain⟨b1,b2,_⟩:=F2 hx
 have j: ∀(c:D1) (t:Bc),Aey c->OkP (Ata K x c.fb c.fi c.fh t) ThingW:=by
  intro c t hc;unfold Ata;refine Abc (Apk K hc (by omega)) (fun y1 c1 h1 w1=>Abc (Apk K w1 (by omega)) (fun y2 c2 h2 w2=> ?_))
  dsimp only at w2 ⊢
  have e:An7 .i64 x.G8 y2=x.G8 - y2:=by grind [An7,K0]
  rw[e];refine Abc (Apk K w2 (by omega)) (fun y3 c3 h3 w3=>okp ⟨Azj _,Azj _,Au9⟩ w3)
 unfold Ayr;obtain⟨r,e,w⟩:=Ats K hc (n:=4) (by omega)
 rw[e,Z0];refine Akx (fun _=>Akx (fun h=> ?_) (fun _=>j _ _ w)) (fun _=>j _ _ w);rw[decide_eq_true_eq]at h;rw[show An7 .i64 x.Ay 1=x.Ay - 1 from by grind [An7,K0]]
 exact Abc (Apk K w (by omega)) (fun y1 c1 h1 w1=>Abc (Apk K w1 (by omega)) (fun y2 c2 h2 w2=>okp ⟨Azj _,Azj _,Ht (x:=2) (by decide) (by decide)⟩ w2))
theorem Bo4 (K:Nat): ∀(f i m:Nat) (c:D1) (n:As),i<f->m+i≤50->SN m n->Aey c->OkP (Auc K f (i:Int) c.fb c.fi c.fh n) (SN 50):=by
 intro f
 induction f with
 |zero=>omega
 |succ f ih=>
  intro i m c n hi hm hn hc
  have:=hn.g;rw[Auc];refine Akx (fun h=> ?_) (fun _=>okp (hn.mono (by omega)) hc)
  rw[decide_eq_true_eq]at h;refine Abc (Apk K hc (by omega)) (fun y c1 hy w1=>Aqw (A55 (by omega) _) ?_)
  rw[sbn (by omega) (by omega)]
  exact ih (i - 1) (m+1) c1 _ (by omega) (by omega) (hn.tag (by omega) (Ht (by omega) (by omega))) w1
section
variable {K:Nat} (hK:281474976710656≤K)
include hK
theorem Bo5{x:Ea}(hx:Ahn x=true): ∀(f i m:Nat) (c:D1) (n:As),i<f->m+i≤40->SN m n->Aey c->OkP (Aud K x f (i:Int) c.fb c.fi c.fh n) (SN 50):=by
 intro f
 induction f with
 |zero=>omega
 |succ f ih=>
  intro i m c n hi hm hn hc
  have:=hn.t;rw[Aud];refine Akx (fun h=> ?_) (fun _=> ?_)
  ·rw[decide_eq_true_eq]at h;refine Abc (Bfv K hc hx) (fun y c1 hy w1=>Aqw (Bby (by omega) _) ?_)
   rw[sbn (by omega) (by omega)]
   exact ih (i - 1) (m+1) c1 _ (by omega) (by omega) (hn.thing (by omega) hy) w1
  ·refine Abc (Apk K hc (by omega)) (fun y c1 hy w1=> ?_)
   have:=Bo4 K K y.toNat 40 c1 n (by omega) (by omega) (hn.mono (by omega)) w1
   grind
theorem Bji{x:Ea}(hx:Ahn x=true)(z:As): ∀(f i m:Nat) (c:D1) (n:As),i<f->m+i≤20->SN m n->Aey c->OkP (Auf K x f (i:Int) c.fb c.fi c.fh n z) (SN 50):=by
 obtain⟨b1,b2,_⟩:=F2 hx
 have j: ∀(c:D1) (n:As),SN 20 n->Aey c->OkP (Aue K x c.fb c.fi c.fh n) (SN 50):=by
  intro c n hn hc;unfold Aue;refine Abc (Apk K hc (by omega)) (fun y c1 hy w1=> ?_)
  have:=Bo5 hK hx K y.toNat 20 c1 n (by omega) (by omega) hn w1
  grind
 intro f
 induction f with
 |zero=>omega
 |succ f ih=>
  intro i m c n hi hm hn hc
  have:=hn.c;rw[Auf];refine Akx (fun h=> ?_) (fun _=>Akx (fun h=> ?_) (fun _=>j _ _ (hn.mono (by omega)) hc))
  ·rw[decide_eq_true_eq]at h;refine Aqw (A55 (by omega) _) ?_
   rw[sbn (by omega) (by omega)]
   exact ih (i - 1) (m+1) c _ (by omega) (by omega) (hn.chunk (by omega) (Ht (by omega) (by omega))) hc
  ·rw[decide_eq_true_eq]at h;refine Aqw ⟨by omega,h⟩ ?_
   rw[ad1 (x:=x.G8) (by omega) (by omega)]
   refine Abc (Apk K hc (by omega)) (fun y c1 hy w1=> ?_)
   exact j c1 _ (SN.mono (m:=m) ⟨{hn.w with cur:=Azj _,bump:=Ht (x:=y) (by omega) (by omega)},hn.c,hn.t,hn.g⟩ (by omega)) w1
theorem Bjj{x:Ea}(hx:Ahn x=true){c:D1}(hc:Aey c):OkP (Azz K c x) (SN 50):=by
 obtain⟨b1,b2,b3,b4,b5,b6⟩:=F2 hx;unfold Azz Ak0
 have s0: ∀a b d:Int,wfi a->wfi b->wfi d->SN 0 (As.mk a b d 0 0 0 0 0 [] 0 0 [] []):=fun a b d ha hb hd=>⟨⟨ha,hb,hd,Au9,Au9,Au9,Au9,Au9,Awj,Au9,Au9,A12,Awj⟩,by simp,by simp,by simp⟩
 refine Abc (Apk K hc (by omega)) (fun y1 c1 h1 w1=> ?_)
 rw[Z0];refine Abc (Apk K w1 (by omega)) (fun y2 c2 h2 w2=>Akx (fun _=>okp ((s0 _ _ _ (Ht (by omega) (by omega)) (Azj _) Au9).mono (by omega)) w2) (fun _=> ?_))
 refine Abc (Apk K w2 (by omega)) (fun y3 c3 h3 w3=>Abc (Apk K w3 (by omega)) (fun y4 c4 h4 w4=> ?_))
 have:=Bji hK hx (As.mk 0 0 0 0 0 0 0 0 [] 0 0 [] []) K y4.toNat 10 c4 _ (by omega) (by omega) ((s0 y2 (An6 .i64 1 y1) y3 (Ht (by omega) (by omega)) (Azj _) (Ht (by omega) (by omega))).mono (by omega)) w4
 grind
end
theorem Bag (a b d:Int)(ha:wfi a)(hb:wfi b)(hd:wfi d):ThingW (Bc.mk a b d):=⟨ha,hb,hd⟩
structure DP (c:Ea)(n:As):Prop where
 l:Aqv c n
 t:ThP c [] n
 e:EpP 1 n
theorem DP.w{c:Ea}{n:As}(h:DP c n):Apx n:=A3f (Ag9.2 h.l).1 h.e (by omega)
theorem Brs{c:Ea}{n:As}(L:Aqv c n)(e:EpP 1 n):SN 40 n:=⟨A3f (Ag9.2 L).1 e (by omega),by have:=Asi L.conf L.dist;omega,by have:=L.nth;omega,by have:=L.ntag;omega⟩
theorem Bfw (K:Nat): ∀(f i m:Nat) (c:D1) (n:As),i<f->m+i≤50->SN m n->Aey c->OkP (Atb K f (i:Int) c.fb c.fi c.fh n) (SN 50):=by
 intro f
 induction f with
 |zero=>omega
 |succ f ih=>
  intro i m c n hi hm hn hc
  have:=hn.g;rw[Atb];refine Akx (fun h=> ?_) (fun _=>okp (hn.mono (by omega)) hc)
  rw[decide_eq_true_eq]at h;refine Abc (Apk K hc (by omega)) (fun y c1 hy w1=>Aqw (A55 (by omega) _) ?_)
  rw[sbn (by omega) (by omega)]
  exact ih (i - 1) (m+1) c1 _ (by omega) (by omega) (hn.tag (by omega) (Ht (by omega) (by omega))) w1
section
variable {K:Nat} (hK:281474976710656≤K)
include hK
theorem Bo6{x:Ea}(hx:Ahn x=true){c:D1}(hc:Aey c):OkP (A02 K c x) (SN 60):=by
 unfold A02 Ak4;refine Abc (Bjj hK hx hc) (fun n c1 hn w=> ?_)
 have:=hn.c;have:=hn.t;have:=hn.g
 have W:=hn.w
 have M:=hn.mono (k:=60) (by omega)
 repeat' (first|refine A2x _ (by assumption) (by decide) (fun x c hx hc=>Aqw rfl ?_)|refine Abc (Apk _ (by assumption) (by omega)) (fun x c hx hc=> ?_)|refine Akx (fun _=> ?_) (fun _=> ?_))
 ·exact okp ⟨{W with st:=Azj _},M.c,M.t,M.g⟩ (by assumption)
 ·exact okp ⟨{W with gen:=(by decide: ∀y∈([0,4,5]:List Int),wfi y) _ ‹_›},M.c,M.t,M.g⟩ (by assumption)
 ·exact okp ⟨{W with up:=(by decide: ∀y∈([-1,1,8,9]:List Int),wfi y) _ ‹_›},M.c,M.t,M.g⟩ (by assumption)
 ·exact Aqw (A55 (show n.Ay.length≤_ by omega) _) (okp ((hn.chunk (by omega) ((by decide: ∀y∈([0,12,-1]:List Int),wfi y) _ ‹_›)).mono (by omega)) (by assumption))
 ·exact okp ⟨{W with cur:=Ht (x:= ‹Int›) (by omega) (by omega)},M.c,M.t,M.g⟩ (by assumption)
 ·exact okp ⟨{W with bump:=(by decide: ∀y∈([0,8,17,-1]:List Int),wfi y) _ ‹_›},M.c,M.t,M.g⟩ (by assumption)
 ·exact Aqw (A55 (show n.Fi.length≤_ by omega) _) (okp ((hn.tag (by omega) ((by decide: ∀y∈([255,256,-1]:List Int),wfi y) _ ‹_›)).mono (by omega)) (by assumption))
 ·refine Aqw (Bby (show n.F6.length≤_ by omega) _) (okp ((hn.thing (by omega) (Bag _ _ _ ?_ ?_ ?_)).mono (by omega)) (by assumption))
  all_goals grind [Ht]
 simp_all[okp]
theorem Bbz{c:Ea}{n:As}(L:Aqv c n)(e:EpP 1 n): ∃n' b,Aqn K c n 2 (An6 .i64 c.G8 1)=some (n',b)∧SN 40 n':=by
 have hm:=V1;obtain⟨b1,b2,_⟩:=F2 L.conf
 have S:=Brs L e
 have W:=S.w
 have h1:=Asi L.conf L.dist
 have h3:=L.nth
 have h4:=L.ntag
 have q1:2*c.G8≤c.Ay*c.G8:=Int.mul_le_mul_of_nonneg_right (by omega) (by omega)
 have hby:Ala c=c.Ay*c.G8:=by unfold Ala;rw[L.conf];rfl
 have done: ∃n' b,some (n,false)=some (n',b)∧SN 40 n':=⟨_,_,rfl,S⟩;unfold Aqn Ao7 Al1;rw[ad1 (x:=c.G8) (by omega) (by omega),Atv K W,Z0,Aq6,L.conf]
 simp only[Z0,cond_true];rw[show(n.Vi != 1)=false by rw[L.st];rfl,cond_false,decide_eq_true (by omega),cond_true,At3,Z0,decide_eq_false (by omega),cond_false,Ane,Azo hK L.conf]
 simp only[Z0];cases q:inB 2 0 (c.Ay - 1)with
 |false=>exact done
 |true=>
 simp only[Bool.not_true,cond_false]
 have hr:Att (c.G8+1) c.G8=2:=by
  unfold Att;rw[Acw.2 ⟨by omega,by omega⟩,Acw.2 ⟨by omega,by omega⟩]
  show(c.G8+1+c.G8 - 1) / c.G8=2;rw[show c.G8+1+c.G8 - 1=c.G8*2 by omega,Int.mul_ediv_cancel_left _ (by omega)]
 rw[A07,Z0,hr,Z0];obtain⟨k,rfl⟩: ∃k,K=k+3:=⟨K - 3,by omega⟩
 have e3: ∀i:Nat,i≤2->An6 .i64 2 (i:Int)=2+i:=fun i hi=>by grind [An6,K0]
 have s1:=A55 (l:=n.Ay) (by omega) (An6 .i64 2 0)
 have s2:=A55 (l:=n.Ay++[An6 .i64 2 0]) (by grind) (An6 .i64 2 (An6 .i64 0 1))
 have s3:=Bby (l:=n.F6) (by omega) (Bc.mk (An8 .i64 2 c.G8) (c.G8+1) 2)
 rw[Anb,show decide ((0:Int)<2)=true from rfl,cond_true]
 rw[if_pos s1,Anb,show decide (An6 .i64 0 1<2)=true from rfl,cond_true]
 simp only;rw[if_pos s2,Anb,show decide (An6 .i64 (An6 .i64 0 1) 1<2)=false from rfl,cond_false]
 simp only;rw[if_pos s3,Atu hK c (As.mk n.Vi n.C9 n.Sl n.fUp n.Sm n.Ef n.Sn n.So (n.Ay++[An6 .i64 2 0]++[An6 .i64 2 (An6 .i64 0 1)]) n.Acx n.Sq (n.F6++[Bc.mk (An8 .i64 2 c.G8) (c.G8+1) 2]) n.Fi) (by grind) (by grind) (show n.Fi.length≤_ by omega),Z0]
 cases q3:Ap6 c (As.mk n.Vi n.C9 n.Sl n.fUp n.Sm n.Ef n.Sn n.So (n.Ay++[An6 .i64 2 0]++[An6 .i64 2 (An6 .i64 0 1)]) n.Acx n.Sq (n.F6++[Bc.mk (An8 .i64 2 c.G8) (c.G8+1) 2]) n.Fi)with
 |false=>
  simp_all[Atv]
 |true=>
  exact⟨_,_,rfl,Brs (Ag9.1 ⟨q3,L.st⟩) ⟨e.ep,e.ue,e.cur⟩⟩
theorem Bfx{x:Ea}(hx:Ahn x=true)(z:As): ∀(f i:Nat) (c:D1) (n:As),i<f->i≤20->DP x n->Aey c->OkP (Atd K x f (i:Int) c.fb c.fi c.fh n z) (SN 50):=by
 obtain⟨b1,b2,_⟩:=F2 hx
 have j: ∀(c:D1) (n:As),SN 40 n->Aey c->OkP (Atc K c.fb c.fi c.fh n) (SN 50):=by
  intro c n hn hc;unfold Atc;refine Abc (Apk K hc (by omega)) (fun y c1 hy w1=> ?_)
  have:=Bfw K K y.toNat 40 c1 n (by omega) (by omega) hn w1
  grind
 intro f
 induction f with
 |zero=>omega
 |succ f ih=>
  intro i c n hi hm hn hc;rw[Atd];refine Akx (fun h=> ?_) (fun _=> ?_)
  ·rw[decide_eq_true_eq]at h;refine Abc (Apk K hc (by omega)) (fun y c1 hy w1=>A2x K w1 (by decide) (fun a c2 ha w2=>Aqw rfl ?_))
   have e:An6 .i64 1 y=1+y:=by grind [An6,K0]
   obtain⟨n',b,e2,h2⟩:=A7f hK hn.l hn.w hn.e.cur (1+y) a ⟨by omega,by omega⟩
   dsimp only;rw[e,e2,Z0,sbn (by omega) (by omega)]
   have h3:DP x n':=by
    rcases h2 with rfl|⟨off,hs,rfl⟩
    ·exact hn
    ·obtain⟨l1,l2⟩:=Bdn hn.l hn.e.cur hn.t hs;exact⟨l1,l2,⟨hn.e.ep,hn.e.ue,hn.e.cur⟩⟩
   grind
  ·obtain⟨r,e,w⟩:=Ats K hc (n:=3) (by omega)
   rw[show D1.mk c.fb c.fi c.fh=c from rfl,e,Z0]
   refine Akx (fun _=> ?_) (fun _=>j _ _ (Brs hn.l hn.e) w);obtain⟨n',b,e2,h2⟩:=Bbz hK hn.l hn.e
   grind
theorem Bfy{x:Ea}(hx:Ahn x=true){c:D1}(hc:Aey c):OkP (Ays K c x) (SN 50):=by
 obtain⟨b1,b2,b3,b4,b5,b6⟩:=F2 hx;unfold Ays Ak0;refine Abc (Apk K hc (by omega)) (fun y1 c1 h1 w1=> ?_)
 rw[Z0];refine Abc (Apk K w1 (by omega)) (fun y2 c2 h2 w2=>Abc (Apk K w2 (by omega)) (fun y3 c3 h3 w3=> ?_))
 dsimp only
 have e:An6 .i64 1 y1=1+y1:=by grind [An6,K0]
 rw[e]
 have L:Aqv x (As.mk 1 (1+y1) y2 0 0 0 0 0 [] 0 0 [] []):=⟨hx,rfl,⟨by grind,by grind⟩,⟨by grind,by grind⟩,⟨by grind,by grind⟩,⟨by grind,by grind⟩,⟨by grind,by grind⟩,h2.1,by grind,rfl,rfl,by simp,by simp,rfl,rfl⟩
 have E:EpP 1 (As.mk 1 (1+y1) y2 0 0 0 0 0 [] 0 0 [] []):=⟨by grind,by grind,by grind,by grind⟩
 have L2:=A6t L (k:=y3) ⟨by omega,by omega⟩ (by simp)
 rw[A6u hK L (Brs L E).w ⟨by omega,by omega⟩ (by simp),Z0]
 have D:DP x (A4w (As.mk 1 (1+y1) y2 0 0 0 0 0 [] 0 0 [] []) y3):=⟨L2,⟨rfl,rfl,by simp[Arq,A4w,Aqu]⟩,⟨E.ep,E.ue,by show 0≤y3+1;omega,by show y3+1≤1000;omega⟩⟩
 refine Abc (Apk K w3 (by omega)) (fun y4 c4 h4 w4=> ?_)
 have:=Bfx hK hx (As.mk 0 0 0 0 0 0 0 0 [] 0 0 [] []) K y4.toNat c4 _ (by omega) (by omega) D w4
 rw[Int.toNat_of_nonneg (by omega)]at this
 exact this
structure SW (m:Nat)(x:Az):Prop where
 w:A1f x
 g:x.Fi.length≤m
 c:x.Ay.length≤m
theorem Bjk{x:Ea}(hx:Ahn x=true){c:D1}(hc:Aey c):OkP (Az0 K c x) (SW 60):=by
 obtain⟨b1,b2,b3,b4,b5,b6⟩:=F2 hx
 have j: ∀(c:D1) (a z:Az),SW 50 a->Aey c->OkP (Ate K c.fb c.fi c.fh a z) (SW 50):=by
  intro c a z ha hc;unfold Ate Awb;obtain⟨r,e,w⟩:=Ats K hc (n:=4) (by omega)
  rw[show D1.mk c.fb c.fi c.fh=c from rfl,e,Z0]
  exact Akx (fun _=>okp ⟨⟨ha.w.slot,ha.w.first,Awj,Awj,Au9⟩,by simp,by simp⟩ w) (fun _=>okp ha w)
 have d:OkP (Ayt K c x) (SW 50):=by
  unfold Ayt;refine Abc (Bfy hK hx hc) (fun n c1 hn w1=> ?_);dsimp only;rw[ad1 (x:=x.E6) (by omega) (by omega)]
  refine Abc (Apk K w1 (by omega)) (fun y2 c2 h2 w2=> ?_)
  dsimp only;rw[A27 K hn.w,Z0]
  have W:=A8h hn.w (s:=y2) (Ht (by omega) (by omega))
  refine Abc (Apk K w2 (by omega)) (fun y3 c3 h3 w3=> ?_)
  have hf:wfi y3:=Ht (by omega) (by omega)
  refine Akx (fun _=>Abc (Apk K w3 (by omega)) (fun y4 c4 h4 w4=> ?_)) (fun _=>j _ _ _ ⟨⟨W.slot,hf,W.tags,W.chunks,Au9⟩,hn.g,hn.c⟩ w3)
  exact j _ _ _ ⟨⟨W.slot,hf,W.tags,W.chunks,Ht (x:=y4) (by omega) (by omega)⟩,hn.g,hn.c⟩ w4
 unfold Az0 App;refine Abc d (fun a c1 ha w=> ?_)
 have h1:=ha.g;have h2:=ha.c
 have W:=ha.w
 repeat' (first|refine A2x _ (by assumption) (by decide) (fun x c hx hc=>Aqw rfl ?_)|refine Abc (Apk _ (by assumption) (by omega)) (fun x c hx hc=> ?_)|refine Akx (fun _=> ?_) (fun _=> ?_))
 ·exact okp ⟨{W with slot:=(by decide: ∀y∈([-1,0,8,9]:List Int),wfi y) _ ‹_›},show a.Fi.length≤60 by omega,show a.Ay.length≤60 by omega⟩ (by assumption)
 ·exact okp ⟨{W with first:=(by decide: ∀y∈([-1,9,0]:List Int),wfi y) _ ‹_›},show a.Fi.length≤60 by omega,show a.Ay.length≤60 by omega⟩ (by assumption)
 ·exact okp ⟨{W with done:=(by decide: ∀y∈([-1,0,8,16]:List Int),wfi y) _ ‹_›},show a.Fi.length≤60 by omega,show a.Ay.length≤60 by omega⟩ (by assumption)
 ·exact Aqw (A55 (show a.Fi.length≤_ by omega) _) (okp ⟨{W with tags:=A1q W.tags (by omega) ((by decide: ∀y∈([-1,255,256]:List Int),wfi y) _ ‹_›)},by grind,show a.Ay.length≤60 by omega⟩ (by assumption))
 ·exact Aqw (A55 (show a.Ay.length≤_ by omega) _) (okp ⟨{W with chunks:=A1q W.chunks (by omega) ((by decide: ∀y∈([-1,0,12]:List Int),wfi y) _ ‹_›)},show a.Fi.length≤60 by omega,by grind⟩ (by assumption))
 ·exact okp ⟨W,show a.Fi.length≤60 by omega,show a.Ay.length≤60 by omega⟩ (by assumption)
end
structure AnyP (w:C5):Prop where
 ww:Aid w
 l:w.fL.length≤8
 s:w.fP.Vi.length≤12∧w.fP.N8.length≤12∧w.fP.N7.length≤192
 q:w.fQ.length≤40000
 n: ∀x∈w.fL,SN 80 x
theorem A56{l:List Az}(h:Bas l)(hl:l.length≤100000){x:Az}(hx:A1f x):Bas (l++[x]):=by
 refine⟨fun y hy=> ?_,by grind⟩
 rcases Mj.1 hy with hy|hy
 ·exact h.1 y hy
 grind
theorem A7y{α:Type}{l:List α}{P:α->Prop}(h: ∀x∈l,P x)(i:Nat){x:α}(hx:P x): ∀y∈l.set i x,P y:=by
 grind
theorem AnyP.node{w:C5}(h:AnyP w)(i:Nat){x:As}(hx:SN 80 x):AnyP (C5.mk w.fC w.fP (w.fL.set i x) w.fQ w.Acy):=
 ⟨{h.ww with l:=Axz h.ww.l i hx.w},by show(w.fL.set i x).length≤8;grind [l],h.s,h.q,A7y h.n i hx⟩
section
variable {K:Nat} (hK:281474976710656≤K)
include hK
theorem Bjl{c:D1}(hc:Aey c){most:Int}(hm:0<most∧most≤1000):OkP (Az1 K c most) AnyP:=by
 obtain⟨x,l,w,c',E,n,e,G,hE,hn,hwc,hx,_,_,w1⟩:=run_ok hK hc hm
 have W:=G.ww (by omega) (by omega)
 have I:=G.inv
 have hlen:=I.len;obtain⟨b1,b2,b3,b4,b5,b6⟩:=F2 I.conf
 have P:=Air.1 I.pool
 have h1:=Bre w
 have h2:=Bfd w
 have h3:=G.wt
 have p1:=P.st;have p2:=P.own;have p3:=P.mem
 have hmm:=Au4 (a:=w.fC.Ay) (b:=w.fC.G8) (m:=12) (n:=16) (by omega) b1.2 (by omega) b2.2
 have hm0:0<w.fC.Ay*w.fC.G8:=Int.mul_pos (by omega) (by omega)
 have N: ∀y∈w.fL,SN 12 y:=A8t fun k hk=>by
  have hb:=I.node k hk
  have hy:=A3f hb (G.ep k hk) (by omega)
  by_cases s:(gt w.fL k).Vi=1
  ·have X:=Ag9.1 ⟨hb,s⟩
   have:=X.nth;have:=X.ntag;have:=Asi X.conf X.dist;exact⟨hy,by omega,by omega,by omega⟩
  ·rw[Awk hb s]at hy ⊢;exact⟨hy,by simp[Aqj],by simp[Aqj],by simp[Aqj]⟩
 have A:AnyP w:=⟨W,by omega,by omega,by omega,fun y hy=>(N y hy).mono (by omega)⟩
 unfold Az1 A0j;rw[e,Z0,Z0];refine Abc (Apk K w1 (by grind)) (fun k c2 hk w2=>Abc (Apk K w2 (by omega)) (fun d c3 hd w3=> ?_))
 dsimp only at hk ⊢
 have hg:=Akq hk.1 hk.2
 have S:=N _ hg
 have SW':=S.w
 have St:=S.t
 have M:=S.mono (k:=80) (by omega)
 unfold Aa4;refine Akx (fun _=>Abc (Bo3 K w3) (fun y c4 hy w4=>okp ⟨{W with c:=hy},A.l,A.s,A.q,A.n⟩ w4)) (fun _=> ?_)
 refine Akx (fun _=>Abc (Apk K w3 (by omega)) (fun y c4 hy w4=>Abc (Apk K w4 (by omega)) (fun z c5 hz w5=>Aqw hy (okp ⟨{W with p:={W.p with st:=⟨A7y W.p.st.1 _ (Ht (x:=z) (by omega) (by omega)),by grind⟩}},A.l,by grind,A.q,A.n⟩ w5)))) (fun _=> ?_)
 refine Akx (fun _=>Abc (Apk K w3 (by omega)) (fun y c4 hy w4=>Aqw hy (okp ⟨{W with p:={W.p with mem:=⟨A7y W.p.mem.1 _ ⟨by decide,by decide⟩,by grind⟩}},A.l,by grind,A.q,A.n⟩ w4))) (fun _=> ?_)
 refine Akx (fun _=>Abc (Bo6 hK I.conf w3) (fun y c4 hy w4=>Aqw hk (okp (A.node _ (hy.mono (by omega))) w4))) (fun _=> ?_)
 refine Akx (fun _=>Abc (Apk K w3 (by omega)) (fun y c4 hy w4=>Aqw hk (okp (A.node _ ⟨{SW' with st:=Ht (x:=y) (by omega) (by omega)},M.c,M.t,M.g⟩) w4))) (fun _=> ?_)
 refine Akx (fun _=>Abc (Apk K w3 (by omega)) (fun y c4 hy w4=>Aqw hk (okp (A.node _ ⟨{SW' with up:=Ht (x:=y) (by omega) (by omega)},M.c,M.t,M.g⟩) w4))) (fun _=> ?_)
 refine Akx (fun _=>Aqw hk (Aqw hk (okp (A.node _ ⟨{SW' with ep:=Azj _},M.c,M.t,M.g⟩) w3))) (fun _=> ?_)
 refine Akx (fun _=>Abc (Bjk hK I.conf w3) (fun y c4 hy w4=>Aqw ?_ (okp ⟨{W with q:=A56 W.q (by omega) hy.w},A.l,A.s,by grind,A.n⟩ w4))) (fun _=> ?_)
 ·grind [V1]
 refine Akx (fun _=>Akx (fun h=> ?_) (fun _=>okp A w3)) (fun _=> ?_)
 ·rw[decide_eq_true_eq]at h;refine Aqw ⟨by omega,by omega,by omega⟩ (okp ⟨{W with q:=⟨fun y hy=>W.q.1 y (List.mem_of_mem_drop (Z42 hy)),by grind⟩},A.l,A.s,by grind,A.n⟩ w3)
 refine Akx (fun _=>A2x K w3 (by decide) (fun y c4 hy w4=>Aqw rfl (Aqw ?_ (okp ⟨{W with log:=⟨fun z hz=> ?_,by grind⟩},A.l,A.s,A.q,A.n⟩ w4)))) (fun _=> ?_)
 ·grind [V1]
 ·rcases Mj.1 hz with hz|hz
  ·exact W.log.1 z hz
  ·rw[Pz.1 hz];exact(by decide: ∀y∈([0,255,256,-1]:List Int),wfi y) _ hy
 refine Akx (fun _=>Aqw hk (Aqw hk (Abc (Apk K w3 (by omega)) (fun y c4 hy w4=>Aqw (Bby (by omega) _) (Aqw hk (okp (A.node _ ((S.thing (by omega) (Bag _ _ _ (Ht (x:=y) (by omega) (by omega)) (Ht (by decide) (by decide)) Au9)).mono (by omega))) w4)))))) (fun _=> ?_)
 refine Akx (fun _=>Abc (Apk K w3 (by omega)) (fun y c4 hy w4=>Aqw hk (okp (A.node _ ⟨{SW' with next:=Ht (x:=y) (by omega) (by omega)},M.c,M.t,M.g⟩) w4))) (fun _=> ?_)
 refine Akx (fun _=>Akx (fun h=> ?_) (fun _=>okp A w3)) (fun _=>okp A w3);rw[decide_eq_true_eq]at h;refine Abc (Apk K w3 (by omega)) (fun y c4 hy w4=>Aqw ⟨by omega,h⟩ (okp ⟨{W with q:=⟨A7y W.q.1 _ {W.q.1 _ (Akq (i:=0) (by omega) h)with done:=Ht (x:=y) (by omega) (by omega)},by grind⟩},A.l,A.s,by grind,A.n⟩ w4))
end
theorem Bo7{w:C5}(hw:Aid w)(hq:w.fQ.length≤100000){k:Int}(hk:0≤k∧k<(w.fL.length:Int)):Aid (Am6 w k):=by
 have hn:=hw.l.1 _ (Akq hk.1 hk.2);obtain⟨u1,u2,u3⟩:=A6n hw.l hk
 have hk':0≤k∧k<((Anf w.fL k).length:Int):=by rw[u3];exact hk
 exact⟨hw.c,(Bio hw.p _).1,Axz u1 _ (Bww (u1.1 _ (Akq hk'.1 hk'.2))),A56 hw.q hq (A8h hn (Bep _)),hw.log⟩
section
variable {K:Nat} (hK:281474976710656≤K)
include hK
theorem Bhc{a:List Int}(hb:Azh a)(ha:a.length≤1048576){most:Int}(hm:0<most∧most≤1000): ∃w c,Avp K a most=some (c,w)∧AnyP w∧Aey c:=by
 obtain⟨c,e1,w1⟩:=Box hK hb ha;obtain⟨w,c2,e2,A,w2⟩:=Bjl hK w1 hm;refine⟨w,c2,?_,A,w2⟩;unfold Avp;rw[e1,Z0,e2];rfl
end
section
variable {K:Nat} (hK:281474976710656≤K)
include hK
end
theorem Bdy (K:Nat){c:D1}(hc:Aey c):OkP (Ayu K c) fun _=>True:=by
 unfold Ayu Avq;obtain⟨h,c1,e,w⟩:=A7i K hc;rw[e,Z0];dsimp only
 repeat' (first|refine A2x _ (by assumption) (by decide) (fun x c hx hc=>Aqw rfl ?_)|refine Abc (Apk _ (by assumption) (by omega)) (fun x c hx hc=> ?_)|refine Akx (fun _=> ?_) (fun _=> ?_))
 all_goals exact okp trivial (by assumption)
theorem A57 (K:Nat){l:List As}(hl:l.length≤1000)(k:Int): ∃h,Anl K l k=some h:=by
 unfold Anl;rw[A0b K (by omega),Z0]
 by_cases q:0≤k∧k<(l.length:Int)
 ·rw[decide_eq_true q,Bool.not_true,cond_false,if_pos q];exact⟨_,rfl⟩
 ·rw[decide_eq_false q];exact⟨_,rfl⟩
section
variable {K:Nat} (hK:281474976710656≤K)
include hK
omit hK in
theorem A2j (K:Nat){c:D1}(hc:Aey c)(h z:An):OkP (Ap2 K c.fb c.fi c.fh h z) fun _=>True:=by
 unfold Ap2 At0;obtain⟨r,e,w⟩:=Ats K hc (n:=10) (by omega)
 rw[show D1.mk c.fb c.fi c.fh=c from rfl,e,Z0]
 exact Akx (fun _=>okp trivial w) (fun _=>okp trivial w)
theorem A58{w:C5}(A:AnyP w){c:D1}(hc:Aey c):OkP (Atf K c w) fun _=>True:=by
 have hl:=A.l;unfold Atf;refine Akx (fun _=>Abc (Bdy K hc) (fun x c _ hc=>okp trivial hc)) (fun h0=> ?_)
 have h0:w.fL.length≠0:=fun e=>by rw[e]at h0;cases h0
 obtain⟨r,e,w1⟩:=Ats K hc (n:=6) (by omega)
 rw[e,Z0];refine Akx (fun _=>Abc (Bdy K w1) (fun x c _ hc=>okp trivial hc)) (fun _=>Abc (Apk K w1 (by omega)) (fun x c2 hx w2=> ?_))
 obtain⟨h1,e1⟩:=A57 K (l:=w.fL) (by omega) x
 obtain⟨rs,e2,h2,h3⟩:=A5f hK A.ww (by omega)
 dsimp only;rw[e1,Z0,e2,Z0];refine Akx (fun hp=> ?_) (fun _=>A2j K w2 _ (An.mk 0 0));rw[decide_eq_true_eq]at hp;obtain⟨r2,e3,w3⟩:=Ats K w2 (n:=4) (by omega)
 rw[e3,Z0];refine Akx (fun _=>Abc (Apk K w3 (by omega)) (fun y c4 hy w4=>Aqw hy ?_)) (fun _=>A2j K w3 _ (An.mk 0 0))
 obtain⟨h4,e4⟩:=A57 K (l:=w.fL) (by omega) (gt rs y)
 dsimp only;rw[e4];exact A2j K w4 _ (An.mk 0 0)
end
structure B0q (w:C5)(k:Int):Prop where
 node:Ap6 w.fC (gt w.fL k)=true
 own:A08 w.fP k (gt w.fL k).Ay=true
 inch:(gt w.fL k).F6.all (Arp w.fC (gt w.fL k).Ay)=true
 apart:Aot (gt w.fL k).F6=true
 loose:Arq w.fC w.fP.N7 (gt w.fL k)=true
theorem A3i{w:C5}(h:Apu w=true){k:Int}(hk:0≤k∧k<(w.fL.length:Int)):B0q w k:=by
 unfold Apu at h;simp only[Z4,Z1,List.mem_range]at h
 have:=h.2.2.1 k.toNat (by omega)
 unfold A3j at this;rw[show((k.toNat:Nat):Int)=k by omega]at this
 simp only[Z4]at this;exact⟨this.1,this.2.1,this.2.2.1,this.2.2.2.1,this.2.2.2.2⟩
theorem A88{w:C5}(h:Apu w=true):A16 w.fC w.fP:=by
 unfold Apu at h;rw[Z4]at h;exact Air.1 h.1
section
variable {K:Nat} (hK:281474976710656≤K)
include hK
theorem A59 (code Er:Int){b:List Int}(hb:b.length≤140737488355327):Avs K (A5q code Er b) (A5q code Er b)=some true:=by
 unfold Avs A5q;simp only[beq_self_eq_true,Bool.and_self,cond_true,A4h hK b hb,Z0]
end
section
variable {N:Int} {t:Int->Lk}
theorem Bfz{x y:Int}(h:Al N t x)(l:Lv N t y)(e1:(t y).up=(t x).up)(e2:(t y).ue=(t x).ue):Al N t y:=by
 cases h with
 |root a b=>exact .root l (e1.trans b)
 |step a b c=>exact .step l ⟨by rw[e1];exact b.1,by rw[e1,e2];exact b.2⟩ (by rw[e1];exact c)
theorem Btl{x:Int}(h:Al N t x)(h0:(t x).up≠0):Al N t ((t x).up - 1):=by
 cases h with
 |root a b=>exact absurd b h0
 |step a b c=>exact c
def Bd (N:Int)(t:Int->Lk)(y:Int):Prop:=Lv N t y∧ ¬Al N t y
theorem Brt (T:Aq7 N t){c:Int}(h:Bd N t c)(hn:(t c).nx≠0):Bd N t ((t c).nx - 1):=by
 obtain⟨a,_,b,d⟩:=(T.link c h.1).next hn;exact⟨a,fun g=>h.2 (Bfz g h.1 b.symm d.symm)⟩
theorem Bdz (n:Nat):kids N t n (0 - 1)=[]:=by
 cases n with
 |zero=>rfl
 |succ n=>rw[A6o,if_neg (by omega)]
theorem Bru (T:Aq7 N t): ∀(n:Nat) (c:Int),Bd N t c-> ∀x∈kids N t n c,Bd N t x:=by
 intro n
 induction n with
 |zero=>intro c _ x hx;cases hx
 |succ n ih=>
  intro c h x hx;rw[A6o,if_pos h.1.1]at hx;rcases Eg.1 hx with rfl|hx
  ·exact h
  ·by_cases hn:(t c).nx=0
   ·rw[hn,Bdz]at hx;cases hx
   ·exact ih _ (Brt T h hn) x hx
theorem B0r (T:Aq7 N t){j:Int}(h:Bd N t j): ∀x∈kf N t (t j).fi,Bd N t x:=by
 intro x hx;unfold kf at hx
 by_cases hf:(t j).fi=0
 ·rw[hf,Bdz]at hx;cases hx
 ·obtain⟨a,_,b,_⟩:=(T.link j h.1).first hf;refine Bru T _ _ ⟨a,fun g=>h.2 ?_⟩ x hx
  have:=Btl g (by rw[b];have:=h.1.1;omega)
  rw[b,Int.add_sub_cancel]at this;exact this
theorem Bb0 (T:Aq7 N t){g:Int}(hg:Al N t g){y:Int}(h:Bd N t y):y≠g∧y+1≠(t g).pv∧rem t g y=t y:=by
 have hy:=h.1.1
 have h1:y≠g:=fun e=>h.2 (e ▸ hg)
 have h2:y+1≠(t g).pv:=by
  intro e;obtain⟨_,b⟩:=(T.link g hg.lv).prev (by omega)
  rw[←e,Int.add_sub_cancel]at b
  have hg0:=hg.lv.1;obtain⟨_,_,c,d⟩:=(T.link y h.1).next (by omega)
  rw[b,Int.add_sub_cancel]at c d;exact h.2 (Bfz hg h.1 c.symm d.symm)
 refine⟨h1,h2,?_⟩;rw[Akz h1,if_neg h2,if_neg,if_neg]
 ·intro e;obtain⟨_,_,c,d⟩:=(T.link g hg.lv).next (by omega)
  rw[←e,Int.add_sub_cancel]at c d;exact h.2 (Bfz hg h.1 c d)
 ·rintro⟨_,e,_⟩
  have:=Btl hg (by omega)
  rw[←e,Int.add_sub_cancel]at this;exact h.2 this
theorem B0s (T:Aq7 N t){g:Int}(hg:Al N t g){f:Int}(h: ∀x∈kf N t f,Bd N t x):kf N (rem t g) f=kf N t f:=
 Bbd fun x hx=>⟨(Bb0 T hg (h x hx)).1,(Bb0 T hg (h x hx)).2.1⟩
end
structure Lft (w w':C5)(t:Int->Lk)(k:Int):Prop where
 A:AtT w.fL t
 R:Rg w.fL
 T:Aq7 w.fL.length t
 al:Al w.fL.length t k
 len:w'.fL.length=w.fL.length
 A':AtT w'.fL (rem t k)
 R':Rg w'.fL
 tags: ∀x,0≤x∧x<(w.fL.length:Int)->x≠k->(gt w'.fL x).Fi=(gt w.fL x).Fi
theorem Lft.kids{w w':C5}{t:Int->Lk}{k:Int}(L:Lft w w' t k){f:Int}(hf:0≤f∧f≤1000)(h: ∀x∈P2 w.fL f,Bd w.fL.length t x):P2 w'.fL f=P2 w.fL f:=by
 rw[A5d L.A L.R hf.1 hf.2]at h ⊢;rw[A5d L.A' L.R' hf.1 hf.2,L.len,B0s L.T L.al h]
theorem Lft.kidsK{w w':C5}{t:Int->Lk}{k:Int}(L:Lft w w' t k){y:Int}(h:Bd w.fL.length t y):kidsK w' y=kidsK w y∧ ∀x∈kidsK w y,Bd w.fL.length t x:=by
 have hy:=h.1.1
 have h1:(gt w'.fL y).Ef=(gt w.fL y).Ef:=by
  have e1:=L.A' y (by rw[L.len];exact hy)
  have e2:=L.A y hy;rw[(Bb0 L.T L.al h).2.2,e2]at e1;exact(congrArg Lk.fi e1).symm
 have hr:=(L.R.rg y hy).2.1
 have hl:=L.R.len
 have h2: ∀x∈P2 w.fL (gt w.fL y).Ef,Bd w.fL.length t x:=by
  rw[A5d L.A L.R (by omega) (by omega)]
  have:=B0r L.T h;rw[L.A y hy]at this;exact this
 show P2 w'.fL (gt w'.fL y).Ef=P2 w.fL (gt w.fL y).Ef∧_;rw[h1];exact⟨L.kids ⟨by omega,by omega⟩ h2,h2⟩
theorem A89{α β:Type}{f g:β->α->β}: ∀(l:List α) (s:β),(∀s,∀x∈l,f s x=g s x)->l.foldl f s=l.foldl g s:=by
 intro l
 induction l with
 |nil=>intro s _;rfl
 |cons x l ih=>
  intro s h;rw[List.foldl_cons,List.foldl_cons,h s x (by simp)]
  exact ih _ fun s y hy=>h s y (by simp[hy])
theorem Lft.step{w w':C5}{t:Int->Lk}{k:Int}(L:Lft w w' t k){D D':List Int->List Int->List Int×List Int}(hD: ∀ks met,(∀x∈ks,Bd w.fL.length t x)->D' ks met=D ks met)(s:List Int×List Int){y:Int}(h:Bd w.fL.length t y):Auw (· ++ ·) (Alf w') w' D' s y=Auw (· ++ ·) (Alf w) w D s y:=by
 obtain⟨e1,e2⟩:=L.kidsK h;unfold Auw Alf;rw[e1,hD _ _ e2,L.tags y h.1.1 (Bb0 L.T L.al h).1]
theorem Lft.dfs{w w':C5}{t:Int->Lk}{k:Int}(L:Lft w w' t k): ∀(u:Nat) (ks met:List Int),(∀x∈ks,Bd w.fL.length t x)->A4x (· ++ ·) [] (Alf w') w' u ks met=A4x (· ++ ·) [] (Alf w) w u ks met:=by
 intro u
 induction u with
 |zero=>intro ks met h;exact A89 _ _ fun s y hy=>L.step (fun _ _ _=>rfl) s (h y hy)
 |succ u ih=>intro ks met h;exact A89 _ _ fun s y hy=>L.step ih s (h y hy)
def A4y (w:C5)(k:Int):List Int:=(A4x (· ++ ·) [] (Alf w) w w.fL.length [k] []).1
def A6a (w:C5)(x:Az):List Int:=x.Fi.reverse++(P2 w.fL x.Ef).flatMap (A4y w)
def A4j (w:C5):List Int:=w.fQ.flatMap (A6a w)
theorem A6b{α β:Type}{f g:α->List β}: ∀l:List α,(∀x∈l,f x=g x)->l.flatMap f=l.flatMap g:=by
 intro l
 induction l with
 |nil=>intro _;rfl
 |cons x l ih=>
  intro h;rw[List.flatMap_cons,List.flatMap_cons,h x (by simp),ih fun y hy=>h y (by simp[hy])]
theorem Lft.pAt{w w':C5}{t:Int->Lk}{k:Int}(L:Lft w w' t k){x:Az}(hf:0≤x.Ef∧x.Ef≤1000)(h: ∀y∈P2 w.fL x.Ef,Bd w.fL.length t y):A6a w' x=A6a w x:=by
 unfold A6a;rw[L.kids hf h];refine congrArg _ (A6b _ fun y hy=> ?_);unfold A4y;rw[L.len,L.dfs _ _ _ fun z hz=>by rw[Pz.1 hz];exact h y hy]
theorem Brv{K:Nat}(hK:562949953421312≤K){w:C5}(hw:Aid w)(h8:w.fL.length≤8)(S:Six w){k:Int}(hk:0≤k∧k<(w.fL.length:Int)):Aut K w k=some (A4y w k)∧(A4y w k).length≤48:=by
 have hs: ∀x∈[k],0≤x∧x<(w.fL.length:Int):=fun x hx=>by rw[Pz.1 hx];exact hk
 have hmk:Azm w (A4x (· ++ ·) [] (Alf w) w w.fL.length [k] []).2∧_:=A4f (op:=(· ++ ·)) (e:=[]) (g:=Alf w) (w:=w) (w.fL.length+1) [k] [] hs (Ba9 w)
 have hlen:(A4x (· ++ ·) [] (Alf w) w w.fL.length [k] []).1.length+6*([]:List Int).length≤6*(A4x (· ++ ·) [] (Alf w) w w.fL.length [k] []).2.length:=Bfu S (w.fL.length+1) [k] [] hs (Ba9 w)
 have hml:=A7q hmk.1;simp only[List.length_nil]at hlen;refine⟨?_,by unfold A4y;omega⟩
 unfold Aut;rw[Azp K (Acz hw.l),decide_eq_true hk,Int.toNat_natCast,Brd];simp only[Z0,Bool.not_true,cond_false];rw[if_pos ⟨by omega,by omega,by omega,by omega⟩,Bjh w hw S (by omega) w.fL.length K [k] [] (by omega) (by simp) hs (Ba9 w) (by simp)]
 simp only[Z0];rw[if_pos (by rw[A4n,A4n])]
 rfl
theorem A9a{K:Nat}(hK:562949953421312≤K){w:C5}(hw:Aid w)(h8:w.fL.length≤8)(S:Six w){x:Az}(hx:x.Fi.length≤6):(A6a w x).length≤1000∧(P2 w.fL x.Ef).length≤8∧ ∀c∈P2 w.fL x.Ef,Aut K w c=some (A4y w c)∧(A4y w c).length≤48:=by
 have hk: ∀k∈P2 w.fL x.Ef,Aut K w k=some (A4y w k)∧(A4y w k).length≤48:=fun k hk=>Brv hK hw h8 S (A1i _ _ k hk)
 have hn:(P2 w.fL x.Ef).length≤8:=by
  have:=A09 (l:=w.fL) w.fL.length (An7 .i64 x.Ef 1);unfold P2;omega
 refine⟨?_,hn,hk⟩
 have h1:=A4u (A4y w) 48 (P2 w.fL x.Ef) fun c hc=>(hk c hc).2;unfold A6a;rw[Z23,List.length_reverse];omega
theorem A7j{K:Nat}(hK:562949953421312≤K){w:C5}(hw:Aid w)(h8:w.fL.length≤8)(hQ:w.fQ.length≤1000000)(S:Six w)(hT: ∀x∈w.fQ,x.Fi.length≤6):Avu K w=some (A4j w)∧(A4j w).length≤1000*w.fQ.length:=by
 have hm:=V1
 have hK2:281474976710656≤K:=by omega
 refine⟨?_,A4u (A6a w) 1000 w.fQ fun x hx=>(A9a hK hw h8 S (hT _ hx)).1⟩;unfold Avu
 have key: ∀(f i:Nat),i≤w.fQ.length->w.fQ.length - i<f->Are K f ((w.fQ.take i).flatMap (A6a w)) w.fQ (w.fQ.length:Int) (i:Int) w.fC.Ay w.fC.G8 w.fC.E6 w.fC.Gu w.fC.E7 w.fC.G9 w.fP.N7 w.fP.Vi w.fP.N8 w.fL w.fQ w.Acy=some (A4j w):=by
  intro f
  induction f with
  |zero=>intro i _ h;omega
  |succ f ih=>
   intro i hi hf
   have hl:((w.fQ.take i).flatMap (A6a w)).length≤1000*i:=by
    have:=A4u (A6a w) 1000 (w.fQ.take i) fun x hx=>(A9a hK hw h8 S (hT _ (Z42 hx))).1;rw[List.length_take]at this
    have h2:1000*min i w.fQ.length≤1000*i:=Nat.mul_le_mul_left _ (Nat.min_le_left _ _);omega
   rw[Are];rcases Hn i w.fQ.length with h|h
   ·have hx:w.fQ[i]∈w.fQ:=List.getElem_mem h;obtain⟨p1,p2,p3⟩:=A9a hK hw h8 S (hT _ hx)
    have hnt:=hT _ hx;rw[Ad7 h,cond_true,if_pos (Aiy h),V2 h,A44 hK2 _ (by omega),Z0,if_pos ⟨by simp only[Z23,List.length_reverse];omega,by simp only[Z23,List.length_reverse];omega⟩,A3z hK2 hw.l,Z0]
    have inner: ∀(f2 j:Nat),j≤(P2 w.fL w.fQ[i].Ef).length->(P2 w.fL w.fQ[i].Ef).length - j<f2->Atq K w.fQ (w.fQ.length:Int) (i:Int) w.fC.Ay w.fC.G8 w.fC.E6 w.fC.Gu w.fC.E7 w.fC.G9 w.fP.N7 w.fP.Vi w.fP.N8 w.fL w.fQ w.Acy (P2 w.fL w.fQ[i].Ef) (Are K f) f2 ((w.fQ.take i).flatMap (A6a w)++w.fQ[i].Fi.reverse++((P2 w.fL w.fQ[i].Ef).take j).flatMap (A4y w)) ((P2 w.fL w.fQ[i].Ef).length:Int) (j:Int)=some (A4j w):=by
     intro f2
     induction f2 with
     |zero=>intro j _ h;omega
     |succ f2 ih2=>
      intro j hj hf2
      have hl2:(((P2 w.fL w.fQ[i].Ef).take j).flatMap (A4y w)).length≤48*8:=by
       have:=A4u (A4y w) 48 ((P2 w.fL w.fQ[i].Ef).take j) fun c hc=>(p3 c (Z42 hc)).2;rw[List.length_take]at this
       have h2:48*min j (P2 w.fL w.fQ[i].Ef).length≤48*8:=Nat.mul_le_mul_left _ (by omega)
       omega
      rw[Atq];rcases Hn j (P2 w.fL w.fQ[i].Ef).length with hj2|hj2
      ·obtain⟨t1,t2⟩:=p3 _ (List.getElem_mem hj2)
       rw[Ad7 hj2,cond_true,if_pos (Aiy hj2),V2 hj2,show C5.mk (Ea.mk w.fC.Ay w.fC.G8 w.fC.E6 w.fC.Gu w.fC.E7 w.fC.G9) (Dn.mk w.fP.N7 w.fP.Vi w.fP.N8) w.fL w.fQ w.Acy=w from rfl,t1,Z0,if_pos ⟨by simp only[Z23,List.length_reverse];omega,by simp only[Z23,List.length_reverse];omega⟩,Ad5 (by omega),Z31,←A4g (A4y w) _ hj2]
       exact ih2 (j+1) hj2 (by omega)
      ·obtain rfl:j=(P2 w.fL w.fQ[i].Ef).length:=by omega
       rw[Ars (Z9 _),cond_false,List.take_length,Ad5 (by omega),Z31]
       have:(w.fQ.take i).flatMap (A6a w)++(w.fQ[i].Fi.reverse++(P2 w.fL w.fQ[i].Ef).flatMap (A4y w))=(w.fQ.take (i+1)).flatMap (A6a w):=by rw[A4g (A6a w) _ h];rfl
       rw[this];exact ih (i+1) h (by omega)
    have:=inner K 0 (Z21 _) (by omega)
    rw[List.take_zero,List.flatMap_nil,List.append_nil]at this;exact this
   ·obtain rfl:i=w.fQ.length:=by omega
    rw[Ars (Z9 _),cond_false,List.take_length];rfl
 have:=key K 0 (Z21 _) (by omega)
 rw[List.take_zero,List.flatMap_nil]at this;exact this
theorem Bjm{w:C5}(h:Apu w=true):(w.fL.length:Int)=w.fC.E6:=by
 unfold Apu at h;simp only[Z4,beq_iff_eq]at h;exact h.2.1
theorem A6c{w:C5}(h:Apu w=true):Rg w.fL:=by
 obtain⟨_,_,b,_⟩:=F2 (A88 h).conf
 have:=Bjm h;refine⟨by omega,fun k hk=> ?_⟩
 rw[this];exact A3d (A3i h hk).node
theorem Bf0{w:C5}(h:Apu w=true){t:Int->Lk}(A:AtT w.fL t):Aq7 w.fL.length t:=by
 refine(Bda A (A6c h) fun k hk hs=> ?_).1 ?_
 ·rw[Awk (A3i h hk).node hs];exact⟨rfl,rfl,rfl,rfl⟩
 ·unfold Apu at h;simp only[Z4]at h;exact h.2.2.2.1
theorem A4k{w:C5}(h:Apu w=true){x:Az}(hx:x∈w.fQ):Aiq w x=true:=by
 unfold Apu at h;simp only[Z4,Z1]at h;exact h.2.2.2.2.1.1 x hx
theorem Bjn{w:C5}(h:Apu w=true):Six w:=fun k hk=>by
 have S:=(A3i h hk).node
 by_cases s:(gt w.fL k).Vi=1
 ·exact(Ag9.1 ⟨S,s⟩).ntag
 ·rw[Awk S s];exact Z21 _
theorem Bo8{w:C5}(h:Apu w=true){t:Int->Lk}(A:AtT w.fL t){x:Az}(hx:x∈w.fQ): ∀y∈P2 w.fL x.Ef,Bd w.fL.length t y:=by
 intro y hy
 have W:=A4k h hx;unfold Aiq at W;simp only[Z4]at W
 have o:=W.2.2.2.2.2;unfold Arr at o
 have o:=(A8o A (A6c h) (A1i _ _ y hy)).1 (Z1.1 o y hy);exact⟨o.1,fun a=>a.noOr o⟩
theorem Bf1{c:Prop}[Decidable c]{a b n:Int}(h1:0≤a∧a≤n)(h2:0≤b∧b≤n):0≤(if c then a else b)∧(if c then a else b)≤n:=by
 split
 ·exact h1
 ·exact h2
theorem Bah{w:C5}(h:Apu w=true){t:Int->Lk}(A:AtT w.fL t){k:Int}(al:Al w.fL.length t k):Lft w (Am6 w k) t k:=by
 have R:=A6c h
 have hk:=al.lv.1
 have hN:(Am6 w k).fL.length=w.fL.length:=by unfold Am6;simp only;rw[Z49,Awl]
 have A':AtT (Am6 w k).fL (rem t k):=Bn1 A R hk _;refine⟨A,R,Bf0 h A,al,hN,A',⟨by rw[hN];exact R.len,fun x hx=> ?_⟩,fun x hx hne=> ?_⟩
 ·have e:=A' x hx;rw[hN]at hx ⊢
  have e1:=A x hx
  have e2:=A k hk
  have r1:=R.rg x hx
  have r2:=R.rg k hk;rw[show(gt (Am6 w k).fL x).fUp=(rem t k x).up from by rw[e];rfl,show(gt (Am6 w k).fL x).Ef=(rem t k x).fi from by rw[e];rfl,show(gt (Am6 w k).fL x).Sn=(rem t k x).nx from by rw[e];rfl,show(gt (Am6 w k).fL x).So=(rem t k x).pv from by rw[e];rfl]
  unfold rem;rw[e1,e2];simp only[A3c];split
  ·exact⟨⟨Int.le_refl _,Int.natCast_nonneg _⟩,⟨Int.le_refl _,Int.natCast_nonneg _⟩,⟨Int.le_refl _,Int.natCast_nonneg _⟩,⟨Int.le_refl _,Int.natCast_nonneg _⟩⟩
  ·simp only;exact⟨r1.1,Bf1 r2.2.2.1 r1.2.1,Bf1 r2.2.2.1 r1.2.2.1,Bf1 r2.2.2.2 r1.2.2.2⟩
 ·have e0:gt (Am6 w k).fL x=gt (Anf w.fL k) x:=by
   unfold Am6;simp only;rw[Apy (by rw[Awl];exact hk) (by rw[Awl];exact hx),if_neg hne]
  rw[e0,A3e R hk hx hne];rfl
theorem Bd0{w:C5}(h:Apu w=true){t:Int->Lk}(A:AtT w.fL t){k:Int}(al:Al w.fL.length t k):A4j (Am6 w k)=A4j w++((gt w.fL k).Fi.reverse++(P2 (Am6 w k).fL (gt w.fL k).Ef).flatMap (A4y (Am6 w k))):=by
 have L:=Bah h A al;unfold A4j;rw[show(Am6 w k).fQ=w.fQ++[Ago (gt w.fL k) (An6 .i64 k 1)] from rfl,List.flatMap_append,List.flatMap_cons,List.flatMap_nil,List.append_nil]
 refine congrArg (· ++_) (A6b _ fun x hx=>L.pAt ?_ (Bo8 h A hx))
 have W:=A4k h hx;unfold Aiq at W;rw[Z4]at W
 have:=(Awm.1 W.1).first;obtain⟨_,_,b,_⟩:=F2 (Awm.1 W.1).conf;omega
structure A6d (l l':List As):Prop where
 len:l'.length=l.length
 st: ∀x,(gt l' x).Vi=(gt l x).Vi
 gen: ∀x,(gt l' x).C9=(gt l x).C9
 ep: ∀x,(gt l' x).Sl=(gt l x).Sl
 up: ∀x,(gt l' x).fUp=(gt l x).fUp
 ue: ∀x,(gt l' x).Sm=(gt l x).Sm
 first: ∀x,(gt l' x).Ef=(gt l x).Ef
 next: ∀x,(gt l' x).Sn=(gt l x).Sn
 prev: ∀x,(gt l' x).So=(gt l x).So
section
variable {l l':List As} (E:A6d l l')
include E
theorem A6d.e_kidsL: ∀(n:Nat) (k:Int),Aw0 l' n k=Aw0 l n k:=by
 intro n
 induction n with
 |zero=>intro k;rfl
 |succ n ih=>intro k;simp only[Aw0,E.len,E.next,ih]
theorem A6d.e_riseL: ∀(n:Nat) (k:Int),Ail l' n k=Ail l n k:=by
 intro n
 induction n with
 |zero=>intro k;rfl
 |succ n ih=>intro k;simp only[Ail,E.len,E.up,ih]
theorem A6d.e_aliveW: ∀r,Arv l' r=Arv l r:=by
 intro r
 induction r with
 |nil=>rfl
 |cons x r ih=>
  cases r with
  |nil=>simp only[Arv,E.st]
  |cons y r=>simp only[Arv,E.st,E.ue,E.ep,ih]
theorem A6d.e_findL (h:An):Agu l' h=Agu l h:=by
 have e1:Ap5 l' h=Ap5 l h:=by unfold Ap5;simp only[E.len,E.st,E.gen]
 unfold Agu Avw A2g;simp only[e1,E.len,E.e_riseL,E.e_aliveW,E.up]
theorem A6d.e_treeB:A41 l'=A41 l:=by
 unfold A41 A1h A2q Bez Baw A8a A6i A1y Art A0n plB;simp only[E.len,E.e_riseL,E.st,E.up,E.ue,E.ep,E.first,E.next,E.prev]
theorem A6d.e_orphB (k:Int):Aw1 l' k=Aw1 l k:=by
 unfold Aw1 A0n plB;simp only[E.len,E.st,E.up,E.ue,E.ep]
theorem A6d.e_kidsOfL (f:Int):P2 l' f=P2 l f:=by
 unfold P2;rw[E.len,E.e_kidsL]
end
theorem Brw (l:List As)(k x:Int)(v:As)(h:k.toNat<l.length):gt (l.set k.toNat v) x=if x.toNat=k.toNat then v else gt l x:=by
 unfold gt
 by_cases e:x.toNat=k.toNat
 ·rw[if_pos e,e,List.getD_eq_getElem?_getD,List.getElem?_set_self h];rfl
 ·rw[if_neg e,List.getD_eq_getElem?_getD,List.getElem?_set_ne (Ne.symm e),List.getD_eq_getElem?_getD]
def Au8 (w:C5)(k v:Int):C5:=C5.mk w.fC w.fP (w.fL.set k.toNat (Bbv (gt w.fL k) v)) w.fQ w.Acy
theorem Bo9{l:List As}{k:Int}(hk:0≤k∧k<(l.length:Int))(v:Int):A6d l (l.set k.toNat (Bbv (gt l k) v)):=by
 have h:k.toNat<l.length:=by omega
 have e: ∀x:Int,x.toNat=k.toNat->gt l x=gt l k:=fun x hx=>by unfold gt;rw[hx]
 have key: ∀ {α:Type} (f:As->α) (_:f (Bbv (gt l k) v)=f (gt l k)) (x:Int),f (gt (l.set k.toNat (Bbv (gt l k) v)) x)=f (gt l x):=by
  intro α f hf x;rw[Brw _ _ _ _ h];split
  ·rename_i hx;rw[hf,e x hx]
  ·rfl
 exact⟨Z49,key (·.Vi) rfl,key (·.C9) rfl,key (·.Sl) rfl,key (·.fUp) rfl,key (·.Sm) rfl,key (·.Ef) rfl,key (·.Sn) rfl,key (·.So) rfl⟩
theorem Bjo{w:C5}(h:Apu w=true){k v:Int}(hk:0≤k∧k<(w.fL.length:Int))(hs:(gt w.fL k).Vi=1)(hv:0≤v∧v≤255)(ht:(gt w.fL k).Fi.length<6):Apu (Au8 w k v)=true:=by
 have E:=Bo9 hk v
 have hn:(Au8 w k v).fL.length=w.fL.length:=E.len
 have hsl: ∀x:Nat,x<w.fL.length->A3j (Au8 w k v) x=true:=by
  intro i hi
  have T:=A3i h (k:=(i:Int)) ⟨by omega,by omega⟩
  by_cases e:(i:Int)=k
  ·rw[e]at T
   have L:=Ag9.1 ⟨T.node,hs⟩
   have L2:Aqv w.fC (Bbv (gt w.fL k) v):=⟨L.conf,L.st,L.gen,L.up,L.first,L.next,L.prev,L.ep,L.ue,L.dist,L.cur,L.nth,by show((gt w.fL k).Fi++[v]).length≤6;rw[Z23,List.length_singleton];omega,by show((gt w.fL k).Fi++[v]).all _=true;rw[List.all_append,L.tags];simp[Acw,hv],L.things⟩
   have eg:gt (Au8 w k v).fL (i:Int)=Bbv (gt w.fL k) v:=by rw[e];exact Au7 hk _
   unfold A3j;rw[eg,e];simp only[Z4];exact⟨(Ag9.2 L2).1,T.own,T.inch,T.apart,T.loose⟩
  ·have eg:gt (Au8 w k v).fL (i:Int)=gt w.fL (i:Int):=Azc hk.1 ⟨by omega,by omega⟩ (fun g=>e g.symm) _
   unfold A3j;rw[eg];simp only[Z4];exact⟨T.node,T.own,T.inch,T.apart,T.loose⟩
 have P:=A88 h;unfold Apu at h ⊢;simp only[Z4,Z1,List.mem_range,beq_iff_eq]at h ⊢;obtain⟨g1,g2,_,g4,⟨g5,g6⟩,g7⟩:=h;refine⟨g1,by rw[hn];exact g2,by rw[hn];exact hsl,E.e_treeB.trans g4,⟨fun x hx=> ?_,?_⟩,g7⟩
 ·have a:=g5 x hx;unfold Aiq A1z Ank Avz Aw2 Arr Au8 at *;simp only[E.st,E.prev,E.e_kidsOfL,E.e_orphB,funext E.e_orphB]at a ⊢;exact a
 ·have:kdL (Au8 w k v).fL w.fQ=kdL w.fL w.fQ:=by
   unfold kdL Au8;simp only[E.e_kidsOfL]
  unfold Awg at g6 ⊢;rw[show(Au8 w k v).fQ=w.fQ from rfl,this,hn]
  unfold Au8;simp only[E.st,E.e_orphB];exact g6
def Bf2 (c:Ea)(n:As):Int:=bif !Ap6 c n||n.Acx==0 then 0 else An7 .i64 c.G8 n.Sq
theorem Bf3{K:Nat}(hK:281474976710656≤K)(c:Ea)(n:As)(hn:Apx n):Avm K c n=some (Bf2 c n)∧Ay4 K c n=some (Bf2 c n):=by
 unfold Avm Ay4 Bf2;rw[Atu hK _ _ (Ax8 hK hn.chunks) (A90 hK hn.things) (Ax8 hK hn.tags),A61 hK _ _ (Ax8 hK hn.chunks) (A90 hK hn.things) (Ax8 hK hn.tags)];simp only[Z0];cases Ap6 c n<;>cases n.Acx==0<;>exact⟨rfl,rfl⟩
theorem Bf4{K:Nat}(hK:281474976710656≤K)(w:C5)(hw:Aid w)(h:An): ∃code Er b,Atz K w h=some (w,A5q code Er b)∧A04 K w h=some (w,A5q code Er b)∧b.length≤4:=by
 unfold Atz A04 Aro Avn Ay5
 have e2:C5.mk (Ea.mk w.fC.Ay w.fC.G8 w.fC.E6 w.fC.Gu w.fC.E7 w.fC.G9) (Dn.mk w.fP.N7 w.fP.Vi w.fP.N8) w.fL w.fQ w.Acy=w:=rfl;rw[At4 hK hw,Awh hK w hw,A25 hK w hw,Aza hK hw,Awi hK w hw.l,A6m hK w hw.l,Aqa hK hw.l,Az8 hK hw.l]
 simp only[Z0,Ae2,e2,Aza hK hw];cases Apu w with
 |false=>exact⟨1,0,[],rfl,rfl,by simp⟩
 |true=>
 simp only[cond_true]
 by_cases h0:(Agu w.fL h).2=0
 ·have hi:=A2o h0;obtain⟨l1,l2⟩:=Bf3 hK w.fC (gt w.fL (Agu w.fL h).1) (hw.l.1 _ (Akq hi.1 hi.2));rw[h0];simp only[beq_self_eq_true,cond_true,if_pos hi,l1,l2,Z0];exact⟨0,A31 w h,_,rfl,rfl,by simp⟩
 ·rw[Aps h0];exact⟨(Agu w.fL h).2,A31 w h,[],rfl,rfl,by simp⟩
theorem Bd1{l:List As}{h:An}(h0:(Agu l h).2=0):Avw l (Agu l h).1=true:=by
 unfold Agu at h0 ⊢;cases q1:Aul h with
 |false=>rw[q1]at h0;cases h0
 |true=>
  rw[q1]at h0;simp only[cond_true]at h0 ⊢
  by_cases q2:Ap5 l h<0
  ·rw[decide_eq_true q2]at h0;cases h0
  ·rw[decide_eq_false q2]at h0 ⊢;simp only[cond_false]at h0 ⊢;cases q3:Avw l (Ap5 l h)with
   |false=>rw[q3]at h0;cases h0
   |true=>exact q3
section
variable {K:Nat} (hK:281474976710656≤K)
include hK
theorem A6y{w:C5}(hw:Aid w)(h:An):Aus K w h=some (if(Agu w.fL h).2=0 then(gt w.fL (Agu w.fL h).1).Fi else [])∧Az5 K w h=some (if(Agu w.fL h).2=0 then(gt w.fL (Agu w.fL h).1).Fi else []):=by
 have hm:=V1;unfold Az5 Aus;rw[Aqa hK hw.l,Az8 hK hw.l];simp only[Z0]
 by_cases h0:(Agu w.fL h).2=0
 ·have hi:=A2o h0
  have h2:=(hw.l.1 _ (Akq hi.1 hi.2)).tags.2;rw[if_pos h0,show((Agu w.fL h).2 != 0)=false by rw[h0];rfl]
  simp only[cond_false,Z38];rw[if_pos hi,Ar5 K h2,if_pos hi,if_pos ⟨by omega,by omega⟩]
  exact⟨rfl,rfl⟩
 ·rw[if_neg h0,show((Agu w.fL h).2 != 0)=true from bne_iff_ne.2 h0]
  exact⟨rfl,rfl⟩
omit hK in
theorem Brx{w:C5}(hw:Aid w){k v:Int}(hk:0≤k∧k<(w.fL.length:Int))(hv:0≤v∧v≤255)(ht:(gt w.fL k).Fi.length<6):Aid (Au8 w k v):=by
 have hn:=hw.l.1 _ (Akq hk.1 hk.2);exact {hw with l:=Axz hw.l _ {hn with tags:=A1q hn.tags (by omega) (Ht (by omega) (by omega))}}
theorem Bpa (w:C5)(hw:Aid w)(h:An)(v:Int): ∃w' code Er,Axv K w h v=some (w',A5q code Er [])∧A20 K w h v=some (w',A5q code Er [])∧Aid w'∧(code≠0∧w'=w∨code=0∧Apu w=true∧(0≤v∧v≤255)∧(Agu w.fL h).2=0∧(gt w.fL (Agu w.fL h).1).Fi.length<6∧w'=Au8 w (Agu w.fL h).1 v):=by
 have hx:=V1;unfold Axv A20 Aro Awa Ayq Ay3;rw[At4 hK hw,Awh hK w hw,A25 hK w hw,Aza hK hw,Awi hK w hw.l,A6m hK w hw.l,Aqa hK hw.l,Az8 hK hw.l];simp only[Z0,Ane,Auu,Ae2,bne];cases hB:Apu w with
 |false=>exact⟨w,1,0,rfl,rfl,hw,.inl ⟨by decide,rfl⟩⟩
 |true=>
 cases hv:inB v 0 255 with
 |false=>exact⟨w,1,0,rfl,rfl,hw,.inl ⟨by decide,rfl⟩⟩
 |true=>
 rw[Acw]at hv;simp only[cond_true]
 by_cases h0:(Agu w.fL h).2=0
 ·have hi:=A2o h0;rw[h0];simp only[beq_self_eq_true,cond_true,if_pos hi]
  by_cases ht:((gt w.fL (Agu w.fL h).1).Fi.length:Int)≥6
  ·rw[decide_eq_true ht];exact⟨w,8,A31 w h,rfl,rfl,hw,.inl ⟨by decide,rfl⟩⟩
  ·rw[decide_eq_false ht]
   have hz:((gt w.fL (Agu w.fL h).1).Fi++([v]:List Int)).length*8≤140737488355328∧((gt w.fL (Agu w.fL h).1).Fi++([v]:List Int)).length≤maxLen:=⟨by simp;omega,by simp;omega⟩
   simp only[cond_false,beq_self_eq_true,cond_true,if_pos hi,if_pos hz];exact⟨Au8 w (Agu w.fL h).1 v,0,A31 w h,rfl,rfl,Brx hw hi hv (by omega),.inr ⟨rfl,trivial,hv,trivial,by omega,rfl⟩⟩
 ·rw[Aps h0];exact⟨w,(Agu w.fL h).2,A31 w h,by simp only[cond_false,Aps h0];rfl,rfl,hw,.inl ⟨h0,rfl⟩⟩
theorem Bd2{w:C5}(hB:Apu w=true)(hw:Aid w)(hQ:w.fQ.length≤1000000000){h:An}{k:Int}(hf:Agu w.fL h=(k,0))(hst:(gt w.fL k).Vi=1)(hk:0≤k∧k<(w.fL.length:Int)): ∃a,Ay7 K w h=some (Am6 w k,a)∧a.W4=0:=by
 unfold Ay7 Atp;rw[A25 hK w hw,hB,Z0,Bool.not_true,cond_false,A6m hK w hw.l,Z0,Az8 hK hw.l,Z0,hf];simp only[bne_self_eq_false,cond_false];rw[Bfa hK w hw (by omega) hk hst]
 exact⟨_,rfl,rfl⟩
theorem Bf5{a:List Int}(hb:Azh a)(ha:a.length≤1048576): ∃w h n,Ayv K a=some (w,h,n)∧AnyP w:=by
 obtain⟨w,c,e1,A,w1⟩:=Bhc hK hb ha (most:=40) (by omega)
 obtain⟨h,c2,e2,_,w2⟩:=A58 hK A w1;obtain⟨n,c3,e3,_,_⟩:=Azi K w2 (l:=[0,7,255,256,-1]) (by simp)
 refine⟨w,h,n,?_,A⟩;unfold Ayv;simp only[e1,Z0,e2,e3];rfl
theorem Bb1{a:List Int}(hb:Azh a)(ha:a.length≤1048576): ∃w h,Awd K a=some (w,h)∧AnyP w:=by
 obtain⟨w,c,e1,A,w1⟩:=Bhc hK hb ha (most:=40) (by omega)
 obtain⟨h,c2,e2,_,w2⟩:=A58 hK A w1;refine⟨w,h,?_,A⟩;unfold Awd Awo;simp only[e1,Z0,e2]
end
theorem Bjp{w:C5}{t:Int->Lk}{k:Int}(L:Lft w (Am6 w k) t k)(S:Six w):Six (Am6 w k):=by
 intro x hx;rw[L.len]at hx
 by_cases e:x=k
 ·subst e
  have:gt (Am6 w x).fL x=Bnl (gt (Anf w.fL x) x):=Au7 (by rw[Awl];exact hx) _
  rw[this];exact Z21 _
 ·rw[L.tags x hx e];exact S x hx
theorem Bd3 (a:List Int)(u:Baq a): ∃K,Az7 K a=some true:=by
 refine⟨562949953421312,?_⟩
 have hK2:=Z9 562949953421312
 have hK:281474976710656≤562949953421312:=by decide
 unfold Az7 A45;rw[Z0]
 by_cases hbig:(a.length:Int)>1048576
 ·rw[decide_eq_true hbig,cond_true]
 rw[decide_eq_false hbig,cond_false]
 have ha:a.length≤1048576:=by omega
 have hb:Azh a:=(Bin u).1;obtain⟨v,h,n,e1,A⟩:=Bf5 hK hb ha;obtain⟨u1,g,e2,A1⟩:=Bb1 hK hb ha
 have V:=A.ww;obtain⟨x,code,Er,w1,w2,X,hx⟩:=Bpa hK v V h n;obtain⟨c1,k1,b1,r1,r2,l1⟩:=Bf4 hK u1 A1.ww g;obtain⟨t1,t2⟩:=A6y hK A1.ww g
 have tl:(if(Agu u1.fL g).2=0 then(gt u1.fL (Agu u1.fL g).1).Fi else []).length≤140737488355327:=by
  split
  ·rename_i h0
   have hi:=A2o h0
   have:=(A1.ww.l.1 _ (Akq hi.1 hi.2)).tags.2;omega
  ·simp
 rw[e1,Z0];dsimp only;rw[w2,Z0,w1,Z0,e2,Z0];dsimp only;rw[r2,Z0,r1,Z0,A1p hK X,Z0,cond_true,A59 hK _ _ (by simp),Z0,cond_true,A59 hK _ _ (by omega),Z0,cond_true,A1p hK A1.ww,Z0,cond_true,t1,Z0,t2,Z0,Ax7 hK _ tl,Z0,Bool.not_true,cond_false]
 rcases hx with ⟨h0,rfl⟩|⟨rfl,hB,hn,h0,ht,rfl⟩
 ·rw[show((A5q code Er []).W4 != 0)=true from bne_iff_ne.2 h0,cond_true,A1p hK X];rfl
 rw[show((A5q 0 Er []).W4 != 0)=false from rfl,cond_false]
 have hk:=A2o h0
 have hs:(gt v.fL (Agu v.fL h).1).Vi=1:=Be8 h0;obtain⟨k,hfv⟩: ∃k,Agu v.fL h=(k,0):=⟨_,Prod.ext rfl h0⟩;rw[hfv]at hk hs ht X ⊢;simp only at hk hs ht X ⊢
 have E:=Bo9 hk n
 have hB2:=Bjo hB hk hs hn ht
 have hlx:(Au8 v k n).fL.length=v.fL.length:=E.len
 have hfx:Agu (Au8 v k n).fL h=(k,0):=(E.e_findL h).trans hfv
 have hkx:0≤k∧k<((Au8 v k n).fL.length:Int):=by rw[hlx];exact hk
 have hsx:(gt (Au8 v k n).fL k).Vi=1:=(E.st k).trans hs
 have hal2:Avw (Au8 v k n).fL k=true:=by
  have:=Bd1 (l:=(Au8 v k n).fL) (h:=h) (by rw[hfx])
  rw[hfx]at this;exact this
 have hq:=A.q
 have hl8:(Au8 v k n).fL.length≤8:=by rw[hlx];exact A.l
 have hqx:(Au8 v k n).fQ.length≤40000:=hq
 have htx:(gt (Au8 v k n).fL k).Fi=(gt v.fL k).Fi++[n]:=by
  rw[show gt (Au8 v k n).fL k=Bbv (gt v.fL k) n from Au7 hk _];rfl
 generalize Au8 v k n=x at *;obtain⟨t,AT⟩: ∃t,AtT x.fL t:=⟨fun k=>A3c (gt x.fL k),fun _ _=>rfl⟩;unfold Avw at hal2;rw[Z4]at hal2
 have al:Al x.fL.length t k:=Bdj AT (A6c hB2) _ _ hal2.1 hal2.2
 have L:=Bah hB2 AT al;obtain⟨d,e3,hd⟩:=Bd2 hK hB2 X (by omega) hfx hsx hkx
 have W2:=Bo7 X (by omega) hkx
 have S:=Bjn hB2
 have tq: ∀y∈x.fQ,y.Fi.length≤6:=fun y hy=>by
  have W:=A4k hB2 hy;unfold Aiq at W;rw[Z4]at W;exact(Awm.1 W.1).ntag
 obtain⟨p1,_⟩:=A7j hK2 W2 (by rw[L.len];exact hl8) (by rw[show(Am6 x k).fQ=x.fQ++[Ago (gt x.fL k) (An6 .i64 k 1)] from rfl,Z23,List.length_singleton];omega) (Bjp L S) (fun y hy=>by
  rcases Mj.1 (show y∈x.fQ++[Ago (gt x.fL k) (An6 .i64 k 1)] from hy)with hy|hy
  ·exact tq y hy
  ·rw[Pz.1 hy];exact S k hkx)
 obtain⟨p2,q2⟩:=A7j hK2 X hl8 (by omega) S tq
 rw[(A6y hK X h).1,hfx,if_pos rfl,Z0,e3,Z0];dsimp only;rw[p1,Z0,p2,Z0,(A6y hK V h).1,hfv,if_pos rfl,Z0];dsimp only;rw[htx,Bd0 hB2 AT al,htx,List.reverse_append,hd]
 have hs1:An6 .i64 ((gt v.fL k).Fi.length:Int) 1=((gt v.fL k).Fi.length:Int)+1:=ad1 (by omega) (by omega)
 have hs2:An7 .i64 (((gt v.fL k).Fi++[n]).length:Int) 1=((gt v.fL k).Fi.length:Int):=by
  rw[Z23,List.length_singleton,sb1 (by omega) (by omega)];omega
 have g1:gt ((gt v.fL k).Fi++[n]) ((gt v.fL k).Fi.length:Int)=n:=by rw[V2 (by simp)];simp
 have g2: ∀r:List Int,gt (A4j x++([n].reverse++(gt v.fL k).Fi.reverse++r)) ((A4j x).length:Int)=n:=by
  intro r;rw[V2 (by simp)];simp
 rw[hs1,hs2,g1,g2]
 have c1:(((gt v.fL k).Fi++[n]).length:Int)=((gt v.fL k).Fi.length:Int)+1:=by simp
 rw[c1]
 have c2: ∀r:List Int,((A4j x).length:Int)<((A4j x++([n].reverse++(gt v.fL k).Fi.reverse++r)).length:Int):=by
  intro r;simp;omega
 rw[beq_self_eq_true,cond_true,if_pos ⟨by omega,by omega⟩,beq_self_eq_true,cond_true,beq_self_eq_true,cond_true,decide_eq_true (c2 _),cond_true,if_pos ⟨by omega,c2 _⟩]
section
variable {N:Int} {t:Int->Lk}
end
section
variable {K:Nat} (hK:281474976710656≤K)
include hK
end
end Go.Proofs.YtcdojenmonmcfaaGreat
