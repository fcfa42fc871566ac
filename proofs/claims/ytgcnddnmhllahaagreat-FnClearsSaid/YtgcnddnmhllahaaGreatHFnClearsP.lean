/- The plain law for FnClears; no condition. -/
import Derived.Test.YtgcnddnmhllahaaGreatHFnClearsPa
set_option linter.all false
namespace Go.Proofs.YtgcnddnmhllahaaGreat
open Go.Eng Go.ChangeShapes Go.WideShapes Go.ChangeAt Go.RowKit
def AlW (l:List Az)(k:Int):Prop:= ∃t,AtT l t/\Al l.length t k
structure A78 (w w':Bo):Prop where
 conf:w'.fC=w.fC
 len:w'.fL.length=w.fL.length
 node: ∀k,AlW w.fL k->AlW w'.fL k/\(∃a b c,gt w'.fL k=lnk (gt w.fL k) a b c)/\ ∀n,Akt w'.fL n k=Akt w.fL n k
theorem Bbt (n:Az):lnk n n.Bz n.G6 n.G7=n:=rfl
theorem A78.refl (w:Bo):A78 w w:=⟨rfl,rfl,fun k h=>⟨h,⟨_,_,_,(Bbt _).symm⟩,fun _=>rfl⟩⟩
theorem A78.trans{a b c:Bo}(h:A78 a b)(g:A78 b c):A78 a c:=by
 refine⟨g.conf.trans h.conf,g.len.trans h.len,fun k hk=> ?_⟩;obtain⟨h1,⟨x,y,z,h2⟩,h3⟩:=h.node k hk;obtain⟨g1,⟨u,v,w,g2⟩,g3⟩:=g.node k h1;exact⟨g1,⟨u,v,w,by rw[g2,h2];rfl⟩,fun n=>(g3 n).trans (h3 n)⟩
theorem Bc5{w w':Bo}(hc:w'.fC=w.fC)(hl:w'.fL=w.fL):A78 w w':=⟨hc,by rw[hl],fun k h=>by rw[hl];exact⟨h,⟨_,_,_,(Bbt _).symm⟩,fun _=>rfl⟩⟩
theorem Bp7{N:Int}{t t':Int->Lk}(h: ∀y,Al N t y->Lv N t' y/\(t' y).up=(t y).up/\(Cu N t y->Al N t ((t y).up - 1)->Cu N t' y)){k:Int}(hk:Al N t k):Al N t' k:=by
 induction hk with
 |root a b=>
  obtain⟨h1,h2,h3⟩:=h _ (.root a b);exact .root h1 (by omega)
 |step a b c ih=>
  obtain⟨h1,h2,h3⟩:=h _ (.step a b c);exact .step h1 (h3 b c) (by grind)
theorem Bys{N:Int}{t:Int->Lk}{g:Int}(hg:Oo N t g){k:Int}(hk:Al N t k):Al N (rem t g) k:=by
 refine Bp7 (fun y hy=> ?_) hk;have hne:y≠g:=fun e=>hy.noOr (e ▸ hg);refine⟨Atz.2 ⟨hne,hy.lv⟩,by rw[Ao0 hne],fun hc hu=>(A5a hne).2 ⟨fun e=> ?_,hc⟩⟩
 simp_all[Al.noOr]
theorem Byt{N:Int}{t:Int->Lk}{g:Int}(hg:(t g).lv=false){k:Int}(hk:Al N t k):Al N (clr t g) k:=by
 refine Bp7 (fun y hy=> ?_) hk;exact⟨(Az1 hg).2 hy.lv,by rw[Ao1 hg hy.lv],fun hc _=>(A9s hg hy.lv).2 hc⟩
theorem Bp8{N:Int}{t t':Int->Lk}(h: ∀x,0<=x/\x<N->t' x=t x){k:Int}(hk:Al N t k):Al N t' k:=by
 refine Bp7 (fun y hy=> ?_) hk;have hy1:=hy.lv;simp_all[Cu,Lv]
theorem AlW.al{l:List Az}{t:Int->Lk}(A:AtT l t){k:Int}(h:AlW l k):Al l.length t k:=by
 obtain⟨t',A',h'⟩:=h;exact Bp8 (fun x hx=>by rw[A x hx,A' x hx]) h'
theorem Bga{w w':Bo}{t t':Int->Lk}(R:Rg w.fL)(R':Rg w'.fL)(A:AtT w.fL t)(A':AtT w'.fL t')(F:Air w.fL.length t (A17 w.fQ))(hc:w'.fC=w.fC)(hl:w'.fL.length=w.fL.length)
  (hn: ∀k,Al w.fL.length t k->Al w.fL.length t' k/\(t' k).up=(t k).up/\ ∃a b c,gt w'.fL k=lnk (gt w.fL k) a b c):A78 w w':=by
 refine⟨hc,hl,fun k hk=> ?_⟩;have h:=hk.al A;obtain⟨h1,h2,h3⟩:=hn k h;refine⟨⟨t',A',by grind⟩,h3,fun n=> ?_⟩;rw[A9b A' R',A9b A R,hl];obtain⟨d,U⟩:=F.uw;exact A5u _ _ fun y hy=>(hn y ((Bjj U n k h).1 y hy).2).2.1
theorem Bs6{α:Type}[Inhabited α](a:α)(l:List α){i:Nat}(h:i<l.length):gt (a::l) ((i+1:Nat):Int)=gt l (i:Int):=by
 rfl
theorem Bhz{α:Type}[Inhabited α](f:α->Nat): ∀(l l':List α),l'.length=l.length->(∀x:Nat,x<l.length->f (gt l' (x:Int))=f (gt l (x:Int)))->(l'.map f).sum=(l.map f).sum:=by
 intro l;induction l with
 |nil=>grind
 |cons a l ih=>
  intro l' h hx;cases l' with
  |nil=>simp at h
  |cons b l'=>
   have hl:l'.length=l.length:=by grind
   have h0:=hx 0 (by simp);have:=ih l' hl fun x h=>by
    have:=hx (x+1) (by grind);assumption
   simp only[Z8,List.sum_cons,this];rw[show f b=f a from h0]
theorem Bs7{α:Type}[Inhabited α](f:α->Nat): ∀(l l':List α) (g:Nat),l'.length=l.length->g<l.length->(∀x:Nat,x<l.length->x≠g->f (gt l' (x:Int))=f (gt l (x:Int)))->(l'.map f).sum+f (gt l (g:Int))=(l.map f).sum+f (gt l' (g:Int)):=by
 intro l;induction l with
 |nil=>grind
 |cons a l ih=>
  intro l' g h hg hx;cases l' with
  |nil=>simp at h
  |cons b l'=>
   have hl:l'.length=l.length:=by grind
   simp only[Z8,List.sum_cons];cases g with
   |zero=>
    have:=Bhz f l l' hl fun x h=>by
     have:=hx (x+1) (by grind) (by omega);assumption
    rw[this];show f b+_+f a=f a+_+f b;omega
   |succ g=>
    have hg:g<l.length:=by grind
    have h0:f b=f a:=hx 0 (by simp) (by omega);have:=ih l' g hl hg fun x h hn=>by
     have:=hx (x+1) (by grind) (by omega);assumption
    grind [Bs6]
theorem A02{f:Az->Nat}{l l':List Az}{g:Int}(hl:l'.length=l.length)(hg:0<=g/\g<(l.length:Int))(hx: ∀x,0<=x/\x<(l.length:Int)->x≠g->f (gt l' x)=f (gt l x)):(l'.map f).sum+f (gt l g)=(l.map f).sum+f (gt l' g):=by
 have:=Bs7 f l l' g.toNat hl (by omega) fun x h hn=>hx x ⟨by omega,by omega⟩ (by omega)
 rwa[show((g.toNat:Nat):Int)=g by omega]at this
theorem A7r (c:Fi){st:Int}(h:st≠1)(g:Int):wtN c (Asd st g)=0:=by unfold wtN Asd;rw[if_neg h]
structure Bh0 (w w':Bo)(E:Int):Prop where
 inv:Inv w'
 mem: ∀x∈w'.fP.Fp,0<=x/\x<=255
 ep: ∀k,0<=k/\k<(w'.fL.length:Int)->EpP E (gt w'.fL k)
 pot:pot w'<pot w
 wt:wt w'<=wt w
 stay:A78 w w'
 cn:cnt w'<=cnt w
theorem Bh0.good{w w':Bo}{E:Int}(S:Bh0 w w' E){n:Nat}(G:Ev w E n):Ev w' E n:=⟨S.inv,S.mem,S.ep,by have:=S.wt;have:=G.wt;omega,by have:=S.cn;have:=G.cn;omega⟩
theorem Bp9{w:Bo}{E:Int}{n:Nat}(G:Ev w E n){x:Bb}{qs:List Bb}(hq:w.fQ=x::qs)(h0:0<x.Dh.length):Bh0 w (A6z w x qs) E:=by
 have e:wtQ w.fC (Blm x)+1=wtQ w.fC x:=by
  grind [wtQ,Blm]
 have ep:pot (A6z w x qs)+1=pot w:=by
  unfold pot;rw[hq];show(w.fL.map (wtN w.fC)).sum+((Blm x::qs).map (wtQ w.fC)).sum+1=_
  grind
 refine⟨Bs4 G.inv hq h0,G.mem,G.ep,by omega,?_,Bc5 rfl rfl,by unfold cnt;rw[hq];exact Z9 _⟩;unfold wt;show pot (A6z w x qs)+(w.Jp++[_]).length<=_
 grind
theorem Blp{w:Bo}{E:Int}{n:Nat}(G:Ev w E n){x:Bb}{qs:List Bb}(hq:w.fQ=x::qs)(hc:0<x.Ad.length):Bh0 w (A5c w x qs) E:=by
 have X:=Bhy G.inv hq hc;obtain⟨b1,b2,b3,b4,b5,b6⟩:=Bd X.rc.conf;have ht:=X.to;have hd:=X.rc.done;have e:wtQ w.fC (A66 w x)<wtQ w.fC x:=by
  have hm:w.fC.Du.toNat*x.Ad.length=w.fC.Du.toNat*(x.Ad.length - 1)+w.fC.Du.toNat:=by
   conv=>lhs;rw[show x.Ad.length=x.Ad.length - 1+1 by omega]
   rfl
  grind [A66,wtQ]
 have ep:pot (A5c w x qs)<pot w:=by
  unfold pot;rw[hq];show(w.fL.map (wtN w.fC)).sum+((A66 w x::qs).map (wtQ w.fC)).sum<_
  grind
 refine⟨Bp4 G.inv hq hc,Bp3 G.mem,G.ep,ep,?_,Bc5 rfl rfl,by unfold cnt;rw[hq];exact Z9 _⟩;unfold wt;show pot (A5c w x qs)+w.Jp.length<=_;omega
theorem Bqa{w:Bo}(I:Inv w){t:Int->Lk}(A:AtT w.fL t)(F:Air w.fL.length t (A17 w.fQ)){x:Bb}{qs:List Bb}(hq:w.fQ=x::qs)(hf:x.Bz≠0):
  (∀y,0<=y/\y<(w.fL.length:Int)->y≠x.Bz - 1->gt (Ayx w.fL (x.Bz - 1)) y=Blo (gt w.fL (x.Bz - 1)) (gt w.fL y) (x.Bz - 1) y)/\gt (Ayx w.fL (x.Bz - 1)) (x.Bz - 1)=Asd 2 (gt w.fL (x.Bz - 1)).C7:=by
 have X:=Beo I A F hq hf;exact⟨fun y hy hne=>Bjo I.rg X.lv.1 hy hne X.pv (X.nf y hy),Bjp X.lv.1⟩
theorem Blq{w:Bo}{E:Int}{n:Nat}(G:Ev w E n)(hE:0<=E){x:Bb}{qs:List Bb}(hq:w.fQ=x::qs)(hf:x.Bz≠0):Bh0 w (Az3 w x qs) E:=by
 obtain⟨t,A,F⟩:=G.inv.forest;have X:=Beo G.inv A F hq hf;obtain⟨hg,hb⟩:=Bqa G.inv A F hq hf;have hk:=X.lv.1;have L:=G.inv.live A X.lv;have I':=Bp6 G.inv hq hf;have hN:=Bbs w.fL (x.Bz - 1);have hs:=A02 (f:=wtN w.fC) hN hk fun y hy hne=>by rw[hg y hy hne];rfl
 rw[hb,A7r _ (by decide)]at hs;have e1:wtN w.fC (gt w.fL (x.Bz - 1))=2+(gt w.fL (x.Bz - 1)).Dh.length+w.fC.Du.toNat*(gt w.fL (x.Bz - 1)).Ad.length:=by unfold wtN;rw[if_pos L.st]
 have e2:wtQ w.fC (Aio (gt w.fL (x.Bz - 1)) x.Bz)=1+(gt w.fL (x.Bz - 1)).Dh.length+w.fC.Du.toNat*(gt w.fL (x.Bz - 1)).Ad.length:=rfl;have e3:wtQ w.fC (Bbr w.fL x)=wtQ w.fC x:=rfl;have ep:pot (Az3 w x qs)<pot w:=by
  unfold pot;rw[hq];show((Ayx w.fL (x.Bz - 1)).map (wtN w.fC)).sum+((Aio (gt w.fL (x.Bz - 1)) x.Bz::Bbr w.fL x::qs).map (wtQ w.fC)).sum<_
  grind
 have hs2:=A02 (f:=lvN) hN hk fun y hy hne=>by rw[hg y hy hne];rfl
 have el:lvN (gt w.fL (x.Bz - 1))=1:=by unfold lvN;rw[if_pos L.st]
 have eb:lvN (gt (Ayx w.fL (x.Bz - 1)) (x.Bz - 1))=0:=by rw[hb];rfl
 refine⟨I',?_,fun y hy=> ?_,ep,?_,?_,?_⟩
 ·show ∀y∈(Ah0 w.fP _).Fp,_;rw[(A5x G.inv hk).2.1];exact G.mem
 ·have hy:0<=y/\y<((Ayx w.fL (x.Bz - 1)).length:Int):=hy;rw[hN]at hy;show EpP E (gt (Ayx w.fL (x.Bz - 1)) y);by_cases e:y=x.Bz - 1
  ·rw[e,hb];exact⟨hE,hE,⟨Int.le_refl 0,by show(0:Int)<=1000;omega⟩⟩
  ·rw[hg y hy e];have:=G.ep y hy;exact⟨this.ep,this.ue,this.cur⟩
 ·unfold wt;show pot (Az3 w x qs)+w.Jp.length<=_;omega
 ·refine Bga G.inv.rg I'.rg A (Bjn A hk hN hg hb) F rfl hN fun y hy=> ?_
  have hne:y≠x.Bz - 1:=fun e=>hy.noOr (e ▸ X.or);exact⟨Bys X.or hy,by rw[Ao0 hne],_,_,_,hg y hy.lv.1 hne⟩
 ·unfold cnt;rw[hq];show((Ayx w.fL (x.Bz - 1)).map lvN).sum+(qs.length+1+1)<=(w.fL.map lvN).sum+(qs.length+1);omega
def A4d (n:Az)(gens:Int):Az:=if gens<=n.C7 then Asd 3 n.C7 else Asd 0 (n.C7+1)
def Ax6 (w:Bo)(x:Bb):List Az:=if x.Be=0 then w.fL else w.fL.set (x.Be - 1).toNat (A4d (gt w.fL (x.Be - 1)) w.fC.Dv)
def A5y (w:Bo)(x:Bb)(qs:List Bb):Bo:=Bo.mk w.fC w.fP (Ax6 w x) qs w.Jp
theorem Baz (w:Bo)(x:Bb):(Ax6 w x).length=w.fL.length:=by grind [Ax6]
structure Bs8 (w:Bo)(x:Bb)(qs:List Bb):Prop where
 rc:Bp1 w.fC x
 k:x.Be≠0->0<=x.Be - 1/\x.Be - 1<(w.fL.length:Int)
 st:x.Be≠0->(gt w.fL (x.Be - 1)).G4=2
 gn:x.Be≠0->1<=(gt w.fL (x.Be - 1)).C7/\(gt w.fL (x.Be - 1)).C7<=w.fC.Dv
 no:x.Be≠0->x.Be - 1 ∉ slL qs
theorem Bjq{w:Bo}(I:Inv w){x:Bb}{qs:List Bb}(hq:w.fQ=x::qs):Bs8 w x qs:=by
 have R:=A28.1 (A34 I hq).1;obtain⟨b1,b2,b3,b4,b5,b6⟩:=Bd I.conf;have hx:x∈w.fQ:=by grind
 have hs:=R.slot;have h1:x.Be≠0->(0<=x.Be - 1/\x.Be - 1<(w.fL.length:Int))/\(gt w.fL (x.Be - 1)).G4=2:=fun h=>by
  have:=Bjk hx h;rw[sb1 (by omega) (by omega)]at this;exact(I.sli _).1 this
 refine⟨R,fun h=>(h1 h).1,fun h=>(h1 h).2,fun h=>(A33 (I.node _ (h1 h).1)).2.2,fun h=> ?_⟩;have:=I.sln;rw[hq]at this;have this:((if x.Be=0 then []else [Ap x.Be 1])++slL qs).Nodup:=this;rw[if_neg h,sb1 (by omega) (by omega)]at this
 grind
theorem Byu{w:Bo}{x:Bb}{qs:List Bb}(X:Bs8 w x qs){y:Int}(hy:0<=y/\y<(w.fL.length:Int)):gt (Ax6 w x) y=if x.Be≠0/\y=x.Be - 1 then A4d (gt w.fL y) w.fC.Dv else gt w.fL y:=by
 unfold Ax6;by_cases h:x.Be=0
 ·grind
 ·rw[if_neg h,Auu (X.k h) hy]
  grind
theorem Bh1{n:Az}{gens:Int}(h:1<=n.C7/\n.C7<=gens): ∃st g,A4d n gens=Asd st g/\(st=0\/st=3)/\1<=g/\g<=gens:=by
 unfold A4d;split
 all_goals grind
theorem A03{w:Bo}{x:Bb}{qs:List Bb}(X:Bs8 w x qs){y:Int}(hy:0<=y/\y<(w.fL.length:Int)):(gt (Ax6 w x) y=gt w.fL y/\ ¬(x.Be≠0/\y=x.Be - 1))\/((x.Be≠0/\y=x.Be - 1)/\(gt w.fL y).G4=2/\ ∃st g,gt (Ax6 w x) y=Asd st g/\(st=0\/st=3)/\1<=g/\g<=w.fC.Dv):=by
 rw[Byu X hy];by_cases h:x.Be≠0/\y=x.Be - 1
 ·rw[if_pos h];refine .inr ⟨h,by rw[h.2];exact X.st h.1,?_⟩;exact Bh1 (by rw[h.2];exact X.gn h.1)
 grind
theorem Bbu{w:Bo}(I:Inv w){t:Int->Lk}(A:AtT w.fL t)(F:Air w.fL.length t (A17 w.fQ)){x:Bb}{qs:List Bb}(hq:w.fQ=x::qs)(hf:x.Bz=0):
  ∃t',AtT (Ax6 w x) t'/\Air w.fL.length t' (A17 qs)/\(∀k,Al w.fL.length t k->Al w.fL.length t' k/\(t' k).up=(t k).up):=by
 have X:=Bjq I hq;have F1:Air w.fL.length t ((x.Be,0)::A17 qs):=by rw[hq]at F;rw[<-hf];exact F
 by_cases h:x.Be=0
 ·refine⟨t,?_,Bbm F1,fun k hk=>⟨hk,rfl⟩⟩;simp_all[Ax6]
 ·have hk:=X.k h;have hlv:(t (x.Be - 1)).lv=false:=by rw[A _ hk];show((gt w.fL (x.Be - 1)).G4==1)=false;rw[X.st h];rfl
  refine⟨clr t (x.Be - 1),fun y hy=> ?_,Bec F1 h fun e he e2=> ?_,fun k hk=>⟨Byt hlv hk,by rw[Ao1 hlv hk.lv]⟩⟩
  ·rw[Baz]at hy;unfold clr;rcases A03 X hy with ⟨e,f⟩|⟨f,_,st,g,e,hs,_⟩
   ·rw[if_neg (fun r=>f ⟨h,r⟩),e,A y hy]
   ·rw[if_pos f.2,e];rcases hs with s|s<;>subst s<;>rfl
  ·obtain⟨z,hz,e3⟩:=Gh.1 he;have e3:z.Be=e.1:=by grind
   refine X.no h (List.mem_flatMap.2 ⟨z,hz,?_⟩);have hs:=X.rc.slot;obtain⟨b1,b2,b3,b4,b5,b6⟩:=Bd I.conf;rw[e3,e2,if_neg h,sb1 (by omega) (by omega)];simp
theorem Bs9{w:Bo}(I:Inv w){x:Bb}{qs:List Bb}(hq:w.fQ=x::qs)(hc:x.Ad=[])(hf:x.Bz=0):Inv (A5y w x qs):=by
 obtain⟨t,A,F⟩:=I.forest;have X:=Bjq I hq;obtain⟨t',A',F',_⟩:=Bbu I A F hq hf;have hN:=Baz w x;have hch:chL w.fQ=chL qs:=by rw[hq];show x.Ad++_=_;rw[hc];rfl
 have hsl:slL w.fQ=(if x.Be=0 then []else [Ap x.Be 1])++slL qs:=by rw[hq];rfl
 have hsn:=I.sln;rw[hsl]at hsn;refine⟨I.pool,by show((Ax6 w x).length:Int)=_;rw[hN];exact I.len,fun y hy=> ?_,fun y hy c=> ?_,fun y hy=> ?_,⟨t',A',by show Air ((Ax6 w x).length:Int) t' _;rw[hN];exact F'⟩,fun y hy=>I.wrec y (by rw[hq];exact Z56 _ hy),by show(chL qs).Nodup;grind [Inv.chn],fun c=>by show c∈chL qs ↔ _;rw[<-hch];exact I.chi c,?_,fun s=> ?_,I.log⟩
 ·have hy:0<=y/\y<((Ax6 w x).length:Int):=hy;rw[hN]at hy;show Ava w.fC (gt (Ax6 w x) y)=true
  grind [A03,Inv.node,A74,Inv.conf]
 ·have hy:0<=y/\y<((Ax6 w x).length:Int):=hy;rw[hN]at hy;show c∈(gt (Ax6 w x) y).Ad ↔ _;rcases A03 X hy with ⟨e,_⟩|⟨_,h2,st,g,e,hs,hg⟩
  ·rw[e];exact I.own y hy c
  ·rw[e];have:=I.own y hy c;rw[A27 (I.node y hy) (by omega)]at this;exact this
 ·have hy:0<=y/\y<((Ax6 w x).length:Int):=hy;rw[hN]at hy;show(gt (Ax6 w x) y).D5.all (Av4 w.fC (gt (Ax6 w x) y).Ad)=true/\At0 (gt (Ax6 w x) y).D5=true/\Av6 w.fC w.fP.Fp (gt (Ax6 w x) y)=true;rcases A03 X hy with ⟨e,_⟩|⟨_,h2,st,g,e,hs,hg⟩
  ·grind [Inv.thing]
  ·rw[e];exact⟨rfl,rfl,rfl⟩
 ·exact(Apl.1 hsn).2.1
 ·show s∈slL qs ↔ (0<=s/\s<((Ax6 w x).length:Int))/\(gt (Ax6 w x) s).G4=2;have hi:=I.sli s;rw[hsl,N0]at hi;have hss:=X.rc.slot;obtain⟨b1,b2,b3,b4,b5,b6⟩:=Bd I.conf;rw[hN];constructor
  ·intro h;obtain⟨a,b⟩:=hi.1 (.inr h);refine⟨a,?_⟩;rcases A03 X a with ⟨e,_⟩|⟨⟨h1,h2⟩,_⟩
   ·grind
   ·rw[h2]at h;grind [Bs8.no]
  ·rintro⟨a,b⟩;rcases A03 X a with ⟨e,f⟩|⟨_,_,st,g,e,hs,_⟩
   ·rw[e]at b;rcases hi.2 ⟨a,b⟩with h|h
    ·by_cases q:x.Be=0
     ·grind
     ·rw[if_neg q,sb1 (by omega) (by omega),S9]at h;omega
    ·exact h
   ·rw[e]at b;have b:st=2:=b;omega
theorem Bqb{w:Bo}{E:Int}{n:Nat}(G:Ev w E n)(hE:0<=E){x:Bb}{qs:List Bb}(hq:w.fQ=x::qs)(hc:x.Ad=[])(hf:x.Bz=0):Bh0 w (A5y w x qs) E:=by
 obtain⟨t,A,F⟩:=G.inv.forest;have X:=Bjq G.inv hq;obtain⟨t',A',F',hal⟩:=Bbu G.inv A F hq hf;have I':=Bs9 G.inv hq hc hf;have hN:=Baz w x;have hs:((Ax6 w x).map (wtN w.fC)).sum=(w.fL.map (wtN w.fC)).sum:=Bhz _ _ _ hN fun y hy=>by
  rcases A03 X (y:=(y:Int)) ⟨by omega,by omega⟩with ⟨e,_⟩|⟨_,h2,st,g,e,hs,hg⟩
  ·rw[e]
  ·rw[e,A7r _ (by omega)];simp_all[wtN]
 have ep:pot (A5y w x qs)<pot w:=by
  have h1:1<=wtQ w.fC x:=by grind [wtQ]
  unfold pot;rw[hq];show((Ax6 w x).map (wtN w.fC)).sum+(qs.map (wtQ w.fC)).sum<_
  grind
 have hs2:((Ax6 w x).map lvN).sum=(w.fL.map lvN).sum:=Bhz _ _ _ hN fun y hy=>by
  rcases A03 X (y:=(y:Int)) ⟨by omega,by omega⟩with ⟨e,_⟩|⟨_,h2,st,g,e,hs,hg⟩
  ·rw[e]
  ·rw[e];unfold lvN;rw[if_neg (by show ¬st=1;omega),if_neg (by omega)]
 refine⟨I',G.mem,fun y hy=> ?_,ep,?_,?_,by unfold cnt;rw[hq];show((Ax6 w x).map lvN).sum+qs.length<=_+(qs.length+1);omega⟩
 ·have hy:0<=y/\y<((Ax6 w x).length:Int):=hy;rw[hN]at hy;show EpP E (gt (Ax6 w x) y);rcases A03 X hy with ⟨e,_⟩|⟨_,h2,st,g,e,hs,hg⟩
  ·grind [Ev.ep]
  ·rw[e];exact⟨hE,hE,⟨Int.le_refl 0,by show(0:Int)<=1000;omega⟩⟩
 ·unfold wt;show pot (A5y w x qs)+w.Jp.length<=_;omega
 ·refine Bga G.inv.rg I'.rg A A' F rfl hN fun y hy=> ?_;refine⟨(hal y hy).1,(hal y hy).2,?_⟩;rcases A03 X hy.lv.1 with ⟨e,_⟩|⟨_,h2,_⟩
  ·exact⟨_,_,_,e⟩
  ·have:=((A1z A).1 hy.lv).2;omega
section
variable {K:Nat} (hK:281474976710656<=K)
include hK
theorem Bgb (w:Bo)(hw:A0k w.fP)(l:List Int)(hl:l.length<=140737488355327):Avl K w l=some (Bo.mk w.fC (Ah0 w.fP l) w.fL w.fQ w.Jp):=by
 unfold Avl;refine Bd1 hK l (by omega) A5g w.fP A0k hw (fun s x h=>(Bau h x).1) _ (fun n s i=>Akv K l n i w.fC.Ad w.fC.Du w.fC.Cd w.fC.Ez w.fC.Ce w.fC.Dv s.Fp s.G4 s.Fq w.fL w.fQ w.Jp) (fun n s i h hs=> ?_) (fun n=> ?_)
 ·simp only[Akv];rw[Afb h,cond_true,if_pos (Ald h),Wx h,show Ef.mk s.Fp s.G4 s.Fq=s from rfl,Bbf K hs,Z0,Ad9 (by omega)]
 ·show Akv K l (n+1) _ _ _ _ _ _ _ _ _ _ _ _ _=_;rw[Akv,Ayt (Z9 _),cond_false];rfl
theorem Bta{w:Bo}(I:Inv w)(hw:Ar0 w)(hQ:w.fQ.length<=1000000000){x:Bb}{qs:List Bb}(hq:w.fQ=x::qs)(hf:x.Bz≠0):Axh K w=some (Az3 w x qs):=by
 have hm:=V1;obtain⟨t,A,F⟩:=I.forest;have X:=Beo I A F hq hf;have hk:=X.lv.1;have hF:=X.rc.first;have L:=I.live A X.lv;obtain⟨b1,b2,b3,b4,b5,b6⟩:=Bd I.conf;have hlen:=I.len;have hn:=hw.l.1 _ (Akl hk.1 hk.2);have e1:Ap x.Bz 1=x.Bz - 1:=sb1 (by omega) (by omega);have e2:A1 (x.Bz - 1) 1=x.Bz:=by grind [ad1]
 have hnx:=L.next;have hlq:(w.fQ).length=qs.length+1:=by grind
 have hj: ∀(l:List Az) (q:List Bb),l.length=w.fL.length->q.length=w.fQ.length->Aub K (gt w.fL (x.Bz - 1)) (x.Bz - 1) w.fC.Ad w.fC.Du w.fC.Cd w.fC.Ez w.fC.Ce w.fC.Dv w.fP.Fp w.fP.G4 w.fP.Fq l q w.Jp=some (Bo.mk w.fC (Ah0 w.fP (gt w.fL (x.Bz - 1)).Ad) (l.set (x.Bz - 1).toNat (Asd 2 (gt w.fL (x.Bz - 1)).C7)) (Aio (gt w.fL (x.Bz - 1)) x.Bz::q) w.Jp):=by
  intro l q hl1 hq1;have h8:=hn.tags.2;have h9:=hn.chunks.2;unfold Aub;rw[Bgb hK (Bo.mk w.fC w.fP l q w.Jp) hw.p _ (A3e hK hn.chunks),Z0];unfold A12 A1a;simp only[Z0,Z38,List.singleton_append,Z28];simp only[hl1,if_pos hk,e2,Z0]
  iterate 4 (try rw[if_pos ⟨by omega,by omega⟩])
  try simp only[Z0]
  iterate 4 (try rw[if_pos ⟨by omega,by omega⟩])
  rfl
 unfold Axh;rw[hq,gt0,if_pos ⟨by omega,by simp⟩,e1];simp only[if_pos hk];rw[Awy K hn,Z0,if_pos ⟨by omega,by simp⟩,Azw,Z0];unfold Az3 Ayx;have hp:plB w.fL (gt w.fL (x.Bz - 1)).G6=decide (1<=(gt w.fL (x.Bz - 1)).G6/\(gt w.fL (x.Bz - 1)).G6<=(w.fL.length:Int)):=by
  rw[Bool.eq_iff_iff,A6v (by omega) (by omega),decide_eq_true_iff];omega
 rw[hp];by_cases q:1<=(gt w.fL (x.Bz - 1)).G6/\(gt w.fL (x.Bz - 1)).G6<=(w.fL.length:Int)
 ·rw[decide_eq_true q];simp only[cond_true];rw[sb1 (by omega) (by omega),if_pos ⟨by omega,by omega⟩];unfold Au7;exact hj _ _ (by grind) (by grind)
 ·rw[decide_eq_false q];simp only[cond_false];exact hj _ _ rfl (by grind)
theorem Bgc{l:List Az}(hl:Aeh l){k gens:Int}(hk:0<=k/\k<(l.length:Int))(hg:0<=(gt l k).C7/\(gt l k).C7<=1000):A4g K l k gens=some (l.set k.toNat (A4d (gt l k) gens)):=by
 unfold A4g Amn A2d A4d;rw[A6s hK hl,Z0,A6b K (Af6 hl),decide_eq_true hk];simp only[Z0,Bool.not_true,cond_false,if_pos hk];rw[ad1 (by omega) (by omega)];by_cases q:gens<=(gt l k).C7
 ·rw[decide_eq_true (show(gt l k).C7>=gens from q),if_pos q];rfl
 ·rw[decide_eq_false (show ¬(gt l k).C7>=gens from q),if_neg q];rfl
theorem Bep{w:Bo}{E:Int}{n:Nat}(G:Ev w E n)(hE:0<=E/\E<=1000000000)(hn:n<=1000000000)(h0:0<w.fQ.length): ∃w',Auq K w=some w'/\Bh0 w w' E:=by
 have hm:=V1;have W:=G.ww hE.2 hn;have h1:=Bpx w;have h2:=Bek w;have h3:=G.wt;cases hq:w.fQ with
 |nil=>grind
 |cons x qs=>
 have R:=A28.1 (A34 G.inv hq).1;have hlq:(w.fQ).length=qs.length+1:=by grind
 unfold Auq A3l;rw[hq,gt0,if_pos ⟨by omega,by simp⟩];by_cases c1:0<x.Dh.length
 ·refine⟨_,?_,Bp9 G hq c1⟩;rw[decide_eq_true (show(x.Dh.length:Int)>0 by omega)];simp only[cond_true,Z0,beq_self_eq_true]
  grind [Byr,Bp1.ntag]
 ·rw[decide_eq_false (show ¬(x.Dh.length:Int)>0 by omega)];by_cases c2:0<x.Ad.length
  ·refine⟨_,?_,Blp G hq c2⟩;rw[decide_eq_true (show(x.Ad.length:Int)>0 by omega)];simp only[cond_true,cond_false,Z0];rw[show((2:Int)==1)=false from rfl,show((2:Int)==2)=true from rfl];simp only[cond_true,cond_false];rw[Bs5 hK G.inv W.p hq c2];rfl
  ·rw[decide_eq_false (show ¬(x.Ad.length:Int)>0 by omega)];have hc:x.Ad=[]:=Vz.1 (by omega);by_cases c3:x.Bz=0
   ·refine⟨_,?_,Bqb G hE.1 hq hc c3⟩;have X:=Bjq G.inv hq;have hs:=R.slot;obtain⟨b1,b2,b3,b4,b5,b6⟩:=Bd G.inv.conf;have et:((x::qs).drop (1:Int).toNat).take (((x::qs).length:Int) - 1).toNat=qs:=by
     simp_all
    rw[c3];simp only[bne_self_eq_false,cond_false,Z0];rw[show((4:Int)==1)=false from rfl,show((4:Int)==2)=false from rfl,show((4:Int)==3)=false from rfl];simp only[cond_false];have hl1:(((x::qs).length:Nat):Int)=(qs.length:Int)+1:=by simp
    have hj: ∀l:List Az,Auc K w.fC.Ad w.fC.Du w.fC.Cd w.fC.Ez w.fC.Ce w.fC.Dv w.fP.Fp w.fP.G4 w.fP.Fq l (x::qs) w.Jp=some (Bo.mk w.fC w.fP l qs w.Jp):=by
     intro l;unfold Auc;rw[et,Z38,hl1,if_pos (show(0:Int)<=1/\(1:Int)<=(qs.length:Int)+1/\(qs.length:Int)+1<=(qs.length:Int)+1 from⟨by omega,by omega,by omega⟩),if_pos (show qs.length*72<=140737488355328/\qs.length<=maxLen from⟨by omega,by omega⟩)]
    rw[if_pos ⟨by omega,by simp⟩];unfold A5y Ax6;by_cases q:x.Be=0
    ·grind
    ·have hgn:=X.gn q;rw[A20 q,if_neg q,cond_true,if_pos ⟨by omega,by simp⟩,sb1 (by omega) (by omega),Bgc hK W.l (X.k q) ⟨by omega,by omega⟩,Z0];exact hj _
   ·refine⟨_,?_,Blq G hE.1 hq c3⟩;rw[A20 c3];simp only[cond_true,cond_false,Z0];rw[show((3:Int)==1)=false from rfl,show((3:Int)==2)=false from rfl,show((3:Int)==3)=true from rfl];simp only[cond_true,cond_false];rw[Bta hK G.inv W (by omega) hq c3];rfl
structure Steps (w w':Bo)(E:Int)(n:Nat):Prop where
 good:Ev w' E n
 stay:A78 w w'
theorem Blr{E:Int}{n:Nat}(hE:0<=E/\E<=1000000000)(hn:n<=1000000000)(m:Int): ∀(f:Nat) (i:Int) (w:Bo),Ev w E n->pot w<f-> ∃r w',Aue K m f i w.fC.Ad w.fC.Du w.fC.Cd w.fC.Ez w.fC.Ce w.fC.Dv w.fP.Fp w.fP.G4 w.fP.Fq w.fL w.fQ w.Jp=some (r,w')/\Steps w w' E n:=by
 intro f;induction f with
 |zero=>omega
 |succ f ih=>
  intro i w G hf;rw[Aue];cases decide (i<m)with
  |false=>exact⟨m,w,rfl,G,A78.refl w⟩
  |true=>
  simp only[cond_true];by_cases q:w.fQ.length=0
  ·rw[q];exact⟨i,w,rfl,G,A78.refl w⟩
  ·obtain⟨w1,e1,S⟩:=Bep hK G hE hn (by omega);have hp:=S.pot;obtain⟨r,w2,e2,S2⟩:=ih (A1 i 1) w1 (S.good G) (by omega);refine⟨r,w2,?_,S2.good,S.stay.trans S2.stay⟩;simp_all[At6]
theorem Ba0{E:Int}{n:Nat}(hE:0<=E/\E<=1000000000)(hn:n<=1000000000)(m:Int){w:Bo}(G:Ev w E n): ∃r w',Avz K w m=some (r,w')/\Steps w w' E n:=by
 have:=G.wt;unfold wt at this;exact Blr hK hE hn m K 0 w G (by omega)
def A5z (p:Ef)(at_ n:Int):Bool:=decide (0<=at_)&&(decide (1<=n)&&(decide (at_+n<=(p.G4.length:Int))&&(List.range n.toNat).all (fun k=>gt p.G4 (at_+(k:Int))==0)))
omit hK in
theorem A15{p:Ef}{a n:Int}:A5z p a n=true ↔ 0<=a/\1<=n/\a+n<=(p.G4.length:Int)/\ ∀c,a<=c/\c<a+n->gt p.G4 c=0:=by
 unfold A5z;simp only[Z4,decide_eq_true_eq,Z1,List.mem_range,beq_iff_eq];refine and_congr_right fun h1=>and_congr_right fun h2=>and_congr_right fun h3=> ?_;constructor
 ·intro h c hc;have:=h (c - a).toNat (by omega)
  grind
 grind
theorem Bc6{p:Ef}(hp:p.G4.length<=1000000000){a n:Int}(ha: -1000000000<=a/\a<=1000000000)(hn: -1000000000<=n/\n<=1000000000):A0r K p a n=some (A5z p a n):=by
 unfold A0r A5z;by_cases h1:a<0
 ·grind
 rw[decide_eq_false h1,decide_eq_true (by omega:0<=a)];by_cases h2:n<1
 ·grind
 rw[decide_eq_false h2,decide_eq_true (by omega:1<=n)];simp only[cond_false,Z30];have es:Ap (p.G4.length:Int) a=(p.G4.length:Int) - a:=by grind [Ap,Asu,Ht]
 rw[es];by_cases h3:a+n<=(p.G4.length:Int)
 ·rw[decide_eq_false (by omega),decide_eq_false (by omega),decide_eq_true h3];simp only[cond_false,Z30];have ea:A1 a n=a+n:=by grind [A1,Lc,Ht]
  have:=Aua hK n.toNat (by omega) (fun k=>gt p.G4 (a+(k:Int))==0) (some true) (fun f i=>Av9 K a n f (a+i) p.Fp p.G4 p.Fq) (fun f i h=> ?_) (fun f=> ?_)
  ·grind
  ·simp only[Av9];have e1:A1 (a+(i:Int)) 1=a+((i+1:Nat):Int):=by grind [ad1]
   grind
  grind [Av9]
 grind
theorem Bac{p:Ef}(hp:p.G4.length<=1000000000){n:Int}(hn: -1000000000<=n/\n<=1000000000): ∃r,A08 K p n=some r/\(r= -1\/A5z p r n=true):=by
 have key: ∀(f i:Nat),i<=p.G4.length->p.G4.length - i<f-> ∃r,Awl K n f (i:Int) p.Fp p.G4 p.Fq=some r/\(r= -1\/A5z p r n=true):=by
  intro f;induction f with
  |zero=>omega
  |succ f ih=>
   intro i hi hf;rw[Awl];rcases Hi i p.G4.length with h|h
   ·rw[Afb h,cond_true,show Ef.mk p.Fp p.G4 p.Fq=p from rfl,Bc6 hK hp ⟨by omega,by omega⟩ hn,Z0];cases e:A5z p (i:Int) n with
    |true=>grind
    |false=>
     grind [Ad9]
   grind
 exact key K 0 (Z21 _) (by omega)
theorem Bqc{E:Int}{n:Nat}(hE:0<=E/\E<=1000000000)(hn:n<=1000000000)(a:Int){run:Int}(hr: -1000000000<=run/\run<=1000000000): ∀(f:Nat) (i:Int) (w:Bo),Ev w E n->pot w<f-> ∃r w',Au2 K a run f i w.fC.Ad w.fC.Du w.fC.Cd w.fC.Ez w.fC.Ce w.fC.Dv w.fP.Fp w.fP.G4 w.fP.Fq w.fL w.fQ w.Jp=some (r,w')/\Steps w w' E n:=by
 intro f;induction f with
 |zero=>omega
 |succ f ih=>
  intro i w G hf;have W:=G.ww hE.2 hn;have hst:=(Akj.1 G.inv.pool).st;obtain⟨b1,b2,b3,b4,b5,b6⟩:=Bd G.inv.conf;have hlen:=G.inv.len;rw[Au2];have hw:Bo.mk (Fi.mk w.fC.Ad w.fC.Du w.fC.Cd w.fC.Ez w.fC.Ce w.fC.Dv) (Ef.mk w.fP.Fp w.fP.G4 w.fP.Fq) w.fL w.fQ w.Jp=w:=rfl;have hp:Ef.mk w.fP.Fp w.fP.G4 w.fP.Fq=w.fP:=rfl;obtain⟨cn,hcn⟩: ∃cn,Aux K w.fL 0=some cn:=⟨_,A65 hK w.fL 0 (by omega)⟩;rw[hw,hp,hcn];by_cases q:0<w.fQ.length
  ·obtain⟨w1,e1,S⟩:=Bep hK G hE hn q;have hpot:=S.pot;obtain⟨r,w2,e2,S2⟩:=ih (A1 i 1) w1 (S.good G) (by omega);have hgo: ∃r w',Ayh K i w.fC.Ad w.fC.Du w.fC.Cd w.fC.Ez w.fC.Ce w.fC.Dv w.fP.Fp w.fP.G4 w.fP.Fq w.fL w.fQ w.Jp (Au2 K a run f)=some (r,w')/\Steps w w' E n:=by
    refine⟨r,w2,?_,S2.good,S.stay.trans S2.stay⟩;simp_all[Ayh]
   have hno: ∃r w',(some (i,w):Option (Int×Bo))=some (r,w')/\Steps w w' E n:=⟨_,_,rfl,G,A78.refl w⟩;obtain⟨r5,e5,_⟩:=Bac hK (p:=w.fP) (by omega) hr
   grind
  ·rw[decide_eq_false (show ¬(w.fQ.length:Int)>0 by omega)];exact⟨_,_,rfl,G,A78.refl w⟩
theorem Bh2{E:Int}{n:Nat}(hE:0<=E/\E<=1000000000)(hn:n<=1000000000)(a:Int){run:Int}(hr: -1000000000<=run/\run<=1000000000){w:Bo}(G:Ev w E n): ∃r w',A0u K w a run=some (r,w')/\Steps w w' E n:=by
 have:=G.wt;unfold wt at this;exact Bqc hK hE hn a hr K 0 w G (by omega)
end
section
variable {K:Nat} (hK:281474976710656<=K)
include hK
theorem Beq{l:List Az}(hl:l.length<=1000000000): ∃r,A3d K l=some r/\(r= -1\/(0<=r/\r<(l.length:Int))/\(gt l r).G4=0):=by
 have key: ∀(f i:Nat),i<=l.length->l.length - i<f-> ∃r,Avw K l f (i:Int)=some r/\(r= -1\/(0<=r/\r<(l.length:Int))/\(gt l r).G4=0):=by
  intro f;induction f with
  |zero=>omega
  |succ f ih=>
   intro i hi hf;rw[Avw];rcases Hi i l.length with h|h
   ·rw[Afb h,cond_true,if_pos (Ald h),Ad9 (by omega)]
    grind
   grind
 exact key K 0 (Z21 _) (by omega)
theorem A9d{p:Ef}(hp:p.G4.length<=1000000000): ∃r,Az6 K p=some r/\(r= -1\/A5z p r 1=true):=by
 have key: ∀(f i:Nat),i<=p.G4.length->p.G4.length - i<f-> ∃r,Avx K f (i:Int) p.Fp p.G4 p.Fq=some r/\(r= -1\/A5z p r 1=true):=by
  intro f;induction f with
  |zero=>omega
  |succ f ih=>
   intro i hi hf;rw[Avx];rcases Hi i p.G4.length with h|h
   ·rw[Afb h,cond_true,if_pos (Ald h),Ad9 (by omega)];by_cases e:gt p.G4 (i:Int)=0
    ·rw[e];refine⟨_,rfl,.inr (A15.2 ⟨by omega,by omega,by omega,fun c hc=> ?_⟩)⟩
     grind
    grind
   grind
 exact key K 0 (Z21 _) (by omega)
structure Bls (p p':Ef)(a n k:Int):Prop where
 mem:p'.Fp=p.Fp
 st:p'.G4.length=p.G4.length
 own:p'.Fq.length=p.Fq.length
 one: ∀c,0<=c/\c<(p.G4.length:Int)->gt p'.G4 c=(if a<=c/\c<a+n then 1 else gt p.G4 c)/\gt p'.Fq c=(if a<=c/\c<a+n then k else gt p.Fq c)
theorem A8u{p:Ef}(hw:A0k p)(hp:p.G4.length<=1000000)(ho:p.Fq.length=p.G4.length){a n k:Int}(hf:A5z p a n=true): ∃p',Avy K p a n k=some p'/\Bls p p' a n k:=by
 obtain⟨h1,h2,h3,h4⟩:=A15.1 hf;unfold Avy;rw[A31 K hw,Bc6 hK (by omega) ⟨by omega,by omega⟩ ⟨by omega,by omega⟩,hf,ho];simp only[Z0,cond_true,bne_self_eq_false,cond_false];have ea:A1 a n=a+n:=by grind [A1,Lc,Ht]
 have key: ∀(f i:Nat) (q:Ef),(i:Int)<=n->n.toNat - i<f->Bls p q a i k-> ∃p',Axi K a n k f (a+(i:Int)) q (Ef.mk [] [] [])=some p'/\Bls p p' a n k:=by
  intro f;induction f with
  |zero=>omega
  |succ f ih=>
   intro i q hi hf T;rw[Axi,ea];by_cases h:(i:Int)=n
   ·grind
   ·have e1:A1 (a+(i:Int)) 1=a+((i+1:Nat):Int):=by grind [ad1]
    have hs:=T.st;have hso:=T.own;rw[decide_eq_true (by omega),cond_true,if_pos ⟨by omega,by omega⟩,if_pos ⟨by omega,by omega⟩,e1];refine ih (i+1) _ (by omega) (by omega) ⟨T.mem,by grind,by grind,fun c hc=> ?_⟩;obtain⟨t1,t2⟩:=T.one c hc;simp only;rw[A6j (by omega) (by omega),A6j (by omega) (by omega),t1,t2];omega
 have:=key K 0 p (by omega) (by omega) ⟨rfl,rfl,rfl,fun c hc=>by omega⟩
 grind
end
theorem Bjr{w:Bo}(I:Inv w){k:Int}(hk:0<=k/\k<(w.fL.length:Int))(p':Ef)(l':List Az)(t':Int->Lk)(hN:l'.length=w.fL.length)
  (ho: ∀x,0<=x/\x<(w.fL.length:Int)->x≠k-> ∃a b c,gt l' x=lnk (gt w.fL x) a b c/\(0<=a/\a<=w.fC.Cd)/\(0<=b/\b<=w.fC.Cd)/\(0<=c/\c<=w.fC.Cd))
  (hs2:(gt w.fL k).G4≠2) (L:Avn w.fC (gt l' k)) (A':AtT l' t') (F':Air w.fL.length t' (A17 w.fQ))
  (P':A5w w.fC p') (hm:p'.Fp=w.fP.Fp)
  (hone: ∀c,0<=c/\c<w.fC.Ad->(gt p'.G4 c=2 ↔ gt w.fP.G4 c=2)/\(gt p'.G4 c=1/\gt p'.Fq c=k ↔ c∈(gt l' k).Ad)/\ ∀x,x≠k->(gt p'.G4 c=1/\gt p'.Fq c=x ↔ gt w.fP.G4 c=1/\gt w.fP.Fq c=x))
  (hth:(gt l' k).D5.all (Av4 w.fC (gt l' k).Ad)=true/\At0 (gt l' k).D5=true/\Av6 w.fC w.fP.Fp (gt l' k)=true):
  Inv (Bo.mk w.fC p' l' w.fQ w.Jp):=by
 refine⟨Akj.2 P',by simp_all[Inv.len],fun x hx=> ?_,fun x hx c=> ?_,fun x hx=> ?_,⟨t',A',by grind⟩,fun x hx=> ?_,I.chn,fun c=> ?_,I.sln,fun s=> ?_,I.log⟩
 ·have hx:0<=x/\x<(l'.length:Int):=hx;rw[hN]at hx;show Ava w.fC (gt l' x)=true;by_cases e:x=k
  ·rw[e];exact(Akn.2 L).1
  ·obtain⟨a,b,c,h1,h2,h3,h4⟩:=ho x hx e;rw[h1];by_cases hs:(gt w.fL x).G4=1
   ·exact(Akn.2 (Bbo (Akn.1 ⟨I.node x hx,hs⟩) h2 h3 h4)).1
   ·have X:=A27 (I.node x hx) hs;have B:=F'.tree.bare x hx.1 hx.2 (by rw[A' x (by omega),h1];grind [A7p,lnk]);rw[A' x (by omega),h1]at B;obtain⟨_,B2,B3,B4⟩:=B;have q1:a=0:=B2;have q2:b=0:=B3;have q3:c=0:=B4;have this:lnk (gt w.fL x) 0 0 0=gt w.fL x:=by rw[X];rfl
    grind [Inv.node]
 ·have hx:0<=x/\x<(l'.length:Int):=hx;rw[hN]at hx;show c∈(gt l' x).Ad ↔ (0<=c/\c<w.fC.Ad)/\gt p'.G4 c=1/\gt p'.Fq c=x;by_cases e:x=k
  ·rw[e];constructor
   ·intro h;have hin:=A1w L.dist c h
    grind
   grind
  ·obtain⟨a,b,d,h1,_⟩:=ho x hx e;rw[h1];show c∈(gt w.fL x).Ad ↔ _;rw[I.own x hx c];simp_all
 ·have hx:0<=x/\x<(l'.length:Int):=hx;rw[hN]at hx;show(gt l' x).D5.all (Av4 w.fC (gt l' x).Ad)=true/\At0 (gt l' x).D5=true/\Av6 w.fC p'.Fp (gt l' x)=true;rw[hm];by_cases e:x=k
  ·grind
  ·obtain⟨a,b,d,h1,_⟩:=ho x hx e;rw[h1];exact I.thing x hx
 ·obtain⟨a,b⟩:=I.wrec x hx;simp_all[Arz]
 ·show c∈chL w.fQ ↔ (0<=c/\c<w.fC.Ad)/\gt p'.G4 c=2;rw[I.chi c]
  grind
 ·show s∈slL w.fQ ↔ (0<=s/\s<(l'.length:Int))/\(gt l' s).G4=2;rw[I.sli s,hN];refine and_congr_right fun h=> ?_
  by_cases e:s=k
  ·grind [Avn.st]
  ·obtain⟨a,b,d,h1,_⟩:=ho s h e;rw[h1];rfl
theorem Bc7{w:Bo}(I:Inv w){p':Ef}{a n k:Int}(hk:0<=k/\k<(w.fL.length:Int))(hf:A5z w.fP a n=true)(T:Bls w.fP p' a n k):
  A5w w.fC p'/\ ∀c,0<=c/\c<w.fC.Ad->(gt p'.G4 c=2 ↔ gt w.fP.G4 c=2)/\(gt p'.G4 c=1/\gt p'.Fq c=k ↔ c∈(gt w.fL k).Ad\/a<=c/\c<a+n)/\ ∀x,x≠k->(gt p'.G4 c=1/\gt p'.Fq c=x ↔ gt w.fP.G4 c=1/\gt w.fP.Fq c=x):=by
 have P:=Akj.1 I.pool;obtain⟨f1,f2,f3,f4⟩:=A15.1 hf;have hlen:=I.len;refine⟨⟨P.conf,by rw[T.mem];exact P.mem,by rw[T.st];exact P.st,by rw[T.own];exact P.own,fun c hc=> ?_⟩,fun c hc=> ?_⟩
 ·obtain⟨t1,t2⟩:=T.one c (by rw[P.st];exact hc);obtain⟨p1,p2,p3,p4⟩:=P.one c hc;rw[t1,t2,T.mem]
  grind
 ·obtain⟨t1,t2⟩:=T.one c (by rw[P.st];exact hc);rw[t1,t2];have ho:=I.own k hk c
  grind
structure Byv (l l':List Az)(p k:Int):Prop where
 len:l'.length=l.length
 at_:gt l' k=Az.mk (gt l k).G4 (gt l k).C7 (gt l k).Nb (p+1) (gt l p).Nb (gt l k).Bz (gt l p).Bz 0 (gt l k).Ad (gt l k).No (gt l k).G8 (gt l k).D5 (gt l k).Dh
 ot: ∀x,0<=x/\x<(l.length:Int)->x≠k->gt l' x=lnk (gt l x) (if x=p then k+1 else(gt l x).Bz) (gt l x).G6 (if x+1=(gt l p).Bz then k+1 else(gt l x).G7)
section
variable {K:Nat} (hK:281474976710656<=K)
include hK
theorem Btb{l:List Az}(hl:Aeh l)(h8:l.length<=1000){p k:Int}(hp:0<=p/\p<(l.length:Int))(hk:0<=k/\k<(l.length:Int))(hne:p≠k)(hf:0<=(gt l p).Bz/\(gt l p).Bz<=(l.length:Int))(hfk:(gt l p).Bz≠k+1): ∃l',A13 K l p k=some l'/\Byv l l' p k:=by
 have e1:A1 p 1=p+1:=ad1 (by omega) (by omega);have e2:A1 k 1=k+1:=ad1 (by omega) (by omega);have e3:Ap (gt l p).Bz 1=(gt l p).Bz - 1:=sb1 (by omega) (by omega);have g1: ∀v,gt (l.set k.toNat v) k=v:=fun v=>A4v hk v
 have g2: ∀v,gt (l.set k.toNat v) p=gt l p:=fun v=>A5t hk.1 hp (Ne.symm hne) v;unfold A13 A3m;rw[A6s hK hl,Z0,e1,e2,Azw,decide_eq_true (by omega),Z0,cond_true,Azw,decide_eq_true (by omega),Z0,cond_true,At6 hne,cond_false,e3]
 simp only[Au7,if_pos hp,if_pos hk,Z49,g1,g2,List.set_set];rw[Azw,Z0];have hp': ∀v:Az,0<=p/\p<((l.set k.toNat v).length:Int):=fun v=>by grind
 have h2: ∀(u v:Az) (x:Int),0<=x/\x<(l.length:Int)->gt ((l.set k.toNat u).set p.toNat v) x=if x=p then v else if x=k then u else gt l x:=by
  grind [Auu]
 by_cases q:1<=(gt l p).Bz/\(gt l p).Bz<=(l.length:Int)
 ·rw[decide_eq_true q,cond_true,if_pos ⟨by omega,by omega⟩];refine⟨_,rfl,by simp,?_,fun x hx hxk=> ?_⟩
  ·rw[A5t (by omega) (by grind) (by omega),A5t hp.1 (by grind) hne,g1]
  ·by_cases a:x=(gt l p).Bz - 1
   ·rw[if_pos (show x+1=(gt l p).Bz by omega),<-a,A4v (by grind),h2 _ _ x hx,if_neg hxk];by_cases b:x=p
    ·rw[if_pos b,if_pos b,b];rfl
    ·rw[if_neg b,if_neg b];rfl
   ·rw[A5t (by omega) (by grind) (Ne.symm a),h2 _ _ x hx,if_neg hxk,if_neg (show ¬x+1=(gt l p).Bz by omega)];by_cases b:x=p
    ·rw[if_pos b,if_pos b,b];rfl
    ·rw[if_neg b,if_neg b];rfl
 ·rw[decide_eq_false q,cond_false];refine⟨_,rfl,by simp,?_,fun x hx hxk=> ?_⟩
  ·grind
  ·rw[h2 _ _ x hx,if_neg hxk,if_neg (show ¬x+1=(gt l p).Bz by omega)];by_cases b:x=p
   ·rw[if_pos b,if_pos b,b];rfl
   ·rw[if_neg b,if_neg b];rfl
end
def newN (g c:Int):Az:=Az.mk 1 g 0 0 0 0 0 0 [c] (c+1) 0 [] []
structure Bgd (w:Bo)(t:Int->Lk)(k c p:Int):Prop where
 hk:0<=k/\k<(w.fL.length:Int)
 st:(gt w.fL k).G4=0
 free:A5z w.fP c 1=true
 up:p= -1\/Al w.fL.length t p/\(rise w.fL.length t w.fL.length p).length<4
theorem Bgd.bare{w:Bo}(I:Inv w){t:Int->Lk}{k c p:Int}(M:Bgd w t k c p):gt w.fL k=Asd 0 (gt w.fL k).C7:=by
 have:=A27 (I.node k M.hk) (by grind [st])
 grind [st]
def mkN (w:Bo)(k c p:Int):Az:=Az.mk 1 (gt w.fL k).C7 0 (p+1) (if p+1=0 then 0 else(gt w.fL p).Nb) 0 (if p+1=0 then 0 else(gt w.fL p).Bz) 0 [c] (c+1) 0 [] []
structure Bu5 (w:Bo)(l':List Az)(k c p:Int):Prop where
 len:l'.length=w.fL.length
 at_:gt l' k=mkN w k c p
 ot: ∀x,0<=x/\x<(w.fL.length:Int)->x≠k->gt l' x=lnk (gt w.fL x) (if x=p then k+1 else(gt w.fL x).Bz) (gt w.fL x).G6 (if p+1≠0/\x+1=(gt w.fL p).Bz then k+1 else(gt w.fL x).G7)
theorem Bad{c:Fi}{n:Az}{mem:List Int}{ch:Int}(h1:n.No=ch+1)(h2:n.G8=0)(hz:Ary (Aw1 c mem ch)=true)(ha:n.D5.all (fun t=>Apf t (Aze c n))=true):Av6 c mem n=true:=by
 unfold Av6;rw[ha,Bool.and_true,Bool.or_eq_true];refine .inr ?_;have e1:(Aze c n).fAt=ch*c.Du:=by simp_all[Aze]
 have e2:(Aze c n).Yg=c.Du:=by grind [Aze]
 rw[e1,e2];exact hz
theorem Bqd{w:Bo}(I:Inv w){t:Int->Lk}(A:AtT w.fL t)(F:Air w.fL.length t (A17 w.fQ)){k c p:Int}(M:Bgd w t k c p){p':Ef}(T:Bls w.fP p' c 1 k){l':List Az}(L:Bu5 w l' k c p):Inv (Bo.mk w.fC p' l' w.fQ w.Jp):=by
 have hk:=M.hk;have hb:=M.bare I;have hb1:(gt w.fL k).Ad=[]:=by rw[hb];rfl
 have P:=Akj.1 I.pool;obtain⟨T1,T2⟩:=Bc7 I hk M.free T;obtain⟨f1,f2,f3,f4⟩:=A15.1 M.free;obtain⟨b1,b2,b3,b4,b5,b6⟩:=Bd I.conf;have hlen:=I.len;have hg:=A33 (I.node k hk);have hc:0<=c/\c<w.fC.Ad:=by have:=P.st;omega
 have hp:p= -1\/(0<=p/\p<(w.fL.length:Int)):=M.up.imp_right fun h=>h.1.lv.1
 have hpf:p+1≠0->(0<=p/\p<(w.fL.length:Int))/\p≠k:=fun h=>by
  rcases M.up with e|⟨e,_⟩
  ·omega
  ·refine⟨e.lv.1,fun q=> ?_⟩;have:=((A1z A).1 e.lv).2
   grind [Bgd.st]
 have hA:AtT l' (ins t k p):=by
  intro x hx;rw[L.len]at hx;by_cases e:x=k
  ·subst e;rw[A0l,L.at_];unfold mkN A7p;simp only;by_cases q:p+1=0
   ·grind
   ·rw[if_neg q,if_neg q,if_neg q,if_neg q,A p (hpf q).1];rfl
  ·rw[Ax8 e,L.ot x hx e,A x hx];by_cases q:p+1=0
   ·rw[if_neg (fun r:p+1≠0/\x+1=(t p).fi=>r.1 q),if_neg (fun r:p+1≠0/\x+1=(gt w.fL p).Bz=>r.1 q)];rfl
   ·rw[A p (hpf q).1];rfl
 have hF:Air w.fL.length (ins t k p) (A17 w.fQ):=by
  refine Bf4 F hk ?_ ?_ M.up
  ·rw[A k hk];show((gt w.fL k).G4==1)=false;rw[M.st];rfl
  ·rw[A k hk];show((gt w.fL k).G4==2)=false;rw[M.st];rfl
 have hfp:0<=(if p+1=0 then 0 else(gt w.fL p).Bz)/\(if p+1=0 then 0 else(gt w.fL p).Bz)<=w.fC.Cd:=by
  split
  ·omega
  ·rename_i q;have:=(I.rg.rg p (hpf q).1).2.1;omega
 have hep:0<=(if p+1=0 then 0 else(gt w.fL p).Nb):=by
  split
  ·omega
  ·rename_i q;rcases M.up with e|⟨e,_⟩
   ·omega
   ·exact(I.live A e.lv).ep
 have hz:Ary (Aw1 w.fC w.fP.Fp c)=true:=(P.one c hc).2.2.2 (f4 c ⟨by omega,by omega⟩);refine Bjr I hk p' l' (ins t k p) L.len (fun x hx e=>⟨_,_,_,L.ot x hx e,?_,?_,?_⟩) (by rw[M.st];decide) ?_ hA hF T1 T.mem (fun x hx=> ?_) ?_
 ·have:=(I.rg.rg x hx).2.1;omega
 ·have:=(I.rg.rg x hx).2.2.1;omega
 ·have:=(I.rg.rg x hx).2.2.2;omega
 ·rw[L.at_];refine⟨I.conf,rfl,hg.2.2,?_,⟨Int.le_refl 0,by show(0:Int)<=_;omega⟩,hfp,⟨Int.le_refl 0,by show(0:Int)<=_;omega⟩,Int.le_refl 0,hep,A6l.2 ⟨by simp[mkN],fun x hx=> ?_⟩,?_,Z21 _,Z21 _,rfl,rfl⟩
  ·show 0<=p+1/\p+1<=_;omega
  ·rw[S9.1 (show x∈[c] from hx)];exact hc
  ·unfold A8z mkN;simp only;rw[At6 (by omega),cond_false,sb1 (by omega) (by omega),Int.add_sub_cancel,Wy.2 ⟨by omega,by omega⟩];simp
 ·obtain⟨a1,a2,a3⟩:=T2 x hx;refine⟨a1,?_,a3⟩;rw[a2,hb1,L.at_];show x∈[]\/_ ↔ x∈[c]
  grind
 ·rw[L.at_];exact⟨rfl,rfl,Bad rfl rfl hz rfl⟩
theorem Bqe{l:List Az}{t:Int->Lk}(A:AtT l t)(R:Rg l): ∀(n:Nat) (k:Int),A21 l (Akt l n k)=true->A7h l (Akt l n k)=true->Al l.length t k:=by
 intro n;induction n with
 |zero=>grind [Akt,A7h]
 |succ n ih=>
  intro k h1 h2;unfold Akt at h1 h2;by_cases hk:0<=k/\k<(l.length:Int)
  ·rw[if_pos hk]at h1 h2;have hu:=(R.rg k hk).1;have hl:=R.len;rw[sb1 (by omega) (by omega)]at h1 h2;cases hr:Akt l n ((gt l k).fUp - 1)with
   |nil=>
    rw[hr]at h1 h2;have s1:(gt l k).G4=1:=by grind [A21]
    have s2:(gt l k).fUp=0:=by
     have:((gt l (gt [k] ((0:Nat):Int))).fUp==0)=true:=by assumption
     exact beq_iff_eq.1 this
    exact .root ((A1z A).2 ⟨hk,s1⟩) (by rw[A k hk];exact s2)
   |cons y r=>
    have hy:y=(gt l k).fUp - 1/\0<=y/\y<(l.length:Int):=by
     cases n with
     |zero=>simp[Akt]at hr
     |succ m=>
      unfold Akt at hr
      grind
    rw[hr]at h1 h2;have h1:((gt l k).G4==1&&((gt l k).G5==(gt l y).Nb)&&A21 l (y::r))=true:=h1;rw[Z4,Z4,beq_iff_eq,beq_iff_eq]at h1;obtain⟨⟨s1,s2⟩,s3⟩:=h1;have s4:A7h l (y::r)=true:=by
     assumption
    have h5:(gt l y).G4=1:=by
     cases r with
     |nil=>grind [A21]
     |cons z r=>
      simp_all[A21]
    have h6:=ih ((gt l k).fUp - 1) (by grind) (by grind);refine .step ((A1z A).2 ⟨hk,s1⟩) ?_ (by rw[A k hk];exact h6);unfold Cu;rw[A k hk];show Lv _ t ((gt l k).fUp - 1)/\(t ((gt l k).fUp - 1)).ep=(gt l k).G5;rw[<-hy.1,A y hy.2,s2];exact⟨(A1z A).2 ⟨hy.2,h5⟩,rfl⟩
  simp_all[A7h]
theorem Blt{w:Bo}(I:Inv w){k:Int}(h:A54 w.fL k=true):AlW w.fL k:=by
 obtain⟨t,A,_⟩:=I.forest;unfold A54 at h;rw[Z4]at h;exact⟨t,A,Bqe A I.rg _ _ h.1 h.2⟩
theorem A76{w:Bo}(I:Inv w){h:Ch}(h0:(Ayv w.fL h).2=0):AlW w.fL (Ayv w.fL h).1:=by
 unfold Ayv at *;cases e1:A46 h with
 |false=>grind
 |true=>
  rw[e1]at h0;simp only[cond_true]at h0 ⊢;cases e2:decide (Azx w.fL h<0)with
  |true=>grind
  |false=>
   rw[e2]at h0;simp only[cond_false]at h0 ⊢;cases e3:A54 w.fL (Azx w.fL h)with
   |false=>grind
   |true=>simp_all[Blt]
section
variable {K:Nat} (hK:281474976710656<=K)
include hK
theorem Bge{w:Bo}(hw:Ar0 w)(h8:w.fL.length<=1000): ∃r,A37 K w=some r:=by
 have key: ∀(f i:Nat) (v:Int),i<=w.fL.length->w.fL.length - i<f-> ∃r,Akk K f v (i:Int) w.fC.Ad w.fC.Du w.fC.Cd w.fC.Ez w.fC.Ce w.fC.Dv w.fP.Fp w.fP.G4 w.fP.Fq w.fL w.fQ w.Jp=some r:=by
  intro f;induction f with
  |zero=>omega
  |succ f ih=>
   intro i v hi hf;rw[Akk];rcases Hi i w.fL.length with h|h
   ·have go: ∀v,∃r,Apg K (i:Int) w.fC.Ad w.fC.Du w.fC.Cd w.fC.Ez w.fC.Ce w.fC.Dv w.fP.Fp w.fP.G4 w.fP.Fq w.fL w.fQ w.Jp (Akk K f) v=some r:=by
     intro v;unfold Apg;rw[Ad9 (by omega)];exact ih (i+1) v h (by omega)
    rw[Afb h,cond_true,if_pos (Ald h),A7i hK hw.l _ ⟨by omega,by omega⟩];simp only[Z0,if_pos (Ald h)];cases (gt w.fL (i:Int)).G4==0 with
    |true=>exact go _
    |false=>
     simp only[cond_false];cases A54 w.fL (i:Int)with
     |true=>exact go _
     |false=>
      simp only[cond_false];cases (gt w.fL (i:Int)).G4 != 3 with
      |false=>exact go _
      |true=>
       simp only[cond_true];cases decide ((gt w.fL (i:Int)).C7<w.fC.Dv)<;>exact go _
   ·rw[Ayt h];grind
 exact key K 0 0 (Z21 _) (by omega)
theorem Bbv{w:Bo}(hw:Ar0 w)(h8:w.fL.length<=1000): ∃r,A2b K w=some r/\r.length<=w.fL.length/\ ∀x∈r,(0<=x/\x<(w.fL.length:Int))/\A54 w.fL x=true:=by
 have hm:=V1;have key: ∀(f i:Nat) (v:List Int),i<=w.fL.length->w.fL.length - i<f->v.length<=i->(∀x∈v,(0<=x/\x<(w.fL.length:Int))/\A54 w.fL x=true)-> ∃r,Avo K f v (i:Int) w.fC.Ad w.fC.Du w.fC.Cd w.fC.Ez w.fC.Ce w.fC.Dv w.fP.Fp w.fP.G4 w.fP.Fq w.fL w.fQ w.Jp=some r/\r.length<=w.fL.length/\ ∀x∈r,(0<=x/\x<(w.fL.length:Int))/\A54 w.fL x=true:=by
  intro f;induction f with
  |zero=>omega
  |succ f ih=>
   intro i v hi hf hl hv;rw[Avo];rcases Hi i w.fL.length with h|h
   ·rw[Afb h,cond_true,A7i hK hw.l _ ⟨by omega,by omega⟩];simp only[Z0];cases e:A54 w.fL (i:Int)with
    |false=>
     simp only[cond_false]
     grind [Aw9,Ad9]
    |true=>
     simp only[cond_true];rw[if_pos ⟨by grind,by grind⟩];unfold Aw9;rw[Ad9 (by omega)];refine ih (i+1) _ h (by omega) (by grind) fun x hx=> ?_
     grind
   grind
 exact key K 0 [] (Z21 _) (by omega) (by simp) (fun x hx=>by cases hx)
theorem A7s{w:Bo}(hw:Ar0 w)(h8:w.fL.length<=1000)(n:Int): ∃b,Av8 K w n=some b:=by
 obtain⟨r,e,hl,_⟩:=Bbv hK hw h8;have key: ∀(f i:Nat) (v:Int),i<=r.length->r.length - i<f-> ∃x,Auw K r f v (i:Int) w.fC.Ad w.fC.Du w.fC.Cd w.fC.Ez w.fC.Ce w.fC.Dv w.fP.Fp w.fP.G4 w.fP.Fq w.fL w.fQ w.Jp=some x:=by
  intro f;induction f with
  |zero=>omega
  |succ f ih=>
   intro i v hi hf;rw[Auw];rcases Hi i r.length with h|h
   ·rw[Afb h,cond_true,if_pos (Ald h),A80 hK _ _ hw.p.st.2,Z0,Ad9 (by omega)];exact ih (i+1) _ h (by omega)
   ·rw[Ayt h];grind
 obtain⟨x,ex⟩:=key K 0 0 (Z21 _) (by omega);have ex:Auw K r K 0 0 w.fC.Ad w.fC.Du w.fC.Cd w.fC.Ez w.fC.Ce w.fC.Dv w.fP.Fp w.fP.G4 w.fP.Fq w.fL w.fQ w.Jp=some x:=ex;unfold Av8 A38;rw[e,Z0,ex];simp only[Z0];cases decide (n>=0)<;>cases decide (n<=w.fC.Ad)<;>exact⟨_,rfl⟩
omit hK in
theorem A7t{l:List Az}(hl:l.length<=1000000)(k:Int): ∃h,Ayf K l k=some h:=by
 unfold Ayf;rw[A6b K (by omega),Z0];by_cases q:0<=k/\k<(l.length:Int)
 all_goals simp_all[decide_eq_false]
end
def A79 (n:Az)(c:Int):Az:=Az.mk n.G4 n.C7 n.Nb n.fUp n.G5 n.Bz n.G6 n.G7 (n.Ad++[c]) (c+1) 0 n.D5 n.Dh
theorem A9t{c:Fi}{n:Az}(L:Avn c n){k:Int}(hk:0<=k/\k<c.Ad)(hn:k ∉ n.Ad):Avn c (A79 n k):=by
 obtain⟨b1,b2,_⟩:=Bd L.conf;have hd:=A6l.1 L.dist;refine⟨L.conf,L.st,L.gen,L.up,L.first,L.next,L.prev,L.ep,L.ue,A6l.2 ⟨Apl.2 ⟨hd.1,by simp,fun x h1 h2=>by grind⟩,fun x hx=> ?_⟩,?_,L.nth,L.ntag,L.tags,L.things⟩
 ·rcases N0.1 hx with h|h
  all_goals grind
 ·unfold A8z A79;simp only;rw[At6 (by omega),cond_false,sb1 (by omega) (by omega),Int.add_sub_cancel,Wy.2 ⟨by omega,by omega⟩];simp
section
variable {K:Nat} (hK:281474976710656<=K)
include hK
theorem A9u{c:Fi}{n:Az}(L:Avn c n)(hw:At7 n){k:Int}(hk:0<=k/\k<c.Ad)(hn:k ∉ n.Ad):Ayz K c n k=some (A79 n k,true):=by
 have hm:=V1;have L2:=A9t L hk hn;obtain⟨b1,b2,_⟩:=Bd L.conf;have h1:=Awx L.conf L.dist;have h3:=L.nth;have h4:=L.ntag;have e:Az.mk n.G4 n.C7 n.Nb n.fUp n.G5 n.Bz n.G6 n.G7 (n.Ad++[k]) (A1 k 1) 0 n.D5 n.Dh=A79 n k:=by grind [A79,ad1]
 unfold Ayz;have hb:A79 n k=A79 n k:=rfl;rw[Awy K hw,Z0,show(n.G4 != 1)=false by rw[L.st];rfl,cond_false,Aml,A0h hK L.conf,Wy.2 ⟨by omega,by omega⟩,Z0,Bool.not_true,cond_false,if_pos ⟨by grind,by grind⟩,e];have hl:(A79 n k).Ad.length=n.Ad.length+1:=by grind
 rw[Azv hK c (A79 n k) (by omega) (show n.D5.length<=_ by omega) (show n.Dh.length<=_ by omega),(Akn.2 L2).1];rfl
omit hK in
theorem Ev.le{w:Bo}{E E':Int}{n m:Nat}(G:Ev w E n)(hE:E<=E')(h:n<=m):Ev w E' m:=⟨G.inv,G.mem,fun k hk=>by have:=G.ep k hk;exact⟨Int.le_trans this.ep hE,Int.le_trans this.ue hE,this.cur⟩,S5 G.wt h,Int.le_trans G.cn hE⟩
theorem Blu{E:Int}{n:Nat}(hE:0<=E/\E<=900000000)(hn:n<=900000000){w:Bo}(G:Ev w E n){p at_ ch:Int}(hp:p= -1\/AlW w.fL p/\(Akt w.fL w.fL.length p).length<4)(ha:(0<=at_/\at_<(w.fL.length:Int))/\(gt w.fL at_).G4=0)(hc:A5z w.fP ch 1=true)(hcn:(cnt w:Int)+1<=E):
  ∃p' l',Avy K w.fP ch 1 at_=some p'/\(p= -1->l'=w.fL.set at_.toNat (newN (gt w.fL at_).C7 ch))/\(p≠ -1->A13 K (w.fL.set at_.toNat (newN (gt w.fL at_).C7 ch)) p at_=some l')/\Ev (Bo.mk w.fC p' l' w.fQ w.Jp) E (n+18)/\l'.length=w.fL.length:=by
 have I:=G.inv;have W:=G.ww (by omega) (by omega);obtain⟨t,A,F⟩:=I.forest;obtain⟨b1,b2,b3,b4,b5,b6⟩:=Bd I.conf;have P:=Akj.1 I.pool;have hst:=P.st;have how:=P.own;have hlen:=I.len;obtain⟨f1,f2,f3,f4⟩:=A15.1 hc;have M:Bgd w t at_ ch p:=⟨ha.1,ha.2,hc,hp.imp_right fun h=>⟨h.1.al A,by rw[A9b A I.rg]at h;exact h.2⟩⟩
 obtain⟨p',ep,T⟩:=A8u hK W.p (by omega) (by omega) (k:=at_) hc;have hg:=A33 (I.node at_ ha.1);have hbare:=M.bare I;have hl': ∃l',(p= -1->l'=w.fL.set at_.toNat (newN (gt w.fL at_).C7 ch))/\(p≠ -1->A13 K (w.fL.set at_.toNat (newN (gt w.fL at_).C7 ch)) p at_=some l')/\Bu5 w l' at_ ch p:=by
  by_cases q:p= -1
  ·refine⟨w.fL.set at_.toNat (newN (gt w.fL at_).C7 ch),fun _=>rfl,fun h=>absurd q h,by simp,?_,fun x hx hne=> ?_⟩
   ·rw[A4v ha.1]
    grind [newN,mkN]
   ·have hpx:x≠p:=by omega
    rw[A5t ha.1.1 hx (Ne.symm hne),if_neg hpx,if_neg (fun r=>r.1 (by omega))];rfl
  ·obtain⟨al,_⟩:=hp.resolve_left q;have al:=al.al A;have hpi:=al.lv.1;have hpl:=(A1z A).1 al.lv;have hne:p≠at_:=fun e=>by grind
   have hgp: ∀v,gt (w.fL.set at_.toNat v) p=gt w.fL p:=fun v=>A5t ha.1.1 hpi (Ne.symm hne) v
   have hnw:At7 (newN (gt w.fL at_).C7 ch):=⟨Gx (x:=(1:Int)) (by omega) (by omega),Gx (by show _<=(gt w.fL at_).C7;omega) (by show(gt w.fL at_).C7<=_;omega),Ax5,Ax5,Ax5,Ax5,Ax5,Ax5,Az2 (fun x hx=>by rw[S9.1 (show x∈[ch] from hx)];omega) (by show [ch].length<=_;simp),Gx (by show _<=ch+1;omega) (by show ch+1<=_;omega),Ax5,A5s,A0j⟩;have hW:Aeh (w.fL.set at_.toNat (newN (gt w.fL at_).C7 ch)):=by
    refine⟨fun x hx=> ?_,by grind⟩;rcases Z54 hx with h|h
    ·exact W.l.1 x h
    grind
   have hfr:=(I.rg.rg p hpi).2.1;obtain⟨l',e,L⟩:=Btb hK hW (by grind) (p:=p) (k:=at_) (by grind) (by grind) hne (by grind) (by
    rw[hgp];intro e;have h1:=(F.tree.link p al.lv).first (by rw[A p hpi];show(gt w.fL p).Bz≠0;omega);have h2:=((A1z A).1 h1.1).2;rw[A p hpi]at h2;have h2:(gt w.fL ((gt w.fL p).Bz - 1)).G4=1:=h2
    grind)
   refine⟨l',fun h=>absurd h q,fun _=>e,by rw[L.len];simp,?_,fun x hx hxk=> ?_⟩
   ·rw[L.at_,A4v ha.1,hgp];unfold newN mkN
    grind
   ·rw[L.ot x (by grind) hxk,A5t ha.1.1 hx (Ne.symm hxk),hgp]
    grind
 obtain⟨l',h1,h2,L⟩:=hl';have I':=Bqd I A F M T L;refine⟨p',l',ep,h1,h2,⟨I',?_,fun x hx=> ?_,?_,?_⟩,L.len⟩
 ·show ∀x∈p'.Fp,_;rw[T.mem];exact G.mem
 ·have hx:0<=x/\x<(l'.length:Int):=hx;rw[L.len]at hx;show EpP E (gt l' x);by_cases e:x=at_
  ·rw[e,L.at_];refine⟨hE.1,?_,⟨by show 0<=ch+1;omega,by show ch+1<=_;omega⟩⟩;show(if p+1=0 then 0 else(gt w.fL p).Nb)<=E;split
   ·exact hE.1
   ·rename_i q;have:=(hp.resolve_left (by omega)).1.al A;exact(G.ep p this.lv.1).ep
  ·rw[L.ot x hx e];have:=G.ep x hx;exact⟨this.ep,this.ue,this.cur⟩
 ·have hs:=A02 (f:=wtN w.fC) L.len ha.1 fun x hx hne=>by rw[L.ot x hx hne];rfl
  have e0:wtN w.fC (gt w.fL at_)=0:=by grind [A7r]
  have e1:wtN w.fC (gt l' at_)<=18:=by
   rw[L.at_];unfold wtN mkN
   grind
  have h3:=G.wt;unfold wt pot at h3 ⊢
  grind
 ·have hs:=A02 (f:=lvN) L.len ha.1 fun x hx hne=>by rw[L.ot x hx hne];rfl
  have e1:lvN (gt l' at_)<=1:=by unfold lvN;split<;>omega
  unfold cnt at hcn ⊢;show(((l'.map lvN).sum+w.fQ.length:Nat):Int)<=E;omega
end
section
variable {K:Nat} (hK:281474976710656<=K)
include hK
theorem A7u{E:Int}{n:Nat}(hE:0<=E/\E<=890000000)(hn:n<=900000000){w:Bo}(G:Ev w E n){p:Int}(a b:F8)(hp:a.Aab=0->p= -1\/AlW w.fL p/\(Akt w.fL w.fL.length p).length<4):
  ∃r w',Ars K p w.fC.Ad w.fC.Du w.fC.Cd w.fC.Ez w.fC.Ce w.fC.Dv w.fP.Fp w.fP.G4 w.fP.Fq w.fL w.fQ w.Jp a b=some (r,w')/\Ev w' (E+1) (n+18)/\w'.fC=w.fC:=by
 unfold Ars;by_cases h0:a.Aab=0
 ·have hp:=hp h0;rw[h0];simp only[bne_self_eq_false,cond_false];obtain⟨d,w1,e1,S⟩:=Bh2 hK (by omega:0<=E/\E<=1000000000) (by omega) 1 (run:=1) (by omega) G;rw[show Bo.mk (Fi.mk w.fC.Ad w.fC.Du w.fC.Cd w.fC.Ez w.fC.Ce w.fC.Dv) (Ef.mk w.fP.Fp w.fP.G4 w.fP.Fq) w.fL w.fQ w.Jp=w from rfl,e1];simp only[Z0];have G1:=S.good;have T1:=S.stay;have P1:=Akj.1 G1.inv.pool;have hst:=P1.st;have hlen:=G1.inv.len;obtain⟨b1,b2,b3,b4,b5,b6⟩:=Bd G1.inv.conf;obtain⟨at_,e2,h2⟩:=Beq hK (l:=w1.fL) (by omega);obtain⟨ch,e3,h3⟩:=A9d hK (p:=w1.fP) (by omega);rw[e2,e3];simp only[Z0];have G1':=Ev.le G1 (by omega:E<=E+1) (by omega:n<=n+18);have Gp:=Ev.le G1 (by omega:E<=E+1) (Z9 n);by_cases q1:at_<0
  ·rw[decide_eq_true q1];exact⟨_,_,rfl,G1',T1.conf⟩
  ·rw[decide_eq_false q1];simp only[cond_false];by_cases q2:ch<0
   ·rw[decide_eq_true q2];exact⟨_,_,rfl,G1',T1.conf⟩
   ·rw[decide_eq_false q2];simp only[cond_false];obtain⟨hat,hfree⟩:=h2.resolve_left (by omega);have hch:=h3.resolve_left (by omega);obtain⟨f1,f2,f3,f4⟩:=A15.1 hch;have hp1:p= -1\/AlW w1.fL p/\(Akt w1.fL w1.fL.length p).length<4:=hp.imp_right fun h=>by
     obtain⟨x1,_,x3⟩:=T1.node p h.1;rw[x3,T1.len]
     grind
    obtain⟨p',l',et,k1,k2,G2,hl2⟩:=Blu hK (by omega) hn Gp hp1 ⟨hat,hfree⟩ hch (by have:=G1.cn;omega);have hg:=A33 (G1.inv.node at_ hat);have L0:Avn w1.fC (Az.mk 1 (gt w1.fL at_).C7 0 0 0 0 0 0 [] 0 0 [] []):=⟨G1.inv.conf,rfl,hg.2.2,⟨Int.le_refl 0,by grind⟩,⟨Int.le_refl 0,by grind⟩,⟨Int.le_refl 0,by grind⟩,⟨Int.le_refl 0,by grind⟩,Int.le_refl 0,Int.le_refl 0,rfl,rfl,Z21 _,Z21 _,rfl,rfl⟩;have W0:At7 (Az.mk 1 (gt w1.fL at_).C7 0 0 0 0 0 0 [] 0 0 [] []):=A6y (E:=0) (Akn.2 L0).1 ⟨Int.le_refl 0,Int.le_refl 0,Int.le_refl 0,by grind⟩ (by omega);unfold Amn;simp only[Z0,if_pos hat];rw[et,Z0,A9u hK L0 W0 ⟨f1,by omega⟩ (by grind),Z0];simp only;have hnew:A79 (Az.mk 1 (gt w1.fL at_).C7 0 0 0 0 0 0 [] 0 0 [] []) ch=newN (gt w1.fL at_).C7 ch:=rfl;rw[hnew];by_cases q3:p= -1
    ·rw[decide_eq_false (by omega: ¬p>=0)];simp only[cond_false];rw[<-k1 q3];obtain⟨hd,eh⟩:=A7t (K:=K) (l:=l') (by omega) at_
     obtain⟨t,w2,es,S2⟩:=Ba0 hK (E:=E+1) (n:=n+18) (by omega) (by omega) w1.fC.Ez G2;unfold Axk;rw[eh,Z0,show Bo.mk (Fi.mk w1.fC.Ad w1.fC.Du w1.fC.Cd w1.fC.Ez w1.fC.Ce w1.fC.Dv) (Ef.mk p'.Fp p'.G4 p'.Fq) l' w1.fQ w1.Jp=Bo.mk w1.fC p' l' w1.fQ w1.Jp from rfl,es];exact⟨_,_,rfl,S2.good,S2.stay.conf.trans T1.conf⟩
    ·have hp2:0<=p:=by
      obtain⟨t,A,F⟩:=G1.inv.forest;exact((hp1.resolve_left q3).1.al A).lv.1.1
     rw[decide_eq_true (show p>=0 from hp2)];simp only[cond_true];rw[k2 q3,Z0];obtain⟨hd,eh⟩:=A7t (K:=K) (l:=l') (by omega) at_
     obtain⟨t,w2,es,S2⟩:=Ba0 hK (E:=E+1) (n:=n+18) (by omega) (by omega) w1.fC.Ez G2;unfold Axk;rw[eh,Z0,show Bo.mk (Fi.mk w1.fC.Ad w1.fC.Du w1.fC.Cd w1.fC.Ez w1.fC.Ce w1.fC.Dv) (Ef.mk p'.Fp p'.G4 p'.Fq) l' w1.fQ w1.Jp=Bo.mk w1.fC p' l' w1.fQ w1.Jp from rfl,es];exact⟨_,_,rfl,S2.good,S2.stay.conf.trans T1.conf⟩
 ·rw[A20 h0];exact⟨_,_,rfl,Ev.le G (by omega:E<=E+1) (by omega),rfl⟩
theorem Bgf{E:Int}{n:Nat}(hE:0<=E/\E<=890000000)(hn:n<=900000000){w:Bo}(G:Ev w E n){p:Int}(v:Bool)(a b:F8)(hp:v=false->p= -1\/AlW w.fL p/\(Akt w.fL w.fL.length p).length<4):
  ∃r w',Axl K p v w.fC.Ad w.fC.Du w.fC.Cd w.fC.Ez w.fC.Ce w.fC.Dv w.fP.Fp w.fP.G4 w.fP.Fq w.fL w.fQ w.Jp a b=some (r,w')/\Ev w' (E+1) (n+18)/\w'.fC=w.fC:=by
 have W:=G.ww (by omega) (by omega);have hlen:=G.inv.len;obtain⟨b1,b2,b3,b4,b5,b6⟩:=Bd G.inv.conf;unfold Axl;cases v with
 |true=>exact A7u hK hE hn G (p:=p) (F8.mk 3 a.fH a.fR a.fB a.Aac a.Ez a.R2) b (fun h=>absurd (show(3:Int)=0 from h) (by decide))
 |false=>
  simp only[cond_false];rw[show Bo.mk (Fi.mk w.fC.Ad w.fC.Du w.fC.Cd w.fC.Ez w.fC.Ce w.fC.Dv) (Ef.mk w.fP.Fp w.fP.G4 w.fP.Fq) w.fL w.fQ w.Jp=w from rfl];obtain⟨r,er⟩:=Bge hK W (by omega);rw[er,Z0];cases r==0 with
  |true=>exact A7u hK hE hn G (p:=p) (F8.mk 4 a.fH a.fR a.fB a.Aac a.Ez a.R2) b (fun h=>absurd (show(4:Int)=0 from h) (by decide))
  |false=>
   simp only[cond_false];obtain⟨f,ef⟩:=A7s hK W (by omega) 1;rw[ef,Z0];cases f with
   |false=>exact A7u hK hE hn G (p:=p) (F8.mk 5 a.fH a.fR a.fB a.Aac a.Ez a.R2) b (fun h=>absurd (show(5:Int)=0 from h) (by decide))
   |true=>simp_all[A7u]
theorem Bh3{E:Int}{n:Nat}(hE:0<=E/\E<=890000000)(hn:n<=900000000){w:Bo}(G:Ev w E n)(h:Ch): ∃r w',A2f K w h=some (r,w')/\Ev w' (E+1) (n+18)/\w'.fC=w.fC:=by
 have W:=G.ww (by omega) (by omega);have hlen:=G.inv.len;obtain⟨b1,b2,b3,b4,b5,b6⟩:=Bd G.inv.conf;have hup: ∃p c,A4e K w h=some (p,c)/\(c=0->p= -1\/AlW w.fL p):=by
  unfold A4e;cases ((h.Be==0)&&((h.C7==0)&&true))with
  |true=>grind
  |false=>
   simp only[cond_false];rw[Ay3 hK W.l,Z0];exact⟨_,_,rfl,fun h0=> .inr (A76 G.inv h0)⟩
 obtain⟨p,c,ep,hp⟩:=hup;unfold A2f;rw[ep,Z0,A3i hK w W.l,Z0];simp only;by_cases q:c=0
 ·rw[q];simp only[bne_self_eq_false,cond_false];rcases hp q with e|e
  ·simp_all[Bgf]
  ·have hpi:0<=p/\p<(w.fL.length:Int):=by
    obtain⟨t,A,F⟩:=G.inv.forest;exact(e.al A).lv.1
   rw[decide_eq_true (show p>=0 from hpi.1)];simp only[cond_true];unfold A0q;rw[A6q hK W.l p ⟨by omega,by omega⟩];simp only[Z0];refine Bgf hK hE hn G _ _ _ (fun hv=> .inr ⟨e,?_⟩)
   grind
 ·rw[A20 q];exact A7u hK hE hn G (p:=p) (F8.mk c (Ch.mk 0 0) (Fb.mk (Ch.mk 0 0) 0 0) [] (Bf0 w h) 0 0) (F8.mk 0 (Ch.mk 0 0) (Fb.mk (Ch.mk 0 0) 0 0) [] 0 0 0) (fun h=>absurd h q)
end
theorem Bbw{c:Fi}{ch:List Int}{t:Bn}(h:Av4 c ch t=true){j:Int}(h0:t.fAt<=j)(h1:j<t.fAt+t.Yg):j / c.Du∈ch:=by
 unfold Av4 at h;rw[Z4,Z1]at h;obtain⟨ht,hc⟩:=h;obtain⟨hs,hin⟩:=A6a ht;obtain⟨b1,b2,_⟩:=Bd hin.1;have e1:t.fAt / c.Du<=j / c.Du:=Int.ediv_le_ediv (by omega) h0;have e2:j / c.Du<=(t.fAt+t.Yg - 1) / c.Du:=Int.ediv_le_ediv (by omega) (by omega);have:=hc (j / c.Du - t.fAt / c.Du).toNat (by grind)
 grind
theorem A9v{a s j:Int}(hs:0<s)(h0:a*s<=j)(h1:j<a*s+s):j / s=a:=by
 have h2:a<=j / s:=(Int.le_ediv_iff_mul_le hs).2 h0;have h3:j / s<a+1:=Int.ediv_lt_of_lt_mul hs (by grind);omega
theorem A6m{a b:Bn}(h: ∀j,a.fAt<=j->j<a.fAt+a.Yg->b.fAt<=j->j<b.fAt+b.Yg->False):Apf a b=true:=by
 unfold Apf;rw[decide_eq_true_iff];by_cases h1:a.Yg<=0
 ·omega
 by_cases h2:b.Yg<=0
 ·omega
 by_cases h3:a.fAt+a.Yg<=b.fAt
 ·omega
 by_cases h4:b.fAt+b.Yg<=a.fAt
 ·omega
 exfalso;by_cases h5:a.fAt<=b.fAt
 ·exact h b.fAt h5 (by omega) (by omega) (by omega)
 ·exact h a.fAt (by omega) (by omega) (by omega) (by omega)
theorem Bgg{a b:Bn}(h:Apf a b=true){j:Int}(h1:a.fAt<=j)(h2:j<a.fAt+a.Yg)(h3:b.fAt<=j)(h4:j<b.fAt+b.Yg):False:=by
 unfold Apf at h
 grind
theorem Ber{l:List Bn}:At0 l=true ↔ l.Pairwise (fun a b=>Apf a b=true):=by
 unfold At0;rw[Z1,List.pairwise_iff_getElem];constructor
 ·intro h i j hi hj hij;have:=h j (by grind)
  grind [List.mem_iff_getElem,Wx]
 ·intro h j hj;rw[List.mem_range]at hj;rw[Z1];intro o ho;obtain⟨i,hi,e⟩:=List.mem_iff_getElem.1 ho
  grind [Wx]
theorem A9e{l:List Bn}{t:Bn}(h:At0 l=true)(ht: ∀o∈l,Apf o t=true):At0 (l++[t])=true:=by
 simp_all[Ber,List.pairwise_append]
theorem A9f{c:Fi}{n:Az}(L:Avn c n)(hc:0<=n.No/\n.No<=1000)(h0:n.No≠0):n.No - 1∈n.Ad/\0<=n.G8/\n.G8<=c.Du:=by
 have:=L.cur;unfold A8z at this;rw[At6 h0,cond_false,Z4,Wy,sb1 (by omega) (by omega)]at this
 grind
theorem Bjs{c:Fi}{ch ch':List Int}(h: ∀x∈ch,x∈ch'){t:Bn}(ht:Av4 c ch t=true):Av4 c ch' t=true:=by
 unfold Av4 at ht ⊢;rw[Z4,Z1]at ht ⊢;exact⟨ht.1,fun j hj=>List.contains_iff_mem.2 (h _ (List.contains_iff_mem.1 (ht.2 j hj)))⟩
def Bbx (c:Fi)(n:Az)(off size:Int):Az:=Az.mk n.G4 n.C7 n.Nb n.fUp n.G5 n.Bz n.G6 n.G7 n.Ad n.No (off+size) (n.D5++[Bn.mk ((n.No - 1)*c.Du+off) size 0]) n.Dh
structure Bqf (c:Fi)(n:Az)(off size:Int):Prop where
 cur:n.No≠0
 ho:n.G8<=off
 hz:1<=size
 fit:off+size<=c.Du
 cnt:n.D5.length<12
structure ThP (c:Fi)(mem:List Int)(n:Az):Prop where
 inch:n.D5.all (Av4 c n.Ad)=true
 apart:At0 n.D5=true
 loose:Av6 c mem n=true
theorem Bgh{c:Fi}{mem:List Int}{n:Az}{off size:Int}(L:Avn c n)(hc:0<=n.No/\n.No<=1000)(T:ThP c mem n)(S:Bqf c n off size):Avn c (Bbx c n off size)/\ThP c mem (Bbx c n off size):=by
 obtain⟨b1,b2,_⟩:=Bd L.conf;obtain⟨m1,m2,m3⟩:=A9f L hc S.cur;have hm:=A1w L.dist _ m1;have ho:=S.ho;have hz:=S.hz;have hf:=S.fit;have hn:=S.cnt;have hlo:=T.loose;unfold Av6 at hlo;rw[At6 S.cur,Z52,Z4,Z1]at hlo;obtain⟨z1,z2⟩:=hlo;have q0:0<=(n.No - 1)*c.Du:=Int.mul_nonneg (by omega) (by omega);have q1:(n.No - 1)*c.Du+c.Du<=c.Ad*c.Du:=by
  have:(n.No - 1+1)*c.Du<=c.Ad*c.Du:=Int.mul_le_mul_of_nonneg_right (by omega) (by omega)
  grind
 have hby:Aoy c=c.Ad*c.Du:=by unfold Aoy;rw[L.conf];rfl
 have d1:((n.No - 1)*c.Du+off) / c.Du=n.No - 1:=A9v (by omega) (by omega) (by omega);have d2:((n.No - 1)*c.Du+off+size - 1) / c.Du=n.No - 1:=A9v (by omega) (by omega) (by omega);have htb:At8 c (Bn.mk ((n.No - 1)*c.Du+off) size 0)=true:=by
  unfold At8;rw[decide_eq_true (show A1v c (Bn.mk ((n.No - 1)*c.Du+off) size 0) from⟨L.conf,hz,by grind,by grind⟩)]
  grind
 have htc:Av4 c n.Ad (Bn.mk ((n.No - 1)*c.Du+off) size 0)=true:=by
  unfold Av4
  grind
 have hr: ∀o∈n.D5,∀j,o.fAt<=j->j<o.fAt+o.Yg->(n.No - 1)*c.Du+n.G8<=j->j<(n.No - 1)*c.Du+c.Du->False:=fun o h j h1 h2 h3 h4=>Bgg (z2 o h) h1 h2 (b:=Aze c n) h3 (by show j<(n.No - 1)*c.Du+n.G8+(c.Du - n.G8);omega)
 refine⟨⟨L.conf,L.st,L.gen,L.up,L.first,L.next,L.prev,L.ep,L.ue,L.dist,?_,?_,L.ntag,L.tags,?_⟩,⟨?_,?_,?_⟩⟩
 ·unfold A8z Bbx;simp only;rw[At6 S.cur,cond_false,sb1 (by omega) (by omega),List.contains_iff_mem.2 m1,Wy.2 ⟨by omega,by omega⟩];rfl
 ·show(n.D5++[_]).length<=12
  grind
 ·show(n.D5++[_]).all (At8 c)=true
  grind [Avn.things]
 ·show(n.D5++[_]).all (Av4 c n.Ad)=true
  grind [ThP.inch]
 ·refine A9e T.apart fun o h=>A6m fun j h1 h2 h3 h4=>hr o h j h1 h2 ?_ ?_
  all_goals grind
 ·unfold Av6;rw[Bool.or_eq_true,Z4];refine .inr ⟨?_,?_⟩
  ·rw[A5b]at z1 ⊢;intro j h1 h2 h3;have h1:((n.No - 1)*c.Du+(off+size)).toNat<=j:=h1;have h2:j<((n.No - 1)*c.Du+(off+size)).toNat+(c.Du - (off+size)).toNat:=h2;refine z1 j ?_ ?_ h3
   ·show((n.No - 1)*c.Du+n.G8).toNat<=j;omega
   ·show j<((n.No - 1)*c.Du+n.G8).toNat+(c.Du - n.G8).toNat;omega
  ·show(n.D5++[_]).all _=true;rw[List.all_append,Gv,Z4,Z4,Z1];refine⟨fun o h=>A6m fun j h1 h2 h3 h4=>hr o h j h1 h2 ?_ ?_,A6m fun j h1 h2 h3 h4=> ?_,rfl⟩
   ·have h3:(n.No - 1)*c.Du+(off+size)<=j:=h3;omega
   ·have h4:j<(n.No - 1)*c.Du+(off+size)+(c.Du - (off+size)):=h4;omega
   ·have h2:j<(n.No - 1)*c.Du+off+size:=h2;have h3:(n.No - 1)*c.Du+(off+size)<=j:=h3;omega
def A9g (a n:Int):List Int:=(List.range n.toNat).map (fun(i:Nat)=>a+(i:Int))
theorem A9h{a n x:Int}:x∈A9g a n ↔ a<=x/\x<a+n:=by
 unfold A9g;rw[Gh];constructor
 ·grind
 ·intro h;exact⟨(x - a).toNat,by grind,by omega⟩
theorem Bh4 (a n:Int):(A9g a n).Nodup:=by
 grind [A9g,List.nodup_range]
def A58 (c:Fi)(n:Az)(a run size:Int):Az:=Az.mk n.G4 n.C7 n.Nb n.fUp n.G5 n.Bz n.G6 n.G7 (n.Ad++A9g a run) n.No n.G8 (n.D5++[Bn.mk (a*c.Du) size run]) n.Dh
structure Bh5 (c:Fi)(n:Az)(a run size:Int):Prop where
 hz:c.Du<size/\size<=200
 hr:run=Ax7 size c.Du
 at_:0<=a/\a+run<=c.Ad
 new: ∀x∈n.Ad,¬(a<=x/\x<a+run)
 cnt:n.D5.length<12
theorem Bgi{c:Fi}{mem:List Int}{n:Az}{a run size:Int}(L:Avn c n)(hc:0<=n.No/\n.No<=1000)(T:ThP c mem n)(S:Bh5 c n a run size):Avn c (A58 c n a run size)/\ThP c mem (A58 c n a run size):=by
 obtain⟨b1,b2,_⟩:=Bd L.conf;have hz:=S.hz;have ha:=S.at_;have hn:=S.cnt;have hrun:run=(size+c.Du - 1) / c.Du:=by
  rw[S.hr];unfold Ax7;rw[Wy.2 ⟨by omega,by omega⟩,Wy.2 ⟨by omega,by omega⟩];rfl
 have hru:size<=run*c.Du:=by
  have:=Int.lt_ediv_add_one_mul_self (size+c.Du - 1) (show 0<c.Du by omega)
  grind
 have hr1:1<=run:=by
  rw[hrun];exact(Int.le_ediv_iff_mul_le (by omega)).2 (by omega)
 have q0:0<=a*c.Du:=Int.mul_nonneg (by omega) (by omega);have q1:a*c.Du+run*c.Du<=c.Ad*c.Du:=by
  rw[<-Int.add_mul];exact Int.mul_le_mul_of_nonneg_right (by omega) (by omega)
 have hby:Aoy c=c.Ad*c.Du:=by unfold Aoy;rw[L.conf];rfl
 have htb:At8 c (Bn.mk (a*c.Du) size run)=true:=by
  unfold At8;rw[decide_eq_true (show A1v c (Bn.mk (a*c.Du) size run) from⟨L.conf,by grind,q0,by grind⟩)];show(bif run==0 then _ else decide (size>c.Du)&&(run==Ax7 size c.Du&&(a*c.Du) % c.Du==0))=true;rw[At6 (by omega),cond_false,decide_eq_true (by omega),<-S.hr,Int.mul_emod_left];simp
 have hdv: ∀j,a*c.Du<=j->j<a*c.Du+size->a<=j / c.Du/\j / c.Du<a+run:=fun j h1 h2=>by
  refine⟨(Int.le_ediv_iff_mul_le (by omega)).2 h1,Int.ediv_lt_of_lt_mul (by omega) ?_⟩
  grind
 have htc:Av4 c (n.Ad++A9g a run) (Bn.mk (a*c.Du) size run)=true:=by
  unfold Av4;rw[htb,Z30,Z1];intro j hj;rw[List.mem_range]at hj;have e1:=hdv (a*c.Du) (Int.le_refl _) (by omega);have e2:=hdv (a*c.Du+size - 1) (by omega) (by omega);have hj:j<((a*c.Du+size - 1) / c.Du - a*c.Du / c.Du+1).toNat:=hj;refine List.contains_iff_mem.2 (N0.2 (.inr (A9h.2 ?_)))
  grind
 have hmono: ∀x∈n.Ad,x∈n.Ad++A9g a run:=fun x h=>N0.2 (.inl h)
 have hold: ∀o∈n.D5,∀j,o.fAt<=j->j<o.fAt+o.Yg->a*c.Du<=j->j<a*c.Du+size->False:=fun o h j h1 h2 h3 h4=>S.new _ (Bbw (Z1.1 T.inch o h) h1 h2) (hdv j h3 h4)
 have hd:=A6l.1 L.dist;refine⟨⟨L.conf,L.st,L.gen,L.up,L.first,L.next,L.prev,L.ep,L.ue,?_,?_,?_,L.ntag,L.tags,?_⟩,⟨?_,?_,?_⟩⟩
 ·refine A6l.2 ⟨Apl.2 ⟨hd.1,Bh4 _ _,fun x h1 h2=>S.new x h1 (A9h.1 h2)⟩,fun x hx=> ?_⟩;rcases N0.1 hx with h|h
  ·grind
  ·have:=A9h.1 h;omega
 ·have:=L.cur;unfold A8z at this ⊢;show(bif n.No==0 then n.G8==0 else(n.Ad++A9g a run).contains (Ap n.No 1)&&inB n.G8 0 c.Du)=true
  grind
 ·show(n.D5++[_]).length<=12
  grind
 ·show(n.D5++[_]).all (At8 c)=true
  grind [Avn.things]
 ·show(n.D5++[_]).all (Av4 c (n.Ad++A9g a run))=true;rw[List.all_append,Gv,htc,Z4,Z1];exact⟨fun o h=>Bjs hmono (Z1.1 T.inch o h),rfl⟩
 ·exact A9e T.apart fun o h=>A6m fun j h1 h2 h3 h4=>hold o h j h1 h2 h3 h4
 ·have hlo:=T.loose;unfold Av6 at hlo ⊢;rw[Bool.or_eq_true,Z4]at hlo ⊢;rcases hlo with h|⟨h,h'⟩
  ·exact .inl h
  ·by_cases e:n.No=0
   ·exact .inl (by show(n.No==0)=true;grind)
   ·refine .inr ⟨h,?_⟩;show(n.D5++[_]).all (fun t=>Apf t (Aze c n))=true;rw[List.all_append,h',Gv,Z30,Z4];refine⟨A6m fun j h1 h2 h3 h4=> ?_,rfl⟩;obtain⟨m1,m2,m3⟩:=A9f L hc e;have h3:(n.No - 1)*c.Du+n.G8<=j:=h3;have h4:j<(n.No - 1)*c.Du+n.G8+(c.Du - n.G8):=h4;have:=A9v (a:=n.No - 1) (s:=c.Du) (j:=j) (by omega) (by omega) (by omega);exact S.new _ m1 (by grind)
def A8v (al:Int):Bool:=al==1||(al==2||al==4)
theorem A60 (K:Nat)(al:Int):Av0 K al=some (A8v al):=by
 grind [Av0,A8v]
theorem Bgj{al:Int}(h:A8v al=true):al=1\/al=2\/al=4:=by
 simp_all[A8v]
theorem Bh6 (K:Nat){b al:Int}(hb:0<=b/\b<=1000)(ha:A8v al=true): ∃off,A2g K b al=some off/\b<=off/\off<=2000:=by
 unfold A2g;rw[Aml,Wy.2 ⟨by omega,by omega⟩,A60,ha];simp only[Z0,cond_true,Bool.not_true,cond_false];have e:Ap (A1 b al) 1=b+al - 1:=by
  grind [Bgj,Ap,Asu,A1,Lc,Ht]
 rw[e];have key: ∀a:Int,1<=a->a<=4->K1 (Apq .i64 (b+a - 1) a) a=(b+a - 1) / a*a:=by
  intro a h1 h2;have h3:(b+a - 1) / a<=b+a - 1:=Int.ediv_le_self _ (by omega);have h4:0<=(b+a - 1) / a:=Int.ediv_nonneg (by omega) (by omega);have h5:=Azd (a:=(b+a - 1) / a) (b:=a) (m:=2000) (n:=4) h4 (by omega) (by omega) h2
  grind [Apq,K1,Ew,Ht]
 rcases Bgj ha with h|h|h
 ·subst h;rw[if_pos (by decide),key 1 (by omega) (by omega)]
  grind
 ·subst h;rw[if_pos (by decide),key 2 (by omega) (by omega)]
  grind
 ·subst h;rw[if_pos (by decide),key 4 (by omega) (by omega)]
  grind
section
variable {K:Nat} (hK:281474976710656<=K)
include hK
theorem Bc8{c:Fi}{n:Az}(L:Avn c n)(W:At7 n)(hc:0<=n.No/\n.No<=1000)(size al:Int)(hs: -1000000<=size/\size<=1000000): ∃at_ b,A0v K c n size al=some (at_,b)/\(b=true-> ∃off,at_=(n.No - 1)*c.Du+off/\n.No≠0/\n.G8<=off/\1<=size/\off+size<=c.Du):=by
 obtain⟨b1,b2,_⟩:=Bd L.conf;have h1:=Awx L.conf L.dist;have h3:=L.nth;have h4:=L.ntag;unfold A0v;rw[Azv hK c n (by omega) (by omega) (by omega),(Akn.2 L).1];simp only[Z0,cond_true];by_cases q:n.No=0
 ·simp_all
 ·rw[At6 q,Aml];simp only[cond_false,Z0];by_cases q2:1<=size/\size<=c.Du
  ·rw[Wy.2 q2,A60];simp only[cond_true,Z0];cases ha:A8v al with
   |false=>simp_all
   |true=>
    obtain⟨m1,m2,m3⟩:=A9f L hc q;have hm:=A1w L.dist _ m1;obtain⟨off,eo,ho1,ho2⟩:=Bh6 K (b:=n.G8) ⟨m2,by omega⟩ ha;simp only[Bool.not_true,cond_false];rw[eo,Z0];have e1:A1 off size=off+size:=by grind [A1,Lc,Ht]
    have e2:Ap n.No 1=n.No - 1:=sb1 (by omega) (by omega);have h5:=Azd (a:=n.No - 1) (b:=c.Du) (m:=12) (n:=16) (by omega) (by omega) (by omega) b2.2;have e3:K1 (n.No - 1) c.Du=(n.No - 1)*c.Du:=by grind [K1,Ew,Ht]
    have e4:A1 ((n.No - 1)*c.Du) off=(n.No - 1)*c.Du+off:=by grind [A1,Lc,Ht]
    rw[e1,e2,e3,e4];by_cases q3:off+size>c.Du
    all_goals simp_all[decide_eq_false]
  ·rw[Bao.2 q2];grind
theorem Bae{c:Fi}{n:Az}(L:Avn c n)(W:At7 n)(hc:0<=n.No/\n.No<=1000)(size al:Int)(hs: -1000000<=size/\size<=1000000): ∃n' b,Ayi K c n size al=some (n',b)/\(n'=n\/ ∃off,Bqf c n off size/\n'=Bbx c n off size):=by
 have hm:=V1;obtain⟨b1,b2,_⟩:=Bd L.conf;have h3:=L.nth;obtain⟨at_,b,e,hb⟩:=Bc8 hK L W hc size al hs;unfold Ayi;rw[Awy K W,Z0,e,Z0];cases b with
 |false=>grind
 |true=>
  obtain⟨off,e1,h1,h2,h4,h5⟩:=hb rfl;obtain⟨m1,m2,m3⟩:=A9f L hc h1;have hmi:=A1w L.dist _ m1;simp only[cond_true];by_cases q:(n.D5.length:Int)>=12
  ·simp_all
  ·rw[decide_eq_false q];simp only[cond_false];rw[if_pos ⟨by grind,by grind⟩];refine⟨_,_,rfl,.inr ⟨off,⟨h1,h2,h4,h5,by omega⟩,?_⟩⟩;have e2:Ap n.No 1=n.No - 1:=sb1 (by omega) (by omega);have h6:=Azd (a:=n.No - 1) (b:=c.Du) (m:=12) (n:=16) (by omega) (by omega) (by omega) b2.2;have e3:K1 (n.No - 1) c.Du=(n.No - 1)*c.Du:=by grind [K1,Ew,Ht]
   have e4:Ap at_ ((n.No - 1)*c.Du)=off:=by grind [Ap,Asu,Ht]
   have e5:A1 off size=off+size:=by grind [A1,Lc,Ht]
   rw[e2,e3,e4,e5,e1];rfl
theorem Bqg{c:Fi}{n:Az}(L:Avn c n)(W:At7 n)(hc:0<=n.No/\n.No<=1000)(size al:Int)(hs: -1000000<=size/\size<=1000000): ∃b,Ay5 K c n size al=some b:=by
 have h1:=Awx L.conf L.dist;have h3:=L.nth;have h4:=L.ntag;obtain⟨at_,b,e,hb⟩:=Bc8 hK L W hc size al hs;unfold Ay5;rw[e,Azv hK c n (by omega) (by omega) (by omega),(Akn.2 L).1,Aml,A60,L.st];simp only[Z0];cases b<;>cases inB size 1 c.Du<;>exact⟨_,rfl⟩
theorem Bgk{c:Fi}{mem:List Int}{n:Az}(L:Avn c n)(W:At7 n)(hc:0<=n.No/\n.No<=1000)(T:ThP c mem n){a run size:Int}(S:Bh5 c n a run size):Au4 K c n a size=some (A58 c n a run size,true):=by
 have hm:=V1;obtain⟨b1,b2,_⟩:=Bd L.conf;have h1:=Awx L.conf L.dist;have h3:=L.nth;have h4:=L.ntag;have hz:=S.hz;have ha:=S.at_;obtain⟨L2,T2⟩:=Bgi L hc T S;have hrun:run=(size+c.Du - 1) / c.Du:=by
  rw[S.hr];unfold Ax7;rw[Wy.2 ⟨by omega,by omega⟩,Wy.2 ⟨by omega,by omega⟩];rfl
 have hru:size<=run*c.Du:=by
  have:=Int.lt_ediv_add_one_mul_self (size+c.Du - 1) (show 0<c.Du by omega)
  grind
 have hr1:1<=run:=by
  rw[hrun];exact(Int.le_ediv_iff_mul_le (by omega)).2 (by omega)
 have q1:run*c.Du<=c.Ad*c.Du:=Int.mul_le_mul_of_nonneg_right (by omega) (by omega);have hby:Aoy c=c.Ad*c.Du:=by unfold Aoy;rw[L.conf];rfl
 have e3:K1 a c.Du=a*c.Du:=by
  have h5:=Azd (a:=a) (b:=c.Du) (m:=12) (n:=16) (by omega) (by omega) (by omega) b2.2
  grind [K1,Ew,Ht]
 unfold Au4 Asj Ao7;rw[Awy K W,Z0,Avm,L.conf];simp only[Z0,cond_true];rw[show(n.G4 != 1)=false by rw[L.st];rfl,cond_false,decide_eq_true (by omega),cond_true,Ayd,Z0,decide_eq_false (by omega),cond_false,Aml,A0h hK L.conf,Wy.2 ⟨by omega,by omega⟩];simp only[Z0,Bool.not_true,cond_false];rw[A4u,Z0,<-S.hr,Z0];have key: ∀(f i:Nat) (v:List Int),(i:Int)<=run->run.toNat - i<f->v=n.Ad++(List.range i).map (fun(j:Nat)=>a+(j:Int))->Aph K c a size run f (i:Int) (Az.mk n.G4 n.C7 n.Nb n.fUp n.G5 n.Bz n.G6 n.G7 v n.No n.G8 n.D5 n.Dh) (Az.mk 0 0 0 0 0 0 0 0 [] 0 0 [] []) n.G4 n.C7 n.Nb n.fUp n.G5 n.Bz n.G6 n.G7 n.Ad n.No n.G8 n.D5 n.Dh=some (A58 c n a run size,true):=by
  intro f;induction f with
  |zero=>omega
  |succ f ih=>
   intro i v hi hf hv;have hvl:v.length=n.Ad.length+i:=by grind
   rw[Aph];by_cases h:(i:Int)=run
   ·rw[decide_eq_false (by omega),cond_false,e3];simp only;rw[if_pos ⟨by grind,by grind⟩];have el:Az.mk n.G4 n.C7 n.Nb n.fUp n.G5 n.Bz n.G6 n.G7 v n.No n.G8 (n.D5++[Bn.mk (a*c.Du) size run]) n.Dh=A58 c n a run size:=by
     grind [A58,A9g]
    have hl2:=L2.nth;have hl3:=Awx L2.conf L2.dist;rw[el,Azv hK c (A58 c n a run size) (by omega) (by omega) (show n.Dh.length<=_ by omega),(Akn.2 L2).1];rfl
   ·have e1:A1 a (i:Int)=a+(i:Int):=by unfold A1 Lc;exact Ht (by omega) (by omega)
    rw[decide_eq_true (by omega),cond_true,e1,Ad9 (by omega)];simp only;rw[if_pos ⟨by grind,by grind⟩];refine ih (i+1) _ (by omega) (by omega) ?_
    grind [List.range_succ]
 have:=key K 0 n.Ad (by omega) (by omega) (by simp);exact this
end
theorem A7v{w:Bo}{E:Int}{n:Nat}(G:Ev w E n){k:Int}(hk:AlW w.fL k){p':Ef}{n':Az}
  (P':A5w w.fC p') (hone: ∀c,0<=c/\c<w.fC.Ad->(gt p'.G4 c=2 ↔ gt w.fP.G4 c=2)/\(gt p'.G4 c=1/\gt p'.Fq c=k ↔ c∈n'.Ad)/\ ∀x,x≠k->(gt p'.G4 c=1/\gt p'.Fq c=x ↔ gt w.fP.G4 c=1/\gt w.fP.Fq c=x))
  (hm:p'.Fp=w.fP.Fp) (hlk:A7p n'=A7p (gt w.fL k)) (L:Avn w.fC n') (T:ThP w.fC w.fP.Fp n') (he:EpP E n') {m:Nat} (hwt:wtN w.fC n'<=wtN w.fC (gt w.fL k)+m):
  Ev (Bo.mk w.fC p' (w.fL.set k.toNat n') w.fQ w.Jp) E (n+m)/\AlW (w.fL.set k.toNat n') k/\gt (w.fL.set k.toNat n') k=n':=by
 obtain⟨t,A,F⟩:=G.inv.forest;have al:=hk.al A;have hki:=al.lv.1;have hst:=((A1z A).1 al.lv).2;have hg: ∀x,0<=x/\x<(w.fL.length:Int)->gt (w.fL.set k.toNat n') x=if x=k then n' else gt w.fL x:=fun x hx=>Auu hki hx n'
 have hgk:gt (w.fL.set k.toNat n') k=n':=A4v hki n';have A':AtT (w.fL.set k.toNat n') t:=fun x hx=>by
  rw[Z49]at hx;rw[hg x hx,A x hx]
  grind
 have I':Inv (Bo.mk w.fC p' (w.fL.set k.toNat n') w.fQ w.Jp):=by
  refine Bjr G.inv hki p' _ t (by simp) (fun x hx hne=>⟨_,_,_,by rw[hg x hx,if_neg hne];exact(Bbt _).symm,?_,?_,?_⟩) (by omega) (by grind) A' F P' hm (by simp_all) (by grind [ThP.inch,ThP.apart,ThP.loose])
  ·rw[<-G.inv.len];exact(G.inv.rg.rg x hx).2.1
  ·rw[<-G.inv.len];exact(G.inv.rg.rg x hx).2.2.1
  ·rw[<-G.inv.len];exact(G.inv.rg.rg x hx).2.2.2
 refine⟨⟨I',by show ∀x∈p'.Fp,_;rw[hm];exact G.mem,fun x hx=> ?_,?_,?_⟩,⟨t,A',by grind⟩,hgk⟩
 ·have hx:0<=x/\x<((w.fL.set k.toNat n').length:Int):=hx;rw[Z49]at hx;show EpP E (gt (w.fL.set k.toNat n') x)
  grind [Ev.ep]
 ·have hs:=A02 (f:=wtN w.fC) (l:=w.fL) (l':=w.fL.set k.toNat n') (by simp) hki fun x hx hne=>by grind
  rw[hgk]at hs;have h3:=G.wt
  grind [wt,pot]
 ·have hs:=A02 (f:=lvN) (l:=w.fL) (l':=w.fL.set k.toNat n') (by simp) hki fun x hx hne=>by rw[hg x hx,if_neg hne]
  rw[hgk,show lvN n'=1 by unfold lvN;rw[if_pos L.st],show lvN (gt w.fL k)=1 by unfold lvN;rw[if_pos hst]]at hs;have h3:=G.cn;unfold cnt at h3 ⊢;show(((((w.fL.set k.toNat n').map lvN).sum+w.fQ.length:Nat)):Int)<=E;omega
theorem Ev.live{w:Bo}{E:Int}{n:Nat}(G:Ev w E n){k:Int}(hk:AlW w.fL k):(0<=k/\k<(w.fL.length:Int))/\Avn w.fC (gt w.fL k)/\ThP w.fC w.fP.Fp (gt w.fL k)/\EpP E (gt w.fL k):=by
 obtain⟨t,A,F⟩:=G.inv.forest;have al:=(hk.al A).lv;obtain⟨t1,t2,t3⟩:=G.inv.thing k al.1;exact⟨al.1,G.inv.live A al,⟨t1,t2,t3⟩,G.ep k al.1⟩
theorem Bby{w:Bo}(I:Inv w){k:Int}(hk:0<=k/\k<(w.fL.length:Int)){ch:List Int}(h:ch=(gt w.fL k).Ad): ∀c,0<=c/\c<w.fC.Ad->(gt w.fP.G4 c=2 ↔ gt w.fP.G4 c=2)/\(gt w.fP.G4 c=1/\gt w.fP.Fq c=k ↔ c∈ch)/\ ∀x,x≠k->(gt w.fP.G4 c=1/\gt w.fP.Fq c=x ↔ gt w.fP.G4 c=1/\gt w.fP.Fq c=x):=fun c hc=>⟨Iff.rfl,by simp_all[Inv.own],fun _ _=>Iff.rfl⟩
theorem Bc9{w:Bo}(I:Inv w){p':Ef}{a n k:Int}(hk:0<=k/\k<(w.fL.length:Int))(hf:A5z w.fP a n=true)(T:Bls w.fP p' a n k){ch:List Int}(h: ∀c,c∈ch ↔ c∈(gt w.fL k).Ad\/a<=c/\c<a+n):
  A5w w.fC p'/\ ∀c,0<=c/\c<w.fC.Ad->(gt p'.G4 c=2 ↔ gt w.fP.G4 c=2)/\(gt p'.G4 c=1/\gt p'.Fq c=k ↔ c∈ch)/\ ∀x,x≠k->(gt p'.G4 c=1/\gt p'.Fq c=x ↔ gt w.fP.G4 c=1/\gt w.fP.Fq c=x):=by
 obtain⟨a1,a2⟩:=Bc7 I hk hf T
 grind
section
variable {K:Nat} (hK:281474976710656<=K)
include hK
theorem Bda{E:Int}{n:Nat}(hE:0<=E/\E<=900000000)(hn:n<=900000000){w:Bo}(G:Ev w E n){k:Int}(hk:AlW w.fL k)(size al:Int)(hs: -1000000<=size/\size<=1000000)(v19:F8)(v20 v21 v22 v23 v24 v25 v26:Int)(v27:List Int)(v28 v29 v30:Int):
  ∃r w',Awm K k size al w.fC.Ad w.fC.Du w.fC.Cd w.fC.Ez w.fC.Ce w.fC.Dv w.fP.Fp w.fP.G4 w.fP.Fq w.fL w.fQ w.Jp v19 v20 v21 v22 v23 v24 v25 v26 v27 v28 v29 v30=some (r,w')/\Ev w' E n/\w'.fC=w.fC/\w'.fL.length=w.fL.length:=by
 obtain⟨hki,L,T,e⟩:=G.live hk;have W:=A6y (Akn.2 L).1 e (by omega);obtain⟨n',b,e1,h⟩:=Bae hK L W e.cur size al hs;unfold Awm;simp only[if_pos hki];rw[show Fi.mk w.fC.Ad w.fC.Du w.fC.Cd w.fC.Ez w.fC.Ce w.fC.Dv=w.fC from rfl,e1,Z0];have P:=Akj.1 G.inv.pool;refine⟨_,_,rfl,?_,rfl,by simp⟩;rcases h with h|⟨off,S,h⟩
 ·rw[h];exact(A7v G hk (n':=gt w.fL k) (m:=0) P (Bby G.inv hki rfl) rfl rfl L T e (by omega)).1
 ·rw[h];obtain⟨L2,T2⟩:=Bgh L e.cur T S;exact(A7v G hk (n':=Bbx w.fC (gt w.fL k) off size) (m:=0) P (Bby G.inv hki rfl) rfl rfl L2 T2 ⟨e.ep,e.ue,e.cur⟩ (Z9 _)).1
theorem Bqh{E:Int}{n:Nat}(hE:0<=E/\E<=900000000)(hn:n<=880000000){w:Bo}(G:Ev w E n){k:Int}(hk:AlW w.fL k)(size al:Int)(hs: -1000000<=size/\size<=1000000)(a4:F8):
  ∃r w',A1d K w k size al a4=some (r,w')/\Ev w' E (n+16)/\w'.fC=w.fC/\w'.fL.length=w.fL.length:=by
 obtain⟨hki,L,T,e⟩:=G.live hk;have W:=A6y (Akn.2 L).1 e (by omega);have WW:=G.ww (by omega) (by omega);have hlen:=G.inv.len;obtain⟨b1,b2,b3,b4,b5,b6⟩:=Bd G.inv.conf;obtain⟨nb,e1⟩:=Bqg hK L W e.cur size al hs;unfold A1d;simp only[if_pos hki];rw[e1,Z0];cases nb with
 |false=>
  simp only[cond_false];obtain⟨r,w',h1,h2,h3⟩:=Bda hK hE (by omega) G hk size al hs (F8.mk 0 (Ch.mk 0 0) (Fb.mk (Ch.mk 0 0) 0 0) [] 0 0 0) a4.Aab a4.fH.Be a4.fH.C7 a4.fR.fH.Be a4.fR.fH.C7 a4.fR.Nb a4.fR.fNo a4.fB a4.Aac a4.Ez a4.R2;exact⟨r,w',h1,Ev.le h2 (Int.le_refl E) (by omega),h3⟩
 |true=>
  simp only[cond_true];obtain⟨fb,ef⟩:=A7s hK WW (by omega) 1;rw[ef,Z0];cases fb with
  |false=>exact⟨_,_,rfl,Ev.le G (Int.le_refl E) (by omega),rfl,rfl⟩
  |true=>
   simp only[Bool.not_true,cond_false];obtain⟨d,w1,ed,S⟩:=Bh2 hK (by omega:0<=E/\E<=1000000000) (by omega) 0 (run:=1) (by omega) G;have G1:=S.good;obtain⟨hk1,⟨x1,x2,x3,hnode⟩,_⟩:=S.stay.node k hk;obtain⟨hki1,L1,T1,e1⟩:=G1.live hk1;have W1:=A6y (Akn.2 L1).1 e1 (by omega);have WW1:=G1.ww (by omega) (by omega);have P1:=Akj.1 G1.inv.pool;have hst:=P1.st;have how:=P1.own;have hc1:=S.stay.conf;obtain⟨ch,ec,hch⟩:=A9d hK (p:=w1.fP) (by grind);rw[ed,Z0];simp only;rw[ec,Z0];by_cases q:ch<0
   ·rw[decide_eq_true q];exact⟨_,_,rfl,Ev.le G1 (Int.le_refl E) (by omega),hc1,S.stay.len⟩
   ·rw[decide_eq_false q];simp only[cond_false];have hf:=hch.resolve_left (by omega);obtain⟨f1,f2,f3,f4⟩:=A15.1 hf;obtain⟨p',ep,T'⟩:=A8u hK WW1.p (by grind) (by omega) (k:=k) hf;have hnew:ch ∉ (gt w1.fL k).Ad:=fun h=>by
     have:=((G1.inv.own k hki1 ch).1 h).2.1
     grind
    rw[ep,Z0];simp only[if_pos hki1];rw[A9u hK L1 W1 ⟨f1,by omega⟩ hnew,Z0];simp only[if_pos hki1];obtain⟨P',hone⟩:=Bc9 G1.inv hki1 hf T' (ch:=(A79 (gt w1.fL k) ch).Ad) fun c=>by
     show c∈(gt w1.fL k).Ad++[ch] ↔ _
     grind
    have T2:ThP w1.fC w1.fP.Fp (A79 (gt w1.fL k) ch):=by
     refine⟨?_,T1.apart,?_⟩
     ·rw[Z1];exact fun o ho=>Bjs (fun x hx=>N0.2 (.inl hx)) (Z1.1 T1.inch o ho)
     ·refine Bad rfl rfl ((P1.one ch ⟨f1,by omega⟩).2.2.2 (f4 ch ⟨by omega,by omega⟩)) ?_;rw[Z1];intro o ho;refine A6m fun j h1 h2 h3 h4=> ?_
      have h3:(ch+1 - 1)*w1.fC.Du+0<=j:=h3;have h4:j<(ch+1 - 1)*w1.fC.Du+0+(w1.fC.Du - 0):=h4;rw[Int.add_sub_cancel]at h3 h4;have:=A9v (a:=ch) (s:=w1.fC.Du) (j:=j) (by omega) (by omega) (by omega);have h5:=Bbw (Z1.1 T1.inch o ho) h1 h2
      grind
    obtain⟨G2,hk2,hg2⟩:=A7v G1 hk1 (n':=A79 (gt w1.fL k) ch) (m:=16) P' hone T'.mem rfl (A9t L1 ⟨f1,by omega⟩ hnew) T2 ⟨e1.ep,e1.ue,⟨by show 0<=ch+1;omega,by show ch+1<=_;grind⟩⟩ (by
     have hz:w1.fC.Du.toNat<=16:=by grind
     have hst1:(A79 (gt w1.fL k) ch).G4=1:=L1.st;unfold wtN;rw[if_pos L1.st,if_pos hst1];show 2+(gt w1.fL k).Dh.length+w1.fC.Du.toNat*((gt w1.fL k).Ad++[ch]).length<=_;rw[Z23,List.length_singleton,Nat.mul_succ];omega)
    obtain⟨r,w',h1,h2,h3,h4⟩:=Bda hK hE (n:=n+16) (by omega) G2 hk2 size al hs (F8.mk 0 (Ch.mk 0 0) (Fb.mk (Ch.mk 0 0) 0 0) [] 0 0 0) a4.Aab a4.fH.Be a4.fH.C7 a4.fR.fH.Be a4.fR.fH.C7 a4.fR.Nb a4.fR.fNo a4.fB a4.Aac a4.Ez d;refine⟨r,w',h1,h2,h3.trans hc1,h4.trans ?_⟩;show(w1.fL.set _ _).length=_
    grind [A78.len,Steps.stay]
theorem Bqi{E:Int}{n:Nat}(hE:0<=E/\E<=900000000)(hn:n<=900000000){w:Bo}(G:Ev w E n){k:Int}(hk:AlW w.fL k)(size:Int)(hs:w.fC.Du<size/\size<=200)(hcnt:(gt w.fL k).D5.length<12)(a4:F8):
  ∃r w',A1c K w k size a4=some (r,w')/\Ev w' E (n+192)/\w'.fC=w.fC/\w'.fL.length=w.fL.length:=by
 have WW:=G.ww (by omega) (by omega);have hlen:=G.inv.len;obtain⟨b1,b2,b3,b4,b5,b6⟩:=Bd G.inv.conf;unfold A1c Ao7;rw[A4u,Z0,Z0];obtain⟨fb,ef⟩:=A7s hK WW (by omega) (Ax7 size w.fC.Du);have hrun:Ax7 size w.fC.Du=(size+w.fC.Du - 1) / w.fC.Du:=by
  unfold Ax7;rw[Wy.2 ⟨by omega,by omega⟩,Wy.2 ⟨by omega,by omega⟩];rfl
 have hr2:Ax7 size w.fC.Du<=1000:=by
  have:(size+w.fC.Du - 1) / w.fC.Du<=size+w.fC.Du - 1:=Int.ediv_le_self _ (by omega);omega
 have hr1:1<=Ax7 size w.fC.Du:=by
  rw[hrun];exact(Int.le_ediv_iff_mul_le (by omega)).2 (by omega)
 rw[ef,Z0];cases fb with
 |false=>exact⟨_,_,rfl,Ev.le G (Int.le_refl E) (by omega),rfl,rfl⟩
 |true=>
  simp only[Bool.not_true,cond_false];obtain⟨d,w1,ed,S⟩:=Bh2 hK (by omega:0<=E/\E<=1000000000) (by omega) 0 (run:=Ax7 size w.fC.Du) (by omega) G;have G1:=S.good;obtain⟨hk1,⟨x1,x2,x3,hnode⟩,_⟩:=S.stay.node k hk;obtain⟨hki1,L1,T1,e1⟩:=G1.live hk1;have W1:=A6y (Akn.2 L1).1 e1 (by omega);have WW1:=G1.ww (by omega) (by omega);have P1:=Akj.1 G1.inv.pool;have hst:=P1.st;have how:=P1.own;have hc1:=S.stay.conf;rw[hc1]at hst how;obtain⟨at_,ec,hat⟩:=Bac hK (p:=w1.fP) (n:=Ax7 size w.fC.Du) (by omega) (by omega);rw[ed,Z0];simp only;rw[ec,Z0];by_cases q:at_<0
  ·rw[decide_eq_true q];exact⟨_,_,rfl,Ev.le G1 (Int.le_refl E) (by omega),hc1,S.stay.len⟩
  ·rw[decide_eq_false q];simp only[cond_false];have hf:=hat.resolve_left (by omega);obtain⟨f1,f2,f3,f4⟩:=A15.1 hf;obtain⟨p',ep,T'⟩:=A8u hK WW1.p (by omega) (by omega) (k:=k) hf;have SP:Bh5 w1.fC (gt w1.fL k) at_ (Ax7 size w.fC.Du) size:=by
    refine⟨by grind,by rw[hc1],by grind,fun x hx h=> ?_,by rw[hnode];exact hcnt⟩;have:=((G1.inv.own k hki1 x).1 hx).2.1
    grind
   obtain⟨L2,T2⟩:=Bgi L1 e1.cur T1 SP;rw[ep,Z0];simp only[if_pos hki1];rw[Bgk hK L1 W1 e1.cur T1 SP,Z0]
   try simp only[if_pos hki1]
   obtain⟨P',hone⟩:=Bc9 G1.inv hki1 hf T' (ch:=(A58 w1.fC (gt w1.fL k) at_ (Ax7 size w.fC.Du) size).Ad) fun c=>by
    show c∈(gt w1.fL k).Ad++A9g at_ (Ax7 size w.fC.Du) ↔ _
    simp_all[A9h]
   obtain⟨G2,hk2,hg2⟩:=A7v G1 hk1 (n':=A58 w1.fC (gt w1.fL k) at_ (Ax7 size w.fC.Du) size) (m:=192) P' hone T'.mem rfl L2 T2 ⟨e1.ep,e1.ue,e1.cur⟩ (by
    have hst1:(A58 w1.fC (gt w1.fL k) at_ (Ax7 size w.fC.Du) size).G4=1:=L1.st;unfold wtN;rw[if_pos L1.st,if_pos hst1];show 2+(gt w1.fL k).Dh.length+w1.fC.Du.toNat*((gt w1.fL k).Ad++A9g at_ (Ax7 size w.fC.Du)).length<=_;have hrl:(A9g at_ (Ax7 size w.fC.Du)).length<=12:=by grind [A9g]
    have:=Nat.mul_le_mul (show w1.fC.Du.toNat<=16 by grind) hrl;rw[Z23,Nat.mul_add];omega)
   refine⟨_,_,rfl,G2,hc1,?_⟩;show(w1.fL.set _ _).length=_
   grind [A78.len,Steps.stay]
theorem Bdb{E:Int}{n:Nat}(hE:0<=E/\E<=900000000)(hn:n<=900000000){w:Bo}(G:Ev w E n){k:Int}(hk:0<=k/\k<(w.fL.length:Int))(h:Ch)(c a b d e f g:Int)(l:List Int)(x y z:Int):
  ∃r w',Awn K h k w.fC.Ad w.fC.Du w.fC.Cd w.fC.Ez w.fC.Ce w.fC.Dv w.fP.Fp w.fP.G4 w.fP.Fq w.fL w.fQ w.Jp c a b d e f g l x y z=some (r,w')/\Ev w' E n/\w'.fC=w.fC:=by
 unfold Awn;rw[show Bo.mk (Fi.mk w.fC.Ad w.fC.Du w.fC.Cd w.fC.Ez w.fC.Ce w.fC.Dv) (Ef.mk w.fP.Fp w.fP.G4 w.fP.Fq) w.fL w.fQ w.Jp=w from rfl];cases c != 0 with
 |true=>grind
 |false=>
  simp only[cond_false];obtain⟨t,w2,es,S2⟩:=Ba0 hK (E:=E) (n:=n) (by omega) (by omega) w.fC.Ez G;simp only[if_pos hk,es,Z0];exact⟨_,_,rfl,S2.good,S2.stay.conf⟩
theorem A9w{E:Int}{n:Nat}(hE:0<=E/\E<=900000000)(hn:n<=800000000){w:Bo}(G:Ev w E n)(h:Ch){size al:Int}(hs:1<=size/\size<=200){k:Int}(a b:F8)(hk:a.Aab=0->AlW w.fL k/\(gt w.fL k).D5.length<12):
  ∃r w',Auy K h size al k w.fC.Ad w.fC.Du w.fC.Cd w.fC.Ez w.fC.Ce w.fC.Dv w.fP.Fp w.fP.G4 w.fP.Fq w.fL w.fQ w.Jp a b=some (r,w')/\Ev w' E (n+192)/\w'.fC=w.fC:=by
 unfold Auy Asj;rw[show Bo.mk (Fi.mk w.fC.Ad w.fC.Du w.fC.Cd w.fC.Ez w.fC.Ce w.fC.Dv) (Ef.mk w.fP.Fp w.fP.G4 w.fP.Fq) w.fL w.fQ w.Jp=w from rfl,show Fi.mk w.fC.Ad w.fC.Du w.fC.Cd w.fC.Ez w.fC.Ce w.fC.Dv=w.fC from rfl];by_cases h0:a.Aab=0
 ·obtain⟨hk,hcnt⟩:=hk h0;have hki:=(G.live hk).1;rw[h0];simp only[bne_self_eq_false,cond_false,Z0];by_cases q:size>w.fC.Du
  ·rw[decide_eq_true q];simp only[cond_true];obtain⟨r,w',h1,h2,h3,h4⟩:=Bqi hK hE (by omega) G hk size ⟨q,hs.2⟩ hcnt a;rw[h1,Z0];obtain⟨r2,w2,k1,k2,k3⟩:=Bdb hK hE (n:=n+192) (by omega) h2 (k:=k) (by omega) h r.Aab r.fH.Be r.fH.C7 r.fR.fH.Be r.fR.fH.C7 r.fR.Nb r.fR.fNo r.fB r.Aac r.Ez r.R2
   grind
  ·rw[decide_eq_false q];simp only[cond_false];obtain⟨r,w',h1,h2,h3,h4⟩:=Bqh hK hE (by omega) G hk size al (by omega) a;rw[h1,Z0];obtain⟨r2,w2,k1,k2,k3⟩:=Bdb hK hE (n:=n+16) (by omega) h2 (k:=k) (by omega) h r.Aab r.fH.Be r.fH.C7 r.fR.fH.Be r.fR.fH.C7 r.fR.Nb r.fR.fNo r.fB r.Aac r.Ez r.R2;exact⟨r2,w2,k1,Ev.le k2 (Int.le_refl E) (by omega),k3.trans h3⟩
 ·rw[A20 h0];exact⟨_,_,rfl,Ev.le G (Int.le_refl E) (by omega),rfl⟩
theorem Bgl{E:Int}{n:Nat}(hE:0<=E/\E<=900000000)(hn:n<=800000000){w:Bo}(G:Ev w E n)(h:Ch)(size al:Int): ∃r w',A1e K w h size al=some (r,w')/\Ev w' E (n+192)/\w'.fC=w.fC:=by
 have W:=G.ww (by omega) (by omega);have G0:=Ev.le G (Int.le_refl E) (by omega:n<=n+192);unfold A1e;rw[Aml,Z0];by_cases q:1<=size/\size<=200
 ·rw[Wy.2 q,A60];simp only[cond_true,Z0];cases A8v al with
  |false=>exact⟨_,_,rfl,G0,rfl⟩
  |true=>
   simp only[Bool.not_true,cond_false];rw[Ay3 hK W.l,Z0,A3i hK w W.l,Z0];by_cases h0:(Ayv w.fL h).2=0
   ·have hal:=A76 G.inv h0;have hki:=(G.live hal).1;rw[h0];simp only[beq_self_eq_true,cond_true];simp only[if_pos hki];by_cases q2:((gt w.fL (Ayv w.fL h).1).D5.length:Int)>=12
    ·rw[decide_eq_true q2];exact A9w hK hE hn G h q (al:=al) (k:=(Ayv w.fL h).1) (F8.mk 8 (Ch.mk 0 0) (Fb.mk (Ch.mk 0 0) 0 0) [] (Bf0 w h) 0 0) (F8.mk 0 (Ch.mk 0 0) (Fb.mk (Ch.mk 0 0) 0 0) [] 0 0 0) (fun f=>absurd (show(8:Int)=0 from f) (by decide))
    ·rw[decide_eq_false q2];exact A9w hK hE hn G h q (al:=al) (k:=(Ayv w.fL h).1) (F8.mk 0 (Ch.mk 0 0) (Fb.mk (Ch.mk 0 0) 0 0) [] (Bf0 w h) 0 0) (F8.mk 0 (Ch.mk 0 0) (Fb.mk (Ch.mk 0 0) 0 0) [] 0 0 0) (fun f=>⟨hal,by omega⟩)
   ·rw[At6 h0];exact A9w hK hE hn G h q (al:=al) (k:=(Ayv w.fL h).1) (F8.mk (Ayv w.fL h).2 (Ch.mk 0 0) (Fb.mk (Ch.mk 0 0) 0 0) [] (Bf0 w h) 0 0) (F8.mk 0 (Ch.mk 0 0) (Fb.mk (Ch.mk 0 0) 0 0) [] 0 0 0) (fun f=>absurd f h0)
 ·rw[Bao.2 q]
  grind
end
def F0 (mem:List Int)(p:Int)(s:List Int):List Int:=mem.take p.toNat++s++mem.drop (p.toNat+s.length)
def Ba1 (mem:List Int)(t:Bn)(off:Int)(s:List Int):Bool:=decide ((0<=off/\(0:Int)<=(s.length:Int)/\off+(s.length:Int)<=t.Yg)/\0<=A1 t.fAt off/\A1 t.fAt off+(s.length:Int)<=(mem.length:Int))
def Bh7 (mem:List Int)(t:Bn)(off:Int)(s:List Int):List Int×Bool:=bif Ba1 mem t off s then(F0 mem (A1 t.fAt off) s,true)else(mem,false)
theorem Gi{mem:List Int}{p:Int}{s:List Int}(h0:0<=p)(h1:p+(s.length:Int)<=(mem.length:Int)):(F0 mem p s).length=mem.length:=by
 grind [F0]
theorem Bqj{mem s:List Int}{p j:Nat}(hj:j<s.length)(hp:p+s.length<=mem.length):(mem.take p++s.take j++mem.drop (p+j)).set (p+j) s[j]=mem.take p++s.take (j+1)++mem.drop (p+(j+1)):=by
 have hl:(mem.take p++s.take j).length=p+j:=by grind
 rw[List.set_append_right _ _ (by omega),hl,Nat.sub_self,Z47 (by omega:p+j<mem.length),List.set_cons_zero,<-List.take_append_getElem hj]
 grind
section
variable {K:Nat} (hK:281474976710656<=K)
include hK
theorem Bh8{mem s:List Int}(hm:mem.length<=140737488355327)(p:Int)(hs:s.length<=140737488355327):A4l K mem p s=some (bif decide (0<=p/\(0:Int)<=(s.length:Int)/\p+(s.length:Int)<=(mem.length:Int))then(F0 mem p s,true)else(mem,false)):=by
 have hx:=V1;unfold A4l;simp only[Z38];rw[if_pos ⟨by omega,by omega⟩,Bfz K hm,Z0,Aht];by_cases h:0<=p/\(0:Int)<=(s.length:Int)/\p+(s.length:Int)<=(mem.length:Int)
 ·rw[decide_eq_true h,cond_true,cond_true];obtain⟨q,rfl⟩: ∃q:Nat,p=q:=⟨p.toNat,by omega⟩;have:=Bas hK s (by omega) (fun _=>true) (some (F0 mem (q:Int) s,true)) none (fun n j=>Aur K (q:Int) s n (mem.take q++s.take j++mem.drop (q+j)) (j:Int)) (fun n j hj=> ?_) (fun n=> ?_)
  ·rw[Z1.2 (fun _ _=>rfl)]at this;simp_all
  ·have hl:(mem.take q++s.take j++mem.drop (q+j)).length=mem.length:=by grind
   have e:A1 (q:Int) (j:Int)=((q+j:Nat):Int):=by grind [A1,Lc,Ht]
   show Aur K (q:Int) s (n+1) _ _=_;rw[Aur,Afb hj,cond_true,if_pos (Ald hj),e,hl,if_pos ⟨by omega,by omega⟩,Ad9 (by omega),Wx hj,Int.toNat_natCast,Bqj hj (by omega)];rfl
  ·show Aur K (q:Int) s (n+1) _ _=_;simp_all[Aur,F0]
 grind
theorem Bak{mem s:List Int}(hm:mem.length<=140737488355327)(hs:s.length<=140737488355327){t:Bn}(wt:ThingW t)(off:Int):Ay8 K mem t off s=some (Bh7 mem t off s):=by
 have hx:=V1;obtain⟨wl1,wl2⟩:=wt.2.1;unfold Ay8 A2m Bh7 Ba1;simp only[Z38];rw[if_pos ⟨by omega,by omega⟩,Bh8 hK hm _ hs];simp only[Z0];rw[decide_eq_true (show(s.length:Int)>=0 by omega)];by_cases h1:(0:Int)<=off
 ·rw[decide_eq_true (show off>=0 from h1)];by_cases h3:off<=t.Yg
  ·rw[decide_eq_true h3];have e:Ap t.Yg off=t.Yg - off:=by grind [Ap,Asu,Ht]
   grind
  grind
 grind
end
def B10 (n:Az)(v:Int):Az:=Az.mk n.G4 n.C7 n.Nb n.fUp n.G5 n.Bz n.G6 n.G7 n.Ad n.No n.G8 n.D5 (n.Dh++([v]:List Int))
theorem Btc (K:Nat)(r:Fb): ∃b,A4j K r=some b:=by
 unfold A4j;rw[A8c];simp only[Z0];cases A46 r.fH<;>cases decide (r.Nb>=0)<;>exact⟨_,rfl⟩
theorem Blw (K:Nat){n:Az}(hn:At7 n)(r:Fb): ∃t b,A2l K n r=some (t,b)/\(b=true->t∈n.D5):=by
 have h2:=hn.things;have hl:n.D5.length<=140737488355327:=by have:=h2.2;omega
 unfold A2l;rw[A6b K hl];simp only[Z0];by_cases hs:0<=r.fNo/\r.fNo<(n.D5.length:Int)
 ·rw[decide_eq_true hs,if_pos hs];have hm:gt n.D5 r.fNo∈n.D5:=Akl hs.1 hs.2;cases n.G4 != 1<;>cases n.Nb != r.Nb<;>first|simp_all|grind
 ·rw[decide_eq_false hs];simp_all
theorem Baf{K:Nat}(hK:281474976710656<=K){w:Bo}(I:Inv w)(hw:Aeh w.fL)(r:Fb): ∃k t c,Axo K w r=some (k,t,c)/\(c=0->AlW w.fL k/\t∈(gt w.fL k).D5):=by
 unfold Axo;obtain⟨b,h1⟩:=Btc K r;rw[h1,Ay3 hK hw];simp only[Z0];cases b with
 |false=>exact⟨_,_,_,rfl,fun h=>by cases h⟩
 |true=>
  simp only[Bool.not_true,cond_false];by_cases h0:(Ayv w.fL r.fH).2=0
  ·have hi:=Bpb h0;have hal:=A76 I h0;rw[if_pos hi,h0];obtain⟨q,b,h3,h4⟩:=Blw K (hw.1 _ (Akl hi.1 hi.2)) r;rw[h3];simp only[Z0,bne_self_eq_false,cond_false];cases b with
   |false=>exact⟨_,_,_,rfl,fun h=>by cases h⟩
   |true=>exact⟨_,_,_,rfl,fun _=>⟨hal,h4 rfl⟩⟩
  ·rw[A20 h0]
   grind
theorem Btd{mem:List Int}{p:Int}{s:List Int}(h0:0<=p)(h1:p+(s.length:Int)<=(mem.length:Int)){j:Nat}(hj:j<mem.length)(h: ¬(p<=(j:Int)/\(j:Int)<p+(s.length:Int))):gt (F0 mem p s) (j:Int)=gt mem (j:Int):=by
 have hl:=Gi h0 h1;rw[Wx (by omega),Wx hj];unfold F0;by_cases q:(j:Int)<p
 ·grind
 ·rw[List.getElem_append_right (by grind),List.getElem_drop]
  grind
theorem Bqk{mem:List Int}{p:Int}{s:List Int}(hm: ∀x∈mem,0<=x/\x<=255)(hs: ∀x∈s,0<=x/\x<=255): ∀x∈F0 mem p s,0<=x/\x<=255:=by
 intro x hx;unfold F0 at hx;rcases N0.1 hx with h|h
 ·rcases N0.1 h with h|h
  ·exact hm x (Z42 h)
  ·exact hs x h
 ·exact hm x (List.mem_of_mem_drop h)
theorem Bql{w:Bo}{E:Int}{n:Nat}(G:Ev w E n){k:Int}(hk:AlW w.fL k){t:Bn}(ht:t∈(gt w.fL k).D5){mem':List Int}(hl:mem'.length=w.fP.Fp.length)
  (hb: ∀x∈mem',0<=x/\x<=255) (hs: ∀j:Nat,j<w.fP.Fp.length-> ¬(t.fAt<=(j:Int)/\(j:Int)<t.fAt+t.Yg)->gt mem' (j:Int)=gt w.fP.Fp (j:Int)):
  Ev (Bo.mk w.fC (Ef.mk mem' w.fP.G4 w.fP.Fq) w.fL w.fQ w.Jp) E n:=by
 have I:=G.inv;have P:=Akj.1 I.pool;obtain⟨hki,L,T,e⟩:=G.live hk;obtain⟨b1,b2,b3,b4,b5,b6⟩:=Bd I.conf;have hin: ∀j,t.fAt<=j->j<t.fAt+t.Yg->j / w.fC.Du∈(gt w.fL k).Ad:=fun j h1 h2=>Bbw (Z1.1 T.inch t ht) h1 h2
 have hz: ∀a m:Nat,Ary ((w.fP.Fp.drop a).take m)=true->(∀j:Nat,a<=j->j<a+m-> ¬(t.fAt<=(j:Int)/\(j:Int)<t.fAt+t.Yg))->Ary ((mem'.drop a).take m)=true:=by
  grind [A5b]
 have hch: ∀c,0<=c/\c<w.fC.Ad->gt w.fP.G4 c≠1-> ∀j:Nat,(c*w.fC.Du).toNat<=j->j<(c*w.fC.Du).toNat+w.fC.Du.toNat-> ¬(t.fAt<=(j:Int)/\(j:Int)<t.fAt+t.Yg):=by
  intro c hc hst j h1 h2 h3;have h0:0<=c*w.fC.Du:=Int.mul_nonneg hc.1 (by omega);have h4:=hin j h3.1 h3.2;rw[A9v (a:=c) (by omega) (by omega) (by omega)]at h4;exact hst ((I.own k hki c).1 h4).2.1
 refine⟨Bem I (Ef.mk mem' w.fP.G4 w.fP.Fq) w.fQ w.Jp ⟨P.conf,by rw[<-P.mem];grind,P.st,P.own,fun c hc=> ?_⟩ (fun c hc=>⟨Iff.rfl,rfl⟩) (fun x hx=> ?_) rfl rfl (fun x hx=> ?_) I.chn I.chi I.log,hb,G.ep,G.wt,G.cn⟩
 ·obtain⟨p1,p2,p3,p4⟩:=P.one c hc;refine⟨p1,p2,p3,fun h=>hz _ _ (p4 h) fun j h1 h2=>hch c hc ?_ j h1 h2⟩
  grind
 ·have h3:=(I.thing x hx).2.2;by_cases hs1:(gt w.fL x).G4=1
  ·have Lx:=Akn.1 ⟨I.node x hx,hs1⟩;have ex:=G.ep x hx;by_cases hcur:(gt w.fL x).No=0
   ·grind [Av6]
   ·obtain⟨m1,m2,m3⟩:=A9f Lx ex.cur hcur;have hm:=A1w Lx.dist _ m1;have h0:0<=((gt w.fL x).No - 1)*w.fC.Du:=Int.mul_nonneg hm.1 (by omega);unfold Av6 at h3 ⊢;rw[At6 hcur,Z52,Z4]at h3 ⊢;refine⟨hz _ _ h3.1 fun j h1 h2 h4=> ?_,h3.2⟩;have h1:(((gt w.fL x).No - 1)*w.fC.Du+(gt w.fL x).G8).toNat<=j:=h1;have h2:j<(((gt w.fL x).No - 1)*w.fC.Du+(gt w.fL x).G8).toNat+(w.fC.Du - (gt w.fL x).G8).toNat:=h2;have h5:=hin j h4.1 h4.2;rw[A9v (a:=(gt w.fL x).No - 1) (by omega) (by omega) (by omega)]at h5;have e1:=((I.own k hki _).1 h5).2.2;have e2:=((I.own x hx _).1 m1).2.2;have exk:x=k:=by omega
    rw[exk]at h3 h1 h2;refine Bgg (Z1.1 h3.2 t ht) h4.1 h4.2 (b:=Aze w.fC (gt w.fL k)) ?_ ?_
    ·grind
    ·show(j:Int)<((gt w.fL k).No - 1)*w.fC.Du+(gt w.fL k).G8+(w.fC.Du - (gt w.fL k).G8)
     grind
  ·rw[A27 (I.node x hx) hs1];rfl
 ·obtain⟨a,b⟩:=I.wrec x hx;refine⟨a,?_⟩;have R:=A28.1 a;by_cases hc:0<x.Ad.length
  ·have hm:gt x.Ad 0∈x.Ad:=Aty (i:=0) hc;have h1:=(I.chi _).1 (Beh hx hm);unfold Arz at b ⊢;rw[Bool.or_eq_true]at b ⊢;rcases b with b|b
   ·grind
   ·refine .inr (hz _ _ b fun j h2 h3=>hch _ h1.1 (by omega) j h2 ?_);have hd:=R.done
    grind
  grind [Arz]
section
variable {K:Nat} (hK:281474976710656<=K)
include hK
theorem Bte{E:Int}{n:Nat}(hE:0<=E/\E<=900000000)(hn:n<=800000000){w:Bo}(G:Ev w E n)(r:Fb)(off m:Int): ∃a,A5j K w r off m=some (w,a):=by
 have W:=G.ww (by omega) (by omega);have P:=A6k (Akj.1 G.inv.pool);obtain⟨k,t,c,e,h⟩:=Baf hK G.inv W.l r;unfold A5j;rw[Aye hK W,A0i hK w W,G.inv.ok,e,A3i hK w W.l];simp only[Z0,Bool.not_true,cond_false];by_cases h0:c=0
 ·obtain⟨hk,ht⟩:=h h0;have hT:=Bel (Z1.1 (G.live hk).2.1.things t ht);rw[h0];simp only[bne_self_eq_false,cond_false];rw[Bbe K (by omega) hT,Z0];cases (Bpf w.fP.Fp t off m).2<;>exact⟨_,rfl⟩
 simp_all[A20]
theorem Bqm{E:Int}{n:Nat}(hE:0<=E/\E<=900000000)(hn:n<=800000000){w:Bo}(G:Ev w E n)(r:Fb)(off:Int){s:List Int}(hs: ∀x∈s,0<=x/\x<=255)(hl:s.length<=1000000): ∃a w',A4m K w r off s=some (w',a)/\Ev w' E n/\w'.fC=w.fC:=by
 have W:=G.ww (by omega) (by omega);have P:=A6k (Akj.1 G.inv.pool);obtain⟨k,t,c,e,h⟩:=Baf hK G.inv W.l r;unfold A4m;rw[Aye hK W,A0i hK w W,G.inv.ok,e,A3i hK w W.l];simp only[Z0,Bool.not_true,cond_false];by_cases h0:c=0
 ·obtain⟨hk,ht⟩:=h h0;have htb:=Z1.1 (G.live hk).2.1.things t ht;have hT:=Bel htb;obtain⟨s1,s2,s3,s4⟩:=(A6a htb).1;rw[h0];simp only[bne_self_eq_false,cond_false];rw[Bak hK (by omega) (by omega) hT,Z0];unfold Bh7;cases ho:Ba1 w.fP.Fp t off s with
  |false=>exact⟨_,_,rfl,G,rfl⟩
  |true=>
   unfold Ba1 at ho;rw[decide_eq_true_iff]at ho;have ea:A1 t.fAt off=t.fAt+off:=by grind [A1,Lc,Ht]
   rw[ea]at ho ⊢;refine⟨_,_,rfl,Bql G hk ht (Gi (by omega) (by omega)) (Bqk G.mem hs) (fun j hj hne=>Btd (by omega) (by omega) hj (by omega)),rfl⟩
 ·rw[A20 h0];grind
theorem Bqn{E:Int}{n:Nat}(hE:0<=E/\E<=900000000)(hn:n<=800000000){w:Bo}(G:Ev w E n)(h:Ch)(v:Int): ∃a w',A6o K w h v=some (w',a)/\Ev w' E (n+1)/\w'.fC=w.fC:=by
 have hm:=V1;have W:=G.ww (by omega) (by omega);have G0:=Ev.le G (Int.le_refl E) (by omega:n<=n+1);unfold A6o A2n A4n;rw[Aye hK W,A0i hK w W,G.inv.ok,Aml,Ay3 hK W.l,A3i hK w W.l];simp only[Z0,cond_true];by_cases hv:0<=v/\v<=255
 ·rw[Wy.2 hv];simp only[Bool.not_true,cond_false];by_cases h0:(Ayv w.fL h).2=0
  ·have hal:=A76 G.inv h0;obtain⟨hki,L,T,e⟩:=G.live hal;rw[h0];simp only[beq_self_eq_true,cond_true,if_pos hki];by_cases q:((gt w.fL (Ayv w.fL h).1).Dh.length:Int)>=6
   ·rw[decide_eq_true q];grind
   ·rw[decide_eq_false q];simp only[cond_false];rw[if_pos ⟨by grind,by grind⟩];refine⟨_,_,rfl,?_,rfl⟩;have P:=Akj.1 G.inv.pool;refine(A7v G hal (n':=B10 (gt w.fL (Ayv w.fL h).1) v) (m:=1) P (Bby G.inv hki rfl) rfl rfl ⟨L.conf,L.st,L.gen,L.up,L.first,L.next,L.prev,L.ep,L.ue,L.dist,L.cur,L.nth,?_,?_,L.things⟩ ⟨T.inch,T.apart,T.loose⟩ ⟨e.ep,e.ue,e.cur⟩ ?_).1
    ·show(_++[v]).length<=6
     grind
    ·show(_++[v]).all _=true;rw[List.all_append,L.tags,Gv,Wy.2 hv];rfl
    ·have hst1:(B10 (gt w.fL (Ayv w.fL h).1) v).G4=1:=L.st;unfold wtN;rw[if_pos L.st,if_pos hst1];show 2+(_++[v]).length+w.fC.Du.toNat*(gt w.fL (Ayv w.fL h).1).Ad.length<=_
     grind
  ·rw[At6 h0]
   grind
 ·rw[Bao.2 hv];exact⟨_,_,rfl,G0,rfl⟩
theorem Bqo{E:Int}{n:Nat}(hE:0<=E/\E<=900000000)(hn:n<=800000000){w:Bo}(G:Ev w E n)(h:Ch): ∃a,A4o K w h=some (w,a):=by
 have W:=G.ww (by omega) (by omega);unfold A4o A2o;rw[Aye hK W,A0i hK w W,G.inv.ok,Ay3 hK W.l,A3i hK w W.l];simp only[Z0,Bool.not_true,cond_false];by_cases h0:(Ayv w.fL h).2=0
 ·have hal:=A76 G.inv h0;obtain⟨hki,L,T,e⟩:=G.live hal;have hn:=W.l.1 _ (Akl hki.1 hki.2);rw[h0];simp only[beq_self_eq_true,cond_true,if_pos hki];unfold A4z;rw[Azv hK _ _ (A3e hK hn.chunks) (Bja hK hn.things) (A3e hK hn.tags)];simp only[Z0];cases (gt w.fL (Ayv w.fL h).1).No==0<;>cases Ava w.fC (gt w.fL (Ayv w.fL h).1)<;>exact⟨_,rfl⟩
 simp_all[At6]
end
def A3j (a:List Int):Prop:= ∀x∈a,0<=x/\x<=255
theorem Bh9{a b:List Int}(h:A3j a)(g:A3j b):A3j (a++b):=by
 intro x hx;rcases N0.1 hx with h1|h1
 ·exact h x h1
 ·exact g x h1
def Ahs (c:E2):Prop:=A3j c.fb/\c.fb.length<=1048576/\0<=c.fi/\c.fi<=(c.fb.length:Int)
theorem Bjt (x:Int):0<=Asv .i64 x 255/\Asv .i64 x 255<=255:=by
 grind [Asv,BitVec.ofInt,IntKind.bits,Nat.and_le_right,Ht]
theorem Bia (K:Nat){a:List Int}(hb:A3j a)(ha:a.length<=1048576): ∀(n i:Nat) (v:Int),i<=a.length->a.length - i<n-> ∃c,Azf K a n v (i:Int)=some c/\Ahs c:=by
 intro n;induction n with
 |zero=>omega
 |succ n ih=>
  intro i v hi hn;rw[Azf];have done: ∀v,Ahs (E2.mk a 0 v):=fun v=>⟨hb,ha,by grind,by grind⟩
  rcases Hi i a.length with h|h
  ·rw[Afb h];simp only[cond_true];cases decide ((i:Int)<4000)with
   |false=>grind
   |true=>
    simp only[cond_true];rw[if_pos ⟨by omega,by omega⟩,Ad9 (i:=i) (by omega)];exact ih (i+1) _ h (by omega)
  ·rw[Ayt h];grind
theorem Bgm{K:Nat}(hK:281474976710656<=K){a:List Int}(hb:A3j a)(ha:a.length<=1048576): ∃c,A18 K a=some c/\Ahs c:=by
 unfold A18;exact Bia K hb ha K 0 _ (Z21 _) (by omega)
theorem A77 (K:Nat){c:E2}(hc:Ahs c): ∃r,Avi K c=some r/\(0<=r.1/\r.1<=255)/\Ahs r.2:=by
 obtain⟨h1,h2,h3,h4⟩:=hc;unfold Avi A05;rw[if_pos (by decide),if_pos (by decide)];by_cases h:c.fi<(c.fb.length:Int)
 ·rw[decide_eq_true h];simp only[cond_true];rw[if_pos ⟨h3,h⟩];have e:A1 c.fi 1=c.fi+1:=by grind [A1,Lc,Ht]
  exact⟨_,rfl,Bjt _,h1,h2,by grind,by grind⟩
 ·rw[decide_eq_false h];exact⟨_,rfl,Bjt _,h1,h2,h3,h4⟩
theorem Ahv (K:Nat){c:E2}(hc:Ahs c){n:Int}(hn:0<n): ∃r,A4 K c n=some r/\(0<=r.1/\r.1<n)/\Ahs r.2:=by
 unfold A4;rw[decide_eq_false (show ¬n<=0 by omega)];simp only[cond_false];obtain⟨r1,e1,b1,w1⟩:=A77 K hc;by_cases h:n<=256
 ·rw[decide_eq_true h,e1];simp only[cond_true,Z0];rw[if_pos (by omega)];simp_all[Int.tmod_nonneg,Int.tmod_lt_of_pos]
 ·rw[decide_eq_false h,e1];simp only[cond_false,Z0];obtain⟨r2,e2,b2,w2⟩:=A77 K w1;rw[e2];simp only[Z0];obtain⟨r3,e3,b3,w3⟩:=A77 K w2;rw[e3];simp only[Z0];rw[if_pos (by omega)];refine⟨_,rfl,⟨Int.tmod_nonneg _ ?_,Int.tmod_lt_of_pos _ hn⟩,w3⟩;unfold A1 Lc K1 Ew;rw[Ht (n:=r1.1*65536) (by omega) (by omega),Ht (n:=r2.1*256) (by omega) (by omega),Ht (n:=r1.1*65536+r2.1*256) (by omega) (by omega),Ht (by omega) (by omega)];omega
theorem A16 (K:Nat){c:E2}(hc:Ahs c){n:Int}(hn:0<n): ∃r,Ap4 K c n=some r/\Ahs r.2:=by
 obtain⟨r,e,_,w⟩:=Ahv K hc hn;simp_all[Ap4]
theorem A29 (K:Nat){c:E2}(hc:Ahs c){l:List Int}(hl:0<l.length): ∃x c',P2 K c l=some (x,c',l)/\x∈l/\Ahs c':=by
 obtain⟨r,e,b,w⟩:=Ahv K hc (n:=(l.length:Int)) (by omega);unfold P2;rw[e];simp only[Z0];rw[if_pos b];exact⟨_,_,rfl,Akl b.1 b.2,w⟩
theorem Bag (K:Nat){c:E2}(hc:Ahs c)(n:Int): ∃r,A4 K c n=some r/\Ahs r.2:=by
 by_cases h:0<n
 ·obtain⟨r,e,_,w⟩:=Ahv K hc h
  grind
 ·unfold A4;simp_all
theorem B11 (x:Int):0<=IntKind.u8.wrap x/\IntKind.u8.wrap x<=255:=by rw[IntKind.wrap_u8];omega
theorem Bbz{K:Nat}(hK:281474976710656<=K){c:E2}(hc:Ahs c){n:Int}(h1:n<=1000): ∃b c',A2c K c n=some (b,c')/\A3j b/\b.length<=1000/\Ahs c':=by
 have hm:=V1;have key: ∀(f i:Nat) (l:List Int) (c:E2),Ahs c->A3j l->l.length=i->(i:Int)<=1000->(1000 - i)<f-> ∃b c',Axa K n f l (i:Int) c.fb c.fi c.fh=some (b,c')/\A3j b/\b.length<=1000/\Ahs c':=by
  intro f;induction f with
  |zero=>omega
  |succ f ih=>
   intro i l c hc hl hi h2 hf;rw[Axa];by_cases q:(i:Int)<n
   ·obtain⟨r,e,_,w⟩:=A77 K hc;rw[decide_eq_true q,cond_true,show E2.mk c.fb c.fi c.fh=c from rfl,e,Z0,if_pos ⟨by grind,by grind⟩,Ad9 (by omega)];exact ih (i+1) _ r.2 w (Bh9 hl fun x hx=>by simp_all[B11]) (by simp[hi]) (by omega) (by omega)
   ·rw[decide_eq_false q]
    grind
 exact key K 0 [] c hc (fun x hx=>by cases hx) rfl (by omega) (by omega)
def Ame (o:Di):Prop:=A3j o.fB/\o.fB.length<=1000
theorem Auv (k:Int)(h:Ch)(r:Fb)(n m:Int):Ame (Di.mk k h r n m []):=⟨(fun x hx=>by cases hx),Z21 _⟩
theorem Bgn (K:Nat){c:E2}(hc:Ahs c): ∃h c',A07 K c=some (h,c')/\Ahs c':=by
 unfold A07;obtain⟨r,e,_,w⟩:=Ahv K hc (n:=5) (by omega);obtain⟨q,e2,_,w2⟩:=Ahv K w (n:=3) (by omega);rw[e,Z0,e2];exact⟨_,_,rfl,w2⟩
theorem Bb0{K:Nat}(hK:281474976710656<=K){c:E2}(hc:Ahs c)(k:Int)(b:Bool)(r:Fb)(h:Ch){o:Di}(ho:Ame o)(p:Di): ∃o' c',Avp K k b c.fb c.fi c.fh r h o p=some (o',c')/\Ame o'/\Ahs c':=by
 unfold Avp;have e0:E2.mk c.fb c.fi c.fh=c:=rfl;rw[e0];cases b with
 |true=>exact⟨_,_,rfl,⟨ho.1,ho.2⟩,hc⟩
 |false=>
  simp only[cond_false];cases k==2 with
  |true=>
   simp only[cond_true];obtain⟨x,c1,e1,_,w1⟩:=A29 K hc (l:=[1,2,3,5,8,9,17,20,0,201]) (by simp);obtain⟨y,c2,e2,_,w2⟩:=A29 K w1 (l:=[1,1,2,4,3]) (by simp);rw[e1,Z0,if_pos rfl,e2,Z0,if_pos rfl];exact⟨_,_,rfl,⟨ho.1,ho.2⟩,w2⟩
  |false=>
   simp only[cond_false];cases k==3 with
   |true=>
    simp only[cond_true];obtain⟨x,e1,_,w1⟩:=Ahv K hc (n:=4) (by omega);obtain⟨y,e2,_,w2⟩:=Ahv K w1 (n:=5) (by omega);rw[e1,Z0,e2,Z0];exact⟨_,_,rfl,⟨ho.1,ho.2⟩,w2⟩
   |false=>
    simp only[cond_false];cases k==4 with
    |true=>
     simp only[cond_true];obtain⟨x,e1,_,w1⟩:=Ahv K hc (n:=4) (by omega);obtain⟨y,e2,b2,w2⟩:=Ahv K w1 (n:=4) (by omega);obtain⟨z,c3,e3,b3,l3,w3⟩:=Bbz hK w2 (n:=y.1) (by omega);rw[e1,Z0,e2,Z0,e3,Z0];exact⟨_,_,rfl,⟨b3,l3⟩,w3⟩
    |false=>
     simp only[cond_false];cases k==5 with
     |true=>
      simp only[cond_true];obtain⟨x,c1,e1,_,w1⟩:=A29 K hc (l:=[1,7,255,256]) (by simp);rw[e1,Z0,if_pos rfl];exact⟨_,_,rfl,⟨ho.1,ho.2⟩,w1⟩
     |false=>exact⟨_,_,rfl,ho,hc⟩
theorem Bb1{K:Nat}(hK:281474976710656<=K){c:E2}(hc:Ahs c): ∃o c',Azg K c=some (o,c')/\Ame o/\Ahs c':=by
 unfold Azg;obtain⟨r1,e1,_,w1⟩:=Ahv K hc (n:=9) (by omega);obtain⟨h2,c2,e2,w2⟩:=Bgn K w1;obtain⟨r3,e3,_,w3⟩:=Ahv K w2 (n:=2) (by omega);obtain⟨r4,e4,_,w4⟩:=Ahv K w3 (n:=3) (by omega);rw[e1,Z0,e2,Z0,e3,Z0,e4,Z0];cases A1 1 r1.1==1 with
 |true=>
  simp only[cond_true];obtain⟨r5,e5,w5⟩:=A16 K w4 (n:=2) (by omega);rw[e5,Z0];cases r5.1 with
  |true=>exact⟨_,_,rfl,Auv _ _ _ _ _,w5⟩
  |false=>exact⟨_,_,rfl,Auv _ _ _ _ _,w5⟩
 |false=>
  simp only[cond_false];cases A1 1 r1.1==6 with
  |true=>simp_all[Bb0,Auv]
  |false=>
   simp only[cond_false];cases A1 1 r1.1==7 with
   |true=>simp_all[Bb0,Auv]
   |false=>simp_all[Bb0,Auv]
theorem Bdc (K:Nat){c:E2}(hc:Ahs c): ∃x c',A0o K c=some (x,c')/\Aki x=true/\Ahs c':=by
 unfold A0o;obtain⟨r1,e1,b1,w1⟩:=Ahv K hc (n:=11) (by omega);obtain⟨x2,c2,e2,m2,w2⟩:=A29 K w1 (l:=[8,8,9,12,16]) (by simp);obtain⟨r3,e3,b3,w3⟩:=Ahv K w2 (n:=7) (by omega);obtain⟨r4,e4,b4,w4⟩:=Ahv K w3 (n:=6) (by omega);obtain⟨x5,c5,e5,m5,w5⟩:=A29 K w4 (l:=[1,3,4,8,16]) (by simp);obtain⟨r6,e6,b6,w6⟩:=Ahv K w5 (n:=4) (by omega);rw[e1,Z0,e2,Z0,if_pos rfl,e3,Z0,e4,Z0,e5,Z0,if_pos rfl,e6];refine⟨_,_,rfl,?_,w6⟩;have a1:A1 2 r1.1=2+r1.1:=by grind [A1,Lc,Ht]
 have a3:A1 2 r3.1=2+r3.1:=by grind [A1,Lc,Ht]
 have a4:A1 1 r4.1=1+r4.1:=by grind [A1,Lc,Ht]
 have a6:A1 1 r6.1=1+r6.1:=by grind [A1,Lc,Ht]
 rw[a1,a3,a4,a6];have m2:x2=8\/x2=8\/x2=9\/x2=12\/x2=16:=by grind
 have m5:x5=1\/x5=3\/x5=4\/x5=8\/x5=16:=by grind
 unfold Aki;simp only[Z4,Wy];omega
theorem Bib{w:Bo}{E:Int}{n:Nat}(G:Ev w E n)(hE:0<=E){k:Int}(hk:AlW w.fL k):Ev (A26 w k) E n:=by
 obtain⟨t,A,F⟩:=G.inv.forest;have al:=hk.al A;have I':=Blh G.inv A F al;obtain⟨hki,L,T,e⟩:=G.live hk;have R:=G.inv.rg;have hN:(A26 w k).fL.length=w.fL.length:=by grind [A26,A4w]
 have hg: ∀x,0<=x/\x<(w.fL.length:Int)->gt (A26 w k).fL x=if x=k then Asd 2 (gt (Aup w.fL k) k).C7 else gt (Aup w.fL k) x:=fun x hx=>by
  unfold A26;simp only;rw[Auu (by grind [A4w]) (by grind [A4w])];rfl
 refine⟨I',?_,fun x hx=> ?_,?_,?_⟩
 ·show ∀x∈(Ah0 w.fP _).Fp,_;rw[(A5x G.inv hki).2.1];exact G.mem
 ·rw[hN]at hx;rw[hg x hx];by_cases q:x=k
  ·rw[if_pos q];exact⟨hE,hE,⟨Int.le_refl 0,by show(0:Int)<=1000;omega⟩⟩
  ·rw[if_neg q,A6x R hki hx q];have:=G.ep x hx;exact⟨this.ep,this.ue,this.cur⟩
 ·have hs:=A02 (f:=wtN w.fC) hN hki fun x hx hne=>by rw[hg x hx,if_neg hne,A6x R hki hx hne];rfl
  rw[hg k hki,if_pos rfl,A7r _ (by decide)]at hs;have e1:wtN w.fC (gt w.fL k)=2+(gt w.fL k).Dh.length+w.fC.Du.toNat*(gt w.fL k).Ad.length:=by unfold wtN;rw[if_pos L.st]
  have h3:=G.wt;unfold wt pot at h3 ⊢;show((A26 w k).fL.map (wtN w.fC)).sum+((w.fQ++[Aio (gt w.fL k) (A1 k 1)]).map (wtQ w.fC)).sum+w.Jp.length<=_;have e2:wtQ w.fC (Aio (gt w.fL k) (A1 k 1))=1+(gt w.fL k).Dh.length+w.fC.Du.toNat*(gt w.fL k).Ad.length:=rfl
  grind
 ·have hs:=A02 (f:=lvN) hN hki fun x hx hne=>by rw[hg x hx,if_neg hne,A6x R hki hx hne];rfl
  rw[hg k hki,if_pos rfl,show lvN (Asd 2 (gt (Aup w.fL k) k).C7)=0 from rfl,show lvN (gt w.fL k)=1 by unfold lvN;rw[if_pos L.st]]at hs;have h3:=G.cn;unfold cnt at h3 ⊢;rw[show(A26 w k).fQ.length=w.fQ.length+1 from Z23];omega
theorem Bic{w:Bo}{E:Int}{n:Nat}(G:Ev w E n)(hE:0<=E/\E<=900000000){k:Int}(hk:AlW w.fL k):Ev (A4c w k) (E+1) (n+1):=by
 obtain⟨t,A,F⟩:=G.inv.forest;have al:=hk.al A;obtain⟨hki,L,T,e⟩:=G.live hk;have h0:=L.ep;have h1:=e.ep;have I':=Bli G.inv A F al (by omega);have hN:(A4c w k).fL.length=w.fL.length:=by grind [A4c]
 have hg: ∀x,0<=x/\x<(w.fL.length:Int)->gt (A4c w k).fL x=if x=k then Azz (gt w.fL k)else gt w.fL x:=fun x hx=>Auu hki hx _
 refine⟨I',?_,fun x hx=> ?_,?_,?_⟩
 ·show ∀x∈(Ah0 w.fP _).Fp,_;rw[(A5x G.inv hki).2.1];exact G.mem
 ·rw[hN]at hx;rw[hg x hx];have hx':=G.ep x hx;by_cases q:x=k
  ·rw[if_pos q];refine⟨?_,?_,⟨Int.le_refl 0,by show(0:Int)<=1000;omega⟩⟩
   ·show A1 (gt w.fL k).Nb 1<=_
    grind [ad1]
   ·have:=e.ue;show(gt w.fL k).G5<=_;omega
  ·rw[if_neg q];have h2:=hx'.ep;have h3:=hx'.ue;exact⟨by omega,by omega,hx'.cur⟩
 ·have hs:=A02 (f:=wtN w.fC) hN hki fun x hx hne=>by grind
  rw[hg k hki,if_pos rfl]at hs;have e1:wtN w.fC (gt w.fL k)=2+(gt w.fL k).Dh.length+w.fC.Du.toNat*(gt w.fL k).Ad.length:=by unfold wtN;rw[if_pos L.st]
  have e0:wtN w.fC (Azz (gt w.fL k))=2:=by
   have hst1:(Azz (gt w.fL k)).G4=1:=L.st;unfold wtN;rw[if_pos hst1];rfl
  have h3:=G.wt;unfold wt pot at h3 ⊢;show((A4c w k).fL.map (wtN w.fC)).sum+((w.fQ++[Aio (gt w.fL k) 0]).map (wtQ w.fC)).sum+w.Jp.length<=_;have e2:wtQ w.fC (Aio (gt w.fL k) 0)=1+(gt w.fL k).Dh.length+w.fC.Du.toNat*(gt w.fL k).Ad.length:=rfl
  grind
 ·have hs:=A02 (f:=lvN) hN hki fun x hx hne=>by rw[hg x hx,if_neg hne]
  have hst1:(Azz (gt w.fL k)).G4=1:=L.st;rw[hg k hki,if_pos rfl,show lvN (Azz (gt w.fL k))=1 by unfold lvN;rw[if_pos hst1],show lvN (gt w.fL k)=1 by unfold lvN;rw[if_pos L.st]]at hs;have h3:=G.cn;unfold cnt at h3 ⊢;rw[show(A4c w k).fQ.length=w.fQ.length+1 from Z23];omega
section
variable {K:Nat} (hK:281474976710656<=K)
include hK
theorem Byx{E:Int}{n:Nat}(hE:0<=E/\E<=900000000)(hn:n<=800000000){w:Bo}(G:Ev w E n){o:Di}(ho:Ame o): ∃w' a,A3p K w o=some (w',a)/\Ev w' E (n+1)/\w'.fC=w.fC:=by
 have W:=G.ww (by omega) (by omega);have G0:=Ev.le G (Int.le_refl E) (by omega:n<=n+1);unfold A3p;cases o.Aad==3 with
 |true=>
  simp only[cond_true];obtain⟨a,e⟩:=Bte hK hE hn G o.fR o.fN o.fM
  grind
 |false=>
  simp only[cond_false];cases o.Aad==4 with
  |true=>
   simp only[cond_true];obtain⟨a,w',e,g,c⟩:=Bqm hK hE hn G o.fR o.fN (s:=o.fB) ho.1 (by have:=ho.2;omega);rw[e];exact⟨_,_,rfl,Ev.le g (Int.le_refl E) (by omega),c⟩
  |false=>
   simp only[cond_false];cases o.Aad==5 with
   |true=>
    simp only[cond_true];obtain⟨a,w',e,g,c⟩:=Bqn hK hE hn G o.fH o.fN
    grind
   |false=>
    simp only[cond_false];cases o.Aad==8 with
    |true=>
     simp only[cond_true];obtain⟨a,e⟩:=Bqo hK hE hn G o.fH
     grind
    |false=>
     simp_all[Aye]
theorem Bqp{E:Int}{n:Nat}(hE:0<=E/\E<=800000000)(hn:n<=700000000){w:Bo}(G:Ev w E n)(b:Bool){o:Di}(ho:Ame o)(z:F8):
  ∃a w',Azr K b w.fC.Ad w.fC.Du w.fC.Cd w.fC.Ez w.fC.Ce w.fC.Dv w.fP.Fp w.fP.G4 w.fP.Fq w.fL w.fQ w.Jp z o.Aad o.fH.Be o.fH.C7 o.fR.fH.Be o.fR.fH.C7 o.fR.Nb o.fR.fNo o.fN o.fM o.fB=some (a,w')/\Ev w' (E+1) (n+1)/\w'.fC=w.fC:=by
 have W:=G.ww (by omega) (by omega);have hq:=Bpx w;have hwt:=G.wt;have G0:=Ev.le G (by omega:E<=E+1) (by omega:n<=n+1);unfold Azr;rw[show Bo.mk (Fi.mk w.fC.Ad w.fC.Du w.fC.Cd w.fC.Ez w.fC.Ce w.fC.Dv) (Ef.mk w.fP.Fp w.fP.G4 w.fP.Fq) w.fL w.fQ w.Jp=w from rfl];cases b with
 |true=>
  simp only[cond_true];rw[Ay3 hK W.l,Z0,A3i hK w W.l,Z0];by_cases h0:(Ayv w.fL (Ch.mk o.fH.Be o.fH.C7)).2=0
  ·have hal:=A76 G.inv h0;have hki:=(G.live hal).1;rw[h0];simp only[bne_self_eq_false,cond_false];cases o.Aad==6 with
   |true=>
    simp only[cond_true];rw[Bd4 hK w W (by omega) hki,Z0];exact⟨_,_,rfl,Bic G (by omega) hal,rfl⟩
   |false=>
    simp only[cond_false];rw[Bhu hK w W (by omega) hki,Z0];exact⟨_,_,rfl,Ev.le (Bib G hE.1 hal) (by omega) (by omega),rfl⟩
  ·rw[A20 h0]
   grind
 |false=>
  simp only[cond_false];rw[show Di.mk o.Aad (Ch.mk o.fH.Be o.fH.C7) (Fb.mk (Ch.mk o.fR.fH.Be o.fR.fH.C7) o.fR.Nb o.fR.fNo) o.fN o.fM o.fB=o from rfl];obtain⟨w',a,e,g,c⟩:=Byx hK (by omega) (by omega) G ho;rw[e];exact⟨_,_,rfl,Ev.le g (by omega) (Z9 _),c⟩
theorem B12{E:Int}{n:Nat}(hE:0<=E/\E<=800000000)(hn:n<=700000000){w:Bo}(G:Ev w E n){o:Di}(ho:Ame o): ∃a w',A4p K w o=some (a,w')/\Ev w' (E+1) (n+192)/\w'.fC=w.fC:=by
 unfold A4p;cases o.Aad==1 with
 |true=>
  simp only[cond_true];obtain⟨r,w',e,g,c⟩:=Bh3 hK (by omega) (by omega) G o.fH;rw[e];exact⟨_,_,rfl,Ev.le g (by omega) (by omega),c⟩
 |false=>
  simp only[cond_false];cases o.Aad==2 with
  |true=>
   simp only[cond_true];obtain⟨r,w',e,g,c⟩:=Bgl hK (by omega) (by omega) G o.fH o.fN o.fM;rw[e];exact⟨_,_,rfl,Ev.le g (by omega) (by omega),c⟩
  |false=>
   simp only[cond_false];cases o.Aad==9 with
   |true=>
    simp only[cond_true];obtain⟨r,w',e,S⟩:=Ba0 hK (E:=E) (n:=n) (by omega) (by omega) 4000 G;rw[e];exact⟨_,_,rfl,Ev.le S.good (by omega) (by omega),S.stay.conf⟩
   |false=>
    simp only[cond_false];cases o.Aad==6 with
    |true=>
     simp only[cond_true];obtain⟨r,w',e,g,c⟩:=Bqp hK hE hn G true ho (F8.mk 0 (Ch.mk 0 0) (Fb.mk (Ch.mk 0 0) 0 0) [] 0 0 0);exact⟨_,_,e,Ev.le g (Int.le_refl _) (by omega),c⟩
    |false=>
     simp only[cond_false];obtain⟨r,w',e,g,c⟩:=Bqp hK hE hn G (o.Aad==7) ho (F8.mk 0 (Ch.mk 0 0) (Fb.mk (Ch.mk 0 0) 0 0) [] 0 0 0);exact⟨_,_,e,Ev.le g (Int.le_refl _) (by omega),c⟩
end
theorem Bes{α:Type}[Inhabited α]{n:Nat}(x:α){k:Int}(hk:0<=k/\k<(n:Int)):gt (List.replicate n x) k=x:=by
 obtain⟨j,rfl⟩: ∃j:Nat,k=j:=⟨k.toNat,by omega⟩
 grind [Wx]
theorem Bb2{α:Type}(i:Nat)(x:α):List.replicate i x++[x]=List.replicate (i+1) x:=by rw[List.replicate_succ']
section
variable {K:Nat} (hK:281474976710656<=K)
include hK
def Bju (c:Fi):Ef:=Ef.mk (List.replicate (c.Ad*c.Du).toNat 0) (List.replicate c.Ad.toNat 0) (List.replicate c.Ad.toNat (-1))
theorem Bid{c:Fi}(hc:Aki c=true):A19 K c=some (Bju c):=by
 have hm:=V1;obtain⟨b1,b2,b3,b4,b5,b6⟩:=Bd hc;have hb:=Azd (a:=c.Ad) (b:=c.Du) (m:=12) (n:=16) (by omega) b1.2 (by omega) b2.2;have hby:Aoy c=c.Ad*c.Du:=by grind [Aoy]
 unfold A19 A6n;rw[Avm,hc,Z0,Bool.not_true,cond_false,Ayd,Z0,hby,Aml,Wy.2 ⟨by omega,by omega⟩];simp only[Z0,Bool.not_true,cond_false];rw[if_pos ⟨by omega,by omega,by omega,by omega⟩,Z0];have key: ∀(f i:Nat),(i:Int)<=c.Ad->c.Ad.toNat - i<f->Aw7 K c f (i:Int) (Ef.mk (List.replicate (c.Ad*c.Du).toNat 0) (List.replicate i 0) (List.replicate i (-1))) (Ef.mk [] [] [])=some (Bju c):=by
  intro f;induction f with
  |zero=>omega
  |succ f ih=>
   intro i hi hf;rw[Aw7];by_cases q:(i:Int)=c.Ad
   ·rw[decide_eq_false (by omega)];unfold Bju;rw[<-q];rfl
   ·rw[decide_eq_true (by omega),cond_true,if_pos ⟨by grind,by grind⟩,if_pos ⟨by grind,by grind⟩,Ad9 (by omega)];simp only;rw[Bb2,Bb2];exact ih (i+1) (by omega) (by omega)
 exact key K 0 (by omega) (by omega)
theorem Bgo{c:Fi}(hc:Aki c=true):A36 K c=some (List.replicate c.Cd.toNat (Asd 0 1)):=by
 have hm:=V1;obtain⟨b1,b2,b3,b4,b5,b6⟩:=Bd hc;have key: ∀(f i:Nat),(i:Int)<=c.Cd->c.Cd.toNat - i<f->Awj K c f (List.replicate i (Asd 0 1)) (i:Int)=some (List.replicate c.Cd.toNat (Asd 0 1)):=by
  intro f;induction f with
  |zero=>omega
  |succ f ih=>
   intro i hi hf;rw[Awj];by_cases q:(i:Int)=c.Cd
   ·grind
   ·unfold Amn;rw[decide_eq_true (by omega),cond_true,Avm,hc];simp only[Z0,cond_true];rw[show Az.mk 0 1 0 0 0 0 0 0 [] 0 0 [] []=Asd 0 1 from rfl,if_pos ⟨by grind,by grind⟩,Ad9 (by omega),Bb2];exact ih (i+1) (by omega) (by omega)
 exact key K 0 (by omega) (by omega)
def A5d (c:Fi):Bo:=Bo.mk c (Bju c) (List.replicate c.Cd.toNat (Asd 0 1)) [] []
theorem Bgp{c:Fi}(hc:Aki c=true):A06 K c=some (A5d c):=by
 unfold A06;rw[Avm,hc,Z0,Bool.not_true,cond_false,Bid hK hc,Z0,Bgo hK hc];rfl
end
def Bqq (_:Int):Lk:=⟨false,false,0,0,0,0,0,0⟩
theorem A61{N x:Int}: ¬Lv N Bqq x:=fun h=>by have:=h.2;cases this
theorem Bgq (N:Int):Air N Bqq []:=by
 refine⟨⟨fun k h=>absurd h A61,fun k h=>absurd h A61,fun _ _ _ _=>⟨rfl,rfl,rfl,rfl⟩⟩,⟨fun _=>0,fun x h=>absurd h A61⟩,⟨fun _=>0,fun x h=>absurd h A61⟩,⟨List.nodup_nil,fun x=>⟨(fun h=>by cases h),fun h=>absurd h.1 A61⟩,(fun f h=>by cases h)⟩,trivial,fun x h=>absurd h A61,fun x h=>absurd h A61,(fun e h=>by cases h)⟩
theorem Bqr{c:Fi}(hc:Aki c=true):Ev (A5d c) 0 0:=by
 obtain⟨b1,b2,b3,b4,b5,b6⟩:=Bd hc;have hb:=Azd (a:=c.Ad) (b:=c.Du) (m:=12) (n:=16) (by omega) b1.2 (by omega) b2.2;have hN:((A5d c).fL.length:Int)=c.Cd:=by show((List.replicate _ _).length:Int)=_;grind
 have hg: ∀k,0<=k/\k<((A5d c).fL.length:Int)->gt (A5d c).fL k=Asd 0 1:=fun k hk=>Bes _ (by omega)
 have hs: ∀k,0<=k/\k<c.Ad->gt (A5d c).fP.G4 k=0:=fun k hk=>Bes _ (by omega)
 have ho: ∀k,0<=k/\k<c.Ad->gt (A5d c).fP.Fq k= -1:=fun k hk=>Bes _ (by omega)
 have hz: ∀a m:Nat,Ary (((A5d c).fP.Fp.drop a).take m)=true:=fun a m=>by
  rw[A5b];intro j _ _ h;have h:j<(List.replicate (c.Ad*c.Du).toNat (0:Int)).length:=h;rw[List.length_replicate]at h;exact Bes _ ⟨by omega,by omega⟩
 refine⟨⟨Akj.2 ⟨hc,?_,?_,?_,fun k hk=> ?_⟩,hN,fun k hk=> ?_,fun k hk x=> ?_,fun k hk=> ?_,⟨Bqq,(fun k hk=>by rw[hg k hk];rfl),Bgq _⟩,(fun x h=>by cases h),List.nodup_nil,fun x=> ?_,List.nodup_nil,fun s=> ?_,rfl⟩,fun x hx=> ?_,fun k hk=> ?_,?_,?_⟩
 ·show((List.replicate _ _).length:Int)=c.Ad*c.Du;grind
 ·show((List.replicate _ _).length:Int)=c.Ad;grind
 ·show((List.replicate _ _).length:Int)=c.Ad;grind
 ·rw[hs k hk,ho k hk];exact⟨by omega,fun h=>by omega,fun _=>rfl,fun _=>hz _ _⟩
 ·rw[hg k hk];exact A74 hc (by omega) (by omega) (by omega)
 ·rw[hg k hk];constructor
  ·intro h;cases h
  ·rintro⟨a,b,_⟩;rw[hs x a]at b;cases b
 ·rw[hg k hk];exact⟨rfl,rfl,rfl⟩
 ·constructor
  ·intro h;cases h
  ·rintro⟨a,b⟩;rw[hs x a]at b;cases b
 ·constructor
  ·intro h;cases h
  ·rintro⟨a,b⟩;rw[hg s a]at b;cases b
 ·have hx:x∈List.replicate (c.Ad*c.Du).toNat (0:Int):=hx
  grind
 ·rw[hg k hk];exact⟨Int.le_refl 0,Int.le_refl 0,Int.le_refl 0,by show(0:Int)<=1000;omega⟩
 ·have e:wtN c (Asd 0 1)=0:=A7r _ (by decide) _;simp_all[wt,pot,A5d]
 ·have e:lvN (Asd 0 1)=0:=rfl;simp_all[cnt,A5d]
section
variable {K:Nat} (hK:281474976710656<=K)
include hK
def Bah (w:Bo)(o:Di)(c:E2):Di×E2×(List Int)×(List Int)×(List Int)×(List Az)×(List Bb)×(List Int):=(o,c,w.fP.Fp,w.fP.G4,w.fP.Fq,w.fL,w.fQ,w.Jp)
omit hK in
theorem Bgr (w:Bo)(h:Ch)(d:Int){c:E2}(hc:Ahs c)(b:Bool): ∃o c',Axb K h w.fP.Fp w.fP.G4 w.fP.Fq w.fL w.fQ w.Jp d c.fb c.fi c.fh b=some (Bah w o c')/\Ame o/\Ahs c':=by
 unfold Axb;rw[show E2.mk c.fb c.fi c.fh=c from rfl];cases b with
 |true=>
  simp only[cond_true];obtain⟨r,e,_,w1⟩:=Ahv K hc (n:=256) (by omega);rw[e];exact⟨_,_,rfl,Auv _ _ _ _ _,w1⟩
 |false=>
  simp only[cond_false];cases d==13 with
  |true=>exact⟨_,_,rfl,Auv _ _ _ _ _,hc⟩
  |false=>
   simp only[cond_false];cases d==14 with
   |true=>exact⟨_,_,rfl,Auv _ _ _ _ _,hc⟩
   |false=>
    simp only[cond_false];obtain⟨r,e,w1⟩:=A16 K hc (n:=6) (by omega);rw[e,Z0];cases r.1 with
    |true=>exact⟨_,_,rfl,Auv _ _ _ _ _,w1⟩
    |false=>exact⟨_,_,rfl,Auv _ _ _ _ _,w1⟩
theorem Bgs (w:Bo)(h:Ch)(r:Fb)(d:Int){c:E2}(hc:Ahs c)(b:Bool): ∃o c',Axc K h r w.fP.Fp w.fP.G4 w.fP.Fq w.fL w.fQ w.Jp d c.fb c.fi c.fh b=some (Bah w o c')/\Ame o/\Ahs c':=by
 unfold Axc;rw[show E2.mk c.fb c.fi c.fh=c from rfl];cases b with
 |true=>
  simp only[cond_true];obtain⟨x,e,b1,w1⟩:=Ahv K hc (n:=2) (by omega);have e1:A1 1 x.1=1+x.1:=by grind [A1,Lc,Ht]
  obtain⟨y,c2,e2,b2,l2,w2⟩:=Bbz hK w1 (n:=1+x.1) (by omega);rw[e,Z0,e1,e2];exact⟨_,_,rfl,⟨b2,l2⟩,w2⟩
 |false=>
  simp only[cond_false];cases d==10 with
  |true=>
   simp only[cond_true];obtain⟨x,e,_,w1⟩:=Ahv K hc (n:=3) (by omega);rw[e];exact⟨_,_,rfl,Auv _ _ _ _ _,w1⟩
  |false=>
   simp only[cond_false];cases d==11 with
   |true=>simp_all[Bgr]
   |false=>simp_all[Bgr]
theorem Bb3 (w:Bo)(h:Ch)(r:Fb)(z d:Int){c:E2}(hc:Ahs c)(b:Bool): ∃o c',Avq K h r z w.fP.Fp w.fP.G4 w.fP.Fq w.fL w.fQ w.Jp d c.fb c.fi c.fh b=some (Bah w o c')/\Ame o/\Ahs c':=by
 unfold Avq;rw[show E2.mk c.fb c.fi c.fh=c from rfl];cases b with
 |true=>
  simp only[cond_true];obtain⟨x,c1,e1,_,w1⟩:=A29 K hc (l:=[1,2,3,4,5,8]) (by simp);obtain⟨y,c2,e2,_,w2⟩:=A29 K w1 (l:=[1,1,2,4]) (by simp);rw[e1,Z0,if_pos rfl,e2,Z0,if_pos rfl];exact⟨_,_,rfl,Auv _ _ _ _ _,w2⟩
 |false=>
  simp only[cond_false];cases d==7 with
  |true=>
   simp only[cond_true];obtain⟨x,e,w1⟩:=Bag K hc z;rw[e];exact⟨_,_,rfl,Auv _ _ _ _ _,w1⟩
  |false=>
   simp only[cond_false];cases d==8 with
   |true=>simp_all[Bgs]
   |false=>simp_all[Bgs]
theorem Bb4 (w:Bo)(h:Ch)(r:Fb)(z d:Int){c:E2}(hc:Ahs c)(b:Bool): ∃o c',Avr K h r z w.fP.Fp w.fP.G4 w.fP.Fq w.fL w.fQ w.Jp d b c.fb c.fi c.fh=some (Bah w o c')/\Ame o/\Ahs c':=by
 unfold Avr;rw[show E2.mk c.fb c.fi c.fh=c from rfl];cases b with
 |true=>exact⟨_,_,rfl,Auv _ _ _ _ _,hc⟩
 |false=>
  simp only[cond_false];cases d==3 with
  |true=>exact⟨_,_,rfl,Auv _ _ _ _ _,hc⟩
  |false=>
   simp only[cond_false];cases d==4 with
   |true=>simp_all[Bb3]
   |false=>
    simp only[cond_false];cases d==5 with
    |true=>simp_all[Bb3]
    |false=>simp_all[Bb3]
theorem Bgt (w:Bo)(h:Ch)(r:Fb)(q:Di){c:E2}(hc:Ahs c): ∃o c',Axd K h c.fb c.fi c.fh r q w.fC.Ad w.fC.Du w.fC.Cd w.fC.Ez w.fC.Ce w.fC.Dv w.fP.Fp.length w.fP.G4.length w.fP.Fq.length w.fL.length w.fQ.length w.Jp.length w.fP.Fp w.fP.G4 w.fP.Fq w.fL w.fQ w.Jp=some (Bah w o c')/\Ame o/\Ahs c':=by
 unfold Axd;rw[show E2.mk c.fb c.fi c.fh=c from rfl];obtain⟨x,e,_,w1⟩:=Ahv K hc (n:=16) (by omega);rw[e,Z0];cases x.1==0 with
 |true=>simp_all[Bb4]
 |false=>
  simp only[cond_false];cases x.1==1 with
  |true=>simp_all[Bb4]
  |false=>simp_all[Bb4]
theorem Bjv{w:Bo}(W:Ar0 w)(h8:w.fL.length<=1000){c:E2}(hc:Ahs c): ∃o c',Azh K c w=some (Bah w o c')/\Ame o/\Ahs c':=by
 unfold Azh;obtain⟨r1,e1,hl,hr⟩:=Bbv hK W h8;rw[e1,Z0];cases hz:(r1.length:Int)==0 with
 |true=>
  simp only[cond_true];obtain⟨x,e,w1⟩:=A16 K hc (n:=2) (by omega);rw[e,Z0];cases x.1 with
  |true=>exact⟨_,_,rfl,Auv _ _ _ _ _,w1⟩
  |false=>
   simp only[cond_false];obtain⟨o,c2,e2,ho,w2⟩:=Bb1 hK w1;rw[e2];exact⟨_,_,rfl,ho,w2⟩
 |false=>
  have hz: ¬(r1.length:Int)=0:=by grind
  simp only[cond_false];obtain⟨x,e,w1⟩:=A16 K hc (n:=10) (by omega);rw[e,Z0];cases x.1 with
  |true=>
   simp only[cond_true];obtain⟨y,e2,w2⟩:=A16 K w1 (n:=2) (by omega);rw[e2,Z0];cases y.1 with
   |true=>exact⟨_,_,rfl,Auv _ _ _ _ _,w2⟩
   |false=>
    simp only[cond_false];obtain⟨o,c2,e3,ho,w3⟩:=Bb1 hK w2;rw[e3];exact⟨_,_,rfl,ho,w3⟩
  |false=>
   simp only[cond_false];obtain⟨y,e2,b2,w2⟩:=Ahv K w1 (n:=(r1.length:Int)) (by omega);rw[e2,Z0,if_pos b2];have hk:=(hr _ (Akl b2.1 b2.2)).1;obtain⟨h,eh⟩:=A7t (K:=K) (l:=w.fL) (by omega) (gt r1 y.1);simp only[eh,Z0,if_pos hk];cases decide (((gt w.fL (gt r1 y.1)).D5.length:Int)>0)with
   |true=>
    simp only[cond_true];obtain⟨z,e3,w3⟩:=Bag K w2 ((gt w.fL (gt r1 y.1)).D5.length:Int);simp_all[Bgt]
   |false=>
    simp_all[Bgt]
theorem run_ok{c:E2}(hc:Ahs c){most:Int}(hm:0<most/\most<=1000): ∃x l w c' E n,A3q K c most=some (x,l,w,c')/\Ev w E n/\(0<=E/\E<=200)/\n<=38400/\w.fC=x/\Aki x=true/\l.length<=200/\(∀o∈l,Ame o)/\Ahs c':=by
 have hx:=V1;unfold A3q;obtain⟨x,c1,e1,hx1,w1⟩:=Bdc K hc;obtain⟨y,e2,b2,w2⟩:=Ahv K w1 (n:=most) (by omega);rw[e1,Z0,Bgp hK hx1,Z0,e2,Z0];have ea:A1 4 y.1=4+y.1:=by grind [A1,Lc,Ht]
 rw[ea];have key: ∀(f i:Nat) (l:List Di) (w:Bo) (c:E2),(i:Int)<=4+y.1->i<f->Ev w (l.length:Int) (192*l.length)->w.fC=x->l.length<=200->(∀o∈l,Ame o)->Ahs c-> ∃x' l' w' c' E n,Ayl K f l (i:Int) c.fb c.fi c.fh w x (Bo.mk (Fi.mk 0 0 0 0 0 0) (Ef.mk [] [] []) [] [] []) (Fi.mk 0 0 0 0 0 0)=some (x',l',w',c')/\Ev w' E n/\(0<=E/\E<=200)/\n<=38400/\w'.fC=x'/\Aki x'=true/\l'.length<=200/\(∀o∈l',Ame o)/\Ahs c':=by
  intro f;induction f with
  |zero=>omega
  |succ f ih=>
   intro i l w c hi hf G hwc hl ho hcc;have done: ∃x' l' w' c' E n,some (x,l,w,E2.mk c.fb c.fi c.fh)=some (x',l',w',c')/\Ev w' E n/\(0<=E/\E<=200)/\n<=38400/\w'.fC=x'/\Aki x'=true/\l'.length<=200/\(∀o∈l',Ame o)/\Ahs c':=⟨_,_,_,_,_,_,rfl,G,by omega,by omega,hwc,hx1,hl,ho,hcc⟩;rw[Ayl];by_cases q:0<i
   ·rw[decide_eq_true (show(i:Int)>0 by omega),cond_true];by_cases q2:l.length<200
    ·rw[decide_eq_true (show(l.length:Int)<200 by omega),cond_true];have W:=G.ww (by omega) (by omega);obtain⟨b1,b2,b3,_⟩:=Bd G.inv.conf;have hlen:=G.inv.len;obtain⟨o,c2,e3,hop,w3⟩:=Bjv hK W (by omega) hcc;obtain⟨a,w',e4,G',hc'⟩:=B12 hK (E:=(l.length:Int)) (n:=192*l.length) (by omega) (by omega) G hop;rw[show E2.mk c.fb c.fi c.fh=c from rfl,e3,Z0];unfold Bah;simp only;rw[if_pos ⟨trivial,trivial,trivial,trivial,trivial,trivial⟩,if_pos ⟨by grind,by grind⟩];rw[show Bo.mk w.fC (Ef.mk w.fP.Fp w.fP.G4 w.fP.Fq) w.fL w.fQ w.Jp=w from rfl,e4,Z0];have es:Ap (i:Int) 1=((i - 1:Nat):Int):=by grind [sb1]
     rw[es];refine ih (i - 1) (l++[o]) w' c2 (by omega) (by omega) ?_ (hc'.trans hwc) (by grind) ?_ w3
     ·rw[Z23,List.length_singleton]
      grind
     grind
    grind
   simp_all
 have:=key K (4+y.1).toNat [] (A5d x) y.2 (by omega) (by omega) (Bqr hx1) rfl (by simp) (fun o h=>by cases h) w2
 grind
omit hK in
theorem Blx (a:List Int){m:Int}(hm:0<=m/\m<=1000)(ha:a.length<=1048576): ∃r,A0n K a m=some r/\0<=r/\r<=1000:=by
 unfold A0n;have h3:(a.length:Int) / 12<=(a.length:Int):=Int.ediv_le_self _ (by omega);have h4:0<=(a.length:Int) / 12:=Int.ediv_nonneg (by omega) (by omega);have e1:Apq .i64 (a.length:Int) 12=(a.length:Int) / 12:=by
  grind [Apq,Ht]
 have e2:A1 3 ((a.length:Int) / 12)=3+(a.length:Int) / 12:=by grind [A1,Lc,Ht]
 rw[if_pos (by decide),e1,e2];by_cases q:3+(a.length:Int) / 12>m
 ·simp_all
 ·rw[decide_eq_false q];grind
theorem Bet{a:List Int}(hb:A3j a)(ha:a.length<=1048576): ∃w o E n,A0c K a=some (w,o)/\Ev w E n/\(0<=E/\E<=200)/\n<=38400/\Ame o:=by
 unfold A0c;obtain⟨c,e1,w1⟩:=Bgm hK hb ha;obtain⟨m,e2,hm⟩:=Blx (K:=K) a (m:=50) (by omega) ha;have ea:A1 20 m=20+m:=by grind [A1,Lc,Ht]
 have h50:m<=900\/900<m:=by omega
 rw[e1,Z0,e2,Z0,ea];unfold Aym;have hm2:m<=50:=by
  unfold A0n at e2
  grind
 obtain⟨x,l,w,c2,E,n,e3,G,hE,hn,_,_,_,_,w3⟩:=run_ok hK w1 (most:=20+m) (by omega);have W:=G.ww (by omega) (by omega);obtain⟨b1,b2,b3,_⟩:=Bd G.inv.conf;have hlen:=G.inv.len;obtain⟨o,c4,e4,ho,_⟩:=Bjv hK W (by omega) w3;rw[e3];simp only[Z0];rw[e4,Z0];unfold Bah
 grind
end
section
variable (N:Int) (t:Int->Lk)
inductive Up (a:Int):Int->Prop
 |refl:Lv N t a->Up a a
 |step {b:Int}:Lv N t b->Cu N t b->Up a ((t b).up - 1)->Up a b
end
section
variable {N:Int} {t:Int->Lk}
theorem Up.lv{a b:Int}(h:Up N t a b):Lv N t a/\Lv N t b:=by
 induction h with
 |refl h=>grind
 |step h _ _ ih=>grind
theorem Up.trans{a b c:Int}(h:Up N t a b)(g:Up N t b c):Up N t a c:=by
 induction g with
 |refl _=>exact h
 |step h1 h2 _ ih=>exact .step h1 h2 ih
theorem Up.le{d:Int->Nat}(U: ∀x,Lv N t x->Cu N t x->d ((t x).up - 1)<d x){a b:Int}(h:Up N t a b):d a<=d b:=by
 induction h with
 |refl _=>omega
 |step h1 h2 _ ih=>grind
theorem Up.al{a b:Int}(h:Up N t a b)(g:Al N t a):Al N t b:=by
 induction h with
 |refl _=>exact g
 |step h1 h2 _ ih=>exact .step h1 h2 ih
variable {r:Int->Nat} {d:Int->Nat}
end
structure Byy (w:Bo)(t:Int->Lk)(k:Int):Prop where
 inv:Inv w
 tab:AtT w.fL t
 fr:Air w.fL.length t (A17 w.fQ)
 al:Al w.fL.length t k
structure Bdd (w w':Bo)(t:Int->Lk)(k:Int):Prop where
 inv:Inv w'
 len:w'.fL.length=w.fL.length
 tab:AtT w'.fL (rem t k)
 fr:Air w.fL.length (rem t k) (A17 w'.fQ)
 conf:w'.fC=w.fC
 q:w'.fQ=w.fQ++[Aio (gt w.fL k) (k+1)]
 node: ∀x,0<=x/\x<(w.fL.length:Int)->x≠k-> ∃a b c,gt w'.fL x=lnk (gt w.fL x) a b c
theorem Bly (c:Fi)(a b:Int)(f g:Int)(ts cs:List Int)(d:Int):Byk c (Bb.mk a f ts cs d)=Byk c (Bb.mk b g ts cs d):=rfl
theorem Bdd.own{w w':Bo}{t:Int->Lk}{k:Int}(L:Bdd w w' t k){x:Int}(hx:0<=x/\x<(w.fL.length:Int))(hne:x≠k):Byl w' x=Byl w x:=by
 obtain⟨a,b,c,e⟩:=L.node x hx hne;unfold Byl;rw[e,L.conf];exact Bly _ _ _ _ _ _ _ _
theorem Bdd.kids{w w':Bo}{t:Int->Lk}{k:Int}(P:Byy w t k)(L:Bdd w w' t k){x:Bb}(hx:x∈w.fQ):Ak4 w'.fL x.Bz=Ak4 w.fL x.Bz:=by
 have hf:=P.inv.first hx;rw[Bef P.tab P.inv.rg hf.1 (by omega),Bef L.tab L.inv.rg hf.1 (by omega),L.len];exact A9r P.fr.tree P.al.lv P.al.noOr P.fr.kid (Inv.qs hx)
def Bie (w:Bo)(x:Int):List Int:=(gt w.fL x).Dh.reverse
theorem Bdd.tags{w w':Bo}{t:Int->Lk}{k:Int}(L:Bdd w w' t k){x:Int}(hx:0<=x/\x<(w.fL.length:Int))(hne:x≠k):Bie w' x=Bie w x:=by
 obtain⟨a,b,c,e⟩:=L.node x hx hne;unfold Bie;rw[e];rfl
section
variable {M:Type} (op:M->M->M) (e:M) (g:Int->M) (w:Bo)
end
section
variable {M:Type} {op:M->M->M} {e:M} {g:Int->M} {w:Bo}
end
section
variable {K:Nat} (hK:281474976710656<=K)
include hK
end
section
variable {K:Nat} (hK:281474976710656<=K)
include hK
end
section
variable {K:Nat} (hK:281474976710656<=K)
include hK
theorem Byz{α:Type}(l:List α)(hl:l.length<=140737488355328)(L:Nat->Int->Option Bool)
  (hs: ∀n (i:Nat) (h:i<l.length),L (n+1) (i:Int)=L n ((i+1:Nat):Int)) (he: ∀n,L (n+1) (l.length:Int)=some true):L K 0=some true:=by
 rw[Aw5 hK l hl (fun _=>true) (some true) L (fun n i h=>by grind) he,Z1.2 (fun _ _=>rfl)];rfl
theorem Bb5 (l:List Int)(hl:l.length<=140737488355327):A5m K l l=some true:=by
 unfold A5m;simp only[bne_self_eq_false,cond_false];exact Bo5 l (by omega) (A3x K l l) (fun n i=>rfl) K 0 (Z21 _) (by omega)
theorem A3k (l:List Int)(hl:l.length<=140737488355327):Ao4 K l l=some true:=by
 unfold Ao4;simp only[bne_self_eq_false,cond_false];exact Bo5 l (by omega) (Azc K l l) (fun n i=>rfl) K 0 (Z21 _) (by omega)
theorem Bcr{p:Ef}(h:A0k p):A1s K p p=some true:=by
 unfold A1s;rw[Bb5 hK _ h.mem.2,Z0,cond_true,A3k hK _ (A3e hK h.st),Z0,cond_true,A3k hK _ (A3e hK h.own)];rfl
theorem Bcs{n:Az}(h:At7 n):A1t K n n=some true:=by
 have h2:=h.things.2;unfold A1t;simp only[bne_self_eq_false,cond_false];rw[A3k hK _ (A3e hK h.chunks),Z0,cond_true,A3k hK _ (A3e hK h.tags),Z0,Bool.not_true,cond_false];refine Byz hK n.D5 (by omega) (fun m i=>Au1 K m i n.G4 n.C7 n.Nb n.fUp n.G5 n.Bz n.G6 n.G7 n.Ad n.No n.G8 n.D5 n.Dh n.G4 n.C7 n.Nb n.fUp n.G5 n.Bz n.G6 n.G7 n.Ad n.No n.G8 n.D5 n.Dh) (fun m i hi=> ?_) (fun m=> ?_)
 ·simp only[Au1];rw[Afb hi,cond_true,if_pos (Ald hi),if_pos (Ald hi),Ad9 (by omega)];simp
 simp_all[Au1]
theorem Bb6{l:List Az}(h:Aeh l):A0f K l l=some true:=by
 have h2:=h.2;unfold A0f;simp only[bne_self_eq_false,cond_false];refine Byz hK l (by omega) (Auj K l l) (fun m i hi=> ?_) (fun m=> ?_)
 ·rw[Auj,Afb hi,cond_true,if_pos (Ald hi),if_pos (Ald hi),Bcs hK (h.1 _ (Aty hi)),Z0,Bool.not_true,cond_false,Ad9 (by omega)]
 simp_all[Auj]
theorem Bb7{x:Bb}(h:A0m x):A0g K x x=some true:=by
 unfold A0g;simp only[beq_self_eq_true,cond_true];rw[A3k hK _ (A3e hK h.tags),Z0,cond_true,A3k hK _ (A3e hK h.chunks)];rfl
theorem A5e{w:Bo}(h:Ar0 w):Alc K w w=some true:=by
 have h2:=h.q.2;unfold Alc;simp only[beq_self_eq_true,Bool.and_self,Bool.not_true,cond_false];rw[Bcr hK h.p,Z0,cond_true,Bb6 hK h.l,Z0,cond_true];simp only[bne_self_eq_false,cond_false];rw[A3k hK _ (A3e hK h.log),Z0,Bool.not_true,cond_false];refine Byz hK w.fQ (by omega) (fun m i=>Auk K m i w.fC.Ad w.fC.Du w.fC.Cd w.fC.Ez w.fC.Ce w.fC.Dv w.fP.Fp w.fP.G4 w.fP.Fq w.fL w.fQ w.Jp w.fC.Ad w.fC.Du w.fC.Cd w.fC.Ez w.fC.Ce w.fC.Dv w.fP.Fp w.fP.G4 w.fP.Fq w.fL w.fQ w.Jp) (fun m i hi=> ?_) (fun m=> ?_)
 ·simp only[Auk];rw[Afb hi,cond_true,if_pos (Ald hi),if_pos (Ald hi),Bb7 hK (h.q.1 _ (Aty hi)),Z0,Bool.not_true,cond_false,Ad9 (by omega)]
 simp_all[Auk]
end
instance:DecidablePred wfi:=fun x=>inferInstanceAs (Decidable (_/\_))
theorem A04 (n:Int):wfi (IntKind.i64.wrap n):=by rw[IntKind.wrap_i64];exact⟨by omega,by omega⟩
def OkP{α:Type}(x:Option (α×E2))(P:α->Prop):Prop:= ∃a c,x=some (a,c)/\P a/\Ahs c
theorem okp{α:Type}{a:α}{c:E2}{P:α->Prop}(h:P a)(hc:Ahs c):OkP (some (a,c)) P:=⟨_,_,rfl,h,hc⟩
theorem OkP.mono{α:Type}{x:Option (α×E2)}{P Q:α->Prop}(h:OkP x P)(k: ∀a,P a->Q a):OkP x Q:=by
 obtain⟨a,c,e,p,hc⟩:=h;exact⟨a,c,e,k a p,hc⟩
theorem Acp{α β:Type}{x:Option (α×E2)}{f:α×E2->Option (β×E2)}{P:α->Prop}{Q:β->Prop}(h:OkP x P)(k: ∀a c,P a->Ahs c->OkP (f (a,c)) Q):OkP (x.bind f) Q:=by
 obtain⟨a,c,e,p,hc⟩:=h
 grind
theorem Av3{α:Type}{p:Prop}[Decidable p]{x:Option (α×E2)}{Q:α->Prop}(h:p)(k:OkP x Q):OkP (if p then x else none) Q:=by grind
theorem Ar1{α:Type}{b:Bool}{x y:Option (α×E2)}{Q:α->Prop}(k:b=true->OkP x Q)(l:b=false->OkP y Q):OkP (bif b then x else y) Q:=by
 grind
theorem Aul (K:Nat){c:E2}(hc:Ahs c){n:Int}(hn:0<n):OkP (A4 K c n) fun x=>0<=x/\x<n:=by
 obtain⟨r,e,b,w⟩:=Ahv K hc hn;exact⟨_,_,e,b,w⟩
theorem A7w{β:Type}(K:Nat){c:E2}{l:List Int}{f:Int×E2×List Int->Option (β×E2)}{Q:β->Prop}(hc:Ahs c)(hl:0<l.length)(k: ∀x c,x∈l->Ahs c->OkP (f (x,c,l)) Q):OkP ((P2 K c l).bind f) Q:=by
 obtain⟨x,c',e,m,w⟩:=A29 K hc hl
 grind
theorem Bqs (K:Nat){c:E2}(hc:Ahs c):OkP (A4q K c) ConfW:=by
 unfold A4q As2;obtain⟨x,c1,e,hx,w⟩:=Bdc K hc;have W:=Bpy hx;rw[e,Z0];dsimp only
 repeat' (first|refine A7w _ (by assumption) (by decide) (fun x c hx hc=>Av3 rfl ?_)|refine Acp (Aul _ (by assumption) (by omega)) (fun x c hx hc=> ?_)|refine Ar1 (fun _=> ?_) (fun _=> ?_))
 all_goals refine okp ?_ (by assumption)
 ·exact⟨(by decide: ∀y∈([1,2,12,13]:List Int),wfi y) _ ‹_›,W.size,W.slots,W.tax,W.slice,W.gens⟩
 ·exact⟨W.chunks,(by decide: ∀y∈([7,8,16,17]:List Int),wfi y) _ ‹_›,W.slots,W.tax,W.slice,W.gens⟩
 ·exact⟨W.chunks,W.size,(by decide: ∀y∈([1,8,9]:List Int),wfi y) _ ‹_›,W.tax,W.slice,W.gens⟩
 ·exact⟨W.chunks,W.size,W.slots,(by decide: ∀y∈([0,8,9]:List Int),wfi y) _ ‹_›,W.slice,W.gens⟩
 ·exact⟨W.chunks,W.size,W.slots,W.tax,(by decide: ∀y∈([0,17]:List Int),wfi y) _ ‹_›,W.gens⟩
 ·exact⟨W.chunks,W.size,W.slots,W.tax,W.slice,(by decide: ∀y∈([0,5]:List Int),wfi y) _ ‹_›⟩
 ·exact W
theorem A9i{l:List Int}(h:l.length<=1000)(x:Int):(l++[x]).length*8<=140737488355328/\(l++[x]).length<=maxLen:=by
 grind [V1]
theorem Beu{l:List Bn}(h:l.length<=1000)(x:Bn):(l++[x]).length*24<=140737488355328/\(l++[x]).length<=maxLen:=by
 grind [V1]
theorem A63{l:List Int}(h:A30 l)(hl:l.length<=1000){x:Int}(hx:wfi x):A30 (l++[x]):=by
 refine⟨fun y hy=> ?_,by grind⟩;rcases N0.1 hy with hy|hy
 ·exact h.1 y hy
 grind
structure SN (m:Nat)(n:Az):Prop where
 w:At7 n
 c:n.Ad.length<=m
 t:n.D5.length<=m
 g:n.Dh.length<=m
theorem SN.tag{m:Nat}{n:Az}(h:SN m n)(hm:m<=1000){x:Int}(hx:wfi x):SN (m+1) (Az.mk n.G4 n.C7 n.Nb n.fUp n.G5 n.Bz n.G6 n.G7 n.Ad n.No n.G8 n.D5 (n.Dh++[x])):=by
 have:=h.c;have:=h.t;have:=h.g;exact⟨{h.w with tags:=A63 h.w.tags (by omega) hx},Nat.le_succ_of_le h.c,Nat.le_succ_of_le h.t,by grind⟩
theorem SN.chunk{m:Nat}{n:Az}(h:SN m n)(hm:m<=1000){x:Int}(hx:wfi x):SN (m+1) (Az.mk n.G4 n.C7 n.Nb n.fUp n.G5 n.Bz n.G6 n.G7 (n.Ad++[x]) n.No n.G8 n.D5 n.Dh):=by
 have:=h.c;have:=h.t;have:=h.g;exact⟨{h.w with chunks:=A63 h.w.chunks (by omega) hx},by grind,Nat.le_succ_of_le h.t,Nat.le_succ_of_le h.g⟩
theorem SN.thing{m:Nat}{n:Az}(h:SN m n)(hm:m<=1000){x:Bn}(hx:ThingW x):SN (m+1) (Az.mk n.G4 n.C7 n.Nb n.fUp n.G5 n.Bz n.G6 n.G7 n.Ad n.No n.G8 (n.D5++[x]) n.Dh):=by
 have:=h.c;have:=h.t;have:=h.g;refine⟨{h.w with things:=⟨fun y hy=> ?_,by grind⟩},Nat.le_succ_of_le h.c,by grind,Nat.le_succ_of_le h.g⟩;rcases N0.1 hy with hy|hy
 ·exact h.w.things.1 y hy
 grind
theorem SN.mono{m k:Nat}{n:Az}(h:SN m n)(hk:m<=k):SN k n:=⟨h.w,S5 h.c hk,S5 h.t hk,S5 h.g hk⟩
theorem sbn{i:Nat}(hi:0<i)(h:i<=1000):Ap (i:Int) 1=((i - 1:Nat):Int):=by grind [sb1]
theorem Bif (K:Nat){c:E2}(hc:Ahs c){x:Fi}(hx:Aki x=true):OkP (A2p K c x) ThingW:=by
 obtain⟨b1,b2,_⟩:=Bd hx;have j: ∀(c:E2) (t:Bn),Ahs c->OkP (Axp K x c.fb c.fi c.fh t) ThingW:=by
  intro c t hc;unfold Axp;refine Acp (Aul K hc (by omega)) (fun y1 c1 h1 w1=>Acp (Aul K w1 (by omega)) (fun y2 c2 h2 w2=> ?_));dsimp only at w2 ⊢;have e:Ap x.Du y2=x.Du - y2:=by grind [Ap,Asu,Ht]
  rw[e];refine Acp (Aul K w2 (by omega)) (fun y3 c3 h3 w3=>okp ⟨A04 _,A04 _,Ax5⟩ w3)
 unfold A2p;obtain⟨r,e,w⟩:=A16 K hc (n:=4) (by omega);rw[e,Z0];refine Ar1 (fun _=>Ar1 (fun h=> ?_) (fun _=>j _ _ w)) (fun _=>j _ _ w);rw[decide_eq_true_eq]at h;rw[show Ap x.Ad 1=x.Ad - 1 from by grind [Ap,Asu,Ht]];exact Acp (Aul K w (by omega)) (fun y1 c1 h1 w1=>Acp (Aul K w1 (by omega)) (fun y2 c2 h2 w2=>okp ⟨A04 _,A04 _,Gx (x:=2) (by decide) (by decide)⟩ w2))
theorem Bqt (K:Nat): ∀(f i m:Nat) (c:E2) (n:Az),i<f->m+i<=50->SN m n->Ahs c->OkP (Ayn K f (i:Int) c.fb c.fi c.fh n) (SN 50):=by
 intro f;induction f with
 |zero=>omega
 |succ f ih=>
  intro i m c n hi hm hn hc;have:=hn.g;rw[Ayn];refine Ar1 (fun h=> ?_) (fun _=>okp (hn.mono (by omega)) hc);rw[decide_eq_true_eq]at h;refine Acp (Aul K hc (by omega)) (fun y c1 hy w1=>Av3 (A9i (by omega) _) ?_);rw[sbn (by omega) (by omega)];exact ih (i - 1) (m+1) c1 _ (by omega) (by omega) (hn.tag (by omega) (Gx (by omega) (by omega))) w1
section
variable {K:Nat} (hK:281474976710656<=K)
include hK
theorem Bqu{x:Fi}(hx:Aki x=true): ∀(f i m:Nat) (c:E2) (n:Az),i<f->m+i<=40->SN m n->Ahs c->OkP (Ayo K x f (i:Int) c.fb c.fi c.fh n) (SN 50):=by
 intro f;induction f with
 |zero=>omega
 |succ f ih=>
  intro i m c n hi hm hn hc;have:=hn.t;rw[Ayo];refine Ar1 (fun h=> ?_) (fun _=> ?_)
  ·rw[decide_eq_true_eq]at h;refine Acp (Bif K hc hx) (fun y c1 hy w1=>Av3 (Beu (by omega) _) ?_);rw[sbn (by omega) (by omega)];exact ih (i - 1) (m+1) c1 _ (by omega) (by omega) (hn.thing (by omega) hy) w1
  ·refine Acp (Aul K hc (by omega)) (fun y c1 hy w1=> ?_);have:=Bqt K K y.toNat 40 c1 n (by omega) (by omega) (hn.mono (by omega)) w1
   grind
theorem Blz{x:Fi}(hx:Aki x=true)(z:Az): ∀(f i m:Nat) (c:E2) (n:Az),i<f->m+i<=20->SN m n->Ahs c->OkP (Ayq K x f (i:Int) c.fb c.fi c.fh n z) (SN 50):=by
 obtain⟨b1,b2,_⟩:=Bd hx;have j: ∀(c:E2) (n:Az),SN 20 n->Ahs c->OkP (Ayp K x c.fb c.fi c.fh n) (SN 50):=by
  intro c n hn hc;unfold Ayp;refine Acp (Aul K hc (by omega)) (fun y c1 hy w1=> ?_);have:=Bqu hK hx K y.toNat 20 c1 n (by omega) (by omega) hn w1
  grind
 intro f;induction f with
 |zero=>omega
 |succ f ih=>
  intro i m c n hi hm hn hc;have:=hn.c;rw[Ayq];refine Ar1 (fun h=> ?_) (fun _=>Ar1 (fun h=> ?_) (fun _=>j _ _ (hn.mono (by omega)) hc))
  ·rw[decide_eq_true_eq]at h;refine Av3 (A9i (by omega) _) ?_;rw[sbn (by omega) (by omega)];exact ih (i - 1) (m+1) c _ (by omega) (by omega) (hn.chunk (by omega) (Gx (by omega) (by omega))) hc
  ·rw[decide_eq_true_eq]at h;refine Av3 ⟨by omega,h⟩ ?_;rw[ad1 (x:=x.Du) (by omega) (by omega)];refine Acp (Aul K hc (by omega)) (fun y c1 hy w1=> ?_);exact j c1 _ (SN.mono (m:=m) ⟨{hn.w with cur:=A04 _,bump:=Gx (x:=y) (by omega) (by omega)},hn.c,hn.t,hn.g⟩ (by omega)) w1
theorem Bl0{x:Fi}(hx:Aki x=true){c:E2}(hc:Ahs c):OkP (A3r K c x) (SN 50):=by
 obtain⟨b1,b2,b3,b4,b5,b6⟩:=Bd hx;unfold A3r Amn;have s0: ∀a b d:Int,wfi a->wfi b->wfi d->SN 0 (Az.mk a b d 0 0 0 0 0 [] 0 0 [] []):=fun a b d ha hb hd=>⟨⟨ha,hb,hd,Ax5,Ax5,Ax5,Ax5,Ax5,A0j,Ax5,Ax5,A5s,A0j⟩,by simp,by simp,by simp⟩
 refine Acp (Aul K hc (by omega)) (fun y1 c1 h1 w1=> ?_);rw[Z0];refine Acp (Aul K w1 (by omega)) (fun y2 c2 h2 w2=>Ar1 (fun _=>okp ((s0 _ _ _ (Gx (by omega) (by omega)) (A04 _) Ax5).mono (by omega)) w2) (fun _=> ?_));refine Acp (Aul K w2 (by omega)) (fun y3 c3 h3 w3=>Acp (Aul K w3 (by omega)) (fun y4 c4 h4 w4=> ?_));have:=Blz hK hx (Az.mk 0 0 0 0 0 0 0 0 [] 0 0 [] []) K y4.toNat 10 c4 _ (by omega) (by omega) ((s0 y2 (A1 1 y1) y3 (Gx (by omega) (by omega)) (A04 _) (Gx (by omega) (by omega))).mono (by omega)) w4
 grind
end
theorem Bde (a b d:Int)(ha:wfi a)(hb:wfi b)(hd:wfi d):ThingW (Bn.mk a b d):=⟨ha,hb,hd⟩
structure DP (c:Fi)(n:Az):Prop where
 l:Avn c n
 t:ThP c [] n
 e:EpP 1 n
theorem DP.w{c:Fi}{n:Az}(h:DP c n):At7 n:=A6y (Akn.2 h.l).1 h.e (by omega)
theorem Btf{c:Fi}{n:Az}(L:Avn c n)(e:EpP 1 n):SN 40 n:=⟨A6y (Akn.2 L).1 e (by omega),by have:=Awx L.conf L.dist;omega,by have:=L.nth;omega,by have:=L.ntag;omega⟩
theorem Big (K:Nat): ∀(f i m:Nat) (c:E2) (n:Az),i<f->m+i<=50->SN m n->Ahs c->OkP (Axq K f (i:Int) c.fb c.fi c.fh n) (SN 50):=by
 intro f;induction f with
 |zero=>omega
 |succ f ih=>
  intro i m c n hi hm hn hc;have:=hn.g;rw[Axq];refine Ar1 (fun h=> ?_) (fun _=>okp (hn.mono (by omega)) hc);rw[decide_eq_true_eq]at h;refine Acp (Aul K hc (by omega)) (fun y c1 hy w1=>Av3 (A9i (by omega) _) ?_);rw[sbn (by omega) (by omega)];exact ih (i - 1) (m+1) c1 _ (by omega) (by omega) (hn.tag (by omega) (Gx (by omega) (by omega))) w1
section
variable {K:Nat} (hK:281474976710656<=K)
include hK
theorem Bqv{x:Fi}(hx:Aki x=true){c:E2}(hc:Ahs c):OkP (A4r K c x) (SN 60):=by
 unfold A4r Amu;refine Acp (Bl0 hK hx hc) (fun n c1 hn w=> ?_);have:=hn.c;have:=hn.t;have:=hn.g;have W:=hn.w;have M:=hn.mono (k:=60) (by omega)
 repeat' (first|refine A7w _ (by assumption) (by decide) (fun x c hx hc=>Av3 rfl ?_)|refine Acp (Aul _ (by assumption) (by omega)) (fun x c hx hc=> ?_)|refine Ar1 (fun _=> ?_) (fun _=> ?_))
 ·exact okp ⟨{W with st:=A04 _},M.c,M.t,M.g⟩ (by assumption)
 ·exact okp ⟨{W with gen:=(by decide: ∀y∈([0,4,5]:List Int),wfi y) _ ‹_›},M.c,M.t,M.g⟩ (by assumption)
 ·exact okp ⟨{W with up:=(by decide: ∀y∈([-1,1,8,9]:List Int),wfi y) _ ‹_›},M.c,M.t,M.g⟩ (by assumption)
 ·exact Av3 (A9i (show n.Ad.length<=_ by omega) _) (okp ((hn.chunk (by omega) ((by decide: ∀y∈([0,12,-1]:List Int),wfi y) _ ‹_›)).mono (by omega)) (by assumption))
 ·exact okp ⟨{W with cur:=Gx (x:= ‹Int›) (by omega) (by omega)},M.c,M.t,M.g⟩ (by assumption)
 ·exact okp ⟨{W with bump:=(by decide: ∀y∈([0,8,17,-1]:List Int),wfi y) _ ‹_›},M.c,M.t,M.g⟩ (by assumption)
 ·exact Av3 (A9i (show n.Dh.length<=_ by omega) _) (okp ((hn.tag (by omega) ((by decide: ∀y∈([255,256,-1]:List Int),wfi y) _ ‹_›)).mono (by omega)) (by assumption))
 ·refine Av3 (Beu (show n.D5.length<=_ by omega) _) (okp ((hn.thing (by omega) (Bde _ _ _ ?_ ?_ ?_)).mono (by omega)) (by assumption))
  all_goals grind [Gx]
 simp_all[okp]
theorem Bev{c:Fi}{n:Az}(L:Avn c n)(e:EpP 1 n): ∃n' b,Au4 K c n 2 (A1 c.Du 1)=some (n',b)/\SN 40 n':=by
 have hm:=V1;obtain⟨b1,b2,_⟩:=Bd L.conf;have S:=Btf L e;have W:=S.w;have h1:=Awx L.conf L.dist;have h3:=L.nth;have h4:=L.ntag;have q1:2*c.Du<=c.Ad*c.Du:=Int.mul_le_mul_of_nonneg_right (by omega) (by omega);have hby:Aoy c=c.Ad*c.Du:=by unfold Aoy;rw[L.conf];rfl
 have done: ∃n' b,some (n,false)=some (n',b)/\SN 40 n':=⟨_,_,rfl,S⟩;unfold Au4 Asj Ao7;rw[ad1 (x:=c.Du) (by omega) (by omega),Awy K W,Z0,Avm,L.conf];simp only[Z0,cond_true];rw[show(n.G4 != 1)=false by rw[L.st];rfl,cond_false,decide_eq_true (by omega),cond_true,Ayd,Z0,decide_eq_false (by omega),cond_false,Aml,A0h hK L.conf];simp only[Z0];cases q:inB 2 0 (c.Ad - 1)with
 |false=>exact done
 |true=>
 simp only[Bool.not_true,cond_false];have hr:Ax7 (c.Du+1) c.Du=2:=by
  unfold Ax7;rw[Wy.2 ⟨by omega,by omega⟩,Wy.2 ⟨by omega,by omega⟩];show(c.Du+1+c.Du - 1) / c.Du=2;rw[show c.Du+1+c.Du - 1=c.Du*2 by omega,Int.mul_ediv_cancel_left _ (by omega)]
 rw[A4u,Z0,hr,Z0];obtain⟨k,rfl⟩: ∃k,K=k+3:=⟨K - 3,by omega⟩;have e3: ∀i:Nat,i<=2->A1 2 (i:Int)=2+i:=fun i hi=>by grind [A1,Lc,Ht]
 have s1:=A9i (l:=n.Ad) (by omega) (A1 2 0);have s2:=A9i (l:=n.Ad++[A1 2 0]) (by grind) (A1 2 (A1 0 1));have s3:=Beu (l:=n.D5) (by omega) (Bn.mk (K1 2 c.Du) (c.Du+1) 2);rw[Aph,show decide ((0:Int)<2)=true from rfl,cond_true];rw[if_pos s1,Aph,show decide (A1 0 1<2)=true from rfl,cond_true];simp only;rw[if_pos s2,Aph,show decide (A1 (A1 0 1) 1<2)=false from rfl,cond_false];simp only;rw[if_pos s3,Azv hK c (Az.mk n.G4 n.C7 n.Nb n.fUp n.G5 n.Bz n.G6 n.G7 (n.Ad++[A1 2 0]++[A1 2 (A1 0 1)]) n.No n.G8 (n.D5++[Bn.mk (K1 2 c.Du) (c.Du+1) 2]) n.Dh) (by grind) (by grind) (show n.Dh.length<=_ by omega),Z0];cases q3:Ava c (Az.mk n.G4 n.C7 n.Nb n.fUp n.G5 n.Bz n.G6 n.G7 (n.Ad++[A1 2 0]++[A1 2 (A1 0 1)]) n.No n.G8 (n.D5++[Bn.mk (K1 2 c.Du) (c.Du+1) 2]) n.Dh)with
 |false=>
  simp_all[Awy]
 |true=>
  exact⟨_,_,rfl,Btf (Akn.1 ⟨q3,L.st⟩) ⟨e.ep,e.ue,e.cur⟩⟩
theorem Bih{x:Fi}(hx:Aki x=true)(z:Az): ∀(f i:Nat) (c:E2) (n:Az),i<f->i<=20->DP x n->Ahs c->OkP (Axs K x f (i:Int) c.fb c.fi c.fh n z) (SN 50):=by
 obtain⟨b1,b2,_⟩:=Bd hx;have j: ∀(c:E2) (n:Az),SN 40 n->Ahs c->OkP (Axr K c.fb c.fi c.fh n) (SN 50):=by
  intro c n hn hc;unfold Axr;refine Acp (Aul K hc (by omega)) (fun y c1 hy w1=> ?_);have:=Big K K y.toNat 40 c1 n (by omega) (by omega) hn w1
  grind
 intro f;induction f with
 |zero=>omega
 |succ f ih=>
  intro i c n hi hm hn hc;rw[Axs];refine Ar1 (fun h=> ?_) (fun _=> ?_)
  ·rw[decide_eq_true_eq]at h;refine Acp (Aul K hc (by omega)) (fun y c1 hy w1=>A7w K w1 (by decide) (fun a c2 ha w2=>Av3 rfl ?_));have e:A1 1 y=1+y:=by grind [A1,Lc,Ht]
   obtain⟨n',b,e2,h2⟩:=Bae hK hn.l hn.w hn.e.cur (1+y) a ⟨by omega,by omega⟩;dsimp only;rw[e,e2,Z0,sbn (by omega) (by omega)];have h3:DP x n':=by
    rcases h2 with rfl|⟨off,hs,rfl⟩
    ·exact hn
    ·obtain⟨l1,l2⟩:=Bgh hn.l hn.e.cur hn.t hs;exact⟨l1,l2,⟨hn.e.ep,hn.e.ue,hn.e.cur⟩⟩
   grind
  ·obtain⟨r,e,w⟩:=A16 K hc (n:=3) (by omega);rw[show E2.mk c.fb c.fi c.fh=c from rfl,e,Z0];refine Ar1 (fun _=> ?_) (fun _=>j _ _ (Btf hn.l hn.e) w);obtain⟨n',b,e2,h2⟩:=Bev hK hn.l hn.e
   grind
theorem Bii{x:Fi}(hx:Aki x=true){c:E2}(hc:Ahs c):OkP (A2q K c x) (SN 50):=by
 obtain⟨b1,b2,b3,b4,b5,b6⟩:=Bd hx;unfold A2q Amn;refine Acp (Aul K hc (by omega)) (fun y1 c1 h1 w1=> ?_);rw[Z0];refine Acp (Aul K w1 (by omega)) (fun y2 c2 h2 w2=>Acp (Aul K w2 (by omega)) (fun y3 c3 h3 w3=> ?_));dsimp only;have e:A1 1 y1=1+y1:=by grind [A1,Lc,Ht]
 rw[e];have L:Avn x (Az.mk 1 (1+y1) y2 0 0 0 0 0 [] 0 0 [] []):=⟨hx,rfl,⟨by grind,by grind⟩,⟨by grind,by grind⟩,⟨by grind,by grind⟩,⟨by grind,by grind⟩,⟨by grind,by grind⟩,h2.1,by grind,rfl,rfl,by simp,by simp,rfl,rfl⟩;have E:EpP 1 (Az.mk 1 (1+y1) y2 0 0 0 0 0 [] 0 0 [] []):=⟨by grind,by grind,by grind,by grind⟩;have L2:=A9t L (k:=y3) ⟨by omega,by omega⟩ (by simp);rw[A9u hK L (Btf L E).w ⟨by omega,by omega⟩ (by simp),Z0];have D:DP x (A79 (Az.mk 1 (1+y1) y2 0 0 0 0 0 [] 0 0 [] []) y3):=⟨L2,⟨rfl,rfl,by simp[Av6,A79,Ary]⟩,⟨E.ep,E.ue,by show 0<=y3+1;omega,by show y3+1<=1000;omega⟩⟩;refine Acp (Aul K w3 (by omega)) (fun y4 c4 h4 w4=> ?_);have:=Bih hK hx (Az.mk 0 0 0 0 0 0 0 0 [] 0 0 [] []) K y4.toNat c4 _ (by omega) (by omega) D w4;rw[Int.toNat_of_nonneg (by omega)]at this;exact this
structure SW (m:Nat)(x:Bb):Prop where
 w:A0m x
 g:x.Dh.length<=m
 c:x.Ad.length<=m
theorem Bl1{x:Fi}(hx:Aki x=true){c:E2}(hc:Ahs c):OkP (A3s K c x) (SW 60):=by
 obtain⟨b1,b2,b3,b4,b5,b6⟩:=Bd hx;have j: ∀(c:E2) (a z:Bb),SW 50 a->Ahs c->OkP (Axt K c.fb c.fi c.fh a z) (SW 50):=by
  intro c a z ha hc;unfold Axt A0d;obtain⟨r,e,w⟩:=A16 K hc (n:=4) (by omega);rw[show E2.mk c.fb c.fi c.fh=c from rfl,e,Z0];exact Ar1 (fun _=>okp ⟨⟨ha.w.slot,ha.w.first,A0j,A0j,Ax5⟩,by simp,by simp⟩ w) (fun _=>okp ha w)
 have d:OkP (A2r K c x) (SW 50):=by
  unfold A2r;refine Acp (Bii hK hx hc) (fun n c1 hn w1=> ?_);dsimp only;rw[ad1 (x:=x.Cd) (by omega) (by omega)];refine Acp (Aul K w1 (by omega)) (fun y2 c2 h2 w2=> ?_);dsimp only;rw[A6t K hn.w,Z0];have W:=Bbg hn.w (s:=y2) (Gx (by omega) (by omega));refine Acp (Aul K w2 (by omega)) (fun y3 c3 h3 w3=> ?_);have hf:wfi y3:=Gx (by omega) (by omega);refine Ar1 (fun _=>Acp (Aul K w3 (by omega)) (fun y4 c4 h4 w4=> ?_)) (fun _=>j _ _ _ ⟨⟨W.slot,hf,W.tags,W.chunks,Ax5⟩,hn.g,hn.c⟩ w3);exact j _ _ _ ⟨⟨W.slot,hf,W.tags,W.chunks,Gx (x:=y4) (by omega) (by omega)⟩,hn.g,hn.c⟩ w4
 unfold A3s At3;refine Acp d (fun a c1 ha w=> ?_);have h1:=ha.g;have h2:=ha.c;have W:=ha.w
 repeat' (first|refine A7w _ (by assumption) (by decide) (fun x c hx hc=>Av3 rfl ?_)|refine Acp (Aul _ (by assumption) (by omega)) (fun x c hx hc=> ?_)|refine Ar1 (fun _=> ?_) (fun _=> ?_))
 ·exact okp ⟨{W with slot:=(by decide: ∀y∈([-1,0,8,9]:List Int),wfi y) _ ‹_›},show a.Dh.length<=60 by omega,show a.Ad.length<=60 by omega⟩ (by assumption)
 ·exact okp ⟨{W with first:=(by decide: ∀y∈([-1,9,0]:List Int),wfi y) _ ‹_›},show a.Dh.length<=60 by omega,show a.Ad.length<=60 by omega⟩ (by assumption)
 ·exact okp ⟨{W with done:=(by decide: ∀y∈([-1,0,8,16]:List Int),wfi y) _ ‹_›},show a.Dh.length<=60 by omega,show a.Ad.length<=60 by omega⟩ (by assumption)
 ·exact Av3 (A9i (show a.Dh.length<=_ by omega) _) (okp ⟨{W with tags:=A63 W.tags (by omega) ((by decide: ∀y∈([-1,255,256]:List Int),wfi y) _ ‹_›)},by grind,show a.Ad.length<=60 by omega⟩ (by assumption))
 ·exact Av3 (A9i (show a.Ad.length<=_ by omega) _) (okp ⟨{W with chunks:=A63 W.chunks (by omega) ((by decide: ∀y∈([-1,0,12]:List Int),wfi y) _ ‹_›)},show a.Dh.length<=60 by omega,by grind⟩ (by assumption))
 ·exact okp ⟨W,show a.Dh.length<=60 by omega,show a.Ad.length<=60 by omega⟩ (by assumption)
end
structure AnyP (w:Bo):Prop where
 ww:Ar0 w
 l:w.fL.length<=8
 s:w.fP.G4.length<=12/\w.fP.Fq.length<=12/\w.fP.Fp.length<=192
 q:w.fQ.length<=40000
 g:w.Jp.length<=40000
 n: ∀x∈w.fL,SN 80 x
theorem Bew{l:List Bb}(h:Bap l)(hl:l.length<=100000){x:Bb}(hx:A0m x):Bap (l++[x]):=by
 refine⟨fun y hy=> ?_,by grind⟩;rcases N0.1 hy with hy|hy
 ·exact h.1 y hy
 grind
theorem A4y{α:Type}{l:List α}{P:α->Prop}(h: ∀x∈l,P x)(i:Nat){x:α}(hx:P x): ∀y∈l.set i x,P y:=by
 grind
theorem AnyP.node{w:Bo}(h:AnyP w)(i:Nat){x:Az}(hx:SN 80 x):AnyP (Bo.mk w.fC w.fP (w.fL.set i x) w.fQ w.Jp):=
 ⟨{h.ww with l:=A49 h.ww.l i hx.w},by show(w.fL.set i x).length<=8;grind [l],h.s,h.q,h.g,A4y h.n i hx⟩
section
variable {K:Nat} (hK:281474976710656<=K)
include hK
theorem Bl2{c:E2}(hc:Ahs c){most:Int}(hm:0<most/\most<=1000):OkP (A3t K c most) AnyP:=by
 obtain⟨x,l,w,c',E,n,e,G,hE,hn,hwc,hx,_,_,w1⟩:=run_ok hK hc hm;have W:=G.ww (by omega) (by omega);have I:=G.inv;have hlen:=I.len;obtain⟨b1,b2,b3,b4,b5,b6⟩:=Bd I.conf;have P:=Akj.1 I.pool;have h1:=Bpx w;have h2:=Bek w;have h3:=G.wt;have p1:=P.st;have p2:=P.own;have p3:=P.mem;have hmm:=Azd (a:=w.fC.Ad) (b:=w.fC.Du) (m:=12) (n:=16) (by omega) b1.2 (by omega) b2.2;have hm0:0<w.fC.Ad*w.fC.Du:=Int.mul_pos (by omega) (by omega);have N: ∀y∈w.fL,SN 12 y:=A8t fun k hk=>by
  have hb:=I.node k hk;have hy:=A6y hb (G.ep k hk) (by omega);by_cases s:(gt w.fL k).G4=1
  ·have X:=Akn.1 ⟨hb,s⟩;have:=X.nth;have:=X.ntag;have:=Awx X.conf X.dist;exact⟨hy,by omega,by omega,by omega⟩
  ·rw[A27 hb s]at hy ⊢;exact⟨hy,by simp[Asd],by simp[Asd],by simp[Asd]⟩
 have A:AnyP w:=⟨W,by omega,by omega,by omega,by omega,fun y hy=>(N y hy).mono (by omega)⟩;unfold A3t Aym;rw[e,Z0,Z0];refine Acp (Aul K w1 (by grind)) (fun k c2 hk w2=>Acp (Aul K w2 (by omega)) (fun d c3 hd w3=> ?_));dsimp only at hk ⊢;have hg:=Akl hk.1 hk.2;have S:=N _ hg;have SW':=S.w;have St:=S.t;have M:=S.mono (k:=80) (by omega);unfold Aaj;refine Ar1 (fun _=>Acp (Bqs K w3) (fun y c4 hy w4=>okp ⟨{W with c:=hy},A.l,A.s,A.q,A.g,A.n⟩ w4)) (fun _=> ?_);refine Ar1 (fun _=>Acp (Aul K w3 (by omega)) (fun y c4 hy w4=>Acp (Aul K w4 (by omega)) (fun z c5 hz w5=>Av3 hy (okp ⟨{W with p:={W.p with st:=⟨A4y W.p.st.1 _ (Gx (x:=z) (by omega) (by omega)),by grind⟩}},A.l,by grind,A.q,A.g,A.n⟩ w5)))) (fun _=> ?_);refine Ar1 (fun _=>Acp (Aul K w3 (by omega)) (fun y c4 hy w4=>Av3 hy (okp ⟨{W with p:={W.p with mem:=⟨A4y W.p.mem.1 _ ⟨by decide,by decide⟩,by grind⟩}},A.l,by grind,A.q,A.g,A.n⟩ w4))) (fun _=> ?_);refine Ar1 (fun _=>Acp (Bqv hK I.conf w3) (fun y c4 hy w4=>Av3 hk (okp (A.node _ (hy.mono (by omega))) w4))) (fun _=> ?_);refine Ar1 (fun _=>Acp (Aul K w3 (by omega)) (fun y c4 hy w4=>Av3 hk (okp (A.node _ ⟨{SW' with st:=Gx (x:=y) (by omega) (by omega)},M.c,M.t,M.g⟩) w4))) (fun _=> ?_);refine Ar1 (fun _=>Acp (Aul K w3 (by omega)) (fun y c4 hy w4=>Av3 hk (okp (A.node _ ⟨{SW' with up:=Gx (x:=y) (by omega) (by omega)},M.c,M.t,M.g⟩) w4))) (fun _=> ?_);refine Ar1 (fun _=>Av3 hk (Av3 hk (okp (A.node _ ⟨{SW' with ep:=A04 _},M.c,M.t,M.g⟩) w3))) (fun _=> ?_);refine Ar1 (fun _=>Acp (Bl1 hK I.conf w3) (fun y c4 hy w4=>Av3 ?_ (okp ⟨{W with q:=Bew W.q (by omega) hy.w},A.l,A.s,by grind,A.g,A.n⟩ w4))) (fun _=> ?_)
 ·grind [V1]
 refine Ar1 (fun _=>Ar1 (fun h=> ?_) (fun _=>okp A w3)) (fun _=> ?_)
 ·rw[decide_eq_true_eq]at h;refine Av3 ⟨by omega,by omega,by omega⟩ (okp ⟨{W with q:=⟨fun y hy=>W.q.1 y (List.mem_of_mem_drop (Z42 hy)),by grind⟩},A.l,A.s,by grind,A.g,A.n⟩ w3)
 refine Ar1 (fun _=>A7w K w3 (by decide) (fun y c4 hy w4=>Av3 rfl (Av3 ?_ (okp ⟨{W with log:=⟨fun z hz=> ?_,by grind⟩},A.l,A.s,A.q,by grind,A.n⟩ w4)))) (fun _=> ?_)
 ·grind [V1]
 ·rcases N0.1 hz with hz|hz
  ·exact W.log.1 z hz
  ·rw[S9.1 hz];exact(by decide: ∀y∈([0,255,256,-1]:List Int),wfi y) _ hy
 refine Ar1 (fun _=>Av3 hk (Av3 hk (Acp (Aul K w3 (by omega)) (fun y c4 hy w4=>Av3 (Beu (by omega) _) (Av3 hk (okp (A.node _ ((S.thing (by omega) (Bde _ _ _ (Gx (x:=y) (by omega) (by omega)) (Gx (by decide) (by decide)) Ax5)).mono (by omega))) w4)))))) (fun _=> ?_);refine Ar1 (fun _=>Acp (Aul K w3 (by omega)) (fun y c4 hy w4=>Av3 hk (okp (A.node _ ⟨{SW' with next:=Gx (x:=y) (by omega) (by omega)},M.c,M.t,M.g⟩) w4))) (fun _=> ?_);refine Ar1 (fun _=>Ar1 (fun h=> ?_) (fun _=>okp A w3)) (fun _=>okp A w3);rw[decide_eq_true_eq]at h;refine Acp (Aul K w3 (by omega)) (fun y c4 hy w4=>Av3 ⟨by omega,h⟩ (okp ⟨{W with q:=⟨A4y W.q.1 _ {W.q.1 _ (Akl (i:=0) (by omega) h)with done:=Gx (x:=y) (by omega) (by omega)},by grind⟩},A.l,A.s,by grind,A.g,A.n⟩ w4))
end
theorem Bij{w:Bo}(h:A3h w=true):A5w w.fC w.fP:=by
 unfold A3h at h;rw[Z4]at h;exact Akj.1 h.1
section
variable {K:Nat} (hK:281474976710656<=K)
include hK
end
section
variable {K:Nat} (hK:281474976710656<=K)
include hK
end
section
variable {K:Nat} (hK:281474976710656<=K)
include hK
end
theorem adG{a b:Int}(h0: -1000000000<=a+b)(h1:a+b<=1000000000):A1 a b=a+b:=by unfold A1 Lc;rw[Ht (by omega) (by omega)]
theorem sbG{a b:Int}(h0: -1000000000<=a - b)(h1:a - b<=1000000000):Ap a b=a - b:=by unfold Ap Asu;rw[Ht (by omega) (by omega)]
def wto (c:Fi)(d:Int):Int:=if c.Du<d+c.Ce then c.Du else d+c.Ce
def A8a (c:Fi)(p:Ef)(k d:Int):List Int:=A01 p.Fp (k*c.Du+d).toNat (wto c d - d).toNat
def A7x (c:Fi)(p:Ef)(k d:Int):Ef×Bool:=
 bif Aw2 c p&&(inB k 0 (c.Ad - 1)&&(gt p.G4 k==2&&inB d 0 (c.Du - 1)))then
  (if wto c d<c.Du then(Ef.mk (A8a c p k d) p.G4 p.Fq,false)
   else bif Ary (((A8a c p k d).drop (k*c.Du).toNat).take c.Du.toNat)then(Ef.mk (A8a c p k d) (p.G4.set k.toNat 0) p.Fq,true)else(p,false))
 else(p,false)
section
variable {K:Nat} (hK:281474976710656<=K)
include hK
theorem Bik (c:Fi){p:Ef}(hw:A0k p)(k d:Int):Awc K c p k d=some (A7x c p k d):=by
 unfold Awc A7x;rw[A31 K hw,Z0,A7g hK,Z0];cases hp:Aw2 c p with
 |false=>rfl
 |true=>
 have hc:=(Avt hp).1;have P:=Akj.1 hp;obtain⟨b1,b2,b3,b4,b5,b6⟩:=Bd hc;rw[A0h hK hc,Aml];simp only[cond_true,Z0,Z30];cases h1:inB k 0 (c.Ad - 1)with
 |false=>rfl
 |true=>
 have hk:=Wy.1 h1;have hst:=P.st;rw[cond_true,if_pos (show 0<=k/\k<(p.G4.length:Int) from⟨hk.1,by omega⟩)];cases h2:(gt p.G4 k==2)with
 |false=>simp only[bne,h2];rfl
 |true=>
 simp only[bne,h2,Bool.not_true,cond_false,Z30];rw[Aml,A6g hc];cases h3:inB d 0 (c.Du - 1)with
 |false=>rfl
 |true=>
 have hd:=Wy.1 h3;have hk2:k<c.Ad:=by omega
 obtain⟨e1,e2,e3,e4⟩:=A3z hc P.mem hk.1 hk2;have hl:p.Fp.length<=192:=A6k P;have es:A1 d c.Ce=d+c.Ce:=adG (by omega) (by omega);have ht:d<=wto c d/\wto c d<=c.Du:=by unfold wto;split<;>omega
 have el:Az5 K (d+c.Ce) c.Du=some (wto c d):=by
  unfold Az5 wto
  grind
 have ea:A1 (k*c.Du) d=k*c.Du+d:=adG (by omega) (by omega);have en:Ap (wto c d) d=wto c d - d:=sbG (by omega) (by omega);simp only[Z0,Bool.not_true,cond_false,cond_true];rw[es,el,e1,ea,Z0,en,Bc4 hK (by omega) ⟨by omega,by omega⟩ (by omega) (by omega),Z0];show(bif decide (wto c d<c.Du)then _ else _)=_;by_cases q:wto c d<c.Du
 ·rw[decide_eq_true q,if_pos q];rfl
 ·rw[decide_eq_false q,if_neg q,cond_false,e2,if_pos ⟨by omega,by omega,by show _<=((A01 _ _ _).length:Int);rw[Awz];omega⟩];have et:(k*c.Du+c.Du - k*c.Du).toNat=c.Du.toNat:=by congr 1;omega
  rw[et];show(Avk K ((List.drop (k*c.Du).toNat (A8a c p k d)).take c.Du.toNat)).bind _=_;rw[A3y hK _ (by rw[List.length_take,List.length_drop,show(A8a c p k d).length=p.Fp.length from Awz _ _ _];omega),Z0];cases h4:Ary (((A8a c p k d).drop (k*c.Du).toNat).take c.Du.toNat)with
  |false=>rfl
  |true=>simp only[Bool.not_true,cond_false,cond_true];rw[if_pos ⟨hk.1,by omega⟩];rfl
omit hK in
theorem Bqw (mem:List Int){a n:Nat}(h:a+n<=mem.length):A01 mem a n=mem.take a++List.replicate n 0++mem.drop (a+n):=by
 apply List.ext_getElem?;intro j;unfold A01;rw[Ek];rcases Hi j mem.length with hj|hj
 ·rw[List.getElem?_range hj,Ta];rcases Hi j a with q|q
  ·rw[if_neg (by omega),Z31,Vv (by simp;omega),Z40,if_pos q,Wx hj,Fz hj]
  ·rcases Hi j (a+n)with r|r
   ·rw[if_pos ⟨q,r⟩,Vv (by simp;omega),Nz (by simp;omega),List.getElem?_replicate,if_pos (by simp;omega)]
   ·rw[if_neg (by omega),Nz (by simp;omega),Z50,Wx hj];simp only[Z23,List.length_take,List.length_replicate];rw[show a+n+(j - (min a mem.length+n))=j by omega,Fz hj]
 ·rw[Z58 (by simpa using hj),Z58 (by simp;omega)];rfl
omit hK in
theorem Bqx{mem:List Int}{a d n:Nat}:Ary (((A01 mem (a+d) (n - d)).drop a).take n)=Ary ((mem.drop a).take (min d n)):=by
 rw[Bool.eq_iff_iff,A5b,A5b,Awz];constructor
 ·intro h j h1 h2 h3;have:=h j h1 (by omega) h3;rw[A4x h3,if_neg (by omega)]at this;exact this
 ·intro h j h1 h2 h3;rw[A4x h3];split
  ·rfl
  ·exact h j h1 (by omega) h3
theorem Bil (c:Fi){p:Ef}(hw:A0k p)(k d:Int):A1r K c p k d=some (A7x c p k d):=by
 unfold A1r A7x;rw[A56 K hw,Z0,A90 hK,Z0];cases hp:Aw2 c p with
 |false=>rfl
 |true=>
 have hc:=(Avt hp).1;have P:=Akj.1 hp;obtain⟨b1,b2,b3,b4,b5,b6⟩:=Bd hc;rw[A0h hK hc,Awh];simp only[cond_true,Z0,Z30];cases h1:inB k 0 (c.Ad - 1)with
 |false=>rfl
 |true=>
 have hk:=Wy.1 h1;have hst:=P.st;rw[cond_true,if_pos (show 0<=k/\k<(p.G4.length:Int) from⟨hk.1,by omega⟩)];cases h2:(gt p.G4 k==2)with
 |false=>simp only[bne,h2];rfl
 |true=>
 simp only[bne,h2,Bool.not_true,cond_false,Z30];rw[Awh,A6g hc];cases h3:inB d 0 (c.Du - 1)with
 |false=>rfl
 |true=>
 have hd:=Wy.1 h3;have hk2:k<c.Ad:=by omega
 obtain⟨e1,e2,e3,e4⟩:=A3z hc P.mem hk.1 hk2;have hl:p.Fp.length<=192:=A6k P;have es:A1 d c.Ce=d+c.Ce:=adG (by omega) (by omega);have ht:d<=wto c d/\wto c d<=c.Du/\d<wto c d:=by unfold wto;split<;>omega
 have em:Ada (d+c.Ce) c.Du=wto c d:=by
  unfold Ada wto;split<;>(try split)<;>omega
 have hj: ∀(v:Bool) (z:Ef),Awu K c k d p v z=some (Ef.mk (A8a c p k d) (bif v then p.G4.set k.toNat 0 else p.G4) p.Fq,v):=by
  intro v z;unfold Awu Azb;rw[e1,e2,es,em,if_pos ⟨by omega,by omega,by omega⟩,if_pos ⟨by omega,by omega,by omega⟩,if_pos (by omega),if_pos ⟨hk.1,by omega⟩];have hm:p.Fp.take (k*c.Du+d).toNat++List.replicate (k*c.Du+wto c d - (k*c.Du+d)).toNat 0++p.Fp.drop ((k*c.Du+d).toNat+(k*c.Du+wto c d - (k*c.Du+d)).toNat)=A8a c p k d:=by
   unfold A8a;rw[show(k*c.Du+wto c d - (k*c.Du+d)).toNat=(wto c d - d).toNat by congr 1;omega,Bqw _ (by omega)]
  rw[hm];cases v<;>rfl
 simp only[Z0,Bool.not_true,cond_false,cond_true,es];by_cases q:wto c d<c.Du
 ·have hq: ¬(d+c.Ce>=c.Du):=by unfold wto at q;split at q<;>omega
  rw[decide_eq_false hq,cond_false,hj,if_pos q];rfl
 ·have hq:d+c.Ce>=c.Du:=by unfold wto at q;split at q<;>omega
  have hto:wto c d=c.Du:=by omega
  rw[decide_eq_true hq,cond_true,A8i hK hc P.mem hk.1 (by omega),Z0,if_neg q];have hcl:(Aw1 c p.Fp k).length=c.Du.toNat:=by unfold Aw1;rw[List.length_take,List.length_drop];omega
  rw[if_pos ⟨by omega,hd.1,by omega⟩,A5n hK _ (by rw[List.length_take];omega),Z0];have hz:Ary ((List.drop (0:Int).toNat (Aw1 c p.Fp k)).take (d - 0).toNat)=Ary (((A8a c p k d).drop (k*c.Du).toNat).take c.Du.toNat):=by
   have:=Bqx (mem:=p.Fp) (a:=(k*c.Du).toNat) (d:=d.toNat) (n:=c.Du.toNat);unfold A8a;rw[hto,show(k*c.Du+d).toNat=(k*c.Du).toNat+d.toNat by omega,show(c.Du - d).toNat=c.Du.toNat - d.toNat by omega,this];unfold Aw1;rw[show Int.toNat 0=0 from rfl,Z55,List.take_take,show(d - 0).toNat=d.toNat by congr 1;omega]
  rw[hz];cases Ary (((A8a c p k d).drop (k*c.Du).toNat).take c.Du.toNat)with
  |false=>rfl
  |true=>simp only[Bool.not_true,cond_false,cond_true];rw[hj];rfl
end
def Bex (c:Fi)(x:Bb)(b:Bool):Bb:=bif b then Bb.mk x.Be x.Bz x.Dh (x.Ad.drop 1) 0 else Bb.mk x.Be x.Bz x.Dh x.Ad (A1 x.H2 c.Ce)
def A9x (w:Bo)(x:Bb)(qs:List Bb):Bo:=
 Bo.mk w.fC (A7x w.fC w.fP (gt x.Ad 0) x.H2).1 w.fL (Bex w.fC x (A7x w.fC w.fP (gt x.Ad 0) x.H2).2::qs) w.Jp
def Bai (w:Bo)(x:Bb)(qs:List Bb):Bo:=
 if 0<x.Dh.length then A6z w x qs else if 0<x.Ad.length then A9x w x qs else if x.Bz=0 then A5y w x qs else Az3 w x qs
def A7y (w:Bo):Bo:=match w.fQ with
 |[]=>w
 |x::qs=>Bai w x qs
def ND (s:Nat)(n:Az):Prop:=(0<=n.G6/\n.G6<=(s:Int))/\(0<=n.Bz/\n.Bz<=(s:Int))/\(0<=n.C7/\n.C7<=1000)
structure Tot (w:Bo)(m:Nat):Prop where
 ww:Ar0 w
 conf:Aki w.fC=true
 len:w.fL.length<=1000
 nd: ∀n∈w.fL,ND w.fL.length n
 q: ∀x∈w.fQ,(0<=x.Bz/\x.Bz<=(w.fL.length:Int))/\(0<=x.Be/\x.Be<=(w.fL.length:Int))
 ql:w.fQ.length<=m
 ll:w.Jp.length<=m
theorem Tot.mono{w:Bo}{m n:Nat}(T:Tot w m)(h:m<=n):Tot w n:={T with ql:=S5 T.ql h,ll:=S5 T.ll h}
theorem Btg{c:Fi}{p:Ef}(hw:A0k p)(k d:Int):A0k (A7x c p k d).1:=by
 have hm:Bhe (A8a c p k d):=by
  refine⟨A8t fun j hj=> ?_,by unfold A8a;rw[Awz];exact hw.mem.2⟩;unfold A8a at hj ⊢;rw[Awz]at hj;obtain⟨i,rfl⟩: ∃i:Nat,j=i:=⟨j.toNat,by omega⟩;rw[A4x (by omega)];split
  ·exact⟨by decide,by decide⟩
  ·exact hw.mem.1 _ (Aty (by omega))
 unfold A7x;cases Aw2 c p&&(inB k 0 (c.Ad - 1)&&(gt p.G4 k==2&&inB d 0 (c.Du - 1)))with
 |false=>exact hw
 |true=>
  rw[cond_true];split
  ·exact⟨hm,hw.st,hw.own⟩
  ·cases Ary (((A8a c p k d).drop (k*c.Du).toNat).take c.Du.toNat)with
   |false=>exact hw
   |true=>exact⟨hm,⟨A4y hw.st.1 _ Ax5,by show(p.G4.set _ _).length*8<=_;rw[Z49];exact hw.st.2⟩,hw.own⟩
section
variable {K:Nat} (hK:281474976710656<=K)
include hK
omit hK in
theorem Bth (K:Nat){w:Bo}{x:Bb}{qs:List Bb}(hq:w.fQ=x::qs)(h0:0<x.Dh.length)(h6:x.Dh.length<=17592186044415)(hl:w.Jp.length<=1000000000):Ayy K w=some (A6z w x qs):=by
 have hm:=V1;unfold Ayy;rw[hq,gt0];have e:Ap (x.Dh.length:Int) 1=((x.Dh.length - 1:Nat):Int):=by unfold Ap Asu;rw[Ht (by omega) (by omega)];omega
 rw[e,if_pos ⟨by omega,by simp⟩,if_pos ⟨by omega,by omega⟩,if_pos ⟨by grind,by grind⟩,if_pos ⟨by omega,by omega,by omega⟩,A8j,Z38,if_pos ⟨by grind,by grind⟩];rfl
theorem Bqy{w:Bo}{m:Nat}(hm:m<=1000000000)(T:Tot w m){x:Bb}{qs:List Bb}(hq:w.fQ=x::qs)(hf:x.Bz≠0):Axh K w=some (Az3 w x qs):=by
 have hmx:=V1;have hw:=T.ww;have hX:=T.q x (by rw[hq];exact List.mem_cons_self);have hlen:=T.len;have hk:0<=x.Bz - 1/\x.Bz - 1<(w.fL.length:Int):=⟨by omega,by omega⟩;have hn:=hw.l.1 _ (Akl hk.1 hk.2);have e1:Ap x.Bz 1=x.Bz - 1:=sb1 (by omega) (by omega);have e2:A1 (x.Bz - 1) 1=x.Bz:=by rw[ad1 (by omega) (by omega)];omega
 have hnx:=(T.nd _ (Akl hk.1 hk.2)).1;have hlq:(w.fQ).length=qs.length+1:=by rw[hq];rfl
 have hQ:=T.ql;have hj: ∀(l:List Az) (q:List Bb),l.length=w.fL.length->q.length=w.fQ.length->Aub K (gt w.fL (x.Bz - 1)) (x.Bz - 1) w.fC.Ad w.fC.Du w.fC.Cd w.fC.Ez w.fC.Ce w.fC.Dv w.fP.Fp w.fP.G4 w.fP.Fq l q w.Jp=some (Bo.mk w.fC (Ah0 w.fP (gt w.fL (x.Bz - 1)).Ad) (l.set (x.Bz - 1).toNat (Asd 2 (gt w.fL (x.Bz - 1)).C7)) (Aio (gt w.fL (x.Bz - 1)) x.Bz::q) w.Jp):=by
  intro l q hl1 hq1;have h8:=hn.tags.2;have h9:=hn.chunks.2;unfold Aub;rw[Bgb hK (Bo.mk w.fC w.fP l q w.Jp) hw.p _ (A3e hK hn.chunks),Z0];unfold A12 A1a;simp only[Z0,Z38,List.singleton_append,Z28];simp only[hl1,if_pos hk,e2,Z0]
  iterate 4 (try rw[if_pos ⟨by omega,by omega⟩])
  try simp only[Z0]
  iterate 4 (try rw[if_pos ⟨by omega,by omega⟩])
  rfl
 unfold Axh;rw[hq,gt0,if_pos ⟨by omega,by simp⟩,e1];simp only[if_pos hk];rw[Awy K hn,Z0,if_pos ⟨by omega,by simp⟩,Azw,Z0];unfold Az3 Ayx;have hp:plB w.fL (gt w.fL (x.Bz - 1)).G6=decide (1<=(gt w.fL (x.Bz - 1)).G6/\(gt w.fL (x.Bz - 1)).G6<=(w.fL.length:Int)):=by
  rw[Bool.eq_iff_iff,A6v (by omega) (by omega),decide_eq_true_iff];omega
 rw[hp];by_cases q:1<=(gt w.fL (x.Bz - 1)).G6/\(gt w.fL (x.Bz - 1)).G6<=(w.fL.length:Int)
 ·rw[decide_eq_true q];simp only[cond_true];rw[sb1 (by omega) (by omega),if_pos ⟨by omega,by omega⟩];unfold Au7;exact hj _ _ (by rw[Z49]) (by rw[hq];rfl)
 ·rw[decide_eq_false q];simp only[cond_false];exact hj _ _ rfl (by rw[hq];rfl)
theorem Bb8{w:Bo}{m:Nat}(hm:m<=1000000000)(T:Tot w m)(h0:0<w.fQ.length):Auq K w=some (A7y w):=by
 have hmx:=V1;have W:=T.ww;have hQ:=T.ql;have hL:=T.ll;unfold A7y;cases hq:w.fQ with
 |nil=>rw[hq]at h0;cases h0
 |cons x qs=>
 have hxm:x∈w.fQ:=by rw[hq];exact List.mem_cons_self
 have hX:=T.q x hxm;have hxw:=W.q.1 x hxm;have hx1:=hxw.tags.2;have hx2:=hxw.chunks.2;have hlen:=T.len;have hlq:(w.fQ).length=qs.length+1:=by rw[hq];rfl
 show _=some (Bai w x qs);unfold Auq A3l Bai;rw[hq,gt0,if_pos ⟨by omega,by simp⟩];by_cases c1:0<x.Dh.length
 ·rw[decide_eq_true (show(x.Dh.length:Int)>0 by omega),if_pos c1,Bth K hq c1 (by omega) (by omega)];rfl
 ·rw[decide_eq_false (show ¬(x.Dh.length:Int)>0 by omega),if_neg c1];by_cases c2:0<x.Ad.length
  ·rw[decide_eq_true (show(x.Ad.length:Int)>0 by omega),if_pos c2];simp only[cond_true,cond_false,Z0];rw[show((2:Int)==1)=false from rfl,show((2:Int)==2)=true from rfl];simp only[cond_true,cond_false];unfold Azk;rw[hq,gt0,if_pos ⟨by omega,by simp⟩,if_pos ⟨by omega,by omega⟩,Bik hK w.fC W.p,Z0];unfold A9x Bex;cases (A7x w.fC w.fP (gt x.Ad 0) x.H2).2 with
   |false=>rfl
   |true=>
    rw[cond_true,cond_true,if_pos ⟨by omega,by omega,by omega⟩,Z38];have et:(x.Ad.drop (1:Int).toNat).take ((x.Ad.length:Int) - 1).toNat=x.Ad.drop 1:=by
     show(x.Ad.drop 1).take _=_;exact List.take_of_length_le (by rw[List.length_drop];omega)
    rw[et,if_pos ⟨by rw[List.length_drop];omega,by rw[List.length_drop];omega⟩];rfl
  ·rw[decide_eq_false (show ¬(x.Ad.length:Int)>0 by omega),if_neg c2];by_cases c3:x.Bz=0
   ·rw[if_pos c3];have et:((x::qs).drop (1:Int).toNat).take (((x::qs).length:Int) - 1).toNat=qs:=by
     show qs.take _=_;exact List.take_of_length_le (by simp)
    rw[c3];simp only[bne_self_eq_false,cond_false,Z0];rw[show((4:Int)==1)=false from rfl,show((4:Int)==2)=false from rfl,show((4:Int)==3)=false from rfl];simp only[cond_false];have hl1:(((x::qs).length:Nat):Int)=(qs.length:Int)+1:=by simp
    have hj: ∀l:List Az,Auc K w.fC.Ad w.fC.Du w.fC.Cd w.fC.Ez w.fC.Ce w.fC.Dv w.fP.Fp w.fP.G4 w.fP.Fq l (x::qs) w.Jp=some (Bo.mk w.fC w.fP l qs w.Jp):=by
     intro l;unfold Auc;rw[et,Z38,hl1,if_pos (show(0:Int)<=1/\(1:Int)<=(qs.length:Int)+1/\(qs.length:Int)+1<=(qs.length:Int)+1 from⟨by omega,by omega,by omega⟩),if_pos (show qs.length*72<=140737488355328/\qs.length<=maxLen from⟨by omega,by omega⟩)]
    rw[if_pos ⟨by omega,by simp⟩];unfold A5y Ax6;by_cases q:x.Be=0
    ·rw[q,if_pos rfl];simp only[bne_self_eq_false,cond_false];exact hj _
    ·have hk:0<=x.Be - 1/\x.Be - 1<(w.fL.length:Int):=⟨by omega,by omega⟩;rw[A20 q,if_neg q,cond_true,if_pos ⟨by omega,by simp⟩,sb1 (by omega) (by omega),Bgc hK W.l hk (T.nd _ (Akl hk.1 hk.2)).2.2,Z0];exact hj _
   ·rw[A20 c3,if_neg c3];simp only[cond_true,cond_false,Z0];rw[show((3:Int)==1)=false from rfl,show((3:Int)==2)=false from rfl,show((3:Int)==3)=true from rfl];simp only[cond_true,cond_false];rw[Bqy hK hm T hq c3];rfl
end
theorem Bey{s g:Int}(hs:wfi s)(hg:wfi g):At7 (Asd s g):=
 ⟨hs,hg,Ax5,Ax5,Ax5,Ax5,Ax5,Ax5,A0j,Ax5,Ax5,A5s,A0j⟩
theorem Bim{l:List Int}(h:A30 l)(n:Nat):A30 (l.take n):=⟨fun x hx=>h.1 x (Z42 hx),by have:=h.2;rw[List.length_take];omega⟩
theorem Bin{l:List Int}(h:A30 l)(n:Nat):A30 (l.drop n):=⟨fun x hx=>h.1 x (List.mem_of_mem_drop hx),by have:=h.2;rw[List.length_drop];omega⟩
theorem Bqz (a b:Int):wfi (A1 a b):=A04 _
theorem A64{x:Bb}{l:List Bb}(hx:A0m x)(h: ∀y∈l,A0m y)(hl:l.length<=1000000000):Bap (x::l):=by
 refine⟨fun y hy=> ?_,by rw[Z28];omega⟩;rcases Ft.1 hy with rfl|hy
 ·exact hx
 ·exact h y hy
theorem Bq0{c:Fi}{x:Bb}(h:A0m x)(b:Bool):A0m (Bex c x b):=by
 cases b with
 |true=>exact⟨h.slot,h.first,h.tags,Bin h.chunks 1,Ax5⟩
 |false=>exact⟨h.slot,h.first,h.tags,h.chunks,Bqz _ _⟩
theorem Bq1{n:Az}{gens:Int}(hn:At7 n)(hg:0<=n.C7/\n.C7<=1000):At7 (A4d n gens):=by
 unfold A4d;split
 ·exact Bey (Gx (by decide) (by decide)) hn.gen
 ·exact Bey Ax5 (Gx (by omega) (by omega))
theorem Bl3{n:Az}{gens:Int}{s:Nat}(h:gens<=1000)(hn:ND s n):ND s (A4d n gens):=by
 have:=hn.2.2;unfold A4d;split
 ·exact⟨⟨Int.le_refl 0,Int.natCast_nonneg _⟩,⟨Int.le_refl 0,Int.natCast_nonneg _⟩,this⟩
 ·exact⟨⟨Int.le_refl 0,Int.natCast_nonneg _⟩,⟨Int.le_refl 0,Int.natCast_nonneg _⟩,by show 0<=n.C7+1/\n.C7+1<=1000;omega⟩
theorem Bdf{P:Az->Prop}{l:List Az}{g:Int}(h: ∀n∈l,P n)(hx:0<=(gt l g).G6/\(gt l g).G6<=1000)(hp: ∀n,P n->P (Bjf n 0))(hb:P (Asd 2 (gt l g).C7)): ∀n∈Ayx l g,P n:=by
 unfold Ayx;refine A4y ?_ _ hb;cases q:plB l (gt l g).G6 with
 |false=>exact h
 |true=>
  rw[cond_true];have r:=(A6v hx.1 hx.2).1 q;exact A4y h _ (hp _ (h _ (Akl r.1 r.2)))
theorem Bb9{w:Bo}{m:Nat}(hm:m<=1000000000)(T:Tot w m):Tot (A7y w) (m+1):=by
 have W:=T.ww;have hQ:=T.ql;have hL:=T.ll;have hlen:=T.len;obtain⟨b1,b2,b3,b4,b5,b6⟩:=Bd T.conf;unfold A7y;cases hq:w.fQ with
 |nil=>exact T.mono (by omega)
 |cons x qs=>
 have hxm:x∈w.fQ:=by rw[hq];exact List.mem_cons_self
 have hqm: ∀y∈qs,y∈w.fQ:=fun y hy=>by rw[hq];exact Z56 _ hy
 have hX:=T.q x hxm;have hxw:=W.q.1 x hxm;have hqs: ∀y∈qs,A0m y:=fun y hy=>W.q.1 y (hqm y hy)
 have hlq:(w.fQ).length=qs.length+1:=by rw[hq];rfl
 show Tot (Bai w x qs) (m+1);unfold Bai;split
 ·rename_i c1;refine⟨⟨W.c,W.p,W.l,A64 ⟨hxw.slot,hxw.first,Bim hxw.tags _,hxw.chunks,hxw.done⟩ hqs (by omega),?_⟩,T.conf,T.len,T.nd,?_,?_,?_⟩
  ·refine⟨fun y hy=> ?_,?_⟩
   ·rcases N0.1 hy with hy|hy
    ·exact W.log.1 y hy
    ·rw[S9]at hy;rw[hy];exact hxw.tags.1 _ (Aty (by omega))
   ·show(w.Jp++[_]).length*8<=_;rw[Z23];show(w.Jp.length+1)*8<=_;omega
  ·intro y hy;rcases Ft.1 hy with rfl|hy
   ·exact hX
   ·exact T.q y (hqm y hy)
  ·show(Blm x::qs).length<=_;rw[Z28];omega
  ·show(w.Jp++[_]).length<=_;rw[Z23];show w.Jp.length+1<=_;omega
 split
 ·refine⟨⟨W.c,Btg W.p _ _,W.l,A64 (Bq0 hxw _) hqs (by omega),W.log⟩,T.conf,T.len,T.nd,?_,?_,?_⟩
  ·intro y hy;rcases Ft.1 hy with rfl|hy
   ·cases (A7x w.fC w.fP (gt x.Ad 0) x.H2).2<;>exact hX
   ·exact T.q y (hqm y hy)
  ·show(_::qs).length<=_;rw[Z28];omega
  ·exact Nat.le_succ_of_le hL
 split
 ·rename_i hs0;have hel:=Baz w x;have hnl:(∀n∈Ax6 w x,At7 n)/\ ∀n∈Ax6 w x,ND w.fL.length n:=by
   unfold Ax6;split
   ·exact⟨W.l.1,T.nd⟩
   ·have hg:=Akl (l:=w.fL) (i:=x.Be - 1) (by have:=hX.2;omega) (by have:=hX.2;omega);have N:=T.nd _ hg;exact⟨A4y W.l.1 _ (Bq1 (W.l.1 _ hg) N.2.2),A4y T.nd _ (Bl3 (by omega) N)⟩
  refine⟨⟨W.c,W.p,⟨hnl.1,by show(Ax6 w x).length*152<=_;rw[hel];exact W.l.2⟩,⟨hqs,by have:=W.q.2;show qs.length*72<=_;omega⟩,W.log⟩,T.conf,by show(Ax6 w x).length<=_;rw[hel];exact hlen,?_,?_,?_,Nat.le_succ_of_le hL⟩
  ·show ∀n∈Ax6 w x,ND (Ax6 w x).length n;rw[hel];exact hnl.2
  ·show ∀y∈qs,(_/\_<=((Ax6 w x).length:Int))/\(_/\_<=((Ax6 w x).length:Int));rw[hel];exact fun y hy=>T.q y (hqm y hy)
  ·show qs.length<=_;omega
 ·rename_i c3;have hk:0<=x.Bz - 1/\x.Bz - 1<(w.fL.length:Int):=⟨by omega,by omega⟩;have hg:=Akl hk.1 hk.2;have hn:=W.l.1 _ hg;have N:=T.nd _ hg;have hnb:0<=(gt w.fL (x.Bz - 1)).G6/\(gt w.fL (x.Bz - 1)).G6<=1000:=by have:=N.1;omega
  have hrl:=Bbs w.fL (x.Bz - 1);refine⟨⟨W.c,(Bk8 W.p _).1,⟨Bdf W.l.1 hnb (fun n h=>Bjg h Ax5) (Bey (Gx (by decide) (by decide)) hn.gen),by show(Ayx _ _).length*152<=_;rw[hrl];exact W.l.2⟩,
   A64 (Bbg hn hxw.first) (fun y hy=> ?_) (by rw[Z28];omega),W.log⟩,T.conf,by show(Ayx _ _).length<=_;rw[hrl];exact T.len,?_,?_,?_,Nat.le_succ_of_le hL⟩
  ·rcases Ft.1 hy with rfl|hy
   ·exact⟨hxw.slot,hn.next,hxw.tags,hxw.chunks,hxw.done⟩
   ·exact hqs y hy
  ·show ∀n∈Ayx _ _,ND (Ayx _ _).length n;rw[hrl];exact Bdf T.nd hnb (fun n h=>h) ⟨⟨Int.le_refl 0,Int.natCast_nonneg _⟩,⟨Int.le_refl 0,Int.natCast_nonneg _⟩,N.2.2⟩
  ·show ∀y∈_::_::qs,(_/\_<=((Ayx _ _).length:Int))/\(_/\_<=((Ayx _ _).length:Int));rw[hrl];intro y hy;rcases Ft.1 hy with rfl|hy
   ·exact⟨N.2.1,hX.1⟩
   rcases Ft.1 hy with rfl|hy
   ·exact⟨N.1,hX.2⟩
   ·exact T.q y (hqm y hy)
  ·show(_::_::qs).length<=_;rw[Z28,Z28];omega
section
variable {K:Nat} (hK:281474976710656<=K)
include hK
theorem Bio{l:List Az}(hl:Aeh l){k gens:Int}(hk:0<=k/\k<(l.length:Int))(hg:0<=(gt l k).C7/\(gt l k).C7<=1000):A4t K l k gens=some (l.set k.toNat (A4d (gt l k) gens)):=by
 unfold A4t Azu A4d;rw[A7l hK hl,Z0,A6c K (Af6 hl),decide_eq_true hk];simp only[Z0,Bool.not_true,cond_false,if_pos hk];rw[ad1 (by omega) (by omega)];by_cases q:gens<=(gt l k).C7
 ·rw[decide_eq_true (show(gt l k).C7>=gens from q),if_pos q];rfl
 ·rw[decide_eq_false (show ¬(gt l k).C7>=gens from q),if_neg q];rfl
theorem A9y{w:Bo}{m:Nat}(hm:m<=1000000000)(T:Tot w m)(h0:0<w.fQ.length):Awv K w=some (A7y w):=by
 have hmx:=V1;have W:=T.ww;have hQ:=T.ql;have hL:=T.ll;unfold A7y;cases hq:w.fQ with
 |nil=>rw[hq]at h0;cases h0
 |cons x qs=>
 have hxm:x∈w.fQ:=by rw[hq];exact List.mem_cons_self
 have hX:=T.q x hxm;have hxw:=W.q.1 x hxm;have hx1:=hxw.tags.2;have hx2:=hxw.chunks.2;have hlen:=T.len;have hlq:(w.fQ).length=qs.length+1:=by rw[hq];rfl
 show _=some (Bai w x qs);unfold Awv A50 Bai;rw[hq,gt0,if_pos ⟨by omega,by simp⟩];by_cases c1:0<x.Dh.length
 ·rw[decide_eq_true (show(x.Dh.length:Int)>0 by omega),if_pos c1];have e:Ap (x.Dh.length:Int) 1=((x.Dh.length - 1:Nat):Int):=by unfold Ap Asu;rw[Ht (by omega) (by omega)];omega
  simp only[cond_true,Z0,beq_self_eq_true];rw[e,if_pos ⟨by omega,by omega⟩,if_pos ⟨by rw[Z23];show(w.Jp.length+1)*8<=_;omega,by rw[Z23];show w.Jp.length+1<=_;omega⟩,if_pos ⟨by omega,by omega,by omega⟩];rfl
 ·rw[decide_eq_false (show ¬(x.Dh.length:Int)>0 by omega),if_neg c1];by_cases c2:0<x.Ad.length
  ·rw[decide_eq_true (show(x.Ad.length:Int)>0 by omega),if_pos c2];simp only[cond_true,cond_false,Z0];rw[show((2:Int)==1)=false from rfl,show((2:Int)==2)=true from rfl];simp only[cond_true,cond_false];rw[if_pos ⟨by omega,by omega⟩,Bil hK w.fC W.p,Z0];unfold A9x Bex;cases (A7x w.fC w.fP (gt x.Ad 0) x.H2).2 with
   |false=>rfl
   |true=>
    rw[cond_true,cond_true,if_pos c2];rfl
  ·rw[decide_eq_false (show ¬(x.Ad.length:Int)>0 by omega),if_neg c2];by_cases c3:x.Bz=0
   ·rw[if_pos c3,c3];simp only[bne_self_eq_false,cond_false,Z0];rw[show((4:Int)==1)=false from rfl,show((4:Int)==2)=false from rfl,show((4:Int)==3)=false from rfl];simp only[cond_false];unfold A5y Ax6;by_cases q:x.Be=0
    ·rw[q,if_pos rfl,decide_eq_false (by omega),cond_false,if_pos (by simp)];rfl
    ·have hk:0<=x.Be - 1/\x.Be - 1<(w.fL.length:Int):=⟨by omega,by omega⟩;rw[decide_eq_true (show x.Be>0 by omega),if_neg q,cond_true,sb1 (by omega) (by omega),Bio hK W.l hk (T.nd _ (Akl hk.1 hk.2)).2.2,Z0,if_pos (by simp)];rfl
   ·rw[A20 c3,if_neg c3];simp only[cond_true,cond_false,Z0];rw[show((3:Int)==1)=false from rfl,show((3:Int)==2)=false from rfl,show((3:Int)==3)=true from rfl];simp only[cond_true,cond_false];have hk:0<=x.Bz - 1/\x.Bz - 1<(w.fL.length:Int):=⟨by omega,by omega⟩;have hn:=W.l.1 _ (Akl hk.1 hk.2);have N:=T.nd _ (Akl hk.1 hk.2);have hnx:=N.1;have e2:A1 (x.Bz - 1) 1=x.Bz:=by rw[ad1 (by omega) (by omega)];omega
    have hj: ∀(l:List Az) (q:List Bb),l.length=w.fL.length->q.length=w.fQ.length->Au9 K (x.Bz - 1) w.fC.Ad w.fC.Du w.fC.Cd w.fC.Ez w.fC.Ce w.fC.Dv (Ah0 w.fP (gt w.fL (x.Bz - 1)).Ad).Fp (Ah0 w.fP (gt w.fL (x.Bz - 1)).Ad).G4 (Ah0 w.fP (gt w.fL (x.Bz - 1)).Ad).Fq l q w.Jp (gt w.fL (x.Bz - 1)).G4 (gt w.fL (x.Bz - 1)).C7 (gt w.fL (x.Bz - 1)).Nb (gt w.fL (x.Bz - 1)).fUp (gt w.fL (x.Bz - 1)).G5 (gt w.fL (x.Bz - 1)).Bz (gt w.fL (x.Bz - 1)).G6 (gt w.fL (x.Bz - 1)).G7 (gt w.fL (x.Bz - 1)).Ad (gt w.fL (x.Bz - 1)).No (gt w.fL (x.Bz - 1)).G8 (gt w.fL (x.Bz - 1)).D5 (gt w.fL (x.Bz - 1)).Dh=some (Bo.mk w.fC (Ah0 w.fP (gt w.fL (x.Bz - 1)).Ad) (l.set (x.Bz - 1).toNat (Asd 2 (gt w.fL (x.Bz - 1)).C7)) (Aio (gt w.fL (x.Bz - 1)) x.Bz::q) w.Jp):=by
     intro l q hl1 hq1;unfold Au9 A7d;rw[Z0,hl1,if_pos hk,e2];rw[show Az.mk (gt w.fL (x.Bz - 1)).G4 (gt w.fL (x.Bz - 1)).C7 (gt w.fL (x.Bz - 1)).Nb (gt w.fL (x.Bz - 1)).fUp (gt w.fL (x.Bz - 1)).G5 (gt w.fL (x.Bz - 1)).Bz (gt w.fL (x.Bz - 1)).G6 (gt w.fL (x.Bz - 1)).G7 (gt w.fL (x.Bz - 1)).Ad (gt w.fL (x.Bz - 1)).No (gt w.fL (x.Bz - 1)).G8 (gt w.fL (x.Bz - 1)).D5 (gt w.fL (x.Bz - 1)).Dh=gt w.fL (x.Bz - 1) from rfl,Bd2 K hn,Z0,if_pos ⟨by omega,by omega⟩];rfl
    rw[sb1 (x:=x.Bz) (by omega) (by omega),if_pos hk,show(x::qs).set (0:Int).toNat (Bb.mk x.Be (gt w.fL (x.Bz - 1)).G6 x.Dh x.Ad x.H2)=Bbr w.fL x::qs from rfl,Bf1 hK (Bo.mk w.fC w.fP w.fL (Bbr w.fL x::qs) w.Jp) W.p hk (A3e hK hn.chunks),Z0];dsimp only;rw[A6c K (Af6 W.l),Z0,sb1 (by omega) (by omega)];unfold Az3 Ayx;have hp:plB w.fL (gt w.fL (x.Bz - 1)).G6=decide (0<=(gt w.fL (x.Bz - 1)).G6 - 1/\(gt w.fL (x.Bz - 1)).G6 - 1<(w.fL.length:Int)):=by
     unfold plB;rw[sb1 (by omega) (by omega)]
    rw[hp];by_cases q:0<=(gt w.fL (x.Bz - 1)).G6 - 1/\(gt w.fL (x.Bz - 1)).G6 - 1<(w.fL.length:Int)
    ·rw[decide_eq_true q];simp only[cond_true];rw[if_pos q];unfold Au7;exact hj _ _ (by rw[Z49]) (by rw[hq];rfl)
    ·rw[decide_eq_false q];simp only[cond_false];exact hj _ _ rfl (by rw[hq];rfl)
end
theorem Bq2{w:Bo}{m:Nat}(hw:Ar0 w)(hB:A3h w=true)(hq:w.fQ.length<=m)(hl:w.Jp.length<=m):Tot w m:=by
 have P:=Bij hB;obtain⟨b1,b2,b3,b4,b5,b6⟩:=Bd P.conf;unfold A3h at hB;simp only[Z4,Z1,List.mem_range,beq_iff_eq]at hB;obtain⟨_,hlen,hs,_,⟨hw1,_⟩,_⟩:=hB;refine⟨hw,P.conf,by omega,A8t fun k hk=> ?_,fun x hx=> ?_,hq,hl⟩
 ·have S:=hs k.toNat (by omega);unfold A81 at S;rw[show((k.toNat:Nat):Int)=k by omega,Z4]at S;obtain⟨l1,l2,l3,l4⟩:=A6w S.1;have g:=(A33 S.1).2.2;exact⟨by omega,by omega,by omega⟩
 ·have X:=hw1 x hx;unfold Apc at X;rw[Z4]at X;have R:=A28.1 X.1;have:=R.slot;have:=R.first;exact⟨by omega,by omega⟩
theorem AnyP.tot{w:Bo}(A:AnyP w)(hB:A3h w=true):Tot w 40000:=Bq2 A.ww hB A.q A.g
section
variable {K:Nat} (hK:281474976710656<=K)
include hK
end
section
variable {K:Nat} (hK:281474976710656<=K)
include hK
theorem B14{a:List Int}(hb:A3j a)(ha:a.length<=1048576){most:Int}(hm:0<most/\most<=1000): ∃w c,Azs K a most=some (c,w)/\AnyP w/\Ahs c:=by
 obtain⟨c,e1,w1⟩:=Bgm hK hb ha;obtain⟨w,c2,e2,A,w2⟩:=Bl2 hK w1 hm;refine⟨w,c2,?_,A,w2⟩;unfold Azs;rw[e1,Z0,e2];rfl
end
section
variable {K:Nat} (hK:281474976710656<=K)
include hK
theorem Bca{w:Bo}(A:AnyP w): ∃v b,Ak5 K w=some (v,b)/\Ax2 K w=some (v,b)/\Ar0 v:=by
 unfold Ak5 Ax2;rw[Aye hK A.ww,A24 hK A.ww,Z0,Z0,A0i hK w A.ww,A23 hK w A.ww,Z0,Z0];cases hB:A3h w with
 |false=>exact⟨w,false,rfl,rfl,A.ww⟩
 |true=>
  rw[cond_true,cond_true];by_cases h:w.fQ.length=0
  ·rw[h];exact⟨w,false,rfl,rfl,A.ww⟩
  ·rw[At6 (by omega),cond_false,Bb8 hK (by decide) (A.tot hB) (by omega),cond_false,A9y hK (by decide) (A.tot hB) (by omega)];exact⟨_,true,rfl,rfl,(Bb9 (by decide) (A.tot hB)).ww⟩
theorem Bip (a:Int)(ha:a<=4000): ∀(f:Nat) (i:Nat) (w:Bo) (m:Nat),(i:Int)<=a->a - i<f->Tot w m->m+(a - i).toNat<=1000000000-> ∃r w',Aig K a f (i:Int) w.fC.Ad w.fC.Du w.fC.Cd w.fC.Ez w.fC.Ce w.fC.Dv w.fP.Fp w.fP.G4 w.fP.Fq w.fL w.fQ w.Jp=some (r,w')/\Aue K a f (i:Int) w.fC.Ad w.fC.Du w.fC.Cd w.fC.Ez w.fC.Ce w.fC.Dv w.fP.Fp w.fP.G4 w.fP.Fq w.fL w.fQ w.Jp=some (r,w')/\Ar0 w':=by
 intro f;induction f with
 |zero=>intro i w m h1 h2;omega
 |succ f ih=>
  intro i w m h1 h2 T hm;rw[Aig,Aue];by_cases c:(i:Int)<a
  ·rw[decide_eq_true c];simp only[cond_true];by_cases h:w.fQ.length=0
   ·rw[h];exact⟨_,_,rfl,rfl,T.ww⟩
   ·rw[At6 (show ¬(w.fQ.length:Int)=0 by omega),decide_eq_true (show(w.fQ.length:Int)>0 by omega)];simp only[cond_true,cond_false];unfold A51;rw[Z0,cond_true];rw[show Bo.mk (Fi.mk w.fC.Ad w.fC.Du w.fC.Cd w.fC.Ez w.fC.Ce w.fC.Dv) (Ef.mk w.fP.Fp w.fP.G4 w.fP.Fq) w.fL w.fQ w.Jp=w from rfl,A9y hK (by omega) T (by omega),Bb8 hK (by omega) T (by omega),Z0,Z0,Ad9 (by omega)];exact ih (i+1) (A7y w) (m+1) (by omega) (by omega) (Bb9 (by omega) T) (by omega)
  ·rw[decide_eq_false c];exact⟨a,w,by rw[cond_false,show(i:Int)=a by omega],rfl,T.ww⟩
theorem Bcb{w:Bo}(A:AnyP w)(a:Int): ∃v r,Ax3 K w a=some (v,r)/\Ax4 K w a=some (v,r)/\Ar0 v:=by
 unfold Ax3 Ax4;rw[Aye hK A.ww,A24 hK A.ww,Z0,Z0,A0i hK w A.ww,A23 hK w A.ww,Z0,Z0,Awh,Aml,Z0,Z0];cases hB:A3h w with
 |false=>exact⟨w,0,rfl,rfl,A.ww⟩
 |true=>
  rw[cond_true,cond_true];cases hi:inB a 0 4000 with
  |false=>exact⟨w,0,rfl,rfl,A.ww⟩
  |true=>
   have hi:=Wy.1 hi;obtain⟨r,v,e1,e2,W⟩:=Bip hK a hi.2 K 0 w 40000 hi.1 (by omega) (A.tot hB) (by omega);refine⟨v,r,?_,?_,W⟩
   ·unfold Aui;rw[Bool.not_true,cond_false,show(0:Int)=((0:Nat):Int) from rfl,e1];rfl
   ·unfold Avz;rw[Bool.not_true,cond_false,show(0:Int)=((0:Nat):Int) from rfl,e2];rfl
end
theorem By0 (w:Bo):w.Jp.length<=(A7y w).Jp.length:=by
 unfold A7y;split
 ·exact Z9 _
 ·unfold Bai;split
  ·show _<=(w.Jp++[_]).length;rw[Z23];omega
  split
  ·exact Z9 _
  split<;>exact Z9 _
theorem Bct (a:List Int)(u:Bdp a): ∃K,A1u K a=some true:=by
 refine⟨562949953421312,?_⟩;have hK:281474976710656<=562949953421312:=by decide
 unfold A1u A8f;rw[Z0];by_cases hbig:(a.length:Int)>1048576
 ·rw[decide_eq_true hbig,cond_true]
 rw[decide_eq_false hbig,cond_false];have ha:a.length<=1048576:=by omega
 have hb:A3j a:=(Bk7 u).1;obtain⟨wd,o,E,n,e3,G,hE,hn,_⟩:=Bet hK hb ha;have W:=G.ww (by omega) (by omega);have I:=G.inv;have hq:=Bpx wd;have hlg:=Bek wd;have hwt:=G.wt;obtain⟨w,c3,e4,A,wc3⟩:=B14 hK hb ha (most:=60) (by omega);have d2:Awp 562949953421312 a=some w:=by
  unfold Awp;rw[e4];rfl
 obtain⟨k,c4,e5,hk,wc4⟩:=A29 562949953421312 wc3 (l:=[0,1,2,5,20,4000,4001,(-1)]) (by decide);have d3:Awq 562949953421312 a=some (w,k):=by
  unfold Awq;rw[e4,Z0,e5];rfl
 obtain⟨v,b,i1,s1,V⟩:=Bca hK A;obtain⟨v2,r,i2,s2,V2⟩:=Bcb hK A k;have T:=Bq2 (m:=40000) W I.ok (by omega) (by omega);rw[e3,Z0,d2,Z0,d3,Z0];dsimp only;have hrest: ∀(r5:Bo×Bool),(bif (!r5.2)then((Alc 562949953421312 r5.1 wd).bind fun r14=>(bif r14 then((Aut 562949953421312 wd).bind fun r15=>some r15)else some false))else((Aus 562949953421312 r5.1).bind fun r16=>(bif r16 then(bif (decide ((wd.fQ.length:Int)>0))then some (decide ((r5.1.Jp.length:Int)>=(wd.Jp.length:Int)))else some false)else some false)))=some true->
   Ak5 562949953421312 wd=some r5->((Ak5 562949953421312 wd).bind fun r5=>((Ak5 562949953421312 w).bind fun r6=>((Ax2 562949953421312 w).bind fun r7=>((Ax3 562949953421312 w k).bind fun r8=>((Ax4 562949953421312 w k).bind fun r9=>((Alc 562949953421312 r6.1 r7.1).bind fun r10=>(bif r10 then(bif (!(r6.2==r7.2))then some false else((Alc 562949953421312 r8.1 r9.1).bind fun r11=>(bif r11 then(bif (r8.2 != r9.2)then some false else((Aut 562949953421312 w).bind fun r12=>((A2z 562949953421312 w).bind fun r13=>(bif (!(r12==r13))then some false else(bif (!r5.2)then((Alc 562949953421312 r5.1 wd).bind fun r14=>(bif r14 then((Aut 562949953421312 wd).bind fun r15=>some r15)else some false))else((Aus 562949953421312 r5.1).bind fun r16=>(bif r16 then(bif (decide ((wd.fQ.length:Int)>0))then some (decide ((r5.1.Jp.length:Int)>=(wd.Jp.length:Int)))else some false)else some false)))))))else some false)))else some false)))))))=some true:=by
  intro r5 h e;rw[e,Z0,i1,Z0,s1,Z0,i2,Z0,s2,Z0];dsimp only;rw[A5e hK V,Z0,cond_true,beq_self_eq_true,Bool.not_true,cond_false,A5e hK V2,Z0,cond_true,bne_self_eq_false,cond_false];unfold Aut A2z;rw[Z0,Z0,beq_self_eq_true,Bool.not_true,cond_false];exact h
 by_cases h:wd.fQ.length=0
 ·refine hrest (wd,false) ?_ ?_
  ·dsimp only;rw[Bool.not_false,cond_true,A5e hK W,Z0,cond_true];unfold Aut;rw[Z0,h];rfl
  ·unfold Ak5;rw[A24 hK W,Z0,A23 hK wd W,I.ok,Z0,cond_true,h];rfl
 ·obtain⟨w',e6,S⟩:=Bep hK G (by omega) (by omega) (by omega);have ew:w'=A7y wd:=by
   rw[Bb8 hK (by decide) T (by omega)]at e6;exact(Z32 e6).symm
  subst ew;refine hrest (A7y wd,true) ?_ ?_
  ·dsimp only;have hl:=By0 wd;rw[Bool.not_true,cond_false,A23 hK _ (Bb9 (by decide) T).ww,S.inv.ok,Z0,cond_true,decide_eq_true (by omega),cond_true,decide_eq_true (by omega)]
  ·unfold Ak5;rw[A24 hK W,Z0,A23 hK wd W,I.ok,Z0,cond_true,At6 (by omega),cond_false,A9y hK (by decide) T (by omega)];rfl
section
variable {K:Nat} (hK:281474976710656<=K)
include hK
end
end Go.Proofs.YtgcnddnmhllahaaGreat
