/- The plain law for FnClearsAll; no condition. -/
import Derived.Test.YtgcnddnmhllahaaGreatHFnClearsAllPa
set_option linter.all false
namespace Go.Proofs.YtgcnddnmhllahaaGreat
open Go.Eng Go.ChangeShapes Go.WideShapes Go.ChangeAt Go.RowKit
def AlW (l:List Az)(k:Int):Prop:= ∃t,AtT l t/\Al l.length t k
structure A7n (w w':Bo):Prop where
 conf:w'.fC=w.fC
 len:w'.fL.length=w.fL.length
 node: ∀k,AlW w.fL k->AlW w'.fL k/\(∃a b c,gt w'.fL k=lnk (gt w.fL k) a b c)/\ ∀n,Akg w'.fL n k=Akg w.fL n k
theorem Bcs (n:Az):lnk n n.Bz n.G6 n.G7=n:=rfl
theorem A7n.refl (w:Bo):A7n w w:=⟨rfl,rfl,fun k h=>⟨h,⟨_,_,_,(Bcs _).symm⟩,fun _=>rfl⟩⟩
theorem A7n.trans{a b c:Bo}(h:A7n a b)(g:A7n b c):A7n a c:=by
 refine⟨g.conf.trans h.conf,g.len.trans h.len,fun k hk=> ?_⟩;obtain⟨h1,⟨x,y,z,h2⟩,h3⟩:=h.node k hk;obtain⟨g1,⟨u,v,w,g2⟩,g3⟩:=g.node k h1;exact⟨g1,⟨u,v,w,by rw[g2,h2];rfl⟩,fun n=>(g3 n).trans (h3 n)⟩
theorem Bd7{w w':Bo}(hc:w'.fC=w.fC)(hl:w'.fL=w.fL):A7n w w':=⟨hc,by rw[hl],fun k h=>by rw[hl];exact⟨h,⟨_,_,_,(Bcs _).symm⟩,fun _=>rfl⟩⟩
theorem Bhd{N:Int}{t t':Int->Lk}(h: ∀y,Al N t y->Lv N t' y/\(t' y).up=(t y).up/\(Cu N t y->Al N t ((t y).up - 1)->Cu N t' y)){k:Int}(hk:Al N t k):Al N t' k:=by
 induction hk with
 |root a b=>
  obtain⟨h1,h2,h3⟩:=h _ (.root a b);exact .root h1 (by omega)
 |step a b c ih=>
  obtain⟨h1,h2,h3⟩:=h _ (.step a b c);exact .step h1 (h3 b c) (by grind)
theorem B0v{N:Int}{t:Int->Lk}{g:Int}(hg:Oo N t g){k:Int}(hk:Al N t k):Al N (rem t g) k:=by
 refine Bhd (fun y hy=> ?_) hk;have hne:y≠g:=fun e=>hy.noOr (e ▸ hg);refine⟨Ar2.2 ⟨hne,hy.lv⟩,by rw[Amn hne],fun hc hu=>(A4q hne).2 ⟨fun e=> ?_,hc⟩⟩
 simp_all[Al.noOr]
theorem B0w{N:Int}{t:Int->Lk}{g:Int}(hg:(t g).lv=false){k:Int}(hk:Al N t k):Al N (clr t g) k:=by
 refine Bhd (fun y hy=> ?_) hk;exact⟨(Aza hg).2 hy.lv,by rw[Amk hg hy.lv],fun hc _=>(A9e hg hy.lv).2 hc⟩
theorem Brx{N:Int}{t t':Int->Lk}(h: ∀x,0<=x/\x<N->t' x=t x){k:Int}(hk:Al N t k):Al N t' k:=by
 refine Bhd (fun y hy=> ?_) hk;have hy1:=hy.lv;simp_all[Cu,Lv]
theorem AlW.al{l:List Az}{t:Int->Lk}(A:AtT l t){k:Int}(h:AlW l k):Al l.length t k:=by
 obtain⟨t',A',h'⟩:=h;exact Brx (fun x hx=>by rw[A x hx,A' x hx]) h'
theorem Bhe{w w':Bo}{t t':Int->Lk}(R:Rg w.fL)(R':Rg w'.fL)(A:AtT w.fL t)(A':AtT w'.fL t')(F:Aig w.fL.length t (A2h w.fQ))(hc:w'.fC=w.fC)(hl:w'.fL.length=w.fL.length)
  (hn: ∀k,Al w.fL.length t k->Al w.fL.length t' k/\(t' k).up=(t k).up/\ ∃a b c,gt w'.fL k=lnk (gt w.fL k) a b c):A7n w w':=by
 refine⟨hc,hl,fun k hk=> ?_⟩;have h:=hk.al A;obtain⟨h1,h2,h3⟩:=hn k h;refine⟨⟨t',A',by grind⟩,h3,fun n=> ?_⟩;rw[A91 A' R',A91 A R,hl];obtain⟨d,U⟩:=F.uw;exact A6a _ _ fun y hy=>(hn y ((Bkt U n k h).1 y hy).2).2.1
theorem Bu0{α:Type}[Inhabited α](a:α)(l:List α){i:Nat}(h:i<l.length):gt (a::l) ((i+1:Nat):Int)=gt l (i:Int):=by
 rfl
theorem Bi5{α:Type}[Inhabited α](f:α->Nat): ∀(l l':List α),l'.length=l.length->(∀x:Nat,x<l.length->f (gt l' (x:Int))=f (gt l (x:Int)))->(l'.map f).sum=(l.map f).sum:=by
 intro l;induction l with
 |nil=>grind
 |cons a l ih=>
  intro l' h hx;cases l' with
  |nil=>simp at h
  |cons b l'=>
   have hl:l'.length=l.length:=by grind
   have h0:=hx 0 (by simp);have:=ih l' hl fun x h=>by
    have:=hx (x+1) (by grind);assumption
   simp only[Z8,List.sum_cons,this];rw[show f b=f a from h0]
theorem Bu1{α:Type}[Inhabited α](f:α->Nat): ∀(l l':List α) (g:Nat),l'.length=l.length->g<l.length->(∀x:Nat,x<l.length->x≠g->f (gt l' (x:Int))=f (gt l (x:Int)))->(l'.map f).sum+f (gt l (g:Int))=(l.map f).sum+f (gt l' (g:Int)):=by
 intro l;induction l with
 |nil=>grind
 |cons a l ih=>
  intro l' g h hg hx;cases l' with
  |nil=>simp at h
  |cons b l'=>
   have hl:l'.length=l.length:=by grind
   simp only[Z8,List.sum_cons];cases g with
   |zero=>
    have:=Bi5 f l l' hl fun x h=>by
     have:=hx (x+1) (by grind) (by omega);assumption
    rw[this];show f b+_+f a=f a+_+f b;omega
   |succ g=>
    have hg:g<l.length:=by grind
    have h0:f b=f a:=hx 0 (by simp) (by omega);have:=ih l' g hl hg fun x h hn=>by
     have:=hx (x+1) (by grind) (by omega);assumption
    grind [Bu0]
theorem A1i{f:Az->Nat}{l l':List Az}{g:Int}(hl:l'.length=l.length)(hg:0<=g/\g<(l.length:Int))(hx: ∀x,0<=x/\x<(l.length:Int)->x≠g->f (gt l' x)=f (gt l x)):(l'.map f).sum+f (gt l g)=(l.map f).sum+f (gt l' g):=by
 have:=Bu1 f l l' g.toNat hl (by omega) fun x h hn=>hx x ⟨by omega,by omega⟩ (by omega)
 rwa[show((g.toNat:Nat):Int)=g by omega]at this
theorem A79 (c:Fi){st:Int}(h:st≠1)(g:Int):wtN c (Ar1 st g)=0:=by unfold wtN Ar1;rw[if_neg h]
structure Bi6 (w w':Bo)(E:Int):Prop where
 inv:Inv w'
 mem: ∀x∈w'.fP.Fp,0<=x/\x<=255
 ep: ∀k,0<=k/\k<(w'.fL.length:Int)->EpP E (gt w'.fL k)
 pot:pot w'<pot w
 wt:wt w'<=wt w
 stay:A7n w w'
 cn:cnt w'<=cnt w
theorem Bi6.good{w w':Bo}{E:Int}(S:Bi6 w w' E){n:Nat}(G:Ev w E n):Ev w' E n:=⟨S.inv,S.mem,S.ep,by have:=S.wt;have:=G.wt;omega,by have:=S.cn;have:=G.cn;omega⟩
theorem Bry{w:Bo}{E:Int}{n:Nat}(G:Ev w E n){x:Bb}{qs:List Bb}(hq:w.fQ=x::qs)(h0:0<x.Dh.length):Bi6 w (A7e w x qs) E:=by
 have e:wtQ w.fC (Bmz x)+1=wtQ w.fC x:=by
  grind [wtQ,Bmz]
 have ep:pot (A7e w x qs)+1=pot w:=by
  unfold pot;rw[hq];show(w.fL.map (wtN w.fC)).sum+((Bmz x::qs).map (wtQ w.fC)).sum+1=_
  grind
 refine⟨Buy G.inv hq h0,G.mem,G.ep,by omega,?_,Bd7 rfl rfl,by unfold cnt;rw[hq];exact Z9 _⟩;unfold wt;show pot (A7e w x qs)+(w.Jp++[_]).length<=_
 grind
theorem Bm2{w:Bo}{E:Int}{n:Nat}(G:Ev w E n){x:Bb}{qs:List Bb}(hq:w.fQ=x::qs)(hc:0<x.Ad.length):Bi6 w (A5v w x qs) E:=by
 have X:=Bi4 G.inv hq hc;obtain⟨b1,b2,b3,b4,b5,b6⟩:=Bd X.rc.conf;have ht:=X.to;have hd:=X.rc.done;have e:wtQ w.fC (A7m w x)<wtQ w.fC x:=by
  have hm:w.fC.Du.toNat*x.Ad.length=w.fC.Du.toNat*(x.Ad.length - 1)+w.fC.Du.toNat:=by
   conv=>lhs;rw[show x.Ad.length=x.Ad.length - 1+1 by omega]
   rfl
  grind [A7m,wtQ]
 have ep:pot (A5v w x qs)<pot w:=by
  unfold pot;rw[hq];show(w.fL.map (wtN w.fC)).sum+((A7m w x::qs).map (wtQ w.fC)).sum<_
  grind
 refine⟨Bru G.inv hq hc,Brt G.mem,G.ep,ep,?_,Bd7 rfl rfl,by unfold cnt;rw[hq];exact Z9 _⟩;unfold wt;show pot (A5v w x qs)+w.Jp.length<=_;omega
theorem Bhf{w:Bo}(I:Inv w){t:Int->Lk}(A:AtT w.fL t)(F:Aig w.fL.length t (A2h w.fQ)){x:Bb}{qs:List Bb}(hq:w.fQ=x::qs)(hf:x.Bz≠0):
  (∀y,0<=y/\y<(w.fL.length:Int)->y≠x.Bz - 1->gt (Ayf w.fL (x.Bz - 1)) y=Bm1 (gt w.fL (x.Bz - 1)) (gt w.fL y) (x.Bz - 1) y)/\gt (Ayf w.fL (x.Bz - 1)) (x.Bz - 1)=Ar1 2 (gt w.fL (x.Bz - 1)).C7:=by
 have X:=Bcr I A F hq hf;exact⟨fun y hy hne=>Bkx I.rg X.lv.1 hy hne X.pv (X.nf y hy),Bky X.lv.1⟩
theorem Bm3{w:Bo}{E:Int}{n:Nat}(G:Ev w E n)(hE:0<=E){x:Bb}{qs:List Bb}(hq:w.fQ=x::qs)(hf:x.Bz≠0):Bi6 w (A0f w x qs) E:=by
 obtain⟨t,A,F⟩:=G.inv.forest;have X:=Bcr G.inv A F hq hf;obtain⟨hg,hb⟩:=Bhf G.inv A F hq hf;have hk:=X.lv.1;have L:=G.inv.live A X.lv;have I':=Brw G.inv hq hf;have hN:=A93 w.fL (x.Bz - 1);have hs:=A1i (f:=wtN w.fC) hN hk fun y hy hne=>by rw[hg y hy hne];rfl
 rw[hb,A79 _ (by decide)]at hs;have e1:wtN w.fC (gt w.fL (x.Bz - 1))=2+(gt w.fL (x.Bz - 1)).Dh.length+w.fC.Du.toNat*(gt w.fL (x.Bz - 1)).Ad.length:=by unfold wtN;rw[if_pos L.st]
 have e2:wtQ w.fC (Air (gt w.fL (x.Bz - 1)) x.Bz)=1+(gt w.fL (x.Bz - 1)).Dh.length+w.fC.Du.toNat*(gt w.fL (x.Bz - 1)).Ad.length:=rfl;have e3:wtQ w.fC (Bcq w.fL x)=wtQ w.fC x:=rfl;have ep:pot (A0f w x qs)<pot w:=by
  unfold pot;rw[hq];show((Ayf w.fL (x.Bz - 1)).map (wtN w.fC)).sum+((Air (gt w.fL (x.Bz - 1)) x.Bz::Bcq w.fL x::qs).map (wtQ w.fC)).sum<_
  grind
 have hs2:=A1i (f:=lvN) hN hk fun y hy hne=>by rw[hg y hy hne];rfl
 have el:lvN (gt w.fL (x.Bz - 1))=1:=by unfold lvN;rw[if_pos L.st]
 have eb:lvN (gt (Ayf w.fL (x.Bz - 1)) (x.Bz - 1))=0:=by rw[hb];rfl
 refine⟨I',?_,fun y hy=> ?_,ep,?_,?_,?_⟩
 ·show ∀y∈(Ah1 w.fP _).Fp,_;rw[(A6e G.inv hk).2.1];exact G.mem
 ·have hy:0<=y/\y<((Ayf w.fL (x.Bz - 1)).length:Int):=hy;rw[hN]at hy;show EpP E (gt (Ayf w.fL (x.Bz - 1)) y);by_cases e:y=x.Bz - 1
  ·rw[e,hb];exact⟨hE,hE,⟨Int.le_refl 0,by show(0:Int)<=1000;omega⟩⟩
  ·rw[hg y hy e];have:=G.ep y hy;exact⟨this.ep,this.ue,this.cur⟩
 ·unfold wt;show pot (A0f w x qs)+w.Jp.length<=_;omega
 ·refine Bhe G.inv.rg I'.rg A (Bfr A hk hN hg hb) F rfl hN fun y hy=> ?_
  have hne:y≠x.Bz - 1:=fun e=>hy.noOr (e ▸ X.or);exact⟨B0v X.or hy,by rw[Amn hne],_,_,_,hg y hy.lv.1 hne⟩
 ·unfold cnt;rw[hq];show((Ayf w.fL (x.Bz - 1)).map lvN).sum+(qs.length+1+1)<=(w.fL.map lvN).sum+(qs.length+1);omega
def A4r (n:Az)(gens:Int):Az:=if gens<=n.C7 then Ar1 3 n.C7 else Ar1 0 (n.C7+1)
def Aw6 (w:Bo)(x:Bb):List Az:=if x.Be=0 then w.fL else w.fL.set (x.Be - 1).toNat (A4r (gt w.fL (x.Be - 1)) w.fC.Dv)
def A6f (w:Bo)(x:Bb)(qs:List Bb):Bo:=Bo.mk w.fC w.fP (Aw6 w x) qs w.Jp
theorem A94 (w:Bo)(x:Bb):(Aw6 w x).length=w.fL.length:=by grind [Aw6]
structure Bu2 (w:Bo)(x:Bb)(qs:List Bb):Prop where
 rc:Brr w.fC x
 k:x.Be≠0->0<=x.Be - 1/\x.Be - 1<(w.fL.length:Int)
 st:x.Be≠0->(gt w.fL (x.Be - 1)).G4=2
 gn:x.Be≠0->1<=(gt w.fL (x.Be - 1)).C7/\(gt w.fL (x.Be - 1)).C7<=w.fC.Dv
 no:x.Be≠0->x.Be - 1 ∉ slL qs
theorem Bhg{w:Bo}(I:Inv w){x:Bb}{qs:List Bb}(hq:w.fQ=x::qs):Bu2 w x qs:=by
 have R:=A2e.1 (A4g I hq).1;obtain⟨b1,b2,b3,b4,b5,b6⟩:=Bd I.conf;have hx:x∈w.fQ:=by grind
 have hs:=R.slot;have h1:x.Be≠0->(0<=x.Be - 1/\x.Be - 1<(w.fL.length:Int))/\(gt w.fL (x.Be - 1)).G4=2:=fun h=>by
  have:=Bku hx h;rw[sb1 (by omega) (by omega)]at this;exact(I.sli _).1 this
 refine⟨R,fun h=>(h1 h).1,fun h=>(h1 h).2,fun h=>(A4f (I.node _ (h1 h).1)).2.2,fun h=> ?_⟩;have:=I.sln;rw[hq]at this;have this:((if x.Be=0 then []else [Ap x.Be 1])++slL qs).Nodup:=this;rw[if_neg h,sb1 (by omega) (by omega)]at this
 grind
theorem B0x{w:Bo}{x:Bb}{qs:List Bb}(X:Bu2 w x qs){y:Int}(hy:0<=y/\y<(w.fL.length:Int)):gt (Aw6 w x) y=if x.Be≠0/\y=x.Be - 1 then A4r (gt w.fL y) w.fC.Dv else gt w.fL y:=by
 unfold Aw6;by_cases h:x.Be=0
 ·grind
 ·rw[if_neg h,Auu (X.k h) hy]
  grind
theorem Bi7{n:Az}{gens:Int}(h:1<=n.C7/\n.C7<=gens): ∃st g,A4r n gens=Ar1 st g/\(st=0\/st=3)/\1<=g/\g<=gens:=by
 unfold A4r;split
 all_goals grind
theorem A0g{w:Bo}{x:Bb}{qs:List Bb}(X:Bu2 w x qs){y:Int}(hy:0<=y/\y<(w.fL.length:Int)):(gt (Aw6 w x) y=gt w.fL y/\ ¬(x.Be≠0/\y=x.Be - 1))\/((x.Be≠0/\y=x.Be - 1)/\(gt w.fL y).G4=2/\ ∃st g,gt (Aw6 w x) y=Ar1 st g/\(st=0\/st=3)/\1<=g/\g<=w.fC.Dv):=by
 rw[B0x X hy];by_cases h:x.Be≠0/\y=x.Be - 1
 ·rw[if_pos h];refine .inr ⟨h,by rw[h.2];exact X.st h.1,?_⟩;exact Bi7 (by rw[h.2];exact X.gn h.1)
 grind
theorem Bct{w:Bo}(I:Inv w){t:Int->Lk}(A:AtT w.fL t)(F:Aig w.fL.length t (A2h w.fQ)){x:Bb}{qs:List Bb}(hq:w.fQ=x::qs)(hf:x.Bz=0):
  ∃t',AtT (Aw6 w x) t'/\Aig w.fL.length t' (A2h qs)/\(∀k,Al w.fL.length t k->Al w.fL.length t' k/\(t' k).up=(t k).up):=by
 have X:=Bhg I hq;have F1:Aig w.fL.length t ((x.Be,0)::A2h qs):=by rw[hq]at F;rw[<-hf];exact F
 by_cases h:x.Be=0
 ·refine⟨t,?_,Bck F1,fun k hk=>⟨hk,rfl⟩⟩;simp_all[Aw6]
 ·have hk:=X.k h;have hlv:(t (x.Be - 1)).lv=false:=by rw[A _ hk];show((gt w.fL (x.Be - 1)).G4==1)=false;rw[X.st h];rfl
  refine⟨clr t (x.Be - 1),fun y hy=> ?_,Bfg F1 h fun e he e2=> ?_,fun k hk=>⟨B0w hlv hk,by rw[Amk hlv hk.lv]⟩⟩
  ·rw[A94]at hy;unfold clr;rcases A0g X hy with ⟨e,f⟩|⟨f,_,st,g,e,hs,_⟩
   ·rw[if_neg (fun r=>f ⟨h,r⟩),e,A y hy]
   ·rw[if_pos f.2,e];rcases hs with s|s<;>subst s<;>rfl
  ·obtain⟨z,hz,e3⟩:=Gh.1 he;have e3:z.Be=e.1:=by grind
   refine X.no h (List.mem_flatMap.2 ⟨z,hz,?_⟩);have hs:=X.rc.slot;obtain⟨b1,b2,b3,b4,b5,b6⟩:=Bd I.conf;rw[e3,e2,if_neg h,sb1 (by omega) (by omega)];simp
theorem Bu3{w:Bo}(I:Inv w){x:Bb}{qs:List Bb}(hq:w.fQ=x::qs)(hc:x.Ad=[])(hf:x.Bz=0):Inv (A6f w x qs):=by
 obtain⟨t,A,F⟩:=I.forest;have X:=Bhg I hq;obtain⟨t',A',F',_⟩:=Bct I A F hq hf;have hN:=A94 w x;have hch:chL w.fQ=chL qs:=by rw[hq];show x.Ad++_=_;rw[hc];rfl
 have hsl:slL w.fQ=(if x.Be=0 then []else [Ap x.Be 1])++slL qs:=by rw[hq];rfl
 have hsn:=I.sln;rw[hsl]at hsn;refine⟨I.pool,by show((Aw6 w x).length:Int)=_;rw[hN];exact I.len,fun y hy=> ?_,fun y hy c=> ?_,fun y hy=> ?_,⟨t',A',by show Aig ((Aw6 w x).length:Int) t' _;rw[hN];exact F'⟩,fun y hy=>I.wrec y (by rw[hq];exact Z56 _ hy),by show(chL qs).Nodup;grind [Inv.chn],fun c=>by show c∈chL qs ↔ _;rw[<-hch];exact I.chi c,?_,fun s=> ?_,I.log⟩
 ·have hy:0<=y/\y<((Aw6 w x).length:Int):=hy;rw[hN]at hy;show Avg w.fC (gt (Aw6 w x) y)=true
  grind [A0g,Inv.node,A8o,Inv.conf]
 ·have hy:0<=y/\y<((Aw6 w x).length:Int):=hy;rw[hN]at hy;show c∈(gt (Aw6 w x) y).Ad ↔ _;rcases A0g X hy with ⟨e,_⟩|⟨_,h2,st,g,e,hs,hg⟩
  ·rw[e];exact I.own y hy c
  ·rw[e];have:=I.own y hy c;rw[A2d (I.node y hy) (by omega)]at this;exact this
 ·have hy:0<=y/\y<((Aw6 w x).length:Int):=hy;rw[hN]at hy;show(gt (Aw6 w x) y).D5.all (Awb w.fC (gt (Aw6 w x) y).Ad)=true/\At0 (gt (Aw6 w x) y).D5=true/\Awd w.fC w.fP.Fp (gt (Aw6 w x) y)=true;rcases A0g X hy with ⟨e,_⟩|⟨_,h2,st,g,e,hs,hg⟩
  ·grind [Inv.thing]
  ·rw[e];exact⟨rfl,rfl,rfl⟩
 ·exact(Akt.1 hsn).2.1
 ·show s∈slL qs ↔ (0<=s/\s<((Aw6 w x).length:Int))/\(gt (Aw6 w x) s).G4=2;have hi:=I.sli s;rw[hsl,N0]at hi;have hss:=X.rc.slot;obtain⟨b1,b2,b3,b4,b5,b6⟩:=Bd I.conf;rw[hN];constructor
  ·intro h;obtain⟨a,b⟩:=hi.1 (.inr h);refine⟨a,?_⟩;rcases A0g X a with ⟨e,_⟩|⟨⟨h1,h2⟩,_⟩
   ·grind
   ·rw[h2]at h;grind [Bu2.no]
  ·rintro⟨a,b⟩;rcases A0g X a with ⟨e,f⟩|⟨_,_,st,g,e,hs,_⟩
   ·rw[e]at b;rcases hi.2 ⟨a,b⟩with h|h
    ·by_cases q:x.Be=0
     ·grind
     ·rw[if_neg q,sb1 (by omega) (by omega),S9]at h;omega
    ·exact h
   ·rw[e]at b;have b:st=2:=b;omega
theorem Brz{w:Bo}{E:Int}{n:Nat}(G:Ev w E n)(hE:0<=E){x:Bb}{qs:List Bb}(hq:w.fQ=x::qs)(hc:x.Ad=[])(hf:x.Bz=0):Bi6 w (A6f w x qs) E:=by
 obtain⟨t,A,F⟩:=G.inv.forest;have X:=Bhg G.inv hq;obtain⟨t',A',F',hal⟩:=Bct G.inv A F hq hf;have I':=Bu3 G.inv hq hc hf;have hN:=A94 w x;have hs:((Aw6 w x).map (wtN w.fC)).sum=(w.fL.map (wtN w.fC)).sum:=Bi5 _ _ _ hN fun y hy=>by
  rcases A0g X (y:=(y:Int)) ⟨by omega,by omega⟩with ⟨e,_⟩|⟨_,h2,st,g,e,hs,hg⟩
  ·rw[e]
  ·rw[e,A79 _ (by omega)];simp_all[wtN]
 have ep:pot (A6f w x qs)<pot w:=by
  have h1:1<=wtQ w.fC x:=by grind [wtQ]
  unfold pot;rw[hq];show((Aw6 w x).map (wtN w.fC)).sum+(qs.map (wtQ w.fC)).sum<_
  grind
 have hs2:((Aw6 w x).map lvN).sum=(w.fL.map lvN).sum:=Bi5 _ _ _ hN fun y hy=>by
  rcases A0g X (y:=(y:Int)) ⟨by omega,by omega⟩with ⟨e,_⟩|⟨_,h2,st,g,e,hs,hg⟩
  ·rw[e]
  ·rw[e];unfold lvN;rw[if_neg (by show ¬st=1;omega),if_neg (by omega)]
 refine⟨I',G.mem,fun y hy=> ?_,ep,?_,?_,by unfold cnt;rw[hq];show((Aw6 w x).map lvN).sum+qs.length<=_+(qs.length+1);omega⟩
 ·have hy:0<=y/\y<((Aw6 w x).length:Int):=hy;rw[hN]at hy;show EpP E (gt (Aw6 w x) y);rcases A0g X hy with ⟨e,_⟩|⟨_,h2,st,g,e,hs,hg⟩
  ·grind [Ev.ep]
  ·rw[e];exact⟨hE,hE,⟨Int.le_refl 0,by show(0:Int)<=1000;omega⟩⟩
 ·unfold wt;show pot (A6f w x qs)+w.Jp.length<=_;omega
 ·refine Bhe G.inv.rg I'.rg A A' F rfl hN fun y hy=> ?_;refine⟨(hal y hy).1,(hal y hy).2,?_⟩;rcases A0g X hy.lv.1 with ⟨e,_⟩|⟨_,h2,_⟩
  ·exact⟨_,_,_,e⟩
  ·have:=((A0d A).1 hy.lv).2;omega
section
variable {K:Nat} (hK:281474976710656<=K)
include hK
theorem Bhh (w:Bo)(hw:A01 w.fP)(l:List Int)(hl:l.length<=140737488355327):Avq K w l=some (Bo.mk w.fC (Ah1 w.fP l) w.fL w.fQ w.Jp):=by
 unfold Avq;refine Be6 hK l (by omega) A5y w.fP A01 hw (fun s x h=>(Bbl h x).1) _ (fun n s i=>Ak4 K l n i w.fC.Ad w.fC.Du w.fC.Cd w.fC.Ez w.fC.Ce w.fC.Dv s.Fp s.G4 s.Fq w.fL w.fQ w.Jp) (fun n s i h hs=> ?_) (fun n=> ?_)
 ·simp only[Ak4];rw[Acn h,cond_true,if_pos (Akv h),V2 h,show Ef.mk s.Fp s.G4 s.Fq=s from rfl,Bcd K hs,Z0,Acm (by omega)]
 ·show Ak4 K l (n+1) _ _ _ _ _ _ _ _ _ _ _ _ _=_;rw[Ak4,Avr (Z9 _),cond_false];rfl
theorem Bu4{w:Bo}(I:Inv w)(hw:Ark w)(hQ:w.fQ.length<=1000000000){x:Bb}{qs:List Bb}(hq:w.fQ=x::qs)(hf:x.Bz≠0):Axo K w=some (A0f w x qs):=by
 have hm:=K1;obtain⟨t,A,F⟩:=I.forest;have X:=Bcr I A F hq hf;have hk:=X.lv.1;have hF:=X.rc.first;have L:=I.live A X.lv;obtain⟨b1,b2,b3,b4,b5,b6⟩:=Bd I.conf;have hlen:=I.len;have hn:=hw.l.1 _ (Akk hk.1 hk.2);have e1:Ap x.Bz 1=x.Bz - 1:=sb1 (by omega) (by omega);have e2:A1 (x.Bz - 1) 1=x.Bz:=by grind [ad1]
 have hnx:=L.next;have hlq:(w.fQ).length=qs.length+1:=by grind
 have hj: ∀(l:List Az) (q:List Bb),l.length=w.fL.length->q.length=w.fQ.length->Aua K (gt w.fL (x.Bz - 1)) (x.Bz - 1) w.fC.Ad w.fC.Du w.fC.Cd w.fC.Ez w.fC.Ce w.fC.Dv w.fP.Fp w.fP.G4 w.fP.Fq l q w.Jp=some (Bo.mk w.fC (Ah1 w.fP (gt w.fL (x.Bz - 1)).Ad) (l.set (x.Bz - 1).toNat (Ar1 2 (gt w.fL (x.Bz - 1)).C7)) (Air (gt w.fL (x.Bz - 1)) x.Bz::q) w.Jp):=by
  intro l q hl1 hq1;have h8:=hn.tags.2;have h9:=hn.chunks.2;unfold Aua;rw[Bhh hK (Bo.mk w.fC w.fP l q w.Jp) hw.p _ (A3n hK hn.chunks),Z0];unfold A2k A1p;simp only[Z0,Z38,List.singleton_append,Z28];simp only[hl1,if_pos hk,e2,Z0]
  iterate 4 (try rw[if_pos ⟨by omega,by omega⟩])
  try simp only[Z0]
  iterate 4 (try rw[if_pos ⟨by omega,by omega⟩])
  rfl
 unfold Axo;rw[hq,gt0,if_pos ⟨by omega,by simp⟩,e1];simp only[if_pos hk];rw[Aw1 K hn,Z0,if_pos ⟨by omega,by simp⟩,Az7,Z0];unfold A0f Ayf;have hp:plB w.fL (gt w.fL (x.Bz - 1)).G6=decide (1<=(gt w.fL (x.Bz - 1)).G6/\(gt w.fL (x.Bz - 1)).G6<=(w.fL.length:Int)):=by
  rw[Bool.eq_iff_iff,A7a (by omega) (by omega),decide_eq_true_iff];omega
 rw[hp];by_cases q:1<=(gt w.fL (x.Bz - 1)).G6/\(gt w.fL (x.Bz - 1)).G6<=(w.fL.length:Int)
 ·rw[decide_eq_true q];simp only[cond_true];rw[sb1 (by omega) (by omega),if_pos ⟨by omega,by omega⟩];unfold Au7;exact hj _ _ (by grind) (by grind)
 ·rw[decide_eq_false q];simp only[cond_false];exact hj _ _ rfl (by grind)
theorem Bhi{l:List Az}(hl:Aeh l){k gens:Int}(hk:0<=k/\k<(l.length:Int))(hg:0<=(gt l k).C7/\(gt l k).C7<=1000):A4v K l k gens=some (l.set k.toNat (A4r (gt l k) gens)):=by
 unfold A4v Amp A2u A4r;rw[A66 hK hl,Z0,A6q K (Afb hl),decide_eq_true hk];simp only[Z0,Bool.not_true,cond_false,if_pos hk];rw[ad1 (by omega) (by omega)];by_cases q:gens<=(gt l k).C7
 ·rw[decide_eq_true (show(gt l k).C7>=gens from q),if_pos q];rfl
 ·rw[decide_eq_false (show ¬(gt l k).C7>=gens from q),if_neg q];rfl
theorem Bbr{w:Bo}{E:Int}{n:Nat}(G:Ev w E n)(hE:0<=E/\E<=1000000000)(hn:n<=1000000000)(h0:0<w.fQ.length): ∃w',Av2 K w=some w'/\Bi6 w w' E:=by
 have hm:=K1;have W:=G.ww hE.2 hn;have h1:=Bmx w;have h2:=Bco w;have h3:=G.wt;cases hq:w.fQ with
 |nil=>grind
 |cons x qs=>
 have R:=A2e.1 (A4g G.inv hq).1;have hlq:(w.fQ).length=qs.length+1:=by grind
 unfold Av2 A3v;rw[hq,gt0,if_pos ⟨by omega,by simp⟩];by_cases c1:0<x.Dh.length
 ·refine⟨_,?_,Bry G hq c1⟩;rw[decide_eq_true (show(x.Dh.length:Int)>0 by omega)];simp only[cond_true,Z0,beq_self_eq_true]
  grind [B0u,Brr.ntag]
 ·rw[decide_eq_false (show ¬(x.Dh.length:Int)>0 by omega)];by_cases c2:0<x.Ad.length
  ·refine⟨_,?_,Bm2 G hq c2⟩;rw[decide_eq_true (show(x.Ad.length:Int)>0 by omega)];simp only[cond_true,cond_false,Z0];rw[show((2:Int)==1)=false from rfl,show((2:Int)==2)=true from rfl];simp only[cond_true,cond_false];rw[Buz hK G.inv W.p hq c2];rfl
  ·rw[decide_eq_false (show ¬(x.Ad.length:Int)>0 by omega)];have hc:x.Ad=[]:=Vz.1 (by omega);by_cases c3:x.Bz=0
   ·refine⟨_,?_,Brz G hE.1 hq hc c3⟩;have X:=Bhg G.inv hq;have hs:=R.slot;obtain⟨b1,b2,b3,b4,b5,b6⟩:=Bd G.inv.conf;have et:((x::qs).drop (1:Int).toNat).take (((x::qs).length:Int) - 1).toNat=qs:=by
     simp_all
    rw[c3];simp only[bne_self_eq_false,cond_false,Z0];rw[show((4:Int)==1)=false from rfl,show((4:Int)==2)=false from rfl,show((4:Int)==3)=false from rfl];simp only[cond_false];have hl1:(((x::qs).length:Nat):Int)=(qs.length:Int)+1:=by simp
    have hj: ∀l:List Az,Aub K w.fC.Ad w.fC.Du w.fC.Cd w.fC.Ez w.fC.Ce w.fC.Dv w.fP.Fp w.fP.G4 w.fP.Fq l (x::qs) w.Jp=some (Bo.mk w.fC w.fP l qs w.Jp):=by
     intro l;unfold Aub;rw[et,Z38,hl1,if_pos (show(0:Int)<=1/\(1:Int)<=(qs.length:Int)+1/\(qs.length:Int)+1<=(qs.length:Int)+1 from⟨by omega,by omega,by omega⟩),if_pos (show qs.length*72<=140737488355328/\qs.length<=maxLen from⟨by omega,by omega⟩)]
    rw[if_pos ⟨by omega,by simp⟩];unfold A6f Aw6;by_cases q:x.Be=0
    ·grind
    ·have hgn:=X.gn q;rw[A3h q,if_neg q,cond_true,if_pos ⟨by omega,by simp⟩,sb1 (by omega) (by omega),Bhi hK W.l (X.k q) ⟨by omega,by omega⟩,Z0];exact hj _
   ·refine⟨_,?_,Bm3 G hE.1 hq c3⟩;rw[A3h c3];simp only[cond_true,cond_false,Z0];rw[show((3:Int)==1)=false from rfl,show((3:Int)==2)=false from rfl,show((3:Int)==3)=true from rfl];simp only[cond_true,cond_false];rw[Bu4 hK G.inv W (by omega) hq c3];rfl
structure Steps (w w':Bo)(E:Int)(n:Nat):Prop where
 good:Ev w' E n
 stay:A7n w w'
theorem Bm4{E:Int}{n:Nat}(hE:0<=E/\E<=1000000000)(hn:n<=1000000000)(m:Int): ∀(f:Nat) (i:Int) (w:Bo),Ev w E n->pot w<f-> ∃r w',Auc K m f i w.fC.Ad w.fC.Du w.fC.Cd w.fC.Ez w.fC.Ce w.fC.Dv w.fP.Fp w.fP.G4 w.fP.Fq w.fL w.fQ w.Jp=some (r,w')/\Steps w w' E n:=by
 intro f;induction f with
 |zero=>omega
 |succ f ih=>
  intro i w G hf;rw[Auc];cases decide (i<m)with
  |false=>exact⟨m,w,rfl,G,A7n.refl w⟩
  |true=>
  simp only[cond_true];by_cases q:w.fQ.length=0
  ·rw[q];exact⟨i,w,rfl,G,A7n.refl w⟩
  ·obtain⟨w1,e1,S⟩:=Bbr hK G hE hn (by omega);have hp:=S.pot;obtain⟨r,w2,e2,S2⟩:=ih (A1 i 1) w1 (S.good G) (by omega);refine⟨r,w2,?_,S2.good,S.stay.trans S2.stay⟩;simp_all[Aul]
theorem Bbs{E:Int}{n:Nat}(hE:0<=E/\E<=1000000000)(hn:n<=1000000000)(m:Int){w:Bo}(G:Ev w E n): ∃r w',Av6 K w m=some (r,w')/\Steps w w' E n:=by
 have:=G.wt;unfold wt at this;exact Bm4 hK hE hn m K 0 w G (by omega)
def A6g (p:Ef)(at_ n:Int):Bool:=decide (0<=at_)&&(decide (1<=n)&&(decide (at_+n<=(p.G4.length:Int))&&(List.range n.toNat).all (fun k=>gt p.G4 (at_+(k:Int))==0)))
omit hK in
theorem A2n{p:Ef}{a n:Int}:A6g p a n=true ↔ 0<=a/\1<=n/\a+n<=(p.G4.length:Int)/\ ∀c,a<=c/\c<a+n->gt p.G4 c=0:=by
 unfold A6g;simp only[Z4,decide_eq_true_eq,Z1,List.mem_range,beq_iff_eq];refine and_congr_right fun h1=>and_congr_right fun h2=>and_congr_right fun h3=> ?_;constructor
 ·intro h c hc;have:=h (c - a).toNat (by omega)
  grind
 grind
theorem Bd8{p:Ef}(hp:p.G4.length<=1000000000){a n:Int}(ha: -1000000000<=a/\a<=1000000000)(hn: -1000000000<=n/\n<=1000000000):A08 K p a n=some (A6g p a n):=by
 unfold A08 A6g;by_cases h1:a<0
 ·grind
 rw[decide_eq_false h1,decide_eq_true (by omega:0<=a)];by_cases h2:n<1
 ·grind
 rw[decide_eq_false h2,decide_eq_true (by omega:1<=n)];simp only[cond_false,Z30];have es:Ap (p.G4.length:Int) a=(p.G4.length:Int) - a:=by grind [Ap,Asu,Ht]
 rw[es];by_cases h3:a+n<=(p.G4.length:Int)
 ·rw[decide_eq_false (by omega),decide_eq_false (by omega),decide_eq_true h3];simp only[cond_false,Z30];have ea:A1 a n=a+n:=by grind [A1,Lc,Ht]
  have:=At9 hK n.toNat (by omega) (fun k=>gt p.G4 (a+(k:Int))==0) (some true) (fun f i=>Awg K a n f (a+i) p.Fp p.G4 p.Fq) (fun f i h=> ?_) (fun f=> ?_)
  ·grind
  ·simp only[Awg];have e1:A1 (a+(i:Int)) 1=a+((i+1:Nat):Int):=by grind [ad1]
   grind
  grind [Awg]
 grind
theorem Ba3{p:Ef}(hp:p.G4.length<=1000000000){n:Int}(hn: -1000000000<=n/\n<=1000000000): ∃r,A1n K p n=some r/\(r= -1\/A6g p r n=true):=by
 have key: ∀(f i:Nat),i<=p.G4.length->p.G4.length - i<f-> ∃r,Awr K n f (i:Int) p.Fp p.G4 p.Fq=some r/\(r= -1\/A6g p r n=true):=by
  intro f;induction f with
  |zero=>omega
  |succ f ih=>
   intro i hi hf;rw[Awr];rcases Hi i p.G4.length with h|h
   ·rw[Acn h,cond_true,show Ef.mk p.Fp p.G4 p.Fq=p from rfl,Bd8 hK hp ⟨by omega,by omega⟩ hn,Z0];cases e:A6g p (i:Int) n with
    |true=>grind
    |false=>
     grind [Acm]
   grind
 exact key K 0 (Z21 _) (by omega)
theorem Br0{E:Int}{n:Nat}(hE:0<=E/\E<=1000000000)(hn:n<=1000000000)(a:Int){run:Int}(hr: -1000000000<=run/\run<=1000000000): ∀(f:Nat) (i:Int) (w:Bo),Ev w E n->pot w<f-> ∃r w',Au5 K a run f i w.fC.Ad w.fC.Du w.fC.Cd w.fC.Ez w.fC.Ce w.fC.Dv w.fP.Fp w.fP.G4 w.fP.Fq w.fL w.fQ w.Jp=some (r,w')/\Steps w w' E n:=by
 intro f;induction f with
 |zero=>omega
 |succ f ih=>
  intro i w G hf;have W:=G.ww hE.2 hn;have hst:=(Ahr.1 G.inv.pool).st;obtain⟨b1,b2,b3,b4,b5,b6⟩:=Bd G.inv.conf;have hlen:=G.inv.len;rw[Au5];have hw:Bo.mk (Fi.mk w.fC.Ad w.fC.Du w.fC.Cd w.fC.Ez w.fC.Ce w.fC.Dv) (Ef.mk w.fP.Fp w.fP.G4 w.fP.Fq) w.fL w.fQ w.Jp=w:=rfl;have hp:Ef.mk w.fP.Fp w.fP.G4 w.fP.Fq=w.fP:=rfl;obtain⟨cn,hcn⟩: ∃cn,Aux K w.fL 0=some cn:=⟨_,A7l hK w.fL 0 (by omega)⟩;rw[hw,hp,hcn];by_cases q:0<w.fQ.length
  ·obtain⟨w1,e1,S⟩:=Bbr hK G hE hn q;have hpot:=S.pot;obtain⟨r,w2,e2,S2⟩:=ih (A1 i 1) w1 (S.good G) (by omega);have hgo: ∃r w',Ayo K i w.fC.Ad w.fC.Du w.fC.Cd w.fC.Ez w.fC.Ce w.fC.Dv w.fP.Fp w.fP.G4 w.fP.Fq w.fL w.fQ w.Jp (Au5 K a run f)=some (r,w')/\Steps w w' E n:=by
    refine⟨r,w2,?_,S2.good,S.stay.trans S2.stay⟩;simp_all[Ayo]
   have hno: ∃r w',(some (i,w):Option (Int×Bo))=some (r,w')/\Steps w w' E n:=⟨_,_,rfl,G,A7n.refl w⟩;obtain⟨r5,e5,_⟩:=Ba3 hK (p:=w.fP) (by omega) hr
   grind
  ·rw[decide_eq_false (show ¬(w.fQ.length:Int)>0 by omega)];exact⟨_,_,rfl,G,A7n.refl w⟩
theorem Bi8{E:Int}{n:Nat}(hE:0<=E/\E<=1000000000)(hn:n<=1000000000)(a:Int){run:Int}(hr: -1000000000<=run/\run<=1000000000){w:Bo}(G:Ev w E n): ∃r w',A1b K w a run=some (r,w')/\Steps w w' E n:=by
 have:=G.wt;unfold wt at this;exact Br0 hK hE hn a hr K 0 w G (by omega)
end
section
variable {K:Nat} (hK:281474976710656<=K)
include hK
theorem Bfs{l:List Az}(hl:l.length<=1000000000): ∃r,A3r K l=some r/\(r= -1\/(0<=r/\r<(l.length:Int))/\(gt l r).G4=0):=by
 have key: ∀(f i:Nat),i<=l.length->l.length - i<f-> ∃r,Av3 K l f (i:Int)=some r/\(r= -1\/(0<=r/\r<(l.length:Int))/\(gt l r).G4=0):=by
  intro f;induction f with
  |zero=>omega
  |succ f ih=>
   intro i hi hf;rw[Av3];rcases Hi i l.length with h|h
   ·rw[Acn h,cond_true,if_pos (Akv h),Acm (by omega)]
    grind
   grind
 exact key K 0 (Z21 _) (by omega)
theorem A95{p:Ef}(hp:p.G4.length<=1000000000): ∃r,A0j K p=some r/\(r= -1\/A6g p r 1=true):=by
 have key: ∀(f i:Nat),i<=p.G4.length->p.G4.length - i<f-> ∃r,Av4 K f (i:Int) p.Fp p.G4 p.Fq=some r/\(r= -1\/A6g p r 1=true):=by
  intro f;induction f with
  |zero=>omega
  |succ f ih=>
   intro i hi hf;rw[Av4];rcases Hi i p.G4.length with h|h
   ·rw[Acn h,cond_true,if_pos (Akv h),Acm (by omega)];by_cases e:gt p.G4 (i:Int)=0
    ·rw[e];refine⟨_,rfl,.inr (A2n.2 ⟨by omega,by omega,by omega,fun c hc=> ?_⟩)⟩
     grind
    grind
   grind
 exact key K 0 (Z21 _) (by omega)
structure Bm5 (p p':Ef)(a n k:Int):Prop where
 mem:p'.Fp=p.Fp
 st:p'.G4.length=p.G4.length
 own:p'.Fq.length=p.Fq.length
 one: ∀c,0<=c/\c<(p.G4.length:Int)->gt p'.G4 c=(if a<=c/\c<a+n then 1 else gt p.G4 c)/\gt p'.Fq c=(if a<=c/\c<a+n then k else gt p.Fq c)
theorem A9g{p:Ef}(hw:A01 p)(hp:p.G4.length<=1000000)(ho:p.Fq.length=p.G4.length){a n k:Int}(hf:A6g p a n=true): ∃p',Av5 K p a n k=some p'/\Bm5 p p' a n k:=by
 obtain⟨h1,h2,h3,h4⟩:=A2n.1 hf;unfold Av5;rw[A4d K hw,Bd8 hK (by omega) ⟨by omega,by omega⟩ ⟨by omega,by omega⟩,hf,ho];simp only[Z0,cond_true,bne_self_eq_false,cond_false];have ea:A1 a n=a+n:=by grind [A1,Lc,Ht]
 have key: ∀(f i:Nat) (q:Ef),(i:Int)<=n->n.toNat - i<f->Bm5 p q a i k-> ∃p',Axp K a n k f (a+(i:Int)) q (Ef.mk [] [] [])=some p'/\Bm5 p p' a n k:=by
  intro f;induction f with
  |zero=>omega
  |succ f ih=>
   intro i q hi hf T;rw[Axp,ea];by_cases h:(i:Int)=n
   ·grind
   ·have e1:A1 (a+(i:Int)) 1=a+((i+1:Nat):Int):=by grind [ad1]
    have hs:=T.st;have hso:=T.own;rw[decide_eq_true (by omega),cond_true,if_pos ⟨by omega,by omega⟩,if_pos ⟨by omega,by omega⟩,e1];refine ih (i+1) _ (by omega) (by omega) ⟨T.mem,by grind,by grind,fun c hc=> ?_⟩;obtain⟨t1,t2⟩:=T.one c hc;simp only;rw[A6x (by omega) (by omega),A6x (by omega) (by omega),t1,t2];omega
 have:=key K 0 p (by omega) (by omega) ⟨rfl,rfl,rfl,fun c hc=>by omega⟩
 grind
end
theorem Bkz{w:Bo}(I:Inv w){k:Int}(hk:0<=k/\k<(w.fL.length:Int))(p':Ef)(l':List Az)(t':Int->Lk)(hN:l'.length=w.fL.length)
  (ho: ∀x,0<=x/\x<(w.fL.length:Int)->x≠k-> ∃a b c,gt l' x=lnk (gt w.fL x) a b c/\(0<=a/\a<=w.fC.Cd)/\(0<=b/\b<=w.fC.Cd)/\(0<=c/\c<=w.fC.Cd))
  (hs2:(gt w.fL k).G4≠2) (L:Avt w.fC (gt l' k)) (A':AtT l' t') (F':Aig w.fL.length t' (A2h w.fQ))
  (P':A6d w.fC p') (hm:p'.Fp=w.fP.Fp)
  (hone: ∀c,0<=c/\c<w.fC.Ad->(gt p'.G4 c=2 ↔ gt w.fP.G4 c=2)/\(gt p'.G4 c=1/\gt p'.Fq c=k ↔ c∈(gt l' k).Ad)/\ ∀x,x≠k->(gt p'.G4 c=1/\gt p'.Fq c=x ↔ gt w.fP.G4 c=1/\gt w.fP.Fq c=x))
  (hth:(gt l' k).D5.all (Awb w.fC (gt l' k).Ad)=true/\At0 (gt l' k).D5=true/\Awd w.fC w.fP.Fp (gt l' k)=true):
  Inv (Bo.mk w.fC p' l' w.fQ w.Jp):=by
 refine⟨Ahr.2 P',by simp_all[Inv.len],fun x hx=> ?_,fun x hx c=> ?_,fun x hx=> ?_,⟨t',A',by grind⟩,fun x hx=> ?_,I.chn,fun c=> ?_,I.sln,fun s=> ?_,I.log⟩
 ·have hx:0<=x/\x<(l'.length:Int):=hx;rw[hN]at hx;show Avg w.fC (gt l' x)=true;by_cases e:x=k
  ·rw[e];exact(Akp.2 L).1
  ·obtain⟨a,b,c,h1,h2,h3,h4⟩:=ho x hx e;rw[h1];by_cases hs:(gt w.fL x).G4=1
   ·exact(Akp.2 (Bcm (Akp.1 ⟨I.node x hx,hs⟩) h2 h3 h4)).1
   ·have X:=A2d (I.node x hx) hs;have B:=F'.tree.bare x hx.1 hx.2 (by rw[A' x (by omega),h1];grind [A75,lnk]);rw[A' x (by omega),h1]at B;obtain⟨_,B2,B3,B4⟩:=B;have q1:a=0:=B2;have q2:b=0:=B3;have q3:c=0:=B4;have this:lnk (gt w.fL x) 0 0 0=gt w.fL x:=by rw[X];rfl
    grind [Inv.node]
 ·have hx:0<=x/\x<(l'.length:Int):=hx;rw[hN]at hx;show c∈(gt l' x).Ad ↔ (0<=c/\c<w.fC.Ad)/\gt p'.G4 c=1/\gt p'.Fq c=x;by_cases e:x=k
  ·rw[e];constructor
   ·intro h;have hin:=A2b L.dist c h
    grind
   grind
  ·obtain⟨a,b,d,h1,_⟩:=ho x hx e;rw[h1];show c∈(gt w.fL x).Ad ↔ _;rw[I.own x hx c];simp_all
 ·have hx:0<=x/\x<(l'.length:Int):=hx;rw[hN]at hx;show(gt l' x).D5.all (Awb w.fC (gt l' x).Ad)=true/\At0 (gt l' x).D5=true/\Awd w.fC p'.Fp (gt l' x)=true;rw[hm];by_cases e:x=k
  ·grind
  ·obtain⟨a,b,d,h1,_⟩:=ho x hx e;rw[h1];exact I.thing x hx
 ·obtain⟨a,b⟩:=I.wrec x hx;simp_all[Ar0]
 ·show c∈chL w.fQ ↔ (0<=c/\c<w.fC.Ad)/\gt p'.G4 c=2;rw[I.chi c]
  grind
 ·show s∈slL w.fQ ↔ (0<=s/\s<(l'.length:Int))/\(gt l' s).G4=2;rw[I.sli s,hN];refine and_congr_right fun h=> ?_
  by_cases e:s=k
  ·grind [Avt.st]
  ·obtain⟨a,b,d,h1,_⟩:=ho s h e;rw[h1];rfl
theorem Bd9{w:Bo}(I:Inv w){p':Ef}{a n k:Int}(hk:0<=k/\k<(w.fL.length:Int))(hf:A6g w.fP a n=true)(T:Bm5 w.fP p' a n k):
  A6d w.fC p'/\ ∀c,0<=c/\c<w.fC.Ad->(gt p'.G4 c=2 ↔ gt w.fP.G4 c=2)/\(gt p'.G4 c=1/\gt p'.Fq c=k ↔ c∈(gt w.fL k).Ad\/a<=c/\c<a+n)/\ ∀x,x≠k->(gt p'.G4 c=1/\gt p'.Fq c=x ↔ gt w.fP.G4 c=1/\gt w.fP.Fq c=x):=by
 have P:=Ahr.1 I.pool;obtain⟨f1,f2,f3,f4⟩:=A2n.1 hf;have hlen:=I.len;refine⟨⟨P.conf,by rw[T.mem];exact P.mem,by rw[T.st];exact P.st,by rw[T.own];exact P.own,fun c hc=> ?_⟩,fun c hc=> ?_⟩
 ·obtain⟨t1,t2⟩:=T.one c (by rw[P.st];exact hc);obtain⟨p1,p2,p3,p4⟩:=P.one c hc;rw[t1,t2,T.mem]
  grind
 ·obtain⟨t1,t2⟩:=T.one c (by rw[P.st];exact hc);rw[t1,t2];have ho:=I.own k hk c
  grind
structure B0y (l l':List Az)(p k:Int):Prop where
 len:l'.length=l.length
 at_:gt l' k=Az.mk (gt l k).G4 (gt l k).C7 (gt l k).Nb (p+1) (gt l p).Nb (gt l k).Bz (gt l p).Bz 0 (gt l k).Ad (gt l k).No (gt l k).G8 (gt l k).D5 (gt l k).Dh
 ot: ∀x,0<=x/\x<(l.length:Int)->x≠k->gt l' x=lnk (gt l x) (if x=p then k+1 else(gt l x).Bz) (gt l x).G6 (if x+1=(gt l p).Bz then k+1 else(gt l x).G7)
section
variable {K:Nat} (hK:281474976710656<=K)
include hK
theorem Bu5{l:List Az}(hl:Aeh l)(h8:l.length<=1000){p k:Int}(hp:0<=p/\p<(l.length:Int))(hk:0<=k/\k<(l.length:Int))(hne:p≠k)(hf:0<=(gt l p).Bz/\(gt l p).Bz<=(l.length:Int))(hfk:(gt l p).Bz≠k+1): ∃l',A2l K l p k=some l'/\B0y l l' p k:=by
 have e1:A1 p 1=p+1:=ad1 (by omega) (by omega);have e2:A1 k 1=k+1:=ad1 (by omega) (by omega);have e3:Ap (gt l p).Bz 1=(gt l p).Bz - 1:=sb1 (by omega) (by omega);have g1: ∀v,gt (l.set k.toNat v) k=v:=fun v=>A5d hk v
 have g2: ∀v,gt (l.set k.toNat v) p=gt l p:=fun v=>A59 hk.1 hp (Ne.symm hne) v;unfold A2l A3w;rw[A66 hK hl,Z0,e1,e2,Az7,decide_eq_true (by omega),Z0,cond_true,Az7,decide_eq_true (by omega),Z0,cond_true,Aul hne,cond_false,e3]
 simp only[Au7,if_pos hp,if_pos hk,Z49,g1,g2,List.set_set];rw[Az7,Z0];have hp': ∀v:Az,0<=p/\p<((l.set k.toNat v).length:Int):=fun v=>by grind
 have h2: ∀(u v:Az) (x:Int),0<=x/\x<(l.length:Int)->gt ((l.set k.toNat u).set p.toNat v) x=if x=p then v else if x=k then u else gt l x:=by
  grind [Auu]
 by_cases q:1<=(gt l p).Bz/\(gt l p).Bz<=(l.length:Int)
 ·rw[decide_eq_true q,cond_true,if_pos ⟨by omega,by omega⟩];refine⟨_,rfl,by simp,?_,fun x hx hxk=> ?_⟩
  ·rw[A59 (by omega) (by grind) (by omega),A59 hp.1 (by grind) hne,g1]
  ·by_cases a:x=(gt l p).Bz - 1
   ·rw[if_pos (show x+1=(gt l p).Bz by omega),<-a,A5d (by grind),h2 _ _ x hx,if_neg hxk];by_cases b:x=p
    ·rw[if_pos b,if_pos b,b];rfl
    ·rw[if_neg b,if_neg b];rfl
   ·rw[A59 (by omega) (by grind) (Ne.symm a),h2 _ _ x hx,if_neg hxk,if_neg (show ¬x+1=(gt l p).Bz by omega)];by_cases b:x=p
    ·rw[if_pos b,if_pos b,b];rfl
    ·rw[if_neg b,if_neg b];rfl
 ·rw[decide_eq_false q,cond_false];refine⟨_,rfl,by simp,?_,fun x hx hxk=> ?_⟩
  ·grind
  ·rw[h2 _ _ x hx,if_neg hxk,if_neg (show ¬x+1=(gt l p).Bz by omega)];by_cases b:x=p
   ·rw[if_pos b,if_pos b,b];rfl
   ·rw[if_neg b,if_neg b];rfl
end
def newN (g c:Int):Az:=Az.mk 1 g 0 0 0 0 0 0 [c] (c+1) 0 [] []
structure Bhj (w:Bo)(t:Int->Lk)(k c p:Int):Prop where
 hk:0<=k/\k<(w.fL.length:Int)
 st:(gt w.fL k).G4=0
 free:A6g w.fP c 1=true
 up:p= -1\/Al w.fL.length t p/\(rise w.fL.length t w.fL.length p).length<4
theorem Bhj.bare{w:Bo}(I:Inv w){t:Int->Lk}{k c p:Int}(M:Bhj w t k c p):gt w.fL k=Ar1 0 (gt w.fL k).C7:=by
 have:=A2d (I.node k M.hk) (by grind [st])
 grind [st]
def mkN (w:Bo)(k c p:Int):Az:=Az.mk 1 (gt w.fL k).C7 0 (p+1) (if p+1=0 then 0 else(gt w.fL p).Nb) 0 (if p+1=0 then 0 else(gt w.fL p).Bz) 0 [c] (c+1) 0 [] []
structure Bw6 (w:Bo)(l':List Az)(k c p:Int):Prop where
 len:l'.length=w.fL.length
 at_:gt l' k=mkN w k c p
 ot: ∀x,0<=x/\x<(w.fL.length:Int)->x≠k->gt l' x=lnk (gt w.fL x) (if x=p then k+1 else(gt w.fL x).Bz) (gt w.fL x).G6 (if p+1≠0/\x+1=(gt w.fL p).Bz then k+1 else(gt w.fL x).G7)
theorem Ba4{c:Fi}{n:Az}{mem:List Int}{ch:Int}(h1:n.No=ch+1)(h2:n.G8=0)(hz:Arz (Aw4 c mem ch)=true)(ha:n.D5.all (fun t=>Apg t (Azm c n))=true):Awd c mem n=true:=by
 unfold Awd;rw[ha,Bool.and_true,Bool.or_eq_true];refine .inr ?_;have e1:(Azm c n).fAt=ch*c.Du:=by simp_all[Azm]
 have e2:(Azm c n).Yg=c.Du:=by grind [Azm]
 rw[e1,e2];exact hz
theorem Br1{w:Bo}(I:Inv w){t:Int->Lk}(A:AtT w.fL t)(F:Aig w.fL.length t (A2h w.fQ)){k c p:Int}(M:Bhj w t k c p){p':Ef}(T:Bm5 w.fP p' c 1 k){l':List Az}(L:Bw6 w l' k c p):Inv (Bo.mk w.fC p' l' w.fQ w.Jp):=by
 have hk:=M.hk;have hb:=M.bare I;have hb1:(gt w.fL k).Ad=[]:=by rw[hb];rfl
 have P:=Ahr.1 I.pool;obtain⟨T1,T2⟩:=Bd9 I hk M.free T;obtain⟨f1,f2,f3,f4⟩:=A2n.1 M.free;obtain⟨b1,b2,b3,b4,b5,b6⟩:=Bd I.conf;have hlen:=I.len;have hg:=A4f (I.node k hk);have hc:0<=c/\c<w.fC.Ad:=by have:=P.st;omega
 have hp:p= -1\/(0<=p/\p<(w.fL.length:Int)):=M.up.imp_right fun h=>h.1.lv.1
 have hpf:p+1≠0->(0<=p/\p<(w.fL.length:Int))/\p≠k:=fun h=>by
  rcases M.up with e|⟨e,_⟩
  ·omega
  ·refine⟨e.lv.1,fun q=> ?_⟩;have:=((A0d A).1 e.lv).2
   grind [Bhj.st]
 have hA:AtT l' (ins t k p):=by
  intro x hx;rw[L.len]at hx;by_cases e:x=k
  ·subst e;rw[A02,L.at_];unfold mkN A75;simp only;by_cases q:p+1=0
   ·grind
   ·rw[if_neg q,if_neg q,if_neg q,if_neg q,A p (hpf q).1];rfl
  ·rw[Aye e,L.ot x hx e,A x hx];by_cases q:p+1=0
   ·rw[if_neg (fun r:p+1≠0/\x+1=(t p).fi=>r.1 q),if_neg (fun r:p+1≠0/\x+1=(gt w.fL p).Bz=>r.1 q)];rfl
   ·rw[A p (hpf q).1];rfl
 have hF:Aig w.fL.length (ins t k p) (A2h w.fQ):=by
  refine Bg7 F hk ?_ ?_ M.up
  ·rw[A k hk];show((gt w.fL k).G4==1)=false;rw[M.st];rfl
  ·rw[A k hk];show((gt w.fL k).G4==2)=false;rw[M.st];rfl
 have hfp:0<=(if p+1=0 then 0 else(gt w.fL p).Bz)/\(if p+1=0 then 0 else(gt w.fL p).Bz)<=w.fC.Cd:=by
  split
  ·omega
  ·rename_i q;have:=(I.rg.rg p (hpf q).1).2.1;omega
 have hep:0<=(if p+1=0 then 0 else(gt w.fL p).Nb):=by
  split
  ·omega
  ·rename_i q;rcases M.up with e|⟨e,_⟩
   ·omega
   ·exact(I.live A e.lv).ep
 have hz:Arz (Aw4 w.fC w.fP.Fp c)=true:=(P.one c hc).2.2.2 (f4 c ⟨by omega,by omega⟩);refine Bkz I hk p' l' (ins t k p) L.len (fun x hx e=>⟨_,_,_,L.ot x hx e,?_,?_,?_⟩) (by rw[M.st];decide) ?_ hA hF T1 T.mem (fun x hx=> ?_) ?_
 ·have:=(I.rg.rg x hx).2.1;omega
 ·have:=(I.rg.rg x hx).2.2.1;omega
 ·have:=(I.rg.rg x hx).2.2.2;omega
 ·rw[L.at_];refine⟨I.conf,rfl,hg.2.2,?_,⟨Int.le_refl 0,by show(0:Int)<=_;omega⟩,hfp,⟨Int.le_refl 0,by show(0:Int)<=_;omega⟩,Int.le_refl 0,hep,A6z.2 ⟨by simp[mkN],fun x hx=> ?_⟩,?_,Z21 _,Z21 _,rfl,rfl⟩
  ·show 0<=p+1/\p+1<=_;omega
  ·rw[S9.1 (show x∈[c] from hx)];exact hc
  ·unfold A9o mkN;simp only;rw[Aul (by omega),cond_false,sb1 (by omega) (by omega),Int.add_sub_cancel,Wy.2 ⟨by omega,by omega⟩];simp
 ·obtain⟨a1,a2,a3⟩:=T2 x hx;refine⟨a1,?_,a3⟩;rw[a2,hb1,L.at_];show x∈[]\/_ ↔ x∈[c]
  grind
 ·rw[L.at_];exact⟨rfl,rfl,Ba4 rfl rfl hz rfl⟩
theorem Br2{l:List Az}{t:Int->Lk}(A:AtT l t)(R:Rg l): ∀(n:Nat) (k:Int),Aw5 l (Akg l n k)=true->A6k l (Akg l n k)=true->Al l.length t k:=by
 intro n;induction n with
 |zero=>grind [Akg,A6k]
 |succ n ih=>
  intro k h1 h2;unfold Akg at h1 h2;by_cases hk:0<=k/\k<(l.length:Int)
  ·rw[if_pos hk]at h1 h2;have hu:=(R.rg k hk).1;have hl:=R.len;rw[sb1 (by omega) (by omega)]at h1 h2;cases hr:Akg l n ((gt l k).fUp - 1)with
   |nil=>
    rw[hr]at h1 h2;have s1:(gt l k).G4=1:=by grind [Aw5]
    have s2:(gt l k).fUp=0:=by
     have:((gt l (gt [k] ((0:Nat):Int))).fUp==0)=true:=by assumption
     exact beq_iff_eq.1 this
    exact .root ((A0d A).2 ⟨hk,s1⟩) (by rw[A k hk];exact s2)
   |cons y r=>
    have hy:y=(gt l k).fUp - 1/\0<=y/\y<(l.length:Int):=by
     cases n with
     |zero=>simp[Akg]at hr
     |succ m=>
      unfold Akg at hr
      grind
    rw[hr]at h1 h2;have h1:((gt l k).G4==1&&((gt l k).G5==(gt l y).Nb)&&Aw5 l (y::r))=true:=h1;rw[Z4,Z4,beq_iff_eq,beq_iff_eq]at h1;obtain⟨⟨s1,s2⟩,s3⟩:=h1;have s4:A6k l (y::r)=true:=by
     assumption
    have h5:(gt l y).G4=1:=by
     cases r with
     |nil=>grind [Aw5]
     |cons z r=>
      simp_all[Aw5]
    have h6:=ih ((gt l k).fUp - 1) (by grind) (by grind);refine .step ((A0d A).2 ⟨hk,s1⟩) ?_ (by rw[A k hk];exact h6);unfold Cu;rw[A k hk];show Lv _ t ((gt l k).fUp - 1)/\(t ((gt l k).fUp - 1)).ep=(gt l k).G5;rw[<-hy.1,A y hy.2,s2];exact⟨(A0d A).2 ⟨hy.2,h5⟩,rfl⟩
  simp_all[A6k]
theorem Bea{w:Bo}(I:Inv w){k:Int}(h:Ayb w.fL k=true):AlW w.fL k:=by
 obtain⟨t,A,_⟩:=I.forest;unfold Ayb at h;rw[Z4]at h;exact⟨t,A,Br2 A I.rg _ _ h.1 h.2⟩
theorem A8p{w:Bo}(I:Inv w){h:Ch}(h0:(Ay1 w.fL h).2=0):AlW w.fL (Ay1 w.fL h).1:=by
 unfold Ay1 at *;cases e1:A5p h with
 |false=>grind
 |true=>
  rw[e1]at h0;simp only[cond_true]at h0 ⊢;cases e2:decide (Az8 w.fL h<0)with
  |true=>grind
  |false=>
   rw[e2]at h0;simp only[cond_false]at h0 ⊢;cases e3:Ayb w.fL (Az8 w.fL h)with
   |false=>grind
   |true=>simp_all[Bea]
section
variable {K:Nat} (hK:281474976710656<=K)
include hK
theorem Bhk{w:Bo}(hw:Ark w)(h8:w.fL.length<=1000): ∃r,A4j K w=some r:=by
 have key: ∀(f i:Nat) (v:Int),i<=w.fL.length->w.fL.length - i<f-> ∃r,Aks K f v (i:Int) w.fC.Ad w.fC.Du w.fC.Cd w.fC.Ez w.fC.Ce w.fC.Dv w.fP.Fp w.fP.G4 w.fP.Fq w.fL w.fQ w.Jp=some r:=by
  intro f;induction f with
  |zero=>omega
  |succ f ih=>
   intro i v hi hf;rw[Aks];rcases Hi i w.fL.length with h|h
   ·have go: ∀v,∃r,Aph K (i:Int) w.fC.Ad w.fC.Du w.fC.Cd w.fC.Ez w.fC.Ce w.fC.Dv w.fP.Fp w.fP.G4 w.fP.Fq w.fL w.fQ w.Jp (Aks K f) v=some r:=by
     intro v;unfold Aph;rw[Acm (by omega)];exact ih (i+1) v h (by omega)
    rw[Acn h,cond_true,if_pos (Akv h),A7y hK hw.l _ ⟨by omega,by omega⟩];simp only[Z0,if_pos (Akv h)];cases (gt w.fL (i:Int)).G4==0 with
    |true=>exact go _
    |false=>
     simp only[cond_false];cases Ayb w.fL (i:Int)with
     |true=>exact go _
     |false=>
      simp only[cond_false];cases (gt w.fL (i:Int)).G4 != 3 with
      |false=>exact go _
      |true=>
       simp only[cond_true];cases decide ((gt w.fL (i:Int)).C7<w.fC.Dv)<;>exact go _
   ·rw[Avr h];grind
 exact key K 0 0 (Z21 _) (by omega)
theorem Bcu{w:Bo}(hw:Ark w)(h8:w.fL.length<=1000): ∃r,A2s K w=some r/\r.length<=w.fL.length/\ ∀x∈r,(0<=x/\x<(w.fL.length:Int))/\Ayb w.fL x=true:=by
 have hm:=K1;have key: ∀(f i:Nat) (v:List Int),i<=w.fL.length->w.fL.length - i<f->v.length<=i->(∀x∈v,(0<=x/\x<(w.fL.length:Int))/\Ayb w.fL x=true)-> ∃r,Avu K f v (i:Int) w.fC.Ad w.fC.Du w.fC.Cd w.fC.Ez w.fC.Ce w.fC.Dv w.fP.Fp w.fP.G4 w.fP.Fq w.fL w.fQ w.Jp=some r/\r.length<=w.fL.length/\ ∀x∈r,(0<=x/\x<(w.fL.length:Int))/\Ayb w.fL x=true:=by
  intro f;induction f with
  |zero=>omega
  |succ f ih=>
   intro i v hi hf hl hv;rw[Avu];rcases Hi i w.fL.length with h|h
   ·rw[Acn h,cond_true,A7y hK hw.l _ ⟨by omega,by omega⟩];simp only[Z0];cases e:Ayb w.fL (i:Int)with
    |false=>
     simp only[cond_false]
     grind [Axg,Acm]
    |true=>
     simp only[cond_true];rw[if_pos ⟨by grind,by grind⟩];unfold Axg;rw[Acm (by omega)];refine ih (i+1) _ h (by omega) (by grind) fun x hx=> ?_
     grind
   grind
 exact key K 0 [] (Z21 _) (by omega) (by simp) (fun x hx=>by cases hx)
theorem A8a{w:Bo}(hw:Ark w)(h8:w.fL.length<=1000)(n:Int): ∃b,Awf K w n=some b:=by
 obtain⟨r,e,hl,_⟩:=Bcu hK hw h8;have key: ∀(f i:Nat) (v:Int),i<=r.length->r.length - i<f-> ∃x,Auw K r f v (i:Int) w.fC.Ad w.fC.Du w.fC.Cd w.fC.Ez w.fC.Ce w.fC.Dv w.fP.Fp w.fP.G4 w.fP.Fq w.fL w.fQ w.Jp=some x:=by
  intro f;induction f with
  |zero=>omega
  |succ f ih=>
   intro i v hi hf;rw[Auw];rcases Hi i r.length with h|h
   ·rw[Acn h,cond_true,if_pos (Akv h),A9p hK _ _ hw.p.st.2,Z0,Acm (by omega)];exact ih (i+1) _ h (by omega)
   ·rw[Avr h];grind
 obtain⟨x,ex⟩:=key K 0 0 (Z21 _) (by omega);have ex:Auw K r K 0 0 w.fC.Ad w.fC.Du w.fC.Cd w.fC.Ez w.fC.Ce w.fC.Dv w.fP.Fp w.fP.G4 w.fP.Fq w.fL w.fQ w.Jp=some x:=ex;unfold Awf A4k;rw[e,Z0,ex];simp only[Z0];cases decide (n>=0)<;>cases decide (n<=w.fC.Ad)<;>exact⟨_,rfl⟩
omit hK in
theorem A8b{l:List Az}(hl:l.length<=1000000)(k:Int): ∃h,Aym K l k=some h:=by
 unfold Aym;rw[A6q K (by omega),Z0];by_cases q:0<=k/\k<(l.length:Int)
 all_goals simp_all[decide_eq_false]
end
def A8t (n:Az)(c:Int):Az:=Az.mk n.G4 n.C7 n.Nb n.fUp n.G5 n.Bz n.G6 n.G7 (n.Ad++[c]) (c+1) 0 n.D5 n.Dh
theorem Baj{c:Fi}{n:Az}(L:Avt c n){k:Int}(hk:0<=k/\k<c.Ad)(hn:k ∉ n.Ad):Avt c (A8t n k):=by
 obtain⟨b1,b2,_⟩:=Bd L.conf;have hd:=A6z.1 L.dist;refine⟨L.conf,L.st,L.gen,L.up,L.first,L.next,L.prev,L.ep,L.ue,A6z.2 ⟨Akt.2 ⟨hd.1,by simp,fun x h1 h2=>by grind⟩,fun x hx=> ?_⟩,?_,L.nth,L.ntag,L.tags,L.things⟩
 ·rcases N0.1 hx with h|h
  all_goals grind
 ·unfold A9o A8t;simp only;rw[Aul (by omega),cond_false,sb1 (by omega) (by omega),Int.add_sub_cancel,Wy.2 ⟨by omega,by omega⟩];simp
section
variable {K:Nat} (hK:281474976710656<=K)
include hK
theorem Bak{c:Fi}{n:Az}(L:Avt c n)(hw:At6 n){k:Int}(hk:0<=k/\k<c.Ad)(hn:k ∉ n.Ad):Ay5 K c n k=some (A8t n k,true):=by
 have hm:=K1;have L2:=Baj L hk hn;obtain⟨b1,b2,_⟩:=Bd L.conf;have h1:=Aw0 L.conf L.dist;have h3:=L.nth;have h4:=L.ntag;have e:Az.mk n.G4 n.C7 n.Nb n.fUp n.G5 n.Bz n.G6 n.G7 (n.Ad++[k]) (A1 k 1) 0 n.D5 n.Dh=A8t n k:=by grind [A8t,ad1]
 unfold Ay5;have hb:A8t n k=A8t n k:=rfl;rw[Aw1 K hw,Z0,show(n.G4 != 1)=false by rw[L.st];rfl,cond_false,Amo,A0x hK L.conf,Wy.2 ⟨by omega,by omega⟩,Z0,Bool.not_true,cond_false,if_pos ⟨by grind,by grind⟩,e];have hl:(A8t n k).Ad.length=n.Ad.length+1:=by grind
 rw[Az6 hK c (A8t n k) (by omega) (show n.D5.length<=_ by omega) (show n.Dh.length<=_ by omega),(Akp.2 L2).1];rfl
omit hK in
theorem Ev.le{w:Bo}{E E':Int}{n m:Nat}(G:Ev w E n)(hE:E<=E')(h:n<=m):Ev w E' m:=⟨G.inv,G.mem,fun k hk=>by have:=G.ep k hk;exact⟨Int.le_trans this.ep hE,Int.le_trans this.ue hE,this.cur⟩,S5 G.wt h,Int.le_trans G.cn hE⟩
theorem Bm6{E:Int}{n:Nat}(hE:0<=E/\E<=900000000)(hn:n<=900000000){w:Bo}(G:Ev w E n){p at_ ch:Int}(hp:p= -1\/AlW w.fL p/\(Akg w.fL w.fL.length p).length<4)(ha:(0<=at_/\at_<(w.fL.length:Int))/\(gt w.fL at_).G4=0)(hc:A6g w.fP ch 1=true)(hcn:(cnt w:Int)+1<=E):
  ∃p' l',Av5 K w.fP ch 1 at_=some p'/\(p= -1->l'=w.fL.set at_.toNat (newN (gt w.fL at_).C7 ch))/\(p≠ -1->A2l K (w.fL.set at_.toNat (newN (gt w.fL at_).C7 ch)) p at_=some l')/\Ev (Bo.mk w.fC p' l' w.fQ w.Jp) E (n+18)/\l'.length=w.fL.length:=by
 have I:=G.inv;have W:=G.ww (by omega) (by omega);obtain⟨t,A,F⟩:=I.forest;obtain⟨b1,b2,b3,b4,b5,b6⟩:=Bd I.conf;have P:=Ahr.1 I.pool;have hst:=P.st;have how:=P.own;have hlen:=I.len;obtain⟨f1,f2,f3,f4⟩:=A2n.1 hc;have M:Bhj w t at_ ch p:=⟨ha.1,ha.2,hc,hp.imp_right fun h=>⟨h.1.al A,by rw[A91 A I.rg]at h;exact h.2⟩⟩
 obtain⟨p',ep,T⟩:=A9g hK W.p (by omega) (by omega) (k:=at_) hc;have hg:=A4f (I.node at_ ha.1);have hbare:=M.bare I;have hl': ∃l',(p= -1->l'=w.fL.set at_.toNat (newN (gt w.fL at_).C7 ch))/\(p≠ -1->A2l K (w.fL.set at_.toNat (newN (gt w.fL at_).C7 ch)) p at_=some l')/\Bw6 w l' at_ ch p:=by
  by_cases q:p= -1
  ·refine⟨w.fL.set at_.toNat (newN (gt w.fL at_).C7 ch),fun _=>rfl,fun h=>absurd q h,by simp,?_,fun x hx hne=> ?_⟩
   ·rw[A5d ha.1]
    grind [newN,mkN]
   ·have hpx:x≠p:=by omega
    rw[A59 ha.1.1 hx (Ne.symm hne),if_neg hpx,if_neg (fun r=>r.1 (by omega))];rfl
  ·obtain⟨al,_⟩:=hp.resolve_left q;have al:=al.al A;have hpi:=al.lv.1;have hpl:=(A0d A).1 al.lv;have hne:p≠at_:=fun e=>by grind
   have hgp: ∀v,gt (w.fL.set at_.toNat v) p=gt w.fL p:=fun v=>A59 ha.1.1 hpi (Ne.symm hne) v
   have hnw:At6 (newN (gt w.fL at_).C7 ch):=⟨Gx (x:=(1:Int)) (by omega) (by omega),Gx (by show _<=(gt w.fL at_).C7;omega) (by show(gt w.fL at_).C7<=_;omega),Ayc,Ayc,Ayc,Ayc,Ayc,Ayc,A0e (fun x hx=>by rw[S9.1 (show x∈[ch] from hx)];omega) (by show [ch].length<=_;simp),Gx (by show _<=ch+1;omega) (by show ch+1<=_;omega),Ayc,A58,A0z⟩;have hW:Aeh (w.fL.set at_.toNat (newN (gt w.fL at_).C7 ch)):=by
    refine⟨fun x hx=> ?_,by grind⟩;rcases Z54 hx with h|h
    ·exact W.l.1 x h
    grind
   have hfr:=(I.rg.rg p hpi).2.1;obtain⟨l',e,L⟩:=Bu5 hK hW (by grind) (p:=p) (k:=at_) (by grind) (by grind) hne (by grind) (by
    rw[hgp];intro e;have h1:=(F.tree.link p al.lv).first (by rw[A p hpi];show(gt w.fL p).Bz≠0;omega);have h2:=((A0d A).1 h1.1).2;rw[A p hpi]at h2;have h2:(gt w.fL ((gt w.fL p).Bz - 1)).G4=1:=h2
    grind)
   refine⟨l',fun h=>absurd h q,fun _=>e,by rw[L.len];simp,?_,fun x hx hxk=> ?_⟩
   ·rw[L.at_,A5d ha.1,hgp];unfold newN mkN
    grind
   ·rw[L.ot x (by grind) hxk,A59 ha.1.1 hx (Ne.symm hxk),hgp]
    grind
 obtain⟨l',h1,h2,L⟩:=hl';have I':=Br1 I A F M T L;refine⟨p',l',ep,h1,h2,⟨I',?_,fun x hx=> ?_,?_,?_⟩,L.len⟩
 ·show ∀x∈p'.Fp,_;rw[T.mem];exact G.mem
 ·have hx:0<=x/\x<(l'.length:Int):=hx;rw[L.len]at hx;show EpP E (gt l' x);by_cases e:x=at_
  ·rw[e,L.at_];refine⟨hE.1,?_,⟨by show 0<=ch+1;omega,by show ch+1<=_;omega⟩⟩;show(if p+1=0 then 0 else(gt w.fL p).Nb)<=E;split
   ·exact hE.1
   ·rename_i q;have:=(hp.resolve_left (by omega)).1.al A;exact(G.ep p this.lv.1).ep
  ·rw[L.ot x hx e];have:=G.ep x hx;exact⟨this.ep,this.ue,this.cur⟩
 ·have hs:=A1i (f:=wtN w.fC) L.len ha.1 fun x hx hne=>by rw[L.ot x hx hne];rfl
  have e0:wtN w.fC (gt w.fL at_)=0:=by grind [A79]
  have e1:wtN w.fC (gt l' at_)<=18:=by
   rw[L.at_];unfold wtN mkN
   grind
  have h3:=G.wt;unfold wt pot at h3 ⊢
  grind
 ·have hs:=A1i (f:=lvN) L.len ha.1 fun x hx hne=>by rw[L.ot x hx hne];rfl
  have e1:lvN (gt l' at_)<=1:=by unfold lvN;split<;>omega
  unfold cnt at hcn ⊢;show(((l'.map lvN).sum+w.fQ.length:Nat):Int)<=E;omega
end
section
variable {K:Nat} (hK:281474976710656<=K)
include hK
theorem A8c{E:Int}{n:Nat}(hE:0<=E/\E<=890000000)(hn:n<=900000000){w:Bo}(G:Ev w E n){p:Int}(a b:F8)(hp:a.Aab=0->p= -1\/AlW w.fL p/\(Akg w.fL w.fL.length p).length<4):
  ∃r w',Art K p w.fC.Ad w.fC.Du w.fC.Cd w.fC.Ez w.fC.Ce w.fC.Dv w.fP.Fp w.fP.G4 w.fP.Fq w.fL w.fQ w.Jp a b=some (r,w')/\Ev w' (E+1) (n+18)/\w'.fC=w.fC:=by
 unfold Art;by_cases h0:a.Aab=0
 ·have hp:=hp h0;rw[h0];simp only[bne_self_eq_false,cond_false];obtain⟨d,w1,e1,S⟩:=Bi8 hK (by omega:0<=E/\E<=1000000000) (by omega) 1 (run:=1) (by omega) G;rw[show Bo.mk (Fi.mk w.fC.Ad w.fC.Du w.fC.Cd w.fC.Ez w.fC.Ce w.fC.Dv) (Ef.mk w.fP.Fp w.fP.G4 w.fP.Fq) w.fL w.fQ w.Jp=w from rfl,e1];simp only[Z0];have G1:=S.good;have T1:=S.stay;have P1:=Ahr.1 G1.inv.pool;have hst:=P1.st;have hlen:=G1.inv.len;obtain⟨b1,b2,b3,b4,b5,b6⟩:=Bd G1.inv.conf;obtain⟨at_,e2,h2⟩:=Bfs hK (l:=w1.fL) (by omega);obtain⟨ch,e3,h3⟩:=A95 hK (p:=w1.fP) (by omega);rw[e2,e3];simp only[Z0];have G1':=Ev.le G1 (by omega:E<=E+1) (by omega:n<=n+18);have Gp:=Ev.le G1 (by omega:E<=E+1) (Z9 n);by_cases q1:at_<0
  ·rw[decide_eq_true q1];exact⟨_,_,rfl,G1',T1.conf⟩
  ·rw[decide_eq_false q1];simp only[cond_false];by_cases q2:ch<0
   ·rw[decide_eq_true q2];exact⟨_,_,rfl,G1',T1.conf⟩
   ·rw[decide_eq_false q2];simp only[cond_false];obtain⟨hat,hfree⟩:=h2.resolve_left (by omega);have hch:=h3.resolve_left (by omega);obtain⟨f1,f2,f3,f4⟩:=A2n.1 hch;have hp1:p= -1\/AlW w1.fL p/\(Akg w1.fL w1.fL.length p).length<4:=hp.imp_right fun h=>by
     obtain⟨x1,_,x3⟩:=T1.node p h.1;rw[x3,T1.len]
     grind
    obtain⟨p',l',et,k1,k2,G2,hl2⟩:=Bm6 hK (by omega) hn Gp hp1 ⟨hat,hfree⟩ hch (by have:=G1.cn;omega);have hg:=A4f (G1.inv.node at_ hat);have L0:Avt w1.fC (Az.mk 1 (gt w1.fL at_).C7 0 0 0 0 0 0 [] 0 0 [] []):=⟨G1.inv.conf,rfl,hg.2.2,⟨Int.le_refl 0,by grind⟩,⟨Int.le_refl 0,by grind⟩,⟨Int.le_refl 0,by grind⟩,⟨Int.le_refl 0,by grind⟩,Int.le_refl 0,Int.le_refl 0,rfl,rfl,Z21 _,Z21 _,rfl,rfl⟩;have W0:At6 (Az.mk 1 (gt w1.fL at_).C7 0 0 0 0 0 0 [] 0 0 [] []):=A7d (E:=0) (Akp.2 L0).1 ⟨Int.le_refl 0,Int.le_refl 0,Int.le_refl 0,by grind⟩ (by omega);unfold Amp;simp only[Z0,if_pos hat];rw[et,Z0,Bak hK L0 W0 ⟨f1,by omega⟩ (by grind),Z0];simp only;have hnew:A8t (Az.mk 1 (gt w1.fL at_).C7 0 0 0 0 0 0 [] 0 0 [] []) ch=newN (gt w1.fL at_).C7 ch:=rfl;rw[hnew];by_cases q3:p= -1
    ·rw[decide_eq_false (by omega: ¬p>=0)];simp only[cond_false];rw[<-k1 q3];obtain⟨hd,eh⟩:=A8b (K:=K) (l:=l') (by omega) at_
     obtain⟨t,w2,es,S2⟩:=Bbs hK (E:=E+1) (n:=n+18) (by omega) (by omega) w1.fC.Ez G2;unfold Axr;rw[eh,Z0,show Bo.mk (Fi.mk w1.fC.Ad w1.fC.Du w1.fC.Cd w1.fC.Ez w1.fC.Ce w1.fC.Dv) (Ef.mk p'.Fp p'.G4 p'.Fq) l' w1.fQ w1.Jp=Bo.mk w1.fC p' l' w1.fQ w1.Jp from rfl,es];exact⟨_,_,rfl,S2.good,S2.stay.conf.trans T1.conf⟩
    ·have hp2:0<=p:=by
      obtain⟨t,A,F⟩:=G1.inv.forest;exact((hp1.resolve_left q3).1.al A).lv.1.1
     rw[decide_eq_true (show p>=0 from hp2)];simp only[cond_true];rw[k2 q3,Z0];obtain⟨hd,eh⟩:=A8b (K:=K) (l:=l') (by omega) at_
     obtain⟨t,w2,es,S2⟩:=Bbs hK (E:=E+1) (n:=n+18) (by omega) (by omega) w1.fC.Ez G2;unfold Axr;rw[eh,Z0,show Bo.mk (Fi.mk w1.fC.Ad w1.fC.Du w1.fC.Cd w1.fC.Ez w1.fC.Ce w1.fC.Dv) (Ef.mk p'.Fp p'.G4 p'.Fq) l' w1.fQ w1.Jp=Bo.mk w1.fC p' l' w1.fQ w1.Jp from rfl,es];exact⟨_,_,rfl,S2.good,S2.stay.conf.trans T1.conf⟩
 ·rw[A3h h0];exact⟨_,_,rfl,Ev.le G (by omega:E<=E+1) (by omega),rfl⟩
theorem Bhl{E:Int}{n:Nat}(hE:0<=E/\E<=890000000)(hn:n<=900000000){w:Bo}(G:Ev w E n){p:Int}(v:Bool)(a b:F8)(hp:v=false->p= -1\/AlW w.fL p/\(Akg w.fL w.fL.length p).length<4):
  ∃r w',Axs K p v w.fC.Ad w.fC.Du w.fC.Cd w.fC.Ez w.fC.Ce w.fC.Dv w.fP.Fp w.fP.G4 w.fP.Fq w.fL w.fQ w.Jp a b=some (r,w')/\Ev w' (E+1) (n+18)/\w'.fC=w.fC:=by
 have W:=G.ww (by omega) (by omega);have hlen:=G.inv.len;obtain⟨b1,b2,b3,b4,b5,b6⟩:=Bd G.inv.conf;unfold Axs;cases v with
 |true=>exact A8c hK hE hn G (p:=p) (F8.mk 3 a.fH a.fR a.fB a.Aac a.Ez a.R2) b (fun h=>absurd (show(3:Int)=0 from h) (by decide))
 |false=>
  simp only[cond_false];rw[show Bo.mk (Fi.mk w.fC.Ad w.fC.Du w.fC.Cd w.fC.Ez w.fC.Ce w.fC.Dv) (Ef.mk w.fP.Fp w.fP.G4 w.fP.Fq) w.fL w.fQ w.Jp=w from rfl];obtain⟨r,er⟩:=Bhk hK W (by omega);rw[er,Z0];cases r==0 with
  |true=>exact A8c hK hE hn G (p:=p) (F8.mk 4 a.fH a.fR a.fB a.Aac a.Ez a.R2) b (fun h=>absurd (show(4:Int)=0 from h) (by decide))
  |false=>
   simp only[cond_false];obtain⟨f,ef⟩:=A8a hK W (by omega) 1;rw[ef,Z0];cases f with
   |false=>exact A8c hK hE hn G (p:=p) (F8.mk 5 a.fH a.fR a.fB a.Aac a.Ez a.R2) b (fun h=>absurd (show(5:Int)=0 from h) (by decide))
   |true=>simp_all[A8c]
theorem Bi9{E:Int}{n:Nat}(hE:0<=E/\E<=890000000)(hn:n<=900000000){w:Bo}(G:Ev w E n)(h:Ch): ∃r w',A2w K w h=some (r,w')/\Ev w' (E+1) (n+18)/\w'.fC=w.fC:=by
 have W:=G.ww (by omega) (by omega);have hlen:=G.inv.len;obtain⟨b1,b2,b3,b4,b5,b6⟩:=Bd G.inv.conf;have hup: ∃p c,A4t K w h=some (p,c)/\(c=0->p= -1\/AlW w.fL p):=by
  unfold A4t;cases ((h.Be==0)&&((h.C7==0)&&true))with
  |true=>grind
  |false=>
   simp only[cond_false];rw[Ay9 hK W.l,Z0];exact⟨_,_,rfl,fun h0=> .inr (A8p G.inv h0)⟩
 obtain⟨p,c,ep,hp⟩:=hup;unfold A2w;rw[ep,Z0,A3t hK w W.l,Z0];simp only;by_cases q:c=0
 ·rw[q];simp only[bne_self_eq_false,cond_false];rcases hp q with e|e
  ·simp_all[Bhl]
  ·have hpi:0<=p/\p<(w.fL.length:Int):=by
    obtain⟨t,A,F⟩:=G.inv.forest;exact(e.al A).lv.1
   rw[decide_eq_true (show p>=0 from hpi.1)];simp only[cond_true];unfold A07;rw[A64 hK W.l p ⟨by omega,by omega⟩];simp only[Z0];refine Bhl hK hE hn G _ _ _ (fun hv=> .inr ⟨e,?_⟩)
   grind
 ·rw[A3h q];exact A8c hK hE hn G (p:=p) (F8.mk c (Ch.mk 0 0) (Fb.mk (Ch.mk 0 0) 0 0) [] (Bg3 w h) 0 0) (F8.mk 0 (Ch.mk 0 0) (Fb.mk (Ch.mk 0 0) 0 0) [] 0 0 0) (fun h=>absurd h q)
end
theorem Bcv{c:Fi}{ch:List Int}{t:Bn}(h:Awb c ch t=true){j:Int}(h0:t.fAt<=j)(h1:j<t.fAt+t.Yg):j / c.Du∈ch:=by
 unfold Awb at h;rw[Z4,Z1]at h;obtain⟨ht,hc⟩:=h;obtain⟨hs,hin⟩:=A6p ht;obtain⟨b1,b2,_⟩:=Bd hin.1;have e1:t.fAt / c.Du<=j / c.Du:=Int.ediv_le_ediv (by omega) h0;have e2:j / c.Du<=(t.fAt+t.Yg - 1) / c.Du:=Int.ediv_le_ediv (by omega) (by omega);have:=hc (j / c.Du - t.fAt / c.Du).toNat (by grind)
 grind
theorem Bal{a s j:Int}(hs:0<s)(h0:a*s<=j)(h1:j<a*s+s):j / s=a:=by
 have h2:a<=j / s:=(Int.le_ediv_iff_mul_le hs).2 h0;have h3:j / s<a+1:=Int.ediv_lt_of_lt_mul hs (by grind);omega
theorem A60{a b:Bn}(h: ∀j,a.fAt<=j->j<a.fAt+a.Yg->b.fAt<=j->j<b.fAt+b.Yg->False):Apg a b=true:=by
 unfold Apg;rw[decide_eq_true_iff];by_cases h1:a.Yg<=0
 ·omega
 by_cases h2:b.Yg<=0
 ·omega
 by_cases h3:a.fAt+a.Yg<=b.fAt
 ·omega
 by_cases h4:b.fAt+b.Yg<=a.fAt
 ·omega
 exfalso;by_cases h5:a.fAt<=b.fAt
 ·exact h b.fAt h5 (by omega) (by omega) (by omega)
 ·exact h a.fAt (by omega) (by omega) (by omega) (by omega)
theorem Bhm{a b:Bn}(h:Apg a b=true){j:Int}(h1:a.fAt<=j)(h2:j<a.fAt+a.Yg)(h3:b.fAt<=j)(h4:j<b.fAt+b.Yg):False:=by
 unfold Apg at h
 grind
theorem Bft{l:List Bn}:At0 l=true ↔ l.Pairwise (fun a b=>Apg a b=true):=by
 unfold At0;rw[Z1,List.pairwise_iff_getElem];constructor
 ·intro h i j hi hj hij;have:=h j (by grind)
  grind [List.mem_iff_getElem,V2]
 ·intro h j hj;rw[List.mem_range]at hj;rw[Z1];intro o ho;obtain⟨i,hi,e⟩:=List.mem_iff_getElem.1 ho
  grind [V2]
theorem A96{l:List Bn}{t:Bn}(h:At0 l=true)(ht: ∀o∈l,Apg o t=true):At0 (l++[t])=true:=by
 simp_all[Bft,List.pairwise_append]
theorem A97{c:Fi}{n:Az}(L:Avt c n)(hc:0<=n.No/\n.No<=1000)(h0:n.No≠0):n.No - 1∈n.Ad/\0<=n.G8/\n.G8<=c.Du:=by
 have:=L.cur;unfold A9o at this;rw[Aul h0,cond_false,Z4,Wy,sb1 (by omega) (by omega)]at this
 grind
theorem Bk0{c:Fi}{ch ch':List Int}(h: ∀x∈ch,x∈ch'){t:Bn}(ht:Awb c ch t=true):Awb c ch' t=true:=by
 unfold Awb at ht ⊢;rw[Z4,Z1]at ht ⊢;exact⟨ht.1,fun j hj=>List.contains_iff_mem.2 (h _ (List.contains_iff_mem.1 (ht.2 j hj)))⟩
def Bcw (c:Fi)(n:Az)(off size:Int):Az:=Az.mk n.G4 n.C7 n.Nb n.fUp n.G5 n.Bz n.G6 n.G7 n.Ad n.No (off+size) (n.D5++[Bn.mk ((n.No - 1)*c.Du+off) size 0]) n.Dh
structure Br3 (c:Fi)(n:Az)(off size:Int):Prop where
 cur:n.No≠0
 ho:n.G8<=off
 hz:1<=size
 fit:off+size<=c.Du
 cnt:n.D5.length<12
structure ThP (c:Fi)(mem:List Int)(n:Az):Prop where
 inch:n.D5.all (Awb c n.Ad)=true
 apart:At0 n.D5=true
 loose:Awd c mem n=true
theorem Bhn{c:Fi}{mem:List Int}{n:Az}{off size:Int}(L:Avt c n)(hc:0<=n.No/\n.No<=1000)(T:ThP c mem n)(S:Br3 c n off size):Avt c (Bcw c n off size)/\ThP c mem (Bcw c n off size):=by
 obtain⟨b1,b2,_⟩:=Bd L.conf;obtain⟨m1,m2,m3⟩:=A97 L hc S.cur;have hm:=A2b L.dist _ m1;have ho:=S.ho;have hz:=S.hz;have hf:=S.fit;have hn:=S.cnt;have hlo:=T.loose;unfold Awd at hlo;rw[Aul S.cur,Z52,Z4,Z1]at hlo;obtain⟨z1,z2⟩:=hlo;have q0:0<=(n.No - 1)*c.Du:=Int.mul_nonneg (by omega) (by omega);have q1:(n.No - 1)*c.Du+c.Du<=c.Ad*c.Du:=by
  have:(n.No - 1+1)*c.Du<=c.Ad*c.Du:=Int.mul_le_mul_of_nonneg_right (by omega) (by omega)
  grind
 have hby:Ao0 c=c.Ad*c.Du:=by unfold Ao0;rw[L.conf];rfl
 have d1:((n.No - 1)*c.Du+off) / c.Du=n.No - 1:=Bal (by omega) (by omega) (by omega);have d2:((n.No - 1)*c.Du+off+size - 1) / c.Du=n.No - 1:=Bal (by omega) (by omega) (by omega);have htb:At7 c (Bn.mk ((n.No - 1)*c.Du+off) size 0)=true:=by
  unfold At7;rw[decide_eq_true (show A2a c (Bn.mk ((n.No - 1)*c.Du+off) size 0) from⟨L.conf,hz,by grind,by grind⟩)]
  grind
 have htc:Awb c n.Ad (Bn.mk ((n.No - 1)*c.Du+off) size 0)=true:=by
  unfold Awb
  grind
 have hr: ∀o∈n.D5,∀j,o.fAt<=j->j<o.fAt+o.Yg->(n.No - 1)*c.Du+n.G8<=j->j<(n.No - 1)*c.Du+c.Du->False:=fun o h j h1 h2 h3 h4=>Bhm (z2 o h) h1 h2 (b:=Azm c n) h3 (by show j<(n.No - 1)*c.Du+n.G8+(c.Du - n.G8);omega)
 refine⟨⟨L.conf,L.st,L.gen,L.up,L.first,L.next,L.prev,L.ep,L.ue,L.dist,?_,?_,L.ntag,L.tags,?_⟩,⟨?_,?_,?_⟩⟩
 ·unfold A9o Bcw;simp only;rw[Aul S.cur,cond_false,sb1 (by omega) (by omega),List.contains_iff_mem.2 m1,Wy.2 ⟨by omega,by omega⟩];rfl
 ·show(n.D5++[_]).length<=12
  grind
 ·show(n.D5++[_]).all (At7 c)=true
  grind [Avt.things]
 ·show(n.D5++[_]).all (Awb c n.Ad)=true
  grind [ThP.inch]
 ·refine A96 T.apart fun o h=>A60 fun j h1 h2 h3 h4=>hr o h j h1 h2 ?_ ?_
  all_goals grind
 ·unfold Awd;rw[Bool.or_eq_true,Z4];refine .inr ⟨?_,?_⟩
  ·rw[A5u]at z1 ⊢;intro j h1 h2 h3;have h1:((n.No - 1)*c.Du+(off+size)).toNat<=j:=h1;have h2:j<((n.No - 1)*c.Du+(off+size)).toNat+(c.Du - (off+size)).toNat:=h2;refine z1 j ?_ ?_ h3
   ·show((n.No - 1)*c.Du+n.G8).toNat<=j;omega
   ·show j<((n.No - 1)*c.Du+n.G8).toNat+(c.Du - n.G8).toNat;omega
  ·show(n.D5++[_]).all _=true;rw[List.all_append,Gv,Z4,Z4,Z1];refine⟨fun o h=>A60 fun j h1 h2 h3 h4=>hr o h j h1 h2 ?_ ?_,A60 fun j h1 h2 h3 h4=> ?_,rfl⟩
   ·have h3:(n.No - 1)*c.Du+(off+size)<=j:=h3;omega
   ·have h4:j<(n.No - 1)*c.Du+(off+size)+(c.Du - (off+size)):=h4;omega
   ·have h2:j<(n.No - 1)*c.Du+off+size:=h2;have h3:(n.No - 1)*c.Du+(off+size)<=j:=h3;omega
def A98 (a n:Int):List Int:=(List.range n.toNat).map (fun(i:Nat)=>a+(i:Int))
theorem A99{a n x:Int}:x∈A98 a n ↔ a<=x/\x<a+n:=by
 unfold A98;rw[Gh];constructor
 ·grind
 ·intro h;exact⟨(x - a).toNat,by grind,by omega⟩
theorem Bja (a n:Int):(A98 a n).Nodup:=by
 grind [A98,List.nodup_range]
def A6n (c:Fi)(n:Az)(a run size:Int):Az:=Az.mk n.G4 n.C7 n.Nb n.fUp n.G5 n.Bz n.G6 n.G7 (n.Ad++A98 a run) n.No n.G8 (n.D5++[Bn.mk (a*c.Du) size run]) n.Dh
structure Bjb (c:Fi)(n:Az)(a run size:Int):Prop where
 hz:c.Du<size/\size<=200
 hr:run=Ayd size c.Du
 at_:0<=a/\a+run<=c.Ad
 new: ∀x∈n.Ad,¬(a<=x/\x<a+run)
 cnt:n.D5.length<12
theorem Bho{c:Fi}{mem:List Int}{n:Az}{a run size:Int}(L:Avt c n)(hc:0<=n.No/\n.No<=1000)(T:ThP c mem n)(S:Bjb c n a run size):Avt c (A6n c n a run size)/\ThP c mem (A6n c n a run size):=by
 obtain⟨b1,b2,_⟩:=Bd L.conf;have hz:=S.hz;have ha:=S.at_;have hn:=S.cnt;have hrun:run=(size+c.Du - 1) / c.Du:=by
  rw[S.hr];unfold Ayd;rw[Wy.2 ⟨by omega,by omega⟩,Wy.2 ⟨by omega,by omega⟩];rfl
 have hru:size<=run*c.Du:=by
  have:=Int.lt_ediv_add_one_mul_self (size+c.Du - 1) (show 0<c.Du by omega)
  grind
 have hr1:1<=run:=by
  rw[hrun];exact(Int.le_ediv_iff_mul_le (by omega)).2 (by omega)
 have q0:0<=a*c.Du:=Int.mul_nonneg (by omega) (by omega);have q1:a*c.Du+run*c.Du<=c.Ad*c.Du:=by
  rw[<-Int.add_mul];exact Int.mul_le_mul_of_nonneg_right (by omega) (by omega)
 have hby:Ao0 c=c.Ad*c.Du:=by unfold Ao0;rw[L.conf];rfl
 have htb:At7 c (Bn.mk (a*c.Du) size run)=true:=by
  unfold At7;rw[decide_eq_true (show A2a c (Bn.mk (a*c.Du) size run) from⟨L.conf,by grind,q0,by grind⟩)];show(bif run==0 then _ else decide (size>c.Du)&&(run==Ayd size c.Du&&(a*c.Du) % c.Du==0))=true;rw[Aul (by omega),cond_false,decide_eq_true (by omega),<-S.hr,Int.mul_emod_left];simp
 have hdv: ∀j,a*c.Du<=j->j<a*c.Du+size->a<=j / c.Du/\j / c.Du<a+run:=fun j h1 h2=>by
  refine⟨(Int.le_ediv_iff_mul_le (by omega)).2 h1,Int.ediv_lt_of_lt_mul (by omega) ?_⟩
  grind
 have htc:Awb c (n.Ad++A98 a run) (Bn.mk (a*c.Du) size run)=true:=by
  unfold Awb;rw[htb,Z30,Z1];intro j hj;rw[List.mem_range]at hj;have e1:=hdv (a*c.Du) (Int.le_refl _) (by omega);have e2:=hdv (a*c.Du+size - 1) (by omega) (by omega);have hj:j<((a*c.Du+size - 1) / c.Du - a*c.Du / c.Du+1).toNat:=hj;refine List.contains_iff_mem.2 (N0.2 (.inr (A99.2 ?_)))
  grind
 have hmono: ∀x∈n.Ad,x∈n.Ad++A98 a run:=fun x h=>N0.2 (.inl h)
 have hold: ∀o∈n.D5,∀j,o.fAt<=j->j<o.fAt+o.Yg->a*c.Du<=j->j<a*c.Du+size->False:=fun o h j h1 h2 h3 h4=>S.new _ (Bcv (Z1.1 T.inch o h) h1 h2) (hdv j h3 h4)
 have hd:=A6z.1 L.dist;refine⟨⟨L.conf,L.st,L.gen,L.up,L.first,L.next,L.prev,L.ep,L.ue,?_,?_,?_,L.ntag,L.tags,?_⟩,⟨?_,?_,?_⟩⟩
 ·refine A6z.2 ⟨Akt.2 ⟨hd.1,Bja _ _,fun x h1 h2=>S.new x h1 (A99.1 h2)⟩,fun x hx=> ?_⟩;rcases N0.1 hx with h|h
  ·grind
  ·have:=A99.1 h;omega
 ·have:=L.cur;unfold A9o at this ⊢;show(bif n.No==0 then n.G8==0 else(n.Ad++A98 a run).contains (Ap n.No 1)&&inB n.G8 0 c.Du)=true
  grind
 ·show(n.D5++[_]).length<=12
  grind
 ·show(n.D5++[_]).all (At7 c)=true
  grind [Avt.things]
 ·show(n.D5++[_]).all (Awb c (n.Ad++A98 a run))=true;rw[List.all_append,Gv,htc,Z4,Z1];exact⟨fun o h=>Bk0 hmono (Z1.1 T.inch o h),rfl⟩
 ·exact A96 T.apart fun o h=>A60 fun j h1 h2 h3 h4=>hold o h j h1 h2 h3 h4
 ·have hlo:=T.loose;unfold Awd at hlo ⊢;rw[Bool.or_eq_true,Z4]at hlo ⊢;rcases hlo with h|⟨h,h'⟩
  ·exact .inl h
  ·by_cases e:n.No=0
   ·exact .inl (by show(n.No==0)=true;grind)
   ·refine .inr ⟨h,?_⟩;show(n.D5++[_]).all (fun t=>Apg t (Azm c n))=true;rw[List.all_append,h',Gv,Z30,Z4];refine⟨A60 fun j h1 h2 h3 h4=> ?_,rfl⟩;obtain⟨m1,m2,m3⟩:=A97 L hc e;have h3:(n.No - 1)*c.Du+n.G8<=j:=h3;have h4:j<(n.No - 1)*c.Du+n.G8+(c.Du - n.G8):=h4;have:=Bal (a:=n.No - 1) (s:=c.Du) (j:=j) (by omega) (by omega) (by omega);exact S.new _ m1 (by grind)
def A9h (al:Int):Bool:=al==1||(al==2||al==4)
theorem A7f (K:Nat)(al:Int):Av7 K al=some (A9h al):=by
 grind [Av7,A9h]
theorem Bhp{al:Int}(h:A9h al=true):al=1\/al=2\/al=4:=by
 simp_all[A9h]
theorem Bjc (K:Nat){b al:Int}(hb:0<=b/\b<=1000)(ha:A9h al=true): ∃off,A2x K b al=some off/\b<=off/\off<=2000:=by
 unfold A2x;rw[Amo,Wy.2 ⟨by omega,by omega⟩,A7f,ha];simp only[Z0,cond_true,Bool.not_true,cond_false];have e:Ap (A1 b al) 1=b+al - 1:=by
  grind [Bhp,Ap,Asu,A1,Lc,Ht]
 rw[e];have key: ∀a:Int,1<=a->a<=4->P2 (Apq .i64 (b+a - 1) a) a=(b+a - 1) / a*a:=by
  intro a h1 h2;have h3:(b+a - 1) / a<=b+a - 1:=Int.ediv_le_self _ (by omega);have h4:0<=(b+a - 1) / a:=Int.ediv_nonneg (by omega) (by omega);have h5:=Azl (a:=(b+a - 1) / a) (b:=a) (m:=2000) (n:=4) h4 (by omega) (by omega) h2
  grind [Apq,P2,Ew,Ht]
 rcases Bhp ha with h|h|h
 ·subst h;rw[if_pos (by decide),key 1 (by omega) (by omega)]
  grind
 ·subst h;rw[if_pos (by decide),key 2 (by omega) (by omega)]
  grind
 ·subst h;rw[if_pos (by decide),key 4 (by omega) (by omega)]
  grind
section
variable {K:Nat} (hK:281474976710656<=K)
include hK
theorem Beb{c:Fi}{n:Az}(L:Avt c n)(W:At6 n)(hc:0<=n.No/\n.No<=1000)(size al:Int)(hs: -1000000<=size/\size<=1000000): ∃at_ b,A1c K c n size al=some (at_,b)/\(b=true-> ∃off,at_=(n.No - 1)*c.Du+off/\n.No≠0/\n.G8<=off/\1<=size/\off+size<=c.Du):=by
 obtain⟨b1,b2,_⟩:=Bd L.conf;have h1:=Aw0 L.conf L.dist;have h3:=L.nth;have h4:=L.ntag;unfold A1c;rw[Az6 hK c n (by omega) (by omega) (by omega),(Akp.2 L).1];simp only[Z0,cond_true];by_cases q:n.No=0
 ·simp_all
 ·rw[Aul q,Amo];simp only[cond_false,Z0];by_cases q2:1<=size/\size<=c.Du
  ·rw[Wy.2 q2,A7f];simp only[cond_true,Z0];cases ha:A9h al with
   |false=>simp_all
   |true=>
    obtain⟨m1,m2,m3⟩:=A97 L hc q;have hm:=A2b L.dist _ m1;obtain⟨off,eo,ho1,ho2⟩:=Bjc K (b:=n.G8) ⟨m2,by omega⟩ ha;simp only[Bool.not_true,cond_false];rw[eo,Z0];have e1:A1 off size=off+size:=by grind [A1,Lc,Ht]
    have e2:Ap n.No 1=n.No - 1:=sb1 (by omega) (by omega);have h5:=Azl (a:=n.No - 1) (b:=c.Du) (m:=12) (n:=16) (by omega) (by omega) (by omega) b2.2;have e3:P2 (n.No - 1) c.Du=(n.No - 1)*c.Du:=by grind [P2,Ew,Ht]
    have e4:A1 ((n.No - 1)*c.Du) off=(n.No - 1)*c.Du+off:=by grind [A1,Lc,Ht]
    rw[e1,e2,e3,e4];by_cases q3:off+size>c.Du
    all_goals simp_all[decide_eq_false]
  ·rw[Bbf.2 q2];grind
theorem Ba5{c:Fi}{n:Az}(L:Avt c n)(W:At6 n)(hc:0<=n.No/\n.No<=1000)(size al:Int)(hs: -1000000<=size/\size<=1000000): ∃n' b,Ayp K c n size al=some (n',b)/\(n'=n\/ ∃off,Br3 c n off size/\n'=Bcw c n off size):=by
 have hm:=K1;obtain⟨b1,b2,_⟩:=Bd L.conf;have h3:=L.nth;obtain⟨at_,b,e,hb⟩:=Beb hK L W hc size al hs;unfold Ayp;rw[Aw1 K W,Z0,e,Z0];cases b with
 |false=>grind
 |true=>
  obtain⟨off,e1,h1,h2,h4,h5⟩:=hb rfl;obtain⟨m1,m2,m3⟩:=A97 L hc h1;have hmi:=A2b L.dist _ m1;simp only[cond_true];by_cases q:(n.D5.length:Int)>=12
  ·simp_all
  ·rw[decide_eq_false q];simp only[cond_false];rw[if_pos ⟨by grind,by grind⟩];refine⟨_,_,rfl,.inr ⟨off,⟨h1,h2,h4,h5,by omega⟩,?_⟩⟩;have e2:Ap n.No 1=n.No - 1:=sb1 (by omega) (by omega);have h6:=Azl (a:=n.No - 1) (b:=c.Du) (m:=12) (n:=16) (by omega) (by omega) (by omega) b2.2;have e3:P2 (n.No - 1) c.Du=(n.No - 1)*c.Du:=by grind [P2,Ew,Ht]
   have e4:Ap at_ ((n.No - 1)*c.Du)=off:=by grind [Ap,Asu,Ht]
   have e5:A1 off size=off+size:=by grind [A1,Lc,Ht]
   rw[e2,e3,e4,e5,e1];rfl
theorem Br4{c:Fi}{n:Az}(L:Avt c n)(W:At6 n)(hc:0<=n.No/\n.No<=1000)(size al:Int)(hs: -1000000<=size/\size<=1000000): ∃b,Azb K c n size al=some b:=by
 have h1:=Aw0 L.conf L.dist;have h3:=L.nth;have h4:=L.ntag;obtain⟨at_,b,e,hb⟩:=Beb hK L W hc size al hs;unfold Azb;rw[e,Az6 hK c n (by omega) (by omega) (by omega),(Akp.2 L).1,Amo,A7f,L.st];simp only[Z0];cases b<;>cases inB size 1 c.Du<;>exact⟨_,rfl⟩
theorem Bhq{c:Fi}{mem:List Int}{n:Az}(L:Avt c n)(W:At6 n)(hc:0<=n.No/\n.No<=1000)(T:ThP c mem n){a run size:Int}(S:Bjb c n a run size):Au8 K c n a size=some (A6n c n a run size,true):=by
 have hm:=K1;obtain⟨b1,b2,_⟩:=Bd L.conf;have h1:=Aw0 L.conf L.dist;have h3:=L.nth;have h4:=L.ntag;have hz:=S.hz;have ha:=S.at_;obtain⟨L2,T2⟩:=Bho L hc T S;have hrun:run=(size+c.Du - 1) / c.Du:=by
  rw[S.hr];unfold Ayd;rw[Wy.2 ⟨by omega,by omega⟩,Wy.2 ⟨by omega,by omega⟩];rfl
 have hru:size<=run*c.Du:=by
  have:=Int.lt_ediv_add_one_mul_self (size+c.Du - 1) (show 0<c.Du by omega)
  grind
 have hr1:1<=run:=by
  rw[hrun];exact(Int.le_ediv_iff_mul_le (by omega)).2 (by omega)
 have q1:run*c.Du<=c.Ad*c.Du:=Int.mul_le_mul_of_nonneg_right (by omega) (by omega);have hby:Ao0 c=c.Ad*c.Du:=by unfold Ao0;rw[L.conf];rfl
 have e3:P2 a c.Du=a*c.Du:=by
  have h5:=Azl (a:=a) (b:=c.Du) (m:=12) (n:=16) (by omega) (by omega) (by omega) b2.2
  grind [P2,Ew,Ht]
 unfold Au8 Asl Ao7;rw[Aw1 K W,Z0,Avs,L.conf];simp only[Z0,cond_true];rw[show(n.G4 != 1)=false by rw[L.st];rfl,cond_false,decide_eq_true (by omega),cond_true,Ayl,Z0,decide_eq_false (by omega),cond_false,Amo,A0x hK L.conf,Wy.2 ⟨by omega,by omega⟩];simp only[Z0,Bool.not_true,cond_false];rw[A5a,Z0,<-S.hr,Z0];have key: ∀(f i:Nat) (v:List Int),(i:Int)<=run->run.toNat - i<f->v=n.Ad++(List.range i).map (fun(j:Nat)=>a+(j:Int))->Api K c a size run f (i:Int) (Az.mk n.G4 n.C7 n.Nb n.fUp n.G5 n.Bz n.G6 n.G7 v n.No n.G8 n.D5 n.Dh) (Az.mk 0 0 0 0 0 0 0 0 [] 0 0 [] []) n.G4 n.C7 n.Nb n.fUp n.G5 n.Bz n.G6 n.G7 n.Ad n.No n.G8 n.D5 n.Dh=some (A6n c n a run size,true):=by
  intro f;induction f with
  |zero=>omega
  |succ f ih=>
   intro i v hi hf hv;have hvl:v.length=n.Ad.length+i:=by grind
   rw[Api];by_cases h:(i:Int)=run
   ·rw[decide_eq_false (by omega),cond_false,e3];simp only;rw[if_pos ⟨by grind,by grind⟩];have el:Az.mk n.G4 n.C7 n.Nb n.fUp n.G5 n.Bz n.G6 n.G7 v n.No n.G8 (n.D5++[Bn.mk (a*c.Du) size run]) n.Dh=A6n c n a run size:=by
     grind [A6n,A98]
    have hl2:=L2.nth;have hl3:=Aw0 L2.conf L2.dist;rw[el,Az6 hK c (A6n c n a run size) (by omega) (by omega) (show n.Dh.length<=_ by omega),(Akp.2 L2).1];rfl
   ·have e1:A1 a (i:Int)=a+(i:Int):=by unfold A1 Lc;exact Ht (by omega) (by omega)
    rw[decide_eq_true (by omega),cond_true,e1,Acm (by omega)];simp only;rw[if_pos ⟨by grind,by grind⟩];refine ih (i+1) _ (by omega) (by omega) ?_
    grind [List.range_succ]
 have:=key K 0 n.Ad (by omega) (by omega) (by simp);exact this
end
theorem A8d{w:Bo}{E:Int}{n:Nat}(G:Ev w E n){k:Int}(hk:AlW w.fL k){p':Ef}{n':Az}
  (P':A6d w.fC p') (hone: ∀c,0<=c/\c<w.fC.Ad->(gt p'.G4 c=2 ↔ gt w.fP.G4 c=2)/\(gt p'.G4 c=1/\gt p'.Fq c=k ↔ c∈n'.Ad)/\ ∀x,x≠k->(gt p'.G4 c=1/\gt p'.Fq c=x ↔ gt w.fP.G4 c=1/\gt w.fP.Fq c=x))
  (hm:p'.Fp=w.fP.Fp) (hlk:A75 n'=A75 (gt w.fL k)) (L:Avt w.fC n') (T:ThP w.fC w.fP.Fp n') (he:EpP E n') {m:Nat} (hwt:wtN w.fC n'<=wtN w.fC (gt w.fL k)+m):
  Ev (Bo.mk w.fC p' (w.fL.set k.toNat n') w.fQ w.Jp) E (n+m)/\AlW (w.fL.set k.toNat n') k/\gt (w.fL.set k.toNat n') k=n':=by
 obtain⟨t,A,F⟩:=G.inv.forest;have al:=hk.al A;have hki:=al.lv.1;have hst:=((A0d A).1 al.lv).2;have hg: ∀x,0<=x/\x<(w.fL.length:Int)->gt (w.fL.set k.toNat n') x=if x=k then n' else gt w.fL x:=fun x hx=>Auu hki hx n'
 have hgk:gt (w.fL.set k.toNat n') k=n':=A5d hki n';have A':AtT (w.fL.set k.toNat n') t:=fun x hx=>by
  rw[Z49]at hx;rw[hg x hx,A x hx]
  grind
 have I':Inv (Bo.mk w.fC p' (w.fL.set k.toNat n') w.fQ w.Jp):=by
  refine Bkz G.inv hki p' _ t (by simp) (fun x hx hne=>⟨_,_,_,by rw[hg x hx,if_neg hne];exact(Bcs _).symm,?_,?_,?_⟩) (by omega) (by grind) A' F P' hm (by simp_all) (by grind [ThP.inch,ThP.apart,ThP.loose])
  ·rw[<-G.inv.len];exact(G.inv.rg.rg x hx).2.1
  ·rw[<-G.inv.len];exact(G.inv.rg.rg x hx).2.2.1
  ·rw[<-G.inv.len];exact(G.inv.rg.rg x hx).2.2.2
 refine⟨⟨I',by show ∀x∈p'.Fp,_;rw[hm];exact G.mem,fun x hx=> ?_,?_,?_⟩,⟨t,A',by grind⟩,hgk⟩
 ·have hx:0<=x/\x<((w.fL.set k.toNat n').length:Int):=hx;rw[Z49]at hx;show EpP E (gt (w.fL.set k.toNat n') x)
  grind [Ev.ep]
 ·have hs:=A1i (f:=wtN w.fC) (l:=w.fL) (l':=w.fL.set k.toNat n') (by simp) hki fun x hx hne=>by grind
  rw[hgk]at hs;have h3:=G.wt
  grind [wt,pot]
 ·have hs:=A1i (f:=lvN) (l:=w.fL) (l':=w.fL.set k.toNat n') (by simp) hki fun x hx hne=>by rw[hg x hx,if_neg hne]
  rw[hgk,show lvN n'=1 by unfold lvN;rw[if_pos L.st],show lvN (gt w.fL k)=1 by unfold lvN;rw[if_pos hst]]at hs;have h3:=G.cn;unfold cnt at h3 ⊢;show(((((w.fL.set k.toNat n').map lvN).sum+w.fQ.length:Nat)):Int)<=E;omega
theorem Ev.live{w:Bo}{E:Int}{n:Nat}(G:Ev w E n){k:Int}(hk:AlW w.fL k):(0<=k/\k<(w.fL.length:Int))/\Avt w.fC (gt w.fL k)/\ThP w.fC w.fP.Fp (gt w.fL k)/\EpP E (gt w.fL k):=by
 obtain⟨t,A,F⟩:=G.inv.forest;have al:=(hk.al A).lv;obtain⟨t1,t2,t3⟩:=G.inv.thing k al.1;exact⟨al.1,G.inv.live A al,⟨t1,t2,t3⟩,G.ep k al.1⟩
theorem Bcx{w:Bo}(I:Inv w){k:Int}(hk:0<=k/\k<(w.fL.length:Int)){ch:List Int}(h:ch=(gt w.fL k).Ad): ∀c,0<=c/\c<w.fC.Ad->(gt w.fP.G4 c=2 ↔ gt w.fP.G4 c=2)/\(gt w.fP.G4 c=1/\gt w.fP.Fq c=k ↔ c∈ch)/\ ∀x,x≠k->(gt w.fP.G4 c=1/\gt w.fP.Fq c=x ↔ gt w.fP.G4 c=1/\gt w.fP.Fq c=x):=fun c hc=>⟨Iff.rfl,by simp_all[Inv.own],fun _ _=>Iff.rfl⟩
theorem Bec{w:Bo}(I:Inv w){p':Ef}{a n k:Int}(hk:0<=k/\k<(w.fL.length:Int))(hf:A6g w.fP a n=true)(T:Bm5 w.fP p' a n k){ch:List Int}(h: ∀c,c∈ch ↔ c∈(gt w.fL k).Ad\/a<=c/\c<a+n):
  A6d w.fC p'/\ ∀c,0<=c/\c<w.fC.Ad->(gt p'.G4 c=2 ↔ gt w.fP.G4 c=2)/\(gt p'.G4 c=1/\gt p'.Fq c=k ↔ c∈ch)/\ ∀x,x≠k->(gt p'.G4 c=1/\gt p'.Fq c=x ↔ gt w.fP.G4 c=1/\gt w.fP.Fq c=x):=by
 obtain⟨a1,a2⟩:=Bd9 I hk hf T
 grind
section
variable {K:Nat} (hK:281474976710656<=K)
include hK
theorem Bed{E:Int}{n:Nat}(hE:0<=E/\E<=900000000)(hn:n<=900000000){w:Bo}(G:Ev w E n){k:Int}(hk:AlW w.fL k)(size al:Int)(hs: -1000000<=size/\size<=1000000)(v19:F8)(v20 v21 v22 v23 v24 v25 v26:Int)(v27:List Int)(v28 v29 v30:Int):
  ∃r w',Aws K k size al w.fC.Ad w.fC.Du w.fC.Cd w.fC.Ez w.fC.Ce w.fC.Dv w.fP.Fp w.fP.G4 w.fP.Fq w.fL w.fQ w.Jp v19 v20 v21 v22 v23 v24 v25 v26 v27 v28 v29 v30=some (r,w')/\Ev w' E n/\w'.fC=w.fC/\w'.fL.length=w.fL.length:=by
 obtain⟨hki,L,T,e⟩:=G.live hk;have W:=A7d (Akp.2 L).1 e (by omega);obtain⟨n',b,e1,h⟩:=Ba5 hK L W e.cur size al hs;unfold Aws;simp only[if_pos hki];rw[show Fi.mk w.fC.Ad w.fC.Du w.fC.Cd w.fC.Ez w.fC.Ce w.fC.Dv=w.fC from rfl,e1,Z0];have P:=Ahr.1 G.inv.pool;refine⟨_,_,rfl,?_,rfl,by simp⟩;rcases h with h|⟨off,S,h⟩
 ·rw[h];exact(A8d G hk (n':=gt w.fL k) (m:=0) P (Bcx G.inv hki rfl) rfl rfl L T e (by omega)).1
 ·rw[h];obtain⟨L2,T2⟩:=Bhn L e.cur T S;exact(A8d G hk (n':=Bcw w.fC (gt w.fL k) off size) (m:=0) P (Bcx G.inv hki rfl) rfl rfl L2 T2 ⟨e.ep,e.ue,e.cur⟩ (Z9 _)).1
theorem Br5{E:Int}{n:Nat}(hE:0<=E/\E<=900000000)(hn:n<=880000000){w:Bo}(G:Ev w E n){k:Int}(hk:AlW w.fL k)(size al:Int)(hs: -1000000<=size/\size<=1000000)(a4:F8):
  ∃r w',A1s K w k size al a4=some (r,w')/\Ev w' E (n+16)/\w'.fC=w.fC/\w'.fL.length=w.fL.length:=by
 obtain⟨hki,L,T,e⟩:=G.live hk;have W:=A7d (Akp.2 L).1 e (by omega);have WW:=G.ww (by omega) (by omega);have hlen:=G.inv.len;obtain⟨b1,b2,b3,b4,b5,b6⟩:=Bd G.inv.conf;obtain⟨nb,e1⟩:=Br4 hK L W e.cur size al hs;unfold A1s;simp only[if_pos hki];rw[e1,Z0];cases nb with
 |false=>
  simp only[cond_false];obtain⟨r,w',h1,h2,h3⟩:=Bed hK hE (by omega) G hk size al hs (F8.mk 0 (Ch.mk 0 0) (Fb.mk (Ch.mk 0 0) 0 0) [] 0 0 0) a4.Aab a4.fH.Be a4.fH.C7 a4.fR.fH.Be a4.fR.fH.C7 a4.fR.Nb a4.fR.fNo a4.fB a4.Aac a4.Ez a4.R2;exact⟨r,w',h1,Ev.le h2 (Int.le_refl E) (by omega),h3⟩
 |true=>
  simp only[cond_true];obtain⟨fb,ef⟩:=A8a hK WW (by omega) 1;rw[ef,Z0];cases fb with
  |false=>exact⟨_,_,rfl,Ev.le G (Int.le_refl E) (by omega),rfl,rfl⟩
  |true=>
   simp only[Bool.not_true,cond_false];obtain⟨d,w1,ed,S⟩:=Bi8 hK (by omega:0<=E/\E<=1000000000) (by omega) 0 (run:=1) (by omega) G;have G1:=S.good;obtain⟨hk1,⟨x1,x2,x3,hnode⟩,_⟩:=S.stay.node k hk;obtain⟨hki1,L1,T1,e1⟩:=G1.live hk1;have W1:=A7d (Akp.2 L1).1 e1 (by omega);have WW1:=G1.ww (by omega) (by omega);have P1:=Ahr.1 G1.inv.pool;have hst:=P1.st;have how:=P1.own;have hc1:=S.stay.conf;obtain⟨ch,ec,hch⟩:=A95 hK (p:=w1.fP) (by grind);rw[ed,Z0];simp only;rw[ec,Z0];by_cases q:ch<0
   ·rw[decide_eq_true q];exact⟨_,_,rfl,Ev.le G1 (Int.le_refl E) (by omega),hc1,S.stay.len⟩
   ·rw[decide_eq_false q];simp only[cond_false];have hf:=hch.resolve_left (by omega);obtain⟨f1,f2,f3,f4⟩:=A2n.1 hf;obtain⟨p',ep,T'⟩:=A9g hK WW1.p (by grind) (by omega) (k:=k) hf;have hnew:ch ∉ (gt w1.fL k).Ad:=fun h=>by
     have:=((G1.inv.own k hki1 ch).1 h).2.1
     grind
    rw[ep,Z0];simp only[if_pos hki1];rw[Bak hK L1 W1 ⟨f1,by omega⟩ hnew,Z0];simp only[if_pos hki1];obtain⟨P',hone⟩:=Bec G1.inv hki1 hf T' (ch:=(A8t (gt w1.fL k) ch).Ad) fun c=>by
     show c∈(gt w1.fL k).Ad++[ch] ↔ _
     grind
    have T2:ThP w1.fC w1.fP.Fp (A8t (gt w1.fL k) ch):=by
     refine⟨?_,T1.apart,?_⟩
     ·rw[Z1];exact fun o ho=>Bk0 (fun x hx=>N0.2 (.inl hx)) (Z1.1 T1.inch o ho)
     ·refine Ba4 rfl rfl ((P1.one ch ⟨f1,by omega⟩).2.2.2 (f4 ch ⟨by omega,by omega⟩)) ?_;rw[Z1];intro o ho;refine A60 fun j h1 h2 h3 h4=> ?_
      have h3:(ch+1 - 1)*w1.fC.Du+0<=j:=h3;have h4:j<(ch+1 - 1)*w1.fC.Du+0+(w1.fC.Du - 0):=h4;rw[Int.add_sub_cancel]at h3 h4;have:=Bal (a:=ch) (s:=w1.fC.Du) (j:=j) (by omega) (by omega) (by omega);have h5:=Bcv (Z1.1 T1.inch o ho) h1 h2
      grind
    obtain⟨G2,hk2,hg2⟩:=A8d G1 hk1 (n':=A8t (gt w1.fL k) ch) (m:=16) P' hone T'.mem rfl (Baj L1 ⟨f1,by omega⟩ hnew) T2 ⟨e1.ep,e1.ue,⟨by show 0<=ch+1;omega,by show ch+1<=_;grind⟩⟩ (by
     have hz:w1.fC.Du.toNat<=16:=by grind
     have hst1:(A8t (gt w1.fL k) ch).G4=1:=L1.st;unfold wtN;rw[if_pos L1.st,if_pos hst1];show 2+(gt w1.fL k).Dh.length+w1.fC.Du.toNat*((gt w1.fL k).Ad++[ch]).length<=_;rw[Z23,List.length_singleton,Nat.mul_succ];omega)
    obtain⟨r,w',h1,h2,h3,h4⟩:=Bed hK hE (n:=n+16) (by omega) G2 hk2 size al hs (F8.mk 0 (Ch.mk 0 0) (Fb.mk (Ch.mk 0 0) 0 0) [] 0 0 0) a4.Aab a4.fH.Be a4.fH.C7 a4.fR.fH.Be a4.fR.fH.C7 a4.fR.Nb a4.fR.fNo a4.fB a4.Aac a4.Ez d;refine⟨r,w',h1,h2,h3.trans hc1,h4.trans ?_⟩;show(w1.fL.set _ _).length=_
    grind [A7n.len,Steps.stay]
theorem Br6{E:Int}{n:Nat}(hE:0<=E/\E<=900000000)(hn:n<=900000000){w:Bo}(G:Ev w E n){k:Int}(hk:AlW w.fL k)(size:Int)(hs:w.fC.Du<size/\size<=200)(hcnt:(gt w.fL k).D5.length<12)(a4:F8):
  ∃r w',A1r K w k size a4=some (r,w')/\Ev w' E (n+192)/\w'.fC=w.fC/\w'.fL.length=w.fL.length:=by
 have WW:=G.ww (by omega) (by omega);have hlen:=G.inv.len;obtain⟨b1,b2,b3,b4,b5,b6⟩:=Bd G.inv.conf;unfold A1r Ao7;rw[A5a,Z0,Z0];obtain⟨fb,ef⟩:=A8a hK WW (by omega) (Ayd size w.fC.Du);have hrun:Ayd size w.fC.Du=(size+w.fC.Du - 1) / w.fC.Du:=by
  unfold Ayd;rw[Wy.2 ⟨by omega,by omega⟩,Wy.2 ⟨by omega,by omega⟩];rfl
 have hr2:Ayd size w.fC.Du<=1000:=by
  have:(size+w.fC.Du - 1) / w.fC.Du<=size+w.fC.Du - 1:=Int.ediv_le_self _ (by omega);omega
 have hr1:1<=Ayd size w.fC.Du:=by
  rw[hrun];exact(Int.le_ediv_iff_mul_le (by omega)).2 (by omega)
 rw[ef,Z0];cases fb with
 |false=>exact⟨_,_,rfl,Ev.le G (Int.le_refl E) (by omega),rfl,rfl⟩
 |true=>
  simp only[Bool.not_true,cond_false];obtain⟨d,w1,ed,S⟩:=Bi8 hK (by omega:0<=E/\E<=1000000000) (by omega) 0 (run:=Ayd size w.fC.Du) (by omega) G;have G1:=S.good;obtain⟨hk1,⟨x1,x2,x3,hnode⟩,_⟩:=S.stay.node k hk;obtain⟨hki1,L1,T1,e1⟩:=G1.live hk1;have W1:=A7d (Akp.2 L1).1 e1 (by omega);have WW1:=G1.ww (by omega) (by omega);have P1:=Ahr.1 G1.inv.pool;have hst:=P1.st;have how:=P1.own;have hc1:=S.stay.conf;rw[hc1]at hst how;obtain⟨at_,ec,hat⟩:=Ba3 hK (p:=w1.fP) (n:=Ayd size w.fC.Du) (by omega) (by omega);rw[ed,Z0];simp only;rw[ec,Z0];by_cases q:at_<0
  ·rw[decide_eq_true q];exact⟨_,_,rfl,Ev.le G1 (Int.le_refl E) (by omega),hc1,S.stay.len⟩
  ·rw[decide_eq_false q];simp only[cond_false];have hf:=hat.resolve_left (by omega);obtain⟨f1,f2,f3,f4⟩:=A2n.1 hf;obtain⟨p',ep,T'⟩:=A9g hK WW1.p (by omega) (by omega) (k:=k) hf;have SP:Bjb w1.fC (gt w1.fL k) at_ (Ayd size w.fC.Du) size:=by
    refine⟨by grind,by rw[hc1],by grind,fun x hx h=> ?_,by rw[hnode];exact hcnt⟩;have:=((G1.inv.own k hki1 x).1 hx).2.1
    grind
   obtain⟨L2,T2⟩:=Bho L1 e1.cur T1 SP;rw[ep,Z0];simp only[if_pos hki1];rw[Bhq hK L1 W1 e1.cur T1 SP,Z0]
   try simp only[if_pos hki1]
   obtain⟨P',hone⟩:=Bec G1.inv hki1 hf T' (ch:=(A6n w1.fC (gt w1.fL k) at_ (Ayd size w.fC.Du) size).Ad) fun c=>by
    show c∈(gt w1.fL k).Ad++A98 at_ (Ayd size w.fC.Du) ↔ _
    simp_all[A99]
   obtain⟨G2,hk2,hg2⟩:=A8d G1 hk1 (n':=A6n w1.fC (gt w1.fL k) at_ (Ayd size w.fC.Du) size) (m:=192) P' hone T'.mem rfl L2 T2 ⟨e1.ep,e1.ue,e1.cur⟩ (by
    have hst1:(A6n w1.fC (gt w1.fL k) at_ (Ayd size w.fC.Du) size).G4=1:=L1.st;unfold wtN;rw[if_pos L1.st,if_pos hst1];show 2+(gt w1.fL k).Dh.length+w1.fC.Du.toNat*((gt w1.fL k).Ad++A98 at_ (Ayd size w.fC.Du)).length<=_;have hrl:(A98 at_ (Ayd size w.fC.Du)).length<=12:=by grind [A98]
    have:=Nat.mul_le_mul (show w1.fC.Du.toNat<=16 by grind) hrl;rw[Z23,Nat.mul_add];omega)
   refine⟨_,_,rfl,G2,hc1,?_⟩;show(w1.fL.set _ _).length=_
   grind [A7n.len,Steps.stay]
theorem Bee{E:Int}{n:Nat}(hE:0<=E/\E<=900000000)(hn:n<=900000000){w:Bo}(G:Ev w E n){k:Int}(hk:0<=k/\k<(w.fL.length:Int))(h:Ch)(c a b d e f g:Int)(l:List Int)(x y z:Int):
  ∃r w',Awt K h k w.fC.Ad w.fC.Du w.fC.Cd w.fC.Ez w.fC.Ce w.fC.Dv w.fP.Fp w.fP.G4 w.fP.Fq w.fL w.fQ w.Jp c a b d e f g l x y z=some (r,w')/\Ev w' E n/\w'.fC=w.fC:=by
 unfold Awt;rw[show Bo.mk (Fi.mk w.fC.Ad w.fC.Du w.fC.Cd w.fC.Ez w.fC.Ce w.fC.Dv) (Ef.mk w.fP.Fp w.fP.G4 w.fP.Fq) w.fL w.fQ w.Jp=w from rfl];cases c != 0 with
 |true=>grind
 |false=>
  simp only[cond_false];obtain⟨t,w2,es,S2⟩:=Bbs hK (E:=E) (n:=n) (by omega) (by omega) w.fC.Ez G;simp only[if_pos hk,es,Z0];exact⟨_,_,rfl,S2.good,S2.stay.conf⟩
theorem Bam{E:Int}{n:Nat}(hE:0<=E/\E<=900000000)(hn:n<=800000000){w:Bo}(G:Ev w E n)(h:Ch){size al:Int}(hs:1<=size/\size<=200){k:Int}(a b:F8)(hk:a.Aab=0->AlW w.fL k/\(gt w.fL k).D5.length<12):
  ∃r w',Auy K h size al k w.fC.Ad w.fC.Du w.fC.Cd w.fC.Ez w.fC.Ce w.fC.Dv w.fP.Fp w.fP.G4 w.fP.Fq w.fL w.fQ w.Jp a b=some (r,w')/\Ev w' E (n+192)/\w'.fC=w.fC:=by
 unfold Auy Asl;rw[show Bo.mk (Fi.mk w.fC.Ad w.fC.Du w.fC.Cd w.fC.Ez w.fC.Ce w.fC.Dv) (Ef.mk w.fP.Fp w.fP.G4 w.fP.Fq) w.fL w.fQ w.Jp=w from rfl,show Fi.mk w.fC.Ad w.fC.Du w.fC.Cd w.fC.Ez w.fC.Ce w.fC.Dv=w.fC from rfl];by_cases h0:a.Aab=0
 ·obtain⟨hk,hcnt⟩:=hk h0;have hki:=(G.live hk).1;rw[h0];simp only[bne_self_eq_false,cond_false,Z0];by_cases q:size>w.fC.Du
  ·rw[decide_eq_true q];simp only[cond_true];obtain⟨r,w',h1,h2,h3,h4⟩:=Br6 hK hE (by omega) G hk size ⟨q,hs.2⟩ hcnt a;rw[h1,Z0];obtain⟨r2,w2,k1,k2,k3⟩:=Bee hK hE (n:=n+192) (by omega) h2 (k:=k) (by omega) h r.Aab r.fH.Be r.fH.C7 r.fR.fH.Be r.fR.fH.C7 r.fR.Nb r.fR.fNo r.fB r.Aac r.Ez r.R2
   grind
  ·rw[decide_eq_false q];simp only[cond_false];obtain⟨r,w',h1,h2,h3,h4⟩:=Br5 hK hE (by omega) G hk size al (by omega) a;rw[h1,Z0];obtain⟨r2,w2,k1,k2,k3⟩:=Bee hK hE (n:=n+16) (by omega) h2 (k:=k) (by omega) h r.Aab r.fH.Be r.fH.C7 r.fR.fH.Be r.fR.fH.C7 r.fR.Nb r.fR.fNo r.fB r.Aac r.Ez r.R2;exact⟨r2,w2,k1,Ev.le k2 (Int.le_refl E) (by omega),k3.trans h3⟩
 ·rw[A3h h0];exact⟨_,_,rfl,Ev.le G (Int.le_refl E) (by omega),rfl⟩
theorem Bhr{E:Int}{n:Nat}(hE:0<=E/\E<=900000000)(hn:n<=800000000){w:Bo}(G:Ev w E n)(h:Ch)(size al:Int): ∃r w',A1t K w h size al=some (r,w')/\Ev w' E (n+192)/\w'.fC=w.fC:=by
 have W:=G.ww (by omega) (by omega);have G0:=Ev.le G (Int.le_refl E) (by omega:n<=n+192);unfold A1t;rw[Amo,Z0];by_cases q:1<=size/\size<=200
 ·rw[Wy.2 q,A7f];simp only[cond_true,Z0];cases A9h al with
  |false=>exact⟨_,_,rfl,G0,rfl⟩
  |true=>
   simp only[Bool.not_true,cond_false];rw[Ay9 hK W.l,Z0,A3t hK w W.l,Z0];by_cases h0:(Ay1 w.fL h).2=0
   ·have hal:=A8p G.inv h0;have hki:=(G.live hal).1;rw[h0];simp only[beq_self_eq_true,cond_true];simp only[if_pos hki];by_cases q2:((gt w.fL (Ay1 w.fL h).1).D5.length:Int)>=12
    ·rw[decide_eq_true q2];exact Bam hK hE hn G h q (al:=al) (k:=(Ay1 w.fL h).1) (F8.mk 8 (Ch.mk 0 0) (Fb.mk (Ch.mk 0 0) 0 0) [] (Bg3 w h) 0 0) (F8.mk 0 (Ch.mk 0 0) (Fb.mk (Ch.mk 0 0) 0 0) [] 0 0 0) (fun f=>absurd (show(8:Int)=0 from f) (by decide))
    ·rw[decide_eq_false q2];exact Bam hK hE hn G h q (al:=al) (k:=(Ay1 w.fL h).1) (F8.mk 0 (Ch.mk 0 0) (Fb.mk (Ch.mk 0 0) 0 0) [] (Bg3 w h) 0 0) (F8.mk 0 (Ch.mk 0 0) (Fb.mk (Ch.mk 0 0) 0 0) [] 0 0 0) (fun f=>⟨hal,by omega⟩)
   ·rw[Aul h0];exact Bam hK hE hn G h q (al:=al) (k:=(Ay1 w.fL h).1) (F8.mk (Ay1 w.fL h).2 (Ch.mk 0 0) (Fb.mk (Ch.mk 0 0) 0 0) [] (Bg3 w h) 0 0) (F8.mk 0 (Ch.mk 0 0) (Fb.mk (Ch.mk 0 0) 0 0) [] 0 0 0) (fun f=>absurd f h0)
 ·rw[Bbf.2 q]
  grind
end
def F0 (mem:List Int)(p:Int)(s:List Int):List Int:=mem.take p.toNat++s++mem.drop (p.toNat+s.length)
def Bbt (mem:List Int)(t:Bn)(off:Int)(s:List Int):Bool:=decide ((0<=off/\(0:Int)<=(s.length:Int)/\off+(s.length:Int)<=t.Yg)/\0<=A1 t.fAt off/\A1 t.fAt off+(s.length:Int)<=(mem.length:Int))
def Bjd (mem:List Int)(t:Bn)(off:Int)(s:List Int):List Int×Bool:=bif Bbt mem t off s then(F0 mem (A1 t.fAt off) s,true)else(mem,false)
theorem Gi{mem:List Int}{p:Int}{s:List Int}(h0:0<=p)(h1:p+(s.length:Int)<=(mem.length:Int)):(F0 mem p s).length=mem.length:=by
 grind [F0]
theorem Br7{mem s:List Int}{p j:Nat}(hj:j<s.length)(hp:p+s.length<=mem.length):(mem.take p++s.take j++mem.drop (p+j)).set (p+j) s[j]=mem.take p++s.take (j+1)++mem.drop (p+(j+1)):=by
 have hl:(mem.take p++s.take j).length=p+j:=by grind
 rw[List.set_append_right _ _ (by omega),hl,Nat.sub_self,Z47 (by omega:p+j<mem.length),List.set_cons_zero,<-List.take_append_getElem hj]
 grind
section
variable {K:Nat} (hK:281474976710656<=K)
include hK
theorem Bje{mem s:List Int}(hm:mem.length<=140737488355327)(p:Int)(hs:s.length<=140737488355327):A40 K mem p s=some (bif decide (0<=p/\(0:Int)<=(s.length:Int)/\p+(s.length:Int)<=(mem.length:Int))then(F0 mem p s,true)else(mem,false)):=by
 have hx:=K1;unfold A40;simp only[Z38];rw[if_pos ⟨by omega,by omega⟩,Bg2 K hm,Z0,Ahu];by_cases h:0<=p/\(0:Int)<=(s.length:Int)/\p+(s.length:Int)<=(mem.length:Int)
 ·rw[decide_eq_true h,cond_true,cond_true];obtain⟨q,rfl⟩: ∃q:Nat,p=q:=⟨p.toNat,by omega⟩;have:=Bbj hK s (by omega) (fun _=>true) (some (F0 mem (q:Int) s,true)) none (fun n j=>Aus K (q:Int) s n (mem.take q++s.take j++mem.drop (q+j)) (j:Int)) (fun n j hj=> ?_) (fun n=> ?_)
  ·rw[Z1.2 (fun _ _=>rfl)]at this;simp_all
  ·have hl:(mem.take q++s.take j++mem.drop (q+j)).length=mem.length:=by grind
   have e:A1 (q:Int) (j:Int)=((q+j:Nat):Int):=by grind [A1,Lc,Ht]
   show Aus K (q:Int) s (n+1) _ _=_;rw[Aus,Acn hj,cond_true,if_pos (Akv hj),e,hl,if_pos ⟨by omega,by omega⟩,Acm (by omega),V2 hj,Int.toNat_natCast,Br7 hj (by omega)];rfl
  ·show Aus K (q:Int) s (n+1) _ _=_;simp_all[Aus,F0]
 grind
theorem Bbb{mem s:List Int}(hm:mem.length<=140737488355327)(hs:s.length<=140737488355327){t:Bn}(wt:ThingW t)(off:Int):Aze K mem t off s=some (Bjd mem t off s):=by
 have hx:=K1;obtain⟨wl1,wl2⟩:=wt.2.1;unfold Aze A23 Bjd Bbt;simp only[Z38];rw[if_pos ⟨by omega,by omega⟩,Bje hK hm _ hs];simp only[Z0];rw[decide_eq_true (show(s.length:Int)>=0 by omega)];by_cases h1:(0:Int)<=off
 ·rw[decide_eq_true (show off>=0 from h1)];by_cases h3:off<=t.Yg
  ·rw[decide_eq_true h3];have e:Ap t.Yg off=t.Yg - off:=by grind [Ap,Asu,Ht]
   grind
  grind
 grind
end
def B36 (n:Az)(v:Int):Az:=Az.mk n.G4 n.C7 n.Nb n.fUp n.G5 n.Bz n.G6 n.G7 n.Ad n.No n.G8 n.D5 (n.Dh++([v]:List Int))
theorem Bu6 (K:Nat)(r:Fb): ∃b,A4y K r=some b:=by
 unfold A4y;rw[A8x];simp only[Z0];cases A5p r.fH<;>cases decide (r.Nb>=0)<;>exact⟨_,rfl⟩
theorem Bm8 (K:Nat){n:Az}(hn:At6 n)(r:Fb): ∃t b,A22 K n r=some (t,b)/\(b=true->t∈n.D5):=by
 have h2:=hn.things;have hl:n.D5.length<=140737488355327:=by have:=h2.2;omega
 unfold A22;rw[A6q K hl];simp only[Z0];by_cases hs:0<=r.fNo/\r.fNo<(n.D5.length:Int)
 ·rw[decide_eq_true hs,if_pos hs];have hm:gt n.D5 r.fNo∈n.D5:=Akk hs.1 hs.2;cases n.G4 != 1<;>cases n.Nb != r.Nb<;>first|simp_all|grind
 ·rw[decide_eq_false hs];simp_all
theorem Ba6{K:Nat}(hK:281474976710656<=K){w:Bo}(I:Inv w)(hw:Aeh w.fL)(r:Fb): ∃k t c,Axv K w r=some (k,t,c)/\(c=0->AlW w.fL k/\t∈(gt w.fL k).D5):=by
 unfold Axv;obtain⟨b,h1⟩:=Bu6 K r;rw[h1,Ay9 hK hw];simp only[Z0];cases b with
 |false=>exact⟨_,_,_,rfl,fun h=>by cases h⟩
 |true=>
  simp only[Bool.not_true,cond_false];by_cases h0:(Ay1 w.fL r.fH).2=0
  ·have hi:=Bq1 h0;have hal:=A8p I h0;rw[if_pos hi,h0];obtain⟨q,b,h3,h4⟩:=Bm8 K (hw.1 _ (Akk hi.1 hi.2)) r;rw[h3];simp only[Z0,bne_self_eq_false,cond_false];cases b with
   |false=>exact⟨_,_,_,rfl,fun h=>by cases h⟩
   |true=>exact⟨_,_,_,rfl,fun _=>⟨hal,h4 rfl⟩⟩
  ·rw[A3h h0]
   grind
theorem Bu7{mem:List Int}{p:Int}{s:List Int}(h0:0<=p)(h1:p+(s.length:Int)<=(mem.length:Int)){j:Nat}(hj:j<mem.length)(h: ¬(p<=(j:Int)/\(j:Int)<p+(s.length:Int))):gt (F0 mem p s) (j:Int)=gt mem (j:Int):=by
 have hl:=Gi h0 h1;rw[V2 (by omega),V2 hj];unfold F0;by_cases q:(j:Int)<p
 ·grind
 ·rw[List.getElem_append_right (by grind),List.getElem_drop]
  grind
theorem Br8{mem:List Int}{p:Int}{s:List Int}(hm: ∀x∈mem,0<=x/\x<=255)(hs: ∀x∈s,0<=x/\x<=255): ∀x∈F0 mem p s,0<=x/\x<=255:=by
 intro x hx;unfold F0 at hx;rcases N0.1 hx with h|h
 ·rcases N0.1 h with h|h
  ·exact hm x (Z42 h)
  ·exact hs x h
 ·exact hm x (List.mem_of_mem_drop h)
theorem Br9{w:Bo}{E:Int}{n:Nat}(G:Ev w E n){k:Int}(hk:AlW w.fL k){t:Bn}(ht:t∈(gt w.fL k).D5){mem':List Int}(hl:mem'.length=w.fP.Fp.length)
  (hb: ∀x∈mem',0<=x/\x<=255) (hs: ∀j:Nat,j<w.fP.Fp.length-> ¬(t.fAt<=(j:Int)/\(j:Int)<t.fAt+t.Yg)->gt mem' (j:Int)=gt w.fP.Fp (j:Int)):
  Ev (Bo.mk w.fC (Ef.mk mem' w.fP.G4 w.fP.Fq) w.fL w.fQ w.Jp) E n:=by
 have I:=G.inv;have P:=Ahr.1 I.pool;obtain⟨hki,L,T,e⟩:=G.live hk;obtain⟨b1,b2,b3,b4,b5,b6⟩:=Bd I.conf;have hin: ∀j,t.fAt<=j->j<t.fAt+t.Yg->j / w.fC.Du∈(gt w.fL k).Ad:=fun j h1 h2=>Bcv (Z1.1 T.inch t ht) h1 h2
 have hz: ∀a m:Nat,Arz ((w.fP.Fp.drop a).take m)=true->(∀j:Nat,a<=j->j<a+m-> ¬(t.fAt<=(j:Int)/\(j:Int)<t.fAt+t.Yg))->Arz ((mem'.drop a).take m)=true:=by
  grind [A5u]
 have hch: ∀c,0<=c/\c<w.fC.Ad->gt w.fP.G4 c≠1-> ∀j:Nat,(c*w.fC.Du).toNat<=j->j<(c*w.fC.Du).toNat+w.fC.Du.toNat-> ¬(t.fAt<=(j:Int)/\(j:Int)<t.fAt+t.Yg):=by
  intro c hc hst j h1 h2 h3;have h0:0<=c*w.fC.Du:=Int.mul_nonneg hc.1 (by omega);have h4:=hin j h3.1 h3.2;rw[Bal (a:=c) (by omega) (by omega) (by omega)]at h4;exact hst ((I.own k hki c).1 h4).2.1
 refine⟨Bfp I (Ef.mk mem' w.fP.G4 w.fP.Fq) w.fQ w.Jp ⟨P.conf,by rw[<-P.mem];grind,P.st,P.own,fun c hc=> ?_⟩ (fun c hc=>⟨Iff.rfl,rfl⟩) (fun x hx=> ?_) rfl rfl (fun x hx=> ?_) I.chn I.chi I.log,hb,G.ep,G.wt,G.cn⟩
 ·obtain⟨p1,p2,p3,p4⟩:=P.one c hc;refine⟨p1,p2,p3,fun h=>hz _ _ (p4 h) fun j h1 h2=>hch c hc ?_ j h1 h2⟩
  grind
 ·have h3:=(I.thing x hx).2.2;by_cases hs1:(gt w.fL x).G4=1
  ·have Lx:=Akp.1 ⟨I.node x hx,hs1⟩;have ex:=G.ep x hx;by_cases hcur:(gt w.fL x).No=0
   ·grind [Awd]
   ·obtain⟨m1,m2,m3⟩:=A97 Lx ex.cur hcur;have hm:=A2b Lx.dist _ m1;have h0:0<=((gt w.fL x).No - 1)*w.fC.Du:=Int.mul_nonneg hm.1 (by omega);unfold Awd at h3 ⊢;rw[Aul hcur,Z52,Z4]at h3 ⊢;refine⟨hz _ _ h3.1 fun j h1 h2 h4=> ?_,h3.2⟩;have h1:(((gt w.fL x).No - 1)*w.fC.Du+(gt w.fL x).G8).toNat<=j:=h1;have h2:j<(((gt w.fL x).No - 1)*w.fC.Du+(gt w.fL x).G8).toNat+(w.fC.Du - (gt w.fL x).G8).toNat:=h2;have h5:=hin j h4.1 h4.2;rw[Bal (a:=(gt w.fL x).No - 1) (by omega) (by omega) (by omega)]at h5;have e1:=((I.own k hki _).1 h5).2.2;have e2:=((I.own x hx _).1 m1).2.2;have exk:x=k:=by omega
    rw[exk]at h3 h1 h2;refine Bhm (Z1.1 h3.2 t ht) h4.1 h4.2 (b:=Azm w.fC (gt w.fL k)) ?_ ?_
    ·grind
    ·show(j:Int)<((gt w.fL k).No - 1)*w.fC.Du+(gt w.fL k).G8+(w.fC.Du - (gt w.fL k).G8)
     grind
  ·rw[A2d (I.node x hx) hs1];rfl
 ·obtain⟨a,b⟩:=I.wrec x hx;refine⟨a,?_⟩;have R:=A2e.1 a;by_cases hc:0<x.Ad.length
  ·have hm:gt x.Ad 0∈x.Ad:=Aqd (i:=0) hc;have h1:=(I.chi _).1 (Bfl hx hm);unfold Ar0 at b ⊢;rw[Bool.or_eq_true]at b ⊢;rcases b with b|b
   ·grind
   ·refine .inr (hz _ _ b fun j h2 h3=>hch _ h1.1 (by omega) j h2 ?_);have hd:=R.done
    grind
  grind [Ar0]
section
variable {K:Nat} (hK:281474976710656<=K)
include hK
theorem Bu8{E:Int}{n:Nat}(hE:0<=E/\E<=900000000)(hn:n<=800000000){w:Bo}(G:Ev w E n)(r:Fb)(off m:Int): ∃a,A51 K w r off m=some (w,a):=by
 have W:=G.ww (by omega) (by omega);have P:=A6y (Ahr.1 G.inv.pool);obtain⟨k,t,c,e,h⟩:=Ba6 hK G.inv W.l r;unfold A51;rw[A0y hK W,A3k hK w W,G.inv.ok,e,A3t hK w W.l];simp only[Z0,Bool.not_true,cond_false];by_cases h0:c=0
 ·obtain⟨hk,ht⟩:=h h0;have hT:=Bfo (Z1.1 (G.live hk).2.1.things t ht);rw[h0];simp only[bne_self_eq_false,cond_false];rw[Bcc K (by omega) hT,Z0];cases (Bq5 w.fP.Fp t off m).2<;>exact⟨_,rfl⟩
 simp_all[A3h]
theorem Bsa{E:Int}{n:Nat}(hE:0<=E/\E<=900000000)(hn:n<=800000000){w:Bo}(G:Ev w E n)(r:Fb)(off:Int){s:List Int}(hs: ∀x∈s,0<=x/\x<=255)(hl:s.length<=1000000): ∃a w',A41 K w r off s=some (w',a)/\Ev w' E n/\w'.fC=w.fC:=by
 have W:=G.ww (by omega) (by omega);have P:=A6y (Ahr.1 G.inv.pool);obtain⟨k,t,c,e,h⟩:=Ba6 hK G.inv W.l r;unfold A41;rw[A0y hK W,A3k hK w W,G.inv.ok,e,A3t hK w W.l];simp only[Z0,Bool.not_true,cond_false];by_cases h0:c=0
 ·obtain⟨hk,ht⟩:=h h0;have htb:=Z1.1 (G.live hk).2.1.things t ht;have hT:=Bfo htb;obtain⟨s1,s2,s3,s4⟩:=(A6p htb).1;rw[h0];simp only[bne_self_eq_false,cond_false];rw[Bbb hK (by omega) (by omega) hT,Z0];unfold Bjd;cases ho:Bbt w.fP.Fp t off s with
  |false=>exact⟨_,_,rfl,G,rfl⟩
  |true=>
   unfold Bbt at ho;rw[decide_eq_true_iff]at ho;have ea:A1 t.fAt off=t.fAt+off:=by grind [A1,Lc,Ht]
   rw[ea]at ho ⊢;refine⟨_,_,rfl,Br9 G hk ht (Gi (by omega) (by omega)) (Br8 G.mem hs) (fun j hj hne=>Bu7 (by omega) (by omega) hj (by omega)),rfl⟩
 ·rw[A3h h0];grind
theorem Bsb{E:Int}{n:Nat}(hE:0<=E/\E<=900000000)(hn:n<=800000000){w:Bo}(G:Ev w E n)(h:Ch)(v:Int): ∃a w',A62 K w h v=some (w',a)/\Ev w' E (n+1)/\w'.fC=w.fC:=by
 have hm:=K1;have W:=G.ww (by omega) (by omega);have G0:=Ev.le G (Int.le_refl E) (by omega:n<=n+1);unfold A62 A24 A42;rw[A0y hK W,A3k hK w W,G.inv.ok,Amo,Ay9 hK W.l,A3t hK w W.l];simp only[Z0,cond_true];by_cases hv:0<=v/\v<=255
 ·rw[Wy.2 hv];simp only[Bool.not_true,cond_false];by_cases h0:(Ay1 w.fL h).2=0
  ·have hal:=A8p G.inv h0;obtain⟨hki,L,T,e⟩:=G.live hal;rw[h0];simp only[beq_self_eq_true,cond_true,if_pos hki];by_cases q:((gt w.fL (Ay1 w.fL h).1).Dh.length:Int)>=6
   ·rw[decide_eq_true q];grind
   ·rw[decide_eq_false q];simp only[cond_false];rw[if_pos ⟨by grind,by grind⟩];refine⟨_,_,rfl,?_,rfl⟩;have P:=Ahr.1 G.inv.pool;refine(A8d G hal (n':=B36 (gt w.fL (Ay1 w.fL h).1) v) (m:=1) P (Bcx G.inv hki rfl) rfl rfl ⟨L.conf,L.st,L.gen,L.up,L.first,L.next,L.prev,L.ep,L.ue,L.dist,L.cur,L.nth,?_,?_,L.things⟩ ⟨T.inch,T.apart,T.loose⟩ ⟨e.ep,e.ue,e.cur⟩ ?_).1
    ·show(_++[v]).length<=6
     grind
    ·show(_++[v]).all _=true;rw[List.all_append,L.tags,Gv,Wy.2 hv];rfl
    ·have hst1:(B36 (gt w.fL (Ay1 w.fL h).1) v).G4=1:=L.st;unfold wtN;rw[if_pos L.st,if_pos hst1];show 2+(_++[v]).length+w.fC.Du.toNat*(gt w.fL (Ay1 w.fL h).1).Ad.length<=_
     grind
  ·rw[Aul h0]
   grind
 ·rw[Bbf.2 hv];exact⟨_,_,rfl,G0,rfl⟩
theorem Bsc{E:Int}{n:Nat}(hE:0<=E/\E<=900000000)(hn:n<=800000000){w:Bo}(G:Ev w E n)(h:Ch): ∃a,A43 K w h=some (w,a):=by
 have W:=G.ww (by omega) (by omega);unfold A43 A25;rw[A0y hK W,A3k hK w W,G.inv.ok,Ay9 hK W.l,A3t hK w W.l];simp only[Z0,Bool.not_true,cond_false];by_cases h0:(Ay1 w.fL h).2=0
 ·have hal:=A8p G.inv h0;obtain⟨hki,L,T,e⟩:=G.live hal;have hn:=W.l.1 _ (Akk hki.1 hki.2);rw[h0];simp only[beq_self_eq_true,cond_true,if_pos hki];unfold A5h;rw[Az6 hK _ _ (A3n hK hn.chunks) (Bkl hK hn.things) (A3n hK hn.tags)];simp only[Z0];cases (gt w.fL (Ay1 w.fL h).1).No==0<;>cases Avg w.fC (gt w.fL (Ay1 w.fL h).1)<;>exact⟨_,rfl⟩
 simp_all[Aul]
end
def A3u (a:List Int):Prop:= ∀x∈a,0<=x/\x<=255
theorem Bjf{a b:List Int}(h:A3u a)(g:A3u b):A3u (a++b):=by
 intro x hx;rcases N0.1 hx with h1|h1
 ·exact h x h1
 ·exact g x h1
def Aht (c:E2):Prop:=A3u c.fb/\c.fb.length<=1048576/\0<=c.fi/\c.fi<=(c.fb.length:Int)
theorem Bk1 (x:Int):0<=Asv .i64 x 255/\Asv .i64 x 255<=255:=by
 grind [Asv,BitVec.ofInt,IntKind.bits,Nat.and_le_right,Ht]
theorem Bjg (K:Nat){a:List Int}(hb:A3u a)(ha:a.length<=1048576): ∀(n i:Nat) (v:Int),i<=a.length->a.length - i<n-> ∃c,Azn K a n v (i:Int)=some c/\Aht c:=by
 intro n;induction n with
 |zero=>omega
 |succ n ih=>
  intro i v hi hn;rw[Azn];have done: ∀v,Aht (E2.mk a 0 v):=fun v=>⟨hb,ha,by grind,by grind⟩
  rcases Hi i a.length with h|h
  ·rw[Acn h];simp only[cond_true];cases decide ((i:Int)<4000)with
   |false=>grind
   |true=>
    simp only[cond_true];rw[if_pos ⟨by omega,by omega⟩,Acm (i:=i) (by omega)];exact ih (i+1) _ h (by omega)
  ·rw[Avr h];grind
theorem Bhs{K:Nat}(hK:281474976710656<=K){a:List Int}(hb:A3u a)(ha:a.length<=1048576): ∃c,A2p K a=some c/\Aht c:=by
 unfold A2p;exact Bjg K hb ha K 0 _ (Z21 _) (by omega)
theorem A8q (K:Nat){c:E2}(hc:Aht c): ∃r,Avn K c=some r/\(0<=r.1/\r.1<=255)/\Aht r.2:=by
 obtain⟨h1,h2,h3,h4⟩:=hc;unfold Avn A1k;rw[if_pos (by decide),if_pos (by decide)];by_cases h:c.fi<(c.fb.length:Int)
 ·rw[decide_eq_true h];simp only[cond_true];rw[if_pos ⟨h3,h⟩];have e:A1 c.fi 1=c.fi+1:=by grind [A1,Lc,Ht]
  exact⟨_,rfl,Bk1 _,h1,h2,by grind,by grind⟩
 ·rw[decide_eq_false h];exact⟨_,rfl,Bk1 _,h1,h2,h3,h4⟩
theorem Ahw (K:Nat){c:E2}(hc:Aht c){n:Int}(hn:0<n): ∃r,A4 K c n=some r/\(0<=r.1/\r.1<n)/\Aht r.2:=by
 unfold A4;rw[decide_eq_false (show ¬n<=0 by omega)];simp only[cond_false];obtain⟨r1,e1,b1,w1⟩:=A8q K hc;by_cases h:n<=256
 ·rw[decide_eq_true h,e1];simp only[cond_true,Z0];rw[if_pos (by omega)];simp_all[Int.tmod_nonneg,Int.tmod_lt_of_pos]
 ·rw[decide_eq_false h,e1];simp only[cond_false,Z0];obtain⟨r2,e2,b2,w2⟩:=A8q K w1;rw[e2];simp only[Z0];obtain⟨r3,e3,b3,w3⟩:=A8q K w2;rw[e3];simp only[Z0];rw[if_pos (by omega)];refine⟨_,rfl,⟨Int.tmod_nonneg _ ?_,Int.tmod_lt_of_pos _ hn⟩,w3⟩;unfold A1 Lc P2 Ew;rw[Ht (n:=r1.1*65536) (by omega) (by omega),Ht (n:=r2.1*256) (by omega) (by omega),Ht (n:=r1.1*65536+r2.1*256) (by omega) (by omega),Ht (by omega) (by omega)];omega
theorem A2o (K:Nat){c:E2}(hc:Aht c){n:Int}(hn:0<n): ∃r,Ap4 K c n=some r/\Aht r.2:=by
 obtain⟨r,e,_,w⟩:=Ahw K hc hn;simp_all[Ap4]
theorem A4h (K:Nat){c:E2}(hc:Aht c){l:List Int}(hl:0<l.length): ∃x c',V1 K c l=some (x,c',l)/\x∈l/\Aht c':=by
 obtain⟨r,e,b,w⟩:=Ahw K hc (n:=(l.length:Int)) (by omega);unfold V1;rw[e];simp only[Z0];rw[if_pos b];exact⟨_,_,rfl,Akk b.1 b.2,w⟩
theorem Ba7 (K:Nat){c:E2}(hc:Aht c)(n:Int): ∃r,A4 K c n=some r/\Aht r.2:=by
 by_cases h:0<n
 ·obtain⟨r,e,_,w⟩:=Ahw K hc h
  grind
 ·unfold A4;simp_all
theorem B37 (x:Int):0<=IntKind.u8.wrap x/\IntKind.u8.wrap x<=255:=by rw[IntKind.wrap_u8];omega
theorem Bcy{K:Nat}(hK:281474976710656<=K){c:E2}(hc:Aht c){n:Int}(h1:n<=1000): ∃b c',A2t K c n=some (b,c')/\A3u b/\b.length<=1000/\Aht c':=by
 have hm:=K1;have key: ∀(f i:Nat) (l:List Int) (c:E2),Aht c->A3u l->l.length=i->(i:Int)<=1000->(1000 - i)<f-> ∃b c',Axh K n f l (i:Int) c.fb c.fi c.fh=some (b,c')/\A3u b/\b.length<=1000/\Aht c':=by
  intro f;induction f with
  |zero=>omega
  |succ f ih=>
   intro i l c hc hl hi h2 hf;rw[Axh];by_cases q:(i:Int)<n
   ·obtain⟨r,e,_,w⟩:=A8q K hc;rw[decide_eq_true q,cond_true,show E2.mk c.fb c.fi c.fh=c from rfl,e,Z0,if_pos ⟨by grind,by grind⟩,Acm (by omega)];exact ih (i+1) _ r.2 w (Bjf hl fun x hx=>by simp_all[B37]) (by simp[hi]) (by omega) (by omega)
   ·rw[decide_eq_false q]
    grind
 exact key K 0 [] c hc (fun x hx=>by cases hx) rfl (by omega) (by omega)
def Ame (o:Di):Prop:=A3u o.fB/\o.fB.length<=1000
theorem Auv (k:Int)(h:Ch)(r:Fb)(n m:Int):Ame (Di.mk k h r n m []):=⟨(fun x hx=>by cases hx),Z21 _⟩
theorem Bht (K:Nat){c:E2}(hc:Aht c): ∃h c',A1m K c=some (h,c')/\Aht c':=by
 unfold A1m;obtain⟨r,e,_,w⟩:=Ahw K hc (n:=5) (by omega);obtain⟨q,e2,_,w2⟩:=Ahw K w (n:=3) (by omega);rw[e,Z0,e2];exact⟨_,_,rfl,w2⟩
theorem Bcz{K:Nat}(hK:281474976710656<=K){c:E2}(hc:Aht c)(k:Int)(b:Bool)(r:Fb)(h:Ch){o:Di}(ho:Ame o)(p:Di): ∃o' c',Avv K k b c.fb c.fi c.fh r h o p=some (o',c')/\Ame o'/\Aht c':=by
 unfold Avv;have e0:E2.mk c.fb c.fi c.fh=c:=rfl;rw[e0];cases b with
 |true=>exact⟨_,_,rfl,⟨ho.1,ho.2⟩,hc⟩
 |false=>
  simp only[cond_false];cases k==2 with
  |true=>
   simp only[cond_true];obtain⟨x,c1,e1,_,w1⟩:=A4h K hc (l:=[1,2,3,5,8,9,17,20,0,201]) (by simp);obtain⟨y,c2,e2,_,w2⟩:=A4h K w1 (l:=[1,1,2,4,3]) (by simp);rw[e1,Z0,if_pos rfl,e2,Z0,if_pos rfl];exact⟨_,_,rfl,⟨ho.1,ho.2⟩,w2⟩
  |false=>
   simp only[cond_false];cases k==3 with
   |true=>
    simp only[cond_true];obtain⟨x,e1,_,w1⟩:=Ahw K hc (n:=4) (by omega);obtain⟨y,e2,_,w2⟩:=Ahw K w1 (n:=5) (by omega);rw[e1,Z0,e2,Z0];exact⟨_,_,rfl,⟨ho.1,ho.2⟩,w2⟩
   |false=>
    simp only[cond_false];cases k==4 with
    |true=>
     simp only[cond_true];obtain⟨x,e1,_,w1⟩:=Ahw K hc (n:=4) (by omega);obtain⟨y,e2,b2,w2⟩:=Ahw K w1 (n:=4) (by omega);obtain⟨z,c3,e3,b3,l3,w3⟩:=Bcy hK w2 (n:=y.1) (by omega);rw[e1,Z0,e2,Z0,e3,Z0];exact⟨_,_,rfl,⟨b3,l3⟩,w3⟩
    |false=>
     simp only[cond_false];cases k==5 with
     |true=>
      simp only[cond_true];obtain⟨x,c1,e1,_,w1⟩:=A4h K hc (l:=[1,7,255,256]) (by simp);rw[e1,Z0,if_pos rfl];exact⟨_,_,rfl,⟨ho.1,ho.2⟩,w1⟩
     |false=>exact⟨_,_,rfl,ho,hc⟩
theorem Bc0{K:Nat}(hK:281474976710656<=K){c:E2}(hc:Aht c): ∃o c',Azo K c=some (o,c')/\Ame o/\Aht c':=by
 unfold Azo;obtain⟨r1,e1,_,w1⟩:=Ahw K hc (n:=9) (by omega);obtain⟨h2,c2,e2,w2⟩:=Bht K w1;obtain⟨r3,e3,_,w3⟩:=Ahw K w2 (n:=2) (by omega);obtain⟨r4,e4,_,w4⟩:=Ahw K w3 (n:=3) (by omega);rw[e1,Z0,e2,Z0,e3,Z0,e4,Z0];cases A1 1 r1.1==1 with
 |true=>
  simp only[cond_true];obtain⟨r5,e5,w5⟩:=A2o K w4 (n:=2) (by omega);rw[e5,Z0];cases r5.1 with
  |true=>exact⟨_,_,rfl,Auv _ _ _ _ _,w5⟩
  |false=>exact⟨_,_,rfl,Auv _ _ _ _ _,w5⟩
 |false=>
  simp only[cond_false];cases A1 1 r1.1==6 with
  |true=>simp_all[Bcz,Auv]
  |false=>
   simp only[cond_false];cases A1 1 r1.1==7 with
   |true=>simp_all[Bcz,Auv]
   |false=>simp_all[Bcz,Auv]
theorem Bef (K:Nat){c:E2}(hc:Aht c): ∃x c',A05 K c=some (x,c')/\Akj x=true/\Aht c':=by
 unfold A05;obtain⟨r1,e1,b1,w1⟩:=Ahw K hc (n:=11) (by omega);obtain⟨x2,c2,e2,m2,w2⟩:=A4h K w1 (l:=[8,8,9,12,16]) (by simp);obtain⟨r3,e3,b3,w3⟩:=Ahw K w2 (n:=7) (by omega);obtain⟨r4,e4,b4,w4⟩:=Ahw K w3 (n:=6) (by omega);obtain⟨x5,c5,e5,m5,w5⟩:=A4h K w4 (l:=[1,3,4,8,16]) (by simp);obtain⟨r6,e6,b6,w6⟩:=Ahw K w5 (n:=4) (by omega);rw[e1,Z0,e2,Z0,if_pos rfl,e3,Z0,e4,Z0,e5,Z0,if_pos rfl,e6];refine⟨_,_,rfl,?_,w6⟩;have a1:A1 2 r1.1=2+r1.1:=by grind [A1,Lc,Ht]
 have a3:A1 2 r3.1=2+r3.1:=by grind [A1,Lc,Ht]
 have a4:A1 1 r4.1=1+r4.1:=by grind [A1,Lc,Ht]
 have a6:A1 1 r6.1=1+r6.1:=by grind [A1,Lc,Ht]
 rw[a1,a3,a4,a6];have m2:x2=8\/x2=8\/x2=9\/x2=12\/x2=16:=by grind
 have m5:x5=1\/x5=3\/x5=4\/x5=8\/x5=16:=by grind
 unfold Akj;simp only[Z4,Wy];omega
theorem Bjh{w:Bo}{E:Int}{n:Nat}(G:Ev w E n)(hE:0<=E){k:Int}(hk:AlW w.fL k):Ev (A3m w k) E n:=by
 obtain⟨t,A,F⟩:=G.inv.forest;have al:=hk.al A;have I':=Bmu G.inv A F al;obtain⟨hki,L,T,e⟩:=G.live hk;have R:=G.inv.rg;have hN:(A3m w k).fL.length=w.fL.length:=by grind [A3m,A5e]
 have hg: ∀x,0<=x/\x<(w.fL.length:Int)->gt (A3m w k).fL x=if x=k then Ar1 2 (gt (Auq w.fL k) k).C7 else gt (Auq w.fL k) x:=fun x hx=>by
  unfold A3m;simp only;rw[Auu (by grind [A5e]) (by grind [A5e])];rfl
 refine⟨I',?_,fun x hx=> ?_,?_,?_⟩
 ·show ∀x∈(Ah1 w.fP _).Fp,_;rw[(A6e G.inv hki).2.1];exact G.mem
 ·rw[hN]at hx;rw[hg x hx];by_cases q:x=k
  ·rw[if_pos q];exact⟨hE,hE,⟨Int.le_refl 0,by show(0:Int)<=1000;omega⟩⟩
  ·rw[if_neg q,A7c R hki hx q];have:=G.ep x hx;exact⟨this.ep,this.ue,this.cur⟩
 ·have hs:=A1i (f:=wtN w.fC) hN hki fun x hx hne=>by rw[hg x hx,if_neg hne,A7c R hki hx hne];rfl
  rw[hg k hki,if_pos rfl,A79 _ (by decide)]at hs;have e1:wtN w.fC (gt w.fL k)=2+(gt w.fL k).Dh.length+w.fC.Du.toNat*(gt w.fL k).Ad.length:=by unfold wtN;rw[if_pos L.st]
  have h3:=G.wt;unfold wt pot at h3 ⊢;show((A3m w k).fL.map (wtN w.fC)).sum+((w.fQ++[Air (gt w.fL k) (A1 k 1)]).map (wtQ w.fC)).sum+w.Jp.length<=_;have e2:wtQ w.fC (Air (gt w.fL k) (A1 k 1))=1+(gt w.fL k).Dh.length+w.fC.Du.toNat*(gt w.fL k).Ad.length:=rfl
  grind
 ·have hs:=A1i (f:=lvN) hN hki fun x hx hne=>by rw[hg x hx,if_neg hne,A7c R hki hx hne];rfl
  rw[hg k hki,if_pos rfl,show lvN (Ar1 2 (gt (Auq w.fL k) k).C7)=0 from rfl,show lvN (gt w.fL k)=1 by unfold lvN;rw[if_pos L.st]]at hs;have h3:=G.cn;unfold cnt at h3 ⊢;rw[show(A3m w k).fQ.length=w.fQ.length+1 from Z23];omega
theorem Bji{w:Bo}{E:Int}{n:Nat}(G:Ev w E n)(hE:0<=E/\E<=900000000){k:Int}(hk:AlW w.fL k):Ev (A4p w k) (E+1) (n+1):=by
 obtain⟨t,A,F⟩:=G.inv.forest;have al:=hk.al A;obtain⟨hki,L,T,e⟩:=G.live hk;have h0:=L.ep;have h1:=e.ep;have I':=Bmv G.inv A F al (by omega);have hN:(A4p w k).fL.length=w.fL.length:=by grind [A4p]
 have hg: ∀x,0<=x/\x<(w.fL.length:Int)->gt (A4p w k).fL x=if x=k then A0b (gt w.fL k)else gt w.fL x:=fun x hx=>Auu hki hx _
 refine⟨I',?_,fun x hx=> ?_,?_,?_⟩
 ·show ∀x∈(Ah1 w.fP _).Fp,_;rw[(A6e G.inv hki).2.1];exact G.mem
 ·rw[hN]at hx;rw[hg x hx];have hx':=G.ep x hx;by_cases q:x=k
  ·rw[if_pos q];refine⟨?_,?_,⟨Int.le_refl 0,by show(0:Int)<=1000;omega⟩⟩
   ·show A1 (gt w.fL k).Nb 1<=_
    grind [ad1]
   ·have:=e.ue;show(gt w.fL k).G5<=_;omega
  ·rw[if_neg q];have h2:=hx'.ep;have h3:=hx'.ue;exact⟨by omega,by omega,hx'.cur⟩
 ·have hs:=A1i (f:=wtN w.fC) hN hki fun x hx hne=>by grind
  rw[hg k hki,if_pos rfl]at hs;have e1:wtN w.fC (gt w.fL k)=2+(gt w.fL k).Dh.length+w.fC.Du.toNat*(gt w.fL k).Ad.length:=by unfold wtN;rw[if_pos L.st]
  have e0:wtN w.fC (A0b (gt w.fL k))=2:=by
   have hst1:(A0b (gt w.fL k)).G4=1:=L.st;unfold wtN;rw[if_pos hst1];rfl
  have h3:=G.wt;unfold wt pot at h3 ⊢;show((A4p w k).fL.map (wtN w.fC)).sum+((w.fQ++[Air (gt w.fL k) 0]).map (wtQ w.fC)).sum+w.Jp.length<=_;have e2:wtQ w.fC (Air (gt w.fL k) 0)=1+(gt w.fL k).Dh.length+w.fC.Du.toNat*(gt w.fL k).Ad.length:=rfl
  grind
 ·have hs:=A1i (f:=lvN) hN hki fun x hx hne=>by rw[hg x hx,if_neg hne]
  have hst1:(A0b (gt w.fL k)).G4=1:=L.st;rw[hg k hki,if_pos rfl,show lvN (A0b (gt w.fL k))=1 by unfold lvN;rw[if_pos hst1],show lvN (gt w.fL k)=1 by unfold lvN;rw[if_pos L.st]]at hs;have h3:=G.cn;unfold cnt at h3 ⊢;rw[show(A4p w k).fQ.length=w.fQ.length+1 from Z23];omega
section
variable {K:Nat} (hK:281474976710656<=K)
include hK
theorem B00{E:Int}{n:Nat}(hE:0<=E/\E<=900000000)(hn:n<=800000000){w:Bo}(G:Ev w E n){o:Di}(ho:Ame o): ∃w' a,A3z K w o=some (w',a)/\Ev w' E (n+1)/\w'.fC=w.fC:=by
 have W:=G.ww (by omega) (by omega);have G0:=Ev.le G (Int.le_refl E) (by omega:n<=n+1);unfold A3z;cases o.Aad==3 with
 |true=>
  simp only[cond_true];obtain⟨a,e⟩:=Bu8 hK hE hn G o.fR o.fN o.fM
  grind
 |false=>
  simp only[cond_false];cases o.Aad==4 with
  |true=>
   simp only[cond_true];obtain⟨a,w',e,g,c⟩:=Bsa hK hE hn G o.fR o.fN (s:=o.fB) ho.1 (by have:=ho.2;omega);rw[e];exact⟨_,_,rfl,Ev.le g (Int.le_refl E) (by omega),c⟩
  |false=>
   simp only[cond_false];cases o.Aad==5 with
   |true=>
    simp only[cond_true];obtain⟨a,w',e,g,c⟩:=Bsb hK hE hn G o.fH o.fN
    grind
   |false=>
    simp only[cond_false];cases o.Aad==8 with
    |true=>
     simp only[cond_true];obtain⟨a,e⟩:=Bsc hK hE hn G o.fH
     grind
    |false=>
     simp_all[A0y]
theorem Bsd{E:Int}{n:Nat}(hE:0<=E/\E<=800000000)(hn:n<=700000000){w:Bo}(G:Ev w E n)(b:Bool){o:Di}(ho:Ame o)(z:F8):
  ∃a w',Azz K b w.fC.Ad w.fC.Du w.fC.Cd w.fC.Ez w.fC.Ce w.fC.Dv w.fP.Fp w.fP.G4 w.fP.Fq w.fL w.fQ w.Jp z o.Aad o.fH.Be o.fH.C7 o.fR.fH.Be o.fR.fH.C7 o.fR.Nb o.fR.fNo o.fN o.fM o.fB=some (a,w')/\Ev w' (E+1) (n+1)/\w'.fC=w.fC:=by
 have W:=G.ww (by omega) (by omega);have hq:=Bmx w;have hwt:=G.wt;have G0:=Ev.le G (by omega:E<=E+1) (by omega:n<=n+1);unfold Azz;rw[show Bo.mk (Fi.mk w.fC.Ad w.fC.Du w.fC.Cd w.fC.Ez w.fC.Ce w.fC.Dv) (Ef.mk w.fP.Fp w.fP.G4 w.fP.Fq) w.fL w.fQ w.Jp=w from rfl];cases b with
 |true=>
  simp only[cond_true];rw[Ay9 hK W.l,Z0,A3t hK w W.l,Z0];by_cases h0:(Ay1 w.fL (Ch.mk o.fH.Be o.fH.C7)).2=0
  ·have hal:=A8p G.inv h0;have hki:=(G.live hal).1;rw[h0];simp only[bne_self_eq_false,cond_false];cases o.Aad==6 with
   |true=>
    simp only[cond_true];rw[Be9 hK w W (by omega) hki,Z0];exact⟨_,_,rfl,Bji G (by omega) hal,rfl⟩
   |false=>
    simp only[cond_false];rw[Bi1 hK w W (by omega) hki,Z0];exact⟨_,_,rfl,Ev.le (Bjh G hE.1 hal) (by omega) (by omega),rfl⟩
  ·rw[A3h h0]
   grind
 |false=>
  simp only[cond_false];rw[show Di.mk o.Aad (Ch.mk o.fH.Be o.fH.C7) (Fb.mk (Ch.mk o.fR.fH.Be o.fR.fH.C7) o.fR.Nb o.fR.fNo) o.fN o.fM o.fB=o from rfl];obtain⟨w',a,e,g,c⟩:=B00 hK (by omega) (by omega) G ho;rw[e];exact⟨_,_,rfl,Ev.le g (by omega) (Z9 _),c⟩
theorem B38{E:Int}{n:Nat}(hE:0<=E/\E<=800000000)(hn:n<=700000000){w:Bo}(G:Ev w E n){o:Di}(ho:Ame o): ∃a w',A44 K w o=some (a,w')/\Ev w' (E+1) (n+192)/\w'.fC=w.fC:=by
 unfold A44;cases o.Aad==1 with
 |true=>
  simp only[cond_true];obtain⟨r,w',e,g,c⟩:=Bi9 hK (by omega) (by omega) G o.fH;rw[e];exact⟨_,_,rfl,Ev.le g (by omega) (by omega),c⟩
 |false=>
  simp only[cond_false];cases o.Aad==2 with
  |true=>
   simp only[cond_true];obtain⟨r,w',e,g,c⟩:=Bhr hK (by omega) (by omega) G o.fH o.fN o.fM;rw[e];exact⟨_,_,rfl,Ev.le g (by omega) (by omega),c⟩
  |false=>
   simp only[cond_false];cases o.Aad==9 with
   |true=>
    simp only[cond_true];obtain⟨r,w',e,S⟩:=Bbs hK (E:=E) (n:=n) (by omega) (by omega) 4000 G;rw[e];exact⟨_,_,rfl,Ev.le S.good (by omega) (by omega),S.stay.conf⟩
   |false=>
    simp only[cond_false];cases o.Aad==6 with
    |true=>
     simp only[cond_true];obtain⟨r,w',e,g,c⟩:=Bsd hK hE hn G true ho (F8.mk 0 (Ch.mk 0 0) (Fb.mk (Ch.mk 0 0) 0 0) [] 0 0 0);exact⟨_,_,e,Ev.le g (Int.le_refl _) (by omega),c⟩
    |false=>
     simp only[cond_false];obtain⟨r,w',e,g,c⟩:=Bsd hK hE hn G (o.Aad==7) ho (F8.mk 0 (Ch.mk 0 0) (Fb.mk (Ch.mk 0 0) 0 0) [] 0 0 0);exact⟨_,_,e,Ev.le g (Int.le_refl _) (by omega),c⟩
end
theorem Bfu{α:Type}[Inhabited α]{n:Nat}(x:α){k:Int}(hk:0<=k/\k<(n:Int)):gt (List.replicate n x) k=x:=by
 obtain⟨j,rfl⟩: ∃j:Nat,k=j:=⟨k.toNat,by omega⟩
 grind [V2]
theorem Bc1{α:Type}(i:Nat)(x:α):List.replicate i x++[x]=List.replicate (i+1) x:=by rw[List.replicate_succ']
section
variable {K:Nat} (hK:281474976710656<=K)
include hK
def Bk2 (c:Fi):Ef:=Ef.mk (List.replicate (c.Ad*c.Du).toNat 0) (List.replicate c.Ad.toNat 0) (List.replicate c.Ad.toNat (-1))
theorem Bjj{c:Fi}(hc:Akj c=true):A2q K c=some (Bk2 c):=by
 have hm:=K1;obtain⟨b1,b2,b3,b4,b5,b6⟩:=Bd hc;have hb:=Azl (a:=c.Ad) (b:=c.Du) (m:=12) (n:=16) (by omega) b1.2 (by omega) b2.2;have hby:Ao0 c=c.Ad*c.Du:=by grind [Ao0]
 unfold A2q A61;rw[Avs,hc,Z0,Bool.not_true,cond_false,Ayl,Z0,hby,Amo,Wy.2 ⟨by omega,by omega⟩];simp only[Z0,Bool.not_true,cond_false];rw[if_pos ⟨by omega,by omega,by omega,by omega⟩,Z0];have key: ∀(f i:Nat),(i:Int)<=c.Ad->c.Ad.toNat - i<f->Axe K c f (i:Int) (Ef.mk (List.replicate (c.Ad*c.Du).toNat 0) (List.replicate i 0) (List.replicate i (-1))) (Ef.mk [] [] [])=some (Bk2 c):=by
  intro f;induction f with
  |zero=>omega
  |succ f ih=>
   intro i hi hf;rw[Axe];by_cases q:(i:Int)=c.Ad
   ·rw[decide_eq_false (by omega)];unfold Bk2;rw[<-q];rfl
   ·rw[decide_eq_true (by omega),cond_true,if_pos ⟨by grind,by grind⟩,if_pos ⟨by grind,by grind⟩,Acm (by omega)];simp only;rw[Bc1,Bc1];exact ih (i+1) (by omega) (by omega)
 exact key K 0 (by omega) (by omega)
theorem Bhu{c:Fi}(hc:Akj c=true):A4i K c=some (List.replicate c.Cd.toNat (Ar1 0 1)):=by
 have hm:=K1;obtain⟨b1,b2,b3,b4,b5,b6⟩:=Bd hc;have key: ∀(f i:Nat),(i:Int)<=c.Cd->c.Cd.toNat - i<f->Awp K c f (List.replicate i (Ar1 0 1)) (i:Int)=some (List.replicate c.Cd.toNat (Ar1 0 1)):=by
  intro f;induction f with
  |zero=>omega
  |succ f ih=>
   intro i hi hf;rw[Awp];by_cases q:(i:Int)=c.Cd
   ·grind
   ·unfold Amp;rw[decide_eq_true (by omega),cond_true,Avs,hc];simp only[Z0,cond_true];rw[show Az.mk 0 1 0 0 0 0 0 0 [] 0 0 [] []=Ar1 0 1 from rfl,if_pos ⟨by grind,by grind⟩,Acm (by omega),Bc1];exact ih (i+1) (by omega) (by omega)
 exact key K 0 (by omega) (by omega)
def A5w (c:Fi):Bo:=Bo.mk c (Bk2 c) (List.replicate c.Cd.toNat (Ar1 0 1)) [] []
theorem Bhv{c:Fi}(hc:Akj c=true):A1l K c=some (A5w c):=by
 unfold A1l;rw[Avs,hc,Z0,Bool.not_true,cond_false,Bjj hK hc,Z0,Bhu hK hc];rfl
end
def Bse (_:Int):Lk:=⟨false,false,0,0,0,0,0,0⟩
theorem A7g{N x:Int}: ¬Lv N Bse x:=fun h=>by have:=h.2;cases this
theorem Bhw (N:Int):Aig N Bse []:=by
 refine⟨⟨fun k h=>absurd h A7g,fun k h=>absurd h A7g,fun _ _ _ _=>⟨rfl,rfl,rfl,rfl⟩⟩,⟨fun _=>0,fun x h=>absurd h A7g⟩,⟨fun _=>0,fun x h=>absurd h A7g⟩,⟨List.nodup_nil,fun x=>⟨(fun h=>by cases h),fun h=>absurd h.1 A7g⟩,(fun f h=>by cases h)⟩,trivial,fun x h=>absurd h A7g,fun x h=>absurd h A7g,(fun e h=>by cases h)⟩
theorem Bsf{c:Fi}(hc:Akj c=true):Ev (A5w c) 0 0:=by
 obtain⟨b1,b2,b3,b4,b5,b6⟩:=Bd hc;have hb:=Azl (a:=c.Ad) (b:=c.Du) (m:=12) (n:=16) (by omega) b1.2 (by omega) b2.2;have hN:((A5w c).fL.length:Int)=c.Cd:=by show((List.replicate _ _).length:Int)=_;grind
 have hg: ∀k,0<=k/\k<((A5w c).fL.length:Int)->gt (A5w c).fL k=Ar1 0 1:=fun k hk=>Bfu _ (by omega)
 have hs: ∀k,0<=k/\k<c.Ad->gt (A5w c).fP.G4 k=0:=fun k hk=>Bfu _ (by omega)
 have ho: ∀k,0<=k/\k<c.Ad->gt (A5w c).fP.Fq k= -1:=fun k hk=>Bfu _ (by omega)
 have hz: ∀a m:Nat,Arz (((A5w c).fP.Fp.drop a).take m)=true:=fun a m=>by
  rw[A5u];intro j _ _ h;have h:j<(List.replicate (c.Ad*c.Du).toNat (0:Int)).length:=h;rw[List.length_replicate]at h;exact Bfu _ ⟨by omega,by omega⟩
 refine⟨⟨Ahr.2 ⟨hc,?_,?_,?_,fun k hk=> ?_⟩,hN,fun k hk=> ?_,fun k hk x=> ?_,fun k hk=> ?_,⟨Bse,(fun k hk=>by rw[hg k hk];rfl),Bhw _⟩,(fun x h=>by cases h),List.nodup_nil,fun x=> ?_,List.nodup_nil,fun s=> ?_,rfl⟩,fun x hx=> ?_,fun k hk=> ?_,?_,?_⟩
 ·show((List.replicate _ _).length:Int)=c.Ad*c.Du;grind
 ·show((List.replicate _ _).length:Int)=c.Ad;grind
 ·show((List.replicate _ _).length:Int)=c.Ad;grind
 ·rw[hs k hk,ho k hk];exact⟨by omega,fun h=>by omega,fun _=>rfl,fun _=>hz _ _⟩
 ·rw[hg k hk];exact A8o hc (by omega) (by omega) (by omega)
 ·rw[hg k hk];constructor
  ·intro h;cases h
  ·rintro⟨a,b,_⟩;rw[hs x a]at b;cases b
 ·rw[hg k hk];exact⟨rfl,rfl,rfl⟩
 ·constructor
  ·intro h;cases h
  ·rintro⟨a,b⟩;rw[hs x a]at b;cases b
 ·constructor
  ·intro h;cases h
  ·rintro⟨a,b⟩;rw[hg s a]at b;cases b
 ·have hx:x∈List.replicate (c.Ad*c.Du).toNat (0:Int):=hx
  grind
 ·rw[hg k hk];exact⟨Int.le_refl 0,Int.le_refl 0,Int.le_refl 0,by show(0:Int)<=1000;omega⟩
 ·have e:wtN c (Ar1 0 1)=0:=A79 _ (by decide) _;simp_all[wt,pot,A5w]
 ·have e:lvN (Ar1 0 1)=0:=rfl;simp_all[cnt,A5w]
section
variable {K:Nat} (hK:281474976710656<=K)
include hK
def Ba8 (w:Bo)(o:Di)(c:E2):Di×E2×(List Int)×(List Int)×(List Int)×(List Az)×(List Bb)×(List Int):=(o,c,w.fP.Fp,w.fP.G4,w.fP.Fq,w.fL,w.fQ,w.Jp)
omit hK in
theorem Bhx (w:Bo)(h:Ch)(d:Int){c:E2}(hc:Aht c)(b:Bool): ∃o c',Axi K h w.fP.Fp w.fP.G4 w.fP.Fq w.fL w.fQ w.Jp d c.fb c.fi c.fh b=some (Ba8 w o c')/\Ame o/\Aht c':=by
 unfold Axi;rw[show E2.mk c.fb c.fi c.fh=c from rfl];cases b with
 |true=>
  simp only[cond_true];obtain⟨r,e,_,w1⟩:=Ahw K hc (n:=256) (by omega);rw[e];exact⟨_,_,rfl,Auv _ _ _ _ _,w1⟩
 |false=>
  simp only[cond_false];cases d==13 with
  |true=>exact⟨_,_,rfl,Auv _ _ _ _ _,hc⟩
  |false=>
   simp only[cond_false];cases d==14 with
   |true=>exact⟨_,_,rfl,Auv _ _ _ _ _,hc⟩
   |false=>
    simp only[cond_false];obtain⟨r,e,w1⟩:=A2o K hc (n:=6) (by omega);rw[e,Z0];cases r.1 with
    |true=>exact⟨_,_,rfl,Auv _ _ _ _ _,w1⟩
    |false=>exact⟨_,_,rfl,Auv _ _ _ _ _,w1⟩
theorem Bhy (w:Bo)(h:Ch)(r:Fb)(d:Int){c:E2}(hc:Aht c)(b:Bool): ∃o c',Axj K h r w.fP.Fp w.fP.G4 w.fP.Fq w.fL w.fQ w.Jp d c.fb c.fi c.fh b=some (Ba8 w o c')/\Ame o/\Aht c':=by
 unfold Axj;rw[show E2.mk c.fb c.fi c.fh=c from rfl];cases b with
 |true=>
  simp only[cond_true];obtain⟨x,e,b1,w1⟩:=Ahw K hc (n:=2) (by omega);have e1:A1 1 x.1=1+x.1:=by grind [A1,Lc,Ht]
  obtain⟨y,c2,e2,b2,l2,w2⟩:=Bcy hK w1 (n:=1+x.1) (by omega);rw[e,Z0,e1,e2];exact⟨_,_,rfl,⟨b2,l2⟩,w2⟩
 |false=>
  simp only[cond_false];cases d==10 with
  |true=>
   simp only[cond_true];obtain⟨x,e,_,w1⟩:=Ahw K hc (n:=3) (by omega);rw[e];exact⟨_,_,rfl,Auv _ _ _ _ _,w1⟩
  |false=>
   simp only[cond_false];cases d==11 with
   |true=>simp_all[Bhx]
   |false=>simp_all[Bhx]
theorem Bc2 (w:Bo)(h:Ch)(r:Fb)(z d:Int){c:E2}(hc:Aht c)(b:Bool): ∃o c',Avw K h r z w.fP.Fp w.fP.G4 w.fP.Fq w.fL w.fQ w.Jp d c.fb c.fi c.fh b=some (Ba8 w o c')/\Ame o/\Aht c':=by
 unfold Avw;rw[show E2.mk c.fb c.fi c.fh=c from rfl];cases b with
 |true=>
  simp only[cond_true];obtain⟨x,c1,e1,_,w1⟩:=A4h K hc (l:=[1,2,3,4,5,8]) (by simp);obtain⟨y,c2,e2,_,w2⟩:=A4h K w1 (l:=[1,1,2,4]) (by simp);rw[e1,Z0,if_pos rfl,e2,Z0,if_pos rfl];exact⟨_,_,rfl,Auv _ _ _ _ _,w2⟩
 |false=>
  simp only[cond_false];cases d==7 with
  |true=>
   simp only[cond_true];obtain⟨x,e,w1⟩:=Ba7 K hc z;rw[e];exact⟨_,_,rfl,Auv _ _ _ _ _,w1⟩
  |false=>
   simp only[cond_false];cases d==8 with
   |true=>simp_all[Bhy]
   |false=>simp_all[Bhy]
theorem Bc3 (w:Bo)(h:Ch)(r:Fb)(z d:Int){c:E2}(hc:Aht c)(b:Bool): ∃o c',Avx K h r z w.fP.Fp w.fP.G4 w.fP.Fq w.fL w.fQ w.Jp d b c.fb c.fi c.fh=some (Ba8 w o c')/\Ame o/\Aht c':=by
 unfold Avx;rw[show E2.mk c.fb c.fi c.fh=c from rfl];cases b with
 |true=>exact⟨_,_,rfl,Auv _ _ _ _ _,hc⟩
 |false=>
  simp only[cond_false];cases d==3 with
  |true=>exact⟨_,_,rfl,Auv _ _ _ _ _,hc⟩
  |false=>
   simp only[cond_false];cases d==4 with
   |true=>simp_all[Bc2]
   |false=>
    simp only[cond_false];cases d==5 with
    |true=>simp_all[Bc2]
    |false=>simp_all[Bc2]
theorem Bhz (w:Bo)(h:Ch)(r:Fb)(q:Di){c:E2}(hc:Aht c): ∃o c',Axk K h c.fb c.fi c.fh r q w.fC.Ad w.fC.Du w.fC.Cd w.fC.Ez w.fC.Ce w.fC.Dv w.fP.Fp.length w.fP.G4.length w.fP.Fq.length w.fL.length w.fQ.length w.Jp.length w.fP.Fp w.fP.G4 w.fP.Fq w.fL w.fQ w.Jp=some (Ba8 w o c')/\Ame o/\Aht c':=by
 unfold Axk;rw[show E2.mk c.fb c.fi c.fh=c from rfl];obtain⟨x,e,_,w1⟩:=Ahw K hc (n:=16) (by omega);rw[e,Z0];cases x.1==0 with
 |true=>simp_all[Bc3]
 |false=>
  simp only[cond_false];cases x.1==1 with
  |true=>simp_all[Bc3]
  |false=>simp_all[Bc3]
theorem Bk3{w:Bo}(W:Ark w)(h8:w.fL.length<=1000){c:E2}(hc:Aht c): ∃o c',Azp K c w=some (Ba8 w o c')/\Ame o/\Aht c':=by
 unfold Azp;obtain⟨r1,e1,hl,hr⟩:=Bcu hK W h8;rw[e1,Z0];cases hz:(r1.length:Int)==0 with
 |true=>
  simp only[cond_true];obtain⟨x,e,w1⟩:=A2o K hc (n:=2) (by omega);rw[e,Z0];cases x.1 with
  |true=>exact⟨_,_,rfl,Auv _ _ _ _ _,w1⟩
  |false=>
   simp only[cond_false];obtain⟨o,c2,e2,ho,w2⟩:=Bc0 hK w1;rw[e2];exact⟨_,_,rfl,ho,w2⟩
 |false=>
  have hz: ¬(r1.length:Int)=0:=by grind
  simp only[cond_false];obtain⟨x,e,w1⟩:=A2o K hc (n:=10) (by omega);rw[e,Z0];cases x.1 with
  |true=>
   simp only[cond_true];obtain⟨y,e2,w2⟩:=A2o K w1 (n:=2) (by omega);rw[e2,Z0];cases y.1 with
   |true=>exact⟨_,_,rfl,Auv _ _ _ _ _,w2⟩
   |false=>
    simp only[cond_false];obtain⟨o,c2,e3,ho,w3⟩:=Bc0 hK w2;rw[e3];exact⟨_,_,rfl,ho,w3⟩
  |false=>
   simp only[cond_false];obtain⟨y,e2,b2,w2⟩:=Ahw K w1 (n:=(r1.length:Int)) (by omega);rw[e2,Z0,if_pos b2];have hk:=(hr _ (Akk b2.1 b2.2)).1;obtain⟨h,eh⟩:=A8b (K:=K) (l:=w.fL) (by omega) (gt r1 y.1);simp only[eh,Z0,if_pos hk];cases decide (((gt w.fL (gt r1 y.1)).D5.length:Int)>0)with
   |true=>
    simp only[cond_true];obtain⟨z,e3,w3⟩:=Ba7 K w2 ((gt w.fL (gt r1 y.1)).D5.length:Int);simp_all[Bhz]
   |false=>
    simp_all[Bhz]
theorem run_ok{c:E2}(hc:Aht c){most:Int}(hm:0<most/\most<=1000): ∃x l w c' E n,A30 K c most=some (x,l,w,c')/\Ev w E n/\(0<=E/\E<=200)/\n<=38400/\w.fC=x/\Akj x=true/\l.length<=200/\(∀o∈l,Ame o)/\Aht c':=by
 have hx:=K1;unfold A30;obtain⟨x,c1,e1,hx1,w1⟩:=Bef K hc;obtain⟨y,e2,b2,w2⟩:=Ahw K w1 (n:=most) (by omega);rw[e1,Z0,Bhv hK hx1,Z0,e2,Z0];have ea:A1 4 y.1=4+y.1:=by grind [A1,Lc,Ht]
 rw[ea];have key: ∀(f i:Nat) (l:List Di) (w:Bo) (c:E2),(i:Int)<=4+y.1->i<f->Ev w (l.length:Int) (192*l.length)->w.fC=x->l.length<=200->(∀o∈l,Ame o)->Aht c-> ∃x' l' w' c' E n,Ays K f l (i:Int) c.fb c.fi c.fh w x (Bo.mk (Fi.mk 0 0 0 0 0 0) (Ef.mk [] [] []) [] [] []) (Fi.mk 0 0 0 0 0 0)=some (x',l',w',c')/\Ev w' E n/\(0<=E/\E<=200)/\n<=38400/\w'.fC=x'/\Akj x'=true/\l'.length<=200/\(∀o∈l',Ame o)/\Aht c':=by
  intro f;induction f with
  |zero=>omega
  |succ f ih=>
   intro i l w c hi hf G hwc hl ho hcc;have done: ∃x' l' w' c' E n,some (x,l,w,E2.mk c.fb c.fi c.fh)=some (x',l',w',c')/\Ev w' E n/\(0<=E/\E<=200)/\n<=38400/\w'.fC=x'/\Akj x'=true/\l'.length<=200/\(∀o∈l',Ame o)/\Aht c':=⟨_,_,_,_,_,_,rfl,G,by omega,by omega,hwc,hx1,hl,ho,hcc⟩;rw[Ays];by_cases q:0<i
   ·rw[decide_eq_true (show(i:Int)>0 by omega),cond_true];by_cases q2:l.length<200
    ·rw[decide_eq_true (show(l.length:Int)<200 by omega),cond_true];have W:=G.ww (by omega) (by omega);obtain⟨b1,b2,b3,_⟩:=Bd G.inv.conf;have hlen:=G.inv.len;obtain⟨o,c2,e3,hop,w3⟩:=Bk3 hK W (by omega) hcc;obtain⟨a,w',e4,G',hc'⟩:=B38 hK (E:=(l.length:Int)) (n:=192*l.length) (by omega) (by omega) G hop;rw[show E2.mk c.fb c.fi c.fh=c from rfl,e3,Z0];unfold Ba8;simp only;rw[if_pos ⟨trivial,trivial,trivial,trivial,trivial,trivial⟩,if_pos ⟨by grind,by grind⟩];rw[show Bo.mk w.fC (Ef.mk w.fP.Fp w.fP.G4 w.fP.Fq) w.fL w.fQ w.Jp=w from rfl,e4,Z0];have es:Ap (i:Int) 1=((i - 1:Nat):Int):=by grind [sb1]
     rw[es];refine ih (i - 1) (l++[o]) w' c2 (by omega) (by omega) ?_ (hc'.trans hwc) (by grind) ?_ w3
     ·rw[Z23,List.length_singleton]
      grind
     grind
    grind
   simp_all
 have:=key K (4+y.1).toNat [] (A5w x) y.2 (by omega) (by omega) (Bsf hx1) rfl (by simp) (fun o h=>by cases h) w2
 grind
omit hK in
theorem Bm9 (a:List Int){m:Int}(hm:0<=m/\m<=1000)(ha:a.length<=1048576): ∃r,A04 K a m=some r/\0<=r/\r<=1000:=by
 unfold A04;have h3:(a.length:Int) / 12<=(a.length:Int):=Int.ediv_le_self _ (by omega);have h4:0<=(a.length:Int) / 12:=Int.ediv_nonneg (by omega) (by omega);have e1:Apq .i64 (a.length:Int) 12=(a.length:Int) / 12:=by
  grind [Apq,Ht]
 have e2:A1 3 ((a.length:Int) / 12)=3+(a.length:Int) / 12:=by grind [A1,Lc,Ht]
 rw[if_pos (by decide),e1,e2];by_cases q:3+(a.length:Int) / 12>m
 ·simp_all
 ·rw[decide_eq_false q];grind
theorem Bfv{a:List Int}(hb:A3u a)(ha:a.length<=1048576): ∃w o E n,A0p K a=some (w,o)/\Ev w E n/\(0<=E/\E<=200)/\n<=38400/\Ame o:=by
 unfold A0p;obtain⟨c,e1,w1⟩:=Bhs hK hb ha;obtain⟨m,e2,hm⟩:=Bm9 (K:=K) a (m:=50) (by omega) ha;have ea:A1 20 m=20+m:=by grind [A1,Lc,Ht]
 have h50:m<=900\/900<m:=by omega
 rw[e1,Z0,e2,Z0,ea];unfold Ayt;have hm2:m<=50:=by
  unfold A04 at e2
  grind
 obtain⟨x,l,w,c2,E,n,e3,G,hE,hn,_,_,_,_,w3⟩:=run_ok hK w1 (most:=20+m) (by omega);have W:=G.ww (by omega) (by omega);obtain⟨b1,b2,b3,_⟩:=Bd G.inv.conf;have hlen:=G.inv.len;obtain⟨o,c4,e4,ho,_⟩:=Bk3 hK W (by omega) w3;rw[e3];simp only[Z0];rw[e4,Z0];unfold Ba8
 grind
end
section
variable (N:Int) (t:Int->Lk)
inductive Up (a:Int):Int->Prop
 |refl:Lv N t a->Up a a
 |step {b:Int}:Lv N t b->Cu N t b->Up a ((t b).up - 1)->Up a b
end
section
variable {N:Int} {t:Int->Lk}
theorem Up.lv{a b:Int}(h:Up N t a b):Lv N t a/\Lv N t b:=by
 induction h with
 |refl h=>grind
 |step h _ _ ih=>grind
theorem Up.trans{a b c:Int}(h:Up N t a b)(g:Up N t b c):Up N t a c:=by
 induction g with
 |refl _=>exact h
 |step h1 h2 _ ih=>exact .step h1 h2 ih
theorem Up.le{d:Int->Nat}(U: ∀x,Lv N t x->Cu N t x->d ((t x).up - 1)<d x){a b:Int}(h:Up N t a b):d a<=d b:=by
 induction h with
 |refl _=>omega
 |step h1 h2 _ ih=>grind
theorem Up.al{a b:Int}(h:Up N t a b)(g:Al N t a):Al N t b:=by
 induction h with
 |refl _=>exact g
 |step h1 h2 _ ih=>exact .step h1 h2 ih
variable {r:Int->Nat} {d:Int->Nat}
end
theorem Bsg{l:List Az}{t:Int->Lk}(A:AtT l t)(R:Rg l){d:Int->Nat}(U: ∀x,Lv l.length t x->Cu l.length t x->d ((t x).up - 1)<d x): ∀(n:Nat) (k:Int) (L:List Int),Al l.length t k->L.Nodup->(∀x∈L,(0<=x/\x<(l.length:Int))/\d k<d x)->l.length<=L.length+n->
  (∃r,Akg l n k=k::r)/\Aw5 l (Akg l n k)=true/\A6k l (Akg l n k)=true:=by
 intro n;induction n with
 |zero=>
  intro k L h hn hi hl;have hk:=h.lv;have:=Bbm (N:=(l.length:Int)) (l:=L++[k]) (Akt.2 ⟨hn,by simp,fun x h1 h2=>by grind⟩) (fun x hx=>by
   rcases N0.1 hx with h|h
   ·grind
   ·rw[S9.1 h];exact hk.1)
  grind
 |succ n ih=>
  intro k L h hn hi hl;have hk:=h.lv;have hst:=((A0d A).1 hk).2;have hu:=(R.rg k hk.1).1;have hl8:=R.len;unfold Akg;rw[if_pos hk.1,sb1 (by omega) (by omega)];cases h with
  |root _ h0=>
   rw[A k hk.1]at h0;have h0:(gt l k).fUp=0:=h0;have e:Akg l n ((gt l k).fUp - 1)=[]:=by
    cases n with
    |zero=>rfl
    |succ n=>simp_all[Akg]
   rw[e];refine⟨⟨[],rfl⟩,by simp[Aw5,hst],?_⟩;show(if 0<1 then(gt l k).fUp==0 else false)=true
   grind
  |step _ hc hp=>
   rw[A k hk.1]at hp;have hp:Al l.length t ((gt l k).fUp - 1):=hp;have hlt:=U k hk hc;rw[A k hk.1]at hlt;have hlt:d ((gt l k).fUp - 1)<d k:=hlt;obtain⟨⟨r,e⟩,h1,h2⟩:=ih ((gt l k).fUp - 1) (L++[k]) hp (Akt.2 ⟨hn,by simp,fun x h1 h2=>by grind⟩) (fun x hx=>by
    rcases N0.1 hx with h|h
    ·grind
    ·rw[S9.1 h];exact⟨hk.1,hlt⟩) (by grind)
   rw[e]at h1 h2 ⊢;refine⟨⟨_,rfl⟩,?_,by assumption⟩;have hep:=hc.2;rw[A k hk.1]at hep;have hep:(t ((gt l k).fUp - 1)).ep=(gt l k).G5:=hep;rw[A _ hp.lv.1]at hep;have hep:(gt l ((gt l k).fUp - 1)).Nb=(gt l k).G5:=hep;show((gt l k).G4==1&&((gt l k).G5==(gt l ((gt l k).fUp - 1)).Nb)&&Aw5 l (((gt l k).fUp - 1)::r))=true
   grind
theorem Beg{w:Bo}(I:Inv w){t:Int->Lk}(A:AtT w.fL t)(F:Aig w.fL.length t (A2h w.fQ)){k:Int}:Ayb w.fL k=true ↔ Al w.fL.length t k:=by
 constructor
 ·grind [AlW.al,Bea]
 ·intro h;obtain⟨d,U⟩:=F.uw;obtain⟨_,h1,h2⟩:=Bsg A I.rg U w.fL.length k [] h List.nodup_nil (fun x h=>by cases h) (by simp);unfold Ayb;rw[h1,h2];rfl
structure B01 (w:Bo)(t:Int->Lk)(k:Int):Prop where
 inv:Inv w
 tab:AtT w.fL t
 fr:Aig w.fL.length t (A2h w.fQ)
 al:Al w.fL.length t k
structure Beh (w w':Bo)(t:Int->Lk)(k:Int):Prop where
 inv:Inv w'
 len:w'.fL.length=w.fL.length
 tab:AtT w'.fL (rem t k)
 fr:Aig w.fL.length (rem t k) (A2h w'.fQ)
 conf:w'.fC=w.fC
 q:w'.fQ=w.fQ++[Air (gt w.fL k) (k+1)]
 node: ∀x,0<=x/\x<(w.fL.length:Int)->x≠k-> ∃a b c,gt w'.fL x=lnk (gt w.fL x) a b c
theorem Bna (c:Fi)(a b:Int)(f g:Int)(ts cs:List Int)(d:Int):B0o c (Bb.mk a f ts cs d)=B0o c (Bb.mk b g ts cs d):=rfl
theorem Beh.own{w w':Bo}{t:Int->Lk}{k:Int}(L:Beh w w' t k){x:Int}(hx:0<=x/\x<(w.fL.length:Int))(hne:x≠k):B0p w' x=B0p w x:=by
 obtain⟨a,b,c,e⟩:=L.node x hx hne;unfold B0p;rw[e,L.conf];exact Bna _ _ _ _ _ _ _ _
theorem Beh.kids{w w':Bo}{t:Int->Lk}{k:Int}(P:B01 w t k)(L:Beh w w' t k){x:Bb}(hx:x∈w.fQ):Ald w'.fL x.Bz=Ald w.fL x.Bz:=by
 have hf:=P.inv.first hx;rw[Bfj P.tab P.inv.rg hf.1 (by omega),Bfj L.tab L.inv.rg hf.1 (by omega),L.len];exact Bai P.fr.tree P.al.lv P.al.noOr P.fr.kid (Inv.qs hx)
def Bjk (w:Bo)(x:Int):List Int:=(gt w.fL x).Dh.reverse
theorem Beh.tags{w w':Bo}{t:Int->Lk}{k:Int}(L:Beh w w' t k){x:Int}(hx:0<=x/\x<(w.fL.length:Int))(hne:x≠k):Bjk w' x=Bjk w x:=by
 obtain⟨a,b,c,e⟩:=L.node x hx hne;unfold Bjk;rw[e];rfl
def Atz (w:Bo):List Int:=((List.range w.fL.length).map (fun(i:Nat)=>(i:Int))).filter (Ayb w.fL)
theorem Bei{w:Bo}{x:Int}:x∈Atz w ↔ (0<=x/\x<(w.fL.length:Int))/\Ayb w.fL x=true:=by
 unfold Atz;rw[List.mem_filter,Gh];refine and_congr ⟨?_,?_⟩ Iff.rfl
 ·grind
 ·intro h;exact⟨x.toNat,by rw[List.mem_range];omega,by omega⟩
def chk (w:Bo)(x:Int):Int:=((gt w.fL x).Ad.length:Int)
def cIn (w:Bo):Int:=((Atz w).map (chk w)).sum
section
variable {M:Type} (op:M->M->M) (e:M) (g:Int->M) (w:Bo)
end
section
variable {M:Type} {op:M->M->M} {e:M} {g:Int->M} {w:Bo}
end
def A9i (l:List Az)(i:Nat):List Int:=((List.range i).map (fun(i:Nat)=>(i:Int))).filter (Ayb l)
theorem Bh0 (l:List Az)(i:Nat):A9i l (i+1)=A9i l i++(if Ayb l (i:Int)=true then [(i:Int)]else []):=by
 unfold A9i;rw[List.range_succ,Yy,List.filter_append]
 grind
theorem Bc4 (l:List Az)(i:Nat):(A9i l i).length<=i:=by
 unfold A9i;refine S5 (List.length_filter_le _ _) ?_;simp
theorem Bu9 (w:Bo):Atz w=A9i w.fL w.fL.length:=rfl
section
variable {K:Nat} (hK:281474976710656<=K)
include hK
end
theorem A8e{w:Bo}(I:Inv w){k:Int}(hk:0<=k/\k<(w.fL.length:Int)):((gt w.fL k).Ad.length:Int)=((Avd w.fP k).length:Int):=by
 have:=I.chunks hk;unfold A5b at this;rw[Z4,beq_iff_eq]at this;have:=this.2;omega
section
variable {K:Nat} (hK:281474976710656<=K)
include hK
theorem A7h{w:Bo}(hw:Ark w)(h8:w.fL.length<=1000):Az5 K w=some (Atz w):=by
 have hm:=K1;have key: ∀(f i:Nat),i<=w.fL.length->w.fL.length - i<f->Avz K f (A9i w.fL i) (w.fL.length:Int) (i:Int) w.fC.Ad w.fC.Du w.fC.Cd w.fC.Ez w.fC.Ce w.fC.Dv w.fP.Fp w.fP.G4 w.fP.Fq w.fL w.fQ w.Jp=some (Atz w):=by
  intro f;induction f with
  |zero=>omega
  |succ f ih=>
   intro i hi hf;have hl:=Bc4 w.fL i;rw[Avz];rcases Hi i w.fL.length with h|h
   ·rw[Acn h,cond_true,Bgq hK hw.l];simp only[Z0];have hs:=Bh0 w.fL i;cases e:Ayb w.fL (i:Int)with
    |false=>
     rw[e,if_neg (by decide),List.append_nil]at hs;simp only[cond_false]
     grind [Aya,Acm]
    |true=>
     rw[e,if_pos rfl]at hs;simp only[cond_true];rw[if_pos ⟨by grind,by grind⟩]
     grind [Aya,Acm]
   ·obtain rfl:i=w.fL.length:=by omega
    rw[Avr (Z9 _)];rfl
 exact key K 0 (Z21 _) (by omega)
end
section
variable {K:Nat} (hK:281474976710656<=K)
include hK
theorem B02{α:Type}(l:List α)(hl:l.length<=140737488355328)(L:Nat->Int->Option Bool)
  (hs: ∀n (i:Nat) (h:i<l.length),L (n+1) (i:Int)=L n ((i+1:Nat):Int)) (he: ∀n,L (n+1) (l.length:Int)=some true):L K 0=some true:=by
 rw[Axc hK l hl (fun _=>true) (some true) L (fun n i h=>by grind) he,Z1.2 (fun _ _=>rfl)];rfl
theorem Bc5 (l:List Int)(hl:l.length<=140737488355327):A53 K l l=some true:=by
 unfold A53;simp only[bne_self_eq_false,cond_false];exact Bqw l (by omega) (A38 K l l) (fun n i=>rfl) K 0 (Z21 _) (by omega)
theorem A00 (l:List Int)(hl:l.length<=140737488355327):Akl K l l=some true:=by
 unfold Akl;simp only[bne_self_eq_false,cond_false];exact Bqw l (by omega) (Azj K l l) (fun n i=>rfl) K 0 (Z21 _) (by omega)
theorem Bdr{p:Ef}(h:A01 p):A18 K p p=some true:=by
 unfold A18;rw[Bc5 hK _ h.mem.2,Z0,cond_true,A00 hK _ (A3n hK h.st),Z0,cond_true,A00 hK _ (A3n hK h.own)];rfl
theorem Bds{n:Az}(h:At6 n):A19 K n n=some true:=by
 have h2:=h.things.2;unfold A19;simp only[bne_self_eq_false,cond_false];rw[A00 hK _ (A3n hK h.chunks),Z0,cond_true,A00 hK _ (A3n hK h.tags),Z0,Bool.not_true,cond_false];refine B02 hK n.D5 (by omega) (fun m i=>Au1 K m i n.G4 n.C7 n.Nb n.fUp n.G5 n.Bz n.G6 n.G7 n.Ad n.No n.G8 n.D5 n.Dh n.G4 n.C7 n.Nb n.fUp n.G5 n.Bz n.G6 n.G7 n.Ad n.No n.G8 n.D5 n.Dh) (fun m i hi=> ?_) (fun m=> ?_)
 ·simp only[Au1];rw[Acn hi,cond_true,if_pos (Akv hi),if_pos (Akv hi),Acm (by omega)];simp
 simp_all[Au1]
theorem Bc6{l:List Az}(h:Aeh l):A0u K l l=some true:=by
 have h2:=h.2;unfold A0u;simp only[bne_self_eq_false,cond_false];refine B02 hK l (by omega) (Aui K l l) (fun m i hi=> ?_) (fun m=> ?_)
 ·rw[Aui,Acn hi,cond_true,if_pos (Akv hi),if_pos (Akv hi),Bds hK (h.1 _ (Aqd hi)),Z0,Bool.not_true,cond_false,Acm (by omega)]
 simp_all[Aui]
theorem Bc7{x:Bb}(h:A03 x):A0v K x x=some true:=by
 unfold A0v;simp only[beq_self_eq_true,cond_true];rw[A00 hK _ (A3n hK h.tags),Z0,cond_true,A00 hK _ (A3n hK h.chunks)];rfl
theorem A8f{w:Bo}(h:Ark w):Ax8 K w w=some true:=by
 have h2:=h.q.2;unfold Ax8;simp only[beq_self_eq_true,Bool.and_self,Bool.not_true,cond_false];rw[Bdr hK h.p,Z0,cond_true,Bc6 hK h.l,Z0,cond_true];simp only[bne_self_eq_false,cond_false];rw[A00 hK _ (A3n hK h.log),Z0,Bool.not_true,cond_false];refine B02 hK w.fQ (by omega) (fun m i=>Auj K m i w.fC.Ad w.fC.Du w.fC.Cd w.fC.Ez w.fC.Ce w.fC.Dv w.fP.Fp w.fP.G4 w.fP.Fq w.fL w.fQ w.Jp w.fC.Ad w.fC.Du w.fC.Cd w.fC.Ez w.fC.Ce w.fC.Dv w.fP.Fp w.fP.G4 w.fP.Fq w.fL w.fQ w.Jp) (fun m i hi=> ?_) (fun m=> ?_)
 ·simp only[Auj];rw[Acn hi,cond_true,if_pos (Akv hi),if_pos (Akv hi),Bc7 hK (h.q.1 _ (Aqd hi)),Z0,Bool.not_true,cond_false,Acm (by omega)]
 simp_all[Auj]
end
instance:DecidablePred wfi:=fun x=>inferInstanceAs (Decidable (_/\_))
theorem A1j (n:Int):wfi (IntKind.i64.wrap n):=by rw[IntKind.wrap_i64];exact⟨by omega,by omega⟩
def OkP{α:Type}(x:Option (α×E2))(P:α->Prop):Prop:= ∃a c,x=some (a,c)/\P a/\Aht c
theorem okp{α:Type}{a:α}{c:E2}{P:α->Prop}(h:P a)(hc:Aht c):OkP (some (a,c)) P:=⟨_,_,rfl,h,hc⟩
theorem OkP.mono{α:Type}{x:Option (α×E2)}{P Q:α->Prop}(h:OkP x P)(k: ∀a,P a->Q a):OkP x Q:=by
 obtain⟨a,c,e,p,hc⟩:=h;exact⟨a,c,e,k a p,hc⟩
theorem Adz{α β:Type}{x:Option (α×E2)}{f:α×E2->Option (β×E2)}{P:α->Prop}{Q:β->Prop}(h:OkP x P)(k: ∀a c,P a->Aht c->OkP (f (a,c)) Q):OkP (x.bind f) Q:=by
 obtain⟨a,c,e,p,hc⟩:=h
 grind
theorem Awa{α:Type}{p:Prop}[Decidable p]{x:Option (α×E2)}{Q:α->Prop}(h:p)(k:OkP x Q):OkP (if p then x else none) Q:=by grind
theorem Asd{α:Type}{b:Bool}{x y:Option (α×E2)}{Q:α->Prop}(k:b=true->OkP x Q)(l:b=false->OkP y Q):OkP (bif b then x else y) Q:=by
 grind
theorem Aum (K:Nat){c:E2}(hc:Aht c){n:Int}(hn:0<n):OkP (A4 K c n) fun x=>0<=x/\x<n:=by
 obtain⟨r,e,b,w⟩:=Ahw K hc hn;exact⟨_,_,e,b,w⟩
theorem A8g{β:Type}(K:Nat){c:E2}{l:List Int}{f:Int×E2×List Int->Option (β×E2)}{Q:β->Prop}(hc:Aht c)(hl:0<l.length)(k: ∀x c,x∈l->Aht c->OkP (f (x,c,l)) Q):OkP ((V1 K c l).bind f) Q:=by
 obtain⟨x,c',e,m,w⟩:=A4h K hc hl
 grind
theorem Bsh (K:Nat){c:E2}(hc:Aht c):OkP (A45 K c) ConfW:=by
 unfold A45 Ate;obtain⟨x,c1,e,hx,w⟩:=Bef K hc;have W:=Bro hx;rw[e,Z0];dsimp only
 repeat' (first|refine A8g _ (by assumption) (by decide) (fun x c hx hc=>Awa rfl ?_)|refine Adz (Aum _ (by assumption) (by omega)) (fun x c hx hc=> ?_)|refine Asd (fun _=> ?_) (fun _=> ?_))
 all_goals refine okp ?_ (by assumption)
 ·exact⟨(by decide: ∀y∈([1,2,12,13]:List Int),wfi y) _ ‹_›,W.size,W.slots,W.tax,W.slice,W.gens⟩
 ·exact⟨W.chunks,(by decide: ∀y∈([7,8,16,17]:List Int),wfi y) _ ‹_›,W.slots,W.tax,W.slice,W.gens⟩
 ·exact⟨W.chunks,W.size,(by decide: ∀y∈([1,8,9]:List Int),wfi y) _ ‹_›,W.tax,W.slice,W.gens⟩
 ·exact⟨W.chunks,W.size,W.slots,(by decide: ∀y∈([0,8,9]:List Int),wfi y) _ ‹_›,W.slice,W.gens⟩
 ·exact⟨W.chunks,W.size,W.slots,W.tax,(by decide: ∀y∈([0,17]:List Int),wfi y) _ ‹_›,W.gens⟩
 ·exact⟨W.chunks,W.size,W.slots,W.tax,W.slice,(by decide: ∀y∈([0,5]:List Int),wfi y) _ ‹_›⟩
 ·exact W
theorem Baa{l:List Int}(h:l.length<=1000)(x:Int):(l++[x]).length*8<=140737488355328/\(l++[x]).length<=maxLen:=by
 grind [K1]
theorem Bfw{l:List Bn}(h:l.length<=1000)(x:Bn):(l++[x]).length*24<=140737488355328/\(l++[x]).length<=maxLen:=by
 grind [K1]
theorem A7j{l:List Int}(h:A4c l)(hl:l.length<=1000){x:Int}(hx:wfi x):A4c (l++[x]):=by
 refine⟨fun y hy=> ?_,by grind⟩;rcases N0.1 hy with hy|hy
 ·exact h.1 y hy
 grind
structure SN (m:Nat)(n:Az):Prop where
 w:At6 n
 c:n.Ad.length<=m
 t:n.D5.length<=m
 g:n.Dh.length<=m
theorem SN.tag{m:Nat}{n:Az}(h:SN m n)(hm:m<=1000){x:Int}(hx:wfi x):SN (m+1) (Az.mk n.G4 n.C7 n.Nb n.fUp n.G5 n.Bz n.G6 n.G7 n.Ad n.No n.G8 n.D5 (n.Dh++[x])):=by
 have:=h.c;have:=h.t;have:=h.g;exact⟨{h.w with tags:=A7j h.w.tags (by omega) hx},Nat.le_succ_of_le h.c,Nat.le_succ_of_le h.t,by grind⟩
theorem SN.chunk{m:Nat}{n:Az}(h:SN m n)(hm:m<=1000){x:Int}(hx:wfi x):SN (m+1) (Az.mk n.G4 n.C7 n.Nb n.fUp n.G5 n.Bz n.G6 n.G7 (n.Ad++[x]) n.No n.G8 n.D5 n.Dh):=by
 have:=h.c;have:=h.t;have:=h.g;exact⟨{h.w with chunks:=A7j h.w.chunks (by omega) hx},by grind,Nat.le_succ_of_le h.t,Nat.le_succ_of_le h.g⟩
theorem SN.thing{m:Nat}{n:Az}(h:SN m n)(hm:m<=1000){x:Bn}(hx:ThingW x):SN (m+1) (Az.mk n.G4 n.C7 n.Nb n.fUp n.G5 n.Bz n.G6 n.G7 n.Ad n.No n.G8 (n.D5++[x]) n.Dh):=by
 have:=h.c;have:=h.t;have:=h.g;refine⟨{h.w with things:=⟨fun y hy=> ?_,by grind⟩},Nat.le_succ_of_le h.c,by grind,Nat.le_succ_of_le h.g⟩;rcases N0.1 hy with hy|hy
 ·exact h.w.things.1 y hy
 grind
theorem SN.mono{m k:Nat}{n:Az}(h:SN m n)(hk:m<=k):SN k n:=⟨h.w,S5 h.c hk,S5 h.t hk,S5 h.g hk⟩
theorem sbn{i:Nat}(hi:0<i)(h:i<=1000):Ap (i:Int) 1=((i - 1:Nat):Int):=by grind [sb1]
theorem Bjl (K:Nat){c:E2}(hc:Aht c){x:Fi}(hx:Akj x=true):OkP (A26 K c x) ThingW:=by
 obtain⟨b1,b2,_⟩:=Bd hx;have j: ∀(c:E2) (t:Bn),Aht c->OkP (Axw K x c.fb c.fi c.fh t) ThingW:=by
  intro c t hc;unfold Axw;refine Adz (Aum K hc (by omega)) (fun y1 c1 h1 w1=>Adz (Aum K w1 (by omega)) (fun y2 c2 h2 w2=> ?_));dsimp only at w2 ⊢;have e:Ap x.Du y2=x.Du - y2:=by grind [Ap,Asu,Ht]
  rw[e];refine Adz (Aum K w2 (by omega)) (fun y3 c3 h3 w3=>okp ⟨A1j _,A1j _,Ayc⟩ w3)
 unfold A26;obtain⟨r,e,w⟩:=A2o K hc (n:=4) (by omega);rw[e,Z0];refine Asd (fun _=>Asd (fun h=> ?_) (fun _=>j _ _ w)) (fun _=>j _ _ w);rw[decide_eq_true_eq]at h;rw[show Ap x.Ad 1=x.Ad - 1 from by grind [Ap,Asu,Ht]];exact Adz (Aum K w (by omega)) (fun y1 c1 h1 w1=>Adz (Aum K w1 (by omega)) (fun y2 c2 h2 w2=>okp ⟨A1j _,A1j _,Gx (x:=2) (by decide) (by decide)⟩ w2))
theorem Bsi (K:Nat): ∀(f i m:Nat) (c:E2) (n:Az),i<f->m+i<=50->SN m n->Aht c->OkP (Ayu K f (i:Int) c.fb c.fi c.fh n) (SN 50):=by
 intro f;induction f with
 |zero=>omega
 |succ f ih=>
  intro i m c n hi hm hn hc;have:=hn.g;rw[Ayu];refine Asd (fun h=> ?_) (fun _=>okp (hn.mono (by omega)) hc);rw[decide_eq_true_eq]at h;refine Adz (Aum K hc (by omega)) (fun y c1 hy w1=>Awa (Baa (by omega) _) ?_);rw[sbn (by omega) (by omega)];exact ih (i - 1) (m+1) c1 _ (by omega) (by omega) (hn.tag (by omega) (Gx (by omega) (by omega))) w1
section
variable {K:Nat} (hK:281474976710656<=K)
include hK
theorem Bsj{x:Fi}(hx:Akj x=true): ∀(f i m:Nat) (c:E2) (n:Az),i<f->m+i<=40->SN m n->Aht c->OkP (Ayv K x f (i:Int) c.fb c.fi c.fh n) (SN 50):=by
 intro f;induction f with
 |zero=>omega
 |succ f ih=>
  intro i m c n hi hm hn hc;have:=hn.t;rw[Ayv];refine Asd (fun h=> ?_) (fun _=> ?_)
  ·rw[decide_eq_true_eq]at h;refine Adz (Bjl K hc hx) (fun y c1 hy w1=>Awa (Bfw (by omega) _) ?_);rw[sbn (by omega) (by omega)];exact ih (i - 1) (m+1) c1 _ (by omega) (by omega) (hn.thing (by omega) hy) w1
  ·refine Adz (Aum K hc (by omega)) (fun y c1 hy w1=> ?_);have:=Bsi K K y.toNat 40 c1 n (by omega) (by omega) (hn.mono (by omega)) w1
   grind
theorem Bnb{x:Fi}(hx:Akj x=true)(z:Az): ∀(f i m:Nat) (c:E2) (n:Az),i<f->m+i<=20->SN m n->Aht c->OkP (Ayx K x f (i:Int) c.fb c.fi c.fh n z) (SN 50):=by
 obtain⟨b1,b2,_⟩:=Bd hx;have j: ∀(c:E2) (n:Az),SN 20 n->Aht c->OkP (Ayw K x c.fb c.fi c.fh n) (SN 50):=by
  intro c n hn hc;unfold Ayw;refine Adz (Aum K hc (by omega)) (fun y c1 hy w1=> ?_);have:=Bsj hK hx K y.toNat 20 c1 n (by omega) (by omega) hn w1
  grind
 intro f;induction f with
 |zero=>omega
 |succ f ih=>
  intro i m c n hi hm hn hc;have:=hn.c;rw[Ayx];refine Asd (fun h=> ?_) (fun _=>Asd (fun h=> ?_) (fun _=>j _ _ (hn.mono (by omega)) hc))
  ·rw[decide_eq_true_eq]at h;refine Awa (Baa (by omega) _) ?_;rw[sbn (by omega) (by omega)];exact ih (i - 1) (m+1) c _ (by omega) (by omega) (hn.chunk (by omega) (Gx (by omega) (by omega))) hc
  ·rw[decide_eq_true_eq]at h;refine Awa ⟨by omega,h⟩ ?_;rw[ad1 (x:=x.Du) (by omega) (by omega)];refine Adz (Aum K hc (by omega)) (fun y c1 hy w1=> ?_);exact j c1 _ (SN.mono (m:=m) ⟨{hn.w with cur:=A1j _,bump:=Gx (x:=y) (by omega) (by omega)},hn.c,hn.t,hn.g⟩ (by omega)) w1
theorem Bnc{x:Fi}(hx:Akj x=true){c:E2}(hc:Aht c):OkP (A31 K c x) (SN 50):=by
 obtain⟨b1,b2,b3,b4,b5,b6⟩:=Bd hx;unfold A31 Amp;have s0: ∀a b d:Int,wfi a->wfi b->wfi d->SN 0 (Az.mk a b d 0 0 0 0 0 [] 0 0 [] []):=fun a b d ha hb hd=>⟨⟨ha,hb,hd,Ayc,Ayc,Ayc,Ayc,Ayc,A0z,Ayc,Ayc,A58,A0z⟩,by simp,by simp,by simp⟩
 refine Adz (Aum K hc (by omega)) (fun y1 c1 h1 w1=> ?_);rw[Z0];refine Adz (Aum K w1 (by omega)) (fun y2 c2 h2 w2=>Asd (fun _=>okp ((s0 _ _ _ (Gx (by omega) (by omega)) (A1j _) Ayc).mono (by omega)) w2) (fun _=> ?_));refine Adz (Aum K w2 (by omega)) (fun y3 c3 h3 w3=>Adz (Aum K w3 (by omega)) (fun y4 c4 h4 w4=> ?_));have:=Bnb hK hx (Az.mk 0 0 0 0 0 0 0 0 [] 0 0 [] []) K y4.toNat 10 c4 _ (by omega) (by omega) ((s0 y2 (A1 1 y1) y3 (Gx (by omega) (by omega)) (A1j _) (Gx (by omega) (by omega))).mono (by omega)) w4
 grind
end
theorem Bej (a b d:Int)(ha:wfi a)(hb:wfi b)(hd:wfi d):ThingW (Bn.mk a b d):=⟨ha,hb,hd⟩
structure DP (c:Fi)(n:Az):Prop where
 l:Avt c n
 t:ThP c [] n
 e:EpP 1 n
theorem DP.w{c:Fi}{n:Az}(h:DP c n):At6 n:=A7d (Akp.2 h.l).1 h.e (by omega)
theorem Bva{c:Fi}{n:Az}(L:Avt c n)(e:EpP 1 n):SN 40 n:=⟨A7d (Akp.2 L).1 e (by omega),by have:=Aw0 L.conf L.dist;omega,by have:=L.nth;omega,by have:=L.ntag;omega⟩
theorem Bjm (K:Nat): ∀(f i m:Nat) (c:E2) (n:Az),i<f->m+i<=50->SN m n->Aht c->OkP (Axx K f (i:Int) c.fb c.fi c.fh n) (SN 50):=by
 intro f;induction f with
 |zero=>omega
 |succ f ih=>
  intro i m c n hi hm hn hc;have:=hn.g;rw[Axx];refine Asd (fun h=> ?_) (fun _=>okp (hn.mono (by omega)) hc);rw[decide_eq_true_eq]at h;refine Adz (Aum K hc (by omega)) (fun y c1 hy w1=>Awa (Baa (by omega) _) ?_);rw[sbn (by omega) (by omega)];exact ih (i - 1) (m+1) c1 _ (by omega) (by omega) (hn.tag (by omega) (Gx (by omega) (by omega))) w1
section
variable {K:Nat} (hK:281474976710656<=K)
include hK
theorem Bsk{x:Fi}(hx:Akj x=true){c:E2}(hc:Aht c):OkP (A46 K c x) (SN 60):=by
 unfold A46 Amx;refine Adz (Bnc hK hx hc) (fun n c1 hn w=> ?_);have:=hn.c;have:=hn.t;have:=hn.g;have W:=hn.w;have M:=hn.mono (k:=60) (by omega)
 repeat' (first|refine A8g _ (by assumption) (by decide) (fun x c hx hc=>Awa rfl ?_)|refine Adz (Aum _ (by assumption) (by omega)) (fun x c hx hc=> ?_)|refine Asd (fun _=> ?_) (fun _=> ?_))
 ·exact okp ⟨{W with st:=A1j _},M.c,M.t,M.g⟩ (by assumption)
 ·exact okp ⟨{W with gen:=(by decide: ∀y∈([0,4,5]:List Int),wfi y) _ ‹_›},M.c,M.t,M.g⟩ (by assumption)
 ·exact okp ⟨{W with up:=(by decide: ∀y∈([-1,1,8,9]:List Int),wfi y) _ ‹_›},M.c,M.t,M.g⟩ (by assumption)
 ·exact Awa (Baa (show n.Ad.length<=_ by omega) _) (okp ((hn.chunk (by omega) ((by decide: ∀y∈([0,12,-1]:List Int),wfi y) _ ‹_›)).mono (by omega)) (by assumption))
 ·exact okp ⟨{W with cur:=Gx (x:= ‹Int›) (by omega) (by omega)},M.c,M.t,M.g⟩ (by assumption)
 ·exact okp ⟨{W with bump:=(by decide: ∀y∈([0,8,17,-1]:List Int),wfi y) _ ‹_›},M.c,M.t,M.g⟩ (by assumption)
 ·exact Awa (Baa (show n.Dh.length<=_ by omega) _) (okp ((hn.tag (by omega) ((by decide: ∀y∈([255,256,-1]:List Int),wfi y) _ ‹_›)).mono (by omega)) (by assumption))
 ·refine Awa (Bfw (show n.D5.length<=_ by omega) _) (okp ((hn.thing (by omega) (Bej _ _ _ ?_ ?_ ?_)).mono (by omega)) (by assumption))
  all_goals grind [Gx]
 simp_all[okp]
theorem Bfx{c:Fi}{n:Az}(L:Avt c n)(e:EpP 1 n): ∃n' b,Au8 K c n 2 (A1 c.Du 1)=some (n',b)/\SN 40 n':=by
 have hm:=K1;obtain⟨b1,b2,_⟩:=Bd L.conf;have S:=Bva L e;have W:=S.w;have h1:=Aw0 L.conf L.dist;have h3:=L.nth;have h4:=L.ntag;have q1:2*c.Du<=c.Ad*c.Du:=Int.mul_le_mul_of_nonneg_right (by omega) (by omega);have hby:Ao0 c=c.Ad*c.Du:=by unfold Ao0;rw[L.conf];rfl
 have done: ∃n' b,some (n,false)=some (n',b)/\SN 40 n':=⟨_,_,rfl,S⟩;unfold Au8 Asl Ao7;rw[ad1 (x:=c.Du) (by omega) (by omega),Aw1 K W,Z0,Avs,L.conf];simp only[Z0,cond_true];rw[show(n.G4 != 1)=false by rw[L.st];rfl,cond_false,decide_eq_true (by omega),cond_true,Ayl,Z0,decide_eq_false (by omega),cond_false,Amo,A0x hK L.conf];simp only[Z0];cases q:inB 2 0 (c.Ad - 1)with
 |false=>exact done
 |true=>
 simp only[Bool.not_true,cond_false];have hr:Ayd (c.Du+1) c.Du=2:=by
  unfold Ayd;rw[Wy.2 ⟨by omega,by omega⟩,Wy.2 ⟨by omega,by omega⟩];show(c.Du+1+c.Du - 1) / c.Du=2;rw[show c.Du+1+c.Du - 1=c.Du*2 by omega,Int.mul_ediv_cancel_left _ (by omega)]
 rw[A5a,Z0,hr,Z0];obtain⟨k,rfl⟩: ∃k,K=k+3:=⟨K - 3,by omega⟩;have e3: ∀i:Nat,i<=2->A1 2 (i:Int)=2+i:=fun i hi=>by grind [A1,Lc,Ht]
 have s1:=Baa (l:=n.Ad) (by omega) (A1 2 0);have s2:=Baa (l:=n.Ad++[A1 2 0]) (by grind) (A1 2 (A1 0 1));have s3:=Bfw (l:=n.D5) (by omega) (Bn.mk (P2 2 c.Du) (c.Du+1) 2);rw[Api,show decide ((0:Int)<2)=true from rfl,cond_true];rw[if_pos s1,Api,show decide (A1 0 1<2)=true from rfl,cond_true];simp only;rw[if_pos s2,Api,show decide (A1 (A1 0 1) 1<2)=false from rfl,cond_false];simp only;rw[if_pos s3,Az6 hK c (Az.mk n.G4 n.C7 n.Nb n.fUp n.G5 n.Bz n.G6 n.G7 (n.Ad++[A1 2 0]++[A1 2 (A1 0 1)]) n.No n.G8 (n.D5++[Bn.mk (P2 2 c.Du) (c.Du+1) 2]) n.Dh) (by grind) (by grind) (show n.Dh.length<=_ by omega),Z0];cases q3:Avg c (Az.mk n.G4 n.C7 n.Nb n.fUp n.G5 n.Bz n.G6 n.G7 (n.Ad++[A1 2 0]++[A1 2 (A1 0 1)]) n.No n.G8 (n.D5++[Bn.mk (P2 2 c.Du) (c.Du+1) 2]) n.Dh)with
 |false=>
  simp_all[Aw1]
 |true=>
  exact⟨_,_,rfl,Bva (Akp.1 ⟨q3,L.st⟩) ⟨e.ep,e.ue,e.cur⟩⟩
theorem Bjn{x:Fi}(hx:Akj x=true)(z:Az): ∀(f i:Nat) (c:E2) (n:Az),i<f->i<=20->DP x n->Aht c->OkP (Axz K x f (i:Int) c.fb c.fi c.fh n z) (SN 50):=by
 obtain⟨b1,b2,_⟩:=Bd hx;have j: ∀(c:E2) (n:Az),SN 40 n->Aht c->OkP (Axy K c.fb c.fi c.fh n) (SN 50):=by
  intro c n hn hc;unfold Axy;refine Adz (Aum K hc (by omega)) (fun y c1 hy w1=> ?_);have:=Bjm K K y.toNat 40 c1 n (by omega) (by omega) hn w1
  grind
 intro f;induction f with
 |zero=>omega
 |succ f ih=>
  intro i c n hi hm hn hc;rw[Axz];refine Asd (fun h=> ?_) (fun _=> ?_)
  ·rw[decide_eq_true_eq]at h;refine Adz (Aum K hc (by omega)) (fun y c1 hy w1=>A8g K w1 (by decide) (fun a c2 ha w2=>Awa rfl ?_));have e:A1 1 y=1+y:=by grind [A1,Lc,Ht]
   obtain⟨n',b,e2,h2⟩:=Ba5 hK hn.l hn.w hn.e.cur (1+y) a ⟨by omega,by omega⟩;dsimp only;rw[e,e2,Z0,sbn (by omega) (by omega)];have h3:DP x n':=by
    rcases h2 with rfl|⟨off,hs,rfl⟩
    ·exact hn
    ·obtain⟨l1,l2⟩:=Bhn hn.l hn.e.cur hn.t hs;exact⟨l1,l2,⟨hn.e.ep,hn.e.ue,hn.e.cur⟩⟩
   grind
  ·obtain⟨r,e,w⟩:=A2o K hc (n:=3) (by omega);rw[show E2.mk c.fb c.fi c.fh=c from rfl,e,Z0];refine Asd (fun _=> ?_) (fun _=>j _ _ (Bva hn.l hn.e) w);obtain⟨n',b,e2,h2⟩:=Bfx hK hn.l hn.e
   grind
theorem Bjo{x:Fi}(hx:Akj x=true){c:E2}(hc:Aht c):OkP (A27 K c x) (SN 50):=by
 obtain⟨b1,b2,b3,b4,b5,b6⟩:=Bd hx;unfold A27 Amp;refine Adz (Aum K hc (by omega)) (fun y1 c1 h1 w1=> ?_);rw[Z0];refine Adz (Aum K w1 (by omega)) (fun y2 c2 h2 w2=>Adz (Aum K w2 (by omega)) (fun y3 c3 h3 w3=> ?_));dsimp only;have e:A1 1 y1=1+y1:=by grind [A1,Lc,Ht]
 rw[e];have L:Avt x (Az.mk 1 (1+y1) y2 0 0 0 0 0 [] 0 0 [] []):=⟨hx,rfl,⟨by grind,by grind⟩,⟨by grind,by grind⟩,⟨by grind,by grind⟩,⟨by grind,by grind⟩,⟨by grind,by grind⟩,h2.1,by grind,rfl,rfl,by simp,by simp,rfl,rfl⟩;have E:EpP 1 (Az.mk 1 (1+y1) y2 0 0 0 0 0 [] 0 0 [] []):=⟨by grind,by grind,by grind,by grind⟩;have L2:=Baj L (k:=y3) ⟨by omega,by omega⟩ (by simp);rw[Bak hK L (Bva L E).w ⟨by omega,by omega⟩ (by simp),Z0];have D:DP x (A8t (Az.mk 1 (1+y1) y2 0 0 0 0 0 [] 0 0 [] []) y3):=⟨L2,⟨rfl,rfl,by simp[Awd,A8t,Arz]⟩,⟨E.ep,E.ue,by show 0<=y3+1;omega,by show y3+1<=1000;omega⟩⟩;refine Adz (Aum K w3 (by omega)) (fun y4 c4 h4 w4=> ?_);have:=Bjn hK hx (Az.mk 0 0 0 0 0 0 0 0 [] 0 0 [] []) K y4.toNat c4 _ (by omega) (by omega) D w4;rw[Int.toNat_of_nonneg (by omega)]at this;exact this
structure SW (m:Nat)(x:Bb):Prop where
 w:A03 x
 g:x.Dh.length<=m
 c:x.Ad.length<=m
theorem Bnd{x:Fi}(hx:Akj x=true){c:E2}(hc:Aht c):OkP (A32 K c x) (SW 60):=by
 obtain⟨b1,b2,b3,b4,b5,b6⟩:=Bd hx;have j: ∀(c:E2) (a z:Bb),SW 50 a->Aht c->OkP (Ax0 K c.fb c.fi c.fh a z) (SW 50):=by
  intro c a z ha hc;unfold Ax0 A0q;obtain⟨r,e,w⟩:=A2o K hc (n:=4) (by omega);rw[show E2.mk c.fb c.fi c.fh=c from rfl,e,Z0];exact Asd (fun _=>okp ⟨⟨ha.w.slot,ha.w.first,A0z,A0z,Ayc⟩,by simp,by simp⟩ w) (fun _=>okp ha w)
 have d:OkP (A28 K c x) (SW 50):=by
  unfold A28;refine Adz (Bjo hK hx hc) (fun n c1 hn w1=> ?_);dsimp only;rw[ad1 (x:=x.Cd) (by omega) (by omega)];refine Adz (Aum K w1 (by omega)) (fun y2 c2 h2 w2=> ?_);dsimp only;rw[A67 K hn.w,Z0];have W:=Bce hn.w (s:=y2) (Gx (by omega) (by omega));refine Adz (Aum K w2 (by omega)) (fun y3 c3 h3 w3=> ?_);have hf:wfi y3:=Gx (by omega) (by omega);refine Asd (fun _=>Adz (Aum K w3 (by omega)) (fun y4 c4 h4 w4=> ?_)) (fun _=>j _ _ _ ⟨⟨W.slot,hf,W.tags,W.chunks,Ayc⟩,hn.g,hn.c⟩ w3);exact j _ _ _ ⟨⟨W.slot,hf,W.tags,W.chunks,Gx (x:=y4) (by omega) (by omega)⟩,hn.g,hn.c⟩ w4
 unfold A32 At3;refine Adz d (fun a c1 ha w=> ?_);have h1:=ha.g;have h2:=ha.c;have W:=ha.w
 repeat' (first|refine A8g _ (by assumption) (by decide) (fun x c hx hc=>Awa rfl ?_)|refine Adz (Aum _ (by assumption) (by omega)) (fun x c hx hc=> ?_)|refine Asd (fun _=> ?_) (fun _=> ?_))
 ·exact okp ⟨{W with slot:=(by decide: ∀y∈([-1,0,8,9]:List Int),wfi y) _ ‹_›},show a.Dh.length<=60 by omega,show a.Ad.length<=60 by omega⟩ (by assumption)
 ·exact okp ⟨{W with first:=(by decide: ∀y∈([-1,9,0]:List Int),wfi y) _ ‹_›},show a.Dh.length<=60 by omega,show a.Ad.length<=60 by omega⟩ (by assumption)
 ·exact okp ⟨{W with done:=(by decide: ∀y∈([-1,0,8,16]:List Int),wfi y) _ ‹_›},show a.Dh.length<=60 by omega,show a.Ad.length<=60 by omega⟩ (by assumption)
 ·exact Awa (Baa (show a.Dh.length<=_ by omega) _) (okp ⟨{W with tags:=A7j W.tags (by omega) ((by decide: ∀y∈([-1,255,256]:List Int),wfi y) _ ‹_›)},by grind,show a.Ad.length<=60 by omega⟩ (by assumption))
 ·exact Awa (Baa (show a.Ad.length<=_ by omega) _) (okp ⟨{W with chunks:=A7j W.chunks (by omega) ((by decide: ∀y∈([-1,0,12]:List Int),wfi y) _ ‹_›)},show a.Dh.length<=60 by omega,by grind⟩ (by assumption))
 ·exact okp ⟨W,show a.Dh.length<=60 by omega,show a.Ad.length<=60 by omega⟩ (by assumption)
end
structure AnyP (w:Bo):Prop where
 ww:Ark w
 l:w.fL.length<=8
 s:w.fP.G4.length<=12/\w.fP.Fq.length<=12/\w.fP.Fp.length<=192
 q:w.fQ.length<=40000
 g:w.Jp.length<=40000
 n: ∀x∈w.fL,SN 80 x
theorem Bfy{l:List Bb}(h:Bbg l)(hl:l.length<=100000){x:Bb}(hx:A03 x):Bbg (l++[x]):=by
 refine⟨fun y hy=> ?_,by grind⟩;rcases N0.1 hy with hy|hy
 ·exact h.1 y hy
 grind
theorem A5g{α:Type}{l:List α}{P:α->Prop}(h: ∀x∈l,P x)(i:Nat){x:α}(hx:P x): ∀y∈l.set i x,P y:=by
 grind
theorem AnyP.node{w:Bo}(h:AnyP w)(i:Nat){x:Az}(hx:SN 80 x):AnyP (Bo.mk w.fC w.fP (w.fL.set i x) w.fQ w.Jp):=
 ⟨{h.ww with l:=A5t h.ww.l i hx.w},by show(w.fL.set i x).length<=8;grind [l],h.s,h.q,h.g,A5g h.n i hx⟩
section
variable {K:Nat} (hK:281474976710656<=K)
include hK
theorem Bne{c:E2}(hc:Aht c){most:Int}(hm:0<most/\most<=1000):OkP (A33 K c most) AnyP:=by
 obtain⟨x,l,w,c',E,n,e,G,hE,hn,hwc,hx,_,_,w1⟩:=run_ok hK hc hm;have W:=G.ww (by omega) (by omega);have I:=G.inv;have hlen:=I.len;obtain⟨b1,b2,b3,b4,b5,b6⟩:=Bd I.conf;have P:=Ahr.1 I.pool;have h1:=Bmx w;have h2:=Bco w;have h3:=G.wt;have p1:=P.st;have p2:=P.own;have p3:=P.mem;have hmm:=Azl (a:=w.fC.Ad) (b:=w.fC.Du) (m:=12) (n:=16) (by omega) b1.2 (by omega) b2.2;have hm0:0<w.fC.Ad*w.fC.Du:=Int.mul_pos (by omega) (by omega);have N: ∀y∈w.fL,SN 12 y:=A78 fun k hk=>by
  have hb:=I.node k hk;have hy:=A7d hb (G.ep k hk) (by omega);by_cases s:(gt w.fL k).G4=1
  ·have X:=Akp.1 ⟨hb,s⟩;have:=X.nth;have:=X.ntag;have:=Aw0 X.conf X.dist;exact⟨hy,by omega,by omega,by omega⟩
  ·rw[A2d hb s]at hy ⊢;exact⟨hy,by simp[Ar1],by simp[Ar1],by simp[Ar1]⟩
 have A:AnyP w:=⟨W,by omega,by omega,by omega,by omega,fun y hy=>(N y hy).mono (by omega)⟩;unfold A33 Ayt;rw[e,Z0,Z0];refine Adz (Aum K w1 (by grind)) (fun k c2 hk w2=>Adz (Aum K w2 (by omega)) (fun d c3 hd w3=> ?_));dsimp only at hk ⊢;have hg:=Akk hk.1 hk.2;have S:=N _ hg;have SW':=S.w;have St:=S.t;have M:=S.mono (k:=80) (by omega);unfold Aaj;refine Asd (fun _=>Adz (Bsh K w3) (fun y c4 hy w4=>okp ⟨{W with c:=hy},A.l,A.s,A.q,A.g,A.n⟩ w4)) (fun _=> ?_);refine Asd (fun _=>Adz (Aum K w3 (by omega)) (fun y c4 hy w4=>Adz (Aum K w4 (by omega)) (fun z c5 hz w5=>Awa hy (okp ⟨{W with p:={W.p with st:=⟨A5g W.p.st.1 _ (Gx (x:=z) (by omega) (by omega)),by grind⟩}},A.l,by grind,A.q,A.g,A.n⟩ w5)))) (fun _=> ?_);refine Asd (fun _=>Adz (Aum K w3 (by omega)) (fun y c4 hy w4=>Awa hy (okp ⟨{W with p:={W.p with mem:=⟨A5g W.p.mem.1 _ ⟨by decide,by decide⟩,by grind⟩}},A.l,by grind,A.q,A.g,A.n⟩ w4))) (fun _=> ?_);refine Asd (fun _=>Adz (Bsk hK I.conf w3) (fun y c4 hy w4=>Awa hk (okp (A.node _ (hy.mono (by omega))) w4))) (fun _=> ?_);refine Asd (fun _=>Adz (Aum K w3 (by omega)) (fun y c4 hy w4=>Awa hk (okp (A.node _ ⟨{SW' with st:=Gx (x:=y) (by omega) (by omega)},M.c,M.t,M.g⟩) w4))) (fun _=> ?_);refine Asd (fun _=>Adz (Aum K w3 (by omega)) (fun y c4 hy w4=>Awa hk (okp (A.node _ ⟨{SW' with up:=Gx (x:=y) (by omega) (by omega)},M.c,M.t,M.g⟩) w4))) (fun _=> ?_);refine Asd (fun _=>Awa hk (Awa hk (okp (A.node _ ⟨{SW' with ep:=A1j _},M.c,M.t,M.g⟩) w3))) (fun _=> ?_);refine Asd (fun _=>Adz (Bnd hK I.conf w3) (fun y c4 hy w4=>Awa ?_ (okp ⟨{W with q:=Bfy W.q (by omega) hy.w},A.l,A.s,by grind,A.g,A.n⟩ w4))) (fun _=> ?_)
 ·grind [K1]
 refine Asd (fun _=>Asd (fun h=> ?_) (fun _=>okp A w3)) (fun _=> ?_)
 ·rw[decide_eq_true_eq]at h;refine Awa ⟨by omega,by omega,by omega⟩ (okp ⟨{W with q:=⟨fun y hy=>W.q.1 y (List.mem_of_mem_drop (Z42 hy)),by grind⟩},A.l,A.s,by grind,A.g,A.n⟩ w3)
 refine Asd (fun _=>A8g K w3 (by decide) (fun y c4 hy w4=>Awa rfl (Awa ?_ (okp ⟨{W with log:=⟨fun z hz=> ?_,by grind⟩},A.l,A.s,A.q,by grind,A.n⟩ w4)))) (fun _=> ?_)
 ·grind [K1]
 ·rcases N0.1 hz with hz|hz
  ·exact W.log.1 z hz
  ·rw[S9.1 hz];exact(by decide: ∀y∈([0,255,256,-1]:List Int),wfi y) _ hy
 refine Asd (fun _=>Awa hk (Awa hk (Adz (Aum K w3 (by omega)) (fun y c4 hy w4=>Awa (Bfw (by omega) _) (Awa hk (okp (A.node _ ((S.thing (by omega) (Bej _ _ _ (Gx (x:=y) (by omega) (by omega)) (Gx (by decide) (by decide)) Ayc)).mono (by omega))) w4)))))) (fun _=> ?_);refine Asd (fun _=>Adz (Aum K w3 (by omega)) (fun y c4 hy w4=>Awa hk (okp (A.node _ ⟨{SW' with next:=Gx (x:=y) (by omega) (by omega)},M.c,M.t,M.g⟩) w4))) (fun _=> ?_);refine Asd (fun _=>Asd (fun h=> ?_) (fun _=>okp A w3)) (fun _=>okp A w3);rw[decide_eq_true_eq]at h;refine Adz (Aum K w3 (by omega)) (fun y c4 hy w4=>Awa ⟨by omega,h⟩ (okp ⟨{W with q:=⟨A5g W.q.1 _ {W.q.1 _ (Akk (i:=0) (by omega) h)with done:=Gx (x:=y) (by omega) (by omega)},by grind⟩},A.l,A.s,by grind,A.g,A.n⟩ w4))
end
theorem Bjp{w:Bo}(h:A4o w=true):A6d w.fC w.fP:=by
 unfold A4o at h;rw[Z4]at h;exact Ahr.1 h.1
section
variable {K:Nat} (hK:281474976710656<=K)
include hK
end
section
variable {K:Nat} (hK:281474976710656<=K)
include hK
end
section
variable {K:Nat} (hK:281474976710656<=K)
include hK
end
theorem adG{a b:Int}(h0: -1000000000<=a+b)(h1:a+b<=1000000000):A1 a b=a+b:=by unfold A1 Lc;rw[Ht (by omega) (by omega)]
theorem sbG{a b:Int}(h0: -1000000000<=a - b)(h1:a - b<=1000000000):Ap a b=a - b:=by unfold Ap Asu;rw[Ht (by omega) (by omega)]
def wto (c:Fi)(d:Int):Int:=if c.Du<d+c.Ce then c.Du else d+c.Ce
def A8u (c:Fi)(p:Ef)(k d:Int):List Int:=A1h p.Fp (k*c.Du+d).toNat (wto c d - d).toNat
def A8h (c:Fi)(p:Ef)(k d:Int):Ef×Bool:=
 bif Aw7 c p&&(inB k 0 (c.Ad - 1)&&(gt p.G4 k==2&&inB d 0 (c.Du - 1)))then
  (if wto c d<c.Du then(Ef.mk (A8u c p k d) p.G4 p.Fq,false)
   else bif Arz (((A8u c p k d).drop (k*c.Du).toNat).take c.Du.toNat)then(Ef.mk (A8u c p k d) (p.G4.set k.toNat 0) p.Fq,true)else(p,false))
 else(p,false)
section
variable {K:Nat} (hK:281474976710656<=K)
include hK
theorem Bjq (c:Fi){p:Ef}(hw:A01 p)(k d:Int):Awj K c p k d=some (A8h c p k d):=by
 unfold Awj A8h;rw[A4d K hw,Z0,A7x hK,Z0];cases hp:Aw7 c p with
 |false=>rfl
 |true=>
 have hc:=(Au4 hp).1;have P:=Ahr.1 hp;obtain⟨b1,b2,b3,b4,b5,b6⟩:=Bd hc;rw[A0x hK hc,Amo];simp only[cond_true,Z0,Z30];cases h1:inB k 0 (c.Ad - 1)with
 |false=>rfl
 |true=>
 have hk:=Wy.1 h1;have hst:=P.st;rw[cond_true,if_pos (show 0<=k/\k<(p.G4.length:Int) from⟨hk.1,by omega⟩)];cases h2:(gt p.G4 k==2)with
 |false=>simp only[bne,h2];rfl
 |true=>
 simp only[bne,h2,Bool.not_true,cond_false,Z30];rw[Amo,A6u hc];cases h3:inB d 0 (c.Du - 1)with
 |false=>rfl
 |true=>
 have hd:=Wy.1 h3;have hk2:k<c.Ad:=by omega
 obtain⟨e1,e2,e3,e4⟩:=A4b hc P.mem hk.1 hk2;have hl:p.Fp.length<=192:=A6y P;have es:A1 d c.Ce=d+c.Ce:=adG (by omega) (by omega);have ht:d<=wto c d/\wto c d<=c.Du:=by unfold wto;split<;>omega
 have el:A0i K (d+c.Ce) c.Du=some (wto c d):=by
  unfold A0i wto
  grind
 have ea:A1 (k*c.Du) d=k*c.Du+d:=adG (by omega) (by omega);have en:Ap (wto c d) d=wto c d - d:=sbG (by omega) (by omega);simp only[Z0,Bool.not_true,cond_false,cond_true];rw[es,el,e1,ea,Z0,en,Bd6 hK (by omega) ⟨by omega,by omega⟩ (by omega) (by omega),Z0];show(bif decide (wto c d<c.Du)then _ else _)=_;by_cases q:wto c d<c.Du
 ·rw[decide_eq_true q,if_pos q];rfl
 ·rw[decide_eq_false q,if_neg q,cond_false,e2,if_pos ⟨by omega,by omega,by show _<=((A1h _ _ _).length:Int);rw[Aw2];omega⟩];have et:(k*c.Du+c.Du - k*c.Du).toNat=c.Du.toNat:=by congr 1;omega
  rw[et];show(Avp K ((List.drop (k*c.Du).toNat (A8u c p k d)).take c.Du.toNat)).bind _=_;rw[A4a hK _ (by rw[List.length_take,List.length_drop,show(A8u c p k d).length=p.Fp.length from Aw2 _ _ _];omega),Z0];cases h4:Arz (((A8u c p k d).drop (k*c.Du).toNat).take c.Du.toNat)with
  |false=>rfl
  |true=>simp only[Bool.not_true,cond_false,cond_true];rw[if_pos ⟨hk.1,by omega⟩];rfl
omit hK in
theorem Bsl (mem:List Int){a n:Nat}(h:a+n<=mem.length):A1h mem a n=mem.take a++List.replicate n 0++mem.drop (a+n):=by
 apply List.ext_getElem?;intro j;unfold A1h;rw[Ek];rcases Hi j mem.length with hj|hj
 ·rw[List.getElem?_range hj,Ta];rcases Hi j a with q|q
  ·rw[if_neg (by omega),Z31,Vv (by simp;omega),Z40,if_pos q,V2 hj,Fz hj]
  ·rcases Hi j (a+n)with r|r
   ·rw[if_pos ⟨q,r⟩,Vv (by simp;omega),Nz (by simp;omega),List.getElem?_replicate,if_pos (by simp;omega)]
   ·rw[if_neg (by omega),Nz (by simp;omega),Z50,V2 hj];simp only[Z23,List.length_take,List.length_replicate];rw[show a+n+(j - (min a mem.length+n))=j by omega,Fz hj]
 ·rw[Z58 (by simpa using hj),Z58 (by simp;omega)];rfl
omit hK in
theorem Bsm{mem:List Int}{a d n:Nat}:Arz (((A1h mem (a+d) (n - d)).drop a).take n)=Arz ((mem.drop a).take (min d n)):=by
 rw[Bool.eq_iff_iff,A5u,A5u,Aw2];constructor
 ·intro h j h1 h2 h3;have:=h j h1 (by omega) h3;rw[A5f h3,if_neg (by omega)]at this;exact this
 ·intro h j h1 h2 h3;rw[A5f h3];split
  ·rfl
  ·exact h j h1 (by omega) h3
theorem Bjr (c:Fi){p:Ef}(hw:A01 p)(k d:Int):A16 K c p k d=some (A8h c p k d):=by
 unfold A16 A8h;rw[A6m K hw,Z0,Bar hK,Z0];cases hp:Aw7 c p with
 |false=>rfl
 |true=>
 have hc:=(Au4 hp).1;have P:=Ahr.1 hp;obtain⟨b1,b2,b3,b4,b5,b6⟩:=Bd hc;rw[A0x hK hc,Au3];simp only[cond_true,Z0,Z30];cases h1:inB k 0 (c.Ad - 1)with
 |false=>rfl
 |true=>
 have hk:=Wy.1 h1;have hst:=P.st;rw[cond_true,if_pos (show 0<=k/\k<(p.G4.length:Int) from⟨hk.1,by omega⟩)];cases h2:(gt p.G4 k==2)with
 |false=>simp only[bne,h2];rfl
 |true=>
 simp only[bne,h2,Bool.not_true,cond_false,Z30];rw[Au3,A6u hc];cases h3:inB d 0 (c.Du - 1)with
 |false=>rfl
 |true=>
 have hd:=Wy.1 h3;have hk2:k<c.Ad:=by omega
 obtain⟨e1,e2,e3,e4⟩:=A4b hc P.mem hk.1 hk2;have hl:p.Fp.length<=192:=A6y P;have es:A1 d c.Ce=d+c.Ce:=adG (by omega) (by omega);have ht:d<=wto c d/\wto c d<=c.Du/\d<wto c d:=by unfold wto;split<;>omega
 have em:Ada (d+c.Ce) c.Du=wto c d:=by
  unfold Ada wto;split<;>(try split)<;>omega
 have hj: ∀(v:Bool) (z:Ef),Awy K c k d p v z=some (Ef.mk (A8u c p k d) (bif v then p.G4.set k.toNat 0 else p.G4) p.Fq,v):=by
  intro v z;unfold Awy Azh;rw[e1,e2,es,em,if_pos ⟨by omega,by omega,by omega⟩,if_pos ⟨by omega,by omega,by omega⟩,if_pos (by omega),if_pos ⟨hk.1,by omega⟩];have hm:p.Fp.take (k*c.Du+d).toNat++List.replicate (k*c.Du+wto c d - (k*c.Du+d)).toNat 0++p.Fp.drop ((k*c.Du+d).toNat+(k*c.Du+wto c d - (k*c.Du+d)).toNat)=A8u c p k d:=by
   unfold A8u;rw[show(k*c.Du+wto c d - (k*c.Du+d)).toNat=(wto c d - d).toNat by congr 1;omega,Bsl _ (by omega)]
  rw[hm];cases v<;>rfl
 simp only[Z0,Bool.not_true,cond_false,cond_true,es];by_cases q:wto c d<c.Du
 ·have hq: ¬(d+c.Ce>=c.Du):=by unfold wto at q;split at q<;>omega
  rw[decide_eq_false hq,cond_false,hj,if_pos q];rfl
 ·have hq:d+c.Ce>=c.Du:=by unfold wto at q;split at q<;>omega
  have hto:wto c d=c.Du:=by omega
  rw[decide_eq_true hq,cond_true,A84 hK hc P.mem hk.1 (by omega),Z0,if_neg q];have hcl:(Aw4 c p.Fp k).length=c.Du.toNat:=by unfold Aw4;rw[List.length_take,List.length_drop];omega
  rw[if_pos ⟨by omega,hd.1,by omega⟩,A54 hK _ (by rw[List.length_take];omega),Z0];have hz:Arz ((List.drop (0:Int).toNat (Aw4 c p.Fp k)).take (d - 0).toNat)=Arz (((A8u c p k d).drop (k*c.Du).toNat).take c.Du.toNat):=by
   have:=Bsm (mem:=p.Fp) (a:=(k*c.Du).toNat) (d:=d.toNat) (n:=c.Du.toNat);unfold A8u;rw[hto,show(k*c.Du+d).toNat=(k*c.Du).toNat+d.toNat by omega,show(c.Du - d).toNat=c.Du.toNat - d.toNat by omega,this];unfold Aw4;rw[show Int.toNat 0=0 from rfl,Z55,List.take_take,show(d - 0).toNat=d.toNat by congr 1;omega]
  rw[hz];cases Arz (((A8u c p k d).drop (k*c.Du).toNat).take c.Du.toNat)with
  |false=>rfl
  |true=>simp only[Bool.not_true,cond_false,cond_true];rw[hj];rfl
end
def Bfz (c:Fi)(x:Bb)(b:Bool):Bb:=bif b then Bb.mk x.Be x.Bz x.Dh (x.Ad.drop 1) 0 else Bb.mk x.Be x.Bz x.Dh x.Ad (A1 x.H2 c.Ce)
def Ban (w:Bo)(x:Bb)(qs:List Bb):Bo:=
 Bo.mk w.fC (A8h w.fC w.fP (gt x.Ad 0) x.H2).1 w.fL (Bfz w.fC x (A8h w.fC w.fP (gt x.Ad 0) x.H2).2::qs) w.Jp
def Bab (w:Bo)(x:Bb)(qs:List Bb):Bo:=
 if 0<x.Dh.length then A7e w x qs else if 0<x.Ad.length then Ban w x qs else if x.Bz=0 then A6f w x qs else A0f w x qs
def A4s (w:Bo):Bo:=match w.fQ with
 |[]=>w
 |x::qs=>Bab w x qs
def ND (s:Nat)(n:Az):Prop:=(0<=n.G6/\n.G6<=(s:Int))/\(0<=n.Bz/\n.Bz<=(s:Int))/\(0<=n.C7/\n.C7<=1000)
structure Tot (w:Bo)(m:Nat):Prop where
 ww:Ark w
 conf:Akj w.fC=true
 len:w.fL.length<=1000
 nd: ∀n∈w.fL,ND w.fL.length n
 q: ∀x∈w.fQ,(0<=x.Bz/\x.Bz<=(w.fL.length:Int))/\(0<=x.Be/\x.Be<=(w.fL.length:Int))
 ql:w.fQ.length<=m
 ll:w.Jp.length<=m
theorem Tot.mono{w:Bo}{m n:Nat}(T:Tot w m)(h:m<=n):Tot w n:={T with ql:=S5 T.ql h,ll:=S5 T.ll h}
theorem Bvb{c:Fi}{p:Ef}(hw:A01 p)(k d:Int):A01 (A8h c p k d).1:=by
 have hm:Bim (A8u c p k d):=by
  refine⟨A78 fun j hj=> ?_,by unfold A8u;rw[Aw2];exact hw.mem.2⟩;unfold A8u at hj ⊢;rw[Aw2]at hj;obtain⟨i,rfl⟩: ∃i:Nat,j=i:=⟨j.toNat,by omega⟩;rw[A5f (by omega)];split
  ·exact⟨by decide,by decide⟩
  ·exact hw.mem.1 _ (Aqd (by omega))
 unfold A8h;cases Aw7 c p&&(inB k 0 (c.Ad - 1)&&(gt p.G4 k==2&&inB d 0 (c.Du - 1)))with
 |false=>exact hw
 |true=>
  rw[cond_true];split
  ·exact⟨hm,hw.st,hw.own⟩
  ·cases Arz (((A8u c p k d).drop (k*c.Du).toNat).take c.Du.toNat)with
   |false=>exact hw
   |true=>exact⟨hm,⟨A5g hw.st.1 _ Ayc,by show(p.G4.set _ _).length*8<=_;rw[Z49];exact hw.st.2⟩,hw.own⟩
section
variable {K:Nat} (hK:281474976710656<=K)
include hK
omit hK in
theorem Bvc (K:Nat){w:Bo}{x:Bb}{qs:List Bb}(hq:w.fQ=x::qs)(h0:0<x.Dh.length)(h6:x.Dh.length<=17592186044415)(hl:w.Jp.length<=1000000000):Ay4 K w=some (A7e w x qs):=by
 have hm:=K1;unfold Ay4;rw[hq,gt0];have e:Ap (x.Dh.length:Int) 1=((x.Dh.length - 1:Nat):Int):=by unfold Ap Asu;rw[Ht (by omega) (by omega)];omega
 rw[e,if_pos ⟨by omega,by simp⟩,if_pos ⟨by omega,by omega⟩,if_pos ⟨by grind,by grind⟩,if_pos ⟨by omega,by omega,by omega⟩,A85,Z38,if_pos ⟨by grind,by grind⟩];rfl
theorem Bsn{w:Bo}{m:Nat}(hm:m<=1000000000)(T:Tot w m){x:Bb}{qs:List Bb}(hq:w.fQ=x::qs)(hf:x.Bz≠0):Axo K w=some (A0f w x qs):=by
 have hmx:=K1;have hw:=T.ww;have hX:=T.q x (by rw[hq];exact List.mem_cons_self);have hlen:=T.len;have hk:0<=x.Bz - 1/\x.Bz - 1<(w.fL.length:Int):=⟨by omega,by omega⟩;have hn:=hw.l.1 _ (Akk hk.1 hk.2);have e1:Ap x.Bz 1=x.Bz - 1:=sb1 (by omega) (by omega);have e2:A1 (x.Bz - 1) 1=x.Bz:=by rw[ad1 (by omega) (by omega)];omega
 have hnx:=(T.nd _ (Akk hk.1 hk.2)).1;have hlq:(w.fQ).length=qs.length+1:=by rw[hq];rfl
 have hQ:=T.ql;have hj: ∀(l:List Az) (q:List Bb),l.length=w.fL.length->q.length=w.fQ.length->Aua K (gt w.fL (x.Bz - 1)) (x.Bz - 1) w.fC.Ad w.fC.Du w.fC.Cd w.fC.Ez w.fC.Ce w.fC.Dv w.fP.Fp w.fP.G4 w.fP.Fq l q w.Jp=some (Bo.mk w.fC (Ah1 w.fP (gt w.fL (x.Bz - 1)).Ad) (l.set (x.Bz - 1).toNat (Ar1 2 (gt w.fL (x.Bz - 1)).C7)) (Air (gt w.fL (x.Bz - 1)) x.Bz::q) w.Jp):=by
  intro l q hl1 hq1;have h8:=hn.tags.2;have h9:=hn.chunks.2;unfold Aua;rw[Bhh hK (Bo.mk w.fC w.fP l q w.Jp) hw.p _ (A3n hK hn.chunks),Z0];unfold A2k A1p;simp only[Z0,Z38,List.singleton_append,Z28];simp only[hl1,if_pos hk,e2,Z0]
  iterate 4 (try rw[if_pos ⟨by omega,by omega⟩])
  try simp only[Z0]
  iterate 4 (try rw[if_pos ⟨by omega,by omega⟩])
  rfl
 unfold Axo;rw[hq,gt0,if_pos ⟨by omega,by simp⟩,e1];simp only[if_pos hk];rw[Aw1 K hn,Z0,if_pos ⟨by omega,by simp⟩,Az7,Z0];unfold A0f Ayf;have hp:plB w.fL (gt w.fL (x.Bz - 1)).G6=decide (1<=(gt w.fL (x.Bz - 1)).G6/\(gt w.fL (x.Bz - 1)).G6<=(w.fL.length:Int)):=by
  rw[Bool.eq_iff_iff,A7a (by omega) (by omega),decide_eq_true_iff];omega
 rw[hp];by_cases q:1<=(gt w.fL (x.Bz - 1)).G6/\(gt w.fL (x.Bz - 1)).G6<=(w.fL.length:Int)
 ·rw[decide_eq_true q];simp only[cond_true];rw[sb1 (by omega) (by omega),if_pos ⟨by omega,by omega⟩];unfold Au7;exact hj _ _ (by rw[Z49]) (by rw[hq];rfl)
 ·rw[decide_eq_false q];simp only[cond_false];exact hj _ _ rfl (by rw[hq];rfl)
theorem Bc8{w:Bo}{m:Nat}(hm:m<=1000000000)(T:Tot w m)(h0:0<w.fQ.length):Av2 K w=some (A4s w):=by
 have hmx:=K1;have W:=T.ww;have hQ:=T.ql;have hL:=T.ll;unfold A4s;cases hq:w.fQ with
 |nil=>rw[hq]at h0;cases h0
 |cons x qs=>
 have hxm:x∈w.fQ:=by rw[hq];exact List.mem_cons_self
 have hX:=T.q x hxm;have hxw:=W.q.1 x hxm;have hx1:=hxw.tags.2;have hx2:=hxw.chunks.2;have hlen:=T.len;have hlq:(w.fQ).length=qs.length+1:=by rw[hq];rfl
 show _=some (Bab w x qs);unfold Av2 A3v Bab;rw[hq,gt0,if_pos ⟨by omega,by simp⟩];by_cases c1:0<x.Dh.length
 ·rw[decide_eq_true (show(x.Dh.length:Int)>0 by omega),if_pos c1,Bvc K hq c1 (by omega) (by omega)];rfl
 ·rw[decide_eq_false (show ¬(x.Dh.length:Int)>0 by omega),if_neg c1];by_cases c2:0<x.Ad.length
  ·rw[decide_eq_true (show(x.Ad.length:Int)>0 by omega),if_pos c2];simp only[cond_true,cond_false,Z0];rw[show((2:Int)==1)=false from rfl,show((2:Int)==2)=true from rfl];simp only[cond_true,cond_false];unfold Azs;rw[hq,gt0,if_pos ⟨by omega,by simp⟩,if_pos ⟨by omega,by omega⟩,Bjq hK w.fC W.p,Z0];unfold Ban Bfz;cases (A8h w.fC w.fP (gt x.Ad 0) x.H2).2 with
   |false=>rfl
   |true=>
    rw[cond_true,cond_true,if_pos ⟨by omega,by omega,by omega⟩,Z38];have et:(x.Ad.drop (1:Int).toNat).take ((x.Ad.length:Int) - 1).toNat=x.Ad.drop 1:=by
     show(x.Ad.drop 1).take _=_;exact List.take_of_length_le (by rw[List.length_drop];omega)
    rw[et,if_pos ⟨by rw[List.length_drop];omega,by rw[List.length_drop];omega⟩];rfl
  ·rw[decide_eq_false (show ¬(x.Ad.length:Int)>0 by omega),if_neg c2];by_cases c3:x.Bz=0
   ·rw[if_pos c3];have et:((x::qs).drop (1:Int).toNat).take (((x::qs).length:Int) - 1).toNat=qs:=by
     show qs.take _=_;exact List.take_of_length_le (by simp)
    rw[c3];simp only[bne_self_eq_false,cond_false,Z0];rw[show((4:Int)==1)=false from rfl,show((4:Int)==2)=false from rfl,show((4:Int)==3)=false from rfl];simp only[cond_false];have hl1:(((x::qs).length:Nat):Int)=(qs.length:Int)+1:=by simp
    have hj: ∀l:List Az,Aub K w.fC.Ad w.fC.Du w.fC.Cd w.fC.Ez w.fC.Ce w.fC.Dv w.fP.Fp w.fP.G4 w.fP.Fq l (x::qs) w.Jp=some (Bo.mk w.fC w.fP l qs w.Jp):=by
     intro l;unfold Aub;rw[et,Z38,hl1,if_pos (show(0:Int)<=1/\(1:Int)<=(qs.length:Int)+1/\(qs.length:Int)+1<=(qs.length:Int)+1 from⟨by omega,by omega,by omega⟩),if_pos (show qs.length*72<=140737488355328/\qs.length<=maxLen from⟨by omega,by omega⟩)]
    rw[if_pos ⟨by omega,by simp⟩];unfold A6f Aw6;by_cases q:x.Be=0
    ·rw[q,if_pos rfl];simp only[bne_self_eq_false,cond_false];exact hj _
    ·have hk:0<=x.Be - 1/\x.Be - 1<(w.fL.length:Int):=⟨by omega,by omega⟩;rw[A3h q,if_neg q,cond_true,if_pos ⟨by omega,by simp⟩,sb1 (by omega) (by omega),Bhi hK W.l hk (T.nd _ (Akk hk.1 hk.2)).2.2,Z0];exact hj _
   ·rw[A3h c3,if_neg c3];simp only[cond_true,cond_false,Z0];rw[show((3:Int)==1)=false from rfl,show((3:Int)==2)=false from rfl,show((3:Int)==3)=true from rfl];simp only[cond_true,cond_false];rw[Bsn hK hm T hq c3];rfl
end
theorem Bf0{s g:Int}(hs:wfi s)(hg:wfi g):At6 (Ar1 s g):=
 ⟨hs,hg,Ayc,Ayc,Ayc,Ayc,Ayc,Ayc,A0z,Ayc,Ayc,A58,A0z⟩
theorem Bjs{l:List Int}(h:A4c l)(n:Nat):A4c (l.take n):=⟨fun x hx=>h.1 x (Z42 hx),by have:=h.2;rw[List.length_take];omega⟩
theorem Bjt{l:List Int}(h:A4c l)(n:Nat):A4c (l.drop n):=⟨fun x hx=>h.1 x (List.mem_of_mem_drop hx),by have:=h.2;rw[List.length_drop];omega⟩
theorem Bso (a b:Int):wfi (A1 a b):=A1j _
theorem A7k{x:Bb}{l:List Bb}(hx:A03 x)(h: ∀y∈l,A03 y)(hl:l.length<=1000000000):Bbg (x::l):=by
 refine⟨fun y hy=> ?_,by rw[Z28];omega⟩;rcases Ft.1 hy with rfl|hy
 ·exact hx
 ·exact h y hy
theorem Bsp{c:Fi}{x:Bb}(h:A03 x)(b:Bool):A03 (Bfz c x b):=by
 cases b with
 |true=>exact⟨h.slot,h.first,h.tags,Bjt h.chunks 1,Ayc⟩
 |false=>exact⟨h.slot,h.first,h.tags,h.chunks,Bso _ _⟩
theorem Bsq{n:Az}{gens:Int}(hn:At6 n)(hg:0<=n.C7/\n.C7<=1000):At6 (A4r n gens):=by
 unfold A4r;split
 ·exact Bf0 (Gx (by decide) (by decide)) hn.gen
 ·exact Bf0 Ayc (Gx (by omega) (by omega))
theorem Bnf{n:Az}{gens:Int}{s:Nat}(h:gens<=1000)(hn:ND s n):ND s (A4r n gens):=by
 have:=hn.2.2;unfold A4r;split
 ·exact⟨⟨Int.le_refl 0,Int.natCast_nonneg _⟩,⟨Int.le_refl 0,Int.natCast_nonneg _⟩,this⟩
 ·exact⟨⟨Int.le_refl 0,Int.natCast_nonneg _⟩,⟨Int.le_refl 0,Int.natCast_nonneg _⟩,by show 0<=n.C7+1/\n.C7+1<=1000;omega⟩
theorem Bek{P:Az->Prop}{l:List Az}{g:Int}(h: ∀n∈l,P n)(hx:0<=(gt l g).G6/\(gt l g).G6<=1000)(hp: ∀n,P n->P (Bkp n 0))(hb:P (Ar1 2 (gt l g).C7)): ∀n∈Ayf l g,P n:=by
 unfold Ayf;refine A5g ?_ _ hb;cases q:plB l (gt l g).G6 with
 |false=>exact h
 |true=>
  rw[cond_true];have r:=(A7a hx.1 hx.2).1 q;exact A5g h _ (hp _ (h _ (Akk r.1 r.2)))
theorem Bsr{w:Bo}{m:Nat}(hm:m<=1000000000)(T:Tot w m):Tot (A4s w) (m+1):=by
 have W:=T.ww;have hQ:=T.ql;have hL:=T.ll;have hlen:=T.len;obtain⟨b1,b2,b3,b4,b5,b6⟩:=Bd T.conf;unfold A4s;cases hq:w.fQ with
 |nil=>exact T.mono (by omega)
 |cons x qs=>
 have hxm:x∈w.fQ:=by rw[hq];exact List.mem_cons_self
 have hqm: ∀y∈qs,y∈w.fQ:=fun y hy=>by rw[hq];exact Z56 _ hy
 have hX:=T.q x hxm;have hxw:=W.q.1 x hxm;have hqs: ∀y∈qs,A03 y:=fun y hy=>W.q.1 y (hqm y hy)
 have hlq:(w.fQ).length=qs.length+1:=by rw[hq];rfl
 show Tot (Bab w x qs) (m+1);unfold Bab;split
 ·rename_i c1;refine⟨⟨W.c,W.p,W.l,A7k ⟨hxw.slot,hxw.first,Bjs hxw.tags _,hxw.chunks,hxw.done⟩ hqs (by omega),?_⟩,T.conf,T.len,T.nd,?_,?_,?_⟩
  ·refine⟨fun y hy=> ?_,?_⟩
   ·rcases N0.1 hy with hy|hy
    ·exact W.log.1 y hy
    ·rw[S9]at hy;rw[hy];exact hxw.tags.1 _ (Aqd (by omega))
   ·show(w.Jp++[_]).length*8<=_;rw[Z23];show(w.Jp.length+1)*8<=_;omega
  ·intro y hy;rcases Ft.1 hy with rfl|hy
   ·exact hX
   ·exact T.q y (hqm y hy)
  ·show(Bmz x::qs).length<=_;rw[Z28];omega
  ·show(w.Jp++[_]).length<=_;rw[Z23];show w.Jp.length+1<=_;omega
 split
 ·refine⟨⟨W.c,Bvb W.p _ _,W.l,A7k (Bsp hxw _) hqs (by omega),W.log⟩,T.conf,T.len,T.nd,?_,?_,?_⟩
  ·intro y hy;rcases Ft.1 hy with rfl|hy
   ·cases (A8h w.fC w.fP (gt x.Ad 0) x.H2).2<;>exact hX
   ·exact T.q y (hqm y hy)
  ·show(_::qs).length<=_;rw[Z28];omega
  ·exact Nat.le_succ_of_le hL
 split
 ·rename_i hs0;have hel:=A94 w x;have hnl:(∀n∈Aw6 w x,At6 n)/\ ∀n∈Aw6 w x,ND w.fL.length n:=by
   unfold Aw6;split
   ·exact⟨W.l.1,T.nd⟩
   ·have hg:=Akk (l:=w.fL) (i:=x.Be - 1) (by have:=hX.2;omega) (by have:=hX.2;omega);have N:=T.nd _ hg;exact⟨A5g W.l.1 _ (Bsq (W.l.1 _ hg) N.2.2),A5g T.nd _ (Bnf (by omega) N)⟩
  refine⟨⟨W.c,W.p,⟨hnl.1,by show(Aw6 w x).length*152<=_;rw[hel];exact W.l.2⟩,⟨hqs,by have:=W.q.2;show qs.length*72<=_;omega⟩,W.log⟩,T.conf,by show(Aw6 w x).length<=_;rw[hel];exact hlen,?_,?_,?_,Nat.le_succ_of_le hL⟩
  ·show ∀n∈Aw6 w x,ND (Aw6 w x).length n;rw[hel];exact hnl.2
  ·show ∀y∈qs,(_/\_<=((Aw6 w x).length:Int))/\(_/\_<=((Aw6 w x).length:Int));rw[hel];exact fun y hy=>T.q y (hqm y hy)
  ·show qs.length<=_;omega
 ·rename_i c3;have hk:0<=x.Bz - 1/\x.Bz - 1<(w.fL.length:Int):=⟨by omega,by omega⟩;have hg:=Akk hk.1 hk.2;have hn:=W.l.1 _ hg;have N:=T.nd _ hg;have hnb:0<=(gt w.fL (x.Bz - 1)).G6/\(gt w.fL (x.Bz - 1)).G6<=1000:=by have:=N.1;omega
  have hrl:=A93 w.fL (x.Bz - 1);refine⟨⟨W.c,(Bml W.p _).1,⟨Bek W.l.1 hnb (fun n h=>Bkq h Ayc) (Bf0 (Gx (by decide) (by decide)) hn.gen),by show(Ayf _ _).length*152<=_;rw[hrl];exact W.l.2⟩,
   A7k (Bce hn hxw.first) (fun y hy=> ?_) (by rw[Z28];omega),W.log⟩,T.conf,by show(Ayf _ _).length<=_;rw[hrl];exact T.len,?_,?_,?_,Nat.le_succ_of_le hL⟩
  ·rcases Ft.1 hy with rfl|hy
   ·exact⟨hxw.slot,hn.next,hxw.tags,hxw.chunks,hxw.done⟩
   ·exact hqs y hy
  ·show ∀n∈Ayf _ _,ND (Ayf _ _).length n;rw[hrl];exact Bek T.nd hnb (fun n h=>h) ⟨⟨Int.le_refl 0,Int.natCast_nonneg _⟩,⟨Int.le_refl 0,Int.natCast_nonneg _⟩,N.2.2⟩
  ·show ∀y∈_::_::qs,(_/\_<=((Ayf _ _).length:Int))/\(_/\_<=((Ayf _ _).length:Int));rw[hrl];intro y hy;rcases Ft.1 hy with rfl|hy
   ·exact⟨N.2.1,hX.1⟩
   rcases Ft.1 hy with rfl|hy
   ·exact⟨N.1,hX.2⟩
   ·exact T.q y (hqm y hy)
  ·show(_::_::qs).length<=_;rw[Z28,Z28];omega
section
variable {K:Nat} (hK:281474976710656<=K)
include hK
theorem Bju{l:List Az}(hl:Aeh l){k gens:Int}(hk:0<=k/\k<(l.length:Int))(hg:0<=(gt l k).C7/\(gt l k).C7<=1000):A48 K l k gens=some (l.set k.toNat (A4r (gt l k) gens)):=by
 unfold A48 Az3 A4r;rw[A71 hK hl,Z0,A6r K (Afb hl),decide_eq_true hk];simp only[Z0,Bool.not_true,cond_false,if_pos hk];rw[ad1 (by omega) (by omega)];by_cases q:gens<=(gt l k).C7
 ·rw[decide_eq_true (show(gt l k).C7>=gens from q),if_pos q];rfl
 ·rw[decide_eq_false (show ¬(gt l k).C7>=gens from q),if_neg q];rfl
theorem Bel{w:Bo}{m:Nat}(hm:m<=1000000000)(T:Tot w m)(h0:0<w.fQ.length):Azi K w=some (A4s w):=by
 have hmx:=K1;have W:=T.ww;have hQ:=T.ql;have hL:=T.ll;unfold A4s;cases hq:w.fQ with
 |nil=>rw[hq]at h0;cases h0
 |cons x qs=>
 have hxm:x∈w.fQ:=by rw[hq];exact List.mem_cons_self
 have hX:=T.q x hxm;have hxw:=W.q.1 x hxm;have hx1:=hxw.tags.2;have hx2:=hxw.chunks.2;have hlen:=T.len;have hlq:(w.fQ).length=qs.length+1:=by rw[hq];rfl
 show _=some (Bab w x qs);unfold Azi A6h Bab;rw[hq,gt0,if_pos ⟨by omega,by simp⟩];by_cases c1:0<x.Dh.length
 ·rw[decide_eq_true (show(x.Dh.length:Int)>0 by omega),if_pos c1];have e:Ap (x.Dh.length:Int) 1=((x.Dh.length - 1:Nat):Int):=by unfold Ap Asu;rw[Ht (by omega) (by omega)];omega
  simp only[cond_true,Z0,beq_self_eq_true];rw[e,if_pos ⟨by omega,by omega⟩,if_pos ⟨by rw[Z23];show(w.Jp.length+1)*8<=_;omega,by rw[Z23];show w.Jp.length+1<=_;omega⟩,if_pos ⟨by omega,by omega,by omega⟩];rfl
 ·rw[decide_eq_false (show ¬(x.Dh.length:Int)>0 by omega),if_neg c1];by_cases c2:0<x.Ad.length
  ·rw[decide_eq_true (show(x.Ad.length:Int)>0 by omega),if_pos c2];simp only[cond_true,cond_false,Z0];rw[show((2:Int)==1)=false from rfl,show((2:Int)==2)=true from rfl];simp only[cond_true,cond_false];rw[if_pos ⟨by omega,by omega⟩,Bjr hK w.fC W.p,Z0];unfold Ban Bfz;cases (A8h w.fC w.fP (gt x.Ad 0) x.H2).2 with
   |false=>rfl
   |true=>
    rw[cond_true,cond_true,if_pos c2];rfl
  ·rw[decide_eq_false (show ¬(x.Ad.length:Int)>0 by omega),if_neg c2];by_cases c3:x.Bz=0
   ·rw[if_pos c3,c3];simp only[bne_self_eq_false,cond_false,Z0];rw[show((4:Int)==1)=false from rfl,show((4:Int)==2)=false from rfl,show((4:Int)==3)=false from rfl];simp only[cond_false];unfold A6f Aw6;by_cases q:x.Be=0
    ·rw[q,if_pos rfl,decide_eq_false (by omega),cond_false,if_pos (by simp)];rfl
    ·have hk:0<=x.Be - 1/\x.Be - 1<(w.fL.length:Int):=⟨by omega,by omega⟩;rw[decide_eq_true (show x.Be>0 by omega),if_neg q,cond_true,sb1 (by omega) (by omega),Bju hK W.l hk (T.nd _ (Akk hk.1 hk.2)).2.2,Z0,if_pos (by simp)];rfl
   ·rw[A3h c3,if_neg c3];simp only[cond_true,cond_false,Z0];rw[show((3:Int)==1)=false from rfl,show((3:Int)==2)=false from rfl,show((3:Int)==3)=true from rfl];simp only[cond_true,cond_false];have hk:0<=x.Bz - 1/\x.Bz - 1<(w.fL.length:Int):=⟨by omega,by omega⟩;have hn:=W.l.1 _ (Akk hk.1 hk.2);have N:=T.nd _ (Akk hk.1 hk.2);have hnx:=N.1;have e2:A1 (x.Bz - 1) 1=x.Bz:=by rw[ad1 (by omega) (by omega)];omega
    have hj: ∀(l:List Az) (q:List Bb),l.length=w.fL.length->q.length=w.fQ.length->Avf K (x.Bz - 1) w.fC.Ad w.fC.Du w.fC.Cd w.fC.Ez w.fC.Ce w.fC.Dv (Ah1 w.fP (gt w.fL (x.Bz - 1)).Ad).Fp (Ah1 w.fP (gt w.fL (x.Bz - 1)).Ad).G4 (Ah1 w.fP (gt w.fL (x.Bz - 1)).Ad).Fq l q w.Jp (gt w.fL (x.Bz - 1)).G4 (gt w.fL (x.Bz - 1)).C7 (gt w.fL (x.Bz - 1)).Nb (gt w.fL (x.Bz - 1)).fUp (gt w.fL (x.Bz - 1)).G5 (gt w.fL (x.Bz - 1)).Bz (gt w.fL (x.Bz - 1)).G6 (gt w.fL (x.Bz - 1)).G7 (gt w.fL (x.Bz - 1)).Ad (gt w.fL (x.Bz - 1)).No (gt w.fL (x.Bz - 1)).G8 (gt w.fL (x.Bz - 1)).D5 (gt w.fL (x.Bz - 1)).Dh=some (Bo.mk w.fC (Ah1 w.fP (gt w.fL (x.Bz - 1)).Ad) (l.set (x.Bz - 1).toNat (Ar1 2 (gt w.fL (x.Bz - 1)).C7)) (Air (gt w.fL (x.Bz - 1)) x.Bz::q) w.Jp):=by
     intro l q hl1 hq1;unfold Avf A7u;rw[Z0,hl1,if_pos hk,e2];rw[show Az.mk (gt w.fL (x.Bz - 1)).G4 (gt w.fL (x.Bz - 1)).C7 (gt w.fL (x.Bz - 1)).Nb (gt w.fL (x.Bz - 1)).fUp (gt w.fL (x.Bz - 1)).G5 (gt w.fL (x.Bz - 1)).Bz (gt w.fL (x.Bz - 1)).G6 (gt w.fL (x.Bz - 1)).G7 (gt w.fL (x.Bz - 1)).Ad (gt w.fL (x.Bz - 1)).No (gt w.fL (x.Bz - 1)).G8 (gt w.fL (x.Bz - 1)).D5 (gt w.fL (x.Bz - 1)).Dh=gt w.fL (x.Bz - 1) from rfl,Be7 K hn,Z0,if_pos ⟨by omega,by omega⟩];rfl
    rw[sb1 (x:=x.Bz) (by omega) (by omega),if_pos hk,show(x::qs).set (0:Int).toNat (Bb.mk x.Be (gt w.fL (x.Bz - 1)).G6 x.Dh x.Ad x.H2)=Bcq w.fL x::qs from rfl,Bg4 hK (Bo.mk w.fC w.fP w.fL (Bcq w.fL x::qs) w.Jp) W.p hk (A3n hK hn.chunks),Z0];dsimp only;rw[A6r K (Afb W.l),Z0,sb1 (by omega) (by omega)];unfold A0f Ayf;have hp:plB w.fL (gt w.fL (x.Bz - 1)).G6=decide (0<=(gt w.fL (x.Bz - 1)).G6 - 1/\(gt w.fL (x.Bz - 1)).G6 - 1<(w.fL.length:Int)):=by
     unfold plB;rw[sb1 (by omega) (by omega)]
    rw[hp];by_cases q:0<=(gt w.fL (x.Bz - 1)).G6 - 1/\(gt w.fL (x.Bz - 1)).G6 - 1<(w.fL.length:Int)
    ·rw[decide_eq_true q];simp only[cond_true];rw[if_pos q];unfold Au7;exact hj _ _ (by rw[Z49]) (by rw[hq];rfl)
    ·rw[decide_eq_false q];simp only[cond_false];exact hj _ _ rfl (by rw[hq];rfl)
end
theorem Bjv{w:Bo}{m:Nat}(hw:Ark w)(hB:A4o w=true)(hq:w.fQ.length<=m)(hl:w.Jp.length<=m):Tot w m:=by
 have P:=Bjp hB;obtain⟨b1,b2,b3,b4,b5,b6⟩:=Bd P.conf;unfold A4o at hB;simp only[Z4,Z1,List.mem_range,beq_iff_eq]at hB;obtain⟨_,hlen,hs,_,⟨hw1,_⟩,_⟩:=hB;refine⟨hw,P.conf,by omega,A78 fun k hk=> ?_,fun x hx=> ?_,hq,hl⟩
 ·have S:=hs k.toNat (by omega);unfold A9r at S;rw[show((k.toNat:Nat):Int)=k by omega,Z4]at S;obtain⟨l1,l2,l3,l4⟩:=A7b S.1;have g:=(A4f S.1).2.2;exact⟨by omega,by omega,by omega⟩
 ·have X:=hw1 x hx;unfold Apc at X;rw[Z4]at X;have R:=A2e.1 X.1;have:=R.slot;have:=R.first;exact⟨by omega,by omega⟩
theorem AnyP.tot{w:Bo}(A:AnyP w)(hB:A4o w=true):Tot w 40000:=Bjv A.ww hB A.q A.g
theorem Bvd{β:Type}(n:Nat)(g:Nat->Nat)(hg: ∀i,i<n->g i<=1000)(hn:n<=100000)(F:Int->Option β)(L:Nat->Int->Int->Option β)
  (h1: ∀m v i,i<n->L (m+1) v (i:Int)=L m (A1 v (g i:Int)) ((i+1:Nat):Int)) (h2: ∀m v,L (m+1) v (n:Int)=F v):
  ∀f i (v:Nat),i<=n->n - i<f->v<=1000*i+100000000->L f (v:Int) (i:Int)=F ((v+(((List.range n).drop i).map g).sum:Nat):Int):=by
 intro f;induction f with
 |zero=>omega
 |succ f ih=>
  intro i v hi hf hv;rcases Hi i n with h|h
  ·have:=hg i h;rw[h1 _ _ _ h,show A1 (v:Int) (g i:Int)=((v+g i:Nat):Int)by rw[adG (by omega) (by omega)];omega,ih (i+1) (v+g i) h (by omega) (by omega)];have e:(List.range n).drop i=i::(List.range n).drop (i+1):=by
    rw[Z47 (by simpa using h),List.getElem_range]
   rw[e,Z8,List.sum_cons,Z53]
  ·obtain rfl:i=n:=by omega
   rw[h2,Z48 (by simp)];rfl
def Bc9 (w:Bo):Nat:=((Atz w).map fun k=>(Avd w.fP k).length).sum
theorem A8r{α:Type}[Inhabited α](l:List α)(f:α->Nat):((List.range l.length).map fun i:Nat=>f (gt l (i:Int))).sum=(l.map f).sum:=by
 congr 1;refine List.ext_getElem (by simp) fun i h1 h2=> ?_
 simp only[Hh,List.length_range]at h1;simp only[List.getElem_map,List.getElem_range];rw[V2 h1]
section
variable {K:Nat} (hK:281474976710656<=K)
include hK
omit hK in
theorem Bh1{p:Ef}(h:p.G4.length<=1000)(k:Int):(Avd p k).length<=1000:=by
 have:=Bb1 p k;omega
omit hK in
theorem Bda{w:Bo}(h8:w.fL.length<=1000):(Atz w).length<=1000:=by have:=Bc4 w.fL w.fL.length;rw[Bu9];omega
theorem A8i{w:Bo}(hw:Ark w)(h8:w.fL.length<=1000)(hs:w.fP.G4.length<=1000):Awo K w=some (Bc9 w:Int):=by
 unfold Awo;rw[A7h hK hw h8,Z0];have hl:=Bda h8;have:=Bvd (Atz w).length (fun i=>(Avd w.fP (gt (Atz w) (i:Int))).length) (fun i _=>Bh1 hs _) (by omega) some (fun n v i=>Au2 K (Atz w) n v ((Atz w).length:Int) i w.fC.Ad w.fC.Du w.fC.Cd w.fC.Ez w.fC.Ce w.fC.Dv w.fP.Fp w.fP.G4 w.fP.Fq w.fL w.fQ w.Jp) (fun n v i h=> ?_) (fun n v=> ?_) K 0 0 (Z21 _) (by omega) (by omega)
 ·rw[Z55,Nat.zero_add,A8r (Atz w) (fun k=>(Avd w.fP k).length)]at this;exact this
 ·simp only[Au2];rw[Acn h,cond_true,if_pos (Akv h),A9q hK _ _ hw.p.st.2,Z0,Acm (by omega)]
 ·simp only[Au2];rw[Avr (Z9 _),cond_false]
theorem A80 (p:Ef)(st:Int)(hl:p.G4.length<=140737488355327):Az4 K p st=some ((((List.range p.G4.length).filter (fun k:Nat=>gt p.G4 k==st)).length:Nat):Int):=by
 unfold Az4;have:=Bb9 p.G4.length hl (fun k:Nat=>gt p.G4 k==st) some (fun n v i=>Auk K st n v p.G4 (p.G4.length:Int) i) (fun n v i hi h0 hv=> ?_) (fun n v=> ?_) K 0 0 (Int.le_refl _) (Int.le_refl _) (Z21 _) (by omega)
 ·grind
 ·simp only[Auk,A0w];rw[Acn hi,cond_true,if_pos (Akv hi),Acm (by omega),show A1 v 1=v+1 by unfold A1 Lc;rw[Ht (by omega) (by omega)]]
 ·simp only[Auk];rw[Avr (Z9 _),cond_false]
end
theorem Bem{l o:List Int}(h1:l.Nodup)(h2:o.Nodup)(h: ∀x,x∈l ↔ x∈o):l.length=o.length:=
 Nat.le_antisymm (A0a h1 fun x hx=>(h x).1 hx) (A0a h2 fun x hx=>(h x).2 hx)
theorem Ba9 (N:Nat)(p:Nat->Bool):(((List.range N).filter p).map (fun k:Nat=>(k:Int))).Nodup:=by
 refine(List.Pairwise.map (R:=fun a b=>a≠b) _ (fun a b h e=>h (by omega)) (List.Pairwise.filter p List.nodup_range))
theorem B03 (l:List Nat)(f:Nat->Int)(h: ∀x∈l,0<=f x/\f x<=2):(l.filter (fun x=>f x==0)).length+(l.filter (fun x=>f x==1)).length+(l.filter (fun x=>f x==2)).length=l.length:=by
 induction l with
 |nil=>rfl
 |cons x l ih=>
  have:=ih fun y hy=>h y (Z56 _ hy)
  have hx:=h x List.mem_cons_self;rcases (by omega:f x=0\/f x=1\/f x=2)with e|e|e
  all_goals simp[e];omega
def stN (p:Ef)(s:Int):Nat:=((List.range p.G4.length).filter (fun k:Nat=>gt p.G4 k==s)).length
def chF (w:Bo):List Int:=(List.range w.fL.length).flatMap fun k:Nat=>(gt w.fL (k:Int)).Ad
theorem Bve (w:Bo):(chF w).length=(w.fL.map fun n=>n.Ad.length).sum:=by
 unfold chF;rw[List.length_flatMap,<-A8r w.fL (fun n=>n.Ad.length)]
theorem Bss (q:List Bb):(chL q).length=(q.map fun x=>x.Ad.length).sum:=by
 unfold chL;rw[List.length_flatMap]
theorem Bao{w:Bo}(I:Inv w):(w.fL.map fun n=>n.Ad.length).sum+(w.fQ.map fun x=>x.Ad.length).sum+stN w.fP 0=w.fP.G4.length:=by
 obtain⟨hc,_,hst,hown,hone⟩:=Au4 I.pool;obtain⟨b1,b2,b3,b4,b5,b6⟩:=Bd hc;have hlen:=I.len;have n2:(chL w.fQ).length=stN w.fP 2:=by
  unfold stN;rw[<-Hh (f:=fun k:Nat=>(k:Int))];refine Bem I.chn (Ba9 _ _) fun x=> ?_;rw[I.chi x,Ay2];constructor
  ·rintro⟨h,e⟩;refine⟨by omega,?_⟩
   rw[show((x.toNat:Nat):Int)=x by omega,e];rfl
  ·rintro⟨h,e⟩;rw[show((x.toNat:Nat):Int)=x by omega,beq_iff_eq]at e
   exact⟨by omega,e⟩
 have n1:(chF w).length=stN w.fP 1:=by
  unfold stN;rw[<-Hh (f:=fun k:Nat=>(k:Int))];refine Bem ?_ (Ba9 _ _) fun x=> ?_
  ·unfold chF;refine List.pairwise_flatMap.2 ⟨fun k hk=> ?_,?_⟩
   ·rw[List.mem_range]at hk;exact A2g (A76 (I.node k ⟨by omega,by omega⟩))
   ·refine List.Pairwise.imp_of_mem ?_ (List.nodup_range (n:=w.fL.length));intro i j hi hj hij x hx y hy e;rw[List.mem_range]at hi hj;have h1:=(I.own i ⟨by omega,by omega⟩ x).1 hx;have h2:=(I.own j ⟨by omega,by omega⟩ y).1 hy;rw[<-e]at h2;omega
  ·rw[Ay2];unfold chF;rw[List.mem_flatMap];constructor
   ·rintro⟨k,hk,hx⟩;rw[List.mem_range]at hk
    have h1:=(I.own k ⟨by omega,by omega⟩ x).1 hx;refine⟨by omega,?_⟩;rw[show((x.toNat:Nat):Int)=x by omega,h1.2.1];rfl
   ·rintro⟨h,e⟩;rw[show((x.toNat:Nat):Int)=x by omega,beq_iff_eq]at e
    have P:=Ahr.1 I.pool;have ho:=(P.one x ⟨h.1,by omega⟩).2.1 e;refine⟨(gt w.fP.Fq x).toNat,by rw[List.mem_range];omega,?_⟩;rw[show(((gt w.fP.Fq x).toNat:Nat):Int)=gt w.fP.Fq x by omega];exact(I.own _ (by omega) x).2 ⟨by omega,e,rfl⟩
 have n3:stN w.fP 0+stN w.fP 1+stN w.fP 2=w.fP.G4.length:=by
  have P:=Ahr.1 I.pool;have:=B03 (List.range w.fP.G4.length) (fun k:Nat=>gt w.fP.G4 k) (fun k hk=>by rw[List.mem_range]at hk;exact(P.one k ⟨by omega,by omega⟩).1);rw[List.length_range]at this;exact this
 rw[<-Bve,<-Bss];omega
theorem Bst (l:List Int)(p:Int->Bool)(g:Int->Nat):((l.filter p).map g).sum<=(l.map g).sum:=by
 induction l with
 |nil=>exact Z9 _
 |cons x l ih=>
  rw[List.filter_cons];split
  ·simp only[Z8,List.sum_cons];omega
  ·simp only[Z8,List.sum_cons];omega
theorem Bvf{w:Bo}(I:Inv w):Bc9 w<=w.fP.G4.length:=by
 have h:=Bao I;have h2:Bc9 w<=(w.fL.map fun n=>n.Ad.length).sum:=by
  unfold Bc9 Atz;refine S5 (Bst _ _ _) ?_;rw[Ej,<-A8r w.fL (fun n=>n.Ad.length)];refine Nat.le_of_eq (congrArg List.sum (Ha fun i hi=> ?_));rw[List.mem_range]at hi;have:=A8e I (k:=(i:Int)) ⟨by omega,by omega⟩;show(Avd w.fP (i:Int)).length=_;omega
 omega
section
variable {K:Nat} (hK:281474976710656<=K)
include hK
theorem B4b{a:List Int}(hb:A3u a)(ha:a.length<=1048576){most:Int}(hm:0<most/\most<=1000): ∃w c,A29 K a most=some (c,w)/\AnyP w/\Aht c:=by
 obtain⟨c,e1,w1⟩:=Bhs hK hb ha;obtain⟨w,c2,e2,A,w2⟩:=Bne hK w1 hm;refine⟨w,c2,?_,A,w2⟩;unfold A29;rw[e1,Z0,e2];rfl
end
section
variable {K:Nat} (hK:281474976710656<=K)
include hK
theorem Bjw (a:Int)(ha:a<=4000): ∀(f:Nat) (i:Nat) (w:Bo) (m:Nat),(i:Int)<=a->a - i<f->Tot w m->m+(a - i).toNat<=1000000000-> ∃r w',Wx K a f (i:Int) w.fC.Ad w.fC.Du w.fC.Cd w.fC.Ez w.fC.Ce w.fC.Dv w.fP.Fp w.fP.G4 w.fP.Fq w.fL w.fQ w.Jp=some (r,w')/\Auc K a f (i:Int) w.fC.Ad w.fC.Du w.fC.Cd w.fC.Ez w.fC.Ce w.fC.Dv w.fP.Fp w.fP.G4 w.fP.Fq w.fL w.fQ w.Jp=some (r,w')/\Ark w':=by
 intro f;induction f with
 |zero=>intro i w m h1 h2;omega
 |succ f ih=>
  intro i w m h1 h2 T hm;rw[Wx,Auc];by_cases c:(i:Int)<a
  ·rw[decide_eq_true c];simp only[cond_true];by_cases h:w.fQ.length=0
   ·rw[h];exact⟨_,_,rfl,rfl,T.ww⟩
   ·rw[Aul (show ¬(w.fQ.length:Int)=0 by omega),decide_eq_true (show(w.fQ.length:Int)>0 by omega)];simp only[cond_true,cond_false];unfold A37;rw[Z0,cond_true];rw[show Bo.mk (Fi.mk w.fC.Ad w.fC.Du w.fC.Cd w.fC.Ez w.fC.Ce w.fC.Dv) (Ef.mk w.fP.Fp w.fP.G4 w.fP.Fq) w.fL w.fQ w.Jp=w from rfl,Bel hK (by omega) T (by omega),Bc8 hK (by omega) T (by omega),Z0,Z0,Acm (by omega)];exact ih (i+1) (A4s w) (m+1) (by omega) (by omega) (Bsr (by omega) T) (by omega)
  ·rw[decide_eq_false c];exact⟨a,w,by rw[cond_false,show(i:Int)=a by omega],rfl,T.ww⟩
theorem Bdb{w:Bo}(A:AnyP w)(a:Int): ∃v r,Auh K w a=some (v,r)/\A0t K w a=some (v,r)/\Ark v:=by
 unfold Auh A0t;rw[A0y hK A.ww,A5s hK A.ww,Z0,Z0,A3k hK w A.ww,A5c hK w A.ww,Z0,Z0,Au3,Amo,Z0,Z0];cases hB:A4o w with
 |false=>exact⟨w,0,rfl,rfl,A.ww⟩
 |true=>
  rw[cond_true,cond_true];cases hi:inB a 0 4000 with
  |false=>exact⟨w,0,rfl,rfl,A.ww⟩
  |true=>
   have hi:=Wy.1 hi;obtain⟨r,v,e1,e2,W⟩:=Bjw hK a hi.2 K 0 w 40000 hi.1 (by omega) (A.tot hB) (by omega);refine⟨v,r,?_,?_,W⟩
   ·unfold Akn;rw[Bool.not_true,cond_false,show(0:Int)=((0:Nat):Int) from rfl,e1];rfl
   ·unfold Av6;rw[Bool.not_true,cond_false,show(0:Int)=((0:Nat):Int) from rfl,e2];rfl
theorem Bdt{w:Bo}(A:AnyP w): ∃v,Ao4 K w=some v/\A17 K w=some v/\Ark v:=by
 obtain⟨v,r,e1,e2,W⟩:=Bdb hK A 4000;refine⟨v,?_,?_,W⟩
 ·unfold Ao4;rw[e1];rfl
 ·unfold A17;rw[e2];rfl
end
theorem Bsu{N:Int}{t:Int->Lk}{g k:Int}(hk:Al N (rem t g) k):Al N t k:=by
 refine Bhd (fun y hy=> ?_) hk;obtain⟨h1,h2⟩:=Ar2.1 hy.lv;exact⟨h2,by rw[Amn h1],fun hc _=>((A4q h1).1 hc).2⟩
theorem Bsv{N:Int}{t:Int->Lk}{g:Int}(hg:(t g).lv=false){k:Int}(hk:Al N (clr t g) k):Al N t k:=by
 refine Bhd (fun y hy=> ?_) hk;have h:=(Aza hg).1 hy.lv;exact⟨h,by rw[Amk hg h],fun hc _=>(A9e hg h).1 hc⟩
theorem Bnh{w:Bo}(I:Inv w)(k:Int)(h:AlW (A4s w).fL k):AlW w.fL k:=by
 unfold A4s at h;cases hq:w.fQ with
 |nil=>rw[hq]at h;exact h
 |cons x qs=>
 rw[hq]at h;have h:AlW (Bab w x qs).fL k:=h;unfold Bab at h;split at h
 ·exact h
 split at h
 ·exact h
 obtain⟨t,A,F⟩:=I.forest;split at h
 ·have X:=Bhg I hq;have h:AlW (Aw6 w x) k:=h;have hN:=A94 w x;by_cases q:x.Be=0
  ·unfold Aw6 at h;rw[if_pos q]at h;exact h
  ·have hk:=X.k q;have hlv:(t (x.Be - 1)).lv=false:=by rw[A _ hk];show((gt w.fL (x.Be - 1)).G4==1)=false;rw[X.st q];rfl
   have A':AtT (Aw6 w x) (clr t (x.Be - 1)):=fun y hy=>by
    rw[hN]at hy;unfold clr;rcases A0g X hy with ⟨e,f⟩|⟨f,_,st,g,e,hs,_⟩
    ·rw[if_neg (fun r=>f ⟨q,r⟩),e,A y hy]
    ·rw[if_pos f.2,e];rcases hs with s|s<;>subst s<;>rfl
   have h2:=h.al A';rw[hN]at h2;exact⟨t,A,Bsv hlv h2⟩
 ·rename_i hf;have X:=Bcr I A F hq hf;obtain⟨hg,hb⟩:=Bhf I A F hq hf;have hN:=A93 w.fL (x.Bz - 1);have h:AlW (Ayf w.fL (x.Bz - 1)) k:=h;have h2:=h.al (Bfr A X.lv.1 hN hg hb);rw[hN]at h2;exact⟨t,A,Bsu h2⟩
theorem Bbu{w:Bo}(I:Inv w){k:Int}:Ayb w.fL k=true ↔ AlW w.fL k:=by
 obtain⟨t,A,F⟩:=I.forest;rw[Beg I A F];exact⟨fun h=>⟨t,A,h⟩,fun h=>h.al A⟩
theorem B04{w:Bo}{E:Int}{n:Nat}(G:Ev w E n):pot w<=192+8*cnt w:=by
 have I:=G.inv;obtain⟨b1,b2,b3,b4,b5,b6⟩:=Bd I.conf;have hc:=Bao I;have P:=Ahr.1 I.pool;have hst:=P.st;have hS:w.fC.Du.toNat<=16:=by omega
 have key: ∀ {α:Type} (l:List α) (f g h:α->Nat),(∀x∈l,f x<=8*g x+16*h x)->(l.map f).sum<=8*(l.map g).sum+16*(l.map h).sum:=by
  intro α l f g h hl;induction l with
  |nil=>simp
  |cons x l ih=>
   have h1:=hl x List.mem_cons_self;have h2:=ih fun y hy=>hl y (Z56 _ hy);simp only[Z8,List.sum_cons];omega
 have k1:=key w.fL (wtN w.fC) lvN (fun n=>n.Ad.length) (A78 fun k hk=>by
  unfold wtN lvN;by_cases s:(gt w.fL k).G4=1
  ·have L:=Akp.1 ⟨I.node k hk,s⟩;have h6:=L.ntag;rw[if_pos s,if_pos s];have:=H8 (gt w.fL k).Ad.length hS;omega
  ·rw[if_neg s];omega)
 have k2:=key w.fQ (wtQ w.fC) (fun _=>1) (fun x=>x.Ad.length) (fun x hx=>by
  have R:=A2e.1 (I.wrec x hx).1;have h6:=R.ntag;unfold wtQ;have:=H8 x.Ad.length hS;omega)
 have e: ∀l:List Bb,(l.map fun _=>1).sum=l.length:=fun l=>by induction l with
  |nil=>rfl
  |cons x l ih=>simp only[Z8,List.sum_cons,Z28,ih];omega
 rw[e]at k2;unfold pot cnt;omega
section
variable {K:Nat} (hK:281474976710656<=K)
include hK
theorem Bni{E:Int}{n:Nat}(hE:0<=E/\E<=1000000000)(hn:n<=1000000)(P:Bo->Int->Prop)(hP: ∀w i,Ev w E n->0<w.fQ.length->P w i->P (A4s w) (i+1)):
  ∀(f:Nat) (i:Nat) (w:Bo),Ev w E n->P w i->pot w+i<=4000->4000 - i<f-> ∃r w',Wx K 4000 f (i:Int) w.fC.Ad w.fC.Du w.fC.Cd w.fC.Ez w.fC.Ce w.fC.Dv w.fP.Fp w.fP.G4 w.fP.Fq w.fL w.fQ w.Jp=some (r,w')/\Ev w' E n/\P w' r/\w'.fQ=[]/\(0<=r/\r<=4000):=by
 intro f;induction f with
 |zero=>intro i w _ _ _ h;omega
 |succ f ih=>
  intro i w G hp hi hf;have W:=G.ww (by omega) (by omega);have hq:=Bmx w;have hl:=Bco w;have hwt:=G.wt;have hpos:w.fQ≠[]->1<=pot w:=fun h=>by
   have:=Brn (wtQ w.fC) w.fQ fun x _=>by unfold wtQ;omega
   have h2:=List.length_pos_iff.2 h;unfold pot;omega
  rw[Wx];by_cases h:w.fQ=[]
  ·refine⟨i,w,?_,G,hp,h,by omega⟩;rw[h];cases decide ((i:Int)<4000)with
   |true=>rw[cond_true,decide_eq_false (by simp),cond_false,<-h]
   |false=>rw[cond_false,<-h]
  ·have h1:=hpos h;have h2:=List.length_pos_iff.2 h;have T:=Bjv (m:=n) W G.inv.ok (by omega) (by omega);obtain⟨w',e6,S⟩:=Bbr hK G hE (by omega) h2;have ew:w'=A4s w:=by
    rw[Bc8 hK (by omega) T h2]at e6;exact(Z32 e6).symm
   subst ew;have hpt:=S.pot;obtain⟨r,w2,e,g⟩:=ih (i+1) (A4s w) (S.good G) (by have:=hP w i G h2 hp;exact this) (by omega) (by omega);refine⟨r,w2,?_,g⟩;rw[decide_eq_true (show(i:Int)<4000 by omega),cond_true,decide_eq_true (show(w.fQ.length:Int)>0 by omega),cond_true];unfold A37;rw[Z0,cond_true,show Bo.mk (Fi.mk w.fC.Ad w.fC.Du w.fC.Cd w.fC.Ez w.fC.Ce w.fC.Dv) (Ef.mk w.fP.Fp w.fP.G4 w.fP.Fq) w.fL w.fQ w.Jp=w from rfl,Bel hK (by omega) T h2,Z0,Acm (by omega)];exact e
theorem Bdc{E:Int}{n:Nat}(hE:0<=E/\E<=400)(hn:n<=1000000)(P:Bo->Int->Prop)(hP: ∀w i,Ev w E n->0<w.fQ.length->P w i->P (A4s w) (i+1)){w:Bo}(G:Ev w E n)(h0:P w 0): ∃r w',Auh K w 4000=some (w',r)/\Ev w' E n/\P w' r/\w'.fQ=[]/\(0<=r/\r<=4000):=by
 have W:=G.ww (by omega) (by omega);have hp:=B04 G;have hc:=G.cn;obtain⟨r,w',e,g⟩:=Bni hK (by omega) hn P hP K 0 w G h0 (by omega) (by omega);refine⟨r,w',?_,g⟩;unfold Auh Akn;rw[A5s hK W,Z0,A5c hK w W,G.inv.ok,Z0,cond_true,Au3,Z0,show inB 4000 0 4000=true from rfl,Bool.not_true,cond_false,show(0:Int)=((0:Nat):Int) from rfl,e];rfl
theorem Bdu{E:Int}{n:Nat}(hE:0<=E/\E<=400)(hn:n<=1000000)(P:Bo->Int->Prop)(hP: ∀w i,Ev w E n->0<w.fQ.length->P w i->P (A4s w) (i+1)){w:Bo}(G:Ev w E n)(h0:P w 0): ∃r w',Ao4 K w=some w'/\Ev w' E n/\P w' r/\w'.fQ=[]/\(0<=r/\r<=4000):=by
 obtain⟨r,w',e,g⟩:=Bdc hK hE hn P hP G h0;refine⟨r,w',?_,g⟩;unfold Ao4;rw[e];rfl
theorem Bbd (l:List Az)(st:Int)(hl:l.length<=140737488355327):Azk K l st=some ((((List.range l.length).filter (fun k:Nat=>(gt l k).G4==st)).length:Nat):Int):=by
 unfold Azk;have:=Bb9 l.length hl (fun k:Nat=>(gt l k).G4==st) some (fun n v i=>Apf K l st n v (l.length:Int) i) (fun n v i hi h0 hv=> ?_) (fun n v=> ?_) K 0 0 (Int.le_refl _) (Int.le_refl _) (Z21 _) (by omega)
 ·grind
 ·simp only[Apf,Axb];rw[Acn hi,cond_true,if_pos (Akv hi),Acm (by omega),show A1 v 1=v+1 by unfold A1 Lc;rw[Ht (by omega) (by omega)]]
 ·simp only[Apf];rw[Avr (Z9 _),cond_false]
end
theorem Bsw{w:Bo}(I:Inv w)(hq:w.fQ=[]){k:Int}(hk:0<=k/\k<(w.fL.length:Int))(hs:(gt w.fL k).G4=1):Ayb w.fL k=true:=by
 obtain⟨t,A,F⟩:=I.forest;rw[Beg I A F];obtain⟨d,U⟩:=F.uw;have hno: ∀x,¬Oo w.fL.length t x:=fun x h=>by
  have:=(F.kid.iff x).2 h;rw[hq]at this;cases this
 have key: ∀(n:Nat) (x:Int),d x<=n->Lv w.fL.length t x->Al w.fL.length t x:=by
  intro n;induction n with
  |zero=>
   intro x hd hx;by_cases u:(t x).up=0
   ·exact .root hx u
   ·have hc:Cu w.fL.length t x:=Classical.byContradiction fun hc=>hno x ⟨hx,u,hc⟩
    have:=U x hx hc;omega
  |succ n ih=>
   intro x hd hx;by_cases u:(t x).up=0
   ·exact .root hx u
   ·have hc:Cu w.fL.length t x:=Classical.byContradiction fun hc=>hno x ⟨hx,u,hc⟩
    have:=U x hx hc;exact .step hx hc (ih _ (by omega) hc.1)
 exact key (d k) k (Z9 _) ((A0d A).2 ⟨hk,hs⟩)
theorem Bnj (l:List Int)(p:Int->Bool)(g:Int->Nat)(h: ∀x∈l,p x=false->g x=0):((l.filter p).map g).sum=(l.map g).sum:=by
 induction l with
 |nil=>rfl
 |cons x l ih=>
  have h1:=ih fun y hy=>h y (Z56 _ hy)
  have h2:=h x List.mem_cons_self;rw[List.filter_cons];split
  ·simp only[Z8,List.sum_cons];omega
  ·rename_i hp;have:=h2 (by simpa using hp);simp only[Z8,List.sum_cons];omega
theorem Bnk{w:Bo}(I:Inv w)(hq:w.fQ=[]):Bc9 w=(w.fL.map fun n=>n.Ad.length).sum:=by
 unfold Bc9 Atz;rw[Bnj _ _ _ fun x hx hp=> ?_,Ej,<-A8r w.fL (fun n=>n.Ad.length)]
 ·refine congrArg List.sum (Ha fun i hi=> ?_);rw[List.mem_range]at hi;have:=A8e I (k:=(i:Int)) ⟨by omega,by omega⟩;show(Avd w.fP (i:Int)).length=_;omega
 ·obtain⟨i,hi,rfl⟩:=Gh.1 hx;rw[List.mem_range]at hi;have hk:0<=(i:Int)/\(i:Int)<(w.fL.length:Int):=⟨by omega,by omega⟩;have hs: ¬(gt w.fL (i:Int)).G4=1:=fun hs=>by
   rw[Bsw I hq hk hs]at hp;cases hp
  have:=A8e I hk;rw[A2d (I.node _ hk) hs]at this;have h0:((Ar1 (gt w.fL (i:Int)).G4 (gt w.fL (i:Int)).C7).Ad.length:Int)=0:=rfl;omega
structure Bjx (w w':Bo):Prop where
 stay:A7n w w'
 back: ∀k,AlW w'.fL k->AlW w.fL k
theorem Bjx.rooms{w w':Bo}(H:Bjx w w')(I:Inv w)(I':Inv w'):Atz w'=Atz w:=by
 unfold Atz;rw[H.stay.len];refine List.filter_congr fun k _=> ?_;rw[Bool.eq_iff_iff,Bbu I,Bbu I'];exact⟨H.back k,fun h=>(H.stay.node k h).1⟩
theorem Bjx.cIn{w w':Bo}(H:Bjx w w')(I:Inv w)(I':Inv w'):Bc9 w'=Bc9 w:=by
 unfold Bc9;rw[H.rooms I I'];refine congrArg List.sum (Ha fun k hk=> ?_);obtain⟨h1,h2⟩:=Bei.1 hk;obtain⟨_,⟨a,b,c,e⟩,_⟩:=H.stay.node k ((Bbu I).1 h2);have e1:=A8e I h1;have e2:=A8e I' (k:=k) (by rw[H.stay.len];exact h1);rw[e]at e2;have e3:((lnk (gt w.fL k) a b c).Ad.length:Int)=((gt w.fL k).Ad.length:Int):=rfl;omega
theorem Bnl{E:Int}{n:Nat}(hE:0<=E/\E<=1000000000)(hn:n<=1000000){w0 w:Bo}(G:Ev w E n)(h:0<w.fQ.length)(H:Bjx w0 w):Bjx w0 (A4s w):=by
 have hK:281474976710656<=562949953421312:=by decide
 have W:=G.ww (by omega) (by omega);have hq:=Bmx w;have hl:=Bco w;have hwt:=G.wt;have T:=Bjv (m:=n) W G.inv.ok (by omega) (by omega);obtain⟨w',e6,S⟩:=Bbr hK G hE (by omega) h;have ew:w'=A4s w:=by
  rw[Bc8 hK (by omega) T h]at e6;exact(Z32 e6).symm
 subst ew;exact⟨H.stay.trans S.stay,fun k hk=>H.back k (Bnh G.inv k hk)⟩
theorem Bap (a:List Int)(u:Beu a): ∃K,Ayj K a=some true:=by
 refine⟨562949953421312,?_⟩;have hK:281474976710656<=562949953421312:=by decide
 unfold Ayj A81;rw[Z0];by_cases hbig:(a.length:Int)>1048576
 ·rw[decide_eq_true hbig,cond_true]
 rw[decide_eq_false hbig,cond_false];have ha:a.length<=1048576:=by omega
 have hb:A3u a:=(Bmk u).1;obtain⟨wd,o,E,n,e3,G,hE,hn,_⟩:=Bfv hK hb ha;have W:=G.ww (by omega) (by omega);have I:=G.inv;obtain⟨b1,b2,b3,_⟩:=Bd I.conf;have hlen:=I.len;obtain⟨w,c3,e4,A,wc3⟩:=B4b hK hb ha (most:=60) (by omega);have d2:Aw9 562949953421312 a=some w:=by
  unfold Aw9;rw[e4];rfl
 obtain⟨v,i1,s1,V⟩:=Bdt hK A;obtain⟨r,w',e5,G',H,hq,_⟩:=Bdu hK (n:=n) (by omega) (by omega) (fun w' _=>Bjx wd w') (fun w i G h H=>Bnl (by omega) (by omega) G h H) G ⟨A7n.refl _,fun _ h=>h⟩;have W':=G'.ww (by omega) (by omega);have I':=G'.inv;have hlen':w'.fL.length<=8:=by have:=H.stay.len;omega
 have P:=Ahr.1 I.pool;have P':=Ahr.1 I'.pool;have hst:=P.st;have hst':=P'.st;have hcf:=H.stay.conf;have hst8:w'.fP.G4.length<=1000:=by rw[hcf]at hst';omega
 have n2:stN w'.fP 2=0:=by
  unfold stN;rw[Vz,List.filter_eq_nil_iff];intro c hc e;rw[List.mem_range]at hc;rw[beq_iff_eq]at e;have:=(I'.chi c).2 ⟨⟨by omega,by omega⟩,e⟩;rw[hq]at this;cases this
 have l2:((List.range w'.fL.length).filter (fun k:Nat=>(gt w'.fL k).G4==2)).length=0:=by
  rw[Vz,List.filter_eq_nil_iff];intro c hc e;rw[List.mem_range]at hc;rw[beq_iff_eq]at e;have:=(I'.sli c).2 ⟨⟨by omega,by omega⟩,e⟩;rw[hq]at this;cases this
 have hr:=H.rooms I I';have hci:=H.cIn I I';have hcount:=Bao I';have hcl:=Bnk I' hq;rw[hq]at hcount;have hcount:(w'.fL.map fun n=>n.Ad.length).sum+0+stN w'.fP 0=w'.fP.G4.length:=hcount;have c2:=A80 hK w'.fP 2 (by omega);have c0:=A80 hK w'.fP 0 (by omega);have cn:=Bbd hK w'.fL 2 (by omega);have hrl:=Bda (w:=wd) (by omega);rw[e3,Z0,d2,Z0,e5,Z0,i1,Z0,s1,Z0,A8f hK V,Z0,cond_true,A5c hK w' W',I'.ok,Z0,cond_true];unfold A5k;rw[Z0,hq,show((([]:List Bb).length:Int)==0)=true from rfl,cond_true,c2,Z0,show((List.range w'.fP.G4.length).filter (fun k:Nat=>gt w'.fP.G4 k==2)).length=0 from n2,show((((0:Nat):Int)) != 0)=false from rfl,cond_false,cn,Z0,l2,show((((0:Nat):Int)) != 0)=false from rfl,cond_false,
  A7h hK W (by omega),Z0,A7h hK W' (by omega),Z0,hr,A00 hK (Atz wd) (by omega),Z0,cond_true,A8i hK W' (by omega) hst8,Z0,A8i hK W (by omega) (by omega),Z0,hci,bne_self_eq_false,cond_false,c0,Z0,Z0]
 have hin:=Bvf I;have e6:(((((List.range w'.fP.G4.length).filter (fun k:Nat=>gt w'.fP.G4 k==0)).length:Nat):Int) != Ap wd.fC.Ad (Bc9 wd:Int))=false:=by
  have:((List.range w'.fP.G4.length).filter (fun k:Nat=>gt w'.fP.G4 k==0)).length=stN w'.fP 0:=rfl;rw[this,sbG (by omega) (by omega)];have:((stN w'.fP 0:Nat):Int)=wd.fC.Ad - (Bc9 wd:Int):=by rw[hcf]at hst';omega
  rw[this,bne_self_eq_false]
 rw[e6,cond_false];have key: ∀(f i:Nat),i<=(Atz wd).length->(Atz wd).length - i<f->Aut 562949953421312 (Atz wd) f (i:Int) w'.fC.Ad w'.fC.Du w'.fC.Cd w'.fC.Ez w'.fC.Ce w'.fC.Dv w'.fP.Fp w'.fP.G4 w'.fP.Fq w'.fL w'.fQ w'.Jp wd.fC.Ad wd.fC.Du wd.fC.Cd wd.fC.Ez wd.fC.Ce wd.fC.Dv wd.fP.Fp wd.fP.G4 wd.fP.Fq wd.fL wd.fQ wd.Jp=some true:=by
  intro f;induction f with
  |zero=>intro i _ h;omega
  |succ f ih=>
   intro i hi hf;rw[Aut];rcases Hi i (Atz wd).length with h|h
   ·obtain⟨h1,h2⟩:=Bei.1 (List.getElem_mem h);have h1':0<=(Atz wd)[i]/\(Atz wd)[i]<(w'.fL.length:Int):=by rw[H.stay.len];exact h1
    obtain⟨_,⟨x,y,z,e⟩,_⟩:=H.stay.node _ ((Bbu I).1 h2);have hch:=(W.l.1 _ (Akk h1.1 h1.2)).chunks;rw[Acn h,cond_true,V2 h];simp only[if_pos (Akv h),if_pos h1,if_pos h1',e];rw[show(lnk (gt wd.fL (Atz wd)[i]) x y z).Ad=(gt wd.fL (Atz wd)[i]).Ad from rfl,A00 hK _ (A3n hK hch),Z0,cond_true,show(lnk (gt wd.fL (Atz wd)[i]) x y z).C7=(gt wd.fL (Atz wd)[i]).C7 from rfl,bne_self_eq_false,cond_false,Acm (by omega)];exact ih (i+1) h (by omega)
   ·rw[Avr h,cond_false,show Bo.mk (Fi.mk w'.fC.Ad w'.fC.Du w'.fC.Cd w'.fC.Ez w'.fC.Ce w'.fC.Dv) (Ef.mk w'.fP.Fp w'.fP.G4 w'.fP.Fq) w'.fL w'.fQ w'.Jp=w' from rfl];have e7:Ao4 562949953421312 w'=some w':=by
     unfold Ao4 Auh Akn;rw[A5s hK W',Z0,A5c hK w' W',I'.ok,Z0,cond_true,Au3,Z0,show inB 4000 0 4000=true from rfl,Bool.not_true,cond_false,Wx,show decide ((0:Int)<4000)=true from rfl,cond_true,hq];show((some ((0:Int),Bo.mk w'.fC w'.fP w'.fL [] w'.Jp)).bind fun r4=>some (r4.2,r4.1)).bind (fun r1=>some r1.1)=_;rw[<-hq];rfl
    rw[e7,Z0,A8f hK W'];rfl
 have:=key 562949953421312 0 (Z21 _) (by omega);rw[hq]at this;exact this
end Go.Proofs.YtgcnddnmhllahaaGreat
