/- The plain law for FnPendings; no condition. -/
import Derived.Test.YtgcnddnmhllahaaGreatJFnPendingsPa
set_option linter.all false
namespace Go.Proofs.YtgcnddnmhllahaaGreat
open Go.Eng Go.ChangeShapes Go.WideShapes Go.ChangeAt Go.RowKit
def X7 (l:List Fy)(k:Int):Prop:= ∃t,V6 l t/\Al l.length t k
structure Y9 (w w':H4):Prop where
 conf:w'.C=w.C
 len:w'.o.length=w.o.length
 node: ∀k,X7 w.o k->X7 w'.o k/\(∃a b c,gt w'.o k=Y8 (gt w.o k) a b c)/\ ∀n,Vy w'.o n k=Vy w.o n k
theorem Ae4 (n:Fy):Y8 n n.i n.u n.v=n:=rfl
theorem Y9.refl (w:H4):Y9 w w:=⟨rfl,rfl,fun k h=>⟨h,⟨_,_,_,(Ae4 _).symm⟩,fun _=>rfl⟩⟩
theorem Y9.trans{a b c:H4}(h:Y9 a b)(g:Y9 b c):Y9 a c:=by
 refine⟨g.conf.trans h.conf,g.len.trans h.len,fun k hk=> ?_⟩;obtain⟨h1,⟨x,y,z,h2⟩,h3⟩:=h.node k hk;obtain⟨g1,⟨u,v,w,g2⟩,g3⟩:=g.node k h1;exact⟨g1,⟨u,v,w,by rw[g2,h2];rfl⟩,fun n=>(g3 n).trans (h3 n)⟩
theorem Bdk{w w':H4}(hc:w'.C=w.C)(hl:w'.o=w.o):Y9 w w':=⟨hc,by rw[hl],fun k h=>by rw[hl];exact⟨h,⟨_,_,_,(Ae4 _).symm⟩,fun _=>rfl⟩⟩
theorem A7c{N:Int}{t t':Int->Lk}(h: ∀y,Al N t y->Lv N t' y/\(t' y).up=(t y).up/\(Cu N t y->Al N t ((t y).up - 1)->Cu N t' y)){k:Int}(hk:Al N t k):Al N t' k:=by
 induction hk with
 |root a b=>
  obtain⟨h1,h2,h3⟩:=h _ (.root a b);exact .root h1 (by omega)
 |step a b c ih=>
  obtain⟨h1,h2,h3⟩:=h _ (.step a b c);exact .step h1 (h3 b c) (by grind)
theorem Buk{N:Int}{t:Int->Lk}{g:Int}(hg:Oo N t g){k:Int}(hk:Al N t k):Al N (rem t g) k:=by
 refine A7c (fun y hy=> ?_) hk;have hne:y≠g:=fun e=>hy.noOr (e ▸ hg);refine⟨Xb.2 ⟨hne,hy.lv⟩,by rw[V3 hne],fun hc hu=>(cj hne).2 ⟨fun e=> ?_,hc⟩⟩
 simp_all[Al.noOr]
theorem Bul{N:Int}{t:Int->Lk}{g:Int}(hg:(t g).lv=false){k:Int}(hk:Al N t k):Al N (Yt t g) k:=by
 refine A7c (fun y hy=> ?_) hk;exact⟨(Yy hg).2 hy.lv,by rw[Xy hg hy.lv],fun hc _=>(tm hg hy.lv).2 hc⟩
theorem Bum{N:Int}{t t':Int->Lk}(h: ∀x,0<=x/\x<N->t' x=t x){k:Int}(hk:Al N t k):Al N t' k:=by
 refine A7c (fun y hy=> ?_) hk;have hy1:=hy.lv;simp_all[Cu,Lv]
theorem X7.al{l:List Fy}{t:Int->Lk}(A:V6 l t){k:Int}(h:X7 l k):Al l.length t k:=by
 obtain⟨t',A',h'⟩:=h;exact Bum (fun x hx=>by rw[A x hx,A' x hx]) h'
theorem Bdl{w w':H4}{t t':Int->Lk}(R:Rg w.o)(R':Rg w'.o)(A:V6 w.o t)(A':V6 w'.o t')(F:V4 w.o.length t (Wh w.p))(hc:w'.C=w.C)(hl:w'.o.length=w.o.length)
  (hn: ∀k,Al w.o.length t k->Al w.o.length t' k/\(t' k).up=(t k).up/\ ∃a b c,gt w'.o k=Y8 (gt w.o k) a b c):Y9 w w':=by
 refine⟨hc,hl,fun k hk=> ?_⟩;have h:=hk.al A;obtain⟨h1,h2,h3⟩:=hn k h;refine⟨⟨t',A',by grind⟩,h3,fun n=> ?_⟩;rw[A2y A' R',A2y A R,hl];obtain⟨d,U⟩:=F.uw;exact A2u _ _ fun y hy=>(hn y ((Bc2 U n k h).1 y hy).2).2.1
theorem Bun{α:Type}[Inhabited α](a:α)(l:List α){i:Nat}(h:i<l.length):gt (a::l) ((i+1:Nat):Int)=gt l (i:Int):=by
 rfl
theorem A7d{α:Type}[Inhabited α](f:α->Nat): ∀(l l':List α),l'.length=l.length->(∀x:Nat,x<l.length->f (gt l' (x:Int))=f (gt l (x:Int)))->(l'.map f).sum=(l.map f).sum:=by
 intro l;induction l with
 |nil=>grind
 |cons a l ih=>
  intro l' h hx;cases l' with
  |nil=>simp at h
  |cons b l'=>
   have hl:l'.length=l.length:=by grind
   have h0:=hx 0 (by simp);have:=ih l' hl fun x h=>by
    have:=hx (x+1) (by grind);assumption
   simp only[Z8,List.sum_cons,this];rw[show f b=f a from h0]
theorem Buo{α:Type}[Inhabited α](f:α->Nat): ∀(l l':List α) (g:Nat),l'.length=l.length->g<l.length->(∀x:Nat,x<l.length->x≠g->f (gt l' (x:Int))=f (gt l (x:Int)))->(l'.map f).sum+f (gt l (g:Int))=(l.map f).sum+f (gt l' (g:Int)):=by
 intro l;induction l with
 |nil=>grind
 |cons a l ih=>
  intro l' g h hg hx;cases l' with
  |nil=>simp at h
  |cons b l'=>
   have hl:l'.length=l.length:=by grind
   simp only[Z8,List.sum_cons];cases g with
   |zero=>
    have:=A7d f l l' hl fun x h=>by
     have:=hx (x+1) (by grind) (by omega);assumption
    rw[this];show f b+_+f a=f a+_+f b;omega
   |succ g=>
    have hg:g<l.length:=by grind
    have h0:f b=f a:=hx 0 (by simp) (by omega);have:=ih l' g hl hg fun x h hn=>by
     have:=hx (x+1) (by grind) (by omega);assumption
    grind [Bun]
theorem dv{f:Fy->Nat}{l l':List Fy}{g:Int}(hl:l'.length=l.length)(hg:0<=g/\g<(l.length:Int))(hx: ∀x,0<=x/\x<(l.length:Int)->x≠g->f (gt l' x)=f (gt l x)):(l'.map f).sum+f (gt l g)=(l.map f).sum+f (gt l' g):=by
 have:=Buo f l l' g.toNat hl (by omega) fun x h hn=>hx x ⟨by omega,by omega⟩ (by omega)
 rwa[show((g.toNat:Nat):Int)=g by omega]at this
theorem Ae5 (c:Sv){st:Int}(h:st≠1)(g:Int):Wj c (We st g)=0:=by unfold Wj We;rw[if_neg h]
structure pu (w w':H4)(E:Int):Prop where
 inv:Bd w'
 mem: ∀x∈w'.Q.g,0<=x/\x<=255
 ep: ∀k,0<=k/\k<(w'.o.length:Int)->Zy E (gt w'.o k)
 pot:pot w'<pot w
 wt:wt w'<=wt w
 stay:Y9 w w'
 cn:cnt w'<=cnt w
theorem pu.good{w w':H4}{E:Int}(S:pu w w' E){n:Nat}(G:Ch w E n):Ch w' E n:=⟨S.inv,S.mem,S.ep,by have:=S.wt;have:=G.wt;omega,by have:=S.cn;have:=G.cn;omega⟩
theorem Bup{w:H4}{E:Int}{n:Nat}(G:Ch w E n){x:G9}{qs:List G9}(hq:w.p=x::qs)(h0:0<x.j.length):pu w (bb w x qs) E:=by
 have e:Xm w.C (Ze x)+1=Xm w.C x:=by
  grind [Xm,Ze]
 have ep:pot (bb w x qs)+1=pot w:=by
  unfold pot;rw[hq];show(w.o.map (Wj w.C)).sum+((Ze x::qs).map (Xm w.C)).sum+1=_
  grind
 refine⟨Bdd G.inv hq h0,G.mem,G.ep,by omega,?_,Bdk rfl rfl,by unfold cnt;rw[hq];exact Z9 _⟩;unfold wt;show pot (bb w x qs)+(w.q++[_]).length<=_
 grind
theorem Buq{w:H4}{E:Int}{n:Nat}(G:Ch w E n){x:G9}{qs:List G9}(hq:w.p=x::qs)(hc:0<x.L.length):pu w (pt w x qs) E:=by
 have X:=A24 G.inv hq hc;have b0:=Gy X.rc.conf;have ht:=X.to;have hd:=X.rc.done;have e:Xm w.C (bc w x)<Xm w.C x:=by
  have hm:w.C.k.toNat*x.L.length=w.C.k.toNat*(x.L.length - 1)+w.C.k.toNat:=by
   conv=>lhs;rw[show x.L.length=x.L.length - 1+1 by omega]
   rfl
  grind [bc,Xm]
 have ep:pot (pt w x qs)<pot w:=by
  unfold pot;rw[hq];show(w.o.map (Wj w.C)).sum+((bc w x::qs).map (Xm w.C)).sum<_
  grind
 refine⟨Bui G.inv hq hc,Buh G.mem,G.ep,ep,?_,Bdk rfl rfl,by unfold cnt;rw[hq];exact Z9 _⟩;unfold wt;show pot (pt w x qs)+w.q.length<=_;omega
theorem Bdm{w:H4}(I:Bd w){t:Int->Lk}(A:V6 w.o t)(F:V4 w.o.length t (Wh w.p)){x:G9}{qs:List G9}(hq:w.p=x::qs)(hf:x.i≠0):
  (∀y,0<=y/\y<(w.o.length:Int)->y≠x.i - 1->gt (Yl w.o (x.i - 1)) y=tr (gt w.o (x.i - 1)) (gt w.o y) (x.i - 1) y)/\gt (Yl w.o (x.i - 1)) (x.i - 1)=We 2 (gt w.o (x.i - 1)).a:=by
 have X:=Ae3 I A F hq hf;exact⟨fun y hy hne=>Bdg I.rg X.lv.1 hy hne X.pv (X.nf y hy),Bdh X.lv.1⟩
theorem Bur{w:H4}{E:Int}{n:Nat}(G:Ch w E n)(hE:0<=E){x:G9}{qs:List G9}(hq:w.p=x::qs)(hf:x.i≠0):pu w (Xj w x qs) E:=by
 obtain⟨t,A,F⟩:=G.inv.forest;have X:=Ae3 G.inv A F hq hf;obtain⟨hg,hb⟩:=Bdm G.inv A F hq hf;have hk:=X.lv.1;have L:=G.inv.live A X.lv;have I':=Bdj G.inv hq hf;have hN:=A7b w.o (x.i - 1);have hs:=dv (f:=Wj w.C) hN hk fun y hy hne=>by rw[hg y hy hne];rfl
 rw[hb,Ae5 _ (by decide)]at hs;have e1:Wj w.C (gt w.o (x.i - 1))=2+(gt w.o (x.i - 1)).j.length+w.C.k.toNat*(gt w.o (x.i - 1)).L.length:=by unfold Wj;rw[if_pos L.st]
 have e2:Xm w.C (Wn (gt w.o (x.i - 1)) x.i)=1+(gt w.o (x.i - 1)).j.length+w.C.k.toNat*(gt w.o (x.i - 1)).L.length:=rfl;have e3:Xm w.C (Zz w.o x)=Xm w.C x:=rfl;have ep:pot (Xj w x qs)<pot w:=by
  unfold pot;rw[hq];show((Yl w.o (x.i - 1)).map (Wj w.C)).sum+((Wn (gt w.o (x.i - 1)) x.i::Zz w.o x::qs).map (Xm w.C)).sum<_
  grind
 have hs2:=dv (f:=Wv) hN hk fun y hy hne=>by rw[hg y hy hne];rfl
 have el:Wv (gt w.o (x.i - 1))=1:=by unfold Wv;rw[if_pos L.st]
 have eb:Wv (gt (Yl w.o (x.i - 1)) (x.i - 1))=0:=by rw[hb];rfl
 refine⟨I',?_,fun y hy=> ?_,ep,?_,?_,?_⟩
 ·show ∀y∈(V8 w.Q _).g,_;rw[(ld G.inv hk).2.1];exact G.mem
 ·have hy:0<=y/\y<((Yl w.o (x.i - 1)).length:Int):=hy;rw[hN]at hy;show Zy E (gt (Yl w.o (x.i - 1)) y);by_cases e:y=x.i - 1
  ·rw[e,hb];exact⟨hE,hE,⟨Int.le_refl 0,by show(0:Int)<=1000;omega⟩⟩
  ·rw[hg y hy e];have:=G.ep y hy;exact⟨this.ep,this.ue,this.cur⟩
 ·unfold wt;show pot (Xj w x qs)+w.q.length<=_;omega
 ·refine Bdl G.inv.rg I'.rg A (A7a A hk hN hg hb) F rfl hN fun y hy=> ?_
  have hne:y≠x.i - 1:=fun e=>hy.noOr (e ▸ X.or);exact⟨Buk X.or hy,by rw[V3 hne],_,_,_,hg y hy.lv.1 hne⟩
 ·unfold cnt;rw[hq];show((Yl w.o (x.i - 1)).map Wv).sum+(qs.length+1+1)<=(w.o.map Wv).sum+(qs.length+1);omega
def lq (n:Fy)(gens:Int):Fy:=if gens<=n.a then We 3 n.a else We 0 (n.a+1)
def Wi (w:H4)(x:G9):List Fy:=if x.d=0 then w.o else w.o.set (x.d - 1).toNat (lq (gt w.o (x.d - 1)) w.C.n)
def Za (w:H4)(x:G9)(qs:List G9):H4:=H4.mk w.C w.Q (Wi w x) qs w.q
theorem A25 (w:H4)(x:G9):(Wi w x).length=w.o.length:=by grind [Wi]
structure Ae6 (w:H4)(x:G9)(qs:List G9):Prop where
 rc:pr w.C x
 k:x.d≠0->0<=x.d - 1/\x.d - 1<(w.o.length:Int)
 st:x.d≠0->(gt w.o (x.d - 1)).c=2
 gn:x.d≠0->1<=(gt w.o (x.d - 1)).a/\(gt w.o (x.d - 1)).a<=w.C.n
 no:x.d≠0->x.d - 1 ∉ Vv qs
theorem Ae7{w:H4}(I:Bd w){x:G9}{qs:List G9}(hq:w.p=x::qs):Ae6 w x qs:=by
 have R:=Y0.1 (co I hq).1;have b0:=Gy I.conf;have hx:x∈w.p:=by grind
 have hs:=R.slot;have h1:x.d≠0->(0<=x.d - 1/\x.d - 1<(w.o.length:Int))/\(gt w.o (x.d - 1)).c=2:=fun h=>by
  have:=Bc5 hx h;rw[V9 (by omega)]at this;exact(I.sli _).1 this
 refine⟨R,fun h=>(h1 h).1,fun h=>(h1 h).2,fun h=>(lc (I.node _ (h1 h).1)).2.2,fun h=> ?_⟩;have:=I.sln;rw[hq]at this;have this:((if x.d=0 then []else [Ap x.d 1])++Vv qs).Nodup:=this;rw[if_neg h,V9 (by omega)]at this
 grind
theorem Bus{w:H4}{x:G9}{qs:List G9}(X:Ae6 w x qs){y:Int}(hy:0<=y/\y<(w.o.length:Int)):gt (Wi w x) y=if x.d≠0/\y=x.d - 1 then lq (gt w.o y) w.C.n else gt w.o y:=by
 unfold Wi;by_cases h:x.d=0
 ·grind
 ·rw[if_neg h,Yz (X.k h) hy]
  grind
theorem But{n:Fy}{gens:Int}(h:1<=n.a/\n.a<=gens): ∃st g,lq n gens=We st g/\(st=0\/st=3)/\1<=g/\g<=gens:=by
 unfold lq;split
 all_goals grind
theorem cq{w:H4}{x:G9}{qs:List G9}(X:Ae6 w x qs){y:Int}(hy:0<=y/\y<(w.o.length:Int)):(gt (Wi w x) y=gt w.o y/\ ¬(x.d≠0/\y=x.d - 1))\/((x.d≠0/\y=x.d - 1)/\(gt w.o y).c=2/\ ∃st g,gt (Wi w x) y=We st g/\(st=0\/st=3)/\1<=g/\g<=w.C.n):=by
 rw[Bus X hy];by_cases h:x.d≠0/\y=x.d - 1
 ·rw[if_pos h];refine .inr ⟨h,by rw[h.2];exact X.st h.1,?_⟩;exact But (by rw[h.2];exact X.gn h.1)
 grind
theorem Bdn{w:H4}(I:Bd w){t:Int->Lk}(A:V6 w.o t)(F:V4 w.o.length t (Wh w.p)){x:G9}{qs:List G9}(hq:w.p=x::qs)(hf:x.i=0):
  ∃t',V6 (Wi w x) t'/\V4 w.o.length t' (Wh qs)/\(∀k,Al w.o.length t k->Al w.o.length t' k/\(t' k).up=(t k).up):=by
 have X:=Ae7 I hq;have F1:V4 w.o.length t ((x.d,0)::Wh qs):=by rw[hq]at F;rw[<-hf];exact F
 by_cases h:x.d=0
 ·refine⟨t,?_,Bc1 F1,fun k hk=>⟨hk,rfl⟩⟩;simp_all[Wi]
 ·have hk:=X.k h;have hlv:(t (x.d - 1)).lv=false:=by rw[A _ hk];show((gt w.o (x.d - 1)).c==1)=false;rw[X.st h];rfl
  refine⟨Yt t (x.d - 1),fun y hy=> ?_,Bty F1 h fun e he e2=> ?_,fun k hk=>⟨Bul hlv hk,by rw[Xy hlv hk.lv]⟩⟩
  ·rw[A25]at hy;unfold Yt;rcases cq X hy with ⟨e,f⟩|⟨f,_,st,g,e,hs,_⟩
   ·rw[if_neg (fun r=>f ⟨h,r⟩),e,A y hy]
   ·rw[if_pos f.2,e];rcases hs with s|s<;>subst s<;>rfl
  ·obtain⟨z,hz,e3⟩:=A8.1 he;have e3:z.d=e.1:=by grind
   refine X.no h (List.mem_flatMap.2 ⟨z,hz,?_⟩);have hs:=X.rc.slot;have b0:=Gy I.conf;rw[e3,e2,if_neg h,V9 (by omega)];simp
theorem Bdo{w:H4}(I:Bd w){x:G9}{qs:List G9}(hq:w.p=x::qs)(hc:x.L=[])(hf:x.i=0):Bd (Za w x qs):=by
 obtain⟨t,A,F⟩:=I.forest;have X:=Ae7 I hq;obtain⟨t',A',F',_⟩:=Bdn I A F hq hf;have hN:=A25 w x;have hch:Vw w.p=Vw qs:=by rw[hq];show x.L++_=_;rw[hc];rfl
 have hsl:Vv w.p=(if x.d=0 then []else [Ap x.d 1])++Vv qs:=by rw[hq];rfl
 have hsn:=I.sln;rw[hsl]at hsn;refine⟨I.pool,by show((Wi w x).length:Int)=_;rw[hN];exact I.len,fun y hy=> ?_,fun y hy c=> ?_,fun y hy=> ?_,⟨t',A',by show V4 ((Wi w x).length:Int) t' _;rw[hN];exact F'⟩,fun y hy=>I.wrec y (by rw[hq];exact Pv _ hy),by show(Vw qs).Nodup;grind [Bd.chn],fun c=>by show c∈Vw qs ↔ _;rw[<-hch];exact I.chi c,?_,fun s=> ?_,I.log⟩
 ·have hy:0<=y/\y<((Wi w x).length:Int):=hy;rw[hN]at hy;show Wr w.C (gt (Wi w x) y)=true
  grind [cq,Bd.node,A2z,Bd.conf]
 ·have hy:0<=y/\y<((Wi w x).length:Int):=hy;rw[hN]at hy;show c∈(gt (Wi w x) y).L ↔ _;rcases cq X hy with ⟨e,_⟩|⟨_,h2,st,g,e,hs,hg⟩
  ·rw[e];exact I.own y hy c
  ·rw[e];have:=I.own y hy c;rw[ba (I.node y hy) (by omega)]at this;exact this
 ·have hy:0<=y/\y<((Wi w x).length:Int):=hy;rw[hN]at hy;show(gt (Wi w x) y).y.all (W7 w.C (gt (Wi w x) y).L)=true/\Y3 (gt (Wi w x) y).y=true/\X2 w.C w.Q.g (gt (Wi w x) y)=true;rcases cq X hy with ⟨e,_⟩|⟨_,h2,st,g,e,hs,hg⟩
  ·grind [Bd.thing]
  ·rw[e];exact⟨rfl,rfl,rfl⟩
 ·exact(ck.1 hsn).2.1
 ·show s∈Vv qs ↔ (0<=s/\s<((Wi w x).length:Int))/\(gt (Wi w x) s).c=2;have hi:=I.sli s;rw[hsl,C5]at hi;have hss:=X.rc.slot;have b0:=Gy I.conf;rw[hN];constructor
  ·intro h;obtain⟨a,b⟩:=hi.1 (.inr h);refine⟨a,?_⟩;rcases cq X a with ⟨e,_⟩|⟨⟨h1,h2⟩,_⟩
   ·grind
   ·rw[h2]at h;grind [Ae6.no]
  ·rintro⟨a,b⟩;rcases cq X a with ⟨e,f⟩|⟨_,_,st,g,e,hs,_⟩
   ·rw[e]at b;rcases hi.2 ⟨a,b⟩with h|h
    ·by_cases q:x.d=0
     ·grind
     ·rw[if_neg q,V9 (by omega),Dt]at h;omega
    ·exact h
   ·rw[e]at b;have b:st=2:=b;omega
theorem Buu{w:H4}{E:Int}{n:Nat}(G:Ch w E n)(hE:0<=E){x:G9}{qs:List G9}(hq:w.p=x::qs)(hc:x.L=[])(hf:x.i=0):pu w (Za w x qs) E:=by
 obtain⟨t,A,F⟩:=G.inv.forest;have X:=Ae7 G.inv hq;obtain⟨t',A',F',hal⟩:=Bdn G.inv A F hq hf;have I':=Bdo G.inv hq hc hf;have hN:=A25 w x;have hs:((Wi w x).map (Wj w.C)).sum=(w.o.map (Wj w.C)).sum:=A7d _ _ _ hN fun y hy=>by
  rcases cq X (y:=(y:Int)) ⟨by omega,by omega⟩with ⟨e,_⟩|⟨_,h2,st,g,e,hs,hg⟩
  ·rw[e]
  ·rw[e,Ae5 _ (by omega)];simp_all[Wj]
 have ep:pot (Za w x qs)<pot w:=by
  have h1:1<=Xm w.C x:=by grind [Xm]
  unfold pot;rw[hq];show((Wi w x).map (Wj w.C)).sum+(qs.map (Xm w.C)).sum<_
  grind
 have hs2:((Wi w x).map Wv).sum=(w.o.map Wv).sum:=A7d _ _ _ hN fun y hy=>by
  rcases cq X (y:=(y:Int)) ⟨by omega,by omega⟩with ⟨e,_⟩|⟨_,h2,st,g,e,hs,hg⟩
  ·rw[e]
  ·rw[e];unfold Wv;rw[if_neg (by show ¬st=1;omega),if_neg (by omega)]
 refine⟨I',G.mem,fun y hy=> ?_,ep,?_,?_,by unfold cnt;rw[hq];show((Wi w x).map Wv).sum+qs.length<=_+(qs.length+1);omega⟩
 ·have hy:0<=y/\y<((Wi w x).length:Int):=hy;rw[hN]at hy;show Zy E (gt (Wi w x) y);rcases cq X hy with ⟨e,_⟩|⟨_,h2,st,g,e,hs,hg⟩
  ·grind [Ch.ep]
  ·rw[e];exact⟨hE,hE,⟨Int.le_refl 0,by show(0:Int)<=1000;omega⟩⟩
 ·unfold wt;show pot (Za w x qs)+w.q.length<=_;omega
 ·refine Bdl G.inv.rg I'.rg A A' F rfl hN fun y hy=> ?_;refine⟨(hal y hy).1,(hal y hy).2,?_⟩;rcases cq X hy.lv.1 with ⟨e,_⟩|⟨_,h2,_⟩
  ·exact⟨_,_,_,e⟩
  ·have:=((Y7 A).1 hy.lv).2;omega
section
variable {K:Nat} (hK:281474976710656<=K)
include hK
theorem Bdp (w:H4)(hw:Yi w.Q)(l:List Int)(hl:l.length<=140737488355327):iz K w l=some (H4.mk w.C (V8 w.Q l) w.o w.p w.q):=by
 unfold iz;refine A6m hK l (by omega) X4 w.Q Yi hw (fun s x h=>(A6l h x).1) _ (fun n s i=>bn K l n i w.C.L w.C.k w.C.l w.C.e w.C.m w.C.n s.g s.c s.h w.o w.p w.q) (fun n s i h hs=> ?_) (fun n=> ?_)
 ·simp only[bn];rw[P2 h,cond_true,if_pos (K0 h),Gz h,show Pc.mk s.g s.c s.h=s from rfl,Bcl K hs,Z0,K1 (by omega)]
 ·show bn K l (n+1) _ _ _ _ _ _ _ _ _ _ _ _ _=_;rw[bn,W2 (Z9 _),cond_false];rfl
theorem Buv{w:H4}(I:Bd w)(hw:Wp w)(hQ:w.p.length<=1000000000){x:G9}{qs:List G9}(hq:w.p=x::qs)(hf:x.i≠0):re K w=some (Xj w x qs):=by
 have hm:=V2;obtain⟨t,A,F⟩:=I.forest;have X:=Ae3 I A F hq hf;have hk:=X.lv.1;have hF:=X.rc.first;have L:=I.live A X.lv;have b0:=Gy I.conf;have hlen:=I.len;have hn:=hw.l.1 _ (Wq hk.1 hk.2);have e1:Ap x.i 1=x.i - 1:=V9 (by omega);have e2:A4 (x.i - 1) 1=x.i:=by grind [Ye]
 have hnx:=L.next;have hlq:(w.p).length=qs.length+1:=by grind
 have hj: ∀(l:List Fy) (q:List G9),l.length=w.o.length->q.length=w.p.length->mj K (gt w.o (x.i - 1)) (x.i - 1) w.C.L w.C.k w.C.l w.C.e w.C.m w.C.n w.Q.g w.Q.c w.Q.h l q w.q=some (H4.mk w.C (V8 w.Q (gt w.o (x.i - 1)).L) (l.set (x.i - 1).toNat (We 2 (gt w.o (x.i - 1)).a)) (Wn (gt w.o (x.i - 1)) x.i::q) w.q):=by
  intro l q hl1 hq1;have h8:=hn.tags.2;have h9:=hn.chunks.2;unfold mj;rw[Bdp hK (H4.mk w.C w.Q l q w.q) hw.p _ (Yb hK hn.chunks),Z0];unfold rb Am3;simp only[Z0,Hd,List.singleton_append,Z28];simp only[hl1,if_pos hk,e2,Z0]
  iterate 4 (try rw[if_pos (by omega)])
  try simp only[Z0]
  iterate 4 (try rw[if_pos (by omega)])
  rfl
 unfold re;rw[hq,ib,if_pos ⟨by omega,by simp⟩,e1];simp only[if_pos hk];rw[gq K hn,Z0,if_pos ⟨by omega,by simp⟩,ka,Z0];unfold Xj Yl;have hp:Wm w.o (gt w.o (x.i - 1)).u=decide (1<=(gt w.o (x.i - 1)).u/\(gt w.o (x.i - 1)).u<=(w.o.length:Int)):=by
  rw[Bool.eq_iff_iff,tp (by omega) (by omega),decide_eq_true_iff];omega
 rw[hp];by_cases q:1<=(gt w.o (x.i - 1)).u/\(gt w.o (x.i - 1)).u<=(w.o.length:Int)
 ·rw[decide_eq_true q];simp only[cond_true];rw[V9 (by omega),if_pos (by omega)];unfold Ax5;exact hj _ _ (by grind) (by grind)
 ·rw[decide_eq_false q];simp only[cond_false];exact hj _ _ rfl (by grind)
theorem Bdq{l:List Fy}(hl:V0 l){k gens:Int}(hk:0<=k/\k<(l.length:Int))(hg:0<=(gt l k).a/\(gt l k).a<=1000):Axy K l k gens=some (l.set k.toNat (lq (gt l k) gens)):=by
 unfold Axy bi Axx lq;rw[A2n hK hl,Z0,jz K (Ww hl),decide_eq_true hk];simp only[Z0,Bool.not_true,cond_false,if_pos hk];rw[Ye (by omega) (by omega)];by_cases q:gens<=(gt l k).a
 ·rw[decide_eq_true (show(gt l k).a>=gens from q),if_pos q];rfl
 ·rw[decide_eq_false (show ¬(gt l k).a>=gens from q),if_neg q];rfl
theorem A26{w:H4}{E:Int}{n:Nat}(G:Ch w E n)(hE:0<=E/\E<=1000000000)(hn:n<=1000000000)(h0:0<w.p.length): ∃w',mq K w=some w'/\pu w w' E:=by
 have hm:=V2;have W:=G.ww hE.2 hn;have h1:=lf w;have h2:=po w;have h3:=G.wt;cases hq:w.p with
 |nil=>grind
 |cons x qs=>
 have R:=Y0.1 (co G.inv hq).1;have hlq:(w.p).length=qs.length+1:=by grind
 unfold mq Al4;rw[hq,ib,if_pos ⟨by omega,by simp⟩];by_cases c1:0<x.j.length
 ·refine⟨_,?_,Bup G hq c1⟩;rw[decide_eq_true (show(x.j.length:Int)>0 by omega)];simp only[cond_true,Z0,beq_self_eq_true]
  grind [Bud,pr.ntag]
 ·rw[decide_eq_false (show ¬(x.j.length:Int)>0 by omega)];by_cases c2:0<x.L.length
  ·refine⟨_,?_,Buq G hq c2⟩;rw[decide_eq_true (show(x.L.length:Int)>0 by omega)];simp only[cond_true,cond_false,Z0];rw[show((2:Int)==1)=false from rfl,show((2:Int)==2)=true from rfl];simp only[cond_true,cond_false];rw[Buf hK G.inv W.p hq c2];rfl
  ·rw[decide_eq_false (show ¬(x.L.length:Int)>0 by omega)];have hc:x.L=[]:=Ec.1 (by omega);by_cases c3:x.i=0
   ·refine⟨_,?_,Buu G hE.1 hq hc c3⟩;have X:=Ae7 G.inv hq;have hs:=R.slot;have b0:=Gy G.inv.conf;have et:((x::qs).drop (1:Int).toNat).take (((x::qs).length:Int) - 1).toNat=qs:=by
     simp_all
    rw[c3];simp only[bne_self_eq_false,cond_false,Z0];rw[show((4:Int)==1)=false from rfl,show((4:Int)==2)=false from rfl,show((4:Int)==3)=false from rfl];simp only[cond_false];have hl1:(((x::qs).length:Nat):Int)=(qs.length:Int)+1:=by simp
    have hj: ∀l:List Fy,mo K w.C.L w.C.k w.C.l w.C.e w.C.m w.C.n w.Q.g w.Q.c w.Q.h l (x::qs) w.q=some (H4.mk w.C w.Q l qs w.q):=by
     intro l;unfold mo;rw[et,Hd,hl1,if_pos (show(0:Int)<=1/\(1:Int)<=(qs.length:Int)+1/\(qs.length:Int)+1<=(qs.length:Int)+1 from⟨by omega,by omega,by omega⟩),if_pos (show qs.length*72<=140737488355328/\qs.length<=maxLen from⟨by omega,by omega⟩)]
    rw[if_pos ⟨by omega,by simp⟩];unfold Za Wi;by_cases q:x.d=0
    ·grind
    ·have hgn:=X.gn q;rw[Yg q,if_neg q,cond_true,if_pos ⟨by omega,by simp⟩,V9 (by omega),Bdq hK W.l (X.k q) ⟨by omega,by omega⟩,Z0];exact hj _
   ·refine⟨_,?_,Bur G hE.1 hq c3⟩;rw[Yg c3];simp only[cond_true,cond_false,Z0];rw[show((3:Int)==1)=false from rfl,show((3:Int)==2)=false from rfl,show((3:Int)==3)=true from rfl];simp only[cond_true,cond_false];rw[Buv hK G.inv W (by omega) hq c3];rfl
structure Steps (w w':H4)(E:Int)(n:Nat):Prop where
 good:Ch w' E n
 stay:Y9 w w'
theorem Buw{E:Int}{n:Nat}(hE:0<=E/\E<=1000000000)(hn:n<=1000000000)(m:Int): ∀(f:Nat) (i:Int) (w:H4),Ch w E n->pot w<f-> ∃r w',wk K m f i w.C.L w.C.k w.C.l w.C.e w.C.m w.C.n w.Q.g w.Q.c w.Q.h w.o w.p w.q=some (r,w')/\Steps w w' E n:=by
 intro f;induction f with
 |zero=>omega
 |succ f ih=>
  intro i w G hf;rw[wk];cases decide (i<m)with
  |false=>exact⟨m,w,rfl,G,Y9.refl w⟩
  |true=>
  simp only[cond_true];by_cases q:w.p.length=0
  ·rw[q];exact⟨i,w,rfl,G,Y9.refl w⟩
  ·obtain⟨w1,e1,S⟩:=A26 hK G hE hn (by omega);have hp:=S.pot;obtain⟨r,w2,e2,S2⟩:=ih (A4 i 1) w1 (S.good G) (by omega);refine⟨r,w2,?_,S2.good,S.stay.trans S2.stay⟩;simp_all[Wg]
theorem A27{E:Int}{n:Nat}(hE:0<=E/\E<=1000000000)(hn:n<=1000000000)(m:Int){w:H4}(G:Ch w E n): ∃r w',wl K w m=some (r,w')/\Steps w w' E n:=by
 have:=G.wt;unfold wt at this;exact Buw hK hE hn m K 0 w G (by omega)
def Zs (p:Pc)(at_ n:Int):Bool:=decide (0<=at_)&&(decide (1<=n)&&(decide (at_+n<=(p.c.length:Int))&&(List.range n.toNat).all (fun k=>gt p.c (at_+(k:Int))==0)))
omit hK in
theorem lr{p:Pc}{a n:Int}:Zs p a n=true ↔ 0<=a/\1<=n/\a+n<=(p.c.length:Int)/\ ∀c,a<=c/\c<a+n->gt p.c c=0:=by
 unfold Zs;simp only[Z4,decide_eq_true_eq,Z1,List.mem_range,beq_iff_eq];refine and_congr_right fun h1=>and_congr_right fun h2=>and_congr_right fun h3=> ?_;constructor
 ·intro h c hc;have:=h (c - a).toNat (by omega)
  grind
 grind
theorem Bdr{p:Pc}(hp:p.c.length<=1000000000){a n:Int}(ha: -1000000000<=a/\a<=1000000000)(hn: -1000000000<=n/\n<=1000000000):vp K p a n=some (Zs p a n):=by
 unfold vp Zs;by_cases h1:a<0
 ·grind
 rw[decide_eq_false h1,decide_eq_true (by omega:0<=a)];by_cases h2:n<1
 ·grind
 rw[decide_eq_false h2,decide_eq_true (by omega:1<=n)];simp only[cond_false,Z30];have es:Ap (p.c.length:Int) a=(p.c.length:Int) - a:=by grind [Ap,Aly,Vr]
 rw[es];by_cases h3:a+n<=(p.c.length:Int)
 ·rw[decide_eq_false (by omega),decide_eq_false (by omega),decide_eq_true h3];simp only[cond_false,Z30];have ea:A4 a n=a+n:=by grind [A4,Fp,Vr]
  have:=Yp hK n.toNat (by omega) (fun k=>gt p.c (a+(k:Int))==0) (some true) (fun f i=>qq K a n f (a+i) p.g p.c p.h) (fun f i h=> ?_) (fun f=> ?_)
  ·grind
  ·simp only[qq];have e1:A4 (a+(i:Int)) 1=a+((i+1:Nat):Int):=by grind [Ye]
   grind
  grind [qq]
 grind
theorem Bds{p:Pc}(hp:p.c.length<=1000000000){n:Int}(hn: -1000000000<=n/\n<=1000000000): ∃r,Al0 K p n=some r/\(r= -1\/Zs p r n=true):=by
 have key: ∀(f i:Nat),i<=p.c.length->p.c.length - i<f-> ∃r,vq K n f (i:Int) p.g p.c p.h=some r/\(r= -1\/Zs p r n=true):=by
  intro f;induction f with
  |zero=>omega
  |succ f ih=>
   intro i hi hf;rw[vq];rcases Bj i p.c.length with h|h
   ·rw[P2 h,cond_true,show Pc.mk p.g p.c p.h=p from rfl,Bdr hK hp ⟨by omega,by omega⟩ hn,Z0];cases e:Zs p (i:Int) n with
    |true=>grind
    |false=>
     grind [K1]
   grind
 exact key K 0 (Hc _) (by omega)
theorem Bux{E:Int}{n:Nat}(hE:0<=E/\E<=1000000000)(hn:n<=1000000000)(a:Int){run:Int}(hr: -1000000000<=run/\run<=1000000000): ∀(f:Nat) (i:Int) (w:H4),Ch w E n->pot w<f-> ∃r w',mr K a run f i w.C.L w.C.k w.C.l w.C.e w.C.m w.C.n w.Q.g w.Q.c w.Q.h w.o w.p w.q=some (r,w')/\Steps w w' E n:=by
 intro f;induction f with
 |zero=>omega
 |succ f ih=>
  intro i w G hf;have W:=G.ww hE.2 hn;have hst:=(W4.1 G.inv.pool).st;have b0:=Gy G.inv.conf;have hlen:=G.inv.len;rw[mr];have hw:H4.mk (Sv.mk w.C.L w.C.k w.C.l w.C.e w.C.m w.C.n) (Pc.mk w.Q.g w.Q.c w.Q.h) w.o w.p w.q=w:=rfl;have hp:Pc.mk w.Q.g w.Q.c w.Q.h=w.Q:=rfl;obtain⟨cn,hcn⟩: ∃cn,qp K w.o 0=some cn:=⟨_,Bcf hK w.o 0 (by omega)⟩;rw[hw,hp,hcn];by_cases q:0<w.p.length
  ·obtain⟨w1,e1,S⟩:=A26 hK G hE hn q;have hpot:=S.pot;obtain⟨r,w2,e2,S2⟩:=ih (A4 i 1) w1 (S.good G) (by omega);have hgo: ∃r w',vz K i w.C.L w.C.k w.C.l w.C.e w.C.m w.C.n w.Q.g w.Q.c w.Q.h w.o w.p w.q (mr K a run f)=some (r,w')/\Steps w w' E n:=by
    refine⟨r,w2,?_,S2.good,S.stay.trans S2.stay⟩;simp_all[vz]
   have hno: ∃r w',(some (i,w):Option (Int×H4))=some (r,w')/\Steps w w' E n:=⟨_,_,rfl,G,Y9.refl w⟩;obtain⟨r5,e5,_⟩:=Bds hK (p:=w.Q) (by omega) hr
   grind
  ·rw[decide_eq_false (show ¬(w.p.length:Int)>0 by omega)];exact⟨_,_,rfl,G,Y9.refl w⟩
theorem A7e{E:Int}{n:Nat}(hE:0<=E/\E<=1000000000)(hn:n<=1000000000)(a:Int){run:Int}(hr: -1000000000<=run/\run<=1000000000){w:H4}(G:Ch w E n): ∃r w',wa K w a run=some (r,w')/\Steps w w' E n:=by
 have:=G.wt;unfold wt at this;exact Bux hK hE hn a hr K 0 w G (by omega)
theorem Buy{l:List Fy}(hl:l.length<=1000000000): ∃r,A4a K l=some r/\(r= -1\/(0<=r/\r<(l.length:Int))/\(gt l r).c=0):=by
 have key: ∀(f i:Nat),i<=l.length->l.length - i<f-> ∃r,wb K l f (i:Int)=some r/\(r= -1\/(0<=r/\r<(l.length:Int))/\(gt l r).c=0):=by
  intro f;induction f with
  |zero=>omega
  |succ f ih=>
   intro i hi hf;rw[wb];rcases Bj i l.length with h|h
   ·rw[P2 h,cond_true,if_pos (K0 h),K1 (by omega)]
    grind
   grind
 exact key K 0 (Hc _) (by omega)
theorem Bdt{p:Pc}(hp:p.c.length<=1000000000): ∃r,Aye K p=some r/\(r= -1\/Zs p r 1=true):=by
 have key: ∀(f i:Nat),i<=p.c.length->p.c.length - i<f-> ∃r,wg K f (i:Int) p.g p.c p.h=some r/\(r= -1\/Zs p r 1=true):=by
  intro f;induction f with
  |zero=>omega
  |succ f ih=>
   intro i hi hf;rw[wg];rcases Bj i p.c.length with h|h
   ·rw[P2 h,cond_true,if_pos (K0 h),K1 (by omega)];by_cases e:gt p.c (i:Int)=0
    ·rw[e];refine⟨_,rfl,.inr (lr.2 ⟨by omega,by omega,by omega,fun c hc=> ?_⟩)⟩
     grind
    grind
   grind
 exact key K 0 (Hc _) (by omega)
structure tu (p p':Pc)(a n k:Int):Prop where
 mem:p'.g=p.g
 st:p'.c.length=p.c.length
 own:p'.h.length=p.h.length
 one: ∀c,0<=c/\c<(p.c.length:Int)->gt p'.c c=(if a<=c/\c<a+n then 1 else gt p.c c)/\gt p'.h c=(if a<=c/\c<a+n then k else gt p.h c)
theorem A7f{p:Pc}(hw:Yi p)(hp:p.c.length<=1000000)(ho:p.h.length=p.c.length){a n k:Int}(hf:Zs p a n=true): ∃p',ms K p a n k=some p'/\tu p p' a n k:=by
 obtain⟨h1,h2,h3,h4⟩:=lr.1 hf;unfold ms;rw[zq K hw,Bdr hK (by omega) ⟨by omega,by omega⟩ ⟨by omega,by omega⟩,hf,ho];simp only[Z0,cond_true,bne_self_eq_false,cond_false];have ea:A4 a n=a+n:=by grind [A4,Fp,Vr]
 have key: ∀(f i:Nat) (q:Pc),(i:Int)<=n->n.toNat - i<f->tu p q a i k-> ∃p',wh K a n k f (a+(i:Int)) q (Pc.mk [] [] [])=some p'/\tu p p' a n k:=by
  intro f;induction f with
  |zero=>omega
  |succ f ih=>
   intro i q hi hf T;rw[wh,ea];by_cases h:(i:Int)=n
   ·grind
   ·have e1:A4 (a+(i:Int)) 1=a+((i+1:Nat):Int):=by grind [Ye]
    have hs:=T.st;have hso:=T.own;rw[decide_eq_true (by omega),cond_true,if_pos (by omega),if_pos (by omega),e1];refine ih (i+1) _ (by omega) (by omega) ⟨T.mem,by grind,by grind,fun c hc=> ?_⟩;obtain⟨t1,t2⟩:=T.one c hc;simp only;rw[Aez (by omega) (by omega),Aez (by omega) (by omega),t1,t2];omega
 have:=key K 0 p (by omega) (by omega) ⟨rfl,rfl,rfl,fun c hc=>by omega⟩
 grind
end
theorem Bdu{w:H4}(I:Bd w){k:Int}(hk:0<=k/\k<(w.o.length:Int))(p':Pc)(l':List Fy)(t':Int->Lk)(hN:l'.length=w.o.length)
  (ho: ∀x,0<=x/\x<(w.o.length:Int)->x≠k-> ∃a b c,gt l' x=Y8 (gt w.o x) a b c/\(0<=a/\a<=w.C.l)/\(0<=b/\b<=w.C.l)/\(0<=c/\c<=w.C.l))
  (hs2:(gt w.o k).c≠2) (L:Wx w.C (gt l' k)) (A':V6 l' t') (F':V4 w.o.length t' (Wh w.p))
  (P':Zr w.C p') (hm:p'.g=w.Q.g)
  (hone: ∀c,0<=c/\c<w.C.L->(gt p'.c c=2 ↔ gt w.Q.c c=2)/\(gt p'.c c=1/\gt p'.h c=k ↔ c∈(gt l' k).L)/\ ∀x,x≠k->(gt p'.c c=1/\gt p'.h c=x ↔ gt w.Q.c c=1/\gt w.Q.h c=x))
  (hth:(gt l' k).y.all (W7 w.C (gt l' k).L)=true/\Y3 (gt l' k).y=true/\X2 w.C w.Q.g (gt l' k)=true):
  Bd (H4.mk w.C p' l' w.p w.q):=by
 refine⟨W4.2 P',by simp_all[Bd.len],fun x hx=> ?_,fun x hx c=> ?_,fun x hx=> ?_,⟨t',A',by grind⟩,fun x hx=> ?_,I.chn,fun c=> ?_,I.sln,fun s=> ?_,I.log⟩
 ·have hx:0<=x/\x<(l'.length:Int):=hx;rw[hN]at hx;show Wr w.C (gt l' x)=true;by_cases e:x=k
  ·rw[e];exact(Xf.2 L).1
  ·obtain⟨a,b,c,h1,h2,h3,h4⟩:=ho x hx e;rw[h1];by_cases hs:(gt w.o x).c=1
   ·exact(Xf.2 (A61 (Xf.1 ⟨I.node x hx,hs⟩) h2 h3 h4)).1
   ·have X:=ba (I.node x hx) hs;have B:=F'.tree.bare x hx.1 hx.2 (by rw[A' x (by omega),h1];grind [Yk,Y8]);rw[A' x (by omega),h1]at B;obtain⟨_,B2,B3,B4⟩:=B;have q1:a=0:=B2;have q2:b=0:=B3;have q3:c=0:=B4;have this:Y8 (gt w.o x) 0 0 0=gt w.o x:=by rw[X];rfl
    grind [Bd.node]
 ·have hx:0<=x/\x<(l'.length:Int):=hx;rw[hN]at hx;show c∈(gt l' x).L ↔ (0<=c/\c<w.C.L)/\gt p'.c c=1/\gt p'.h c=x;by_cases e:x=k
  ·rw[e];constructor
   ·intro h;have hin:=au L.dist c h
    grind
   grind
  ·obtain⟨a,b,d,h1,_⟩:=ho x hx e;rw[h1];show c∈(gt w.o x).L ↔ _;rw[I.own x hx c];simp_all
 ·have hx:0<=x/\x<(l'.length:Int):=hx;rw[hN]at hx;show(gt l' x).y.all (W7 w.C (gt l' x).L)=true/\Y3 (gt l' x).y=true/\X2 w.C p'.g (gt l' x)=true;rw[hm];by_cases e:x=k
  ·grind
  ·obtain⟨a,b,d,h1,_⟩:=ho x hx e;rw[h1];exact I.thing x hx
 ·obtain⟨a,b⟩:=I.wrec x hx;simp_all[Yc]
 ·show c∈Vw w.p ↔ (0<=c/\c<w.C.L)/\gt p'.c c=2;rw[I.chi c]
  grind
 ·show s∈Vv w.p ↔ (0<=s/\s<(l'.length:Int))/\(gt l' s).c=2;rw[I.sli s,hN];refine and_congr_right fun h=> ?_
  by_cases e:s=k
  ·grind [Wx.st]
  ·obtain⟨a,b,d,h1,_⟩:=ho s h e;rw[h1];rfl
theorem Bdv{w:H4}(I:Bd w){p':Pc}{a n k:Int}(hk:0<=k/\k<(w.o.length:Int))(hf:Zs w.Q a n=true)(T:tu w.Q p' a n k):
  Zr w.C p'/\ ∀c,0<=c/\c<w.C.L->(gt p'.c c=2 ↔ gt w.Q.c c=2)/\(gt p'.c c=1/\gt p'.h c=k ↔ c∈(gt w.o k).L\/a<=c/\c<a+n)/\ ∀x,x≠k->(gt p'.c c=1/\gt p'.h c=x ↔ gt w.Q.c c=1/\gt w.Q.h c=x):=by
 have P:=W4.1 I.pool;obtain⟨f1,f2,f3,f4⟩:=lr.1 hf;have hlen:=I.len;refine⟨⟨P.conf,by rw[T.mem];exact P.mem,by rw[T.st];exact P.st,by rw[T.own];exact P.own,fun c hc=> ?_⟩,fun c hc=> ?_⟩
 ·obtain⟨t1,t2⟩:=T.one c (by rw[P.st];exact hc);obtain⟨p1,p2,p3,p4⟩:=P.one c hc;rw[t1,t2,T.mem]
  grind
 ·obtain⟨t1,t2⟩:=T.one c (by rw[P.st];exact hc);rw[t1,t2];have ho:=I.own k hk c
  grind
structure Buz (l l':List Fy)(p k:Int):Prop where
 len:l'.length=l.length
 at_:gt l' k=Fy.mk (gt l k).c (gt l k).a (gt l k).f (p+1) (gt l p).f (gt l k).i (gt l p).i 0 (gt l k).L (gt l k).w (gt l k).x (gt l k).y (gt l k).j
 ot: ∀x,0<=x/\x<(l.length:Int)->x≠k->gt l' x=Y8 (gt l x) (if x=p then k+1 else(gt l x).i) (gt l x).u (if x+1=(gt l p).i then k+1 else(gt l x).v)
section
variable {K:Nat} (hK:281474976710656<=K)
include hK
theorem Bu0{l:List Fy}(hl:V0 l)(h8:l.length<=1000){p k:Int}(hp:0<=p/\p<(l.length:Int))(hk:0<=k/\k<(l.length:Int))(hne:p≠k)(hf:0<=(gt l p).i/\(gt l p).i<=(l.length:Int))(hfk:(gt l p).i≠k+1): ∃l',rk K l p k=some l'/\Buz l l' p k:=by
 have e1:A4 p 1=p+1:=Ye (by omega) (by omega);have e2:A4 k 1=k+1:=Ye (by omega) (by omega);have e3:Ap (gt l p).i 1=(gt l p).i - 1:=V9 (by omega);have g1: ∀v,gt (l.set k.toNat v) k=v:=fun v=>gr hk v
 have g2: ∀v,gt (l.set k.toNat v) p=gt l p:=fun v=>kn hk.1 hp (Ne.symm hne) v;unfold rk Ayu;rw[A2n hK hl,Z0,e1,e2,ka,decide_eq_true (by omega),Z0,cond_true,ka,decide_eq_true (by omega),Z0,cond_true,Wg hne,cond_false,e3]
 simp only[Ax5,if_pos hp,if_pos hk,Tb,g1,g2,List.set_set];rw[ka,Z0];have hp': ∀v:Fy,0<=p/\p<((l.set k.toNat v).length:Int):=fun v=>by grind
 have h2: ∀(u v:Fy) (x:Int),0<=x/\x<(l.length:Int)->gt ((l.set k.toNat u).set p.toNat v) x=if x=p then v else if x=k then u else gt l x:=by
  grind [Yz]
 by_cases q:1<=(gt l p).i/\(gt l p).i<=(l.length:Int)
 ·rw[decide_eq_true q,cond_true,if_pos (by omega)];refine⟨_,rfl,by simp,?_,fun x hx hxk=> ?_⟩
  ·rw[kn (by omega) (by grind) (by omega),kn hp.1 (by grind) hne,g1]
  ·by_cases a:x=(gt l p).i - 1
   ·rw[if_pos (show x+1=(gt l p).i by omega),<-a,gr (by grind),h2 _ _ x hx,if_neg hxk];by_cases b:x=p
    ·rw[if_pos b,if_pos b,b];rfl
    ·rw[if_neg b,if_neg b];rfl
   ·rw[kn (by omega) (by grind) (Ne.symm a),h2 _ _ x hx,if_neg hxk,if_neg (show ¬x+1=(gt l p).i by omega)];by_cases b:x=p
    ·rw[if_pos b,if_pos b,b];rfl
    ·rw[if_neg b,if_neg b];rfl
 ·rw[decide_eq_false q,cond_false];refine⟨_,rfl,by simp,?_,fun x hx hxk=> ?_⟩
  ·grind
  ·rw[h2 _ _ x hx,if_neg hxk,if_neg (show ¬x+1=(gt l p).i by omega)];by_cases b:x=p
   ·rw[if_pos b,if_pos b,b];rfl
   ·rw[if_neg b,if_neg b];rfl
end
def newN (g c:Int):Fy:=Fy.mk 1 g 0 0 0 0 0 0 [c] (c+1) 0 [] []
structure Afd (w:H4)(t:Int->Lk)(k c p:Int):Prop where
 hk:0<=k/\k<(w.o.length:Int)
 st:(gt w.o k).c=0
 free:Zs w.Q c 1=true
 up:p= -1\/Al w.o.length t p/\(rise w.o.length t w.o.length p).length<4
theorem Afd.bare{w:H4}(I:Bd w){t:Int->Lk}{k c p:Int}(M:Afd w t k c p):gt w.o k=We 0 (gt w.o k).a:=by
 have:=ba (I.node k M.hk) (by grind [st])
 grind [st]
def pw (w:H4)(k c p:Int):Fy:=Fy.mk 1 (gt w.o k).a 0 (p+1) (if p+1=0 then 0 else(gt w.o p).f) 0 (if p+1=0 then 0 else(gt w.o p).i) 0 [c] (c+1) 0 [] []
structure Bdw (w:H4)(l':List Fy)(k c p:Int):Prop where
 len:l'.length=w.o.length
 at_:gt l' k=pw w k c p
 ot: ∀x,0<=x/\x<(w.o.length:Int)->x≠k->gt l' x=Y8 (gt w.o x) (if x=p then k+1 else(gt w.o x).i) (gt w.o x).u (if p+1≠0/\x+1=(gt w.o p).i then k+1 else(gt w.o x).v)
theorem Bdx{c:Sv}{n:Fy}{mem:List Int}{ch:Int}(h1:n.w=ch+1)(h2:n.x=0)(hz:Wa (X8 c mem ch)=true)(ha:n.y.all (fun t=>Ws t (Xq c n))=true):X2 c mem n=true:=by
 unfold X2;rw[ha,Bool.and_true,Bool.or_eq_true];refine .inr ?_;have e1:(Xq c n).B=ch*c.k:=by simp_all[Xq]
 have e2:(Xq c n).D=c.k:=by grind [Xq]
 rw[e1,e2];exact hz
theorem Bu1{w:H4}(I:Bd w){t:Int->Lk}(A:V6 w.o t)(F:V4 w.o.length t (Wh w.p)){k c p:Int}(M:Afd w t k c p){p':Pc}(T:tu w.Q p' c 1 k){l':List Fy}(L:Bdw w l' k c p):Bd (H4.mk w.C p' l' w.p w.q):=by
 have hk:=M.hk;have hb:=M.bare I;have hb1:(gt w.o k).L=[]:=by rw[hb];rfl
 have P:=W4.1 I.pool;obtain⟨T1,T2⟩:=Bdv I hk M.free T;obtain⟨f1,f2,f3,f4⟩:=lr.1 M.free;have b0:=Gy I.conf;have hlen:=I.len;have hg:=lc (I.node k hk);have hc:0<=c/\c<w.C.L:=by have:=P.st;omega
 have hp:p= -1\/(0<=p/\p<(w.o.length:Int)):=M.up.imp_right fun h=>h.1.lv.1
 have hpf:p+1≠0->(0<=p/\p<(w.o.length:Int))/\p≠k:=fun h=>by
  rcases M.up with e|⟨e,_⟩
  ·omega
  ·refine⟨e.lv.1,fun q=> ?_⟩;have:=((Y7 A).1 e.lv).2
   grind [Afd.st]
 have hA:V6 l' (Yj t k p):=by
  intro x hx;rw[L.len]at hx;by_cases e:x=k
  ·subst e;rw[X6,L.at_];unfold pw Yk;simp only;by_cases q:p+1=0
   ·grind
   ·rw[if_neg q,if_neg q,if_neg q,if_neg q,A p (hpf q).1];rfl
  ·rw[Xl e,L.ot x hx e,A x hx];by_cases q:p+1=0
   ·rw[if_neg (fun r:p+1≠0/\x+1=(t p).fi=>r.1 q),if_neg (fun r:p+1≠0/\x+1=(gt w.o p).i=>r.1 q)];rfl
   ·rw[A p (hpf q).1];rfl
 have hF:V4 w.o.length (Yj t k p) (Wh w.p):=by
  refine Bt0 F hk ?_ ?_ M.up
  ·rw[A k hk];show((gt w.o k).c==1)=false;rw[M.st];rfl
  ·rw[A k hk];show((gt w.o k).c==2)=false;rw[M.st];rfl
 have hfp:0<=(if p+1=0 then 0 else(gt w.o p).i)/\(if p+1=0 then 0 else(gt w.o p).i)<=w.C.l:=by
  split
  ·omega
  ·rename_i q;have:=(I.rg.rg p (hpf q).1).2.1;omega
 have hep:0<=(if p+1=0 then 0 else(gt w.o p).f):=by
  split
  ·omega
  ·rename_i q;rcases M.up with e|⟨e,_⟩
   ·omega
   ·exact(I.live A e.lv).ep
 have hz:Wa (X8 w.C w.Q.g c)=true:=(P.one c hc).2.2.2 (f4 c ⟨by omega,by omega⟩);refine Bdu I hk p' l' (Yj t k p) L.len (fun x hx e=>⟨_,_,_,L.ot x hx e,?_,?_,?_⟩) (by rw[M.st];decide) ?_ hA hF T1 T.mem (fun x hx=> ?_) ?_
 ·have:=(I.rg.rg x hx).2.1;omega
 ·have:=(I.rg.rg x hx).2.2.1;omega
 ·have:=(I.rg.rg x hx).2.2.2;omega
 ·rw[L.at_];refine⟨I.conf,rfl,hg.2.2,?_,⟨Int.le_refl 0,by show(0:Int)<=_;omega⟩,hfp,⟨Int.le_refl 0,by show(0:Int)<=_;omega⟩,Int.le_refl 0,hep,tq.2 ⟨by simp[pw],fun x hx=> ?_⟩,?_,Hc _,Hc _,rfl,rfl⟩
  ·show 0<=p+1/\p+1<=_;omega
  ·rw[Dt.1 (show x∈[c] from hx)];exact hc
  ·unfold Zl pw;simp only;rw[Wg (by omega),cond_false,V9 (by omega),Int.add_sub_cancel,Vz.2 ⟨by omega,by omega⟩];simp
 ·obtain⟨a1,a2,a3⟩:=T2 x hx;refine⟨a1,?_,a3⟩;rw[a2,hb1,L.at_];show x∈[]\/_ ↔ x∈[c]
  grind
 ·rw[L.at_];exact⟨rfl,rfl,Bdx rfl rfl hz rfl⟩
theorem Bu2{l:List Fy}{t:Int->Lk}(A:V6 l t)(R:Rg l): ∀(n:Nat) (k:Int),Zm l (Vy l n k)=true->kb l (Vy l n k)=true->Al l.length t k:=by
 intro n;induction n with
 |zero=>grind [Vy,kb]
 |succ n ih=>
  intro k h1 h2;unfold Vy at h1 h2;by_cases hk:0<=k/\k<(l.length:Int)
  ·rw[if_pos hk]at h1 h2;have hu:=(R.rg k hk).1;have hl:=R.len;rw[V9 (by omega)]at h1 h2;cases hr:Vy l n ((gt l k).s - 1)with
   |nil=>
    rw[hr]at h1 h2;have s1:(gt l k).c=1:=by grind [Zm]
    have s2:(gt l k).s=0:=by
     have:((gt l (gt [k] ((0:Nat):Int))).s==0)=true:=by assumption
     exact beq_iff_eq.1 this
    exact .root ((Y7 A).2 ⟨hk,s1⟩) (by rw[A k hk];exact s2)
   |cons y r=>
    have hy:y=(gt l k).s - 1/\0<=y/\y<(l.length:Int):=by
     cases n with
     |zero=>simp[Vy]at hr
     |succ m=>
      unfold Vy at hr
      grind
    rw[hr]at h1 h2;have h1:((gt l k).c==1&&((gt l k).t==(gt l y).f)&&Zm l (y::r))=true:=h1;rw[Z4,Z4,beq_iff_eq,beq_iff_eq]at h1;obtain⟨⟨s1,s2⟩,s3⟩:=h1;have s4:kb l (y::r)=true:=by
     assumption
    have h5:(gt l y).c=1:=by
     cases r with
     |nil=>grind [Zm]
     |cons z r=>
      simp_all[Zm]
    have h6:=ih ((gt l k).s - 1) (by grind) (by grind);refine .step ((Y7 A).2 ⟨hk,s1⟩) ?_ (by rw[A k hk];exact h6);unfold Cu;rw[A k hk];show Lv _ t ((gt l k).s - 1)/\(t ((gt l k).s - 1)).ep=(gt l k).t;rw[<-hy.1,A y hy.2,s2];exact⟨(Y7 A).2 ⟨hy.2,h5⟩,rfl⟩
  simp_all[kb]
theorem Bu3{w:H4}(I:Bd w){k:Int}(h:dl w.o k=true):X7 w.o k:=by
 obtain⟨t,A,_⟩:=I.forest;unfold dl at h;rw[Z4]at h;exact⟨t,A,Bu2 A I.rg _ _ h.1 h.2⟩
theorem tv{w:H4}(I:Bd w){h:Lz}(h0:(Xp w.o h).2=0):X7 w.o (Xp w.o h).1:=by
 unfold Xp at *;cases e1:pa h with
 |false=>grind
 |true=>
  rw[e1]at h0;simp only[cond_true]at h0 ⊢;cases e2:decide (Yv w.o h<0)with
  |true=>grind
  |false=>
   rw[e2]at h0;simp only[cond_false]at h0 ⊢;cases e3:dl w.o (Yv w.o h)with
   |false=>grind
   |true=>simp_all[Bu3]
section
variable {K:Nat} (hK:281474976710656<=K)
include hK
theorem Bu4{w:H4}(hw:Wp w)(h8:w.o.length<=1000): ∃r,A3z K w=some r:=by
 have key: ∀(f i:Nat) (v:Int),i<=w.o.length->w.o.length - i<f-> ∃r,de K f v (i:Int) w.C.L w.C.k w.C.l w.C.e w.C.m w.C.n w.Q.g w.Q.c w.Q.h w.o w.p w.q=some r:=by
  intro f;induction f with
  |zero=>omega
  |succ f ih=>
   intro i v hi hf;rw[de];rcases Bj i w.o.length with h|h
   ·have go: ∀v,∃r,ir K (i:Int) w.C.L w.C.k w.C.l w.C.e w.C.m w.C.n w.Q.g w.Q.c w.Q.h w.o w.p w.q (de K f) v=some r:=by
     intro v;unfold ir;rw[K1 (by omega)];exact ih (i+1) v h (by omega)
    rw[P2 h,cond_true,if_pos (K0 h),A53 hK hw.l _ ⟨by omega,by omega⟩];simp only[Z0,if_pos (K0 h)];cases (gt w.o (i:Int)).c==0 with
    |true=>exact go _
    |false=>
     simp only[cond_false];cases dl w.o (i:Int)with
     |true=>exact go _
     |false=>
      simp only[cond_false];cases (gt w.o (i:Int)).c != 3 with
      |false=>exact go _
      |true=>
       simp only[cond_true];cases decide ((gt w.o (i:Int)).a<w.C.n)<;>exact go _
   ·rw[W2 h];grind
 exact key K 0 0 (Hc _) (by omega)
theorem Bdy{w:H4}(hw:Wp w)(h8:w.o.length<=1000): ∃r,Ala K w=some r/\r.length<=w.o.length/\ ∀x∈r,(0<=x/\x<(w.o.length:Int))/\dl w.o x=true:=by
 have hm:=V2;have key: ∀(f i:Nat) (v:List Int),i<=w.o.length->w.o.length - i<f->v.length<=i->(∀x∈v,(0<=x/\x<(w.o.length:Int))/\dl w.o x=true)-> ∃r,qg K f v (i:Int) w.C.L w.C.k w.C.l w.C.e w.C.m w.C.n w.Q.g w.Q.c w.Q.h w.o w.p w.q=some r/\r.length<=w.o.length/\ ∀x∈r,(0<=x/\x<(w.o.length:Int))/\dl w.o x=true:=by
  intro f;induction f with
  |zero=>omega
  |succ f ih=>
   intro i v hi hf hl hv;rw[qg];rcases Bj i w.o.length with h|h
   ·rw[P2 h,cond_true,A53 hK hw.l _ ⟨by omega,by omega⟩];simp only[Z0];cases e:dl w.o (i:Int)with
    |false=>
     simp only[cond_false]
     grind [ut,K1]
    |true=>
     simp only[cond_true];rw[if_pos ⟨by grind,by grind⟩];unfold ut;rw[K1 (by omega)];refine ih (i+1) _ h (by omega) (by grind) fun x hx=> ?_
     grind
   grind
 exact key K 0 [] (Hc _) (by omega) (by simp) (fun x hx=>by cases hx)
theorem A7g{w:H4}(hw:Wp w)(h8:w.o.length<=1000)(n:Int): ∃b,qo K w n=some b:=by
 obtain⟨r,e,hl,_⟩:=Bdy hK hw h8;have key: ∀(f i:Nat) (v:Int),i<=r.length->r.length - i<f-> ∃x,qn K r f v (i:Int) w.C.L w.C.k w.C.l w.C.e w.C.m w.C.n w.Q.g w.Q.c w.Q.h w.o w.p w.q=some x:=by
  intro f;induction f with
  |zero=>omega
  |succ f ih=>
   intro i v hi hf;rw[qn];rcases Bj i r.length with h|h
   ·rw[P2 h,cond_true,if_pos (K0 h),Bbz hK _ _ hw.p.st.2,Z0,K1 (by omega)];exact ih (i+1) _ h (by omega)
   ·rw[W2 h];grind
 obtain⟨x,ex⟩:=key K 0 0 (Hc _) (by omega);have ex:qn K r K 0 0 w.C.L w.C.k w.C.l w.C.e w.C.m w.C.n w.Q.g w.Q.c w.Q.h w.o w.p w.q=some x:=ex;unfold qo A32;rw[e,Z0,ex];simp only[Z0];cases decide (n>=0)<;>cases decide (n<=w.C.L)<;>exact⟨_,rfl⟩
omit hK in
theorem A7h{l:List Fy}(hl:l.length<=1000000)(k:Int): ∃h,uz K l k=some h:=by
 unfold uz;rw[jz K (by omega),Z0];by_cases q:0<=k/\k<(l.length:Int)
 all_goals simp_all[decide_eq_false]
end
def Zb (n:Fy)(c:Int):Fy:=Fy.mk n.c n.a n.f n.s n.t n.i n.u n.v (n.L++[c]) (c+1) 0 n.y n.j
theorem A7i{c:Sv}{n:Fy}(L:Wx c n){k:Int}(hk:0<=k/\k<c.L)(hn:k ∉ n.L):Wx c (Zb n k):=by
 have b0:=Gy L.conf;have hd:=tq.1 L.dist;refine⟨L.conf,L.st,L.gen,L.up,L.first,L.next,L.prev,L.ep,L.ue,tq.2 ⟨ck.2 ⟨hd.1,by simp,fun x h1 h2=>by grind⟩,fun x hx=> ?_⟩,?_,L.nth,L.ntag,L.tags,L.things⟩
 ·rcases C5.1 hx with h|h
  all_goals grind
 ·unfold Zl Zb;simp only;rw[Wg (by omega),cond_false,V9 (by omega),Int.add_sub_cancel,Vz.2 ⟨by omega,by omega⟩];simp
section
variable {K:Nat} (hK:281474976710656<=K)
include hK
theorem A7j{c:Sv}{n:Fy}(L:Wx c n)(hw:Wt n){k:Int}(hk:0<=k/\k<c.L)(hn:k ∉ n.L):rj K c n k=some (Zb n k,true):=by
 have hm:=V2;have L2:=A7i L hk hn;have b0:=Gy L.conf;have h1:=Y4 L.conf L.dist;have h3:=L.nth;have h4:=L.ntag;have e:Fy.mk n.c n.a n.f n.s n.t n.i n.u n.v (n.L++[k]) (A4 k 1) 0 n.y n.j=Zb n k:=by grind [Zb,Ye]
 unfold rj;have hb:Zb n k=Zb n k:=rfl;rw[gq K hw,Z0,show(n.c != 1)=false by rw[L.st];rfl,cond_false,Xh,gg hK L.conf,Vz.2 ⟨by omega,by omega⟩,Z0,Bool.not_true,cond_false,if_pos ⟨by grind,by grind⟩,e];have hl:(Zb n k).L.length=n.L.length+1:=by grind
 rw[oy hK c (Zb n k) (by omega) (show n.y.length<=_ by omega) (show n.j.length<=_ by omega),(Xf.2 L2).1];rfl
omit hK in
theorem Ch.le{w:H4}{E E':Int}{n m:Nat}(G:Ch w E n)(hE:E<=E')(h:n<=m):Ch w E' m:=⟨G.inv,G.mem,fun k hk=>by have:=G.ep k hk;exact⟨Int.le_trans this.ep hE,Int.le_trans this.ue hE,this.cur⟩,Dn G.wt h,Int.le_trans G.cn hE⟩
theorem Bu5{E:Int}{n:Nat}(hE:0<=E/\E<=900000000)(hn:n<=900000000){w:H4}(G:Ch w E n){p at_ ch:Int}(hp:p= -1\/X7 w.o p/\(Vy w.o w.o.length p).length<4)(ha:(0<=at_/\at_<(w.o.length:Int))/\(gt w.o at_).c=0)(hc:Zs w.Q ch 1=true)(hcn:(cnt w:Int)+1<=E):
  ∃p' l',ms K w.Q ch 1 at_=some p'/\(p= -1->l'=w.o.set at_.toNat (newN (gt w.o at_).a ch))/\(p≠ -1->rk K (w.o.set at_.toNat (newN (gt w.o at_).a ch)) p at_=some l')/\Ch (H4.mk w.C p' l' w.p w.q) E (n+18)/\l'.length=w.o.length:=by
 have I:=G.inv;have W:=G.ww (by omega) (by omega);obtain⟨t,A,F⟩:=I.forest;have b0:=Gy I.conf;have P:=W4.1 I.pool;have hst:=P.st;have how:=P.own;have hlen:=I.len;obtain⟨f1,f2,f3,f4⟩:=lr.1 hc;have M:Afd w t at_ ch p:=⟨ha.1,ha.2,hc,hp.imp_right fun h=>⟨h.1.al A,by rw[A2y A I.rg]at h;exact h.2⟩⟩
 obtain⟨p',ep,T⟩:=A7f hK W.p (by omega) (by omega) (k:=at_) hc;have hg:=lc (I.node at_ ha.1);have hbare:=M.bare I;have hl': ∃l',(p= -1->l'=w.o.set at_.toNat (newN (gt w.o at_).a ch))/\(p≠ -1->rk K (w.o.set at_.toNat (newN (gt w.o at_).a ch)) p at_=some l')/\Bdw w l' at_ ch p:=by
  by_cases q:p= -1
  ·refine⟨w.o.set at_.toNat (newN (gt w.o at_).a ch),fun _=>rfl,fun h=>absurd q h,by simp,?_,fun x hx hne=> ?_⟩
   ·rw[gr ha.1]
    grind [newN,pw]
   ·have hpx:x≠p:=by omega
    rw[kn ha.1.1 hx (Ne.symm hne),if_neg hpx,if_neg (fun r=>r.1 (by omega))];rfl
  ·obtain⟨al,_⟩:=hp.resolve_left q;have al:=al.al A;have hpi:=al.lv.1;have hpl:=(Y7 A).1 al.lv;have hne:p≠at_:=fun e=>by grind
   have hgp: ∀v,gt (w.o.set at_.toNat v) p=gt w.o p:=fun v=>kn ha.1.1 hpi (Ne.symm hne) v
   have hnw:Wt (newN (gt w.o at_).a ch):=⟨V1 (x:=(1:Int)) (by omega) (by omega),V1 (by show _<=(gt w.o at_).a;omega) (by show(gt w.o at_).a<=_;omega),Xe,Xe,Xe,Xe,Xe,Xe,li (fun x hx=>by rw[Dt.1 (show x∈[ch] from hx)];omega) (by show [ch].length<=_;simp),V1 (by show _<=ch+1;omega) (by show ch+1<=_;omega),Xe,A6o,ph⟩;have hW:V0 (w.o.set at_.toNat (newN (gt w.o at_).a ch)):=by
    refine⟨fun x hx=> ?_,by grind⟩;rcases Mv hx with h|h
    ·exact W.l.1 x h
    grind
   have hfr:=(I.rg.rg p hpi).2.1;obtain⟨l',e,L⟩:=Bu0 hK hW (by grind) (p:=p) (k:=at_) (by grind) (by grind) hne (by grind) (by
    rw[hgp];intro e;have h1:=(F.tree.link p al.lv).first (by rw[A p hpi];show(gt w.o p).i≠0;omega);have h2:=((Y7 A).1 h1.1).2;rw[A p hpi]at h2;have h2:(gt w.o ((gt w.o p).i - 1)).c=1:=h2
    grind)
   refine⟨l',fun h=>absurd h q,fun _=>e,by rw[L.len];simp,?_,fun x hx hxk=> ?_⟩
   ·rw[L.at_,gr ha.1,hgp];unfold newN pw
    grind
   ·rw[L.ot x (by grind) hxk,kn ha.1.1 hx (Ne.symm hxk),hgp]
    grind
 obtain⟨l',h1,h2,L⟩:=hl';have I':=Bu1 I A F M T L;refine⟨p',l',ep,h1,h2,⟨I',?_,fun x hx=> ?_,?_,?_⟩,L.len⟩
 ·show ∀x∈p'.g,_;rw[T.mem];exact G.mem
 ·have hx:0<=x/\x<(l'.length:Int):=hx;rw[L.len]at hx;show Zy E (gt l' x);by_cases e:x=at_
  ·rw[e,L.at_];refine⟨hE.1,?_,⟨by show 0<=ch+1;omega,by show ch+1<=_;omega⟩⟩;show(if p+1=0 then 0 else(gt w.o p).f)<=E;split
   ·exact hE.1
   ·rename_i q;have:=(hp.resolve_left (by omega)).1.al A;exact(G.ep p this.lv.1).ep
  ·rw[L.ot x hx e];have:=G.ep x hx;exact⟨this.ep,this.ue,this.cur⟩
 ·have hs:=dv (f:=Wj w.C) L.len ha.1 fun x hx hne=>by rw[L.ot x hx hne];rfl
  have e0:Wj w.C (gt w.o at_)=0:=by grind [Ae5]
  have e1:Wj w.C (gt l' at_)<=18:=by
   rw[L.at_];unfold Wj pw
   grind
  have h3:=G.wt;unfold wt pot at h3 ⊢
  grind
 ·have hs:=dv (f:=Wv) L.len ha.1 fun x hx hne=>by rw[L.ot x hx hne];rfl
  have e1:Wv (gt l' at_)<=1:=by unfold Wv;split<;>omega
  unfold cnt at hcn ⊢;show(((l'.map Wv).sum+w.p.length:Nat):Int)<=E;omega
theorem Afj{E:Int}{n:Nat}(hE:0<=E/\E<=890000000)(hn:n<=900000000){w:H4}(G:Ch w E n){p:Int}(a b:Sw)(hp:a.F=0->p= -1\/X7 w.o p/\(Vy w.o w.o.length p).length<4):
  ∃r w',jb K p w.C.L w.C.k w.C.l w.C.e w.C.m w.C.n w.Q.g w.Q.c w.Q.h w.o w.p w.q a b=some (r,w')/\Ch w' (E+1) (n+18)/\w'.C=w.C:=by
 unfold jb;by_cases h0:a.F=0
 ·have hp:=hp h0;rw[h0];simp only[bne_self_eq_false,cond_false];obtain⟨d,w1,e1,S⟩:=A7e hK (by omega:0<=E/\E<=1000000000) (by omega) 1 (run:=1) (by omega) G;rw[show H4.mk (Sv.mk w.C.L w.C.k w.C.l w.C.e w.C.m w.C.n) (Pc.mk w.Q.g w.Q.c w.Q.h) w.o w.p w.q=w from rfl,e1];simp only[Z0];have G1:=S.good;have T1:=S.stay;have P1:=W4.1 G1.inv.pool;have hst:=P1.st;have hlen:=G1.inv.len;have b0:=Gy G1.inv.conf;obtain⟨at_,e2,h2⟩:=Buy hK (l:=w1.o) (by omega);obtain⟨ch,e3,h3⟩:=Bdt hK (p:=w1.Q) (by omega);rw[e2,e3];simp only[Z0];have G1':=Ch.le G1 (by omega:E<=E+1) (by omega:n<=n+18);have Gp:=Ch.le G1 (by omega:E<=E+1) (Z9 n);by_cases q1:at_<0
  ·rw[decide_eq_true q1];exact⟨_,_,rfl,G1',T1.conf⟩
  ·rw[decide_eq_false q1];simp only[cond_false];by_cases q2:ch<0
   ·rw[decide_eq_true q2];exact⟨_,_,rfl,G1',T1.conf⟩
   ·rw[decide_eq_false q2];simp only[cond_false];obtain⟨hat,hfree⟩:=h2.resolve_left (by omega);have hch:=h3.resolve_left (by omega);obtain⟨f1,f2,f3,f4⟩:=lr.1 hch;have hp1:p= -1\/X7 w1.o p/\(Vy w1.o w1.o.length p).length<4:=hp.imp_right fun h=>by
     obtain⟨x1,_,x3⟩:=T1.node p h.1;rw[x3,T1.len]
     grind
    obtain⟨p',l',et,k1,k2,G2,hl2⟩:=Bu5 hK (by omega) hn Gp hp1 ⟨hat,hfree⟩ hch (by have:=G1.cn;omega);have hg:=lc (G1.inv.node at_ hat);have L0:Wx w1.C (Fy.mk 1 (gt w1.o at_).a 0 0 0 0 0 0 [] 0 0 [] []):=⟨G1.inv.conf,rfl,hg.2.2,⟨Int.le_refl 0,by grind⟩,⟨Int.le_refl 0,by grind⟩,⟨Int.le_refl 0,by grind⟩,⟨Int.le_refl 0,by grind⟩,Int.le_refl 0,Int.le_refl 0,rfl,rfl,Hc _,Hc _,rfl,rfl⟩;have W0:Wt (Fy.mk 1 (gt w1.o at_).a 0 0 0 0 0 0 [] 0 0 [] []):=ia (E:=0) (Xf.2 L0).1 ⟨Int.le_refl 0,Int.le_refl 0,Int.le_refl 0,by grind⟩ (by omega);unfold bi;simp only[Z0,if_pos hat];rw[et,Z0,A7j hK L0 W0 ⟨f1,by omega⟩ (by grind),Z0];simp only;have hnew:Zb (Fy.mk 1 (gt w1.o at_).a 0 0 0 0 0 0 [] 0 0 [] []) ch=newN (gt w1.o at_).a ch:=rfl;rw[hnew];by_cases q3:p= -1
    ·rw[decide_eq_false (by omega: ¬p>=0)];simp only[cond_false];rw[<-k1 q3];obtain⟨hd,eh⟩:=A7h (K:=K) (l:=l') (by omega) at_
     obtain⟨t,w2,es,S2⟩:=A27 hK (E:=E+1) (n:=n+18) (by omega) (by omega) w1.C.e G2;unfold wm;rw[eh,Z0,show H4.mk (Sv.mk w1.C.L w1.C.k w1.C.l w1.C.e w1.C.m w1.C.n) (Pc.mk p'.g p'.c p'.h) l' w1.p w1.q=H4.mk w1.C p' l' w1.p w1.q from rfl,es];exact⟨_,_,rfl,S2.good,S2.stay.conf.trans T1.conf⟩
    ·have hp2:0<=p:=by
      obtain⟨t,A,F⟩:=G1.inv.forest;exact((hp1.resolve_left q3).1.al A).lv.1.1
     rw[decide_eq_true (show p>=0 from hp2)];simp only[cond_true];rw[k2 q3,Z0];obtain⟨hd,eh⟩:=A7h (K:=K) (l:=l') (by omega) at_
     obtain⟨t,w2,es,S2⟩:=A27 hK (E:=E+1) (n:=n+18) (by omega) (by omega) w1.C.e G2;unfold wm;rw[eh,Z0,show H4.mk (Sv.mk w1.C.L w1.C.k w1.C.l w1.C.e w1.C.m w1.C.n) (Pc.mk p'.g p'.c p'.h) l' w1.p w1.q=H4.mk w1.C p' l' w1.p w1.q from rfl,es];exact⟨_,_,rfl,S2.good,S2.stay.conf.trans T1.conf⟩
 ·rw[Yg h0];exact⟨_,_,rfl,Ch.le G (by omega:E<=E+1) (by omega),rfl⟩
theorem Bdz{E:Int}{n:Nat}(hE:0<=E/\E<=890000000)(hn:n<=900000000){w:H4}(G:Ch w E n){p:Int}(v:Bool)(a b:Sw)(hp:v=false->p= -1\/X7 w.o p/\(Vy w.o w.o.length p).length<4):
  ∃r w',wn K p v w.C.L w.C.k w.C.l w.C.e w.C.m w.C.n w.Q.g w.Q.c w.Q.h w.o w.p w.q a b=some (r,w')/\Ch w' (E+1) (n+18)/\w'.C=w.C:=by
 have W:=G.ww (by omega) (by omega);have hlen:=G.inv.len;have b0:=Gy G.inv.conf;unfold wn;cases v with
 |true=>exact Afj hK hE hn G (p:=p) (Sw.mk 3 a.P a.b a.A a.G a.e a.H) b (fun h=>absurd (show(3:Int)=0 from h) (by decide))
 |false=>
  simp only[cond_false];rw[show H4.mk (Sv.mk w.C.L w.C.k w.C.l w.C.e w.C.m w.C.n) (Pc.mk w.Q.g w.Q.c w.Q.h) w.o w.p w.q=w from rfl];obtain⟨r,er⟩:=Bu4 hK W (by omega);rw[er,Z0];cases r==0 with
  |true=>exact Afj hK hE hn G (p:=p) (Sw.mk 4 a.P a.b a.A a.G a.e a.H) b (fun h=>absurd (show(4:Int)=0 from h) (by decide))
  |false=>
   simp only[cond_false];obtain⟨f,ef⟩:=A7g hK W (by omega) 1;rw[ef,Z0];cases f with
   |false=>exact Afj hK hE hn G (p:=p) (Sw.mk 5 a.P a.b a.A a.G a.e a.H) b (fun h=>absurd (show(5:Int)=0 from h) (by decide))
   |true=>simp_all[Afj]
theorem Bu6{E:Int}{n:Nat}(hE:0<=E/\E<=890000000)(hn:n<=900000000){w:H4}(G:Ch w E n)(h:Lz): ∃r w',Ayv K w h=some (r,w')/\Ch w' (E+1) (n+18)/\w'.C=w.C:=by
 have W:=G.ww (by omega) (by omega);have hlen:=G.inv.len;have b0:=Gy G.inv.conf;have hup: ∃p c,Aln K w h=some (p,c)/\(c=0->p= -1\/X7 w.o p):=by
  unfold Aln;cases ((h.d==0)&&((h.a==0)&&true))with
  |true=>grind
  |false=>
   simp only[cond_false];rw[su hK W.l,Z0];exact⟨_,_,rfl,fun h0=> .inr (tv G.inv h0)⟩
 obtain⟨p,c,ep,hp⟩:=hup;unfold Ayv;rw[ep,Z0,pg hK w W.l,Z0];simp only;by_cases q:c=0
 ·rw[q];simp only[bne_self_eq_false,cond_false];rcases hp q with e|e
  ·simp_all[Bdz]
  ·have hpi:0<=p/\p<(w.o.length:Int):=by
    obtain⟨t,A,F⟩:=G.inv.forest;exact(e.al A).lv.1
   rw[decide_eq_true (show p>=0 from hpi.1)];simp only[cond_true];unfold vk;rw[A2d hK W.l p ⟨by omega,by omega⟩];simp only[Z0];refine Bdz hK hE hn G _ _ _ (fun hv=> .inr ⟨e,?_⟩)
   grind
 ·rw[Yg q];exact Afj hK hE hn G (p:=p) (Sw.mk c (Lz.mk 0 0) (Pd.mk (Lz.mk 0 0) 0 0) [] (zu w h) 0 0) (Sw.mk 0 (Lz.mk 0 0) (Pd.mk (Lz.mk 0 0) 0 0) [] 0 0 0) (fun h=>absurd h q)
end
theorem A7k{c:Sv}{ch:List Int}{t:H3}(h:W7 c ch t=true){j:Int}(h0:t.B<=j)(h1:j<t.B+t.D):j / c.k∈ch:=by
 unfold W7 at h;rw[Z4,Z1]at h;obtain⟨ht,hc⟩:=h;obtain⟨hs,hin⟩:=sr ht;have b0:=Gy hin.1;have e1:t.B / c.k<=j / c.k:=Int.ediv_le_ediv (by omega) h0;have e2:j / c.k<=(t.B+t.D - 1) / c.k:=Int.ediv_le_ediv (by omega) (by omega);have:=hc (j / c.k - t.B / c.k).toNat (by grind)
 grind
theorem tw{a s j:Int}(hs:0<s)(h0:a*s<=j)(h1:j<a*s+s):j / s=a:=by
 have h2:a<=j / s:=(Int.le_ediv_iff_mul_le hs).2 h0;have h3:j / s<a+1:=Int.ediv_lt_of_lt_mul hs (by grind);omega
theorem ua{a b:H3}(h: ∀j,a.B<=j->j<a.B+a.D->b.B<=j->j<b.B+b.D->False):Ws a b=true:=by
 unfold Ws;rw[decide_eq_true_iff];by_cases h1:a.D<=0
 ·omega
 by_cases h2:b.D<=0
 ·omega
 by_cases h3:a.B+a.D<=b.B
 ·omega
 by_cases h4:b.B+b.D<=a.B
 ·omega
 exfalso;by_cases h5:a.B<=b.B
 ·exact h b.B h5 (by omega) (by omega) (by omega)
 ·exact h a.B (by omega) (by omega) (by omega) (by omega)
theorem Bd0{a b:H3}(h:Ws a b=true){j:Int}(h1:a.B<=j)(h2:j<a.B+a.D)(h3:b.B<=j)(h4:j<b.B+b.D):False:=by
 unfold Ws at h
 grind
theorem Bu7{l:List H3}:Y3 l=true ↔ l.Pairwise (fun a b=>Ws a b=true):=by
 unfold Y3;rw[Z1,List.pairwise_iff_getElem];constructor
 ·intro h i j hi hj hij;have:=h j (by grind)
  grind [List.mem_iff_getElem,Gz]
 ·intro h j hj;rw[List.mem_range]at hj;rw[Z1];intro o ho;obtain⟨i,hi,e⟩:=List.mem_iff_getElem.1 ho
  grind [Gz]
theorem Bd1{l:List H3}{t:H3}(h:Y3 l=true)(ht: ∀o∈l,Ws o t=true):Y3 (l++[t])=true:=by
 simp_all[Bu7,List.pairwise_append]
theorem Afp{c:Sv}{n:Fy}(L:Wx c n)(hc:0<=n.w/\n.w<=1000)(h0:n.w≠0):n.w - 1∈n.L/\0<=n.x/\n.x<=c.k:=by
 have:=L.cur;unfold Zl at this;rw[Wg h0,cond_false,Z4,Vz,V9 (by omega)]at this
 grind
theorem Bd2{c:Sv}{ch ch':List Int}(h: ∀x∈ch,x∈ch'){t:H3}(ht:W7 c ch t=true):W7 c ch' t=true:=by
 unfold W7 at ht ⊢;rw[Z4,Z1]at ht ⊢;exact⟨ht.1,fun j hj=>List.contains_iff_mem.2 (h _ (List.contains_iff_mem.1 (ht.2 j hj)))⟩
def Af8 (c:Sv)(n:Fy)(off size:Int):Fy:=Fy.mk n.c n.a n.f n.s n.t n.i n.u n.v n.L n.w (off+size) (n.y++[H3.mk ((n.w - 1)*c.k+off) size 0]) n.j
structure Bd3 (c:Sv)(n:Fy)(off size:Int):Prop where
 cur:n.w≠0
 ho:n.x<=off
 hz:1<=size
 fit:off+size<=c.k
 cnt:n.y.length<12
structure aa (c:Sv)(mem:List Int)(n:Fy):Prop where
 inch:n.y.all (W7 c n.L)=true
 apart:Y3 n.y=true
 loose:X2 c mem n=true
theorem Bd4{c:Sv}{mem:List Int}{n:Fy}{off size:Int}(L:Wx c n)(hc:0<=n.w/\n.w<=1000)(T:aa c mem n)(S:Bd3 c n off size):Wx c (Af8 c n off size)/\aa c mem (Af8 c n off size):=by
 have b0:=Gy L.conf;obtain⟨m1,m2,m3⟩:=Afp L hc S.cur;have hm:=au L.dist _ m1;have ho:=S.ho;have hz:=S.hz;have hf:=S.fit;have hn:=S.cnt;have hlo:=T.loose;unfold X2 at hlo;rw[Wg S.cur,Z52,Z4,Z1]at hlo;obtain⟨z1,z2⟩:=hlo;have q0:0<=(n.w - 1)*c.k:=Int.mul_nonneg (by omega) (by omega);have q1:(n.w - 1)*c.k+c.k<=c.L*c.k:=by
  have:(n.w - 1+1)*c.k<=c.L*c.k:=Int.mul_le_mul_of_nonneg_right (by omega) (by omega)
  grind
 have hby:Wl c=c.L*c.k:=by unfold Wl;rw[L.conf];rfl
 have d1:((n.w - 1)*c.k+off) / c.k=n.w - 1:=tw (by omega) (by omega) (by omega);have d2:((n.w - 1)*c.k+off+size - 1) / c.k=n.w - 1:=tw (by omega) (by omega) (by omega);have htb:Xd c (H3.mk ((n.w - 1)*c.k+off) size 0)=true:=by
  unfold Xd;rw[decide_eq_true (show am c (H3.mk ((n.w - 1)*c.k+off) size 0) from⟨L.conf,hz,by grind,by grind⟩)]
  grind
 have htc:W7 c n.L (H3.mk ((n.w - 1)*c.k+off) size 0)=true:=by
  unfold W7
  grind
 have hr: ∀o∈n.y,∀j,o.B<=j->j<o.B+o.D->(n.w - 1)*c.k+n.x<=j->j<(n.w - 1)*c.k+c.k->False:=fun o h j h1 h2 h3 h4=>Bd0 (z2 o h) h1 h2 (b:=Xq c n) h3 (by show j<(n.w - 1)*c.k+n.x+(c.k - n.x);omega)
 refine⟨⟨L.conf,L.st,L.gen,L.up,L.first,L.next,L.prev,L.ep,L.ue,L.dist,?_,?_,L.ntag,L.tags,?_⟩,⟨?_,?_,?_⟩⟩
 ·unfold Zl Af8;simp only;rw[Wg S.cur,cond_false,V9 (by omega),List.contains_iff_mem.2 m1,Vz.2 ⟨by omega,by omega⟩];rfl
 ·show(n.y++[_]).length<=12
  grind
 ·show(n.y++[_]).all (Xd c)=true
  grind [Wx.things]
 ·show(n.y++[_]).all (W7 c n.L)=true
  grind [aa.inch]
 ·refine Bd1 T.apart fun o h=>ua fun j h1 h2 h3 h4=>hr o h j h1 h2 ?_ ?_
  all_goals grind
 ·unfold X2;rw[Bool.or_eq_true,Z4];refine .inr ⟨?_,?_⟩
  ·rw[pq]at z1 ⊢;intro j h1 h2 h3;have h1:((n.w - 1)*c.k+(off+size)).toNat<=j:=h1;have h2:j<((n.w - 1)*c.k+(off+size)).toNat+(c.k - (off+size)).toNat:=h2;refine z1 j ?_ ?_ h3
   ·show((n.w - 1)*c.k+n.x).toNat<=j;omega
   ·show j<((n.w - 1)*c.k+n.x).toNat+(c.k - n.x).toNat;omega
  ·show(n.y++[_]).all _=true;rw[List.all_append,Bb,Z4,Z4,Z1];refine⟨fun o h=>ua fun j h1 h2 h3 h4=>hr o h j h1 h2 ?_ ?_,ua fun j h1 h2 h3 h4=> ?_,rfl⟩
   ·have h3:(n.w - 1)*c.k+(off+size)<=j:=h3;omega
   ·have h4:j<(n.w - 1)*c.k+(off+size)+(c.k - (off+size)):=h4;omega
   ·have h2:j<(n.w - 1)*c.k+off+size:=h2;have h3:(n.w - 1)*c.k+(off+size)<=j:=h3;omega
def Zt (a n:Int):List Int:=(List.range n.toNat).map (fun(i:Nat)=>a+(i:Int))
theorem A28{a n x:Int}:x∈Zt a n ↔ a<=x/\x<a+n:=by
 unfold Zt;rw[A8];constructor
 ·grind
 ·intro h;exact⟨(x - a).toNat,by grind,by omega⟩
theorem Bu8 (a n:Int):(Zt a n).Nodup:=by
 grind [Zt,List.nodup_range]
def dx (c:Sv)(n:Fy)(a run size:Int):Fy:=Fy.mk n.c n.a n.f n.s n.t n.i n.u n.v (n.L++Zt a run) n.w n.x (n.y++[H3.mk (a*c.k) size run]) n.j
structure A7l (c:Sv)(n:Fy)(a run size:Int):Prop where
 hz:c.k<size/\size<=200
 hr:run=Wb size c.k
 at_:0<=a/\a+run<=c.L
 new: ∀x∈n.L,¬(a<=x/\x<a+run)
 cnt:n.y.length<12
theorem Bd5{c:Sv}{mem:List Int}{n:Fy}{a run size:Int}(L:Wx c n)(hc:0<=n.w/\n.w<=1000)(T:aa c mem n)(S:A7l c n a run size):Wx c (dx c n a run size)/\aa c mem (dx c n a run size):=by
 have b0:=Gy L.conf;have hz:=S.hz;have ha:=S.at_;have hn:=S.cnt;have hrun:run=(size+c.k - 1) / c.k:=by
  rw[S.hr];unfold Wb;rw[Vz.2 ⟨by omega,by omega⟩,Vz.2 ⟨by omega,by omega⟩];rfl
 have hru:size<=run*c.k:=by
  have:=Int.lt_ediv_add_one_mul_self (size+c.k - 1) (show 0<c.k by omega)
  grind
 have hr1:1<=run:=by
  rw[hrun];exact(Int.le_ediv_iff_mul_le (by omega)).2 (by omega)
 have q0:0<=a*c.k:=Int.mul_nonneg (by omega) (by omega);have q1:a*c.k+run*c.k<=c.L*c.k:=by
  rw[<-Int.add_mul];exact Int.mul_le_mul_of_nonneg_right (by omega) (by omega)
 have hby:Wl c=c.L*c.k:=by unfold Wl;rw[L.conf];rfl
 have htb:Xd c (H3.mk (a*c.k) size run)=true:=by
  unfold Xd;rw[decide_eq_true (show am c (H3.mk (a*c.k) size run) from⟨L.conf,by grind,q0,by grind⟩)];show(bif run==0 then _ else decide (size>c.k)&&(run==Wb size c.k&&(a*c.k) % c.k==0))=true;rw[Wg (by omega),cond_false,decide_eq_true (by omega),<-S.hr,Int.mul_emod_left];simp
 have hdv: ∀j,a*c.k<=j->j<a*c.k+size->a<=j / c.k/\j / c.k<a+run:=fun j h1 h2=>by
  refine⟨(Int.le_ediv_iff_mul_le (by omega)).2 h1,Int.ediv_lt_of_lt_mul (by omega) ?_⟩
  grind
 have htc:W7 c (n.L++Zt a run) (H3.mk (a*c.k) size run)=true:=by
  unfold W7;rw[htb,Z30,Z1];intro j hj;rw[List.mem_range]at hj;have e1:=hdv (a*c.k) (Int.le_refl _) (by omega);have e2:=hdv (a*c.k+size - 1) (by omega) (by omega);have hj:j<((a*c.k+size - 1) / c.k - a*c.k / c.k+1).toNat:=hj;refine List.contains_iff_mem.2 (C5.2 (.inr (A28.2 ?_)))
  grind
 have hmono: ∀x∈n.L,x∈n.L++Zt a run:=fun x h=>C5.2 (.inl h)
 have hold: ∀o∈n.y,∀j,o.B<=j->j<o.B+o.D->a*c.k<=j->j<a*c.k+size->False:=fun o h j h1 h2 h3 h4=>S.new _ (A7k (Z1.1 T.inch o h) h1 h2) (hdv j h3 h4)
 have hd:=tq.1 L.dist;refine⟨⟨L.conf,L.st,L.gen,L.up,L.first,L.next,L.prev,L.ep,L.ue,?_,?_,?_,L.ntag,L.tags,?_⟩,⟨?_,?_,?_⟩⟩
 ·refine tq.2 ⟨ck.2 ⟨hd.1,Bu8 _ _,fun x h1 h2=>S.new x h1 (A28.1 h2)⟩,fun x hx=> ?_⟩;rcases C5.1 hx with h|h
  ·grind
  ·have:=A28.1 h;omega
 ·have:=L.cur;unfold Zl at this ⊢;show(bif n.w==0 then n.x==0 else(n.L++Zt a run).contains (Ap n.w 1)&&Qi n.x 0 c.k)=true
  grind
 ·show(n.y++[_]).length<=12
  grind
 ·show(n.y++[_]).all (Xd c)=true
  grind [Wx.things]
 ·show(n.y++[_]).all (W7 c (n.L++Zt a run))=true;rw[List.all_append,Bb,htc,Z4,Z1];exact⟨fun o h=>Bd2 hmono (Z1.1 T.inch o h),rfl⟩
 ·exact Bd1 T.apart fun o h=>ua fun j h1 h2 h3 h4=>hold o h j h1 h2 h3 h4
 ·have hlo:=T.loose;unfold X2 at hlo ⊢;rw[Bool.or_eq_true,Z4]at hlo ⊢;rcases hlo with h|⟨h,h'⟩
  ·exact .inl h
  ·by_cases e:n.w=0
   ·exact .inl (by show(n.w==0)=true;grind)
   ·refine .inr ⟨h,?_⟩;show(n.y++[_]).all (fun t=>Ws t (Xq c n))=true;rw[List.all_append,h',Bb,Z30,Z4];refine⟨ua fun j h1 h2 h3 h4=> ?_,rfl⟩;obtain⟨m1,m2,m3⟩:=Afp L hc e;have h3:(n.w - 1)*c.k+n.x<=j:=h3;have h4:j<(n.w - 1)*c.k+n.x+(c.k - n.x):=h4;have:=tw (a:=n.w - 1) (s:=c.k) (j:=j) (by omega) (by omega) (by omega);exact S.new _ m1 (by grind)
def px (al:Int):Bool:=al==1||(al==2||al==4)
theorem A29 (K:Nat)(al:Int):mv K al=some (px al):=by
 grind [mv,px]
theorem Bd6{al:Int}(h:px al=true):al=1\/al=2\/al=4:=by
 simp_all[px]
theorem Bu9 (K:Nat){b al:Int}(hb:0<=b/\b<=1000)(ha:px al=true): ∃off,Ayz K b al=some off/\b<=off/\off<=2000:=by
 unfold Ayz;rw[Xh,Vz.2 ⟨by omega,by omega⟩,A29,ha];simp only[Z0,cond_true,Bool.not_true,cond_false];have e:Ap (A4 b al) 1=b+al - 1:=by
  grind [Bd6,Ap,Aly,A4,Fp,Vr]
 rw[e];have key: ∀a:Int,1<=a->a<=4->F2 (Afg .i64 (b+a - 1) a) a=(b+a - 1) / a*a:=by
  intro a h1 h2;have h3:(b+a - 1) / a<=b+a - 1:=Int.ediv_le_self _ (by omega);have h4:0<=(b+a - 1) / a:=Int.ediv_nonneg (by omega) (by omega);have h5:=Zj (a:=(b+a - 1) / a) (b:=a) (m:=2000) (n:=4) h4 (by omega) (by omega) h2
  grind [Afg,F2,Ci,Vr]
 rcases Bd6 ha with h|h|h
 ·subst h;rw[if_pos (by decide),key 1 (by omega) (by omega)]
  grind
 ·subst h;rw[if_pos (by decide),key 2 (by omega) (by omega)]
  grind
 ·subst h;rw[if_pos (by decide),key 4 (by omega) (by omega)]
  grind
section
variable {K:Nat} (hK:281474976710656<=K)
include hK
theorem Bd7{c:Sv}{n:Fy}(L:Wx c n)(W:Wt n)(hc:0<=n.w/\n.w<=1000)(size al:Int)(hs: -1000000<=size/\size<=1000000): ∃at_ b,wo K c n size al=some (at_,b)/\(b=true-> ∃off,at_=(n.w - 1)*c.k+off/\n.w≠0/\n.x<=off/\1<=size/\off+size<=c.k):=by
 obtain⟨b1,b2,_⟩:=Gy L.conf;have h1:=Y4 L.conf L.dist;have h3:=L.nth;have h4:=L.ntag;unfold wo;rw[oy hK c n (by omega) (by omega) (by omega),(Xf.2 L).1];simp only[Z0,cond_true];by_cases q:n.w=0
 ·simp_all
 ·rw[Wg q,Xh];simp only[cond_false,Z0];by_cases q2:1<=size/\size<=c.k
  ·rw[Vz.2 q2,A29];simp only[cond_true,Z0];cases ha:px al with
   |false=>simp_all
   |true=>
    obtain⟨m1,m2,m3⟩:=Afp L hc q;have hm:=au L.dist _ m1;obtain⟨off,eo,ho1,ho2⟩:=Bu9 K (b:=n.x) ⟨m2,by omega⟩ ha;simp only[Bool.not_true,cond_false];rw[eo,Z0];have e1:A4 off size=off+size:=by grind [A4,Fp,Vr]
    have e2:Ap n.w 1=n.w - 1:=V9 (by omega);have h5:=Zj (a:=n.w - 1) (b:=c.k) (m:=12) (n:=16) (by omega) (by omega) (by omega) b2.2;have e3:F2 (n.w - 1) c.k=(n.w - 1)*c.k:=by grind [F2,Ci,Vr]
    have e4:A4 ((n.w - 1)*c.k) off=(n.w - 1)*c.k+off:=by grind [A4,Fp,Vr]
    rw[e1,e2,e3,e4];by_cases q3:off+size>c.k
    all_goals simp_all[decide_eq_false]
  ·rw[A19.2 q2];grind
theorem Bd8{c:Sv}{n:Fy}(L:Wx c n)(W:Wt n)(hc:0<=n.w/\n.w<=1000)(size al:Int)(hs: -1000000<=size/\size<=1000000): ∃n' b,wq K c n size al=some (n',b)/\(n'=n\/ ∃off,Bd3 c n off size/\n'=Af8 c n off size):=by
 have hm:=V2;obtain⟨b1,b2,_⟩:=Gy L.conf;have h3:=L.nth;obtain⟨at_,b,e,hb⟩:=Bd7 hK L W hc size al hs;unfold wq;rw[gq K W,Z0,e,Z0];cases b with
 |false=>grind
 |true=>
  obtain⟨off,e1,h1,h2,h4,h5⟩:=hb rfl;obtain⟨m1,m2,m3⟩:=Afp L hc h1;have hmi:=au L.dist _ m1;simp only[cond_true];by_cases q:(n.y.length:Int)>=12
  ·simp_all
  ·rw[decide_eq_false q];simp only[cond_false];rw[if_pos ⟨by grind,by grind⟩];refine⟨_,_,rfl,.inr ⟨off,⟨h1,h2,h4,h5,by omega⟩,?_⟩⟩;have e2:Ap n.w 1=n.w - 1:=V9 (by omega);have h6:=Zj (a:=n.w - 1) (b:=c.k) (m:=12) (n:=16) (by omega) (by omega) (by omega) b2.2;have e3:F2 (n.w - 1) c.k=(n.w - 1)*c.k:=by grind [F2,Ci,Vr]
   have e4:Ap at_ ((n.w - 1)*c.k)=off:=by grind [Ap,Aly,Vr]
   have e5:A4 off size=off+size:=by grind [A4,Fp,Vr]
   rw[e2,e3,e4,e5,e1];rfl
theorem Bva{c:Sv}{n:Fy}(L:Wx c n)(W:Wt n)(hc:0<=n.w/\n.w<=1000)(size al:Int)(hs: -1000000<=size/\size<=1000000): ∃b,Ay0 K c n size al=some b:=by
 have h1:=Y4 L.conf L.dist;have h3:=L.nth;have h4:=L.ntag;obtain⟨at_,b,e,hb⟩:=Bd7 hK L W hc size al hs;unfold Ay0;rw[e,oy hK c n (by omega) (by omega) (by omega),(Xf.2 L).1,Xh,A29,L.st];simp only[Z0];cases b<;>cases Qi size 1 c.k<;>exact⟨_,rfl⟩
theorem Bvb{c:Sv}{mem:List Int}{n:Fy}(L:Wx c n)(W:Wt n)(hc:0<=n.w/\n.w<=1000)(T:aa c mem n){a run size:Int}(S:A7l c n a run size):mw K c n a size=some (dx c n a run size,true):=by
 have hm:=V2;obtain⟨b1,b2,_⟩:=Gy L.conf;have h1:=Y4 L.conf L.dist;have h3:=L.nth;have h4:=L.ntag;have hz:=S.hz;have ha:=S.at_;obtain⟨L2,T2⟩:=Bd5 L hc T S;have hrun:run=(size+c.k - 1) / c.k:=by
  rw[S.hr];unfold Wb;rw[Vz.2 ⟨by omega,by omega⟩,Vz.2 ⟨by omega,by omega⟩];rfl
 have hru:size<=run*c.k:=by
  have:=Int.lt_ediv_add_one_mul_self (size+c.k - 1) (show 0<c.k by omega)
  grind
 have hr1:1<=run:=by
  rw[hrun];exact(Int.le_ediv_iff_mul_le (by omega)).2 (by omega)
 have q1:run*c.k<=c.L*c.k:=Int.mul_le_mul_of_nonneg_right (by omega) (by omega);have hby:Wl c=c.L*c.k:=by unfold Wl;rw[L.conf];rfl
 have e3:F2 a c.k=a*c.k:=by
  have h5:=Zj (a:=a) (b:=c.k) (m:=12) (n:=16) (by omega) (by omega) (by omega) b2.2
  grind [F2,Ci,Vr]
 unfold mw ff fg;rw[gq K W,Z0,dj,L.conf];simp only[Z0,cond_true];rw[show(n.c != 1)=false by rw[L.st];rfl,cond_false,decide_eq_true (by omega),cond_true,ou,Z0,decide_eq_false (by omega),cond_false,Xh,gg hK L.conf,Vz.2 ⟨by omega,by omega⟩];simp only[Z0,Bool.not_true,cond_false];rw[A2b,Z0,<-S.hr,Z0];have key: ∀(f i:Nat) (v:List Int),(i:Int)<=run->run.toNat - i<f->v=n.L++(List.range i).map (fun(j:Nat)=>a+(j:Int))->jc K c a size run f (i:Int) (Fy.mk n.c n.a n.f n.s n.t n.i n.u n.v v n.w n.x n.y n.j) (Fy.mk 0 0 0 0 0 0 0 0 [] 0 0 [] []) n.c n.a n.f n.s n.t n.i n.u n.v n.L n.w n.x n.y n.j=some (dx c n a run size,true):=by
  intro f;induction f with
  |zero=>omega
  |succ f ih=>
   intro i v hi hf hv;have hvl:v.length=n.L.length+i:=by grind
   rw[jc];by_cases h:(i:Int)=run
   ·rw[decide_eq_false (by omega),cond_false,e3];simp only;rw[if_pos ⟨by grind,by grind⟩];have el:Fy.mk n.c n.a n.f n.s n.t n.i n.u n.v v n.w n.x (n.y++[H3.mk (a*c.k) size run]) n.j=dx c n a run size:=by
     grind [dx,Zt]
    have hl2:=L2.nth;have hl3:=Y4 L2.conf L2.dist;rw[el,oy hK c (dx c n a run size) (by omega) (by omega) (show n.j.length<=_ by omega),(Xf.2 L2).1];rfl
   ·have e1:A4 a (i:Int)=a+(i:Int):=by unfold A4 Fp;exact Xk (by omega)
    rw[decide_eq_true (by omega),cond_true,e1,K1 (by omega)];simp only;rw[if_pos ⟨by grind,by grind⟩];refine ih (i+1) _ (by omega) (by omega) ?_
    grind [List.range_succ]
 have:=key K 0 n.L (by omega) (by omega) (by simp);exact this
end
theorem Aii{w:H4}{E:Int}{n:Nat}(G:Ch w E n){k:Int}(hk:X7 w.o k){p':Pc}{n':Fy}
  (P':Zr w.C p') (hone: ∀c,0<=c/\c<w.C.L->(gt p'.c c=2 ↔ gt w.Q.c c=2)/\(gt p'.c c=1/\gt p'.h c=k ↔ c∈n'.L)/\ ∀x,x≠k->(gt p'.c c=1/\gt p'.h c=x ↔ gt w.Q.c c=1/\gt w.Q.h c=x))
  (hm:p'.g=w.Q.g) (hlk:Yk n'=Yk (gt w.o k)) (L:Wx w.C n') (T:aa w.C w.Q.g n') (he:Zy E n') {m:Nat} (hwt:Wj w.C n'<=Wj w.C (gt w.o k)+m):
  Ch (H4.mk w.C p' (w.o.set k.toNat n') w.p w.q) E (n+m)/\X7 (w.o.set k.toNat n') k/\gt (w.o.set k.toNat n') k=n':=by
 obtain⟨t,A,F⟩:=G.inv.forest;have al:=hk.al A;have hki:=al.lv.1;have hst:=((Y7 A).1 al.lv).2;have hg: ∀x,0<=x/\x<(w.o.length:Int)->gt (w.o.set k.toNat n') x=if x=k then n' else gt w.o x:=fun x hx=>Yz hki hx n'
 have hgk:gt (w.o.set k.toNat n') k=n':=gr hki n';have A':V6 (w.o.set k.toNat n') t:=fun x hx=>by
  rw[Tb]at hx;rw[hg x hx,A x hx]
  grind
 have I':Bd (H4.mk w.C p' (w.o.set k.toNat n') w.p w.q):=by
  refine Bdu G.inv hki p' _ t (by simp) (fun x hx hne=>⟨_,_,_,by rw[hg x hx,if_neg hne];exact(Ae4 _).symm,?_,?_,?_⟩) (by omega) (by grind) A' F P' hm (by simp_all) (by grind [aa.inch,aa.apart,aa.loose])
  ·rw[<-G.inv.len];exact(G.inv.rg.rg x hx).2.1
  ·rw[<-G.inv.len];exact(G.inv.rg.rg x hx).2.2.1
  ·rw[<-G.inv.len];exact(G.inv.rg.rg x hx).2.2.2
 refine⟨⟨I',by show ∀x∈p'.g,_;rw[hm];exact G.mem,fun x hx=> ?_,?_,?_⟩,⟨t,A',by grind⟩,hgk⟩
 ·have hx:0<=x/\x<((w.o.set k.toNat n').length:Int):=hx;rw[Tb]at hx;show Zy E (gt (w.o.set k.toNat n') x)
  grind [Ch.ep]
 ·have hs:=dv (f:=Wj w.C) (l:=w.o) (l':=w.o.set k.toNat n') (by simp) hki fun x hx hne=>by grind
  rw[hgk]at hs;have h3:=G.wt
  grind [wt,pot]
 ·have hs:=dv (f:=Wv) (l:=w.o) (l':=w.o.set k.toNat n') (by simp) hki fun x hx hne=>by rw[hg x hx,if_neg hne]
  rw[hgk,show Wv n'=1 by unfold Wv;rw[if_pos L.st],show Wv (gt w.o k)=1 by unfold Wv;rw[if_pos hst]]at hs;have h3:=G.cn;unfold cnt at h3 ⊢;show(((((w.o.set k.toNat n').map Wv).sum+w.p.length:Nat)):Int)<=E;omega
theorem Ch.live{w:H4}{E:Int}{n:Nat}(G:Ch w E n){k:Int}(hk:X7 w.o k):(0<=k/\k<(w.o.length:Int))/\Wx w.C (gt w.o k)/\aa w.C w.Q.g (gt w.o k)/\Zy E (gt w.o k):=by
 obtain⟨t,A,F⟩:=G.inv.forest;have al:=(hk.al A).lv;obtain⟨t1,t2,t3⟩:=G.inv.thing k al.1;exact⟨al.1,G.inv.live A al,⟨t1,t2,t3⟩,G.ep k al.1⟩
theorem A7m{w:H4}(I:Bd w){k:Int}(hk:0<=k/\k<(w.o.length:Int)){ch:List Int}(h:ch=(gt w.o k).L): ∀c,0<=c/\c<w.C.L->(gt w.Q.c c=2 ↔ gt w.Q.c c=2)/\(gt w.Q.c c=1/\gt w.Q.h c=k ↔ c∈ch)/\ ∀x,x≠k->(gt w.Q.c c=1/\gt w.Q.h c=x ↔ gt w.Q.c c=1/\gt w.Q.h c=x):=fun c hc=>⟨Iff.rfl,by simp_all[Bd.own],fun _ _=>Iff.rfl⟩
theorem Bd9{w:H4}(I:Bd w){p':Pc}{a n k:Int}(hk:0<=k/\k<(w.o.length:Int))(hf:Zs w.Q a n=true)(T:tu w.Q p' a n k){ch:List Int}(h: ∀c,c∈ch ↔ c∈(gt w.o k).L\/a<=c/\c<a+n):
  Zr w.C p'/\ ∀c,0<=c/\c<w.C.L->(gt p'.c c=2 ↔ gt w.Q.c c=2)/\(gt p'.c c=1/\gt p'.h c=k ↔ c∈ch)/\ ∀x,x≠k->(gt p'.c c=1/\gt p'.h c=x ↔ gt w.Q.c c=1/\gt w.Q.h c=x):=by
 obtain⟨a1,a2⟩:=Bdv I hk hf T
 grind
section
variable {K:Nat} (hK:281474976710656<=K)
include hK
theorem Bea{E:Int}{n:Nat}(hE:0<=E/\E<=900000000)(hn:n<=900000000){w:H4}(G:Ch w E n){k:Int}(hk:X7 w.o k)(size al:Int)(hs: -1000000<=size/\size<=1000000)(v19:Sw)(v20 v21 v22 v23 v24 v25 v26:Int)(v27:List Int)(v28 v29 v30:Int):
  ∃r w',wr K k size al w.C.L w.C.k w.C.l w.C.e w.C.m w.C.n w.Q.g w.Q.c w.Q.h w.o w.p w.q v19 v20 v21 v22 v23 v24 v25 v26 v27 v28 v29 v30=some (r,w')/\Ch w' E n/\w'.C=w.C/\w'.o.length=w.o.length:=by
 obtain⟨hki,L,T,e⟩:=G.live hk;have W:=ia (Xf.2 L).1 e (by omega);obtain⟨n',b,e1,h⟩:=Bd8 hK L W e.cur size al hs;unfold wr;simp only[if_pos hki];rw[show Sv.mk w.C.L w.C.k w.C.l w.C.e w.C.m w.C.n=w.C from rfl,e1,Z0];have P:=W4.1 G.inv.pool;refine⟨_,_,rfl,?_,rfl,by simp⟩;rcases h with h|⟨off,S,h⟩
 ·rw[h];exact(Aii G hk (n':=gt w.o k) (m:=0) P (A7m G.inv hki rfl) rfl rfl L T e (by omega)).1
 ·rw[h];obtain⟨L2,T2⟩:=Bd4 L e.cur T S;exact(Aii G hk (n':=Af8 w.C (gt w.o k) off size) (m:=0) P (A7m G.inv hki rfl) rfl rfl L2 T2 ⟨e.ep,e.ue,e.cur⟩ (Z9 _)).1
theorem Bvc{E:Int}{n:Nat}(hE:0<=E/\E<=900000000)(hn:n<=880000000){w:H4}(G:Ch w E n){k:Int}(hk:X7 w.o k)(size al:Int)(hs: -1000000<=size/\size<=1000000)(a4:Sw):
  ∃r w',Ay1 K w k size al a4=some (r,w')/\Ch w' E (n+16)/\w'.C=w.C/\w'.o.length=w.o.length:=by
 obtain⟨hki,L,T,e⟩:=G.live hk;have W:=ia (Xf.2 L).1 e (by omega);have WW:=G.ww (by omega) (by omega);have hlen:=G.inv.len;have b0:=Gy G.inv.conf;obtain⟨nb,e1⟩:=Bva hK L W e.cur size al hs;unfold Ay1;simp only[if_pos hki];rw[e1,Z0];cases nb with
 |false=>
  simp only[cond_false];obtain⟨r,w',h1,h2,h3⟩:=Bea hK hE (by omega) G hk size al hs (Sw.mk 0 (Lz.mk 0 0) (Pd.mk (Lz.mk 0 0) 0 0) [] 0 0 0) a4.F a4.P.d a4.P.a a4.b.P.d a4.b.P.a a4.b.f a4.b.r a4.A a4.G a4.e a4.H;exact⟨r,w',h1,Ch.le h2 (Int.le_refl E) (by omega),h3⟩
 |true=>
  simp only[cond_true];obtain⟨fb,ef⟩:=A7g hK WW (by omega) 1;rw[ef,Z0];cases fb with
  |false=>exact⟨_,_,rfl,Ch.le G (Int.le_refl E) (by omega),rfl,rfl⟩
  |true=>
   simp only[Bool.not_true,cond_false];obtain⟨d,w1,ed,S⟩:=A7e hK (by omega:0<=E/\E<=1000000000) (by omega) 0 (run:=1) (by omega) G;have G1:=S.good;obtain⟨hk1,⟨x1,x2,x3,hnode⟩,_⟩:=S.stay.node k hk;obtain⟨hki1,L1,T1,e1⟩:=G1.live hk1;have W1:=ia (Xf.2 L1).1 e1 (by omega);have WW1:=G1.ww (by omega) (by omega);have P1:=W4.1 G1.inv.pool;have hst:=P1.st;have how:=P1.own;have hc1:=S.stay.conf;obtain⟨ch,ec,hch⟩:=Bdt hK (p:=w1.Q) (by grind);rw[ed,Z0];simp only;rw[ec,Z0];by_cases q:ch<0
   ·rw[decide_eq_true q];exact⟨_,_,rfl,Ch.le G1 (Int.le_refl E) (by omega),hc1,S.stay.len⟩
   ·rw[decide_eq_false q];simp only[cond_false];have hf:=hch.resolve_left (by omega);obtain⟨f1,f2,f3,f4⟩:=lr.1 hf;obtain⟨p',ep,T'⟩:=A7f hK WW1.p (by grind) (by omega) (k:=k) hf;have hnew:ch ∉ (gt w1.o k).L:=fun h=>by
     have:=((G1.inv.own k hki1 ch).1 h).2.1
     grind
    rw[ep,Z0];simp only[if_pos hki1];rw[A7j hK L1 W1 ⟨f1,by omega⟩ hnew,Z0];simp only[if_pos hki1];obtain⟨P',hone⟩:=Bd9 G1.inv hki1 hf T' (ch:=(Zb (gt w1.o k) ch).L) fun c=>by
     show c∈(gt w1.o k).L++[ch] ↔ _
     grind
    have T2:aa w1.C w1.Q.g (Zb (gt w1.o k) ch):=by
     refine⟨?_,T1.apart,?_⟩
     ·rw[Z1];exact fun o ho=>Bd2 (fun x hx=>C5.2 (.inl hx)) (Z1.1 T1.inch o ho)
     ·refine Bdx rfl rfl ((P1.one ch ⟨f1,by omega⟩).2.2.2 (f4 ch ⟨by omega,by omega⟩)) ?_;rw[Z1];intro o ho;refine ua fun j h1 h2 h3 h4=> ?_
      have h3:(ch+1 - 1)*w1.C.k+0<=j:=h3;have h4:j<(ch+1 - 1)*w1.C.k+0+(w1.C.k - 0):=h4;rw[Int.add_sub_cancel]at h3 h4;have:=tw (a:=ch) (s:=w1.C.k) (j:=j) (by omega) (by omega) (by omega);have h5:=A7k (Z1.1 T1.inch o ho) h1 h2
      grind
    obtain⟨G2,hk2,hg2⟩:=Aii G1 hk1 (n':=Zb (gt w1.o k) ch) (m:=16) P' hone T'.mem rfl (A7i L1 ⟨f1,by omega⟩ hnew) T2 ⟨e1.ep,e1.ue,⟨by show 0<=ch+1;omega,by show ch+1<=_;grind⟩⟩ (by
     have hz:w1.C.k.toNat<=16:=by grind
     have hst1:(Zb (gt w1.o k) ch).c=1:=L1.st;unfold Wj;rw[if_pos L1.st,if_pos hst1];show 2+(gt w1.o k).j.length+w1.C.k.toNat*((gt w1.o k).L++[ch]).length<=_;rw[Jd,List.length_singleton,Nat.mul_succ];omega)
    obtain⟨r,w',h1,h2,h3,h4⟩:=Bea hK hE (n:=n+16) (by omega) G2 hk2 size al hs (Sw.mk 0 (Lz.mk 0 0) (Pd.mk (Lz.mk 0 0) 0 0) [] 0 0 0) a4.F a4.P.d a4.P.a a4.b.P.d a4.b.P.a a4.b.f a4.b.r a4.A a4.G a4.e d;refine⟨r,w',h1,h2,h3.trans hc1,h4.trans ?_⟩;show(w1.o.set _ _).length=_
    grind [Y9.len,Steps.stay]
theorem Bvd{E:Int}{n:Nat}(hE:0<=E/\E<=900000000)(hn:n<=900000000){w:H4}(G:Ch w E n){k:Int}(hk:X7 w.o k)(size:Int)(hs:w.C.k<size/\size<=200)(hcnt:(gt w.o k).y.length<12)(a4:Sw):
  ∃r w',Ayy K w k size a4=some (r,w')/\Ch w' E (n+192)/\w'.C=w.C/\w'.o.length=w.o.length:=by
 have WW:=G.ww (by omega) (by omega);have hlen:=G.inv.len;have b0:=Gy G.inv.conf;unfold Ayy fg;rw[A2b,Z0,Z0];obtain⟨fb,ef⟩:=A7g hK WW (by omega) (Wb size w.C.k);have hrun:Wb size w.C.k=(size+w.C.k - 1) / w.C.k:=by
  unfold Wb;rw[Vz.2 ⟨by omega,by omega⟩,Vz.2 ⟨by omega,by omega⟩];rfl
 have hr2:Wb size w.C.k<=1000:=by
  have:(size+w.C.k - 1) / w.C.k<=size+w.C.k - 1:=Int.ediv_le_self _ (by omega);omega
 have hr1:1<=Wb size w.C.k:=by
  rw[hrun];exact(Int.le_ediv_iff_mul_le (by omega)).2 (by omega)
 rw[ef,Z0];cases fb with
 |false=>exact⟨_,_,rfl,Ch.le G (Int.le_refl E) (by omega),rfl,rfl⟩
 |true=>
  simp only[Bool.not_true,cond_false];obtain⟨d,w1,ed,S⟩:=A7e hK (by omega:0<=E/\E<=1000000000) (by omega) 0 (run:=Wb size w.C.k) (by omega) G;have G1:=S.good;obtain⟨hk1,⟨x1,x2,x3,hnode⟩,_⟩:=S.stay.node k hk;obtain⟨hki1,L1,T1,e1⟩:=G1.live hk1;have W1:=ia (Xf.2 L1).1 e1 (by omega);have WW1:=G1.ww (by omega) (by omega);have P1:=W4.1 G1.inv.pool;have hst:=P1.st;have how:=P1.own;have hc1:=S.stay.conf;rw[hc1]at hst how;obtain⟨at_,ec,hat⟩:=Bds hK (p:=w1.Q) (n:=Wb size w.C.k) (by omega) (by omega);rw[ed,Z0];simp only;rw[ec,Z0];by_cases q:at_<0
  ·rw[decide_eq_true q];exact⟨_,_,rfl,Ch.le G1 (Int.le_refl E) (by omega),hc1,S.stay.len⟩
  ·rw[decide_eq_false q];simp only[cond_false];have hf:=hat.resolve_left (by omega);obtain⟨f1,f2,f3,f4⟩:=lr.1 hf;obtain⟨p',ep,T'⟩:=A7f hK WW1.p (by omega) (by omega) (k:=k) hf;have SP:A7l w1.C (gt w1.o k) at_ (Wb size w.C.k) size:=by
    refine⟨by grind,by rw[hc1],by grind,fun x hx h=> ?_,by rw[hnode];exact hcnt⟩;have:=((G1.inv.own k hki1 x).1 hx).2.1
    grind
   obtain⟨L2,T2⟩:=Bd5 L1 e1.cur T1 SP;rw[ep,Z0];simp only[if_pos hki1];rw[Bvb hK L1 W1 e1.cur T1 SP,Z0]
   try simp only[if_pos hki1]
   obtain⟨P',hone⟩:=Bd9 G1.inv hki1 hf T' (ch:=(dx w1.C (gt w1.o k) at_ (Wb size w.C.k) size).L) fun c=>by
    show c∈(gt w1.o k).L++Zt at_ (Wb size w.C.k) ↔ _
    simp_all[A28]
   obtain⟨G2,hk2,hg2⟩:=Aii G1 hk1 (n':=dx w1.C (gt w1.o k) at_ (Wb size w.C.k) size) (m:=192) P' hone T'.mem rfl L2 T2 ⟨e1.ep,e1.ue,e1.cur⟩ (by
    have hst1:(dx w1.C (gt w1.o k) at_ (Wb size w.C.k) size).c=1:=L1.st;unfold Wj;rw[if_pos L1.st,if_pos hst1];show 2+(gt w1.o k).j.length+w1.C.k.toNat*((gt w1.o k).L++Zt at_ (Wb size w.C.k)).length<=_;have hrl:(Zt at_ (Wb size w.C.k)).length<=12:=by grind [Zt]
    have:=Nat.mul_le_mul (show w1.C.k.toNat<=16 by grind) hrl;rw[Jd,Nat.mul_add];omega)
   refine⟨_,_,rfl,G2,hc1,?_⟩;show(w1.o.set _ _).length=_
   grind [Y9.len,Steps.stay]
theorem Beb{E:Int}{n:Nat}(hE:0<=E/\E<=900000000)(hn:n<=900000000){w:H4}(G:Ch w E n){k:Int}(hk:0<=k/\k<(w.o.length:Int))(h:Lz)(c a b d e f g:Int)(l:List Int)(x y z:Int):
  ∃r w',wu K h k w.C.L w.C.k w.C.l w.C.e w.C.m w.C.n w.Q.g w.Q.c w.Q.h w.o w.p w.q c a b d e f g l x y z=some (r,w')/\Ch w' E n/\w'.C=w.C:=by
 unfold wu;rw[show H4.mk (Sv.mk w.C.L w.C.k w.C.l w.C.e w.C.m w.C.n) (Pc.mk w.Q.g w.Q.c w.Q.h) w.o w.p w.q=w from rfl];cases c != 0 with
 |true=>grind
 |false=>
  simp only[cond_false];obtain⟨t,w2,es,S2⟩:=A27 hK (E:=E) (n:=n) (by omega) (by omega) w.C.e G;simp only[if_pos hk,es,Z0];exact⟨_,_,rfl,S2.good,S2.stay.conf⟩
theorem A7n{E:Int}{n:Nat}(hE:0<=E/\E<=900000000)(hn:n<=800000000){w:H4}(G:Ch w E n)(h:Lz){size al:Int}(hs:1<=size/\size<=200){k:Int}(a b:Sw)(hk:a.F=0->X7 w.o k/\(gt w.o k).y.length<12):
  ∃r w',rm K h size al k w.C.L w.C.k w.C.l w.C.e w.C.m w.C.n w.Q.g w.Q.c w.Q.h w.o w.p w.q a b=some (r,w')/\Ch w' E (n+192)/\w'.C=w.C:=by
 unfold rm ff;rw[show H4.mk (Sv.mk w.C.L w.C.k w.C.l w.C.e w.C.m w.C.n) (Pc.mk w.Q.g w.Q.c w.Q.h) w.o w.p w.q=w from rfl,show Sv.mk w.C.L w.C.k w.C.l w.C.e w.C.m w.C.n=w.C from rfl];by_cases h0:a.F=0
 ·obtain⟨hk,hcnt⟩:=hk h0;have hki:=(G.live hk).1;rw[h0];simp only[bne_self_eq_false,cond_false,Z0];by_cases q:size>w.C.k
  ·rw[decide_eq_true q];simp only[cond_true];obtain⟨r,w',h1,h2,h3,h4⟩:=Bvd hK hE (by omega) G hk size ⟨q,hs.2⟩ hcnt a;rw[h1,Z0];obtain⟨r2,w2,k1,k2,k3⟩:=Beb hK hE (n:=n+192) (by omega) h2 (k:=k) (by omega) h r.F r.P.d r.P.a r.b.P.d r.b.P.a r.b.f r.b.r r.A r.G r.e r.H
   grind
  ·rw[decide_eq_false q];simp only[cond_false];obtain⟨r,w',h1,h2,h3,h4⟩:=Bvc hK hE (by omega) G hk size al (by omega) a;rw[h1,Z0];obtain⟨r2,w2,k1,k2,k3⟩:=Beb hK hE (n:=n+16) (by omega) h2 (k:=k) (by omega) h r.F r.P.d r.P.a r.b.P.d r.b.P.a r.b.f r.b.r r.A r.G r.e r.H;exact⟨r2,w2,k1,Ch.le k2 (Int.le_refl E) (by omega),k3.trans h3⟩
 ·rw[Yg h0];exact⟨_,_,rfl,Ch.le G (Int.le_refl E) (by omega),rfl⟩
theorem Bve{E:Int}{n:Nat}(hE:0<=E/\E<=900000000)(hn:n<=800000000){w:H4}(G:Ch w E n)(h:Lz)(size al:Int): ∃r w',Ay2 K w h size al=some (r,w')/\Ch w' E (n+192)/\w'.C=w.C:=by
 have W:=G.ww (by omega) (by omega);have G0:=Ch.le G (Int.le_refl E) (by omega:n<=n+192);unfold Ay2;rw[Xh,Z0];by_cases q:1<=size/\size<=200
 ·rw[Vz.2 q,A29];simp only[cond_true,Z0];cases px al with
  |false=>exact⟨_,_,rfl,G0,rfl⟩
  |true=>
   simp only[Bool.not_true,cond_false];rw[su hK W.l,Z0,pg hK w W.l,Z0];by_cases h0:(Xp w.o h).2=0
   ·have hal:=tv G.inv h0;have hki:=(G.live hal).1;rw[h0];simp only[beq_self_eq_true,cond_true];simp only[if_pos hki];by_cases q2:((gt w.o (Xp w.o h).1).y.length:Int)>=12
    ·rw[decide_eq_true q2];exact A7n hK hE hn G h q (al:=al) (k:=(Xp w.o h).1) (Sw.mk 8 (Lz.mk 0 0) (Pd.mk (Lz.mk 0 0) 0 0) [] (zu w h) 0 0) (Sw.mk 0 (Lz.mk 0 0) (Pd.mk (Lz.mk 0 0) 0 0) [] 0 0 0) (fun f=>absurd (show(8:Int)=0 from f) (by decide))
    ·rw[decide_eq_false q2];exact A7n hK hE hn G h q (al:=al) (k:=(Xp w.o h).1) (Sw.mk 0 (Lz.mk 0 0) (Pd.mk (Lz.mk 0 0) 0 0) [] (zu w h) 0 0) (Sw.mk 0 (Lz.mk 0 0) (Pd.mk (Lz.mk 0 0) 0 0) [] 0 0 0) (fun f=>⟨hal,by omega⟩)
   ·rw[Wg h0];exact A7n hK hE hn G h q (al:=al) (k:=(Xp w.o h).1) (Sw.mk (Xp w.o h).2 (Lz.mk 0 0) (Pd.mk (Lz.mk 0 0) 0 0) [] (zu w h) 0 0) (Sw.mk 0 (Lz.mk 0 0) (Pd.mk (Lz.mk 0 0) 0 0) [] 0 0 0) (fun f=>absurd f h0)
 ·rw[A19.2 q]
  grind
end
def Dg (mem:List Int)(p:Int)(s:List Int):List Int:=mem.take p.toNat++s++mem.drop (p.toNat+s.length)
def A3a (mem:List Int)(t:H3)(off:Int)(s:List Int):Bool:=decide ((0<=off/\(0:Int)<=(s.length:Int)/\off+(s.length:Int)<=t.D)/\0<=A4 t.B off/\A4 t.B off+(s.length:Int)<=(mem.length:Int))
def A7o (mem:List Int)(t:H3)(off:Int)(s:List Int):List Int×Bool:=bif A3a mem t off s then(Dg mem (A4 t.B off) s,true)else(mem,false)
theorem M0{mem:List Int}{p:Int}{s:List Int}(h0:0<=p)(h1:p+(s.length:Int)<=(mem.length:Int)):(Dg mem p s).length=mem.length:=by
 grind [Dg]
theorem Bvf{mem s:List Int}{p j:Nat}(hj:j<s.length)(hp:p+s.length<=mem.length):(mem.take p++s.take j++mem.drop (p+j)).set (p+j) s[j]=mem.take p++s.take (j+1)++mem.drop (p+(j+1)):=by
 have hl:(mem.take p++s.take j).length=p+j:=by grind
 rw[List.set_append_right _ _ (by omega),hl,Nat.sub_self,Z47 (by omega:p+j<mem.length),List.set_cons_zero,<-List.take_append_getElem hj]
 grind
section
variable {K:Nat} (hK:281474976710656<=K)
include hK
theorem Bvg{mem s:List Int}(hm:mem.length<=140737488355327)(p:Int)(hs:s.length<=140737488355327):Az1 K mem p s=some (bif decide (0<=p/\(0:Int)<=(s.length:Int)/\p+(s.length:Int)<=(mem.length:Int))then(Dg mem p s,true)else(mem,false)):=by
 have hx:=V2;unfold Az1;simp only[Hd];rw[if_pos (by omega),Bcj K hm,Z0,Wd];by_cases h:0<=p/\(0:Int)<=(s.length:Int)/\p+(s.length:Int)<=(mem.length:Int)
 ·rw[decide_eq_true h,cond_true,cond_true];obtain⟨q,rfl⟩: ∃q:Nat,p=q:=⟨p.toNat,by omega⟩;have:=A2j hK s (by omega) (fun _=>true) (some (Dg mem (q:Int) s,true)) none (fun n j=>jo K (q:Int) s n (mem.take q++s.take j++mem.drop (q+j)) (j:Int)) (fun n j hj=> ?_) (fun n=> ?_)
  ·rw[Z1.2 (fun _ _=>rfl)]at this;simp_all
  ·have hl:(mem.take q++s.take j++mem.drop (q+j)).length=mem.length:=by grind
   have e:A4 (q:Int) (j:Int)=((q+j:Nat):Int):=by grind [A4,Fp,Vr]
   show jo K (q:Int) s (n+1) _ _=_;rw[jo,P2 hj,cond_true,if_pos (K0 hj),e,hl,if_pos (by omega),K1 (by omega),Gz hj,Int.toNat_natCast,Bvf hj (by omega)];rfl
  ·show jo K (q:Int) s (n+1) _ _=_;simp_all[jo,Dg]
 grind
theorem Bvh{mem s:List Int}(hm:mem.length<=140737488355327)(hs:s.length<=140737488355327){t:H3}(wt:ThingW t)(off:Int):Az2 K mem t off s=some (A7o mem t off s):=by
 have hx:=V2;obtain⟨wl1,wl2⟩:=wt.2.1;unfold Az2 xj A7o A3a;simp only[Hd];rw[if_pos (by omega),Bvg hK hm _ hs];simp only[Z0];rw[decide_eq_true (show(s.length:Int)>=0 by omega)];by_cases h1:(0:Int)<=off
 ·rw[decide_eq_true (show off>=0 from h1)];by_cases h3:off<=t.D
  ·rw[decide_eq_true h3];have e:Ap t.D off=t.D - off:=by grind [Ap,Aly,Vr]
   grind
  grind
 grind
end
def Bec (n:Fy)(v:Int):Fy:=Fy.mk n.c n.a n.f n.s n.t n.i n.u n.v n.L n.w n.x n.y (n.j++([v]:List Int))
theorem Bvi (K:Nat)(r:Pd): ∃b,Azw K r=some b:=by
 unfold Azw;rw[Bb6];simp only[Z0];cases pa r.P<;>cases decide (r.f>=0)<;>exact⟨_,rfl⟩
theorem Bvj (K:Nat){n:Fy}(hn:Wt n)(r:Pd): ∃t b,Azx K n r=some (t,b)/\(b=true->t∈n.y):=by
 have h2:=hn.things;have hl:n.y.length<=140737488355327:=by have:=h2.2;omega
 unfold Azx;rw[jz K hl];simp only[Z0];by_cases hs:0<=r.r/\r.r<(n.y.length:Int)
 ·rw[decide_eq_true hs,if_pos hs];have hm:gt n.y r.r∈n.y:=Wq hs.1 hs.2;cases n.c != 1<;>cases n.f != r.f<;>first|simp_all|grind
 ·rw[decide_eq_false hs];simp_all
theorem Bed{K:Nat}(hK:281474976710656<=K){w:H4}(I:Bd w)(hw:V0 w.o)(r:Pd): ∃k t c,xi K w r=some (k,t,c)/\(c=0->X7 w.o k/\t∈(gt w.o k).y):=by
 unfold xi;obtain⟨b,h1⟩:=Bvi K r;rw[h1,su hK hw];simp only[Z0];cases b with
 |false=>exact⟨_,_,_,rfl,fun h=>by cases h⟩
 |true=>
  simp only[Bool.not_true,cond_false];by_cases h0:(Xp w.o r.P).2=0
  ·have hi:=Brq h0;have hal:=tv I h0;rw[if_pos hi,h0];obtain⟨q,b,h3,h4⟩:=Bvj K (hw.1 _ (Wq hi.1 hi.2)) r;rw[h3];simp only[Z0,bne_self_eq_false,cond_false];cases b with
   |false=>exact⟨_,_,_,rfl,fun h=>by cases h⟩
   |true=>exact⟨_,_,_,rfl,fun _=>⟨hal,h4 rfl⟩⟩
  ·rw[Yg h0]
   grind
theorem Bvk{mem:List Int}{p:Int}{s:List Int}(h0:0<=p)(h1:p+(s.length:Int)<=(mem.length:Int)){j:Nat}(hj:j<mem.length)(h: ¬(p<=(j:Int)/\(j:Int)<p+(s.length:Int))):gt (Dg mem p s) (j:Int)=gt mem (j:Int):=by
 have hl:=M0 h0 h1;rw[Gz (by omega),Gz hj];unfold Dg;by_cases q:(j:Int)<p
 ·grind
 ·rw[List.getElem_append_right (by grind),List.getElem_drop]
  grind
theorem Bvl{mem:List Int}{p:Int}{s:List Int}(hm: ∀x∈mem,0<=x/\x<=255)(hs: ∀x∈s,0<=x/\x<=255): ∀x∈Dg mem p s,0<=x/\x<=255:=by
 intro x hx;unfold Dg at hx;rcases C5.1 hx with h|h
 ·rcases C5.1 h with h|h
  ·exact hm x (Kk h)
  ·exact hs x h
 ·exact hm x (List.mem_of_mem_drop h)
theorem Bvm{w:H4}{E:Int}{n:Nat}(G:Ch w E n){k:Int}(hk:X7 w.o k){t:H3}(ht:t∈(gt w.o k).y){mem':List Int}(hl:mem'.length=w.Q.g.length)
  (hb: ∀x∈mem',0<=x/\x<=255) (hs: ∀j:Nat,j<w.Q.g.length-> ¬(t.B<=(j:Int)/\(j:Int)<t.B+t.D)->gt mem' (j:Int)=gt w.Q.g (j:Int)):
  Ch (H4.mk w.C (Pc.mk mem' w.Q.c w.Q.h) w.o w.p w.q) E n:=by
 have I:=G.inv;have P:=W4.1 I.pool;obtain⟨hki,L,T,e⟩:=G.live hk;have b0:=Gy I.conf;have hin: ∀j,t.B<=j->j<t.B+t.D->j / w.C.k∈(gt w.o k).L:=fun j h1 h2=>A7k (Z1.1 T.inch t ht) h1 h2
 have hz: ∀a m:Nat,Wa ((w.Q.g.drop a).take m)=true->(∀j:Nat,a<=j->j<a+m-> ¬(t.B<=(j:Int)/\(j:Int)<t.B+t.D))->Wa ((mem'.drop a).take m)=true:=by
  grind [pq]
 have hch: ∀c,0<=c/\c<w.C.L->gt w.Q.c c≠1-> ∀j:Nat,(c*w.C.k).toNat<=j->j<(c*w.C.k).toNat+w.C.k.toNat-> ¬(t.B<=(j:Int)/\(j:Int)<t.B+t.D):=by
  intro c hc hst j h1 h2 h3;have h0:0<=c*w.C.k:=Int.mul_nonneg hc.1 (by omega);have h4:=hin j h3.1 h3.2;rw[tw (a:=c) (by omega) (by omega) (by omega)]at h4;exact hst ((I.own k hki c).1 h4).2.1
 refine⟨A68 I (Pc.mk mem' w.Q.c w.Q.h) w.p w.q ⟨P.conf,by rw[<-P.mem];grind,P.st,P.own,fun c hc=> ?_⟩ (fun c hc=>⟨Iff.rfl,rfl⟩) (fun x hx=> ?_) rfl rfl (fun x hx=> ?_) I.chn I.chi I.log,hb,G.ep,G.wt,G.cn⟩
 ·obtain⟨p1,p2,p3,p4⟩:=P.one c hc;refine⟨p1,p2,p3,fun h=>hz _ _ (p4 h) fun j h1 h2=>hch c hc ?_ j h1 h2⟩
  grind
 ·have h3:=(I.thing x hx).2.2;by_cases hs1:(gt w.o x).c=1
  ·have Lx:=Xf.1 ⟨I.node x hx,hs1⟩;have ex:=G.ep x hx;by_cases hcur:(gt w.o x).w=0
   ·grind [X2]
   ·obtain⟨m1,m2,m3⟩:=Afp Lx ex.cur hcur;have hm:=au Lx.dist _ m1;have h0:0<=((gt w.o x).w - 1)*w.C.k:=Int.mul_nonneg hm.1 (by omega);unfold X2 at h3 ⊢;rw[Wg hcur,Z52,Z4]at h3 ⊢;refine⟨hz _ _ h3.1 fun j h1 h2 h4=> ?_,h3.2⟩;have h1:(((gt w.o x).w - 1)*w.C.k+(gt w.o x).x).toNat<=j:=h1;have h2:j<(((gt w.o x).w - 1)*w.C.k+(gt w.o x).x).toNat+(w.C.k - (gt w.o x).x).toNat:=h2;have h5:=hin j h4.1 h4.2;rw[tw (a:=(gt w.o x).w - 1) (by omega) (by omega) (by omega)]at h5;have e1:=((I.own k hki _).1 h5).2.2;have e2:=((I.own x hx _).1 m1).2.2;have exk:x=k:=by omega
    rw[exk]at h3 h1 h2;refine Bd0 (Z1.1 h3.2 t ht) h4.1 h4.2 (b:=Xq w.C (gt w.o k)) ?_ ?_
    ·grind
    ·show(j:Int)<((gt w.o k).w - 1)*w.C.k+(gt w.o k).x+(w.C.k - (gt w.o k).x)
     grind
  ·rw[ba (I.node x hx) hs1];rfl
 ·obtain⟨a,b⟩:=I.wrec x hx;refine⟨a,?_⟩;have R:=Y0.1 a;by_cases hc:0<x.L.length
  ·have hm:gt x.L 0∈x.L:=Xn (i:=0) hc;have h1:=(I.chi _).1 (A60 hx hm);unfold Yc at b ⊢;rw[Bool.or_eq_true]at b ⊢;rcases b with b|b
   ·grind
   ·refine .inr (hz _ _ b fun j h2 h3=>hch _ h1.1 (by omega) j h2 ?_);have hd:=R.done
    grind
  grind [Yc]
section
variable {K:Nat} (hK:281474976710656<=K)
include hK
theorem Bvn{E:Int}{n:Nat}(hE:0<=E/\E<=900000000)(hn:n<=800000000){w:H4}(G:Ch w E n)(r:Pd)(off m:Int): ∃a,Az0 K w r off m=some (w,a):=by
 have W:=G.ww (by omega) (by omega);have P:=Ae2 (W4.1 G.inv.pool);obtain⟨k,t,c,e,h⟩:=Bed hK G.inv W.l r;unfold Az0;rw[zr hK W,A2l hK w W,G.inv.ok,e,pg hK w W.l];simp only[Z0,Bool.not_true,cond_false];by_cases h0:c=0
 ·obtain⟨hk,ht⟩:=h h0;have hT:=A66 (Z1.1 (G.live hk).2.1.things t ht);rw[h0];simp only[bne_self_eq_false,cond_false];rw[Bsv K (by omega) hT,Z0];cases (A6k w.Q.g t off m).2<;>exact⟨_,rfl⟩
 simp_all[Yg]
theorem Bvo{E:Int}{n:Nat}(hE:0<=E/\E<=900000000)(hn:n<=800000000){w:H4}(G:Ch w E n)(r:Pd)(off:Int){s:List Int}(hs: ∀x∈s,0<=x/\x<=255)(hl:s.length<=1000000): ∃a w',Az3 K w r off s=some (w',a)/\Ch w' E n/\w'.C=w.C:=by
 have W:=G.ww (by omega) (by omega);have P:=Ae2 (W4.1 G.inv.pool);obtain⟨k,t,c,e,h⟩:=Bed hK G.inv W.l r;unfold Az3;rw[zr hK W,A2l hK w W,G.inv.ok,e,pg hK w W.l];simp only[Z0,Bool.not_true,cond_false];by_cases h0:c=0
 ·obtain⟨hk,ht⟩:=h h0;have htb:=Z1.1 (G.live hk).2.1.things t ht;have hT:=A66 htb;obtain⟨s1,s2,s3,s4⟩:=(sr htb).1;rw[h0];simp only[bne_self_eq_false,cond_false];rw[Bvh hK (by omega) (by omega) hT,Z0];unfold A7o;cases ho:A3a w.Q.g t off s with
  |false=>exact⟨_,_,rfl,G,rfl⟩
  |true=>
   unfold A3a at ho;rw[decide_eq_true_iff]at ho;have ea:A4 t.B off=t.B+off:=by grind [A4,Fp,Vr]
   rw[ea]at ho ⊢;refine⟨_,_,rfl,Bvm G hk ht (M0 (by omega) (by omega)) (Bvl G.mem hs) (fun j hj hne=>Bvk (by omega) (by omega) hj (by omega)),rfl⟩
 ·rw[Yg h0];grind
theorem Bvp{E:Int}{n:Nat}(hE:0<=E/\E<=900000000)(hn:n<=800000000){w:H4}(G:Ch w E n)(h:Lz)(v:Int): ∃a w',Az5 K w h v=some (w',a)/\Ch w' E (n+1)/\w'.C=w.C:=by
 have hm:=V2;have W:=G.ww (by omega) (by omega);have G0:=Ch.le G (Int.le_refl E) (by omega:n<=n+1);unfold Az5 xl Az4;rw[zr hK W,A2l hK w W,G.inv.ok,Xh,su hK W.l,pg hK w W.l];simp only[Z0,cond_true];by_cases hv:0<=v/\v<=255
 ·rw[Vz.2 hv];simp only[Bool.not_true,cond_false];by_cases h0:(Xp w.o h).2=0
  ·have hal:=tv G.inv h0;obtain⟨hki,L,T,e⟩:=G.live hal;rw[h0];simp only[beq_self_eq_true,cond_true,if_pos hki];by_cases q:((gt w.o (Xp w.o h).1).j.length:Int)>=6
   ·rw[decide_eq_true q];grind
   ·rw[decide_eq_false q];simp only[cond_false];rw[if_pos ⟨by grind,by grind⟩];refine⟨_,_,rfl,?_,rfl⟩;have P:=W4.1 G.inv.pool;refine(Aii G hal (n':=Bec (gt w.o (Xp w.o h).1) v) (m:=1) P (A7m G.inv hki rfl) rfl rfl ⟨L.conf,L.st,L.gen,L.up,L.first,L.next,L.prev,L.ep,L.ue,L.dist,L.cur,L.nth,?_,?_,L.things⟩ ⟨T.inch,T.apart,T.loose⟩ ⟨e.ep,e.ue,e.cur⟩ ?_).1
    ·show(_++[v]).length<=6
     grind
    ·show(_++[v]).all _=true;rw[List.all_append,L.tags,Bb,Vz.2 hv];rfl
    ·have hst1:(Bec (gt w.o (Xp w.o h).1) v).c=1:=L.st;unfold Wj;rw[if_pos L.st,if_pos hst1];show 2+(_++[v]).length+w.C.k.toNat*(gt w.o (Xp w.o h).1).L.length<=_
     grind
  ·rw[Wg h0]
   grind
 ·rw[A19.2 hv];exact⟨_,_,rfl,G0,rfl⟩
theorem Bvq{E:Int}{n:Nat}(hE:0<=E/\E<=900000000)(hn:n<=800000000){w:H4}(G:Ch w E n)(h:Lz): ∃a,Az7 K w h=some (w,a):=by
 have W:=G.ww (by omega) (by omega);unfold Az7 Az6;rw[zr hK W,A2l hK w W,G.inv.ok,su hK W.l,pg hK w W.l];simp only[Z0,Bool.not_true,cond_false];by_cases h0:(Xp w.o h).2=0
 ·have hal:=tv G.inv h0;obtain⟨hki,L,T,e⟩:=G.live hal;have hn:=W.l.1 _ (Wq hki.1 hki.2);rw[h0];simp only[beq_self_eq_true,cond_true,if_pos hki];unfold A4p;rw[oy hK _ _ (Yb hK hn.chunks) (A2c hK hn.things) (Yb hK hn.tags)];simp only[Z0];cases (gt w.o (Xp w.o h).1).w==0<;>cases Wr w.C (gt w.o (Xp w.o h).1)<;>exact⟨_,rfl⟩
 simp_all[Wg]
end
def ae (a:List Int):Prop:= ∀x∈a,0<=x/\x<=255
theorem Bvr{a b:List Int}(h:ae a)(g:ae b):ae (a++b):=by
 intro x hx;rcases C5.1 hx with h1|h1
 ·exact h x h1
 ·exact g x h1
def Vs (c:Sx):Prop:=ae c.fb/\c.fb.length<=1048576/\0<=c.fi/\c.fi<=(c.fb.length:Int)
theorem Bee (x:Int):0<=Alz .i64 x 255/\Alz .i64 x 255<=255:=by
 grind [Alz,BitVec.ofInt,IntKind.bits,Nat.and_le_right,Vr]
theorem Bvs (K:Nat){a:List Int}(hb:ae a)(ha:a.length<=1048576): ∀(n i:Nat) (v:Int),i<=a.length->a.length - i<n-> ∃c,ui K a n v (i:Int)=some c/\Vs c:=by
 intro n;induction n with
 |zero=>omega
 |succ n ih=>
  intro i v hi hn;rw[ui];have done: ∀v,Vs (Sx.mk a 0 v):=fun v=>⟨hb,ha,by grind,by grind⟩
  rcases Bj i a.length with h|h
  ·rw[P2 h];simp only[cond_true];cases decide ((i:Int)<4000)with
   |false=>grind
   |true=>
    simp only[cond_true];rw[if_pos (by omega),K1 (i:=i) (by omega)];exact ih (i+1) _ h (by omega)
  ·rw[W2 h];grind
theorem Bef{K:Nat}(hK:281474976710656<=K){a:List Int}(hb:ae a)(ha:a.length<=1048576): ∃c,uj K a=some c/\Vs c:=by
 unfold uj;exact Bvs K hb ha K 0 _ (Hc _) (by omega)
theorem A3b (K:Nat){c:Sx}(hc:Vs c): ∃r,ik K c=some r/\(0<=r.1/\r.1<=255)/\Vs r.2:=by
 obtain⟨h1,h2,h3,h4⟩:=hc;unfold ik Ak3;rw[if_pos (by decide),if_pos (by decide)];by_cases h:c.fi<(c.fb.length:Int)
 ·rw[decide_eq_true h];simp only[cond_true];rw[if_pos ⟨h3,h⟩];have e:A4 c.fi 1=c.fi+1:=by grind [A4,Fp,Vr]
  exact⟨_,rfl,Bee _,h1,h2,by grind,by grind⟩
 ·rw[decide_eq_false h];exact⟨_,rfl,Bee _,h1,h2,h3,h4⟩
theorem Xt (K:Nat){c:Sx}(hc:Vs c){n:Int}(hn:0<n): ∃r,Pz K c n=some r/\(0<=r.1/\r.1<n)/\Vs r.2:=by
 unfold Pz;rw[decide_eq_false (show ¬n<=0 by omega)];simp only[cond_false];obtain⟨r1,e1,b1,w1⟩:=A3b K hc;by_cases h:n<=256
 ·rw[decide_eq_true h,e1];simp only[cond_true,Z0];rw[if_pos (by omega)];simp_all[Int.tmod_nonneg,Int.tmod_lt_of_pos]
 ·rw[decide_eq_false h,e1];simp only[cond_false,Z0];obtain⟨r2,e2,b2,w2⟩:=A3b K w1;rw[e2];simp only[Z0];obtain⟨r3,e3,b3,w3⟩:=A3b K w2;rw[e3];simp only[Z0];rw[if_pos (by omega)];refine⟨_,rfl,⟨Int.tmod_nonneg _ ?_,Int.tmod_lt_of_pos _ hn⟩,w3⟩;unfold A4 Fp F2 Ci;rw[Xk (n:=r1.1*65536) (by omega),Xk (n:=r2.1*256) (by omega),Xk (n:=r1.1*65536+r2.1*256) (by omega),Xk (by omega)];omega
theorem lu (K:Nat){c:Sx}(hc:Vs c){n:Int}(hn:0<n): ∃r,bj K c n=some r/\Vs r.2:=by
 obtain⟨r,e,_,w⟩:=Xt K hc hn;simp_all[bj]
theorem lw (K:Nat){c:Sx}(hc:Vs c){l:List Int}(hl:0<l.length): ∃x c',W9 K c l=some (x,c',l)/\x∈l/\Vs c':=by
 obtain⟨r,e,b,w⟩:=Xt K hc (n:=(l.length:Int)) (by omega);unfold W9;rw[e];simp only[Z0];rw[if_pos b];exact⟨_,_,rfl,Wq b.1 b.2,w⟩
theorem Beg (K:Nat){c:Sx}(hc:Vs c)(n:Int): ∃r,Pz K c n=some r/\Vs r.2:=by
 by_cases h:0<n
 ·obtain⟨r,e,_,w⟩:=Xt K hc h
  grind
 ·unfold Pz;simp_all
theorem Bvt (x:Int):0<=IntKind.u8.wrap x/\IntKind.u8.wrap x<=255:=by rw[IntKind.wrap_u8];omega
theorem Beh{K:Nat}(hK:281474976710656<=K){c:Sx}(hc:Vs c){n:Int}(h1:n<=1000): ∃b c',Alc K c n=some (b,c')/\ae b/\b.length<=1000/\Vs c':=by
 have hm:=V2;have key: ∀(f i:Nat) (l:List Int) (c:Sx),Vs c->ae l->l.length=i->(i:Int)<=1000->(1000 - i)<f-> ∃b c',ux K n f l (i:Int) c.fb c.fi c.fh=some (b,c')/\ae b/\b.length<=1000/\Vs c':=by
  intro f;induction f with
  |zero=>omega
  |succ f ih=>
   intro i l c hc hl hi h2 hf;rw[ux];by_cases q:(i:Int)<n
   ·obtain⟨r,e,_,w⟩:=A3b K hc;rw[decide_eq_true q,cond_true,show Sx.mk c.fb c.fi c.fh=c from rfl,e,Z0,if_pos ⟨by grind,by grind⟩,K1 (by omega)];exact ih (i+1) _ r.2 w (Bvr hl fun x hx=>by simp_all[Bvt]) (by simp[hi]) (by omega) (by omega)
   ·rw[decide_eq_false q]
    grind
 exact key K 0 [] c hc (fun x hx=>by cases hx) rfl (by omega) (by omega)
def Vl (o:H5):Prop:=ae o.A/\o.A.length<=1000
theorem Y1 (k:Int)(h:Lz)(r:Pd)(n m:Int):Vl (H5.mk k h r n m []):=⟨(fun x hx=>by cases hx),Hc _⟩
theorem Bvu (K:Nat){c:Sx}(hc:Vs c): ∃h c',Alb K c=some (h,c')/\Vs c':=by
 unfold Alb;obtain⟨r,e,_,w⟩:=Xt K hc (n:=5) (by omega);obtain⟨q,e2,_,w2⟩:=Xt K w (n:=3) (by omega);rw[e,Z0,e2];exact⟨_,_,rfl,w2⟩
theorem A7p{K:Nat}(hK:281474976710656<=K){c:Sx}(hc:Vs c)(k:Int)(b:Bool)(r:Pd)(h:Lz){o:H5}(ho:Vl o)(p:H5): ∃o' c',qh K k b c.fb c.fi c.fh r h o p=some (o',c')/\Vl o'/\Vs c':=by
 unfold qh;have e0:Sx.mk c.fb c.fi c.fh=c:=rfl;rw[e0];cases b with
 |true=>exact⟨_,_,rfl,⟨ho.1,ho.2⟩,hc⟩
 |false=>
  simp only[cond_false];cases k==2 with
  |true=>
   simp only[cond_true];obtain⟨x,c1,e1,_,w1⟩:=lw K hc (l:=[1,2,3,5,8,9,17,20,0,201]) (by simp);obtain⟨y,c2,e2,_,w2⟩:=lw K w1 (l:=[1,1,2,4,3]) (by simp);rw[e1,Z0,if_pos rfl,e2,Z0,if_pos rfl];exact⟨_,_,rfl,⟨ho.1,ho.2⟩,w2⟩
  |false=>
   simp only[cond_false];cases k==3 with
   |true=>
    simp only[cond_true];obtain⟨x,e1,_,w1⟩:=Xt K hc (n:=4) (by omega);obtain⟨y,e2,_,w2⟩:=Xt K w1 (n:=5) (by omega);rw[e1,Z0,e2,Z0];exact⟨_,_,rfl,⟨ho.1,ho.2⟩,w2⟩
   |false=>
    simp only[cond_false];cases k==4 with
    |true=>
     simp only[cond_true];obtain⟨x,e1,_,w1⟩:=Xt K hc (n:=4) (by omega);obtain⟨y,e2,b2,w2⟩:=Xt K w1 (n:=4) (by omega);obtain⟨z,c3,e3,b3,l3,w3⟩:=Beh hK w2 (n:=y.1) (by omega);rw[e1,Z0,e2,Z0,e3,Z0];exact⟨_,_,rfl,⟨b3,l3⟩,w3⟩
    |false=>
     simp only[cond_false];cases k==5 with
     |true=>
      simp only[cond_true];obtain⟨x,c1,e1,_,w1⟩:=lw K hc (l:=[1,7,255,256]) (by simp);rw[e1,Z0,if_pos rfl];exact⟨_,_,rfl,⟨ho.1,ho.2⟩,w1⟩
     |false=>exact⟨_,_,rfl,ho,hc⟩
theorem Bei{K:Nat}(hK:281474976710656<=K){c:Sx}(hc:Vs c): ∃o c',uy K c=some (o,c')/\Vl o/\Vs c':=by
 unfold uy;obtain⟨r1,e1,_,w1⟩:=Xt K hc (n:=9) (by omega);obtain⟨h2,c2,e2,w2⟩:=Bvu K w1;obtain⟨r3,e3,_,w3⟩:=Xt K w2 (n:=2) (by omega);obtain⟨r4,e4,_,w4⟩:=Xt K w3 (n:=3) (by omega);rw[e1,Z0,e2,Z0,e3,Z0,e4,Z0];cases A4 1 r1.1==1 with
 |true=>
  simp only[cond_true];obtain⟨r5,e5,w5⟩:=lu K w4 (n:=2) (by omega);rw[e5,Z0];cases r5.1 with
  |true=>exact⟨_,_,rfl,Y1 _ _ _ _ _,w5⟩
  |false=>exact⟨_,_,rfl,Y1 _ _ _ _ _,w5⟩
 |false=>
  simp only[cond_false];cases A4 1 r1.1==6 with
  |true=>simp_all[A7p,Y1]
  |false=>
   simp only[cond_false];cases A4 1 r1.1==7 with
   |true=>simp_all[A7p,Y1]
   |false=>simp_all[A7p,Y1]
theorem Bej (K:Nat){c:Sx}(hc:Vs c): ∃x c',ul K c=some (x,c')/\Vt x=true/\Vs c':=by
 unfold ul;obtain⟨r1,e1,b1,w1⟩:=Xt K hc (n:=11) (by omega);obtain⟨x2,c2,e2,m2,w2⟩:=lw K w1 (l:=[8,8,9,12,16]) (by simp);obtain⟨r3,e3,b3,w3⟩:=Xt K w2 (n:=7) (by omega);obtain⟨r4,e4,b4,w4⟩:=Xt K w3 (n:=6) (by omega);obtain⟨x5,c5,e5,m5,w5⟩:=lw K w4 (l:=[1,3,4,8,16]) (by simp);obtain⟨r6,e6,b6,w6⟩:=Xt K w5 (n:=4) (by omega);rw[e1,Z0,e2,Z0,if_pos rfl,e3,Z0,e4,Z0,e5,Z0,if_pos rfl,e6];refine⟨_,_,rfl,?_,w6⟩;have a1:A4 2 r1.1=2+r1.1:=by grind [A4,Fp,Vr]
 have a3:A4 2 r3.1=2+r3.1:=by grind [A4,Fp,Vr]
 have a4:A4 1 r4.1=1+r4.1:=by grind [A4,Fp,Vr]
 have a6:A4 1 r6.1=1+r6.1:=by grind [A4,Fp,Vr]
 rw[a1,a3,a4,a6];have m2:x2=8\/x2=8\/x2=9\/x2=12\/x2=16:=by grind
 have m5:x5=1\/x5=3\/x5=4\/x5=8\/x5=16:=by grind
 unfold Vt;simp only[Z4,Vz];omega
theorem Bvv{w:H4}{E:Int}{n:Nat}(G:Ch w E n)(hE:0<=E){k:Int}(hk:X7 w.o k):Ch (Zp w k) E n:=by
 obtain⟨t,A,F⟩:=G.inv.forest;have al:=hk.al A;have I':=Bt6 G.inv A F al;obtain⟨hki,L,T,e⟩:=G.live hk;have R:=G.inv.rg;have hN:(Zp w k).o.length=w.o.length:=by grind [Zp,gz]
 have hg: ∀x,0<=x/\x<(w.o.length:Int)->gt (Zp w k).o x=if x=k then We 2 (gt (X9 w.o k) k).a else gt (X9 w.o k) x:=fun x hx=>by
  unfold Zp;simp only;rw[Yz (by grind [gz]) (by grind [gz])];rfl
 refine⟨I',?_,fun x hx=> ?_,?_,?_⟩
 ·show ∀x∈(V8 w.Q _).g,_;rw[(ld G.inv hki).2.1];exact G.mem
 ·rw[hN]at hx;rw[hg x hx];by_cases q:x=k
  ·rw[if_pos q];exact⟨hE,hE,⟨Int.le_refl 0,by show(0:Int)<=1000;omega⟩⟩
  ·rw[if_neg q,gy R hki hx q];have:=G.ep x hx;exact⟨this.ep,this.ue,this.cur⟩
 ·have hs:=dv (f:=Wj w.C) hN hki fun x hx hne=>by rw[hg x hx,if_neg hne,gy R hki hx hne];rfl
  rw[hg k hki,if_pos rfl,Ae5 _ (by decide)]at hs;have e1:Wj w.C (gt w.o k)=2+(gt w.o k).j.length+w.C.k.toNat*(gt w.o k).L.length:=by unfold Wj;rw[if_pos L.st]
  have h3:=G.wt;unfold wt pot at h3 ⊢;show((Zp w k).o.map (Wj w.C)).sum+((w.p++[Wn (gt w.o k) (A4 k 1)]).map (Xm w.C)).sum+w.q.length<=_;have e2:Xm w.C (Wn (gt w.o k) (A4 k 1))=1+(gt w.o k).j.length+w.C.k.toNat*(gt w.o k).L.length:=rfl
  grind
 ·have hs:=dv (f:=Wv) hN hki fun x hx hne=>by rw[hg x hx,if_neg hne,gy R hki hx hne];rfl
  rw[hg k hki,if_pos rfl,show Wv (We 2 (gt (X9 w.o k) k).a)=0 from rfl,show Wv (gt w.o k)=1 by unfold Wv;rw[if_pos L.st]]at hs;have h3:=G.cn;unfold cnt at h3 ⊢;rw[show(Zp w k).p.length=w.p.length+1 from Jd];omega
theorem Bvw{w:H4}{E:Int}{n:Nat}(G:Ch w E n)(hE:0<=E/\E<=900000000){k:Int}(hk:X7 w.o k):Ch (ax w k) (E+1) (n+1):=by
 obtain⟨t,A,F⟩:=G.inv.forest;have al:=hk.al A;obtain⟨hki,L,T,e⟩:=G.live hk;have h0:=L.ep;have h1:=e.ep;have I':=Bt8 G.inv A F al (by omega);have hN:(ax w k).o.length=w.o.length:=by grind [ax]
 have hg: ∀x,0<=x/\x<(w.o.length:Int)->gt (ax w k).o x=if x=k then ci (gt w.o k)else gt w.o x:=fun x hx=>Yz hki hx _
 refine⟨I',?_,fun x hx=> ?_,?_,?_⟩
 ·show ∀x∈(V8 w.Q _).g,_;rw[(ld G.inv hki).2.1];exact G.mem
 ·rw[hN]at hx;rw[hg x hx];have hx':=G.ep x hx;by_cases q:x=k
  ·rw[if_pos q];refine⟨?_,?_,⟨Int.le_refl 0,by show(0:Int)<=1000;omega⟩⟩
   ·show A4 (gt w.o k).f 1<=_
    grind [Ye]
   ·have:=e.ue;show(gt w.o k).t<=_;omega
  ·rw[if_neg q];have h2:=hx'.ep;have h3:=hx'.ue;exact⟨by omega,by omega,hx'.cur⟩
 ·have hs:=dv (f:=Wj w.C) hN hki fun x hx hne=>by grind
  rw[hg k hki,if_pos rfl]at hs;have e1:Wj w.C (gt w.o k)=2+(gt w.o k).j.length+w.C.k.toNat*(gt w.o k).L.length:=by unfold Wj;rw[if_pos L.st]
  have e0:Wj w.C (ci (gt w.o k))=2:=by
   have hst1:(ci (gt w.o k)).c=1:=L.st;unfold Wj;rw[if_pos hst1];rfl
  have h3:=G.wt;unfold wt pot at h3 ⊢;show((ax w k).o.map (Wj w.C)).sum+((w.p++[Wn (gt w.o k) 0]).map (Xm w.C)).sum+w.q.length<=_;have e2:Xm w.C (Wn (gt w.o k) 0)=1+(gt w.o k).j.length+w.C.k.toNat*(gt w.o k).L.length:=rfl
  grind
 ·have hs:=dv (f:=Wv) hN hki fun x hx hne=>by rw[hg x hx,if_neg hne]
  have hst1:(ci (gt w.o k)).c=1:=L.st;rw[hg k hki,if_pos rfl,show Wv (ci (gt w.o k))=1 by unfold Wv;rw[if_pos hst1],show Wv (gt w.o k)=1 by unfold Wv;rw[if_pos L.st]]at hs;have h3:=G.cn;unfold cnt at h3 ⊢;rw[show(ax w k).p.length=w.p.length+1 from Jd];omega
section
variable {K:Nat} (hK:281474976710656<=K)
include hK
theorem Bvx{E:Int}{n:Nat}(hE:0<=E/\E<=900000000)(hn:n<=800000000){w:H4}(G:Ch w E n){o:H5}(ho:Vl o): ∃w' a,Az8 K w o=some (w',a)/\Ch w' E (n+1)/\w'.C=w.C:=by
 have W:=G.ww (by omega) (by omega);have G0:=Ch.le G (Int.le_refl E) (by omega:n<=n+1);unfold Az8;cases o.I==3 with
 |true=>
  simp only[cond_true];obtain⟨a,e⟩:=Bvn hK hE hn G o.b o.J o.K
  grind
 |false=>
  simp only[cond_false];cases o.I==4 with
  |true=>
   simp only[cond_true];obtain⟨a,w',e,g,c⟩:=Bvo hK hE hn G o.b o.J (s:=o.A) ho.1 (by have:=ho.2;omega);rw[e];exact⟨_,_,rfl,Ch.le g (Int.le_refl E) (by omega),c⟩
  |false=>
   simp only[cond_false];cases o.I==5 with
   |true=>
    simp only[cond_true];obtain⟨a,w',e,g,c⟩:=Bvp hK hE hn G o.P o.J
    grind
   |false=>
    simp only[cond_false];cases o.I==8 with
    |true=>
     simp only[cond_true];obtain⟨a,e⟩:=Bvq hK hE hn G o.P
     grind
    |false=>
     simp_all[zr]
theorem Bek{E:Int}{n:Nat}(hE:0<=E/\E<=800000000)(hn:n<=700000000){w:H4}(G:Ch w E n)(b:Bool){o:H5}(ho:Vl o)(z:Sw):
  ∃a w',xm K b w.C.L w.C.k w.C.l w.C.e w.C.m w.C.n w.Q.g w.Q.c w.Q.h w.o w.p w.q z o.I o.P.d o.P.a o.b.P.d o.b.P.a o.b.f o.b.r o.J o.K o.A=some (a,w')/\Ch w' (E+1) (n+1)/\w'.C=w.C:=by
 have W:=G.ww (by omega) (by omega);have hq:=lf w;have hwt:=G.wt;have G0:=Ch.le G (by omega:E<=E+1) (by omega:n<=n+1);unfold xm;rw[show H4.mk (Sv.mk w.C.L w.C.k w.C.l w.C.e w.C.m w.C.n) (Pc.mk w.Q.g w.Q.c w.Q.h) w.o w.p w.q=w from rfl];cases b with
 |true=>
  simp only[cond_true];rw[su hK W.l,Z0,pg hK w W.l,Z0];by_cases h0:(Xp w.o (Lz.mk o.P.d o.P.a)).2=0
  ·have hal:=tv G.inv h0;have hki:=(G.live hal).1;rw[h0];simp only[bne_self_eq_false,cond_false];cases o.I==6 with
   |true=>
    simp only[cond_true];rw[Bs2 hK w W (by omega) hki,Z0];exact⟨_,_,rfl,Bvw G (by omega) hal,rfl⟩
   |false=>
    simp only[cond_false];rw[Btc hK w W (by omega) hki,Z0];exact⟨_,_,rfl,Ch.le (Bvv G hE.1 hal) (by omega) (by omega),rfl⟩
  ·rw[Yg h0]
   grind
 |false=>
  simp only[cond_false];rw[show H5.mk o.I (Lz.mk o.P.d o.P.a) (Pd.mk (Lz.mk o.b.P.d o.b.P.a) o.b.f o.b.r) o.J o.K o.A=o from rfl];obtain⟨w',a,e,g,c⟩:=Bvx hK (by omega) (by omega) G ho;rw[e];exact⟨_,_,rfl,Ch.le g (by omega) (Z9 _),c⟩
theorem Bvy{E:Int}{n:Nat}(hE:0<=E/\E<=800000000)(hn:n<=700000000){w:H4}(G:Ch w E n){o:H5}(ho:Vl o): ∃a w',Az9 K w o=some (a,w')/\Ch w' (E+1) (n+192)/\w'.C=w.C:=by
 unfold Az9;cases o.I==1 with
 |true=>
  simp only[cond_true];obtain⟨r,w',e,g,c⟩:=Bu6 hK (by omega) (by omega) G o.P;rw[e];exact⟨_,_,rfl,Ch.le g (by omega) (by omega),c⟩
 |false=>
  simp only[cond_false];cases o.I==2 with
  |true=>
   simp only[cond_true];obtain⟨r,w',e,g,c⟩:=Bve hK (by omega) (by omega) G o.P o.J o.K;rw[e];exact⟨_,_,rfl,Ch.le g (by omega) (by omega),c⟩
  |false=>
   simp only[cond_false];cases o.I==9 with
   |true=>
    simp only[cond_true];obtain⟨r,w',e,S⟩:=A27 hK (E:=E) (n:=n) (by omega) (by omega) 4000 G;rw[e];exact⟨_,_,rfl,Ch.le S.good (by omega) (by omega),S.stay.conf⟩
   |false=>
    simp only[cond_false];cases o.I==6 with
    |true=>
     simp only[cond_true];obtain⟨r,w',e,g,c⟩:=Bek hK hE hn G true ho (Sw.mk 0 (Lz.mk 0 0) (Pd.mk (Lz.mk 0 0) 0 0) [] 0 0 0);exact⟨_,_,e,Ch.le g (Int.le_refl _) (by omega),c⟩
    |false=>
     simp only[cond_false];obtain⟨r,w',e,g,c⟩:=Bek hK hE hn G (o.I==7) ho (Sw.mk 0 (Lz.mk 0 0) (Pd.mk (Lz.mk 0 0) 0 0) [] 0 0 0);exact⟨_,_,e,Ch.le g (Int.le_refl _) (by omega),c⟩
end
theorem A3c{α:Type}[Inhabited α]{n:Nat}(x:α){k:Int}(hk:0<=k/\k<(n:Int)):gt (List.replicate n x) k=x:=by
 obtain⟨j,rfl⟩: ∃j:Nat,k=j:=⟨k.toNat,by omega⟩
 grind [Gz]
theorem A7q{α:Type}(i:Nat)(x:α):List.replicate i x++[x]=List.replicate (i+1) x:=by rw[List.replicate_succ']
section
variable {K:Nat} (hK:281474976710656<=K)
include hK
def A3d (c:Sv):Pc:=Pc.mk (List.replicate (c.L*c.k).toNat 0) (List.replicate c.L.toNat 0) (List.replicate c.L.toNat (-1))
theorem Bvz{c:Sv}(hc:Vt c=true):Ak5 K c=some (A3d c):=by
 have hm:=V2;obtain⟨b1,b2,b3,b4,b5,b6⟩:=Gy hc;have hb:=Zj (a:=c.L) (b:=c.k) (m:=12) (n:=16) (by omega) b1.2 (by omega) b2.2;have hby:Wl c=c.L*c.k:=by grind [Wl]
 unfold Ak5 A3q;rw[dj,hc,Z0,Bool.not_true,cond_false,ou,Z0,hby,Xh,Vz.2 ⟨by omega,by omega⟩];simp only[Z0,Bool.not_true,cond_false];rw[if_pos (by omega),Z0];have key: ∀(f i:Nat),(i:Int)<=c.L->c.L.toNat - i<f->um K c f (i:Int) (Pc.mk (List.replicate (c.L*c.k).toNat 0) (List.replicate i 0) (List.replicate i (-1))) (Pc.mk [] [] [])=some (A3d c):=by
  intro f;induction f with
  |zero=>omega
  |succ f ih=>
   intro i hi hf;rw[um];by_cases q:(i:Int)=c.L
   ·rw[decide_eq_false (by omega)];unfold A3d;rw[<-q];rfl
   ·rw[decide_eq_true (by omega),cond_true,if_pos ⟨by grind,by grind⟩,if_pos ⟨by grind,by grind⟩,K1 (by omega)];simp only;rw[A7q,A7q];exact ih (i+1) (by omega) (by omega)
 exact key K 0 (by omega) (by omega)
theorem Bv0{c:Sv}(hc:Vt c=true):A3r K c=some (List.replicate c.l.toNat (We 0 1)):=by
 have hm:=V2;have b0:=Gy hc;have key: ∀(f i:Nat),(i:Int)<=c.l->c.l.toNat - i<f->uq K c f (List.replicate i (We 0 1)) (i:Int)=some (List.replicate c.l.toNat (We 0 1)):=by
  intro f;induction f with
  |zero=>omega
  |succ f ih=>
   intro i hi hf;rw[uq];by_cases q:(i:Int)=c.l
   ·grind
   ·unfold bi;rw[decide_eq_true (by omega),cond_true,dj,hc];simp only[Z0,cond_true];rw[show Fy.mk 0 1 0 0 0 0 0 0 [] 0 0 [] []=We 0 1 from rfl,if_pos ⟨by grind,by grind⟩,K1 (by omega),A7q];exact ih (i+1) (by omega) (by omega)
 exact key K 0 (by omega) (by omega)
def cr (c:Sv):H4:=H4.mk c (A3d c) (List.replicate c.l.toNat (We 0 1)) [] []
theorem Bv1{c:Sv}(hc:Vt c=true):Ak6 K c=some (cr c):=by
 unfold Ak6;rw[dj,hc,Z0,Bool.not_true,cond_false,Bvz hK hc,Z0,Bv0 hK hc];rfl
end
def A7r (_:Int):Lk:=⟨false,false,0,0,0,0,0,0⟩
theorem py{N x:Int}: ¬Lv N A7r x:=fun h=>by have:=h.2;cases this
theorem Bv2 (N:Int):V4 N A7r []:=by
 refine⟨⟨fun k h=>absurd h py,fun k h=>absurd h py,fun _ _ _ _=>⟨rfl,rfl,rfl,rfl⟩⟩,⟨fun _=>0,fun x h=>absurd h py⟩,⟨fun _=>0,fun x h=>absurd h py⟩,⟨List.nodup_nil,fun x=>⟨(fun h=>by cases h),fun h=>absurd h.1 py⟩,(fun f h=>by cases h)⟩,trivial,fun x h=>absurd h py,fun x h=>absurd h py,(fun e h=>by cases h)⟩
theorem Bv3{c:Sv}(hc:Vt c=true):Ch (cr c) 0 0:=by
 obtain⟨b1,b2,b3,b4,b5,b6⟩:=Gy hc;have hb:=Zj (a:=c.L) (b:=c.k) (m:=12) (n:=16) (by omega) b1.2 (by omega) b2.2;have hN:((cr c).o.length:Int)=c.l:=by show((List.replicate _ _).length:Int)=_;grind
 have hg: ∀k,0<=k/\k<((cr c).o.length:Int)->gt (cr c).o k=We 0 1:=fun k hk=>A3c _ (by omega)
 have hs: ∀k,0<=k/\k<c.L->gt (cr c).Q.c k=0:=fun k hk=>A3c _ (by omega)
 have ho: ∀k,0<=k/\k<c.L->gt (cr c).Q.h k= -1:=fun k hk=>A3c _ (by omega)
 have hz: ∀a m:Nat,Wa (((cr c).Q.g.drop a).take m)=true:=fun a m=>by
  rw[pq];intro j _ _ h;have h:j<(List.replicate (c.L*c.k).toNat (0:Int)).length:=h;rw[List.length_replicate]at h;exact A3c _ ⟨by omega,by omega⟩
 refine⟨⟨W4.2 ⟨hc,?_,?_,?_,fun k hk=> ?_⟩,hN,fun k hk=> ?_,fun k hk x=> ?_,fun k hk=> ?_,⟨A7r,(fun k hk=>by rw[hg k hk];rfl),Bv2 _⟩,(fun x h=>by cases h),List.nodup_nil,fun x=> ?_,List.nodup_nil,fun s=> ?_,rfl⟩,fun x hx=> ?_,fun k hk=> ?_,?_,?_⟩
 ·show((List.replicate _ _).length:Int)=c.L*c.k;grind
 ·show((List.replicate _ _).length:Int)=c.L;grind
 ·show((List.replicate _ _).length:Int)=c.L;grind
 ·rw[hs k hk,ho k hk];exact⟨by omega,fun h=>by omega,fun _=>rfl,fun _=>hz _ _⟩
 ·rw[hg k hk];exact A2z hc (by omega) (by omega) (by omega)
 ·rw[hg k hk];constructor
  ·intro h;cases h
  ·rintro⟨a,b,_⟩;rw[hs x a]at b;cases b
 ·rw[hg k hk];exact⟨rfl,rfl,rfl⟩
 ·constructor
  ·intro h;cases h
  ·rintro⟨a,b⟩;rw[hs x a]at b;cases b
 ·constructor
  ·intro h;cases h
  ·rintro⟨a,b⟩;rw[hg s a]at b;cases b
 ·have hx:x∈List.replicate (c.L*c.k).toNat (0:Int):=hx
  grind
 ·rw[hg k hk];exact⟨Int.le_refl 0,Int.le_refl 0,Int.le_refl 0,by show(0:Int)<=1000;omega⟩
 ·have e:Wj c (We 0 1)=0:=Ae5 _ (by decide) _;simp_all[wt,pot,cr]
 ·have e:Wv (We 0 1)=0:=rfl;simp_all[cnt,cr]
section
variable {K:Nat} (hK:281474976710656<=K)
include hK
def lz (w:H4)(o:H5)(c:Sx):H5×Sx×(List Int)×(List Int)×(List Int)×(List Fy)×(List G9)×(List Int):=(o,c,w.Q.g,w.Q.c,w.Q.h,w.o,w.p,w.q)
omit hK in
theorem Bel (w:H4)(h:Lz)(d:Int){c:Sx}(hc:Vs c)(b:Bool): ∃o c',vd K h w.Q.g w.Q.c w.Q.h w.o w.p w.q d c.fb c.fi c.fh b=some (lz w o c')/\Vl o/\Vs c':=by
 unfold vd;rw[show Sx.mk c.fb c.fi c.fh=c from rfl];cases b with
 |true=>
  simp only[cond_true];obtain⟨r,e,_,w1⟩:=Xt K hc (n:=256) (by omega);rw[e];exact⟨_,_,rfl,Y1 _ _ _ _ _,w1⟩
 |false=>
  simp only[cond_false];cases d==13 with
  |true=>exact⟨_,_,rfl,Y1 _ _ _ _ _,hc⟩
  |false=>
   simp only[cond_false];cases d==14 with
   |true=>exact⟨_,_,rfl,Y1 _ _ _ _ _,hc⟩
   |false=>
    simp only[cond_false];obtain⟨r,e,w1⟩:=lu K hc (n:=6) (by omega);rw[e,Z0];cases r.1 with
    |true=>exact⟨_,_,rfl,Y1 _ _ _ _ _,w1⟩
    |false=>exact⟨_,_,rfl,Y1 _ _ _ _ _,w1⟩
theorem Bem (w:H4)(h:Lz)(r:Pd)(d:Int){c:Sx}(hc:Vs c)(b:Bool): ∃o c',vf K h r w.Q.g w.Q.c w.Q.h w.o w.p w.q d c.fb c.fi c.fh b=some (lz w o c')/\Vl o/\Vs c':=by
 unfold vf;rw[show Sx.mk c.fb c.fi c.fh=c from rfl];cases b with
 |true=>
  simp only[cond_true];obtain⟨x,e,b1,w1⟩:=Xt K hc (n:=2) (by omega);have e1:A4 1 x.1=1+x.1:=by grind [A4,Fp,Vr]
  obtain⟨y,c2,e2,b2,l2,w2⟩:=Beh hK w1 (n:=1+x.1) (by omega);rw[e,Z0,e1,e2];exact⟨_,_,rfl,⟨b2,l2⟩,w2⟩
 |false=>
  simp only[cond_false];cases d==10 with
  |true=>
   simp only[cond_true];obtain⟨x,e,_,w1⟩:=Xt K hc (n:=3) (by omega);rw[e];exact⟨_,_,rfl,Y1 _ _ _ _ _,w1⟩
  |false=>
   simp only[cond_false];cases d==11 with
   |true=>simp_all[Bel]
   |false=>simp_all[Bel]
theorem A7s (w:H4)(h:Lz)(r:Pd)(z d:Int){c:Sx}(hc:Vs c)(b:Bool): ∃o c',qi K h r z w.Q.g w.Q.c w.Q.h w.o w.p w.q d c.fb c.fi c.fh b=some (lz w o c')/\Vl o/\Vs c':=by
 unfold qi;rw[show Sx.mk c.fb c.fi c.fh=c from rfl];cases b with
 |true=>
  simp only[cond_true];obtain⟨x,c1,e1,_,w1⟩:=lw K hc (l:=[1,2,3,4,5,8]) (by simp);obtain⟨y,c2,e2,_,w2⟩:=lw K w1 (l:=[1,1,2,4]) (by simp);rw[e1,Z0,if_pos rfl,e2,Z0,if_pos rfl];exact⟨_,_,rfl,Y1 _ _ _ _ _,w2⟩
 |false=>
  simp only[cond_false];cases d==7 with
  |true=>
   simp only[cond_true];obtain⟨x,e,w1⟩:=Beg K hc z;rw[e];exact⟨_,_,rfl,Y1 _ _ _ _ _,w1⟩
  |false=>
   simp only[cond_false];cases d==8 with
   |true=>simp_all[Bem]
   |false=>simp_all[Bem]
theorem A7t (w:H4)(h:Lz)(r:Pd)(z d:Int){c:Sx}(hc:Vs c)(b:Bool): ∃o c',qj K h r z w.Q.g w.Q.c w.Q.h w.o w.p w.q d b c.fb c.fi c.fh=some (lz w o c')/\Vl o/\Vs c':=by
 unfold qj;rw[show Sx.mk c.fb c.fi c.fh=c from rfl];cases b with
 |true=>exact⟨_,_,rfl,Y1 _ _ _ _ _,hc⟩
 |false=>
  simp only[cond_false];cases d==3 with
  |true=>exact⟨_,_,rfl,Y1 _ _ _ _ _,hc⟩
  |false=>
   simp only[cond_false];cases d==4 with
   |true=>simp_all[A7s]
   |false=>
    simp only[cond_false];cases d==5 with
    |true=>simp_all[A7s]
    |false=>simp_all[A7s]
theorem Ben (w:H4)(h:Lz)(r:Pd)(q:H5){c:Sx}(hc:Vs c): ∃o c',vg K h c.fb c.fi c.fh r q w.C.L w.C.k w.C.l w.C.e w.C.m w.C.n w.Q.g.length w.Q.c.length w.Q.h.length w.o.length w.p.length w.q.length w.Q.g w.Q.c w.Q.h w.o w.p w.q=some (lz w o c')/\Vl o/\Vs c':=by
 unfold vg;rw[show Sx.mk c.fb c.fi c.fh=c from rfl];obtain⟨x,e,_,w1⟩:=Xt K hc (n:=16) (by omega);rw[e,Z0];cases x.1==0 with
 |true=>simp_all[A7t]
 |false=>
  simp only[cond_false];cases x.1==1 with
  |true=>simp_all[A7t]
  |false=>simp_all[A7t]
theorem Beo{w:H4}(W:Wp w)(h8:w.o.length<=1000){c:Sx}(hc:Vs c): ∃o c',vh K c w=some (lz w o c')/\Vl o/\Vs c':=by
 unfold vh;obtain⟨r1,e1,hl,hr⟩:=Bdy hK W h8;rw[e1,Z0];cases hz:(r1.length:Int)==0 with
 |true=>
  simp only[cond_true];obtain⟨x,e,w1⟩:=lu K hc (n:=2) (by omega);rw[e,Z0];cases x.1 with
  |true=>exact⟨_,_,rfl,Y1 _ _ _ _ _,w1⟩
  |false=>
   simp only[cond_false];obtain⟨o,c2,e2,ho,w2⟩:=Bei hK w1;rw[e2];exact⟨_,_,rfl,ho,w2⟩
 |false=>
  have hz: ¬(r1.length:Int)=0:=by grind
  simp only[cond_false];obtain⟨x,e,w1⟩:=lu K hc (n:=10) (by omega);rw[e,Z0];cases x.1 with
  |true=>
   simp only[cond_true];obtain⟨y,e2,w2⟩:=lu K w1 (n:=2) (by omega);rw[e2,Z0];cases y.1 with
   |true=>exact⟨_,_,rfl,Y1 _ _ _ _ _,w2⟩
   |false=>
    simp only[cond_false];obtain⟨o,c2,e3,ho,w3⟩:=Bei hK w2;rw[e3];exact⟨_,_,rfl,ho,w3⟩
  |false=>
   simp only[cond_false];obtain⟨y,e2,b2,w2⟩:=Xt K w1 (n:=(r1.length:Int)) (by omega);rw[e2,Z0,if_pos b2];have hk:=(hr _ (Wq b2.1 b2.2)).1;obtain⟨h,eh⟩:=A7h (K:=K) (l:=w.o) (by omega) (gt r1 y.1);simp only[eh,Z0,if_pos hk];cases decide (((gt w.o (gt r1 y.1)).y.length:Int)>0)with
   |true=>
    simp only[cond_true];obtain⟨z,e3,w3⟩:=Beg K w2 ((gt w.o (gt r1 y.1)).y.length:Int);simp_all[Ben]
   |false=>
    simp_all[Ben]
theorem run_ok{c:Sx}(hc:Vs c){most:Int}(hm:0<most/\most<=1000): ∃x l w c' E n,A0a K c most=some (x,l,w,c')/\Ch w E n/\(0<=E/\E<=200)/\n<=38400/\w.C=x/\Vt x=true/\l.length<=200/\(∀o∈l,Vl o)/\Vs c':=by
 have hx:=V2;unfold A0a;obtain⟨x,c1,e1,hx1,w1⟩:=Bej K hc;obtain⟨y,e2,b2,w2⟩:=Xt K w1 (n:=most) (by omega);rw[e1,Z0,Bv1 hK hx1,Z0,e2,Z0];have ea:A4 4 y.1=4+y.1:=by grind [A4,Fp,Vr]
 rw[ea];have key: ∀(f i:Nat) (l:List H5) (w:H4) (c:Sx),(i:Int)<=4+y.1->i<f->Ch w (l.length:Int) (192*l.length)->w.C=x->l.length<=200->(∀o∈l,Vl o)->Vs c-> ∃x' l' w' c' E n,xn K f l (i:Int) c.fb c.fi c.fh w x (H4.mk (Sv.mk 0 0 0 0 0 0) (Pc.mk [] [] []) [] [] []) (Sv.mk 0 0 0 0 0 0)=some (x',l',w',c')/\Ch w' E n/\(0<=E/\E<=200)/\n<=38400/\w'.C=x'/\Vt x'=true/\l'.length<=200/\(∀o∈l',Vl o)/\Vs c':=by
  intro f;induction f with
  |zero=>omega
  |succ f ih=>
   intro i l w c hi hf G hwc hl ho hcc;have done: ∃x' l' w' c' E n,some (x,l,w,Sx.mk c.fb c.fi c.fh)=some (x',l',w',c')/\Ch w' E n/\(0<=E/\E<=200)/\n<=38400/\w'.C=x'/\Vt x'=true/\l'.length<=200/\(∀o∈l',Vl o)/\Vs c':=⟨_,_,_,_,_,_,rfl,G,by omega,by omega,hwc,hx1,hl,ho,hcc⟩;rw[xn];by_cases q:0<i
   ·rw[decide_eq_true (show(i:Int)>0 by omega),cond_true];by_cases q2:l.length<200
    ·rw[decide_eq_true (show(l.length:Int)<200 by omega),cond_true];have W:=G.ww (by omega) (by omega);have b0:=Gy G.inv.conf;have hlen:=G.inv.len;obtain⟨o,c2,e3,hop,w3⟩:=Beo hK W (by omega) hcc;obtain⟨a,w',e4,G',hc'⟩:=Bvy hK (E:=(l.length:Int)) (n:=192*l.length) (by omega) (by omega) G hop;rw[show Sx.mk c.fb c.fi c.fh=c from rfl,e3,Z0];unfold lz;simp only;rw[if_pos ⟨trivial,trivial,trivial,trivial,trivial,trivial⟩,if_pos ⟨by grind,by grind⟩];rw[show H4.mk w.C (Pc.mk w.Q.g w.Q.c w.Q.h) w.o w.p w.q=w from rfl,e4,Z0];have es:Ap (i:Int) 1=((i - 1:Nat):Int):=by grind [tn]
     rw[es];refine ih (i - 1) (l++[o]) w' c2 (by omega) (by omega) ?_ (hc'.trans hwc) (by grind) ?_ w3
     ·rw[Jd,List.length_singleton]
      grind
     grind
    grind
   simp_all
 have:=key K (4+y.1).toNat [] (cr x) y.2 (by omega) (by omega) (Bv3 hx1) rfl (by simp) (fun o h=>by cases h) w2
 grind
omit hK in
theorem Bv4 (a:List Int){m:Int}(hm:0<=m/\m<=1000)(ha:a.length<=1048576): ∃r,uk K a m=some r/\0<=r/\r<=1000:=by
 unfold uk;have h3:(a.length:Int) / 12<=(a.length:Int):=Int.ediv_le_self _ (by omega);have h4:0<=(a.length:Int) / 12:=Int.ediv_nonneg (by omega) (by omega);have e1:Afg .i64 (a.length:Int) 12=(a.length:Int) / 12:=by
  grind [Afg,Vr]
 have e2:A4 3 ((a.length:Int) / 12)=3+(a.length:Int) / 12:=by grind [A4,Fp,Vr]
 rw[if_pos (by decide),e1,e2];by_cases q:3+(a.length:Int) / 12>m
 ·simp_all
 ·rw[decide_eq_false q];grind
theorem Bv5{a:List Int}(hb:ae a)(ha:a.length<=1048576): ∃w o E n,A0b K a=some (w,o)/\Ch w E n/\(0<=E/\E<=200)/\n<=38400/\Vl o:=by
 unfold A0b;obtain⟨c,e1,w1⟩:=Bef hK hb ha;obtain⟨m,e2,hm⟩:=Bv4 (K:=K) a (m:=50) (by omega) ha;have ea:A4 20 m=20+m:=by grind [A4,Fp,Vr]
 have h50:m<=900\/900<m:=by omega
 rw[e1,Z0,e2,Z0,ea];unfold xp;have hm2:m<=50:=by
  unfold uk at e2
  grind
 obtain⟨x,l,w,c2,E,n,e3,G,hE,hn,_,_,_,_,w3⟩:=run_ok hK w1 (most:=20+m) (by omega);have W:=G.ww (by omega) (by omega);have b0:=Gy G.inv.conf;have hlen:=G.inv.len;obtain⟨o,c4,e4,ho,_⟩:=Beo hK W (by omega) w3;rw[e3];simp only[Z0];rw[e4,Z0];unfold lz
 grind
end
section
variable (N:Int) (t:Int->Lk)
def kd (k:Int):List Int:=kf N t (t k).fi
def sub:Nat->Int->List Int
 |0,_=>[]
 |n+1,k=>k::(kd N t k).flatMap (sub n)
inductive Up (a:Int):Int->Prop
 |refl:Lv N t a->Up a a
 |step {b:Int}:Lv N t b->Cu N t b->Up a ((t b).up - 1)->Up a b
def Ht:Nat->Int->Prop
 |0,_=>False
 |n+1,k=> ∀c∈kd N t k,Ht n c
end
section
variable {N:Int} {t:Int->Lk}
theorem A3e (n:Nat)(k:Int):sub N t (n+1) k=k::(kd N t k).flatMap (sub N t n):=rfl
theorem Up.lv{a b:Int}(h:Up N t a b):Lv N t a/\Lv N t b:=by
 induction h with
 |refl h=>grind
 |step h _ _ ih=>grind
theorem Up.trans{a b c:Int}(h:Up N t a b)(g:Up N t b c):Up N t a c:=by
 induction g with
 |refl _=>exact h
 |step h1 h2 _ ih=>exact .step h1 h2 ih
theorem Up.comp{a b x:Int}(h:Up N t a x)(g:Up N t b x):Up N t a b\/Up N t b a:=by
 induction h with
 |refl _=>exact .inr g
 |step h1 h2 h3 ih=>
  cases g with
  |refl h4=>exact .inl (.step h1 h2 h3)
  |step _ _ g3=>exact ih g3
theorem Up.le{d:Int->Nat}(U: ∀x,Lv N t x->Cu N t x->d ((t x).up - 1)<d x){a b:Int}(h:Up N t a b):d a<=d b:=by
 induction h with
 |refl _=>omega
 |step h1 h2 _ ih=>grind
theorem Up.al{a b:Int}(h:Up N t a b)(g:Al N t a):Al N t b:=by
 induction h with
 |refl _=>exact g
 |step h1 h2 _ ih=>exact .step h1 h2 ih
variable {r:Int->Nat} {d:Int->Nat}
theorem A7u (T:Wu N t)(W:Wf N t r){k:Int}(hk:Lv N t k)(x:Int):x∈kd N t k ↔ Lv N t x/\(t x).up=k+1/\Cu N t x:=Y6 T W hk x
theorem ub (T:Wu N t)(W:Wf N t r){k x:Int}(hk:Lv N t k)(h:x∈kd N t k):Up N t k x:=by
 obtain⟨h1,h2,h3⟩:=(A7u T W hk x).1 h;exact .step h1 h3 (by rw[h2,Int.add_sub_cancel];exact .refl hk)
theorem A7v (T:Wu N t)(W:Wf N t r)(U: ∀x,Lv N t x->Cu N t x->d ((t x).up - 1)<d x){k x:Int}(hk:Lv N t k)(h:x∈kd N t k):d k<d x:=by
 obtain⟨h1,h2,h3⟩:=(A7u T W hk x).1 h;have:=U x h1 h3;rwa[h2,Int.add_sub_cancel]at this
theorem A7w (T:Wu N t)(W:Wf N t r): ∀(n:Nat) (k x:Int),Lv N t k->x∈sub N t n k->Up N t k x:=by
 intro n;induction n with
 |zero=>intro k x _ h;cases h
 |succ n ih=>
  intro k x hk h;rw[A3e,Ax]at h;rcases h with h|h
  ·rw[h];exact .refl hk
  ·obtain⟨c,hc,hx⟩:=List.mem_flatMap.1 h;have hu:=ub T W hk hc;exact hu.trans (ih c x hu.lv.2 hx)
theorem Bv6: ∀(n:Nat) (k:Int),Ht N t n k-> ∀m,n<=m->sub N t m k=sub N t n k:=by
 intro n;induction n with
 |zero=>intro k h;cases h
 |succ n ih=>
  intro k h m hm;obtain⟨m,rfl⟩: ∃j,m=j+1:=⟨m - 1,by omega⟩;rw[A3e,A3e];congr 1;exact Yx fun c hc=>ih c (h c hc) m (by omega)
theorem Bv7 (T:Wu N t)(W:Wf N t r)(U: ∀x,Lv N t x->Cu N t x->d ((t x).up - 1)<d x): ∀(n:Nat) (k:Int) (L:List Int),Lv N t k->L.Nodup->(∀x∈L,(0<=x/\x<N)/\d x<=d k)->N.toNat<L.length+n->Ht N t n k:=by
 intro n;induction n with
 |zero=>
  intro k L _ hn hi hl;have:=A2s hn (fun x hx=>(hi x hx).1);omega
 |succ n ih=>
  intro k L hk hn hi hl c hc;have hu:=ub T W hk hc;have hlt:=A7v T W U hk hc;refine ih c (L++[c]) hu.lv.2 (ck.2 ⟨hn,by simp,fun x h1 h2=> ?_⟩) (fun x hx=> ?_) (by rw[Jd,List.length_singleton];omega)
  ·rw[Dt]at h2;have:=(hi x h1).2;rw[h2]at this;omega
  ·rcases C5.1 hx with h|h
   ·exact⟨(hi x h).1,by have:=(hi x h).2;omega⟩
   ·rw[Dt.1 h];exact⟨hu.lv.2.1,Z9 _⟩
theorem Bv8 (T:Wu N t)(W:Wf N t r)(U: ∀x,Lv N t x->Cu N t x->d ((t x).up - 1)<d x){k:Int}(hk:Lv N t k):Ht N t N.toNat k:=
 Bv7 T W U N.toNat k [k] hk (by simp) (fun x hx=>by rw[Dt.1 hx];exact⟨hk.1,Z9 _⟩) (by simp)
theorem Bv9{α β:Type}(f:α->List β): ∀(l:List α),l.Nodup->(∀x∈l,(f x).Nodup)->(∀x∈l,∀y∈l,x≠y-> ∀z∈f x,z ∉ f y)->(l.flatMap f).Nodup:=by
 intro l;induction l with
 |nil=>intro _ _ _;exact List.nodup_nil
 |cons a l ih=>
  intro h1 h2 h3;obtain⟨n1,n2⟩:=List.nodup_cons.1 h1;rw[List.flatMap_cons];refine ck.2 ⟨h2 a List.mem_cons_self,ih n2 (fun x hx=>h2 x (Pv _ hx)) (fun x hx y hy=>h3 x (Pv _ hx) y (Pv _ hy)),fun z hz hz2=> ?_⟩;obtain⟨y,hy,hzy⟩:=List.mem_flatMap.1 hz2;exact h3 a List.mem_cons_self y (Pv _ hy) (fun e=>n1 (e ▸ hy)) z hz hzy
theorem Bwa (T:Wu N t)(W:Wf N t r)(U: ∀x,Lv N t x->Cu N t x->d ((t x).up - 1)<d x){k a b z:Int}(hk:Lv N t k)(ha:a∈kd N t k)(hb:b∈kd N t k)(hne:a≠b)(h1:Up N t a z)(h2:Up N t b z):False:=by
 have key: ∀a b,a∈kd N t k->b∈kd N t k->a≠b->Up N t a b->False:=by
  intro a b ha hb hne h;obtain⟨_,e2,_⟩:=(A7u T W hk b).1 hb;have hlt:=A7v T W U hk ha;cases h with
  |refl _=>exact hne rfl
  |step _ _ h3=>
   rw[e2,Int.add_sub_cancel]at h3;have:=h3.le U;omega
 rcases h1.comp h2 with h|h
 ·exact key a b ha hb hne h
 ·exact key b a hb ha (Ne.symm hne) h
theorem Bwb (T:Wu N t)(W:Wf N t r)(U: ∀x,Lv N t x->Cu N t x->d ((t x).up - 1)<d x): ∀(n:Nat) (k:Int),Lv N t k->(sub N t n k).Nodup:=by
 intro n;induction n with
 |zero=>intro k _;exact List.nodup_nil
 |succ n ih=>
  intro k hk;rw[A3e];refine List.nodup_cons.2 ⟨fun h=> ?_,Bv9 _ _ (A2t T W N.toNat hk) (fun c hc=>ih c (ub T W hk hc).lv.2) (fun a ha b hb hne z hz hz2=> ?_)⟩
  ·obtain⟨c,hc,hx⟩:=List.mem_flatMap.1 h;have hu:=ub T W hk hc;have h1:=(A7w T W n c k hu.lv.2 hx).le U;have h2:=A7v T W U hk hc;omega
  ·exact Bwa T W U hk ha hb hne (A7w T W n a z (ub T W hk ha).lv.2 hz) (A7w T W n b z (ub T W hk hb).lv.2 hz2)
end
def Wo (w:H4):Nat->Int->List Int
 |0,_=>[]
 |n+1,k=>k::(Vu w k).flatMap (Wo w n)
theorem Aku{w:H4}(I:Bd w){t:Int->Lk}(A:V6 w.o t){k:Int}(hk:0<=k/\k<(w.o.length:Int)):Vu w k=kd w.o.length t k:=by
 have h:=(I.rg.rg k hk).2.1;have hl:=I.rg.len;unfold Vu kd;rw[la A I.rg (by omega) (by omega),A k hk];rfl
theorem A7x{w:H4}(I:Bd w){t:Int->Lk}(A:V6 w.o t): ∀(n:Nat) (k:Int),0<=k/\k<(w.o.length:Int)->Wo w n k=sub w.o.length t n k:=by
 intro n;induction n with
 |zero=>intro k _;rfl
 |succ n ih=>
  intro k hk;show k::(Vu w k).flatMap (Wo w n)=k::(kd w.o.length t k).flatMap (sub w.o.length t n);rw[Aku I A hk];congr 1;exact Yx fun c hc=>ih c (tf hc)
def bd (w:H4)(l:List Int):Int:=(l.map fun x=>1+kq w x).sum
theorem Bwc (w:H4)(a b:List Int):bd w (a++b)=bd w a+bd w b:=by unfold bd;rw[Er,List.sum_append]
theorem Bwd (w:H4)(a:Int)(b:List Int):bd w (a::b)=1+kq w a+bd w b:=by unfold bd;rw[Z8,List.sum_cons]
def Zf (w:H4)(k:Int):Int:=bd w (Wo w w.o.length k)
def cz (w:H4)(x:G9):Int:=ay w.C x+((Gx w.o x.i).map (Zf w)).sum
def uc (w:H4):Int:=(w.p.map (cz w)).sum
theorem A7y{w:H4}(I:Bd w){t:Int->Lk}(A:V6 w.o t)(F:V4 w.o.length t (Wh w.p)){k:Int}(hk:Lv w.o.length t k):Wo w (w.o.length+1) k=Wo w w.o.length k:=by
 obtain⟨r,W⟩:=F.wf;obtain⟨d,U⟩:=F.uw;rw[A7x I A _ _ hk.1,A7x I A _ _ hk.1];have:=Bv6 _ _ (Bv8 F.tree W U hk) (w.o.length+1) (by simp);simpa using this
section
variable {M:Type} {op:M->M->M} {e:M} {g:Int->M} {w:H4}
theorem Bwe (ha: ∀a b c,op (op a b) c=op a (op b c))(hl: ∀a,op e a=a)(a b:List Int):Yw op e g (a++b)=op (Yw op e g a) (Yw op e g b):=by
 induction a with
 |nil=>exact(hl _).symm
 |cons x a ih=>show op (g x) (Yw op e g (a++b))=op (op (g x) (Yw op e g a)) _;rw[ih,ha]
theorem Bwf (ha: ∀a b c,op (op a b) c=op a (op b c))(hl: ∀a,op e a=a)(k:Int)(a b:List Int):Yw op e g ([k]++(a++b))=op (g k) (op (Yw op e g a) (Yw op e g b)):=by
 show op (g k) (Yw op e g (a++b))=_;rw[Bwe ha hl]
theorem Bwg (ha: ∀a b c,op (op a b) c=op a (op b c))(hl: ∀a,op e a=a)(hr: ∀a,op a e=a): ∀(u:Nat) (ks:List Int) (v:M) (met:List Int),(ks.flatMap (Wo w (u+1))).Nodup->(∀x∈ks.flatMap (Wo w (u+1)),x ∉ met)->
  ks.foldl (Xs op g w (az op e g w u)) (v,met)=(op v (Yw op e g (ks.flatMap (Wo w (u+1)))),met++ks.flatMap (Wo w (u+1))):=by
 intro u;induction u with
 |zero=>
  intro ks;induction ks with
  |nil=>intro v met _ _;simp[Yw,hr]
  |cons k ks ih=>
   intro v met hn hm;have e1:Wo w 1 k=[k]:=by
    show k::(Vu w k).flatMap (fun _=>[])=[k];have: ∀l:List Int,l.flatMap (fun _=>([]:List Int))=[]:=fun l=>by induction l with|nil=>rfl|cons a l ih=>rw[List.flatMap_cons,ih];rfl
    rw[this]
   rw[List.flatMap_cons,e1]at hn hm ⊢;have hk:k ∉ met:=hm k (by simp);obtain⟨n1,n2⟩:=List.nodup_cons.1 hn;rw[List.foldl_cons];have es:Xs op g w (az op e g w 0) (v,met) k=(op v (g k),met++[k]):=by
    unfold Xs az;rw[if_neg hk];simp[hr]
   rw[es,ih _ _ n2 (fun x hx h=>by
    rcases C5.1 h with h|h
    ·exact hm x (Pv _ hx) h
    ·rw[Dt]at h;exact n1 (h ▸ hx))]
   show(_,_)=(op v (op (g k) _),met++(k::_));rw[Je,ha];rfl
 |succ u ihu=>
  intro ks;induction ks with
  |nil=>intro v met _ _;simp[Yw,hr]
  |cons k ks ih=>
   intro v met hn hm;have e1:Wo w (u+1+1) k=k::(Vu w k).flatMap (Wo w (u+1)):=rfl;rw[List.flatMap_cons,e1]at hn hm ⊢;have hk:k ∉ met:=hm k (by simp);obtain⟨n1,n2⟩:=List.nodup_cons.1 hn;obtain⟨m1,m2,m3⟩:=ck.1 n2;have hkids:az op e g w (u+1) (Vu w k) (met++[k])=(Yw op e g ((Vu w k).flatMap (Wo w (u+1))),met++[k]++(Vu w k).flatMap (Wo w (u+1))):=by
    show Xw op e g w u (Vu w k) (met++[k])=_;rw[kt,ihu (Vu w k) e (met++[k]) m1 (fun x hx h=>by
     rcases C5.1 h with h|h
     ·exact hm x (Pv _ (C5.2 (.inl hx))) h
     ·rw[Dt]at h;exact n1 (C5.2 (.inl (h ▸ hx)))),hl]
   rw[List.foldl_cons];have es:Xs op g w (az op e g w (u+1)) (v,met) k=(op v (op (g k) (Yw op e g ((Vu w k).flatMap (Wo w (u+1))))),met++[k]++(Vu w k).flatMap (Wo w (u+1))):=by
    unfold Xs;rw[if_neg hk,hkids]
   rw[es,ih _ _ m2 (fun x hx h=>by
    rcases C5.1 h with h|h
    ·rcases C5.1 h with h|h
     ·exact hm x (Pv _ (C5.2 (.inr hx))) h
     ·rw[Dt]at h;exact n1 (C5.2 (.inr (h ▸ hx)))
    ·exact m3 x h hx)]
   have e2:k::(Vu w k).flatMap (Wo w (u+1))++ks.flatMap (Wo w (u+1+1))=[k]++((Vu w k).flatMap (Wo w (u+1))++ks.flatMap (Wo w (u+1+1))):=rfl;rw[e2];refine Prod.ext ?_ ?_
   ·simp only;rw[Bwf ha hl,ha,ha]
   ·show met++[k]++_++_=met++([k]++(_++_));simp only[Je]
end
theorem Bwh{M:Type}{op:M->M->M}{e:M}{g:Int->M}(ha: ∀a b c,op (op a b) c=op a (op b c))(hl: ∀a,op e a=a)(hr: ∀a,op a e=a){w:H4}{t:Int->Lk}(I:Bd w)(A:V6 w.o t)(F:V4 w.o.length t (Wh w.p)){k:Int}(hk:Lv w.o.length t k):
  Xw op e g w w.o.length [k] []=(Yw op e g (Wo w w.o.length k),Wo w w.o.length k):=by
 obtain⟨r,W⟩:=F.wf;obtain⟨d,U⟩:=F.uw;rw[kt,Bwg ha hl hr w.o.length [k] e [] ?_ (fun x _ h=>by cases h)]
 ·rw[List.flatMap_cons,List.flatMap_nil,List.append_nil,A7y I A F hk,hl,Hd]
 ·rw[List.flatMap_cons,List.flatMap_nil,List.append_nil,A7x I A _ _ hk.1];exact Bwb F.tree W U _ _ hk
structure Bwi (w:H4)(t:Int->Lk)(k:Int):Prop where
 inv:Bd w
 tab:V6 w.o t
 fr:V4 w.o.length t (Wh w.p)
 al:Al w.o.length t k
structure ud (w w':H4)(t:Int->Lk)(k:Int):Prop where
 inv:Bd w'
 len:w'.o.length=w.o.length
 tab:V6 w'.o (rem t k)
 fr:V4 w.o.length (rem t k) (Wh w'.p)
 conf:w'.C=w.C
 q:w'.p=w.p++[Wn (gt w.o k) (k+1)]
 node: ∀x,0<=x/\x<(w.o.length:Int)->x≠k-> ∃a b c,gt w'.o x=Y8 (gt w.o x) a b c
theorem Bwj (c:Sv)(a b:Int)(f g:Int)(ts cs:List Int)(d:Int):ay c (G9.mk a f ts cs d)=ay c (G9.mk b g ts cs d):=rfl
theorem ud.own{w w':H4}{t:Int->Lk}{k:Int}(L:ud w w' t k){x:Int}(hx:0<=x/\x<(w.o.length:Int))(hne:x≠k):kq w' x=kq w x:=by
 obtain⟨a,b,c,e⟩:=L.node x hx hne;unfold kq;rw[e,L.conf];exact Bwj _ _ _ _ _ _ _ _
theorem ud.kids{w w':H4}{t:Int->Lk}{k:Int}(P:Bwi w t k)(L:ud w w' t k){x:G9}(hx:x∈w.p):Gx w'.o x.i=Gx w.o x.i:=by
 have hf:=P.inv.first hx;rw[la P.tab P.inv.rg hf.1 (by omega),la L.tab L.inv.rg hf.1 (by omega),L.len];exact A6v P.fr.tree P.al.lv P.al.noOr P.fr.kid (Bd.qs hx)
def Vx (w:H4)(x:Int):List Int:=(gt w.o x).j.reverse
def Zg (w:H4)(k:Int):List Int:=(Wo w w.o.length k).flatMap (Vx w)
def af (w:H4)(x:G9):List Int:=x.j.reverse++(Gx w.o x.i).flatMap (Zg w)
def Ym (w:H4):List Int:=w.p.flatMap (af w)
theorem ud.tags{w w':H4}{t:Int->Lk}{k:Int}(L:ud w w' t k){x:Int}(hx:0<=x/\x<(w.o.length:Int))(hne:x≠k):Vx w' x=Vx w x:=by
 obtain⟨a,b,c,e⟩:=L.node x hx hne;unfold Vx;rw[e];rfl
theorem Bwk{α β γ:Type}(f:α->List β)(g:β->List γ): ∀l:List α,(l.flatMap f).flatMap g=l.flatMap (fun x=>(f x).flatMap g):=by
 intro l;induction l with
 |nil=>rfl
 |cons a l ih=>rw[List.flatMap_cons,List.flatMap_append,ih,List.flatMap_cons]
theorem Bwl (w:H4)(l:List Int):Yw (· ++ ·) [] (Vx w) l=l.flatMap (Vx w):=by
 induction l with
 |nil=>rfl
 |cons a l ih=>show Vx w a++_=_;rw[ih,List.flatMap_cons]
section
variable {K:Nat} (hK:281474976710656<=K)
include hK
end
theorem Bwm{l:List Int}{i:Nat}(h:2*i+1<l.length)(v:List Int)(hl:v.length=l.length)(hv: ∀j:Nat,j<l.length->gt v (j:Int)=if j<i\/l.length - i<=j then gt l ((l.length - 1 - j:Nat):Int)else gt l (j:Int)):
  ∀j:Nat,j<l.length->gt ((v.set i (gt v ((l.length - 1 - i:Nat):Int))).set (l.length - 1 - i) (gt v (i:Int))) (j:Int)=if j<i+1\/l.length - (i+1)<=j then gt l ((l.length - 1 - j:Nat):Int)else gt l (j:Int):=by
 intro j hj;have g: ∀(x:List Int) (a b:Nat) (y:Int),a<x.length->b<x.length->gt (x.set a y) (b:Int)=if b=a then y else gt x (b:Int):=by
  intro x a b y ha hb;rw[Gz (by simpa using hb),Gz hb,List.getElem_set];by_cases e:a=b
  ·rw[if_pos e,if_pos e.symm]
  ·rw[if_neg e,if_neg (Ne.symm e)]
 rw[g _ _ _ _ (by simp;omega) (by simp;omega),g _ _ _ _ (by omega) (by omega),hv j hj,hv i (by omega),hv (l.length - 1 - i) (by omega)];by_cases h1:j=l.length - 1 - i
 ·rw[if_pos h1,if_neg (by omega),if_pos (by omega)];congr 2;omega
 ·rw[if_neg h1];by_cases h2:j=i
  ·rw[if_pos h2,if_neg (by omega),if_pos (by omega),h2]
  ·rw[if_neg h2];by_cases h3:j<i\/l.length - i<=j
   ·rw[if_pos h3,if_pos (by omega)]
   ·rw[if_neg h3,if_neg (by omega)]
theorem Bwn{K:Nat}(hK:281474976710656<=K)(l:List Int)(hl:l.length<=1000000):A0o K l=some l.reverse:=by
 unfold A0o;have e0:Ap (l.length:Int) 1=(l.length:Int) - 1:=V9 (by omega);rw[e0];have key: ∀(f i:Nat) (v:List Int),v.length=l.length->(∀j:Nat,j<l.length->gt v (j:Int)=if j<i\/l.length - i<=j then gt l ((l.length - 1 - j:Nat):Int)else gt l (j:Int))->2*i<=l.length+1->l.length - i<f->yc K f v (i:Int) ((l.length:Int) - 1 - (i:Int))=some l.reverse:=by
  intro f;induction f with
  |zero=>intro i v _ _ _ h;omega
  |succ f ih=>
   intro i v hv hg hi hf;rw[yc];by_cases q:2*i+1<l.length
   ·have e1:(l.length:Int) - 1 - (i:Int)=((l.length - 1 - i:Nat):Int):=by omega
    have e2:Ap ((l.length - 1 - i:Nat):Int) 1=(l.length:Int) - 1 - ((i+1:Nat):Int):=by rw[V9 (by omega)];omega
    rw[e1,decide_eq_true (by omega),cond_true,if_pos (by omega),if_pos (by omega),if_pos (by omega),if_pos ⟨by omega,by simp;omega⟩,e2,K1 (by omega),Int.toNat_natCast,Int.toNat_natCast];exact ih (i+1) _ (by simp[hv]) (Bwm q v hv hg) (by omega) (by omega)
   ·rw[decide_eq_false (by omega),cond_false,Z7];refine List.ext_getElem (by simp[hv]) fun j h1 h2=> ?_
    have hj:j<l.length:=by omega
    have:=hg j hj;rw[Gz h1]at this;rw[this,List.getElem_reverse];by_cases h3:j<i\/l.length - i<=j
    ·rw[if_pos h3,Gz (by omega)]
    ·rw[if_neg h3,Gz hj];congr 1;omega
 have:=key K 0 l rfl (fun j hj=>by rw[if_neg (by omega)]) (by omega) (by omega);rw[show(l.length:Int) - 1 - ((0:Nat):Int)=(l.length:Int) - 1 by omega]at this;exact this
theorem Bep{K:Nat}(hK:281474976710656<=K)(l:List Int)(hl:l.length<=1000000):yd K l=some l.reverse:=by
 unfold yd;rw[cf K (by omega),Z0,Bwn hK l hl,Z0,if_pos (by simp)]
def Six (w:H4):Prop:= ∀k,0<=k/\k<(w.o.length:Int)->(gt w.o k).j.length<=6
theorem Bd.six{w:H4}(I:Bd w):Six w:=fun k hk=>by
 by_cases h:(gt w.o k).c=1
 ·exact(Xf.1 ⟨I.node k hk,h⟩).ntag
 ·rw[ba (I.node k hk) h];exact Hc _
theorem A3f{α β:Type}(f:α->List β)(l:List α){i:Nat}(h:i<l.length):(l.take (i+1)).flatMap f=(l.take i).flatMap f++f l[i]:=by
 rw[<-List.take_append_getElem h,List.flatMap_append];simp
theorem pz{α:Type}(f:α->List Int)(m:Nat): ∀l:List α,(∀x∈l,(f x).length<=m)->(l.flatMap f).length<=m*l.length:=by
 intro l;induction l with
 |nil=>intro _;simp
 |cons a l ih=>
  intro h;have h1:=h a List.mem_cons_self;have h2:=ih fun x hx=>h x (Pv _ hx);rw[List.flatMap_cons,Jd,Z28,Nat.mul_succ];omega
section
variable {K:Nat} (hK:281474976710656<=K)
include hK
theorem A3g (l:List Int)(hl:l.length<=140737488355327):oq K l l=some true:=by
 unfold oq;simp only[bne_self_eq_false,cond_false];exact Bqp l (by omega) (A16 K l l) (fun n i=>rfl) K 0 (Hc _) (by omega)
end
instance:DecidablePred wfi:=fun x=>inferInstanceAs (Decidable (_/\_))
theorem ic (n:Int):wfi (IntKind.i64.wrap n):=by rw[IntKind.wrap_i64];exact⟨by omega,by omega⟩
def Wy{α:Type}(x:Option (α×Sx))(P:α->Prop):Prop:= ∃a c,x=some (a,c)/\P a/\Vs c
theorem Wc{α:Type}{a:α}{c:Sx}{P:α->Prop}(h:P a)(hc:Vs c):Wy (some (a,c)) P:=⟨_,_,rfl,h,hc⟩
theorem Wy.mono{α:Type}{x:Option (α×Sx)}{P Q:α->Prop}(h:Wy x P)(k: ∀a,P a->Q a):Wy x Q:=by
 obtain⟨a,c,e,p,hc⟩:=h;exact⟨a,c,e,k a p,hc⟩
theorem V7{α β:Type}{x:Option (α×Sx)}{f:α×Sx->Option (β×Sx)}{P:α->Prop}{Q:β->Prop}(h:Wy x P)(k: ∀a c,P a->Vs c->Wy (f (a,c)) Q):Wy (x.bind f) Q:=by
 obtain⟨a,c,e,p,hc⟩:=h
 grind
theorem W5{α:Type}{p:Prop}[Decidable p]{x:Option (α×Sx)}{Q:α->Prop}(h:p)(k:Wy x Q):Wy (if p then x else none) Q:=by grind
theorem W8{α:Type}{b:Bool}{x y:Option (α×Sx)}{Q:α->Prop}(k:b=true->Wy x Q)(l:b=false->Wy y Q):Wy (bif b then x else y) Q:=by
 grind
theorem Wk (K:Nat){c:Sx}(hc:Vs c){n:Int}(hn:0<n):Wy (Pz K c n) fun x=>0<=x/\x<n:=by
 obtain⟨r,e,b,w⟩:=Xt K hc hn;exact⟨_,_,e,b,w⟩
theorem Akv{β:Type}(K:Nat){c:Sx}{l:List Int}{f:Int×Sx×List Int->Option (β×Sx)}{Q:β->Prop}(hc:Vs c)(hl:0<l.length)(k: ∀x c,x∈l->Vs c->Wy (f (x,c,l)) Q):Wy ((W9 K c l).bind f) Q:=by
 obtain⟨x,c',e,m,w⟩:=lw K hc hl
 grind
theorem Bwo (K:Nat){c:Sx}(hc:Vs c):Wy (A0c K c) ConfW:=by
 unfold A0c fx;obtain⟨x,c1,e,hx,w⟩:=Bej K hc;have W:=Bda hx;rw[e,Z0];dsimp only
 repeat' (first|refine Akv _ (by assumption) (by decide) (fun x c hx hc=>W5 rfl ?_)|refine V7 (Wk _ (by assumption) (by omega)) (fun x c hx hc=> ?_)|refine W8 (fun _=> ?_) (fun _=> ?_))
 all_goals refine Wc ?_ (by assumption)
 ·exact⟨(by decide: ∀y∈([1,2,12,13]:List Int),wfi y) _ ‹_›,W.size,W.slots,W.tax,W.slice,W.gens⟩
 ·exact⟨W.chunks,(by decide: ∀y∈([7,8,16,17]:List Int),wfi y) _ ‹_›,W.slots,W.tax,W.slice,W.gens⟩
 ·exact⟨W.chunks,W.size,(by decide: ∀y∈([1,8,9]:List Int),wfi y) _ ‹_›,W.tax,W.slice,W.gens⟩
 ·exact⟨W.chunks,W.size,W.slots,(by decide: ∀y∈([0,8,9]:List Int),wfi y) _ ‹_›,W.slice,W.gens⟩
 ·exact⟨W.chunks,W.size,W.slots,W.tax,(by decide: ∀y∈([0,17]:List Int),wfi y) _ ‹_›,W.gens⟩
 ·exact⟨W.chunks,W.size,W.slots,W.tax,W.slice,(by decide: ∀y∈([0,5]:List Int),wfi y) _ ‹_›⟩
 ·exact W
theorem ie{l:List Int}(h:l.length<=1000)(x:Int):(l++[x]).length*8<=140737488355328/\(l++[x]).length<=maxLen:=by
 grind [V2]
theorem A3h{l:List H3}(h:l.length<=1000)(x:H3):(l++[x]).length*24<=140737488355328/\(l++[x]).length<=maxLen:=by
 grind [V2]
theorem A3i{l:List Int}(h:Zv l)(hl:l.length<=1000){x:Int}(hx:wfi x):Zv (l++[x]):=by
 refine⟨fun y hy=> ?_,by grind⟩;rcases C5.1 hy with hy|hy
 ·exact h.1 y hy
 grind
structure SN (m:Nat)(n:Fy):Prop where
 w:Wt n
 c:n.L.length<=m
 t:n.y.length<=m
 g:n.j.length<=m
theorem SN.tag{m:Nat}{n:Fy}(h:SN m n)(hm:m<=1000){x:Int}(hx:wfi x):SN (m+1) (Fy.mk n.c n.a n.f n.s n.t n.i n.u n.v n.L n.w n.x n.y (n.j++[x])):=by
 have:=h.c;have:=h.t;have:=h.g;exact⟨{h.w with tags:=A3i h.w.tags (by omega) hx},Nat.le_succ_of_le h.c,Nat.le_succ_of_le h.t,by grind⟩
theorem SN.chunk{m:Nat}{n:Fy}(h:SN m n)(hm:m<=1000){x:Int}(hx:wfi x):SN (m+1) (Fy.mk n.c n.a n.f n.s n.t n.i n.u n.v (n.L++[x]) n.w n.x n.y n.j):=by
 have:=h.c;have:=h.t;have:=h.g;exact⟨{h.w with chunks:=A3i h.w.chunks (by omega) hx},by grind,Nat.le_succ_of_le h.t,Nat.le_succ_of_le h.g⟩
theorem SN.thing{m:Nat}{n:Fy}(h:SN m n)(hm:m<=1000){x:H3}(hx:ThingW x):SN (m+1) (Fy.mk n.c n.a n.f n.s n.t n.i n.u n.v n.L n.w n.x (n.y++[x]) n.j):=by
 have:=h.c;have:=h.t;have:=h.g;refine⟨{h.w with things:=⟨fun y hy=> ?_,by grind⟩},Nat.le_succ_of_le h.c,by grind,Nat.le_succ_of_le h.g⟩;rcases C5.1 hy with hy|hy
 ·exact h.w.things.1 y hy
 grind
theorem SN.mono{m k:Nat}{n:Fy}(h:SN m n)(hk:m<=k):SN k n:=⟨h.w,Dn h.c hk,Dn h.t hk,Dn h.g hk⟩
theorem sbn{i:Nat}(hi:0<i)(h:i<=1000):Ap (i:Int) 1=((i - 1:Nat):Int):=by grind [tn]
theorem Bwp (K:Nat){c:Sx}(hc:Vs c){x:Sv}(hx:Vt x=true):Wy (A0d K c x) ThingW:=by
 have b0:=Gy hx;have j: ∀(c:Sx) (t:H3),Vs c->Wy (xq K x c.fb c.fi c.fh t) ThingW:=by
  intro c t hc;unfold xq;refine V7 (Wk K hc (by omega)) (fun y1 c1 h1 w1=>V7 (Wk K w1 (by omega)) (fun y2 c2 h2 w2=> ?_));dsimp only at w2 ⊢;have e:Ap x.k y2=x.k - y2:=by grind [Ap,Aly,Vr]
  rw[e];refine V7 (Wk K w2 (by omega)) (fun y3 c3 h3 w3=>Wc ⟨ic _,ic _,Xe⟩ w3)
 unfold A0d;obtain⟨r,e,w⟩:=lu K hc (n:=4) (by omega);rw[e,Z0];refine W8 (fun _=>W8 (fun h=> ?_) (fun _=>j _ _ w)) (fun _=>j _ _ w);rw[decide_eq_true_eq]at h;rw[show Ap x.L 1=x.L - 1 from by grind [Ap,Aly,Vr]];exact V7 (Wk K w (by omega)) (fun y1 c1 h1 w1=>V7 (Wk K w1 (by omega)) (fun y2 c2 h2 w2=>Wc ⟨ic _,ic _,V1 (x:=2) (by decide) (by decide)⟩ w2))
theorem Bwq (K:Nat): ∀(f i m:Nat) (c:Sx) (n:Fy),i<f->m+i<=50->SN m n->Vs c->Wy (xr K f (i:Int) c.fb c.fi c.fh n) (SN 50):=by
 intro f;induction f with
 |zero=>omega
 |succ f ih=>
  intro i m c n hi hm hn hc;have:=hn.g;rw[xr];refine W8 (fun h=> ?_) (fun _=>Wc (hn.mono (by omega)) hc);rw[decide_eq_true_eq]at h;refine V7 (Wk K hc (by omega)) (fun y c1 hy w1=>W5 (ie (by omega) _) ?_);rw[sbn (by omega) (by omega)];exact ih (i - 1) (m+1) c1 _ (by omega) (by omega) (hn.tag (by omega) (V1 (by omega) (by omega))) w1
section
variable {K:Nat} (hK:281474976710656<=K)
include hK
theorem Bwr{x:Sv}(hx:Vt x=true): ∀(f i m:Nat) (c:Sx) (n:Fy),i<f->m+i<=40->SN m n->Vs c->Wy (xt K x f (i:Int) c.fb c.fi c.fh n) (SN 50):=by
 intro f;induction f with
 |zero=>omega
 |succ f ih=>
  intro i m c n hi hm hn hc;have:=hn.t;rw[xt];refine W8 (fun h=> ?_) (fun _=> ?_)
  ·rw[decide_eq_true_eq]at h;refine V7 (Bwp K hc hx) (fun y c1 hy w1=>W5 (A3h (by omega) _) ?_);rw[sbn (by omega) (by omega)];exact ih (i - 1) (m+1) c1 _ (by omega) (by omega) (hn.thing (by omega) hy) w1
  ·refine V7 (Wk K hc (by omega)) (fun y c1 hy w1=> ?_);have:=Bwq K K y.toNat 40 c1 n (by omega) (by omega) (hn.mono (by omega)) w1
   grind
theorem Bws{x:Sv}(hx:Vt x=true)(z:Fy): ∀(f i m:Nat) (c:Sx) (n:Fy),i<f->m+i<=20->SN m n->Vs c->Wy (xv K x f (i:Int) c.fb c.fi c.fh n z) (SN 50):=by
 have b0:=Gy hx;have j: ∀(c:Sx) (n:Fy),SN 20 n->Vs c->Wy (xu K x c.fb c.fi c.fh n) (SN 50):=by
  intro c n hn hc;unfold xu;refine V7 (Wk K hc (by omega)) (fun y c1 hy w1=> ?_);have:=Bwr hK hx K y.toNat 20 c1 n (by omega) (by omega) hn w1
  grind
 intro f;induction f with
 |zero=>omega
 |succ f ih=>
  intro i m c n hi hm hn hc;have:=hn.c;rw[xv];refine W8 (fun h=> ?_) (fun _=>W8 (fun h=> ?_) (fun _=>j _ _ (hn.mono (by omega)) hc))
  ·rw[decide_eq_true_eq]at h;refine W5 (ie (by omega) _) ?_;rw[sbn (by omega) (by omega)];exact ih (i - 1) (m+1) c _ (by omega) (by omega) (hn.chunk (by omega) (V1 (by omega) (by omega))) hc
  ·rw[decide_eq_true_eq]at h;refine W5 ⟨by omega,h⟩ ?_;rw[Ye (x:=x.k) (by omega) (by omega)];refine V7 (Wk K hc (by omega)) (fun y c1 hy w1=> ?_);exact j c1 _ (SN.mono (m:=m) ⟨{hn.w with cur:=ic _,bump:=V1 (x:=y) (by omega) (by omega)},hn.c,hn.t,hn.g⟩ (by omega)) w1
theorem Bwt{x:Sv}(hx:Vt x=true){c:Sx}(hc:Vs c):Wy (A0e K c x) (SN 50):=by
 have b0:=Gy hx;unfold A0e bi;have s0: ∀a b d:Int,wfi a->wfi b->wfi d->SN 0 (Fy.mk a b d 0 0 0 0 0 [] 0 0 [] []):=fun a b d ha hb hd=>⟨⟨ha,hb,hd,Xe,Xe,Xe,Xe,Xe,ph,Xe,Xe,A6o,ph⟩,by simp,by simp,by simp⟩
 refine V7 (Wk K hc (by omega)) (fun y1 c1 h1 w1=> ?_);rw[Z0];refine V7 (Wk K w1 (by omega)) (fun y2 c2 h2 w2=>W8 (fun _=>Wc ((s0 _ _ _ (V1 (by omega) (by omega)) (ic _) Xe).mono (by omega)) w2) (fun _=> ?_));refine V7 (Wk K w2 (by omega)) (fun y3 c3 h3 w3=>V7 (Wk K w3 (by omega)) (fun y4 c4 h4 w4=> ?_));have:=Bws hK hx (Fy.mk 0 0 0 0 0 0 0 0 [] 0 0 [] []) K y4.toNat 10 c4 _ (by omega) (by omega) ((s0 y2 (A4 1 y1) y3 (V1 (by omega) (by omega)) (ic _) (V1 (by omega) (by omega))).mono (by omega)) w4
 grind
end
theorem Ber (a b d:Int)(ha:wfi a)(hb:wfi b)(hd:wfi d):ThingW (H3.mk a b d):=⟨ha,hb,hd⟩
structure DP (c:Sv)(n:Fy):Prop where
 l:Wx c n
 t:aa c [] n
 e:Zy 1 n
theorem DP.w{c:Sv}{n:Fy}(h:DP c n):Wt n:=ia (Xf.2 h.l).1 h.e (by omega)
theorem A3j{c:Sv}{n:Fy}(L:Wx c n)(e:Zy 1 n):SN 40 n:=⟨ia (Xf.2 L).1 e (by omega),by have:=Y4 L.conf L.dist;omega,by have:=L.nth;omega,by have:=L.ntag;omega⟩
theorem Bwu (K:Nat): ∀(f i m:Nat) (c:Sx) (n:Fy),i<f->m+i<=50->SN m n->Vs c->Wy (xx K f (i:Int) c.fb c.fi c.fh n) (SN 50):=by
 intro f;induction f with
 |zero=>omega
 |succ f ih=>
  intro i m c n hi hm hn hc;have:=hn.g;rw[xx];refine W8 (fun h=> ?_) (fun _=>Wc (hn.mono (by omega)) hc);rw[decide_eq_true_eq]at h;refine V7 (Wk K hc (by omega)) (fun y c1 hy w1=>W5 (ie (by omega) _) ?_);rw[sbn (by omega) (by omega)];exact ih (i - 1) (m+1) c1 _ (by omega) (by omega) (hn.tag (by omega) (V1 (by omega) (by omega))) w1
section
variable {K:Nat} (hK:281474976710656<=K)
include hK
theorem Bwv{x:Sv}(hx:Vt x=true){c:Sx}(hc:Vs c):Wy (A0f K c x) (SN 60):=by
 unfold A0f bp;refine V7 (Bwt hK hx hc) (fun n c1 hn w=> ?_);have:=hn.c;have:=hn.t;have:=hn.g;have W:=hn.w;have M:=hn.mono (k:=60) (by omega)
 repeat' (first|refine Akv _ (by assumption) (by decide) (fun x c hx hc=>W5 rfl ?_)|refine V7 (Wk _ (by assumption) (by omega)) (fun x c hx hc=> ?_)|refine W8 (fun _=> ?_) (fun _=> ?_))
 ·exact Wc ⟨{W with st:=ic _},M.c,M.t,M.g⟩ (by assumption)
 ·exact Wc ⟨{W with gen:=(by decide: ∀y∈([0,4,5]:List Int),wfi y) _ ‹_›},M.c,M.t,M.g⟩ (by assumption)
 ·exact Wc ⟨{W with up:=(by decide: ∀y∈([-1,1,8,9]:List Int),wfi y) _ ‹_›},M.c,M.t,M.g⟩ (by assumption)
 ·exact W5 (ie (show n.L.length<=_ by omega) _) (Wc ((hn.chunk (by omega) ((by decide: ∀y∈([0,12,-1]:List Int),wfi y) _ ‹_›)).mono (by omega)) (by assumption))
 ·exact Wc ⟨{W with cur:=V1 (x:= ‹Int›) (by omega) (by omega)},M.c,M.t,M.g⟩ (by assumption)
 ·exact Wc ⟨{W with bump:=(by decide: ∀y∈([0,8,17,-1]:List Int),wfi y) _ ‹_›},M.c,M.t,M.g⟩ (by assumption)
 ·exact W5 (ie (show n.j.length<=_ by omega) _) (Wc ((hn.tag (by omega) ((by decide: ∀y∈([255,256,-1]:List Int),wfi y) _ ‹_›)).mono (by omega)) (by assumption))
 ·refine W5 (A3h (show n.y.length<=_ by omega) _) (Wc ((hn.thing (by omega) (Ber _ _ _ ?_ ?_ ?_)).mono (by omega)) (by assumption))
  all_goals grind [V1]
 simp_all[Wc]
theorem Bww{c:Sv}{n:Fy}(L:Wx c n)(e:Zy 1 n): ∃n' b,mw K c n 2 (A4 c.k 1)=some (n',b)/\SN 40 n':=by
 have hm:=V2;have b0:=Gy L.conf;have S:=A3j L e;have W:=S.w;have h1:=Y4 L.conf L.dist;have h3:=L.nth;have h4:=L.ntag;have q1:2*c.k<=c.L*c.k:=Int.mul_le_mul_of_nonneg_right (by omega) (by omega);have hby:Wl c=c.L*c.k:=by unfold Wl;rw[L.conf];rfl
 have done: ∃n' b,some (n,false)=some (n',b)/\SN 40 n':=⟨_,_,rfl,S⟩;unfold mw ff fg;rw[Ye (x:=c.k) (by omega) (by omega),gq K W,Z0,dj,L.conf];simp only[Z0,cond_true];rw[show(n.c != 1)=false by rw[L.st];rfl,cond_false,decide_eq_true (by omega),cond_true,ou,Z0,decide_eq_false (by omega),cond_false,Xh,gg hK L.conf];simp only[Z0];cases q:Qi 2 0 (c.L - 1)with
 |false=>exact done
 |true=>
 simp only[Bool.not_true,cond_false];have hr:Wb (c.k+1) c.k=2:=by
  unfold Wb;rw[Vz.2 ⟨by omega,by omega⟩,Vz.2 ⟨by omega,by omega⟩];show(c.k+1+c.k - 1) / c.k=2;rw[show c.k+1+c.k - 1=c.k*2 by omega,Int.mul_ediv_cancel_left _ (by omega)]
 rw[A2b,Z0,hr,Z0];obtain⟨k,rfl⟩: ∃k,K=k+3:=⟨K - 3,by omega⟩;have e3: ∀i:Nat,i<=2->A4 2 (i:Int)=2+i:=fun i hi=>by grind [A4,Fp,Vr]
 have s1:=ie (l:=n.L) (by omega) (A4 2 0);have s2:=ie (l:=n.L++[A4 2 0]) (by grind) (A4 2 (A4 0 1));have s3:=A3h (l:=n.y) (by omega) (H3.mk (F2 2 c.k) (c.k+1) 2);rw[jc,show decide ((0:Int)<2)=true from rfl,cond_true];rw[if_pos s1,jc,show decide (A4 0 1<2)=true from rfl,cond_true];simp only;rw[if_pos s2,jc,show decide (A4 (A4 0 1) 1<2)=false from rfl,cond_false];simp only;rw[if_pos s3,oy hK c (Fy.mk n.c n.a n.f n.s n.t n.i n.u n.v (n.L++[A4 2 0]++[A4 2 (A4 0 1)]) n.w n.x (n.y++[H3.mk (F2 2 c.k) (c.k+1) 2]) n.j) (by grind) (by grind) (show n.j.length<=_ by omega),Z0];cases q3:Wr c (Fy.mk n.c n.a n.f n.s n.t n.i n.u n.v (n.L++[A4 2 0]++[A4 2 (A4 0 1)]) n.w n.x (n.y++[H3.mk (F2 2 c.k) (c.k+1) 2]) n.j)with
 |false=>
  simp_all[gq]
 |true=>
  exact⟨_,_,rfl,A3j (Xf.1 ⟨q3,L.st⟩) ⟨e.ep,e.ue,e.cur⟩⟩
theorem Bwx{x:Sv}(hx:Vt x=true)(z:Fy): ∀(f i:Nat) (c:Sx) (n:Fy),i<f->i<=20->DP x n->Vs c->Wy (xz K x f (i:Int) c.fb c.fi c.fh n z) (SN 50):=by
 have b0:=Gy hx;have j: ∀(c:Sx) (n:Fy),SN 40 n->Vs c->Wy (xy K c.fb c.fi c.fh n) (SN 50):=by
  intro c n hn hc;unfold xy;refine V7 (Wk K hc (by omega)) (fun y c1 hy w1=> ?_);have:=Bwu K K y.toNat 40 c1 n (by omega) (by omega) hn w1
  grind
 intro f;induction f with
 |zero=>omega
 |succ f ih=>
  intro i c n hi hm hn hc;rw[xz];refine W8 (fun h=> ?_) (fun _=> ?_)
  ·rw[decide_eq_true_eq]at h;refine V7 (Wk K hc (by omega)) (fun y c1 hy w1=>Akv K w1 (by decide) (fun a c2 ha w2=>W5 rfl ?_));have e:A4 1 y=1+y:=by grind [A4,Fp,Vr]
   obtain⟨n',b,e2,h2⟩:=Bd8 hK hn.l hn.w hn.e.cur (1+y) a ⟨by omega,by omega⟩;dsimp only;rw[e,e2,Z0,sbn (by omega) (by omega)];have h3:DP x n':=by
    rcases h2 with rfl|⟨off,hs,rfl⟩
    ·exact hn
    ·obtain⟨l1,l2⟩:=Bd4 hn.l hn.e.cur hn.t hs;exact⟨l1,l2,⟨hn.e.ep,hn.e.ue,hn.e.cur⟩⟩
   grind
  ·obtain⟨r,e,w⟩:=lu K hc (n:=3) (by omega);rw[show Sx.mk c.fb c.fi c.fh=c from rfl,e,Z0];refine W8 (fun _=> ?_) (fun _=>j _ _ (A3j hn.l hn.e) w);obtain⟨n',b,e2,h2⟩:=Bww hK hn.l hn.e
   grind
theorem Bwy{x:Sv}(hx:Vt x=true){c:Sx}(hc:Vs c):Wy (A0g K c x) (SN 50):=by
 have b0:=Gy hx;unfold A0g bi;refine V7 (Wk K hc (by omega)) (fun y1 c1 h1 w1=> ?_);rw[Z0];refine V7 (Wk K w1 (by omega)) (fun y2 c2 h2 w2=>V7 (Wk K w2 (by omega)) (fun y3 c3 h3 w3=> ?_));dsimp only;have e:A4 1 y1=1+y1:=by grind [A4,Fp,Vr]
 rw[e];have L:Wx x (Fy.mk 1 (1+y1) y2 0 0 0 0 0 [] 0 0 [] []):=⟨hx,rfl,⟨by grind,by grind⟩,⟨by grind,by grind⟩,⟨by grind,by grind⟩,⟨by grind,by grind⟩,⟨by grind,by grind⟩,h2.1,by grind,rfl,rfl,by simp,by simp,rfl,rfl⟩;have E:Zy 1 (Fy.mk 1 (1+y1) y2 0 0 0 0 0 [] 0 0 [] []):=⟨by grind,by grind,by grind,by grind⟩;have L2:=A7i L (k:=y3) ⟨by omega,by omega⟩ (by simp);rw[A7j hK L (A3j L E).w ⟨by omega,by omega⟩ (by simp),Z0];have D:DP x (Zb (Fy.mk 1 (1+y1) y2 0 0 0 0 0 [] 0 0 [] []) y3):=⟨L2,⟨rfl,rfl,by simp[X2,Zb,Wa]⟩,⟨E.ep,E.ue,by show 0<=y3+1;omega,by show y3+1<=1000;omega⟩⟩;refine V7 (Wk K w3 (by omega)) (fun y4 c4 h4 w4=> ?_);have:=Bwx hK hx (Fy.mk 0 0 0 0 0 0 0 0 [] 0 0 [] []) K y4.toNat c4 _ (by omega) (by omega) D w4;rw[Int.toNat_of_nonneg (by omega)]at this;exact this
structure SW (m:Nat)(x:G9):Prop where
 w:dk x
 g:x.j.length<=m
 c:x.L.length<=m
theorem Bwz{x:Sv}(hx:Vt x=true){c:Sx}(hc:Vs c):Wy (A0k K c x) (SW 60):=by
 have b0:=Gy hx;have j: ∀(c:Sx) (a z:G9),SW 50 a->Vs c->Wy (ya K c.fb c.fi c.fh a z) (SW 50):=by
  intro c a z ha hc;unfold ya A0i;obtain⟨r,e,w⟩:=lu K hc (n:=4) (by omega);rw[show Sx.mk c.fb c.fi c.fh=c from rfl,e,Z0];exact W8 (fun _=>Wc ⟨⟨ha.w.slot,ha.w.first,ph,ph,Xe⟩,by simp,by simp⟩ w) (fun _=>Wc ha w)
 have d:Wy (A0j K c x) (SW 50):=by
  unfold A0j;refine V7 (Bwy hK hx hc) (fun n c1 hn w1=> ?_);dsimp only;rw[Ye (x:=x.l) (by omega) (by omega)];refine V7 (Wk K w1 (by omega)) (fun y2 c2 h2 w2=> ?_);dsimp only;rw[A6n K hn.w,Z0];have W:=Bs0 hn.w (s:=y2) (V1 (by omega) (by omega));refine V7 (Wk K w2 (by omega)) (fun y3 c3 h3 w3=> ?_);have hf:wfi y3:=V1 (by omega) (by omega);refine W8 (fun _=>V7 (Wk K w3 (by omega)) (fun y4 c4 h4 w4=> ?_)) (fun _=>j _ _ _ ⟨⟨W.slot,hf,W.tags,W.chunks,Xe⟩,hn.g,hn.c⟩ w3);exact j _ _ _ ⟨⟨W.slot,hf,W.tags,W.chunks,V1 (x:=y4) (by omega) (by omega)⟩,hn.g,hn.c⟩ w4
 unfold A0k jp;refine V7 d (fun a c1 ha w=> ?_);have h1:=ha.g;have h2:=ha.c;have W:=ha.w
 repeat' (first|refine Akv _ (by assumption) (by decide) (fun x c hx hc=>W5 rfl ?_)|refine V7 (Wk _ (by assumption) (by omega)) (fun x c hx hc=> ?_)|refine W8 (fun _=> ?_) (fun _=> ?_))
 ·exact Wc ⟨{W with slot:=(by decide: ∀y∈([-1,0,8,9]:List Int),wfi y) _ ‹_›},show a.j.length<=60 by omega,show a.L.length<=60 by omega⟩ (by assumption)
 ·exact Wc ⟨{W with first:=(by decide: ∀y∈([-1,9,0]:List Int),wfi y) _ ‹_›},show a.j.length<=60 by omega,show a.L.length<=60 by omega⟩ (by assumption)
 ·exact Wc ⟨{W with done:=(by decide: ∀y∈([-1,0,8,16]:List Int),wfi y) _ ‹_›},show a.j.length<=60 by omega,show a.L.length<=60 by omega⟩ (by assumption)
 ·exact W5 (ie (show a.j.length<=_ by omega) _) (Wc ⟨{W with tags:=A3i W.tags (by omega) ((by decide: ∀y∈([-1,255,256]:List Int),wfi y) _ ‹_›)},by grind,show a.L.length<=60 by omega⟩ (by assumption))
 ·exact W5 (ie (show a.L.length<=_ by omega) _) (Wc ⟨{W with chunks:=A3i W.chunks (by omega) ((by decide: ∀y∈([-1,0,12]:List Int),wfi y) _ ‹_›)},show a.j.length<=60 by omega,by grind⟩ (by assumption))
 ·exact Wc ⟨W,show a.j.length<=60 by omega,show a.L.length<=60 by omega⟩ (by assumption)
end
structure AnyP (w:H4):Prop where
 ww:Wp w
 l:w.o.length<=8
 s:w.Q.c.length<=12/\w.Q.h.length<=12/\w.Q.g.length<=192
 q:w.p.length<=40000
 g:w.q.length<=40000
 e: ∀x∈w.p,x.j.length<=80
 n: ∀x∈w.o,SN 80 x
theorem Bw0{l:List G9}(h:A5y l)(hl:l.length<=100000){x:G9}(hx:dk x):A5y (l++[x]):=by
 refine⟨fun y hy=> ?_,by grind⟩;rcases C5.1 hy with hy|hy
 ·exact h.1 y hy
 grind
theorem Akx{α:Type}{l:List α}{P:α->Prop}(h: ∀x∈l,P x)(i:Nat){x:α}(hx:P x): ∀y∈l.set i x,P y:=by
 grind
theorem AnyP.node{w:H4}(h:AnyP w)(i:Nat){x:Fy}(hx:SN 80 x):AnyP (H4.mk w.C w.Q (w.o.set i x) w.p w.q):=
 ⟨{h.ww with l:=zv h.ww.l i hx.w},by show(w.o.set i x).length<=8;grind [l],h.s,h.q,h.g,h.e,Akx h.n i hx⟩
section
variable {K:Nat} (hK:281474976710656<=K)
include hK
theorem Bw1{c:Sx}(hc:Vs c){most:Int}(hm:0<most/\most<=1000):Wy (A0l K c most) AnyP:=by
 obtain⟨x,l,w,c',E,n,e,G,hE,hn,hwc,hx,_,_,w1⟩:=run_ok hK hc hm;have W:=G.ww (by omega) (by omega);have I:=G.inv;have hlen:=I.len;obtain⟨b1,b2,b3,b4,b5,b6⟩:=Gy I.conf;have P:=W4.1 I.pool;have h1:=lf w;have h2:=po w;have h3:=G.wt;have p1:=P.st;have p2:=P.own;have p3:=P.mem;have hmm:=Zj (a:=w.C.L) (b:=w.C.k) (m:=12) (n:=16) (by omega) b1.2 (by omega) b2.2;have hm0:0<w.C.L*w.C.k:=Int.mul_pos (by omega) (by omega);have N: ∀y∈w.o,SN 12 y:=pp fun k hk=>by
  have hb:=I.node k hk;have hy:=ia hb (G.ep k hk) (by omega);by_cases s:(gt w.o k).c=1
  ·have X:=Xf.1 ⟨hb,s⟩;have:=X.nth;have:=X.ntag;have:=Y4 X.conf X.dist;exact⟨hy,by omega,by omega,by omega⟩
  ·rw[ba hb s]at hy ⊢;exact⟨hy,by simp[We],by simp[We],by simp[We]⟩
 have A:AnyP w:=⟨W,by omega,by omega,by omega,by omega,(fun y hy=>by have:=(Y0.1 (I.wrec y hy).1).ntag;omega),fun y hy=>(N y hy).mono (by omega)⟩;unfold A0l xp;rw[e,Z0,Z0];refine V7 (Wk K w1 (by grind)) (fun k c2 hk w2=>V7 (Wk K w2 (by omega)) (fun d c3 hd w3=> ?_));dsimp only at hk ⊢;have hg:=Wq hk.1 hk.2;have S:=N _ hg;have SW':=S.w;have St:=S.t;have M:=S.mono (k:=80) (by omega);unfold Yn;refine W8 (fun _=>V7 (Bwo K w3) (fun y c4 hy w4=>Wc ⟨{W with c:=hy},A.l,A.s,A.q,A.g,A.e,A.n⟩ w4)) (fun _=> ?_);refine W8 (fun _=>V7 (Wk K w3 (by omega)) (fun y c4 hy w4=>V7 (Wk K w4 (by omega)) (fun z c5 hz w5=>W5 hy (Wc ⟨{W with p:={W.p with st:=⟨Akx W.p.st.1 _ (V1 (x:=z) (by omega) (by omega)),by grind⟩}},A.l,by grind,A.q,A.g,A.e,A.n⟩ w5)))) (fun _=> ?_);refine W8 (fun _=>V7 (Wk K w3 (by omega)) (fun y c4 hy w4=>W5 hy (Wc ⟨{W with p:={W.p with mem:=⟨Akx W.p.mem.1 _ ⟨by decide,by decide⟩,by grind⟩}},A.l,by grind,A.q,A.g,A.e,A.n⟩ w4))) (fun _=> ?_);refine W8 (fun _=>V7 (Bwv hK I.conf w3) (fun y c4 hy w4=>W5 hk (Wc (A.node _ (hy.mono (by omega))) w4))) (fun _=> ?_);refine W8 (fun _=>V7 (Wk K w3 (by omega)) (fun y c4 hy w4=>W5 hk (Wc (A.node _ ⟨{SW' with st:=V1 (x:=y) (by omega) (by omega)},M.c,M.t,M.g⟩) w4))) (fun _=> ?_);refine W8 (fun _=>V7 (Wk K w3 (by omega)) (fun y c4 hy w4=>W5 hk (Wc (A.node _ ⟨{SW' with up:=V1 (x:=y) (by omega) (by omega)},M.c,M.t,M.g⟩) w4))) (fun _=> ?_);refine W8 (fun _=>W5 hk (W5 hk (Wc (A.node _ ⟨{SW' with ep:=ic _},M.c,M.t,M.g⟩) w3))) (fun _=> ?_);refine W8 (fun _=>V7 (Bwz hK I.conf w3) (fun y c4 hy w4=>W5 ?_ (Wc ⟨{W with q:=Bw0 W.q (by omega) hy.w},A.l,A.s,by grind,A.g,(fun z hz=>(C5.1 hz).elim (A.e z) fun h=>by rw[Dt.1 h];exact Dn hy.g (by decide)),A.n⟩ w4))) (fun _=> ?_)
 ·grind [V2]
 refine W8 (fun _=>W8 (fun h=> ?_) (fun _=>Wc A w3)) (fun _=> ?_)
 ·rw[decide_eq_true_eq]at h;refine W5 ⟨by omega,by omega,by omega⟩ (Wc ⟨{W with q:=⟨fun y hy=>W.q.1 y (List.mem_of_mem_drop (Kk hy)),by grind⟩},A.l,A.s,by grind,A.g,(fun z hz=>A.e z (List.mem_of_mem_drop (Kk hz))),A.n⟩ w3)
 refine W8 (fun _=>Akv K w3 (by decide) (fun y c4 hy w4=>W5 rfl (W5 ?_ (Wc ⟨{W with log:=⟨fun z hz=> ?_,by grind⟩},A.l,A.s,A.q,by grind,A.e,A.n⟩ w4)))) (fun _=> ?_)
 ·grind [V2]
 ·rcases C5.1 hz with hz|hz
  ·exact W.log.1 z hz
  ·rw[Dt.1 hz];exact(by decide: ∀y∈([0,255,256,-1]:List Int),wfi y) _ hy
 refine W8 (fun _=>W5 hk (W5 hk (V7 (Wk K w3 (by omega)) (fun y c4 hy w4=>W5 (A3h (by omega) _) (W5 hk (Wc (A.node _ ((S.thing (by omega) (Ber _ _ _ (V1 (x:=y) (by omega) (by omega)) (V1 (by decide) (by decide)) Xe)).mono (by omega))) w4)))))) (fun _=> ?_);refine W8 (fun _=>V7 (Wk K w3 (by omega)) (fun y c4 hy w4=>W5 hk (Wc (A.node _ ⟨{SW' with next:=V1 (x:=y) (by omega) (by omega)},M.c,M.t,M.g⟩) w4))) (fun _=> ?_);refine W8 (fun _=>W8 (fun h=> ?_) (fun _=>Wc A w3)) (fun _=>Wc A w3);rw[decide_eq_true_eq]at h;refine V7 (Wk K w3 (by omega)) (fun y c4 hy w4=>W5 ⟨by omega,h⟩ (Wc ⟨{W with q:=⟨Akx W.q.1 _ {W.q.1 _ (Wq (i:=0) (by omega) h)with done:=V1 (x:=y) (by omega) (by omega)},by grind⟩},A.l,A.s,by grind,A.g,Akx A.e _ (show(gt w.p 0).j.length<=80 from A.e _ (Wq (i:=0) (by omega) h)),A.n⟩ w4))
end
theorem Bw2{w:H4}(h:dq w=true):Zr w.C w.Q:=by
 unfold dq at h;rw[Z4]at h;exact W4.1 h.1
section
variable {K:Nat} (hK:281474976710656<=K)
include hK
end
theorem uf{a b:Int}(h0: -1000000000<=a+b)(h1:a+b<=1000000000):A4 a b=a+b:=by grind [A4,Fp,Vr]
theorem sbG{a b:Int}(h0: -1000000000<=a - b)(h1:a - b<=1000000000):Ap a b=a - b:=by grind [Ap,Aly,Vr]
def Xu (c:Sv)(d:Int):Int:=if c.k<d+c.m then c.k else d+c.m
def dy (c:Sv)(p:Pc)(k d:Int):List Int:=Ya p.g (k*c.k+d).toNat (Xu c d - d).toNat
def dz (c:Sv)(p:Pc)(k d:Int):Pc×Bool:=
 bif Xi c p&&(Qi k 0 (c.L - 1)&&(gt p.c k==2&&Qi d 0 (c.k - 1)))then
  (if Xu c d<c.k then(Pc.mk (dy c p k d) p.c p.h,false)
   else bif Wa (((dy c p k d).drop (k*c.k).toNat).take c.k.toNat)then(Pc.mk (dy c p k d) (p.c.set k.toNat 0) p.h,true)else(p,false))
 else(p,false)
section
variable {K:Nat} (hK:281474976710656<=K)
include hK
theorem Bet (c:Sv){p:Pc}(hw:Yi p)(k d:Int):qx K c p k d=some (dz c p k d):=by
 unfold qx dz;rw[zq K hw,Z0,A5v hK,Z0];cases hp:Xi c p with
 |false=>rfl
 |true=>
 have hc:=(Zk hp).1;have P:=W4.1 hp;have b0:=Gy hc;rw[gg hK hc,Xh];simp only[cond_true,Z0,Z30];cases h1:Qi k 0 (c.L - 1)with
 |false=>rfl
 |true=>
 have hk:=Vz.1 h1;have hst:=P.st;rw[cond_true,if_pos (show 0<=k/\k<(p.c.length:Int) from⟨hk.1,by omega⟩)];cases h2:(gt p.c k==2)with
 |false=>grind
 |true=>
 simp only[bne,h2,Bool.not_true,cond_false,Z30];rw[Xh,zn hc];cases h3:Qi d 0 (c.k - 1)with
 |false=>rfl
 |true=>
 have hd:=Vz.1 h3;have hk2:k<c.L:=by omega
 obtain⟨e1,e2,e3,e4⟩:=jx hc P.mem hk.1 hk2;have hl:p.g.length<=192:=Ae2 P;have es:A4 d c.m=d+c.m:=uf (by omega) (by omega);have ht:d<=Xu c d/\Xu c d<=c.k:=by grind [Xu]
 have el:qv K (d+c.m) c.k=some (Xu c d):=by
  grind [qv,Xu]
 have ea:A4 (k*c.k) d=k*c.k+d:=uf (by omega) (by omega);have en:Ap (Xu c d) d=Xu c d - d:=sbG (by omega) (by omega);simp only[Z0,Bool.not_true,cond_false,cond_true];rw[es,el,e1,ea,Z0,en,Bdc hK (by omega) ⟨by omega,by omega⟩ (by omega) (by omega),Z0];show(bif decide (Xu c d<c.k)then _ else _)=_;by_cases q:Xu c d<c.k
 ·rw[decide_eq_true q,if_pos q];rfl
 ·rw[decide_eq_false q,if_neg q,cond_false,e2,if_pos ⟨by omega,by omega,by show _<=((Ya _ _ _).length:Int);rw[cm];omega⟩];have et:(k*c.k+c.k - k*c.k).toNat=c.k.toNat:=by omega
  rw[et];show(iy K ((List.drop (k*c.k).toNat (dy c p k d)).take c.k.toNat)).bind _=_;rw[zl hK _ (by grind),Z0];cases h4:Wa (((dy c p k d).drop (k*c.k).toNat).take c.k.toNat)with
  |false=>rfl
  |true=>simp only[Bool.not_true,cond_false,cond_true];rw[if_pos ⟨hk.1,by omega⟩];rfl
omit hK in
theorem Bw3 (mem:List Int){a n:Nat}(h:a+n<=mem.length):Ya mem a n=mem.take a++List.replicate n 0++mem.drop (a+n):=by
 apply List.ext_getElem?;intro j;unfold Ya;rw[As];rcases Bj j mem.length with hj|hj
 ·rw[List.getElem?_range hj,Du];rcases Bj j a with q|q
  ·rw[if_neg (by omega),Je,D5 (by grind),Jf,if_pos q,Gz hj,A3 hj]
  ·rcases Bj j (a+n)with r|r
   ·grind
   ·rw[if_neg (by omega),C4 (by grind),Mu,Gz hj]
    grind
 grind
omit hK in
theorem Bw4{mem:List Int}{a d n:Nat}:Wa (((Ya mem (a+d) (n - d)).drop a).take n)=Wa ((mem.drop a).take (min d n)):=by
 rw[Bool.eq_iff_iff,pq,pq,cm];constructor
 ·intro h j h1 h2 h3;have:=h j h1 (by omega) h3;rw[lj h3,if_neg (by omega)]at this;exact this
 grind [lj]
theorem Bw5 (c:Sv){p:Pc}(hw:Yi p)(k d:Int):A1v K c p k d=some (dz c p k d):=by
 unfold A1v dz;rw[A6j K hw,Z0,Bbm hK,Z0];cases hp:Xi c p with
 |false=>rfl
 |true=>
 have hc:=(Zk hp).1;have P:=W4.1 hp;have b0:=Gy hc;rw[gg hK hc,ak];simp only[cond_true,Z0,Z30];cases h1:Qi k 0 (c.L - 1)with
 |false=>rfl
 |true=>
 have hk:=Vz.1 h1;have hst:=P.st;rw[cond_true,if_pos (show 0<=k/\k<(p.c.length:Int) from⟨hk.1,by omega⟩)];cases h2:(gt p.c k==2)with
 |false=>grind
 |true=>
 simp only[bne,h2,Bool.not_true,cond_false,Z30];rw[ak,zn hc];cases h3:Qi d 0 (c.k - 1)with
 |false=>rfl
 |true=>
 have hd:=Vz.1 h3;have hk2:k<c.L:=by omega
 obtain⟨e1,e2,e3,e4⟩:=jx hc P.mem hk.1 hk2;have hl:p.g.length<=192:=Ae2 P;have es:A4 d c.m=d+c.m:=uf (by omega) (by omega);have ht:d<=Xu c d/\Xu c d<=c.k/\d<Xu c d:=by grind [Xu]
 have em:M6 (d+c.m) c.k=Xu c d:=by
  rfl
 have hj: ∀(v:Bool) (z:Pc),za K c k d p v z=some (Pc.mk (dy c p k d) (bif v then p.c.set k.toNat 0 else p.c) p.h,v):=by
  intro v z;unfold za A1u;rw[e1,e2,es,em,if_pos (by omega),if_pos (by omega),if_pos (by omega),if_pos ⟨hk.1,by omega⟩];have hm:p.g.take (k*c.k+d).toNat++List.replicate (k*c.k+Xu c d - (k*c.k+d)).toNat 0++p.g.drop ((k*c.k+d).toNat+(k*c.k+Xu c d - (k*c.k+d)).toNat)=dy c p k d:=by
   unfold dy;rw[show(k*c.k+Xu c d - (k*c.k+d)).toNat=(Xu c d - d).toNat by omega,Bw3 _ (by omega)]
  grind
 simp only[Z0,Bool.not_true,cond_false,cond_true,es];by_cases q:Xu c d<c.k
 ·have hq: ¬(d+c.m>=c.k):=by grind [Xu]
  grind
 ·have hq:d+c.m>=c.k:=by grind [Xu]
  have hto:Xu c d=c.k:=by omega
  rw[decide_eq_true hq,cond_true,A5u hK hc P.mem hk.1 (by omega),Z0,if_neg q];have hcl:(X8 c p.g k).length=c.k.toNat:=by grind [X8]
  rw[if_pos ⟨by omega,hd.1,by omega⟩,A2a hK _ (by grind),Z0];have hz:Wa ((List.drop (0:Int).toNat (X8 c p.g k)).take (d - 0).toNat)=Wa (((dy c p k d).drop (k*c.k).toNat).take c.k.toNat):=by
   have:=Bw4 (mem:=p.g) (a:=(k*c.k).toNat) (d:=d.toNat) (n:=c.k.toNat);unfold dy;rw[hto,show(k*c.k+d).toNat=(k*c.k).toNat+d.toNat by omega,show(c.k - d).toNat=c.k.toNat - d.toNat by omega,this];unfold X8
   grind
  grind
end
def ig (c:Sv)(x:G9)(b:Bool):G9:=bif b then G9.mk x.d x.i x.j (x.L.drop 1) 0 else G9.mk x.d x.i x.j x.L (A4 x.z c.m)
def ma (w:H4)(x:G9)(qs:List G9):H4:=
 H4.mk w.C (dz w.C w.Q (gt x.L 0) x.z).1 w.o (ig w.C x (dz w.C w.Q (gt x.L 0) x.z).2::qs) w.q
def qa (w:H4)(x:G9)(qs:List G9):H4:=
 if 0<x.j.length then bb w x qs else if 0<x.L.length then ma w x qs else if x.i=0 then Za w x qs else Xj w x qs
def Zh (w:H4):H4:=match w.p with
 |[]=>w
 |x::qs=>qa w x qs
def ND (s:Nat)(n:Fy):Prop:=(0<=n.u/\n.u<=(s:Int))/\(0<=n.i/\n.i<=(s:Int))/\(0<=n.a/\n.a<=1000)
structure qb (w:H4)(m:Nat):Prop where
 ww:Wp w
 conf:Vt w.C=true
 len:w.o.length<=1000
 nd: ∀n∈w.o,ND w.o.length n
 q: ∀x∈w.p,(0<=x.i/\x.i<=(w.o.length:Int))/\(0<=x.d/\x.d<=(w.o.length:Int))
 ql:w.p.length<=m
 ll:w.q.length<=m
theorem qb.mono{w:H4}{m n:Nat}(T:qb w m)(h:m<=n):qb w n:={T with ql:=Dn T.ql h,ll:=Dn T.ll h}
section
variable {K:Nat} (hK:281474976710656<=K)
include hK
omit hK in
theorem Bw6 (K:Nat){w:H4}{x:G9}{qs:List G9}(hq:w.p=x::qs)(h0:0<x.j.length)(h6:x.j.length<=17592186044415)(hl:w.q.length<=1000000000):qr K w=some (bb w x qs):=by
 have hm:=V2;unfold qr;rw[hq,ib];have e:Ap (x.j.length:Int) 1=((x.j.length - 1:Nat):Int):=by grind [Ap,Aly,Vr]
 rw[e,if_pos ⟨by omega,by simp⟩,if_pos (by omega),if_pos ⟨by grind,by grind⟩,if_pos (by omega),ow,Hd,if_pos ⟨by grind,by grind⟩];rfl
theorem Bw7{w:H4}{m:Nat}(hm:m<=1000000000)(T:qb w m){x:G9}{qs:List G9}(hq:w.p=x::qs)(hf:x.i≠0):re K w=some (Xj w x qs):=by
 have hmx:=V2;have hw:=T.ww;have hX:=T.q x (by grind);have hlen:=T.len;have hk:0<=x.i - 1/\x.i - 1<(w.o.length:Int):=⟨by omega,by omega⟩;have hn:=hw.l.1 _ (Wq hk.1 hk.2);have e1:Ap x.i 1=x.i - 1:=V9 (by omega);have e2:A4 (x.i - 1) 1=x.i:=by grind [Ye]
 have hnx:=(T.nd _ (Wq hk.1 hk.2)).1;have hlq:(w.p).length=qs.length+1:=by grind
 have hQ:=T.ql;have hj: ∀(l:List Fy) (q:List G9),l.length=w.o.length->q.length=w.p.length->mj K (gt w.o (x.i - 1)) (x.i - 1) w.C.L w.C.k w.C.l w.C.e w.C.m w.C.n w.Q.g w.Q.c w.Q.h l q w.q=some (H4.mk w.C (V8 w.Q (gt w.o (x.i - 1)).L) (l.set (x.i - 1).toNat (We 2 (gt w.o (x.i - 1)).a)) (Wn (gt w.o (x.i - 1)) x.i::q) w.q):=by
  intro l q hl1 hq1;have h8:=hn.tags.2;have h9:=hn.chunks.2;unfold mj;rw[Bdp hK (H4.mk w.C w.Q l q w.q) hw.p _ (Yb hK hn.chunks),Z0];unfold rb Am3;simp only[Z0,Hd,List.singleton_append,Z28];simp only[hl1,if_pos hk,e2,Z0]
  iterate 4 (try rw[if_pos (by omega)])
  try simp only[Z0]
  iterate 4 (try rw[if_pos (by omega)])
  rfl
 unfold re;rw[hq,ib,if_pos ⟨by omega,by simp⟩,e1];simp only[if_pos hk];rw[gq K hn,Z0,if_pos ⟨by omega,by simp⟩,ka,Z0];unfold Xj Yl;have hp:Wm w.o (gt w.o (x.i - 1)).u=decide (1<=(gt w.o (x.i - 1)).u/\(gt w.o (x.i - 1)).u<=(w.o.length:Int)):=by
  rw[Bool.eq_iff_iff,tp (by omega) (by omega),decide_eq_true_iff];omega
 rw[hp];by_cases q:1<=(gt w.o (x.i - 1)).u/\(gt w.o (x.i - 1)).u<=(w.o.length:Int)
 ·rw[decide_eq_true q];simp only[cond_true];rw[V9 (by omega),if_pos (by omega)];unfold Ax5;exact hj _ _ (by grind) (by grind)
 ·rw[decide_eq_false q];simp only[cond_false];exact hj _ _ rfl (by grind)
theorem Beu{w:H4}{m:Nat}(hm:m<=1000000000)(T:qb w m)(h0:0<w.p.length):mq K w=some (Zh w):=by
 have hmx:=V2;have W:=T.ww;have hQ:=T.ql;have hL:=T.ll;unfold Zh;cases hq:w.p with
 |nil=>grind
 |cons x qs=>
 have hxm:x∈w.p:=by grind
 have hX:=T.q x hxm;have hxw:=W.q.1 x hxm;have hx1:=hxw.tags.2;have hx2:=hxw.chunks.2;have hlen:=T.len;have hlq:(w.p).length=qs.length+1:=by grind
 show _=some (qa w x qs);unfold mq Al4 qa;rw[hq,ib,if_pos ⟨by omega,by simp⟩];by_cases c1:0<x.j.length
 ·rw[decide_eq_true (show(x.j.length:Int)>0 by omega),if_pos c1,Bw6 K hq c1 (by omega) (by omega)];rfl
 ·rw[decide_eq_false (show ¬(x.j.length:Int)>0 by omega),if_neg c1];by_cases c2:0<x.L.length
  ·rw[decide_eq_true (show(x.L.length:Int)>0 by omega),if_pos c2];simp only[cond_true,cond_false,Z0];rw[show((2:Int)==1)=false from rfl,show((2:Int)==2)=true from rfl];simp only[cond_true,cond_false];unfold vu;rw[hq,ib,if_pos ⟨by omega,by simp⟩,if_pos (by omega),Bet hK w.C W.p,Z0];unfold ma ig
   grind
  ·rw[decide_eq_false (show ¬(x.L.length:Int)>0 by omega),if_neg c2];by_cases c3:x.i=0
   ·rw[if_pos c3];have et:((x::qs).drop (1:Int).toNat).take (((x::qs).length:Int) - 1).toNat=qs:=by
     simp_all
    rw[c3];simp only[bne_self_eq_false,cond_false,Z0];rw[show((4:Int)==1)=false from rfl,show((4:Int)==2)=false from rfl,show((4:Int)==3)=false from rfl];simp only[cond_false];have hl1:(((x::qs).length:Nat):Int)=(qs.length:Int)+1:=by simp
    have hj: ∀l:List Fy,mo K w.C.L w.C.k w.C.l w.C.e w.C.m w.C.n w.Q.g w.Q.c w.Q.h l (x::qs) w.q=some (H4.mk w.C w.Q l qs w.q):=by
     intro l;unfold mo;rw[et,Hd,hl1,if_pos (show(0:Int)<=1/\(1:Int)<=(qs.length:Int)+1/\(qs.length:Int)+1<=(qs.length:Int)+1 from⟨by omega,by omega,by omega⟩),if_pos (show qs.length*72<=140737488355328/\qs.length<=maxLen from⟨by omega,by omega⟩)]
    rw[if_pos ⟨by omega,by simp⟩];unfold Za Wi;by_cases q:x.d=0
    ·grind
    ·have hk:0<=x.d - 1/\x.d - 1<(w.o.length:Int):=⟨by omega,by omega⟩;rw[Yg q,if_neg q,cond_true,if_pos ⟨by omega,by simp⟩,V9 (by omega),Bdq hK W.l hk (T.nd _ (Wq hk.1 hk.2)).2.2,Z0];exact hj _
   ·rw[Yg c3,if_neg c3];simp only[cond_true,cond_false,Z0];rw[show((3:Int)==1)=false from rfl,show((3:Int)==2)=false from rfl,show((3:Int)==3)=true from rfl];simp only[cond_true,cond_false]
    grind [Bw7]
theorem Bw8{l:List Fy}(hl:V0 l){k gens:Int}(hk:0<=k/\k<(l.length:Int))(hg:0<=(gt l k).a/\(gt l k).a<=1000):A1z K l k gens=some (l.set k.toNat (lq (gt l k) gens)):=by
 unfold A1z zd lq;rw[Bch hK hl,Z0,oz K (Ww hl),decide_eq_true hk];simp only[Z0,Bool.not_true,cond_false,if_pos hk];rw[Ye (by omega) (by omega)];by_cases q:gens<=(gt l k).a
 ·rw[decide_eq_true (show(gt l k).a>=gens from q),if_pos q];rfl
 ·rw[decide_eq_false (show ¬(gt l k).a>=gens from q),if_neg q];rfl
theorem Bev{w:H4}{m:Nat}(hm:m<=1000000000)(T:qb w m)(h0:0<w.p.length):zf K w=some (Zh w):=by
 have hmx:=V2;have W:=T.ww;have hQ:=T.ql;have hL:=T.ll;unfold Zh;cases hq:w.p with
 |nil=>grind
 |cons x qs=>
 have hxm:x∈w.p:=by grind
 have hX:=T.q x hxm;have hxw:=W.q.1 x hxm;have hx1:=hxw.tags.2;have hx2:=hxw.chunks.2;have hlen:=T.len;have hlq:(w.p).length=qs.length+1:=by grind
 show _=some (qa w x qs);unfold zf A5m qa;rw[hq,ib,if_pos ⟨by omega,by simp⟩];by_cases c1:0<x.j.length
 ·rw[decide_eq_true (show(x.j.length:Int)>0 by omega),if_pos c1];have e:Ap (x.j.length:Int) 1=((x.j.length - 1:Nat):Int):=by grind [Ap,Aly,Vr]
  simp only[cond_true,Z0,beq_self_eq_true];rw[e,if_pos (by omega),if_pos ⟨by grind,by grind⟩,if_pos (by omega)];rfl
 ·rw[decide_eq_false (show ¬(x.j.length:Int)>0 by omega),if_neg c1];by_cases c2:0<x.L.length
  ·rw[decide_eq_true (show(x.L.length:Int)>0 by omega),if_pos c2];simp only[cond_true,cond_false,Z0];rw[show((2:Int)==1)=false from rfl,show((2:Int)==2)=true from rfl];simp only[cond_true,cond_false];rw[if_pos (by omega),Bw5 hK w.C W.p,Z0];unfold ma ig
   grind
  ·rw[decide_eq_false (show ¬(x.L.length:Int)>0 by omega),if_neg c2];by_cases c3:x.i=0
   ·rw[if_pos c3,c3];simp only[bne_self_eq_false,cond_false,Z0];rw[show((4:Int)==1)=false from rfl,show((4:Int)==2)=false from rfl,show((4:Int)==3)=false from rfl];simp only[cond_false];unfold Za Wi;by_cases q:x.d=0
    ·grind
    ·have hk:0<=x.d - 1/\x.d - 1<(w.o.length:Int):=⟨by omega,by omega⟩;rw[decide_eq_true (show x.d>0 by omega),if_neg q,cond_true,V9 (by omega),Bw8 hK W.l hk (T.nd _ (Wq hk.1 hk.2)).2.2,Z0,if_pos (by simp)];rfl
   ·rw[Yg c3,if_neg c3];simp only[cond_true,cond_false,Z0];rw[show((3:Int)==1)=false from rfl,show((3:Int)==2)=false from rfl,show((3:Int)==3)=true from rfl];simp only[cond_true,cond_false];have hk:0<=x.i - 1/\x.i - 1<(w.o.length:Int):=⟨by omega,by omega⟩;have hn:=W.l.1 _ (Wq hk.1 hk.2);have N:=T.nd _ (Wq hk.1 hk.2);have hnx:=N.1;have e2:A4 (x.i - 1) 1=x.i:=by grind [Ye]
    have hj: ∀(l:List Fy) (q:List G9),l.length=w.o.length->q.length=w.p.length->ze K (x.i - 1) w.C.L w.C.k w.C.l w.C.e w.C.m w.C.n (V8 w.Q (gt w.o (x.i - 1)).L).g (V8 w.Q (gt w.o (x.i - 1)).L).c (V8 w.Q (gt w.o (x.i - 1)).L).h l q w.q (gt w.o (x.i - 1)).c (gt w.o (x.i - 1)).a (gt w.o (x.i - 1)).f (gt w.o (x.i - 1)).s (gt w.o (x.i - 1)).t (gt w.o (x.i - 1)).i (gt w.o (x.i - 1)).u (gt w.o (x.i - 1)).v (gt w.o (x.i - 1)).L (gt w.o (x.i - 1)).w (gt w.o (x.i - 1)).x (gt w.o (x.i - 1)).y (gt w.o (x.i - 1)).j=some (H4.mk w.C (V8 w.Q (gt w.o (x.i - 1)).L) (l.set (x.i - 1).toNat (We 2 (gt w.o (x.i - 1)).a)) (Wn (gt w.o (x.i - 1)) x.i::q) w.q):=by
     intro l q hl1 hq1;unfold ze A5o;rw[Z0,hl1,if_pos hk,e2];rw[show Fy.mk (gt w.o (x.i - 1)).c (gt w.o (x.i - 1)).a (gt w.o (x.i - 1)).f (gt w.o (x.i - 1)).s (gt w.o (x.i - 1)).t (gt w.o (x.i - 1)).i (gt w.o (x.i - 1)).u (gt w.o (x.i - 1)).v (gt w.o (x.i - 1)).L (gt w.o (x.i - 1)).w (gt w.o (x.i - 1)).x (gt w.o (x.i - 1)).y (gt w.o (x.i - 1)).j=gt w.o (x.i - 1) from rfl,Bsy K hn,Z0,if_pos (by omega)];rfl
    rw[V9 (x:=x.i) (by omega),if_pos hk,show(x::qs).set (0:Int).toNat (G9.mk x.d (gt w.o (x.i - 1)).u x.j x.L x.z)=Zz w.o x::qs from rfl,Bs1 hK (H4.mk w.C w.Q w.o (Zz w.o x::qs) w.q) W.p hk (Yb hK hn.chunks),Z0];dsimp only;rw[oz K (Ww W.l),Z0,V9 (by omega)];unfold Xj Yl;have hp:Wm w.o (gt w.o (x.i - 1)).u=decide (0<=(gt w.o (x.i - 1)).u - 1/\(gt w.o (x.i - 1)).u - 1<(w.o.length:Int)):=by
     grind [Wm,tn]
    rw[hp];by_cases q:0<=(gt w.o (x.i - 1)).u - 1/\(gt w.o (x.i - 1)).u - 1<(w.o.length:Int)
    ·rw[decide_eq_true q];simp only[cond_true];rw[if_pos q];unfold Ax5;exact hj _ _ (by grind) (by grind)
    grind
end
theorem Bew{w:H4}{m:Nat}(hw:Wp w)(hB:dq w=true)(hq:w.p.length<=m)(hl:w.q.length<=m):qb w m:=by
 have P:=Bw2 hB;have b0:=Gy P.conf;unfold dq at hB;simp only[Z4,Z1,List.mem_range,beq_iff_eq]at hB;obtain⟨_,hlen,hs,_,⟨hw1,_⟩,_⟩:=hB;refine⟨hw,P.conf,by omega,pp fun k hk=> ?_,fun x hx=> ?_,hq,hl⟩
 ·have S:=hs k.toNat (by omega);unfold gh at S;rw[show((k.toNat:Nat):Int)=k by omega,Z4]at S;obtain⟨l1,l2,l3,l4⟩:=A20 S.1;have g:=(lc S.1).2.2;exact⟨by omega,by omega,by omega⟩
 ·have X:=hw1 x hx;unfold X3 at X;rw[Z4]at X;have R:=Y0.1 X.1;have:=R.slot;have:=R.first;omega
theorem Bw9{α:Type}[Inhabited α](l:List α)(f:α->Nat):((List.range l.length).map fun i:Nat=>f (gt l (i:Int))).sum=(l.map f).sum:=by
 grind [List.ext_getElem,List.length_map,Gz]
section
variable {K:Nat} (hK:281474976710656<=K)
include hK
end
theorem Bex{l o:List Int}(h1:l.Nodup)(h2:o.Nodup)(h: ∀x,x∈l ↔ x∈o):l.length=o.length:=
 Nat.le_antisymm (gm h1 fun x hx=>(h x).1 hx) (gm h2 fun x hx=>(h x).2 hx)
theorem Bey (N:Nat)(p:Nat->Bool):(((List.range N).filter p).map (fun k:Nat=>(k:Int))).Nodup:=by
 refine(List.Pairwise.map (R:=fun a b=>a≠b) _ (fun a b h e=>h (by omega)) (List.Pairwise.filter p List.nodup_range))
theorem Bxa (l:List Nat)(f:Nat->Int)(h: ∀x∈l,0<=f x/\f x<=2):(l.filter (fun x=>f x==0)).length+(l.filter (fun x=>f x==1)).length+(l.filter (fun x=>f x==2)).length=l.length:=by
 induction l with
 |nil=>rfl
 |cons x l ih=>
  have:=ih fun y hy=>h y (Pv _ hy)
  grind
def mb (p:Pc)(s:Int):Nat:=((List.range p.c.length).filter (fun k:Nat=>gt p.c k==s)).length
def chF (w:H4):List Int:=(List.range w.o.length).flatMap fun k:Nat=>(gt w.o (k:Int)).L
theorem Bxb (w:H4):(chF w).length=(w.o.map fun n=>n.L.length).sum:=by
 unfold chF;rw[List.length_flatMap,<-Bw9 w.o (fun n=>n.L.length)]
theorem Bxc (q:List G9):(Vw q).length=(q.map fun x=>x.L.length).sum:=by
 simp_all[Vw]
theorem Bxd{w:H4}(I:Bd w):(w.o.map fun n=>n.L.length).sum+(w.p.map fun x=>x.L.length).sum+mb w.Q 0=w.Q.c.length:=by
 obtain⟨hc,_,hst,hown,hone⟩:=Zk I.pool;have b0:=Gy hc;have hlen:=I.len;have n2:(Vw w.p).length=mb w.Q 2:=by
  unfold mb;rw[<-Bi (f:=fun k:Nat=>(k:Int))];refine Bex I.chn (Bey _ _) fun x=> ?_;rw[I.chi x,av]
  grind
 have n1:(chF w).length=mb w.Q 1:=by
  unfold mb;rw[<-Bi (f:=fun k:Nat=>(k:Int))];refine Bex ?_ (Bey _ _) fun x=> ?_
  ·unfold chF;refine List.pairwise_flatMap.2 ⟨fun k hk=> ?_,?_⟩
   ·rw[List.mem_range]at hk;exact pc (A6y (I.node k ⟨by omega,by omega⟩))
   ·refine List.Pairwise.imp_of_mem ?_ (List.nodup_range (n:=w.o.length));intro i j hi hj hij x hx y hy e;rw[List.mem_range]at hi hj;have h1:=(I.own i ⟨by omega,by omega⟩ x).1 hx;have h2:=(I.own j ⟨by omega,by omega⟩ y).1 hy
    grind
  ·rw[av];unfold chF;rw[List.mem_flatMap];constructor
   ·rintro⟨k,hk,hx⟩;rw[List.mem_range]at hk
    have h1:=(I.own k ⟨by omega,by omega⟩ x).1 hx
    grind
   ·rintro⟨h,e⟩;rw[show((x.toNat:Nat):Int)=x by omega,beq_iff_eq]at e
    have P:=W4.1 I.pool;have ho:=(P.one x ⟨h.1,by omega⟩).2.1 e;refine⟨(gt w.Q.h x).toNat,by grind,?_⟩;rw[show(((gt w.Q.h x).toNat:Nat):Int)=gt w.Q.h x by omega];simp_all[Bd.own]
 have n3:mb w.Q 0+mb w.Q 1+mb w.Q 2=w.Q.c.length:=by
  have P:=W4.1 I.pool;have:=Bxa (List.range w.Q.c.length) (fun k:Nat=>gt w.Q.c k) (fun k hk=>by rw[List.mem_range]at hk;exact(P.one k ⟨by omega,by omega⟩).1);rw[List.length_range]at this;exact this
 grind [Bxb,Bxc]
section
variable {K:Nat} (hK:281474976710656<=K)
include hK
theorem Bez{a:List Int}(hb:ae a)(ha:a.length<=1048576){most:Int}(hm:0<most/\most<=1000): ∃w c,yb K a most=some (c,w)/\AnyP w/\Vs c:=by
 obtain⟨c,e1,w1⟩:=Bef hK hb ha;obtain⟨w,c2,e2,A,w2⟩:=Bw1 hK w1 hm
 grind [yb]
end
theorem Bxe{w:H4}{E:Int}{n:Nat}(G:Ch w E n):pot w<=192+8*cnt w:=by
 have I:=G.inv;have b0:=Gy I.conf;have hc:=Bxd I;have P:=W4.1 I.pool;have hst:=P.st;have hS:w.C.k.toNat<=16:=by omega
 have key: ∀ {α:Type} (l:List α) (f g h:α->Nat),(∀x∈l,f x<=8*g x+16*h x)->(l.map f).sum<=8*(l.map g).sum+16*(l.map h).sum:=by
  intro α l f g h hl;induction l with
  |nil=>simp
  |cons x l ih=>
   grind
 have k1:=key w.o (Wj w.C) Wv (fun n=>n.L.length) (pp fun k hk=>by
  unfold Wj Wv;by_cases s:(gt w.o k).c=1
  ·have L:=Xf.1 ⟨I.node k hk,s⟩;have h6:=L.ntag;rw[if_pos s,if_pos s];have:=Bx (gt w.o k).L.length hS;omega
  grind)
 have k2:=key w.p (Xm w.C) (fun _=>1) (fun x=>x.L.length) (fun x hx=>by
  have R:=Y0.1 (I.wrec x hx).1;have h6:=R.ntag;unfold Xm;have:=Bx x.L.length hS;omega)
 have e: ∀l:List G9,(l.map fun _=>1).sum=l.length:=fun l=>by induction l with
  |nil=>rfl
  |cons x l ih=>grind
 grind [pot,cnt]
section
variable {K:Nat} (hK:281474976710656<=K)
include hK
theorem Bxf{E:Int}{n:Nat}(hE:0<=E/\E<=1000000000)(hn:n<=1000000)(P:H4->Int->Prop)(hP: ∀w i,Ch w E n->0<w.p.length->P w i->P (Zh w) (i+1)):
  ∀(f:Nat) (i:Nat) (w:H4),Ch w E n->P w i->pot w+i<=4000->4000 - i<f-> ∃r w',zg K 4000 f (i:Int) w.C.L w.C.k w.C.l w.C.e w.C.m w.C.n w.Q.g w.Q.c w.Q.h w.o w.p w.q=some (r,w')/\Ch w' E n/\P w' r/\w'.p=[]/\(0<=r/\r<=4000):=by
 intro f;induction f with
 |zero=>omega
 |succ f ih=>
  intro i w G hp hi hf;have W:=G.ww (by omega) (by omega);have hq:=lf w;have hl:=po w;have hwt:=G.wt;have hpos:w.p≠[]->1<=pot w:=fun h=>by
   have:=Bc9 (Xm w.C) w.p fun x _=>by grind [Xm]
   have h2:=List.length_pos_iff.2 h
   grind [pot]
  rw[zg];by_cases h:w.p=[]
  ·refine⟨i,w,?_,G,hp,h,by omega⟩;rw[h];cases decide ((i:Int)<4000)with
   |true=>rw[cond_true,decide_eq_false (by simp),cond_false,<-h]
   |false=>rw[cond_false,<-h]
  ·have h1:=hpos h;have h2:=List.length_pos_iff.2 h;have T:=Bew (m:=n) W G.inv.ok (by omega) (by omega);obtain⟨w',e6,S⟩:=A26 hK G hE (by omega) h2;have ew:w'=Zh w:=by
    rw[Beu hK (by omega) T h2]at e6
    grind
   subst ew;have hpt:=S.pot;obtain⟨r,w2,e,g⟩:=ih (i+1) (Zh w) (S.good G) (by grind) (by omega) (by omega);refine⟨r,w2,?_,g⟩;rw[decide_eq_true (show(i:Int)<4000 by omega),cond_true,decide_eq_true (show(w.p.length:Int)>0 by omega),cond_true];unfold A5l;rw[Z0,cond_true,show H4.mk (Sv.mk w.C.L w.C.k w.C.l w.C.e w.C.m w.C.n) (Pc.mk w.Q.g w.Q.c w.Q.h) w.o w.p w.q=w from rfl,Bev hK (by omega) T h2,Z0,K1 (by omega)];exact e
theorem Bxg{E:Int}{n:Nat}(hE:0<=E/\E<=400)(hn:n<=1000000)(P:H4->Int->Prop)(hP: ∀w i,Ch w E n->0<w.p.length->P w i->P (Zh w) (i+1)){w:H4}(G:Ch w E n)(h0:P w 0): ∃r w',A10 K w 4000=some (w',r)/\Ch w' E n/\P w' r/\w'.p=[]/\(0<=r/\r<=4000):=by
 have W:=G.ww (by omega) (by omega);have hp:=Bxe G;have hc:=G.cn;obtain⟨r,w',e,g⟩:=Bxf hK (by omega) hn P hP K 0 w G h0 (by omega) (by omega);refine⟨r,w',?_,g⟩;unfold A10 A5p;rw[Bci hK W,Z0,Bcg hK w W,G.inv.ok,Z0,cond_true,ak,Z0,show Qi 4000 0 4000=true from rfl,Bool.not_true,cond_false,show(0:Int)=((0:Nat):Int) from rfl,e];rfl
theorem Bxh{E:Int}{n:Nat}(hE:0<=E/\E<=400)(hn:n<=1000000)(P:H4->Int->Prop)(hP: ∀w i,Ch w E n->0<w.p.length->P w i->P (Zh w) (i+1)){w:H4}(G:Ch w E n)(h0:P w 0): ∃r w',A11 K w=some w'/\Ch w' E n/\P w' r/\w'.p=[]/\(0<=r/\r<=4000):=by
 obtain⟨r,w',e,g⟩:=Bxg hK hE hn P hP G h0
 grind [A11]
end
theorem A3k{a b:Int}(ha:0<=a/\a<=1000)(hb:1<=b/\b<=1000):Wb a b=(a+b - 1) / b:=by
 unfold Wb;rw[Vz.2 ⟨by omega,by omega⟩,Vz.2 ⟨by omega,by omega⟩];rfl
theorem Be0{a b:Int}(ha:0<=a/\a<=1000)(hb:1<=b/\b<=1000):0<=Wb a b/\Wb a b<=2000:=by
 rw[A3k ha hb];refine⟨Int.ediv_nonneg (by omega) (by omega),?_⟩;have:=Int.ediv_le_self b (show 0<=a+b - 1 by omega);omega
def ii (c:Sv)(x:G9):Int:=(x.j.length:Int)+1+(if x.L.length=0 then 0 else Wb (c.k - x.z) c.m+((x.L.length:Int) - 1)*Wb c.k c.m)
theorem Bxi (c:Sv)(x:G9)(hc:Vt c=true)(hd:0<=x.z/\x.z<=c.k): ∀(m:Nat) (v:Int),m<=12->0<=v/\v<=1000->
  (List.range m).foldl (tb c x) v=v+(if m=0 then 0 else Wb (c.k - x.z) c.m+((m:Int) - 1)*Wb c.k c.m)/\(List.range m).foldl (tb c x) v<=1000+2000*m/\0<=(List.range m).foldl (tb c x) v:=by
 have b0:=Gy hc;have h1:=Be0 (a:=c.k - x.z) (b:=c.m) (by omega) (by omega);have h2:=Be0 (a:=c.k) (b:=c.m) (by omega) (by omega);intro m v;induction m with
 |zero=>grind
 |succ m ih=>
  intro hm hv;obtain⟨e,e2,e3⟩:=ih (by omega) hv;rw[List.range_succ,List.foldl_append,List.foldl_cons,List.foldl_nil];generalize (List.range m).foldl (tb c x) v=s at *;unfold tb;by_cases h0:m=0
  ·subst h0;rw[show(((0:Nat):Int)==0)=true from rfl,cond_true,show Ap c.k x.z=c.k - x.z from sbG (by omega) (by omega),uf (by omega) (by omega),e];omega
  ·rw[show(((m:Nat):Int)==0)=false from Wg (by omega),cond_false,uf (by omega) (by omega)]
   grind
theorem A7z{c:Sv}{x:G9}(hc:Vt c=true)(ht:x.j.length<=6)(hl:x.L.length<=12)(hd:0<=x.z/\x.z<=c.k):ay c x=ii c x:=by
 unfold ay ii;rw[Ye (by omega) (by omega)];exact(Bxi c x hc hd x.L.length _ hl ⟨by omega,by omega⟩).1
structure bf (w w':H4)(kp:Int->Prop):Prop where
 conf:w'.C=w.C
 len:w'.o.length=w.o.length
 kid: ∀x,kp x->Vu w' x=Vu w x
 cl: ∀x y,kp x->y∈Vu w x->kp y
 node: ∀x,kp x-> ∃a b c,gt w'.o x=Y8 (gt w.o x) a b c
theorem bf.sub{w w':H4}{kp:Int->Prop}(H:bf w w' kp): ∀(n:Nat) (x:Int),kp x->Wo w' n x=Wo w n x/\ ∀y∈Wo w n x,kp y:=by
 intro n;induction n with
 |zero=>intro x _;exact⟨rfl,fun y h=>by cases h⟩
 |succ n ih=>
  intro x hx;refine⟨?_,fun y hy=> ?_⟩
  ·show x::(Vu w' x).flatMap (Wo w' n)=x::(Vu w x).flatMap (Wo w n);rw[H.kid x hx];congr 1;exact Yx fun c hc=>(ih c (H.cl x c hx hc)).1
  ·have hy:y∈x::(Vu w x).flatMap (Wo w n):=hy;rcases Ax.1 hy with rfl|hy
   ·exact hx
   ·obtain⟨c,hc,hy⟩:=List.mem_flatMap.1 hy;exact(ih c (H.cl x c hx hc)).2 y hy
theorem A70{w w':H4}{kp:Int->Prop}(H:bf w w' kp){x:Int}(hx:kp x):Zf w' x=Zf w x:=by
 obtain⟨h1,h2⟩:=H.sub w.o.length x hx;unfold Zf bd;rw[H.len,h1];congr 1;refine Bf fun y hy=> ?_;obtain⟨a,b,c,e⟩:=H.node y (h2 y hy);unfold kq;rw[H.conf,e];rfl
theorem A71{w w':H4}{kp:Int->Prop}(H:bf w w' kp){x:Int}(hx:kp x):Zg w' x=Zg w x:=by
 obtain⟨h1,h2⟩:=H.sub w.o.length x hx;unfold Zg;rw[H.len,h1];refine Yx fun y hy=> ?_;obtain⟨a,b,c,e⟩:=H.node y (h2 y hy);unfold Vx;rw[e];rfl
theorem bf.entry{w w':H4}{kp:Int->Prop}(H:bf w w' kp){f:Int}(hf:Gx w'.o f=Gx w.o f)(hk: ∀y∈Gx w.o f,kp y):((Gx w'.o f).map (Zf w'))=(Gx w.o f).map (Zf w)/\(Gx w'.o f).flatMap (Zg w')=(Gx w.o f).flatMap (Zg w):=by
 grind [List.map_congr_left,A70,A71]
theorem Bxj{w:H4}{t:Int->Lk}(I:Bd w)(A:V6 w.o t)(F:V4 w.o.length t (Wh w.p)){k:Int}(hk:Lv w.o.length t k):Zf w k=1+kq w k+((Vu w k).map (Zf w)).sum/\Zg w k=Vx w k++(Vu w k).flatMap (Zg w):=by
 constructor
 ·have e:Zf w k=bd w (Wo w (w.o.length+1) k):=by grind [Zf,A7y]
  rw[e];show bd w (k::(Vu w k).flatMap (Wo w w.o.length))=_;rw[Bwd];congr 1;have: ∀l:List Int,bd w (l.flatMap (Wo w w.o.length))=(l.map (Zf w)).sum:=by
   intro l;induction l with
   |nil=>rfl
   |cons a l ih=>rw[List.flatMap_cons,Bwc,ih,Z8,List.sum_cons];rfl
  grind
 ·have e:Zg w k=(Wo w (w.o.length+1) k).flatMap (Vx w):=by grind [Zg,A7y]
  rw[e];show(k::(Vu w k).flatMap (Wo w w.o.length)).flatMap (Vx w)=_;rw[List.flatMap_cons,Bwk];rfl
theorem Be1{w w':H4}(hc:w'.C=w.C)(hl:w'.o=w.o):bf w w' (fun _=>True):=
 ⟨hc,by rw[hl],fun x _=>by grind [Vu],fun _ _ _ _=>trivial,fun x _=>by rw[hl];exact⟨_,_,_,(Ae4 _).symm⟩⟩
theorem A3l{w w':H4}{kp:Int->Prop}(H:bf w w' kp)(l:List G9)(h: ∀e∈l,Gx w'.o e.i=Gx w.o e.i/\ ∀y∈Gx w.o e.i,kp y):(l.map (cz w')).sum=(l.map (cz w)).sum/\l.flatMap (af w')=l.flatMap (af w):=by
 refine⟨congrArg List.sum (Bf fun e he=> ?_),Yx fun e he=> ?_⟩
 ·unfold cz;rw[(H.entry (h e he).1 (h e he).2).1,H.conf]
 ·unfold af;rw[(H.entry (h e he).1 (h e he).2).2]
def ug (w w':H4):Prop:=uc w'+1=uc w/\w'.q++Ym w'=w.q++Ym w
theorem Akz{c:Sv}{x:G9}(R:pr c x):ay c x=ii c x:=by
 have hl:=Y4 R.conf R.dist;have:=R.done;exact A7z R.conf R.ntag (by omega) ⟨this.1,by omega⟩
theorem Bxk{w:H4}(I:Bd w){x:G9}{qs:List G9}(hq:w.p=x::qs)(h0:0<x.j.length):ug w (bb w x qs):=by
 have R:=Y0.1 (co I hq).1;have R':pr w.C (Ze x):=Y0.1 (co (Bdd I hq h0) rfl).1;have H:bf w (bb w x qs) (fun _=>True):=Be1 rfl rfl;obtain⟨s1,s2⟩:=A3l H qs fun e _=>⟨rfl,fun _ _=>trivial⟩;obtain⟨h1,h2⟩:=H.entry (f:=x.i) rfl fun _ _=>trivial
 have hl:(Ze x).j.length+1=x.j.length:=by show(x.j.take _).length+1=_;grind
 have hn:ii w.C (Ze x)+1=ii w.C x:=by
  unfold ii;rw[show(Ze x).L=x.L from rfl,show(Ze x).z=x.z from rfl];omega
 constructor
 ·unfold uc;rw[hq];show((Ze x::qs).map (cz (bb w x qs))).sum+1=_;simp only[Z8,List.sum_cons];rw[s1];unfold cz;rw[show(Ze x).i=x.i from rfl,h1,show(bb w x qs).C=w.C from rfl,Akz R,Akz R'];omega
 ·unfold Ym;rw[hq];show(w.q++[_])++(Ze x::qs).flatMap (af (bb w x qs))=_;rw[List.flatMap_cons,List.flatMap_cons,s2];unfold af;rw[show(Ze x).i=x.i from rfl,h2];have:x.j.reverse=gt x.j ((x.j.length - 1:Nat):Int)::(Ze x).j.reverse:=by
   have e:=List.take_append_getElem (l:=x.j) (i:=x.j.length - 1) (by omega);rw[show x.j.length - 1+1=x.j.length by omega,List.take_length]at e;rw[Gz (by omega)]
   conv=>lhs;rw[<-e]
   rw[List.reverse_append];rfl
  grind
theorem Bxl{K:Nat}(hK:281474976710656<=K){w:H4}(I:Bd w)(hw:Yi w.Q){x:G9}{qs:List G9}(hq:w.p=x::qs)(hc:0<x.L.length)(h0:x.j=[]):ug w (ma w x qs):=by
 have R:=Y0.1 (co I hq).1;have X:=A24 I hq hc;have b0:=Gy R.conf;have hl12:=Y4 R.conf R.dist;have hd:=R.done;have ht:=X.to;have H:bf w (ma w x qs) (fun _=>True):=Be1 rfl rfl;obtain⟨s1,s2⟩:=A3l H qs fun e _=>⟨rfl,fun _ _=>trivial⟩;obtain⟨h1,h2⟩:=H.entry (f:=x.i) rfl fun _ _=>trivial
 have e:=Bet hK w.C hw (gt x.L 0) x.z;rw[Bdf hK hw I.pool X]at e;have e2:(dz w.C w.Q (gt x.L 0) x.z).2= !decide (Xg w x<w.C.k):=by grind
 have key: ∀y:G9,y=ig w.C x (dz w.C w.Q (gt x.L 0) x.z).2->ay w.C y+1=ay w.C x/\y.j=x.j/\y.i=x.i:=by
  intro y hy;rw[e2]at hy;by_cases q:Xg w x<w.C.k
  ·rw[decide_eq_true q]at hy;subst hy;have hs:x.z+w.C.m<w.C.k:=by grind [Xg]
   refine⟨?_,rfl,rfl⟩;have e3:ig w.C x (!true)=G9.mk x.d x.i x.j x.L (x.z+w.C.m):=by
    unfold ig;rw[Bool.not_true,cond_false,uf (by omega) (by omega)]
   rw[e3,Akz R,A7z R.conf (by grind) (by omega) ⟨by grind,by grind⟩];unfold ii;show(x.j.length:Int)+1+(if x.L.length=0 then 0 else Wb (w.C.k - (x.z+w.C.m)) w.C.m+((x.L.length:Int) - 1)*Wb w.C.k w.C.m)+1=_;rw[if_neg (by omega),if_neg (by omega),A3k (by omega) (by omega),A3k (a:=w.C.k - x.z) (by omega) (by omega)];have:=Int.add_mul_ediv_right (w.C.k - (x.z+w.C.m)+w.C.m - 1) 1 (show w.C.m≠0 by omega)
   grind
  ·rw[decide_eq_false q]at hy;subst hy;have hs:w.C.k<=x.z+w.C.m:=by grind [Xg]
   refine⟨?_,rfl,rfl⟩;rw[show ig w.C x (!false)=G9.mk x.d x.i x.j (x.L.drop 1) 0 from rfl,Akz R,A7z R.conf (by grind) (by grind) ⟨Int.le_refl 0,by grind⟩];unfold ii;show(x.j.length:Int)+1+(if(x.L.drop 1).length=0 then 0 else Wb (w.C.k - 0) w.C.m+(((x.L.drop 1).length:Int) - 1)*Wb w.C.k w.C.m)+1=_;have c1:Wb (w.C.k - x.z) w.C.m=1:=by
    rw[A3k (by omega) (by omega)];have h1:=Int.ediv_lt_of_lt_mul (a:=w.C.k - x.z+w.C.m - 1) (b:=2) (c:=w.C.m) (by omega) (by omega);have h2:=(Int.le_ediv_iff_mul_le (a:=1) (b:=w.C.k - x.z+w.C.m - 1) (c:=w.C.m) (by omega)).2 (by omega);omega
   grind
 obtain⟨k1,k2,k3⟩:=key _ rfl;constructor
 ·unfold uc;rw[hq];show((ig w.C x (dz w.C w.Q (gt x.L 0) x.z).2::qs).map (cz (ma w x qs))).sum+1=_;simp only[Z8,List.sum_cons];rw[s1];unfold cz;rw[k3,h1,show(ma w x qs).C=w.C from rfl];omega
 ·unfold Ym;rw[hq];show w.q++(ig w.C x (dz w.C w.Q (gt x.L 0) x.z).2::qs).flatMap (af (ma w x qs))=_
  grind [af]
theorem Ak0{w:H4}{t:Int->Lk}(I:Bd w)(A:V6 w.o t)(F:V4 w.o.length t (Wh w.p)){e:G9}(he:e∈w.p):Gx w.o e.i=kf w.o.length t e.i/\ ∀y∈Gx w.o e.i,Oo w.o.length t y:=by
 have hf:=I.first he;have h:=la A I.rg (f:=e.i) hf.1 (by omega);rw[h];exact⟨rfl,fun y hy=>F.kid.or (Bd.qs he) hy⟩
theorem Bxm{w:H4}(I:Bd w){x:G9}{qs:List G9}(hq:w.p=x::qs)(h0:x.j=[])(hf:x.i≠0):ug w (Xj w x qs):=by
 obtain⟨t,A,F⟩:=I.forest;have X:=Ae3 I A F hq hf;obtain⟨hg,hb⟩:=Bdm I A F hq hf;have I':=Bdj I hq hf;have hk:=X.lv.1;have hN:=A7b w.o (x.i - 1);have A':V6 (Yl w.o (x.i - 1)) (rem t (x.i - 1)):=A7a A hk hN hg hb;obtain⟨r,W⟩:=F.wf;have R:=X.rc;have hF:=R.first;have e1:x.i - 1+1=x.i:=by omega
 have hxq:x∈w.p:=by grind
 have Kd:dt w.o.length t ((x.i - 1+1)::(Wh qs).map (·.2)):=by
  have:=F.kid;rw[hq]at this;rw[e1];exact this
 obtain⟨hold,_⟩:=Bcx F.tree W X.lv Kd;have hg1:=I.rg.rg _ hk;have hlen:=I.rg.len;have hpv:(t (x.i - 1)).pv=0:=by rw[A _ hk];exact X.pv
 have kdx: ∀y,Lv w.o.length t y->Vu w y=kf w.o.length t (t y).fi:=fun y hy=>Aku I A hy.1
 have kid_no: ∀y z,Lv w.o.length t y->z∈kf w.o.length t (t y).fi->Lv w.o.length t z/\z≠x.i - 1:=fun y z hy hz=>by
  obtain⟨a,_,c⟩:=(Y6 F.tree W hy z).1 hz;exact⟨a,fun e=>X.or.2.2 (e ▸ c)⟩
 have fi_same: ∀y,Lv w.o.length t y->y≠x.i - 1->(rem t (x.i - 1) y).fi=(t y).fi:=fun y hy hne=>by
  rw[V3 hne];show(if(t (x.i - 1)).pv=0/\y+1=(t (x.i - 1)).up/\(t y).fi=x.i - 1+1 then _ else _)=_;rw[if_neg];rintro⟨_,a,b⟩;refine X.nf y hy.1 ⟨?_,?_⟩
  ·rw[a,A _ hk];rfl
  ·rw[<-b,A _ hy.1];rfl
 have kf_same: ∀f,(∀z∈kf w.o.length t f,z≠x.i - 1)->kf w.o.length (rem t (x.i - 1)) f=kf w.o.length t f:=fun f h=>A2v fun z hz=>⟨h z hz,by have:=tf hz;omega⟩
 have H:bf w (Xj w x qs) (fun y=>Lv w.o.length t y/\y≠x.i - 1):=by
  refine⟨rfl,hN,fun y ⟨hy,hne⟩=> ?_,fun y z ⟨hy,hne⟩ hz=> ?_,fun y ⟨hy,hne⟩=>⟨_,_,_,hg y hy.1 hne⟩⟩
  ·have:Vu (Xj w x qs) y=kd w.o.length (rem t (x.i - 1)) y:=by
    have:=Aku (w:=Xj w x qs) I' A' (k:=y) (by show 0<=y/\y<((Yl _ _).length:Int);rw[hN];exact hy.1);simp_all[Xj]
   rw[this,kdx y hy];unfold kd
   grind
  grind
 have tab': ∀f,0<=f->f<=1000->Gx (Xj w x qs).o f=kf w.o.length (rem t (x.i - 1)) f:=fun f h1 h2=>by
  have:=la A' I'.rg (f:=f) h1 h2;rw[hN]at this;exact this
 have hold2: ∀e∈qs,Gx (Xj w x qs).o e.i=Gx w.o e.i/\ ∀y∈Gx w.o e.i,Lv w.o.length t y/\y≠x.i - 1:=fun e he=>by
  have heq:e∈w.p:=by grind
  have hfe:=I.first heq;obtain⟨k1,k2⟩:=Ak0 I A F heq;have hm:e.i∈(t (x.i - 1)).nx::(Wh qs).map (·.2):=Pv _ (by unfold Wh;grind);refine⟨by grind,fun y hy=>⟨(k2 y hy).1,fun e2=> ?_⟩⟩;have hnd:=Kd.nodup;rw[List.flatMap_cons,tj F.tree W X.lv,Gh,List.nodup_cons]at hnd
  grind
 obtain⟨s1,s2⟩:=A3l H qs hold2;have hnx:(t (x.i - 1)).nx=(gt w.o (x.i - 1)).u:=by rw[A _ hk];rfl
 have hfi:(t (x.i - 1)).fi=(gt w.o (x.i - 1)).i:=by rw[A _ hk];rfl
 obtain⟨kx,ko⟩:=Ak0 I A F hxq;have hsp:Gx w.o x.i=(x.i - 1)::kf w.o.length t (t (x.i - 1)).nx:=by
  rw[kx];have:=tj F.tree W X.lv
  grind
 have nx_no: ∀z∈kf w.o.length t (t (x.i - 1)).nx,Lv w.o.length t z/\z≠x.i - 1:=fun z hz=>by
  have hnd:=Kd.nodup;rw[List.flatMap_cons,tj F.tree W X.lv,Gh,List.nodup_cons]at hnd;refine⟨(ko z (by grind)).1,fun e=>hnd.1 (List.mem_append_left _ (e ▸ hz))⟩
 have hk2:Gx (Xj w x qs).o (gt w.o (x.i - 1)).u=kf w.o.length t (t (x.i - 1)).nx:=by
  grind
 have hk3:Gx (Xj w x qs).o (gt w.o (x.i - 1)).i=Vu w (x.i - 1):=by
  rw[tab' _ hg1.2.1.1 (by omega),<-hfi,gx F.tree W X.lv,kdx _ X.lv]
 have hch: ∀z∈Vu w (x.i - 1),Lv w.o.length t z/\z≠x.i - 1:=fun z hz=>by
  grind [Bdi.lv]
 have m1:(kf w.o.length t (t (x.i - 1)).nx).map (Zf (Xj w x qs))=(kf w.o.length t (t (x.i - 1)).nx).map (Zf w):=Bf fun c hc=>A70 H (nx_no c hc)
 have m2:(kf w.o.length t (t (x.i - 1)).nx).flatMap (Zg (Xj w x qs))=(kf w.o.length t (t (x.i - 1)).nx).flatMap (Zg w):=Yx fun c hc=>A71 H (nx_no c hc)
 have m3:(Vu w (x.i - 1)).map (Zf (Xj w x qs))=(Vu w (x.i - 1)).map (Zf w):=Bf fun c hc=>A70 H (hch c hc)
 have m4:(Vu w (x.i - 1)).flatMap (Zg (Xj w x qs))=(Vu w (x.i - 1)).flatMap (Zg w):=Yx fun c hc=>A71 H (hch c hc);obtain⟨d1,d2⟩:=Bxj I A F X.lv;constructor
 ·unfold uc;rw[hq];show((Wn (gt w.o (x.i - 1)) x.i::Zz w.o x::qs).map (cz (Xj w x qs))).sum+1=_;simp only[Z8,List.sum_cons];rw[s1];unfold cz;rw[show(Wn (gt w.o (x.i - 1)) x.i).i=(gt w.o (x.i - 1)).i from rfl,show(Zz w.o x).i=(gt w.o (x.i - 1)).u from rfl,hk2,hk3,m1,m3,hsp,Z8,List.sum_cons,d1,show(Xj w x qs).C=w.C from rfl,show ay w.C (Zz w.o x)=ay w.C x from rfl,show ay w.C (Wn (gt w.o (x.i - 1)) x.i)=kq w (x.i - 1) from rfl];omega
 ·unfold Ym;rw[hq];show w.q++(Wn (gt w.o (x.i - 1)) x.i::Zz w.o x::qs).flatMap (af (Xj w x qs))=_;rw[List.flatMap_cons,List.flatMap_cons,List.flatMap_cons,s2];unfold af;rw[show(Wn (gt w.o (x.i - 1)) x.i).i=(gt w.o (x.i - 1)).i from rfl,show(Zz w.o x).i=(gt w.o (x.i - 1)).u from rfl,hk2,hk3,m2,m4,hsp,List.flatMap_cons,d2,show(Zz w.o x).j=x.j from rfl,h0,show(Wn (gt w.o (x.i - 1)) x.i).j.reverse=Vx w (x.i - 1) from rfl];simp
theorem Bxn{w:H4}(I:Bd w){x:G9}{qs:List G9}(hq:w.p=x::qs)(h0:x.j=[])(hc:x.L=[])(hf:x.i=0):ug w (Za w x qs):=by
 obtain⟨t,A,F⟩:=I.forest;have X:=Ae7 I hq;have hN:=A25 w x;have I':=Bdo I hq hc hf;obtain⟨r,W⟩:=F.wf;have hlen:=I.rg.len;have lvne: ∀y,Lv w.o.length t y->gt (Wi w x) y=gt w.o y:=fun y hy=>by
  rcases cq X hy.1 with ⟨e,_⟩|⟨_,h2,_⟩
  all_goals simp_all[Y7]
 obtain⟨t',A',F',hal⟩: ∃t',V6 (Wi w x) t'/\True/\ ∀y,Lv w.o.length t y->t' y=t y:=by
  refine⟨fun y=>Yk (gt (Wi w x) y),fun y _=>rfl,trivial,fun y hy=> ?_⟩;show Yk (gt (Wi w x) y)=_;rw[lvne y hy,A y hy.1]
 have kfs: ∀f,(∀z∈kf w.o.length t f,Lv w.o.length t z)->kf w.o.length t' f=kf w.o.length t f:=fun f h=>Aad _ _ fun z hz=>by rw[hal z (h z hz)]
 have kdx: ∀y,Lv w.o.length t y->Vu w y=kf w.o.length t (t y).fi:=fun y hy=>Aku I A hy.1
 have kin: ∀y z,Lv w.o.length t y->z∈kf w.o.length t (t y).fi->Lv w.o.length t z:=fun y z hy hz=>((Y6 F.tree W hy z).1 hz).1
 have H:bf w (Za w x qs) (fun y=>Lv w.o.length t y):=by
  refine⟨rfl,hN,fun y hy=> ?_,fun y z hy hz=> ?_,fun y hy=>⟨_,_,_,(lvne y hy).trans (Ae4 _).symm⟩⟩
  ·have:Vu (Za w x qs) y=kd w.o.length t' y:=by
    have:=Aku (w:=Za w x qs) I' A' (k:=y) (by show 0<=y/\y<((Wi _ _).length:Int);rw[hN];exact hy.1);simp_all[Za]
   grind [kd]
  grind
 have hold2: ∀e∈qs,Gx (Za w x qs).o e.i=Gx w.o e.i/\ ∀y∈Gx w.o e.i,Lv w.o.length t y:=fun e he=>by
  have heq:e∈w.p:=by grind
  have hfe:=I.first heq;obtain⟨k1,k2⟩:=Ak0 I A F heq;refine⟨?_,fun y hy=>(k2 y hy).1⟩;have:=la A' I'.rg (f:=e.i) hfe.1 (by omega);rw[hN]at this;show Gx (Wi w x) e.i=_;rw[this,k1];exact kfs _ fun z hz=>(k2 z (by grind)).1
 obtain⟨s1,s2⟩:=A3l H qs hold2;have hk0:Gx w.o x.i=[]:=by
  have hxq:x∈w.p:=by grind
  rw[(Ak0 I A F hxq).1,hf];exact gu _
 constructor
 ·grind [uc,cz,Za,Akz,Ae6.rc,ii]
 ·unfold Ym;rw[hq];show w.q++qs.flatMap (af (Za w x qs))=_
  grind [af]
theorem Be2{w:H4}(I:Bd w)(hw:Yi w.Q)(h:0<w.p.length):ug w (Zh w):=by
 unfold Zh;cases hq:w.p with
 |nil=>grind
 |cons x qs=>
  show ug w (qa w x qs);unfold qa;split
  ·grind [Bxk]
  rename_i c1;have h0:x.j=[]:=Ec.1 (by omega);split
  ·exact Bxl (K:=281474976710656) (Z9 _) I hw hq (by assumption) h0
  rename_i c2;split
  all_goals simp_all[Bxn,Bxm]
section
variable {K:Nat} (hK:562949953421312<=K)
include hK
end
def Xz (w:H4)(k:Int):List Int:=(Xw (· ++ ·) [] (Vx w) w w.o.length [k] []).1
def Yf (w:H4)(x:G9):List Int:=x.j.reverse++(Gx w.o x.i).flatMap (Xz w)
def ij (w:H4):List Int:=w.p.flatMap (Yf w)
def ah (w:H4):Prop:= ∀k,0<=k/\k<(w.o.length:Int)->(gt w.o k).j.length<=80
theorem Bxo{w:H4}(S:Six w):ah w:=fun k hk=>Dn (S k hk) (by decide)
def A72 (D:List Int->List Int->List Int×List Int)(w:H4):Prop:= ∀ks met,(∀x∈ks,0<=x/\x<(w.o.length:Int))->Yd w met->(D ks met).1.length+80*met.length<=80*(D ks met).2.length
theorem A73{w:H4}(S:ah w){D:List Int->List Int->List Int×List Int}(hD:zz w D)(hT:A72 D w){s:List Int×List Int}(hs:Yd w s.2){k:Int}(hk:0<=k/\k<(w.o.length:Int)):(Xs (· ++ ·) (Vx w) w D s k).1.length+80*s.2.length<=s.1.length+80*(Xs (· ++ ·) (Vx w) w D s k).2.length:=by
 unfold Xs;by_cases h:k∈s.2
 ·rw[if_pos h];exact Z9 _
 ·rw[if_neg h];have h1:=hT (Vu w k) (s.2++[k]) (kr w k) (zy hs hk h);have h2:=S k hk;rw[Jd,List.length_singleton]at h1;show(s.1++(Vx w k++(D (Vu w k) (s.2++[k])).1)).length+_<=_+80*(D (Vu w k) (s.2++[k])).2.length;rw[Jd,Jd];have h3:(Vx w k).length<=80:=by unfold Vx;rw[List.length_reverse];exact h2
  omega
theorem Bxp{w:H4}(S:ah w){D:List Int->List Int->List Int×List Int}(hD:zz w D)(hT:A72 D w): ∀(ks:List Int) (s:List Int×List Int),(∀x∈ks,0<=x/\x<(w.o.length:Int))->Yd w s.2->(ks.foldl (Xs (· ++ ·) (Vx w) w D) s).1.length+80*s.2.length<=s.1.length+80*(ks.foldl (Xs (· ++ ·) (Vx w) w D) s).2.length:=by
 intro ks;induction ks with
 |nil=>intro s _ _;exact Z9 _
 |cons k ks ih=>
  intro s hk hs;rw[List.foldl_cons];have h1:=A73 S hD hT hs (hk k List.mem_cons_self);obtain⟨a,b⟩:=A2q (op:=(· ++ ·)) (g:=Vx w) hD hs (hk k List.mem_cons_self);have h2:=ih _ (fun x hx=>hk x (Pv _ hx)) a;omega
theorem Ak1{w:H4}(S:ah w): ∀u,A72 (az (· ++ ·) [] (Vx w) w u) w:=by
 intro u;induction u with
 |zero=>intro ks met _ _;show([]:List Int).length+80*met.length<=80*met.length;simp
 |succ u ih=>
  intro ks met hk h;show(Xw (· ++ ·) [] (Vx w) w u ks met).1.length+_<=80*(Xw (· ++ ·) [] (Vx w) w u ks met).2.length;rw[kt];have:=Bxp S (ku (op:=(· ++ ·)) (e:=[]) (g:=Vx w) u) ih ks ([],met) hk h;simpa using this
theorem Bxq (w:H4)(hw:Wp w)(S:ah w)(h8:w.o.length<=1000): ∀(u K:Nat) (ks met:List Int),281474976710656+u<K->ks.length<=140737488355327->(∀x∈ks,0<=x/\x<(w.o.length:Int))->Yd w met->w.o.length<=met.length+u->
  fy K w ks (Zq w met)=some ((Xw (· ++ ·) [] (Vx w) w u ks met).1,Zq w (Xw (· ++ ·) [] (Vx w) w u ks met).2):=by
 have hmx:=V2;intro u;induction u using Nat.strongRecOn with
 |_ u ih=>
  intro K ks met hKu hlen hin hm hu;obtain⟨J,rfl⟩: ∃J,K=J+1:=⟨K - 1,by omega⟩;have hJ:281474976710656<=J:=by omega
  rw[fy,A4u,kt];refine Bcq (K:=J) hJ ks (by omega) (Xs (· ++ ·) (Vx w) w (az (· ++ ·) [] (Vx w) w u)) ([],met) (fun s=>Yd w s.2/\met.length<=s.2.length/\s.1.length<=80*s.2.length) ⟨hm,Z9 _,Hc _⟩ (fun s x hx hs=> ?_) _ (fun n s i=>nq J (fy J) ks n (Zq w s.2) s.1 (ks.length:Int) i w.C.L w.C.k w.C.l w.C.e w.C.m w.C.n w.Q.g w.Q.c w.Q.h w.o w.p w.q) (fun n s i h hs=> ?_) (fun n=> ?_)
  ·obtain⟨a,b⟩:=A2q (op:=(·++ ·)) (g:=Vx w) (ku (op:=(·++ ·)) (e:=[]) (g:=Vx w) (w:=w) u) hs.1 (hin x hx);have c:=A73 S (ku (op:=(· ++ ·)) (e:=[]) (g:=Vx w) u) (Ak1 S u) hs.1 (hin x hx);exact⟨a,by omega,by omega⟩
  ·have hk:=hin _ (List.getElem_mem h);have hml:=pk hs.1;have hs6:=S _ hk;simp only[nq,A0p];rw[P2 h,cond_true,if_pos (K0 h),Gz h,tc,if_pos hk,Btf hk,K1 (by omega)];unfold Xs;by_cases hc:ks[i]∈s.2
   ·rw[if_pos hc,List.contains_iff_mem.2 hc,cond_true]
   ·obtain⟨v,rfl,hv⟩:=Bcr hs.1 hs.2.1 hu hk hc;have hcf:s.2.contains ks[i]=false:=by rw[List.contains_eq_mem];exact decide_eq_false hc
    have hmo:=zy hs.1 hk hc;have:=ih v (by omega) J (Vu w ks[i]) (s.2++[ks[i]]) (by omega) (A6q hw _) (kr w _) hmo hv;have hkl:=Ak1 S (v+1) (Vu w ks[i]) (s.2++[ks[i]]) (kr w _) hmo;have hkm:=pk (ku (op:=(· ++ ·)) (e:=[]) (g:=Vx w) (w:=w) (v+1) (Vu w ks[i]) (s.2++[ks[i]]) (kr w _) hmo).1;have hsl:=hs.2.2;rw[if_neg hc,hcf,cond_false,if_pos hk,if_pos hk,Bep hJ _ (by omega)];simp only[Z0];rw[if_pos ⟨by simp;omega,by simp;omega⟩,if_pos hk,Btg hk,A6c hJ hw.l];simp only[Z0];unfold Vu at this;rw[this];simp only[Z0];have hkl:(Xw (· ++ ·) [] (Vx w) w v (Gx w.o (gt w.o ks[i]).i) (s.2++[ks[i]])).1.length+_<=_:=hkl;rw[if_pos (by rw[tc,tc]),if_pos ⟨by simp;omega,by simp;omega⟩,Je];rfl
  ·simp only[nq];rw[W2 (Z9 _),cond_false]
theorem Be3{K:Nat}(hK:562949953421312<=K){w:H4}(hw:Wp w)(h8:w.o.length<=8)(S:ah w){k:Int}(hk:0<=k/\k<(w.o.length:Int)):fz K w k=some (Xz w k)/\(Xz w k).length<=640:=by
 have hs: ∀x∈[k],0<=x/\x<(w.o.length:Int):=fun x hx=>by rw[Dt.1 hx];exact hk
 have hmk:Yd w (Xw (· ++ ·) [] (Vx w) w w.o.length [k] []).2/\_:=ku (op:=(· ++ ·)) (e:=[]) (g:=Vx w) (w:=w) (w.o.length+1) [k] [] hs (A2r w);have hlen:(Xw (· ++ ·) [] (Vx w) w w.o.length [k] []).1.length+80*([]:List Int).length<=80*(Xw (· ++ ·) [] (Vx w) w w.o.length [k] []).2.length:=Ak1 S (w.o.length+1) [k] [] hs (A2r w);have hml:=pk hmk.1;simp only[List.length_nil]at hlen;refine⟨?_,by unfold Xz;omega⟩;unfold fz;rw[oz K (Ww hw.l),decide_eq_true hk,Int.toNat_natCast,Bth];simp only[Z0,Bool.not_true,cond_false];rw[if_pos (by omega),Bxq w hw S (by omega) w.o.length K [k] [] (by omega) (by simp) hs (A2r w) (by simp)];simp only[Z0];rw[if_pos (by rw[tc,tc])];rfl
theorem uh{K:Nat}(hK:562949953421312<=K){w:H4}(hw:Wp w)(h8:w.o.length<=8)(S:ah w){x:G9}(hx:x.j.length<=80):(Yf w x).length<=10000/\(Gx w.o x.i).length<=8/\ ∀c∈Gx w.o x.i,fz K w c=some (Xz w c)/\(Xz w c).length<=640:=by
 have hk: ∀k∈Gx w.o x.i,fz K w k=some (Xz w k)/\(Xz w k).length<=640:=fun k hk=>Be3 hK hw h8 S (pd _ _ k hk)
 have hn:(Gx w.o x.i).length<=8:=by
  have:=sx (l:=w.o) w.o.length (Ap x.i 1);unfold Gx;omega
 refine⟨?_,hn,hk⟩;have h1:=pz (Xz w) 640 (Gx w.o x.i) fun c hc=>(hk c hc).2;unfold Yf;rw[Jd,List.length_reverse];omega
theorem Be4{K:Nat}(hK:562949953421312<=K){w:H4}(hw:Wp w)(h8:w.o.length<=8)(hQ:w.p.length<=1000000)(S:ah w)(hT: ∀x∈w.p,x.j.length<=80):ga K w=some (ij w)/\(ij w).length<=10000*w.p.length:=by
 have hm:=V2;have hK2:281474976710656<=K:=by omega
 refine⟨?_,pz (Yf w) 10000 w.p fun x hx=>(uh hK hw h8 S (hT _ hx)).1⟩;unfold ga;have key: ∀(f i:Nat),i<=w.p.length->w.p.length - i<f->ru K f ((w.p.take i).flatMap (Yf w)) w.p (w.p.length:Int) (i:Int) w.C.L w.C.k w.C.l w.C.e w.C.m w.C.n w.Q.g w.Q.c w.Q.h w.o w.p w.q=some (ij w):=by
  intro f;induction f with
  |zero=>intro i _ h;omega
  |succ f ih=>
   intro i hi hf;have hl:((w.p.take i).flatMap (Yf w)).length<=10000*i:=by
    have:=pz (Yf w) 10000 (w.p.take i) fun x hx=>(uh hK hw h8 S (hT _ (Kk hx))).1;rw[List.length_take]at this
    have h2:10000*min i w.p.length<=10000*i:=Nat.mul_le_mul_left _ (Nat.min_le_left _ _);omega
   rw[ru];rcases Bj i w.p.length with h|h
   ·have hx:w.p[i]∈w.p:=List.getElem_mem h;obtain⟨p1,p2,p3⟩:=uh hK hw h8 S (hT _ hx);have hnt:=hT _ hx;rw[P2 h,cond_true,if_pos (K0 h),Gz h,Bep hK2 _ (by omega),Z0,if_pos ⟨by simp only[Jd,List.length_reverse];omega,by simp only[Jd,List.length_reverse];omega⟩,A6c hK2 hw.l,Z0];have inner: ∀(f2 j:Nat),j<=(Gx w.o w.p[i].i).length->(Gx w.o w.p[i].i).length - j<f2->yg K w.p (w.p.length:Int) (i:Int) w.C.L w.C.k w.C.l w.C.e w.C.m w.C.n w.Q.g w.Q.c w.Q.h w.o w.p w.q (Gx w.o w.p[i].i) (ru K f) f2 ((w.p.take i).flatMap (Yf w)++w.p[i].j.reverse++((Gx w.o w.p[i].i).take j).flatMap (Xz w)) ((Gx w.o w.p[i].i).length:Int) (j:Int)=some (ij w):=by
     intro f2;induction f2 with
     |zero=>intro j _ h;omega
     |succ f2 ih2=>
      intro j hj hf2;have hl2:(((Gx w.o w.p[i].i).take j).flatMap (Xz w)).length<=640*8:=by
       have:=pz (Xz w) 640 ((Gx w.o w.p[i].i).take j) fun c hc=>(p3 c (Kk hc)).2;rw[List.length_take]at this
       have h2:640*min j (Gx w.o w.p[i].i).length<=640*8:=Nat.mul_le_mul_left _ (by omega);omega
      rw[yg];rcases Bj j (Gx w.o w.p[i].i).length with hj2|hj2
      ·obtain⟨t1,t2⟩:=p3 _ (List.getElem_mem hj2);rw[P2 hj2,cond_true,if_pos (K0 hj2),Gz hj2,show H4.mk (Sv.mk w.C.L w.C.k w.C.l w.C.e w.C.m w.C.n) (Pc.mk w.Q.g w.Q.c w.Q.h) w.o w.p w.q=w from rfl,t1,Z0,if_pos ⟨by simp only[Jd,List.length_reverse];omega,by simp only[Jd,List.length_reverse];omega⟩,K1 (by omega),Je,<-A3f (Xz w) _ hj2];exact ih2 (j+1) hj2 (by omega)
      ·obtain rfl:j=(Gx w.o w.p[i].i).length:=by omega
       rw[W2 (Z9 _),cond_false,List.take_length,K1 (by omega),Je];have:(w.p.take i).flatMap (Yf w)++(w.p[i].j.reverse++(Gx w.o w.p[i].i).flatMap (Xz w))=(w.p.take (i+1)).flatMap (Yf w):=by rw[A3f (Yf w) _ h];rfl
       rw[this];exact ih (i+1) h (by omega)
    have:=inner K 0 (Hc _) (by omega);rw[List.take_zero,List.flatMap_nil,List.append_nil]at this;exact this
   ·obtain rfl:i=w.p.length:=by omega
    rw[W2 (Z9 _),cond_false,List.take_length];rfl
 have:=key K 0 (Hc _) (by omega);rw[List.take_zero,List.flatMap_nil]at this;exact this
theorem Be5{K:Nat}(hK:281474976710656<=K)(l:List Int)(hl:l.length<=1000000):zh K l=some l.reverse:=by
 have hm:=V2;have key: ∀(i f:Nat),i<=l.length->i<f->sn K l f ((l.drop i).reverse) ((i:Int) - 1)=some l.reverse:=by
  intro i;induction i with
  |zero=>
   intro f _ hf;obtain⟨g,rfl⟩: ∃g,f=g+1:=⟨f - 1,by omega⟩;rw[sn,decide_eq_false (by omega),cond_false];rfl
  |succ i ih=>
   intro f hi hf;obtain⟨g,rfl⟩: ∃g,f=g+1:=⟨f - 1,by omega⟩;have e:l.drop i=l[i]::l.drop (i+1):=Z47 (by omega);rw[sn,decide_eq_true (by omega),cond_true,show((i+1:Nat):Int) - 1=(i:Int)by omega,if_pos (by omega),Gz (by omega),if_pos ⟨by simp;omega,by simp;omega⟩,V9 (by omega)];have:=ih g (by omega) (by omega);rw[e,List.reverse_cons]at this;exact this
 unfold zh;rw[V9 (by omega)];have:=key l.length K (Z9 _) (by omega);rw[List.drop_length]at this;exact this
theorem Bxr{g:Int->List Int}{w:H4}(u:Nat)(s:List Int×List Int)(k:Int):Xs (· ++ ·) g w (az (· ++ ·) [] g w u) s k=(s.1++(Xw (· ++ ·) [] g w u [k] s.2).1,(Xw (· ++ ·) [] g w u [k] s.2).2):=by
 rw[kt,List.foldl_cons,List.foldl_nil];unfold Xs;by_cases h:k∈s.2
 ·rw[if_pos h,if_pos h];simp
 ·rw[if_neg h,if_neg h];simp
theorem Bxs (w:H4)(hw:Wp w)(S:ah w)(h8:w.o.length<=1000): ∀(u K:Nat) (k:Int) (met:List Int),281474976710656+u<K->(0<=k/\k<(w.o.length:Int))->Yd w met->w.o.length<=met.length+u->
  bz K w k met=some ((Xw (· ++ ·) [] (Vx w) w u [k] met).1,(Xw (· ++ ·) [] (Vx w) w u [k] met).2):=by
 intro u;induction u using Nat.strongRecOn with
 |_ u ih=>
  intro K k met hKu hk hm hu;obtain⟨J,rfl⟩: ∃J,K=J+1:=⟨K - 1,by omega⟩;have hJ:281474976710656<=J:=by omega
  have hml:=pk hm;have hL:=hw.l.2;rw[bz,A13,jz J (Ww hw.l),decide_eq_true hk];simp only[Z0,cond_true];rw[jv hJ _ _ (by omega),Z0,kt,List.foldl_cons,List.foldl_nil];unfold Xs;by_cases hc:k∈met
  ·rw[if_pos hc,List.contains_iff_mem.2 hc,cond_true]
  ·obtain⟨v,rfl,hv⟩:=Bcr hm (Z9 _) hu hk hc;have hcf:met.contains k=false:=by rw[List.contains_eq_mem];exact decide_eq_false hc
   have hx:=V2;have hs6:=S k hk;rw[if_neg hc,hcf,cond_false,Hd,if_pos (by omega),if_pos ⟨by simp;omega,by simp;omega⟩];simp only[if_pos hk];rw[Be5 hJ _ (by omega),Z0,A2f hJ hw.l (hw.l.1 _ (Wq hk.1 hk.2)).first];simp only[Z0];show om J (bz J) (Vu w k) J (met++[k]) (Vx w k) 0 _ _ _ _ _ _ _ _ _ _ _ _=_;have hm2:=zy hm hk hc;have hstart:Vx w k=Vx w k++(([],met++[k]):List Int×List Int).1:=by simp
   have htl:(Vx w k).length<=80:=by unfold Vx;rw[List.length_reverse];exact hs6
   rw[hstart];refine Bcq (K:=J) hJ (Vu w k) (by have:=A6q hw k;omega) (Xs (· ++ ·) (Vx w) w (az (· ++ ·) [] (Vx w) w v)) ([],met++[k]) (fun s=>Yd w s.2/\(met++[k]).length<=s.2.length/\s.1.length<=80*s.2.length) ⟨hm2,Z9 _,Hc _⟩ (fun s x hx hs=> ?_) _ (fun n s i=>om J (bz J) (Vu w k) n s.2 (Vx w k++s.1) i w.C.L w.C.k w.C.l w.C.e w.C.m w.C.n w.Q.g w.Q.c w.Q.h w.o w.p w.q) (fun n s i h hs=> ?_) (fun n=> ?_)
   ·obtain⟨a,b⟩:=A2q (op:=(·++ ·)) (g:=Vx w) (ku (op:=(·++ ·)) (e:=[]) (g:=Vx w) (w:=w) v) hs.1 (kr w k x hx);have c:=A73 S (ku (op:=(· ++ ·)) (e:=[]) (g:=Vx w) v) (Ak1 S v) hs.1 (kr w k x hx);exact⟨a,by omega,by omega⟩
   ·have hki:=kr w k _ (List.getElem_mem h);have hf:=A6q hw k;have hin: ∀x∈[(Vu w k)[i]],0<=x/\x<(w.o.length:Int):=fun x hx=>by rw[Dt.1 hx];exact hki
    have hsm:=pk hs.1;have hkl:(Xw (· ++ ·) [] (Vx w) w v [(Vu w k)[i]] s.2).1.length+80*s.2.length<=80*(Xw (· ++ ·) [] (Vx w) w v [(Vu w k)[i]] s.2).2.length:=Ak1 S (v+1) [(Vu w k)[i]] s.2 hin hs.1;have hkm:=pk (ku (op:=(· ++ ·)) (e:=[]) (g:=Vx w) (w:=w) (v+1) [(Vu w k)[i]] s.2 hin hs.1).1;have hkm:(Xw (· ++ ·) [] (Vx w) w v [(Vu w k)[i]] s.2).2.length<=w.o.length:=hkm;have hs3:=hs.2.2;simp only[om];rw[P2 h,cond_true,if_pos (K0 h),Gz h,K1 (by omega)];have:=ih v (by omega) J (Vu w k)[i] s.2 (by omega) hki hs.1 (by omega);rw[show H4.mk (Sv.mk w.C.L w.C.k w.C.l w.C.e w.C.m w.C.n) (Pc.mk w.Q.g w.Q.c w.Q.h) w.o w.p w.q=w from rfl,this,Bxr];simp only[Z0];rw[if_pos ⟨by simp only[Jd];omega,by simp only[Jd];omega⟩,Je]
   ·simp only[om];rw[W2 (Z9 _),cond_false];simp only[az,kt,Hd,List.append_nil]
theorem Be6{K:Nat}(hK:562949953421312<=K){w:H4}(hw:Wp w)(h8:w.o.length<=8)(S:ah w)(k:Int): ∃l,fz K w k=some l/\oo K w k=some l/\l.length<=640/\((0<=k/\k<(w.o.length:Int))->l=Xz w k):=by
 by_cases h:0<=k/\k<(w.o.length:Int)
 ·obtain⟨a,b⟩:=Be3 hK hw h8 S h;refine⟨Xz w k,a,?_,b,fun _=>rfl⟩;unfold oo;rw[Bxs w hw S (by omega) w.o.length K k [] (by omega) h (A2r w) (by simp)];rfl
 ·refine⟨[],?_,?_,Hc _,fun g=>absurd g h⟩
  ·unfold fz;rw[oz K (Ww hw.l),decide_eq_false h];rfl
  ·unfold oo;obtain⟨J,rfl⟩: ∃J,K=J+1:=⟨K - 1,by omega⟩;rw[bz,A13,jz J (Ww hw.l),decide_eq_false h];rfl
theorem Bxt{K:Nat}(hK:562949953421312<=K){w:H4}(hw:Wp w)(h8:w.o.length<=8)(hQ:w.p.length<=1000000)(S:ah w)(hT: ∀x∈w.p,x.j.length<=80):A15 K w=some (ij w)/\(ij w).length<=10000*w.p.length:=by
 have hm:=V2;have hK2:281474976710656<=K:=by omega
 refine⟨?_,pz (Yf w) 10000 w.p fun x hx=>(uh hK hw h8 S (hT _ hx)).1⟩;unfold A15;have key: ∀(f i:Nat),i<=w.p.length->w.p.length - i<f->sp K f ((w.p.take i).flatMap (Yf w)) (i:Int) w.C.L w.C.k w.C.l w.C.e w.C.m w.C.n w.Q.g w.Q.c w.Q.h w.o w.p w.q=some (ij w):=by
  intro f;induction f with
  |zero=>intro i _ h;omega
  |succ f ih=>
   intro i hi hf;have hl:((w.p.take i).flatMap (Yf w)).length<=10000*i:=by
    have:=pz (Yf w) 10000 (w.p.take i) fun x hx=>(uh hK hw h8 S (hT _ (Kk hx))).1;rw[List.length_take]at this
    have h2:10000*min i w.p.length<=10000*i:=Nat.mul_le_mul_left _ (Nat.min_le_left _ _);omega
   rw[sp];rcases Bj i w.p.length with h|h
   ·have hx:w.p[i]∈w.p:=List.getElem_mem h;obtain⟨p1,p2,p3⟩:=uh hK hw h8 S (hT _ hx);have hnt:=hT _ hx;rw[P2 h,cond_true,if_pos (K0 h),Gz h,Be5 hK2 _ (by omega),Z0,if_pos ⟨by simp only[Jd,List.length_reverse];omega,by simp only[Jd,List.length_reverse];omega⟩,if_pos (K0 h),A2f hK2 hw.l (hw.q.1 _ hx).first,Z0];have inner: ∀(f2 j:Nat),j<=(Gx w.o w.p[i].i).length->(Gx w.o w.p[i].i).length - j<f2->zi K (i:Int) w.C.L w.C.k w.C.l w.C.e w.C.m w.C.n w.Q.g w.Q.c w.Q.h w.o w.p w.q (Gx w.o w.p[i].i) (sp K f) f2 ((w.p.take i).flatMap (Yf w)++w.p[i].j.reverse++((Gx w.o w.p[i].i).take j).flatMap (Xz w)) (j:Int)=some (ij w):=by
     intro f2;induction f2 with
     |zero=>intro j _ h;omega
     |succ f2 ih2=>
      intro j hj hf2;have hl2:(((Gx w.o w.p[i].i).take j).flatMap (Xz w)).length<=640*8:=by
       have:=pz (Xz w) 640 ((Gx w.o w.p[i].i).take j) fun c hc=>(p3 c (Kk hc)).2;rw[List.length_take]at this
       have h2:640*min j (Gx w.o w.p[i].i).length<=640*8:=Nat.mul_le_mul_left _ (by omega);omega
      rw[zi];rcases Bj j (Gx w.o w.p[i].i).length with hj2|hj2
      ·obtain⟨_,t2⟩:=p3 _ (List.getElem_mem hj2);have t1:oo K w (Gx w.o w.p[i].i)[j]=some (Xz w (Gx w.o w.p[i].i)[j]):=by
        obtain⟨l,_,e2,_,e4⟩:=Be6 hK hw h8 S (Gx w.o w.p[i].i)[j];rw[e2,e4 (pd _ _ _ (List.getElem_mem hj2))]
       rw[P2 hj2,cond_true,if_pos (K0 hj2),Gz hj2,show H4.mk (Sv.mk w.C.L w.C.k w.C.l w.C.e w.C.m w.C.n) (Pc.mk w.Q.g w.Q.c w.Q.h) w.o w.p w.q=w from rfl,t1,Z0,if_pos ⟨by simp only[Jd,List.length_reverse];omega,by simp only[Jd,List.length_reverse];omega⟩,K1 (by omega),Je,<-A3f (Xz w) _ hj2];exact ih2 (j+1) hj2 (by omega)
      ·obtain rfl:j=(Gx w.o w.p[i].i).length:=by omega
       rw[W2 (Z9 _),cond_false,List.take_length,K1 (by omega),Je];have:(w.p.take i).flatMap (Yf w)++(w.p[i].j.reverse++(Gx w.o w.p[i].i).flatMap (Xz w))=(w.p.take (i+1)).flatMap (Yf w):=by rw[A3f (Yf w) _ h];rfl
       rw[this];exact ih (i+1) h (by omega)
    have:=inner K 0 (Hc _) (by omega);rw[List.take_zero,List.flatMap_nil,List.append_nil]at this;exact this
   ·obtain rfl:i=w.p.length:=by omega
    rw[W2 (Z9 _),cond_false,List.take_length];rfl
 have:=key K 0 (Hc _) (by omega);rw[List.take_zero,List.flatMap_nil]at this;exact this
theorem Bxu{w:H4}(I:Bd w):ij w=Ym w:=by
 obtain⟨t,A,F⟩:=I.forest;refine Yx fun x hx=> ?_;unfold Yf af
 congr 1;refine Yx fun c hc=> ?_;obtain⟨_,k2⟩:=Ak0 I A F hx;unfold Xz Zg;rw[Bwh (fun a b c=>Je a b c) (fun a=>Hd a) (fun a=>List.append_nil a) I A F (k2 c hc).1,Bwl]
theorem A74{K:Nat}(hK:562949953421312<=K){w:H4}{E:Int}{n:Nat}(G:Ch w E n)(hE:E<=1000000000)(hn:n<=1000000):ga K w=some (Ym w)/\(Ym w).length<=10000*w.p.length:=by
 have W:=G.ww hE (by omega);have I:=G.inv;have b0:=Gy I.conf;have hlen:=I.len;have hq:=lf w;have hwt:=G.wt;obtain⟨a,b⟩:=Be4 hK W (by omega) (by omega) (Bxo I.six) (fun x hx=>Dn (Y0.1 (I.wrec x hx).1).ntag (by decide));rw[Bxu I]at a b;exact⟨a,b⟩
theorem Bxv (a:List Int)(u:A18 a): ∃K,A17 K a=some true:=by
 obtain⟨K,hK2⟩: ∃K,562949953421312<=K:=⟨_,Z9 _⟩;refine⟨K,?_⟩;have hK:281474976710656<=K:=by omega
 have hm:=V2;unfold A17 A3p;rw[Z0];by_cases hbig:(a.length:Int)>1048576
 ·rw[decide_eq_true hbig,cond_true]
 rw[decide_eq_false hbig,cond_false];have ha:a.length<=1048576:=by omega
 have hb:ae a:=(Bsm u).1;obtain⟨wd,o,E,n,e3,G,hE,hn,_⟩:=Bv5 hK hb ha;have W:=G.ww (by omega) (by omega);have I:=G.inv;have hq:=lf wd;have hlg:=po wd;have hwt:=G.wt;obtain⟨w1,c1,x1,A1,wc1⟩:=Bez hK hb ha (most:=60) (by omega);obtain⟨w2,c2,x2,A2,wc2⟩:=Bez hK hb ha (most:=50) (by omega);obtain⟨k2,y2,_,_⟩:=Xt K wc2 (n:=7) (by omega);have d1:A0m K a=some w1:=by unfold A0m;rw[x1];rfl
 have d2:A0n K a=some (w2,Ap k2.1 1):=by unfold A0n;rw[x2,Z0,y2];rfl
 have S1:ah w1:=fun k hk=>(A1.n _ (Wq hk.1 hk.2)).g
 have S2:ah w2:=fun k hk=>(A2.n _ (Wq hk.1 hk.2)).g
 have l1:=A1.l;have q1:=A1.q;have l2:=A2.l;obtain⟨i1,n1⟩:=Be4 hK2 A1.ww (by omega) (by omega) S1 A1.e;obtain⟨s1,_⟩:=Bxt hK2 A1.ww (by omega) (by omega) S1 A1.e;obtain⟨v,i2,s2,n2,_⟩:=Be6 hK2 A2.ww (by omega) S2 (Ap k2.1 1);obtain⟨p1,pl1⟩:=A74 hK2 G (by omega) (by omega);obtain⟨r,w',e5,G',hP,hq',hr⟩:=Bxh hK (n:=n) (by omega) (by omega) (fun w' _=>w'.q++Ym w'=wd.q++Ym wd) (fun w i G h H=>by
  rw[(Be2 G.inv (G.ww (by omega) (by omega)).p h).2];exact H) G rfl
 have hlg':=po w';have hwt':=G'.wt;have z0:Ym w'=[]:=by unfold Ym;rw[hq'];rfl
 rw[z0,List.append_nil]at hP;obtain⟨p6,_⟩:=A74 hK2 G' (by omega) (by omega);have T:=Bew (m:=40000) W I.ok (by omega) (by omega);obtain⟨w8,b8,e8,p8,pl8,lg8,h8⟩: ∃w8 b8,A12 K wd=some (w8,b8)/\ga K w8=some (Ym w8)/\(Ym w8).length<=1000000000/\w8.q.length<=1000000/\w8.q++Ym w8=wd.q++Ym wd:=by
  unfold A12;rw[Bci hK W,Z0,Bcg hK wd W,I.ok,Z0,cond_true];by_cases h:wd.p.length=0
  ·exact⟨wd,false,by rw[h];rfl,p1,by omega,by omega,rfl⟩
  ·obtain⟨w9,e6,S⟩:=A26 hK G (by omega) (by omega) (by omega);have ew:w9=Zh wd:=by
    rw[Beu hK (by decide) T (by omega)]at e6;exact(F0 e6).symm
   subst ew;have G9:=S.good G;have hlg9:=po (Zh wd);have hq9:=lf (Zh wd);have hwt9:=G9.wt;obtain⟨p9,pl9⟩:=A74 hK2 G9 (by omega) (by omega);exact⟨Zh wd,true,by rw[Wg (by omega),cond_false,Bev hK (by decide) T (by omega)];rfl,p9,by omega,by omega,(Be2 I W.p (by omega)).2⟩
 have c1:(wd.q++Ym wd).length<=1000000000:=by rw[Jd];omega
 have c2:(w8.q++Ym w8).length<=1000000000:=by rw[h8];exact c1
 rw[e3,Z0,d1,Z0,d2,Z0];dsimp only;rw[p1,Z0,e5,Z0,e8,Z0,i1,Z0,s1,Z0,A3g hK _ (by omega),Z0,cond_true,i2,Z0,s2,Z0,A3g hK _ (by omega),Z0,Bool.not_true,cond_false];simp only[Hd];rw[if_pos (by omega),if_pos (by omega),hP,A3g hK _ (by omega),Z0,cond_true,if_pos (by omega),p8,Z0,if_pos (by omega),h8,A3g hK _ (by omega),Z0,cond_true,p6,Z0,z0];rfl
end Go.Proofs.YtgcnddnmhllahaaGreat
