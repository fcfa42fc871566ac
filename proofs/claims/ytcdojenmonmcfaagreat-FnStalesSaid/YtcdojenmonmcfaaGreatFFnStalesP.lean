/- The plain law for FnStales; no condition. -/
import Derived.Test.YtcdojenmonmcfaaGreatFFnStalesPa
set_option linter.all false
namespace Go.Proofs.YtcdojenmonmcfaaGreat
open Go.Eng Go.ChangeShapes Go.WideShapes Go.ChangeAt Go.RowKit
def AlW (l:List As)(k:Int):Prop:= ∃t,AtT l t∧Al l.length t k
structure A31 (w w':C5):Prop where
 conf:w'.fC=w.fC
 len:w'.fL.length=w.fL.length
 node: ∀k,AlW w.fL k->AlW w'.fL k∧(∃a b c,gt w'.fL k=lnk (gt w.fL k) a b c)∧ ∀n,Agy w'.fL n k=Agy w.fL n k
theorem A71 (n:As):lnk n n.Ef n.Sn n.So=n:=rfl
theorem A31.refl (w:C5):A31 w w:=⟨rfl,rfl,fun k h=>⟨h,⟨_,_,_,(A71 _).symm⟩,fun _=>rfl⟩⟩
theorem A31.trans{a b c:C5}(h:A31 a b)(g:A31 b c):A31 a c:=by
 refine⟨g.conf.trans h.conf,g.len.trans h.len,fun k hk=> ?_⟩;obtain⟨h1,⟨x,y,z,h2⟩,h3⟩:=h.node k hk;obtain⟨g1,⟨u,v,w,g2⟩,g3⟩:=g.node k h1;exact⟨g1,⟨u,v,w,by rw[g2,h2];rfl⟩,fun n=>(g3 n).trans (h3 n)⟩
theorem A86{w w':C5}(hc:w'.fC=w.fC)(hl:w'.fL=w.fL):A31 w w':=⟨hc,by rw[hl],fun k h=>by rw[hl];exact⟨h,⟨_,_,_,(A71 _).symm⟩,fun _=>rfl⟩⟩
theorem Bmh{N:Int}{t t':Int->Lk}(h: ∀y,Al N t y->Lv N t' y∧(t' y).up=(t y).up∧(Cu N t y->Al N t ((t y).up - 1)->Cu N t' y)){k:Int}(hk:Al N t k):Al N t' k:=by
 induction hk with
 |root a b=>
  obtain⟨h1,h2,h3⟩:=h _ (.root a b);exact .root h1 (by omega)
 |step a b c ih=>
  obtain⟨h1,h2,h3⟩:=h _ (.step a b c);exact .step h1 (h3 b c) (by grind)
theorem Bu4{N:Int}{t:Int->Lk}{g:Int}(hg:Oo N t g){k:Int}(hk:Al N t k):Al N (rem t g) k:=by
 refine Bmh (fun y hy=> ?_) hk
 have hne:y≠g:=fun e=>hy.noOr (e ▸ hg);refine⟨Apf.2 ⟨hne,hy.lv⟩,by rw[Akx hne],fun hc hu=>(A00 hne).2 ⟨fun e=> ?_,hc⟩⟩
 simp_all[Al.noOr]
theorem Bu5{N:Int}{t:Int->Lk}{g:Int}(hg:(t g).lv=false){k:Int}(hk:Al N t k):Al N (clr t g) k:=by
 refine Bmh (fun y hy=> ?_) hk;exact⟨(Avm hg).2 hy.lv,by rw[Alb hg hy.lv],fun hc _=>(A5u hg hy.lv).2 hc⟩
theorem Bmi{N:Int}{t t':Int->Lk}(h: ∀x,0≤x∧x<N->t' x=t x){k:Int}(hk:Al N t k):Al N t' k:=by
 refine Bmh (fun y hy=> ?_) hk
 have hy1:=hy.lv
 simp_all[Cu,Lv]
theorem AlW.al{l:List As}{t:Int->Lk}(A:AtT l t){k:Int}(h:AlW l k):Al l.length t k:=by
 obtain⟨t',A',h'⟩:=h;exact Bmi (fun x hx=>by rw[A x hx,A' x hx]) h'
theorem Bck{w w':C5}{t t':Int->Lk}(R:Rg w.fL)(R':Rg w'.fL)(A:AtT w.fL t)(A':AtT w'.fL t')(F:Agw w.fL.length t (Axa w.fQ))(hc:w'.fC=w.fC)(hl:w'.fL.length=w.fL.length)
  (hn: ∀k,Al w.fL.length t k->Al w.fL.length t' k∧(t' k).up=(t k).up∧ ∃a b c,gt w'.fL k=lnk (gt w.fL k) a b c):A31 w w':=by
 refine⟨hc,hl,fun k hk=> ?_⟩
 have h:=hk.al A;obtain⟨h1,h2,h3⟩:=hn k h;refine⟨⟨t',A',by grind⟩,h3,fun n=> ?_⟩
 rw[A45 A' R',A45 A R,hl];obtain⟨d,U⟩:=F.uw;exact A1h _ _ fun y hy=>(hn y ((Bfn U n k h).1 y hy).2).2.1
theorem Bph{α:Type}[Inhabited α](a:α)(l:List α){i:Nat}(h:i<l.length):gt (a::l) ((i+1:Nat):Int)=gt l (i:Int):=by
 rfl
theorem Bmj{α:Type}[Inhabited α](f:α->Nat): ∀(l l':List α),l'.length=l.length->(∀x:Nat,x<l.length->f (gt l' (x:Int))=f (gt l (x:Int)))->(l'.map f).sum=(l.map f).sum:=by
 intro l
 induction l with
 |nil=>grind
 |cons a l ih=>
  intro l' h hx;cases l' with
  |nil=>simp at h
  |cons b l'=>
   have hl:l'.length=l.length:=by grind
   have h0:=hx 0 (by simp)
   have:=ih l' hl fun x h=>by
    have:=hx (x+1) (by grind)
    assumption
   simp only[Z8,List.sum_cons,this];rw[show f b=f a from h0]
theorem Bpi{α:Type}[Inhabited α](f:α->Nat): ∀(l l':List α) (g:Nat),l'.length=l.length->g<l.length->(∀x:Nat,x<l.length->x≠g->f (gt l' (x:Int))=f (gt l (x:Int)))->(l'.map f).sum+f (gt l (g:Int))=(l.map f).sum+f (gt l' (g:Int)):=by
 intro l
 induction l with
 |nil=>grind
 |cons a l ih=>
  intro l' g h hg hx;cases l' with
  |nil=>simp at h
  |cons b l'=>
   have hl:l'.length=l.length:=by grind
   simp only[Z8,List.sum_cons];cases g with
   |zero=>
    have:=Bmj f l l' hl fun x h=>by
     have:=hx (x+1) (by grind) (by omega)
     assumption
    rw[this]
    show f b+_+f a=f a+_+f b;omega
   |succ g=>
    have hg:g<l.length:=by grind
    have h0:f b=f a:=hx 0 (by simp) (by omega)
    have:=ih l' g hl hg fun x h hn=>by
     have:=hx (x+1) (by grind) (by omega)
     assumption
    grind [Bph]
theorem A3j{f:As->Nat}{l l':List As}{g:Int}(hl:l'.length=l.length)(hg:0≤g∧g<(l.length:Int))(hx: ∀x,0≤x∧x<(l.length:Int)->x≠g->f (gt l' x)=f (gt l x)):(l'.map f).sum+f (gt l g)=(l.map f).sum+f (gt l' g):=by
 have:=Bpi f l l' g.toNat hl (by omega) fun x h hn=>hx x ⟨by omega,by omega⟩ (by omega)
 rwa[show((g.toNat:Nat):Int)=g by omega]at this
theorem A3k (c:Ea){st:Int}(h:st≠1)(g:Int):wtN c (Aqb st g)=0:=by unfold wtN Aqb;rw[if_neg h]
structure Bec (w w':C5)(E:Int):Prop where
 inv:Inv w'
 mem: ∀x∈w'.fP.N7,0≤x∧x≤255
 ep: ∀k,0≤k∧k<(w'.fL.length:Int)->EpP E (gt w'.fL k)
 pot:pot w'<pot w
 wt:wt w'≤wt w
 stay:A31 w w'
theorem Bec.good{w w':C5}{E:Int}(S:Bec w w' E){n:Nat}(G:Dy w E n):Dy w' E n:=⟨S.inv,S.mem,S.ep,by have:=S.wt;have:=G.wt;omega⟩
theorem Bmk{w:C5}{E:Int}{n:Nat}(G:Dy w E n){x:Az}{qs:List Az}(hq:w.fQ=x::qs)(h0:0<x.Fi.length):Bec w (A48 w x qs) E:=by
 have e:wtQ w.fC (Bmb x)+1=wtQ w.fC x:=by
  grind [wtQ,Bmb]
 have ep:pot (A48 w x qs)+1=pot w:=by
  unfold pot;rw[hq]
  show(w.fL.map (wtN w.fC)).sum+((Bmb x::qs).map (wtQ w.fC)).sum+1=_
  grind
 refine⟨Bpf G.inv hq h0,G.mem,G.ep,by omega,?_,A86 rfl rfl⟩
 unfold wt
 show pot (A48 w x qs)+(w.Acy++[_]).length≤_
 grind
theorem Bhs{w:C5}{E:Int}{n:Nat}(G:Dy w E n){x:Az}{qs:List Az}(hq:w.fQ=x::qs)(hc:0<x.Ay.length):Bec w (A02 w x qs) E:=by
 have X:=Beb G.inv hq hc;obtain⟨b1,b2,b3,b4,b5,b6⟩:=A1 X.rc.conf
 have ht:=X.to
 have hd:=X.rc.done
 have e:wtQ w.fC (A2w w x)<wtQ w.fC x:=by
  have hm:w.fC.G8.toNat*x.Ay.length=w.fC.G8.toNat*(x.Ay.length - 1)+w.fC.G8.toNat:=by
   conv=>lhs;rw[show x.Ay.length=x.Ay.length - 1+1 by omega]
   rfl
  grind [A2w,wtQ]
 have ep:pot (A02 w x qs)<pot w:=by
  unfold pot;rw[hq]
  show(w.fL.map (wtN w.fC)).sum+((A2w w x::qs).map (wtQ w.fC)).sum<_
  grind
 refine⟨Bme G.inv hq hc,Bmd G.mem,G.ep,ep,?_,A86 rfl rfl⟩;unfold wt
 show pot (A02 w x qs)+w.Acy.length≤_;omega
theorem Bml{w:C5}(I:Inv w){t:Int->Lk}(A:AtT w.fL t)(F:Agw w.fL.length t (Axa w.fQ)){x:Az}{qs:List Az}(hq:w.fQ=x::qs)(hf:x.Ef≠0):
  (∀y,0≤y∧y<(w.fL.length:Int)->y≠x.Ef - 1->gt (A2a w.fL (x.Ef - 1)) y=Bhr (gt w.fL (x.Ef - 1)) (gt w.fL y) (x.Ef - 1) y)∧gt (A2a w.fL (x.Ef - 1)) (x.Ef - 1)=Aqb 2 (gt w.fL (x.Ef - 1)).C9:=by
 have X:=Bat I A F hq hf;exact⟨fun y hy hne=>Bfs I.rg X.lv.1 hy hne X.pv (X.nf y hy),Bft X.lv.1⟩
theorem Bht{w:C5}{E:Int}{n:Nat}(G:Dy w E n)(hE:0≤E){x:Az}{qs:List Az}(hq:w.fQ=x::qs)(hf:x.Ef≠0):Bec w (A03 w x qs) E:=by
 obtain⟨t,A,F⟩:=G.inv.forest
 have X:=Bat G.inv A F hq hf;obtain⟨hg,hb⟩:=Bml G.inv A F hq hf
 have hk:=X.lv.1
 have L:=G.inv.live A X.lv
 have I':=Bmg G.inv hq hf
 have hN:=Bcj w.fL (x.Ef - 1)
 have hs:=A3j (f:=wtN w.fC) hN hk fun y hy hne=>by rw[hg y hy hne];rfl
 rw[hb,A3k _ (by decide)]at hs
 have e1:wtN w.fC (gt w.fL (x.Ef - 1))=2+(gt w.fL (x.Ef - 1)).Fi.length+w.fC.G8.toNat*(gt w.fL (x.Ef - 1)).Ay.length:=by unfold wtN;rw[if_pos L.st]
 have e2:wtQ w.fC (Ag9 (gt w.fL (x.Ef - 1)) x.Ef)=1+(gt w.fL (x.Ef - 1)).Fi.length+w.fC.G8.toNat*(gt w.fL (x.Ef - 1)).Ay.length:=rfl
 have e3:wtQ w.fC (Bci w.fL x)=wtQ w.fC x:=rfl
 have ep:pot (A03 w x qs)<pot w:=by
  unfold pot;rw[hq]
  show((A2a w.fL (x.Ef - 1)).map (wtN w.fC)).sum+((Ag9 (gt w.fL (x.Ef - 1)) x.Ef::Bci w.fL x::qs).map (wtQ w.fC)).sum<_
  grind
 refine⟨I',?_,fun y hy=> ?_,ep,?_,?_⟩
 ·show ∀y∈(Akr w.fP _).N7,_;rw[(A1j G.inv hk).2.1];exact G.mem
 ·have hy:0≤y∧y<((A2a w.fL (x.Ef - 1)).length:Int):=hy;rw[hN]at hy
  show EpP E (gt (A2a w.fL (x.Ef - 1)) y)
  by_cases e:y=x.Ef - 1
  ·rw[e,hb];exact⟨hE,hE,⟨Int.le_refl 0,by show(0:Int)≤1000;omega⟩⟩
  ·rw[hg y hy e]
   have:=G.ep y hy;exact⟨this.ep,this.ue,this.cur⟩
 ·unfold wt
  show pot (A03 w x qs)+w.Acy.length≤_;omega
 ·refine Bck G.inv.rg I'.rg A (Bfr A hk hN hg hb) F rfl hN fun y hy=> ?_
  have hne:y≠x.Ef - 1:=fun e=>hy.noOr (e ▸ X.or);exact⟨Bu4 X.or hy,by rw[Akx hne],_,_,_,hg y hy.lv.1 hne⟩
def A5w (n:As)(gens:Int):As:=if gens≤n.C9 then Aqb 3 n.C9 else Aqb 0 (n.C9+1)
def Ayx (w:C5)(x:Az):List As:=if x.Bm=0 then w.fL else w.fL.set (x.Bm - 1).toNat (A5w (gt w.fL (x.Bm - 1)) w.fC.G9)
def A49 (w:C5)(x:Az)(qs:List Az):C5:=C5.mk w.fC w.fP (Ayx w x) qs w.Acy
theorem Bau (w:C5)(x:Az):(Ayx w x).length=w.fL.length:=by grind [Ayx]
structure Bpj (w:C5)(x:Az)(qs:List Az):Prop where
 rc:Bma w.fC x
 k:x.Bm≠0->0≤x.Bm - 1∧x.Bm - 1<(w.fL.length:Int)
 st:x.Bm≠0->(gt w.fL (x.Bm - 1)).Vi=2
 gn:x.Bm≠0->1≤(gt w.fL (x.Bm - 1)).C9∧(gt w.fL (x.Bm - 1)).C9≤w.fC.G9
 no:x.Bm≠0->x.Bm - 1 ∉ slL qs
theorem Bfu{w:C5}(I:Inv w){x:Az}{qs:List Az}(hq:w.fQ=x::qs):Bpj w x qs:=by
 have R:=Azd.1 (Azj I hq).1;obtain⟨b1,b2,b3,b4,b5,b6⟩:=A1 I.conf
 have hx:x∈w.fQ:=by grind
 have hs:=R.slot
 have h1:x.Bm≠0->(0≤x.Bm - 1∧x.Bm - 1<(w.fL.length:Int))∧(gt w.fL (x.Bm - 1)).Vi=2:=fun h=>by
  have:=Bfo hx h;rw[sb1 (by omega) (by omega)]at this
  exact(I.sli _).1 this
 refine⟨R,fun h=>(h1 h).1,fun h=>(h1 h).2,fun h=>(A01 (I.node _ (h1 h).1)).2.2,fun h=> ?_⟩
 have:=I.sln;rw[hq]at this
 have this:((if x.Bm=0 then []else [An7 .i64 x.Bm 1])++slL qs).Nodup:=this
 rw[if_neg h,sb1 (by omega) (by omega)]at this
 grind
theorem Bu6{w:C5}{x:Az}{qs:List Az}(X:Bpj w x qs){y:Int}(hy:0≤y∧y<(w.fL.length:Int)):gt (Ayx w x) y=if x.Bm≠0∧y=x.Bm - 1 then A5w (gt w.fL y) w.fC.G9 else gt w.fL y:=by
 unfold Ayx
 by_cases h:x.Bm=0
 ·grind
 ·rw[if_neg h,Ap4 (X.k h) hy]
  grind
theorem Bed{n:As}{gens:Int}(h:1≤n.C9∧n.C9≤gens): ∃st g,A5w n gens=Aqb st g∧(st=0∨st=3)∧1≤g∧g≤gens:=by
 unfold A5w;split
 all_goals grind
theorem Ayl{w:C5}{x:Az}{qs:List Az}(X:Bpj w x qs){y:Int}(hy:0≤y∧y<(w.fL.length:Int)):(gt (Ayx w x) y=gt w.fL y∧ ¬(x.Bm≠0∧y=x.Bm - 1))∨((x.Bm≠0∧y=x.Bm - 1)∧(gt w.fL y).Vi=2∧ ∃st g,gt (Ayx w x) y=Aqb st g∧(st=0∨st=3)∧1≤g∧g≤w.fC.G9):=by
 rw[Bu6 X hy]
 by_cases h:x.Bm≠0∧y=x.Bm - 1
 ·rw[if_pos h];refine .inr ⟨h,by rw[h.2];exact X.st h.1,?_⟩
  exact Bed (by rw[h.2];exact X.gn h.1)
 grind
theorem A72{w:C5}(I:Inv w){t:Int->Lk}(A:AtT w.fL t)(F:Agw w.fL.length t (Axa w.fQ)){x:Az}{qs:List Az}(hq:w.fQ=x::qs)(hf:x.Ef=0):
  ∃t',AtT (Ayx w x) t'∧Agw w.fL.length t' (Axa qs)∧(∀k,Al w.fL.length t k->Al w.fL.length t' k∧(t' k).up=(t k).up):=by
 have X:=Bfu I hq
 have F1:Agw w.fL.length t ((x.Bm,0)::Axa qs):=by rw[hq]at F;rw[←hf];exact F
 by_cases h:x.Bm=0
 ·refine⟨t,?_,A7v F1,fun k hk=>⟨hk,rfl⟩⟩
  simp_all[Ayx]
 ·have hk:=X.k h
  have hlv:(t (x.Bm - 1)).lv=false:=by rw[A _ hk];show((gt w.fL (x.Bm - 1)).Vi==1)=false;rw[X.st h];rfl
  refine⟨clr t (x.Bm - 1),fun y hy=> ?_,Bak F1 h fun e he e2=> ?_,fun k hk=>⟨Bu5 hlv hk,by rw[Alb hlv hk.lv]⟩⟩
  ·rw[Bau]at hy;unfold clr;rcases Ayl X hy with ⟨e,f⟩|⟨f,_,st,g,e,hs,_⟩
   ·rw[if_neg (fun r=>f ⟨h,r⟩),e,A y hy]
   ·rw[if_pos f.2,e];rcases hs with s|s<;>subst s<;>rfl
  ·obtain⟨z,hz,e3⟩:=Ey.1 he
   have e3:z.Bm=e.1:=by grind
   refine X.no h (List.mem_flatMap.2 ⟨z,hz,?_⟩)
   have hs:=X.rc.slot;obtain⟨b1,b2,b3,b4,b5,b6⟩:=A1 I.conf;rw[e3,e2,if_neg h,sb1 (by omega) (by omega)];simp
theorem Bpk{w:C5}(I:Inv w){x:Az}{qs:List Az}(hq:w.fQ=x::qs)(hc:x.Ay=[])(hf:x.Ef=0):Inv (A49 w x qs):=by
 obtain⟨t,A,F⟩:=I.forest
 have X:=Bfu I hq;obtain⟨t',A',F',_⟩:=A72 I A F hq hf
 have hN:=Bau w x
 have hch:chL w.fQ=chL qs:=by rw[hq];show x.Ay++_=_;rw[hc];rfl
 have hsl:slL w.fQ=(if x.Bm=0 then []else [An7 .i64 x.Bm 1])++slL qs:=by rw[hq];rfl
 have hsn:=I.sln;rw[hsl]at hsn
 refine⟨I.pool,by show((Ayx w x).length:Int)=_;rw[hN];exact I.len,fun y hy=> ?_,fun y hy c=> ?_,fun y hy=> ?_,⟨t',A',by show Agw ((Ayx w x).length:Int) t' _;rw[hN];exact F'⟩,fun y hy=>I.wrec y (by rw[hq];exact Z56 _ hy),by show(chL qs).Nodup;grind [Inv.chn],fun c=>by show c∈chL qs ↔ _;rw[←hch];exact I.chi c,?_,fun s=> ?_,I.log⟩
 ·have hy:0≤y∧y<((Ayx w x).length:Int):=hy;rw[hN]at hy
  show Aqj w.fC (gt (Ayx w x) y)=true
  grind [Ayl,Inv.node,A3w,Inv.conf]
 ·have hy:0≤y∧y<((Ayx w x).length:Int):=hy;rw[hN]at hy
  show c∈(gt (Ayx w x) y).Ay ↔ _;rcases Ayl X hy with ⟨e,_⟩|⟨_,h2,st,g,e,hs,hg⟩
  ·rw[e];exact I.own y hy c
  ·rw[e]
   have:=I.own y hy c;rw[Ayj (I.node y hy) (by omega)]at this
   exact this
 ·have hy:0≤y∧y<((Ayx w x).length:Int):=hy;rw[hN]at hy
  show(gt (Ayx w x) y).F6.all (Ari w.fC (gt (Ayx w x) y).Ay)=true∧Aph (gt (Ayx w x) y).F6=true∧Arm w.fC w.fP.N7 (gt (Ayx w x) y)=true;rcases Ayl X hy with ⟨e,_⟩|⟨_,h2,st,g,e,hs,hg⟩
  ·grind [Inv.thing]
  ·rw[e];exact⟨rfl,rfl,rfl⟩
 ·exact(Aid.1 hsn).2.1
 ·show s∈slL qs ↔ (0≤s∧s<((Ayx w x).length:Int))∧(gt (Ayx w x) s).Vi=2
  have hi:=I.sli s;rw[hsl,Mj]at hi
  have hss:=X.rc.slot;obtain⟨b1,b2,b3,b4,b5,b6⟩:=A1 I.conf;rw[hN];constructor
  ·intro h;obtain⟨a,b⟩:=hi.1 (.inr h);refine⟨a,?_⟩;rcases Ayl X a with ⟨e,_⟩|⟨⟨h1,h2⟩,_⟩
   ·grind
   ·rw[h2]at h;grind [Bpj.no]
  ·rintro⟨a,b⟩;rcases Ayl X a with ⟨e,f⟩|⟨_,_,st,g,e,hs,_⟩
   ·rw[e]at b;rcases hi.2 ⟨a,b⟩with h|h
    ·by_cases q:x.Bm=0
     ·grind
     ·rw[if_neg q,sb1 (by omega) (by omega),Pz]at h
      omega
    ·exact h
   ·rw[e]at b
    have b:st=2:=b;omega
theorem Bmm{w:C5}{E:Int}{n:Nat}(G:Dy w E n)(hE:0≤E){x:Az}{qs:List Az}(hq:w.fQ=x::qs)(hc:x.Ay=[])(hf:x.Ef=0):Bec w (A49 w x qs) E:=by
 obtain⟨t,A,F⟩:=G.inv.forest
 have X:=Bfu G.inv hq;obtain⟨t',A',F',hal⟩:=A72 G.inv A F hq hf
 have I':=Bpk G.inv hq hc hf
 have hN:=Bau w x
 have hs:((Ayx w x).map (wtN w.fC)).sum=(w.fL.map (wtN w.fC)).sum:=Bmj _ _ _ hN fun y hy=>by
  rcases Ayl X (y:=(y:Int)) ⟨by omega,by omega⟩with ⟨e,_⟩|⟨_,h2,st,g,e,hs,hg⟩
  ·rw[e]
  ·rw[e,A3k _ (by omega)];simp_all[wtN]
 have ep:pot (A49 w x qs)<pot w:=by
  have h1:1≤wtQ w.fC x:=by grind [wtQ]
  unfold pot;rw[hq]
  show((Ayx w x).map (wtN w.fC)).sum+(qs.map (wtQ w.fC)).sum<_
  grind
 refine⟨I',G.mem,fun y hy=> ?_,ep,?_,?_⟩
 ·have hy:0≤y∧y<((Ayx w x).length:Int):=hy;rw[hN]at hy
  show EpP E (gt (Ayx w x) y);rcases Ayl X hy with ⟨e,_⟩|⟨_,h2,st,g,e,hs,hg⟩
  ·grind [Dy.ep]
  ·rw[e];exact⟨hE,hE,⟨Int.le_refl 0,by show(0:Int)≤1000;omega⟩⟩
 ·unfold wt
  show pot (A49 w x qs)+w.Acy.length≤_;omega
 ·refine Bck G.inv.rg I'.rg A A' F rfl hN fun y hy=> ?_;refine⟨(hal y hy).1,(hal y hy).2,?_⟩;rcases Ayl X hy.lv.1 with ⟨e,_⟩|⟨_,h2,_⟩
  ·exact⟨_,_,_,e⟩
  ·have:=((Aul A).1 hy.lv).2;omega
section
variable {K:Nat} (hK:281474976710656≤K)
include hK
theorem Bmn (w:C5)(hw:A0t w.fP)(l:List Int)(hl:l.length≤140737488355327):Aqy K w l=some (C5.mk w.fC (Akr w.fP l) w.fL w.fQ w.Acy):=by
 unfold Aqy;refine A98 hK l (by omega) A05 w.fP A0t hw (fun s x h=>(A97 h x).1) _ (fun n s i=>Air K l n i w.fC.Ay w.fC.G8 w.fC.E6 w.fC.Gu w.fC.E7 w.fC.G9 s.N7 s.Vi s.N8 w.fL w.fQ w.Acy) (fun n s i h hs=> ?_) (fun n=> ?_)
 ·simp only[Air];rw[Ad8 h,cond_true,if_pos (Akq h),Wx h,show Dn.mk s.N7 s.Vi s.N8=s from rfl,A7q K hs,Z0,Ad5 (by omega)]
 ·show Air K l (n+1) _ _ _ _ _ _ _ _ _ _ _ _ _=_;rw[Air,Arh (Z9 _),cond_false];rfl
theorem Bpl{w:C5}(I:Inv w)(hw:Ak9 w)(hQ:w.fQ.length≤1000000000){x:Az}{qs:List Az}(hq:w.fQ=x::qs)(hf:x.Ef≠0):Axl K w=some (A03 w x qs):=by
 have hm:=V2;obtain⟨t,A,F⟩:=I.forest
 have X:=Bat I A F hq hf
 have hk:=X.lv.1
 have hF:=X.rc.first
 have L:=I.live A X.lv;obtain⟨b1,b2,b3,b4,b5,b6⟩:=A1 I.conf
 have hlen:=I.len
 have hn:=hw.l.1 _ (Al5 hk.1 hk.2)
 have e1:An7 .i64 x.Ef 1=x.Ef - 1:=sb1 (by omega) (by omega)
 have e2:An6 .i64 (x.Ef - 1) 1=x.Ef:=by grind [ad1]
 have hnx:=L.next
 have hlq:(w.fQ).length=qs.length+1:=by grind
 have hj: ∀(l:List As) (q:List Az),l.length=w.fL.length->q.length=w.fQ.length->Ass K (gt w.fL (x.Ef - 1)) (x.Ef - 1) w.fC.Ay w.fC.G8 w.fC.E6 w.fC.Gu w.fC.E7 w.fC.G9 w.fP.N7 w.fP.Vi w.fP.N8 l q w.Acy=some (C5.mk w.fC (Akr w.fP (gt w.fL (x.Ef - 1)).Ay) (l.set (x.Ef - 1).toNat (Aqb 2 (gt w.fL (x.Ef - 1)).C9)) (Ag9 (gt w.fL (x.Ef - 1)) x.Ef::q) w.Acy):=by
  intro l q hl1 hq1
  have h8:=hn.tags.2
  have h9:=hn.chunks.2;unfold Ass;rw[Bmn hK (C5.mk w.fC w.fP l q w.Acy) hw.p _ (A2i hK hn.chunks),Z0];unfold Aze Azp;simp only[Z0,Z38,List.singleton_append,Z28];simp only[hl1,if_pos hk,e2,Z0]
  iterate 4 (try rw[if_pos ⟨by omega,by omega⟩])
  try simp only[Z0]
  iterate 4 (try rw[if_pos ⟨by omega,by omega⟩])
  rfl
 unfold Axl;rw[hq,gt0,if_pos ⟨by omega,by simp⟩,e1]
 simp only[if_pos hk];rw[Atm K hn,Z0,if_pos ⟨by omega,by simp⟩,Aw8,Z0]
 unfold A03 A2a
 have hp:plB w.fL (gt w.fL (x.Ef - 1)).Sn=decide (1≤(gt w.fL (x.Ef - 1)).Sn∧(gt w.fL (x.Ef - 1)).Sn≤(w.fL.length:Int)):=by
  rw[Bool.eq_iff_iff,A46 (by omega) (by omega),decide_eq_true_iff]
  omega
 rw[hp]
 by_cases q:1≤(gt w.fL (x.Ef - 1)).Sn∧(gt w.fL (x.Ef - 1)).Sn≤(w.fL.length:Int)
 ·rw[decide_eq_true q];simp only[cond_true];rw[sb1 (by omega) (by omega),if_pos ⟨by omega,by omega⟩]
  unfold Aqk;exact hj _ _ (by grind) (by grind)
 ·rw[decide_eq_false q];simp only[cond_false];exact hj _ _ rfl (by grind)
theorem Bmo{l:List As}(hl:Ad9 l){k gens:Int}(hk:0≤k∧k<(l.length:Int))(hg:0≤(gt l k).C9∧(gt l k).C9≤1000):Azy K l k gens=some (l.set k.toNat (A5w (gt l k) gens)):=by
 unfold Azy Aky Axm A5w;rw[A2n hK hl,Z0,Azh K (Ad6 hl),decide_eq_true hk];simp only[Z0,Bool.not_true,cond_false,if_pos hk];rw[ad1 (by omega) (by omega)]
 by_cases q:gens≤(gt l k).C9
 ·rw[decide_eq_true (show(gt l k).C9≥gens from q),if_pos q];rfl
 ·rw[decide_eq_false (show ¬(gt l k).C9≥gens from q),if_neg q];rfl
theorem Bfv{w:C5}{E:Int}{n:Nat}(G:Dy w E n)(hE:0≤E∧E≤1000000000)(hn:n≤1000000000)(h0:0<w.fQ.length): ∃w',Au3 K w=some w'∧Bec w w' E:=by
 have hm:=V2
 have W:=G.ww hE.2 hn
 have h1:=Bl6 w
 have h2:=Bea w
 have h3:=G.wt;cases hq:w.fQ with
 |nil=>grind
 |cons x qs=>
 have R:=Azd.1 (Azj G.inv hq).1
 have hlq:(w.fQ).length=qs.length+1:=by grind
 unfold Au3 A1n;rw[hq,gt0,if_pos ⟨by omega,by simp⟩]
 by_cases c1:0<x.Fi.length
 ·refine⟨_,?_,Bmk G hq c1⟩;rw[decide_eq_true (show(x.Fi.length:Int)>0 by omega)]
  simp only[cond_true,Z0,beq_self_eq_true]
  grind [Bu3,Bma.ntag]
 ·rw[decide_eq_false (show ¬(x.Fi.length:Int)>0 by omega)]
  by_cases c2:0<x.Ay.length
  ·refine⟨_,?_,Bhs G hq c2⟩;rw[decide_eq_true (show(x.Ay.length:Int)>0 by omega)]
   simp only[cond_true,cond_false,Z0];rw[show((2:Int)==1)=false from rfl,show((2:Int)==2)=true from rfl]
   simp only[cond_true,cond_false];rw[Bpg hK G.inv W.p hq c2];rfl
  ·rw[decide_eq_false (show ¬(x.Ay.length:Int)>0 by omega)]
   have hc:x.Ay=[]:=Y9.1 (by omega)
   by_cases c3:x.Ef=0
   ·refine⟨_,?_,Bmm G hE.1 hq hc c3⟩
    have X:=Bfu G.inv hq
    have hs:=R.slot;obtain⟨b1,b2,b3,b4,b5,b6⟩:=A1 G.inv.conf
    have et:((x::qs).drop (1:Int).toNat).take (((x::qs).length:Int) - 1).toNat=qs:=by
     simp_all
    rw[c3];simp only[bne_self_eq_false,cond_false,Z0];rw[show((4:Int)==1)=false from rfl,show((4:Int)==2)=false from rfl,show((4:Int)==3)=false from rfl]
    simp only[cond_false]
    have hl1:(((x::qs).length:Nat):Int)=(qs.length:Int)+1:=by simp
    have hj: ∀l:List As,Ast K w.fC.Ay w.fC.G8 w.fC.E6 w.fC.Gu w.fC.E7 w.fC.G9 w.fP.N7 w.fP.Vi w.fP.N8 l (x::qs) w.Acy=some (C5.mk w.fC w.fP l qs w.Acy):=by
     intro l;unfold Ast;rw[et,Z38,hl1,if_pos (show(0:Int)≤1∧(1:Int)≤(qs.length:Int)+1∧(qs.length:Int)+1≤(qs.length:Int)+1 from⟨by omega,by omega,by omega⟩),if_pos (show qs.length*72≤140737488355328∧qs.length≤maxLen from⟨by omega,by omega⟩)]
    rw[if_pos ⟨by omega,by simp⟩]
    unfold A49 Ayx
    by_cases q:x.Bm=0
    ·grind
    ·have hgn:=X.gn q;rw[Azt q,if_neg q,cond_true,if_pos ⟨by omega,by simp⟩,sb1 (by omega) (by omega),Bmo hK W.l (X.k q) ⟨by omega,by omega⟩,Z0]
     exact hj _
   ·refine⟨_,?_,Bht G hE.1 hq c3⟩;rw[Azt c3];simp only[cond_true,cond_false,Z0];rw[show((3:Int)==1)=false from rfl,show((3:Int)==2)=false from rfl,show((3:Int)==3)=true from rfl]
    simp only[cond_true,cond_false];rw[Bpl hK G.inv W (by omega) hq c3];rfl
structure Steps (w w':C5)(E:Int)(n:Nat):Prop where
 good:Dy w' E n
 stay:A31 w w'
theorem Bhu{E:Int}{n:Nat}(hE:0≤E∧E≤1000000000)(hn:n≤1000000000)(m:Int): ∀(f:Nat) (i:Int) (w:C5),Dy w E n->pot w<f-> ∃r w',Asw K m f i w.fC.Ay w.fC.G8 w.fC.E6 w.fC.Gu w.fC.E7 w.fC.G9 w.fP.N7 w.fP.Vi w.fP.N8 w.fL w.fQ w.Acy=some (r,w')∧Steps w w' E n:=by
 intro f
 induction f with
 |zero=>omega
 |succ f ih=>
  intro i w G hf;rw[Asw];cases decide (i<m)with
  |false=>exact⟨m,w,rfl,G,A31.refl w⟩
  |true=>
  simp only[cond_true]
  by_cases q:w.fQ.length=0
  ·rw[q];exact⟨i,w,rfl,G,A31.refl w⟩
  ·obtain⟨w1,e1,S⟩:=Bfv hK G hE hn (by omega)
   have hp:=S.pot;obtain⟨r,w2,e2,S2⟩:=ih (An6 .i64 i 1) w1 (S.good G) (by omega)
   refine⟨r,w2,?_,S2.good,S.stay.trans S2.stay⟩
   simp_all[App]
theorem A69{E:Int}{n:Nat}(hE:0≤E∧E≤1000000000)(hn:n≤1000000000)(m:Int){w:C5}(G:Dy w E n): ∃r w',Au5 K w m=some (r,w')∧Steps w w' E n:=by
 have:=G.wt;unfold wt at this;exact Bhu hK hE hn m K 0 w G (by omega)
def A1k (p:Dn)(at_ n:Int):Bool:=decide (0≤at_)&&(decide (1≤n)&&(decide (at_+n≤(p.Vi.length:Int))&&(List.range n.toNat).all (fun k=>gt p.Vi (at_+(k:Int))==0)))
omit hK in
theorem Axf{p:Dn}{a n:Int}:A1k p a n=true ↔ 0≤a∧1≤n∧a+n≤(p.Vi.length:Int)∧ ∀c,a≤c∧c<a+n->gt p.Vi c=0:=by
 unfold A1k;simp only[Z4,decide_eq_true_eq,Z1,List.mem_range,beq_iff_eq];refine and_congr_right fun h1=>and_congr_right fun h2=>and_congr_right fun h3=> ?_;constructor
 ·intro h c hc
  have:=h (c - a).toNat (by omega)
  grind
 grind
theorem A87{p:Dn}(hp:p.Vi.length≤1000000000){a n:Int}(ha: -1000000000≤a∧a≤1000000000)(hn: -1000000000≤n∧n≤1000000000):Av5 K p a n=some (A1k p a n):=by
 unfold Av5 A1k
 by_cases h1:a<0
 ·grind
 rw[decide_eq_false h1,decide_eq_true (by omega:0≤a)]
 by_cases h2:n<1
 ·grind
 rw[decide_eq_false h2,decide_eq_true (by omega:1≤n)]
 simp only[cond_false,Z30]
 have es:An7 .i64 (p.Vi.length:Int) a=(p.Vi.length:Int) - a:=by grind [An7,Ht]
 rw[es]
 by_cases h3:a+n≤(p.Vi.length:Int)
 ·rw[decide_eq_false (by omega),decide_eq_false (by omega),decide_eq_true h3]
  simp only[cond_false,Z30]
  have ea:An6 .i64 a n=a+n:=by grind [An6,Ht]
  have:=Apt hK n.toNat (by omega) (fun k=>gt p.Vi (a+(k:Int))==0) (some true) (fun f i=>Arp K a n f (a+i) p.N7 p.Vi p.N8) (fun f i h=> ?_) (fun f=> ?_)
  ·grind
  ·simp only[Arp]
   have e1:An6 .i64 (a+(i:Int)) 1=a+((i+1:Nat):Int):=by grind [ad1]
   grind
  grind [Arp]
 grind
theorem A6l{p:Dn}(hp:p.Vi.length≤1000000000){n:Int}(hn: -1000000000≤n∧n≤1000000000): ∃r,Awk K p n=some r∧(r= -1∨A1k p r n=true):=by
 have key: ∀(f i:Nat),i≤p.Vi.length->p.Vi.length - i<f-> ∃r,Arx K n f (i:Int) p.N7 p.Vi p.N8=some r∧(r= -1∨A1k p r n=true):=by
  intro f
  induction f with
  |zero=>omega
  |succ f ih=>
   intro i hi hf;rw[Arx];rcases Hn i p.Vi.length with h|h
   ·rw[Ad8 h,cond_true,show Dn.mk p.N7 p.Vi p.N8=p from rfl,A87 hK hp ⟨by omega,by omega⟩ hn,Z0]
    cases e:A1k p (i:Int) n with
    |true=>grind
    |false=>
     grind [Ad5]
   grind
 exact key K 0 (Z21 _) (by omega)
theorem Bmp{E:Int}{n:Nat}(hE:0≤E∧E≤1000000000)(hn:n≤1000000000)(a:Int){run:Int}(hr: -1000000000≤run∧run≤1000000000): ∀(f:Nat) (i:Int) (w:C5),Dy w E n->pot w<f-> ∃r w',Aqc K a run f i w.fC.Ay w.fC.G8 w.fC.E6 w.fC.Gu w.fC.E7 w.fC.G9 w.fP.N7 w.fP.Vi w.fP.N8 w.fL w.fQ w.Acy=some (r,w')∧Steps w w' E n:=by
 intro f
 induction f with
 |zero=>omega
 |succ f ih=>
  intro i w G hf
  have W:=G.ww hE.2 hn
  have hst:=(Ai0.1 G.inv.pool).st;obtain⟨b1,b2,b3,b4,b5,b6⟩:=A1 G.inv.conf
  have hlen:=G.inv.len;rw[Aqc]
  have hw:C5.mk (Ea.mk w.fC.Ay w.fC.G8 w.fC.E6 w.fC.Gu w.fC.E7 w.fC.G9) (Dn.mk w.fP.N7 w.fP.Vi w.fP.N8) w.fL w.fQ w.Acy=w:=rfl
  have hp:Dn.mk w.fP.N7 w.fP.Vi w.fP.N8=w.fP:=rfl;obtain⟨cn,hcn⟩: ∃cn,Ap7 K w.fL 0=some cn:=⟨_,A2u hK w.fL 0 (by omega)⟩
  rw[hw,hp,hcn]
  by_cases q:0<w.fQ.length
  ·obtain⟨w1,e1,S⟩:=Bfv hK G hE hn q
   have hpot:=S.pot;obtain⟨r,w2,e2,S2⟩:=ih (An6 .i64 i 1) w1 (S.good G) (by omega)
   have hgo: ∃r w',Atx K i w.fC.Ay w.fC.G8 w.fC.E6 w.fC.Gu w.fC.E7 w.fC.G9 w.fP.N7 w.fP.Vi w.fP.N8 w.fL w.fQ w.Acy (Aqc K a run f)=some (r,w')∧Steps w w' E n:=by
    refine⟨r,w2,?_,S2.good,S.stay.trans S2.stay⟩
    simp_all[Atx]
   have hno: ∃r w',(some (i,w):Option (Int×C5))=some (r,w')∧Steps w w' E n:=⟨_,_,rfl,G,A31.refl w⟩;obtain⟨r5,e5,_⟩:=A6l hK (p:=w.fP) (by omega) hr
   grind
  ·rw[decide_eq_false (show ¬(w.fQ.length:Int)>0 by omega)]
   exact⟨_,_,rfl,G,A31.refl w⟩
theorem Bee{E:Int}{n:Nat}(hE:0≤E∧E≤1000000000)(hn:n≤1000000000)(a:Int){run:Int}(hr: -1000000000≤run∧run≤1000000000){w:C5}(G:Dy w E n): ∃r w',Av8 K w a run=some (r,w')∧Steps w w' E n:=by
 have:=G.wt;unfold wt at this;exact Bmp hK hE hn a hr K 0 w G (by omega)
end
section
variable {K:Nat} (hK:281474976710656≤K)
include hK
theorem Bav{l:List As}(hl:l.length≤1000000000): ∃r,Ayp K l=some r∧(r= -1∨(0≤r∧r<(l.length:Int))∧(gt l r).Vi=0):=by
 have key: ∀(f i:Nat),i≤l.length->l.length - i<f-> ∃r,Ara K l f (i:Int)=some r∧(r= -1∨(0≤r∧r<(l.length:Int))∧(gt l r).Vi=0):=by
  intro f
  induction f with
  |zero=>omega
  |succ f ih=>
   intro i hi hf;rw[Ara];rcases Hn i l.length with h|h
   ·rw[Ad8 h,cond_true,if_pos (Akq h),Ad5 (by omega)]
    grind
   grind
 exact key K 0 (Z21 _) (by omega)
theorem A5a{p:Dn}(hp:p.Vi.length≤1000000000): ∃r,Avp K p=some r∧(r= -1∨A1k p r 1=true):=by
 have key: ∀(f i:Nat),i≤p.Vi.length->p.Vi.length - i<f-> ∃r,Arb K f (i:Int) p.N7 p.Vi p.N8=some r∧(r= -1∨A1k p r 1=true):=by
  intro f
  induction f with
  |zero=>omega
  |succ f ih=>
   intro i hi hf;rw[Arb];rcases Hn i p.Vi.length with h|h
   ·rw[Ad8 h,cond_true,if_pos (Akq h),Ad5 (by omega)]
    by_cases e:gt p.Vi (i:Int)=0
    ·rw[e];refine⟨_,rfl,.inr (Axf.2 ⟨by omega,by omega,by omega,fun c hc=> ?_⟩)⟩
     grind
    grind
   grind
 exact key K 0 (Z21 _) (by omega)
structure Bhv (p p':Dn)(a n k:Int):Prop where
 mem:p'.N7=p.N7
 st:p'.Vi.length=p.Vi.length
 own:p'.N8.length=p.N8.length
 one: ∀c,0≤c∧c<(p.Vi.length:Int)->gt p'.Vi c=(if a≤c∧c<a+n then 1 else gt p.Vi c)∧gt p'.N8 c=(if a≤c∧c<a+n then k else gt p.N8 c)
theorem A4n{p:Dn}(hw:A0t p)(hp:p.Vi.length≤1000000)(ho:p.N8.length=p.Vi.length){a n k:Int}(hf:A1k p a n=true): ∃p',Arc K p a n k=some p'∧Bhv p p' a n k:=by
 obtain⟨h1,h2,h3,h4⟩:=Axf.1 hf;unfold Arc;rw[A1g K hw,A87 hK (by omega) ⟨by omega,by omega⟩ ⟨by omega,by omega⟩,hf,ho]
 simp only[Z0,cond_true,bne_self_eq_false,cond_false]
 have ea:An6 .i64 a n=a+n:=by grind [An6,Ht]
 have key: ∀(f i:Nat) (q:Dn),(i:Int)≤n->n.toNat - i<f->Bhv p q a i k-> ∃p',Asu K a n k f (a+(i:Int)) q (Dn.mk [] [] [])=some p'∧Bhv p p' a n k:=by
  intro f
  induction f with
  |zero=>omega
  |succ f ih=>
   intro i q hi hf T;rw[Asu,ea]
   by_cases h:(i:Int)=n
   ·grind
   ·have e1:An6 .i64 (a+(i:Int)) 1=a+((i+1:Nat):Int):=by grind [ad1]
    have hs:=T.st
    have hso:=T.own;rw[decide_eq_true (by omega),cond_true,if_pos ⟨by omega,by omega⟩,if_pos ⟨by omega,by omega⟩,e1]
    refine ih (i+1) _ (by omega) (by omega) ⟨T.mem,by grind,by grind,fun c hc=> ?_⟩
    obtain⟨t1,t2⟩:=T.one c hc;simp only;rw[A17 (by omega) (by omega),A17 (by omega) (by omega),t1,t2]
    omega
 have:=key K 0 p (by omega) (by omega) ⟨rfl,rfl,rfl,fun c hc=>by omega⟩
 grind
end
theorem Bfw{w:C5}(I:Inv w){k:Int}(hk:0≤k∧k<(w.fL.length:Int))(p':Dn)(l':List As)(t':Int->Lk)(hN:l'.length=w.fL.length)
  (ho: ∀x,0≤x∧x<(w.fL.length:Int)->x≠k-> ∃a b c,gt l' x=lnk (gt w.fL x) a b c∧(0≤a∧a≤w.fC.E6)∧(0≤b∧b≤w.fC.E6)∧(0≤c∧c≤w.fC.E6))
  (hs2:(gt w.fL k).Vi≠2) (L:Aq1 w.fC (gt l' k)) (A':AtT l' t') (F':Agw w.fL.length t' (Axa w.fQ))
  (P':A18 w.fC p') (hm:p'.N7=w.fP.N7)
  (hone: ∀c,0≤c∧c<w.fC.Ay->(gt p'.Vi c=2 ↔ gt w.fP.Vi c=2)∧(gt p'.Vi c=1∧gt p'.N8 c=k ↔ c∈(gt l' k).Ay)∧ ∀x,x≠k->(gt p'.Vi c=1∧gt p'.N8 c=x ↔ gt w.fP.Vi c=1∧gt w.fP.N8 c=x))
  (hth:(gt l' k).F6.all (Ari w.fC (gt l' k).Ay)=true∧Aph (gt l' k).F6=true∧Arm w.fC w.fP.N7 (gt l' k)=true):
  Inv (C5.mk w.fC p' l' w.fQ w.Acy):=by
 refine⟨Ai0.2 P',by simp_all[Inv.len],fun x hx=> ?_,fun x hx c=> ?_,fun x hx=> ?_,⟨t',A',by grind⟩,fun x hx=> ?_,I.chn,fun c=> ?_,I.sln,fun s=> ?_,I.log⟩
 ·have hx:0≤x∧x<(l'.length:Int):=hx;rw[hN]at hx
  show Aqj w.fC (gt l' x)=true
  by_cases e:x=k
  ·rw[e];exact(Ail.2 L).1
  ·obtain⟨a,b,c,h1,h2,h3,h4⟩:=ho x hx e;rw[h1]
   by_cases hs:(gt w.fL x).Vi=1
   ·exact(Ail.2 (A7x (Ail.1 ⟨I.node x hx,hs⟩) h2 h3 h4)).1
   ·have X:=Ayj (I.node x hx) hs
    have B:=F'.tree.bare x hx.1 hx.2 (by rw[A' x (by omega),h1];grind [A3e,lnk])
    rw[A' x (by omega),h1]at B
    obtain⟨_,B2,B3,B4⟩:=B
    have q1:a=0:=B2
    have q2:b=0:=B3
    have q3:c=0:=B4
    have this:lnk (gt w.fL x) 0 0 0=gt w.fL x:=by rw[X];rfl
    grind [Inv.node]
 ·have hx:0≤x∧x<(l'.length:Int):=hx;rw[hN]at hx
  show c∈(gt l' x).Ay ↔ (0≤c∧c<w.fC.Ay)∧gt p'.Vi c=1∧gt p'.N8 c=x
  by_cases e:x=k
  ·rw[e];constructor
   ·intro h
    have hin:=Aw5 L.dist c h
    grind
   grind
  ·obtain⟨a,b,d,h1,_⟩:=ho x hx e;rw[h1]
   show c∈(gt w.fL x).Ay ↔ _;rw[I.own x hx c]
   simp_all
 ·have hx:0≤x∧x<(l'.length:Int):=hx;rw[hN]at hx
  show(gt l' x).F6.all (Ari w.fC (gt l' x).Ay)=true∧Aph (gt l' x).F6=true∧Arm w.fC p'.N7 (gt l' x)=true;rw[hm]
  by_cases e:x=k
  ·grind
  ·obtain⟨a,b,d,h1,_⟩:=ho x hx e;rw[h1];exact I.thing x hx
 ·obtain⟨a,b⟩:=I.wrec x hx
  simp_all[An0]
 ·show c∈chL w.fQ ↔ (0≤c∧c<w.fC.Ay)∧gt p'.Vi c=2;rw[I.chi c]
  grind
 ·show s∈slL w.fQ ↔ (0≤s∧s<(l'.length:Int))∧(gt l' s).Vi=2;rw[I.sli s,hN];refine and_congr_right fun h=> ?_
  by_cases e:s=k
  ·grind [Aq1.st]
  ·obtain⟨a,b,d,h1,_⟩:=ho s h e;rw[h1];rfl
theorem A88{w:C5}(I:Inv w){p':Dn}{a n k:Int}(hk:0≤k∧k<(w.fL.length:Int))(hf:A1k w.fP a n=true)(T:Bhv w.fP p' a n k):
  A18 w.fC p'∧ ∀c,0≤c∧c<w.fC.Ay->(gt p'.Vi c=2 ↔ gt w.fP.Vi c=2)∧(gt p'.Vi c=1∧gt p'.N8 c=k ↔ c∈(gt w.fL k).Ay∨a≤c∧c<a+n)∧ ∀x,x≠k->(gt p'.Vi c=1∧gt p'.N8 c=x ↔ gt w.fP.Vi c=1∧gt w.fP.N8 c=x):=by
 have P:=Ai0.1 I.pool;obtain⟨f1,f2,f3,f4⟩:=Axf.1 hf
 have hlen:=I.len;refine⟨⟨P.conf,by rw[T.mem];exact P.mem,by rw[T.st];exact P.st,by rw[T.own];exact P.own,fun c hc=> ?_⟩,fun c hc=> ?_⟩
 ·obtain⟨t1,t2⟩:=T.one c (by rw[P.st];exact hc)
  obtain⟨p1,p2,p3,p4⟩:=P.one c hc;rw[t1,t2,T.mem]
  grind
 ·obtain⟨t1,t2⟩:=T.one c (by rw[P.st];exact hc)
  rw[t1,t2]
  have ho:=I.own k hk c
  grind
structure Bu7 (l l':List As)(p k:Int):Prop where
 len:l'.length=l.length
 at_:gt l' k=As.mk (gt l k).Vi (gt l k).C9 (gt l k).Sl (p+1) (gt l p).Sl (gt l k).Ef (gt l p).Ef 0 (gt l k).Ay (gt l k).Acx (gt l k).Sq (gt l k).F6 (gt l k).Fi
 ot: ∀x,0≤x∧x<(l.length:Int)->x≠k->gt l' x=lnk (gt l x) (if x=p then k+1 else(gt l x).Ef) (gt l x).Sn (if x+1=(gt l p).Ef then k+1 else(gt l x).So)
section
variable {K:Nat} (hK:281474976710656≤K)
include hK
theorem Bpm{l:List As}(hl:Ad9 l)(h8:l.length≤1000){p k:Int}(hp:0≤p∧p<(l.length:Int))(hk:0≤k∧k<(l.length:Int))(hne:p≠k)(hf:0≤(gt l p).Ef∧(gt l p).Ef≤(l.length:Int))(hfk:(gt l p).Ef≠k+1): ∃l',Axd K l p k=some l'∧Bu7 l l' p k:=by
 have e1:An6 .i64 p 1=p+1:=ad1 (by omega) (by omega)
 have e2:An6 .i64 k 1=k+1:=ad1 (by omega) (by omega)
 have e3:An7 .i64 (gt l p).Ef 1=(gt l p).Ef - 1:=sb1 (by omega) (by omega)
 have g1: ∀v,gt (l.set k.toNat v) k=v:=fun v=>Azc hk v
 have g2: ∀v,gt (l.set k.toNat v) p=gt l p:=fun v=>A0g hk.1 hp (Ne.symm hne) v;unfold Axd Ayz;rw[A2n hK hl,Z0,e1,e2,Aw8,decide_eq_true (by omega),Z0,cond_true,Aw8,decide_eq_true (by omega),Z0,cond_true,App hne,cond_false,e3]
 simp only[Aqk,if_pos hp,if_pos hk,Z49,g1,g2,List.set_set];rw[Aw8,Z0]
 have hp': ∀v:As,0≤p∧p<((l.set k.toNat v).length:Int):=fun v=>by grind
 have h2: ∀(u v:As) (x:Int),0≤x∧x<(l.length:Int)->gt ((l.set k.toNat u).set p.toNat v) x=if x=p then v else if x=k then u else gt l x:=by
  grind [Ap4]
 by_cases q:1≤(gt l p).Ef∧(gt l p).Ef≤(l.length:Int)
 ·rw[decide_eq_true q,cond_true,if_pos ⟨by omega,by omega⟩]
  refine⟨_,rfl,by simp,?_,fun x hx hxk=> ?_⟩
  ·rw[A0g (by omega) (by grind) (by omega),A0g hp.1 (by grind) hne,g1]
  ·by_cases a:x=(gt l p).Ef - 1
   ·rw[if_pos (show x+1=(gt l p).Ef by omega),←a,Azc (by grind),h2 _ _ x hx,if_neg hxk]
    by_cases b:x=p
    ·rw[if_pos b,if_pos b,b];rfl
    ·rw[if_neg b,if_neg b];rfl
   ·rw[A0g (by omega) (by grind) (Ne.symm a),h2 _ _ x hx,if_neg hxk,if_neg (show ¬x+1=(gt l p).Ef by omega)]
    by_cases b:x=p
    ·rw[if_pos b,if_pos b,b];rfl
    ·rw[if_neg b,if_neg b];rfl
 ·rw[decide_eq_false q,cond_false];refine⟨_,rfl,by simp,?_,fun x hx hxk=> ?_⟩
  ·grind
  ·rw[h2 _ _ x hx,if_neg hxk,if_neg (show ¬x+1=(gt l p).Ef by omega)]
   by_cases b:x=p
   ·rw[if_pos b,if_pos b,b];rfl
   ·rw[if_neg b,if_neg b];rfl
end
def A8s (g c:Int):As:=As.mk 1 g 0 0 0 0 0 0 [c] (c+1) 0 [] []
structure Bcl (w:C5)(t:Int->Lk)(k c p:Int):Prop where
 hk:0≤k∧k<(w.fL.length:Int)
 st:(gt w.fL k).Vi=0
 free:A1k w.fP c 1=true
 up:p= -1∨Al w.fL.length t p∧(rise w.fL.length t w.fL.length p).length<4
theorem Bcl.bare{w:C5}(I:Inv w){t:Int->Lk}{k c p:Int}(M:Bcl w t k c p):gt w.fL k=Aqb 0 (gt w.fL k).C9:=by
 have:=Ayj (I.node k M.hk) (by grind [st])
 grind [st]
def mkN (w:C5)(k c p:Int):As:=As.mk 1 (gt w.fL k).C9 0 (p+1) (if p+1=0 then 0 else(gt w.fL p).Sl) 0 (if p+1=0 then 0 else(gt w.fL p).Ef) 0 [c] (c+1) 0 [] []
structure Brf (w:C5)(l':List As)(k c p:Int):Prop where
 len:l'.length=w.fL.length
 at_:gt l' k=mkN w k c p
 ot: ∀x,0≤x∧x<(w.fL.length:Int)->x≠k->gt l' x=lnk (gt w.fL x) (if x=p then k+1 else(gt w.fL x).Ef) (gt w.fL x).Sn (if p+1≠0∧x+1=(gt w.fL p).Ef then k+1 else(gt w.fL x).So)
theorem A6m{c:Ea}{n:As}{mem:List Int}{ch:Int}(h1:n.Acx=ch+1)(h2:n.Sq=0)(hz:Aqi (Avi c mem ch)=true)(ha:n.F6.all (fun t=>Am7 t (Auw c n))=true):Arm c mem n=true:=by
 unfold Arm;rw[ha,Bool.and_true,Bool.or_eq_true];refine .inr ?_
 have e1:(Auw c n).fAt=ch*c.G8:=by simp_all[Auw]
 have e2:(Auw c n).Ajm=c.G8:=by grind [Auw]
 rw[e1,e2];exact hz
theorem Bmq{w:C5}(I:Inv w){t:Int->Lk}(A:AtT w.fL t)(F:Agw w.fL.length t (Axa w.fQ)){k c p:Int}(M:Bcl w t k c p){p':Dn}(T:Bhv w.fP p' c 1 k){l':List As}(L:Brf w l' k c p):Inv (C5.mk w.fC p' l' w.fQ w.Acy):=by
 have hk:=M.hk
 have hb:=M.bare I
 have hb1:(gt w.fL k).Ay=[]:=by rw[hb];rfl
 have P:=Ai0.1 I.pool;obtain⟨T1,T2⟩:=A88 I hk M.free T;obtain⟨f1,f2,f3,f4⟩:=Axf.1 M.free;obtain⟨b1,b2,b3,b4,b5,b6⟩:=A1 I.conf
 have hlen:=I.len
 have hg:=A01 (I.node k hk)
 have hc:0≤c∧c<w.fC.Ay:=by have:=P.st;omega
 have hp:p= -1∨(0≤p∧p<(w.fL.length:Int)):=M.up.imp_right fun h=>h.1.lv.1
 have hpf:p+1≠0->(0≤p∧p<(w.fL.length:Int))∧p≠k:=fun h=>by
  rcases M.up with e|⟨e,_⟩
  ·omega
  ·refine⟨e.lv.1,fun q=> ?_⟩
   have:=((Aul A).1 e.lv).2
   grind [Bcl.st]
 have hA:AtT l' (ins t k p):=by
  intro x hx;rw[L.len]at hx
  by_cases e:x=k
  ·subst e;rw[Av0,L.at_];unfold mkN A3e;simp only
   by_cases q:p+1=0
   ·grind
   ·rw[if_neg q,if_neg q,if_neg q,if_neg q,A p (hpf q).1];rfl
  ·rw[Atn e,L.ot x hx e,A x hx]
   by_cases q:p+1=0
   ·rw[if_neg (fun r:p+1≠0∧x+1=(t p).fi=>r.1 q),if_neg (fun r:p+1≠0∧x+1=(gt w.fL p).Ef=>r.1 q)];rfl
   ·rw[A p (hpf q).1];rfl
 have hF:Agw w.fL.length (ins t k p) (Axa w.fQ):=by
  refine Bcb F hk ?_ ?_ M.up
  ·rw[A k hk];show((gt w.fL k).Vi==1)=false;rw[M.st];rfl
  ·rw[A k hk];show((gt w.fL k).Vi==2)=false;rw[M.st];rfl
 have hfp:0≤(if p+1=0 then 0 else(gt w.fL p).Ef)∧(if p+1=0 then 0 else(gt w.fL p).Ef)≤w.fC.E6:=by
  split
  ·omega
  ·rename_i q
   have:=(I.rg.rg p (hpf q).1).2.1;omega
 have hep:0≤(if p+1=0 then 0 else(gt w.fL p).Sl):=by
  split
  ·omega
  ·rename_i q;rcases M.up with e|⟨e,_⟩
   ·omega
   ·exact(I.live A e.lv).ep
 have hz:Aqi (Avi w.fC w.fP.N7 c)=true:=(P.one c hc).2.2.2 (f4 c ⟨by omega,by omega⟩)
 refine Bfw I hk p' l' (ins t k p) L.len (fun x hx e=>⟨_,_,_,L.ot x hx e,?_,?_,?_⟩) (by rw[M.st];decide) ?_ hA hF T1 T.mem (fun x hx=> ?_) ?_
 ·have:=(I.rg.rg x hx).2.1;omega
 ·have:=(I.rg.rg x hx).2.2.1;omega
 ·have:=(I.rg.rg x hx).2.2.2;omega
 ·rw[L.at_];refine⟨I.conf,rfl,hg.2.2,?_,⟨Int.le_refl 0,by show(0:Int)≤_;omega⟩,hfp,⟨Int.le_refl 0,by show(0:Int)≤_;omega⟩,Int.le_refl 0,hep,A19.2 ⟨by simp[mkN],fun x hx=> ?_⟩,?_,Z21 _,Z21 _,rfl,rfl⟩
  ·show 0≤p+1∧p+1≤_;omega
  ·rw[Pz.1 (show x∈[c] from hx)];exact hc
  ·unfold A4u mkN;simp only;rw[App (by omega),cond_false,sb1 (by omega) (by omega),Int.add_sub_cancel,Acw.2 ⟨by omega,by omega⟩]
   simp
 ·obtain⟨a1,a2,a3⟩:=T2 x hx;refine⟨a1,?_,a3⟩;rw[a2,hb1,L.at_]
  show x∈[]∨_ ↔ x∈[c]
  grind
 ·rw[L.at_];exact⟨rfl,rfl,A6m rfl rfl hz rfl⟩
theorem Bmr{l:List As}{t:Int->Lk}(A:AtT l t)(R:Rg l): ∀(n:Nat) (k:Int),Asd l (Agy l n k)=true->A1s l (Agy l n k)=true->Al l.length t k:=by
 intro n
 induction n with
 |zero=>grind [Agy,A1s]
 |succ n ih=>
  intro k h1 h2;unfold Agy at h1 h2
  by_cases hk:0≤k∧k<(l.length:Int)
  ·rw[if_pos hk]at h1 h2
   have hu:=(R.rg k hk).1
   have hl:=R.len;rw[sb1 (by omega) (by omega)]at h1 h2
   cases hr:Agy l n ((gt l k).fUp - 1)with
   |nil=>
    rw[hr]at h1 h2
    have s1:(gt l k).Vi=1:=by grind [Asd]
    have s2:(gt l k).fUp=0:=by
     have:((gt l (gt [k] ((0:Nat):Int))).fUp==0)=true:=by assumption
     exact beq_iff_eq.1 this
    exact .root ((Aul A).2 ⟨hk,s1⟩) (by rw[A k hk];exact s2)
   |cons y r=>
    have hy:y=(gt l k).fUp - 1∧0≤y∧y<(l.length:Int):=by
     cases n with
     |zero=>simp[Agy]at hr
     |succ m=>
      unfold Agy at hr
      grind
    rw[hr]at h1 h2
    have h1:((gt l k).Vi==1&&((gt l k).Sm==(gt l y).Sl)&&Asd l (y::r))=true:=h1;rw[Z4,Z4,beq_iff_eq,beq_iff_eq]at h1;obtain⟨⟨s1,s2⟩,s3⟩:=h1
    have s4:A1s l (y::r)=true:=by
     assumption
    have h5:(gt l y).Vi=1:=by
     cases r with
     |nil=>grind [Asd]
     |cons z r=>
      simp_all[Asd]
    have h6:=ih ((gt l k).fUp - 1) (by grind) (by grind)
    refine .step ((Aul A).2 ⟨hk,s1⟩) ?_ (by rw[A k hk];exact h6)
    unfold Cu;rw[A k hk]
    show Lv _ t ((gt l k).fUp - 1)∧(t ((gt l k).fUp - 1)).ep=(gt l k).Sm;rw[←hy.1,A y hy.2,s2];exact⟨(Aul A).2 ⟨hy.2,h5⟩,rfl⟩
  simp_all[A1s]
theorem A89{w:C5}(I:Inv w){k:Int}(h:Arn w.fL k=true):AlW w.fL k:=by
 obtain⟨t,A,_⟩:=I.forest;unfold Arn at h;rw[Z4]at h;exact⟨t,A,Bmr A I.rg _ _ h.1 h.2⟩
theorem A3z{w:C5}(I:Inv w){h:An}(h0:(Aio w.fL h).2=0):AlW w.fL (Aio w.fL h).1:=by
 unfold Aio at *;cases e1:Ap3 h with
 |false=>grind
 |true=>
  rw[e1]at h0;simp only[cond_true]at h0 ⊢;cases e2:decide (Apr w.fL h<0)with
  |true=>grind
  |false=>
   rw[e2]at h0;simp only[cond_false]at h0 ⊢;cases e3:Arn w.fL (Apr w.fL h)with
   |false=>grind
   |true=>simp_all[A89]
section
variable {K:Nat} (hK:281474976710656≤K)
include hK
theorem Bcm{w:C5}(hw:Ak9 w)(h8:w.fL.length≤1000): ∃r,Azn K w=some r:=by
 have key: ∀(f i:Nat) (v:Int),i≤w.fL.length->w.fL.length - i<f-> ∃r,Ahn K f v (i:Int) w.fC.Ay w.fC.G8 w.fC.E6 w.fC.Gu w.fC.E7 w.fC.G9 w.fP.N7 w.fP.Vi w.fP.N8 w.fL w.fQ w.Acy=some r:=by
  intro f
  induction f with
  |zero=>omega
  |succ f ih=>
   intro i v hi hf;rw[Ahn];rcases Hn i w.fL.length with h|h
   ·have go: ∀v,∃r,Am8 K (i:Int) w.fC.Ay w.fC.G8 w.fC.E6 w.fC.Gu w.fC.E7 w.fC.G9 w.fP.N7 w.fP.Vi w.fP.N8 w.fL w.fQ w.Acy (Ahn K f) v=some r:=by
     intro v;unfold Am8;rw[Ad5 (by omega)]
     exact ih (i+1) v h (by omega)
    rw[Ad8 h,cond_true,if_pos (Akq h),A26 hK hw.l _ ⟨by omega,by omega⟩]
    simp only[Z0,if_pos (Akq h)];cases (gt w.fL (i:Int)).Vi==0 with
    |true=>exact go _
    |false=>
     simp only[cond_false];cases Arn w.fL (i:Int)with
     |true=>exact go _
     |false=>
      simp only[cond_false];cases (gt w.fL (i:Int)).Vi != 3 with
      |false=>exact go _
      |true=>
       simp only[cond_true];cases decide ((gt w.fL (i:Int)).C9<w.fC.G9)<;>exact go _
   ·rw[Arh h];grind
 exact key K 0 0 (Z21 _) (by omega)
theorem A4o{w:C5}(hw:Ak9 w)(h8:w.fL.length≤1000): ∃r,Auz K w=some r∧r.length≤w.fL.length∧ ∀x∈r,(0≤x∧x<(w.fL.length:Int))∧Arn w.fL x=true:=by
 have hm:=V2
 have key: ∀(f i:Nat) (v:List Int),i≤w.fL.length->w.fL.length - i<f->v.length≤i->(∀x∈v,(0≤x∧x<(w.fL.length:Int))∧Arn w.fL x=true)-> ∃r,Aq2 K f v (i:Int) w.fC.Ay w.fC.G8 w.fC.E6 w.fC.Gu w.fC.E7 w.fC.G9 w.fP.N7 w.fP.Vi w.fP.N8 w.fL w.fQ w.Acy=some r∧r.length≤w.fL.length∧ ∀x∈r,(0≤x∧x<(w.fL.length:Int))∧Arn w.fL x=true:=by
  intro f
  induction f with
  |zero=>omega
  |succ f ih=>
   intro i v hi hf hl hv;rw[Aq2];rcases Hn i w.fL.length with h|h
   ·rw[Ad8 h,cond_true,A26 hK hw.l _ ⟨by omega,by omega⟩]
    simp only[Z0];cases e:Arn w.fL (i:Int)with
    |false=>
     simp only[cond_false]
     grind [Asi,Ad5]
    |true=>
     simp only[cond_true];rw[if_pos ⟨by grind,by grind⟩]
     unfold Asi;rw[Ad5 (by omega)]
     refine ih (i+1) _ h (by omega) (by grind) fun x hx=> ?_
     grind
   grind
 exact key K 0 [] (Z21 _) (by omega) (by simp) (fun x hx=>by cases hx)
theorem A3l{w:C5}(hw:Ak9 w)(h8:w.fL.length≤1000)(n:Int): ∃b,Aro K w n=some b:=by
 obtain⟨r,e,hl,_⟩:=A4o hK hw h8
 have key: ∀(f i:Nat) (v:Int),i≤r.length->r.length - i<f-> ∃x,Ap6 K r f v (i:Int) w.fC.Ay w.fC.G8 w.fC.E6 w.fC.Gu w.fC.E7 w.fC.G9 w.fP.N7 w.fP.Vi w.fP.N8 w.fL w.fQ w.Acy=some x:=by
  intro f
  induction f with
  |zero=>omega
  |succ f ih=>
   intro i v hi hf;rw[Ap6];rcases Hn i r.length with h|h
   ·rw[Ad8 h,cond_true,if_pos (Akq h),A4v hK _ _ hw.p.st.2,Z0,Ad5 (by omega)]
    exact ih (i+1) _ h (by omega)
   ·rw[Arh h];grind
 obtain⟨x,ex⟩:=key K 0 0 (Z21 _) (by omega)
 have ex:Ap6 K r K 0 0 w.fC.Ay w.fC.G8 w.fC.E6 w.fC.Gu w.fC.E7 w.fC.G9 w.fP.N7 w.fP.Vi w.fP.N8 w.fL w.fQ w.Acy=some x:=ex;unfold Aro Azo;rw[e,Z0,ex];simp only[Z0];cases decide (n≥0)<;>cases decide (n≤w.fC.Ay)<;>exact⟨_,rfl⟩
omit hK in
theorem A3m{l:List As}(hl:l.length≤1000000)(k:Int): ∃h,Ang K l k=some h:=by
 unfold Ang;rw[Azh K (by omega),Z0]
 by_cases q:0≤k∧k<(l.length:Int)
 all_goals simp_all[decide_eq_false]
end
def A32 (n:As)(c:Int):As:=As.mk n.Vi n.C9 n.Sl n.fUp n.Sm n.Ef n.Sn n.So (n.Ay++[c]) (c+1) 0 n.F6 n.Fi
theorem A5x{c:Ea}{n:As}(L:Aq1 c n){k:Int}(hk:0≤k∧k<c.Ay)(hn:k ∉ n.Ay):Aq1 c (A32 n k):=by
 obtain⟨b1,b2,_⟩:=A1 L.conf
 have hd:=A19.1 L.dist;refine⟨L.conf,L.st,L.gen,L.up,L.first,L.next,L.prev,L.ep,L.ue,A19.2 ⟨Aid.2 ⟨hd.1,by simp,fun x h1 h2=>by grind⟩,fun x hx=> ?_⟩,?_,L.nth,L.ntag,L.tags,L.things⟩
 ·rcases Mj.1 hx with h|h
  all_goals grind
 ·unfold A4u A32;simp only;rw[App (by omega),cond_false,sb1 (by omega) (by omega),Int.add_sub_cancel,Acw.2 ⟨by omega,by omega⟩]
  simp
section
variable {K:Nat} (hK:281474976710656≤K)
include hK
theorem A5y{c:Ea}{n:As}(L:Aq1 c n)(hw:Aql n){k:Int}(hk:0≤k∧k<c.Ay)(hn:k ∉ n.Ay):Auf K c n k=some (A32 n k,true):=by
 have hm:=V2
 have L2:=A5x L hk hn;obtain⟨b1,b2,_⟩:=A1 L.conf
 have h1:=Ar9 L.conf L.dist
 have h3:=L.nth
 have h4:=L.ntag
 have e:As.mk n.Vi n.C9 n.Sl n.fUp n.Sm n.Ef n.Sn n.So (n.Ay++[k]) (An6 .i64 k 1) 0 n.F6 n.Fi=A32 n k:=by grind [A32,ad1]
 unfold Auf
 have hb:A32 n k=A32 n k:=rfl;rw[Atm K hw,Z0,show(n.Vi != 1)=false by rw[L.st];rfl,cond_false,Anh,Ayr hK L.conf,Acw.2 ⟨by omega,by omega⟩,Z0,Bool.not_true,cond_false,if_pos ⟨by grind,by grind⟩,e]
 have hl:(A32 n k).Ay.length=n.Ay.length+1:=by grind
 rw[Avj hK c (A32 n k) (by omega) (show n.F6.length≤_ by omega) (show n.Fi.length≤_ by omega),(Ail.2 L2).1]
 rfl
omit hK in
theorem Dy.le{w:C5}{E E':Int}{n m:Nat}(G:Dy w E n)(hE:E≤E')(h:n≤m):Dy w E' m:=⟨G.inv,G.mem,fun k hk=>by have:=G.ep k hk;exact⟨Int.le_trans this.ep hE,Int.le_trans this.ue hE,this.cur⟩,Vx G.wt h⟩
theorem Bhw{E:Int}{n:Nat}(hE:0≤E∧E≤900000000)(hn:n≤900000000){w:C5}(G:Dy w E n){p at_ ch:Int}(hp:p= -1∨AlW w.fL p∧(Agy w.fL w.fL.length p).length<4)(ha:(0≤at_∧at_<(w.fL.length:Int))∧(gt w.fL at_).Vi=0)(hc:A1k w.fP ch 1=true):
  ∃p' l',Arc K w.fP ch 1 at_=some p'∧(p= -1->l'=w.fL.set at_.toNat (A8s (gt w.fL at_).C9 ch))∧(p≠ -1->Axd K (w.fL.set at_.toNat (A8s (gt w.fL at_).C9 ch)) p at_=some l')∧Dy (C5.mk w.fC p' l' w.fQ w.Acy) E (n+18)∧l'.length=w.fL.length:=by
 have I:=G.inv
 have W:=G.ww (by omega) (by omega)
 obtain⟨t,A,F⟩:=I.forest;obtain⟨b1,b2,b3,b4,b5,b6⟩:=A1 I.conf
 have P:=Ai0.1 I.pool
 have hst:=P.st
 have how:=P.own
 have hlen:=I.len;obtain⟨f1,f2,f3,f4⟩:=Axf.1 hc
 have M:Bcl w t at_ ch p:=⟨ha.1,ha.2,hc,hp.imp_right fun h=>⟨h.1.al A,by rw[A45 A I.rg]at h;exact h.2⟩⟩
 obtain⟨p',ep,T⟩:=A4n hK W.p (by omega) (by omega) (k:=at_) hc
 have hg:=A01 (I.node at_ ha.1)
 have hbare:=M.bare I
 have hl': ∃l',(p= -1->l'=w.fL.set at_.toNat (A8s (gt w.fL at_).C9 ch))∧(p≠ -1->Axd K (w.fL.set at_.toNat (A8s (gt w.fL at_).C9 ch)) p at_=some l')∧Brf w l' at_ ch p:=by
  by_cases q:p= -1
  ·refine⟨w.fL.set at_.toNat (A8s (gt w.fL at_).C9 ch),fun _=>rfl,fun h=>absurd q h,by simp,?_,fun x hx hne=> ?_⟩
   ·rw[Azc ha.1]
    grind [A8s,mkN]
   ·have hpx:x≠p:=by omega
    rw[A0g ha.1.1 hx (Ne.symm hne),if_neg hpx,if_neg (fun r=>r.1 (by omega))]
    rfl
  ·obtain⟨al,_⟩:=hp.resolve_left q
   have al:=al.al A
   have hpi:=al.lv.1
   have hpl:=(Aul A).1 al.lv
   have hne:p≠at_:=fun e=>by grind
   have hgp: ∀v,gt (w.fL.set at_.toNat v) p=gt w.fL p:=fun v=>A0g ha.1.1 hpi (Ne.symm hne) v
   have hnw:Aql (A8s (gt w.fL at_).C9 ch):=⟨K0 (x:=(1:Int)) (by omega) (by omega),K0 (by show _≤(gt w.fL at_).C9;omega) (by show(gt w.fL at_).C9≤_;omega),Aw9,Aw9,Aw9,Aw9,Aw9,Aw9,Avn (fun x hx=>by rw[Pz.1 (show x∈[ch] from hx)];omega) (by show [ch].length≤_;simp),K0 (by show _≤ch+1;omega) (by show ch+1≤_;omega),Aw9,A3a,Ayv⟩
   have hW:Ad9 (w.fL.set at_.toNat (A8s (gt w.fL at_).C9 ch)):=by
    refine⟨fun x hx=> ?_,by grind⟩
    rcases Z54 hx with h|h
    ·exact W.l.1 x h
    grind
   have hfr:=(I.rg.rg p hpi).2.1;obtain⟨l',e,L⟩:=Bpm hK hW (by grind) (p:=p) (k:=at_) (by grind) (by grind) hne (by grind) (by
    rw[hgp];intro e
    have h1:=(F.tree.link p al.lv).first (by rw[A p hpi];show(gt w.fL p).Ef≠0;omega)
    have h2:=((Aul A).1 h1.1).2;rw[A p hpi]at h2
    have h2:(gt w.fL ((gt w.fL p).Ef - 1)).Vi=1:=h2
    grind)
   refine⟨l',fun h=>absurd h q,fun _=>e,by rw[L.len];simp,?_,fun x hx hxk=> ?_⟩
   ·rw[L.at_,Azc ha.1,hgp];unfold A8s mkN
    grind
   ·rw[L.ot x (by grind) hxk,A0g ha.1.1 hx (Ne.symm hxk),hgp]
    grind
 obtain⟨l',h1,h2,L⟩:=hl'
 have I':=Bmq I A F M T L;refine⟨p',l',ep,h1,h2,⟨I',?_,fun x hx=> ?_,?_⟩,L.len⟩
 ·show ∀x∈p'.N7,_;rw[T.mem];exact G.mem
 ·have hx:0≤x∧x<(l'.length:Int):=hx;rw[L.len]at hx
  show EpP E (gt l' x)
  by_cases e:x=at_
  ·rw[e,L.at_];refine⟨hE.1,?_,⟨by show 0≤ch+1;omega,by show ch+1≤_;omega⟩⟩
   show(if p+1=0 then 0 else(gt w.fL p).Sl)≤E
   split
   ·exact hE.1
   ·rename_i q
    have:=(hp.resolve_left (by omega)).1.al A
    exact(G.ep p this.lv.1).ep
  ·rw[L.ot x hx e]
   have:=G.ep x hx;exact⟨this.ep,this.ue,this.cur⟩
 ·have hs:=A3j (f:=wtN w.fC) L.len ha.1 fun x hx hne=>by rw[L.ot x hx hne];rfl
  have e0:wtN w.fC (gt w.fL at_)=0:=by grind [A3k]
  have e1:wtN w.fC (gt l' at_)≤18:=by
   rw[L.at_];unfold wtN mkN
   grind
  have h3:=G.wt;unfold wt pot at h3 ⊢
  grind
end
section
variable {K:Nat} (hK:281474976710656≤K)
include hK
theorem A3n{E:Int}{n:Nat}(hE:0≤E∧E≤900000000)(hn:n≤900000000){w:C5}(G:Dy w E n){p:Int}(a b:Et)(hp:a.W4=0->p= -1∨AlW w.fL p∧(Agy w.fL w.fL.length p).length<4):
  ∃r w',Anp K p w.fC.Ay w.fC.G8 w.fC.E6 w.fC.Gu w.fC.E7 w.fC.G9 w.fP.N7 w.fP.Vi w.fP.N8 w.fL w.fQ w.Acy a b=some (r,w')∧Dy w' E (n+18)∧w'.fC=w.fC:=by
 unfold Anp
 by_cases h0:a.W4=0
 ·have hp:=hp h0;rw[h0];simp only[bne_self_eq_false,cond_false];obtain⟨d,w1,e1,S⟩:=Bee hK (by omega:0≤E∧E≤1000000000) (by omega) 1 (run:=1) (by omega) G
  rw[show C5.mk (Ea.mk w.fC.Ay w.fC.G8 w.fC.E6 w.fC.Gu w.fC.E7 w.fC.G9) (Dn.mk w.fP.N7 w.fP.Vi w.fP.N8) w.fL w.fQ w.Acy=w from rfl,e1]
  simp only[Z0]
  have G1:=S.good
  have T1:=S.stay
  have P1:=Ai0.1 G1.inv.pool
  have hst:=P1.st
  have hlen:=G1.inv.len;obtain⟨b1,b2,b3,b4,b5,b6⟩:=A1 G1.inv.conf;obtain⟨at_,e2,h2⟩:=Bav hK (l:=w1.fL) (by omega)
  obtain⟨ch,e3,h3⟩:=A5a hK (p:=w1.fP) (by omega)
  rw[e2,e3];simp only[Z0]
  have G1':=Dy.le G1 (Int.le_refl E) (by omega:n≤n+18)
  by_cases q1:at_<0
  ·rw[decide_eq_true q1];exact⟨_,_,rfl,G1',T1.conf⟩
  ·rw[decide_eq_false q1];simp only[cond_false]
   by_cases q2:ch<0
   ·rw[decide_eq_true q2];exact⟨_,_,rfl,G1',T1.conf⟩
   ·rw[decide_eq_false q2];simp only[cond_false];obtain⟨hat,hfree⟩:=h2.resolve_left (by omega)
    have hch:=h3.resolve_left (by omega)
    obtain⟨f1,f2,f3,f4⟩:=Axf.1 hch
    have hp1:p= -1∨AlW w1.fL p∧(Agy w1.fL w1.fL.length p).length<4:=hp.imp_right fun h=>by
     obtain⟨x1,_,x3⟩:=T1.node p h.1;rw[x3,T1.len]
     grind
    obtain⟨p',l',et,k1,k2,G2,hl2⟩:=Bhw hK hE hn G1 hp1 ⟨hat,hfree⟩ hch
    have hg:=A01 (G1.inv.node at_ hat)
    have L0:Aq1 w1.fC (As.mk 1 (gt w1.fL at_).C9 0 0 0 0 0 0 [] 0 0 [] []):=⟨G1.inv.conf,rfl,hg.2.2,⟨Int.le_refl 0,by grind⟩,⟨Int.le_refl 0,by grind⟩,⟨Int.le_refl 0,by grind⟩,⟨Int.le_refl 0,by grind⟩,Int.le_refl 0,Int.le_refl 0,rfl,rfl,Z21 _,Z21 _,rfl,rfl⟩
    have W0:Aql (As.mk 1 (gt w1.fL at_).C9 0 0 0 0 0 0 [] 0 0 [] []):=A2q (E:=0) (Ail.2 L0).1 ⟨Int.le_refl 0,Int.le_refl 0,Int.le_refl 0,by grind⟩ (by omega)
    unfold Aky;simp only[Z0,if_pos hat];rw[et,Z0,A5y hK L0 W0 ⟨f1,by omega⟩ (by grind),Z0]
    simp only
    have hnew:A32 (As.mk 1 (gt w1.fL at_).C9 0 0 0 0 0 0 [] 0 0 [] []) ch=A8s (gt w1.fL at_).C9 ch:=rfl;rw[hnew]
    by_cases q3:p= -1
    ·rw[decide_eq_false (by omega: ¬p≥0)]
     simp only[cond_false];rw[←k1 q3];obtain⟨hd,eh⟩:=A3m (K:=K) (l:=l') (by omega) at_
     obtain⟨t,w2,es,S2⟩:=A69 hK (E:=E) (n:=n+18) (by omega) (by omega) w1.fC.Gu G2
     unfold Asx;rw[eh,Z0,show C5.mk (Ea.mk w1.fC.Ay w1.fC.G8 w1.fC.E6 w1.fC.Gu w1.fC.E7 w1.fC.G9) (Dn.mk p'.N7 p'.Vi p'.N8) l' w1.fQ w1.Acy=C5.mk w1.fC p' l' w1.fQ w1.Acy from rfl,es]
     exact⟨_,_,rfl,S2.good,S2.stay.conf.trans T1.conf⟩
    ·have hp2:0≤p:=by
      obtain⟨t,A,F⟩:=G1.inv.forest;exact((hp1.resolve_left q3).1.al A).lv.1.1
     rw[decide_eq_true (show p≥0 from hp2)]
     simp only[cond_true];rw[k2 q3,Z0];obtain⟨hd,eh⟩:=A3m (K:=K) (l:=l') (by omega) at_
     obtain⟨t,w2,es,S2⟩:=A69 hK (E:=E) (n:=n+18) (by omega) (by omega) w1.fC.Gu G2
     unfold Asx;rw[eh,Z0,show C5.mk (Ea.mk w1.fC.Ay w1.fC.G8 w1.fC.E6 w1.fC.Gu w1.fC.E7 w1.fC.G9) (Dn.mk p'.N7 p'.Vi p'.N8) l' w1.fQ w1.Acy=C5.mk w1.fC p' l' w1.fQ w1.Acy from rfl,es]
     exact⟨_,_,rfl,S2.good,S2.stay.conf.trans T1.conf⟩
 ·rw[Azt h0];exact⟨_,_,rfl,Dy.le G (Int.le_refl E) (by omega),rfl⟩
theorem Bcn{E:Int}{n:Nat}(hE:0≤E∧E≤900000000)(hn:n≤900000000){w:C5}(G:Dy w E n){p:Int}(v:Bool)(a b:Et)(hp:v=false->p= -1∨AlW w.fL p∧(Agy w.fL w.fL.length p).length<4):
  ∃r w',Asy K p v w.fC.Ay w.fC.G8 w.fC.E6 w.fC.Gu w.fC.E7 w.fC.G9 w.fP.N7 w.fP.Vi w.fP.N8 w.fL w.fQ w.Acy a b=some (r,w')∧Dy w' E (n+18)∧w'.fC=w.fC:=by
 have W:=G.ww (by omega) (by omega)
 have hlen:=G.inv.len;obtain⟨b1,b2,b3,b4,b5,b6⟩:=A1 G.inv.conf;unfold Asy;cases v with
 |true=>exact A3n hK hE hn G (p:=p) (Et.mk 3 a.fH a.fR a.fB a.W5 a.Gu a.N9) b (fun h=>absurd (show(3:Int)=0 from h) (by decide))
 |false=>
  simp only[cond_false];rw[show C5.mk (Ea.mk w.fC.Ay w.fC.G8 w.fC.E6 w.fC.Gu w.fC.E7 w.fC.G9) (Dn.mk w.fP.N7 w.fP.Vi w.fP.N8) w.fL w.fQ w.Acy=w from rfl]
  obtain⟨r,er⟩:=Bcm hK W (by omega)
  rw[er,Z0];cases r==0 with
  |true=>exact A3n hK hE hn G (p:=p) (Et.mk 4 a.fH a.fR a.fB a.W5 a.Gu a.N9) b (fun h=>absurd (show(4:Int)=0 from h) (by decide))
  |false=>
   simp only[cond_false];obtain⟨f,ef⟩:=A3l hK W (by omega) 1
   rw[ef,Z0];cases f with
   |false=>exact A3n hK hE hn G (p:=p) (Et.mk 5 a.fH a.fR a.fB a.W5 a.Gu a.N9) b (fun h=>absurd (show(5:Int)=0 from h) (by decide))
   |true=>simp_all[A3n]
theorem Bef{E:Int}{n:Nat}(hE:0≤E∧E≤900000000)(hn:n≤900000000){w:C5}(G:Dy w E n)(h:An): ∃r w',Axo K w h=some (r,w')∧Dy w' E (n+18)∧w'.fC=w.fC:=by
 have W:=G.ww (by omega) (by omega)
 have hlen:=G.inv.len;obtain⟨b1,b2,b3,b4,b5,b6⟩:=A1 G.inv.conf
 have hup: ∃p c,Azv K w h=some (p,c)∧(c=0->p= -1∨AlW w.fL p):=by
  unfold Azv;cases ((h.Bm==0)&&((h.C9==0)&&true))with
  |true=>grind
  |false=>
   simp only[cond_false];rw[Aq0 hK W.l,Z0];exact⟨_,_,rfl,fun h0=> .inr (A3z G.inv h0)⟩
 obtain⟨p,c,ep,hp⟩:=hup;unfold Axo;rw[ep,Z0,Ayu hK w W.l,Z0];simp only
 by_cases q:c=0
 ·rw[q];simp only[bne_self_eq_false,cond_false];rcases hp q with e|e
  ·simp_all[Bcn]
  ·have hpi:0≤p∧p<(w.fL.length:Int):=by
    obtain⟨t,A,F⟩:=G.inv.forest;exact(e.al A).lv.1
   rw[decide_eq_true (show p≥0 from hpi.1)]
   simp only[cond_true];unfold Av4;rw[A0u hK W.l p ⟨by omega,by omega⟩]
   simp only[Z0];refine Bcn hK hE hn G _ _ _ (fun hv=> .inr ⟨e,?_⟩)
   grind
 ·rw[Azt q];exact A3n hK hE hn G (p:=p) (Et.mk c (An.mk 0 0) (Br.mk (An.mk 0 0) 0 0) [] (A6g w h) 0 0) (Et.mk 0 (An.mk 0 0) (Br.mk (An.mk 0 0) 0 0) [] 0 0 0) (fun h=>absurd h q)
end
theorem A73{c:Ea}{ch:List Int}{t:Bc}(h:Ari c ch t=true){j:Int}(h0:t.fAt≤j)(h1:j<t.fAt+t.Ajm):j / c.G8∈ch:=by
 unfold Ari at h;rw[Z4,Z1]at h;obtain⟨ht,hc⟩:=h;obtain⟨hs,hin⟩:=A10 ht;obtain⟨b1,b2,_⟩:=A1 hin.1
 have e1:t.fAt / c.G8≤j / c.G8:=Int.ediv_le_ediv (by omega) h0
 have e2:j / c.G8≤(t.fAt+t.Ajm - 1) / c.G8:=Int.ediv_le_ediv (by omega) (by omega)
 have:=hc (j / c.G8 - t.fAt / c.G8).toNat (by grind)
 grind
theorem A5z{a s j:Int}(hs:0<s)(h0:a*s≤j)(h1:j<a*s+s):j / s=a:=by
 have h2:a≤j / s:=(Int.le_ediv_iff_mul_le hs).2 h0
 have h3:j / s<a+1:=Int.ediv_lt_of_lt_mul hs (by grind)
 omega
theorem A2b{a b:Bc}(h: ∀j,a.fAt≤j->j<a.fAt+a.Ajm->b.fAt≤j->j<b.fAt+b.Ajm->False):Am7 a b=true:=by
 unfold Am7;rw[decide_eq_true_iff]
 by_cases h1:a.Ajm≤0
 ·omega
 by_cases h2:b.Ajm≤0
 ·omega
 by_cases h3:a.fAt+a.Ajm≤b.fAt
 ·omega
 by_cases h4:b.fAt+b.Ajm≤a.fAt
 ·omega
 exfalso
 by_cases h5:a.fAt≤b.fAt
 ·exact h b.fAt h5 (by omega) (by omega) (by omega)
 ·exact h a.fAt (by omega) (by omega) (by omega) (by omega)
theorem Bco{a b:Bc}(h:Am7 a b=true){j:Int}(h1:a.fAt≤j)(h2:j<a.fAt+a.Ajm)(h3:b.fAt≤j)(h4:j<b.fAt+b.Ajm):False:=by
 unfold Am7 at h
 grind
theorem Baw{l:List Bc}:Aph l=true ↔ l.Pairwise (fun a b=>Am7 a b=true):=by
 unfold Aph;rw[Z1,List.pairwise_iff_getElem];constructor
 ·intro h i j hi hj hij
  have:=h j (by grind)
  grind [List.mem_iff_getElem,Wx]
 ·intro h j hj;rw[List.mem_range]at hj;rw[Z1];intro o ho;obtain⟨i,hi,e⟩:=List.mem_iff_getElem.1 ho
  grind [Wx]
theorem A5b{l:List Bc}{t:Bc}(h:Aph l=true)(ht: ∀o∈l,Am7 o t=true):Aph (l++[t])=true:=by
 simp_all[Baw,List.pairwise_append]
theorem A5c{c:Ea}{n:As}(L:Aq1 c n)(hc:0≤n.Acx∧n.Acx≤1000)(h0:n.Acx≠0):n.Acx - 1∈n.Ay∧0≤n.Sq∧n.Sq≤c.G8:=by
 have:=L.cur;unfold A4u at this;rw[App h0,cond_false,Z4,Acw,sb1 (by omega) (by omega)]at this
 grind
theorem Bfx{c:Ea}{ch ch':List Int}(h: ∀x∈ch,x∈ch'){t:Bc}(ht:Ari c ch t=true):Ari c ch' t=true:=by
 unfold Ari at ht ⊢;rw[Z4,Z1]at ht ⊢;exact⟨ht.1,fun j hj=>List.contains_iff_mem.2 (h _ (List.contains_iff_mem.1 (ht.2 j hj)))⟩
def A74 (c:Ea)(n:As)(off size:Int):As:=As.mk n.Vi n.C9 n.Sl n.fUp n.Sm n.Ef n.Sn n.So n.Ay n.Acx (off+size) (n.F6++[Bc.mk ((n.Acx - 1)*c.G8+off) size 0]) n.Fi
structure Bms (c:Ea)(n:As)(off size:Int):Prop where
 cur:n.Acx≠0
 ho:n.Sq≤off
 hz:1≤size
 fit:off+size≤c.G8
 cnt:n.F6.length<12
structure ThP (c:Ea)(mem:List Int)(n:As):Prop where
 inch:n.F6.all (Ari c n.Ay)=true
 apart:Aph n.F6=true
 loose:Arm c mem n=true
theorem Bcp{c:Ea}{mem:List Int}{n:As}{off size:Int}(L:Aq1 c n)(hc:0≤n.Acx∧n.Acx≤1000)(T:ThP c mem n)(S:Bms c n off size):Aq1 c (A74 c n off size)∧ThP c mem (A74 c n off size):=by
 obtain⟨b1,b2,_⟩:=A1 L.conf;obtain⟨m1,m2,m3⟩:=A5c L hc S.cur
 have hm:=Aw5 L.dist _ m1
 have ho:=S.ho;have hz:=S.hz;have hf:=S.fit;have hn:=S.cnt
 have hlo:=T.loose;unfold Arm at hlo;rw[App S.cur,Z52,Z4,Z1]at hlo;obtain⟨z1,z2⟩:=hlo
 have q0:0≤(n.Acx - 1)*c.G8:=Int.mul_nonneg (by omega) (by omega)
 have q1:(n.Acx - 1)*c.G8+c.G8≤c.Ay*c.G8:=by
  have:(n.Acx - 1+1)*c.G8≤c.Ay*c.G8:=Int.mul_le_mul_of_nonneg_right (by omega) (by omega)
  grind
 have hby:Ak8 c=c.Ay*c.G8:=by unfold Ak8;rw[L.conf];rfl
 have d1:((n.Acx - 1)*c.G8+off) / c.G8=n.Acx - 1:=A5z (by omega) (by omega) (by omega)
 have d2:((n.Acx - 1)*c.G8+off+size - 1) / c.G8=n.Acx - 1:=A5z (by omega) (by omega) (by omega)
 have htb:Apq c (Bc.mk ((n.Acx - 1)*c.G8+off) size 0)=true:=by
  unfold Apq;rw[decide_eq_true (show Aw4 c (Bc.mk ((n.Acx - 1)*c.G8+off) size 0) from⟨L.conf,hz,by grind,by grind⟩)]
  grind
 have htc:Ari c n.Ay (Bc.mk ((n.Acx - 1)*c.G8+off) size 0)=true:=by
  unfold Ari
  grind
 have hr: ∀o∈n.F6,∀j,o.fAt≤j->j<o.fAt+o.Ajm->(n.Acx - 1)*c.G8+n.Sq≤j->j<(n.Acx - 1)*c.G8+c.G8->False:=fun o h j h1 h2 h3 h4=>Bco (z2 o h) h1 h2 (b:=Auw c n) h3 (by show j<(n.Acx - 1)*c.G8+n.Sq+(c.G8 - n.Sq);omega)
 refine⟨⟨L.conf,L.st,L.gen,L.up,L.first,L.next,L.prev,L.ep,L.ue,L.dist,?_,?_,L.ntag,L.tags,?_⟩,⟨?_,?_,?_⟩⟩
 ·unfold A4u A74;simp only;rw[App S.cur,cond_false,sb1 (by omega) (by omega),List.contains_iff_mem.2 m1,Acw.2 ⟨by omega,by omega⟩];rfl
 ·show(n.F6++[_]).length≤12
  grind
 ·show(n.F6++[_]).all (Apq c)=true
  grind [Aq1.things]
 ·show(n.F6++[_]).all (Ari c n.Ay)=true
  grind [ThP.inch]
 ·refine A5b T.apart fun o h=>A2b fun j h1 h2 h3 h4=>hr o h j h1 h2 ?_ ?_
  all_goals grind
 ·unfold Arm;rw[Bool.or_eq_true,Z4];refine .inr ⟨?_,?_⟩
  ·rw[A3i]at z1 ⊢;intro j h1 h2 h3
   have h1:((n.Acx - 1)*c.G8+(off+size)).toNat≤j:=h1
   have h2:j<((n.Acx - 1)*c.G8+(off+size)).toNat+(c.G8 - (off+size)).toNat:=h2;refine z1 j ?_ ?_ h3
   ·show((n.Acx - 1)*c.G8+n.Sq).toNat≤j;omega
   ·show j<((n.Acx - 1)*c.G8+n.Sq).toNat+(c.G8 - n.Sq).toNat;omega
  ·show(n.F6++[_]).all _=true;rw[List.all_append,Ge,Z4,Z4,Z1];refine⟨fun o h=>A2b fun j h1 h2 h3 h4=>hr o h j h1 h2 ?_ ?_,A2b fun j h1 h2 h3 h4=> ?_,rfl⟩
   ·have h3:(n.Acx - 1)*c.G8+(off+size)≤j:=h3;omega
   ·have h4:j<(n.Acx - 1)*c.G8+(off+size)+(c.G8 - (off+size)):=h4;omega
   ·have h2:j<(n.Acx - 1)*c.G8+off+size:=h2
    have h3:(n.Acx - 1)*c.G8+(off+size)≤j:=h3;omega
def A5d (a n:Int):List Int:=(List.range n.toNat).map (fun(i:Nat)=>a+(i:Int))
theorem A5e{a n x:Int}:x∈A5d a n ↔ a≤x∧x<a+n:=by
 unfold A5d;rw[Ey];constructor
 ·grind
 ·intro h;exact⟨(x - a).toNat,by grind,by omega⟩
theorem Beg (a n:Int):(A5d a n).Nodup:=by
 grind [A5d,List.nodup_range]
def A1u (c:Ea)(n:As)(a run size:Int):As:=As.mk n.Vi n.C9 n.Sl n.fUp n.Sm n.Ef n.Sn n.So (n.Ay++A5d a run) n.Acx n.Sq (n.F6++[Bc.mk (a*c.G8) size run]) n.Fi
structure Beh (c:Ea)(n:As)(a run size:Int):Prop where
 hz:c.G8<size∧size≤200
 hr:run=Atl size c.G8
 at_:0≤a∧a+run≤c.Ay
 new: ∀x∈n.Ay,¬(a≤x∧x<a+run)
 cnt:n.F6.length<12
theorem Bcq{c:Ea}{mem:List Int}{n:As}{a run size:Int}(L:Aq1 c n)(hc:0≤n.Acx∧n.Acx≤1000)(T:ThP c mem n)(S:Beh c n a run size):Aq1 c (A1u c n a run size)∧ThP c mem (A1u c n a run size):=by
 obtain⟨b1,b2,_⟩:=A1 L.conf
 have hz:=S.hz;have ha:=S.at_;have hn:=S.cnt
 have hrun:run=(size+c.G8 - 1) / c.G8:=by
  rw[S.hr];unfold Atl;rw[Acw.2 ⟨by omega,by omega⟩,Acw.2 ⟨by omega,by omega⟩];rfl
 have hru:size≤run*c.G8:=by
  have:=Int.lt_ediv_add_one_mul_self (size+c.G8 - 1) (show 0<c.G8 by omega)
  grind
 have hr1:1≤run:=by
  rw[hrun];exact(Int.le_ediv_iff_mul_le (by omega)).2 (by omega)
 have q0:0≤a*c.G8:=Int.mul_nonneg (by omega) (by omega)
 have q1:a*c.G8+run*c.G8≤c.Ay*c.G8:=by
  rw[←Int.add_mul];exact Int.mul_le_mul_of_nonneg_right (by omega) (by omega)
 have hby:Ak8 c=c.Ay*c.G8:=by unfold Ak8;rw[L.conf];rfl
 have htb:Apq c (Bc.mk (a*c.G8) size run)=true:=by
  unfold Apq;rw[decide_eq_true (show Aw4 c (Bc.mk (a*c.G8) size run) from⟨L.conf,by grind,q0,by grind⟩)]
  show(bif run==0 then _ else decide (size>c.G8)&&(run==Atl size c.G8&&(a*c.G8) % c.G8==0))=true
  rw[App (by omega),cond_false,decide_eq_true (by omega),←S.hr,Int.mul_emod_left];simp
 have hdv: ∀j,a*c.G8≤j->j<a*c.G8+size->a≤j / c.G8∧j / c.G8<a+run:=fun j h1 h2=>by
  refine⟨(Int.le_ediv_iff_mul_le (by omega)).2 h1,Int.ediv_lt_of_lt_mul (by omega) ?_⟩
  grind
 have htc:Ari c (n.Ay++A5d a run) (Bc.mk (a*c.G8) size run)=true:=by
  unfold Ari;rw[htb,Z30,Z1];intro j hj;rw[List.mem_range]at hj
  have e1:=hdv (a*c.G8) (Int.le_refl _) (by omega)
  have e2:=hdv (a*c.G8+size - 1) (by omega) (by omega)
  have hj:j<((a*c.G8+size - 1) / c.G8 - a*c.G8 / c.G8+1).toNat:=hj;refine List.contains_iff_mem.2 (Mj.2 (.inr (A5e.2 ?_)))
  grind
 have hmono: ∀x∈n.Ay,x∈n.Ay++A5d a run:=fun x h=>Mj.2 (.inl h)
 have hold: ∀o∈n.F6,∀j,o.fAt≤j->j<o.fAt+o.Ajm->a*c.G8≤j->j<a*c.G8+size->False:=fun o h j h1 h2 h3 h4=>S.new _ (A73 (Z1.1 T.inch o h) h1 h2) (hdv j h3 h4)
 have hd:=A19.1 L.dist;refine⟨⟨L.conf,L.st,L.gen,L.up,L.first,L.next,L.prev,L.ep,L.ue,?_,?_,?_,L.ntag,L.tags,?_⟩,⟨?_,?_,?_⟩⟩
 ·refine A19.2 ⟨Aid.2 ⟨hd.1,Beg _ _,fun x h1 h2=>S.new x h1 (A5e.1 h2)⟩,fun x hx=> ?_⟩;rcases Mj.1 hx with h|h
  ·grind
  ·have:=A5e.1 h;omega
 ·have:=L.cur;unfold A4u at this ⊢
  show(bif n.Acx==0 then n.Sq==0 else(n.Ay++A5d a run).contains (An7 .i64 n.Acx 1)&&inB n.Sq 0 c.G8)=true
  grind
 ·show(n.F6++[_]).length≤12
  grind
 ·show(n.F6++[_]).all (Apq c)=true
  grind [Aq1.things]
 ·show(n.F6++[_]).all (Ari c (n.Ay++A5d a run))=true;rw[List.all_append,Ge,htc,Z4,Z1];exact⟨fun o h=>Bfx hmono (Z1.1 T.inch o h),rfl⟩
 ·exact A5b T.apart fun o h=>A2b fun j h1 h2 h3 h4=>hold o h j h1 h2 h3 h4
 ·have hlo:=T.loose;unfold Arm at hlo ⊢;rw[Bool.or_eq_true,Z4]at hlo ⊢;rcases hlo with h|⟨h,h'⟩
  ·exact .inl h
  ·by_cases e:n.Acx=0
   ·exact .inl (by show(n.Acx==0)=true;grind)
   ·refine .inr ⟨h,?_⟩
    show(n.F6++[_]).all (fun t=>Am7 t (Auw c n))=true;rw[List.all_append,h',Ge,Z30,Z4];refine⟨A2b fun j h1 h2 h3 h4=> ?_,rfl⟩;obtain⟨m1,m2,m3⟩:=A5c L hc e
    have h3:(n.Acx - 1)*c.G8+n.Sq≤j:=h3
    have h4:j<(n.Acx - 1)*c.G8+n.Sq+(c.G8 - n.Sq):=h4
    have:=A5z (a:=n.Acx - 1) (s:=c.G8) (j:=j) (by omega) (by omega) (by omega)
    exact S.new _ m1 (by grind)
def A4p (al:Int):Bool:=al==1||(al==2||al==4)
theorem A2r (K:Nat)(al:Int):Ard K al=some (A4p al):=by
 grind [Ard,A4p]
theorem Bcr{al:Int}(h:A4p al=true):al=1∨al=2∨al=4:=by
 simp_all[A4p]
theorem Bei (K:Nat){b al:Int}(hb:0≤b∧b≤1000)(ha:A4p al=true): ∃off,Axp K b al=some off∧b≤off∧off≤2000:=by
 unfold Axp;rw[Anh,Acw.2 ⟨by omega,by omega⟩,A2r,ha]
 simp only[Z0,cond_true,Bool.not_true,cond_false]
 have e:An7 .i64 (An6 .i64 b al) 1=b+al - 1:=by
  grind [Bcr,An7,An6,Ht]
 rw[e]
 have key: ∀a:Int,1≤a->a≤4->An8 .i64 (Alk .i64 (b+a - 1) a) a=(b+a - 1) / a*a:=by
  intro a h1 h2
  have h3:(b+a - 1) / a≤b+a - 1:=Int.ediv_le_self _ (by omega)
  have h4:0≤(b+a - 1) / a:=Int.ediv_nonneg (by omega) (by omega)
  have h5:=Auu (a:=(b+a - 1) / a) (b:=a) (m:=2000) (n:=4) h4 (by omega) (by omega) h2
  grind [Alk,An8,Ht]
 rcases Bcr ha with h|h|h
 ·subst h;rw[if_pos (by decide),key 1 (by omega) (by omega)]
  grind
 ·subst h;rw[if_pos (by decide),key 2 (by omega) (by omega)]
  grind
 ·subst h;rw[if_pos (by decide),key 4 (by omega) (by omega)]
  grind
section
variable {K:Nat} (hK:281474976710656≤K)
include hK
theorem A9a{c:Ea}{n:As}(L:Aq1 c n)(W:Aql n)(hc:0≤n.Acx∧n.Acx≤1000)(size al:Int)(hs: -1000000≤size∧size≤1000000): ∃at_ b,Av9 K c n size al=some (at_,b)∧(b=true-> ∃off,at_=(n.Acx - 1)*c.G8+off∧n.Acx≠0∧n.Sq≤off∧1≤size∧off+size≤c.G8):=by
 obtain⟨b1,b2,_⟩:=A1 L.conf
 have h1:=Ar9 L.conf L.dist
 have h3:=L.nth
 have h4:=L.ntag;unfold Av9;rw[Avj hK c n (by omega) (by omega) (by omega),(Ail.2 L).1]
 simp only[Z0,cond_true]
 by_cases q:n.Acx=0
 ·simp_all
 ·rw[App q,Anh];simp only[cond_false,Z0]
  by_cases q2:1≤size∧size≤c.G8
  ·rw[Acw.2 q2,A2r];simp only[cond_true,Z0];cases ha:A4p al with
   |false=>simp_all
   |true=>
    obtain⟨m1,m2,m3⟩:=A5c L hc q
    have hm:=Aw5 L.dist _ m1;obtain⟨off,eo,ho1,ho2⟩:=Bei K (b:=n.Sq) ⟨m2,by omega⟩ ha
    simp only[Bool.not_true,cond_false];rw[eo,Z0]
    have e1:An6 .i64 off size=off+size:=by grind [An6,Ht]
    have e2:An7 .i64 n.Acx 1=n.Acx - 1:=sb1 (by omega) (by omega)
    have h5:=Auu (a:=n.Acx - 1) (b:=c.G8) (m:=12) (n:=16) (by omega) (by omega) (by omega) b2.2
    have e3:An8 .i64 (n.Acx - 1) c.G8=(n.Acx - 1)*c.G8:=by grind [An8,Ht]
    have e4:An6 .i64 ((n.Acx - 1)*c.G8) off=(n.Acx - 1)*c.G8+off:=by grind [An6,Ht]
    rw[e1,e2,e3,e4]
    by_cases q3:off+size>c.G8
    all_goals simp_all[decide_eq_false]
  ·rw[A6z.2 q2];grind
theorem A6n{c:Ea}{n:As}(L:Aq1 c n)(W:Aql n)(hc:0≤n.Acx∧n.Acx≤1000)(size al:Int)(hs: -1000000≤size∧size≤1000000): ∃n' b,Aty K c n size al=some (n',b)∧(n'=n∨ ∃off,Bms c n off size∧n'=A74 c n off size):=by
 have hm:=V2;obtain⟨b1,b2,_⟩:=A1 L.conf
 have h3:=L.nth;obtain⟨at_,b,e,hb⟩:=A9a hK L W hc size al hs;unfold Aty;rw[Atm K W,Z0,e,Z0];cases b with
 |false=>grind
 |true=>
  obtain⟨off,e1,h1,h2,h4,h5⟩:=hb rfl;obtain⟨m1,m2,m3⟩:=A5c L hc h1
  have hmi:=Aw5 L.dist _ m1;simp only[cond_true]
  by_cases q:(n.F6.length:Int)≥12
  ·simp_all
  ·rw[decide_eq_false q];simp only[cond_false];rw[if_pos ⟨by grind,by grind⟩]
   refine⟨_,_,rfl,.inr ⟨off,⟨h1,h2,h4,h5,by omega⟩,?_⟩⟩
   have e2:An7 .i64 n.Acx 1=n.Acx - 1:=sb1 (by omega) (by omega)
   have h6:=Auu (a:=n.Acx - 1) (b:=c.G8) (m:=12) (n:=16) (by omega) (by omega) (by omega) b2.2
   have e3:An8 .i64 (n.Acx - 1) c.G8=(n.Acx - 1)*c.G8:=by grind [An8,Ht]
   have e4:An7 .i64 at_ ((n.Acx - 1)*c.G8)=off:=by grind [An7,Ht]
   have e5:An6 .i64 off size=off+size:=by grind [An6,Ht]
   rw[e2,e3,e4,e5,e1];rfl
theorem Bmt{c:Ea}{n:As}(L:Aq1 c n)(W:Aql n)(hc:0≤n.Acx∧n.Acx≤1000)(size al:Int)(hs: -1000000≤size∧size≤1000000): ∃b,Aum K c n size al=some b:=by
 have h1:=Ar9 L.conf L.dist
 have h3:=L.nth
 have h4:=L.ntag;obtain⟨at_,b,e,hb⟩:=A9a hK L W hc size al hs;unfold Aum;rw[e,Avj hK c n (by omega) (by omega) (by omega),(Ail.2 L).1,Anh,A2r,L.st]
 simp only[Z0];cases b<;>cases inB size 1 c.G8<;>exact⟨_,rfl⟩
theorem Bcs{c:Ea}{mem:List Int}{n:As}(L:Aq1 c n)(W:Aql n)(hc:0≤n.Acx∧n.Acx≤1000)(T:ThP c mem n){a run size:Int}(S:Beh c n a run size):Aqe K c n a size=some (A1u c n a run size,true):=by
 have hm:=V2;obtain⟨b1,b2,_⟩:=A1 L.conf
 have h1:=Ar9 L.conf L.dist
 have h3:=L.nth
 have h4:=L.ntag
 have hz:=S.hz;have ha:=S.at_;obtain⟨L2,T2⟩:=Bcq L hc T S
 have hrun:run=(size+c.G8 - 1) / c.G8:=by
  rw[S.hr];unfold Atl;rw[Acw.2 ⟨by omega,by omega⟩,Acw.2 ⟨by omega,by omega⟩];rfl
 have hru:size≤run*c.G8:=by
  have:=Int.lt_ediv_add_one_mul_self (size+c.G8 - 1) (show 0<c.G8 by omega)
  grind
 have hr1:1≤run:=by
  rw[hrun];exact(Int.le_ediv_iff_mul_le (by omega)).2 (by omega)
 have q1:run*c.G8≤c.Ay*c.G8:=Int.mul_le_mul_of_nonneg_right (by omega) (by omega)
 have hby:Ak8 c=c.Ay*c.G8:=by unfold Ak8;rw[L.conf];rfl
 have e3:An8 .i64 a c.G8=a*c.G8:=by
  have h5:=Auu (a:=a) (b:=c.G8) (m:=12) (n:=16) (by omega) (by omega) (by omega) b2.2
  grind [An8,Ht]
 unfold Aqe Aov Alz;rw[Atm K W,Z0,Aqz,L.conf];simp only[Z0,cond_true];rw[show(n.Vi != 1)=false by rw[L.st];rfl,cond_false,decide_eq_true (by omega),cond_true,Atu,Z0,decide_eq_false (by omega),cond_false,Anh,Ayr hK L.conf,Acw.2 ⟨by omega,by omega⟩]
 simp only[Z0,Bool.not_true,cond_false];rw[A0e,Z0,←S.hr,Z0]
 have key: ∀(f i:Nat) (v:List Int),(i:Int)≤run->run.toNat - i<f->v=n.Ay++(List.range i).map (fun(j:Nat)=>a+(j:Int))->Am9 K c a size run f (i:Int) (As.mk n.Vi n.C9 n.Sl n.fUp n.Sm n.Ef n.Sn n.So v n.Acx n.Sq n.F6 n.Fi) (As.mk 0 0 0 0 0 0 0 0 [] 0 0 [] []) n.Vi n.C9 n.Sl n.fUp n.Sm n.Ef n.Sn n.So n.Ay n.Acx n.Sq n.F6 n.Fi=some (A1u c n a run size,true):=by
  intro f
  induction f with
  |zero=>omega
  |succ f ih=>
   intro i v hi hf hv
   have hvl:v.length=n.Ay.length+i:=by grind
   rw[Am9]
   by_cases h:(i:Int)=run
   ·rw[decide_eq_false (by omega),cond_false,e3]
    simp only;rw[if_pos ⟨by grind,by grind⟩]
    have el:As.mk n.Vi n.C9 n.Sl n.fUp n.Sm n.Ef n.Sn n.So v n.Acx n.Sq (n.F6++[Bc.mk (a*c.G8) size run]) n.Fi=A1u c n a run size:=by
     grind [A1u,A5d]
    have hl2:=L2.nth
    have hl3:=Ar9 L2.conf L2.dist;rw[el,Avj hK c (A1u c n a run size) (by omega) (by omega) (show n.Fi.length≤_ by omega),(Ail.2 L2).1]
    rfl
   ·have e1:An6 .i64 a (i:Int)=a+(i:Int):=by unfold An6;exact Ht (by omega) (by omega)
    rw[decide_eq_true (by omega),cond_true,e1,Ad5 (by omega)]
    simp only;rw[if_pos ⟨by grind,by grind⟩]
    refine ih (i+1) _ (by omega) (by omega) ?_
    grind [List.range_succ]
 have:=key K 0 n.Ay (by omega) (by omega) (by simp)
 exact this
end
theorem A3o{w:C5}{E:Int}{n:Nat}(G:Dy w E n){k:Int}(hk:AlW w.fL k){p':Dn}{n':As}
  (P':A18 w.fC p') (hone: ∀c,0≤c∧c<w.fC.Ay->(gt p'.Vi c=2 ↔ gt w.fP.Vi c=2)∧(gt p'.Vi c=1∧gt p'.N8 c=k ↔ c∈n'.Ay)∧ ∀x,x≠k->(gt p'.Vi c=1∧gt p'.N8 c=x ↔ gt w.fP.Vi c=1∧gt w.fP.N8 c=x))
  (hm:p'.N7=w.fP.N7) (hlk:A3e n'=A3e (gt w.fL k)) (L:Aq1 w.fC n') (T:ThP w.fC w.fP.N7 n') (he:EpP E n') {m:Nat} (hwt:wtN w.fC n'≤wtN w.fC (gt w.fL k)+m):
  Dy (C5.mk w.fC p' (w.fL.set k.toNat n') w.fQ w.Acy) E (n+m)∧AlW (w.fL.set k.toNat n') k∧gt (w.fL.set k.toNat n') k=n':=by
 obtain⟨t,A,F⟩:=G.inv.forest
 have al:=hk.al A
 have hki:=al.lv.1
 have hst:=((Aul A).1 al.lv).2
 have hg: ∀x,0≤x∧x<(w.fL.length:Int)->gt (w.fL.set k.toNat n') x=if x=k then n' else gt w.fL x:=fun x hx=>Ap4 hki hx n'
 have hgk:gt (w.fL.set k.toNat n') k=n':=Azc hki n'
 have A':AtT (w.fL.set k.toNat n') t:=fun x hx=>by
  rw[Z49]at hx;rw[hg x hx,A x hx]
  grind
 have I':Inv (C5.mk w.fC p' (w.fL.set k.toNat n') w.fQ w.Acy):=by
  refine Bfw G.inv hki p' _ t (by simp) (fun x hx hne=>⟨_,_,_,by rw[hg x hx,if_neg hne];exact(A71 _).symm,?_,?_,?_⟩) (by omega) (by grind) A' F P' hm (by simp_all) (by grind [ThP.inch,ThP.apart,ThP.loose])
  ·rw[←G.inv.len];exact(G.inv.rg.rg x hx).2.1
  ·rw[←G.inv.len];exact(G.inv.rg.rg x hx).2.2.1
  ·rw[←G.inv.len];exact(G.inv.rg.rg x hx).2.2.2
 refine⟨⟨I',by show ∀x∈p'.N7,_;rw[hm];exact G.mem,fun x hx=> ?_,?_⟩,⟨t,A',by grind⟩,hgk⟩
 ·have hx:0≤x∧x<((w.fL.set k.toNat n').length:Int):=hx;rw[Z49]at hx
  show EpP E (gt (w.fL.set k.toNat n') x)
  grind [Dy.ep]
 ·have hs:=A3j (f:=wtN w.fC) (l:=w.fL) (l':=w.fL.set k.toNat n') (by simp) hki fun x hx hne=>by grind
  rw[hgk]at hs
  have h3:=G.wt
  grind [wt,pot]
theorem Dy.live{w:C5}{E:Int}{n:Nat}(G:Dy w E n){k:Int}(hk:AlW w.fL k):(0≤k∧k<(w.fL.length:Int))∧Aq1 w.fC (gt w.fL k)∧ThP w.fC w.fP.N7 (gt w.fL k)∧EpP E (gt w.fL k):=by
 obtain⟨t,A,F⟩:=G.inv.forest
 have al:=(hk.al A).lv;obtain⟨t1,t2,t3⟩:=G.inv.thing k al.1;exact⟨al.1,G.inv.live A al,⟨t1,t2,t3⟩,G.ep k al.1⟩
theorem A75{w:C5}(I:Inv w){k:Int}(hk:0≤k∧k<(w.fL.length:Int)){ch:List Int}(h:ch=(gt w.fL k).Ay): ∀c,0≤c∧c<w.fC.Ay->(gt w.fP.Vi c=2 ↔ gt w.fP.Vi c=2)∧(gt w.fP.Vi c=1∧gt w.fP.N8 c=k ↔ c∈ch)∧ ∀x,x≠k->(gt w.fP.Vi c=1∧gt w.fP.N8 c=x ↔ gt w.fP.Vi c=1∧gt w.fP.N8 c=x):=fun c hc=>⟨Iff.rfl,by simp_all[Inv.own],fun _ _=>Iff.rfl⟩
theorem A9b{w:C5}(I:Inv w){p':Dn}{a n k:Int}(hk:0≤k∧k<(w.fL.length:Int))(hf:A1k w.fP a n=true)(T:Bhv w.fP p' a n k){ch:List Int}(h: ∀c,c∈ch ↔ c∈(gt w.fL k).Ay∨a≤c∧c<a+n):
  A18 w.fC p'∧ ∀c,0≤c∧c<w.fC.Ay->(gt p'.Vi c=2 ↔ gt w.fP.Vi c=2)∧(gt p'.Vi c=1∧gt p'.N8 c=k ↔ c∈ch)∧ ∀x,x≠k->(gt p'.Vi c=1∧gt p'.N8 c=x ↔ gt w.fP.Vi c=1∧gt w.fP.N8 c=x):=by
 obtain⟨a1,a2⟩:=A88 I hk hf T
 grind
section
variable {K:Nat} (hK:281474976710656≤K)
include hK
theorem A9c{E:Int}{n:Nat}(hE:0≤E∧E≤900000000)(hn:n≤900000000){w:C5}(G:Dy w E n){k:Int}(hk:AlW w.fL k)(size al:Int)(hs: -1000000≤size∧size≤1000000)(v19:Et)(v20 v21 v22 v23 v24 v25 v26:Int)(v27:List Int)(v28 v29 v30:Int):
  ∃r w',Ary K k size al w.fC.Ay w.fC.G8 w.fC.E6 w.fC.Gu w.fC.E7 w.fC.G9 w.fP.N7 w.fP.Vi w.fP.N8 w.fL w.fQ w.Acy v19 v20 v21 v22 v23 v24 v25 v26 v27 v28 v29 v30=some (r,w')∧Dy w' E n∧w'.fC=w.fC∧w'.fL.length=w.fL.length:=by
 obtain⟨hki,L,T,e⟩:=G.live hk
 have W:=A2q (Ail.2 L).1 e (by omega)
 obtain⟨n',b,e1,h⟩:=A6n hK L W e.cur size al hs;unfold Ary;simp only[if_pos hki];rw[show Ea.mk w.fC.Ay w.fC.G8 w.fC.E6 w.fC.Gu w.fC.E7 w.fC.G9=w.fC from rfl,e1,Z0]
 have P:=Ai0.1 G.inv.pool;refine⟨_,_,rfl,?_,rfl,by simp⟩
 rcases h with h|⟨off,S,h⟩
 ·rw[h];exact(A3o G hk (n':=gt w.fL k) (m:=0) P (A75 G.inv hki rfl) rfl rfl L T e (by omega)).1
 ·rw[h];obtain⟨L2,T2⟩:=Bcp L e.cur T S;exact(A3o G hk (n':=A74 w.fC (gt w.fL k) off size) (m:=0) P (A75 G.inv hki rfl) rfl rfl L2 T2 ⟨e.ep,e.ue,e.cur⟩ (Z9 _)).1
theorem Bmu{E:Int}{n:Nat}(hE:0≤E∧E≤900000000)(hn:n≤880000000){w:C5}(G:Dy w E n){k:Int}(hk:AlW w.fL k)(size al:Int)(hs: -1000000≤size∧size≤1000000)(a4:Et):
  ∃r w',Awp K w k size al a4=some (r,w')∧Dy w' E (n+16)∧w'.fC=w.fC∧w'.fL.length=w.fL.length:=by
 obtain⟨hki,L,T,e⟩:=G.live hk
 have W:=A2q (Ail.2 L).1 e (by omega)
 have WW:=G.ww (by omega) (by omega)
 have hlen:=G.inv.len;obtain⟨b1,b2,b3,b4,b5,b6⟩:=A1 G.inv.conf;obtain⟨nb,e1⟩:=Bmt hK L W e.cur size al hs;unfold Awp;simp only[if_pos hki];rw[e1,Z0];cases nb with
 |false=>
  simp only[cond_false];obtain⟨r,w',h1,h2,h3⟩:=A9c hK hE (by omega) G hk size al hs (Et.mk 0 (An.mk 0 0) (Br.mk (An.mk 0 0) 0 0) [] 0 0 0) a4.W4 a4.fH.Bm a4.fH.C9 a4.fR.fH.Bm a4.fR.fH.C9 a4.fR.Sl a4.fR.fNo a4.fB a4.W5 a4.Gu a4.N9
  exact⟨r,w',h1,Dy.le h2 (Int.le_refl E) (by omega),h3⟩
 |true=>
  simp only[cond_true];obtain⟨fb,ef⟩:=A3l hK WW (by omega) 1
  rw[ef,Z0];cases fb with
  |false=>exact⟨_,_,rfl,Dy.le G (Int.le_refl E) (by omega),rfl,rfl⟩
  |true=>
   simp only[Bool.not_true,cond_false];obtain⟨d,w1,ed,S⟩:=Bee hK (by omega:0≤E∧E≤1000000000) (by omega) 0 (run:=1) (by omega) G
   have G1:=S.good;obtain⟨hk1,⟨x1,x2,x3,hnode⟩,_⟩:=S.stay.node k hk;obtain⟨hki1,L1,T1,e1⟩:=G1.live hk1
   have W1:=A2q (Ail.2 L1).1 e1 (by omega)
   have WW1:=G1.ww (by omega) (by omega)
   have P1:=Ai0.1 G1.inv.pool
   have hst:=P1.st
   have how:=P1.own
   have hc1:=S.stay.conf;obtain⟨ch,ec,hch⟩:=A5a hK (p:=w1.fP) (by grind)
   rw[ed,Z0];simp only;rw[ec,Z0]
   by_cases q:ch<0
   ·rw[decide_eq_true q];exact⟨_,_,rfl,Dy.le G1 (Int.le_refl E) (by omega),hc1,S.stay.len⟩
   ·rw[decide_eq_false q];simp only[cond_false]
    have hf:=hch.resolve_left (by omega)
    obtain⟨f1,f2,f3,f4⟩:=Axf.1 hf;obtain⟨p',ep,T'⟩:=A4n hK WW1.p (by grind) (by omega) (k:=k) hf
    have hnew:ch ∉ (gt w1.fL k).Ay:=fun h=>by
     have:=((G1.inv.own k hki1 ch).1 h).2.1
     grind
    rw[ep,Z0];simp only[if_pos hki1];rw[A5y hK L1 W1 ⟨f1,by omega⟩ hnew,Z0]
    simp only[if_pos hki1];obtain⟨P',hone⟩:=A9b G1.inv hki1 hf T' (ch:=(A32 (gt w1.fL k) ch).Ay) fun c=>by
     show c∈(gt w1.fL k).Ay++[ch] ↔ _
     grind
    have T2:ThP w1.fC w1.fP.N7 (A32 (gt w1.fL k) ch):=by
     refine⟨?_,T1.apart,?_⟩
     ·rw[Z1];exact fun o ho=>Bfx (fun x hx=>Mj.2 (.inl hx)) (Z1.1 T1.inch o ho)
     ·refine A6m rfl rfl ((P1.one ch ⟨f1,by omega⟩).2.2.2 (f4 ch ⟨by omega,by omega⟩)) ?_
      rw[Z1];intro o ho;refine A2b fun j h1 h2 h3 h4=> ?_
      have h3:(ch+1 - 1)*w1.fC.G8+0≤j:=h3
      have h4:j<(ch+1 - 1)*w1.fC.G8+0+(w1.fC.G8 - 0):=h4;rw[Int.add_sub_cancel]at h3 h4
      have:=A5z (a:=ch) (s:=w1.fC.G8) (j:=j) (by omega) (by omega) (by omega)
      have h5:=A73 (Z1.1 T1.inch o ho) h1 h2
      grind
    obtain⟨G2,hk2,hg2⟩:=A3o G1 hk1 (n':=A32 (gt w1.fL k) ch) (m:=16) P' hone T'.mem rfl (A5x L1 ⟨f1,by omega⟩ hnew) T2 ⟨e1.ep,e1.ue,⟨by show 0≤ch+1;omega,by show ch+1≤_;grind⟩⟩ (by
     have hz:w1.fC.G8.toNat≤16:=by grind
     have hst1:(A32 (gt w1.fL k) ch).Vi=1:=L1.st;unfold wtN;rw[if_pos L1.st,if_pos hst1]
     show 2+(gt w1.fL k).Fi.length+w1.fC.G8.toNat*((gt w1.fL k).Ay++[ch]).length≤_;rw[Z23,List.length_singleton,Nat.mul_succ];omega)
    obtain⟨r,w',h1,h2,h3,h4⟩:=A9c hK hE (n:=n+16) (by omega) G2 hk2 size al hs (Et.mk 0 (An.mk 0 0) (Br.mk (An.mk 0 0) 0 0) [] 0 0 0) a4.W4 a4.fH.Bm a4.fH.C9 a4.fR.fH.Bm a4.fR.fH.C9 a4.fR.Sl a4.fR.fNo a4.fB a4.W5 a4.Gu d
    refine⟨r,w',h1,h2,h3.trans hc1,h4.trans ?_⟩
    show(w1.fL.set _ _).length=_
    grind [A31.len,Steps.stay]
theorem Bmv{E:Int}{n:Nat}(hE:0≤E∧E≤900000000)(hn:n≤900000000){w:C5}(G:Dy w E n){k:Int}(hk:AlW w.fL k)(size:Int)(hs:w.fC.G8<size∧size≤200)(hcnt:(gt w.fL k).F6.length<12)(a4:Et):
  ∃r w',Awo K w k size a4=some (r,w')∧Dy w' E (n+192)∧w'.fC=w.fC∧w'.fL.length=w.fL.length:=by
 have WW:=G.ww (by omega) (by omega)
 have hlen:=G.inv.len;obtain⟨b1,b2,b3,b4,b5,b6⟩:=A1 G.inv.conf;unfold Awo Alz;rw[A0e,Z0,Z0];obtain⟨fb,ef⟩:=A3l hK WW (by omega) (Atl size w.fC.G8)
 have hrun:Atl size w.fC.G8=(size+w.fC.G8 - 1) / w.fC.G8:=by
  unfold Atl;rw[Acw.2 ⟨by omega,by omega⟩,Acw.2 ⟨by omega,by omega⟩];rfl
 have hr2:Atl size w.fC.G8≤1000:=by
  have:(size+w.fC.G8 - 1) / w.fC.G8≤size+w.fC.G8 - 1:=Int.ediv_le_self _ (by omega)
  omega
 have hr1:1≤Atl size w.fC.G8:=by
  rw[hrun];exact(Int.le_ediv_iff_mul_le (by omega)).2 (by omega)
 rw[ef,Z0];cases fb with
 |false=>exact⟨_,_,rfl,Dy.le G (Int.le_refl E) (by omega),rfl,rfl⟩
 |true=>
  simp only[Bool.not_true,cond_false];obtain⟨d,w1,ed,S⟩:=Bee hK (by omega:0≤E∧E≤1000000000) (by omega) 0 (run:=Atl size w.fC.G8) (by omega) G
  have G1:=S.good;obtain⟨hk1,⟨x1,x2,x3,hnode⟩,_⟩:=S.stay.node k hk;obtain⟨hki1,L1,T1,e1⟩:=G1.live hk1
  have W1:=A2q (Ail.2 L1).1 e1 (by omega)
  have WW1:=G1.ww (by omega) (by omega)
  have P1:=Ai0.1 G1.inv.pool
  have hst:=P1.st
  have how:=P1.own
  have hc1:=S.stay.conf;rw[hc1]at hst how;obtain⟨at_,ec,hat⟩:=A6l hK (p:=w1.fP) (n:=Atl size w.fC.G8) (by omega) (by omega)
  rw[ed,Z0];simp only;rw[ec,Z0]
  by_cases q:at_<0
  ·rw[decide_eq_true q];exact⟨_,_,rfl,Dy.le G1 (Int.le_refl E) (by omega),hc1,S.stay.len⟩
  ·rw[decide_eq_false q];simp only[cond_false]
   have hf:=hat.resolve_left (by omega)
   obtain⟨f1,f2,f3,f4⟩:=Axf.1 hf;obtain⟨p',ep,T'⟩:=A4n hK WW1.p (by omega) (by omega) (k:=k) hf
   have SP:Beh w1.fC (gt w1.fL k) at_ (Atl size w.fC.G8) size:=by
    refine⟨by grind,by rw[hc1],by grind,fun x hx h=> ?_,by rw[hnode];exact hcnt⟩
    have:=((G1.inv.own k hki1 x).1 hx).2.1
    grind
   obtain⟨L2,T2⟩:=Bcq L1 e1.cur T1 SP;rw[ep,Z0];simp only[if_pos hki1];rw[Bcs hK L1 W1 e1.cur T1 SP,Z0]
   try simp only[if_pos hki1]
   obtain⟨P',hone⟩:=A9b G1.inv hki1 hf T' (ch:=(A1u w1.fC (gt w1.fL k) at_ (Atl size w.fC.G8) size).Ay) fun c=>by
    show c∈(gt w1.fL k).Ay++A5d at_ (Atl size w.fC.G8) ↔ _
    simp_all[A5e]
   obtain⟨G2,hk2,hg2⟩:=A3o G1 hk1 (n':=A1u w1.fC (gt w1.fL k) at_ (Atl size w.fC.G8) size) (m:=192) P' hone T'.mem rfl L2 T2 ⟨e1.ep,e1.ue,e1.cur⟩ (by
    have hst1:(A1u w1.fC (gt w1.fL k) at_ (Atl size w.fC.G8) size).Vi=1:=L1.st;unfold wtN;rw[if_pos L1.st,if_pos hst1]
    show 2+(gt w1.fL k).Fi.length+w1.fC.G8.toNat*((gt w1.fL k).Ay++A5d at_ (Atl size w.fC.G8)).length≤_
    have hrl:(A5d at_ (Atl size w.fC.G8)).length≤12:=by grind [A5d]
    have:=Nat.mul_le_mul (show w1.fC.G8.toNat≤16 by grind) hrl
    rw[Z23,Nat.mul_add];omega)
   refine⟨_,_,rfl,G2,hc1,?_⟩
   show(w1.fL.set _ _).length=_
   grind [A31.len,Steps.stay]
theorem A9d{E:Int}{n:Nat}(hE:0≤E∧E≤900000000)(hn:n≤900000000){w:C5}(G:Dy w E n){k:Int}(hk:0≤k∧k<(w.fL.length:Int))(h:An)(c a b d e f g:Int)(l:List Int)(x y z:Int):
  ∃r w',Arz K h k w.fC.Ay w.fC.G8 w.fC.E6 w.fC.Gu w.fC.E7 w.fC.G9 w.fP.N7 w.fP.Vi w.fP.N8 w.fL w.fQ w.Acy c a b d e f g l x y z=some (r,w')∧Dy w' E n∧w'.fC=w.fC:=by
 unfold Arz;rw[show C5.mk (Ea.mk w.fC.Ay w.fC.G8 w.fC.E6 w.fC.Gu w.fC.E7 w.fC.G9) (Dn.mk w.fP.N7 w.fP.Vi w.fP.N8) w.fL w.fQ w.Acy=w from rfl]
 cases c != 0 with
 |true=>grind
 |false=>
  simp only[cond_false];obtain⟨t,w2,es,S2⟩:=A69 hK (E:=E) (n:=n) (by omega) (by omega) w.fC.Gu G
  simp only[if_pos hk,es,Z0];exact⟨_,_,rfl,S2.good,S2.stay.conf⟩
theorem A50{E:Int}{n:Nat}(hE:0≤E∧E≤900000000)(hn:n≤800000000){w:C5}(G:Dy w E n)(h:An){size al:Int}(hs:1≤size∧size≤200){k:Int}(a b:Et)(hk:a.W4=0->AlW w.fL k∧(gt w.fL k).F6.length<12):
  ∃r w',Ap8 K h size al k w.fC.Ay w.fC.G8 w.fC.E6 w.fC.Gu w.fC.E7 w.fC.G9 w.fP.N7 w.fP.Vi w.fP.N8 w.fL w.fQ w.Acy a b=some (r,w')∧Dy w' E (n+192)∧w'.fC=w.fC:=by
 unfold Ap8 Aov;rw[show C5.mk (Ea.mk w.fC.Ay w.fC.G8 w.fC.E6 w.fC.Gu w.fC.E7 w.fC.G9) (Dn.mk w.fP.N7 w.fP.Vi w.fP.N8) w.fL w.fQ w.Acy=w from rfl,show Ea.mk w.fC.Ay w.fC.G8 w.fC.E6 w.fC.Gu w.fC.E7 w.fC.G9=w.fC from rfl]
 by_cases h0:a.W4=0
 ·obtain⟨hk,hcnt⟩:=hk h0
  have hki:=(G.live hk).1;rw[h0];simp only[bne_self_eq_false,cond_false,Z0]
  by_cases q:size>w.fC.G8
  ·rw[decide_eq_true q];simp only[cond_true];obtain⟨r,w',h1,h2,h3,h4⟩:=Bmv hK hE (by omega) G hk size ⟨q,hs.2⟩ hcnt a
   rw[h1,Z0];obtain⟨r2,w2,k1,k2,k3⟩:=A9d hK hE (n:=n+192) (by omega) h2 (k:=k) (by omega) h r.W4 r.fH.Bm r.fH.C9 r.fR.fH.Bm r.fR.fH.C9 r.fR.Sl r.fR.fNo r.fB r.W5 r.Gu r.N9
   grind
  ·rw[decide_eq_false q];simp only[cond_false];obtain⟨r,w',h1,h2,h3,h4⟩:=Bmu hK hE (by omega) G hk size al (by omega) a
   rw[h1,Z0];obtain⟨r2,w2,k1,k2,k3⟩:=A9d hK hE (n:=n+16) (by omega) h2 (k:=k) (by omega) h r.W4 r.fH.Bm r.fH.C9 r.fR.fH.Bm r.fR.fH.C9 r.fR.Sl r.fR.fNo r.fB r.W5 r.Gu r.N9
   exact⟨r2,w2,k1,Dy.le k2 (Int.le_refl E) (by omega),k3.trans h3⟩
 ·rw[Azt h0];exact⟨_,_,rfl,Dy.le G (Int.le_refl E) (by omega),rfl⟩
theorem Bct{E:Int}{n:Nat}(hE:0≤E∧E≤900000000)(hn:n≤800000000){w:C5}(G:Dy w E n)(h:An)(size al:Int): ∃r w',Awq K w h size al=some (r,w')∧Dy w' E (n+192)∧w'.fC=w.fC:=by
 have W:=G.ww (by omega) (by omega)
 have G0:=Dy.le G (Int.le_refl E) (by omega:n≤n+192)
 unfold Awq;rw[Anh,Z0]
 by_cases q:1≤size∧size≤200
 ·rw[Acw.2 q,A2r];simp only[cond_true,Z0];cases A4p al with
  |false=>exact⟨_,_,rfl,G0,rfl⟩
  |true=>
   simp only[Bool.not_true,cond_false];rw[Aq0 hK W.l,Z0,Ayu hK w W.l,Z0]
   by_cases h0:(Aio w.fL h).2=0
   ·have hal:=A3z G.inv h0
    have hki:=(G.live hal).1;rw[h0];simp only[beq_self_eq_true,cond_true];simp only[if_pos hki]
    by_cases q2:((gt w.fL (Aio w.fL h).1).F6.length:Int)≥12
    ·rw[decide_eq_true q2];exact A50 hK hE hn G h q (al:=al) (k:=(Aio w.fL h).1) (Et.mk 8 (An.mk 0 0) (Br.mk (An.mk 0 0) 0 0) [] (A6g w h) 0 0) (Et.mk 0 (An.mk 0 0) (Br.mk (An.mk 0 0) 0 0) [] 0 0 0) (fun f=>absurd (show(8:Int)=0 from f) (by decide))
    ·rw[decide_eq_false q2];exact A50 hK hE hn G h q (al:=al) (k:=(Aio w.fL h).1) (Et.mk 0 (An.mk 0 0) (Br.mk (An.mk 0 0) 0 0) [] (A6g w h) 0 0) (Et.mk 0 (An.mk 0 0) (Br.mk (An.mk 0 0) 0 0) [] 0 0 0) (fun f=>⟨hal,by omega⟩)
   ·rw[App h0];exact A50 hK hE hn G h q (al:=al) (k:=(Aio w.fL h).1) (Et.mk (Aio w.fL h).2 (An.mk 0 0) (Br.mk (An.mk 0 0) 0 0) [] (A6g w h) 0 0) (Et.mk 0 (An.mk 0 0) (Br.mk (An.mk 0 0) 0 0) [] 0 0 0) (fun f=>absurd f h0)
 ·rw[A6z.2 q]
  grind
end
def Em (mem:List Int)(p:Int)(s:List Int):List Int:=mem.take p.toNat++s++mem.drop (p.toNat+s.length)
def A5f (mem:List Int)(t:Bc)(off:Int)(s:List Int):Bool:=decide ((0≤off∧(0:Int)≤(s.length:Int)∧off+(s.length:Int)≤t.Ajm)∧0≤An6 .i64 t.fAt off∧An6 .i64 t.fAt off+(s.length:Int)≤(mem.length:Int))
def A76 (mem:List Int)(t:Bc)(off:Int)(s:List Int):List Int×Bool:=bif A5f mem t off s then(Em mem (An6 .i64 t.fAt off) s,true)else(mem,false)
theorem E0{mem:List Int}{p:Int}{s:List Int}(h0:0≤p)(h1:p+(s.length:Int)≤(mem.length:Int)):(Em mem p s).length=mem.length:=by
 grind [Em]
theorem Bmw{mem s:List Int}{p j:Nat}(hj:j<s.length)(hp:p+s.length≤mem.length):(mem.take p++s.take j++mem.drop (p+j)).set (p+j) s[j]=mem.take p++s.take (j+1)++mem.drop (p+(j+1)):=by
 have hl:(mem.take p++s.take j).length=p+j:=by grind
 rw[List.set_append_right _ _ (by omega),hl,Nat.sub_self,Z47 (by omega:p+j<mem.length),List.set_cons_zero,←List.take_append_getElem hj]
 grind
section
variable {K:Nat} (hK:281474976710656≤K)
include hK
theorem Bej{mem s:List Int}(hm:mem.length≤140737488355327)(p:Int)(hs:s.length≤140737488355327):Az3 K mem p s=some (bif decide (0≤p∧(0:Int)≤(s.length:Int)∧p+(s.length:Int)≤(mem.length:Int))then(Em mem p s,true)else(mem,false)):=by
 have hx:=V2;unfold Az3;simp only[Z38];rw[if_pos ⟨by omega,by omega⟩,Bb7 K hm,Z0,Ad4]
 by_cases h:0≤p∧(0:Int)≤(s.length:Int)∧p+(s.length:Int)≤(mem.length:Int)
 ·rw[decide_eq_true h,cond_true,cond_true];obtain⟨q,rfl⟩: ∃q:Nat,p=q:=⟨p.toNat,by omega⟩
  have:=A62 hK s (by omega) (fun _=>true) (some (Em mem (q:Int) s,true)) none (fun n j=>Ap2 K (q:Int) s n (mem.take q++s.take j++mem.drop (q+j)) (j:Int)) (fun n j hj=> ?_) (fun n=> ?_)
  ·rw[Z1.2 (fun _ _=>rfl)]at this
   simp_all
  ·have hl:(mem.take q++s.take j++mem.drop (q+j)).length=mem.length:=by grind
   have e:An6 .i64 (q:Int) (j:Int)=((q+j:Nat):Int):=by grind [An6,Ht]
   show Ap2 K (q:Int) s (n+1) _ _=_;rw[Ap2,Ad8 hj,cond_true,if_pos (Akq hj),e,hl,if_pos ⟨by omega,by omega⟩,Ad5 (by omega),Wx hj,Int.toNat_natCast,Bmw hj (by omega)]
   rfl
  ·show Ap2 K (q:Int) s (n+1) _ _=_
   simp_all[Ap2,Em]
 grind
theorem A6v{mem s:List Int}(hm:mem.length≤140737488355327)(hs:s.length≤140737488355327){t:Bc}(wt:ThingW t)(off:Int):Aup K mem t off s=some (A76 mem t off s):=by
 have hx:=V2;obtain⟨wl1,wl2⟩:=wt.2.1;unfold Aup Axv A76 A5f;simp only[Z38];rw[if_pos ⟨by omega,by omega⟩,Bej hK hm _ hs]
 simp only[Z0];rw[decide_eq_true (show(s.length:Int)≥0 by omega)]
 by_cases h1:(0:Int)≤off
 ·rw[decide_eq_true (show off≥0 from h1)]
  by_cases h3:off≤t.Ajm
  ·rw[decide_eq_true h3]
   have e:An7 .i64 t.Ajm off=t.Ajm - off:=by grind [An7,Ht]
   grind
  grind
 grind
end
def Byg (n:As)(v:Int):As:=As.mk n.Vi n.C9 n.Sl n.fUp n.Sm n.Ef n.Sn n.So n.Ay n.Acx n.Sq n.F6 (n.Fi++([v]:List Int))
theorem Bpn (K:Nat)(r:Br): ∃b,Az1 K r=some b:=by
 unfold Az1;rw[A34];simp only[Z0];cases Ap3 r.fH<;>cases decide (r.Sl≥0)<;>exact⟨_,rfl⟩
theorem Bhy (K:Nat){n:As}(hn:Aql n)(r:Br): ∃t b,Axu K n r=some (t,b)∧(b=true->t∈n.F6):=by
 have h2:=hn.things
 have hl:n.F6.length≤140737488355327:=by have:=h2.2;omega
 unfold Axu;rw[Azh K hl];simp only[Z0]
 by_cases hs:0≤r.fNo∧r.fNo<(n.F6.length:Int)
 ·rw[decide_eq_true hs,if_pos hs]
  have hm:gt n.F6 r.fNo∈n.F6:=Al5 hs.1 hs.2;cases n.Vi != 1<;>cases n.Sl != r.Sl<;>first|simp_all|grind
 ·rw[decide_eq_false hs]
  simp_all
theorem A6o{K:Nat}(hK:281474976710656≤K){w:C5}(I:Inv w)(hw:Ad9 w.fL)(r:Br): ∃k t c,As1 K w r=some (k,t,c)∧(c=0->AlW w.fL k∧t∈(gt w.fL k).F6):=by
 unfold As1;obtain⟨b,h1⟩:=Bpn K r;rw[h1,Aq0 hK hw];simp only[Z0];cases b with
 |false=>exact⟨_,_,_,rfl,fun h=>by cases h⟩
 |true=>
  simp only[Bool.not_true,cond_false]
  by_cases h0:(Aio w.fL r.fH).2=0
  ·have hi:=A0w h0
   have hal:=A3z I h0;rw[if_pos hi,h0];obtain⟨q,b,h3,h4⟩:=Bhy K (hw.1 _ (Al5 hi.1 hi.2)) r;rw[h3];simp only[Z0,bne_self_eq_false,cond_false];cases b with
   |false=>exact⟨_,_,_,rfl,fun h=>by cases h⟩
   |true=>exact⟨_,_,_,rfl,fun _=>⟨hal,h4 rfl⟩⟩
  ·rw[Azt h0]
   grind
theorem Bpo{mem:List Int}{p:Int}{s:List Int}(h0:0≤p)(h1:p+(s.length:Int)≤(mem.length:Int)){j:Nat}(hj:j<mem.length)(h: ¬(p≤(j:Int)∧(j:Int)<p+(s.length:Int))):gt (Em mem p s) (j:Int)=gt mem (j:Int):=by
 have hl:=E0 h0 h1;rw[Wx (by omega),Wx hj]
 unfold Em
 by_cases q:(j:Int)<p
 ·grind
 ·rw[List.getElem_append_right (by grind),List.getElem_drop]
  grind
theorem Bmx{mem:List Int}{p:Int}{s:List Int}(hm: ∀x∈mem,0≤x∧x≤255)(hs: ∀x∈s,0≤x∧x≤255): ∀x∈Em mem p s,0≤x∧x≤255:=by
 intro x hx;unfold Em at hx;rcases Mj.1 hx with h|h
 ·rcases Mj.1 h with h|h
  ·exact hm x (Z42 h)
  ·exact hs x h
 ·exact hm x (List.mem_of_mem_drop h)
theorem Bmy{w:C5}{E:Int}{n:Nat}(G:Dy w E n){k:Int}(hk:AlW w.fL k){t:Bc}(ht:t∈(gt w.fL k).F6){mem':List Int}(hl:mem'.length=w.fP.N7.length)
  (hb: ∀x∈mem',0≤x∧x≤255) (hs: ∀j:Nat,j<w.fP.N7.length-> ¬(t.fAt≤(j:Int)∧(j:Int)<t.fAt+t.Ajm)->gt mem' (j:Int)=gt w.fP.N7 (j:Int)):
  Dy (C5.mk w.fC (Dn.mk mem' w.fP.Vi w.fP.N8) w.fL w.fQ w.Acy) E n:=by
 have I:=G.inv
 have P:=Ai0.1 I.pool;obtain⟨hki,L,T,e⟩:=G.live hk;obtain⟨b1,b2,b3,b4,b5,b6⟩:=A1 I.conf
 have hin: ∀j,t.fAt≤j->j<t.fAt+t.Ajm->j / w.fC.G8∈(gt w.fL k).Ay:=fun j h1 h2=>A73 (Z1.1 T.inch t ht) h1 h2
 have hz: ∀a m:Nat,Aqi ((w.fP.N7.drop a).take m)=true->(∀j:Nat,a≤j->j<a+m-> ¬(t.fAt≤(j:Int)∧(j:Int)<t.fAt+t.Ajm))->Aqi ((mem'.drop a).take m)=true:=by
  grind [A3i]
 have hch: ∀c,0≤c∧c<w.fC.Ay->gt w.fP.Vi c≠1-> ∀j:Nat,(c*w.fC.G8).toNat≤j->j<(c*w.fC.G8).toNat+w.fC.G8.toNat-> ¬(t.fAt≤(j:Int)∧(j:Int)<t.fAt+t.Ajm):=by
  intro c hc hst j h1 h2 h3
  have h0:0≤c*w.fC.G8:=Int.mul_nonneg hc.1 (by omega)
  have h4:=hin j h3.1 h3.2;rw[A5z (a:=c) (by omega) (by omega) (by omega)]at h4
  exact hst ((I.own k hki c).1 h4).2.1
 refine⟨Bar I (Dn.mk mem' w.fP.Vi w.fP.N8) w.fQ w.Acy ⟨P.conf,by rw[←P.mem];grind,P.st,P.own,fun c hc=> ?_⟩ (fun c hc=>⟨Iff.rfl,rfl⟩) (fun x hx=> ?_) rfl rfl (fun x hx=> ?_) I.chn I.chi I.log,hb,G.ep,G.wt⟩
 ·obtain⟨p1,p2,p3,p4⟩:=P.one c hc;refine⟨p1,p2,p3,fun h=>hz _ _ (p4 h) fun j h1 h2=>hch c hc ?_ j h1 h2⟩
  grind
 ·have h3:=(I.thing x hx).2.2
  by_cases hs1:(gt w.fL x).Vi=1
  ·have Lx:=Ail.1 ⟨I.node x hx,hs1⟩
   have ex:=G.ep x hx
   by_cases hcur:(gt w.fL x).Acx=0
   ·grind [Arm]
   ·obtain⟨m1,m2,m3⟩:=A5c Lx ex.cur hcur
    have hm:=Aw5 Lx.dist _ m1
    have h0:0≤((gt w.fL x).Acx - 1)*w.fC.G8:=Int.mul_nonneg hm.1 (by omega)
    unfold Arm at h3 ⊢;rw[App hcur,Z52,Z4]at h3 ⊢;refine⟨hz _ _ h3.1 fun j h1 h2 h4=> ?_,h3.2⟩
    have h1:(((gt w.fL x).Acx - 1)*w.fC.G8+(gt w.fL x).Sq).toNat≤j:=h1
    have h2:j<(((gt w.fL x).Acx - 1)*w.fC.G8+(gt w.fL x).Sq).toNat+(w.fC.G8 - (gt w.fL x).Sq).toNat:=h2
    have h5:=hin j h4.1 h4.2;rw[A5z (a:=(gt w.fL x).Acx - 1) (by omega) (by omega) (by omega)]at h5
    have e1:=((I.own k hki _).1 h5).2.2
    have e2:=((I.own x hx _).1 m1).2.2
    have exk:x=k:=by omega
    rw[exk]at h3 h1 h2;refine Bco (Z1.1 h3.2 t ht) h4.1 h4.2 (b:=Auw w.fC (gt w.fL k)) ?_ ?_
    ·grind
    ·show(j:Int)<((gt w.fL k).Acx - 1)*w.fC.G8+(gt w.fL k).Sq+(w.fC.G8 - (gt w.fL k).Sq)
     grind
  ·rw[Ayj (I.node x hx) hs1];rfl
 ·obtain⟨a,b⟩:=I.wrec x hx;refine⟨a,?_⟩
  have R:=Azd.1 a
  by_cases hc:0<x.Ay.length
  ·have hm:gt x.Ay 0∈x.Ay:=Ane (i:=0) hc
   have h1:=(I.chi _).1 (Ban hx hm);unfold An0 at b ⊢;rw[Bool.or_eq_true]at b ⊢;rcases b with b|b
   ·grind
   ·refine .inr (hz _ _ b fun j h2 h3=>hch _ h1.1 (by omega) j h2 ?_)
    have hd:=R.done
    grind
  grind [An0]
section
variable {K:Nat} (hK:281474976710656≤K)
include hK
theorem Bpp{E:Int}{n:Nat}(hE:0≤E∧E≤900000000)(hn:n≤800000000){w:C5}(G:Dy w E n)(r:Br)(off m:Int): ∃a,A08 K w r off m=some (w,a):=by
 have W:=G.ww (by omega) (by omega)
 have P:=A5v (Ai0.1 G.inv.pool);obtain⟨k,t,c,e,h⟩:=A6o hK G.inv W.l r;unfold A08;rw[Ayg hK W,A0f hK w W,G.inv.ok,e,Ayu hK w W.l];simp only[Z0,Bool.not_true,cond_false]
 by_cases h0:c=0
 ·obtain⟨hk,ht⟩:=h h0
  have hT:=Baq (Z1.1 (G.live hk).2.1.things t ht);rw[h0];simp only[bne_self_eq_false,cond_false];rw[A7p K (by omega) hT,Z0]
  cases (Blm w.fP.N7 t off m).2<;>exact⟨_,rfl⟩
 simp_all[Azt]
theorem Bmz{E:Int}{n:Nat}(hE:0≤E∧E≤900000000)(hn:n≤800000000){w:C5}(G:Dy w E n)(r:Br)(off:Int){s:List Int}(hs: ∀x∈s,0≤x∧x≤255)(hl:s.length≤1000000): ∃a w',Az4 K w r off s=some (w',a)∧Dy w' E n∧w'.fC=w.fC:=by
 have W:=G.ww (by omega) (by omega)
 have P:=A5v (Ai0.1 G.inv.pool);obtain⟨k,t,c,e,h⟩:=A6o hK G.inv W.l r;unfold Az4;rw[Ayg hK W,A0f hK w W,G.inv.ok,e,Ayu hK w W.l];simp only[Z0,Bool.not_true,cond_false]
 by_cases h0:c=0
 ·obtain⟨hk,ht⟩:=h h0
  have htb:=Z1.1 (G.live hk).2.1.things t ht
  have hT:=Baq htb;obtain⟨s1,s2,s3,s4⟩:=(A10 htb).1;rw[h0];simp only[bne_self_eq_false,cond_false];rw[A6v hK (by omega) (by omega) hT,Z0]
  unfold A76;cases ho:A5f w.fP.N7 t off s with
  |false=>exact⟨_,_,rfl,G,rfl⟩
  |true=>
   unfold A5f at ho;rw[decide_eq_true_iff]at ho
   have ea:An6 .i64 t.fAt off=t.fAt+off:=by grind [An6,Ht]
   rw[ea]at ho ⊢;refine⟨_,_,rfl,Bmy G hk ht (E0 (by omega) (by omega)) (Bmx G.mem hs) (fun j hj hne=>Bpo (by omega) (by omega) hj (by omega)),rfl⟩
 ·rw[Azt h0];grind
theorem Bm0{E:Int}{n:Nat}(hE:0≤E∧E≤900000000)(hn:n≤800000000){w:C5}(G:Dy w E n)(h:An)(v:Int): ∃a w',A2f K w h v=some (w',a)∧Dy w' E (n+1)∧w'.fC=w.fC:=by
 have hm:=V2
 have W:=G.ww (by omega) (by omega)
 have G0:=Dy.le G (Int.le_refl E) (by omega:n≤n+1)
 unfold A2f Axw Az5;rw[Ayg hK W,A0f hK w W,G.inv.ok,Anh,Aq0 hK W.l,Ayu hK w W.l];simp only[Z0,cond_true]
 by_cases hv:0≤v∧v≤255
 ·rw[Acw.2 hv];simp only[Bool.not_true,cond_false]
  by_cases h0:(Aio w.fL h).2=0
  ·have hal:=A3z G.inv h0;obtain⟨hki,L,T,e⟩:=G.live hal;rw[h0];simp only[beq_self_eq_true,cond_true,if_pos hki]
   by_cases q:((gt w.fL (Aio w.fL h).1).Fi.length:Int)≥6
   ·rw[decide_eq_true q];grind
   ·rw[decide_eq_false q];simp only[cond_false];rw[if_pos ⟨by grind,by grind⟩]
    refine⟨_,_,rfl,?_,rfl⟩
    have P:=Ai0.1 G.inv.pool;refine(A3o G hal (n':=Byg (gt w.fL (Aio w.fL h).1) v) (m:=1) P (A75 G.inv hki rfl) rfl rfl ⟨L.conf,L.st,L.gen,L.up,L.first,L.next,L.prev,L.ep,L.ue,L.dist,L.cur,L.nth,?_,?_,L.things⟩ ⟨T.inch,T.apart,T.loose⟩ ⟨e.ep,e.ue,e.cur⟩ ?_).1
    ·show(_++[v]).length≤6
     grind
    ·show(_++[v]).all _=true;rw[List.all_append,L.tags,Ge,Acw.2 hv];rfl
    ·have hst1:(Byg (gt w.fL (Aio w.fL h).1) v).Vi=1:=L.st;unfold wtN;rw[if_pos L.st,if_pos hst1]
     show 2+(_++[v]).length+w.fC.G8.toNat*(gt w.fL (Aio w.fL h).1).Ay.length≤_
     grind
  ·rw[App h0]
   grind
 ·rw[A6z.2 hv];exact⟨_,_,rfl,G0,rfl⟩
theorem Bm1{E:Int}{n:Nat}(hE:0≤E∧E≤900000000)(hn:n≤800000000){w:C5}(G:Dy w E n)(h:An): ∃a,Az6 K w h=some (w,a):=by
 have W:=G.ww (by omega) (by omega)
 unfold Az6 Axx;rw[Ayg hK W,A0f hK w W,G.inv.ok,Aq0 hK W.l,Ayu hK w W.l];simp only[Z0,Bool.not_true,cond_false]
 by_cases h0:(Aio w.fL h).2=0
 ·have hal:=A3z G.inv h0;obtain⟨hki,L,T,e⟩:=G.live hal
  have hn:=W.l.1 _ (Al5 hki.1 hki.2);rw[h0];simp only[beq_self_eq_true,cond_true,if_pos hki];unfold A0k;rw[Avj hK _ _ (A2i hK hn.chunks) (Bfh hK hn.things) (A2i hK hn.tags)];simp only[Z0];cases (gt w.fL (Aio w.fL h).1).Acx==0<;>cases Aqj w.fC (gt w.fL (Aio w.fL h).1)<;>exact⟨_,rfl⟩
 simp_all[App]
end
def Axb (a:List Int):Prop:= ∀x∈a,0≤x∧x≤255
theorem Bek{a b:List Int}(h:Axb a)(g:Axb b):Axb (a++b):=by
 intro x hx;rcases Mj.1 hx with h1|h1
 ·exact h x h1
 ·exact g x h1
def Ae2 (c:D1):Prop:=Axb c.fb∧c.fb.length≤1048576∧0≤c.fi∧c.fi≤(c.fb.length:Int)
theorem Bfy (x:Int):0≤An9 .i64 x 255∧An9 .i64 x 255≤255:=by
 grind [An9,BitVec.ofInt,IntKind.bits,Nat.and_le_right,Ht]
theorem Bel (K:Nat){a:List Int}(hb:Axb a)(ha:a.length≤1048576): ∀(n i:Nat) (v:Int),i≤a.length->a.length - i<n-> ∃c,Aux K a n v (i:Int)=some c∧Ae2 c:=by
 intro n
 induction n with
 |zero=>omega
 |succ n ih=>
  intro i v hi hn;rw[Aux]
  have done: ∀v,Ae2 (D1.mk a 0 v):=fun v=>⟨hb,ha,by grind,by grind⟩
  rcases Hn i a.length with h|h
  ·rw[Ad8 h];simp only[cond_true];cases decide ((i:Int)<4000)with
   |false=>grind
   |true=>
    simp only[cond_true];rw[if_pos ⟨by omega,by omega⟩,Ad5 (i:=i) (by omega)]
    exact ih (i+1) _ h (by omega)
  ·rw[Arh h];grind
theorem Bcu{K:Nat}(hK:281474976710656≤K){a:List Int}(hb:Axb a)(ha:a.length≤1048576): ∃c,Axg K a=some c∧Ae2 c:=by
 unfold Axg;exact Bel K hb ha K 0 _ (Z21 _) (by omega)
theorem A30 (K:Nat){c:D1}(hc:Ae2 c): ∃r,Aqw K c=some r∧(0≤r.1∧r.1≤255)∧Ae2 r.2:=by
 obtain⟨h1,h2,h3,h4⟩:=hc;unfold Aqw Awi;rw[if_pos (by decide),if_pos (by decide)]
 by_cases h:c.fi<(c.fb.length:Int)
 ·rw[decide_eq_true h];simp only[cond_true];rw[if_pos ⟨h3,h⟩]
  have e:An6 .i64 c.fi 1=c.fi+1:=by grind [An6,Ht]
  exact⟨_,rfl,Bfy _,h1,h2,by grind,by grind⟩
 ·rw[decide_eq_false h];exact⟨_,rfl,Bfy _,h1,h2,h3,h4⟩
theorem Agp (K:Nat){c:D1}(hc:Ae2 c){n:Int}(hn:0<n): ∃r,Ap K c n=some r∧(0≤r.1∧r.1<n)∧Ae2 r.2:=by
 unfold Ap;rw[decide_eq_false (show ¬n≤0 by omega)]
 simp only[cond_false];obtain⟨r1,e1,b1,w1⟩:=A30 K hc
 by_cases h:n≤256
 ·rw[decide_eq_true h,e1];simp only[cond_true,Z0];rw[if_pos (by omega)]
  simp_all[Int.tmod_nonneg,Int.tmod_lt_of_pos]
 ·rw[decide_eq_false h,e1];simp only[cond_false,Z0];obtain⟨r2,e2,b2,w2⟩:=A30 K w1;rw[e2];simp only[Z0];obtain⟨r3,e3,b3,w3⟩:=A30 K w2;rw[e3];simp only[Z0];rw[if_pos (by omega)]
  refine⟨_,rfl,⟨Int.tmod_nonneg _ ?_,Int.tmod_lt_of_pos _ hn⟩,w3⟩;unfold An6 An8;rw[Ht (n:=r1.1*65536) (by omega) (by omega),Ht (n:=r2.1*256) (by omega) (by omega),Ht (n:=r1.1*65536+r2.1*256) (by omega) (by omega),Ht (by omega) (by omega)]
  omega
theorem Atk (K:Nat){c:D1}(hc:Ae2 c){n:Int}(hn:0<n): ∃r,Ahh K c n=some r∧Ae2 r.2:=by
 obtain⟨r,e,_,w⟩:=Agp K hc hn
 simp_all[Ahh]
theorem Azk (K:Nat){c:D1}(hc:Ae2 c){l:List Int}(hl:0<l.length): ∃x c',P2 K c l=some (x,c',l)∧x∈l∧Ae2 c':=by
 obtain⟨r,e,b,w⟩:=Agp K hc (n:=(l.length:Int)) (by omega)
 unfold P2;rw[e];simp only[Z0];rw[if_pos b];exact⟨_,_,rfl,Al5 b.1 b.2,w⟩
theorem A6p (K:Nat){c:D1}(hc:Ae2 c)(n:Int): ∃r,Ap K c n=some r∧Ae2 r.2:=by
 by_cases h:0<n
 ·obtain⟨r,e,_,w⟩:=Agp K hc h
  grind
 ·unfold Ap
  simp_all
theorem Byh (x:Int):0≤IntKind.u8.wrap x∧IntKind.u8.wrap x≤255:=by rw[IntKind.wrap_u8];omega
theorem A77{K:Nat}(hK:281474976710656≤K){c:D1}(hc:Ae2 c){n:Int}(h1:n≤1000): ∃b c',Axj K c n=some (b,c')∧Axb b∧b.length≤1000∧Ae2 c':=by
 have hm:=V2
 have key: ∀(f i:Nat) (l:List Int) (c:D1),Ae2 c->Axb l->l.length=i->(i:Int)≤1000->(1000 - i)<f-> ∃b c',Asj K n f l (i:Int) c.fb c.fi c.fh=some (b,c')∧Axb b∧b.length≤1000∧Ae2 c':=by
  intro f
  induction f with
  |zero=>omega
  |succ f ih=>
   intro i l c hc hl hi h2 hf;rw[Asj]
   by_cases q:(i:Int)<n
   ·obtain⟨r,e,_,w⟩:=A30 K hc;rw[decide_eq_true q,cond_true,show D1.mk c.fb c.fi c.fh=c from rfl,e,Z0,if_pos ⟨by grind,by grind⟩,Ad5 (by omega)]
    exact ih (i+1) _ r.2 w (Bek hl fun x hx=>by simp_all[Byh]) (by simp[hi]) (by omega) (by omega)
   ·rw[decide_eq_false q]
    grind
 exact key K 0 [] c hc (fun x hx=>by cases hx) rfl (by omega) (by omega)
def Aii (o:Co):Prop:=Axb o.fB∧o.fB.length≤1000
theorem Ap5 (k:Int)(h:An)(r:Br)(n m:Int):Aii (Co.mk k h r n m []):=⟨(fun x hx=>by cases hx),Z21 _⟩
theorem A6q (K:Nat){c:D1}(hc:Ae2 c): ∃h c',Atv K c=some (h,c')∧Ae2 c':=by
 unfold Atv;obtain⟨r,e,_,w⟩:=Agp K hc (n:=5) (by omega)
 obtain⟨q,e2,_,w2⟩:=Agp K w (n:=3) (by omega)
 rw[e,Z0,e2];exact⟨_,_,rfl,w2⟩
theorem A78{K:Nat}(hK:281474976710656≤K){c:D1}(hc:Ae2 c)(k:Int)(b:Bool)(r:Br)(h:An){o:Co}(ho:Aii o)(p:Co): ∃o' c',Aq3 K k b c.fb c.fi c.fh r h o p=some (o',c')∧Aii o'∧Ae2 c':=by
 unfold Aq3
 have e0:D1.mk c.fb c.fi c.fh=c:=rfl;rw[e0];cases b with
 |true=>exact⟨_,_,rfl,⟨ho.1,ho.2⟩,hc⟩
 |false=>
  simp only[cond_false];cases k==2 with
  |true=>
   simp only[cond_true];obtain⟨x,c1,e1,_,w1⟩:=Azk K hc (l:=[1,2,3,5,8,9,17,20,0,201]) (by simp)
   obtain⟨y,c2,e2,_,w2⟩:=Azk K w1 (l:=[1,1,2,4,3]) (by simp)
   rw[e1,Z0,if_pos rfl,e2,Z0,if_pos rfl];exact⟨_,_,rfl,⟨ho.1,ho.2⟩,w2⟩
  |false=>
   simp only[cond_false];cases k==3 with
   |true=>
    simp only[cond_true];obtain⟨x,e1,_,w1⟩:=Agp K hc (n:=4) (by omega)
    obtain⟨y,e2,_,w2⟩:=Agp K w1 (n:=5) (by omega)
    rw[e1,Z0,e2,Z0];exact⟨_,_,rfl,⟨ho.1,ho.2⟩,w2⟩
   |false=>
    simp only[cond_false];cases k==4 with
    |true=>
     simp only[cond_true];obtain⟨x,e1,_,w1⟩:=Agp K hc (n:=4) (by omega)
     obtain⟨y,e2,b2,w2⟩:=Agp K w1 (n:=4) (by omega)
     obtain⟨z,c3,e3,b3,l3,w3⟩:=A77 hK w2 (n:=y.1) (by omega)
     rw[e1,Z0,e2,Z0,e3,Z0];exact⟨_,_,rfl,⟨b3,l3⟩,w3⟩
    |false=>
     simp only[cond_false];cases k==5 with
     |true=>
      simp only[cond_true];obtain⟨x,c1,e1,_,w1⟩:=Azk K hc (l:=[1,7,255,256]) (by simp)
      rw[e1,Z0,if_pos rfl];exact⟨_,_,rfl,⟨ho.1,ho.2⟩,w1⟩
     |false=>exact⟨_,_,rfl,ho,hc⟩
theorem A79{K:Nat}(hK:281474976710656≤K){c:D1}(hc:Ae2 c): ∃o c',Au0 K c=some (o,c')∧Aii o∧Ae2 c':=by
 unfold Au0;obtain⟨r1,e1,_,w1⟩:=Agp K hc (n:=9) (by omega)
 obtain⟨h2,c2,e2,w2⟩:=A6q K w1;obtain⟨r3,e3,_,w3⟩:=Agp K w2 (n:=2) (by omega)
 obtain⟨r4,e4,_,w4⟩:=Agp K w3 (n:=3) (by omega)
 rw[e1,Z0,e2,Z0,e3,Z0,e4,Z0];cases An6 .i64 1 r1.1==1 with
 |true=>
  simp only[cond_true];obtain⟨r5,e5,w5⟩:=Atk K w4 (n:=2) (by omega)
  rw[e5,Z0];cases r5.1 with
  |true=>exact⟨_,_,rfl,Ap5 _ _ _ _ _,w5⟩
  |false=>exact⟨_,_,rfl,Ap5 _ _ _ _ _,w5⟩
 |false=>
  simp only[cond_false];cases An6 .i64 1 r1.1==6 with
  |true=>simp_all[A78,Ap5]
  |false=>
   simp only[cond_false];cases An6 .i64 1 r1.1==7 with
   |true=>simp_all[A78,Ap5]
   |false=>simp_all[A78,Ap5]
theorem A9e (K:Nat){c:D1}(hc:Ae2 c): ∃x c',Av2 K c=some (x,c')∧Ahg x=true∧Ae2 c':=by
 unfold Av2;obtain⟨r1,e1,b1,w1⟩:=Agp K hc (n:=11) (by omega)
 obtain⟨x2,c2,e2,m2,w2⟩:=Azk K w1 (l:=[8,8,9,12,16]) (by simp)
 obtain⟨r3,e3,b3,w3⟩:=Agp K w2 (n:=7) (by omega)
 obtain⟨r4,e4,b4,w4⟩:=Agp K w3 (n:=6) (by omega)
 obtain⟨x5,c5,e5,m5,w5⟩:=Azk K w4 (l:=[1,3,4,8,16]) (by simp)
 obtain⟨r6,e6,b6,w6⟩:=Agp K w5 (n:=4) (by omega)
 rw[e1,Z0,e2,Z0,if_pos rfl,e3,Z0,e4,Z0,e5,Z0,if_pos rfl,e6];refine⟨_,_,rfl,?_,w6⟩
 have a1:An6 .i64 2 r1.1=2+r1.1:=by grind [An6,Ht]
 have a3:An6 .i64 2 r3.1=2+r3.1:=by grind [An6,Ht]
 have a4:An6 .i64 1 r4.1=1+r4.1:=by grind [An6,Ht]
 have a6:An6 .i64 1 r6.1=1+r6.1:=by grind [An6,Ht]
 rw[a1,a3,a4,a6]
 have m2:x2=8∨x2=8∨x2=9∨x2=12∨x2=16:=by grind
 have m5:x5=1∨x5=3∨x5=4∨x5=8∨x5=16:=by grind
 unfold Ahg;simp only[Z4,Acw];omega
theorem Bem{w:C5}{E:Int}{n:Nat}(G:Dy w E n)(hE:0≤E){k:Int}(hk:AlW w.fL k):Dy (Ayw w k) E n:=by
 obtain⟨t,A,F⟩:=G.inv.forest
 have al:=hk.al A
 have I':=Bhl G.inv A F al;obtain⟨hki,L,T,e⟩:=G.live hk
 have R:=G.inv.rg
 have hN:(Ayw w k).fL.length=w.fL.length:=by grind [Ayw,A0h]
 have hg: ∀x,0≤x∧x<(w.fL.length:Int)->gt (Ayw w k).fL x=if x=k then Aqb 2 (gt (Aqa w.fL k) k).C9 else gt (Aqa w.fL k) x:=fun x hx=>by
  unfold Ayw;simp only;rw[Ap4 (by grind [A0h]) (by grind [A0h])];rfl
 refine⟨I',?_,fun x hx=> ?_,?_⟩
 ·show ∀x∈(Akr w.fP _).N7,_;rw[(A1j G.inv hki).2.1];exact G.mem
 ·rw[hN]at hx;rw[hg x hx]
  by_cases q:x=k
  ·rw[if_pos q];exact⟨hE,hE,⟨Int.le_refl 0,by show(0:Int)≤1000;omega⟩⟩
  ·rw[if_neg q,A3g R hki hx q]
   have:=G.ep x hx;exact⟨this.ep,this.ue,this.cur⟩
 ·have hs:=A3j (f:=wtN w.fC) hN hki fun x hx hne=>by rw[hg x hx,if_neg hne,A3g R hki hx hne];rfl
  rw[hg k hki,if_pos rfl,A3k _ (by decide)]at hs
  have e1:wtN w.fC (gt w.fL k)=2+(gt w.fL k).Fi.length+w.fC.G8.toNat*(gt w.fL k).Ay.length:=by unfold wtN;rw[if_pos L.st]
  have h3:=G.wt;unfold wt pot at h3 ⊢
  show((Ayw w k).fL.map (wtN w.fC)).sum+((w.fQ++[Ag9 (gt w.fL k) (An6 .i64 k 1)]).map (wtQ w.fC)).sum+w.Acy.length≤_
  have e2:wtQ w.fC (Ag9 (gt w.fL k) (An6 .i64 k 1))=1+(gt w.fL k).Fi.length+w.fC.G8.toNat*(gt w.fL k).Ay.length:=rfl
  grind
theorem A8a{w:C5}{E:Int}{n:Nat}(G:Dy w E n)(hE:0≤E∧E≤900000000){k:Int}(hk:AlW w.fL k):Dy (K1 w k) (E+1) (n+1):=by
 obtain⟨t,A,F⟩:=G.inv.forest
 have al:=hk.al A;obtain⟨hki,L,T,e⟩:=G.live hk
 have h0:=L.ep
 have h1:=e.ep
 have I':=Bhm G.inv A F al (by omega)
 have hN:(K1 w k).fL.length=w.fL.length:=by grind [K1]
 have hg: ∀x,0≤x∧x<(w.fL.length:Int)->gt (K1 w k).fL x=if x=k then Awh (gt w.fL k)else gt w.fL x:=fun x hx=>Ap4 hki hx _
 refine⟨I',?_,fun x hx=> ?_,?_⟩
 ·show ∀x∈(Akr w.fP _).N7,_;rw[(A1j G.inv hki).2.1];exact G.mem
 ·rw[hN]at hx;rw[hg x hx]
  have hx':=G.ep x hx
  by_cases q:x=k
  ·rw[if_pos q];refine⟨?_,?_,⟨Int.le_refl 0,by show(0:Int)≤1000;omega⟩⟩
   ·show An6 .i64 (gt w.fL k).Sl 1≤_
    grind [ad1]
   ·have:=e.ue
    show(gt w.fL k).Sm≤_;omega
  ·rw[if_neg q]
   have h2:=hx'.ep;have h3:=hx'.ue;exact⟨by omega,by omega,hx'.cur⟩
 ·have hs:=A3j (f:=wtN w.fC) hN hki fun x hx hne=>by grind
  rw[hg k hki,if_pos rfl]at hs
  have e1:wtN w.fC (gt w.fL k)=2+(gt w.fL k).Fi.length+w.fC.G8.toNat*(gt w.fL k).Ay.length:=by unfold wtN;rw[if_pos L.st]
  have e0:wtN w.fC (Awh (gt w.fL k))=2:=by
   have hst1:(Awh (gt w.fL k)).Vi=1:=L.st;unfold wtN;rw[if_pos hst1];rfl
  have h3:=G.wt;unfold wt pot at h3 ⊢
  show((K1 w k).fL.map (wtN w.fC)).sum+((w.fQ++[Ag9 (gt w.fL k) 0]).map (wtQ w.fC)).sum+w.Acy.length≤_
  have e2:wtQ w.fC (Ag9 (gt w.fL k) 0)=1+(gt w.fL k).Fi.length+w.fC.G8.toNat*(gt w.fL k).Ay.length:=rfl
  grind
section
variable {K:Nat} (hK:281474976710656≤K)
include hK
theorem Bu9{E:Int}{n:Nat}(hE:0≤E∧E≤900000000)(hn:n≤800000000){w:C5}(G:Dy w E n){o:Co}(ho:Aii o): ∃w' a,Ay2 K w o=some (w',a)∧Dy w' E (n+1)∧w'.fC=w.fC:=by
 have W:=G.ww (by omega) (by omega)
 have G0:=Dy.le G (Int.le_refl E) (by omega:n≤n+1)
 unfold Ay2;cases o.W3==3 with
 |true=>
  simp only[cond_true];obtain⟨a,e⟩:=Bpp hK hE hn G o.fR o.fN o.fM
  grind
 |false=>
  simp only[cond_false];cases o.W3==4 with
  |true=>
   simp only[cond_true];obtain⟨a,w',e,g,c⟩:=Bmz hK hE hn G o.fR o.fN (s:=o.fB) ho.1 (by have:=ho.2;omega)
   rw[e];exact⟨_,_,rfl,Dy.le g (Int.le_refl E) (by omega),c⟩
  |false=>
   simp only[cond_false];cases o.W3==5 with
   |true=>
    simp only[cond_true];obtain⟨a,w',e,g,c⟩:=Bm0 hK hE hn G o.fH o.fN
    grind
   |false=>
    simp only[cond_false];cases o.W3==8 with
    |true=>
     simp only[cond_true];obtain⟨a,e⟩:=Bm1 hK hE hn G o.fH
     grind
    |false=>
     simp_all[Ayg]
theorem Bm2{E:Int}{n:Nat}(hE:0≤E∧E≤800000000)(hn:n≤700000000){w:C5}(G:Dy w E n)(b:Bool){o:Co}(ho:Aii o)(z:Et):
  ∃a w',Avb K b w.fC.Ay w.fC.G8 w.fC.E6 w.fC.Gu w.fC.E7 w.fC.G9 w.fP.N7 w.fP.Vi w.fP.N8 w.fL w.fQ w.Acy z o.W3 o.fH.Bm o.fH.C9 o.fR.fH.Bm o.fR.fH.C9 o.fR.Sl o.fR.fNo o.fN o.fM o.fB=some (a,w')∧Dy w' (E+1) (n+1)∧w'.fC=w.fC:=by
 have W:=G.ww (by omega) (by omega)
 have hq:=Bl6 w
 have hwt:=G.wt
 have G0:=Dy.le G (by omega:E≤E+1) (by omega:n≤n+1)
 unfold Avb;rw[show C5.mk (Ea.mk w.fC.Ay w.fC.G8 w.fC.E6 w.fC.Gu w.fC.E7 w.fC.G9) (Dn.mk w.fP.N7 w.fP.Vi w.fP.N8) w.fL w.fQ w.Acy=w from rfl]
 cases b with
 |true=>
  simp only[cond_true];rw[Aq0 hK W.l,Z0,Ayu hK w W.l,Z0]
  by_cases h0:(Aio w.fL (An.mk o.fH.Bm o.fH.C9)).2=0
  ·have hal:=A3z G.inv h0
   have hki:=(G.live hal).1;rw[h0];simp only[bne_self_eq_false,cond_false];cases o.W3==6 with
   |true=>
    simp only[cond_true];rw[Bab hK w W (by omega) hki,Z0]
    exact⟨_,_,rfl,A8a G (by omega) hal,rfl⟩
   |false=>
    simp only[cond_false];rw[Bd7 hK w W (by omega) hki,Z0]
    exact⟨_,_,rfl,Dy.le (Bem G hE.1 hal) (by omega) (by omega),rfl⟩
  ·rw[Azt h0]
   grind
 |false=>
  simp only[cond_false];rw[show Co.mk o.W3 (An.mk o.fH.Bm o.fH.C9) (Br.mk (An.mk o.fR.fH.Bm o.fR.fH.C9) o.fR.Sl o.fR.fNo) o.fN o.fM o.fB=o from rfl]
  obtain⟨w',a,e,g,c⟩:=Bu9 hK (by omega) (by omega) G ho
  rw[e];exact⟨_,_,rfl,Dy.le g (by omega) (Z9 _),c⟩
theorem Byi{E:Int}{n:Nat}(hE:0≤E∧E≤800000000)(hn:n≤700000000){w:C5}(G:Dy w E n){o:Co}(ho:Aii o): ∃a w',Az7 K w o=some (a,w')∧Dy w' (E+1) (n+192)∧w'.fC=w.fC:=by
 unfold Az7;cases o.W3==1 with
 |true=>
  simp only[cond_true];obtain⟨r,w',e,g,c⟩:=Bef hK (by omega) (by omega) G o.fH
  rw[e];exact⟨_,_,rfl,Dy.le g (by omega) (by omega),c⟩
 |false=>
  simp only[cond_false];cases o.W3==2 with
  |true=>
   simp only[cond_true];obtain⟨r,w',e,g,c⟩:=Bct hK (by omega) (by omega) G o.fH o.fN o.fM
   rw[e];exact⟨_,_,rfl,Dy.le g (by omega) (by omega),c⟩
  |false=>
   simp only[cond_false];cases o.W3==9 with
   |true=>
    simp only[cond_true];obtain⟨r,w',e,S⟩:=A69 hK (E:=E) (n:=n) (by omega) (by omega) 4000 G
    rw[e];exact⟨_,_,rfl,Dy.le S.good (by omega) (by omega),S.stay.conf⟩
   |false=>
    simp only[cond_false];cases o.W3==6 with
    |true=>
     simp only[cond_true];obtain⟨r,w',e,g,c⟩:=Bm2 hK hE hn G true ho (Et.mk 0 (An.mk 0 0) (Br.mk (An.mk 0 0) 0 0) [] 0 0 0);exact⟨_,_,e,Dy.le g (Int.le_refl _) (by omega),c⟩
    |false=>
     simp only[cond_false];obtain⟨r,w',e,g,c⟩:=Bm2 hK hE hn G (o.W3==7) ho (Et.mk 0 (An.mk 0 0) (Br.mk (An.mk 0 0) 0 0) [] 0 0 0);exact⟨_,_,e,Dy.le g (Int.le_refl _) (by omega),c⟩
end
theorem Bax{α:Type}[Inhabited α]{n:Nat}(x:α){k:Int}(hk:0≤k∧k<(n:Int)):gt (List.replicate n x) k=x:=by
 obtain⟨j,rfl⟩: ∃j:Nat,k=j:=⟨k.toNat,by omega⟩
 grind [Wx]
theorem A8b{α:Type}(i:Nat)(x:α):List.replicate i x++[x]=List.replicate (i+1) x:=by rw[List.replicate_succ']
section
variable {K:Nat} (hK:281474976710656≤K)
include hK
def Bfz (c:Ea):Dn:=Dn.mk (List.replicate (c.Ay*c.G8).toNat 0) (List.replicate c.Ay.toNat 0) (List.replicate c.Ay.toNat (-1))
theorem Ben{c:Ea}(hc:Ahg c=true):Axh K c=some (Bfz c):=by
 have hm:=V2;obtain⟨b1,b2,b3,b4,b5,b6⟩:=A1 hc
 have hb:=Auu (a:=c.Ay) (b:=c.G8) (m:=12) (n:=16) (by omega) b1.2 (by omega) b2.2
 have hby:Ak8 c=c.Ay*c.G8:=by grind [Ak8]
 unfold Axh A2e;rw[Aqz,hc,Z0,Bool.not_true,cond_false,Atu,Z0,hby,Anh,Acw.2 ⟨by omega,by omega⟩]
 simp only[Z0,Bool.not_true,cond_false];rw[if_pos ⟨by omega,by omega,by omega,by omega⟩,Z0]
 have key: ∀(f i:Nat),(i:Int)≤c.Ay->c.Ay.toNat - i<f->Asg K c f (i:Int) (Dn.mk (List.replicate (c.Ay*c.G8).toNat 0) (List.replicate i 0) (List.replicate i (-1))) (Dn.mk [] [] [])=some (Bfz c):=by
  intro f
  induction f with
  |zero=>omega
  |succ f ih=>
   intro i hi hf;rw[Asg]
   by_cases q:(i:Int)=c.Ay
   ·rw[decide_eq_false (by omega)]
    unfold Bfz;rw[←q];rfl
   ·rw[decide_eq_true (by omega),cond_true,if_pos ⟨by grind,by grind⟩,if_pos ⟨by grind,by grind⟩,Ad5 (by omega)]
    simp only;rw[A8b,A8b];exact ih (i+1) (by omega) (by omega)
 exact key K 0 (by omega) (by omega)
theorem Bcv{c:Ea}(hc:Ahg c=true):Azm K c=some (List.replicate c.E6.toNat (Aqb 0 1)):=by
 have hm:=V2;obtain⟨b1,b2,b3,b4,b5,b6⟩:=A1 hc
 have key: ∀(f i:Nat),(i:Int)≤c.E6->c.E6.toNat - i<f->Arv K c f (List.replicate i (Aqb 0 1)) (i:Int)=some (List.replicate c.E6.toNat (Aqb 0 1)):=by
  intro f
  induction f with
  |zero=>omega
  |succ f ih=>
   intro i hi hf;rw[Arv]
   by_cases q:(i:Int)=c.E6
   ·grind
   ·unfold Aky;rw[decide_eq_true (by omega),cond_true,Aqz,hc]
    simp only[Z0,cond_true];rw[show As.mk 0 1 0 0 0 0 0 0 [] 0 0 [] []=Aqb 0 1 from rfl,if_pos ⟨by grind,by grind⟩,Ad5 (by omega),A8b]
    exact ih (i+1) (by omega) (by omega)
 exact key K 0 (by omega) (by omega)
def A1v (c:Ea):C5:=C5.mk c (Bfz c) (List.replicate c.E6.toNat (Aqb 0 1)) [] []
theorem Bcw{c:Ea}(hc:Ahg c=true):Awj K c=some (A1v c):=by
 unfold Awj;rw[Aqz,hc,Z0,Bool.not_true,cond_false,Ben hK hc,Z0,Bcv hK hc];rfl
end
def Bm3 (_:Int):Lk:=⟨false,false,0,0,0,0,0,0⟩
theorem A2s{N x:Int}: ¬Lv N Bm3 x:=fun h=>by have:=h.2;cases this
theorem Bcx (N:Int):Agw N Bm3 []:=by
 refine⟨⟨fun k h=>absurd h A2s,fun k h=>absurd h A2s,fun _ _ _ _=>⟨rfl,rfl,rfl,rfl⟩⟩,⟨fun _=>0,fun x h=>absurd h A2s⟩,⟨fun _=>0,fun x h=>absurd h A2s⟩,⟨List.nodup_nil,fun x=>⟨(fun h=>by cases h),fun h=>absurd h.1 A2s⟩,(fun f h=>by cases h)⟩,trivial,fun x h=>absurd h A2s,fun x h=>absurd h A2s,(fun e h=>by cases h)⟩
theorem Bm4{c:Ea}(hc:Ahg c=true):Dy (A1v c) 0 0:=by
 obtain⟨b1,b2,b3,b4,b5,b6⟩:=A1 hc
 have hb:=Auu (a:=c.Ay) (b:=c.G8) (m:=12) (n:=16) (by omega) b1.2 (by omega) b2.2
 have hN:((A1v c).fL.length:Int)=c.E6:=by show((List.replicate _ _).length:Int)=_;grind
 have hg: ∀k,0≤k∧k<((A1v c).fL.length:Int)->gt (A1v c).fL k=Aqb 0 1:=fun k hk=>Bax _ (by omega)
 have hs: ∀k,0≤k∧k<c.Ay->gt (A1v c).fP.Vi k=0:=fun k hk=>Bax _ (by omega)
 have ho: ∀k,0≤k∧k<c.Ay->gt (A1v c).fP.N8 k= -1:=fun k hk=>Bax _ (by omega)
 have hz: ∀a m:Nat,Aqi (((A1v c).fP.N7.drop a).take m)=true:=fun a m=>by
  rw[A3i];intro j _ _ h
  have h:j<(List.replicate (c.Ay*c.G8).toNat (0:Int)).length:=h;rw[List.length_replicate]at h;exact Bax _ ⟨by omega,by omega⟩
 refine⟨⟨Ai0.2 ⟨hc,?_,?_,?_,fun k hk=> ?_⟩,hN,fun k hk=> ?_,fun k hk x=> ?_,fun k hk=> ?_,⟨Bm3,(fun k hk=>by rw[hg k hk];rfl),Bcx _⟩,(fun x h=>by cases h),List.nodup_nil,fun x=> ?_,List.nodup_nil,fun s=> ?_,rfl⟩,fun x hx=> ?_,fun k hk=> ?_,?_⟩
 ·show((List.replicate _ _).length:Int)=c.Ay*c.G8;grind
 ·show((List.replicate _ _).length:Int)=c.Ay;grind
 ·show((List.replicate _ _).length:Int)=c.Ay;grind
 ·rw[hs k hk,ho k hk];exact⟨by omega,fun h=>by omega,fun _=>rfl,fun _=>hz _ _⟩
 ·rw[hg k hk];exact A3w hc (by omega) (by omega) (by omega)
 ·rw[hg k hk];constructor
  ·intro h;cases h
  ·rintro⟨a,b,_⟩;rw[hs x a]at b;cases b
 ·rw[hg k hk];exact⟨rfl,rfl,rfl⟩
 ·constructor
  ·intro h;cases h
  ·rintro⟨a,b⟩;rw[hs x a]at b;cases b
 ·constructor
  ·intro h;cases h
  ·rintro⟨a,b⟩;rw[hg s a]at b;cases b
 ·have hx:x∈List.replicate (c.Ay*c.G8).toNat (0:Int):=hx
  grind
 ·rw[hg k hk];exact⟨Int.le_refl 0,Int.le_refl 0,Int.le_refl 0,by show(0:Int)≤1000;omega⟩
 ·have e:wtN c (Aqb 0 1)=0:=A3k _ (by decide) _
  simp_all[wt,pot,A1v]
section
variable {K:Nat} (hK:281474976710656≤K)
include hK
def A6r (w:C5)(o:Co)(c:D1):Co×D1×(List Int)×(List Int)×(List Int)×(List As)×(List Az)×(List Int):=(o,c,w.fP.N7,w.fP.Vi,w.fP.N8,w.fL,w.fQ,w.Acy)
omit hK in
theorem Bcy (w:C5)(h:An)(d:Int){c:D1}(hc:Ae2 c)(b:Bool): ∃o c',Asl K h w.fP.N7 w.fP.Vi w.fP.N8 w.fL w.fQ w.Acy d c.fb c.fi c.fh b=some (A6r w o c')∧Aii o∧Ae2 c':=by
 unfold Asl;rw[show D1.mk c.fb c.fi c.fh=c from rfl]
 cases b with
 |true=>
  simp only[cond_true];obtain⟨r,e,_,w1⟩:=Agp K hc (n:=256) (by omega)
  rw[e];exact⟨_,_,rfl,Ap5 _ _ _ _ _,w1⟩
 |false=>
  simp only[cond_false];cases d==13 with
  |true=>exact⟨_,_,rfl,Ap5 _ _ _ _ _,hc⟩
  |false=>
   simp only[cond_false];cases d==14 with
   |true=>exact⟨_,_,rfl,Ap5 _ _ _ _ _,hc⟩
   |false=>
    simp only[cond_false];obtain⟨r,e,w1⟩:=Atk K hc (n:=6) (by omega)
    rw[e,Z0];cases r.1 with
    |true=>exact⟨_,_,rfl,Ap5 _ _ _ _ _,w1⟩
    |false=>exact⟨_,_,rfl,Ap5 _ _ _ _ _,w1⟩
theorem Bcz (w:C5)(h:An)(r:Br)(d:Int){c:D1}(hc:Ae2 c)(b:Bool): ∃o c',Asm K h r w.fP.N7 w.fP.Vi w.fP.N8 w.fL w.fQ w.Acy d c.fb c.fi c.fh b=some (A6r w o c')∧Aii o∧Ae2 c':=by
 unfold Asm;rw[show D1.mk c.fb c.fi c.fh=c from rfl]
 cases b with
 |true=>
  simp only[cond_true];obtain⟨x,e,b1,w1⟩:=Agp K hc (n:=2) (by omega)
  have e1:An6 .i64 1 x.1=1+x.1:=by grind [An6,Ht]
  obtain⟨y,c2,e2,b2,l2,w2⟩:=A77 hK w1 (n:=1+x.1) (by omega)
  rw[e,Z0,e1,e2];exact⟨_,_,rfl,⟨b2,l2⟩,w2⟩
 |false=>
  simp only[cond_false];cases d==10 with
  |true=>
   simp only[cond_true];obtain⟨x,e,_,w1⟩:=Agp K hc (n:=3) (by omega)
   rw[e];exact⟨_,_,rfl,Ap5 _ _ _ _ _,w1⟩
  |false=>
   simp only[cond_false];cases d==11 with
   |true=>simp_all[Bcy]
   |false=>simp_all[Bcy]
theorem A8c (w:C5)(h:An)(r:Br)(z d:Int){c:D1}(hc:Ae2 c)(b:Bool): ∃o c',Aq4 K h r z w.fP.N7 w.fP.Vi w.fP.N8 w.fL w.fQ w.Acy d c.fb c.fi c.fh b=some (A6r w o c')∧Aii o∧Ae2 c':=by
 unfold Aq4;rw[show D1.mk c.fb c.fi c.fh=c from rfl]
 cases b with
 |true=>
  simp only[cond_true];obtain⟨x,c1,e1,_,w1⟩:=Azk K hc (l:=[1,2,3,4,5,8]) (by simp)
  obtain⟨y,c2,e2,_,w2⟩:=Azk K w1 (l:=[1,1,2,4]) (by simp)
  rw[e1,Z0,if_pos rfl,e2,Z0,if_pos rfl];exact⟨_,_,rfl,Ap5 _ _ _ _ _,w2⟩
 |false=>
  simp only[cond_false];cases d==7 with
  |true=>
   simp only[cond_true];obtain⟨x,e,w1⟩:=A6p K hc z;rw[e];exact⟨_,_,rfl,Ap5 _ _ _ _ _,w1⟩
  |false=>
   simp only[cond_false];cases d==8 with
   |true=>simp_all[Bcz]
   |false=>simp_all[Bcz]
theorem A8d (w:C5)(h:An)(r:Br)(z d:Int){c:D1}(hc:Ae2 c)(b:Bool): ∃o c',Aq5 K h r z w.fP.N7 w.fP.Vi w.fP.N8 w.fL w.fQ w.Acy d b c.fb c.fi c.fh=some (A6r w o c')∧Aii o∧Ae2 c':=by
 unfold Aq5;rw[show D1.mk c.fb c.fi c.fh=c from rfl]
 cases b with
 |true=>exact⟨_,_,rfl,Ap5 _ _ _ _ _,hc⟩
 |false=>
  simp only[cond_false];cases d==3 with
  |true=>exact⟨_,_,rfl,Ap5 _ _ _ _ _,hc⟩
  |false=>
   simp only[cond_false];cases d==4 with
   |true=>simp_all[A8c]
   |false=>
    simp only[cond_false];cases d==5 with
    |true=>simp_all[A8c]
    |false=>simp_all[A8c]
theorem Bc0 (w:C5)(h:An)(r:Br)(q:Co){c:D1}(hc:Ae2 c): ∃o c',Asn K h c.fb c.fi c.fh r q w.fC.Ay w.fC.G8 w.fC.E6 w.fC.Gu w.fC.E7 w.fC.G9 w.fP.N7.length w.fP.Vi.length w.fP.N8.length w.fL.length w.fQ.length w.Acy.length w.fP.N7 w.fP.Vi w.fP.N8 w.fL w.fQ w.Acy=some (A6r w o c')∧Aii o∧Ae2 c':=by
 unfold Asn;rw[show D1.mk c.fb c.fi c.fh=c from rfl]
 obtain⟨x,e,_,w1⟩:=Agp K hc (n:=16) (by omega)
 rw[e,Z0];cases x.1==0 with
 |true=>simp_all[A8d]
 |false=>
  simp only[cond_false];cases x.1==1 with
  |true=>simp_all[A8d]
  |false=>simp_all[A8d]
theorem Bf0{w:C5}(W:Ak9 w)(h8:w.fL.length≤1000){c:D1}(hc:Ae2 c): ∃o c',Au1 K c w=some (A6r w o c')∧Aii o∧Ae2 c':=by
 unfold Au1;obtain⟨r1,e1,hl,hr⟩:=A4o hK W h8;rw[e1,Z0];cases hz:(r1.length:Int)==0 with
 |true=>
  simp only[cond_true];obtain⟨x,e,w1⟩:=Atk K hc (n:=2) (by omega)
  rw[e,Z0];cases x.1 with
  |true=>exact⟨_,_,rfl,Ap5 _ _ _ _ _,w1⟩
  |false=>
   simp only[cond_false];obtain⟨o,c2,e2,ho,w2⟩:=A79 hK w1;rw[e2];exact⟨_,_,rfl,ho,w2⟩
 |false=>
  have hz: ¬(r1.length:Int)=0:=by grind
  simp only[cond_false];obtain⟨x,e,w1⟩:=Atk K hc (n:=10) (by omega)
  rw[e,Z0];cases x.1 with
  |true=>
   simp only[cond_true];obtain⟨y,e2,w2⟩:=Atk K w1 (n:=2) (by omega)
   rw[e2,Z0];cases y.1 with
   |true=>exact⟨_,_,rfl,Ap5 _ _ _ _ _,w2⟩
   |false=>
    simp only[cond_false];obtain⟨o,c2,e3,ho,w3⟩:=A79 hK w2;rw[e3];exact⟨_,_,rfl,ho,w3⟩
  |false=>
   simp only[cond_false];obtain⟨y,e2,b2,w2⟩:=Agp K w1 (n:=(r1.length:Int)) (by omega)
   rw[e2,Z0,if_pos b2]
   have hk:=(hr _ (Al5 b2.1 b2.2)).1;obtain⟨h,eh⟩:=A3m (K:=K) (l:=w.fL) (by omega) (gt r1 y.1)
   simp only[eh,Z0,if_pos hk];cases decide (((gt w.fL (gt r1 y.1)).F6.length:Int)>0)with
   |true=>
    simp only[cond_true];obtain⟨z,e3,w3⟩:=A6p K w2 ((gt w.fL (gt r1 y.1)).F6.length:Int)
    simp_all[Bc0]
   |false=>
    simp_all[Bc0]
theorem run_ok{c:D1}(hc:Ae2 c){most:Int}(hm:0<most∧most≤1000): ∃x l w c' E n,Ay3 K c most=some (x,l,w,c')∧Dy w E n∧(0≤E∧E≤200)∧n≤38400∧w.fC=x∧Ahg x=true∧l.length≤200∧(∀o∈l,Aii o)∧Ae2 c':=by
 have hx:=V2;unfold Ay3;obtain⟨x,c1,e1,hx1,w1⟩:=A9e K hc;obtain⟨y,e2,b2,w2⟩:=Agp K w1 (n:=most) (by omega)
 rw[e1,Z0,Bcw hK hx1,Z0,e2,Z0]
 have ea:An6 .i64 4 y.1=4+y.1:=by grind [An6,Ht]
 rw[ea]
 have key: ∀(f i:Nat) (l:List Co) (w:C5) (c:D1),(i:Int)≤4+y.1->i<f->Dy w (l.length:Int) (192*l.length)->w.fC=x->l.length≤200->(∀o∈l,Aii o)->Ae2 c-> ∃x' l' w' c' E n,At1 K f l (i:Int) c.fb c.fi c.fh w x (C5.mk (Ea.mk 0 0 0 0 0 0) (Dn.mk [] [] []) [] [] []) (Ea.mk 0 0 0 0 0 0)=some (x',l',w',c')∧Dy w' E n∧(0≤E∧E≤200)∧n≤38400∧w'.fC=x'∧Ahg x'=true∧l'.length≤200∧(∀o∈l',Aii o)∧Ae2 c':=by
  intro f
  induction f with
  |zero=>omega
  |succ f ih=>
   intro i l w c hi hf G hwc hl ho hcc
   have done: ∃x' l' w' c' E n,some (x,l,w,D1.mk c.fb c.fi c.fh)=some (x',l',w',c')∧Dy w' E n∧(0≤E∧E≤200)∧n≤38400∧w'.fC=x'∧Ahg x'=true∧l'.length≤200∧(∀o∈l',Aii o)∧Ae2 c':=⟨_,_,_,_,_,_,rfl,G,by omega,by omega,hwc,hx1,hl,ho,hcc⟩
   rw[At1]
   by_cases q:0<i
   ·rw[decide_eq_true (show(i:Int)>0 by omega),cond_true]
    by_cases q2:l.length<200
    ·rw[decide_eq_true (show(l.length:Int)<200 by omega),cond_true]
     have W:=G.ww (by omega) (by omega)
     obtain⟨b1,b2,b3,_⟩:=A1 G.inv.conf
     have hlen:=G.inv.len;obtain⟨o,c2,e3,hop,w3⟩:=Bf0 hK W (by omega) hcc
     obtain⟨a,w',e4,G',hc'⟩:=Byi hK (E:=(l.length:Int)) (n:=192*l.length) (by omega) (by omega) G hop
     rw[show D1.mk c.fb c.fi c.fh=c from rfl,e3,Z0]
     unfold A6r;simp only;rw[if_pos ⟨trivial,trivial,trivial,trivial,trivial,trivial⟩,if_pos ⟨by grind,by grind⟩]
     rw[show C5.mk w.fC (Dn.mk w.fP.N7 w.fP.Vi w.fP.N8) w.fL w.fQ w.Acy=w from rfl,e4,Z0]
     have es:An7 .i64 (i:Int) 1=((i - 1:Nat):Int):=by grind [sb1]
     rw[es];refine ih (i - 1) (l++[o]) w' c2 (by omega) (by omega) ?_ (hc'.trans hwc) (by grind) ?_ w3
     ·rw[Z23,List.length_singleton]
      grind
     grind
    grind
   simp_all
 have:=key K (4+y.1).toNat [] (A1v x) y.2 (by omega) (by omega) (Bm4 hx1) rfl (by simp) (fun o h=>by cases h) w2
 grind
omit hK in
theorem Bhz (a:List Int){m:Int}(hm:0≤m∧m≤1000)(ha:a.length≤1048576): ∃r,Av1 K a m=some r∧0≤r∧r≤1000:=by
 unfold Av1
 have h3:(a.length:Int) / 12≤(a.length:Int):=Int.ediv_le_self _ (by omega)
 have h4:0≤(a.length:Int) / 12:=Int.ediv_nonneg (by omega) (by omega)
 have e1:Alk .i64 (a.length:Int) 12=(a.length:Int) / 12:=by
  grind [Alk,Ht]
 have e2:An6 .i64 3 ((a.length:Int) / 12)=3+(a.length:Int) / 12:=by grind [An6,Ht]
 rw[if_pos (by decide),e1,e2]
 by_cases q:3+(a.length:Int) / 12>m
 ·simp_all
 ·rw[decide_eq_false q];grind
theorem Bay{a:List Int}(hb:Axb a)(ha:a.length≤1048576): ∃w o E n,Avv K a=some (w,o)∧Dy w E n∧(0≤E∧E≤200)∧n≤38400∧Aii o:=by
 unfold Avv;obtain⟨c,e1,w1⟩:=Bcu hK hb ha;obtain⟨m,e2,hm⟩:=Bhz (K:=K) a (m:=50) (by omega) ha
 have ea:An6 .i64 20 m=20+m:=by grind [An6,Ht]
 have h50:m≤900∨900<m:=by omega
 rw[e1,Z0,e2,Z0,ea];unfold At2
 have hm2:m≤50:=by
  unfold Av1 at e2
  grind
 obtain⟨x,l,w,c2,E,n,e3,G,hE,hn,_,_,_,_,w3⟩:=run_ok hK w1 (most:=20+m) (by omega)
 have W:=G.ww (by omega) (by omega)
 obtain⟨b1,b2,b3,_⟩:=A1 G.inv.conf
 have hlen:=G.inv.len;obtain⟨o,c4,e4,ho,_⟩:=Bf0 hK W (by omega) w3
 rw[e3];simp only[Z0];rw[e4,Z0];unfold A6r
 grind
end
section
variable (N:Int) (t:Int->Lk)
inductive Up (a:Int):Int->Prop
 |refl:Lv N t a->Up a a
 |step {b:Int}:Lv N t b->Cu N t b->Up a ((t b).up - 1)->Up a b
end
section
variable {N:Int} {t:Int->Lk}
theorem Up.lv{a b:Int}(h:Up N t a b):Lv N t a∧Lv N t b:=by
 induction h with
 |refl h=>grind
 |step h _ _ ih=>grind
theorem Up.trans{a b c:Int}(h:Up N t a b)(g:Up N t b c):Up N t a c:=by
 induction g with
 |refl _=>exact h
 |step h1 h2 _ ih=>exact .step h1 h2 ih
theorem Up.le{d:Int->Nat}(U: ∀x,Lv N t x->Cu N t x->d ((t x).up - 1)<d x){a b:Int}(h:Up N t a b):d a≤d b:=by
 induction h with
 |refl _=>omega
 |step h1 h2 _ ih=>grind
theorem Up.al{a b:Int}(h:Up N t a b)(g:Al N t a):Al N t b:=by
 induction h with
 |refl _=>exact g
 |step h1 h2 _ ih=>exact .step h1 h2 ih
variable {r:Int->Nat} {d:Int->Nat}
end
theorem Bm5{l:List As}{t:Int->Lk}(A:AtT l t)(R:Rg l){d:Int->Nat}(U: ∀x,Lv l.length t x->Cu l.length t x->d ((t x).up - 1)<d x): ∀(n:Nat) (k:Int) (L:List Int),Al l.length t k->L.Nodup->(∀x∈L,(0≤x∧x<(l.length:Int))∧d k<d x)->l.length≤L.length+n→
  (∃r,Agy l n k=k::r)∧Asd l (Agy l n k)=true∧A1s l (Agy l n k)=true:=by
 intro n
 induction n with
 |zero=>
  intro k L h hn hi hl
  have hk:=h.lv
  have:=A64 (N:=(l.length:Int)) (l:=L++[k]) (Aid.2 ⟨hn,by simp,fun x h1 h2=>by grind⟩) (fun x hx=>by
   rcases Mj.1 hx with h|h
   ·grind
   ·rw[Pz.1 h];exact hk.1)
  grind
 |succ n ih=>
  intro k L h hn hi hl
  have hk:=h.lv
  have hst:=((Aul A).1 hk).2
  have hu:=(R.rg k hk.1).1
  have hl8:=R.len;unfold Agy;rw[if_pos hk.1,sb1 (by omega) (by omega)]
  cases h with
  |root _ h0=>
   rw[A k hk.1]at h0
   have h0:(gt l k).fUp=0:=h0
   have e:Agy l n ((gt l k).fUp - 1)=[]:=by
    cases n with
    |zero=>rfl
    |succ n=>simp_all[Agy]
   rw[e];refine⟨⟨[],rfl⟩,by simp[Asd,hst],?_⟩
   show(if 0<1 then(gt l k).fUp==0 else false)=true
   grind
  |step _ hc hp=>
   rw[A k hk.1]at hp
   have hp:Al l.length t ((gt l k).fUp - 1):=hp
   have hlt:=U k hk hc;rw[A k hk.1]at hlt
   have hlt:d ((gt l k).fUp - 1)<d k:=hlt;obtain⟨⟨r,e⟩,h1,h2⟩:=ih ((gt l k).fUp - 1) (L++[k]) hp (Aid.2 ⟨hn,by simp,fun x h1 h2=>by grind⟩) (fun x hx=>by
    rcases Mj.1 hx with h|h
    ·grind
    ·rw[Pz.1 h];exact⟨hk.1,hlt⟩) (by grind)
   rw[e]at h1 h2 ⊢;refine⟨⟨_,rfl⟩,?_,by assumption⟩
   have hep:=hc.2;rw[A k hk.1]at hep
   have hep:(t ((gt l k).fUp - 1)).ep=(gt l k).Sm:=hep;rw[A _ hp.lv.1]at hep
   have hep:(gt l ((gt l k).fUp - 1)).Sl=(gt l k).Sm:=hep
   show((gt l k).Vi==1&&((gt l k).Sm==(gt l ((gt l k).fUp - 1)).Sl)&&Asd l (((gt l k).fUp - 1)::r))=true
   grind
theorem A2c{w:C5}(I:Inv w){t:Int->Lk}(A:AtT w.fL t)(F:Agw w.fL.length t (Axa w.fQ)){k:Int}:Arn w.fL k=true ↔ Al w.fL.length t k:=by
 constructor
 ·grind [AlW.al,A89]
 ·intro h;obtain⟨d,U⟩:=F.uw;obtain⟨_,h1,h2⟩:=Bm5 A I.rg U w.fL.length k [] h List.nodup_nil (fun x h=>by cases h) (by simp)
  unfold Arn;rw[h1,h2];rfl
structure Bva (w:C5)(t:Int->Lk)(k:Int):Prop where
 inv:Inv w
 tab:AtT w.fL t
 fr:Agw w.fL.length t (Axa w.fQ)
 al:Al w.fL.length t k
structure A9f (w w':C5)(t:Int->Lk)(k:Int):Prop where
 inv:Inv w'
 len:w'.fL.length=w.fL.length
 tab:AtT w'.fL (rem t k)
 fr:Agw w.fL.length (rem t k) (Axa w'.fQ)
 conf:w'.fC=w.fC
 q:w'.fQ=w.fQ++[Ag9 (gt w.fL k) (k+1)]
 node: ∀x,0≤x∧x<(w.fL.length:Int)->x≠k-> ∃a b c,gt w'.fL x=lnk (gt w.fL x) a b c
theorem Bh0 (c:Ea)(a b:Int)(f g:Int)(ts cs:List Int)(d:Int):Bux c (Az.mk a f ts cs d)=Bux c (Az.mk b g ts cs d):=rfl
theorem A9f.own{w w':C5}{t:Int->Lk}{k:Int}(L:A9f w w' t k){x:Int}(hx:0≤x∧x<(w.fL.length:Int))(hne:x≠k):Buy w' x=Buy w x:=by
 obtain⟨a,b,c,e⟩:=L.node x hx hne;unfold Buy;rw[e,L.conf];exact Bh0 _ _ _ _ _ _ _ _
theorem A9f.kids{w w':C5}{t:Int->Lk}{k:Int}(P:Bva w t k)(L:A9f w w' t k){x:Az}(hx:x∈w.fQ):Abj w'.fL x.Ef=Abj w.fL x.Ef:=by
 have hf:=P.inv.first hx;rw[A3f P.tab P.inv.rg hf.1 (by omega),A3f L.tab L.inv.rg hf.1 (by omega),L.len]
 exact A5t P.fr.tree P.al.lv P.al.noOr P.fr.kid (Inv.qs hx)
def A51 (w:C5)(x:Int):List Int:=(gt w.fL x).Fi.reverse
theorem A9f.tags{w w':C5}{t:Int->Lk}{k:Int}(L:A9f w w' t k){x:Int}(hx:0≤x∧x<(w.fL.length:Int))(hne:x≠k):A51 w' x=A51 w x:=by
 obtain⟨a,b,c,e⟩:=L.node x hx hne;unfold A51;rw[e];rfl
def A04 (w:C5):List Int:=((List.range w.fL.length).map (fun(i:Nat)=>(i:Int))).filter (Arn w.fL)
theorem A9g{w:C5}{x:Int}:x∈A04 w ↔ (0≤x∧x<(w.fL.length:Int))∧Arn w.fL x=true:=by
 unfold A04;rw[List.mem_filter,Ey];refine and_congr ⟨?_,?_⟩ Iff.rfl
 ·grind
 ·intro h;exact⟨x.toNat,by rw[List.mem_range];omega,by omega⟩
section
variable {M:Type} (op:M->M->M) (e:M) (g:Int->M) (w:C5)
def Beo (D:List Int->List Int->M×List Int)(s:M×List Int)(k:Int):M×List Int:=
 if k∈s.2 then s else(op s.1 (op (g k) (D (kidsK w k) (s.2++[k])).1),(D (kidsK w k) (s.2++[k])).2)
end
section
variable {M:Type} {op:M->M->M} {e:M} {g:Int->M} {w:C5}
end
theorem Baz{w:C5}(I:Inv w){k:Int}(h:Arn w.fL k=true):Aio w.fL (An.mk k (gt w.fL k).C9)=(k,0):=by
 obtain⟨t,A,F⟩:=I.forest
 have al:=(A2c I A F).1 h
 have hk:=al.lv.1
 have hst:=((Aul A).1 al.lv).2
 have hg:=(I.live A al.lv).gen
 have hp:Apr w.fL (An.mk k (gt w.fL k).C9)=k:=by
  simp_all[Apr]
 have ho:Ap3 (An.mk k (gt w.fL k).C9)=true:=by
  unfold Ap3
  grind
 grind [Aio]
def A52 (l:List As)(i:Nat):List Int:=((List.range i).map (fun(i:Nat)=>(i:Int))).filter (Arn l)
theorem Bc1 (l:List As)(i:Nat):A52 l (i+1)=A52 l i++(if Arn l (i:Int)=true then [(i:Int)]else []):=by
 unfold A52;rw[List.range_succ,Vu,List.filter_append]
 grind
theorem Bep (l:List As)(i:Nat):(A52 l i).length≤i:=by
 unfold A52;refine Vx (List.length_filter_le _ _) ?_;simp
section
variable {K:Nat} (hK:281474976710656≤K)
include hK
end
section
variable {K:Nat} (hK:281474976710656≤K)
include hK
theorem Ba0{w:C5}(hw:Ak9 w)(h8:w.fL.length≤1000):A0n K w=some (A04 w):=by
 have hm:=V2
 have key: ∀(f i:Nat),i≤w.fL.length->w.fL.length - i<f->Aq6 K f (A52 w.fL i) (w.fL.length:Int) (i:Int) w.fC.Ay w.fC.G8 w.fC.E6 w.fC.Gu w.fC.E7 w.fC.G9 w.fP.N7 w.fP.Vi w.fP.N8 w.fL w.fQ w.Acy=some (A04 w):=by
  intro f
  induction f with
  |zero=>omega
  |succ f ih=>
   intro i hi hf
   have hl:=Bep w.fL i;rw[Aq6];rcases Hn i w.fL.length with h|h
   ·rw[Ad8 h,cond_true,A58 hK hw.l];simp only[Z0]
    have hs:=Bc1 w.fL i;cases e:Arn w.fL (i:Int)with
    |false=>
     rw[e,if_neg (by decide),List.append_nil]at hs
     simp only[cond_false]
     grind [As9,Ad5]
    |true=>
     rw[e,if_pos rfl]at hs;simp only[cond_true];rw[if_pos ⟨by grind,by grind⟩]
     grind [As9,Ad5]
   ·obtain rfl:i=w.fL.length:=by omega
    rw[Arh (Z9 _)];rfl
 exact key K 0 (Z21 _) (by omega)
omit hK in
theorem A39{l:List As}(hl:l.length≤1000000){k:Int}(hk:0≤k∧k<(l.length:Int)):At8 K l k=some (An.mk k (gt l k).C9):=by
 unfold At8;rw[A0i K (by omega),decide_eq_true hk]
 grind
end
section
variable {K:Nat} (hK:281474976710656≤K)
include hK
end
instance:DecidablePred wfi:=fun x=>inferInstanceAs (Decidable (_∧_))
theorem Aym (n:Int):wfi (IntKind.i64.wrap n):=by rw[IntKind.wrap_i64];exact⟨by omega,by omega⟩
def OkP{α:Type}(x:Option (α×D1))(P:α->Prop):Prop:= ∃a c,x=some (a,c)∧P a∧Ae2 c
theorem okp{α:Type}{a:α}{c:D1}{P:α->Prop}(h:P a)(hc:Ae2 c):OkP (some (a,c)) P:=⟨_,_,rfl,h,hc⟩
theorem OkP.mono{α:Type}{x:Option (α×D1)}{P Q:α->Prop}(h:OkP x P)(k: ∀a,P a->Q a):OkP x Q:=by
 obtain⟨a,c,e,p,hc⟩:=h;exact⟨a,c,e,k a p,hc⟩
theorem Aau{α β:Type}{x:Option (α×D1)}{f:α×D1->Option (β×D1)}{P:α->Prop}{Q:β->Prop}(h:OkP x P)(k: ∀a c,P a->Ae2 c->OkP (f (a,c)) Q):OkP (x.bind f) Q:=by
 obtain⟨a,c,e,p,hc⟩:=h
 grind
theorem Aqn{α:Type}{p:Prop}[Decidable p]{x:Option (α×D1)}{Q:α->Prop}(h:p)(k:OkP x Q):OkP (if p then x else none) Q:=by grind
theorem Akv{α:Type}{b:Bool}{x y:Option (α×D1)}{Q:α->Prop}(k:b=true->OkP x Q)(l:b=false->OkP y Q):OkP (bif b then x else y) Q:=by
 grind
theorem Apg (K:Nat){c:D1}(hc:Ae2 c){n:Int}(hn:0<n):OkP (Ap K c n) fun x=>0≤x∧x<n:=by
 obtain⟨r,e,b,w⟩:=Agp K hc hn;exact⟨_,_,e,b,w⟩
theorem A2d{β:Type}(K:Nat){c:D1}{l:List Int}{f:Int×D1×List Int->Option (β×D1)}{Q:β->Prop}(hc:Ae2 c)(hl:0<l.length)(k: ∀x c,x∈l->Ae2 c->OkP (f (x,c,l)) Q):OkP ((P2 K c l).bind f) Q:=by
 obtain⟨x,c',e,m,w⟩:=Azk K hc hl
 grind
theorem Bm6 (K:Nat){c:D1}(hc:Ae2 c):OkP (Az8 K c) ConfW:=by
 unfold Az8 Ao9;obtain⟨x,c1,e,hx,w⟩:=A9e K hc
 have W:=Bl7 hx;rw[e,Z0];dsimp only
 repeat' (first|refine A2d _ (by assumption) (by decide) (fun x c hx hc=>Aqn rfl ?_)|refine Aau (Apg _ (by assumption) (by omega)) (fun x c hx hc=> ?_)|refine Akv (fun _=> ?_) (fun _=> ?_))
 all_goals refine okp ?_ (by assumption)
 ·exact⟨(by decide: ∀y∈([1,2,12,13]:List Int),wfi y) _ ‹_›,W.size,W.slots,W.tax,W.slice,W.gens⟩
 ·exact⟨W.chunks,(by decide: ∀y∈([7,8,16,17]:List Int),wfi y) _ ‹_›,W.slots,W.tax,W.slice,W.gens⟩
 ·exact⟨W.chunks,W.size,(by decide: ∀y∈([1,8,9]:List Int),wfi y) _ ‹_›,W.tax,W.slice,W.gens⟩
 ·exact⟨W.chunks,W.size,W.slots,(by decide: ∀y∈([0,8,9]:List Int),wfi y) _ ‹_›,W.slice,W.gens⟩
 ·exact⟨W.chunks,W.size,W.slots,W.tax,(by decide: ∀y∈([0,17]:List Int),wfi y) _ ‹_›,W.gens⟩
 ·exact⟨W.chunks,W.size,W.slots,W.tax,W.slice,(by decide: ∀y∈([0,5]:List Int),wfi y) _ ‹_›⟩
 ·exact W
theorem A5g{l:List Int}(h:l.length≤1000)(x:Int):(l++[x]).length*8≤140737488355328∧(l++[x]).length≤maxLen:=by
 grind [V2]
theorem Ba1{l:List Bc}(h:l.length≤1000)(x:Bc):(l++[x]).length*24≤140737488355328∧(l++[x]).length≤maxLen:=by
 grind [V2]
theorem A2t{l:List Int}(h:A11 l)(hl:l.length≤1000){x:Int}(hx:wfi x):A11 (l++[x]):=by
 refine⟨fun y hy=> ?_,by grind⟩
 rcases Mj.1 hy with hy|hy
 ·exact h.1 y hy
 grind
structure SN (m:Nat)(n:As):Prop where
 w:Aql n
 c:n.Ay.length≤m
 t:n.F6.length≤m
 g:n.Fi.length≤m
theorem SN.tag{m:Nat}{n:As}(h:SN m n)(hm:m≤1000){x:Int}(hx:wfi x):SN (m+1) (As.mk n.Vi n.C9 n.Sl n.fUp n.Sm n.Ef n.Sn n.So n.Ay n.Acx n.Sq n.F6 (n.Fi++[x])):=by
 have:=h.c;have:=h.t;have:=h.g;exact⟨{h.w with tags:=A2t h.w.tags (by omega) hx},Nat.le_succ_of_le h.c,Nat.le_succ_of_le h.t,by grind⟩
theorem SN.chunk{m:Nat}{n:As}(h:SN m n)(hm:m≤1000){x:Int}(hx:wfi x):SN (m+1) (As.mk n.Vi n.C9 n.Sl n.fUp n.Sm n.Ef n.Sn n.So (n.Ay++[x]) n.Acx n.Sq n.F6 n.Fi):=by
 have:=h.c;have:=h.t;have:=h.g;exact⟨{h.w with chunks:=A2t h.w.chunks (by omega) hx},by grind,Nat.le_succ_of_le h.t,Nat.le_succ_of_le h.g⟩
theorem SN.thing{m:Nat}{n:As}(h:SN m n)(hm:m≤1000){x:Bc}(hx:ThingW x):SN (m+1) (As.mk n.Vi n.C9 n.Sl n.fUp n.Sm n.Ef n.Sn n.So n.Ay n.Acx n.Sq (n.F6++[x]) n.Fi):=by
 have:=h.c;have:=h.t;have:=h.g;refine⟨{h.w with things:=⟨fun y hy=> ?_,by grind⟩},Nat.le_succ_of_le h.c,by grind,Nat.le_succ_of_le h.g⟩
 rcases Mj.1 hy with hy|hy
 ·exact h.w.things.1 y hy
 grind
theorem SN.mono{m k:Nat}{n:As}(h:SN m n)(hk:m≤k):SN k n:=⟨h.w,Vx h.c hk,Vx h.t hk,Vx h.g hk⟩
theorem sbn{i:Nat}(hi:0<i)(h:i≤1000):An7 .i64 (i:Int) 1=((i - 1:Nat):Int):=by grind [sb1]
theorem Beq (K:Nat){c:D1}(hc:Ae2 c){x:Ea}(hx:Ahg x=true):OkP (Axy K c x) ThingW:=by
 obtain⟨b1,b2,_⟩:=A1 hx
 have j: ∀(c:D1) (t:Bc),Ae2 c->OkP (As2 K x c.fb c.fi c.fh t) ThingW:=by
  intro c t hc;unfold As2;refine Aau (Apg K hc (by omega)) (fun y1 c1 h1 w1=>Aau (Apg K w1 (by omega)) (fun y2 c2 h2 w2=> ?_))
  dsimp only at w2 ⊢
  have e:An7 .i64 x.G8 y2=x.G8 - y2:=by grind [An7,Ht]
  rw[e];refine Aau (Apg K w2 (by omega)) (fun y3 c3 h3 w3=>okp ⟨Aym _,Aym _,Aw9⟩ w3)
 unfold Axy;obtain⟨r,e,w⟩:=Atk K hc (n:=4) (by omega)
 rw[e,Z0];refine Akv (fun _=>Akv (fun h=> ?_) (fun _=>j _ _ w)) (fun _=>j _ _ w);rw[decide_eq_true_eq]at h;rw[show An7 .i64 x.Ay 1=x.Ay - 1 from by grind [An7,Ht]]
 exact Aau (Apg K w (by omega)) (fun y1 c1 h1 w1=>Aau (Apg K w1 (by omega)) (fun y2 c2 h2 w2=>okp ⟨Aym _,Aym _,K0 (x:=2) (by decide) (by decide)⟩ w2))
theorem Bm7 (K:Nat): ∀(f i m:Nat) (c:D1) (n:As),i<f->m+i≤50->SN m n->Ae2 c->OkP (At3 K f (i:Int) c.fb c.fi c.fh n) (SN 50):=by
 intro f
 induction f with
 |zero=>omega
 |succ f ih=>
  intro i m c n hi hm hn hc
  have:=hn.g;rw[At3];refine Akv (fun h=> ?_) (fun _=>okp (hn.mono (by omega)) hc)
  rw[decide_eq_true_eq]at h;refine Aau (Apg K hc (by omega)) (fun y c1 hy w1=>Aqn (A5g (by omega) _) ?_)
  rw[sbn (by omega) (by omega)]
  exact ih (i - 1) (m+1) c1 _ (by omega) (by omega) (hn.tag (by omega) (K0 (by omega) (by omega))) w1
section
variable {K:Nat} (hK:281474976710656≤K)
include hK
theorem Bm8{x:Ea}(hx:Ahg x=true): ∀(f i m:Nat) (c:D1) (n:As),i<f->m+i≤40->SN m n->Ae2 c->OkP (At4 K x f (i:Int) c.fb c.fi c.fh n) (SN 50):=by
 intro f
 induction f with
 |zero=>omega
 |succ f ih=>
  intro i m c n hi hm hn hc
  have:=hn.t;rw[At4];refine Akv (fun h=> ?_) (fun _=> ?_)
  ·rw[decide_eq_true_eq]at h;refine Aau (Beq K hc hx) (fun y c1 hy w1=>Aqn (Ba1 (by omega) _) ?_)
   rw[sbn (by omega) (by omega)]
   exact ih (i - 1) (m+1) c1 _ (by omega) (by omega) (hn.thing (by omega) hy) w1
  ·refine Aau (Apg K hc (by omega)) (fun y c1 hy w1=> ?_)
   have:=Bm7 K K y.toNat 40 c1 n (by omega) (by omega) (hn.mono (by omega)) w1
   grind
theorem Bh1{x:Ea}(hx:Ahg x=true)(z:As): ∀(f i m:Nat) (c:D1) (n:As),i<f->m+i≤20->SN m n->Ae2 c->OkP (At6 K x f (i:Int) c.fb c.fi c.fh n z) (SN 50):=by
 obtain⟨b1,b2,_⟩:=A1 hx
 have j: ∀(c:D1) (n:As),SN 20 n->Ae2 c->OkP (At5 K x c.fb c.fi c.fh n) (SN 50):=by
  intro c n hn hc;unfold At5;refine Aau (Apg K hc (by omega)) (fun y c1 hy w1=> ?_)
  have:=Bm8 hK hx K y.toNat 20 c1 n (by omega) (by omega) hn w1
  grind
 intro f
 induction f with
 |zero=>omega
 |succ f ih=>
  intro i m c n hi hm hn hc
  have:=hn.c;rw[At6];refine Akv (fun h=> ?_) (fun _=>Akv (fun h=> ?_) (fun _=>j _ _ (hn.mono (by omega)) hc))
  ·rw[decide_eq_true_eq]at h;refine Aqn (A5g (by omega) _) ?_
   rw[sbn (by omega) (by omega)]
   exact ih (i - 1) (m+1) c _ (by omega) (by omega) (hn.chunk (by omega) (K0 (by omega) (by omega))) hc
  ·rw[decide_eq_true_eq]at h;refine Aqn ⟨by omega,h⟩ ?_
   rw[ad1 (x:=x.G8) (by omega) (by omega)]
   refine Aau (Apg K hc (by omega)) (fun y c1 hy w1=> ?_)
   exact j c1 _ (SN.mono (m:=m) ⟨{hn.w with cur:=Aym _,bump:=K0 (x:=y) (by omega) (by omega)},hn.c,hn.t,hn.g⟩ (by omega)) w1
theorem Bh2{x:Ea}(hx:Ahg x=true){c:D1}(hc:Ae2 c):OkP (Ay4 K c x) (SN 50):=by
 obtain⟨b1,b2,b3,b4,b5,b6⟩:=A1 hx;unfold Ay4 Aky
 have s0: ∀a b d:Int,wfi a->wfi b->wfi d->SN 0 (As.mk a b d 0 0 0 0 0 [] 0 0 [] []):=fun a b d ha hb hd=>⟨⟨ha,hb,hd,Aw9,Aw9,Aw9,Aw9,Aw9,Ayv,Aw9,Aw9,A3a,Ayv⟩,by simp,by simp,by simp⟩
 refine Aau (Apg K hc (by omega)) (fun y1 c1 h1 w1=> ?_)
 rw[Z0];refine Aau (Apg K w1 (by omega)) (fun y2 c2 h2 w2=>Akv (fun _=>okp ((s0 _ _ _ (K0 (by omega) (by omega)) (Aym _) Aw9).mono (by omega)) w2) (fun _=> ?_))
 refine Aau (Apg K w2 (by omega)) (fun y3 c3 h3 w3=>Aau (Apg K w3 (by omega)) (fun y4 c4 h4 w4=> ?_))
 have:=Bh1 hK hx (As.mk 0 0 0 0 0 0 0 0 [] 0 0 [] []) K y4.toNat 10 c4 _ (by omega) (by omega) ((s0 y2 (An6 .i64 1 y1) y3 (K0 (by omega) (by omega)) (Aym _) (K0 (by omega) (by omega))).mono (by omega)) w4
 grind
end
theorem A9h (a b d:Int)(ha:wfi a)(hb:wfi b)(hd:wfi d):ThingW (Bc.mk a b d):=⟨ha,hb,hd⟩
structure DP (c:Ea)(n:As):Prop where
 l:Aq1 c n
 t:ThP c [] n
 e:EpP 1 n
theorem DP.w{c:Ea}{n:As}(h:DP c n):Aql n:=A2q (Ail.2 h.l).1 h.e (by omega)
theorem Bpq{c:Ea}{n:As}(L:Aq1 c n)(e:EpP 1 n):SN 40 n:=⟨A2q (Ail.2 L).1 e (by omega),by have:=Ar9 L.conf L.dist;omega,by have:=L.nth;omega,by have:=L.ntag;omega⟩
theorem Ber (K:Nat): ∀(f i m:Nat) (c:D1) (n:As),i<f->m+i≤50->SN m n->Ae2 c->OkP (As3 K f (i:Int) c.fb c.fi c.fh n) (SN 50):=by
 intro f
 induction f with
 |zero=>omega
 |succ f ih=>
  intro i m c n hi hm hn hc
  have:=hn.g;rw[As3];refine Akv (fun h=> ?_) (fun _=>okp (hn.mono (by omega)) hc)
  rw[decide_eq_true_eq]at h;refine Aau (Apg K hc (by omega)) (fun y c1 hy w1=>Aqn (A5g (by omega) _) ?_)
  rw[sbn (by omega) (by omega)]
  exact ih (i - 1) (m+1) c1 _ (by omega) (by omega) (hn.tag (by omega) (K0 (by omega) (by omega))) w1
section
variable {K:Nat} (hK:281474976710656≤K)
include hK
theorem Bm9{x:Ea}(hx:Ahg x=true){c:D1}(hc:Ae2 c):OkP (Az9 K c x) (SN 60):=by
 unfold Az9 Ak1;refine Aau (Bh2 hK hx hc) (fun n c1 hn w=> ?_)
 have:=hn.c;have:=hn.t;have:=hn.g
 have W:=hn.w
 have M:=hn.mono (k:=60) (by omega)
 repeat' (first|refine A2d _ (by assumption) (by decide) (fun x c hx hc=>Aqn rfl ?_)|refine Aau (Apg _ (by assumption) (by omega)) (fun x c hx hc=> ?_)|refine Akv (fun _=> ?_) (fun _=> ?_))
 ·exact okp ⟨{W with st:=Aym _},M.c,M.t,M.g⟩ (by assumption)
 ·exact okp ⟨{W with gen:=(by decide: ∀y∈([0,4,5]:List Int),wfi y) _ ‹_›},M.c,M.t,M.g⟩ (by assumption)
 ·exact okp ⟨{W with up:=(by decide: ∀y∈([-1,1,8,9]:List Int),wfi y) _ ‹_›},M.c,M.t,M.g⟩ (by assumption)
 ·exact Aqn (A5g (show n.Ay.length≤_ by omega) _) (okp ((hn.chunk (by omega) ((by decide: ∀y∈([0,12,-1]:List Int),wfi y) _ ‹_›)).mono (by omega)) (by assumption))
 ·exact okp ⟨{W with cur:=K0 (x:= ‹Int›) (by omega) (by omega)},M.c,M.t,M.g⟩ (by assumption)
 ·exact okp ⟨{W with bump:=(by decide: ∀y∈([0,8,17,-1]:List Int),wfi y) _ ‹_›},M.c,M.t,M.g⟩ (by assumption)
 ·exact Aqn (A5g (show n.Fi.length≤_ by omega) _) (okp ((hn.tag (by omega) ((by decide: ∀y∈([255,256,-1]:List Int),wfi y) _ ‹_›)).mono (by omega)) (by assumption))
 ·refine Aqn (Ba1 (show n.F6.length≤_ by omega) _) (okp ((hn.thing (by omega) (A9h _ _ _ ?_ ?_ ?_)).mono (by omega)) (by assumption))
  all_goals grind [K0]
 simp_all[okp]
theorem Ba2{c:Ea}{n:As}(L:Aq1 c n)(e:EpP 1 n): ∃n' b,Aqe K c n 2 (An6 .i64 c.G8 1)=some (n',b)∧SN 40 n':=by
 have hm:=V2;obtain⟨b1,b2,_⟩:=A1 L.conf
 have S:=Bpq L e
 have W:=S.w
 have h1:=Ar9 L.conf L.dist
 have h3:=L.nth
 have h4:=L.ntag
 have q1:2*c.G8≤c.Ay*c.G8:=Int.mul_le_mul_of_nonneg_right (by omega) (by omega)
 have hby:Ak8 c=c.Ay*c.G8:=by unfold Ak8;rw[L.conf];rfl
 have done: ∃n' b,some (n,false)=some (n',b)∧SN 40 n':=⟨_,_,rfl,S⟩;unfold Aqe Aov Alz;rw[ad1 (x:=c.G8) (by omega) (by omega),Atm K W,Z0,Aqz,L.conf]
 simp only[Z0,cond_true];rw[show(n.Vi != 1)=false by rw[L.st];rfl,cond_false,decide_eq_true (by omega),cond_true,Atu,Z0,decide_eq_false (by omega),cond_false,Anh,Ayr hK L.conf]
 simp only[Z0];cases q:inB 2 0 (c.Ay - 1)with
 |false=>exact done
 |true=>
 simp only[Bool.not_true,cond_false]
 have hr:Atl (c.G8+1) c.G8=2:=by
  unfold Atl;rw[Acw.2 ⟨by omega,by omega⟩,Acw.2 ⟨by omega,by omega⟩]
  show(c.G8+1+c.G8 - 1) / c.G8=2;rw[show c.G8+1+c.G8 - 1=c.G8*2 by omega,Int.mul_ediv_cancel_left _ (by omega)]
 rw[A0e,Z0,hr,Z0];obtain⟨k,rfl⟩: ∃k,K=k+3:=⟨K - 3,by omega⟩
 have e3: ∀i:Nat,i≤2->An6 .i64 2 (i:Int)=2+i:=fun i hi=>by grind [An6,Ht]
 have s1:=A5g (l:=n.Ay) (by omega) (An6 .i64 2 0)
 have s2:=A5g (l:=n.Ay++[An6 .i64 2 0]) (by grind) (An6 .i64 2 (An6 .i64 0 1))
 have s3:=Ba1 (l:=n.F6) (by omega) (Bc.mk (An8 .i64 2 c.G8) (c.G8+1) 2)
 rw[Am9,show decide ((0:Int)<2)=true from rfl,cond_true]
 rw[if_pos s1,Am9,show decide (An6 .i64 0 1<2)=true from rfl,cond_true]
 simp only;rw[if_pos s2,Am9,show decide (An6 .i64 (An6 .i64 0 1) 1<2)=false from rfl,cond_false]
 simp only;rw[if_pos s3,Avj hK c (As.mk n.Vi n.C9 n.Sl n.fUp n.Sm n.Ef n.Sn n.So (n.Ay++[An6 .i64 2 0]++[An6 .i64 2 (An6 .i64 0 1)]) n.Acx n.Sq (n.F6++[Bc.mk (An8 .i64 2 c.G8) (c.G8+1) 2]) n.Fi) (by grind) (by grind) (show n.Fi.length≤_ by omega),Z0]
 cases q3:Aqj c (As.mk n.Vi n.C9 n.Sl n.fUp n.Sm n.Ef n.Sn n.So (n.Ay++[An6 .i64 2 0]++[An6 .i64 2 (An6 .i64 0 1)]) n.Acx n.Sq (n.F6++[Bc.mk (An8 .i64 2 c.G8) (c.G8+1) 2]) n.Fi)with
 |false=>
  simp_all[Atm]
 |true=>
  exact⟨_,_,rfl,Bpq (Ail.1 ⟨q3,L.st⟩) ⟨e.ep,e.ue,e.cur⟩⟩
theorem Bes{x:Ea}(hx:Ahg x=true)(z:As): ∀(f i:Nat) (c:D1) (n:As),i<f->i≤20->DP x n->Ae2 c->OkP (As5 K x f (i:Int) c.fb c.fi c.fh n z) (SN 50):=by
 obtain⟨b1,b2,_⟩:=A1 hx
 have j: ∀(c:D1) (n:As),SN 40 n->Ae2 c->OkP (As4 K c.fb c.fi c.fh n) (SN 50):=by
  intro c n hn hc;unfold As4;refine Aau (Apg K hc (by omega)) (fun y c1 hy w1=> ?_)
  have:=Ber K K y.toNat 40 c1 n (by omega) (by omega) hn w1
  grind
 intro f
 induction f with
 |zero=>omega
 |succ f ih=>
  intro i c n hi hm hn hc;rw[As5];refine Akv (fun h=> ?_) (fun _=> ?_)
  ·rw[decide_eq_true_eq]at h;refine Aau (Apg K hc (by omega)) (fun y c1 hy w1=>A2d K w1 (by decide) (fun a c2 ha w2=>Aqn rfl ?_))
   have e:An6 .i64 1 y=1+y:=by grind [An6,Ht]
   obtain⟨n',b,e2,h2⟩:=A6n hK hn.l hn.w hn.e.cur (1+y) a ⟨by omega,by omega⟩
   dsimp only;rw[e,e2,Z0,sbn (by omega) (by omega)]
   have h3:DP x n':=by
    rcases h2 with rfl|⟨off,hs,rfl⟩
    ·exact hn
    ·obtain⟨l1,l2⟩:=Bcp hn.l hn.e.cur hn.t hs;exact⟨l1,l2,⟨hn.e.ep,hn.e.ue,hn.e.cur⟩⟩
   grind
  ·obtain⟨r,e,w⟩:=Atk K hc (n:=3) (by omega)
   rw[show D1.mk c.fb c.fi c.fh=c from rfl,e,Z0]
   refine Akv (fun _=> ?_) (fun _=>j _ _ (Bpq hn.l hn.e) w);obtain⟨n',b,e2,h2⟩:=Ba2 hK hn.l hn.e
   grind
theorem Bet{x:Ea}(hx:Ahg x=true){c:D1}(hc:Ae2 c):OkP (Axz K c x) (SN 50):=by
 obtain⟨b1,b2,b3,b4,b5,b6⟩:=A1 hx;unfold Axz Aky;refine Aau (Apg K hc (by omega)) (fun y1 c1 h1 w1=> ?_)
 rw[Z0];refine Aau (Apg K w1 (by omega)) (fun y2 c2 h2 w2=>Aau (Apg K w2 (by omega)) (fun y3 c3 h3 w3=> ?_))
 dsimp only
 have e:An6 .i64 1 y1=1+y1:=by grind [An6,Ht]
 rw[e]
 have L:Aq1 x (As.mk 1 (1+y1) y2 0 0 0 0 0 [] 0 0 [] []):=⟨hx,rfl,⟨by grind,by grind⟩,⟨by grind,by grind⟩,⟨by grind,by grind⟩,⟨by grind,by grind⟩,⟨by grind,by grind⟩,h2.1,by grind,rfl,rfl,by simp,by simp,rfl,rfl⟩
 have E:EpP 1 (As.mk 1 (1+y1) y2 0 0 0 0 0 [] 0 0 [] []):=⟨by grind,by grind,by grind,by grind⟩
 have L2:=A5x L (k:=y3) ⟨by omega,by omega⟩ (by simp)
 rw[A5y hK L (Bpq L E).w ⟨by omega,by omega⟩ (by simp),Z0]
 have D:DP x (A32 (As.mk 1 (1+y1) y2 0 0 0 0 0 [] 0 0 [] []) y3):=⟨L2,⟨rfl,rfl,by simp[Arm,A32,Aqi]⟩,⟨E.ep,E.ue,by show 0≤y3+1;omega,by show y3+1≤1000;omega⟩⟩
 refine Aau (Apg K w3 (by omega)) (fun y4 c4 h4 w4=> ?_)
 have:=Bes hK hx (As.mk 0 0 0 0 0 0 0 0 [] 0 0 [] []) K y4.toNat c4 _ (by omega) (by omega) D w4
 rw[Int.toNat_of_nonneg (by omega)]at this
 exact this
structure SW (m:Nat)(x:Az):Prop where
 w:A1q x
 g:x.Fi.length≤m
 c:x.Ay.length≤m
theorem Bh3{x:Ea}(hx:Ahg x=true){c:D1}(hc:Ae2 c):OkP (Ay5 K c x) (SW 60):=by
 obtain⟨b1,b2,b3,b4,b5,b6⟩:=A1 hx
 have j: ∀(c:D1) (a z:Az),SW 50 a->Ae2 c->OkP (As6 K c.fb c.fi c.fh a z) (SW 50):=by
  intro c a z ha hc;unfold As6 Avw;obtain⟨r,e,w⟩:=Atk K hc (n:=4) (by omega)
  rw[show D1.mk c.fb c.fi c.fh=c from rfl,e,Z0]
  exact Akv (fun _=>okp ⟨⟨ha.w.slot,ha.w.first,Ayv,Ayv,Aw9⟩,by simp,by simp⟩ w) (fun _=>okp ha w)
 have d:OkP (Ax0 K c x) (SW 50):=by
  unfold Ax0;refine Aau (Bet hK hx hc) (fun n c1 hn w1=> ?_);dsimp only;rw[ad1 (x:=x.E6) (by omega) (by omega)]
  refine Aau (Apg K w1 (by omega)) (fun y2 c2 h2 w2=> ?_)
  dsimp only;rw[A2o K hn.w,Z0]
  have W:=Bd6 hn.w (s:=y2) (K0 (by omega) (by omega))
  refine Aau (Apg K w2 (by omega)) (fun y3 c3 h3 w3=> ?_)
  have hf:wfi y3:=K0 (by omega) (by omega)
  refine Akv (fun _=>Aau (Apg K w3 (by omega)) (fun y4 c4 h4 w4=> ?_)) (fun _=>j _ _ _ ⟨⟨W.slot,hf,W.tags,W.chunks,Aw9⟩,hn.g,hn.c⟩ w3)
  exact j _ _ _ ⟨⟨W.slot,hf,W.tags,W.chunks,K0 (x:=y4) (by omega) (by omega)⟩,hn.g,hn.c⟩ w4
 unfold Ay5 Apk;refine Aau d (fun a c1 ha w=> ?_)
 have h1:=ha.g;have h2:=ha.c
 have W:=ha.w
 repeat' (first|refine A2d _ (by assumption) (by decide) (fun x c hx hc=>Aqn rfl ?_)|refine Aau (Apg _ (by assumption) (by omega)) (fun x c hx hc=> ?_)|refine Akv (fun _=> ?_) (fun _=> ?_))
 ·exact okp ⟨{W with slot:=(by decide: ∀y∈([-1,0,8,9]:List Int),wfi y) _ ‹_›},show a.Fi.length≤60 by omega,show a.Ay.length≤60 by omega⟩ (by assumption)
 ·exact okp ⟨{W with first:=(by decide: ∀y∈([-1,9,0]:List Int),wfi y) _ ‹_›},show a.Fi.length≤60 by omega,show a.Ay.length≤60 by omega⟩ (by assumption)
 ·exact okp ⟨{W with done:=(by decide: ∀y∈([-1,0,8,16]:List Int),wfi y) _ ‹_›},show a.Fi.length≤60 by omega,show a.Ay.length≤60 by omega⟩ (by assumption)
 ·exact Aqn (A5g (show a.Fi.length≤_ by omega) _) (okp ⟨{W with tags:=A2t W.tags (by omega) ((by decide: ∀y∈([-1,255,256]:List Int),wfi y) _ ‹_›)},by grind,show a.Ay.length≤60 by omega⟩ (by assumption))
 ·exact Aqn (A5g (show a.Ay.length≤_ by omega) _) (okp ⟨{W with chunks:=A2t W.chunks (by omega) ((by decide: ∀y∈([-1,0,12]:List Int),wfi y) _ ‹_›)},show a.Fi.length≤60 by omega,by grind⟩ (by assumption))
 ·exact okp ⟨W,show a.Fi.length≤60 by omega,show a.Ay.length≤60 by omega⟩ (by assumption)
end
structure AnyP (w:C5):Prop where
 ww:Ak9 w
 l:w.fL.length≤8
 s:w.fP.Vi.length≤12∧w.fP.N8.length≤12∧w.fP.N7.length≤192
 q:w.fQ.length≤40000
 n: ∀x∈w.fL,SN 80 x
theorem Ba3{l:List Az}(h:A9v l)(hl:l.length≤100000){x:Az}(hx:A1q x):A9v (l++[x]):=by
 refine⟨fun y hy=> ?_,by grind⟩
 rcases Mj.1 hy with hy|hy
 ·exact h.1 y hy
 grind
theorem A7a{α:Type}{l:List α}{P:α->Prop}(h: ∀x∈l,P x)(i:Nat){x:α}(hx:P x): ∀y∈l.set i x,P y:=by
 grind
theorem AnyP.node{w:C5}(h:AnyP w)(i:Nat){x:As}(hx:SN 80 x):AnyP (C5.mk w.fC w.fP (w.fL.set i x) w.fQ w.Acy):=
 ⟨{h.ww with l:=A0z h.ww.l i hx.w},by show(w.fL.set i x).length≤8;grind [l],h.s,h.q,A7a h.n i hx⟩
section
variable {K:Nat} (hK:281474976710656≤K)
include hK
theorem Bh4{c:D1}(hc:Ae2 c){most:Int}(hm:0<most∧most≤1000):OkP (Ay6 K c most) AnyP:=by
 obtain⟨x,l,w,c',E,n,e,G,hE,hn,hwc,hx,_,_,w1⟩:=run_ok hK hc hm
 have W:=G.ww (by omega) (by omega)
 have I:=G.inv
 have hlen:=I.len;obtain⟨b1,b2,b3,b4,b5,b6⟩:=A1 I.conf
 have P:=Ai0.1 I.pool
 have h1:=Bl6 w
 have h2:=Bea w
 have h3:=G.wt
 have p1:=P.st;have p2:=P.own;have p3:=P.mem
 have hmm:=Auu (a:=w.fC.Ay) (b:=w.fC.G8) (m:=12) (n:=16) (by omega) b1.2 (by omega) b2.2
 have hm0:0<w.fC.Ay*w.fC.G8:=Int.mul_pos (by omega) (by omega)
 have N: ∀y∈w.fL,SN 12 y:=A70 fun k hk=>by
  have hb:=I.node k hk
  have hy:=A2q hb (G.ep k hk) (by omega)
  by_cases s:(gt w.fL k).Vi=1
  ·have X:=Ail.1 ⟨hb,s⟩
   have:=X.nth;have:=X.ntag;have:=Ar9 X.conf X.dist;exact⟨hy,by omega,by omega,by omega⟩
  ·rw[Ayj hb s]at hy ⊢;exact⟨hy,by simp[Aqb],by simp[Aqb],by simp[Aqb]⟩
 have A:AnyP w:=⟨W,by omega,by omega,by omega,fun y hy=>(N y hy).mono (by omega)⟩
 unfold Ay6 At2;rw[e,Z0,Z0];refine Aau (Apg K w1 (by grind)) (fun k c2 hk w2=>Aau (Apg K w2 (by omega)) (fun d c3 hd w3=> ?_))
 dsimp only at hk ⊢
 have hg:=Al5 hk.1 hk.2
 have S:=N _ hg
 have SW':=S.w
 have St:=S.t
 have M:=S.mono (k:=80) (by omega)
 unfold W2;refine Akv (fun _=>Aau (Bm6 K w3) (fun y c4 hy w4=>okp ⟨{W with c:=hy},A.l,A.s,A.q,A.n⟩ w4)) (fun _=> ?_)
 refine Akv (fun _=>Aau (Apg K w3 (by omega)) (fun y c4 hy w4=>Aau (Apg K w4 (by omega)) (fun z c5 hz w5=>Aqn hy (okp ⟨{W with p:={W.p with st:=⟨A7a W.p.st.1 _ (K0 (x:=z) (by omega) (by omega)),by grind⟩}},A.l,by grind,A.q,A.n⟩ w5)))) (fun _=> ?_)
 refine Akv (fun _=>Aau (Apg K w3 (by omega)) (fun y c4 hy w4=>Aqn hy (okp ⟨{W with p:={W.p with mem:=⟨A7a W.p.mem.1 _ ⟨by decide,by decide⟩,by grind⟩}},A.l,by grind,A.q,A.n⟩ w4))) (fun _=> ?_)
 refine Akv (fun _=>Aau (Bm9 hK I.conf w3) (fun y c4 hy w4=>Aqn hk (okp (A.node _ (hy.mono (by omega))) w4))) (fun _=> ?_)
 refine Akv (fun _=>Aau (Apg K w3 (by omega)) (fun y c4 hy w4=>Aqn hk (okp (A.node _ ⟨{SW' with st:=K0 (x:=y) (by omega) (by omega)},M.c,M.t,M.g⟩) w4))) (fun _=> ?_)
 refine Akv (fun _=>Aau (Apg K w3 (by omega)) (fun y c4 hy w4=>Aqn hk (okp (A.node _ ⟨{SW' with up:=K0 (x:=y) (by omega) (by omega)},M.c,M.t,M.g⟩) w4))) (fun _=> ?_)
 refine Akv (fun _=>Aqn hk (Aqn hk (okp (A.node _ ⟨{SW' with ep:=Aym _},M.c,M.t,M.g⟩) w3))) (fun _=> ?_)
 refine Akv (fun _=>Aau (Bh3 hK I.conf w3) (fun y c4 hy w4=>Aqn ?_ (okp ⟨{W with q:=Ba3 W.q (by omega) hy.w},A.l,A.s,by grind,A.n⟩ w4))) (fun _=> ?_)
 ·grind [V2]
 refine Akv (fun _=>Akv (fun h=> ?_) (fun _=>okp A w3)) (fun _=> ?_)
 ·rw[decide_eq_true_eq]at h;refine Aqn ⟨by omega,by omega,by omega⟩ (okp ⟨{W with q:=⟨fun y hy=>W.q.1 y (List.mem_of_mem_drop (Z42 hy)),by grind⟩},A.l,A.s,by grind,A.n⟩ w3)
 refine Akv (fun _=>A2d K w3 (by decide) (fun y c4 hy w4=>Aqn rfl (Aqn ?_ (okp ⟨{W with log:=⟨fun z hz=> ?_,by grind⟩},A.l,A.s,A.q,A.n⟩ w4)))) (fun _=> ?_)
 ·grind [V2]
 ·rcases Mj.1 hz with hz|hz
  ·exact W.log.1 z hz
  ·rw[Pz.1 hz];exact(by decide: ∀y∈([0,255,256,-1]:List Int),wfi y) _ hy
 refine Akv (fun _=>Aqn hk (Aqn hk (Aau (Apg K w3 (by omega)) (fun y c4 hy w4=>Aqn (Ba1 (by omega) _) (Aqn hk (okp (A.node _ ((S.thing (by omega) (A9h _ _ _ (K0 (x:=y) (by omega) (by omega)) (K0 (by decide) (by decide)) Aw9)).mono (by omega))) w4)))))) (fun _=> ?_)
 refine Akv (fun _=>Aau (Apg K w3 (by omega)) (fun y c4 hy w4=>Aqn hk (okp (A.node _ ⟨{SW' with next:=K0 (x:=y) (by omega) (by omega)},M.c,M.t,M.g⟩) w4))) (fun _=> ?_)
 refine Akv (fun _=>Akv (fun h=> ?_) (fun _=>okp A w3)) (fun _=>okp A w3);rw[decide_eq_true_eq]at h;refine Aau (Apg K w3 (by omega)) (fun y c4 hy w4=>Aqn ⟨by omega,h⟩ (okp ⟨{W with q:=⟨A7a W.q.1 _ {W.q.1 _ (Al5 (i:=0) (by omega) h)with done:=K0 (x:=y) (by omega) (by omega)},by grind⟩},A.l,A.s,by grind,A.n⟩ w4))
end
theorem Bvb{K:Nat}(a:List Int)(ha:a.length≤1048576)(hb:Axb a)(i:Int)(hi:0≤i∧i≤100): ∃r,A3q K a i=some r∧0≤r:=by
 unfold A3q
 by_cases q:i<(a.length:Int)
 ·rw[decide_eq_true q,cond_true,if_pos ⟨hi.1,q⟩]
  have:=hb _ (Al5 hi.1 q);exact⟨_,rfl,by rw[Ht (by omega) (by omega)];omega⟩
 ·rw[decide_eq_false q,cond_false,if_pos (by decide)]
  refine⟨_,rfl,?_⟩
  have e:An6 .i64 (An8 .i64 i 31) (An8 .i64 (a.length:Int) 7)=i*31+(a.length:Int)*7:=by
   unfold An6 An8;rw[Ht (n:=i*31) (by omega) (by omega),Ht (n:=(a.length:Int)*7) (by omega) (by omega),Ht (by omega) (by omega)]
  rw[e];exact Int.tmod_nonneg _ (by omega)
section
variable {K:Nat} (hK:281474976710656≤K)
include hK
theorem Bpr{a:List Int}(hb:Axb a)(ha:a.length≤1048576){most:Int}(hm:0<most∧most≤1000): ∃w c,Ax1 K a most=some (c,w)∧AnyP w∧Ae2 c:=by
 obtain⟨c,e1,w1⟩:=Bcu hK hb ha;obtain⟨w,c2,e2,A,w2⟩:=Bh4 hK w1 hm;refine⟨w,c2,?_,A,w2⟩;unfold Ax1;rw[e1,Z0,e2];rfl
end
section
variable {K:Nat} (hK:281474976710656≤K)
include hK
theorem Beu{mem s:List Int}(hm:mem.length≤140737488355327)(p:Int):A0c K mem p s=some (bif decide (0≤p∧(0:Int)≤(s.length:Int)∧p+(s.length:Int)≤(mem.length:Int))then(Em mem p s,true)else(mem,false)):=by
 unfold A0c;rw[A4d K hm,Bll K hm];simp only[Z0,Ad4]
 by_cases h:0≤p∧(0:Int)≤(s.length:Int)∧p+(s.length:Int)≤(mem.length:Int)
 ·rw[decide_eq_true h,cond_true,cond_true,if_pos ⟨h.1,by omega,Int.le_refl _⟩]
  have e:Nat.min s.length (((mem.length:Int) - p).toNat)=s.length:=Nat.min_eq_left (by omega)
  rw[e,List.take_length];rfl
 ·rw[decide_eq_false h];rfl
theorem A6w{mem s:List Int}(hm:mem.length≤140737488355327){t:Bc}(wt:ThingW t)(off:Int):Aut K mem t off s=some (A76 mem t off s):=by
 obtain⟨r,h1,h2,h3⟩:=Bd3 K hm wt off (s.length:Int);unfold Aut A76 A5f;rw[h1,Z0,h2,Ad4]
 by_cases h:(0≤off∧(0:Int)≤(s.length:Int)∧off+(s.length:Int)≤t.Ajm)∧0≤An6 .i64 t.fAt off∧An6 .i64 t.fAt off+(s.length:Int)≤(mem.length:Int)
 ·rw[decide_eq_true h,cond_true,cond_true,h3 (by rw[h2];exact decide_eq_true h),Beu hK hm,decide_eq_true ⟨h.2.1,by omega,h.2.2⟩]
  rfl
 ·rw[decide_eq_false h,cond_false,cond_false,A4d K hm];rfl
theorem Bps{w:C5}(hw:Ak9 w)(hB:A2l w=true){r:Br}{k c:Int}{t:Bc}(h:Apy K w r=some (k,t,c))(wt:ThingW t)(hc:c≠0)(off n:Int):A1a K w r off n=some (w,Brc c (A6g w r.fH) []):=by
 unfold A1a Ath Awe;rw[A2m hK w hw,Ayh hK hw,A5r hK w hw.l,h]
 have e2:C5.mk (Ea.mk w.fC.Ay w.fC.G8 w.fC.E6 w.fC.Gu w.fC.E7 w.fC.G9) (Dn.mk w.fP.N7 w.fP.Vi w.fP.N8) w.fL w.fQ w.Acy=w:=rfl;simp only[Z0,e2,Ayh hK hw,Ad4,hB,cond_true];simp only[bne,Ad4,App hc,cond_false];rfl
end
theorem Bc2 (K:Nat){c:D1}(hc:Ae2 c):OkP (Ax2 K c) fun _=>True:=by
 unfold Ax2 Avc;obtain⟨h,c1,e,w⟩:=A6q K hc;rw[e,Z0];dsimp only
 repeat' (first|refine A2d _ (by assumption) (by decide) (fun x c hx hc=>Aqn rfl ?_)|refine Aau (Apg _ (by assumption) (by omega)) (fun x c hx hc=> ?_)|refine Akv (fun _=> ?_) (fun _=> ?_))
 all_goals exact okp trivial (by assumption)
theorem A5h (K:Nat){l:List As}(hl:l.length≤1000)(k:Int): ∃h,Ang K l k=some h:=by
 unfold Ang;rw[Azh K (by omega),Z0]
 by_cases q:0≤k∧k<(l.length:Int)
 ·rw[decide_eq_true q,Bool.not_true,cond_false,if_pos q];exact⟨_,rfl⟩
 ·rw[decide_eq_false q];exact⟨_,rfl⟩
section
variable {K:Nat} (hK:281474976710656≤K)
include hK
omit hK in
theorem A1w (K:Nat){c:D1}(hc:Ae2 c)(h z:An):OkP (Apx K c.fb c.fi c.fh h z) fun _=>True:=by
 unfold Apx Atq;obtain⟨r,e,w⟩:=Atk K hc (n:=10) (by omega)
 rw[show D1.mk c.fb c.fi c.fh=c from rfl,e,Z0]
 exact Akv (fun _=>okp trivial w) (fun _=>okp trivial w)
theorem A5i{w:C5}(A:AnyP w){c:D1}(hc:Ae2 c):OkP (As7 K c w) fun _=>True:=by
 have hl:=A.l;unfold As7;refine Akv (fun _=>Aau (Bc2 K hc) (fun x c _ hc=>okp trivial hc)) (fun h0=> ?_)
 have h0:w.fL.length≠0:=fun e=>by rw[e]at h0;cases h0
 obtain⟨r,e,w1⟩:=Atk K hc (n:=6) (by omega)
 rw[e,Z0];refine Akv (fun _=>Aau (Bc2 K w1) (fun x c _ hc=>okp trivial hc)) (fun _=>Aau (Apg K w1 (by omega)) (fun x c2 hx w2=> ?_))
 obtain⟨h1,e1⟩:=A5h K (l:=w.fL) (by omega) x
 obtain⟨rs,e2,h2,h3⟩:=A4o hK A.ww (by omega)
 dsimp only;rw[e1,Z0,e2,Z0];refine Akv (fun hp=> ?_) (fun _=>A1w K w2 _ (An.mk 0 0));rw[decide_eq_true_eq]at hp;obtain⟨r2,e3,w3⟩:=Atk K w2 (n:=4) (by omega)
 rw[e3,Z0];refine Akv (fun _=>Aau (Apg K w3 (by omega)) (fun y c4 hy w4=>Aqn hy ?_)) (fun _=>A1w K w3 _ (An.mk 0 0))
 obtain⟨h4,e4⟩:=A5h K (l:=w.fL) (by omega) (gt rs y)
 dsimp only;rw[e4];exact A1w K w4 _ (An.mk 0 0)
end
section
variable {K:Nat} (hK:281474976710656≤K)
include hK
end
section
variable {N:Int} {t:Int->Lk}
theorem Bev{x y:Int}(h:Al N t x)(l:Lv N t y)(e1:(t y).up=(t x).up)(e2:(t y).ue=(t x).ue):Al N t y:=by
 cases h with
 |root a b=>exact .root l (e1.trans b)
 |step a b c=>exact .step l ⟨by rw[e1];exact b.1,by rw[e1,e2];exact b.2⟩ (by rw[e1];exact c)
theorem Brg{x:Int}(h:Al N t x)(h0:(t x).up≠0):Al N t ((t x).up - 1):=by
 cases h with
 |root a b=>exact absurd b h0
 |step a b c=>exact c
def Bd (N:Int)(t:Int->Lk)(y:Int):Prop:=Lv N t y∧ ¬Al N t y
theorem Bpt (T:Aqm N t){c:Int}(h:Bd N t c)(hn:(t c).nx≠0):Bd N t ((t c).nx - 1):=by
 obtain⟨a,_,b,d⟩:=(T.link c h.1).next hn;exact⟨a,fun g=>h.2 (Bev g h.1 b.symm d.symm)⟩
theorem A5j (n:Nat):kids N t n (0 - 1)=[]:=by
 cases n with
 |zero=>rfl
 |succ n=>rw[A3u,if_neg (by omega)]
theorem Bpu (T:Aqm N t): ∀(n:Nat) (c:Int),Bd N t c-> ∀x∈kids N t n c,Bd N t x:=by
 intro n
 induction n with
 |zero=>intro c _ x hx;cases hx
 |succ n ih=>
  intro c h x hx;rw[A3u,if_pos h.1.1]at hx;rcases Eg.1 hx with rfl|hx
  ·exact h
  ·by_cases hn:(t c).nx=0
   ·rw[hn,A5j]at hx;cases hx
   ·exact ih _ (Bpt T h hn) x hx
theorem Byk (T:Aqm N t){j:Int}(h:Bd N t j): ∀x∈kf N t (t j).fi,Bd N t x:=by
 intro x hx;unfold kf at hx
 by_cases hf:(t j).fi=0
 ·rw[hf,A5j]at hx;cases hx
 ·obtain⟨a,_,b,_⟩:=(T.link j h.1).first hf;refine Bpu T _ _ ⟨a,fun g=>h.2 ?_⟩ x hx
  have:=Brg g (by rw[b];have:=h.1.1;omega)
  rw[b,Int.add_sub_cancel]at this;exact this
theorem Ba4 (T:Aqm N t){g:Int}(hg:Al N t g){y:Int}(h:Bd N t y):y≠g∧y+1≠(t g).pv∧rem t g y=t y:=by
 have hy:=h.1.1
 have h1:y≠g:=fun e=>h.2 (e ▸ hg)
 have h2:y+1≠(t g).pv:=by
  intro e;obtain⟨_,b⟩:=(T.link g hg.lv).prev (by omega)
  rw[←e,Int.add_sub_cancel]at b
  have hg0:=hg.lv.1;obtain⟨_,_,c,d⟩:=(T.link y h.1).next (by omega)
  rw[b,Int.add_sub_cancel]at c d;exact h.2 (Bev hg h.1 c.symm d.symm)
 refine⟨h1,h2,?_⟩;rw[Akx h1,if_neg h2,if_neg,if_neg]
 ·intro e;obtain⟨_,_,c,d⟩:=(T.link g hg.lv).next (by omega)
  rw[←e,Int.add_sub_cancel]at c d;exact h.2 (Bev hg h.1 c d)
 ·rintro⟨_,e,_⟩
  have:=Brg hg (by omega)
  rw[←e,Int.add_sub_cancel]at this;exact h.2 this
theorem Byl (T:Aqm N t){g:Int}(hg:Al N t g){f:Int}(h: ∀x∈kf N t f,Bd N t x):kf N (rem t g) f=kf N t f:=
 Baf fun x hx=>⟨(Ba4 T hg (h x hx)).1,(Ba4 T hg (h x hx)).2.1⟩
end
structure Lft (w w':C5)(t:Int->Lk)(k:Int):Prop where
 A:AtT w.fL t
 R:Rg w.fL
 T:Aqm w.fL.length t
 al:Al w.fL.length t k
 len:w'.fL.length=w.fL.length
 A':AtT w'.fL (rem t k)
 R':Rg w'.fL
 tags: ∀x,0≤x∧x<(w.fL.length:Int)->x≠k->(gt w'.fL x).Fi=(gt w.fL x).Fi
theorem Lft.kids{w w':C5}{t:Int->Lk}{k:Int}(L:Lft w w' t k){f:Int}(hf:0≤f∧f≤1000)(h: ∀x∈Abj w.fL f,Bd w.fL.length t x):Abj w'.fL f=Abj w.fL f:=by
 rw[A3f L.A L.R hf.1 hf.2]at h ⊢;rw[A3f L.A' L.R' hf.1 hf.2,L.len,Byl L.T L.al h]
theorem Lft.kidsK{w w':C5}{t:Int->Lk}{k:Int}(L:Lft w w' t k){y:Int}(h:Bd w.fL.length t y):kidsK w' y=kidsK w y∧ ∀x∈kidsK w y,Bd w.fL.length t x:=by
 have hy:=h.1.1
 have h1:(gt w'.fL y).Ef=(gt w.fL y).Ef:=by
  have e1:=L.A' y (by rw[L.len];exact hy)
  have e2:=L.A y hy;rw[(Ba4 L.T L.al h).2.2,e2]at e1;exact(congrArg Lk.fi e1).symm
 have hr:=(L.R.rg y hy).2.1
 have hl:=L.R.len
 have h2: ∀x∈Abj w.fL (gt w.fL y).Ef,Bd w.fL.length t x:=by
  rw[A3f L.A L.R (by omega) (by omega)]
  have:=Byk L.T h;rw[L.A y hy]at this;exact this
 show Abj w'.fL (gt w'.fL y).Ef=Abj w.fL (gt w.fL y).Ef∧_;rw[h1];exact⟨L.kids ⟨by omega,by omega⟩ h2,h2⟩
theorem Lft.step{w w':C5}{t:Int->Lk}{k:Int}(L:Lft w w' t k){D D':List Int->List Int->List Int×List Int}(hD: ∀ks met,(∀x∈ks,Bd w.fL.length t x)->D' ks met=D ks met)(s:List Int×List Int){y:Int}(h:Bd w.fL.length t y):Beo (· ++ ·) (A51 w') w' D' s y=Beo (· ++ ·) (A51 w) w D s y:=by
 obtain⟨e1,e2⟩:=L.kidsK h;unfold Beo A51;rw[e1,hD _ _ e2,L.tags y h.1.1 (Ba4 L.T L.al h).1]
theorem A6s{l:List As}{h:An}(h0:(Aio l h).2=0):Arn l (Aio l h).1=true:=by
 unfold Aio at h0 ⊢;cases q1:Ap3 h with
 |false=>rw[q1]at h0;cases h0
 |true=>
  rw[q1]at h0;simp only[cond_true]at h0 ⊢
  by_cases q2:Apr l h<0
  ·rw[decide_eq_true q2]at h0;cases h0
  ·rw[decide_eq_false q2]at h0 ⊢;simp only[cond_false]at h0 ⊢;cases q3:Arn l (Apr l h)with
   |false=>rw[q3]at h0;cases h0
   |true=>exact q3
section
variable {K:Nat} (hK:281474976710656≤K)
include hK
theorem Bew{w:C5}(hw:Ak9 w)(h:An):Azb K w h=some (if(Aio w.fL h).2=0 then(gt w.fL (Aio w.fL h).1).Fi else []):=by
 unfold Azb;rw[Aos hK hw.l];simp only[Z0]
 by_cases h0:(Aio w.fL h).2=0
 ·have hi:=A0w h0
  have h2:=(hw.l.1 _ (Al5 hi.1 hi.2)).tags.2;rw[if_pos h0,show((Aio w.fL h).2 != 0)=false by rw[h0];rfl]
  simp only[cond_false];rw[if_pos hi,Atj K h2];rfl
 ·rw[if_neg h0,show((Aio w.fL h).2 != 0)=true from bne_iff_ne.2 h0];rfl
end
section
variable {N:Int} {t:Int->Lk}
theorem Bna (T:Aqm N t){k:Int}: ∀(n:Nat) (c:Int),Lv N t c∧(t c).up=k+1∧(t c).ue=(t k).ep-> ∀x∈kids N t n c,Lv N t x∧(t x).up=k+1∧(t x).ue=(t k).ep:=by
 intro n
 induction n with
 |zero=>intro c _ x hx;cases hx
 |succ n ih=>
  intro c h x hx;rw[A3u,if_pos h.1.1]at hx;rcases Eg.1 hx with rfl|hx
  ·exact h
  ·by_cases hn:(t c).nx=0
   ·rw[hn,A5j]at hx;cases hx
   ·obtain⟨a,_,b,d⟩:=(T.link c h.1).next hn;exact ih _ ⟨a,b.trans h.2.1,d.trans h.2.2⟩ x hx
theorem Bh5{s:Int->Lk}(h: ∀x,0≤x∧x<N->s x=t x){y:Int}(a:Al N t y):Al N s y:=by
 induction a with
 | @root y a b=>
  have e:=h y a.1;exact .root ⟨a.1,by rw[e];exact a.2⟩ (by rw[e];exact b)
 | @step y a b c ih=>
  have e:=h y a.1
  have e2:=h _ b.1.1;exact .step ⟨a.1,by rw[e];exact a.2⟩ ⟨⟨by rw[e];exact b.1.1,by rw[e,e2];exact b.1.2⟩,by rw[e,e2];exact b.2⟩ (by rw[e];exact ih)
theorem Bvc{k:Int}{d:Int->Nat}(U: ∀x,Lv N t x->Cu N t x->d ((t x).up - 1)<d x){y:Int}(a:Al N t y):d y≤d k->Al N (emp t k) y:=by
 induction a with
 | @root y a b=>exact fun _=> .root (Aqu.2 a) ((Agn k y).2.2.1.trans b)
 | @step y a b c ih=>
  intro h
  have hd:=U y a b
  have hu:(t y).up≠k+1:=fun e=>by rw[e,Int.add_sub_cancel]at hd;omega
  refine .step (Aqu.2 a) ((A44 hu).2 b) ?_;rw[(Agn k y).2.2.1];exact ih (by omega)
theorem Bvd (T:Aqm N t){k:Int}(hk:Lv N t k): ∀x∈kf N t (t k).fi,Lv N t x∧(t x).up=k+1∧(t x).ue=(t k).ep:=by
 intro x hx;unfold kf at hx
 by_cases hf:(t k).fi=0
 ·rw[hf,A5j]at hx;cases hx
 ·obtain⟨a,_,b,c⟩:=(T.link k hk).first hf;exact Bna T _ _ ⟨a,b,c⟩ x hx
end
section
variable {K:Nat} (hK:281474976710656≤K)
include hK
theorem Bc3{w:C5}(hw:Ak9 w)(h8:w.fL.length≤8)(h g:An): ∃b,Asb K w h g=some b∧Ay7 K w h g=some b:=by
 unfold Asb Ay7;rw[Aos hK hw.l,Aq0 hK hw.l,Z0,Z0,Aos hK hw.l,Aq0 hK hw.l,Z0,Z0];cases e1:((Aio w.fL h).2==0)with
 |false=>exact⟨false,rfl,rfl⟩
 |true=>
 cases e2:((Aio w.fL g).2==0)with
 |false=>exact⟨false,rfl,rfl⟩
 |true=>
 simp only[cond_true]
 have hi:=A0w (beq_iff_eq.1 e1)
 have hl:=A25 (l:=w.fL) w.fL.length (Aio w.fL h).1;rw[A0v hK hw.l,A0u hK hw.l _ ⟨by omega,by omega⟩,Z0,Z0,Azf hK _ _ (by omega),Azg hK _ _ (by omega)]
 exact⟨_,rfl,rfl⟩
theorem A5k{w:C5}(hw:Ak9 w){h:An}{k:Int}(hf:Aio w.fL h=(k,0))(hl:(gt w.fL k).F6.length≤100): ∃l,At9 K w h=some l∧l.length=(gt w.fL k).F6.length∧ ∀r∈l,r.fH=h∧r.Sl=(gt w.fL k).Sl∧0≤r.fNo:=by
 have hm:=V2
 have hk:0≤k∧k<(w.fL.length:Int):=by
  have:=A0w (l:=w.fL) (h:=h) (by rw[hf])
  rw[hf]at this;exact this
 unfold At9;rw[Aos hK hw.l,Z0,hf];simp only[bne_self_eq_false,cond_false];rw[if_pos hk]
 have key: ∀(f i:Nat) (v:List Br),i≤(gt w.fL k).F6.length->(gt w.fL k).F6.length - i<f->v.length=i->(∀r∈v,r.fH=h∧r.Sl=(gt w.fL k).Sl∧0≤r.fNo)-> ∃l,Ar1 K h f v k ((gt w.fL k).F6.length:Int) (i:Int) w.fC.Ay w.fC.G8 w.fC.E6 w.fC.Gu w.fC.E7 w.fC.G9 w.fP.N7 w.fP.Vi w.fP.N8 w.fL w.fQ w.Acy=some l∧l.length=(gt w.fL k).F6.length∧ ∀r∈l,r.fH=h∧r.Sl=(gt w.fL k).Sl∧0≤r.fNo:=by
  intro f
  induction f with
  |zero=>intro i v _ h;omega
  |succ f ih=>
   intro i v hi hf hv ha;rw[Ar1];rcases Hn i (gt w.fL k).F6.length with q|q
   ·rw[Ad8 q,cond_true,if_pos hk,if_pos ⟨by simp;omega,by simp;omega⟩,Ad5 (by omega)]
    refine ih (i+1) _ (by omega) (by omega) (by simp;omega) fun r hr=> ?_
    rcases Mj.1 hr with hr|hr
    ·exact ha r hr
    ·rw[Pz.1 hr];exact⟨rfl,rfl,Int.natCast_nonneg i⟩
   ·rw[Arh q,cond_false];exact⟨_,rfl,by omega,ha⟩
 exact key K 0 [] (Z21 _) (by omega) rfl (fun r hr=>by cases hr)
theorem A8e{w:C5}(hw:Ak9 w)(h8:w.fL.length≤8){h:An}{k:Int}(hf:Aio w.fL h=(k,0)): ∃l,Awd K w h=some l∧l.length=(Abj w.fL (gt w.fL k).Ef).length∧ ∀r∈l,∃c∈Abj w.fL (gt w.fL k).Ef,r=An.mk c (gt w.fL c).C9:=by
 have hm:=V2
 have hk:0≤k∧k<(w.fL.length:Int):=by
  have:=A0w (l:=w.fL) (h:=h) (by rw[hf])
  rw[hf]at this;exact this
 have hlen:(Abj w.fL (gt w.fL k).Ef).length≤8:=by
  have:=A0j (l:=w.fL) w.fL.length (An7 .i64 (gt w.fL k).Ef 1);unfold Abj;omega
 unfold Awd;rw[Aos hK hw.l,Z0,hf];simp only[bne_self_eq_false,cond_false];rw[if_pos hk,A6d hK hw.l,Z0]
 have hin: ∀c∈Abj w.fL (gt w.fL k).Ef,0≤c∧c<(w.fL.length:Int):=A29 _ _;generalize Abj w.fL (gt w.fL k).Ef=ks at hlen hin ⊢
 have key: ∀(f i:Nat) (v:List An),i≤ks.length->ks.length - i<f->v.length=i->(∀r∈v,∃c∈ks,r=An.mk c (gt w.fL c).C9)-> ∃l,Aub K ks f v (ks.length:Int) (i:Int) w.fC.Ay w.fC.G8 w.fC.E6 w.fC.Gu w.fC.E7 w.fC.G9 w.fP.N7 w.fP.Vi w.fP.N8 w.fL w.fQ w.Acy=some l∧l.length=ks.length∧ ∀r∈l,∃c∈ks,r=An.mk c (gt w.fL c).C9:=by
  intro f
  induction f with
  |zero=>intro i v _ h;omega
  |succ f ih=>
   intro i v hi hf hv ha;rw[Aub];rcases Hn i ks.length with q|q
   ·have hc:=hin _ (Ane q);rw[Ad8 q,cond_true,if_pos (Akq q),A39 (by omega) hc,Z0,if_pos ⟨by simp;omega,by simp;omega⟩,Ad5 (by omega)]
    refine ih (i+1) _ (by omega) (by omega) (by simp;omega) fun r hr=> ?_
    rcases Mj.1 hr with hr|hr
    ·exact ha r hr
    ·rw[Pz.1 hr];exact⟨_,Ane q,rfl⟩
   ·rw[Arh q,cond_false];exact⟨_,rfl,by omega,ha⟩
 exact key K 0 [] (Z21 _) (by omega) rfl (fun r hr=>by cases hr)
theorem Bnb{w:C5}(hw:Ak9 w)(hB:A2l w=true){r:Br}{k c:Int}{t:Bc}(h:Apy K w r=some (k,t,c))(wt:ThingW t)(hc:c≠0)(off:Int)(s:List Int):A0d K w r off s=some (w,Brc c (A6g w r.fH) []):=by
 unfold A0d Ath Avh;rw[A2m hK w hw,Ayh hK hw,A5r hK w hw.l,h];simp only[Z0,Ad4,hB,cond_true];rw[A6w hK hw.p.mem.2 wt];simp only[Z0,bne,Ad4,App hc,cond_false];rfl
theorem Bex{w:C5}(hw:Ak9 w){r:Br}{k:Int}(hf:Aio w.fL r.fH=(k,0))(ho:Ap3 r.fH=true)(he:0≤r.Sl)(hn:0≤r.fNo)(hne:(gt w.fL k).Sl≠r.Sl):Apy K w r=some (-1,Bc.mk 0 0 0,2):=by
 have hk:0≤k∧k<(w.fL.length:Int):=by
  have:=A0w (l:=w.fL) (h:=r.fH) (by rw[hf])
  rw[hf]at this;exact this
 unfold Apy A2g;rw[A35,Z0,ho,cond_true,decide_eq_true (show r.Sl≥0 from he),cond_true,decide_eq_true (show r.fNo≥0 from hn),Z0,Bool.not_true,cond_false,Aos hK hw.l,Z0,hf]
 simp only[bne_self_eq_false,cond_false];rw[if_pos hk];unfold A0p;cases h1:((gt w.fL k).Vi != 1)with
 |true=>rfl
 |false=>
  rw[show((gt w.fL k).Sl != r.Sl)=true from bne_iff_ne.2 hne]
  rfl
theorem A8t{a:List Int}(hb:Axb a)(ha:a.length≤1048576): ∃w h g,Auq K a=some (w,h,g)∧AnyP w:=by
 obtain⟨w,c,e1,A,w1⟩:=Bpr hK hb ha (most:=40) (by omega)
 obtain⟨h,c2,e2,_,w2⟩:=A5i hK A w1;obtain⟨g,c3,e3,_,_⟩:=A5i hK A w2;refine⟨w,h,g,?_,A⟩;unfold Auq;simp only[e1,Z0,e2,e3]
theorem A53{w:C5}(hw:Ak9 w)(h:An):Asc K w h=some ((Aio w.fL h).2 != 0):=by
 unfold Asc;rw[Aos hK hw.l];rfl
theorem Bh6{w:C5}(hB:A2l w=true)(hw:Ak9 w)(hQ:w.fQ.length≤1000000000){h:An}{k:Int}(hf:Aio w.fL h=(k,0))(hst:(gt w.fL k).Vi=1)(hk:0≤k∧k<(w.fL.length:Int)): ∃a,A0b K w h=some (K1 w k,a)∧a.W4=0:=by
 unfold A0b Arl;rw[A2m hK w hw,hB,Z0,Bool.not_true,cond_false,A5r hK w hw.l,Z0,Aos hK hw.l,Z0,hf];simp only[bne_self_eq_false,cond_false];rw[Bac hK w hw (by omega) hk hst]
 exact⟨_,rfl,rfl⟩
end
theorem Bc4{l:List As}{h:An}(h0:(Aio l h).2=0):(Aio l h).1=h.Bm:=by
 unfold Aio at h0 ⊢;cases q1:Ap3 h with
 |false=>rw[q1]at h0;cases h0
 |true=>
  rw[q1]at h0;simp only[cond_true]at h0 ⊢
  by_cases q2:Apr l h<0
  ·rw[decide_eq_true q2]at h0;cases h0
  ·have q3:=q2;rw[decide_eq_false q2]at h0 ⊢;unfold Apr at q3;split at q3
   ·rename_i z
    have hp:Apr l h=h.Bm:=by unfold Apr;exact if_pos z
    simp only[cond_false]at h0 ⊢;cases q4:Arn l (Apr l h)with
    |false=>rw[q4]at h0;cases h0
    |true=>exact hp
   ·omega
theorem A8u (a:List Int)(u:A9t a): ∃K,Aw3 K a=some true:=by
 refine⟨562949953421312,?_⟩
 have hK:281474976710656≤562949953421312:=by decide
 unfold Aw3 A4a;rw[Z0]
 by_cases hbig:(a.length:Int)>1048576
 ·rw[decide_eq_true hbig,cond_true]
 rw[decide_eq_false hbig,cond_false]
 have ha:a.length≤1048576:=by omega
 have hb:Axb a:=(Bhd u).1;obtain⟨w,o,E,n,e1,G,hE,hn,_⟩:=Bay hK hb ha;obtain⟨v,h,g,e2,A⟩:=A8t hK hb ha
 have W:=G.ww (by omega) (by omega)
 have I:=G.inv;obtain⟨b1,b2,b3,_⟩:=A1 I.conf
 have hlen:=I.len
 have hq:=Bl6 w
 have hwt:=G.wt;obtain⟨b,i1,i2⟩:=Bc3 hK A.ww A.l h g;rw[e1,Z0,e2,Z0];dsimp only;rw[i1,Z0,i2,Z0,beq_self_eq_true,Bool.not_true,cond_false,Ba0 hK W (by omega),Z0]
 by_cases hz:(A04 w).length=0
 ·rw[hz,show(((0:Nat):Int)==0)=true from rfl,cond_true,A53 hK W]
  have:(Aio w.fL (An.mk 0 1)).2≠0:=by
   intro h0
   have hm:=A9g.2 ⟨A0w h0,A6s h0⟩;rw[Y9.1 hz]at hm;cases hm
  rw[bne_iff_ne.2 this];rfl
 rw[show(((A04 w).length:Int)==0)=false from App (by omega),cond_false]
 obtain⟨r,e4,hr⟩:=Bvb (K:=562949953421312) a ha hb 2 (by omega)
 have t1:0≤Int.tmod r ((A04 w).length:Int):=Int.tmod_nonneg _ hr
 have t2:Int.tmod r ((A04 w).length:Int)<((A04 w).length:Int):=Int.tmod_lt_of_pos _ (by omega)
 rw[e4,Z0,if_pos (by omega),if_pos ⟨t1,t2⟩]
 obtain⟨hk,hal⟩:=A9g.1 (Al5 t1 t2);generalize gt (A04 w) (Int.tmod r ((A04 w).length:Int))=k at hk hal ⊢;obtain⟨t,AT,F⟩:=I.forest
 have al:=(A2c I AT F).1 hal
 have st:=((Aul AT).1 al.lv).2
 have Lk:=I.live AT al.lv
 have hfw:=Baz I hal
 have hoh:Ap3 (An.mk k (gt w.fL k).C9)=true:=by
  unfold Ap3;simp only;rw[decide_eq_true (show k≥0 from hk.1),decide_eq_true (show(gt w.fL k).C9≥1 from Lk.gen.1)];rfl
 have hnth:=Lk.nth
 have hep0:=Lk.ep
 have hep1:=(G.ep k hk).ep;rw[A39 (by omega) hk,Z0]
 generalize ho:An.mk k (gt w.fL k).C9=oh at hfw hoh ⊢;obtain⟨tl,e5,h5,h6⟩:=A5k hK W hfw (by omega)
 obtain⟨kl,e6,h7,h8⟩:=A8e hK W (by omega) hfw
 obtain⟨ra,e7,h9⟩:=Bh6 hK I.ok W (by omega) hfw st hk
 rw[e5,Z0,e6,Z0,e7,Z0];dsimp only
 have G2:=A8a G (by omega) (show AlW w.fL k from⟨t,AT,al⟩)
 have X:=G2.ww (by omega) (by omega)
 have I2:=G2.inv
 have l2:(K1 w k).fL.length=w.fL.length:=by unfold K1;rw[Z49]
 have x2:gt (K1 w k).fL k=Awh (gt w.fL k):=Azc hk _
 have x3: ∀c,0≤c∧c<(w.fL.length:Int)->c≠k->gt (K1 w k).fL c=gt w.fL c:=fun c hc hne=>A0g hk.1 hc (fun e=>hne e.symm) _
 have hep:(gt (K1 w k).fL k).Sl=(gt w.fL k).Sl+1:=by
  rw[x2];show An6 .i64 (gt w.fL k).Sl 1=_;exact ad1 (by omega) (by omega)
 have hgx:(gt (K1 w k).fL k).C9=(gt w.fL k).C9:=by rw[x2];rfl
 have hux: ∀c,0≤c∧c<(w.fL.length:Int)->(gt (K1 w k).fL c).fUp=(gt w.fL c).fUp∧(gt (K1 w k).fL c).Sm=(gt w.fL c).Sm:=by
  intro c hc
  by_cases e:c=k
  ·rw[e,x2];exact⟨rfl,rfl⟩
  ·rw[x3 c hc e];exact⟨rfl,rfl⟩
 have htx:(gt (K1 w k).fL k).F6=[]∧(gt (K1 w k).fL k).Fi=[]∧(gt (K1 w k).fL k).Ef=0:=by rw[x2];exact⟨rfl,rfl,rfl⟩
 have AE:AtT (K1 w k).fL (emp t k):=Bl5 AT hk hep0 (by omega)
 obtain⟨t2,A2,F2⟩:=I2.forest
 have al2:Al (K1 w k).fL.length t2 k:=by
  obtain⟨d,U⟩:=F.uw;rw[l2];refine Bh5 (fun x hx=> ?_) (Bvc (k:=k) U al (Z9 _));rw[A2 x (by rw[l2];exact hx),AE x (by rw[l2];exact hx)]
 have hax:=(A2c I2 A2 F2).2 al2
 have hfx:Aio (K1 w k).fL oh=(k,0):=by
  have:=Baz I2 hax;rw[hgx,ho]at this;exact this
 have TT:=F.tree
 have kin: ∀c∈Abj w.fL (gt w.fL k).Ef,Lv w.fL.length t c∧(t c).up=k+1∧(t c).ue=(t k).ep:=by
  have hr:=(I.rg.rg k hk).2.1
  have hl8:=I.rg.len;rw[A3f AT I.rg (by omega) (by omega)]
  have:=Bvd TT al.lv;rw[AT k hk]at this ⊢;exact this
 have gone: ∀hd∈kl,Asc 562949953421312 (K1 w k) hd=some true∧Asb 562949953421312 w hd oh=some true:=by
  intro hd hhd;obtain⟨c,hc,rfl⟩:=h8 hd hhd;obtain⟨lc,uc,ec⟩:=kin c hc
  have ec2:(gt w.fL c).Sm=(gt w.fL k).Sl:=by
   rw[AT c lc.1,AT k hk]at ec;exact ec
  have uc2:(gt w.fL c).fUp=k+1:=by rw[AT c lc.1]at uc;exact uc
  constructor
  ·rw[A53 hK X]
   have:(Aio (K1 w k).fL (An.mk c (gt w.fL c).C9)).2≠0:=by
    intro h0
    have hp:=Bc4 h0
    have ha2:=A6s h0;rw[hp]at ha2
    have ac:=(A2c I2 A2 F2).1 ha2
    have ecx:=A2 c (by rw[l2];exact lc.1)
    have up2:(t2 c).up=k+1:=by rw[ecx];exact(hux c lc.1).1.trans uc2
    cases ac with
    |root a b=>rw[up2]at b;have:=hk.1;omega
    |step a b c'=>
     have:=b.2;rw[up2,Int.add_sub_cancel,A2 k (by rw[l2];exact hk),ecx]at this
     have h1:(gt (K1 w k).fL k).Sl=(gt (K1 w k).fL c).Sm:=this;rw[hep,(hux c lc.1).2,ec2]at h1;omega
   rw[bne_iff_ne.2 this]
  ·have acw:Al w.fL.length t c:= .step lc ⟨by rw[uc,Int.add_sub_cancel];exact al.lv,by rw[uc,Int.add_sub_cancel];exact ec.symm⟩ (by rw[uc,Int.add_sub_cancel];exact al)
   unfold Asb;rw[Aos hK W.l,Z0,Aos hK W.l,Z0,Baz I ((A2c I AT F).2 acw),hfw];simp only[beq_self_eq_true,cond_true]
   have hl:=A25 (l:=w.fL) w.fL.length c;rw[A0v hK W.l,Z0,Azf hK _ _ (by omega),Z0]
   obtain⟨m,em⟩: ∃m,w.fL.length=m+2:=⟨w.fL.length - 2,by omega⟩
   rw[em,Agy,if_pos lc.1,uc2,show An7 .i64 (k+1) 1=k from by rw[sb1 (by omega) (by omega)];omega,Agy,if_pos hk]
   simp
 have hkl:kl.length≤8:=by
  have:=A0j (l:=w.fL) w.fL.length (An7 .i64 (gt w.fL k).Ef 1);unfold Abj at h7;omega
 have loop2: ∀(f i:Nat),i≤kl.length->kl.length - i<f->Ar6 562949953421312 oh kl ra (K1 w k).fC.Ay (K1 w k).fC.G8 (K1 w k).fC.E6 (K1 w k).fC.Gu (K1 w k).fC.E7 (K1 w k).fC.G9 (K1 w k).fP.N7 (K1 w k).fP.Vi (K1 w k).fP.N8 (K1 w k).fL (K1 w k).fQ (K1 w k).Acy w.fC.Ay w.fC.G8 w.fC.E6 w.fC.Gu w.fC.E7 w.fC.G9 w.fP.N7 w.fP.Vi w.fP.N8 w.fL w.fQ w.Acy f (i:Int)=some true:=by
  intro f
  induction f with
  |zero=>intro i _ h;omega
  |succ f ih=>
   intro i hi hf;rw[Ar6]
   have ex:C5.mk (Ea.mk (K1 w k).fC.Ay (K1 w k).fC.G8 (K1 w k).fC.E6 (K1 w k).fC.Gu (K1 w k).fC.E7 (K1 w k).fC.G9) (Dn.mk (K1 w k).fP.N7 (K1 w k).fP.Vi (K1 w k).fP.N8) (K1 w k).fL (K1 w k).fQ (K1 w k).Acy=K1 w k:=rfl
   have ew:C5.mk (Ea.mk w.fC.Ay w.fC.G8 w.fC.E6 w.fC.Gu w.fC.E7 w.fC.G9) (Dn.mk w.fP.N7 w.fP.Vi w.fP.N8) w.fL w.fQ w.Acy=w:=rfl;rw[ex,ew];rcases Hn i kl.length with q|q
   ·obtain⟨g1,g2⟩:=gone _ (Ane q);rw[Ad8 q,cond_true,if_pos (Akq q),g1,Z0,cond_true,if_pos (Akq q),g2,Z0,Bool.not_true,cond_false,Ad5 (by omega)]
    exact ih (i+1) q (by omega)
   ·obtain⟨l5,e8,h10,_⟩:=A5k hK X hfx (by rw[htx.1];decide)
    obtain⟨l6,e9,h11,_⟩:=A8e hK X (by omega) hfx
    have h12:l6.length=0:=by
     rw[h11,htx.2.2];unfold Abj;cases (K1 w k).fL.length with
     |zero=>rfl
     |succ m=>rw[Aye,if_neg (by rintro⟨h1,_⟩;revert h1;decide)];rfl
    rw[Arh q,cond_false,show(ra.W4==0)=true from beq_iff_eq.2 h9,cond_true,A53 hK X,hfx,Z0,e8,e9,Bew hK X oh,hfx]
    simp only[bne_self_eq_false,cond_false,Z0,if_true,htx.1,htx.2.1,h10,h12,List.length_nil];rfl
 have loop1: ∀(f i:Nat),i≤tl.length->tl.length - i<f->Ar7 562949953421312 oh tl kl f (i:Int) ra (K1 w k).fC.Ay (K1 w k).fC.G8 (K1 w k).fC.E6 (K1 w k).fC.Gu (K1 w k).fC.E7 (K1 w k).fC.G9 (K1 w k).fP.N7 (K1 w k).fP.Vi (K1 w k).fP.N8 (K1 w k).fL (K1 w k).fQ (K1 w k).Acy w.fC.Ay w.fC.G8 w.fC.E6 w.fC.Gu w.fC.E7 w.fC.G9 w.fP.N7 w.fP.Vi w.fP.N8 w.fL w.fQ w.Acy=some true:=by
  intro f
  induction f with
  |zero=>intro i _ h;omega
  |succ f ih=>
   intro i hi hf;rw[Ar7];rcases Hn i tl.length with q|q
   ·obtain⟨y1,y2,y3⟩:=h6 _ (Ane q)
    have hfr:Aio (K1 w k).fL (gt tl (i:Int)).fH=(k,0):=by rw[y1];exact hfx
    have F1:=Bex hK X (r:=gt tl (i:Int)) hfr (by rw[y1];exact hoh) (by rw[y2];exact hep0) y3 (by rw[hep,y2];omega)
    have wt0:ThingW (Bc.mk 0 0 0):=⟨Aw9,Aw9,Aw9⟩
    have ex:C5.mk (Ea.mk (K1 w k).fC.Ay (K1 w k).fC.G8 (K1 w k).fC.E6 (K1 w k).fC.Gu (K1 w k).fC.E7 (K1 w k).fC.G9) (Dn.mk (K1 w k).fP.N7 (K1 w k).fP.Vi (K1 w k).fP.N8) (K1 w k).fL (K1 w k).fQ (K1 w k).Acy=K1 w k:=rfl
    have er:Br.mk (gt tl (i:Int)).fH (gt tl (i:Int)).Sl (gt tl (i:Int)).fNo=gt tl (i:Int):=rfl;rw[ex,er,Ad8 q,cond_true,if_pos (Akq q),Bps hK X I2.ok F1 wt0 (by decide),Z0,if_pos (Akq q),Bnb hK X I2.ok F1 wt0 (by decide),Z0,Ad5 (by omega)]
    exact ih (i+1) q (by omega)
   ·rw[Arh q,cond_false];exact loop2 562949953421312 0 (Z21 _) (by omega)
 exact loop1 562949953421312 0 (Z21 _) (by omega)
end Go.Proofs.YtcdojenmonmcfaaGreat
