/- The plain law for FnLeaves; no condition. -/
import Derived.Test.YtcdojenmonmcfaaGreatFFnLeavesPa
set_option linter.all false
namespace Go.Proofs.YtcdojenmonmcfaaGreat
open Go.Eng Go.ChangeShapes Go.WideShapes Go.ChangeAt Go.RowKit
def lnk (n:As)(fi nx pv:Int):As:=As.mk n.Vg n.C8 n.Sj n.fUp n.Sk fi nx pv n.Ay n.Acv n.Sn n.F4 n.Fh
theorem Aps{l:List As}{j x:Int}(hj:0≤j∧j<(l.length:Int))(hx:0≤x∧x<(l.length:Int))(v:As):gt (l.set j.toNat v) x=if x=j then v else gt l x:=by
 by_cases e:x=j
 ·subst e;rw[if_pos rfl,Avz hj]
 ·rw[if_neg e,Ayg hj.1 hx (Ne.symm e)]
theorem Bbt{l:List As}{n:Int}(h0:0≤n)(h1:n≤l.length)(h2:l.length≤8):plB l n= !(n==0):=by
 have:=A4q (l:=l) h0 (by omega:n≤1000)
 by_cases e:n=0
 ·rw[e];rw[e]at this;cases h:plB l 0 with
  |false=>rfl
  |true=>have:=this.1 h;omega
 ·rw[this.2 ⟨by omega,by omega⟩,Ag6 e];rfl
theorem A6e{l:List As}(R:Rg l){k x:Int}(hk:0≤k∧k<(l.length:Int))(hx:0≤x∧x<(l.length:Int)):
  gt (A2z l k) x=lnk (gt l x) (if(gt l k).Sm=0∧x+1=(gt l k).fUp∧(gt l x).Ee=k+1 then(gt l k).Sl else(gt l x).Ee) (if x+1=(gt l k).Sm then(gt l k).Sl else(gt l x).Sl) (gt l x).Sm:=by
 obtain⟨r1,r2,r3,r4⟩:=R.rg k hk
 have hl:=R.len;unfold A2z;rw[Bbt r4.1 r4.2 hl,Bbt r1.1 r1.2 hl,sb1 (x:=(gt l k).Sm) (by omega) (by omega),sb1 (x:=(gt l k).fUp) (by omega) (by omega),ad1 (by omega) (by omega)]
 by_cases h:(gt l k).Sm=0
 ·rw[h];simp only[beq_self_eq_true,Bool.not_true,cond_false,Z30];rw[if_neg (by omega: ¬x+1=0)]
  by_cases h2:(gt l k).fUp=0
  ·rw[h2,if_neg (by omega)];rfl
  ·rw[Ag6 h2];simp only[Bool.not_false,Z30]
   by_cases h3:(gt l ((gt l k).fUp - 1)).Ee=k+1
   ·rw[h3,beq_self_eq_true,cond_true,Aps (by omega) hx]
    by_cases e:x=(gt l k).fUp - 1
    ·rw[if_pos e,e,h3,if_pos ⟨trivial,by omega,rfl⟩];rfl
    ·rw[if_neg e,if_neg (by omega)];rfl
   ·rw[Ag6 h3,cond_false,if_neg]
    ·rfl
    ·rintro⟨_,a,b⟩;rw[←a,Int.add_sub_cancel]at h3;exact h3 b
 ·rw[Ag6 h];simp only[Bool.not_false,cond_true];rw[Aps (by omega) hx,if_neg (fun q:(gt l k).Sm=0∧x+1=(gt l k).fUp∧(gt l x).Ee=k+1=>h q.1)]
  by_cases e:x=(gt l k).Sm - 1
  ·have e2:x+1=(gt l k).Sm:=by omega
   rw[if_pos e,if_pos e2,←e];rfl
  ·have e2: ¬x+1=(gt l k).Sm:=by omega
   rw[if_neg e,if_neg e2];rfl
theorem A23{l:List As}(R:Rg l){k x:Int}(hk:0≤k∧k<(l.length:Int))(hx:0≤x∧x<(l.length:Int))(hne:x≠k):
  gt (Ana l k) x=lnk (gt l x) (if(gt l k).Sm=0∧x+1=(gt l k).fUp∧(gt l x).Ee=k+1 then(gt l k).Sl else(gt l x).Ee) (if x+1=(gt l k).Sm then(gt l k).Sl else(gt l x).Sl) (if x+1=(gt l k).Sl then(gt l k).Sm else(gt l x).Sm):=by
 obtain⟨r1,r2,r3,r4⟩:=R.rg k hk
 have hl:=R.len
 have hl0:=A1r l k;unfold Ana A17;rw[Aps (by rw[A2y,hl0];exact hk) (by rw[A2y,hl0];exact hx),if_neg hne]
 unfold A4m;rw[Bbt r3.1 r3.2 hl,sb1 (by omega) (by omega)]
 by_cases h:(gt l k).Sl=0
 ·rw[h];simp only[beq_self_eq_true,Bool.not_true,cond_false];rw[A6e R hk hx,h,if_neg (by omega: ¬x+1=0)]
 ·rw[Ag6 h];simp only[Bool.not_false,cond_true];rw[Aps (by rw[hl0];omega) (by rw[hl0];exact hx)]
  by_cases e:x=(gt l k).Sl - 1
  ·have e2:x+1=(gt l k).Sl:=by omega
   rw[if_pos e,if_pos e2,←e,A6e R hk hx];rfl
  ·have e2: ¬x+1=(gt l k).Sl:=by omega
   rw[if_neg e,if_neg e2,A6e R hk hx]
theorem A0c (l:List As)(k:Int):(Ana l k).length=l.length:=by unfold Ana A17;rw[Z49,A2y,A1r]
theorem A7b{c:D9}{n:As}(X:Auc c n){fi nx pv:Int}(h1:0≤fi∧fi≤c.E5)(h2:0≤nx∧nx≤c.E5)(h3:0≤pv∧pv≤c.E5):Auc c (lnk n fi nx pv):=
 ⟨X.conf,X.st,X.gen,X.up,h1,h2,h3,X.ep,X.ue,X.dist,X.cur,X.nth,X.ntag,X.tags,X.things⟩
theorem Btv{l:List As}{t:Int->Lk}(A:AtT l t)(R:Rg l){k:Int}(hk:0≤k∧k<(l.length:Int))(g:Int):AtT ((Ana l k).set k.toNat (Aqc 2 g)) (rem t k):=by
 intro x hx;rw[Z49,A0c]at hx;rw[Aps (by rw[A0c];exact hk) (by rw[A0c];exact hx)]
 by_cases e:x=k
 ·subst e;rw[A4n,if_pos rfl];rfl
 ·rw[Ald e,if_neg e,A23 R hk hx e,A x hx,A k hk];rfl
theorem A1u{l:List Int}{j x:Int}(hj:0≤j)(hx:0≤x∧x<(l.length:Int))(v:Int):gt (l.set j.toNat v) x=if x=j then v else gt l x:=by
 have h1:x.toNat<(l.set j.toNat v).length:=by simp;omega
 have h2:x.toNat<l.length:=by omega
 have e1:gt (l.set j.toNat v) ((x.toNat:Nat):Int)=if x=j then v else gt l ((x.toNat:Nat):Int):=by
  rw[K1 h1,K1 h2,List.getElem_set]
  by_cases e:x=j
  ·rw[if_pos e,if_pos (by omega)]
  ·rw[if_neg e,if_neg (by omega)]
 rwa[show((x.toNat:Nat):Int)=x by omega]at e1
structure A5w (c:D9)(p:Dm):Prop where
 conf:Ahl c=true
 mem:(p.N5.length:Int)=c.Ay*c.G6
 st:(p.Vg.length:Int)=c.Ay
 own:(p.N6.length:Int)=c.Ay
 one: ∀k,0≤k∧k<c.Ay->(0≤gt p.Vg k∧gt p.Vg k≤2)∧(gt p.Vg k=1->0≤gt p.N6 k∧gt p.N6 k<c.E5)∧(gt p.Vg k≠1->gt p.N6 k= -1)∧(gt p.Vg k=0->Apo (Atr c p.N5 k)=true)
theorem Bew{c:D9}{p:Dm}{k:Nat}:Aze c p k=true ↔ (0≤gt p.Vg (k:Int)∧gt p.Vg (k:Int)≤2)∧(gt p.Vg (k:Int)=1->0≤gt p.N6 (k:Int)∧gt p.N6 (k:Int)<c.E5)∧(gt p.Vg (k:Int)≠1->gt p.N6 (k:Int)= -1)∧(gt p.Vg (k:Int)=0->Apo (Atr c p.N5 k)=true):=by
 unfold Aze;rw[Z4,Z4,Acx];refine and_congr Iff.rfl ?_
 by_cases e:gt p.Vg (k:Int)=1
 ·rw[e];simp only[beq_self_eq_true,cond_true,Acx];constructor
  ·rintro⟨a,b⟩;exact⟨fun _=>by omega,fun h=>absurd rfl h,fun h=>(by cases h)⟩
  ·rintro⟨a,b,c⟩;exact⟨by have:=a trivial;omega,rfl⟩
 ·rw[Ag6 e];simp only[cond_false,beq_iff_eq]
  by_cases f:gt p.Vg (k:Int)=0
  ·rw[f];simp only[beq_self_eq_true,cond_true];constructor
   ·rintro⟨a,b⟩;exact⟨fun h=>(by cases h),fun _=>a,fun _=>b⟩
   ·rintro⟨a,b,c⟩;exact⟨b (by decide),c trivial⟩
  ·rw[Ag6 f];simp only[cond_false];constructor
   ·rintro⟨a,b⟩;exact⟨fun h=>absurd h e,fun _=>a,fun h=>absurd h f⟩
   ·rintro⟨a,b,c⟩;exact⟨b e,trivial⟩
theorem Akq{c:D9}{p:Dm}:Auu c p=true ↔ A5w c p:=by
 constructor
 ·intro h;obtain⟨h1,h2,h3,h4,h5⟩:=Ate h;refine⟨h1,h2,h3,h4,fun k hk=> ?_⟩
  have:=Bew.1 (h5 k.toNat (by omega))
  rwa[show((k.toNat:Nat):Int)=k by omega]at this
 ·intro h;obtain⟨b1,_⟩:=A1 h.conf;unfold Auu;simp only[Z4,beq_iff_eq,Z1,List.mem_range];refine⟨h.conf,by rw[h.mem];unfold Ak9;rw[h.conf];rfl,h.st,h.own,fun k hk=> ?_⟩
  exact Bew.2 (h.one k (by omega))
theorem Bgp (cs:List Int): ∀(p:Dm),p.N6.length=p.Vg.length->(Aij p cs).N5=p.N5∧(Aij p cs).Vg.length=p.Vg.length∧(Aij p cs).N6.length=p.N6.length∧ ∀c,0≤c∧c<(p.Vg.length:Int)→
  gt (Aij p cs).Vg c=(if c∈cs∧gt p.Vg c=1 then 2 else gt p.Vg c)∧gt (Aij p cs).N6 c=(if c∈cs∧gt p.Vg c=1 then -1 else gt p.N6 c):=by
 induction cs with
 |nil=>intro p _;refine⟨rfl,rfl,rfl,fun c _=> ?_⟩;simp[Aij]
 |cons k cs ih=>
  intro p hl
  have h1:(A03 p k).N5=p.N5∧(A03 p k).Vg.length=p.Vg.length∧(A03 p k).N6.length=p.N6.length:=by
   unfold A03;split<;>simp
  obtain⟨a,b,c,d⟩:=ih (A03 p k) (by omega)
  refine⟨a.trans h1.1,b.trans h1.2.1,c.trans h1.2.2,fun x hx=> ?_⟩;obtain⟨d1,d2⟩:=d x (by rw[h1.2.1];exact hx)
  have e1:gt (A03 p k).Vg x=if x=k∧gt p.Vg x=1 then 2 else gt p.Vg x:=by
   unfold A03
   by_cases q:(0≤k∧k<(p.Vg.length:Int)∧k<(p.N6.length:Int))∧gt p.Vg k=1
   ·rw[if_pos q];simp only;rw[A1u q.1.1 hx]
    by_cases e:x=k
    ·rw[if_pos e,if_pos ⟨e,e ▸ q.2⟩]
    ·rw[if_neg e,if_neg (fun f=>e f.1)]
   ·rw[if_neg q,if_neg];rintro⟨rfl,f⟩;exact q ⟨⟨hx.1,hx.2,by omega⟩,f⟩
  have e2:gt (A03 p k).N6 x=if x=k∧gt p.Vg x=1 then -1 else gt p.N6 x:=by
   unfold A03
   by_cases q:(0≤k∧k<(p.Vg.length:Int)∧k<(p.N6.length:Int))∧gt p.Vg k=1
   ·rw[if_pos q];simp only;rw[A1u q.1.1 (by omega)]
    by_cases e:x=k
    ·rw[if_pos e,if_pos ⟨e,e ▸ q.2⟩]
    ·rw[if_neg e,if_neg (fun f=>e f.1)]
   ·rw[if_neg q,if_neg];rintro⟨rfl,f⟩;exact q ⟨⟨hx.1,hx.2,by omega⟩,f⟩
  show gt (Aij (A03 p k) cs).Vg x=_∧gt (Aij (A03 p k) cs).N6 x=_;rw[d1,d2,e1,e2]
  by_cases q:gt p.Vg x=1
  ·by_cases e:x=k
   ·subst e;simp[q]
   ·simp[q,e]
  ·simp[q]
theorem A0d{w:C4}(I:Inv w){k:Int}(hk:0≤k∧k<(w.fL.length:Int)):
  A5w w.fC (Aij w.fP (gt w.fL k).Ay)∧(Aij w.fP (gt w.fL k).Ay).N5=w.fP.N5∧
  ∀c,0≤c∧c<w.fC.Ay->gt (Aij w.fP (gt w.fL k).Ay).Vg c=(if c∈(gt w.fL k).Ay then 2 else gt w.fP.Vg c)∧gt (Aij w.fP (gt w.fL k).Ay).N6 c=(if c∈(gt w.fL k).Ay then -1 else gt w.fP.N6 c):=by
 have P:=Akq.1 I.pool;obtain⟨a,b,c,d⟩:=Bgp (gt w.fL k).Ay w.fP (by have:=P.st;have:=P.own;omega)
 have key: ∀c,0≤c∧c<w.fC.Ay->gt (Aij w.fP (gt w.fL k).Ay).Vg c=(if c∈(gt w.fL k).Ay then 2 else gt w.fP.Vg c)∧gt (Aij w.fP (gt w.fL k).Ay).N6 c=(if c∈(gt w.fL k).Ay then -1 else gt w.fP.N6 c):=by
  intro x hx;obtain⟨d1,d2⟩:=d x (by rw[P.st];exact hx)
  rw[d1,d2]
  by_cases e:x∈(gt w.fL k).Ay
  ·have:=((I.own k hk x).1 e).2.1
   have q:x∈(gt w.fL k).Ay∧gt w.fP.Vg x=1:=⟨e,this⟩;simp only[if_pos q,if_pos e,and_self]
  ·have q: ¬(x∈(gt w.fL k).Ay∧gt w.fP.Vg x=1):=fun q=>e q.1;simp only[if_neg q,if_neg e,and_self]
 refine⟨⟨P.conf,by rw[a];exact P.mem,by rw[b];exact P.st,by rw[c];exact P.own,fun x hx=> ?_⟩,a,key⟩
 obtain⟨k1,k2⟩:=key x hx;obtain⟨p1,p2,p3,p4⟩:=P.one x hx;rw[k1,k2,a]
 by_cases e:x∈(gt w.fL k).Ay
 ·rw[if_pos e,if_pos e];exact⟨by omega,fun h=>by omega,fun _=>rfl,fun h=>by omega⟩
 ·rw[if_neg e,if_neg e];exact⟨p1,p2,p3,p4⟩
theorem A6f (q:List Az)(x:Az):chL (q++[x])=chL q++x.Ay:=by unfold chL;rw[List.flatMap_append];simp
theorem A6g (q:List Az)(x:Az):slL (q++[x])=slL q++(if x.Bk=0 then []else [An4 .i64 x.Bk 1]):=by unfold slL;rw[List.flatMap_append];simp
theorem Bbu (q:List Az)(x:Az):Awf (q++[x])=Awf q++[(x.Bk,x.Ee)]:=by simp[Awf]
theorem A24{c:D9}{n:As}(h:Auc c n){s:Int}(hs:0≤s∧s≤c.E5):Ala c (Agm n s)=true:=by
 obtain⟨_,b,_⟩:=A1 h.conf;unfold Ala Agm;simp only[Z4,Acx,decide_eq_true_eq,Bool.or_eq_true,beq_iff_eq];exact⟨h.conf,hs,h.first,by have:=h.ntag;omega,h.tags,h.dist,by omega,.inr trivial⟩
theorem A7c (w:C4)(n:As)(s:Int):Aop w (Agm n s)=true:=by
 unfold Aop Agm Apo;simp
theorem A93{w:C4}(I:Inv w){k:Int}(hk:0≤k∧k<(w.fL.length:Int)):(chL w.fQ++(gt w.fL k).Ay).Nodup:=
 Aim.2 ⟨I.chn,Ayu (A5v (I.node k hk)),fun x h1 h2=>by have:=((I.chi x).1 h1).2;have:=((I.own k hk x).1 h2).2.1;omega⟩
theorem A94{w:C4}(I:Inv w){k:Int}(hk:0≤k∧k<(w.fL.length:Int))(c:Int):c∈chL w.fQ++(gt w.fL k).Ay ↔ (0≤c∧c<w.fC.Ay)∧gt (Aij w.fP (gt w.fL k).Ay).Vg c=2:=by
 rw[Mh,I.chi];constructor
 ·rintro(⟨a,b⟩|h)
  ·refine⟨a,?_⟩;rw[((A0d I hk).2.2 c a).1];split
   ·rfl
   ·exact b
  ·have a:=((I.own k hk c).1 h).1;rw[((A0d I hk).2.2 c a).1,if_pos h];exact⟨a,rfl⟩
 ·rintro⟨a,b⟩;rw[((A0d I hk).2.2 c a).1]at b;split at b
  ·rename_i h;exact .inr h
  ·exact .inl ⟨a,b⟩
theorem Bgq{w:C4}(I:Inv w){t:Int->Lk}(A:AtT w.fL t)(F:Ai9 w.fL.length t (Awf w.fQ)){k:Int}(h:Al w.fL.length t k):Inv (Ar5 w k):=by
 have hl:=h.lv
 have hk:=hl.1
 have P:=I.live A hl
 have R:=I.rg;obtain⟨L1,L2,L3⟩:=A0d I hk;obtain⟨_,_,b3,_⟩:=A1 I.conf
 have hlen:=I.len
 have e1:An3 .i64 k 1=k+1:=ad1 (by omega) (by omega)
 have hN:(Ar5 w k).fL.length=w.fL.length:=by unfold Ar5;simp only;rw[Z49,A0c]
 have hg: ∀x,0≤x∧x<(w.fL.length:Int)->gt (Ar5 w k).fL x=if x=k then Aqc 2 (gt (Ana w.fL k) k).C8 else gt (Ana w.fL k) x:=fun x hx=>by
  unfold Ar5;simp only;rw[Aps (by rw[A0c];exact hk) (by rw[A0c];exact hx)];rfl
 have hgen:(gt (Ana w.fL k) k).C8=(gt w.fL k).C8:=by
  unfold Ana A17;rw[Avz (by rw[A2y,A1r];exact hk)]
  show(gt (A4m w.fL (A2z w.fL k) k _ _) k).C8=_;unfold A4m
  have h0:(gt (A2z w.fL k) k).C8=(gt w.fL k).C8:=by rw[A6e R hk hk];rfl
  obtain⟨_,_,r3,_⟩:=R.rg k hk
  have hl8:=R.len;rw[Bbt r3.1 r3.2 hl8,sb1 (by omega) (by omega)]
  by_cases e:(gt w.fL k).Sl=0
  ·rw[e];exact h0
  ·rw[Ag6 e];simp only[Bool.not_false,cond_true];rw[Aps (by rw[A1r];omega) (by rw[A1r];exact hk)]
   split
   ·rename_i e2;rw[←e2];exact h0
   ·exact h0
 refine⟨Akq.2 L1,by rw[hN];exact hlen,fun x hx=> ?_,fun x hx c=> ?_,fun x hx=> ?_,⟨rem t k,?_,?_⟩,fun x hx=> ?_,?_,fun c=> ?_,?_,fun s=> ?_,I.log⟩
 ·rw[hN]at hx;rw[hg x hx]
  by_cases e:x=k
  ·rw[if_pos e,hgen];exact A3m I.conf (by omega) (by omega) P.gen
  ·rw[if_neg e,A23 R hk hx e]
   by_cases hs:(gt w.fL x).Vg=1
   ·have X:=Aiq.1 ⟨I.node x hx,hs⟩;obtain⟨a1,a2,a3,a4⟩:=A34 (I.node k hk);refine(Aiq.2 (A7b X ?_ ?_ ?_)).1
    ·split
     ·exact a3
     ·exact X.first
    ·split
     ·exact a3
     ·exact X.next
    ·split
     ·exact a4
     ·exact X.prev
   ·have X:=Ayj (I.node x hx) hs
    have B:=(A64 F.tree hl).bare x hx.1 hx.2 (by rw[Ald e,A x hx];simpa[A22]using hs)
    rw[Ald e,A x hx,A k hk]at B;obtain⟨_,B2,B3,B4⟩:=B
    have q1:(if(gt w.fL k).Sm=0∧x+1=(gt w.fL k).fUp∧(gt w.fL x).Ee=k+1 then(gt w.fL k).Sl else(gt w.fL x).Ee)=0:=B2
    have q2:(if x+1=(gt w.fL k).Sm then(gt w.fL k).Sl else(gt w.fL x).Sl)=0:=B3
    have q3:(if x+1=(gt w.fL k).Sl then(gt w.fL k).Sm else(gt w.fL x).Sm)=0:=B4
    have this:lnk (gt w.fL x) 0 0 0=gt w.fL x:=by rw[X];rfl
    rw[q1,q2,q3];rw[this];exact I.node x hx
 ·rw[hN]at hx;rw[hg x hx]
  show c∈_ ↔ (0≤c∧c<w.fC.Ay)∧gt (Aij w.fP (gt w.fL k).Ay).Vg c=1∧gt (Aij w.fP (gt w.fL k).Ay).N6 c=x
  by_cases e:x=k
  ·rw[if_pos e];constructor
   ·intro q;cases q
   ·rintro⟨a,b,d⟩;rw[(L3 c a).1]at b;rw[(L3 c a).2]at d;split at b
    ·omega
    ·rename_i q;rw[if_neg q]at d;exact absurd ((I.own k hk c).2 ⟨a,b,by omega⟩) q
  ·rw[if_neg e,A23 R hk hx e]
   show c∈(gt w.fL x).Ay ↔ _;rw[I.own x hx c];constructor
   ·rintro⟨a,b,d⟩
    have q:c ∉ (gt w.fL k).Ay:=fun q=>e (by have:=((I.own k hk c).1 q).2.2;omega)
    rw[(L3 c a).1,(L3 c a).2,if_neg q,if_neg q];exact⟨a,b,d⟩
   ·rintro⟨a,b,d⟩;rw[(L3 c a).1]at b;rw[(L3 c a).2]at d;split at b
    ·omega
    ·rename_i q;rw[if_neg q]at d;exact⟨a,b,d⟩
 ·rw[hN]at hx;rw[hg x hx]
  by_cases e:x=k
  ·rw[if_pos e];exact⟨rfl,rfl,rfl⟩
  ·rw[if_neg e,A23 R hk hx e];obtain⟨t1,t2,t3⟩:=I.thing x hx;refine⟨t1,t2,?_⟩
   show Are w.fC (Aij w.fP (gt w.fL k).Ay).N5 _=true;rw[L2];exact t3
 ·exact Btv A R hk _
 ·show Ai9 ((Ar5 w k).fL.length:Int) _ (Awf (w.fQ++[_]));rw[hN,Bbu,e1]
  have:=A9w F h;rw[A k hk]at this;exact this
 ·have hx:x∈w.fQ++[Agm (gt w.fL k) (An3 .i64 k 1)]:=hx
  show Ala w.fC x=true∧_;rcases Mh.1 hx with hx|hx
  ·obtain⟨a,b⟩:=I.wrec x hx;refine⟨a,?_⟩;unfold Aop at b ⊢
   show(_||Apo (((Aij w.fP (gt w.fL k).Ay).N5.drop (gt x.Ay 0*w.fC.G6).toNat).take x.Wv.toNat))=true
   rw[L2];exact b
  ·rw[Px.1 hx,e1];exact⟨A24 P (by omega),A7c _ _ _⟩
 ·show(chL (w.fQ++[_])).Nodup;rw[A6f];exact A93 I hk
 ·show c∈chL (w.fQ++[_]) ↔ _;rw[A6f];exact A94 I hk c
 ·show(slL (w.fQ++[Agm (gt w.fL k) (An3 .i64 k 1)])).Nodup;rw[A6g,e1]
  show(slL w.fQ++(if k+1=0 then []else [An4 .i64 (k+1) 1])).Nodup
  rw[if_neg (by omega),sb1 (by omega) (by omega),Int.add_sub_cancel]
  exact Aim.2 ⟨I.sln,by simp,fun x h1 h2=>by rw[Px]at h2;subst h2;have:=((I.sli x).1 h1).2;have:=P.st;omega⟩
 ·show s∈slL (w.fQ++[Agm (gt w.fL k) (An3 .i64 k 1)]) ↔ _;rw[A6g,e1,hN]
  show s∈slL w.fQ++(if k+1=0 then []else [An4 .i64 (k+1) 1]) ↔ _
  rw[if_neg (by omega),sb1 (by omega) (by omega),Int.add_sub_cancel,Mh,Px,I.sli]
  constructor
  ·rintro(⟨a,b⟩|a)
   ·refine⟨a,?_⟩
    have e:s≠k:=fun e=>by rw[e,P.st]at b;cases b
    rw[hg s a,if_neg e,A23 R hk a e];exact b
   ·rw[a,hg k hk,if_pos rfl];exact⟨hk,rfl⟩
  ·rintro⟨a,b⟩
   by_cases e:s=k
   ·exact .inr e
   ·rw[hg s a,if_neg e,A23 R hk a e]at b;exact .inl ⟨a,b⟩
theorem Btw{l:List As}{t:Int->Lk}(A:AtT l t){k:Int}(hk:0≤k∧k<(l.length:Int))(h0:0≤(gt l k).Sj)(h1:(gt l k).Sj≤1000000000):AtT (l.set k.toNat (Ath (gt l k))) (emp t k):=by
 intro x hx;rw[Z49]at hx;rw[Aps hk hx]
 by_cases e:x=k
 ·subst e;rw[A8o,if_pos rfl,A x hx];unfold Ath A22;simp only;rw[ad1 (by omega) h1]
 ·rw[A5u e,if_neg e,A x hx]
theorem Bgr{w:C4}(I:Inv w){t:Int->Lk}(A:AtT w.fL t)(F:Ai9 w.fL.length t (Awf w.fQ)){k:Int}(h:Al w.fL.length t k)(hE:(gt w.fL k).Sj≤1000000000):Inv (Aum w k):=by
 have hl:=h.lv
 have hk:=hl.1
 have P:=I.live A hl;obtain⟨L1,L2,L3⟩:=A0d I hk
 have hN:(Aum w k).fL.length=w.fL.length:=by unfold Aum;simp only;rw[Z49]
 have hg: ∀x,0≤x∧x<(w.fL.length:Int)->gt (Aum w k).fL x=if x=k then Ath (gt w.fL k)else gt w.fL x:=fun x hx=>Aps hk hx _
 obtain⟨_,b2,b3,_⟩:=A1 I.conf;refine⟨Akq.2 L1,by rw[hN];exact I.len,fun x hx=> ?_,fun x hx c=> ?_,fun x hx=> ?_,⟨emp t k,?_,?_⟩,fun x hx=> ?_,?_,fun c=> ?_,?_,fun s=> ?_,I.log⟩
 ·rw[hN]at hx;rw[hg x hx]
  show Aqm w.fC _=true
  by_cases e:x=k
  ·rw[if_pos e];exact((Aiq (n:=Ath (gt w.fL k))).2 ⟨P.conf,P.st,P.gen,P.up,⟨Int.le_refl _,by show(0:Int)≤_;omega⟩,P.next,P.prev,by show 0≤An3 .i64 _ 1;rw[ad1 (by have:=P.ep;omega) hE];have:=P.ep;omega,P.ue,rfl,rfl,Z21 _,Z21 _,rfl,rfl⟩).1
  ·rw[if_neg e];exact I.node x hx
 ·rw[hN]at hx;rw[hg x hx]
  show c∈_ ↔ (0≤c∧c<w.fC.Ay)∧gt (Aij w.fP (gt w.fL k).Ay).Vg c=1∧gt (Aij w.fP (gt w.fL k).Ay).N6 c=x
  by_cases e:x=k
  ·rw[if_pos e];constructor
   ·intro q;cases q
   ·rintro⟨a,b,d⟩;rw[(L3 c a).1]at b;rw[(L3 c a).2]at d;split at b
    ·omega
    ·rename_i q;rw[if_neg q]at d;exact absurd ((I.own k hk c).2 ⟨a,b,by omega⟩) q
  ·rw[if_neg e,I.own x hx c];constructor
   ·rintro⟨a,b,d⟩
    have q:c ∉ (gt w.fL k).Ay:=fun q=>e (by have:=((I.own k hk c).1 q).2.2;omega)
    rw[(L3 c a).1,(L3 c a).2,if_neg q,if_neg q];exact⟨a,b,d⟩
   ·rintro⟨a,b,d⟩;rw[(L3 c a).1]at b;rw[(L3 c a).2]at d;split at b
    ·omega
    ·rename_i q;rw[if_neg q]at d;exact⟨a,b,d⟩
 ·rw[hN]at hx;rw[hg x hx]
  by_cases e:x=k
  ·rw[if_pos e];exact⟨rfl,rfl,rfl⟩
  ·rw[if_neg e];obtain⟨t1,t2,t3⟩:=I.thing x hx;refine⟨t1,t2,?_⟩
   show Are w.fC (Aij w.fP (gt w.fL k).Ay).N5 _=true;rw[L2];exact t3
 ·exact Btw A hk P.ep hE
 ·show Ai9 ((Aum w k).fL.length:Int) _ (Awf (w.fQ++[_]));rw[hN,Bbu]
  have:=A9x F h;rw[A k hk]at this;exact this
 ·have hx:x∈w.fQ++[Agm (gt w.fL k) 0]:=hx
  show Ala w.fC x=true∧_;rcases Mh.1 hx with hx|hx
  ·obtain⟨a,b⟩:=I.wrec x hx;refine⟨a,?_⟩;unfold Aop at b ⊢
   show(_||Apo (((Aij w.fP (gt w.fL k).Ay).N5.drop (gt x.Ay 0*w.fC.G6).toNat).take x.Wv.toNat))=true
   rw[L2];exact b
  ·rw[Px.1 hx];exact⟨A24 P (by omega),A7c _ _ _⟩
 ·show(chL (w.fQ++[_])).Nodup;rw[A6f];exact A93 I hk
 ·show c∈chL (w.fQ++[_]) ↔ _;rw[A6f];exact A94 I hk c
 ·show(slL (w.fQ++[Agm (gt w.fL k) 0])).Nodup;rw[A6g]
  show(slL w.fQ++(if(0:Int)=0 then []else [An4 .i64 0 1])).Nodup
  rw[if_pos rfl,List.append_nil];exact I.sln
 ·show s∈slL (w.fQ++[Agm (gt w.fL k) 0]) ↔ _;rw[A6g,hN]
  show s∈slL w.fQ++(if(0:Int)=0 then []else [An4 .i64 0 1]) ↔ _
  rw[if_pos rfl,List.append_nil,I.sli];refine and_congr_right fun a=> ?_;rw[hg s a]
  by_cases e:s=k
  ·rw[if_pos e,e,P.st]
   show _ ↔ (gt w.fL k).Vg=2;rw[P.st]
  ·rw[if_neg e]
def wtN (c:D9)(n:As):Nat:=if n.Vg=1 then 2+n.Fh.length+c.G6.toNat*n.Ay.length else 0
def wtQ (c:D9)(x:Az):Nat:=1+x.Fh.length+(c.G6.toNat*x.Ay.length - x.Wv.toNat)
def pot (w:C4):Nat:=(w.fL.map (wtN w.fC)).sum+(w.fQ.map (wtQ w.fC)).sum
def wt (w:C4):Nat:=pot w+w.Acw.length
structure EpP (E:Int)(n:As):Prop where
 ep:n.Sj≤E
 ue:n.Sk≤E
 cur:0≤n.Acv∧n.Acv≤1000
structure Dx (w:C4)(E:Int)(n:Nat):Prop where
 inv:Inv w
 mem: ∀x∈w.fP.N5,0≤x∧x≤255
 ep: ∀k,0≤k∧k<(w.fL.length:Int)->EpP E (gt w.fL k)
 wt:wt w≤n
theorem Btx{α:Type}(f:α->Nat)(l:List α)(h: ∀x∈l,1≤f x):l.length≤(l.map f).sum:=by
 induction l with
 |nil=>simp
 |cons x l ih=>
  have:=ih fun y hy=>h y (Z56 _ hy)
  have:=h x List.mem_cons_self;simp only[Z28,Z8,List.sum_cons];omega
theorem Bk7 (w:C4):w.fQ.length≤wt w:=by
 have:=Btx (wtQ w.fC) w.fQ fun x _=>by unfold wtQ;omega
 unfold wt pot;omega
theorem Bdi (w:C4):w.Acw.length≤wt w:=by unfold wt;omega
theorem K0{x:Int}(h0: -1000000000≤x)(h1:x≤1000000000):wfi x:=⟨by omega,by omega⟩
theorem A95{c:D9}{t:Bc}(h:App c t=true):ThingW t:=by
 have hs:=(A1n h).1
 have hin:=(A1n h).2;obtain⟨_,b2,_⟩:=A1 hin.1;obtain⟨s1,s2,s3,s4⟩:=hs;refine⟨K0 (by omega) (by omega),K0 (by omega) (by omega),?_⟩
 unfold App at h;rw[Z4]at h
 by_cases e:t.Ajl=0
 ·rw[e];exact K0 (by omega) (by omega)
 ·have h:=h.2;rw[Ag6 e]at h;simp only[cond_false,Z4,beq_iff_eq]at h;rw[h.2.1];unfold Atd
  have h3:(t.Ajk+c.G6 - 1) / c.G6≤t.Ajk+c.G6 - 1:=Int.ediv_le_self _ (by omega)
  have h4:0≤(t.Ajk+c.G6 - 1) / c.G6:=Int.ediv_nonneg (by omega) (by omega)
  cases (inB t.Ajk 0 1000000000&&inB c.G6 1 1000000000)with
  |false=>exact K0 (by simp only[cond_false];omega) (by simp only[cond_false];omega)
  |true=>exact K0 (by simp only[cond_true];omega) (by simp only[cond_true];omega)
theorem Avj{l:List Int}(h: ∀x∈l,-1000000000≤x∧x≤1000000000)(hl:l.length≤1000000000):A1o l:=⟨fun x hx=>K0 (h x hx).1 (h x hx).2,by omega⟩
theorem Bk8{c:D9}(h:Ahl c=true):ConfW c:=by
 obtain⟨b1,b2,b3,b4,b5,b6⟩:=A1 h;exact⟨K0 (by omega) (by omega),K0 (by omega) (by omega),K0 (by omega) (by omega),K0 (by omega) (by omega),K0 (by omega) (by omega),K0 (by omega) (by omega)⟩
theorem A7e{l:List Int}(h:l.all (fun x=>inB x 0 255)=true): ∀x∈l,0≤x∧x≤255:=fun x hx=>Acx.1 (Z1.1 h x hx)
theorem A19{c:D9}{n:As}{E:Int}(h:Aqm c n=true)(e:EpP E n)(hE:E≤1000000000):Ap5 n:=by
 obtain⟨b1,b2,b3,b4,b5,b6⟩:=A1 (A0y h).1
 by_cases s:n.Vg=1
 ·have X:=Aiq.1 ⟨h,s⟩
  have:=X.gen;have:=X.up;have:=X.first;have:=X.next;have:=X.prev;have:=X.ep;have:=X.ue;have:=X.nth;have:=X.ntag
  have:=e.ep;have:=e.ue;have:=e.cur;refine⟨K0 (by omega) (by omega),K0 (by omega) (by omega),K0 (by omega) (by omega),K0 (by omega) (by omega),K0 (by omega) (by omega),K0 (by omega) (by omega),K0 (by omega) (by omega),K0 (by omega) (by omega),?_,K0 (by omega) (by omega),?_,?_,?_⟩
  ·exact Avj (fun x hx=>by have:=Aw7 X.dist x hx;omega) (by have:=Ar3 X.conf X.dist;omega)
  ·have:=X.cur;unfold A4b at this
   by_cases q:n.Acv=0
   ·rw[q]at this;simp only[beq_self_eq_true,cond_true,beq_iff_eq]at this;rw[this];exact K0 (by decide) (by decide)
   ·rw[Ag6 q]at this;simp only[cond_false,Z4,Acx]at this;exact K0 (by omega) (by omega)
  ·exact⟨fun t ht=>A95 (Z1.1 X.things t ht),by omega⟩
  ·exact Avj (fun x hx=>by have:=A7e X.tags x hx;omega) (by omega)
 ·have g:=A0y h;rw[Ayj h s];exact⟨K0 (by show _≤n.Vg;omega) (by show n.Vg≤_;omega),K0 (by show _≤n.C8;omega) (by show n.C8≤_;omega),Atl,Atl,Atl,Atl,Atl,Atl,Ati,Atl,Atl,Azi,Ati⟩
theorem Bod{c:D9}{x:Az}(h:Ala c x=true):A0o x:=by
 obtain⟨b1,b2,b3,b4,b5,b6⟩:=A1 (Aqq h).1;obtain⟨h1,h2,h3,h4,h5⟩:=Aqq h;unfold Ala at h;simp only[Z4,Acx,decide_eq_true_eq]at h;obtain⟨_,_,_,t1,t2,_⟩:=h;refine⟨K0 (by omega) (by omega),K0 (by omega) (by omega),?_,?_,K0 (by omega) (by omega)⟩
 ·exact Avj (fun y hy=>by have:=A7e t2 y hy;omega) (by omega)
 ·exact Avj (fun y hy=>by have:=Aw7 h4 y hy;omega) (by have:=Ar3 h1 h4;omega)
theorem A7f{α:Type}[Inhabited α]{l:List α}{P:α->Prop}(h: ∀k,0≤k∧k<(l.length:Int)->P (gt l k)): ∀x∈l,P x:=by
 intro x hx;obtain⟨i,hi,e⟩:=List.mem_iff_getElem.1 hx
 have:=h (i:Int) ⟨by omega,by omega⟩
 rw[K1 hi,e]at this;exact this
theorem Dx.ww{w:C4}{E:Int}{n:Nat}(G:Dx w E n)(hE:E≤1000000000)(hn:n≤1000000000):Am6 w:=by
 have I:=G.inv
 have P:=Akq.1 I.pool;obtain⟨b1,b2,b3,b4,b5,b6⟩:=A1 I.conf
 have h1:=Bk7 w
 have h2:=Bdi w
 have h3:=G.wt
 have hm:=Aut (a:=w.fC.Ay) (b:=w.fC.G6) (m:=12) (n:=16) (by omega) b1.2 (by omega) b2.2
 refine⟨Bk8 I.conf,⟨⟨G.mem,by have:=P.mem;omega⟩,?_,?_⟩,⟨A7f fun k hk=>A19 (I.node k hk) (G.ep k hk) hE,by have:=I.len;omega⟩,⟨fun x hx=>Bod (I.wrec x hx).1,by omega⟩,?_⟩
 ·exact Avj (A7f fun k hk=>by have:=(P.one k (by rw[P.st]at hk;exact hk)).1;omega) (by have:=P.st;omega)
 ·refine Avj (A7f fun k hk=> ?_) (by have:=P.own;omega)
  obtain⟨o1,o2,o3,o4⟩:=P.one k (by rw[P.own]at hk;exact hk)
  by_cases e:gt w.fP.Vg k=1
  ·have:=o2 e;omega
  ·have:=o3 e;omega
 ·exact Avj (fun x hx=>by have:=A7e I.log x hx;omega) (by omega)
theorem A96{w:C4}(I:Inv w)(p:Dm)(q:List Az)(lg:List Int)(hp:A5w w.fC p)
  (ho: ∀c,0≤c∧c<w.fC.Ay->(gt p.Vg c=1 ↔ gt w.fP.Vg c=1)∧gt p.N6 c=gt w.fP.N6 c)
  (hl: ∀k,0≤k∧k<(w.fL.length:Int)->Are w.fC p.N5 (gt w.fL k)=true)
  (hq:Awf q=Awf w.fQ) (hs:slL q=slL w.fQ)
  (hr: ∀x∈q,Ala w.fC x=true∧Aop (C4.mk w.fC p w.fL q lg) x=true)
  (hn:(chL q).Nodup) (hc: ∀c,c∈chL q ↔ (0≤c∧c<w.fC.Ay)∧gt p.Vg c=2)
  (hg:lg.all (fun x=>inB x 0 255)=true):Inv (C4.mk w.fC p w.fL q lg):=by
 refine⟨Akq.2 hp,I.len,I.node,fun k hk c=> ?_,fun k hk=> ?_,?_,hr,hn,hc,?_,?_,hg⟩
 ·rw[I.own k hk c];refine and_congr_right fun a=> ?_;obtain⟨h1,h2⟩:=ho c a
  show _ ↔ gt p.Vg c=1∧gt p.N6 c=k;rw[h1,h2]
 ·obtain⟨t1,t2,_⟩:=I.thing k hk;exact⟨t1,t2,hl k hk⟩
 ·obtain⟨t,A,F⟩:=I.forest;refine⟨t,A,?_⟩
  show Ai9 _ t (Awf q);rw[hq];exact F
 ·show(slL q).Nodup;rw[hs];exact I.sln
 ·show ∀s,s∈slL q ↔ _;rw[hs];exact I.sli
theorem gt0{α:Type}[Inhabited α](x:α)(l:List α):gt (x::l) 0=x:=rfl
theorem A26{mem:List Int}{a n:Nat}:Apo ((mem.drop a).take n)=true ↔ ∀j:Nat,a≤j->j<a+n->j<mem.length->gt mem (j:Int)=0:=by
 unfold Apo;rw[Z1];constructor
 ·intro h j h1 h2 h3;rw[K1 h3]
  have:mem[j]∈(mem.drop a).take n:=by
   rw[List.mem_iff_getElem];refine⟨j - a,by simp;omega,?_⟩
   simp only[List.getElem_take,List.getElem_drop]
   congr 1;omega
  simpa using h _ this
 ·intro h x hx;obtain⟨i,hi,e⟩:=List.mem_iff_getElem.1 hx;simp only[List.length_take,List.length_drop]at hi;simp only[List.getElem_take,List.getElem_drop]at e
  have:=h (a+i) (by omega) (by omega) (by omega)
  rw[K1 (by omega),e]at this
  simpa using this
def Azs (mem:List Int)(a n:Nat):List Int:=(List.range mem.length).map fun(j:Nat)=>if a≤j∧j<a+n then(0:Int)else gt mem (j:Int)
theorem Atk (mem:List Int)(a n:Nat):(Azs mem a n).length=mem.length:=by simp[Azs]
theorem A3n{mem:List Int}{a n j:Nat}(h:j<mem.length):gt (Azs mem a n) (j:Int)=if a≤j∧j<a+n then 0 else gt mem (j:Int):=by
 rw[K1 (by rw[Atk];exact h)]
 simp[Azs]
theorem Bk9 (mem:List Int)(a:Nat):Azs mem a 0=mem:=by
 refine List.ext_getElem (Atk _ _ _) fun j h1 h2=> ?_
 have:=A3n (mem:=mem) (a:=a) (n:=0) h2;rw[if_neg (by omega),K1 h1,K1 h2]at this
 exact this
theorem Bla{mem:List Int}{a i:Nat}:(Azs mem a i).set (a+i) 0=Azs mem a (i+1):=by
 refine List.ext_getElem (by rw[Z49,Atk,Atk]) fun j h1 h2=> ?_
 rw[Z49,Atk]at h1
 have e1:=A3n (mem:=mem) (a:=a) (n:=i) h1
 have e2:=A3n (mem:=mem) (a:=a) (n:=i+1) h1;rw[K1 (by rw[Atk];exact h1)]at e1 e2
 rw[List.getElem_set,e1,e2]
 by_cases q:a+i=j
 ·rw[if_pos q,if_pos (by omega)]
 ·rw[if_neg q]
  by_cases r:a≤j∧j<a+i
  ·rw[if_pos r,if_pos (by omega)]
  ·rw[if_neg r,if_neg (by omega)]
theorem Bgt{mem:List Int}{a n b m:Nat}(h:Apo ((mem.drop b).take m)=true):Apo (((Azs mem a n).drop b).take m)=true:=by
 rw[A26]at h ⊢;intro j h1 h2 h3;rw[Atk]at h3;rw[A3n h3];split
 ·rfl
 ·exact h j h1 h2 h3
theorem Bbv{mem:List Int}{a d n m:Nat}(h:Apo ((mem.drop a).take d)=true)(hm:m≤d+n):Apo (((Azs mem (a+d) n).drop a).take m)=true:=by
 rw[A26]at h ⊢;intro j h1 h2 h3;rw[Atk]at h3;rw[A3n h3];split
 ·rfl
 ·exact h j h1 (by omega) h3
section
variable {K:Nat} (hK:281474976710656≤K)
include hK
theorem Bgu{mem:List Int}(hl:mem.length≤1000000){a n:Int}(ha:0≤a∧a≤1000000)(hn:0≤n)(hs:a+n≤mem.length):A04 K mem a n=some (Azs mem a.toNat n.toNat):=by
 have hm:=P2;obtain⟨A,rfl⟩: ∃A:Nat,a=A:=⟨a.toNat,by omega⟩
 obtain⟨N,rfl⟩: ∃N:Nat,n=N:=⟨n.toNat,by omega⟩
 simp only[Int.toNat_natCast]
 have key: ∀(f i:Nat),i≤N->N - i<f->Av7 K mem A N f (Azs mem A i) ((A+i:Nat):Int)=some (Azs mem A N):=by
  intro f
  induction f with
  |zero=>intro i _ h;omega
  |succ f ih=>
   intro i hi hf;rw[Av7]
   have e:An4 .i64 ((A+i:Nat):Int) A=i:=by unfold An4;rw[Gy (by omega) (by omega)];omega
   rw[e]
   by_cases q:i=N
   ·subst q;rw[Ae0 (Z9 _)];simp only[cond_false];cases decide (((A+i:Nat):Int)<(mem.length:Int))<;>rfl
   ·rw[Ad7 (by omega),Ad7 (by omega),cond_true,cond_true,Atk,if_pos ⟨by omega,by omega⟩,Ad5 (by omega),Int.toNat_natCast,Bla]
    exact ih (i+1) (by omega) (by omega)
 unfold A04;rw[Z38,if_pos ⟨by omega,by omega⟩,decide_eq_false (by omega),decide_eq_false (by omega)]
 simp only[cond_false]
 have:=key K 0 (by omega) (by omega)
 rw[Bk9]at this;exact this
end
theorem Azk{w:C4}(I:Inv w){x qs}(hq:w.fQ=x::qs):Ala w.fC x=true∧Aop w x=true:=I.wrec x (by rw[hq];exact List.mem_cons_self)
structure Boe (c:D9)(x:Az):Prop where
 conf:Ahl c=true
 slot:0≤x.Bk∧x.Bk≤c.E5
 first:0≤x.Ee∧x.Ee≤c.E5
 ntag:x.Fh.length≤6
 tags: ∀y∈x.Fh,0≤y∧y≤255
 dist:Atm c x.Ay=true
 done:0≤x.Wv∧x.Wv≤c.G6 - 1
 zero:x.Ay=[]->x.Wv=0
theorem Azf{c:D9}{x:Az}:Ala c x=true ↔ Boe c x:=by
 unfold Ala;simp only[Z4,Acx,decide_eq_true_eq,Bool.or_eq_true,beq_iff_eq,Z1];constructor
 ·rintro⟨a,b,c,d,e,f,g,h⟩;refine⟨a,b,c,by omega,e,f,g,fun q=> ?_⟩
  rw[q]at h;rcases h with h|h
  ·simp at h
  ·exact h
 ·intro h;refine⟨h.conf,h.slot,h.first,by have:=h.ntag;omega,h.tags,h.dist,h.done,?_⟩
  by_cases q:x.Ay=[]
  ·exact .inr (h.zero q)
  ·exact .inl (by have:=List.length_pos_iff.2 q;omega)
def Blb (x:Az):Az:=Az.mk x.Bk x.Ee (x.Fh.take (x.Fh.length - 1)) x.Ay x.Wv
def A4s (w:C4)(x:Az)(qs:List Az):C4:=C4.mk w.fC w.fP w.fL (Blb x::qs) (w.Acw++[gt x.Fh ((x.Fh.length - 1:Nat):Int)])
theorem Bty (K:Nat){w:C4}{x:Az}{qs:List Az}(hq:w.fQ=x::qs)(h0:0<x.Fh.length)(h6:x.Fh.length≤6)(hl:w.Acw.length≤1000000000):Ayz K w=some (A4s w x qs):=by
 have hm:=P2;unfold Ayz;rw[hq,gt0]
 have e:An4 .i64 (x.Fh.length:Int) 1=((x.Fh.length - 1:Nat):Int):=by rw[sb1 (by omega) (by omega)];omega
 rw[e,if_pos ⟨by omega,by simp⟩,if_pos ⟨by omega,by omega⟩,if_pos ⟨by simp;omega,by simp;omega⟩,if_pos ⟨by omega,by omega,by omega⟩,A42,Z38,if_pos ⟨by simp;omega,by simp;omega⟩]
 rfl
theorem Blc{l:List Int}{n:Nat}{P:Int->Prop}(h: ∀y∈l,P y): ∀y∈l.take n,P y:=fun y hy=>h y (Z42 hy)
theorem Bof{w:C4}(I:Inv w){x:Az}{qs:List Az}(hq:w.fQ=x::qs)(h0:0<x.Fh.length):Inv (A4s w x qs):=by
 have R:=Azf.1 (Azk I hq).1
 have e1:chL (Blb x::qs)=chL w.fQ:=by rw[hq];rfl
 refine A96 I w.fP _ _ (Akq.1 I.pool) (fun c _=>⟨Iff.rfl,rfl⟩) (fun k hk=>(I.thing k hk).2.2) (by rw[hq];rfl) (by rw[hq];rfl) (fun y hy=> ?_) (by rw[e1];exact I.chn) (fun c=>by rw[e1];exact I.chi c) ?_
 ·rcases Ef.1 hy with e|e
  ·subst e;refine⟨Azf.2 ⟨R.conf,R.slot,R.first,?_,Blc R.tags,R.dist,R.done,R.zero⟩,(Azk I hq).2⟩
   have:=R.ntag
   show(x.Fh.take _).length≤6;simp;omega
  ·exact I.wrec y (by rw[hq];exact Z56 _ e)
 ·rw[List.all_append,I.log]
  have:=R.tags _ (Aor (show x.Fh.length - 1<x.Fh.length by omega))
  simp[Acx,this]
def Apy (w:C4)(x:Az):Int:=if w.fC.G6<x.Wv+w.fC.E6 then w.fC.G6 else x.Wv+w.fC.E6
def A97 (w:C4)(x:Az):List Int:=Azs w.fP.N5 (gt x.Ay 0*w.fC.G6+x.Wv).toNat (Apy w x - x.Wv).toNat
def A5x (w:C4)(x:Az):Dm:=Dm.mk (A97 w x) (if Apy w x<w.fC.G6 then w.fP.Vg else w.fP.Vg.set (gt x.Ay 0).toNat 0) w.fP.N6
def A2g (w:C4)(x:Az):Az:=if Apy w x<w.fC.G6 then Az.mk x.Bk x.Ee x.Fh x.Ay (Apy w x)else Az.mk x.Bk x.Ee x.Fh (x.Ay.drop 1) 0
def A0z (w:C4)(x:Az)(qs:List Az):C4:=C4.mk w.fC (A5x w x) w.fL (A2g w x::qs) w.Acw
structure Bqf (w:C4)(x:Az):Prop where
 rc:Boe w.fC x
 k:0≤gt x.Ay 0∧gt x.Ay 0<w.fC.Ay
 st:gt w.fP.Vg (gt x.Ay 0)=2
 at0:0≤gt x.Ay 0*w.fC.G6
 at1:gt x.Ay 0*w.fC.G6+w.fC.G6≤(w.fP.N5.length:Int)
 len:w.fP.N5.length≤192
 to:x.Wv<Apy w x∧Apy w x≤w.fC.G6
 zero:Apo ((w.fP.N5.drop (gt x.Ay 0*w.fC.G6).toNat).take x.Wv.toNat)=true
theorem A5a{c:D9}{p:Dm}(P:A5w c p):p.N5.length≤192:=by
 obtain⟨b1,b2,_⟩:=A1 P.conf
 have hm:=Aut (a:=c.Ay) (b:=c.G6) (m:=12) (n:=16) (by omega) b1.2 (by omega) b2.2
 have:=P.mem;omega
theorem Bdj{w:C4}(I:Inv w){x:Az}{qs:List Az}(hq:w.fQ=x::qs)(hc:0<x.Ay.length):Bqf w x:=by
 have R:=Azf.1 (Azk I hq).1
 have P:=Akq.1 I.pool
 have hx:x∈w.fQ:=by rw[hq];exact List.mem_cons_self
 have hm:gt x.Ay 0∈x.Ay:=Aor (i:=0) hc
 have h1:=(I.chi _).1 (A92 hx hm);obtain⟨_,_,e3,e4⟩:=A1m I.conf P.mem h1.1.1 h1.1.2;obtain⟨b1,b2,b3,b4,b5,b6⟩:=A1 I.conf
 have hd:=R.done;refine⟨R,h1.1,h1.2,e3,e4,A5a P,?_,?_⟩
 ·unfold Apy;split<;>omega
 ·have:=(Azk I hq).2;unfold Aop at this;rw[decide_eq_true (by omega)]at this
  exact this
section
variable {K:Nat} (hK:281474976710656≤K)
include hK
theorem Bbw{w:C4}(hw:Ayo w.fP)(hp:Auu w.fC w.fP=true){x:Az}(X:Bqf w x):Awm K w.fC w.fP (gt x.Ay 0) x.Wv=some (A5x w x,!decide (Apy w x<w.fC.G6)):=by
 obtain⟨b1,b2,b3,b4,b5,b6⟩:=A1 X.rc.conf
 have P:=Akq.1 hp;obtain⟨e1,e2,e3,e4⟩:=A1m X.rc.conf P.mem X.k.1 X.k.2
 have hd:=X.rc.done
 have ht:=X.to
 have hl:=X.len
 have hk:=X.k
 have es:An3 .i64 x.Wv w.fC.E6=x.Wv+w.fC.E6:=by unfold An3;exact Gy (by omega) (by omega)
 have el:Azu K (x.Wv+w.fC.E6) w.fC.G6=some (Apy w x):=by
  unfold Azu Apy
  by_cases q:w.fC.G6<x.Wv+w.fC.E6
  ·rw[decide_eq_true q,if_pos q];rfl
  ·rw[decide_eq_false q,if_neg q];rfl
 have ea:An3 .i64 (gt x.Ay 0*w.fC.G6) x.Wv=gt x.Ay 0*w.fC.G6+x.Wv:=by unfold An3;exact Gy (by omega) (by omega)
 have en:An4 .i64 (Apy w x) x.Wv=Apy w x - x.Wv:=by unfold An4;exact Gy (by omega) (by omega)
 unfold Awm;rw[A1c K hw,A5j hK,hp,Ani,Ayr hK X.rc.conf,Acx.2 ⟨by omega,by omega⟩,Ani,A46 X.rc.conf,Acx.2 hd,es,el,e1,ea]
 simp only[Z0,cond_true,Bool.not_true,cond_false];rw[en,Bgu hK (by omega) ⟨by omega,by omega⟩ (by omega) (by omega)]
 simp only[Z0,e2];rw[if_pos ⟨hk.1,by rw[P.st];exact hk.2⟩,X.st]
 simp only[bne_self_eq_false,cond_false];unfold A5x
 by_cases q:Apy w x<w.fC.G6
 ·rw[decide_eq_true q,if_pos q];rfl
 ·rw[decide_eq_false q,if_neg q];simp only[cond_false,Bool.not_false];rw[if_pos ⟨by omega,by omega,by show _≤((Azs _ _ _).length:Int);rw[Atk];exact e4⟩]
  have hz:Apo (((Azs w.fP.N5 (gt x.Ay 0*w.fC.G6+x.Wv).toNat (Apy w x - x.Wv).toNat).drop (gt x.Ay 0*w.fC.G6).toNat).take (gt x.Ay 0*w.fC.G6+w.fC.G6 - gt x.Ay 0*w.fC.G6).toNat)=true:=by
   rw[show(gt x.Ay 0*w.fC.G6+x.Wv).toNat=(gt x.Ay 0*w.fC.G6).toNat+x.Wv.toNat by omega]
   exact Bbv X.zero (by omega)
  rw[A09 hK _ (by simp[Atk];omega),hz]
  simp only[Z0,Bool.not_true,cond_false];rw[if_pos ⟨hk.1,by rw[P.st];exact hk.2⟩]
  rfl
theorem Bog{w:C4}(I:Inv w)(hw:Ayo w.fP){x:Az}{qs:List Az}(hq:w.fQ=x::qs)(hc:0<x.Ay.length):Axq K w=some (A0z w x qs):=by
 have hm:=P2
 have X:=Bdj I hq hc
 have hlen:=Ar3 X.rc.conf X.rc.dist;obtain⟨b1,b2,b3,b4,b5,b6⟩:=A1 X.rc.conf
 have hd:=X.rc.done;unfold Axq;rw[hq,gt0,if_pos ⟨by omega,by simp⟩,if_pos ⟨by omega,by omega⟩,Bbw hK hw I.pool X,Z0]
 simp only;unfold A0z A2g
 by_cases q:Apy w x<w.fC.G6
 ·rw[decide_eq_true q,if_pos q]
  have es:An3 .i64 x.Wv w.fC.E6=Apy w x:=by
   have ht:=X.to;unfold Apy at q ⊢;split at q
   ·omega
   ·rename_i r;rw[if_neg r];unfold An3;exact Gy (by omega) (by omega)
  rw[es];rfl
 ·rw[decide_eq_false q,if_neg q]
  have et:(x.Ay.drop (1:Int).toNat).take ((x.Ay.length:Int) - 1).toNat=x.Ay.drop 1:=by
   rw[show(1:Int).toNat=1 from rfl]
   exact List.take_of_length_le (by simp)
  simp only[Bool.not_false,cond_true];rw[if_pos ⟨by omega,by omega,by omega⟩,et,Z38,if_pos ⟨by simp;omega,by simp;omega⟩]
  rfl
end
theorem A1v{c:D9}{l:List Int}:Atm c l=true ↔ l.Nodup∧ ∀x∈l,0≤x∧x<c.Ay:=by
 constructor
 ·intro h;exact⟨Ayu h,Aw7 h⟩
 ·rintro⟨h1,h2⟩;unfold Atm;rw[Z1];intro i hi;rw[List.mem_range]at hi;rw[Z4,Acx,K1 hi]
  have:=h2 _ (List.getElem_mem hi);refine⟨by omega,?_⟩
  have hn:=A3w.1 h1 i hi;simpa using hn
theorem Bgv{c:D9}{l:List Int}{n:Nat}(h:Atm c l=true):Atm c (l.drop n)=true:=by
 rw[A1v]at h ⊢;exact⟨h.1.sublist (List.drop_sublist _ _),fun x hx=>h.2 x (List.mem_of_mem_drop hx)⟩
theorem Bld{w:C4}{x:Az}(h: ∀y∈w.fP.N5,0≤y∧y≤255): ∀y∈A97 w x,0≤y∧y≤255:=by
 refine A7f fun k hk=> ?_;unfold A97 at hk ⊢;rw[Atk]at hk;obtain⟨j,rfl⟩: ∃j:Nat,k=j:=⟨k.toNat,by omega⟩
 rw[A3n (by omega)]
 split
 ·omega
 ·exact h _ (Aor (by omega))
theorem Ble{w:C4}(I:Inv w){x:Az}{qs:List Az}(hq:w.fQ=x::qs)(hc:0<x.Ay.length):Inv (A0z w x qs):=by
 have X:=Bdj I hq hc
 have P:=Akq.1 I.pool
 have hk:=X.k
 have hd:=X.rc.done
 have ht:=X.to
 have hxq:x∈w.fQ:=by rw[hq];exact List.mem_cons_self
 have hst: ∀c,0≤c∧c<w.fC.Ay->gt (A5x w x).Vg c=if c=gt x.Ay 0∧ ¬Apy w x<w.fC.G6 then 0 else gt w.fP.Vg c:=by
  intro c h
  show gt (if Apy w x<w.fC.G6 then w.fP.Vg else w.fP.Vg.set (gt x.Ay 0).toNat 0) c=_
  by_cases q:Apy w x<w.fC.G6
  ·rw[if_pos q,if_neg (fun r=>r.2 q)]
  ·rw[if_neg q,A1u hk.1 (by rw[P.st];exact h)]
   by_cases r:c=gt x.Ay 0
   ·rw[if_pos r,if_pos ⟨r,q⟩]
   ·rw[if_neg r,if_neg (fun s=>r s.1)]
 have hz: ∀b m,Apo ((w.fP.N5.drop b).take m)=true->Apo (((A5x w x).N5.drop b).take m)=true:=fun b m h=>Bgt h
 have hN:(gt x.Ay 0*w.fC.G6+x.Wv).toNat=(gt x.Ay 0*w.fC.G6).toNat+x.Wv.toNat:=by have:=X.at0;omega
 have hall: ∀m:Nat,m≤(Apy w x).toNat->Apo (((A5x w x).N5.drop (gt x.Ay 0*w.fC.G6).toNat).take m)=true:=by
  intro m h
  show Apo (((Azs _ _ _).drop _).take m)=true;rw[hN];exact Bbv X.zero (by omega)
 have hlen:(A5x w x).N5.length=w.fP.N5.length:=Atk _ _ _
 have hcons:x.Ay=gt x.Ay 0::x.Ay.drop 1:=by
  cases h:x.Ay with
  |nil=>rw[h]at hc;simp at hc
  |cons a l=>rfl
 have hnd:=Ayu X.rc.dist
 have hch:chL w.fQ=x.Ay++chL qs:=by rw[hq];rfl
 have hn:=I.chn;rw[hch]at hn
 have hchi:=I.chi;rw[hch]at hchi;unfold A0z;refine A96 I (A5x w x) _ _ ⟨P.conf,by rw[hlen];exact P.mem,?_,P.own,fun c h=> ?_⟩ (fun c h=>⟨?_,rfl⟩) (fun k h=> ?_) ?_ ?_ (fun y hy=> ?_) ?_ (fun c=> ?_) I.log
 ·show((if Apy w x<w.fC.G6 then w.fP.Vg else w.fP.Vg.set (gt x.Ay 0).toNat 0).length:Int)=_
  split
  ·exact P.st
  ·rw[Z49];exact P.st
 ·obtain⟨p1,p2,p3,p4⟩:=P.one c h;rw[hst c h]
  show _∧(_->0≤gt w.fP.N6 c∧_)∧(_->gt w.fP.N6 c= -1)∧_
  by_cases q:c=gt x.Ay 0∧ ¬Apy w x<w.fC.G6
  ·rw[if_pos q];refine⟨by omega,fun f=>by omega,fun _=>p3 (by rw[q.1,X.st];decide),fun _=> ?_⟩
   unfold Atr;rw[q.1];exact hall _ (by omega)
  ·rw[if_neg q];exact⟨p1,p2,p3,fun f=>hz _ _ (p4 f)⟩
 ·rw[hst c h];split
  ·rename_i q;rw[q.1,X.st];decide
  ·rfl
 ·have:=(I.thing k h).2.2;unfold Are at this ⊢;rw[Bool.or_eq_true,Z4]at this ⊢;rcases this with a|⟨a,b⟩
  ·exact .inl a
  ·exact .inr ⟨hz _ _ a,b⟩
 ·rw[hq];unfold A2g Awf;split<;>rfl
 ·rw[hq];unfold A2g slL;split<;>rfl
 ·rcases Ef.1 hy with e|e
  ·subst e;unfold A2g
   by_cases q:Apy w x<w.fC.G6
   ·rw[if_pos q];refine⟨Azf.2 ⟨X.rc.conf,X.rc.slot,X.rc.first,X.rc.ntag,X.rc.tags,X.rc.dist,⟨by show 0≤Apy w x;omega,by show Apy w x≤_;omega⟩,fun f=> ?_⟩,?_⟩
    ·have f:x.Ay=[]:=f;rw[f]at hc;simp at hc
    ·unfold Aop;rw[Bool.or_eq_true];exact .inr (hall _ (Z9 _))
   ·rw[if_neg q];refine⟨Azf.2 ⟨X.rc.conf,X.rc.slot,X.rc.first,X.rc.ntag,X.rc.tags,?_,⟨Int.le_refl _,by show(0:Int)≤_;omega⟩,fun _=>rfl⟩,?_⟩
    ·exact Bgv X.rc.dist
    ·unfold Aop;rw[Bool.or_eq_true];exact .inr rfl
  ·obtain⟨a,b⟩:=I.wrec y (by rw[hq];exact Z56 _ e)
   refine⟨a,?_⟩;unfold Aop at b ⊢;rw[Bool.or_eq_true]at b ⊢;rcases b with b|b
   ·exact .inl b
   ·exact .inr (hz _ _ b)
 ·show((A2g w x).Ay++chL qs).Nodup;unfold A2g;split
  ·exact hn
  ·rw[hcons]at hn;exact(List.nodup_cons.1 hn).2
 ·show c∈(A2g w x).Ay++chL qs ↔ _;rw[hcons,Z45]at hn
  have hni:=(List.nodup_cons.1 hn).1
  have hci:=hchi c;rw[hcons,Z45,Ef]at hci;unfold A2g
  by_cases q:Apy w x<w.fC.G6
  ·rw[if_pos q]
   show c∈x.Ay++chL qs ↔ _;rw[hchi c];refine and_congr_right fun a=> ?_;rw[hst c a,if_neg (fun r=>r.2 q)]
  ·rw[if_neg q]
   show c∈x.Ay.drop 1++chL qs ↔ _;constructor
   ·intro h;obtain⟨a,b⟩:=hci.1 (.inr h);refine⟨a,?_⟩;rw[hst c a,if_neg]
    ·exact b
    ·rintro⟨r,_⟩;rw[r]at h;exact hni h
   ·rintro⟨a,b⟩;rw[hst c a]at b;split at b
    ·omega
    ·rename_i r;rcases hci.2 ⟨a,b⟩with e|e
     ·exact absurd ⟨e,q⟩ r
     ·exact e
def Bgw (g n:As)(k x:Int):As:=lnk n (if g.Sm=0∧x+1=g.fUp∧n.Ee=k+1 then g.Sl else n.Ee) (if x+1=g.Sm then g.Sl else n.Sl) (if x+1=g.Sl then g.Sm else n.Sm)
theorem Bex{l l':List As}{t:Int->Lk}(A:AtT l t){k:Int}(hk:0≤k∧k<(l.length:Int))(hN:l'.length=l.length)(hg: ∀x,0≤x∧x<(l.length:Int)->x≠k->gt l' x=Bgw (gt l k) (gt l x) k x){gn:Int}(hb:gt l' k=Aqc 2 gn):AtT l' (rem t k):=by
 intro x hx;rw[hN]at hx
 by_cases e:x=k
 ·subst e;rw[A4n,hb];rfl
 ·rw[Ald e,hg x hx e,A x hx,A k hk];rfl
theorem Blf{w:C4}(I:Inv w){t:Int->Lk}(A:AtT w.fL t)(F:Ai9 w.fL.length t (Awf w.fQ)){k:Int}(hl:Lv w.fL.length t k)(l':List As)(q':List Az)(hN:l'.length=w.fL.length)
  (hg: ∀x,0≤x∧x<(w.fL.length:Int)->x≠k->gt l' x=Bgw (gt w.fL k) (gt w.fL x) k x) (hb:gt l' k=Aqc 2 (gt w.fL k).C8)
  (F':Ai9 w.fL.length (rem t k) (Awf q')) (hr: ∀x∈q',Ala w.fC x=true∧Aop w x=true)
  (hcn:(chL q').Nodup) (hci: ∀c,c∈chL q' ↔ c∈chL w.fQ++(gt w.fL k).Ay) (hsn:(slL q').Nodup) (hsi: ∀s,s∈slL q' ↔ s∈slL w.fQ∨s=k):
  Inv (C4.mk w.fC (Aij w.fP (gt w.fL k).Ay) l' q' w.Acw):=by
 have hk:=hl.1
 have P:=I.live A hl;obtain⟨L1,L2,L3⟩:=A0d I hk;refine⟨Akq.2 L1,by show(l'.length:Int)=_;rw[hN];exact I.len,fun x hx=> ?_,fun x hx c=> ?_,fun x hx=> ?_,⟨rem t k,Bex A hk hN hg hb,?_⟩,fun x hx=> ?_,hcn,fun c=> ?_,hsn,fun s=> ?_,I.log⟩
 ·have hx:0≤x∧x<(l'.length:Int):=hx;rw[hN]at hx
  show Aqm w.fC (gt l' x)=true
  by_cases e:x=k
  ·rw[e,hb];exact A3m I.conf (by omega) (by omega) P.gen
  ·rw[hg x hx e];obtain⟨a1,a2,a3,a4⟩:=A34 (I.node k hk)
   by_cases hs:(gt w.fL x).Vg=1
   ·have X:=Aiq.1 ⟨I.node x hx,hs⟩;refine(Aiq.2 (A7b X ?_ ?_ ?_)).1
    ·split
     ·exact a3
     ·exact X.first
    ·split
     ·exact a3
     ·exact X.next
    ·split
     ·exact a4
     ·exact X.prev
   ·have X:=Ayj (I.node x hx) hs
    have B:=(A64 F.tree hl).bare x hx.1 hx.2 (by rw[Ald e,A x hx];simpa[A22]using hs)
    rw[Ald e,A x hx,A k hk]at B;obtain⟨_,B2,B3,B4⟩:=B
    have q1:(if(gt w.fL k).Sm=0∧x+1=(gt w.fL k).fUp∧(gt w.fL x).Ee=k+1 then(gt w.fL k).Sl else(gt w.fL x).Ee)=0:=B2
    have q2:(if x+1=(gt w.fL k).Sm then(gt w.fL k).Sl else(gt w.fL x).Sl)=0:=B3
    have q3:(if x+1=(gt w.fL k).Sl then(gt w.fL k).Sm else(gt w.fL x).Sm)=0:=B4
    have this:lnk (gt w.fL x) 0 0 0=gt w.fL x:=by rw[X];rfl
    unfold Bgw;rw[q1,q2,q3,this];exact I.node x hx
 ·have hx:0≤x∧x<(l'.length:Int):=hx;rw[hN]at hx
  show c∈(gt l' x).Ay ↔ (0≤c∧c<w.fC.Ay)∧gt (Aij w.fP (gt w.fL k).Ay).Vg c=1∧gt (Aij w.fP (gt w.fL k).Ay).N6 c=x
  by_cases e:x=k
  ·rw[e,hb];constructor
   ·intro q;cases q
   ·rintro⟨a,b,d⟩;rw[(L3 c a).1]at b;rw[(L3 c a).2]at d;split at b
    ·omega
    ·rename_i q;rw[if_neg q]at d;exact absurd ((I.own k hk c).2 ⟨a,b,by omega⟩) q
  ·rw[hg x hx e]
   show c∈(gt w.fL x).Ay ↔ _;rw[I.own x hx c];constructor
   ·rintro⟨a,b,d⟩
    have q:c ∉ (gt w.fL k).Ay:=fun q=>e (by have:=((I.own k hk c).1 q).2.2;omega)
    rw[(L3 c a).1,(L3 c a).2,if_neg q,if_neg q];exact⟨a,b,d⟩
   ·rintro⟨a,b,d⟩;rw[(L3 c a).1]at b;rw[(L3 c a).2]at d;split at b
    ·omega
    ·rename_i q;rw[if_neg q]at d;exact⟨a,b,d⟩
 ·have hx:0≤x∧x<(l'.length:Int):=hx;rw[hN]at hx
  show(gt l' x).F4.all (Arh w.fC (gt l' x).Ay)=true∧Aod (gt l' x).F4=true∧Are w.fC (Aij w.fP (gt w.fL k).Ay).N5 (gt l' x)=true
  by_cases e:x=k
  ·rw[e,hb];exact⟨rfl,rfl,rfl⟩
  ·rw[hg x hx e];obtain⟨t1,t2,t3⟩:=I.thing x hx;refine⟨t1,t2,?_⟩;rw[L2];exact t3
 ·show Ai9 (l'.length:Int) _ (Awf q');rw[hN];exact F'
 ·obtain⟨a,b⟩:=hr x hx;refine⟨a,?_⟩;unfold Aop at b ⊢
  show(_||Apo (((Aij w.fP (gt w.fL k).Ay).N5.drop (gt x.Ay 0*w.fC.G6).toNat).take x.Wv.toNat))=true
  rw[L2];exact b
 ·show c∈chL q' ↔ _;rw[hci c];exact A94 I hk c
 ·show s∈slL q' ↔ (0≤s∧s<(l'.length:Int))∧(gt l' s).Vg=2;rw[hsi s,hN,I.sli];constructor
  ·rintro(⟨a,b⟩|a)
   ·refine⟨a,?_⟩
    have e:s≠k:=fun e=>by rw[e,P.st]at b;cases b
    rw[hg s a e];exact b
   ·rw[a,hb];exact⟨hk,rfl⟩
  ·rintro⟨a,b⟩
   by_cases e:s=k
   ·exact .inr e
   ·rw[hg s a e]at b;exact .inl ⟨a,b⟩
def A1w (l:List As)(g:Int):List As:=((bif plB l (gt l g).Sl then l.set ((gt l g).Sl - 1).toNat (Bko (gt l ((gt l g).Sl - 1)) 0)else l).set g.toNat (Aqc 2 (gt l g).C8))
def Bbx (l:List As)(x:Az):Az:=Az.mk x.Bk (gt l (x.Ee - 1)).Sl x.Fh x.Ay x.Wv
def A00 (w:C4)(x:Az)(qs:List Az):C4:=
 C4.mk w.fC (Aij w.fP (gt w.fL (x.Ee - 1)).Ay) (A1w w.fL (x.Ee - 1)) (Agm (gt w.fL (x.Ee - 1)) x.Ee::Bbx w.fL x::qs) w.Acw
theorem Bby (l:List As)(g:Int):(A1w l g).length=l.length:=by
 unfold A1w;rw[Z49];cases plB l (gt l g).Sl<;>simp
theorem Bey{l:List As}(R:Rg l){g x:Int}(hg:0≤g∧g<(l.length:Int))(hx:0≤x∧x<(l.length:Int))(hne:x≠g)(hp:(gt l g).Sm=0)(hf: ¬(x+1=(gt l g).fUp∧(gt l x).Ee=g+1)):gt (A1w l g) x=Bgw (gt l g) (gt l x) g x:=by
 obtain⟨r1,r2,r3,r4⟩:=R.rg g hg
 have hl:=R.len;unfold A1w Bgw;rw[Bbt r3.1 r3.2 hl,hp,if_neg (fun q=>hf q.2),if_neg (by omega: ¬x+1=0)]
 by_cases h:(gt l g).Sl=0
 ·rw[h];simp only[beq_self_eq_true,Bool.not_true,cond_false];rw[Aps hg hx,if_neg hne,if_neg (by omega)];rfl
 ·rw[Ag6 h];simp only[Bool.not_false,cond_true];rw[Aps (by rw[Z49];exact hg) (by rw[Z49];exact hx),if_neg hne,Aps (by omega) hx]
  by_cases e:x=(gt l g).Sl - 1
  ·rw[if_pos e,if_pos (by omega),←e];rfl
  ·rw[if_neg e,if_neg (by omega)];rfl
theorem Bez{l:List As}{g:Int}(hg:0≤g∧g<(l.length:Int)):gt (A1w l g) g=Aqc 2 (gt l g).C8:=by
 unfold A1w;rw[Avz];cases plB l (gt l g).Sl<;>simpa using hg
structure Bw8 (w:C4)(t:Int->Lk)(x:Az)(qs:List Az):Prop where
 rc:Boe w.fC x
 lv:Lv w.fL.length t (x.Ee - 1)
 or:Oo w.fL.length t (x.Ee - 1)
 pv:(gt w.fL (x.Ee - 1)).Sm=0
 fr:Ai9 w.fL.length (rem t (x.Ee - 1)) (Awf (Agm (gt w.fL (x.Ee - 1)) x.Ee::Bbx w.fL x::qs))
 nf: ∀y,0≤y∧y<(w.fL.length:Int)-> ¬(y+1=(gt w.fL (x.Ee - 1)).fUp∧(gt w.fL y).Ee=x.Ee - 1+1)
theorem A98{w:C4}(I:Inv w){t:Int->Lk}(A:AtT w.fL t)(F:Ai9 w.fL.length t (Awf w.fQ)){x:Az}{qs:List Az}(hq:w.fQ=x::qs)(hf:x.Ee≠0):Bw8 w t x qs:=by
 have R:=Azf.1 (Azk I hq).1
 have hx:x∈w.fQ:=by rw[hq];exact List.mem_cons_self
 have hF:=R.first
 have e:x.Ee - 1+1=x.Ee:=by omega
 have F1:Ai9 w.fL.length t ((x.Bk,x.Ee - 1+1)::Awf qs):=by rw[e];rw[hq]at F;exact F
 obtain⟨h1,h2,h3⟩:=Bbp F1 (by omega)
 have hin:=h1.1
 have hor:Oo w.fL.length t (x.Ee - 1):=F.kid.or (Inv.qs hx) (A4o hin)
 have hpv:(gt w.fL (x.Ee - 1)).Sm=0:=by rw[A _ hin]at h2;exact h2
 refine⟨R,h1,hor,hpv,?_,?_⟩
 ·rw[A _ hin,e]at h3;exact h3
 ·rintro y hy ⟨a,b⟩
  have hup:(t (x.Ee - 1)).up=y+1:=by rw[A _ hin,a];rfl
  have hfi:(t y).fi=x.Ee:=by rw[A _ hy,←e,←b];rfl
  cases hlv:(t y).lv with
  |false=>
   have:=(F.tree.bare y hy.1 hy.2 hlv).2.1;omega
  |true=>
   have hY:Lv w.fL.length t y:=⟨hy,hlv⟩
   have:=(F.tree.link y hY).first (by omega)
   rw[hfi]at this;refine hor.2.2 ⟨?_,?_⟩
   ·rw[hup];simpa using hY
   ·rw[hup];simpa using this.2.2.2.symm
theorem Blg{w:C4}(I:Inv w){x:Az}{qs:List Az}(hq:w.fQ=x::qs)(hf:x.Ee≠0):Inv (A00 w x qs):=by
 obtain⟨t,A,F⟩:=I.forest
 have X:=A98 I A F hq hf
 have hk:=X.lv.1
 have hF:=X.rc.first
 have L:=I.live A X.lv;obtain⟨b1,b2,b3,b4,b5,b6⟩:=A1 I.conf
 have hch:chL w.fQ=x.Ay++chL qs:=by rw[hq];rfl
 have hcn:=A93 I hk;rw[hch]at hcn
 have hsl:slL w.fQ=(if x.Bk=0 then []else [An4 .i64 x.Bk 1])++slL qs:=by rw[hq];rfl
 have hsn:=I.sln;rw[hsl]at hsn
 have e1:slL (Agm (gt w.fL (x.Ee - 1)) x.Ee::Bbx w.fL x::qs)=(x.Ee - 1)::((if x.Bk=0 then []else [An4 .i64 x.Bk 1])++slL qs):=by
  show(if x.Ee=0 then []else [An4 .i64 x.Ee 1])++_=_
  rw[if_neg hf,sb1 (by omega) (by omega)];rfl
 have hns:x.Ee - 1 ∉ slL w.fQ:=fun h=>by
  have:=((I.sli _).1 h).2
  have:=L.st;omega
 unfold A00;refine Blf I A F X.lv _ _ (Bby _ _) (fun y hy hne=>Bey I.rg hk hy hne X.pv (X.nf y hy)) (Bez hk) X.fr (fun y hy=> ?_) ?_ (fun c=> ?_) ?_ (fun s=> ?_)
 ·rcases Ef.1 hy with e|e
  ·rw[e];exact⟨A24 L (by omega),A7c _ _ _⟩
  ·rcases Ef.1 e with e|e
   ·rw[e];exact⟨Azf.2 ⟨X.rc.conf,X.rc.slot,L.next,X.rc.ntag,X.rc.tags,X.rc.dist,X.rc.done,X.rc.zero⟩,(Azk I hq).2⟩
   ·exact I.wrec y (by rw[hq];exact Z56 _ e)
 ·show((gt w.fL (x.Ee - 1)).Ay++(x.Ay++chL qs)).Nodup;obtain⟨n1,n2,n3⟩:=Aim.1 hcn;exact Aim.2 ⟨n2,n1,fun z h1 h2=>n3 z h2 h1⟩
 ·rw[hch]
  show c∈(gt w.fL (x.Ee - 1)).Ay++(x.Ay++chL qs) ↔ _;rw[Mh,Mh (s:=x.Ay++chL qs)];exact Or.comm
 ·rw[e1,←hsl];exact List.nodup_cons.2 ⟨hns,I.sln⟩
 ·rw[e1,←hsl,Ef];exact Or.comm
def AlW (l:List As)(k:Int):Prop:= ∃t,AtT l t∧Al l.length t k
structure A4t (w w':C4):Prop where
 conf:w'.fC=w.fC
 len:w'.fL.length=w.fL.length
 node: ∀k,AlW w.fL k->AlW w'.fL k∧(∃a b c,gt w'.fL k=lnk (gt w.fL k) a b c)∧ ∀n,Aib w'.fL n k=Aib w.fL n k
theorem A7h (n:As):lnk n n.Ee n.Sl n.Sm=n:=rfl
theorem A4t.refl (w:C4):A4t w w:=⟨rfl,rfl,fun k h=>⟨h,⟨_,_,_,(A7h _).symm⟩,fun _=>rfl⟩⟩
theorem A4t.trans{a b c:C4}(h:A4t a b)(g:A4t b c):A4t a c:=by
 refine⟨g.conf.trans h.conf,g.len.trans h.len,fun k hk=> ?_⟩;obtain⟨h1,⟨x,y,z,h2⟩,h3⟩:=h.node k hk;obtain⟨g1,⟨u,v,w,g2⟩,g3⟩:=g.node k h1;exact⟨g1,⟨u,v,w,by rw[g2,h2];rfl⟩,fun n=>(g3 n).trans (h3 n)⟩
theorem A8q{w w':C4}(hc:w'.fC=w.fC)(hl:w'.fL=w.fL):A4t w w':=⟨hc,by rw[hl],fun k h=>by rw[hl];exact⟨h,⟨_,_,_,(A7h _).symm⟩,fun _=>rfl⟩⟩
theorem Blh{N:Int}{t t':Int->Lk}(h: ∀y,Al N t y->Lv N t' y∧(t' y).up=(t y).up∧(Cu N t y->Al N t ((t y).up - 1)->Cu N t' y)){k:Int}(hk:Al N t k):Al N t' k:=by
 induction hk with
 |root a b=>
  obtain⟨h1,h2,h3⟩:=h _ (.root a b);exact .root h1 (by rw[h2];exact b)
 |step a b c ih=>
  obtain⟨h1,h2,h3⟩:=h _ (.step a b c);exact .step h1 (h3 b c) (by rw[h2];exact ih)
theorem Btz{N:Int}{t:Int->Lk}{g:Int}(hg:Oo N t g){k:Int}(hk:Al N t k):Al N (rem t g) k:=by
 refine Blh (fun y hy=> ?_) hk
 have hne:y≠g:=fun e=>hy.noOr (e ▸ hg);refine⟨Apg.2 ⟨hne,hy.lv⟩,by rw[Ald hne],fun hc hu=>(A0x hne).2 ⟨fun e=> ?_,hc⟩⟩
 rw[e,Int.add_sub_cancel]at hu;exact hu.noOr hg
theorem Bt0{N:Int}{t:Int->Lk}{g:Int}(hg:(t g).lv=false){k:Int}(hk:Al N t k):Al N (clr t g) k:=by
 refine Blh (fun y hy=> ?_) hk;exact⟨(Avi hg).2 hy.lv,by rw[Aik hg hy.lv],fun hc _=>(A33 hg hy.lv).2 hc⟩
theorem Bli{N:Int}{t t':Int->Lk}(h: ∀x,0≤x∧x<N->t' x=t x){k:Int}(hk:Al N t k):Al N t' k:=by
 refine Blh (fun y hy=> ?_) hk
 have hy1:=hy.lv;refine⟨⟨hy1.1,by rw[h y hy1.1];exact hy1.2⟩,by rw[h y hy1.1],fun hc _=> ?_⟩
 have hc1:=hc.1;unfold Cu Lv;rw[h y hy1.1,h _ hc1.1];exact hc
theorem AlW.al{l:List As}{t:Int->Lk}(A:AtT l t){k:Int}(h:AlW l k):Al l.length t k:=by
 obtain⟨t',A',h'⟩:=h;exact Bli (fun x hx=>by rw[A x hx,A' x hx]) h'
theorem Bbz{w w':C4}{t t':Int->Lk}(R:Rg w.fL)(R':Rg w'.fL)(A:AtT w.fL t)(A':AtT w'.fL t')(F:Ai9 w.fL.length t (Awf w.fQ))(hc:w'.fC=w.fC)(hl:w'.fL.length=w.fL.length)
  (hn: ∀k,Al w.fL.length t k->Al w.fL.length t' k∧(t' k).up=(t k).up∧ ∃a b c,gt w'.fL k=lnk (gt w.fL k) a b c):A4t w w':=by
 refine⟨hc,hl,fun k hk=> ?_⟩
 have h:=hk.al A;obtain⟨h1,h2,h3⟩:=hn k h;refine⟨⟨t',A',by rw[hl];exact h1⟩,h3,fun n=> ?_⟩
 rw[A4p A' R',A4p A R,hl];obtain⟨d,U⟩:=F.uw;exact A1d _ _ fun y hy=>(hn y ((Bet U n k h).1 y hy).2).2.1
theorem A0e{α:Type}[Inhabited α](a:α)(l:List α){i:Nat}(h:i<l.length):gt (a::l) ((i+1:Nat):Int)=gt l (i:Int):=by
 rw[K1 (by simp;omega),K1 h];rfl
theorem Blj{α:Type}[Inhabited α](f:α->Nat): ∀(l l':List α),l'.length=l.length->(∀x:Nat,x<l.length->f (gt l' (x:Int))=f (gt l (x:Int)))->(l'.map f).sum=(l.map f).sum:=by
 intro l
 induction l with
 |nil=>intro l' h _;rw[Y6.1 h]
 |cons a l ih=>
  intro l' h hx;cases l' with
  |nil=>simp at h
  |cons b l'=>
   have hl:l'.length=l.length:=by simpa using h
   have h0:=hx 0 (by simp)
   have:=ih l' hl fun x h=>by
    have:=hx (x+1) (by simp;omega)
    rwa[A0e _ _ (by omega),A0e _ _ h]at this
   simp only[Z8,List.sum_cons,this];rw[show f b=f a from h0]
theorem Boh{α:Type}[Inhabited α](f:α->Nat): ∀(l l':List α) (g:Nat),l'.length=l.length->g<l.length->(∀x:Nat,x<l.length->x≠g->f (gt l' (x:Int))=f (gt l (x:Int)))->(l'.map f).sum+f (gt l (g:Int))=(l.map f).sum+f (gt l' (g:Int)):=by
 intro l
 induction l with
 |nil=>intro l' g _ h;simp at h
 |cons a l ih=>
  intro l' g h hg hx;cases l' with
  |nil=>simp at h
  |cons b l'=>
   have hl:l'.length=l.length:=by simpa using h
   simp only[Z8,List.sum_cons];cases g with
   |zero=>
    have:=Blj f l l' hl fun x h=>by
     have:=hx (x+1) (by simp;omega) (by omega)
     rwa[A0e _ _ (by omega),A0e _ _ h]at this
    rw[this]
    show f b+_+f a=f a+_+f b;omega
   |succ g=>
    have hg:g<l.length:=by simpa using hg
    have h0:f b=f a:=hx 0 (by simp) (by omega)
    have:=ih l' g hl hg fun x h hn=>by
     have:=hx (x+1) (by simp;omega) (by omega)
     rwa[A0e _ _ (by omega),A0e _ _ h]at this
    rw[A0e _ _ hg,A0e _ _ (by omega)]
    omega
theorem A27{f:As->Nat}{l l':List As}{g:Int}(hl:l'.length=l.length)(hg:0≤g∧g<(l.length:Int))(hx: ∀x,0≤x∧x<(l.length:Int)->x≠g->f (gt l' x)=f (gt l x)):(l'.map f).sum+f (gt l g)=(l.map f).sum+f (gt l' g):=by
 have:=Boh f l l' g.toNat hl (by omega) fun x h hn=>hx x ⟨by omega,by omega⟩ (by omega)
 rwa[show((g.toNat:Nat):Int)=g by omega]at this
theorem A28 (c:D9){st:Int}(h:st≠1)(g:Int):wtN c (Aqc st g)=0:=by unfold wtN Aqc;rw[if_neg h]
structure Bdk (w w':C4)(E:Int):Prop where
 inv:Inv w'
 mem: ∀x∈w'.fP.N5,0≤x∧x≤255
 ep: ∀k,0≤k∧k<(w'.fL.length:Int)->EpP E (gt w'.fL k)
 pot:pot w'<pot w
 wt:wt w'≤wt w
 stay:A4t w w'
theorem Bdk.good{w w':C4}{E:Int}(S:Bdk w w' E){n:Nat}(G:Dx w E n):Dx w' E n:=⟨S.inv,S.mem,S.ep,by have:=S.wt;have:=G.wt;omega⟩
theorem Bll{w:C4}{E:Int}{n:Nat}(G:Dx w E n){x:Az}{qs:List Az}(hq:w.fQ=x::qs)(h0:0<x.Fh.length):Bdk w (A4s w x qs) E:=by
 have e:wtQ w.fC (Blb x)+1=wtQ w.fC x:=by
  unfold wtQ Blb;simp only[List.length_take];omega
 have ep:pot (A4s w x qs)+1=pot w:=by
  unfold pot;rw[hq]
  show(w.fL.map (wtN w.fC)).sum+((Blb x::qs).map (wtQ w.fC)).sum+1=_;simp only[Z8,List.sum_cons];omega
 refine⟨Bof G.inv hq h0,G.mem,G.ep,by omega,?_,A8q rfl rfl⟩
 unfold wt
 show pot (A4s w x qs)+(w.Acw++[_]).length≤_;rw[Z23,List.length_singleton];omega
theorem Bgx{w:C4}{E:Int}{n:Nat}(G:Dx w E n){x:Az}{qs:List Az}(hq:w.fQ=x::qs)(hc:0<x.Ay.length):Bdk w (A0z w x qs) E:=by
 have X:=Bdj G.inv hq hc;obtain⟨b1,b2,b3,b4,b5,b6⟩:=A1 X.rc.conf
 have ht:=X.to
 have hd:=X.rc.done
 have e:wtQ w.fC (A2g w x)<wtQ w.fC x:=by
  have hm:w.fC.G6.toNat*x.Ay.length=w.fC.G6.toNat*(x.Ay.length - 1)+w.fC.G6.toNat:=by
   conv=>lhs;rw[show x.Ay.length=x.Ay.length - 1+1 by omega]
   rw[Nat.mul_succ]
  unfold A2g;split
  ·unfold wtQ;simp only;omega
  ·unfold wtQ;simp only[List.length_drop];omega
 have ep:pot (A0z w x qs)<pot w:=by
  unfold pot;rw[hq]
  show(w.fL.map (wtN w.fC)).sum+((A2g w x::qs).map (wtQ w.fC)).sum<_;simp only[Z8,List.sum_cons];omega
 refine⟨Ble G.inv hq hc,Bld G.mem,G.ep,ep,?_,A8q rfl rfl⟩;unfold wt
 show pot (A0z w x qs)+w.Acw.length≤_;omega
theorem Blm{w:C4}(I:Inv w){t:Int->Lk}(A:AtT w.fL t)(F:Ai9 w.fL.length t (Awf w.fQ)){x:Az}{qs:List Az}(hq:w.fQ=x::qs)(hf:x.Ee≠0):
  (∀y,0≤y∧y<(w.fL.length:Int)->y≠x.Ee - 1->gt (A1w w.fL (x.Ee - 1)) y=Bgw (gt w.fL (x.Ee - 1)) (gt w.fL y) (x.Ee - 1) y)∧gt (A1w w.fL (x.Ee - 1)) (x.Ee - 1)=Aqc 2 (gt w.fL (x.Ee - 1)).C8:=by
 have X:=A98 I A F hq hf;exact⟨fun y hy hne=>Bey I.rg X.lv.1 hy hne X.pv (X.nf y hy),Bez X.lv.1⟩
theorem Bgy{w:C4}{E:Int}{n:Nat}(G:Dx w E n)(hE:0≤E){x:Az}{qs:List Az}(hq:w.fQ=x::qs)(hf:x.Ee≠0):Bdk w (A00 w x qs) E:=by
 obtain⟨t,A,F⟩:=G.inv.forest
 have X:=A98 G.inv A F hq hf;obtain⟨hg,hb⟩:=Blm G.inv A F hq hf
 have hk:=X.lv.1
 have L:=G.inv.live A X.lv
 have I':=Blg G.inv hq hf
 have hN:=Bby w.fL (x.Ee - 1)
 have hs:=A27 (f:=wtN w.fC) hN hk fun y hy hne=>by rw[hg y hy hne];rfl
 rw[hb,A28 _ (by decide)]at hs
 have e1:wtN w.fC (gt w.fL (x.Ee - 1))=2+(gt w.fL (x.Ee - 1)).Fh.length+w.fC.G6.toNat*(gt w.fL (x.Ee - 1)).Ay.length:=by unfold wtN;rw[if_pos L.st]
 have e2:wtQ w.fC (Agm (gt w.fL (x.Ee - 1)) x.Ee)=1+(gt w.fL (x.Ee - 1)).Fh.length+w.fC.G6.toNat*(gt w.fL (x.Ee - 1)).Ay.length:=rfl
 have e3:wtQ w.fC (Bbx w.fL x)=wtQ w.fC x:=rfl
 have ep:pot (A00 w x qs)<pot w:=by
  unfold pot;rw[hq]
  show((A1w w.fL (x.Ee - 1)).map (wtN w.fC)).sum+((Agm (gt w.fL (x.Ee - 1)) x.Ee::Bbx w.fL x::qs).map (wtQ w.fC)).sum<_;simp only[Z8,List.sum_cons];omega
 refine⟨I',?_,fun y hy=> ?_,ep,?_,?_⟩
 ·show ∀y∈(Aij w.fP _).N5,_;rw[(A0d G.inv hk).2.1];exact G.mem
 ·have hy:0≤y∧y<((A1w w.fL (x.Ee - 1)).length:Int):=hy;rw[hN]at hy
  show EpP E (gt (A1w w.fL (x.Ee - 1)) y)
  by_cases e:y=x.Ee - 1
  ·rw[e,hb];exact⟨hE,hE,⟨Int.le_refl 0,by show(0:Int)≤1000;omega⟩⟩
  ·rw[hg y hy e]
   have:=G.ep y hy;exact⟨this.ep,this.ue,this.cur⟩
 ·unfold wt
  show pot (A00 w x qs)+w.Acw.length≤_;omega
 ·refine Bbz G.inv.rg I'.rg A (Bex A hk hN hg hb) F rfl hN fun y hy=> ?_
  have hne:y≠x.Ee - 1:=fun e=>hy.noOr (e ▸ X.or);exact⟨Btz X.or hy,by rw[Ald hne],_,_,_,hg y hy.lv.1 hne⟩
def A5b (n:As)(gens:Int):As:=if gens≤n.C8 then Aqc 3 n.C8 else Aqc 0 (n.C8+1)
def Ayx (w:C4)(x:Az):List As:=if x.Bk=0 then w.fL else w.fL.set (x.Bk - 1).toNat (A5b (gt w.fL (x.Bk - 1)) w.fC.G7)
def A4u (w:C4)(x:Az)(qs:List Az):C4:=C4.mk w.fC w.fP (Ayx w x) qs w.Acw
theorem A99 (w:C4)(x:Az):(Ayx w x).length=w.fL.length:=by unfold Ayx;split<;>simp
structure Bt1 (w:C4)(x:Az)(qs:List Az):Prop where
 rc:Boe w.fC x
 k:x.Bk≠0->0≤x.Bk - 1∧x.Bk - 1<(w.fL.length:Int)
 st:x.Bk≠0->(gt w.fL (x.Bk - 1)).Vg=2
 gn:x.Bk≠0->1≤(gt w.fL (x.Bk - 1)).C8∧(gt w.fL (x.Bk - 1)).C8≤w.fC.G7
 no:x.Bk≠0->x.Bk - 1 ∉ slL qs
theorem Be0{w:C4}(I:Inv w){x:Az}{qs:List Az}(hq:w.fQ=x::qs):Bt1 w x qs:=by
 have R:=Azf.1 (Azk I hq).1;obtain⟨b1,b2,b3,b4,b5,b6⟩:=A1 I.conf
 have hx:x∈w.fQ:=by rw[hq];exact List.mem_cons_self
 have hs:=R.slot
 have h1:x.Bk≠0->(0≤x.Bk - 1∧x.Bk - 1<(w.fL.length:Int))∧(gt w.fL (x.Bk - 1)).Vg=2:=fun h=>by
  have:=Beu hx h;rw[sb1 (by omega) (by omega)]at this
  exact(I.sli _).1 this
 refine⟨R,fun h=>(h1 h).1,fun h=>(h1 h).2,fun h=>(A0y (I.node _ (h1 h).1)).2.2,fun h=> ?_⟩
 have:=I.sln;rw[hq]at this
 have this:((if x.Bk=0 then []else [An4 .i64 x.Bk 1])++slL qs).Nodup:=this
 rw[if_neg h,sb1 (by omega) (by omega)]at this
 exact(List.nodup_cons.1 this).1
theorem Bt2{w:C4}{x:Az}{qs:List Az}(X:Bt1 w x qs){y:Int}(hy:0≤y∧y<(w.fL.length:Int)):gt (Ayx w x) y=if x.Bk≠0∧y=x.Bk - 1 then A5b (gt w.fL y) w.fC.G7 else gt w.fL y:=by
 unfold Ayx
 by_cases h:x.Bk=0
 ·rw[if_pos h,if_neg (fun q=>q.1 h)]
 ·rw[if_neg h,Aps (X.k h) hy]
  by_cases e:y=x.Bk - 1
  ·rw[if_pos e,if_pos ⟨h,e⟩,e]
  ·rw[if_neg e,if_neg (fun q=>e q.2)]
theorem Bdl{n:As}{gens:Int}(h:1≤n.C8∧n.C8≤gens): ∃st g,A5b n gens=Aqc st g∧(st=0∨st=3)∧1≤g∧g≤gens:=by
 unfold A5b;split
 ·exact⟨3,_,rfl,.inr rfl,h⟩
 ·exact⟨0,_,rfl,.inl rfl,by omega,by omega⟩
theorem Ayk{w:C4}{x:Az}{qs:List Az}(X:Bt1 w x qs){y:Int}(hy:0≤y∧y<(w.fL.length:Int)):(gt (Ayx w x) y=gt w.fL y∧ ¬(x.Bk≠0∧y=x.Bk - 1))∨((x.Bk≠0∧y=x.Bk - 1)∧(gt w.fL y).Vg=2∧ ∃st g,gt (Ayx w x) y=Aqc st g∧(st=0∨st=3)∧1≤g∧g≤w.fC.G7):=by
 rw[Bt2 X hy]
 by_cases h:x.Bk≠0∧y=x.Bk - 1
 ·rw[if_pos h];refine .inr ⟨h,by rw[h.2];exact X.st h.1,?_⟩
  exact Bdl (by rw[h.2];exact X.gn h.1)
 ·rw[if_neg h];exact .inl ⟨rfl,h⟩
theorem A7i{w:C4}(I:Inv w){t:Int->Lk}(A:AtT w.fL t)(F:Ai9 w.fL.length t (Awf w.fQ)){x:Az}{qs:List Az}(hq:w.fQ=x::qs)(hf:x.Ee=0):
  ∃t',AtT (Ayx w x) t'∧Ai9 w.fL.length t' (Awf qs)∧(∀k,Al w.fL.length t k->Al w.fL.length t' k∧(t' k).up=(t k).up):=by
 have X:=Be0 I hq
 have F1:Ai9 w.fL.length t ((x.Bk,0)::Awf qs):=by rw[hq]at F;rw[←hf];exact F
 by_cases h:x.Bk=0
 ·refine⟨t,?_,A69 F1,fun k hk=>⟨hk,rfl⟩⟩;unfold Ayx;rw[if_pos h];exact A
 ·have hk:=X.k h
  have hlv:(t (x.Bk - 1)).lv=false:=by rw[A _ hk];show((gt w.fL (x.Bk - 1)).Vg==1)=false;rw[X.st h];rfl
  refine⟨clr t (x.Bk - 1),fun y hy=> ?_,A9y F1 h fun e he e2=> ?_,fun k hk=>⟨Bt0 hlv hk,by rw[Aik hlv hk.lv]⟩⟩
  ·rw[A99]at hy;unfold clr;rcases Ayk X hy with ⟨e,f⟩|⟨f,_,st,g,e,hs,_⟩
   ·rw[if_neg (fun r=>f ⟨h,r⟩),e,A y hy]
   ·rw[if_pos f.2,e];rcases hs with s|s<;>subst s<;>rfl
  ·obtain⟨z,hz,e3⟩:=Ex.1 he
   have e3:z.Bk=e.1:=by rw[←e3]
   refine X.no h (List.mem_flatMap.2 ⟨z,hz,?_⟩)
   have hs:=X.rc.slot;obtain⟨b1,b2,b3,b4,b5,b6⟩:=A1 I.conf;rw[e3,e2,if_neg h,sb1 (by omega) (by omega)];simp
theorem Boi{w:C4}(I:Inv w){x:Az}{qs:List Az}(hq:w.fQ=x::qs)(hc:x.Ay=[])(hf:x.Ee=0):Inv (A4u w x qs):=by
 obtain⟨t,A,F⟩:=I.forest
 have X:=Be0 I hq;obtain⟨t',A',F',_⟩:=A7i I A F hq hf
 have hN:=A99 w x
 have hch:chL w.fQ=chL qs:=by rw[hq];show x.Ay++_=_;rw[hc];rfl
 have hsl:slL w.fQ=(if x.Bk=0 then []else [An4 .i64 x.Bk 1])++slL qs:=by rw[hq];rfl
 have hsn:=I.sln;rw[hsl]at hsn
 refine⟨I.pool,by show((Ayx w x).length:Int)=_;rw[hN];exact I.len,fun y hy=> ?_,fun y hy c=> ?_,fun y hy=> ?_,⟨t',A',by show Ai9 ((Ayx w x).length:Int) t' _;rw[hN];exact F'⟩,fun y hy=>I.wrec y (by rw[hq];exact Z56 _ hy),by show(chL qs).Nodup;rw[←hch];exact I.chn,fun c=>by show c∈chL qs ↔ _;rw[←hch];exact I.chi c,?_,fun s=> ?_,I.log⟩
 ·have hy:0≤y∧y<((Ayx w x).length:Int):=hy;rw[hN]at hy
  show Aqm w.fC (gt (Ayx w x) y)=true;rcases Ayk X hy with ⟨e,_⟩|⟨_,_,st,g,e,hs,hg⟩
  ·rw[e];exact I.node y hy
  ·rw[e];exact A3m I.conf (by omega) (by omega) hg
 ·have hy:0≤y∧y<((Ayx w x).length:Int):=hy;rw[hN]at hy
  show c∈(gt (Ayx w x) y).Ay ↔ _;rcases Ayk X hy with ⟨e,_⟩|⟨_,h2,st,g,e,hs,hg⟩
  ·rw[e];exact I.own y hy c
  ·rw[e]
   have:=I.own y hy c;rw[Ayj (I.node y hy) (by omega)]at this
   exact this
 ·have hy:0≤y∧y<((Ayx w x).length:Int):=hy;rw[hN]at hy
  show(gt (Ayx w x) y).F4.all (Arh w.fC (gt (Ayx w x) y).Ay)=true∧Aod (gt (Ayx w x) y).F4=true∧Are w.fC w.fP.N5 (gt (Ayx w x) y)=true;rcases Ayk X hy with ⟨e,_⟩|⟨_,h2,st,g,e,hs,hg⟩
  ·rw[e];exact I.thing y hy
  ·rw[e];exact⟨rfl,rfl,rfl⟩
 ·exact(Aim.1 hsn).2.1
 ·show s∈slL qs ↔ (0≤s∧s<((Ayx w x).length:Int))∧(gt (Ayx w x) s).Vg=2
  have hi:=I.sli s;rw[hsl,Mh]at hi
  have hss:=X.rc.slot;obtain⟨b1,b2,b3,b4,b5,b6⟩:=A1 I.conf;rw[hN];constructor
  ·intro h;obtain⟨a,b⟩:=hi.1 (.inr h);refine⟨a,?_⟩;rcases Ayk X a with ⟨e,_⟩|⟨⟨h1,h2⟩,_⟩
   ·rw[e];exact b
   ·rw[h2]at h;exact absurd h (X.no h1)
  ·rintro⟨a,b⟩;rcases Ayk X a with ⟨e,f⟩|⟨_,_,st,g,e,hs,_⟩
   ·rw[e]at b;rcases hi.2 ⟨a,b⟩with h|h
    ·by_cases q:x.Bk=0
     ·rw[if_pos q]at h;cases h
     ·rw[if_neg q,sb1 (by omega) (by omega),Px]at h
      exact absurd ⟨q,h⟩ f
    ·exact h
   ·rw[e]at b
    have b:st=2:=b;omega
theorem Bln{w:C4}{E:Int}{n:Nat}(G:Dx w E n)(hE:0≤E){x:Az}{qs:List Az}(hq:w.fQ=x::qs)(hc:x.Ay=[])(hf:x.Ee=0):Bdk w (A4u w x qs) E:=by
 obtain⟨t,A,F⟩:=G.inv.forest
 have X:=Be0 G.inv hq;obtain⟨t',A',F',hal⟩:=A7i G.inv A F hq hf
 have I':=Boi G.inv hq hc hf
 have hN:=A99 w x
 have hs:((Ayx w x).map (wtN w.fC)).sum=(w.fL.map (wtN w.fC)).sum:=Blj _ _ _ hN fun y hy=>by
  rcases Ayk X (y:=(y:Int)) ⟨by omega,by omega⟩with ⟨e,_⟩|⟨_,h2,st,g,e,hs,hg⟩
  ·rw[e]
  ·rw[e,A28 _ (by omega)];unfold wtN;rw[if_neg (by omega)]
 have ep:pot (A4u w x qs)<pot w:=by
  have h1:1≤wtQ w.fC x:=by unfold wtQ;omega
  unfold pot;rw[hq]
  show((Ayx w x).map (wtN w.fC)).sum+(qs.map (wtQ w.fC)).sum<_;simp only[Z8,List.sum_cons];omega
 refine⟨I',G.mem,fun y hy=> ?_,ep,?_,?_⟩
 ·have hy:0≤y∧y<((Ayx w x).length:Int):=hy;rw[hN]at hy
  show EpP E (gt (Ayx w x) y);rcases Ayk X hy with ⟨e,_⟩|⟨_,h2,st,g,e,hs,hg⟩
  ·rw[e];exact G.ep y hy
  ·rw[e];exact⟨hE,hE,⟨Int.le_refl 0,by show(0:Int)≤1000;omega⟩⟩
 ·unfold wt
  show pot (A4u w x qs)+w.Acw.length≤_;omega
 ·refine Bbz G.inv.rg I'.rg A A' F rfl hN fun y hy=> ?_;refine⟨(hal y hy).1,(hal y hy).2,?_⟩;rcases Ayk X hy.lv.1 with ⟨e,_⟩|⟨_,h2,_⟩
  ·exact⟨_,_,_,e⟩
  ·have:=((Av1 A).1 hy.lv).2;omega
section
variable {K:Nat} (hK:281474976710656≤K)
include hK
theorem Blo (w:C4)(hw:Ayo w.fP)(l:List Int)(hl:l.length≤140737488355327):Aqu K w l=some (C4.mk w.fC (Aij w.fP l) w.fL w.fQ w.Acw):=by
 unfold Aqu;refine A9p hK l (by omega) A03 w.fP Ayo hw (fun s x h=>(A6c h x).1) _ (fun n s i=>Akm K l n i w.fC.Ay w.fC.G6 w.fC.E5 w.fC.Gs w.fC.E6 w.fC.G7 s.N5 s.Vg s.N6 w.fL w.fQ w.Acw) (fun n s i h hs=> ?_) (fun n=> ?_)
 ·simp only[Akm];rw[Ad7 h,cond_true,if_pos (Aip h),K1 h,show Dm.mk s.N5 s.Vg s.N6=s from rfl,A61 K hs,Z0,Ad5 (by omega)]
 ·show Akm K l (n+1) _ _ _ _ _ _ _ _ _ _ _ _ _=_;rw[Akm,Ae0 (Z9 _),cond_false];rfl
theorem Boj{w:C4}(I:Inv w)(hw:Am6 w)(hQ:w.fQ.length≤1000000000){x:Az}{qs:List Az}(hq:w.fQ=x::qs)(hf:x.Ee≠0):Axr K w=some (A00 w x qs):=by
 have hm:=P2;obtain⟨t,A,F⟩:=I.forest
 have X:=A98 I A F hq hf
 have hk:=X.lv.1
 have hF:=X.rc.first
 have L:=I.live A X.lv;obtain⟨b1,b2,b3,b4,b5,b6⟩:=A1 I.conf
 have hlen:=I.len
 have hn:=hw.l.1 _ (Akr hk.1 hk.2)
 have e1:An4 .i64 x.Ee 1=x.Ee - 1:=sb1 (by omega) (by omega)
 have e2:An3 .i64 (x.Ee - 1) 1=x.Ee:=by rw[ad1 (by omega) (by omega)];omega
 have hnx:=L.next
 have hlq:(w.fQ).length=qs.length+1:=by rw[hq];simp
 have hj: ∀(l:List As) (q:List Az),l.length=w.fL.length->q.length=w.fQ.length->Asl K (gt w.fL (x.Ee - 1)) (x.Ee - 1) w.fC.Ay w.fC.G6 w.fC.E5 w.fC.Gs w.fC.E6 w.fC.G7 w.fP.N5 w.fP.Vg w.fP.N6 l q w.Acw=some (C4.mk w.fC (Aij w.fP (gt w.fL (x.Ee - 1)).Ay) (l.set (x.Ee - 1).toNat (Aqc 2 (gt w.fL (x.Ee - 1)).C8)) (Agm (gt w.fL (x.Ee - 1)) x.Ee::q) w.Acw):=by
  intro l q hl1 hq1
  have h8:=hn.tags.2
  have h9:=hn.chunks.2;unfold Asl;rw[Blo hK (C4.mk w.fC w.fP l q w.Acw) hw.p _ (Ays hK hn.chunks),Z0];unfold Azg Azp;simp only[Z0,Z38,List.singleton_append,Z28];simp only[hl1,if_pos hk,e2,Z0]
  iterate 4 (try rw[if_pos ⟨by omega,by omega⟩])
  try simp only[Z0]
  iterate 4 (try rw[if_pos ⟨by omega,by omega⟩])
  rfl
 unfold Axr;rw[hq,gt0,if_pos ⟨by omega,by simp⟩,e1]
 simp only[if_pos hk];rw[Atn K hn,Z0,if_pos ⟨by omega,by simp⟩,Axc,Z0]
 unfold A00 A1w
 have hp:plB w.fL (gt w.fL (x.Ee - 1)).Sl=decide (1≤(gt w.fL (x.Ee - 1)).Sl∧(gt w.fL (x.Ee - 1)).Sl≤(w.fL.length:Int)):=by
  rw[Bool.eq_iff_iff,A4q (by omega) (by omega),decide_eq_true_iff]
  omega
 rw[hp]
 by_cases q:1≤(gt w.fL (x.Ee - 1)).Sl∧(gt w.fL (x.Ee - 1)).Sl≤(w.fL.length:Int)
 ·rw[decide_eq_true q];simp only[cond_true];rw[sb1 (by omega) (by omega),if_pos ⟨by omega,by omega⟩]
  unfold Aqh;exact hj _ _ (by rw[Z49]) (by rw[hq];simp)
 ·rw[decide_eq_false q];simp only[cond_false];exact hj _ _ rfl (by rw[hq];simp)
theorem Blp{l:List As}(hl:Aeo l){k gens:Int}(hk:0≤k∧k<(l.length:Int))(hg:0≤(gt l k).C8∧(gt l k).C8≤1000):Azw K l k gens=some (l.set k.toNat (A5b (gt l k) gens)):=by
 unfold Azw Ak1 Axs A5b;rw[A14 hK hl,Z0,A0p K (Abh hl),decide_eq_true hk];simp only[Z0,Bool.not_true,cond_false,if_pos hk];rw[ad1 (by omega) (by omega)]
 by_cases q:gens≤(gt l k).C8
 ·rw[decide_eq_true (show(gt l k).C8≥gens from q),if_pos q];rfl
 ·rw[decide_eq_false (show ¬(gt l k).C8≥gens from q),if_neg q];rfl
theorem Be1{w:C4}{E:Int}{n:Nat}(G:Dx w E n)(hE:0≤E∧E≤1000000000)(hn:n≤1000000000)(h0:0<w.fQ.length): ∃w',Au1 K w=some w'∧Bdk w w' E:=by
 have hm:=P2
 have W:=G.ww hE.2 hn
 have h1:=Bk7 w
 have h2:=Bdi w
 have h3:=G.wt;cases hq:w.fQ with
 |nil=>rw[hq]at h0;simp at h0
 |cons x qs=>
 have R:=Azf.1 (Azk G.inv hq).1
 have hlq:(w.fQ).length=qs.length+1:=by rw[hq];simp
 unfold Au1 A1g;rw[hq,gt0,if_pos ⟨by omega,by simp⟩]
 by_cases c1:0<x.Fh.length
 ·refine⟨_,?_,Bll G hq c1⟩;rw[decide_eq_true (show(x.Fh.length:Int)>0 by omega)]
  simp only[cond_true,Z0,beq_self_eq_true];rw[Bty K hq c1 R.ntag (by omega)];rfl
 ·rw[decide_eq_false (show ¬(x.Fh.length:Int)>0 by omega)]
  by_cases c2:0<x.Ay.length
  ·refine⟨_,?_,Bgx G hq c2⟩;rw[decide_eq_true (show(x.Ay.length:Int)>0 by omega)]
   simp only[cond_true,cond_false,Z0];rw[show((2:Int)==1)=false from rfl,show((2:Int)==2)=true from rfl]
   simp only[cond_true,cond_false];rw[Bog hK G.inv W.p hq c2];rfl
  ·rw[decide_eq_false (show ¬(x.Ay.length:Int)>0 by omega)]
   have hc:x.Ay=[]:=Y6.1 (by omega)
   by_cases c3:x.Ee=0
   ·refine⟨_,?_,Bln G hE.1 hq hc c3⟩
    have X:=Be0 G.inv hq
    have hs:=R.slot;obtain⟨b1,b2,b3,b4,b5,b6⟩:=A1 G.inv.conf
    have et:((x::qs).drop (1:Int).toNat).take (((x::qs).length:Int) - 1).toNat=qs:=by
     show qs.take _=qs;exact List.take_of_length_le (by simp)
    rw[c3];simp only[bne_self_eq_false,cond_false,Z0];rw[show((4:Int)==1)=false from rfl,show((4:Int)==2)=false from rfl,show((4:Int)==3)=false from rfl]
    simp only[cond_false]
    have hl1:(((x::qs).length:Nat):Int)=(qs.length:Int)+1:=by simp
    have hj: ∀l:List As,Asm K w.fC.Ay w.fC.G6 w.fC.E5 w.fC.Gs w.fC.E6 w.fC.G7 w.fP.N5 w.fP.Vg w.fP.N6 l (x::qs) w.Acw=some (C4.mk w.fC w.fP l qs w.Acw):=by
     intro l;unfold Asm;rw[et,Z38,hl1,if_pos (show(0:Int)≤1∧(1:Int)≤(qs.length:Int)+1∧(qs.length:Int)+1≤(qs.length:Int)+1 from⟨by omega,by omega,by omega⟩),if_pos (show qs.length*72≤140737488355328∧qs.length≤maxLen from⟨by omega,by omega⟩)]
    rw[if_pos ⟨by omega,by simp⟩]
    unfold A4u Ayx
    by_cases q:x.Bk=0
    ·rw[q,if_pos rfl];exact hj _
    ·have hgn:=X.gn q;rw[Aqv q,if_neg q,cond_true,if_pos ⟨by omega,by simp⟩,sb1 (by omega) (by omega),Blp hK W.l (X.k q) ⟨by omega,by omega⟩,Z0]
     exact hj _
   ·refine⟨_,?_,Bgy G hE.1 hq c3⟩;rw[Aqv c3];simp only[cond_true,cond_false,Z0];rw[show((3:Int)==1)=false from rfl,show((3:Int)==2)=false from rfl,show((3:Int)==3)=true from rfl]
    simp only[cond_true,cond_false];rw[Boj hK G.inv W (by omega) hq c3];rfl
structure Steps (w w':C4)(E:Int)(n:Nat):Prop where
 good:Dx w' E n
 stay:A4t w w'
theorem Bgz{E:Int}{n:Nat}(hE:0≤E∧E≤1000000000)(hn:n≤1000000000)(m:Int): ∀(f:Nat) (i:Int) (w:C4),Dx w E n->pot w<f-> ∃r w',Asp K m f i w.fC.Ay w.fC.G6 w.fC.E5 w.fC.Gs w.fC.E6 w.fC.G7 w.fP.N5 w.fP.Vg w.fP.N6 w.fL w.fQ w.Acw=some (r,w')∧Steps w w' E n:=by
 intro f
 induction f with
 |zero=>intro i w _ h;omega
 |succ f ih=>
  intro i w G hf;rw[Asp];cases decide (i<m)with
  |false=>exact⟨m,w,rfl,G,A4t.refl w⟩
  |true=>
  simp only[cond_true]
  by_cases q:w.fQ.length=0
  ·rw[q];exact⟨i,w,rfl,G,A4t.refl w⟩
  ·obtain⟨w1,e1,S⟩:=Be1 hK G hE hn (by omega)
   have hp:=S.pot;obtain⟨r,w2,e2,S2⟩:=ih (An3 .i64 i 1) w1 (S.good G) (by omega)
   refine⟨r,w2,?_,S2.good,S.stay.trans S2.stay⟩;rw[Ag6 (by omega)]
   simp only[cond_false];rw[show C4.mk (D9.mk w.fC.Ay w.fC.G6 w.fC.E5 w.fC.Gs w.fC.E6 w.fC.G7) (Dm.mk w.fP.N5 w.fP.Vg w.fP.N6) w.fL w.fQ w.Acw=w from rfl,e1,Z0]
   exact e2
theorem A6h{E:Int}{n:Nat}(hE:0≤E∧E≤1000000000)(hn:n≤1000000000)(m:Int){w:C4}(G:Dx w E n): ∃r w',Au3 K w m=some (r,w')∧Steps w w' E n:=by
 have:=G.wt;unfold wt at this;exact Bgz hK hE hn m K 0 w G (by omega)
def A1f (p:Dm)(at_ n:Int):Bool:=decide (0≤at_)&&(decide (1≤n)&&(decide (at_+n≤(p.Vg.length:Int))&&(List.range n.toNat).all (fun k=>gt p.Vg (at_+(k:Int))==0)))
omit hK in
theorem Axj{p:Dm}{a n:Int}:A1f p a n=true ↔ 0≤a∧1≤n∧a+n≤(p.Vg.length:Int)∧ ∀c,a≤c∧c<a+n->gt p.Vg c=0:=by
 unfold A1f;simp only[Z4,decide_eq_true_eq,Z1,List.mem_range,beq_iff_eq];refine and_congr_right fun h1=>and_congr_right fun h2=>and_congr_right fun h3=> ?_;constructor
 ·intro h c hc
  have:=h (c - a).toNat (by omega)
  rwa[show a+(((c - a).toNat:Nat):Int)=c by omega]at this
 ·intro h k hk;exact h _ ⟨by omega,by omega⟩
theorem A8r{p:Dm}(hp:p.Vg.length≤1000000000){a n:Int}(ha: -1000000000≤a∧a≤1000000000)(hn: -1000000000≤n∧n≤1000000000):Av5 K p a n=some (A1f p a n):=by
 unfold Av5 A1f
 by_cases h1:a<0
 ·rw[decide_eq_true h1,decide_eq_false (by omega: ¬0≤a)];rfl
 rw[decide_eq_false h1,decide_eq_true (by omega:0≤a)]
 by_cases h2:n<1
 ·rw[decide_eq_true h2,decide_eq_false (by omega: ¬1≤n)];rfl
 rw[decide_eq_false h2,decide_eq_true (by omega:1≤n)]
 simp only[cond_false,Z30]
 have es:An4 .i64 (p.Vg.length:Int) a=(p.Vg.length:Int) - a:=by unfold An4;exact Gy (by omega) (by omega)
 rw[es]
 by_cases h3:a+n≤(p.Vg.length:Int)
 ·rw[decide_eq_false (by omega),decide_eq_false (by omega),decide_eq_true h3]
  simp only[cond_false,Z30]
  have ea:An3 .i64 a n=a+n:=by unfold An3;exact Gy (by omega) (by omega)
  have:=Apr hK n.toNat (by omega) (fun k=>gt p.Vg (a+(k:Int))==0) (some true) (fun f i=>Arj K a n f (a+i) p.N5 p.Vg p.N6) (fun f i h=> ?_) (fun f=> ?_)
  ·simp only[Int.add_zero]at this;rw[this];cases (List.range n.toNat).all _<;>rfl
  ·simp only[Arj]
   have e1:An3 .i64 (a+(i:Int)) 1=a+((i+1:Nat):Int):=by rw[ad1 (by omega) (by omega)];omega
   rw[ea,decide_eq_true (by omega),cond_true,if_pos ⟨by omega,by omega⟩,e1]
   cases e:gt p.Vg (a+(i:Int))==0<;>simp[bne,e]
  ·simp only[Arj];rw[ea,decide_eq_false (by omega)];rfl
 ·rw[decide_eq_false h3];simp only[Bool.false_and]
  by_cases h4:a>(p.Vg.length:Int)
  ·rw[decide_eq_true h4];rfl
  ·rw[decide_eq_false h4,decide_eq_true (by omega)];rfl
theorem A5y{p:Dm}(hp:p.Vg.length≤1000000000){n:Int}(hn: -1000000000≤n∧n≤1000000000): ∃r,Awk K p n=some r∧(r= -1∨A1f p r n=true):=by
 have key: ∀(f i:Nat),i≤p.Vg.length->p.Vg.length - i<f-> ∃r,Ars K n f (i:Int) p.N5 p.Vg p.N6=some r∧(r= -1∨A1f p r n=true):=by
  intro f
  induction f with
  |zero=>intro i _ h;omega
  |succ f ih=>
   intro i hi hf;rw[Ars];rcases Hl i p.Vg.length with h|h
   ·rw[Ad7 h,cond_true,show Dm.mk p.N5 p.Vg p.N6=p from rfl,A8r hK hp ⟨by omega,by omega⟩ hn,Z0]
    cases e:A1f p (i:Int) n with
    |true=>exact⟨_,rfl,.inr e⟩
    |false=>
     rw[Ad5 (by omega)]
     exact ih (i+1) h (by omega)
   ·rw[Ae0 h];exact⟨_,rfl,.inl rfl⟩
 exact key K 0 (Z21 _) (by omega)
theorem Blq{E:Int}{n:Nat}(hE:0≤E∧E≤1000000000)(hn:n≤1000000000)(a:Int){run:Int}(hr: -1000000000≤run∧run≤1000000000): ∀(f:Nat) (i:Int) (w:C4),Dx w E n->pot w<f-> ∃r w',Aqd K a run f i w.fC.Ay w.fC.G6 w.fC.E5 w.fC.Gs w.fC.E6 w.fC.G7 w.fP.N5 w.fP.Vg w.fP.N6 w.fL w.fQ w.Acw=some (r,w')∧Steps w w' E n:=by
 intro f
 induction f with
 |zero=>intro i w _ h;omega
 |succ f ih=>
  intro i w G hf
  have W:=G.ww hE.2 hn
  have hst:=(Akq.1 G.inv.pool).st;obtain⟨b1,b2,b3,b4,b5,b6⟩:=A1 G.inv.conf
  have hlen:=G.inv.len;rw[Aqd]
  have hw:C4.mk (D9.mk w.fC.Ay w.fC.G6 w.fC.E5 w.fC.Gs w.fC.E6 w.fC.G7) (Dm.mk w.fP.N5 w.fP.Vg w.fP.N6) w.fL w.fQ w.Acw=w:=rfl
  have hp:Dm.mk w.fP.N5 w.fP.Vg w.fP.N6=w.fP:=rfl;obtain⟨cn,hcn⟩: ∃cn,Ap8 K w.fL 0=some cn:=⟨_,A2f hK w.fL 0 (by omega)⟩
  rw[hw,hp,hcn]
  by_cases q:0<w.fQ.length
  ·obtain⟨w1,e1,S⟩:=Be1 hK G hE hn q
   have hpot:=S.pot;obtain⟨r,w2,e2,S2⟩:=ih (An3 .i64 i 1) w1 (S.good G) (by omega)
   have hgo: ∃r w',Atx K i w.fC.Ay w.fC.G6 w.fC.E5 w.fC.Gs w.fC.E6 w.fC.G7 w.fP.N5 w.fP.Vg w.fP.N6 w.fL w.fQ w.Acw (Aqd K a run f)=some (r,w')∧Steps w w' E n:=by
    refine⟨r,w2,?_,S2.good,S.stay.trans S2.stay⟩;unfold Atx;rw[hw,e1,Z0];exact e2
   have hno: ∃r w',(some (i,w):Option (Int×C4))=some (r,w')∧Steps w w' E n:=⟨_,_,rfl,G,A4t.refl w⟩;obtain⟨r5,e5,_⟩:=A5y hK (p:=w.fP) (by omega) hr
   rw[decide_eq_true (show(w.fQ.length:Int)>0 by omega),e5]
   simp only[cond_true,Z0];cases decide (cn<a)with
   |true=>exact hgo
   |false=>
    simp only[cond_false];cases decide (run>0)with
    |false=>exact hno
    |true=>
     simp only[cond_true];cases decide (r5<0)with
     |true=>exact hgo
     |false=>exact hno
  ·rw[decide_eq_false (show ¬(w.fQ.length:Int)>0 by omega)]
   exact⟨_,_,rfl,G,A4t.refl w⟩
theorem Bdm{E:Int}{n:Nat}(hE:0≤E∧E≤1000000000)(hn:n≤1000000000)(a:Int){run:Int}(hr: -1000000000≤run∧run≤1000000000){w:C4}(G:Dx w E n): ∃r w',Av8 K w a run=some (r,w')∧Steps w w' E n:=by
 have:=G.wt;unfold wt at this;exact Blq hK hE hn a hr K 0 w G (by omega)
end
section
variable {K:Nat} (hK:281474976710656≤K)
include hK
theorem Baa{l:List As}(hl:l.length≤1000000000): ∃r,Ayq K l=some r∧(r= -1∨(0≤r∧r<(l.length:Int))∧(gt l r).Vg=0):=by
 have key: ∀(f i:Nat),i≤l.length->l.length - i<f-> ∃r,Aq5 K l f (i:Int)=some r∧(r= -1∨(0≤r∧r<(l.length:Int))∧(gt l r).Vg=0):=by
  intro f
  induction f with
  |zero=>intro i _ h;omega
  |succ f ih=>
   intro i hi hf;rw[Aq5];rcases Hl i l.length with h|h
   ·rw[Ad7 h,cond_true,if_pos (Aip h),Ad5 (by omega)]
    by_cases e:(gt l (i:Int)).Vg=0
    ·rw[e];exact⟨_,rfl,.inr ⟨⟨by omega,by omega⟩,e⟩⟩
    ·rw[Ag6 e];exact ih (i+1) h (by omega)
   ·rw[Ae0 h];exact⟨_,rfl,.inl rfl⟩
 exact key K 0 (Z21 _) (by omega)
theorem A4v{p:Dm}(hp:p.Vg.length≤1000000000): ∃r,Avl K p=some r∧(r= -1∨A1f p r 1=true):=by
 have key: ∀(f i:Nat),i≤p.Vg.length->p.Vg.length - i<f-> ∃r,Aq6 K f (i:Int) p.N5 p.Vg p.N6=some r∧(r= -1∨A1f p r 1=true):=by
  intro f
  induction f with
  |zero=>intro i _ h;omega
  |succ f ih=>
   intro i hi hf;rw[Aq6];rcases Hl i p.Vg.length with h|h
   ·rw[Ad7 h,cond_true,if_pos (Aip h),Ad5 (by omega)]
    by_cases e:gt p.Vg (i:Int)=0
    ·rw[e];refine⟨_,rfl,.inr (Axj.2 ⟨by omega,by omega,by omega,fun c hc=> ?_⟩)⟩
     rw[show c=(i:Int)by omega];exact e
    ·rw[Ag6 e];exact ih (i+1) h (by omega)
   ·rw[Ae0 h];exact⟨_,rfl,.inl rfl⟩
 exact key K 0 (Z21 _) (by omega)
structure Bg0 (p p':Dm)(a n k:Int):Prop where
 mem:p'.N5=p.N5
 st:p'.Vg.length=p.Vg.length
 own:p'.N6.length=p.N6.length
 one: ∀c,0≤c∧c<(p.Vg.length:Int)->gt p'.Vg c=(if a≤c∧c<a+n then 1 else gt p.Vg c)∧gt p'.N6 c=(if a≤c∧c<a+n then k else gt p.N6 c)
theorem A35{p:Dm}(hw:Ayo p)(hp:p.Vg.length≤1000000)(ho:p.N6.length=p.Vg.length){a n k:Int}(hf:A1f p a n=true): ∃p',Aq7 K p a n k=some p'∧Bg0 p p' a n k:=by
 obtain⟨h1,h2,h3,h4⟩:=Axj.1 hf;unfold Aq7;rw[A1c K hw,A8r hK (by omega) ⟨by omega,by omega⟩ ⟨by omega,by omega⟩,hf,ho]
 simp only[Z0,cond_true,bne_self_eq_false,cond_false]
 have ea:An3 .i64 a n=a+n:=by unfold An3;exact Gy (by omega) (by omega)
 have key: ∀(f i:Nat) (q:Dm),(i:Int)≤n->n.toNat - i<f->Bg0 p q a i k-> ∃p',Asn K a n k f (a+(i:Int)) q (Dm.mk [] [] [])=some p'∧Bg0 p p' a n k:=by
  intro f
  induction f with
  |zero=>intro i q _ h;omega
  |succ f ih=>
   intro i q hi hf T;rw[Asn,ea]
   by_cases h:(i:Int)=n
   ·rw[decide_eq_false (by omega),cond_false,←h]
    exact⟨q,rfl,T⟩
   ·have e1:An3 .i64 (a+(i:Int)) 1=a+((i+1:Nat):Int):=by rw[ad1 (by omega) (by omega)];omega
    have hs:=T.st
    have hso:=T.own;rw[decide_eq_true (by omega),cond_true,if_pos ⟨by omega,by omega⟩,if_pos ⟨by omega,by omega⟩,e1]
    refine ih (i+1) _ (by omega) (by omega) ⟨T.mem,by simp[T.st],by simp[T.own],fun c hc=> ?_⟩
    obtain⟨t1,t2⟩:=T.one c hc;simp only;rw[A1u (by omega) (by omega),A1u (by omega) (by omega),t1,t2]
    by_cases q1:c=a+(i:Int)
    ·rw[if_pos q1,if_pos q1,if_pos (by omega),if_pos (by omega)];exact⟨rfl,rfl⟩
    ·rw[if_neg q1,if_neg q1]
     by_cases q2:a≤c∧c<a+(i:Int)
     ·rw[if_pos q2,if_pos q2,if_pos (by omega),if_pos (by omega)];exact⟨rfl,rfl⟩
     ·rw[if_neg q2,if_neg q2,if_neg (by omega),if_neg (by omega)];exact⟨rfl,rfl⟩
 have:=key K 0 p (by omega) (by omega) ⟨rfl,rfl,rfl,fun c hc=>by rw[if_neg (by omega),if_neg (by omega)];exact⟨rfl,rfl⟩⟩
 simpa using this
end
theorem Be2{w:C4}(I:Inv w){k:Int}(hk:0≤k∧k<(w.fL.length:Int))(p':Dm)(l':List As)(t':Int->Lk)(hN:l'.length=w.fL.length)
  (ho: ∀x,0≤x∧x<(w.fL.length:Int)->x≠k-> ∃a b c,gt l' x=lnk (gt w.fL x) a b c∧(0≤a∧a≤w.fC.E5)∧(0≤b∧b≤w.fC.E5)∧(0≤c∧c≤w.fC.E5))
  (hs2:(gt w.fL k).Vg≠2) (L:Auc w.fC (gt l' k)) (A':AtT l' t') (F':Ai9 w.fL.length t' (Awf w.fQ))
  (P':A5w w.fC p') (hm:p'.N5=w.fP.N5)
  (hone: ∀c,0≤c∧c<w.fC.Ay->(gt p'.Vg c=2 ↔ gt w.fP.Vg c=2)∧(gt p'.Vg c=1∧gt p'.N6 c=k ↔ c∈(gt l' k).Ay)∧ ∀x,x≠k->(gt p'.Vg c=1∧gt p'.N6 c=x ↔ gt w.fP.Vg c=1∧gt w.fP.N6 c=x))
  (hth:(gt l' k).F4.all (Arh w.fC (gt l' k).Ay)=true∧Aod (gt l' k).F4=true∧Are w.fC w.fP.N5 (gt l' k)=true):
  Inv (C4.mk w.fC p' l' w.fQ w.Acw):=by
 refine⟨Akq.2 P',by show(l'.length:Int)=_;rw[hN];exact I.len,fun x hx=> ?_,fun x hx c=> ?_,fun x hx=> ?_,⟨t',A',by show Ai9 (l'.length:Int) _ _;rw[hN];exact F'⟩,fun x hx=> ?_,I.chn,fun c=> ?_,I.sln,fun s=> ?_,I.log⟩
 ·have hx:0≤x∧x<(l'.length:Int):=hx;rw[hN]at hx
  show Aqm w.fC (gt l' x)=true
  by_cases e:x=k
  ·rw[e];exact(Aiq.2 L).1
  ·obtain⟨a,b,c,h1,h2,h3,h4⟩:=ho x hx e;rw[h1]
   by_cases hs:(gt w.fL x).Vg=1
   ·exact(Aiq.2 (A7b (Aiq.1 ⟨I.node x hx,hs⟩) h2 h3 h4)).1
   ·have X:=Ayj (I.node x hx) hs
    have B:=F'.tree.bare x hx.1 hx.2 (by rw[A' x (by rw[hN];exact hx),h1];simpa[A22,lnk]using hs)
    rw[A' x (by rw[hN];exact hx),h1]at B
    obtain⟨_,B2,B3,B4⟩:=B
    have q1:a=0:=B2
    have q2:b=0:=B3
    have q3:c=0:=B4
    have this:lnk (gt w.fL x) 0 0 0=gt w.fL x:=by rw[X];rfl
    rw[q1,q2,q3,this];exact I.node x hx
 ·have hx:0≤x∧x<(l'.length:Int):=hx;rw[hN]at hx
  show c∈(gt l' x).Ay ↔ (0≤c∧c<w.fC.Ay)∧gt p'.Vg c=1∧gt p'.N6 c=x
  by_cases e:x=k
  ·rw[e];constructor
   ·intro h
    have hin:=Aw7 L.dist c h;exact⟨hin,(hone c hin).2.1.2 h⟩
   ·rintro⟨a,b⟩;exact(hone c a).2.1.1 b
  ·obtain⟨a,b,d,h1,_⟩:=ho x hx e;rw[h1]
   show c∈(gt w.fL x).Ay ↔ _;rw[I.own x hx c];exact and_congr_right fun h=>((hone c h).2.2 x e).symm
 ·have hx:0≤x∧x<(l'.length:Int):=hx;rw[hN]at hx
  show(gt l' x).F4.all (Arh w.fC (gt l' x).Ay)=true∧Aod (gt l' x).F4=true∧Are w.fC p'.N5 (gt l' x)=true;rw[hm]
  by_cases e:x=k
  ·rw[e];exact hth
  ·obtain⟨a,b,d,h1,_⟩:=ho x hx e;rw[h1];exact I.thing x hx
 ·obtain⟨a,b⟩:=I.wrec x hx;refine⟨a,?_⟩;unfold Aop at b ⊢
  show(_||Apo ((p'.N5.drop _).take _))=true
  rw[hm];exact b
 ·show c∈chL w.fQ ↔ (0≤c∧c<w.fC.Ay)∧gt p'.Vg c=2;rw[I.chi c];exact and_congr_right fun h=>(hone c h).1.symm
 ·show s∈slL w.fQ ↔ (0≤s∧s<(l'.length:Int))∧(gt l' s).Vg=2;rw[I.sli s,hN];refine and_congr_right fun h=> ?_
  by_cases e:s=k
  ·rw[e,L.st];constructor
   ·intro q;exact absurd q hs2
   ·intro q;cases q
  ·obtain⟨a,b,d,h1,_⟩:=ho s h e;rw[h1];rfl
theorem A8s{w:C4}(I:Inv w){p':Dm}{a n k:Int}(hk:0≤k∧k<(w.fL.length:Int))(hf:A1f w.fP a n=true)(T:Bg0 w.fP p' a n k):
  A5w w.fC p'∧ ∀c,0≤c∧c<w.fC.Ay->(gt p'.Vg c=2 ↔ gt w.fP.Vg c=2)∧(gt p'.Vg c=1∧gt p'.N6 c=k ↔ c∈(gt w.fL k).Ay∨a≤c∧c<a+n)∧ ∀x,x≠k->(gt p'.Vg c=1∧gt p'.N6 c=x ↔ gt w.fP.Vg c=1∧gt w.fP.N6 c=x):=by
 have P:=Akq.1 I.pool;obtain⟨f1,f2,f3,f4⟩:=Axj.1 hf
 have hlen:=I.len;refine⟨⟨P.conf,by rw[T.mem];exact P.mem,by rw[T.st];exact P.st,by rw[T.own];exact P.own,fun c hc=> ?_⟩,fun c hc=> ?_⟩
 ·obtain⟨t1,t2⟩:=T.one c (by rw[P.st];exact hc)
  obtain⟨p1,p2,p3,p4⟩:=P.one c hc;rw[t1,t2,T.mem]
  by_cases q:a≤c∧c<a+n
  ·rw[if_pos q,if_pos q];exact⟨by omega,fun _=>by omega,fun h=>absurd rfl h,fun h=>by omega⟩
  ·rw[if_neg q,if_neg q];exact⟨p1,p2,p3,p4⟩
 ·obtain⟨t1,t2⟩:=T.one c (by rw[P.st];exact hc)
  rw[t1,t2]
  have ho:=I.own k hk c
  by_cases q:a≤c∧c<a+n
  ·rw[if_pos q,if_pos q,f4 c q];refine⟨by omega,⟨fun _=> .inr q,fun _=>⟨rfl,rfl⟩⟩,fun x hx=>⟨fun h=>absurd h.2.symm hx,fun h=>by omega⟩⟩
  ·rw[if_neg q,if_neg q];refine⟨Iff.rfl,⟨fun h=> .inl (ho.2 ⟨hc,h⟩),fun h=> ?_⟩,fun x hx=>Iff.rfl⟩;rcases h with h|h
   ·exact(ho.1 h).2
   ·exact absurd h q
structure Bt3 (l l':List As)(p k:Int):Prop where
 len:l'.length=l.length
 at_:gt l' k=As.mk (gt l k).Vg (gt l k).C8 (gt l k).Sj (p+1) (gt l p).Sj (gt l k).Ee (gt l p).Ee 0 (gt l k).Ay (gt l k).Acv (gt l k).Sn (gt l k).F4 (gt l k).Fh
 ot: ∀x,0≤x∧x<(l.length:Int)->x≠k->gt l' x=lnk (gt l x) (if x=p then k+1 else(gt l x).Ee) (gt l x).Sl (if x+1=(gt l p).Ee then k+1 else(gt l x).Sm)
section
variable {K:Nat} (hK:281474976710656≤K)
include hK
theorem Bok{l:List As}(hl:Aeo l)(h8:l.length≤1000){p k:Int}(hp:0≤p∧p<(l.length:Int))(hk:0≤k∧k<(l.length:Int))(hne:p≠k)(hf:0≤(gt l p).Ee∧(gt l p).Ee≤(l.length:Int))(hfk:(gt l p).Ee≠k+1): ∃l',Axg K l p k=some l'∧Bt3 l l' p k:=by
 have e1:An3 .i64 p 1=p+1:=ad1 (by omega) (by omega)
 have e2:An3 .i64 k 1=k+1:=ad1 (by omega) (by omega)
 have e3:An4 .i64 (gt l p).Ee 1=(gt l p).Ee - 1:=sb1 (by omega) (by omega)
 have g1: ∀v,gt (l.set k.toNat v) k=v:=fun v=>Avz hk v
 have g2: ∀v,gt (l.set k.toNat v) p=gt l p:=fun v=>Ayg hk.1 hp (Ne.symm hne) v;unfold Axg Ay0;rw[A14 hK hl,Z0,e1,e2,Axc,decide_eq_true (by omega),Z0,cond_true,Axc,decide_eq_true (by omega),Z0,cond_true,Ag6 hne,cond_false,e3]
 simp only[Aqh,if_pos hp,if_pos hk,Z49,g1,g2,List.set_set];rw[Axc,Z0]
 have hp': ∀v:As,0≤p∧p<((l.set k.toNat v).length:Int):=fun v=>by rw[Z49];exact hp
 have h2: ∀(u v:As) (x:Int),0≤x∧x<(l.length:Int)->gt ((l.set k.toNat u).set p.toNat v) x=if x=p then v else if x=k then u else gt l x:=by
  intro u v x hx;rw[Aps (hp' _) (by simpa using hx),Aps hk hx]
 by_cases q:1≤(gt l p).Ee∧(gt l p).Ee≤(l.length:Int)
 ·rw[decide_eq_true q,cond_true,if_pos ⟨by omega,by omega⟩]
  refine⟨_,rfl,by simp,?_,fun x hx hxk=> ?_⟩
  ·rw[Ayg (by omega) (by simpa using hk) (by omega),Ayg hp.1 (by simpa using hk) hne,g1]
  ·by_cases a:x=(gt l p).Ee - 1
   ·rw[if_pos (show x+1=(gt l p).Ee by omega),←a,Avz (by simpa using hx),h2 _ _ x hx,if_neg hxk]
    by_cases b:x=p
    ·rw[if_pos b,if_pos b,b];rfl
    ·rw[if_neg b,if_neg b];rfl
   ·rw[Ayg (by omega) (by simpa using hx) (Ne.symm a),h2 _ _ x hx,if_neg hxk,if_neg (show ¬x+1=(gt l p).Ee by omega)]
    by_cases b:x=p
    ·rw[if_pos b,if_pos b,b];rfl
    ·rw[if_neg b,if_neg b];rfl
 ·rw[decide_eq_false q,cond_false];refine⟨_,rfl,by simp,?_,fun x hx hxk=> ?_⟩
  ·rw[Ayg hp.1 (by simpa using hk) hne,g1]
  ·rw[h2 _ _ x hx,if_neg hxk,if_neg (show ¬x+1=(gt l p).Ee by omega)]
   by_cases b:x=p
   ·rw[if_pos b,if_pos b,b];rfl
   ·rw[if_neg b,if_neg b];rfl
end
def A8a (g c:Int):As:=As.mk 1 g 0 0 0 0 0 0 [c] (c+1) 0 [] []
structure Be3 (w:C4)(t:Int->Lk)(k c p:Int):Prop where
 hk:0≤k∧k<(w.fL.length:Int)
 st:(gt w.fL k).Vg=0
 free:A1f w.fP c 1=true
 up:p= -1∨Al w.fL.length t p∧(rise w.fL.length t w.fL.length p).length<4
theorem Be3.bare{w:C4}(I:Inv w){t:Int->Lk}{k c p:Int}(M:Be3 w t k c p):gt w.fL k=Aqc 0 (gt w.fL k).C8:=by
 have:=Ayj (I.node k M.hk) (by rw[M.st];decide)
 rw[M.st]at this;exact this
def mkN (w:C4)(k c p:Int):As:=As.mk 1 (gt w.fL k).C8 0 (p+1) (if p+1=0 then 0 else(gt w.fL p).Sj) 0 (if p+1=0 then 0 else(gt w.fL p).Ee) 0 [c] (c+1) 0 [] []
structure Bqg (w:C4)(l':List As)(k c p:Int):Prop where
 len:l'.length=w.fL.length
 at_:gt l' k=mkN w k c p
 ot: ∀x,0≤x∧x<(w.fL.length:Int)->x≠k->gt l' x=lnk (gt w.fL x) (if x=p then k+1 else(gt w.fL x).Ee) (gt w.fL x).Sl (if p+1≠0∧x+1=(gt w.fL p).Ee then k+1 else(gt w.fL x).Sm)
theorem A5z{c:D9}{n:As}{mem:List Int}{ch:Int}(h1:n.Acv=ch+1)(h2:n.Sn=0)(hz:Apo (Atr c mem ch)=true)(ha:n.F4.all (fun t=>Amg t (Auv c n))=true):Are c mem n=true:=by
 unfold Are;rw[ha,Bool.and_true,Bool.or_eq_true];refine .inr ?_
 have e1:(Auv c n).fAt=ch*c.G6:=by unfold Auv;rw[h1,h2,Int.add_sub_cancel,Int.add_zero]
 have e2:(Auv c n).Ajk=c.G6:=by unfold Auv;rw[h2];simp
 rw[e1,e2];exact hz
theorem Blr{w:C4}(I:Inv w){t:Int->Lk}(A:AtT w.fL t)(F:Ai9 w.fL.length t (Awf w.fQ)){k c p:Int}(M:Be3 w t k c p){p':Dm}(T:Bg0 w.fP p' c 1 k){l':List As}(L:Bqg w l' k c p):Inv (C4.mk w.fC p' l' w.fQ w.Acw):=by
 have hk:=M.hk
 have hb:=M.bare I
 have hb1:(gt w.fL k).Ay=[]:=by rw[hb];rfl
 have P:=Akq.1 I.pool;obtain⟨T1,T2⟩:=A8s I hk M.free T;obtain⟨f1,f2,f3,f4⟩:=Axj.1 M.free;obtain⟨b1,b2,b3,b4,b5,b6⟩:=A1 I.conf
 have hlen:=I.len
 have hg:=A0y (I.node k hk)
 have hc:0≤c∧c<w.fC.Ay:=by have:=P.st;omega
 have hp:p= -1∨(0≤p∧p<(w.fL.length:Int)):=M.up.imp_right fun h=>h.1.lv.1
 have hpf:p+1≠0->(0≤p∧p<(w.fL.length:Int))∧p≠k:=fun h=>by
  rcases M.up with e|⟨e,_⟩
  ·omega
  ·refine⟨e.lv.1,fun q=> ?_⟩
   have:=((Av1 A).1 e.lv).2;rw[q,M.st]at this;cases this
 have hA:AtT l' (ins t k p):=by
  intro x hx;rw[L.len]at hx
  by_cases e:x=k
  ·subst e;rw[Av0,L.at_];unfold mkN A22;simp only
   by_cases q:p+1=0
   ·rw[if_pos q,if_pos q,if_pos q,if_pos q];rfl
   ·rw[if_neg q,if_neg q,if_neg q,if_neg q,A p (hpf q).1];rfl
  ·rw[Atj e,L.ot x hx e,A x hx]
   by_cases q:p+1=0
   ·rw[if_neg (fun r:p+1≠0∧x+1=(t p).fi=>r.1 q),if_neg (fun r:p+1≠0∧x+1=(gt w.fL p).Ee=>r.1 q)];rfl
   ·rw[A p (hpf q).1];rfl
 have hF:Ai9 w.fL.length (ins t k p) (Awf w.fQ):=by
  refine Bbq F hk ?_ ?_ M.up
  ·rw[A k hk];show((gt w.fL k).Vg==1)=false;rw[M.st];rfl
  ·rw[A k hk];show((gt w.fL k).Vg==2)=false;rw[M.st];rfl
 have hfp:0≤(if p+1=0 then 0 else(gt w.fL p).Ee)∧(if p+1=0 then 0 else(gt w.fL p).Ee)≤w.fC.E5:=by
  split
  ·omega
  ·rename_i q
   have:=(I.rg.rg p (hpf q).1).2.1;omega
 have hep:0≤(if p+1=0 then 0 else(gt w.fL p).Sj):=by
  split
  ·omega
  ·rename_i q;rcases M.up with e|⟨e,_⟩
   ·omega
   ·exact(I.live A e.lv).ep
 have hz:Apo (Atr w.fC w.fP.N5 c)=true:=(P.one c hc).2.2.2 (f4 c ⟨by omega,by omega⟩)
 refine Be2 I hk p' l' (ins t k p) L.len (fun x hx e=>⟨_,_,_,L.ot x hx e,?_,?_,?_⟩) (by rw[M.st];decide) ?_ hA hF T1 T.mem (fun x hx=> ?_) ?_
 ·have:=(I.rg.rg x hx).2.1;split<;>omega
 ·have:=(I.rg.rg x hx).2.2.1;omega
 ·have:=(I.rg.rg x hx).2.2.2;split<;>omega
 ·rw[L.at_];refine⟨I.conf,rfl,hg.2.2,?_,⟨Int.le_refl 0,by show(0:Int)≤_;omega⟩,hfp,⟨Int.le_refl 0,by show(0:Int)≤_;omega⟩,Int.le_refl 0,hep,A1v.2 ⟨by simp[mkN],fun x hx=> ?_⟩,?_,Z21 _,Z21 _,rfl,rfl⟩
  ·show 0≤p+1∧p+1≤_;omega
  ·rw[Px.1 (show x∈[c] from hx)];exact hc
  ·unfold A4b mkN;simp only;rw[Ag6 (by omega),cond_false,sb1 (by omega) (by omega),Int.add_sub_cancel,Acx.2 ⟨by omega,by omega⟩]
   simp
 ·obtain⟨a1,a2,a3⟩:=T2 x hx;refine⟨a1,?_,a3⟩;rw[a2,hb1,L.at_]
  show x∈[]∨_ ↔ x∈[c];rw[Px];constructor
  ·rintro(h|h)
   ·cases h
   ·omega
  ·intro h;exact .inr (by omega)
 ·rw[L.at_];exact⟨rfl,rfl,A5z rfl rfl hz rfl⟩
theorem Bls{l:List As}{t:Int->Lk}(A:AtT l t)(R:Rg l): ∀(n:Nat) (k:Int),Auk l (Aib l n k)=true->A0q l (Aib l n k)=true->Al l.length t k:=by
 intro n
 induction n with
 |zero=>intro k _ h;simp[Aib,A0q]at h
 |succ n ih=>
  intro k h1 h2;unfold Aib at h1 h2
  by_cases hk:0≤k∧k<(l.length:Int)
  ·rw[if_pos hk]at h1 h2
   have hu:=(R.rg k hk).1
   have hl:=R.len;rw[sb1 (by omega) (by omega)]at h1 h2
   cases hr:Aib l n ((gt l k).fUp - 1)with
   |nil=>
    rw[hr]at h1 h2
    have s1:(gt l k).Vg=1:=by simpa[Auk]using h1
    have s2:(gt l k).fUp=0:=by
     have:((gt l (gt [k] ((0:Nat):Int))).fUp==0)=true:=by simpa[A0q]using h2
     exact beq_iff_eq.1 this
    exact .root ((Av1 A).2 ⟨hk,s1⟩) (by rw[A k hk];exact s2)
   |cons y r=>
    have hy:y=(gt l k).fUp - 1∧0≤y∧y<(l.length:Int):=by
     cases n with
     |zero=>simp[Aib]at hr
     |succ m=>
      unfold Aib at hr;split at hr
      ·rename_i q;obtain⟨e,_⟩:=List.cons.inj hr;exact⟨e.symm,by omega,by omega⟩
      ·cases hr
    rw[hr]at h1 h2
    have h1:((gt l k).Vg==1&&((gt l k).Sk==(gt l y).Sj)&&Auk l (y::r))=true:=h1;rw[Z4,Z4,beq_iff_eq,beq_iff_eq]at h1;obtain⟨⟨s1,s2⟩,s3⟩:=h1
    have s4:A0q l (y::r)=true:=by
     unfold A0q at h2 ⊢;rw[if_pos (by simp)]at h2 ⊢
     have e:gt (k::y::r) (((k::y::r).length - 1:Nat):Int)=gt (y::r) (((y::r).length - 1:Nat):Int):=by
      rw[show(k::y::r).length - 1=((y::r).length - 1)+1 by simp]
      exact A0e _ _ (by simp)
     rw[e]at h2;exact h2
    have h5:(gt l y).Vg=1:=by
     cases r with
     |nil=>simpa[Auk]using s3
     |cons z r=>
      simp only[Auk,Z4,beq_iff_eq]at s3;exact s3.1.1
    have h6:=ih ((gt l k).fUp - 1) (by rw[hr];exact s3) (by rw[hr];exact s4)
    refine .step ((Av1 A).2 ⟨hk,s1⟩) ?_ (by rw[A k hk];exact h6)
    unfold Cu;rw[A k hk]
    show Lv _ t ((gt l k).fUp - 1)∧(t ((gt l k).fUp - 1)).ep=(gt l k).Sk;rw[←hy.1,A y hy.2,s2];exact⟨(Av1 A).2 ⟨hy.2,h5⟩,rfl⟩
  ·rw[if_neg hk]at h2;simp[A0q]at h2
theorem A8t{w:C4}(I:Inv w){k:Int}(h:Att w.fL k=true):AlW w.fL k:=by
 obtain⟨t,A,_⟩:=I.forest;unfold Att at h;rw[Z4]at h;exact⟨t,A,Bls A I.rg _ _ h.1 h.2⟩
theorem A3o{w:C4}(I:Inv w){h:Am}(h0:(Aub w.fL h).2=0):AlW w.fL (Aub w.fL h).1:=by
 unfold Aub at *;cases e1:A0r h with
 |false=>rw[e1]at h0;simp at h0
 |true=>
  rw[e1]at h0;simp only[cond_true]at h0 ⊢;cases e2:decide (Ats w.fL h<0)with
  |true=>rw[e2]at h0;simp at h0
  |false=>
   rw[e2]at h0;simp only[cond_false]at h0 ⊢;cases e3:Att w.fL (Ats w.fL h)with
   |false=>rw[e3]at h0;simp at h0
   |true=>simp only[cond_true];exact A8t I e3
section
variable {K:Nat} (hK:281474976710656≤K)
include hK
theorem Bb0{w:C4}(hw:Am6 w)(h8:w.fL.length≤1000): ∃r,Azn K w=some r:=by
 have key: ∀(f i:Nat) (v:Int),i≤w.fL.length->w.fL.length - i<f-> ∃r,Ail K f v (i:Int) w.fC.Ay w.fC.G6 w.fC.E5 w.fC.Gs w.fC.E6 w.fC.G7 w.fP.N5 w.fP.Vg w.fP.N6 w.fL w.fQ w.Acw=some r:=by
  intro f
  induction f with
  |zero=>intro i _ _ h;omega
  |succ f ih=>
   intro i v hi hf;rw[Ail];rcases Hl i w.fL.length with h|h
   ·have go: ∀v,∃r,Am7 K (i:Int) w.fC.Ay w.fC.G6 w.fC.E5 w.fC.Gs w.fC.E6 w.fC.G7 w.fP.N5 w.fP.Vg w.fP.N6 w.fL w.fQ w.Acw (Ail K f) v=some r:=by
     intro v;unfold Am7;rw[Ad5 (by omega)]
     exact ih (i+1) v h (by omega)
    rw[Ad7 h,cond_true,if_pos (Aip h),A2t hK hw.l _ ⟨by omega,by omega⟩]
    simp only[Z0,if_pos (Aip h)];cases (gt w.fL (i:Int)).Vg==0 with
    |true=>exact go _
    |false=>
     simp only[cond_false];cases Att w.fL (i:Int)with
     |true=>exact go _
     |false=>
      simp only[cond_false];cases (gt w.fL (i:Int)).Vg != 3 with
      |false=>exact go _
      |true=>
       simp only[cond_true];cases decide ((gt w.fL (i:Int)).C8<w.fC.G7)<;>exact go _
   ·rw[Ae0 h];exact⟨_,rfl⟩
 exact key K 0 0 (Z21 _) (by omega)
theorem A7j{w:C4}(hw:Am6 w)(h8:w.fL.length≤1000): ∃r,Axo K w=some r∧r.length≤w.fL.length∧ ∀x∈r,(0≤x∧x<(w.fL.length:Int))∧Att w.fL x=true:=by
 have hm:=P2
 have key: ∀(f i:Nat) (v:List Int),i≤w.fL.length->w.fL.length - i<f->v.length≤i->(∀x∈v,(0≤x∧x<(w.fL.length:Int))∧Att w.fL x=true)-> ∃r,Aqx K f v (i:Int) w.fC.Ay w.fC.G6 w.fC.E5 w.fC.Gs w.fC.E6 w.fC.G7 w.fP.N5 w.fP.Vg w.fP.N6 w.fL w.fQ w.Acw=some r∧r.length≤w.fL.length∧ ∀x∈r,(0≤x∧x<(w.fL.length:Int))∧Att w.fL x=true:=by
  intro f
  induction f with
  |zero=>intro i _ _ h;omega
  |succ f ih=>
   intro i v hi hf hl hv;rw[Aqx];rcases Hl i w.fL.length with h|h
   ·rw[Ad7 h,cond_true,A2t hK hw.l _ ⟨by omega,by omega⟩]
    simp only[Z0];cases e:Att w.fL (i:Int)with
    |false=>
     simp only[cond_false];unfold Asc;rw[Ad5 (by omega)]
     exact ih (i+1) v h (by omega) (by omega) hv
    |true=>
     simp only[cond_true];rw[if_pos ⟨by simp;omega,by simp;omega⟩]
     unfold Asc;rw[Ad5 (by omega)]
     refine ih (i+1) _ h (by omega) (by simp;omega) fun x hx=> ?_
     rcases Mh.1 hx with hx|hx
     ·exact hv x hx
     ·rw[Px.1 hx];exact⟨⟨by omega,by omega⟩,e⟩
   ·rw[Ae0 h];exact⟨_,rfl,by omega,hv⟩
 exact key K 0 [] (Z21 _) (by omega) (by simp) (fun x hx=>by cases hx)
theorem A29{w:C4}(hw:Am6 w)(h8:w.fL.length≤1000)(n:Int): ∃b,Ari K w n=some b:=by
 obtain⟨r,e,hl,_⟩:=A7j hK hw h8
 have key: ∀(f i:Nat) (v:Int),i≤r.length->r.length - i<f-> ∃x,Ap7 K r f v (i:Int) w.fC.Ay w.fC.G6 w.fC.E5 w.fC.Gs w.fC.E6 w.fC.G7 w.fP.N5 w.fP.Vg w.fP.N6 w.fL w.fQ w.Acw=some x:=by
  intro f
  induction f with
  |zero=>intro i _ _ h;omega
  |succ f ih=>
   intro i v hi hf;rw[Ap7];rcases Hl i r.length with h|h
   ·rw[Ad7 h,cond_true,if_pos (Aip h),A4c hK _ _ hw.p.st.2,Z0,Ad5 (by omega)]
    exact ih (i+1) _ h (by omega)
   ·rw[Ae0 h];exact⟨_,rfl⟩
 obtain⟨x,ex⟩:=key K 0 0 (Z21 _) (by omega)
 have ex:Ap7 K r K 0 0 w.fC.Ay w.fC.G6 w.fC.E5 w.fC.Gs w.fC.E6 w.fC.G7 w.fP.N5 w.fP.Vg w.fP.N6 w.fL w.fQ w.Acw=some x:=ex;unfold Ari Azo;rw[e,Z0,ex];simp only[Z0];cases decide (n≥0)<;>cases decide (n≤w.fC.Ay)<;>exact⟨_,rfl⟩
omit hK in
theorem A3a{l:List As}(hl:l.length≤1000000)(k:Int): ∃h,Atv K l k=some h:=by
 unfold Atv;rw[A0p K (by omega),Z0]
 by_cases q:0≤k∧k<(l.length:Int)
 ·rw[decide_eq_true q,if_pos q];exact⟨_,rfl⟩
 ·rw[decide_eq_false q];exact⟨_,rfl⟩
end
def A3b (n:As)(c:Int):As:=As.mk n.Vg n.C8 n.Sj n.fUp n.Sk n.Ee n.Sl n.Sm (n.Ay++[c]) (c+1) 0 n.F4 n.Fh
theorem A5c{c:D9}{n:As}(L:Auc c n){k:Int}(hk:0≤k∧k<c.Ay)(hn:k ∉ n.Ay):Auc c (A3b n k):=by
 obtain⟨b1,b2,_⟩:=A1 L.conf
 have hd:=A1v.1 L.dist;refine⟨L.conf,L.st,L.gen,L.up,L.first,L.next,L.prev,L.ep,L.ue,A1v.2 ⟨Aim.2 ⟨hd.1,by simp,fun x h1 h2=>by rw[Px]at h2;subst h2;exact hn h1⟩,fun x hx=> ?_⟩,?_,L.nth,L.ntag,L.tags,L.things⟩
 ·rcases Mh.1 hx with h|h
  ·exact hd.2 x h
  ·rw[Px.1 h];exact hk
 ·unfold A4b A3b;simp only;rw[Ag6 (by omega),cond_false,sb1 (by omega) (by omega),Int.add_sub_cancel,Acx.2 ⟨by omega,by omega⟩]
  simp
section
variable {K:Nat} (hK:281474976710656≤K)
include hK
theorem A5d{c:D9}{n:As}(L:Auc c n)(hw:Ap5 n){k:Int}(hk:0≤k∧k<c.Ay)(hn:k ∉ n.Ay):Aud K c n k=some (A3b n k,true):=by
 have hm:=P2
 have L2:=A5c L hk hn;obtain⟨b1,b2,_⟩:=A1 L.conf
 have h1:=Ar3 L.conf L.dist
 have h3:=L.nth
 have h4:=L.ntag
 have e:As.mk n.Vg n.C8 n.Sj n.fUp n.Sk n.Ee n.Sl n.Sm (n.Ay++[k]) (An3 .i64 k 1) 0 n.F4 n.Fh=A3b n k:=by unfold A3b;rw[ad1 (by omega) (by omega)]
 unfold Aud
 have hb:A3b n k=A3b n k:=rfl;rw[Atn K hw,Z0,show(n.Vg != 1)=false by rw[L.st];rfl,cond_false,Ani,Ayr hK L.conf,Acx.2 ⟨by omega,by omega⟩,Z0,Bool.not_true,cond_false,if_pos ⟨by simp;omega,by simp;omega⟩,e]
 have hl:(A3b n k).Ay.length=n.Ay.length+1:=by unfold A3b;simp
 rw[Avf hK c (A3b n k) (by omega) (show n.F4.length≤_ by omega) (show n.Fh.length≤_ by omega),(Aiq.2 L2).1]
 rfl
omit hK in
theorem Dx.le{w:C4}{E E':Int}{n m:Nat}(G:Dx w E n)(hE:E≤E')(h:n≤m):Dx w E' m:=⟨G.inv,G.mem,fun k hk=>by have:=G.ep k hk;exact⟨Int.le_trans this.ep hE,Int.le_trans this.ue hE,this.cur⟩,Vv G.wt h⟩
theorem Bg1{E:Int}{n:Nat}(hE:0≤E∧E≤900000000)(hn:n≤900000000){w:C4}(G:Dx w E n){p at_ ch:Int}(hp:p= -1∨AlW w.fL p∧(Aib w.fL w.fL.length p).length<4)(ha:(0≤at_∧at_<(w.fL.length:Int))∧(gt w.fL at_).Vg=0)(hc:A1f w.fP ch 1=true):
  ∃p' l',Aq7 K w.fP ch 1 at_=some p'∧(p= -1->l'=w.fL.set at_.toNat (A8a (gt w.fL at_).C8 ch))∧(p≠ -1->Axg K (w.fL.set at_.toNat (A8a (gt w.fL at_).C8 ch)) p at_=some l')∧Dx (C4.mk w.fC p' l' w.fQ w.Acw) E (n+18)∧l'.length=w.fL.length:=by
 have I:=G.inv
 have W:=G.ww (by omega) (by omega)
 obtain⟨t,A,F⟩:=I.forest;obtain⟨b1,b2,b3,b4,b5,b6⟩:=A1 I.conf
 have P:=Akq.1 I.pool
 have hst:=P.st
 have how:=P.own
 have hlen:=I.len;obtain⟨f1,f2,f3,f4⟩:=Axj.1 hc
 have M:Be3 w t at_ ch p:=⟨ha.1,ha.2,hc,hp.imp_right fun h=>⟨h.1.al A,by rw[A4p A I.rg]at h;exact h.2⟩⟩
 obtain⟨p',ep,T⟩:=A35 hK W.p (by omega) (by omega) (k:=at_) hc
 have hg:=A0y (I.node at_ ha.1)
 have hbare:=M.bare I
 have hl': ∃l',(p= -1->l'=w.fL.set at_.toNat (A8a (gt w.fL at_).C8 ch))∧(p≠ -1->Axg K (w.fL.set at_.toNat (A8a (gt w.fL at_).C8 ch)) p at_=some l')∧Bqg w l' at_ ch p:=by
  by_cases q:p= -1
  ·refine⟨w.fL.set at_.toNat (A8a (gt w.fL at_).C8 ch),fun _=>rfl,fun h=>absurd q h,by simp,?_,fun x hx hne=> ?_⟩
   ·rw[Avz ha.1];unfold A8a mkN;rw[q];rfl
   ·have hpx:x≠p:=by omega
    rw[Ayg ha.1.1 hx (Ne.symm hne),if_neg hpx,if_neg (fun r=>r.1 (by omega))]
    rfl
  ·obtain⟨al,_⟩:=hp.resolve_left q
   have al:=al.al A
   have hpi:=al.lv.1
   have hpl:=(Av1 A).1 al.lv
   have hne:p≠at_:=fun e=>by rw[e,ha.2]at hpl;exact absurd hpl.2 (by decide)
   have hgp: ∀v,gt (w.fL.set at_.toNat v) p=gt w.fL p:=fun v=>Ayg ha.1.1 hpi (Ne.symm hne) v
   have hnw:Ap5 (A8a (gt w.fL at_).C8 ch):=⟨K0 (x:=(1:Int)) (by omega) (by omega),K0 (by show _≤(gt w.fL at_).C8;omega) (by show(gt w.fL at_).C8≤_;omega),Atl,Atl,Atl,Atl,Atl,Atl,Avj (fun x hx=>by rw[Px.1 (show x∈[ch] from hx)];omega) (by show [ch].length≤_;simp),K0 (by show _≤ch+1;omega) (by show ch+1≤_;omega),Atl,Azi,Ati⟩
   have hW:Aeo (w.fL.set at_.toNat (A8a (gt w.fL at_).C8 ch)):=by
    refine⟨fun x hx=> ?_,by rw[Z49];exact W.l.2⟩
    rcases Z54 hx with h|h
    ·exact W.l.1 x h
    ·rw[h];exact hnw
   have hfr:=(I.rg.rg p hpi).2.1;obtain⟨l',e,L⟩:=Bok hK hW (by simp;omega) (p:=p) (k:=at_) (by simpa using hpi) (by simpa using ha.1) hne (by rw[hgp];simpa using hfr) (by
    rw[hgp];intro e
    have h1:=(F.tree.link p al.lv).first (by rw[A p hpi];show(gt w.fL p).Ee≠0;omega)
    have h2:=((Av1 A).1 h1.1).2;rw[A p hpi]at h2
    have h2:(gt w.fL ((gt w.fL p).Ee - 1)).Vg=1:=h2;rw[e,Int.add_sub_cancel,ha.2]at h2;cases h2)
   refine⟨l',fun h=>absurd h q,fun _=>e,by rw[L.len];simp,?_,fun x hx hxk=> ?_⟩
   ·rw[L.at_,Avz ha.1,hgp];unfold A8a mkN;rw[if_neg (by omega),if_neg (by omega)]
   ·rw[L.ot x (by simpa using hx) hxk,Ayg ha.1.1 hx (Ne.symm hxk),hgp]
    by_cases r:x+1=(gt w.fL p).Ee
    ·rw[if_pos r,if_pos (show p+1≠0∧x+1=(gt w.fL p).Ee from⟨by omega,r⟩)]
    ·rw[if_neg r,if_neg (fun s:p+1≠0∧x+1=(gt w.fL p).Ee=>r s.2)]
 obtain⟨l',h1,h2,L⟩:=hl'
 have I':=Blr I A F M T L;refine⟨p',l',ep,h1,h2,⟨I',?_,fun x hx=> ?_,?_⟩,L.len⟩
 ·show ∀x∈p'.N5,_;rw[T.mem];exact G.mem
 ·have hx:0≤x∧x<(l'.length:Int):=hx;rw[L.len]at hx
  show EpP E (gt l' x)
  by_cases e:x=at_
  ·rw[e,L.at_];refine⟨hE.1,?_,⟨by show 0≤ch+1;omega,by show ch+1≤_;omega⟩⟩
   show(if p+1=0 then 0 else(gt w.fL p).Sj)≤E
   split
   ·exact hE.1
   ·rename_i q
    have:=(hp.resolve_left (by omega)).1.al A
    exact(G.ep p this.lv.1).ep
  ·rw[L.ot x hx e]
   have:=G.ep x hx;exact⟨this.ep,this.ue,this.cur⟩
 ·have hs:=A27 (f:=wtN w.fC) L.len ha.1 fun x hx hne=>by rw[L.ot x hx hne];rfl
  have e0:wtN w.fC (gt w.fL at_)=0:=by rw[hbare];exact A28 _ (by decide) _
  have e1:wtN w.fC (gt l' at_)≤18:=by
   rw[L.at_];unfold wtN mkN;simp only[if_pos,List.length_singleton,List.length_nil];omega
  have h3:=G.wt;unfold wt pot at h3 ⊢
  show(l'.map (wtN w.fC)).sum+_+_≤_;simp only at h3 ⊢;omega
end
section
variable {K:Nat} (hK:281474976710656≤K)
include hK
theorem A3c{E:Int}{n:Nat}(hE:0≤E∧E≤900000000)(hn:n≤900000000){w:C4}(G:Dx w E n){p:Int}(a b:Es)(hp:a.Wz=0->p= -1∨AlW w.fL p∧(Aib w.fL w.fL.length p).length<4):
  ∃r w',Ans K p w.fC.Ay w.fC.G6 w.fC.E5 w.fC.Gs w.fC.E6 w.fC.G7 w.fP.N5 w.fP.Vg w.fP.N6 w.fL w.fQ w.Acw a b=some (r,w')∧Dx w' E (n+18)∧w'.fC=w.fC:=by
 unfold Ans
 by_cases h0:a.Wz=0
 ·have hp:=hp h0;rw[h0];simp only[bne_self_eq_false,cond_false];obtain⟨d,w1,e1,S⟩:=Bdm hK (by omega:0≤E∧E≤1000000000) (by omega) 1 (run:=1) (by omega) G
  rw[show C4.mk (D9.mk w.fC.Ay w.fC.G6 w.fC.E5 w.fC.Gs w.fC.E6 w.fC.G7) (Dm.mk w.fP.N5 w.fP.Vg w.fP.N6) w.fL w.fQ w.Acw=w from rfl,e1]
  simp only[Z0]
  have G1:=S.good
  have T1:=S.stay
  have P1:=Akq.1 G1.inv.pool
  have hst:=P1.st
  have hlen:=G1.inv.len;obtain⟨b1,b2,b3,b4,b5,b6⟩:=A1 G1.inv.conf;obtain⟨at_,e2,h2⟩:=Baa hK (l:=w1.fL) (by omega)
  obtain⟨ch,e3,h3⟩:=A4v hK (p:=w1.fP) (by omega)
  rw[e2,e3];simp only[Z0]
  have G1':=Dx.le G1 (Int.le_refl E) (by omega:n≤n+18)
  by_cases q1:at_<0
  ·rw[decide_eq_true q1];exact⟨_,_,rfl,G1',T1.conf⟩
  ·rw[decide_eq_false q1];simp only[cond_false]
   by_cases q2:ch<0
   ·rw[decide_eq_true q2];exact⟨_,_,rfl,G1',T1.conf⟩
   ·rw[decide_eq_false q2];simp only[cond_false];obtain⟨hat,hfree⟩:=h2.resolve_left (by omega)
    have hch:=h3.resolve_left (by omega)
    obtain⟨f1,f2,f3,f4⟩:=Axj.1 hch
    have hp1:p= -1∨AlW w1.fL p∧(Aib w1.fL w1.fL.length p).length<4:=hp.imp_right fun h=>by
     obtain⟨x1,_,x3⟩:=T1.node p h.1;rw[x3,T1.len];exact⟨x1,h.2⟩
    obtain⟨p',l',et,k1,k2,G2,hl2⟩:=Bg1 hK hE hn G1 hp1 ⟨hat,hfree⟩ hch
    have hg:=A0y (G1.inv.node at_ hat)
    have L0:Auc w1.fC (As.mk 1 (gt w1.fL at_).C8 0 0 0 0 0 0 [] 0 0 [] []):=⟨G1.inv.conf,rfl,hg.2.2,⟨Int.le_refl 0,by show(0:Int)≤_;omega⟩,⟨Int.le_refl 0,by show(0:Int)≤_;omega⟩,⟨Int.le_refl 0,by show(0:Int)≤_;omega⟩,⟨Int.le_refl 0,by show(0:Int)≤_;omega⟩,Int.le_refl 0,Int.le_refl 0,rfl,rfl,Z21 _,Z21 _,rfl,rfl⟩
    have W0:Ap5 (As.mk 1 (gt w1.fL at_).C8 0 0 0 0 0 0 [] 0 0 [] []):=A19 (E:=0) (Aiq.2 L0).1 ⟨Int.le_refl 0,Int.le_refl 0,Int.le_refl 0,by show(0:Int)≤1000;omega⟩ (by omega)
    unfold Ak1;simp only[Z0,if_pos hat];rw[et,Z0,A5d hK L0 W0 ⟨f1,by omega⟩ (by intro h;cases h),Z0]
    simp only
    have hnew:A3b (As.mk 1 (gt w1.fL at_).C8 0 0 0 0 0 0 [] 0 0 [] []) ch=A8a (gt w1.fL at_).C8 ch:=rfl;rw[hnew]
    by_cases q3:p= -1
    ·rw[decide_eq_false (by omega: ¬p≥0)]
     simp only[cond_false];rw[←k1 q3];obtain⟨hd,eh⟩:=A3a (K:=K) (l:=l') (by omega) at_
     obtain⟨t,w2,es,S2⟩:=A6h hK (E:=E) (n:=n+18) (by omega) (by omega) w1.fC.Gs G2
     unfold Asq;rw[eh,Z0,show C4.mk (D9.mk w1.fC.Ay w1.fC.G6 w1.fC.E5 w1.fC.Gs w1.fC.E6 w1.fC.G7) (Dm.mk p'.N5 p'.Vg p'.N6) l' w1.fQ w1.Acw=C4.mk w1.fC p' l' w1.fQ w1.Acw from rfl,es]
     exact⟨_,_,rfl,S2.good,S2.stay.conf.trans T1.conf⟩
    ·have hp2:0≤p:=by
      obtain⟨t,A,F⟩:=G1.inv.forest;exact((hp1.resolve_left q3).1.al A).lv.1.1
     rw[decide_eq_true (show p≥0 from hp2)]
     simp only[cond_true];rw[k2 q3,Z0];obtain⟨hd,eh⟩:=A3a (K:=K) (l:=l') (by omega) at_
     obtain⟨t,w2,es,S2⟩:=A6h hK (E:=E) (n:=n+18) (by omega) (by omega) w1.fC.Gs G2
     unfold Asq;rw[eh,Z0,show C4.mk (D9.mk w1.fC.Ay w1.fC.G6 w1.fC.E5 w1.fC.Gs w1.fC.E6 w1.fC.G7) (Dm.mk p'.N5 p'.Vg p'.N6) l' w1.fQ w1.Acw=C4.mk w1.fC p' l' w1.fQ w1.Acw from rfl,es]
     exact⟨_,_,rfl,S2.good,S2.stay.conf.trans T1.conf⟩
 ·rw[Aqv h0];exact⟨_,_,rfl,Dx.le G (Int.le_refl E) (by omega),rfl⟩
theorem Bb1{E:Int}{n:Nat}(hE:0≤E∧E≤900000000)(hn:n≤900000000){w:C4}(G:Dx w E n){p:Int}(v:Bool)(a b:Es)(hp:v=false->p= -1∨AlW w.fL p∧(Aib w.fL w.fL.length p).length<4):
  ∃r w',Asr K p v w.fC.Ay w.fC.G6 w.fC.E5 w.fC.Gs w.fC.E6 w.fC.G7 w.fP.N5 w.fP.Vg w.fP.N6 w.fL w.fQ w.Acw a b=some (r,w')∧Dx w' E (n+18)∧w'.fC=w.fC:=by
 have W:=G.ww (by omega) (by omega)
 have hlen:=G.inv.len;obtain⟨b1,b2,b3,b4,b5,b6⟩:=A1 G.inv.conf;unfold Asr;cases v with
 |true=>exact A3c hK hE hn G (p:=p) (Es.mk 3 a.fH a.fR a.fB a.W3 a.Gs a.N7) b (fun h=>absurd (show(3:Int)=0 from h) (by decide))
 |false=>
  simp only[cond_false];rw[show C4.mk (D9.mk w.fC.Ay w.fC.G6 w.fC.E5 w.fC.Gs w.fC.E6 w.fC.G7) (Dm.mk w.fP.N5 w.fP.Vg w.fP.N6) w.fL w.fQ w.Acw=w from rfl]
  obtain⟨r,er⟩:=Bb0 hK W (by omega)
  rw[er,Z0];cases r==0 with
  |true=>exact A3c hK hE hn G (p:=p) (Es.mk 4 a.fH a.fR a.fB a.W3 a.Gs a.N7) b (fun h=>absurd (show(4:Int)=0 from h) (by decide))
  |false=>
   simp only[cond_false];obtain⟨f,ef⟩:=A29 hK W (by omega) 1
   rw[ef,Z0];cases f with
   |false=>exact A3c hK hE hn G (p:=p) (Es.mk 5 a.fH a.fR a.fB a.W3 a.Gs a.N7) b (fun h=>absurd (show(5:Int)=0 from h) (by decide))
   |true=>exact A3c hK hE hn G (p:=p) a b (fun _=>hp rfl)
theorem Bdn{E:Int}{n:Nat}(hE:0≤E∧E≤900000000)(hn:n≤900000000){w:C4}(G:Dx w E n)(h:Am): ∃r w',Axu K w h=some (r,w')∧Dx w' E (n+18)∧w'.fC=w.fC:=by
 have W:=G.ww (by omega) (by omega)
 have hlen:=G.inv.len;obtain⟨b1,b2,b3,b4,b5,b6⟩:=A1 G.inv.conf
 have hup: ∃p c,Azt K w h=some (p,c)∧(c=0->p= -1∨AlW w.fL p):=by
  unfold Azt;cases ((h.Bk==0)&&((h.C8==0)&&true))with
  |true=>exact⟨-1,0,rfl,fun _=> .inl rfl⟩
  |false=>
   simp only[cond_false];rw[Auj hK W.l,Z0];exact⟨_,_,rfl,fun h0=> .inr (A3o G.inv h0)⟩
 obtain⟨p,c,ep,hp⟩:=hup;unfold Axu;rw[ep,Z0,Ayw hK w W.l,Z0];simp only
 by_cases q:c=0
 ·rw[q];simp only[bne_self_eq_false,cond_false];rcases hp q with e|e
  ·rw[e,decide_eq_false (by omega)]
   exact Bb1 hK hE hn G false _ _ (fun _=> .inl rfl)
  ·have hpi:0≤p∧p<(w.fL.length:Int):=by
    obtain⟨t,A,F⟩:=G.inv.forest;exact(e.al A).lv.1
   rw[decide_eq_true (show p≥0 from hpi.1)]
   simp only[cond_true];unfold Av4;rw[A12 hK W.l p ⟨by omega,by omega⟩]
   simp only[Z0];refine Bb1 hK hE hn G _ _ _ (fun hv=> .inr ⟨e,?_⟩)
   have:=of_decide_eq_false hv;omega
 ·rw[Aqv q];exact A3c hK hE hn G (p:=p) (Es.mk c (Am.mk 0 0) (Bq.mk (Am.mk 0 0) 0 0) [] (Bbm w h) 0 0) (Es.mk 0 (Am.mk 0 0) (Bq.mk (Am.mk 0 0) 0 0) [] 0 0 0) (fun h=>absurd h q)
end
theorem A7k{c:D9}{ch:List Int}{t:Bc}(h:Arh c ch t=true){j:Int}(h0:t.fAt≤j)(h1:j<t.fAt+t.Ajk):j / c.G6∈ch:=by
 unfold Arh at h;rw[Z4,Z1]at h;obtain⟨ht,hc⟩:=h;obtain⟨hs,hin⟩:=A1n ht;obtain⟨b1,b2,_⟩:=A1 hin.1
 have e1:t.fAt / c.G6≤j / c.G6:=Int.ediv_le_ediv (by omega) h0
 have e2:j / c.G6≤(t.fAt+t.Ajk - 1) / c.G6:=Int.ediv_le_ediv (by omega) (by omega)
 have:=hc (j / c.G6 - t.fAt / c.G6).toNat (by rw[List.mem_range];omega)
 rw[show t.fAt / c.G6+(((j / c.G6 - t.fAt / c.G6).toNat:Nat):Int)=j / c.G6 by omega]at this
 exact List.contains_iff_mem.1 this
theorem A5e{a s j:Int}(hs:0<s)(h0:a*s≤j)(h1:j<a*s+s):j / s=a:=by
 have h2:a≤j / s:=(Int.le_ediv_iff_mul_le hs).2 h0
 have h3:j / s<a+1:=Int.ediv_lt_of_lt_mul hs (by rw[Int.add_mul,Int.one_mul];exact h1)
 omega
theorem A1x{a b:Bc}(h: ∀j,a.fAt≤j->j<a.fAt+a.Ajk->b.fAt≤j->j<b.fAt+b.Ajk->False):Amg a b=true:=by
 unfold Amg;rw[decide_eq_true_iff]
 by_cases h1:a.Ajk≤0
 ·exact .inl h1
 by_cases h2:b.Ajk≤0
 ·exact .inr (.inl h2)
 by_cases h3:a.fAt+a.Ajk≤b.fAt
 ·exact .inr (.inr (.inl h3))
 by_cases h4:b.fAt+b.Ajk≤a.fAt
 ·exact .inr (.inr (.inr h4))
 exfalso
 by_cases h5:a.fAt≤b.fAt
 ·exact h b.fAt h5 (by omega) (by omega) (by omega)
 ·exact h a.fAt (by omega) (by omega) (by omega) (by omega)
theorem Bb2{a b:Bc}(h:Amg a b=true){j:Int}(h1:a.fAt≤j)(h2:j<a.fAt+a.Ajk)(h3:b.fAt≤j)(h4:j<b.fAt+b.Ajk):False:=by
 unfold Amg at h;rw[decide_eq_true_iff]at h;omega
theorem Bab{l:List Bc}:Aod l=true ↔ l.Pairwise (fun a b=>Amg a b=true):=by
 unfold Aod;rw[Z1,List.pairwise_iff_getElem];constructor
 ·intro h i j hi hj hij
  have:=h j (by rw[List.mem_range];exact hj)
  rw[Z1]at this
  have h2:=this l[i] (by
   rw[List.mem_iff_getElem];exact⟨i,by simp;omega,by simp⟩)
  rwa[K1 hj]at h2
 ·intro h j hj;rw[List.mem_range]at hj;rw[Z1];intro o ho;obtain⟨i,hi,e⟩:=List.mem_iff_getElem.1 ho;simp only[List.length_take]at hi;simp only[List.getElem_take]at e;rw[K1 hj,←e];exact h i j (by omega) hj (by omega)
theorem A4w{l:List Bc}{t:Bc}(h:Aod l=true)(ht: ∀o∈l,Amg o t=true):Aod (l++[t])=true:=by
 rw[Bab]at h ⊢;rw[List.pairwise_append];exact⟨h,by simp,fun a ha b hb=>by rw[Px.1 hb];exact ht a ha⟩
theorem A4x{c:D9}{n:As}(L:Auc c n)(hc:0≤n.Acv∧n.Acv≤1000)(h0:n.Acv≠0):n.Acv - 1∈n.Ay∧0≤n.Sn∧n.Sn≤c.G6:=by
 have:=L.cur;unfold A4b at this;rw[Ag6 h0,cond_false,Z4,Acx,sb1 (by omega) (by omega)]at this
 exact⟨List.contains_iff_mem.1 this.1,this.2⟩
theorem Be4{c:D9}{ch ch':List Int}(h: ∀x∈ch,x∈ch'){t:Bc}(ht:Arh c ch t=true):Arh c ch' t=true:=by
 unfold Arh at ht ⊢;rw[Z4,Z1]at ht ⊢;exact⟨ht.1,fun j hj=>List.contains_iff_mem.2 (h _ (List.contains_iff_mem.1 (ht.2 j hj)))⟩
def A7l (c:D9)(n:As)(off size:Int):As:=As.mk n.Vg n.C8 n.Sj n.fUp n.Sk n.Ee n.Sl n.Sm n.Ay n.Acv (off+size) (n.F4++[Bc.mk ((n.Acv - 1)*c.G6+off) size 0]) n.Fh
structure Blt (c:D9)(n:As)(off size:Int):Prop where
 cur:n.Acv≠0
 ho:n.Sn≤off
 hz:1≤size
 fit:off+size≤c.G6
 cnt:n.F4.length<12
structure ThP (c:D9)(mem:List Int)(n:As):Prop where
 inch:n.F4.all (Arh c n.Ay)=true
 apart:Aod n.F4=true
 loose:Are c mem n=true
theorem Bb3{c:D9}{mem:List Int}{n:As}{off size:Int}(L:Auc c n)(hc:0≤n.Acv∧n.Acv≤1000)(T:ThP c mem n)(S:Blt c n off size):Auc c (A7l c n off size)∧ThP c mem (A7l c n off size):=by
 obtain⟨b1,b2,_⟩:=A1 L.conf;obtain⟨m1,m2,m3⟩:=A4x L hc S.cur
 have hm:=Aw7 L.dist _ m1
 have ho:=S.ho;have hz:=S.hz;have hf:=S.fit;have hn:=S.cnt
 have hlo:=T.loose;unfold Are at hlo;rw[Ag6 S.cur,Z52,Z4,Z1]at hlo;obtain⟨z1,z2⟩:=hlo
 have q0:0≤(n.Acv - 1)*c.G6:=Int.mul_nonneg (by omega) (by omega)
 have q1:(n.Acv - 1)*c.G6+c.G6≤c.Ay*c.G6:=by
  have:(n.Acv - 1+1)*c.G6≤c.Ay*c.G6:=Int.mul_le_mul_of_nonneg_right (by omega) (by omega)
  rw[Int.add_mul,Int.one_mul]at this;exact this
 have hby:Ak9 c=c.Ay*c.G6:=by unfold Ak9;rw[L.conf];rfl
 have d1:((n.Acv - 1)*c.G6+off) / c.G6=n.Acv - 1:=A5e (by omega) (by omega) (by omega)
 have d2:((n.Acv - 1)*c.G6+off+size - 1) / c.G6=n.Acv - 1:=A5e (by omega) (by omega) (by omega)
 have htb:App c (Bc.mk ((n.Acv - 1)*c.G6+off) size 0)=true:=by
  unfold App;rw[decide_eq_true (show Aw6 c (Bc.mk ((n.Acv - 1)*c.G6+off) size 0) from⟨L.conf,hz,by show 0≤_+off;omega,by rw[hby];show(n.Acv - 1)*c.G6+off+size≤_;omega⟩)]
  show(decide (size≤c.G6)&&(((n.Acv - 1)*c.G6+off) / c.G6==((n.Acv - 1)*c.G6+off+size - 1) / c.G6))=true;rw[d1,d2,decide_eq_true (by omega)];simp
 have htc:Arh c n.Ay (Bc.mk ((n.Acv - 1)*c.G6+off) size 0)=true:=by
  unfold Arh;rw[htb,Z30];simp only;rw[d1,d2,Int.sub_self,Z1];intro j hj;rw[List.mem_range]at hj;rw[show(j:Int)=0 by omega,Int.add_zero]
  exact List.contains_iff_mem.2 m1
 have hr: ∀o∈n.F4,∀j,o.fAt≤j->j<o.fAt+o.Ajk->(n.Acv - 1)*c.G6+n.Sn≤j->j<(n.Acv - 1)*c.G6+c.G6->False:=fun o h j h1 h2 h3 h4=>Bb2 (z2 o h) h1 h2 (b:=Auv c n) h3 (by show j<(n.Acv - 1)*c.G6+n.Sn+(c.G6 - n.Sn);omega)
 refine⟨⟨L.conf,L.st,L.gen,L.up,L.first,L.next,L.prev,L.ep,L.ue,L.dist,?_,?_,L.ntag,L.tags,?_⟩,⟨?_,?_,?_⟩⟩
 ·unfold A4b A7l;simp only;rw[Ag6 S.cur,cond_false,sb1 (by omega) (by omega),List.contains_iff_mem.2 m1,Acx.2 ⟨by omega,by omega⟩];rfl
 ·show(n.F4++[_]).length≤12;simp;omega
 ·show(n.F4++[_]).all (App c)=true;rw[List.all_append,L.things,Gc,htb];rfl
 ·show(n.F4++[_]).all (Arh c n.Ay)=true;rw[List.all_append,T.inch,Gc,htc];rfl
 ·refine A4w T.apart fun o h=>A1x fun j h1 h2 h3 h4=>hr o h j h1 h2 ?_ ?_
  ·have h3:(n.Acv - 1)*c.G6+off≤j:=h3;omega
  ·have h4:j<(n.Acv - 1)*c.G6+off+size:=h4;omega
 ·unfold Are;rw[Bool.or_eq_true,Z4];refine .inr ⟨?_,?_⟩
  ·rw[A26]at z1 ⊢;intro j h1 h2 h3
   have h1:((n.Acv - 1)*c.G6+(off+size)).toNat≤j:=h1
   have h2:j<((n.Acv - 1)*c.G6+(off+size)).toNat+(c.G6 - (off+size)).toNat:=h2;refine z1 j ?_ ?_ h3
   ·show((n.Acv - 1)*c.G6+n.Sn).toNat≤j;omega
   ·show j<((n.Acv - 1)*c.G6+n.Sn).toNat+(c.G6 - n.Sn).toNat;omega
  ·show(n.F4++[_]).all _=true;rw[List.all_append,Gc,Z4,Z4,Z1];refine⟨fun o h=>A1x fun j h1 h2 h3 h4=>hr o h j h1 h2 ?_ ?_,A1x fun j h1 h2 h3 h4=> ?_,rfl⟩
   ·have h3:(n.Acv - 1)*c.G6+(off+size)≤j:=h3;omega
   ·have h4:j<(n.Acv - 1)*c.G6+(off+size)+(c.G6 - (off+size)):=h4;omega
   ·have h2:j<(n.Acv - 1)*c.G6+off+size:=h2
    have h3:(n.Acv - 1)*c.G6+(off+size)≤j:=h3;omega
def A4y (a n:Int):List Int:=(List.range n.toNat).map (fun(i:Nat)=>a+(i:Int))
theorem A4z{a n x:Int}:x∈A4y a n ↔ a≤x∧x<a+n:=by
 unfold A4y;rw[Ex];constructor
 ·rintro⟨i,hi,e⟩;rw[List.mem_range]at hi;omega
 ·intro h;exact⟨(x - a).toNat,by rw[List.mem_range];omega,by omega⟩
theorem Bdo (a n:Int):(A4y a n).Nodup:=by
 unfold A4y;refine List.Pairwise.map _ (fun x y h=> ?_) List.nodup_range;omega
def A1j (c:D9)(n:As)(a run size:Int):As:=As.mk n.Vg n.C8 n.Sj n.fUp n.Sk n.Ee n.Sl n.Sm (n.Ay++A4y a run) n.Acv n.Sn (n.F4++[Bc.mk (a*c.G6) size run]) n.Fh
structure Bdp (c:D9)(n:As)(a run size:Int):Prop where
 hz:c.G6<size∧size≤200
 hr:run=Atd size c.G6
 at_:0≤a∧a+run≤c.Ay
 new: ∀x∈n.Ay,¬(a≤x∧x<a+run)
 cnt:n.F4.length<12
theorem Bb4{c:D9}{mem:List Int}{n:As}{a run size:Int}(L:Auc c n)(hc:0≤n.Acv∧n.Acv≤1000)(T:ThP c mem n)(S:Bdp c n a run size):Auc c (A1j c n a run size)∧ThP c mem (A1j c n a run size):=by
 obtain⟨b1,b2,_⟩:=A1 L.conf
 have hz:=S.hz;have ha:=S.at_;have hn:=S.cnt
 have hrun:run=(size+c.G6 - 1) / c.G6:=by
  rw[S.hr];unfold Atd;rw[Acx.2 ⟨by omega,by omega⟩,Acx.2 ⟨by omega,by omega⟩];rfl
 have hru:size≤run*c.G6:=by
  have:=Int.lt_ediv_add_one_mul_self (size+c.G6 - 1) (show 0<c.G6 by omega)
  rw[←hrun,Int.add_mul,Int.one_mul]at this;omega
 have hr1:1≤run:=by
  rw[hrun];exact(Int.le_ediv_iff_mul_le (by omega)).2 (by omega)
 have q0:0≤a*c.G6:=Int.mul_nonneg (by omega) (by omega)
 have q1:a*c.G6+run*c.G6≤c.Ay*c.G6:=by
  rw[←Int.add_mul];exact Int.mul_le_mul_of_nonneg_right (by omega) (by omega)
 have hby:Ak9 c=c.Ay*c.G6:=by unfold Ak9;rw[L.conf];rfl
 have htb:App c (Bc.mk (a*c.G6) size run)=true:=by
  unfold App;rw[decide_eq_true (show Aw6 c (Bc.mk (a*c.G6) size run) from⟨L.conf,by show 1≤size;omega,q0,by rw[hby];show a*c.G6+size≤_;omega⟩)]
  show(bif run==0 then _ else decide (size>c.G6)&&(run==Atd size c.G6&&(a*c.G6) % c.G6==0))=true
  rw[Ag6 (by omega),cond_false,decide_eq_true (by omega),←S.hr,Int.mul_emod_left];simp
 have hdv: ∀j,a*c.G6≤j->j<a*c.G6+size->a≤j / c.G6∧j / c.G6<a+run:=fun j h1 h2=>by
  refine⟨(Int.le_ediv_iff_mul_le (by omega)).2 h1,Int.ediv_lt_of_lt_mul (by omega) ?_⟩
  rw[Int.add_mul];omega
 have htc:Arh c (n.Ay++A4y a run) (Bc.mk (a*c.G6) size run)=true:=by
  unfold Arh;rw[htb,Z30,Z1];intro j hj;rw[List.mem_range]at hj
  have e1:=hdv (a*c.G6) (Int.le_refl _) (by omega)
  have e2:=hdv (a*c.G6+size - 1) (by omega) (by omega)
  have hj:j<((a*c.G6+size - 1) / c.G6 - a*c.G6 / c.G6+1).toNat:=hj;refine List.contains_iff_mem.2 (Mh.2 (.inr (A4z.2 ?_)))
  show a≤a*c.G6 / c.G6+(j:Int)∧a*c.G6 / c.G6+(j:Int)<a+run;omega
 have hmono: ∀x∈n.Ay,x∈n.Ay++A4y a run:=fun x h=>Mh.2 (.inl h)
 have hold: ∀o∈n.F4,∀j,o.fAt≤j->j<o.fAt+o.Ajk->a*c.G6≤j->j<a*c.G6+size->False:=fun o h j h1 h2 h3 h4=>S.new _ (A7k (Z1.1 T.inch o h) h1 h2) (hdv j h3 h4)
 have hd:=A1v.1 L.dist;refine⟨⟨L.conf,L.st,L.gen,L.up,L.first,L.next,L.prev,L.ep,L.ue,?_,?_,?_,L.ntag,L.tags,?_⟩,⟨?_,?_,?_⟩⟩
 ·refine A1v.2 ⟨Aim.2 ⟨hd.1,Bdo _ _,fun x h1 h2=>S.new x h1 (A4z.1 h2)⟩,fun x hx=> ?_⟩;rcases Mh.1 hx with h|h
  ·exact hd.2 x h
  ·have:=A4z.1 h;omega
 ·have:=L.cur;unfold A4b at this ⊢
  show(bif n.Acv==0 then n.Sn==0 else(n.Ay++A4y a run).contains (An4 .i64 n.Acv 1)&&inB n.Sn 0 c.G6)=true
  cases e:n.Acv==0 with
  |true=>rw[e]at this;exact this
  |false=>
   rw[e,cond_false,Z4]at this;rw[cond_false,this.2,Bool.and_true];exact List.contains_iff_mem.2 (hmono _ (List.contains_iff_mem.1 this.1))
 ·show(n.F4++[_]).length≤12;simp;omega
 ·show(n.F4++[_]).all (App c)=true;rw[List.all_append,L.things,Gc,htb];rfl
 ·show(n.F4++[_]).all (Arh c (n.Ay++A4y a run))=true;rw[List.all_append,Gc,htc,Z4,Z1];exact⟨fun o h=>Be4 hmono (Z1.1 T.inch o h),rfl⟩
 ·exact A4w T.apart fun o h=>A1x fun j h1 h2 h3 h4=>hold o h j h1 h2 h3 h4
 ·have hlo:=T.loose;unfold Are at hlo ⊢;rw[Bool.or_eq_true,Z4]at hlo ⊢;rcases hlo with h|⟨h,h'⟩
  ·exact .inl h
  ·by_cases e:n.Acv=0
   ·exact .inl (by show(n.Acv==0)=true;rw[e];rfl)
   ·refine .inr ⟨h,?_⟩
    show(n.F4++[_]).all (fun t=>Amg t (Auv c n))=true;rw[List.all_append,h',Gc,Z30,Z4];refine⟨A1x fun j h1 h2 h3 h4=> ?_,rfl⟩;obtain⟨m1,m2,m3⟩:=A4x L hc e
    have h3:(n.Acv - 1)*c.G6+n.Sn≤j:=h3
    have h4:j<(n.Acv - 1)*c.G6+n.Sn+(c.G6 - n.Sn):=h4
    have:=A5e (a:=n.Acv - 1) (s:=c.G6) (j:=j) (by omega) (by omega) (by omega)
    exact S.new _ m1 (by rw[←this];exact hdv j h1 h2)
def A36 (al:Int):Bool:=al==1||(al==2||al==4)
theorem A2a (K:Nat)(al:Int):Aq8 K al=some (A36 al):=by
 unfold Aq8 A36;cases al==1<;>cases al==2<;>rfl
theorem Bb5{al:Int}(h:A36 al=true):al=1∨al=2∨al=4:=by
 unfold A36 at h
 rwa[Bool.or_eq_true,Bool.or_eq_true,beq_iff_eq,beq_iff_eq,beq_iff_eq]at h
theorem Bdq (K:Nat){b al:Int}(hb:0≤b∧b≤1000)(ha:A36 al=true): ∃off,Axv K b al=some off∧b≤off∧off≤2000:=by
 unfold Axv;rw[Ani,Acx.2 ⟨by omega,by omega⟩,A2a,ha]
 simp only[Z0,cond_true,Bool.not_true,cond_false]
 have e:An4 .i64 (An3 .i64 b al) 1=b+al - 1:=by
  have:=Bb5 ha;unfold An4 An3;rw[Gy (n:=b+al) (by omega) (by omega),Gy (by omega) (by omega)]
 rw[e]
 have key: ∀a:Int,1≤a->a≤4->An5 .i64 (Ali .i64 (b+a - 1) a) a=(b+a - 1) / a*a:=by
  intro a h1 h2
  have h3:(b+a - 1) / a≤b+a - 1:=Int.ediv_le_self _ (by omega)
  have h4:0≤(b+a - 1) / a:=Int.ediv_nonneg (by omega) (by omega)
  have h5:=Aut (a:=(b+a - 1) / a) (b:=a) (m:=2000) (n:=4) h4 (by omega) (by omega) h2
  unfold Ali An5;rw[Int.tdiv_eq_ediv_of_nonneg (by omega),Gy (n:=(b+a - 1) / a) (by omega) (by omega),Gy (by omega) (by omega)]
 rcases Bb5 ha with h|h|h
 ·subst h;rw[if_pos (by decide),key 1 (by omega) (by omega)]
  exact⟨_,rfl,by omega,by omega⟩
 ·subst h;rw[if_pos (by decide),key 2 (by omega) (by omega)]
  exact⟨_,rfl,by omega,by omega⟩
 ·subst h;rw[if_pos (by decide),key 4 (by omega) (by omega)]
  exact⟨_,rfl,by omega,by omega⟩
section
variable {K:Nat} (hK:281474976710656≤K)
include hK
theorem A8u{c:D9}{n:As}(L:Auc c n)(W:Ap5 n)(hc:0≤n.Acv∧n.Acv≤1000)(size al:Int)(hs: -1000000≤size∧size≤1000000): ∃at_ b,Av9 K c n size al=some (at_,b)∧(b=true-> ∃off,at_=(n.Acv - 1)*c.G6+off∧n.Acv≠0∧n.Sn≤off∧1≤size∧off+size≤c.G6):=by
 obtain⟨b1,b2,_⟩:=A1 L.conf
 have h1:=Ar3 L.conf L.dist
 have h3:=L.nth
 have h4:=L.ntag;unfold Av9;rw[Avf hK c n (by omega) (by omega) (by omega),(Aiq.2 L).1]
 simp only[Z0,cond_true]
 by_cases q:n.Acv=0
 ·rw[q];exact⟨_,_,rfl,fun h=>by cases h⟩
 ·rw[Ag6 q,Ani];simp only[cond_false,Z0]
  by_cases q2:1≤size∧size≤c.G6
  ·rw[Acx.2 q2,A2a];simp only[cond_true,Z0];cases ha:A36 al with
   |false=>exact⟨_,_,rfl,fun h=>by cases h⟩
   |true=>
    obtain⟨m1,m2,m3⟩:=A4x L hc q
    have hm:=Aw7 L.dist _ m1;obtain⟨off,eo,ho1,ho2⟩:=Bdq K (b:=n.Sn) ⟨m2,by omega⟩ ha
    simp only[Bool.not_true,cond_false];rw[eo,Z0]
    have e1:An3 .i64 off size=off+size:=by unfold An3;exact Gy (by omega) (by omega)
    have e2:An4 .i64 n.Acv 1=n.Acv - 1:=sb1 (by omega) (by omega)
    have h5:=Aut (a:=n.Acv - 1) (b:=c.G6) (m:=12) (n:=16) (by omega) (by omega) (by omega) b2.2
    have e3:An5 .i64 (n.Acv - 1) c.G6=(n.Acv - 1)*c.G6:=by unfold An5;exact Gy (by omega) (by omega)
    have e4:An3 .i64 ((n.Acv - 1)*c.G6) off=(n.Acv - 1)*c.G6+off:=by unfold An3;exact Gy (by omega) (by omega)
    rw[e1,e2,e3,e4]
    by_cases q3:off+size>c.G6
    ·rw[decide_eq_true q3];exact⟨_,_,rfl,fun h=>by cases h⟩
    ·rw[decide_eq_false q3];exact⟨_,_,rfl,fun _=>⟨off,rfl,q,ho1,q2.1,by omega⟩⟩
  ·rw[A58.2 q2];exact⟨_,_,rfl,fun h=>by cases h⟩
theorem A50{c:D9}{n:As}(L:Auc c n)(W:Ap5 n)(hc:0≤n.Acv∧n.Acv≤1000)(size al:Int)(hs: -1000000≤size∧size≤1000000): ∃n' b,Aty K c n size al=some (n',b)∧(n'=n∨ ∃off,Blt c n off size∧n'=A7l c n off size):=by
 have hm:=P2;obtain⟨b1,b2,_⟩:=A1 L.conf
 have h3:=L.nth;obtain⟨at_,b,e,hb⟩:=A8u hK L W hc size al hs;unfold Aty;rw[Atn K W,Z0,e,Z0];cases b with
 |false=>exact⟨_,_,rfl,.inl rfl⟩
 |true=>
  obtain⟨off,e1,h1,h2,h4,h5⟩:=hb rfl;obtain⟨m1,m2,m3⟩:=A4x L hc h1
  have hmi:=Aw7 L.dist _ m1;simp only[cond_true]
  by_cases q:(n.F4.length:Int)≥12
  ·rw[decide_eq_true q];exact⟨_,_,rfl,.inl rfl⟩
  ·rw[decide_eq_false q];simp only[cond_false];rw[if_pos ⟨by simp;omega,by simp;omega⟩]
   refine⟨_,_,rfl,.inr ⟨off,⟨h1,h2,h4,h5,by omega⟩,?_⟩⟩
   have e2:An4 .i64 n.Acv 1=n.Acv - 1:=sb1 (by omega) (by omega)
   have h6:=Aut (a:=n.Acv - 1) (b:=c.G6) (m:=12) (n:=16) (by omega) (by omega) (by omega) b2.2
   have e3:An5 .i64 (n.Acv - 1) c.G6=(n.Acv - 1)*c.G6:=by unfold An5;exact Gy (by omega) (by omega)
   have e4:An4 .i64 at_ ((n.Acv - 1)*c.G6)=off:=by unfold An4;rw[e1,Gy (by omega) (by omega)];omega
   have e5:An3 .i64 off size=off+size:=by unfold An3;exact Gy (by omega) (by omega)
   rw[e2,e3,e4,e5,e1];rfl
theorem Blu{c:D9}{n:As}(L:Auc c n)(W:Ap5 n)(hc:0≤n.Acv∧n.Acv≤1000)(size al:Int)(hs: -1000000≤size∧size≤1000000): ∃b,Aun K c n size al=some b:=by
 have h1:=Ar3 L.conf L.dist
 have h3:=L.nth
 have h4:=L.ntag;obtain⟨at_,b,e,hb⟩:=A8u hK L W hc size al hs;unfold Aun;rw[e,Avf hK c n (by omega) (by omega) (by omega),(Aiq.2 L).1,Ani,A2a,L.st]
 simp only[Z0];cases b<;>cases inB size 1 c.G6<;>exact⟨_,rfl⟩
theorem Bb6{c:D9}{mem:List Int}{n:As}(L:Auc c n)(W:Ap5 n)(hc:0≤n.Acv∧n.Acv≤1000)(T:ThP c mem n){a run size:Int}(S:Bdp c n a run size):Aqf K c n a size=some (A1j c n a run size,true):=by
 have hm:=P2;obtain⟨b1,b2,_⟩:=A1 L.conf
 have h1:=Ar3 L.conf L.dist
 have h3:=L.nth
 have h4:=L.ntag
 have hz:=S.hz;have ha:=S.at_;obtain⟨L2,T2⟩:=Bb4 L hc T S
 have hrun:run=(size+c.G6 - 1) / c.G6:=by
  rw[S.hr];unfold Atd;rw[Acx.2 ⟨by omega,by omega⟩,Acx.2 ⟨by omega,by omega⟩];rfl
 have hru:size≤run*c.G6:=by
  have:=Int.lt_ediv_add_one_mul_self (size+c.G6 - 1) (show 0<c.G6 by omega)
  rw[←hrun,Int.add_mul,Int.one_mul]at this;omega
 have hr1:1≤run:=by
  rw[hrun];exact(Int.le_ediv_iff_mul_le (by omega)).2 (by omega)
 have q1:run*c.G6≤c.Ay*c.G6:=Int.mul_le_mul_of_nonneg_right (by omega) (by omega)
 have hby:Ak9 c=c.Ay*c.G6:=by unfold Ak9;rw[L.conf];rfl
 have e3:An5 .i64 a c.G6=a*c.G6:=by
  have h5:=Aut (a:=a) (b:=c.G6) (m:=12) (n:=16) (by omega) (by omega) (by omega) b2.2
  unfold An5;exact Gy (by omega) (by omega)
 unfold Aqf Ao5 Aly;rw[Atn K W,Z0,Aqw,L.conf];simp only[Z0,cond_true];rw[show(n.Vg != 1)=false by rw[L.st];rfl,cond_false,decide_eq_true (by omega),cond_true,Atq,Z0,decide_eq_false (by omega),cond_false,Ani,Ayr hK L.conf,Acx.2 ⟨by omega,by omega⟩]
 simp only[Z0,Bool.not_true,cond_false];rw[A0a,Z0,←S.hr,Z0]
 have key: ∀(f i:Nat) (v:List Int),(i:Int)≤run->run.toNat - i<f->v=n.Ay++(List.range i).map (fun(j:Nat)=>a+(j:Int))->Am8 K c a size run f (i:Int) (As.mk n.Vg n.C8 n.Sj n.fUp n.Sk n.Ee n.Sl n.Sm v n.Acv n.Sn n.F4 n.Fh) (As.mk 0 0 0 0 0 0 0 0 [] 0 0 [] []) n.Vg n.C8 n.Sj n.fUp n.Sk n.Ee n.Sl n.Sm n.Ay n.Acv n.Sn n.F4 n.Fh=some (A1j c n a run size,true):=by
  intro f
  induction f with
  |zero=>intro i v _ h;omega
  |succ f ih=>
   intro i v hi hf hv
   have hvl:v.length=n.Ay.length+i:=by rw[hv];simp
   rw[Am8]
   by_cases h:(i:Int)=run
   ·rw[decide_eq_false (by omega),cond_false,e3]
    simp only;rw[if_pos ⟨by simp;omega,by simp;omega⟩]
    have el:As.mk n.Vg n.C8 n.Sj n.fUp n.Sk n.Ee n.Sl n.Sm v n.Acv n.Sn (n.F4++[Bc.mk (a*c.G6) size run]) n.Fh=A1j c n a run size:=by
     unfold A1j A4y;rw[hv,←h,Int.toNat_natCast]
    have hl2:=L2.nth
    have hl3:=Ar3 L2.conf L2.dist;rw[el,Avf hK c (A1j c n a run size) (by omega) (by omega) (show n.Fh.length≤_ by omega),(Aiq.2 L2).1]
    rfl
   ·have e1:An3 .i64 a (i:Int)=a+(i:Int):=by unfold An3;exact Gy (by omega) (by omega)
    rw[decide_eq_true (by omega),cond_true,e1,Ad5 (by omega)]
    simp only;rw[if_pos ⟨by simp;omega,by simp;omega⟩]
    refine ih (i+1) _ (by omega) (by omega) ?_
    rw[hv,List.range_succ,Vs,Z31];rfl
 have:=key K 0 n.Ay (by omega) (by omega) (by simp)
 exact this
end
theorem A3d{w:C4}{E:Int}{n:Nat}(G:Dx w E n){k:Int}(hk:AlW w.fL k){p':Dm}{n':As}
  (P':A5w w.fC p') (hone: ∀c,0≤c∧c<w.fC.Ay->(gt p'.Vg c=2 ↔ gt w.fP.Vg c=2)∧(gt p'.Vg c=1∧gt p'.N6 c=k ↔ c∈n'.Ay)∧ ∀x,x≠k->(gt p'.Vg c=1∧gt p'.N6 c=x ↔ gt w.fP.Vg c=1∧gt w.fP.N6 c=x))
  (hm:p'.N5=w.fP.N5) (hlk:A22 n'=A22 (gt w.fL k)) (L:Auc w.fC n') (T:ThP w.fC w.fP.N5 n') (he:EpP E n') {m:Nat} (hwt:wtN w.fC n'≤wtN w.fC (gt w.fL k)+m):
  Dx (C4.mk w.fC p' (w.fL.set k.toNat n') w.fQ w.Acw) E (n+m)∧AlW (w.fL.set k.toNat n') k∧gt (w.fL.set k.toNat n') k=n':=by
 obtain⟨t,A,F⟩:=G.inv.forest
 have al:=hk.al A
 have hki:=al.lv.1
 have hst:=((Av1 A).1 al.lv).2
 have hg: ∀x,0≤x∧x<(w.fL.length:Int)->gt (w.fL.set k.toNat n') x=if x=k then n' else gt w.fL x:=fun x hx=>Aps hki hx n'
 have hgk:gt (w.fL.set k.toNat n') k=n':=Avz hki n'
 have A':AtT (w.fL.set k.toNat n') t:=fun x hx=>by
  rw[Z49]at hx;rw[hg x hx,A x hx]
  by_cases e:x=k
  ·rw[if_pos e,e,hlk]
  ·rw[if_neg e]
 have I':Inv (C4.mk w.fC p' (w.fL.set k.toNat n') w.fQ w.Acw):=by
  refine Be2 G.inv hki p' _ t (by simp) (fun x hx hne=>⟨_,_,_,by rw[hg x hx,if_neg hne];exact(A7h _).symm,?_,?_,?_⟩) (by omega) (by rw[hgk];exact L) A' F P' hm (by rw[hgk];exact hone) (by rw[hgk];exact⟨T.inch,T.apart,T.loose⟩)
  ·rw[←G.inv.len];exact(G.inv.rg.rg x hx).2.1
  ·rw[←G.inv.len];exact(G.inv.rg.rg x hx).2.2.1
  ·rw[←G.inv.len];exact(G.inv.rg.rg x hx).2.2.2
 refine⟨⟨I',by show ∀x∈p'.N5,_;rw[hm];exact G.mem,fun x hx=> ?_,?_⟩,⟨t,A',by rw[Z49];exact al⟩,hgk⟩
 ·have hx:0≤x∧x<((w.fL.set k.toNat n').length:Int):=hx;rw[Z49]at hx
  show EpP E (gt (w.fL.set k.toNat n') x);rw[hg x hx];split
  ·exact he
  ·exact G.ep x hx
 ·have hs:=A27 (f:=wtN w.fC) (l:=w.fL) (l':=w.fL.set k.toNat n') (by simp) hki fun x hx hne=>by rw[hg x hx,if_neg hne]
  rw[hgk]at hs
  have h3:=G.wt;unfold wt pot at h3 ⊢;simp only at h3 ⊢;omega
theorem Dx.live{w:C4}{E:Int}{n:Nat}(G:Dx w E n){k:Int}(hk:AlW w.fL k):(0≤k∧k<(w.fL.length:Int))∧Auc w.fC (gt w.fL k)∧ThP w.fC w.fP.N5 (gt w.fL k)∧EpP E (gt w.fL k):=by
 obtain⟨t,A,F⟩:=G.inv.forest
 have al:=(hk.al A).lv;obtain⟨t1,t2,t3⟩:=G.inv.thing k al.1;exact⟨al.1,G.inv.live A al,⟨t1,t2,t3⟩,G.ep k al.1⟩
theorem A7m{w:C4}(I:Inv w){k:Int}(hk:0≤k∧k<(w.fL.length:Int)){ch:List Int}(h:ch=(gt w.fL k).Ay): ∀c,0≤c∧c<w.fC.Ay->(gt w.fP.Vg c=2 ↔ gt w.fP.Vg c=2)∧(gt w.fP.Vg c=1∧gt w.fP.N6 c=k ↔ c∈ch)∧ ∀x,x≠k->(gt w.fP.Vg c=1∧gt w.fP.N6 c=x ↔ gt w.fP.Vg c=1∧gt w.fP.N6 c=x):=fun c hc=>⟨Iff.rfl,by rw[h,I.own k hk c];exact⟨fun a=>⟨hc,a⟩,fun a=>a.2⟩,fun _ _=>Iff.rfl⟩
theorem A8v{w:C4}(I:Inv w){p':Dm}{a n k:Int}(hk:0≤k∧k<(w.fL.length:Int))(hf:A1f w.fP a n=true)(T:Bg0 w.fP p' a n k){ch:List Int}(h: ∀c,c∈ch ↔ c∈(gt w.fL k).Ay∨a≤c∧c<a+n):
  A5w w.fC p'∧ ∀c,0≤c∧c<w.fC.Ay->(gt p'.Vg c=2 ↔ gt w.fP.Vg c=2)∧(gt p'.Vg c=1∧gt p'.N6 c=k ↔ c∈ch)∧ ∀x,x≠k->(gt p'.Vg c=1∧gt p'.N6 c=x ↔ gt w.fP.Vg c=1∧gt w.fP.N6 c=x):=by
 obtain⟨a1,a2⟩:=A8s I hk hf T;exact⟨a1,fun c hc=>⟨(a2 c hc).1,by rw[h c];exact(a2 c hc).2.1,(a2 c hc).2.2⟩⟩
section
variable {K:Nat} (hK:281474976710656≤K)
include hK
theorem A8w{E:Int}{n:Nat}(hE:0≤E∧E≤900000000)(hn:n≤900000000){w:C4}(G:Dx w E n){k:Int}(hk:AlW w.fL k)(size al:Int)(hs: -1000000≤size∧size≤1000000)(v19:Es)(v20 v21 v22 v23 v24 v25 v26:Int)(v27:List Int)(v28 v29 v30:Int):
  ∃r w',Art K k size al w.fC.Ay w.fC.G6 w.fC.E5 w.fC.Gs w.fC.E6 w.fC.G7 w.fP.N5 w.fP.Vg w.fP.N6 w.fL w.fQ w.Acw v19 v20 v21 v22 v23 v24 v25 v26 v27 v28 v29 v30=some (r,w')∧Dx w' E n∧w'.fC=w.fC∧w'.fL.length=w.fL.length:=by
 obtain⟨hki,L,T,e⟩:=G.live hk
 have W:=A19 (Aiq.2 L).1 e (by omega)
 obtain⟨n',b,e1,h⟩:=A50 hK L W e.cur size al hs;unfold Art;simp only[if_pos hki];rw[show D9.mk w.fC.Ay w.fC.G6 w.fC.E5 w.fC.Gs w.fC.E6 w.fC.G7=w.fC from rfl,e1,Z0]
 have P:=Akq.1 G.inv.pool;refine⟨_,_,rfl,?_,rfl,by simp⟩
 rcases h with h|⟨off,S,h⟩
 ·rw[h];exact(A3d G hk (n':=gt w.fL k) (m:=0) P (A7m G.inv hki rfl) rfl rfl L T e (by omega)).1
 ·rw[h];obtain⟨L2,T2⟩:=Bb3 L e.cur T S;exact(A3d G hk (n':=A7l w.fC (gt w.fL k) off size) (m:=0) P (A7m G.inv hki rfl) rfl rfl L2 T2 ⟨e.ep,e.ue,e.cur⟩ (Z9 _)).1
theorem Blv{E:Int}{n:Nat}(hE:0≤E∧E≤900000000)(hn:n≤880000000){w:C4}(G:Dx w E n){k:Int}(hk:AlW w.fL k)(size al:Int)(hs: -1000000≤size∧size≤1000000)(a4:Es):
  ∃r w',Awp K w k size al a4=some (r,w')∧Dx w' E (n+16)∧w'.fC=w.fC∧w'.fL.length=w.fL.length:=by
 obtain⟨hki,L,T,e⟩:=G.live hk
 have W:=A19 (Aiq.2 L).1 e (by omega)
 have WW:=G.ww (by omega) (by omega)
 have hlen:=G.inv.len;obtain⟨b1,b2,b3,b4,b5,b6⟩:=A1 G.inv.conf;obtain⟨nb,e1⟩:=Blu hK L W e.cur size al hs;unfold Awp;simp only[if_pos hki];rw[e1,Z0];cases nb with
 |false=>
  simp only[cond_false];obtain⟨r,w',h1,h2,h3⟩:=A8w hK hE (by omega) G hk size al hs (Es.mk 0 (Am.mk 0 0) (Bq.mk (Am.mk 0 0) 0 0) [] 0 0 0) a4.Wz a4.fH.Bk a4.fH.C8 a4.fR.fH.Bk a4.fR.fH.C8 a4.fR.Sj a4.fR.fNo a4.fB a4.W3 a4.Gs a4.N7
  exact⟨r,w',h1,Dx.le h2 (Int.le_refl E) (by omega),h3⟩
 |true=>
  simp only[cond_true];obtain⟨fb,ef⟩:=A29 hK WW (by omega) 1
  rw[ef,Z0];cases fb with
  |false=>exact⟨_,_,rfl,Dx.le G (Int.le_refl E) (by omega),rfl,rfl⟩
  |true=>
   simp only[Bool.not_true,cond_false];obtain⟨d,w1,ed,S⟩:=Bdm hK (by omega:0≤E∧E≤1000000000) (by omega) 0 (run:=1) (by omega) G
   have G1:=S.good;obtain⟨hk1,⟨x1,x2,x3,hnode⟩,_⟩:=S.stay.node k hk;obtain⟨hki1,L1,T1,e1⟩:=G1.live hk1
   have W1:=A19 (Aiq.2 L1).1 e1 (by omega)
   have WW1:=G1.ww (by omega) (by omega)
   have P1:=Akq.1 G1.inv.pool
   have hst:=P1.st
   have how:=P1.own
   have hc1:=S.stay.conf;obtain⟨ch,ec,hch⟩:=A4v hK (p:=w1.fP) (by rw[hc1]at hst;omega)
   rw[ed,Z0];simp only;rw[ec,Z0]
   by_cases q:ch<0
   ·rw[decide_eq_true q];exact⟨_,_,rfl,Dx.le G1 (Int.le_refl E) (by omega),hc1,S.stay.len⟩
   ·rw[decide_eq_false q];simp only[cond_false]
    have hf:=hch.resolve_left (by omega)
    obtain⟨f1,f2,f3,f4⟩:=Axj.1 hf;obtain⟨p',ep,T'⟩:=A35 hK WW1.p (by rw[hc1]at hst;omega) (by omega) (k:=k) hf
    have hnew:ch ∉ (gt w1.fL k).Ay:=fun h=>by
     have:=((G1.inv.own k hki1 ch).1 h).2.1;rw[f4 ch ⟨by omega,by omega⟩]at this
     cases this
    rw[ep,Z0];simp only[if_pos hki1];rw[A5d hK L1 W1 ⟨f1,by omega⟩ hnew,Z0]
    simp only[if_pos hki1];obtain⟨P',hone⟩:=A8v G1.inv hki1 hf T' (ch:=(A3b (gt w1.fL k) ch).Ay) fun c=>by
     show c∈(gt w1.fL k).Ay++[ch] ↔ _;rw[Mh,Px];exact or_congr_right (by omega)
    have T2:ThP w1.fC w1.fP.N5 (A3b (gt w1.fL k) ch):=by
     refine⟨?_,T1.apart,?_⟩
     ·rw[Z1];exact fun o ho=>Be4 (fun x hx=>Mh.2 (.inl hx)) (Z1.1 T1.inch o ho)
     ·refine A5z rfl rfl ((P1.one ch ⟨f1,by omega⟩).2.2.2 (f4 ch ⟨by omega,by omega⟩)) ?_
      rw[Z1];intro o ho;refine A1x fun j h1 h2 h3 h4=> ?_
      have h3:(ch+1 - 1)*w1.fC.G6+0≤j:=h3
      have h4:j<(ch+1 - 1)*w1.fC.G6+0+(w1.fC.G6 - 0):=h4;rw[Int.add_sub_cancel]at h3 h4
      have:=A5e (a:=ch) (s:=w1.fC.G6) (j:=j) (by rw[hc1];omega) (by omega) (by omega)
      have h5:=A7k (Z1.1 T1.inch o ho) h1 h2;rw[this]at h5;exact hnew h5
    obtain⟨G2,hk2,hg2⟩:=A3d G1 hk1 (n':=A3b (gt w1.fL k) ch) (m:=16) P' hone T'.mem rfl (A5c L1 ⟨f1,by omega⟩ hnew) T2 ⟨e1.ep,e1.ue,⟨by show 0≤ch+1;omega,by show ch+1≤_;rw[hc1]at hst;omega⟩⟩ (by
     have hz:w1.fC.G6.toNat≤16:=by rw[hc1];omega
     have hst1:(A3b (gt w1.fL k) ch).Vg=1:=L1.st;unfold wtN;rw[if_pos L1.st,if_pos hst1]
     show 2+(gt w1.fL k).Fh.length+w1.fC.G6.toNat*((gt w1.fL k).Ay++[ch]).length≤_;rw[Z23,List.length_singleton,Nat.mul_succ];omega)
    obtain⟨r,w',h1,h2,h3,h4⟩:=A8w hK hE (n:=n+16) (by omega) G2 hk2 size al hs (Es.mk 0 (Am.mk 0 0) (Bq.mk (Am.mk 0 0) 0 0) [] 0 0 0) a4.Wz a4.fH.Bk a4.fH.C8 a4.fR.fH.Bk a4.fR.fH.C8 a4.fR.Sj a4.fR.fNo a4.fB a4.W3 a4.Gs d
    refine⟨r,w',h1,h2,h3.trans hc1,h4.trans ?_⟩
    show(w1.fL.set _ _).length=_;rw[Z49];exact S.stay.len
theorem Blw{E:Int}{n:Nat}(hE:0≤E∧E≤900000000)(hn:n≤900000000){w:C4}(G:Dx w E n){k:Int}(hk:AlW w.fL k)(size:Int)(hs:w.fC.G6<size∧size≤200)(hcnt:(gt w.fL k).F4.length<12)(a4:Es):
  ∃r w',Awo K w k size a4=some (r,w')∧Dx w' E (n+192)∧w'.fC=w.fC∧w'.fL.length=w.fL.length:=by
 have WW:=G.ww (by omega) (by omega)
 have hlen:=G.inv.len;obtain⟨b1,b2,b3,b4,b5,b6⟩:=A1 G.inv.conf;unfold Awo Aly;rw[A0a,Z0,Z0];obtain⟨fb,ef⟩:=A29 hK WW (by omega) (Atd size w.fC.G6)
 have hrun:Atd size w.fC.G6=(size+w.fC.G6 - 1) / w.fC.G6:=by
  unfold Atd;rw[Acx.2 ⟨by omega,by omega⟩,Acx.2 ⟨by omega,by omega⟩];rfl
 have hr2:Atd size w.fC.G6≤1000:=by
  have:(size+w.fC.G6 - 1) / w.fC.G6≤size+w.fC.G6 - 1:=Int.ediv_le_self _ (by omega)
  omega
 have hr1:1≤Atd size w.fC.G6:=by
  rw[hrun];exact(Int.le_ediv_iff_mul_le (by omega)).2 (by omega)
 rw[ef,Z0];cases fb with
 |false=>exact⟨_,_,rfl,Dx.le G (Int.le_refl E) (by omega),rfl,rfl⟩
 |true=>
  simp only[Bool.not_true,cond_false];obtain⟨d,w1,ed,S⟩:=Bdm hK (by omega:0≤E∧E≤1000000000) (by omega) 0 (run:=Atd size w.fC.G6) (by omega) G
  have G1:=S.good;obtain⟨hk1,⟨x1,x2,x3,hnode⟩,_⟩:=S.stay.node k hk;obtain⟨hki1,L1,T1,e1⟩:=G1.live hk1
  have W1:=A19 (Aiq.2 L1).1 e1 (by omega)
  have WW1:=G1.ww (by omega) (by omega)
  have P1:=Akq.1 G1.inv.pool
  have hst:=P1.st
  have how:=P1.own
  have hc1:=S.stay.conf;rw[hc1]at hst how;obtain⟨at_,ec,hat⟩:=A5y hK (p:=w1.fP) (n:=Atd size w.fC.G6) (by omega) (by omega)
  rw[ed,Z0];simp only;rw[ec,Z0]
  by_cases q:at_<0
  ·rw[decide_eq_true q];exact⟨_,_,rfl,Dx.le G1 (Int.le_refl E) (by omega),hc1,S.stay.len⟩
  ·rw[decide_eq_false q];simp only[cond_false]
   have hf:=hat.resolve_left (by omega)
   obtain⟨f1,f2,f3,f4⟩:=Axj.1 hf;obtain⟨p',ep,T'⟩:=A35 hK WW1.p (by omega) (by omega) (k:=k) hf
   have SP:Bdp w1.fC (gt w1.fL k) at_ (Atd size w.fC.G6) size:=by
    refine⟨by rw[hc1];exact hs,by rw[hc1],by rw[hc1];omega,fun x hx h=> ?_,by rw[hnode];exact hcnt⟩
    have:=((G1.inv.own k hki1 x).1 hx).2.1;rw[f4 x h]at this;cases this
   obtain⟨L2,T2⟩:=Bb4 L1 e1.cur T1 SP;rw[ep,Z0];simp only[if_pos hki1];rw[Bb6 hK L1 W1 e1.cur T1 SP,Z0]
   try simp only[if_pos hki1]
   obtain⟨P',hone⟩:=A8v G1.inv hki1 hf T' (ch:=(A1j w1.fC (gt w1.fL k) at_ (Atd size w.fC.G6) size).Ay) fun c=>by
    show c∈(gt w1.fL k).Ay++A4y at_ (Atd size w.fC.G6) ↔ _;rw[Mh,A4z]
   obtain⟨G2,hk2,hg2⟩:=A3d G1 hk1 (n':=A1j w1.fC (gt w1.fL k) at_ (Atd size w.fC.G6) size) (m:=192) P' hone T'.mem rfl L2 T2 ⟨e1.ep,e1.ue,e1.cur⟩ (by
    have hst1:(A1j w1.fC (gt w1.fL k) at_ (Atd size w.fC.G6) size).Vg=1:=L1.st;unfold wtN;rw[if_pos L1.st,if_pos hst1]
    show 2+(gt w1.fL k).Fh.length+w1.fC.G6.toNat*((gt w1.fL k).Ay++A4y at_ (Atd size w.fC.G6)).length≤_
    have hrl:(A4y at_ (Atd size w.fC.G6)).length≤12:=by unfold A4y;simp;omega
    have:=Nat.mul_le_mul (show w1.fC.G6.toNat≤16 by rw[hc1];omega) hrl
    rw[Z23,Nat.mul_add];omega)
   refine⟨_,_,rfl,G2,hc1,?_⟩
   show(w1.fL.set _ _).length=_;rw[Z49];exact S.stay.len
theorem A8x{E:Int}{n:Nat}(hE:0≤E∧E≤900000000)(hn:n≤900000000){w:C4}(G:Dx w E n){k:Int}(hk:0≤k∧k<(w.fL.length:Int))(h:Am)(c a b d e f g:Int)(l:List Int)(x y z:Int):
  ∃r w',Aru K h k w.fC.Ay w.fC.G6 w.fC.E5 w.fC.Gs w.fC.E6 w.fC.G7 w.fP.N5 w.fP.Vg w.fP.N6 w.fL w.fQ w.Acw c a b d e f g l x y z=some (r,w')∧Dx w' E n∧w'.fC=w.fC:=by
 unfold Aru;rw[show C4.mk (D9.mk w.fC.Ay w.fC.G6 w.fC.E5 w.fC.Gs w.fC.E6 w.fC.G7) (Dm.mk w.fP.N5 w.fP.Vg w.fP.N6) w.fL w.fQ w.Acw=w from rfl]
 cases c != 0 with
 |true=>exact⟨_,_,rfl,G,rfl⟩
 |false=>
  simp only[cond_false];obtain⟨t,w2,es,S2⟩:=A6h hK (E:=E) (n:=n) (by omega) (by omega) w.fC.Gs G
  simp only[if_pos hk,es,Z0];exact⟨_,_,rfl,S2.good,S2.stay.conf⟩
theorem A5f{E:Int}{n:Nat}(hE:0≤E∧E≤900000000)(hn:n≤800000000){w:C4}(G:Dx w E n)(h:Am){size al:Int}(hs:1≤size∧size≤200){k:Int}(a b:Es)(hk:a.Wz=0->AlW w.fL k∧(gt w.fL k).F4.length<12):
  ∃r w',Ap9 K h size al k w.fC.Ay w.fC.G6 w.fC.E5 w.fC.Gs w.fC.E6 w.fC.G7 w.fP.N5 w.fP.Vg w.fP.N6 w.fL w.fQ w.Acw a b=some (r,w')∧Dx w' E (n+192)∧w'.fC=w.fC:=by
 unfold Ap9 Ao5;rw[show C4.mk (D9.mk w.fC.Ay w.fC.G6 w.fC.E5 w.fC.Gs w.fC.E6 w.fC.G7) (Dm.mk w.fP.N5 w.fP.Vg w.fP.N6) w.fL w.fQ w.Acw=w from rfl,show D9.mk w.fC.Ay w.fC.G6 w.fC.E5 w.fC.Gs w.fC.E6 w.fC.G7=w.fC from rfl]
 by_cases h0:a.Wz=0
 ·obtain⟨hk,hcnt⟩:=hk h0
  have hki:=(G.live hk).1;rw[h0];simp only[bne_self_eq_false,cond_false,Z0]
  by_cases q:size>w.fC.G6
  ·rw[decide_eq_true q];simp only[cond_true];obtain⟨r,w',h1,h2,h3,h4⟩:=Blw hK hE (by omega) G hk size ⟨q,hs.2⟩ hcnt a
   rw[h1,Z0];obtain⟨r2,w2,k1,k2,k3⟩:=A8x hK hE (n:=n+192) (by omega) h2 (k:=k) (by rw[h4];exact hki) h r.Wz r.fH.Bk r.fH.C8 r.fR.fH.Bk r.fR.fH.C8 r.fR.Sj r.fR.fNo r.fB r.W3 r.Gs r.N7
   exact⟨r2,w2,k1,k2,k3.trans h3⟩
  ·rw[decide_eq_false q];simp only[cond_false];obtain⟨r,w',h1,h2,h3,h4⟩:=Blv hK hE (by omega) G hk size al (by omega) a
   rw[h1,Z0];obtain⟨r2,w2,k1,k2,k3⟩:=A8x hK hE (n:=n+16) (by omega) h2 (k:=k) (by rw[h4];exact hki) h r.Wz r.fH.Bk r.fH.C8 r.fR.fH.Bk r.fR.fH.C8 r.fR.Sj r.fR.fNo r.fB r.W3 r.Gs r.N7
   exact⟨r2,w2,k1,Dx.le k2 (Int.le_refl E) (by omega),k3.trans h3⟩
 ·rw[Aqv h0];exact⟨_,_,rfl,Dx.le G (Int.le_refl E) (by omega),rfl⟩
theorem Bb7{E:Int}{n:Nat}(hE:0≤E∧E≤900000000)(hn:n≤800000000){w:C4}(G:Dx w E n)(h:Am)(size al:Int): ∃r w',Awq K w h size al=some (r,w')∧Dx w' E (n+192)∧w'.fC=w.fC:=by
 have W:=G.ww (by omega) (by omega)
 have G0:=Dx.le G (Int.le_refl E) (by omega:n≤n+192)
 unfold Awq;rw[Ani,Z0]
 by_cases q:1≤size∧size≤200
 ·rw[Acx.2 q,A2a];simp only[cond_true,Z0];cases A36 al with
  |false=>exact⟨_,_,rfl,G0,rfl⟩
  |true=>
   simp only[Bool.not_true,cond_false];rw[Auj hK W.l,Z0,Ayw hK w W.l,Z0]
   by_cases h0:(Aub w.fL h).2=0
   ·have hal:=A3o G.inv h0
    have hki:=(G.live hal).1;rw[h0];simp only[beq_self_eq_true,cond_true];simp only[if_pos hki]
    by_cases q2:((gt w.fL (Aub w.fL h).1).F4.length:Int)≥12
    ·rw[decide_eq_true q2];exact A5f hK hE hn G h q (al:=al) (k:=(Aub w.fL h).1) (Es.mk 8 (Am.mk 0 0) (Bq.mk (Am.mk 0 0) 0 0) [] (Bbm w h) 0 0) (Es.mk 0 (Am.mk 0 0) (Bq.mk (Am.mk 0 0) 0 0) [] 0 0 0) (fun f=>absurd (show(8:Int)=0 from f) (by decide))
    ·rw[decide_eq_false q2];exact A5f hK hE hn G h q (al:=al) (k:=(Aub w.fL h).1) (Es.mk 0 (Am.mk 0 0) (Bq.mk (Am.mk 0 0) 0 0) [] (Bbm w h) 0 0) (Es.mk 0 (Am.mk 0 0) (Bq.mk (Am.mk 0 0) 0 0) [] 0 0 0) (fun f=>⟨hal,by omega⟩)
   ·rw[Ag6 h0];exact A5f hK hE hn G h q (al:=al) (k:=(Aub w.fL h).1) (Es.mk (Aub w.fL h).2 (Am.mk 0 0) (Bq.mk (Am.mk 0 0) 0 0) [] (Bbm w h) 0 0) (Es.mk 0 (Am.mk 0 0) (Bq.mk (Am.mk 0 0) 0 0) [] 0 0 0) (fun f=>absurd f h0)
 ·rw[A58.2 q];exact⟨_,_,rfl,G0,rfl⟩
end
def El (mem:List Int)(p:Int)(s:List Int):List Int:=mem.take p.toNat++s++mem.drop (p.toNat+s.length)
def A6i (mem:List Int)(t:Bc)(off:Int)(s:List Int):Bool:=decide ((0≤off∧(0:Int)≤(s.length:Int)∧off+(s.length:Int)≤t.Ajk)∧0≤An3 .i64 t.fAt off∧An3 .i64 t.fAt off+(s.length:Int)≤(mem.length:Int))
def Bdr (mem:List Int)(t:Bc)(off:Int)(s:List Int):List Int×Bool:=bif A6i mem t off s then(El mem (An3 .i64 t.fAt off) s,true)else(mem,false)
theorem Ez{mem:List Int}{p:Int}{s:List Int}(h0:0≤p)(h1:p+(s.length:Int)≤(mem.length:Int)):(El mem p s).length=mem.length:=by
 unfold El;simp;omega
theorem Blx{mem s:List Int}{p j:Nat}(hj:j<s.length)(hp:p+s.length≤mem.length):(mem.take p++s.take j++mem.drop (p+j)).set (p+j) s[j]=mem.take p++s.take (j+1)++mem.drop (p+(j+1)):=by
 have hl:(mem.take p++s.take j).length=p+j:=by simp;omega
 rw[List.set_append_right _ _ (by omega),hl,Nat.sub_self,Z47 (by omega:p+j<mem.length),List.set_cons_zero,←List.take_append_getElem hj]
 simp only[Z53,Z31,Z45,Z38]
section
variable {K:Nat} (hK:281474976710656≤K)
include hK
theorem Bds{mem s:List Int}(hm:mem.length≤140737488355327)(p:Int)(hs:s.length≤140737488355327):Az1 K mem p s=some (bif decide (0≤p∧(0:Int)≤(s.length:Int)∧p+(s.length:Int)≤(mem.length:Int))then(El mem p s,true)else(mem,false)):=by
 have hx:=P2;unfold Az1;simp only[Z38];rw[if_pos ⟨by omega,by omega⟩,Bbl K hm,Z0,Aas]
 by_cases h:0≤p∧(0:Int)≤(s.length:Int)∧p+(s.length:Int)≤(mem.length:Int)
 ·rw[decide_eq_true h,cond_true,cond_true];obtain⟨q,rfl⟩: ∃q:Nat,p=q:=⟨p.toNat,by omega⟩
  have:=A6a hK s (by omega) (fun _=>true) (some (El mem (q:Int) s,true)) none (fun n j=>Ap3 K (q:Int) s n (mem.take q++s.take j++mem.drop (q+j)) (j:Int)) (fun n j hj=> ?_) (fun n=> ?_)
  ·rw[Z1.2 (fun _ _=>rfl)]at this;simpa using this
  ·have hl:(mem.take q++s.take j++mem.drop (q+j)).length=mem.length:=by simp;omega
   have e:An3 .i64 (q:Int) (j:Int)=((q+j:Nat):Int):=by unfold An3;rw[Gy (by omega) (by omega)];omega
   show Ap3 K (q:Int) s (n+1) _ _=_;rw[Ap3,Ad7 hj,cond_true,if_pos (Aip hj),e,hl,if_pos ⟨by omega,by omega⟩,Ad5 (by omega),K1 hj,Int.toNat_natCast,Blx hj (by omega)]
   rfl
  ·show Ap3 K (q:Int) s (n+1) _ _=_;rw[Ap3,Ae0 (Z9 _),cond_false,List.take_length];simp[El]
 ·rw[decide_eq_false h];rfl
theorem A55{mem s:List Int}(hm:mem.length≤140737488355327)(hs:s.length≤140737488355327){t:Bc}(wt:ThingW t)(off:Int):Aup K mem t off s=some (Bdr mem t off s):=by
 have hx:=P2;obtain⟨wl1,wl2⟩:=wt.2.1;unfold Aup Ax1 Bdr A6i;simp only[Z38];rw[if_pos ⟨by omega,by omega⟩,Bds hK hm _ hs]
 simp only[Z0];rw[decide_eq_true (show(s.length:Int)≥0 by omega)]
 by_cases h1:(0:Int)≤off
 ·rw[decide_eq_true (show off≥0 from h1)]
  by_cases h3:off≤t.Ajk
  ·rw[decide_eq_true h3]
   have e:An4 .i64 t.Ajk off=t.Ajk - off:=by unfold An4;rw[Gy (by omega) (by omega)]
   rw[e]
   by_cases h4:(s.length:Int)≤t.Ajk - off
   ·rw[decide_eq_true h4];simp only[cond_true]
    by_cases h5:0≤An3 .i64 t.fAt off∧An3 .i64 t.fAt off+(s.length:Int)≤(mem.length:Int)
    ·rw[decide_eq_true (show 0≤An3 .i64 t.fAt off∧(0:Int)≤(s.length:Int)∧An3 .i64 t.fAt off+(s.length:Int)≤(mem.length:Int) from⟨h5.1,by omega,h5.2⟩),decide_eq_true (show(0≤off∧(0:Int)≤(s.length:Int)∧off+(s.length:Int)≤t.Ajk)∧0≤An3 .i64 t.fAt off∧An3 .i64 t.fAt off+(s.length:Int)≤(mem.length:Int) from⟨⟨h1,by omega,by omega⟩,h5⟩),decide_eq_true (show An3 .i64 t.fAt off≥0 from h5.1)]
     cases decide (t.fAt<0)<;>rfl
    ·rw[decide_eq_false (show ¬(0≤An3 .i64 t.fAt off∧(0:Int)≤(s.length:Int)∧An3 .i64 t.fAt off+(s.length:Int)≤(mem.length:Int))by omega),decide_eq_false (show ¬((0≤off∧(0:Int)≤(s.length:Int)∧off+(s.length:Int)≤t.Ajk)∧0≤An3 .i64 t.fAt off∧An3 .i64 t.fAt off+(s.length:Int)≤(mem.length:Int))by omega)]
     cases decide (t.fAt<0)<;>cases decide (An3 .i64 t.fAt off≥0)<;>rfl
   ·rw[decide_eq_false h4,decide_eq_false (show ¬((0≤off∧(0:Int)≤(s.length:Int)∧off+(s.length:Int)≤t.Ajk)∧0≤An3 .i64 t.fAt off∧An3 .i64 t.fAt off+(s.length:Int)≤(mem.length:Int))by omega)];rfl
  ·rw[decide_eq_false h3,decide_eq_false (show ¬((0≤off∧(0:Int)≤(s.length:Int)∧off+(s.length:Int)≤t.Ajk)∧0≤An3 .i64 t.fAt off∧An3 .i64 t.fAt off+(s.length:Int)≤(mem.length:Int))by omega)];rfl
 ·rw[decide_eq_false (show ¬off≥0 from h1),decide_eq_false (show ¬((0≤off∧(0:Int)≤(s.length:Int)∧off+(s.length:Int)≤t.Ajk)∧0≤An3 .i64 t.fAt off∧An3 .i64 t.fAt off+(s.length:Int)≤(mem.length:Int))by omega)];rfl
end
def Bw9 (n:As)(v:Int):As:=As.mk n.Vg n.C8 n.Sj n.fUp n.Sk n.Ee n.Sl n.Sm n.Ay n.Acv n.Sn n.F4 (n.Fh++([v]:List Int))
theorem Bom (K:Nat)(r:Bq): ∃b,Azz K r=some b:=by
 unfold Azz;rw[A3r];simp only[Z0];cases A0r r.fH<;>cases decide (r.Sj≥0)<;>exact⟨_,rfl⟩
theorem Bg2 (K:Nat){n:As}(hn:Ap5 n)(r:Bq): ∃t b,Ax0 K n r=some (t,b)∧(b=true->t∈n.F4):=by
 have h2:=hn.things
 have hl:n.F4.length≤140737488355327:=by have:=h2.2;omega
 unfold Ax0;rw[A0p K hl];simp only[Z0]
 by_cases hs:0≤r.fNo∧r.fNo<(n.F4.length:Int)
 ·rw[decide_eq_true hs,if_pos hs]
  have hm:gt n.F4 r.fNo∈n.F4:=Akr hs.1 hs.2;cases n.Vg != 1<;>cases n.Sj != r.Sj<;>first|exact⟨_,_,rfl,fun _=>hm⟩|exact⟨_,_,rfl,fun h=>Bool.noConfusion h⟩
 ·rw[decide_eq_false hs];cases n.Vg != 1<;>cases n.Sj != r.Sj<;>exact⟨_,_,rfl,fun h=>by cases h⟩
theorem A51{K:Nat}(hK:281474976710656≤K){w:C4}(I:Inv w)(hw:Aeo w.fL)(r:Bq): ∃k t c,Asu K w r=some (k,t,c)∧(c=0->AlW w.fL k∧t∈(gt w.fL k).F4):=by
 unfold Asu;obtain⟨b,h1⟩:=Bom K r;rw[h1,Auj hK hw];simp only[Z0];cases b with
 |false=>exact⟨_,_,_,rfl,fun h=>by cases h⟩
 |true=>
  simp only[Bool.not_true,cond_false]
  by_cases h0:(Aub w.fL r.fH).2=0
  ·have hi:=Bkj h0
   have hal:=A3o I h0;rw[if_pos hi,h0];obtain⟨q,b,h3,h4⟩:=Bg2 K (hw.1 _ (Akr hi.1 hi.2)) r;rw[h3];simp only[Z0,bne_self_eq_false,cond_false];cases b with
   |false=>exact⟨_,_,_,rfl,fun h=>by cases h⟩
   |true=>exact⟨_,_,_,rfl,fun _=>⟨hal,h4 rfl⟩⟩
  ·rw[Aqv h0];exact⟨_,_,_,rfl,fun h=>absurd h h0⟩
theorem Bon{mem:List Int}{p:Int}{s:List Int}(h0:0≤p)(h1:p+(s.length:Int)≤(mem.length:Int)){j:Nat}(hj:j<mem.length)(h: ¬(p≤(j:Int)∧(j:Int)<p+(s.length:Int))):gt (El mem p s) (j:Int)=gt mem (j:Int):=by
 have hl:=Ez h0 h1;rw[K1 (by rw[hl];exact hj),K1 hj]
 unfold El
 by_cases q:(j:Int)<p
 ·rw[List.getElem_append_left (by simp;omega),List.getElem_append_left (by simp;omega),List.getElem_take]
 ·rw[List.getElem_append_right (by simp;omega),List.getElem_drop]
  congr 1
  simp;omega
theorem Bly{mem:List Int}{p:Int}{s:List Int}(hm: ∀x∈mem,0≤x∧x≤255)(hs: ∀x∈s,0≤x∧x≤255): ∀x∈El mem p s,0≤x∧x≤255:=by
 intro x hx;unfold El at hx;rcases Mh.1 hx with h|h
 ·rcases Mh.1 h with h|h
  ·exact hm x (Z42 h)
  ·exact hs x h
 ·exact hm x (List.mem_of_mem_drop h)
theorem Blz{w:C4}{E:Int}{n:Nat}(G:Dx w E n){k:Int}(hk:AlW w.fL k){t:Bc}(ht:t∈(gt w.fL k).F4){mem':List Int}(hl:mem'.length=w.fP.N5.length)
  (hb: ∀x∈mem',0≤x∧x≤255) (hs: ∀j:Nat,j<w.fP.N5.length-> ¬(t.fAt≤(j:Int)∧(j:Int)<t.fAt+t.Ajk)->gt mem' (j:Int)=gt w.fP.N5 (j:Int)):
  Dx (C4.mk w.fC (Dm.mk mem' w.fP.Vg w.fP.N6) w.fL w.fQ w.Acw) E n:=by
 have I:=G.inv
 have P:=Akq.1 I.pool;obtain⟨hki,L,T,e⟩:=G.live hk;obtain⟨b1,b2,b3,b4,b5,b6⟩:=A1 I.conf
 have hin: ∀j,t.fAt≤j->j<t.fAt+t.Ajk->j / w.fC.G6∈(gt w.fL k).Ay:=fun j h1 h2=>A7k (Z1.1 T.inch t ht) h1 h2
 have hz: ∀a m:Nat,Apo ((w.fP.N5.drop a).take m)=true->(∀j:Nat,a≤j->j<a+m-> ¬(t.fAt≤(j:Int)∧(j:Int)<t.fAt+t.Ajk))->Apo ((mem'.drop a).take m)=true:=by
  intro a m h hd;rw[A26]at h ⊢;intro j h1 h2 h3;rw[hl]at h3;rw[hs j h3 (hd j h1 h2)];exact h j h1 h2 h3
 have hch: ∀c,0≤c∧c<w.fC.Ay->gt w.fP.Vg c≠1-> ∀j:Nat,(c*w.fC.G6).toNat≤j->j<(c*w.fC.G6).toNat+w.fC.G6.toNat-> ¬(t.fAt≤(j:Int)∧(j:Int)<t.fAt+t.Ajk):=by
  intro c hc hst j h1 h2 h3
  have h0:0≤c*w.fC.G6:=Int.mul_nonneg hc.1 (by omega)
  have h4:=hin j h3.1 h3.2;rw[A5e (a:=c) (by omega) (by omega) (by omega)]at h4
  exact hst ((I.own k hki c).1 h4).2.1
 refine⟨A96 I (Dm.mk mem' w.fP.Vg w.fP.N6) w.fQ w.Acw ⟨P.conf,by rw[←P.mem];show(mem'.length:Int)=_;rw[hl],P.st,P.own,fun c hc=> ?_⟩ (fun c hc=>⟨Iff.rfl,rfl⟩) (fun x hx=> ?_) rfl rfl (fun x hx=> ?_) I.chn I.chi I.log,hb,G.ep,G.wt⟩
 ·obtain⟨p1,p2,p3,p4⟩:=P.one c hc;refine⟨p1,p2,p3,fun h=>hz _ _ (p4 h) fun j h1 h2=>hch c hc ?_ j h1 h2⟩
  have h:gt w.fP.Vg c=0:=h;omega
 ·have h3:=(I.thing x hx).2.2
  by_cases hs1:(gt w.fL x).Vg=1
  ·have Lx:=Aiq.1 ⟨I.node x hx,hs1⟩
   have ex:=G.ep x hx
   by_cases hcur:(gt w.fL x).Acv=0
   ·unfold Are;rw[hcur];rfl
   ·obtain⟨m1,m2,m3⟩:=A4x Lx ex.cur hcur
    have hm:=Aw7 Lx.dist _ m1
    have h0:0≤((gt w.fL x).Acv - 1)*w.fC.G6:=Int.mul_nonneg hm.1 (by omega)
    unfold Are at h3 ⊢;rw[Ag6 hcur,Z52,Z4]at h3 ⊢;refine⟨hz _ _ h3.1 fun j h1 h2 h4=> ?_,h3.2⟩
    have h1:(((gt w.fL x).Acv - 1)*w.fC.G6+(gt w.fL x).Sn).toNat≤j:=h1
    have h2:j<(((gt w.fL x).Acv - 1)*w.fC.G6+(gt w.fL x).Sn).toNat+(w.fC.G6 - (gt w.fL x).Sn).toNat:=h2
    have h5:=hin j h4.1 h4.2;rw[A5e (a:=(gt w.fL x).Acv - 1) (by omega) (by omega) (by omega)]at h5
    have e1:=((I.own k hki _).1 h5).2.2
    have e2:=((I.own x hx _).1 m1).2.2
    have exk:x=k:=by omega
    rw[exk]at h3 h1 h2;refine Bb2 (Z1.1 h3.2 t ht) h4.1 h4.2 (b:=Auv w.fC (gt w.fL k)) ?_ ?_
    ·show((gt w.fL k).Acv - 1)*w.fC.G6+(gt w.fL k).Sn≤(j:Int);omega
    ·show(j:Int)<((gt w.fL k).Acv - 1)*w.fC.G6+(gt w.fL k).Sn+(w.fC.G6 - (gt w.fL k).Sn);rw[exk]at m2 m3 h0;omega
  ·rw[Ayj (I.node x hx) hs1];rfl
 ·obtain⟨a,b⟩:=I.wrec x hx;refine⟨a,?_⟩
  have R:=Azf.1 a
  by_cases hc:0<x.Ay.length
  ·have hm:gt x.Ay 0∈x.Ay:=Aor (i:=0) hc
   have h1:=(I.chi _).1 (A92 hx hm);unfold Aop at b ⊢;rw[Bool.or_eq_true]at b ⊢;rcases b with b|b
   ·exact .inl b
   ·refine .inr (hz _ _ b fun j h2 h3=>hch _ h1.1 (by omega) j h2 ?_)
    have hd:=R.done
    have h3:j<(gt x.Ay 0*w.fC.G6).toNat+x.Wv.toNat:=h3;omega
  ·unfold Aop;rw[decide_eq_false (by omega)];rfl
section
variable {K:Nat} (hK:281474976710656≤K)
include hK
theorem Boo{E:Int}{n:Nat}(hE:0≤E∧E≤900000000)(hn:n≤800000000){w:C4}(G:Dx w E n)(r:Bq)(off m:Int): ∃a,A06 K w r off m=some (w,a):=by
 have W:=G.ww (by omega) (by omega)
 have P:=A5a (Akq.1 G.inv.pool);obtain⟨k,t,c,e,h⟩:=A51 hK G.inv W.l r;unfold A06;rw[Aqr hK W,A0b hK w W,G.inv.ok,e,Ayw hK w W.l];simp only[Z0,Bool.not_true,cond_false]
 by_cases h0:c=0
 ·obtain⟨hk,ht⟩:=h h0
  have hT:=A95 (Z1.1 (G.live hk).2.1.things t ht);rw[h0];simp only[bne_self_eq_false,cond_false];rw[A60 K (by omega) hT,Z0]
  cases (Bkm w.fP.N5 t off m).2<;>exact⟨_,rfl⟩
 ·rw[Aqv h0];exact⟨_,rfl⟩
theorem Bl0{E:Int}{n:Nat}(hE:0≤E∧E≤900000000)(hn:n≤800000000){w:C4}(G:Dx w E n)(r:Bq)(off:Int){s:List Int}(hs: ∀x∈s,0≤x∧x≤255)(hl:s.length≤1000000): ∃a w',Az2 K w r off s=some (w',a)∧Dx w' E n∧w'.fC=w.fC:=by
 have W:=G.ww (by omega) (by omega)
 have P:=A5a (Akq.1 G.inv.pool);obtain⟨k,t,c,e,h⟩:=A51 hK G.inv W.l r;unfold Az2;rw[Aqr hK W,A0b hK w W,G.inv.ok,e,Ayw hK w W.l];simp only[Z0,Bool.not_true,cond_false]
 by_cases h0:c=0
 ·obtain⟨hk,ht⟩:=h h0
  have htb:=Z1.1 (G.live hk).2.1.things t ht
  have hT:=A95 htb;obtain⟨s1,s2,s3,s4⟩:=(A1n htb).1;rw[h0];simp only[bne_self_eq_false,cond_false];rw[A55 hK (by omega) (by omega) hT,Z0]
  unfold Bdr;cases ho:A6i w.fP.N5 t off s with
  |false=>exact⟨_,_,rfl,G,rfl⟩
  |true=>
   unfold A6i at ho;rw[decide_eq_true_iff]at ho
   have ea:An3 .i64 t.fAt off=t.fAt+off:=by unfold An3;exact Gy (by omega) (by omega)
   rw[ea]at ho ⊢;refine⟨_,_,rfl,Blz G hk ht (Ez (by omega) (by omega)) (Bly G.mem hs) (fun j hj hne=>Bon (by omega) (by omega) hj (by omega)),rfl⟩
 ·rw[Aqv h0];exact⟨_,_,rfl,G,rfl⟩
theorem Bl1{E:Int}{n:Nat}(hE:0≤E∧E≤900000000)(hn:n≤800000000){w:C4}(G:Dx w E n)(h:Am)(v:Int): ∃a w',A1z K w h v=some (w',a)∧Dx w' E (n+1)∧w'.fC=w.fC:=by
 have hm:=P2
 have W:=G.ww (by omega) (by omega)
 have G0:=Dx.le G (Int.le_refl E) (by omega:n≤n+1)
 unfold A1z Ax2 Az3;rw[Aqr hK W,A0b hK w W,G.inv.ok,Ani,Auj hK W.l,Ayw hK w W.l];simp only[Z0,cond_true]
 by_cases hv:0≤v∧v≤255
 ·rw[Acx.2 hv];simp only[Bool.not_true,cond_false]
  by_cases h0:(Aub w.fL h).2=0
  ·have hal:=A3o G.inv h0;obtain⟨hki,L,T,e⟩:=G.live hal;rw[h0];simp only[beq_self_eq_true,cond_true,if_pos hki]
   by_cases q:((gt w.fL (Aub w.fL h).1).Fh.length:Int)≥6
   ·rw[decide_eq_true q];exact⟨_,_,rfl,G0,rfl⟩
   ·rw[decide_eq_false q];simp only[cond_false];rw[if_pos ⟨by simp;omega,by simp;omega⟩]
    refine⟨_,_,rfl,?_,rfl⟩
    have P:=Akq.1 G.inv.pool;refine(A3d G hal (n':=Bw9 (gt w.fL (Aub w.fL h).1) v) (m:=1) P (A7m G.inv hki rfl) rfl rfl ⟨L.conf,L.st,L.gen,L.up,L.first,L.next,L.prev,L.ep,L.ue,L.dist,L.cur,L.nth,?_,?_,L.things⟩ ⟨T.inch,T.apart,T.loose⟩ ⟨e.ep,e.ue,e.cur⟩ ?_).1
    ·show(_++[v]).length≤6;simp;omega
    ·show(_++[v]).all _=true;rw[List.all_append,L.tags,Gc,Acx.2 hv];rfl
    ·have hst1:(Bw9 (gt w.fL (Aub w.fL h).1) v).Vg=1:=L.st;unfold wtN;rw[if_pos L.st,if_pos hst1]
     show 2+(_++[v]).length+w.fC.G6.toNat*(gt w.fL (Aub w.fL h).1).Ay.length≤_;rw[Z23,List.length_singleton];omega
  ·rw[Ag6 h0];simp only[cond_false];exact⟨_,_,rfl,G0,rfl⟩
 ·rw[A58.2 hv];exact⟨_,_,rfl,G0,rfl⟩
theorem Bl2{E:Int}{n:Nat}(hE:0≤E∧E≤900000000)(hn:n≤800000000){w:C4}(G:Dx w E n)(h:Am): ∃a,Az4 K w h=some (w,a):=by
 have W:=G.ww (by omega) (by omega)
 unfold Az4 Ax3;rw[Aqr hK W,A0b hK w W,G.inv.ok,Auj hK W.l,Ayw hK w W.l];simp only[Z0,Bool.not_true,cond_false]
 by_cases h0:(Aub w.fL h).2=0
 ·have hal:=A3o G.inv h0;obtain⟨hki,L,T,e⟩:=G.live hal
  have hn:=W.l.1 _ (Akr hki.1 hki.2);rw[h0];simp only[beq_self_eq_true,cond_true,if_pos hki];unfold A0g;rw[Avf hK _ _ (Ays hK hn.chunks) (Bem hK hn.things) (Ays hK hn.tags)];simp only[Z0];cases (gt w.fL (Aub w.fL h).1).Acv==0<;>cases Aqm w.fC (gt w.fL (Aub w.fL h).1)<;>exact⟨_,rfl⟩
 ·rw[Ag6 h0];exact⟨_,rfl⟩
end
def Ayl (a:List Int):Prop:= ∀x∈a,0≤x∧x≤255
theorem Bdt{a b:List Int}(h:Ayl a)(g:Ayl b):Ayl (a++b):=by
 intro x hx;rcases Mh.1 hx with h1|h1
 ·exact h x h1
 ·exact g x h1
def Agp (c:D0):Prop:=Ayl c.fb∧c.fb.length≤1048576∧0≤c.fi∧c.fi≤(c.fb.length:Int)
theorem Be5 (x:Int):0≤An6 .i64 x 255∧An6 .i64 x 255≤255:=by
 unfold An6
 have e:(BitVec.ofInt IntKind.i64.bits x &&& BitVec.ofInt IntKind.i64.bits 255).toNat≤255:=by
  rw[BitVec.toNat_and];exact Vv Nat.and_le_right (by decide)
 rw[Gy (by omega) (by omega)]
 omega
theorem Bdu (K:Nat){a:List Int}(hb:Ayl a)(ha:a.length≤1048576): ∀(n i:Nat) (v:Int),i≤a.length->a.length - i<n-> ∃c,Auw K a n v (i:Int)=some c∧Agp c:=by
 intro n
 induction n with
 |zero=>intro i _ _ h;omega
 |succ n ih=>
  intro i v hi hn;rw[Auw]
  have done: ∀v,Agp (D0.mk a 0 v):=fun v=>⟨hb,ha,by show(0:Int)≤0;omega,by show(0:Int)≤_;omega⟩
  rcases Hl i a.length with h|h
  ·rw[Ad7 h];simp only[cond_true];cases decide ((i:Int)<4000)with
   |false=>exact⟨_,rfl,done _⟩
   |true=>
    simp only[cond_true];rw[if_pos ⟨by omega,by omega⟩,Ad5 (i:=i) (by omega)]
    exact ih (i+1) _ h (by omega)
  ·rw[Ae0 h];exact⟨_,rfl,done _⟩
theorem Bb8{K:Nat}(hK:281474976710656≤K){a:List Int}(hb:Ayl a)(ha:a.length≤1048576): ∃c,Axl K a=some c∧Agp c:=by
 unfold Axl;exact Bdu K hb ha K 0 _ (Z21 _) (by omega)
theorem A3p (K:Nat){c:D0}(hc:Agp c): ∃r,Aqs K c=some r∧(0≤r.1∧r.1≤255)∧Agp r.2:=by
 obtain⟨h1,h2,h3,h4⟩:=hc;unfold Aqs Awh;rw[if_pos (by decide),if_pos (by decide)]
 by_cases h:c.fi<(c.fb.length:Int)
 ·rw[decide_eq_true h];simp only[cond_true];rw[if_pos ⟨h3,h⟩]
  have e:An3 .i64 c.fi 1=c.fi+1:=by unfold An3;rw[Gy (by omega) (by omega)]
  exact⟨_,rfl,Be5 _,h1,h2,by show(0:Int)≤An3 .i64 c.fi 1;omega,by show An3 .i64 c.fi 1≤(c.fb.length:Int);omega⟩
 ·rw[decide_eq_false h];exact⟨_,rfl,Be5 _,h1,h2,h3,h4⟩
theorem Ago (K:Nat){c:D0}(hc:Agp c){n:Int}(hn:0<n): ∃r,Ap K c n=some r∧(0≤r.1∧r.1<n)∧Agp r.2:=by
 unfold Ap;rw[decide_eq_false (show ¬n≤0 by omega)]
 simp only[cond_false];obtain⟨r1,e1,b1,w1⟩:=A3p K hc
 by_cases h:n≤256
 ·rw[decide_eq_true h,e1];simp only[cond_true,Z0];rw[if_pos (by omega)]
  exact⟨_,rfl,⟨Int.tmod_nonneg _ b1.1,Int.tmod_lt_of_pos _ hn⟩,w1⟩
 ·rw[decide_eq_false h,e1];simp only[cond_false,Z0];obtain⟨r2,e2,b2,w2⟩:=A3p K w1;rw[e2];simp only[Z0];obtain⟨r3,e3,b3,w3⟩:=A3p K w2;rw[e3];simp only[Z0];rw[if_pos (by omega)]
  refine⟨_,rfl,⟨Int.tmod_nonneg _ ?_,Int.tmod_lt_of_pos _ hn⟩,w3⟩;unfold An3 An5;rw[Gy (n:=r1.1*65536) (by omega) (by omega),Gy (n:=r2.1*256) (by omega) (by omega),Gy (n:=r1.1*65536+r2.1*256) (by omega) (by omega),Gy (by omega) (by omega)]
  omega
theorem Axk (K:Nat){c:D0}(hc:Agp c){n:Int}(hn:0<n): ∃r,Ane K c n=some r∧Agp r.2:=by
 obtain⟨r,e,_,w⟩:=Ago K hc hn;unfold Ane;rw[e];exact⟨_,rfl,w⟩
theorem Azl (K:Nat){c:D0}(hc:Agp c){l:List Int}(hl:0<l.length): ∃x c',Wx K c l=some (x,c',l)∧x∈l∧Agp c':=by
 obtain⟨r,e,b,w⟩:=Ago K hc (n:=(l.length:Int)) (by omega)
 unfold Wx;rw[e];simp only[Z0];rw[if_pos b];exact⟨_,_,rfl,Akr b.1 b.2,w⟩
theorem A52 (K:Nat){c:D0}(hc:Agp c)(n:Int): ∃r,Ap K c n=some r∧Agp r.2:=by
 by_cases h:0<n
 ·obtain⟨r,e,_,w⟩:=Ago K hc h;exact⟨r,e,w⟩
 ·unfold Ap;rw[decide_eq_true (show n≤0 by omega)]
  exact⟨_,rfl,hc⟩
theorem Bxa (x:Int):0≤IntKind.u8.wrap x∧IntKind.u8.wrap x≤255:=by rw[IntKind.wrap_u8];omega
theorem A7n{K:Nat}(hK:281474976710656≤K){c:D0}(hc:Agp c){n:Int}(h1:n≤1000): ∃b c',Axp K c n=some (b,c')∧Ayl b∧b.length≤1000∧Agp c':=by
 have hm:=P2
 have key: ∀(f i:Nat) (l:List Int) (c:D0),Agp c->Ayl l->l.length=i->(i:Int)≤1000->(1000 - i)<f-> ∃b c',Asd K n f l (i:Int) c.fb c.fi c.fh=some (b,c')∧Ayl b∧b.length≤1000∧Agp c':=by
  intro f
  induction f with
  |zero=>intro i _ _ _ _ _ _ h;omega
  |succ f ih=>
   intro i l c hc hl hi h2 hf;rw[Asd]
   by_cases q:(i:Int)<n
   ·obtain⟨r,e,_,w⟩:=A3p K hc;rw[decide_eq_true q,cond_true,show D0.mk c.fb c.fi c.fh=c from rfl,e,Z0,if_pos ⟨by simp;omega,by simp;omega⟩,Ad5 (by omega)]
    exact ih (i+1) _ r.2 w (Bdt hl fun x hx=>by rw[Px.1 hx];exact Bxa _) (by simp[hi]) (by omega) (by omega)
   ·rw[decide_eq_false q];exact⟨_,_,rfl,hl,by omega,hc⟩
 exact key K 0 [] c hc (fun x hx=>by cases hx) rfl (by omega) (by omega)
def Aig (o:Cm):Prop:=Ayl o.fB∧o.fB.length≤1000
theorem Ap6 (k:Int)(h:Am)(r:Bq)(n m:Int):Aig (Cm.mk k h r n m []):=⟨(fun x hx=>by cases hx),Z21 _⟩
theorem Bb9 (K:Nat){c:D0}(hc:Agp c): ∃h c',Awj K c=some (h,c')∧Agp c':=by
 unfold Awj;obtain⟨r,e,_,w⟩:=Ago K hc (n:=5) (by omega)
 obtain⟨q,e2,_,w2⟩:=Ago K w (n:=3) (by omega)
 rw[e,Z0,e2];exact⟨_,_,rfl,w2⟩
theorem A7o{K:Nat}(hK:281474976710656≤K){c:D0}(hc:Agp c)(k:Int)(b:Bool)(r:Bq)(h:Am){o:Cm}(ho:Aig o)(p:Cm): ∃o' c',Aqy K k b c.fb c.fi c.fh r h o p=some (o',c')∧Aig o'∧Agp c':=by
 unfold Aqy
 have e0:D0.mk c.fb c.fi c.fh=c:=rfl;rw[e0];cases b with
 |true=>exact⟨_,_,rfl,⟨ho.1,ho.2⟩,hc⟩
 |false=>
  simp only[cond_false];cases k==2 with
  |true=>
   simp only[cond_true];obtain⟨x,c1,e1,_,w1⟩:=Azl K hc (l:=[1,2,3,5,8,9,17,20,0,201]) (by simp)
   obtain⟨y,c2,e2,_,w2⟩:=Azl K w1 (l:=[1,1,2,4,3]) (by simp)
   rw[e1,Z0,if_pos rfl,e2,Z0,if_pos rfl];exact⟨_,_,rfl,⟨ho.1,ho.2⟩,w2⟩
  |false=>
   simp only[cond_false];cases k==3 with
   |true=>
    simp only[cond_true];obtain⟨x,e1,_,w1⟩:=Ago K hc (n:=4) (by omega)
    obtain⟨y,e2,_,w2⟩:=Ago K w1 (n:=5) (by omega)
    rw[e1,Z0,e2,Z0];exact⟨_,_,rfl,⟨ho.1,ho.2⟩,w2⟩
   |false=>
    simp only[cond_false];cases k==4 with
    |true=>
     simp only[cond_true];obtain⟨x,e1,_,w1⟩:=Ago K hc (n:=4) (by omega)
     obtain⟨y,e2,b2,w2⟩:=Ago K w1 (n:=4) (by omega)
     obtain⟨z,c3,e3,b3,l3,w3⟩:=A7n hK w2 (n:=y.1) (by omega)
     rw[e1,Z0,e2,Z0,e3,Z0];exact⟨_,_,rfl,⟨b3,l3⟩,w3⟩
    |false=>
     simp only[cond_false];cases k==5 with
     |true=>
      simp only[cond_true];obtain⟨x,c1,e1,_,w1⟩:=Azl K hc (l:=[1,7,255,256]) (by simp)
      rw[e1,Z0,if_pos rfl];exact⟨_,_,rfl,⟨ho.1,ho.2⟩,w1⟩
     |false=>exact⟨_,_,rfl,ho,hc⟩
theorem A7p{K:Nat}(hK:281474976710656≤K){c:D0}(hc:Agp c): ∃o c',Aux K c=some (o,c')∧Aig o∧Agp c':=by
 unfold Aux;obtain⟨r1,e1,_,w1⟩:=Ago K hc (n:=9) (by omega)
 obtain⟨h2,c2,e2,w2⟩:=Bb9 K w1;obtain⟨r3,e3,_,w3⟩:=Ago K w2 (n:=2) (by omega)
 obtain⟨r4,e4,_,w4⟩:=Ago K w3 (n:=3) (by omega)
 rw[e1,Z0,e2,Z0,e3,Z0,e4,Z0];cases An3 .i64 1 r1.1==1 with
 |true=>
  simp only[cond_true];obtain⟨r5,e5,w5⟩:=Axk K w4 (n:=2) (by omega)
  rw[e5,Z0];cases r5.1 with
  |true=>exact⟨_,_,rfl,Ap6 _ _ _ _ _,w5⟩
  |false=>exact⟨_,_,rfl,Ap6 _ _ _ _ _,w5⟩
 |false=>
  simp only[cond_false];cases An3 .i64 1 r1.1==6 with
  |true=>simp only[cond_true];exact A7o hK w4 _ _ _ _ (Ap6 _ _ _ _ _) _
  |false=>
   simp only[cond_false];cases An3 .i64 1 r1.1==7 with
   |true=>simp only[cond_true];exact A7o hK w4 _ _ _ _ (Ap6 _ _ _ _ _) _
   |false=>simp only[cond_false];exact A7o hK w4 _ _ _ _ (Ap6 _ _ _ _ _) _
theorem A8y (K:Nat){c:D0}(hc:Agp c): ∃x c',Av2 K c=some (x,c')∧Ahl x=true∧Agp c':=by
 unfold Av2;obtain⟨r1,e1,b1,w1⟩:=Ago K hc (n:=11) (by omega)
 obtain⟨x2,c2,e2,m2,w2⟩:=Azl K w1 (l:=[8,8,9,12,16]) (by simp)
 obtain⟨r3,e3,b3,w3⟩:=Ago K w2 (n:=7) (by omega)
 obtain⟨r4,e4,b4,w4⟩:=Ago K w3 (n:=6) (by omega)
 obtain⟨x5,c5,e5,m5,w5⟩:=Azl K w4 (l:=[1,3,4,8,16]) (by simp)
 obtain⟨r6,e6,b6,w6⟩:=Ago K w5 (n:=4) (by omega)
 rw[e1,Z0,e2,Z0,if_pos rfl,e3,Z0,e4,Z0,e5,Z0,if_pos rfl,e6];refine⟨_,_,rfl,?_,w6⟩
 have a1:An3 .i64 2 r1.1=2+r1.1:=by unfold An3;exact Gy (by omega) (by omega)
 have a3:An3 .i64 2 r3.1=2+r3.1:=by unfold An3;exact Gy (by omega) (by omega)
 have a4:An3 .i64 1 r4.1=1+r4.1:=by unfold An3;exact Gy (by omega) (by omega)
 have a6:An3 .i64 1 r6.1=1+r6.1:=by unfold An3;exact Gy (by omega) (by omega)
 rw[a1,a3,a4,a6]
 have m2:x2=8∨x2=8∨x2=9∨x2=12∨x2=16:=by simpa using m2
 have m5:x5=1∨x5=3∨x5=4∨x5=8∨x5=16:=by simpa using m5
 unfold Ahl;simp only[Z4,Acx];omega
theorem A7q{w:C4}{E:Int}{n:Nat}(G:Dx w E n)(hE:0≤E){k:Int}(hk:AlW w.fL k):Dx (Ar5 w k) E n:=by
 obtain⟨t,A,F⟩:=G.inv.forest
 have al:=hk.al A
 have I':=Bgq G.inv A F al;obtain⟨hki,L,T,e⟩:=G.live hk
 have R:=G.inv.rg
 have hN:(Ar5 w k).fL.length=w.fL.length:=by unfold Ar5;simp only;rw[Z49,A0c]
 have hg: ∀x,0≤x∧x<(w.fL.length:Int)->gt (Ar5 w k).fL x=if x=k then Aqc 2 (gt (Ana w.fL k) k).C8 else gt (Ana w.fL k) x:=fun x hx=>by
  unfold Ar5;simp only;rw[Aps (by rw[A0c];exact hki) (by rw[A0c];exact hx)];rfl
 refine⟨I',?_,fun x hx=> ?_,?_⟩
 ·show ∀x∈(Aij w.fP _).N5,_;rw[(A0d G.inv hki).2.1];exact G.mem
 ·rw[hN]at hx;rw[hg x hx]
  by_cases q:x=k
  ·rw[if_pos q];exact⟨hE,hE,⟨Int.le_refl 0,by show(0:Int)≤1000;omega⟩⟩
  ·rw[if_neg q,A23 R hki hx q]
   have:=G.ep x hx;exact⟨this.ep,this.ue,this.cur⟩
 ·have hs:=A27 (f:=wtN w.fC) hN hki fun x hx hne=>by rw[hg x hx,if_neg hne,A23 R hki hx hne];rfl
  rw[hg k hki,if_pos rfl,A28 _ (by decide)]at hs
  have e1:wtN w.fC (gt w.fL k)=2+(gt w.fL k).Fh.length+w.fC.G6.toNat*(gt w.fL k).Ay.length:=by unfold wtN;rw[if_pos L.st]
  have h3:=G.wt;unfold wt pot at h3 ⊢
  show((Ar5 w k).fL.map (wtN w.fC)).sum+((w.fQ++[Agm (gt w.fL k) (An3 .i64 k 1)]).map (wtQ w.fC)).sum+w.Acw.length≤_
  have e2:wtQ w.fC (Agm (gt w.fL k) (An3 .i64 k 1))=1+(gt w.fL k).Fh.length+w.fC.G6.toNat*(gt w.fL k).Ay.length:=rfl;rw[Vs,List.sum_append,Z8,Pz,List.sum_cons,List.sum_nil,e2];omega
theorem A7r{w:C4}{E:Int}{n:Nat}(G:Dx w E n)(hE:0≤E∧E≤900000000){k:Int}(hk:AlW w.fL k):Dx (Aum w k) (E+1) (n+1):=by
 obtain⟨t,A,F⟩:=G.inv.forest
 have al:=hk.al A;obtain⟨hki,L,T,e⟩:=G.live hk
 have h0:=L.ep
 have h1:=e.ep
 have I':=Bgr G.inv A F al (by omega)
 have hN:(Aum w k).fL.length=w.fL.length:=by unfold Aum;simp only;rw[Z49]
 have hg: ∀x,0≤x∧x<(w.fL.length:Int)->gt (Aum w k).fL x=if x=k then Ath (gt w.fL k)else gt w.fL x:=fun x hx=>Aps hki hx _
 refine⟨I',?_,fun x hx=> ?_,?_⟩
 ·show ∀x∈(Aij w.fP _).N5,_;rw[(A0d G.inv hki).2.1];exact G.mem
 ·rw[hN]at hx;rw[hg x hx]
  have hx':=G.ep x hx
  by_cases q:x=k
  ·rw[if_pos q];refine⟨?_,?_,⟨Int.le_refl 0,by show(0:Int)≤1000;omega⟩⟩
   ·show An3 .i64 (gt w.fL k).Sj 1≤_;rw[ad1 (by omega) (by omega)];omega
   ·have:=e.ue
    show(gt w.fL k).Sk≤_;omega
  ·rw[if_neg q]
   have h2:=hx'.ep;have h3:=hx'.ue;exact⟨by omega,by omega,hx'.cur⟩
 ·have hs:=A27 (f:=wtN w.fC) hN hki fun x hx hne=>by rw[hg x hx,if_neg hne]
  rw[hg k hki,if_pos rfl]at hs
  have e1:wtN w.fC (gt w.fL k)=2+(gt w.fL k).Fh.length+w.fC.G6.toNat*(gt w.fL k).Ay.length:=by unfold wtN;rw[if_pos L.st]
  have e0:wtN w.fC (Ath (gt w.fL k))=2:=by
   have hst1:(Ath (gt w.fL k)).Vg=1:=L.st;unfold wtN;rw[if_pos hst1];rfl
  have h3:=G.wt;unfold wt pot at h3 ⊢
  show((Aum w k).fL.map (wtN w.fC)).sum+((w.fQ++[Agm (gt w.fL k) 0]).map (wtQ w.fC)).sum+w.Acw.length≤_
  have e2:wtQ w.fC (Agm (gt w.fL k) 0)=1+(gt w.fL k).Fh.length+w.fC.G6.toNat*(gt w.fL k).Ay.length:=rfl;rw[Vs,List.sum_append,Z8,Pz,List.sum_cons,List.sum_nil,e2];omega
section
variable {K:Nat} (hK:281474976710656≤K)
include hK
theorem Bt5{E:Int}{n:Nat}(hE:0≤E∧E≤900000000)(hn:n≤800000000){w:C4}(G:Dx w E n){o:Cm}(ho:Aig o): ∃w' a,Ay3 K w o=some (w',a)∧Dx w' E (n+1)∧w'.fC=w.fC:=by
 have W:=G.ww (by omega) (by omega)
 have G0:=Dx.le G (Int.le_refl E) (by omega:n≤n+1)
 unfold Ay3;cases o.Ww==3 with
 |true=>
  simp only[cond_true];obtain⟨a,e⟩:=Boo hK hE hn G o.fR o.fN o.fM;rw[e];exact⟨_,_,rfl,G0,rfl⟩
 |false=>
  simp only[cond_false];cases o.Ww==4 with
  |true=>
   simp only[cond_true];obtain⟨a,w',e,g,c⟩:=Bl0 hK hE hn G o.fR o.fN (s:=o.fB) ho.1 (by have:=ho.2;omega)
   rw[e];exact⟨_,_,rfl,Dx.le g (Int.le_refl E) (by omega),c⟩
  |false=>
   simp only[cond_false];cases o.Ww==5 with
   |true=>
    simp only[cond_true];obtain⟨a,w',e,g,c⟩:=Bl1 hK hE hn G o.fH o.fN;rw[e];exact⟨_,_,rfl,g,c⟩
   |false=>
    simp only[cond_false];cases o.Ww==8 with
    |true=>
     simp only[cond_true];obtain⟨a,e⟩:=Bl2 hK hE hn G o.fH;rw[e];exact⟨_,_,rfl,G0,rfl⟩
    |false=>
     simp only[cond_false];rw[Aqr hK W];exact⟨_,_,rfl,G0,rfl⟩
theorem Bl3{E:Int}{n:Nat}(hE:0≤E∧E≤800000000)(hn:n≤700000000){w:C4}(G:Dx w E n)(b:Bool){o:Cm}(ho:Aig o)(z:Es):
  ∃a w',Au9 K b w.fC.Ay w.fC.G6 w.fC.E5 w.fC.Gs w.fC.E6 w.fC.G7 w.fP.N5 w.fP.Vg w.fP.N6 w.fL w.fQ w.Acw z o.Ww o.fH.Bk o.fH.C8 o.fR.fH.Bk o.fR.fH.C8 o.fR.Sj o.fR.fNo o.fN o.fM o.fB=some (a,w')∧Dx w' (E+1) (n+1)∧w'.fC=w.fC:=by
 have W:=G.ww (by omega) (by omega)
 have hq:=Bk7 w
 have hwt:=G.wt
 have G0:=Dx.le G (by omega:E≤E+1) (by omega:n≤n+1)
 unfold Au9;rw[show C4.mk (D9.mk w.fC.Ay w.fC.G6 w.fC.E5 w.fC.Gs w.fC.E6 w.fC.G7) (Dm.mk w.fP.N5 w.fP.Vg w.fP.N6) w.fL w.fQ w.Acw=w from rfl]
 cases b with
 |true=>
  simp only[cond_true];rw[Auj hK W.l,Z0,Ayw hK w W.l,Z0]
  by_cases h0:(Aub w.fL (Am.mk o.fH.Bk o.fH.C8)).2=0
  ·have hal:=A3o G.inv h0
   have hki:=(G.live hal).1;rw[h0];simp only[bne_self_eq_false,cond_false];cases o.Ww==6 with
   |true=>
    simp only[cond_true];rw[A4j hK w W (by omega) hki,Z0]
    exact⟨_,_,rfl,A7r G (by omega) hal,rfl⟩
   |false=>
    simp only[cond_false];rw[A62 hK w W (by omega) hki,Z0]
    exact⟨_,_,rfl,Dx.le (A7q G hE.1 hal) (by omega) (by omega),rfl⟩
  ·rw[Aqv h0];exact⟨_,_,rfl,G0,rfl⟩
 |false=>
  simp only[cond_false];rw[show Cm.mk o.Ww (Am.mk o.fH.Bk o.fH.C8) (Bq.mk (Am.mk o.fR.fH.Bk o.fR.fH.C8) o.fR.Sj o.fR.fNo) o.fN o.fM o.fB=o from rfl]
  obtain⟨w',a,e,g,c⟩:=Bt5 hK (by omega) (by omega) G ho
  rw[e];exact⟨_,_,rfl,Dx.le g (by omega) (Z9 _),c⟩
theorem Bxb{E:Int}{n:Nat}(hE:0≤E∧E≤800000000)(hn:n≤700000000){w:C4}(G:Dx w E n){o:Cm}(ho:Aig o): ∃a w',Az5 K w o=some (a,w')∧Dx w' (E+1) (n+192)∧w'.fC=w.fC:=by
 unfold Az5;cases o.Ww==1 with
 |true=>
  simp only[cond_true];obtain⟨r,w',e,g,c⟩:=Bdn hK (by omega) (by omega) G o.fH
  rw[e];exact⟨_,_,rfl,Dx.le g (by omega) (by omega),c⟩
 |false=>
  simp only[cond_false];cases o.Ww==2 with
  |true=>
   simp only[cond_true];obtain⟨r,w',e,g,c⟩:=Bb7 hK (by omega) (by omega) G o.fH o.fN o.fM
   rw[e];exact⟨_,_,rfl,Dx.le g (by omega) (by omega),c⟩
  |false=>
   simp only[cond_false];cases o.Ww==9 with
   |true=>
    simp only[cond_true];obtain⟨r,w',e,S⟩:=A6h hK (E:=E) (n:=n) (by omega) (by omega) 4000 G
    rw[e];exact⟨_,_,rfl,Dx.le S.good (by omega) (by omega),S.stay.conf⟩
   |false=>
    simp only[cond_false];cases o.Ww==6 with
    |true=>
     simp only[cond_true];obtain⟨r,w',e,g,c⟩:=Bl3 hK hE hn G true ho (Es.mk 0 (Am.mk 0 0) (Bq.mk (Am.mk 0 0) 0 0) [] 0 0 0);exact⟨_,_,e,Dx.le g (Int.le_refl _) (by omega),c⟩
    |false=>
     simp only[cond_false];obtain⟨r,w',e,g,c⟩:=Bl3 hK hE hn G (o.Ww==7) ho (Es.mk 0 (Am.mk 0 0) (Bq.mk (Am.mk 0 0) 0 0) [] 0 0 0);exact⟨_,_,e,Dx.le g (Int.le_refl _) (by omega),c⟩
end
theorem Bac{α:Type}[Inhabited α]{n:Nat}(x:α){k:Int}(hk:0≤k∧k<(n:Int)):gt (List.replicate n x) k=x:=by
 obtain⟨j,rfl⟩: ∃j:Nat,k=j:=⟨k.toNat,by omega⟩
 rw[K1 (by simp;omega)]
 simp
theorem A7s{α:Type}(i:Nat)(x:α):List.replicate i x++[x]=List.replicate (i+1) x:=by rw[List.replicate_succ']
section
variable {K:Nat} (hK:281474976710656≤K)
include hK
def Be6 (c:D9):Dm:=Dm.mk (List.replicate (c.Ay*c.G6).toNat 0) (List.replicate c.Ay.toNat 0) (List.replicate c.Ay.toNat (-1))
theorem Bdv{c:D9}(hc:Ahl c=true):Axm K c=some (Be6 c):=by
 have hm:=P2;obtain⟨b1,b2,b3,b4,b5,b6⟩:=A1 hc
 have hb:=Aut (a:=c.Ay) (b:=c.G6) (m:=12) (n:=16) (by omega) b1.2 (by omega) b2.2
 have hby:Ak9 c=c.Ay*c.G6:=by unfold Ak9;rw[hc];rfl
 unfold Axm A1y;rw[Aqw,hc,Z0,Bool.not_true,cond_false,Atq,Z0,hby,Ani,Acx.2 ⟨by omega,by omega⟩]
 simp only[Z0,Bool.not_true,cond_false];rw[if_pos ⟨by omega,by omega,by omega,by omega⟩,Z0]
 have key: ∀(f i:Nat),(i:Int)≤c.Ay->c.Ay.toNat - i<f->Asa K c f (i:Int) (Dm.mk (List.replicate (c.Ay*c.G6).toNat 0) (List.replicate i 0) (List.replicate i (-1))) (Dm.mk [] [] [])=some (Be6 c):=by
  intro f
  induction f with
  |zero=>intro i _ h;omega
  |succ f ih=>
   intro i hi hf;rw[Asa]
   by_cases q:(i:Int)=c.Ay
   ·rw[decide_eq_false (by omega)]
    unfold Be6;rw[←q];rfl
   ·rw[decide_eq_true (by omega),cond_true,if_pos ⟨by simp;omega,by simp;omega⟩,if_pos ⟨by simp;omega,by simp;omega⟩,Ad5 (by omega)]
    simp only;rw[A7s,A7s];exact ih (i+1) (by omega) (by omega)
 exact key K 0 (by omega) (by omega)
theorem Bca{c:D9}(hc:Ahl c=true):Azm K c=some (List.replicate c.E5.toNat (Aqc 0 1)):=by
 have hm:=P2;obtain⟨b1,b2,b3,b4,b5,b6⟩:=A1 hc
 have key: ∀(f i:Nat),(i:Int)≤c.E5->c.E5.toNat - i<f->Arq K c f (List.replicate i (Aqc 0 1)) (i:Int)=some (List.replicate c.E5.toNat (Aqc 0 1)):=by
  intro f
  induction f with
  |zero=>intro i _ h;omega
  |succ f ih=>
   intro i hi hf;rw[Arq]
   by_cases q:(i:Int)=c.E5
   ·rw[decide_eq_false (by omega),←q];rfl
   ·unfold Ak1;rw[decide_eq_true (by omega),cond_true,Aqw,hc]
    simp only[Z0,cond_true];rw[show As.mk 0 1 0 0 0 0 0 0 [] 0 0 [] []=Aqc 0 1 from rfl,if_pos ⟨by simp;omega,by simp;omega⟩,Ad5 (by omega),A7s]
    exact ih (i+1) (by omega) (by omega)
 exact key K 0 (by omega) (by omega)
def A1k (c:D9):C4:=C4.mk c (Be6 c) (List.replicate c.E5.toNat (Aqc 0 1)) [] []
theorem Bcb{c:D9}(hc:Ahl c=true):Awi K c=some (A1k c):=by
 unfold Awi;rw[Aqw,hc,Z0,Bool.not_true,cond_false,Bdv hK hc,Z0,Bca hK hc];rfl
end
def Bl4 (_:Int):Lk:=⟨false,false,0,0,0,0,0,0⟩
theorem A2b{N x:Int}: ¬Lv N Bl4 x:=fun h=>by have:=h.2;cases this
theorem Bcc (N:Int):Ai9 N Bl4 []:=by
 refine⟨⟨fun k h=>absurd h A2b,fun k h=>absurd h A2b,fun _ _ _ _=>⟨rfl,rfl,rfl,rfl⟩⟩,⟨fun _=>0,fun x h=>absurd h A2b⟩,⟨fun _=>0,fun x h=>absurd h A2b⟩,⟨List.nodup_nil,fun x=>⟨(fun h=>by cases h),fun h=>absurd h.1 A2b⟩,(fun f h=>by cases h)⟩,trivial,fun x h=>absurd h A2b,fun x h=>absurd h A2b,(fun e h=>by cases h)⟩
theorem Bl5{c:D9}(hc:Ahl c=true):Dx (A1k c) 0 0:=by
 obtain⟨b1,b2,b3,b4,b5,b6⟩:=A1 hc
 have hb:=Aut (a:=c.Ay) (b:=c.G6) (m:=12) (n:=16) (by omega) b1.2 (by omega) b2.2
 have hN:((A1k c).fL.length:Int)=c.E5:=by show((List.replicate _ _).length:Int)=_;rw[List.length_replicate];omega
 have hg: ∀k,0≤k∧k<((A1k c).fL.length:Int)->gt (A1k c).fL k=Aqc 0 1:=fun k hk=>Bac _ (by rw[hN]at hk;omega)
 have hs: ∀k,0≤k∧k<c.Ay->gt (A1k c).fP.Vg k=0:=fun k hk=>Bac _ (by omega)
 have ho: ∀k,0≤k∧k<c.Ay->gt (A1k c).fP.N6 k= -1:=fun k hk=>Bac _ (by omega)
 have hz: ∀a m:Nat,Apo (((A1k c).fP.N5.drop a).take m)=true:=fun a m=>by
  rw[A26];intro j _ _ h
  have h:j<(List.replicate (c.Ay*c.G6).toNat (0:Int)).length:=h;rw[List.length_replicate]at h;exact Bac _ ⟨by omega,by omega⟩
 refine⟨⟨Akq.2 ⟨hc,?_,?_,?_,fun k hk=> ?_⟩,hN,fun k hk=> ?_,fun k hk x=> ?_,fun k hk=> ?_,⟨Bl4,(fun k hk=>by rw[hg k hk];rfl),Bcc _⟩,(fun x h=>by cases h),List.nodup_nil,fun x=> ?_,List.nodup_nil,fun s=> ?_,rfl⟩,fun x hx=> ?_,fun k hk=> ?_,?_⟩
 ·show((List.replicate _ _).length:Int)=c.Ay*c.G6;rw[List.length_replicate];omega
 ·show((List.replicate _ _).length:Int)=c.Ay;rw[List.length_replicate];omega
 ·show((List.replicate _ _).length:Int)=c.Ay;rw[List.length_replicate];omega
 ·rw[hs k hk,ho k hk];exact⟨by omega,fun h=>by omega,fun _=>rfl,fun _=>hz _ _⟩
 ·rw[hg k hk];exact A3m hc (by omega) (by omega) (by show 1≤1∧1≤c.G7;omega)
 ·rw[hg k hk];constructor
  ·intro h;cases h
  ·rintro⟨a,b,_⟩;rw[hs x a]at b;cases b
 ·rw[hg k hk];exact⟨rfl,rfl,rfl⟩
 ·constructor
  ·intro h;cases h
  ·rintro⟨a,b⟩;rw[hs x a]at b;cases b
 ·constructor
  ·intro h;cases h
  ·rintro⟨a,b⟩;rw[hg s a]at b;cases b
 ·have hx:x∈List.replicate (c.Ay*c.G6).toNat (0:Int):=hx;rw[(List.mem_replicate.1 hx).2];omega
 ·rw[hg k hk];exact⟨Int.le_refl 0,Int.le_refl 0,Int.le_refl 0,by show(0:Int)≤1000;omega⟩
 ·have e:wtN c (Aqc 0 1)=0:=A28 _ (by decide) _
  unfold wt pot A1k;simp[e]
section
variable {K:Nat} (hK:281474976710656≤K)
include hK
def A53 (w:C4)(o:Cm)(c:D0):Cm×D0×(List Int)×(List Int)×(List Int)×(List As)×(List Az)×(List Int):=(o,c,w.fP.N5,w.fP.Vg,w.fP.N6,w.fL,w.fQ,w.Acw)
omit hK in
theorem Bcd (w:C4)(h:Am)(d:Int){c:D0}(hc:Agp c)(b:Bool): ∃o c',Ase K h w.fP.N5 w.fP.Vg w.fP.N6 w.fL w.fQ w.Acw d c.fb c.fi c.fh b=some (A53 w o c')∧Aig o∧Agp c':=by
 unfold Ase;rw[show D0.mk c.fb c.fi c.fh=c from rfl]
 cases b with
 |true=>
  simp only[cond_true];obtain⟨r,e,_,w1⟩:=Ago K hc (n:=256) (by omega)
  rw[e];exact⟨_,_,rfl,Ap6 _ _ _ _ _,w1⟩
 |false=>
  simp only[cond_false];cases d==13 with
  |true=>exact⟨_,_,rfl,Ap6 _ _ _ _ _,hc⟩
  |false=>
   simp only[cond_false];cases d==14 with
   |true=>exact⟨_,_,rfl,Ap6 _ _ _ _ _,hc⟩
   |false=>
    simp only[cond_false];obtain⟨r,e,w1⟩:=Axk K hc (n:=6) (by omega)
    rw[e,Z0];cases r.1 with
    |true=>exact⟨_,_,rfl,Ap6 _ _ _ _ _,w1⟩
    |false=>exact⟨_,_,rfl,Ap6 _ _ _ _ _,w1⟩
theorem Bce (w:C4)(h:Am)(r:Bq)(d:Int){c:D0}(hc:Agp c)(b:Bool): ∃o c',Asf K h r w.fP.N5 w.fP.Vg w.fP.N6 w.fL w.fQ w.Acw d c.fb c.fi c.fh b=some (A53 w o c')∧Aig o∧Agp c':=by
 unfold Asf;rw[show D0.mk c.fb c.fi c.fh=c from rfl]
 cases b with
 |true=>
  simp only[cond_true];obtain⟨x,e,b1,w1⟩:=Ago K hc (n:=2) (by omega)
  have e1:An3 .i64 1 x.1=1+x.1:=by unfold An3;exact Gy (by omega) (by omega)
  obtain⟨y,c2,e2,b2,l2,w2⟩:=A7n hK w1 (n:=1+x.1) (by omega)
  rw[e,Z0,e1,e2];exact⟨_,_,rfl,⟨b2,l2⟩,w2⟩
 |false=>
  simp only[cond_false];cases d==10 with
  |true=>
   simp only[cond_true];obtain⟨x,e,_,w1⟩:=Ago K hc (n:=3) (by omega)
   rw[e];exact⟨_,_,rfl,Ap6 _ _ _ _ _,w1⟩
  |false=>
   simp only[cond_false];cases d==11 with
   |true=>simp only[cond_true];exact Bcd w h d hc true
   |false=>simp only[cond_false];exact Bcd w h d hc (d==12)
theorem A7t (w:C4)(h:Am)(r:Bq)(z d:Int){c:D0}(hc:Agp c)(b:Bool): ∃o c',Aqz K h r z w.fP.N5 w.fP.Vg w.fP.N6 w.fL w.fQ w.Acw d c.fb c.fi c.fh b=some (A53 w o c')∧Aig o∧Agp c':=by
 unfold Aqz;rw[show D0.mk c.fb c.fi c.fh=c from rfl]
 cases b with
 |true=>
  simp only[cond_true];obtain⟨x,c1,e1,_,w1⟩:=Azl K hc (l:=[1,2,3,4,5,8]) (by simp)
  obtain⟨y,c2,e2,_,w2⟩:=Azl K w1 (l:=[1,1,2,4]) (by simp)
  rw[e1,Z0,if_pos rfl,e2,Z0,if_pos rfl];exact⟨_,_,rfl,Ap6 _ _ _ _ _,w2⟩
 |false=>
  simp only[cond_false];cases d==7 with
  |true=>
   simp only[cond_true];obtain⟨x,e,w1⟩:=A52 K hc z;rw[e];exact⟨_,_,rfl,Ap6 _ _ _ _ _,w1⟩
  |false=>
   simp only[cond_false];cases d==8 with
   |true=>simp only[cond_true];exact Bce hK w h r d hc true
   |false=>simp only[cond_false];exact Bce hK w h r d hc (d==9)
theorem A7u (w:C4)(h:Am)(r:Bq)(z d:Int){c:D0}(hc:Agp c)(b:Bool): ∃o c',Aq0 K h r z w.fP.N5 w.fP.Vg w.fP.N6 w.fL w.fQ w.Acw d b c.fb c.fi c.fh=some (A53 w o c')∧Aig o∧Agp c':=by
 unfold Aq0;rw[show D0.mk c.fb c.fi c.fh=c from rfl]
 cases b with
 |true=>exact⟨_,_,rfl,Ap6 _ _ _ _ _,hc⟩
 |false=>
  simp only[cond_false];cases d==3 with
  |true=>exact⟨_,_,rfl,Ap6 _ _ _ _ _,hc⟩
  |false=>
   simp only[cond_false];cases d==4 with
   |true=>simp only[cond_true];exact A7t hK w h r z d hc true
   |false=>
    simp only[cond_false];cases d==5 with
    |true=>simp only[cond_true];exact A7t hK w h r z d hc true
    |false=>simp only[cond_false];exact A7t hK w h r z d hc (d==6)
theorem Bcf (w:C4)(h:Am)(r:Bq)(q:Cm){c:D0}(hc:Agp c): ∃o c',Asg K h c.fb c.fi c.fh r q w.fC.Ay w.fC.G6 w.fC.E5 w.fC.Gs w.fC.E6 w.fC.G7 w.fP.N5.length w.fP.Vg.length w.fP.N6.length w.fL.length w.fQ.length w.Acw.length w.fP.N5 w.fP.Vg w.fP.N6 w.fL w.fQ w.Acw=some (A53 w o c')∧Aig o∧Agp c':=by
 unfold Asg;rw[show D0.mk c.fb c.fi c.fh=c from rfl]
 obtain⟨x,e,_,w1⟩:=Ago K hc (n:=16) (by omega)
 rw[e,Z0];cases x.1==0 with
 |true=>simp only[cond_true];exact A7u hK w h r _ _ w1 true
 |false=>
  simp only[cond_false];cases x.1==1 with
  |true=>simp only[cond_true];exact A7u hK w h r _ _ w1 true
  |false=>simp only[cond_false];exact A7u hK w h r _ _ w1 _
theorem Be7{w:C4}(W:Am6 w)(h8:w.fL.length≤1000){c:D0}(hc:Agp c): ∃o c',Auy K c w=some (A53 w o c')∧Aig o∧Agp c':=by
 unfold Auy;obtain⟨r1,e1,hl,hr⟩:=A7j hK W h8;rw[e1,Z0];cases hz:(r1.length:Int)==0 with
 |true=>
  simp only[cond_true];obtain⟨x,e,w1⟩:=Axk K hc (n:=2) (by omega)
  rw[e,Z0];cases x.1 with
  |true=>exact⟨_,_,rfl,Ap6 _ _ _ _ _,w1⟩
  |false=>
   simp only[cond_false];obtain⟨o,c2,e2,ho,w2⟩:=A7p hK w1;rw[e2];exact⟨_,_,rfl,ho,w2⟩
 |false=>
  have hz: ¬(r1.length:Int)=0:=by simpa using hz
  simp only[cond_false];obtain⟨x,e,w1⟩:=Axk K hc (n:=10) (by omega)
  rw[e,Z0];cases x.1 with
  |true=>
   simp only[cond_true];obtain⟨y,e2,w2⟩:=Axk K w1 (n:=2) (by omega)
   rw[e2,Z0];cases y.1 with
   |true=>exact⟨_,_,rfl,Ap6 _ _ _ _ _,w2⟩
   |false=>
    simp only[cond_false];obtain⟨o,c2,e3,ho,w3⟩:=A7p hK w2;rw[e3];exact⟨_,_,rfl,ho,w3⟩
  |false=>
   simp only[cond_false];obtain⟨y,e2,b2,w2⟩:=Ago K w1 (n:=(r1.length:Int)) (by omega)
   rw[e2,Z0,if_pos b2]
   have hk:=(hr _ (Akr b2.1 b2.2)).1;obtain⟨h,eh⟩:=A3a (K:=K) (l:=w.fL) (by omega) (gt r1 y.1)
   simp only[eh,Z0,if_pos hk];cases decide (((gt w.fL (gt r1 y.1)).F4.length:Int)>0)with
   |true=>
    simp only[cond_true];obtain⟨z,e3,w3⟩:=A52 K w2 ((gt w.fL (gt r1 y.1)).F4.length:Int);simp only[e3,Z0];exact Bcf hK w h _ _ w3
   |false=>
    simp only[cond_false];exact Bcf hK w h _ _ w2
theorem run_ok{c:D0}(hc:Agp c){most:Int}(hm:0<most∧most≤1000): ∃x l w c' E n,Ay4 K c most=some (x,l,w,c')∧Dx w E n∧(0≤E∧E≤200)∧n≤38400∧w.fC=x∧Ahl x=true∧l.length≤200∧(∀o∈l,Aig o)∧Agp c':=by
 have hx:=P2;unfold Ay4;obtain⟨x,c1,e1,hx1,w1⟩:=A8y K hc;obtain⟨y,e2,b2,w2⟩:=Ago K w1 (n:=most) (by omega)
 rw[e1,Z0,Bcb hK hx1,Z0,e2,Z0]
 have ea:An3 .i64 4 y.1=4+y.1:=by unfold An3;exact Gy (by omega) (by omega)
 rw[ea]
 have key: ∀(f i:Nat) (l:List Cm) (w:C4) (c:D0),(i:Int)≤4+y.1->i<f->Dx w (l.length:Int) (192*l.length)->w.fC=x->l.length≤200->(∀o∈l,Aig o)->Agp c-> ∃x' l' w' c' E n,At2 K f l (i:Int) c.fb c.fi c.fh w x (C4.mk (D9.mk 0 0 0 0 0 0) (Dm.mk [] [] []) [] [] []) (D9.mk 0 0 0 0 0 0)=some (x',l',w',c')∧Dx w' E n∧(0≤E∧E≤200)∧n≤38400∧w'.fC=x'∧Ahl x'=true∧l'.length≤200∧(∀o∈l',Aig o)∧Agp c':=by
  intro f
  induction f with
  |zero=>intro i l w c _ h;omega
  |succ f ih=>
   intro i l w c hi hf G hwc hl ho hcc
   have done: ∃x' l' w' c' E n,some (x,l,w,D0.mk c.fb c.fi c.fh)=some (x',l',w',c')∧Dx w' E n∧(0≤E∧E≤200)∧n≤38400∧w'.fC=x'∧Ahl x'=true∧l'.length≤200∧(∀o∈l',Aig o)∧Agp c':=⟨_,_,_,_,_,_,rfl,G,by omega,by omega,hwc,hx1,hl,ho,hcc⟩
   rw[At2]
   by_cases q:0<i
   ·rw[decide_eq_true (show(i:Int)>0 by omega),cond_true]
    by_cases q2:l.length<200
    ·rw[decide_eq_true (show(l.length:Int)<200 by omega),cond_true]
     have W:=G.ww (by omega) (by omega)
     obtain⟨b1,b2,b3,_⟩:=A1 G.inv.conf
     have hlen:=G.inv.len;obtain⟨o,c2,e3,hop,w3⟩:=Be7 hK W (by omega) hcc
     obtain⟨a,w',e4,G',hc'⟩:=Bxb hK (E:=(l.length:Int)) (n:=192*l.length) (by omega) (by omega) G hop
     rw[show D0.mk c.fb c.fi c.fh=c from rfl,e3,Z0]
     unfold A53;simp only;rw[if_pos ⟨trivial,trivial,trivial,trivial,trivial,trivial⟩,if_pos ⟨by simp;omega,by simp;omega⟩]
     rw[show C4.mk w.fC (Dm.mk w.fP.N5 w.fP.Vg w.fP.N6) w.fL w.fQ w.Acw=w from rfl,e4,Z0]
     have es:An4 .i64 (i:Int) 1=((i - 1:Nat):Int):=by rw[sb1 (by omega) (by omega)];omega
     rw[es];refine ih (i - 1) (l++[o]) w' c2 (by omega) (by omega) ?_ (hc'.trans hwc) (by simp;omega) ?_ w3
     ·rw[Z23,List.length_singleton];exact Dx.le G' (by omega) (by omega)
     ·intro o' h';rcases Mh.1 h' with h'|h'
      ·exact ho o' h'
      ·rw[Px.1 h'];exact hop
    ·rw[decide_eq_false (show ¬(l.length:Int)<200 by omega)];exact done
   ·rw[decide_eq_false (show ¬(i:Int)>0 by omega)];exact done
 have:=key K (4+y.1).toNat [] (A1k x) y.2 (by omega) (by omega) (Bl5 hx1) rfl (by simp) (fun o h=>by cases h) w2
 rw[show(((4+y.1).toNat:Nat):Int)=4+y.1 by omega]at this
 exact this
omit hK in
theorem Bg3 (a:List Int){m:Int}(hm:0≤m∧m≤1000)(ha:a.length≤1048576): ∃r,Awb K a m=some r∧0≤r∧r≤1000:=by
 unfold Awb
 have h3:(a.length:Int) / 12≤(a.length:Int):=Int.ediv_le_self _ (by omega)
 have h4:0≤(a.length:Int) / 12:=Int.ediv_nonneg (by omega) (by omega)
 have e1:Ali .i64 (a.length:Int) 12=(a.length:Int) / 12:=by
  unfold Ali;rw[Int.tdiv_eq_ediv_of_nonneg (by omega)];exact Gy (by omega) (by omega)
 have e2:An3 .i64 3 ((a.length:Int) / 12)=3+(a.length:Int) / 12:=by unfold An3;exact Gy (by omega) (by omega)
 rw[if_pos (by decide),e1,e2]
 by_cases q:3+(a.length:Int) / 12>m
 ·rw[decide_eq_true q];exact⟨_,rfl,hm⟩
 ·rw[decide_eq_false q];exact⟨_,rfl,by omega,by omega⟩
theorem Bad{a:List Int}(hb:Ayl a)(ha:a.length≤1048576): ∃w o E n,Avt K a=some (w,o)∧Dx w E n∧(0≤E∧E≤200)∧n≤38400∧Aig o:=by
 unfold Avt;obtain⟨c,e1,w1⟩:=Bb8 hK hb ha;obtain⟨m,e2,hm⟩:=Bg3 (K:=K) a (m:=50) (by omega) ha
 have ea:An3 .i64 20 m=20+m:=by unfold An3;exact Gy (by omega) (by omega)
 have h50:m≤900∨900<m:=by omega
 rw[e1,Z0,e2,Z0,ea];unfold At3
 have hm2:m≤50:=by
  unfold Awb at e2;rw[if_pos (by decide)]at e2
  by_cases q:(An3 .i64 3 (Ali .i64 (a.length:Int) 12))>50
  ·rw[decide_eq_true q]at e2;simp only[cond_true,Z7]at e2;omega
  ·rw[decide_eq_false q]at e2;simp only[cond_false,Z7]at e2;omega
 obtain⟨x,l,w,c2,E,n,e3,G,hE,hn,_,_,_,_,w3⟩:=run_ok hK w1 (most:=20+m) (by omega)
 have W:=G.ww (by omega) (by omega)
 obtain⟨b1,b2,b3,_⟩:=A1 G.inv.conf
 have hlen:=G.inv.len;obtain⟨o,c4,e4,ho,_⟩:=Be7 hK W (by omega) w3
 rw[e3];simp only[Z0];rw[e4,Z0];unfold A53;simp only;rw[if_pos ⟨trivial,trivial,trivial,trivial,trivial,trivial⟩];exact⟨_,_,_,_,rfl,G,hE,hn,ho⟩
end
section
variable (N:Int) (t:Int->Lk)
inductive Up (a:Int):Int->Prop
 |refl:Lv N t a->Up a a
 |step {b:Int}:Lv N t b->Cu N t b->Up a ((t b).up - 1)->Up a b
end
section
variable {N:Int} {t:Int->Lk}
theorem Up.lv{a b:Int}(h:Up N t a b):Lv N t a∧Lv N t b:=by
 induction h with
 |refl h=>exact⟨h,h⟩
 |step h _ _ ih=>exact⟨ih.1,h⟩
theorem Up.trans{a b c:Int}(h:Up N t a b)(g:Up N t b c):Up N t a c:=by
 induction g with
 |refl _=>exact h
 |step h1 h2 _ ih=>exact .step h1 h2 ih
theorem Up.le{d:Int->Nat}(U: ∀x,Lv N t x->Cu N t x->d ((t x).up - 1)<d x){a b:Int}(h:Up N t a b):d a≤d b:=by
 induction h with
 |refl _=>exact Z9 _
 |step h1 h2 _ ih=>have:=U _ h1 h2;omega
theorem Up.al{a b:Int}(h:Up N t a b)(g:Al N t a):Al N t b:=by
 induction h with
 |refl _=>exact g
 |step h1 h2 _ ih=>exact .step h1 h2 ih
variable {r:Int->Nat} {d:Int->Nat}
end
structure Bt6 (w:C4)(t:Int->Lk)(k:Int):Prop where
 inv:Inv w
 tab:AtT w.fL t
 fr:Ai9 w.fL.length t (Awf w.fQ)
 al:Al w.fL.length t k
structure A8z (w w':C4)(t:Int->Lk)(k:Int):Prop where
 inv:Inv w'
 len:w'.fL.length=w.fL.length
 tab:AtT w'.fL (rem t k)
 fr:Ai9 w.fL.length (rem t k) (Awf w'.fQ)
 conf:w'.fC=w.fC
 q:w'.fQ=w.fQ++[Agm (gt w.fL k) (k+1)]
 node: ∀x,0≤x∧x<(w.fL.length:Int)->x≠k-> ∃a b c,gt w'.fL x=lnk (gt w.fL x) a b c
theorem Bg4 (c:D9)(a b:Int)(f g:Int)(ts cs:List Int)(d:Int):Btr c (Az.mk a f ts cs d)=Btr c (Az.mk b g ts cs d):=rfl
theorem A8z.own{w w':C4}{t:Int->Lk}{k:Int}(L:A8z w w' t k){x:Int}(hx:0≤x∧x<(w.fL.length:Int))(hne:x≠k):Bts w' x=Bts w x:=by
 obtain⟨a,b,c,e⟩:=L.node x hx hne;unfold Bts;rw[e,L.conf];exact Bg4 _ _ _ _ _ _ _ _
theorem A8z.kids{w w':C4}{t:Int->Lk}{k:Int}(P:Bt6 w t k)(L:A8z w w' t k){x:Az}(hx:x∈w.fQ):Akt w'.fL x.Ee=Akt w.fL x.Ee:=by
 have hf:=P.inv.first hx;rw[A90 P.tab P.inv.rg hf.1 (by omega),A90 L.tab L.inv.rg hf.1 (by omega),L.len]
 exact A49 P.fr.tree P.al.lv P.al.noOr P.fr.kid (Inv.qs hx)
def Bdw (w:C4)(x:Int):List Int:=(gt w.fL x).Fh.reverse
theorem A8z.tags{w w':C4}{t:Int->Lk}{k:Int}(L:A8z w w' t k){x:Int}(hx:0≤x∧x<(w.fL.length:Int))(hne:x≠k):Bdw w' x=Bdw w x:=by
 obtain⟨a,b,c,e⟩:=L.node x hx hne;unfold Bdw;rw[e];rfl
def A01 (w:C4):List Int:=((List.range w.fL.length).map (fun(i:Nat)=>(i:Int))).filter (Att w.fL)
theorem Bg5{w:C4}{x:Int}:x∈A01 w ↔ (0≤x∧x<(w.fL.length:Int))∧Att w.fL x=true:=by
 unfold A01;rw[List.mem_filter,Ex];refine and_congr ⟨?_,?_⟩ Iff.rfl
 ·rintro⟨i,hi,e⟩;rw[List.mem_range]at hi;omega
 ·intro h;exact⟨x.toNat,by rw[List.mem_range];omega,by omega⟩
section
variable {M:Type} (op:M->M->M) (e:M) (g:Int->M) (w:C4)
end
section
variable {M:Type} {op:M->M->M} {e:M} {g:Int->M} {w:C4}
end
def A5g (l:List As)(i:Nat):List Int:=((List.range i).map (fun(i:Nat)=>(i:Int))).filter (Att l)
theorem Bcg (l:List As)(i:Nat):A5g l (i+1)=A5g l i++(if Att l (i:Int)=true then [(i:Int)]else []):=by
 unfold A5g;rw[List.range_succ,Vs,List.filter_append]
 congr 1
 show List.filter (Att l) [(i:Int)]=_;rw[List.filter_cons,List.filter_nil]
theorem Bdx (l:List As)(i:Nat):(A5g l i).length≤i:=by
 unfold A5g;refine Vv (List.length_filter_le _ _) ?_;simp
section
variable {K:Nat} (hK:281474976710656≤K)
include hK
end
section
variable {K:Nat} (hK:281474976710656≤K)
include hK
theorem Bae{w:C4}(hw:Am6 w)(h8:w.fL.length≤1000):A0i K w=some (A01 w):=by
 have hm:=P2
 have key: ∀(f i:Nat),i≤w.fL.length->w.fL.length - i<f->Aq1 K f (A5g w.fL i) (w.fL.length:Int) (i:Int) w.fC.Ay w.fC.G6 w.fC.E5 w.fC.Gs w.fC.E6 w.fC.G7 w.fP.N5 w.fP.Vg w.fP.N6 w.fL w.fQ w.Acw=some (A01 w):=by
  intro f
  induction f with
  |zero=>intro i _ h;omega
  |succ f ih=>
   intro i hi hf
   have hl:=Bdx w.fL i;rw[Aq1];rcases Hl i w.fL.length with h|h
   ·rw[Ad7 h,cond_true,Bba hK hw.l];simp only[Z0]
    have hs:=Bcg w.fL i;cases e:Att w.fL (i:Int)with
    |false=>
     rw[e,if_neg (by decide),List.append_nil]at hs
     simp only[cond_false];unfold As1;rw[Ad5 (by omega),←hs]
     exact ih (i+1) h (by omega)
    |true=>
     rw[e,if_pos rfl]at hs;simp only[cond_true];rw[if_pos ⟨by simp;omega,by simp;omega⟩]
     unfold As1;rw[Ad5 (by omega),←hs]
     exact ih (i+1) h (by omega)
   ·obtain rfl:i=w.fL.length:=by omega
    rw[Ae0 (Z9 _)];rfl
 exact key K 0 (Z21 _) (by omega)
end
section
variable {K:Nat} (hK:281474976710656≤K)
include hK
theorem Bt7{α:Type}(l:List α)(hl:l.length≤140737488355328)(L:Nat->Int->Option Bool)
  (hs: ∀n (i:Nat) (h:i<l.length),L (n+1) (i:Int)=L n ((i+1:Nat):Int)) (he: ∀n,L (n+1) (l.length:Int)=some true):L K 0=some true:=by
 rw[Ar8 hK l hl (fun _=>true) (some true) L (fun n i h=>by rw[hs n i h];rfl) he,Z1.2 (fun _ _=>rfl)]
 rfl
theorem A7v (l:List Int)(hl:l.length≤140737488355327):A07 K l l=some true:=by
 unfold A07;simp only[bne_self_eq_false,cond_false];exact Bkf l (by omega) (Ay9 K l l) (fun n i=>rfl) K 0 (Z21 _) (by omega)
theorem Ayy (l:List Int)(hl:l.length≤140737488355327):Alv K l l=some true:=by
 unfold Alv;simp only[bne_self_eq_false,cond_false];exact Bkf l (by omega) (Auq K l l) (fun n i=>rfl) K 0 (Z21 _) (by omega)
theorem A8b{p:Dm}(h:Ayo p):Awy K p p=some true:=by
 unfold Awy;rw[A7v hK _ h.mem.2,Z0,cond_true,Ayy hK _ (Ays hK h.st),Z0,cond_true,Ayy hK _ (Ays hK h.own)];rfl
theorem A8c{n:As}(h:Ap5 n):Awz K n n=some true:=by
 have h2:=h.things.2;unfold Awz;simp only[bne_self_eq_false,cond_false];rw[Ayy hK _ (Ays hK h.chunks),Z0,cond_true,Ayy hK _ (Ays hK h.tags),Z0,Bool.not_true,cond_false]
 refine Bt7 hK n.F4 (by omega) (fun m i=>Aqb K m i n.Vg n.C8 n.Sj n.fUp n.Sk n.Ee n.Sl n.Sm n.Ay n.Acv n.Sn n.F4 n.Fh n.Vg n.C8 n.Sj n.fUp n.Sk n.Ee n.Sl n.Sm n.Ay n.Acv n.Sn n.F4 n.Fh) (fun m i hi=> ?_) (fun m=> ?_)
 ·simp only[Aqb];rw[Ad7 hi,cond_true,if_pos (Aip hi),if_pos (Aip hi),Ad5 (by omega)]
  simp
 ·simp only[Aqb];rw[Ae0 (Z9 _),cond_false]
theorem A7w{l:List As}(h:Aeo l):Avw K l l=some true:=by
 have h2:=h.2;unfold Avw;simp only[bne_self_eq_false,cond_false];refine Bt7 hK l (by omega) (Apw K l l) (fun m i hi=> ?_) (fun m=> ?_)
 ·rw[Apw,Ad7 hi,cond_true,if_pos (Aip hi),if_pos (Aip hi),A8c hK (h.1 _ (Aor hi)),Z0,Bool.not_true,cond_false,Ad5 (by omega)]
 ·rw[Apw,Ae0 (Z9 _),cond_false]
theorem A7x{x:Az}(h:A0o x):Avx K x x=some true:=by
 unfold Avx;simp only[beq_self_eq_true,cond_true];rw[Ayy hK _ (Ays hK h.tags),Z0,cond_true,Ayy hK _ (Ays hK h.chunks)];rfl
theorem A3e{w:C4}(h:Am6 w):As4 K w w=some true:=by
 have h2:=h.q.2;unfold As4;simp only[beq_self_eq_true,Bool.and_self,Bool.not_true,cond_false];rw[A8b hK h.p,Z0,cond_true,A7w hK h.l,Z0,cond_true];simp only[bne_self_eq_false,cond_false];rw[Ayy hK _ (Ays hK h.log),Z0,Bool.not_true,cond_false]
 refine Bt7 hK w.fQ (by omega) (fun m i=>Apx K m i w.fC.Ay w.fC.G6 w.fC.E5 w.fC.Gs w.fC.E6 w.fC.G7 w.fP.N5 w.fP.Vg w.fP.N6 w.fL w.fQ w.Acw w.fC.Ay w.fC.G6 w.fC.E5 w.fC.Gs w.fC.E6 w.fC.G7 w.fP.N5 w.fP.Vg w.fP.N6 w.fL w.fQ w.Acw) (fun m i hi=> ?_) (fun m=> ?_)
 ·simp only[Apx];rw[Ad7 hi,cond_true,if_pos (Aip hi),if_pos (Aip hi),A7x hK (h.q.1 _ (Aor hi)),Z0,Bool.not_true,cond_false,Ad5 (by omega)]
 ·simp only[Apx];rw[Ae0 (Z9 _),cond_false]
end
instance:DecidablePred wfi:=fun x=>inferInstanceAs (Decidable (_∧_))
theorem Aym (n:Int):wfi (IntKind.i64.wrap n):=by rw[IntKind.wrap_i64];exact⟨by omega,by omega⟩
def OkP{α:Type}(x:Option (α×D0))(P:α->Prop):Prop:= ∃a c,x=some (a,c)∧P a∧Agp c
theorem okp{α:Type}{a:α}{c:D0}{P:α->Prop}(h:P a)(hc:Agp c):OkP (some (a,c)) P:=⟨_,_,rfl,h,hc⟩
theorem OkP.mono{α:Type}{x:Option (α×D0)}{P Q:α->Prop}(h:OkP x P)(k: ∀a,P a->Q a):OkP x Q:=by
 obtain⟨a,c,e,p,hc⟩:=h;exact⟨a,c,e,k a p,hc⟩
theorem Ad4{α β:Type}{x:Option (α×D0)}{f:α×D0->Option (β×D0)}{P:α->Prop}{Q:β->Prop}(h:OkP x P)(k: ∀a c,P a->Agp c->OkP (f (a,c)) Q):OkP (x.bind f) Q:=by
 obtain⟨a,c,e,p,hc⟩:=h;rw[e];exact k a c p hc
theorem Arg{α:Type}{p:Prop}[Decidable p]{x:Option (α×D0)}{Q:α->Prop}(h:p)(k:OkP x Q):OkP (if p then x else none) Q:=by rw[if_pos h];exact k
theorem Aos{α:Type}{b:Bool}{x y:Option (α×D0)}{Q:α->Prop}(k:b=true->OkP x Q)(l:b=false->OkP y Q):OkP (bif b then x else y) Q:=by
 cases b
 ·exact l rfl
 ·exact k rfl
theorem Apz (K:Nat){c:D0}(hc:Agp c){n:Int}(hn:0<n):OkP (Ap K c n) fun x=>0≤x∧x<n:=by
 obtain⟨r,e,b,w⟩:=Ago K hc hn;exact⟨_,_,e,b,w⟩
theorem A3f{β:Type}(K:Nat){c:D0}{l:List Int}{f:Int×D0×List Int->Option (β×D0)}{Q:β->Prop}(hc:Agp c)(hl:0<l.length)(k: ∀x c,x∈l->Agp c->OkP (f (x,c,l)) Q):OkP ((Wx K c l).bind f) Q:=by
 obtain⟨x,c',e,m,w⟩:=Azl K hc hl;rw[e];exact k x c' m w
theorem Bl6 (K:Nat){c:D0}(hc:Agp c):OkP (Az6 K c) ConfW:=by
 unfold Az6 Apa;obtain⟨x,c1,e,hx,w⟩:=A8y K hc
 have W:=Bk8 hx;rw[e,Z0];dsimp only
 repeat' (first|refine A3f _ (by assumption) (by decide) (fun x c hx hc=>Arg rfl ?_)|refine Ad4 (Apz _ (by assumption) (by omega)) (fun x c hx hc=> ?_)|refine Aos (fun _=> ?_) (fun _=> ?_))
 all_goals refine okp ?_ (by assumption)
 ·exact⟨(by decide: ∀y∈([1,2,12,13]:List Int),wfi y) _ ‹_›,W.size,W.slots,W.tax,W.slice,W.gens⟩
 ·exact⟨W.chunks,(by decide: ∀y∈([7,8,16,17]:List Int),wfi y) _ ‹_›,W.slots,W.tax,W.slice,W.gens⟩
 ·exact⟨W.chunks,W.size,(by decide: ∀y∈([1,8,9]:List Int),wfi y) _ ‹_›,W.tax,W.slice,W.gens⟩
 ·exact⟨W.chunks,W.size,W.slots,(by decide: ∀y∈([0,8,9]:List Int),wfi y) _ ‹_›,W.slice,W.gens⟩
 ·exact⟨W.chunks,W.size,W.slots,W.tax,(by decide: ∀y∈([0,17]:List Int),wfi y) _ ‹_›,W.gens⟩
 ·exact⟨W.chunks,W.size,W.slots,W.tax,W.slice,(by decide: ∀y∈([0,5]:List Int),wfi y) _ ‹_›⟩
 ·exact W
theorem A40{l:List Int}(h:l.length≤1000)(x:Int):(l++[x]).length*8≤140737488355328∧(l++[x]).length≤maxLen:=by
 have:=P2;rw[Z23,List.length_singleton];omega
theorem Baf{l:List Bc}(h:l.length≤1000)(x:Bc):(l++[x]).length*24≤140737488355328∧(l++[x]).length≤maxLen:=by
 have:=P2;rw[Z23,List.length_singleton];omega
theorem A2d{l:List Int}(h:A1o l)(hl:l.length≤1000){x:Int}(hx:wfi x):A1o (l++[x]):=by
 refine⟨fun y hy=> ?_,by rw[Z23,List.length_singleton];omega⟩
 rcases Mh.1 hy with hy|hy
 ·exact h.1 y hy
 ·rw[Px.1 hy];exact hx
structure SN (m:Nat)(n:As):Prop where
 w:Ap5 n
 c:n.Ay.length≤m
 t:n.F4.length≤m
 g:n.Fh.length≤m
theorem SN.tag{m:Nat}{n:As}(h:SN m n)(hm:m≤1000){x:Int}(hx:wfi x):SN (m+1) (As.mk n.Vg n.C8 n.Sj n.fUp n.Sk n.Ee n.Sl n.Sm n.Ay n.Acv n.Sn n.F4 (n.Fh++[x])):=by
 have:=h.c;have:=h.t;have:=h.g;exact⟨{h.w with tags:=A2d h.w.tags (by omega) hx},Nat.le_succ_of_le h.c,Nat.le_succ_of_le h.t,by simp;omega⟩
theorem SN.chunk{m:Nat}{n:As}(h:SN m n)(hm:m≤1000){x:Int}(hx:wfi x):SN (m+1) (As.mk n.Vg n.C8 n.Sj n.fUp n.Sk n.Ee n.Sl n.Sm (n.Ay++[x]) n.Acv n.Sn n.F4 n.Fh):=by
 have:=h.c;have:=h.t;have:=h.g;exact⟨{h.w with chunks:=A2d h.w.chunks (by omega) hx},by simp;omega,Nat.le_succ_of_le h.t,Nat.le_succ_of_le h.g⟩
theorem SN.thing{m:Nat}{n:As}(h:SN m n)(hm:m≤1000){x:Bc}(hx:ThingW x):SN (m+1) (As.mk n.Vg n.C8 n.Sj n.fUp n.Sk n.Ee n.Sl n.Sm n.Ay n.Acv n.Sn (n.F4++[x]) n.Fh):=by
 have:=h.c;have:=h.t;have:=h.g;refine⟨{h.w with things:=⟨fun y hy=> ?_,by rw[Z23,List.length_singleton];omega⟩},Nat.le_succ_of_le h.c,by simp;omega,Nat.le_succ_of_le h.g⟩
 rcases Mh.1 hy with hy|hy
 ·exact h.w.things.1 y hy
 ·rw[Px.1 hy];exact hx
theorem SN.mono{m k:Nat}{n:As}(h:SN m n)(hk:m≤k):SN k n:=⟨h.w,Vv h.c hk,Vv h.t hk,Vv h.g hk⟩
theorem sbn{i:Nat}(hi:0<i)(h:i≤1000):An4 .i64 (i:Int) 1=((i - 1:Nat):Int):=by rw[sb1 (by omega) (by omega)];omega
theorem Bdy (K:Nat){c:D0}(hc:Agp c){x:D9}(hx:Ahl x=true):OkP (Ax4 K c x) ThingW:=by
 obtain⟨b1,b2,_⟩:=A1 hx
 have j: ∀(c:D0) (t:Bc),Agp c->OkP (Asv K x c.fb c.fi c.fh t) ThingW:=by
  intro c t hc;unfold Asv;refine Ad4 (Apz K hc (by omega)) (fun y1 c1 h1 w1=>Ad4 (Apz K w1 (by omega)) (fun y2 c2 h2 w2=> ?_))
  dsimp only at w2 ⊢
  have e:An4 .i64 x.G6 y2=x.G6 - y2:=by unfold An4;exact Gy (by omega) (by omega)
  rw[e];refine Ad4 (Apz K w2 (by omega)) (fun y3 c3 h3 w3=>okp ⟨Aym _,Aym _,Atl⟩ w3)
 unfold Ax4;obtain⟨r,e,w⟩:=Axk K hc (n:=4) (by omega)
 rw[e,Z0];refine Aos (fun _=>Aos (fun h=> ?_) (fun _=>j _ _ w)) (fun _=>j _ _ w);rw[decide_eq_true_eq]at h;rw[show An4 .i64 x.Ay 1=x.Ay - 1 from by unfold An4;exact Gy (by omega) (by omega)]
 exact Ad4 (Apz K w (by omega)) (fun y1 c1 h1 w1=>Ad4 (Apz K w1 (by omega)) (fun y2 c2 h2 w2=>okp ⟨Aym _,Aym _,K0 (x:=2) (by decide) (by decide)⟩ w2))
theorem Bl7 (K:Nat): ∀(f i m:Nat) (c:D0) (n:As),i<f->m+i≤50->SN m n->Agp c->OkP (At4 K f (i:Int) c.fb c.fi c.fh n) (SN 50):=by
 intro f
 induction f with
 |zero=>intro i m c n h;omega
 |succ f ih=>
  intro i m c n hi hm hn hc
  have:=hn.g;rw[At4];refine Aos (fun h=> ?_) (fun _=>okp (hn.mono (by omega)) hc)
  rw[decide_eq_true_eq]at h;refine Ad4 (Apz K hc (by omega)) (fun y c1 hy w1=>Arg (A40 (by omega) _) ?_)
  rw[sbn (by omega) (by omega)]
  exact ih (i - 1) (m+1) c1 _ (by omega) (by omega) (hn.tag (by omega) (K0 (by omega) (by omega))) w1
section
variable {K:Nat} (hK:281474976710656≤K)
include hK
theorem Bl8{x:D9}(hx:Ahl x=true): ∀(f i m:Nat) (c:D0) (n:As),i<f->m+i≤40->SN m n->Agp c->OkP (At5 K x f (i:Int) c.fb c.fi c.fh n) (SN 50):=by
 intro f
 induction f with
 |zero=>intro i m c n h;omega
 |succ f ih=>
  intro i m c n hi hm hn hc
  have:=hn.t;rw[At5];refine Aos (fun h=> ?_) (fun _=> ?_)
  ·rw[decide_eq_true_eq]at h;refine Ad4 (Bdy K hc hx) (fun y c1 hy w1=>Arg (Baf (by omega) _) ?_)
   rw[sbn (by omega) (by omega)]
   exact ih (i - 1) (m+1) c1 _ (by omega) (by omega) (hn.thing (by omega) hy) w1
  ·refine Ad4 (Apz K hc (by omega)) (fun y c1 hy w1=> ?_)
   have:=Bl7 K K y.toNat 40 c1 n (by omega) (by omega) (hn.mono (by omega)) w1
   rw[Int.toNat_of_nonneg (by omega)]at this
   exact this
theorem Bg6{x:D9}(hx:Ahl x=true)(z:As): ∀(f i m:Nat) (c:D0) (n:As),i<f->m+i≤20->SN m n->Agp c->OkP (At7 K x f (i:Int) c.fb c.fi c.fh n z) (SN 50):=by
 obtain⟨b1,b2,_⟩:=A1 hx
 have j: ∀(c:D0) (n:As),SN 20 n->Agp c->OkP (At6 K x c.fb c.fi c.fh n) (SN 50):=by
  intro c n hn hc;unfold At6;refine Ad4 (Apz K hc (by omega)) (fun y c1 hy w1=> ?_)
  have:=Bl8 hK hx K y.toNat 20 c1 n (by omega) (by omega) hn w1
  rw[Int.toNat_of_nonneg (by omega)]at this
  exact this
 intro f
 induction f with
 |zero=>intro i m c n h;omega
 |succ f ih=>
  intro i m c n hi hm hn hc
  have:=hn.c;rw[At7];refine Aos (fun h=> ?_) (fun _=>Aos (fun h=> ?_) (fun _=>j _ _ (hn.mono (by omega)) hc))
  ·rw[decide_eq_true_eq]at h;refine Arg (A40 (by omega) _) ?_
   rw[sbn (by omega) (by omega)]
   exact ih (i - 1) (m+1) c _ (by omega) (by omega) (hn.chunk (by omega) (K0 (by omega) (by omega))) hc
  ·rw[decide_eq_true_eq]at h;refine Arg ⟨by omega,h⟩ ?_
   rw[ad1 (x:=x.G6) (by omega) (by omega)]
   refine Ad4 (Apz K hc (by omega)) (fun y c1 hy w1=> ?_)
   exact j c1 _ (SN.mono (m:=m) ⟨{hn.w with cur:=Aym _,bump:=K0 (x:=y) (by omega) (by omega)},hn.c,hn.t,hn.g⟩ (by omega)) w1
theorem Bg7{x:D9}(hx:Ahl x=true){c:D0}(hc:Agp c):OkP (Ay5 K c x) (SN 50):=by
 obtain⟨b1,b2,b3,b4,b5,b6⟩:=A1 hx;unfold Ay5 Ak1
 have s0: ∀a b d:Int,wfi a->wfi b->wfi d->SN 0 (As.mk a b d 0 0 0 0 0 [] 0 0 [] []):=fun a b d ha hb hd=>⟨⟨ha,hb,hd,Atl,Atl,Atl,Atl,Atl,Ati,Atl,Atl,Azi,Ati⟩,by simp,by simp,by simp⟩
 refine Ad4 (Apz K hc (by omega)) (fun y1 c1 h1 w1=> ?_)
 rw[Z0];refine Ad4 (Apz K w1 (by omega)) (fun y2 c2 h2 w2=>Aos (fun _=>okp ((s0 _ _ _ (K0 (by omega) (by omega)) (Aym _) Atl).mono (by omega)) w2) (fun _=> ?_))
 refine Ad4 (Apz K w2 (by omega)) (fun y3 c3 h3 w3=>Ad4 (Apz K w3 (by omega)) (fun y4 c4 h4 w4=> ?_))
 have:=Bg6 hK hx (As.mk 0 0 0 0 0 0 0 0 [] 0 0 [] []) K y4.toNat 10 c4 _ (by omega) (by omega) ((s0 y2 (An3 .i64 1 y1) y3 (K0 (by omega) (by omega)) (Aym _) (K0 (by omega) (by omega))).mono (by omega)) w4
 rw[Int.toNat_of_nonneg (by omega)]at this
 exact this
end
theorem A80 (a b d:Int)(ha:wfi a)(hb:wfi b)(hd:wfi d):ThingW (Bc.mk a b d):=⟨ha,hb,hd⟩
structure DP (c:D9)(n:As):Prop where
 l:Auc c n
 t:ThP c [] n
 e:EpP 1 n
theorem DP.w{c:D9}{n:As}(h:DP c n):Ap5 n:=A19 (Aiq.2 h.l).1 h.e (by omega)
theorem Bop{c:D9}{n:As}(L:Auc c n)(e:EpP 1 n):SN 40 n:=⟨A19 (Aiq.2 L).1 e (by omega),by have:=Ar3 L.conf L.dist;omega,by have:=L.nth;omega,by have:=L.ntag;omega⟩
theorem Bdz (K:Nat): ∀(f i m:Nat) (c:D0) (n:As),i<f->m+i≤50->SN m n->Agp c->OkP (Asw K f (i:Int) c.fb c.fi c.fh n) (SN 50):=by
 intro f
 induction f with
 |zero=>intro i m c n h;omega
 |succ f ih=>
  intro i m c n hi hm hn hc
  have:=hn.g;rw[Asw];refine Aos (fun h=> ?_) (fun _=>okp (hn.mono (by omega)) hc)
  rw[decide_eq_true_eq]at h;refine Ad4 (Apz K hc (by omega)) (fun y c1 hy w1=>Arg (A40 (by omega) _) ?_)
  rw[sbn (by omega) (by omega)]
  exact ih (i - 1) (m+1) c1 _ (by omega) (by omega) (hn.tag (by omega) (K0 (by omega) (by omega))) w1
section
variable {K:Nat} (hK:281474976710656≤K)
include hK
theorem Bl9{x:D9}(hx:Ahl x=true){c:D0}(hc:Agp c):OkP (Az7 K c x) (SN 60):=by
 unfold Az7 Ak5;refine Ad4 (Bg7 hK hx hc) (fun n c1 hn w=> ?_)
 have:=hn.c;have:=hn.t;have:=hn.g
 have W:=hn.w
 have M:=hn.mono (k:=60) (by omega)
 repeat' (first|refine A3f _ (by assumption) (by decide) (fun x c hx hc=>Arg rfl ?_)|refine Ad4 (Apz _ (by assumption) (by omega)) (fun x c hx hc=> ?_)|refine Aos (fun _=> ?_) (fun _=> ?_))
 ·exact okp ⟨{W with st:=Aym _},M.c,M.t,M.g⟩ (by assumption)
 ·exact okp ⟨{W with gen:=(by decide: ∀y∈([0,4,5]:List Int),wfi y) _ ‹_›},M.c,M.t,M.g⟩ (by assumption)
 ·exact okp ⟨{W with up:=(by decide: ∀y∈([-1,1,8,9]:List Int),wfi y) _ ‹_›},M.c,M.t,M.g⟩ (by assumption)
 ·exact Arg (A40 (show n.Ay.length≤_ by omega) _) (okp ((hn.chunk (by omega) ((by decide: ∀y∈([0,12,-1]:List Int),wfi y) _ ‹_›)).mono (by omega)) (by assumption))
 ·exact okp ⟨{W with cur:=K0 (x:= ‹Int›) (by omega) (by omega)},M.c,M.t,M.g⟩ (by assumption)
 ·exact okp ⟨{W with bump:=(by decide: ∀y∈([0,8,17,-1]:List Int),wfi y) _ ‹_›},M.c,M.t,M.g⟩ (by assumption)
 ·exact Arg (A40 (show n.Fh.length≤_ by omega) _) (okp ((hn.tag (by omega) ((by decide: ∀y∈([255,256,-1]:List Int),wfi y) _ ‹_›)).mono (by omega)) (by assumption))
 ·refine Arg (Baf (show n.F4.length≤_ by omega) _) (okp ((hn.thing (by omega) (A80 _ _ _ ?_ ?_ ?_)).mono (by omega)) (by assumption))
  all_goals exact K0 (by dsimp only;omega) (by dsimp only;omega)
 ·exact okp M (by assumption)
theorem Bag{c:D9}{n:As}(L:Auc c n)(e:EpP 1 n): ∃n' b,Aqf K c n 2 (An3 .i64 c.G6 1)=some (n',b)∧SN 40 n':=by
 have hm:=P2;obtain⟨b1,b2,_⟩:=A1 L.conf
 have S:=Bop L e
 have W:=S.w
 have h1:=Ar3 L.conf L.dist
 have h3:=L.nth
 have h4:=L.ntag
 have q1:2*c.G6≤c.Ay*c.G6:=Int.mul_le_mul_of_nonneg_right (by omega) (by omega)
 have hby:Ak9 c=c.Ay*c.G6:=by unfold Ak9;rw[L.conf];rfl
 have done: ∃n' b,some (n,false)=some (n',b)∧SN 40 n':=⟨_,_,rfl,S⟩;unfold Aqf Ao5 Aly;rw[ad1 (x:=c.G6) (by omega) (by omega),Atn K W,Z0,Aqw,L.conf]
 simp only[Z0,cond_true];rw[show(n.Vg != 1)=false by rw[L.st];rfl,cond_false,decide_eq_true (by omega),cond_true,Atq,Z0,decide_eq_false (by omega),cond_false,Ani,Ayr hK L.conf]
 simp only[Z0];cases q:inB 2 0 (c.Ay - 1)with
 |false=>exact done
 |true=>
 simp only[Bool.not_true,cond_false]
 have hr:Atd (c.G6+1) c.G6=2:=by
  unfold Atd;rw[Acx.2 ⟨by omega,by omega⟩,Acx.2 ⟨by omega,by omega⟩]
  show(c.G6+1+c.G6 - 1) / c.G6=2;rw[show c.G6+1+c.G6 - 1=c.G6*2 by omega,Int.mul_ediv_cancel_left _ (by omega)]
 rw[A0a,Z0,hr,Z0];obtain⟨k,rfl⟩: ∃k,K=k+3:=⟨K - 3,by omega⟩
 have e3: ∀i:Nat,i≤2->An3 .i64 2 (i:Int)=2+i:=fun i hi=>by unfold An3;exact Gy (by omega) (by omega)
 have s1:=A40 (l:=n.Ay) (by omega) (An3 .i64 2 0)
 have s2:=A40 (l:=n.Ay++[An3 .i64 2 0]) (by simp;omega) (An3 .i64 2 (An3 .i64 0 1))
 have s3:=Baf (l:=n.F4) (by omega) (Bc.mk (An5 .i64 2 c.G6) (c.G6+1) 2)
 rw[Am8,show decide ((0:Int)<2)=true from rfl,cond_true]
 rw[if_pos s1,Am8,show decide (An3 .i64 0 1<2)=true from rfl,cond_true]
 simp only;rw[if_pos s2,Am8,show decide (An3 .i64 (An3 .i64 0 1) 1<2)=false from rfl,cond_false]
 simp only;rw[if_pos s3,Avf hK c (As.mk n.Vg n.C8 n.Sj n.fUp n.Sk n.Ee n.Sl n.Sm (n.Ay++[An3 .i64 2 0]++[An3 .i64 2 (An3 .i64 0 1)]) n.Acv n.Sn (n.F4++[Bc.mk (An5 .i64 2 c.G6) (c.G6+1) 2]) n.Fh) (by simp;omega) (by simp;omega) (show n.Fh.length≤_ by omega),Z0]
 cases q3:Aqm c (As.mk n.Vg n.C8 n.Sj n.fUp n.Sk n.Ee n.Sl n.Sm (n.Ay++[An3 .i64 2 0]++[An3 .i64 2 (An3 .i64 0 1)]) n.Acv n.Sn (n.F4++[Bc.mk (An5 .i64 2 c.G6) (c.G6+1) 2]) n.Fh)with
 |false=>
  simp only[Bool.not_false,cond_true];rw[show As.mk n.Vg n.C8 n.Sj n.fUp n.Sk n.Ee n.Sl n.Sm n.Ay n.Acv n.Sn n.F4 n.Fh=n from rfl,Atn _ W]
  exact done
 |true=>
  exact⟨_,_,rfl,Bop (Aiq.1 ⟨q3,L.st⟩) ⟨e.ep,e.ue,e.cur⟩⟩
theorem Bd0{x:D9}(hx:Ahl x=true)(z:As): ∀(f i:Nat) (c:D0) (n:As),i<f->i≤20->DP x n->Agp c->OkP (Asy K x f (i:Int) c.fb c.fi c.fh n z) (SN 50):=by
 obtain⟨b1,b2,_⟩:=A1 hx
 have j: ∀(c:D0) (n:As),SN 40 n->Agp c->OkP (Asx K c.fb c.fi c.fh n) (SN 50):=by
  intro c n hn hc;unfold Asx;refine Ad4 (Apz K hc (by omega)) (fun y c1 hy w1=> ?_)
  have:=Bdz K K y.toNat 40 c1 n (by omega) (by omega) hn w1
  rw[Int.toNat_of_nonneg (by omega)]at this
  exact this
 intro f
 induction f with
 |zero=>intro i c n h;omega
 |succ f ih=>
  intro i c n hi hm hn hc;rw[Asy];refine Aos (fun h=> ?_) (fun _=> ?_)
  ·rw[decide_eq_true_eq]at h;refine Ad4 (Apz K hc (by omega)) (fun y c1 hy w1=>A3f K w1 (by decide) (fun a c2 ha w2=>Arg rfl ?_))
   have e:An3 .i64 1 y=1+y:=by unfold An3;exact Gy (by omega) (by omega)
   obtain⟨n',b,e2,h2⟩:=A50 hK hn.l hn.w hn.e.cur (1+y) a ⟨by omega,by omega⟩
   dsimp only;rw[e,e2,Z0,sbn (by omega) (by omega)]
   have h3:DP x n':=by
    rcases h2 with rfl|⟨off,hs,rfl⟩
    ·exact hn
    ·obtain⟨l1,l2⟩:=Bb3 hn.l hn.e.cur hn.t hs;exact⟨l1,l2,⟨hn.e.ep,hn.e.ue,hn.e.cur⟩⟩
   exact ih (i - 1) c2 n' (by omega) (by omega) h3 w2
  ·obtain⟨r,e,w⟩:=Axk K hc (n:=3) (by omega)
   rw[show D0.mk c.fb c.fi c.fh=c from rfl,e,Z0]
   refine Aos (fun _=> ?_) (fun _=>j _ _ (Bop hn.l hn.e) w);obtain⟨n',b,e2,h2⟩:=Bag hK hn.l hn.e;rw[e2,Z0];exact j _ _ h2 w
theorem Bd1{x:D9}(hx:Ahl x=true){c:D0}(hc:Agp c):OkP (Ax5 K c x) (SN 50):=by
 obtain⟨b1,b2,b3,b4,b5,b6⟩:=A1 hx;unfold Ax5 Ak1;refine Ad4 (Apz K hc (by omega)) (fun y1 c1 h1 w1=> ?_)
 rw[Z0];refine Ad4 (Apz K w1 (by omega)) (fun y2 c2 h2 w2=>Ad4 (Apz K w2 (by omega)) (fun y3 c3 h3 w3=> ?_))
 dsimp only
 have e:An3 .i64 1 y1=1+y1:=by unfold An3;exact Gy (by omega) (by omega)
 rw[e]
 have L:Auc x (As.mk 1 (1+y1) y2 0 0 0 0 0 [] 0 0 [] []):=⟨hx,rfl,⟨by show(1:Int)≤1+y1;omega,by show 1+y1≤x.G7;omega⟩,⟨by show(0:Int)≤0;omega,by show(0:Int)≤x.E5;omega⟩,⟨by show(0:Int)≤0;omega,by show(0:Int)≤x.E5;omega⟩,⟨by show(0:Int)≤0;omega,by show(0:Int)≤x.E5;omega⟩,⟨by show(0:Int)≤0;omega,by show(0:Int)≤x.E5;omega⟩,h2.1,by show(0:Int)≤0;omega,rfl,rfl,by simp,by simp,rfl,rfl⟩
 have E:EpP 1 (As.mk 1 (1+y1) y2 0 0 0 0 0 [] 0 0 [] []):=⟨by show y2≤1;omega,by show(0:Int)≤1;omega,by show(0:Int)≤0;omega,by show(0:Int)≤1000;omega⟩
 have L2:=A5c L (k:=y3) ⟨by omega,by omega⟩ (by simp)
 rw[A5d hK L (Bop L E).w ⟨by omega,by omega⟩ (by simp),Z0]
 have D:DP x (A3b (As.mk 1 (1+y1) y2 0 0 0 0 0 [] 0 0 [] []) y3):=⟨L2,⟨rfl,rfl,by simp[Are,A3b,Apo]⟩,⟨E.ep,E.ue,by show 0≤y3+1;omega,by show y3+1≤1000;omega⟩⟩
 refine Ad4 (Apz K w3 (by omega)) (fun y4 c4 h4 w4=> ?_)
 have:=Bd0 hK hx (As.mk 0 0 0 0 0 0 0 0 [] 0 0 [] []) K y4.toNat c4 _ (by omega) (by omega) D w4
 rw[Int.toNat_of_nonneg (by omega)]at this
 exact this
structure SW (m:Nat)(x:Az):Prop where
 w:A0o x
 g:x.Fh.length≤m
 c:x.Ay.length≤m
theorem Bg8{x:D9}(hx:Ahl x=true){c:D0}(hc:Agp c):OkP (Ay6 K c x) (SW 60):=by
 obtain⟨b1,b2,b3,b4,b5,b6⟩:=A1 hx
 have j: ∀(c:D0) (a z:Az),SW 50 a->Agp c->OkP (Asz K c.fb c.fi c.fh a z) (SW 50):=by
  intro c a z ha hc;unfold Asz Avr;obtain⟨r,e,w⟩:=Axk K hc (n:=4) (by omega)
  rw[show D0.mk c.fb c.fi c.fh=c from rfl,e,Z0]
  exact Aos (fun _=>okp ⟨⟨ha.w.slot,ha.w.first,Ati,Ati,Atl⟩,by simp,by simp⟩ w) (fun _=>okp ha w)
 have d:OkP (Ax6 K c x) (SW 50):=by
  unfold Ax6;refine Ad4 (Bd1 hK hx hc) (fun n c1 hn w1=> ?_);dsimp only;rw[ad1 (x:=x.E5) (by omega) (by omega)]
  refine Ad4 (Apz K w1 (by omega)) (fun y2 c2 h2 w2=> ?_)
  dsimp only;rw[A15 K hn.w,Z0]
  have W:=A3z hn.w (s:=y2) (K0 (by omega) (by omega))
  refine Ad4 (Apz K w2 (by omega)) (fun y3 c3 h3 w3=> ?_)
  have hf:wfi y3:=K0 (by omega) (by omega)
  refine Aos (fun _=>Ad4 (Apz K w3 (by omega)) (fun y4 c4 h4 w4=> ?_)) (fun _=>j _ _ _ ⟨⟨W.slot,hf,W.tags,W.chunks,Atl⟩,hn.g,hn.c⟩ w3)
  exact j _ _ _ ⟨⟨W.slot,hf,W.tags,W.chunks,K0 (x:=y4) (by omega) (by omega)⟩,hn.g,hn.c⟩ w4
 unfold Ay6 Apj;refine Ad4 d (fun a c1 ha w=> ?_)
 have h1:=ha.g;have h2:=ha.c
 have W:=ha.w
 repeat' (first|refine A3f _ (by assumption) (by decide) (fun x c hx hc=>Arg rfl ?_)|refine Ad4 (Apz _ (by assumption) (by omega)) (fun x c hx hc=> ?_)|refine Aos (fun _=> ?_) (fun _=> ?_))
 ·exact okp ⟨{W with slot:=(by decide: ∀y∈([-1,0,8,9]:List Int),wfi y) _ ‹_›},show a.Fh.length≤60 by omega,show a.Ay.length≤60 by omega⟩ (by assumption)
 ·exact okp ⟨{W with first:=(by decide: ∀y∈([-1,9,0]:List Int),wfi y) _ ‹_›},show a.Fh.length≤60 by omega,show a.Ay.length≤60 by omega⟩ (by assumption)
 ·exact okp ⟨{W with done:=(by decide: ∀y∈([-1,0,8,16]:List Int),wfi y) _ ‹_›},show a.Fh.length≤60 by omega,show a.Ay.length≤60 by omega⟩ (by assumption)
 ·exact Arg (A40 (show a.Fh.length≤_ by omega) _) (okp ⟨{W with tags:=A2d W.tags (by omega) ((by decide: ∀y∈([-1,255,256]:List Int),wfi y) _ ‹_›)},by simp;omega,show a.Ay.length≤60 by omega⟩ (by assumption))
 ·exact Arg (A40 (show a.Ay.length≤_ by omega) _) (okp ⟨{W with chunks:=A2d W.chunks (by omega) ((by decide: ∀y∈([-1,0,12]:List Int),wfi y) _ ‹_›)},show a.Fh.length≤60 by omega,by simp;omega⟩ (by assumption))
 ·exact okp ⟨W,show a.Fh.length≤60 by omega,show a.Ay.length≤60 by omega⟩ (by assumption)
end
structure AnyP (w:C4):Prop where
 ww:Am6 w
 l:w.fL.length≤8
 s:w.fP.Vg.length≤12∧w.fP.N6.length≤12∧w.fP.N5.length≤192
 q:w.fQ.length≤40000
 n: ∀x∈w.fL,SN 80 x
theorem A2e{l:List Az}(h:A9d l)(hl:l.length≤100000){x:Az}(hx:A0o x):A9d (l++[x]):=by
 refine⟨fun y hy=> ?_,by rw[Z23,List.length_singleton];omega⟩
 rcases Mh.1 hy with hy|hy
 ·exact h.1 y hy
 ·rw[Px.1 hy];exact hx
theorem A6j{α:Type}{l:List α}{P:α->Prop}(h: ∀x∈l,P x)(i:Nat){x:α}(hx:P x): ∀y∈l.set i x,P y:=by
 intro y hy;rcases Z54 hy with hy|rfl
 ·exact h y hy
 ·exact hx
theorem AnyP.node{w:C4}(h:AnyP w)(i:Nat){x:As}(hx:SN 80 x):AnyP (C4.mk w.fC w.fP (w.fL.set i x) w.fQ w.Acw):=
 ⟨{h.ww with l:=Axd h.ww.l i hx.w},by show(w.fL.set i x).length≤8;rw[Z49];exact h.l,h.s,h.q,A6j h.n i hx⟩
section
variable {K:Nat} (hK:281474976710656≤K)
include hK
theorem Bg9{c:D0}(hc:Agp c){most:Int}(hm:0<most∧most≤1000):OkP (Ay7 K c most) AnyP:=by
 obtain⟨x,l,w,c',E,n,e,G,hE,hn,hwc,hx,_,_,w1⟩:=run_ok hK hc hm
 have W:=G.ww (by omega) (by omega)
 have I:=G.inv
 have hlen:=I.len;obtain⟨b1,b2,b3,b4,b5,b6⟩:=A1 I.conf
 have P:=Akq.1 I.pool
 have h1:=Bk7 w
 have h2:=Bdi w
 have h3:=G.wt
 have p1:=P.st;have p2:=P.own;have p3:=P.mem
 have hmm:=Aut (a:=w.fC.Ay) (b:=w.fC.G6) (m:=12) (n:=16) (by omega) b1.2 (by omega) b2.2
 have hm0:0<w.fC.Ay*w.fC.G6:=Int.mul_pos (by omega) (by omega)
 have N: ∀y∈w.fL,SN 12 y:=A7f fun k hk=>by
  have hb:=I.node k hk
  have hy:=A19 hb (G.ep k hk) (by omega)
  by_cases s:(gt w.fL k).Vg=1
  ·have X:=Aiq.1 ⟨hb,s⟩
   have:=X.nth;have:=X.ntag;have:=Ar3 X.conf X.dist;exact⟨hy,by omega,by omega,by omega⟩
  ·rw[Ayj hb s]at hy ⊢;exact⟨hy,by simp[Aqc],by simp[Aqc],by simp[Aqc]⟩
 have A:AnyP w:=⟨W,by omega,by omega,by omega,fun y hy=>(N y hy).mono (by omega)⟩
 unfold Ay7 At3;rw[e,Z0,Z0];refine Ad4 (Apz K w1 (by dsimp only;omega)) (fun k c2 hk w2=>Ad4 (Apz K w2 (by omega)) (fun d c3 hd w3=> ?_))
 dsimp only at hk ⊢
 have hg:=Akr hk.1 hk.2
 have S:=N _ hg
 have SW':=S.w
 have St:=S.t
 have M:=S.mono (k:=80) (by omega)
 unfold Aba;refine Aos (fun _=>Ad4 (Bl6 K w3) (fun y c4 hy w4=>okp ⟨{W with c:=hy},A.l,A.s,A.q,A.n⟩ w4)) (fun _=> ?_)
 refine Aos (fun _=>Ad4 (Apz K w3 (by omega)) (fun y c4 hy w4=>Ad4 (Apz K w4 (by omega)) (fun z c5 hz w5=>Arg hy (okp ⟨{W with p:={W.p with st:=⟨A6j W.p.st.1 _ (K0 (x:=z) (by omega) (by omega)),by rw[Z49];exact W.p.st.2⟩}},A.l,by dsimp only;rw[Z49];exact A.s,A.q,A.n⟩ w5)))) (fun _=> ?_)
 refine Aos (fun _=>Ad4 (Apz K w3 (by omega)) (fun y c4 hy w4=>Arg hy (okp ⟨{W with p:={W.p with mem:=⟨A6j W.p.mem.1 _ ⟨by decide,by decide⟩,by rw[Z49];exact W.p.mem.2⟩}},A.l,by dsimp only;rw[Z49];exact A.s,A.q,A.n⟩ w4))) (fun _=> ?_)
 refine Aos (fun _=>Ad4 (Bl9 hK I.conf w3) (fun y c4 hy w4=>Arg hk (okp (A.node _ (hy.mono (by omega))) w4))) (fun _=> ?_)
 refine Aos (fun _=>Ad4 (Apz K w3 (by omega)) (fun y c4 hy w4=>Arg hk (okp (A.node _ ⟨{SW' with st:=K0 (x:=y) (by omega) (by omega)},M.c,M.t,M.g⟩) w4))) (fun _=> ?_)
 refine Aos (fun _=>Ad4 (Apz K w3 (by omega)) (fun y c4 hy w4=>Arg hk (okp (A.node _ ⟨{SW' with up:=K0 (x:=y) (by omega) (by omega)},M.c,M.t,M.g⟩) w4))) (fun _=> ?_)
 refine Aos (fun _=>Arg hk (Arg hk (okp (A.node _ ⟨{SW' with ep:=Aym _},M.c,M.t,M.g⟩) w3))) (fun _=> ?_)
 refine Aos (fun _=>Ad4 (Bg8 hK I.conf w3) (fun y c4 hy w4=>Arg ?_ (okp ⟨{W with q:=A2e W.q (by omega) hy.w},A.l,A.s,by simp;omega,A.n⟩ w4))) (fun _=> ?_)
 ·have:=P2;rw[Z23,List.length_singleton];omega
 refine Aos (fun _=>Aos (fun h=> ?_) (fun _=>okp A w3)) (fun _=> ?_)
 ·rw[decide_eq_true_eq]at h;refine Arg ⟨by omega,by omega,by omega⟩ (okp ⟨{W with q:=⟨fun y hy=>W.q.1 y (List.mem_of_mem_drop (Z42 hy)),by have:=W.q.2;simp;omega⟩},A.l,A.s,by have:=A.q;simp;omega,A.n⟩ w3)
 refine Aos (fun _=>A3f K w3 (by decide) (fun y c4 hy w4=>Arg rfl (Arg ?_ (okp ⟨{W with log:=⟨fun z hz=> ?_,by have:=W.log.2;simp;omega⟩},A.l,A.s,A.q,A.n⟩ w4)))) (fun _=> ?_)
 ·have:=P2;rw[Z23,List.length_singleton];omega
 ·rcases Mh.1 hz with hz|hz
  ·exact W.log.1 z hz
  ·rw[Px.1 hz];exact(by decide: ∀y∈([0,255,256,-1]:List Int),wfi y) _ hy
 refine Aos (fun _=>Arg hk (Arg hk (Ad4 (Apz K w3 (by omega)) (fun y c4 hy w4=>Arg (Baf (by omega) _) (Arg hk (okp (A.node _ ((S.thing (by omega) (A80 _ _ _ (K0 (x:=y) (by omega) (by omega)) (K0 (by decide) (by decide)) Atl)).mono (by omega))) w4)))))) (fun _=> ?_)
 refine Aos (fun _=>Ad4 (Apz K w3 (by omega)) (fun y c4 hy w4=>Arg hk (okp (A.node _ ⟨{SW' with next:=K0 (x:=y) (by omega) (by omega)},M.c,M.t,M.g⟩) w4))) (fun _=> ?_)
 refine Aos (fun _=>Aos (fun h=> ?_) (fun _=>okp A w3)) (fun _=>okp A w3);rw[decide_eq_true_eq]at h
 refine Ad4 (Apz K w3 (by omega)) (fun y c4 hy w4=>Arg ⟨by omega,h⟩ (okp ⟨{W with q:=⟨A6j W.q.1 _ {W.q.1 _ (Akr (i:=0) (by omega) h)with done:=K0 (x:=y) (by omega) (by omega)},by rw[Z49];exact W.q.2⟩},A.l,A.s,by dsimp only;rw[Z49];exact A.q,A.n⟩ w4))
end
theorem Bt8{K:Nat}(a:List Int)(ha:a.length≤1048576)(hb:Ayl a)(i:Int)(hi:0≤i∧i≤100): ∃r,A3g K a i=some r∧0≤r:=by
 unfold A3g
 by_cases q:i<(a.length:Int)
 ·rw[decide_eq_true q,cond_true,if_pos ⟨hi.1,q⟩]
  have:=hb _ (Akr hi.1 q);exact⟨_,rfl,by rw[Gy (by omega) (by omega)];omega⟩
 ·rw[decide_eq_false q,cond_false,if_pos (by decide)]
  refine⟨_,rfl,?_⟩
  have e:An3 .i64 (An5 .i64 i 31) (An5 .i64 (a.length:Int) 7)=i*31+(a.length:Int)*7:=by
   unfold An3 An5;rw[Gy (n:=i*31) (by omega) (by omega),Gy (n:=(a.length:Int)*7) (by omega) (by omega),Gy (by omega) (by omega)]
  rw[e];exact Int.tmod_nonneg _ (by omega)
theorem Bma{w:C4}(hw:Am6 w)(hq:w.fQ.length≤100000){k:Int}(hk:0≤k∧k<(w.fL.length:Int)):Am6 (Ar5 w k):=by
 have hn:=hw.l.1 _ (Akr hk.1 hk.2);obtain⟨u1,u2,u3⟩:=A1s hw.l hk
 have hk':0≤k∧k<((Ana w.fL k).length:Int):=by rw[u3];exact hk
 exact⟨hw.c,(A8j hw.p _).1,Axd u1 _ (Btn (u1.1 _ (Akr hk'.1 hk'.2))),A2e hw.q hq (A3z hn (A9a _)),hw.log⟩
theorem Bmb{w:C4}(hw:Am6 w)(hq:w.fQ.length≤100000){k:Int}(hk:0≤k∧k<(w.fL.length:Int)):Am6 (Aum w k):=by
 have hn:=hw.l.1 _ (Akr hk.1 hk.2);exact⟨hw.c,(A8j hw.p _).1,Axd hw.l _ (Bde hn),A2e hw.q hq (A3z hn Atl),hw.log⟩
section
variable {K:Nat} (hK:281474976710656≤K)
include hK
omit hK in
theorem A5h (K:Nat){w:C4}(hl:w.fL.length≤1000)(k:Int):Ard K w k=some (decide (0≤k∧k<(w.fL.length:Int))&&(gt w.fL k).Vg==1):=by
 unfold Ard;rw[A0p K (by omega),Z0]
 by_cases q:0≤k∧k<(w.fL.length:Int)
 ·rw[decide_eq_true q,cond_true,if_pos q];rfl
 ·rw[decide_eq_false q];rfl
theorem Bd2{w:C4}(A:AnyP w)(k:Int): ∃v,Arx K w k=some v∧Avv K w k=some v∧Am6 v:=by
 have hw:=A.ww;have hl:=A.l;have hq:=A.q
 have none_: ∀b,Ard K w k=some b->b=false->Avv K w k=some w:=by
  rintro b e rfl;unfold Avv Avd;rw[Aqr hK hw,Z0,e];rfl
 by_cases q:0≤k∧k<(w.fL.length:Int)
 ·by_cases s:(gt w.fL k).Vg=1
  ·refine⟨_,A63 hK w hw (by omega) q s,?_,Bma hw (by omega) q⟩
   unfold Avv Avd;rw[Aqr hK hw,Z0,A5h K (by omega),decide_eq_true q,s,Z0]
   simp only[beq_self_eq_true,Bool.and_self,cond_true];rw[A62 hK w hw (by omega) q];rfl
  ·refine⟨w,?_,none_ _ (A5h K (by omega) k) (by rw[beq_eq_false_iff_ne.2 s,Bool.and_false]),hw⟩
   unfold Arx;rw[Atg hK hw,Z0,Aui K (Abh hw.l),Z0,decide_eq_true q,cond_true,if_pos q,bne_iff_ne.2 s];rfl
 ·refine⟨w,?_,none_ _ (A5h K (by omega) k) (by rw[decide_eq_false q,Bool.false_and]),hw⟩
  unfold Arx;rw[Atg hK hw,Z0,Aui K (Abh hw.l),Z0,decide_eq_false q];rfl
theorem Bah{w:C4}(A:AnyP w)(k:Int): ∃v,Ap4 K w k=some v∧As6 K w k=some v∧Am6 v:=by
 have hw:=A.ww;have hl:=A.l;have hq:=A.q
 have none_: ∀b,Ard K w k=some b->b=false->As6 K w k=some w:=by
  rintro b e rfl;unfold As6 As5;rw[Aqr hK hw,Z0,e];rfl
 by_cases q:0≤k∧k<(w.fL.length:Int)
 ·by_cases s:(gt w.fL k).Vg=1
  ·refine⟨_,A4k hK w hw (by omega) q s,?_,Bmb hw (by omega) q⟩
   unfold As6 As5;rw[Aqr hK hw,Z0,A5h K (by omega),decide_eq_true q,s,Z0]
   simp only[beq_self_eq_true,Bool.and_self,cond_true];rw[A4j hK w hw (by omega) q];rfl
  ·refine⟨w,?_,none_ _ (A5h K (by omega) k) (by rw[beq_eq_false_iff_ne.2 s,Bool.and_false]),hw⟩
   unfold Ap4;rw[Atg hK hw,Z0,Aui K (Abh hw.l),Z0,decide_eq_true q,cond_true,if_pos q,bne_iff_ne.2 s];rfl
 ·refine⟨w,?_,none_ _ (A5h K (by omega) k) (by rw[decide_eq_false q,Bool.false_and]),hw⟩
  unfold Ap4;rw[Atg hK hw,Z0,Aui K (Abh hw.l),Z0,decide_eq_false q];rfl
theorem Boq{a:List Int}(hb:Ayl a)(ha:a.length≤1048576){most:Int}(hm:0<most∧most≤1000): ∃w c,Ava K a most=some (c,w)∧AnyP w∧Agp c:=by
 obtain⟨c,e1,w1⟩:=Bb8 hK hb ha;obtain⟨w,c2,e2,A,w2⟩:=Bg9 hK w1 hm;refine⟨w,c2,?_,A,w2⟩;unfold Ava;rw[e1,Z0,e2];rfl
end
theorem A8d (a:List Int)(u:A89 a): ∃K,Aw5 K a=some true:=by
 refine⟨562949953421312,?_⟩
 have hK:281474976710656≤562949953421312:=by decide
 unfold Aw5 A3v;rw[Z0]
 by_cases hbig:(a.length:Int)>1048576
 ·rw[decide_eq_true hbig,cond_true]
 rw[decide_eq_false hbig,cond_false]
 have ha:a.length≤1048576:=by omega
 have hb:Ayl a:=(Bgj u).1;obtain⟨w,c,e1,A,wc⟩:=Boq hK hb ha (most:=40) (by omega)
 obtain⟨k,e2,bk,_⟩:=Ago 562949953421312 wc (n:=7) (by omega)
 have d1:Avs 562949953421312 a=some (w,An4 .i64 k.1 1):=by
  unfold Avs;rw[e1,Z0,e2];rfl
 have d2:Axa 562949953421312 a=some (w,An4 .i64 k.1 1):=d1;obtain⟨w0,o,E,n,e3,G,hE,hn,_⟩:=Bad hK hb ha
 have W:=G.ww (by omega) (by omega)
 have I:=G.inv;obtain⟨b1,b2,b3,_⟩:=A1 I.conf
 have hlen:=I.len
 have hq:=Bk7 w0
 have hwt:=G.wt;obtain⟨v1,i1,s1,V1⟩:=Bd2 hK A (An4 .i64 k.1 1);obtain⟨v2,i2,s2,V2⟩:=Bah hK A (An4 .i64 k.1 1);rw[d1,Z0,d2,Z0,e3,Z0,Bae hK W (by omega),Z0]
 dsimp only;rw[i1,Z0,s1,Z0,A3e hK V1,Z0,cond_true,i2,Z0,s2,Z0,A3e hK V2,Z0];simp only[Bool.not_true,cond_false]
 by_cases hz:(A01 w0).length=0
 ·rw[hz];rfl
 rw[show(((A01 w0).length:Int)==0)=false from Ag6 (by omega),cond_false]
 obtain⟨r,e4,hr⟩:=Bt8 (K:=562949953421312) a ha hb 4 (by omega)
 have t1:0≤Int.tmod r ((A01 w0).length:Int):=Int.tmod_nonneg _ hr
 have t2:Int.tmod r ((A01 w0).length:Int)<((A01 w0).length:Int):=Int.tmod_lt_of_pos _ (by omega)
 rw[e4,Z0,if_pos (by omega),if_pos ⟨t1,t2⟩]
 obtain⟨hk,hal⟩:=Bg5.1 (Akr t1 t2);generalize gt (A01 w0) (Int.tmod r ((A01 w0).length:Int))=k at hk hal ⊢
 have al:AlW w0.fL k:=A8t I hal;obtain⟨t,AT,al'⟩:=id al
 have st:=((Av1 AT).1 al'.lv).2
 have G1:=A7q G hE.1 al
 have G2:=A7r G (by omega) al
 have W1:=G1.ww (by omega) (by omega)
 have W2:=G2.ww (by omega) (by omega)
 have l1:(Ar5 w0 k).fL.length=w0.fL.length:=by
  unfold Ar5;rw[Z49,(A1s W.l hk).2.2]
 have l2:(Aum w0 k).fL.length=w0.fL.length:=by unfold Aum;rw[Z49]
 have n1: ∀x:Az,((w0.fQ++[x]).length:Int)=An3 .i64 (w0.fQ.length:Int) 1:=by
  intro x;rw[ad1 (by omega) (by omega),Z23,List.length_singleton];omega
 have c1: ∀x:Az,(0:Int)≤(w0.fQ.length:Int)∧(w0.fQ.length:Int)<((w0.fQ++[x]).length:Int):=by
  intro x;rw[Z23,List.length_singleton];omega
 have g1: ∀x:Az,gt (w0.fQ++[x]) (w0.fQ.length:Int)=x:=by
  intro x;rw[K1 (by simp)];simp
 have k1:0≤k∧k<((Ar5 w0 k).fL.length:Int):=by omega
 have k2:0≤k∧k<((Aum w0 k).fL.length:Int):=by omega
 have x1:gt (Ar5 w0 k).fL k=Beq (gt (Ana w0.fL k) k):=Avz (by rw[(A1s W.l hk).2.2];exact hk) _
 have x2:gt (Aum w0 k).fL k=Ath (gt w0.fL k):=Avz hk _;rw[A63 hK w0 W (by omega) hk st,Z0,A4k hK w0 W (by omega) hk st,Z0,A4h hK _ W1,Z0,G1.inv.ok,cond_true,A4h hK _ W2,Z0,G2.inv.ok,cond_true,if_pos k1,if_pos k2,x1,x2,if_pos hk]
 have y1:(Beq (gt (Ana w0.fL k) k)).Vg=2:=rfl
 have y2:(Ath (gt w0.fL k)).Vg=1:=st
 have y3:(Ath (gt w0.fL k)).Sj=An3 .i64 (gt w0.fL k).Sj 1:=rfl
 have q1:(Ar5 w0 k).fQ=w0.fQ++[Agm (gt w0.fL k) (An3 .i64 k 1)]:=rfl
 have q2:(Aum w0 k).fQ=w0.fQ++[Agm (gt w0.fL k) 0]:=rfl
 have z1:(Ar5 w0 k).Acw=w0.Acw:=rfl;rw[q1,q2,n1,n1,y1,y2,y3,z1,←n1 (Agm (gt w0.fL k) 0),if_pos (c1 _),if_pos (c1 _),g1,g1];simp[Agm,k2.1,k2.2]
section
variable {K:Nat} (hK:281474976710656≤K)
include hK
end
section
variable {K:Nat} (hK:281474976710656≤K)
include hK
end
section
variable {K:Nat} (hK:281474976710656≤K)
include hK
end
end Go.Proofs.YtcdojenmonmcfaaGreat
