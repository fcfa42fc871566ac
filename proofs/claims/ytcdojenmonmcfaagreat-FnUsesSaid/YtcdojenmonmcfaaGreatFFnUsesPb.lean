/- The plain law for FnUses; no condition. -/
import Derived.Test.YtcdojenmonmcfaaGreatFFnUsesPa
set_option linter.all false
namespace Go.Proofs.YtcdojenmonmcfaaGreat
open Go.Eng Go.ChangeShapes Go.WideShapes Go.ChangeAt Go.RowKit
def lnk (n:As)(fi nx pv:Int):As:=As.mk n.Vg n.C8 n.Sj n.fUp n.Sk fi nx pv n.Ay n.Acv n.Sn n.F4 n.Fh
theorem Apv{l:List As}{j x:Int}(hj:0≤j∧j<(l.length:Int))(hx:0≤x∧x<(l.length:Int))(v:As):gt (l.set j.toNat v) x=if x=j then v else gt l x:=by
 by_cases e:x=j
 ·subst e;rw[if_pos rfl,A02 hj]
 ·rw[if_neg e,A03 hj.1 hx (Ne.symm e)]
theorem Bcr{l:List As}{n:Int}(h0:0≤n)(h1:n≤l.length)(h2:l.length≤8):plB l n= !(n==0):=by
 have:=A5q (l:=l) h0 (by omega:n≤1000)
 by_cases e:n=0
 ·rw[e];rw[e]at this;cases h:plB l 0 with
  |false=>rfl
  |true=>have:=this.1 h;omega
 ·rw[this.2 ⟨by omega,by omega⟩,Agz e];rfl
theorem A7d{l:List As}(R:Rg l){k x:Int}(hk:0≤k∧k<(l.length:Int))(hx:0≤x∧x<(l.length:Int)):
  gt (A5m l k) x=lnk (gt l x) (if(gt l k).Sm=0∧x+1=(gt l k).fUp∧(gt l x).Ee=k+1 then(gt l k).Sl else(gt l x).Ee) (if x+1=(gt l k).Sm then(gt l k).Sl else(gt l x).Sl) (gt l x).Sm:=by
 obtain⟨r1,r2,r3,r4⟩:=R.rg k hk
 have hl:=R.len;unfold A5m;rw[Bcr r4.1 r4.2 hl,Bcr r1.1 r1.2 hl,sb1 (x:=(gt l k).Sm) (by omega) (by omega),sb1 (x:=(gt l k).fUp) (by omega) (by omega),ad1 (by omega) (by omega)]
 by_cases h:(gt l k).Sm=0
 ·rw[h];simp only[beq_self_eq_true,Bool.not_true,cond_false,Z30];rw[if_neg (by omega: ¬x+1=0)]
  by_cases h2:(gt l k).fUp=0
  ·rw[h2,if_neg (by omega)];rfl
  ·rw[Agz h2];simp only[Bool.not_false,Z30]
   by_cases h3:(gt l ((gt l k).fUp - 1)).Ee=k+1
   ·rw[h3,beq_self_eq_true,cond_true,Apv (by omega) hx]
    by_cases e:x=(gt l k).fUp - 1
    ·rw[if_pos e,e,h3,if_pos ⟨trivial,by omega,rfl⟩];rfl
    ·rw[if_neg e,if_neg (by omega)];rfl
   ·rw[Agz h3,cond_false,if_neg]
    ·rfl
    ·rintro⟨_,a,b⟩;rw[←a,Int.add_sub_cancel]at h3;exact h3 b
 ·rw[Agz h];simp only[Bool.not_false,cond_true];rw[Apv (by omega) hx,if_neg (fun q:(gt l k).Sm=0∧x+1=(gt l k).fUp∧(gt l x).Ee=k+1=>h q.1)]
  by_cases e:x=(gt l k).Sm - 1
  ·have e2:x+1=(gt l k).Sm:=by omega
   rw[if_pos e,if_pos e2,←e];rfl
  ·have e2: ¬x+1=(gt l k).Sm:=by omega
   rw[if_neg e,if_neg e2];rfl
theorem A30{l:List As}(R:Rg l){k x:Int}(hk:0≤k∧k<(l.length:Int))(hx:0≤x∧x<(l.length:Int))(hne:x≠k):
  gt (Aqi l k) x=lnk (gt l x) (if(gt l k).Sm=0∧x+1=(gt l k).fUp∧(gt l x).Ee=k+1 then(gt l k).Sl else(gt l x).Ee) (if x+1=(gt l k).Sm then(gt l k).Sl else(gt l x).Sl) (if x+1=(gt l k).Sl then(gt l k).Sm else(gt l x).Sm):=by
 obtain⟨r1,r2,r3,r4⟩:=R.rg k hk
 have hl:=R.len
 have hl0:=A2o l k;unfold Aqi A4z;rw[Apv (by rw[A3w,hl0];exact hk) (by rw[A3w,hl0];exact hx),if_neg hne]
 unfold A6c;rw[Bcr r3.1 r3.2 hl,sb1 (by omega) (by omega)]
 by_cases h:(gt l k).Sl=0
 ·rw[h];simp only[beq_self_eq_true,Bool.not_true,cond_false];rw[A7d R hk hx,h,if_neg (by omega: ¬x+1=0)]
 ·rw[Agz h];simp only[Bool.not_false,cond_true];rw[Apv (by rw[hl0];omega) (by rw[hl0];exact hx)]
  by_cases e:x=(gt l k).Sl - 1
  ·have e2:x+1=(gt l k).Sl:=by omega
   rw[if_pos e,if_pos e2,←e,A7d R hk hx];rfl
  ·have e2: ¬x+1=(gt l k).Sl:=by omega
   rw[if_neg e,if_neg e2,A7d R hk hx]
theorem A04 (l:List As)(k:Int):(Aqi l k).length=l.length:=by unfold Aqi A4z;rw[Z49,A3w,A2o]
theorem A8a{c:D9}{n:As}(X:Ats c n){fi nx pv:Int}(h1:0≤fi∧fi≤c.E5)(h2:0≤nx∧nx≤c.E5)(h3:0≤pv∧pv≤c.E5):Ats c (lnk n fi nx pv):=
 ⟨X.conf,X.st,X.gen,X.up,h1,h2,h3,X.ep,X.ue,X.dist,X.cur,X.nth,X.ntag,X.tags,X.things⟩
theorem Bvo{l:List As}{t:Int->Lk}(A:AtT l t)(R:Rg l){k:Int}(hk:0≤k∧k<(l.length:Int))(g:Int):AtT ((Aqi l k).set k.toNat (Aqj 2 g)) (rem t k):=by
 intro x hx;rw[Z49,A04]at hx;rw[Apv (by rw[A04];exact hk) (by rw[A04];exact hx)]
 by_cases e:x=k
 ·subst e;rw[A5n,if_pos rfl];rfl
 ·rw[Alv e,if_neg e,A30 R hk hx e,A x hx,A k hk];rfl
theorem A2q{l:List Int}{j x:Int}(hj:0≤j)(hx:0≤x∧x<(l.length:Int))(v:Int):gt (l.set j.toNat v) x=if x=j then v else gt l x:=by
 have h1:x.toNat<(l.set j.toNat v).length:=by simp;omega
 have h2:x.toNat<l.length:=by omega
 have e1:gt (l.set j.toNat v) ((x.toNat:Nat):Int)=if x=j then v else gt l ((x.toNat:Nat):Int):=by
  rw[V2 h1,V2 h2,List.getElem_set]
  by_cases e:x=j
  ·rw[if_pos e,if_pos (by omega)]
  ·rw[if_neg e,if_neg (by omega)]
 rwa[show((x.toNat:Nat):Int)=x by omega]at e1
structure A5s (c:D9)(p:Dm):Prop where
 conf:Ahe c=true
 mem:(p.N5.length:Int)=c.Ay*c.G6
 st:(p.Vg.length:Int)=c.Ay
 own:(p.N6.length:Int)=c.Ay
 one: ∀k,0≤k∧k<c.Ay->(0≤gt p.Vg k∧gt p.Vg k≤2)∧(gt p.Vg k=1->0≤gt p.N6 k∧gt p.N6 k<c.E5)∧(gt p.Vg k≠1->gt p.N6 k= -1)∧(gt p.Vg k=0->Ao6 (Aty c p.N5 k)=true)
theorem Bgi{c:D9}{p:Dm}{k:Nat}:Azx c p k=true ↔ (0≤gt p.Vg (k:Int)∧gt p.Vg (k:Int)≤2)∧(gt p.Vg (k:Int)=1->0≤gt p.N6 (k:Int)∧gt p.N6 (k:Int)<c.E5)∧(gt p.Vg (k:Int)≠1->gt p.N6 (k:Int)= -1)∧(gt p.Vg (k:Int)=0->Ao6 (Aty c p.N5 k)=true):=by
 unfold Azx;rw[Z4,Z4,Acu];refine and_congr Iff.rfl ?_
 by_cases e:gt p.Vg (k:Int)=1
 ·rw[e];simp only[beq_self_eq_true,cond_true,Acu];constructor
  ·rintro⟨a,b⟩;exact⟨fun _=>by omega,fun h=>absurd rfl h,fun h=>(by cases h)⟩
  ·rintro⟨a,b,c⟩;exact⟨by have:=a trivial;omega,rfl⟩
 ·rw[Agz e];simp only[cond_false,beq_iff_eq]
  by_cases f:gt p.Vg (k:Int)=0
  ·rw[f];simp only[beq_self_eq_true,cond_true];constructor
   ·rintro⟨a,b⟩;exact⟨fun h=>(by cases h),fun _=>a,fun _=>b⟩
   ·rintro⟨a,b,c⟩;exact⟨b (by decide),c trivial⟩
  ·rw[Agz f];simp only[cond_false];constructor
   ·rintro⟨a,b⟩;exact⟨fun h=>absurd h e,fun _=>a,fun h=>absurd h f⟩
   ·rintro⟨a,b,c⟩;exact⟨b e,trivial⟩
theorem Ail{c:D9}{p:Dm}:Auj c p=true ↔ A5s c p:=by
 constructor
 ·intro h;obtain⟨h1,h2,h3,h4,h5⟩:=Atl h;refine⟨h1,h2,h3,h4,fun k hk=> ?_⟩
  have:=Bgi.1 (h5 k.toNat (by omega))
  rwa[show((k.toNat:Nat):Int)=k by omega]at this
 ·intro h;obtain⟨b1,_⟩:=Gx h.conf;unfold Auj;simp only[Z4,beq_iff_eq,Z1,List.mem_range];refine⟨h.conf,by rw[h.mem];unfold Ala;rw[h.conf];rfl,h.st,h.own,fun k hk=> ?_⟩
  exact Bgi.2 (h.one k (by omega))
theorem Bic (cs:List Int): ∀(p:Dm),p.N6.length=p.Vg.length->(Akw p cs).N5=p.N5∧(Akw p cs).Vg.length=p.Vg.length∧(Akw p cs).N6.length=p.N6.length∧ ∀c,0≤c∧c<(p.Vg.length:Int)→
  gt (Akw p cs).Vg c=(if c∈cs∧gt p.Vg c=1 then 2 else gt p.Vg c)∧gt (Akw p cs).N6 c=(if c∈cs∧gt p.Vg c=1 then -1 else gt p.N6 c):=by
 induction cs with
 |nil=>intro p _;refine⟨rfl,rfl,rfl,fun c _=> ?_⟩;simp[Akw]
 |cons k cs ih=>
  intro p hl
  have h1:(A24 p k).N5=p.N5∧(A24 p k).Vg.length=p.Vg.length∧(A24 p k).N6.length=p.N6.length:=by
   unfold A24;split<;>simp
  obtain⟨a,b,c,d⟩:=ih (A24 p k) (by omega)
  refine⟨a.trans h1.1,b.trans h1.2.1,c.trans h1.2.2,fun x hx=> ?_⟩;obtain⟨d1,d2⟩:=d x (by rw[h1.2.1];exact hx)
  have e1:gt (A24 p k).Vg x=if x=k∧gt p.Vg x=1 then 2 else gt p.Vg x:=by
   unfold A24
   by_cases q:(0≤k∧k<(p.Vg.length:Int)∧k<(p.N6.length:Int))∧gt p.Vg k=1
   ·rw[if_pos q];simp only;rw[A2q q.1.1 hx]
    by_cases e:x=k
    ·rw[if_pos e,if_pos ⟨e,e ▸ q.2⟩]
    ·rw[if_neg e,if_neg (fun f=>e f.1)]
   ·rw[if_neg q,if_neg];rintro⟨rfl,f⟩;exact q ⟨⟨hx.1,hx.2,by omega⟩,f⟩
  have e2:gt (A24 p k).N6 x=if x=k∧gt p.Vg x=1 then -1 else gt p.N6 x:=by
   unfold A24
   by_cases q:(0≤k∧k<(p.Vg.length:Int)∧k<(p.N6.length:Int))∧gt p.Vg k=1
   ·rw[if_pos q];simp only;rw[A2q q.1.1 (by omega)]
    by_cases e:x=k
    ·rw[if_pos e,if_pos ⟨e,e ▸ q.2⟩]
    ·rw[if_neg e,if_neg (fun f=>e f.1)]
   ·rw[if_neg q,if_neg];rintro⟨rfl,f⟩;exact q ⟨⟨hx.1,hx.2,by omega⟩,f⟩
  show gt (Akw (A24 p k) cs).Vg x=_∧gt (Akw (A24 p k) cs).N6 x=_;rw[d1,d2,e1,e2]
  by_cases q:gt p.Vg x=1
  ·by_cases e:x=k
   ·subst e;simp[q]
   ·simp[q,e]
  ·simp[q]
theorem A05{w:C4}(I:Inv w){k:Int}(hk:0≤k∧k<(w.fL.length:Int)):
  A5s w.fC (Akw w.fP (gt w.fL k).Ay)∧(Akw w.fP (gt w.fL k).Ay).N5=w.fP.N5∧
  ∀c,0≤c∧c<w.fC.Ay->gt (Akw w.fP (gt w.fL k).Ay).Vg c=(if c∈(gt w.fL k).Ay then 2 else gt w.fP.Vg c)∧gt (Akw w.fP (gt w.fL k).Ay).N6 c=(if c∈(gt w.fL k).Ay then -1 else gt w.fP.N6 c):=by
 have P:=Ail.1 I.pool;obtain⟨a,b,c,d⟩:=Bic (gt w.fL k).Ay w.fP (by have:=P.st;have:=P.own;omega)
 have key: ∀c,0≤c∧c<w.fC.Ay->gt (Akw w.fP (gt w.fL k).Ay).Vg c=(if c∈(gt w.fL k).Ay then 2 else gt w.fP.Vg c)∧gt (Akw w.fP (gt w.fL k).Ay).N6 c=(if c∈(gt w.fL k).Ay then -1 else gt w.fP.N6 c):=by
  intro x hx;obtain⟨d1,d2⟩:=d x (by rw[P.st];exact hx)
  rw[d1,d2]
  by_cases e:x∈(gt w.fL k).Ay
  ·have:=((I.own k hk x).1 e).2.1
   have q:x∈(gt w.fL k).Ay∧gt w.fP.Vg x=1:=⟨e,this⟩;simp only[if_pos q,if_pos e,and_self]
  ·have q: ¬(x∈(gt w.fL k).Ay∧gt w.fP.Vg x=1):=fun q=>e q.1;simp only[if_neg q,if_neg e,and_self]
 refine⟨⟨P.conf,by rw[a];exact P.mem,by rw[b];exact P.st,by rw[c];exact P.own,fun x hx=> ?_⟩,a,key⟩
 obtain⟨k1,k2⟩:=key x hx;obtain⟨p1,p2,p3,p4⟩:=P.one x hx;rw[k1,k2,a]
 by_cases e:x∈(gt w.fL k).Ay
 ·rw[if_pos e,if_pos e];exact⟨by omega,fun h=>by omega,fun _=>rfl,fun h=>by omega⟩
 ·rw[if_neg e,if_neg e];exact⟨p1,p2,p3,p4⟩
theorem A7e (q:List Az)(x:Az):chL (q++[x])=chL q++x.Ay:=by unfold chL;rw[List.flatMap_append];simp
theorem A7f (q:List Az)(x:Az):slL (q++[x])=slL q++(if x.Bk=0 then []else [An4 .i64 x.Bk 1]):=by unfold slL;rw[List.flatMap_append];simp
theorem Bcs (q:List Az)(x:Az):Awq (q++[x])=Awq q++[(x.Bk,x.Ee)]:=by simp[Awq]
theorem A31{c:D9}{n:As}(h:Ats c n){s:Int}(hs:0≤s∧s≤c.E5):Ald c (Aiv n s)=true:=by
 obtain⟨_,b,_⟩:=Gx h.conf;unfold Ald Aiv;simp only[Z4,Acu,decide_eq_true_eq,Bool.or_eq_true,beq_iff_eq];exact⟨h.conf,hs,h.first,by have:=h.ntag;omega,h.tags,h.dist,by omega,.inr trivial⟩
theorem A8b (w:C4)(n:As)(s:Int):Am6 w (Aiv n s)=true:=by
 unfold Am6 Aiv Ao6;simp
theorem Ba7{w:C4}(I:Inv w){k:Int}(hk:0≤k∧k<(w.fL.length:Int)):(chL w.fQ++(gt w.fL k).Ay).Nodup:=
 Aip.2 ⟨I.chn,Azb (A6z (I.node k hk)),fun x h1 h2=>by have:=((I.chi x).1 h1).2;have:=((I.own k hk x).1 h2).2.1;omega⟩
theorem Ba8{w:C4}(I:Inv w){k:Int}(hk:0≤k∧k<(w.fL.length:Int))(c:Int):c∈chL w.fQ++(gt w.fL k).Ay ↔ (0≤c∧c<w.fC.Ay)∧gt (Akw w.fP (gt w.fL k).Ay).Vg c=2:=by
 rw[Mh,I.chi];constructor
 ·rintro(⟨a,b⟩|h)
  ·refine⟨a,?_⟩;rw[((A05 I hk).2.2 c a).1];split
   ·rfl
   ·exact b
  ·have a:=((I.own k hk c).1 h).1;rw[((A05 I hk).2.2 c a).1,if_pos h];exact⟨a,rfl⟩
 ·rintro⟨a,b⟩;rw[((A05 I hk).2.2 c a).1]at b;split at b
  ·rename_i h;exact .inr h
  ·exact .inl ⟨a,b⟩
theorem Bid{w:C4}(I:Inv w){t:Int->Lk}(A:AtT w.fL t)(F:Akm w.fL.length t (Awq w.fQ)){k:Int}(h:Al w.fL.length t k):Inv (Aze w k):=by
 have hl:=h.lv
 have hk:=hl.1
 have P:=I.live A hl
 have R:=I.rg;obtain⟨L1,L2,L3⟩:=A05 I hk;obtain⟨_,_,b3,_⟩:=Gx I.conf
 have hlen:=I.len
 have e1:An3 .i64 k 1=k+1:=ad1 (by omega) (by omega)
 have hN:(Aze w k).fL.length=w.fL.length:=by unfold Aze;simp only;rw[Z49,A04]
 have hg: ∀x,0≤x∧x<(w.fL.length:Int)->gt (Aze w k).fL x=if x=k then Aqj 2 (gt (Aqi w.fL k) k).C8 else gt (Aqi w.fL k) x:=fun x hx=>by
  unfold Aze;simp only;rw[Apv (by rw[A04];exact hk) (by rw[A04];exact hx)];rfl
 have hgen:(gt (Aqi w.fL k) k).C8=(gt w.fL k).C8:=by
  unfold Aqi A4z;rw[A02 (by rw[A3w,A2o];exact hk)]
  show(gt (A6c w.fL (A5m w.fL k) k _ _) k).C8=_;unfold A6c
  have h0:(gt (A5m w.fL k) k).C8=(gt w.fL k).C8:=by rw[A7d R hk hk];rfl
  obtain⟨_,_,r3,_⟩:=R.rg k hk
  have hl8:=R.len;rw[Bcr r3.1 r3.2 hl8,sb1 (by omega) (by omega)]
  by_cases e:(gt w.fL k).Sl=0
  ·rw[e];exact h0
  ·rw[Agz e];simp only[Bool.not_false,cond_true];rw[Apv (by rw[A2o];omega) (by rw[A2o];exact hk)]
   split
   ·rename_i e2;rw[←e2];exact h0
   ·exact h0
 refine⟨Ail.2 L1,by rw[hN];exact hlen,fun x hx=> ?_,fun x hx c=> ?_,fun x hx=> ?_,⟨rem t k,?_,?_⟩,fun x hx=> ?_,?_,fun c=> ?_,?_,fun s=> ?_,I.log⟩
 ·rw[hN]at hx;rw[hg x hx]
  by_cases e:x=k
  ·rw[if_pos e,hgen];exact A4j I.conf (by omega) (by omega) P.gen
  ·rw[if_neg e,A30 R hk hx e]
   by_cases hs:(gt w.fL x).Vg=1
   ·have X:=Aik.1 ⟨I.node x hx,hs⟩;obtain⟨a1,a2,a3,a4⟩:=A44 (I.node k hk);refine(Aik.2 (A8a X ?_ ?_ ?_)).1
    ·split
     ·exact a3
     ·exact X.first
    ·split
     ·exact a3
     ·exact X.next
    ·split
     ·exact a4
     ·exact X.prev
   ·have X:=Axl (I.node x hx) hs
    have B:=(A73 F.tree hl).bare x hx.1 hx.2 (by rw[Alv e,A x hx];simpa[A3z]using hs)
    rw[Alv e,A x hx,A k hk]at B;obtain⟨_,B2,B3,B4⟩:=B
    have q1:(if(gt w.fL k).Sm=0∧x+1=(gt w.fL k).fUp∧(gt w.fL x).Ee=k+1 then(gt w.fL k).Sl else(gt w.fL x).Ee)=0:=B2
    have q2:(if x+1=(gt w.fL k).Sm then(gt w.fL k).Sl else(gt w.fL x).Sl)=0:=B3
    have q3:(if x+1=(gt w.fL k).Sl then(gt w.fL k).Sm else(gt w.fL x).Sm)=0:=B4
    have this:lnk (gt w.fL x) 0 0 0=gt w.fL x:=by rw[X];rfl
    rw[q1,q2,q3];rw[this];exact I.node x hx
 ·rw[hN]at hx;rw[hg x hx]
  show c∈_ ↔ (0≤c∧c<w.fC.Ay)∧gt (Akw w.fP (gt w.fL k).Ay).Vg c=1∧gt (Akw w.fP (gt w.fL k).Ay).N6 c=x
  by_cases e:x=k
  ·rw[if_pos e];constructor
   ·intro q;cases q
   ·rintro⟨a,b,d⟩;rw[(L3 c a).1]at b;rw[(L3 c a).2]at d;split at b
    ·omega
    ·rename_i q;rw[if_neg q]at d;exact absurd ((I.own k hk c).2 ⟨a,b,by omega⟩) q
  ·rw[if_neg e,A30 R hk hx e]
   show c∈(gt w.fL x).Ay ↔ _;rw[I.own x hx c];constructor
   ·rintro⟨a,b,d⟩
    have q:c ∉ (gt w.fL k).Ay:=fun q=>e (by have:=((I.own k hk c).1 q).2.2;omega)
    rw[(L3 c a).1,(L3 c a).2,if_neg q,if_neg q];exact⟨a,b,d⟩
   ·rintro⟨a,b,d⟩;rw[(L3 c a).1]at b;rw[(L3 c a).2]at d;split at b
    ·omega
    ·rename_i q;rw[if_neg q]at d;exact⟨a,b,d⟩
 ·rw[hN]at hx;rw[hg x hx]
  by_cases e:x=k
  ·rw[if_pos e];exact⟨rfl,rfl,rfl⟩
  ·rw[if_neg e,A30 R hk hx e];obtain⟨t1,t2,t3⟩:=I.thing x hx;refine⟨t1,t2,?_⟩
   show Ap3 w.fC (Akw w.fP (gt w.fL k).Ay).N5 _=true;rw[L2];exact t3
 ·exact Bvo A R hk _
 ·show Akm ((Aze w k).fL.length:Int) _ (Awq (w.fQ++[_]));rw[hN,Bcs,e1]
  have:=Ba0 F h;rw[A k hk]at this;exact this
 ·have hx:x∈w.fQ++[Aiv (gt w.fL k) (An3 .i64 k 1)]:=hx
  show Ald w.fC x=true∧_;rcases Mh.1 hx with hx|hx
  ·obtain⟨a,b⟩:=I.wrec x hx;refine⟨a,?_⟩;unfold Am6 at b ⊢
   show(_||Ao6 (((Akw w.fP (gt w.fL k).Ay).N5.drop (gt x.Ay 0*w.fC.G6).toNat).take x.Wv.toNat))=true
   rw[L2];exact b
  ·rw[Px.1 hx,e1];exact⟨A31 P (by omega),A8b _ _ _⟩
 ·show(chL (w.fQ++[_])).Nodup;rw[A7e];exact Ba7 I hk
 ·show c∈chL (w.fQ++[_]) ↔ _;rw[A7e];exact Ba8 I hk c
 ·show(slL (w.fQ++[Aiv (gt w.fL k) (An3 .i64 k 1)])).Nodup;rw[A7f,e1]
  show(slL w.fQ++(if k+1=0 then []else [An4 .i64 (k+1) 1])).Nodup
  rw[if_neg (by omega),sb1 (by omega) (by omega),Int.add_sub_cancel]
  exact Aip.2 ⟨I.sln,by simp,fun x h1 h2=>by rw[Px]at h2;subst h2;have:=((I.sli x).1 h1).2;have:=P.st;omega⟩
 ·show s∈slL (w.fQ++[Aiv (gt w.fL k) (An3 .i64 k 1)]) ↔ _;rw[A7f,e1,hN]
  show s∈slL w.fQ++(if k+1=0 then []else [An4 .i64 (k+1) 1]) ↔ _
  rw[if_neg (by omega),sb1 (by omega) (by omega),Int.add_sub_cancel,Mh,Px,I.sli]
  constructor
  ·rintro(⟨a,b⟩|a)
   ·refine⟨a,?_⟩
    have e:s≠k:=fun e=>by rw[e,P.st]at b;cases b
    rw[hg s a,if_neg e,A30 R hk a e];exact b
   ·rw[a,hg k hk,if_pos rfl];exact⟨hk,rfl⟩
  ·rintro⟨a,b⟩
   by_cases e:s=k
   ·exact .inr e
   ·rw[hg s a,if_neg e,A30 R hk a e]at b;exact .inl ⟨a,b⟩
theorem Bvp{l:List As}{t:Int->Lk}(A:AtT l t){k:Int}(hk:0≤k∧k<(l.length:Int))(h0:0≤(gt l k).Sj)(h1:(gt l k).Sj≤1000000000):AtT (l.set k.toNat (Ayy (gt l k))) (emp t k):=by
 intro x hx;rw[Z49]at hx;rw[Apv hk hx]
 by_cases e:x=k
 ·subst e;rw[A9n,if_pos rfl,A x hx];unfold Ayy A3z;simp only;rw[ad1 (by omega) h1]
 ·rw[A6y e,if_neg e,A x hx]
theorem Bie{w:C4}(I:Inv w){t:Int->Lk}(A:AtT w.fL t)(F:Akm w.fL.length t (Awq w.fQ)){k:Int}(h:Al w.fL.length t k)(hE:(gt w.fL k).Sj≤1000000000):Inv (A1m w k):=by
 have hl:=h.lv
 have hk:=hl.1
 have P:=I.live A hl;obtain⟨L1,L2,L3⟩:=A05 I hk
 have hN:(A1m w k).fL.length=w.fL.length:=by unfold A1m;simp only;rw[Z49]
 have hg: ∀x,0≤x∧x<(w.fL.length:Int)->gt (A1m w k).fL x=if x=k then Ayy (gt w.fL k)else gt w.fL x:=fun x hx=>Apv hk hx _
 obtain⟨_,b2,b3,_⟩:=Gx I.conf;refine⟨Ail.2 L1,by rw[hN];exact I.len,fun x hx=> ?_,fun x hx c=> ?_,fun x hx=> ?_,⟨emp t k,?_,?_⟩,fun x hx=> ?_,?_,fun c=> ?_,?_,fun s=> ?_,I.log⟩
 ·rw[hN]at hx;rw[hg x hx]
  show Aqg w.fC _=true
  by_cases e:x=k
  ·rw[if_pos e];exact((Aik (n:=Ayy (gt w.fL k))).2 ⟨P.conf,P.st,P.gen,P.up,⟨Int.le_refl _,by show(0:Int)≤_;omega⟩,P.next,P.prev,by show 0≤An3 .i64 _ 1;rw[ad1 (by have:=P.ep;omega) hE];have:=P.ep;omega,P.ue,rfl,rfl,Z21 _,Z21 _,rfl,rfl⟩).1
  ·rw[if_neg e];exact I.node x hx
 ·rw[hN]at hx;rw[hg x hx]
  show c∈_ ↔ (0≤c∧c<w.fC.Ay)∧gt (Akw w.fP (gt w.fL k).Ay).Vg c=1∧gt (Akw w.fP (gt w.fL k).Ay).N6 c=x
  by_cases e:x=k
  ·rw[if_pos e];constructor
   ·intro q;cases q
   ·rintro⟨a,b,d⟩;rw[(L3 c a).1]at b;rw[(L3 c a).2]at d;split at b
    ·omega
    ·rename_i q;rw[if_neg q]at d;exact absurd ((I.own k hk c).2 ⟨a,b,by omega⟩) q
  ·rw[if_neg e,I.own x hx c];constructor
   ·rintro⟨a,b,d⟩
    have q:c ∉ (gt w.fL k).Ay:=fun q=>e (by have:=((I.own k hk c).1 q).2.2;omega)
    rw[(L3 c a).1,(L3 c a).2,if_neg q,if_neg q];exact⟨a,b,d⟩
   ·rintro⟨a,b,d⟩;rw[(L3 c a).1]at b;rw[(L3 c a).2]at d;split at b
    ·omega
    ·rename_i q;rw[if_neg q]at d;exact⟨a,b,d⟩
 ·rw[hN]at hx;rw[hg x hx]
  by_cases e:x=k
  ·rw[if_pos e];exact⟨rfl,rfl,rfl⟩
  ·rw[if_neg e];obtain⟨t1,t2,t3⟩:=I.thing x hx;refine⟨t1,t2,?_⟩
   show Ap3 w.fC (Akw w.fP (gt w.fL k).Ay).N5 _=true;rw[L2];exact t3
 ·exact Bvp A hk P.ep hE
 ·show Akm ((A1m w k).fL.length:Int) _ (Awq (w.fQ++[_]));rw[hN,Bcs]
  have:=Ba1 F h;rw[A k hk]at this;exact this
 ·have hx:x∈w.fQ++[Aiv (gt w.fL k) 0]:=hx
  show Ald w.fC x=true∧_;rcases Mh.1 hx with hx|hx
  ·obtain⟨a,b⟩:=I.wrec x hx;refine⟨a,?_⟩;unfold Am6 at b ⊢
   show(_||Ao6 (((Akw w.fP (gt w.fL k).Ay).N5.drop (gt x.Ay 0*w.fC.G6).toNat).take x.Wv.toNat))=true
   rw[L2];exact b
  ·rw[Px.1 hx];exact⟨A31 P (by omega),A8b _ _ _⟩
 ·show(chL (w.fQ++[_])).Nodup;rw[A7e];exact Ba7 I hk
 ·show c∈chL (w.fQ++[_]) ↔ _;rw[A7e];exact Ba8 I hk c
 ·show(slL (w.fQ++[Aiv (gt w.fL k) 0])).Nodup;rw[A7f]
  show(slL w.fQ++(if(0:Int)=0 then []else [An4 .i64 0 1])).Nodup
  rw[if_pos rfl,List.append_nil];exact I.sln
 ·show s∈slL (w.fQ++[Aiv (gt w.fL k) 0]) ↔ _;rw[A7f,hN]
  show s∈slL w.fQ++(if(0:Int)=0 then []else [An4 .i64 0 1]) ↔ _
  rw[if_pos rfl,List.append_nil,I.sli];refine and_congr_right fun a=> ?_;rw[hg s a]
  by_cases e:s=k
  ·rw[if_pos e,e,P.st]
   show _ ↔ (gt w.fL k).Vg=2;rw[P.st]
  ·rw[if_neg e]
def wtN (c:D9)(n:As):Nat:=if n.Vg=1 then 2+n.Fh.length+c.G6.toNat*n.Ay.length else 0
def wtQ (c:D9)(x:Az):Nat:=1+x.Fh.length+(c.G6.toNat*x.Ay.length - x.Wv.toNat)
def pot (w:C4):Nat:=(w.fL.map (wtN w.fC)).sum+(w.fQ.map (wtQ w.fC)).sum
def wt (w:C4):Nat:=pot w+w.Acw.length
structure EpP (E:Int)(n:As):Prop where
 ep:n.Sj≤E
 ue:n.Sk≤E
 cur:0≤n.Acv∧n.Acv≤1000
structure Dx (w:C4)(E:Int)(n:Nat):Prop where
 inv:Inv w
 mem: ∀x∈w.fP.N5,0≤x∧x≤255
 ep: ∀k,0≤k∧k<(w.fL.length:Int)->EpP E (gt w.fL k)
 wt:wt w≤n
theorem Bvq{α:Type}(f:α->Nat)(l:List α)(h: ∀x∈l,1≤f x):l.length≤(l.map f).sum:=by
 induction l with
 |nil=>simp
 |cons x l ih=>
  have:=ih fun y hy=>h y (Z56 _ hy)
  have:=h x List.mem_cons_self;simp only[Z28,Z8,List.sum_cons];omega
theorem Bp7 (w:C4):w.fQ.length≤wt w:=by
 have:=Bvq (wtQ w.fC) w.fQ fun x _=>by unfold wtQ;omega
 unfold wt pot;omega
theorem Bet (w:C4):w.Acw.length≤wt w:=by unfold wt;omega
theorem K1{x:Int}(h0: -1000000000≤x)(h1:x≤1000000000):wfi x:=⟨by omega,by omega⟩
theorem Ba9{c:D9}{t:Bc}(h:Aps c t=true):ThingW t:=by
 have hs:=(A1e h).1
 have hin:=(A1e h).2;obtain⟨_,b2,_⟩:=Gx hin.1;obtain⟨s1,s2,s3,s4⟩:=hs;refine⟨K1 (by omega) (by omega),K1 (by omega) (by omega),?_⟩
 unfold Aps at h;rw[Z4]at h
 by_cases e:t.Ajl=0
 ·rw[e];exact K1 (by omega) (by omega)
 ·have h:=h.2;rw[Agz e]at h;simp only[cond_false,Z4,beq_iff_eq]at h;rw[h.2.1];unfold Atk
  have h3:(t.Ajk+c.G6 - 1) / c.G6≤t.Ajk+c.G6 - 1:=Int.ediv_le_self _ (by omega)
  have h4:0≤(t.Ajk+c.G6 - 1) / c.G6:=Int.ediv_nonneg (by omega) (by omega)
  cases (inB t.Ajk 0 1000000000&&inB c.G6 1 1000000000)with
  |false=>exact K1 (by simp only[cond_false];omega) (by simp only[cond_false];omega)
  |true=>exact K1 (by simp only[cond_true];omega) (by simp only[cond_true];omega)
theorem Avr{l:List Int}(h: ∀x∈l,-1000000000≤x∧x≤1000000000)(hl:l.length≤1000000000):A2j l:=⟨fun x hx=>K1 (h x hx).1 (h x hx).2,by omega⟩
theorem Bm8{c:D9}(h:Ahe c=true):ConfW c:=by
 obtain⟨b1,b2,b3,b4,b5,b6⟩:=Gx h;exact⟨K1 (by omega) (by omega),K1 (by omega) (by omega),K1 (by omega) (by omega),K1 (by omega) (by omega),K1 (by omega) (by omega),K1 (by omega) (by omega)⟩
theorem A8d{l:List Int}(h:l.all (fun x=>inB x 0 255)=true): ∀x∈l,0≤x∧x≤255:=fun x hx=>Acu.1 (Z1.1 h x hx)
theorem A27{c:D9}{n:As}{E:Int}(h:Aqg c n=true)(e:EpP E n)(hE:E≤1000000000):Arm n:=by
 obtain⟨b1,b2,b3,b4,b5,b6⟩:=Gx (A1o h).1
 by_cases s:n.Vg=1
 ·have X:=Aik.1 ⟨h,s⟩
  have:=X.gen;have:=X.up;have:=X.first;have:=X.next;have:=X.prev;have:=X.ep;have:=X.ue;have:=X.nth;have:=X.ntag
  have:=e.ep;have:=e.ue;have:=e.cur;refine⟨K1 (by omega) (by omega),K1 (by omega) (by omega),K1 (by omega) (by omega),K1 (by omega) (by omega),K1 (by omega) (by omega),K1 (by omega) (by omega),K1 (by omega) (by omega),K1 (by omega) (by omega),?_,K1 (by omega) (by omega),?_,?_,?_⟩
  ·exact Avr (fun x hx=>by have:=Atz X.dist x hx;omega) (by have:=Asc X.conf X.dist;omega)
  ·have:=X.cur;unfold A4t at this
   by_cases q:n.Acv=0
   ·rw[q]at this;simp only[beq_self_eq_true,cond_true,beq_iff_eq]at this;rw[this];exact K1 (by decide) (by decide)
   ·rw[Agz q]at this;simp only[cond_false,Z4,Acu]at this;exact K1 (by omega) (by omega)
  ·exact⟨fun t ht=>Ba9 (Z1.1 X.things t ht),by omega⟩
  ·exact Avr (fun x hx=>by have:=A8d X.tags x hx;omega) (by omega)
 ·have g:=A1o h;rw[Axl h s];exact⟨K1 (by show _≤n.Vg;omega) (by show n.Vg≤_;omega),K1 (by show _≤n.C8;omega) (by show n.C8≤_;omega),Ay4,Ay4,Ay4,Ay4,Ay4,Ay4,Azd,Ay4,Ay4,A3v,Azd⟩
theorem Bp8{c:D9}{x:Az}(h:Ald c x=true):A1f x:=by
 obtain⟨b1,b2,b3,b4,b5,b6⟩:=Gx (Aqv h).1;obtain⟨h1,h2,h3,h4,h5⟩:=Aqv h;unfold Ald at h;simp only[Z4,Acu,decide_eq_true_eq]at h;obtain⟨_,_,_,t1,t2,_⟩:=h;refine⟨K1 (by omega) (by omega),K1 (by omega) (by omega),?_,?_,K1 (by omega) (by omega)⟩
 ·exact Avr (fun y hy=>by have:=A8d t2 y hy;omega) (by omega)
 ·exact Avr (fun y hy=>by have:=Atz h4 y hy;omega) (by have:=Asc h1 h4;omega)
theorem A8e{α:Type}[Inhabited α]{l:List α}{P:α->Prop}(h: ∀k,0≤k∧k<(l.length:Int)->P (gt l k)): ∀x∈l,P x:=by
 intro x hx;obtain⟨i,hi,e⟩:=List.mem_iff_getElem.1 hx
 have:=h (i:Int) ⟨by omega,by omega⟩
 rw[V2 hi,e]at this;exact this
theorem Dx.ww{w:C4}{E:Int}{n:Nat}(G:Dx w E n)(hE:E≤1000000000)(hn:n≤1000000000):Ak1 w:=by
 have I:=G.inv
 have P:=Ail.1 I.pool;obtain⟨b1,b2,b3,b4,b5,b6⟩:=Gx I.conf
 have h1:=Bp7 w
 have h2:=Bet w
 have h3:=G.wt
 have hm:=Au0 (a:=w.fC.Ay) (b:=w.fC.G6) (m:=12) (n:=16) (by omega) b1.2 (by omega) b2.2
 refine⟨Bm8 I.conf,⟨⟨G.mem,by have:=P.mem;omega⟩,?_,?_⟩,⟨A8e fun k hk=>A27 (I.node k hk) (G.ep k hk) hE,by have:=I.len;omega⟩,⟨fun x hx=>Bp8 (I.wrec x hx).1,by omega⟩,?_⟩
 ·exact Avr (A8e fun k hk=>by have:=(P.one k (by rw[P.st]at hk;exact hk)).1;omega) (by have:=P.st;omega)
 ·refine Avr (A8e fun k hk=> ?_) (by have:=P.own;omega)
  obtain⟨o1,o2,o3,o4⟩:=P.one k (by rw[P.own]at hk;exact hk)
  by_cases e:gt w.fP.Vg k=1
  ·have:=o2 e;omega
  ·have:=o3 e;omega
 ·exact Avr (fun x hx=>by have:=A8d I.log x hx;omega) (by omega)
theorem Bba{w:C4}(I:Inv w)(p:Dm)(q:List Az)(lg:List Int)(hp:A5s w.fC p)
  (ho: ∀c,0≤c∧c<w.fC.Ay->(gt p.Vg c=1 ↔ gt w.fP.Vg c=1)∧gt p.N6 c=gt w.fP.N6 c)
  (hl: ∀k,0≤k∧k<(w.fL.length:Int)->Ap3 w.fC p.N5 (gt w.fL k)=true)
  (hq:Awq q=Awq w.fQ) (hs:slL q=slL w.fQ)
  (hr: ∀x∈q,Ald w.fC x=true∧Am6 (C4.mk w.fC p w.fL q lg) x=true)
  (hn:(chL q).Nodup) (hc: ∀c,c∈chL q ↔ (0≤c∧c<w.fC.Ay)∧gt p.Vg c=2)
  (hg:lg.all (fun x=>inB x 0 255)=true):Inv (C4.mk w.fC p w.fL q lg):=by
 refine⟨Ail.2 hp,I.len,I.node,fun k hk c=> ?_,fun k hk=> ?_,?_,hr,hn,hc,?_,?_,hg⟩
 ·rw[I.own k hk c];refine and_congr_right fun a=> ?_;obtain⟨h1,h2⟩:=ho c a
  show _ ↔ gt p.Vg c=1∧gt p.N6 c=k;rw[h1,h2]
 ·obtain⟨t1,t2,_⟩:=I.thing k hk;exact⟨t1,t2,hl k hk⟩
 ·obtain⟨t,A,F⟩:=I.forest;refine⟨t,A,?_⟩
  show Akm _ t (Awq q);rw[hq];exact F
 ·show(slL q).Nodup;rw[hs];exact I.sln
 ·show ∀s,s∈slL q ↔ _;rw[hs];exact I.sli
theorem gt0{α:Type}[Inhabited α](x:α)(l:List α):gt (x::l) 0=x:=rfl
theorem A2r{mem:List Int}{a n:Nat}:Ao6 ((mem.drop a).take n)=true ↔ ∀j:Nat,a≤j->j<a+n->j<mem.length->gt mem (j:Int)=0:=by
 unfold Ao6;rw[Z1];constructor
 ·intro h j h1 h2 h3;rw[V2 h3]
  have:mem[j]∈(mem.drop a).take n:=by
   rw[List.mem_iff_getElem];refine⟨j - a,by simp;omega,?_⟩
   simp only[List.getElem_take,List.getElem_drop]
   congr 1;omega
  simpa using h _ this
 ·intro h x hx;obtain⟨i,hi,e⟩:=List.mem_iff_getElem.1 hx;simp only[List.length_take,List.length_drop]at hi;simp only[List.getElem_take,List.getElem_drop]at e
  have:=h (a+i) (by omega) (by omega) (by omega)
  rw[V2 (by omega),e]at this
  simpa using this
def A0f (mem:List Int)(a n:Nat):List Int:=(List.range mem.length).map fun(j:Nat)=>if a≤j∧j<a+n then(0:Int)else gt mem (j:Int)
theorem Atn (mem:List Int)(a n:Nat):(A0f mem a n).length=mem.length:=by simp[A0f]
theorem A4k{mem:List Int}{a n j:Nat}(h:j<mem.length):gt (A0f mem a n) (j:Int)=if a≤j∧j<a+n then 0 else gt mem (j:Int):=by
 rw[V2 (by rw[Atn];exact h)]
 simp[A0f]
theorem Bm9 (mem:List Int)(a:Nat):A0f mem a 0=mem:=by
 refine List.ext_getElem (Atn _ _ _) fun j h1 h2=> ?_
 have:=A4k (mem:=mem) (a:=a) (n:=0) h2;rw[if_neg (by omega),V2 h1,V2 h2]at this
 exact this
theorem Bna{mem:List Int}{a i:Nat}:(A0f mem a i).set (a+i) 0=A0f mem a (i+1):=by
 refine List.ext_getElem (by rw[Z49,Atn,Atn]) fun j h1 h2=> ?_
 rw[Z49,Atn]at h1
 have e1:=A4k (mem:=mem) (a:=a) (n:=i) h1
 have e2:=A4k (mem:=mem) (a:=a) (n:=i+1) h1;rw[V2 (by rw[Atn];exact h1)]at e1 e2
 rw[List.getElem_set,e1,e2]
 by_cases q:a+i=j
 ·rw[if_pos q,if_pos (by omega)]
 ·rw[if_neg q]
  by_cases r:a≤j∧j<a+i
  ·rw[if_pos r,if_pos (by omega)]
  ·rw[if_neg r,if_neg (by omega)]
theorem Big{mem:List Int}{a n b m:Nat}(h:Ao6 ((mem.drop b).take m)=true):Ao6 (((A0f mem a n).drop b).take m)=true:=by
 rw[A2r]at h ⊢;intro j h1 h2 h3;rw[Atn]at h3;rw[A4k h3];split
 ·rfl
 ·exact h j h1 h2 h3
theorem Bct{mem:List Int}{a d n m:Nat}(h:Ao6 ((mem.drop a).take d)=true)(hm:m≤d+n):Ao6 (((A0f mem (a+d) n).drop a).take m)=true:=by
 rw[A2r]at h ⊢;intro j h1 h2 h3;rw[Atn]at h3;rw[A4k h3];split
 ·rfl
 ·exact h j h1 (by omega) h3
section
variable {K:Nat} (hK:281474976710656≤K)
include hK
theorem Bih{mem:List Int}(hl:mem.length≤1000000){a n:Int}(ha:0≤a∧a≤1000000)(hn:0≤n)(hs:a+n≤mem.length):A1s K mem a n=some (A0f mem a.toNat n.toNat):=by
 have hm:=V1;obtain⟨A,rfl⟩: ∃A:Nat,a=A:=⟨a.toNat,by omega⟩
 obtain⟨N,rfl⟩: ∃N:Nat,n=N:=⟨n.toNat,by omega⟩
 simp only[Int.toNat_natCast]
 have key: ∀(f i:Nat),i≤N->N - i<f->Awh K mem A N f (A0f mem A i) ((A+i:Nat):Int)=some (A0f mem A N):=by
  intro f
  induction f with
  |zero=>intro i _ h;omega
  |succ f ih=>
   intro i hi hf;rw[Awh]
   have e:An4 .i64 ((A+i:Nat):Int) A=i:=by unfold An4;rw[K0 (by omega) (by omega)];omega
   rw[e]
   by_cases q:i=N
   ·subst q;rw[Ad5 (Z9 _)];simp only[cond_false];cases decide (((A+i:Nat):Int)<(mem.length:Int))<;>rfl
   ·rw[Ad4 (by omega),Ad4 (by omega),cond_true,cond_true,Atn,if_pos ⟨by omega,by omega⟩,Acx (by omega),Int.toNat_natCast,Bna]
    exact ih (i+1) (by omega) (by omega)
 unfold A1s;rw[Z38,if_pos ⟨by omega,by omega⟩,decide_eq_false (by omega),decide_eq_false (by omega)]
 simp only[cond_false]
 have:=key K 0 (by omega) (by omega)
 rw[Bm9]at this;exact this
end
theorem Az1{w:C4}(I:Inv w){x qs}(hq:w.fQ=x::qs):Ald w.fC x=true∧Am6 w x=true:=I.wrec x (by rw[hq];exact List.mem_cons_self)
structure Bp9 (c:D9)(x:Az):Prop where
 conf:Ahe c=true
 slot:0≤x.Bk∧x.Bk≤c.E5
 first:0≤x.Ee∧x.Ee≤c.E5
 ntag:x.Fh.length≤6
 tags: ∀y∈x.Fh,0≤y∧y≤255
 dist:Atq c x.Ay=true
 done:0≤x.Wv∧x.Wv≤c.G6 - 1
 zero:x.Ay=[]->x.Wv=0
theorem Ay0{c:D9}{x:Az}:Ald c x=true ↔ Bp9 c x:=by
 unfold Ald;simp only[Z4,Acu,decide_eq_true_eq,Bool.or_eq_true,beq_iff_eq,Z1];constructor
 ·rintro⟨a,b,c,d,e,f,g,h⟩;refine⟨a,b,c,by omega,e,f,g,fun q=> ?_⟩
  rw[q]at h;rcases h with h|h
  ·simp at h
  ·exact h
 ·intro h;refine⟨h.conf,h.slot,h.first,by have:=h.ntag;omega,h.tags,h.dist,h.done,?_⟩
  by_cases q:x.Ay=[]
  ·exact .inr (h.zero q)
  ·exact .inl (by have:=List.length_pos_iff.2 q;omega)
def Bnb (x:Az):Az:=Az.mk x.Bk x.Ee (x.Fh.take (x.Fh.length - 1)) x.Ay x.Wv
def A5t (w:C4)(x:Az)(qs:List Az):C4:=C4.mk w.fC w.fP w.fL (Bnb x::qs) (w.Acw++[gt x.Fh ((x.Fh.length - 1:Nat):Int)])
theorem Bvr (K:Nat){w:C4}{x:Az}{qs:List Az}(hq:w.fQ=x::qs)(h0:0<x.Fh.length)(h6:x.Fh.length≤6)(hl:w.Acw.length≤1000000000):Azh K w=some (A5t w x qs):=by
 have hm:=V1;unfold Azh;rw[hq,gt0]
 have e:An4 .i64 (x.Fh.length:Int) 1=((x.Fh.length - 1:Nat):Int):=by rw[sb1 (by omega) (by omega)];omega
 rw[e,if_pos ⟨by omega,by simp⟩,if_pos ⟨by omega,by omega⟩,if_pos ⟨by simp;omega,by simp;omega⟩,if_pos ⟨by omega,by omega,by omega⟩,A55,Z38,if_pos ⟨by simp;omega,by simp;omega⟩]
 rfl
theorem Bnc{l:List Int}{n:Nat}{P:Int->Prop}(h: ∀y∈l,P y): ∀y∈l.take n,P y:=fun y hy=>h y (Z42 hy)
theorem Bqa{w:C4}(I:Inv w){x:Az}{qs:List Az}(hq:w.fQ=x::qs)(h0:0<x.Fh.length):Inv (A5t w x qs):=by
 have R:=Ay0.1 (Az1 I hq).1
 have e1:chL (Bnb x::qs)=chL w.fQ:=by rw[hq];rfl
 refine Bba I w.fP _ _ (Ail.1 I.pool) (fun c _=>⟨Iff.rfl,rfl⟩) (fun k hk=>(I.thing k hk).2.2) (by rw[hq];rfl) (by rw[hq];rfl) (fun y hy=> ?_) (by rw[e1];exact I.chn) (fun c=>by rw[e1];exact I.chi c) ?_
 ·rcases Ef.1 hy with e|e
  ·subst e;refine⟨Ay0.2 ⟨R.conf,R.slot,R.first,?_,Bnc R.tags,R.dist,R.done,R.zero⟩,(Az1 I hq).2⟩
   have:=R.ntag
   show(x.Fh.take _).length≤6;simp;omega
  ·exact I.wrec y (by rw[hq];exact Z56 _ e)
 ·rw[List.all_append,I.log]
  have:=R.tags _ (Ani (show x.Fh.length - 1<x.Fh.length by omega))
  simp[Acu,this]
def Ap4 (w:C4)(x:Az):Int:=if w.fC.G6<x.Wv+w.fC.E6 then w.fC.G6 else x.Wv+w.fC.E6
def Bbb (w:C4)(x:Az):List Int:=A0f w.fP.N5 (gt x.Ay 0*w.fC.G6+x.Wv).toNat (Ap4 w x - x.Wv).toNat
def A60 (w:C4)(x:Az):Dm:=Dm.mk (Bbb w x) (if Ap4 w x<w.fC.G6 then w.fP.Vg else w.fP.Vg.set (gt x.Ay 0).toNat 0) w.fP.N6
def A3c (w:C4)(x:Az):Az:=if Ap4 w x<w.fC.G6 then Az.mk x.Bk x.Ee x.Fh x.Ay (Ap4 w x)else Az.mk x.Bk x.Ee x.Fh (x.Ay.drop 1) 0
def A1p (w:C4)(x:Az)(qs:List Az):C4:=C4.mk w.fC (A60 w x) w.fL (A3c w x::qs) w.Acw
structure Br5 (w:C4)(x:Az):Prop where
 rc:Bp9 w.fC x
 k:0≤gt x.Ay 0∧gt x.Ay 0<w.fC.Ay
 st:gt w.fP.Vg (gt x.Ay 0)=2
 at0:0≤gt x.Ay 0*w.fC.G6
 at1:gt x.Ay 0*w.fC.G6+w.fC.G6≤(w.fP.N5.length:Int)
 len:w.fP.N5.length≤192
 to:x.Wv<Ap4 w x∧Ap4 w x≤w.fC.G6
 zero:Ao6 ((w.fP.N5.drop (gt x.Ay 0*w.fC.G6).toNat).take x.Wv.toNat)=true
theorem A6e{c:D9}{p:Dm}(P:A5s c p):p.N5.length≤192:=by
 obtain⟨b1,b2,_⟩:=Gx P.conf
 have hm:=Au0 (a:=c.Ay) (b:=c.G6) (m:=12) (n:=16) (by omega) b1.2 (by omega) b2.2
 have:=P.mem;omega
theorem Beu{w:C4}(I:Inv w){x:Az}{qs:List Az}(hq:w.fQ=x::qs)(hc:0<x.Ay.length):Br5 w x:=by
 have R:=Ay0.1 (Az1 I hq).1
 have P:=Ail.1 I.pool
 have hx:x∈w.fQ:=by rw[hq];exact List.mem_cons_self
 have hm:gt x.Ay 0∈x.Ay:=Ani (i:=0) hc
 have h1:=(I.chi _).1 (Ba6 hx hm);obtain⟨_,_,e3,e4⟩:=A2i I.conf P.mem h1.1.1 h1.1.2;obtain⟨b1,b2,b3,b4,b5,b6⟩:=Gx I.conf
 have hd:=R.done;refine⟨R,h1.1,h1.2,e3,e4,A6e P,?_,?_⟩
 ·unfold Ap4;split<;>omega
 ·have:=(Az1 I hq).2;unfold Am6 at this;rw[decide_eq_true (by omega)]at this
  exact this
section
variable {K:Nat} (hK:281474976710656≤K)
include hK
theorem Bcu{w:C4}(hw:A2k w.fP)(hp:Auj w.fC w.fP=true){x:Az}(X:Br5 w x):Aww K w.fC w.fP (gt x.Ay 0) x.Wv=some (A60 w x,!decide (Ap4 w x<w.fC.G6)):=by
 obtain⟨b1,b2,b3,b4,b5,b6⟩:=Gx X.rc.conf
 have P:=Ail.1 hp;obtain⟨e1,e2,e3,e4⟩:=A2i X.rc.conf P.mem X.k.1 X.k.2
 have hd:=X.rc.done
 have ht:=X.to
 have hl:=X.len
 have hk:=X.k
 have es:An3 .i64 x.Wv w.fC.E6=x.Wv+w.fC.E6:=by unfold An3;exact K0 (by omega) (by omega)
 have el:A0i K (x.Wv+w.fC.E6) w.fC.G6=some (Ap4 w x):=by
  unfold A0i Ap4
  by_cases q:w.fC.G6<x.Wv+w.fC.E6
  ·rw[decide_eq_true q,if_pos q];rfl
  ·rw[decide_eq_false q,if_neg q];rfl
 have ea:An3 .i64 (gt x.Ay 0*w.fC.G6) x.Wv=gt x.Ay 0*w.fC.G6+x.Wv:=by unfold An3;exact K0 (by omega) (by omega)
 have en:An4 .i64 (Ap4 w x) x.Wv=Ap4 w x - x.Wv:=by unfold An4;exact K0 (by omega) (by omega)
 unfold Aww;rw[A1y K hw,A6n hK,hp,Anm,Ay8 hK X.rc.conf,Acu.2 ⟨by omega,by omega⟩,Anm,A59 X.rc.conf,Acu.2 hd,es,el,e1,ea]
 simp only[Z0,cond_true,Bool.not_true,cond_false];rw[en,Bih hK (by omega) ⟨by omega,by omega⟩ (by omega) (by omega)]
 simp only[Z0,e2];rw[if_pos ⟨hk.1,by rw[P.st];exact hk.2⟩,X.st]
 simp only[bne_self_eq_false,cond_false];unfold A60
 by_cases q:Ap4 w x<w.fC.G6
 ·rw[decide_eq_true q,if_pos q];rfl
 ·rw[decide_eq_false q,if_neg q];simp only[cond_false,Bool.not_false];rw[if_pos ⟨by omega,by omega,by show _≤((A0f _ _ _).length:Int);rw[Atn];exact e4⟩]
  have hz:Ao6 (((A0f w.fP.N5 (gt x.Ay 0*w.fC.G6+x.Wv).toNat (Ap4 w x - x.Wv).toNat).drop (gt x.Ay 0*w.fC.G6).toNat).take (gt x.Ay 0*w.fC.G6+w.fC.G6 - gt x.Ay 0*w.fC.G6).toNat)=true:=by
   rw[show(gt x.Ay 0*w.fC.G6+x.Wv).toNat=(gt x.Ay 0*w.fC.G6).toNat+x.Wv.toNat by omega]
   exact Bct X.zero (by omega)
  rw[A1v hK _ (by simp[Atn];omega),hz]
  simp only[Z0,Bool.not_true,cond_false];rw[if_pos ⟨hk.1,by rw[P.st];exact hk.2⟩]
  rfl
theorem Bqb{w:C4}(I:Inv w)(hw:A2k w.fP){x:Az}{qs:List Az}(hq:w.fQ=x::qs)(hc:0<x.Ay.length):Ax4 K w=some (A1p w x qs):=by
 have hm:=V1
 have X:=Beu I hq hc
 have hlen:=Asc X.rc.conf X.rc.dist;obtain⟨b1,b2,b3,b4,b5,b6⟩:=Gx X.rc.conf
 have hd:=X.rc.done;unfold Ax4;rw[hq,gt0,if_pos ⟨by omega,by simp⟩,if_pos ⟨by omega,by omega⟩,Bcu hK hw I.pool X,Z0]
 simp only;unfold A1p A3c
 by_cases q:Ap4 w x<w.fC.G6
 ·rw[decide_eq_true q,if_pos q]
  have es:An3 .i64 x.Wv w.fC.E6=Ap4 w x:=by
   have ht:=X.to;unfold Ap4 at q ⊢;split at q
   ·omega
   ·rename_i r;rw[if_neg r];unfold An3;exact K0 (by omega) (by omega)
  rw[es];rfl
 ·rw[decide_eq_false q,if_neg q]
  have et:(x.Ay.drop (1:Int).toNat).take ((x.Ay.length:Int) - 1).toNat=x.Ay.drop 1:=by
   rw[show(1:Int).toNat=1 from rfl]
   exact List.take_of_length_le (by simp)
  simp only[Bool.not_false,cond_true];rw[if_pos ⟨by omega,by omega,by omega⟩,et,Z38,if_pos ⟨by simp;omega,by simp;omega⟩]
  rfl
end
theorem A2s{c:D9}{l:List Int}:Atq c l=true ↔ l.Nodup∧ ∀x∈l,0≤x∧x<c.Ay:=by
 constructor
 ·intro h;exact⟨Azb h,Atz h⟩
 ·rintro⟨h1,h2⟩;unfold Atq;rw[Z1];intro i hi;rw[List.mem_range]at hi;rw[Z4,Acu,V2 hi]
  have:=h2 _ (List.getElem_mem hi);refine⟨by omega,?_⟩
  have hn:=A4w.1 h1 i hi;simpa using hn
theorem Bii{c:D9}{l:List Int}{n:Nat}(h:Atq c l=true):Atq c (l.drop n)=true:=by
 rw[A2s]at h ⊢;exact⟨h.1.sublist (List.drop_sublist _ _),fun x hx=>h.2 x (List.mem_of_mem_drop hx)⟩
theorem Bnd{w:C4}{x:Az}(h: ∀y∈w.fP.N5,0≤y∧y≤255): ∀y∈Bbb w x,0≤y∧y≤255:=by
 refine A8e fun k hk=> ?_;unfold Bbb at hk ⊢;rw[Atn]at hk;obtain⟨j,rfl⟩: ∃j:Nat,k=j:=⟨k.toNat,by omega⟩
 rw[A4k (by omega)]
 split
 ·omega
 ·exact h _ (Ani (by omega))
theorem Bne{w:C4}(I:Inv w){x:Az}{qs:List Az}(hq:w.fQ=x::qs)(hc:0<x.Ay.length):Inv (A1p w x qs):=by
 have X:=Beu I hq hc
 have P:=Ail.1 I.pool
 have hk:=X.k
 have hd:=X.rc.done
 have ht:=X.to
 have hxq:x∈w.fQ:=by rw[hq];exact List.mem_cons_self
 have hst: ∀c,0≤c∧c<w.fC.Ay->gt (A60 w x).Vg c=if c=gt x.Ay 0∧ ¬Ap4 w x<w.fC.G6 then 0 else gt w.fP.Vg c:=by
  intro c h
  show gt (if Ap4 w x<w.fC.G6 then w.fP.Vg else w.fP.Vg.set (gt x.Ay 0).toNat 0) c=_
  by_cases q:Ap4 w x<w.fC.G6
  ·rw[if_pos q,if_neg (fun r=>r.2 q)]
  ·rw[if_neg q,A2q hk.1 (by rw[P.st];exact h)]
   by_cases r:c=gt x.Ay 0
   ·rw[if_pos r,if_pos ⟨r,q⟩]
   ·rw[if_neg r,if_neg (fun s=>r s.1)]
 have hz: ∀b m,Ao6 ((w.fP.N5.drop b).take m)=true->Ao6 (((A60 w x).N5.drop b).take m)=true:=fun b m h=>Big h
 have hN:(gt x.Ay 0*w.fC.G6+x.Wv).toNat=(gt x.Ay 0*w.fC.G6).toNat+x.Wv.toNat:=by have:=X.at0;omega
 have hall: ∀m:Nat,m≤(Ap4 w x).toNat->Ao6 (((A60 w x).N5.drop (gt x.Ay 0*w.fC.G6).toNat).take m)=true:=by
  intro m h
  show Ao6 (((A0f _ _ _).drop _).take m)=true;rw[hN];exact Bct X.zero (by omega)
 have hlen:(A60 w x).N5.length=w.fP.N5.length:=Atn _ _ _
 have hcons:x.Ay=gt x.Ay 0::x.Ay.drop 1:=by
  cases h:x.Ay with
  |nil=>rw[h]at hc;simp at hc
  |cons a l=>rfl
 have hnd:=Azb X.rc.dist
 have hch:chL w.fQ=x.Ay++chL qs:=by rw[hq];rfl
 have hn:=I.chn;rw[hch]at hn
 have hchi:=I.chi;rw[hch]at hchi;unfold A1p;refine Bba I (A60 w x) _ _ ⟨P.conf,by rw[hlen];exact P.mem,?_,P.own,fun c h=> ?_⟩ (fun c h=>⟨?_,rfl⟩) (fun k h=> ?_) ?_ ?_ (fun y hy=> ?_) ?_ (fun c=> ?_) I.log
 ·show((if Ap4 w x<w.fC.G6 then w.fP.Vg else w.fP.Vg.set (gt x.Ay 0).toNat 0).length:Int)=_
  split
  ·exact P.st
  ·rw[Z49];exact P.st
 ·obtain⟨p1,p2,p3,p4⟩:=P.one c h;rw[hst c h]
  show _∧(_->0≤gt w.fP.N6 c∧_)∧(_->gt w.fP.N6 c= -1)∧_
  by_cases q:c=gt x.Ay 0∧ ¬Ap4 w x<w.fC.G6
  ·rw[if_pos q];refine⟨by omega,fun f=>by omega,fun _=>p3 (by rw[q.1,X.st];decide),fun _=> ?_⟩
   unfold Aty;rw[q.1];exact hall _ (by omega)
  ·rw[if_neg q];exact⟨p1,p2,p3,fun f=>hz _ _ (p4 f)⟩
 ·rw[hst c h];split
  ·rename_i q;rw[q.1,X.st];decide
  ·rfl
 ·have:=(I.thing k h).2.2;unfold Ap3 at this ⊢;rw[Bool.or_eq_true,Z4]at this ⊢;rcases this with a|⟨a,b⟩
  ·exact .inl a
  ·exact .inr ⟨hz _ _ a,b⟩
 ·rw[hq];unfold A3c Awq;split<;>rfl
 ·rw[hq];unfold A3c slL;split<;>rfl
 ·rcases Ef.1 hy with e|e
  ·subst e;unfold A3c
   by_cases q:Ap4 w x<w.fC.G6
   ·rw[if_pos q];refine⟨Ay0.2 ⟨X.rc.conf,X.rc.slot,X.rc.first,X.rc.ntag,X.rc.tags,X.rc.dist,⟨by show 0≤Ap4 w x;omega,by show Ap4 w x≤_;omega⟩,fun f=> ?_⟩,?_⟩
    ·have f:x.Ay=[]:=f;rw[f]at hc;simp at hc
    ·unfold Am6;rw[Bool.or_eq_true];exact .inr (hall _ (Z9 _))
   ·rw[if_neg q];refine⟨Ay0.2 ⟨X.rc.conf,X.rc.slot,X.rc.first,X.rc.ntag,X.rc.tags,?_,⟨Int.le_refl _,by show(0:Int)≤_;omega⟩,fun _=>rfl⟩,?_⟩
    ·exact Bii X.rc.dist
    ·unfold Am6;rw[Bool.or_eq_true];exact .inr rfl
  ·obtain⟨a,b⟩:=I.wrec y (by rw[hq];exact Z56 _ e)
   refine⟨a,?_⟩;unfold Am6 at b ⊢;rw[Bool.or_eq_true]at b ⊢;rcases b with b|b
   ·exact .inl b
   ·exact .inr (hz _ _ b)
 ·show((A3c w x).Ay++chL qs).Nodup;unfold A3c;split
  ·exact hn
  ·rw[hcons]at hn;exact(List.nodup_cons.1 hn).2
 ·show c∈(A3c w x).Ay++chL qs ↔ _;rw[hcons,Z45]at hn
  have hni:=(List.nodup_cons.1 hn).1
  have hci:=hchi c;rw[hcons,Z45,Ef]at hci;unfold A3c
  by_cases q:Ap4 w x<w.fC.G6
  ·rw[if_pos q]
   show c∈x.Ay++chL qs ↔ _;rw[hchi c];refine and_congr_right fun a=> ?_;rw[hst c a,if_neg (fun r=>r.2 q)]
  ·rw[if_neg q]
   show c∈x.Ay.drop 1++chL qs ↔ _;constructor
   ·intro h;obtain⟨a,b⟩:=hci.1 (.inr h);refine⟨a,?_⟩;rw[hst c a,if_neg]
    ·exact b
    ·rintro⟨r,_⟩;rw[r]at h;exact hni h
   ·rintro⟨a,b⟩;rw[hst c a]at b;split at b
    ·omega
    ·rename_i r;rcases hci.2 ⟨a,b⟩with e|e
     ·exact absurd ⟨e,q⟩ r
     ·exact e
def Bij (g n:As)(k x:Int):As:=lnk n (if g.Sm=0∧x+1=g.fUp∧n.Ee=k+1 then g.Sl else n.Ee) (if x+1=g.Sm then g.Sl else n.Sl) (if x+1=g.Sl then g.Sm else n.Sm)
theorem Bgj{l l':List As}{t:Int->Lk}(A:AtT l t){k:Int}(hk:0≤k∧k<(l.length:Int))(hN:l'.length=l.length)(hg: ∀x,0≤x∧x<(l.length:Int)->x≠k->gt l' x=Bij (gt l k) (gt l x) k x){gn:Int}(hb:gt l' k=Aqj 2 gn):AtT l' (rem t k):=by
 intro x hx;rw[hN]at hx
 by_cases e:x=k
 ·subst e;rw[A5n,hb];rfl
 ·rw[Alv e,hg x hx e,A x hx,A k hk];rfl
theorem Bnf{w:C4}(I:Inv w){t:Int->Lk}(A:AtT w.fL t)(F:Akm w.fL.length t (Awq w.fQ)){k:Int}(hl:Lv w.fL.length t k)(l':List As)(q':List Az)(hN:l'.length=w.fL.length)
  (hg: ∀x,0≤x∧x<(w.fL.length:Int)->x≠k->gt l' x=Bij (gt w.fL k) (gt w.fL x) k x) (hb:gt l' k=Aqj 2 (gt w.fL k).C8)
  (F':Akm w.fL.length (rem t k) (Awq q')) (hr: ∀x∈q',Ald w.fC x=true∧Am6 w x=true)
  (hcn:(chL q').Nodup) (hci: ∀c,c∈chL q' ↔ c∈chL w.fQ++(gt w.fL k).Ay) (hsn:(slL q').Nodup) (hsi: ∀s,s∈slL q' ↔ s∈slL w.fQ∨s=k):
  Inv (C4.mk w.fC (Akw w.fP (gt w.fL k).Ay) l' q' w.Acw):=by
 have hk:=hl.1
 have P:=I.live A hl;obtain⟨L1,L2,L3⟩:=A05 I hk;refine⟨Ail.2 L1,by show(l'.length:Int)=_;rw[hN];exact I.len,fun x hx=> ?_,fun x hx c=> ?_,fun x hx=> ?_,⟨rem t k,Bgj A hk hN hg hb,?_⟩,fun x hx=> ?_,hcn,fun c=> ?_,hsn,fun s=> ?_,I.log⟩
 ·have hx:0≤x∧x<(l'.length:Int):=hx;rw[hN]at hx
  show Aqg w.fC (gt l' x)=true
  by_cases e:x=k
  ·rw[e,hb];exact A4j I.conf (by omega) (by omega) P.gen
  ·rw[hg x hx e];obtain⟨a1,a2,a3,a4⟩:=A44 (I.node k hk)
   by_cases hs:(gt w.fL x).Vg=1
   ·have X:=Aik.1 ⟨I.node x hx,hs⟩;refine(Aik.2 (A8a X ?_ ?_ ?_)).1
    ·split
     ·exact a3
     ·exact X.first
    ·split
     ·exact a3
     ·exact X.next
    ·split
     ·exact a4
     ·exact X.prev
   ·have X:=Axl (I.node x hx) hs
    have B:=(A73 F.tree hl).bare x hx.1 hx.2 (by rw[Alv e,A x hx];simpa[A3z]using hs)
    rw[Alv e,A x hx,A k hk]at B;obtain⟨_,B2,B3,B4⟩:=B
    have q1:(if(gt w.fL k).Sm=0∧x+1=(gt w.fL k).fUp∧(gt w.fL x).Ee=k+1 then(gt w.fL k).Sl else(gt w.fL x).Ee)=0:=B2
    have q2:(if x+1=(gt w.fL k).Sm then(gt w.fL k).Sl else(gt w.fL x).Sl)=0:=B3
    have q3:(if x+1=(gt w.fL k).Sl then(gt w.fL k).Sm else(gt w.fL x).Sm)=0:=B4
    have this:lnk (gt w.fL x) 0 0 0=gt w.fL x:=by rw[X];rfl
    unfold Bij;rw[q1,q2,q3,this];exact I.node x hx
 ·have hx:0≤x∧x<(l'.length:Int):=hx;rw[hN]at hx
  show c∈(gt l' x).Ay ↔ (0≤c∧c<w.fC.Ay)∧gt (Akw w.fP (gt w.fL k).Ay).Vg c=1∧gt (Akw w.fP (gt w.fL k).Ay).N6 c=x
  by_cases e:x=k
  ·rw[e,hb];constructor
   ·intro q;cases q
   ·rintro⟨a,b,d⟩;rw[(L3 c a).1]at b;rw[(L3 c a).2]at d;split at b
    ·omega
    ·rename_i q;rw[if_neg q]at d;exact absurd ((I.own k hk c).2 ⟨a,b,by omega⟩) q
  ·rw[hg x hx e]
   show c∈(gt w.fL x).Ay ↔ _;rw[I.own x hx c];constructor
   ·rintro⟨a,b,d⟩
    have q:c ∉ (gt w.fL k).Ay:=fun q=>e (by have:=((I.own k hk c).1 q).2.2;omega)
    rw[(L3 c a).1,(L3 c a).2,if_neg q,if_neg q];exact⟨a,b,d⟩
   ·rintro⟨a,b,d⟩;rw[(L3 c a).1]at b;rw[(L3 c a).2]at d;split at b
    ·omega
    ·rename_i q;rw[if_neg q]at d;exact⟨a,b,d⟩
 ·have hx:0≤x∧x<(l'.length:Int):=hx;rw[hN]at hx
  show(gt l' x).F4.all (Aq2 w.fC (gt l' x).Ay)=true∧Ane (gt l' x).F4=true∧Ap3 w.fC (Akw w.fP (gt w.fL k).Ay).N5 (gt l' x)=true
  by_cases e:x=k
  ·rw[e,hb];exact⟨rfl,rfl,rfl⟩
  ·rw[hg x hx e];obtain⟨t1,t2,t3⟩:=I.thing x hx;refine⟨t1,t2,?_⟩;rw[L2];exact t3
 ·show Akm (l'.length:Int) _ (Awq q');rw[hN];exact F'
 ·obtain⟨a,b⟩:=hr x hx;refine⟨a,?_⟩;unfold Am6 at b ⊢
  show(_||Ao6 (((Akw w.fP (gt w.fL k).Ay).N5.drop (gt x.Ay 0*w.fC.G6).toNat).take x.Wv.toNat))=true
  rw[L2];exact b
 ·show c∈chL q' ↔ _;rw[hci c];exact Ba8 I hk c
 ·show s∈slL q' ↔ (0≤s∧s<(l'.length:Int))∧(gt l' s).Vg=2;rw[hsi s,hN,I.sli];constructor
  ·rintro(⟨a,b⟩|a)
   ·refine⟨a,?_⟩
    have e:s≠k:=fun e=>by rw[e,P.st]at b;cases b
    rw[hg s a e];exact b
   ·rw[a,hb];exact⟨hk,rfl⟩
  ·rintro⟨a,b⟩
   by_cases e:s=k
   ·exact .inr e
   ·rw[hg s a e]at b;exact .inl ⟨a,b⟩
def A2t (l:List As)(g:Int):List As:=((bif plB l (gt l g).Sl then l.set ((gt l g).Sl - 1).toNat (Bmq (gt l ((gt l g).Sl - 1)) 0)else l).set g.toNat (Aqj 2 (gt l g).C8))
def Bcv (l:List As)(x:Az):Az:=Az.mk x.Bk (gt l (x.Ee - 1)).Sl x.Fh x.Ay x.Wv
def A1q (w:C4)(x:Az)(qs:List Az):C4:=
 C4.mk w.fC (Akw w.fP (gt w.fL (x.Ee - 1)).Ay) (A2t w.fL (x.Ee - 1)) (Aiv (gt w.fL (x.Ee - 1)) x.Ee::Bcv w.fL x::qs) w.Acw
theorem Bcw (l:List As)(g:Int):(A2t l g).length=l.length:=by
 unfold A2t;rw[Z49];cases plB l (gt l g).Sl<;>simp
theorem Bgk{l:List As}(R:Rg l){g x:Int}(hg:0≤g∧g<(l.length:Int))(hx:0≤x∧x<(l.length:Int))(hne:x≠g)(hp:(gt l g).Sm=0)(hf: ¬(x+1=(gt l g).fUp∧(gt l x).Ee=g+1)):gt (A2t l g) x=Bij (gt l g) (gt l x) g x:=by
 obtain⟨r1,r2,r3,r4⟩:=R.rg g hg
 have hl:=R.len;unfold A2t Bij;rw[Bcr r3.1 r3.2 hl,hp,if_neg (fun q=>hf q.2),if_neg (by omega: ¬x+1=0)]
 by_cases h:(gt l g).Sl=0
 ·rw[h];simp only[beq_self_eq_true,Bool.not_true,cond_false];rw[Apv hg hx,if_neg hne,if_neg (by omega)];rfl
 ·rw[Agz h];simp only[Bool.not_false,cond_true];rw[Apv (by rw[Z49];exact hg) (by rw[Z49];exact hx),if_neg hne,Apv (by omega) hx]
  by_cases e:x=(gt l g).Sl - 1
  ·rw[if_pos e,if_pos (by omega),←e];rfl
  ·rw[if_neg e,if_neg (by omega)];rfl
theorem Bgl{l:List As}{g:Int}(hg:0≤g∧g<(l.length:Int)):gt (A2t l g) g=Aqj 2 (gt l g).C8:=by
 unfold A2t;rw[A02];cases plB l (gt l g).Sl<;>simpa using hg
structure By2 (w:C4)(t:Int->Lk)(x:Az)(qs:List Az):Prop where
 rc:Bp9 w.fC x
 lv:Lv w.fL.length t (x.Ee - 1)
 or:Oo w.fL.length t (x.Ee - 1)
 pv:(gt w.fL (x.Ee - 1)).Sm=0
 fr:Akm w.fL.length (rem t (x.Ee - 1)) (Awq (Aiv (gt w.fL (x.Ee - 1)) x.Ee::Bcv w.fL x::qs))
 nf: ∀y,0≤y∧y<(w.fL.length:Int)-> ¬(y+1=(gt w.fL (x.Ee - 1)).fUp∧(gt w.fL y).Ee=x.Ee - 1+1)
theorem Bbc{w:C4}(I:Inv w){t:Int->Lk}(A:AtT w.fL t)(F:Akm w.fL.length t (Awq w.fQ)){x:Az}{qs:List Az}(hq:w.fQ=x::qs)(hf:x.Ee≠0):By2 w t x qs:=by
 have R:=Ay0.1 (Az1 I hq).1
 have hx:x∈w.fQ:=by rw[hq];exact List.mem_cons_self
 have hF:=R.first
 have e:x.Ee - 1+1=x.Ee:=by omega
 have F1:Akm w.fL.length t ((x.Bk,x.Ee - 1+1)::Awq qs):=by rw[e];rw[hq]at F;exact F
 obtain⟨h1,h2,h3⟩:=Bco F1 (by omega)
 have hin:=h1.1
 have hor:Oo w.fL.length t (x.Ee - 1):=F.kid.or (Inv.qs hx) (A5o hin)
 have hpv:(gt w.fL (x.Ee - 1)).Sm=0:=by rw[A _ hin]at h2;exact h2
 refine⟨R,h1,hor,hpv,?_,?_⟩
 ·rw[A _ hin,e]at h3;exact h3
 ·rintro y hy ⟨a,b⟩
  have hup:(t (x.Ee - 1)).up=y+1:=by rw[A _ hin,a];rfl
  have hfi:(t y).fi=x.Ee:=by rw[A _ hy,←e,←b];rfl
  cases hlv:(t y).lv with
  |false=>
   have:=(F.tree.bare y hy.1 hy.2 hlv).2.1;omega
  |true=>
   have hY:Lv w.fL.length t y:=⟨hy,hlv⟩
   have:=(F.tree.link y hY).first (by omega)
   rw[hfi]at this;refine hor.2.2 ⟨?_,?_⟩
   ·rw[hup];simpa using hY
   ·rw[hup];simpa using this.2.2.2.symm
theorem Bng{w:C4}(I:Inv w){x:Az}{qs:List Az}(hq:w.fQ=x::qs)(hf:x.Ee≠0):Inv (A1q w x qs):=by
 obtain⟨t,A,F⟩:=I.forest
 have X:=Bbc I A F hq hf
 have hk:=X.lv.1
 have hF:=X.rc.first
 have L:=I.live A X.lv;obtain⟨b1,b2,b3,b4,b5,b6⟩:=Gx I.conf
 have hch:chL w.fQ=x.Ay++chL qs:=by rw[hq];rfl
 have hcn:=Ba7 I hk;rw[hch]at hcn
 have hsl:slL w.fQ=(if x.Bk=0 then []else [An4 .i64 x.Bk 1])++slL qs:=by rw[hq];rfl
 have hsn:=I.sln;rw[hsl]at hsn
 have e1:slL (Aiv (gt w.fL (x.Ee - 1)) x.Ee::Bcv w.fL x::qs)=(x.Ee - 1)::((if x.Bk=0 then []else [An4 .i64 x.Bk 1])++slL qs):=by
  show(if x.Ee=0 then []else [An4 .i64 x.Ee 1])++_=_
  rw[if_neg hf,sb1 (by omega) (by omega)];rfl
 have hns:x.Ee - 1 ∉ slL w.fQ:=fun h=>by
  have:=((I.sli _).1 h).2
  have:=L.st;omega
 unfold A1q;refine Bnf I A F X.lv _ _ (Bcw _ _) (fun y hy hne=>Bgk I.rg hk hy hne X.pv (X.nf y hy)) (Bgl hk) X.fr (fun y hy=> ?_) ?_ (fun c=> ?_) ?_ (fun s=> ?_)
 ·rcases Ef.1 hy with e|e
  ·rw[e];exact⟨A31 L (by omega),A8b _ _ _⟩
  ·rcases Ef.1 e with e|e
   ·rw[e];exact⟨Ay0.2 ⟨X.rc.conf,X.rc.slot,L.next,X.rc.ntag,X.rc.tags,X.rc.dist,X.rc.done,X.rc.zero⟩,(Az1 I hq).2⟩
   ·exact I.wrec y (by rw[hq];exact Z56 _ e)
 ·show((gt w.fL (x.Ee - 1)).Ay++(x.Ay++chL qs)).Nodup;obtain⟨n1,n2,n3⟩:=Aip.1 hcn;exact Aip.2 ⟨n2,n1,fun z h1 h2=>n3 z h2 h1⟩
 ·rw[hch]
  show c∈(gt w.fL (x.Ee - 1)).Ay++(x.Ay++chL qs) ↔ _;rw[Mh,Mh (s:=x.Ay++chL qs)];exact Or.comm
 ·rw[e1,←hsl];exact List.nodup_cons.2 ⟨hns,I.sln⟩
 ·rw[e1,←hsl,Ef];exact Or.comm
def AlW (l:List As)(k:Int):Prop:= ∃t,AtT l t∧Al l.length t k
structure A5u (w w':C4):Prop where
 conf:w'.fC=w.fC
 len:w'.fL.length=w.fL.length
 node: ∀k,AlW w.fL k->AlW w'.fL k∧(∃a b c,gt w'.fL k=lnk (gt w.fL k) a b c)∧ ∀n,Aib w'.fL n k=Aib w.fL n k
theorem A8f (n:As):lnk n n.Ee n.Sl n.Sm=n:=rfl
theorem A5u.refl (w:C4):A5u w w:=⟨rfl,rfl,fun k h=>⟨h,⟨_,_,_,(A8f _).symm⟩,fun _=>rfl⟩⟩
theorem A5u.trans{a b c:C4}(h:A5u a b)(g:A5u b c):A5u a c:=by
 refine⟨g.conf.trans h.conf,g.len.trans h.len,fun k hk=> ?_⟩;obtain⟨h1,⟨x,y,z,h2⟩,h3⟩:=h.node k hk;obtain⟨g1,⟨u,v,w,g2⟩,g3⟩:=g.node k h1;exact⟨g1,⟨u,v,w,by rw[g2,h2];rfl⟩,fun n=>(g3 n).trans (h3 n)⟩
theorem A9p{w w':C4}(hc:w'.fC=w.fC)(hl:w'.fL=w.fL):A5u w w':=⟨hc,by rw[hl],fun k h=>by rw[hl];exact⟨h,⟨_,_,_,(A8f _).symm⟩,fun _=>rfl⟩⟩
theorem Bnh{N:Int}{t t':Int->Lk}(h: ∀y,Al N t y->Lv N t' y∧(t' y).up=(t y).up∧(Cu N t y->Al N t ((t y).up - 1)->Cu N t' y)){k:Int}(hk:Al N t k):Al N t' k:=by
 induction hk with
 |root a b=>
  obtain⟨h1,h2,h3⟩:=h _ (.root a b);exact .root h1 (by rw[h2];exact b)
 |step a b c ih=>
  obtain⟨h1,h2,h3⟩:=h _ (.step a b c);exact .step h1 (h3 b c) (by rw[h2];exact ih)
theorem Bvs{N:Int}{t:Int->Lk}{g:Int}(hg:Oo N t g){k:Int}(hk:Al N t k):Al N (rem t g) k:=by
 refine Bnh (fun y hy=> ?_) hk
 have hne:y≠g:=fun e=>hy.noOr (e ▸ hg);refine⟨Apm.2 ⟨hne,hy.lv⟩,by rw[Alv hne],fun hc hu=>(A1n hne).2 ⟨fun e=> ?_,hc⟩⟩
 rw[e,Int.add_sub_cancel]at hu;exact hu.noOr hg
theorem Bvt{N:Int}{t:Int->Lk}{g:Int}(hg:(t g).lv=false){k:Int}(hk:Al N t k):Al N (clr t g) k:=by
 refine Bnh (fun y hy=> ?_) hk;exact⟨(Avq hg).2 hy.lv,by rw[Aij hg hy.lv],fun hc _=>(A43 hg hy.lv).2 hc⟩
theorem Bni{N:Int}{t t':Int->Lk}(h: ∀x,0≤x∧x<N->t' x=t x){k:Int}(hk:Al N t k):Al N t' k:=by
 refine Bnh (fun y hy=> ?_) hk
 have hy1:=hy.lv;refine⟨⟨hy1.1,by rw[h y hy1.1];exact hy1.2⟩,by rw[h y hy1.1],fun hc _=> ?_⟩
 have hc1:=hc.1;unfold Cu Lv;rw[h y hy1.1,h _ hc1.1];exact hc
theorem AlW.al{l:List As}{t:Int->Lk}(A:AtT l t){k:Int}(h:AlW l k):Al l.length t k:=by
 obtain⟨t',A',h'⟩:=h;exact Bni (fun x hx=>by rw[A x hx,A' x hx]) h'
theorem Bcx{w w':C4}{t t':Int->Lk}(R:Rg w.fL)(R':Rg w'.fL)(A:AtT w.fL t)(A':AtT w'.fL t')(F:Akm w.fL.length t (Awq w.fQ))(hc:w'.fC=w.fC)(hl:w'.fL.length=w.fL.length)
  (hn: ∀k,Al w.fL.length t k->Al w.fL.length t' k∧(t' k).up=(t k).up∧ ∃a b c,gt w'.fL k=lnk (gt w.fL k) a b c):A5u w w':=by
 refine⟨hc,hl,fun k hk=> ?_⟩
 have h:=hk.al A;obtain⟨h1,h2,h3⟩:=hn k h;refine⟨⟨t',A',by rw[hl];exact h1⟩,h3,fun n=> ?_⟩
 rw[A5p A' R',A5p A R,hl];obtain⟨d,U⟩:=F.uw;exact A1z _ _ fun y hy=>(hn y ((Bgf U n k h).1 y hy).2).2.1
theorem A06{α:Type}[Inhabited α](a:α)(l:List α){i:Nat}(h:i<l.length):gt (a::l) ((i+1:Nat):Int)=gt l (i:Int):=by
 rw[V2 (by simp;omega),V2 h];rfl
theorem Bnj{α:Type}[Inhabited α](f:α->Nat): ∀(l l':List α),l'.length=l.length->(∀x:Nat,x<l.length->f (gt l' (x:Int))=f (gt l (x:Int)))->(l'.map f).sum=(l.map f).sum:=by
 intro l
 induction l with
 |nil=>intro l' h _;rw[Y6.1 h]
 |cons a l ih=>
  intro l' h hx;cases l' with
  |nil=>simp at h
  |cons b l'=>
   have hl:l'.length=l.length:=by simpa using h
   have h0:=hx 0 (by simp)
   have:=ih l' hl fun x h=>by
    have:=hx (x+1) (by simp;omega)
    rwa[A06 _ _ (by omega),A06 _ _ h]at this
   simp only[Z8,List.sum_cons,this];rw[show f b=f a from h0]
theorem Bqc{α:Type}[Inhabited α](f:α->Nat): ∀(l l':List α) (g:Nat),l'.length=l.length->g<l.length->(∀x:Nat,x<l.length->x≠g->f (gt l' (x:Int))=f (gt l (x:Int)))->(l'.map f).sum+f (gt l (g:Int))=(l.map f).sum+f (gt l' (g:Int)):=by
 intro l
 induction l with
 |nil=>intro l' g _ h;simp at h
 |cons a l ih=>
  intro l' g h hg hx;cases l' with
  |nil=>simp at h
  |cons b l'=>
   have hl:l'.length=l.length:=by simpa using h
   simp only[Z8,List.sum_cons];cases g with
   |zero=>
    have:=Bnj f l l' hl fun x h=>by
     have:=hx (x+1) (by simp;omega) (by omega)
     rwa[A06 _ _ (by omega),A06 _ _ h]at this
    rw[this]
    show f b+_+f a=f a+_+f b;omega
   |succ g=>
    have hg:g<l.length:=by simpa using hg
    have h0:f b=f a:=hx 0 (by simp) (by omega)
    have:=ih l' g hl hg fun x h hn=>by
     have:=hx (x+1) (by simp;omega) (by omega)
     rwa[A06 _ _ (by omega),A06 _ _ h]at this
    rw[A06 _ _ hg,A06 _ _ (by omega)]
    omega
theorem A33{f:As->Nat}{l l':List As}{g:Int}(hl:l'.length=l.length)(hg:0≤g∧g<(l.length:Int))(hx: ∀x,0≤x∧x<(l.length:Int)->x≠g->f (gt l' x)=f (gt l x)):(l'.map f).sum+f (gt l g)=(l.map f).sum+f (gt l' g):=by
 have:=Bqc f l l' g.toNat hl (by omega) fun x h hn=>hx x ⟨by omega,by omega⟩ (by omega)
 rwa[show((g.toNat:Nat):Int)=g by omega]at this
theorem A34 (c:D9){st:Int}(h:st≠1)(g:Int):wtN c (Aqj st g)=0:=by unfold wtN Aqj;rw[if_neg h]
structure Bev (w w':C4)(E:Int):Prop where
 inv:Inv w'
 mem: ∀x∈w'.fP.N5,0≤x∧x≤255
 ep: ∀k,0≤k∧k<(w'.fL.length:Int)->EpP E (gt w'.fL k)
 pot:pot w'<pot w
 wt:wt w'≤wt w
 stay:A5u w w'
theorem Bev.good{w w':C4}{E:Int}(S:Bev w w' E){n:Nat}(G:Dx w E n):Dx w' E n:=⟨S.inv,S.mem,S.ep,by have:=S.wt;have:=G.wt;omega⟩
theorem Bnk{w:C4}{E:Int}{n:Nat}(G:Dx w E n){x:Az}{qs:List Az}(hq:w.fQ=x::qs)(h0:0<x.Fh.length):Bev w (A5t w x qs) E:=by
 have e:wtQ w.fC (Bnb x)+1=wtQ w.fC x:=by
  unfold wtQ Bnb;simp only[List.length_take];omega
 have ep:pot (A5t w x qs)+1=pot w:=by
  unfold pot;rw[hq]
  show(w.fL.map (wtN w.fC)).sum+((Bnb x::qs).map (wtQ w.fC)).sum+1=_;simp only[Z8,List.sum_cons];omega
 refine⟨Bqa G.inv hq h0,G.mem,G.ep,by omega,?_,A9p rfl rfl⟩
 unfold wt
 show pot (A5t w x qs)+(w.Acw++[_]).length≤_;rw[Z23,List.length_singleton];omega
theorem Bik{w:C4}{E:Int}{n:Nat}(G:Dx w E n){x:Az}{qs:List Az}(hq:w.fQ=x::qs)(hc:0<x.Ay.length):Bev w (A1p w x qs) E:=by
 have X:=Beu G.inv hq hc;obtain⟨b1,b2,b3,b4,b5,b6⟩:=Gx X.rc.conf
 have ht:=X.to
 have hd:=X.rc.done
 have e:wtQ w.fC (A3c w x)<wtQ w.fC x:=by
  have hm:w.fC.G6.toNat*x.Ay.length=w.fC.G6.toNat*(x.Ay.length - 1)+w.fC.G6.toNat:=by
   conv=>lhs;rw[show x.Ay.length=x.Ay.length - 1+1 by omega]
   rw[Nat.mul_succ]
  unfold A3c;split
  ·unfold wtQ;simp only;omega
  ·unfold wtQ;simp only[List.length_drop];omega
 have ep:pot (A1p w x qs)<pot w:=by
  unfold pot;rw[hq]
  show(w.fL.map (wtN w.fC)).sum+((A3c w x::qs).map (wtQ w.fC)).sum<_;simp only[Z8,List.sum_cons];omega
 refine⟨Bne G.inv hq hc,Bnd G.mem,G.ep,ep,?_,A9p rfl rfl⟩;unfold wt
 show pot (A1p w x qs)+w.Acw.length≤_;omega
theorem Bnl{w:C4}(I:Inv w){t:Int->Lk}(A:AtT w.fL t)(F:Akm w.fL.length t (Awq w.fQ)){x:Az}{qs:List Az}(hq:w.fQ=x::qs)(hf:x.Ee≠0):
  (∀y,0≤y∧y<(w.fL.length:Int)->y≠x.Ee - 1->gt (A2t w.fL (x.Ee - 1)) y=Bij (gt w.fL (x.Ee - 1)) (gt w.fL y) (x.Ee - 1) y)∧gt (A2t w.fL (x.Ee - 1)) (x.Ee - 1)=Aqj 2 (gt w.fL (x.Ee - 1)).C8:=by
 have X:=Bbc I A F hq hf;exact⟨fun y hy hne=>Bgk I.rg X.lv.1 hy hne X.pv (X.nf y hy),Bgl X.lv.1⟩
theorem Bil{w:C4}{E:Int}{n:Nat}(G:Dx w E n)(hE:0≤E){x:Az}{qs:List Az}(hq:w.fQ=x::qs)(hf:x.Ee≠0):Bev w (A1q w x qs) E:=by
 obtain⟨t,A,F⟩:=G.inv.forest
 have X:=Bbc G.inv A F hq hf;obtain⟨hg,hb⟩:=Bnl G.inv A F hq hf
 have hk:=X.lv.1
 have L:=G.inv.live A X.lv
 have I':=Bng G.inv hq hf
 have hN:=Bcw w.fL (x.Ee - 1)
 have hs:=A33 (f:=wtN w.fC) hN hk fun y hy hne=>by rw[hg y hy hne];rfl
 rw[hb,A34 _ (by decide)]at hs
 have e1:wtN w.fC (gt w.fL (x.Ee - 1))=2+(gt w.fL (x.Ee - 1)).Fh.length+w.fC.G6.toNat*(gt w.fL (x.Ee - 1)).Ay.length:=by unfold wtN;rw[if_pos L.st]
 have e2:wtQ w.fC (Aiv (gt w.fL (x.Ee - 1)) x.Ee)=1+(gt w.fL (x.Ee - 1)).Fh.length+w.fC.G6.toNat*(gt w.fL (x.Ee - 1)).Ay.length:=rfl
 have e3:wtQ w.fC (Bcv w.fL x)=wtQ w.fC x:=rfl
 have ep:pot (A1q w x qs)<pot w:=by
  unfold pot;rw[hq]
  show((A2t w.fL (x.Ee - 1)).map (wtN w.fC)).sum+((Aiv (gt w.fL (x.Ee - 1)) x.Ee::Bcv w.fL x::qs).map (wtQ w.fC)).sum<_;simp only[Z8,List.sum_cons];omega
 refine⟨I',?_,fun y hy=> ?_,ep,?_,?_⟩
 ·show ∀y∈(Akw w.fP _).N5,_;rw[(A05 G.inv hk).2.1];exact G.mem
 ·have hy:0≤y∧y<((A2t w.fL (x.Ee - 1)).length:Int):=hy;rw[hN]at hy
  show EpP E (gt (A2t w.fL (x.Ee - 1)) y)
  by_cases e:y=x.Ee - 1
  ·rw[e,hb];exact⟨hE,hE,⟨Int.le_refl 0,by show(0:Int)≤1000;omega⟩⟩
  ·rw[hg y hy e]
   have:=G.ep y hy;exact⟨this.ep,this.ue,this.cur⟩
 ·unfold wt
  show pot (A1q w x qs)+w.Acw.length≤_;omega
 ·refine Bcx G.inv.rg I'.rg A (Bgj A hk hN hg hb) F rfl hN fun y hy=> ?_
  have hne:y≠x.Ee - 1:=fun e=>hy.noOr (e ▸ X.or);exact⟨Bvs X.or hy,by rw[Alv hne],_,_,_,hg y hy.lv.1 hne⟩
def A6f (n:As)(gens:Int):As:=if gens≤n.C8 then Aqj 3 n.C8 else Aqj 0 (n.C8+1)
def Azf (w:C4)(x:Az):List As:=if x.Bk=0 then w.fL else w.fL.set (x.Bk - 1).toNat (A6f (gt w.fL (x.Bk - 1)) w.fC.G7)
def A5v (w:C4)(x:Az)(qs:List Az):C4:=C4.mk w.fC w.fP (Azf w x) qs w.Acw
theorem Bbd (w:C4)(x:Az):(Azf w x).length=w.fL.length:=by unfold Azf;split<;>simp
structure Bvu (w:C4)(x:Az)(qs:List Az):Prop where
 rc:Bp9 w.fC x
 k:x.Bk≠0->0≤x.Bk - 1∧x.Bk - 1<(w.fL.length:Int)
 st:x.Bk≠0->(gt w.fL (x.Bk - 1)).Vg=2
 gn:x.Bk≠0->1≤(gt w.fL (x.Bk - 1)).C8∧(gt w.fL (x.Bk - 1)).C8≤w.fC.G7
 no:x.Bk≠0->x.Bk - 1 ∉ slL qs
theorem Bgm{w:C4}(I:Inv w){x:Az}{qs:List Az}(hq:w.fQ=x::qs):Bvu w x qs:=by
 have R:=Ay0.1 (Az1 I hq).1;obtain⟨b1,b2,b3,b4,b5,b6⟩:=Gx I.conf
 have hx:x∈w.fQ:=by rw[hq];exact List.mem_cons_self
 have hs:=R.slot
 have h1:x.Bk≠0->(0≤x.Bk - 1∧x.Bk - 1<(w.fL.length:Int))∧(gt w.fL (x.Bk - 1)).Vg=2:=fun h=>by
  have:=Bgg hx h;rw[sb1 (by omega) (by omega)]at this
  exact(I.sli _).1 this
 refine⟨R,fun h=>(h1 h).1,fun h=>(h1 h).2,fun h=>(A1o (I.node _ (h1 h).1)).2.2,fun h=> ?_⟩
 have:=I.sln;rw[hq]at this
 have this:((if x.Bk=0 then []else [An4 .i64 x.Bk 1])++slL qs).Nodup:=this
 rw[if_neg h,sb1 (by omega) (by omega)]at this
 exact(List.nodup_cons.1 this).1
theorem Bvv{w:C4}{x:Az}{qs:List Az}(X:Bvu w x qs){y:Int}(hy:0≤y∧y<(w.fL.length:Int)):gt (Azf w x) y=if x.Bk≠0∧y=x.Bk - 1 then A6f (gt w.fL y) w.fC.G7 else gt w.fL y:=by
 unfold Azf
 by_cases h:x.Bk=0
 ·rw[if_pos h,if_neg (fun q=>q.1 h)]
 ·rw[if_neg h,Apv (X.k h) hy]
  by_cases e:y=x.Bk - 1
  ·rw[if_pos e,if_pos ⟨h,e⟩,e]
  ·rw[if_neg e,if_neg (fun q=>e q.2)]
theorem Bew{n:As}{gens:Int}(h:1≤n.C8∧n.C8≤gens): ∃st g,A6f n gens=Aqj st g∧(st=0∨st=3)∧1≤g∧g≤gens:=by
 unfold A6f;split
 ·exact⟨3,_,rfl,.inr rfl,h⟩
 ·exact⟨0,_,rfl,.inl rfl,by omega,by omega⟩
theorem Ay1{w:C4}{x:Az}{qs:List Az}(X:Bvu w x qs){y:Int}(hy:0≤y∧y<(w.fL.length:Int)):(gt (Azf w x) y=gt w.fL y∧ ¬(x.Bk≠0∧y=x.Bk - 1))∨((x.Bk≠0∧y=x.Bk - 1)∧(gt w.fL y).Vg=2∧ ∃st g,gt (Azf w x) y=Aqj st g∧(st=0∨st=3)∧1≤g∧g≤w.fC.G7):=by
 rw[Bvv X hy]
 by_cases h:x.Bk≠0∧y=x.Bk - 1
 ·rw[if_pos h];refine .inr ⟨h,by rw[h.2];exact X.st h.1,?_⟩
  exact Bew (by rw[h.2];exact X.gn h.1)
 ·rw[if_neg h];exact .inl ⟨rfl,h⟩
theorem A8g{w:C4}(I:Inv w){t:Int->Lk}(A:AtT w.fL t)(F:Akm w.fL.length t (Awq w.fQ)){x:Az}{qs:List Az}(hq:w.fQ=x::qs)(hf:x.Ee=0):
  ∃t',AtT (Azf w x) t'∧Akm w.fL.length t' (Awq qs)∧(∀k,Al w.fL.length t k->Al w.fL.length t' k∧(t' k).up=(t k).up):=by
 have X:=Bgm I hq
 have F1:Akm w.fL.length t ((x.Bk,0)::Awq qs):=by rw[hq]at F;rw[←hf];exact F
 by_cases h:x.Bk=0
 ·refine⟨t,?_,A78 F1,fun k hk=>⟨hk,rfl⟩⟩;unfold Azf;rw[if_pos h];exact A
 ·have hk:=X.k h
  have hlv:(t (x.Bk - 1)).lv=false:=by rw[A _ hk];show((gt w.fL (x.Bk - 1)).Vg==1)=false;rw[X.st h];rfl
  refine⟨clr t (x.Bk - 1),fun y hy=> ?_,Ba2 F1 h fun e he e2=> ?_,fun k hk=>⟨Bvt hlv hk,by rw[Aij hlv hk.lv]⟩⟩
  ·rw[Bbd]at hy;unfold clr;rcases Ay1 X hy with ⟨e,f⟩|⟨f,_,st,g,e,hs,_⟩
   ·rw[if_neg (fun r=>f ⟨h,r⟩),e,A y hy]
   ·rw[if_pos f.2,e];rcases hs with s|s<;>subst s<;>rfl
  ·obtain⟨z,hz,e3⟩:=Ex.1 he
   have e3:z.Bk=e.1:=by rw[←e3]
   refine X.no h (List.mem_flatMap.2 ⟨z,hz,?_⟩)
   have hs:=X.rc.slot;obtain⟨b1,b2,b3,b4,b5,b6⟩:=Gx I.conf;rw[e3,e2,if_neg h,sb1 (by omega) (by omega)];simp
theorem Bqd{w:C4}(I:Inv w){x:Az}{qs:List Az}(hq:w.fQ=x::qs)(hc:x.Ay=[])(hf:x.Ee=0):Inv (A5v w x qs):=by
 obtain⟨t,A,F⟩:=I.forest
 have X:=Bgm I hq;obtain⟨t',A',F',_⟩:=A8g I A F hq hf
 have hN:=Bbd w x
 have hch:chL w.fQ=chL qs:=by rw[hq];show x.Ay++_=_;rw[hc];rfl
 have hsl:slL w.fQ=(if x.Bk=0 then []else [An4 .i64 x.Bk 1])++slL qs:=by rw[hq];rfl
 have hsn:=I.sln;rw[hsl]at hsn
 refine⟨I.pool,by show((Azf w x).length:Int)=_;rw[hN];exact I.len,fun y hy=> ?_,fun y hy c=> ?_,fun y hy=> ?_,⟨t',A',by show Akm ((Azf w x).length:Int) t' _;rw[hN];exact F'⟩,fun y hy=>I.wrec y (by rw[hq];exact Z56 _ hy),by show(chL qs).Nodup;rw[←hch];exact I.chn,fun c=>by show c∈chL qs ↔ _;rw[←hch];exact I.chi c,?_,fun s=> ?_,I.log⟩
 ·have hy:0≤y∧y<((Azf w x).length:Int):=hy;rw[hN]at hy
  show Aqg w.fC (gt (Azf w x) y)=true;rcases Ay1 X hy with ⟨e,_⟩|⟨_,_,st,g,e,hs,hg⟩
  ·rw[e];exact I.node y hy
  ·rw[e];exact A4j I.conf (by omega) (by omega) hg
 ·have hy:0≤y∧y<((Azf w x).length:Int):=hy;rw[hN]at hy
  show c∈(gt (Azf w x) y).Ay ↔ _;rcases Ay1 X hy with ⟨e,_⟩|⟨_,h2,st,g,e,hs,hg⟩
  ·rw[e];exact I.own y hy c
  ·rw[e]
   have:=I.own y hy c;rw[Axl (I.node y hy) (by omega)]at this
   exact this
 ·have hy:0≤y∧y<((Azf w x).length:Int):=hy;rw[hN]at hy
  show(gt (Azf w x) y).F4.all (Aq2 w.fC (gt (Azf w x) y).Ay)=true∧Ane (gt (Azf w x) y).F4=true∧Ap3 w.fC w.fP.N5 (gt (Azf w x) y)=true;rcases Ay1 X hy with ⟨e,_⟩|⟨_,h2,st,g,e,hs,hg⟩
  ·rw[e];exact I.thing y hy
  ·rw[e];exact⟨rfl,rfl,rfl⟩
 ·exact(Aip.1 hsn).2.1
 ·show s∈slL qs ↔ (0≤s∧s<((Azf w x).length:Int))∧(gt (Azf w x) s).Vg=2
  have hi:=I.sli s;rw[hsl,Mh]at hi
  have hss:=X.rc.slot;obtain⟨b1,b2,b3,b4,b5,b6⟩:=Gx I.conf;rw[hN];constructor
  ·intro h;obtain⟨a,b⟩:=hi.1 (.inr h);refine⟨a,?_⟩;rcases Ay1 X a with ⟨e,_⟩|⟨⟨h1,h2⟩,_⟩
   ·rw[e];exact b
   ·rw[h2]at h;exact absurd h (X.no h1)
  ·rintro⟨a,b⟩;rcases Ay1 X a with ⟨e,f⟩|⟨_,_,st,g,e,hs,_⟩
   ·rw[e]at b;rcases hi.2 ⟨a,b⟩with h|h
    ·by_cases q:x.Bk=0
     ·rw[if_pos q]at h;cases h
     ·rw[if_neg q,sb1 (by omega) (by omega),Px]at h
      exact absurd ⟨q,h⟩ f
    ·exact h
   ·rw[e]at b
    have b:st=2:=b;omega
theorem Bnm{w:C4}{E:Int}{n:Nat}(G:Dx w E n)(hE:0≤E){x:Az}{qs:List Az}(hq:w.fQ=x::qs)(hc:x.Ay=[])(hf:x.Ee=0):Bev w (A5v w x qs) E:=by
 obtain⟨t,A,F⟩:=G.inv.forest
 have X:=Bgm G.inv hq;obtain⟨t',A',F',hal⟩:=A8g G.inv A F hq hf
 have I':=Bqd G.inv hq hc hf
 have hN:=Bbd w x
 have hs:((Azf w x).map (wtN w.fC)).sum=(w.fL.map (wtN w.fC)).sum:=Bnj _ _ _ hN fun y hy=>by
  rcases Ay1 X (y:=(y:Int)) ⟨by omega,by omega⟩with ⟨e,_⟩|⟨_,h2,st,g,e,hs,hg⟩
  ·rw[e]
  ·rw[e,A34 _ (by omega)];unfold wtN;rw[if_neg (by omega)]
 have ep:pot (A5v w x qs)<pot w:=by
  have h1:1≤wtQ w.fC x:=by unfold wtQ;omega
  unfold pot;rw[hq]
  show((Azf w x).map (wtN w.fC)).sum+(qs.map (wtQ w.fC)).sum<_;simp only[Z8,List.sum_cons];omega
 refine⟨I',G.mem,fun y hy=> ?_,ep,?_,?_⟩
 ·have hy:0≤y∧y<((Azf w x).length:Int):=hy;rw[hN]at hy
  show EpP E (gt (Azf w x) y);rcases Ay1 X hy with ⟨e,_⟩|⟨_,h2,st,g,e,hs,hg⟩
  ·rw[e];exact G.ep y hy
  ·rw[e];exact⟨hE,hE,⟨Int.le_refl 0,by show(0:Int)≤1000;omega⟩⟩
 ·unfold wt
  show pot (A5v w x qs)+w.Acw.length≤_;omega
 ·refine Bcx G.inv.rg I'.rg A A' F rfl hN fun y hy=> ?_;refine⟨(hal y hy).1,(hal y hy).2,?_⟩;rcases Ay1 X hy.lv.1 with ⟨e,_⟩|⟨_,h2,_⟩
  ·exact⟨_,_,_,e⟩
  ·have:=((Axo A).1 hy.lv).2;omega
section
variable {K:Nat} (hK:281474976710656≤K)
include hK
theorem Bnn (w:C4)(hw:A2k w.fP)(l:List Int)(hl:l.length≤140737488355327):Aqy K w l=some (C4.mk w.fC (Akw w.fP l) w.fL w.fQ w.Acw):=by
 unfold Aqy;refine Bgc hK l (by omega) A24 w.fP A2k hw (fun s x h=>(Bgb h x).1) _ (fun n s i=>Akn K l n i w.fC.Ay w.fC.G6 w.fC.E5 w.fC.Gs w.fC.E6 w.fC.G7 s.N5 s.Vg s.N6 w.fL w.fQ w.Acw) (fun n s i h hs=> ?_) (fun n=> ?_)
 ·simp only[Akn];rw[Ad4 h,cond_true,if_pos (Ahl h),V2 h,show Dm.mk s.N5 s.Vg s.N6=s from rfl,A72 K hs,Z0,Acx (by omega)]
 ·show Akn K l (n+1) _ _ _ _ _ _ _ _ _ _ _ _ _=_;rw[Akn,Ad5 (Z9 _),cond_false];rfl
theorem Bqe{w:C4}(I:Inv w)(hw:Ak1 w)(hQ:w.fQ.length≤1000000000){x:Az}{qs:List Az}(hq:w.fQ=x::qs)(hf:x.Ee≠0):Ax5 K w=some (A1q w x qs):=by
 have hm:=V1;obtain⟨t,A,F⟩:=I.forest
 have X:=Bbc I A F hq hf
 have hk:=X.lv.1
 have hF:=X.rc.first
 have L:=I.live A X.lv;obtain⟨b1,b2,b3,b4,b5,b6⟩:=Gx I.conf
 have hlen:=I.len
 have hn:=hw.l.1 _ (Ahf hk.1 hk.2)
 have e1:An4 .i64 x.Ee 1=x.Ee - 1:=sb1 (by omega) (by omega)
 have e2:An3 .i64 (x.Ee - 1) 1=x.Ee:=by rw[ad1 (by omega) (by omega)];omega
 have hnx:=L.next
 have hlq:(w.fQ).length=qs.length+1:=by rw[hq];simp
 have hj: ∀(l:List As) (q:List Az),l.length=w.fL.length->q.length=w.fQ.length->Asw K (gt w.fL (x.Ee - 1)) (x.Ee - 1) w.fC.Ay w.fC.G6 w.fC.E5 w.fC.Gs w.fC.E6 w.fC.G7 w.fP.N5 w.fP.Vg w.fP.N6 l q w.Acw=some (C4.mk w.fC (Akw w.fP (gt w.fL (x.Ee - 1)).Ay) (l.set (x.Ee - 1).toNat (Aqj 2 (gt w.fL (x.Ee - 1)).C8)) (Aiv (gt w.fL (x.Ee - 1)) x.Ee::q) w.Acw):=by
  intro l q hl1 hq1
  have h8:=hn.tags.2
  have h9:=hn.chunks.2;unfold Asw;rw[Bnn hK (C4.mk w.fC w.fP l q w.Acw) hw.p _ (A0c hK hn.chunks),Z0];unfold Azz Az8;simp only[Z0,Z38,List.singleton_append,Z28];simp only[hl1,if_pos hk,e2,Z0]
  iterate 4 (try rw[if_pos ⟨by omega,by omega⟩])
  try simp only[Z0]
  iterate 4 (try rw[if_pos ⟨by omega,by omega⟩])
  rfl
 unfold Ax5;rw[hq,gt0,if_pos ⟨by omega,by simp⟩,e1]
 simp only[if_pos hk];rw[Atr K hn,Z0,if_pos ⟨by omega,by simp⟩,Axn,Z0]
 unfold A1q A2t
 have hp:plB w.fL (gt w.fL (x.Ee - 1)).Sl=decide (1≤(gt w.fL (x.Ee - 1)).Sl∧(gt w.fL (x.Ee - 1)).Sl≤(w.fL.length:Int)):=by
  rw[Bool.eq_iff_iff,A5q (by omega) (by omega),decide_eq_true_iff]
  omega
 rw[hp]
 by_cases q:1≤(gt w.fL (x.Ee - 1)).Sl∧(gt w.fL (x.Ee - 1)).Sl≤(w.fL.length:Int)
 ·rw[decide_eq_true q];simp only[cond_true];rw[sb1 (by omega) (by omega),if_pos ⟨by omega,by omega⟩]
  unfold Aqh;exact hj _ _ (by rw[Z49]) (by rw[hq];simp)
 ·rw[decide_eq_false q];simp only[cond_false];exact hj _ _ rfl (by rw[hq];simp)
theorem Bno{l:List As}(hl:Ad1 l){k gens:Int}(hk:0≤k∧k<(l.length:Int))(hg:0≤(gt l k).C8∧(gt l k).C8≤1000):A0k K l k gens=some (l.set k.toNat (A6f (gt l k) gens)):=by
 unfold A0k Ak4 Ax6 A6f;rw[A23 hK hl,Z0,Ayu K (Aew hl),decide_eq_true hk];simp only[Z0,Bool.not_true,cond_false,if_pos hk];rw[ad1 (by omega) (by omega)]
 by_cases q:gens≤(gt l k).C8
 ·rw[decide_eq_true (show(gt l k).C8≥gens from q),if_pos q];rfl
 ·rw[decide_eq_false (show ¬(gt l k).C8≥gens from q),if_neg q];rfl
theorem Bgn{w:C4}{E:Int}{n:Nat}(G:Dx w E n)(hE:0≤E∧E≤1000000000)(hn:n≤1000000000)(h0:0<w.fQ.length): ∃w',Au6 K w=some w'∧Bev w w' E:=by
 have hm:=V1
 have W:=G.ww hE.2 hn
 have h1:=Bp7 w
 have h2:=Bet w
 have h3:=G.wt;cases hq:w.fQ with
 |nil=>rw[hq]at h0;simp at h0
 |cons x qs=>
 have R:=Ay0.1 (Az1 G.inv hq).1
 have hlq:(w.fQ).length=qs.length+1:=by rw[hq];simp
 unfold Au6 A14;rw[hq,gt0,if_pos ⟨by omega,by simp⟩]
 by_cases c1:0<x.Fh.length
 ·refine⟨_,?_,Bnk G hq c1⟩;rw[decide_eq_true (show(x.Fh.length:Int)>0 by omega)]
  simp only[cond_true,Z0,beq_self_eq_true];rw[Bvr K hq c1 R.ntag (by omega)];rfl
 ·rw[decide_eq_false (show ¬(x.Fh.length:Int)>0 by omega)]
  by_cases c2:0<x.Ay.length
  ·refine⟨_,?_,Bik G hq c2⟩;rw[decide_eq_true (show(x.Ay.length:Int)>0 by omega)]
   simp only[cond_true,cond_false,Z0];rw[show((2:Int)==1)=false from rfl,show((2:Int)==2)=true from rfl]
   simp only[cond_true,cond_false];rw[Bqb hK G.inv W.p hq c2];rfl
  ·rw[decide_eq_false (show ¬(x.Ay.length:Int)>0 by omega)]
   have hc:x.Ay=[]:=Y6.1 (by omega)
   by_cases c3:x.Ee=0
   ·refine⟨_,?_,Bnm G hE.1 hq hc c3⟩
    have X:=Bgm G.inv hq
    have hs:=R.slot;obtain⟨b1,b2,b3,b4,b5,b6⟩:=Gx G.inv.conf
    have et:((x::qs).drop (1:Int).toNat).take (((x::qs).length:Int) - 1).toNat=qs:=by
     show qs.take _=qs;exact List.take_of_length_le (by simp)
    rw[c3];simp only[bne_self_eq_false,cond_false,Z0];rw[show((4:Int)==1)=false from rfl,show((4:Int)==2)=false from rfl,show((4:Int)==3)=false from rfl]
    simp only[cond_false]
    have hl1:(((x::qs).length:Nat):Int)=(qs.length:Int)+1:=by simp
    have hj: ∀l:List As,Asx K w.fC.Ay w.fC.G6 w.fC.E5 w.fC.Gs w.fC.E6 w.fC.G7 w.fP.N5 w.fP.Vg w.fP.N6 l (x::qs) w.Acw=some (C4.mk w.fC w.fP l qs w.Acw):=by
     intro l;unfold Asx;rw[et,Z38,hl1,if_pos (show(0:Int)≤1∧(1:Int)≤(qs.length:Int)+1∧(qs.length:Int)+1≤(qs.length:Int)+1 from⟨by omega,by omega,by omega⟩),if_pos (show qs.length*72≤140737488355328∧qs.length≤maxLen from⟨by omega,by omega⟩)]
    rw[if_pos ⟨by omega,by simp⟩]
    unfold A5v Azf
    by_cases q:x.Bk=0
    ·rw[q,if_pos rfl];exact hj _
    ·have hgn:=X.gn q;rw[Aq0 q,if_neg q,cond_true,if_pos ⟨by omega,by simp⟩,sb1 (by omega) (by omega),Bno hK W.l (X.k q) ⟨by omega,by omega⟩,Z0]
     exact hj _
   ·refine⟨_,?_,Bil G hE.1 hq c3⟩;rw[Aq0 c3];simp only[cond_true,cond_false,Z0];rw[show((3:Int)==1)=false from rfl,show((3:Int)==2)=false from rfl,show((3:Int)==3)=true from rfl]
    simp only[cond_true,cond_false];rw[Bqe hK G.inv W (by omega) hq c3];rfl
structure Steps (w w':C4)(E:Int)(n:Nat):Prop where
 good:Dx w' E n
 stay:A5u w w'
theorem Bim{E:Int}{n:Nat}(hE:0≤E∧E≤1000000000)(hn:n≤1000000000)(m:Int): ∀(f:Nat) (i:Int) (w:C4),Dx w E n->pot w<f-> ∃r w',As0 K m f i w.fC.Ay w.fC.G6 w.fC.E5 w.fC.Gs w.fC.E6 w.fC.G7 w.fP.N5 w.fP.Vg w.fP.N6 w.fL w.fQ w.Acw=some (r,w')∧Steps w w' E n:=by
 intro f
 induction f with
 |zero=>intro i w _ h;omega
 |succ f ih=>
  intro i w G hf;rw[As0];cases decide (i<m)with
  |false=>exact⟨m,w,rfl,G,A5u.refl w⟩
  |true=>
  simp only[cond_true]
  by_cases q:w.fQ.length=0
  ·rw[q];exact⟨i,w,rfl,G,A5u.refl w⟩
  ·obtain⟨w1,e1,S⟩:=Bgn hK G hE hn (by omega)
   have hp:=S.pot;obtain⟨r,w2,e2,S2⟩:=ih (An3 .i64 i 1) w1 (S.good G) (by omega)
   refine⟨r,w2,?_,S2.good,S.stay.trans S2.stay⟩;rw[Agz (by omega)]
   simp only[cond_false];rw[show C4.mk (D9.mk w.fC.Ay w.fC.G6 w.fC.E5 w.fC.Gs w.fC.E6 w.fC.G7) (Dm.mk w.fP.N5 w.fP.Vg w.fP.N6) w.fL w.fQ w.Acw=w from rfl,e1,Z0]
   exact e2
theorem A7g{E:Int}{n:Nat}(hE:0≤E∧E≤1000000000)(hn:n≤1000000000)(m:Int){w:C4}(G:Dx w E n): ∃r w',Au8 K w m=some (r,w')∧Steps w w' E n:=by
 have:=G.wt;unfold wt at this;exact Bim hK hE hn m K 0 w G (by omega)
def A11 (p:Dm)(at_ n:Int):Bool:=decide (0≤at_)&&(decide (1≤n)&&(decide (at_+n≤(p.Vg.length:Int))&&(List.range n.toNat).all (fun k=>gt p.Vg (at_+(k:Int))==0)))
omit hK in
theorem Ax0{p:Dm}{a n:Int}:A11 p a n=true ↔ 0≤a∧1≤n∧a+n≤(p.Vg.length:Int)∧ ∀c,a≤c∧c<a+n->gt p.Vg c=0:=by
 unfold A11;simp only[Z4,decide_eq_true_eq,Z1,List.mem_range,beq_iff_eq];refine and_congr_right fun h1=>and_congr_right fun h2=>and_congr_right fun h3=> ?_;constructor
 ·intro h c hc
  have:=h (c - a).toNat (by omega)
  rwa[show a+(((c - a).toNat:Nat):Int)=c by omega]at this
 ·intro h k hk;exact h _ ⟨by omega,by omega⟩
theorem A9q{p:Dm}(hp:p.Vg.length≤1000000000){a n:Int}(ha: -1000000000≤a∧a≤1000000000)(hn: -1000000000≤n∧n≤1000000000):Awf K p a n=some (A11 p a n):=by
 unfold Awf A11
 by_cases h1:a<0
 ·rw[decide_eq_true h1,decide_eq_false (by omega: ¬0≤a)];rfl
 rw[decide_eq_false h1,decide_eq_true (by omega:0≤a)]
 by_cases h2:n<1
 ·rw[decide_eq_true h2,decide_eq_false (by omega: ¬1≤n)];rfl
 rw[decide_eq_false h2,decide_eq_true (by omega:1≤n)]
 simp only[cond_false,Z30]
 have es:An4 .i64 (p.Vg.length:Int) a=(p.Vg.length:Int) - a:=by unfold An4;exact K0 (by omega) (by omega)
 rw[es]
 by_cases h3:a+n≤(p.Vg.length:Int)
 ·rw[decide_eq_false (by omega),decide_eq_false (by omega),decide_eq_true h3]
  simp only[cond_false,Z30]
  have ea:An3 .i64 a n=a+n:=by unfold An3;exact K0 (by omega) (by omega)
  have:=Apu hK n.toNat (by omega) (fun k=>gt p.Vg (a+(k:Int))==0) (some true) (fun f i=>Arr K a n f (a+i) p.N5 p.Vg p.N6) (fun f i h=> ?_) (fun f=> ?_)
  ·simp only[Int.add_zero]at this;rw[this];cases (List.range n.toNat).all _<;>rfl
  ·simp only[Arr]
   have e1:An3 .i64 (a+(i:Int)) 1=a+((i+1:Nat):Int):=by rw[ad1 (by omega) (by omega)];omega
   rw[ea,decide_eq_true (by omega),cond_true,if_pos ⟨by omega,by omega⟩,e1]
   cases e:gt p.Vg (a+(i:Int))==0<;>simp[bne,e]
  ·simp only[Arr];rw[ea,decide_eq_false (by omega)];rfl
 ·rw[decide_eq_false h3];simp only[Bool.false_and]
  by_cases h4:a>(p.Vg.length:Int)
  ·rw[decide_eq_true h4];rfl
  ·rw[decide_eq_false h4,decide_eq_true (by omega)];rfl
theorem A61{p:Dm}(hp:p.Vg.length≤1000000000){n:Int}(hn: -1000000000≤n∧n≤1000000000): ∃r,Awu K p n=some r∧(r= -1∨A11 p r n=true):=by
 have key: ∀(f i:Nat),i≤p.Vg.length->p.Vg.length - i<f-> ∃r,Ar2 K n f (i:Int) p.N5 p.Vg p.N6=some r∧(r= -1∨A11 p r n=true):=by
  intro f
  induction f with
  |zero=>intro i _ h;omega
  |succ f ih=>
   intro i hi hf;rw[Ar2];rcases Hl i p.Vg.length with h|h
   ·rw[Ad4 h,cond_true,show Dm.mk p.N5 p.Vg p.N6=p from rfl,A9q hK hp ⟨by omega,by omega⟩ hn,Z0]
    cases e:A11 p (i:Int) n with
    |true=>exact⟨_,rfl,.inr e⟩
    |false=>
     rw[Acx (by omega)]
     exact ih (i+1) h (by omega)
   ·rw[Ad5 h];exact⟨_,rfl,.inl rfl⟩
 exact key K 0 (Z21 _) (by omega)
theorem Bnp{E:Int}{n:Nat}(hE:0≤E∧E≤1000000000)(hn:n≤1000000000)(a:Int){run:Int}(hr: -1000000000≤run∧run≤1000000000): ∀(f:Nat) (i:Int) (w:C4),Dx w E n->pot w<f-> ∃r w',Aqm K a run f i w.fC.Ay w.fC.G6 w.fC.E5 w.fC.Gs w.fC.E6 w.fC.G7 w.fP.N5 w.fP.Vg w.fP.N6 w.fL w.fQ w.Acw=some (r,w')∧Steps w w' E n:=by
 intro f
 induction f with
 |zero=>intro i w _ h;omega
 |succ f ih=>
  intro i w G hf
  have W:=G.ww hE.2 hn
  have hst:=(Ail.1 G.inv.pool).st;obtain⟨b1,b2,b3,b4,b5,b6⟩:=Gx G.inv.conf
  have hlen:=G.inv.len;rw[Aqm]
  have hw:C4.mk (D9.mk w.fC.Ay w.fC.G6 w.fC.E5 w.fC.Gs w.fC.E6 w.fC.G7) (Dm.mk w.fP.N5 w.fP.Vg w.fP.N6) w.fL w.fQ w.Acw=w:=rfl
  have hp:Dm.mk w.fP.N5 w.fP.Vg w.fP.N6=w.fP:=rfl;obtain⟨cn,hcn⟩: ∃cn,Aqc K w.fL 0=some cn:=⟨_,A3b hK w.fL 0 (by omega)⟩
  rw[hw,hp,hcn]
  by_cases q:0<w.fQ.length
  ·obtain⟨w1,e1,S⟩:=Bgn hK G hE hn q
   have hpot:=S.pot;obtain⟨r,w2,e2,S2⟩:=ih (An3 .i64 i 1) w1 (S.good G) (by omega)
   have hgo: ∃r w',At4 K i w.fC.Ay w.fC.G6 w.fC.E5 w.fC.Gs w.fC.E6 w.fC.G7 w.fP.N5 w.fP.Vg w.fP.N6 w.fL w.fQ w.Acw (Aqm K a run f)=some (r,w')∧Steps w w' E n:=by
    refine⟨r,w2,?_,S2.good,S.stay.trans S2.stay⟩;unfold At4;rw[hw,e1,Z0];exact e2
   have hno: ∃r w',(some (i,w):Option (Int×C4))=some (r,w')∧Steps w w' E n:=⟨_,_,rfl,G,A5u.refl w⟩;obtain⟨r5,e5,_⟩:=A61 hK (p:=w.fP) (by omega) hr
   rw[decide_eq_true (show(w.fQ.length:Int)>0 by omega),e5]
   simp only[cond_true,Z0];cases decide (cn<a)with
   |true=>exact hgo
   |false=>
    simp only[cond_false];cases decide (run>0)with
    |false=>exact hno
    |true=>
     simp only[cond_true];cases decide (r5<0)with
     |true=>exact hgo
     |false=>exact hno
  ·rw[decide_eq_false (show ¬(w.fQ.length:Int)>0 by omega)]
   exact⟨_,_,rfl,G,A5u.refl w⟩
theorem Bex{E:Int}{n:Nat}(hE:0≤E∧E≤1000000000)(hn:n≤1000000000)(a:Int){run:Int}(hr: -1000000000≤run∧run≤1000000000){w:C4}(G:Dx w E n): ∃r w',Awi K w a run=some (r,w')∧Steps w w' E n:=by
 have:=G.wt;unfold wt at this;exact Bnp hK hE hn a hr K 0 w G (by omega)
end
section
variable {K:Nat} (hK:281474976710656≤K)
include hK
theorem Bbe{l:List As}(hl:l.length≤1000000000): ∃r,Ay6 K l=some r∧(r= -1∨(0≤r∧r<(l.length:Int))∧(gt l r).Vg=0):=by
 have key: ∀(f i:Nat),i≤l.length->l.length - i<f-> ∃r,Are K l f (i:Int)=some r∧(r= -1∨(0≤r∧r<(l.length:Int))∧(gt l r).Vg=0):=by
  intro f
  induction f with
  |zero=>intro i _ h;omega
  |succ f ih=>
   intro i hi hf;rw[Are];rcases Hl i l.length with h|h
   ·rw[Ad4 h,cond_true,if_pos (Ahl h),Acx (by omega)]
    by_cases e:(gt l (i:Int)).Vg=0
    ·rw[e];exact⟨_,rfl,.inr ⟨⟨by omega,by omega⟩,e⟩⟩
    ·rw[Agz e];exact ih (i+1) h (by omega)
   ·rw[Ad5 h];exact⟨_,rfl,.inl rfl⟩
 exact key K 0 (Z21 _) (by omega)
theorem A5w{p:Dm}(hp:p.Vg.length≤1000000000): ∃r,Avu K p=some r∧(r= -1∨A11 p r 1=true):=by
 have key: ∀(f i:Nat),i≤p.Vg.length->p.Vg.length - i<f-> ∃r,Arf K f (i:Int) p.N5 p.Vg p.N6=some r∧(r= -1∨A11 p r 1=true):=by
  intro f
  induction f with
  |zero=>intro i _ h;omega
  |succ f ih=>
   intro i hi hf;rw[Arf];rcases Hl i p.Vg.length with h|h
   ·rw[Ad4 h,cond_true,if_pos (Ahl h),Acx (by omega)]
    by_cases e:gt p.Vg (i:Int)=0
    ·rw[e];refine⟨_,rfl,.inr (Ax0.2 ⟨by omega,by omega,by omega,fun c hc=> ?_⟩)⟩
     rw[show c=(i:Int)by omega];exact e
    ·rw[Agz e];exact ih (i+1) h (by omega)
   ·rw[Ad5 h];exact⟨_,rfl,.inl rfl⟩
 exact key K 0 (Z21 _) (by omega)
structure Bin (p p':Dm)(a n k:Int):Prop where
 mem:p'.N5=p.N5
 st:p'.Vg.length=p.Vg.length
 own:p'.N6.length=p.N6.length
 one: ∀c,0≤c∧c<(p.Vg.length:Int)->gt p'.Vg c=(if a≤c∧c<a+n then 1 else gt p.Vg c)∧gt p'.N6 c=(if a≤c∧c<a+n then k else gt p.N6 c)
theorem A45{p:Dm}(hw:A2k p)(hp:p.Vg.length≤1000000)(ho:p.N6.length=p.Vg.length){a n k:Int}(hf:A11 p a n=true): ∃p',Arg K p a n k=some p'∧Bin p p' a n k:=by
 obtain⟨h1,h2,h3,h4⟩:=Ax0.1 hf;unfold Arg;rw[A1y K hw,A9q hK (by omega) ⟨by omega,by omega⟩ ⟨by omega,by omega⟩,hf,ho]
 simp only[Z0,cond_true,bne_self_eq_false,cond_false]
 have ea:An3 .i64 a n=a+n:=by unfold An3;exact K0 (by omega) (by omega)
 have key: ∀(f i:Nat) (q:Dm),(i:Int)≤n->n.toNat - i<f->Bin p q a i k-> ∃p',Asy K a n k f (a+(i:Int)) q (Dm.mk [] [] [])=some p'∧Bin p p' a n k:=by
  intro f
  induction f with
  |zero=>intro i q _ h;omega
  |succ f ih=>
   intro i q hi hf T;rw[Asy,ea]
   by_cases h:(i:Int)=n
   ·rw[decide_eq_false (by omega),cond_false,←h]
    exact⟨q,rfl,T⟩
   ·have e1:An3 .i64 (a+(i:Int)) 1=a+((i+1:Nat):Int):=by rw[ad1 (by omega) (by omega)];omega
    have hs:=T.st
    have hso:=T.own;rw[decide_eq_true (by omega),cond_true,if_pos ⟨by omega,by omega⟩,if_pos ⟨by omega,by omega⟩,e1]
    refine ih (i+1) _ (by omega) (by omega) ⟨T.mem,by simp[T.st],by simp[T.own],fun c hc=> ?_⟩
    obtain⟨t1,t2⟩:=T.one c hc;simp only;rw[A2q (by omega) (by omega),A2q (by omega) (by omega),t1,t2]
    by_cases q1:c=a+(i:Int)
    ·rw[if_pos q1,if_pos q1,if_pos (by omega),if_pos (by omega)];exact⟨rfl,rfl⟩
    ·rw[if_neg q1,if_neg q1]
     by_cases q2:a≤c∧c<a+(i:Int)
     ·rw[if_pos q2,if_pos q2,if_pos (by omega),if_pos (by omega)];exact⟨rfl,rfl⟩
     ·rw[if_neg q2,if_neg q2,if_neg (by omega),if_neg (by omega)];exact⟨rfl,rfl⟩
 have:=key K 0 p (by omega) (by omega) ⟨rfl,rfl,rfl,fun c hc=>by rw[if_neg (by omega),if_neg (by omega)];exact⟨rfl,rfl⟩⟩
 simpa using this
end
theorem Bgo{w:C4}(I:Inv w){k:Int}(hk:0≤k∧k<(w.fL.length:Int))(p':Dm)(l':List As)(t':Int->Lk)(hN:l'.length=w.fL.length)
  (ho: ∀x,0≤x∧x<(w.fL.length:Int)->x≠k-> ∃a b c,gt l' x=lnk (gt w.fL x) a b c∧(0≤a∧a≤w.fC.E5)∧(0≤b∧b≤w.fC.E5)∧(0≤c∧c≤w.fC.E5))
  (hs2:(gt w.fL k).Vg≠2) (L:Ats w.fC (gt l' k)) (A':AtT l' t') (F':Akm w.fL.length t' (Awq w.fQ))
  (P':A5s w.fC p') (hm:p'.N5=w.fP.N5)
  (hone: ∀c,0≤c∧c<w.fC.Ay->(gt p'.Vg c=2 ↔ gt w.fP.Vg c=2)∧(gt p'.Vg c=1∧gt p'.N6 c=k ↔ c∈(gt l' k).Ay)∧ ∀x,x≠k->(gt p'.Vg c=1∧gt p'.N6 c=x ↔ gt w.fP.Vg c=1∧gt w.fP.N6 c=x))
  (hth:(gt l' k).F4.all (Aq2 w.fC (gt l' k).Ay)=true∧Ane (gt l' k).F4=true∧Ap3 w.fC w.fP.N5 (gt l' k)=true):
  Inv (C4.mk w.fC p' l' w.fQ w.Acw):=by
 refine⟨Ail.2 P',by show(l'.length:Int)=_;rw[hN];exact I.len,fun x hx=> ?_,fun x hx c=> ?_,fun x hx=> ?_,⟨t',A',by show Akm (l'.length:Int) _ _;rw[hN];exact F'⟩,fun x hx=> ?_,I.chn,fun c=> ?_,I.sln,fun s=> ?_,I.log⟩
 ·have hx:0≤x∧x<(l'.length:Int):=hx;rw[hN]at hx
  show Aqg w.fC (gt l' x)=true
  by_cases e:x=k
  ·rw[e];exact(Aik.2 L).1
  ·obtain⟨a,b,c,h1,h2,h3,h4⟩:=ho x hx e;rw[h1]
   by_cases hs:(gt w.fL x).Vg=1
   ·exact(Aik.2 (A8a (Aik.1 ⟨I.node x hx,hs⟩) h2 h3 h4)).1
   ·have X:=Axl (I.node x hx) hs
    have B:=F'.tree.bare x hx.1 hx.2 (by rw[A' x (by rw[hN];exact hx),h1];simpa[A3z,lnk]using hs)
    rw[A' x (by rw[hN];exact hx),h1]at B
    obtain⟨_,B2,B3,B4⟩:=B
    have q1:a=0:=B2
    have q2:b=0:=B3
    have q3:c=0:=B4
    have this:lnk (gt w.fL x) 0 0 0=gt w.fL x:=by rw[X];rfl
    rw[q1,q2,q3,this];exact I.node x hx
 ·have hx:0≤x∧x<(l'.length:Int):=hx;rw[hN]at hx
  show c∈(gt l' x).Ay ↔ (0≤c∧c<w.fC.Ay)∧gt p'.Vg c=1∧gt p'.N6 c=x
  by_cases e:x=k
  ·rw[e];constructor
   ·intro h
    have hin:=Atz L.dist c h;exact⟨hin,(hone c hin).2.1.2 h⟩
   ·rintro⟨a,b⟩;exact(hone c a).2.1.1 b
  ·obtain⟨a,b,d,h1,_⟩:=ho x hx e;rw[h1]
   show c∈(gt w.fL x).Ay ↔ _;rw[I.own x hx c];exact and_congr_right fun h=>((hone c h).2.2 x e).symm
 ·have hx:0≤x∧x<(l'.length:Int):=hx;rw[hN]at hx
  show(gt l' x).F4.all (Aq2 w.fC (gt l' x).Ay)=true∧Ane (gt l' x).F4=true∧Ap3 w.fC p'.N5 (gt l' x)=true;rw[hm]
  by_cases e:x=k
  ·rw[e];exact hth
  ·obtain⟨a,b,d,h1,_⟩:=ho x hx e;rw[h1];exact I.thing x hx
 ·obtain⟨a,b⟩:=I.wrec x hx;refine⟨a,?_⟩;unfold Am6 at b ⊢
  show(_||Ao6 ((p'.N5.drop _).take _))=true
  rw[hm];exact b
 ·show c∈chL w.fQ ↔ (0≤c∧c<w.fC.Ay)∧gt p'.Vg c=2;rw[I.chi c];exact and_congr_right fun h=>(hone c h).1.symm
 ·show s∈slL w.fQ ↔ (0≤s∧s<(l'.length:Int))∧(gt l' s).Vg=2;rw[I.sli s,hN];refine and_congr_right fun h=> ?_
  by_cases e:s=k
  ·rw[e,L.st];constructor
   ·intro q;exact absurd q hs2
   ·intro q;cases q
  ·obtain⟨a,b,d,h1,_⟩:=ho s h e;rw[h1];rfl
theorem A9r{w:C4}(I:Inv w){p':Dm}{a n k:Int}(hk:0≤k∧k<(w.fL.length:Int))(hf:A11 w.fP a n=true)(T:Bin w.fP p' a n k):
  A5s w.fC p'∧ ∀c,0≤c∧c<w.fC.Ay->(gt p'.Vg c=2 ↔ gt w.fP.Vg c=2)∧(gt p'.Vg c=1∧gt p'.N6 c=k ↔ c∈(gt w.fL k).Ay∨a≤c∧c<a+n)∧ ∀x,x≠k->(gt p'.Vg c=1∧gt p'.N6 c=x ↔ gt w.fP.Vg c=1∧gt w.fP.N6 c=x):=by
 have P:=Ail.1 I.pool;obtain⟨f1,f2,f3,f4⟩:=Ax0.1 hf
 have hlen:=I.len;refine⟨⟨P.conf,by rw[T.mem];exact P.mem,by rw[T.st];exact P.st,by rw[T.own];exact P.own,fun c hc=> ?_⟩,fun c hc=> ?_⟩
 ·obtain⟨t1,t2⟩:=T.one c (by rw[P.st];exact hc)
  obtain⟨p1,p2,p3,p4⟩:=P.one c hc;rw[t1,t2,T.mem]
  by_cases q:a≤c∧c<a+n
  ·rw[if_pos q,if_pos q];exact⟨by omega,fun _=>by omega,fun h=>absurd rfl h,fun h=>by omega⟩
  ·rw[if_neg q,if_neg q];exact⟨p1,p2,p3,p4⟩
 ·obtain⟨t1,t2⟩:=T.one c (by rw[P.st];exact hc)
  rw[t1,t2]
  have ho:=I.own k hk c
  by_cases q:a≤c∧c<a+n
  ·rw[if_pos q,if_pos q,f4 c q];refine⟨by omega,⟨fun _=> .inr q,fun _=>⟨rfl,rfl⟩⟩,fun x hx=>⟨fun h=>absurd h.2.symm hx,fun h=>by omega⟩⟩
  ·rw[if_neg q,if_neg q];refine⟨Iff.rfl,⟨fun h=> .inl (ho.2 ⟨hc,h⟩),fun h=> ?_⟩,fun x hx=>Iff.rfl⟩;rcases h with h|h
   ·exact(ho.1 h).2
   ·exact absurd h q
structure Bvw (l l':List As)(p k:Int):Prop where
 len:l'.length=l.length
 at_:gt l' k=As.mk (gt l k).Vg (gt l k).C8 (gt l k).Sj (p+1) (gt l p).Sj (gt l k).Ee (gt l p).Ee 0 (gt l k).Ay (gt l k).Acv (gt l k).Sn (gt l k).F4 (gt l k).Fh
 ot: ∀x,0≤x∧x<(l.length:Int)->x≠k->gt l' x=lnk (gt l x) (if x=p then k+1 else(gt l x).Ee) (gt l x).Sl (if x+1=(gt l p).Ee then k+1 else(gt l x).Sm)
section
variable {K:Nat} (hK:281474976710656≤K)
include hK
theorem Bqf{l:List As}(hl:Ad1 l)(h8:l.length≤1000){p k:Int}(hp:0≤p∧p<(l.length:Int))(hk:0≤k∧k<(l.length:Int))(hne:p≠k)(hf:0≤(gt l p).Ee∧(gt l p).Ee≤(l.length:Int))(hfk:(gt l p).Ee≠k+1): ∃l',Axu K l p k=some l'∧Bvw l l' p k:=by
 have e1:An3 .i64 p 1=p+1:=ad1 (by omega) (by omega)
 have e2:An3 .i64 k 1=k+1:=ad1 (by omega) (by omega)
 have e3:An4 .i64 (gt l p).Ee 1=(gt l p).Ee - 1:=sb1 (by omega) (by omega)
 have g1: ∀v,gt (l.set k.toNat v) k=v:=fun v=>A02 hk v
 have g2: ∀v,gt (l.set k.toNat v) p=gt l p:=fun v=>A03 hk.1 hp (Ne.symm hne) v;unfold Axu Azi;rw[A23 hK hl,Z0,e1,e2,Axn,decide_eq_true (by omega),Z0,cond_true,Axn,decide_eq_true (by omega),Z0,cond_true,Agz hne,cond_false,e3]
 simp only[Aqh,if_pos hp,if_pos hk,Z49,g1,g2,List.set_set];rw[Axn,Z0]
 have hp': ∀v:As,0≤p∧p<((l.set k.toNat v).length:Int):=fun v=>by rw[Z49];exact hp
 have h2: ∀(u v:As) (x:Int),0≤x∧x<(l.length:Int)->gt ((l.set k.toNat u).set p.toNat v) x=if x=p then v else if x=k then u else gt l x:=by
  intro u v x hx;rw[Apv (hp' _) (by simpa using hx),Apv hk hx]
 by_cases q:1≤(gt l p).Ee∧(gt l p).Ee≤(l.length:Int)
 ·rw[decide_eq_true q,cond_true,if_pos ⟨by omega,by omega⟩]
  refine⟨_,rfl,by simp,?_,fun x hx hxk=> ?_⟩
  ·rw[A03 (by omega) (by simpa using hk) (by omega),A03 hp.1 (by simpa using hk) hne,g1]
  ·by_cases a:x=(gt l p).Ee - 1
   ·rw[if_pos (show x+1=(gt l p).Ee by omega),←a,A02 (by simpa using hx),h2 _ _ x hx,if_neg hxk]
    by_cases b:x=p
    ·rw[if_pos b,if_pos b,b];rfl
    ·rw[if_neg b,if_neg b];rfl
   ·rw[A03 (by omega) (by simpa using hx) (Ne.symm a),h2 _ _ x hx,if_neg hxk,if_neg (show ¬x+1=(gt l p).Ee by omega)]
    by_cases b:x=p
    ·rw[if_pos b,if_pos b,b];rfl
    ·rw[if_neg b,if_neg b];rfl
 ·rw[decide_eq_false q,cond_false];refine⟨_,rfl,by simp,?_,fun x hx hxk=> ?_⟩
  ·rw[A03 hp.1 (by simpa using hk) hne,g1]
  ·rw[h2 _ _ x hx,if_neg hxk,if_neg (show ¬x+1=(gt l p).Ee by omega)]
   by_cases b:x=p
   ·rw[if_pos b,if_pos b,b];rfl
   ·rw[if_neg b,if_neg b];rfl
end
def A86 (g c:Int):As:=As.mk 1 g 0 0 0 0 0 0 [c] (c+1) 0 [] []
structure Bgp (w:C4)(t:Int->Lk)(k c p:Int):Prop where
 hk:0≤k∧k<(w.fL.length:Int)
 st:(gt w.fL k).Vg=0
 free:A11 w.fP c 1=true
 up:p= -1∨Al w.fL.length t p∧(rise w.fL.length t w.fL.length p).length<4
theorem Bgp.bare{w:C4}(I:Inv w){t:Int->Lk}{k c p:Int}(M:Bgp w t k c p):gt w.fL k=Aqj 0 (gt w.fL k).C8:=by
 have:=Axl (I.node k M.hk) (by rw[M.st];decide)
 rw[M.st]at this;exact this
def mkN (w:C4)(k c p:Int):As:=As.mk 1 (gt w.fL k).C8 0 (p+1) (if p+1=0 then 0 else(gt w.fL p).Sj) 0 (if p+1=0 then 0 else(gt w.fL p).Ee) 0 [c] (c+1) 0 [] []
structure Br6 (w:C4)(l':List As)(k c p:Int):Prop where
 len:l'.length=w.fL.length
 at_:gt l' k=mkN w k c p
 ot: ∀x,0≤x∧x<(w.fL.length:Int)->x≠k->gt l' x=lnk (gt w.fL x) (if x=p then k+1 else(gt w.fL x).Ee) (gt w.fL x).Sl (if p+1≠0∧x+1=(gt w.fL p).Ee then k+1 else(gt w.fL x).Sm)
theorem A62{c:D9}{n:As}{mem:List Int}{ch:Int}(h1:n.Acv=ch+1)(h2:n.Sn=0)(hz:Ao6 (Aty c mem ch)=true)(ha:n.F4.all (fun t=>Am4 t (Auk c n))=true):Ap3 c mem n=true:=by
 unfold Ap3;rw[ha,Bool.and_true,Bool.or_eq_true];refine .inr ?_
 have e1:(Auk c n).fAt=ch*c.G6:=by unfold Auk;rw[h1,h2,Int.add_sub_cancel,Int.add_zero]
 have e2:(Auk c n).Ajk=c.G6:=by unfold Auk;rw[h2];simp
 rw[e1,e2];exact hz
theorem Bnq{w:C4}(I:Inv w){t:Int->Lk}(A:AtT w.fL t)(F:Akm w.fL.length t (Awq w.fQ)){k c p:Int}(M:Bgp w t k c p){p':Dm}(T:Bin w.fP p' c 1 k){l':List As}(L:Br6 w l' k c p):Inv (C4.mk w.fC p' l' w.fQ w.Acw):=by
 have hk:=M.hk
 have hb:=M.bare I
 have hb1:(gt w.fL k).Ay=[]:=by rw[hb];rfl
 have P:=Ail.1 I.pool;obtain⟨T1,T2⟩:=A9r I hk M.free T;obtain⟨f1,f2,f3,f4⟩:=Ax0.1 M.free;obtain⟨b1,b2,b3,b4,b5,b6⟩:=Gx I.conf
 have hlen:=I.len
 have hg:=A1o (I.node k hk)
 have hc:0≤c∧c<w.fC.Ay:=by have:=P.st;omega
 have hp:p= -1∨(0≤p∧p<(w.fL.length:Int)):=M.up.imp_right fun h=>h.1.lv.1
 have hpf:p+1≠0->(0≤p∧p<(w.fL.length:Int))∧p≠k:=fun h=>by
  rcases M.up with e|⟨e,_⟩
  ·omega
  ·refine⟨e.lv.1,fun q=> ?_⟩
   have:=((Axo A).1 e.lv).2;rw[q,M.st]at this;cases this
 have hA:AtT l' (ins t k p):=by
  intro x hx;rw[L.len]at hx
  by_cases e:x=k
  ·subst e;rw[Awb,L.at_];unfold mkN A3z;simp only
   by_cases q:p+1=0
   ·rw[if_pos q,if_pos q,if_pos q,if_pos q];rfl
   ·rw[if_neg q,if_neg q,if_neg q,if_neg q,A p (hpf q).1];rfl
  ·rw[Atm e,L.ot x hx e,A x hx]
   by_cases q:p+1=0
   ·rw[if_neg (fun r:p+1≠0∧x+1=(t p).fi=>r.1 q),if_neg (fun r:p+1≠0∧x+1=(gt w.fL p).Ee=>r.1 q)];rfl
   ·rw[A p (hpf q).1];rfl
 have hF:Akm w.fL.length (ins t k p) (Awq w.fQ):=by
  refine Bcp F hk ?_ ?_ M.up
  ·rw[A k hk];show((gt w.fL k).Vg==1)=false;rw[M.st];rfl
  ·rw[A k hk];show((gt w.fL k).Vg==2)=false;rw[M.st];rfl
 have hfp:0≤(if p+1=0 then 0 else(gt w.fL p).Ee)∧(if p+1=0 then 0 else(gt w.fL p).Ee)≤w.fC.E5:=by
  split
  ·omega
  ·rename_i q
   have:=(I.rg.rg p (hpf q).1).2.1;omega
 have hep:0≤(if p+1=0 then 0 else(gt w.fL p).Sj):=by
  split
  ·omega
  ·rename_i q;rcases M.up with e|⟨e,_⟩
   ·omega
   ·exact(I.live A e.lv).ep
 have hz:Ao6 (Aty w.fC w.fP.N5 c)=true:=(P.one c hc).2.2.2 (f4 c ⟨by omega,by omega⟩)
 refine Bgo I hk p' l' (ins t k p) L.len (fun x hx e=>⟨_,_,_,L.ot x hx e,?_,?_,?_⟩) (by rw[M.st];decide) ?_ hA hF T1 T.mem (fun x hx=> ?_) ?_
 ·have:=(I.rg.rg x hx).2.1;split<;>omega
 ·have:=(I.rg.rg x hx).2.2.1;omega
 ·have:=(I.rg.rg x hx).2.2.2;split<;>omega
 ·rw[L.at_];refine⟨I.conf,rfl,hg.2.2,?_,⟨Int.le_refl 0,by show(0:Int)≤_;omega⟩,hfp,⟨Int.le_refl 0,by show(0:Int)≤_;omega⟩,Int.le_refl 0,hep,A2s.2 ⟨by simp[mkN],fun x hx=> ?_⟩,?_,Z21 _,Z21 _,rfl,rfl⟩
  ·show 0≤p+1∧p+1≤_;omega
  ·rw[Px.1 (show x∈[c] from hx)];exact hc
  ·unfold A4t mkN;simp only;rw[Agz (by omega),cond_false,sb1 (by omega) (by omega),Int.add_sub_cancel,Acu.2 ⟨by omega,by omega⟩]
   simp
 ·obtain⟨a1,a2,a3⟩:=T2 x hx;refine⟨a1,?_,a3⟩;rw[a2,hb1,L.at_]
  show x∈[]∨_ ↔ x∈[c];rw[Px];constructor
  ·rintro(h|h)
   ·cases h
   ·omega
  ·intro h;exact .inr (by omega)
 ·rw[L.at_];exact⟨rfl,rfl,A62 rfl rfl hz rfl⟩
theorem Bnr{l:List As}{t:Int->Lk}(A:AtT l t)(R:Rg l): ∀(n:Nat) (k:Int),Aur l (Aib l n k)=true->A1g l (Aib l n k)=true->Al l.length t k:=by
 intro n
 induction n with
 |zero=>intro k _ h;simp[Aib,A1g]at h
 |succ n ih=>
  intro k h1 h2;unfold Aib at h1 h2
  by_cases hk:0≤k∧k<(l.length:Int)
  ·rw[if_pos hk]at h1 h2
   have hu:=(R.rg k hk).1
   have hl:=R.len;rw[sb1 (by omega) (by omega)]at h1 h2
   cases hr:Aib l n ((gt l k).fUp - 1)with
   |nil=>
    rw[hr]at h1 h2
    have s1:(gt l k).Vg=1:=by simpa[Aur]using h1
    have s2:(gt l k).fUp=0:=by
     have:((gt l (gt [k] ((0:Nat):Int))).fUp==0)=true:=by simpa[A1g]using h2
     exact beq_iff_eq.1 this
    exact .root ((Axo A).2 ⟨hk,s1⟩) (by rw[A k hk];exact s2)
   |cons y r=>
    have hy:y=(gt l k).fUp - 1∧0≤y∧y<(l.length:Int):=by
     cases n with
     |zero=>simp[Aib]at hr
     |succ m=>
      unfold Aib at hr;split at hr
      ·rename_i q;obtain⟨e,_⟩:=List.cons.inj hr;exact⟨e.symm,by omega,by omega⟩
      ·cases hr
    rw[hr]at h1 h2
    have h1:((gt l k).Vg==1&&((gt l k).Sk==(gt l y).Sj)&&Aur l (y::r))=true:=h1;rw[Z4,Z4,beq_iff_eq,beq_iff_eq]at h1;obtain⟨⟨s1,s2⟩,s3⟩:=h1
    have s4:A1g l (y::r)=true:=by
     unfold A1g at h2 ⊢;rw[if_pos (by simp)]at h2 ⊢
     have e:gt (k::y::r) (((k::y::r).length - 1:Nat):Int)=gt (y::r) (((y::r).length - 1:Nat):Int):=by
      rw[show(k::y::r).length - 1=((y::r).length - 1)+1 by simp]
      exact A06 _ _ (by simp)
     rw[e]at h2;exact h2
    have h5:(gt l y).Vg=1:=by
     cases r with
     |nil=>simpa[Aur]using s3
     |cons z r=>
      simp only[Aur,Z4,beq_iff_eq]at s3;exact s3.1.1
    have h6:=ih ((gt l k).fUp - 1) (by rw[hr];exact s3) (by rw[hr];exact s4)
    refine .step ((Axo A).2 ⟨hk,s1⟩) ?_ (by rw[A k hk];exact h6)
    unfold Cu;rw[A k hk]
    show Lv _ t ((gt l k).fUp - 1)∧(t ((gt l k).fUp - 1)).ep=(gt l k).Sk;rw[←hy.1,A y hy.2,s2];exact⟨(Axo A).2 ⟨hy.2,h5⟩,rfl⟩
  ·rw[if_neg hk]at h2;simp[A1g]at h2
theorem Bio{w:C4}(I:Inv w){k:Int}(h:Asf w.fL k=true):AlW w.fL k:=by
 obtain⟨t,A,_⟩:=I.forest;unfold Asf at h;rw[Z4]at h;exact⟨t,A,Bnr A I.rg _ _ h.1 h.2⟩
theorem A4l{w:C4}(I:Inv w){h:Am}(h0:(Ans w.fL h).2=0):AlW w.fL (Ans w.fL h).1:=by
 unfold Ans at *;cases e1:Aul h with
 |false=>rw[e1]at h0;simp at h0
 |true=>
  rw[e1]at h0;simp only[cond_true]at h0 ⊢;cases e2:decide (Anz w.fL h<0)with
  |true=>rw[e2]at h0;simp at h0
  |false=>
   rw[e2]at h0;simp only[cond_false]at h0 ⊢;cases e3:Asf w.fL (Anz w.fL h)with
   |false=>rw[e3]at h0;simp at h0
   |true=>simp only[cond_true];exact Bio I e3
section
variable {K:Nat} (hK:281474976710656≤K)
include hK
theorem Bcy{w:C4}(hw:Ak1 w)(h8:w.fL.length≤1000): ∃r,Az6 K w=some r:=by
 have key: ∀(f i:Nat) (v:Int),i≤w.fL.length->w.fL.length - i<f-> ∃r,Aio K f v (i:Int) w.fC.Ay w.fC.G6 w.fC.E5 w.fC.Gs w.fC.E6 w.fC.G7 w.fP.N5 w.fP.Vg w.fP.N6 w.fL w.fQ w.Acw=some r:=by
  intro f
  induction f with
  |zero=>intro i _ _ h;omega
  |succ f ih=>
   intro i v hi hf;rw[Aio];rcases Hl i w.fL.length with h|h
   ·have go: ∀v,∃r,Am9 K (i:Int) w.fC.Ay w.fC.G6 w.fC.E5 w.fC.Gs w.fC.E6 w.fC.G7 w.fP.N5 w.fP.Vg w.fP.N6 w.fL w.fQ w.Acw (Aio K f) v=some r:=by
     intro v;unfold Am9;rw[Acx (by omega)]
     exact ih (i+1) v h (by omega)
    rw[Ad4 h,cond_true,if_pos (Ahl h),A3p hK hw.l _ ⟨by omega,by omega⟩]
    simp only[Z0,if_pos (Ahl h)];cases (gt w.fL (i:Int)).Vg==0 with
    |true=>exact go _
    |false=>
     simp only[cond_false];cases Asf w.fL (i:Int)with
     |true=>exact go _
     |false=>
      simp only[cond_false];cases (gt w.fL (i:Int)).Vg != 3 with
      |false=>exact go _
      |true=>
       simp only[cond_true];cases decide ((gt w.fL (i:Int)).C8<w.fC.G7)<;>exact go _
   ·rw[Ad5 h];exact⟨_,rfl⟩
 exact key K 0 0 (Z21 _) (by omega)
theorem A46{w:C4}(hw:Ak1 w)(h8:w.fL.length≤1000): ∃r,Au2 K w=some r∧r.length≤w.fL.length∧ ∀x∈r,(0≤x∧x<(w.fL.length:Int))∧Asf w.fL x=true:=by
 have hm:=V1
 have key: ∀(f i:Nat) (v:List Int),i≤w.fL.length->w.fL.length - i<f->v.length≤i->(∀x∈v,(0≤x∧x<(w.fL.length:Int))∧Asf w.fL x=true)-> ∃r,Aq3 K f v (i:Int) w.fC.Ay w.fC.G6 w.fC.E5 w.fC.Gs w.fC.E6 w.fC.G7 w.fP.N5 w.fP.Vg w.fP.N6 w.fL w.fQ w.Acw=some r∧r.length≤w.fL.length∧ ∀x∈r,(0≤x∧x<(w.fL.length:Int))∧Asf w.fL x=true:=by
  intro f
  induction f with
  |zero=>intro i _ _ h;omega
  |succ f ih=>
   intro i v hi hf hl hv;rw[Aq3];rcases Hl i w.fL.length with h|h
   ·rw[Ad4 h,cond_true,A3p hK hw.l _ ⟨by omega,by omega⟩]
    simp only[Z0];cases e:Asf w.fL (i:Int)with
    |false=>
     simp only[cond_false];unfold Aso;rw[Acx (by omega)]
     exact ih (i+1) v h (by omega) (by omega) hv
    |true=>
     simp only[cond_true];rw[if_pos ⟨by simp;omega,by simp;omega⟩]
     unfold Aso;rw[Acx (by omega)]
     refine ih (i+1) _ h (by omega) (by simp;omega) fun x hx=> ?_
     rcases Mh.1 hx with hx|hx
     ·exact hv x hx
     ·rw[Px.1 hx];exact⟨⟨by omega,by omega⟩,e⟩
   ·rw[Ad5 h];exact⟨_,rfl,by omega,hv⟩
 exact key K 0 [] (Z21 _) (by omega) (by simp) (fun x hx=>by cases hx)
theorem A35{w:C4}(hw:Ak1 w)(h8:w.fL.length≤1000)(n:Int): ∃b,Arq K w n=some b:=by
 obtain⟨r,e,hl,_⟩:=A46 hK hw h8
 have key: ∀(f i:Nat) (v:Int),i≤r.length->r.length - i<f-> ∃x,Aqb K r f v (i:Int) w.fC.Ay w.fC.G6 w.fC.E5 w.fC.Gs w.fC.E6 w.fC.G7 w.fP.N5 w.fP.Vg w.fP.N6 w.fL w.fQ w.Acw=some x:=by
  intro f
  induction f with
  |zero=>intro i _ _ h;omega
  |succ f ih=>
   intro i v hi hf;rw[Aqb];rcases Hl i r.length with h|h
   ·rw[Ad4 h,cond_true,if_pos (Ahl h),A5f hK _ _ hw.p.st.2,Z0,Acx (by omega)]
    exact ih (i+1) _ h (by omega)
   ·rw[Ad5 h];exact⟨_,rfl⟩
 obtain⟨x,ex⟩:=key K 0 0 (Z21 _) (by omega)
 have ex:Aqb K r K 0 0 w.fC.Ay w.fC.G6 w.fC.E5 w.fC.Gs w.fC.E6 w.fC.G7 w.fP.N5 w.fP.Vg w.fP.N6 w.fL w.fQ w.Acw=some x:=ex;unfold Arq Az7;rw[e,Z0,ex];simp only[Z0];cases decide (n≥0)<;>cases decide (n≤w.fC.Ay)<;>exact⟨_,rfl⟩
omit hK in
theorem A36{l:List As}(hl:l.length≤1000000)(k:Int): ∃h,Ank K l k=some h:=by
 unfold Ank;rw[Ayu K (by omega),Z0]
 by_cases q:0≤k∧k<(l.length:Int)
 ·rw[decide_eq_true q,if_pos q];exact⟨_,rfl⟩
 ·rw[decide_eq_false q];exact⟨_,rfl⟩
end
def A37 (n:As)(c:Int):As:=As.mk n.Vg n.C8 n.Sj n.fUp n.Sk n.Ee n.Sl n.Sm (n.Ay++[c]) (c+1) 0 n.F4 n.Fh
theorem A6g{c:D9}{n:As}(L:Ats c n){k:Int}(hk:0≤k∧k<c.Ay)(hn:k ∉ n.Ay):Ats c (A37 n k):=by
 obtain⟨b1,b2,_⟩:=Gx L.conf
 have hd:=A2s.1 L.dist;refine⟨L.conf,L.st,L.gen,L.up,L.first,L.next,L.prev,L.ep,L.ue,A2s.2 ⟨Aip.2 ⟨hd.1,by simp,fun x h1 h2=>by rw[Px]at h2;subst h2;exact hn h1⟩,fun x hx=> ?_⟩,?_,L.nth,L.ntag,L.tags,L.things⟩
 ·rcases Mh.1 hx with h|h
  ·exact hd.2 x h
  ·rw[Px.1 h];exact hk
 ·unfold A4t A37;simp only;rw[Agz (by omega),cond_false,sb1 (by omega) (by omega),Int.add_sub_cancel,Acu.2 ⟨by omega,by omega⟩]
  simp
section
variable {K:Nat} (hK:281474976710656≤K)
include hK
theorem A6h{c:D9}{n:As}(L:Ats c n)(hw:Arm n){k:Int}(hk:0≤k∧k<c.Ay)(hn:k ∉ n.Ay):Aum K c n k=some (A37 n k,true):=by
 have hm:=V1
 have L2:=A6g L hk hn;obtain⟨b1,b2,_⟩:=Gx L.conf
 have h1:=Asc L.conf L.dist
 have h3:=L.nth
 have h4:=L.ntag
 have e:As.mk n.Vg n.C8 n.Sj n.fUp n.Sk n.Ee n.Sl n.Sm (n.Ay++[k]) (An3 .i64 k 1) 0 n.F4 n.Fh=A37 n k:=by unfold A37;rw[ad1 (by omega) (by omega)]
 unfold Aum
 have hb:A37 n k=A37 n k:=rfl;rw[Atr K hw,Z0,show(n.Vg != 1)=false by rw[L.st];rfl,cond_false,Anm,Ay8 hK L.conf,Acu.2 ⟨by omega,by omega⟩,Z0,Bool.not_true,cond_false,if_pos ⟨by simp;omega,by simp;omega⟩,e]
 have hl:(A37 n k).Ay.length=n.Ay.length+1:=by unfold A37;simp
 rw[Avn hK c (A37 n k) (by omega) (show n.F4.length≤_ by omega) (show n.Fh.length≤_ by omega),(Aik.2 L2).1]
 rfl
omit hK in
theorem Dx.le{w:C4}{E E':Int}{n m:Nat}(G:Dx w E n)(hE:E≤E')(h:n≤m):Dx w E' m:=⟨G.inv,G.mem,fun k hk=>by have:=G.ep k hk;exact⟨Int.le_trans this.ep hE,Int.le_trans this.ue hE,this.cur⟩,Vv G.wt h⟩
theorem Bip{E:Int}{n:Nat}(hE:0≤E∧E≤900000000)(hn:n≤900000000){w:C4}(G:Dx w E n){p at_ ch:Int}(hp:p= -1∨AlW w.fL p∧(Aib w.fL w.fL.length p).length<4)(ha:(0≤at_∧at_<(w.fL.length:Int))∧(gt w.fL at_).Vg=0)(hc:A11 w.fP ch 1=true):
  ∃p' l',Arg K w.fP ch 1 at_=some p'∧(p= -1->l'=w.fL.set at_.toNat (A86 (gt w.fL at_).C8 ch))∧(p≠ -1->Axu K (w.fL.set at_.toNat (A86 (gt w.fL at_).C8 ch)) p at_=some l')∧Dx (C4.mk w.fC p' l' w.fQ w.Acw) E (n+18)∧l'.length=w.fL.length:=by
 have I:=G.inv
 have W:=G.ww (by omega) (by omega)
 obtain⟨t,A,F⟩:=I.forest;obtain⟨b1,b2,b3,b4,b5,b6⟩:=Gx I.conf
 have P:=Ail.1 I.pool
 have hst:=P.st
 have how:=P.own
 have hlen:=I.len;obtain⟨f1,f2,f3,f4⟩:=Ax0.1 hc
 have M:Bgp w t at_ ch p:=⟨ha.1,ha.2,hc,hp.imp_right fun h=>⟨h.1.al A,by rw[A5p A I.rg]at h;exact h.2⟩⟩
 obtain⟨p',ep,T⟩:=A45 hK W.p (by omega) (by omega) (k:=at_) hc
 have hg:=A1o (I.node at_ ha.1)
 have hbare:=M.bare I
 have hl': ∃l',(p= -1->l'=w.fL.set at_.toNat (A86 (gt w.fL at_).C8 ch))∧(p≠ -1->Axu K (w.fL.set at_.toNat (A86 (gt w.fL at_).C8 ch)) p at_=some l')∧Br6 w l' at_ ch p:=by
  by_cases q:p= -1
  ·refine⟨w.fL.set at_.toNat (A86 (gt w.fL at_).C8 ch),fun _=>rfl,fun h=>absurd q h,by simp,?_,fun x hx hne=> ?_⟩
   ·rw[A02 ha.1];unfold A86 mkN;rw[q];rfl
   ·have hpx:x≠p:=by omega
    rw[A03 ha.1.1 hx (Ne.symm hne),if_neg hpx,if_neg (fun r=>r.1 (by omega))]
    rfl
  ·obtain⟨al,_⟩:=hp.resolve_left q
   have al:=al.al A
   have hpi:=al.lv.1
   have hpl:=(Axo A).1 al.lv
   have hne:p≠at_:=fun e=>by rw[e,ha.2]at hpl;exact absurd hpl.2 (by decide)
   have hgp: ∀v,gt (w.fL.set at_.toNat v) p=gt w.fL p:=fun v=>A03 ha.1.1 hpi (Ne.symm hne) v
   have hnw:Arm (A86 (gt w.fL at_).C8 ch):=⟨K1 (x:=(1:Int)) (by omega) (by omega),K1 (by show _≤(gt w.fL at_).C8;omega) (by show(gt w.fL at_).C8≤_;omega),Ay4,Ay4,Ay4,Ay4,Ay4,Ay4,Avr (fun x hx=>by rw[Px.1 (show x∈[ch] from hx)];omega) (by show [ch].length≤_;simp),K1 (by show _≤ch+1;omega) (by show ch+1≤_;omega),Ay4,A3v,Azd⟩
   have hW:Ad1 (w.fL.set at_.toNat (A86 (gt w.fL at_).C8 ch)):=by
    refine⟨fun x hx=> ?_,by rw[Z49];exact W.l.2⟩
    rcases Z54 hx with h|h
    ·exact W.l.1 x h
    ·rw[h];exact hnw
   have hfr:=(I.rg.rg p hpi).2.1;obtain⟨l',e,L⟩:=Bqf hK hW (by simp;omega) (p:=p) (k:=at_) (by simpa using hpi) (by simpa using ha.1) hne (by rw[hgp];simpa using hfr) (by
    rw[hgp];intro e
    have h1:=(F.tree.link p al.lv).first (by rw[A p hpi];show(gt w.fL p).Ee≠0;omega)
    have h2:=((Axo A).1 h1.1).2;rw[A p hpi]at h2
    have h2:(gt w.fL ((gt w.fL p).Ee - 1)).Vg=1:=h2;rw[e,Int.add_sub_cancel,ha.2]at h2;cases h2)
   refine⟨l',fun h=>absurd h q,fun _=>e,by rw[L.len];simp,?_,fun x hx hxk=> ?_⟩
   ·rw[L.at_,A02 ha.1,hgp];unfold A86 mkN;rw[if_neg (by omega),if_neg (by omega)]
   ·rw[L.ot x (by simpa using hx) hxk,A03 ha.1.1 hx (Ne.symm hxk),hgp]
    by_cases r:x+1=(gt w.fL p).Ee
    ·rw[if_pos r,if_pos (show p+1≠0∧x+1=(gt w.fL p).Ee from⟨by omega,r⟩)]
    ·rw[if_neg r,if_neg (fun s:p+1≠0∧x+1=(gt w.fL p).Ee=>r s.2)]
 obtain⟨l',h1,h2,L⟩:=hl'
 have I':=Bnq I A F M T L;refine⟨p',l',ep,h1,h2,⟨I',?_,fun x hx=> ?_,?_⟩,L.len⟩
 ·show ∀x∈p'.N5,_;rw[T.mem];exact G.mem
 ·have hx:0≤x∧x<(l'.length:Int):=hx;rw[L.len]at hx
  show EpP E (gt l' x)
  by_cases e:x=at_
  ·rw[e,L.at_];refine⟨hE.1,?_,⟨by show 0≤ch+1;omega,by show ch+1≤_;omega⟩⟩
   show(if p+1=0 then 0 else(gt w.fL p).Sj)≤E
   split
   ·exact hE.1
   ·rename_i q
    have:=(hp.resolve_left (by omega)).1.al A
    exact(G.ep p this.lv.1).ep
  ·rw[L.ot x hx e]
   have:=G.ep x hx;exact⟨this.ep,this.ue,this.cur⟩
 ·have hs:=A33 (f:=wtN w.fC) L.len ha.1 fun x hx hne=>by rw[L.ot x hx hne];rfl
  have e0:wtN w.fC (gt w.fL at_)=0:=by rw[hbare];exact A34 _ (by decide) _
  have e1:wtN w.fC (gt l' at_)≤18:=by
   rw[L.at_];unfold wtN mkN;simp only[if_pos,List.length_singleton,List.length_nil];omega
  have h3:=G.wt;unfold wt pot at h3 ⊢
  show(l'.map (wtN w.fC)).sum+_+_≤_;simp only at h3 ⊢;omega
end
section
variable {K:Nat} (hK:281474976710656≤K)
include hK
theorem A38{E:Int}{n:Nat}(hE:0≤E∧E≤900000000)(hn:n≤900000000){w:C4}(G:Dx w E n){p:Int}(a b:Es)(hp:a.Wz=0->p= -1∨AlW w.fL p∧(Aib w.fL w.fL.length p).length<4):
  ∃r w',Aod K p w.fC.Ay w.fC.G6 w.fC.E5 w.fC.Gs w.fC.E6 w.fC.G7 w.fP.N5 w.fP.Vg w.fP.N6 w.fL w.fQ w.Acw a b=some (r,w')∧Dx w' E (n+18)∧w'.fC=w.fC:=by
 unfold Aod
 by_cases h0:a.Wz=0
 ·have hp:=hp h0;rw[h0];simp only[bne_self_eq_false,cond_false];obtain⟨d,w1,e1,S⟩:=Bex hK (by omega:0≤E∧E≤1000000000) (by omega) 1 (run:=1) (by omega) G
  rw[show C4.mk (D9.mk w.fC.Ay w.fC.G6 w.fC.E5 w.fC.Gs w.fC.E6 w.fC.G7) (Dm.mk w.fP.N5 w.fP.Vg w.fP.N6) w.fL w.fQ w.Acw=w from rfl,e1]
  simp only[Z0]
  have G1:=S.good
  have T1:=S.stay
  have P1:=Ail.1 G1.inv.pool
  have hst:=P1.st
  have hlen:=G1.inv.len;obtain⟨b1,b2,b3,b4,b5,b6⟩:=Gx G1.inv.conf;obtain⟨at_,e2,h2⟩:=Bbe hK (l:=w1.fL) (by omega)
  obtain⟨ch,e3,h3⟩:=A5w hK (p:=w1.fP) (by omega)
  rw[e2,e3];simp only[Z0]
  have G1':=Dx.le G1 (Int.le_refl E) (by omega:n≤n+18)
  by_cases q1:at_<0
  ·rw[decide_eq_true q1];exact⟨_,_,rfl,G1',T1.conf⟩
  ·rw[decide_eq_false q1];simp only[cond_false]
   by_cases q2:ch<0
   ·rw[decide_eq_true q2];exact⟨_,_,rfl,G1',T1.conf⟩
   ·rw[decide_eq_false q2];simp only[cond_false];obtain⟨hat,hfree⟩:=h2.resolve_left (by omega)
    have hch:=h3.resolve_left (by omega)
    obtain⟨f1,f2,f3,f4⟩:=Ax0.1 hch
    have hp1:p= -1∨AlW w1.fL p∧(Aib w1.fL w1.fL.length p).length<4:=hp.imp_right fun h=>by
     obtain⟨x1,_,x3⟩:=T1.node p h.1;rw[x3,T1.len];exact⟨x1,h.2⟩
    obtain⟨p',l',et,k1,k2,G2,hl2⟩:=Bip hK hE hn G1 hp1 ⟨hat,hfree⟩ hch
    have hg:=A1o (G1.inv.node at_ hat)
    have L0:Ats w1.fC (As.mk 1 (gt w1.fL at_).C8 0 0 0 0 0 0 [] 0 0 [] []):=⟨G1.inv.conf,rfl,hg.2.2,⟨Int.le_refl 0,by show(0:Int)≤_;omega⟩,⟨Int.le_refl 0,by show(0:Int)≤_;omega⟩,⟨Int.le_refl 0,by show(0:Int)≤_;omega⟩,⟨Int.le_refl 0,by show(0:Int)≤_;omega⟩,Int.le_refl 0,Int.le_refl 0,rfl,rfl,Z21 _,Z21 _,rfl,rfl⟩
    have W0:Arm (As.mk 1 (gt w1.fL at_).C8 0 0 0 0 0 0 [] 0 0 [] []):=A27 (E:=0) (Aik.2 L0).1 ⟨Int.le_refl 0,Int.le_refl 0,Int.le_refl 0,by show(0:Int)≤1000;omega⟩ (by omega)
    unfold Ak4;simp only[Z0,if_pos hat];rw[et,Z0,A6h hK L0 W0 ⟨f1,by omega⟩ (by intro h;cases h),Z0]
    simp only
    have hnew:A37 (As.mk 1 (gt w1.fL at_).C8 0 0 0 0 0 0 [] 0 0 [] []) ch=A86 (gt w1.fL at_).C8 ch:=rfl;rw[hnew]
    by_cases q3:p= -1
    ·rw[decide_eq_false (by omega: ¬p≥0)]
     simp only[cond_false];rw[←k1 q3];obtain⟨hd,eh⟩:=A36 (K:=K) (l:=l') (by omega) at_
     obtain⟨t,w2,es,S2⟩:=A7g hK (E:=E) (n:=n+18) (by omega) (by omega) w1.fC.Gs G2
     unfold As1;rw[eh,Z0,show C4.mk (D9.mk w1.fC.Ay w1.fC.G6 w1.fC.E5 w1.fC.Gs w1.fC.E6 w1.fC.G7) (Dm.mk p'.N5 p'.Vg p'.N6) l' w1.fQ w1.Acw=C4.mk w1.fC p' l' w1.fQ w1.Acw from rfl,es]
     exact⟨_,_,rfl,S2.good,S2.stay.conf.trans T1.conf⟩
    ·have hp2:0≤p:=by
      obtain⟨t,A,F⟩:=G1.inv.forest;exact((hp1.resolve_left q3).1.al A).lv.1.1
     rw[decide_eq_true (show p≥0 from hp2)]
     simp only[cond_true];rw[k2 q3,Z0];obtain⟨hd,eh⟩:=A36 (K:=K) (l:=l') (by omega) at_
     obtain⟨t,w2,es,S2⟩:=A7g hK (E:=E) (n:=n+18) (by omega) (by omega) w1.fC.Gs G2
     unfold As1;rw[eh,Z0,show C4.mk (D9.mk w1.fC.Ay w1.fC.G6 w1.fC.E5 w1.fC.Gs w1.fC.E6 w1.fC.G7) (Dm.mk p'.N5 p'.Vg p'.N6) l' w1.fQ w1.Acw=C4.mk w1.fC p' l' w1.fQ w1.Acw from rfl,es]
     exact⟨_,_,rfl,S2.good,S2.stay.conf.trans T1.conf⟩
 ·rw[Aq0 h0];exact⟨_,_,rfl,Dx.le G (Int.le_refl E) (by omega),rfl⟩
theorem Bcz{E:Int}{n:Nat}(hE:0≤E∧E≤900000000)(hn:n≤900000000){w:C4}(G:Dx w E n){p:Int}(v:Bool)(a b:Es)(hp:v=false->p= -1∨AlW w.fL p∧(Aib w.fL w.fL.length p).length<4):
  ∃r w',As2 K p v w.fC.Ay w.fC.G6 w.fC.E5 w.fC.Gs w.fC.E6 w.fC.G7 w.fP.N5 w.fP.Vg w.fP.N6 w.fL w.fQ w.Acw a b=some (r,w')∧Dx w' E (n+18)∧w'.fC=w.fC:=by
 have W:=G.ww (by omega) (by omega)
 have hlen:=G.inv.len;obtain⟨b1,b2,b3,b4,b5,b6⟩:=Gx G.inv.conf;unfold As2;cases v with
 |true=>exact A38 hK hE hn G (p:=p) (Es.mk 3 a.fH a.fR a.fB a.W3 a.Gs a.N7) b (fun h=>absurd (show(3:Int)=0 from h) (by decide))
 |false=>
  simp only[cond_false];rw[show C4.mk (D9.mk w.fC.Ay w.fC.G6 w.fC.E5 w.fC.Gs w.fC.E6 w.fC.G7) (Dm.mk w.fP.N5 w.fP.Vg w.fP.N6) w.fL w.fQ w.Acw=w from rfl]
  obtain⟨r,er⟩:=Bcy hK W (by omega)
  rw[er,Z0];cases r==0 with
  |true=>exact A38 hK hE hn G (p:=p) (Es.mk 4 a.fH a.fR a.fB a.W3 a.Gs a.N7) b (fun h=>absurd (show(4:Int)=0 from h) (by decide))
  |false=>
   simp only[cond_false];obtain⟨f,ef⟩:=A35 hK W (by omega) 1
   rw[ef,Z0];cases f with
   |false=>exact A38 hK hE hn G (p:=p) (Es.mk 5 a.fH a.fR a.fB a.W3 a.Gs a.N7) b (fun h=>absurd (show(5:Int)=0 from h) (by decide))
   |true=>exact A38 hK hE hn G (p:=p) a b (fun _=>hp rfl)
theorem Bey{E:Int}{n:Nat}(hE:0≤E∧E≤900000000)(hn:n≤900000000){w:C4}(G:Dx w E n)(h:Am): ∃r w',Ax8 K w h=some (r,w')∧Dx w' E (n+18)∧w'.fC=w.fC:=by
 have W:=G.ww (by omega) (by omega)
 have hlen:=G.inv.len;obtain⟨b1,b2,b3,b4,b5,b6⟩:=Gx G.inv.conf
 have hup: ∃p c,A0h K w h=some (p,c)∧(c=0->p= -1∨AlW w.fL p):=by
  unfold A0h;cases ((h.Bk==0)&&((h.C8==0)&&true))with
  |true=>exact⟨-1,0,rfl,fun _=> .inl rfl⟩
  |false=>
   simp only[cond_false];rw[Asg hK W.l,Z0];exact⟨_,_,rfl,fun h0=> .inr (A4l G.inv h0)⟩
 obtain⟨p,c,ep,hp⟩:=hup;unfold Ax8;rw[ep,Z0,Awa hK w W.l,Z0];simp only
 by_cases q:c=0
 ·rw[q];simp only[bne_self_eq_false,cond_false];rcases hp q with e|e
  ·rw[e,decide_eq_false (by omega)]
   exact Bcz hK hE hn G false _ _ (fun _=> .inl rfl)
  ·have hpi:0≤p∧p<(w.fL.length:Int):=by
    obtain⟨t,A,F⟩:=G.inv.forest;exact(e.al A).lv.1
   rw[decide_eq_true (show p≥0 from hpi.1)]
   simp only[cond_true];unfold Awe;rw[A22 hK W.l p ⟨by omega,by omega⟩]
   simp only[Z0];refine Bcz hK hE hn G _ _ _ (fun hv=> .inr ⟨e,?_⟩)
   have:=of_decide_eq_false hv;omega
 ·rw[Aq0 q];exact A38 hK hE hn G (p:=p) (Es.mk c (Am.mk 0 0) (Bq.mk (Am.mk 0 0) 0 0) [] (A0d w h) 0 0) (Es.mk 0 (Am.mk 0 0) (Bq.mk (Am.mk 0 0) 0 0) [] 0 0 0) (fun h=>absurd h q)
end
theorem A2u{c:D9}{ch:List Int}{t:Bc}(h:Aq2 c ch t=true){j:Int}(h0:t.fAt≤j)(h1:j<t.fAt+t.Ajk):j / c.G6∈ch:=by
 unfold Aq2 at h;rw[Z4,Z1]at h;obtain⟨ht,hc⟩:=h;obtain⟨hs,hin⟩:=A1e ht;obtain⟨b1,b2,_⟩:=Gx hin.1
 have e1:t.fAt / c.G6≤j / c.G6:=Int.ediv_le_ediv (by omega) h0
 have e2:j / c.G6≤(t.fAt+t.Ajk - 1) / c.G6:=Int.ediv_le_ediv (by omega) (by omega)
 have:=hc (j / c.G6 - t.fAt / c.G6).toNat (by rw[List.mem_range];omega)
 rw[show t.fAt / c.G6+(((j / c.G6 - t.fAt / c.G6).toNat:Nat):Int)=j / c.G6 by omega]at this
 exact List.contains_iff_mem.1 this
theorem A39{a s j:Int}(hs:0<s)(h0:a*s≤j)(h1:j<a*s+s):j / s=a:=by
 have h2:a≤j / s:=(Int.le_ediv_iff_mul_le hs).2 h0
 have h3:j / s<a+1:=Int.ediv_lt_of_lt_mul hs (by rw[Int.add_mul,Int.one_mul];exact h1)
 omega
theorem A2v{a b:Bc}(h: ∀j,a.fAt≤j->j<a.fAt+a.Ajk->b.fAt≤j->j<b.fAt+b.Ajk->False):Am4 a b=true:=by
 unfold Am4;rw[decide_eq_true_iff]
 by_cases h1:a.Ajk≤0
 ·exact .inl h1
 by_cases h2:b.Ajk≤0
 ·exact .inr (.inl h2)
 by_cases h3:a.fAt+a.Ajk≤b.fAt
 ·exact .inr (.inr (.inl h3))
 by_cases h4:b.fAt+b.Ajk≤a.fAt
 ·exact .inr (.inr (.inr h4))
 exfalso
 by_cases h5:a.fAt≤b.fAt
 ·exact h b.fAt h5 (by omega) (by omega) (by omega)
 ·exact h a.fAt (by omega) (by omega) (by omega) (by omega)
theorem A4a{a b:Bc}(h:Am4 a b=true){j:Int}(h1:a.fAt≤j)(h2:j<a.fAt+a.Ajk)(h3:b.fAt≤j)(h4:j<b.fAt+b.Ajk):False:=by
 unfold Am4 at h;rw[decide_eq_true_iff]at h;omega
theorem A5x{l:List Bc}:Ane l=true ↔ l.Pairwise (fun a b=>Am4 a b=true):=by
 unfold Ane;rw[Z1,List.pairwise_iff_getElem];constructor
 ·intro h i j hi hj hij
  have:=h j (by rw[List.mem_range];exact hj)
  rw[Z1]at this
  have h2:=this l[i] (by
   rw[List.mem_iff_getElem];exact⟨i,by simp;omega,by simp⟩)
  rwa[V2 hj]at h2
 ·intro h j hj;rw[List.mem_range]at hj;rw[Z1];intro o ho;obtain⟨i,hi,e⟩:=List.mem_iff_getElem.1 ho;simp only[List.length_take]at hi;simp only[List.getElem_take]at e;rw[V2 hj,←e];exact h i j (by omega) hj (by omega)
theorem A5y{l:List Bc}{t:Bc}(h:Ane l=true)(ht: ∀o∈l,Am4 o t=true):Ane (l++[t])=true:=by
 rw[A5x]at h ⊢;rw[List.pairwise_append];exact⟨h,by simp,fun a ha b hb=>by rw[Px.1 hb];exact ht a ha⟩
theorem A4m{c:D9}{n:As}(L:Ats c n)(hc:0≤n.Acv∧n.Acv≤1000)(h0:n.Acv≠0):n.Acv - 1∈n.Ay∧0≤n.Sn∧n.Sn≤c.G6:=by
 have:=L.cur;unfold A4t at this;rw[Agz h0,cond_false,Z4,Acu,sb1 (by omega) (by omega)]at this
 exact⟨List.contains_iff_mem.1 this.1,this.2⟩
theorem Bgq{c:D9}{ch ch':List Int}(h: ∀x∈ch,x∈ch'){t:Bc}(ht:Aq2 c ch t=true):Aq2 c ch' t=true:=by
 unfold Aq2 at ht ⊢;rw[Z4,Z1]at ht ⊢;exact⟨ht.1,fun j hj=>List.contains_iff_mem.2 (h _ (List.contains_iff_mem.1 (ht.2 j hj)))⟩
def A8h (c:D9)(n:As)(off size:Int):As:=As.mk n.Vg n.C8 n.Sj n.fUp n.Sk n.Ee n.Sl n.Sm n.Ay n.Acv (off+size) (n.F4++[Bc.mk ((n.Acv - 1)*c.G6+off) size 0]) n.Fh
structure Bns (c:D9)(n:As)(off size:Int):Prop where
 cur:n.Acv≠0
 ho:n.Sn≤off
 hz:1≤size
 fit:off+size≤c.G6
 cnt:n.F4.length<12
structure ThP (c:D9)(mem:List Int)(n:As):Prop where
 inch:n.F4.all (Aq2 c n.Ay)=true
 apart:Ane n.F4=true
 loose:Ap3 c mem n=true
theorem Bc0{c:D9}{mem:List Int}{n:As}{off size:Int}(L:Ats c n)(hc:0≤n.Acv∧n.Acv≤1000)(T:ThP c mem n)(S:Bns c n off size):Ats c (A8h c n off size)∧ThP c mem (A8h c n off size):=by
 obtain⟨b1,b2,_⟩:=Gx L.conf;obtain⟨m1,m2,m3⟩:=A4m L hc S.cur
 have hm:=Atz L.dist _ m1
 have ho:=S.ho;have hz:=S.hz;have hf:=S.fit;have hn:=S.cnt
 have hlo:=T.loose;unfold Ap3 at hlo;rw[Agz S.cur,Z52,Z4,Z1]at hlo;obtain⟨z1,z2⟩:=hlo
 have q0:0≤(n.Acv - 1)*c.G6:=Int.mul_nonneg (by omega) (by omega)
 have q1:(n.Acv - 1)*c.G6+c.G6≤c.Ay*c.G6:=by
  have:(n.Acv - 1+1)*c.G6≤c.Ay*c.G6:=Int.mul_le_mul_of_nonneg_right (by omega) (by omega)
  rw[Int.add_mul,Int.one_mul]at this;exact this
 have hby:Ala c=c.Ay*c.G6:=by unfold Ala;rw[L.conf];rfl
 have d1:((n.Acv - 1)*c.G6+off) / c.G6=n.Acv - 1:=A39 (by omega) (by omega) (by omega)
 have d2:((n.Acv - 1)*c.G6+off+size - 1) / c.G6=n.Acv - 1:=A39 (by omega) (by omega) (by omega)
 have htb:Aps c (Bc.mk ((n.Acv - 1)*c.G6+off) size 0)=true:=by
  unfold Aps;rw[decide_eq_true (show Axi c (Bc.mk ((n.Acv - 1)*c.G6+off) size 0) from⟨L.conf,hz,by show 0≤_+off;omega,by rw[hby];show(n.Acv - 1)*c.G6+off+size≤_;omega⟩)]
  show(decide (size≤c.G6)&&(((n.Acv - 1)*c.G6+off) / c.G6==((n.Acv - 1)*c.G6+off+size - 1) / c.G6))=true;rw[d1,d2,decide_eq_true (by omega)];simp
 have htc:Aq2 c n.Ay (Bc.mk ((n.Acv - 1)*c.G6+off) size 0)=true:=by
  unfold Aq2;rw[htb,Z30];simp only;rw[d1,d2,Int.sub_self,Z1];intro j hj;rw[List.mem_range]at hj;rw[show(j:Int)=0 by omega,Int.add_zero]
  exact List.contains_iff_mem.2 m1
 have hr: ∀o∈n.F4,∀j,o.fAt≤j->j<o.fAt+o.Ajk->(n.Acv - 1)*c.G6+n.Sn≤j->j<(n.Acv - 1)*c.G6+c.G6->False:=fun o h j h1 h2 h3 h4=>A4a (z2 o h) h1 h2 (b:=Auk c n) h3 (by show j<(n.Acv - 1)*c.G6+n.Sn+(c.G6 - n.Sn);omega)
 refine⟨⟨L.conf,L.st,L.gen,L.up,L.first,L.next,L.prev,L.ep,L.ue,L.dist,?_,?_,L.ntag,L.tags,?_⟩,⟨?_,?_,?_⟩⟩
 ·unfold A4t A8h;simp only;rw[Agz S.cur,cond_false,sb1 (by omega) (by omega),List.contains_iff_mem.2 m1,Acu.2 ⟨by omega,by omega⟩];rfl
 ·show(n.F4++[_]).length≤12;simp;omega
 ·show(n.F4++[_]).all (Aps c)=true;rw[List.all_append,L.things,Gc,htb];rfl
 ·show(n.F4++[_]).all (Aq2 c n.Ay)=true;rw[List.all_append,T.inch,Gc,htc];rfl
 ·refine A5y T.apart fun o h=>A2v fun j h1 h2 h3 h4=>hr o h j h1 h2 ?_ ?_
  ·have h3:(n.Acv - 1)*c.G6+off≤j:=h3;omega
  ·have h4:j<(n.Acv - 1)*c.G6+off+size:=h4;omega
 ·unfold Ap3;rw[Bool.or_eq_true,Z4];refine .inr ⟨?_,?_⟩
  ·rw[A2r]at z1 ⊢;intro j h1 h2 h3
   have h1:((n.Acv - 1)*c.G6+(off+size)).toNat≤j:=h1
   have h2:j<((n.Acv - 1)*c.G6+(off+size)).toNat+(c.G6 - (off+size)).toNat:=h2;refine z1 j ?_ ?_ h3
   ·show((n.Acv - 1)*c.G6+n.Sn).toNat≤j;omega
   ·show j<((n.Acv - 1)*c.G6+n.Sn).toNat+(c.G6 - n.Sn).toNat;omega
  ·show(n.F4++[_]).all _=true;rw[List.all_append,Gc,Z4,Z4,Z1];refine⟨fun o h=>A2v fun j h1 h2 h3 h4=>hr o h j h1 h2 ?_ ?_,A2v fun j h1 h2 h3 h4=> ?_,rfl⟩
   ·have h3:(n.Acv - 1)*c.G6+(off+size)≤j:=h3;omega
   ·have h4:j<(n.Acv - 1)*c.G6+(off+size)+(c.G6 - (off+size)):=h4;omega
   ·have h2:j<(n.Acv - 1)*c.G6+off+size:=h2
    have h3:(n.Acv - 1)*c.G6+(off+size)≤j:=h3;omega
def A5z (a n:Int):List Int:=(List.range n.toNat).map (fun(i:Nat)=>a+(i:Int))
theorem A50{a n x:Int}:x∈A5z a n ↔ a≤x∧x<a+n:=by
 unfold A5z;rw[Ex];constructor
 ·rintro⟨i,hi,e⟩;rw[List.mem_range]at hi;omega
 ·intro h;exact⟨(x - a).toNat,by rw[List.mem_range];omega,by omega⟩
theorem Bez (a n:Int):(A5z a n).Nodup:=by
 unfold A5z;refine List.Pairwise.map _ (fun x y h=> ?_) List.nodup_range;omega
def A2c (c:D9)(n:As)(a run size:Int):As:=As.mk n.Vg n.C8 n.Sj n.fUp n.Sk n.Ee n.Sl n.Sm (n.Ay++A5z a run) n.Acv n.Sn (n.F4++[Bc.mk (a*c.G6) size run]) n.Fh
structure Be0 (c:D9)(n:As)(a run size:Int):Prop where
 hz:c.G6<size∧size≤200
 hr:run=Atk size c.G6
 at_:0≤a∧a+run≤c.Ay
 new: ∀x∈n.Ay,¬(a≤x∧x<a+run)
 cnt:n.F4.length<12
theorem Bc1{c:D9}{mem:List Int}{n:As}{a run size:Int}(L:Ats c n)(hc:0≤n.Acv∧n.Acv≤1000)(T:ThP c mem n)(S:Be0 c n a run size):Ats c (A2c c n a run size)∧ThP c mem (A2c c n a run size):=by
 obtain⟨b1,b2,_⟩:=Gx L.conf
 have hz:=S.hz;have ha:=S.at_;have hn:=S.cnt
 have hrun:run=(size+c.G6 - 1) / c.G6:=by
  rw[S.hr];unfold Atk;rw[Acu.2 ⟨by omega,by omega⟩,Acu.2 ⟨by omega,by omega⟩];rfl
 have hru:size≤run*c.G6:=by
  have:=Int.lt_ediv_add_one_mul_self (size+c.G6 - 1) (show 0<c.G6 by omega)
  rw[←hrun,Int.add_mul,Int.one_mul]at this;omega
 have hr1:1≤run:=by
  rw[hrun];exact(Int.le_ediv_iff_mul_le (by omega)).2 (by omega)
 have q0:0≤a*c.G6:=Int.mul_nonneg (by omega) (by omega)
 have q1:a*c.G6+run*c.G6≤c.Ay*c.G6:=by
  rw[←Int.add_mul];exact Int.mul_le_mul_of_nonneg_right (by omega) (by omega)
 have hby:Ala c=c.Ay*c.G6:=by unfold Ala;rw[L.conf];rfl
 have htb:Aps c (Bc.mk (a*c.G6) size run)=true:=by
  unfold Aps;rw[decide_eq_true (show Axi c (Bc.mk (a*c.G6) size run) from⟨L.conf,by show 1≤size;omega,q0,by rw[hby];show a*c.G6+size≤_;omega⟩)]
  show(bif run==0 then _ else decide (size>c.G6)&&(run==Atk size c.G6&&(a*c.G6) % c.G6==0))=true
  rw[Agz (by omega),cond_false,decide_eq_true (by omega),←S.hr,Int.mul_emod_left];simp
 have hdv: ∀j,a*c.G6≤j->j<a*c.G6+size->a≤j / c.G6∧j / c.G6<a+run:=fun j h1 h2=>by
  refine⟨(Int.le_ediv_iff_mul_le (by omega)).2 h1,Int.ediv_lt_of_lt_mul (by omega) ?_⟩
  rw[Int.add_mul];omega
 have htc:Aq2 c (n.Ay++A5z a run) (Bc.mk (a*c.G6) size run)=true:=by
  unfold Aq2;rw[htb,Z30,Z1];intro j hj;rw[List.mem_range]at hj
  have e1:=hdv (a*c.G6) (Int.le_refl _) (by omega)
  have e2:=hdv (a*c.G6+size - 1) (by omega) (by omega)
  have hj:j<((a*c.G6+size - 1) / c.G6 - a*c.G6 / c.G6+1).toNat:=hj;refine List.contains_iff_mem.2 (Mh.2 (.inr (A50.2 ?_)))
  show a≤a*c.G6 / c.G6+(j:Int)∧a*c.G6 / c.G6+(j:Int)<a+run;omega
 have hmono: ∀x∈n.Ay,x∈n.Ay++A5z a run:=fun x h=>Mh.2 (.inl h)
 have hold: ∀o∈n.F4,∀j,o.fAt≤j->j<o.fAt+o.Ajk->a*c.G6≤j->j<a*c.G6+size->False:=fun o h j h1 h2 h3 h4=>S.new _ (A2u (Z1.1 T.inch o h) h1 h2) (hdv j h3 h4)
 have hd:=A2s.1 L.dist;refine⟨⟨L.conf,L.st,L.gen,L.up,L.first,L.next,L.prev,L.ep,L.ue,?_,?_,?_,L.ntag,L.tags,?_⟩,⟨?_,?_,?_⟩⟩
 ·refine A2s.2 ⟨Aip.2 ⟨hd.1,Bez _ _,fun x h1 h2=>S.new x h1 (A50.1 h2)⟩,fun x hx=> ?_⟩;rcases Mh.1 hx with h|h
  ·exact hd.2 x h
  ·have:=A50.1 h;omega
 ·have:=L.cur;unfold A4t at this ⊢
  show(bif n.Acv==0 then n.Sn==0 else(n.Ay++A5z a run).contains (An4 .i64 n.Acv 1)&&inB n.Sn 0 c.G6)=true
  cases e:n.Acv==0 with
  |true=>rw[e]at this;exact this
  |false=>
   rw[e,cond_false,Z4]at this;rw[cond_false,this.2,Bool.and_true];exact List.contains_iff_mem.2 (hmono _ (List.contains_iff_mem.1 this.1))
 ·show(n.F4++[_]).length≤12;simp;omega
 ·show(n.F4++[_]).all (Aps c)=true;rw[List.all_append,L.things,Gc,htb];rfl
 ·show(n.F4++[_]).all (Aq2 c (n.Ay++A5z a run))=true;rw[List.all_append,Gc,htc,Z4,Z1];exact⟨fun o h=>Bgq hmono (Z1.1 T.inch o h),rfl⟩
 ·exact A5y T.apart fun o h=>A2v fun j h1 h2 h3 h4=>hold o h j h1 h2 h3 h4
 ·have hlo:=T.loose;unfold Ap3 at hlo ⊢;rw[Bool.or_eq_true,Z4]at hlo ⊢;rcases hlo with h|⟨h,h'⟩
  ·exact .inl h
  ·by_cases e:n.Acv=0
   ·exact .inl (by show(n.Acv==0)=true;rw[e];rfl)
   ·refine .inr ⟨h,?_⟩
    show(n.F4++[_]).all (fun t=>Am4 t (Auk c n))=true;rw[List.all_append,h',Gc,Z30,Z4];refine⟨A2v fun j h1 h2 h3 h4=> ?_,rfl⟩;obtain⟨m1,m2,m3⟩:=A4m L hc e
    have h3:(n.Acv - 1)*c.G6+n.Sn≤j:=h3
    have h4:j<(n.Acv - 1)*c.G6+n.Sn+(c.G6 - n.Sn):=h4
    have:=A39 (a:=n.Acv - 1) (s:=c.G6) (j:=j) (by omega) (by omega) (by omega)
    exact S.new _ m1 (by rw[←this];exact hdv j h1 h2)
def A47 (al:Int):Bool:=al==1||(al==2||al==4)
theorem A28 (K:Nat)(al:Int):Arh K al=some (A47 al):=by
 unfold Arh A47;cases al==1<;>cases al==2<;>rfl
theorem Bc2{al:Int}(h:A47 al=true):al=1∨al=2∨al=4:=by
 unfold A47 at h
 rwa[Bool.or_eq_true,Bool.or_eq_true,beq_iff_eq,beq_iff_eq,beq_iff_eq]at h
theorem Be1 (K:Nat){b al:Int}(hb:0≤b∧b≤1000)(ha:A47 al=true): ∃off,Ax9 K b al=some off∧b≤off∧off≤2000:=by
 unfold Ax9;rw[Anm,Acu.2 ⟨by omega,by omega⟩,A28,ha]
 simp only[Z0,cond_true,Bool.not_true,cond_false]
 have e:An4 .i64 (An3 .i64 b al) 1=b+al - 1:=by
  have:=Bc2 ha;unfold An4 An3;rw[K0 (n:=b+al) (by omega) (by omega),K0 (by omega) (by omega)]
 rw[e]
 have key: ∀a:Int,1≤a->a≤4->An5 .i64 (Ali .i64 (b+a - 1) a) a=(b+a - 1) / a*a:=by
  intro a h1 h2
  have h3:(b+a - 1) / a≤b+a - 1:=Int.ediv_le_self _ (by omega)
  have h4:0≤(b+a - 1) / a:=Int.ediv_nonneg (by omega) (by omega)
  have h5:=Au0 (a:=(b+a - 1) / a) (b:=a) (m:=2000) (n:=4) h4 (by omega) (by omega) h2
  unfold Ali An5;rw[Int.tdiv_eq_ediv_of_nonneg (by omega),K0 (n:=(b+a - 1) / a) (by omega) (by omega),K0 (by omega) (by omega)]
 rcases Bc2 ha with h|h|h
 ·subst h;rw[if_pos (by decide),key 1 (by omega) (by omega)]
  exact⟨_,rfl,by omega,by omega⟩
 ·subst h;rw[if_pos (by decide),key 2 (by omega) (by omega)]
  exact⟨_,rfl,by omega,by omega⟩
 ·subst h;rw[if_pos (by decide),key 4 (by omega) (by omega)]
  exact⟨_,rfl,by omega,by omega⟩
section
variable {K:Nat} (hK:281474976710656≤K)
include hK
theorem A9s{c:D9}{n:As}(L:Ats c n)(W:Arm n)(hc:0≤n.Acv∧n.Acv≤1000)(size al:Int)(hs: -1000000≤size∧size≤1000000): ∃at_ b,Awj K c n size al=some (at_,b)∧(b=true-> ∃off,at_=(n.Acv - 1)*c.G6+off∧n.Acv≠0∧n.Sn≤off∧1≤size∧off+size≤c.G6):=by
 obtain⟨b1,b2,_⟩:=Gx L.conf
 have h1:=Asc L.conf L.dist
 have h3:=L.nth
 have h4:=L.ntag;unfold Awj;rw[Avn hK c n (by omega) (by omega) (by omega),(Aik.2 L).1]
 simp only[Z0,cond_true]
 by_cases q:n.Acv=0
 ·rw[q];exact⟨_,_,rfl,fun h=>by cases h⟩
 ·rw[Agz q,Anm];simp only[cond_false,Z0]
  by_cases q2:1≤size∧size≤c.G6
  ·rw[Acu.2 q2,A28];simp only[cond_true,Z0];cases ha:A47 al with
   |false=>exact⟨_,_,rfl,fun h=>by cases h⟩
   |true=>
    obtain⟨m1,m2,m3⟩:=A4m L hc q
    have hm:=Atz L.dist _ m1;obtain⟨off,eo,ho1,ho2⟩:=Be1 K (b:=n.Sn) ⟨m2,by omega⟩ ha
    simp only[Bool.not_true,cond_false];rw[eo,Z0]
    have e1:An3 .i64 off size=off+size:=by unfold An3;exact K0 (by omega) (by omega)
    have e2:An4 .i64 n.Acv 1=n.Acv - 1:=sb1 (by omega) (by omega)
    have h5:=Au0 (a:=n.Acv - 1) (b:=c.G6) (m:=12) (n:=16) (by omega) (by omega) (by omega) b2.2
    have e3:An5 .i64 (n.Acv - 1) c.G6=(n.Acv - 1)*c.G6:=by unfold An5;exact K0 (by omega) (by omega)
    have e4:An3 .i64 ((n.Acv - 1)*c.G6) off=(n.Acv - 1)*c.G6+off:=by unfold An3;exact K0 (by omega) (by omega)
    rw[e1,e2,e3,e4]
    by_cases q3:off+size>c.G6
    ·rw[decide_eq_true q3];exact⟨_,_,rfl,fun h=>by cases h⟩
    ·rw[decide_eq_false q3];exact⟨_,_,rfl,fun _=>⟨off,rfl,q,ho1,q2.1,by omega⟩⟩
  ·rw[Bab.2 q2];exact⟨_,_,rfl,fun h=>by cases h⟩
theorem A63{c:D9}{n:As}(L:Ats c n)(W:Arm n)(hc:0≤n.Acv∧n.Acv≤1000)(size al:Int)(hs: -1000000≤size∧size≤1000000): ∃n' b,At5 K c n size al=some (n',b)∧(n'=n∨ ∃off,Bns c n off size∧n'=A8h c n off size):=by
 have hm:=V1;obtain⟨b1,b2,_⟩:=Gx L.conf
 have h3:=L.nth;obtain⟨at_,b,e,hb⟩:=A9s hK L W hc size al hs;unfold At5;rw[Atr K W,Z0,e,Z0];cases b with
 |false=>exact⟨_,_,rfl,.inl rfl⟩
 |true=>
  obtain⟨off,e1,h1,h2,h4,h5⟩:=hb rfl;obtain⟨m1,m2,m3⟩:=A4m L hc h1
  have hmi:=Atz L.dist _ m1;simp only[cond_true]
  by_cases q:(n.F4.length:Int)≥12
  ·rw[decide_eq_true q];exact⟨_,_,rfl,.inl rfl⟩
  ·rw[decide_eq_false q];simp only[cond_false];rw[if_pos ⟨by simp;omega,by simp;omega⟩]
   refine⟨_,_,rfl,.inr ⟨off,⟨h1,h2,h4,h5,by omega⟩,?_⟩⟩
   have e2:An4 .i64 n.Acv 1=n.Acv - 1:=sb1 (by omega) (by omega)
   have h6:=Au0 (a:=n.Acv - 1) (b:=c.G6) (m:=12) (n:=16) (by omega) (by omega) (by omega) b2.2
   have e3:An5 .i64 (n.Acv - 1) c.G6=(n.Acv - 1)*c.G6:=by unfold An5;exact K0 (by omega) (by omega)
   have e4:An4 .i64 at_ ((n.Acv - 1)*c.G6)=off:=by unfold An4;rw[e1,K0 (by omega) (by omega)];omega
   have e5:An3 .i64 off size=off+size:=by unfold An3;exact K0 (by omega) (by omega)
   rw[e2,e3,e4,e5,e1];rfl
theorem Bnt{c:D9}{n:As}(L:Ats c n)(W:Arm n)(hc:0≤n.Acv∧n.Acv≤1000)(size al:Int)(hs: -1000000≤size∧size≤1000000): ∃b,Aus K c n size al=some b:=by
 have h1:=Asc L.conf L.dist
 have h3:=L.nth
 have h4:=L.ntag;obtain⟨at_,b,e,hb⟩:=A9s hK L W hc size al hs;unfold Aus;rw[e,Avn hK c n (by omega) (by omega) (by omega),(Aik.2 L).1,Anm,A28,L.st]
 simp only[Z0];cases b<;>cases inB size 1 c.G6<;>exact⟨_,rfl⟩
theorem Bc3{c:D9}{mem:List Int}{n:As}(L:Ats c n)(W:Arm n)(hc:0≤n.Acv∧n.Acv≤1000)(T:ThP c mem n){a run size:Int}(S:Be0 c n a run size):Aqo K c n a size=some (A2c c n a run size,true):=by
 have hm:=V1;obtain⟨b1,b2,_⟩:=Gx L.conf
 have h1:=Asc L.conf L.dist
 have h3:=L.nth
 have h4:=L.ntag
 have hz:=S.hz;have ha:=S.at_;obtain⟨L2,T2⟩:=Bc1 L hc T S
 have hrun:run=(size+c.G6 - 1) / c.G6:=by
  rw[S.hr];unfold Atk;rw[Acu.2 ⟨by omega,by omega⟩,Acu.2 ⟨by omega,by omega⟩];rfl
 have hru:size≤run*c.G6:=by
  have:=Int.lt_ediv_add_one_mul_self (size+c.G6 - 1) (show 0<c.G6 by omega)
  rw[←hrun,Int.add_mul,Int.one_mul]at this;omega
 have hr1:1≤run:=by
  rw[hrun];exact(Int.le_ediv_iff_mul_le (by omega)).2 (by omega)
 have q1:run*c.G6≤c.Ay*c.G6:=Int.mul_le_mul_of_nonneg_right (by omega) (by omega)
 have hby:Ala c=c.Ay*c.G6:=by unfold Ala;rw[L.conf];rfl
 have e3:An5 .i64 a c.G6=a*c.G6:=by
  have h5:=Au0 (a:=a) (b:=c.G6) (m:=12) (n:=16) (by omega) (by omega) (by omega) b2.2
  unfold An5;exact K0 (by omega) (by omega)
 unfold Aqo Ao9 Al6;rw[Atr K W,Z0,Aq1,L.conf];simp only[Z0,cond_true];rw[show(n.Vg != 1)=false by rw[L.st];rfl,cond_false,decide_eq_true (by omega),cond_true,Atx,Z0,decide_eq_false (by omega),cond_false,Anm,Ay8 hK L.conf,Acu.2 ⟨by omega,by omega⟩]
 simp only[Z0,Bool.not_true,cond_false];rw[A0z,Z0,←S.hr,Z0]
 have key: ∀(f i:Nat) (v:List Int),(i:Int)≤run->run.toNat - i<f->v=n.Ay++(List.range i).map (fun(j:Nat)=>a+(j:Int))->Ana K c a size run f (i:Int) (As.mk n.Vg n.C8 n.Sj n.fUp n.Sk n.Ee n.Sl n.Sm v n.Acv n.Sn n.F4 n.Fh) (As.mk 0 0 0 0 0 0 0 0 [] 0 0 [] []) n.Vg n.C8 n.Sj n.fUp n.Sk n.Ee n.Sl n.Sm n.Ay n.Acv n.Sn n.F4 n.Fh=some (A2c c n a run size,true):=by
  intro f
  induction f with
  |zero=>intro i v _ h;omega
  |succ f ih=>
   intro i v hi hf hv
   have hvl:v.length=n.Ay.length+i:=by rw[hv];simp
   rw[Ana]
   by_cases h:(i:Int)=run
   ·rw[decide_eq_false (by omega),cond_false,e3]
    simp only;rw[if_pos ⟨by simp;omega,by simp;omega⟩]
    have el:As.mk n.Vg n.C8 n.Sj n.fUp n.Sk n.Ee n.Sl n.Sm v n.Acv n.Sn (n.F4++[Bc.mk (a*c.G6) size run]) n.Fh=A2c c n a run size:=by
     unfold A2c A5z;rw[hv,←h,Int.toNat_natCast]
    have hl2:=L2.nth
    have hl3:=Asc L2.conf L2.dist;rw[el,Avn hK c (A2c c n a run size) (by omega) (by omega) (show n.Fh.length≤_ by omega),(Aik.2 L2).1]
    rfl
   ·have e1:An3 .i64 a (i:Int)=a+(i:Int):=by unfold An3;exact K0 (by omega) (by omega)
    rw[decide_eq_true (by omega),cond_true,e1,Acx (by omega)]
    simp only;rw[if_pos ⟨by simp;omega,by simp;omega⟩]
    refine ih (i+1) _ (by omega) (by omega) ?_
    rw[hv,List.range_succ,Vs,Z31];rfl
 have:=key K 0 n.Ay (by omega) (by omega) (by simp)
 exact this
end
theorem A4b{w:C4}{E:Int}{n:Nat}(G:Dx w E n){k:Int}(hk:AlW w.fL k){p':Dm}{n':As}
  (P':A5s w.fC p') (hone: ∀c,0≤c∧c<w.fC.Ay->(gt p'.Vg c=2 ↔ gt w.fP.Vg c=2)∧(gt p'.Vg c=1∧gt p'.N6 c=k ↔ c∈n'.Ay)∧ ∀x,x≠k->(gt p'.Vg c=1∧gt p'.N6 c=x ↔ gt w.fP.Vg c=1∧gt w.fP.N6 c=x))
  (hm:p'.N5=w.fP.N5) (hlk:A3z n'=A3z (gt w.fL k)) (L:Ats w.fC n') (T:ThP w.fC w.fP.N5 n') (he:EpP E n') {m:Nat} (hwt:wtN w.fC n'≤wtN w.fC (gt w.fL k)+m):
  Dx (C4.mk w.fC p' (w.fL.set k.toNat n') w.fQ w.Acw) E (n+m)∧AlW (w.fL.set k.toNat n') k∧gt (w.fL.set k.toNat n') k=n':=by
 obtain⟨t,A,F⟩:=G.inv.forest
 have al:=hk.al A
 have hki:=al.lv.1
 have hst:=((Axo A).1 al.lv).2
 have hg: ∀x,0≤x∧x<(w.fL.length:Int)->gt (w.fL.set k.toNat n') x=if x=k then n' else gt w.fL x:=fun x hx=>Apv hki hx n'
 have hgk:gt (w.fL.set k.toNat n') k=n':=A02 hki n'
 have A':AtT (w.fL.set k.toNat n') t:=fun x hx=>by
  rw[Z49]at hx;rw[hg x hx,A x hx]
  by_cases e:x=k
  ·rw[if_pos e,e,hlk]
  ·rw[if_neg e]
 have I':Inv (C4.mk w.fC p' (w.fL.set k.toNat n') w.fQ w.Acw):=by
  refine Bgo G.inv hki p' _ t (by simp) (fun x hx hne=>⟨_,_,_,by rw[hg x hx,if_neg hne];exact(A8f _).symm,?_,?_,?_⟩) (by omega) (by rw[hgk];exact L) A' F P' hm (by rw[hgk];exact hone) (by rw[hgk];exact⟨T.inch,T.apart,T.loose⟩)
  ·rw[←G.inv.len];exact(G.inv.rg.rg x hx).2.1
  ·rw[←G.inv.len];exact(G.inv.rg.rg x hx).2.2.1
  ·rw[←G.inv.len];exact(G.inv.rg.rg x hx).2.2.2
 refine⟨⟨I',by show ∀x∈p'.N5,_;rw[hm];exact G.mem,fun x hx=> ?_,?_⟩,⟨t,A',by rw[Z49];exact al⟩,hgk⟩
 ·have hx:0≤x∧x<((w.fL.set k.toNat n').length:Int):=hx;rw[Z49]at hx
  show EpP E (gt (w.fL.set k.toNat n') x);rw[hg x hx];split
  ·exact he
  ·exact G.ep x hx
 ·have hs:=A33 (f:=wtN w.fC) (l:=w.fL) (l':=w.fL.set k.toNat n') (by simp) hki fun x hx hne=>by rw[hg x hx,if_neg hne]
  rw[hgk]at hs
  have h3:=G.wt;unfold wt pot at h3 ⊢;simp only at h3 ⊢;omega
theorem Dx.live{w:C4}{E:Int}{n:Nat}(G:Dx w E n){k:Int}(hk:AlW w.fL k):(0≤k∧k<(w.fL.length:Int))∧Ats w.fC (gt w.fL k)∧ThP w.fC w.fP.N5 (gt w.fL k)∧EpP E (gt w.fL k):=by
 obtain⟨t,A,F⟩:=G.inv.forest
 have al:=(hk.al A).lv;obtain⟨t1,t2,t3⟩:=G.inv.thing k al.1;exact⟨al.1,G.inv.live A al,⟨t1,t2,t3⟩,G.ep k al.1⟩
theorem A8i{w:C4}(I:Inv w){k:Int}(hk:0≤k∧k<(w.fL.length:Int)){ch:List Int}(h:ch=(gt w.fL k).Ay): ∀c,0≤c∧c<w.fC.Ay->(gt w.fP.Vg c=2 ↔ gt w.fP.Vg c=2)∧(gt w.fP.Vg c=1∧gt w.fP.N6 c=k ↔ c∈ch)∧ ∀x,x≠k->(gt w.fP.Vg c=1∧gt w.fP.N6 c=x ↔ gt w.fP.Vg c=1∧gt w.fP.N6 c=x):=fun c hc=>⟨Iff.rfl,by rw[h,I.own k hk c];exact⟨fun a=>⟨hc,a⟩,fun a=>a.2⟩,fun _ _=>Iff.rfl⟩
theorem A9t{w:C4}(I:Inv w){p':Dm}{a n k:Int}(hk:0≤k∧k<(w.fL.length:Int))(hf:A11 w.fP a n=true)(T:Bin w.fP p' a n k){ch:List Int}(h: ∀c,c∈ch ↔ c∈(gt w.fL k).Ay∨a≤c∧c<a+n):
  A5s w.fC p'∧ ∀c,0≤c∧c<w.fC.Ay->(gt p'.Vg c=2 ↔ gt w.fP.Vg c=2)∧(gt p'.Vg c=1∧gt p'.N6 c=k ↔ c∈ch)∧ ∀x,x≠k->(gt p'.Vg c=1∧gt p'.N6 c=x ↔ gt w.fP.Vg c=1∧gt w.fP.N6 c=x):=by
 obtain⟨a1,a2⟩:=A9r I hk hf T;exact⟨a1,fun c hc=>⟨(a2 c hc).1,by rw[h c];exact(a2 c hc).2.1,(a2 c hc).2.2⟩⟩
section
variable {K:Nat} (hK:281474976710656≤K)
include hK
theorem A9u{E:Int}{n:Nat}(hE:0≤E∧E≤900000000)(hn:n≤900000000){w:C4}(G:Dx w E n){k:Int}(hk:AlW w.fL k)(size al:Int)(hs: -1000000≤size∧size≤1000000)(v19:Es)(v20 v21 v22 v23 v24 v25 v26:Int)(v27:List Int)(v28 v29 v30:Int):
  ∃r w',Ar3 K k size al w.fC.Ay w.fC.G6 w.fC.E5 w.fC.Gs w.fC.E6 w.fC.G7 w.fP.N5 w.fP.Vg w.fP.N6 w.fL w.fQ w.Acw v19 v20 v21 v22 v23 v24 v25 v26 v27 v28 v29 v30=some (r,w')∧Dx w' E n∧w'.fC=w.fC∧w'.fL.length=w.fL.length:=by
 obtain⟨hki,L,T,e⟩:=G.live hk
 have W:=A27 (Aik.2 L).1 e (by omega)
 obtain⟨n',b,e1,h⟩:=A63 hK L W e.cur size al hs;unfold Ar3;simp only[if_pos hki];rw[show D9.mk w.fC.Ay w.fC.G6 w.fC.E5 w.fC.Gs w.fC.E6 w.fC.G7=w.fC from rfl,e1,Z0]
 have P:=Ail.1 G.inv.pool;refine⟨_,_,rfl,?_,rfl,by simp⟩
 rcases h with h|⟨off,S,h⟩
 ·rw[h];exact(A4b G hk (n':=gt w.fL k) (m:=0) P (A8i G.inv hki rfl) rfl rfl L T e (by omega)).1
 ·rw[h];obtain⟨L2,T2⟩:=Bc0 L e.cur T S;exact(A4b G hk (n':=A8h w.fC (gt w.fL k) off size) (m:=0) P (A8i G.inv hki rfl) rfl rfl L2 T2 ⟨e.ep,e.ue,e.cur⟩ (Z9 _)).1
theorem Bnu{E:Int}{n:Nat}(hE:0≤E∧E≤900000000)(hn:n≤880000000){w:C4}(G:Dx w E n){k:Int}(hk:AlW w.fL k)(size al:Int)(hs: -1000000≤size∧size≤1000000)(a4:Es):
  ∃r w',Awz K w k size al a4=some (r,w')∧Dx w' E (n+16)∧w'.fC=w.fC∧w'.fL.length=w.fL.length:=by
 obtain⟨hki,L,T,e⟩:=G.live hk
 have W:=A27 (Aik.2 L).1 e (by omega)
 have WW:=G.ww (by omega) (by omega)
 have hlen:=G.inv.len;obtain⟨b1,b2,b3,b4,b5,b6⟩:=Gx G.inv.conf;obtain⟨nb,e1⟩:=Bnt hK L W e.cur size al hs;unfold Awz;simp only[if_pos hki];rw[e1,Z0];cases nb with
 |false=>
  simp only[cond_false];obtain⟨r,w',h1,h2,h3⟩:=A9u hK hE (by omega) G hk size al hs (Es.mk 0 (Am.mk 0 0) (Bq.mk (Am.mk 0 0) 0 0) [] 0 0 0) a4.Wz a4.fH.Bk a4.fH.C8 a4.fR.fH.Bk a4.fR.fH.C8 a4.fR.Sj a4.fR.fNo a4.fB a4.W3 a4.Gs a4.N7
  exact⟨r,w',h1,Dx.le h2 (Int.le_refl E) (by omega),h3⟩
 |true=>
  simp only[cond_true];obtain⟨fb,ef⟩:=A35 hK WW (by omega) 1
  rw[ef,Z0];cases fb with
  |false=>exact⟨_,_,rfl,Dx.le G (Int.le_refl E) (by omega),rfl,rfl⟩
  |true=>
   simp only[Bool.not_true,cond_false];obtain⟨d,w1,ed,S⟩:=Bex hK (by omega:0≤E∧E≤1000000000) (by omega) 0 (run:=1) (by omega) G
   have G1:=S.good;obtain⟨hk1,⟨x1,x2,x3,hnode⟩,_⟩:=S.stay.node k hk;obtain⟨hki1,L1,T1,e1⟩:=G1.live hk1
   have W1:=A27 (Aik.2 L1).1 e1 (by omega)
   have WW1:=G1.ww (by omega) (by omega)
   have P1:=Ail.1 G1.inv.pool
   have hst:=P1.st
   have how:=P1.own
   have hc1:=S.stay.conf;obtain⟨ch,ec,hch⟩:=A5w hK (p:=w1.fP) (by rw[hc1]at hst;omega)
   rw[ed,Z0];simp only;rw[ec,Z0]
   by_cases q:ch<0
   ·rw[decide_eq_true q];exact⟨_,_,rfl,Dx.le G1 (Int.le_refl E) (by omega),hc1,S.stay.len⟩
   ·rw[decide_eq_false q];simp only[cond_false]
    have hf:=hch.resolve_left (by omega)
    obtain⟨f1,f2,f3,f4⟩:=Ax0.1 hf;obtain⟨p',ep,T'⟩:=A45 hK WW1.p (by rw[hc1]at hst;omega) (by omega) (k:=k) hf
    have hnew:ch ∉ (gt w1.fL k).Ay:=fun h=>by
     have:=((G1.inv.own k hki1 ch).1 h).2.1;rw[f4 ch ⟨by omega,by omega⟩]at this
     cases this
    rw[ep,Z0];simp only[if_pos hki1];rw[A6h hK L1 W1 ⟨f1,by omega⟩ hnew,Z0]
    simp only[if_pos hki1];obtain⟨P',hone⟩:=A9t G1.inv hki1 hf T' (ch:=(A37 (gt w1.fL k) ch).Ay) fun c=>by
     show c∈(gt w1.fL k).Ay++[ch] ↔ _;rw[Mh,Px];exact or_congr_right (by omega)
    have T2:ThP w1.fC w1.fP.N5 (A37 (gt w1.fL k) ch):=by
     refine⟨?_,T1.apart,?_⟩
     ·rw[Z1];exact fun o ho=>Bgq (fun x hx=>Mh.2 (.inl hx)) (Z1.1 T1.inch o ho)
     ·refine A62 rfl rfl ((P1.one ch ⟨f1,by omega⟩).2.2.2 (f4 ch ⟨by omega,by omega⟩)) ?_
      rw[Z1];intro o ho;refine A2v fun j h1 h2 h3 h4=> ?_
      have h3:(ch+1 - 1)*w1.fC.G6+0≤j:=h3
      have h4:j<(ch+1 - 1)*w1.fC.G6+0+(w1.fC.G6 - 0):=h4;rw[Int.add_sub_cancel]at h3 h4
      have:=A39 (a:=ch) (s:=w1.fC.G6) (j:=j) (by rw[hc1];omega) (by omega) (by omega)
      have h5:=A2u (Z1.1 T1.inch o ho) h1 h2;rw[this]at h5;exact hnew h5
    obtain⟨G2,hk2,hg2⟩:=A4b G1 hk1 (n':=A37 (gt w1.fL k) ch) (m:=16) P' hone T'.mem rfl (A6g L1 ⟨f1,by omega⟩ hnew) T2 ⟨e1.ep,e1.ue,⟨by show 0≤ch+1;omega,by show ch+1≤_;rw[hc1]at hst;omega⟩⟩ (by
     have hz:w1.fC.G6.toNat≤16:=by rw[hc1];omega
     have hst1:(A37 (gt w1.fL k) ch).Vg=1:=L1.st;unfold wtN;rw[if_pos L1.st,if_pos hst1]
     show 2+(gt w1.fL k).Fh.length+w1.fC.G6.toNat*((gt w1.fL k).Ay++[ch]).length≤_;rw[Z23,List.length_singleton,Nat.mul_succ];omega)
    obtain⟨r,w',h1,h2,h3,h4⟩:=A9u hK hE (n:=n+16) (by omega) G2 hk2 size al hs (Es.mk 0 (Am.mk 0 0) (Bq.mk (Am.mk 0 0) 0 0) [] 0 0 0) a4.Wz a4.fH.Bk a4.fH.C8 a4.fR.fH.Bk a4.fR.fH.C8 a4.fR.Sj a4.fR.fNo a4.fB a4.W3 a4.Gs d
    refine⟨r,w',h1,h2,h3.trans hc1,h4.trans ?_⟩
    show(w1.fL.set _ _).length=_;rw[Z49];exact S.stay.len
theorem Bnv{E:Int}{n:Nat}(hE:0≤E∧E≤900000000)(hn:n≤900000000){w:C4}(G:Dx w E n){k:Int}(hk:AlW w.fL k)(size:Int)(hs:w.fC.G6<size∧size≤200)(hcnt:(gt w.fL k).F4.length<12)(a4:Es):
  ∃r w',Awy K w k size a4=some (r,w')∧Dx w' E (n+192)∧w'.fC=w.fC∧w'.fL.length=w.fL.length:=by
 have WW:=G.ww (by omega) (by omega)
 have hlen:=G.inv.len;obtain⟨b1,b2,b3,b4,b5,b6⟩:=Gx G.inv.conf;unfold Awy Al6;rw[A0z,Z0,Z0];obtain⟨fb,ef⟩:=A35 hK WW (by omega) (Atk size w.fC.G6)
 have hrun:Atk size w.fC.G6=(size+w.fC.G6 - 1) / w.fC.G6:=by
  unfold Atk;rw[Acu.2 ⟨by omega,by omega⟩,Acu.2 ⟨by omega,by omega⟩];rfl
 have hr2:Atk size w.fC.G6≤1000:=by
  have:(size+w.fC.G6 - 1) / w.fC.G6≤size+w.fC.G6 - 1:=Int.ediv_le_self _ (by omega)
  omega
 have hr1:1≤Atk size w.fC.G6:=by
  rw[hrun];exact(Int.le_ediv_iff_mul_le (by omega)).2 (by omega)
 rw[ef,Z0];cases fb with
 |false=>exact⟨_,_,rfl,Dx.le G (Int.le_refl E) (by omega),rfl,rfl⟩
 |true=>
  simp only[Bool.not_true,cond_false];obtain⟨d,w1,ed,S⟩:=Bex hK (by omega:0≤E∧E≤1000000000) (by omega) 0 (run:=Atk size w.fC.G6) (by omega) G
  have G1:=S.good;obtain⟨hk1,⟨x1,x2,x3,hnode⟩,_⟩:=S.stay.node k hk;obtain⟨hki1,L1,T1,e1⟩:=G1.live hk1
  have W1:=A27 (Aik.2 L1).1 e1 (by omega)
  have WW1:=G1.ww (by omega) (by omega)
  have P1:=Ail.1 G1.inv.pool
  have hst:=P1.st
  have how:=P1.own
  have hc1:=S.stay.conf;rw[hc1]at hst how;obtain⟨at_,ec,hat⟩:=A61 hK (p:=w1.fP) (n:=Atk size w.fC.G6) (by omega) (by omega)
  rw[ed,Z0];simp only;rw[ec,Z0]
  by_cases q:at_<0
  ·rw[decide_eq_true q];exact⟨_,_,rfl,Dx.le G1 (Int.le_refl E) (by omega),hc1,S.stay.len⟩
  ·rw[decide_eq_false q];simp only[cond_false]
   have hf:=hat.resolve_left (by omega)
   obtain⟨f1,f2,f3,f4⟩:=Ax0.1 hf;obtain⟨p',ep,T'⟩:=A45 hK WW1.p (by omega) (by omega) (k:=k) hf
   have SP:Be0 w1.fC (gt w1.fL k) at_ (Atk size w.fC.G6) size:=by
    refine⟨by rw[hc1];exact hs,by rw[hc1],by rw[hc1];omega,fun x hx h=> ?_,by rw[hnode];exact hcnt⟩
    have:=((G1.inv.own k hki1 x).1 hx).2.1;rw[f4 x h]at this;cases this
   obtain⟨L2,T2⟩:=Bc1 L1 e1.cur T1 SP;rw[ep,Z0];simp only[if_pos hki1];rw[Bc3 hK L1 W1 e1.cur T1 SP,Z0]
   try simp only[if_pos hki1]
   obtain⟨P',hone⟩:=A9t G1.inv hki1 hf T' (ch:=(A2c w1.fC (gt w1.fL k) at_ (Atk size w.fC.G6) size).Ay) fun c=>by
    show c∈(gt w1.fL k).Ay++A5z at_ (Atk size w.fC.G6) ↔ _;rw[Mh,A50]
   obtain⟨G2,hk2,hg2⟩:=A4b G1 hk1 (n':=A2c w1.fC (gt w1.fL k) at_ (Atk size w.fC.G6) size) (m:=192) P' hone T'.mem rfl L2 T2 ⟨e1.ep,e1.ue,e1.cur⟩ (by
    have hst1:(A2c w1.fC (gt w1.fL k) at_ (Atk size w.fC.G6) size).Vg=1:=L1.st;unfold wtN;rw[if_pos L1.st,if_pos hst1]
    show 2+(gt w1.fL k).Fh.length+w1.fC.G6.toNat*((gt w1.fL k).Ay++A5z at_ (Atk size w.fC.G6)).length≤_
    have hrl:(A5z at_ (Atk size w.fC.G6)).length≤12:=by unfold A5z;simp;omega
    have:=Nat.mul_le_mul (show w1.fC.G6.toNat≤16 by rw[hc1];omega) hrl
    rw[Z23,Nat.mul_add];omega)
   refine⟨_,_,rfl,G2,hc1,?_⟩
   show(w1.fL.set _ _).length=_;rw[Z49];exact S.stay.len
theorem A9v{E:Int}{n:Nat}(hE:0≤E∧E≤900000000)(hn:n≤900000000){w:C4}(G:Dx w E n){k:Int}(hk:0≤k∧k<(w.fL.length:Int))(h:Am)(c a b d e f g:Int)(l:List Int)(x y z:Int):
  ∃r w',Ar4 K h k w.fC.Ay w.fC.G6 w.fC.E5 w.fC.Gs w.fC.E6 w.fC.G7 w.fP.N5 w.fP.Vg w.fP.N6 w.fL w.fQ w.Acw c a b d e f g l x y z=some (r,w')∧Dx w' E n∧w'.fC=w.fC:=by
 unfold Ar4;rw[show C4.mk (D9.mk w.fC.Ay w.fC.G6 w.fC.E5 w.fC.Gs w.fC.E6 w.fC.G7) (Dm.mk w.fP.N5 w.fP.Vg w.fP.N6) w.fL w.fQ w.Acw=w from rfl]
 cases c != 0 with
 |true=>exact⟨_,_,rfl,G,rfl⟩
 |false=>
  simp only[cond_false];obtain⟨t,w2,es,S2⟩:=A7g hK (E:=E) (n:=n) (by omega) (by omega) w.fC.Gs G
  simp only[if_pos hk,es,Z0];exact⟨_,_,rfl,S2.good,S2.stay.conf⟩
theorem A6i{E:Int}{n:Nat}(hE:0≤E∧E≤900000000)(hn:n≤800000000){w:C4}(G:Dx w E n)(h:Am){size al:Int}(hs:1≤size∧size≤200){k:Int}(a b:Es)(hk:a.Wz=0->AlW w.fL k∧(gt w.fL k).F4.length<12):
  ∃r w',Aqd K h size al k w.fC.Ay w.fC.G6 w.fC.E5 w.fC.Gs w.fC.E6 w.fC.G7 w.fP.N5 w.fP.Vg w.fP.N6 w.fL w.fQ w.Acw a b=some (r,w')∧Dx w' E (n+192)∧w'.fC=w.fC:=by
 unfold Aqd Ao9;rw[show C4.mk (D9.mk w.fC.Ay w.fC.G6 w.fC.E5 w.fC.Gs w.fC.E6 w.fC.G7) (Dm.mk w.fP.N5 w.fP.Vg w.fP.N6) w.fL w.fQ w.Acw=w from rfl,show D9.mk w.fC.Ay w.fC.G6 w.fC.E5 w.fC.Gs w.fC.E6 w.fC.G7=w.fC from rfl]
 by_cases h0:a.Wz=0
 ·obtain⟨hk,hcnt⟩:=hk h0
  have hki:=(G.live hk).1;rw[h0];simp only[bne_self_eq_false,cond_false,Z0]
  by_cases q:size>w.fC.G6
  ·rw[decide_eq_true q];simp only[cond_true];obtain⟨r,w',h1,h2,h3,h4⟩:=Bnv hK hE (by omega) G hk size ⟨q,hs.2⟩ hcnt a
   rw[h1,Z0];obtain⟨r2,w2,k1,k2,k3⟩:=A9v hK hE (n:=n+192) (by omega) h2 (k:=k) (by rw[h4];exact hki) h r.Wz r.fH.Bk r.fH.C8 r.fR.fH.Bk r.fR.fH.C8 r.fR.Sj r.fR.fNo r.fB r.W3 r.Gs r.N7
   exact⟨r2,w2,k1,k2,k3.trans h3⟩
  ·rw[decide_eq_false q];simp only[cond_false];obtain⟨r,w',h1,h2,h3,h4⟩:=Bnu hK hE (by omega) G hk size al (by omega) a
   rw[h1,Z0];obtain⟨r2,w2,k1,k2,k3⟩:=A9v hK hE (n:=n+16) (by omega) h2 (k:=k) (by rw[h4];exact hki) h r.Wz r.fH.Bk r.fH.C8 r.fR.fH.Bk r.fR.fH.C8 r.fR.Sj r.fR.fNo r.fB r.W3 r.Gs r.N7
   exact⟨r2,w2,k1,Dx.le k2 (Int.le_refl E) (by omega),k3.trans h3⟩
 ·rw[Aq0 h0];exact⟨_,_,rfl,Dx.le G (Int.le_refl E) (by omega),rfl⟩
theorem Bc4{E:Int}{n:Nat}(hE:0≤E∧E≤900000000)(hn:n≤800000000){w:C4}(G:Dx w E n)(h:Am)(size al:Int): ∃r w',Aw0 K w h size al=some (r,w')∧Dx w' E (n+192)∧w'.fC=w.fC:=by
 have W:=G.ww (by omega) (by omega)
 have G0:=Dx.le G (Int.le_refl E) (by omega:n≤n+192)
 unfold Aw0;rw[Anm,Z0]
 by_cases q:1≤size∧size≤200
 ·rw[Acu.2 q,A28];simp only[cond_true,Z0];cases A47 al with
  |false=>exact⟨_,_,rfl,G0,rfl⟩
  |true=>
   simp only[Bool.not_true,cond_false];rw[Asg hK W.l,Z0,Awa hK w W.l,Z0]
   by_cases h0:(Ans w.fL h).2=0
   ·have hal:=A4l G.inv h0
    have hki:=(G.live hal).1;rw[h0];simp only[beq_self_eq_true,cond_true];simp only[if_pos hki]
    by_cases q2:((gt w.fL (Ans w.fL h).1).F4.length:Int)≥12
    ·rw[decide_eq_true q2];exact A6i hK hE hn G h q (al:=al) (k:=(Ans w.fL h).1) (Es.mk 8 (Am.mk 0 0) (Bq.mk (Am.mk 0 0) 0 0) [] (A0d w h) 0 0) (Es.mk 0 (Am.mk 0 0) (Bq.mk (Am.mk 0 0) 0 0) [] 0 0 0) (fun f=>absurd (show(8:Int)=0 from f) (by decide))
    ·rw[decide_eq_false q2];exact A6i hK hE hn G h q (al:=al) (k:=(Ans w.fL h).1) (Es.mk 0 (Am.mk 0 0) (Bq.mk (Am.mk 0 0) 0 0) [] (A0d w h) 0 0) (Es.mk 0 (Am.mk 0 0) (Bq.mk (Am.mk 0 0) 0 0) [] 0 0 0) (fun f=>⟨hal,by omega⟩)
   ·rw[Agz h0];exact A6i hK hE hn G h q (al:=al) (k:=(Ans w.fL h).1) (Es.mk (Ans w.fL h).2 (Am.mk 0 0) (Bq.mk (Am.mk 0 0) 0 0) [] (A0d w h) 0 0) (Es.mk 0 (Am.mk 0 0) (Bq.mk (Am.mk 0 0) 0 0) [] 0 0 0) (fun f=>absurd f h0)
 ·rw[Bab.2 q];exact⟨_,_,rfl,G0,rfl⟩
end
def El (mem:List Int)(p:Int)(s:List Int):List Int:=mem.take p.toNat++s++mem.drop (p.toNat+s.length)
def A12 (mem:List Int)(t:Bc)(off:Int)(s:List Int):Bool:=decide ((0≤off∧(0:Int)≤(s.length:Int)∧off+(s.length:Int)≤t.Ajk)∧0≤An3 .i64 t.fAt off∧An3 .i64 t.fAt off+(s.length:Int)≤(mem.length:Int))
def A6j (mem:List Int)(t:Bc)(off:Int)(s:List Int):List Int×Bool:=bif A12 mem t off s then(El mem (An3 .i64 t.fAt off) s,true)else(mem,false)
theorem Ez{mem:List Int}{p:Int}{s:List Int}(h0:0≤p)(h1:p+(s.length:Int)≤(mem.length:Int)):(El mem p s).length=mem.length:=by
 unfold El;simp;omega
theorem Bnw{mem s:List Int}{p j:Nat}(hj:j<s.length)(hp:p+s.length≤mem.length):(mem.take p++s.take j++mem.drop (p+j)).set (p+j) s[j]=mem.take p++s.take (j+1)++mem.drop (p+(j+1)):=by
 have hl:(mem.take p++s.take j).length=p+j:=by simp;omega
 rw[List.set_append_right _ _ (by omega),hl,Nat.sub_self,Z47 (by omega:p+j<mem.length),List.set_cons_zero,←List.take_append_getElem hj]
 simp only[Z53,Z31,Z45,Z38]
section
variable {K:Nat} (hK:281474976710656≤K)
include hK
theorem Be2{mem s:List Int}(hm:mem.length≤140737488355327)(p:Int)(hs:s.length≤140737488355327):A0o K mem p s=some (bif decide (0≤p∧(0:Int)≤(s.length:Int)∧p+(s.length:Int)≤(mem.length:Int))then(El mem p s,true)else(mem,false)):=by
 have hx:=V1;unfold A0o;simp only[Z38];rw[if_pos ⟨by omega,by omega⟩,Bcm K hm,Z0,Wx]
 by_cases h:0≤p∧(0:Int)≤(s.length:Int)∧p+(s.length:Int)≤(mem.length:Int)
 ·rw[decide_eq_true h,cond_true,cond_true];obtain⟨q,rfl⟩: ∃q:Nat,p=q:=⟨p.toNat,by omega⟩
  have:=A7a hK s (by omega) (fun _=>true) (some (El mem (q:Int) s,true)) none (fun n j=>Ap9 K (q:Int) s n (mem.take q++s.take j++mem.drop (q+j)) (j:Int)) (fun n j hj=> ?_) (fun n=> ?_)
  ·rw[Z1.2 (fun _ _=>rfl)]at this;simpa using this
  ·have hl:(mem.take q++s.take j++mem.drop (q+j)).length=mem.length:=by simp;omega
   have e:An3 .i64 (q:Int) (j:Int)=((q+j:Nat):Int):=by unfold An3;rw[K0 (by omega) (by omega)];omega
   show Ap9 K (q:Int) s (n+1) _ _=_;rw[Ap9,Ad4 hj,cond_true,if_pos (Ahl hj),e,hl,if_pos ⟨by omega,by omega⟩,Acx (by omega),V2 hj,Int.toNat_natCast,Bnw hj (by omega)]
   rfl
  ·show Ap9 K (q:Int) s (n+1) _ _=_;rw[Ap9,Ad5 (Z9 _),cond_false,List.take_length];simp[El]
 ·rw[decide_eq_false h];rfl
theorem A3d{mem s:List Int}(hm:mem.length≤140737488355327)(hs:s.length≤140737488355327){t:Bc}(wt:ThingW t)(off:Int):Auv K mem t off s=some (A6j mem t off s):=by
 have hx:=V1;obtain⟨wl1,wl2⟩:=wt.2.1;unfold Auv Aye A6j A12;simp only[Z38];rw[if_pos ⟨by omega,by omega⟩,Be2 hK hm _ hs]
 simp only[Z0];rw[decide_eq_true (show(s.length:Int)≥0 by omega)]
 by_cases h1:(0:Int)≤off
 ·rw[decide_eq_true (show off≥0 from h1)]
  by_cases h3:off≤t.Ajk
  ·rw[decide_eq_true h3]
   have e:An4 .i64 t.Ajk off=t.Ajk - off:=by unfold An4;rw[K0 (by omega) (by omega)]
   rw[e]
   by_cases h4:(s.length:Int)≤t.Ajk - off
   ·rw[decide_eq_true h4];simp only[cond_true]
    by_cases h5:0≤An3 .i64 t.fAt off∧An3 .i64 t.fAt off+(s.length:Int)≤(mem.length:Int)
    ·rw[decide_eq_true (show 0≤An3 .i64 t.fAt off∧(0:Int)≤(s.length:Int)∧An3 .i64 t.fAt off+(s.length:Int)≤(mem.length:Int) from⟨h5.1,by omega,h5.2⟩),decide_eq_true (show(0≤off∧(0:Int)≤(s.length:Int)∧off+(s.length:Int)≤t.Ajk)∧0≤An3 .i64 t.fAt off∧An3 .i64 t.fAt off+(s.length:Int)≤(mem.length:Int) from⟨⟨h1,by omega,by omega⟩,h5⟩),decide_eq_true (show An3 .i64 t.fAt off≥0 from h5.1)]
     cases decide (t.fAt<0)<;>rfl
    ·rw[decide_eq_false (show ¬(0≤An3 .i64 t.fAt off∧(0:Int)≤(s.length:Int)∧An3 .i64 t.fAt off+(s.length:Int)≤(mem.length:Int))by omega),decide_eq_false (show ¬((0≤off∧(0:Int)≤(s.length:Int)∧off+(s.length:Int)≤t.Ajk)∧0≤An3 .i64 t.fAt off∧An3 .i64 t.fAt off+(s.length:Int)≤(mem.length:Int))by omega)]
     cases decide (t.fAt<0)<;>cases decide (An3 .i64 t.fAt off≥0)<;>rfl
   ·rw[decide_eq_false h4,decide_eq_false (show ¬((0≤off∧(0:Int)≤(s.length:Int)∧off+(s.length:Int)≤t.Ajk)∧0≤An3 .i64 t.fAt off∧An3 .i64 t.fAt off+(s.length:Int)≤(mem.length:Int))by omega)];rfl
  ·rw[decide_eq_false h3,decide_eq_false (show ¬((0≤off∧(0:Int)≤(s.length:Int)∧off+(s.length:Int)≤t.Ajk)∧0≤An3 .i64 t.fAt off∧An3 .i64 t.fAt off+(s.length:Int)≤(mem.length:Int))by omega)];rfl
 ·rw[decide_eq_false (show ¬off≥0 from h1),decide_eq_false (show ¬((0≤off∧(0:Int)≤(s.length:Int)∧off+(s.length:Int)≤t.Ajk)∧0≤An3 .i64 t.fAt off∧An3 .i64 t.fAt off+(s.length:Int)≤(mem.length:Int))by omega)];rfl
end
def By3 (n:As)(v:Int):As:=As.mk n.Vg n.C8 n.Sj n.fUp n.Sk n.Ee n.Sl n.Sm n.Ay n.Acv n.Sn n.F4 (n.Fh++([v]:List Int))
theorem Bqh (K:Nat)(r:Bq): ∃b,Avz K r=some b:=by
 unfold Avz;rw[A2a];simp only[Z0];cases Aul r.fH<;>cases decide (r.Sj≥0)<;>exact⟨_,rfl⟩
theorem Biq (K:Nat){n:As}(hn:Arm n)(r:Bq): ∃t b,As5 K n r=some (t,b)∧(b=true->t∈n.F4):=by
 have h2:=hn.things
 have hl:n.F4.length≤140737488355327:=by have:=h2.2;omega
 unfold As5;rw[Ayu K hl];simp only[Z0]
 by_cases hs:0≤r.fNo∧r.fNo<(n.F4.length:Int)
 ·rw[decide_eq_true hs,if_pos hs]
  have hm:gt n.F4 r.fNo∈n.F4:=Ahf hs.1 hs.2;cases n.Vg != 1<;>cases n.Sj != r.Sj<;>first|exact⟨_,_,rfl,fun _=>hm⟩|exact⟨_,_,rfl,fun h=>Bool.noConfusion h⟩
 ·rw[decide_eq_false hs];cases n.Vg != 1<;>cases n.Sj != r.Sj<;>exact⟨_,_,rfl,fun h=>by cases h⟩
theorem A64{K:Nat}(hK:281474976710656≤K){w:C4}(I:Inv w)(hw:Ad1 w.fL)(r:Bq): ∃k t c,Aow K w r=some (k,t,c)∧(c=0->AlW w.fL k∧t∈(gt w.fL k).F4):=by
 unfold Aow;obtain⟨b,h1⟩:=Bqh K r;rw[h1,Asg hK hw];simp only[Z0];cases b with
 |false=>exact⟨_,_,_,rfl,fun h=>by cases h⟩
 |true=>
  simp only[Bool.not_true,cond_false]
  by_cases h0:(Ans w.fL r.fH).2=0
  ·have hi:=A7u h0
   have hal:=A4l I h0;rw[if_pos hi,h0];obtain⟨q,b,h3,h4⟩:=Biq K (hw.1 _ (Ahf hi.1 hi.2)) r;rw[h3];simp only[Z0,bne_self_eq_false,cond_false];cases b with
   |false=>exact⟨_,_,_,rfl,fun h=>by cases h⟩
   |true=>exact⟨_,_,_,rfl,fun _=>⟨hal,h4 rfl⟩⟩
  ·rw[Aq0 h0];exact⟨_,_,_,rfl,fun h=>absurd h h0⟩
theorem Bgr{mem:List Int}{p:Int}{s:List Int}(h0:0≤p)(h1:p+(s.length:Int)≤(mem.length:Int)){j:Nat}(hj:j<mem.length)(h: ¬(p≤(j:Int)∧(j:Int)<p+(s.length:Int))):gt (El mem p s) (j:Int)=gt mem (j:Int):=by
 have hl:=Ez h0 h1;rw[V2 (by rw[hl];exact hj),V2 hj]
 unfold El
 by_cases q:(j:Int)<p
 ·rw[List.getElem_append_left (by simp;omega),List.getElem_append_left (by simp;omega),List.getElem_take]
 ·rw[List.getElem_append_right (by simp;omega),List.getElem_drop]
  congr 1
  simp;omega
theorem Bc5{mem:List Int}{p:Int}{s:List Int}(hm: ∀x∈mem,0≤x∧x≤255)(hs: ∀x∈s,0≤x∧x≤255): ∀x∈El mem p s,0≤x∧x≤255:=by
 intro x hx;unfold El at hx;rcases Mh.1 hx with h|h
 ·rcases Mh.1 h with h|h
  ·exact hm x (Z42 h)
  ·exact hs x h
 ·exact hm x (List.mem_of_mem_drop h)
theorem Bnx{w:C4}{E:Int}{n:Nat}(G:Dx w E n){k:Int}(hk:AlW w.fL k){t:Bc}(ht:t∈(gt w.fL k).F4){mem':List Int}(hl:mem'.length=w.fP.N5.length)
  (hb: ∀x∈mem',0≤x∧x≤255) (hs: ∀j:Nat,j<w.fP.N5.length-> ¬(t.fAt≤(j:Int)∧(j:Int)<t.fAt+t.Ajk)->gt mem' (j:Int)=gt w.fP.N5 (j:Int)):
  Dx (C4.mk w.fC (Dm.mk mem' w.fP.Vg w.fP.N6) w.fL w.fQ w.Acw) E n:=by
 have I:=G.inv
 have P:=Ail.1 I.pool;obtain⟨hki,L,T,e⟩:=G.live hk;obtain⟨b1,b2,b3,b4,b5,b6⟩:=Gx I.conf
 have hin: ∀j,t.fAt≤j->j<t.fAt+t.Ajk->j / w.fC.G6∈(gt w.fL k).Ay:=fun j h1 h2=>A2u (Z1.1 T.inch t ht) h1 h2
 have hz: ∀a m:Nat,Ao6 ((w.fP.N5.drop a).take m)=true->(∀j:Nat,a≤j->j<a+m-> ¬(t.fAt≤(j:Int)∧(j:Int)<t.fAt+t.Ajk))->Ao6 ((mem'.drop a).take m)=true:=by
  intro a m h hd;rw[A2r]at h ⊢;intro j h1 h2 h3;rw[hl]at h3;rw[hs j h3 (hd j h1 h2)];exact h j h1 h2 h3
 have hch: ∀c,0≤c∧c<w.fC.Ay->gt w.fP.Vg c≠1-> ∀j:Nat,(c*w.fC.G6).toNat≤j->j<(c*w.fC.G6).toNat+w.fC.G6.toNat-> ¬(t.fAt≤(j:Int)∧(j:Int)<t.fAt+t.Ajk):=by
  intro c hc hst j h1 h2 h3
  have h0:0≤c*w.fC.G6:=Int.mul_nonneg hc.1 (by omega)
  have h4:=hin j h3.1 h3.2;rw[A39 (a:=c) (by omega) (by omega) (by omega)]at h4
  exact hst ((I.own k hki c).1 h4).2.1
 refine⟨Bba I (Dm.mk mem' w.fP.Vg w.fP.N6) w.fQ w.Acw ⟨P.conf,by rw[←P.mem];show(mem'.length:Int)=_;rw[hl],P.st,P.own,fun c hc=> ?_⟩ (fun c hc=>⟨Iff.rfl,rfl⟩) (fun x hx=> ?_) rfl rfl (fun x hx=> ?_) I.chn I.chi I.log,hb,G.ep,G.wt⟩
 ·obtain⟨p1,p2,p3,p4⟩:=P.one c hc;refine⟨p1,p2,p3,fun h=>hz _ _ (p4 h) fun j h1 h2=>hch c hc ?_ j h1 h2⟩
  have h:gt w.fP.Vg c=0:=h;omega
 ·have h3:=(I.thing x hx).2.2
  by_cases hs1:(gt w.fL x).Vg=1
  ·have Lx:=Aik.1 ⟨I.node x hx,hs1⟩
   have ex:=G.ep x hx
   by_cases hcur:(gt w.fL x).Acv=0
   ·unfold Ap3;rw[hcur];rfl
   ·obtain⟨m1,m2,m3⟩:=A4m Lx ex.cur hcur
    have hm:=Atz Lx.dist _ m1
    have h0:0≤((gt w.fL x).Acv - 1)*w.fC.G6:=Int.mul_nonneg hm.1 (by omega)
    unfold Ap3 at h3 ⊢;rw[Agz hcur,Z52,Z4]at h3 ⊢;refine⟨hz _ _ h3.1 fun j h1 h2 h4=> ?_,h3.2⟩
    have h1:(((gt w.fL x).Acv - 1)*w.fC.G6+(gt w.fL x).Sn).toNat≤j:=h1
    have h2:j<(((gt w.fL x).Acv - 1)*w.fC.G6+(gt w.fL x).Sn).toNat+(w.fC.G6 - (gt w.fL x).Sn).toNat:=h2
    have h5:=hin j h4.1 h4.2;rw[A39 (a:=(gt w.fL x).Acv - 1) (by omega) (by omega) (by omega)]at h5
    have e1:=((I.own k hki _).1 h5).2.2
    have e2:=((I.own x hx _).1 m1).2.2
    have exk:x=k:=by omega
    rw[exk]at h3 h1 h2;refine A4a (Z1.1 h3.2 t ht) h4.1 h4.2 (b:=Auk w.fC (gt w.fL k)) ?_ ?_
    ·show((gt w.fL k).Acv - 1)*w.fC.G6+(gt w.fL k).Sn≤(j:Int);omega
    ·show(j:Int)<((gt w.fL k).Acv - 1)*w.fC.G6+(gt w.fL k).Sn+(w.fC.G6 - (gt w.fL k).Sn);rw[exk]at m2 m3 h0;omega
  ·rw[Axl (I.node x hx) hs1];rfl
 ·obtain⟨a,b⟩:=I.wrec x hx;refine⟨a,?_⟩
  have R:=Ay0.1 a
  by_cases hc:0<x.Ay.length
  ·have hm:gt x.Ay 0∈x.Ay:=Ani (i:=0) hc
   have h1:=(I.chi _).1 (Ba6 hx hm);unfold Am6 at b ⊢;rw[Bool.or_eq_true]at b ⊢;rcases b with b|b
   ·exact .inl b
   ·refine .inr (hz _ _ b fun j h2 h3=>hch _ h1.1 (by omega) j h2 ?_)
    have hd:=R.done
    have h3:j<(gt x.Ay 0*w.fC.G6).toNat+x.Wv.toNat:=h3;omega
  ·unfold Am6;rw[decide_eq_false (by omega)];rfl
section
variable {K:Nat} (hK:281474976710656≤K)
include hK
theorem Bqi{E:Int}{n:Nat}(hE:0≤E∧E≤900000000)(hn:n≤800000000){w:C4}(G:Dx w E n)(r:Bq)(off m:Int): ∃a,Ato K w r off m=some (w,a):=by
 have W:=G.ww (by omega) (by omega)
 have P:=A6e (Ail.1 G.inv.pool);obtain⟨k,t,c,e,h⟩:=A64 hK G.inv W.l r;unfold Ato;rw[At0 hK W,Av9 hK w W,G.inv.ok,e,Awa hK w W.l];simp only[Z0,Bool.not_true,cond_false]
 by_cases h0:c=0
 ·obtain⟨hk,ht⟩:=h h0
  have hT:=Ba9 (Z1.1 (G.live hk).2.1.things t ht);rw[h0];simp only[bne_self_eq_false,cond_false];rw[A3t K (by omega) hT,Z0]
  cases (Axy w.fP.N5 t off m).2<;>exact⟨_,rfl⟩
 ·rw[Aq0 h0];exact⟨_,rfl⟩
theorem Bny{E:Int}{n:Nat}(hE:0≤E∧E≤900000000)(hn:n≤800000000){w:C4}(G:Dx w E n)(r:Bq)(off:Int){s:List Int}(hs: ∀x∈s,0≤x∧x≤255)(hl:s.length≤1000000): ∃a w',Atv K w r off s=some (w',a)∧Dx w' E n∧w'.fC=w.fC:=by
 have W:=G.ww (by omega) (by omega)
 have P:=A6e (Ail.1 G.inv.pool);obtain⟨k,t,c,e,h⟩:=A64 hK G.inv W.l r;unfold Atv;rw[At0 hK W,Av9 hK w W,G.inv.ok,e,Awa hK w W.l];simp only[Z0,Bool.not_true,cond_false]
 by_cases h0:c=0
 ·obtain⟨hk,ht⟩:=h h0
  have htb:=Z1.1 (G.live hk).2.1.things t ht
  have hT:=Ba9 htb;obtain⟨s1,s2,s3,s4⟩:=(A1e htb).1;rw[h0];simp only[bne_self_eq_false,cond_false];rw[A3d hK (by omega) (by omega) hT,Z0]
  unfold A6j;cases ho:A12 w.fP.N5 t off s with
  |false=>exact⟨_,_,rfl,G,rfl⟩
  |true=>
   unfold A12 at ho;rw[decide_eq_true_iff]at ho
   have ea:An3 .i64 t.fAt off=t.fAt+off:=by unfold An3;exact K0 (by omega) (by omega)
   rw[ea]at ho ⊢;refine⟨_,_,rfl,Bnx G hk ht (Ez (by omega) (by omega)) (Bc5 G.mem hs) (fun j hj hne=>Bgr (by omega) (by omega) hj (by omega)),rfl⟩
 ·rw[Aq0 h0];exact⟨_,_,rfl,G,rfl⟩
theorem Bnz{E:Int}{n:Nat}(hE:0≤E∧E≤900000000)(hn:n≤800000000){w:C4}(G:Dx w E n)(h:Am)(v:Int): ∃a w',A2y K w h v=some (w',a)∧Dx w' E (n+1)∧w'.fC=w.fC:=by
 have hm:=V1
 have W:=G.ww (by omega) (by omega)
 have G0:=Dx.le G (Int.le_refl E) (by omega:n≤n+1)
 unfold A2y Ayf A0p;rw[At0 hK W,Av9 hK w W,G.inv.ok,Anm,Asg hK W.l,Awa hK w W.l];simp only[Z0,cond_true]
 by_cases hv:0≤v∧v≤255
 ·rw[Acu.2 hv];simp only[Bool.not_true,cond_false]
  by_cases h0:(Ans w.fL h).2=0
  ·have hal:=A4l G.inv h0;obtain⟨hki,L,T,e⟩:=G.live hal;rw[h0];simp only[beq_self_eq_true,cond_true,if_pos hki]
   by_cases q:((gt w.fL (Ans w.fL h).1).Fh.length:Int)≥6
   ·rw[decide_eq_true q];exact⟨_,_,rfl,G0,rfl⟩
   ·rw[decide_eq_false q];simp only[cond_false];rw[if_pos ⟨by simp;omega,by simp;omega⟩]
    refine⟨_,_,rfl,?_,rfl⟩
    have P:=Ail.1 G.inv.pool;refine(A4b G hal (n':=By3 (gt w.fL (Ans w.fL h).1) v) (m:=1) P (A8i G.inv hki rfl) rfl rfl ⟨L.conf,L.st,L.gen,L.up,L.first,L.next,L.prev,L.ep,L.ue,L.dist,L.cur,L.nth,?_,?_,L.things⟩ ⟨T.inch,T.apart,T.loose⟩ ⟨e.ep,e.ue,e.cur⟩ ?_).1
    ·show(_++[v]).length≤6;simp;omega
    ·show(_++[v]).all _=true;rw[List.all_append,L.tags,Gc,Acu.2 hv];rfl
    ·have hst1:(By3 (gt w.fL (Ans w.fL h).1) v).Vg=1:=L.st;unfold wtN;rw[if_pos L.st,if_pos hst1]
     show 2+(_++[v]).length+w.fC.G6.toNat*(gt w.fL (Ans w.fL h).1).Ay.length≤_;rw[Z23,List.length_singleton];omega
  ·rw[Agz h0];simp only[cond_false];exact⟨_,_,rfl,G0,rfl⟩
 ·rw[Bab.2 hv];exact⟨_,_,rfl,G0,rfl⟩
theorem Bn0{E:Int}{n:Nat}(hE:0≤E∧E≤900000000)(hn:n≤800000000){w:C4}(G:Dx w E n)(h:Am): ∃a,A0q K w h=some (w,a):=by
 have W:=G.ww (by omega) (by omega)
 unfold A0q Ayg;rw[At0 hK W,Av9 hK w W,G.inv.ok,Asg hK W.l,Awa hK w W.l];simp only[Z0,Bool.not_true,cond_false]
 by_cases h0:(Ans w.fL h).2=0
 ·have hal:=A4l G.inv h0;obtain⟨hki,L,T,e⟩:=G.live hal
  have hn:=W.l.1 _ (Ahf hki.1 hki.2);rw[h0];simp only[beq_self_eq_true,cond_true,if_pos hki];unfold A08;rw[Avn hK _ _ (A0c hK hn.chunks) (Bf7 hK hn.things) (A0c hK hn.tags)];simp only[Z0];cases (gt w.fL (Ans w.fL h).1).Acv==0<;>cases Aqg w.fC (gt w.fL (Ans w.fL h).1)<;>exact⟨_,rfl⟩
 ·rw[Agz h0];exact⟨_,rfl⟩
end
def Axp (a:List Int):Prop:= ∀x∈a,0≤x∧x≤255
theorem Be3{a b:List Int}(h:Axp a)(g:Axp b):Axp (a++b):=by
 intro x hx;rcases Mh.1 hx with h1|h1
 ·exact h x h1
 ·exact g x h1
def Ad7 (c:D0):Prop:=Axp c.fb∧c.fb.length≤1048576∧0≤c.fi∧c.fi≤(c.fb.length:Int)
theorem Bgs (x:Int):0≤An6 .i64 x 255∧An6 .i64 x 255≤255:=by
 unfold An6
 have e:(BitVec.ofInt IntKind.i64.bits x &&& BitVec.ofInt IntKind.i64.bits 255).toNat≤255:=by
  rw[BitVec.toNat_and];exact Vv Nat.and_le_right (by decide)
 rw[K0 (by omega) (by omega)]
 omega
theorem Be4 (K:Nat){a:List Int}(hb:Axp a)(ha:a.length≤1048576): ∀(n i:Nat) (v:Int),i≤a.length->a.length - i<n-> ∃c,Au1 K a n v (i:Int)=some c∧Ad7 c:=by
 intro n
 induction n with
 |zero=>intro i _ _ h;omega
 |succ n ih=>
  intro i v hi hn;rw[Au1]
  have done: ∀v,Ad7 (D0.mk a 0 v):=fun v=>⟨hb,ha,by show(0:Int)≤0;omega,by show(0:Int)≤_;omega⟩
  rcases Hl i a.length with h|h
  ·rw[Ad4 h];simp only[cond_true];cases decide ((i:Int)<4000)with
   |false=>exact⟨_,rfl,done _⟩
   |true=>
    simp only[cond_true];rw[if_pos ⟨by omega,by omega⟩,Acx (i:=i) (by omega)]
    exact ih (i+1) _ h (by omega)
  ·rw[Ad5 h];exact⟨_,rfl,done _⟩
theorem Bn1{K:Nat}(hK:281474976710656≤K){a:List Int}(hb:Axp a)(ha:a.length≤1048576): ∃c,A0g K a=some c∧Ad7 c:=by
 unfold A0g;exact Be4 K hb ha K 0 _ (Z21 _) (by omega)
theorem A4n (K:Nat){c:D0}(hc:Ad7 c): ∃r,Aqw K c=some r∧(0≤r.1∧r.1≤255)∧Ad7 r.2:=by
 obtain⟨h1,h2,h3,h4⟩:=hc;unfold Aqw Aws;rw[if_pos (by decide),if_pos (by decide)]
 by_cases h:c.fi<(c.fb.length:Int)
 ·rw[decide_eq_true h];simp only[cond_true];rw[if_pos ⟨h3,h⟩]
  have e:An3 .i64 c.fi 1=c.fi+1:=by unfold An3;rw[K0 (by omega) (by omega)]
  exact⟨_,rfl,Bgs _,h1,h2,by show(0:Int)≤An3 .i64 c.fi 1;omega,by show An3 .i64 c.fi 1≤(c.fb.length:Int);omega⟩
 ·rw[decide_eq_false h];exact⟨_,rfl,Bgs _,h1,h2,h3,h4⟩
theorem Agp (K:Nat){c:D0}(hc:Ad7 c){n:Int}(hn:0<n): ∃r,Ap K c n=some r∧(0≤r.1∧r.1<n)∧Ad7 r.2:=by
 unfold Ap;rw[decide_eq_false (show ¬n≤0 by omega)]
 simp only[cond_false];obtain⟨r1,e1,b1,w1⟩:=A4n K hc
 by_cases h:n≤256
 ·rw[decide_eq_true h,e1];simp only[cond_true,Z0];rw[if_pos (by omega)]
  exact⟨_,rfl,⟨Int.tmod_nonneg _ b1.1,Int.tmod_lt_of_pos _ hn⟩,w1⟩
 ·rw[decide_eq_false h,e1];simp only[cond_false,Z0];obtain⟨r2,e2,b2,w2⟩:=A4n K w1;rw[e2];simp only[Z0];obtain⟨r3,e3,b3,w3⟩:=A4n K w2;rw[e3];simp only[Z0];rw[if_pos (by omega)]
  refine⟨_,rfl,⟨Int.tmod_nonneg _ ?_,Int.tmod_lt_of_pos _ hn⟩,w3⟩;unfold An3 An5;rw[K0 (n:=r1.1*65536) (by omega) (by omega),K0 (n:=r2.1*256) (by omega) (by omega),K0 (n:=r1.1*65536+r2.1*256) (by omega) (by omega),K0 (by omega) (by omega)]
  omega
theorem Aqk (K:Nat){c:D0}(hc:Ad7 c){n:Int}(hn:0<n): ∃r,Agm K c n=some r∧Ad7 r.2:=by
 obtain⟨r,e,_,w⟩:=Agp K hc hn;unfold Agm;rw[e];exact⟨_,rfl,w⟩
theorem Az2 (K:Nat){c:D0}(hc:Ad7 c){l:List Int}(hl:0<l.length): ∃x c',P2 K c l=some (x,c',l)∧x∈l∧Ad7 c':=by
 obtain⟨r,e,b,w⟩:=Agp K hc (n:=(l.length:Int)) (by omega)
 unfold P2;rw[e];simp only[Z0];rw[if_pos b];exact⟨_,_,rfl,Ahf b.1 b.2,w⟩
theorem A65 (K:Nat){c:D0}(hc:Ad7 c)(n:Int): ∃r,Ap K c n=some r∧Ad7 r.2:=by
 by_cases h:0<n
 ·obtain⟨r,e,_,w⟩:=Agp K hc h;exact⟨r,e,w⟩
 ·unfold Ap;rw[decide_eq_true (show n≤0 by omega)]
  exact⟨_,rfl,hc⟩
theorem By4 (x:Int):0≤IntKind.u8.wrap x∧IntKind.u8.wrap x≤255:=by rw[IntKind.wrap_u8];omega
theorem A48{K:Nat}(hK:281474976710656≤K){c:D0}(hc:Ad7 c){n:Int}(h1:n≤1000): ∃b c',Au3 K c n=some (b,c')∧Axp b∧b.length≤1000∧Ad7 c':=by
 have hm:=V1
 have key: ∀(f i:Nat) (l:List Int) (c:D0),Ad7 c->Axp l->l.length=i->(i:Int)≤1000->(1000 - i)<f-> ∃b c',Asp K n f l (i:Int) c.fb c.fi c.fh=some (b,c')∧Axp b∧b.length≤1000∧Ad7 c':=by
  intro f
  induction f with
  |zero=>intro i _ _ _ _ _ _ h;omega
  |succ f ih=>
   intro i l c hc hl hi h2 hf;rw[Asp]
   by_cases q:(i:Int)<n
   ·obtain⟨r,e,_,w⟩:=A4n K hc;rw[decide_eq_true q,cond_true,show D0.mk c.fb c.fi c.fh=c from rfl,e,Z0,if_pos ⟨by simp;omega,by simp;omega⟩,Acx (by omega)]
    exact ih (i+1) _ r.2 w (Be3 hl fun x hx=>by rw[Px.1 hx];exact By4 _) (by simp[hi]) (by omega) (by omega)
   ·rw[decide_eq_false q];exact⟨_,_,rfl,hl,by omega,hc⟩
 exact key K 0 [] c hc (fun x hx=>by cases hx) rfl (by omega) (by omega)
def Aig (o:Cm):Prop:=Axp o.fB∧o.fB.length≤1000
theorem Aqa (k:Int)(h:Am)(r:Bq)(n m:Int):Aig (Cm.mk k h r n m []):=⟨(fun x hx=>by cases hx),Z21 _⟩
theorem A66 (K:Nat){c:D0}(hc:Ad7 c): ∃h c',At2 K c=some (h,c')∧Ad7 c':=by
 unfold At2;obtain⟨r,e,_,w⟩:=Agp K hc (n:=5) (by omega)
 obtain⟨q,e2,_,w2⟩:=Agp K w (n:=3) (by omega)
 rw[e,Z0,e2];exact⟨_,_,rfl,w2⟩
theorem A8j{K:Nat}(hK:281474976710656≤K){c:D0}(hc:Ad7 c)(k:Int)(b:Bool)(r:Bq)(h:Am){o:Cm}(ho:Aig o)(p:Cm): ∃o' c',Aq4 K k b c.fb c.fi c.fh r h o p=some (o',c')∧Aig o'∧Ad7 c':=by
 unfold Aq4
 have e0:D0.mk c.fb c.fi c.fh=c:=rfl;rw[e0];cases b with
 |true=>exact⟨_,_,rfl,⟨ho.1,ho.2⟩,hc⟩
 |false=>
  simp only[cond_false];cases k==2 with
  |true=>
   simp only[cond_true];obtain⟨x,c1,e1,_,w1⟩:=Az2 K hc (l:=[1,2,3,5,8,9,17,20,0,201]) (by simp)
   obtain⟨y,c2,e2,_,w2⟩:=Az2 K w1 (l:=[1,1,2,4,3]) (by simp)
   rw[e1,Z0,if_pos rfl,e2,Z0,if_pos rfl];exact⟨_,_,rfl,⟨ho.1,ho.2⟩,w2⟩
  |false=>
   simp only[cond_false];cases k==3 with
   |true=>
    simp only[cond_true];obtain⟨x,e1,_,w1⟩:=Agp K hc (n:=4) (by omega)
    obtain⟨y,e2,_,w2⟩:=Agp K w1 (n:=5) (by omega)
    rw[e1,Z0,e2,Z0];exact⟨_,_,rfl,⟨ho.1,ho.2⟩,w2⟩
   |false=>
    simp only[cond_false];cases k==4 with
    |true=>
     simp only[cond_true];obtain⟨x,e1,_,w1⟩:=Agp K hc (n:=4) (by omega)
     obtain⟨y,e2,b2,w2⟩:=Agp K w1 (n:=4) (by omega)
     obtain⟨z,c3,e3,b3,l3,w3⟩:=A48 hK w2 (n:=y.1) (by omega)
     rw[e1,Z0,e2,Z0,e3,Z0];exact⟨_,_,rfl,⟨b3,l3⟩,w3⟩
    |false=>
     simp only[cond_false];cases k==5 with
     |true=>
      simp only[cond_true];obtain⟨x,c1,e1,_,w1⟩:=Az2 K hc (l:=[1,7,255,256]) (by simp)
      rw[e1,Z0,if_pos rfl];exact⟨_,_,rfl,⟨ho.1,ho.2⟩,w1⟩
     |false=>exact⟨_,_,rfl,ho,hc⟩
theorem A8k{K:Nat}(hK:281474976710656≤K){c:D0}(hc:Ad7 c): ∃o c',Au4 K c=some (o,c')∧Aig o∧Ad7 c':=by
 unfold Au4;obtain⟨r1,e1,_,w1⟩:=Agp K hc (n:=9) (by omega)
 obtain⟨h2,c2,e2,w2⟩:=A66 K w1;obtain⟨r3,e3,_,w3⟩:=Agp K w2 (n:=2) (by omega)
 obtain⟨r4,e4,_,w4⟩:=Agp K w3 (n:=3) (by omega)
 rw[e1,Z0,e2,Z0,e3,Z0,e4,Z0];cases An3 .i64 1 r1.1==1 with
 |true=>
  simp only[cond_true];obtain⟨r5,e5,w5⟩:=Aqk K w4 (n:=2) (by omega)
  rw[e5,Z0];cases r5.1 with
  |true=>exact⟨_,_,rfl,Aqa _ _ _ _ _,w5⟩
  |false=>exact⟨_,_,rfl,Aqa _ _ _ _ _,w5⟩
 |false=>
  simp only[cond_false];cases An3 .i64 1 r1.1==6 with
  |true=>simp only[cond_true];exact A8j hK w4 _ _ _ _ (Aqa _ _ _ _ _) _
  |false=>
   simp only[cond_false];cases An3 .i64 1 r1.1==7 with
   |true=>simp only[cond_true];exact A8j hK w4 _ _ _ _ (Aqa _ _ _ _ _) _
   |false=>simp only[cond_false];exact A8j hK w4 _ _ _ _ (Aqa _ _ _ _ _) _
theorem A9w (K:Nat){c:D0}(hc:Ad7 c): ∃x c',Awc K c=some (x,c')∧Ahe x=true∧Ad7 c':=by
 unfold Awc;obtain⟨r1,e1,b1,w1⟩:=Agp K hc (n:=11) (by omega)
 obtain⟨x2,c2,e2,m2,w2⟩:=Az2 K w1 (l:=[8,8,9,12,16]) (by simp)
 obtain⟨r3,e3,b3,w3⟩:=Agp K w2 (n:=7) (by omega)
 obtain⟨r4,e4,b4,w4⟩:=Agp K w3 (n:=6) (by omega)
 obtain⟨x5,c5,e5,m5,w5⟩:=Az2 K w4 (l:=[1,3,4,8,16]) (by simp)
 obtain⟨r6,e6,b6,w6⟩:=Agp K w5 (n:=4) (by omega)
 rw[e1,Z0,e2,Z0,if_pos rfl,e3,Z0,e4,Z0,e5,Z0,if_pos rfl,e6];refine⟨_,_,rfl,?_,w6⟩
 have a1:An3 .i64 2 r1.1=2+r1.1:=by unfold An3;exact K0 (by omega) (by omega)
 have a3:An3 .i64 2 r3.1=2+r3.1:=by unfold An3;exact K0 (by omega) (by omega)
 have a4:An3 .i64 1 r4.1=1+r4.1:=by unfold An3;exact K0 (by omega) (by omega)
 have a6:An3 .i64 1 r6.1=1+r6.1:=by unfold An3;exact K0 (by omega) (by omega)
 rw[a1,a3,a4,a6]
 have m2:x2=8∨x2=8∨x2=9∨x2=12∨x2=16:=by simpa using m2
 have m5:x5=1∨x5=3∨x5=4∨x5=8∨x5=16:=by simpa using m5
 unfold Ahe;simp only[Z4,Acu];omega
theorem Be5{w:C4}{E:Int}{n:Nat}(G:Dx w E n)(hE:0≤E){k:Int}(hk:AlW w.fL k):Dx (Aze w k) E n:=by
 obtain⟨t,A,F⟩:=G.inv.forest
 have al:=hk.al A
 have I':=Bid G.inv A F al;obtain⟨hki,L,T,e⟩:=G.live hk
 have R:=G.inv.rg
 have hN:(Aze w k).fL.length=w.fL.length:=by unfold Aze;simp only;rw[Z49,A04]
 have hg: ∀x,0≤x∧x<(w.fL.length:Int)->gt (Aze w k).fL x=if x=k then Aqj 2 (gt (Aqi w.fL k) k).C8 else gt (Aqi w.fL k) x:=fun x hx=>by
  unfold Aze;simp only;rw[Apv (by rw[A04];exact hki) (by rw[A04];exact hx)];rfl
 refine⟨I',?_,fun x hx=> ?_,?_⟩
 ·show ∀x∈(Akw w.fP _).N5,_;rw[(A05 G.inv hki).2.1];exact G.mem
 ·rw[hN]at hx;rw[hg x hx]
  by_cases q:x=k
  ·rw[if_pos q];exact⟨hE,hE,⟨Int.le_refl 0,by show(0:Int)≤1000;omega⟩⟩
  ·rw[if_neg q,A30 R hki hx q]
   have:=G.ep x hx;exact⟨this.ep,this.ue,this.cur⟩
 ·have hs:=A33 (f:=wtN w.fC) hN hki fun x hx hne=>by rw[hg x hx,if_neg hne,A30 R hki hx hne];rfl
  rw[hg k hki,if_pos rfl,A34 _ (by decide)]at hs
  have e1:wtN w.fC (gt w.fL k)=2+(gt w.fL k).Fh.length+w.fC.G6.toNat*(gt w.fL k).Ay.length:=by unfold wtN;rw[if_pos L.st]
  have h3:=G.wt;unfold wt pot at h3 ⊢
  show((Aze w k).fL.map (wtN w.fC)).sum+((w.fQ++[Aiv (gt w.fL k) (An3 .i64 k 1)]).map (wtQ w.fC)).sum+w.Acw.length≤_
  have e2:wtQ w.fC (Aiv (gt w.fL k) (An3 .i64 k 1))=1+(gt w.fL k).Fh.length+w.fC.G6.toNat*(gt w.fL k).Ay.length:=rfl;rw[Vs,List.sum_append,Z8,Pz,List.sum_cons,List.sum_nil,e2];omega
theorem Be6{w:C4}{E:Int}{n:Nat}(G:Dx w E n)(hE:0≤E∧E≤900000000){k:Int}(hk:AlW w.fL k):Dx (A1m w k) (E+1) (n+1):=by
 obtain⟨t,A,F⟩:=G.inv.forest
 have al:=hk.al A;obtain⟨hki,L,T,e⟩:=G.live hk
 have h0:=L.ep
 have h1:=e.ep
 have I':=Bie G.inv A F al (by omega)
 have hN:(A1m w k).fL.length=w.fL.length:=by unfold A1m;simp only;rw[Z49]
 have hg: ∀x,0≤x∧x<(w.fL.length:Int)->gt (A1m w k).fL x=if x=k then Ayy (gt w.fL k)else gt w.fL x:=fun x hx=>Apv hki hx _
 refine⟨I',?_,fun x hx=> ?_,?_⟩
 ·show ∀x∈(Akw w.fP _).N5,_;rw[(A05 G.inv hki).2.1];exact G.mem
 ·rw[hN]at hx;rw[hg x hx]
  have hx':=G.ep x hx
  by_cases q:x=k
  ·rw[if_pos q];refine⟨?_,?_,⟨Int.le_refl 0,by show(0:Int)≤1000;omega⟩⟩
   ·show An3 .i64 (gt w.fL k).Sj 1≤_;rw[ad1 (by omega) (by omega)];omega
   ·have:=e.ue
    show(gt w.fL k).Sk≤_;omega
  ·rw[if_neg q]
   have h2:=hx'.ep;have h3:=hx'.ue;exact⟨by omega,by omega,hx'.cur⟩
 ·have hs:=A33 (f:=wtN w.fC) hN hki fun x hx hne=>by rw[hg x hx,if_neg hne]
  rw[hg k hki,if_pos rfl]at hs
  have e1:wtN w.fC (gt w.fL k)=2+(gt w.fL k).Fh.length+w.fC.G6.toNat*(gt w.fL k).Ay.length:=by unfold wtN;rw[if_pos L.st]
  have e0:wtN w.fC (Ayy (gt w.fL k))=2:=by
   have hst1:(Ayy (gt w.fL k)).Vg=1:=L.st;unfold wtN;rw[if_pos hst1];rfl
  have h3:=G.wt;unfold wt pot at h3 ⊢
  show((A1m w k).fL.map (wtN w.fC)).sum+((w.fQ++[Aiv (gt w.fL k) 0]).map (wtQ w.fC)).sum+w.Acw.length≤_
  have e2:wtQ w.fC (Aiv (gt w.fL k) 0)=1+(gt w.fL k).Fh.length+w.fC.G6.toNat*(gt w.fL k).Ay.length:=rfl;rw[Vs,List.sum_append,Z8,Pz,List.sum_cons,List.sum_nil,e2];omega
section
variable {K:Nat} (hK:281474976710656≤K)
include hK
theorem Bvy{E:Int}{n:Nat}(hE:0≤E∧E≤900000000)(hn:n≤800000000){w:C4}(G:Dx w E n){o:Cm}(ho:Aig o): ∃w' a,Azl K w o=some (w',a)∧Dx w' E (n+1)∧w'.fC=w.fC:=by
 have W:=G.ww (by omega) (by omega)
 have G0:=Dx.le G (Int.le_refl E) (by omega:n≤n+1)
 unfold Azl;cases o.Ww==3 with
 |true=>
  simp only[cond_true];obtain⟨a,e⟩:=Bqi hK hE hn G o.fR o.fN o.fM;rw[e];exact⟨_,_,rfl,G0,rfl⟩
 |false=>
  simp only[cond_false];cases o.Ww==4 with
  |true=>
   simp only[cond_true];obtain⟨a,w',e,g,c⟩:=Bny hK hE hn G o.fR o.fN (s:=o.fB) ho.1 (by have:=ho.2;omega)
   rw[e];exact⟨_,_,rfl,Dx.le g (Int.le_refl E) (by omega),c⟩
  |false=>
   simp only[cond_false];cases o.Ww==5 with
   |true=>
    simp only[cond_true];obtain⟨a,w',e,g,c⟩:=Bnz hK hE hn G o.fH o.fN;rw[e];exact⟨_,_,rfl,g,c⟩
   |false=>
    simp only[cond_false];cases o.Ww==8 with
    |true=>
     simp only[cond_true];obtain⟨a,e⟩:=Bn0 hK hE hn G o.fH;rw[e];exact⟨_,_,rfl,G0,rfl⟩
    |false=>
     simp only[cond_false];rw[At0 hK W];exact⟨_,_,rfl,G0,rfl⟩
theorem Bn2{E:Int}{n:Nat}(hE:0≤E∧E≤800000000)(hn:n≤700000000){w:C4}(G:Dx w E n)(b:Bool){o:Cm}(ho:Aig o)(z:Es):
  ∃a w',Ave K b w.fC.Ay w.fC.G6 w.fC.E5 w.fC.Gs w.fC.E6 w.fC.G7 w.fP.N5 w.fP.Vg w.fP.N6 w.fL w.fQ w.Acw z o.Ww o.fH.Bk o.fH.C8 o.fR.fH.Bk o.fR.fH.C8 o.fR.Sj o.fR.fNo o.fN o.fM o.fB=some (a,w')∧Dx w' (E+1) (n+1)∧w'.fC=w.fC:=by
 have W:=G.ww (by omega) (by omega)
 have hq:=Bp7 w
 have hwt:=G.wt
 have G0:=Dx.le G (by omega:E≤E+1) (by omega:n≤n+1)
 unfold Ave;rw[show C4.mk (D9.mk w.fC.Ay w.fC.G6 w.fC.E5 w.fC.Gs w.fC.E6 w.fC.G7) (Dm.mk w.fP.N5 w.fP.Vg w.fP.N6) w.fL w.fQ w.Acw=w from rfl]
 cases b with
 |true=>
  simp only[cond_true];rw[Asg hK W.l,Z0,Awa hK w W.l,Z0]
  by_cases h0:(Ans w.fL (Am.mk o.fH.Bk o.fH.C8)).2=0
  ·have hal:=A4l G.inv h0
   have hki:=(G.live hal).1;rw[h0];simp only[bne_self_eq_false,cond_false];cases o.Ww==6 with
   |true=>
    simp only[cond_true];rw[Bau hK w W (by omega) hki,Z0]
    exact⟨_,_,rfl,Be6 G (by omega) hal,rfl⟩
   |false=>
    simp only[cond_false];rw[Bep hK w W (by omega) hki,Z0]
    exact⟨_,_,rfl,Dx.le (Be5 G hE.1 hal) (by omega) (by omega),rfl⟩
  ·rw[Aq0 h0];exact⟨_,_,rfl,G0,rfl⟩
 |false=>
  simp only[cond_false];rw[show Cm.mk o.Ww (Am.mk o.fH.Bk o.fH.C8) (Bq.mk (Am.mk o.fR.fH.Bk o.fR.fH.C8) o.fR.Sj o.fR.fNo) o.fN o.fM o.fB=o from rfl]
  obtain⟨w',a,e,g,c⟩:=Bvy hK (by omega) (by omega) G ho
  rw[e];exact⟨_,_,rfl,Dx.le g (by omega) (Z9 _),c⟩
theorem By5{E:Int}{n:Nat}(hE:0≤E∧E≤800000000)(hn:n≤700000000){w:C4}(G:Dx w E n){o:Cm}(ho:Aig o): ∃a w',A0r K w o=some (a,w')∧Dx w' (E+1) (n+192)∧w'.fC=w.fC:=by
 unfold A0r;cases o.Ww==1 with
 |true=>
  simp only[cond_true];obtain⟨r,w',e,g,c⟩:=Bey hK (by omega) (by omega) G o.fH
  rw[e];exact⟨_,_,rfl,Dx.le g (by omega) (by omega),c⟩
 |false=>
  simp only[cond_false];cases o.Ww==2 with
  |true=>
   simp only[cond_true];obtain⟨r,w',e,g,c⟩:=Bc4 hK (by omega) (by omega) G o.fH o.fN o.fM
   rw[e];exact⟨_,_,rfl,Dx.le g (by omega) (by omega),c⟩
  |false=>
   simp only[cond_false];cases o.Ww==9 with
   |true=>
    simp only[cond_true];obtain⟨r,w',e,S⟩:=A7g hK (E:=E) (n:=n) (by omega) (by omega) 4000 G
    rw[e];exact⟨_,_,rfl,Dx.le S.good (by omega) (by omega),S.stay.conf⟩
   |false=>
    simp only[cond_false];cases o.Ww==6 with
    |true=>
     simp only[cond_true];obtain⟨r,w',e,g,c⟩:=Bn2 hK hE hn G true ho (Es.mk 0 (Am.mk 0 0) (Bq.mk (Am.mk 0 0) 0 0) [] 0 0 0);exact⟨_,_,e,Dx.le g (Int.le_refl _) (by omega),c⟩
    |false=>
     simp only[cond_false];obtain⟨r,w',e,g,c⟩:=Bn2 hK hE hn G (o.Ww==7) ho (Es.mk 0 (Am.mk 0 0) (Bq.mk (Am.mk 0 0) 0 0) [] 0 0 0);exact⟨_,_,e,Dx.le g (Int.le_refl _) (by omega),c⟩
end
theorem Bbf{α:Type}[Inhabited α]{n:Nat}(x:α){k:Int}(hk:0≤k∧k<(n:Int)):gt (List.replicate n x) k=x:=by
 obtain⟨j,rfl⟩: ∃j:Nat,k=j:=⟨k.toNat,by omega⟩
 rw[V2 (by simp;omega)]
 simp
theorem A8l{α:Type}(i:Nat)(x:α):List.replicate i x++[x]=List.replicate (i+1) x:=by rw[List.replicate_succ']
section
variable {K:Nat} (hK:281474976710656≤K)
include hK
def Bgt (c:D9):Dm:=Dm.mk (List.replicate (c.Ay*c.G6).toNat 0) (List.replicate c.Ay.toNat 0) (List.replicate c.Ay.toNat (-1))
theorem Be7{c:D9}(hc:Ahe c=true):Ax1 K c=some (Bgt c):=by
 have hm:=V1;obtain⟨b1,b2,b3,b4,b5,b6⟩:=Gx hc
 have hb:=Au0 (a:=c.Ay) (b:=c.G6) (m:=12) (n:=16) (by omega) b1.2 (by omega) b2.2
 have hby:Ala c=c.Ay*c.G6:=by unfold Ala;rw[hc];rfl
 unfold Ax1 A2x;rw[Aq1,hc,Z0,Bool.not_true,cond_false,Atx,Z0,hby,Anm,Acu.2 ⟨by omega,by omega⟩]
 simp only[Z0,Bool.not_true,cond_false];rw[if_pos ⟨by omega,by omega,by omega,by omega⟩,Z0]
 have key: ∀(f i:Nat),(i:Int)≤c.Ay->c.Ay.toNat - i<f->Asm K c f (i:Int) (Dm.mk (List.replicate (c.Ay*c.G6).toNat 0) (List.replicate i 0) (List.replicate i (-1))) (Dm.mk [] [] [])=some (Bgt c):=by
  intro f
  induction f with
  |zero=>intro i _ h;omega
  |succ f ih=>
   intro i hi hf;rw[Asm]
   by_cases q:(i:Int)=c.Ay
   ·rw[decide_eq_false (by omega)]
    unfold Bgt;rw[←q];rfl
   ·rw[decide_eq_true (by omega),cond_true,if_pos ⟨by simp;omega,by simp;omega⟩,if_pos ⟨by simp;omega,by simp;omega⟩,Acx (by omega)]
    simp only;rw[A8l,A8l];exact ih (i+1) (by omega) (by omega)
 exact key K 0 (by omega) (by omega)
theorem Bc6{c:D9}(hc:Ahe c=true):Az5 K c=some (List.replicate c.E5.toNat (Aqj 0 1)):=by
 have hm:=V1;obtain⟨b1,b2,b3,b4,b5,b6⟩:=Gx hc
 have key: ∀(f i:Nat),(i:Int)≤c.E5->c.E5.toNat - i<f->Ar0 K c f (List.replicate i (Aqj 0 1)) (i:Int)=some (List.replicate c.E5.toNat (Aqj 0 1)):=by
  intro f
  induction f with
  |zero=>intro i _ h;omega
  |succ f ih=>
   intro i hi hf;rw[Ar0]
   by_cases q:(i:Int)=c.E5
   ·rw[decide_eq_false (by omega),←q];rfl
   ·unfold Ak4;rw[decide_eq_true (by omega),cond_true,Aq1,hc]
    simp only[Z0,cond_true];rw[show As.mk 0 1 0 0 0 0 0 0 [] 0 0 [] []=Aqj 0 1 from rfl,if_pos ⟨by simp;omega,by simp;omega⟩,Acx (by omega),A8l]
    exact ih (i+1) (by omega) (by omega)
 exact key K 0 (by omega) (by omega)
def A2d (c:D9):C4:=C4.mk c (Bgt c) (List.replicate c.E5.toNat (Aqj 0 1)) [] []
theorem Bc7{c:D9}(hc:Ahe c=true):Awt K c=some (A2d c):=by
 unfold Awt;rw[Aq1,hc,Z0,Bool.not_true,cond_false,Be7 hK hc,Z0,Bc6 hK hc];rfl
end
def Bn3 (_:Int):Lk:=⟨false,false,0,0,0,0,0,0⟩
theorem A29{N x:Int}: ¬Lv N Bn3 x:=fun h=>by have:=h.2;cases this
theorem Bc8 (N:Int):Akm N Bn3 []:=by
 refine⟨⟨fun k h=>absurd h A29,fun k h=>absurd h A29,fun _ _ _ _=>⟨rfl,rfl,rfl,rfl⟩⟩,⟨fun _=>0,fun x h=>absurd h A29⟩,⟨fun _=>0,fun x h=>absurd h A29⟩,⟨List.nodup_nil,fun x=>⟨(fun h=>by cases h),fun h=>absurd h.1 A29⟩,(fun f h=>by cases h)⟩,trivial,fun x h=>absurd h A29,fun x h=>absurd h A29,(fun e h=>by cases h)⟩
theorem Bn4{c:D9}(hc:Ahe c=true):Dx (A2d c) 0 0:=by
 obtain⟨b1,b2,b3,b4,b5,b6⟩:=Gx hc
 have hb:=Au0 (a:=c.Ay) (b:=c.G6) (m:=12) (n:=16) (by omega) b1.2 (by omega) b2.2
 have hN:((A2d c).fL.length:Int)=c.E5:=by show((List.replicate _ _).length:Int)=_;rw[List.length_replicate];omega
 have hg: ∀k,0≤k∧k<((A2d c).fL.length:Int)->gt (A2d c).fL k=Aqj 0 1:=fun k hk=>Bbf _ (by rw[hN]at hk;omega)
 have hs: ∀k,0≤k∧k<c.Ay->gt (A2d c).fP.Vg k=0:=fun k hk=>Bbf _ (by omega)
 have ho: ∀k,0≤k∧k<c.Ay->gt (A2d c).fP.N6 k= -1:=fun k hk=>Bbf _ (by omega)
 have hz: ∀a m:Nat,Ao6 (((A2d c).fP.N5.drop a).take m)=true:=fun a m=>by
  rw[A2r];intro j _ _ h
  have h:j<(List.replicate (c.Ay*c.G6).toNat (0:Int)).length:=h;rw[List.length_replicate]at h;exact Bbf _ ⟨by omega,by omega⟩
 refine⟨⟨Ail.2 ⟨hc,?_,?_,?_,fun k hk=> ?_⟩,hN,fun k hk=> ?_,fun k hk x=> ?_,fun k hk=> ?_,⟨Bn3,(fun k hk=>by rw[hg k hk];rfl),Bc8 _⟩,(fun x h=>by cases h),List.nodup_nil,fun x=> ?_,List.nodup_nil,fun s=> ?_,rfl⟩,fun x hx=> ?_,fun k hk=> ?_,?_⟩
 ·show((List.replicate _ _).length:Int)=c.Ay*c.G6;rw[List.length_replicate];omega
 ·show((List.replicate _ _).length:Int)=c.Ay;rw[List.length_replicate];omega
 ·show((List.replicate _ _).length:Int)=c.Ay;rw[List.length_replicate];omega
 ·rw[hs k hk,ho k hk];exact⟨by omega,fun h=>by omega,fun _=>rfl,fun _=>hz _ _⟩
 ·rw[hg k hk];exact A4j hc (by omega) (by omega) (by show 1≤1∧1≤c.G7;omega)
 ·rw[hg k hk];constructor
  ·intro h;cases h
  ·rintro⟨a,b,_⟩;rw[hs x a]at b;cases b
 ·rw[hg k hk];exact⟨rfl,rfl,rfl⟩
 ·constructor
  ·intro h;cases h
  ·rintro⟨a,b⟩;rw[hs x a]at b;cases b
 ·constructor
  ·intro h;cases h
  ·rintro⟨a,b⟩;rw[hg s a]at b;cases b
 ·have hx:x∈List.replicate (c.Ay*c.G6).toNat (0:Int):=hx;rw[(List.mem_replicate.1 hx).2];omega
 ·rw[hg k hk];exact⟨Int.le_refl 0,Int.le_refl 0,Int.le_refl 0,by show(0:Int)≤1000;omega⟩
 ·have e:wtN c (Aqj 0 1)=0:=A34 _ (by decide) _
  unfold wt pot A2d;simp[e]
section
variable {K:Nat} (hK:281474976710656≤K)
include hK
def A8m (w:C4)(o:Cm)(c:D0):Cm×D0×(List Int)×(List Int)×(List Int)×(List As)×(List Az)×(List Int):=(o,c,w.fP.N5,w.fP.Vg,w.fP.N6,w.fL,w.fQ,w.Acw)
omit hK in
theorem Bc9 (w:C4)(h:Am)(d:Int){c:D0}(hc:Ad7 c)(b:Bool): ∃o c',Asq K h w.fP.N5 w.fP.Vg w.fP.N6 w.fL w.fQ w.Acw d c.fb c.fi c.fh b=some (A8m w o c')∧Aig o∧Ad7 c':=by
 unfold Asq;rw[show D0.mk c.fb c.fi c.fh=c from rfl]
 cases b with
 |true=>
  simp only[cond_true];obtain⟨r,e,_,w1⟩:=Agp K hc (n:=256) (by omega)
  rw[e];exact⟨_,_,rfl,Aqa _ _ _ _ _,w1⟩
 |false=>
  simp only[cond_false];cases d==13 with
  |true=>exact⟨_,_,rfl,Aqa _ _ _ _ _,hc⟩
  |false=>
   simp only[cond_false];cases d==14 with
   |true=>exact⟨_,_,rfl,Aqa _ _ _ _ _,hc⟩
   |false=>
    simp only[cond_false];obtain⟨r,e,w1⟩:=Aqk K hc (n:=6) (by omega)
    rw[e,Z0];cases r.1 with
    |true=>exact⟨_,_,rfl,Aqa _ _ _ _ _,w1⟩
    |false=>exact⟨_,_,rfl,Aqa _ _ _ _ _,w1⟩
theorem Bda (w:C4)(h:Am)(r:Bq)(d:Int){c:D0}(hc:Ad7 c)(b:Bool): ∃o c',Asr K h r w.fP.N5 w.fP.Vg w.fP.N6 w.fL w.fQ w.Acw d c.fb c.fi c.fh b=some (A8m w o c')∧Aig o∧Ad7 c':=by
 unfold Asr;rw[show D0.mk c.fb c.fi c.fh=c from rfl]
 cases b with
 |true=>
  simp only[cond_true];obtain⟨x,e,b1,w1⟩:=Agp K hc (n:=2) (by omega)
  have e1:An3 .i64 1 x.1=1+x.1:=by unfold An3;exact K0 (by omega) (by omega)
  obtain⟨y,c2,e2,b2,l2,w2⟩:=A48 hK w1 (n:=1+x.1) (by omega)
  rw[e,Z0,e1,e2];exact⟨_,_,rfl,⟨b2,l2⟩,w2⟩
 |false=>
  simp only[cond_false];cases d==10 with
  |true=>
   simp only[cond_true];obtain⟨x,e,_,w1⟩:=Agp K hc (n:=3) (by omega)
   rw[e];exact⟨_,_,rfl,Aqa _ _ _ _ _,w1⟩
  |false=>
   simp only[cond_false];cases d==11 with
   |true=>simp only[cond_true];exact Bc9 w h d hc true
   |false=>simp only[cond_false];exact Bc9 w h d hc (d==12)
theorem A8n (w:C4)(h:Am)(r:Bq)(z d:Int){c:D0}(hc:Ad7 c)(b:Bool): ∃o c',Aq5 K h r z w.fP.N5 w.fP.Vg w.fP.N6 w.fL w.fQ w.Acw d c.fb c.fi c.fh b=some (A8m w o c')∧Aig o∧Ad7 c':=by
 unfold Aq5;rw[show D0.mk c.fb c.fi c.fh=c from rfl]
 cases b with
 |true=>
  simp only[cond_true];obtain⟨x,c1,e1,_,w1⟩:=Az2 K hc (l:=[1,2,3,4,5,8]) (by simp)
  obtain⟨y,c2,e2,_,w2⟩:=Az2 K w1 (l:=[1,1,2,4]) (by simp)
  rw[e1,Z0,if_pos rfl,e2,Z0,if_pos rfl];exact⟨_,_,rfl,Aqa _ _ _ _ _,w2⟩
 |false=>
  simp only[cond_false];cases d==7 with
  |true=>
   simp only[cond_true];obtain⟨x,e,w1⟩:=A65 K hc z;rw[e];exact⟨_,_,rfl,Aqa _ _ _ _ _,w1⟩
  |false=>
   simp only[cond_false];cases d==8 with
   |true=>simp only[cond_true];exact Bda hK w h r d hc true
   |false=>simp only[cond_false];exact Bda hK w h r d hc (d==9)
theorem A8o (w:C4)(h:Am)(r:Bq)(z d:Int){c:D0}(hc:Ad7 c)(b:Bool): ∃o c',Aq6 K h r z w.fP.N5 w.fP.Vg w.fP.N6 w.fL w.fQ w.Acw d b c.fb c.fi c.fh=some (A8m w o c')∧Aig o∧Ad7 c':=by
 unfold Aq6;rw[show D0.mk c.fb c.fi c.fh=c from rfl]
 cases b with
 |true=>exact⟨_,_,rfl,Aqa _ _ _ _ _,hc⟩
 |false=>
  simp only[cond_false];cases d==3 with
  |true=>exact⟨_,_,rfl,Aqa _ _ _ _ _,hc⟩
  |false=>
   simp only[cond_false];cases d==4 with
   |true=>simp only[cond_true];exact A8n hK w h r z d hc true
   |false=>
    simp only[cond_false];cases d==5 with
    |true=>simp only[cond_true];exact A8n hK w h r z d hc true
    |false=>simp only[cond_false];exact A8n hK w h r z d hc (d==6)
theorem Bdb (w:C4)(h:Am)(r:Bq)(q:Cm){c:D0}(hc:Ad7 c): ∃o c',Ass K h c.fb c.fi c.fh r q w.fC.Ay w.fC.G6 w.fC.E5 w.fC.Gs w.fC.E6 w.fC.G7 w.fP.N5.length w.fP.Vg.length w.fP.N6.length w.fL.length w.fQ.length w.Acw.length w.fP.N5 w.fP.Vg w.fP.N6 w.fL w.fQ w.Acw=some (A8m w o c')∧Aig o∧Ad7 c':=by
 unfold Ass;rw[show D0.mk c.fb c.fi c.fh=c from rfl]
 obtain⟨x,e,_,w1⟩:=Agp K hc (n:=16) (by omega)
 rw[e,Z0];cases x.1==0 with
 |true=>simp only[cond_true];exact A8o hK w h r _ _ w1 true
 |false=>
  simp only[cond_false];cases x.1==1 with
  |true=>simp only[cond_true];exact A8o hK w h r _ _ w1 true
  |false=>simp only[cond_false];exact A8o hK w h r _ _ w1 _
theorem Bqj{w:C4}(W:Ak1 w)(h8:w.fL.length≤1000){c:D0}(hc:Ad7 c): ∃o c',Ax3 K c w=some (A8m w o c')∧Aig o∧Ad7 c':=by
 unfold Ax3;obtain⟨r1,e1,hl,hr⟩:=A46 hK W h8;rw[e1,Z0];cases hz:(r1.length:Int)==0 with
 |true=>
  simp only[cond_true];obtain⟨x,e,w1⟩:=Aqk K hc (n:=2) (by omega)
  rw[e,Z0];cases x.1 with
  |true=>exact⟨_,_,rfl,Aqa _ _ _ _ _,w1⟩
  |false=>
   simp only[cond_false];obtain⟨o,c2,e2,ho,w2⟩:=A8k hK w1;rw[e2];exact⟨_,_,rfl,ho,w2⟩
 |false=>
  have hz: ¬(r1.length:Int)=0:=by simpa using hz
  simp only[cond_false];obtain⟨x,e,w1⟩:=Aqk K hc (n:=10) (by omega)
  rw[e,Z0];cases x.1 with
  |true=>
   simp only[cond_true];obtain⟨y,e2,w2⟩:=Aqk K w1 (n:=2) (by omega)
   rw[e2,Z0];cases y.1 with
   |true=>exact⟨_,_,rfl,Aqa _ _ _ _ _,w2⟩
   |false=>
    simp only[cond_false];obtain⟨o,c2,e3,ho,w3⟩:=A8k hK w2;rw[e3];exact⟨_,_,rfl,ho,w3⟩
  |false=>
   simp only[cond_false];obtain⟨y,e2,b2,w2⟩:=Agp K w1 (n:=(r1.length:Int)) (by omega)
   rw[e2,Z0,if_pos b2]
   have hk:=(hr _ (Ahf b2.1 b2.2)).1;obtain⟨h,eh⟩:=A36 (K:=K) (l:=w.fL) (by omega) (gt r1 y.1)
   simp only[eh,Z0,if_pos hk];cases decide (((gt w.fL (gt r1 y.1)).F4.length:Int)>0)with
   |true=>
    simp only[cond_true];obtain⟨z,e3,w3⟩:=A65 K w2 ((gt w.fL (gt r1 y.1)).F4.length:Int);simp only[e3,Z0];exact Bdb hK w h _ _ w3
   |false=>
    simp only[cond_false];exact Bdb hK w h _ _ w2
theorem run_ok{c:D0}(hc:Ad7 c){most:Int}(hm:0<most∧most≤1000): ∃x l w c' E n,Azm K c most=some (x,l,w,c')∧Dx w E n∧(0≤E∧E≤200)∧n≤38400∧w.fC=x∧Ahe x=true∧l.length≤200∧(∀o∈l,Aig o)∧Ad7 c':=by
 have hx:=V1;unfold Azm;obtain⟨x,c1,e1,hx1,w1⟩:=A9w K hc;obtain⟨y,e2,b2,w2⟩:=Agp K w1 (n:=most) (by omega)
 rw[e1,Z0,Bc7 hK hx1,Z0,e2,Z0]
 have ea:An3 .i64 4 y.1=4+y.1:=by unfold An3;exact K0 (by omega) (by omega)
 rw[ea]
 have key: ∀(f i:Nat) (l:List Cm) (w:C4) (c:D0),(i:Int)≤4+y.1->i<f->Dx w (l.length:Int) (192*l.length)->w.fC=x->l.length≤200->(∀o∈l,Aig o)->Ad7 c-> ∃x' l' w' c' E n,At8 K f l (i:Int) c.fb c.fi c.fh w x (C4.mk (D9.mk 0 0 0 0 0 0) (Dm.mk [] [] []) [] [] []) (D9.mk 0 0 0 0 0 0)=some (x',l',w',c')∧Dx w' E n∧(0≤E∧E≤200)∧n≤38400∧w'.fC=x'∧Ahe x'=true∧l'.length≤200∧(∀o∈l',Aig o)∧Ad7 c':=by
  intro f
  induction f with
  |zero=>intro i l w c _ h;omega
  |succ f ih=>
   intro i l w c hi hf G hwc hl ho hcc
   have done: ∃x' l' w' c' E n,some (x,l,w,D0.mk c.fb c.fi c.fh)=some (x',l',w',c')∧Dx w' E n∧(0≤E∧E≤200)∧n≤38400∧w'.fC=x'∧Ahe x'=true∧l'.length≤200∧(∀o∈l',Aig o)∧Ad7 c':=⟨_,_,_,_,_,_,rfl,G,by omega,by omega,hwc,hx1,hl,ho,hcc⟩
   rw[At8]
   by_cases q:0<i
   ·rw[decide_eq_true (show(i:Int)>0 by omega),cond_true]
    by_cases q2:l.length<200
    ·rw[decide_eq_true (show(l.length:Int)<200 by omega),cond_true]
     have W:=G.ww (by omega) (by omega)
     obtain⟨b1,b2,b3,_⟩:=Gx G.inv.conf
     have hlen:=G.inv.len;obtain⟨o,c2,e3,hop,w3⟩:=Bqj hK W (by omega) hcc
     obtain⟨a,w',e4,G',hc'⟩:=By5 hK (E:=(l.length:Int)) (n:=192*l.length) (by omega) (by omega) G hop
     rw[show D0.mk c.fb c.fi c.fh=c from rfl,e3,Z0]
     unfold A8m;simp only;rw[if_pos ⟨trivial,trivial,trivial,trivial,trivial,trivial⟩,if_pos ⟨by simp;omega,by simp;omega⟩]
     rw[show C4.mk w.fC (Dm.mk w.fP.N5 w.fP.Vg w.fP.N6) w.fL w.fQ w.Acw=w from rfl,e4,Z0]
     have es:An4 .i64 (i:Int) 1=((i - 1:Nat):Int):=by rw[sb1 (by omega) (by omega)];omega
     rw[es];refine ih (i - 1) (l++[o]) w' c2 (by omega) (by omega) ?_ (hc'.trans hwc) (by simp;omega) ?_ w3
     ·rw[Z23,List.length_singleton];exact Dx.le G' (by omega) (by omega)
     ·intro o' h';rcases Mh.1 h' with h'|h'
      ·exact ho o' h'
      ·rw[Px.1 h'];exact hop
    ·rw[decide_eq_false (show ¬(l.length:Int)<200 by omega)];exact done
   ·rw[decide_eq_false (show ¬(i:Int)>0 by omega)];exact done
 have:=key K (4+y.1).toNat [] (A2d x) y.2 (by omega) (by omega) (Bn4 hx1) rfl (by simp) (fun o h=>by cases h) w2
 rw[show(((4+y.1).toNat:Nat):Int)=4+y.1 by omega]at this
 exact this
end
section
variable (N:Int) (t:Int->Lk)
inductive Up (a:Int):Int->Prop
 |refl:Lv N t a->Up a a
 |step {b:Int}:Lv N t b->Cu N t b->Up a ((t b).up - 1)->Up a b
end
section
variable {N:Int} {t:Int->Lk}
theorem Up.lv{a b:Int}(h:Up N t a b):Lv N t a∧Lv N t b:=by
 induction h with
 |refl h=>exact⟨h,h⟩
 |step h _ _ ih=>exact⟨ih.1,h⟩
theorem Up.trans{a b c:Int}(h:Up N t a b)(g:Up N t b c):Up N t a c:=by
 induction g with
 |refl _=>exact h
 |step h1 h2 _ ih=>exact .step h1 h2 ih
theorem Up.le{d:Int->Nat}(U: ∀x,Lv N t x->Cu N t x->d ((t x).up - 1)<d x){a b:Int}(h:Up N t a b):d a≤d b:=by
 induction h with
 |refl _=>exact Z9 _
 |step h1 h2 _ ih=>have:=U _ h1 h2;omega
theorem Up.al{a b:Int}(h:Up N t a b)(g:Al N t a):Al N t b:=by
 induction h with
 |refl _=>exact g
 |step h1 h2 _ ih=>exact .step h1 h2 ih
variable {r:Int->Nat} {d:Int->Nat}
end
structure Bvz (w:C4)(t:Int->Lk)(k:Int):Prop where
 inv:Inv w
 tab:AtT w.fL t
 fr:Akm w.fL.length t (Awq w.fQ)
 al:Al w.fL.length t k
structure A9x (w w':C4)(t:Int->Lk)(k:Int):Prop where
 inv:Inv w'
 len:w'.fL.length=w.fL.length
 tab:AtT w'.fL (rem t k)
 fr:Akm w.fL.length (rem t k) (Awq w'.fQ)
 conf:w'.fC=w.fC
 q:w'.fQ=w.fQ++[Aiv (gt w.fL k) (k+1)]
 node: ∀x,0≤x∧x<(w.fL.length:Int)->x≠k-> ∃a b c,gt w'.fL x=lnk (gt w.fL x) a b c
theorem Bir (c:D9)(a b:Int)(f g:Int)(ts cs:List Int)(d:Int):Bvk c (Az.mk a f ts cs d)=Bvk c (Az.mk b g ts cs d):=rfl
theorem A9x.own{w w':C4}{t:Int->Lk}{k:Int}(L:A9x w w' t k){x:Int}(hx:0≤x∧x<(w.fL.length:Int))(hne:x≠k):Bvl w' x=Bvl w x:=by
 obtain⟨a,b,c,e⟩:=L.node x hx hne;unfold Bvl;rw[e,L.conf];exact Bir _ _ _ _ _ _ _ _
theorem A9x.kids{w w':C4}{t:Int->Lk}{k:Int}(P:Bvz w t k)(L:A9x w w' t k){x:Az}(hx:x∈w.fQ):Akt w'.fL x.Ee=Akt w.fL x.Ee:=by
 have hf:=P.inv.first hx;rw[Ba4 P.tab P.inv.rg hf.1 (by omega),Ba4 L.tab L.inv.rg hf.1 (by omega),L.len]
 exact A6d P.fr.tree P.al.lv P.al.noOr P.fr.kid (Inv.qs hx)
def Be8 (w:C4)(x:Int):List Int:=(gt w.fL x).Fh.reverse
theorem A9x.tags{w w':C4}{t:Int->Lk}{k:Int}(L:A9x w w' t k){x:Int}(hx:0≤x∧x<(w.fL.length:Int))(hne:x≠k):Be8 w' x=Be8 w x:=by
 obtain⟨a,b,c,e⟩:=L.node x hx hne;unfold Be8;rw[e];rfl
def Axq (w:C4):List Int:=((List.range w.fL.length).map (fun(i:Nat)=>(i:Int))).filter (Asf w.fL)
theorem Bis{w:C4}{x:Int}:x∈Axq w ↔ (0≤x∧x<(w.fL.length:Int))∧Asf w.fL x=true:=by
 unfold Axq;rw[List.mem_filter,Ex];refine and_congr ⟨?_,?_⟩ Iff.rfl
 ·rintro⟨i,hi,e⟩;rw[List.mem_range]at hi;omega
 ·intro h;exact⟨x.toNat,by rw[List.mem_range];omega,by omega⟩
section
variable {M:Type} (op:M->M->M) (e:M) (g:Int->M) (w:C4)
end
section
variable {M:Type} {op:M->M->M} {e:M} {g:Int->M} {w:C4}
end
def A6k (l:List As)(i:Nat):List Int:=((List.range i).map (fun(i:Nat)=>(i:Int))).filter (Asf l)
theorem Bdc (l:List As)(i:Nat):A6k l (i+1)=A6k l i++(if Asf l (i:Int)=true then [(i:Int)]else []):=by
 unfold A6k;rw[List.range_succ,Vs,List.filter_append]
 congr 1
 show List.filter (Asf l) [(i:Int)]=_;rw[List.filter_cons,List.filter_nil]
theorem A8p (l:List As)(i:Nat):(A6k l i).length≤i:=by
 unfold A6k;refine Vv (List.length_filter_le _ _) ?_;simp
section
variable {K:Nat} (hK:281474976710656≤K)
include hK
end
section
variable {K:Nat} (hK:281474976710656≤K)
include hK
theorem Bbg{w:C4}(hw:Ak1 w)(h8:w.fL.length≤1000):A1a K w=some (Axq w):=by
 have hm:=V1
 have key: ∀(f i:Nat),i≤w.fL.length->w.fL.length - i<f->Ara K f (A6k w.fL i) (w.fL.length:Int) (i:Int) w.fC.Ay w.fC.G6 w.fC.E5 w.fC.Gs w.fC.E6 w.fC.G7 w.fP.N5 w.fP.Vg w.fP.N6 w.fL w.fQ w.Acw=some (Axq w):=by
  intro f
  induction f with
  |zero=>intro i _ h;omega
  |succ f ih=>
   intro i hi hf
   have hl:=A8p w.fL i;rw[Ara];rcases Hl i w.fL.length with h|h
   ·rw[Ad4 h,cond_true,A6p hK hw.l];simp only[Z0]
    have hs:=Bdc w.fL i;cases e:Asf w.fL (i:Int)with
    |false=>
     rw[e,if_neg (by decide),List.append_nil]at hs
     simp only[cond_false];unfold Atj;rw[Acx (by omega),←hs]
     exact ih (i+1) h (by omega)
    |true=>
     rw[e,if_pos rfl]at hs;simp only[cond_true];rw[if_pos ⟨by simp;omega,by simp;omega⟩]
     unfold Atj;rw[Acx (by omega),←hs]
     exact ih (i+1) h (by omega)
   ·obtain rfl:i=w.fL.length:=by omega
    rw[Ad5 (Z9 _)];rfl
 exact key K 0 (Z21 _) (by omega)
omit hK in
theorem A87{l:List As}(hl:l.length≤1000000){k:Int}(hk:0≤k∧k<(l.length:Int)):Axh K l k=some (Am.mk k (gt l k).C8):=by
 unfold Axh;rw[A2l K (by omega),decide_eq_true hk]
 simp only[Z0,Bool.not_true,cond_false,if_pos hk]
end
section
variable {K:Nat} (hK:281474976710656≤K)
include hK
theorem Bv0{α:Type}(l:List α)(hl:l.length≤140737488355328)(L:Nat->Int->Option Bool)
  (hs: ∀n (i:Nat) (h:i<l.length),L (n+1) (i:Int)=L n ((i+1:Nat):Int)) (he: ∀n,L (n+1) (l.length:Int)=some true):L K 0=some true:=by
 rw[Asj hK l hl (fun _=>true) (some true) L (fun n i h=>by rw[hs n i h];rfl) he,Z1.2 (fun _ _=>rfl)]
 rfl
theorem Avs (l:List Int)(hl:l.length≤140737488355327):Atp K l l=some true:=by
 unfold Atp;simp only[bne_self_eq_false,cond_false];exact Bmj l (by omega) (Azu K l l) (fun n i=>rfl) K 0 (Z21 _) (by omega)
theorem Azg (l:List Int)(hl:l.length≤140737488355327):Alx K l l=some true:=by
 unfold Alx;simp only[bne_self_eq_false,cond_false];exact Bmj l (by omega) (Auz K l l) (fun n i=>rfl) K 0 (Z21 _) (by omega)
theorem A88{p:Dm}(h:A2k p):Axf K p p=some true:=by
 unfold Axf;rw[Avs hK _ h.mem.2,Z0,cond_true,Azg hK _ (A0c hK h.st),Z0,cond_true,Azg hK _ (A0c hK h.own)];rfl
theorem A89{n:As}(h:Arm n):Axg K n n=some true:=by
 have h2:=h.things.2;unfold Axg;simp only[bne_self_eq_false,cond_false];rw[Azg hK _ (A0c hK h.chunks),Z0,cond_true,Azg hK _ (A0c hK h.tags),Z0,Bool.not_true,cond_false]
 refine Bv0 hK n.F4 (by omega) (fun m i=>Aqf K m i n.Vg n.C8 n.Sj n.fUp n.Sk n.Ee n.Sl n.Sm n.Ay n.Acv n.Sn n.F4 n.Fh n.Vg n.C8 n.Sj n.fUp n.Sk n.Ee n.Sl n.Sm n.Ay n.Acv n.Sn n.F4 n.Fh) (fun m i hi=> ?_) (fun m=> ?_)
 ·simp only[Aqf];rw[Ad4 hi,cond_true,if_pos (Ahl hi),if_pos (Ahl hi),Acx (by omega)]
  simp
 ·simp only[Aqf];rw[Ad5 (Z9 _),cond_false]
theorem A4c{l:List As}(h:Ad1 l):Ati K l l=some true:=by
 have h2:=h.2;unfold Ati;simp only[bne_self_eq_false,cond_false];refine Bv0 hK l (by omega) (Ap1 K l l) (fun m i hi=> ?_) (fun m=> ?_)
 ·rw[Ap1,Ad4 hi,cond_true,if_pos (Ahl hi),if_pos (Ahl hi),A89 hK (h.1 _ (Ani hi)),Z0,Bool.not_true,cond_false,Acx (by omega)]
 ·rw[Ap1,Ad5 (Z9 _),cond_false]
theorem A8q{x:Az}(h:A1f x):Av7 K x x=some true:=by
 unfold Av7;simp only[beq_self_eq_true,cond_true];rw[Azg hK _ (A0c hK h.tags),Z0,cond_true,Azg hK _ (A0c hK h.chunks)];rfl
theorem A1r{w:C4}(h:Ak1 w):Aq9 K w w=some true:=by
 have h2:=h.q.2;unfold Aq9;simp only[beq_self_eq_true,Bool.and_self,Bool.not_true,cond_false];rw[A88 hK h.p,Z0,cond_true,A4c hK h.l,Z0,cond_true];simp only[bne_self_eq_false,cond_false];rw[Azg hK _ (A0c hK h.log),Z0,Bool.not_true,cond_false]
 refine Bv0 hK w.fQ (by omega) (fun m i=>Ap2 K m i w.fC.Ay w.fC.G6 w.fC.E5 w.fC.Gs w.fC.E6 w.fC.G7 w.fP.N5 w.fP.Vg w.fP.N6 w.fL w.fQ w.Acw w.fC.Ay w.fC.G6 w.fC.E5 w.fC.Gs w.fC.E6 w.fC.G7 w.fP.N5 w.fP.Vg w.fP.N6 w.fL w.fQ w.Acw) (fun m i hi=> ?_) (fun m=> ?_)
 ·simp only[Ap2];rw[Ad4 hi,cond_true,if_pos (Ahl hi),if_pos (Ahl hi),A8q hK (h.q.1 _ (Ani hi)),Z0,Bool.not_true,cond_false,Acx (by omega)]
 ·simp only[Ap2];rw[Ad5 (Z9 _),cond_false]
end
instance:DecidablePred wfi:=fun x=>inferInstanceAs (Decidable (_∧_))
theorem Ay2 (n:Int):wfi (IntKind.i64.wrap n):=by rw[IntKind.wrap_i64];exact⟨by omega,by omega⟩
def OkP{α:Type}(x:Option (α×D0))(P:α->Prop):Prop:= ∃a c,x=some (a,c)∧P a∧Ad7 c
theorem okp{α:Type}{a:α}{c:D0}{P:α->Prop}(h:P a)(hc:Ad7 c):OkP (some (a,c)) P:=⟨_,_,rfl,h,hc⟩
theorem OkP.mono{α:Type}{x:Option (α×D0)}{P Q:α->Prop}(h:OkP x P)(k: ∀a,P a->Q a):OkP x Q:=by
 obtain⟨a,c,e,p,hc⟩:=h;exact⟨a,c,e,k a p,hc⟩
theorem W2{α β:Type}{x:Option (α×D0)}{f:α×D0->Option (β×D0)}{P:α->Prop}{Q:β->Prop}(h:OkP x P)(k: ∀a c,P a->Ad7 c->OkP (f (a,c)) Q):OkP (x.bind f) Q:=by
 obtain⟨a,c,e,p,hc⟩:=h;rw[e];exact k a c p hc
theorem Apw{α:Type}{p:Prop}[Decidable p]{x:Option (α×D0)}{Q:α->Prop}(h:p)(k:OkP x Q):OkP (if p then x else none) Q:=by rw[if_pos h];exact k
theorem Aim{α:Type}{b:Bool}{x y:Option (α×D0)}{Q:α->Prop}(k:b=true->OkP x Q)(l:b=false->OkP y Q):OkP (bif b then x else y) Q:=by
 cases b
 ·exact l rfl
 ·exact k rfl
theorem Anj (K:Nat){c:D0}(hc:Ad7 c){n:Int}(hn:0<n):OkP (Ap K c n) fun x=>0≤x∧x<n:=by
 obtain⟨r,e,b,w⟩:=Agp K hc hn;exact⟨_,_,e,b,w⟩
theorem Az4{β:Type}(K:Nat){c:D0}{l:List Int}{f:Int×D0×List Int->Option (β×D0)}{Q:β->Prop}(hc:Ad7 c)(hl:0<l.length)(k: ∀x c,x∈l->Ad7 c->OkP (f (x,c,l)) Q):OkP ((P2 K c l).bind f) Q:=by
 obtain⟨x,c',e,m,w⟩:=Az2 K hc hl;rw[e];exact k x c' m w
theorem Bn5 (K:Nat){c:D0}(hc:Ad7 c):OkP (A0s K c) ConfW:=by
 unfold A0s Ape;obtain⟨x,c1,e,hx,w⟩:=A9w K hc
 have W:=Bm8 hx;rw[e,Z0];dsimp only
 repeat' (first|refine Az4 _ (by assumption) (by decide) (fun x c hx hc=>Apw rfl ?_)|refine W2 (Anj _ (by assumption) (by omega)) (fun x c hx hc=> ?_)|refine Aim (fun _=> ?_) (fun _=> ?_))
 all_goals refine okp ?_ (by assumption)
 ·exact⟨(by decide: ∀y∈([1,2,12,13]:List Int),wfi y) _ ‹_›,W.size,W.slots,W.tax,W.slice,W.gens⟩
 ·exact⟨W.chunks,(by decide: ∀y∈([7,8,16,17]:List Int),wfi y) _ ‹_›,W.slots,W.tax,W.slice,W.gens⟩
 ·exact⟨W.chunks,W.size,(by decide: ∀y∈([1,8,9]:List Int),wfi y) _ ‹_›,W.tax,W.slice,W.gens⟩
 ·exact⟨W.chunks,W.size,W.slots,(by decide: ∀y∈([0,8,9]:List Int),wfi y) _ ‹_›,W.slice,W.gens⟩
 ·exact⟨W.chunks,W.size,W.slots,W.tax,(by decide: ∀y∈([0,17]:List Int),wfi y) _ ‹_›,W.gens⟩
 ·exact⟨W.chunks,W.size,W.slots,W.tax,W.slice,(by decide: ∀y∈([0,5]:List Int),wfi y) _ ‹_›⟩
 ·exact W
theorem A51{l:List Int}(h:l.length≤1000)(x:Int):(l++[x]).length*8≤140737488355328∧(l++[x]).length≤maxLen:=by
 have:=V1;rw[Z23,List.length_singleton];omega
theorem Bbh{l:List Bc}(h:l.length≤1000)(x:Bc):(l++[x]).length*24≤140737488355328∧(l++[x]).length≤maxLen:=by
 have:=V1;rw[Z23,List.length_singleton];omega
theorem A3a{l:List Int}(h:A2j l)(hl:l.length≤1000){x:Int}(hx:wfi x):A2j (l++[x]):=by
 refine⟨fun y hy=> ?_,by rw[Z23,List.length_singleton];omega⟩
 rcases Mh.1 hy with hy|hy
 ·exact h.1 y hy
 ·rw[Px.1 hy];exact hx
structure SN (m:Nat)(n:As):Prop where
 w:Arm n
 c:n.Ay.length≤m
 t:n.F4.length≤m
 g:n.Fh.length≤m
theorem SN.tag{m:Nat}{n:As}(h:SN m n)(hm:m≤1000){x:Int}(hx:wfi x):SN (m+1) (As.mk n.Vg n.C8 n.Sj n.fUp n.Sk n.Ee n.Sl n.Sm n.Ay n.Acv n.Sn n.F4 (n.Fh++[x])):=by
 have:=h.c;have:=h.t;have:=h.g;exact⟨{h.w with tags:=A3a h.w.tags (by omega) hx},Nat.le_succ_of_le h.c,Nat.le_succ_of_le h.t,by simp;omega⟩
theorem SN.chunk{m:Nat}{n:As}(h:SN m n)(hm:m≤1000){x:Int}(hx:wfi x):SN (m+1) (As.mk n.Vg n.C8 n.Sj n.fUp n.Sk n.Ee n.Sl n.Sm (n.Ay++[x]) n.Acv n.Sn n.F4 n.Fh):=by
 have:=h.c;have:=h.t;have:=h.g;exact⟨{h.w with chunks:=A3a h.w.chunks (by omega) hx},by simp;omega,Nat.le_succ_of_le h.t,Nat.le_succ_of_le h.g⟩
theorem SN.thing{m:Nat}{n:As}(h:SN m n)(hm:m≤1000){x:Bc}(hx:ThingW x):SN (m+1) (As.mk n.Vg n.C8 n.Sj n.fUp n.Sk n.Ee n.Sl n.Sm n.Ay n.Acv n.Sn (n.F4++[x]) n.Fh):=by
 have:=h.c;have:=h.t;have:=h.g;refine⟨{h.w with things:=⟨fun y hy=> ?_,by rw[Z23,List.length_singleton];omega⟩},Nat.le_succ_of_le h.c,by simp;omega,Nat.le_succ_of_le h.g⟩
 rcases Mh.1 hy with hy|hy
 ·exact h.w.things.1 y hy
 ·rw[Px.1 hy];exact hx
theorem SN.mono{m k:Nat}{n:As}(h:SN m n)(hk:m≤k):SN k n:=⟨h.w,Vv h.c hk,Vv h.t hk,Vv h.g hk⟩
theorem sbn{i:Nat}(hi:0<i)(h:i≤1000):An4 .i64 (i:Int) 1=((i - 1:Nat):Int):=by rw[sb1 (by omega) (by omega)];omega
theorem Be9 (K:Nat){c:D0}(hc:Ad7 c){x:D9}(hx:Ahe x=true):OkP (Ayh K c x) ThingW:=by
 obtain⟨b1,b2,_⟩:=Gx hx
 have j: ∀(c:D0) (t:Bc),Ad7 c->OkP (As6 K x c.fb c.fi c.fh t) ThingW:=by
  intro c t hc;unfold As6;refine W2 (Anj K hc (by omega)) (fun y1 c1 h1 w1=>W2 (Anj K w1 (by omega)) (fun y2 c2 h2 w2=> ?_))
  dsimp only at w2 ⊢
  have e:An4 .i64 x.G6 y2=x.G6 - y2:=by unfold An4;exact K0 (by omega) (by omega)
  rw[e];refine W2 (Anj K w2 (by omega)) (fun y3 c3 h3 w3=>okp ⟨Ay2 _,Ay2 _,Ay4⟩ w3)
 unfold Ayh;obtain⟨r,e,w⟩:=Aqk K hc (n:=4) (by omega)
 rw[e,Z0];refine Aim (fun _=>Aim (fun h=> ?_) (fun _=>j _ _ w)) (fun _=>j _ _ w);rw[decide_eq_true_eq]at h;rw[show An4 .i64 x.Ay 1=x.Ay - 1 from by unfold An4;exact K0 (by omega) (by omega)]
 exact W2 (Anj K w (by omega)) (fun y1 c1 h1 w1=>W2 (Anj K w1 (by omega)) (fun y2 c2 h2 w2=>okp ⟨Ay2 _,Ay2 _,K1 (x:=2) (by decide) (by decide)⟩ w2))
theorem Bn6 (K:Nat): ∀(f i m:Nat) (c:D0) (n:As),i<f->m+i≤50->SN m n->Ad7 c->OkP (At9 K f (i:Int) c.fb c.fi c.fh n) (SN 50):=by
 intro f
 induction f with
 |zero=>intro i m c n h;omega
 |succ f ih=>
  intro i m c n hi hm hn hc
  have:=hn.g;rw[At9];refine Aim (fun h=> ?_) (fun _=>okp (hn.mono (by omega)) hc)
  rw[decide_eq_true_eq]at h;refine W2 (Anj K hc (by omega)) (fun y c1 hy w1=>Apw (A51 (by omega) _) ?_)
  rw[sbn (by omega) (by omega)]
  exact ih (i - 1) (m+1) c1 _ (by omega) (by omega) (hn.tag (by omega) (K1 (by omega) (by omega))) w1
section
variable {K:Nat} (hK:281474976710656≤K)
include hK
theorem Bn7{x:D9}(hx:Ahe x=true): ∀(f i m:Nat) (c:D0) (n:As),i<f->m+i≤40->SN m n->Ad7 c->OkP (Aua K x f (i:Int) c.fb c.fi c.fh n) (SN 50):=by
 intro f
 induction f with
 |zero=>intro i m c n h;omega
 |succ f ih=>
  intro i m c n hi hm hn hc
  have:=hn.t;rw[Aua];refine Aim (fun h=> ?_) (fun _=> ?_)
  ·rw[decide_eq_true_eq]at h;refine W2 (Be9 K hc hx) (fun y c1 hy w1=>Apw (Bbh (by omega) _) ?_)
   rw[sbn (by omega) (by omega)]
   exact ih (i - 1) (m+1) c1 _ (by omega) (by omega) (hn.thing (by omega) hy) w1
  ·refine W2 (Anj K hc (by omega)) (fun y c1 hy w1=> ?_)
   have:=Bn6 K K y.toNat 40 c1 n (by omega) (by omega) (hn.mono (by omega)) w1
   rw[Int.toNat_of_nonneg (by omega)]at this
   exact this
theorem Biu{x:D9}(hx:Ahe x=true)(z:As): ∀(f i m:Nat) (c:D0) (n:As),i<f->m+i≤20->SN m n->Ad7 c->OkP (Auc K x f (i:Int) c.fb c.fi c.fh n z) (SN 50):=by
 obtain⟨b1,b2,_⟩:=Gx hx
 have j: ∀(c:D0) (n:As),SN 20 n->Ad7 c->OkP (Aub K x c.fb c.fi c.fh n) (SN 50):=by
  intro c n hn hc;unfold Aub;refine W2 (Anj K hc (by omega)) (fun y c1 hy w1=> ?_)
  have:=Bn7 hK hx K y.toNat 20 c1 n (by omega) (by omega) hn w1
  rw[Int.toNat_of_nonneg (by omega)]at this
  exact this
 intro f
 induction f with
 |zero=>intro i m c n h;omega
 |succ f ih=>
  intro i m c n hi hm hn hc
  have:=hn.c;rw[Auc];refine Aim (fun h=> ?_) (fun _=>Aim (fun h=> ?_) (fun _=>j _ _ (hn.mono (by omega)) hc))
  ·rw[decide_eq_true_eq]at h;refine Apw (A51 (by omega) _) ?_
   rw[sbn (by omega) (by omega)]
   exact ih (i - 1) (m+1) c _ (by omega) (by omega) (hn.chunk (by omega) (K1 (by omega) (by omega))) hc
  ·rw[decide_eq_true_eq]at h;refine Apw ⟨by omega,h⟩ ?_
   rw[ad1 (x:=x.G6) (by omega) (by omega)]
   refine W2 (Anj K hc (by omega)) (fun y c1 hy w1=> ?_)
   exact j c1 _ (SN.mono (m:=m) ⟨{hn.w with cur:=Ay2 _,bump:=K1 (x:=y) (by omega) (by omega)},hn.c,hn.t,hn.g⟩ (by omega)) w1
theorem Biv{x:D9}(hx:Ahe x=true){c:D0}(hc:Ad7 c):OkP (Azn K c x) (SN 50):=by
 obtain⟨b1,b2,b3,b4,b5,b6⟩:=Gx hx;unfold Azn Ak4
 have s0: ∀a b d:Int,wfi a->wfi b->wfi d->SN 0 (As.mk a b d 0 0 0 0 0 [] 0 0 [] []):=fun a b d ha hb hd=>⟨⟨ha,hb,hd,Ay4,Ay4,Ay4,Ay4,Ay4,Azd,Ay4,Ay4,A3v,Azd⟩,by simp,by simp,by simp⟩
 refine W2 (Anj K hc (by omega)) (fun y1 c1 h1 w1=> ?_)
 rw[Z0];refine W2 (Anj K w1 (by omega)) (fun y2 c2 h2 w2=>Aim (fun _=>okp ((s0 _ _ _ (K1 (by omega) (by omega)) (Ay2 _) Ay4).mono (by omega)) w2) (fun _=> ?_))
 refine W2 (Anj K w2 (by omega)) (fun y3 c3 h3 w3=>W2 (Anj K w3 (by omega)) (fun y4 c4 h4 w4=> ?_))
 have:=Biu hK hx (As.mk 0 0 0 0 0 0 0 0 [] 0 0 [] []) K y4.toNat 10 c4 _ (by omega) (by omega) ((s0 y2 (An3 .i64 1 y1) y3 (K1 (by omega) (by omega)) (Ay2 _) (K1 (by omega) (by omega))).mono (by omega)) w4
 rw[Int.toNat_of_nonneg (by omega)]at this
 exact this
end
theorem A9y (a b d:Int)(ha:wfi a)(hb:wfi b)(hd:wfi d):ThingW (Bc.mk a b d):=⟨ha,hb,hd⟩
structure DP (c:D9)(n:As):Prop where
 l:Ats c n
 t:ThP c [] n
 e:EpP 1 n
theorem DP.w{c:D9}{n:As}(h:DP c n):Arm n:=A27 (Aik.2 h.l).1 h.e (by omega)
theorem Bqk{c:D9}{n:As}(L:Ats c n)(e:EpP 1 n):SN 40 n:=⟨A27 (Aik.2 L).1 e (by omega),by have:=Asc L.conf L.dist;omega,by have:=L.nth;omega,by have:=L.ntag;omega⟩
theorem Bfa (K:Nat): ∀(f i m:Nat) (c:D0) (n:As),i<f->m+i≤50->SN m n->Ad7 c->OkP (As7 K f (i:Int) c.fb c.fi c.fh n) (SN 50):=by
 intro f
 induction f with
 |zero=>intro i m c n h;omega
 |succ f ih=>
  intro i m c n hi hm hn hc
  have:=hn.g;rw[As7];refine Aim (fun h=> ?_) (fun _=>okp (hn.mono (by omega)) hc)
  rw[decide_eq_true_eq]at h;refine W2 (Anj K hc (by omega)) (fun y c1 hy w1=>Apw (A51 (by omega) _) ?_)
  rw[sbn (by omega) (by omega)]
  exact ih (i - 1) (m+1) c1 _ (by omega) (by omega) (hn.tag (by omega) (K1 (by omega) (by omega))) w1
section
variable {K:Nat} (hK:281474976710656≤K)
include hK
theorem Bn8{x:D9}(hx:Ahe x=true){c:D0}(hc:Ad7 c):OkP (A0t K c x) (SN 60):=by
 unfold A0t Ak7;refine W2 (Biv hK hx hc) (fun n c1 hn w=> ?_)
 have:=hn.c;have:=hn.t;have:=hn.g
 have W:=hn.w
 have M:=hn.mono (k:=60) (by omega)
 repeat' (first|refine Az4 _ (by assumption) (by decide) (fun x c hx hc=>Apw rfl ?_)|refine W2 (Anj _ (by assumption) (by omega)) (fun x c hx hc=> ?_)|refine Aim (fun _=> ?_) (fun _=> ?_))
 ·exact okp ⟨{W with st:=Ay2 _},M.c,M.t,M.g⟩ (by assumption)
 ·exact okp ⟨{W with gen:=(by decide: ∀y∈([0,4,5]:List Int),wfi y) _ ‹_›},M.c,M.t,M.g⟩ (by assumption)
 ·exact okp ⟨{W with up:=(by decide: ∀y∈([-1,1,8,9]:List Int),wfi y) _ ‹_›},M.c,M.t,M.g⟩ (by assumption)
 ·exact Apw (A51 (show n.Ay.length≤_ by omega) _) (okp ((hn.chunk (by omega) ((by decide: ∀y∈([0,12,-1]:List Int),wfi y) _ ‹_›)).mono (by omega)) (by assumption))
 ·exact okp ⟨{W with cur:=K1 (x:= ‹Int›) (by omega) (by omega)},M.c,M.t,M.g⟩ (by assumption)
 ·exact okp ⟨{W with bump:=(by decide: ∀y∈([0,8,17,-1]:List Int),wfi y) _ ‹_›},M.c,M.t,M.g⟩ (by assumption)
 ·exact Apw (A51 (show n.Fh.length≤_ by omega) _) (okp ((hn.tag (by omega) ((by decide: ∀y∈([255,256,-1]:List Int),wfi y) _ ‹_›)).mono (by omega)) (by assumption))
 ·refine Apw (Bbh (show n.F4.length≤_ by omega) _) (okp ((hn.thing (by omega) (A9y _ _ _ ?_ ?_ ?_)).mono (by omega)) (by assumption))
  all_goals exact K1 (by dsimp only;omega) (by dsimp only;omega)
 ·exact okp M (by assumption)
theorem Bbi{c:D9}{n:As}(L:Ats c n)(e:EpP 1 n): ∃n' b,Aqo K c n 2 (An3 .i64 c.G6 1)=some (n',b)∧SN 40 n':=by
 have hm:=V1;obtain⟨b1,b2,_⟩:=Gx L.conf
 have S:=Bqk L e
 have W:=S.w
 have h1:=Asc L.conf L.dist
 have h3:=L.nth
 have h4:=L.ntag
 have q1:2*c.G6≤c.Ay*c.G6:=Int.mul_le_mul_of_nonneg_right (by omega) (by omega)
 have hby:Ala c=c.Ay*c.G6:=by unfold Ala;rw[L.conf];rfl
 have done: ∃n' b,some (n,false)=some (n',b)∧SN 40 n':=⟨_,_,rfl,S⟩;unfold Aqo Ao9 Al6;rw[ad1 (x:=c.G6) (by omega) (by omega),Atr K W,Z0,Aq1,L.conf]
 simp only[Z0,cond_true];rw[show(n.Vg != 1)=false by rw[L.st];rfl,cond_false,decide_eq_true (by omega),cond_true,Atx,Z0,decide_eq_false (by omega),cond_false,Anm,Ay8 hK L.conf]
 simp only[Z0];cases q:inB 2 0 (c.Ay - 1)with
 |false=>exact done
 |true=>
 simp only[Bool.not_true,cond_false]
 have hr:Atk (c.G6+1) c.G6=2:=by
  unfold Atk;rw[Acu.2 ⟨by omega,by omega⟩,Acu.2 ⟨by omega,by omega⟩]
  show(c.G6+1+c.G6 - 1) / c.G6=2;rw[show c.G6+1+c.G6 - 1=c.G6*2 by omega,Int.mul_ediv_cancel_left _ (by omega)]
 rw[A0z,Z0,hr,Z0];obtain⟨k,rfl⟩: ∃k,K=k+3:=⟨K - 3,by omega⟩
 have e3: ∀i:Nat,i≤2->An3 .i64 2 (i:Int)=2+i:=fun i hi=>by unfold An3;exact K0 (by omega) (by omega)
 have s1:=A51 (l:=n.Ay) (by omega) (An3 .i64 2 0)
 have s2:=A51 (l:=n.Ay++[An3 .i64 2 0]) (by simp;omega) (An3 .i64 2 (An3 .i64 0 1))
 have s3:=Bbh (l:=n.F4) (by omega) (Bc.mk (An5 .i64 2 c.G6) (c.G6+1) 2)
 rw[Ana,show decide ((0:Int)<2)=true from rfl,cond_true]
 rw[if_pos s1,Ana,show decide (An3 .i64 0 1<2)=true from rfl,cond_true]
 simp only;rw[if_pos s2,Ana,show decide (An3 .i64 (An3 .i64 0 1) 1<2)=false from rfl,cond_false]
 simp only;rw[if_pos s3,Avn hK c (As.mk n.Vg n.C8 n.Sj n.fUp n.Sk n.Ee n.Sl n.Sm (n.Ay++[An3 .i64 2 0]++[An3 .i64 2 (An3 .i64 0 1)]) n.Acv n.Sn (n.F4++[Bc.mk (An5 .i64 2 c.G6) (c.G6+1) 2]) n.Fh) (by simp;omega) (by simp;omega) (show n.Fh.length≤_ by omega),Z0]
 cases q3:Aqg c (As.mk n.Vg n.C8 n.Sj n.fUp n.Sk n.Ee n.Sl n.Sm (n.Ay++[An3 .i64 2 0]++[An3 .i64 2 (An3 .i64 0 1)]) n.Acv n.Sn (n.F4++[Bc.mk (An5 .i64 2 c.G6) (c.G6+1) 2]) n.Fh)with
 |false=>
  simp only[Bool.not_false,cond_true];rw[show As.mk n.Vg n.C8 n.Sj n.fUp n.Sk n.Ee n.Sl n.Sm n.Ay n.Acv n.Sn n.F4 n.Fh=n from rfl,Atr _ W]
  exact done
 |true=>
  exact⟨_,_,rfl,Bqk (Aik.1 ⟨q3,L.st⟩) ⟨e.ep,e.ue,e.cur⟩⟩
theorem Bfb{x:D9}(hx:Ahe x=true)(z:As): ∀(f i:Nat) (c:D0) (n:As),i<f->i≤20->DP x n->Ad7 c->OkP (As9 K x f (i:Int) c.fb c.fi c.fh n z) (SN 50):=by
 obtain⟨b1,b2,_⟩:=Gx hx
 have j: ∀(c:D0) (n:As),SN 40 n->Ad7 c->OkP (As8 K c.fb c.fi c.fh n) (SN 50):=by
  intro c n hn hc;unfold As8;refine W2 (Anj K hc (by omega)) (fun y c1 hy w1=> ?_)
  have:=Bfa K K y.toNat 40 c1 n (by omega) (by omega) hn w1
  rw[Int.toNat_of_nonneg (by omega)]at this
  exact this
 intro f
 induction f with
 |zero=>intro i c n h;omega
 |succ f ih=>
  intro i c n hi hm hn hc;rw[As9];refine Aim (fun h=> ?_) (fun _=> ?_)
  ·rw[decide_eq_true_eq]at h;refine W2 (Anj K hc (by omega)) (fun y c1 hy w1=>Az4 K w1 (by decide) (fun a c2 ha w2=>Apw rfl ?_))
   have e:An3 .i64 1 y=1+y:=by unfold An3;exact K0 (by omega) (by omega)
   obtain⟨n',b,e2,h2⟩:=A63 hK hn.l hn.w hn.e.cur (1+y) a ⟨by omega,by omega⟩
   dsimp only;rw[e,e2,Z0,sbn (by omega) (by omega)]
   have h3:DP x n':=by
    rcases h2 with rfl|⟨off,hs,rfl⟩
    ·exact hn
    ·obtain⟨l1,l2⟩:=Bc0 hn.l hn.e.cur hn.t hs;exact⟨l1,l2,⟨hn.e.ep,hn.e.ue,hn.e.cur⟩⟩
   exact ih (i - 1) c2 n' (by omega) (by omega) h3 w2
  ·obtain⟨r,e,w⟩:=Aqk K hc (n:=3) (by omega)
   rw[show D0.mk c.fb c.fi c.fh=c from rfl,e,Z0]
   refine Aim (fun _=> ?_) (fun _=>j _ _ (Bqk hn.l hn.e) w);obtain⟨n',b,e2,h2⟩:=Bbi hK hn.l hn.e;rw[e2,Z0];exact j _ _ h2 w
theorem Bfc{x:D9}(hx:Ahe x=true){c:D0}(hc:Ad7 c):OkP (Ayi K c x) (SN 50):=by
 obtain⟨b1,b2,b3,b4,b5,b6⟩:=Gx hx;unfold Ayi Ak4;refine W2 (Anj K hc (by omega)) (fun y1 c1 h1 w1=> ?_)
 rw[Z0];refine W2 (Anj K w1 (by omega)) (fun y2 c2 h2 w2=>W2 (Anj K w2 (by omega)) (fun y3 c3 h3 w3=> ?_))
 dsimp only
 have e:An3 .i64 1 y1=1+y1:=by unfold An3;exact K0 (by omega) (by omega)
 rw[e]
 have L:Ats x (As.mk 1 (1+y1) y2 0 0 0 0 0 [] 0 0 [] []):=⟨hx,rfl,⟨by show(1:Int)≤1+y1;omega,by show 1+y1≤x.G7;omega⟩,⟨by show(0:Int)≤0;omega,by show(0:Int)≤x.E5;omega⟩,⟨by show(0:Int)≤0;omega,by show(0:Int)≤x.E5;omega⟩,⟨by show(0:Int)≤0;omega,by show(0:Int)≤x.E5;omega⟩,⟨by show(0:Int)≤0;omega,by show(0:Int)≤x.E5;omega⟩,h2.1,by show(0:Int)≤0;omega,rfl,rfl,by simp,by simp,rfl,rfl⟩
 have E:EpP 1 (As.mk 1 (1+y1) y2 0 0 0 0 0 [] 0 0 [] []):=⟨by show y2≤1;omega,by show(0:Int)≤1;omega,by show(0:Int)≤0;omega,by show(0:Int)≤1000;omega⟩
 have L2:=A6g L (k:=y3) ⟨by omega,by omega⟩ (by simp)
 rw[A6h hK L (Bqk L E).w ⟨by omega,by omega⟩ (by simp),Z0]
 have D:DP x (A37 (As.mk 1 (1+y1) y2 0 0 0 0 0 [] 0 0 [] []) y3):=⟨L2,⟨rfl,rfl,by simp[Ap3,A37,Ao6]⟩,⟨E.ep,E.ue,by show 0≤y3+1;omega,by show y3+1≤1000;omega⟩⟩
 refine W2 (Anj K w3 (by omega)) (fun y4 c4 h4 w4=> ?_)
 have:=Bfb hK hx (As.mk 0 0 0 0 0 0 0 0 [] 0 0 [] []) K y4.toNat c4 _ (by omega) (by omega) D w4
 rw[Int.toNat_of_nonneg (by omega)]at this
 exact this
structure SW (m:Nat)(x:Az):Prop where
 w:A1f x
 g:x.Fh.length≤m
 c:x.Ay.length≤m
theorem Biw{x:D9}(hx:Ahe x=true){c:D0}(hc:Ad7 c):OkP (Azo K c x) (SW 60):=by
 obtain⟨b1,b2,b3,b4,b5,b6⟩:=Gx hx
 have j: ∀(c:D0) (a z:Az),SW 50 a->Ad7 c->OkP (Ata K c.fb c.fi c.fh a z) (SW 50):=by
  intro c a z ha hc;unfold Ata Av1;obtain⟨r,e,w⟩:=Aqk K hc (n:=4) (by omega)
  rw[show D0.mk c.fb c.fi c.fh=c from rfl,e,Z0]
  exact Aim (fun _=>okp ⟨⟨ha.w.slot,ha.w.first,Azd,Azd,Ay4⟩,by simp,by simp⟩ w) (fun _=>okp ha w)
 have d:OkP (Ayj K c x) (SW 50):=by
  unfold Ayj;refine W2 (Bfc hK hx hc) (fun n c1 hn w1=> ?_);dsimp only;rw[ad1 (x:=x.E5) (by omega) (by omega)]
  refine W2 (Anj K w1 (by omega)) (fun y2 c2 h2 w2=> ?_)
  dsimp only;rw[A25 K hn.w,Z0]
  have W:=Beo hn.w (s:=y2) (K1 (by omega) (by omega))
  refine W2 (Anj K w2 (by omega)) (fun y3 c3 h3 w3=> ?_)
  have hf:wfi y3:=K1 (by omega) (by omega)
  refine Aim (fun _=>W2 (Anj K w3 (by omega)) (fun y4 c4 h4 w4=> ?_)) (fun _=>j _ _ _ ⟨⟨W.slot,hf,W.tags,W.chunks,Ay4⟩,hn.g,hn.c⟩ w3)
  exact j _ _ _ ⟨⟨W.slot,hf,W.tags,W.chunks,K1 (x:=y4) (by omega) (by omega)⟩,hn.g,hn.c⟩ w4
 unfold Azo App;refine W2 d (fun a c1 ha w=> ?_)
 have h1:=ha.g;have h2:=ha.c
 have W:=ha.w
 repeat' (first|refine Az4 _ (by assumption) (by decide) (fun x c hx hc=>Apw rfl ?_)|refine W2 (Anj _ (by assumption) (by omega)) (fun x c hx hc=> ?_)|refine Aim (fun _=> ?_) (fun _=> ?_))
 ·exact okp ⟨{W with slot:=(by decide: ∀y∈([-1,0,8,9]:List Int),wfi y) _ ‹_›},show a.Fh.length≤60 by omega,show a.Ay.length≤60 by omega⟩ (by assumption)
 ·exact okp ⟨{W with first:=(by decide: ∀y∈([-1,9,0]:List Int),wfi y) _ ‹_›},show a.Fh.length≤60 by omega,show a.Ay.length≤60 by omega⟩ (by assumption)
 ·exact okp ⟨{W with done:=(by decide: ∀y∈([-1,0,8,16]:List Int),wfi y) _ ‹_›},show a.Fh.length≤60 by omega,show a.Ay.length≤60 by omega⟩ (by assumption)
 ·exact Apw (A51 (show a.Fh.length≤_ by omega) _) (okp ⟨{W with tags:=A3a W.tags (by omega) ((by decide: ∀y∈([-1,255,256]:List Int),wfi y) _ ‹_›)},by simp;omega,show a.Ay.length≤60 by omega⟩ (by assumption))
 ·exact Apw (A51 (show a.Ay.length≤_ by omega) _) (okp ⟨{W with chunks:=A3a W.chunks (by omega) ((by decide: ∀y∈([-1,0,12]:List Int),wfi y) _ ‹_›)},show a.Fh.length≤60 by omega,by simp;omega⟩ (by assumption))
 ·exact okp ⟨W,show a.Fh.length≤60 by omega,show a.Ay.length≤60 by omega⟩ (by assumption)
end
structure AnyP (w:C4):Prop where
 ww:Ak1 w
 l:w.fL.length≤8
 s:w.fP.Vg.length≤12∧w.fP.N6.length≤12∧w.fP.N5.length≤192
 q:w.fQ.length≤40000
 n: ∀x∈w.fL,SN 80 x
theorem Bbj{l:List Az}(h:Bae l)(hl:l.length≤100000){x:Az}(hx:A1f x):Bae (l++[x]):=by
 refine⟨fun y hy=> ?_,by rw[Z23,List.length_singleton];omega⟩
 rcases Mh.1 hy with hy|hy
 ·exact h.1 y hy
 ·rw[Px.1 hy];exact hx
theorem A7h{α:Type}{l:List α}{P:α->Prop}(h: ∀x∈l,P x)(i:Nat){x:α}(hx:P x): ∀y∈l.set i x,P y:=by
 intro y hy;rcases Z54 hy with hy|rfl
 ·exact h y hy
 ·exact hx
theorem AnyP.node{w:C4}(h:AnyP w)(i:Nat){x:As}(hx:SN 80 x):AnyP (C4.mk w.fC w.fP (w.fL.set i x) w.fQ w.Acw):=
 ⟨{h.ww with l:=A1l h.ww.l i hx.w},by show(w.fL.set i x).length≤8;rw[Z49];exact h.l,h.s,h.q,A7h h.n i hx⟩
section
variable {K:Nat} (hK:281474976710656≤K)
include hK
theorem Bix{c:D0}(hc:Ad7 c){most:Int}(hm:0<most∧most≤1000):OkP (Azp K c most) AnyP:=by
 obtain⟨x,l,w,c',E,n,e,G,hE,hn,hwc,hx,_,_,w1⟩:=run_ok hK hc hm
 have W:=G.ww (by omega) (by omega)
 have I:=G.inv
 have hlen:=I.len;obtain⟨b1,b2,b3,b4,b5,b6⟩:=Gx I.conf
 have P:=Ail.1 I.pool
 have h1:=Bp7 w
 have h2:=Bet w
 have h3:=G.wt
 have p1:=P.st;have p2:=P.own;have p3:=P.mem
 have hmm:=Au0 (a:=w.fC.Ay) (b:=w.fC.G6) (m:=12) (n:=16) (by omega) b1.2 (by omega) b2.2
 have hm0:0<w.fC.Ay*w.fC.G6:=Int.mul_pos (by omega) (by omega)
 have N: ∀y∈w.fL,SN 12 y:=A8e fun k hk=>by
  have hb:=I.node k hk
  have hy:=A27 hb (G.ep k hk) (by omega)
  by_cases s:(gt w.fL k).Vg=1
  ·have X:=Aik.1 ⟨hb,s⟩
   have:=X.nth;have:=X.ntag;have:=Asc X.conf X.dist;exact⟨hy,by omega,by omega,by omega⟩
  ·rw[Axl hb s]at hy ⊢;exact⟨hy,by simp[Aqj],by simp[Aqj],by simp[Aqj]⟩
 have A:AnyP w:=⟨W,by omega,by omega,by omega,fun y hy=>(N y hy).mono (by omega)⟩
 unfold Azp Az9;rw[e,Z0,Z0];refine W2 (Anj K w1 (by dsimp only;omega)) (fun k c2 hk w2=>W2 (Anj K w2 (by omega)) (fun d c3 hd w3=> ?_))
 dsimp only at hk ⊢
 have hg:=Ahf hk.1 hk.2
 have S:=N _ hg
 have SW':=S.w
 have St:=S.t
 have M:=S.mono (k:=80) (by omega)
 unfold Aa2;refine Aim (fun _=>W2 (Bn5 K w3) (fun y c4 hy w4=>okp ⟨{W with c:=hy},A.l,A.s,A.q,A.n⟩ w4)) (fun _=> ?_)
 refine Aim (fun _=>W2 (Anj K w3 (by omega)) (fun y c4 hy w4=>W2 (Anj K w4 (by omega)) (fun z c5 hz w5=>Apw hy (okp ⟨{W with p:={W.p with st:=⟨A7h W.p.st.1 _ (K1 (x:=z) (by omega) (by omega)),by rw[Z49];exact W.p.st.2⟩}},A.l,by dsimp only;rw[Z49];exact A.s,A.q,A.n⟩ w5)))) (fun _=> ?_)
 refine Aim (fun _=>W2 (Anj K w3 (by omega)) (fun y c4 hy w4=>Apw hy (okp ⟨{W with p:={W.p with mem:=⟨A7h W.p.mem.1 _ ⟨by decide,by decide⟩,by rw[Z49];exact W.p.mem.2⟩}},A.l,by dsimp only;rw[Z49];exact A.s,A.q,A.n⟩ w4))) (fun _=> ?_)
 refine Aim (fun _=>W2 (Bn8 hK I.conf w3) (fun y c4 hy w4=>Apw hk (okp (A.node _ (hy.mono (by omega))) w4))) (fun _=> ?_)
 refine Aim (fun _=>W2 (Anj K w3 (by omega)) (fun y c4 hy w4=>Apw hk (okp (A.node _ ⟨{SW' with st:=K1 (x:=y) (by omega) (by omega)},M.c,M.t,M.g⟩) w4))) (fun _=> ?_)
 refine Aim (fun _=>W2 (Anj K w3 (by omega)) (fun y c4 hy w4=>Apw hk (okp (A.node _ ⟨{SW' with up:=K1 (x:=y) (by omega) (by omega)},M.c,M.t,M.g⟩) w4))) (fun _=> ?_)
 refine Aim (fun _=>Apw hk (Apw hk (okp (A.node _ ⟨{SW' with ep:=Ay2 _},M.c,M.t,M.g⟩) w3))) (fun _=> ?_)
 refine Aim (fun _=>W2 (Biw hK I.conf w3) (fun y c4 hy w4=>Apw ?_ (okp ⟨{W with q:=Bbj W.q (by omega) hy.w},A.l,A.s,by simp;omega,A.n⟩ w4))) (fun _=> ?_)
 ·have:=V1;rw[Z23,List.length_singleton];omega
 refine Aim (fun _=>Aim (fun h=> ?_) (fun _=>okp A w3)) (fun _=> ?_)
 ·rw[decide_eq_true_eq]at h;refine Apw ⟨by omega,by omega,by omega⟩ (okp ⟨{W with q:=⟨fun y hy=>W.q.1 y (List.mem_of_mem_drop (Z42 hy)),by have:=W.q.2;simp;omega⟩},A.l,A.s,by have:=A.q;simp;omega,A.n⟩ w3)
 refine Aim (fun _=>Az4 K w3 (by decide) (fun y c4 hy w4=>Apw rfl (Apw ?_ (okp ⟨{W with log:=⟨fun z hz=> ?_,by have:=W.log.2;simp;omega⟩},A.l,A.s,A.q,A.n⟩ w4)))) (fun _=> ?_)
 ·have:=V1;rw[Z23,List.length_singleton];omega
 ·rcases Mh.1 hz with hz|hz
  ·exact W.log.1 z hz
  ·rw[Px.1 hz];exact(by decide: ∀y∈([0,255,256,-1]:List Int),wfi y) _ hy
 refine Aim (fun _=>Apw hk (Apw hk (W2 (Anj K w3 (by omega)) (fun y c4 hy w4=>Apw (Bbh (by omega) _) (Apw hk (okp (A.node _ ((S.thing (by omega) (A9y _ _ _ (K1 (x:=y) (by omega) (by omega)) (K1 (by decide) (by decide)) Ay4)).mono (by omega))) w4)))))) (fun _=> ?_)
 refine Aim (fun _=>W2 (Anj K w3 (by omega)) (fun y c4 hy w4=>Apw hk (okp (A.node _ ⟨{SW' with next:=K1 (x:=y) (by omega) (by omega)},M.c,M.t,M.g⟩) w4))) (fun _=> ?_)
 refine Aim (fun _=>Aim (fun h=> ?_) (fun _=>okp A w3)) (fun _=>okp A w3);rw[decide_eq_true_eq]at h
 refine W2 (Anj K w3 (by omega)) (fun y c4 hy w4=>Apw ⟨by omega,h⟩ (okp ⟨{W with q:=⟨A7h W.q.1 _ {W.q.1 _ (Ahf (i:=0) (by omega) h)with done:=K1 (x:=y) (by omega) (by omega)},by rw[Z49];exact W.q.2⟩},A.l,A.s,by dsimp only;rw[Z49];exact A.q,A.n⟩ w4))
end
section
variable {K:Nat} (hK:281474976710656≤K)
include hK
theorem Bgu{a:List Int}(hb:Axp a)(ha:a.length≤1048576){most:Int}(hm:0<most∧most≤1000): ∃w c,Avf K a most=some (c,w)∧AnyP w∧Ad7 c:=by
 obtain⟨c,e1,w1⟩:=Bn1 hK hb ha;obtain⟨w,c2,e2,A,w2⟩:=Bix hK w1 hm;refine⟨w,c2,?_,A,w2⟩;unfold Avf;rw[e1,Z0,e2];rfl
end
def A49 (w:C4)(mem:List Int):C4:=C4.mk w.fC (Dm.mk mem w.fP.Vg w.fP.N6) w.fL w.fQ w.Acw
section
variable {K:Nat} (hK:281474976710656≤K)
include hK
theorem Bfd{mem s:List Int}(hm:mem.length≤140737488355327)(p:Int):A0w K mem p s=some (bif decide (0≤p∧(0:Int)≤(s.length:Int)∧p+(s.length:Int)≤(mem.length:Int))then(El mem p s,true)else(mem,false)):=by
 unfold A0w;rw[A21 K hm,Bej K hm];simp only[Z0,Wx]
 by_cases h:0≤p∧(0:Int)≤(s.length:Int)∧p+(s.length:Int)≤(mem.length:Int)
 ·rw[decide_eq_true h,cond_true,cond_true,if_pos ⟨h.1,by omega,Int.le_refl _⟩]
  have e:Nat.min s.length (((mem.length:Int) - p).toNat)=s.length:=Nat.min_eq_left (by omega)
  rw[e,List.take_length];rfl
 ·rw[decide_eq_false h];rfl
theorem A68{mem s:List Int}(hm:mem.length≤140737488355327){t:Bc}(wt:ThingW t)(off:Int):Auy K mem t off s=some (A6j mem t off s):=by
 obtain⟨r,h1,h2,h3⟩:=A71 K hm wt off (s.length:Int);unfold Auy A6j A12;rw[h1,Z0,h2,Wx]
 by_cases h:(0≤off∧(0:Int)≤(s.length:Int)∧off+(s.length:Int)≤t.Ajk)∧0≤An3 .i64 t.fAt off∧An3 .i64 t.fAt off+(s.length:Int)≤(mem.length:Int)
 ·rw[decide_eq_true h,cond_true,cond_true,h3 (by rw[h2];exact decide_eq_true h),Bfd hK hm,decide_eq_true ⟨h.2.1,by omega,h.2.2⟩]
  rfl
 ·rw[decide_eq_false h,cond_false,cond_false,A21 K hm];rfl
omit hK in
theorem Bv1{w:C4}(hw:Ak1 w){t:Bc}{off:Int}{s:List Int}(hs: ∀x∈s,0≤x∧x≤255)(h:A12 w.fP.N5 t off s=true):Ak1 (A49 w (El w.fP.N5 (An3 .i64 t.fAt off) s)):=by
 have h:=of_decide_eq_true h;exact⟨hw.c,⟨⟨Bc5 hw.p.mem.1 hs,by show(El _ _ _).length≤_;rw[Ez h.2.1 h.2.2];exact hw.p.mem.2⟩,hw.p.st,hw.p.own⟩,hw.l,hw.q,hw.log⟩
theorem Bfe (w:C4)(hw:Ak1 w)(r:Bq)(off:Int)(s:List Int)(hs:Bd6 s): ∃w' code Ep,Atv K w r off s=some (w',A0e code Ep [])∧A0x K w r off s=some (w',A0e code Ep [])∧Ak1 w'∧(code≠0∧w'=w∨code=0∧Ash w=true∧ ∃k t,Abh K w r=some (k,t,0)∧A12 w.fP.N5 t off s=true∧w'=A49 w (El w.fP.N5 (An3 .i64 t.fAt off) s)):=by
 obtain⟨t,t1,t2,t3⟩:=Ayx hK hw.l r
 have hm:=hw.p.mem.2;unfold Atv A0x Arl Avl;rw[At0 hK hw,Av9 hK w hw,A01 hK w hw,Arn hK hw,Awa hK w hw.l,A4g hK w hw.l,t1,t2];simp only[Z0,Wx];cases hB:Ash w with
 |false=>exact⟨w,1,0,rfl,rfl,hw,.inl ⟨by decide,rfl⟩⟩
 |true=>
  simp only[cond_true];rw[A3d hK hm hs.2 t3,A68 hK hm t3];simp only[Z0,bne,Wx];cases hc:t.2.2==0 with
  |false=>exact⟨w,t.2.2,A0d w r.fH,rfl,rfl,hw,.inl ⟨beq_eq_false_iff_ne.1 hc,rfl⟩⟩
  |true=>
   have e0:t.2.2=0:=beq_iff_eq.1 hc;unfold A6j;cases hwo:A12 w.fP.N5 t.2.1 off s with
   |false=>exact⟨w,7,A0d w r.fH,rfl,rfl,hw,.inl ⟨by decide,rfl⟩⟩
   |true=>exact⟨A49 w (El w.fP.N5 (An3 .i64 t.2.1.fAt off) s),t.2.2,A0d w r.fH,rfl,rfl,Bv1 hw hs.1 hwo,.inr ⟨e0,trivial,t.1,t.2.1,by rw[←e0],hwo,rfl⟩⟩
theorem Bgv{w:C4}(hw:Ak1 w)(hB:Ash w=true){r:Bq}{k:Int}{t:Bc}(h:Abh K w r=some (k,t,0))(wt:ThingW t)(off n:Int):Aqz K w r off n=some (w,A0e (bif (Axy w.fP.N5 t off n).2 then 0 else 7) (A0d w r.fH) (Axy w.fP.N5 t off n).1):=by
 have hm:=hw.p.mem.2;unfold Aqz Arl Ase;rw[A01 hK w hw,Arn hK hw,A4g hK w hw.l,h]
 have e2:C4.mk (D9.mk w.fC.Ay w.fC.G6 w.fC.E5 w.fC.Gs w.fC.E6 w.fC.G7) (Dm.mk w.fP.N5 w.fP.Vg w.fP.N6) w.fL w.fQ w.Acw=w:=rfl;simp only[Z0,e2,Arn hK hw,Wx,hB,cond_true];rw[A3u K hm wt];simp only[Z0,bne,Wx,beq_self_eq_true,cond_true];cases hq:(Axy w.fP.N5 t off n).2 with
 |false=>rw[A6w hq];rfl
 |true=>rfl
theorem Bql{w:C4}(hw:Ak1 w)(hB:Ash w=true){r:Bq}{k c:Int}{t:Bc}(h:Abh K w r=some (k,t,c))(wt:ThingW t)(hc:c≠0)(off n:Int):Aqz K w r off n=some (w,A0e c (A0d w r.fH) []):=by
 unfold Aqz Arl Ase;rw[A01 hK w hw,Arn hK hw,A4g hK w hw.l,h]
 have e2:C4.mk (D9.mk w.fC.Ay w.fC.G6 w.fC.E5 w.fC.Gs w.fC.E6 w.fC.G7) (Dm.mk w.fP.N5 w.fP.Vg w.fP.N6) w.fL w.fQ w.Acw=w:=rfl;simp only[Z0,e2,Arn hK hw,Wx,hB,cond_true];simp only[bne,Wx,Agz hc,cond_false];rfl
theorem A8r{w:C4}(hw:Ak1 w)(hB:Ash w=true){r:Bq}{k c:Int}{t:Bc}(h:Abh K w r=some (k,t,c))(wt:ThingW t):Akq K w r=some (if c=0 then(Axy w.fP.N5 t 0 t.Ajk).1 else []):=by
 have hm:=hw.p.mem.2
 have hx:=V1;unfold Akq Azv;rw[h]
 by_cases hc:c=0
 ·subst hc
  have hl:=A6b (mem:=w.fP.N5) (t:=t) (at_:=0) (n:=t.Ajk);simp only[Z0,Bgv hK hw hB h wt,A0e,Z38,if_true]
 ·simp only[Z0,Bql hK hw hB h wt hc,A0e,Z38,if_neg hc]
theorem A52{w:C4}(hw:Ad1 w.fL){r:Bq}{k:Int}{t:Bc}(h:Abh K w r=some (k,t,0)):(0≤k∧k<(w.fL.length:Int))∧r.fH.Bk=k∧r.fH.C8=(gt w.fL k).C8∧r.Sj=(gt w.fL k).Sj∧(0≤r.fNo∧r.fNo<((gt w.fL k).F4.length:Int))∧t=gt (gt w.fL k).F4 r.fNo:=by
 obtain⟨b,_,e⟩:=A70 K r;unfold Abh at h;rw[e,Z0,A2b hK hw]at h;cases b with
 |false=>simp at h
 |true=>
 simp only[Bool.not_true,cond_false,Z0]at h
 have hp:(Ans w.fL r.fH).2=0->(Ans w.fL r.fH).1=Anz w.fL r.fH∧0≤Anz w.fL r.fH:=by
  intro h0;unfold Ans at h0 ⊢;cases q1:Aul r.fH with
  |false=>rw[q1]at h0;cases h0
  |true=>
   rw[q1]at h0;simp only[cond_true]at h0 ⊢
   by_cases q2:Anz w.fL r.fH<0
   ·rw[decide_eq_true q2]at h0;cases h0
   ·rw[decide_eq_false q2]at h0 ⊢;simp only[cond_false]at h0 ⊢;cases q3:Asf w.fL (Anz w.fL r.fH)with
    |false=>rw[q3]at h0;cases h0
    |true=>exact⟨rfl,by omega⟩
 generalize Ans w.fL r.fH=q at h hp;obtain⟨k0,c0⟩:=q;cases hc:(c0 != 0)with
 |true=>
  rw[hc]at h;simp only[cond_true,Z7,Prod.mk.injEq]at h;rw[h.2.2]at hc;cases hc
 |false=>
 have hc0:c0=0:=by simpa using hc
 obtain⟨p1,p2⟩:=hp hc0
 have p1:k0=Anz w.fL r.fH:=p1
 have pl:(0≤r.fH.Bk∧r.fH.Bk<(w.fL.length:Int))∧(gt w.fL r.fH.Bk).Vg=1∧(gt w.fL r.fH.Bk).C8=r.fH.C8∧k0=r.fH.Bk:=by
  unfold Anz at p1 p2;split at p1
  ·rename_i z;exact⟨z.1,z.2.1,z.2.2,p1⟩
  ·rename_i z;rw[if_neg z]at p2;omega
 obtain⟨z1,z2,z3,rfl⟩:=pl;rw[hc]at h;simp only[cond_false]at h
 have hn:=hw.1 _ (Ahf z1.1 z1.2)
 have hb:=hn.things.2;rw[if_pos z1]at h;unfold Avj at h;rw[z2,Av8,show An4 .i64 ((gt w.fL r.fH.Bk).F4.length:Int) 1=((gt w.fL r.fH.Bk).F4.length:Int) - 1 from by unfold An4;exact K0 (by omega) (by omega)]at h
 simp only[bne_self_eq_false,cond_false,Z0]at h;cases h1:((gt w.fL r.fH.Bk).Sj != r.Sj)with
 |true=>rw[h1]at h;simp at h
 |false=>
 rw[h1]at h;cases h2:inB r.fNo 0 (((gt w.fL r.fH.Bk).F4.length:Int) - 1)with
 |false=>rw[h2]at h;simp at h
 |true=>
 have h3:=Acu.1 h2;rw[h2]at h;simp only[cond_false,Bool.not_true]at h;rw[if_pos ⟨h3.1,by omega⟩]at h
 simp only[Z0,Bool.not_true,cond_false,Z7,Prod.mk.injEq]at h;obtain⟨rfl,rfl,_⟩:=h;exact⟨z1,rfl,z3.symm,by simpa using(Eq.symm (by simpa using h1)),⟨h3.1,by omega⟩,rfl⟩
theorem Bbk{w:C4}(A:AnyP w)(h:Am): ∃l,Auh K w h=some l∧l.length≤1000:=by
 have hw:=A.ww
 have hm:=V1;unfold Auh;rw[A2b hK hw.l,Z0];cases hc:((Ans w.fL h).2 != 0)with
 |true=>exact⟨[],rfl,by simp⟩
 |false=>
 have hc0:(Ans w.fL h).2=0:=by simpa using hc
 have hk:0≤(Ans w.fL h).1∧(Ans w.fL h).1<(w.fL.length:Int):=A7u hc0
 have S:=A.n _ (Ahf hk.1 hk.2)
 have St:=S.t;rw[cond_false,if_pos hk]
 have key: ∀(f i:Nat) (v:List Bq),i≤(gt w.fL (Ans w.fL h).1).F4.length->(gt w.fL (Ans w.fL h).1).F4.length - i<f->v.length=i-> ∃l,Asa K h f v (Ans w.fL h).1 ((gt w.fL (Ans w.fL h).1).F4.length:Int) (i:Int) w.fC.Ay w.fC.G6 w.fC.E5 w.fC.Gs w.fC.E6 w.fC.G7 w.fP.N5 w.fP.Vg w.fP.N6 w.fL w.fQ w.Acw=some l∧l.length≤1000:=by
  intro f
  induction f with
  |zero=>intro i v _ h;omega
  |succ f ih=>
   intro i v hi hf hv;rw[Asa];rcases Hl i (gt w.fL (Ans w.fL h).1).F4.length with q|q
   ·rw[Ad4 q,cond_true,if_pos hk,if_pos ⟨by simp;omega,by simp;omega⟩,Acx (by omega)]
    exact ih (i+1) _ (by omega) (by omega) (by simp;omega)
   ·rw[Ad5 q,cond_false];exact⟨_,rfl,by omega⟩
 exact key K 0 [] (Z21 _) (by omega) rfl
end
theorem Bdd (K:Nat){c:D0}(hc:Ad7 c):OkP (Ayk K c) fun _=>True:=by
 unfold Ayk Avg;obtain⟨h,c1,e,w⟩:=A66 K hc;rw[e,Z0];dsimp only
 repeat' (first|refine Az4 _ (by assumption) (by decide) (fun x c hx hc=>Apw rfl ?_)|refine W2 (Anj _ (by assumption) (by omega)) (fun x c hx hc=> ?_)|refine Aim (fun _=> ?_) (fun _=> ?_))
 all_goals exact okp trivial (by assumption)
theorem Bn9 (K:Nat){c:D0}(hc:Ad7 c):OkP (A0u K c) fun _=>True:=by
 unfold A0u A2z;obtain⟨r,e,w⟩:=Aqk K hc (n:=2) (by omega)
 rw[e,Z0];refine Aim (fun _=>W2 (P:=fun _=>True) (Az4 K w (by decide) (fun x c hx hc=>Apw rfl (okp trivial hc))) (fun x c _ hc=>okp trivial hc)) (fun _=>Az4 K w (by decide) (fun x c hx hc=>Apw rfl (okp trivial hc)))
theorem A6l (K:Nat){c:D0}(hc:Ad7 c):OkP (Aun K c 3) fun _=>True:=by
 unfold Aun;obtain⟨r,e,w⟩:=Aqk K hc (n:=8) (by omega)
 rw[e,Z0];refine Aim (fun _=>W2 (Bn9 K w) (fun x c _ hc=>okp trivial hc)) (fun _=>W2 (Anj K w (by decide)) (fun x c _ hc=>okp trivial hc))
theorem A53 (K:Nat){l:List As}(hl:l.length≤1000)(k:Int): ∃h,Ank K l k=some h:=by
 unfold Ank;rw[Ayu K (by omega),Z0]
 by_cases q:0≤k∧k<(l.length:Int)
 ·rw[decide_eq_true q,Bool.not_true,cond_false,if_pos q];exact⟨_,rfl⟩
 ·rw[decide_eq_false q];exact⟨_,rfl⟩
section
variable {K:Nat} (hK:281474976710656≤K)
include hK
omit hK in
theorem A2e (K:Nat){c:D0}(hc:Ad7 c)(h z:Am):OkP (Ap0 K c.fb c.fi c.fh h z) fun _=>True:=by
 unfold Ap0 Atw;obtain⟨r,e,w⟩:=Aqk K hc (n:=10) (by omega)
 rw[show D0.mk c.fb c.fi c.fh=c from rfl,e,Z0]
 exact Aim (fun _=>okp trivial w) (fun _=>okp trivial w)
theorem Bbl{w:C4}(A:AnyP w){c:D0}(hc:Ad7 c):OkP (Av2 K c w) fun _=>True:=by
 have hl:=A.l;unfold Av2;refine Aim (fun _=>W2 (Bdd K hc) (fun x c _ hc=>okp trivial hc)) (fun h0=> ?_)
 have h0:w.fL.length≠0:=fun e=>by rw[e]at h0;cases h0
 obtain⟨r,e,w1⟩:=Aqk K hc (n:=6) (by omega)
 rw[e,Z0];refine Aim (fun _=>W2 (Bdd K w1) (fun x c _ hc=>okp trivial hc)) (fun _=>W2 (Anj K w1 (by omega)) (fun x c2 hx w2=> ?_))
 obtain⟨h1,e1⟩:=A53 K (l:=w.fL) (by omega) x
 obtain⟨rs,e2,h2,h3⟩:=A46 hK A.ww (by omega)
 dsimp only;rw[e1,Z0,e2,Z0];refine Aim (fun hp=> ?_) (fun _=>A2e K w2 _ (Am.mk 0 0));rw[decide_eq_true_eq]at hp;obtain⟨r2,e3,w3⟩:=Aqk K w2 (n:=4) (by omega)
 rw[e3,Z0];refine Aim (fun _=>W2 (Anj K w3 (by omega)) (fun y c4 hy w4=>Apw hy ?_)) (fun _=>A2e K w3 _ (Am.mk 0 0))
 obtain⟨h4,e4⟩:=A53 K (l:=w.fL) (by omega) (gt rs y)
 dsimp only;rw[e4];exact A2e K w4 _ (Am.mk 0 0)
theorem A9z{w:C4}(A:AnyP w){c:D0}(hc:Ad7 c):OkP (Awl K c w) fun _=>True:=by
 have hl:=A.l;unfold Awl Arv;refine W2 (Bbl hK A hc) (fun h c1 _ w1=>W2 (Anj K w1 (by omega)) (fun x c2 hx w2=> ?_))
 dsimp only;rw[A00 K (by omega),Z0]
 refine Aim (fun hp=> ?_) (fun _=>okp trivial w2);rw[decide_eq_true_eq]at hp
 have hk:0≤Anz w.fL h∧Anz w.fL h<(w.fL.length:Int):=by
  unfold Anz at hp ⊢;split at hp
  ·rename_i q;rw[if_pos q];exact q.1
  ·omega
 obtain⟨r2,e3,w3⟩:=Aqk K w2 (n:=6) (by omega)
 rw[e3,Z0];refine Aim (fun _=>Apw hk (Apw hk (Aim (fun q=> ?_) (fun _=>okp trivial w3)))) (fun _=>okp trivial w3);rw[decide_eq_true_eq]at q;exact W2 (Anj K w3 (by omega)) (fun y c4 hy w4=>okp trivial w4)
theorem Bbm{a:List Int}(hb:Axp a)(ha:a.length≤1048576): ∃w r off s,Av3 K a=some (w,r,off,s)∧AnyP w∧Axp s∧s.length≤1000:=by
 obtain⟨w,c,e1,A,w1⟩:=Bgu hK hb ha (most:=40) (by omega)
 obtain⟨r,c2,e2,_,w2⟩:=A9z hK A w1;obtain⟨off,c3,e3,_,w3⟩:=A6l K w2;obtain⟨n,c4,e4,hn,w4⟩:=Anj K w3 (n:=4) (by omega)
 obtain⟨s,c5,e5,hs,hl,_⟩:=A48 hK w4 (n:=n) (by omega)
 refine⟨w,r,off,s,?_,A,hs,hl⟩;unfold Av3;simp only[e1,Z0,e2,e3,e4,e5]
theorem Bde{a:List Int}(hb:Axp a)(ha:a.length≤1048576): ∃w r off n,Axe K a=some (w,r,off,n)∧AnyP w:=by
 obtain⟨w,c,e1,A,w1⟩:=Bgu hK hb ha (most:=40) (by omega)
 obtain⟨r,c2,e2,_,w2⟩:=A9z hK A w1;obtain⟨off,c3,e3,_,w3⟩:=A6l K w2;obtain⟨n,c4,e4,_,w4⟩:=A6l K w3;refine⟨w,r,off,n,?_,A⟩;unfold Axe;simp only[e1,Z0,e2,e3,e4]
end
end Go.Proofs.YtcdojenmonmcfaaGreat
