/- The plain law for FnTold; no condition. -/
import Derived.Test.YtplfjgdlpbdojaaGreatFFnToldPa
set_option linter.all false
namespace Go.Proofs.YtplfjgdlpbdojaaGreat
open Go.Eng Go.ChangeShapes Go.WideShapes Go.ChangeAt Go.RowKit
def lnk (n:A8)(fi nx pv:Int):A8:=A8.mk n.Yq n.C6 n.Sy n.fUp n.Wk fi nx pv n.A6 n.Afu n.Wn n.H7 n.F3
theorem Ao4{l:List A8}{j x:Int}(hj:0≤j∧j<(l.length:Int))(hx:0≤x∧x<(l.length:Int))(v:A8):gt (l.set j.toNat v) x=if x=j then v else gt l x:=by
 by_cases e:x=j
 ·subst e;rw[if_pos rfl,Axn hj]
 ·rw[if_neg e,Axo hj.1 hx (Ne.symm e)]
theorem Ba9{l:List A8}{n:Int}(h0:0≤n)(h1:n≤l.length)(h2:l.length≤8):plB l n= !(n==0):=by
 have:=A35 (l:=l) h0 (by omega:n≤1000)
 by_cases e:n=0
 ·rw[e];rw[e]at this;cases h:plB l 0 with
  |false=>rfl
  |true=>have:=this.1 h;omega
 ·rw[this.2 ⟨by omega,by omega⟩,Ail e];rfl
theorem A5w{l:List A8}(R:Rg l){k x:Int}(hk:0≤k∧k<(l.length:Int))(hx:0≤x∧x<(l.length:Int)):
  gt (A17 l k) x=lnk (gt l x) (if(gt l k).Wm=0∧x+1=(gt l k).fUp∧(gt l x).Er=k+1 then(gt l k).Wl else(gt l x).Er) (if x+1=(gt l k).Wm then(gt l k).Wl else(gt l x).Wl) (gt l x).Wm:=by
 obtain⟨r1,r2,r3,r4⟩:=R.rg k hk
 have hl:=R.len;unfold A17;rw[Ba9 r4.1 r4.2 hl,Ba9 r1.1 r1.2 hl,sb1 (x:=(gt l k).Wm) (by omega) (by omega),sb1 (x:=(gt l k).fUp) (by omega) (by omega),ad1 (by omega) (by omega)]
 by_cases h:(gt l k).Wm=0
 ·rw[h];simp only[beq_self_eq_true,Bool.not_true,cond_false,Z30];rw[if_neg (by omega: ¬x+1=0)]
  by_cases h2:(gt l k).fUp=0
  ·rw[h2,if_neg (by omega)];rfl
  ·rw[Ail h2];simp only[Bool.not_false,Z30]
   by_cases h3:(gt l ((gt l k).fUp - 1)).Er=k+1
   ·rw[h3,beq_self_eq_true,cond_true,Ao4 (by omega) hx]
    by_cases e:x=(gt l k).fUp - 1
    ·rw[if_pos e,e,h3,if_pos ⟨trivial,by omega,rfl⟩];rfl
    ·rw[if_neg e,if_neg (by omega)];rfl
   ·rw[Ail h3,cond_false,if_neg]
    ·rfl
    ·rintro⟨_,a,b⟩;rw[←a,Int.add_sub_cancel]at h3;exact h3 b
 ·rw[Ail h];simp only[Bool.not_false,cond_true];rw[Ao4 (by omega) hx,if_neg (fun q:(gt l k).Wm=0∧x+1=(gt l k).fUp∧(gt l x).Er=k+1=>h q.1)]
  by_cases e:x=(gt l k).Wm - 1
  ·have e2:x+1=(gt l k).Wm:=by omega
   rw[if_pos e,if_pos e2,←e];rfl
  ·have e2: ¬x+1=(gt l k).Wm:=by omega
   rw[if_neg e,if_neg e2];rfl
theorem A1k{l:List A8}(R:Rg l){k x:Int}(hk:0≤k∧k<(l.length:Int))(hx:0≤x∧x<(l.length:Int))(hne:x≠k):
  gt (Aoq l k) x=lnk (gt l x) (if(gt l k).Wm=0∧x+1=(gt l k).fUp∧(gt l x).Er=k+1 then(gt l k).Wl else(gt l x).Er) (if x+1=(gt l k).Wm then(gt l k).Wl else(gt l x).Wl) (if x+1=(gt l k).Wl then(gt l k).Wm else(gt l x).Wm):=by
 obtain⟨r1,r2,r3,r4⟩:=R.rg k hk
 have hl:=R.len
 have hl0:=A0v l k;unfold Aoq A1i;rw[Ao4 (by rw[A16,hl0];exact hk) (by rw[A16,hl0];exact hx),if_neg hne]
 unfold A30;rw[Ba9 r3.1 r3.2 hl,sb1 (by omega) (by omega)]
 by_cases h:(gt l k).Wl=0
 ·rw[h];simp only[beq_self_eq_true,Bool.not_true,cond_false];rw[A5w R hk hx,h,if_neg (by omega: ¬x+1=0)]
 ·rw[Ail h];simp only[Bool.not_false,cond_true];rw[Ao4 (by rw[hl0];omega) (by rw[hl0];exact hx)]
  by_cases e:x=(gt l k).Wl - 1
  ·have e2:x+1=(gt l k).Wl:=by omega
   rw[if_pos e,if_pos e2,←e,A5w R hk hx];rfl
  ·have e2: ¬x+1=(gt l k).Wl:=by omega
   rw[if_neg e,if_neg e2,A5w R hk hx]
theorem Awb (l:List A8)(k:Int):(Aoq l k).length=l.length:=by unfold Aoq A1i;rw[Z49,A16,A0v]
theorem A6n{c:D4}{n:A8}(X:Avf c n){fi nx pv:Int}(h1:0≤fi∧fi≤c.Fj)(h2:0≤nx∧nx≤c.Fj)(h3:0≤pv∧pv≤c.Fj):Avf c (lnk n fi nx pv):=
 ⟨X.conf,X.st,X.gen,X.up,h1,h2,h3,X.ep,X.ue,X.dist,X.cur,X.nth,X.ntag,X.tags,X.things⟩
theorem Bkk{l:List A8}{t:Int->Lk}(A:AtT l t)(R:Rg l){k:Int}(hk:0≤k∧k<(l.length:Int))(g:Int):AtT ((Aoq l k).set k.toNat (Aq1 2 g)) (rem t k):=by
 intro x hx;rw[Z49,Awb]at hx;rw[Ao4 (by rw[Awb];exact hk) (by rw[Awb];exact hx)]
 by_cases e:x=k
 ·subst e;rw[A31,if_pos rfl];rfl
 ·rw[Akc e,if_neg e,A1k R hk hx e,A x hx,A k hk];rfl
theorem A0w{l:List Int}{j x:Int}(hj:0≤j)(hx:0≤x∧x<(l.length:Int))(v:Int):gt (l.set j.toNat v) x=if x=j then v else gt l x:=by
 have h1:x.toNat<(l.set j.toNat v).length:=by simp;omega
 have h2:x.toNat<l.length:=by omega
 have e1:gt (l.set j.toNat v) ((x.toNat:Nat):Int)=if x=j then v else gt l ((x.toNat:Nat):Int):=by
  rw[Acm h1,Acm h2,List.getElem_set]
  by_cases e:x=j
  ·rw[if_pos e,if_pos (by omega)]
  ·rw[if_neg e,if_neg (by omega)]
 rwa[show((x.toNat:Nat):Int)=x by omega]at e1
structure A5f (c:D4)(p:Dh):Prop where
 conf:Ak5 c=true
 mem:(p.Sk.length:Int)=c.A6*c.Kh
 st:(p.Yq.length:Int)=c.A6
 own:(p.Sl.length:Int)=c.A6
 one: ∀k,0≤k∧k<c.A6->(0≤gt p.Yq k∧gt p.Yq k≤2)∧(gt p.Yq k=1->0≤gt p.Sl k∧gt p.Sl k<c.Fj)∧(gt p.Yq k≠1->gt p.Sl k= -1)∧(gt p.Yq k=0->Apd (As7 c p.Sk k)=true)
theorem Bd5{c:D4}{p:Dh}{k:Nat}:Ayg c p k=true ↔ (0≤gt p.Yq (k:Int)∧gt p.Yq (k:Int)≤2)∧(gt p.Yq (k:Int)=1->0≤gt p.Sl (k:Int)∧gt p.Sl (k:Int)<c.Fj)∧(gt p.Yq (k:Int)≠1->gt p.Sl (k:Int)= -1)∧(gt p.Yq (k:Int)=0->Apd (As7 c p.Sk k)=true):=by
 unfold Ayg;rw[Z4,Z4,Age];refine and_congr Iff.rfl ?_
 by_cases e:gt p.Yq (k:Int)=1
 ·rw[e];simp only[beq_self_eq_true,cond_true,Age];constructor
  ·rintro⟨a,b⟩;exact⟨fun _=>by omega,fun h=>absurd rfl h,fun h=>(by cases h)⟩
  ·rintro⟨a,b,c⟩;exact⟨by have:=a trivial;omega,rfl⟩
 ·rw[Ail e];simp only[cond_false,beq_iff_eq]
  by_cases f:gt p.Yq (k:Int)=0
  ·rw[f];simp only[beq_self_eq_true,cond_true];constructor
   ·rintro⟨a,b⟩;exact⟨fun h=>(by cases h),fun _=>a,fun _=>b⟩
   ·rintro⟨a,b,c⟩;exact⟨b (by decide),c trivial⟩
  ·rw[Ail f];simp only[cond_false];constructor
   ·rintro⟨a,b⟩;exact⟨fun h=>absurd h e,fun _=>a,fun h=>absurd h f⟩
   ·rintro⟨a,b,c⟩;exact⟨b e,trivial⟩
theorem Ak7{c:D4}{p:Dh}:Aty c p=true ↔ A5f c p:=by
 constructor
 ·intro h;obtain⟨h1,h2,h3,h4,h5⟩:=Asu h;refine⟨h1,h2,h3,h4,fun k hk=> ?_⟩
  have:=Bd5.1 (h5 k.toNat (by omega))
  rwa[show((k.toNat:Nat):Int)=k by omega]at this
 ·intro h;obtain⟨b1,_⟩:=Ap h.conf;unfold Aty;simp only[Z4,beq_iff_eq,Z1,List.mem_range];refine⟨h.conf,by rw[h.mem];unfold Amv;rw[h.conf];rfl,h.st,h.own,fun k hk=> ?_⟩
  exact Bd5.2 (h.one k (by omega))
theorem Bf0 (cs:List Int): ∀(p:Dh),p.Sl.length=p.Yq.length->(Akb p cs).Sk=p.Sk∧(Akb p cs).Yq.length=p.Yq.length∧(Akb p cs).Sl.length=p.Sl.length∧ ∀c,0≤c∧c<(p.Yq.length:Int)→
  gt (Akb p cs).Yq c=(if c∈cs∧gt p.Yq c=1 then 2 else gt p.Yq c)∧gt (Akb p cs).Sl c=(if c∈cs∧gt p.Yq c=1 then -1 else gt p.Sl c):=by
 induction cs with
 |nil=>intro p _;refine⟨rfl,rfl,rfl,fun c _=> ?_⟩;simp[Akb]
 |cons k cs ih=>
  intro p hl
  have h1:(Az1 p k).Sk=p.Sk∧(Az1 p k).Yq.length=p.Yq.length∧(Az1 p k).Sl.length=p.Sl.length:=by
   unfold Az1;split<;>simp
  obtain⟨a,b,c,d⟩:=ih (Az1 p k) (by omega)
  refine⟨a.trans h1.1,b.trans h1.2.1,c.trans h1.2.2,fun x hx=> ?_⟩;obtain⟨d1,d2⟩:=d x (by rw[h1.2.1];exact hx)
  have e1:gt (Az1 p k).Yq x=if x=k∧gt p.Yq x=1 then 2 else gt p.Yq x:=by
   unfold Az1
   by_cases q:(0≤k∧k<(p.Yq.length:Int)∧k<(p.Sl.length:Int))∧gt p.Yq k=1
   ·rw[if_pos q];simp only;rw[A0w q.1.1 hx]
    by_cases e:x=k
    ·rw[if_pos e,if_pos ⟨e,e ▸ q.2⟩]
    ·rw[if_neg e,if_neg (fun f=>e f.1)]
   ·rw[if_neg q,if_neg];rintro⟨rfl,f⟩;exact q ⟨⟨hx.1,hx.2,by omega⟩,f⟩
  have e2:gt (Az1 p k).Sl x=if x=k∧gt p.Yq x=1 then -1 else gt p.Sl x:=by
   unfold Az1
   by_cases q:(0≤k∧k<(p.Yq.length:Int)∧k<(p.Sl.length:Int))∧gt p.Yq k=1
   ·rw[if_pos q];simp only;rw[A0w q.1.1 (by omega)]
    by_cases e:x=k
    ·rw[if_pos e,if_pos ⟨e,e ▸ q.2⟩]
    ·rw[if_neg e,if_neg (fun f=>e f.1)]
   ·rw[if_neg q,if_neg];rintro⟨rfl,f⟩;exact q ⟨⟨hx.1,hx.2,by omega⟩,f⟩
  show gt (Akb (Az1 p k) cs).Yq x=_∧gt (Akb (Az1 p k) cs).Sl x=_;rw[d1,d2,e1,e2]
  by_cases q:gt p.Yq x=1
  ·by_cases e:x=k
   ·subst e;simp[q]
   ·simp[q,e]
  ·simp[q]
theorem Azc{w:Ds}(I:Inv w){k:Int}(hk:0≤k∧k<(w.fL.length:Int)):
  A5f w.fC (Akb w.fP (gt w.fL k).A6)∧(Akb w.fP (gt w.fL k).A6).Sk=w.fP.Sk∧
  ∀c,0≤c∧c<w.fC.A6->gt (Akb w.fP (gt w.fL k).A6).Yq c=(if c∈(gt w.fL k).A6 then 2 else gt w.fP.Yq c)∧gt (Akb w.fP (gt w.fL k).A6).Sl c=(if c∈(gt w.fL k).A6 then -1 else gt w.fP.Sl c):=by
 have P:=Ak7.1 I.pool;obtain⟨a,b,c,d⟩:=Bf0 (gt w.fL k).A6 w.fP (by have:=P.st;have:=P.own;omega)
 have key: ∀c,0≤c∧c<w.fC.A6->gt (Akb w.fP (gt w.fL k).A6).Yq c=(if c∈(gt w.fL k).A6 then 2 else gt w.fP.Yq c)∧gt (Akb w.fP (gt w.fL k).A6).Sl c=(if c∈(gt w.fL k).A6 then -1 else gt w.fP.Sl c):=by
  intro x hx;obtain⟨d1,d2⟩:=d x (by rw[P.st];exact hx)
  rw[d1,d2]
  by_cases e:x∈(gt w.fL k).A6
  ·have:=((I.own k hk x).1 e).2.1
   have q:x∈(gt w.fL k).A6∧gt w.fP.Yq x=1:=⟨e,this⟩;simp only[if_pos q,if_pos e,and_self]
  ·have q: ¬(x∈(gt w.fL k).A6∧gt w.fP.Yq x=1):=fun q=>e q.1;simp only[if_neg q,if_neg e,and_self]
 refine⟨⟨P.conf,by rw[a];exact P.mem,by rw[b];exact P.st,by rw[c];exact P.own,fun x hx=> ?_⟩,a,key⟩
 obtain⟨k1,k2⟩:=key x hx;obtain⟨p1,p2,p3,p4⟩:=P.one x hx;rw[k1,k2,a]
 by_cases e:x∈(gt w.fL k).A6
 ·rw[if_pos e,if_pos e];exact⟨by omega,fun h=>by omega,fun _=>rfl,fun h=>by omega⟩
 ·rw[if_neg e,if_neg e];exact⟨p1,p2,p3,p4⟩
theorem A5x (q:List Av)(x:Av):chL (q++[x])=chL q++x.A6:=by unfold chL;rw[List.flatMap_append];simp
theorem A5y (q:List Av)(x:Av):slL (q++[x])=slL q++(if x.Be=0 then []else [Ana .i64 x.Be 1]):=by unfold slL;rw[List.flatMap_append];simp
theorem A6o (q:List Av)(x:Av):Aq4 (q++[x])=Aq4 q++[(x.Be,x.Er)]:=by simp[Aq4]
theorem A2c{c:D4}{n:A8}(h:Avf c n){s:Int}(hs:0≤s∧s≤c.Fj):Ami c (Ah8 n s)=true:=by
 obtain⟨_,b,_⟩:=Ap h.conf;unfold Ami Ah8;simp only[Z4,Age,decide_eq_true_eq,Bool.or_eq_true,beq_iff_eq];exact⟨h.conf,hs,h.first,by have:=h.ntag;omega,h.tags,h.dist,by omega,.inr trivial⟩
theorem A6p (w:Ds)(n:A8)(s:Int):Aol w (Ah8 n s)=true:=by
 unfold Aol Ah8 Apd;simp
theorem A9k{w:Ds}(I:Inv w){k:Int}(hk:0≤k∧k<(w.fL.length:Int)):(chL w.fQ++(gt w.fL k).A6).Nodup:=
 Adx.2 ⟨I.chn,Axy (A5e (I.node k hk)),fun x h1 h2=>by have:=((I.chi x).1 h1).2;have:=((I.own k hk x).1 h2).2.1;omega⟩
theorem A9l{w:Ds}(I:Inv w){k:Int}(hk:0≤k∧k<(w.fL.length:Int))(c:Int):c∈chL w.fQ++(gt w.fL k).A6 ↔ (0≤c∧c<w.fC.A6)∧gt (Akb w.fP (gt w.fL k).A6).Yq c=2:=by
 rw[F8,I.chi];constructor
 ·rintro(⟨a,b⟩|h)
  ·refine⟨a,?_⟩;rw[((Azc I hk).2.2 c a).1];split
   ·rfl
   ·exact b
  ·have a:=((I.own k hk c).1 h).1;rw[((Azc I hk).2.2 c a).1,if_pos h];exact⟨a,rfl⟩
 ·rintro⟨a,b⟩;rw[((Azc I hk).2.2 c a).1]at b;split at b
  ·rename_i h;exact .inr h
  ·exact .inl ⟨a,b⟩
theorem A72{w:Ds}(I:Inv w){t:Int->Lk}(A:AtT w.fL t)(F:Agn w.fL.length t (Aq4 w.fQ)){k:Int}(h:Al w.fL.length t k):Inv (Ain w k):=by
 have hl:=h.lv
 have hk:=hl.1
 have P:=I.live A hl
 have R:=I.rg;obtain⟨L1,L2,L3⟩:=Azc I hk;obtain⟨_,_,b3,_⟩:=Ap I.conf
 have hlen:=I.len
 have e1:Am9 .i64 k 1=k+1:=ad1 (by omega) (by omega)
 have hN:(Ain w k).fL.length=w.fL.length:=by unfold Ain;simp only;rw[Z49,Awb]
 have hg: ∀x,0≤x∧x<(w.fL.length:Int)->gt (Ain w k).fL x=if x=k then Aq1 2 (gt (Aoq w.fL k) k).C6 else gt (Aoq w.fL k) x:=fun x hx=>by
  unfold Ain;simp only;rw[Ao4 (by rw[Awb];exact hk) (by rw[Awb];exact hx)];rfl
 have hgen:(gt (Aoq w.fL k) k).C6=(gt w.fL k).C6:=by
  unfold Aoq A1i;rw[Axn (by rw[A16,A0v];exact hk)]
  show(gt (A30 w.fL (A17 w.fL k) k _ _) k).C6=_;unfold A30
  have h0:(gt (A17 w.fL k) k).C6=(gt w.fL k).C6:=by rw[A5w R hk hk];rfl
  obtain⟨_,_,r3,_⟩:=R.rg k hk
  have hl8:=R.len;rw[Ba9 r3.1 r3.2 hl8,sb1 (by omega) (by omega)]
  by_cases e:(gt w.fL k).Wl=0
  ·rw[e];exact h0
  ·rw[Ail e];simp only[Bool.not_false,cond_true];rw[Ao4 (by rw[A0v];omega) (by rw[A0v];exact hk)]
   split
   ·rename_i e2;rw[←e2];exact h0
   ·exact h0
 refine⟨Ak7.2 L1,by rw[hN];exact hlen,fun x hx=> ?_,fun x hx c=> ?_,fun x hx=> ?_,⟨rem t k,?_,?_⟩,fun x hx=> ?_,?_,fun c=> ?_,?_,fun s=> ?_,I.log⟩
 ·rw[hN]at hx;rw[hg x hx]
  by_cases e:x=k
  ·rw[if_pos e,hgen];exact A2u I.conf (by omega) (by omega) P.gen
  ·rw[if_neg e,A1k R hk hx e]
   by_cases hs:(gt w.fL x).Yq=1
   ·have X:=Amj.1 ⟨I.node x hx,hs⟩;obtain⟨a1,a2,a3,a4⟩:=A3h (I.node k hk);refine(Amj.2 (A6n X ?_ ?_ ?_)).1
    ·split
     ·exact a3
     ·exact X.first
    ·split
     ·exact a3
     ·exact X.next
    ·split
     ·exact a4
     ·exact X.prev
   ·have X:=Axr (I.node x hx) hs
    have B:=(A6g F.tree hl).bare x hx.1 hx.2 (by rw[Akc e,A x hx];simpa[A2a]using hs)
    rw[Akc e,A x hx,A k hk]at B;obtain⟨_,B2,B3,B4⟩:=B
    have q1:(if(gt w.fL k).Wm=0∧x+1=(gt w.fL k).fUp∧(gt w.fL x).Er=k+1 then(gt w.fL k).Wl else(gt w.fL x).Er)=0:=B2
    have q2:(if x+1=(gt w.fL k).Wm then(gt w.fL k).Wl else(gt w.fL x).Wl)=0:=B3
    have q3:(if x+1=(gt w.fL k).Wl then(gt w.fL k).Wm else(gt w.fL x).Wm)=0:=B4
    have this:lnk (gt w.fL x) 0 0 0=gt w.fL x:=by rw[X];rfl
    rw[q1,q2,q3];rw[this];exact I.node x hx
 ·rw[hN]at hx;rw[hg x hx]
  show c∈_ ↔ (0≤c∧c<w.fC.A6)∧gt (Akb w.fP (gt w.fL k).A6).Yq c=1∧gt (Akb w.fP (gt w.fL k).A6).Sl c=x
  by_cases e:x=k
  ·rw[if_pos e];constructor
   ·intro q;cases q
   ·rintro⟨a,b,d⟩;rw[(L3 c a).1]at b;rw[(L3 c a).2]at d;split at b
    ·omega
    ·rename_i q;rw[if_neg q]at d;exact absurd ((I.own k hk c).2 ⟨a,b,by omega⟩) q
  ·rw[if_neg e,A1k R hk hx e]
   show c∈(gt w.fL x).A6 ↔ _;rw[I.own x hx c];constructor
   ·rintro⟨a,b,d⟩
    have q:c ∉ (gt w.fL k).A6:=fun q=>e (by have:=((I.own k hk c).1 q).2.2;omega)
    rw[(L3 c a).1,(L3 c a).2,if_neg q,if_neg q];exact⟨a,b,d⟩
   ·rintro⟨a,b,d⟩;rw[(L3 c a).1]at b;rw[(L3 c a).2]at d;split at b
    ·omega
    ·rename_i q;rw[if_neg q]at d;exact⟨a,b,d⟩
 ·rw[hN]at hx;rw[hg x hx]
  by_cases e:x=k
  ·rw[if_pos e];exact⟨rfl,rfl,rfl⟩
  ·rw[if_neg e,A1k R hk hx e];obtain⟨t1,t2,t3⟩:=I.thing x hx;refine⟨t1,t2,?_⟩
   show Aq3 w.fC (Akb w.fP (gt w.fL k).A6).Sk _=true;rw[L2];exact t3
 ·exact Bkk A R hk _
 ·show Agn ((Ain w k).fL.length:Int) _ (Aq4 (w.fQ++[_]));rw[hN,A6o,e1]
  have:=A33 F h;rw[A k hk]at this;exact this
 ·have hx:x∈w.fQ++[Ah8 (gt w.fL k) (Am9 .i64 k 1)]:=hx
  show Ami w.fC x=true∧_;rcases F8.1 hx with hx|hx
  ·obtain⟨a,b⟩:=I.wrec x hx;refine⟨a,?_⟩;unfold Aol at b ⊢
   show(_||Apd (((Akb w.fP (gt w.fL k).A6).Sk.drop (gt x.A6 0*w.fC.Kh).toNat).take x.Wo.toNat))=true
   rw[L2];exact b
  ·rw[Mk.1 hx,e1];exact⟨A2c P (by omega),A6p _ _ _⟩
 ·show(chL (w.fQ++[_])).Nodup;rw[A5x];exact A9k I hk
 ·show c∈chL (w.fQ++[_]) ↔ _;rw[A5x];exact A9l I hk c
 ·show(slL (w.fQ++[Ah8 (gt w.fL k) (Am9 .i64 k 1)])).Nodup;rw[A5y,e1]
  show(slL w.fQ++(if k+1=0 then []else [Ana .i64 (k+1) 1])).Nodup
  rw[if_neg (by omega),sb1 (by omega) (by omega),Int.add_sub_cancel]
  exact Adx.2 ⟨I.sln,by simp,fun x h1 h2=>by rw[Mk]at h2;subst h2;have:=((I.sli x).1 h1).2;have:=P.st;omega⟩
 ·show s∈slL (w.fQ++[Ah8 (gt w.fL k) (Am9 .i64 k 1)]) ↔ _;rw[A5y,e1,hN]
  show s∈slL w.fQ++(if k+1=0 then []else [Ana .i64 (k+1) 1]) ↔ _
  rw[if_neg (by omega),sb1 (by omega) (by omega),Int.add_sub_cancel,F8,Mk,I.sli]
  constructor
  ·rintro(⟨a,b⟩|a)
   ·refine⟨a,?_⟩
    have e:s≠k:=fun e=>by rw[e,P.st]at b;cases b
    rw[hg s a,if_neg e,A1k R hk a e];exact b
   ·rw[a,hg k hk,if_pos rfl];exact⟨hk,rfl⟩
  ·rintro⟨a,b⟩
   by_cases e:s=k
   ·exact .inr e
   ·rw[hg s a,if_neg e,A1k R hk a e]at b;exact .inl ⟨a,b⟩
theorem Bs5{l:List A8}{t:Int->Lk}(A:AtT l t){k:Int}(hk:0≤k∧k<(l.length:Int))(h0:0≤(gt l k).Sy)(h1:(gt l k).Sy≤1000000000):AtT (l.set k.toNat (Axm (gt l k))) (emp t k):=by
 intro x hx;rw[Z49]at hx;rw[Ao4 hk hx]
 by_cases e:x=k
 ·subst e;rw[A70,if_pos rfl,A x hx];unfold Axm A2a;simp only;rw[ad1 (by omega) h1]
 ·rw[A5d e,if_neg e,A x hx]
theorem Bf1{w:Ds}(I:Inv w){t:Int->Lk}(A:AtT w.fL t)(F:Agn w.fL.length t (Aq4 w.fQ)){k:Int}(h:Al w.fL.length t k)(hE:(gt w.fL k).Sy≤1000000000):Inv (Azw w k):=by
 have hl:=h.lv
 have hk:=hl.1
 have P:=I.live A hl;obtain⟨L1,L2,L3⟩:=Azc I hk
 have hN:(Azw w k).fL.length=w.fL.length:=by unfold Azw;simp only;rw[Z49]
 have hg: ∀x,0≤x∧x<(w.fL.length:Int)->gt (Azw w k).fL x=if x=k then Axm (gt w.fL k)else gt w.fL x:=fun x hx=>Ao4 hk hx _
 obtain⟨_,b2,b3,_⟩:=Ap I.conf;refine⟨Ak7.2 L1,by rw[hN];exact I.len,fun x hx=> ?_,fun x hx c=> ?_,fun x hx=> ?_,⟨emp t k,?_,?_⟩,fun x hx=> ?_,?_,fun c=> ?_,?_,fun s=> ?_,I.log⟩
 ·rw[hN]at hx;rw[hg x hx]
  show Aqe w.fC _=true
  by_cases e:x=k
  ·rw[if_pos e];exact((Amj (n:=Axm (gt w.fL k))).2 ⟨P.conf,P.st,P.gen,P.up,⟨Int.le_refl _,by show(0:Int)≤_;omega⟩,P.next,P.prev,by show 0≤Am9 .i64 _ 1;rw[ad1 (by have:=P.ep;omega) hE];have:=P.ep;omega,P.ue,rfl,rfl,Z21 _,Z21 _,rfl,rfl⟩).1
  ·rw[if_neg e];exact I.node x hx
 ·rw[hN]at hx;rw[hg x hx]
  show c∈_ ↔ (0≤c∧c<w.fC.A6)∧gt (Akb w.fP (gt w.fL k).A6).Yq c=1∧gt (Akb w.fP (gt w.fL k).A6).Sl c=x
  by_cases e:x=k
  ·rw[if_pos e];constructor
   ·intro q;cases q
   ·rintro⟨a,b,d⟩;rw[(L3 c a).1]at b;rw[(L3 c a).2]at d;split at b
    ·omega
    ·rename_i q;rw[if_neg q]at d;exact absurd ((I.own k hk c).2 ⟨a,b,by omega⟩) q
  ·rw[if_neg e,I.own x hx c];constructor
   ·rintro⟨a,b,d⟩
    have q:c ∉ (gt w.fL k).A6:=fun q=>e (by have:=((I.own k hk c).1 q).2.2;omega)
    rw[(L3 c a).1,(L3 c a).2,if_neg q,if_neg q];exact⟨a,b,d⟩
   ·rintro⟨a,b,d⟩;rw[(L3 c a).1]at b;rw[(L3 c a).2]at d;split at b
    ·omega
    ·rename_i q;rw[if_neg q]at d;exact⟨a,b,d⟩
 ·rw[hN]at hx;rw[hg x hx]
  by_cases e:x=k
  ·rw[if_pos e];exact⟨rfl,rfl,rfl⟩
  ·rw[if_neg e];obtain⟨t1,t2,t3⟩:=I.thing x hx;refine⟨t1,t2,?_⟩
   show Aq3 w.fC (Akb w.fP (gt w.fL k).A6).Sk _=true;rw[L2];exact t3
 ·exact Bs5 A hk P.ep hE
 ·show Agn ((Azw w k).fL.length:Int) _ (Aq4 (w.fQ++[_]));rw[hN,A6o]
  have:=A9f F h;rw[A k hk]at this;exact this
 ·have hx:x∈w.fQ++[Ah8 (gt w.fL k) 0]:=hx
  show Ami w.fC x=true∧_;rcases F8.1 hx with hx|hx
  ·obtain⟨a,b⟩:=I.wrec x hx;refine⟨a,?_⟩;unfold Aol at b ⊢
   show(_||Apd (((Akb w.fP (gt w.fL k).A6).Sk.drop (gt x.A6 0*w.fC.Kh).toNat).take x.Wo.toNat))=true
   rw[L2];exact b
  ·rw[Mk.1 hx];exact⟨A2c P (by omega),A6p _ _ _⟩
 ·show(chL (w.fQ++[_])).Nodup;rw[A5x];exact A9k I hk
 ·show c∈chL (w.fQ++[_]) ↔ _;rw[A5x];exact A9l I hk c
 ·show(slL (w.fQ++[Ah8 (gt w.fL k) 0])).Nodup;rw[A5y]
  show(slL w.fQ++(if(0:Int)=0 then []else [Ana .i64 0 1])).Nodup
  rw[if_pos rfl,List.append_nil];exact I.sln
 ·show s∈slL (w.fQ++[Ah8 (gt w.fL k) 0]) ↔ _;rw[A5y,hN]
  show s∈slL w.fQ++(if(0:Int)=0 then []else [Ana .i64 0 1]) ↔ _
  rw[if_pos rfl,List.append_nil,I.sli];refine and_congr_right fun a=> ?_;rw[hg s a]
  by_cases e:s=k
  ·rw[if_pos e,e,P.st]
   show _ ↔ (gt w.fL k).Yq=2;rw[P.st]
  ·rw[if_neg e]
def wtN (c:D4)(n:A8):Nat:=if n.Yq=1 then 2+n.F3.length+c.Kh.toNat*n.A6.length else 0
def wtQ (c:D4)(x:Av):Nat:=1+x.F3.length+(c.Kh.toNat*x.A6.length - x.Wo.toNat)
def pot (w:Ds):Nat:=(w.fL.map (wtN w.fC)).sum+(w.fQ.map (wtQ w.fC)).sum
def wt (w:Ds):Nat:=pot w+w.Afv.length
structure EpP (E:Int)(n:A8):Prop where
 ep:n.Sy≤E
 ue:n.Wk≤E
 cur:0≤n.Afu∧n.Afu≤1000
structure D1 (w:Ds)(E:Int)(n:Nat):Prop where
 inv:Inv w
 mem: ∀x∈w.fP.Sk,0≤x∧x≤255
 ep: ∀k,0≤k∧k<(w.fL.length:Int)->EpP E (gt w.fL k)
 wt:wt w≤n
theorem Bs6{α:Type}(f:α->Nat)(l:List α)(h: ∀x∈l,1≤f x):l.length≤(l.map f).sum:=by
 induction l with
 |nil=>simp
 |cons x l ih=>
  have:=ih fun y hy=>h y (Z56 _ hy)
  have:=h x List.mem_cons_self;simp only[Ws,Z8,List.sum_cons];omega
theorem Bf2 (w:Ds):w.fQ.length≤wt w:=by
 have:=Bs6 (wtQ w.fC) w.fQ fun x _=>by unfold wtQ;omega
 unfold wt pot;omega
theorem Bkl (w:Ds):w.Afv.length≤wt w:=by unfold wt;omega
theorem Agc{x:Int}(h0: -1000000000≤x)(h1:x≤1000000000):wfi x:=⟨by omega,by omega⟩
theorem A9m{c:D4}{t:A7}(h:Apa c t=true):A8r t:=by
 have hs:=(A0s h).1
 have hin:=(A0s h).2;obtain⟨_,b2,_⟩:=Ap hin.1;obtain⟨s1,s2,s3,s4⟩:=hs;refine⟨Agc (by omega) (by omega),Agc (by omega) (by omega),?_⟩
 unfold Apa at h;rw[Z4]at h
 by_cases e:t.Ai9=0
 ·rw[e];exact Agc (by omega) (by omega)
 ·have h:=h.2;rw[Ail e]at h;simp only[cond_false,Z4,beq_iff_eq]at h;rw[h.2.1];unfold Atj
  have h3:(t.Ai8+c.Kh - 1) / c.Kh≤t.Ai8+c.Kh - 1:=Int.ediv_le_self _ (by omega)
  have h4:0≤(t.Ai8+c.Kh - 1) / c.Kh:=Int.ediv_nonneg (by omega) (by omega)
  cases (inB t.Ai8 0 1000000000&&inB c.Kh 1 1000000000)with
  |false=>exact Agc (by simp only[cond_false];omega) (by simp only[cond_false];omega)
  |true=>exact Agc (by simp only[cond_true];omega) (by simp only[cond_true];omega)
theorem Aum{l:List Int}(h: ∀x∈l,-1000000000≤x∧x≤1000000000)(hl:l.length≤1000000000):A1y l:=⟨fun x hx=>Agc (h x hx).1 (h x hx).2,by omega⟩
theorem Bs7{c:D4}(h:Ak5 c=true):Bpr c:=by
 obtain⟨b1,b2,b3,b4,b5,b6⟩:=Ap h;exact⟨Agc (by omega) (by omega),Agc (by omega) (by omega),Agc (by omega) (by omega),Agc (by omega) (by omega),Agc (by omega) (by omega),Agc (by omega) (by omega)⟩
theorem A6r{l:List Int}(h:l.all (fun x=>inB x 0 255)=true): ∀x∈l,0≤x∧x≤255:=fun x hx=>Age.1 (Z1.1 h x hx)
theorem A4t{c:D4}{n:A8}{E:Int}(h:Aqe c n=true)(e:EpP E n)(hE:E≤1000000000):Asv n:=by
 obtain⟨b1,b2,b3,b4,b5,b6⟩:=Ap (Azx h).1
 by_cases s:n.Yq=1
 ·have X:=Amj.1 ⟨h,s⟩
  have:=X.gen;have:=X.up;have:=X.first;have:=X.next;have:=X.prev;have:=X.ep;have:=X.ue;have:=X.nth;have:=X.ntag
  have:=e.ep;have:=e.ue;have:=e.cur;refine⟨Agc (by omega) (by omega),Agc (by omega) (by omega),Agc (by omega) (by omega),Agc (by omega) (by omega),Agc (by omega) (by omega),Agc (by omega) (by omega),Agc (by omega) (by omega),Agc (by omega) (by omega),?_,Agc (by omega) (by omega),?_,?_,?_⟩
  ·exact Aum (fun x hx=>by have:=Av8 X.dist x hx;omega) (by have:=Auk X.conf X.dist;omega)
  ·have:=X.cur;unfold A3r at this
   by_cases q:n.Afu=0
   ·rw[q]at this;simp only[beq_self_eq_true,cond_true,beq_iff_eq]at this;rw[this];exact Agc (by decide) (by decide)
   ·rw[Ail q]at this;simp only[cond_false,Z4,Age]at this;exact Agc (by omega) (by omega)
  ·exact⟨fun t ht=>A9m (Z1.1 X.things t ht),by omega⟩
  ·exact Aum (fun x hx=>by have:=A6r X.tags x hx;omega) (by omega)
 ·have g:=Azx h;rw[Axr h s];exact⟨Agc (by show _≤n.Yq;omega) (by show n.Yq≤_;omega),Agc (by show _≤n.C6;omega) (by show n.C6≤_;omega),A3c,A3c,A3c,A3c,A3c,A3c,A4r,A3c,A3c,A5b,A4r⟩
theorem Bn1{c:D4}{x:Av}(h:Ami c x=true):A28 x:=by
 obtain⟨b1,b2,b3,b4,b5,b6⟩:=Ap (Ap7 h).1;obtain⟨h1,h2,h3,h4,h5⟩:=Ap7 h;unfold Ami at h;simp only[Z4,Age,decide_eq_true_eq]at h;obtain⟨_,_,_,t1,t2,_⟩:=h;refine⟨Agc (by omega) (by omega),Agc (by omega) (by omega),?_,?_,Agc (by omega) (by omega)⟩
 ·exact Aum (fun y hy=>by have:=A6r t2 y hy;omega) (by omega)
 ·exact Aum (fun y hy=>by have:=Av8 h4 y hy;omega) (by have:=Auk h1 h4;omega)
theorem A9n{α:Type}[Inhabited α]{l:List α}{P:α->Prop}(h: ∀k,0≤k∧k<(l.length:Int)->P (gt l k)): ∀x∈l,P x:=by
 intro x hx;obtain⟨i,hi,e⟩:=List.mem_iff_getElem.1 hx
 have:=h (i:Int) ⟨by omega,by omega⟩
 rw[Acm hi,e]at this;exact this
theorem D1.ww{w:Ds}{E:Int}{n:Nat}(G:D1 w E n)(hE:E≤1000000000)(hn:n≤1000000000):Aoc w:=by
 have I:=G.inv
 have P:=Ak7.1 I.pool;obtain⟨b1,b2,b3,b4,b5,b6⟩:=Ap I.conf
 have h1:=Bf2 w
 have h2:=Bkl w
 have h3:=G.wt
 have hm:=Auy (a:=w.fC.A6) (b:=w.fC.Kh) (m:=12) (n:=16) (by omega) b1.2 (by omega) b2.2
 refine⟨Bs7 I.conf,⟨⟨G.mem,by have:=P.mem;omega⟩,?_,?_⟩,⟨A9n fun k hk=>A4t (I.node k hk) (G.ep k hk) hE,by have:=I.len;omega⟩,⟨fun x hx=>Bn1 (I.wrec x hx).1,by omega⟩,?_⟩
 ·exact Aum (A9n fun k hk=>by have:=(P.one k (by rw[P.st]at hk;exact hk)).1;omega) (by have:=P.st;omega)
 ·refine Aum (A9n fun k hk=> ?_) (by have:=P.own;omega)
  obtain⟨o1,o2,o3,o4⟩:=P.one k (by rw[P.own]at hk;exact hk)
  by_cases e:gt w.fP.Yq k=1
  ·have:=o2 e;omega
  ·have:=o3 e;omega
 ·exact Aum (fun x hx=>by have:=A6r I.log x hx;omega) (by omega)
theorem A9o{w:Ds}(I:Inv w)(p:Dh)(q:List Av)(lg:List Int)(hp:A5f w.fC p)
  (ho: ∀c,0≤c∧c<w.fC.A6->(gt p.Yq c=1 ↔ gt w.fP.Yq c=1)∧gt p.Sl c=gt w.fP.Sl c)
  (hl: ∀k,0≤k∧k<(w.fL.length:Int)->Aq3 w.fC p.Sk (gt w.fL k)=true)
  (hq:Aq4 q=Aq4 w.fQ) (hs:slL q=slL w.fQ)
  (hr: ∀x∈q,Ami w.fC x=true∧Aol (Ds.mk w.fC p w.fL q lg) x=true)
  (hn:(chL q).Nodup) (hc: ∀c,c∈chL q ↔ (0≤c∧c<w.fC.A6)∧gt p.Yq c=2)
  (hg:lg.all (fun x=>inB x 0 255)=true):Inv (Ds.mk w.fC p w.fL q lg):=by
 refine⟨Ak7.2 hp,I.len,I.node,fun k hk c=> ?_,fun k hk=> ?_,?_,hr,hn,hc,?_,?_,hg⟩
 ·rw[I.own k hk c];refine and_congr_right fun a=> ?_;obtain⟨h1,h2⟩:=ho c a
  show _ ↔ gt p.Yq c=1∧gt p.Sl c=k;rw[h1,h2]
 ·obtain⟨t1,t2,_⟩:=I.thing k hk;exact⟨t1,t2,hl k hk⟩
 ·obtain⟨t,A,F⟩:=I.forest;refine⟨t,A,?_⟩
  show Agn _ t (Aq4 q);rw[hq];exact F
 ·show(slL q).Nodup;rw[hs];exact I.sln
 ·show ∀s,s∈slL q ↔ _;rw[hs];exact I.sli
theorem gt0{α:Type}[Inhabited α](x:α)(l:List α):gt (x::l) 0=x:=rfl
theorem A2e{mem:List Int}{a n:Nat}:Apd ((mem.drop a).take n)=true ↔ ∀j:Nat,a≤j->j<a+n->j<mem.length->gt mem (j:Int)=0:=by
 unfold Apd;rw[Z1];constructor
 ·intro h j h1 h2 h3;rw[Acm h3]
  have:mem[j]∈(mem.drop a).take n:=by
   rw[List.mem_iff_getElem];refine⟨j - a,by simp;omega,?_⟩
   simp only[List.getElem_take,List.getElem_drop]
   congr 1;omega
  simpa using h _ this
 ·intro h x hx;obtain⟨i,hi,e⟩:=List.mem_iff_getElem.1 hx;simp only[List.length_take,List.length_drop]at hi;simp only[List.getElem_take,List.getElem_drop]at e
  have:=h (a+i) (by omega) (by omega) (by omega)
  rw[Acm (by omega),e]at this
  simpa using this
def Ayt (mem:List Int)(a n:Nat):List Int:=(List.range mem.length).map fun(j:Nat)=>if a≤j∧j<a+n then(0:Int)else gt mem (j:Int)
theorem Asz (mem:List Int)(a n:Nat):(Ayt mem a n).length=mem.length:=by simp[Ayt]
theorem A2v{mem:List Int}{a n j:Nat}(h:j<mem.length):gt (Ayt mem a n) (j:Int)=if a≤j∧j<a+n then 0 else gt mem (j:Int):=by
 rw[Acm (by rw[Asz];exact h)]
 simp[Ayt]
theorem Bkm (mem:List Int)(a:Nat):Ayt mem a 0=mem:=by
 refine List.ext_getElem (Asz _ _ _) fun j h1 h2=> ?_
 have:=A2v (mem:=mem) (a:=a) (n:=0) h2;rw[if_neg (by omega),Acm h1,Acm h2]at this
 exact this
theorem Bkn{mem:List Int}{a i:Nat}:(Ayt mem a i).set (a+i) 0=Ayt mem a (i+1):=by
 refine List.ext_getElem (by rw[Z49,Asz,Asz]) fun j h1 h2=> ?_
 rw[Z49,Asz]at h1
 have e1:=A2v (mem:=mem) (a:=a) (n:=i) h1
 have e2:=A2v (mem:=mem) (a:=a) (n:=i+1) h1;rw[Acm (by rw[Asz];exact h1)]at e1 e2
 rw[List.getElem_set,e1,e2]
 by_cases q:a+i=j
 ·rw[if_pos q,if_pos (by omega)]
 ·rw[if_neg q]
  by_cases r:a≤j∧j<a+i
  ·rw[if_pos r,if_pos (by omega)]
  ·rw[if_neg r,if_neg (by omega)]
theorem Bf3{mem:List Int}{a n b m:Nat}(h:Apd ((mem.drop b).take m)=true):Apd (((Ayt mem a n).drop b).take m)=true:=by
 rw[A2e]at h ⊢;intro j h1 h2 h3;rw[Asz]at h3;rw[A2v h3];split
 ·rfl
 ·exact h j h1 h2 h3
theorem Bba{mem:List Int}{a d n m:Nat}(h:Apd ((mem.drop a).take d)=true)(hm:m≤d+n):Apd (((Ayt mem (a+d) n).drop a).take m)=true:=by
 rw[A2e]at h ⊢;intro j h1 h2 h3;rw[Asz]at h3;rw[A2v h3];split
 ·rfl
 ·exact h j h1 (by omega) h3
section
variable {K:Nat} (hK:281474976710656≤K)
include hK
theorem Bf4{mem:List Int}(hl:mem.length≤1000000){a n:Int}(ha:0≤a∧a≤1000000)(hn:0≤n)(hs:a+n≤mem.length):Az2 K mem a n=some (Ayt mem a.toNat n.toNat):=by
 have hm:=Adv;obtain⟨A,rfl⟩: ∃A:Nat,a=A:=⟨a.toNat,by omega⟩
 obtain⟨N,rfl⟩: ∃N:Nat,n=N:=⟨n.toNat,by omega⟩
 simp only[Int.toNat_natCast]
 have key: ∀(f i:Nat),i≤N->N - i<f->Au6 K mem A N f (Ayt mem A i) ((A+i:Nat):Int)=some (Ayt mem A N):=by
  intro f
  induction f with
  |zero=>intro i _ h;omega
  |succ f ih=>
   intro i hi hf;rw[Au6]
   have e:Ana .i64 ((A+i:Nat):Int) A=i:=by unfold Ana;rw[Aa3 (by omega) (by omega)];omega
   rw[e]
   by_cases q:i=N
   ·subst q;rw[Agl (Z9 _)];simp only[cond_false];cases decide (((A+i:Nat):Int)<(mem.length:Int))<;>rfl
   ·rw[Agh (by omega),Agh (by omega),cond_true,cond_true,Asz,if_pos ⟨by omega,by omega⟩,Agd (by omega),Int.toNat_natCast,Bkn]
    exact ih (i+1) (by omega) (by omega)
 unfold Az2;rw[Yu,if_pos ⟨by omega,by omega⟩,decide_eq_false (by omega),decide_eq_false (by omega)]
 simp only[cond_false]
 have:=key K 0 (by omega) (by omega)
 rw[Bkm]at this;exact this
end
theorem Ayk{w:Ds}(I:Inv w){x qs}(hq:w.fQ=x::qs):Ami w.fC x=true∧Aol w x=true:=I.wrec x (by rw[hq];exact List.mem_cons_self)
structure Bn2 (c:D4)(x:Av):Prop where
 conf:Ak5 c=true
 slot:0≤x.Be∧x.Be≤c.Fj
 first:0≤x.Er∧x.Er≤c.Fj
 ntag:x.F3.length≤6
 tags: ∀y∈x.F3,0≤y∧y≤255
 dist:As2 c x.A6=true
 done:0≤x.Wo∧x.Wo≤c.Kh - 1
 zero:x.A6=[]->x.Wo=0
theorem Awc{c:D4}{x:Av}:Ami c x=true ↔ Bn2 c x:=by
 unfold Ami;simp only[Z4,Age,decide_eq_true_eq,Bool.or_eq_true,beq_iff_eq,Z1];constructor
 ·rintro⟨a,b,c,d,e,f,g,h⟩;refine⟨a,b,c,by omega,e,f,g,fun q=> ?_⟩
  rw[q]at h;rcases h with h|h
  ·simp at h
  ·exact h
 ·intro h;refine⟨h.conf,h.slot,h.first,by have:=h.ntag;omega,h.tags,h.dist,h.done,?_⟩
  by_cases q:x.A6=[]
  ·exact .inr (h.zero q)
  ·exact .inl (by have:=List.length_pos_iff.2 q;omega)
def Bko (x:Av):Av:=Av.mk x.Be x.Er (x.F3.take (x.F3.length - 1)) x.A6 x.Wo
def A37 (w:Ds)(x:Av)(qs:List Av):Ds:=Ds.mk w.fC w.fP w.fL (Bko x::qs) (w.Afv++[gt x.F3 ((x.F3.length - 1:Nat):Int)])
theorem Bs8 (K:Nat){w:Ds}{x:Av}{qs:List Av}(hq:w.fQ=x::qs)(h0:0<x.F3.length)(h6:x.F3.length≤6)(hl:w.Afv.length≤1000000000):Ax4 K w=some (A37 w x qs):=by
 have hm:=Adv;unfold Ax4;rw[hq,gt0]
 have e:Ana .i64 (x.F3.length:Int) 1=((x.F3.length - 1:Nat):Int):=by rw[sb1 (by omega) (by omega)];omega
 rw[e,if_pos ⟨by omega,by simp⟩,if_pos ⟨by omega,by omega⟩,if_pos ⟨by simp;omega,by simp;omega⟩,if_pos ⟨by omega,by omega,by omega⟩,A4k,Yu,if_pos ⟨by simp;omega,by simp;omega⟩]
 rfl
theorem Bkp{l:List Int}{n:Nat}{P:Int->Prop}(h: ∀y∈l,P y): ∀y∈l.take n,P y:=fun y hy=>h y (Yv hy)
theorem Bn3{w:Ds}(I:Inv w){x:Av}{qs:List Av}(hq:w.fQ=x::qs)(h0:0<x.F3.length):Inv (A37 w x qs):=by
 have R:=Awc.1 (Ayk I hq).1
 have e1:chL (Bko x::qs)=chL w.fQ:=by rw[hq];rfl
 refine A9o I w.fP _ _ (Ak7.1 I.pool) (fun c _=>⟨Iff.rfl,rfl⟩) (fun k hk=>(I.thing k hk).2.2) (by rw[hq];rfl) (by rw[hq];rfl) (fun y hy=> ?_) (by rw[e1];exact I.chn) (fun c=>by rw[e1];exact I.chi c) ?_
 ·rcases C9.1 hy with e|e
  ·subst e;refine⟨Awc.2 ⟨R.conf,R.slot,R.first,?_,Bkp R.tags,R.dist,R.done,R.zero⟩,(Ayk I hq).2⟩
   have:=R.ntag
   show(x.F3.take _).length≤6;simp;omega
  ·exact I.wrec y (by rw[hq];exact Z56 _ e)
 ·rw[List.all_append,I.log]
  have:=R.tags _ (Ao9 (show x.F3.length - 1<x.F3.length by omega))
  simp[Age,this]
def Api (w:Ds)(x:Av):Int:=if w.fC.Kh<x.Wo+w.fC.Fk then w.fC.Kh else x.Wo+w.fC.Fk
def A9p (w:Ds)(x:Av):List Int:=Ayt w.fP.Sk (gt x.A6 0*w.fC.Kh+x.Wo).toNat (Api w x - x.Wo).toNat
def A5g (w:Ds)(x:Av):Dh:=Dh.mk (A9p w x) (if Api w x<w.fC.Kh then w.fP.Yq else w.fP.Yq.set (gt x.A6 0).toNat 0) w.fP.Sl
def A1o (w:Ds)(x:Av):Av:=if Api w x<w.fC.Kh then Av.mk x.Be x.Er x.F3 x.A6 (Api w x)else Av.mk x.Be x.Er x.F3 (x.A6.drop 1) 0
def Azy (w:Ds)(x:Av)(qs:List Av):Ds:=Ds.mk w.fC (A5g w x) w.fL (A1o w x::qs) w.Afv
structure Bpt (w:Ds)(x:Av):Prop where
 rc:Bn2 w.fC x
 k:0≤gt x.A6 0∧gt x.A6 0<w.fC.A6
 st:gt w.fP.Yq (gt x.A6 0)=2
 at0:0≤gt x.A6 0*w.fC.Kh
 at1:gt x.A6 0*w.fC.Kh+w.fC.Kh≤(w.fP.Sk.length:Int)
 len:w.fP.Sk.length≤192
 to:x.Wo<Api w x∧Api w x≤w.fC.Kh
 zero:Apd ((w.fP.Sk.drop (gt x.A6 0*w.fC.Kh).toNat).take x.Wo.toNat)=true
theorem A4u{c:D4}{p:Dh}(P:A5f c p):p.Sk.length≤192:=by
 obtain⟨b1,b2,_⟩:=Ap P.conf
 have hm:=Auy (a:=c.A6) (b:=c.Kh) (m:=12) (n:=16) (by omega) b1.2 (by omega) b2.2
 have:=P.mem;omega
theorem Bcw{w:Ds}(I:Inv w){x:Av}{qs:List Av}(hq:w.fQ=x::qs)(hc:0<x.A6.length):Bpt w x:=by
 have R:=Awc.1 (Ayk I hq).1
 have P:=Ak7.1 I.pool
 have hx:x∈w.fQ:=by rw[hq];exact List.mem_cons_self
 have hm:gt x.A6 0∈x.A6:=Ao9 (i:=0) hc
 have h1:=(I.chi _).1 (A9j hx hm);obtain⟨_,_,e3,e4⟩:=A0r I.conf P.mem h1.1.1 h1.1.2;obtain⟨b1,b2,b3,b4,b5,b6⟩:=Ap I.conf
 have hd:=R.done;refine⟨R,h1.1,h1.2,e3,e4,A4u P,?_,?_⟩
 ·unfold Api;split<;>omega
 ·have:=(Ayk I hq).2;unfold Aol at this;rw[decide_eq_true (by omega)]at this
  exact this
section
variable {K:Nat} (hK:281474976710656≤K)
include hK
theorem Bbb{w:Ds}(hw:Azp w.fP)(hp:Aty w.fC w.fP=true){x:Av}(X:Bpt w x):Avl K w.fC w.fP (gt x.A6 0) x.Wo=some (A5g w x,!decide (Api w x<w.fC.Kh)):=by
 obtain⟨b1,b2,b3,b4,b5,b6⟩:=Ap X.rc.conf
 have P:=Ak7.1 hp;obtain⟨e1,e2,e3,e4⟩:=A0r X.rc.conf P.mem X.k.1 X.k.2
 have hd:=X.rc.done
 have ht:=X.to
 have hl:=X.len
 have hk:=X.k
 have es:Am9 .i64 x.Wo w.fC.Fk=x.Wo+w.fC.Fk:=by unfold Am9;exact Aa3 (by omega) (by omega)
 have el:Ayw K (x.Wo+w.fC.Fk) w.fC.Kh=some (Api w x):=by
  unfold Ayw Api
  by_cases q:w.fC.Kh<x.Wo+w.fC.Fk
  ·rw[decide_eq_true q,if_pos q];rfl
  ·rw[decide_eq_false q,if_neg q];rfl
 have ea:Am9 .i64 (gt x.A6 0*w.fC.Kh) x.Wo=gt x.A6 0*w.fC.Kh+x.Wo:=by unfold Am9;exact Aa3 (by omega) (by omega)
 have en:Ana .i64 (Api w x) x.Wo=Api w x - x.Wo:=by unfold Ana;exact Aa3 (by omega) (by omega)
 unfold Avl;rw[A0a K hw,A41 hK,hp,Aon,Azd hK X.rc.conf,Age.2 ⟨by omega,by omega⟩,Aon,A4o X.rc.conf,Age.2 hd,es,el,e1,ea]
 simp only[Z0,cond_true,Bool.not_true,cond_false];rw[en,Bf4 hK (by omega) ⟨by omega,by omega⟩ (by omega) (by omega)]
 simp only[Z0,e2];rw[if_pos ⟨hk.1,by rw[P.st];exact hk.2⟩,X.st]
 simp only[bne_self_eq_false,cond_false];unfold A5g
 by_cases q:Api w x<w.fC.Kh
 ·rw[decide_eq_true q,if_pos q];rfl
 ·rw[decide_eq_false q,if_neg q];simp only[cond_false,Bool.not_false];rw[if_pos ⟨by omega,by omega,by show _≤((Ayt _ _ _).length:Int);rw[Asz];exact e4⟩]
  have hz:Apd (((Ayt w.fP.Sk (gt x.A6 0*w.fC.Kh+x.Wo).toNat (Api w x - x.Wo).toNat).drop (gt x.A6 0*w.fC.Kh).toNat).take (gt x.A6 0*w.fC.Kh+w.fC.Kh - gt x.A6 0*w.fC.Kh).toNat)=true:=by
   rw[show(gt x.A6 0*w.fC.Kh+x.Wo).toNat=(gt x.A6 0*w.fC.Kh).toNat+x.Wo.toNat by omega]
   exact Bba X.zero (by omega)
  rw[Az7 hK _ (by simp[Asz];omega),hz]
  simp only[Z0,Bool.not_true,cond_false];rw[if_pos ⟨hk.1,by rw[P.st];exact hk.2⟩]
  rfl
theorem Bn4{w:Ds}(I:Inv w)(hw:Azp w.fP){x:Av}{qs:List Av}(hq:w.fQ=x::qs)(hc:0<x.A6.length):Awv K w=some (Azy w x qs):=by
 have hm:=Adv
 have X:=Bcw I hq hc
 have hlen:=Auk X.rc.conf X.rc.dist;obtain⟨b1,b2,b3,b4,b5,b6⟩:=Ap X.rc.conf
 have hd:=X.rc.done;unfold Awv;rw[hq,gt0,if_pos ⟨by omega,by simp⟩,if_pos ⟨by omega,by omega⟩,Bbb hK hw I.pool X,Z0]
 simp only;unfold Azy A1o
 by_cases q:Api w x<w.fC.Kh
 ·rw[decide_eq_true q,if_pos q]
  have es:Am9 .i64 x.Wo w.fC.Fk=Api w x:=by
   have ht:=X.to;unfold Api at q ⊢;split at q
   ·omega
   ·rename_i r;rw[if_neg r];unfold Am9;exact Aa3 (by omega) (by omega)
  rw[es];rfl
 ·rw[decide_eq_false q,if_neg q]
  have et:(x.A6.drop (1:Int).toNat).take ((x.A6.length:Int) - 1).toNat=x.A6.drop 1:=by
   rw[show(1:Int).toNat=1 from rfl]
   exact List.take_of_length_le (by simp)
  simp only[Bool.not_false,cond_true];rw[if_pos ⟨by omega,by omega,by omega⟩,et,Yu,if_pos ⟨by simp;omega,by simp;omega⟩]
  rfl
end
theorem A0x{c:D4}{l:List Int}:As2 c l=true ↔ l.Nodup∧ ∀x∈l,0≤x∧x<c.A6:=by
 constructor
 ·intro h;exact⟨Axy h,Av8 h⟩
 ·rintro⟨h1,h2⟩;unfold As2;rw[Z1];intro i hi;rw[List.mem_range]at hi;rw[Z4,Age,Acm hi]
  have:=h2 _ (List.getElem_mem hi);refine⟨by omega,?_⟩
  have hn:=A29.1 h1 i hi;simpa using hn
theorem Bf5{c:D4}{l:List Int}{n:Nat}(h:As2 c l=true):As2 c (l.drop n)=true:=by
 rw[A0x]at h ⊢;exact⟨h.1.sublist (List.drop_sublist _ _),fun x hx=>h.2 x (List.mem_of_mem_drop hx)⟩
theorem Bkq{w:Ds}{x:Av}(h: ∀y∈w.fP.Sk,0≤y∧y≤255): ∀y∈A9p w x,0≤y∧y≤255:=by
 refine A9n fun k hk=> ?_;unfold A9p at hk ⊢;rw[Asz]at hk;obtain⟨j,rfl⟩: ∃j:Nat,k=j:=⟨k.toNat,by omega⟩
 rw[A2v (by omega)]
 split
 ·omega
 ·exact h _ (Ao9 (by omega))
theorem Bkr{w:Ds}(I:Inv w){x:Av}{qs:List Av}(hq:w.fQ=x::qs)(hc:0<x.A6.length):Inv (Azy w x qs):=by
 have X:=Bcw I hq hc
 have P:=Ak7.1 I.pool
 have hk:=X.k
 have hd:=X.rc.done
 have ht:=X.to
 have hxq:x∈w.fQ:=by rw[hq];exact List.mem_cons_self
 have hst: ∀c,0≤c∧c<w.fC.A6->gt (A5g w x).Yq c=if c=gt x.A6 0∧ ¬Api w x<w.fC.Kh then 0 else gt w.fP.Yq c:=by
  intro c h
  show gt (if Api w x<w.fC.Kh then w.fP.Yq else w.fP.Yq.set (gt x.A6 0).toNat 0) c=_
  by_cases q:Api w x<w.fC.Kh
  ·rw[if_pos q,if_neg (fun r=>r.2 q)]
  ·rw[if_neg q,A0w hk.1 (by rw[P.st];exact h)]
   by_cases r:c=gt x.A6 0
   ·rw[if_pos r,if_pos ⟨r,q⟩]
   ·rw[if_neg r,if_neg (fun s=>r s.1)]
 have hz: ∀b m,Apd ((w.fP.Sk.drop b).take m)=true->Apd (((A5g w x).Sk.drop b).take m)=true:=fun b m h=>Bf3 h
 have hN:(gt x.A6 0*w.fC.Kh+x.Wo).toNat=(gt x.A6 0*w.fC.Kh).toNat+x.Wo.toNat:=by have:=X.at0;omega
 have hall: ∀m:Nat,m≤(Api w x).toNat->Apd (((A5g w x).Sk.drop (gt x.A6 0*w.fC.Kh).toNat).take m)=true:=by
  intro m h
  show Apd (((Ayt _ _ _).drop _).take m)=true;rw[hN];exact Bba X.zero (by omega)
 have hlen:(A5g w x).Sk.length=w.fP.Sk.length:=Asz _ _ _
 have hcons:x.A6=gt x.A6 0::x.A6.drop 1:=by
  cases h:x.A6 with
  |nil=>rw[h]at hc;simp at hc
  |cons a l=>rfl
 have hnd:=Axy X.rc.dist
 have hch:chL w.fQ=x.A6++chL qs:=by rw[hq];rfl
 have hn:=I.chn;rw[hch]at hn
 have hchi:=I.chi;rw[hch]at hchi;unfold Azy;refine A9o I (A5g w x) _ _ ⟨P.conf,by rw[hlen];exact P.mem,?_,P.own,fun c h=> ?_⟩ (fun c h=>⟨?_,rfl⟩) (fun k h=> ?_) ?_ ?_ (fun y hy=> ?_) ?_ (fun c=> ?_) I.log
 ·show((if Api w x<w.fC.Kh then w.fP.Yq else w.fP.Yq.set (gt x.A6 0).toNat 0).length:Int)=_
  split
  ·exact P.st
  ·rw[Z49];exact P.st
 ·obtain⟨p1,p2,p3,p4⟩:=P.one c h;rw[hst c h]
  show _∧(_->0≤gt w.fP.Sl c∧_)∧(_->gt w.fP.Sl c= -1)∧_
  by_cases q:c=gt x.A6 0∧ ¬Api w x<w.fC.Kh
  ·rw[if_pos q];refine⟨by omega,fun f=>by omega,fun _=>p3 (by rw[q.1,X.st];decide),fun _=> ?_⟩
   unfold As7;rw[q.1];exact hall _ (by omega)
  ·rw[if_neg q];exact⟨p1,p2,p3,fun f=>hz _ _ (p4 f)⟩
 ·rw[hst c h];split
  ·rename_i q;rw[q.1,X.st];decide
  ·rfl
 ·have:=(I.thing k h).2.2;unfold Aq3 at this ⊢;rw[Bool.or_eq_true,Z4]at this ⊢;rcases this with a|⟨a,b⟩
  ·exact .inl a
  ·exact .inr ⟨hz _ _ a,b⟩
 ·rw[hq];unfold A1o Aq4;split<;>rfl
 ·rw[hq];unfold A1o slL;split<;>rfl
 ·rcases C9.1 hy with e|e
  ·subst e;unfold A1o
   by_cases q:Api w x<w.fC.Kh
   ·rw[if_pos q];refine⟨Awc.2 ⟨X.rc.conf,X.rc.slot,X.rc.first,X.rc.ntag,X.rc.tags,X.rc.dist,⟨by show 0≤Api w x;omega,by show Api w x≤_;omega⟩,fun f=> ?_⟩,?_⟩
    ·have f:x.A6=[]:=f;rw[f]at hc;simp at hc
    ·unfold Aol;rw[Bool.or_eq_true];exact .inr (hall _ (Z9 _))
   ·rw[if_neg q];refine⟨Awc.2 ⟨X.rc.conf,X.rc.slot,X.rc.first,X.rc.ntag,X.rc.tags,?_,⟨Int.le_refl _,by show(0:Int)≤_;omega⟩,fun _=>rfl⟩,?_⟩
    ·exact Bf5 X.rc.dist
    ·unfold Aol;rw[Bool.or_eq_true];exact .inr rfl
  ·obtain⟨a,b⟩:=I.wrec y (by rw[hq];exact Z56 _ e)
   refine⟨a,?_⟩;unfold Aol at b ⊢;rw[Bool.or_eq_true]at b ⊢;rcases b with b|b
   ·exact .inl b
   ·exact .inr (hz _ _ b)
 ·show((A1o w x).A6++chL qs).Nodup;unfold A1o;split
  ·exact hn
  ·rw[hcons]at hn;exact(List.nodup_cons.1 hn).2
 ·show c∈(A1o w x).A6++chL qs ↔ _;rw[hcons,Px]at hn
  have hni:=(List.nodup_cons.1 hn).1
  have hci:=hchi c;rw[hcons,Px,C9]at hci;unfold A1o
  by_cases q:Api w x<w.fC.Kh
  ·rw[if_pos q]
   show c∈x.A6++chL qs ↔ _;rw[hchi c];refine and_congr_right fun a=> ?_;rw[hst c a,if_neg (fun r=>r.2 q)]
  ·rw[if_neg q]
   show c∈x.A6.drop 1++chL qs ↔ _;constructor
   ·intro h;obtain⟨a,b⟩:=hci.1 (.inr h);refine⟨a,?_⟩;rw[hst c a,if_neg]
    ·exact b
    ·rintro⟨r,_⟩;rw[r]at h;exact hni h
   ·rintro⟨a,b⟩;rw[hst c a]at b;split at b
    ·omega
    ·rename_i r;rcases hci.2 ⟨a,b⟩with e|e
     ·exact absurd ⟨e,q⟩ r
     ·exact e
def Bf6 (g n:A8)(k x:Int):A8:=lnk n (if g.Wm=0∧x+1=g.fUp∧n.Er=k+1 then g.Wl else n.Er) (if x+1=g.Wm then g.Wl else n.Wl) (if x+1=g.Wl then g.Wm else n.Wm)
theorem Bd6{l l':List A8}{t:Int->Lk}(A:AtT l t){k:Int}(hk:0≤k∧k<(l.length:Int))(hN:l'.length=l.length)(hg: ∀x,0≤x∧x<(l.length:Int)->x≠k->gt l' x=Bf6 (gt l k) (gt l x) k x){gn:Int}(hb:gt l' k=Aq1 2 gn):AtT l' (rem t k):=by
 intro x hx;rw[hN]at hx
 by_cases e:x=k
 ·subst e;rw[A31,hb];rfl
 ·rw[Akc e,hg x hx e,A x hx,A k hk];rfl
theorem Bks{w:Ds}(I:Inv w){t:Int->Lk}(A:AtT w.fL t)(F:Agn w.fL.length t (Aq4 w.fQ)){k:Int}(hl:Lv w.fL.length t k)(l':List A8)(q':List Av)(hN:l'.length=w.fL.length)
  (hg: ∀x,0≤x∧x<(w.fL.length:Int)->x≠k->gt l' x=Bf6 (gt w.fL k) (gt w.fL x) k x) (hb:gt l' k=Aq1 2 (gt w.fL k).C6)
  (F':Agn w.fL.length (rem t k) (Aq4 q')) (hr: ∀x∈q',Ami w.fC x=true∧Aol w x=true)
  (hcn:(chL q').Nodup) (hci: ∀c,c∈chL q' ↔ c∈chL w.fQ++(gt w.fL k).A6) (hsn:(slL q').Nodup) (hsi: ∀s,s∈slL q' ↔ s∈slL w.fQ∨s=k):
  Inv (Ds.mk w.fC (Akb w.fP (gt w.fL k).A6) l' q' w.Afv):=by
 have hk:=hl.1
 have P:=I.live A hl;obtain⟨L1,L2,L3⟩:=Azc I hk;refine⟨Ak7.2 L1,by show(l'.length:Int)=_;rw[hN];exact I.len,fun x hx=> ?_,fun x hx c=> ?_,fun x hx=> ?_,⟨rem t k,Bd6 A hk hN hg hb,?_⟩,fun x hx=> ?_,hcn,fun c=> ?_,hsn,fun s=> ?_,I.log⟩
 ·have hx:0≤x∧x<(l'.length:Int):=hx;rw[hN]at hx
  show Aqe w.fC (gt l' x)=true
  by_cases e:x=k
  ·rw[e,hb];exact A2u I.conf (by omega) (by omega) P.gen
  ·rw[hg x hx e];obtain⟨a1,a2,a3,a4⟩:=A3h (I.node k hk)
   by_cases hs:(gt w.fL x).Yq=1
   ·have X:=Amj.1 ⟨I.node x hx,hs⟩;refine(Amj.2 (A6n X ?_ ?_ ?_)).1
    ·split
     ·exact a3
     ·exact X.first
    ·split
     ·exact a3
     ·exact X.next
    ·split
     ·exact a4
     ·exact X.prev
   ·have X:=Axr (I.node x hx) hs
    have B:=(A6g F.tree hl).bare x hx.1 hx.2 (by rw[Akc e,A x hx];simpa[A2a]using hs)
    rw[Akc e,A x hx,A k hk]at B;obtain⟨_,B2,B3,B4⟩:=B
    have q1:(if(gt w.fL k).Wm=0∧x+1=(gt w.fL k).fUp∧(gt w.fL x).Er=k+1 then(gt w.fL k).Wl else(gt w.fL x).Er)=0:=B2
    have q2:(if x+1=(gt w.fL k).Wm then(gt w.fL k).Wl else(gt w.fL x).Wl)=0:=B3
    have q3:(if x+1=(gt w.fL k).Wl then(gt w.fL k).Wm else(gt w.fL x).Wm)=0:=B4
    have this:lnk (gt w.fL x) 0 0 0=gt w.fL x:=by rw[X];rfl
    unfold Bf6;rw[q1,q2,q3,this];exact I.node x hx
 ·have hx:0≤x∧x<(l'.length:Int):=hx;rw[hN]at hx
  show c∈(gt l' x).A6 ↔ (0≤c∧c<w.fC.A6)∧gt (Akb w.fP (gt w.fL k).A6).Yq c=1∧gt (Akb w.fP (gt w.fL k).A6).Sl c=x
  by_cases e:x=k
  ·rw[e,hb];constructor
   ·intro q;cases q
   ·rintro⟨a,b,d⟩;rw[(L3 c a).1]at b;rw[(L3 c a).2]at d;split at b
    ·omega
    ·rename_i q;rw[if_neg q]at d;exact absurd ((I.own k hk c).2 ⟨a,b,by omega⟩) q
  ·rw[hg x hx e]
   show c∈(gt w.fL x).A6 ↔ _;rw[I.own x hx c];constructor
   ·rintro⟨a,b,d⟩
    have q:c ∉ (gt w.fL k).A6:=fun q=>e (by have:=((I.own k hk c).1 q).2.2;omega)
    rw[(L3 c a).1,(L3 c a).2,if_neg q,if_neg q];exact⟨a,b,d⟩
   ·rintro⟨a,b,d⟩;rw[(L3 c a).1]at b;rw[(L3 c a).2]at d;split at b
    ·omega
    ·rename_i q;rw[if_neg q]at d;exact⟨a,b,d⟩
 ·have hx:0≤x∧x<(l'.length:Int):=hx;rw[hN]at hx
  show(gt l' x).H7.all (Aq2 w.fC (gt l' x).A6)=true∧Aok (gt l' x).H7=true∧Aq3 w.fC (Akb w.fP (gt w.fL k).A6).Sk (gt l' x)=true
  by_cases e:x=k
  ·rw[e,hb];exact⟨rfl,rfl,rfl⟩
  ·rw[hg x hx e];obtain⟨t1,t2,t3⟩:=I.thing x hx;refine⟨t1,t2,?_⟩;rw[L2];exact t3
 ·show Agn (l'.length:Int) _ (Aq4 q');rw[hN];exact F'
 ·obtain⟨a,b⟩:=hr x hx;refine⟨a,?_⟩;unfold Aol at b ⊢
  show(_||Apd (((Akb w.fP (gt w.fL k).A6).Sk.drop (gt x.A6 0*w.fC.Kh).toNat).take x.Wo.toNat))=true
  rw[L2];exact b
 ·show c∈chL q' ↔ _;rw[hci c];exact A9l I hk c
 ·show s∈slL q' ↔ (0≤s∧s<(l'.length:Int))∧(gt l' s).Yq=2;rw[hsi s,hN,I.sli];constructor
  ·rintro(⟨a,b⟩|a)
   ·refine⟨a,?_⟩
    have e:s≠k:=fun e=>by rw[e,P.st]at b;cases b
    rw[hg s a e];exact b
   ·rw[a,hb];exact⟨hk,rfl⟩
  ·rintro⟨a,b⟩
   by_cases e:s=k
   ·exact .inr e
   ·rw[hg s a e]at b;exact .inl ⟨a,b⟩
def A0y (l:List A8)(g:Int):List A8:=((bif plB l (gt l g).Wl then l.set ((gt l g).Wl - 1).toNat (Bj0 (gt l ((gt l g).Wl - 1)) 0)else l).set g.toNat (Aq1 2 (gt l g).C6))
def Bbc (l:List A8)(x:Av):Av:=Av.mk x.Be (gt l (x.Er - 1)).Wl x.F3 x.A6 x.Wo
def Azz (w:Ds)(x:Av)(qs:List Av):Ds:=
 Ds.mk w.fC (Akb w.fP (gt w.fL (x.Er - 1)).A6) (A0y w.fL (x.Er - 1)) (Ah8 (gt w.fL (x.Er - 1)) x.Er::Bbc w.fL x::qs) w.Afv
theorem Bbd (l:List A8)(g:Int):(A0y l g).length=l.length:=by
 unfold A0y;rw[Z49];cases plB l (gt l g).Wl<;>simp
theorem Bd7{l:List A8}(R:Rg l){g x:Int}(hg:0≤g∧g<(l.length:Int))(hx:0≤x∧x<(l.length:Int))(hne:x≠g)(hp:(gt l g).Wm=0)(hf: ¬(x+1=(gt l g).fUp∧(gt l x).Er=g+1)):gt (A0y l g) x=Bf6 (gt l g) (gt l x) g x:=by
 obtain⟨r1,r2,r3,r4⟩:=R.rg g hg
 have hl:=R.len;unfold A0y Bf6;rw[Ba9 r3.1 r3.2 hl,hp,if_neg (fun q=>hf q.2),if_neg (by omega: ¬x+1=0)]
 by_cases h:(gt l g).Wl=0
 ·rw[h];simp only[beq_self_eq_true,Bool.not_true,cond_false];rw[Ao4 hg hx,if_neg hne,if_neg (by omega)];rfl
 ·rw[Ail h];simp only[Bool.not_false,cond_true];rw[Ao4 (by rw[Z49];exact hg) (by rw[Z49];exact hx),if_neg hne,Ao4 (by omega) hx]
  by_cases e:x=(gt l g).Wl - 1
  ·rw[if_pos e,if_pos (by omega),←e];rfl
  ·rw[if_neg e,if_neg (by omega)];rfl
theorem Bd8{l:List A8}{g:Int}(hg:0≤g∧g<(l.length:Int)):gt (A0y l g) g=Aq1 2 (gt l g).C6:=by
 unfold A0y;rw[Axn];cases plB l (gt l g).Wl<;>simpa using hg
structure Bv5 (w:Ds)(t:Int->Lk)(x:Av)(qs:List Av):Prop where
 rc:Bn2 w.fC x
 lv:Lv w.fL.length t (x.Er - 1)
 or:Oo w.fL.length t (x.Er - 1)
 pv:(gt w.fL (x.Er - 1)).Wm=0
 fr:Agn w.fL.length (rem t (x.Er - 1)) (Aq4 (Ah8 (gt w.fL (x.Er - 1)) x.Er::Bbc w.fL x::qs))
 nf: ∀y,0≤y∧y<(w.fL.length:Int)-> ¬(y+1=(gt w.fL (x.Er - 1)).fUp∧(gt w.fL y).Er=x.Er - 1+1)
theorem A9q{w:Ds}(I:Inv w){t:Int->Lk}(A:AtT w.fL t)(F:Agn w.fL.length t (Aq4 w.fQ)){x:Av}{qs:List Av}(hq:w.fQ=x::qs)(hf:x.Er≠0):Bv5 w t x qs:=by
 have R:=Awc.1 (Ayk I hq).1
 have hx:x∈w.fQ:=by rw[hq];exact List.mem_cons_self
 have hF:=R.first
 have e:x.Er - 1+1=x.Er:=by omega
 have F1:Agn w.fL.length t ((x.Be,x.Er - 1+1)::Aq4 qs):=by rw[e];rw[hq]at F;exact F
 obtain⟨h1,h2,h3⟩:=Ba6 F1 (by omega)
 have hin:=h1.1
 have hor:Oo w.fL.length t (x.Er - 1):=F.kid.or (Inv.qs hx) (A32 hin)
 have hpv:(gt w.fL (x.Er - 1)).Wm=0:=by rw[A _ hin]at h2;exact h2
 refine⟨R,h1,hor,hpv,?_,?_⟩
 ·rw[A _ hin,e]at h3;exact h3
 ·rintro y hy ⟨a,b⟩
  have hup:(t (x.Er - 1)).up=y+1:=by rw[A _ hin,a];rfl
  have hfi:(t y).fi=x.Er:=by rw[A _ hy,←e,←b];rfl
  cases hlv:(t y).lv with
  |false=>
   have:=(F.tree.bare y hy.1 hy.2 hlv).2.1;omega
  |true=>
   have hY:Lv w.fL.length t y:=⟨hy,hlv⟩
   have:=(F.tree.link y hY).first (by omega)
   rw[hfi]at this;refine hor.2.2 ⟨?_,?_⟩
   ·rw[hup];simpa using hY
   ·rw[hup];simpa using this.2.2.2.symm
theorem Bkt{w:Ds}(I:Inv w){x:Av}{qs:List Av}(hq:w.fQ=x::qs)(hf:x.Er≠0):Inv (Azz w x qs):=by
 obtain⟨t,A,F⟩:=I.forest
 have X:=A9q I A F hq hf
 have hk:=X.lv.1
 have hF:=X.rc.first
 have L:=I.live A X.lv;obtain⟨b1,b2,b3,b4,b5,b6⟩:=Ap I.conf
 have hch:chL w.fQ=x.A6++chL qs:=by rw[hq];rfl
 have hcn:=A9k I hk;rw[hch]at hcn
 have hsl:slL w.fQ=(if x.Be=0 then []else [Ana .i64 x.Be 1])++slL qs:=by rw[hq];rfl
 have hsn:=I.sln;rw[hsl]at hsn
 have e1:slL (Ah8 (gt w.fL (x.Er - 1)) x.Er::Bbc w.fL x::qs)=(x.Er - 1)::((if x.Be=0 then []else [Ana .i64 x.Be 1])++slL qs):=by
  show(if x.Er=0 then []else [Ana .i64 x.Er 1])++_=_
  rw[if_neg hf,sb1 (by omega) (by omega)];rfl
 have hns:x.Er - 1 ∉ slL w.fQ:=fun h=>by
  have:=((I.sli _).1 h).2
  have:=L.st;omega
 unfold Azz;refine Bks I A F X.lv _ _ (Bbd _ _) (fun y hy hne=>Bd7 I.rg hk hy hne X.pv (X.nf y hy)) (Bd8 hk) X.fr (fun y hy=> ?_) ?_ (fun c=> ?_) ?_ (fun s=> ?_)
 ·rcases C9.1 hy with e|e
  ·rw[e];exact⟨A2c L (by omega),A6p _ _ _⟩
  ·rcases C9.1 e with e|e
   ·rw[e];exact⟨Awc.2 ⟨X.rc.conf,X.rc.slot,L.next,X.rc.ntag,X.rc.tags,X.rc.dist,X.rc.done,X.rc.zero⟩,(Ayk I hq).2⟩
   ·exact I.wrec y (by rw[hq];exact Z56 _ e)
 ·show((gt w.fL (x.Er - 1)).A6++(x.A6++chL qs)).Nodup;obtain⟨n1,n2,n3⟩:=Adx.1 hcn;exact Adx.2 ⟨n2,n1,fun z h1 h2=>n3 z h2 h1⟩
 ·rw[hch]
  show c∈(gt w.fL (x.Er - 1)).A6++(x.A6++chL qs) ↔ _;rw[F8,F8 (s:=x.A6++chL qs)];exact Or.comm
 ·rw[e1,←hsl];exact List.nodup_cons.2 ⟨hns,I.sln⟩
 ·rw[e1,←hsl,C9];exact Or.comm
def AlW (l:List A8)(k:Int):Prop:= ∃t,AtT l t∧Al l.length t k
structure A38 (w w':Ds):Prop where
 conf:w'.fC=w.fC
 len:w'.fL.length=w.fL.length
 node: ∀k,AlW w.fL k->AlW w'.fL k∧(∃a b c,gt w'.fL k=lnk (gt w.fL k) a b c)∧ ∀n,Aes w'.fL n k=Aes w.fL n k
theorem A6s (n:A8):lnk n n.Er n.Wl n.Wm=n:=rfl
theorem A38.refl (w:Ds):A38 w w:=⟨rfl,rfl,fun k h=>⟨h,⟨_,_,_,(A6s _).symm⟩,fun _=>rfl⟩⟩
theorem A38.trans{a b c:Ds}(h:A38 a b)(g:A38 b c):A38 a c:=by
 refine⟨g.conf.trans h.conf,g.len.trans h.len,fun k hk=> ?_⟩;obtain⟨h1,⟨x,y,z,h2⟩,h3⟩:=h.node k hk;obtain⟨g1,⟨u,v,w,g2⟩,g3⟩:=g.node k h1;exact⟨g1,⟨u,v,w,by rw[g2,h2];rfl⟩,fun n=>(g3 n).trans (h3 n)⟩
theorem A73{w w':Ds}(hc:w'.fC=w.fC)(hl:w'.fL=w.fL):A38 w w':=⟨hc,by rw[hl],fun k h=>by rw[hl];exact⟨h,⟨_,_,_,(A6s _).symm⟩,fun _=>rfl⟩⟩
theorem Bku{N:Int}{t t':Int->Lk}(h: ∀y,Al N t y->Lv N t' y∧(t' y).up=(t y).up∧(Cu N t y->Al N t ((t y).up - 1)->Cu N t' y)){k:Int}(hk:Al N t k):Al N t' k:=by
 induction hk with
 |root a b=>
  obtain⟨h1,h2,h3⟩:=h _ (.root a b);exact .root h1 (by rw[h2];exact b)
 |step a b c ih=>
  obtain⟨h1,h2,h3⟩:=h _ (.step a b c);exact .step h1 (h3 b c) (by rw[h2];exact ih)
theorem Bs9{N:Int}{t:Int->Lk}{g:Int}(hg:Oo N t g){k:Int}(hk:Al N t k):Al N (rem t g) k:=by
 refine Bku (fun y hy=> ?_) hk
 have hne:y≠g:=fun e=>hy.noOr (e ▸ hg);refine⟨Amy.2 ⟨hne,hy.lv⟩,by rw[Akc hne],fun hc hu=>(Ax0 hne).2 ⟨fun e=> ?_,hc⟩⟩
 rw[e,Int.add_sub_cancel]at hu;exact hu.noOr hg
theorem Bta{N:Int}{t:Int->Lk}{g:Int}(hg:(t g).lv=false){k:Int}(hk:Al N t k):Al N (clr t g) k:=by
 refine Bku (fun y hy=> ?_) hk;exact⟨(Aul hg).2 hy.lv,by rw[Aix hg hy.lv],fun hc _=>(A3g hg hy.lv).2 hc⟩
theorem Bkv{N:Int}{t t':Int->Lk}(h: ∀x,0≤x∧x<N->t' x=t x){k:Int}(hk:Al N t k):Al N t' k:=by
 refine Bku (fun y hy=> ?_) hk
 have hy1:=hy.lv;refine⟨⟨hy1.1,by rw[h y hy1.1];exact hy1.2⟩,by rw[h y hy1.1],fun hc _=> ?_⟩
 have hc1:=hc.1;unfold Cu Lv;rw[h y hy1.1,h _ hc1.1];exact hc
theorem AlW.al{l:List A8}{t:Int->Lk}(A:AtT l t){k:Int}(h:AlW l k):Al l.length t k:=by
 obtain⟨t',A',h'⟩:=h;exact Bkv (fun x hx=>by rw[A x hx,A' x hx]) h'
theorem Bbe{w w':Ds}{t t':Int->Lk}(R:Rg w.fL)(R':Rg w'.fL)(A:AtT w.fL t)(A':AtT w'.fL t')(F:Agn w.fL.length t (Aq4 w.fQ))(hc:w'.fC=w.fC)(hl:w'.fL.length=w.fL.length)
  (hn: ∀k,Al w.fL.length t k->Al w.fL.length t' k∧(t' k).up=(t k).up∧ ∃a b c,gt w'.fL k=lnk (gt w.fL k) a b c):A38 w w':=by
 refine⟨hc,hl,fun k hk=> ?_⟩
 have h:=hk.al A;obtain⟨h1,h2,h3⟩:=hn k h;refine⟨⟨t',A',by rw[hl];exact h1⟩,h3,fun n=> ?_⟩
 rw[A34 A' R',A34 A R,hl];obtain⟨d,U⟩:=F.uw;exact A0d _ _ fun y hy=>(hn y ((Bd1 U n k h).1 y hy).2).2.1
theorem Ayh{α:Type}[Inhabited α](a:α)(l:List α){i:Nat}(h:i<l.length):gt (a::l) ((i+1:Nat):Int)=gt l (i:Int):=by
 rw[Acm (by simp;omega),Acm h];rfl
theorem Bkw{α:Type}[Inhabited α](f:α->Nat): ∀(l l':List α),l'.length=l.length->(∀x:Nat,x<l.length->f (gt l' (x:Int))=f (gt l (x:Int)))->(l'.map f).sum=(l.map f).sum:=by
 intro l
 induction l with
 |nil=>intro l' h _;rw[Ks.1 h]
 |cons a l ih=>
  intro l' h hx;cases l' with
  |nil=>simp at h
  |cons b l'=>
   have hl:l'.length=l.length:=by simpa using h
   have h0:=hx 0 (by simp)
   have:=ih l' hl fun x h=>by
    have:=hx (x+1) (by simp;omega)
    rwa[Ayh _ _ (by omega),Ayh _ _ h]at this
   simp only[Z8,List.sum_cons,this];rw[show f b=f a from h0]
theorem Bn5{α:Type}[Inhabited α](f:α->Nat): ∀(l l':List α) (g:Nat),l'.length=l.length->g<l.length->(∀x:Nat,x<l.length->x≠g->f (gt l' (x:Int))=f (gt l (x:Int)))->(l'.map f).sum+f (gt l (g:Int))=(l.map f).sum+f (gt l' (g:Int)):=by
 intro l
 induction l with
 |nil=>intro l' g _ h;simp at h
 |cons a l ih=>
  intro l' g h hg hx;cases l' with
  |nil=>simp at h
  |cons b l'=>
   have hl:l'.length=l.length:=by simpa using h
   simp only[Z8,List.sum_cons];cases g with
   |zero=>
    have:=Bkw f l l' hl fun x h=>by
     have:=hx (x+1) (by simp;omega) (by omega)
     rwa[Ayh _ _ (by omega),Ayh _ _ h]at this
    rw[this]
    show f b+_+f a=f a+_+f b;omega
   |succ g=>
    have hg:g<l.length:=by simpa using hg
    have h0:f b=f a:=hx 0 (by simp) (by omega)
    have:=ih l' g hl hg fun x h hn=>by
     have:=hx (x+1) (by simp;omega) (by omega)
     rwa[Ayh _ _ (by omega),Ayh _ _ h]at this
    rw[Ayh _ _ hg,Ayh _ _ (by omega)]
    omega
theorem A2f{f:A8->Nat}{l l':List A8}{g:Int}(hl:l'.length=l.length)(hg:0≤g∧g<(l.length:Int))(hx: ∀x,0≤x∧x<(l.length:Int)->x≠g->f (gt l' x)=f (gt l x)):(l'.map f).sum+f (gt l g)=(l.map f).sum+f (gt l' g):=by
 have:=Bn5 f l l' g.toNat hl (by omega) fun x h hn=>hx x ⟨by omega,by omega⟩ (by omega)
 rwa[show((g.toNat:Nat):Int)=g by omega]at this
theorem A2g (c:D4){st:Int}(h:st≠1)(g:Int):wtN c (Aq1 st g)=0:=by unfold wtN Aq1;rw[if_neg h]
structure Bcx (w w':Ds)(E:Int):Prop where
 inv:Inv w'
 mem: ∀x∈w'.fP.Sk,0≤x∧x≤255
 ep: ∀k,0≤k∧k<(w'.fL.length:Int)->EpP E (gt w'.fL k)
 pot:pot w'<pot w
 wt:wt w'≤wt w
 stay:A38 w w'
theorem Bcx.good{w w':Ds}{E:Int}(S:Bcx w w' E){n:Nat}(G:D1 w E n):D1 w' E n:=⟨S.inv,S.mem,S.ep,by have:=S.wt;have:=G.wt;omega⟩
theorem Bkx{w:Ds}{E:Int}{n:Nat}(G:D1 w E n){x:Av}{qs:List Av}(hq:w.fQ=x::qs)(h0:0<x.F3.length):Bcx w (A37 w x qs) E:=by
 have e:wtQ w.fC (Bko x)+1=wtQ w.fC x:=by
  unfold wtQ Bko;simp only[List.length_take];omega
 have ep:pot (A37 w x qs)+1=pot w:=by
  unfold pot;rw[hq]
  show(w.fL.map (wtN w.fC)).sum+((Bko x::qs).map (wtQ w.fC)).sum+1=_;simp only[Z8,List.sum_cons];omega
 refine⟨Bn3 G.inv hq h0,G.mem,G.ep,by omega,?_,A73 rfl rfl⟩
 unfold wt
 show pot (A37 w x qs)+(w.Afv++[_]).length≤_;rw[H8,List.length_singleton];omega
theorem Bf7{w:Ds}{E:Int}{n:Nat}(G:D1 w E n){x:Av}{qs:List Av}(hq:w.fQ=x::qs)(hc:0<x.A6.length):Bcx w (Azy w x qs) E:=by
 have X:=Bcw G.inv hq hc;obtain⟨b1,b2,b3,b4,b5,b6⟩:=Ap X.rc.conf
 have ht:=X.to
 have hd:=X.rc.done
 have e:wtQ w.fC (A1o w x)<wtQ w.fC x:=by
  have hm:w.fC.Kh.toNat*x.A6.length=w.fC.Kh.toNat*(x.A6.length - 1)+w.fC.Kh.toNat:=by
   conv=>lhs;rw[show x.A6.length=x.A6.length - 1+1 by omega]
   rw[Nat.mul_succ]
  unfold A1o;split
  ·unfold wtQ;simp only;omega
  ·unfold wtQ;simp only[List.length_drop];omega
 have ep:pot (Azy w x qs)<pot w:=by
  unfold pot;rw[hq]
  show(w.fL.map (wtN w.fC)).sum+((A1o w x::qs).map (wtQ w.fC)).sum<_;simp only[Z8,List.sum_cons];omega
 refine⟨Bkr G.inv hq hc,Bkq G.mem,G.ep,ep,?_,A73 rfl rfl⟩;unfold wt
 show pot (Azy w x qs)+w.Afv.length≤_;omega
theorem Bky{w:Ds}(I:Inv w){t:Int->Lk}(A:AtT w.fL t)(F:Agn w.fL.length t (Aq4 w.fQ)){x:Av}{qs:List Av}(hq:w.fQ=x::qs)(hf:x.Er≠0):
  (∀y,0≤y∧y<(w.fL.length:Int)->y≠x.Er - 1->gt (A0y w.fL (x.Er - 1)) y=Bf6 (gt w.fL (x.Er - 1)) (gt w.fL y) (x.Er - 1) y)∧gt (A0y w.fL (x.Er - 1)) (x.Er - 1)=Aq1 2 (gt w.fL (x.Er - 1)).C6:=by
 have X:=A9q I A F hq hf;exact⟨fun y hy hne=>Bd7 I.rg X.lv.1 hy hne X.pv (X.nf y hy),Bd8 X.lv.1⟩
theorem Bf8{w:Ds}{E:Int}{n:Nat}(G:D1 w E n)(hE:0≤E){x:Av}{qs:List Av}(hq:w.fQ=x::qs)(hf:x.Er≠0):Bcx w (Azz w x qs) E:=by
 obtain⟨t,A,F⟩:=G.inv.forest
 have X:=A9q G.inv A F hq hf;obtain⟨hg,hb⟩:=Bky G.inv A F hq hf
 have hk:=X.lv.1
 have L:=G.inv.live A X.lv
 have I':=Bkt G.inv hq hf
 have hN:=Bbd w.fL (x.Er - 1)
 have hs:=A2f (f:=wtN w.fC) hN hk fun y hy hne=>by rw[hg y hy hne];rfl
 rw[hb,A2g _ (by decide)]at hs
 have e1:wtN w.fC (gt w.fL (x.Er - 1))=2+(gt w.fL (x.Er - 1)).F3.length+w.fC.Kh.toNat*(gt w.fL (x.Er - 1)).A6.length:=by unfold wtN;rw[if_pos L.st]
 have e2:wtQ w.fC (Ah8 (gt w.fL (x.Er - 1)) x.Er)=1+(gt w.fL (x.Er - 1)).F3.length+w.fC.Kh.toNat*(gt w.fL (x.Er - 1)).A6.length:=rfl
 have e3:wtQ w.fC (Bbc w.fL x)=wtQ w.fC x:=rfl
 have ep:pot (Azz w x qs)<pot w:=by
  unfold pot;rw[hq]
  show((A0y w.fL (x.Er - 1)).map (wtN w.fC)).sum+((Ah8 (gt w.fL (x.Er - 1)) x.Er::Bbc w.fL x::qs).map (wtQ w.fC)).sum<_;simp only[Z8,List.sum_cons];omega
 refine⟨I',?_,fun y hy=> ?_,ep,?_,?_⟩
 ·show ∀y∈(Akb w.fP _).Sk,_;rw[(Azc G.inv hk).2.1];exact G.mem
 ·have hy:0≤y∧y<((A0y w.fL (x.Er - 1)).length:Int):=hy;rw[hN]at hy
  show EpP E (gt (A0y w.fL (x.Er - 1)) y)
  by_cases e:y=x.Er - 1
  ·rw[e,hb];exact⟨hE,hE,⟨Int.le_refl 0,by show(0:Int)≤1000;omega⟩⟩
  ·rw[hg y hy e]
   have:=G.ep y hy;exact⟨this.ep,this.ue,this.cur⟩
 ·unfold wt
  show pot (Azz w x qs)+w.Afv.length≤_;omega
 ·refine Bbe G.inv.rg I'.rg A (Bd6 A hk hN hg hb) F rfl hN fun y hy=> ?_
  have hne:y≠x.Er - 1:=fun e=>hy.noOr (e ▸ X.or);exact⟨Bs9 X.or hy,by rw[Akc hne],_,_,_,hg y hy.lv.1 hne⟩
def A4v (n:A8)(gens:Int):A8:=if gens≤n.C6 then Aq1 3 n.C6 else Aq1 0 (n.C6+1)
def Ax1 (w:Ds)(x:Av):List A8:=if x.Be=0 then w.fL else w.fL.set (x.Be - 1).toNat (A4v (gt w.fL (x.Be - 1)) w.fC.Ki)
def A39 (w:Ds)(x:Av)(qs:List Av):Ds:=Ds.mk w.fC w.fP (Ax1 w x) qs w.Afv
theorem A9r (w:Ds)(x:Av):(Ax1 w x).length=w.fL.length:=by unfold Ax1;split<;>simp
structure Btb (w:Ds)(x:Av)(qs:List Av):Prop where
 rc:Bn2 w.fC x
 k:x.Be≠0->0≤x.Be - 1∧x.Be - 1<(w.fL.length:Int)
 st:x.Be≠0->(gt w.fL (x.Be - 1)).Yq=2
 gn:x.Be≠0->1≤(gt w.fL (x.Be - 1)).C6∧(gt w.fL (x.Be - 1)).C6≤w.fC.Ki
 no:x.Be≠0->x.Be - 1 ∉ slL qs
theorem Bd9{w:Ds}(I:Inv w){x:Av}{qs:List Av}(hq:w.fQ=x::qs):Btb w x qs:=by
 have R:=Awc.1 (Ayk I hq).1;obtain⟨b1,b2,b3,b4,b5,b6⟩:=Ap I.conf
 have hx:x∈w.fQ:=by rw[hq];exact List.mem_cons_self
 have hs:=R.slot
 have h1:x.Be≠0->(0≤x.Be - 1∧x.Be - 1<(w.fL.length:Int))∧(gt w.fL (x.Be - 1)).Yq=2:=fun h=>by
  have:=Bd3 hx h;rw[sb1 (by omega) (by omega)]at this
  exact(I.sli _).1 this
 refine⟨R,fun h=>(h1 h).1,fun h=>(h1 h).2,fun h=>(Azx (I.node _ (h1 h).1)).2.2,fun h=> ?_⟩
 have:=I.sln;rw[hq]at this
 have this:((if x.Be=0 then []else [Ana .i64 x.Be 1])++slL qs).Nodup:=this
 rw[if_neg h,sb1 (by omega) (by omega)]at this
 exact(List.nodup_cons.1 this).1
theorem Btc{w:Ds}{x:Av}{qs:List Av}(X:Btb w x qs){y:Int}(hy:0≤y∧y<(w.fL.length:Int)):gt (Ax1 w x) y=if x.Be≠0∧y=x.Be - 1 then A4v (gt w.fL y) w.fC.Ki else gt w.fL y:=by
 unfold Ax1
 by_cases h:x.Be=0
 ·rw[if_pos h,if_neg (fun q=>q.1 h)]
 ·rw[if_neg h,Ao4 (X.k h) hy]
  by_cases e:y=x.Be - 1
  ·rw[if_pos e,if_pos ⟨h,e⟩,e]
  ·rw[if_neg e,if_neg (fun q=>e q.2)]
theorem Bcy{n:A8}{gens:Int}(h:1≤n.C6∧n.C6≤gens): ∃st g,A4v n gens=Aq1 st g∧(st=0∨st=3)∧1≤g∧g≤gens:=by
 unfold A4v;split
 ·exact⟨3,_,rfl,.inr rfl,h⟩
 ·exact⟨0,_,rfl,.inl rfl,by omega,by omega⟩
theorem Axs{w:Ds}{x:Av}{qs:List Av}(X:Btb w x qs){y:Int}(hy:0≤y∧y<(w.fL.length:Int)):(gt (Ax1 w x) y=gt w.fL y∧ ¬(x.Be≠0∧y=x.Be - 1))∨((x.Be≠0∧y=x.Be - 1)∧(gt w.fL y).Yq=2∧ ∃st g,gt (Ax1 w x) y=Aq1 st g∧(st=0∨st=3)∧1≤g∧g≤w.fC.Ki):=by
 rw[Btc X hy]
 by_cases h:x.Be≠0∧y=x.Be - 1
 ·rw[if_pos h];refine .inr ⟨h,by rw[h.2];exact X.st h.1,?_⟩
  exact Bcy (by rw[h.2];exact X.gn h.1)
 ·rw[if_neg h];exact .inl ⟨rfl,h⟩
theorem A6t{w:Ds}(I:Inv w){t:Int->Lk}(A:AtT w.fL t)(F:Agn w.fL.length t (Aq4 w.fQ)){x:Av}{qs:List Av}(hq:w.fQ=x::qs)(hf:x.Er=0):
  ∃t',AtT (Ax1 w x) t'∧Agn w.fL.length t' (Aq4 qs)∧(∀k,Al w.fL.length t k->Al w.fL.length t' k∧(t' k).up=(t k).up):=by
 have X:=Bd9 I hq
 have F1:Agn w.fL.length t ((x.Be,0)::Aq4 qs):=by rw[hq]at F;rw[←hf];exact F
 by_cases h:x.Be=0
 ·refine⟨t,?_,A6l F1,fun k hk=>⟨hk,rfl⟩⟩;unfold Ax1;rw[if_pos h];exact A
 ·have hk:=X.k h
  have hlv:(t (x.Be - 1)).lv=false:=by rw[A _ hk];show((gt w.fL (x.Be - 1)).Yq==1)=false;rw[X.st h];rfl
  refine⟨clr t (x.Be - 1),fun y hy=> ?_,A9g F1 h fun e he e2=> ?_,fun k hk=>⟨Bta hlv hk,by rw[Aix hlv hk.lv]⟩⟩
  ·rw[A9r]at hy;unfold clr;rcases Axs X hy with ⟨e,f⟩|⟨f,_,st,g,e,hs,_⟩
   ·rw[if_neg (fun r=>f ⟨h,r⟩),e,A y hy]
   ·rw[if_pos f.2,e];rcases hs with s|s<;>subst s<;>rfl
  ·obtain⟨z,hz,e3⟩:=D2.1 he
   have e3:z.Be=e.1:=by rw[←e3]
   refine X.no h (List.mem_flatMap.2 ⟨z,hz,?_⟩)
   have hs:=X.rc.slot;obtain⟨b1,b2,b3,b4,b5,b6⟩:=Ap I.conf;rw[e3,e2,if_neg h,sb1 (by omega) (by omega)];simp
theorem Bn6{w:Ds}(I:Inv w){x:Av}{qs:List Av}(hq:w.fQ=x::qs)(hc:x.A6=[])(hf:x.Er=0):Inv (A39 w x qs):=by
 obtain⟨t,A,F⟩:=I.forest
 have X:=Bd9 I hq;obtain⟨t',A',F',_⟩:=A6t I A F hq hf
 have hN:=A9r w x
 have hch:chL w.fQ=chL qs:=by rw[hq];show x.A6++_=_;rw[hc];rfl
 have hsl:slL w.fQ=(if x.Be=0 then []else [Ana .i64 x.Be 1])++slL qs:=by rw[hq];rfl
 have hsn:=I.sln;rw[hsl]at hsn
 refine⟨I.pool,by show((Ax1 w x).length:Int)=_;rw[hN];exact I.len,fun y hy=> ?_,fun y hy c=> ?_,fun y hy=> ?_,⟨t',A',by show Agn ((Ax1 w x).length:Int) t' _;rw[hN];exact F'⟩,fun y hy=>I.wrec y (by rw[hq];exact Z56 _ hy),by show(chL qs).Nodup;rw[←hch];exact I.chn,fun c=>by show c∈chL qs ↔ _;rw[←hch];exact I.chi c,?_,fun s=> ?_,I.log⟩
 ·have hy:0≤y∧y<((Ax1 w x).length:Int):=hy;rw[hN]at hy
  show Aqe w.fC (gt (Ax1 w x) y)=true;rcases Axs X hy with ⟨e,_⟩|⟨_,_,st,g,e,hs,hg⟩
  ·rw[e];exact I.node y hy
  ·rw[e];exact A2u I.conf (by omega) (by omega) hg
 ·have hy:0≤y∧y<((Ax1 w x).length:Int):=hy;rw[hN]at hy
  show c∈(gt (Ax1 w x) y).A6 ↔ _;rcases Axs X hy with ⟨e,_⟩|⟨_,h2,st,g,e,hs,hg⟩
  ·rw[e];exact I.own y hy c
  ·rw[e]
   have:=I.own y hy c;rw[Axr (I.node y hy) (by omega)]at this
   exact this
 ·have hy:0≤y∧y<((Ax1 w x).length:Int):=hy;rw[hN]at hy
  show(gt (Ax1 w x) y).H7.all (Aq2 w.fC (gt (Ax1 w x) y).A6)=true∧Aok (gt (Ax1 w x) y).H7=true∧Aq3 w.fC w.fP.Sk (gt (Ax1 w x) y)=true;rcases Axs X hy with ⟨e,_⟩|⟨_,h2,st,g,e,hs,hg⟩
  ·rw[e];exact I.thing y hy
  ·rw[e];exact⟨rfl,rfl,rfl⟩
 ·exact(Adx.1 hsn).2.1
 ·show s∈slL qs ↔ (0≤s∧s<((Ax1 w x).length:Int))∧(gt (Ax1 w x) s).Yq=2
  have hi:=I.sli s;rw[hsl,F8]at hi
  have hss:=X.rc.slot;obtain⟨b1,b2,b3,b4,b5,b6⟩:=Ap I.conf;rw[hN];constructor
  ·intro h;obtain⟨a,b⟩:=hi.1 (.inr h);refine⟨a,?_⟩;rcases Axs X a with ⟨e,_⟩|⟨⟨h1,h2⟩,_⟩
   ·rw[e];exact b
   ·rw[h2]at h;exact absurd h (X.no h1)
  ·rintro⟨a,b⟩;rcases Axs X a with ⟨e,f⟩|⟨_,_,st,g,e,hs,_⟩
   ·rw[e]at b;rcases hi.2 ⟨a,b⟩with h|h
    ·by_cases q:x.Be=0
     ·rw[if_pos q]at h;cases h
     ·rw[if_neg q,sb1 (by omega) (by omega),Mk]at h
      exact absurd ⟨q,h⟩ f
    ·exact h
   ·rw[e]at b
    have b:st=2:=b;omega
theorem Bkz{w:Ds}{E:Int}{n:Nat}(G:D1 w E n)(hE:0≤E){x:Av}{qs:List Av}(hq:w.fQ=x::qs)(hc:x.A6=[])(hf:x.Er=0):Bcx w (A39 w x qs) E:=by
 obtain⟨t,A,F⟩:=G.inv.forest
 have X:=Bd9 G.inv hq;obtain⟨t',A',F',hal⟩:=A6t G.inv A F hq hf
 have I':=Bn6 G.inv hq hc hf
 have hN:=A9r w x
 have hs:((Ax1 w x).map (wtN w.fC)).sum=(w.fL.map (wtN w.fC)).sum:=Bkw _ _ _ hN fun y hy=>by
  rcases Axs X (y:=(y:Int)) ⟨by omega,by omega⟩with ⟨e,_⟩|⟨_,h2,st,g,e,hs,hg⟩
  ·rw[e]
  ·rw[e,A2g _ (by omega)];unfold wtN;rw[if_neg (by omega)]
 have ep:pot (A39 w x qs)<pot w:=by
  have h1:1≤wtQ w.fC x:=by unfold wtQ;omega
  unfold pot;rw[hq]
  show((Ax1 w x).map (wtN w.fC)).sum+(qs.map (wtQ w.fC)).sum<_;simp only[Z8,List.sum_cons];omega
 refine⟨I',G.mem,fun y hy=> ?_,ep,?_,?_⟩
 ·have hy:0≤y∧y<((Ax1 w x).length:Int):=hy;rw[hN]at hy
  show EpP E (gt (Ax1 w x) y);rcases Axs X hy with ⟨e,_⟩|⟨_,h2,st,g,e,hs,hg⟩
  ·rw[e];exact G.ep y hy
  ·rw[e];exact⟨hE,hE,⟨Int.le_refl 0,by show(0:Int)≤1000;omega⟩⟩
 ·unfold wt
  show pot (A39 w x qs)+w.Afv.length≤_;omega
 ·refine Bbe G.inv.rg I'.rg A A' F rfl hN fun y hy=> ?_;refine⟨(hal y hy).1,(hal y hy).2,?_⟩;rcases Axs X hy.lv.1 with ⟨e,_⟩|⟨_,h2,_⟩
  ·exact⟨_,_,_,e⟩
  ·have:=((As8 A).1 hy.lv).2;omega
section
variable {K:Nat} (hK:281474976710656≤K)
include hK
theorem Bk0 (w:Ds)(hw:Azp w.fP)(l:List Int)(hl:l.length≤140737488355327):Aqb K w l=some (Ds.mk w.fC (Akb w.fP l) w.fL w.fQ w.Afv):=by
 unfold Aqb;refine A85 hK l (by omega) Az1 w.fP Azp hw (fun s x h=>(A84 h x).1) _ (fun n s i=>Akd K l n i w.fC.A6 w.fC.Kh w.fC.Fj w.fC.Hb w.fC.Fk w.fC.Ki s.Sk s.Yq s.Sl w.fL w.fQ w.Afv) (fun n s i h hs=> ?_) (fun n=> ?_)
 ·simp only[Akd];rw[Agh h,cond_true,if_pos (Akh h),Acm h,show Dh.mk s.Sk s.Yq s.Sl=s from rfl,A6f K hs,Z0,Agd (by omega)]
 ·show Akd K l (n+1) _ _ _ _ _ _ _ _ _ _ _ _ _=_;rw[Akd,Agl (Z9 _),cond_false];rfl
theorem Bn7{w:Ds}(I:Inv w)(hw:Aoc w)(hQ:w.fQ.length≤1000000000){x:Av}{qs:List Av}(hq:w.fQ=x::qs)(hf:x.Er≠0):Aww K w=some (Azz w x qs):=by
 have hm:=Adv;obtain⟨t,A,F⟩:=I.forest
 have X:=A9q I A F hq hf
 have hk:=X.lv.1
 have hF:=X.rc.first
 have L:=I.live A X.lv;obtain⟨b1,b2,b3,b4,b5,b6⟩:=Ap I.conf
 have hlen:=I.len
 have hn:=hw.l.1 _ (Ank hk.1 hk.2)
 have e1:Ana .i64 x.Er 1=x.Er - 1:=sb1 (by omega) (by omega)
 have e2:Am9 .i64 (x.Er - 1) 1=x.Er:=by rw[ad1 (by omega) (by omega)];omega
 have hnx:=L.next
 have hlq:(w.fQ).length=qs.length+1:=by rw[hq];simp
 have hj: ∀(l:List A8) (q:List Av),l.length=w.fL.length->q.length=w.fQ.length->Ar9 K (gt w.fL (x.Er - 1)) (x.Er - 1) w.fC.A6 w.fC.Kh w.fC.Fj w.fC.Hb w.fC.Fk w.fC.Ki w.fP.Sk w.fP.Yq w.fP.Sl l q w.Afv=some (Ds.mk w.fC (Akb w.fP (gt w.fL (x.Er - 1)).A6) (l.set (x.Er - 1).toNat (Aq1 2 (gt w.fL (x.Er - 1)).C6)) (Ah8 (gt w.fL (x.Er - 1)) x.Er::q) w.Afv):=by
  intro l q hl1 hq1
  have h8:=hn.tags.2
  have h9:=hn.chunks.2;unfold Ar9;rw[Bk0 hK (Ds.mk w.fC w.fP l q w.Afv) hw.p _ (A1a hK hn.chunks),Z0];unfold Ayi Ayo;simp only[Z0,Yu,List.singleton_append,Ws];rw[hl1,if_pos hk,if_pos ⟨by omega,by omega⟩,if_pos ⟨by omega,by omega⟩,e2,Z0,if_pos ⟨by omega,by omega⟩]
  rfl
 unfold Aww;rw[hq,gt0,if_pos ⟨by omega,by simp⟩,e1,if_pos hk,Awn K hn,Z0,if_pos ⟨by omega,by simp⟩,Awe,Z0]
 unfold Azz A0y
 have hp:plB w.fL (gt w.fL (x.Er - 1)).Wl=decide (1≤(gt w.fL (x.Er - 1)).Wl∧(gt w.fL (x.Er - 1)).Wl≤(w.fL.length:Int)):=by
  rw[Bool.eq_iff_iff,A35 (by omega) (by omega),decide_eq_true_iff]
  omega
 rw[hp]
 by_cases q:1≤(gt w.fL (x.Er - 1)).Wl∧(gt w.fL (x.Er - 1)).Wl≤(w.fL.length:Int)
 ·rw[decide_eq_true q];simp only[cond_true];rw[sb1 (by omega) (by omega),if_pos ⟨by omega,by omega⟩]
  unfold Apm;exact hj _ _ (by rw[Z49]) (by rw[hq];simp)
 ·rw[decide_eq_false q];simp only[cond_false];exact hj _ _ rfl (by rw[hq];simp)
theorem Bk1{l:List A8}(hl:Agf l){k gens:Int}(hk:0≤k∧k<(l.length:Int))(hg:0≤(gt l k).C6∧(gt l k).C6≤1000):Ayy K l k gens=some (l.set k.toNat (A4v (gt l k) gens)):=by
 unfold Ayy Aqq Awx A4v;rw[A1f hK hl,Z0,Azq K (Aen hl),decide_eq_true hk];simp only[Z0,Bool.not_true,cond_false,if_pos hk];rw[ad1 (by omega) (by omega)]
 by_cases q:gens≤(gt l k).C6
 ·rw[decide_eq_true (show(gt l k).C6≥gens from q),if_pos q];rfl
 ·rw[decide_eq_false (show ¬(gt l k).C6≥gens from q),if_neg q];rfl
theorem Bea{w:Ds}{E:Int}{n:Nat}(G:D1 w E n)(hE:0≤E∧E≤1000000000)(hn:n≤1000000000)(h0:0<w.fQ.length): ∃w',At5 K w=some w'∧Bcx w w' E:=by
 have hm:=Adv
 have W:=G.ww hE.2 hn
 have h1:=Bf2 w
 have h2:=Bkl w
 have h3:=G.wt;cases hq:w.fQ with
 |nil=>rw[hq]at h0;simp at h0
 |cons x qs=>
 have R:=Awc.1 (Ayk G.inv hq).1
 have hlq:(w.fQ).length=qs.length+1:=by rw[hq];simp
 unfold At5 A0h;rw[hq,gt0,if_pos ⟨by omega,by simp⟩]
 by_cases c1:0<x.F3.length
 ·refine⟨_,?_,Bkx G hq c1⟩;rw[decide_eq_true (show(x.F3.length:Int)>0 by omega)]
  simp only[cond_true,Z0,beq_self_eq_true];rw[Bs8 K hq c1 R.ntag (by omega)];rfl
 ·rw[decide_eq_false (show ¬(x.F3.length:Int)>0 by omega)]
  by_cases c2:0<x.A6.length
  ·refine⟨_,?_,Bf7 G hq c2⟩;rw[decide_eq_true (show(x.A6.length:Int)>0 by omega)]
   simp only[cond_true,cond_false,Z0];rw[show((2:Int)==1)=false from rfl,show((2:Int)==2)=true from rfl]
   simp only[cond_true,cond_false];rw[Bn4 hK G.inv W.p hq c2];rfl
  ·rw[decide_eq_false (show ¬(x.A6.length:Int)>0 by omega)]
   have hc:x.A6=[]:=Ks.1 (by omega)
   by_cases c3:x.Er=0
   ·refine⟨_,?_,Bkz G hE.1 hq hc c3⟩
    have X:=Bd9 G.inv hq
    have hs:=R.slot;obtain⟨b1,b2,b3,b4,b5,b6⟩:=Ap G.inv.conf
    have et:((x::qs).drop (1:Int).toNat).take (((x::qs).length:Int) - 1).toNat=qs:=by
     show qs.take _=qs;exact List.take_of_length_le (by simp)
    rw[c3];simp only[bne_self_eq_false,cond_false,Z0];rw[show((4:Int)==1)=false from rfl,show((4:Int)==2)=false from rfl,show((4:Int)==3)=false from rfl]
    simp only[cond_false];rw[if_pos ⟨by omega,by simp⟩,et,Yu]
    have hl1:(((x::qs).length:Nat):Int)=(qs.length:Int)+1:=by simp
    rw[hl1,if_pos (show(0:Int)≤0∧(0:Int)<(qs.length:Int)+1 from⟨by omega,by omega⟩),if_pos (show(0:Int)≤1∧(1:Int)≤(qs.length:Int)+1∧(qs.length:Int)+1≤(qs.length:Int)+1 from⟨by omega,by omega,by omega⟩),if_pos (show qs.length*72≤140737488355328∧qs.length≤maxLen from⟨by omega,by omega⟩)]
    unfold A39 Ax1
    by_cases q:x.Be=0
    ·rw[q,if_pos rfl];rfl
    ·have hgn:=X.gn q;rw[Aqd q,if_neg q,sb1 (by omega) (by omega),Bk1 hK W.l (X.k q) ⟨by omega,by omega⟩]
     simp only[cond_true,Z0];rw[if_pos (show(0:Int)≤1∧(1:Int)≤(qs.length:Int)+1∧(qs.length:Int)+1≤(qs.length:Int)+1 from⟨by omega,by omega,by omega⟩),if_pos (show qs.length*72≤140737488355328∧qs.length≤maxLen from⟨by omega,by omega⟩)]
   ·refine⟨_,?_,Bf8 G hE.1 hq c3⟩;rw[Aqd c3];simp only[cond_true,cond_false,Z0];rw[show((3:Int)==1)=false from rfl,show((3:Int)==2)=false from rfl,show((3:Int)==3)=true from rfl]
    simp only[cond_true,cond_false];rw[Bn7 hK G.inv W (by omega) hq c3];rfl
structure Steps (w w':Ds)(E:Int)(n:Nat):Prop where
 good:D1 w' E n
 stay:A38 w w'
theorem Bf9{E:Int}{n:Nat}(hE:0≤E∧E≤1000000000)(hn:n≤1000000000)(m:Int): ∀(f:Nat) (i:Int) (w:Ds),D1 w E n->pot w<f-> ∃r w',Asc K m f i w.fC.A6 w.fC.Kh w.fC.Fj w.fC.Hb w.fC.Fk w.fC.Ki w.fP.Sk w.fP.Yq w.fP.Sl w.fL w.fQ w.Afv=some (r,w')∧Steps w w' E n:=by
 intro f
 induction f with
 |zero=>intro i w _ h;omega
 |succ f ih=>
  intro i w G hf;rw[Asc];cases decide (i<m)with
  |false=>exact⟨m,w,rfl,G,A38.refl w⟩
  |true=>
  simp only[cond_true]
  by_cases q:w.fQ.length=0
  ·rw[q];exact⟨i,w,rfl,G,A38.refl w⟩
  ·obtain⟨w1,e1,S⟩:=Bea hK G hE hn (by omega)
   have hp:=S.pot;obtain⟨r,w2,e2,S2⟩:=ih (Am9 .i64 i 1) w1 (S.good G) (by omega)
   refine⟨r,w2,?_,S2.good,S.stay.trans S2.stay⟩;rw[Ail (by omega)]
   simp only[cond_false];rw[show Ds.mk (D4.mk w.fC.A6 w.fC.Kh w.fC.Fj w.fC.Hb w.fC.Fk w.fC.Ki) (Dh.mk w.fP.Sk w.fP.Yq w.fP.Sl) w.fL w.fQ w.Afv=w from rfl,e1,Z0]
   exact e2
theorem A5z{E:Int}{n:Nat}(hE:0≤E∧E≤1000000000)(hn:n≤1000000000)(m:Int){w:Ds}(G:D1 w E n): ∃r w',Asd K w m=some (r,w')∧Steps w w' E n:=by
 have:=G.wt;unfold wt at this;exact Bf9 hK hE hn m K 0 w G (by omega)
def A0f (p:Dh)(at_ n:Int):Bool:=decide (0≤at_)&&(decide (1≤n)&&(decide (at_+n≤(p.Yq.length:Int))&&(List.range n.toNat).all (fun k=>gt p.Yq (at_+(k:Int))==0)))
omit hK in
theorem Awp{p:Dh}{a n:Int}:A0f p a n=true ↔ 0≤a∧1≤n∧a+n≤(p.Yq.length:Int)∧ ∀c,a≤c∧c<a+n->gt p.Yq c=0:=by
 unfold A0f;simp only[Z4,decide_eq_true_eq,Z1,List.mem_range,beq_iff_eq];refine and_congr_right fun h1=>and_congr_right fun h2=>and_congr_right fun h3=> ?_;constructor
 ·intro h c hc
  have:=h (c - a).toNat (by omega)
  rwa[show a+(((c - a).toNat:Nat):Int)=c by omega]at this
 ·intro h k hk;exact h _ ⟨by omega,by omega⟩
theorem A74{p:Dh}(hp:p.Yq.length≤1000000000){a n:Int}(ha: -1000000000≤a∧a≤1000000000)(hn: -1000000000≤n∧n≤1000000000):Au4 K p a n=some (A0f p a n):=by
 unfold Au4 A0f
 by_cases h1:a<0
 ·rw[decide_eq_true h1,decide_eq_false (by omega: ¬0≤a)];rfl
 rw[decide_eq_false h1,decide_eq_true (by omega:0≤a)]
 by_cases h2:n<1
 ·rw[decide_eq_true h2,decide_eq_false (by omega: ¬1≤n)];rfl
 rw[decide_eq_false h2,decide_eq_true (by omega:1≤n)]
 simp only[cond_false,Z30]
 have es:Ana .i64 (p.Yq.length:Int) a=(p.Yq.length:Int) - a:=by unfold Ana;exact Aa3 (by omega) (by omega)
 rw[es]
 by_cases h3:a+n≤(p.Yq.length:Int)
 ·rw[decide_eq_false (by omega),decide_eq_false (by omega),decide_eq_true h3]
  simp only[cond_false,Z30]
  have ea:Am9 .i64 a n=a+n:=by unfold Am9;exact Aa3 (by omega) (by omega)
  have:=Apc hK n.toNat (by omega) (fun k=>gt p.Yq (a+(k:Int))==0) (some true) (fun f i=>Aq7 K a n f (a+i) p.Sk p.Yq p.Sl) (fun f i h=> ?_) (fun f=> ?_)
  ·simp only[Int.add_zero]at this;rw[this];cases (List.range n.toNat).all _<;>rfl
  ·simp only[Aq7]
   have e1:Am9 .i64 (a+(i:Int)) 1=a+((i+1:Nat):Int):=by rw[ad1 (by omega) (by omega)];omega
   rw[ea,decide_eq_true (by omega),cond_true,if_pos ⟨by omega,by omega⟩,e1]
   cases e:gt p.Yq (a+(i:Int))==0<;>simp[bne,e]
  ·simp only[Aq7];rw[ea,decide_eq_false (by omega)];rfl
 ·rw[decide_eq_false h3];simp only[Bool.false_and]
  by_cases h4:a>(p.Yq.length:Int)
  ·rw[decide_eq_true h4];rfl
  ·rw[decide_eq_false h4,decide_eq_true (by omega)];rfl
theorem A5h{p:Dh}(hp:p.Yq.length≤1000000000){n:Int}(hn: -1000000000≤n∧n≤1000000000): ∃r,Avj K p n=some r∧(r= -1∨A0f p r n=true):=by
 have key: ∀(f i:Nat),i≤p.Yq.length->p.Yq.length - i<f-> ∃r,Arh K n f (i:Int) p.Sk p.Yq p.Sl=some r∧(r= -1∨A0f p r n=true):=by
  intro f
  induction f with
  |zero=>intro i _ h;omega
  |succ f ih=>
   intro i hi hf;rw[Arh];rcases Ez i p.Yq.length with h|h
   ·rw[Agh h,cond_true,show Dh.mk p.Sk p.Yq p.Sl=p from rfl,A74 hK hp ⟨by omega,by omega⟩ hn,Z0]
    cases e:A0f p (i:Int) n with
    |true=>exact⟨_,rfl,.inr e⟩
    |false=>
     rw[Agd (by omega)]
     exact ih (i+1) h (by omega)
   ·rw[Agl h];exact⟨_,rfl,.inl rfl⟩
 exact key K 0 (Z21 _) (by omega)
theorem Bk2{E:Int}{n:Nat}(hE:0≤E∧E≤1000000000)(hn:n≤1000000000)(a:Int){run:Int}(hr: -1000000000≤run∧run≤1000000000): ∀(f:Nat) (i:Int) (w:Ds),D1 w E n->pot w<f-> ∃r w',Apx K a run f i w.fC.A6 w.fC.Kh w.fC.Fj w.fC.Hb w.fC.Fk w.fC.Ki w.fP.Sk w.fP.Yq w.fP.Sl w.fL w.fQ w.Afv=some (r,w')∧Steps w w' E n:=by
 intro f
 induction f with
 |zero=>intro i w _ h;omega
 |succ f ih=>
  intro i w G hf
  have W:=G.ww hE.2 hn
  have hst:=(Ak7.1 G.inv.pool).st;obtain⟨b1,b2,b3,b4,b5,b6⟩:=Ap G.inv.conf
  have hlen:=G.inv.len;rw[Apx]
  have hw:Ds.mk (D4.mk w.fC.A6 w.fC.Kh w.fC.Fj w.fC.Hb w.fC.Fk w.fC.Ki) (Dh.mk w.fP.Sk w.fP.Yq w.fP.Sl) w.fL w.fQ w.Afv=w:=rfl
  have hp:Dh.mk w.fP.Sk w.fP.Yq w.fP.Sl=w.fP:=rfl;obtain⟨cn,hcn⟩: ∃cn,Apu K w.fL 0=some cn:=⟨_,A1n hK w.fL 0 (by omega)⟩
  rw[hw,hp,hcn]
  by_cases q:0<w.fQ.length
  ·obtain⟨w1,e1,S⟩:=Bea hK G hE hn q
   have hpot:=S.pot;obtain⟨r,w2,e2,S2⟩:=ih (Am9 .i64 i 1) w1 (S.good G) (by omega)
   have hgo: ∃r w',Ata K i w.fC.A6 w.fC.Kh w.fC.Fj w.fC.Hb w.fC.Fk w.fC.Ki w.fP.Sk w.fP.Yq w.fP.Sl w.fL w.fQ w.Afv (Apx K a run f)=some (r,w')∧Steps w w' E n:=by
    refine⟨r,w2,?_,S2.good,S.stay.trans S2.stay⟩;unfold Ata;rw[hw,e1,Z0];exact e2
   have hno: ∃r w',(some (i,w):Option (Int×Ds))=some (r,w')∧Steps w w' E n:=⟨_,_,rfl,G,A38.refl w⟩;obtain⟨r5,e5,_⟩:=A5h hK (p:=w.fP) (by omega) hr
   rw[decide_eq_true (show(w.fQ.length:Int)>0 by omega),e5]
   simp only[cond_true,Z0];cases decide (cn<a)with
   |true=>exact hgo
   |false=>
    simp only[cond_false];cases decide (run>0)with
    |false=>exact hno
    |true=>
     simp only[cond_true];cases decide (r5<0)with
     |true=>exact hgo
     |false=>exact hno
  ·rw[decide_eq_false (show ¬(w.fQ.length:Int)>0 by omega)]
   exact⟨_,_,rfl,G,A38.refl w⟩
theorem Bcz{E:Int}{n:Nat}(hE:0≤E∧E≤1000000000)(hn:n≤1000000000)(a:Int){run:Int}(hr: -1000000000≤run∧run≤1000000000){w:Ds}(G:D1 w E n): ∃r w',Au7 K w a run=some (r,w')∧Steps w w' E n:=by
 have:=G.wt;unfold wt at this;exact Bk2 hK hE hn a hr K 0 w G (by omega)
end
section
variable {K:Nat} (hK:281474976710656≤K)
include hK
theorem A9s{l:List A8}(hl:l.length≤1000000000): ∃r,Axw K l=some r∧(r= -1∨(0≤r∧r<(l.length:Int))∧(gt l r).Yq=0):=by
 have key: ∀(f i:Nat),i≤l.length->l.length - i<f-> ∃r,Aqs K l f (i:Int)=some r∧(r= -1∨(0≤r∧r<(l.length:Int))∧(gt l r).Yq=0):=by
  intro f
  induction f with
  |zero=>intro i _ h;omega
  |succ f ih=>
   intro i hi hf;rw[Aqs];rcases Ez i l.length with h|h
   ·rw[Agh h,cond_true,if_pos (Akh h),Agd (by omega)]
    by_cases e:(gt l (i:Int)).Yq=0
    ·rw[e];exact⟨_,rfl,.inr ⟨⟨by omega,by omega⟩,e⟩⟩
    ·rw[Ail e];exact ih (i+1) h (by omega)
   ·rw[Agl h];exact⟨_,rfl,.inl rfl⟩
 exact key K 0 (Z21 _) (by omega)
theorem A4a{p:Dh}(hp:p.Yq.length≤1000000000): ∃r,Aup K p=some r∧(r= -1∨A0f p r 1=true):=by
 have key: ∀(f i:Nat),i≤p.Yq.length->p.Yq.length - i<f-> ∃r,Aqt K f (i:Int) p.Sk p.Yq p.Sl=some r∧(r= -1∨A0f p r 1=true):=by
  intro f
  induction f with
  |zero=>intro i _ h;omega
  |succ f ih=>
   intro i hi hf;rw[Aqt];rcases Ez i p.Yq.length with h|h
   ·rw[Agh h,cond_true,if_pos (Akh h),Agd (by omega)]
    by_cases e:gt p.Yq (i:Int)=0
    ·rw[e];refine⟨_,rfl,.inr (Awp.2 ⟨by omega,by omega,by omega,fun c hc=> ?_⟩)⟩
     rw[show c=(i:Int)by omega];exact e
    ·rw[Ail e];exact ih (i+1) h (by omega)
   ·rw[Agl h];exact⟨_,rfl,.inl rfl⟩
 exact key K 0 (Z21 _) (by omega)
structure Bga (p p':Dh)(a n k:Int):Prop where
 mem:p'.Sk=p.Sk
 st:p'.Yq.length=p.Yq.length
 own:p'.Sl.length=p.Sl.length
 one: ∀c,0≤c∧c<(p.Yq.length:Int)->gt p'.Yq c=(if a≤c∧c<a+n then 1 else gt p.Yq c)∧gt p'.Sl c=(if a≤c∧c<a+n then k else gt p.Sl c)
theorem A3i{p:Dh}(hw:Azp p)(hp:p.Yq.length≤1000000)(ho:p.Sl.length=p.Yq.length){a n k:Int}(hf:A0f p a n=true): ∃p',Aqu K p a n k=some p'∧Bga p p' a n k:=by
 obtain⟨h1,h2,h3,h4⟩:=Awp.1 hf;unfold Aqu;rw[A0a K hw,A74 hK (by omega) ⟨by omega,by omega⟩ ⟨by omega,by omega⟩,hf,ho]
 simp only[Z0,cond_true,bne_self_eq_false,cond_false]
 have ea:Am9 .i64 a n=a+n:=by unfold Am9;exact Aa3 (by omega) (by omega)
 have key: ∀(f i:Nat) (q:Dh),(i:Int)≤n->n.toNat - i<f->Bga p q a i k-> ∃p',Asa K a n k f (a+(i:Int)) q (Dh.mk [] [] [])=some p'∧Bga p p' a n k:=by
  intro f
  induction f with
  |zero=>intro i q _ h;omega
  |succ f ih=>
   intro i q hi hf T;rw[Asa,ea]
   by_cases h:(i:Int)=n
   ·rw[decide_eq_false (by omega),cond_false,←h]
    exact⟨q,rfl,T⟩
   ·have e1:Am9 .i64 (a+(i:Int)) 1=a+((i+1:Nat):Int):=by rw[ad1 (by omega) (by omega)];omega
    have hs:=T.st
    have hso:=T.own;rw[decide_eq_true (by omega),cond_true,if_pos ⟨by omega,by omega⟩,if_pos ⟨by omega,by omega⟩,e1]
    refine ih (i+1) _ (by omega) (by omega) ⟨T.mem,by simp[T.st],by simp[T.own],fun c hc=> ?_⟩
    obtain⟨t1,t2⟩:=T.one c hc;simp only;rw[A0w (by omega) (by omega),A0w (by omega) (by omega),t1,t2]
    by_cases q1:c=a+(i:Int)
    ·rw[if_pos q1,if_pos q1,if_pos (by omega),if_pos (by omega)];exact⟨rfl,rfl⟩
    ·rw[if_neg q1,if_neg q1]
     by_cases q2:a≤c∧c<a+(i:Int)
     ·rw[if_pos q2,if_pos q2,if_pos (by omega),if_pos (by omega)];exact⟨rfl,rfl⟩
     ·rw[if_neg q2,if_neg q2,if_neg (by omega),if_neg (by omega)];exact⟨rfl,rfl⟩
 have:=key K 0 p (by omega) (by omega) ⟨rfl,rfl,rfl,fun c hc=>by rw[if_neg (by omega),if_neg (by omega)];exact⟨rfl,rfl⟩⟩
 simpa using this
end
theorem Beb{w:Ds}(I:Inv w){k:Int}(hk:0≤k∧k<(w.fL.length:Int))(p':Dh)(l':List A8)(t':Int->Lk)(hN:l'.length=w.fL.length)
  (ho: ∀x,0≤x∧x<(w.fL.length:Int)->x≠k-> ∃a b c,gt l' x=lnk (gt w.fL x) a b c∧(0≤a∧a≤w.fC.Fj)∧(0≤b∧b≤w.fC.Fj)∧(0≤c∧c≤w.fC.Fj))
  (hs2:(gt w.fL k).Yq≠2) (L:Avf w.fC (gt l' k)) (A':AtT l' t') (F':Agn w.fL.length t' (Aq4 w.fQ))
  (P':A5f w.fC p') (hm:p'.Sk=w.fP.Sk)
  (hone: ∀c,0≤c∧c<w.fC.A6->(gt p'.Yq c=2 ↔ gt w.fP.Yq c=2)∧(gt p'.Yq c=1∧gt p'.Sl c=k ↔ c∈(gt l' k).A6)∧ ∀x,x≠k->(gt p'.Yq c=1∧gt p'.Sl c=x ↔ gt w.fP.Yq c=1∧gt w.fP.Sl c=x))
  (hth:(gt l' k).H7.all (Aq2 w.fC (gt l' k).A6)=true∧Aok (gt l' k).H7=true∧Aq3 w.fC w.fP.Sk (gt l' k)=true):
  Inv (Ds.mk w.fC p' l' w.fQ w.Afv):=by
 refine⟨Ak7.2 P',by show(l'.length:Int)=_;rw[hN];exact I.len,fun x hx=> ?_,fun x hx c=> ?_,fun x hx=> ?_,⟨t',A',by show Agn (l'.length:Int) _ _;rw[hN];exact F'⟩,fun x hx=> ?_,I.chn,fun c=> ?_,I.sln,fun s=> ?_,I.log⟩
 ·have hx:0≤x∧x<(l'.length:Int):=hx;rw[hN]at hx
  show Aqe w.fC (gt l' x)=true
  by_cases e:x=k
  ·rw[e];exact(Amj.2 L).1
  ·obtain⟨a,b,c,h1,h2,h3,h4⟩:=ho x hx e;rw[h1]
   by_cases hs:(gt w.fL x).Yq=1
   ·exact(Amj.2 (A6n (Amj.1 ⟨I.node x hx,hs⟩) h2 h3 h4)).1
   ·have X:=Axr (I.node x hx) hs
    have B:=F'.tree.bare x hx.1 hx.2 (by rw[A' x (by rw[hN];exact hx),h1];simpa[A2a,lnk]using hs)
    rw[A' x (by rw[hN];exact hx),h1]at B
    obtain⟨_,B2,B3,B4⟩:=B
    have q1:a=0:=B2
    have q2:b=0:=B3
    have q3:c=0:=B4
    have this:lnk (gt w.fL x) 0 0 0=gt w.fL x:=by rw[X];rfl
    rw[q1,q2,q3,this];exact I.node x hx
 ·have hx:0≤x∧x<(l'.length:Int):=hx;rw[hN]at hx
  show c∈(gt l' x).A6 ↔ (0≤c∧c<w.fC.A6)∧gt p'.Yq c=1∧gt p'.Sl c=x
  by_cases e:x=k
  ·rw[e];constructor
   ·intro h
    have hin:=Av8 L.dist c h;exact⟨hin,(hone c hin).2.1.2 h⟩
   ·rintro⟨a,b⟩;exact(hone c a).2.1.1 b
  ·obtain⟨a,b,d,h1,_⟩:=ho x hx e;rw[h1]
   show c∈(gt w.fL x).A6 ↔ _;rw[I.own x hx c];exact and_congr_right fun h=>((hone c h).2.2 x e).symm
 ·have hx:0≤x∧x<(l'.length:Int):=hx;rw[hN]at hx
  show(gt l' x).H7.all (Aq2 w.fC (gt l' x).A6)=true∧Aok (gt l' x).H7=true∧Aq3 w.fC p'.Sk (gt l' x)=true;rw[hm]
  by_cases e:x=k
  ·rw[e];exact hth
  ·obtain⟨a,b,d,h1,_⟩:=ho x hx e;rw[h1];exact I.thing x hx
 ·obtain⟨a,b⟩:=I.wrec x hx;refine⟨a,?_⟩;unfold Aol at b ⊢
  show(_||Apd ((p'.Sk.drop _).take _))=true
  rw[hm];exact b
 ·show c∈chL w.fQ ↔ (0≤c∧c<w.fC.A6)∧gt p'.Yq c=2;rw[I.chi c];exact and_congr_right fun h=>(hone c h).1.symm
 ·show s∈slL w.fQ ↔ (0≤s∧s<(l'.length:Int))∧(gt l' s).Yq=2;rw[I.sli s,hN];refine and_congr_right fun h=> ?_
  by_cases e:s=k
  ·rw[e,L.st];constructor
   ·intro q;exact absurd q hs2
   ·intro q;cases q
  ·obtain⟨a,b,d,h1,_⟩:=ho s h e;rw[h1];rfl
theorem A75{w:Ds}(I:Inv w){p':Dh}{a n k:Int}(hk:0≤k∧k<(w.fL.length:Int))(hf:A0f w.fP a n=true)(T:Bga w.fP p' a n k):
  A5f w.fC p'∧ ∀c,0≤c∧c<w.fC.A6->(gt p'.Yq c=2 ↔ gt w.fP.Yq c=2)∧(gt p'.Yq c=1∧gt p'.Sl c=k ↔ c∈(gt w.fL k).A6∨a≤c∧c<a+n)∧ ∀x,x≠k->(gt p'.Yq c=1∧gt p'.Sl c=x ↔ gt w.fP.Yq c=1∧gt w.fP.Sl c=x):=by
 have P:=Ak7.1 I.pool;obtain⟨f1,f2,f3,f4⟩:=Awp.1 hf
 have hlen:=I.len;refine⟨⟨P.conf,by rw[T.mem];exact P.mem,by rw[T.st];exact P.st,by rw[T.own];exact P.own,fun c hc=> ?_⟩,fun c hc=> ?_⟩
 ·obtain⟨t1,t2⟩:=T.one c (by rw[P.st];exact hc)
  obtain⟨p1,p2,p3,p4⟩:=P.one c hc;rw[t1,t2,T.mem]
  by_cases q:a≤c∧c<a+n
  ·rw[if_pos q,if_pos q];exact⟨by omega,fun _=>by omega,fun h=>absurd rfl h,fun h=>by omega⟩
  ·rw[if_neg q,if_neg q];exact⟨p1,p2,p3,p4⟩
 ·obtain⟨t1,t2⟩:=T.one c (by rw[P.st];exact hc)
  rw[t1,t2]
  have ho:=I.own k hk c
  by_cases q:a≤c∧c<a+n
  ·rw[if_pos q,if_pos q,f4 c q];refine⟨by omega,⟨fun _=> .inr q,fun _=>⟨rfl,rfl⟩⟩,fun x hx=>⟨fun h=>absurd h.2.symm hx,fun h=>by omega⟩⟩
  ·rw[if_neg q,if_neg q];refine⟨Iff.rfl,⟨fun h=> .inl (ho.2 ⟨hc,h⟩),fun h=> ?_⟩,fun x hx=>Iff.rfl⟩;rcases h with h|h
   ·exact(ho.1 h).2
   ·exact absurd h q
structure Btd (l l':List A8)(p k:Int):Prop where
 len:l'.length=l.length
 at_:gt l' k=A8.mk (gt l k).Yq (gt l k).C6 (gt l k).Sy (p+1) (gt l p).Sy (gt l k).Er (gt l p).Er 0 (gt l k).A6 (gt l k).Afu (gt l k).Wn (gt l k).H7 (gt l k).F3
 ot: ∀x,0≤x∧x<(l.length:Int)->x≠k->gt l' x=lnk (gt l x) (if x=p then k+1 else(gt l x).Er) (gt l x).Wl (if x+1=(gt l p).Er then k+1 else(gt l x).Wm)
section
variable {K:Nat} (hK:281474976710656≤K)
include hK
theorem Bn8{l:List A8}(hl:Agf l)(h8:l.length≤1000){p k:Int}(hp:0≤p∧p<(l.length:Int))(hk:0≤k∧k<(l.length:Int))(hne:p≠k)(hf:0≤(gt l p).Er∧(gt l p).Er≤(l.length:Int))(hfk:(gt l p).Er≠k+1): ∃l',Awj K l p k=some l'∧Btd l l' p k:=by
 have e1:Am9 .i64 p 1=p+1:=ad1 (by omega) (by omega)
 have e2:Am9 .i64 k 1=k+1:=ad1 (by omega) (by omega)
 have e3:Ana .i64 (gt l p).Er 1=(gt l p).Er - 1:=sb1 (by omega) (by omega)
 have g1: ∀v,gt (l.set k.toNat v) k=v:=fun v=>Axn hk v
 have g2: ∀v,gt (l.set k.toNat v) p=gt l p:=fun v=>Axo hk.1 hp (Ne.symm hne) v;unfold Awj Ax5;rw[A1f hK hl,Z0,e1,e2,Awe,decide_eq_true (by omega),Z0,cond_true,Awe,decide_eq_true (by omega),Z0,cond_true,Ail hne,cond_false,e3]
 simp only[Apm,if_pos hp,if_pos hk,Z49,g1,g2,List.set_set];rw[Awe,Z0]
 have hp': ∀v:A8,0≤p∧p<((l.set k.toNat v).length:Int):=fun v=>by rw[Z49];exact hp
 have h2: ∀(u v:A8) (x:Int),0≤x∧x<(l.length:Int)->gt ((l.set k.toNat u).set p.toNat v) x=if x=p then v else if x=k then u else gt l x:=by
  intro u v x hx;rw[Ao4 (hp' _) (by simpa using hx),Ao4 hk hx]
 by_cases q:1≤(gt l p).Er∧(gt l p).Er≤(l.length:Int)
 ·rw[decide_eq_true q,cond_true,if_pos ⟨by omega,by omega⟩]
  refine⟨_,rfl,by simp,?_,fun x hx hxk=> ?_⟩
  ·rw[Axo (by omega) (by simpa using hk) (by omega),Axo hp.1 (by simpa using hk) hne,g1]
  ·by_cases a:x=(gt l p).Er - 1
   ·rw[if_pos (show x+1=(gt l p).Er by omega),←a,Axn (by simpa using hx),h2 _ _ x hx,if_neg hxk]
    by_cases b:x=p
    ·rw[if_pos b,if_pos b,b];rfl
    ·rw[if_neg b,if_neg b];rfl
   ·rw[Axo (by omega) (by simpa using hx) (Ne.symm a),h2 _ _ x hx,if_neg hxk,if_neg (show ¬x+1=(gt l p).Er by omega)]
    by_cases b:x=p
    ·rw[if_pos b,if_pos b,b];rfl
    ·rw[if_neg b,if_neg b];rfl
 ·rw[decide_eq_false q,cond_false];refine⟨_,rfl,by simp,?_,fun x hx hxk=> ?_⟩
  ·rw[Axo hp.1 (by simpa using hk) hne,g1]
  ·rw[h2 _ _ x hx,if_neg hxk,if_neg (show ¬x+1=(gt l p).Er by omega)]
   by_cases b:x=p
   ·rw[if_pos b,if_pos b,b];rfl
   ·rw[if_neg b,if_neg b];rfl
end
def A7l (g c:Int):A8:=A8.mk 1 g 0 0 0 0 0 0 [c] (c+1) 0 [] []
structure Bec (w:Ds)(t:Int->Lk)(k c p:Int):Prop where
 hk:0≤k∧k<(w.fL.length:Int)
 st:(gt w.fL k).Yq=0
 free:A0f w.fP c 1=true
 up:p= -1∨Al w.fL.length t p∧(rise w.fL.length t w.fL.length p).length<4
theorem Bec.bare{w:Ds}(I:Inv w){t:Int->Lk}{k c p:Int}(M:Bec w t k c p):gt w.fL k=Aq1 0 (gt w.fL k).C6:=by
 have:=Axr (I.node k M.hk) (by rw[M.st];decide)
 rw[M.st]at this;exact this
def mkN (w:Ds)(k c p:Int):A8:=A8.mk 1 (gt w.fL k).C6 0 (p+1) (if p+1=0 then 0 else(gt w.fL p).Sy) 0 (if p+1=0 then 0 else(gt w.fL p).Er) 0 [c] (c+1) 0 [] []
structure Bpu (w:Ds)(l':List A8)(k c p:Int):Prop where
 len:l'.length=w.fL.length
 at_:gt l' k=mkN w k c p
 ot: ∀x,0≤x∧x<(w.fL.length:Int)->x≠k->gt l' x=lnk (gt w.fL x) (if x=p then k+1 else(gt w.fL x).Er) (gt w.fL x).Wl (if p+1≠0∧x+1=(gt w.fL p).Er then k+1 else(gt w.fL x).Wm)
theorem A5i{c:D4}{n:A8}{mem:List Int}{ch:Int}(h1:n.Afu=ch+1)(h2:n.Wn=0)(hz:Apd (As7 c mem ch)=true)(ha:n.H7.all (fun t=>Amp t (Atz c n))=true):Aq3 c mem n=true:=by
 unfold Aq3;rw[ha,Bool.and_true,Bool.or_eq_true];refine .inr ?_
 have e1:(Atz c n).fAt=ch*c.Kh:=by unfold Atz;rw[h1,h2,Int.add_sub_cancel,Int.add_zero]
 have e2:(Atz c n).Ai8=c.Kh:=by unfold Atz;rw[h2];simp
 rw[e1,e2];exact hz
theorem Bk3{w:Ds}(I:Inv w){t:Int->Lk}(A:AtT w.fL t)(F:Agn w.fL.length t (Aq4 w.fQ)){k c p:Int}(M:Bec w t k c p){p':Dh}(T:Bga w.fP p' c 1 k){l':List A8}(L:Bpu w l' k c p):Inv (Ds.mk w.fC p' l' w.fQ w.Afv):=by
 have hk:=M.hk
 have hb:=M.bare I
 have hb1:(gt w.fL k).A6=[]:=by rw[hb];rfl
 have P:=Ak7.1 I.pool;obtain⟨T1,T2⟩:=A75 I hk M.free T;obtain⟨f1,f2,f3,f4⟩:=Awp.1 M.free;obtain⟨b1,b2,b3,b4,b5,b6⟩:=Ap I.conf
 have hlen:=I.len
 have hg:=Azx (I.node k hk)
 have hc:0≤c∧c<w.fC.A6:=by have:=P.st;omega
 have hp:p= -1∨(0≤p∧p<(w.fL.length:Int)):=M.up.imp_right fun h=>h.1.lv.1
 have hpf:p+1≠0->(0≤p∧p<(w.fL.length:Int))∧p≠k:=fun h=>by
  rcases M.up with e|⟨e,_⟩
  ·omega
  ·refine⟨e.lv.1,fun q=> ?_⟩
   have:=((As8 A).1 e.lv).2;rw[q,M.st]at this;cases this
 have hA:AtT l' (ins t k p):=by
  intro x hx;rw[L.len]at hx
  by_cases e:x=k
  ·subst e;rw[Au0,L.at_];unfold mkN A2a;simp only
   by_cases q:p+1=0
   ·rw[if_pos q,if_pos q,if_pos q,if_pos q];rfl
   ·rw[if_neg q,if_neg q,if_neg q,if_neg q,A p (hpf q).1];rfl
  ·rw[Asy e,L.ot x hx e,A x hx]
   by_cases q:p+1=0
   ·rw[if_neg (fun r:p+1≠0∧x+1=(t p).fi=>r.1 q),if_neg (fun r:p+1≠0∧x+1=(gt w.fL p).Er=>r.1 q)];rfl
   ·rw[A p (hpf q).1];rfl
 have hF:Agn w.fL.length (ins t k p) (Aq4 w.fQ):=by
  refine Ba7 F hk ?_ ?_ M.up
  ·rw[A k hk];show((gt w.fL k).Yq==1)=false;rw[M.st];rfl
  ·rw[A k hk];show((gt w.fL k).Yq==2)=false;rw[M.st];rfl
 have hfp:0≤(if p+1=0 then 0 else(gt w.fL p).Er)∧(if p+1=0 then 0 else(gt w.fL p).Er)≤w.fC.Fj:=by
  split
  ·omega
  ·rename_i q
   have:=(I.rg.rg p (hpf q).1).2.1;omega
 have hep:0≤(if p+1=0 then 0 else(gt w.fL p).Sy):=by
  split
  ·omega
  ·rename_i q;rcases M.up with e|⟨e,_⟩
   ·omega
   ·exact(I.live A e.lv).ep
 have hz:Apd (As7 w.fC w.fP.Sk c)=true:=(P.one c hc).2.2.2 (f4 c ⟨by omega,by omega⟩)
 refine Beb I hk p' l' (ins t k p) L.len (fun x hx e=>⟨_,_,_,L.ot x hx e,?_,?_,?_⟩) (by rw[M.st];decide) ?_ hA hF T1 T.mem (fun x hx=> ?_) ?_
 ·have:=(I.rg.rg x hx).2.1;split<;>omega
 ·have:=(I.rg.rg x hx).2.2.1;omega
 ·have:=(I.rg.rg x hx).2.2.2;split<;>omega
 ·rw[L.at_];refine⟨I.conf,rfl,hg.2.2,?_,⟨Int.le_refl 0,by show(0:Int)≤_;omega⟩,hfp,⟨Int.le_refl 0,by show(0:Int)≤_;omega⟩,Int.le_refl 0,hep,A0x.2 ⟨by simp[mkN],fun x hx=> ?_⟩,?_,Z21 _,Z21 _,rfl,rfl⟩
  ·show 0≤p+1∧p+1≤_;omega
  ·rw[Mk.1 (show x∈[c] from hx)];exact hc
  ·unfold A3r mkN;simp only;rw[Ail (by omega),cond_false,sb1 (by omega) (by omega),Int.add_sub_cancel,Age.2 ⟨by omega,by omega⟩]
   simp
 ·obtain⟨a1,a2,a3⟩:=T2 x hx;refine⟨a1,?_,a3⟩;rw[a2,hb1,L.at_]
  show x∈[]∨_ ↔ x∈[c];rw[Mk];constructor
  ·rintro(h|h)
   ·cases h
   ·omega
  ·intro h;exact .inr (by omega)
 ·rw[L.at_];exact⟨rfl,rfl,A5i rfl rfl hz rfl⟩
theorem Bk4{l:List A8}{t:Int->Lk}(A:AtT l t)(R:Rg l): ∀(n:Nat) (k:Int),Aru l (Aes l n k)=true->Awf l (Aes l n k)=true->Al l.length t k:=by
 intro n
 induction n with
 |zero=>intro k _ h;simp[Aes,Awf]at h
 |succ n ih=>
  intro k h1 h2;unfold Aes at h1 h2
  by_cases hk:0≤k∧k<(l.length:Int)
  ·rw[if_pos hk]at h1 h2
   have hu:=(R.rg k hk).1
   have hl:=R.len;rw[sb1 (by omega) (by omega)]at h1 h2
   cases hr:Aes l n ((gt l k).fUp - 1)with
   |nil=>
    rw[hr]at h1 h2
    have s1:(gt l k).Yq=1:=by simpa[Aru]using h1
    have s2:(gt l k).fUp=0:=by
     have:((gt l (gt [k] ((0:Nat):Int))).fUp==0)=true:=by simpa[Awf]using h2
     exact beq_iff_eq.1 this
    exact .root ((As8 A).2 ⟨hk,s1⟩) (by rw[A k hk];exact s2)
   |cons y r=>
    have hy:y=(gt l k).fUp - 1∧0≤y∧y<(l.length:Int):=by
     cases n with
     |zero=>simp[Aes]at hr
     |succ m=>
      unfold Aes at hr;split at hr
      ·rename_i q;obtain⟨e,_⟩:=List.cons.inj hr;exact⟨e.symm,by omega,by omega⟩
      ·cases hr
    rw[hr]at h1 h2
    have h1:((gt l k).Yq==1&&((gt l k).Wk==(gt l y).Sy)&&Aru l (y::r))=true:=h1;rw[Z4,Z4,beq_iff_eq,beq_iff_eq]at h1;obtain⟨⟨s1,s2⟩,s3⟩:=h1
    have s4:Awf l (y::r)=true:=by
     unfold Awf at h2 ⊢;rw[if_pos (by simp)]at h2 ⊢
     have e:gt (k::y::r) (((k::y::r).length - 1:Nat):Int)=gt (y::r) (((y::r).length - 1:Nat):Int):=by
      rw[show(k::y::r).length - 1=((y::r).length - 1)+1 by simp]
      exact Ayh _ _ (by simp)
     rw[e]at h2;exact h2
    have h5:(gt l y).Yq=1:=by
     cases r with
     |nil=>simpa[Aru]using s3
     |cons z r=>
      simp only[Aru,Z4,beq_iff_eq]at s3;exact s3.1.1
    have h6:=ih ((gt l k).fUp - 1) (by rw[hr];exact s3) (by rw[hr];exact s4)
    refine .step ((As8 A).2 ⟨hk,s1⟩) ?_ (by rw[A k hk];exact h6)
    unfold Cu;rw[A k hk]
    show Lv _ t ((gt l k).fUp - 1)∧(t ((gt l k).fUp - 1)).ep=(gt l k).Wk;rw[←hy.1,A y hy.2,s2];exact⟨(As8 A).2 ⟨hy.2,h5⟩,rfl⟩
  ·rw[if_neg hk]at h2;simp[Awf]at h2
theorem A76{w:Ds}(I:Inv w){k:Int}(h:Aph w.fL k=true):AlW w.fL k:=by
 obtain⟨t,A,_⟩:=I.forest;unfold Aph at h;rw[Z4]at h;exact⟨t,A,Bk4 A I.rg _ _ h.1 h.2⟩
theorem A2w{w:Ds}(I:Inv w){h:Bo}(h0:(Aqz w.fL h).2=0):AlW w.fL (Aqz w.fL h).1:=by
 unfold Aqz at *;cases e1:Atk h with
 |false=>rw[e1]at h0;simp at h0
 |true=>
  rw[e1]at h0;simp only[cond_true]at h0 ⊢;cases e2:decide (Ap6 w.fL h<0)with
  |true=>rw[e2]at h0;simp at h0
  |false=>
   rw[e2]at h0;simp only[cond_false]at h0 ⊢;cases e3:Aph w.fL (Ap6 w.fL h)with
   |false=>rw[e3]at h0;simp at h0
   |true=>simp only[cond_true];exact A76 I e3
section
variable {K:Nat} (hK:281474976710656≤K)
include hK
theorem Bbf{w:Ds}(hw:Aoc w)(h8:w.fL.length≤1000): ∃r,Aym K w=some r:=by
 have key: ∀(f i:Nat) (v:Int),i≤w.fL.length->w.fL.length - i<f-> ∃r,Aj5 K f v (i:Int) w.fC.A6 w.fC.Kh w.fC.Fj w.fC.Hb w.fC.Fk w.fC.Ki w.fP.Sk w.fP.Yq w.fP.Sl w.fL w.fQ w.Afv=some r:=by
  intro f
  induction f with
  |zero=>intro i _ _ h;omega
  |succ f ih=>
   intro i v hi hf;rw[Aj5];rcases Ez i w.fL.length with h|h
   ·have go: ∀v,∃r,Am0 K (i:Int) w.fC.A6 w.fC.Kh w.fC.Fj w.fC.Hb w.fC.Fk w.fC.Ki w.fP.Sk w.fP.Yq w.fP.Sl w.fL w.fQ w.Afv (Aj5 K f) v=some r:=by
     intro v;unfold Am0;rw[Agd (by omega)]
     exact ih (i+1) v h (by omega)
    rw[Agh h,cond_true,if_pos (Akh h),A1z hK hw.l _ ⟨by omega,by omega⟩]
    simp only[Z0,if_pos (Akh h)];cases (gt w.fL (i:Int)).Yq==0 with
    |true=>exact go _
    |false=>
     simp only[cond_false];cases Aph w.fL (i:Int)with
     |true=>exact go _
     |false=>
      simp only[cond_false];cases (gt w.fL (i:Int)).Yq != 3 with
      |false=>exact go _
      |true=>
       simp only[cond_true];cases decide ((gt w.fL (i:Int)).C6<w.fC.Ki)<;>exact go _
   ·rw[Agl h];exact⟨_,rfl⟩
 exact key K 0 0 (Z21 _) (by omega)
theorem A6u{w:Ds}(hw:Aoc w)(h8:w.fL.length≤1000): ∃r,Awt K w=some r∧r.length≤w.fL.length∧ ∀x∈r,(0≤x∧x<(w.fL.length:Int))∧Aph w.fL x=true:=by
 have hm:=Adv
 have key: ∀(f i:Nat) (v:List Int),i≤w.fL.length->w.fL.length - i<f->v.length≤i->(∀x∈v,(0≤x∧x<(w.fL.length:Int))∧Aph w.fL x=true)-> ∃r,Aqh K f v (i:Int) w.fC.A6 w.fC.Kh w.fC.Fj w.fC.Hb w.fC.Fk w.fC.Ki w.fP.Sk w.fP.Yq w.fP.Sl w.fL w.fQ w.Afv=some r∧r.length≤w.fL.length∧ ∀x∈r,(0≤x∧x<(w.fL.length:Int))∧Aph w.fL x=true:=by
  intro f
  induction f with
  |zero=>intro i _ _ h;omega
  |succ f ih=>
   intro i v hi hf hl hv;rw[Aqh];rcases Ez i w.fL.length with h|h
   ·rw[Agh h,cond_true,A1z hK hw.l _ ⟨by omega,by omega⟩]
    simp only[Z0];cases e:Aph w.fL (i:Int)with
    |false=>
     simp only[cond_false];unfold Ar1;rw[Agd (by omega)]
     exact ih (i+1) v h (by omega) (by omega) hv
    |true=>
     simp only[cond_true];rw[if_pos ⟨by simp;omega,by simp;omega⟩]
     unfold Ar1;rw[Agd (by omega)]
     refine ih (i+1) _ h (by omega) (by simp;omega) fun x hx=> ?_
     rcases F8.1 hx with hx|hx
     ·exact hv x hx
     ·rw[Mk.1 hx];exact⟨⟨by omega,by omega⟩,e⟩
   ·rw[Agl h];exact⟨_,rfl,by omega,hv⟩
 exact key K 0 [] (Z21 _) (by omega) (by simp) (fun x hx=>by cases hx)
theorem A2h{w:Ds}(hw:Aoc w)(h8:w.fL.length≤1000)(n:Int): ∃b,Aq6 K w n=some b:=by
 obtain⟨r,e,hl,_⟩:=A6u hK hw h8
 have key: ∀(f i:Nat) (v:Int),i≤r.length->r.length - i<f-> ∃x,Apt K r f v (i:Int) w.fC.A6 w.fC.Kh w.fC.Fj w.fC.Hb w.fC.Fk w.fC.Ki w.fP.Sk w.fP.Yq w.fP.Sl w.fL w.fQ w.Afv=some x:=by
  intro f
  induction f with
  |zero=>intro i _ _ h;omega
  |succ f ih=>
   intro i v hi hf;rw[Apt];rcases Ez i r.length with h|h
   ·rw[Agh h,cond_true,if_pos (Akh h),A3s hK _ _ hw.p.st.2,Z0,Agd (by omega)]
    exact ih (i+1) _ h (by omega)
   ·rw[Agl h];exact⟨_,rfl⟩
 obtain⟨x,ex⟩:=key K 0 0 (Z21 _) (by omega)
 have ex:Apt K r K 0 0 w.fC.A6 w.fC.Kh w.fC.Fj w.fC.Hb w.fC.Fk w.fC.Ki w.fP.Sk w.fP.Yq w.fP.Sl w.fL w.fQ w.Afv=some x:=ex;unfold Aq6 Ayn;rw[e,Z0,ex];simp only[Z0];cases decide (n≥0)<;>cases decide (n≤w.fC.A6)<;>exact⟨_,rfl⟩
omit hK in
theorem A2i{l:List A8}(hl:l.length≤1000000)(k:Int): ∃h,Aq5 K l k=some h:=by
 unfold Aq5;rw[Azq K (by omega),Z0]
 by_cases q:0≤k∧k<(l.length:Int)
 ·rw[decide_eq_true q,if_pos q];exact⟨_,rfl⟩
 ·rw[decide_eq_false q];exact⟨_,rfl⟩
end
def A3j (n:A8)(c:Int):A8:=A8.mk n.Yq n.C6 n.Sy n.fUp n.Wk n.Er n.Wl n.Wm (n.A6++[c]) (c+1) 0 n.H7 n.F3
theorem A77{c:D4}{n:A8}(L:Avf c n){k:Int}(hk:0≤k∧k<c.A6)(hn:k ∉ n.A6):Avf c (A3j n k):=by
 obtain⟨b1,b2,_⟩:=Ap L.conf
 have hd:=A0x.1 L.dist;refine⟨L.conf,L.st,L.gen,L.up,L.first,L.next,L.prev,L.ep,L.ue,A0x.2 ⟨Adx.2 ⟨hd.1,by simp,fun x h1 h2=>by rw[Mk]at h2;subst h2;exact hn h1⟩,fun x hx=> ?_⟩,?_,L.nth,L.ntag,L.tags,L.things⟩
 ·rcases F8.1 hx with h|h
  ·exact hd.2 x h
  ·rw[Mk.1 h];exact hk
 ·unfold A3r A3j;simp only;rw[Ail (by omega),cond_false,sb1 (by omega) (by omega),Int.add_sub_cancel,Age.2 ⟨by omega,by omega⟩]
  simp
section
variable {K:Nat} (hK:281474976710656≤K)
include hK
theorem A78{c:D4}{n:A8}(L:Avf c n)(hw:Asv n){k:Int}(hk:0≤k∧k<c.A6)(hn:k ∉ n.A6):Au8 K c n k=some (A3j n k,true):=by
 have hm:=Adv
 have L2:=A77 L hk hn;obtain⟨b1,b2,_⟩:=Ap L.conf
 have h1:=Auk L.conf L.dist
 have h3:=L.nth
 have h4:=L.ntag
 have e:A8.mk n.Yq n.C6 n.Sy n.fUp n.Wk n.Er n.Wl n.Wm (n.A6++[k]) (Am9 .i64 k 1) 0 n.H7 n.F3=A3j n k:=by unfold A3j;rw[ad1 (by omega) (by omega)]
 unfold Au8
 have hb:A3j n k=A3j n k:=rfl;rw[Awn K hw,Z0,show(n.Yq != 1)=false by rw[L.st];rfl,cond_false,Aon,Azd hK L.conf,Age.2 ⟨by omega,by omega⟩,Z0,Bool.not_true,cond_false,if_pos ⟨by simp;omega,by simp;omega⟩,e]
 have hl:(A3j n k).A6.length=n.A6.length+1:=by unfold A3j;simp
 rw[Awk hK c (A3j n k) (by omega) (show n.H7.length≤_ by omega) (show n.F3.length≤_ by omega),(Amj.2 L2).1]
 rfl
omit hK in
theorem D1.le{w:Ds}{E E':Int}{n m:Nat}(G:D1 w E n)(hE:E≤E')(h:n≤m):D1 w E' m:=⟨G.inv,G.mem,fun k hk=>by have:=G.ep k hk;exact⟨Int.le_trans this.ep hE,Int.le_trans this.ue hE,this.cur⟩,Su G.wt h⟩
theorem Bgb{E:Int}{n:Nat}(hE:0≤E∧E≤900000000)(hn:n≤900000000){w:Ds}(G:D1 w E n){p at_ ch:Int}(hp:p= -1∨AlW w.fL p∧(Aes w.fL w.fL.length p).length<4)(ha:(0≤at_∧at_<(w.fL.length:Int))∧(gt w.fL at_).Yq=0)(hc:A0f w.fP ch 1=true):
  ∃p' l',Aqu K w.fP ch 1 at_=some p'∧(p= -1->l'=w.fL.set at_.toNat (A7l (gt w.fL at_).C6 ch))∧(p≠ -1->Awj K (w.fL.set at_.toNat (A7l (gt w.fL at_).C6 ch)) p at_=some l')∧D1 (Ds.mk w.fC p' l' w.fQ w.Afv) E (n+18)∧l'.length=w.fL.length:=by
 have I:=G.inv
 have W:=G.ww (by omega) (by omega)
 obtain⟨t,A,F⟩:=I.forest;obtain⟨b1,b2,b3,b4,b5,b6⟩:=Ap I.conf
 have P:=Ak7.1 I.pool
 have hst:=P.st
 have how:=P.own
 have hlen:=I.len;obtain⟨f1,f2,f3,f4⟩:=Awp.1 hc
 have M:Bec w t at_ ch p:=⟨ha.1,ha.2,hc,hp.imp_right fun h=>⟨h.1.al A,by rw[A34 A I.rg]at h;exact h.2⟩⟩
 obtain⟨p',ep,T⟩:=A3i hK W.p (by omega) (by omega) (k:=at_) hc
 have hg:=Azx (I.node at_ ha.1)
 have hbare:=M.bare I
 have hl': ∃l',(p= -1->l'=w.fL.set at_.toNat (A7l (gt w.fL at_).C6 ch))∧(p≠ -1->Awj K (w.fL.set at_.toNat (A7l (gt w.fL at_).C6 ch)) p at_=some l')∧Bpu w l' at_ ch p:=by
  by_cases q:p= -1
  ·refine⟨w.fL.set at_.toNat (A7l (gt w.fL at_).C6 ch),fun _=>rfl,fun h=>absurd q h,by simp,?_,fun x hx hne=> ?_⟩
   ·rw[Axn ha.1];unfold A7l mkN;rw[q];rfl
   ·have hpx:x≠p:=by omega
    rw[Axo ha.1.1 hx (Ne.symm hne),if_neg hpx,if_neg (fun r=>r.1 (by omega))]
    rfl
  ·obtain⟨al,_⟩:=hp.resolve_left q
   have al:=al.al A
   have hpi:=al.lv.1
   have hpl:=(As8 A).1 al.lv
   have hne:p≠at_:=fun e=>by rw[e,ha.2]at hpl;exact absurd hpl.2 (by decide)
   have hgp: ∀v,gt (w.fL.set at_.toNat v) p=gt w.fL p:=fun v=>Axo ha.1.1 hpi (Ne.symm hne) v
   have hnw:Asv (A7l (gt w.fL at_).C6 ch):=⟨Agc (x:=(1:Int)) (by omega) (by omega),Agc (by show _≤(gt w.fL at_).C6;omega) (by show(gt w.fL at_).C6≤_;omega),A3c,A3c,A3c,A3c,A3c,A3c,Aum (fun x hx=>by rw[Mk.1 (show x∈[ch] from hx)];omega) (by show [ch].length≤_;simp),Agc (by show _≤ch+1;omega) (by show ch+1≤_;omega),A3c,A5b,A4r⟩
   have hW:Agf (w.fL.set at_.toNat (A7l (gt w.fL at_).C6 ch)):=by
    refine⟨fun x hx=> ?_,by rw[Z49];exact W.l.2⟩
    rcases Z54 hx with h|h
    ·exact W.l.1 x h
    ·rw[h];exact hnw
   have hfr:=(I.rg.rg p hpi).2.1;obtain⟨l',e,L⟩:=Bn8 hK hW (by simp;omega) (p:=p) (k:=at_) (by simpa using hpi) (by simpa using ha.1) hne (by rw[hgp];simpa using hfr) (by
    rw[hgp];intro e
    have h1:=(F.tree.link p al.lv).first (by rw[A p hpi];show(gt w.fL p).Er≠0;omega)
    have h2:=((As8 A).1 h1.1).2;rw[A p hpi]at h2
    have h2:(gt w.fL ((gt w.fL p).Er - 1)).Yq=1:=h2;rw[e,Int.add_sub_cancel,ha.2]at h2;cases h2)
   refine⟨l',fun h=>absurd h q,fun _=>e,by rw[L.len];simp,?_,fun x hx hxk=> ?_⟩
   ·rw[L.at_,Axn ha.1,hgp];unfold A7l mkN;rw[if_neg (by omega),if_neg (by omega)]
   ·rw[L.ot x (by simpa using hx) hxk,Axo ha.1.1 hx (Ne.symm hxk),hgp]
    by_cases r:x+1=(gt w.fL p).Er
    ·rw[if_pos r,if_pos (show p+1≠0∧x+1=(gt w.fL p).Er from⟨by omega,r⟩)]
    ·rw[if_neg r,if_neg (fun s:p+1≠0∧x+1=(gt w.fL p).Er=>r s.2)]
 obtain⟨l',h1,h2,L⟩:=hl'
 have I':=Bk3 I A F M T L;refine⟨p',l',ep,h1,h2,⟨I',?_,fun x hx=> ?_,?_⟩,L.len⟩
 ·show ∀x∈p'.Sk,_;rw[T.mem];exact G.mem
 ·have hx:0≤x∧x<(l'.length:Int):=hx;rw[L.len]at hx
  show EpP E (gt l' x)
  by_cases e:x=at_
  ·rw[e,L.at_];refine⟨hE.1,?_,⟨by show 0≤ch+1;omega,by show ch+1≤_;omega⟩⟩
   show(if p+1=0 then 0 else(gt w.fL p).Sy)≤E
   split
   ·exact hE.1
   ·rename_i q
    have:=(hp.resolve_left (by omega)).1.al A
    exact(G.ep p this.lv.1).ep
  ·rw[L.ot x hx e]
   have:=G.ep x hx;exact⟨this.ep,this.ue,this.cur⟩
 ·have hs:=A2f (f:=wtN w.fC) L.len ha.1 fun x hx hne=>by rw[L.ot x hx hne];rfl
  have e0:wtN w.fC (gt w.fL at_)=0:=by rw[hbare];exact A2g _ (by decide) _
  have e1:wtN w.fC (gt l' at_)≤18:=by
   rw[L.at_];unfold wtN mkN;simp only[if_pos,List.length_singleton,List.length_nil];omega
  have h3:=G.wt;unfold wt pot at h3 ⊢
  show(l'.map (wtN w.fC)).sum+_+_≤_;simp only at h3 ⊢;omega
end
section
variable {K:Nat} (hK:281474976710656≤K)
include hK
theorem A2j{E:Int}{n:Nat}(hE:0≤E∧E≤900000000)(hn:n≤900000000){w:Ds}(G:D1 w E n){p:Int}(a b:Es)(hp:a.Wq=0->p= -1∨AlW w.fL p∧(Aes w.fL w.fL.length p).length<4):
  ∃r w',Aoe K p w.fC.A6 w.fC.Kh w.fC.Fj w.fC.Hb w.fC.Fk w.fC.Ki w.fP.Sk w.fP.Yq w.fP.Sl w.fL w.fQ w.Afv a b=some (r,w')∧D1 w' E (n+18)∧w'.fC=w.fC:=by
 unfold Aoe
 by_cases h0:a.Wq=0
 ·have hp:=hp h0;rw[h0];simp only[bne_self_eq_false,cond_false];obtain⟨d,w1,e1,S⟩:=Bcz hK (by omega:0≤E∧E≤1000000000) (by omega) 1 (run:=1) (by omega) G
  rw[show Ds.mk (D4.mk w.fC.A6 w.fC.Kh w.fC.Fj w.fC.Hb w.fC.Fk w.fC.Ki) (Dh.mk w.fP.Sk w.fP.Yq w.fP.Sl) w.fL w.fQ w.Afv=w from rfl,e1]
  simp only[Z0]
  have G1:=S.good
  have T1:=S.stay
  have P1:=Ak7.1 G1.inv.pool
  have hst:=P1.st
  have hlen:=G1.inv.len;obtain⟨b1,b2,b3,b4,b5,b6⟩:=Ap G1.inv.conf;obtain⟨at_,e2,h2⟩:=A9s hK (l:=w1.fL) (by omega)
  obtain⟨ch,e3,h3⟩:=A4a hK (p:=w1.fP) (by omega)
  rw[e2,e3];simp only[Z0]
  have G1':=D1.le G1 (Int.le_refl E) (by omega:n≤n+18)
  by_cases q1:at_<0
  ·rw[decide_eq_true q1];exact⟨_,_,rfl,G1',T1.conf⟩
  ·rw[decide_eq_false q1];simp only[cond_false]
   by_cases q2:ch<0
   ·rw[decide_eq_true q2];exact⟨_,_,rfl,G1',T1.conf⟩
   ·rw[decide_eq_false q2];simp only[cond_false];obtain⟨hat,hfree⟩:=h2.resolve_left (by omega)
    have hch:=h3.resolve_left (by omega)
    obtain⟨f1,f2,f3,f4⟩:=Awp.1 hch
    have hp1:p= -1∨AlW w1.fL p∧(Aes w1.fL w1.fL.length p).length<4:=hp.imp_right fun h=>by
     obtain⟨x1,_,x3⟩:=T1.node p h.1;rw[x3,T1.len];exact⟨x1,h.2⟩
    obtain⟨p',l',et,k1,k2,G2,hl2⟩:=Bgb hK hE hn G1 hp1 ⟨hat,hfree⟩ hch
    have hg:=Azx (G1.inv.node at_ hat)
    have L0:Avf w1.fC (A8.mk 1 (gt w1.fL at_).C6 0 0 0 0 0 0 [] 0 0 [] []):=⟨G1.inv.conf,rfl,hg.2.2,⟨Int.le_refl 0,by show(0:Int)≤_;omega⟩,⟨Int.le_refl 0,by show(0:Int)≤_;omega⟩,⟨Int.le_refl 0,by show(0:Int)≤_;omega⟩,⟨Int.le_refl 0,by show(0:Int)≤_;omega⟩,Int.le_refl 0,Int.le_refl 0,rfl,rfl,Z21 _,Z21 _,rfl,rfl⟩
    have W0:Asv (A8.mk 1 (gt w1.fL at_).C6 0 0 0 0 0 0 [] 0 0 [] []):=A4t (E:=0) (Amj.2 L0).1 ⟨Int.le_refl 0,Int.le_refl 0,Int.le_refl 0,by show(0:Int)≤1000;omega⟩ (by omega)
    unfold Aqq;simp only[Z0,if_pos hat];rw[et,Z0,A78 hK L0 W0 ⟨f1,by omega⟩ (by intro h;cases h),Z0]
    simp only
    have hnew:A3j (A8.mk 1 (gt w1.fL at_).C6 0 0 0 0 0 0 [] 0 0 [] []) ch=A7l (gt w1.fL at_).C6 ch:=rfl;rw[hnew]
    by_cases q3:p= -1
    ·rw[decide_eq_false (by omega: ¬p≥0)]
     simp only[cond_false];rw[←k1 q3];obtain⟨hd,eh⟩:=A2i (K:=K) (l:=l') (by omega) at_
     obtain⟨t,w2,es,S2⟩:=A5z hK (E:=E) (n:=n+18) (by omega) (by omega) w1.fC.Hb G2
     rw[eh,Z0,es];exact⟨_,_,rfl,S2.good,S2.stay.conf.trans T1.conf⟩
    ·have hp2:0≤p:=by
      obtain⟨t,A,F⟩:=G1.inv.forest;exact((hp1.resolve_left q3).1.al A).lv.1.1
     rw[decide_eq_true (show p≥0 from hp2)]
     simp only[cond_true];rw[k2 q3,Z0];obtain⟨hd,eh⟩:=A2i (K:=K) (l:=l') (by omega) at_
     obtain⟨t,w2,es,S2⟩:=A5z hK (E:=E) (n:=n+18) (by omega) (by omega) w1.fC.Hb G2
     rw[eh,Z0,es];exact⟨_,_,rfl,S2.good,S2.stay.conf.trans T1.conf⟩
 ·rw[Aqd h0];exact⟨_,_,rfl,D1.le G (Int.le_refl E) (by omega),rfl⟩
theorem Bbg{E:Int}{n:Nat}(hE:0≤E∧E≤900000000)(hn:n≤900000000){w:Ds}(G:D1 w E n){p:Int}(v:Bool)(a b:Es)(hp:v=false->p= -1∨AlW w.fL p∧(Aes w.fL w.fL.length p).length<4):
  ∃r w',Ase K p v w.fC.A6 w.fC.Kh w.fC.Fj w.fC.Hb w.fC.Fk w.fC.Ki w.fP.Sk w.fP.Yq w.fP.Sl w.fL w.fQ w.Afv a b=some (r,w')∧D1 w' E (n+18)∧w'.fC=w.fC:=by
 have W:=G.ww (by omega) (by omega)
 have hlen:=G.inv.len;obtain⟨b1,b2,b3,b4,b5,b6⟩:=Ap G.inv.conf;unfold Ase;cases v with
 |true=>exact A2j hK hE hn G (p:=p) (Es.mk 3 a.fH a.fR a.fB a.Wr a.Hb a.N7) b (fun h=>absurd (show(3:Int)=0 from h) (by decide))
 |false=>
  simp only[cond_false];rw[show Ds.mk (D4.mk w.fC.A6 w.fC.Kh w.fC.Fj w.fC.Hb w.fC.Fk w.fC.Ki) (Dh.mk w.fP.Sk w.fP.Yq w.fP.Sl) w.fL w.fQ w.Afv=w from rfl]
  obtain⟨r,er⟩:=Bbf hK W (by omega)
  rw[er,Z0];cases r==0 with
  |true=>exact A2j hK hE hn G (p:=p) (Es.mk 4 a.fH a.fR a.fB a.Wr a.Hb a.N7) b (fun h=>absurd (show(4:Int)=0 from h) (by decide))
  |false=>
   simp only[cond_false];obtain⟨f,ef⟩:=A2h hK W (by omega) 1
   rw[ef,Z0];cases f with
   |false=>exact A2j hK hE hn G (p:=p) (Es.mk 5 a.fH a.fR a.fB a.Wr a.Hb a.N7) b (fun h=>absurd (show(5:Int)=0 from h) (by decide))
   |true=>exact A2j hK hE hn G (p:=p) a b (fun _=>hp rfl)
theorem Bc0{E:Int}{n:Nat}(hE:0≤E∧E≤900000000)(hn:n≤900000000){w:Ds}(G:D1 w E n)(h:Bo): ∃r w',Awz K w h=some (r,w')∧D1 w' E (n+18)∧w'.fC=w.fC:=by
 have W:=G.ww (by omega) (by omega)
 have hlen:=G.inv.len;obtain⟨b1,b2,b3,b4,b5,b6⟩:=Ap G.inv.conf
 have hup: ∃p c,Ayv K w h=some (p,c)∧(c=0->p= -1∨AlW w.fL p):=by
  unfold Ayv;cases ((h.Be==0)&&((h.C6==0)&&true))with
  |true=>exact⟨-1,0,rfl,fun _=> .inl rfl⟩
  |false=>
   simp only[cond_false];rw[Atp hK W.l,Z0];exact⟨_,_,rfl,fun h0=> .inr (A2w G.inv h0)⟩
 obtain⟨p,c,ep,hp⟩:=hup;unfold Awz;rw[ep,Z0,Axz hK w W.l,Z0];simp only
 by_cases q:c=0
 ·rw[q];simp only[bne_self_eq_false,cond_false];rcases hp q with e|e
  ·rw[e,decide_eq_false (by omega)]
   exact Bbg hK hE hn G false _ _ (fun _=> .inl rfl)
  ·have hpi:0≤p∧p<(w.fL.length:Int):=by
    obtain⟨t,A,F⟩:=G.inv.forest;exact(e.al A).lv.1
   rw[decide_eq_true (show p≥0 from hpi.1)]
   simp only[cond_true];unfold Au3;rw[A1c hK W.l p ⟨by omega,by omega⟩]
   simp only[Z0];refine Bbg hK hE hn G _ _ _ (fun hv=> .inr ⟨e,?_⟩)
   have:=of_decide_eq_false hv;omega
 ·rw[Aqd q];exact A2j hK hE hn G (p:=p) (Es.mk c (Bo.mk 0 0) (Dy.mk (Bo.mk 0 0) 0 0) [] (A7u w h) 0 0) (Es.mk 0 (Bo.mk 0 0) (Dy.mk (Bo.mk 0 0) 0 0) [] 0 0 0) (fun h=>absurd h q)
end
theorem A6v{c:D4}{ch:List Int}{t:A7}(h:Aq2 c ch t=true){j:Int}(h0:t.fAt≤j)(h1:j<t.fAt+t.Ai8):j / c.Kh∈ch:=by
 unfold Aq2 at h;rw[Z4,Z1]at h;obtain⟨ht,hc⟩:=h;obtain⟨hs,hin⟩:=A0s ht;obtain⟨b1,b2,_⟩:=Ap hin.1
 have e1:t.fAt / c.Kh≤j / c.Kh:=Int.ediv_le_ediv (by omega) h0
 have e2:j / c.Kh≤(t.fAt+t.Ai8 - 1) / c.Kh:=Int.ediv_le_ediv (by omega) (by omega)
 have:=hc (j / c.Kh - t.fAt / c.Kh).toNat (by rw[List.mem_range];omega)
 rw[show t.fAt / c.Kh+(((j / c.Kh - t.fAt / c.Kh).toNat:Nat):Int)=j / c.Kh by omega]at this
 exact List.contains_iff_mem.1 this
theorem A4w{a s j:Int}(hs:0<s)(h0:a*s≤j)(h1:j<a*s+s):j / s=a:=by
 have h2:a≤j / s:=(Int.le_ediv_iff_mul_le hs).2 h0
 have h3:j / s<a+1:=Int.ediv_lt_of_lt_mul hs (by rw[Int.add_mul,Int.one_mul];exact h1)
 omega
theorem A0z{a b:A7}(h: ∀j,a.fAt≤j->j<a.fAt+a.Ai8->b.fAt≤j->j<b.fAt+b.Ai8->False):Amp a b=true:=by
 unfold Amp;rw[decide_eq_true_iff]
 by_cases h1:a.Ai8≤0
 ·exact .inl h1
 by_cases h2:b.Ai8≤0
 ·exact .inr (.inl h2)
 by_cases h3:a.fAt+a.Ai8≤b.fAt
 ·exact .inr (.inr (.inl h3))
 by_cases h4:b.fAt+b.Ai8≤a.fAt
 ·exact .inr (.inr (.inr h4))
 exfalso
 by_cases h5:a.fAt≤b.fAt
 ·exact h b.fAt h5 (by omega) (by omega) (by omega)
 ·exact h a.fAt (by omega) (by omega) (by omega) (by omega)
theorem Bbh{a b:A7}(h:Amp a b=true){j:Int}(h1:a.fAt≤j)(h2:j<a.fAt+a.Ai8)(h3:b.fAt≤j)(h4:j<b.fAt+b.Ai8):False:=by
 unfold Amp at h;rw[decide_eq_true_iff]at h;omega
theorem A9t{l:List A7}:Aok l=true ↔ l.Pairwise (fun a b=>Amp a b=true):=by
 unfold Aok;rw[Z1,List.pairwise_iff_getElem];constructor
 ·intro h i j hi hj hij
  have:=h j (by rw[List.mem_range];exact hj)
  rw[Z1]at this
  have h2:=this l[i] (by
   rw[List.mem_iff_getElem];exact⟨i,by simp;omega,by simp⟩)
  rwa[Acm hj]at h2
 ·intro h j hj;rw[List.mem_range]at hj;rw[Z1];intro o ho;obtain⟨i,hi,e⟩:=List.mem_iff_getElem.1 ho;simp only[List.length_take]at hi;simp only[List.getElem_take]at e;rw[Acm hj,←e];exact h i j (by omega) hj (by omega)
theorem A4b{l:List A7}{t:A7}(h:Aok l=true)(ht: ∀o∈l,Amp o t=true):Aok (l++[t])=true:=by
 rw[A9t]at h ⊢;rw[List.pairwise_append];exact⟨h,by simp,fun a ha b hb=>by rw[Mk.1 hb];exact ht a ha⟩
theorem A4c{c:D4}{n:A8}(L:Avf c n)(hc:0≤n.Afu∧n.Afu≤1000)(h0:n.Afu≠0):n.Afu - 1∈n.A6∧0≤n.Wn∧n.Wn≤c.Kh:=by
 have:=L.cur;unfold A3r at this;rw[Ail h0,cond_false,Z4,Age,sb1 (by omega) (by omega)]at this
 exact⟨List.contains_iff_mem.1 this.1,this.2⟩
theorem Bed{c:D4}{ch ch':List Int}(h: ∀x∈ch,x∈ch'){t:A7}(ht:Aq2 c ch t=true):Aq2 c ch' t=true:=by
 unfold Aq2 at ht ⊢;rw[Z4,Z1]at ht ⊢;exact⟨ht.1,fun j hj=>List.contains_iff_mem.2 (h _ (List.contains_iff_mem.1 (ht.2 j hj)))⟩
def A6w (c:D4)(n:A8)(off size:Int):A8:=A8.mk n.Yq n.C6 n.Sy n.fUp n.Wk n.Er n.Wl n.Wm n.A6 n.Afu (off+size) (n.H7++[A7.mk ((n.Afu - 1)*c.Kh+off) size 0]) n.F3
structure Bk5 (c:D4)(n:A8)(off size:Int):Prop where
 cur:n.Afu≠0
 ho:n.Wn≤off
 hz:1≤size
 fit:off+size≤c.Kh
 cnt:n.H7.length<12
structure ThP (c:D4)(mem:List Int)(n:A8):Prop where
 inch:n.H7.all (Aq2 c n.A6)=true
 apart:Aok n.H7=true
 loose:Aq3 c mem n=true
theorem Bk6{c:D4}{mem:List Int}{n:A8}{off size:Int}(L:Avf c n)(hc:0≤n.Afu∧n.Afu≤1000)(T:ThP c mem n)(S:Bk5 c n off size):Avf c (A6w c n off size)∧ThP c mem (A6w c n off size):=by
 obtain⟨b1,b2,_⟩:=Ap L.conf;obtain⟨m1,m2,m3⟩:=A4c L hc S.cur
 have hm:=Av8 L.dist _ m1
 have ho:=S.ho;have hz:=S.hz;have hf:=S.fit;have hn:=S.cnt
 have hlo:=T.loose;unfold Aq3 at hlo;rw[Ail S.cur,Z52,Z4,Z1]at hlo;obtain⟨z1,z2⟩:=hlo
 have q0:0≤(n.Afu - 1)*c.Kh:=Int.mul_nonneg (by omega) (by omega)
 have q1:(n.Afu - 1)*c.Kh+c.Kh≤c.A6*c.Kh:=by
  have:(n.Afu - 1+1)*c.Kh≤c.A6*c.Kh:=Int.mul_le_mul_of_nonneg_right (by omega) (by omega)
  rw[Int.add_mul,Int.one_mul]at this;exact this
 have hby:Amv c=c.A6*c.Kh:=by unfold Amv;rw[L.conf];rfl
 have d1:((n.Afu - 1)*c.Kh+off) / c.Kh=n.Afu - 1:=A4w (by omega) (by omega) (by omega)
 have d2:((n.Afu - 1)*c.Kh+off+size - 1) / c.Kh=n.Afu - 1:=A4w (by omega) (by omega) (by omega)
 have htb:Apa c (A7.mk ((n.Afu - 1)*c.Kh+off) size 0)=true:=by
  unfold Apa;rw[decide_eq_true (show Av7 c (A7.mk ((n.Afu - 1)*c.Kh+off) size 0) from⟨L.conf,hz,by show 0≤_+off;omega,by rw[hby];show(n.Afu - 1)*c.Kh+off+size≤_;omega⟩)]
  show(decide (size≤c.Kh)&&(((n.Afu - 1)*c.Kh+off) / c.Kh==((n.Afu - 1)*c.Kh+off+size - 1) / c.Kh))=true;rw[d1,d2,decide_eq_true (by omega)];simp
 have htc:Aq2 c n.A6 (A7.mk ((n.Afu - 1)*c.Kh+off) size 0)=true:=by
  unfold Aq2;rw[htb,Z30];simp only;rw[d1,d2,Int.sub_self,Z1];intro j hj;rw[List.mem_range]at hj;rw[show(j:Int)=0 by omega,Int.add_zero]
  exact List.contains_iff_mem.2 m1
 have hr: ∀o∈n.H7,∀j,o.fAt≤j->j<o.fAt+o.Ai8->(n.Afu - 1)*c.Kh+n.Wn≤j->j<(n.Afu - 1)*c.Kh+c.Kh->False:=fun o h j h1 h2 h3 h4=>Bbh (z2 o h) h1 h2 (b:=Atz c n) h3 (by show j<(n.Afu - 1)*c.Kh+n.Wn+(c.Kh - n.Wn);omega)
 refine⟨⟨L.conf,L.st,L.gen,L.up,L.first,L.next,L.prev,L.ep,L.ue,L.dist,?_,?_,L.ntag,L.tags,?_⟩,⟨?_,?_,?_⟩⟩
 ·unfold A3r A6w;simp only;rw[Ail S.cur,cond_false,sb1 (by omega) (by omega),List.contains_iff_mem.2 m1,Age.2 ⟨by omega,by omega⟩];rfl
 ·show(n.H7++[_]).length≤12;simp;omega
 ·show(n.H7++[_]).all (Apa c)=true;rw[List.all_append,L.things,Fp,htb];rfl
 ·show(n.H7++[_]).all (Aq2 c n.A6)=true;rw[List.all_append,T.inch,Fp,htc];rfl
 ·refine A4b T.apart fun o h=>A0z fun j h1 h2 h3 h4=>hr o h j h1 h2 ?_ ?_
  ·have h3:(n.Afu - 1)*c.Kh+off≤j:=h3;omega
  ·have h4:j<(n.Afu - 1)*c.Kh+off+size:=h4;omega
 ·unfold Aq3;rw[Bool.or_eq_true,Z4];refine .inr ⟨?_,?_⟩
  ·rw[A2e]at z1 ⊢;intro j h1 h2 h3
   have h1:((n.Afu - 1)*c.Kh+(off+size)).toNat≤j:=h1
   have h2:j<((n.Afu - 1)*c.Kh+(off+size)).toNat+(c.Kh - (off+size)).toNat:=h2;refine z1 j ?_ ?_ h3
   ·show((n.Afu - 1)*c.Kh+n.Wn).toNat≤j;omega
   ·show j<((n.Afu - 1)*c.Kh+n.Wn).toNat+(c.Kh - n.Wn).toNat;omega
  ·show(n.H7++[_]).all _=true;rw[List.all_append,Fp,Z4,Z4,Z1];refine⟨fun o h=>A0z fun j h1 h2 h3 h4=>hr o h j h1 h2 ?_ ?_,A0z fun j h1 h2 h3 h4=> ?_,rfl⟩
   ·have h3:(n.Afu - 1)*c.Kh+(off+size)≤j:=h3;omega
   ·have h4:j<(n.Afu - 1)*c.Kh+(off+size)+(c.Kh - (off+size)):=h4;omega
   ·have h2:j<(n.Afu - 1)*c.Kh+off+size:=h2
    have h3:(n.Afu - 1)*c.Kh+(off+size)≤j:=h3;omega
def A4d (a n:Int):List Int:=(List.range n.toNat).map (fun(i:Nat)=>a+(i:Int))
theorem A4e{a n x:Int}:x∈A4d a n ↔ a≤x∧x<a+n:=by
 unfold A4d;rw[D2];constructor
 ·rintro⟨i,hi,e⟩;rw[List.mem_range]at hi;omega
 ·intro h;exact⟨(x - a).toNat,by rw[List.mem_range];omega,by omega⟩
theorem Bc1 (a n:Int):(A4d a n).Nodup:=by
 unfold A4d;refine List.Pairwise.map _ (fun x y h=> ?_) List.nodup_range;omega
def A0n (c:D4)(n:A8)(a run size:Int):A8:=A8.mk n.Yq n.C6 n.Sy n.fUp n.Wk n.Er n.Wl n.Wm (n.A6++A4d a run) n.Afu n.Wn (n.H7++[A7.mk (a*c.Kh) size run]) n.F3
structure Bc2 (c:D4)(n:A8)(a run size:Int):Prop where
 hz:c.Kh<size∧size≤200
 hr:run=Atj size c.Kh
 at_:0≤a∧a+run≤c.A6
 new: ∀x∈n.A6,¬(a≤x∧x<a+run)
 cnt:n.H7.length<12
theorem Bbi{c:D4}{mem:List Int}{n:A8}{a run size:Int}(L:Avf c n)(hc:0≤n.Afu∧n.Afu≤1000)(T:ThP c mem n)(S:Bc2 c n a run size):Avf c (A0n c n a run size)∧ThP c mem (A0n c n a run size):=by
 obtain⟨b1,b2,_⟩:=Ap L.conf
 have hz:=S.hz;have ha:=S.at_;have hn:=S.cnt
 have hrun:run=(size+c.Kh - 1) / c.Kh:=by
  rw[S.hr];unfold Atj;rw[Age.2 ⟨by omega,by omega⟩,Age.2 ⟨by omega,by omega⟩];rfl
 have hru:size≤run*c.Kh:=by
  have:=Int.lt_ediv_add_one_mul_self (size+c.Kh - 1) (show 0<c.Kh by omega)
  rw[←hrun,Int.add_mul,Int.one_mul]at this;omega
 have hr1:1≤run:=by
  rw[hrun];exact(Int.le_ediv_iff_mul_le (by omega)).2 (by omega)
 have q0:0≤a*c.Kh:=Int.mul_nonneg (by omega) (by omega)
 have q1:a*c.Kh+run*c.Kh≤c.A6*c.Kh:=by
  rw[←Int.add_mul];exact Int.mul_le_mul_of_nonneg_right (by omega) (by omega)
 have hby:Amv c=c.A6*c.Kh:=by unfold Amv;rw[L.conf];rfl
 have htb:Apa c (A7.mk (a*c.Kh) size run)=true:=by
  unfold Apa;rw[decide_eq_true (show Av7 c (A7.mk (a*c.Kh) size run) from⟨L.conf,by show 1≤size;omega,q0,by rw[hby];show a*c.Kh+size≤_;omega⟩)]
  show(bif run==0 then _ else decide (size>c.Kh)&&(run==Atj size c.Kh&&(a*c.Kh) % c.Kh==0))=true
  rw[Ail (by omega),cond_false,decide_eq_true (by omega),←S.hr,Int.mul_emod_left];simp
 have hdv: ∀j,a*c.Kh≤j->j<a*c.Kh+size->a≤j / c.Kh∧j / c.Kh<a+run:=fun j h1 h2=>by
  refine⟨(Int.le_ediv_iff_mul_le (by omega)).2 h1,Int.ediv_lt_of_lt_mul (by omega) ?_⟩
  rw[Int.add_mul];omega
 have htc:Aq2 c (n.A6++A4d a run) (A7.mk (a*c.Kh) size run)=true:=by
  unfold Aq2;rw[htb,Z30,Z1];intro j hj;rw[List.mem_range]at hj
  have e1:=hdv (a*c.Kh) (Int.le_refl _) (by omega)
  have e2:=hdv (a*c.Kh+size - 1) (by omega) (by omega)
  have hj:j<((a*c.Kh+size - 1) / c.Kh - a*c.Kh / c.Kh+1).toNat:=hj;refine List.contains_iff_mem.2 (F8.2 (.inr (A4e.2 ?_)))
  show a≤a*c.Kh / c.Kh+(j:Int)∧a*c.Kh / c.Kh+(j:Int)<a+run;omega
 have hmono: ∀x∈n.A6,x∈n.A6++A4d a run:=fun x h=>F8.2 (.inl h)
 have hold: ∀o∈n.H7,∀j,o.fAt≤j->j<o.fAt+o.Ai8->a*c.Kh≤j->j<a*c.Kh+size->False:=fun o h j h1 h2 h3 h4=>S.new _ (A6v (Z1.1 T.inch o h) h1 h2) (hdv j h3 h4)
 have hd:=A0x.1 L.dist;refine⟨⟨L.conf,L.st,L.gen,L.up,L.first,L.next,L.prev,L.ep,L.ue,?_,?_,?_,L.ntag,L.tags,?_⟩,⟨?_,?_,?_⟩⟩
 ·refine A0x.2 ⟨Adx.2 ⟨hd.1,Bc1 _ _,fun x h1 h2=>S.new x h1 (A4e.1 h2)⟩,fun x hx=> ?_⟩;rcases F8.1 hx with h|h
  ·exact hd.2 x h
  ·have:=A4e.1 h;omega
 ·have:=L.cur;unfold A3r at this ⊢
  show(bif n.Afu==0 then n.Wn==0 else(n.A6++A4d a run).contains (Ana .i64 n.Afu 1)&&inB n.Wn 0 c.Kh)=true
  cases e:n.Afu==0 with
  |true=>rw[e]at this;exact this
  |false=>
   rw[e,cond_false,Z4]at this;rw[cond_false,this.2,Bool.and_true];exact List.contains_iff_mem.2 (hmono _ (List.contains_iff_mem.1 this.1))
 ·show(n.H7++[_]).length≤12;simp;omega
 ·show(n.H7++[_]).all (Apa c)=true;rw[List.all_append,L.things,Fp,htb];rfl
 ·show(n.H7++[_]).all (Aq2 c (n.A6++A4d a run))=true;rw[List.all_append,Fp,htc,Z4,Z1];exact⟨fun o h=>Bed hmono (Z1.1 T.inch o h),rfl⟩
 ·exact A4b T.apart fun o h=>A0z fun j h1 h2 h3 h4=>hold o h j h1 h2 h3 h4
 ·have hlo:=T.loose;unfold Aq3 at hlo ⊢;rw[Bool.or_eq_true,Z4]at hlo ⊢;rcases hlo with h|⟨h,h'⟩
  ·exact .inl h
  ·by_cases e:n.Afu=0
   ·exact .inl (by show(n.Afu==0)=true;rw[e];rfl)
   ·refine .inr ⟨h,?_⟩
    show(n.H7++[_]).all (fun t=>Amp t (Atz c n))=true;rw[List.all_append,h',Fp,Z30,Z4];refine⟨A0z fun j h1 h2 h3 h4=> ?_,rfl⟩;obtain⟨m1,m2,m3⟩:=A4c L hc e
    have h3:(n.Afu - 1)*c.Kh+n.Wn≤j:=h3
    have h4:j<(n.Afu - 1)*c.Kh+n.Wn+(c.Kh - n.Wn):=h4
    have:=A4w (a:=n.Afu - 1) (s:=c.Kh) (j:=j) (by omega) (by omega) (by omega)
    exact S.new _ m1 (by rw[←this];exact hdv j h1 h2)
def A3k (al:Int):Bool:=al==1||(al==2||al==4)
theorem A1l (K:Nat)(al:Int):Aqv K al=some (A3k al):=by
 unfold Aqv A3k;cases al==1<;>cases al==2<;>rfl
theorem Bbj{al:Int}(h:A3k al=true):al=1∨al=2∨al=4:=by
 unfold A3k at h
 rwa[Bool.or_eq_true,Bool.or_eq_true,beq_iff_eq,beq_iff_eq,beq_iff_eq]at h
theorem Bc3 (K:Nat){b al:Int}(hb:0≤b∧b≤1000)(ha:A3k al=true): ∃off,Aw0 K b al=some off∧b≤off∧off≤2000:=by
 unfold Aw0;rw[Aon,Age.2 ⟨by omega,by omega⟩,A1l,ha]
 simp only[Z0,cond_true,Bool.not_true,cond_false]
 have e:Ana .i64 (Am9 .i64 b al) 1=b+al - 1:=by
  have:=Bbj ha;unfold Ana Am9;rw[Aa3 (n:=b+al) (by omega) (by omega),Aa3 (by omega) (by omega)]
 rw[e]
 have key: ∀a:Int,1≤a->a≤4->Anb .i64 (Akr .i64 (b+a - 1) a) a=(b+a - 1) / a*a:=by
  intro a h1 h2
  have h3:(b+a - 1) / a≤b+a - 1:=Int.ediv_le_self _ (by omega)
  have h4:0≤(b+a - 1) / a:=Int.ediv_nonneg (by omega) (by omega)
  have h5:=Auy (a:=(b+a - 1) / a) (b:=a) (m:=2000) (n:=4) h4 (by omega) (by omega) h2
  unfold Akr Anb;rw[Int.tdiv_eq_ediv_of_nonneg (by omega),Aa3 (n:=(b+a - 1) / a) (by omega) (by omega),Aa3 (by omega) (by omega)]
 rcases Bbj ha with h|h|h
 ·subst h;rw[if_pos (by decide),key 1 (by omega) (by omega)]
  exact⟨_,rfl,by omega,by omega⟩
 ·subst h;rw[if_pos (by decide),key 2 (by omega) (by omega)]
  exact⟨_,rfl,by omega,by omega⟩
 ·subst h;rw[if_pos (by decide),key 4 (by omega) (by omega)]
  exact⟨_,rfl,by omega,by omega⟩
section
variable {K:Nat} (hK:281474976710656≤K)
include hK
theorem A79{c:D4}{n:A8}(L:Avf c n)(W:Asv n)(hc:0≤n.Afu∧n.Afu≤1000)(size al:Int)(hs: -1000000≤size∧size≤1000000): ∃at_ b,Au9 K c n size al=some (at_,b)∧(b=true-> ∃off,at_=(n.Afu - 1)*c.Kh+off∧n.Afu≠0∧n.Wn≤off∧1≤size∧off+size≤c.Kh):=by
 obtain⟨b1,b2,_⟩:=Ap L.conf
 have h1:=Auk L.conf L.dist
 have h3:=L.nth
 have h4:=L.ntag;unfold Au9;rw[Awk hK c n (by omega) (by omega) (by omega),(Amj.2 L).1]
 simp only[Z0,cond_true]
 by_cases q:n.Afu=0
 ·rw[q];exact⟨_,_,rfl,fun h=>by cases h⟩
 ·rw[Ail q,Aon];simp only[cond_false,Z0]
  by_cases q2:1≤size∧size≤c.Kh
  ·rw[Age.2 q2,A1l];simp only[cond_true,Z0];cases ha:A3k al with
   |false=>exact⟨_,_,rfl,fun h=>by cases h⟩
   |true=>
    obtain⟨m1,m2,m3⟩:=A4c L hc q
    have hm:=Av8 L.dist _ m1;obtain⟨off,eo,ho1,ho2⟩:=Bc3 K (b:=n.Wn) ⟨m2,by omega⟩ ha
    simp only[Bool.not_true,cond_false];rw[eo,Z0]
    have e1:Am9 .i64 off size=off+size:=by unfold Am9;exact Aa3 (by omega) (by omega)
    have e2:Ana .i64 n.Afu 1=n.Afu - 1:=sb1 (by omega) (by omega)
    have h5:=Auy (a:=n.Afu - 1) (b:=c.Kh) (m:=12) (n:=16) (by omega) (by omega) (by omega) b2.2
    have e3:Anb .i64 (n.Afu - 1) c.Kh=(n.Afu - 1)*c.Kh:=by unfold Anb;exact Aa3 (by omega) (by omega)
    have e4:Am9 .i64 ((n.Afu - 1)*c.Kh) off=(n.Afu - 1)*c.Kh+off:=by unfold Am9;exact Aa3 (by omega) (by omega)
    rw[e1,e2,e3,e4]
    by_cases q3:off+size>c.Kh
    ·rw[decide_eq_true q3];exact⟨_,_,rfl,fun h=>by cases h⟩
    ·rw[decide_eq_false q3];exact⟨_,_,rfl,fun _=>⟨off,rfl,q,ho1,q2.1,by omega⟩⟩
  ·rw[A5p.2 q2];exact⟨_,_,rfl,fun h=>by cases h⟩
theorem Bbk{c:D4}{n:A8}(L:Avf c n)(W:Asv n)(hc:0≤n.Afu∧n.Afu≤1000)(size al:Int)(hs: -1000000≤size∧size≤1000000): ∃n' b,Avp K c n size al=some (n',b)∧(n'=n∨ ∃off,Bk5 c n off size∧n'=A6w c n off size):=by
 have hm:=Adv;obtain⟨b1,b2,_⟩:=Ap L.conf
 have h3:=L.nth;obtain⟨at_,b,e,hb⟩:=A79 hK L W hc size al hs;unfold Avp;rw[Awn K W,Z0,e,Z0];cases b with
 |false=>exact⟨_,_,rfl,.inl rfl⟩
 |true=>
  obtain⟨off,e1,h1,h2,h4,h5⟩:=hb rfl;obtain⟨m1,m2,m3⟩:=A4c L hc h1
  have hmi:=Av8 L.dist _ m1;simp only[cond_true]
  by_cases q:(n.H7.length:Int)≥12
  ·rw[decide_eq_true q];exact⟨_,_,rfl,.inl rfl⟩
  ·rw[decide_eq_false q];simp only[cond_false];rw[if_pos ⟨by simp;omega,by simp;omega⟩]
   refine⟨_,_,rfl,.inr ⟨off,⟨h1,h2,h4,h5,by omega⟩,?_⟩⟩
   have e2:Ana .i64 n.Afu 1=n.Afu - 1:=sb1 (by omega) (by omega)
   have h6:=Auy (a:=n.Afu - 1) (b:=c.Kh) (m:=12) (n:=16) (by omega) (by omega) (by omega) b2.2
   have e3:Anb .i64 (n.Afu - 1) c.Kh=(n.Afu - 1)*c.Kh:=by unfold Anb;exact Aa3 (by omega) (by omega)
   have e4:Ana .i64 at_ ((n.Afu - 1)*c.Kh)=off:=by unfold Ana;rw[e1,Aa3 (by omega) (by omega)];omega
   have e5:Am9 .i64 off size=off+size:=by unfold Am9;exact Aa3 (by omega) (by omega)
   rw[e2,e3,e4,e5,e1];rfl
theorem Bk7{c:D4}{n:A8}(L:Avf c n)(W:Asv n)(hc:0≤n.Afu∧n.Afu≤1000)(size al:Int)(hs: -1000000≤size∧size≤1000000): ∃b,Atr K c n size al=some b:=by
 have h1:=Auk L.conf L.dist
 have h3:=L.nth
 have h4:=L.ntag;obtain⟨at_,b,e,hb⟩:=A79 hK L W hc size al hs;unfold Atr;rw[e,Awk hK c n (by omega) (by omega) (by omega),(Amj.2 L).1,Aon,A1l,L.st]
 simp only[Z0];cases b<;>cases inB size 1 c.Kh<;>exact⟨_,rfl⟩
theorem Bbl{c:D4}{mem:List Int}{n:A8}(L:Avf c n)(W:Asv n)(hc:0≤n.Afu∧n.Afu≤1000)(T:ThP c mem n){a run size:Int}(S:Bc2 c n a run size):Avn K c n a size=some (A0n c n a run size,true):=by
 have hm:=Adv;obtain⟨b1,b2,_⟩:=Ap L.conf
 have h1:=Auk L.conf L.dist
 have h3:=L.nth
 have h4:=L.ntag
 have hz:=S.hz;have ha:=S.at_;obtain⟨L2,T2⟩:=Bbi L hc T S
 have hrun:run=(size+c.Kh - 1) / c.Kh:=by
  rw[S.hr];unfold Atj;rw[Age.2 ⟨by omega,by omega⟩,Age.2 ⟨by omega,by omega⟩];rfl
 have hru:size≤run*c.Kh:=by
  have:=Int.lt_ediv_add_one_mul_self (size+c.Kh - 1) (show 0<c.Kh by omega)
  rw[←hrun,Int.add_mul,Int.one_mul]at this;omega
 have hr1:1≤run:=by
  rw[hrun];exact(Int.le_ediv_iff_mul_le (by omega)).2 (by omega)
 have q1:run*c.Kh≤c.A6*c.Kh:=Int.mul_le_mul_of_nonneg_right (by omega) (by omega)
 have hby:Amv c=c.A6*c.Kh:=by unfold Amv;rw[L.conf];rfl
 have e3:Anb .i64 a c.Kh=a*c.Kh:=by
  have h5:=Auy (a:=a) (b:=c.Kh) (m:=12) (n:=16) (by omega) (by omega) (by omega) b2.2
  unfold Anb;exact Aa3 (by omega) (by omega)
 unfold Avn Apo Aod;rw[Awn K W,Z0,Arr,L.conf];simp only[Z0,cond_true];rw[show(n.Yq != 1)=false by rw[L.st];rfl,cond_false,decide_eq_true (by omega),cond_true,Auz,Z0,decide_eq_false (by omega),cond_false,Aon,Azd hK L.conf,Age.2 ⟨by omega,by omega⟩]
 simp only[Z0,Bool.not_true,cond_false];rw[A09,Z0,←S.hr,Z0]
 have key: ∀(f i:Nat) (v:List Int),(i:Int)≤run->run.toNat - i<f->v=n.A6++(List.range i).map (fun(j:Nat)=>a+(j:Int))->Ari K c a size run f (i:Int) (A8.mk n.Yq n.C6 n.Sy n.fUp n.Wk n.Er n.Wl n.Wm v n.Afu n.Wn n.H7 n.F3) (A8.mk 0 0 0 0 0 0 0 0 [] 0 0 [] []) n.Yq n.C6 n.Sy n.fUp n.Wk n.Er n.Wl n.Wm n.A6 n.Afu n.Wn n.H7 n.F3=some (A0n c n a run size,true):=by
  intro f
  induction f with
  |zero=>intro i v _ h;omega
  |succ f ih=>
   intro i v hi hf hv
   have hvl:v.length=n.A6.length+i:=by rw[hv];simp
   rw[Ari]
   by_cases h:(i:Int)=run
   ·rw[decide_eq_false (by omega),cond_false,e3]
    simp only;rw[if_pos ⟨by simp;omega,by simp;omega⟩]
    have el:A8.mk n.Yq n.C6 n.Sy n.fUp n.Wk n.Er n.Wl n.Wm v n.Afu n.Wn (n.H7++[A7.mk (a*c.Kh) size run]) n.F3=A0n c n a run size:=by
     unfold A0n A4d;rw[hv,←h,Int.toNat_natCast]
    have hl2:=L2.nth
    have hl3:=Auk L2.conf L2.dist;rw[el,Awk hK c (A0n c n a run size) (by omega) (by omega) (show n.F3.length≤_ by omega),(Amj.2 L2).1]
    rfl
   ·have e1:Am9 .i64 a (i:Int)=a+(i:Int):=by unfold Am9;exact Aa3 (by omega) (by omega)
    rw[decide_eq_true (by omega),cond_true,e1,Agd (by omega)]
    simp only;rw[if_pos ⟨by simp;omega,by simp;omega⟩]
    refine ih (i+1) _ (by omega) (by omega) ?_
    rw[hv,List.range_succ,Fo,Kv];rfl
 have:=key K 0 n.A6 (by omega) (by omega) (by simp)
 exact this
end
theorem A2k{w:Ds}{E:Int}{n:Nat}(G:D1 w E n){k:Int}(hk:AlW w.fL k){p':Dh}{n':A8}
  (P':A5f w.fC p') (hone: ∀c,0≤c∧c<w.fC.A6->(gt p'.Yq c=2 ↔ gt w.fP.Yq c=2)∧(gt p'.Yq c=1∧gt p'.Sl c=k ↔ c∈n'.A6)∧ ∀x,x≠k->(gt p'.Yq c=1∧gt p'.Sl c=x ↔ gt w.fP.Yq c=1∧gt w.fP.Sl c=x))
  (hm:p'.Sk=w.fP.Sk) (hlk:A2a n'=A2a (gt w.fL k)) (L:Avf w.fC n') (T:ThP w.fC w.fP.Sk n') (he:EpP E n') {m:Nat} (hwt:wtN w.fC n'≤wtN w.fC (gt w.fL k)+m):
  D1 (Ds.mk w.fC p' (w.fL.set k.toNat n') w.fQ w.Afv) E (n+m)∧AlW (w.fL.set k.toNat n') k∧gt (w.fL.set k.toNat n') k=n':=by
 obtain⟨t,A,F⟩:=G.inv.forest
 have al:=hk.al A
 have hki:=al.lv.1
 have hst:=((As8 A).1 al.lv).2
 have hg: ∀x,0≤x∧x<(w.fL.length:Int)->gt (w.fL.set k.toNat n') x=if x=k then n' else gt w.fL x:=fun x hx=>Ao4 hki hx n'
 have hgk:gt (w.fL.set k.toNat n') k=n':=Axn hki n'
 have A':AtT (w.fL.set k.toNat n') t:=fun x hx=>by
  rw[Z49]at hx;rw[hg x hx,A x hx]
  by_cases e:x=k
  ·rw[if_pos e,e,hlk]
  ·rw[if_neg e]
 have I':Inv (Ds.mk w.fC p' (w.fL.set k.toNat n') w.fQ w.Afv):=by
  refine Beb G.inv hki p' _ t (by simp) (fun x hx hne=>⟨_,_,_,by rw[hg x hx,if_neg hne];exact(A6s _).symm,?_,?_,?_⟩) (by omega) (by rw[hgk];exact L) A' F P' hm (by rw[hgk];exact hone) (by rw[hgk];exact⟨T.inch,T.apart,T.loose⟩)
  ·rw[←G.inv.len];exact(G.inv.rg.rg x hx).2.1
  ·rw[←G.inv.len];exact(G.inv.rg.rg x hx).2.2.1
  ·rw[←G.inv.len];exact(G.inv.rg.rg x hx).2.2.2
 refine⟨⟨I',by show ∀x∈p'.Sk,_;rw[hm];exact G.mem,fun x hx=> ?_,?_⟩,⟨t,A',by rw[Z49];exact al⟩,hgk⟩
 ·have hx:0≤x∧x<((w.fL.set k.toNat n').length:Int):=hx;rw[Z49]at hx
  show EpP E (gt (w.fL.set k.toNat n') x);rw[hg x hx];split
  ·exact he
  ·exact G.ep x hx
 ·have hs:=A2f (f:=wtN w.fC) (l:=w.fL) (l':=w.fL.set k.toNat n') (by simp) hki fun x hx hne=>by rw[hg x hx,if_neg hne]
  rw[hgk]at hs
  have h3:=G.wt;unfold wt pot at h3 ⊢;simp only at h3 ⊢;omega
theorem D1.live{w:Ds}{E:Int}{n:Nat}(G:D1 w E n){k:Int}(hk:AlW w.fL k):(0≤k∧k<(w.fL.length:Int))∧Avf w.fC (gt w.fL k)∧ThP w.fC w.fP.Sk (gt w.fL k)∧EpP E (gt w.fL k):=by
 obtain⟨t,A,F⟩:=G.inv.forest
 have al:=(hk.al A).lv;obtain⟨t1,t2,t3⟩:=G.inv.thing k al.1;exact⟨al.1,G.inv.live A al,⟨t1,t2,t3⟩,G.ep k al.1⟩
theorem A6x{w:Ds}(I:Inv w){k:Int}(hk:0≤k∧k<(w.fL.length:Int)){ch:List Int}(h:ch=(gt w.fL k).A6): ∀c,0≤c∧c<w.fC.A6->(gt w.fP.Yq c=2 ↔ gt w.fP.Yq c=2)∧(gt w.fP.Yq c=1∧gt w.fP.Sl c=k ↔ c∈ch)∧ ∀x,x≠k->(gt w.fP.Yq c=1∧gt w.fP.Sl c=x ↔ gt w.fP.Yq c=1∧gt w.fP.Sl c=x):=fun c hc=>⟨Iff.rfl,by rw[h,I.own k hk c];exact⟨fun a=>⟨hc,a⟩,fun a=>a.2⟩,fun _ _=>Iff.rfl⟩
theorem A8a{w:Ds}(I:Inv w){p':Dh}{a n k:Int}(hk:0≤k∧k<(w.fL.length:Int))(hf:A0f w.fP a n=true)(T:Bga w.fP p' a n k){ch:List Int}(h: ∀c,c∈ch ↔ c∈(gt w.fL k).A6∨a≤c∧c<a+n):
  A5f w.fC p'∧ ∀c,0≤c∧c<w.fC.A6->(gt p'.Yq c=2 ↔ gt w.fP.Yq c=2)∧(gt p'.Yq c=1∧gt p'.Sl c=k ↔ c∈ch)∧ ∀x,x≠k->(gt p'.Yq c=1∧gt p'.Sl c=x ↔ gt w.fP.Yq c=1∧gt w.fP.Sl c=x):=by
 obtain⟨a1,a2⟩:=A75 I hk hf T;exact⟨a1,fun c hc=>⟨(a2 c hc).1,by rw[h c];exact(a2 c hc).2.1,(a2 c hc).2.2⟩⟩
section
variable {K:Nat} (hK:281474976710656≤K)
include hK
theorem A8b{E:Int}{n:Nat}(hE:0≤E∧E≤900000000)(hn:n≤900000000){w:Ds}(G:D1 w E n){k:Int}(hk:AlW w.fL k)(size al:Int)(hs: -1000000≤size∧size≤1000000)(v19:Es)(v20 v21 v22 v23 v24 v25 v26:Int)(v27:List Int)(v28 v29 v30:Int):
  ∃r w',Arj K k size al w.fC.A6 w.fC.Kh w.fC.Fj w.fC.Hb w.fC.Fk w.fC.Ki w.fP.Sk w.fP.Yq w.fP.Sl w.fL w.fQ w.Afv v19 v20 v21 v22 v23 v24 v25 v26 v27 v28 v29 v30=some (r,w')∧D1 w' E n∧w'.fC=w.fC∧w'.fL.length=w.fL.length:=by
 obtain⟨hki,L,T,e⟩:=G.live hk
 have W:=A4t (Amj.2 L).1 e (by omega)
 obtain⟨n',b,e1,h⟩:=Bbk hK L W e.cur size al hs;unfold Arj;rw[if_pos hki,show D4.mk w.fC.A6 w.fC.Kh w.fC.Fj w.fC.Hb w.fC.Fk w.fC.Ki=w.fC from rfl,e1,Z0,if_pos hki]
 have P:=Ak7.1 G.inv.pool;refine⟨_,_,rfl,?_,rfl,by simp⟩
 rcases h with h|⟨off,S,h⟩
 ·rw[h];exact(A2k G hk (n':=gt w.fL k) (m:=0) P (A6x G.inv hki rfl) rfl rfl L T e (by omega)).1
 ·rw[h];obtain⟨L2,T2⟩:=Bk6 L e.cur T S;exact(A2k G hk (n':=A6w w.fC (gt w.fL k) off size) (m:=0) P (A6x G.inv hki rfl) rfl rfl L2 T2 ⟨e.ep,e.ue,e.cur⟩ (Z9 _)).1
theorem Bk8{E:Int}{n:Nat}(hE:0≤E∧E≤900000000)(hn:n≤880000000){w:Ds}(G:D1 w E n){k:Int}(hk:AlW w.fL k)(size al:Int)(hs: -1000000≤size∧size≤1000000)(a4:Es):
  ∃r w',Avq K w k size al a4=some (r,w')∧D1 w' E (n+16)∧w'.fC=w.fC∧w'.fL.length=w.fL.length:=by
 obtain⟨hki,L,T,e⟩:=G.live hk
 have W:=A4t (Amj.2 L).1 e (by omega)
 have WW:=G.ww (by omega) (by omega)
 have hlen:=G.inv.len;obtain⟨b1,b2,b3,b4,b5,b6⟩:=Ap G.inv.conf;obtain⟨nb,e1⟩:=Bk7 hK L W e.cur size al hs;unfold Avq;rw[if_pos hki,e1,Z0];cases nb with
 |false=>
  simp only[cond_false];obtain⟨r,w',h1,h2,h3⟩:=A8b hK hE (by omega) G hk size al hs (Es.mk 0 (Bo.mk 0 0) (Dy.mk (Bo.mk 0 0) 0 0) [] 0 0 0) a4.Wq a4.fH.Be a4.fH.C6 a4.fR.fH.Be a4.fR.fH.C6 a4.fR.Sy a4.fR.fNo a4.fB a4.Wr a4.Hb a4.N7
  exact⟨r,w',h1,D1.le h2 (Int.le_refl E) (by omega),h3⟩
 |true=>
  simp only[cond_true];obtain⟨fb,ef⟩:=A2h hK WW (by omega) 1
  rw[ef,Z0];cases fb with
  |false=>exact⟨_,_,rfl,D1.le G (Int.le_refl E) (by omega),rfl,rfl⟩
  |true=>
   simp only[Bool.not_true,cond_false];obtain⟨d,w1,ed,S⟩:=Bcz hK (by omega:0≤E∧E≤1000000000) (by omega) 0 (run:=1) (by omega) G
   have G1:=S.good;obtain⟨hk1,⟨x1,x2,x3,hnode⟩,_⟩:=S.stay.node k hk;obtain⟨hki1,L1,T1,e1⟩:=G1.live hk1
   have W1:=A4t (Amj.2 L1).1 e1 (by omega)
   have WW1:=G1.ww (by omega) (by omega)
   have P1:=Ak7.1 G1.inv.pool
   have hst:=P1.st
   have how:=P1.own
   have hc1:=S.stay.conf;obtain⟨ch,ec,hch⟩:=A4a hK (p:=w1.fP) (by rw[hc1]at hst;omega)
   rw[ed,Z0];simp only;rw[ec,Z0]
   by_cases q:ch<0
   ·rw[decide_eq_true q];exact⟨_,_,rfl,D1.le G1 (Int.le_refl E) (by omega),hc1,S.stay.len⟩
   ·rw[decide_eq_false q];simp only[cond_false]
    have hf:=hch.resolve_left (by omega)
    obtain⟨f1,f2,f3,f4⟩:=Awp.1 hf;obtain⟨p',ep,T'⟩:=A3i hK WW1.p (by rw[hc1]at hst;omega) (by omega) (k:=k) hf
    have hnew:ch ∉ (gt w1.fL k).A6:=fun h=>by
     have:=((G1.inv.own k hki1 ch).1 h).2.1;rw[f4 ch ⟨by omega,by omega⟩]at this
     cases this
    rw[ep,Z0,if_pos hki1,A78 hK L1 W1 ⟨f1,by omega⟩ hnew,Z0,if_pos hki1]
    simp only;obtain⟨P',hone⟩:=A8a G1.inv hki1 hf T' (ch:=(A3j (gt w1.fL k) ch).A6) fun c=>by
     show c∈(gt w1.fL k).A6++[ch] ↔ _;rw[F8,Mk];exact or_congr_right (by omega)
    have T2:ThP w1.fC w1.fP.Sk (A3j (gt w1.fL k) ch):=by
     refine⟨?_,T1.apart,?_⟩
     ·rw[Z1];exact fun o ho=>Bed (fun x hx=>F8.2 (.inl hx)) (Z1.1 T1.inch o ho)
     ·refine A5i rfl rfl ((P1.one ch ⟨f1,by omega⟩).2.2.2 (f4 ch ⟨by omega,by omega⟩)) ?_
      rw[Z1];intro o ho;refine A0z fun j h1 h2 h3 h4=> ?_
      have h3:(ch+1 - 1)*w1.fC.Kh+0≤j:=h3
      have h4:j<(ch+1 - 1)*w1.fC.Kh+0+(w1.fC.Kh - 0):=h4;rw[Int.add_sub_cancel]at h3 h4
      have:=A4w (a:=ch) (s:=w1.fC.Kh) (j:=j) (by rw[hc1];omega) (by omega) (by omega)
      have h5:=A6v (Z1.1 T1.inch o ho) h1 h2;rw[this]at h5;exact hnew h5
    obtain⟨G2,hk2,hg2⟩:=A2k G1 hk1 (n':=A3j (gt w1.fL k) ch) (m:=16) P' hone T'.mem rfl (A77 L1 ⟨f1,by omega⟩ hnew) T2 ⟨e1.ep,e1.ue,⟨by show 0≤ch+1;omega,by show ch+1≤_;rw[hc1]at hst;omega⟩⟩ (by
     have hz:w1.fC.Kh.toNat≤16:=by rw[hc1];omega
     have hst1:(A3j (gt w1.fL k) ch).Yq=1:=L1.st;unfold wtN;rw[if_pos L1.st,if_pos hst1]
     show 2+(gt w1.fL k).F3.length+w1.fC.Kh.toNat*((gt w1.fL k).A6++[ch]).length≤_;rw[H8,List.length_singleton,Nat.mul_succ];omega)
    obtain⟨r,w',h1,h2,h3,h4⟩:=A8b hK hE (n:=n+16) (by omega) G2 hk2 size al hs (Es.mk 0 (Bo.mk 0 0) (Dy.mk (Bo.mk 0 0) 0 0) [] 0 0 0) a4.Wq a4.fH.Be a4.fH.C6 a4.fR.fH.Be a4.fR.fH.C6 a4.fR.Sy a4.fR.fNo a4.fB a4.Wr a4.Hb d
    refine⟨r,w',h1,h2,h3.trans hc1,h4.trans ?_⟩
    show(w1.fL.set _ _).length=_;rw[Z49];exact S.stay.len
theorem Bk9{E:Int}{n:Nat}(hE:0≤E∧E≤900000000)(hn:n≤900000000){w:Ds}(G:D1 w E n){k:Int}(hk:AlW w.fL k)(size:Int)(hs:w.fC.Kh<size∧size≤200)(hcnt:(gt w.fL k).H7.length<12)(a4:Es):
  ∃r w',Avo K w k size a4=some (r,w')∧D1 w' E (n+192)∧w'.fC=w.fC∧w'.fL.length=w.fL.length:=by
 have WW:=G.ww (by omega) (by omega)
 have hlen:=G.inv.len;obtain⟨b1,b2,b3,b4,b5,b6⟩:=Ap G.inv.conf;unfold Avo Aod;rw[A09,Z0,Z0];obtain⟨fb,ef⟩:=A2h hK WW (by omega) (Atj size w.fC.Kh)
 have hrun:Atj size w.fC.Kh=(size+w.fC.Kh - 1) / w.fC.Kh:=by
  unfold Atj;rw[Age.2 ⟨by omega,by omega⟩,Age.2 ⟨by omega,by omega⟩];rfl
 have hr2:Atj size w.fC.Kh≤1000:=by
  have:(size+w.fC.Kh - 1) / w.fC.Kh≤size+w.fC.Kh - 1:=Int.ediv_le_self _ (by omega)
  omega
 have hr1:1≤Atj size w.fC.Kh:=by
  rw[hrun];exact(Int.le_ediv_iff_mul_le (by omega)).2 (by omega)
 rw[ef,Z0];cases fb with
 |false=>exact⟨_,_,rfl,D1.le G (Int.le_refl E) (by omega),rfl,rfl⟩
 |true=>
  simp only[Bool.not_true,cond_false];obtain⟨d,w1,ed,S⟩:=Bcz hK (by omega:0≤E∧E≤1000000000) (by omega) 0 (run:=Atj size w.fC.Kh) (by omega) G
  have G1:=S.good;obtain⟨hk1,⟨x1,x2,x3,hnode⟩,_⟩:=S.stay.node k hk;obtain⟨hki1,L1,T1,e1⟩:=G1.live hk1
  have W1:=A4t (Amj.2 L1).1 e1 (by omega)
  have WW1:=G1.ww (by omega) (by omega)
  have P1:=Ak7.1 G1.inv.pool
  have hst:=P1.st
  have how:=P1.own
  have hc1:=S.stay.conf;rw[hc1]at hst how;obtain⟨at_,ec,hat⟩:=A5h hK (p:=w1.fP) (n:=Atj size w.fC.Kh) (by omega) (by omega)
  rw[ed,Z0];simp only;rw[ec,Z0]
  by_cases q:at_<0
  ·rw[decide_eq_true q];exact⟨_,_,rfl,D1.le G1 (Int.le_refl E) (by omega),hc1,S.stay.len⟩
  ·rw[decide_eq_false q];simp only[cond_false]
   have hf:=hat.resolve_left (by omega)
   obtain⟨f1,f2,f3,f4⟩:=Awp.1 hf;obtain⟨p',ep,T'⟩:=A3i hK WW1.p (by omega) (by omega) (k:=k) hf
   have SP:Bc2 w1.fC (gt w1.fL k) at_ (Atj size w.fC.Kh) size:=by
    refine⟨by rw[hc1];exact hs,by rw[hc1],by rw[hc1];omega,fun x hx h=> ?_,by rw[hnode];exact hcnt⟩
    have:=((G1.inv.own k hki1 x).1 hx).2.1;rw[f4 x h]at this;cases this
   obtain⟨L2,T2⟩:=Bbi L1 e1.cur T1 SP;rw[ep,Z0,if_pos hki1,Bbl hK L1 W1 e1.cur T1 SP,Z0,if_pos hki1];obtain⟨P',hone⟩:=A8a G1.inv hki1 hf T' (ch:=(A0n w1.fC (gt w1.fL k) at_ (Atj size w.fC.Kh) size).A6) fun c=>by
    show c∈(gt w1.fL k).A6++A4d at_ (Atj size w.fC.Kh) ↔ _;rw[F8,A4e]
   obtain⟨G2,hk2,hg2⟩:=A2k G1 hk1 (n':=A0n w1.fC (gt w1.fL k) at_ (Atj size w.fC.Kh) size) (m:=192) P' hone T'.mem rfl L2 T2 ⟨e1.ep,e1.ue,e1.cur⟩ (by
    have hst1:(A0n w1.fC (gt w1.fL k) at_ (Atj size w.fC.Kh) size).Yq=1:=L1.st;unfold wtN;rw[if_pos L1.st,if_pos hst1]
    show 2+(gt w1.fL k).F3.length+w1.fC.Kh.toNat*((gt w1.fL k).A6++A4d at_ (Atj size w.fC.Kh)).length≤_
    have hrl:(A4d at_ (Atj size w.fC.Kh)).length≤12:=by unfold A4d;simp;omega
    have:=Nat.mul_le_mul (show w1.fC.Kh.toNat≤16 by rw[hc1];omega) hrl
    rw[H8,Nat.mul_add];omega)
   refine⟨_,_,rfl,G2,hc1,?_⟩
   show(w1.fL.set _ _).length=_;rw[Z49];exact S.stay.len
theorem A8c{E:Int}{n:Nat}(hE:0≤E∧E≤900000000)(hn:n≤900000000){w:Ds}(G:D1 w E n){k:Int}(hk:0≤k∧k<(w.fL.length:Int))(h:Bo)(c a b d e f g:Int)(l:List Int)(x y z:Int):
  ∃r w',Ark K h k w.fC.A6 w.fC.Kh w.fC.Fj w.fC.Hb w.fC.Fk w.fC.Ki w.fP.Sk w.fP.Yq w.fP.Sl w.fL w.fQ w.Afv c a b d e f g l x y z=some (r,w')∧D1 w' E n∧w'.fC=w.fC:=by
 unfold Ark;rw[show Ds.mk (D4.mk w.fC.A6 w.fC.Kh w.fC.Fj w.fC.Hb w.fC.Fk w.fC.Ki) (Dh.mk w.fP.Sk w.fP.Yq w.fP.Sl) w.fL w.fQ w.Afv=w from rfl]
 cases c != 0 with
 |true=>exact⟨_,_,rfl,G,rfl⟩
 |false=>
  simp only[cond_false];obtain⟨t,w2,es,S2⟩:=A5z hK (E:=E) (n:=n) (by omega) (by omega) w.fC.Hb G
  rw[if_pos hk,if_pos hk,es];exact⟨_,_,rfl,S2.good,S2.stay.conf⟩
theorem A4x{E:Int}{n:Nat}(hE:0≤E∧E≤900000000)(hn:n≤800000000){w:Ds}(G:D1 w E n)(h:Bo){size al:Int}(hs:1≤size∧size≤200){k:Int}(a b:Es)(hk:a.Wq=0->AlW w.fL k∧(gt w.fL k).H7.length<12):
  ∃r w',Apv K h size al k w.fC.A6 w.fC.Kh w.fC.Fj w.fC.Hb w.fC.Fk w.fC.Ki w.fP.Sk w.fP.Yq w.fP.Sl w.fL w.fQ w.Afv a b=some (r,w')∧D1 w' E (n+192)∧w'.fC=w.fC:=by
 unfold Apv Apo;rw[show Ds.mk (D4.mk w.fC.A6 w.fC.Kh w.fC.Fj w.fC.Hb w.fC.Fk w.fC.Ki) (Dh.mk w.fP.Sk w.fP.Yq w.fP.Sl) w.fL w.fQ w.Afv=w from rfl,show D4.mk w.fC.A6 w.fC.Kh w.fC.Fj w.fC.Hb w.fC.Fk w.fC.Ki=w.fC from rfl]
 by_cases h0:a.Wq=0
 ·obtain⟨hk,hcnt⟩:=hk h0
  have hki:=(G.live hk).1;rw[h0];simp only[bne_self_eq_false,cond_false,Z0]
  by_cases q:size>w.fC.Kh
  ·rw[decide_eq_true q];simp only[cond_true];obtain⟨r,w',h1,h2,h3,h4⟩:=Bk9 hK hE (by omega) G hk size ⟨q,hs.2⟩ hcnt a
   rw[h1,Z0];obtain⟨r2,w2,k1,k2,k3⟩:=A8c hK hE (n:=n+192) (by omega) h2 (k:=k) (by rw[h4];exact hki) h r.Wq r.fH.Be r.fH.C6 r.fR.fH.Be r.fR.fH.C6 r.fR.Sy r.fR.fNo r.fB r.Wr r.Hb r.N7
   exact⟨r2,w2,k1,k2,k3.trans h3⟩
  ·rw[decide_eq_false q];simp only[cond_false];obtain⟨r,w',h1,h2,h3,h4⟩:=Bk8 hK hE (by omega) G hk size al (by omega) a
   rw[h1,Z0];obtain⟨r2,w2,k1,k2,k3⟩:=A8c hK hE (n:=n+16) (by omega) h2 (k:=k) (by rw[h4];exact hki) h r.Wq r.fH.Be r.fH.C6 r.fR.fH.Be r.fR.fH.C6 r.fR.Sy r.fR.fNo r.fB r.Wr r.Hb r.N7
   exact⟨r2,w2,k1,D1.le k2 (Int.le_refl E) (by omega),k3.trans h3⟩
 ·rw[Aqd h0];exact⟨_,_,rfl,D1.le G (Int.le_refl E) (by omega),rfl⟩
theorem Bbm{E:Int}{n:Nat}(hE:0≤E∧E≤900000000)(hn:n≤800000000){w:Ds}(G:D1 w E n)(h:Bo)(size al:Int): ∃r w',Avr K w h size al=some (r,w')∧D1 w' E (n+192)∧w'.fC=w.fC:=by
 have W:=G.ww (by omega) (by omega)
 have G0:=D1.le G (Int.le_refl E) (by omega:n≤n+192)
 unfold Avr;rw[Aon,Z0]
 by_cases q:1≤size∧size≤200
 ·rw[Age.2 q,A1l];simp only[cond_true,Z0];cases A3k al with
  |false=>exact⟨_,_,rfl,G0,rfl⟩
  |true=>
   simp only[Bool.not_true,cond_false];rw[Atp hK W.l,Z0,Axz hK w W.l,Z0]
   by_cases h0:(Aqz w.fL h).2=0
   ·have hal:=A2w G.inv h0
    have hki:=(G.live hal).1;rw[h0];simp only[beq_self_eq_true,cond_true];rw[if_pos hki]
    by_cases q2:((gt w.fL (Aqz w.fL h).1).H7.length:Int)≥12
    ·rw[decide_eq_true q2];exact A4x hK hE hn G h q (al:=al) (k:=(Aqz w.fL h).1) (Es.mk 8 (Bo.mk 0 0) (Dy.mk (Bo.mk 0 0) 0 0) [] (A7u w h) 0 0) (Es.mk 0 (Bo.mk 0 0) (Dy.mk (Bo.mk 0 0) 0 0) [] 0 0 0) (fun f=>absurd (show(8:Int)=0 from f) (by decide))
    ·rw[decide_eq_false q2];exact A4x hK hE hn G h q (al:=al) (k:=(Aqz w.fL h).1) (Es.mk 0 (Bo.mk 0 0) (Dy.mk (Bo.mk 0 0) 0 0) [] (A7u w h) 0 0) (Es.mk 0 (Bo.mk 0 0) (Dy.mk (Bo.mk 0 0) 0 0) [] 0 0 0) (fun f=>⟨hal,by omega⟩)
   ·rw[Ail h0];exact A4x hK hE hn G h q (al:=al) (k:=(Aqz w.fL h).1) (Es.mk (Aqz w.fL h).2 (Bo.mk 0 0) (Dy.mk (Bo.mk 0 0) 0 0) [] (A7u w h) 0 0) (Es.mk 0 (Bo.mk 0 0) (Dy.mk (Bo.mk 0 0) 0 0) [] 0 0 0) (fun f=>absurd f h0)
 ·rw[A5p.2 q];exact⟨_,_,rfl,G0,rfl⟩
end
def Ek (mem:List Int)(p:Int)(s:List Int):List Int:=mem.take p.toNat++s++mem.drop (p.toNat+s.length)
def A50 (mem:List Int)(t:A7)(off:Int)(s:List Int):Bool:=decide ((0≤off∧(0:Int)≤(s.length:Int)∧off+(s.length:Int)≤t.Ai8)∧0≤Am9 .i64 t.fAt off∧Am9 .i64 t.fAt off+(s.length:Int)≤(mem.length:Int))
def Bc4 (mem:List Int)(t:A7)(off:Int)(s:List Int):List Int×Bool:=bif A50 mem t off s then(Ek mem (Am9 .i64 t.fAt off) s,true)else(mem,false)
theorem E0{mem:List Int}{p:Int}{s:List Int}(h0:0≤p)(h1:p+(s.length:Int)≤(mem.length:Int)):(Ek mem p s).length=mem.length:=by
 unfold Ek;simp;omega
theorem Bla{mem s:List Int}{p j:Nat}(hj:j<s.length)(hp:p+s.length≤mem.length):(mem.take p++s.take j++mem.drop (p+j)).set (p+j) s[j]=mem.take p++s.take (j+1)++mem.drop (p+(j+1)):=by
 have hl:(mem.take p++s.take j).length=p+j:=by simp;omega
 rw[List.set_append_right _ _ (by omega),hl,Nat.sub_self,Z47 (by omega:p+j<mem.length),List.set_cons_zero,←List.take_append_getElem hj]
 simp only[Yw,Kv,Px,Yu]
section
variable {K:Nat} (hK:281474976710656≤K)
include hK
theorem Bc5{mem s:List Int}(hm:mem.length≤140737488355327)(p:Int)(hs:s.length≤140737488355327):Ay3 K mem p s=some (bif decide (0≤p∧(0:Int)≤(s.length:Int)∧p+(s.length:Int)≤(mem.length:Int))then(Ek mem p s,true)else(mem,false)):=by
 have hx:=Adv;unfold Ay3;simp only[Yu];rw[if_pos ⟨by omega,by omega⟩,Ba1 K hm,Z0,Ady]
 by_cases h:0≤p∧(0:Int)≤(s.length:Int)∧p+(s.length:Int)≤(mem.length:Int)
 ·rw[decide_eq_true h,cond_true,cond_true];obtain⟨q,rfl⟩: ∃q:Nat,p=q:=⟨p.toNat,by omega⟩
  have:=A5r hK s (by omega) (fun _=>true) (some (Ek mem (q:Int) s,true)) none (fun n j=>Apr K (q:Int) s n (mem.take q++s.take j++mem.drop (q+j)) (j:Int)) (fun n j hj=> ?_) (fun n=> ?_)
  ·rw[Z1.2 (fun _ _=>rfl)]at this;simpa using this
  ·have hl:(mem.take q++s.take j++mem.drop (q+j)).length=mem.length:=by simp;omega
   have e:Am9 .i64 (q:Int) (j:Int)=((q+j:Nat):Int):=by unfold Am9;rw[Aa3 (by omega) (by omega)];omega
   show Apr K (q:Int) s (n+1) _ _=_;rw[Apr,Agh hj,cond_true,if_pos (Akh hj),e,hl,if_pos ⟨by omega,by omega⟩,Agd (by omega),Acm hj,Int.toNat_natCast,Bla hj (by omega)]
   rfl
  ·show Apr K (q:Int) s (n+1) _ _=_;rw[Apr,Agl (Z9 _),cond_false,List.take_length];simp[Ek]
 ·rw[decide_eq_false h];rfl
theorem A5n{mem s:List Int}(hm:mem.length≤140737488355327)(hs:s.length≤140737488355327){t:A7}(wt:A8r t)(off:Int):Atu K mem t off s=some (Bc4 mem t off s):=by
 have hx:=Adv;obtain⟨wl1,wl2⟩:=wt.2.1;unfold Atu Aw6 Bc4 A50;simp only[Yu];rw[if_pos ⟨by omega,by omega⟩,Bc5 hK hm _ hs]
 simp only[Z0];rw[decide_eq_true (show(s.length:Int)≥0 by omega)]
 by_cases h1:(0:Int)≤off
 ·rw[decide_eq_true (show off≥0 from h1)]
  by_cases h3:off≤t.Ai8
  ·rw[decide_eq_true h3]
   have e:Ana .i64 t.Ai8 off=t.Ai8 - off:=by unfold Ana;rw[Aa3 (by omega) (by omega)]
   rw[e]
   by_cases h4:(s.length:Int)≤t.Ai8 - off
   ·rw[decide_eq_true h4];simp only[cond_true]
    by_cases h5:0≤Am9 .i64 t.fAt off∧Am9 .i64 t.fAt off+(s.length:Int)≤(mem.length:Int)
    ·rw[decide_eq_true (show 0≤Am9 .i64 t.fAt off∧(0:Int)≤(s.length:Int)∧Am9 .i64 t.fAt off+(s.length:Int)≤(mem.length:Int) from⟨h5.1,by omega,h5.2⟩),decide_eq_true (show(0≤off∧(0:Int)≤(s.length:Int)∧off+(s.length:Int)≤t.Ai8)∧0≤Am9 .i64 t.fAt off∧Am9 .i64 t.fAt off+(s.length:Int)≤(mem.length:Int) from⟨⟨h1,by omega,by omega⟩,h5⟩),decide_eq_true (show Am9 .i64 t.fAt off≥0 from h5.1)]
     cases decide (t.fAt<0)<;>rfl
    ·rw[decide_eq_false (show ¬(0≤Am9 .i64 t.fAt off∧(0:Int)≤(s.length:Int)∧Am9 .i64 t.fAt off+(s.length:Int)≤(mem.length:Int))by omega),decide_eq_false (show ¬((0≤off∧(0:Int)≤(s.length:Int)∧off+(s.length:Int)≤t.Ai8)∧0≤Am9 .i64 t.fAt off∧Am9 .i64 t.fAt off+(s.length:Int)≤(mem.length:Int))by omega)]
     cases decide (t.fAt<0)<;>cases decide (Am9 .i64 t.fAt off≥0)<;>rfl
   ·rw[decide_eq_false h4,decide_eq_false (show ¬((0≤off∧(0:Int)≤(s.length:Int)∧off+(s.length:Int)≤t.Ai8)∧0≤Am9 .i64 t.fAt off∧Am9 .i64 t.fAt off+(s.length:Int)≤(mem.length:Int))by omega)];rfl
  ·rw[decide_eq_false h3,decide_eq_false (show ¬((0≤off∧(0:Int)≤(s.length:Int)∧off+(s.length:Int)≤t.Ai8)∧0≤Am9 .i64 t.fAt off∧Am9 .i64 t.fAt off+(s.length:Int)≤(mem.length:Int))by omega)];rfl
 ·rw[decide_eq_false (show ¬off≥0 from h1),decide_eq_false (show ¬((0≤off∧(0:Int)≤(s.length:Int)∧off+(s.length:Int)≤t.Ai8)∧0≤Am9 .i64 t.fAt off∧Am9 .i64 t.fAt off+(s.length:Int)≤(mem.length:Int))by omega)];rfl
end
def Bv6 (n:A8)(v:Int):A8:=A8.mk n.Yq n.C6 n.Sy n.fUp n.Wk n.Er n.Wl n.Wm n.A6 n.Afu n.Wn n.H7 (n.F3++([v]:List Int))
theorem Bn9 (K:Nat)(r:Dy): ∃b,Ay1 K r=some b:=by
 unfold Ay1;rw[A21];simp only[Z0];cases Atk r.fH<;>cases decide (r.Sy≥0)<;>exact⟨_,rfl⟩
theorem Bgc (K:Nat){n:A8}(hn:Asv n)(r:Dy): ∃t b,Aw5 K n r=some (t,b)∧(b=true->t∈n.H7):=by
 have h2:=hn.things
 have hl:n.H7.length≤140737488355327:=by have:=h2.2;omega
 unfold Aw5;rw[Azq K hl];simp only[Z0]
 by_cases hs:0≤r.fNo∧r.fNo<(n.H7.length:Int)
 ·rw[decide_eq_true hs,if_pos hs]
  have hm:gt n.H7 r.fNo∈n.H7:=Ank hs.1 hs.2;cases n.Yq != 1<;>cases n.Sy != r.Sy<;>first|exact⟨_,_,rfl,fun _=>hm⟩|exact⟨_,_,rfl,fun h=>Bool.noConfusion h⟩
 ·rw[decide_eq_false hs];cases n.Yq != 1<;>cases n.Sy != r.Sy<;>exact⟨_,_,rfl,fun h=>by cases h⟩
theorem A5j{K:Nat}(hK:281474976710656≤K){w:Ds}(I:Inv w)(hw:Agf w.fL)(r:Dy): ∃k t c,Ash K w r=some (k,t,c)∧(c=0->AlW w.fL k∧t∈(gt w.fL k).H7):=by
 unfold Ash;obtain⟨b,h1⟩:=Bn9 K r;rw[h1,Atp hK hw];simp only[Z0];cases b with
 |false=>exact⟨_,_,_,rfl,fun h=>by cases h⟩
 |true=>
  simp only[Bool.not_true,cond_false]
  by_cases h0:(Aqz w.fL r.fH).2=0
  ·have hi:=Bju h0
   have hal:=A2w I h0;rw[if_pos hi,h0];obtain⟨q,b,h3,h4⟩:=Bgc K (hw.1 _ (Ank hi.1 hi.2)) r;rw[h3];simp only[Z0,bne_self_eq_false,cond_false];cases b with
   |false=>exact⟨_,_,_,rfl,fun h=>by cases h⟩
   |true=>exact⟨_,_,_,rfl,fun _=>⟨hal,h4 rfl⟩⟩
  ·rw[Aqd h0];exact⟨_,_,_,rfl,fun h=>absurd h h0⟩
theorem Boa{mem:List Int}{p:Int}{s:List Int}(h0:0≤p)(h1:p+(s.length:Int)≤(mem.length:Int)){j:Nat}(hj:j<mem.length)(h: ¬(p≤(j:Int)∧(j:Int)<p+(s.length:Int))):gt (Ek mem p s) (j:Int)=gt mem (j:Int):=by
 have hl:=E0 h0 h1;rw[Acm (by rw[hl];exact hj),Acm hj]
 unfold Ek
 by_cases q:(j:Int)<p
 ·rw[List.getElem_append_left (by simp;omega),List.getElem_append_left (by simp;omega),List.getElem_take]
 ·rw[List.getElem_append_right (by simp;omega),List.getElem_drop]
  congr 1
  simp;omega
theorem Blb{mem:List Int}{p:Int}{s:List Int}(hm: ∀x∈mem,0≤x∧x≤255)(hs: ∀x∈s,0≤x∧x≤255): ∀x∈Ek mem p s,0≤x∧x≤255:=by
 intro x hx;unfold Ek at hx;rcases F8.1 hx with h|h
 ·rcases F8.1 h with h|h
  ·exact hm x (Yv h)
  ·exact hs x h
 ·exact hm x (List.mem_of_mem_drop h)
theorem Blc{w:Ds}{E:Int}{n:Nat}(G:D1 w E n){k:Int}(hk:AlW w.fL k){t:A7}(ht:t∈(gt w.fL k).H7){mem':List Int}(hl:mem'.length=w.fP.Sk.length)
  (hb: ∀x∈mem',0≤x∧x≤255) (hs: ∀j:Nat,j<w.fP.Sk.length-> ¬(t.fAt≤(j:Int)∧(j:Int)<t.fAt+t.Ai8)->gt mem' (j:Int)=gt w.fP.Sk (j:Int)):
  D1 (Ds.mk w.fC (Dh.mk mem' w.fP.Yq w.fP.Sl) w.fL w.fQ w.Afv) E n:=by
 have I:=G.inv
 have P:=Ak7.1 I.pool;obtain⟨hki,L,T,e⟩:=G.live hk;obtain⟨b1,b2,b3,b4,b5,b6⟩:=Ap I.conf
 have hin: ∀j,t.fAt≤j->j<t.fAt+t.Ai8->j / w.fC.Kh∈(gt w.fL k).A6:=fun j h1 h2=>A6v (Z1.1 T.inch t ht) h1 h2
 have hz: ∀a m:Nat,Apd ((w.fP.Sk.drop a).take m)=true->(∀j:Nat,a≤j->j<a+m-> ¬(t.fAt≤(j:Int)∧(j:Int)<t.fAt+t.Ai8))->Apd ((mem'.drop a).take m)=true:=by
  intro a m h hd;rw[A2e]at h ⊢;intro j h1 h2 h3;rw[hl]at h3;rw[hs j h3 (hd j h1 h2)];exact h j h1 h2 h3
 have hch: ∀c,0≤c∧c<w.fC.A6->gt w.fP.Yq c≠1-> ∀j:Nat,(c*w.fC.Kh).toNat≤j->j<(c*w.fC.Kh).toNat+w.fC.Kh.toNat-> ¬(t.fAt≤(j:Int)∧(j:Int)<t.fAt+t.Ai8):=by
  intro c hc hst j h1 h2 h3
  have h0:0≤c*w.fC.Kh:=Int.mul_nonneg hc.1 (by omega)
  have h4:=hin j h3.1 h3.2;rw[A4w (a:=c) (by omega) (by omega) (by omega)]at h4
  exact hst ((I.own k hki c).1 h4).2.1
 refine⟨A9o I (Dh.mk mem' w.fP.Yq w.fP.Sl) w.fQ w.Afv ⟨P.conf,by rw[←P.mem];show(mem'.length:Int)=_;rw[hl],P.st,P.own,fun c hc=> ?_⟩ (fun c hc=>⟨Iff.rfl,rfl⟩) (fun x hx=> ?_) rfl rfl (fun x hx=> ?_) I.chn I.chi I.log,hb,G.ep,G.wt⟩
 ·obtain⟨p1,p2,p3,p4⟩:=P.one c hc;refine⟨p1,p2,p3,fun h=>hz _ _ (p4 h) fun j h1 h2=>hch c hc ?_ j h1 h2⟩
  have h:gt w.fP.Yq c=0:=h;omega
 ·have h3:=(I.thing x hx).2.2
  by_cases hs1:(gt w.fL x).Yq=1
  ·have Lx:=Amj.1 ⟨I.node x hx,hs1⟩
   have ex:=G.ep x hx
   by_cases hcur:(gt w.fL x).Afu=0
   ·unfold Aq3;rw[hcur];rfl
   ·obtain⟨m1,m2,m3⟩:=A4c Lx ex.cur hcur
    have hm:=Av8 Lx.dist _ m1
    have h0:0≤((gt w.fL x).Afu - 1)*w.fC.Kh:=Int.mul_nonneg hm.1 (by omega)
    unfold Aq3 at h3 ⊢;rw[Ail hcur,Z52,Z4]at h3 ⊢;refine⟨hz _ _ h3.1 fun j h1 h2 h4=> ?_,h3.2⟩
    have h1:(((gt w.fL x).Afu - 1)*w.fC.Kh+(gt w.fL x).Wn).toNat≤j:=h1
    have h2:j<(((gt w.fL x).Afu - 1)*w.fC.Kh+(gt w.fL x).Wn).toNat+(w.fC.Kh - (gt w.fL x).Wn).toNat:=h2
    have h5:=hin j h4.1 h4.2;rw[A4w (a:=(gt w.fL x).Afu - 1) (by omega) (by omega) (by omega)]at h5
    have e1:=((I.own k hki _).1 h5).2.2
    have e2:=((I.own x hx _).1 m1).2.2
    have exk:x=k:=by omega
    rw[exk]at h3 h1 h2;refine Bbh (Z1.1 h3.2 t ht) h4.1 h4.2 (b:=Atz w.fC (gt w.fL k)) ?_ ?_
    ·show((gt w.fL k).Afu - 1)*w.fC.Kh+(gt w.fL k).Wn≤(j:Int);omega
    ·show(j:Int)<((gt w.fL k).Afu - 1)*w.fC.Kh+(gt w.fL k).Wn+(w.fC.Kh - (gt w.fL k).Wn);rw[exk]at m2 m3 h0;omega
  ·rw[Axr (I.node x hx) hs1];rfl
 ·obtain⟨a,b⟩:=I.wrec x hx;refine⟨a,?_⟩
  have R:=Awc.1 a
  by_cases hc:0<x.A6.length
  ·have hm:gt x.A6 0∈x.A6:=Ao9 (i:=0) hc
   have h1:=(I.chi _).1 (A9j hx hm);unfold Aol at b ⊢;rw[Bool.or_eq_true]at b ⊢;rcases b with b|b
   ·exact .inl b
   ·refine .inr (hz _ _ b fun j h2 h3=>hch _ h1.1 (by omega) j h2 ?_)
    have hd:=R.done
    have h3:j<(gt x.A6 0*w.fC.Kh).toNat+x.Wo.toNat:=h3;omega
  ·unfold Aol;rw[decide_eq_false (by omega)];rfl
section
variable {K:Nat} (hK:281474976710656≤K)
include hK
theorem Bob{E:Int}{n:Nat}(hE:0≤E∧E≤900000000)(hn:n≤800000000){w:Ds}(G:D1 w E n)(r:Dy)(off m:Int): ∃a,Az4 K w r off m=some (w,a):=by
 have W:=G.ww (by omega) (by omega)
 have P:=A4u (Ak7.1 G.inv.pool);obtain⟨k,t,c,e,h⟩:=A5j hK G.inv W.l r;unfold Az4;rw[Axl hK W,Aza hK w W,G.inv.ok,e,Axz hK w W.l];simp only[Z0,Bool.not_true,cond_false]
 by_cases h0:c=0
 ·obtain⟨hk,ht⟩:=h h0
  have hT:=A9m (Z1.1 (G.live hk).2.1.things t ht);rw[h0];simp only[bne_self_eq_false,cond_false];rw[A6e K (by omega) hT,Z0]
  cases (Bjx w.fP.Sk t off m).2<;>exact⟨_,rfl⟩
 ·rw[Aqd h0];exact⟨_,rfl⟩
theorem Bld{E:Int}{n:Nat}(hE:0≤E∧E≤900000000)(hn:n≤800000000){w:Ds}(G:D1 w E n)(r:Dy)(off:Int){s:List Int}(hs: ∀x∈s,0≤x∧x≤255)(hl:s.length≤1000000): ∃a w',Ay4 K w r off s=some (w',a)∧D1 w' E n∧w'.fC=w.fC:=by
 have W:=G.ww (by omega) (by omega)
 have P:=A4u (Ak7.1 G.inv.pool);obtain⟨k,t,c,e,h⟩:=A5j hK G.inv W.l r;unfold Ay4;rw[Axl hK W,Aza hK w W,G.inv.ok,e,Axz hK w W.l];simp only[Z0,Bool.not_true,cond_false]
 by_cases h0:c=0
 ·obtain⟨hk,ht⟩:=h h0
  have htb:=Z1.1 (G.live hk).2.1.things t ht
  have hT:=A9m htb;obtain⟨s1,s2,s3,s4⟩:=(A0s htb).1;rw[h0];simp only[bne_self_eq_false,cond_false];rw[A5n hK (by omega) (by omega) hT,Z0]
  unfold Bc4;cases ho:A50 w.fP.Sk t off s with
  |false=>exact⟨_,_,rfl,G,rfl⟩
  |true=>
   unfold A50 at ho;rw[decide_eq_true_iff]at ho
   have ea:Am9 .i64 t.fAt off=t.fAt+off:=by unfold Am9;exact Aa3 (by omega) (by omega)
   rw[ea]at ho ⊢;refine⟨_,_,rfl,Blc G hk ht (E0 (by omega) (by omega)) (Blb G.mem hs) (fun j hj hne=>Boa (by omega) (by omega) hj (by omega)),rfl⟩
 ·rw[Aqd h0];exact⟨_,_,rfl,G,rfl⟩
theorem Ble{E:Int}{n:Nat}(hE:0≤E∧E≤900000000)(hn:n≤800000000){w:Ds}(G:D1 w E n)(h:Bo)(v:Int): ∃a w',A06 K w h v=some (w',a)∧D1 w' E (n+1)∧w'.fC=w.fC:=by
 have hm:=Adv
 have W:=G.ww (by omega) (by omega)
 have G0:=D1.le G (Int.le_refl E) (by omega:n≤n+1)
 unfold A06 Aw7 Ay5;rw[Axl hK W,Aza hK w W,G.inv.ok,Aon,Atp hK W.l,Axz hK w W.l];simp only[Z0,cond_true]
 by_cases hv:0≤v∧v≤255
 ·rw[Age.2 hv];simp only[Bool.not_true,cond_false]
  by_cases h0:(Aqz w.fL h).2=0
  ·have hal:=A2w G.inv h0;obtain⟨hki,L,T,e⟩:=G.live hal;rw[h0];simp only[beq_self_eq_true,cond_true,if_pos hki]
   by_cases q:((gt w.fL (Aqz w.fL h).1).F3.length:Int)≥6
   ·rw[decide_eq_true q];exact⟨_,_,rfl,G0,rfl⟩
   ·rw[decide_eq_false q];simp only[cond_false];rw[if_pos ⟨by simp;omega,by simp;omega⟩]
    refine⟨_,_,rfl,?_,rfl⟩
    have P:=Ak7.1 G.inv.pool;refine(A2k G hal (n':=Bv6 (gt w.fL (Aqz w.fL h).1) v) (m:=1) P (A6x G.inv hki rfl) rfl rfl ⟨L.conf,L.st,L.gen,L.up,L.first,L.next,L.prev,L.ep,L.ue,L.dist,L.cur,L.nth,?_,?_,L.things⟩ ⟨T.inch,T.apart,T.loose⟩ ⟨e.ep,e.ue,e.cur⟩ ?_).1
    ·show(_++[v]).length≤6;simp;omega
    ·show(_++[v]).all _=true;rw[List.all_append,L.tags,Fp,Age.2 hv];rfl
    ·have hst1:(Bv6 (gt w.fL (Aqz w.fL h).1) v).Yq=1:=L.st;unfold wtN;rw[if_pos L.st,if_pos hst1]
     show 2+(_++[v]).length+w.fC.Kh.toNat*(gt w.fL (Aqz w.fL h).1).A6.length≤_;rw[H8,List.length_singleton];omega
  ·rw[Ail h0];simp only[cond_false];exact⟨_,_,rfl,G0,rfl⟩
 ·rw[A5p.2 hv];exact⟨_,_,rfl,G0,rfl⟩
theorem Blf{E:Int}{n:Nat}(hE:0≤E∧E≤900000000)(hn:n≤800000000){w:Ds}(G:D1 w E n)(h:Bo): ∃a,Ay6 K w h=some (w,a):=by
 have W:=G.ww (by omega) (by omega)
 unfold Ay6 Aw8;rw[Axl hK W,Aza hK w W,G.inv.ok,Atp hK W.l,Axz hK w W.l];simp only[Z0,Bool.not_true,cond_false]
 by_cases h0:(Aqz w.fL h).2=0
 ·have hal:=A2w G.inv h0;obtain⟨hki,L,T,e⟩:=G.live hal
  have hn:=W.l.1 _ (Ank hki.1 hki.2);rw[h0];simp only[beq_self_eq_true,cond_true,if_pos hki];unfold Azi;rw[Awk hK _ _ (A1a hK hn.chunks) (Bdv hK hn.things) (A1a hK hn.tags)];simp only[Z0];cases (gt w.fL (Aqz w.fL h).1).Afu==0<;>cases Aqe w.fC (gt w.fL (Aqz w.fL h).1)<;>exact⟨_,rfl⟩
 ·rw[Ail h0];exact⟨_,rfl⟩
end
def Ax2 (a:List Int):Prop:= ∀x∈a,0≤x∧x≤255
theorem Bc6{a b:List Int}(h:Ax2 a)(g:Ax2 b):Ax2 (a++b):=by
 intro x hx;rcases F8.1 hx with h1|h1
 ·exact h x h1
 ·exact g x h1
def Anx (c:Dt):Prop:=Ax2 c.fb∧c.fb.length≤1048576∧0≤c.fi∧c.fi≤(c.fb.length:Int)
theorem Bee (x:Int):0≤Anc .i64 x 255∧Anc .i64 x 255≤255:=by
 unfold Anc
 have e:(BitVec.ofInt IntKind.i64.bits x &&& BitVec.ofInt IntKind.i64.bits 255).toNat≤255:=by
  rw[BitVec.toNat_and];exact Su Nat.and_le_right (by decide)
 rw[Aa3 (by omega) (by omega)]
 omega
theorem Bc7 (K:Nat){a:List Int}(hb:Ax2 a)(ha:a.length≤1048576): ∀(n i:Nat) (v:Int),i≤a.length->a.length - i<n-> ∃c,At0 K a n v (i:Int)=some c∧Anx c:=by
 intro n
 induction n with
 |zero=>intro i _ _ h;omega
 |succ n ih=>
  intro i v hi hn;rw[At0]
  have done: ∀v,Anx (Dt.mk a 0 v):=fun v=>⟨hb,ha,by show(0:Int)≤0;omega,by show(0:Int)≤_;omega⟩
  rcases Ez i a.length with h|h
  ·rw[Agh h];simp only[cond_true];cases decide ((i:Int)<4000)with
   |false=>exact⟨_,rfl,done _⟩
   |true=>
    simp only[cond_true];rw[if_pos ⟨by omega,by omega⟩,Agd (i:=i) (by omega)]
    exact ih (i+1) _ h (by omega)
  ·rw[Agl h];exact⟨_,rfl,done _⟩
theorem Blg{K:Nat}(hK:281474976710656≤K){a:List Int}(hb:Ax2 a)(ha:a.length≤1048576): ∃c,Ayu K a=some c∧Anx c:=by
 unfold Ayu;exact Bc7 K hb ha K 0 _ (Z21 _) (by omega)
theorem A2x (K:Nat){c:Dt}(hc:Anx c): ∃r,Ap8 K c=some r∧(0≤r.1∧r.1≤255)∧Anx r.2:=by
 obtain⟨h1,h2,h3,h4⟩:=hc;unfold Ap8 Avg;rw[if_pos (by decide),if_pos (by decide)]
 by_cases h:c.fi<(c.fb.length:Int)
 ·rw[decide_eq_true h];simp only[cond_true];rw[if_pos ⟨h3,h⟩]
  have e:Am9 .i64 c.fi 1=c.fi+1:=by unfold Am9;rw[Aa3 (by omega) (by omega)]
  exact⟨_,rfl,Bee _,h1,h2,by show(0:Int)≤Am9 .i64 c.fi 1;omega,by show Am9 .i64 c.fi 1≤(c.fb.length:Int);omega⟩
 ·rw[decide_eq_false h];exact⟨_,rfl,Bee _,h1,h2,h3,h4⟩
theorem Aid (K:Nat){c:Dt}(hc:Anx c){n:Int}(hn:0<n): ∃r,Acl K c n=some r∧(0≤r.1∧r.1<n)∧Anx r.2:=by
 unfold Acl;rw[decide_eq_false (show ¬n≤0 by omega)]
 simp only[cond_false];obtain⟨r1,e1,b1,w1⟩:=A2x K hc
 by_cases h:n≤256
 ·rw[decide_eq_true h,e1];simp only[cond_true,Z0];rw[if_pos (by omega)]
  exact⟨_,rfl,⟨Int.tmod_nonneg _ b1.1,Int.tmod_lt_of_pos _ hn⟩,w1⟩
 ·rw[decide_eq_false h,e1];simp only[cond_false,Z0];obtain⟨r2,e2,b2,w2⟩:=A2x K w1;rw[e2];simp only[Z0];obtain⟨r3,e3,b3,w3⟩:=A2x K w2;rw[e3];simp only[Z0];rw[if_pos (by omega)]
  refine⟨_,rfl,⟨Int.tmod_nonneg _ ?_,Int.tmod_lt_of_pos _ hn⟩,w3⟩;unfold Am9 Anb;rw[Aa3 (n:=r1.1*65536) (by omega) (by omega),Aa3 (n:=r2.1*256) (by omega) (by omega),Aa3 (n:=r1.1*65536+r2.1*256) (by omega) (by omega),Aa3 (by omega) (by omega)]
  omega
theorem A00 (K:Nat){c:Dt}(hc:Anx c){n:Int}(hn:0<n): ∃r,Ap9 K c n=some r∧Anx r.2:=by
 obtain⟨r,e,_,w⟩:=Aid K hc hn;unfold Ap9;rw[e];exact⟨_,rfl,w⟩
theorem Az0 (K:Nat){c:Dt}(hc:Anx c){l:List Int}(hl:0<l.length): ∃x c',Apj K c l=some (x,c',l)∧x∈l∧Anx c':=by
 obtain⟨r,e,b,w⟩:=Aid K hc (n:=(l.length:Int)) (by omega)
 unfold Apj;rw[e];simp only[Z0];rw[if_pos b];exact⟨_,_,rfl,Ank b.1 b.2,w⟩
theorem A5k (K:Nat){c:Dt}(hc:Anx c)(n:Int): ∃r,Acl K c n=some r∧Anx r.2:=by
 by_cases h:0<n
 ·obtain⟨r,e,_,w⟩:=Aid K hc h;exact⟨r,e,w⟩
 ·unfold Acl;rw[decide_eq_true (show n≤0 by omega)]
  exact⟨_,rfl,hc⟩
theorem Bv7 (x:Int):0≤IntKind.u8.wrap x∧IntKind.u8.wrap x≤255:=by rw[IntKind.wrap_u8];omega
theorem A6y{K:Nat}(hK:281474976710656≤K){c:Dt}(hc:Anx c){n:Int}(h1:n≤1000): ∃b c',Awu K c n=some (b,c')∧Ax2 b∧b.length≤1000∧Anx c':=by
 have hm:=Adv
 have key: ∀(f i:Nat) (l:List Int) (c:Dt),Anx c->Ax2 l->l.length=i->(i:Int)≤1000->(1000 - i)<f-> ∃b c',Ar2 K n f l (i:Int) c.fb c.fi c.fh=some (b,c')∧Ax2 b∧b.length≤1000∧Anx c':=by
  intro f
  induction f with
  |zero=>intro i _ _ _ _ _ _ h;omega
  |succ f ih=>
   intro i l c hc hl hi h2 hf;rw[Ar2]
   by_cases q:(i:Int)<n
   ·obtain⟨r,e,_,w⟩:=A2x K hc;rw[decide_eq_true q,cond_true,show Dt.mk c.fb c.fi c.fh=c from rfl,e,Z0,if_pos ⟨by simp;omega,by simp;omega⟩,Agd (by omega)]
    exact ih (i+1) _ r.2 w (Bc6 hl fun x hx=>by rw[Mk.1 hx];exact Bv7 _) (by simp[hi]) (by omega) (by omega)
   ·rw[decide_eq_false q];exact⟨_,_,rfl,hl,by omega,hc⟩
 exact key K 0 [] c hc (fun x hx=>by cases hx) rfl (by omega) (by omega)
def Ah5 (o:Cm):Prop:=Ax2 o.fB∧o.fB.length≤1000
theorem Aps (k:Int)(h:Bo)(r:Dy)(n m:Int):Ah5 (Cm.mk k h r n m []):=⟨(fun x hx=>by cases hx),Z21 _⟩
theorem Bbn (K:Nat){c:Dt}(hc:Anx c): ∃h c',Avi K c=some (h,c')∧Anx c':=by
 unfold Avi;obtain⟨r,e,_,w⟩:=Aid K hc (n:=5) (by omega)
 obtain⟨q,e2,_,w2⟩:=Aid K w (n:=3) (by omega)
 rw[e,Z0,e2];exact⟨_,_,rfl,w2⟩
theorem A6z{K:Nat}(hK:281474976710656≤K){c:Dt}(hc:Anx c)(k:Int)(b:Bool)(r:Dy)(h:Bo){o:Cm}(ho:Ah5 o)(p:Cm): ∃o' c',Aqi K k b c.fb c.fi c.fh r h o p=some (o',c')∧Ah5 o'∧Anx c':=by
 unfold Aqi
 have e0:Dt.mk c.fb c.fi c.fh=c:=rfl;rw[e0];cases b with
 |true=>exact⟨_,_,rfl,⟨ho.1,ho.2⟩,hc⟩
 |false=>
  simp only[cond_false];cases k==2 with
  |true=>
   simp only[cond_true];obtain⟨x,c1,e1,_,w1⟩:=Az0 K hc (l:=[1,2,3,5,8,9,17,20,0,201]) (by simp)
   obtain⟨y,c2,e2,_,w2⟩:=Az0 K w1 (l:=[1,1,2,4,3]) (by simp)
   rw[e1,Z0,if_pos rfl,e2,Z0,if_pos rfl];exact⟨_,_,rfl,⟨ho.1,ho.2⟩,w2⟩
  |false=>
   simp only[cond_false];cases k==3 with
   |true=>
    simp only[cond_true];obtain⟨x,e1,_,w1⟩:=Aid K hc (n:=4) (by omega)
    obtain⟨y,e2,_,w2⟩:=Aid K w1 (n:=5) (by omega)
    rw[e1,Z0,e2,Z0];exact⟨_,_,rfl,⟨ho.1,ho.2⟩,w2⟩
   |false=>
    simp only[cond_false];cases k==4 with
    |true=>
     simp only[cond_true];obtain⟨x,e1,_,w1⟩:=Aid K hc (n:=4) (by omega)
     obtain⟨y,e2,b2,w2⟩:=Aid K w1 (n:=4) (by omega)
     obtain⟨z,c3,e3,b3,l3,w3⟩:=A6y hK w2 (n:=y.1) (by omega)
     rw[e1,Z0,e2,Z0,e3,Z0];exact⟨_,_,rfl,⟨b3,l3⟩,w3⟩
    |false=>
     simp only[cond_false];cases k==5 with
     |true=>
      simp only[cond_true];obtain⟨x,c1,e1,_,w1⟩:=Az0 K hc (l:=[1,7,255,256]) (by simp)
      rw[e1,Z0,if_pos rfl];exact⟨_,_,rfl,⟨ho.1,ho.2⟩,w1⟩
     |false=>exact⟨_,_,rfl,ho,hc⟩
theorem A60{K:Nat}(hK:281474976710656≤K){c:Dt}(hc:Anx c): ∃o c',At1 K c=some (o,c')∧Ah5 o∧Anx c':=by
 unfold At1;obtain⟨r1,e1,_,w1⟩:=Aid K hc (n:=9) (by omega)
 obtain⟨h2,c2,e2,w2⟩:=Bbn K w1;obtain⟨r3,e3,_,w3⟩:=Aid K w2 (n:=2) (by omega)
 obtain⟨r4,e4,_,w4⟩:=Aid K w3 (n:=3) (by omega)
 rw[e1,Z0,e2,Z0,e3,Z0,e4,Z0];cases Am9 .i64 1 r1.1==1 with
 |true=>
  simp only[cond_true];obtain⟨r5,e5,w5⟩:=A00 K w4 (n:=2) (by omega)
  rw[e5,Z0];cases r5.1 with
  |true=>exact⟨_,_,rfl,Aps _ _ _ _ _,w5⟩
  |false=>exact⟨_,_,rfl,Aps _ _ _ _ _,w5⟩
 |false=>
  simp only[cond_false];cases Am9 .i64 1 r1.1==6 with
  |true=>simp only[cond_true];exact A6z hK w4 _ _ _ _ (Aps _ _ _ _ _) _
  |false=>
   simp only[cond_false];cases Am9 .i64 1 r1.1==7 with
   |true=>simp only[cond_true];exact A6z hK w4 _ _ _ _ (Aps _ _ _ _ _) _
   |false=>simp only[cond_false];exact A6z hK w4 _ _ _ _ (Aps _ _ _ _ _) _
theorem Bgd (K:Nat){c:Dt}(hc:Anx c): ∃x c',Ax3 K c=some (x,c')∧Ak5 x=true∧Anx c':=by
 unfold Ax3;obtain⟨r1,e1,b1,w1⟩:=Aid K hc (n:=11) (by omega)
 obtain⟨x2,c2,e2,m2,w2⟩:=Az0 K w1 (l:=[8,8,9,12,16]) (by simp)
 obtain⟨r3,e3,b3,w3⟩:=Aid K w2 (n:=7) (by omega)
 obtain⟨r4,e4,b4,w4⟩:=Aid K w3 (n:=6) (by omega)
 obtain⟨x5,c5,e5,m5,w5⟩:=Az0 K w4 (l:=[1,3,4,8,16]) (by simp)
 obtain⟨r6,e6,b6,w6⟩:=Aid K w5 (n:=4) (by omega)
 rw[e1,Z0,e2,Z0,if_pos rfl,e3,Z0,e4,Z0,e5,Z0,if_pos rfl,e6];refine⟨_,_,rfl,?_,w6⟩
 have a1:Am9 .i64 2 r1.1=2+r1.1:=by unfold Am9;exact Aa3 (by omega) (by omega)
 have a3:Am9 .i64 2 r3.1=2+r3.1:=by unfold Am9;exact Aa3 (by omega) (by omega)
 have a4:Am9 .i64 1 r4.1=1+r4.1:=by unfold Am9;exact Aa3 (by omega) (by omega)
 have a6:Am9 .i64 1 r6.1=1+r6.1:=by unfold Am9;exact Aa3 (by omega) (by omega)
 rw[a1,a3,a4,a6]
 have m2:x2=8∨x2=8∨x2=9∨x2=12∨x2=16:=by simpa using m2
 have m5:x5=1∨x5=3∨x5=4∨x5=8∨x5=16:=by simpa using m5
 unfold Ak5;simp only[Z4,Age];omega
theorem A3l{w:Ds}{E:Int}{n:Nat}(G:D1 w E n)(hE:0≤E){k:Int}(hk:AlW w.fL k):D1 (Ain w k) E n:=by
 obtain⟨t,A,F⟩:=G.inv.forest
 have al:=hk.al A
 have I':=A72 G.inv A F al;obtain⟨hki,L,T,e⟩:=G.live hk
 have R:=G.inv.rg
 have hN:(Ain w k).fL.length=w.fL.length:=by unfold Ain;simp only;rw[Z49,Awb]
 have hg: ∀x,0≤x∧x<(w.fL.length:Int)->gt (Ain w k).fL x=if x=k then Aq1 2 (gt (Aoq w.fL k) k).C6 else gt (Aoq w.fL k) x:=fun x hx=>by
  unfold Ain;simp only;rw[Ao4 (by rw[Awb];exact hki) (by rw[Awb];exact hx)];rfl
 refine⟨I',?_,fun x hx=> ?_,?_⟩
 ·show ∀x∈(Akb w.fP _).Sk,_;rw[(Azc G.inv hki).2.1];exact G.mem
 ·rw[hN]at hx;rw[hg x hx]
  by_cases q:x=k
  ·rw[if_pos q];exact⟨hE,hE,⟨Int.le_refl 0,by show(0:Int)≤1000;omega⟩⟩
  ·rw[if_neg q,A1k R hki hx q]
   have:=G.ep x hx;exact⟨this.ep,this.ue,this.cur⟩
 ·have hs:=A2f (f:=wtN w.fC) hN hki fun x hx hne=>by rw[hg x hx,if_neg hne,A1k R hki hx hne];rfl
  rw[hg k hki,if_pos rfl,A2g _ (by decide)]at hs
  have e1:wtN w.fC (gt w.fL k)=2+(gt w.fL k).F3.length+w.fC.Kh.toNat*(gt w.fL k).A6.length:=by unfold wtN;rw[if_pos L.st]
  have h3:=G.wt;unfold wt pot at h3 ⊢
  show((Ain w k).fL.map (wtN w.fC)).sum+((w.fQ++[Ah8 (gt w.fL k) (Am9 .i64 k 1)]).map (wtQ w.fC)).sum+w.Afv.length≤_
  have e2:wtQ w.fC (Ah8 (gt w.fL k) (Am9 .i64 k 1))=1+(gt w.fL k).F3.length+w.fC.Kh.toNat*(gt w.fL k).A6.length:=rfl;rw[Fo,List.sum_append,Z8,Gb,List.sum_cons,List.sum_nil,e2];omega
theorem Bc8{w:Ds}{E:Int}{n:Nat}(G:D1 w E n)(hE:0≤E∧E≤900000000){k:Int}(hk:AlW w.fL k):D1 (Azw w k) (E+1) (n+1):=by
 obtain⟨t,A,F⟩:=G.inv.forest
 have al:=hk.al A;obtain⟨hki,L,T,e⟩:=G.live hk
 have h0:=L.ep
 have h1:=e.ep
 have I':=Bf1 G.inv A F al (by omega)
 have hN:(Azw w k).fL.length=w.fL.length:=by unfold Azw;simp only;rw[Z49]
 have hg: ∀x,0≤x∧x<(w.fL.length:Int)->gt (Azw w k).fL x=if x=k then Axm (gt w.fL k)else gt w.fL x:=fun x hx=>Ao4 hki hx _
 refine⟨I',?_,fun x hx=> ?_,?_⟩
 ·show ∀x∈(Akb w.fP _).Sk,_;rw[(Azc G.inv hki).2.1];exact G.mem
 ·rw[hN]at hx;rw[hg x hx]
  have hx':=G.ep x hx
  by_cases q:x=k
  ·rw[if_pos q];refine⟨?_,?_,⟨Int.le_refl 0,by show(0:Int)≤1000;omega⟩⟩
   ·show Am9 .i64 (gt w.fL k).Sy 1≤_;rw[ad1 (by omega) (by omega)];omega
   ·have:=e.ue
    show(gt w.fL k).Wk≤_;omega
  ·rw[if_neg q]
   have h2:=hx'.ep;have h3:=hx'.ue;exact⟨by omega,by omega,hx'.cur⟩
 ·have hs:=A2f (f:=wtN w.fC) hN hki fun x hx hne=>by rw[hg x hx,if_neg hne]
  rw[hg k hki,if_pos rfl]at hs
  have e1:wtN w.fC (gt w.fL k)=2+(gt w.fL k).F3.length+w.fC.Kh.toNat*(gt w.fL k).A6.length:=by unfold wtN;rw[if_pos L.st]
  have e0:wtN w.fC (Axm (gt w.fL k))=2:=by
   have hst1:(Axm (gt w.fL k)).Yq=1:=L.st;unfold wtN;rw[if_pos hst1];rfl
  have h3:=G.wt;unfold wt pot at h3 ⊢
  show((Azw w k).fL.map (wtN w.fC)).sum+((w.fQ++[Ah8 (gt w.fL k) 0]).map (wtQ w.fC)).sum+w.Afv.length≤_
  have e2:wtQ w.fC (Ah8 (gt w.fL k) 0)=1+(gt w.fL k).F3.length+w.fC.Kh.toNat*(gt w.fL k).A6.length:=rfl;rw[Fo,List.sum_append,Z8,Gb,List.sum_cons,List.sum_nil,e2];omega
section
variable {K:Nat} (hK:281474976710656≤K)
include hK
theorem Btf{E:Int}{n:Nat}(hE:0≤E∧E≤900000000)(hn:n≤800000000){w:Ds}(G:D1 w E n){o:Cm}(ho:Ah5 o): ∃w' a,Ax8 K w o=some (w',a)∧D1 w' E (n+1)∧w'.fC=w.fC:=by
 have W:=G.ww (by omega) (by omega)
 have G0:=D1.le G (Int.le_refl E) (by omega:n≤n+1)
 unfold Ax8;cases o.Wp==3 with
 |true=>
  simp only[cond_true];obtain⟨a,e⟩:=Bob hK hE hn G o.fR o.fN o.fM;rw[e];exact⟨_,_,rfl,G0,rfl⟩
 |false=>
  simp only[cond_false];cases o.Wp==4 with
  |true=>
   simp only[cond_true];obtain⟨a,w',e,g,c⟩:=Bld hK hE hn G o.fR o.fN (s:=o.fB) ho.1 (by have:=ho.2;omega)
   rw[e];exact⟨_,_,rfl,D1.le g (Int.le_refl E) (by omega),c⟩
  |false=>
   simp only[cond_false];cases o.Wp==5 with
   |true=>
    simp only[cond_true];obtain⟨a,w',e,g,c⟩:=Ble hK hE hn G o.fH o.fN;rw[e];exact⟨_,_,rfl,g,c⟩
   |false=>
    simp only[cond_false];cases o.Wp==8 with
    |true=>
     simp only[cond_true];obtain⟨a,e⟩:=Blf hK hE hn G o.fH;rw[e];exact⟨_,_,rfl,G0,rfl⟩
    |false=>
     simp only[cond_false];rw[Axl hK W];exact⟨_,_,rfl,G0,rfl⟩
theorem Blh{E:Int}{n:Nat}(hE:0≤E∧E≤800000000)(hn:n≤700000000){w:Ds}(G:D1 w E n)(b:Bool){o:Cm}(ho:Ah5 o)(z:Es):
  ∃a w',Auc K b w.fC.A6 w.fC.Kh w.fC.Fj w.fC.Hb w.fC.Fk w.fC.Ki w.fP.Sk w.fP.Yq w.fP.Sl w.fL w.fQ w.Afv z o.Wp o.fH.Be o.fH.C6 o.fR.fH.Be o.fR.fH.C6 o.fR.Sy o.fR.fNo o.fN o.fM o.fB=some (a,w')∧D1 w' (E+1) (n+1)∧w'.fC=w.fC:=by
 have W:=G.ww (by omega) (by omega)
 have hq:=Bf2 w
 have hwt:=G.wt
 have G0:=D1.le G (by omega:E≤E+1) (by omega:n≤n+1)
 unfold Auc;rw[show Ds.mk (D4.mk w.fC.A6 w.fC.Kh w.fC.Fj w.fC.Hb w.fC.Fk w.fC.Ki) (Dh.mk w.fP.Sk w.fP.Yq w.fP.Sl) w.fL w.fQ w.Afv=w from rfl]
 cases b with
 |true=>
  simp only[cond_true];rw[Atp hK W.l,Z0,Axz hK w W.l,Z0]
  by_cases h0:(Aqz w.fL (Bo.mk o.fH.Be o.fH.C6)).2=0
  ·have hal:=A2w G.inv h0
   have hki:=(G.live hal).1;rw[h0];simp only[bne_self_eq_false,cond_false];cases o.Wp==6 with
   |true=>
    simp only[cond_true];rw[A88 hK w W (by omega) hki,Z0]
    exact⟨_,_,rfl,Bc8 G (by omega) hal,rfl⟩
   |false=>
    simp only[cond_false];rw[Bcs hK w W (by omega) hki,Z0]
    exact⟨_,_,rfl,D1.le (A3l G hE.1 hal) (by omega) (by omega),rfl⟩
  ·rw[Aqd h0];exact⟨_,_,rfl,G0,rfl⟩
 |false=>
  simp only[cond_false];rw[show Cm.mk o.Wp (Bo.mk o.fH.Be o.fH.C6) (Dy.mk (Bo.mk o.fR.fH.Be o.fR.fH.C6) o.fR.Sy o.fR.fNo) o.fN o.fM o.fB=o from rfl]
  obtain⟨w',a,e,g,c⟩:=Btf hK (by omega) (by omega) G ho
  rw[e];exact⟨_,_,rfl,D1.le g (by omega) (Z9 _),c⟩
theorem Bv8{E:Int}{n:Nat}(hE:0≤E∧E≤800000000)(hn:n≤700000000){w:Ds}(G:D1 w E n){o:Cm}(ho:Ah5 o): ∃a w',Ay7 K w o=some (a,w')∧D1 w' (E+1) (n+192)∧w'.fC=w.fC:=by
 unfold Ay7;cases o.Wp==1 with
 |true=>
  simp only[cond_true];obtain⟨r,w',e,g,c⟩:=Bc0 hK (by omega) (by omega) G o.fH
  rw[e];exact⟨_,_,rfl,D1.le g (by omega) (by omega),c⟩
 |false=>
  simp only[cond_false];cases o.Wp==2 with
  |true=>
   simp only[cond_true];obtain⟨r,w',e,g,c⟩:=Bbm hK (by omega) (by omega) G o.fH o.fN o.fM
   rw[e];exact⟨_,_,rfl,D1.le g (by omega) (by omega),c⟩
  |false=>
   simp only[cond_false];cases o.Wp==9 with
   |true=>
    simp only[cond_true];obtain⟨r,w',e,S⟩:=A5z hK (E:=E) (n:=n) (by omega) (by omega) 4000 G
    rw[e];exact⟨_,_,rfl,D1.le S.good (by omega) (by omega),S.stay.conf⟩
   |false=>
    simp only[cond_false];cases o.Wp==6 with
    |true=>
     simp only[cond_true];obtain⟨r,w',e,g,c⟩:=Blh hK hE hn G true ho (Es.mk 0 (Bo.mk 0 0) (Dy.mk (Bo.mk 0 0) 0 0) [] 0 0 0);exact⟨_,_,e,D1.le g (Int.le_refl _) (by omega),c⟩
    |false=>
     simp only[cond_false];obtain⟨r,w',e,g,c⟩:=Blh hK hE hn G (o.Wp==7) ho (Es.mk 0 (Bo.mk 0 0) (Dy.mk (Bo.mk 0 0) 0 0) [] 0 0 0);exact⟨_,_,e,D1.le g (Int.le_refl _) (by omega),c⟩
end
theorem A9u{α:Type}[Inhabited α]{n:Nat}(x:α){k:Int}(hk:0≤k∧k<(n:Int)):gt (List.replicate n x) k=x:=by
 obtain⟨j,rfl⟩: ∃j:Nat,k=j:=⟨k.toNat,by omega⟩
 rw[Acm (by simp;omega)]
 simp
theorem A61{α:Type}(i:Nat)(x:α):List.replicate i x++[x]=List.replicate (i+1) x:=by rw[List.replicate_succ']
section
variable {K:Nat} (hK:281474976710656≤K)
include hK
def Bef (c:D4):Dh:=Dh.mk (List.replicate (c.A6*c.Kh).toNat 0) (List.replicate c.A6.toNat 0) (List.replicate c.A6.toNat (-1))
theorem Bc9{c:D4}(hc:Ak5 c=true):Awr K c=some (Bef c):=by
 have hm:=Adv;obtain⟨b1,b2,b3,b4,b5,b6⟩:=Ap hc
 have hb:=Auy (a:=c.A6) (b:=c.Kh) (m:=12) (n:=16) (by omega) b1.2 (by omega) b2.2
 have hby:Amv c=c.A6*c.Kh:=by unfold Amv;rw[hc];rfl
 unfold Awr A05;rw[Arr,hc,Z0,Bool.not_true,cond_false,Auz,Z0,hby,Aon,Age.2 ⟨by omega,by omega⟩]
 simp only[Z0,Bool.not_true,cond_false];rw[if_pos ⟨by omega,by omega,by omega,by omega⟩,Z0]
 have key: ∀(f i:Nat),(i:Int)≤c.A6->c.A6.toNat - i<f->Arz K c f (i:Int) (Dh.mk (List.replicate (c.A6*c.Kh).toNat 0) (List.replicate i 0) (List.replicate i (-1))) (Dh.mk [] [] [])=some (Bef c):=by
  intro f
  induction f with
  |zero=>intro i _ h;omega
  |succ f ih=>
   intro i hi hf;rw[Arz]
   by_cases q:(i:Int)=c.A6
   ·rw[decide_eq_false (by omega)]
    unfold Bef;rw[←q];rfl
   ·rw[decide_eq_true (by omega),cond_true,if_pos ⟨by simp;omega,by simp;omega⟩,if_pos ⟨by simp;omega,by simp;omega⟩,Agd (by omega)]
    simp only;rw[A61,A61];exact ih (i+1) (by omega) (by omega)
 exact key K 0 (by omega) (by omega)
theorem Bbo{c:D4}(hc:Ak5 c=true):Ayl K c=some (List.replicate c.Fj.toNat (Aq1 0 1)):=by
 have hm:=Adv;obtain⟨b1,b2,b3,b4,b5,b6⟩:=Ap hc
 have key: ∀(f i:Nat),(i:Int)≤c.Fj->c.Fj.toNat - i<f->Arf K c f (List.replicate i (Aq1 0 1)) (i:Int)=some (List.replicate c.Fj.toNat (Aq1 0 1)):=by
  intro f
  induction f with
  |zero=>intro i _ h;omega
  |succ f ih=>
   intro i hi hf;rw[Arf]
   by_cases q:(i:Int)=c.Fj
   ·rw[decide_eq_false (by omega),←q];rfl
   ·unfold Aqq;rw[decide_eq_true (by omega),cond_true,Arr,hc]
    simp only[Z0,cond_true];rw[show A8.mk 0 1 0 0 0 0 0 0 [] 0 0 [] []=Aq1 0 1 from rfl,if_pos ⟨by simp;omega,by simp;omega⟩,Agd (by omega),A61]
    exact ih (i+1) (by omega) (by omega)
 exact key K 0 (by omega) (by omega)
def A0o (c:D4):Ds:=Ds.mk c (Bef c) (List.replicate c.Fj.toNat (Aq1 0 1)) [] []
theorem Bbp{c:D4}(hc:Ak5 c=true):Avh K c=some (A0o c):=by
 unfold Avh;rw[Arr,hc,Z0,Bool.not_true,cond_false,Bc9 hK hc,Z0,Bbo hK hc];rfl
end
def Bli (_:Int):Lk:=⟨false,false,0,0,0,0,0,0⟩
theorem A1m{N x:Int}: ¬Lv N Bli x:=fun h=>by have:=h.2;cases this
theorem Bbq (N:Int):Agn N Bli []:=by
 refine⟨⟨fun k h=>absurd h A1m,fun k h=>absurd h A1m,fun _ _ _ _=>⟨rfl,rfl,rfl,rfl⟩⟩,⟨fun _=>0,fun x h=>absurd h A1m⟩,⟨fun _=>0,fun x h=>absurd h A1m⟩,⟨List.nodup_nil,fun x=>⟨(fun h=>by cases h),fun h=>absurd h.1 A1m⟩,(fun f h=>by cases h)⟩,trivial,fun x h=>absurd h A1m,fun x h=>absurd h A1m,(fun e h=>by cases h)⟩
theorem Blj{c:D4}(hc:Ak5 c=true):D1 (A0o c) 0 0:=by
 obtain⟨b1,b2,b3,b4,b5,b6⟩:=Ap hc
 have hb:=Auy (a:=c.A6) (b:=c.Kh) (m:=12) (n:=16) (by omega) b1.2 (by omega) b2.2
 have hN:((A0o c).fL.length:Int)=c.Fj:=by show((List.replicate _ _).length:Int)=_;rw[List.length_replicate];omega
 have hg: ∀k,0≤k∧k<((A0o c).fL.length:Int)->gt (A0o c).fL k=Aq1 0 1:=fun k hk=>A9u _ (by rw[hN]at hk;omega)
 have hs: ∀k,0≤k∧k<c.A6->gt (A0o c).fP.Yq k=0:=fun k hk=>A9u _ (by omega)
 have ho: ∀k,0≤k∧k<c.A6->gt (A0o c).fP.Sl k= -1:=fun k hk=>A9u _ (by omega)
 have hz: ∀a m:Nat,Apd (((A0o c).fP.Sk.drop a).take m)=true:=fun a m=>by
  rw[A2e];intro j _ _ h
  have h:j<(List.replicate (c.A6*c.Kh).toNat (0:Int)).length:=h;rw[List.length_replicate]at h;exact A9u _ ⟨by omega,by omega⟩
 refine⟨⟨Ak7.2 ⟨hc,?_,?_,?_,fun k hk=> ?_⟩,hN,fun k hk=> ?_,fun k hk x=> ?_,fun k hk=> ?_,⟨Bli,(fun k hk=>by rw[hg k hk];rfl),Bbq _⟩,(fun x h=>by cases h),List.nodup_nil,fun x=> ?_,List.nodup_nil,fun s=> ?_,rfl⟩,fun x hx=> ?_,fun k hk=> ?_,?_⟩
 ·show((List.replicate _ _).length:Int)=c.A6*c.Kh;rw[List.length_replicate];omega
 ·show((List.replicate _ _).length:Int)=c.A6;rw[List.length_replicate];omega
 ·show((List.replicate _ _).length:Int)=c.A6;rw[List.length_replicate];omega
 ·rw[hs k hk,ho k hk];exact⟨by omega,fun h=>by omega,fun _=>rfl,fun _=>hz _ _⟩
 ·rw[hg k hk];exact A2u hc (by omega) (by omega) (by show 1≤1∧1≤c.Ki;omega)
 ·rw[hg k hk];constructor
  ·intro h;cases h
  ·rintro⟨a,b,_⟩;rw[hs x a]at b;cases b
 ·rw[hg k hk];exact⟨rfl,rfl,rfl⟩
 ·constructor
  ·intro h;cases h
  ·rintro⟨a,b⟩;rw[hs x a]at b;cases b
 ·constructor
  ·intro h;cases h
  ·rintro⟨a,b⟩;rw[hg s a]at b;cases b
 ·have hx:x∈List.replicate (c.A6*c.Kh).toNat (0:Int):=hx;rw[(List.mem_replicate.1 hx).2];omega
 ·rw[hg k hk];exact⟨Int.le_refl 0,Int.le_refl 0,Int.le_refl 0,by show(0:Int)≤1000;omega⟩
 ·have e:wtN c (Aq1 0 1)=0:=A2g _ (by decide) _
  unfold wt pot A0o;simp[e]
section
variable {K:Nat} (hK:281474976710656≤K)
include hK
def A5l (w:Ds)(o:Cm)(c:Dt):Cm×Dt×(List Int)×(List Int)×(List Int)×(List A8)×(List Av)×(List Int):=(o,c,w.fP.Sk,w.fP.Yq,w.fP.Sl,w.fL,w.fQ,w.Afv)
omit hK in
theorem Bbr (w:Ds)(h:Bo)(d:Int){c:Dt}(hc:Anx c)(b:Bool): ∃o c',Ar3 K h w.fP.Sk w.fP.Yq w.fP.Sl w.fL w.fQ w.Afv d c.fb c.fi c.fh b=some (A5l w o c')∧Ah5 o∧Anx c':=by
 unfold Ar3;rw[show Dt.mk c.fb c.fi c.fh=c from rfl]
 cases b with
 |true=>
  simp only[cond_true];obtain⟨r,e,_,w1⟩:=Aid K hc (n:=256) (by omega)
  rw[e];exact⟨_,_,rfl,Aps _ _ _ _ _,w1⟩
 |false=>
  simp only[cond_false];cases d==13 with
  |true=>exact⟨_,_,rfl,Aps _ _ _ _ _,hc⟩
  |false=>
   simp only[cond_false];cases d==14 with
   |true=>exact⟨_,_,rfl,Aps _ _ _ _ _,hc⟩
   |false=>
    simp only[cond_false];obtain⟨r,e,w1⟩:=A00 K hc (n:=6) (by omega)
    rw[e,Z0];cases r.1 with
    |true=>exact⟨_,_,rfl,Aps _ _ _ _ _,w1⟩
    |false=>exact⟨_,_,rfl,Aps _ _ _ _ _,w1⟩
theorem Bbs (w:Ds)(h:Bo)(r:Dy)(d:Int){c:Dt}(hc:Anx c)(b:Bool): ∃o c',Ar4 K h r w.fP.Sk w.fP.Yq w.fP.Sl w.fL w.fQ w.Afv d c.fb c.fi c.fh b=some (A5l w o c')∧Ah5 o∧Anx c':=by
 unfold Ar4;rw[show Dt.mk c.fb c.fi c.fh=c from rfl]
 cases b with
 |true=>
  simp only[cond_true];obtain⟨x,e,b1,w1⟩:=Aid K hc (n:=2) (by omega)
  have e1:Am9 .i64 1 x.1=1+x.1:=by unfold Am9;exact Aa3 (by omega) (by omega)
  obtain⟨y,c2,e2,b2,l2,w2⟩:=A6y hK w1 (n:=1+x.1) (by omega)
  rw[e,Z0,e1,e2];exact⟨_,_,rfl,⟨b2,l2⟩,w2⟩
 |false=>
  simp only[cond_false];cases d==10 with
  |true=>
   simp only[cond_true];obtain⟨x,e,_,w1⟩:=Aid K hc (n:=3) (by omega)
   rw[e];exact⟨_,_,rfl,Aps _ _ _ _ _,w1⟩
  |false=>
   simp only[cond_false];cases d==11 with
   |true=>simp only[cond_true];exact Bbr w h d hc true
   |false=>simp only[cond_false];exact Bbr w h d hc (d==12)
theorem A62 (w:Ds)(h:Bo)(r:Dy)(z d:Int){c:Dt}(hc:Anx c)(b:Bool): ∃o c',Aqj K h r z w.fP.Sk w.fP.Yq w.fP.Sl w.fL w.fQ w.Afv d c.fb c.fi c.fh b=some (A5l w o c')∧Ah5 o∧Anx c':=by
 unfold Aqj;rw[show Dt.mk c.fb c.fi c.fh=c from rfl]
 cases b with
 |true=>
  simp only[cond_true];obtain⟨x,c1,e1,_,w1⟩:=Az0 K hc (l:=[1,2,3,4,5,8]) (by simp)
  obtain⟨y,c2,e2,_,w2⟩:=Az0 K w1 (l:=[1,1,2,4]) (by simp)
  rw[e1,Z0,if_pos rfl,e2,Z0,if_pos rfl];exact⟨_,_,rfl,Aps _ _ _ _ _,w2⟩
 |false=>
  simp only[cond_false];cases d==7 with
  |true=>
   simp only[cond_true];obtain⟨x,e,w1⟩:=A5k K hc z;rw[e];exact⟨_,_,rfl,Aps _ _ _ _ _,w1⟩
  |false=>
   simp only[cond_false];cases d==8 with
   |true=>simp only[cond_true];exact Bbs hK w h r d hc true
   |false=>simp only[cond_false];exact Bbs hK w h r d hc (d==9)
theorem A63 (w:Ds)(h:Bo)(r:Dy)(z d:Int){c:Dt}(hc:Anx c)(b:Bool): ∃o c',Aqk K h r z w.fP.Sk w.fP.Yq w.fP.Sl w.fL w.fQ w.Afv d b c.fb c.fi c.fh=some (A5l w o c')∧Ah5 o∧Anx c':=by
 unfold Aqk;rw[show Dt.mk c.fb c.fi c.fh=c from rfl]
 cases b with
 |true=>exact⟨_,_,rfl,Aps _ _ _ _ _,hc⟩
 |false=>
  simp only[cond_false];cases d==3 with
  |true=>exact⟨_,_,rfl,Aps _ _ _ _ _,hc⟩
  |false=>
   simp only[cond_false];cases d==4 with
   |true=>simp only[cond_true];exact A62 hK w h r z d hc true
   |false=>
    simp only[cond_false];cases d==5 with
    |true=>simp only[cond_true];exact A62 hK w h r z d hc true
    |false=>simp only[cond_false];exact A62 hK w h r z d hc (d==6)
theorem Bbt (w:Ds)(h:Bo)(r:Dy)(q:Cm){c:Dt}(hc:Anx c): ∃o c',Ar5 K h c.fb c.fi c.fh r q w.fC.A6 w.fC.Kh w.fC.Fj w.fC.Hb w.fC.Fk w.fC.Ki w.fP.Sk.length w.fP.Yq.length w.fP.Sl.length w.fL.length w.fQ.length w.Afv.length w.fP.Sk w.fP.Yq w.fP.Sl w.fL w.fQ w.Afv=some (A5l w o c')∧Ah5 o∧Anx c':=by
 unfold Ar5;rw[show Dt.mk c.fb c.fi c.fh=c from rfl]
 obtain⟨x,e,_,w1⟩:=Aid K hc (n:=16) (by omega)
 rw[e,Z0];cases x.1==0 with
 |true=>simp only[cond_true];exact A63 hK w h r _ _ w1 true
 |false=>
  simp only[cond_false];cases x.1==1 with
  |true=>simp only[cond_true];exact A63 hK w h r _ _ w1 true
  |false=>simp only[cond_false];exact A63 hK w h r _ _ w1 _
theorem Beg{w:Ds}(W:Aoc w)(h8:w.fL.length≤1000){c:Dt}(hc:Anx c): ∃o c',At2 K c w=some (A5l w o c')∧Ah5 o∧Anx c':=by
 unfold At2;obtain⟨r1,e1,hl,hr⟩:=A6u hK W h8;rw[e1,Z0];cases hz:(r1.length:Int)==0 with
 |true=>
  simp only[cond_true];obtain⟨x,e,w1⟩:=A00 K hc (n:=2) (by omega)
  rw[e,Z0];cases x.1 with
  |true=>exact⟨_,_,rfl,Aps _ _ _ _ _,w1⟩
  |false=>
   simp only[cond_false];obtain⟨o,c2,e2,ho,w2⟩:=A60 hK w1;rw[e2];exact⟨_,_,rfl,ho,w2⟩
 |false=>
  have hz: ¬(r1.length:Int)=0:=by simpa using hz
  simp only[cond_false];obtain⟨x,e,w1⟩:=A00 K hc (n:=10) (by omega)
  rw[e,Z0];cases x.1 with
  |true=>
   simp only[cond_true];obtain⟨y,e2,w2⟩:=A00 K w1 (n:=2) (by omega)
   rw[e2,Z0];cases y.1 with
   |true=>exact⟨_,_,rfl,Aps _ _ _ _ _,w2⟩
   |false=>
    simp only[cond_false];obtain⟨o,c2,e3,ho,w3⟩:=A60 hK w2;rw[e3];exact⟨_,_,rfl,ho,w3⟩
  |false=>
   simp only[cond_false];obtain⟨y,e2,b2,w2⟩:=Aid K w1 (n:=(r1.length:Int)) (by omega)
   rw[e2,Z0,if_pos b2]
   have hk:=(hr _ (Ank b2.1 b2.2)).1;obtain⟨h,eh⟩:=A2i (K:=K) (l:=w.fL) (by omega) (gt r1 y.1)
   rw[eh,Z0,if_pos hk,if_pos hk];cases decide (((gt w.fL (gt r1 y.1)).H7.length:Int)>0)with
   |true=>
    simp only[cond_true];obtain⟨z,e3,w3⟩:=A5k K w2 ((gt w.fL (gt r1 y.1)).H7.length:Int);rw[if_pos hk,e3,Z0];exact Bbt hK w h _ _ w3
   |false=>
    simp only[cond_false];exact Bbt hK w h _ _ w2
theorem run_ok{c:Dt}(hc:Anx c){most:Int}(hm:0<most∧most≤1000): ∃x l w c' E n,Ax9 K c most=some (x,l,w,c')∧D1 w E n∧(0≤E∧E≤200)∧n≤38400∧w.fC=x∧Ak5 x=true∧l.length≤200∧(∀o∈l,Ah5 o)∧Anx c':=by
 have hx:=Adv;unfold Ax9;obtain⟨x,c1,e1,hx1,w1⟩:=Bgd K hc;obtain⟨y,e2,b2,w2⟩:=Aid K w1 (n:=most) (by omega)
 rw[e1,Z0,Bbp hK hx1,Z0,e2,Z0]
 have ea:Am9 .i64 4 y.1=4+y.1:=by unfold Am9;exact Aa3 (by omega) (by omega)
 rw[ea]
 have key: ∀(f i:Nat) (l:List Cm) (w:Ds) (c:Dt),(i:Int)≤4+y.1->i<f->D1 w (l.length:Int) (192*l.length)->w.fC=x->l.length≤200->(∀o∈l,Ah5 o)->Anx c-> ∃x' l' w' c' E n,Atd K f l (i:Int) c.fb c.fi c.fh w x (Ds.mk (D4.mk 0 0 0 0 0 0) (Dh.mk [] [] []) [] [] []) (D4.mk 0 0 0 0 0 0)=some (x',l',w',c')∧D1 w' E n∧(0≤E∧E≤200)∧n≤38400∧w'.fC=x'∧Ak5 x'=true∧l'.length≤200∧(∀o∈l',Ah5 o)∧Anx c':=by
  intro f
  induction f with
  |zero=>intro i l w c _ h;omega
  |succ f ih=>
   intro i l w c hi hf G hwc hl ho hcc
   have done: ∃x' l' w' c' E n,some (x,l,w,Dt.mk c.fb c.fi c.fh)=some (x',l',w',c')∧D1 w' E n∧(0≤E∧E≤200)∧n≤38400∧w'.fC=x'∧Ak5 x'=true∧l'.length≤200∧(∀o∈l',Ah5 o)∧Anx c':=⟨_,_,_,_,_,_,rfl,G,by omega,by omega,hwc,hx1,hl,ho,hcc⟩
   rw[Atd]
   by_cases q:0<i
   ·rw[decide_eq_true (show(i:Int)>0 by omega),cond_true]
    by_cases q2:l.length<200
    ·rw[decide_eq_true (show(l.length:Int)<200 by omega),cond_true]
     have W:=G.ww (by omega) (by omega)
     obtain⟨b1,b2,b3,_⟩:=Ap G.inv.conf
     have hlen:=G.inv.len;obtain⟨o,c2,e3,hop,w3⟩:=Beg hK W (by omega) hcc
     obtain⟨a,w',e4,G',hc'⟩:=Bv8 hK (E:=(l.length:Int)) (n:=192*l.length) (by omega) (by omega) G hop
     rw[show Dt.mk c.fb c.fi c.fh=c from rfl,e3,Z0]
     unfold A5l;simp only;rw[if_pos ⟨trivial,trivial,trivial,trivial,trivial,trivial⟩,if_pos ⟨by simp;omega,by simp;omega⟩]
     rw[show Ds.mk w.fC (Dh.mk w.fP.Sk w.fP.Yq w.fP.Sl) w.fL w.fQ w.Afv=w from rfl,e4,Z0]
     have es:Ana .i64 (i:Int) 1=((i - 1:Nat):Int):=by rw[sb1 (by omega) (by omega)];omega
     rw[es];refine ih (i - 1) (l++[o]) w' c2 (by omega) (by omega) ?_ (hc'.trans hwc) (by simp;omega) ?_ w3
     ·rw[H8,List.length_singleton];exact D1.le G' (by omega) (by omega)
     ·intro o' h';rcases F8.1 h' with h'|h'
      ·exact ho o' h'
      ·rw[Mk.1 h'];exact hop
    ·rw[decide_eq_false (show ¬(l.length:Int)<200 by omega)];exact done
   ·rw[decide_eq_false (show ¬(i:Int)>0 by omega)];exact done
 have:=key K (4+y.1).toNat [] (A0o x) y.2 (by omega) (by omega) (Blj hx1) rfl (by simp) (fun o h=>by cases h) w2
 rw[show(((4+y.1).toNat:Nat):Int)=4+y.1 by omega]at this
 exact this
omit hK in
theorem Bge (a:List Int){m:Int}(hm:0≤m∧m≤1000)(ha:a.length≤1048576): ∃r,Au1 K a m=some r∧0≤r∧r≤1000:=by
 unfold Au1
 have h3:(a.length:Int) / 12≤(a.length:Int):=Int.ediv_le_self _ (by omega)
 have h4:0≤(a.length:Int) / 12:=Int.ediv_nonneg (by omega) (by omega)
 have e1:Akr .i64 (a.length:Int) 12=(a.length:Int) / 12:=by
  unfold Akr;rw[Int.tdiv_eq_ediv_of_nonneg (by omega)];exact Aa3 (by omega) (by omega)
 have e2:Am9 .i64 3 ((a.length:Int) / 12)=3+(a.length:Int) / 12:=by unfold Am9;exact Aa3 (by omega) (by omega)
 rw[if_pos (by decide),e1,e2]
 by_cases q:3+(a.length:Int) / 12>m
 ·rw[decide_eq_true q];exact⟨_,rfl,hm⟩
 ·rw[decide_eq_false q];exact⟨_,rfl,by omega,by omega⟩
theorem A9v{a:List Int}(hb:Ax2 a)(ha:a.length≤1048576): ∃w o E n,Auv K a=some (w,o)∧D1 w E n∧(0≤E∧E≤200)∧n≤38400∧Ah5 o:=by
 unfold Auv;obtain⟨c,e1,w1⟩:=Blg hK hb ha;obtain⟨m,e2,hm⟩:=Bge (K:=K) a (m:=50) (by omega) ha
 have ea:Am9 .i64 20 m=20+m:=by unfold Am9;exact Aa3 (by omega) (by omega)
 have h50:m≤900∨900<m:=by omega
 rw[e1,Z0,e2,Z0,ea];unfold Ayp
 have hm2:m≤50:=by
  unfold Au1 at e2;rw[if_pos (by decide)]at e2
  by_cases q:(Am9 .i64 3 (Akr .i64 (a.length:Int) 12))>50
  ·rw[decide_eq_true q]at e2;simp only[cond_true,Z7]at e2;omega
  ·rw[decide_eq_false q]at e2;simp only[cond_false,Z7]at e2;omega
 obtain⟨x,l,w,c2,E,n,e3,G,hE,hn,_,_,_,_,w3⟩:=run_ok hK w1 (most:=20+m) (by omega)
 have W:=G.ww (by omega) (by omega)
 obtain⟨b1,b2,b3,_⟩:=Ap G.inv.conf
 have hlen:=G.inv.len;obtain⟨o,c4,e4,ho,_⟩:=Beg hK W (by omega) w3
 rw[e3];simp only[Z0];rw[e4,Z0];unfold A5l;simp only;rw[if_pos ⟨trivial,trivial,trivial,trivial,trivial,trivial⟩];exact⟨_,_,_,_,rfl,G,hE,hn,ho⟩
end
section
variable (N:Int) (t:Int->Lk)
def kd (k:Int):List Int:=kf N t (t k).fi
def sub:Nat->Int->List Int
 |0,_=>[]
 |n+1,k=>k::(kd N t k).flatMap (sub n)
inductive Up (a:Int):Int->Prop
 |refl:Lv N t a->Up a a
 |step {b:Int}:Lv N t b->Cu N t b->Up a ((t b).up - 1)->Up a b
def Ht:Nat->Int->Prop
 |0,_=>False
 |n+1,k=> ∀c∈kd N t k,Ht n c
end
section
variable {N:Int} {t:Int->Lk}
theorem A01 (n:Nat)(k:Int):sub N t (n+1) k=k::(kd N t k).flatMap (sub N t n):=rfl
theorem Up.lv{a b:Int}(h:Up N t a b):Lv N t a∧Lv N t b:=by
 induction h with
 |refl h=>exact⟨h,h⟩
 |step h _ _ ih=>exact⟨ih.1,h⟩
theorem Up.trans{a b c:Int}(h:Up N t a b)(g:Up N t b c):Up N t a c:=by
 induction g with
 |refl _=>exact h
 |step h1 h2 _ ih=>exact .step h1 h2 ih
theorem Up.comp{a b x:Int}(h:Up N t a x)(g:Up N t b x):Up N t a b∨Up N t b a:=by
 induction h with
 |refl _=>exact .inr g
 |step h1 h2 h3 ih=>
  cases g with
  |refl h4=>exact .inl (.step h1 h2 h3)
  |step _ _ g3=>exact ih g3
theorem Up.le{d:Int->Nat}(U: ∀x,Lv N t x->Cu N t x->d ((t x).up - 1)<d x){a b:Int}(h:Up N t a b):d a≤d b:=by
 induction h with
 |refl _=>exact Z9 _
 |step h1 h2 _ ih=>have:=U _ h1 h2;omega
theorem Up.al{a b:Int}(h:Up N t a b)(g:Al N t a):Al N t b:=by
 induction h with
 |refl _=>exact g
 |step h1 h2 _ ih=>exact .step h1 h2 ih
theorem Up.al_iff{a b:Int}(h:Up N t a b)(g:Al N t b):Al N t a:=by
 induction h with
 |refl _=>exact g
 |step h1 h2 h3 ih=>
  cases g with
  |root _ e=>exact absurd h2.1.1.1 (by omega)
  |step _ _ g3=>exact ih g3
variable {r:Int->Nat} {d:Int->Nat}
theorem A9w (T:Aqg N t)(W:Wf N t r){k:Int}(hk:Lv N t k)(x:Int):x∈kd N t k ↔ Lv N t x∧(t x).up=k+1∧Cu N t x:=A0e T W hk x
theorem A4f (T:Aqg N t)(W:Wf N t r){k x:Int}(hk:Lv N t k)(h:x∈kd N t k):Up N t k x:=by
 obtain⟨h1,h2,h3⟩:=(A9w T W hk x).1 h;exact .step h1 h3 (by rw[h2,Int.add_sub_cancel];exact .refl hk)
theorem Beh (T:Aqg N t)(W:Wf N t r)(U: ∀x,Lv N t x->Cu N t x->d ((t x).up - 1)<d x){k x:Int}(hk:Lv N t k)(h:x∈kd N t k):d k<d x:=by
 obtain⟨h1,h2,h3⟩:=(A9w T W hk x).1 h
 have:=U x h1 h3
 rwa[h2,Int.add_sub_cancel]at this
theorem A9x (T:Aqg N t)(W:Wf N t r): ∀(n:Nat) (k x:Int),Lv N t k->x∈sub N t n k->Up N t k x:=by
 intro n
 induction n with
 |zero=>intro k x _ h;cases h
 |succ n ih=>
  intro k x hk h;rw[A01,C9]at h;rcases h with h|h
  ·rw[h];exact .refl hk
  ·obtain⟨c,hc,hx⟩:=List.mem_flatMap.1 h
   have hu:=A4f T W hk hc;exact hu.trans (ih c x hu.lv.2 hx)
theorem Bll: ∀(n:Nat) (k:Int),Ht N t n k-> ∀m,n≤m->sub N t m k=sub N t n k:=by
 intro n
 induction n with
 |zero=>intro k h;cases h
 |succ n ih=>
  intro k h m hm;obtain⟨m,rfl⟩: ∃j,m=j+1:=⟨m - 1,by omega⟩
  rw[A01,A01]
  congr 1
  exact Amz fun c hc=>ih c (h c hc) m (by omega)
theorem Btg (T:Aqg N t)(W:Wf N t r)(U: ∀x,Lv N t x->Cu N t x->d ((t x).up - 1)<d x): ∀(n:Nat) (k:Int) (L:List Int),Lv N t k->L.Nodup->(∀x∈L,(0≤x∧x<N)∧d x≤d k)->N.toNat<L.length+n->Ht N t n k:=by
 intro n
 induction n with
 |zero=>
  intro k L _ hn hi hl
  have:=A2s hn (fun x hx=>(hi x hx).1);omega
 |succ n ih=>
  intro k L hk hn hi hl c hc
  have hu:=A4f T W hk hc
  have hlt:=Beh T W U hk hc;refine ih c (L++[c]) hu.lv.2 (Adx.2 ⟨hn,by simp,fun x h1 h2=> ?_⟩) (fun x hx=> ?_) (by rw[H8,List.length_singleton];omega)
  ·rw[Mk]at h2
   have:=(hi x h1).2;rw[h2]at this;omega
  ·rcases F8.1 hx with h|h
   ·exact⟨(hi x h).1,by have:=(hi x h).2;omega⟩
   ·rw[Mk.1 h];exact⟨hu.lv.2.1,Z9 _⟩
theorem Byk (T:Aqg N t)(W:Wf N t r)(U: ∀x,Lv N t x->Cu N t x->d ((t x).up - 1)<d x){k:Int}(hk:Lv N t k):Ht N t N.toNat k:=
 Btg T W U N.toNat k [k] hk (by simp) (fun x hx=>by rw[Mk.1 hx];exact⟨hk.1,Z9 _⟩) (by simp)
theorem Bda{α β:Type}(f:α->List β): ∀(l:List α),l.Nodup->(∀x∈l,(f x).Nodup)->(∀x∈l,∀y∈l,x≠y-> ∀z∈f x,z ∉ f y)->(l.flatMap f).Nodup:=by
 intro l
 induction l with
 |nil=>intro _ _ _;exact List.nodup_nil
 |cons a l ih=>
  intro h1 h2 h3;obtain⟨n1,n2⟩:=List.nodup_cons.1 h1;rw[List.flatMap_cons];refine Adx.2 ⟨h2 a List.mem_cons_self,ih n2 (fun x hx=>h2 x (Z56 _ hx)) (fun x hx y hy=>h3 x (Z56 _ hx) y (Z56 _ hy)),fun z hz hz2=> ?_⟩;obtain⟨y,hy,hzy⟩:=List.mem_flatMap.1 hz2;exact h3 a List.mem_cons_self y (Z56 _ hy) (fun e=>n1 (e ▸ hy)) z hz hzy
theorem Blm (T:Aqg N t)(W:Wf N t r)(U: ∀x,Lv N t x->Cu N t x->d ((t x).up - 1)<d x){k a b z:Int}(hk:Lv N t k)(ha:a∈kd N t k)(hb:b∈kd N t k)(hne:a≠b)(h1:Up N t a z)(h2:Up N t b z):False:=by
 have key: ∀a b,a∈kd N t k->b∈kd N t k->a≠b->Up N t a b->False:=by
  intro a b ha hb hne h;obtain⟨_,e2,_⟩:=(A9w T W hk b).1 hb
  have hlt:=Beh T W U hk ha;cases h with
  |refl _=>exact hne rfl
  |step _ _ h3=>
   rw[e2,Int.add_sub_cancel]at h3
   have:=h3.le U;omega
 rcases h1.comp h2 with h|h
 ·exact key a b ha hb hne h
 ·exact key b a hb ha (Ne.symm hne) h
theorem Bgf (T:Aqg N t)(W:Wf N t r)(U: ∀x,Lv N t x->Cu N t x->d ((t x).up - 1)<d x): ∀(n:Nat) (k:Int),Lv N t k->(sub N t n k).Nodup:=by
 intro n
 induction n with
 |zero=>intro k _;exact List.nodup_nil
 |succ n ih=>
  intro k hk;rw[A01];refine List.nodup_cons.2 ⟨fun h=> ?_,Bda _ _ (A0c T W N.toNat hk) (fun c hc=>ih c (A4f T W hk hc).lv.2) (fun a ha b hb hne z hz hz2=> ?_)⟩
  ·obtain⟨c,hc,hx⟩:=List.mem_flatMap.1 h
   have hu:=A4f T W hk hc
   have h1:=(A9x T W n c k hu.lv.2 hx).le U
   have h2:=Beh T W U hk hc;omega
  ·exact Blm T W U hk ha hb hne (A9x T W n a z (A4f T W hk ha).lv.2 hz) (A9x T W n b z (A4f T W hk hb).lv.2 hz2)
theorem Boc (T:Aqg N t)(W:Wf N t r){g k:Int}(hg:Lv N t g)(hc:(t g).up=0∨Cu N t g)(hn: ¬Up N t k g): ∀(n:Nat) (x:Int),Up N t k x->sub N (rem t g) n x=sub N t n x:=by
 intro n
 induction n with
 |zero=>intro x _;rfl
 |succ n ih=>
  intro x hx
  have hxl:=hx.lv.2
  have hxg:x≠g:=fun e=>hn (e ▸ hx)
  have hpar:x+1≠(t g).up:=fun e=>by
   rcases hc with h|h
   ·have:=hxl.1.1;omega
   ·exact hn (.step hg h (by rw[←e,Int.add_sub_cancel];exact hx))
  have hfi:(rem t g x).fi=(t x).fi:=by
   rw[Akc hxg];simp only;rw[if_neg (fun q=>hpar q.2.1)]
  have hkd:kd N (rem t g) x=kd N t x:=by
   unfold kd;rw[hfi];refine A9c fun y hy=> ?_
   have hy1:=(A9w T W hxl y).1 hy
   have hyu:=hx.trans (A4f T W hxl hy);refine⟨fun e=>hn (e ▸ hyu),fun e=> ?_⟩;obtain⟨s1,s2,s3⟩:=sib T hg e hy1.1.1.1;exact hpar (by rw[s2,hy1.2.1])
  rw[A01,A01,hkd]
  congr 1
  exact Amz fun c hcc=>ih c (hx.trans (A4f T W hxl hcc))
end
theorem Bgg{l:List A8}(k y:Int)(r:List Int):Awf l (k::y::r)=Awf l (y::r):=by
 unfold Awf;rw[if_pos (by simp),if_pos (by simp)]
 have e:gt (k::y::r) (((k::y::r).length - 1:Nat):Int)=gt (y::r) (((y::r).length - 1:Nat):Int):=by
  rw[show(k::y::r).length - 1=((y::r).length - 1)+1 by simp]
  exact Ayh _ _ (by simp)
 rw[e]
theorem Bln{l:List A8}{t:Int->Lk}(A:AtT l t)(R:Rg l){d:Int->Nat}(U: ∀x,Lv l.length t x->Cu l.length t x->d ((t x).up - 1)<d x): ∀(n:Nat) (k:Int) (L:List Int),Al l.length t k->L.Nodup->(∀x∈L,(0≤x∧x<(l.length:Int))∧d k<d x)->l.length≤L.length+n→
  (∃r,Aes l n k=k::r)∧Aru l (Aes l n k)=true∧Awf l (Aes l n k)=true:=by
 intro n
 induction n with
 |zero=>
  intro k L h hn hi hl
  have hk:=h.lv
  have:=A2s (N:=(l.length:Int)) (l:=L++[k]) (Adx.2 ⟨hn,by simp,fun x h1 h2=>by rw[Mk]at h2;have:=(hi x h1).2;rw[h2]at this;omega⟩) (fun x hx=>by
   rcases F8.1 hx with h|h
   ·exact(hi x h).1
   ·rw[Mk.1 h];exact hk.1)
  rw[H8,List.length_singleton]at this;omega
 |succ n ih=>
  intro k L h hn hi hl
  have hk:=h.lv
  have hst:=((As8 A).1 hk).2
  have hu:=(R.rg k hk.1).1
  have hl8:=R.len;unfold Aes;rw[if_pos hk.1,sb1 (by omega) (by omega)]
  cases h with
  |root _ h0=>
   rw[A k hk.1]at h0
   have h0:(gt l k).fUp=0:=h0
   have e:Aes l n ((gt l k).fUp - 1)=[]:=by
    cases n with
    |zero=>rfl
    |succ n=>unfold Aes;rw[if_neg (by omega)]
   rw[e];refine⟨⟨[],rfl⟩,by simp[Aru,hst],?_⟩
   show(if 0<1 then(gt l k).fUp==0 else false)=true
   rw[if_pos (by decide),h0];rfl
  |step _ hc hp=>
   rw[A k hk.1]at hp
   have hp:Al l.length t ((gt l k).fUp - 1):=hp
   have hlt:=U k hk hc;rw[A k hk.1]at hlt
   have hlt:d ((gt l k).fUp - 1)<d k:=hlt;obtain⟨⟨r,e⟩,h1,h2⟩:=ih ((gt l k).fUp - 1) (L++[k]) hp (Adx.2 ⟨hn,by simp,fun x h1 h2=>by rw[Mk]at h2;have:=(hi x h1).2;rw[h2]at this;omega⟩) (fun x hx=>by
    rcases F8.1 hx with h|h
    ·exact⟨(hi x h).1,by have:=(hi x h).2;omega⟩
    ·rw[Mk.1 h];exact⟨hk.1,hlt⟩) (by rw[H8,List.length_singleton];omega)
   rw[e]at h1 h2 ⊢;refine⟨⟨_,rfl⟩,?_,by rw[Bgg];exact h2⟩
   have hep:=hc.2;rw[A k hk.1]at hep
   have hep:(t ((gt l k).fUp - 1)).ep=(gt l k).Wk:=hep;rw[A _ hp.lv.1]at hep
   have hep:(gt l ((gt l k).fUp - 1)).Sy=(gt l k).Wk:=hep
   show((gt l k).Yq==1&&((gt l k).Wk==(gt l ((gt l k).fUp - 1)).Sy)&&Aru l (((gt l k).fUp - 1)::r))=true;rw[h1,hst,hep];simp
theorem Azh{w:Ds}(I:Inv w){t:Int->Lk}(A:AtT w.fL t)(F:Agn w.fL.length t (Aq4 w.fQ)){k:Int}:Aph w.fL k=true ↔ Al w.fL.length t k:=by
 constructor
 ·intro h;exact(A76 I h).al A
 ·intro h;obtain⟨d,U⟩:=F.uw;obtain⟨_,h1,h2⟩:=Bln A I.rg U w.fL.length k [] h List.nodup_nil (fun x h=>by cases h) (by simp)
  unfold Aph;rw[h1,h2];rfl
def Awq (w:Ds):Nat->Int->List Int
 |0,_=>[]
 |n+1,k=>k::(Aqf w k).flatMap (Awq w n)
theorem A4y{w:Ds}(I:Inv w){t:Int->Lk}(A:AtT w.fL t){k:Int}(hk:0≤k∧k<(w.fL.length:Int)):Aqf w k=kd w.fL.length t k:=by
 have h:=(I.rg.rg k hk).2.1
 have hl:=I.rg.len;unfold Aqf kd;rw[A2b A I.rg (by omega) (by omega),A k hk];rfl
theorem A02{w:Ds}(I:Inv w){t:Int->Lk}(A:AtT w.fL t): ∀(n:Nat) (k:Int),0≤k∧k<(w.fL.length:Int)->Awq w n k=sub w.fL.length t n k:=by
 intro n
 induction n with
 |zero=>intro k _;rfl
 |succ n ih=>
  intro k hk
  show k::(Aqf w k).flatMap (Awq w n)=k::(kd w.fL.length t k).flatMap (sub w.fL.length t n);rw[A4y I A hk]
  congr 1
  exact Amz fun c hc=>ih c (Ba5 hc)
theorem Blo{w:Ds}(I:Inv w){t:Int->Lk}(A:AtT w.fL t)(F:Agn w.fL.length t (Aq4 w.fQ)){k:Int}(hk:Lv w.fL.length t k):Awq w (w.fL.length+1) k=Awq w w.fL.length k:=by
 obtain⟨r,W⟩:=F.wf;obtain⟨d,U⟩:=F.uw;rw[A02 I A _ _ hk.1,A02 I A _ _ hk.1]
 have:=Bll _ _ (Byk F.tree W U hk) (w.fL.length+1) (by simp)
 simpa using this
structure Ays (w:Ds)(t:Int->Lk)(k:Int):Prop where
 inv:Inv w
 tab:AtT w.fL t
 fr:Agn w.fL.length t (Aq4 w.fQ)
 al:Al w.fL.length t k
structure A03 (w w':Ds)(t:Int->Lk)(k:Int):Prop where
 inv:Inv w'
 len:w'.fL.length=w.fL.length
 tab:AtT w'.fL (rem t k)
 fr:Agn w.fL.length (rem t k) (Aq4 w'.fQ)
 conf:w'.fC=w.fC
 q:w'.fQ=w.fQ++[Ah8 (gt w.fL k) (k+1)]
 node: ∀x,0≤x∧x<(w.fL.length:Int)->x≠k-> ∃a b c,gt w'.fL x=lnk (gt w.fL x) a b c
theorem A9y{w:Ds}{t:Int->Lk}{k:Int}(P:Ays w t k):A03 w (Ain w k) t k:=by
 have I:=P.inv
 have A:=P.tab
 have hl:=P.al.lv
 have hk:=hl.1
 have R:=I.rg;obtain⟨b1,b2,b3,_⟩:=Ap I.conf
 have hlen:=I.len
 have hN:(Ain w k).fL.length=w.fL.length:=by unfold Ain;simp only;rw[Z49,Awb]
 have e1:Am9 .i64 k 1=k+1:=ad1 (by omega) (by omega)
 have hF:Agn w.fL.length (rem t k) (Aq4 (w.fQ++[Ah8 (gt w.fL k) (k+1)])):=by
  rw[A6o]
  have:=A33 P.fr P.al;rw[A k hk]at this;exact this
 refine⟨A72 I A P.fr P.al,hN,Bkk A R hk _,?_,rfl,?_,fun x hx hne=> ?_⟩
 ·show Agn _ _ (Aq4 (w.fQ++[Ah8 (gt w.fL k) (Am9 .i64 k 1)]));rw[e1];exact hF
 ·show w.fQ++[Ah8 (gt w.fL k) (Am9 .i64 k 1)]=_;rw[e1]
 ·have e0:gt (Ain w k).fL x=gt (Aoq w.fL k) x:=by
   unfold Ain;simp only;rw[Ao4 (by rw[Awb];exact hk) (by rw[Awb];exact hx),if_neg hne]
  exact⟨_,_,_,e0.trans (A1k R hk hx hne)⟩
theorem Bgh (c:D4)(a b:Int)(f g:Int)(ts cs:List Int)(d:Int):Bs0 c (Av.mk a f ts cs d)=Bs0 c (Av.mk b g ts cs d):=rfl
theorem A03.own{w w':Ds}{t:Int->Lk}{k:Int}(L:A03 w w' t k){x:Int}(hx:0≤x∧x<(w.fL.length:Int))(hne:x≠k):Bs1 w' x=Bs1 w x:=by
 obtain⟨a,b,c,e⟩:=L.node x hx hne;unfold Bs1;rw[e,L.conf];exact Bgh _ _ _ _ _ _ _ _
theorem Bv9{N:Int}{t:Int->Lk}{k:Int}(h:Al N t k):(t k).up=0∨Cu N t k:=by
 cases h with
 |root _ e=>exact .inl e
 |step _ c _=>exact .inr c
theorem Blp{w w':Ds}{t:Int->Lk}{k:Int}(P:Ays w t k)(L:A03 w w' t k){x:Int}(hx:Lv w.fL.length t x)(hn: ¬Up w.fL.length t x k)(n:Nat):Awq w' n x=Awq w n x:=by
 obtain⟨r,W⟩:=P.fr.wf;rw[A02 P.inv P.tab n x hx.1,A02 L.inv L.tab n x (by rw[L.len];exact hx.1),L.len]
 exact Boc P.fr.tree W P.al.lv (Bv9 P.al) hn n x (.refl hx)
theorem A03.kids{w w':Ds}{t:Int->Lk}{k:Int}(P:Ays w t k)(L:A03 w w' t k){x:Av}(hx:x∈w.fQ):Adw w'.fL x.Er=Adw w.fL x.Er:=by
 have hf:=P.inv.first hx;rw[A2b P.tab P.inv.rg hf.1 (by omega),A2b L.tab L.inv.rg hf.1 (by omega),L.len]
 exact A4s P.fr.tree P.al.lv P.al.noOr P.fr.kid (Inv.qs hx)
theorem A03.orph{w w':Ds}{t:Int->Lk}{k:Int}(P:Ays w t k){x:Av}(hx:x∈w.fQ){c:Int}(hc:c∈Adw w.fL x.Er):Lv w.fL.length t c∧ ¬Up w.fL.length t c k:=by
 have hf:=P.inv.first hx;rw[A2b P.tab P.inv.rg hf.1 (by omega)]at hc
 have ho:=P.fr.kid.or (Inv.qs hx) hc;exact⟨ho.lv,fun h=>(h.al_iff P.al).noOr ho⟩
theorem A03.newkids{w w':Ds}{t:Int->Lk}{k:Int}(P:Ays w t k)(L:A03 w w' t k):Adw w'.fL (gt w.fL k).Er=Aqf w k:=by
 obtain⟨r,W⟩:=P.fr.wf
 have hk:=P.al.lv.1
 have h:=(P.inv.rg.rg k hk).2.1
 have hl:=P.inv.rg.len;rw[A4y P.inv P.tab hk,A2b L.tab L.inv.rg (by omega) (by omega),L.len]
 have:=Azb P.fr.tree W P.al.lv;rw[P.tab k hk]at this;unfold kd;rw[P.tab k hk];exact this
theorem Bth{w:Ds}{t:Int->Lk}{k:Int}(P:Ays w t k){c:Int}(hc:c∈Aqf w k):Lv w.fL.length t c∧ ¬Up w.fL.length t c k:=by
 obtain⟨r,W⟩:=P.fr.wf;obtain⟨d,U⟩:=P.fr.uw;rw[A4y P.inv P.tab P.al.lv.1]at hc
 have h1:=A4f P.fr.tree W P.al.lv hc
 have h2:=Beh P.fr.tree W U P.al.lv hc;exact⟨h1.lv.2,fun h=>by have:=h.le U;omega⟩
def Alb (w:Ds)(x:Int):List Int:=(gt w.fL x).F3.reverse
def tOf (w:Ds)(k:Int):List Int:=(Awq w w.fL.length k).flatMap (Alb w)
def pAt (w:Ds)(x:Av):List Int:=x.F3.reverse++(Adw w.fL x.Er).flatMap (tOf w)
def A9z (w:Ds):List Int:=w.fQ.flatMap (pAt w)
theorem A03.tags{w w':Ds}{t:Int->Lk}{k:Int}(L:A03 w w' t k){x:Int}(hx:0≤x∧x<(w.fL.length:Int))(hne:x≠k):Alb w' x=Alb w x:=by
 obtain⟨a,b,c,e⟩:=L.node x hx hne;unfold Alb;rw[e];rfl
theorem A64{w w':Ds}{t:Int->Lk}{k:Int}(P:Ays w t k)(L:A03 w w' t k){x:Int}(hx:Lv w.fL.length t x)(hn: ¬Up w.fL.length t x k):tOf w' x=tOf w x:=by
 obtain⟨r,W⟩:=P.fr.wf;unfold tOf;rw[L.len,Blp P L hx hn];refine Amz fun y hy=> ?_;rw[A02 P.inv P.tab _ x hx.1]at hy
 have hu:=A9x P.fr.tree W _ _ _ hx hy;exact L.tags hu.lv.2.1 (fun e=>hn (e ▸ hu))
theorem Bgj{α β γ:Type}(f:α->List β)(g:β->List γ): ∀l:List α,(l.flatMap f).flatMap g=l.flatMap (fun x=>(f x).flatMap g):=by
 intro l
 induction l with
 |nil=>rfl
 |cons a l ih=>rw[List.flatMap_cons,List.flatMap_append,ih,List.flatMap_cons]
theorem Blq{w:Ds}{t:Int->Lk}{k:Int}(P:Ays w t k):tOf w k=Alb w k++(Aqf w k).flatMap (tOf w):=by
 have e:tOf w k=(Awq w (w.fL.length+1) k).flatMap (Alb w):=by unfold tOf;rw[Blo P.inv P.tab P.fr P.al.lv]
 rw[e]
 show(k::(Aqf w k).flatMap (Awq w w.fL.length)).flatMap (Alb w)=_;rw[List.flatMap_cons,Bgj];rfl
theorem A65{w:Ds}{t:Int->Lk}{k:Int}(P:Ays w t k):A9z (Ain w k)=A9z w++tOf w k:=by
 have L:=A9y P;unfold A9z;rw[L.q,List.flatMap_append,List.flatMap_cons,List.flatMap_nil,List.append_nil]
 congr 1
 ·refine Amz fun x hx=> ?_;unfold pAt;rw[L.kids P hx]
  congr 1
  refine Amz fun c hc=> ?_;obtain⟨h1,h2⟩:=A03.orph (w':=w) P hx hc;exact A64 P L h1 h2
 ·rw[Blq P];unfold pAt
  show(gt w.fL k).F3.reverse++(Adw (Ain w k).fL (gt w.fL k).Er).flatMap _=_;rw[L.newkids P]
  congr 1
  refine Amz fun c hc=> ?_;obtain⟨h1,h2⟩:=Bth P hc;exact A64 P L h1 h2
theorem Bti{N:Int}{t:Int->Lk}{k:Int}(hk:Al N t k){y:Int}:Al N (rem t k) y ↔ Al N t y∧ ¬Up N t k y:=by
 constructor
 ·intro h
  induction h with
  |root h1 h2=>
   obtain⟨h3,h4⟩:=Amy.1 h1;rw[Akc h3]at h2
   have h2:=(show(t _).up=0 from h2)
   refine⟨.root h4 h2,fun g=> ?_⟩;cases g with
   |refl _=>exact h3 rfl
   |step _ c _=>have:=c.1.1.1;omega
  |step h1 h2 h3 ih=>
   obtain⟨h4,h5⟩:=Amy.1 h1;obtain⟨h6,h7⟩:=(Ax0 h4).1 h2;rw[Akc h4]at ih;refine⟨.step h5 h7 ih.1,fun g=> ?_⟩;cases g with
   |refl _=>exact h4 rfl
   |step _ _ g3=>exact ih.2 g3
 ·rintro⟨h,hn⟩
  induction h with
  |root h1 h2=>
   have hne:_≠k:=fun e=>hn (e ▸ Up.refl h1);exact .root (Amy.2 ⟨hne,h1⟩) (by rw[Akc hne];exact h2)
  |step h1 h2 h3 ih=>
   have hne:_≠k:=fun e=>hn (e ▸ Up.refl h1)
   have hpn: ¬Up N t k _:=fun g=>hn (.step h1 h2 g);refine .step (Amy.2 ⟨hne,h1⟩) ((Ax0 hne).2 ⟨fun e=>hpn ?_,h2⟩) (by rw[Akc hne];exact ih hpn)
   rw[e,Int.add_sub_cancel];exact .refl hk.lv
def Aun (w:Ds):List Int:=((List.range w.fL.length).map (fun(i:Nat)=>(i:Int))).filter (Aph w.fL)
theorem A8d{w:Ds}{x:Int}:x∈Aun w ↔ (0≤x∧x<(w.fL.length:Int))∧Aph w.fL x=true:=by
 unfold Aun;rw[List.mem_filter,D2];refine and_congr ⟨?_,?_⟩ Iff.rfl
 ·rintro⟨i,hi,e⟩;rw[List.mem_range]at hi;omega
 ·intro h;exact⟨x.toNat,by rw[List.mem_range];omega,by omega⟩
section
variable {M:Type} (op:M->M->M) (e:M) (g:Int->M) (w:Ds)
def As0 (D:List Int->List Int->M×List Int)(s:M×List Int)(k:Int):M×List Int:=
 if k∈s.2 then s else(op s.1 (op (g k) (D (Aqf w k) (s.2++[k])).1),(D (Aqf w k) (s.2++[k])).2)
def A2z:Nat->List Int->List Int->M×List Int
 |0,ks,met=>ks.foldl (As0 op g w fun _ m=>(e,m)) (e,met)
 |u+1,ks,met=>ks.foldl (As0 op g w (A2z u)) (e,met)
def A4g:Nat->List Int->List Int->M×List Int
 |0=>fun _ m=>(e,m)
 |u+1=>A2z op e g w u
def A2l:List Int->M
 |[]=>e
 |x::l=>op (g x) (A2l l)
end
section
variable {M:Type} {op:M->M->M} {e:M} {g:Int->M} {w:Ds}
theorem A4h (u:Nat)(ks met:List Int):A2z op e g w u ks met=ks.foldl (As0 op g w (A4g op e g w u)) (e,met):=by cases u<;>rfl
def Blr (w:Ds)(D:List Int->List Int->M×List Int):Prop:= ∀ks met,(∀x∈ks,0≤x∧x<(w.fL.length:Int))->Axv w met->Axv w (D ks met).2∧met.length≤(D ks met).2.length
theorem A4z{D:List Int->List Int->M×List Int}(hD:Blr w D){s:M×List Int}(hs:Axv w s.2){k:Int}(hk:0≤k∧k<(w.fL.length:Int)):Axv w (As0 op g w D s k).2∧s.2.length≤(As0 op g w D s k).2.length:=by
 unfold As0
 by_cases h:k∈s.2
 ·rw[if_pos h];exact⟨hs,Z9 _⟩
 ·rw[if_neg h];obtain⟨a,b⟩:=hD (Aqf w k) (s.2++[k]) (A18 w k) (A5u hs hk h);rw[H8,List.length_singleton]at b;exact⟨a,Su (Nat.le_succ _) b⟩
theorem Bgk{D:List Int->List Int->M×List Int}(hD:Blr w D): ∀(ks:List Int) (s:M×List Int),(∀x∈ks,0≤x∧x<(w.fL.length:Int))->Axv w s.2->Axv w (ks.foldl (As0 op g w D) s).2∧s.2.length≤(ks.foldl (As0 op g w D) s).2.length:=by
 intro ks
 induction ks with
 |nil=>intro s _ h;exact⟨h,Z9 _⟩
 |cons k ks ih=>
  intro s hk hs;rw[List.foldl_cons];obtain⟨a,b⟩:=A4z (op:=op) (g:=g) hD hs (hk k List.mem_cons_self);obtain⟨c,d⟩:=ih _ (fun x hx=>hk x (Z56 _ hx)) a;exact⟨c,by omega⟩
theorem A2m: ∀u,Blr w (A4g op e g w u):=by
 intro u
 induction u with
 |zero=>intro ks met _ h;exact⟨h,Z9 _⟩
 |succ u ih=>
  intro ks met hk h
  show Axv w (A2z op e g w u ks met).2∧_≤(A2z op e g w u ks met).2.length;rw[A4h];exact Bgk ih ks (e,met) hk h
theorem Bls (ha: ∀a b c,op (op a b) c=op a (op b c))(hl: ∀a,op e a=a)(a b:List Int):A2l op e g (a++b)=op (A2l op e g a) (A2l op e g b):=by
 induction a with
 |nil=>exact(hl _).symm
 |cons x a ih=>show op (g x) (A2l op e g (a++b))=op (op (g x) (A2l op e g a)) _;rw[ih,ha]
theorem Bdb (ha: ∀a b c,op (op a b) c=op a (op b c))(hl: ∀a,op e a=a)(k:Int)(a b:List Int):A2l op e g ([k]++(a++b))=op (g k) (op (A2l op e g a) (A2l op e g b)):=by
 show op (g k) (A2l op e g (a++b))=_;rw[Bls ha hl]
theorem Blt (ha: ∀a b c,op (op a b) c=op a (op b c))(hl: ∀a,op e a=a)(hr: ∀a,op a e=a): ∀(u:Nat) (ks:List Int) (v:M) (met:List Int),(ks.flatMap (Awq w (u+1))).Nodup->(∀x∈ks.flatMap (Awq w (u+1)),x ∉ met)→
  ks.foldl (As0 op g w (A4g op e g w u)) (v,met)=(op v (A2l op e g (ks.flatMap (Awq w (u+1)))),met++ks.flatMap (Awq w (u+1))):=by
 intro u
 induction u with
 |zero=>
  intro ks
  induction ks with
  |nil=>intro v met _ _;simp[A2l,hr]
  |cons k ks ih=>
   intro v met hn hm
   have e1:Awq w 1 k=[k]:=by
    show k::(Aqf w k).flatMap (fun _=>[])=[k]
    have: ∀l:List Int,l.flatMap (fun _=>([]:List Int))=[]:=fun l=>by induction l with|nil=>rfl|cons a l ih=>rw[List.flatMap_cons,ih];rfl
    rw[this]
   rw[List.flatMap_cons,e1]at hn hm ⊢
   have hk:k ∉ met:=hm k (by simp)
   obtain⟨n1,n2⟩:=List.nodup_cons.1 hn;rw[List.foldl_cons]
   have es:As0 op g w (A4g op e g w 0) (v,met) k=(op v (g k),met++[k]):=by
    unfold As0 A4g;rw[if_neg hk];simp[hr]
   rw[es,ih _ _ n2 (fun x hx h=>by
    rcases F8.1 h with h|h
    ·exact hm x (Z56 _ hx) h
    ·rw[Mk]at h;exact n1 (h ▸ hx))]
   show(_,_)=(op v (op (g k) _),met++(k::_));rw[Kv,ha];rfl
 |succ u ihu=>
  intro ks
  induction ks with
  |nil=>intro v met _ _;simp[A2l,hr]
  |cons k ks ih=>
   intro v met hn hm
   have e1:Awq w (u+1+1) k=k::(Aqf w k).flatMap (Awq w (u+1)):=rfl;rw[List.flatMap_cons,e1]at hn hm ⊢
   have hk:k ∉ met:=hm k (by simp)
   obtain⟨n1,n2⟩:=List.nodup_cons.1 hn;obtain⟨m1,m2,m3⟩:=Adx.1 n2
   have hkids:A4g op e g w (u+1) (Aqf w k) (met++[k])=(A2l op e g ((Aqf w k).flatMap (Awq w (u+1))),met++[k]++(Aqf w k).flatMap (Awq w (u+1))):=by
    show A2z op e g w u (Aqf w k) (met++[k])=_;rw[A4h,ihu (Aqf w k) e (met++[k]) m1 (fun x hx h=>by
     rcases F8.1 h with h|h
     ·exact hm x (Z56 _ (F8.2 (.inl hx))) h
     ·rw[Mk]at h;exact n1 (F8.2 (.inl (h ▸ hx)))),hl]
   rw[List.foldl_cons]
   have es:As0 op g w (A4g op e g w (u+1)) (v,met) k=(op v (op (g k) (A2l op e g ((Aqf w k).flatMap (Awq w (u+1))))),met++[k]++(Aqf w k).flatMap (Awq w (u+1))):=by
    unfold As0;rw[if_neg hk,hkids]
   rw[es,ih _ _ m2 (fun x hx h=>by
    rcases F8.1 h with h|h
    ·rcases F8.1 h with h|h
     ·exact hm x (Z56 _ (F8.2 (.inr hx))) h
     ·rw[Mk]at h;exact n1 (F8.2 (.inr (h ▸ hx)))
    ·exact m3 x h hx)]
   have e2:k::(Aqf w k).flatMap (Awq w (u+1))++ks.flatMap (Awq w (u+1+1))=[k]++((Aqf w k).flatMap (Awq w (u+1))++ks.flatMap (Awq w (u+1+1))):=rfl;rw[e2];refine Prod.ext ?_ ?_
   ·simp only;rw[Bdb ha hl,ha,ha]
   ·show met++[k]++_++_=met++([k]++(_++_));simp only[Kv]
end
theorem Blu (w:Ds)(l:List Int):A2l (· ++ ·) [] (Alb w) l=l.flatMap (Alb w):=by
 induction l with
 |nil=>rfl
 |cons a l ih=>show Alb w a++_=_;rw[ih,List.flatMap_cons]
theorem Blv{M:Type}{op:M->M->M}{e:M}{g:Int->M}(ha: ∀a b c,op (op a b) c=op a (op b c))(hl: ∀a,op e a=a)(hr: ∀a,op a e=a){w:Ds}{t:Int->Lk}(I:Inv w)(A:AtT w.fL t)(F:Agn w.fL.length t (Aq4 w.fQ)){k:Int}(hk:Lv w.fL.length t k):
  A2z op e g w w.fL.length [k] []=(A2l op e g (Awq w w.fL.length k),Awq w w.fL.length k):=by
 obtain⟨r,W⟩:=F.wf;obtain⟨d,U⟩:=F.uw;rw[A4h,Blt ha hl hr w.fL.length [k] e [] ?_ (fun x _ h=>by cases h)]
 ·rw[List.flatMap_cons,List.flatMap_nil,List.append_nil,Blo I A F hk,hl,Yu]
 ·rw[List.flatMap_cons,List.flatMap_nil,List.append_nil,A02 I A _ _ hk.1];exact Bgf F.tree W U _ _ hk
theorem A51{w:Ds}(I:Inv w){k:Int}(h:Aph w.fL k=true):Aqz w.fL (Bo.mk k (gt w.fL k).C6)=(k,0):=by
 obtain⟨t,A,F⟩:=I.forest
 have al:=(Azh I A F).1 h
 have hk:=al.lv.1
 have hst:=((As8 A).1 al.lv).2
 have hg:=(I.live A al.lv).gen
 have hp:Ap6 w.fL (Bo.mk k (gt w.fL k).C6)=k:=by
  unfold Ap6;exact if_pos ⟨hk,hst,rfl⟩
 have ho:Atk (Bo.mk k (gt w.fL k).C6)=true:=by
  unfold Atk;simp only;rw[decide_eq_true (show k≥0 from hk.1),decide_eq_true (show(gt w.fL k).C6≥1 from hg.1)];rfl
 unfold Aqz;rw[ho,hp,decide_eq_false (by omega: ¬k<0),h]
 rfl
def A3m (l:List A8)(i:Nat):List Int:=((List.range i).map (fun(i:Nat)=>(i:Int))).filter (Aph l)
theorem Bbu (l:List A8)(i:Nat):A3m l (i+1)=A3m l i++(if Aph l (i:Int)=true then [(i:Int)]else []):=by
 unfold A3m;rw[List.range_succ,Fo,List.filter_append]
 congr 1
 show List.filter (Aph l) [(i:Int)]=_;rw[List.filter_cons,List.filter_nil]
theorem A66 (l:List A8)(i:Nat):(A3m l i).length≤i:=by
 unfold A3m;refine Su (List.length_filter_le _ _) ?_;simp
theorem Bod (w:Ds):Aun w=A3m w.fL w.fL.length:=rfl
section
variable {K:Nat} (hK:281474976710656≤K)
include hK
end
theorem Bbv{w:Ds}{t:Int->Lk}{k:Int}(P:Ays w t k)(x:Int):Aph (Ain w k).fL x=true ↔ Al w.fL.length t x∧ ¬Up w.fL.length t k x:=by
 have L:=A9y P
 have hF':Agn (Ain w k).fL.length (rem t k) (Aq4 (Ain w k).fQ):=by rw[L.len];exact L.fr
 rw[Azh L.inv L.tab hF',L.len,Bti P.al]
theorem Bgl{l:List A8}{t:Int->Lk}(A:AtT l t)(R:Rg l){d:Int->Nat}(U: ∀x,Lv l.length t x->Cu l.length t x->d ((t x).up - 1)<d x): ∀(n:Nat) (k:Int) (L:List Int),Al l.length t k->L.Nodup->(∀x∈L,(0≤x∧x<(l.length:Int))∧d k<d x)->l.length≤L.length+n-> ∀m,n≤m->Aes l m k=Aes l n k:=by
 intro n
 induction n with
 |zero=>
  intro k L h hn hi hl
  have hk:=h.lv
  have:=A2s (N:=(l.length:Int)) (l:=L++[k]) (Adx.2 ⟨hn,by simp,fun x h1 h2=>by rw[Mk]at h2;have:=(hi x h1).2;rw[h2]at this;omega⟩) (fun x hx=>by
   rcases F8.1 hx with h|h
   ·exact(hi x h).1
   ·rw[Mk.1 h];exact hk.1)
  rw[H8,List.length_singleton]at this;omega
 |succ n ih=>
  intro k L h hn hi hl m hm;obtain⟨m,rfl⟩: ∃j,m=j+1:=⟨m - 1,by omega⟩
  have hk:=h.lv
  have hu:=(R.rg k hk.1).1
  have hl8:=R.len;unfold Aes;rw[if_pos hk.1,if_pos hk.1,sb1 (by omega) (by omega)]
  congr 1
  cases h with
  |root _ h0=>
   rw[A k hk.1]at h0
   have h0:(gt l k).fUp=0:=h0
   have e: ∀n,Aes l n ((gt l k).fUp - 1)=[]:=by
    intro n;cases n with
    |zero=>rfl
    |succ n=>unfold Aes;rw[if_neg (by omega)]
   rw[e,e]
  |step _ hc hp=>
   rw[A k hk.1]at hp
   have hp:Al l.length t ((gt l k).fUp - 1):=hp
   have hlt:=U k hk hc;rw[A k hk.1]at hlt
   have hlt:d ((gt l k).fUp - 1)<d k:=hlt;exact ih ((gt l k).fUp - 1) (L++[k]) hp (Adx.2 ⟨hn,by simp,fun x h1 h2=>by rw[Mk]at h2;have:=(hi x h1).2;rw[h2]at this;omega⟩) (fun x hx=>by
    rcases F8.1 hx with h|h
    ·exact⟨(hi x h).1,by have:=(hi x h).2;omega⟩
    ·rw[Mk.1 h];exact⟨hk.1,hlt⟩) (by rw[H8,List.length_singleton];omega) m (by omega)
theorem Blw{l:List A8}: ∀(n:Nat) (k x:Int),x∈Aes l n k->x∈Aes l (n+1) k:=by
 intro n
 induction n with
 |zero=>intro k x h;cases h
 |succ n ih=>
  intro k x h;unfold Aes at h ⊢;split at h
  ·rename_i q;rw[if_pos q];rcases C9.1 h with h|h
   ·rw[h];exact List.mem_cons_self
   ·exact Z56 _ (ih _ _ h)
  ·cases h
theorem Bgm{l:List A8}{n m:Nat}(h:n≤m){k x:Int}(hx:x∈Aes l n k):x∈Aes l m k:=by
 induction h with
 |refl=>exact hx
 |step _ ih=>exact Blw _ _ _ ih
theorem Boe{w:Ds}(I:Inv w){t:Int->Lk}(A:AtT w.fL t)(F:Agn w.fL.length t (Aq4 w.fQ)){a b:Int}(hb:Al w.fL.length t b)(h:Up w.fL.length t a b):a∈Aes w.fL w.fL.length b:=by
 obtain⟨d,U⟩:=F.uw
 have key: ∃n,a∈Aes w.fL n b:=by
  clear hb
  induction h with
  |refl h=>exact⟨1,by unfold Aes;rw[if_pos h.1];exact List.mem_cons_self⟩
  | @step b h1 h2 _ ih=>
   obtain⟨n,hn⟩:=ih
   have hu:=(I.rg.rg b h1.1).1
   have hl8:=I.rg.len;refine⟨n+1,?_⟩;unfold Aes;rw[if_pos h1.1,sb1 (by omega) (by omega)]
   rw[A b h1.1]at hn;exact Z56 _ hn
 obtain⟨n,hn⟩:=key
 by_cases q:n≤w.fL.length
 ·exact Bgm q hn
 ·rwa[Bgl A I.rg U w.fL.length b [] hb List.nodup_nil (fun x h=>by cases h) (by simp) n (by omega)]at hn
section
variable {K:Nat} (hK:281474976710656≤K)
include hK
theorem A90{w:Ds}(hw:Aoc w)(h8:w.fL.length≤1000):Azk K w=some (Aun w):=by
 have hm:=Adv
 have key: ∀(f i:Nat),i≤w.fL.length->w.fL.length - i<f->Aql K f (A3m w.fL i) (w.fL.length:Int) (i:Int) w.fC.A6 w.fC.Kh w.fC.Fj w.fC.Hb w.fC.Fk w.fC.Ki w.fP.Sk w.fP.Yq w.fP.Sl w.fL w.fQ w.Afv=some (Aun w):=by
  intro f
  induction f with
  |zero=>intro i _ h;omega
  |succ f ih=>
   intro i hi hf
   have hl:=A66 w.fL i;rw[Aql];rcases Ez i w.fL.length with h|h
   ·rw[Agh h,cond_true,A44 hK hw.l];simp only[Z0]
    have hs:=Bbu w.fL i;cases e:Aph w.fL (i:Int)with
    |false=>
     rw[e,if_neg (by decide),List.append_nil]at hs
     simp only[cond_false];unfold Asj;rw[Agd (by omega),←hs]
     exact ih (i+1) h (by omega)
    |true=>
     rw[e,if_pos rfl]at hs;simp only[cond_true];rw[if_pos ⟨by simp;omega,by simp;omega⟩]
     unfold Asj;rw[Agd (by omega),←hs]
     exact ih (i+1) h (by omega)
   ·obtain rfl:i=w.fL.length:=by omega
    rw[Agl (Z9 _)];rfl
 exact key K 0 (Z21 _) (by omega)
omit hK in
theorem A24{l:List A8}(hl:l.length≤1000000){k:Int}(hk:0≤k∧k<(l.length:Int)):Atg K l k=some (Bo.mk k (gt l k).C6):=by
 unfold Atg;rw[Awl K (by omega),decide_eq_true hk]
 simp only[Z0,Bool.not_true,cond_false,if_pos hk]
theorem A4i{w:Ds}(I:Inv w)(hw:Aoc w)(hQ:w.fQ.length≤1000000000){h:Bo}{k:Int}(hf:Aqz w.fL h=(k,0))(hst:(gt w.fL k).Yq=1)(hk:0≤k∧k<(w.fL.length:Int)): ∃a,Auh K w h=some (Ain w k,a)∧a.Wq=0:=by
 unfold Auh Ass;rw[A3x hK w hw,I.ok,Z0,Bool.not_true,cond_false,Bfs hK w hw.l,Z0,A0m hK hw.l,Z0,hf];simp only[bne_self_eq_false,cond_false];rw[Bct hK w hw (by omega) hk hst]
 exact⟨_,rfl,rfl⟩
theorem A7m (l:List Int)(hl:l.length≤140737488355327):Av6 K l l=some true:=by
 unfold Av6;simp only[bne_self_eq_false,cond_false];exact Bst l (by omega) (Atx K l l) (fun n i=>rfl) K 0 (Z21 _) (by omega)
end
def K1:Nat:=1125899906842624
theorem Blx{l:List Int}{i:Nat}(h:2*i+1<l.length)(v:List Int)(hl:v.length=l.length)(hv: ∀j:Nat,j<l.length->gt v (j:Int)=if j<i∨l.length - i≤j then gt l ((l.length - 1 - j:Nat):Int)else gt l (j:Int)):
  ∀j:Nat,j<l.length->gt ((v.set i (gt v ((l.length - 1 - i:Nat):Int))).set (l.length - 1 - i) (gt v (i:Int))) (j:Int)=if j<i+1∨l.length - (i+1)≤j then gt l ((l.length - 1 - j:Nat):Int)else gt l (j:Int):=by
 intro j hj
 have g: ∀(x:List Int) (a b:Nat) (y:Int),a<x.length->b<x.length->gt (x.set a y) (b:Int)=if b=a then y else gt x (b:Int):=by
  intro x a b y ha hb;rw[Acm (by simpa using hb),Acm hb,List.getElem_set]
  by_cases e:a=b
  ·rw[if_pos e,if_pos e.symm]
  ·rw[if_neg e,if_neg (Ne.symm e)]
 rw[g _ _ _ _ (by simp;omega) (by simp;omega),g _ _ _ _ (by omega) (by omega),hv j hj,hv i (by omega),hv (l.length - 1 - i) (by omega)]
 by_cases h1:j=l.length - 1 - i
 ·rw[if_pos h1,if_neg (by omega),if_pos (by omega)]
  congr 2
  omega
 ·rw[if_neg h1]
  by_cases h2:j=i
  ·rw[if_pos h2,if_neg (by omega),if_pos (by omega),h2]
  ·rw[if_neg h2]
   by_cases h3:j<i∨l.length - i≤j
   ·rw[if_pos h3,if_pos (by omega)]
   ·rw[if_neg h3,if_neg (by omega)]
theorem Bdc{K:Nat}(hK:281474976710656≤K)(l:List Int)(hl:l.length≤1000000):Arq K l=some l.reverse:=by
 unfold Arq
 have e0:Ana .i64 (l.length:Int) 1=(l.length:Int) - 1:=sb1 (by omega) (by omega)
 rw[e0]
 have key: ∀(f i:Nat) (v:List Int),v.length=l.length->(∀j:Nat,j<l.length->gt v (j:Int)=if j<i∨l.length - i≤j then gt l ((l.length - 1 - j:Nat):Int)else gt l (j:Int))->2*i≤l.length+1->l.length - i<f->Ao3 K f v (i:Int) ((l.length:Int) - 1 - (i:Int))=some l.reverse:=by
  intro f
  induction f with
  |zero=>intro i v _ _ _ h;omega
  |succ f ih=>
   intro i v hv hg hi hf;rw[Ao3]
   by_cases q:2*i+1<l.length
   ·have e1:(l.length:Int) - 1 - (i:Int)=((l.length - 1 - i:Nat):Int):=by omega
    have e2:Ana .i64 ((l.length - 1 - i:Nat):Int) 1=(l.length:Int) - 1 - ((i+1:Nat):Int):=by rw[sb1 (by omega) (by omega)];omega
    rw[e1,decide_eq_true (by omega),cond_true,if_pos ⟨by omega,by omega⟩,if_pos ⟨by omega,by omega⟩,if_pos ⟨by omega,by omega⟩,if_pos ⟨by omega,by simp;omega⟩,e2,Agd (by omega),Int.toNat_natCast,Int.toNat_natCast]
    exact ih (i+1) _ (by simp[hv]) (Blx q v hv hg) (by omega) (by omega)
   ·rw[decide_eq_false (by omega),cond_false,Z7]
    refine List.ext_getElem (by simp[hv]) fun j h1 h2=> ?_
    have hj:j<l.length:=by omega
    have:=hg j hj;rw[Acm h1]at this;rw[this,List.getElem_reverse]
    by_cases h3:j<i∨l.length - i≤j
    ·rw[if_pos h3,Acm (by omega)]
    ·rw[if_neg h3,Acm hj]
     congr 1
     omega
 have:=key K 0 l rfl (fun j hj=>by rw[if_neg (by omega)]) (by omega) (by omega)
 rw[show(l.length:Int) - 1 - ((0:Nat):Int)=(l.length:Int) - 1 by omega]at this
 exact this
theorem A25{K:Nat}(hK:281474976710656≤K)(l:List Int)(hl:l.length≤1000000):Ati K l=some l.reverse:=by
 unfold Ati;rw[Asw K (by omega),Z0,Bdc hK l hl,Z0,if_pos (by simp)]
def Six (w:Ds):Prop:= ∀k,0≤k∧k<(w.fL.length:Int)->(gt w.fL k).F3.length≤6
theorem Inv.six{w:Ds}(I:Inv w):Six w:=fun k hk=>by
 by_cases h:(gt w.fL k).Yq=1
 ·exact(Amj.1 ⟨I.node k hk,h⟩).ntag
 ·rw[Axr (I.node k hk) h];exact Z21 _
def Btj (D:List Int->List Int->List Int×List Int)(w:Ds):Prop:= ∀ks met,(∀x∈ks,0≤x∧x<(w.fL.length:Int))->Axv w met->(D ks met).1.length+6*met.length≤6*(D ks met).2.length
theorem A8e{w:Ds}(S:Six w){D:List Int->List Int->List Int×List Int}(hD:Blr w D)(hT:Btj D w){s:List Int×List Int}(hs:Axv w s.2){k:Int}(hk:0≤k∧k<(w.fL.length:Int)):(As0 (· ++ ·) (Alb w) w D s k).1.length+6*s.2.length≤s.1.length+6*(As0 (· ++ ·) (Alb w) w D s k).2.length:=by
 unfold As0
 by_cases h:k∈s.2
 ·rw[if_pos h];exact Z9 _
 ·rw[if_neg h]
  have h1:=hT (Aqf w k) (s.2++[k]) (A18 w k) (A5u hs hk h)
  have h2:=S k hk;rw[H8,List.length_singleton]at h1
  show(s.1++(Alb w k++(D (Aqf w k) (s.2++[k])).1)).length+_≤_+6*(D (Aqf w k) (s.2++[k])).2.length;rw[H8,H8]
  have h3:(Alb w k).length≤6:=by unfold Alb;rw[List.length_reverse];exact h2
  omega
theorem Bgn{w:Ds}(S:Six w){D:List Int->List Int->List Int×List Int}(hD:Blr w D)(hT:Btj D w): ∀(ks:List Int) (s:List Int×List Int),(∀x∈ks,0≤x∧x<(w.fL.length:Int))->Axv w s.2->(ks.foldl (As0 (· ++ ·) (Alb w) w D) s).1.length+6*s.2.length≤s.1.length+6*(ks.foldl (As0 (· ++ ·) (Alb w) w D) s).2.length:=by
 intro ks
 induction ks with
 |nil=>intro s _ _;exact Z9 _
 |cons k ks ih=>
  intro s hk hs;rw[List.foldl_cons]
  have h1:=A8e S hD hT hs (hk k List.mem_cons_self);obtain⟨a,b⟩:=A4z (op:=(· ++ ·)) (g:=Alb w) hD hs (hk k List.mem_cons_self)
  have h2:=ih _ (fun x hx=>hk x (Z56 _ hx)) a;omega
theorem Bdd{w:Ds}(S:Six w): ∀u,Btj (A4g (· ++ ·) [] (Alb w) w u) w:=by
 intro u
 induction u with
 |zero=>intro ks met _ _;show([]:List Int).length+6*met.length≤6*met.length;simp
 |succ u ih=>
  intro ks met hk h
  show(A2z (· ++ ·) [] (Alb w) w u ks met).1.length+_≤6*(A2z (· ++ ·) [] (Alb w) w u ks met).2.length;rw[A4h]
  have:=Bgn S (A2m (op:=(· ++ ·)) (e:=[]) (g:=Alb w) u) ih ks ([],met) hk h;simpa using this
theorem Bgo (w:Ds)(hw:Aoc w)(S:Six w)(h8:w.fL.length≤1000): ∀(u K:Nat) (ks met:List Int),281474976710656+u<K->ks.length≤140737488355327->(∀x∈ks,0≤x∧x<(w.fL.length:Int))->Axv w met->w.fL.length≤met.length+u→
  Ak4 K w ks (mof w met)=some ((A2z (· ++ ·) [] (Alb w) w u ks met).1,mof w (A2z (· ++ ·) [] (Alb w) w u ks met).2):=by
 have hmx:=Adv;intro u
 induction u using Nat.strongRecOn with
 |_ u ih=>
  intro K ks met hKu hlen hin hm hu;obtain⟨J,rfl⟩: ∃J,K=J+1:=⟨K - 1,by omega⟩
  have hJ:281474976710656≤J:=by omega
  rw[Ak4,Axi,A4h]
  refine Bj4 (K:=J) hJ ks (by omega) (As0 (· ++ ·) (Alb w) w (A4g (· ++ ·) [] (Alb w) w u)) ([],met) (fun s=>Axv w s.2∧met.length≤s.2.length∧s.1.length≤6*s.2.length) ⟨hm,Z9 _,Z21 _⟩ (fun s x hx hs=> ?_) _ (fun n s i=>Amt J (Ak4 J) ks n (mof w s.2) s.1 (ks.length:Int) i w.fC.A6 w.fC.Kh w.fC.Fj w.fC.Hb w.fC.Fk w.fC.Ki w.fP.Sk w.fP.Yq w.fP.Sl w.fL w.fQ w.Afv) (fun n s i h hs=> ?_) (fun n=> ?_)
  ·obtain⟨a,b⟩:=A4z (op:=(·++ ·)) (g:=Alb w) (A2m (op:=(·++ ·)) (e:=[]) (g:=Alb w) (w:=w) u) hs.1 (hin x hx)
   have c:=A8e S (A2m (op:=(· ++ ·)) (e:=[]) (g:=Alb w) u) (Bdd S u) hs.1 (hin x hx);exact⟨a,by omega,by omega⟩
  ·have hk:=hin _ (List.getElem_mem h)
   have hml:=A5t hs.1
   have hs6:=S _ hk;simp only[Amt,Arx];rw[Agh h,cond_true,if_pos (Akh h),Acm h,A0b,if_pos hk,Bs2 hk,Agd (by omega)]
   unfold As0
   by_cases hc:ks[i]∈s.2
   ·rw[if_pos hc,List.contains_iff_mem.2 hc,cond_true]
   ·obtain⟨v,rfl,hv⟩:=Bv4 hs.1 hs.2.1 hu hk hc
    have hcf:s.2.contains ks[i]=false:=by rw[List.contains_eq_mem];exact decide_eq_false hc
    have hmo:=A5u hs.1 hk hc
    have:=ih v (by omega) J (Aqf w ks[i]) (s.2++[ks[i]]) (by omega) (Bfv hw _) (A18 w _) hmo hv
    have hkl:=Bdd S (v+1) (Aqf w ks[i]) (s.2++[ks[i]]) (A18 w _) hmo
    have hkm:=A5t (A2m (op:=(· ++ ·)) (e:=[]) (g:=Alb w) (w:=w) (v+1) (Aqf w ks[i]) (s.2++[ks[i]]) (A18 w _) hmo).1
    have hsl:=hs.2.2;rw[if_neg hc,hcf,cond_false,if_pos hk,if_pos hk,A25 hJ _ (by omega)]
    simp only[Z0];rw[if_pos ⟨by simp;omega,by simp;omega⟩,if_pos hk,Bny hk,A13 hJ hw.l]
    simp only[Z0];unfold Aqf at this;rw[this];simp only[Z0]
    have hkl:(A2z (· ++ ·) [] (Alb w) w v (Adw w.fL (gt w.fL ks[i]).Er) (s.2++[ks[i]])).1.length+_≤_:=hkl;rw[if_pos (by rw[A0b,A0b]),if_pos ⟨by simp;omega,by simp;omega⟩,Kv]
    rfl
  ·simp only[Amt];rw[Agl (Z9 _),cond_false]
theorem A2n{K:Nat}(hK:562949953421312≤K){w:Ds}(hw:Aoc w)(h8:w.fL.length≤1000){t:Int->Lk}(I:Inv w)(A:AtT w.fL t)(F:Agn w.fL.length t (Aq4 w.fQ)){k:Int}(hk:Lv w.fL.length t k):Aqc K w k=some (tOf w k)∧(tOf w k).length≤6*w.fL.length:=by
 have hL:=hw.l.2
 have hmk:Axv w (A2z (· ++ ·) [] (Alb w) w w.fL.length [k] []).2∧_:=A2m (op:=(· ++ ·)) (e:=[]) (g:=Alb w) (w:=w) (w.fL.length+1) [k] [] (fun x hx=>by rw[Mk.1 hx];exact hk.1) (A89 w)
 have hlen:(A2z (· ++ ·) [] (Alb w) w w.fL.length [k] []).1.length+6*([]:List Int).length≤6*(A2z (· ++ ·) [] (Alb w) w w.fL.length [k] []).2.length:=Bdd I.six (w.fL.length+1) [k] [] (fun x hx=>by rw[Mk.1 hx];exact hk.1) (A89 w)
 have hml:=A5t hmk.1
 have e:A2z (· ++ ·) [] (Alb w) w w.fL.length [k] []=(tOf w k,Awq w w.fL.length k):=by
  rw[Blv (fun a b c=>Kv a b c) (fun a=>Yu a) (fun a=>List.append_nil a) I A F hk,Blu];rfl
 rw[e]at hml hlen
 have hml:(Awq w w.fL.length k).length≤w.fL.length:=hml
 have hlen:(tOf w k).length+6*0≤6*(Awq w w.fL.length k).length:=hlen;refine⟨?_,by omega⟩
 unfold Aqc;rw[Awl K (Aen hw.l),decide_eq_true hk.1,Int.toNat_natCast,Bnz];simp only[Z0,Bool.not_true,cond_false];rw[if_pos ⟨by omega,by omega,by omega,by omega⟩,Bgo w hw I.six h8 w.fL.length K [k] [] (by omega) (by simp) (fun x hx=>by rw[Mk.1 hx];exact hk.1) (A89 w) (by simp)]
 simp only[Z0];rw[if_pos (by rw[A0b,A0b]),e]
theorem A2o{α β:Type}(f:α->List β)(l:List α){i:Nat}(h:i<l.length):(l.take (i+1)).flatMap f=(l.take i).flatMap f++f l[i]:=by
 rw[←List.take_append_getElem h,List.flatMap_append];simp
theorem A2y{α:Type}(f:α->List Int)(m:Nat): ∀l:List α,(∀x∈l,(f x).length≤m)->(l.flatMap f).length≤m*l.length:=by
 intro l
 induction l with
 |nil=>intro _;simp
 |cons a l ih=>
  intro h
  have h1:=h a List.mem_cons_self
  have h2:=ih fun x hx=>h x (Z56 _ hx);rw[List.flatMap_cons,H8,Ws,Nat.mul_succ];omega
theorem A91{K:Nat}(hK:562949953421312≤K){w:Ds}(hw:Aoc w)(h8:w.fL.length≤8){t:Int->Lk}(I:Inv w)(A:AtT w.fL t)(F:Agn w.fL.length t (Aq4 w.fQ)){x:Av}(hx:x∈w.fQ):(pAt w x).length≤1000∧(Adw w.fL x.Er).length≤8∧ ∀c∈Adw w.fL x.Er,Aqc K w c=some (tOf w c)∧(tOf w c).length≤48:=by
 have hf:=I.first hx
 have R:=Awc.1 (I.wrec x hx).1
 have hk: ∀k∈Adw w.fL x.Er,Aqc K w k=some (tOf w k)∧(tOf w k).length≤48:=fun k hk=>by
  rw[A2b A I.rg hf.1 (by omega)]at hk
  obtain⟨a,b⟩:=A2n hK hw (by omega) I A F (F.kid.or (Inv.qs hx) hk).lv
  exact⟨a,by omega⟩
 have hn:(Adw w.fL x.Er).length≤8:=by
  have:=Aze (l:=w.fL) w.fL.length (Ana .i64 x.Er 1);unfold Adw;omega
 refine⟨?_,hn,hk⟩
 have h1:=A2y (tOf w) 48 (Adw w.fL x.Er) fun c hc=>(hk c hc).2;unfold pAt;rw[H8,List.length_reverse]
 have:=R.ntag;omega
theorem A4j{K:Nat}(hK:562949953421312≤K){w:Ds}(hw:Aoc w)(h8:w.fL.length≤8)(hQ:w.fQ.length≤1000000){t:Int->Lk}(I:Inv w)(A:AtT w.fL t)(F:Agn w.fL.length t (Aq4 w.fQ)):Aui K w=some (A9z w)∧(A9z w).length≤1000*w.fQ.length:=by
 have hm:=Adv
 have hK2:281474976710656≤K:=by omega
 refine⟨?_,A2y (pAt w) 1000 w.fQ fun x hx=>(A91 hK hw h8 I A F hx).1⟩;unfold Aui
 have key: ∀(f i:Nat),i≤w.fQ.length->w.fQ.length - i<f->Aqo K f ((w.fQ.take i).flatMap (pAt w)) w.fQ (w.fQ.length:Int) (i:Int) w.fC.A6 w.fC.Kh w.fC.Fj w.fC.Hb w.fC.Fk w.fC.Ki w.fP.Sk w.fP.Yq w.fP.Sl w.fL w.fQ w.Afv=some (A9z w):=by
  intro f
  induction f with
  |zero=>intro i _ h;omega
  |succ f ih=>
   intro i hi hf
   have hl:((w.fQ.take i).flatMap (pAt w)).length≤1000*i:=by
    have:=A2y (pAt w) 1000 (w.fQ.take i) fun x hx=>(A91 hK hw h8 I A F (Yv hx)).1;rw[List.length_take]at this
    have h2:1000*min i w.fQ.length≤1000*i:=Nat.mul_le_mul_left _ (Nat.min_le_left _ _);omega
   rw[Aqo];rcases Ez i w.fQ.length with h|h
   ·have hx:w.fQ[i]∈w.fQ:=List.getElem_mem h;obtain⟨p1,p2,p3⟩:=A91 hK hw h8 I A F hx
    have R:=Awc.1 (I.wrec _ hx).1
    have hnt:=R.ntag;rw[Agh h,cond_true,if_pos (Akh h),Acm h,A25 hK2 _ (by omega),Z0,if_pos ⟨by simp only[H8,List.length_reverse];omega,by simp only[H8,List.length_reverse];omega⟩,A13 hK2 hw.l,Z0]
    have inner: ∀(f2 j:Nat),j≤(Adw w.fL w.fQ[i].Er).length->(Adw w.fL w.fQ[i].Er).length - j<f2->Ast K w.fQ (w.fQ.length:Int) (i:Int) w.fC.A6 w.fC.Kh w.fC.Fj w.fC.Hb w.fC.Fk w.fC.Ki w.fP.Sk w.fP.Yq w.fP.Sl w.fL w.fQ w.Afv (Adw w.fL w.fQ[i].Er) (Aqo K f) f2 ((w.fQ.take i).flatMap (pAt w)++w.fQ[i].F3.reverse++((Adw w.fL w.fQ[i].Er).take j).flatMap (tOf w)) ((Adw w.fL w.fQ[i].Er).length:Int) (j:Int)=some (A9z w):=by
     intro f2
     induction f2 with
     |zero=>intro j _ h;omega
     |succ f2 ih2=>
      intro j hj hf2
      have hl2:(((Adw w.fL w.fQ[i].Er).take j).flatMap (tOf w)).length≤48*8:=by
       have:=A2y (tOf w) 48 ((Adw w.fL w.fQ[i].Er).take j) fun c hc=>(p3 c (Yv hc)).2;rw[List.length_take]at this
       have h2:48*min j (Adw w.fL w.fQ[i].Er).length≤48*8:=Nat.mul_le_mul_left _ (by omega)
       omega
      rw[Ast];rcases Ez j (Adw w.fL w.fQ[i].Er).length with hj2|hj2
      ·obtain⟨t1,t2⟩:=p3 _ (List.getElem_mem hj2)
       rw[Agh hj2,cond_true,if_pos (Akh hj2),Acm hj2,show Ds.mk (D4.mk w.fC.A6 w.fC.Kh w.fC.Fj w.fC.Hb w.fC.Fk w.fC.Ki) (Dh.mk w.fP.Sk w.fP.Yq w.fP.Sl) w.fL w.fQ w.Afv=w from rfl,t1,Z0,if_pos ⟨by simp only[H8,List.length_reverse];omega,by simp only[H8,List.length_reverse];omega⟩,Agd (by omega),Kv,←A2o (tOf w) _ hj2]
       exact ih2 (j+1) hj2 (by omega)
      ·obtain rfl:j=(Adw w.fL w.fQ[i].Er).length:=by omega
       rw[Agl (Z9 _),cond_false,List.take_length,Agd (by omega),Kv]
       have:(w.fQ.take i).flatMap (pAt w)++(w.fQ[i].F3.reverse++(Adw w.fL w.fQ[i].Er).flatMap (tOf w))=(w.fQ.take (i+1)).flatMap (pAt w):=by rw[A2o (pAt w) _ h];rfl
       rw[this];exact ih (i+1) h (by omega)
    have:=inner K 0 (Z21 _) (by omega)
    rw[List.take_zero,List.flatMap_nil,List.append_nil]at this;exact this
   ·obtain rfl:i=w.fQ.length:=by omega
    rw[Agl (Z9 _),cond_false,List.take_length];rfl
 have:=key K 0 (Z21 _) (by omega)
 rw[List.take_zero,List.flatMap_nil]at this;exact this
theorem A8f{K:Nat}(hK:281474976710656≤K){w:Ds}(hw:Aoc w)(h8:w.fL.length≤8){t:Int->Lk}(I:Inv w)(A:AtT w.fL t)(F:Agn w.fL.length t (Aq4 w.fQ)){x y:Int}(hx:Aph w.fL x=true)(hy:Aph w.fL y=true): ∃b,Avc K w (Bo.mk x (gt w.fL x).C6) (Bo.mk y (gt w.fL y).C6)=some b∧(b=false-> ¬Up w.fL.length t y x):=by
 unfold Avc;rw[A0m hK hw.l,Z0,A0m hK hw.l,Z0,A51 I hx,A51 I hy];simp only[beq_self_eq_true,cond_true]
 have hl:=A3u (l:=w.fL) w.fL.length x;rw[A1d hK hw.l,Z0,Az6 hK _ _ (by omega),Z0]
 refine⟨_,rfl,fun h u=> ?_⟩
 have:=Boe I A F ((Azh I A F).1 hx) u;rw[List.contains_eq_mem,decide_eq_false_iff_not]at h;exact h this
end Go.Proofs.YtplfjgdlpbdojaaGreat
