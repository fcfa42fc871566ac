/- The plain law for FnDebts; no condition. -/
import Derived.Test.YtgcnddnmhllahaaGreatJFnDebtsPa
set_option linter.all false
namespace Go.Proofs.YtgcnddnmhllahaaGreat
open Go.Eng Go.ChangeShapes Go.WideShapes Go.ChangeAt Go.RowKit
def Xj (w:H4)(x:G9):Int:=if w.C.k<x.z+w.C.m then w.C.k else x.z+w.C.m
def A73 (w:H4)(x:G9):List Int:=Yi w.Q.g (gt x.L 0*w.C.k+x.z).toNat (Xj w x - x.z).toNat
def mn (w:H4)(x:G9):Pc:=Pc.mk (A73 w x) (if Xj w x<w.C.k then w.Q.c else w.Q.c.set (gt x.L 0).toNat 0) w.Q.h
def bo (w:H4)(x:G9):G9:=if Xj w x<w.C.k then G9.mk x.d x.i x.j x.L (Xj w x)else G9.mk x.d x.i x.j (x.L.drop 1) 0
def qk (w:H4)(x:G9)(qs:List G9):H4:=H4.mk w.C (mn w x) w.o (bo w x::qs) w.q
structure Bew (w:H4)(x:G9):Prop where
 rc:qj w.C x
 k:0<=gt x.L 0/\gt x.L 0<w.C.L
 st:gt w.Q.c (gt x.L 0)=2
 at0:0<=gt x.L 0*w.C.k
 at1:gt x.L 0*w.C.k+w.C.k<=(w.Q.g.length:Int)
 len:w.Q.g.length<=192
 to:x.z<Xj w x/\Xj w x<=w.C.k
 zero:Wd ((w.Q.g.drop (gt x.L 0*w.C.k).toNat).take x.z.toNat)=true
theorem Ak3{c:Sv}{p:Pc}(P:Zw c p):p.g.length<=192:=by
 obtain⟨b1,b2,_⟩:=Gy P.conf;have hm:=Zp (a:=c.L) (b:=c.k) (m:=12) (n:=16) (by omega) b1.2 (by omega) b2.2;have:=P.mem;omega
theorem A30{w:H4}(I:Bd w){x:G9}{qs:List G9}(hq:w.p=x::qs)(hc:0<x.L.length):Bew w x:=by
 have R:=Zm.1 (di I hq).1;have P:=W6.1 I.pool;have hx:x∈w.p:=by grind
 have hm:gt x.L 0∈x.L:=Xe (i:=0) hc;have h1:=(I.chi _).1 (A7u hx hm);obtain⟨_,_,e3,e4⟩:=ld I.conf P.mem h1.1.1 h1.1.2;have b0:=Gy I.conf;have hd:=R.done;refine⟨R,h1.1,h1.2,e3,e4,Ak3 P,?_,?_⟩
 ·grind [Xj]
 ·have:=(di I hq).2
  grind [Yk]
section
variable {K:Nat} (hK:2^48<=K)
include hK
theorem Bex{w:H4}(hw:X1 w.Q)(hp:Xh w.C w.Q=true){x:G9}(X:Bew w x):rn K w.C w.Q (gt x.L 0) x.z=some (mn w x,!decide (Xj w x<w.C.k)):=by
 have b0:=Gy X.rc.conf;have P:=W6.1 hp;obtain⟨e1,e2,e3,e4⟩:=ld X.rc.conf P.mem X.k.1 X.k.2;have hd:=X.rc.done;have ht:=X.to;have hl:=X.len;have hk:=X.k;have es:A4 x.z w.C.m=x.z+w.C.m:=by grind [A4,Fp,Vs]
 have el:rm K (x.z+w.C.m) w.C.k=some (Xj w x):=by
  unfold rm Xj
  grind
 have ea:A4 (gt x.L 0*w.C.k) x.z=gt x.L 0*w.C.k+x.z:=by grind [A4,Fp,Vs]
 have en:Ap (Xj w x) x.z=Xj w x - x.z:=by grind [Ap,Aly,Vs]
 unfold rn;rw[Ae5 K hw,A6s hK,hp,Xl,ia hK X.rc.conf,V1.2 ⟨by omega,by omega⟩,Xl,Aeg X.rc.conf,V1.2 hd,es,el,e1,ea];simp only[Z0,cond_true,Bool.not_true,cond_false];rw[en,Beu hK (by omega) ⟨by omega,by omega⟩ (by omega) (by omega)];simp only[Z0,e2];rw[if_pos ⟨hk.1,by rw[P.st];exact hk.2⟩,X.st];simp only[bne_self_eq_false,cond_false];unfold mn;by_cases q:Xj w x<w.C.k
 ·rw[decide_eq_true q,if_pos q];rfl
 ·rw[decide_eq_false q,if_neg q];simp only[cond_false,Bool.not_false];rw[if_pos ⟨by omega,by omega,by show _<=((Yi _ _ _).length:Int);grind [aq]⟩];have hz:Wd (((Yi w.Q.g (gt x.L 0*w.C.k+x.z).toNat (Xj w x - x.z).toNat).drop (gt x.L 0*w.C.k).toNat).take (gt x.L 0*w.C.k+w.C.k - gt x.L 0*w.C.k).toNat)=true:=by
   rw[show(gt x.L 0*w.C.k+x.z).toNat=(gt x.L 0*w.C.k).toNat+x.z.toNat by omega];exact Bet X.zero (by omega)
  rw[Abf hK _ (by grind),hz];simp only[Z0,Bool.not_true,cond_false];rw[if_pos ⟨hk.1,by rw[P.st];exact hk.2⟩];rfl
theorem Bvv{w:H4}(I:Bd w)(hw:X1 w.Q){x:G9}{qs:List G9}(hq:w.p=x::qs)(hc:0<x.L.length):wu K w=some (qk w x qs):=by
 have hm:=V8;have X:=A30 I hq hc;have hlen:=Y9 X.rc.conf X.rc.dist;have b0:=Gy X.rc.conf;have hd:=X.rc.done;unfold wu;rw[hq,jd,if_pos ⟨by omega,by simp⟩,if_pos (by omega),Bex hK hw I.pool X,Z0];simp only;unfold qk bo;by_cases q:Xj w x<w.C.k
 ·rw[decide_eq_true q,if_pos q];have es:A4 x.z w.C.m=Xj w x:=by
   have ht:=X.to;unfold Xj at q ⊢;split at q
   ·omega
   ·rename_i r;rw[if_neg r];grind [A4,Fp,Vs]
  grind
 grind
end
theorem ul{c:Sv}{l:List Int}:Xs c l=true ↔ l.Nodup/\ ∀x∈l,0<=x/\x<c.L:=by
 constructor
 ·intro h;exact⟨pz h,bh h⟩
 ·rintro⟨h1,h2⟩;unfold Xs;rw[Z1];intro i hi;rw[List.mem_range]at hi;rw[Z4,V1,K1 hi]
  have:=h2 _ (List.getElem_mem hi);refine⟨by omega,?_⟩;simp_all[A69]
theorem Bvw{c:Sv}{l:List Int}{n:Nat}(h:Xs c l=true):Xs c (l.drop n)=true:=by
 rw[ul]at h ⊢
 grind
theorem Bvx{w:H4}{x:G9}(h: ∀y∈w.Q.g,0<=y/\y<=255): ∀y∈A73 w x,0<=y/\y<=255:=by
 refine ml fun k hk=> ?_;unfold A73 at hk ⊢;rw[aq]at hk;obtain⟨j,rfl⟩: ∃j:Nat,k=j:=⟨k.toNat,by omega⟩
 grind [je,Xe]
theorem Bvy{w:H4}(I:Bd w){x:G9}{qs:List G9}(hq:w.p=x::qs)(hc:0<x.L.length):Bd (qk w x qs):=by
 have X:=A30 I hq hc;have P:=W6.1 I.pool;have hk:=X.k;have hd:=X.rc.done;have ht:=X.to;have hxq:x∈w.p:=by grind
 have hst: ∀c,0<=c/\c<w.C.L->gt (mn w x).c c=if c=gt x.L 0/\ ¬Xj w x<w.C.k then 0 else gt w.Q.c c:=by
  intro c h;show gt (if Xj w x<w.C.k then w.Q.c else w.Q.c.set (gt x.L 0).toNat 0) c=_;by_cases q:Xj w x<w.C.k
  ·grind
  ·rw[if_neg q,Ak1 hk.1 (by rw[P.st];exact h)];omega
 have hz: ∀b m,Wd ((w.Q.g.drop b).take m)=true->Wd (((mn w x).g.drop b).take m)=true:=fun b m h=>Bvs h
 have hN:(gt x.L 0*w.C.k+x.z).toNat=(gt x.L 0*w.C.k).toNat+x.z.toNat:=by have:=X.at0;omega
 have hall: ∀m:Nat,m<=(Xj w x).toNat->Wd (((mn w x).g.drop (gt x.L 0*w.C.k).toNat).take m)=true:=by
  intro m h;show Wd (((Yi _ _ _).drop _).take m)=true;rw[hN];exact Bet X.zero (by omega)
 have hlen:(mn w x).g.length=w.Q.g.length:=aq _ _ _;have hcons:x.L=gt x.L 0::x.L.drop 1:=by
  cases h:x.L with
  |nil=>grind
  |cons a l=>rfl
 have hnd:=pz X.rc.dist;have hch:Vy w.p=x.L++Vy qs:=by rw[hq];rfl
 have hn:=I.chn;rw[hch]at hn;have hchi:=I.chi;rw[hch]at hchi;unfold qk;refine A72 I (mn w x) _ _ ⟨P.conf,by rw[hlen];exact P.mem,?_,P.own,fun c h=> ?_⟩ (fun c h=>⟨?_,rfl⟩) (fun k h=> ?_) ?_ ?_ (fun y hy=> ?_) ?_ (fun c=> ?_) I.log
 ·show((if Xj w x<w.C.k then w.Q.c else w.Q.c.set (gt x.L 0).toNat 0).length:Int)=_
  grind [Zw.st]
 ·obtain⟨p1,p2,p3,p4⟩:=P.one c h;rw[hst c h];show _/\(_->0<=gt w.Q.h c/\_)/\(_->gt w.Q.h c= -1)/\_;by_cases q:c=gt x.L 0/\ ¬Xj w x<w.C.k
  ·rw[if_pos q];refine⟨by omega,fun f=>by omega,fun _=>p3 (by grind),fun _=> ?_⟩;unfold Yf
   grind
  ·rw[if_neg q];exact⟨p1,p2,p3,fun f=>hz _ _ (p4 f)⟩
 ·grind
 ·have:=(I.thing k h).2.2;unfold X7 at this ⊢
  grind
 ·grind [bo,Wh]
 ·grind [bo,Vx]
 ·rcases Ax.1 hy with e|e
  ·subst e;unfold bo;by_cases q:Xj w x<w.C.k
   ·rw[if_pos q];refine⟨Zm.2 ⟨X.rc.conf,X.rc.slot,X.rc.first,X.rc.ntag,X.rc.tags,X.rc.dist,⟨by grind,by grind⟩,fun f=> ?_⟩,?_⟩
    ·grind
    ·unfold Yk
     grind
   ·rw[if_neg q];refine⟨Zm.2 ⟨X.rc.conf,X.rc.slot,X.rc.first,X.rc.ntag,X.rc.tags,?_,⟨Int.le_refl _,by grind⟩,fun _=>rfl⟩,?_⟩
    ·exact Bvw X.rc.dist
    ·unfold Yk;rw[Bool.or_eq_true];exact .inr rfl
  ·obtain⟨a,b⟩:=I.wrec y (by grind);refine⟨a,?_⟩;unfold Yk at b ⊢
   grind
 ·show((bo w x).L++Vy qs).Nodup;unfold bo
  grind
 ·show c∈(bo w x).L++Vy qs ↔ _;rw[hcons,Gh]at hn;have hni:=(List.nodup_cons.1 hn).1;have hci:=hchi c;rw[hcons,Gh,Ax]at hci;unfold bo
  grind
def um (g n:Fy)(k x:Int):Fy:=Zd n (if g.v=0/\x+1=g.s/\n.i=k+1 then g.u else n.i) (if x+1=g.v then g.u else n.u) (if x+1=g.u then g.v else n.v)
theorem A74{l l':List Fy}{t:Int->Lk}(A:V6 l t){k:Int}(hk:0<=k/\k<(l.length:Int))(hN:l'.length=l.length)(hg: ∀x,0<=x/\x<(l.length:Int)->x≠k->gt l' x=um (gt l k) (gt l x) k x){gn:Int}(hb:gt l' k=Wg 2 gn):V6 l' (rem t k):=by
 intro x hx;rw[hN]at hx;by_cases e:x=k
 ·subst e;rw[iv,hb];rfl
 ·rw[V5 e,hg x hx e,A x hx,A k hk];rfl
theorem Bvz{w:H4}(I:Bd w){t:Int->Lk}(A:V6 w.o t)(F:V3 w.o.length t (Wh w.p)){k:Int}(hl:Lv w.o.length t k)(l':List Fy)(q':List G9)(hN:l'.length=w.o.length)
  (hg: ∀x,0<=x/\x<(w.o.length:Int)->x≠k->gt l' x=um (gt w.o k) (gt w.o x) k x) (hb:gt l' k=Wg 2 (gt w.o k).a)
  (F':V3 w.o.length (rem t k) (Wh q')) (hr: ∀x∈q',X2 w.C x=true/\Yk w x=true)
  (hcn:(Vy q').Nodup) (hci: ∀c,c∈Vy q' ↔ c∈Vy w.p++(gt w.o k).L) (hsn:(Vx q').Nodup) (hsi: ∀s,s∈Vx q' ↔ s∈Vx w.p\/s=k):
  Bd (H4.mk w.C (V9 w.Q (gt w.o k).L) l' q' w.q):=by
 have hk:=hl.1;have P:=I.live A hl;obtain⟨L1,L2,L3⟩:=mi I hk;refine⟨W6.2 L1,by simp_all[Bd.len],fun x hx=> ?_,fun x hx c=> ?_,fun x hx=> ?_,⟨rem t k,A74 A hk hN hg hb,?_⟩,fun x hx=> ?_,hcn,fun c=> ?_,hsn,fun s=> ?_,I.log⟩
 ·have hx:0<=x/\x<(l'.length:Int):=hx;rw[hN]at hx;show Wv w.C (gt l' x)=true;by_cases e:x=k
  ·grind [A3v,Bd.conf,W2.gen]
  ·rw[hg x hx e];obtain⟨a1,a2,a3,a4⟩:=A3w (I.node k hk);by_cases hs:(gt w.o x).c=1
   ·have X:=Xm.1 ⟨I.node x hx,hs⟩;refine(Xm.2 (A7v X ?_ ?_ ?_)).1
    ·split
     ·exact a3
     ·exact X.first
    ·split
     ·exact a3
     ·exact X.next
    ·split
     ·exact a4
     ·exact X.prev
   ·have X:=dh (I.node x hx) hs;have B:=(A7n F.tree hl).bare x hx.1 hx.2 (by rw[V5 e,A x hx];grind [Yp]);rw[V5 e,A x hx,A k hk]at B;obtain⟨_,B2,B3,B4⟩:=B;have q1:(if(gt w.o k).v=0/\x+1=(gt w.o k).s/\(gt w.o x).i=k+1 then(gt w.o k).u else(gt w.o x).i)=0:=B2;have q2:(if x+1=(gt w.o k).v then(gt w.o k).u else(gt w.o x).u)=0:=B3;have q3:(if x+1=(gt w.o k).u then(gt w.o k).v else(gt w.o x).v)=0:=B4;have this:Zd (gt w.o x) 0 0 0=gt w.o x:=by rw[X];rfl
    grind [um,Bd.node]
 ·have hx:0<=x/\x<(l'.length:Int):=hx;rw[hN]at hx;show c∈(gt l' x).L ↔ (0<=c/\c<w.C.L)/\gt (V9 w.Q (gt w.o k).L).c c=1/\gt (V9 w.Q (gt w.o k).L).h c=x;by_cases e:x=k
  ·rw[e,hb];constructor
   ·intro q;cases q
   ·rintro⟨a,b,d⟩;rw[(L3 c a).1]at b;rw[(L3 c a).2]at d;split at b
    all_goals simp_all[Bd.own]
  ·rw[hg x hx e];show c∈(gt w.o x).L ↔ _;rw[I.own x hx c];constructor
   ·rintro⟨a,b,d⟩
    have q:c ∉ (gt w.o k).L:=fun q=>e (by have:=((I.own k hk c).1 q).2.2;omega)
    grind
   grind
 ·have hx:0<=x/\x<(l'.length:Int):=hx;rw[hN]at hx;show(gt l' x).y.all (Xa w.C (gt l' x).L)=true/\Y8 (gt l' x).y=true/\X7 w.C (V9 w.Q (gt w.o k).L).g (gt l' x)=true;by_cases e:x=k
  ·rw[e,hb];exact⟨rfl,rfl,rfl⟩
  ·rw[hg x hx e];obtain⟨t1,t2,t3⟩:=I.thing x hx;refine⟨t1,t2,?_⟩;rw[L2];exact t3
 ·grind
 ·obtain⟨a,b⟩:=hr x hx;refine⟨a,?_⟩;unfold Yk at b ⊢
  grind
 ·grind [A7z]
 ·show s∈Vx q' ↔ (0<=s/\s<(l'.length:Int))/\(gt l' s).c=2;rw[hsi s,hN,I.sli];constructor
  ·rintro(⟨a,b⟩|a)
   ·refine⟨a,?_⟩;have e:s≠k:=fun e=>by grind [W2.st]
    rw[hg s a e];exact b
   ·rw[a,hb];exact⟨hk,rfl⟩
  ·rintro⟨a,b⟩
   by_cases e:s=k
   ·omega
   ·rw[hg s a e]at b;exact .inl ⟨a,b⟩
def Xn (l:List Fy)(g:Int):List Fy:=((bif Wp l (gt l g).u then l.set ((gt l g).u - 1).toNat (A3g (gt l ((gt l g).u - 1)) 0)else l).set g.toNat (Wg 2 (gt l g).a))
def au (l:List Fy)(x:G9):G9:=G9.mk x.d (gt l (x.i - 1)).u x.j x.L x.z
def Xo (w:H4)(x:G9)(qs:List G9):H4:=
 H4.mk w.C (V9 w.Q (gt w.o (x.i - 1)).L) (Xn w.o (x.i - 1)) (Wc (gt w.o (x.i - 1)) x.i::au w.o x::qs) w.q
theorem A31 (l:List Fy)(g:Int):(Xn l g).length=l.length:=by
 unfold Xn;grind
theorem Bey{l:List Fy}(R:Rg l){g x:Int}(hg:0<=g/\g<(l.length:Int))(hx:0<=x/\x<(l.length:Int))(hne:x≠g)(hp:(gt l g).v=0)(hf: ¬(x+1=(gt l g).s/\(gt l x).i=g+1)):gt (Xn l g) x=um (gt l g) (gt l x) g x:=by
 obtain⟨r1,r2,r3,r4⟩:=R.rg g hg;have hl:=R.len;unfold Xn um;rw[Ak0 r3.1 r3.2 hl,hp,if_neg (fun q=>hf q.2),if_neg (by omega: ¬x+1=0)];by_cases h:(gt l g).u=0
 ·rw[h];simp only[beq_self_eq_true,Bool.not_true,cond_false];rw[Y6 hg hx,if_neg hne,if_neg (by omega)];rfl
 ·rw[Wn h];simp only[Bool.not_false,cond_true];rw[Y6 (by grind) (by grind),if_neg hne,Y6 (by omega) hx];by_cases e:x=(gt l g).u - 1
  ·rw[if_pos e,if_pos (by omega),<-e];rfl
  ·rw[if_neg e,if_neg (by omega)];rfl
theorem Bez{l:List Fy}{g:Int}(hg:0<=g/\g<(l.length:Int)):gt (Xn l g) g=Wg 2 (gt l g).a:=by
 unfold Xn;rw[il]
 grind
structure Be0 (w:H4)(t:Int->Lk)(x:G9)(qs:List G9):Prop where
 rc:qj w.C x
 lv:Lv w.o.length t (x.i - 1)
 or:Oo w.o.length t (x.i - 1)
 pv:(gt w.o (x.i - 1)).v=0
 fr:V3 w.o.length (rem t (x.i - 1)) (Wh (Wc (gt w.o (x.i - 1)) x.i::au w.o x::qs))
 nf: ∀y,0<=y/\y<(w.o.length:Int)-> ¬(y+1=(gt w.o (x.i - 1)).s/\(gt w.o y).i=x.i - 1+1)
theorem Ak4{w:H4}(I:Bd w){t:Int->Lk}(A:V6 w.o t)(F:V3 w.o.length t (Wh w.p)){x:G9}{qs:List G9}(hq:w.p=x::qs)(hf:x.i≠0):Be0 w t x qs:=by
 have R:=Zm.1 (di I hq).1;have hx:x∈w.p:=by grind
 have hF:=R.first;have e:x.i - 1+1=x.i:=by omega
 have F1:V3 w.o.length t ((x.d,x.i - 1+1)::Wh qs):=by rw[e];rw[hq]at F;exact F
 obtain⟨h1,h2,h3⟩:=Bva F1 (by omega);have hin:=h1.1;have hor:Oo w.o.length t (x.i - 1):=F.kid.or (Bd.qs hx) (Akv hin);have hpv:(gt w.o (x.i - 1)).v=0:=by rw[A _ hin]at h2;exact h2
 refine⟨R,h1,hor,hpv,?_,?_⟩
 ·rw[A _ hin,e]at h3;exact h3
 ·rintro y hy ⟨a,b⟩
  have hup:(t (x.i - 1)).up=y+1:=by rw[A _ hin,a];rfl
  have hfi:(t y).fi=x.i:=by rw[A _ hy,<-e,<-b];rfl
  cases hlv:(t y).lv with
  |false=>
   have:=(F.tree.bare y hy.1 hy.2 hlv).2.1;omega
  |true=>
   have hY:Lv w.o.length t y:=⟨hy,hlv⟩;have:=(F.tree.link y hY).first (by omega);rw[hfi]at this;refine hor.2.2 ⟨?_,?_⟩
   all_goals grind
theorem Be1{w:H4}(I:Bd w){x:G9}{qs:List G9}(hq:w.p=x::qs)(hf:x.i≠0):Bd (Xo w x qs):=by
 obtain⟨t,A,F⟩:=I.forest;have X:=Ak4 I A F hq hf;have hk:=X.lv.1;have hF:=X.rc.first;have L:=I.live A X.lv;have b0:=Gy I.conf;have hch:Vy w.p=x.L++Vy qs:=by rw[hq];rfl
 have hcn:=A7y I hk;rw[hch]at hcn;have hsl:Vx w.p=(if x.d=0 then []else [Ap x.d 1])++Vx qs:=by rw[hq];rfl
 have hsn:=I.sln;rw[hsl]at hsn;have e1:Vx (Wc (gt w.o (x.i - 1)) x.i::au w.o x::qs)=(x.i - 1)::((if x.d=0 then []else [Ap x.d 1])++Vx qs):=by
  show(if x.i=0 then []else [Ap x.i 1])++_=_;rw[if_neg hf,Wm (by omega)];rfl
 have hns:x.i - 1 ∉ Vx w.p:=fun h=>by
  have:=((I.sli _).1 h).2
  grind [W2.st]
 unfold Xo;refine Bvz I A F X.lv _ _ (A31 _ _) (fun y hy hne=>Bey I.rg hk hy hne X.pv (X.nf y hy)) (Bez hk) X.fr (fun y hy=> ?_) ?_ (fun c=> ?_) ?_ (fun s=> ?_)
 ·rcases Ax.1 hy with e|e
  ·grind [A7w,A7x]
  ·rcases Ax.1 e with e|e
   ·rw[e];exact⟨Zm.2 ⟨X.rc.conf,X.rc.slot,L.next,X.rc.ntag,X.rc.tags,X.rc.dist,X.rc.done,X.rc.zero⟩,(di I hq).2⟩
   grind [Bd.wrec]
 ·show((gt w.o (x.i - 1)).L++(x.L++Vy qs)).Nodup
  grind
 ·rw[hch];show c∈(gt w.o (x.i - 1)).L++(x.L++Vy qs) ↔ _
  grind
 all_goals grind
def Ye (l:List Fy)(k:Int):Prop:= ∃t,V6 l t/\Al l.length t k
structure Zf (w w':H4):Prop where
 conf:w'.C=w.C
 len:w'.o.length=w.o.length
 node: ∀k,Ye w.o k->Ye w'.o k/\(∃a b c,gt w'.o k=Zd (gt w.o k) a b c)/\ ∀n,V0 w'.o n k=V0 w.o n k
theorem Ak5 (n:Fy):Zd n n.i n.u n.v=n:=rfl
theorem Zf.refl (w:H4):Zf w w:=⟨rfl,rfl,fun k h=>⟨h,⟨_,_,_,(Ak5 _).symm⟩,fun _=>rfl⟩⟩
theorem Zf.trans{a b c:H4}(h:Zf a b)(g:Zf b c):Zf a c:=by
 refine⟨g.conf.trans h.conf,g.len.trans h.len,fun k hk=> ?_⟩;obtain⟨h1,⟨x,y,z,h2⟩,h3⟩:=h.node k hk;obtain⟨g1,⟨u,v,w,g2⟩,g3⟩:=g.node k h1;exact⟨g1,⟨u,v,w,by rw[g2,h2];rfl⟩,fun n=>(g3 n).trans (h3 n)⟩
theorem Be2{w w':H4}(hc:w'.C=w.C)(hl:w'.o=w.o):Zf w w':=⟨hc,by rw[hl],fun k h=>by rw[hl];exact⟨h,⟨_,_,_,(Ak5 _).symm⟩,fun _=>rfl⟩⟩
theorem A75{N:Int}{t t':Int->Lk}(h: ∀y,Al N t y->Lv N t' y/\(t' y).up=(t y).up/\(Cu N t y->Al N t ((t y).up - 1)->Cu N t' y)){k:Int}(hk:Al N t k):Al N t' k:=by
 induction hk with
 |root a b=>
  obtain⟨h1,h2,h3⟩:=h _ (.root a b);exact .root h1 (by omega)
 |step a b c ih=>
  obtain⟨h1,h2,h3⟩:=h _ (.step a b c);exact .step h1 (h3 b c) (by grind)
theorem Bv0{N:Int}{t:Int->Lk}{g:Int}(hg:Oo N t g){k:Int}(hk:Al N t k):Al N (rem t g) k:=by
 refine A75 (fun y hy=> ?_) hk;have hne:y≠g:=fun e=>hy.noOr (e ▸ hg);refine⟨Xg.2 ⟨hne,hy.lv⟩,by rw[V5 hne],fun hc hu=>(de hne).2 ⟨fun e=> ?_,hc⟩⟩
 simp_all[Al.noOr]
theorem Bv1{N:Int}{t:Int->Lk}{g:Int}(hg:(t g).lv=false){k:Int}(hk:Al N t k):Al N (Yx t g) k:=by
 refine A75 (fun y hy=> ?_) hk;exact⟨(Y5 hg).2 hy.lv,by rw[X4 hg hy.lv],fun hc _=>(ui hg hy.lv).2 hc⟩
theorem Bv2{N:Int}{t t':Int->Lk}(h: ∀x,0<=x/\x<N->t' x=t x){k:Int}(hk:Al N t k):Al N t' k:=by
 refine A75 (fun y hy=> ?_) hk;have hy1:=hy.lv;simp_all[Cu,Lv]
theorem Ye.al{l:List Fy}{t:Int->Lk}(A:V6 l t){k:Int}(h:Ye l k):Al l.length t k:=by
 obtain⟨t',A',h'⟩:=h;exact Bv2 (fun x hx=>by rw[A x hx,A' x hx]) h'
theorem Be3{w w':H4}{t t':Int->Lk}(R:Rg w.o)(R':Rg w'.o)(A:V6 w.o t)(A':V6 w'.o t')(F:V3 w.o.length t (Wh w.p))(hc:w'.C=w.C)(hl:w'.o.length=w.o.length)
  (hn: ∀k,Al w.o.length t k->Al w.o.length t' k/\(t' k).up=(t k).up/\ ∃a b c,gt w'.o k=Zd (gt w.o k) a b c):Zf w w':=by
 refine⟨hc,hl,fun k hk=> ?_⟩;have h:=hk.al A;obtain⟨h1,h2,h3⟩:=hn k h;refine⟨⟨t',A',by grind⟩,h3,fun n=> ?_⟩;rw[A3u A' R',A3u A R,hl];obtain⟨d,U⟩:=F.uw;exact A3q _ _ fun y hy=>(hn y ((Bek U n k h).1 y hy).2).2.1
theorem Bv3{α:Type}[Inhabited α](a:α)(l:List α){i:Nat}(h:i<l.length):gt (a::l) ((i+1:Nat):Int)=gt l (i:Int):=by
 rfl
theorem A76{α:Type}[Inhabited α](f:α->Nat): ∀(l l':List α),l'.length=l.length->(∀x:Nat,x<l.length->f (gt l' (x:Int))=f (gt l (x:Int)))->(l'.map f).sum=(l.map f).sum:=by
 intro l;induction l with
 |nil=>grind
 |cons a l ih=>
  intro l' h hx;cases l' with
  |nil=>simp at h
  |cons b l'=>
   have hl:l'.length=l.length:=by grind
   have h0:=hx 0 (by simp);have:=ih l' hl fun x h=>by
    have:=hx (x+1) (by grind);assumption
   simp only[Z8,List.sum_cons,this];rw[show f b=f a from h0]
theorem Bv4{α:Type}[Inhabited α](f:α->Nat): ∀(l l':List α) (g:Nat),l'.length=l.length->g<l.length->(∀x:Nat,x<l.length->x≠g->f (gt l' (x:Int))=f (gt l (x:Int)))->(l'.map f).sum+f (gt l (g:Int))=(l.map f).sum+f (gt l' (g:Int)):=by
 intro l;induction l with
 |nil=>grind
 |cons a l ih=>
  intro l' g h hg hx;cases l' with
  |nil=>simp at h
  |cons b l'=>
   have hl:l'.length=l.length:=by grind
   simp only[Z8,List.sum_cons];cases g with
   |zero=>
    have:=A76 f l l' hl fun x h=>by
     have:=hx (x+1) (by grind) (by omega);assumption
    rw[this];show f b+_+f a=f a+_+f b;omega
   |succ g=>
    have hg:g<l.length:=by grind
    have h0:f b=f a:=hx 0 (by simp) (by omega);have:=ih l' g hl hg fun x h hn=>by
     have:=hx (x+1) (by grind) (by omega);assumption
    grind [Bv3]
theorem fj{f:Fy->Nat}{l l':List Fy}{g:Int}(hl:l'.length=l.length)(hg:0<=g/\g<(l.length:Int))(hx: ∀x,0<=x/\x<(l.length:Int)->x≠g->f (gt l' x)=f (gt l x)):(l'.map f).sum+f (gt l g)=(l.map f).sum+f (gt l' g):=by
 have:=Bv4 f l l' g.toNat hl (by omega) fun x h hn=>hx x ⟨by omega,by omega⟩ (by omega)
 rwa[show((g.toNat:Nat):Int)=g by omega]at this
theorem Ak6 (c:Sv){st:Int}(h:st≠1)(g:Int):Wq c (Wg st g)=0:=by unfold Wq Wg;rw[if_neg h]
structure mo (w w':H4)(E:Int):Prop where
 inv:Bd w'
 mem: ∀x∈w'.Q.g,0<=x/\x<=255
 ep: ∀k,0<=k/\k<(w'.o.length:Int)->ap E (gt w'.o k)
 pot:pot w'<pot w
 wt:wt w'<=wt w
 stay:Zf w w'
 cn:cnt w'<=cnt w
theorem mo.good{w w':H4}{E:Int}(S:mo w w' E){n:Nat}(G:Ch w E n):Ch w' E n:=⟨S.inv,S.mem,S.ep,by have:=S.wt;have:=G.wt;omega,by have:=S.cn;have:=G.cn;omega⟩
theorem Bv5{w:H4}{E:Int}{n:Nat}(G:Ch w E n){x:G9}{qs:List G9}(hq:w.p=x::qs)(h0:0<x.j.length):mo w (bn w x qs) E:=by
 have e:Xr w.C (Ze x)+1=Xr w.C x:=by
  grind [Xr,Ze]
 have ep:pot (bn w x qs)+1=pot w:=by
  unfold pot;rw[hq];show(w.o.map (Wq w.C)).sum+((Ze x::qs).map (Xr w.C)).sum+1=_
  grind
 refine⟨Bev G.inv hq h0,G.mem,G.ep,by omega,?_,Be2 rfl rfl,by unfold cnt;rw[hq];exact Z9 _⟩;unfold wt;show pot (bn w x qs)+(w.q++[_]).length<=_
 grind
theorem Bv6{w:H4}{E:Int}{n:Nat}(G:Ch w E n){x:G9}{qs:List G9}(hq:w.p=x::qs)(hc:0<x.L.length):mo w (qk w x qs) E:=by
 have X:=A30 G.inv hq hc;have b0:=Gy X.rc.conf;have ht:=X.to;have hd:=X.rc.done;have e:Xr w.C (bo w x)<Xr w.C x:=by
  have hm:w.C.k.toNat*x.L.length=w.C.k.toNat*(x.L.length - 1)+w.C.k.toNat:=by
   conv=>lhs;rw[show x.L.length=x.L.length - 1+1 by omega]
   rfl
  grind [bo,Xr]
 have ep:pot (qk w x qs)<pot w:=by
  unfold pot;rw[hq];show(w.o.map (Wq w.C)).sum+((bo w x::qs).map (Xr w.C)).sum<_
  grind
 refine⟨Bvy G.inv hq hc,Bvx G.mem,G.ep,ep,?_,Be2 rfl rfl,by unfold cnt;rw[hq];exact Z9 _⟩;unfold wt;show pot (qk w x qs)+w.q.length<=_;omega
theorem Be4{w:H4}(I:Bd w){t:Int->Lk}(A:V6 w.o t)(F:V3 w.o.length t (Wh w.p)){x:G9}{qs:List G9}(hq:w.p=x::qs)(hf:x.i≠0):
  (∀y,0<=y/\y<(w.o.length:Int)->y≠x.i - 1->gt (Xn w.o (x.i - 1)) y=um (gt w.o (x.i - 1)) (gt w.o y) (x.i - 1) y)/\gt (Xn w.o (x.i - 1)) (x.i - 1)=Wg 2 (gt w.o (x.i - 1)).a:=by
 have X:=Ak4 I A F hq hf;exact⟨fun y hy hne=>Bey I.rg X.lv.1 hy hne X.pv (X.nf y hy),Bez X.lv.1⟩
theorem Bv7{w:H4}{E:Int}{n:Nat}(G:Ch w E n)(hE:0<=E){x:G9}{qs:List G9}(hq:w.p=x::qs)(hf:x.i≠0):mo w (Xo w x qs) E:=by
 obtain⟨t,A,F⟩:=G.inv.forest;have X:=Ak4 G.inv A F hq hf;obtain⟨hg,hb⟩:=Be4 G.inv A F hq hf;have hk:=X.lv.1;have L:=G.inv.live A X.lv;have I':=Be1 G.inv hq hf;have hN:=A31 w.o (x.i - 1);have hs:=fj (f:=Wq w.C) hN hk fun y hy hne=>by rw[hg y hy hne];rfl
 rw[hb,Ak6 _ (by decide)]at hs;have e1:Wq w.C (gt w.o (x.i - 1))=2+(gt w.o (x.i - 1)).j.length+w.C.k.toNat*(gt w.o (x.i - 1)).L.length:=by unfold Wq;rw[if_pos L.st]
 have e2:Xr w.C (Wc (gt w.o (x.i - 1)) x.i)=1+(gt w.o (x.i - 1)).j.length+w.C.k.toNat*(gt w.o (x.i - 1)).L.length:=rfl;have e3:Xr w.C (au w.o x)=Xr w.C x:=rfl;have ep:pot (Xo w x qs)<pot w:=by
  unfold pot;rw[hq];show((Xn w.o (x.i - 1)).map (Wq w.C)).sum+((Wc (gt w.o (x.i - 1)) x.i::au w.o x::qs).map (Xr w.C)).sum<_
  grind
 have hs2:=fj (f:=Wz) hN hk fun y hy hne=>by rw[hg y hy hne];rfl
 have el:Wz (gt w.o (x.i - 1))=1:=by unfold Wz;rw[if_pos L.st]
 have eb:Wz (gt (Xn w.o (x.i - 1)) (x.i - 1))=0:=by rw[hb];rfl
 refine⟨I',?_,fun y hy=> ?_,ep,?_,?_,?_⟩
 ·show ∀y∈(V9 w.Q _).g,_;rw[(mi G.inv hk).2.1];exact G.mem
 ·have hy:0<=y/\y<((Xn w.o (x.i - 1)).length:Int):=hy;rw[hN]at hy;show ap E (gt (Xn w.o (x.i - 1)) y);by_cases e:y=x.i - 1
  ·rw[e,hb];exact⟨hE,hE,⟨Int.le_refl 0,by show(0:Int)<=1000;omega⟩⟩
  ·rw[hg y hy e];have:=G.ep y hy;exact⟨this.ep,this.ue,this.cur⟩
 ·unfold wt;show pot (Xo w x qs)+w.q.length<=_;omega
 ·refine Be3 G.inv.rg I'.rg A (A74 A hk hN hg hb) F rfl hN fun y hy=> ?_
  have hne:y≠x.i - 1:=fun e=>hy.noOr (e ▸ X.or);exact⟨Bv0 X.or hy,by rw[V5 hne],_,_,_,hg y hy.lv.1 hne⟩
 ·unfold cnt;rw[hq];show((Xn w.o (x.i - 1)).map Wz).sum+(qs.length+1+1)<=(w.o.map Wz).sum+(qs.length+1);omega
def bp (n:Fy)(gens:Int):Fy:=if gens<=n.a then Wg 3 n.a else Wg 0 (n.a+1)
def V7 (w:H4)(x:G9):List Fy:=if x.d=0 then w.o else w.o.set (x.d - 1).toNat (bp (gt w.o (x.d - 1)) w.C.n)
def Zg (w:H4)(x:G9)(qs:List G9):H4:=H4.mk w.C w.Q (V7 w x) qs w.q
theorem Ak7 (w:H4)(x:G9):(V7 w x).length=w.o.length:=by grind [V7]
structure Ak9 (w:H4)(x:G9)(qs:List G9):Prop where
 rc:qj w.C x
 k:x.d≠0->0<=x.d - 1/\x.d - 1<(w.o.length:Int)
 st:x.d≠0->(gt w.o (x.d - 1)).c=2
 gn:x.d≠0->1<=(gt w.o (x.d - 1)).a/\(gt w.o (x.d - 1)).a<=w.C.n
 no:x.d≠0->x.d - 1 ∉ Vx qs
theorem Ala{w:H4}(I:Bd w){x:G9}{qs:List G9}(hq:w.p=x::qs):Ak9 w x qs:=by
 have R:=Zm.1 (di I hq).1;have b0:=Gy I.conf;have hx:x∈w.p:=by grind
 have hs:=R.slot;have h1:x.d≠0->(0<=x.d - 1/\x.d - 1<(w.o.length:Int))/\(gt w.o (x.d - 1)).c=2:=fun h=>by
  have:=Ben hx h;rw[Wm (by omega)]at this;exact(I.sli _).1 this
 refine⟨R,fun h=>(h1 h).1,fun h=>(h1 h).2,fun h=>(mh (I.node _ (h1 h).1)).2.2,fun h=> ?_⟩;have:=I.sln;rw[hq]at this;have this:((if x.d=0 then []else [Ap x.d 1])++Vx qs).Nodup:=this;rw[if_neg h,Wm (by omega)]at this
 grind
theorem Bv8{w:H4}{x:G9}{qs:List G9}(X:Ak9 w x qs){y:Int}(hy:0<=y/\y<(w.o.length:Int)):gt (V7 w x) y=if x.d≠0/\y=x.d - 1 then bp (gt w.o y) w.C.n else gt w.o y:=by
 unfold V7;by_cases h:x.d=0
 ·grind
 ·rw[if_neg h,Y6 (X.k h) hy]
  grind
theorem Bv9{n:Fy}{gens:Int}(h:1<=n.a/\n.a<=gens): ∃st g,bp n gens=Wg st g/\(st=0\/st=3)/\1<=g/\g<=gens:=by
 unfold bp;split
 all_goals grind
theorem dj{w:H4}{x:G9}{qs:List G9}(X:Ak9 w x qs){y:Int}(hy:0<=y/\y<(w.o.length:Int)):(gt (V7 w x) y=gt w.o y/\ ¬(x.d≠0/\y=x.d - 1))\/((x.d≠0/\y=x.d - 1)/\(gt w.o y).c=2/\ ∃st g,gt (V7 w x) y=Wg st g/\(st=0\/st=3)/\1<=g/\g<=w.C.n):=by
 rw[Bv8 X hy];by_cases h:x.d≠0/\y=x.d - 1
 ·rw[if_pos h];refine .inr ⟨h,by rw[h.2];exact X.st h.1,?_⟩;exact Bv9 (by rw[h.2];exact X.gn h.1)
 grind
theorem Be5{w:H4}(I:Bd w){t:Int->Lk}(A:V6 w.o t)(F:V3 w.o.length t (Wh w.p)){x:G9}{qs:List G9}(hq:w.p=x::qs)(hf:x.i=0):
  ∃t',V6 (V7 w x) t'/\V3 w.o.length t' (Wh qs)/\(∀k,Al w.o.length t k->Al w.o.length t' k/\(t' k).up=(t k).up):=by
 have X:=Ala I hq;have F1:V3 w.o.length t ((x.d,0)::Wh qs):=by rw[hq]at F;rw[<-hf];exact F
 by_cases h:x.d=0
 ·refine⟨t,?_,Bej F1,fun k hk=>⟨hk,rfl⟩⟩;simp_all[V7]
 ·have hk:=X.k h;have hlv:(t (x.d - 1)).lv=false:=by rw[A _ hk];show((gt w.o (x.d - 1)).c==1)=false;rw[X.st h];rfl
  refine⟨Yx t (x.d - 1),fun y hy=> ?_,Bve F1 h fun e he e2=> ?_,fun k hk=>⟨Bv1 hlv hk,by rw[X4 hlv hk.lv]⟩⟩
  ·rw[Ak7]at hy;unfold Yx;rcases dj X hy with ⟨e,f⟩|⟨f,_,st,g,e,hs,_⟩
   ·rw[if_neg (fun r=>f ⟨h,r⟩),e,A y hy]
   ·rw[if_pos f.2,e];rcases hs with s|s<;>subst s<;>rfl
  ·obtain⟨z,hz,e3⟩:=A8.1 he;have e3:z.d=e.1:=by grind
   refine X.no h (List.mem_flatMap.2 ⟨z,hz,?_⟩);have hs:=X.rc.slot;have b0:=Gy I.conf;rw[e3,e2,if_neg h,Wm (by omega)];simp
theorem Be6{w:H4}(I:Bd w){x:G9}{qs:List G9}(hq:w.p=x::qs)(hc:x.L=[])(hf:x.i=0):Bd (Zg w x qs):=by
 obtain⟨t,A,F⟩:=I.forest;have X:=Ala I hq;obtain⟨t',A',F',_⟩:=Be5 I A F hq hf;have hN:=Ak7 w x;have hch:Vy w.p=Vy qs:=by rw[hq];show x.L++_=_;rw[hc];rfl
 have hsl:Vx w.p=(if x.d=0 then []else [Ap x.d 1])++Vx qs:=by rw[hq];rfl
 have hsn:=I.sln;rw[hsl]at hsn;refine⟨I.pool,by show((V7 w x).length:Int)=_;rw[hN];exact I.len,fun y hy=> ?_,fun y hy c=> ?_,fun y hy=> ?_,⟨t',A',by show V3 ((V7 w x).length:Int) t' _;rw[hN];exact F'⟩,fun y hy=>I.wrec y (by rw[hq];exact Pv _ hy),by show(Vy qs).Nodup;grind [Bd.chn],fun c=>by show c∈Vy qs ↔ _;rw[<-hch];exact I.chi c,?_,fun s=> ?_,I.log⟩
 ·have hy:0<=y/\y<((V7 w x).length:Int):=hy;rw[hN]at hy;show Wv w.C (gt (V7 w x) y)=true
  grind [dj,Bd.node,A3v,Bd.conf]
 ·have hy:0<=y/\y<((V7 w x).length:Int):=hy;rw[hN]at hy;show c∈(gt (V7 w x) y).L ↔ _;rcases dj X hy with ⟨e,_⟩|⟨_,h2,st,g,e,hs,hg⟩
  ·rw[e];exact I.own y hy c
  ·rw[e];have:=I.own y hy c;rw[dh (I.node y hy) (by omega)]at this;exact this
 ·have hy:0<=y/\y<((V7 w x).length:Int):=hy;rw[hN]at hy;show(gt (V7 w x) y).y.all (Xa w.C (gt (V7 w x) y).L)=true/\Y8 (gt (V7 w x) y).y=true/\X7 w.C w.Q.g (gt (V7 w x) y)=true;rcases dj X hy with ⟨e,_⟩|⟨_,h2,st,g,e,hs,hg⟩
  ·grind [Bd.thing]
  ·rw[e];exact⟨rfl,rfl,rfl⟩
 ·exact(dg.1 hsn).2.1
 ·show s∈Vx qs ↔ (0<=s/\s<((V7 w x).length:Int))/\(gt (V7 w x) s).c=2;have hi:=I.sli s;rw[hsl,C5]at hi;have hss:=X.rc.slot;have b0:=Gy I.conf;rw[hN];constructor
  ·intro h;obtain⟨a,b⟩:=hi.1 (.inr h);refine⟨a,?_⟩;rcases dj X a with ⟨e,_⟩|⟨⟨h1,h2⟩,_⟩
   ·grind
   ·rw[h2]at h;grind [Ak9.no]
  ·rintro⟨a,b⟩;rcases dj X a with ⟨e,f⟩|⟨_,_,st,g,e,hs,_⟩
   ·rw[e]at b;rcases hi.2 ⟨a,b⟩with h|h
    ·by_cases q:x.d=0
     ·grind
     ·rw[if_neg q,Wm (by omega),Dt]at h;omega
    ·exact h
   ·rw[e]at b;have b:st=2:=b;omega
theorem Bwa{w:H4}{E:Int}{n:Nat}(G:Ch w E n)(hE:0<=E){x:G9}{qs:List G9}(hq:w.p=x::qs)(hc:x.L=[])(hf:x.i=0):mo w (Zg w x qs) E:=by
 obtain⟨t,A,F⟩:=G.inv.forest;have X:=Ala G.inv hq;obtain⟨t',A',F',hal⟩:=Be5 G.inv A F hq hf;have I':=Be6 G.inv hq hc hf;have hN:=Ak7 w x;have hs:((V7 w x).map (Wq w.C)).sum=(w.o.map (Wq w.C)).sum:=A76 _ _ _ hN fun y hy=>by
  rcases dj X (y:=(y:Int)) ⟨by omega,by omega⟩with ⟨e,_⟩|⟨_,h2,st,g,e,hs,hg⟩
  ·rw[e]
  ·rw[e,Ak6 _ (by omega)];simp_all[Wq]
 have ep:pot (Zg w x qs)<pot w:=by
  have h1:1<=Xr w.C x:=by grind [Xr]
  unfold pot;rw[hq];show((V7 w x).map (Wq w.C)).sum+(qs.map (Xr w.C)).sum<_
  grind
 have hs2:((V7 w x).map Wz).sum=(w.o.map Wz).sum:=A76 _ _ _ hN fun y hy=>by
  rcases dj X (y:=(y:Int)) ⟨by omega,by omega⟩with ⟨e,_⟩|⟨_,h2,st,g,e,hs,hg⟩
  ·rw[e]
  ·rw[e];unfold Wz;rw[if_neg (by show ¬st=1;omega),if_neg (by omega)]
 refine⟨I',G.mem,fun y hy=> ?_,ep,?_,?_,by unfold cnt;rw[hq];show((V7 w x).map Wz).sum+qs.length<=_+(qs.length+1);omega⟩
 ·have hy:0<=y/\y<((V7 w x).length:Int):=hy;rw[hN]at hy;show ap E (gt (V7 w x) y);rcases dj X hy with ⟨e,_⟩|⟨_,h2,st,g,e,hs,hg⟩
  ·grind [Ch.ep]
  ·rw[e];exact⟨hE,hE,⟨Int.le_refl 0,by show(0:Int)<=1000;omega⟩⟩
 ·unfold wt;show pot (Zg w x qs)+w.q.length<=_;omega
 ·refine Be3 G.inv.rg I'.rg A A' F rfl hN fun y hy=> ?_;refine⟨(hal y hy).1,(hal y hy).2,?_⟩;rcases dj X hy.lv.1 with ⟨e,_⟩|⟨_,h2,_⟩
  ·exact⟨_,_,_,e⟩
  ·have:=((Zc A).1 hy.lv).2;omega
section
variable {K:Nat} (hK:2^48<=K)
include hK
theorem Be7 (w:H4)(hw:X1 w.Q)(l:List Int)(hl:l.length<=140737488355327):ju K w l=some (H4.mk w.C (V9 w.Q l) w.o w.p w.q):=by
 unfold ju;refine ij hK l (by omega) X9 w.Q X1 hw (fun s x h=>(A3d h x).1) _ (fun n s i=>cf K l n i w.C.L w.C.k w.C.l w.C.e w.C.m w.C.n s.g s.c s.h w.o w.p w.q) (fun n s i h hs=> ?_) (fun n=> ?_)
 ·simp only[cf];rw[Pz h,cond_true,if_pos (Gz h),K1 h,show Pc.mk s.g s.c s.h=s from rfl,Bdm K hs,Z0,K0 (by omega)]
 ·show cf K l (n+1) _ _ _ _ _ _ _ _ _ _ _ _ _=_;rw[cf,Wu (Z9 _),cond_false];rfl
theorem Bwb{w:H4}(I:Bd w)(hw:Wa w)(hQ:w.p.length<=1000000000){x:G9}{qs:List G9}(hq:w.p=x::qs)(hf:x.i≠0):rr K w=some (Xo w x qs):=by
 have hm:=V8;obtain⟨t,A,F⟩:=I.forest;have X:=Ak4 I A F hq hf;have hk:=X.lv.1;have hF:=X.rc.first;have L:=I.live A X.lv;have b0:=Gy I.conf;have hlen:=I.len;have hn:=hw.l.1 _ (Wi hk.1 hk.2);have e1:Ap x.i 1=x.i - 1:=Wm (by omega);have e2:A4 (x.i - 1) 1=x.i:=by grind [Yl]
 have hnx:=L.next;have hlq:(w.p).length=qs.length+1:=by grind
 have hj: ∀(l:List Fy) (q:List G9),l.length=w.o.length->q.length=w.p.length->na K (gt w.o (x.i - 1)) (x.i - 1) w.C.L w.C.k w.C.l w.C.e w.C.m w.C.n w.Q.g w.Q.c w.Q.h l q w.q=some (H4.mk w.C (V9 w.Q (gt w.o (x.i - 1)).L) (l.set (x.i - 1).toNat (Wg 2 (gt w.o (x.i - 1)).a)) (Wc (gt w.o (x.i - 1)) x.i::q) w.q):=by
  intro l q hl1 hq1;have h8:=hn.tags.2;have h9:=hn.chunks.2;unfold na;rw[Be7 hK (H4.mk w.C w.Q l q w.q) hw.p _ (Yj hK hn.chunks),Z0];unfold rq Ay4;simp only[Z0,Hd,List.singleton_append,Z28];simp only[hl1,if_pos hk,e2,Z0]
  iterate 4 (try rw[if_pos (by omega)])
  try simp only[Z0]
  iterate 4 (try rw[if_pos (by omega)])
  rfl
 unfold rr;rw[hq,jd,if_pos ⟨by omega,by simp⟩,e1];simp only[if_pos hk];rw[ii K hn,Z0,if_pos ⟨by omega,by simp⟩,li,Z0];unfold Xo Xn;have hp:Wp w.o (gt w.o (x.i - 1)).u=decide (1<=(gt w.o (x.i - 1)).u/\(gt w.o (x.i - 1)).u<=(w.o.length:Int)):=by
  rw[Bool.eq_iff_iff,qh (by omega) (by omega),decide_eq_true_iff];omega
 rw[hp];by_cases q:1<=(gt w.o (x.i - 1)).u/\(gt w.o (x.i - 1)).u<=(w.o.length:Int)
 ·rw[decide_eq_true q];simp only[cond_true];rw[Wm (by omega),if_pos (by omega)];unfold Ax5;exact hj _ _ (by grind) (by grind)
 ·rw[decide_eq_false q];simp only[cond_false];exact hj _ _ rfl (by grind)
theorem Be8{l:List Fy}(hl:V2 l){k gens:Int}(hk:0<=k/\k<(l.length:Int))(hg:0<=(gt l k).a/\(gt l k).a<=1000):Ay7 K l k gens=some (l.set k.toNat (bp (gt l k) gens)):=by
 unfold Ay7 bz Ay6 bp;rw[A3c hK hl,Z0,bd K (Wx hl),decide_eq_true hk];simp only[Z0,Bool.not_true,cond_false,if_pos hk];rw[Yl (by omega) (by omega)];by_cases q:gens<=(gt l k).a
 ·rw[decide_eq_true (show(gt l k).a>=gens from q),if_pos q];rfl
 ·rw[decide_eq_false (show ¬(gt l k).a>=gens from q),if_neg q];rfl
theorem A32{w:H4}{E:Int}{n:Nat}(G:Ch w E n)(hE:0<=E/\E<=1000000000)(hn:n<=1000000000)(h0:0<w.p.length): ∃w',ni K w=some w'/\mo w w' E:=by
 have hm:=V8;have W:=G.ww hE.2 hn;have h1:=uk w;have h2:=Ak2 w;have h3:=G.wt;cases hq:w.p with
 |nil=>grind
 |cons x qs=>
 have R:=Zm.1 (di G.inv hq).1;have hlq:(w.p).length=qs.length+1:=by grind
 unfold ni Ayw;rw[hq,jd,if_pos ⟨by omega,by simp⟩];by_cases c1:0<x.j.length
 ·refine⟨_,?_,Bv5 G hq c1⟩;rw[decide_eq_true (show(x.j.length:Int)>0 by omega)];simp only[cond_true,Z0,beq_self_eq_true]
  grind [Bvt,qj.ntag]
 ·rw[decide_eq_false (show ¬(x.j.length:Int)>0 by omega)];by_cases c2:0<x.L.length
  ·refine⟨_,?_,Bv6 G hq c2⟩;rw[decide_eq_true (show(x.L.length:Int)>0 by omega)];simp only[cond_true,cond_false,Z0];rw[show((2:Int)==1)=false from rfl,show((2:Int)==2)=true from rfl];simp only[cond_true,cond_false];rw[Bvv hK G.inv W.p hq c2];rfl
  ·rw[decide_eq_false (show ¬(x.L.length:Int)>0 by omega)];have hc:x.L=[]:=Ec.1 (by omega);by_cases c3:x.i=0
   ·refine⟨_,?_,Bwa G hE.1 hq hc c3⟩;have X:=Ala G.inv hq;have hs:=R.slot;have b0:=Gy G.inv.conf;have et:((x::qs).drop (1:Int).toNat).take (((x::qs).length:Int) - 1).toNat=qs:=by
     simp_all
    rw[c3];simp only[bne_self_eq_false,cond_false,Z0];rw[show((4:Int)==1)=false from rfl,show((4:Int)==2)=false from rfl,show((4:Int)==3)=false from rfl];simp only[cond_false];have hl1:(((x::qs).length:Nat):Int)=(qs.length:Int)+1:=by simp
    have hj: ∀l:List Fy,nh K w.C.L w.C.k w.C.l w.C.e w.C.m w.C.n w.Q.g w.Q.c w.Q.h l (x::qs) w.q=some (H4.mk w.C w.Q l qs w.q):=by
     intro l;unfold nh;rw[et,Hd,hl1,if_pos (show(0:Int)<=1/\(1:Int)<=(qs.length:Int)+1/\(qs.length:Int)+1<=(qs.length:Int)+1 from⟨by omega,by omega,by omega⟩),if_pos (show qs.length*72<=140737488355328/\qs.length<=maxLen from⟨by omega,by omega⟩)]
    rw[if_pos ⟨by omega,by simp⟩];unfold Zg V7;by_cases q:x.d=0
    ·grind
    ·have hgn:=X.gn q;rw[Ym q,if_neg q,cond_true,if_pos ⟨by omega,by simp⟩,Wm (by omega),Be8 hK W.l (X.k q) ⟨by omega,by omega⟩,Z0];exact hj _
   ·refine⟨_,?_,Bv7 G hE.1 hq c3⟩;rw[Ym c3];simp only[cond_true,cond_false,Z0];rw[show((3:Int)==1)=false from rfl,show((3:Int)==2)=false from rfl,show((3:Int)==3)=true from rfl];simp only[cond_true,cond_false];rw[Bwb hK G.inv W (by omega) hq c3];rfl
structure Steps (w w':H4)(E:Int)(n:Nat):Prop where
 good:Ch w' E n
 stay:Zf w w'
theorem Bwc{E:Int}{n:Nat}(hE:0<=E/\E<=1000000000)(hn:n<=1000000000)(m:Int): ∀(f:Nat) (i:Int) (w:H4),Ch w E n->pot w<f-> ∃r w',xf K m f i w.C.L w.C.k w.C.l w.C.e w.C.m w.C.n w.Q.g w.Q.c w.Q.h w.o w.p w.q=some (r,w')/\Steps w w' E n:=by
 intro f;induction f with
 |zero=>omega
 |succ f ih=>
  intro i w G hf;rw[xf];cases decide (i<m)with
  |false=>exact⟨m,w,rfl,G,Zf.refl w⟩
  |true=>
  simp only[cond_true];by_cases q:w.p.length=0
  ·rw[q];exact⟨i,w,rfl,G,Zf.refl w⟩
  ·obtain⟨w1,e1,S⟩:=A32 hK G hE hn (by omega);have hp:=S.pot;obtain⟨r,w2,e2,S2⟩:=ih (A4 i 1) w1 (S.good G) (by omega);refine⟨r,w2,?_,S2.good,S.stay.trans S2.stay⟩;simp_all[Wn]
theorem A33{E:Int}{n:Nat}(hE:0<=E/\E<=1000000000)(hn:n<=1000000000)(m:Int){w:H4}(G:Ch w E n): ∃r w',xg K w m=some (r,w')/\Steps w w' E n:=by
 have:=G.wt;unfold wt at this;exact Bwc hK hE hn m K 0 w G (by omega)
def Zx (p:Pc)(at_ n:Int):Bool:=decide (0<=at_)&&(decide (1<=n)&&(decide (at_+n<=(p.c.length:Int))&&(List.range n.toNat).all (fun k=>gt p.c (at_+(k:Int))==0)))
omit hK in
theorem mq{p:Pc}{a n:Int}:Zx p a n=true ↔ 0<=a/\1<=n/\a+n<=(p.c.length:Int)/\ ∀c,a<=c/\c<a+n->gt p.c c=0:=by
 unfold Zx;simp only[Z4,decide_eq_true_eq,Z1,List.mem_range,beq_iff_eq];refine and_congr_right fun h1=>and_congr_right fun h2=>and_congr_right fun h3=> ?_;constructor
 ·intro h c hc;have:=h (c - a).toNat (by omega)
  grind
 grind
theorem Be9{p:Pc}(hp:p.c.length<=1000000000){a n:Int}(ha: -1000000000<=a/\a<=1000000000)(hn: -1000000000<=n/\n<=1000000000):wn K p a n=some (Zx p a n):=by
 unfold wn Zx;by_cases h1:a<0
 ·grind
 rw[decide_eq_false h1,decide_eq_true (by omega:0<=a)];by_cases h2:n<1
 ·grind
 rw[decide_eq_false h2,decide_eq_true (by omega:1<=n)];simp only[cond_false,Z30];have es:Ap (p.c.length:Int) a=(p.c.length:Int) - a:=by grind [Ap,Aly,Vs]
 rw[es];by_cases h3:a+n<=(p.c.length:Int)
 ·rw[decide_eq_false (by omega),decide_eq_false (by omega),decide_eq_true h3];simp only[cond_false,Z30];have ea:A4 a n=a+n:=by grind [A4,Fp,Vs]
  have:=Yt hK n.toNat (by omega) (fun k=>gt p.c (a+(k:Int))==0) (some true) (fun f i=>rh K a n f (a+i) p.g p.c p.h) (fun f i h=> ?_) (fun f=> ?_)
  ·grind
  ·simp only[rh];have e1:A4 (a+(i:Int)) 1=a+((i+1:Nat):Int):=by grind [Yl]
   grind
  grind [rh]
 grind
theorem Bfa{p:Pc}(hp:p.c.length<=1000000000){n:Int}(hn: -1000000000<=n/\n<=1000000000): ∃r,Ayv K p n=some r/\(r= -1\/Zx p r n=true):=by
 have key: ∀(f i:Nat),i<=p.c.length->p.c.length - i<f-> ∃r,wo K n f (i:Int) p.g p.c p.h=some r/\(r= -1\/Zx p r n=true):=by
  intro f;induction f with
  |zero=>omega
  |succ f ih=>
   intro i hi hf;rw[wo];rcases Bj i p.c.length with h|h
   ·rw[Pz h,cond_true,show Pc.mk p.g p.c p.h=p from rfl,Be9 hK hp ⟨by omega,by omega⟩ hn,Z0];cases e:Zx p (i:Int) n with
    |true=>grind
    |false=>
     grind [K0]
   grind
 exact key K 0 (Hc _) (by omega)
theorem Bwd{E:Int}{n:Nat}(hE:0<=E/\E<=1000000000)(hn:n<=1000000000)(a:Int){run:Int}(hr: -1000000000<=run/\run<=1000000000): ∀(f:Nat) (i:Int) (w:H4),Ch w E n->pot w<f-> ∃r w',nj K a run f i w.C.L w.C.k w.C.l w.C.e w.C.m w.C.n w.Q.g w.Q.c w.Q.h w.o w.p w.q=some (r,w')/\Steps w w' E n:=by
 intro f;induction f with
 |zero=>omega
 |succ f ih=>
  intro i w G hf;have W:=G.ww hE.2 hn;have hst:=(W6.1 G.inv.pool).st;have b0:=Gy G.inv.conf;have hlen:=G.inv.len;rw[nj];have hw:H4.mk (Sv.mk w.C.L w.C.k w.C.l w.C.e w.C.m w.C.n) (Pc.mk w.Q.g w.Q.c w.Q.h) w.o w.p w.q=w:=rfl;have hp:Pc.mk w.Q.g w.Q.c w.Q.h=w.Q:=rfl;obtain⟨cn,hcn⟩: ∃cn,rf K w.o 0=some cn:=⟨_,Bdg hK w.o 0 (by omega)⟩;rw[hw,hp,hcn];by_cases q:0<w.p.length
  ·obtain⟨w1,e1,S⟩:=A32 hK G hE hn q;have hpot:=S.pot;obtain⟨r,w2,e2,S2⟩:=ih (A4 i 1) w1 (S.good G) (by omega);have hgo: ∃r w',wv K i w.C.L w.C.k w.C.l w.C.e w.C.m w.C.n w.Q.g w.Q.c w.Q.h w.o w.p w.q (nj K a run f)=some (r,w')/\Steps w w' E n:=by
    refine⟨r,w2,?_,S2.good,S.stay.trans S2.stay⟩;simp_all[wv]
   have hno: ∃r w',(some (i,w):Option (Int×H4))=some (r,w')/\Steps w w' E n:=⟨_,_,rfl,G,Zf.refl w⟩;obtain⟨r5,e5,_⟩:=Bfa hK (p:=w.Q) (by omega) hr
   grind
  ·rw[decide_eq_false (show ¬(w.p.length:Int)>0 by omega)];exact⟨_,_,rfl,G,Zf.refl w⟩
theorem A77{E:Int}{n:Nat}(hE:0<=E/\E<=1000000000)(hn:n<=1000000000)(a:Int){run:Int}(hr: -1000000000<=run/\run<=1000000000){w:H4}(G:Ch w E n): ∃r w',wx K w a run=some (r,w')/\Steps w w' E n:=by
 have:=G.wt;unfold wt at this;exact Bwd hK hE hn a hr K 0 w G (by omega)
theorem Bwe{l:List Fy}(hl:l.length<=1000000000): ∃r,A44 K l=some r/\(r= -1\/(0<=r/\r<(l.length:Int))/\(gt l r).c=0):=by
 have key: ∀(f i:Nat),i<=l.length->l.length - i<f-> ∃r,wy K l f (i:Int)=some r/\(r= -1\/(0<=r/\r<(l.length:Int))/\(gt l r).c=0):=by
  intro f;induction f with
  |zero=>omega
  |succ f ih=>
   intro i hi hf;rw[wy];rcases Bj i l.length with h|h
   ·rw[Pz h,cond_true,if_pos (Gz h),K0 (by omega)]
    grind
   grind
 exact key K 0 (Hc _) (by omega)
theorem Bfb{p:Pc}(hp:p.c.length<=1000000000): ∃r,Ay9 K p=some r/\(r= -1\/Zx p r 1=true):=by
 have key: ∀(f i:Nat),i<=p.c.length->p.c.length - i<f-> ∃r,xa K f (i:Int) p.g p.c p.h=some r/\(r= -1\/Zx p r 1=true):=by
  intro f;induction f with
  |zero=>omega
  |succ f ih=>
   intro i hi hf;rw[xa];rcases Bj i p.c.length with h|h
   ·rw[Pz h,cond_true,if_pos (Gz h),K0 (by omega)];by_cases e:gt p.c (i:Int)=0
    ·rw[e];refine⟨_,rfl,.inr (mq.2 ⟨by omega,by omega,by omega,fun c hc=> ?_⟩)⟩
     grind
    grind
   grind
 exact key K 0 (Hc _) (by omega)
structure uo (p p':Pc)(a n k:Int):Prop where
 mem:p'.g=p.g
 st:p'.c.length=p.c.length
 own:p'.h.length=p.h.length
 one: ∀c,0<=c/\c<(p.c.length:Int)->gt p'.c c=(if a<=c/\c<a+n then 1 else gt p.c c)/\gt p'.h c=(if a<=c/\c<a+n then k else gt p.h c)
theorem A78{p:Pc}(hw:X1 p)(hp:p.c.length<=1000000)(ho:p.h.length=p.c.length){a n k:Int}(hf:Zx p a n=true): ∃p',nk K p a n k=some p'/\uo p p' a n k:=by
 obtain⟨h1,h2,h3,h4⟩:=mq.1 hf;unfold nk;rw[Ae5 K hw,Be9 hK (by omega) ⟨by omega,by omega⟩ ⟨by omega,by omega⟩,hf,ho];simp only[Z0,cond_true,bne_self_eq_false,cond_false];have ea:A4 a n=a+n:=by grind [A4,Fp,Vs]
 have key: ∀(f i:Nat) (q:Pc),(i:Int)<=n->n.toNat - i<f->uo p q a i k-> ∃p',xb K a n k f (a+(i:Int)) q (Pc.mk [] [] [])=some p'/\uo p p' a n k:=by
  intro f;induction f with
  |zero=>omega
  |succ f ih=>
   intro i q hi hf T;rw[xb,ea];by_cases h:(i:Int)=n
   ·grind
   ·have e1:A4 (a+(i:Int)) 1=a+((i+1:Nat):Int):=by grind [Yl]
    have hs:=T.st;have hso:=T.own;rw[decide_eq_true (by omega),cond_true,if_pos (by omega),if_pos (by omega),e1];refine ih (i+1) _ (by omega) (by omega) ⟨T.mem,by grind,by grind,fun c hc=> ?_⟩;obtain⟨t1,t2⟩:=T.one c hc;simp only;rw[Ak1 (by omega) (by omega),Ak1 (by omega) (by omega),t1,t2];omega
 have:=key K 0 p (by omega) (by omega) ⟨rfl,rfl,rfl,fun c hc=>by omega⟩
 grind
end
theorem Bfc{w:H4}(I:Bd w){k:Int}(hk:0<=k/\k<(w.o.length:Int))(p':Pc)(l':List Fy)(t':Int->Lk)(hN:l'.length=w.o.length)
  (ho: ∀x,0<=x/\x<(w.o.length:Int)->x≠k-> ∃a b c,gt l' x=Zd (gt w.o x) a b c/\(0<=a/\a<=w.C.l)/\(0<=b/\b<=w.C.l)/\(0<=c/\c<=w.C.l))
  (hs2:(gt w.o k).c≠2) (L:W2 w.C (gt l' k)) (A':V6 l' t') (F':V3 w.o.length t' (Wh w.p))
  (P':Zw w.C p') (hm:p'.g=w.Q.g)
  (hone: ∀c,0<=c/\c<w.C.L->(gt p'.c c=2 ↔ gt w.Q.c c=2)/\(gt p'.c c=1/\gt p'.h c=k ↔ c∈(gt l' k).L)/\ ∀x,x≠k->(gt p'.c c=1/\gt p'.h c=x ↔ gt w.Q.c c=1/\gt w.Q.h c=x))
  (hth:(gt l' k).y.all (Xa w.C (gt l' k).L)=true/\Y8 (gt l' k).y=true/\X7 w.C w.Q.g (gt l' k)=true):
  Bd (H4.mk w.C p' l' w.p w.q):=by
 refine⟨W6.2 P',by simp_all[Bd.len],fun x hx=> ?_,fun x hx c=> ?_,fun x hx=> ?_,⟨t',A',by grind⟩,fun x hx=> ?_,I.chn,fun c=> ?_,I.sln,fun s=> ?_,I.log⟩
 ·have hx:0<=x/\x<(l'.length:Int):=hx;rw[hN]at hx;show Wv w.C (gt l' x)=true;by_cases e:x=k
  ·rw[e];exact(Xm.2 L).1
  ·obtain⟨a,b,c,h1,h2,h3,h4⟩:=ho x hx e;rw[h1];by_cases hs:(gt w.o x).c=1
   ·exact(Xm.2 (A7v (Xm.1 ⟨I.node x hx,hs⟩) h2 h3 h4)).1
   ·have X:=dh (I.node x hx) hs;have B:=F'.tree.bare x hx.1 hx.2 (by rw[A' x (by omega),h1];grind [Yp,Zd]);rw[A' x (by omega),h1]at B;obtain⟨_,B2,B3,B4⟩:=B;have q1:a=0:=B2;have q2:b=0:=B3;have q3:c=0:=B4;have this:Zd (gt w.o x) 0 0 0=gt w.o x:=by rw[X];rfl
    grind [Bd.node]
 ·have hx:0<=x/\x<(l'.length:Int):=hx;rw[hN]at hx;show c∈(gt l' x).L ↔ (0<=c/\c<w.C.L)/\gt p'.c c=1/\gt p'.h c=x;by_cases e:x=k
  ·rw[e];constructor
   ·intro h;have hin:=bh L.dist c h
    grind
   grind
  ·obtain⟨a,b,d,h1,_⟩:=ho x hx e;rw[h1];show c∈(gt w.o x).L ↔ _;rw[I.own x hx c];simp_all
 ·have hx:0<=x/\x<(l'.length:Int):=hx;rw[hN]at hx;show(gt l' x).y.all (Xa w.C (gt l' x).L)=true/\Y8 (gt l' x).y=true/\X7 w.C p'.g (gt l' x)=true;rw[hm];by_cases e:x=k
  ·grind
  ·obtain⟨a,b,d,h1,_⟩:=ho x hx e;rw[h1];exact I.thing x hx
 ·obtain⟨a,b⟩:=I.wrec x hx;simp_all[Yk]
 ·show c∈Vy w.p ↔ (0<=c/\c<w.C.L)/\gt p'.c c=2;rw[I.chi c]
  grind
 ·show s∈Vx w.p ↔ (0<=s/\s<(l'.length:Int))/\(gt l' s).c=2;rw[I.sli s,hN];refine and_congr_right fun h=> ?_
  by_cases e:s=k
  ·grind [W2.st]
  ·obtain⟨a,b,d,h1,_⟩:=ho s h e;rw[h1];rfl
theorem Bfd{w:H4}(I:Bd w){p':Pc}{a n k:Int}(hk:0<=k/\k<(w.o.length:Int))(hf:Zx w.Q a n=true)(T:uo w.Q p' a n k):
  Zw w.C p'/\ ∀c,0<=c/\c<w.C.L->(gt p'.c c=2 ↔ gt w.Q.c c=2)/\(gt p'.c c=1/\gt p'.h c=k ↔ c∈(gt w.o k).L\/a<=c/\c<a+n)/\ ∀x,x≠k->(gt p'.c c=1/\gt p'.h c=x ↔ gt w.Q.c c=1/\gt w.Q.h c=x):=by
 have P:=W6.1 I.pool;obtain⟨f1,f2,f3,f4⟩:=mq.1 hf;have hlen:=I.len;refine⟨⟨P.conf,by rw[T.mem];exact P.mem,by rw[T.st];exact P.st,by rw[T.own];exact P.own,fun c hc=> ?_⟩,fun c hc=> ?_⟩
 ·obtain⟨t1,t2⟩:=T.one c (by rw[P.st];exact hc);obtain⟨p1,p2,p3,p4⟩:=P.one c hc;rw[t1,t2,T.mem]
  grind
 ·obtain⟨t1,t2⟩:=T.one c (by rw[P.st];exact hc);rw[t1,t2];have ho:=I.own k hk c
  grind
structure Bwf (l l':List Fy)(p k:Int):Prop where
 len:l'.length=l.length
 at_:gt l' k=Fy.mk (gt l k).c (gt l k).a (gt l k).f (p+1) (gt l p).f (gt l k).i (gt l p).i 0 (gt l k).L (gt l k).w (gt l k).x (gt l k).y (gt l k).j
 ot: ∀x,0<=x/\x<(l.length:Int)->x≠k->gt l' x=Zd (gt l x) (if x=p then k+1 else(gt l x).i) (gt l x).u (if x+1=(gt l p).i then k+1 else(gt l x).v)
section
variable {K:Nat} (hK:2^48<=K)
include hK
theorem Bwg{l:List Fy}(hl:V2 l)(h8:l.length<=1000){p k:Int}(hp:0<=p/\p<(l.length:Int))(hk:0<=k/\k<(l.length:Int))(hne:p≠k)(hf:0<=(gt l p).i/\(gt l p).i<=(l.length:Int))(hfk:(gt l p).i≠k+1): ∃l',ry K l p k=some l'/\Bwf l l' p k:=by
 have e1:A4 p 1=p+1:=Yl (by omega) (by omega);have e2:A4 k 1=k+1:=Yl (by omega) (by omega);have e3:Ap (gt l p).i 1=(gt l p).i - 1:=Wm (by omega);have g1: ∀v,gt (l.set k.toNat v) k=v:=fun v=>il hk v
 have g2: ∀v,gt (l.set k.toNat v) p=gt l p:=fun v=>ma hk.1 hp (Ne.symm hne) v;unfold ry Azc;rw[A3c hK hl,Z0,e1,e2,li,decide_eq_true (by omega),Z0,cond_true,li,decide_eq_true (by omega),Z0,cond_true,Wn hne,cond_false,e3]
 simp only[Ax5,if_pos hp,if_pos hk,Tb,g1,g2,List.set_set];rw[li,Z0];have hp': ∀v:Fy,0<=p/\p<((l.set k.toNat v).length:Int):=fun v=>by grind
 have h2: ∀(u v:Fy) (x:Int),0<=x/\x<(l.length:Int)->gt ((l.set k.toNat u).set p.toNat v) x=if x=p then v else if x=k then u else gt l x:=by
  grind [Y6]
 by_cases q:1<=(gt l p).i/\(gt l p).i<=(l.length:Int)
 ·rw[decide_eq_true q,cond_true,if_pos (by omega)];refine⟨_,rfl,by simp,?_,fun x hx hxk=> ?_⟩
  ·rw[ma (by omega) (by grind) (by omega),ma hp.1 (by grind) hne,g1]
  ·by_cases a:x=(gt l p).i - 1
   ·rw[if_pos (show x+1=(gt l p).i by omega),<-a,il (by grind),h2 _ _ x hx,if_neg hxk];by_cases b:x=p
    ·rw[if_pos b,if_pos b,b];rfl
    ·rw[if_neg b,if_neg b];rfl
   ·rw[ma (by omega) (by grind) (Ne.symm a),h2 _ _ x hx,if_neg hxk,if_neg (show ¬x+1=(gt l p).i by omega)];by_cases b:x=p
    ·rw[if_pos b,if_pos b,b];rfl
    ·rw[if_neg b,if_neg b];rfl
 ·rw[decide_eq_false q,cond_false];refine⟨_,rfl,by simp,?_,fun x hx hxk=> ?_⟩
  ·grind
  ·rw[h2 _ _ x hx,if_neg hxk,if_neg (show ¬x+1=(gt l p).i by omega)];by_cases b:x=p
   ·rw[if_pos b,if_pos b,b];rfl
   ·rw[if_neg b,if_neg b];rfl
end
def newN (g c:Int):Fy:=Fy.mk 1 g 0 0 0 0 0 0 [c] (c+1) 0 [] []
structure Alb (w:H4)(t:Int->Lk)(k c p:Int):Prop where
 hk:0<=k/\k<(w.o.length:Int)
 st:(gt w.o k).c=0
 free:Zx w.Q c 1=true
 up:p= -1\/Al w.o.length t p/\(rise w.o.length t w.o.length p).length<4
theorem Alb.bare{w:H4}(I:Bd w){t:Int->Lk}{k c p:Int}(M:Alb w t k c p):gt w.o k=Wg 0 (gt w.o k).a:=by
 have:=dh (I.node k M.hk) (by grind [st])
 grind [st]
def qm (w:H4)(k c p:Int):Fy:=Fy.mk 1 (gt w.o k).a 0 (p+1) (if p+1=0 then 0 else(gt w.o p).f) 0 (if p+1=0 then 0 else(gt w.o p).i) 0 [c] (c+1) 0 [] []
structure Bfe (w:H4)(l':List Fy)(k c p:Int):Prop where
 len:l'.length=w.o.length
 at_:gt l' k=qm w k c p
 ot: ∀x,0<=x/\x<(w.o.length:Int)->x≠k->gt l' x=Zd (gt w.o x) (if x=p then k+1 else(gt w.o x).i) (gt w.o x).u (if p+1≠0/\x+1=(gt w.o p).i then k+1 else(gt w.o x).v)
theorem Bff{c:Sv}{n:Fy}{mem:List Int}{ch:Int}(h1:n.w=ch+1)(h2:n.x=0)(hz:Wd (Yf c mem ch)=true)(ha:n.y.all (fun t=>Ww t (Xy c n))=true):X7 c mem n=true:=by
 unfold X7;rw[ha,Bool.and_true,Bool.or_eq_true];refine .inr ?_;have e1:(Xy c n).B=ch*c.k:=by simp_all[Xy]
 have e2:(Xy c n).D=c.k:=by grind [Xy]
 rw[e1,e2];exact hz
theorem Bwh{w:H4}(I:Bd w){t:Int->Lk}(A:V6 w.o t)(F:V3 w.o.length t (Wh w.p)){k c p:Int}(M:Alb w t k c p){p':Pc}(T:uo w.Q p' c 1 k){l':List Fy}(L:Bfe w l' k c p):Bd (H4.mk w.C p' l' w.p w.q):=by
 have hk:=M.hk;have hb:=M.bare I;have hb1:(gt w.o k).L=[]:=by rw[hb];rfl
 have P:=W6.1 I.pool;obtain⟨T1,T2⟩:=Bfd I hk M.free T;obtain⟨f1,f2,f3,f4⟩:=mq.1 M.free;have b0:=Gy I.conf;have hlen:=I.len;have hg:=mh (I.node k hk);have hc:0<=c/\c<w.C.L:=by have:=P.st;omega
 have hp:p= -1\/(0<=p/\p<(w.o.length:Int)):=M.up.imp_right fun h=>h.1.lv.1
 have hpf:p+1≠0->(0<=p/\p<(w.o.length:Int))/\p≠k:=fun h=>by
  rcases M.up with e|⟨e,_⟩
  ·omega
  ·refine⟨e.lv.1,fun q=> ?_⟩;have:=((Zc A).1 e.lv).2
   grind [Alb.st]
 have hA:V6 l' (Yo t k p):=by
  intro x hx;rw[L.len]at hx;by_cases e:x=k
  ·subst e;rw[Yd,L.at_];unfold qm Yp;simp only;by_cases q:p+1=0
   ·grind
   ·rw[if_neg q,if_neg q,if_neg q,if_neg q,A p (hpf q).1];rfl
  ·rw[Xq e,L.ot x hx e,A x hx];by_cases q:p+1=0
   ·rw[if_neg (fun r:p+1≠0/\x+1=(t p).fi=>r.1 q),if_neg (fun r:p+1≠0/\x+1=(gt w.o p).i=>r.1 q)];rfl
   ·rw[A p (hpf q).1];rfl
 have hF:V3 w.o.length (Yo t k p) (Wh w.p):=by
  refine Bvg F hk ?_ ?_ M.up
  ·rw[A k hk];show((gt w.o k).c==1)=false;rw[M.st];rfl
  ·rw[A k hk];show((gt w.o k).c==2)=false;rw[M.st];rfl
 have hfp:0<=(if p+1=0 then 0 else(gt w.o p).i)/\(if p+1=0 then 0 else(gt w.o p).i)<=w.C.l:=by
  split
  ·omega
  ·rename_i q;have:=(I.rg.rg p (hpf q).1).2.1;omega
 have hep:0<=(if p+1=0 then 0 else(gt w.o p).f):=by
  split
  ·omega
  ·rename_i q;rcases M.up with e|⟨e,_⟩
   ·omega
   ·exact(I.live A e.lv).ep
 have hz:Wd (Yf w.C w.Q.g c)=true:=(P.one c hc).2.2.2 (f4 c ⟨by omega,by omega⟩);refine Bfc I hk p' l' (Yo t k p) L.len (fun x hx e=>⟨_,_,_,L.ot x hx e,?_,?_,?_⟩) (by rw[M.st];decide) ?_ hA hF T1 T.mem (fun x hx=> ?_) ?_
 ·have:=(I.rg.rg x hx).2.1;omega
 ·have:=(I.rg.rg x hx).2.2.1;omega
 ·have:=(I.rg.rg x hx).2.2.2;omega
 ·rw[L.at_];refine⟨I.conf,rfl,hg.2.2,?_,⟨Int.le_refl 0,by show(0:Int)<=_;omega⟩,hfp,⟨Int.le_refl 0,by show(0:Int)<=_;omega⟩,Int.le_refl 0,hep,ul.2 ⟨by simp[qm],fun x hx=> ?_⟩,?_,Hc _,Hc _,rfl,rfl⟩
  ·show 0<=p+1/\p+1<=_;omega
  ·rw[Dt.1 (show x∈[c] from hx)];exact hc
  ·unfold Zr qm;simp only;rw[Wn (by omega),cond_false,Wm (by omega),Int.add_sub_cancel,V1.2 ⟨by omega,by omega⟩];simp
 ·obtain⟨a1,a2,a3⟩:=T2 x hx;refine⟨a1,?_,a3⟩;rw[a2,hb1,L.at_];show x∈[]\/_ ↔ x∈[c]
  grind
 ·rw[L.at_];exact⟨rfl,rfl,Bff rfl rfl hz rfl⟩
theorem Bwi{l:List Fy}{t:Int->Lk}(A:V6 l t)(R:Rg l): ∀(n:Nat) (k:Int),Zs l (V0 l n k)=true->lj l (V0 l n k)=true->Al l.length t k:=by
 intro n;induction n with
 |zero=>grind [V0,lj]
 |succ n ih=>
  intro k h1 h2;unfold V0 at h1 h2;by_cases hk:0<=k/\k<(l.length:Int)
  ·rw[if_pos hk]at h1 h2;have hu:=(R.rg k hk).1;have hl:=R.len;rw[Wm (by omega)]at h1 h2;cases hr:V0 l n ((gt l k).s - 1)with
   |nil=>
    rw[hr]at h1 h2;have s1:(gt l k).c=1:=by grind [Zs]
    have s2:(gt l k).s=0:=by
     have:((gt l (gt [k] ((0:Nat):Int))).s==0)=true:=by assumption
     exact beq_iff_eq.1 this
    exact .root ((Zc A).2 ⟨hk,s1⟩) (by rw[A k hk];exact s2)
   |cons y r=>
    have hy:y=(gt l k).s - 1/\0<=y/\y<(l.length:Int):=by
     cases n with
     |zero=>simp[V0]at hr
     |succ m=>
      unfold V0 at hr
      grind
    rw[hr]at h1 h2;have h1:((gt l k).c==1&&((gt l k).t==(gt l y).f)&&Zs l (y::r))=true:=h1;rw[Z4,Z4,beq_iff_eq,beq_iff_eq]at h1;obtain⟨⟨s1,s2⟩,s3⟩:=h1;have s4:lj l (y::r)=true:=by
     assumption
    have h5:(gt l y).c=1:=by
     cases r with
     |nil=>grind [Zs]
     |cons z r=>
      simp_all[Zs]
    have h6:=ih ((gt l k).s - 1) (by grind) (by grind);refine .step ((Zc A).2 ⟨hk,s1⟩) ?_ (by rw[A k hk];exact h6);unfold Cu;rw[A k hk];show Lv _ t ((gt l k).s - 1)/\(t ((gt l k).s - 1)).ep=(gt l k).t;rw[<-hy.1,A y hy.2,s2];exact⟨(Zc A).2 ⟨hy.2,h5⟩,rfl⟩
  simp_all[lj]
theorem Bwj{w:H4}(I:Bd w){k:Int}(h:dy w.o k=true):Ye w.o k:=by
 obtain⟨t,A,_⟩:=I.forest;unfold dy at h;rw[Z4]at h;exact⟨t,A,Bwi A I.rg _ _ h.1 h.2⟩
theorem uq{w:H4}(I:Bd w){h:Lz}(h0:(Xt w.o h).2=0):Ye w.o (Xt w.o h).1:=by
 unfold Xt at *;cases e1:px h with
 |false=>grind
 |true=>
  rw[e1]at h0;simp only[cond_true]at h0 ⊢;cases e2:decide (Y1 w.o h<0)with
  |true=>grind
  |false=>
   rw[e2]at h0;simp only[cond_false]at h0 ⊢;cases e3:dy w.o (Y1 w.o h)with
   |false=>grind
   |true=>simp_all[Bwj]
section
variable {K:Nat} (hK:2^48<=K)
include hK
theorem Bwk{w:H4}(hw:Wa w)(h8:w.o.length<=1000): ∃r,A4u K w=some r:=by
 have key: ∀(f i:Nat) (v:Int),i<=w.o.length->w.o.length - i<f-> ∃r,dp K f v (i:Int) w.C.L w.C.k w.C.l w.C.e w.C.m w.C.n w.Q.g w.Q.c w.Q.h w.o w.p w.q=some r:=by
  intro f;induction f with
  |zero=>omega
  |succ f ih=>
   intro i v hi hf;rw[dp];rcases Bj i w.o.length with h|h
   ·have go: ∀v,∃r,jp K (i:Int) w.C.L w.C.k w.C.l w.C.e w.C.m w.C.n w.Q.g w.Q.c w.Q.h w.o w.p w.q (dp K f) v=some r:=by
     intro v;unfold jp;rw[K0 (by omega)];exact ih (i+1) v h (by omega)
    rw[Pz h,cond_true,if_pos (Gz h),A61 hK hw.l _ ⟨by omega,by omega⟩];simp only[Z0,if_pos (Gz h)];cases (gt w.o (i:Int)).c==0 with
    |true=>exact go _
    |false=>
     simp only[cond_false];cases dy w.o (i:Int)with
     |true=>exact go _
     |false=>
      simp only[cond_false];cases (gt w.o (i:Int)).c != 3 with
      |false=>exact go _
      |true=>
       simp only[cond_true];cases decide ((gt w.o (i:Int)).a<w.C.n)<;>exact go _
   ·rw[Wu h];grind
 exact key K 0 0 (Hc _) (by omega)
theorem Bfg{w:H4}(hw:Wa w)(h8:w.o.length<=1000): ∃r,Axx K w=some r/\r.length<=w.o.length/\ ∀x∈r,(0<=x/\x<(w.o.length:Int))/\dy w.o x=true:=by
 have hm:=V8;have key: ∀(f i:Nat) (v:List Int),i<=w.o.length->w.o.length - i<f->v.length<=i->(∀x∈v,(0<=x/\x<(w.o.length:Int))/\dy w.o x=true)-> ∃r,qu K f v (i:Int) w.C.L w.C.k w.C.l w.C.e w.C.m w.C.n w.Q.g w.Q.c w.Q.h w.o w.p w.q=some r/\r.length<=w.o.length/\ ∀x∈r,(0<=x/\x<(w.o.length:Int))/\dy w.o x=true:=by
  intro f;induction f with
  |zero=>omega
  |succ f ih=>
   intro i v hi hf hl hv;rw[qu];rcases Bj i w.o.length with h|h
   ·rw[Pz h,cond_true,A61 hK hw.l _ ⟨by omega,by omega⟩];simp only[Z0];cases e:dy w.o (i:Int)with
    |false=>
     simp only[cond_false]
     grind [vp,K0]
    |true=>
     simp only[cond_true];rw[if_pos ⟨by grind,by grind⟩];unfold vp;rw[K0 (by omega)];refine ih (i+1) _ h (by omega) (by grind) fun x hx=> ?_
     grind
   grind
 exact key K 0 [] (Hc _) (by omega) (by simp) (fun x hx=>by cases hx)
theorem A79{w:H4}(hw:Wa w)(h8:w.o.length<=1000)(n:Int): ∃b,re K w n=some b:=by
 obtain⟨r,e,hl,_⟩:=Bfg hK hw h8;have key: ∀(f i:Nat) (v:Int),i<=r.length->r.length - i<f-> ∃x,rd K r f v (i:Int) w.C.L w.C.k w.C.l w.C.e w.C.m w.C.n w.Q.g w.Q.c w.Q.h w.o w.p w.q=some x:=by
  intro f;induction f with
  |zero=>omega
  |succ f ih=>
   intro i v hi hf;rw[rd];rcases Bj i r.length with h|h
   ·rw[Pz h,cond_true,if_pos (Gz h),Bc0 hK _ _ hw.p.st.2,Z0,K0 (by omega)];exact ih (i+1) _ h (by omega)
   ·rw[Wu h];grind
 obtain⟨x,ex⟩:=key K 0 0 (Hc _) (by omega);have ex:rd K r K 0 0 w.C.L w.C.k w.C.l w.C.e w.C.m w.C.n w.Q.g w.Q.c w.Q.h w.o w.p w.q=some x:=ex;unfold re A4x;rw[e,Z0,ex];simp only[Z0];cases decide (n>=0)<;>cases decide (n<=w.C.L)<;>exact⟨_,rfl⟩
omit hK in
theorem A8a{l:List Fy}(hl:l.length<=1000000)(k:Int): ∃h,vu K l k=some h:=by
 unfold vu;rw[bd K (by omega),Z0];by_cases q:0<=k/\k<(l.length:Int)
 all_goals simp_all[decide_eq_false]
end
def Zh (n:Fy)(c:Int):Fy:=Fy.mk n.c n.a n.f n.s n.t n.i n.u n.v (n.L++[c]) (c+1) 0 n.y n.j
theorem A8b{c:Sv}{n:Fy}(L:W2 c n){k:Int}(hk:0<=k/\k<c.L)(hn:k ∉ n.L):W2 c (Zh n k):=by
 have b0:=Gy L.conf;have hd:=ul.1 L.dist;refine⟨L.conf,L.st,L.gen,L.up,L.first,L.next,L.prev,L.ep,L.ue,ul.2 ⟨dg.2 ⟨hd.1,by simp,fun x h1 h2=>by grind⟩,fun x hx=> ?_⟩,?_,L.nth,L.ntag,L.tags,L.things⟩
 ·rcases C5.1 hx with h|h
  all_goals grind
 ·unfold Zr Zh;simp only;rw[Wn (by omega),cond_false,Wm (by omega),Int.add_sub_cancel,V1.2 ⟨by omega,by omega⟩];simp
section
variable {K:Nat} (hK:2^48<=K)
include hK
theorem A8c{c:Sv}{n:Fy}(L:W2 c n)(hw:Wo n){k:Int}(hk:0<=k/\k<c.L)(hn:k ∉ n.L):rx K c n k=some (Zh n k,true):=by
 have hm:=V8;have L2:=A8b L hk hn;have b0:=Gy L.conf;have h1:=Y9 L.conf L.dist;have h3:=L.nth;have h4:=L.ntag;have e:Fy.mk n.c n.a n.f n.s n.t n.i n.u n.v (n.L++[k]) (A4 k 1) 0 n.y n.j=Zh n k:=by grind [Zh,Yl]
 unfold rx;have hb:Zh n k=Zh n k:=rfl;rw[ii K hw,Z0,show(n.c != 1)=false by rw[L.st];rfl,cond_false,Xl,ia hK L.conf,V1.2 ⟨by omega,by omega⟩,Z0,Bool.not_true,cond_false,if_pos ⟨by grind,by grind⟩,e];have hl:(Zh n k).L.length=n.L.length+1:=by grind
 rw[pu hK c (Zh n k) (by omega) (show n.y.length<=_ by omega) (show n.j.length<=_ by omega),(Xm.2 L2).1];rfl
omit hK in
theorem Ch.le{w:H4}{E E':Int}{n m:Nat}(G:Ch w E n)(hE:E<=E')(h:n<=m):Ch w E' m:=⟨G.inv,G.mem,fun k hk=>by have:=G.ep k hk;exact⟨Int.le_trans this.ep hE,Int.le_trans this.ue hE,this.cur⟩,Dn G.wt h,Int.le_trans G.cn hE⟩
theorem Bwl{E:Int}{n:Nat}(hE:0<=E/\E<=900000000)(hn:n<=900000000){w:H4}(G:Ch w E n){p at_ ch:Int}(hp:p= -1\/Ye w.o p/\(V0 w.o w.o.length p).length<4)(ha:(0<=at_/\at_<(w.o.length:Int))/\(gt w.o at_).c=0)(hc:Zx w.Q ch 1=true)(hcn:(cnt w:Int)+1<=E):
  ∃p' l',nk K w.Q ch 1 at_=some p'/\(p= -1->l'=w.o.set at_.toNat (newN (gt w.o at_).a ch))/\(p≠ -1->ry K (w.o.set at_.toNat (newN (gt w.o at_).a ch)) p at_=some l')/\Ch (H4.mk w.C p' l' w.p w.q) E (n+18)/\l'.length=w.o.length:=by
 have I:=G.inv;have W:=G.wc (by omega);obtain⟨t,A,F⟩:=I.forest;have b0:=Gy I.conf;have P:=W6.1 I.pool;have hst:=P.st;have how:=P.own;have hlen:=I.len;obtain⟨f1,f2,f3,f4⟩:=mq.1 hc;have M:Alb w t at_ ch p:=⟨ha.1,ha.2,hc,hp.imp_right fun h=>⟨h.1.al A,by rw[A3u A I.rg]at h;exact h.2⟩⟩
 obtain⟨p',ep,T⟩:=A78 hK W.p (by omega) (by omega) (k:=at_) hc;have hg:=mh (I.node at_ ha.1);have hbare:=M.bare I;have hl': ∃l',(p= -1->l'=w.o.set at_.toNat (newN (gt w.o at_).a ch))/\(p≠ -1->ry K (w.o.set at_.toNat (newN (gt w.o at_).a ch)) p at_=some l')/\Bfe w l' at_ ch p:=by
  by_cases q:p= -1
  ·refine⟨w.o.set at_.toNat (newN (gt w.o at_).a ch),fun _=>rfl,fun h=>absurd q h,by simp,?_,fun x hx hne=> ?_⟩
   ·rw[il ha.1]
    grind [newN,qm]
   ·have hpx:x≠p:=by omega
    rw[ma ha.1.1 hx (Ne.symm hne),if_neg hpx,if_neg (fun r=>r.1 (by omega))];rfl
  ·obtain⟨al,_⟩:=hp.resolve_left q;have al:=al.al A;have hpi:=al.lv.1;have hpl:=(Zc A).1 al.lv;have hne:p≠at_:=fun e=>by grind
   have hgp: ∀v,gt (w.o.set at_.toNat v) p=gt w.o p:=fun v=>ma ha.1.1 hpi (Ne.symm hne) v
   have hnw:Wo (newN (gt w.o at_).a ch):=⟨Vz (x:=(1:Int)) (by omega) (by omega),Vz (by show _<=(gt w.o at_).a;omega) (by show(gt w.o at_).a<=_;omega),Wj,Wj,Wj,Wj,Wj,Wj,mj (fun x hx=>by rw[Dt.1 (show x∈[ch] from hx)];omega) (by show [ch].length<=_;simp),Vz (by show _<=ch+1;omega) (by show ch+1<=_;omega),Wj,A3f,ik⟩;have hW:V2 (w.o.set at_.toNat (newN (gt w.o at_).a ch)):=by
    refine⟨fun x hx=> ?_,by grind⟩;rcases Mv hx with h|h
    ·exact W.l.1 x h
    grind
   have hfr:=(I.rg.rg p hpi).2.1;obtain⟨l',e,L⟩:=Bwg hK hW (by grind) (p:=p) (k:=at_) (by grind) (by grind) hne (by grind) (by
    rw[hgp];intro e;have h1:=(F.tree.link p al.lv).first (by rw[A p hpi];show(gt w.o p).i≠0;omega);have h2:=((Zc A).1 h1.1).2;rw[A p hpi]at h2;have h2:(gt w.o ((gt w.o p).i - 1)).c=1:=h2
    grind)
   refine⟨l',fun h=>absurd h q,fun _=>e,by rw[L.len];simp,?_,fun x hx hxk=> ?_⟩
   ·rw[L.at_,il ha.1,hgp];unfold newN qm
    grind
   ·rw[L.ot x (by grind) hxk,ma ha.1.1 hx (Ne.symm hxk),hgp]
    grind
 obtain⟨l',h1,h2,L⟩:=hl';have I':=Bwh I A F M T L;refine⟨p',l',ep,h1,h2,⟨I',?_,fun x hx=> ?_,?_,?_⟩,L.len⟩
 ·show ∀x∈p'.g,_;rw[T.mem];exact G.mem
 ·have hx:0<=x/\x<(l'.length:Int):=hx;rw[L.len]at hx;show ap E (gt l' x);by_cases e:x=at_
  ·rw[e,L.at_];refine⟨hE.1,?_,⟨by show 0<=ch+1;omega,by show ch+1<=_;omega⟩⟩;show(if p+1=0 then 0 else(gt w.o p).f)<=E;split
   ·exact hE.1
   ·rename_i q;have:=(hp.resolve_left (by omega)).1.al A;exact(G.ep p this.lv.1).ep
  ·rw[L.ot x hx e];have:=G.ep x hx;exact⟨this.ep,this.ue,this.cur⟩
 ·have hs:=fj (f:=Wq w.C) L.len ha.1 fun x hx hne=>by rw[L.ot x hx hne];rfl
  have e0:Wq w.C (gt w.o at_)=0:=by grind [Ak6]
  have e1:Wq w.C (gt l' at_)<=18:=by
   rw[L.at_];unfold Wq qm
   grind
  have h3:=G.wt;unfold wt pot at h3 ⊢
  grind
 ·have hs:=fj (f:=Wz) L.len ha.1 fun x hx hne=>by rw[L.ot x hx hne];rfl
  have e1:Wz (gt l' at_)<=1:=by unfold Wz;split<;>omega
  unfold cnt at hcn ⊢;show(((l'.map Wz).sum+w.p.length:Nat):Int)<=E;omega
theorem Alc{E:Int}{n:Nat}(hE:0<=E/\E<=890000000)(hn:n<=900000000){w:H4}(G:Ch w E n){p:Int}(a b:Sw)(hp:a.F=0->p= -1\/Ye w.o p/\(V0 w.o w.o.length p).length<4):
  ∃r w',jx K p w.C.L w.C.k w.C.l w.C.e w.C.m w.C.n w.Q.g w.Q.c w.Q.h w.o w.p w.q a b=some (r,w')/\Ch w' (E+1) (n+18)/\w'.C=w.C:=by
 unfold jx;by_cases h0:a.F=0
 ·have hp:=hp h0;rw[h0];simp only[bne_self_eq_false,cond_false];obtain⟨d,w1,e1,S⟩:=A77 hK (by omega:0<=E/\E<=1000000000) (by omega) 1 (run:=1) (by omega) G;rw[show H4.mk (Sv.mk w.C.L w.C.k w.C.l w.C.e w.C.m w.C.n) (Pc.mk w.Q.g w.Q.c w.Q.h) w.o w.p w.q=w from rfl,e1];simp only[Z0];have G1:=S.good;have T1:=S.stay;have P1:=W6.1 G1.inv.pool;have hst:=P1.st;have hlen:=G1.inv.len;have b0:=Gy G1.inv.conf;obtain⟨at_,e2,h2⟩:=Bwe hK (l:=w1.o) (by omega);obtain⟨ch,e3,h3⟩:=Bfb hK (p:=w1.Q) (by omega);rw[e2,e3];simp only[Z0];have G1':=Ch.le G1 (by omega:E<=E+1) (by omega:n<=n+18);have Gp:=Ch.le G1 (by omega:E<=E+1) (Z9 n);by_cases q1:at_<0
  ·rw[decide_eq_true q1];exact⟨_,_,rfl,G1',T1.conf⟩
  ·rw[decide_eq_false q1];simp only[cond_false];by_cases q2:ch<0
   ·rw[decide_eq_true q2];exact⟨_,_,rfl,G1',T1.conf⟩
   ·rw[decide_eq_false q2];simp only[cond_false];obtain⟨hat,hfree⟩:=h2.resolve_left (by omega);have hch:=h3.resolve_left (by omega);obtain⟨f1,f2,f3,f4⟩:=mq.1 hch;have hp1:p= -1\/Ye w1.o p/\(V0 w1.o w1.o.length p).length<4:=hp.imp_right fun h=>by
     obtain⟨x1,_,x3⟩:=T1.node p h.1;rw[x3,T1.len]
     grind
    obtain⟨p',l',et,k1,k2,G2,hl2⟩:=Bwl hK (by omega) hn Gp hp1 ⟨hat,hfree⟩ hch (by have:=G1.cn;omega);have hg:=mh (G1.inv.node at_ hat);have L0:W2 w1.C (Fy.mk 1 (gt w1.o at_).a 0 0 0 0 0 0 [] 0 0 [] []):=⟨G1.inv.conf,rfl,hg.2.2,⟨Int.le_refl 0,by grind⟩,⟨Int.le_refl 0,by grind⟩,⟨Int.le_refl 0,by grind⟩,⟨Int.le_refl 0,by grind⟩,Int.le_refl 0,Int.le_refl 0,rfl,rfl,Hc _,Hc _,rfl,rfl⟩;have W0:Wo (Fy.mk 1 (gt w1.o at_).a 0 0 0 0 0 0 [] 0 0 [] []):=jc (E:=0) (Xm.2 L0).1 ⟨Int.le_refl 0,Int.le_refl 0,Int.le_refl 0,by grind⟩ (by omega);unfold bz;simp only[Z0,if_pos hat];rw[et,Z0,A8c hK L0 W0 ⟨f1,by omega⟩ (by grind),Z0];simp only;have hnew:Zh (Fy.mk 1 (gt w1.o at_).a 0 0 0 0 0 0 [] 0 0 [] []) ch=newN (gt w1.o at_).a ch:=rfl;rw[hnew];by_cases q3:p= -1
    ·rw[decide_eq_false (by omega: ¬p>=0)];simp only[cond_false];rw[<-k1 q3];obtain⟨hd,eh⟩:=A8a (K:=K) (l:=l') (by omega) at_
     obtain⟨t,w2,es,S2⟩:=A33 hK (E:=E+1) (n:=n+18) (by omega) (by omega) w1.C.e G2;unfold xh;rw[eh,Z0,show H4.mk (Sv.mk w1.C.L w1.C.k w1.C.l w1.C.e w1.C.m w1.C.n) (Pc.mk p'.g p'.c p'.h) l' w1.p w1.q=H4.mk w1.C p' l' w1.p w1.q from rfl,es];exact⟨_,_,rfl,S2.good,S2.stay.conf.trans T1.conf⟩
    ·have hp2:0<=p:=by
      obtain⟨t,A,F⟩:=G1.inv.forest;exact((hp1.resolve_left q3).1.al A).lv.1.1
     rw[decide_eq_true (show p>=0 from hp2)];simp only[cond_true];rw[k2 q3,Z0];obtain⟨hd,eh⟩:=A8a (K:=K) (l:=l') (by omega) at_
     obtain⟨t,w2,es,S2⟩:=A33 hK (E:=E+1) (n:=n+18) (by omega) (by omega) w1.C.e G2;unfold xh;rw[eh,Z0,show H4.mk (Sv.mk w1.C.L w1.C.k w1.C.l w1.C.e w1.C.m w1.C.n) (Pc.mk p'.g p'.c p'.h) l' w1.p w1.q=H4.mk w1.C p' l' w1.p w1.q from rfl,es];exact⟨_,_,rfl,S2.good,S2.stay.conf.trans T1.conf⟩
 ·rw[Ym h0];exact⟨_,_,rfl,Ch.le G (by omega:E<=E+1) (by omega),rfl⟩
theorem Bfh{E:Int}{n:Nat}(hE:0<=E/\E<=890000000)(hn:n<=900000000){w:H4}(G:Ch w E n){p:Int}(v:Bool)(a b:Sw)(hp:v=false->p= -1\/Ye w.o p/\(V0 w.o w.o.length p).length<4):
  ∃r w',xi K p v w.C.L w.C.k w.C.l w.C.e w.C.m w.C.n w.Q.g w.Q.c w.Q.h w.o w.p w.q a b=some (r,w')/\Ch w' (E+1) (n+18)/\w'.C=w.C:=by
 have W:=G.wc (by omega);have hlen:=G.inv.len;have b0:=Gy G.inv.conf;unfold xi;cases v with
 |true=>exact Alc hK hE hn G (p:=p) (Sw.mk 3 a.P a.b a.A a.G a.e a.H) b (fun h=>absurd (show(3:Int)=0 from h) (by decide))
 |false=>
  simp only[cond_false];rw[show H4.mk (Sv.mk w.C.L w.C.k w.C.l w.C.e w.C.m w.C.n) (Pc.mk w.Q.g w.Q.c w.Q.h) w.o w.p w.q=w from rfl];obtain⟨r,er⟩:=Bwk hK W (by omega);rw[er,Z0];cases r==0 with
  |true=>exact Alc hK hE hn G (p:=p) (Sw.mk 4 a.P a.b a.A a.G a.e a.H) b (fun h=>absurd (show(4:Int)=0 from h) (by decide))
  |false=>
   simp only[cond_false];obtain⟨f,ef⟩:=A79 hK W (by omega) 1;rw[ef,Z0];cases f with
   |false=>exact Alc hK hE hn G (p:=p) (Sw.mk 5 a.P a.b a.A a.G a.e a.H) b (fun h=>absurd (show(5:Int)=0 from h) (by decide))
   |true=>simp_all[Alc]
theorem Bwm{E:Int}{n:Nat}(hE:0<=E/\E<=890000000)(hn:n<=900000000){w:H4}(G:Ch w E n)(h:Lz): ∃r w',Azd K w h=some (r,w')/\Ch w' (E+1) (n+18)/\w'.C=w.C:=by
 have W:=G.wc (by omega);have hlen:=G.inv.len;have b0:=Gy G.inv.conf;have hup: ∃p c,Ayr K w h=some (p,c)/\(c=0->p= -1\/Ye w.o p):=by
  unfold Ayr;cases ((h.d==0)&&((h.a==0)&&true))with
  |true=>grind
  |false=>
   simp only[cond_false];rw[tp hK W.l,Z0];exact⟨_,_,rfl,fun h0=> .inr (uq G.inv h0)⟩
 obtain⟨p,c,ep,hp⟩:=hup;unfold Azd;rw[ep,Z0,qc hK w W.l,Z0];simp only;by_cases q:c=0
 ·rw[q];simp only[bne_self_eq_false,cond_false];rcases hp q with e|e
  ·simp_all[Bfh]
  ·have hpi:0<=p/\p<(w.o.length:Int):=by
    obtain⟨t,A,F⟩:=G.inv.forest;exact(e.al A).lv.1
   rw[decide_eq_true (show p>=0 from hpi.1)];simp only[cond_true];unfold wj;rw[A22 hK W.l p ⟨by omega,by omega⟩];simp only[Z0];refine Bfh hK hE hn G _ _ _ (fun hv=> .inr ⟨e,?_⟩)
   grind
 ·rw[Ym q];exact Alc hK hE hn G (p:=p) (Sw.mk c (Lz.mk 0 0) (Pd.mk (Lz.mk 0 0) 0 0) [] (Afd w h) 0 0) (Sw.mk 0 (Lz.mk 0 0) (Pd.mk (Lz.mk 0 0) 0 0) [] 0 0 0) (fun h=>absurd h q)
end
theorem A8d{c:Sv}{ch:List Int}{t:H3}(h:Xa c ch t=true){j:Int}(h0:t.B<=j)(h1:j<t.B+t.D):j / c.k∈ch:=by
 unfold Xa at h;rw[Z4,Z1]at h;obtain⟨ht,hc⟩:=h;obtain⟨hs,hin⟩:=tm ht;have b0:=Gy hin.1;have e1:t.B / c.k<=j / c.k:=Int.ediv_le_ediv (by omega) h0;have e2:j / c.k<=(t.B+t.D - 1) / c.k:=Int.ediv_le_ediv (by omega) (by omega);have:=hc (j / c.k - t.B / c.k).toNat (by grind)
 grind
theorem ur{a s j:Int}(hs:0<s)(h0:a*s<=j)(h1:j<a*s+s):j / s=a:=by
 have h2:a<=j / s:=(Int.le_ediv_iff_mul_le hs).2 h0;have h3:j / s<a+1:=Int.ediv_lt_of_lt_mul hs (by grind);omega
theorem ut{a b:H3}(h: ∀j,a.B<=j->j<a.B+a.D->b.B<=j->j<b.B+b.D->False):Ww a b=true:=by
 unfold Ww;rw[decide_eq_true_iff];by_cases h1:a.D<=0
 ·omega
 by_cases h2:b.D<=0
 ·omega
 by_cases h3:a.B+a.D<=b.B
 ·omega
 by_cases h4:b.B+b.D<=a.B
 ·omega
 exfalso;by_cases h5:a.B<=b.B
 ·exact h b.B h5 (by omega) (by omega) (by omega)
 ·exact h a.B (by omega) (by omega) (by omega) (by omega)
theorem Bfi{a b:H3}(h:Ww a b=true){j:Int}(h1:a.B<=j)(h2:j<a.B+a.D)(h3:b.B<=j)(h4:j<b.B+b.D):False:=by
 unfold Ww at h
 grind
theorem Bwn{l:List H3}:Y8 l=true ↔ l.Pairwise (fun a b=>Ww a b=true):=by
 unfold Y8;rw[Z1,List.pairwise_iff_getElem];constructor
 ·intro h i j hi hj hij;have:=h j (by grind)
  grind [List.mem_iff_getElem,K1]
 ·intro h j hj;rw[List.mem_range]at hj;rw[Z1];intro o ho;obtain⟨i,hi,e⟩:=List.mem_iff_getElem.1 ho
  grind [K1]
theorem Bfj{l:List H3}{t:H3}(h:Y8 l=true)(ht: ∀o∈l,Ww o t=true):Y8 (l++[t])=true:=by
 simp_all[Bwn,List.pairwise_append]
theorem Aln{c:Sv}{n:Fy}(L:W2 c n)(hc:0<=n.w/\n.w<=1000)(h0:n.w≠0):n.w - 1∈n.L/\0<=n.x/\n.x<=c.k:=by
 have:=L.cur;unfold Zr at this;rw[Wn h0,cond_false,Z4,V1,Wm (by omega)]at this
 grind
theorem Bfk{c:Sv}{ch ch':List Int}(h: ∀x∈ch,x∈ch'){t:H3}(ht:Xa c ch t=true):Xa c ch' t=true:=by
 unfold Xa at ht ⊢;rw[Z4,Z1]at ht ⊢;exact⟨ht.1,fun j hj=>List.contains_iff_mem.2 (h _ (List.contains_iff_mem.1 (ht.2 j hj)))⟩
def Alo (c:Sv)(n:Fy)(off size:Int):Fy:=Fy.mk n.c n.a n.f n.s n.t n.i n.u n.v n.L n.w (off+size) (n.y++[H3.mk ((n.w - 1)*c.k+off) size 0]) n.j
structure Bfl (c:Sv)(n:Fy)(off size:Int):Prop where
 cur:n.w≠0
 ho:n.x<=off
 hz:1<=size
 fit:off+size<=c.k
 cnt:n.y.length<12
structure av (c:Sv)(mem:List Int)(n:Fy):Prop where
 inch:n.y.all (Xa c n.L)=true
 apart:Y8 n.y=true
 loose:X7 c mem n=true
theorem Bfm{c:Sv}{mem:List Int}{n:Fy}{off size:Int}(L:W2 c n)(hc:0<=n.w/\n.w<=1000)(T:av c mem n)(S:Bfl c n off size):W2 c (Alo c n off size)/\av c mem (Alo c n off size):=by
 have b0:=Gy L.conf;obtain⟨m1,m2,m3⟩:=Aln L hc S.cur;have hm:=bh L.dist _ m1;have ho:=S.ho;have hz:=S.hz;have hf:=S.fit;have hn:=S.cnt;have hlo:=T.loose;unfold X7 at hlo;rw[Wn S.cur,Z52,Z4,Z1]at hlo;obtain⟨z1,z2⟩:=hlo;have q0:0<=(n.w - 1)*c.k:=Int.mul_nonneg (by omega) (by omega);have q1:(n.w - 1)*c.k+c.k<=c.L*c.k:=by
  have:(n.w - 1+1)*c.k<=c.L*c.k:=Int.mul_le_mul_of_nonneg_right (by omega) (by omega)
  grind
 have hby:Ws c=c.L*c.k:=by unfold Ws;rw[L.conf];rfl
 have d1:((n.w - 1)*c.k+off) / c.k=n.w - 1:=ur (by omega) (by omega) (by omega);have d2:((n.w - 1)*c.k+off+size - 1) / c.k=n.w - 1:=ur (by omega) (by omega) (by omega);have htb:Xi c (H3.mk ((n.w - 1)*c.k+off) size 0)=true:=by
  unfold Xi;rw[decide_eq_true (show bc c (H3.mk ((n.w - 1)*c.k+off) size 0) from⟨L.conf,hz,by grind,by grind⟩)]
  grind
 have htc:Xa c n.L (H3.mk ((n.w - 1)*c.k+off) size 0)=true:=by
  unfold Xa
  grind
 have hr: ∀o∈n.y,∀j,o.B<=j->j<o.B+o.D->(n.w - 1)*c.k+n.x<=j->j<(n.w - 1)*c.k+c.k->False:=fun o h j h1 h2 h3 h4=>Bfi (z2 o h) h1 h2 (b:=Xy c n) h3 (by show j<(n.w - 1)*c.k+n.x+(c.k - n.x);omega)
 refine⟨⟨L.conf,L.st,L.gen,L.up,L.first,L.next,L.prev,L.ep,L.ue,L.dist,?_,?_,L.ntag,L.tags,?_⟩,⟨?_,?_,?_⟩⟩
 ·unfold Zr Alo;simp only;rw[Wn S.cur,cond_false,Wm (by omega),List.contains_iff_mem.2 m1,V1.2 ⟨by omega,by omega⟩];rfl
 ·show(n.y++[_]).length<=12
  grind
 ·show(n.y++[_]).all (Xi c)=true
  grind [W2.things]
 ·show(n.y++[_]).all (Xa c n.L)=true
  grind [av.inch]
 ·refine Bfj T.apart fun o h=>ut fun j h1 h2 h3 h4=>hr o h j h1 h2 ?_ ?_
  all_goals grind
 ·unfold X7;rw[Bool.or_eq_true,Z4];refine .inr ⟨?_,?_⟩
  ·rw[qi]at z1 ⊢;intro j h1 h2 h3;have h1:((n.w - 1)*c.k+(off+size)).toNat<=j:=h1;have h2:j<((n.w - 1)*c.k+(off+size)).toNat+(c.k - (off+size)).toNat:=h2;refine z1 j ?_ ?_ h3
   ·show((n.w - 1)*c.k+n.x).toNat<=j;omega
   ·show j<((n.w - 1)*c.k+n.x).toNat+(c.k - n.x).toNat;omega
  ·show(n.y++[_]).all _=true;rw[List.all_append,Bb,Z4,Z4,Z1];refine⟨fun o h=>ut fun j h1 h2 h3 h4=>hr o h j h1 h2 ?_ ?_,ut fun j h1 h2 h3 h4=> ?_,rfl⟩
   ·have h3:(n.w - 1)*c.k+(off+size)<=j:=h3;omega
   ·have h4:j<(n.w - 1)*c.k+(off+size)+(c.k - (off+size)):=h4;omega
   ·have h2:j<(n.w - 1)*c.k+off+size:=h2;have h3:(n.w - 1)*c.k+(off+size)<=j:=h3;omega
def Zy (a n:Int):List Int:=(List.range n.toNat).map (fun(i:Nat)=>a+(i:Int))
theorem A34{a n x:Int}:x∈Zy a n ↔ a<=x/\x<a+n:=by
 unfold Zy;rw[A8];constructor
 ·grind
 ·intro h;exact⟨(x - a).toNat,by grind,by omega⟩
theorem Bwo (a n:Int):(Zy a n).Nodup:=by
 grind [Zy,List.nodup_range]
def fm (c:Sv)(n:Fy)(a run size:Int):Fy:=Fy.mk n.c n.a n.f n.s n.t n.i n.u n.v (n.L++Zy a run) n.w n.x (n.y++[H3.mk (a*c.k) size run]) n.j
structure A8e (c:Sv)(n:Fy)(a run size:Int):Prop where
 hz:c.k<size/\size<=200
 hr:run=We size c.k
 at_:0<=a/\a+run<=c.L
 new: ∀x∈n.L,¬(a<=x/\x<a+run)
 cnt:n.y.length<12
theorem Bfn{c:Sv}{mem:List Int}{n:Fy}{a run size:Int}(L:W2 c n)(hc:0<=n.w/\n.w<=1000)(T:av c mem n)(S:A8e c n a run size):W2 c (fm c n a run size)/\av c mem (fm c n a run size):=by
 have b0:=Gy L.conf;have hz:=S.hz;have ha:=S.at_;have hn:=S.cnt;have hrun:run=(size+c.k - 1) / c.k:=by
  rw[S.hr];unfold We;rw[V1.2 ⟨by omega,by omega⟩,V1.2 ⟨by omega,by omega⟩];rfl
 have hru:size<=run*c.k:=by
  have:=Int.lt_ediv_add_one_mul_self (size+c.k - 1) (show 0<c.k by omega)
  grind
 have hr1:1<=run:=by
  rw[hrun];exact(Int.le_ediv_iff_mul_le (by omega)).2 (by omega)
 have q0:0<=a*c.k:=Int.mul_nonneg (by omega) (by omega);have q1:a*c.k+run*c.k<=c.L*c.k:=by
  rw[<-Int.add_mul];exact Int.mul_le_mul_of_nonneg_right (by omega) (by omega)
 have hby:Ws c=c.L*c.k:=by unfold Ws;rw[L.conf];rfl
 have htb:Xi c (H3.mk (a*c.k) size run)=true:=by
  unfold Xi;rw[decide_eq_true (show bc c (H3.mk (a*c.k) size run) from⟨L.conf,by grind,q0,by grind⟩)];show(bif run==0 then _ else decide (size>c.k)&&(run==We size c.k&&(a*c.k) % c.k==0))=true;rw[Wn (by omega),cond_false,decide_eq_true (by omega),<-S.hr,Int.mul_emod_left];simp
 have hdv: ∀j,a*c.k<=j->j<a*c.k+size->a<=j / c.k/\j / c.k<a+run:=fun j h1 h2=>by
  refine⟨(Int.le_ediv_iff_mul_le (by omega)).2 h1,Int.ediv_lt_of_lt_mul (by omega) ?_⟩
  grind
 have htc:Xa c (n.L++Zy a run) (H3.mk (a*c.k) size run)=true:=by
  unfold Xa;rw[htb,Z30,Z1];intro j hj;rw[List.mem_range]at hj;have e1:=hdv (a*c.k) (Int.le_refl _) (by omega);have e2:=hdv (a*c.k+size - 1) (by omega) (by omega);have hj:j<((a*c.k+size - 1) / c.k - a*c.k / c.k+1).toNat:=hj;refine List.contains_iff_mem.2 (C5.2 (.inr (A34.2 ?_)))
  grind
 have hmono: ∀x∈n.L,x∈n.L++Zy a run:=fun x h=>C5.2 (.inl h)
 have hold: ∀o∈n.y,∀j,o.B<=j->j<o.B+o.D->a*c.k<=j->j<a*c.k+size->False:=fun o h j h1 h2 h3 h4=>S.new _ (A8d (Z1.1 T.inch o h) h1 h2) (hdv j h3 h4)
 have hd:=ul.1 L.dist;refine⟨⟨L.conf,L.st,L.gen,L.up,L.first,L.next,L.prev,L.ep,L.ue,?_,?_,?_,L.ntag,L.tags,?_⟩,⟨?_,?_,?_⟩⟩
 ·refine ul.2 ⟨dg.2 ⟨hd.1,Bwo _ _,fun x h1 h2=>S.new x h1 (A34.1 h2)⟩,fun x hx=> ?_⟩;rcases C5.1 hx with h|h
  ·grind
  ·have:=A34.1 h;omega
 ·have:=L.cur;unfold Zr at this ⊢;show(bif n.w==0 then n.x==0 else(n.L++Zy a run).contains (Ap n.w 1)&&Qi n.x 0 c.k)=true
  grind
 ·show(n.y++[_]).length<=12
  grind
 ·show(n.y++[_]).all (Xi c)=true
  grind [W2.things]
 ·show(n.y++[_]).all (Xa c (n.L++Zy a run))=true;rw[List.all_append,Bb,htc,Z4,Z1];exact⟨fun o h=>Bfk hmono (Z1.1 T.inch o h),rfl⟩
 ·exact Bfj T.apart fun o h=>ut fun j h1 h2 h3 h4=>hold o h j h1 h2 h3 h4
 ·have hlo:=T.loose;unfold X7 at hlo ⊢;rw[Bool.or_eq_true,Z4]at hlo ⊢;rcases hlo with h|⟨h,h'⟩
  ·exact .inl h
  ·by_cases e:n.w=0
   ·exact .inl (by show(n.w==0)=true;grind)
   ·refine .inr ⟨h,?_⟩;show(n.y++[_]).all (fun t=>Ww t (Xy c n))=true;rw[List.all_append,h',Bb,Z30,Z4];refine⟨ut fun j h1 h2 h3 h4=> ?_,rfl⟩;obtain⟨m1,m2,m3⟩:=Aln L hc e;have h3:(n.w - 1)*c.k+n.x<=j:=h3;have h4:j<(n.w - 1)*c.k+n.x+(c.k - n.x):=h4;have:=ur (a:=n.w - 1) (s:=c.k) (j:=j) (by omega) (by omega) (by omega);exact S.new _ m1 (by grind)
def qn (al:Int):Bool:=al==1||(al==2||al==4)
theorem A35 (K:Nat)(al:Int):np K al=some (qn al):=by
 grind [np,qn]
theorem Bfo{al:Int}(h:qn al=true):al=1\/al=2\/al=4:=by
 simp_all[qn]
theorem Bwp (K:Nat){b al:Int}(hb:0<=b/\b<=1000)(ha:qn al=true): ∃off,Azh K b al=some off/\b<=off/\off<=2000:=by
 unfold Azh;rw[Xl,V1.2 ⟨by omega,by omega⟩,A35,ha];simp only[Z0,cond_true,Bool.not_true,cond_false];have e:Ap (A4 b al) 1=b+al - 1:=by
  grind [Bfo,Ap,Aly,A4,Fp,Vs]
 rw[e];have key: ∀a:Int,1<=a->a<=4->Gx (Afg .i64 (b+a - 1) a) a=(b+a - 1) / a*a:=by
  intro a h1 h2;have h3:(b+a - 1) / a<=b+a - 1:=Int.ediv_le_self _ (by omega);have h4:0<=(b+a - 1) / a:=Int.ediv_nonneg (by omega) (by omega);have h5:=Zp (a:=(b+a - 1) / a) (b:=a) (m:=2000) (n:=4) h4 (by omega) (by omega) h2
  grind [Afg,Gx,Ci,Vs]
 rcases Bfo ha with h|h|h
 ·subst h;rw[if_pos (by decide),key 1 (by omega) (by omega)]
  grind
 ·subst h;rw[if_pos (by decide),key 2 (by omega) (by omega)]
  grind
 ·subst h;rw[if_pos (by decide),key 4 (by omega) (by omega)]
  grind
section
variable {K:Nat} (hK:2^48<=K)
include hK
theorem Bfp{c:Sv}{n:Fy}(L:W2 c n)(W:Wo n)(hc:0<=n.w/\n.w<=1000)(size al:Int)(hs: -1000000<=size/\size<=1000000): ∃at_ b,xj K c n size al=some (at_,b)/\(b=true-> ∃off,at_=(n.w - 1)*c.k+off/\n.w≠0/\n.x<=off/\1<=size/\off+size<=c.k):=by
 obtain⟨b1,b2,_⟩:=Gy L.conf;have h1:=Y9 L.conf L.dist;have h3:=L.nth;have h4:=L.ntag;unfold xj;rw[pu hK c n (by omega) (by omega) (by omega),(Xm.2 L).1];simp only[Z0,cond_true];by_cases q:n.w=0
 ·simp_all
 ·rw[Wn q,Xl];simp only[cond_false,Z0];by_cases q2:1<=size/\size<=c.k
  ·rw[V1.2 q2,A35];simp only[cond_true,Z0];cases ha:qn al with
   |false=>simp_all
   |true=>
    obtain⟨m1,m2,m3⟩:=Aln L hc q;have hm:=bh L.dist _ m1;obtain⟨off,eo,ho1,ho2⟩:=Bwp K (b:=n.x) ⟨m2,by omega⟩ ha;simp only[Bool.not_true,cond_false];rw[eo,Z0];have e1:A4 off size=off+size:=by grind [A4,Fp,Vs]
    have e2:Ap n.w 1=n.w - 1:=Wm (by omega);have h5:=Zp (a:=n.w - 1) (b:=c.k) (m:=12) (n:=16) (by omega) (by omega) (by omega) b2.2;have e3:Gx (n.w - 1) c.k=(n.w - 1)*c.k:=by grind [Gx,Ci,Vs]
    have e4:A4 ((n.w - 1)*c.k) off=(n.w - 1)*c.k+off:=by grind [A4,Fp,Vs]
    rw[e1,e2,e3,e4];by_cases q3:off+size>c.k
    all_goals simp_all[decide_eq_false]
  ·rw[A2y.2 q2];grind
theorem Bfq{c:Sv}{n:Fy}(L:W2 c n)(W:Wo n)(hc:0<=n.w/\n.w<=1000)(size al:Int)(hs: -1000000<=size/\size<=1000000): ∃n' b,xk K c n size al=some (n',b)/\(n'=n\/ ∃off,Bfl c n off size/\n'=Alo c n off size):=by
 have hm:=V8;obtain⟨b1,b2,_⟩:=Gy L.conf;have h3:=L.nth;obtain⟨at_,b,e,hb⟩:=Bfp hK L W hc size al hs;unfold xk;rw[ii K W,Z0,e,Z0];cases b with
 |false=>grind
 |true=>
  obtain⟨off,e1,h1,h2,h4,h5⟩:=hb rfl;obtain⟨m1,m2,m3⟩:=Aln L hc h1;have hmi:=bh L.dist _ m1;simp only[cond_true];by_cases q:(n.y.length:Int)>=12
  ·simp_all
  ·rw[decide_eq_false q];simp only[cond_false];rw[if_pos ⟨by grind,by grind⟩];refine⟨_,_,rfl,.inr ⟨off,⟨h1,h2,h4,h5,by omega⟩,?_⟩⟩;have e2:Ap n.w 1=n.w - 1:=Wm (by omega);have h6:=Zp (a:=n.w - 1) (b:=c.k) (m:=12) (n:=16) (by omega) (by omega) (by omega) b2.2;have e3:Gx (n.w - 1) c.k=(n.w - 1)*c.k:=by grind [Gx,Ci,Vs]
   have e4:Ap at_ ((n.w - 1)*c.k)=off:=by grind [Ap,Aly,Vs]
   have e5:A4 off size=off+size:=by grind [A4,Fp,Vs]
   rw[e2,e3,e4,e5,e1];rfl
theorem Bwq{c:Sv}{n:Fy}(L:W2 c n)(W:Wo n)(hc:0<=n.w/\n.w<=1000)(size al:Int)(hs: -1000000<=size/\size<=1000000): ∃b,Azi K c n size al=some b:=by
 have h1:=Y9 L.conf L.dist;have h3:=L.nth;have h4:=L.ntag;obtain⟨at_,b,e,hb⟩:=Bfp hK L W hc size al hs;unfold Azi;rw[e,pu hK c n (by omega) (by omega) (by omega),(Xm.2 L).1,Xl,A35,L.st];simp only[Z0];cases b<;>cases Qi size 1 c.k<;>exact⟨_,rfl⟩
theorem Bwr{c:Sv}{mem:List Int}{n:Fy}(L:W2 c n)(W:Wo n)(hc:0<=n.w/\n.w<=1000)(T:av c mem n){a run size:Int}(S:A8e c n a run size):nq K c n a size=some (fm c n a run size,true):=by
 have hm:=V8;obtain⟨b1,b2,_⟩:=Gy L.conf;have h1:=Y9 L.conf L.dist;have h3:=L.nth;have h4:=L.ntag;have hz:=S.hz;have ha:=S.at_;obtain⟨L2,T2⟩:=Bfn L hc T S;have hrun:run=(size+c.k - 1) / c.k:=by
  rw[S.hr];unfold We;rw[V1.2 ⟨by omega,by omega⟩,V1.2 ⟨by omega,by omega⟩];rfl
 have hru:size<=run*c.k:=by
  have:=Int.lt_ediv_add_one_mul_self (size+c.k - 1) (show 0<c.k by omega)
  grind
 have hr1:1<=run:=by
  rw[hrun];exact(Int.le_ediv_iff_mul_le (by omega)).2 (by omega)
 have q1:run*c.k<=c.L*c.k:=Int.mul_le_mul_of_nonneg_right (by omega) (by omega);have hby:Ws c=c.L*c.k:=by unfold Ws;rw[L.conf];rfl
 have e3:Gx a c.k=a*c.k:=by
  have h5:=Zp (a:=a) (b:=c.k) (m:=12) (n:=16) (by omega) (by omega) (by omega) b2.2
  grind [Gx,Ci,Vs]
 unfold nq gb gd;rw[ii K W,Z0,dv,L.conf];simp only[Z0,cond_true];rw[show(n.c != 1)=false by rw[L.st];rfl,cond_false,decide_eq_true (by omega),cond_true,pq,Z0,decide_eq_false (by omega),cond_false,Xl,ia hK L.conf,V1.2 ⟨by omega,by omega⟩];simp only[Z0,Bool.not_true,cond_false];rw[tk,Z0,<-S.hr,Z0];have key: ∀(f i:Nat) (v:List Int),(i:Int)<=run->run.toNat - i<f->v=n.L++(List.range i).map (fun(j:Nat)=>a+(j:Int))->jy K c a size run f (i:Int) (Fy.mk n.c n.a n.f n.s n.t n.i n.u n.v v n.w n.x n.y n.j) (Fy.mk 0 0 0 0 0 0 0 0 [] 0 0 [] []) n.c n.a n.f n.s n.t n.i n.u n.v n.L n.w n.x n.y n.j=some (fm c n a run size,true):=by
  intro f;induction f with
  |zero=>omega
  |succ f ih=>
   intro i v hi hf hv;have hvl:v.length=n.L.length+i:=by grind
   rw[jy];by_cases h:(i:Int)=run
   ·rw[decide_eq_false (by omega),cond_false,e3];simp only;rw[if_pos ⟨by grind,by grind⟩];have el:Fy.mk n.c n.a n.f n.s n.t n.i n.u n.v v n.w n.x (n.y++[H3.mk (a*c.k) size run]) n.j=fm c n a run size:=by
     grind [fm,Zy]
    have hl2:=L2.nth;have hl3:=Y9 L2.conf L2.dist;rw[el,pu hK c (fm c n a run size) (by omega) (by omega) (show n.j.length<=_ by omega),(Xm.2 L2).1];rfl
   ·have e1:A4 a (i:Int)=a+(i:Int):=by unfold A4 Fp;exact Xp (by omega)
    rw[decide_eq_true (by omega),cond_true,e1,K0 (by omega)];simp only;rw[if_pos ⟨by grind,by grind⟩];refine ih (i+1) _ (by omega) (by omega) ?_
    grind [List.range_succ]
 have:=key K 0 n.L (by omega) (by omega) (by simp);exact this
end
theorem Alr{w:H4}{E:Int}{n:Nat}(G:Ch w E n){k:Int}(hk:Ye w.o k){p':Pc}{n':Fy}
  (P':Zw w.C p') (hone: ∀c,0<=c/\c<w.C.L->(gt p'.c c=2 ↔ gt w.Q.c c=2)/\(gt p'.c c=1/\gt p'.h c=k ↔ c∈n'.L)/\ ∀x,x≠k->(gt p'.c c=1/\gt p'.h c=x ↔ gt w.Q.c c=1/\gt w.Q.h c=x))
  (hm:p'.g=w.Q.g) (hlk:Yp n'=Yp (gt w.o k)) (L:W2 w.C n') (T:av w.C w.Q.g n') (he:ap E n') {m:Nat} (hwt:Wq w.C n'<=Wq w.C (gt w.o k)+m):
  Ch (H4.mk w.C p' (w.o.set k.toNat n') w.p w.q) E (n+m)/\Ye (w.o.set k.toNat n') k/\gt (w.o.set k.toNat n') k=n':=by
 obtain⟨t,A,F⟩:=G.inv.forest;have al:=hk.al A;have hki:=al.lv.1;have hst:=((Zc A).1 al.lv).2;have hg: ∀x,0<=x/\x<(w.o.length:Int)->gt (w.o.set k.toNat n') x=if x=k then n' else gt w.o x:=fun x hx=>Y6 hki hx n'
 have hgk:gt (w.o.set k.toNat n') k=n':=il hki n';have A':V6 (w.o.set k.toNat n') t:=fun x hx=>by
  rw[Tb]at hx;rw[hg x hx,A x hx]
  grind
 have I':Bd (H4.mk w.C p' (w.o.set k.toNat n') w.p w.q):=by
  refine Bfc G.inv hki p' _ t (by simp) (fun x hx hne=>⟨_,_,_,by rw[hg x hx,if_neg hne];exact(Ak5 _).symm,?_,?_,?_⟩) (by omega) (by grind) A' F P' hm (by simp_all) (by grind [av.inch,av.apart,av.loose])
  ·rw[<-G.inv.len];exact(G.inv.rg.rg x hx).2.1
  ·rw[<-G.inv.len];exact(G.inv.rg.rg x hx).2.2.1
  ·rw[<-G.inv.len];exact(G.inv.rg.rg x hx).2.2.2
 refine⟨⟨I',by show ∀x∈p'.g,_;rw[hm];exact G.mem,fun x hx=> ?_,?_,?_⟩,⟨t,A',by grind⟩,hgk⟩
 ·have hx:0<=x/\x<((w.o.set k.toNat n').length:Int):=hx;rw[Tb]at hx;show ap E (gt (w.o.set k.toNat n') x)
  grind [Ch.ep]
 ·have hs:=fj (f:=Wq w.C) (l:=w.o) (l':=w.o.set k.toNat n') (by simp) hki fun x hx hne=>by grind
  rw[hgk]at hs;have h3:=G.wt
  grind [wt,pot]
 ·have hs:=fj (f:=Wz) (l:=w.o) (l':=w.o.set k.toNat n') (by simp) hki fun x hx hne=>by rw[hg x hx,if_neg hne]
  rw[hgk,show Wz n'=1 by unfold Wz;rw[if_pos L.st],show Wz (gt w.o k)=1 by unfold Wz;rw[if_pos hst]]at hs;have h3:=G.cn;unfold cnt at h3 ⊢;show(((((w.o.set k.toNat n').map Wz).sum+w.p.length:Nat)):Int)<=E;omega
theorem Ch.live{w:H4}{E:Int}{n:Nat}(G:Ch w E n){k:Int}(hk:Ye w.o k):(0<=k/\k<(w.o.length:Int))/\W2 w.C (gt w.o k)/\av w.C w.Q.g (gt w.o k)/\ap E (gt w.o k):=by
 obtain⟨t,A,F⟩:=G.inv.forest;have al:=(hk.al A).lv;obtain⟨t1,t2,t3⟩:=G.inv.thing k al.1;exact⟨al.1,G.inv.live A al,⟨t1,t2,t3⟩,G.ep k al.1⟩
theorem A8f{w:H4}(I:Bd w){k:Int}(hk:0<=k/\k<(w.o.length:Int)){ch:List Int}(h:ch=(gt w.o k).L): ∀c,0<=c/\c<w.C.L->(gt w.Q.c c=2 ↔ gt w.Q.c c=2)/\(gt w.Q.c c=1/\gt w.Q.h c=k ↔ c∈ch)/\ ∀x,x≠k->(gt w.Q.c c=1/\gt w.Q.h c=x ↔ gt w.Q.c c=1/\gt w.Q.h c=x):=fun c hc=>⟨Iff.rfl,by simp_all[Bd.own],fun _ _=>Iff.rfl⟩
theorem Bfr{w:H4}(I:Bd w){p':Pc}{a n k:Int}(hk:0<=k/\k<(w.o.length:Int))(hf:Zx w.Q a n=true)(T:uo w.Q p' a n k){ch:List Int}(h: ∀c,c∈ch ↔ c∈(gt w.o k).L\/a<=c/\c<a+n):
  Zw w.C p'/\ ∀c,0<=c/\c<w.C.L->(gt p'.c c=2 ↔ gt w.Q.c c=2)/\(gt p'.c c=1/\gt p'.h c=k ↔ c∈ch)/\ ∀x,x≠k->(gt p'.c c=1/\gt p'.h c=x ↔ gt w.Q.c c=1/\gt w.Q.h c=x):=by
 obtain⟨a1,a2⟩:=Bfd I hk hf T
 grind
section
variable {K:Nat} (hK:2^48<=K)
include hK
theorem Bfs{E:Int}{n:Nat}(hE:0<=E/\E<=900000000)(hn:n<=900000000){w:H4}(G:Ch w E n){k:Int}(hk:Ye w.o k)(size al:Int)(hs: -1000000<=size/\size<=1000000)(v19:Sw)(v20 v21 v22 v23 v24 v25 v26:Int)(v27:List Int)(v28 v29 v30:Int):
  ∃r w',xl K k size al w.C.L w.C.k w.C.l w.C.e w.C.m w.C.n w.Q.g w.Q.c w.Q.h w.o w.p w.q v19 v20 v21 v22 v23 v24 v25 v26 v27 v28 v29 v30=some (r,w')/\Ch w' E n/\w'.C=w.C/\w'.o.length=w.o.length:=by
 obtain⟨hki,L,T,e⟩:=G.live hk;have W:=jc (Xm.2 L).1 e (by omega);obtain⟨n',b,e1,h⟩:=Bfq hK L W e.cur size al hs;unfold xl;simp only[if_pos hki];rw[show Sv.mk w.C.L w.C.k w.C.l w.C.e w.C.m w.C.n=w.C from rfl,e1,Z0];have P:=W6.1 G.inv.pool;refine⟨_,_,rfl,?_,rfl,by simp⟩;rcases h with h|⟨off,S,h⟩
 ·rw[h];exact(Alr G hk (n':=gt w.o k) (m:=0) P (A8f G.inv hki rfl) rfl rfl L T e (by omega)).1
 ·rw[h];obtain⟨L2,T2⟩:=Bfm L e.cur T S;exact(Alr G hk (n':=Alo w.C (gt w.o k) off size) (m:=0) P (A8f G.inv hki rfl) rfl rfl L2 T2 ⟨e.ep,e.ue,e.cur⟩ (Z9 _)).1
theorem Bws{E:Int}{n:Nat}(hE:0<=E/\E<=900000000)(hn:n<=880000000){w:H4}(G:Ch w E n){k:Int}(hk:Ye w.o k)(size al:Int)(hs: -1000000<=size/\size<=1000000)(a4:Sw):
  ∃r w',Azj K w k size al a4=some (r,w')/\Ch w' E (n+16)/\w'.C=w.C/\w'.o.length=w.o.length:=by
 obtain⟨hki,L,T,e⟩:=G.live hk;have W:=jc (Xm.2 L).1 e (by omega);have WW:=G.wc (by omega);have hlen:=G.inv.len;have b0:=Gy G.inv.conf;obtain⟨nb,e1⟩:=Bwq hK L W e.cur size al hs;unfold Azj;simp only[if_pos hki];rw[e1,Z0];cases nb with
 |false=>
  simp only[cond_false];obtain⟨r,w',h1,h2,h3⟩:=Bfs hK hE (by omega) G hk size al hs (Sw.mk 0 (Lz.mk 0 0) (Pd.mk (Lz.mk 0 0) 0 0) [] 0 0 0) a4.F a4.P.d a4.P.a a4.b.P.d a4.b.P.a a4.b.f a4.b.r a4.A a4.G a4.e a4.H;exact⟨r,w',h1,Ch.le h2 (Int.le_refl E) (by omega),h3⟩
 |true=>
  simp only[cond_true];obtain⟨fb,ef⟩:=A79 hK WW (by omega) 1;rw[ef,Z0];cases fb with
  |false=>exact⟨_,_,rfl,Ch.le G (Int.le_refl E) (by omega),rfl,rfl⟩
  |true=>
   simp only[Bool.not_true,cond_false];obtain⟨d,w1,ed,S⟩:=A77 hK (by omega:0<=E/\E<=1000000000) (by omega) 0 (run:=1) (by omega) G;have G1:=S.good;obtain⟨hk1,⟨x1,x2,x3,hnode⟩,_⟩:=S.stay.node k hk;obtain⟨hki1,L1,T1,e1⟩:=G1.live hk1;have W1:=jc (Xm.2 L1).1 e1 (by omega);have WW1:=G1.wc (by omega);have P1:=W6.1 G1.inv.pool;have hst:=P1.st;have how:=P1.own;have hc1:=S.stay.conf;obtain⟨ch,ec,hch⟩:=Bfb hK (p:=w1.Q) (by grind);rw[ed,Z0];simp only;rw[ec,Z0];by_cases q:ch<0
   ·rw[decide_eq_true q];exact⟨_,_,rfl,Ch.le G1 (Int.le_refl E) (by omega),hc1,S.stay.len⟩
   ·rw[decide_eq_false q];simp only[cond_false];have hf:=hch.resolve_left (by omega);obtain⟨f1,f2,f3,f4⟩:=mq.1 hf;obtain⟨p',ep,T'⟩:=A78 hK WW1.p (by grind) (by omega) (k:=k) hf;have hnew:ch ∉ (gt w1.o k).L:=fun h=>by
     have:=((G1.inv.own k hki1 ch).1 h).2.1
     grind
    rw[ep,Z0];simp only[if_pos hki1];rw[A8c hK L1 W1 ⟨f1,by omega⟩ hnew,Z0];simp only[if_pos hki1];obtain⟨P',hone⟩:=Bfr G1.inv hki1 hf T' (ch:=(Zh (gt w1.o k) ch).L) fun c=>by
     show c∈(gt w1.o k).L++[ch] ↔ _
     grind
    have T2:av w1.C w1.Q.g (Zh (gt w1.o k) ch):=by
     refine⟨?_,T1.apart,?_⟩
     ·rw[Z1];exact fun o ho=>Bfk (fun x hx=>C5.2 (.inl hx)) (Z1.1 T1.inch o ho)
     ·refine Bff rfl rfl ((P1.one ch ⟨f1,by omega⟩).2.2.2 (f4 ch ⟨by omega,by omega⟩)) ?_;rw[Z1];intro o ho;refine ut fun j h1 h2 h3 h4=> ?_
      have h3:(ch+1 - 1)*w1.C.k+0<=j:=h3;have h4:j<(ch+1 - 1)*w1.C.k+0+(w1.C.k - 0):=h4;rw[Int.add_sub_cancel]at h3 h4;have:=ur (a:=ch) (s:=w1.C.k) (j:=j) (by omega) (by omega) (by omega);have h5:=A8d (Z1.1 T1.inch o ho) h1 h2
      grind
    obtain⟨G2,hk2,hg2⟩:=Alr G1 hk1 (n':=Zh (gt w1.o k) ch) (m:=16) P' hone T'.mem rfl (A8b L1 ⟨f1,by omega⟩ hnew) T2 ⟨e1.ep,e1.ue,⟨by show 0<=ch+1;omega,by show ch+1<=_;grind⟩⟩ (by
     have hz:w1.C.k.toNat<=16:=by grind
     have hst1:(Zh (gt w1.o k) ch).c=1:=L1.st;unfold Wq;rw[if_pos L1.st,if_pos hst1];show 2+(gt w1.o k).j.length+w1.C.k.toNat*((gt w1.o k).L++[ch]).length<=_;rw[Jd,List.length_singleton,Nat.mul_succ];omega)
    obtain⟨r,w',h1,h2,h3,h4⟩:=Bfs hK hE (n:=n+16) (by omega) G2 hk2 size al hs (Sw.mk 0 (Lz.mk 0 0) (Pd.mk (Lz.mk 0 0) 0 0) [] 0 0 0) a4.F a4.P.d a4.P.a a4.b.P.d a4.b.P.a a4.b.f a4.b.r a4.A a4.G a4.e d;refine⟨r,w',h1,h2,h3.trans hc1,h4.trans ?_⟩;show(w1.o.set _ _).length=_
    grind [Zf.len,Steps.stay]
theorem Bwt{E:Int}{n:Nat}(hE:0<=E/\E<=900000000)(hn:n<=900000000){w:H4}(G:Ch w E n){k:Int}(hk:Ye w.o k)(size:Int)(hs:w.C.k<size/\size<=200)(hcnt:(gt w.o k).y.length<12)(a4:Sw):
  ∃r w',Azg K w k size a4=some (r,w')/\Ch w' E (n+192)/\w'.C=w.C/\w'.o.length=w.o.length:=by
 have WW:=G.wc (by omega);have hlen:=G.inv.len;have b0:=Gy G.inv.conf;unfold Azg gd;rw[tk,Z0,Z0];obtain⟨fb,ef⟩:=A79 hK WW (by omega) (We size w.C.k);have hrun:We size w.C.k=(size+w.C.k - 1) / w.C.k:=by
  unfold We;rw[V1.2 ⟨by omega,by omega⟩,V1.2 ⟨by omega,by omega⟩];rfl
 have hr2:We size w.C.k<=1000:=by
  have:(size+w.C.k - 1) / w.C.k<=size+w.C.k - 1:=Int.ediv_le_self _ (by omega);omega
 have hr1:1<=We size w.C.k:=by
  rw[hrun];exact(Int.le_ediv_iff_mul_le (by omega)).2 (by omega)
 rw[ef,Z0];cases fb with
 |false=>exact⟨_,_,rfl,Ch.le G (Int.le_refl E) (by omega),rfl,rfl⟩
 |true=>
  simp only[Bool.not_true,cond_false];obtain⟨d,w1,ed,S⟩:=A77 hK (by omega:0<=E/\E<=1000000000) (by omega) 0 (run:=We size w.C.k) (by omega) G;have G1:=S.good;obtain⟨hk1,⟨x1,x2,x3,hnode⟩,_⟩:=S.stay.node k hk;obtain⟨hki1,L1,T1,e1⟩:=G1.live hk1;have W1:=jc (Xm.2 L1).1 e1 (by omega);have WW1:=G1.wc (by omega);have P1:=W6.1 G1.inv.pool;have hst:=P1.st;have how:=P1.own;have hc1:=S.stay.conf;rw[hc1]at hst how;obtain⟨at_,ec,hat⟩:=Bfa hK (p:=w1.Q) (n:=We size w.C.k) (by omega) (by omega);rw[ed,Z0];simp only;rw[ec,Z0];by_cases q:at_<0
  ·rw[decide_eq_true q];exact⟨_,_,rfl,Ch.le G1 (Int.le_refl E) (by omega),hc1,S.stay.len⟩
  ·rw[decide_eq_false q];simp only[cond_false];have hf:=hat.resolve_left (by omega);obtain⟨f1,f2,f3,f4⟩:=mq.1 hf;obtain⟨p',ep,T'⟩:=A78 hK WW1.p (by omega) (by omega) (k:=k) hf;have SP:A8e w1.C (gt w1.o k) at_ (We size w.C.k) size:=by
    refine⟨by grind,by rw[hc1],by grind,fun x hx h=> ?_,by rw[hnode];exact hcnt⟩;have:=((G1.inv.own k hki1 x).1 hx).2.1
    grind
   obtain⟨L2,T2⟩:=Bfn L1 e1.cur T1 SP;rw[ep,Z0];simp only[if_pos hki1];rw[Bwr hK L1 W1 e1.cur T1 SP,Z0]
   try simp only[if_pos hki1]
   obtain⟨P',hone⟩:=Bfr G1.inv hki1 hf T' (ch:=(fm w1.C (gt w1.o k) at_ (We size w.C.k) size).L) fun c=>by
    show c∈(gt w1.o k).L++Zy at_ (We size w.C.k) ↔ _
    simp_all[A34]
   obtain⟨G2,hk2,hg2⟩:=Alr G1 hk1 (n':=fm w1.C (gt w1.o k) at_ (We size w.C.k) size) (m:=192) P' hone T'.mem rfl L2 T2 ⟨e1.ep,e1.ue,e1.cur⟩ (by
    have hst1:(fm w1.C (gt w1.o k) at_ (We size w.C.k) size).c=1:=L1.st;unfold Wq;rw[if_pos L1.st,if_pos hst1];show 2+(gt w1.o k).j.length+w1.C.k.toNat*((gt w1.o k).L++Zy at_ (We size w.C.k)).length<=_;have hrl:(Zy at_ (We size w.C.k)).length<=12:=by grind [Zy]
    have:=Nat.mul_le_mul (show w1.C.k.toNat<=16 by grind) hrl;rw[Jd,Nat.mul_add];omega)
   refine⟨_,_,rfl,G2,hc1,?_⟩;show(w1.o.set _ _).length=_
   grind [Zf.len,Steps.stay]
theorem Bft{E:Int}{n:Nat}(hE:0<=E/\E<=900000000)(hn:n<=900000000){w:H4}(G:Ch w E n){k:Int}(hk:0<=k/\k<(w.o.length:Int))(h:Lz)(c a b d e f g:Int)(l:List Int)(x y z:Int):
  ∃r w',xm K h k w.C.L w.C.k w.C.l w.C.e w.C.m w.C.n w.Q.g w.Q.c w.Q.h w.o w.p w.q c a b d e f g l x y z=some (r,w')/\Ch w' E n/\w'.C=w.C:=by
 unfold xm;rw[show H4.mk (Sv.mk w.C.L w.C.k w.C.l w.C.e w.C.m w.C.n) (Pc.mk w.Q.g w.Q.c w.Q.h) w.o w.p w.q=w from rfl];cases c != 0 with
 |true=>grind
 |false=>
  simp only[cond_false];obtain⟨t,w2,es,S2⟩:=A33 hK (E:=E) (n:=n) (by omega) (by omega) w.C.e G;simp only[if_pos hk,es,Z0];exact⟨_,_,rfl,S2.good,S2.stay.conf⟩
theorem A8g{E:Int}{n:Nat}(hE:0<=E/\E<=900000000)(hn:n<=800000000){w:H4}(G:Ch w E n)(h:Lz){size al:Int}(hs:1<=size/\size<=200){k:Int}(a b:Sw)(hk:a.F=0->Ye w.o k/\(gt w.o k).y.length<12):
  ∃r w',rz K h size al k w.C.L w.C.k w.C.l w.C.e w.C.m w.C.n w.Q.g w.Q.c w.Q.h w.o w.p w.q a b=some (r,w')/\Ch w' E (n+192)/\w'.C=w.C:=by
 unfold rz gb;rw[show H4.mk (Sv.mk w.C.L w.C.k w.C.l w.C.e w.C.m w.C.n) (Pc.mk w.Q.g w.Q.c w.Q.h) w.o w.p w.q=w from rfl,show Sv.mk w.C.L w.C.k w.C.l w.C.e w.C.m w.C.n=w.C from rfl];by_cases h0:a.F=0
 ·obtain⟨hk,hcnt⟩:=hk h0;have hki:=(G.live hk).1;rw[h0];simp only[bne_self_eq_false,cond_false,Z0];by_cases q:size>w.C.k
  ·rw[decide_eq_true q];simp only[cond_true];obtain⟨r,w',h1,h2,h3,h4⟩:=Bwt hK hE (by omega) G hk size ⟨q,hs.2⟩ hcnt a;rw[h1,Z0];obtain⟨r2,w2,k1,k2,k3⟩:=Bft hK hE (n:=n+192) (by omega) h2 (k:=k) (by omega) h r.F r.P.d r.P.a r.b.P.d r.b.P.a r.b.f r.b.r r.A r.G r.e r.H
   grind
  ·rw[decide_eq_false q];simp only[cond_false];obtain⟨r,w',h1,h2,h3,h4⟩:=Bws hK hE (by omega) G hk size al (by omega) a;rw[h1,Z0];obtain⟨r2,w2,k1,k2,k3⟩:=Bft hK hE (n:=n+16) (by omega) h2 (k:=k) (by omega) h r.F r.P.d r.P.a r.b.P.d r.b.P.a r.b.f r.b.r r.A r.G r.e r.H;exact⟨r2,w2,k1,Ch.le k2 (Int.le_refl E) (by omega),k3.trans h3⟩
 ·rw[Ym h0];exact⟨_,_,rfl,Ch.le G (Int.le_refl E) (by omega),rfl⟩
theorem Bwu{E:Int}{n:Nat}(hE:0<=E/\E<=900000000)(hn:n<=800000000){w:H4}(G:Ch w E n)(h:Lz)(size al:Int): ∃r w',Azk K w h size al=some (r,w')/\Ch w' E (n+192)/\w'.C=w.C:=by
 have W:=G.wc (by omega);have G0:=Ch.le G (Int.le_refl E) (by omega:n<=n+192);unfold Azk;rw[Xl,Z0];by_cases q:1<=size/\size<=200
 ·rw[V1.2 q,A35];simp only[cond_true,Z0];cases qn al with
  |false=>exact⟨_,_,rfl,G0,rfl⟩
  |true=>
   simp only[Bool.not_true,cond_false];rw[tp hK W.l,Z0,qc hK w W.l,Z0];by_cases h0:(Xt w.o h).2=0
   ·have hal:=uq G.inv h0;have hki:=(G.live hal).1;rw[h0];simp only[beq_self_eq_true,cond_true];simp only[if_pos hki];by_cases q2:((gt w.o (Xt w.o h).1).y.length:Int)>=12
    ·rw[decide_eq_true q2];exact A8g hK hE hn G h q (al:=al) (k:=(Xt w.o h).1) (Sw.mk 8 (Lz.mk 0 0) (Pd.mk (Lz.mk 0 0) 0 0) [] (Afd w h) 0 0) (Sw.mk 0 (Lz.mk 0 0) (Pd.mk (Lz.mk 0 0) 0 0) [] 0 0 0) (fun f=>absurd (show(8:Int)=0 from f) (by decide))
    ·rw[decide_eq_false q2];exact A8g hK hE hn G h q (al:=al) (k:=(Xt w.o h).1) (Sw.mk 0 (Lz.mk 0 0) (Pd.mk (Lz.mk 0 0) 0 0) [] (Afd w h) 0 0) (Sw.mk 0 (Lz.mk 0 0) (Pd.mk (Lz.mk 0 0) 0 0) [] 0 0 0) (fun f=>⟨hal,by omega⟩)
   ·rw[Wn h0];exact A8g hK hE hn G h q (al:=al) (k:=(Xt w.o h).1) (Sw.mk (Xt w.o h).2 (Lz.mk 0 0) (Pd.mk (Lz.mk 0 0) 0 0) [] (Afd w h) 0 0) (Sw.mk 0 (Lz.mk 0 0) (Pd.mk (Lz.mk 0 0) 0 0) [] 0 0 0) (fun f=>absurd f h0)
 ·rw[A2y.2 q]
  grind
end
def Dg (mem:List Int)(p:Int)(s:List Int):List Int:=mem.take p.toNat++s++mem.drop (p.toNat+s.length)
def A36 (mem:List Int)(t:H3)(off:Int)(s:List Int):Bool:=decide ((0<=off/\(0:Int)<=(s.length:Int)/\off+(s.length:Int)<=t.D)/\0<=A4 t.B off/\A4 t.B off+(s.length:Int)<=(mem.length:Int))
def A8h (mem:List Int)(t:H3)(off:Int)(s:List Int):List Int×Bool:=bif A36 mem t off s then(Dg mem (A4 t.B off) s,true)else(mem,false)
theorem M0{mem:List Int}{p:Int}{s:List Int}(h0:0<=p)(h1:p+(s.length:Int)<=(mem.length:Int)):(Dg mem p s).length=mem.length:=by
 grind [Dg]
theorem Bwv{mem s:List Int}{p j:Nat}(hj:j<s.length)(hp:p+s.length<=mem.length):(mem.take p++s.take j++mem.drop (p+j)).set (p+j) s[j]=mem.take p++s.take (j+1)++mem.drop (p+(j+1)):=by
 have hl:(mem.take p++s.take j).length=p+j:=by grind
 rw[List.set_append_right _ _ (by omega),hl,Nat.sub_self,Z47 (by omega:p+j<mem.length),List.set_cons_zero,<-List.take_append_getElem hj]
 grind
section
variable {K:Nat} (hK:2^48<=K)
include hK
theorem Bww{mem s:List Int}(hm:mem.length<=140737488355327)(p:Int)(hs:s.length<=140737488355327):A0i K mem p s=some (bif decide (0<=p/\(0:Int)<=(s.length:Int)/\p+(s.length:Int)<=(mem.length:Int))then(Dg mem p s,true)else(mem,false)):=by
 have hx:=V8;unfold A0i;simp only[Hd];rw[if_pos (by omega),Bdk K hm,Z0,Wl];by_cases h:0<=p/\(0:Int)<=(s.length:Int)/\p+(s.length:Int)<=(mem.length:Int)
 ·rw[decide_eq_true h,cond_true,cond_true];obtain⟨q,rfl⟩: ∃q:Nat,p=q:=⟨p.toNat,by omega⟩;have:=A28 hK s (by omega) (fun _=>true) (some (Dg mem (q:Int) s,true)) none (fun n j=>kr K (q:Int) s n (mem.take q++s.take j++mem.drop (q+j)) (j:Int)) (fun n j hj=> ?_) (fun n=> ?_)
  ·rw[Z1.2 (fun _ _=>rfl)]at this;simp_all
  ·have hl:(mem.take q++s.take j++mem.drop (q+j)).length=mem.length:=by grind
   have e:A4 (q:Int) (j:Int)=((q+j:Nat):Int):=by grind [A4,Fp,Vs]
   show kr K (q:Int) s (n+1) _ _=_;rw[kr,Pz hj,cond_true,if_pos (Gz hj),e,hl,if_pos (by omega),K0 (by omega),K1 hj,Int.toNat_natCast,Bwv hj (by omega)];rfl
  ·show kr K (q:Int) s (n+1) _ _=_;simp_all[kr,Dg]
 grind
theorem Bwx{mem s:List Int}(hm:mem.length<=140737488355327)(hs:s.length<=140737488355327){t:H3}(wt:ThingW t)(off:Int):A0j K mem t off s=some (A8h mem t off s):=by
 have hx:=V8;obtain⟨wl1,wl2⟩:=wt.2.1;unfold A0j yd A8h A36;simp only[Hd];rw[if_pos (by omega),Bww hK hm _ hs];simp only[Z0];rw[decide_eq_true (show(s.length:Int)>=0 by omega)];by_cases h1:(0:Int)<=off
 ·rw[decide_eq_true (show off>=0 from h1)];by_cases h3:off<=t.D
  ·rw[decide_eq_true h3];have e:Ap t.D off=t.D - off:=by grind [Ap,Aly,Vs]
   grind
  grind
 grind
end
def Bfu (n:Fy)(v:Int):Fy:=Fy.mk n.c n.a n.f n.s n.t n.i n.u n.v n.L n.w n.x n.y (n.j++([v]:List Int))
theorem Bwy (K:Nat)(r:Pd): ∃b,A0d K r=some b:=by
 unfold A0d;rw[Bc7];simp only[Z0];cases px r.P<;>cases decide (r.f>=0)<;>exact⟨_,rfl⟩
theorem Bwz (K:Nat){n:Fy}(hn:Wo n)(r:Pd): ∃t b,A0e K n r=some (t,b)/\(b=true->t∈n.y):=by
 have h2:=hn.things;have hl:n.y.length<=140737488355327:=by have:=h2.2;omega
 unfold A0e;rw[bd K hl];simp only[Z0];by_cases hs:0<=r.r/\r.r<(n.y.length:Int)
 ·rw[decide_eq_true hs,if_pos hs];have hm:gt n.y r.r∈n.y:=Wi hs.1 hs.2;cases n.c != 1<;>cases n.f != r.f<;>first|simp_all|grind
 ·rw[decide_eq_false hs];simp_all
theorem Bfv{K:Nat}(hK:2^48<=K){w:H4}(I:Bd w)(hw:V2 w.o)(r:Pd): ∃k t c,yc K w r=some (k,t,c)/\(c=0->Ye w.o k/\t∈(gt w.o k).y):=by
 unfold yc;obtain⟨b,h1⟩:=Bwy K r;rw[h1,tp hK hw];simp only[Z0];cases b with
 |false=>exact⟨_,_,_,rfl,fun h=>by cases h⟩
 |true=>
  simp only[Bool.not_true,cond_false];by_cases h0:(Xt w.o r.P).2=0
  ·have hi:=Bs6 h0;have hal:=uq I h0;rw[if_pos hi,h0];obtain⟨q,b,h3,h4⟩:=Bwz K (hw.1 _ (Wi hi.1 hi.2)) r;rw[h3];simp only[Z0,bne_self_eq_false,cond_false];cases b with
   |false=>exact⟨_,_,_,rfl,fun h=>by cases h⟩
   |true=>exact⟨_,_,_,rfl,fun _=>⟨hal,h4 rfl⟩⟩
  ·rw[Ym h0]
   grind
theorem Bw0{mem:List Int}{p:Int}{s:List Int}(h0:0<=p)(h1:p+(s.length:Int)<=(mem.length:Int)){j:Nat}(hj:j<mem.length)(h: ¬(p<=(j:Int)/\(j:Int)<p+(s.length:Int))):gt (Dg mem p s) (j:Int)=gt mem (j:Int):=by
 have hl:=M0 h0 h1;rw[K1 (by omega),K1 hj];unfold Dg;by_cases q:(j:Int)<p
 ·grind
 ·rw[List.getElem_append_right (by grind),List.getElem_drop]
  grind
theorem Bw1{mem:List Int}{p:Int}{s:List Int}(hm: ∀x∈mem,0<=x/\x<=255)(hs: ∀x∈s,0<=x/\x<=255): ∀x∈Dg mem p s,0<=x/\x<=255:=by
 intro x hx;unfold Dg at hx;rcases C5.1 hx with h|h
 ·rcases C5.1 h with h|h
  ·exact hm x (Kk h)
  ·exact hs x h
 ·exact hm x (List.mem_of_mem_drop h)
theorem Bw2{w:H4}{E:Int}{n:Nat}(G:Ch w E n){k:Int}(hk:Ye w.o k){t:H3}(ht:t∈(gt w.o k).y){mem':List Int}(hl:mem'.length=w.Q.g.length)
  (hb: ∀x∈mem',0<=x/\x<=255) (hs: ∀j:Nat,j<w.Q.g.length-> ¬(t.B<=(j:Int)/\(j:Int)<t.B+t.D)->gt mem' (j:Int)=gt w.Q.g (j:Int)):
  Ch (H4.mk w.C (Pc.mk mem' w.Q.c w.Q.h) w.o w.p w.q) E n:=by
 have I:=G.inv;have P:=W6.1 I.pool;obtain⟨hki,L,T,e⟩:=G.live hk;have b0:=Gy I.conf;have hin: ∀j,t.B<=j->j<t.B+t.D->j / w.C.k∈(gt w.o k).L:=fun j h1 h2=>A8d (Z1.1 T.inch t ht) h1 h2
 have hz: ∀a m:Nat,Wd ((w.Q.g.drop a).take m)=true->(∀j:Nat,a<=j->j<a+m-> ¬(t.B<=(j:Int)/\(j:Int)<t.B+t.D))->Wd ((mem'.drop a).take m)=true:=by
  grind [qi]
 have hch: ∀c,0<=c/\c<w.C.L->gt w.Q.c c≠1-> ∀j:Nat,(c*w.C.k).toNat<=j->j<(c*w.C.k).toNat+w.C.k.toNat-> ¬(t.B<=(j:Int)/\(j:Int)<t.B+t.D):=by
  intro c hc hst j h1 h2 h3;have h0:0<=c*w.C.k:=Int.mul_nonneg hc.1 (by omega);have h4:=hin j h3.1 h3.2;rw[ur (a:=c) (by omega) (by omega) (by omega)]at h4;exact hst ((I.own k hki c).1 h4).2.1
 refine⟨A72 I (Pc.mk mem' w.Q.c w.Q.h) w.p w.q ⟨P.conf,by rw[<-P.mem];grind,P.st,P.own,fun c hc=> ?_⟩ (fun c hc=>⟨Iff.rfl,rfl⟩) (fun x hx=> ?_) rfl rfl (fun x hx=> ?_) I.chn I.chi I.log,hb,G.ep,G.wt,G.cn⟩
 ·obtain⟨p1,p2,p3,p4⟩:=P.one c hc;refine⟨p1,p2,p3,fun h=>hz _ _ (p4 h) fun j h1 h2=>hch c hc ?_ j h1 h2⟩
  grind
 ·have h3:=(I.thing x hx).2.2;by_cases hs1:(gt w.o x).c=1
  ·have Lx:=Xm.1 ⟨I.node x hx,hs1⟩;have ex:=G.ep x hx;by_cases hcur:(gt w.o x).w=0
   ·grind [X7]
   ·obtain⟨m1,m2,m3⟩:=Aln Lx ex.cur hcur;have hm:=bh Lx.dist _ m1;have h0:0<=((gt w.o x).w - 1)*w.C.k:=Int.mul_nonneg hm.1 (by omega);unfold X7 at h3 ⊢;rw[Wn hcur,Z52,Z4]at h3 ⊢;refine⟨hz _ _ h3.1 fun j h1 h2 h4=> ?_,h3.2⟩;have h1:(((gt w.o x).w - 1)*w.C.k+(gt w.o x).x).toNat<=j:=h1;have h2:j<(((gt w.o x).w - 1)*w.C.k+(gt w.o x).x).toNat+(w.C.k - (gt w.o x).x).toNat:=h2;have h5:=hin j h4.1 h4.2;rw[ur (a:=(gt w.o x).w - 1) (by omega) (by omega) (by omega)]at h5;have e1:=((I.own k hki _).1 h5).2.2;have e2:=((I.own x hx _).1 m1).2.2;have exk:x=k:=by omega
    rw[exk]at h3 h1 h2;refine Bfi (Z1.1 h3.2 t ht) h4.1 h4.2 (b:=Xy w.C (gt w.o k)) ?_ ?_
    ·grind
    ·show(j:Int)<((gt w.o k).w - 1)*w.C.k+(gt w.o k).x+(w.C.k - (gt w.o k).x)
     grind
  ·rw[dh (I.node x hx) hs1];rfl
 ·obtain⟨a,b⟩:=I.wrec x hx;refine⟨a,?_⟩;have R:=Zm.1 a;by_cases hc:0<x.L.length
  ·have hm:gt x.L 0∈x.L:=Xe (i:=0) hc;have h1:=(I.chi _).1 (A7u hx hm);unfold Yk at b ⊢;rw[Bool.or_eq_true]at b ⊢;rcases b with b|b
   ·grind
   ·refine .inr (hz _ _ b fun j h2 h3=>hch _ h1.1 (by omega) j h2 ?_);have hd:=R.done
    grind
  grind [Yk]
section
variable {K:Nat} (hK:2^48<=K)
include hK
theorem Bw3{E:Int}{n:Nat}(hE:0<=E/\E<=900000000)(hn:n<=800000000){w:H4}(G:Ch w E n)(r:Pd)(off m:Int): ∃a,A0h K w r off m=some (w,a):=by
 have W:=G.wc (by omega);have P:=Ak3 (W6.1 G.inv.pool);obtain⟨k,t,c,e,h⟩:=Bfv hK G.inv W.l r;unfold A0h;rw[Ae6 hK W,A3a hK w W,G.inv.ok,e,qc hK w W.l];simp only[Z0,Bool.not_true,cond_false];by_cases h0:c=0
 ·obtain⟨hk,ht⟩:=h h0;have hT:=A70 (Z1.1 (G.live hk).2.1.things t ht);rw[h0];simp only[bne_self_eq_false,cond_false];rw[Bub K (by omega) hT,Z0];cases (A7g w.Q.g t off m).2<;>exact⟨_,rfl⟩
 simp_all[Ym]
theorem Bw4{E:Int}{n:Nat}(hE:0<=E/\E<=900000000)(hn:n<=800000000){w:H4}(G:Ch w E n)(r:Pd)(off:Int){s:List Int}(hs: ∀x∈s,0<=x/\x<=255)(hl:s.length<=1000000): ∃a w',A0k K w r off s=some (w',a)/\Ch w' E n/\w'.C=w.C:=by
 have W:=G.wc (by omega);have P:=Ak3 (W6.1 G.inv.pool);obtain⟨k,t,c,e,h⟩:=Bfv hK G.inv W.l r;unfold A0k;rw[Ae6 hK W,A3a hK w W,G.inv.ok,e,qc hK w W.l];simp only[Z0,Bool.not_true,cond_false];by_cases h0:c=0
 ·obtain⟨hk,ht⟩:=h h0;have htb:=Z1.1 (G.live hk).2.1.things t ht;have hT:=A70 htb;obtain⟨s1,s2,s3,s4⟩:=(tm htb).1;rw[h0];simp only[bne_self_eq_false,cond_false];rw[Bwx hK (by omega) (by omega) hT,Z0];unfold A8h;cases ho:A36 w.Q.g t off s with
  |false=>exact⟨_,_,rfl,G,rfl⟩
  |true=>
   unfold A36 at ho;rw[decide_eq_true_iff]at ho;have ea:A4 t.B off=t.B+off:=by grind [A4,Fp,Vs]
   rw[ea]at ho ⊢;refine⟨_,_,rfl,Bw2 G hk ht (M0 (by omega) (by omega)) (Bw1 G.mem hs) (fun j hj hne=>Bw0 (by omega) (by omega) hj (by omega)),rfl⟩
 ·rw[Ym h0];grind
theorem Bw5{E:Int}{n:Nat}(hE:0<=E/\E<=900000000)(hn:n<=800000000){w:H4}(G:Ch w E n)(h:Lz)(v:Int): ∃a w',A0m K w h v=some (w',a)/\Ch w' E (n+1)/\w'.C=w.C:=by
 have hm:=V8;have W:=G.wc (by omega);have G0:=Ch.le G (Int.le_refl E) (by omega:n<=n+1);unfold A0m yf A0l;rw[Ae6 hK W,A3a hK w W,G.inv.ok,Xl,tp hK W.l,qc hK w W.l];simp only[Z0,cond_true];by_cases hv:0<=v/\v<=255
 ·rw[V1.2 hv];simp only[Bool.not_true,cond_false];by_cases h0:(Xt w.o h).2=0
  ·have hal:=uq G.inv h0;obtain⟨hki,L,T,e⟩:=G.live hal;rw[h0];simp only[beq_self_eq_true,cond_true,if_pos hki];by_cases q:((gt w.o (Xt w.o h).1).j.length:Int)>=6
   ·rw[decide_eq_true q];grind
   ·rw[decide_eq_false q];simp only[cond_false];rw[if_pos ⟨by grind,by grind⟩];refine⟨_,_,rfl,?_,rfl⟩;have P:=W6.1 G.inv.pool;refine(Alr G hal (n':=Bfu (gt w.o (Xt w.o h).1) v) (m:=1) P (A8f G.inv hki rfl) rfl rfl ⟨L.conf,L.st,L.gen,L.up,L.first,L.next,L.prev,L.ep,L.ue,L.dist,L.cur,L.nth,?_,?_,L.things⟩ ⟨T.inch,T.apart,T.loose⟩ ⟨e.ep,e.ue,e.cur⟩ ?_).1
    ·show(_++[v]).length<=6
     grind
    ·show(_++[v]).all _=true;rw[List.all_append,L.tags,Bb,V1.2 hv];rfl
    ·have hst1:(Bfu (gt w.o (Xt w.o h).1) v).c=1:=L.st;unfold Wq;rw[if_pos L.st,if_pos hst1];show 2+(_++[v]).length+w.C.k.toNat*(gt w.o (Xt w.o h).1).L.length<=_
     grind
  ·rw[Wn h0]
   grind
 ·rw[A2y.2 hv];exact⟨_,_,rfl,G0,rfl⟩
theorem Bw6{E:Int}{n:Nat}(hE:0<=E/\E<=900000000)(hn:n<=800000000){w:H4}(G:Ch w E n)(h:Lz): ∃a,A0o K w h=some (w,a):=by
 have W:=G.wc (by omega);unfold A0o A0n;rw[Ae6 hK W,A3a hK w W,G.inv.ok,tp hK W.l,qc hK w W.l];simp only[Z0,Bool.not_true,cond_false];by_cases h0:(Xt w.o h).2=0
 ·have hal:=uq G.inv h0;obtain⟨hki,L,T,e⟩:=G.live hal;have hn:=W.l.1 _ (Wi hki.1 hki.2);rw[h0];simp only[beq_self_eq_true,cond_true,if_pos hki];unfold A5j;rw[pu hK _ _ (Yj hK hn.chunks) (A21 hK hn.things) (Yj hK hn.tags)];simp only[Z0];cases (gt w.o (Xt w.o h).1).w==0<;>cases Wv w.C (gt w.o (Xt w.o h).1)<;>exact⟨_,rfl⟩
 simp_all[Wn]
end
def aw (a:List Int):Prop:= ∀x∈a,0<=x/\x<=255
theorem Bw7{a b:List Int}(h:aw a)(g:aw b):aw (a++b):=by
 intro x hx;rcases C5.1 hx with h1|h1
 ·exact h x h1
 ·exact g x h1
def Vt (c:Sx):Prop:=aw c.fb/\c.fb.length<=1048576/\0<=c.fi/\c.fi<=(c.fb.length:Int)
theorem Bfw (x:Int):0<=Alz .i64 x 255/\Alz .i64 x 255<=255:=by
 grind [Alz,BitVec.ofInt,IntKind.bits,Nat.and_le_right,Vs]
theorem Bw8 (K:Nat){a:List Int}(hb:aw a)(ha:a.length<=1048576): ∀(n i:Nat) (v:Int),i<=a.length->a.length - i<n-> ∃c,vf K a n v (i:Int)=some c/\Vt c:=by
 intro n;induction n with
 |zero=>omega
 |succ n ih=>
  intro i v hi hn;rw[vf];have done: ∀v,Vt (Sx.mk a 0 v):=fun v=>⟨hb,ha,by grind,by grind⟩
  rcases Bj i a.length with h|h
  ·rw[Pz h];simp only[cond_true];cases decide ((i:Int)<4000)with
   |false=>grind
   |true=>
    simp only[cond_true];rw[if_pos (by omega),K0 (i:=i) (by omega)];exact ih (i+1) _ h (by omega)
  ·rw[Wu h];grind
theorem Bfx{K:Nat}(hK:2^48<=K){a:List Int}(hb:aw a)(ha:a.length<=1048576): ∃c,vg K a=some c/\Vt c:=by
 unfold vg;exact Bw8 K hb ha K 0 _ (Hc _) (by omega)
theorem A37 (K:Nat){c:Sx}(hc:Vt c): ∃r,jk K c=some r/\(0<=r.1/\r.1<=255)/\Vt r.2:=by
 obtain⟨h1,h2,h3,h4⟩:=hc;unfold jk Amg;rw[if_pos (by decide),if_pos (by decide)];by_cases h:c.fi<(c.fb.length:Int)
 ·rw[decide_eq_true h];simp only[cond_true];rw[if_pos ⟨h3,h⟩];have e:A4 c.fi 1=c.fi+1:=by grind [A4,Fp,Vs]
  exact⟨_,rfl,Bfw _,h1,h2,by grind,by grind⟩
 ·rw[decide_eq_false h];exact⟨_,rfl,Bfw _,h1,h2,h3,h4⟩
theorem Xv (K:Nat){c:Sx}(hc:Vt c){n:Int}(hn:0<n): ∃r,P2 K c n=some r/\(0<=r.1/\r.1<n)/\Vt r.2:=by
 unfold P2;rw[decide_eq_false (show ¬n<=0 by omega)];simp only[cond_false];obtain⟨r1,e1,b1,w1⟩:=A37 K hc;by_cases h:n<=256
 ·rw[decide_eq_true h,e1];simp only[cond_true,Z0];rw[if_pos (by omega)];simp_all[Int.tmod_nonneg,Int.tmod_lt_of_pos]
 ·rw[decide_eq_false h,e1];simp only[cond_false,Z0];obtain⟨r2,e2,b2,w2⟩:=A37 K w1;rw[e2];simp only[Z0];obtain⟨r3,e3,b3,w3⟩:=A37 K w2;rw[e3];simp only[Z0];rw[if_pos (by omega)];refine⟨_,rfl,⟨Int.tmod_nonneg _ ?_,Int.tmod_lt_of_pos _ hn⟩,w3⟩;unfold A4 Fp Gx Ci;rw[Xp (n:=r1.1*65536) (by omega),Xp (n:=r2.1*256) (by omega),Xp (n:=r1.1*65536+r2.1*256) (by omega),Xp (by omega)];omega
theorem mr (K:Nat){c:Sx}(hc:Vt c){n:Int}(hn:0<n): ∃r,ca K c n=some r/\Vt r.2:=by
 obtain⟨r,e,_,w⟩:=Xv K hc hn;simp_all[ca]
theorem ms (K:Nat){c:Sx}(hc:Vt c){l:List Int}(hl:0<l.length): ∃x c',Xc K c l=some (x,c',l)/\x∈l/\Vt c':=by
 obtain⟨r,e,b,w⟩:=Xv K hc (n:=(l.length:Int)) (by omega);unfold Xc;rw[e];simp only[Z0];rw[if_pos b];exact⟨_,_,rfl,Wi b.1 b.2,w⟩
theorem Bfy (K:Nat){c:Sx}(hc:Vt c)(n:Int): ∃r,P2 K c n=some r/\Vt r.2:=by
 by_cases h:0<n
 ·obtain⟨r,e,_,w⟩:=Xv K hc h
  grind
 ·unfold P2;simp_all
theorem Bw9 (x:Int):0<=IntKind.u8.wrap x/\IntKind.u8.wrap x<=255:=by rw[IntKind.wrap_u8];omega
theorem Bfz{K:Nat}(hK:2^48<=K){c:Sx}(hc:Vt c){n:Int}(h1:n<=1000): ∃b c',Aye K c n=some (b,c')/\aw b/\b.length<=1000/\Vt c':=by
 have hm:=V8;have key: ∀(f i:Nat) (l:List Int) (c:Sx),Vt c->aw l->l.length=i->(i:Int)<=1000->(1000 - i)<f-> ∃b c',vr K n f l (i:Int) c.fb c.fi c.fh=some (b,c')/\aw b/\b.length<=1000/\Vt c':=by
  intro f;induction f with
  |zero=>omega
  |succ f ih=>
   intro i l c hc hl hi h2 hf;rw[vr];by_cases q:(i:Int)<n
   ·obtain⟨r,e,_,w⟩:=A37 K hc;rw[decide_eq_true q,cond_true,show Sx.mk c.fb c.fi c.fh=c from rfl,e,Z0,if_pos ⟨by grind,by grind⟩,K0 (by omega)];exact ih (i+1) _ r.2 w (Bw7 hl fun x hx=>by simp_all[Bw9]) (by simp[hi]) (by omega) (by omega)
   ·rw[decide_eq_false q]
    grind
 exact key K 0 [] c hc (fun x hx=>by cases hx) rfl (by omega) (by omega)
def Vl (o:H5):Prop:=aw o.A/\o.A.length<=1000
theorem Y7 (k:Int)(h:Lz)(r:Pd)(n m:Int):Vl (H5.mk k h r n m []):=⟨(fun x hx=>by cases hx),Hc _⟩
theorem Bxa (K:Nat){c:Sx}(hc:Vt c): ∃h c',Axz K c=some (h,c')/\Vt c':=by
 unfold Axz;obtain⟨r,e,_,w⟩:=Xv K hc (n:=5) (by omega);obtain⟨q,e2,_,w2⟩:=Xv K w (n:=3) (by omega);rw[e,Z0,e2];exact⟨_,_,rfl,w2⟩
theorem A8i{K:Nat}(hK:2^48<=K){c:Sx}(hc:Vt c)(k:Int)(b:Bool)(r:Pd)(h:Lz){o:H5}(ho:Vl o)(p:H5): ∃o' c',qv K k b c.fb c.fi c.fh r h o p=some (o',c')/\Vl o'/\Vt c':=by
 unfold qv;have e0:Sx.mk c.fb c.fi c.fh=c:=rfl;rw[e0];cases b with
 |true=>exact⟨_,_,rfl,⟨ho.1,ho.2⟩,hc⟩
 |false=>
  simp only[cond_false];cases k==2 with
  |true=>
   simp only[cond_true];obtain⟨x,c1,e1,_,w1⟩:=ms K hc (l:=[1,2,3,5,8,9,17,20,0,201]) (by simp);obtain⟨y,c2,e2,_,w2⟩:=ms K w1 (l:=[1,1,2,4,3]) (by simp);rw[e1,Z0,if_pos rfl,e2,Z0,if_pos rfl];exact⟨_,_,rfl,⟨ho.1,ho.2⟩,w2⟩
  |false=>
   simp only[cond_false];cases k==3 with
   |true=>
    simp only[cond_true];obtain⟨x,e1,_,w1⟩:=Xv K hc (n:=4) (by omega);obtain⟨y,e2,_,w2⟩:=Xv K w1 (n:=5) (by omega);rw[e1,Z0,e2,Z0];exact⟨_,_,rfl,⟨ho.1,ho.2⟩,w2⟩
   |false=>
    simp only[cond_false];cases k==4 with
    |true=>
     simp only[cond_true];obtain⟨x,e1,_,w1⟩:=Xv K hc (n:=4) (by omega);obtain⟨y,e2,b2,w2⟩:=Xv K w1 (n:=4) (by omega);obtain⟨z,c3,e3,b3,l3,w3⟩:=Bfz hK w2 (n:=y.1) (by omega);rw[e1,Z0,e2,Z0,e3,Z0];exact⟨_,_,rfl,⟨b3,l3⟩,w3⟩
    |false=>
     simp only[cond_false];cases k==5 with
     |true=>
      simp only[cond_true];obtain⟨x,c1,e1,_,w1⟩:=ms K hc (l:=[1,7,255,256]) (by simp);rw[e1,Z0,if_pos rfl];exact⟨_,_,rfl,⟨ho.1,ho.2⟩,w1⟩
     |false=>exact⟨_,_,rfl,ho,hc⟩
theorem Bf0{K:Nat}(hK:2^48<=K){c:Sx}(hc:Vt c): ∃o c',vt K c=some (o,c')/\Vl o/\Vt c':=by
 unfold vt;obtain⟨r1,e1,_,w1⟩:=Xv K hc (n:=9) (by omega);obtain⟨h2,c2,e2,w2⟩:=Bxa K w1;obtain⟨r3,e3,_,w3⟩:=Xv K w2 (n:=2) (by omega);obtain⟨r4,e4,_,w4⟩:=Xv K w3 (n:=3) (by omega);rw[e1,Z0,e2,Z0,e3,Z0,e4,Z0];cases A4 1 r1.1==1 with
 |true=>
  simp only[cond_true];obtain⟨r5,e5,w5⟩:=mr K w4 (n:=2) (by omega);rw[e5,Z0];cases r5.1 with
  |true=>exact⟨_,_,rfl,Y7 _ _ _ _ _,w5⟩
  |false=>exact⟨_,_,rfl,Y7 _ _ _ _ _,w5⟩
 |false=>
  simp only[cond_false];cases A4 1 r1.1==6 with
  |true=>simp_all[A8i,Y7]
  |false=>
   simp only[cond_false];cases A4 1 r1.1==7 with
   |true=>simp_all[A8i,Y7]
   |false=>simp_all[A8i,Y7]
theorem Bf1 (K:Nat){c:Sx}(hc:Vt c): ∃x c',vi K c=some (x,c')/\Vw x=true/\Vt c':=by
 unfold vi;obtain⟨r1,e1,b1,w1⟩:=Xv K hc (n:=11) (by omega);obtain⟨x2,c2,e2,m2,w2⟩:=ms K w1 (l:=[8,8,9,12,16]) (by simp);obtain⟨r3,e3,b3,w3⟩:=Xv K w2 (n:=7) (by omega);obtain⟨r4,e4,b4,w4⟩:=Xv K w3 (n:=6) (by omega);obtain⟨x5,c5,e5,m5,w5⟩:=ms K w4 (l:=[1,3,4,8,16]) (by simp);obtain⟨r6,e6,b6,w6⟩:=Xv K w5 (n:=4) (by omega);rw[e1,Z0,e2,Z0,if_pos rfl,e3,Z0,e4,Z0,e5,Z0,if_pos rfl,e6];refine⟨_,_,rfl,?_,w6⟩;have a1:A4 2 r1.1=2+r1.1:=by grind [A4,Fp,Vs]
 have a3:A4 2 r3.1=2+r3.1:=by grind [A4,Fp,Vs]
 have a4:A4 1 r4.1=1+r4.1:=by grind [A4,Fp,Vs]
 have a6:A4 1 r6.1=1+r6.1:=by grind [A4,Fp,Vs]
 rw[a1,a3,a4,a6];have m2:x2=8\/x2=8\/x2=9\/x2=12\/x2=16:=by grind
 have m5:x5=1\/x5=3\/x5=4\/x5=8\/x5=16:=by grind
 unfold Vw;simp only[Z4,V1];omega
theorem Bxb{w:H4}{E:Int}{n:Nat}(G:Ch w E n)(hE:0<=E){k:Int}(hk:Ye w.o k):Ch (Zv w k) E n:=by
 obtain⟨t,A,F⟩:=G.inv.forest;have al:=hk.al A;have I':=Bvm G.inv A F al;obtain⟨hki,L,T,e⟩:=G.live hk;have R:=G.inv.rg;have hN:(Zv w k).o.length=w.o.length:=by grind [Zv,jb]
 have hg: ∀x,0<=x/\x<(w.o.length:Int)->gt (Zv w k).o x=if x=k then Wg 2 (gt (Yg w.o k) k).a else gt (Yg w.o k) x:=fun x hx=>by
  unfold Zv;simp only;rw[Y6 (by grind [jb]) (by grind [jb])];rfl
 refine⟨I',?_,fun x hx=> ?_,?_,?_⟩
 ·show ∀x∈(V9 w.Q _).g,_;rw[(mi G.inv hki).2.1];exact G.mem
 ·rw[hN]at hx;rw[hg x hx];by_cases q:x=k
  ·rw[if_pos q];exact⟨hE,hE,⟨Int.le_refl 0,by show(0:Int)<=1000;omega⟩⟩
  ·rw[if_neg q,ja R hki hx q];have:=G.ep x hx;exact⟨this.ep,this.ue,this.cur⟩
 ·have hs:=fj (f:=Wq w.C) hN hki fun x hx hne=>by rw[hg x hx,if_neg hne,ja R hki hx hne];rfl
  rw[hg k hki,if_pos rfl,Ak6 _ (by decide)]at hs;have e1:Wq w.C (gt w.o k)=2+(gt w.o k).j.length+w.C.k.toNat*(gt w.o k).L.length:=by unfold Wq;rw[if_pos L.st]
  have h3:=G.wt;unfold wt pot at h3 ⊢;show((Zv w k).o.map (Wq w.C)).sum+((w.p++[Wc (gt w.o k) (A4 k 1)]).map (Xr w.C)).sum+w.q.length<=_;have e2:Xr w.C (Wc (gt w.o k) (A4 k 1))=1+(gt w.o k).j.length+w.C.k.toNat*(gt w.o k).L.length:=rfl
  grind
 ·have hs:=fj (f:=Wz) hN hki fun x hx hne=>by rw[hg x hx,if_neg hne,ja R hki hx hne];rfl
  rw[hg k hki,if_pos rfl,show Wz (Wg 2 (gt (Yg w.o k) k).a)=0 from rfl,show Wz (gt w.o k)=1 by unfold Wz;rw[if_pos L.st]]at hs;have h3:=G.cn;unfold cnt at h3 ⊢;rw[show(Zv w k).p.length=w.p.length+1 from Jd];omega
theorem Bxc{w:H4}{E:Int}{n:Nat}(G:Ch w E n)(hE:0<=E/\E<=900000000){k:Int}(hk:Ye w.o k):Ch (bk w k) (E+1) (n+1):=by
 obtain⟨t,A,F⟩:=G.inv.forest;have al:=hk.al A;obtain⟨hki,L,T,e⟩:=G.live hk;have h0:=L.ep;have h1:=e.ep;have I':=Bvo G.inv A F al (by omega);have hN:(bk w k).o.length=w.o.length:=by grind [bk]
 have hg: ∀x,0<=x/\x<(w.o.length:Int)->gt (bk w k).o x=if x=k then db (gt w.o k)else gt w.o x:=fun x hx=>Y6 hki hx _
 refine⟨I',?_,fun x hx=> ?_,?_,?_⟩
 ·show ∀x∈(V9 w.Q _).g,_;rw[(mi G.inv hki).2.1];exact G.mem
 ·rw[hN]at hx;rw[hg x hx];have hx':=G.ep x hx;by_cases q:x=k
  ·rw[if_pos q];refine⟨?_,?_,⟨Int.le_refl 0,by show(0:Int)<=1000;omega⟩⟩
   ·show A4 (gt w.o k).f 1<=_
    grind [Yl]
   ·have:=e.ue;show(gt w.o k).t<=_;omega
  ·rw[if_neg q];have h2:=hx'.ep;have h3:=hx'.ue;exact⟨by omega,by omega,hx'.cur⟩
 ·have hs:=fj (f:=Wq w.C) hN hki fun x hx hne=>by grind
  rw[hg k hki,if_pos rfl]at hs;have e1:Wq w.C (gt w.o k)=2+(gt w.o k).j.length+w.C.k.toNat*(gt w.o k).L.length:=by unfold Wq;rw[if_pos L.st]
  have e0:Wq w.C (db (gt w.o k))=2:=by
   have hst1:(db (gt w.o k)).c=1:=L.st;unfold Wq;rw[if_pos hst1];rfl
  have h3:=G.wt;unfold wt pot at h3 ⊢;show((bk w k).o.map (Wq w.C)).sum+((w.p++[Wc (gt w.o k) 0]).map (Xr w.C)).sum+w.q.length<=_;have e2:Xr w.C (Wc (gt w.o k) 0)=1+(gt w.o k).j.length+w.C.k.toNat*(gt w.o k).L.length:=rfl
  grind
 ·have hs:=fj (f:=Wz) hN hki fun x hx hne=>by rw[hg x hx,if_neg hne]
  have hst1:(db (gt w.o k)).c=1:=L.st;rw[hg k hki,if_pos rfl,show Wz (db (gt w.o k))=1 by unfold Wz;rw[if_pos hst1],show Wz (gt w.o k)=1 by unfold Wz;rw[if_pos L.st]]at hs;have h3:=G.cn;unfold cnt at h3 ⊢;rw[show(bk w k).p.length=w.p.length+1 from Jd];omega
section
variable {K:Nat} (hK:2^48<=K)
include hK
theorem Bxd{E:Int}{n:Nat}(hE:0<=E/\E<=900000000)(hn:n<=800000000){w:H4}(G:Ch w E n){o:H5}(ho:Vl o): ∃w' a,A0p K w o=some (w',a)/\Ch w' E (n+1)/\w'.C=w.C:=by
 have W:=G.wc (by omega);have G0:=Ch.le G (Int.le_refl E) (by omega:n<=n+1);unfold A0p;cases o.I==3 with
 |true=>
  simp only[cond_true];obtain⟨a,e⟩:=Bw3 hK hE hn G o.b o.J o.K
  grind
 |false=>
  simp only[cond_false];cases o.I==4 with
  |true=>
   simp only[cond_true];obtain⟨a,w',e,g,c⟩:=Bw4 hK hE hn G o.b o.J (s:=o.A) ho.1 (by have:=ho.2;omega);rw[e];exact⟨_,_,rfl,Ch.le g (Int.le_refl E) (by omega),c⟩
  |false=>
   simp only[cond_false];cases o.I==5 with
   |true=>
    simp only[cond_true];obtain⟨a,w',e,g,c⟩:=Bw5 hK hE hn G o.P o.J
    grind
   |false=>
    simp only[cond_false];cases o.I==8 with
    |true=>
     simp only[cond_true];obtain⟨a,e⟩:=Bw6 hK hE hn G o.P
     grind
    |false=>
     simp_all[Ae6]
theorem Bf2{E:Int}{n:Nat}(hE:0<=E/\E<=800000000)(hn:n<=700000000){w:H4}(G:Ch w E n)(b:Bool){o:H5}(ho:Vl o)(z:Sw):
  ∃a w',yg K b w.C.L w.C.k w.C.l w.C.e w.C.m w.C.n w.Q.g w.Q.c w.Q.h w.o w.p w.q z o.I o.P.d o.P.a o.b.P.d o.b.P.a o.b.f o.b.r o.J o.K o.A=some (a,w')/\Ch w' (E+1) (n+1)/\w'.C=w.C:=by
 have W:=G.wc (by omega);have hq:=uk w;have hwt:=G.wt;have G0:=Ch.le G (by omega:E<=E+1) (by omega:n<=n+1);unfold yg;rw[show H4.mk (Sv.mk w.C.L w.C.k w.C.l w.C.e w.C.m w.C.n) (Pc.mk w.Q.g w.Q.c w.Q.h) w.o w.p w.q=w from rfl];cases b with
 |true=>
  simp only[cond_true];rw[tp hK W.l,Z0,qc hK w W.l,Z0];by_cases h0:(Xt w.o (Lz.mk o.P.d o.P.a)).2=0
  ·have hal:=uq G.inv h0;have hki:=(G.live hal).1;rw[h0];simp only[bne_self_eq_false,cond_false];cases o.I==6 with
   |true=>
    simp only[cond_true];rw[Buh hK w W (by omega) hki,Z0];exact⟨_,_,rfl,Bxc G (by omega) hal,rfl⟩
   |false=>
    simp only[cond_false];rw[Buq hK w W (by omega) hki,Z0];exact⟨_,_,rfl,Ch.le (Bxb G hE.1 hal) (by omega) (by omega),rfl⟩
  ·rw[Ym h0]
   grind
 |false=>
  simp only[cond_false];rw[show H5.mk o.I (Lz.mk o.P.d o.P.a) (Pd.mk (Lz.mk o.b.P.d o.b.P.a) o.b.f o.b.r) o.J o.K o.A=o from rfl];obtain⟨w',a,e,g,c⟩:=Bxd hK (by omega) (by omega) G ho;rw[e];exact⟨_,_,rfl,Ch.le g (by omega) (Z9 _),c⟩
theorem Bxe{E:Int}{n:Nat}(hE:0<=E/\E<=800000000)(hn:n<=700000000){w:H4}(G:Ch w E n){o:H5}(ho:Vl o): ∃a w',A0q K w o=some (a,w')/\Ch w' (E+1) (n+192)/\w'.C=w.C:=by
 unfold A0q;cases o.I==1 with
 |true=>
  simp only[cond_true];obtain⟨r,w',e,g,c⟩:=Bwm hK (by omega) (by omega) G o.P;rw[e];exact⟨_,_,rfl,Ch.le g (by omega) (by omega),c⟩
 |false=>
  simp only[cond_false];cases o.I==2 with
  |true=>
   simp only[cond_true];obtain⟨r,w',e,g,c⟩:=Bwu hK (by omega) (by omega) G o.P o.J o.K;rw[e];exact⟨_,_,rfl,Ch.le g (by omega) (by omega),c⟩
  |false=>
   simp only[cond_false];cases o.I==9 with
   |true=>
    simp only[cond_true];obtain⟨r,w',e,S⟩:=A33 hK (E:=E) (n:=n) (by omega) (by omega) 4000 G;rw[e];exact⟨_,_,rfl,Ch.le S.good (by omega) (by omega),S.stay.conf⟩
   |false=>
    simp only[cond_false];cases o.I==6 with
    |true=>
     simp only[cond_true];obtain⟨r,w',e,g,c⟩:=Bf2 hK hE hn G true ho (Sw.mk 0 (Lz.mk 0 0) (Pd.mk (Lz.mk 0 0) 0 0) [] 0 0 0);exact⟨_,_,e,Ch.le g (Int.le_refl _) (by omega),c⟩
    |false=>
     simp only[cond_false];obtain⟨r,w',e,g,c⟩:=Bf2 hK hE hn G (o.I==7) ho (Sw.mk 0 (Lz.mk 0 0) (Pd.mk (Lz.mk 0 0) 0 0) [] 0 0 0);exact⟨_,_,e,Ch.le g (Int.le_refl _) (by omega),c⟩
end
theorem A38{α:Type}[Inhabited α]{n:Nat}(x:α){k:Int}(hk:0<=k/\k<(n:Int)):gt (List.replicate n x) k=x:=by
 obtain⟨j,rfl⟩: ∃j:Nat,k=j:=⟨k.toNat,by omega⟩
 grind [K1]
theorem A8j{α:Type}(i:Nat)(x:α):List.replicate i x++[x]=List.replicate (i+1) x:=by rw[List.replicate_succ']
section
variable {K:Nat} (hK:2^48<=K)
include hK
def A39 (c:Sv):Pc:=Pc.mk (List.replicate (c.L*c.k).toNat 0) (List.replicate c.L.toNat 0) (List.replicate c.L.toNat (-1))
theorem Bxf{c:Sv}(hc:Vw c=true):Amr K c=some (A39 c):=by
 have hm:=V8;obtain⟨b1,b2,b3,b4,b5,b6⟩:=Gy hc;have hb:=Zp (a:=c.L) (b:=c.k) (m:=12) (n:=16) (by omega) b1.2 (by omega) b2.2;have hby:Ws c=c.L*c.k:=by grind [Ws]
 unfold Amr A4l;rw[dv,hc,Z0,Bool.not_true,cond_false,pq,Z0,hby,Xl,V1.2 ⟨by omega,by omega⟩];simp only[Z0,Bool.not_true,cond_false];rw[if_pos (by omega),Z0];have key: ∀(f i:Nat),(i:Int)<=c.L->c.L.toNat - i<f->vj K c f (i:Int) (Pc.mk (List.replicate (c.L*c.k).toNat 0) (List.replicate i 0) (List.replicate i (-1))) (Pc.mk [] [] [])=some (A39 c):=by
  intro f;induction f with
  |zero=>omega
  |succ f ih=>
   intro i hi hf;rw[vj];by_cases q:(i:Int)=c.L
   ·rw[decide_eq_false (by omega)];unfold A39;rw[<-q];rfl
   ·rw[decide_eq_true (by omega),cond_true,if_pos ⟨by grind,by grind⟩,if_pos ⟨by grind,by grind⟩,K0 (by omega)];simp only;rw[A8j,A8j];exact ih (i+1) (by omega) (by omega)
 exact key K 0 (by omega) (by omega)
theorem Bxg{c:Sv}(hc:Vw c=true):A4m K c=some (List.replicate c.l.toNat (Wg 0 1)):=by
 have hm:=V8;have b0:=Gy hc;have key: ∀(f i:Nat),(i:Int)<=c.l->c.l.toNat - i<f->vl K c f (List.replicate i (Wg 0 1)) (i:Int)=some (List.replicate c.l.toNat (Wg 0 1)):=by
  intro f;induction f with
  |zero=>omega
  |succ f ih=>
   intro i hi hf;rw[vl];by_cases q:(i:Int)=c.l
   ·grind
   ·unfold bz;rw[decide_eq_true (by omega),cond_true,dv,hc];simp only[Z0,cond_true];rw[show Fy.mk 0 1 0 0 0 0 0 0 [] 0 0 [] []=Wg 0 1 from rfl,if_pos ⟨by grind,by grind⟩,K0 (by omega),A8j];exact ih (i+1) (by omega) (by omega)
 exact key K 0 (by omega) (by omega)
def dk (c:Sv):H4:=H4.mk c (A39 c) (List.replicate c.l.toNat (Wg 0 1)) [] []
theorem Bxh{c:Sv}(hc:Vw c=true):Amy K c=some (dk c):=by
 unfold Amy;rw[dv,hc,Z0,Bool.not_true,cond_false,Bxf hK hc,Z0,Bxg hK hc];rfl
end
def A8k (_:Int):Lk:=⟨false,false,0,0,0,0,0,0⟩
theorem qo{N x:Int}: ¬Lv N A8k x:=fun h=>by have:=h.2;cases this
theorem Bxi (N:Int):V3 N A8k []:=by
 refine⟨⟨fun k h=>absurd h qo,fun k h=>absurd h qo,fun _ _ _ _=>⟨rfl,rfl,rfl,rfl⟩⟩,⟨fun _=>0,fun x h=>absurd h qo⟩,⟨fun _=>0,fun x h=>absurd h qo⟩,⟨List.nodup_nil,fun x=>⟨(fun h=>by cases h),fun h=>absurd h.1 qo⟩,(fun f h=>by cases h)⟩,trivial,fun x h=>absurd h qo,fun x h=>absurd h qo,(fun e h=>by cases h)⟩
theorem Bxj{c:Sv}(hc:Vw c=true):Ch (dk c) 0 0:=by
 obtain⟨b1,b2,b3,b4,b5,b6⟩:=Gy hc;have hb:=Zp (a:=c.L) (b:=c.k) (m:=12) (n:=16) (by omega) b1.2 (by omega) b2.2;have hN:((dk c).o.length:Int)=c.l:=by show((List.replicate _ _).length:Int)=_;grind
 have hg: ∀k,0<=k/\k<((dk c).o.length:Int)->gt (dk c).o k=Wg 0 1:=fun k hk=>A38 _ (by omega)
 have hs: ∀k,0<=k/\k<c.L->gt (dk c).Q.c k=0:=fun k hk=>A38 _ (by omega)
 have ho: ∀k,0<=k/\k<c.L->gt (dk c).Q.h k= -1:=fun k hk=>A38 _ (by omega)
 have hz: ∀a m:Nat,Wd (((dk c).Q.g.drop a).take m)=true:=fun a m=>by
  rw[qi];intro j _ _ h;have h:j<(List.replicate (c.L*c.k).toNat (0:Int)).length:=h;rw[List.length_replicate]at h;exact A38 _ ⟨by omega,by omega⟩
 refine⟨⟨W6.2 ⟨hc,?_,?_,?_,fun k hk=> ?_⟩,hN,fun k hk=> ?_,fun k hk x=> ?_,fun k hk=> ?_,⟨A8k,(fun k hk=>by rw[hg k hk];rfl),Bxi _⟩,(fun x h=>by cases h),List.nodup_nil,fun x=> ?_,List.nodup_nil,fun s=> ?_,rfl⟩,fun x hx=> ?_,fun k hk=> ?_,?_,?_⟩
 ·show((List.replicate _ _).length:Int)=c.L*c.k;grind
 ·show((List.replicate _ _).length:Int)=c.L;grind
 ·show((List.replicate _ _).length:Int)=c.L;grind
 ·rw[hs k hk,ho k hk];exact⟨by omega,fun h=>by omega,fun _=>rfl,fun _=>hz _ _⟩
 ·rw[hg k hk];exact A3v hc (by omega) (by omega) (by omega)
 ·rw[hg k hk];constructor
  ·intro h;cases h
  ·rintro⟨a,b,_⟩;rw[hs x a]at b;cases b
 ·rw[hg k hk];exact⟨rfl,rfl,rfl⟩
 ·constructor
  ·intro h;cases h
  ·rintro⟨a,b⟩;rw[hs x a]at b;cases b
 ·constructor
  ·intro h;cases h
  ·rintro⟨a,b⟩;rw[hg s a]at b;cases b
 ·have hx:x∈List.replicate (c.L*c.k).toNat (0:Int):=hx
  grind
 ·rw[hg k hk];exact⟨Int.le_refl 0,Int.le_refl 0,Int.le_refl 0,by show(0:Int)<=1000;omega⟩
 ·have e:Wq c (Wg 0 1)=0:=Ak6 _ (by decide) _;simp_all[wt,pot,dk]
 ·have e:Wz (Wg 0 1)=0:=rfl;simp_all[cnt,dk]
section
variable {K:Nat} (hK:2^48<=K)
include hK
def mt (w:H4)(o:H5)(c:Sx):H5×Sx×(List Int)×(List Int)×(List Int)×(List Fy)×(List G9)×(List Int):=(o,c,w.Q.g,w.Q.c,w.Q.h,w.o,w.p,w.q)
omit hK in
theorem Bf3 (w:H4)(h:Lz)(d:Int){c:Sx}(hc:Vt c)(b:Bool): ∃o c',vz K h w.Q.g w.Q.c w.Q.h w.o w.p w.q d c.fb c.fi c.fh b=some (mt w o c')/\Vl o/\Vt c':=by
 unfold vz;rw[show Sx.mk c.fb c.fi c.fh=c from rfl];cases b with
 |true=>
  simp only[cond_true];obtain⟨r,e,_,w1⟩:=Xv K hc (n:=256) (by omega);rw[e];exact⟨_,_,rfl,Y7 _ _ _ _ _,w1⟩
 |false=>
  simp only[cond_false];cases d==13 with
  |true=>exact⟨_,_,rfl,Y7 _ _ _ _ _,hc⟩
  |false=>
   simp only[cond_false];cases d==14 with
   |true=>exact⟨_,_,rfl,Y7 _ _ _ _ _,hc⟩
   |false=>
    simp only[cond_false];obtain⟨r,e,w1⟩:=mr K hc (n:=6) (by omega);rw[e,Z0];cases r.1 with
    |true=>exact⟨_,_,rfl,Y7 _ _ _ _ _,w1⟩
    |false=>exact⟨_,_,rfl,Y7 _ _ _ _ _,w1⟩
theorem Bf4 (w:H4)(h:Lz)(r:Pd)(d:Int){c:Sx}(hc:Vt c)(b:Bool): ∃o c',wa K h r w.Q.g w.Q.c w.Q.h w.o w.p w.q d c.fb c.fi c.fh b=some (mt w o c')/\Vl o/\Vt c':=by
 unfold wa;rw[show Sx.mk c.fb c.fi c.fh=c from rfl];cases b with
 |true=>
  simp only[cond_true];obtain⟨x,e,b1,w1⟩:=Xv K hc (n:=2) (by omega);have e1:A4 1 x.1=1+x.1:=by grind [A4,Fp,Vs]
  obtain⟨y,c2,e2,b2,l2,w2⟩:=Bfz hK w1 (n:=1+x.1) (by omega);rw[e,Z0,e1,e2];exact⟨_,_,rfl,⟨b2,l2⟩,w2⟩
 |false=>
  simp only[cond_false];cases d==10 with
  |true=>
   simp only[cond_true];obtain⟨x,e,_,w1⟩:=Xv K hc (n:=3) (by omega);rw[e];exact⟨_,_,rfl,Y7 _ _ _ _ _,w1⟩
  |false=>
   simp only[cond_false];cases d==11 with
   |true=>simp_all[Bf3]
   |false=>simp_all[Bf3]
theorem A8l (w:H4)(h:Lz)(r:Pd)(z d:Int){c:Sx}(hc:Vt c)(b:Bool): ∃o c',qx K h r z w.Q.g w.Q.c w.Q.h w.o w.p w.q d c.fb c.fi c.fh b=some (mt w o c')/\Vl o/\Vt c':=by
 unfold qx;rw[show Sx.mk c.fb c.fi c.fh=c from rfl];cases b with
 |true=>
  simp only[cond_true];obtain⟨x,c1,e1,_,w1⟩:=ms K hc (l:=[1,2,3,4,5,8]) (by simp);obtain⟨y,c2,e2,_,w2⟩:=ms K w1 (l:=[1,1,2,4]) (by simp);rw[e1,Z0,if_pos rfl,e2,Z0,if_pos rfl];exact⟨_,_,rfl,Y7 _ _ _ _ _,w2⟩
 |false=>
  simp only[cond_false];cases d==7 with
  |true=>
   simp only[cond_true];obtain⟨x,e,w1⟩:=Bfy K hc z;rw[e];exact⟨_,_,rfl,Y7 _ _ _ _ _,w1⟩
  |false=>
   simp only[cond_false];cases d==8 with
   |true=>simp_all[Bf4]
   |false=>simp_all[Bf4]
theorem A8m (w:H4)(h:Lz)(r:Pd)(z d:Int){c:Sx}(hc:Vt c)(b:Bool): ∃o c',qy K h r z w.Q.g w.Q.c w.Q.h w.o w.p w.q d b c.fb c.fi c.fh=some (mt w o c')/\Vl o/\Vt c':=by
 unfold qy;rw[show Sx.mk c.fb c.fi c.fh=c from rfl];cases b with
 |true=>exact⟨_,_,rfl,Y7 _ _ _ _ _,hc⟩
 |false=>
  simp only[cond_false];cases d==3 with
  |true=>exact⟨_,_,rfl,Y7 _ _ _ _ _,hc⟩
  |false=>
   simp only[cond_false];cases d==4 with
   |true=>simp_all[A8l]
   |false=>
    simp only[cond_false];cases d==5 with
    |true=>simp_all[A8l]
    |false=>simp_all[A8l]
theorem Bf5 (w:H4)(h:Lz)(r:Pd)(q:H5){c:Sx}(hc:Vt c): ∃o c',wb K h c.fb c.fi c.fh r q w.C.L w.C.k w.C.l w.C.e w.C.m w.C.n w.Q.g.length w.Q.c.length w.Q.h.length w.o.length w.p.length w.q.length w.Q.g w.Q.c w.Q.h w.o w.p w.q=some (mt w o c')/\Vl o/\Vt c':=by
 unfold wb;rw[show Sx.mk c.fb c.fi c.fh=c from rfl];obtain⟨x,e,_,w1⟩:=Xv K hc (n:=16) (by omega);rw[e,Z0];cases x.1==0 with
 |true=>simp_all[A8m]
 |false=>
  simp only[cond_false];cases x.1==1 with
  |true=>simp_all[A8m]
  |false=>simp_all[A8m]
theorem Bf6{w:H4}(W:Wa w)(h8:w.o.length<=1000){c:Sx}(hc:Vt c): ∃o c',wg K c w=some (mt w o c')/\Vl o/\Vt c':=by
 unfold wg;obtain⟨r1,e1,hl,hr⟩:=Bfg hK W h8;rw[e1,Z0];cases hz:(r1.length:Int)==0 with
 |true=>
  simp only[cond_true];obtain⟨x,e,w1⟩:=mr K hc (n:=2) (by omega);rw[e,Z0];cases x.1 with
  |true=>exact⟨_,_,rfl,Y7 _ _ _ _ _,w1⟩
  |false=>
   simp only[cond_false];obtain⟨o,c2,e2,ho,w2⟩:=Bf0 hK w1;rw[e2];exact⟨_,_,rfl,ho,w2⟩
 |false=>
  have hz: ¬(r1.length:Int)=0:=by grind
  simp only[cond_false];obtain⟨x,e,w1⟩:=mr K hc (n:=10) (by omega);rw[e,Z0];cases x.1 with
  |true=>
   simp only[cond_true];obtain⟨y,e2,w2⟩:=mr K w1 (n:=2) (by omega);rw[e2,Z0];cases y.1 with
   |true=>exact⟨_,_,rfl,Y7 _ _ _ _ _,w2⟩
   |false=>
    simp only[cond_false];obtain⟨o,c2,e3,ho,w3⟩:=Bf0 hK w2;rw[e3];exact⟨_,_,rfl,ho,w3⟩
  |false=>
   simp only[cond_false];obtain⟨y,e2,b2,w2⟩:=Xv K w1 (n:=(r1.length:Int)) (by omega);rw[e2,Z0,if_pos b2];have hk:=(hr _ (Wi b2.1 b2.2)).1;obtain⟨h,eh⟩:=A8a (K:=K) (l:=w.o) (by omega) (gt r1 y.1);simp only[eh,Z0,if_pos hk];cases decide (((gt w.o (gt r1 y.1)).y.length:Int)>0)with
   |true=>
    simp only[cond_true];obtain⟨z,e3,w3⟩:=Bfy K w2 ((gt w.o (gt r1 y.1)).y.length:Int);simp_all[Bf5]
   |false=>
    simp_all[Bf5]
theorem run_ok{c:Sx}(hc:Vt c){most:Int}(hm:0<most/\most<=1000): ∃x l w c' E n,A0r K c most=some (x,l,w,c')/\Ch w E n/\(0<=E/\E<=200)/\n<=38400/\w.C=x/\Vw x=true/\l.length<=200/\(∀o∈l,Vl o)/\Vt c':=by
 have hx:=V8;unfold A0r;obtain⟨x,c1,e1,hx1,w1⟩:=Bf1 K hc;obtain⟨y,e2,b2,w2⟩:=Xv K w1 (n:=most) (by omega);rw[e1,Z0,Bxh hK hx1,Z0,e2,Z0];have ea:A4 4 y.1=4+y.1:=by grind [A4,Fp,Vs]
 rw[ea];have key: ∀(f i:Nat) (l:List H5) (w:H4) (c:Sx),(i:Int)<=4+y.1->i<f->Ch w (l.length:Int) (192*l.length)->w.C=x->l.length<=200->(∀o∈l,Vl o)->Vt c-> ∃x' l' w' c' E n,yh K f l (i:Int) c.fb c.fi c.fh w x (H4.mk (Sv.mk 0 0 0 0 0 0) (Pc.mk [] [] []) [] [] []) (Sv.mk 0 0 0 0 0 0)=some (x',l',w',c')/\Ch w' E n/\(0<=E/\E<=200)/\n<=38400/\w'.C=x'/\Vw x'=true/\l'.length<=200/\(∀o∈l',Vl o)/\Vt c':=by
  intro f;induction f with
  |zero=>omega
  |succ f ih=>
   intro i l w c hi hf G hwc hl ho hcc;have done: ∃x' l' w' c' E n,some (x,l,w,Sx.mk c.fb c.fi c.fh)=some (x',l',w',c')/\Ch w' E n/\(0<=E/\E<=200)/\n<=38400/\w'.C=x'/\Vw x'=true/\l'.length<=200/\(∀o∈l',Vl o)/\Vt c':=⟨_,_,_,_,_,_,rfl,G,by omega,by omega,hwc,hx1,hl,ho,hcc⟩;rw[yh];by_cases q:0<i
   ·rw[decide_eq_true (show(i:Int)>0 by omega),cond_true];by_cases q2:l.length<200
    ·rw[decide_eq_true (show(l.length:Int)<200 by omega),cond_true];have W:=G.wc (by omega);have b0:=Gy G.inv.conf;have hlen:=G.inv.len;obtain⟨o,c2,e3,hop,w3⟩:=Bf6 hK W (by omega) hcc;obtain⟨a,w',e4,G',hc'⟩:=Bxe hK (E:=(l.length:Int)) (n:=192*l.length) (by omega) (by omega) G hop;rw[show Sx.mk c.fb c.fi c.fh=c from rfl,e3,Z0];unfold mt;simp only;rw[if_pos ⟨trivial,trivial,trivial,trivial,trivial,trivial⟩,if_pos ⟨by grind,by grind⟩];rw[show H4.mk w.C (Pc.mk w.Q.g w.Q.c w.Q.h) w.o w.p w.q=w from rfl,e4,Z0];have es:Ap (i:Int) 1=((i - 1:Nat):Int):=by grind [uj]
     rw[es];refine ih (i - 1) (l++[o]) w' c2 (by omega) (by omega) ?_ (hc'.trans hwc) (by grind) ?_ w3
     ·rw[Jd,List.length_singleton]
      grind
     grind
    grind
   simp_all
 have:=key K (4+y.1).toNat [] (dk x) y.2 (by omega) (by omega) (Bxj hx1) rfl (by simp) (fun o h=>by cases h) w2
 grind
omit hK in
theorem Bxk (a:List Int){m:Int}(hm:0<=m/\m<=1000)(ha:a.length<=1048576): ∃r,vh K a m=some r/\0<=r/\r<=1000:=by
 unfold vh;have h3:(a.length:Int) / 12<=(a.length:Int):=Int.ediv_le_self _ (by omega);have h4:0<=(a.length:Int) / 12:=Int.ediv_nonneg (by omega) (by omega);have e1:Afg .i64 (a.length:Int) 12=(a.length:Int) / 12:=by
  grind [Afg,Vs]
 have e2:A4 3 ((a.length:Int) / 12)=3+(a.length:Int) / 12:=by grind [A4,Fp,Vs]
 rw[if_pos (by decide),e1,e2];by_cases q:3+(a.length:Int) / 12>m
 ·simp_all
 ·rw[decide_eq_false q];grind
theorem Bxl{a:List Int}(hb:aw a)(ha:a.length<=1048576): ∃w o E n,A0s K a=some (w,o)/\Ch w E n/\(0<=E/\E<=200)/\n<=38400/\Vl o:=by
 unfold A0s;obtain⟨c,e1,w1⟩:=Bfx hK hb ha;obtain⟨m,e2,hm⟩:=Bxk (K:=K) a (m:=50) (by omega) ha;have ea:A4 20 m=20+m:=by grind [A4,Fp,Vs]
 have h50:m<=900\/900<m:=by omega
 rw[e1,Z0,e2,Z0,ea];unfold yi;have hm2:m<=50:=by
  unfold vh at e2
  grind
 obtain⟨x,l,w,c2,E,n,e3,G,hE,hn,_,_,_,_,w3⟩:=run_ok hK w1 (most:=20+m) (by omega);have W:=G.wc (by omega);have b0:=Gy G.inv.conf;have hlen:=G.inv.len;obtain⟨o,c4,e4,ho,_⟩:=Bf6 hK W (by omega) w3;rw[e3];simp only[Z0];rw[e4,Z0];unfold mt
 grind
end
section
variable (N:Int) (t:Int->Lk)
def kd (k:Int):List Int:=kf N t (t k).fi
def sub:Nat->Int->List Int
 |0,_=>[]
 |n+1,k=>k::(kd N t k).flatMap (sub n)
inductive Up (a:Int):Int->Prop
 |refl:Lv N t a->Up a a
 |step {b:Int}:Lv N t b->Cu N t b->Up a ((t b).up - 1)->Up a b
def Ht:Nat->Int->Prop
 |0,_=>False
 |n+1,k=> ∀c∈kd N t k,Ht n c
end
section
variable {N:Int} {t:Int->Lk}
theorem A4a (n:Nat)(k:Int):sub N t (n+1) k=k::(kd N t k).flatMap (sub N t n):=rfl
theorem Up.lv{a b:Int}(h:Up N t a b):Lv N t a/\Lv N t b:=by
 induction h with
 |refl h=>grind
 |step h _ _ ih=>grind
theorem Up.trans{a b c:Int}(h:Up N t a b)(g:Up N t b c):Up N t a c:=by
 induction g with
 |refl _=>exact h
 |step h1 h2 _ ih=>exact .step h1 h2 ih
theorem Up.comp{a b x:Int}(h:Up N t a x)(g:Up N t b x):Up N t a b\/Up N t b a:=by
 induction h with
 |refl _=>exact .inr g
 |step h1 h2 h3 ih=>
  cases g with
  |refl h4=>exact .inl (.step h1 h2 h3)
  |step _ _ g3=>exact ih g3
theorem Up.le{d:Int->Nat}(U: ∀x,Lv N t x->Cu N t x->d ((t x).up - 1)<d x){a b:Int}(h:Up N t a b):d a<=d b:=by
 induction h with
 |refl _=>omega
 |step h1 h2 _ ih=>grind
theorem Up.al{a b:Int}(h:Up N t a b)(g:Al N t a):Al N t b:=by
 induction h with
 |refl _=>exact g
 |step h1 h2 _ ih=>exact .step h1 h2 ih
variable {r:Int->Nat} {d:Int->Nat}
theorem A8n (T:Wy N t)(W:Wf N t r){k:Int}(hk:Lv N t k)(x:Int):x∈kd N t k ↔ Lv N t x/\(t x).up=k+1/\Cu N t x:=Zb T W hk x
theorem uv (T:Wy N t)(W:Wf N t r){k x:Int}(hk:Lv N t k)(h:x∈kd N t k):Up N t k x:=by
 obtain⟨h1,h2,h3⟩:=(A8n T W hk x).1 h;exact .step h1 h3 (by rw[h2,Int.add_sub_cancel];exact .refl hk)
theorem A8o (T:Wy N t)(W:Wf N t r)(U: ∀x,Lv N t x->Cu N t x->d ((t x).up - 1)<d x){k x:Int}(hk:Lv N t k)(h:x∈kd N t k):d k<d x:=by
 obtain⟨h1,h2,h3⟩:=(A8n T W hk x).1 h;have:=U x h1 h3;rwa[h2,Int.add_sub_cancel]at this
theorem A8p (T:Wy N t)(W:Wf N t r): ∀(n:Nat) (k x:Int),Lv N t k->x∈sub N t n k->Up N t k x:=by
 intro n;induction n with
 |zero=>intro k x _ h;cases h
 |succ n ih=>
  intro k x hk h;rw[A4a,Ax]at h;rcases h with h|h
  ·rw[h];exact .refl hk
  ·obtain⟨c,hc,hx⟩:=List.mem_flatMap.1 h;have hu:=uv T W hk hc;exact hu.trans (ih c x hu.lv.2 hx)
theorem Bxm: ∀(n:Nat) (k:Int),Ht N t n k-> ∀m,n<=m->sub N t m k=sub N t n k:=by
 intro n;induction n with
 |zero=>intro k h;cases h
 |succ n ih=>
  intro k h m hm;obtain⟨m,rfl⟩: ∃j,m=j+1:=⟨m - 1,by omega⟩;rw[A4a,A4a];congr 1;exact Zl fun c hc=>ih c (h c hc) m (by omega)
theorem Bxn (T:Wy N t)(W:Wf N t r)(U: ∀x,Lv N t x->Cu N t x->d ((t x).up - 1)<d x): ∀(n:Nat) (k:Int) (L:List Int),Lv N t k->L.Nodup->(∀x∈L,(0<=x/\x<N)/\d x<=d k)->N.toNat<L.length+n->Ht N t n k:=by
 intro n;induction n with
 |zero=>
  intro k L _ hn hi hl;have:=A3o hn (fun x hx=>(hi x hx).1);omega
 |succ n ih=>
  intro k L hk hn hi hl c hc;have hu:=uv T W hk hc;have hlt:=A8o T W U hk hc;refine ih c (L++[c]) hu.lv.2 (dg.2 ⟨hn,by simp,fun x h1 h2=> ?_⟩) (fun x hx=> ?_) (by rw[Jd,List.length_singleton];omega)
  ·rw[Dt]at h2;have:=(hi x h1).2;rw[h2]at this;omega
  ·rcases C5.1 hx with h|h
   ·exact⟨(hi x h).1,by have:=(hi x h).2;omega⟩
   ·rw[Dt.1 h];exact⟨hu.lv.2.1,Z9 _⟩
theorem Bxo (T:Wy N t)(W:Wf N t r)(U: ∀x,Lv N t x->Cu N t x->d ((t x).up - 1)<d x){k:Int}(hk:Lv N t k):Ht N t N.toNat k:=
 Bxn T W U N.toNat k [k] hk (by simp) (fun x hx=>by rw[Dt.1 hx];exact⟨hk.1,Z9 _⟩) (by simp)
theorem Bxp{α β:Type}(f:α->List β): ∀(l:List α),l.Nodup->(∀x∈l,(f x).Nodup)->(∀x∈l,∀y∈l,x≠y-> ∀z∈f x,z ∉ f y)->(l.flatMap f).Nodup:=by
 intro l;induction l with
 |nil=>intro _ _ _;exact List.nodup_nil
 |cons a l ih=>
  intro h1 h2 h3;obtain⟨n1,n2⟩:=List.nodup_cons.1 h1;rw[List.flatMap_cons];refine dg.2 ⟨h2 a List.mem_cons_self,ih n2 (fun x hx=>h2 x (Pv _ hx)) (fun x hx y hy=>h3 x (Pv _ hx) y (Pv _ hy)),fun z hz hz2=> ?_⟩;obtain⟨y,hy,hzy⟩:=List.mem_flatMap.1 hz2;exact h3 a List.mem_cons_self y (Pv _ hy) (fun e=>n1 (e ▸ hy)) z hz hzy
theorem Bxq (T:Wy N t)(W:Wf N t r)(U: ∀x,Lv N t x->Cu N t x->d ((t x).up - 1)<d x){k a b z:Int}(hk:Lv N t k)(ha:a∈kd N t k)(hb:b∈kd N t k)(hne:a≠b)(h1:Up N t a z)(h2:Up N t b z):False:=by
 have key: ∀a b,a∈kd N t k->b∈kd N t k->a≠b->Up N t a b->False:=by
  intro a b ha hb hne h;obtain⟨_,e2,_⟩:=(A8n T W hk b).1 hb;have hlt:=A8o T W U hk ha;cases h with
  |refl _=>exact hne rfl
  |step _ _ h3=>
   rw[e2,Int.add_sub_cancel]at h3;have:=h3.le U;omega
 rcases h1.comp h2 with h|h
 ·exact key a b ha hb hne h
 ·exact key b a hb ha (Ne.symm hne) h
theorem Bxr (T:Wy N t)(W:Wf N t r)(U: ∀x,Lv N t x->Cu N t x->d ((t x).up - 1)<d x): ∀(n:Nat) (k:Int),Lv N t k->(sub N t n k).Nodup:=by
 intro n;induction n with
 |zero=>intro k _;exact List.nodup_nil
 |succ n ih=>
  intro k hk;rw[A4a];refine List.nodup_cons.2 ⟨fun h=> ?_,Bxp _ _ (A3p T W N.toNat hk) (fun c hc=>ih c (uv T W hk hc).lv.2) (fun a ha b hb hne z hz hz2=> ?_)⟩
  ·obtain⟨c,hc,hx⟩:=List.mem_flatMap.1 h;have hu:=uv T W hk hc;have h1:=(A8p T W n c k hu.lv.2 hx).le U;have h2:=A8o T W U hk hc;omega
  ·exact Bxq T W U hk ha hb hne (A8p T W n a z (uv T W hk ha).lv.2 hz) (A8p T W n b z (uv T W hk hb).lv.2 hz2)
end
def Wt (w:H4):Nat->Int->List Int
 |0,_=>[]
 |n+1,k=>k::(Vv w k).flatMap (Wt w n)
theorem Alv{w:H4}(I:Bd w){t:Int->Lk}(A:V6 w.o t){k:Int}(hk:0<=k/\k<(w.o.length:Int)):Vv w k=kd w.o.length t k:=by
 have h:=(I.rg.rg k hk).2.1;have hl:=I.rg.len;unfold Vv kd;rw[iz A I.rg (by omega) (by omega),A k hk];rfl
theorem A8q{w:H4}(I:Bd w){t:Int->Lk}(A:V6 w.o t): ∀(n:Nat) (k:Int),0<=k/\k<(w.o.length:Int)->Wt w n k=sub w.o.length t n k:=by
 intro n;induction n with
 |zero=>intro k _;rfl
 |succ n ih=>
  intro k hk;show k::(Vv w k).flatMap (Wt w n)=k::(kd w.o.length t k).flatMap (sub w.o.length t n);rw[Alv I A hk];congr 1;exact Zl fun c hc=>ih c (uf hc)
def bq (w:H4)(l:List Int):Int:=(l.map fun x=>1+Y2 w x).sum
theorem Bxs (w:H4)(a b:List Int):bq w (a++b)=bq w a+bq w b:=by unfold bq;rw[Er,List.sum_append]
theorem Bxt (w:H4)(a:Int)(b:List Int):bq w (a::b)=1+Y2 w a+bq w b:=by unfold bq;rw[Z8,List.sum_cons]
def Yy (w:H4)(k:Int):Int:=bq w (Wt w w.o.length k)
def Zn (w:H4)(x:G9):Int:=Xu w.C x+((Vq w.o x.i).map (Yy w)).sum
def Xw (w:H4):Int:=(w.p.map (Zn w)).sum
theorem A8r{w:H4}(I:Bd w){t:Int->Lk}(A:V6 w.o t)(F:V3 w.o.length t (Wh w.p)){k:Int}(hk:Lv w.o.length t k):Wt w (w.o.length+1) k=Wt w w.o.length k:=by
 obtain⟨r,W⟩:=F.wf;obtain⟨d,U⟩:=F.uw;rw[A8q I A _ _ hk.1,A8q I A _ _ hk.1];have:=Bxm _ _ (Bxo F.tree W U hk) (w.o.length+1) (by simp);simpa using this
section
variable {M:Type} {op:M->M->M} {e:M} {g:Int->M} {w:H4}
theorem Bxu (ha: ∀a b c,op (op a b) c=op a (op b c))(hl: ∀a,op e a=a)(a b:List Int):Y3 op e g (a++b)=op (Y3 op e g a) (Y3 op e g b):=by
 induction a with
 |nil=>exact(hl _).symm
 |cons x a ih=>show op (g x) (Y3 op e g (a++b))=op (op (g x) (Y3 op e g a)) _;rw[ih,ha]
theorem Bxv (ha: ∀a b c,op (op a b) c=op a (op b c))(hl: ∀a,op e a=a)(k:Int)(a b:List Int):Y3 op e g ([k]++(a++b))=op (g k) (op (Y3 op e g a) (Y3 op e g b)):=by
 show op (g k) (Y3 op e g (a++b))=_;rw[Bxu ha hl]
theorem Bxw (ha: ∀a b c,op (op a b) c=op a (op b c))(hl: ∀a,op e a=a)(hr: ∀a,op a e=a): ∀(u:Nat) (ks:List Int) (v:M) (met:List Int),(ks.flatMap (Wt w (u+1))).Nodup->(∀x∈ks.flatMap (Wt w (u+1)),x ∉ met)->
  ks.foldl (Yb op g w (am op e g w u)) (v,met)=(op v (Y3 op e g (ks.flatMap (Wt w (u+1)))),met++ks.flatMap (Wt w (u+1))):=by
 intro u;induction u with
 |zero=>
  intro ks;induction ks with
  |nil=>intro v met _ _;simp[Y3,hr]
  |cons k ks ih=>
   intro v met hn hm;have e1:Wt w 1 k=[k]:=by
    show k::(Vv w k).flatMap (fun _=>[])=[k];have: ∀l:List Int,l.flatMap (fun _=>([]:List Int))=[]:=fun l=>by induction l with|nil=>rfl|cons a l ih=>rw[List.flatMap_cons,ih];rfl
    rw[this]
   rw[List.flatMap_cons,e1]at hn hm ⊢;have hk:k ∉ met:=hm k (by simp);obtain⟨n1,n2⟩:=List.nodup_cons.1 hn;rw[List.foldl_cons];have es:Yb op g w (am op e g w 0) (v,met) k=(op v (g k),met++[k]):=by
    unfold Yb am;rw[if_neg hk];simp[hr]
   rw[es,ih _ _ n2 (fun x hx h=>by
    rcases C5.1 h with h|h
    ·exact hm x (Pv _ hx) h
    ·rw[Dt]at h;exact n1 (h ▸ hx))]
   show(_,_)=(op v (op (g k) _),met++(k::_));rw[Je,ha];rfl
 |succ u ihu=>
  intro ks;induction ks with
  |nil=>intro v met _ _;simp[Y3,hr]
  |cons k ks ih=>
   intro v met hn hm;have e1:Wt w (u+1+1) k=k::(Vv w k).flatMap (Wt w (u+1)):=rfl;rw[List.flatMap_cons,e1]at hn hm ⊢;have hk:k ∉ met:=hm k (by simp);obtain⟨n1,n2⟩:=List.nodup_cons.1 hn;obtain⟨m1,m2,m3⟩:=dg.1 n2;have hkids:am op e g w (u+1) (Vv w k) (met++[k])=(Y3 op e g ((Vv w k).flatMap (Wt w (u+1))),met++[k]++(Vv w k).flatMap (Wt w (u+1))):=by
    show Yh op e g w u (Vv w k) (met++[k])=_;rw[mb,ihu (Vv w k) e (met++[k]) m1 (fun x hx h=>by
     rcases C5.1 h with h|h
     ·exact hm x (Pv _ (C5.2 (.inl hx))) h
     ·rw[Dt]at h;exact n1 (C5.2 (.inl (h ▸ hx)))),hl]
   rw[List.foldl_cons];have es:Yb op g w (am op e g w (u+1)) (v,met) k=(op v (op (g k) (Y3 op e g ((Vv w k).flatMap (Wt w (u+1))))),met++[k]++(Vv w k).flatMap (Wt w (u+1))):=by
    unfold Yb;rw[if_neg hk,hkids]
   rw[es,ih _ _ m2 (fun x hx h=>by
    rcases C5.1 h with h|h
    ·rcases C5.1 h with h|h
     ·exact hm x (Pv _ (C5.2 (.inr hx))) h
     ·rw[Dt]at h;exact n1 (C5.2 (.inr (h ▸ hx)))
    ·exact m3 x h hx)]
   have e2:k::(Vv w k).flatMap (Wt w (u+1))++ks.flatMap (Wt w (u+1+1))=[k]++((Vv w k).flatMap (Wt w (u+1))++ks.flatMap (Wt w (u+1+1))):=rfl;rw[e2];refine Prod.ext ?_ ?_
   ·simp only;rw[Bxv ha hl,ha,ha]
   ·show met++[k]++_++_=met++([k]++(_++_));simp only[Je]
end
theorem Bxx (g:Int->Int)(l:List Int):Y3 (· + ·) 0 g l=(l.map g).sum:=by
 induction l with
 |nil=>rfl
 |cons a l ih=>show g a+_=_;rw[ih,Z8,List.sum_cons]
theorem Bxy{M:Type}{op:M->M->M}{e:M}{g:Int->M}(ha: ∀a b c,op (op a b) c=op a (op b c))(hl: ∀a,op e a=a)(hr: ∀a,op a e=a){w:H4}{t:Int->Lk}(I:Bd w)(A:V6 w.o t)(F:V3 w.o.length t (Wh w.p)){k:Int}(hk:Lv w.o.length t k):
  Yh op e g w w.o.length [k] []=(Y3 op e g (Wt w w.o.length k),Wt w w.o.length k):=by
 obtain⟨r,W⟩:=F.wf;obtain⟨d,U⟩:=F.uw;rw[mb,Bxw ha hl hr w.o.length [k] e [] ?_ (fun x _ h=>by cases h)]
 ·rw[List.flatMap_cons,List.flatMap_nil,List.append_nil,A8r I A F hk,hl,Hd]
 ·rw[List.flatMap_cons,List.flatMap_nil,List.append_nil,A8q I A _ _ hk.1];exact Bxr F.tree W U _ _ hk
theorem Bxz{w:H4}(I:Bd w){t:Int->Lk}(A:V6 w.o t)(F:V3 w.o.length t (Wh w.p)){k:Int}(hk:Lv w.o.length t k):im w k=Vu (Yy w k):=by
 unfold im Yy;rw[if_pos hk.1];show Vu (Yh (· + ·) 0 (ow w) w w.o.length [k] []).1=_;rw[Bxy (fun a b c=>Int.add_assoc a b c) (fun a=>Int.zero_add a) (fun a=>Int.add_zero a) I A F hk,Bxx];rfl
theorem Bf7 (x:Int):Vu (Vu x)=Vu x:=by unfold Vu;rw[IntKind.wrap_i64,IntKind.wrap_i64];omega
theorem Bf8{α:Type}(g:α->Int): ∀(l:List α) (v:Int),l.foldl (fun v k=>A4 v (Vu (g k))) (Vu v)=Vu (v+(l.map g).sum):=by
 intro l;induction l with
 |nil=>intro v;simp
 |cons a l ih=>
  intro v;have e:A4 (Vu v) (Vu (g a))=Vu (v+g a):=by rw[A7h];unfold Vu;rw[IntKind.wrap_i64,IntKind.wrap_i64,IntKind.wrap_i64];omega
  rw[List.foldl_cons,e,ih (v+g a),Z8,List.sum_cons,Int.add_assoc]
theorem Bf9{α β:Type}{f g:β->α->β}: ∀(l:List α) (b:β),(∀b x,x∈l->f b x=g b x)->l.foldl f b=l.foldl g b:=by
 intro l;induction l with
 |nil=>intro b _;rfl
 |cons a l ih=>
  intro b h;rw[List.foldl_cons,List.foldl_cons,h b a List.mem_cons_self];exact ih _ fun b x hx=>h b x (Pv _ hx)
theorem Bga (c:Sv)(x:G9):Vu (Xu c x)=Xu c x:=by
 unfold Xu;have key: ∀(l:List Nat) (v:Int),Vu v=v->Vu (l.foldl (ak c x) v)=l.foldl (ak c x) v:=by
  intro l;induction l with
  |nil=>intro v h;exact h
  |cons a l ih=>
   intro v h;rw[List.foldl_cons];exact ih _ (by unfold ak;rw[Bdv,Bf7])
 exact key _ _ (by rw[Bdv,Bf7])
theorem Bx0{w:H4}(I:Bd w){t:Int->Lk}(A:V6 w.o t)(F:V3 w.o.length t (Wh w.p)){x:G9}(hx:x∈w.p):iq w x=Vu (Zn w x):=by
 have hf:=I.first hx;unfold iq Zn;have hk: ∀k∈Vq w.o x.i,Lv w.o.length t k:=fun k hk=>by
  rw[iz A I.rg hf.1 (by omega)]at hk;exact(F.kid.or (Bd.qs hx) hk).lv
 rw[Bf9 (g:=fun v k=>A4 v (Vu (Yy w k))) _ _ (fun b k h=>by rw[Bxz I A F (hk k h)]),<-Bga,Bf8,Bga]
theorem A8s{w:H4}(I:Bd w){t:Int->Lk}(A:V6 w.o t)(F:V3 w.o.length t (Wh w.p)):ir w=Vu (Xw w):=by
 unfold ir Xw;rw[Bf9 (g:=fun v x=>A4 v (Vu (Zn w x))) _ _ (fun b x h=>by rw[Bx0 I A F h])];have:=Bf8 (Zn w) w.p 0;rw[Int.zero_add]at this;rw[<-this];rfl
structure Bx1 (w:H4)(t:Int->Lk)(k:Int):Prop where
 inv:Bd w
 tab:V6 w.o t
 fr:V3 w.o.length t (Wh w.p)
 al:Al w.o.length t k
structure ux (w w':H4)(t:Int->Lk)(k:Int):Prop where
 inv:Bd w'
 len:w'.o.length=w.o.length
 tab:V6 w'.o (rem t k)
 fr:V3 w.o.length (rem t k) (Wh w'.p)
 conf:w'.C=w.C
 q:w'.p=w.p++[Wc (gt w.o k) (k+1)]
 node: ∀x,0<=x/\x<(w.o.length:Int)->x≠k-> ∃a b c,gt w'.o x=Zd (gt w.o x) a b c
theorem Bx2 (c:Sv)(a b:Int)(f g:Int)(ts cs:List Int)(d:Int):Xu c (G9.mk a f ts cs d)=Xu c (G9.mk b g ts cs d):=rfl
theorem ux.own{w w':H4}{t:Int->Lk}{k:Int}(L:ux w w' t k){x:Int}(hx:0<=x/\x<(w.o.length:Int))(hne:x≠k):Y2 w' x=Y2 w x:=by
 obtain⟨a,b,c,e⟩:=L.node x hx hne;unfold Y2;rw[e,L.conf];exact Bx2 _ _ _ _ _ _ _ _
theorem ux.kids{w w':H4}{t:Int->Lk}{k:Int}(P:Bx1 w t k)(L:ux w w' t k){x:G9}(hx:x∈w.p):Vq w'.o x.i=Vq w.o x.i:=by
 have hf:=P.inv.first hx;rw[iz P.tab P.inv.rg hf.1 (by omega),iz L.tab L.inv.rg hf.1 (by omega),L.len];exact A7p P.fr.tree P.al.lv P.al.noOr P.fr.kid (Bd.qs hx)
def jf (w:H4)(x:Int):List Int:=(gt w.o x).j.reverse
def Zz (w:H4)(k:Int):List Int:=(Wt w w.o.length k).flatMap (jf w)
def bs (w:H4)(x:G9):List Int:=x.j.reverse++(Vq w.o x.i).flatMap (Zz w)
def uy (w:H4):List Int:=w.p.flatMap (bs w)
theorem ux.tags{w w':H4}{t:Int->Lk}{k:Int}(L:ux w w' t k){x:Int}(hx:0<=x/\x<(w.o.length:Int))(hne:x≠k):jf w' x=jf w x:=by
 obtain⟨a,b,c,e⟩:=L.node x hx hne;unfold jf;rw[e];rfl
theorem Bx3{α β γ:Type}(f:α->List β)(g:β->List γ): ∀l:List α,(l.flatMap f).flatMap g=l.flatMap (fun x=>(f x).flatMap g):=by
 intro l;induction l with
 |nil=>rfl
 |cons a l ih=>rw[List.flatMap_cons,List.flatMap_append,ih,List.flatMap_cons]
def Xk (w:H4)(x:Int):Int:=((gt w.o x).L.length:Int)
section
variable {K:Nat} (hK:2^48<=K)
include hK
end
theorem Bx4 (w:H4)(hw:Wa w): ∀(u K:Nat) (ks met:List Int),2^48+u<K->ks.length<=140737488355327->(∀x∈ks,0<=x/\x<(w.o.length:Int))->Ya w met->w.o.length<=met.length+u->
  gx K w ks (Y4 w met)=some (Vu (Yh (· + ·) 0 (Xk w) w u ks met).1,Y4 w (Yh (· + ·) 0 (Xk w) w u ks met).2):=by
 intro u;induction u using Nat.strongRecOn with
 |_ u ih=>
  intro K ks met hKu hlen hin hm hu;obtain⟨J,rfl⟩: ∃J,K=J+1:=⟨K - 1,by omega⟩;have hJ:2^48<=J:=by omega
  rw[gx,A6l,mb];refine A3k (K:=J) hJ ks (by omega) (Yb (· + ·) (Xk w) w (am (· + ·) 0 (Xk w) w u)) (0,met) (fun s=>Ya w s.2/\met.length<=s.2.length) ⟨hm,Z9 _⟩ (fun s x hx hs=> ?_) _ (fun n s i=>po J (gx J) ks n (Y4 w s.2) (Vu s.1) (ks.length:Int) i w.C.L w.C.k w.C.l w.C.e w.C.m w.C.n w.Q.g w.Q.c w.Q.h w.o w.p w.q) (fun n s i h hs=> ?_) (fun n=> ?_)
  ·obtain⟨a,b⟩:=A3j (op:=(·+ ·)) (g:=Xk w) (A7j (op:=(·+ ·)) (e:=(0:Int)) (g:=Xk w) (w:=w) u) hs.1 (hin x hx);exact⟨a,by omega⟩
  ·have hk:=hin _ (List.getElem_mem h);simp only[po,A2r];rw[Pz h,cond_true,if_pos (Gz h),K1 h,fe,if_pos hk,Bd0 hk,K0 (by omega)];unfold Yb;by_cases hc:ks[i]∈s.2
   ·rw[if_pos hc,List.contains_iff_mem.2 hc,cond_true]
   ·obtain⟨v,rfl,hv⟩:=A3l hs.1 hs.2 hu hk hc;have hcf:s.2.contains ks[i]=false:=by rw[List.contains_eq_mem];exact decide_eq_false hc
    rw[if_neg hc,hcf,cond_false,if_pos hk,if_pos hk,if_pos hk,Bd1 hk,A24 hJ hw.l];simp only[Z0];have:=ih v (by omega) J (Vv w ks[i]) (s.2++[ks[i]]) (by omega) (uc hw _) (qe w _) (ua hs.1 hk hc) hv;unfold Vv at this;rw[this];simp only[Z0];rw[if_pos (by rw[fe,fe])];have e:A4 (Vu s.1) (A4 ((gt w.o ks[i]).L.length:Int) (Vu (Yh (· + ·) 0 (Xk w) w v (Vq w.o (gt w.o ks[i]).i) (s.2++[ks[i]])).1))=Vu (s.1+(Xk w ks[i]+(am (· + ·) 0 (Xk w) w (v+1) (Vv w ks[i]) (s.2++[ks[i]])).1)):=by
     show _=Vu (s.1+(((gt w.o ks[i]).L.length:Int)+(Yh (· + ·) 0 (Xk w) w v (Vq w.o (gt w.o ks[i]).i) (s.2++[ks[i]])).1));generalize (Yh (· + ·) 0 (Xk w) w v (Vq w.o (gt w.o ks[i]).i) (s.2++[ks[i]])).1=B;simp only[A4,Fp,Vu,IntKind.wrap_i64];omega
    rw[e];rfl
  ·simp only[po];rw[Wu (Z9 _),cond_false]
section
variable {K:Nat} (hK:2^48<=K)
include hK
end
instance:DecidablePred wfi:=fun x=>inferInstanceAs (Decidable (_/\_))
theorem fq (n:Int):wfi (IntKind.i64.wrap n):=by rw[IntKind.wrap_i64];exact⟨by omega,by omega⟩
def W3{α:Type}(x:Option (α×Sx))(P:α->Prop):Prop:= ∃a c,x=some (a,c)/\P a/\Vt c
theorem Wk{α:Type}{a:α}{c:Sx}{P:α->Prop}(h:P a)(hc:Vt c):W3 (some (a,c)) P:=⟨_,_,rfl,h,hc⟩
theorem W3.mono{α:Type}{x:Option (α×Sx)}{P Q:α->Prop}(h:W3 x P)(k: ∀a,P a->Q a):W3 x Q:=by
 obtain⟨a,c,e,p,hc⟩:=h;exact⟨a,c,e,k a p,hc⟩
theorem Wb{α β:Type}{x:Option (α×Sx)}{f:α×Sx->Option (β×Sx)}{P:α->Prop}{Q:β->Prop}(h:W3 x P)(k: ∀a c,P a->Vt c->W3 (f (a,c)) Q):W3 (x.bind f) Q:=by
 obtain⟨a,c,e,p,hc⟩:=h
 grind
theorem W7{α:Type}{p:Prop}[Decidable p]{x:Option (α×Sx)}{Q:α->Prop}(h:p)(k:W3 x Q):W3 (if p then x else none) Q:=by grind
theorem Xb{α:Type}{b:Bool}{x y:Option (α×Sx)}{Q:α->Prop}(k:b=true->W3 x Q)(l:b=false->W3 y Q):W3 (bif b then x else y) Q:=by
 grind
theorem Wr (K:Nat){c:Sx}(hc:Vt c){n:Int}(hn:0<n):W3 (P2 K c n) fun x=>0<=x/\x<n:=by
 obtain⟨r,e,b,w⟩:=Xv K hc hn;exact⟨_,_,e,b,w⟩
theorem Alw{β:Type}(K:Nat){c:Sx}{l:List Int}{f:Int×Sx×List Int->Option (β×Sx)}{Q:β->Prop}(hc:Vt c)(hl:0<l.length)(k: ∀x c,x∈l->Vt c->W3 (f (x,c,l)) Q):W3 ((Xc K c l).bind f) Q:=by
 obtain⟨x,c',e,m,w⟩:=ms K hc hl
 grind
theorem Bx5 (K:Nat){c:Sx}(hc:Vt c):W3 (A0t K c) ConfW:=by
 unfold A0t gp;obtain⟨x,c1,e,hx,w⟩:=Bf1 K hc;have W:=Bes hx;rw[e,Z0];dsimp only
 repeat' (first|refine Alw _ (by assumption) (by decide) (fun x c hx hc=>W7 rfl ?_)|refine Wb (Wr _ (by assumption) (by omega)) (fun x c hx hc=> ?_)|refine Xb (fun _=> ?_) (fun _=> ?_))
 all_goals refine Wk ?_ (by assumption)
 ·exact⟨(by decide: ∀y∈([1,2,12,13]:List Int),wfi y) _ ‹_›,W.size,W.slots,W.tax,W.slice,W.gens⟩
 ·exact⟨W.chunks,(by decide: ∀y∈([7,8,16,17]:List Int),wfi y) _ ‹_›,W.slots,W.tax,W.slice,W.gens⟩
 ·exact⟨W.chunks,W.size,(by decide: ∀y∈([1,8,9]:List Int),wfi y) _ ‹_›,W.tax,W.slice,W.gens⟩
 ·exact⟨W.chunks,W.size,W.slots,(by decide: ∀y∈([0,8,9]:List Int),wfi y) _ ‹_›,W.slice,W.gens⟩
 ·exact⟨W.chunks,W.size,W.slots,W.tax,(by decide: ∀y∈([0,17]:List Int),wfi y) _ ‹_›,W.gens⟩
 ·exact⟨W.chunks,W.size,W.slots,W.tax,W.slice,(by decide: ∀y∈([0,5]:List Int),wfi y) _ ‹_›⟩
 ·exact W
theorem jg{l:List Int}(h:l.length<=1000)(x:Int):(l++[x]).length*8<=140737488355328/\(l++[x]).length<=maxLen:=by
 grind [V8]
theorem A4b{l:List H3}(h:l.length<=1000)(x:H3):(l++[x]).length*24<=140737488355328/\(l++[x]).length<=maxLen:=by
 grind [V8]
theorem A4c{l:List Int}(h:Y0 l)(hl:l.length<=1000){x:Int}(hx:wfi x):Y0 (l++[x]):=by
 refine⟨fun y hy=> ?_,by grind⟩;rcases C5.1 hy with hy|hy
 ·exact h.1 y hy
 grind
structure SN (m:Nat)(n:Fy):Prop where
 w:Wo n
 c:n.L.length<=m
 t:n.y.length<=m
 g:n.j.length<=m
theorem SN.tag{m:Nat}{n:Fy}(h:SN m n)(hm:m<=1000){x:Int}(hx:wfi x):SN (m+1) (Fy.mk n.c n.a n.f n.s n.t n.i n.u n.v n.L n.w n.x n.y (n.j++[x])):=by
 have:=h.c;have:=h.t;have:=h.g;exact⟨{h.w with tags:=A4c h.w.tags (by omega) hx},Nat.le_succ_of_le h.c,Nat.le_succ_of_le h.t,by grind⟩
theorem SN.chunk{m:Nat}{n:Fy}(h:SN m n)(hm:m<=1000){x:Int}(hx:wfi x):SN (m+1) (Fy.mk n.c n.a n.f n.s n.t n.i n.u n.v (n.L++[x]) n.w n.x n.y n.j):=by
 have:=h.c;have:=h.t;have:=h.g;exact⟨{h.w with chunks:=A4c h.w.chunks (by omega) hx},by grind,Nat.le_succ_of_le h.t,Nat.le_succ_of_le h.g⟩
theorem SN.thing{m:Nat}{n:Fy}(h:SN m n)(hm:m<=1000){x:H3}(hx:ThingW x):SN (m+1) (Fy.mk n.c n.a n.f n.s n.t n.i n.u n.v n.L n.w n.x (n.y++[x]) n.j):=by
 have:=h.c;have:=h.t;have:=h.g;refine⟨{h.w with things:=⟨fun y hy=> ?_,by grind⟩},Nat.le_succ_of_le h.c,by grind,Nat.le_succ_of_le h.g⟩;rcases C5.1 hy with hy|hy
 ·exact h.w.things.1 y hy
 grind
theorem SN.mono{m k:Nat}{n:Fy}(h:SN m n)(hk:m<=k):SN k n:=⟨h.w,Dn h.c hk,Dn h.t hk,Dn h.g hk⟩
theorem sbn{i:Nat}(hi:0<i)(h:i<=1000):Ap (i:Int) 1=((i - 1:Nat):Int):=by grind [uj]
theorem Bx6 (K:Nat){c:Sx}(hc:Vt c){x:Sv}(hx:Vw x=true):W3 (A0u K c x) ThingW:=by
 have b0:=Gy hx;have j: ∀(c:Sx) (t:H3),Vt c->W3 (yj K x c.fb c.fi c.fh t) ThingW:=by
  intro c t hc;unfold yj;refine Wb (Wr K hc (by omega)) (fun y1 c1 h1 w1=>Wb (Wr K w1 (by omega)) (fun y2 c2 h2 w2=> ?_));dsimp only at w2 ⊢;have e:Ap x.k y2=x.k - y2:=by grind [Ap,Aly,Vs]
  rw[e];refine Wb (Wr K w2 (by omega)) (fun y3 c3 h3 w3=>Wk ⟨fq _,fq _,Wj⟩ w3)
 unfold A0u;obtain⟨r,e,w⟩:=mr K hc (n:=4) (by omega);rw[e,Z0];refine Xb (fun _=>Xb (fun h=> ?_) (fun _=>j _ _ w)) (fun _=>j _ _ w);rw[decide_eq_true_eq]at h;rw[show Ap x.L 1=x.L - 1 from by grind [Ap,Aly,Vs]];exact Wb (Wr K w (by omega)) (fun y1 c1 h1 w1=>Wb (Wr K w1 (by omega)) (fun y2 c2 h2 w2=>Wk ⟨fq _,fq _,Vz (x:=2) (by decide) (by decide)⟩ w2))
theorem Bx7 (K:Nat): ∀(f i m:Nat) (c:Sx) (n:Fy),i<f->m+i<=50->SN m n->Vt c->W3 (yk K f (i:Int) c.fb c.fi c.fh n) (SN 50):=by
 intro f;induction f with
 |zero=>omega
 |succ f ih=>
  intro i m c n hi hm hn hc;have:=hn.g;rw[yk];refine Xb (fun h=> ?_) (fun _=>Wk (hn.mono (by omega)) hc);rw[decide_eq_true_eq]at h;refine Wb (Wr K hc (by omega)) (fun y c1 hy w1=>W7 (jg (by omega) _) ?_);rw[sbn (by omega) (by omega)];exact ih (i - 1) (m+1) c1 _ (by omega) (by omega) (hn.tag (by omega) (Vz (by omega) (by omega))) w1
section
variable {K:Nat} (hK:2^48<=K)
include hK
theorem Bx8{x:Sv}(hx:Vw x=true): ∀(f i m:Nat) (c:Sx) (n:Fy),i<f->m+i<=40->SN m n->Vt c->W3 (yl K x f (i:Int) c.fb c.fi c.fh n) (SN 50):=by
 intro f;induction f with
 |zero=>omega
 |succ f ih=>
  intro i m c n hi hm hn hc;have:=hn.t;rw[yl];refine Xb (fun h=> ?_) (fun _=> ?_)
  ·rw[decide_eq_true_eq]at h;refine Wb (Bx6 K hc hx) (fun y c1 hy w1=>W7 (A4b (by omega) _) ?_);rw[sbn (by omega) (by omega)];exact ih (i - 1) (m+1) c1 _ (by omega) (by omega) (hn.thing (by omega) hy) w1
  ·refine Wb (Wr K hc (by omega)) (fun y c1 hy w1=> ?_);have:=Bx7 K K y.toNat 40 c1 n (by omega) (by omega) (hn.mono (by omega)) w1
   grind
theorem Bx9{x:Sv}(hx:Vw x=true)(z:Fy): ∀(f i m:Nat) (c:Sx) (n:Fy),i<f->m+i<=20->SN m n->Vt c->W3 (yn K x f (i:Int) c.fb c.fi c.fh n z) (SN 50):=by
 have b0:=Gy hx;have j: ∀(c:Sx) (n:Fy),SN 20 n->Vt c->W3 (ym K x c.fb c.fi c.fh n) (SN 50):=by
  intro c n hn hc;unfold ym;refine Wb (Wr K hc (by omega)) (fun y c1 hy w1=> ?_);have:=Bx8 hK hx K y.toNat 20 c1 n (by omega) (by omega) hn w1
  grind
 intro f;induction f with
 |zero=>omega
 |succ f ih=>
  intro i m c n hi hm hn hc;have:=hn.c;rw[yn];refine Xb (fun h=> ?_) (fun _=>Xb (fun h=> ?_) (fun _=>j _ _ (hn.mono (by omega)) hc))
  ·rw[decide_eq_true_eq]at h;refine W7 (jg (by omega) _) ?_;rw[sbn (by omega) (by omega)];exact ih (i - 1) (m+1) c _ (by omega) (by omega) (hn.chunk (by omega) (Vz (by omega) (by omega))) hc
  ·rw[decide_eq_true_eq]at h;refine W7 ⟨by omega,h⟩ ?_;rw[Yl (x:=x.k) (by omega) (by omega)];refine Wb (Wr K hc (by omega)) (fun y c1 hy w1=> ?_);exact j c1 _ (SN.mono (m:=m) ⟨{hn.w with cur:=fq _,bump:=Vz (x:=y) (by omega) (by omega)},hn.c,hn.t,hn.g⟩ (by omega)) w1
theorem Bya{x:Sv}(hx:Vw x=true){c:Sx}(hc:Vt c):W3 (A0v K c x) (SN 50):=by
 have b0:=Gy hx;unfold A0v bz;have s0: ∀a b d:Int,wfi a->wfi b->wfi d->SN 0 (Fy.mk a b d 0 0 0 0 0 [] 0 0 [] []):=fun a b d ha hb hd=>⟨⟨ha,hb,hd,Wj,Wj,Wj,Wj,Wj,ik,Wj,Wj,A3f,ik⟩,by simp,by simp,by simp⟩
 refine Wb (Wr K hc (by omega)) (fun y1 c1 h1 w1=> ?_);rw[Z0];refine Wb (Wr K w1 (by omega)) (fun y2 c2 h2 w2=>Xb (fun _=>Wk ((s0 _ _ _ (Vz (by omega) (by omega)) (fq _) Wj).mono (by omega)) w2) (fun _=> ?_));refine Wb (Wr K w2 (by omega)) (fun y3 c3 h3 w3=>Wb (Wr K w3 (by omega)) (fun y4 c4 h4 w4=> ?_));have:=Bx9 hK hx (Fy.mk 0 0 0 0 0 0 0 0 [] 0 0 [] []) K y4.toNat 10 c4 _ (by omega) (by omega) ((s0 y2 (A4 1 y1) y3 (Vz (by omega) (by omega)) (fq _) (Vz (by omega) (by omega))).mono (by omega)) w4
 grind
end
theorem Bgb (a b d:Int)(ha:wfi a)(hb:wfi b)(hd:wfi d):ThingW (H3.mk a b d):=⟨ha,hb,hd⟩
structure DP (c:Sv)(n:Fy):Prop where
 l:W2 c n
 t:av c [] n
 e:ap 1 n
theorem DP.w{c:Sv}{n:Fy}(h:DP c n):Wo n:=jc (Xm.2 h.l).1 h.e (by omega)
theorem A4d{c:Sv}{n:Fy}(L:W2 c n)(e:ap 1 n):SN 40 n:=⟨jc (Xm.2 L).1 e (by omega),by have:=Y9 L.conf L.dist;omega,by have:=L.nth;omega,by have:=L.ntag;omega⟩
theorem Byb (K:Nat): ∀(f i m:Nat) (c:Sx) (n:Fy),i<f->m+i<=50->SN m n->Vt c->W3 (yp K f (i:Int) c.fb c.fi c.fh n) (SN 50):=by
 intro f;induction f with
 |zero=>omega
 |succ f ih=>
  intro i m c n hi hm hn hc;have:=hn.g;rw[yp];refine Xb (fun h=> ?_) (fun _=>Wk (hn.mono (by omega)) hc);rw[decide_eq_true_eq]at h;refine Wb (Wr K hc (by omega)) (fun y c1 hy w1=>W7 (jg (by omega) _) ?_);rw[sbn (by omega) (by omega)];exact ih (i - 1) (m+1) c1 _ (by omega) (by omega) (hn.tag (by omega) (Vz (by omega) (by omega))) w1
section
variable {K:Nat} (hK:2^48<=K)
include hK
theorem Byc{x:Sv}(hx:Vw x=true){c:Sx}(hc:Vt c):W3 (A0w K c x) (SN 60):=by
 unfold A0w cg;refine Wb (Bya hK hx hc) (fun n c1 hn w=> ?_);have:=hn.c;have:=hn.t;have:=hn.g;have W:=hn.w;have M:=hn.mono (k:=60) (by omega)
 repeat' (first|refine Alw _ (by assumption) (by decide) (fun x c hx hc=>W7 rfl ?_)|refine Wb (Wr _ (by assumption) (by omega)) (fun x c hx hc=> ?_)|refine Xb (fun _=> ?_) (fun _=> ?_))
 ·exact Wk ⟨{W with st:=fq _},M.c,M.t,M.g⟩ (by assumption)
 ·exact Wk ⟨{W with gen:=(by decide: ∀y∈([0,4,5]:List Int),wfi y) _ ‹_›},M.c,M.t,M.g⟩ (by assumption)
 ·exact Wk ⟨{W with up:=(by decide: ∀y∈([-1,1,8,9]:List Int),wfi y) _ ‹_›},M.c,M.t,M.g⟩ (by assumption)
 ·exact W7 (jg (show n.L.length<=_ by omega) _) (Wk ((hn.chunk (by omega) ((by decide: ∀y∈([0,12,-1]:List Int),wfi y) _ ‹_›)).mono (by omega)) (by assumption))
 ·exact Wk ⟨{W with cur:=Vz (x:= ‹Int›) (by omega) (by omega)},M.c,M.t,M.g⟩ (by assumption)
 ·exact Wk ⟨{W with bump:=(by decide: ∀y∈([0,8,17,-1]:List Int),wfi y) _ ‹_›},M.c,M.t,M.g⟩ (by assumption)
 ·exact W7 (jg (show n.j.length<=_ by omega) _) (Wk ((hn.tag (by omega) ((by decide: ∀y∈([255,256,-1]:List Int),wfi y) _ ‹_›)).mono (by omega)) (by assumption))
 ·refine W7 (A4b (show n.y.length<=_ by omega) _) (Wk ((hn.thing (by omega) (Bgb _ _ _ ?_ ?_ ?_)).mono (by omega)) (by assumption))
  all_goals grind [Vz]
 simp_all[Wk]
theorem Byd{c:Sv}{n:Fy}(L:W2 c n)(e:ap 1 n): ∃n' b,nq K c n 2 (A4 c.k 1)=some (n',b)/\SN 40 n':=by
 have hm:=V8;have b0:=Gy L.conf;have S:=A4d L e;have W:=S.w;have h1:=Y9 L.conf L.dist;have h3:=L.nth;have h4:=L.ntag;have q1:2*c.k<=c.L*c.k:=Int.mul_le_mul_of_nonneg_right (by omega) (by omega);have hby:Ws c=c.L*c.k:=by unfold Ws;rw[L.conf];rfl
 have done: ∃n' b,some (n,false)=some (n',b)/\SN 40 n':=⟨_,_,rfl,S⟩;unfold nq gb gd;rw[Yl (x:=c.k) (by omega) (by omega),ii K W,Z0,dv,L.conf];simp only[Z0,cond_true];rw[show(n.c != 1)=false by rw[L.st];rfl,cond_false,decide_eq_true (by omega),cond_true,pq,Z0,decide_eq_false (by omega),cond_false,Xl,ia hK L.conf];simp only[Z0];cases q:Qi 2 0 (c.L - 1)with
 |false=>exact done
 |true=>
 simp only[Bool.not_true,cond_false];have hr:We (c.k+1) c.k=2:=by
  unfold We;rw[V1.2 ⟨by omega,by omega⟩,V1.2 ⟨by omega,by omega⟩];show(c.k+1+c.k - 1) / c.k=2;rw[show c.k+1+c.k - 1=c.k*2 by omega,Int.mul_ediv_cancel_left _ (by omega)]
 rw[tk,Z0,hr,Z0];obtain⟨k,rfl⟩: ∃k,K=k+3:=⟨K - 3,by omega⟩;have e3: ∀i:Nat,i<=2->A4 2 (i:Int)=2+i:=fun i hi=>by grind [A4,Fp,Vs]
 have s1:=jg (l:=n.L) (by omega) (A4 2 0);have s2:=jg (l:=n.L++[A4 2 0]) (by grind) (A4 2 (A4 0 1));have s3:=A4b (l:=n.y) (by omega) (H3.mk (Gx 2 c.k) (c.k+1) 2);rw[jy,show decide ((0:Int)<2)=true from rfl,cond_true];rw[if_pos s1,jy,show decide (A4 0 1<2)=true from rfl,cond_true];simp only;rw[if_pos s2,jy,show decide (A4 (A4 0 1) 1<2)=false from rfl,cond_false];simp only;rw[if_pos s3,pu hK c (Fy.mk n.c n.a n.f n.s n.t n.i n.u n.v (n.L++[A4 2 0]++[A4 2 (A4 0 1)]) n.w n.x (n.y++[H3.mk (Gx 2 c.k) (c.k+1) 2]) n.j) (by grind) (by grind) (show n.j.length<=_ by omega),Z0];cases q3:Wv c (Fy.mk n.c n.a n.f n.s n.t n.i n.u n.v (n.L++[A4 2 0]++[A4 2 (A4 0 1)]) n.w n.x (n.y++[H3.mk (Gx 2 c.k) (c.k+1) 2]) n.j)with
 |false=>
  simp_all[ii]
 |true=>
  exact⟨_,_,rfl,A4d (Xm.1 ⟨q3,L.st⟩) ⟨e.ep,e.ue,e.cur⟩⟩
theorem Bye{x:Sv}(hx:Vw x=true)(z:Fy): ∀(f i:Nat) (c:Sx) (n:Fy),i<f->i<=20->DP x n->Vt c->W3 (yr K x f (i:Int) c.fb c.fi c.fh n z) (SN 50):=by
 have b0:=Gy hx;have j: ∀(c:Sx) (n:Fy),SN 40 n->Vt c->W3 (yq K c.fb c.fi c.fh n) (SN 50):=by
  intro c n hn hc;unfold yq;refine Wb (Wr K hc (by omega)) (fun y c1 hy w1=> ?_);have:=Byb K K y.toNat 40 c1 n (by omega) (by omega) hn w1
  grind
 intro f;induction f with
 |zero=>omega
 |succ f ih=>
  intro i c n hi hm hn hc;rw[yr];refine Xb (fun h=> ?_) (fun _=> ?_)
  ·rw[decide_eq_true_eq]at h;refine Wb (Wr K hc (by omega)) (fun y c1 hy w1=>Alw K w1 (by decide) (fun a c2 ha w2=>W7 rfl ?_));have e:A4 1 y=1+y:=by grind [A4,Fp,Vs]
   obtain⟨n',b,e2,h2⟩:=Bfq hK hn.l hn.w hn.e.cur (1+y) a ⟨by omega,by omega⟩;dsimp only;rw[e,e2,Z0,sbn (by omega) (by omega)];have h3:DP x n':=by
    rcases h2 with rfl|⟨off,hs,rfl⟩
    ·exact hn
    ·obtain⟨l1,l2⟩:=Bfm hn.l hn.e.cur hn.t hs;exact⟨l1,l2,⟨hn.e.ep,hn.e.ue,hn.e.cur⟩⟩
   grind
  ·obtain⟨r,e,w⟩:=mr K hc (n:=3) (by omega);rw[show Sx.mk c.fb c.fi c.fh=c from rfl,e,Z0];refine Xb (fun _=> ?_) (fun _=>j _ _ (A4d hn.l hn.e) w);obtain⟨n',b,e2,h2⟩:=Byd hK hn.l hn.e
   grind
theorem Byf{x:Sv}(hx:Vw x=true){c:Sx}(hc:Vt c):W3 (A0x K c x) (SN 50):=by
 have b0:=Gy hx;unfold A0x bz;refine Wb (Wr K hc (by omega)) (fun y1 c1 h1 w1=> ?_);rw[Z0];refine Wb (Wr K w1 (by omega)) (fun y2 c2 h2 w2=>Wb (Wr K w2 (by omega)) (fun y3 c3 h3 w3=> ?_));dsimp only;have e:A4 1 y1=1+y1:=by grind [A4,Fp,Vs]
 rw[e];have L:W2 x (Fy.mk 1 (1+y1) y2 0 0 0 0 0 [] 0 0 [] []):=⟨hx,rfl,⟨by grind,by grind⟩,⟨by grind,by grind⟩,⟨by grind,by grind⟩,⟨by grind,by grind⟩,⟨by grind,by grind⟩,h2.1,by grind,rfl,rfl,by simp,by simp,rfl,rfl⟩;have E:ap 1 (Fy.mk 1 (1+y1) y2 0 0 0 0 0 [] 0 0 [] []):=⟨by grind,by grind,by grind,by grind⟩;have L2:=A8b L (k:=y3) ⟨by omega,by omega⟩ (by simp);rw[A8c hK L (A4d L E).w ⟨by omega,by omega⟩ (by simp),Z0];have D:DP x (Zh (Fy.mk 1 (1+y1) y2 0 0 0 0 0 [] 0 0 [] []) y3):=⟨L2,⟨rfl,rfl,by simp[X7,Zh,Wd]⟩,⟨E.ep,E.ue,by show 0<=y3+1;omega,by show y3+1<=1000;omega⟩⟩;refine Wb (Wr K w3 (by omega)) (fun y4 c4 h4 w4=> ?_);have:=Bye hK hx (Fy.mk 0 0 0 0 0 0 0 0 [] 0 0 [] []) K y4.toNat c4 _ (by omega) (by omega) D w4;rw[Int.toNat_of_nonneg (by omega)]at this;exact this
structure SW (m:Nat)(x:G9):Prop where
 w:Zj x
 g:x.j.length<=m
 c:x.L.length<=m
theorem Byg{x:Sv}(hx:Vw x=true){c:Sx}(hc:Vt c):W3 (A01 K c x) (SW 60):=by
 have b0:=Gy hx;have j: ∀(c:Sx) (a z:G9),SW 50 a->Vt c->W3 (yt K c.fb c.fi c.fh a z) (SW 50):=by
  intro c a z ha hc;unfold yt A0z;obtain⟨r,e,w⟩:=mr K hc (n:=4) (by omega);rw[show Sx.mk c.fb c.fi c.fh=c from rfl,e,Z0];exact Xb (fun _=>Wk ⟨⟨ha.w.slot,ha.w.first,ik,ik,Wj⟩,by simp,by simp⟩ w) (fun _=>Wk ha w)
 have d:W3 (A00 K c x) (SW 50):=by
  unfold A00;refine Wb (Byf hK hx hc) (fun n c1 hn w1=> ?_);dsimp only;rw[Yl (x:=x.l) (by omega) (by omega)];refine Wb (Wr K w1 (by omega)) (fun y2 c2 h2 w2=> ?_);dsimp only;rw[A3e K hn.w,Z0];have W:=Bdo hn.w (s:=y2) (Vz (by omega) (by omega));refine Wb (Wr K w2 (by omega)) (fun y3 c3 h3 w3=> ?_);have hf:wfi y3:=Vz (by omega) (by omega);refine Xb (fun _=>Wb (Wr K w3 (by omega)) (fun y4 c4 h4 w4=> ?_)) (fun _=>j _ _ _ ⟨⟨W.slot,hf,W.tags,W.chunks,Wj⟩,hn.g,hn.c⟩ w3);exact j _ _ _ ⟨⟨W.slot,hf,W.tags,W.chunks,Vz (x:=y4) (by omega) (by omega)⟩,hn.g,hn.c⟩ w4
 unfold A01 kt;refine Wb d (fun a c1 ha w=> ?_);have h1:=ha.g;have h2:=ha.c;have W:=ha.w
 repeat' (first|refine Alw _ (by assumption) (by decide) (fun x c hx hc=>W7 rfl ?_)|refine Wb (Wr _ (by assumption) (by omega)) (fun x c hx hc=> ?_)|refine Xb (fun _=> ?_) (fun _=> ?_))
 ·exact Wk ⟨{W with slot:=(by decide: ∀y∈([-1,0,8,9]:List Int),wfi y) _ ‹_›},show a.j.length<=60 by omega,show a.L.length<=60 by omega⟩ (by assumption)
 ·exact Wk ⟨{W with first:=(by decide: ∀y∈([-1,9,0]:List Int),wfi y) _ ‹_›},show a.j.length<=60 by omega,show a.L.length<=60 by omega⟩ (by assumption)
 ·exact Wk ⟨{W with done:=(by decide: ∀y∈([-1,0,8,16]:List Int),wfi y) _ ‹_›},show a.j.length<=60 by omega,show a.L.length<=60 by omega⟩ (by assumption)
 ·exact W7 (jg (show a.j.length<=_ by omega) _) (Wk ⟨{W with tags:=A4c W.tags (by omega) ((by decide: ∀y∈([-1,255,256]:List Int),wfi y) _ ‹_›)},by grind,show a.L.length<=60 by omega⟩ (by assumption))
 ·exact W7 (jg (show a.L.length<=_ by omega) _) (Wk ⟨{W with chunks:=A4c W.chunks (by omega) ((by decide: ∀y∈([-1,0,12]:List Int),wfi y) _ ‹_›)},show a.j.length<=60 by omega,by grind⟩ (by assumption))
 ·exact Wk ⟨W,show a.j.length<=60 by omega,show a.L.length<=60 by omega⟩ (by assumption)
end
structure AnyP (w:H4):Prop where
 ww:Wa w
 l:w.o.length<=8
 s:w.Q.c.length<=12/\w.Q.h.length<=12/\w.Q.g.length<=192
 q:w.p.length<=40000
 g:w.q.length<=40000
 n: ∀x∈w.o,SN 80 x
theorem Byh{l:List G9}(h:A20 l)(hl:l.length<=100000){x:G9}(hx:Zj x):A20 (l++[x]):=by
 refine⟨fun y hy=> ?_,by grind⟩;rcases C5.1 hy with hy|hy
 ·exact h.1 y hy
 grind
theorem jh{α:Type}{l:List α}{P:α->Prop}(h: ∀x∈l,P x)(i:Nat){x:α}(hx:P x): ∀y∈l.set i x,P y:=by
 grind
theorem AnyP.node{w:H4}(h:AnyP w)(i:Nat){x:Fy}(hx:SN 80 x):AnyP (H4.mk w.C w.Q (w.o.set i x) w.p w.q):=
 ⟨{h.ww with l:=Afj h.ww.l i hx.w},by show(w.o.set i x).length<=8;grind [l],h.s,h.q,h.g,jh h.n i hx⟩
section
variable {K:Nat} (hK:2^48<=K)
include hK
theorem Byi{c:Sx}(hc:Vt c){most:Int}(hm:0<most/\most<=1000):W3 (A02 K c most) AnyP:=by
 obtain⟨x,l,w,c',E,n,e,G,hE,hn,hwc,hx,_,_,w1⟩:=run_ok hK hc hm;have W:=G.wc (by omega);have I:=G.inv;have hlen:=I.len;obtain⟨b1,b2,b3,b4,b5,b6⟩:=Gy I.conf;have P:=W6.1 I.pool;have h1:=uk w;have h2:=Ak2 w;have h3:=G.wt;have p1:=P.st;have p2:=P.own;have p3:=P.mem;have hmm:=Zp (a:=w.C.L) (b:=w.C.k) (m:=12) (n:=16) (by omega) b1.2 (by omega) b2.2;have hm0:0<w.C.L*w.C.k:=Int.mul_pos (by omega) (by omega);have N: ∀y∈w.o,SN 12 y:=ml fun k hk=>by
  have hb:=I.node k hk;have hy:=jc hb (G.ep k hk) (by omega);by_cases s:(gt w.o k).c=1
  ·have X:=Xm.1 ⟨hb,s⟩;have:=X.nth;have:=X.ntag;have:=Y9 X.conf X.dist;exact⟨hy,by omega,by omega,by omega⟩
  ·rw[dh hb s]at hy ⊢;exact⟨hy,by simp[Wg],by simp[Wg],by simp[Wg]⟩
 have A:AnyP w:=⟨W,by omega,by omega,by omega,by omega,fun y hy=>(N y hy).mono (by omega)⟩;unfold A02 yi;rw[e,Z0,Z0];refine Wb (Wr K w1 (by grind)) (fun k c2 hk w2=>Wb (Wr K w2 (by omega)) (fun d c3 hd w3=> ?_));dsimp only at hk ⊢;have hg:=Wi hk.1 hk.2;have S:=N _ hg;have SW':=S.w;have St:=S.t;have M:=S.mono (k:=80) (by omega);unfold Yr;refine Xb (fun _=>Wb (Bx5 K w3) (fun y c4 hy w4=>Wk ⟨{W with c:=hy},A.l,A.s,A.q,A.g,A.n⟩ w4)) (fun _=> ?_);refine Xb (fun _=>Wb (Wr K w3 (by omega)) (fun y c4 hy w4=>Wb (Wr K w4 (by omega)) (fun z c5 hz w5=>W7 hy (Wk ⟨{W with p:={W.p with st:=⟨jh W.p.st.1 _ (Vz (x:=z) (by omega) (by omega)),by grind⟩}},A.l,by grind,A.q,A.g,A.n⟩ w5)))) (fun _=> ?_);refine Xb (fun _=>Wb (Wr K w3 (by omega)) (fun y c4 hy w4=>W7 hy (Wk ⟨{W with p:={W.p with mem:=⟨jh W.p.mem.1 _ ⟨by decide,by decide⟩,by grind⟩}},A.l,by grind,A.q,A.g,A.n⟩ w4))) (fun _=> ?_);refine Xb (fun _=>Wb (Byc hK I.conf w3) (fun y c4 hy w4=>W7 hk (Wk (A.node _ (hy.mono (by omega))) w4))) (fun _=> ?_);refine Xb (fun _=>Wb (Wr K w3 (by omega)) (fun y c4 hy w4=>W7 hk (Wk (A.node _ ⟨{SW' with st:=Vz (x:=y) (by omega) (by omega)},M.c,M.t,M.g⟩) w4))) (fun _=> ?_);refine Xb (fun _=>Wb (Wr K w3 (by omega)) (fun y c4 hy w4=>W7 hk (Wk (A.node _ ⟨{SW' with up:=Vz (x:=y) (by omega) (by omega)},M.c,M.t,M.g⟩) w4))) (fun _=> ?_);refine Xb (fun _=>W7 hk (W7 hk (Wk (A.node _ ⟨{SW' with ep:=fq _},M.c,M.t,M.g⟩) w3))) (fun _=> ?_);refine Xb (fun _=>Wb (Byg hK I.conf w3) (fun y c4 hy w4=>W7 ?_ (Wk ⟨{W with q:=Byh W.q (by omega) hy.w},A.l,A.s,by grind,A.g,A.n⟩ w4))) (fun _=> ?_)
 ·grind [V8]
 refine Xb (fun _=>Xb (fun h=> ?_) (fun _=>Wk A w3)) (fun _=> ?_)
 ·rw[decide_eq_true_eq]at h;refine W7 ⟨by omega,by omega,by omega⟩ (Wk ⟨{W with q:=⟨fun y hy=>W.q.1 y (List.mem_of_mem_drop (Kk hy)),by grind⟩},A.l,A.s,by grind,A.g,A.n⟩ w3)
 refine Xb (fun _=>Alw K w3 (by decide) (fun y c4 hy w4=>W7 rfl (W7 ?_ (Wk ⟨{W with log:=⟨fun z hz=> ?_,by grind⟩},A.l,A.s,A.q,by grind,A.n⟩ w4)))) (fun _=> ?_)
 ·grind [V8]
 ·rcases C5.1 hz with hz|hz
  ·exact W.log.1 z hz
  ·rw[Dt.1 hz];exact(by decide: ∀y∈([0,255,256,-1]:List Int),wfi y) _ hy
 refine Xb (fun _=>W7 hk (W7 hk (Wb (Wr K w3 (by omega)) (fun y c4 hy w4=>W7 (A4b (by omega) _) (W7 hk (Wk (A.node _ ((S.thing (by omega) (Bgb _ _ _ (Vz (x:=y) (by omega) (by omega)) (Vz (by decide) (by decide)) Wj)).mono (by omega))) w4)))))) (fun _=> ?_);refine Xb (fun _=>Wb (Wr K w3 (by omega)) (fun y c4 hy w4=>W7 hk (Wk (A.node _ ⟨{SW' with next:=Vz (x:=y) (by omega) (by omega)},M.c,M.t,M.g⟩) w4))) (fun _=> ?_);refine Xb (fun _=>Xb (fun h=> ?_) (fun _=>Wk A w3)) (fun _=>Wk A w3);rw[decide_eq_true_eq]at h;refine Wb (Wr K w3 (by omega)) (fun y c4 hy w4=>W7 ⟨by omega,h⟩ (Wk ⟨{W with q:=⟨jh W.q.1 _ {W.q.1 _ (Wi (i:=0) (by omega) h)with done:=Vz (x:=y) (by omega) (by omega)},by grind⟩},A.l,A.s,by grind,A.g,A.n⟩ w4))
end
theorem Byj{w:H4}(h:fc w=true):Zw w.C w.Q:=by
 unfold fc at h;rw[Z4]at h;exact W6.1 h.1
section
variable {K:Nat} (hK:2^48<=K)
include hK
end
theorem uz{a b:Int}(h0: -1000000000<=a+b)(h1:a+b<=1000000000):A4 a b=a+b:=by grind [A4,Fp,Vs]
theorem sbG{a b:Int}(h0: -1000000000<=a - b)(h1:a - b<=1000000000):Ap a b=a - b:=by grind [Ap,Aly,Vs]
def X0 (c:Sv)(d:Int):Int:=if c.k<d+c.m then c.k else d+c.m
def aa (c:Sv)(p:Pc)(k d:Int):List Int:=Yi p.g (k*c.k+d).toNat (X0 c d - d).toNat
def ax (c:Sv)(p:Pc)(k d:Int):Pc×Bool:=
 bif Xh c p&&(Qi k 0 (c.L - 1)&&(gt p.c k==2&&Qi d 0 (c.k - 1)))then
  (if X0 c d<c.k then(Pc.mk (aa c p k d) p.c p.h,false)
   else bif Wd (((aa c p k d).drop (k*c.k).toNat).take c.k.toNat)then(Pc.mk (aa c p k d) (p.c.set k.toNat 0) p.h,true)else(p,false))
 else(p,false)
section
variable {K:Nat} (hK:2^48<=K)
include hK
theorem Bgc (c:Sv){p:Pc}(hw:X1 p)(k d:Int):rn K c p k d=some (ax c p k d):=by
 unfold rn ax;rw[Ae5 K hw,Z0,A6s hK,Z0];cases hp:Xh c p with
 |false=>rfl
 |true=>
 have hc:=(Zq hp).1;have P:=W6.1 hp;have b0:=Gy hc;rw[ia hK hc,Xl];simp only[cond_true,Z0,Z30];cases h1:Qi k 0 (c.L - 1)with
 |false=>rfl
 |true=>
 have hk:=V1.1 h1;have hst:=P.st;rw[cond_true,if_pos (show 0<=k/\k<(p.c.length:Int) from⟨hk.1,by omega⟩)];cases h2:(gt p.c k==2)with
 |false=>grind
 |true=>
 simp only[bne,h2,Bool.not_true,cond_false,Z30];rw[Xl,Aeg hc];cases h3:Qi d 0 (c.k - 1)with
 |false=>rfl
 |true=>
 have hd:=V1.1 h3;have hk2:k<c.L:=by omega
 obtain⟨e1,e2,e3,e4⟩:=ld hc P.mem hk.1 hk2;have hl:p.g.length<=192:=Ak3 P;have es:A4 d c.m=d+c.m:=uz (by omega) (by omega);have ht:d<=X0 c d/\X0 c d<=c.k:=by grind [X0]
 have el:rm K (d+c.m) c.k=some (X0 c d):=by
  grind [rm,X0]
 have ea:A4 (k*c.k) d=k*c.k+d:=uz (by omega) (by omega);have en:Ap (X0 c d) d=X0 c d - d:=sbG (by omega) (by omega);simp only[Z0,Bool.not_true,cond_false,cond_true];rw[es,el,e1,ea,Z0,en,Beu hK (by omega) ⟨by omega,by omega⟩ (by omega) (by omega),Z0];show(bif decide (X0 c d<c.k)then _ else _)=_;by_cases q:X0 c d<c.k
 ·rw[decide_eq_true q,if_pos q];rfl
 ·rw[decide_eq_false q,if_neg q,cond_false,e2,if_pos ⟨by omega,by omega,by show _<=((Yi _ _ _).length:Int);rw[aq];omega⟩];have et:(k*c.k+c.k - k*c.k).toNat=c.k.toNat:=by omega
  rw[et];show(jt K ((List.drop (k*c.k).toNat (aa c p k d)).take c.k.toNat)).bind _=_;rw[Abf hK _ (by grind),Z0];cases h4:Wd (((aa c p k d).drop (k*c.k).toNat).take c.k.toNat)with
  |false=>rfl
  |true=>simp only[Bool.not_true,cond_false,cond_true];rw[if_pos ⟨hk.1,by omega⟩];rfl
omit hK in
theorem Byk (mem:List Int){a n:Nat}(h:a+n<=mem.length):Yi mem a n=mem.take a++List.replicate n 0++mem.drop (a+n):=by
 apply List.ext_getElem?;intro j;unfold Yi;rw[As];rcases Bj j mem.length with hj|hj
 ·rw[List.getElem?_range hj,Du];rcases Bj j a with q|q
  ·rw[if_neg (by omega),Je,D5 (by grind),Jf,if_pos q,K1 hj,A3 hj]
  ·rcases Bj j (a+n)with r|r
   ·grind
   ·rw[if_neg (by omega),C4 (by grind),Mu,K1 hj]
    grind
 grind
omit hK in
theorem Byl{mem:List Int}{a d n:Nat}:Wd (((Yi mem (a+d) (n - d)).drop a).take n)=Wd ((mem.drop a).take (min d n)):=by
 rw[Bool.eq_iff_iff,qi,qi,aq];constructor
 ·intro h j h1 h2 h3;have:=h j h1 (by omega) h3;rw[je h3,if_neg (by omega)]at this;exact this
 grind [je]
theorem Bym (c:Sv){p:Pc}(hw:X1 p)(k d:Int):A2f K c p k d=some (ax c p k d):=by
 unfold A2f ax;rw[A7f K hw,Z0,Bco hK,Z0];cases hp:Xh c p with
 |false=>rfl
 |true=>
 have hc:=(Zq hp).1;have P:=W6.1 hp;have b0:=Gy hc;rw[ia hK hc,bb];simp only[cond_true,Z0,Z30];cases h1:Qi k 0 (c.L - 1)with
 |false=>rfl
 |true=>
 have hk:=V1.1 h1;have hst:=P.st;rw[cond_true,if_pos (show 0<=k/\k<(p.c.length:Int) from⟨hk.1,by omega⟩)];cases h2:(gt p.c k==2)with
 |false=>grind
 |true=>
 simp only[bne,h2,Bool.not_true,cond_false,Z30];rw[bb,Aeg hc];cases h3:Qi d 0 (c.k - 1)with
 |false=>rfl
 |true=>
 have hd:=V1.1 h3;have hk2:k<c.L:=by omega
 obtain⟨e1,e2,e3,e4⟩:=ld hc P.mem hk.1 hk2;have hl:p.g.length<=192:=Ak3 P;have es:A4 d c.m=d+c.m:=uz (by omega) (by omega);have ht:d<=X0 c d/\X0 c d<=c.k/\d<X0 c d:=by grind [X0]
 have em:M6 (d+c.m) c.k=X0 c d:=by
  rfl
 have hj: ∀(v:Bool) (z:Pc),zr K c k d p v z=some (Pc.mk (aa c p k d) (bif v then p.c.set k.toNat 0 else p.c) p.h,v):=by
  intro v z;unfold zr A2e;rw[e1,e2,es,em,if_pos (by omega),if_pos (by omega),if_pos (by omega),if_pos ⟨hk.1,by omega⟩];have hm:p.g.take (k*c.k+d).toNat++List.replicate (k*c.k+X0 c d - (k*c.k+d)).toNat 0++p.g.drop ((k*c.k+d).toNat+(k*c.k+X0 c d - (k*c.k+d)).toNat)=aa c p k d:=by
   unfold aa;rw[show(k*c.k+X0 c d - (k*c.k+d)).toNat=(X0 c d - d).toNat by omega,Byk _ (by omega)]
  grind
 simp only[Z0,Bool.not_true,cond_false,cond_true,es];by_cases q:X0 c d<c.k
 ·have hq: ¬(d+c.m>=c.k):=by grind [X0]
  grind
 ·have hq:d+c.m>=c.k:=by grind [X0]
  have hto:X0 c d=c.k:=by omega
  rw[decide_eq_true hq,cond_true,A6r hK hc P.mem hk.1 (by omega),Z0,if_neg q];have hcl:(Yf c p.g k).length=c.k.toNat:=by grind [Yf]
  rw[if_pos ⟨by omega,hd.1,by omega⟩,A2z hK _ (by grind),Z0];have hz:Wd ((List.drop (0:Int).toNat (Yf c p.g k)).take (d - 0).toNat)=Wd (((aa c p k d).drop (k*c.k).toNat).take c.k.toNat):=by
   have:=Byl (mem:=p.g) (a:=(k*c.k).toNat) (d:=d.toNat) (n:=c.k.toNat);unfold aa;rw[hto,show(k*c.k+d).toNat=(k*c.k).toNat+d.toNat by omega,show(c.k - d).toNat=c.k.toNat - d.toNat by omega,this];unfold Yf
   grind
  grind
end
def fv (c:Sv)(x:G9)(b:Bool):G9:=bif b then G9.mk x.d x.i x.j (x.L.drop 1) 0 else G9.mk x.d x.i x.j x.L (A4 x.z c.m)
def mu (w:H4)(x:G9)(qs:List G9):H4:=
 H4.mk w.C (ax w.C w.Q (gt x.L 0) x.z).1 w.o (fv w.C x (ax w.C w.Q (gt x.L 0) x.z).2::qs) w.q
def ji (w:H4)(x:G9)(qs:List G9):H4:=
 if 0<x.j.length then bn w x qs else if 0<x.L.length then mu w x qs else if x.i=0 then Zg w x qs else Xo w x qs
def Zo (w:H4):H4:=match w.p with
 |[]=>w
 |x::qs=>ji w x qs
def ND (s:Nat)(n:Fy):Prop:=(0<=n.u/\n.u<=(s:Int))/\(0<=n.i/\n.i<=(s:Int))/\(0<=n.a/\n.a<=1000)
structure dl (w:H4)(m:Nat):Prop where
 ww:Wa w
 conf:Vw w.C=true
 len:w.o.length<=1000
 nd: ∀n∈w.o,ND w.o.length n
 q: ∀x∈w.p,(0<=x.i/\x.i<=(w.o.length:Int))/\(0<=x.d/\x.d<=(w.o.length:Int))
 ql:w.p.length<=m
 ll:w.q.length<=m
theorem dl.mono{w:H4}{m n:Nat}(T:dl w m)(h:m<=n):dl w n:={T with ql:=Dn T.ql h,ll:=Dn T.ll h}
theorem Byn{c:Sv}{p:Pc}(hw:X1 p)(k d:Int):X1 (ax c p k d).1:=by
 have hm:A6u (aa c p k d):=by
  refine⟨ml fun j hj=> ?_,by unfold aa;rw[aq];exact hw.mem.2⟩;unfold aa at hj ⊢;rw[aq]at hj;obtain⟨i,rfl⟩: ∃i:Nat,j=i:=⟨j.toNat,by omega⟩;rw[je (by omega)];split
  ·omega
  ·exact hw.mem.1 _ (Xe (by omega))
 unfold ax;cases Xh c p&&(Qi k 0 (c.L - 1)&&(gt p.c k==2&&Qi d 0 (c.k - 1)))with
 |false=>exact hw
 |true=>
  rw[cond_true];split
  ·exact⟨hm,hw.st,hw.own⟩
  ·cases Wd (((aa c p k d).drop (k*c.k).toNat).take c.k.toNat)with
   |false=>exact hw
   |true=>exact⟨hm,⟨jh hw.st.1 _ Wj,by show(p.c.set _ _).length*8<=_;rw[Tb];exact hw.st.2⟩,hw.own⟩
section
variable {K:Nat} (hK:2^48<=K)
include hK
omit hK in
theorem Byo (K:Nat){w:H4}{x:G9}{qs:List G9}(hq:w.p=x::qs)(h0:0<x.j.length)(h6:x.j.length<=17592186044415)(hl:w.q.length<=1000000000):ri K w=some (bn w x qs):=by
 have hm:=V8;unfold ri;rw[hq,jd];have e:Ap (x.j.length:Int) 1=((x.j.length - 1:Nat):Int):=by grind [Ap,Aly,Vs]
 rw[e,if_pos ⟨by omega,by simp⟩,if_pos (by omega),if_pos ⟨by grind,by grind⟩,if_pos (by omega),pr,Hd,if_pos ⟨by grind,by grind⟩];rfl
theorem Byp{w:H4}{m:Nat}(hm:m<=1000000000)(T:dl w m){x:G9}{qs:List G9}(hq:w.p=x::qs)(hf:x.i≠0):rr K w=some (Xo w x qs):=by
 have hmx:=V8;have hw:=T.ww;have hX:=T.q x (by grind);have hlen:=T.len;have hk:0<=x.i - 1/\x.i - 1<(w.o.length:Int):=⟨by omega,by omega⟩;have hn:=hw.l.1 _ (Wi hk.1 hk.2);have e1:Ap x.i 1=x.i - 1:=Wm (by omega);have e2:A4 (x.i - 1) 1=x.i:=by grind [Yl]
 have hnx:=(T.nd _ (Wi hk.1 hk.2)).1;have hlq:(w.p).length=qs.length+1:=by grind
 have hQ:=T.ql;have hj: ∀(l:List Fy) (q:List G9),l.length=w.o.length->q.length=w.p.length->na K (gt w.o (x.i - 1)) (x.i - 1) w.C.L w.C.k w.C.l w.C.e w.C.m w.C.n w.Q.g w.Q.c w.Q.h l q w.q=some (H4.mk w.C (V9 w.Q (gt w.o (x.i - 1)).L) (l.set (x.i - 1).toNat (Wg 2 (gt w.o (x.i - 1)).a)) (Wc (gt w.o (x.i - 1)) x.i::q) w.q):=by
  intro l q hl1 hq1;have h8:=hn.tags.2;have h9:=hn.chunks.2;unfold na;rw[Be7 hK (H4.mk w.C w.Q l q w.q) hw.p _ (Yj hK hn.chunks),Z0];unfold rq Ay4;simp only[Z0,Hd,List.singleton_append,Z28];simp only[hl1,if_pos hk,e2,Z0]
  iterate 4 (try rw[if_pos (by omega)])
  try simp only[Z0]
  iterate 4 (try rw[if_pos (by omega)])
  rfl
 unfold rr;rw[hq,jd,if_pos ⟨by omega,by simp⟩,e1];simp only[if_pos hk];rw[ii K hn,Z0,if_pos ⟨by omega,by simp⟩,li,Z0];unfold Xo Xn;have hp:Wp w.o (gt w.o (x.i - 1)).u=decide (1<=(gt w.o (x.i - 1)).u/\(gt w.o (x.i - 1)).u<=(w.o.length:Int)):=by
  rw[Bool.eq_iff_iff,qh (by omega) (by omega),decide_eq_true_iff];omega
 rw[hp];by_cases q:1<=(gt w.o (x.i - 1)).u/\(gt w.o (x.i - 1)).u<=(w.o.length:Int)
 ·rw[decide_eq_true q];simp only[cond_true];rw[Wm (by omega),if_pos (by omega)];unfold Ax5;exact hj _ _ (by grind) (by grind)
 ·rw[decide_eq_false q];simp only[cond_false];exact hj _ _ rfl (by grind)
theorem Bgd{w:H4}{m:Nat}(hm:m<=1000000000)(T:dl w m)(h0:0<w.p.length):ni K w=some (Zo w):=by
 have hmx:=V8;have W:=T.ww;have hQ:=T.ql;have hL:=T.ll;unfold Zo;cases hq:w.p with
 |nil=>grind
 |cons x qs=>
 have hxm:x∈w.p:=by grind
 have hX:=T.q x hxm;have hxw:=W.q.1 x hxm;have hx1:=hxw.tags.2;have hx2:=hxw.chunks.2;have hlen:=T.len;have hlq:(w.p).length=qs.length+1:=by grind
 show _=some (ji w x qs);unfold ni Ayw ji;rw[hq,jd,if_pos ⟨by omega,by simp⟩];by_cases c1:0<x.j.length
 ·rw[decide_eq_true (show(x.j.length:Int)>0 by omega),if_pos c1,Byo K hq c1 (by omega) (by omega)];rfl
 ·rw[decide_eq_false (show ¬(x.j.length:Int)>0 by omega),if_neg c1];by_cases c2:0<x.L.length
  ·rw[decide_eq_true (show(x.L.length:Int)>0 by omega),if_pos c2];simp only[cond_true,cond_false,Z0];rw[show((2:Int)==1)=false from rfl,show((2:Int)==2)=true from rfl];simp only[cond_true,cond_false];unfold wu;rw[hq,jd,if_pos ⟨by omega,by simp⟩,if_pos (by omega),Bgc hK w.C W.p,Z0];unfold mu fv
   grind
  ·rw[decide_eq_false (show ¬(x.L.length:Int)>0 by omega),if_neg c2];by_cases c3:x.i=0
   ·rw[if_pos c3];have et:((x::qs).drop (1:Int).toNat).take (((x::qs).length:Int) - 1).toNat=qs:=by
     simp_all
    rw[c3];simp only[bne_self_eq_false,cond_false,Z0];rw[show((4:Int)==1)=false from rfl,show((4:Int)==2)=false from rfl,show((4:Int)==3)=false from rfl];simp only[cond_false];have hl1:(((x::qs).length:Nat):Int)=(qs.length:Int)+1:=by simp
    have hj: ∀l:List Fy,nh K w.C.L w.C.k w.C.l w.C.e w.C.m w.C.n w.Q.g w.Q.c w.Q.h l (x::qs) w.q=some (H4.mk w.C w.Q l qs w.q):=by
     intro l;unfold nh;rw[et,Hd,hl1,if_pos (show(0:Int)<=1/\(1:Int)<=(qs.length:Int)+1/\(qs.length:Int)+1<=(qs.length:Int)+1 from⟨by omega,by omega,by omega⟩),if_pos (show qs.length*72<=140737488355328/\qs.length<=maxLen from⟨by omega,by omega⟩)]
    rw[if_pos ⟨by omega,by simp⟩];unfold Zg V7;by_cases q:x.d=0
    ·grind
    ·have hk:0<=x.d - 1/\x.d - 1<(w.o.length:Int):=⟨by omega,by omega⟩;rw[Ym q,if_neg q,cond_true,if_pos ⟨by omega,by simp⟩,Wm (by omega),Be8 hK W.l hk (T.nd _ (Wi hk.1 hk.2)).2.2,Z0];exact hj _
   ·rw[Ym c3,if_neg c3];simp only[cond_true,cond_false,Z0];rw[show((3:Int)==1)=false from rfl,show((3:Int)==2)=false from rfl,show((3:Int)==3)=true from rfl];simp only[cond_true,cond_false]
    grind [Byp]
end
theorem Bge{s g:Int}(hs:wfi s)(hg:wfi g):Wo (Wg s g):=
 ⟨hs,hg,Wj,Wj,Wj,Wj,Wj,Wj,ik,Wj,Wj,A3f,ik⟩
theorem Byq{l:List Int}(h:Y0 l)(n:Nat):Y0 (l.take n):=⟨fun x hx=>h.1 x (Kk hx),by have:=h.2;grind⟩
theorem Byr{l:List Int}(h:Y0 l)(n:Nat):Y0 (l.drop n):=⟨fun x hx=>h.1 x (List.mem_of_mem_drop hx),by have:=h.2;grind⟩
theorem Bys (a b:Int):wfi (A4 a b):=fq _
theorem A8u{x:G9}{l:List G9}(hx:Zj x)(h: ∀y∈l,Zj y)(hl:l.length<=1000000000):A20 (x::l):=by
 refine⟨fun y hy=> ?_,by grind⟩
 grind
theorem Byt{c:Sv}{x:G9}(h:Zj x)(b:Bool):Zj (fv c x b):=by
 cases b with
 |true=>exact⟨h.slot,h.first,h.tags,Byr h.chunks 1,Wj⟩
 |false=>exact⟨h.slot,h.first,h.tags,h.chunks,Bys _ _⟩
theorem Byu{n:Fy}{gens:Int}(hn:Wo n)(hg:0<=n.a/\n.a<=1000):Wo (bp n gens):=by
 grind [bp,Bge,Vz]
theorem Byv{n:Fy}{gens:Int}{s:Nat}(h:gens<=1000)(hn:ND s n):ND s (bp n gens):=by
 have:=hn.2.2;unfold bp;split
 ·exact⟨⟨Int.le_refl 0,Int.natCast_nonneg _⟩,⟨Int.le_refl 0,Int.natCast_nonneg _⟩,this⟩
 ·exact⟨⟨Int.le_refl 0,Int.natCast_nonneg _⟩,⟨Int.le_refl 0,Int.natCast_nonneg _⟩,by show 0<=n.a+1/\n.a+1<=1000;omega⟩
theorem Bgf{P:Fy->Prop}{l:List Fy}{g:Int}(h: ∀n∈l,P n)(hx:0<=(gt l g).u/\(gt l g).u<=1000)(hp: ∀n,P n->P (A3g n 0))(hb:P (Wg 2 (gt l g).a)): ∀n∈Xn l g,P n:=by
 unfold Xn;refine jh ?_ _ hb;cases q:Wp l (gt l g).u with
 |false=>exact h
 |true=>
  rw[cond_true];have r:=(qh hx.1 hx.2).1 q;exact jh h _ (hp _ (h _ (Wi r.1 r.2)))
theorem Byw{w:H4}{m:Nat}(hm:m<=1000000000)(T:dl w m):dl (Zo w) (m+1):=by
 have W:=T.ww;have hQ:=T.ql;have hL:=T.ll;have hlen:=T.len;have b0:=Gy T.conf;unfold Zo;cases hq:w.p with
 |nil=>grind [dl.mono]
 |cons x qs=>
 have hxm:x∈w.p:=by grind
 have hqm: ∀y∈qs,y∈w.p:=fun y hy=>by grind
 have hX:=T.q x hxm;have hxw:=W.q.1 x hxm;have hqs: ∀y∈qs,Zj y:=fun y hy=>W.q.1 y (hqm y hy)
 have hlq:(w.p).length=qs.length+1:=by grind
 show dl (ji w x qs) (m+1);unfold ji;split
 ·rename_i c1;refine⟨⟨W.c,W.p,W.l,A8u ⟨hxw.slot,hxw.first,Byq hxw.tags _,hxw.chunks,hxw.done⟩ hqs (by omega),?_⟩,T.conf,T.len,T.nd,?_,?_,?_⟩
  ·refine⟨fun y hy=> ?_,?_⟩
   ·rcases C5.1 hy with hy|hy
    ·exact W.log.1 y hy
    ·rw[Dt]at hy;rw[hy];exact hxw.tags.1 _ (Xe (by omega))
   ·show(w.q++[_]).length*8<=_
    grind
  ·intro y hy;rcases Ax.1 hy with rfl|hy
   ·exact hX
   ·exact T.q y (hqm y hy)
  ·show(Ze x::qs).length<=_
   grind
  ·show(w.q++[_]).length<=_
   grind
 split
 ·refine⟨⟨W.c,Byn W.p _ _,W.l,A8u (Byt hxw _) hqs (by omega),W.log⟩,T.conf,T.len,T.nd,?_,?_,?_⟩
  ·intro y hy;rcases Ax.1 hy with rfl|hy
   ·cases (ax w.C w.Q (gt x.L 0) x.z).2<;>exact hX
   ·exact T.q y (hqm y hy)
  ·show(_::qs).length<=_
   grind
  ·exact Nat.le_succ_of_le hL
 split
 ·rename_i hs0;have hel:=Ak7 w x;have hnl:(∀n∈V7 w x,Wo n)/\ ∀n∈V7 w x,ND w.o.length n:=by
   unfold V7;split
   ·exact⟨W.l.1,T.nd⟩
   ·have hg:=Wi (l:=w.o) (i:=x.d - 1) (by omega) (by omega);have N:=T.nd _ hg;exact⟨jh W.l.1 _ (Byu (W.l.1 _ hg) N.2.2),jh T.nd _ (Byv (by omega) N)⟩
  refine⟨⟨W.c,W.p,⟨hnl.1,by show(V7 w x).length*152<=_;omega⟩,⟨hqs,by have:=W.q.2;show qs.length*72<=_;omega⟩,W.log⟩,T.conf,by show(V7 w x).length<=_;omega,?_,?_,?_,Nat.le_succ_of_le hL⟩
  ·show ∀n∈V7 w x,ND (V7 w x).length n
   grind
  ·show ∀y∈qs,(_/\_<=((V7 w x).length:Int))/\(_/\_<=((V7 w x).length:Int));rw[hel];exact fun y hy=>T.q y (hqm y hy)
  ·show qs.length<=_;omega
 ·rename_i c3;have hk:0<=x.i - 1/\x.i - 1<(w.o.length:Int):=⟨by omega,by omega⟩;have hg:=Wi hk.1 hk.2;have hn:=W.l.1 _ hg;have N:=T.nd _ hg;have hnb:0<=(gt w.o (x.i - 1)).u/\(gt w.o (x.i - 1)).u<=1000:=by have:=N.1;omega
  have hrl:=A31 w.o (x.i - 1);refine⟨⟨W.c,(Bue W.p _).1,⟨Bgf W.l.1 hnb (fun n h=>Bdt h Wj) (Bge (Vz (by decide) (by decide)) hn.gen),by show(Xn _ _).length*152<=_;omega⟩,
   A8u (Bdo hn hxw.first) (fun y hy=> ?_) (by grind),W.log⟩,T.conf,by show(Xn _ _).length<=_;omega,?_,?_,?_,Nat.le_succ_of_le hL⟩
  ·rcases Ax.1 hy with rfl|hy
   ·exact⟨hxw.slot,hn.next,hxw.tags,hxw.chunks,hxw.done⟩
   grind
  ·show ∀n∈Xn _ _,ND (Xn _ _).length n;rw[hrl];exact Bgf T.nd hnb (fun n h=>h) ⟨⟨Int.le_refl 0,Int.natCast_nonneg _⟩,⟨Int.le_refl 0,Int.natCast_nonneg _⟩,N.2.2⟩
  ·show ∀y∈_::_::qs,(_/\_<=((Xn _ _).length:Int))/\(_/\_<=((Xn _ _).length:Int));rw[hrl];intro y hy;rcases Ax.1 hy with rfl|hy
   ·exact⟨N.2.1,hX.1⟩
   rcases Ax.1 hy with rfl|hy
   ·exact⟨N.1,hX.2⟩
   ·exact T.q y (hqm y hy)
  ·show(_::_::qs).length<=_
   grind
section
variable {K:Nat} (hK:2^48<=K)
include hK
theorem Byx{l:List Fy}(hl:V2 l){k gens:Int}(hk:0<=k/\k<(l.length:Int))(hg:0<=(gt l k).a/\(gt l k).a<=1000):A2i K l k gens=some (l.set k.toNat (bp (gt l k) gens)):=by
 unfold A2i zu bp;rw[Bdi hK hl,Z0,pw K (Wx hl),decide_eq_true hk];simp only[Z0,Bool.not_true,cond_false,if_pos hk];rw[Yl (by omega) (by omega)];by_cases q:gens<=(gt l k).a
 ·rw[decide_eq_true (show(gt l k).a>=gens from q),if_pos q];rfl
 ·rw[decide_eq_false (show ¬(gt l k).a>=gens from q),if_neg q];rfl
theorem Bgg{w:H4}{m:Nat}(hm:m<=1000000000)(T:dl w m)(h0:0<w.p.length):zw K w=some (Zo w):=by
 have hmx:=V8;have W:=T.ww;have hQ:=T.ql;have hL:=T.ll;unfold Zo;cases hq:w.p with
 |nil=>grind
 |cons x qs=>
 have hxm:x∈w.p:=by grind
 have hX:=T.q x hxm;have hxw:=W.q.1 x hxm;have hx1:=hxw.tags.2;have hx2:=hxw.chunks.2;have hlen:=T.len;have hlq:(w.p).length=qs.length+1:=by grind
 show _=some (ji w x qs);unfold zw A6g ji;rw[hq,jd,if_pos ⟨by omega,by simp⟩];by_cases c1:0<x.j.length
 ·rw[decide_eq_true (show(x.j.length:Int)>0 by omega),if_pos c1];have e:Ap (x.j.length:Int) 1=((x.j.length - 1:Nat):Int):=by grind [Ap,Aly,Vs]
  simp only[cond_true,Z0,beq_self_eq_true];rw[e,if_pos (by omega),if_pos ⟨by grind,by grind⟩,if_pos (by omega)];rfl
 ·rw[decide_eq_false (show ¬(x.j.length:Int)>0 by omega),if_neg c1];by_cases c2:0<x.L.length
  ·rw[decide_eq_true (show(x.L.length:Int)>0 by omega),if_pos c2];simp only[cond_true,cond_false,Z0];rw[show((2:Int)==1)=false from rfl,show((2:Int)==2)=true from rfl];simp only[cond_true,cond_false];rw[if_pos (by omega),Bym hK w.C W.p,Z0];unfold mu fv
   grind
  ·rw[decide_eq_false (show ¬(x.L.length:Int)>0 by omega),if_neg c2];by_cases c3:x.i=0
   ·rw[if_pos c3,c3];simp only[bne_self_eq_false,cond_false,Z0];rw[show((4:Int)==1)=false from rfl,show((4:Int)==2)=false from rfl,show((4:Int)==3)=false from rfl];simp only[cond_false];unfold Zg V7;by_cases q:x.d=0
    ·grind
    ·have hk:0<=x.d - 1/\x.d - 1<(w.o.length:Int):=⟨by omega,by omega⟩;rw[decide_eq_true (show x.d>0 by omega),if_neg q,cond_true,Wm (by omega),Byx hK W.l hk (T.nd _ (Wi hk.1 hk.2)).2.2,Z0,if_pos (by simp)];rfl
   ·rw[Ym c3,if_neg c3];simp only[cond_true,cond_false,Z0];rw[show((3:Int)==1)=false from rfl,show((3:Int)==2)=false from rfl,show((3:Int)==3)=true from rfl];simp only[cond_true,cond_false];have hk:0<=x.i - 1/\x.i - 1<(w.o.length:Int):=⟨by omega,by omega⟩;have hn:=W.l.1 _ (Wi hk.1 hk.2);have N:=T.nd _ (Wi hk.1 hk.2);have hnx:=N.1;have e2:A4 (x.i - 1) 1=x.i:=by grind [Yl]
    have hj: ∀(l:List Fy) (q:List G9),l.length=w.o.length->q.length=w.p.length->zv K (x.i - 1) w.C.L w.C.k w.C.l w.C.e w.C.m w.C.n (V9 w.Q (gt w.o (x.i - 1)).L).g (V9 w.Q (gt w.o (x.i - 1)).L).c (V9 w.Q (gt w.o (x.i - 1)).L).h l q w.q (gt w.o (x.i - 1)).c (gt w.o (x.i - 1)).a (gt w.o (x.i - 1)).f (gt w.o (x.i - 1)).s (gt w.o (x.i - 1)).t (gt w.o (x.i - 1)).i (gt w.o (x.i - 1)).u (gt w.o (x.i - 1)).v (gt w.o (x.i - 1)).L (gt w.o (x.i - 1)).w (gt w.o (x.i - 1)).x (gt w.o (x.i - 1)).y (gt w.o (x.i - 1)).j=some (H4.mk w.C (V9 w.Q (gt w.o (x.i - 1)).L) (l.set (x.i - 1).toNat (Wg 2 (gt w.o (x.i - 1)).a)) (Wc (gt w.o (x.i - 1)) x.i::q) w.q):=by
     intro l q hl1 hq1;unfold zv A6i;rw[Z0,hl1,if_pos hk,e2];rw[show Fy.mk (gt w.o (x.i - 1)).c (gt w.o (x.i - 1)).a (gt w.o (x.i - 1)).f (gt w.o (x.i - 1)).s (gt w.o (x.i - 1)).t (gt w.o (x.i - 1)).i (gt w.o (x.i - 1)).u (gt w.o (x.i - 1)).v (gt w.o (x.i - 1)).L (gt w.o (x.i - 1)).w (gt w.o (x.i - 1)).x (gt w.o (x.i - 1)).y (gt w.o (x.i - 1)).j=gt w.o (x.i - 1) from rfl,Bdn K hn,Z0,if_pos (by omega)];rfl
    rw[Wm (x:=x.i) (by omega),if_pos hk,show(x::qs).set (0:Int).toNat (G9.mk x.d (gt w.o (x.i - 1)).u x.j x.L x.z)=au w.o x::qs from rfl,Bug hK (H4.mk w.C w.Q w.o (au w.o x::qs) w.q) W.p hk (Yj hK hn.chunks),Z0];dsimp only;rw[pw K (Wx W.l),Z0,Wm (by omega)];unfold Xo Xn;have hp:Wp w.o (gt w.o (x.i - 1)).u=decide (0<=(gt w.o (x.i - 1)).u - 1/\(gt w.o (x.i - 1)).u - 1<(w.o.length:Int)):=by
     grind [Wp,uj]
    rw[hp];by_cases q:0<=(gt w.o (x.i - 1)).u - 1/\(gt w.o (x.i - 1)).u - 1<(w.o.length:Int)
    ·rw[decide_eq_true q];simp only[cond_true];rw[if_pos q];unfold Ax5;exact hj _ _ (by grind) (by grind)
    grind
end
theorem Bgh{w:H4}{m:Nat}(hw:Wa w)(hB:fc w=true)(hq:w.p.length<=m)(hl:w.q.length<=m):dl w m:=by
 have P:=Byj hB;have b0:=Gy P.conf;unfold fc at hB;simp only[Z4,Z1,List.mem_range,beq_iff_eq]at hB;obtain⟨_,hlen,hs,_,⟨hw1,_⟩,_⟩:=hB;refine⟨hw,P.conf,by omega,ml fun k hk=> ?_,fun x hx=> ?_,hq,hl⟩
 ·have S:=hs k.toNat (by omega);unfold ib at S;rw[show((k.toNat:Nat):Int)=k by omega,Z4]at S;obtain⟨l1,l2,l3,l4⟩:=A3w S.1;have g:=(mh S.1).2.2;exact⟨by omega,by omega,by omega⟩
 ·have X:=hw1 x hx;unfold X8 at X;rw[Z4]at X;have R:=Zm.1 X.1;have:=R.slot;have:=R.first;omega
theorem Byy{α:Type}[Inhabited α](l:List α)(f:α->Nat):((List.range l.length).map fun i:Nat=>f (gt l (i:Int))).sum=(l.map f).sum:=by
 grind [List.ext_getElem,List.length_map,K1]
section
variable {K:Nat} (hK:2^48<=K)
include hK
end
theorem Bgi{l o:List Int}(h1:l.Nodup)(h2:o.Nodup)(h: ∀x,x∈l ↔ x∈o):l.length=o.length:=
 Nat.le_antisymm (ie h1 fun x hx=>(h x).1 hx) (ie h2 fun x hx=>(h x).2 hx)
theorem Bgj (N:Nat)(p:Nat->Bool):(((List.range N).filter p).map (fun k:Nat=>(k:Int))).Nodup:=by
 refine(List.Pairwise.map (R:=fun a b=>a≠b) _ (fun a b h e=>h (by omega)) (List.Pairwise.filter p List.nodup_range))
theorem Byz (l:List Nat)(f:Nat->Int)(h: ∀x∈l,0<=f x/\f x<=2):(l.filter (fun x=>f x==0)).length+(l.filter (fun x=>f x==1)).length+(l.filter (fun x=>f x==2)).length=l.length:=by
 induction l with
 |nil=>rfl
 |cons x l ih=>
  have:=ih fun y hy=>h y (Pv _ hy)
  grind
def mv (p:Pc)(s:Int):Nat:=((List.range p.c.length).filter (fun k:Nat=>gt p.c k==s)).length
def chF (w:H4):List Int:=(List.range w.o.length).flatMap fun k:Nat=>(gt w.o (k:Int)).L
theorem By0 (w:H4):(chF w).length=(w.o.map fun n=>n.L.length).sum:=by
 unfold chF;rw[List.length_flatMap,<-Byy w.o (fun n=>n.L.length)]
theorem By1 (q:List G9):(Vy q).length=(q.map fun x=>x.L.length).sum:=by
 simp_all[Vy]
theorem By2{w:H4}(I:Bd w):(w.o.map fun n=>n.L.length).sum+(w.p.map fun x=>x.L.length).sum+mv w.Q 0=w.Q.c.length:=by
 obtain⟨hc,_,hst,hown,hone⟩:=Zq I.pool;have b0:=Gy hc;have hlen:=I.len;have n2:(Vy w.p).length=mv w.Q 2:=by
  unfold mv;rw[<-Bi (f:=fun k:Nat=>(k:Int))];refine Bgi I.chn (Bgj _ _) fun x=> ?_;rw[I.chi x,bi]
  grind
 have n1:(chF w).length=mv w.Q 1:=by
  unfold mv;rw[<-Bi (f:=fun k:Nat=>(k:Int))];refine Bgi ?_ (Bgj _ _) fun x=> ?_
  ·unfold chF;refine List.pairwise_flatMap.2 ⟨fun k hk=> ?_,?_⟩
   ·rw[List.mem_range]at hk;exact pz (A7s (I.node k ⟨by omega,by omega⟩))
   ·refine List.Pairwise.imp_of_mem ?_ (List.nodup_range (n:=w.o.length));intro i j hi hj hij x hx y hy e;rw[List.mem_range]at hi hj;have h1:=(I.own i ⟨by omega,by omega⟩ x).1 hx;have h2:=(I.own j ⟨by omega,by omega⟩ y).1 hy
    grind
  ·rw[bi];unfold chF;rw[List.mem_flatMap];constructor
   ·rintro⟨k,hk,hx⟩;rw[List.mem_range]at hk
    have h1:=(I.own k ⟨by omega,by omega⟩ x).1 hx
    grind
   ·rintro⟨h,e⟩;rw[show((x.toNat:Nat):Int)=x by omega,beq_iff_eq]at e
    have P:=W6.1 I.pool;have ho:=(P.one x ⟨h.1,by omega⟩).2.1 e;refine⟨(gt w.Q.h x).toNat,by grind,?_⟩;rw[show(((gt w.Q.h x).toNat:Nat):Int)=gt w.Q.h x by omega];simp_all[Bd.own]
 have n3:mv w.Q 0+mv w.Q 1+mv w.Q 2=w.Q.c.length:=by
  have P:=W6.1 I.pool;have:=Byz (List.range w.Q.c.length) (fun k:Nat=>gt w.Q.c k) (fun k hk=>by rw[List.mem_range]at hk;exact(P.one k ⟨by omega,by omega⟩).1);rw[List.length_range]at this;exact this
 grind [By0,By1]
section
variable {K:Nat} (hK:2^48<=K)
include hK
theorem Bgk{a:List Int}(hb:aw a)(ha:a.length<=1048576){most:Int}(hm:0<most/\most<=1000): ∃w c,sk K a most=some (c,w)/\AnyP w/\Vt c:=by
 obtain⟨c,e1,w1⟩:=Bfx hK hb ha;obtain⟨w,c2,e2,A,w2⟩:=Byi hK w1 hm
 grind [sk]
end
theorem By3{w:H4}{E:Int}{n:Nat}(G:Ch w E n):pot w<=192+8*cnt w:=by
 have I:=G.inv;have b0:=Gy I.conf;have hc:=By2 I;have P:=W6.1 I.pool;have hst:=P.st;have hS:w.C.k.toNat<=16:=by omega
 have key: ∀ {α:Type} (l:List α) (f g h:α->Nat),(∀x∈l,f x<=8*g x+16*h x)->(l.map f).sum<=8*(l.map g).sum+16*(l.map h).sum:=by
  intro α l f g h hl;induction l with
  |nil=>simp
  |cons x l ih=>
   grind
 have k1:=key w.o (Wq w.C) Wz (fun n=>n.L.length) (ml fun k hk=>by
  unfold Wq Wz;by_cases s:(gt w.o k).c=1
  ·have L:=Xm.1 ⟨I.node k hk,s⟩;have h6:=L.ntag;rw[if_pos s,if_pos s];have:=Bx (gt w.o k).L.length hS;omega
  grind)
 have k2:=key w.p (Xr w.C) (fun _=>1) (fun x=>x.L.length) (fun x hx=>by
  have R:=Zm.1 (I.wrec x hx).1;have h6:=R.ntag;unfold Xr;have:=Bx x.L.length hS;omega)
 have e: ∀l:List G9,(l.map fun _=>1).sum=l.length:=fun l=>by induction l with
  |nil=>rfl
  |cons x l ih=>grind
 grind [pot,cnt]
section
variable {K:Nat} (hK:2^48<=K)
include hK
theorem By4{E:Int}{n:Nat}(hE:0<=E/\E<=1000000000)(hn:n<=1000000)(P:H4->Int->Prop)(hP: ∀w i,Ch w E n->0<w.p.length->P w i->P (Zo w) (i+1)):
  ∀(f:Nat) (i:Nat) (w:H4),Ch w E n->P w i->pot w+i<=4000->4000 - i<f-> ∃r w',zx K 4000 f (i:Int) w.C.L w.C.k w.C.l w.C.e w.C.m w.C.n w.Q.g w.Q.c w.Q.h w.o w.p w.q=some (r,w')/\Ch w' E n/\P w' r/\w'.p=[]/\(0<=r/\r<=4000):=by
 intro f;induction f with
 |zero=>omega
 |succ f ih=>
  intro i w G hp hi hf;have W:=G.wc (by omega);have hq:=uk w;have hl:=Ak2 w;have hwt:=G.wt;have hpos:w.p≠[]->1<=pot w:=fun h=>by
   have:=Ber (Xr w.C) w.p fun x _=>by grind [Xr]
   have h2:=List.length_pos_iff.2 h
   grind [pot]
  rw[zx];by_cases h:w.p=[]
  ·refine⟨i,w,?_,G,hp,h,by omega⟩;rw[h];cases decide ((i:Int)<4000)with
   |true=>rw[cond_true,decide_eq_false (by simp),cond_false,<-h]
   |false=>rw[cond_false,<-h]
  ·have h1:=hpos h;have h2:=List.length_pos_iff.2 h;have T:=Bgh (m:=n) W G.inv.ok (by omega) (by omega);obtain⟨w',e6,S⟩:=A32 hK G hE (by omega) h2;have ew:w'=Zo w:=by
    rw[Bgd hK (by omega) T h2]at e6
    grind
   subst ew;have hpt:=S.pot;obtain⟨r,w2,e,g⟩:=ih (i+1) (Zo w) (S.good G) (by grind) (by omega) (by omega);refine⟨r,w2,?_,g⟩;rw[decide_eq_true (show(i:Int)<4000 by omega),cond_true,decide_eq_true (show(w.p.length:Int)>0 by omega),cond_true];unfold A6f;rw[Z0,cond_true,show H4.mk (Sv.mk w.C.L w.C.k w.C.l w.C.e w.C.m w.C.n) (Pc.mk w.Q.g w.Q.c w.Q.h) w.o w.p w.q=w from rfl,Bgg hK (by omega) T h2,Z0,K0 (by omega)];exact e
theorem Bgl{E:Int}{n:Nat}(hE:0<=E/\E<=400)(hn:n<=1000000)(P:H4->Int->Prop)(hP: ∀w i,Ch w E n->0<w.p.length->P w i->P (Zo w) (i+1)){w:H4}(G:Ch w E n)(h0:P w 0): ∃r w',A2j K w 4000=some (w',r)/\Ch w' E n/\P w' r/\w'.p=[]/\(0<=r/\r<=4000):=by
 have W:=G.wc (by omega);have hp:=By3 G;have hc:=G.cn;obtain⟨r,w',e,g⟩:=By4 hK (by omega) hn P hP K 0 w G h0 (by omega) (by omega);refine⟨r,w',?_,g⟩;unfold A2j A6j;rw[Bdj hK W,Z0,Bdh hK w W,G.inv.ok,Z0,cond_true,bb,Z0,show Qi 4000 0 4000=true from rfl,Bool.not_true,cond_false,show(0:Int)=((0:Nat):Int) from rfl,e];rfl
end
theorem A4e{a b:Int}(ha:0<=a/\a<=1000)(hb:1<=b/\b<=1000):We a b=(a+b - 1) / b:=by
 unfold We;rw[V1.2 ⟨by omega,by omega⟩,V1.2 ⟨by omega,by omega⟩];rfl
theorem Bgm{a b:Int}(ha:0<=a/\a<=1000)(hb:1<=b/\b<=1000):0<=We a b/\We a b<=2000:=by
 rw[A4e ha hb];refine⟨Int.ediv_nonneg (by omega) (by omega),?_⟩;have:=Int.ediv_le_self b (show 0<=a+b - 1 by omega);omega
def jj (c:Sv)(x:G9):Int:=(x.j.length:Int)+1+(if x.L.length=0 then 0 else We (c.k - x.z) c.m+((x.L.length:Int) - 1)*We c.k c.m)
theorem By5 (c:Sv)(x:G9)(hc:Vw c=true)(hd:0<=x.z/\x.z<=c.k): ∀(m:Nat) (v:Int),m<=12->0<=v/\v<=1000->
  (List.range m).foldl (ak c x) v=v+(if m=0 then 0 else We (c.k - x.z) c.m+((m:Int) - 1)*We c.k c.m)/\(List.range m).foldl (ak c x) v<=1000+2000*m/\0<=(List.range m).foldl (ak c x) v:=by
 have b0:=Gy hc;have h1:=Bgm (a:=c.k - x.z) (b:=c.m) (by omega) (by omega);have h2:=Bgm (a:=c.k) (b:=c.m) (by omega) (by omega);intro m v;induction m with
 |zero=>grind
 |succ m ih=>
  intro hm hv;obtain⟨e,e2,e3⟩:=ih (by omega) hv;rw[List.range_succ,List.foldl_append,List.foldl_cons,List.foldl_nil];generalize (List.range m).foldl (ak c x) v=s at *;unfold ak;by_cases h0:m=0
  ·subst h0;rw[show(((0:Nat):Int)==0)=true from rfl,cond_true,show Ap c.k x.z=c.k - x.z from sbG (by omega) (by omega),uz (by omega) (by omega),e];omega
  ·rw[show(((m:Nat):Int)==0)=false from Wn (by omega),cond_false,uz (by omega) (by omega)]
   grind
theorem A8v{c:Sv}{x:G9}(hc:Vw c=true)(ht:x.j.length<=6)(hl:x.L.length<=12)(hd:0<=x.z/\x.z<=c.k):Xu c x=jj c x:=by
 unfold Xu jj;rw[Yl (by omega) (by omega)];exact(By5 c x hc hd x.L.length _ hl ⟨by omega,by omega⟩).1
structure bt (w w':H4)(kp:Int->Prop):Prop where
 conf:w'.C=w.C
 len:w'.o.length=w.o.length
 kid: ∀x,kp x->Vv w' x=Vv w x
 cl: ∀x y,kp x->y∈Vv w x->kp y
 node: ∀x,kp x-> ∃a b c,gt w'.o x=Zd (gt w.o x) a b c
theorem bt.sub{w w':H4}{kp:Int->Prop}(H:bt w w' kp): ∀(n:Nat) (x:Int),kp x->Wt w' n x=Wt w n x/\ ∀y∈Wt w n x,kp y:=by
 intro n;induction n with
 |zero=>intro x _;exact⟨rfl,fun y h=>by cases h⟩
 |succ n ih=>
  intro x hx;refine⟨?_,fun y hy=> ?_⟩
  ·show x::(Vv w' x).flatMap (Wt w' n)=x::(Vv w x).flatMap (Wt w n);rw[H.kid x hx];congr 1;exact Zl fun c hc=>(ih c (H.cl x c hx hc)).1
  ·have hy:y∈x::(Vv w x).flatMap (Wt w n):=hy;rcases Ax.1 hy with rfl|hy
   ·exact hx
   ·obtain⟨c,hc,hy⟩:=List.mem_flatMap.1 hy;exact(ih c (H.cl x c hx hc)).2 y hy
theorem A8w{w w':H4}{kp:Int->Prop}(H:bt w w' kp){x:Int}(hx:kp x):Yy w' x=Yy w x:=by
 obtain⟨h1,h2⟩:=H.sub w.o.length x hx;unfold Yy bq;rw[H.len,h1];congr 1;refine Bf fun y hy=> ?_;obtain⟨a,b,c,e⟩:=H.node y (h2 y hy);unfold Y2;rw[H.conf,e];rfl
theorem A8x{w w':H4}{kp:Int->Prop}(H:bt w w' kp){x:Int}(hx:kp x):Zz w' x=Zz w x:=by
 obtain⟨h1,h2⟩:=H.sub w.o.length x hx;unfold Zz;rw[H.len,h1];refine Zl fun y hy=> ?_;obtain⟨a,b,c,e⟩:=H.node y (h2 y hy);unfold jf;rw[e];rfl
theorem bt.entry{w w':H4}{kp:Int->Prop}(H:bt w w' kp){f:Int}(hf:Vq w'.o f=Vq w.o f)(hk: ∀y∈Vq w.o f,kp y):((Vq w'.o f).map (Yy w'))=(Vq w.o f).map (Yy w)/\(Vq w'.o f).flatMap (Zz w')=(Vq w.o f).flatMap (Zz w):=by
 grind [List.map_congr_left,A8w,A8x]
theorem By6{w:H4}{t:Int->Lk}(I:Bd w)(A:V6 w.o t)(F:V3 w.o.length t (Wh w.p)){k:Int}(hk:Lv w.o.length t k):Yy w k=1+Y2 w k+((Vv w k).map (Yy w)).sum/\Zz w k=jf w k++(Vv w k).flatMap (Zz w):=by
 constructor
 ·have e:Yy w k=bq w (Wt w (w.o.length+1) k):=by grind [Yy,A8r]
  rw[e];show bq w (k::(Vv w k).flatMap (Wt w w.o.length))=_;rw[Bxt];congr 1;have: ∀l:List Int,bq w (l.flatMap (Wt w w.o.length))=(l.map (Yy w)).sum:=by
   intro l;induction l with
   |nil=>rfl
   |cons a l ih=>rw[List.flatMap_cons,Bxs,ih,Z8,List.sum_cons];rfl
  grind
 ·have e:Zz w k=(Wt w (w.o.length+1) k).flatMap (jf w):=by grind [Zz,A8r]
  rw[e];show(k::(Vv w k).flatMap (Wt w w.o.length)).flatMap (jf w)=_;rw[List.flatMap_cons,Bx3];rfl
theorem Bgn{w w':H4}(hc:w'.C=w.C)(hl:w'.o=w.o):bt w w' (fun _=>True):=
 ⟨hc,by rw[hl],fun x _=>by grind [Vv],fun _ _ _ _=>trivial,fun x _=>by rw[hl];exact⟨_,_,_,(Ak5 _).symm⟩⟩
theorem A4f{w w':H4}{kp:Int->Prop}(H:bt w w' kp)(l:List G9)(h: ∀e∈l,Vq w'.o e.i=Vq w.o e.i/\ ∀y∈Vq w.o e.i,kp y):(l.map (Zn w')).sum=(l.map (Zn w)).sum/\l.flatMap (bs w')=l.flatMap (bs w):=by
 refine⟨congrArg List.sum (Bf fun e he=> ?_),Zl fun e he=> ?_⟩
 ·unfold Zn;rw[(H.entry (h e he).1 (h e he).2).1,H.conf]
 ·unfold bs;rw[(H.entry (h e he).1 (h e he).2).2]
def vd (w w':H4):Prop:=Xw w'+1=Xw w/\w'.q++uy w'=w.q++uy w
theorem Al5{c:Sv}{x:G9}(R:qj c x):Xu c x=jj c x:=by
 have hl:=Y9 R.conf R.dist;have:=R.done;exact A8v R.conf R.ntag (by omega) ⟨this.1,by omega⟩
theorem By7{w:H4}(I:Bd w){x:G9}{qs:List G9}(hq:w.p=x::qs)(h0:0<x.j.length):vd w (bn w x qs):=by
 have R:=Zm.1 (di I hq).1;have R':qj w.C (Ze x):=Zm.1 (di (Bev I hq h0) rfl).1;have H:bt w (bn w x qs) (fun _=>True):=Bgn rfl rfl;obtain⟨s1,s2⟩:=A4f H qs fun e _=>⟨rfl,fun _ _=>trivial⟩;obtain⟨h1,h2⟩:=H.entry (f:=x.i) rfl fun _ _=>trivial
 have hl:(Ze x).j.length+1=x.j.length:=by show(x.j.take _).length+1=_;grind
 have hn:jj w.C (Ze x)+1=jj w.C x:=by
  unfold jj;rw[show(Ze x).L=x.L from rfl,show(Ze x).z=x.z from rfl];omega
 constructor
 ·unfold Xw;rw[hq];show((Ze x::qs).map (Zn (bn w x qs))).sum+1=_;simp only[Z8,List.sum_cons];rw[s1];unfold Zn;rw[show(Ze x).i=x.i from rfl,h1,show(bn w x qs).C=w.C from rfl,Al5 R,Al5 R'];omega
 ·unfold uy;rw[hq];show(w.q++[_])++(Ze x::qs).flatMap (bs (bn w x qs))=_;rw[List.flatMap_cons,List.flatMap_cons,s2];unfold bs;rw[show(Ze x).i=x.i from rfl,h2];have:x.j.reverse=gt x.j ((x.j.length - 1:Nat):Int)::(Ze x).j.reverse:=by
   have e:=List.take_append_getElem (l:=x.j) (i:=x.j.length - 1) (by omega);rw[show x.j.length - 1+1=x.j.length by omega,List.take_length]at e;rw[K1 (by omega)]
   conv=>lhs;rw[<-e]
   rw[List.reverse_append];rfl
  grind
theorem By8{K:Nat}(hK:2^48<=K){w:H4}(I:Bd w)(hw:X1 w.Q){x:G9}{qs:List G9}(hq:w.p=x::qs)(hc:0<x.L.length)(h0:x.j=[]):vd w (mu w x qs):=by
 have R:=Zm.1 (di I hq).1;have X:=A30 I hq hc;have b0:=Gy R.conf;have hl12:=Y9 R.conf R.dist;have hd:=R.done;have ht:=X.to;have H:bt w (mu w x qs) (fun _=>True):=Bgn rfl rfl;obtain⟨s1,s2⟩:=A4f H qs fun e _=>⟨rfl,fun _ _=>trivial⟩;obtain⟨h1,h2⟩:=H.entry (f:=x.i) rfl fun _ _=>trivial
 have e:=Bgc hK w.C hw (gt x.L 0) x.z;rw[Bex hK hw I.pool X]at e;have e2:(ax w.C w.Q (gt x.L 0) x.z).2= !decide (Xj w x<w.C.k):=by grind
 have key: ∀y:G9,y=fv w.C x (ax w.C w.Q (gt x.L 0) x.z).2->Xu w.C y+1=Xu w.C x/\y.j=x.j/\y.i=x.i:=by
  intro y hy;rw[e2]at hy;by_cases q:Xj w x<w.C.k
  ·rw[decide_eq_true q]at hy;subst hy;have hs:x.z+w.C.m<w.C.k:=by grind [Xj]
   refine⟨?_,rfl,rfl⟩;have e3:fv w.C x (!true)=G9.mk x.d x.i x.j x.L (x.z+w.C.m):=by
    unfold fv;rw[Bool.not_true,cond_false,uz (by omega) (by omega)]
   rw[e3,Al5 R,A8v R.conf (by grind) (by omega) ⟨by grind,by grind⟩];unfold jj;show(x.j.length:Int)+1+(if x.L.length=0 then 0 else We (w.C.k - (x.z+w.C.m)) w.C.m+((x.L.length:Int) - 1)*We w.C.k w.C.m)+1=_;rw[if_neg (by omega),if_neg (by omega),A4e (by omega) (by omega),A4e (a:=w.C.k - x.z) (by omega) (by omega)];have:=Int.add_mul_ediv_right (w.C.k - (x.z+w.C.m)+w.C.m - 1) 1 (show w.C.m≠0 by omega)
   grind
  ·rw[decide_eq_false q]at hy;subst hy;have hs:w.C.k<=x.z+w.C.m:=by grind [Xj]
   refine⟨?_,rfl,rfl⟩;rw[show fv w.C x (!false)=G9.mk x.d x.i x.j (x.L.drop 1) 0 from rfl,Al5 R,A8v R.conf (by grind) (by grind) ⟨Int.le_refl 0,by grind⟩];unfold jj;show(x.j.length:Int)+1+(if(x.L.drop 1).length=0 then 0 else We (w.C.k - 0) w.C.m+(((x.L.drop 1).length:Int) - 1)*We w.C.k w.C.m)+1=_;have c1:We (w.C.k - x.z) w.C.m=1:=by
    rw[A4e (by omega) (by omega)];have h1:=Int.ediv_lt_of_lt_mul (a:=w.C.k - x.z+w.C.m - 1) (b:=2) (c:=w.C.m) (by omega) (by omega);have h2:=(Int.le_ediv_iff_mul_le (a:=1) (b:=w.C.k - x.z+w.C.m - 1) (c:=w.C.m) (by omega)).2 (by omega);omega
   grind
 obtain⟨k1,k2,k3⟩:=key _ rfl;constructor
 ·unfold Xw;rw[hq];show((fv w.C x (ax w.C w.Q (gt x.L 0) x.z).2::qs).map (Zn (mu w x qs))).sum+1=_;simp only[Z8,List.sum_cons];rw[s1];unfold Zn;rw[k3,h1,show(mu w x qs).C=w.C from rfl];omega
 ·unfold uy;rw[hq];show w.q++(fv w.C x (ax w.C w.Q (gt x.L 0) x.z).2::qs).flatMap (bs (mu w x qs))=_
  grind [bs]
theorem A4g{w:H4}{t:Int->Lk}(I:Bd w)(A:V6 w.o t)(F:V3 w.o.length t (Wh w.p)){e:G9}(he:e∈w.p):Vq w.o e.i=kf w.o.length t e.i/\ ∀y∈Vq w.o e.i,Oo w.o.length t y:=by
 have hf:=I.first he;have h:=iz A I.rg (f:=e.i) hf.1 (by omega);rw[h];exact⟨rfl,fun y hy=>F.kid.or (Bd.qs he) hy⟩
theorem By9{w:H4}(I:Bd w){x:G9}{qs:List G9}(hq:w.p=x::qs)(h0:x.j=[])(hf:x.i≠0):vd w (Xo w x qs):=by
 obtain⟨t,A,F⟩:=I.forest;have X:=Ak4 I A F hq hf;obtain⟨hg,hb⟩:=Be4 I A F hq hf;have I':=Be1 I hq hf;have hk:=X.lv.1;have hN:=A31 w.o (x.i - 1);have A':V6 (Xn w.o (x.i - 1)) (rem t (x.i - 1)):=A74 A hk hN hg hb;obtain⟨r,W⟩:=F.wf;have R:=X.rc;have hF:=R.first;have e1:x.i - 1+1=x.i:=by omega
 have hxq:x∈w.p:=by grind
 have Kd:fg w.o.length t ((x.i - 1+1)::(Wh qs).map (·.2)):=by
  have:=F.kid;rw[hq]at this;rw[e1];exact this
 obtain⟨hold,_⟩:=Bef F.tree W X.lv Kd;have hg1:=I.rg.rg _ hk;have hlen:=I.rg.len;have hpv:(t (x.i - 1)).pv=0:=by rw[A _ hk];exact X.pv
 have kdx: ∀y,Lv w.o.length t y->Vv w y=kf w.o.length t (t y).fi:=fun y hy=>Alv I A hy.1
 have kid_no: ∀y z,Lv w.o.length t y->z∈kf w.o.length t (t y).fi->Lv w.o.length t z/\z≠x.i - 1:=fun y z hy hz=>by
  obtain⟨a,_,c⟩:=(Zb F.tree W hy z).1 hz;exact⟨a,fun e=>X.or.2.2 (e ▸ c)⟩
 have fi_same: ∀y,Lv w.o.length t y->y≠x.i - 1->(rem t (x.i - 1) y).fi=(t y).fi:=fun y hy hne=>by
  rw[V5 hne];show(if(t (x.i - 1)).pv=0/\y+1=(t (x.i - 1)).up/\(t y).fi=x.i - 1+1 then _ else _)=_;rw[if_neg];rintro⟨_,a,b⟩;refine X.nf y hy.1 ⟨?_,?_⟩
  ·rw[a,A _ hk];rfl
  ·rw[<-b,A _ hy.1];rfl
 have kf_same: ∀f,(∀z∈kf w.o.length t f,z≠x.i - 1)->kf w.o.length (rem t (x.i - 1)) f=kf w.o.length t f:=fun f h=>A3r fun z hz=>⟨h z hz,by have:=uf hz;omega⟩
 have H:bt w (Xo w x qs) (fun y=>Lv w.o.length t y/\y≠x.i - 1):=by
  refine⟨rfl,hN,fun y ⟨hy,hne⟩=> ?_,fun y z ⟨hy,hne⟩ hz=> ?_,fun y ⟨hy,hne⟩=>⟨_,_,_,hg y hy.1 hne⟩⟩
  ·have:Vv (Xo w x qs) y=kd w.o.length (rem t (x.i - 1)) y:=by
    have:=Alv (w:=Xo w x qs) I' A' (k:=y) (by show 0<=y/\y<((Xn _ _).length:Int);rw[hN];exact hy.1);simp_all[Xo]
   rw[this,kdx y hy];unfold kd
   grind
  grind
 have tab': ∀f,0<=f->f<=1000->Vq (Xo w x qs).o f=kf w.o.length (rem t (x.i - 1)) f:=fun f h1 h2=>by
  have:=iz A' I'.rg (f:=f) h1 h2;rw[hN]at this;exact this
 have hold2: ∀e∈qs,Vq (Xo w x qs).o e.i=Vq w.o e.i/\ ∀y∈Vq w.o e.i,Lv w.o.length t y/\y≠x.i - 1:=fun e he=>by
  have heq:e∈w.p:=by grind
  have hfe:=I.first heq;obtain⟨k1,k2⟩:=A4g I A F heq;have hm:e.i∈(t (x.i - 1)).nx::(Wh qs).map (·.2):=Pv _ (by unfold Wh;grind);refine⟨by grind,fun y hy=>⟨(k2 y hy).1,fun e2=> ?_⟩⟩;have hnd:=Kd.nodup;rw[List.flatMap_cons,ug F.tree W X.lv,Gh,List.nodup_cons]at hnd
  grind
 obtain⟨s1,s2⟩:=A4f H qs hold2;have hnx:(t (x.i - 1)).nx=(gt w.o (x.i - 1)).u:=by rw[A _ hk];rfl
 have hfi:(t (x.i - 1)).fi=(gt w.o (x.i - 1)).i:=by rw[A _ hk];rfl
 obtain⟨kx,ko⟩:=A4g I A F hxq;have hsp:Vq w.o x.i=(x.i - 1)::kf w.o.length t (t (x.i - 1)).nx:=by
  rw[kx];have:=ug F.tree W X.lv
  grind
 have nx_no: ∀z∈kf w.o.length t (t (x.i - 1)).nx,Lv w.o.length t z/\z≠x.i - 1:=fun z hz=>by
  have hnd:=Kd.nodup;rw[List.flatMap_cons,ug F.tree W X.lv,Gh,List.nodup_cons]at hnd;refine⟨(ko z (by grind)).1,fun e=>hnd.1 (List.mem_append_left _ (e ▸ hz))⟩
 have hk2:Vq (Xo w x qs).o (gt w.o (x.i - 1)).u=kf w.o.length t (t (x.i - 1)).nx:=by
  grind
 have hk3:Vq (Xo w x qs).o (gt w.o (x.i - 1)).i=Vv w (x.i - 1):=by
  rw[tab' _ hg1.2.1.1 (by omega),<-hfi,iy F.tree W X.lv,kdx _ X.lv]
 have hch: ∀z∈Vv w (x.i - 1),Lv w.o.length t z/\z≠x.i - 1:=fun z hz=>by
  grind [Be0.lv]
 have m1:(kf w.o.length t (t (x.i - 1)).nx).map (Yy (Xo w x qs))=(kf w.o.length t (t (x.i - 1)).nx).map (Yy w):=Bf fun c hc=>A8w H (nx_no c hc)
 have m2:(kf w.o.length t (t (x.i - 1)).nx).flatMap (Zz (Xo w x qs))=(kf w.o.length t (t (x.i - 1)).nx).flatMap (Zz w):=Zl fun c hc=>A8x H (nx_no c hc)
 have m3:(Vv w (x.i - 1)).map (Yy (Xo w x qs))=(Vv w (x.i - 1)).map (Yy w):=Bf fun c hc=>A8w H (hch c hc)
 have m4:(Vv w (x.i - 1)).flatMap (Zz (Xo w x qs))=(Vv w (x.i - 1)).flatMap (Zz w):=Zl fun c hc=>A8x H (hch c hc);obtain⟨d1,d2⟩:=By6 I A F X.lv;constructor
 ·unfold Xw;rw[hq];show((Wc (gt w.o (x.i - 1)) x.i::au w.o x::qs).map (Zn (Xo w x qs))).sum+1=_;simp only[Z8,List.sum_cons];rw[s1];unfold Zn;rw[show(Wc (gt w.o (x.i - 1)) x.i).i=(gt w.o (x.i - 1)).i from rfl,show(au w.o x).i=(gt w.o (x.i - 1)).u from rfl,hk2,hk3,m1,m3,hsp,Z8,List.sum_cons,d1,show(Xo w x qs).C=w.C from rfl,show Xu w.C (au w.o x)=Xu w.C x from rfl,show Xu w.C (Wc (gt w.o (x.i - 1)) x.i)=Y2 w (x.i - 1) from rfl];omega
 ·unfold uy;rw[hq];show w.q++(Wc (gt w.o (x.i - 1)) x.i::au w.o x::qs).flatMap (bs (Xo w x qs))=_;rw[List.flatMap_cons,List.flatMap_cons,List.flatMap_cons,s2];unfold bs;rw[show(Wc (gt w.o (x.i - 1)) x.i).i=(gt w.o (x.i - 1)).i from rfl,show(au w.o x).i=(gt w.o (x.i - 1)).u from rfl,hk2,hk3,m2,m4,hsp,List.flatMap_cons,d2,show(au w.o x).j=x.j from rfl,h0,show(Wc (gt w.o (x.i - 1)) x.i).j.reverse=jf w (x.i - 1) from rfl];simp
theorem Bza{w:H4}(I:Bd w){x:G9}{qs:List G9}(hq:w.p=x::qs)(h0:x.j=[])(hc:x.L=[])(hf:x.i=0):vd w (Zg w x qs):=by
 obtain⟨t,A,F⟩:=I.forest;have X:=Ala I hq;have hN:=Ak7 w x;have I':=Be6 I hq hc hf;obtain⟨r,W⟩:=F.wf;have hlen:=I.rg.len;have lvne: ∀y,Lv w.o.length t y->gt (V7 w x) y=gt w.o y:=fun y hy=>by
  rcases dj X hy.1 with ⟨e,_⟩|⟨_,h2,_⟩
  all_goals simp_all[Zc]
 obtain⟨t',A',F',hal⟩: ∃t',V6 (V7 w x) t'/\True/\ ∀y,Lv w.o.length t y->t' y=t y:=by
  refine⟨fun y=>Yp (gt (V7 w x) y),fun y _=>rfl,trivial,fun y hy=> ?_⟩;show Yp (gt (V7 w x) y)=_;rw[lvne y hy,A y hy.1]
 have kfs: ∀f,(∀z∈kf w.o.length t f,Lv w.o.length t z)->kf w.o.length t' f=kf w.o.length t f:=fun f h=>Aku _ _ fun z hz=>by rw[hal z (h z hz)]
 have kdx: ∀y,Lv w.o.length t y->Vv w y=kf w.o.length t (t y).fi:=fun y hy=>Alv I A hy.1
 have kin: ∀y z,Lv w.o.length t y->z∈kf w.o.length t (t y).fi->Lv w.o.length t z:=fun y z hy hz=>((Zb F.tree W hy z).1 hz).1
 have H:bt w (Zg w x qs) (fun y=>Lv w.o.length t y):=by
  refine⟨rfl,hN,fun y hy=> ?_,fun y z hy hz=> ?_,fun y hy=>⟨_,_,_,(lvne y hy).trans (Ak5 _).symm⟩⟩
  ·have:Vv (Zg w x qs) y=kd w.o.length t' y:=by
    have:=Alv (w:=Zg w x qs) I' A' (k:=y) (by show 0<=y/\y<((V7 _ _).length:Int);rw[hN];exact hy.1);simp_all[Zg]
   grind [kd]
  grind
 have hold2: ∀e∈qs,Vq (Zg w x qs).o e.i=Vq w.o e.i/\ ∀y∈Vq w.o e.i,Lv w.o.length t y:=fun e he=>by
  have heq:e∈w.p:=by grind
  have hfe:=I.first heq;obtain⟨k1,k2⟩:=A4g I A F heq;refine⟨?_,fun y hy=>(k2 y hy).1⟩;have:=iz A' I'.rg (f:=e.i) hfe.1 (by omega);rw[hN]at this;show Vq (V7 w x) e.i=_;rw[this,k1];exact kfs _ fun z hz=>(k2 z (by grind)).1
 obtain⟨s1,s2⟩:=A4f H qs hold2;have hk0:Vq w.o x.i=[]:=by
  have hxq:x∈w.p:=by grind
  rw[(A4g I A F hxq).1,hf];exact iu _
 constructor
 ·grind [Xw,Zn,Zg,Al5,Ak9.rc,jj]
 ·unfold uy;rw[hq];show w.q++qs.flatMap (bs (Zg w x qs))=_
  grind [bs]
theorem A8y{w:H4}(I:Bd w)(hw:X1 w.Q)(h:0<w.p.length):vd w (Zo w):=by
 unfold Zo;cases hq:w.p with
 |nil=>grind
 |cons x qs=>
  show vd w (ji w x qs);unfold ji;split
  ·grind [By7]
  rename_i c1;have h0:x.j=[]:=Ec.1 (by omega);split
  ·exact By8 (K:=2^48) (Z9 _) I hw hq (by assumption) h0
  rename_i c2;split
  all_goals simp_all[Bza,By9]
theorem Bzb (w:H4)(hw:Wa w): ∀(u K:Nat) (k:Int) (met:List Int),2^48+u<K->(0<=k/\k<(w.o.length:Int))->Ya w met->w.o.length<=met.length+u->
  cq K w k met=some (Vu (Yh (· + ·) 0 (Xk w) w u [k] met).1,(Yh (· + ·) 0 (Xk w) w u [k] met).2):=by
 intro u;induction u using Nat.strongRecOn with
 |_ u ih=>
  intro K k met hKu hk hm hu;obtain⟨J,rfl⟩: ∃J,K=J+1:=⟨K - 1,by omega⟩;have hJ:2^48<=J:=by omega
  have hml:=A7i hm;have hL:=hw.l.2;rw[cq,A2t,bd J (Wx hw.l),decide_eq_true hk];simp only[Z0,cond_true];rw[gy hJ _ _ (by omega),Z0,mb,List.foldl_cons,List.foldl_nil];unfold Yb;by_cases hc:k∈met
  ·rw[if_pos hc,List.contains_iff_mem.2 hc,cond_true];rfl
  ·obtain⟨v,rfl,hv⟩:=A3l hm (Z9 _) hu hk hc;have hcf:met.contains k=false:=by grind
   have hx:=V8;rw[if_neg hc,hcf,cond_false,Hd,if_pos (by omega),if_pos ⟨by grind,by grind⟩];simp only[if_pos hk];rw[Aez hJ hw.l (hw.l.1 _ (Wi hk.1 hk.2)).first];simp only[Z0];have hcl:=(hw.l.1 _ (Wi hk.1 hk.2)).chunks.2;have e0:((gt w.o k).L.length:Int)=Vu (Xk w k):=by grind [Vu,Xk,Vs]
   rw[e0];show pp J (cq J) (Vv w k) J (met++[k]) (Vu (Xk w k)) 0 _ _ _ _ _ _ _ _ _ _ _ _=_;have hm2:=ua hm hk hc;have hstart:Vu (Xk w k)=Vu (Xk w k+((0,met++[k]):Int×List Int).1):=by simp
   rw[hstart];refine A3k (K:=J) hJ (Vv w k) (by grind [uc]) (Yb (· + ·) (Xk w) w (am (· + ·) 0 (Xk w) w v)) (0,met++[k]) (fun s=>Ya w s.2/\(met++[k]).length<=s.2.length) ⟨hm2,Z9 _⟩ (fun s x hx hs=> ?_) _ (fun n s i=>pp J (cq J) (Vv w k) n s.2 (Vu (Xk w k+s.1)) i w.C.L w.C.k w.C.l w.C.e w.C.m w.C.n w.Q.g w.Q.c w.Q.h w.o w.p w.q) (fun n s i h hs=> ?_) (fun n=> ?_)
   ·obtain⟨a,b⟩:=A3j (op:=(·+ ·)) (g:=Xk w) (A7j (op:=(·+ ·)) (e:=(0:Int)) (g:=Xk w) (w:=w) v) hs.1 (qe w k x hx)
    grind
   ·have hki:=qe w k _ (List.getElem_mem h);have hf:=uc hw k;simp only[pp];rw[Pz h,cond_true,if_pos (Gz h),K1 h,K0 (by omega)];have:=ih v (by omega) J (Vv w k)[i] s.2 (by omega) hki hs.1 (by omega);rw[show H4.mk (Sv.mk w.C.L w.C.k w.C.l w.C.e w.C.m w.C.n) (Pc.mk w.Q.g w.Q.c w.Q.h) w.o w.p w.q=w from rfl,this,Bd4];simp only[Z0];have e:A4 (Vu (Xk w k+s.1)) (Vu (Yh (· + ·) 0 (Xk w) w v [(Vv w k)[i]] s.2).1)=Vu (Xk w k+(s.1+(Yh (· + ·) 0 (Xk w) w v [(Vv w k)[i]] s.2).1)):=by
     rw[Bdu,<-Int.add_assoc];exact A7h _ _
    rw[e]
   simp_all[pp,am,mb]
section
variable {K:Nat} (hK:562949953421312<=K)
include hK
theorem Bzc (w:H4)(hw:Wa w)(k:Int): ∃v,A2s K w k=some v/\A2v K w k=some v:=by
 have hL:=hw.l.2;unfold A2s A2v;rw[pw K (Wx hw.l)];by_cases h:0<=k/\k<(w.o.length:Int)
 ·refine⟨Vu (Yh (·+ ·) 0 (Xk w) w w.o.length [k] []).1,?_,?_⟩
  ·rw[decide_eq_true h,Int.toNat_natCast,Bd2];simp only[Z0,Bool.not_true,cond_false];rw[if_pos (by omega),Bx4 w hw w.o.length K [k] [] (by omega) (by simp) (fun x hx=>by grind) (A3m w) (by simp)];simp_all[fe]
  ·rw[Bzb w hw w.o.length K k [] (by omega) h (A3m w) (by simp)];rfl
 ·refine⟨0,by grind,?_⟩;obtain⟨J,rfl⟩: ∃J,K=J+1:=⟨K - 1,by omega⟩
  grind [cq.eq_2,A2t.eq_1,bd]
theorem Bzd (w:H4)(hw:Wa w)(k:Int): ∃v,oo K w k=some v/\pn K w k=some v:=by
 have hQ:=hw.q.2;by_cases h:0<=k/\k<(w.p.length:Int)
 ·obtain⟨i,rfl⟩: ∃i:Nat,k=i:=⟨k.toNat,by omega⟩;simp_all[Bd9,Bd8]
 ·refine⟨0,?_,?_⟩
  ·unfold oo;rw[A6y K (l:=w.p) (by omega),decide_eq_false h];rfl
  ·unfold pn;rw[bd K (l:=w.p) (by omega),decide_eq_false h];rfl
end
theorem Bze (a:List Int)(u:A2x a): ∃K,A2w K a=some true:=by
 obtain⟨K,hK2⟩: ∃K,562949953421312<=K:=⟨_,Z9 _⟩;refine⟨K,?_⟩;have hK:2^48<=K:=by omega
 unfold A2w A4k;rw[Z0];by_cases hbig:(a.length:Int)>1048576
 ·grind
 rw[decide_eq_false hbig,cond_false];have ha:a.length<=1048576:=by omega
 have hb:aw a:=(Bt2 u).1;obtain⟨wd,o,E,n,e3,G,hE,hn,_⟩:=Bxl hK hb ha;have W:=G.wc (by omega);have I:=G.inv;have hq:=uk wd;have hlg:=Ak2 wd;have hwt:=G.wt;obtain⟨w1,c1,x1,A1,wc1⟩:=Bgk hK hb ha (most:=60) (by omega);obtain⟨w2,c2,x2,A2,wc2⟩:=Bgk hK hb ha (most:=50) (by omega);obtain⟨k1,y1,_,_⟩:=Xv K wc1 (n:=5) (by omega);obtain⟨k2,y2,_,_⟩:=Xv K wc2 (n:=7) (by omega);have d1:A03 K a=some (w1,Ap k1.1 1):=by grind [A03]
 have d2:A04 K a=some (w2,Ap k2.1 1):=by grind [A04]
 have d3:A5o K a=some (w2,Ap k2.1 1):=d2;obtain⟨v1,i1,s1⟩:=Bzd hK2 w1 A1.ww (Ap k1.1 1);obtain⟨v2,i2,s2⟩:=Bzc hK2 w2 A2.ww (Ap k2.1 1);obtain⟨t,A,F⟩:=I.forest;obtain⟨r,w',e5,G',hP,hq',hr⟩:=Bgl hK (n:=n) (by omega) (by omega) (fun w' i=>Xw w'+i=Xw wd) (fun w i G h H=>by
  have:=(A8y G.inv (G.wc (by omega)).p h).1;omega) G (by omega)
 have I':=G'.inv;have W':=G'.wc (by omega);obtain⟨t',A',F'⟩:=I'.forest;have z0:Xw w'=0:=by grind [Xw]
 have hd:ir wd=Xw wd:=by grind [A8s,Vu,Vs]
 have hd':ir w'=0:=by rw[A8s I' A' F',z0];rfl
 have T:=Bgh (m:=40000) W I.ok (by omega) (by omega);have hrd:r=Xw wd:=by omega
 obtain⟨w8,b8,e8,h8⟩: ∃w8 b8,A2k K wd=some (w8,b8)/\(b8=decide (Xw wd>0)/\(b8=true->Wa w8/\ir w8=Xw wd - 1)):=by
  unfold A2k;rw[Bdj hK W,Z0,Bdh hK wd W,I.ok,Z0,cond_true];by_cases h:wd.p.length=0
  ·refine⟨wd,false,by grind,?_,fun h=>by cases h⟩;have:Xw wd=0:=by simp_all[Xw]
   grind
  ·have hs:=(A8y I W.p (by omega)).1;obtain⟨w9,e6,S⟩:=A32 hK G (by omega) (by omega) (by omega);have ew:w9=Zo wd:=by
    rw[Bgd hK (by decide) T (by omega)]at e6
    grind
   subst ew;obtain⟨t2,A2,F2⟩:=S.inv.forest;obtain⟨r2,w2,_,_,hP2,hq2,hr2⟩:=Bgl hK (n:=n) (by omega) (by omega) (fun w' i=>Xw w'+i=Xw (Zo wd)) (fun w i G h H=>by
    have:=(A8y G.inv (G.wc (by omega)).p h).1;omega) (S.good G) (by omega)
   have z2:Xw w2=0:=by grind [Xw]
   refine⟨Zo wd,true,by rw[Wn (by omega),cond_false,Bgg hK (by decide) T (by omega)];rfl,?_,fun _=>⟨(Byw (by decide) T).ww,?_⟩⟩
   all_goals grind [A8s,mo.inv,Vu,Vs]
 rw[e3,Z0,d1,Z0,d2,Z0,d3,Z0];dsimp only;rw[A3n hK2 wd W,Z0,e5,Z0,e8,Z0,i1,Z0,s1,Z0,bne_self_eq_false,cond_false,Bd6 hK2 w2 A2.ww,Z0,Bd5 hK2 w2 A2.ww,Z0,bne_self_eq_false,cond_false,A3n hK2 w1 A1.ww,Z0,Bux hK2 w1 A1.ww,Z0,bne_self_eq_false,cond_false,i2,Z0,s2,Z0,bne_self_eq_false,cond_false];dsimp only;rw[hd,hrd,bne_self_eq_false,cond_false];unfold A6n;rw[Z0,hq',show((([]:List G9).length:Int)==0)=true from rfl,cond_true,A3n hK2 w' W',Z0,hd',bne_self_eq_false,cond_false,h8.1,beq_self_eq_true,cond_true];cases h9:decide (Xw wd>0)with
 |false=>rfl
 |true=>
  obtain⟨W8,d8⟩:=h8.2 (by grind);have:0<=Xw wd/\Xw wd<=4000:=by omega
  rw[cond_true,A3n hK2 w8 W8,Z0,d8,sbG (by omega) (by omega),beq_self_eq_true]
end Go.Proofs.YtgcnddnmhllahaaGreat
