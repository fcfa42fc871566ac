/- The plain law for FnLeaves; no condition. -/
import Derived.Test.YtcdojenmonmcfaaGreatFFnLeavesPa
set_option linter.all false
namespace Go.Proofs.YtcdojenmonmcfaaGreat
open Go.Eng Go.ChangeShapes Go.WideShapes Go.ChangeAt Go.RowKit
def lnk (n:Au)(fi nx pv:Int):Au:=Au.mk n.Vt n.Dc n.S5 n.fUp n.S6 fi nx pv n.Az n.Ade n.S9 n.Ga n.Fo
theorem Ap8{l:List Au}{j x:Int}(hj:0≤j∧j<(l.length:Int))(hx:0≤x∧x<(l.length:Int))(v:Au):gt (l.set j.toNat v) x=if x=j then v else gt l x:=by
 by_cases e:x=j
 ·subst e;rw[if_pos rfl,Awf hj]
 ·rw[if_neg e,Ayw hj.1 hx (Ne.symm e)]
theorem Bb9{l:List Au}{n:Int}(h0:0≤n)(h1:n≤l.length)(h2:l.length≤8):plB l n= !(n==0):=by
 have:=A45 (l:=l) h0 (by omega:n≤1000)
 by_cases e:n=0
 ·rw[e];rw[e]at this;cases h:plB l 0 with
  |false=>rfl
  |true=>have:=this.1 h;omega
 ·rw[this.2 ⟨by omega,by omega⟩,Ah0 e];rfl
theorem A6t{l:List Au}(R:Rg l){k x:Int}(hk:0≤k∧k<(l.length:Int))(hx:0≤x∧x<(l.length:Int)):
  gt (A3f l k) x=lnk (gt l x) (if(gt l k).S8=0∧x+1=(gt l k).fUp∧(gt l x).Eg=k+1 then(gt l k).S7 else(gt l x).Eg) (if x+1=(gt l k).S8 then(gt l k).S7 else(gt l x).S7) (gt l x).S8:=by
 obtain⟨r1,r2,r3,r4⟩:=R.rg k hk
 have hl:=R.len;unfold A3f;rw[Bb9 r4.1 r4.2 hl,Bb9 r1.1 r1.2 hl,sb1 (x:=(gt l k).S8) (by omega) (by omega),sb1 (x:=(gt l k).fUp) (by omega) (by omega),ad1 (by omega) (by omega)]
 by_cases h:(gt l k).S8=0
 ·rw[h];simp only[beq_self_eq_true,Bool.not_true,cond_false,Z30];rw[if_neg (by omega: ¬x+1=0)]
  by_cases h2:(gt l k).fUp=0
  ·rw[h2,if_neg (by omega)];rfl
  ·rw[Ah0 h2];simp only[Bool.not_false,Z30]
   by_cases h3:(gt l ((gt l k).fUp - 1)).Eg=k+1
   ·rw[h3,beq_self_eq_true,cond_true,Ap8 (by omega) hx]
    by_cases e:x=(gt l k).fUp - 1
    ·rw[if_pos e,e,h3,if_pos ⟨trivial,by omega,rfl⟩];rfl
    ·rw[if_neg e,if_neg (by omega)];rfl
   ·rw[Ah0 h3,cond_false,if_neg]
    ·rfl
    ·rintro⟨_,a,b⟩;rw[←a,Int.add_sub_cancel]at h3;exact h3 b
 ·rw[Ah0 h];simp only[Bool.not_false,cond_true];rw[Ap8 (by omega) hx,if_neg (fun q:(gt l k).S8=0∧x+1=(gt l k).fUp∧(gt l x).Eg=k+1=>h q.1)]
  by_cases e:x=(gt l k).S8 - 1
  ·have e2:x+1=(gt l k).S8:=by omega
   rw[if_pos e,if_pos e2,←e];rfl
  ·have e2: ¬x+1=(gt l k).S8:=by omega
   rw[if_neg e,if_neg e2];rfl
theorem A3j{l:List Au}(R:Rg l){k x:Int}(hk:0≤k∧k<(l.length:Int))(hx:0≤x∧x<(l.length:Int))(hne:x≠k):
  gt (Anv l k) x=lnk (gt l x) (if(gt l k).S8=0∧x+1=(gt l k).fUp∧(gt l x).Eg=k+1 then(gt l k).S7 else(gt l x).Eg) (if x+1=(gt l k).S8 then(gt l k).S7 else(gt l x).S7) (if x+1=(gt l k).S7 then(gt l k).S8 else(gt l x).S8):=by
 obtain⟨r1,r2,r3,r4⟩:=R.rg k hk
 have hl:=R.len
 have hl0:=A17 l k;unfold Anv A2n;rw[Ap8 (by rw[A3e,hl0];exact hk) (by rw[A3e,hl0];exact hx),if_neg hne]
 unfold A41;rw[Bb9 r3.1 r3.2 hl,sb1 (by omega) (by omega)]
 by_cases h:(gt l k).S7=0
 ·rw[h];simp only[beq_self_eq_true,Bool.not_true,cond_false];rw[A6t R hk hx,h,if_neg (by omega: ¬x+1=0)]
 ·rw[Ah0 h];simp only[Bool.not_false,cond_true];rw[Ap8 (by rw[hl0];omega) (by rw[hl0];exact hx)]
  by_cases e:x=(gt l k).S7 - 1
  ·have e2:x+1=(gt l k).S7:=by omega
   rw[if_pos e,if_pos e2,←e,A6t R hk hx];rfl
  ·have e2: ¬x+1=(gt l k).S7:=by omega
   rw[if_neg e,if_neg e2,A6t R hk hx]
theorem A0s (l:List Au)(k:Int):(Anv l k).length=l.length:=by unfold Anv A2n;rw[Z49,A3e,A17]
theorem A7q{c:Eb}{n:Au}(X:Aus c n){fi nx pv:Int}(h1:0≤fi∧fi≤c.Fb)(h2:0≤nx∧nx≤c.Fb)(h3:0≤pv∧pv≤c.Fb):Aus c (lnk n fi nx pv):=
 ⟨X.conf,X.st,X.gen,X.up,h1,h2,h3,X.ep,X.ue,X.dist,X.cur,X.nth,X.ntag,X.tags,X.things⟩
theorem Bub{l:List Au}{t:Int->Lk}(A:AtT l t)(R:Rg l){k:Int}(hk:0≤k∧k<(l.length:Int))(g:Int):AtT ((Anv l k).set k.toNat (Aqt 2 g)) (rem t k):=by
 intro x hx;rw[Z49,A0s]at hx;rw[Ap8 (by rw[A0s];exact hk) (by rw[A0s];exact hx)]
 by_cases e:x=k
 ·subst e;rw[A42,if_pos rfl];rfl
 ·rw[Anb e,if_neg e,A3j R hk hx e,A x hx,A k hk];rfl
theorem A2a{l:List Int}{j x:Int}(hj:0≤j)(hx:0≤x∧x<(l.length:Int))(v:Int):gt (l.set j.toNat v) x=if x=j then v else gt l x:=by
 have h1:x.toNat<(l.set j.toNat v).length:=by simp;omega
 have h2:x.toNat<l.length:=by omega
 have e1:gt (l.set j.toNat v) ((x.toNat:Nat):Int)=if x=j then v else gt l ((x.toNat:Nat):Int):=by
  rw[P2 h1,P2 h2,List.getElem_set]
  by_cases e:x=j
  ·rw[if_pos e,if_pos (by omega)]
  ·rw[if_neg e,if_neg (by omega)]
 rwa[show((x.toNat:Nat):Int)=x by omega]at e1
structure A6b (c:Eb)(p:Dp):Prop where
 conf:Ai0 c=true
 mem:(p.Pm.length:Int)=c.Az*c.Hi
 st:(p.Vt.length:Int)=c.Az
 own:(p.Pn.length:Int)=c.Az
 one: ∀k,0≤k∧k<c.Az->(0≤gt p.Vt k∧gt p.Vt k≤2)∧(gt p.Vt k=1->0≤gt p.Pn k∧gt p.Pn k<c.Fb)∧(gt p.Vt k≠1->gt p.Pn k= -1)∧(gt p.Vt k=0->Ap3 (At7 c p.Pm k)=true)
theorem Bfc{c:Eb}{p:Dp}{k:Nat}:Azu c p k=true ↔ (0≤gt p.Vt (k:Int)∧gt p.Vt (k:Int)≤2)∧(gt p.Vt (k:Int)=1->0≤gt p.Pn (k:Int)∧gt p.Pn (k:Int)<c.Fb)∧(gt p.Vt (k:Int)≠1->gt p.Pn (k:Int)= -1)∧(gt p.Vt (k:Int)=0->Ap3 (At7 c p.Pm k)=true):=by
 unfold Azu;rw[Z4,Z4,Ael];refine and_congr Iff.rfl ?_
 by_cases e:gt p.Vt (k:Int)=1
 ·rw[e];simp only[beq_self_eq_true,cond_true,Ael];constructor
  ·rintro⟨a,b⟩;exact⟨fun _=>by omega,fun h=>absurd rfl h,fun h=>(by cases h)⟩
  ·rintro⟨a,b,c⟩;exact⟨by have:=a trivial;omega,rfl⟩
 ·rw[Ah0 e];simp only[cond_false,beq_iff_eq]
  by_cases f:gt p.Vt (k:Int)=0
  ·rw[f];simp only[beq_self_eq_true,cond_true];constructor
   ·rintro⟨a,b⟩;exact⟨fun h=>(by cases h),fun _=>a,fun _=>b⟩
   ·rintro⟨a,b,c⟩;exact⟨b (by decide),c trivial⟩
  ·rw[Ah0 f];simp only[cond_false];constructor
   ·rintro⟨a,b⟩;exact⟨fun h=>absurd h e,fun _=>a,fun h=>absurd h f⟩
   ·rintro⟨a,b,c⟩;exact⟨b e,trivial⟩
theorem Ala{c:Eb}{p:Dp}:Ava c p=true ↔ A6b c p:=by
 constructor
 ·intro h;obtain⟨h1,h2,h3,h4,h5⟩:=Atu h;refine⟨h1,h2,h3,h4,fun k hk=> ?_⟩
  have:=Bfc.1 (h5 k.toNat (by omega))
  rwa[show((k.toNat:Nat):Int)=k by omega]at this
 ·intro h;obtain⟨b1,_⟩:=Gx h.conf;unfold Ava;simp only[Z4,beq_iff_eq,Z1,List.mem_range];refine⟨h.conf,by rw[h.mem];unfold Amn;rw[h.conf];rfl,h.st,h.own,fun k hk=> ?_⟩
  exact Bfc.2 (h.one k (by omega))
theorem Bg5 (cs:List Int): ∀(p:Dp),p.Pn.length=p.Vt.length->(Ai3 p cs).Pm=p.Pm∧(Ai3 p cs).Vt.length=p.Vt.length∧(Ai3 p cs).Pn.length=p.Pn.length∧ ∀c,0≤c∧c<(p.Vt.length:Int)→
  gt (Ai3 p cs).Vt c=(if c∈cs∧gt p.Vt c=1 then 2 else gt p.Vt c)∧gt (Ai3 p cs).Pn c=(if c∈cs∧gt p.Vt c=1 then -1 else gt p.Pn c):=by
 induction cs with
 |nil=>intro p _;refine⟨rfl,rfl,rfl,fun c _=> ?_⟩;simp[Ai3]
 |cons k cs ih=>
  intro p hl
  have h1:(A1j p k).Pm=p.Pm∧(A1j p k).Vt.length=p.Vt.length∧(A1j p k).Pn.length=p.Pn.length:=by
   unfold A1j;split<;>simp
  obtain⟨a,b,c,d⟩:=ih (A1j p k) (by omega)
  refine⟨a.trans h1.1,b.trans h1.2.1,c.trans h1.2.2,fun x hx=> ?_⟩;obtain⟨d1,d2⟩:=d x (by rw[h1.2.1];exact hx)
  have e1:gt (A1j p k).Vt x=if x=k∧gt p.Vt x=1 then 2 else gt p.Vt x:=by
   unfold A1j
   by_cases q:(0≤k∧k<(p.Vt.length:Int)∧k<(p.Pn.length:Int))∧gt p.Vt k=1
   ·rw[if_pos q];simp only;rw[A2a q.1.1 hx]
    by_cases e:x=k
    ·rw[if_pos e,if_pos ⟨e,e ▸ q.2⟩]
    ·rw[if_neg e,if_neg (fun f=>e f.1)]
   ·rw[if_neg q,if_neg];rintro⟨rfl,f⟩;exact q ⟨⟨hx.1,hx.2,by omega⟩,f⟩
  have e2:gt (A1j p k).Pn x=if x=k∧gt p.Vt x=1 then -1 else gt p.Pn x:=by
   unfold A1j
   by_cases q:(0≤k∧k<(p.Vt.length:Int)∧k<(p.Pn.length:Int))∧gt p.Vt k=1
   ·rw[if_pos q];simp only;rw[A2a q.1.1 (by omega)]
    by_cases e:x=k
    ·rw[if_pos e,if_pos ⟨e,e ▸ q.2⟩]
    ·rw[if_neg e,if_neg (fun f=>e f.1)]
   ·rw[if_neg q,if_neg];rintro⟨rfl,f⟩;exact q ⟨⟨hx.1,hx.2,by omega⟩,f⟩
  show gt (Ai3 (A1j p k) cs).Vt x=_∧gt (Ai3 (A1j p k) cs).Pn x=_;rw[d1,d2,e1,e2]
  by_cases q:gt p.Vt x=1
  ·by_cases e:x=k
   ·subst e;simp[q]
   ·simp[q,e]
  ·simp[q]
theorem A0t{w:C8}(I:Inv w){k:Int}(hk:0≤k∧k<(w.fL.length:Int)):
  A6b w.fC (Ai3 w.fP (gt w.fL k).Az)∧(Ai3 w.fP (gt w.fL k).Az).Pm=w.fP.Pm∧
  ∀c,0≤c∧c<w.fC.Az->gt (Ai3 w.fP (gt w.fL k).Az).Vt c=(if c∈(gt w.fL k).Az then 2 else gt w.fP.Vt c)∧gt (Ai3 w.fP (gt w.fL k).Az).Pn c=(if c∈(gt w.fL k).Az then -1 else gt w.fP.Pn c):=by
 have P:=Ala.1 I.pool;obtain⟨a,b,c,d⟩:=Bg5 (gt w.fL k).Az w.fP (by have:=P.st;have:=P.own;omega)
 have key: ∀c,0≤c∧c<w.fC.Az->gt (Ai3 w.fP (gt w.fL k).Az).Vt c=(if c∈(gt w.fL k).Az then 2 else gt w.fP.Vt c)∧gt (Ai3 w.fP (gt w.fL k).Az).Pn c=(if c∈(gt w.fL k).Az then -1 else gt w.fP.Pn c):=by
  intro x hx;obtain⟨d1,d2⟩:=d x (by rw[P.st];exact hx)
  rw[d1,d2]
  by_cases e:x∈(gt w.fL k).Az
  ·have:=((I.own k hk x).1 e).2.1
   have q:x∈(gt w.fL k).Az∧gt w.fP.Vt x=1:=⟨e,this⟩;simp only[if_pos q,if_pos e,and_self]
  ·have q: ¬(x∈(gt w.fL k).Az∧gt w.fP.Vt x=1):=fun q=>e q.1;simp only[if_neg q,if_neg e,and_self]
 refine⟨⟨P.conf,by rw[a];exact P.mem,by rw[b];exact P.st,by rw[c];exact P.own,fun x hx=> ?_⟩,a,key⟩
 obtain⟨k1,k2⟩:=key x hx;obtain⟨p1,p2,p3,p4⟩:=P.one x hx;rw[k1,k2,a]
 by_cases e:x∈(gt w.fL k).Az
 ·rw[if_pos e,if_pos e];exact⟨by omega,fun h=>by omega,fun _=>rfl,fun h=>by omega⟩
 ·rw[if_neg e,if_neg e];exact⟨p1,p2,p3,p4⟩
theorem A6u (q:List A1)(x:A1):chL (q++[x])=chL q++x.Az:=by unfold chL;rw[List.flatMap_append];simp
theorem A6v (q:List A1)(x:A1):slL (q++[x])=slL q++(if x.Bk=0 then []else [An8 .i64 x.Bk 1]):=by unfold slL;rw[List.flatMap_append];simp
theorem Bca (q:List A1)(x:A1):Awv (q++[x])=Awv q++[(x.Bk,x.Eg)]:=by simp[Awv]
theorem A3k{c:Eb}{n:Au}(h:Aus c n){s:Int}(hs:0≤s∧s≤c.Fb):Ana c (Ag5 n s)=true:=by
 obtain⟨_,b,_⟩:=Gx h.conf;unfold Ana Ag5;simp only[Z4,Ael,decide_eq_true_eq,Bool.or_eq_true,beq_iff_eq];exact⟨h.conf,hs,h.first,by have:=h.ntag;omega,h.tags,h.dist,by omega,.inr trivial⟩
theorem A7r (w:C8)(n:Au)(s:Int):Ape w (Ag5 n s)=true:=by
 unfold Ape Ag5 Ap3;simp
theorem Baj{w:C8}(I:Inv w){k:Int}(hk:0≤k∧k<(w.fL.length:Int)):(chL w.fQ++(gt w.fL k).Az).Nodup:=
 Ai8.2 ⟨I.chn,Aza (A6a (I.node k hk)),fun x h1 h2=>by have:=((I.chi x).1 h1).2;have:=((I.own k hk x).1 h2).2.1;omega⟩
theorem Bak{w:C8}(I:Inv w){k:Int}(hk:0≤k∧k<(w.fL.length:Int))(c:Int):c∈chL w.fQ++(gt w.fL k).Az ↔ (0≤c∧c<w.fC.Az)∧gt (Ai3 w.fP (gt w.fL k).Az).Vt c=2:=by
 rw[Gh,I.chi];constructor
 ·rintro(⟨a,b⟩|h)
  ·refine⟨a,?_⟩;rw[((A0t I hk).2.2 c a).1];split
   ·rfl
   ·exact b
  ·have a:=((I.own k hk c).1 h).1;rw[((A0t I hk).2.2 c a).1,if_pos h];exact⟨a,rfl⟩
 ·rintro⟨a,b⟩;rw[((A0t I hk).2.2 c a).1]at b;split at b
  ·rename_i h;exact .inr h
  ·exact .inl ⟨a,b⟩
theorem Bg6{w:C8}(I:Inv w){t:Int->Lk}(A:AtT w.fL t)(F:Ak4 w.fL.length t (Awv w.fQ)){k:Int}(h:Al w.fL.length t k):Inv (Asm w k):=by
 have hl:=h.lv
 have hk:=hl.1
 have P:=I.live A hl
 have R:=I.rg;obtain⟨L1,L2,L3⟩:=A0t I hk;obtain⟨_,_,b3,_⟩:=Gx I.conf
 have hlen:=I.len
 have e1:An7 .i64 k 1=k+1:=ad1 (by omega) (by omega)
 have hN:(Asm w k).fL.length=w.fL.length:=by unfold Asm;simp only;rw[Z49,A0s]
 have hg: ∀x,0≤x∧x<(w.fL.length:Int)->gt (Asm w k).fL x=if x=k then Aqt 2 (gt (Anv w.fL k) k).Dc else gt (Anv w.fL k) x:=fun x hx=>by
  unfold Asm;simp only;rw[Ap8 (by rw[A0s];exact hk) (by rw[A0s];exact hx)];rfl
 have hgen:(gt (Anv w.fL k) k).Dc=(gt w.fL k).Dc:=by
  unfold Anv A2n;rw[Awf (by rw[A3e,A17];exact hk)]
  show(gt (A41 w.fL (A3f w.fL k) k _ _) k).Dc=_;unfold A41
  have h0:(gt (A3f w.fL k) k).Dc=(gt w.fL k).Dc:=by rw[A6t R hk hk];rfl
  obtain⟨_,_,r3,_⟩:=R.rg k hk
  have hl8:=R.len;rw[Bb9 r3.1 r3.2 hl8,sb1 (by omega) (by omega)]
  by_cases e:(gt w.fL k).S7=0
  ·rw[e];exact h0
  ·rw[Ah0 e];simp only[Bool.not_false,cond_true];rw[Ap8 (by rw[A17];omega) (by rw[A17];exact hk)]
   split
   ·rename_i e2;rw[←e2];exact h0
   ·exact h0
 refine⟨Ala.2 L1,by rw[hN];exact hlen,fun x hx=> ?_,fun x hx c=> ?_,fun x hx=> ?_,⟨rem t k,?_,?_⟩,fun x hx=> ?_,?_,fun c=> ?_,?_,fun s=> ?_,I.log⟩
 ·rw[hN]at hx;rw[hg x hx]
  by_cases e:x=k
  ·rw[if_pos e,hgen];exact A31 I.conf (by omega) (by omega) P.gen
  ·rw[if_neg e,A3j R hk hx e]
   by_cases hs:(gt w.fL x).Vt=1
   ·have X:=Aje.1 ⟨I.node x hx,hs⟩;obtain⟨a1,a2,a3,a4⟩:=A4j (I.node k hk);refine(Aje.2 (A7q X ?_ ?_ ?_)).1
    ·split
     ·exact a3
     ·exact X.first
    ·split
     ·exact a3
     ·exact X.next
    ·split
     ·exact a4
     ·exact X.prev
   ·have X:=Ayz (I.node x hx) hs
    have B:=(A7j F.tree hl).bare x hx.1 hx.2 (by rw[Anb e,A x hx];simpa[A3i]using hs)
    rw[Anb e,A x hx,A k hk]at B;obtain⟨_,B2,B3,B4⟩:=B
    have q1:(if(gt w.fL k).S8=0∧x+1=(gt w.fL k).fUp∧(gt w.fL x).Eg=k+1 then(gt w.fL k).S7 else(gt w.fL x).Eg)=0:=B2
    have q2:(if x+1=(gt w.fL k).S8 then(gt w.fL k).S7 else(gt w.fL x).S7)=0:=B3
    have q3:(if x+1=(gt w.fL k).S7 then(gt w.fL k).S8 else(gt w.fL x).S8)=0:=B4
    have this:lnk (gt w.fL x) 0 0 0=gt w.fL x:=by rw[X];rfl
    rw[q1,q2,q3];rw[this];exact I.node x hx
 ·rw[hN]at hx;rw[hg x hx]
  show c∈_ ↔ (0≤c∧c<w.fC.Az)∧gt (Ai3 w.fP (gt w.fL k).Az).Vt c=1∧gt (Ai3 w.fP (gt w.fL k).Az).Pn c=x
  by_cases e:x=k
  ·rw[if_pos e];constructor
   ·intro q;cases q
   ·rintro⟨a,b,d⟩;rw[(L3 c a).1]at b;rw[(L3 c a).2]at d;split at b
    ·omega
    ·rename_i q;rw[if_neg q]at d;exact absurd ((I.own k hk c).2 ⟨a,b,by omega⟩) q
  ·rw[if_neg e,A3j R hk hx e]
   show c∈(gt w.fL x).Az ↔ _;rw[I.own x hx c];constructor
   ·rintro⟨a,b,d⟩
    have q:c ∉ (gt w.fL k).Az:=fun q=>e (by have:=((I.own k hk c).1 q).2.2;omega)
    rw[(L3 c a).1,(L3 c a).2,if_neg q,if_neg q];exact⟨a,b,d⟩
   ·rintro⟨a,b,d⟩;rw[(L3 c a).1]at b;rw[(L3 c a).2]at d;split at b
    ·omega
    ·rename_i q;rw[if_neg q]at d;exact⟨a,b,d⟩
 ·rw[hN]at hx;rw[hg x hx]
  by_cases e:x=k
  ·rw[if_pos e];exact⟨rfl,rfl,rfl⟩
  ·rw[if_neg e,A3j R hk hx e];obtain⟨t1,t2,t3⟩:=I.thing x hx;refine⟨t1,t2,?_⟩
   show Aru w.fC (Ai3 w.fP (gt w.fL k).Az).Pm _=true;rw[L2];exact t3
 ·exact Bub A R hk _
 ·show Ak4 ((Asm w k).fL.length:Int) _ (Awv (w.fQ++[_]));rw[hN,Bca,e1]
  have:=Bac F h;rw[A k hk]at this;exact this
 ·have hx:x∈w.fQ++[Ag5 (gt w.fL k) (An7 .i64 k 1)]:=hx
  show Ana w.fC x=true∧_;rcases Gh.1 hx with hx|hx
  ·obtain⟨a,b⟩:=I.wrec x hx;refine⟨a,?_⟩;unfold Ape at b ⊢
   show(_||Ap3 (((Ai3 w.fP (gt w.fL k).Az).Pm.drop (gt x.Az 0*w.fC.Hi).toNat).take x.Xa.toNat))=true
   rw[L2];exact b
  ·rw[Mx.1 hx,e1];exact⟨A3k P (by omega),A7r _ _ _⟩
 ·show(chL (w.fQ++[_])).Nodup;rw[A6u];exact Baj I hk
 ·show c∈chL (w.fQ++[_]) ↔ _;rw[A6u];exact Bak I hk c
 ·show(slL (w.fQ++[Ag5 (gt w.fL k) (An7 .i64 k 1)])).Nodup;rw[A6v,e1]
  show(slL w.fQ++(if k+1=0 then []else [An8 .i64 (k+1) 1])).Nodup
  rw[if_neg (by omega),sb1 (by omega) (by omega),Int.add_sub_cancel]
  exact Ai8.2 ⟨I.sln,by simp,fun x h1 h2=>by rw[Mx]at h2;subst h2;have:=((I.sli x).1 h1).2;have:=P.st;omega⟩
 ·show s∈slL (w.fQ++[Ag5 (gt w.fL k) (An7 .i64 k 1)]) ↔ _;rw[A6v,e1,hN]
  show s∈slL w.fQ++(if k+1=0 then []else [An8 .i64 (k+1) 1]) ↔ _
  rw[if_neg (by omega),sb1 (by omega) (by omega),Int.add_sub_cancel,Gh,Mx,I.sli]
  constructor
  ·rintro(⟨a,b⟩|a)
   ·refine⟨a,?_⟩
    have e:s≠k:=fun e=>by rw[e,P.st]at b;cases b
    rw[hg s a,if_neg e,A3j R hk a e];exact b
   ·rw[a,hg k hk,if_pos rfl];exact⟨hk,rfl⟩
  ·rintro⟨a,b⟩
   by_cases e:s=k
   ·exact .inr e
   ·rw[hg s a,if_neg e,A3j R hk a e]at b;exact .inl ⟨a,b⟩
theorem Buc{l:List Au}{t:Int->Lk}(A:AtT l t){k:Int}(hk:0≤k∧k<(l.length:Int))(h0:0≤(gt l k).S5)(h1:(gt l k).S5≤1000000000):AtT (l.set k.toNat (Atx (gt l k))) (emp t k):=by
 intro x hx;rw[Z49]at hx;rw[Ap8 hk hx]
 by_cases e:x=k
 ·subst e;rw[A84,if_pos rfl,A x hx];unfold Atx A3i;simp only;rw[ad1 (by omega) h1]
 ·rw[A59 e,if_neg e,A x hx]
theorem Bg7{w:C8}(I:Inv w){t:Int->Lk}(A:AtT w.fL t)(F:Ak4 w.fL.length t (Awv w.fQ)){k:Int}(h:Al w.fL.length t k)(hE:(gt w.fL k).S5≤1000000000):Inv (Au2 w k):=by
 have hl:=h.lv
 have hk:=hl.1
 have P:=I.live A hl;obtain⟨L1,L2,L3⟩:=A0t I hk
 have hN:(Au2 w k).fL.length=w.fL.length:=by unfold Au2;simp only;rw[Z49]
 have hg: ∀x,0≤x∧x<(w.fL.length:Int)->gt (Au2 w k).fL x=if x=k then Atx (gt w.fL k)else gt w.fL x:=fun x hx=>Ap8 hk hx _
 obtain⟨_,b2,b3,_⟩:=Gx I.conf;refine⟨Ala.2 L1,by rw[hN];exact I.len,fun x hx=> ?_,fun x hx c=> ?_,fun x hx=> ?_,⟨emp t k,?_,?_⟩,fun x hx=> ?_,?_,fun c=> ?_,?_,fun s=> ?_,I.log⟩
 ·rw[hN]at hx;rw[hg x hx]
  show Aq2 w.fC _=true
  by_cases e:x=k
  ·rw[if_pos e];exact((Aje (n:=Atx (gt w.fL k))).2 ⟨P.conf,P.st,P.gen,P.up,⟨Int.le_refl _,by show(0:Int)≤_;omega⟩,P.next,P.prev,by show 0≤An7 .i64 _ 1;rw[ad1 (by have:=P.ep;omega) hE];have:=P.ep;omega,P.ue,rfl,rfl,Z21 _,Z21 _,rfl,rfl⟩).1
  ·rw[if_neg e];exact I.node x hx
 ·rw[hN]at hx;rw[hg x hx]
  show c∈_ ↔ (0≤c∧c<w.fC.Az)∧gt (Ai3 w.fP (gt w.fL k).Az).Vt c=1∧gt (Ai3 w.fP (gt w.fL k).Az).Pn c=x
  by_cases e:x=k
  ·rw[if_pos e];constructor
   ·intro q;cases q
   ·rintro⟨a,b,d⟩;rw[(L3 c a).1]at b;rw[(L3 c a).2]at d;split at b
    ·omega
    ·rename_i q;rw[if_neg q]at d;exact absurd ((I.own k hk c).2 ⟨a,b,by omega⟩) q
  ·rw[if_neg e,I.own x hx c];constructor
   ·rintro⟨a,b,d⟩
    have q:c ∉ (gt w.fL k).Az:=fun q=>e (by have:=((I.own k hk c).1 q).2.2;omega)
    rw[(L3 c a).1,(L3 c a).2,if_neg q,if_neg q];exact⟨a,b,d⟩
   ·rintro⟨a,b,d⟩;rw[(L3 c a).1]at b;rw[(L3 c a).2]at d;split at b
    ·omega
    ·rename_i q;rw[if_neg q]at d;exact⟨a,b,d⟩
 ·rw[hN]at hx;rw[hg x hx]
  by_cases e:x=k
  ·rw[if_pos e];exact⟨rfl,rfl,rfl⟩
  ·rw[if_neg e];obtain⟨t1,t2,t3⟩:=I.thing x hx;refine⟨t1,t2,?_⟩
   show Aru w.fC (Ai3 w.fP (gt w.fL k).Az).Pm _=true;rw[L2];exact t3
 ·exact Buc A hk P.ep hE
 ·show Ak4 ((Au2 w k).fL.length:Int) _ (Awv (w.fQ++[_]));rw[hN,Bca]
  have:=Bad F h;rw[A k hk]at this;exact this
 ·have hx:x∈w.fQ++[Ag5 (gt w.fL k) 0]:=hx
  show Ana w.fC x=true∧_;rcases Gh.1 hx with hx|hx
  ·obtain⟨a,b⟩:=I.wrec x hx;refine⟨a,?_⟩;unfold Ape at b ⊢
   show(_||Ap3 (((Ai3 w.fP (gt w.fL k).Az).Pm.drop (gt x.Az 0*w.fC.Hi).toNat).take x.Xa.toNat))=true
   rw[L2];exact b
  ·rw[Mx.1 hx];exact⟨A3k P (by omega),A7r _ _ _⟩
 ·show(chL (w.fQ++[_])).Nodup;rw[A6u];exact Baj I hk
 ·show c∈chL (w.fQ++[_]) ↔ _;rw[A6u];exact Bak I hk c
 ·show(slL (w.fQ++[Ag5 (gt w.fL k) 0])).Nodup;rw[A6v]
  show(slL w.fQ++(if(0:Int)=0 then []else [An8 .i64 0 1])).Nodup
  rw[if_pos rfl,List.append_nil];exact I.sln
 ·show s∈slL (w.fQ++[Ag5 (gt w.fL k) 0]) ↔ _;rw[A6v,hN]
  show s∈slL w.fQ++(if(0:Int)=0 then []else [An8 .i64 0 1]) ↔ _
  rw[if_pos rfl,List.append_nil,I.sli];refine and_congr_right fun a=> ?_;rw[hg s a]
  by_cases e:s=k
  ·rw[if_pos e,e,P.st]
   show _ ↔ (gt w.fL k).Vt=2;rw[P.st]
  ·rw[if_neg e]
def wtN (c:Eb)(n:Au):Nat:=if n.Vt=1 then 2+n.Fo.length+c.Hi.toNat*n.Az.length else 0
def wtQ (c:Eb)(x:A1):Nat:=1+x.Fo.length+(c.Hi.toNat*x.Az.length - x.Xa.toNat)
def pot (w:C8):Nat:=(w.fL.map (wtN w.fC)).sum+(w.fQ.map (wtQ w.fC)).sum
def wt (w:C8):Nat:=pot w+w.Adf.length
structure EpP (E:Int)(n:Au):Prop where
 ep:n.S5≤E
 ue:n.S6≤E
 cur:0≤n.Ade∧n.Ade≤1000
structure D8 (w:C8)(E:Int)(n:Nat):Prop where
 inv:Inv w
 mem: ∀x∈w.fP.Pm,0≤x∧x≤255
 ep: ∀k,0≤k∧k<(w.fL.length:Int)->EpP E (gt w.fL k)
 wt:wt w≤n
theorem Bud{α:Type}(f:α->Nat)(l:List α)(h: ∀x∈l,1≤f x):l.length≤(l.map f).sum:=by
 induction l with
 |nil=>simp
 |cons x l ih=>
  have:=ih fun y hy=>h y (Z56 _ hy)
  have:=h x List.mem_cons_self;simp only[Xf,Z8,List.sum_cons];omega
theorem Blo (w:C8):w.fQ.length≤wt w:=by
 have:=Bud (wtQ w.fC) w.fQ fun x _=>by unfold wtQ;omega
 unfold wt pot;omega
theorem Bdy (w:C8):w.Adf.length≤wt w:=by unfold wt;omega
theorem K1{x:Int}(h0: -1000000000≤x)(h1:x≤1000000000):wfi x:=⟨by omega,by omega⟩
theorem Bal{c:Eb}{t:Bd}(h:Ap4 c t=true):ThingW t:=by
 have hs:=(A13 h).1
 have hin:=(A13 h).2;obtain⟨_,b2,_⟩:=Gx hin.1;obtain⟨s1,s2,s3,s4⟩:=hs;refine⟨K1 (by omega) (by omega),K1 (by omega) (by omega),?_⟩
 unfold Ap4 at h;rw[Z4]at h
 by_cases e:t.Aj1=0
 ·rw[e];exact K1 (by omega) (by omega)
 ·have h:=h.2;rw[Ah0 e]at h;simp only[cond_false,Z4,beq_iff_eq]at h;rw[h.2.1];unfold Att
  have h3:(t.Aj0+c.Hi - 1) / c.Hi≤t.Aj0+c.Hi - 1:=Int.ediv_le_self _ (by omega)
  have h4:0≤(t.Aj0+c.Hi - 1) / c.Hi:=Int.ediv_nonneg (by omega) (by omega)
  cases (inB t.Aj0 0 1000000000&&inB c.Hi 1 1000000000)with
  |false=>exact K1 (by simp only[cond_false];omega) (by simp only[cond_false];omega)
  |true=>exact K1 (by simp only[cond_true];omega) (by simp only[cond_true];omega)
theorem Avz{l:List Int}(h: ∀x∈l,-1000000000≤x∧x≤1000000000)(hl:l.length≤1000000000):A14 l:=⟨fun x hx=>K1 (h x hx).1 (h x hx).2,by omega⟩
theorem Blp{c:Eb}(h:Ai0 c=true):ConfW c:=by
 obtain⟨b1,b2,b3,b4,b5,b6⟩:=Gx h;exact⟨K1 (by omega) (by omega),K1 (by omega) (by omega),K1 (by omega) (by omega),K1 (by omega) (by omega),K1 (by omega) (by omega),K1 (by omega) (by omega)⟩
theorem A7t{l:List Int}(h:l.all (fun x=>inB x 0 255)=true): ∀x∈l,0≤x∧x≤255:=fun x hx=>Ael.1 (Z1.1 h x hx)
theorem A2p{c:Eb}{n:Au}{E:Int}(h:Aq2 c n=true)(e:EpP E n)(hE:E≤1000000000):Aql n:=by
 obtain⟨b1,b2,b3,b4,b5,b6⟩:=Gx (A1e h).1
 by_cases s:n.Vt=1
 ·have X:=Aje.1 ⟨h,s⟩
  have:=X.gen;have:=X.up;have:=X.first;have:=X.next;have:=X.prev;have:=X.ep;have:=X.ue;have:=X.nth;have:=X.ntag
  have:=e.ep;have:=e.ue;have:=e.cur;refine⟨K1 (by omega) (by omega),K1 (by omega) (by omega),K1 (by omega) (by omega),K1 (by omega) (by omega),K1 (by omega) (by omega),K1 (by omega) (by omega),K1 (by omega) (by omega),K1 (by omega) (by omega),?_,K1 (by omega) (by omega),?_,?_,?_⟩
  ·exact Avz (fun x hx=>by have:=Axn X.dist x hx;omega) (by have:=Asi X.conf X.dist;omega)
  ·have:=X.cur;unfold A4q at this
   by_cases q:n.Ade=0
   ·rw[q]at this;simp only[beq_self_eq_true,cond_true,beq_iff_eq]at this;rw[this];exact K1 (by decide) (by decide)
   ·rw[Ah0 q]at this;simp only[cond_false,Z4,Ael]at this;exact K1 (by omega) (by omega)
  ·exact⟨fun t ht=>Bal (Z1.1 X.things t ht),by omega⟩
  ·exact Avz (fun x hx=>by have:=A7t X.tags x hx;omega) (by omega)
 ·have g:=A1e h;rw[Ayz h s];exact⟨K1 (by show _≤n.Vt;omega) (by show n.Vt≤_;omega),K1 (by show _≤n.Dc;omega) (by show n.Dc≤_;omega),At1,At1,At1,At1,At1,At1,Aty,At1,At1,Azy,Aty⟩
theorem Bou{c:Eb}{x:A1}(h:Ana c x=true):A04 x:=by
 obtain⟨b1,b2,b3,b4,b5,b6⟩:=Gx (Aq6 h).1;obtain⟨h1,h2,h3,h4,h5⟩:=Aq6 h;unfold Ana at h;simp only[Z4,Ael,decide_eq_true_eq]at h;obtain⟨_,_,_,t1,t2,_⟩:=h;refine⟨K1 (by omega) (by omega),K1 (by omega) (by omega),?_,?_,K1 (by omega) (by omega)⟩
 ·exact Avz (fun y hy=>by have:=A7t t2 y hy;omega) (by omega)
 ·exact Avz (fun y hy=>by have:=Axn h4 y hy;omega) (by have:=Asi h1 h4;omega)
theorem A7u{α:Type}[Inhabited α]{l:List α}{P:α->Prop}(h: ∀k,0≤k∧k<(l.length:Int)->P (gt l k)): ∀x∈l,P x:=by
 intro x hx;obtain⟨i,hi,e⟩:=List.mem_iff_getElem.1 hx
 have:=h (i:Int) ⟨by omega,by omega⟩
 rw[P2 hi,e]at this;exact this
theorem D8.ww{w:C8}{E:Int}{n:Nat}(G:D8 w E n)(hE:E≤1000000000)(hn:n≤1000000000):Ano w:=by
 have I:=G.inv
 have P:=Ala.1 I.pool;obtain⟨b1,b2,b3,b4,b5,b6⟩:=Gx I.conf
 have h1:=Blo w
 have h2:=Bdy w
 have h3:=G.wt
 have hm:=Au9 (a:=w.fC.Az) (b:=w.fC.Hi) (m:=12) (n:=16) (by omega) b1.2 (by omega) b2.2
 refine⟨Blp I.conf,⟨⟨G.mem,by have:=P.mem;omega⟩,?_,?_⟩,⟨A7u fun k hk=>A2p (I.node k hk) (G.ep k hk) hE,by have:=I.len;omega⟩,⟨fun x hx=>Bou (I.wrec x hx).1,by omega⟩,?_⟩
 ·exact Avz (A7u fun k hk=>by have:=(P.one k (by rw[P.st]at hk;exact hk)).1;omega) (by have:=P.st;omega)
 ·refine Avz (A7u fun k hk=> ?_) (by have:=P.own;omega)
  obtain⟨o1,o2,o3,o4⟩:=P.one k (by rw[P.own]at hk;exact hk)
  by_cases e:gt w.fP.Vt k=1
  ·have:=o2 e;omega
  ·have:=o3 e;omega
 ·exact Avz (fun x hx=>by have:=A7t I.log x hx;omega) (by omega)
theorem Bam{w:C8}(I:Inv w)(p:Dp)(q:List A1)(lg:List Int)(hp:A6b w.fC p)
  (ho: ∀c,0≤c∧c<w.fC.Az->(gt p.Vt c=1 ↔ gt w.fP.Vt c=1)∧gt p.Pn c=gt w.fP.Pn c)
  (hl: ∀k,0≤k∧k<(w.fL.length:Int)->Aru w.fC p.Pm (gt w.fL k)=true)
  (hq:Awv q=Awv w.fQ) (hs:slL q=slL w.fQ)
  (hr: ∀x∈q,Ana w.fC x=true∧Ape (C8.mk w.fC p w.fL q lg) x=true)
  (hn:(chL q).Nodup) (hc: ∀c,c∈chL q ↔ (0≤c∧c<w.fC.Az)∧gt p.Vt c=2)
  (hg:lg.all (fun x=>inB x 0 255)=true):Inv (C8.mk w.fC p w.fL q lg):=by
 refine⟨Ala.2 hp,I.len,I.node,fun k hk c=> ?_,fun k hk=> ?_,?_,hr,hn,hc,?_,?_,hg⟩
 ·rw[I.own k hk c];refine and_congr_right fun a=> ?_;obtain⟨h1,h2⟩:=ho c a
  show _ ↔ gt p.Vt c=1∧gt p.Pn c=k;rw[h1,h2]
 ·obtain⟨t1,t2,_⟩:=I.thing k hk;exact⟨t1,t2,hl k hk⟩
 ·obtain⟨t,A,F⟩:=I.forest;refine⟨t,A,?_⟩
  show Ak4 _ t (Awv q);rw[hq];exact F
 ·show(slL q).Nodup;rw[hs];exact I.sln
 ·show ∀s,s∈slL q ↔ _;rw[hs];exact I.sli
theorem gt0{α:Type}[Inhabited α](x:α)(l:List α):gt (x::l) 0=x:=rfl
theorem A3m{mem:List Int}{a n:Nat}:Ap3 ((mem.drop a).take n)=true ↔ ∀j:Nat,a≤j->j<a+n->j<mem.length->gt mem (j:Int)=0:=by
 unfold Ap3;rw[Z1];constructor
 ·intro h j h1 h2 h3;rw[P2 h3]
  have:mem[j]∈(mem.drop a).take n:=by
   rw[List.mem_iff_getElem];refine⟨j - a,by simp;omega,?_⟩
   simp only[List.getElem_take,List.getElem_drop]
   congr 1;omega
  simpa using h _ this
 ·intro h x hx;obtain⟨i,hi,e⟩:=List.mem_iff_getElem.1 hx;simp only[List.length_take,List.length_drop]at hi;simp only[List.getElem_take,List.getElem_drop]at e
  have:=h (a+i) (by omega) (by omega) (by omega)
  rw[P2 (by omega),e]at this
  simpa using this
def Az8 (mem:List Int)(a n:Nat):List Int:=(List.range mem.length).map fun(j:Nat)=>if a≤j∧j<a+n then(0:Int)else gt mem (j:Int)
theorem At0 (mem:List Int)(a n:Nat):(Az8 mem a n).length=mem.length:=by simp[Az8]
theorem A32{mem:List Int}{a n j:Nat}(h:j<mem.length):gt (Az8 mem a n) (j:Int)=if a≤j∧j<a+n then 0 else gt mem (j:Int):=by
 rw[P2 (by rw[At0];exact h)]
 simp[Az8]
theorem Blq (mem:List Int)(a:Nat):Az8 mem a 0=mem:=by
 refine List.ext_getElem (At0 _ _ _) fun j h1 h2=> ?_
 have:=A32 (mem:=mem) (a:=a) (n:=0) h2;rw[if_neg (by omega),P2 h1,P2 h2]at this
 exact this
theorem Blr{mem:List Int}{a i:Nat}:(Az8 mem a i).set (a+i) 0=Az8 mem a (i+1):=by
 refine List.ext_getElem (by rw[Z49,At0,At0]) fun j h1 h2=> ?_
 rw[Z49,At0]at h1
 have e1:=A32 (mem:=mem) (a:=a) (n:=i) h1
 have e2:=A32 (mem:=mem) (a:=a) (n:=i+1) h1;rw[P2 (by rw[At0];exact h1)]at e1 e2
 rw[List.getElem_set,e1,e2]
 by_cases q:a+i=j
 ·rw[if_pos q,if_pos (by omega)]
 ·rw[if_neg q]
  by_cases r:a≤j∧j<a+i
  ·rw[if_pos r,if_pos (by omega)]
  ·rw[if_neg r,if_neg (by omega)]
theorem Bg9{mem:List Int}{a n b m:Nat}(h:Ap3 ((mem.drop b).take m)=true):Ap3 (((Az8 mem a n).drop b).take m)=true:=by
 rw[A3m]at h ⊢;intro j h1 h2 h3;rw[At0]at h3;rw[A32 h3];split
 ·rfl
 ·exact h j h1 h2 h3
theorem Bcb{mem:List Int}{a d n m:Nat}(h:Ap3 ((mem.drop a).take d)=true)(hm:m≤d+n):Ap3 (((Az8 mem (a+d) n).drop a).take m)=true:=by
 rw[A3m]at h ⊢;intro j h1 h2 h3;rw[At0]at h3;rw[A32 h3];split
 ·rfl
 ·exact h j h1 (by omega) h3
section
variable {K:Nat} (hK:281474976710656≤K)
include hK
theorem Bha{mem:List Int}(hl:mem.length≤1000000){a n:Int}(ha:0≤a∧a≤1000000)(hn:0≤n)(hs:a+n≤mem.length):A1k K mem a n=some (Az8 mem a.toNat n.toNat):=by
 have hm:=Wx;obtain⟨A,rfl⟩: ∃A:Nat,a=A:=⟨a.toNat,by omega⟩
 obtain⟨N,rfl⟩: ∃N:Nat,n=N:=⟨n.toNat,by omega⟩
 simp only[Int.toNat_natCast]
 have key: ∀(f i:Nat),i≤N->N - i<f->Awn K mem A N f (Az8 mem A i) ((A+i:Nat):Int)=some (Az8 mem A N):=by
  intro f
  induction f with
  |zero=>intro i _ h;omega
  |succ f ih=>
   intro i hi hf;rw[Awn]
   have e:An8 .i64 ((A+i:Nat):Int) A=i:=by unfold An8;rw[Ht (by omega) (by omega)];omega
   rw[e]
   by_cases q:i=N
   ·subst q;rw[Afn (Z9 _)];simp only[cond_false];cases decide (((A+i:Nat):Int)<(mem.length:Int))<;>rfl
   ·rw[Ae4 (by omega),Ae4 (by omega),cond_true,cond_true,At0,if_pos ⟨by omega,by omega⟩,Aep (by omega),Int.toNat_natCast,Blr]
    exact ih (i+1) (by omega) (by omega)
 unfold A1k;rw[Zl,if_pos ⟨by omega,by omega⟩,decide_eq_false (by omega),decide_eq_false (by omega)]
 simp only[cond_false]
 have:=key K 0 (by omega) (by omega)
 rw[Blq]at this;exact this
end
theorem Az0{w:C8}(I:Inv w){x qs}(hq:w.fQ=x::qs):Ana w.fC x=true∧Ape w x=true:=I.wrec x (by rw[hq];exact List.mem_cons_self)
structure Bov (c:Eb)(x:A1):Prop where
 conf:Ai0 c=true
 slot:0≤x.Bk∧x.Bk≤c.Fb
 first:0≤x.Eg∧x.Eg≤c.Fb
 ntag:x.Fo.length≤6
 tags: ∀y∈x.Fo,0≤y∧y≤255
 dist:At2 c x.Az=true
 done:0≤x.Xa∧x.Xa≤c.Hi - 1
 zero:x.Az=[]->x.Xa=0
theorem Azv{c:Eb}{x:A1}:Ana c x=true ↔ Bov c x:=by
 unfold Ana;simp only[Z4,Ael,decide_eq_true_eq,Bool.or_eq_true,beq_iff_eq,Z1];constructor
 ·rintro⟨a,b,c,d,e,f,g,h⟩;refine⟨a,b,c,by omega,e,f,g,fun q=> ?_⟩
  rw[q]at h;rcases h with h|h
  ·simp at h
  ·exact h
 ·intro h;refine⟨h.conf,h.slot,h.first,by have:=h.ntag;omega,h.tags,h.dist,h.done,?_⟩
  by_cases q:x.Az=[]
  ·exact .inr (h.zero q)
  ·exact .inl (by have:=List.length_pos_iff.2 q;omega)
def Bls (x:A1):A1:=A1.mk x.Bk x.Eg (x.Fo.take (x.Fo.length - 1)) x.Az x.Xa
def A47 (w:C8)(x:A1)(qs:List A1):C8:=C8.mk w.fC w.fP w.fL (Bls x::qs) (w.Adf++[gt x.Fo ((x.Fo.length - 1:Nat):Int)])
theorem Bue (K:Nat){w:C8}{x:A1}{qs:List A1}(hq:w.fQ=x::qs)(h0:0<x.Fo.length)(h6:x.Fo.length≤6)(hl:w.Adf.length≤1000000000):Azf K w=some (A47 w x qs):=by
 have hm:=Wx;unfold Azf;rw[hq,gt0]
 have e:An8 .i64 (x.Fo.length:Int) 1=((x.Fo.length - 1:Nat):Int):=by rw[sb1 (by omega) (by omega)];omega
 rw[e,if_pos ⟨by omega,by simp⟩,if_pos ⟨by omega,by omega⟩,if_pos ⟨by simp;omega,by simp;omega⟩,if_pos ⟨by omega,by omega,by omega⟩,A5h,Zl,if_pos ⟨by simp;omega,by simp;omega⟩]
 rfl
theorem Blt{l:List Int}{n:Nat}{P:Int->Prop}(h: ∀y∈l,P y): ∀y∈l.take n,P y:=fun y hy=>h y (Zm hy)
theorem Bow{w:C8}(I:Inv w){x:A1}{qs:List A1}(hq:w.fQ=x::qs)(h0:0<x.Fo.length):Inv (A47 w x qs):=by
 have R:=Azv.1 (Az0 I hq).1
 have e1:chL (Bls x::qs)=chL w.fQ:=by rw[hq];rfl
 refine Bam I w.fP _ _ (Ala.1 I.pool) (fun c _=>⟨Iff.rfl,rfl⟩) (fun k hk=>(I.thing k hk).2.2) (by rw[hq];rfl) (by rw[hq];rfl) (fun y hy=> ?_) (by rw[e1];exact I.chn) (fun c=>by rw[e1];exact I.chi c) ?_
 ·rcases Di.1 hy with e|e
  ·subst e;refine⟨Azv.2 ⟨R.conf,R.slot,R.first,?_,Blt R.tags,R.dist,R.done,R.zero⟩,(Az0 I hq).2⟩
   have:=R.ntag
   show(x.Fo.take _).length≤6;simp;omega
  ·exact I.wrec y (by rw[hq];exact Z56 _ e)
 ·rw[List.all_append,I.log]
  have:=R.tags _ (Apg (show x.Fo.length - 1<x.Fo.length by omega))
  simp[Ael,this]
def Aqe (w:C8)(x:A1):Int:=if w.fC.Hi<x.Xa+w.fC.Fc then w.fC.Hi else x.Xa+w.fC.Fc
def Ban (w:C8)(x:A1):List Int:=Az8 w.fP.Pm (gt x.Az 0*w.fC.Hi+x.Xa).toNat (Aqe w x - x.Xa).toNat
def A6c (w:C8)(x:A1):Dp:=Dp.mk (Ban w x) (if Aqe w x<w.fC.Hi then w.fP.Vt else w.fP.Vt.set (gt x.Az 0).toNat 0) w.fP.Pn
def A2w (w:C8)(x:A1):A1:=if Aqe w x<w.fC.Hi then A1.mk x.Bk x.Eg x.Fo x.Az (Aqe w x)else A1.mk x.Bk x.Eg x.Fo (x.Az.drop 1) 0
def A1f (w:C8)(x:A1)(qs:List A1):C8:=C8.mk w.fC (A6c w x) w.fL (A2w w x::qs) w.Adf
structure Bqv (w:C8)(x:A1):Prop where
 rc:Bov w.fC x
 k:0≤gt x.Az 0∧gt x.Az 0<w.fC.Az
 st:gt w.fP.Vt (gt x.Az 0)=2
 at0:0≤gt x.Az 0*w.fC.Hi
 at1:gt x.Az 0*w.fC.Hi+w.fC.Hi≤(w.fP.Pm.length:Int)
 len:w.fP.Pm.length≤192
 to:x.Xa<Aqe w x∧Aqe w x≤w.fC.Hi
 zero:Ap3 ((w.fP.Pm.drop (gt x.Az 0*w.fC.Hi).toNat).take x.Xa.toNat)=true
theorem A5p{c:Eb}{p:Dp}(P:A6b c p):p.Pm.length≤192:=by
 obtain⟨b1,b2,_⟩:=Gx P.conf
 have hm:=Au9 (a:=c.Az) (b:=c.Hi) (m:=12) (n:=16) (by omega) b1.2 (by omega) b2.2
 have:=P.mem;omega
theorem Bdz{w:C8}(I:Inv w){x:A1}{qs:List A1}(hq:w.fQ=x::qs)(hc:0<x.Az.length):Bqv w x:=by
 have R:=Azv.1 (Az0 I hq).1
 have P:=Ala.1 I.pool
 have hx:x∈w.fQ:=by rw[hq];exact List.mem_cons_self
 have hm:gt x.Az 0∈x.Az:=Apg (i:=0) hc
 have h1:=(I.chi _).1 (Bai hx hm);obtain⟨_,_,e3,e4⟩:=A12 I.conf P.mem h1.1.1 h1.1.2;obtain⟨b1,b2,b3,b4,b5,b6⟩:=Gx I.conf
 have hd:=R.done;refine⟨R,h1.1,h1.2,e3,e4,A5p P,?_,?_⟩
 ·unfold Aqe;split<;>omega
 ·have:=(Az0 I hq).2;unfold Ape at this;rw[decide_eq_true (by omega)]at this
  exact this
section
variable {K:Nat} (hK:281474976710656≤K)
include hK
theorem Bcc{w:C8}(hw:Ay4 w.fP)(hp:Ava w.fC w.fP=true){x:A1}(X:Bqv w x):Aw2 K w.fC w.fP (gt x.Az 0) x.Xa=some (A6c w x,!decide (Aqe w x<w.fC.Hi)):=by
 obtain⟨b1,b2,b3,b4,b5,b6⟩:=Gx X.rc.conf
 have P:=Ala.1 hp;obtain⟨e1,e2,e3,e4⟩:=A12 X.rc.conf P.mem X.k.1 X.k.2
 have hd:=X.rc.done
 have ht:=X.to
 have hl:=X.len
 have hk:=X.k
 have es:An7 .i64 x.Xa w.fC.Fc=x.Xa+w.fC.Fc:=by unfold An7;exact Ht (by omega) (by omega)
 have el:A0a K (x.Xa+w.fC.Fc) w.fC.Hi=some (Aqe w x):=by
  unfold A0a Aqe
  by_cases q:w.fC.Hi<x.Xa+w.fC.Fc
  ·rw[decide_eq_true q,if_pos q];rfl
  ·rw[decide_eq_false q,if_neg q];rfl
 have ea:An7 .i64 (gt x.Az 0*w.fC.Hi) x.Xa=gt x.Az 0*w.fC.Hi+x.Xa:=by unfold An7;exact Ht (by omega) (by omega)
 have en:An8 .i64 (Aqe w x) x.Xa=Aqe w x - x.Xa:=by unfold An8;exact Ht (by omega) (by omega)
 unfold Aw2;rw[A1s K hw,A5y hK,hp,Aoh,Ay7 hK X.rc.conf,Ael.2 ⟨by omega,by omega⟩,Aoh,A5l X.rc.conf,Ael.2 hd,es,el,e1,ea]
 simp only[Z0,cond_true,Bool.not_true,cond_false];rw[en,Bha hK (by omega) ⟨by omega,by omega⟩ (by omega) (by omega)]
 simp only[Z0,e2];rw[if_pos ⟨hk.1,by rw[P.st];exact hk.2⟩,X.st]
 simp only[bne_self_eq_false,cond_false];unfold A6c
 by_cases q:Aqe w x<w.fC.Hi
 ·rw[decide_eq_true q,if_pos q];rfl
 ·rw[decide_eq_false q,if_neg q];simp only[cond_false,Bool.not_false];rw[if_pos ⟨by omega,by omega,by show _≤((Az8 _ _ _).length:Int);rw[At0];exact e4⟩]
  have hz:Ap3 (((Az8 w.fP.Pm (gt x.Az 0*w.fC.Hi+x.Xa).toNat (Aqe w x - x.Xa).toNat).drop (gt x.Az 0*w.fC.Hi).toNat).take (gt x.Az 0*w.fC.Hi+w.fC.Hi - gt x.Az 0*w.fC.Hi).toNat)=true:=by
   rw[show(gt x.Az 0*w.fC.Hi+x.Xa).toNat=(gt x.Az 0*w.fC.Hi).toNat+x.Xa.toNat by omega]
   exact Bcb X.zero (by omega)
  rw[A1p hK _ (by simp[At0];omega),hz]
  simp only[Z0,Bool.not_true,cond_false];rw[if_pos ⟨hk.1,by rw[P.st];exact hk.2⟩]
  rfl
theorem Box{w:C8}(I:Inv w)(hw:Ay4 w.fP){x:A1}{qs:List A1}(hq:w.fQ=x::qs)(hc:0<x.Az.length):Ax6 K w=some (A1f w x qs):=by
 have hm:=Wx
 have X:=Bdz I hq hc
 have hlen:=Asi X.rc.conf X.rc.dist;obtain⟨b1,b2,b3,b4,b5,b6⟩:=Gx X.rc.conf
 have hd:=X.rc.done;unfold Ax6;rw[hq,gt0,if_pos ⟨by omega,by simp⟩,if_pos ⟨by omega,by omega⟩,Bcc hK hw I.pool X,Z0]
 simp only;unfold A1f A2w
 by_cases q:Aqe w x<w.fC.Hi
 ·rw[decide_eq_true q,if_pos q]
  have es:An7 .i64 x.Xa w.fC.Fc=Aqe w x:=by
   have ht:=X.to;unfold Aqe at q ⊢;split at q
   ·omega
   ·rename_i r;rw[if_neg r];unfold An7;exact Ht (by omega) (by omega)
  rw[es];rfl
 ·rw[decide_eq_false q,if_neg q]
  have et:(x.Az.drop (1:Int).toNat).take ((x.Az.length:Int) - 1).toNat=x.Az.drop 1:=by
   rw[show(1:Int).toNat=1 from rfl]
   exact List.take_of_length_le (by simp)
  simp only[Bool.not_false,cond_true];rw[if_pos ⟨by omega,by omega,by omega⟩,et,Zl,if_pos ⟨by simp;omega,by simp;omega⟩]
  rfl
end
theorem A2b{c:Eb}{l:List Int}:At2 c l=true ↔ l.Nodup∧ ∀x∈l,0≤x∧x<c.Az:=by
 constructor
 ·intro h;exact⟨Aza h,Axn h⟩
 ·rintro⟨h1,h2⟩;unfold At2;rw[Z1];intro i hi;rw[List.mem_range]at hi;rw[Z4,Ael,P2 hi]
  have:=h2 _ (List.getElem_mem hi);refine⟨by omega,?_⟩
  have hn:=A4b.1 h1 i hi;simpa using hn
theorem Bhb{c:Eb}{l:List Int}{n:Nat}(h:At2 c l=true):At2 c (l.drop n)=true:=by
 rw[A2b]at h ⊢;exact⟨h.1.sublist (List.drop_sublist _ _),fun x hx=>h.2 x (List.mem_of_mem_drop hx)⟩
theorem Blu{w:C8}{x:A1}(h: ∀y∈w.fP.Pm,0≤y∧y≤255): ∀y∈Ban w x,0≤y∧y≤255:=by
 refine A7u fun k hk=> ?_;unfold Ban at hk ⊢;rw[At0]at hk;obtain⟨j,rfl⟩: ∃j:Nat,k=j:=⟨k.toNat,by omega⟩
 rw[A32 (by omega)]
 split
 ·omega
 ·exact h _ (Apg (by omega))
theorem Blv{w:C8}(I:Inv w){x:A1}{qs:List A1}(hq:w.fQ=x::qs)(hc:0<x.Az.length):Inv (A1f w x qs):=by
 have X:=Bdz I hq hc
 have P:=Ala.1 I.pool
 have hk:=X.k
 have hd:=X.rc.done
 have ht:=X.to
 have hxq:x∈w.fQ:=by rw[hq];exact List.mem_cons_self
 have hst: ∀c,0≤c∧c<w.fC.Az->gt (A6c w x).Vt c=if c=gt x.Az 0∧ ¬Aqe w x<w.fC.Hi then 0 else gt w.fP.Vt c:=by
  intro c h
  show gt (if Aqe w x<w.fC.Hi then w.fP.Vt else w.fP.Vt.set (gt x.Az 0).toNat 0) c=_
  by_cases q:Aqe w x<w.fC.Hi
  ·rw[if_pos q,if_neg (fun r=>r.2 q)]
  ·rw[if_neg q,A2a hk.1 (by rw[P.st];exact h)]
   by_cases r:c=gt x.Az 0
   ·rw[if_pos r,if_pos ⟨r,q⟩]
   ·rw[if_neg r,if_neg (fun s=>r s.1)]
 have hz: ∀b m,Ap3 ((w.fP.Pm.drop b).take m)=true->Ap3 (((A6c w x).Pm.drop b).take m)=true:=fun b m h=>Bg9 h
 have hN:(gt x.Az 0*w.fC.Hi+x.Xa).toNat=(gt x.Az 0*w.fC.Hi).toNat+x.Xa.toNat:=by have:=X.at0;omega
 have hall: ∀m:Nat,m≤(Aqe w x).toNat->Ap3 (((A6c w x).Pm.drop (gt x.Az 0*w.fC.Hi).toNat).take m)=true:=by
  intro m h
  show Ap3 (((Az8 _ _ _).drop _).take m)=true;rw[hN];exact Bcb X.zero (by omega)
 have hlen:(A6c w x).Pm.length=w.fP.Pm.length:=At0 _ _ _
 have hcons:x.Az=gt x.Az 0::x.Az.drop 1:=by
  cases h:x.Az with
  |nil=>rw[h]at hc;simp at hc
  |cons a l=>rfl
 have hnd:=Aza X.rc.dist
 have hch:chL w.fQ=x.Az++chL qs:=by rw[hq];rfl
 have hn:=I.chn;rw[hch]at hn
 have hchi:=I.chi;rw[hch]at hchi;unfold A1f;refine Bam I (A6c w x) _ _ ⟨P.conf,by rw[hlen];exact P.mem,?_,P.own,fun c h=> ?_⟩ (fun c h=>⟨?_,rfl⟩) (fun k h=> ?_) ?_ ?_ (fun y hy=> ?_) ?_ (fun c=> ?_) I.log
 ·show((if Aqe w x<w.fC.Hi then w.fP.Vt else w.fP.Vt.set (gt x.Az 0).toNat 0).length:Int)=_
  split
  ·exact P.st
  ·rw[Z49];exact P.st
 ·obtain⟨p1,p2,p3,p4⟩:=P.one c h;rw[hst c h]
  show _∧(_->0≤gt w.fP.Pn c∧_)∧(_->gt w.fP.Pn c= -1)∧_
  by_cases q:c=gt x.Az 0∧ ¬Aqe w x<w.fC.Hi
  ·rw[if_pos q];refine⟨by omega,fun f=>by omega,fun _=>p3 (by rw[q.1,X.st];decide),fun _=> ?_⟩
   unfold At7;rw[q.1];exact hall _ (by omega)
  ·rw[if_neg q];exact⟨p1,p2,p3,fun f=>hz _ _ (p4 f)⟩
 ·rw[hst c h];split
  ·rename_i q;rw[q.1,X.st];decide
  ·rfl
 ·have:=(I.thing k h).2.2;unfold Aru at this ⊢;rw[Bool.or_eq_true,Z4]at this ⊢;rcases this with a|⟨a,b⟩
  ·exact .inl a
  ·exact .inr ⟨hz _ _ a,b⟩
 ·rw[hq];unfold A2w Awv;split<;>rfl
 ·rw[hq];unfold A2w slL;split<;>rfl
 ·rcases Di.1 hy with e|e
  ·subst e;unfold A2w
   by_cases q:Aqe w x<w.fC.Hi
   ·rw[if_pos q];refine⟨Azv.2 ⟨X.rc.conf,X.rc.slot,X.rc.first,X.rc.ntag,X.rc.tags,X.rc.dist,⟨by show 0≤Aqe w x;omega,by show Aqe w x≤_;omega⟩,fun f=> ?_⟩,?_⟩
    ·have f:x.Az=[]:=f;rw[f]at hc;simp at hc
    ·unfold Ape;rw[Bool.or_eq_true];exact .inr (hall _ (Z9 _))
   ·rw[if_neg q];refine⟨Azv.2 ⟨X.rc.conf,X.rc.slot,X.rc.first,X.rc.ntag,X.rc.tags,?_,⟨Int.le_refl _,by show(0:Int)≤_;omega⟩,fun _=>rfl⟩,?_⟩
    ·exact Bhb X.rc.dist
    ·unfold Ape;rw[Bool.or_eq_true];exact .inr rfl
  ·obtain⟨a,b⟩:=I.wrec y (by rw[hq];exact Z56 _ e)
   refine⟨a,?_⟩;unfold Ape at b ⊢;rw[Bool.or_eq_true]at b ⊢;rcases b with b|b
   ·exact .inl b
   ·exact .inr (hz _ _ b)
 ·show((A2w w x).Az++chL qs).Nodup;unfold A2w;split
  ·exact hn
  ·rw[hcons]at hn;exact(List.nodup_cons.1 hn).2
 ·show c∈(A2w w x).Az++chL qs ↔ _;rw[hcons,Qe]at hn
  have hni:=(List.nodup_cons.1 hn).1
  have hci:=hchi c;rw[hcons,Qe,Di]at hci;unfold A2w
  by_cases q:Aqe w x<w.fC.Hi
  ·rw[if_pos q]
   show c∈x.Az++chL qs ↔ _;rw[hchi c];refine and_congr_right fun a=> ?_;rw[hst c a,if_neg (fun r=>r.2 q)]
  ·rw[if_neg q]
   show c∈x.Az.drop 1++chL qs ↔ _;constructor
   ·intro h;obtain⟨a,b⟩:=hci.1 (.inr h);refine⟨a,?_⟩;rw[hst c a,if_neg]
    ·exact b
    ·rintro⟨r,_⟩;rw[r]at h;exact hni h
   ·rintro⟨a,b⟩;rw[hst c a]at b;split at b
    ·omega
    ·rename_i r;rcases hci.2 ⟨a,b⟩with e|e
     ·exact absurd ⟨e,q⟩ r
     ·exact e
def Bhc (g n:Au)(k x:Int):Au:=lnk n (if g.S8=0∧x+1=g.fUp∧n.Eg=k+1 then g.S7 else n.Eg) (if x+1=g.S8 then g.S7 else n.S7) (if x+1=g.S7 then g.S8 else n.S8)
theorem Bfd{l l':List Au}{t:Int->Lk}(A:AtT l t){k:Int}(hk:0≤k∧k<(l.length:Int))(hN:l'.length=l.length)(hg: ∀x,0≤x∧x<(l.length:Int)->x≠k->gt l' x=Bhc (gt l k) (gt l x) k x){gn:Int}(hb:gt l' k=Aqt 2 gn):AtT l' (rem t k):=by
 intro x hx;rw[hN]at hx
 by_cases e:x=k
 ·subst e;rw[A42,hb];rfl
 ·rw[Anb e,hg x hx e,A x hx,A k hk];rfl
theorem Blw{w:C8}(I:Inv w){t:Int->Lk}(A:AtT w.fL t)(F:Ak4 w.fL.length t (Awv w.fQ)){k:Int}(hl:Lv w.fL.length t k)(l':List Au)(q':List A1)(hN:l'.length=w.fL.length)
  (hg: ∀x,0≤x∧x<(w.fL.length:Int)->x≠k->gt l' x=Bhc (gt w.fL k) (gt w.fL x) k x) (hb:gt l' k=Aqt 2 (gt w.fL k).Dc)
  (F':Ak4 w.fL.length (rem t k) (Awv q')) (hr: ∀x∈q',Ana w.fC x=true∧Ape w x=true)
  (hcn:(chL q').Nodup) (hci: ∀c,c∈chL q' ↔ c∈chL w.fQ++(gt w.fL k).Az) (hsn:(slL q').Nodup) (hsi: ∀s,s∈slL q' ↔ s∈slL w.fQ∨s=k):
  Inv (C8.mk w.fC (Ai3 w.fP (gt w.fL k).Az) l' q' w.Adf):=by
 have hk:=hl.1
 have P:=I.live A hl;obtain⟨L1,L2,L3⟩:=A0t I hk;refine⟨Ala.2 L1,by show(l'.length:Int)=_;rw[hN];exact I.len,fun x hx=> ?_,fun x hx c=> ?_,fun x hx=> ?_,⟨rem t k,Bfd A hk hN hg hb,?_⟩,fun x hx=> ?_,hcn,fun c=> ?_,hsn,fun s=> ?_,I.log⟩
 ·have hx:0≤x∧x<(l'.length:Int):=hx;rw[hN]at hx
  show Aq2 w.fC (gt l' x)=true
  by_cases e:x=k
  ·rw[e,hb];exact A31 I.conf (by omega) (by omega) P.gen
  ·rw[hg x hx e];obtain⟨a1,a2,a3,a4⟩:=A4j (I.node k hk)
   by_cases hs:(gt w.fL x).Vt=1
   ·have X:=Aje.1 ⟨I.node x hx,hs⟩;refine(Aje.2 (A7q X ?_ ?_ ?_)).1
    ·split
     ·exact a3
     ·exact X.first
    ·split
     ·exact a3
     ·exact X.next
    ·split
     ·exact a4
     ·exact X.prev
   ·have X:=Ayz (I.node x hx) hs
    have B:=(A7j F.tree hl).bare x hx.1 hx.2 (by rw[Anb e,A x hx];simpa[A3i]using hs)
    rw[Anb e,A x hx,A k hk]at B;obtain⟨_,B2,B3,B4⟩:=B
    have q1:(if(gt w.fL k).S8=0∧x+1=(gt w.fL k).fUp∧(gt w.fL x).Eg=k+1 then(gt w.fL k).S7 else(gt w.fL x).Eg)=0:=B2
    have q2:(if x+1=(gt w.fL k).S8 then(gt w.fL k).S7 else(gt w.fL x).S7)=0:=B3
    have q3:(if x+1=(gt w.fL k).S7 then(gt w.fL k).S8 else(gt w.fL x).S8)=0:=B4
    have this:lnk (gt w.fL x) 0 0 0=gt w.fL x:=by rw[X];rfl
    unfold Bhc;rw[q1,q2,q3,this];exact I.node x hx
 ·have hx:0≤x∧x<(l'.length:Int):=hx;rw[hN]at hx
  show c∈(gt l' x).Az ↔ (0≤c∧c<w.fC.Az)∧gt (Ai3 w.fP (gt w.fL k).Az).Vt c=1∧gt (Ai3 w.fP (gt w.fL k).Az).Pn c=x
  by_cases e:x=k
  ·rw[e,hb];constructor
   ·intro q;cases q
   ·rintro⟨a,b,d⟩;rw[(L3 c a).1]at b;rw[(L3 c a).2]at d;split at b
    ·omega
    ·rename_i q;rw[if_neg q]at d;exact absurd ((I.own k hk c).2 ⟨a,b,by omega⟩) q
  ·rw[hg x hx e]
   show c∈(gt w.fL x).Az ↔ _;rw[I.own x hx c];constructor
   ·rintro⟨a,b,d⟩
    have q:c ∉ (gt w.fL k).Az:=fun q=>e (by have:=((I.own k hk c).1 q).2.2;omega)
    rw[(L3 c a).1,(L3 c a).2,if_neg q,if_neg q];exact⟨a,b,d⟩
   ·rintro⟨a,b,d⟩;rw[(L3 c a).1]at b;rw[(L3 c a).2]at d;split at b
    ·omega
    ·rename_i q;rw[if_neg q]at d;exact⟨a,b,d⟩
 ·have hx:0≤x∧x<(l'.length:Int):=hx;rw[hN]at hx
  show(gt l' x).Ga.all (Arw w.fC (gt l' x).Az)=true∧Apd (gt l' x).Ga=true∧Aru w.fC (Ai3 w.fP (gt w.fL k).Az).Pm (gt l' x)=true
  by_cases e:x=k
  ·rw[e,hb];exact⟨rfl,rfl,rfl⟩
  ·rw[hg x hx e];obtain⟨t1,t2,t3⟩:=I.thing x hx;refine⟨t1,t2,?_⟩;rw[L2];exact t3
 ·show Ak4 (l'.length:Int) _ (Awv q');rw[hN];exact F'
 ·obtain⟨a,b⟩:=hr x hx;refine⟨a,?_⟩;unfold Ape at b ⊢
  show(_||Ap3 (((Ai3 w.fP (gt w.fL k).Az).Pm.drop (gt x.Az 0*w.fC.Hi).toNat).take x.Xa.toNat))=true
  rw[L2];exact b
 ·show c∈chL q' ↔ _;rw[hci c];exact Bak I hk c
 ·show s∈slL q' ↔ (0≤s∧s<(l'.length:Int))∧(gt l' s).Vt=2;rw[hsi s,hN,I.sli];constructor
  ·rintro(⟨a,b⟩|a)
   ·refine⟨a,?_⟩
    have e:s≠k:=fun e=>by rw[e,P.st]at b;cases b
    rw[hg s a e];exact b
   ·rw[a,hb];exact⟨hk,rfl⟩
  ·rintro⟨a,b⟩
   by_cases e:s=k
   ·exact .inr e
   ·rw[hg s a e]at b;exact .inl ⟨a,b⟩
def A2c (l:List Au)(g:Int):List Au:=((bif plB l (gt l g).S7 then l.set ((gt l g).S7 - 1).toNat (Bk4 (gt l ((gt l g).S7 - 1)) 0)else l).set g.toNat (Aqt 2 (gt l g).Dc))
def Bcd (l:List Au)(x:A1):A1:=A1.mk x.Bk (gt l (x.Eg - 1)).S7 x.Fo x.Az x.Xa
def A1g (w:C8)(x:A1)(qs:List A1):C8:=
 C8.mk w.fC (Ai3 w.fP (gt w.fL (x.Eg - 1)).Az) (A2c w.fL (x.Eg - 1)) (Ag5 (gt w.fL (x.Eg - 1)) x.Eg::Bcd w.fL x::qs) w.Adf
theorem Bce (l:List Au)(g:Int):(A2c l g).length=l.length:=by
 unfold A2c;rw[Z49];cases plB l (gt l g).S7<;>simp
theorem Bfe{l:List Au}(R:Rg l){g x:Int}(hg:0≤g∧g<(l.length:Int))(hx:0≤x∧x<(l.length:Int))(hne:x≠g)(hp:(gt l g).S8=0)(hf: ¬(x+1=(gt l g).fUp∧(gt l x).Eg=g+1)):gt (A2c l g) x=Bhc (gt l g) (gt l x) g x:=by
 obtain⟨r1,r2,r3,r4⟩:=R.rg g hg
 have hl:=R.len;unfold A2c Bhc;rw[Bb9 r3.1 r3.2 hl,hp,if_neg (fun q=>hf q.2),if_neg (by omega: ¬x+1=0)]
 by_cases h:(gt l g).S7=0
 ·rw[h];simp only[beq_self_eq_true,Bool.not_true,cond_false];rw[Ap8 hg hx,if_neg hne,if_neg (by omega)];rfl
 ·rw[Ah0 h];simp only[Bool.not_false,cond_true];rw[Ap8 (by rw[Z49];exact hg) (by rw[Z49];exact hx),if_neg hne,Ap8 (by omega) hx]
  by_cases e:x=(gt l g).S7 - 1
  ·rw[if_pos e,if_pos (by omega),←e];rfl
  ·rw[if_neg e,if_neg (by omega)];rfl
theorem Bff{l:List Au}{g:Int}(hg:0≤g∧g<(l.length:Int)):gt (A2c l g) g=Aqt 2 (gt l g).Dc:=by
 unfold A2c;rw[Awf];cases plB l (gt l g).S7<;>simpa using hg
structure Bxo (w:C8)(t:Int->Lk)(x:A1)(qs:List A1):Prop where
 rc:Bov w.fC x
 lv:Lv w.fL.length t (x.Eg - 1)
 or:Oo w.fL.length t (x.Eg - 1)
 pv:(gt w.fL (x.Eg - 1)).S8=0
 fr:Ak4 w.fL.length (rem t (x.Eg - 1)) (Awv (Ag5 (gt w.fL (x.Eg - 1)) x.Eg::Bcd w.fL x::qs))
 nf: ∀y,0≤y∧y<(w.fL.length:Int)-> ¬(y+1=(gt w.fL (x.Eg - 1)).fUp∧(gt w.fL y).Eg=x.Eg - 1+1)
theorem Bao{w:C8}(I:Inv w){t:Int->Lk}(A:AtT w.fL t)(F:Ak4 w.fL.length t (Awv w.fQ)){x:A1}{qs:List A1}(hq:w.fQ=x::qs)(hf:x.Eg≠0):Bxo w t x qs:=by
 have R:=Azv.1 (Az0 I hq).1
 have hx:x∈w.fQ:=by rw[hq];exact List.mem_cons_self
 have hF:=R.first
 have e:x.Eg - 1+1=x.Eg:=by omega
 have F1:Ak4 w.fL.length t ((x.Bk,x.Eg - 1+1)::Awv qs):=by rw[e];rw[hq]at F;exact F
 obtain⟨h1,h2,h3⟩:=Bb5 F1 (by omega)
 have hin:=h1.1
 have hor:Oo w.fL.length t (x.Eg - 1):=F.kid.or (Inv.qs hx) (A43 hin)
 have hpv:(gt w.fL (x.Eg - 1)).S8=0:=by rw[A _ hin]at h2;exact h2
 refine⟨R,h1,hor,hpv,?_,?_⟩
 ·rw[A _ hin,e]at h3;exact h3
 ·rintro y hy ⟨a,b⟩
  have hup:(t (x.Eg - 1)).up=y+1:=by rw[A _ hin,a];rfl
  have hfi:(t y).fi=x.Eg:=by rw[A _ hy,←e,←b];rfl
  cases hlv:(t y).lv with
  |false=>
   have:=(F.tree.bare y hy.1 hy.2 hlv).2.1;omega
  |true=>
   have hY:Lv w.fL.length t y:=⟨hy,hlv⟩
   have:=(F.tree.link y hY).first (by omega)
   rw[hfi]at this;refine hor.2.2 ⟨?_,?_⟩
   ·rw[hup];simpa using hY
   ·rw[hup];simpa using this.2.2.2.symm
theorem Blx{w:C8}(I:Inv w){x:A1}{qs:List A1}(hq:w.fQ=x::qs)(hf:x.Eg≠0):Inv (A1g w x qs):=by
 obtain⟨t,A,F⟩:=I.forest
 have X:=Bao I A F hq hf
 have hk:=X.lv.1
 have hF:=X.rc.first
 have L:=I.live A X.lv;obtain⟨b1,b2,b3,b4,b5,b6⟩:=Gx I.conf
 have hch:chL w.fQ=x.Az++chL qs:=by rw[hq];rfl
 have hcn:=Baj I hk;rw[hch]at hcn
 have hsl:slL w.fQ=(if x.Bk=0 then []else [An8 .i64 x.Bk 1])++slL qs:=by rw[hq];rfl
 have hsn:=I.sln;rw[hsl]at hsn
 have e1:slL (Ag5 (gt w.fL (x.Eg - 1)) x.Eg::Bcd w.fL x::qs)=(x.Eg - 1)::((if x.Bk=0 then []else [An8 .i64 x.Bk 1])++slL qs):=by
  show(if x.Eg=0 then []else [An8 .i64 x.Eg 1])++_=_
  rw[if_neg hf,sb1 (by omega) (by omega)];rfl
 have hns:x.Eg - 1 ∉ slL w.fQ:=fun h=>by
  have:=((I.sli _).1 h).2
  have:=L.st;omega
 unfold A1g;refine Blw I A F X.lv _ _ (Bce _ _) (fun y hy hne=>Bfe I.rg hk hy hne X.pv (X.nf y hy)) (Bff hk) X.fr (fun y hy=> ?_) ?_ (fun c=> ?_) ?_ (fun s=> ?_)
 ·rcases Di.1 hy with e|e
  ·rw[e];exact⟨A3k L (by omega),A7r _ _ _⟩
  ·rcases Di.1 e with e|e
   ·rw[e];exact⟨Azv.2 ⟨X.rc.conf,X.rc.slot,L.next,X.rc.ntag,X.rc.tags,X.rc.dist,X.rc.done,X.rc.zero⟩,(Az0 I hq).2⟩
   ·exact I.wrec y (by rw[hq];exact Z56 _ e)
 ·show((gt w.fL (x.Eg - 1)).Az++(x.Az++chL qs)).Nodup;obtain⟨n1,n2,n3⟩:=Ai8.1 hcn;exact Ai8.2 ⟨n2,n1,fun z h1 h2=>n3 z h2 h1⟩
 ·rw[hch]
  show c∈(gt w.fL (x.Eg - 1)).Az++(x.Az++chL qs) ↔ _;rw[Gh,Gh (s:=x.Az++chL qs)];exact Or.comm
 ·rw[e1,←hsl];exact List.nodup_cons.2 ⟨hns,I.sln⟩
 ·rw[e1,←hsl,Di];exact Or.comm
def AlW (l:List Au)(k:Int):Prop:= ∃t,AtT l t∧Al l.length t k
structure A48 (w w':C8):Prop where
 conf:w'.fC=w.fC
 len:w'.fL.length=w.fL.length
 node: ∀k,AlW w.fL k->AlW w'.fL k∧(∃a b c,gt w'.fL k=lnk (gt w.fL k) a b c)∧ ∀n,Ai1 w'.fL n k=Ai1 w.fL n k
theorem A7w (n:Au):lnk n n.Eg n.S7 n.S8=n:=rfl
theorem A48.refl (w:C8):A48 w w:=⟨rfl,rfl,fun k h=>⟨h,⟨_,_,_,(A7w _).symm⟩,fun _=>rfl⟩⟩
theorem A48.trans{a b c:C8}(h:A48 a b)(g:A48 b c):A48 a c:=by
 refine⟨g.conf.trans h.conf,g.len.trans h.len,fun k hk=> ?_⟩;obtain⟨h1,⟨x,y,z,h2⟩,h3⟩:=h.node k hk;obtain⟨g1,⟨u,v,w,g2⟩,g3⟩:=g.node k h1;exact⟨g1,⟨u,v,w,by rw[g2,h2];rfl⟩,fun n=>(g3 n).trans (h3 n)⟩
theorem A86{w w':C8}(hc:w'.fC=w.fC)(hl:w'.fL=w.fL):A48 w w':=⟨hc,by rw[hl],fun k h=>by rw[hl];exact⟨h,⟨_,_,_,(A7w _).symm⟩,fun _=>rfl⟩⟩
theorem Bly{N:Int}{t t':Int->Lk}(h: ∀y,Al N t y->Lv N t' y∧(t' y).up=(t y).up∧(Cu N t y->Al N t ((t y).up - 1)->Cu N t' y)){k:Int}(hk:Al N t k):Al N t' k:=by
 induction hk with
 |root a b=>
  obtain⟨h1,h2,h3⟩:=h _ (.root a b);exact .root h1 (by rw[h2];exact b)
 |step a b c ih=>
  obtain⟨h1,h2,h3⟩:=h _ (.step a b c);exact .step h1 (h3 b c) (by rw[h2];exact ih)
theorem Buf{N:Int}{t:Int->Lk}{g:Int}(hg:Oo N t g){k:Int}(hk:Al N t k):Al N (rem t g) k:=by
 refine Bly (fun y hy=> ?_) hk
 have hne:y≠g:=fun e=>hy.noOr (e ▸ hg);refine⟨Apx.2 ⟨hne,hy.lv⟩,by rw[Anb hne],fun hc hu=>(A1d hne).2 ⟨fun e=> ?_,hc⟩⟩
 rw[e,Int.add_sub_cancel]at hu;exact hu.noOr hg
theorem Bug{N:Int}{t:Int->Lk}{g:Int}(hg:(t g).lv=false){k:Int}(hk:Al N t k):Al N (clr t g) k:=by
 refine Bly (fun y hy=> ?_) hk;exact⟨(Avy hg).2 hy.lv,by rw[Ai4 hg hy.lv],fun hc _=>(A4i hg hy.lv).2 hc⟩
theorem Blz{N:Int}{t t':Int->Lk}(h: ∀x,0≤x∧x<N->t' x=t x){k:Int}(hk:Al N t k):Al N t' k:=by
 refine Bly (fun y hy=> ?_) hk
 have hy1:=hy.lv;refine⟨⟨hy1.1,by rw[h y hy1.1];exact hy1.2⟩,by rw[h y hy1.1],fun hc _=> ?_⟩
 have hc1:=hc.1;unfold Cu Lv;rw[h y hy1.1,h _ hc1.1];exact hc
theorem AlW.al{l:List Au}{t:Int->Lk}(A:AtT l t){k:Int}(h:AlW l k):Al l.length t k:=by
 obtain⟨t',A',h'⟩:=h;exact Blz (fun x hx=>by rw[A x hx,A' x hx]) h'
theorem Bcf{w w':C8}{t t':Int->Lk}(R:Rg w.fL)(R':Rg w'.fL)(A:AtT w.fL t)(A':AtT w'.fL t')(F:Ak4 w.fL.length t (Awv w.fQ))(hc:w'.fC=w.fC)(hl:w'.fL.length=w.fL.length)
  (hn: ∀k,Al w.fL.length t k->Al w.fL.length t' k∧(t' k).up=(t k).up∧ ∃a b c,gt w'.fL k=lnk (gt w.fL k) a b c):A48 w w':=by
 refine⟨hc,hl,fun k hk=> ?_⟩
 have h:=hk.al A;obtain⟨h1,h2,h3⟩:=hn k h;refine⟨⟨t',A',by rw[hl];exact h1⟩,h3,fun n=> ?_⟩
 rw[A44 A' R',A44 A R,hl];obtain⟨d,U⟩:=F.uw;exact A1t _ _ fun y hy=>(hn y ((Be9 U n k h).1 y hy).2).2.1
theorem A0u{α:Type}[Inhabited α](a:α)(l:List α){i:Nat}(h:i<l.length):gt (a::l) ((i+1:Nat):Int)=gt l (i:Int):=by
 rw[P2 (by simp;omega),P2 h];rfl
theorem Bl0{α:Type}[Inhabited α](f:α->Nat): ∀(l l':List α),l'.length=l.length->(∀x:Nat,x<l.length->f (gt l' (x:Int))=f (gt l (x:Int)))->(l'.map f).sum=(l.map f).sum:=by
 intro l
 induction l with
 |nil=>intro l' h _;rw[K9.1 h]
 |cons a l ih=>
  intro l' h hx;cases l' with
  |nil=>simp at h
  |cons b l'=>
   have hl:l'.length=l.length:=by simpa using h
   have h0:=hx 0 (by simp)
   have:=ih l' hl fun x h=>by
    have:=hx (x+1) (by simp;omega)
    rwa[A0u _ _ (by omega),A0u _ _ h]at this
   simp only[Z8,List.sum_cons,this];rw[show f b=f a from h0]
theorem Boy{α:Type}[Inhabited α](f:α->Nat): ∀(l l':List α) (g:Nat),l'.length=l.length->g<l.length->(∀x:Nat,x<l.length->x≠g->f (gt l' (x:Int))=f (gt l (x:Int)))->(l'.map f).sum+f (gt l (g:Int))=(l.map f).sum+f (gt l' (g:Int)):=by
 intro l
 induction l with
 |nil=>intro l' g _ h;simp at h
 |cons a l ih=>
  intro l' g h hg hx;cases l' with
  |nil=>simp at h
  |cons b l'=>
   have hl:l'.length=l.length:=by simpa using h
   simp only[Z8,List.sum_cons];cases g with
   |zero=>
    have:=Bl0 f l l' hl fun x h=>by
     have:=hx (x+1) (by simp;omega) (by omega)
     rwa[A0u _ _ (by omega),A0u _ _ h]at this
    rw[this]
    show f b+_+f a=f a+_+f b;omega
   |succ g=>
    have hg:g<l.length:=by simpa using hg
    have h0:f b=f a:=hx 0 (by simp) (by omega)
    have:=ih l' g hl hg fun x h hn=>by
     have:=hx (x+1) (by simp;omega) (by omega)
     rwa[A0u _ _ (by omega),A0u _ _ h]at this
    rw[A0u _ _ hg,A0u _ _ (by omega)]
    omega
theorem A3n{f:Au->Nat}{l l':List Au}{g:Int}(hl:l'.length=l.length)(hg:0≤g∧g<(l.length:Int))(hx: ∀x,0≤x∧x<(l.length:Int)->x≠g->f (gt l' x)=f (gt l x)):(l'.map f).sum+f (gt l g)=(l.map f).sum+f (gt l' g):=by
 have:=Boy f l l' g.toNat hl (by omega) fun x h hn=>hx x ⟨by omega,by omega⟩ (by omega)
 rwa[show((g.toNat:Nat):Int)=g by omega]at this
theorem A3o (c:Eb){st:Int}(h:st≠1)(g:Int):wtN c (Aqt st g)=0:=by unfold wtN Aqt;rw[if_neg h]
structure Bd0 (w w':C8)(E:Int):Prop where
 inv:Inv w'
 mem: ∀x∈w'.fP.Pm,0≤x∧x≤255
 ep: ∀k,0≤k∧k<(w'.fL.length:Int)->EpP E (gt w'.fL k)
 pot:pot w'<pot w
 wt:wt w'≤wt w
 stay:A48 w w'
theorem Bd0.good{w w':C8}{E:Int}(S:Bd0 w w' E){n:Nat}(G:D8 w E n):D8 w' E n:=⟨S.inv,S.mem,S.ep,by have:=S.wt;have:=G.wt;omega⟩
theorem Bl1{w:C8}{E:Int}{n:Nat}(G:D8 w E n){x:A1}{qs:List A1}(hq:w.fQ=x::qs)(h0:0<x.Fo.length):Bd0 w (A47 w x qs) E:=by
 have e:wtQ w.fC (Bls x)+1=wtQ w.fC x:=by
  unfold wtQ Bls;simp only[List.length_take];omega
 have ep:pot (A47 w x qs)+1=pot w:=by
  unfold pot;rw[hq]
  show(w.fL.map (wtN w.fC)).sum+((Bls x::qs).map (wtQ w.fC)).sum+1=_;simp only[Z8,List.sum_cons];omega
 refine⟨Bow G.inv hq h0,G.mem,G.ep,by omega,?_,A86 rfl rfl⟩
 unfold wt
 show pot (A47 w x qs)+(w.Adf++[_]).length≤_;rw[Jh,List.length_singleton];omega
theorem Bhd{w:C8}{E:Int}{n:Nat}(G:D8 w E n){x:A1}{qs:List A1}(hq:w.fQ=x::qs)(hc:0<x.Az.length):Bd0 w (A1f w x qs) E:=by
 have X:=Bdz G.inv hq hc;obtain⟨b1,b2,b3,b4,b5,b6⟩:=Gx X.rc.conf
 have ht:=X.to
 have hd:=X.rc.done
 have e:wtQ w.fC (A2w w x)<wtQ w.fC x:=by
  have hm:w.fC.Hi.toNat*x.Az.length=w.fC.Hi.toNat*(x.Az.length - 1)+w.fC.Hi.toNat:=by
   conv=>lhs;rw[show x.Az.length=x.Az.length - 1+1 by omega]
   rw[Nat.mul_succ]
  unfold A2w;split
  ·unfold wtQ;simp only;omega
  ·unfold wtQ;simp only[List.length_drop];omega
 have ep:pot (A1f w x qs)<pot w:=by
  unfold pot;rw[hq]
  show(w.fL.map (wtN w.fC)).sum+((A2w w x::qs).map (wtQ w.fC)).sum<_;simp only[Z8,List.sum_cons];omega
 refine⟨Blv G.inv hq hc,Blu G.mem,G.ep,ep,?_,A86 rfl rfl⟩;unfold wt
 show pot (A1f w x qs)+w.Adf.length≤_;omega
theorem Bl2{w:C8}(I:Inv w){t:Int->Lk}(A:AtT w.fL t)(F:Ak4 w.fL.length t (Awv w.fQ)){x:A1}{qs:List A1}(hq:w.fQ=x::qs)(hf:x.Eg≠0):
  (∀y,0≤y∧y<(w.fL.length:Int)->y≠x.Eg - 1->gt (A2c w.fL (x.Eg - 1)) y=Bhc (gt w.fL (x.Eg - 1)) (gt w.fL y) (x.Eg - 1) y)∧gt (A2c w.fL (x.Eg - 1)) (x.Eg - 1)=Aqt 2 (gt w.fL (x.Eg - 1)).Dc:=by
 have X:=Bao I A F hq hf;exact⟨fun y hy hne=>Bfe I.rg X.lv.1 hy hne X.pv (X.nf y hy),Bff X.lv.1⟩
theorem Bhe{w:C8}{E:Int}{n:Nat}(G:D8 w E n)(hE:0≤E){x:A1}{qs:List A1}(hq:w.fQ=x::qs)(hf:x.Eg≠0):Bd0 w (A1g w x qs) E:=by
 obtain⟨t,A,F⟩:=G.inv.forest
 have X:=Bao G.inv A F hq hf;obtain⟨hg,hb⟩:=Bl2 G.inv A F hq hf
 have hk:=X.lv.1
 have L:=G.inv.live A X.lv
 have I':=Blx G.inv hq hf
 have hN:=Bce w.fL (x.Eg - 1)
 have hs:=A3n (f:=wtN w.fC) hN hk fun y hy hne=>by rw[hg y hy hne];rfl
 rw[hb,A3o _ (by decide)]at hs
 have e1:wtN w.fC (gt w.fL (x.Eg - 1))=2+(gt w.fL (x.Eg - 1)).Fo.length+w.fC.Hi.toNat*(gt w.fL (x.Eg - 1)).Az.length:=by unfold wtN;rw[if_pos L.st]
 have e2:wtQ w.fC (Ag5 (gt w.fL (x.Eg - 1)) x.Eg)=1+(gt w.fL (x.Eg - 1)).Fo.length+w.fC.Hi.toNat*(gt w.fL (x.Eg - 1)).Az.length:=rfl
 have e3:wtQ w.fC (Bcd w.fL x)=wtQ w.fC x:=rfl
 have ep:pot (A1g w x qs)<pot w:=by
  unfold pot;rw[hq]
  show((A2c w.fL (x.Eg - 1)).map (wtN w.fC)).sum+((Ag5 (gt w.fL (x.Eg - 1)) x.Eg::Bcd w.fL x::qs).map (wtQ w.fC)).sum<_;simp only[Z8,List.sum_cons];omega
 refine⟨I',?_,fun y hy=> ?_,ep,?_,?_⟩
 ·show ∀y∈(Ai3 w.fP _).Pm,_;rw[(A0t G.inv hk).2.1];exact G.mem
 ·have hy:0≤y∧y<((A2c w.fL (x.Eg - 1)).length:Int):=hy;rw[hN]at hy
  show EpP E (gt (A2c w.fL (x.Eg - 1)) y)
  by_cases e:y=x.Eg - 1
  ·rw[e,hb];exact⟨hE,hE,⟨Int.le_refl 0,by show(0:Int)≤1000;omega⟩⟩
  ·rw[hg y hy e]
   have:=G.ep y hy;exact⟨this.ep,this.ue,this.cur⟩
 ·unfold wt
  show pot (A1g w x qs)+w.Adf.length≤_;omega
 ·refine Bcf G.inv.rg I'.rg A (Bfd A hk hN hg hb) F rfl hN fun y hy=> ?_
  have hne:y≠x.Eg - 1:=fun e=>hy.noOr (e ▸ X.or);exact⟨Buf X.or hy,by rw[Anb hne],_,_,_,hg y hy.lv.1 hne⟩
def A5q (n:Au)(gens:Int):Au:=if gens≤n.Dc then Aqt 3 n.Dc else Aqt 0 (n.Dc+1)
def Azd (w:C8)(x:A1):List Au:=if x.Bk=0 then w.fL else w.fL.set (x.Bk - 1).toNat (A5q (gt w.fL (x.Bk - 1)) w.fC.Hj)
def A49 (w:C8)(x:A1)(qs:List A1):C8:=C8.mk w.fC w.fP (Azd w x) qs w.Adf
theorem Bap (w:C8)(x:A1):(Azd w x).length=w.fL.length:=by unfold Azd;split<;>simp
structure Buh (w:C8)(x:A1)(qs:List A1):Prop where
 rc:Bov w.fC x
 k:x.Bk≠0->0≤x.Bk - 1∧x.Bk - 1<(w.fL.length:Int)
 st:x.Bk≠0->(gt w.fL (x.Bk - 1)).Vt=2
 gn:x.Bk≠0->1≤(gt w.fL (x.Bk - 1)).Dc∧(gt w.fL (x.Bk - 1)).Dc≤w.fC.Hj
 no:x.Bk≠0->x.Bk - 1 ∉ slL qs
theorem Bfg{w:C8}(I:Inv w){x:A1}{qs:List A1}(hq:w.fQ=x::qs):Buh w x qs:=by
 have R:=Azv.1 (Az0 I hq).1;obtain⟨b1,b2,b3,b4,b5,b6⟩:=Gx I.conf
 have hx:x∈w.fQ:=by rw[hq];exact List.mem_cons_self
 have hs:=R.slot
 have h1:x.Bk≠0->(0≤x.Bk - 1∧x.Bk - 1<(w.fL.length:Int))∧(gt w.fL (x.Bk - 1)).Vt=2:=fun h=>by
  have:=Bfa hx h;rw[sb1 (by omega) (by omega)]at this
  exact(I.sli _).1 this
 refine⟨R,fun h=>(h1 h).1,fun h=>(h1 h).2,fun h=>(A1e (I.node _ (h1 h).1)).2.2,fun h=> ?_⟩
 have:=I.sln;rw[hq]at this
 have this:((if x.Bk=0 then []else [An8 .i64 x.Bk 1])++slL qs).Nodup:=this
 rw[if_neg h,sb1 (by omega) (by omega)]at this
 exact(List.nodup_cons.1 this).1
theorem Bui{w:C8}{x:A1}{qs:List A1}(X:Buh w x qs){y:Int}(hy:0≤y∧y<(w.fL.length:Int)):gt (Azd w x) y=if x.Bk≠0∧y=x.Bk - 1 then A5q (gt w.fL y) w.fC.Hj else gt w.fL y:=by
 unfold Azd
 by_cases h:x.Bk=0
 ·rw[if_pos h,if_neg (fun q=>q.1 h)]
 ·rw[if_neg h,Ap8 (X.k h) hy]
  by_cases e:y=x.Bk - 1
  ·rw[if_pos e,if_pos ⟨h,e⟩,e]
  ·rw[if_neg e,if_neg (fun q=>e q.2)]
theorem Bd1{n:Au}{gens:Int}(h:1≤n.Dc∧n.Dc≤gens): ∃st g,A5q n gens=Aqt st g∧(st=0∨st=3)∧1≤g∧g≤gens:=by
 unfold A5q;split
 ·exact⟨3,_,rfl,.inr rfl,h⟩
 ·exact⟨0,_,rfl,.inl rfl,by omega,by omega⟩
theorem Ay0{w:C8}{x:A1}{qs:List A1}(X:Buh w x qs){y:Int}(hy:0≤y∧y<(w.fL.length:Int)):(gt (Azd w x) y=gt w.fL y∧ ¬(x.Bk≠0∧y=x.Bk - 1))∨((x.Bk≠0∧y=x.Bk - 1)∧(gt w.fL y).Vt=2∧ ∃st g,gt (Azd w x) y=Aqt st g∧(st=0∨st=3)∧1≤g∧g≤w.fC.Hj):=by
 rw[Bui X hy]
 by_cases h:x.Bk≠0∧y=x.Bk - 1
 ·rw[if_pos h];refine .inr ⟨h,by rw[h.2];exact X.st h.1,?_⟩
  exact Bd1 (by rw[h.2];exact X.gn h.1)
 ·rw[if_neg h];exact .inl ⟨rfl,h⟩
theorem A7x{w:C8}(I:Inv w){t:Int->Lk}(A:AtT w.fL t)(F:Ak4 w.fL.length t (Awv w.fQ)){x:A1}{qs:List A1}(hq:w.fQ=x::qs)(hf:x.Eg=0):
  ∃t',AtT (Azd w x) t'∧Ak4 w.fL.length t' (Awv qs)∧(∀k,Al w.fL.length t k->Al w.fL.length t' k∧(t' k).up=(t k).up):=by
 have X:=Bfg I hq
 have F1:Ak4 w.fL.length t ((x.Bk,0)::Awv qs):=by rw[hq]at F;rw[←hf];exact F
 by_cases h:x.Bk=0
 ·refine⟨t,?_,A7o F1,fun k hk=>⟨hk,rfl⟩⟩;unfold Azd;rw[if_pos h];exact A
 ·have hk:=X.k h
  have hlv:(t (x.Bk - 1)).lv=false:=by rw[A _ hk];show((gt w.fL (x.Bk - 1)).Vt==1)=false;rw[X.st h];rfl
  refine⟨clr t (x.Bk - 1),fun y hy=> ?_,Bae F1 h fun e he e2=> ?_,fun k hk=>⟨Bug hlv hk,by rw[Ai4 hlv hk.lv]⟩⟩
  ·rw[Bap]at hy;unfold clr;rcases Ay0 X hy with ⟨e,f⟩|⟨f,_,st,g,e,hs,_⟩
   ·rw[if_neg (fun r=>f ⟨h,r⟩),e,A y hy]
   ·rw[if_pos f.2,e];rcases hs with s|s<;>subst s<;>rfl
  ·obtain⟨z,hz,e3⟩:=D9.1 he
   have e3:z.Bk=e.1:=by rw[←e3]
   refine X.no h (List.mem_flatMap.2 ⟨z,hz,?_⟩)
   have hs:=X.rc.slot;obtain⟨b1,b2,b3,b4,b5,b6⟩:=Gx I.conf;rw[e3,e2,if_neg h,sb1 (by omega) (by omega)];simp
theorem Boz{w:C8}(I:Inv w){x:A1}{qs:List A1}(hq:w.fQ=x::qs)(hc:x.Az=[])(hf:x.Eg=0):Inv (A49 w x qs):=by
 obtain⟨t,A,F⟩:=I.forest
 have X:=Bfg I hq;obtain⟨t',A',F',_⟩:=A7x I A F hq hf
 have hN:=Bap w x
 have hch:chL w.fQ=chL qs:=by rw[hq];show x.Az++_=_;rw[hc];rfl
 have hsl:slL w.fQ=(if x.Bk=0 then []else [An8 .i64 x.Bk 1])++slL qs:=by rw[hq];rfl
 have hsn:=I.sln;rw[hsl]at hsn
 refine⟨I.pool,by show((Azd w x).length:Int)=_;rw[hN];exact I.len,fun y hy=> ?_,fun y hy c=> ?_,fun y hy=> ?_,⟨t',A',by show Ak4 ((Azd w x).length:Int) t' _;rw[hN];exact F'⟩,fun y hy=>I.wrec y (by rw[hq];exact Z56 _ hy),by show(chL qs).Nodup;rw[←hch];exact I.chn,fun c=>by show c∈chL qs ↔ _;rw[←hch];exact I.chi c,?_,fun s=> ?_,I.log⟩
 ·have hy:0≤y∧y<((Azd w x).length:Int):=hy;rw[hN]at hy
  show Aq2 w.fC (gt (Azd w x) y)=true;rcases Ay0 X hy with ⟨e,_⟩|⟨_,_,st,g,e,hs,hg⟩
  ·rw[e];exact I.node y hy
  ·rw[e];exact A31 I.conf (by omega) (by omega) hg
 ·have hy:0≤y∧y<((Azd w x).length:Int):=hy;rw[hN]at hy
  show c∈(gt (Azd w x) y).Az ↔ _;rcases Ay0 X hy with ⟨e,_⟩|⟨_,h2,st,g,e,hs,hg⟩
  ·rw[e];exact I.own y hy c
  ·rw[e]
   have:=I.own y hy c;rw[Ayz (I.node y hy) (by omega)]at this
   exact this
 ·have hy:0≤y∧y<((Azd w x).length:Int):=hy;rw[hN]at hy
  show(gt (Azd w x) y).Ga.all (Arw w.fC (gt (Azd w x) y).Az)=true∧Apd (gt (Azd w x) y).Ga=true∧Aru w.fC w.fP.Pm (gt (Azd w x) y)=true;rcases Ay0 X hy with ⟨e,_⟩|⟨_,h2,st,g,e,hs,hg⟩
  ·rw[e];exact I.thing y hy
  ·rw[e];exact⟨rfl,rfl,rfl⟩
 ·exact(Ai8.1 hsn).2.1
 ·show s∈slL qs ↔ (0≤s∧s<((Azd w x).length:Int))∧(gt (Azd w x) s).Vt=2
  have hi:=I.sli s;rw[hsl,Gh]at hi
  have hss:=X.rc.slot;obtain⟨b1,b2,b3,b4,b5,b6⟩:=Gx I.conf;rw[hN];constructor
  ·intro h;obtain⟨a,b⟩:=hi.1 (.inr h);refine⟨a,?_⟩;rcases Ay0 X a with ⟨e,_⟩|⟨⟨h1,h2⟩,_⟩
   ·rw[e];exact b
   ·rw[h2]at h;exact absurd h (X.no h1)
  ·rintro⟨a,b⟩;rcases Ay0 X a with ⟨e,f⟩|⟨_,_,st,g,e,hs,_⟩
   ·rw[e]at b;rcases hi.2 ⟨a,b⟩with h|h
    ·by_cases q:x.Bk=0
     ·rw[if_pos q]at h;cases h
     ·rw[if_neg q,sb1 (by omega) (by omega),Mx]at h
      exact absurd ⟨q,h⟩ f
    ·exact h
   ·rw[e]at b
    have b:st=2:=b;omega
theorem Bl3{w:C8}{E:Int}{n:Nat}(G:D8 w E n)(hE:0≤E){x:A1}{qs:List A1}(hq:w.fQ=x::qs)(hc:x.Az=[])(hf:x.Eg=0):Bd0 w (A49 w x qs) E:=by
 obtain⟨t,A,F⟩:=G.inv.forest
 have X:=Bfg G.inv hq;obtain⟨t',A',F',hal⟩:=A7x G.inv A F hq hf
 have I':=Boz G.inv hq hc hf
 have hN:=Bap w x
 have hs:((Azd w x).map (wtN w.fC)).sum=(w.fL.map (wtN w.fC)).sum:=Bl0 _ _ _ hN fun y hy=>by
  rcases Ay0 X (y:=(y:Int)) ⟨by omega,by omega⟩with ⟨e,_⟩|⟨_,h2,st,g,e,hs,hg⟩
  ·rw[e]
  ·rw[e,A3o _ (by omega)];unfold wtN;rw[if_neg (by omega)]
 have ep:pot (A49 w x qs)<pot w:=by
  have h1:1≤wtQ w.fC x:=by unfold wtQ;omega
  unfold pot;rw[hq]
  show((Azd w x).map (wtN w.fC)).sum+(qs.map (wtQ w.fC)).sum<_;simp only[Z8,List.sum_cons];omega
 refine⟨I',G.mem,fun y hy=> ?_,ep,?_,?_⟩
 ·have hy:0≤y∧y<((Azd w x).length:Int):=hy;rw[hN]at hy
  show EpP E (gt (Azd w x) y);rcases Ay0 X hy with ⟨e,_⟩|⟨_,h2,st,g,e,hs,hg⟩
  ·rw[e];exact G.ep y hy
  ·rw[e];exact⟨hE,hE,⟨Int.le_refl 0,by show(0:Int)≤1000;omega⟩⟩
 ·unfold wt
  show pot (A49 w x qs)+w.Adf.length≤_;omega
 ·refine Bcf G.inv.rg I'.rg A A' F rfl hN fun y hy=> ?_;refine⟨(hal y hy).1,(hal y hy).2,?_⟩;rcases Ay0 X hy.lv.1 with ⟨e,_⟩|⟨_,h2,_⟩
  ·exact⟨_,_,_,e⟩
  ·have:=((Awh A).1 hy.lv).2;omega
section
variable {K:Nat} (hK:281474976710656≤K)
include hK
theorem Bl4 (w:C8)(hw:Ay4 w.fP)(l:List Int)(hl:l.length≤140737488355327):Ara K w l=some (C8.mk w.fC (Ai3 w.fP l) w.fL w.fQ w.Adf):=by
 unfold Ara;refine A95 hK l (by omega) A1j w.fP Ay4 hw (fun s x h=>(A6r h x).1) _ (fun n s i=>Ak5 K l n i w.fC.Az w.fC.Hi w.fC.Fb w.fC.G8 w.fC.Fc w.fC.Hj s.Pm s.Vt s.Pn w.fL w.fQ w.Adf) (fun n s i h hs=> ?_) (fun n=> ?_)
 ·simp only[Ak5];rw[Ae4 h,cond_true,if_pos (Ajc h),P2 h,show Dp.mk s.Pm s.Vt s.Pn=s from rfl,A7g K hs,Z0,Aep (by omega)]
 ·show Ak5 K l (n+1) _ _ _ _ _ _ _ _ _ _ _ _ _=_;rw[Ak5,Afn (Z9 _),cond_false];rfl
theorem Bo0{w:C8}(I:Inv w)(hw:Ano w)(hQ:w.fQ.length≤1000000000){x:A1}{qs:List A1}(hq:w.fQ=x::qs)(hf:x.Eg≠0):Ax7 K w=some (A1g w x qs):=by
 have hm:=Wx;obtain⟨t,A,F⟩:=I.forest
 have X:=Bao I A F hq hf
 have hk:=X.lv.1
 have hF:=X.rc.first
 have L:=I.live A X.lv;obtain⟨b1,b2,b3,b4,b5,b6⟩:=Gx I.conf
 have hlen:=I.len
 have hn:=hw.l.1 _ (Alb hk.1 hk.2)
 have e1:An8 .i64 x.Eg 1=x.Eg - 1:=sb1 (by omega) (by omega)
 have e2:An7 .i64 (x.Eg - 1) 1=x.Eg:=by rw[ad1 (by omega) (by omega)];omega
 have hnx:=L.next
 have hlq:(w.fQ).length=qs.length+1:=by rw[hq];simp
 have hj: ∀(l:List Au) (q:List A1),l.length=w.fL.length->q.length=w.fQ.length->As1 K (gt w.fL (x.Eg - 1)) (x.Eg - 1) w.fC.Az w.fC.Hi w.fC.Fb w.fC.G8 w.fC.Fc w.fC.Hj w.fP.Pm w.fP.Vt w.fP.Pn l q w.Adf=some (C8.mk w.fC (Ai3 w.fP (gt w.fL (x.Eg - 1)).Az) (l.set (x.Eg - 1).toNat (Aqt 2 (gt w.fL (x.Eg - 1)).Dc)) (Ag5 (gt w.fL (x.Eg - 1)) x.Eg::q) w.Adf):=by
  intro l q hl1 hq1
  have h8:=hn.tags.2
  have h9:=hn.chunks.2;unfold As1;rw[Bl4 hK (C8.mk w.fC w.fP l q w.Adf) hw.p _ (Ay8 hK hn.chunks),Z0];unfold Azw Az5;simp only[Z0,Zl,List.singleton_append,Xf];simp only[hl1,if_pos hk,e2,Z0]
  iterate 4 (try rw[if_pos ⟨by omega,by omega⟩])
  try simp only[Z0]
  iterate 4 (try rw[if_pos ⟨by omega,by omega⟩])
  rfl
 unfold Ax7;rw[hq,gt0,if_pos ⟨by omega,by simp⟩,e1]
 simp only[if_pos hk];rw[At3 K hn,Z0,if_pos ⟨by omega,by simp⟩,Axs,Z0]
 unfold A1g A2c
 have hp:plB w.fL (gt w.fL (x.Eg - 1)).S7=decide (1≤(gt w.fL (x.Eg - 1)).S7∧(gt w.fL (x.Eg - 1)).S7≤(w.fL.length:Int)):=by
  rw[Bool.eq_iff_iff,A45 (by omega) (by omega),decide_eq_true_iff]
  omega
 rw[hp]
 by_cases q:1≤(gt w.fL (x.Eg - 1)).S7∧(gt w.fL (x.Eg - 1)).S7≤(w.fL.length:Int)
 ·rw[decide_eq_true q];simp only[cond_true];rw[sb1 (by omega) (by omega),if_pos ⟨by omega,by omega⟩]
  unfold Aqi;exact hj _ _ (by rw[Z49]) (by rw[hq];simp)
 ·rw[decide_eq_false q];simp only[cond_false];exact hj _ _ rfl (by rw[hq];simp)
theorem Bl5{l:List Au}(hl:Afd l){k gens:Int}(hk:0≤k∧k<(l.length:Int))(hg:0≤(gt l k).Dc∧(gt l k).Dc≤1000):A0c K l k gens=some (l.set k.toNat (A5q (gt l k) gens)):=by
 unfold A0c Al1 Ax8 A5q;rw[A2k hK hl,Z0,A05 K (Aej hl),decide_eq_true hk];simp only[Z0,Bool.not_true,cond_false,if_pos hk];rw[ad1 (by omega) (by omega)]
 by_cases q:gens≤(gt l k).Dc
 ·rw[decide_eq_true (show(gt l k).Dc≥gens from q),if_pos q];rfl
 ·rw[decide_eq_false (show ¬(gt l k).Dc≥gens from q),if_neg q];rfl
theorem Bfh{w:C8}{E:Int}{n:Nat}(G:D8 w E n)(hE:0≤E∧E≤1000000000)(hn:n≤1000000000)(h0:0<w.fQ.length): ∃w',Avh K w=some w'∧Bd0 w w' E:=by
 have hm:=Wx
 have W:=G.ww hE.2 hn
 have h1:=Blo w
 have h2:=Bdy w
 have h3:=G.wt;cases hq:w.fQ with
 |nil=>rw[hq]at h0;simp at h0
 |cons x qs=>
 have R:=Azv.1 (Az0 G.inv hq).1
 have hlq:(w.fQ).length=qs.length+1:=by rw[hq];simp
 unfold Avh A1w;rw[hq,gt0,if_pos ⟨by omega,by simp⟩]
 by_cases c1:0<x.Fo.length
 ·refine⟨_,?_,Bl1 G hq c1⟩;rw[decide_eq_true (show(x.Fo.length:Int)>0 by omega)]
  simp only[cond_true,Z0,beq_self_eq_true];rw[Bue K hq c1 R.ntag (by omega)];rfl
 ·rw[decide_eq_false (show ¬(x.Fo.length:Int)>0 by omega)]
  by_cases c2:0<x.Az.length
  ·refine⟨_,?_,Bhd G hq c2⟩;rw[decide_eq_true (show(x.Az.length:Int)>0 by omega)]
   simp only[cond_true,cond_false,Z0];rw[show((2:Int)==1)=false from rfl,show((2:Int)==2)=true from rfl]
   simp only[cond_true,cond_false];rw[Box hK G.inv W.p hq c2];rfl
  ·rw[decide_eq_false (show ¬(x.Az.length:Int)>0 by omega)]
   have hc:x.Az=[]:=K9.1 (by omega)
   by_cases c3:x.Eg=0
   ·refine⟨_,?_,Bl3 G hE.1 hq hc c3⟩
    have X:=Bfg G.inv hq
    have hs:=R.slot;obtain⟨b1,b2,b3,b4,b5,b6⟩:=Gx G.inv.conf
    have et:((x::qs).drop (1:Int).toNat).take (((x::qs).length:Int) - 1).toNat=qs:=by
     show qs.take _=qs;exact List.take_of_length_le (by simp)
    rw[c3];simp only[bne_self_eq_false,cond_false,Z0];rw[show((4:Int)==1)=false from rfl,show((4:Int)==2)=false from rfl,show((4:Int)==3)=false from rfl]
    simp only[cond_false]
    have hl1:(((x::qs).length:Nat):Int)=(qs.length:Int)+1:=by simp
    have hj: ∀l:List Au,As2 K w.fC.Az w.fC.Hi w.fC.Fb w.fC.G8 w.fC.Fc w.fC.Hj w.fP.Pm w.fP.Vt w.fP.Pn l (x::qs) w.Adf=some (C8.mk w.fC w.fP l qs w.Adf):=by
     intro l;unfold As2;rw[et,Zl,hl1,if_pos (show(0:Int)≤1∧(1:Int)≤(qs.length:Int)+1∧(qs.length:Int)+1≤(qs.length:Int)+1 from⟨by omega,by omega,by omega⟩),if_pos (show qs.length*72≤140737488355328∧qs.length≤maxLen from⟨by omega,by omega⟩)]
    rw[if_pos ⟨by omega,by simp⟩]
    unfold A49 Azd
    by_cases q:x.Bk=0
    ·rw[q,if_pos rfl];exact hj _
    ·have hgn:=X.gn q;rw[Arb q,if_neg q,cond_true,if_pos ⟨by omega,by simp⟩,sb1 (by omega) (by omega),Bl5 hK W.l (X.k q) ⟨by omega,by omega⟩,Z0]
     exact hj _
   ·refine⟨_,?_,Bhe G hE.1 hq c3⟩;rw[Arb c3];simp only[cond_true,cond_false,Z0];rw[show((3:Int)==1)=false from rfl,show((3:Int)==2)=false from rfl,show((3:Int)==3)=true from rfl]
    simp only[cond_true,cond_false];rw[Bo0 hK G.inv W (by omega) hq c3];rfl
structure Steps (w w':C8)(E:Int)(n:Nat):Prop where
 good:D8 w' E n
 stay:A48 w w'
theorem Bhf{E:Int}{n:Nat}(hE:0≤E∧E≤1000000000)(hn:n≤1000000000)(m:Int): ∀(f:Nat) (i:Int) (w:C8),D8 w E n->pot w<f-> ∃r w',As5 K m f i w.fC.Az w.fC.Hi w.fC.Fb w.fC.G8 w.fC.Fc w.fC.Hj w.fP.Pm w.fP.Vt w.fP.Pn w.fL w.fQ w.Adf=some (r,w')∧Steps w w' E n:=by
 intro f
 induction f with
 |zero=>intro i w _ h;omega
 |succ f ih=>
  intro i w G hf;rw[As5];cases decide (i<m)with
  |false=>exact⟨m,w,rfl,G,A48.refl w⟩
  |true=>
  simp only[cond_true]
  by_cases q:w.fQ.length=0
  ·rw[q];exact⟨i,w,rfl,G,A48.refl w⟩
  ·obtain⟨w1,e1,S⟩:=Bfh hK G hE hn (by omega)
   have hp:=S.pot;obtain⟨r,w2,e2,S2⟩:=ih (An7 .i64 i 1) w1 (S.good G) (by omega)
   refine⟨r,w2,?_,S2.good,S.stay.trans S2.stay⟩;rw[Ah0 (by omega)]
   simp only[cond_false];rw[show C8.mk (Eb.mk w.fC.Az w.fC.Hi w.fC.Fb w.fC.G8 w.fC.Fc w.fC.Hj) (Dp.mk w.fP.Pm w.fP.Vt w.fP.Pn) w.fL w.fQ w.Adf=w from rfl,e1,Z0]
   exact e2
theorem A6w{E:Int}{n:Nat}(hE:0≤E∧E≤1000000000)(hn:n≤1000000000)(m:Int){w:C8}(G:D8 w E n): ∃r w',Avj K w m=some (r,w')∧Steps w w' E n:=by
 have:=G.wt;unfold wt at this;exact Bhf hK hE hn m K 0 w G (by omega)
def A1v (p:Dp)(at_ n:Int):Bool:=decide (0≤at_)&&(decide (1≤n)&&(decide (at_+n≤(p.Vt.length:Int))&&(List.range n.toNat).all (fun k=>gt p.Vt (at_+(k:Int))==0)))
omit hK in
theorem Axz{p:Dp}{a n:Int}:A1v p a n=true ↔ 0≤a∧1≤n∧a+n≤(p.Vt.length:Int)∧ ∀c,a≤c∧c<a+n->gt p.Vt c=0:=by
 unfold A1v;simp only[Z4,decide_eq_true_eq,Z1,List.mem_range,beq_iff_eq];refine and_congr_right fun h1=>and_congr_right fun h2=>and_congr_right fun h3=> ?_;constructor
 ·intro h c hc
  have:=h (c - a).toNat (by omega)
  rwa[show a+(((c - a).toNat:Nat):Int)=c by omega]at this
 ·intro h k hk;exact h _ ⟨by omega,by omega⟩
theorem A87{p:Dp}(hp:p.Vt.length≤1000000000){a n:Int}(ha: -1000000000≤a∧a≤1000000000)(hn: -1000000000≤n∧n≤1000000000):Awl K p a n=some (A1v p a n):=by
 unfold Awl A1v
 by_cases h1:a<0
 ·rw[decide_eq_true h1,decide_eq_false (by omega: ¬0≤a)];rfl
 rw[decide_eq_false h1,decide_eq_true (by omega:0≤a)]
 by_cases h2:n<1
 ·rw[decide_eq_true h2,decide_eq_false (by omega: ¬1≤n)];rfl
 rw[decide_eq_false h2,decide_eq_true (by omega:1≤n)]
 simp only[cond_false,Z30]
 have es:An8 .i64 (p.Vt.length:Int) a=(p.Vt.length:Int) - a:=by unfold An8;exact Ht (by omega) (by omega)
 rw[es]
 by_cases h3:a+n≤(p.Vt.length:Int)
 ·rw[decide_eq_false (by omega),decide_eq_false (by omega),decide_eq_true h3]
  simp only[cond_false,Z30]
  have ea:An7 .i64 a n=a+n:=by unfold An7;exact Ht (by omega) (by omega)
  have:=Ap7 hK n.toNat (by omega) (fun k=>gt p.Vt (a+(k:Int))==0) (some true) (fun f i=>Ary K a n f (a+i) p.Pm p.Vt p.Pn) (fun f i h=> ?_) (fun f=> ?_)
  ·simp only[Int.add_zero]at this;rw[this];cases (List.range n.toNat).all _<;>rfl
  ·simp only[Ary]
   have e1:An7 .i64 (a+(i:Int)) 1=a+((i+1:Nat):Int):=by rw[ad1 (by omega) (by omega)];omega
   rw[ea,decide_eq_true (by omega),cond_true,if_pos ⟨by omega,by omega⟩,e1]
   cases e:gt p.Vt (a+(i:Int))==0<;>simp[bne,e]
  ·simp only[Ary];rw[ea,decide_eq_false (by omega)];rfl
 ·rw[decide_eq_false h3];simp only[Bool.false_and]
  by_cases h4:a>(p.Vt.length:Int)
  ·rw[decide_eq_true h4];rfl
  ·rw[decide_eq_false h4,decide_eq_true (by omega)];rfl
theorem A6d{p:Dp}(hp:p.Vt.length≤1000000000){n:Int}(hn: -1000000000≤n∧n≤1000000000): ∃r,Aw0 K p n=some r∧(r= -1∨A1v p r n=true):=by
 have key: ∀(f i:Nat),i≤p.Vt.length->p.Vt.length - i<f-> ∃r,Ar7 K n f (i:Int) p.Pm p.Vt p.Pn=some r∧(r= -1∨A1v p r n=true):=by
  intro f
  induction f with
  |zero=>intro i _ h;omega
  |succ f ih=>
   intro i hi hf;rw[Ar7];rcases E4 i p.Vt.length with h|h
   ·rw[Ae4 h,cond_true,show Dp.mk p.Pm p.Vt p.Pn=p from rfl,A87 hK hp ⟨by omega,by omega⟩ hn,Z0]
    cases e:A1v p (i:Int) n with
    |true=>exact⟨_,rfl,.inr e⟩
    |false=>
     rw[Aep (by omega)]
     exact ih (i+1) h (by omega)
   ·rw[Afn h];exact⟨_,rfl,.inl rfl⟩
 exact key K 0 (Z21 _) (by omega)
theorem Bl6{E:Int}{n:Nat}(hE:0≤E∧E≤1000000000)(hn:n≤1000000000)(a:Int){run:Int}(hr: -1000000000≤run∧run≤1000000000): ∀(f:Nat) (i:Int) (w:C8),D8 w E n->pot w<f-> ∃r w',Aqv K a run f i w.fC.Az w.fC.Hi w.fC.Fb w.fC.G8 w.fC.Fc w.fC.Hj w.fP.Pm w.fP.Vt w.fP.Pn w.fL w.fQ w.Adf=some (r,w')∧Steps w w' E n:=by
 intro f
 induction f with
 |zero=>intro i w _ h;omega
 |succ f ih=>
  intro i w G hf
  have W:=G.ww hE.2 hn
  have hst:=(Ala.1 G.inv.pool).st;obtain⟨b1,b2,b3,b4,b5,b6⟩:=Gx G.inv.conf
  have hlen:=G.inv.len;rw[Aqv]
  have hw:C8.mk (Eb.mk w.fC.Az w.fC.Hi w.fC.Fb w.fC.G8 w.fC.Fc w.fC.Hj) (Dp.mk w.fP.Pm w.fP.Vt w.fP.Pn) w.fL w.fQ w.Adf=w:=rfl
  have hp:Dp.mk w.fP.Pm w.fP.Vt w.fP.Pn=w.fP:=rfl;obtain⟨cn,hcn⟩: ∃cn,Aqp K w.fL 0=some cn:=⟨_,A2v hK w.fL 0 (by omega)⟩
  rw[hw,hp,hcn]
  by_cases q:0<w.fQ.length
  ·obtain⟨w1,e1,S⟩:=Bfh hK G hE hn q
   have hpot:=S.pot;obtain⟨r,w2,e2,S2⟩:=ih (An7 .i64 i 1) w1 (S.good G) (by omega)
   have hgo: ∃r w',Aud K i w.fC.Az w.fC.Hi w.fC.Fb w.fC.G8 w.fC.Fc w.fC.Hj w.fP.Pm w.fP.Vt w.fP.Pn w.fL w.fQ w.Adf (Aqv K a run f)=some (r,w')∧Steps w w' E n:=by
    refine⟨r,w2,?_,S2.good,S.stay.trans S2.stay⟩;unfold Aud;rw[hw,e1,Z0];exact e2
   have hno: ∃r w',(some (i,w):Option (Int×C8))=some (r,w')∧Steps w w' E n:=⟨_,_,rfl,G,A48.refl w⟩;obtain⟨r5,e5,_⟩:=A6d hK (p:=w.fP) (by omega) hr
   rw[decide_eq_true (show(w.fQ.length:Int)>0 by omega),e5]
   simp only[cond_true,Z0];cases decide (cn<a)with
   |true=>exact hgo
   |false=>
    simp only[cond_false];cases decide (run>0)with
    |false=>exact hno
    |true=>
     simp only[cond_true];cases decide (r5<0)with
     |true=>exact hgo
     |false=>exact hno
  ·rw[decide_eq_false (show ¬(w.fQ.length:Int)>0 by omega)]
   exact⟨_,_,rfl,G,A48.refl w⟩
theorem Bd2{E:Int}{n:Nat}(hE:0≤E∧E≤1000000000)(hn:n≤1000000000)(a:Int){run:Int}(hr: -1000000000≤run∧run≤1000000000){w:C8}(G:D8 w E n): ∃r w',Awo K w a run=some (r,w')∧Steps w w' E n:=by
 have:=G.wt;unfold wt at this;exact Bl6 hK hE hn a hr K 0 w G (by omega)
end
section
variable {K:Nat} (hK:281474976710656≤K)
include hK
theorem Baq{l:List Au}(hl:l.length≤1000000000): ∃r,Ay6 K l=some r∧(r= -1∨(0≤r∧r<(l.length:Int))∧(gt l r).Vt=0):=by
 have key: ∀(f i:Nat),i≤l.length->l.length - i<f-> ∃r,Arl K l f (i:Int)=some r∧(r= -1∨(0≤r∧r<(l.length:Int))∧(gt l r).Vt=0):=by
  intro f
  induction f with
  |zero=>intro i _ h;omega
  |succ f ih=>
   intro i hi hf;rw[Arl];rcases E4 i l.length with h|h
   ·rw[Ae4 h,cond_true,if_pos (Ajc h),Aep (by omega)]
    by_cases e:(gt l (i:Int)).Vt=0
    ·rw[e];exact⟨_,rfl,.inr ⟨⟨by omega,by omega⟩,e⟩⟩
    ·rw[Ah0 e];exact ih (i+1) h (by omega)
   ·rw[Afn h];exact⟨_,rfl,.inl rfl⟩
 exact key K 0 (Z21 _) (by omega)
theorem A5a{p:Dp}(hp:p.Vt.length≤1000000000): ∃r,Av1 K p=some r∧(r= -1∨A1v p r 1=true):=by
 have key: ∀(f i:Nat),i≤p.Vt.length->p.Vt.length - i<f-> ∃r,Arm K f (i:Int) p.Pm p.Vt p.Pn=some r∧(r= -1∨A1v p r 1=true):=by
  intro f
  induction f with
  |zero=>intro i _ h;omega
  |succ f ih=>
   intro i hi hf;rw[Arm];rcases E4 i p.Vt.length with h|h
   ·rw[Ae4 h,cond_true,if_pos (Ajc h),Aep (by omega)]
    by_cases e:gt p.Vt (i:Int)=0
    ·rw[e];refine⟨_,rfl,.inr (Axz.2 ⟨by omega,by omega,by omega,fun c hc=> ?_⟩)⟩
     rw[show c=(i:Int)by omega];exact e
    ·rw[Ah0 e];exact ih (i+1) h (by omega)
   ·rw[Afn h];exact⟨_,rfl,.inl rfl⟩
 exact key K 0 (Z21 _) (by omega)
structure Bhg (p p':Dp)(a n k:Int):Prop where
 mem:p'.Pm=p.Pm
 st:p'.Vt.length=p.Vt.length
 own:p'.Pn.length=p.Pn.length
 one: ∀c,0≤c∧c<(p.Vt.length:Int)->gt p'.Vt c=(if a≤c∧c<a+n then 1 else gt p.Vt c)∧gt p'.Pn c=(if a≤c∧c<a+n then k else gt p.Pn c)
theorem A4k{p:Dp}(hw:Ay4 p)(hp:p.Vt.length≤1000000)(ho:p.Pn.length=p.Vt.length){a n k:Int}(hf:A1v p a n=true): ∃p',Arn K p a n k=some p'∧Bhg p p' a n k:=by
 obtain⟨h1,h2,h3,h4⟩:=Axz.1 hf;unfold Arn;rw[A1s K hw,A87 hK (by omega) ⟨by omega,by omega⟩ ⟨by omega,by omega⟩,hf,ho]
 simp only[Z0,cond_true,bne_self_eq_false,cond_false]
 have ea:An7 .i64 a n=a+n:=by unfold An7;exact Ht (by omega) (by omega)
 have key: ∀(f i:Nat) (q:Dp),(i:Int)≤n->n.toNat - i<f->Bhg p q a i k-> ∃p',As3 K a n k f (a+(i:Int)) q (Dp.mk [] [] [])=some p'∧Bhg p p' a n k:=by
  intro f
  induction f with
  |zero=>intro i q _ h;omega
  |succ f ih=>
   intro i q hi hf T;rw[As3,ea]
   by_cases h:(i:Int)=n
   ·rw[decide_eq_false (by omega),cond_false,←h]
    exact⟨q,rfl,T⟩
   ·have e1:An7 .i64 (a+(i:Int)) 1=a+((i+1:Nat):Int):=by rw[ad1 (by omega) (by omega)];omega
    have hs:=T.st
    have hso:=T.own;rw[decide_eq_true (by omega),cond_true,if_pos ⟨by omega,by omega⟩,if_pos ⟨by omega,by omega⟩,e1]
    refine ih (i+1) _ (by omega) (by omega) ⟨T.mem,by simp[T.st],by simp[T.own],fun c hc=> ?_⟩
    obtain⟨t1,t2⟩:=T.one c hc;simp only;rw[A2a (by omega) (by omega),A2a (by omega) (by omega),t1,t2]
    by_cases q1:c=a+(i:Int)
    ·rw[if_pos q1,if_pos q1,if_pos (by omega),if_pos (by omega)];exact⟨rfl,rfl⟩
    ·rw[if_neg q1,if_neg q1]
     by_cases q2:a≤c∧c<a+(i:Int)
     ·rw[if_pos q2,if_pos q2,if_pos (by omega),if_pos (by omega)];exact⟨rfl,rfl⟩
     ·rw[if_neg q2,if_neg q2,if_neg (by omega),if_neg (by omega)];exact⟨rfl,rfl⟩
 have:=key K 0 p (by omega) (by omega) ⟨rfl,rfl,rfl,fun c hc=>by rw[if_neg (by omega),if_neg (by omega)];exact⟨rfl,rfl⟩⟩
 simpa using this
end
theorem Bfi{w:C8}(I:Inv w){k:Int}(hk:0≤k∧k<(w.fL.length:Int))(p':Dp)(l':List Au)(t':Int->Lk)(hN:l'.length=w.fL.length)
  (ho: ∀x,0≤x∧x<(w.fL.length:Int)->x≠k-> ∃a b c,gt l' x=lnk (gt w.fL x) a b c∧(0≤a∧a≤w.fC.Fb)∧(0≤b∧b≤w.fC.Fb)∧(0≤c∧c≤w.fC.Fb))
  (hs2:(gt w.fL k).Vt≠2) (L:Aus w.fC (gt l' k)) (A':AtT l' t') (F':Ak4 w.fL.length t' (Awv w.fQ))
  (P':A6b w.fC p') (hm:p'.Pm=w.fP.Pm)
  (hone: ∀c,0≤c∧c<w.fC.Az->(gt p'.Vt c=2 ↔ gt w.fP.Vt c=2)∧(gt p'.Vt c=1∧gt p'.Pn c=k ↔ c∈(gt l' k).Az)∧ ∀x,x≠k->(gt p'.Vt c=1∧gt p'.Pn c=x ↔ gt w.fP.Vt c=1∧gt w.fP.Pn c=x))
  (hth:(gt l' k).Ga.all (Arw w.fC (gt l' k).Az)=true∧Apd (gt l' k).Ga=true∧Aru w.fC w.fP.Pm (gt l' k)=true):
  Inv (C8.mk w.fC p' l' w.fQ w.Adf):=by
 refine⟨Ala.2 P',by show(l'.length:Int)=_;rw[hN];exact I.len,fun x hx=> ?_,fun x hx c=> ?_,fun x hx=> ?_,⟨t',A',by show Ak4 (l'.length:Int) _ _;rw[hN];exact F'⟩,fun x hx=> ?_,I.chn,fun c=> ?_,I.sln,fun s=> ?_,I.log⟩
 ·have hx:0≤x∧x<(l'.length:Int):=hx;rw[hN]at hx
  show Aq2 w.fC (gt l' x)=true
  by_cases e:x=k
  ·rw[e];exact(Aje.2 L).1
  ·obtain⟨a,b,c,h1,h2,h3,h4⟩:=ho x hx e;rw[h1]
   by_cases hs:(gt w.fL x).Vt=1
   ·exact(Aje.2 (A7q (Aje.1 ⟨I.node x hx,hs⟩) h2 h3 h4)).1
   ·have X:=Ayz (I.node x hx) hs
    have B:=F'.tree.bare x hx.1 hx.2 (by rw[A' x (by rw[hN];exact hx),h1];simpa[A3i,lnk]using hs)
    rw[A' x (by rw[hN];exact hx),h1]at B
    obtain⟨_,B2,B3,B4⟩:=B
    have q1:a=0:=B2
    have q2:b=0:=B3
    have q3:c=0:=B4
    have this:lnk (gt w.fL x) 0 0 0=gt w.fL x:=by rw[X];rfl
    rw[q1,q2,q3,this];exact I.node x hx
 ·have hx:0≤x∧x<(l'.length:Int):=hx;rw[hN]at hx
  show c∈(gt l' x).Az ↔ (0≤c∧c<w.fC.Az)∧gt p'.Vt c=1∧gt p'.Pn c=x
  by_cases e:x=k
  ·rw[e];constructor
   ·intro h
    have hin:=Axn L.dist c h;exact⟨hin,(hone c hin).2.1.2 h⟩
   ·rintro⟨a,b⟩;exact(hone c a).2.1.1 b
  ·obtain⟨a,b,d,h1,_⟩:=ho x hx e;rw[h1]
   show c∈(gt w.fL x).Az ↔ _;rw[I.own x hx c];exact and_congr_right fun h=>((hone c h).2.2 x e).symm
 ·have hx:0≤x∧x<(l'.length:Int):=hx;rw[hN]at hx
  show(gt l' x).Ga.all (Arw w.fC (gt l' x).Az)=true∧Apd (gt l' x).Ga=true∧Aru w.fC p'.Pm (gt l' x)=true;rw[hm]
  by_cases e:x=k
  ·rw[e];exact hth
  ·obtain⟨a,b,d,h1,_⟩:=ho x hx e;rw[h1];exact I.thing x hx
 ·obtain⟨a,b⟩:=I.wrec x hx;refine⟨a,?_⟩;unfold Ape at b ⊢
  show(_||Ap3 ((p'.Pm.drop _).take _))=true
  rw[hm];exact b
 ·show c∈chL w.fQ ↔ (0≤c∧c<w.fC.Az)∧gt p'.Vt c=2;rw[I.chi c];exact and_congr_right fun h=>(hone c h).1.symm
 ·show s∈slL w.fQ ↔ (0≤s∧s<(l'.length:Int))∧(gt l' s).Vt=2;rw[I.sli s,hN];refine and_congr_right fun h=> ?_
  by_cases e:s=k
  ·rw[e,L.st];constructor
   ·intro q;exact absurd q hs2
   ·intro q;cases q
  ·obtain⟨a,b,d,h1,_⟩:=ho s h e;rw[h1];rfl
theorem A88{w:C8}(I:Inv w){p':Dp}{a n k:Int}(hk:0≤k∧k<(w.fL.length:Int))(hf:A1v w.fP a n=true)(T:Bhg w.fP p' a n k):
  A6b w.fC p'∧ ∀c,0≤c∧c<w.fC.Az->(gt p'.Vt c=2 ↔ gt w.fP.Vt c=2)∧(gt p'.Vt c=1∧gt p'.Pn c=k ↔ c∈(gt w.fL k).Az∨a≤c∧c<a+n)∧ ∀x,x≠k->(gt p'.Vt c=1∧gt p'.Pn c=x ↔ gt w.fP.Vt c=1∧gt w.fP.Pn c=x):=by
 have P:=Ala.1 I.pool;obtain⟨f1,f2,f3,f4⟩:=Axz.1 hf
 have hlen:=I.len;refine⟨⟨P.conf,by rw[T.mem];exact P.mem,by rw[T.st];exact P.st,by rw[T.own];exact P.own,fun c hc=> ?_⟩,fun c hc=> ?_⟩
 ·obtain⟨t1,t2⟩:=T.one c (by rw[P.st];exact hc)
  obtain⟨p1,p2,p3,p4⟩:=P.one c hc;rw[t1,t2,T.mem]
  by_cases q:a≤c∧c<a+n
  ·rw[if_pos q,if_pos q];exact⟨by omega,fun _=>by omega,fun h=>absurd rfl h,fun h=>by omega⟩
  ·rw[if_neg q,if_neg q];exact⟨p1,p2,p3,p4⟩
 ·obtain⟨t1,t2⟩:=T.one c (by rw[P.st];exact hc)
  rw[t1,t2]
  have ho:=I.own k hk c
  by_cases q:a≤c∧c<a+n
  ·rw[if_pos q,if_pos q,f4 c q];refine⟨by omega,⟨fun _=> .inr q,fun _=>⟨rfl,rfl⟩⟩,fun x hx=>⟨fun h=>absurd h.2.symm hx,fun h=>by omega⟩⟩
  ·rw[if_neg q,if_neg q];refine⟨Iff.rfl,⟨fun h=> .inl (ho.2 ⟨hc,h⟩),fun h=> ?_⟩,fun x hx=>Iff.rfl⟩;rcases h with h|h
   ·exact(ho.1 h).2
   ·exact absurd h q
structure Buj (l l':List Au)(p k:Int):Prop where
 len:l'.length=l.length
 at_:gt l' k=Au.mk (gt l k).Vt (gt l k).Dc (gt l k).S5 (p+1) (gt l p).S5 (gt l k).Eg (gt l p).Eg 0 (gt l k).Az (gt l k).Ade (gt l k).S9 (gt l k).Ga (gt l k).Fo
 ot: ∀x,0≤x∧x<(l.length:Int)->x≠k->gt l' x=lnk (gt l x) (if x=p then k+1 else(gt l x).Eg) (gt l x).S7 (if x+1=(gt l p).Eg then k+1 else(gt l x).S8)
section
variable {K:Nat} (hK:281474976710656≤K)
include hK
theorem Bo1{l:List Au}(hl:Afd l)(h8:l.length≤1000){p k:Int}(hp:0≤p∧p<(l.length:Int))(hk:0≤k∧k<(l.length:Int))(hne:p≠k)(hf:0≤(gt l p).Eg∧(gt l p).Eg≤(l.length:Int))(hfk:(gt l p).Eg≠k+1): ∃l',Axw K l p k=some l'∧Buj l l' p k:=by
 have e1:An7 .i64 p 1=p+1:=ad1 (by omega) (by omega)
 have e2:An7 .i64 k 1=k+1:=ad1 (by omega) (by omega)
 have e3:An8 .i64 (gt l p).Eg 1=(gt l p).Eg - 1:=sb1 (by omega) (by omega)
 have g1: ∀v,gt (l.set k.toNat v) k=v:=fun v=>Awf hk v
 have g2: ∀v,gt (l.set k.toNat v) p=gt l p:=fun v=>Ayw hk.1 hp (Ne.symm hne) v;unfold Axw Azg;rw[A2k hK hl,Z0,e1,e2,Axs,decide_eq_true (by omega),Z0,cond_true,Axs,decide_eq_true (by omega),Z0,cond_true,Ah0 hne,cond_false,e3]
 simp only[Aqi,if_pos hp,if_pos hk,Z49,g1,g2,List.set_set];rw[Axs,Z0]
 have hp': ∀v:Au,0≤p∧p<((l.set k.toNat v).length:Int):=fun v=>by rw[Z49];exact hp
 have h2: ∀(u v:Au) (x:Int),0≤x∧x<(l.length:Int)->gt ((l.set k.toNat u).set p.toNat v) x=if x=p then v else if x=k then u else gt l x:=by
  intro u v x hx;rw[Ap8 (hp' _) (by simpa using hx),Ap8 hk hx]
 by_cases q:1≤(gt l p).Eg∧(gt l p).Eg≤(l.length:Int)
 ·rw[decide_eq_true q,cond_true,if_pos ⟨by omega,by omega⟩]
  refine⟨_,rfl,by simp,?_,fun x hx hxk=> ?_⟩
  ·rw[Ayw (by omega) (by simpa using hk) (by omega),Ayw hp.1 (by simpa using hk) hne,g1]
  ·by_cases a:x=(gt l p).Eg - 1
   ·rw[if_pos (show x+1=(gt l p).Eg by omega),←a,Awf (by simpa using hx),h2 _ _ x hx,if_neg hxk]
    by_cases b:x=p
    ·rw[if_pos b,if_pos b,b];rfl
    ·rw[if_neg b,if_neg b];rfl
   ·rw[Ayw (by omega) (by simpa using hx) (Ne.symm a),h2 _ _ x hx,if_neg hxk,if_neg (show ¬x+1=(gt l p).Eg by omega)]
    by_cases b:x=p
    ·rw[if_pos b,if_pos b,b];rfl
    ·rw[if_neg b,if_neg b];rfl
 ·rw[decide_eq_false q,cond_false];refine⟨_,rfl,by simp,?_,fun x hx hxk=> ?_⟩
  ·rw[Ayw hp.1 (by simpa using hk) hne,g1]
  ·rw[h2 _ _ x hx,if_neg hxk,if_neg (show ¬x+1=(gt l p).Eg by omega)]
   by_cases b:x=p
   ·rw[if_pos b,if_pos b,b];rfl
   ·rw[if_neg b,if_neg b];rfl
end
def A8q (g c:Int):Au:=Au.mk 1 g 0 0 0 0 0 0 [c] (c+1) 0 [] []
structure Bfj (w:C8)(t:Int->Lk)(k c p:Int):Prop where
 hk:0≤k∧k<(w.fL.length:Int)
 st:(gt w.fL k).Vt=0
 free:A1v w.fP c 1=true
 up:p= -1∨Al w.fL.length t p∧(rise w.fL.length t w.fL.length p).length<4
theorem Bfj.bare{w:C8}(I:Inv w){t:Int->Lk}{k c p:Int}(M:Bfj w t k c p):gt w.fL k=Aqt 0 (gt w.fL k).Dc:=by
 have:=Ayz (I.node k M.hk) (by rw[M.st];decide)
 rw[M.st]at this;exact this
def mkN (w:C8)(k c p:Int):Au:=Au.mk 1 (gt w.fL k).Dc 0 (p+1) (if p+1=0 then 0 else(gt w.fL p).S5) 0 (if p+1=0 then 0 else(gt w.fL p).Eg) 0 [c] (c+1) 0 [] []
structure Bqw (w:C8)(l':List Au)(k c p:Int):Prop where
 len:l'.length=w.fL.length
 at_:gt l' k=mkN w k c p
 ot: ∀x,0≤x∧x<(w.fL.length:Int)->x≠k->gt l' x=lnk (gt w.fL x) (if x=p then k+1 else(gt w.fL x).Eg) (gt w.fL x).S7 (if p+1≠0∧x+1=(gt w.fL p).Eg then k+1 else(gt w.fL x).S8)
theorem A6e{c:Eb}{n:Au}{mem:List Int}{ch:Int}(h1:n.Ade=ch+1)(h2:n.S9=0)(hz:Ap3 (At7 c mem ch)=true)(ha:n.Ga.all (fun t=>Ank t (Avb c n))=true):Aru c mem n=true:=by
 unfold Aru;rw[ha,Bool.and_true,Bool.or_eq_true];refine .inr ?_
 have e1:(Avb c n).fAt=ch*c.Hi:=by unfold Avb;rw[h1,h2,Int.add_sub_cancel,Int.add_zero]
 have e2:(Avb c n).Aj0=c.Hi:=by unfold Avb;rw[h2];simp
 rw[e1,e2];exact hz
theorem Bl7{w:C8}(I:Inv w){t:Int->Lk}(A:AtT w.fL t)(F:Ak4 w.fL.length t (Awv w.fQ)){k c p:Int}(M:Bfj w t k c p){p':Dp}(T:Bhg w.fP p' c 1 k){l':List Au}(L:Bqw w l' k c p):Inv (C8.mk w.fC p' l' w.fQ w.Adf):=by
 have hk:=M.hk
 have hb:=M.bare I
 have hb1:(gt w.fL k).Az=[]:=by rw[hb];rfl
 have P:=Ala.1 I.pool;obtain⟨T1,T2⟩:=A88 I hk M.free T;obtain⟨f1,f2,f3,f4⟩:=Axz.1 M.free;obtain⟨b1,b2,b3,b4,b5,b6⟩:=Gx I.conf
 have hlen:=I.len
 have hg:=A1e (I.node k hk)
 have hc:0≤c∧c<w.fC.Az:=by have:=P.st;omega
 have hp:p= -1∨(0≤p∧p<(w.fL.length:Int)):=M.up.imp_right fun h=>h.1.lv.1
 have hpf:p+1≠0->(0≤p∧p<(w.fL.length:Int))∧p≠k:=fun h=>by
  rcases M.up with e|⟨e,_⟩
  ·omega
  ·refine⟨e.lv.1,fun q=> ?_⟩
   have:=((Awh A).1 e.lv).2;rw[q,M.st]at this;cases this
 have hA:AtT l' (ins t k p):=by
  intro x hx;rw[L.len]at hx
  by_cases e:x=k
  ·subst e;rw[Awg,L.at_];unfold mkN A3i;simp only
   by_cases q:p+1=0
   ·rw[if_pos q,if_pos q,if_pos q,if_pos q];rfl
   ·rw[if_neg q,if_neg q,if_neg q,if_neg q,A p (hpf q).1];rfl
  ·rw[Atz e,L.ot x hx e,A x hx]
   by_cases q:p+1=0
   ·rw[if_neg (fun r:p+1≠0∧x+1=(t p).fi=>r.1 q),if_neg (fun r:p+1≠0∧x+1=(gt w.fL p).Eg=>r.1 q)];rfl
   ·rw[A p (hpf q).1];rfl
 have hF:Ak4 w.fL.length (ins t k p) (Awv w.fQ):=by
  refine Bb6 F hk ?_ ?_ M.up
  ·rw[A k hk];show((gt w.fL k).Vt==1)=false;rw[M.st];rfl
  ·rw[A k hk];show((gt w.fL k).Vt==2)=false;rw[M.st];rfl
 have hfp:0≤(if p+1=0 then 0 else(gt w.fL p).Eg)∧(if p+1=0 then 0 else(gt w.fL p).Eg)≤w.fC.Fb:=by
  split
  ·omega
  ·rename_i q
   have:=(I.rg.rg p (hpf q).1).2.1;omega
 have hep:0≤(if p+1=0 then 0 else(gt w.fL p).S5):=by
  split
  ·omega
  ·rename_i q;rcases M.up with e|⟨e,_⟩
   ·omega
   ·exact(I.live A e.lv).ep
 have hz:Ap3 (At7 w.fC w.fP.Pm c)=true:=(P.one c hc).2.2.2 (f4 c ⟨by omega,by omega⟩)
 refine Bfi I hk p' l' (ins t k p) L.len (fun x hx e=>⟨_,_,_,L.ot x hx e,?_,?_,?_⟩) (by rw[M.st];decide) ?_ hA hF T1 T.mem (fun x hx=> ?_) ?_
 ·have:=(I.rg.rg x hx).2.1;split<;>omega
 ·have:=(I.rg.rg x hx).2.2.1;omega
 ·have:=(I.rg.rg x hx).2.2.2;split<;>omega
 ·rw[L.at_];refine⟨I.conf,rfl,hg.2.2,?_,⟨Int.le_refl 0,by show(0:Int)≤_;omega⟩,hfp,⟨Int.le_refl 0,by show(0:Int)≤_;omega⟩,Int.le_refl 0,hep,A2b.2 ⟨by simp[mkN],fun x hx=> ?_⟩,?_,Z21 _,Z21 _,rfl,rfl⟩
  ·show 0≤p+1∧p+1≤_;omega
  ·rw[Mx.1 (show x∈[c] from hx)];exact hc
  ·unfold A4q mkN;simp only;rw[Ah0 (by omega),cond_false,sb1 (by omega) (by omega),Int.add_sub_cancel,Ael.2 ⟨by omega,by omega⟩]
   simp
 ·obtain⟨a1,a2,a3⟩:=T2 x hx;refine⟨a1,?_,a3⟩;rw[a2,hb1,L.at_]
  show x∈[]∨_ ↔ x∈[c];rw[Mx];constructor
  ·rintro(h|h)
   ·cases h
   ·omega
  ·intro h;exact .inr (by omega)
 ·rw[L.at_];exact⟨rfl,rfl,A6e rfl rfl hz rfl⟩
theorem Bl8{l:List Au}{t:Int->Lk}(A:AtT l t)(R:Rg l): ∀(n:Nat) (k:Int),Au0 l (Ai1 l n k)=true->A06 l (Ai1 l n k)=true->Al l.length t k:=by
 intro n
 induction n with
 |zero=>intro k _ h;simp[Ai1,A06]at h
 |succ n ih=>
  intro k h1 h2;unfold Ai1 at h1 h2
  by_cases hk:0≤k∧k<(l.length:Int)
  ·rw[if_pos hk]at h1 h2
   have hu:=(R.rg k hk).1
   have hl:=R.len;rw[sb1 (by omega) (by omega)]at h1 h2
   cases hr:Ai1 l n ((gt l k).fUp - 1)with
   |nil=>
    rw[hr]at h1 h2
    have s1:(gt l k).Vt=1:=by simpa[Au0]using h1
    have s2:(gt l k).fUp=0:=by
     have:((gt l (gt [k] ((0:Nat):Int))).fUp==0)=true:=by simpa[A06]using h2
     exact beq_iff_eq.1 this
    exact .root ((Awh A).2 ⟨hk,s1⟩) (by rw[A k hk];exact s2)
   |cons y r=>
    have hy:y=(gt l k).fUp - 1∧0≤y∧y<(l.length:Int):=by
     cases n with
     |zero=>simp[Ai1]at hr
     |succ m=>
      unfold Ai1 at hr;split at hr
      ·rename_i q;obtain⟨e,_⟩:=List.cons.inj hr;exact⟨e.symm,by omega,by omega⟩
      ·cases hr
    rw[hr]at h1 h2
    have h1:((gt l k).Vt==1&&((gt l k).S6==(gt l y).S5)&&Au0 l (y::r))=true:=h1;rw[Z4,Z4,beq_iff_eq,beq_iff_eq]at h1;obtain⟨⟨s1,s2⟩,s3⟩:=h1
    have s4:A06 l (y::r)=true:=by
     unfold A06 at h2 ⊢;rw[if_pos (by simp)]at h2 ⊢
     have e:gt (k::y::r) (((k::y::r).length - 1:Nat):Int)=gt (y::r) (((y::r).length - 1:Nat):Int):=by
      rw[show(k::y::r).length - 1=((y::r).length - 1)+1 by simp]
      exact A0u _ _ (by simp)
     rw[e]at h2;exact h2
    have h5:(gt l y).Vt=1:=by
     cases r with
     |nil=>simpa[Au0]using s3
     |cons z r=>
      simp only[Au0,Z4,beq_iff_eq]at s3;exact s3.1.1
    have h6:=ih ((gt l k).fUp - 1) (by rw[hr];exact s3) (by rw[hr];exact s4)
    refine .step ((Awh A).2 ⟨hk,s1⟩) ?_ (by rw[A k hk];exact h6)
    unfold Cu;rw[A k hk]
    show Lv _ t ((gt l k).fUp - 1)∧(t ((gt l k).fUp - 1)).ep=(gt l k).S6;rw[←hy.1,A y hy.2,s2];exact⟨(Awh A).2 ⟨hy.2,h5⟩,rfl⟩
  ·rw[if_neg hk]at h2;simp[A06]at h2
theorem A89{w:C8}(I:Inv w){k:Int}(h:At9 w.fL k=true):AlW w.fL k:=by
 obtain⟨t,A,_⟩:=I.forest;unfold At9 at h;rw[Z4]at h;exact⟨t,A,Bl8 A I.rg _ _ h.1 h.2⟩
theorem A33{w:C8}(I:Inv w){h:An}(h0:(Aur w.fL h).2=0):AlW w.fL (Aur w.fL h).1:=by
 unfold Aur at *;cases e1:A07 h with
 |false=>rw[e1]at h0;simp at h0
 |true=>
  rw[e1]at h0;simp only[cond_true]at h0 ⊢;cases e2:decide (At8 w.fL h<0)with
  |true=>rw[e2]at h0;simp at h0
  |false=>
   rw[e2]at h0;simp only[cond_false]at h0 ⊢;cases e3:At9 w.fL (At8 w.fL h)with
   |false=>rw[e3]at h0;simp at h0
   |true=>simp only[cond_true];exact A89 I e3
section
variable {K:Nat} (hK:281474976710656≤K)
include hK
theorem Bcg{w:C8}(hw:Ano w)(h8:w.fL.length≤1000): ∃r,Az3 K w=some r:=by
 have key: ∀(f i:Nat) (v:Int),i≤w.fL.length->w.fL.length - i<f-> ∃r,Ai5 K f v (i:Int) w.fC.Az w.fC.Hi w.fC.Fb w.fC.G8 w.fC.Fc w.fC.Hj w.fP.Pm w.fP.Vt w.fP.Pn w.fL w.fQ w.Adf=some r:=by
  intro f
  induction f with
  |zero=>intro i _ _ h;omega
  |succ f ih=>
   intro i v hi hf;rw[Ai5];rcases E4 i w.fL.length with h|h
   ·have go: ∀v,∃r,Anp K (i:Int) w.fC.Az w.fC.Hi w.fC.Fb w.fC.G8 w.fC.Fc w.fC.Hj w.fP.Pm w.fP.Vt w.fP.Pn w.fL w.fQ w.Adf (Ai5 K f) v=some r:=by
     intro v;unfold Anp;rw[Aep (by omega)]
     exact ih (i+1) v h (by omega)
    rw[Ae4 h,cond_true,if_pos (Ajc h),A29 hK hw.l _ ⟨by omega,by omega⟩]
    simp only[Z0,if_pos (Ajc h)];cases (gt w.fL (i:Int)).Vt==0 with
    |true=>exact go _
    |false=>
     simp only[cond_false];cases At9 w.fL (i:Int)with
     |true=>exact go _
     |false=>
      simp only[cond_false];cases (gt w.fL (i:Int)).Vt != 3 with
      |false=>exact go _
      |true=>
       simp only[cond_true];cases decide ((gt w.fL (i:Int)).Dc<w.fC.Hj)<;>exact go _
   ·rw[Afn h];exact⟨_,rfl⟩
 exact key K 0 0 (Z21 _) (by omega)
theorem A7y{w:C8}(hw:Ano w)(h8:w.fL.length≤1000): ∃r,Ax4 K w=some r∧r.length≤w.fL.length∧ ∀x∈r,(0≤x∧x<(w.fL.length:Int))∧At9 w.fL x=true:=by
 have hm:=Wx
 have key: ∀(f i:Nat) (v:List Int),i≤w.fL.length->w.fL.length - i<f->v.length≤i->(∀x∈v,(0≤x∧x<(w.fL.length:Int))∧At9 w.fL x=true)-> ∃r,Ard K f v (i:Int) w.fC.Az w.fC.Hi w.fC.Fb w.fC.G8 w.fC.Fc w.fC.Hj w.fP.Pm w.fP.Vt w.fP.Pn w.fL w.fQ w.Adf=some r∧r.length≤w.fL.length∧ ∀x∈r,(0≤x∧x<(w.fL.length:Int))∧At9 w.fL x=true:=by
  intro f
  induction f with
  |zero=>intro i _ _ h;omega
  |succ f ih=>
   intro i v hi hf hl hv;rw[Ard];rcases E4 i w.fL.length with h|h
   ·rw[Ae4 h,cond_true,A29 hK hw.l _ ⟨by omega,by omega⟩]
    simp only[Z0];cases e:At9 w.fL (i:Int)with
    |false=>
     simp only[cond_false];unfold Ast;rw[Aep (by omega)]
     exact ih (i+1) v h (by omega) (by omega) hv
    |true=>
     simp only[cond_true];rw[if_pos ⟨by simp;omega,by simp;omega⟩]
     unfold Ast;rw[Aep (by omega)]
     refine ih (i+1) _ h (by omega) (by simp;omega) fun x hx=> ?_
     rcases Gh.1 hx with hx|hx
     ·exact hv x hx
     ·rw[Mx.1 hx];exact⟨⟨by omega,by omega⟩,e⟩
   ·rw[Afn h];exact⟨_,rfl,by omega,hv⟩
 exact key K 0 [] (Z21 _) (by omega) (by simp) (fun x hx=>by cases hx)
theorem A3p{w:C8}(hw:Ano w)(h8:w.fL.length≤1000)(n:Int): ∃b,Arx K w n=some b:=by
 obtain⟨r,e,hl,_⟩:=A7y hK hw h8
 have key: ∀(f i:Nat) (v:Int),i≤r.length->r.length - i<f-> ∃x,Aqo K r f v (i:Int) w.fC.Az w.fC.Hi w.fC.Fb w.fC.G8 w.fC.Fc w.fC.Hj w.fP.Pm w.fP.Vt w.fP.Pn w.fL w.fQ w.Adf=some x:=by
  intro f
  induction f with
  |zero=>intro i _ _ h;omega
  |succ f ih=>
   intro i v hi hf;rw[Aqo];rcases E4 i r.length with h|h
   ·rw[Ae4 h,cond_true,if_pos (Ajc h),A4r hK _ _ hw.p.st.2,Z0,Aep (by omega)]
    exact ih (i+1) _ h (by omega)
   ·rw[Afn h];exact⟨_,rfl⟩
 obtain⟨x,ex⟩:=key K 0 0 (Z21 _) (by omega)
 have ex:Aqo K r K 0 0 w.fC.Az w.fC.Hi w.fC.Fb w.fC.G8 w.fC.Fc w.fC.Hj w.fP.Pm w.fP.Vt w.fP.Pn w.fL w.fQ w.Adf=some x:=ex;unfold Arx Az4;rw[e,Z0,ex];simp only[Z0];cases decide (n≥0)<;>cases decide (n≤w.fC.Az)<;>exact⟨_,rfl⟩
omit hK in
theorem A3q{l:List Au}(hl:l.length≤1000000)(k:Int): ∃h,Aub K l k=some h:=by
 unfold Aub;rw[A05 K (by omega),Z0]
 by_cases q:0≤k∧k<(l.length:Int)
 ·rw[decide_eq_true q,if_pos q];exact⟨_,rfl⟩
 ·rw[decide_eq_false q];exact⟨_,rfl⟩
end
def A3r (n:Au)(c:Int):Au:=Au.mk n.Vt n.Dc n.S5 n.fUp n.S6 n.Eg n.S7 n.S8 (n.Az++[c]) (c+1) 0 n.Ga n.Fo
theorem A5r{c:Eb}{n:Au}(L:Aus c n){k:Int}(hk:0≤k∧k<c.Az)(hn:k ∉ n.Az):Aus c (A3r n k):=by
 obtain⟨b1,b2,_⟩:=Gx L.conf
 have hd:=A2b.1 L.dist;refine⟨L.conf,L.st,L.gen,L.up,L.first,L.next,L.prev,L.ep,L.ue,A2b.2 ⟨Ai8.2 ⟨hd.1,by simp,fun x h1 h2=>by rw[Mx]at h2;subst h2;exact hn h1⟩,fun x hx=> ?_⟩,?_,L.nth,L.ntag,L.tags,L.things⟩
 ·rcases Gh.1 hx with h|h
  ·exact hd.2 x h
  ·rw[Mx.1 h];exact hk
 ·unfold A4q A3r;simp only;rw[Ah0 (by omega),cond_false,sb1 (by omega) (by omega),Int.add_sub_cancel,Ael.2 ⟨by omega,by omega⟩]
  simp
section
variable {K:Nat} (hK:281474976710656≤K)
include hK
theorem A5s{c:Eb}{n:Au}(L:Aus c n)(hw:Aql n){k:Int}(hk:0≤k∧k<c.Az)(hn:k ∉ n.Az):Aut K c n k=some (A3r n k,true):=by
 have hm:=Wx
 have L2:=A5r L hk hn;obtain⟨b1,b2,_⟩:=Gx L.conf
 have h1:=Asi L.conf L.dist
 have h3:=L.nth
 have h4:=L.ntag
 have e:Au.mk n.Vt n.Dc n.S5 n.fUp n.S6 n.Eg n.S7 n.S8 (n.Az++[k]) (An7 .i64 k 1) 0 n.Ga n.Fo=A3r n k:=by unfold A3r;rw[ad1 (by omega) (by omega)]
 unfold Aut
 have hb:A3r n k=A3r n k:=rfl;rw[At3 K hw,Z0,show(n.Vt != 1)=false by rw[L.st];rfl,cond_false,Aoh,Ay7 hK L.conf,Ael.2 ⟨by omega,by omega⟩,Z0,Bool.not_true,cond_false,if_pos ⟨by simp;omega,by simp;omega⟩,e]
 have hl:(A3r n k).Az.length=n.Az.length+1:=by unfold A3r;simp
 rw[Avv hK c (A3r n k) (by omega) (show n.Ga.length≤_ by omega) (show n.Fo.length≤_ by omega),(Aje.2 L2).1]
 rfl
omit hK in
theorem D8.le{w:C8}{E E':Int}{n m:Nat}(G:D8 w E n)(hE:E≤E')(h:n≤m):D8 w E' m:=⟨G.inv,G.mem,fun k hk=>by have:=G.ep k hk;exact⟨Int.le_trans this.ep hE,Int.le_trans this.ue hE,this.cur⟩,Tg G.wt h⟩
theorem Bhh{E:Int}{n:Nat}(hE:0≤E∧E≤900000000)(hn:n≤900000000){w:C8}(G:D8 w E n){p at_ ch:Int}(hp:p= -1∨AlW w.fL p∧(Ai1 w.fL w.fL.length p).length<4)(ha:(0≤at_∧at_<(w.fL.length:Int))∧(gt w.fL at_).Vt=0)(hc:A1v w.fP ch 1=true):
  ∃p' l',Arn K w.fP ch 1 at_=some p'∧(p= -1->l'=w.fL.set at_.toNat (A8q (gt w.fL at_).Dc ch))∧(p≠ -1->Axw K (w.fL.set at_.toNat (A8q (gt w.fL at_).Dc ch)) p at_=some l')∧D8 (C8.mk w.fC p' l' w.fQ w.Adf) E (n+18)∧l'.length=w.fL.length:=by
 have I:=G.inv
 have W:=G.ww (by omega) (by omega)
 obtain⟨t,A,F⟩:=I.forest;obtain⟨b1,b2,b3,b4,b5,b6⟩:=Gx I.conf
 have P:=Ala.1 I.pool
 have hst:=P.st
 have how:=P.own
 have hlen:=I.len;obtain⟨f1,f2,f3,f4⟩:=Axz.1 hc
 have M:Bfj w t at_ ch p:=⟨ha.1,ha.2,hc,hp.imp_right fun h=>⟨h.1.al A,by rw[A44 A I.rg]at h;exact h.2⟩⟩
 obtain⟨p',ep,T⟩:=A4k hK W.p (by omega) (by omega) (k:=at_) hc
 have hg:=A1e (I.node at_ ha.1)
 have hbare:=M.bare I
 have hl': ∃l',(p= -1->l'=w.fL.set at_.toNat (A8q (gt w.fL at_).Dc ch))∧(p≠ -1->Axw K (w.fL.set at_.toNat (A8q (gt w.fL at_).Dc ch)) p at_=some l')∧Bqw w l' at_ ch p:=by
  by_cases q:p= -1
  ·refine⟨w.fL.set at_.toNat (A8q (gt w.fL at_).Dc ch),fun _=>rfl,fun h=>absurd q h,by simp,?_,fun x hx hne=> ?_⟩
   ·rw[Awf ha.1];unfold A8q mkN;rw[q];rfl
   ·have hpx:x≠p:=by omega
    rw[Ayw ha.1.1 hx (Ne.symm hne),if_neg hpx,if_neg (fun r=>r.1 (by omega))]
    rfl
  ·obtain⟨al,_⟩:=hp.resolve_left q
   have al:=al.al A
   have hpi:=al.lv.1
   have hpl:=(Awh A).1 al.lv
   have hne:p≠at_:=fun e=>by rw[e,ha.2]at hpl;exact absurd hpl.2 (by decide)
   have hgp: ∀v,gt (w.fL.set at_.toNat v) p=gt w.fL p:=fun v=>Ayw ha.1.1 hpi (Ne.symm hne) v
   have hnw:Aql (A8q (gt w.fL at_).Dc ch):=⟨K1 (x:=(1:Int)) (by omega) (by omega),K1 (by show _≤(gt w.fL at_).Dc;omega) (by show(gt w.fL at_).Dc≤_;omega),At1,At1,At1,At1,At1,At1,Avz (fun x hx=>by rw[Mx.1 (show x∈[ch] from hx)];omega) (by show [ch].length≤_;simp),K1 (by show _≤ch+1;omega) (by show ch+1≤_;omega),At1,Azy,Aty⟩
   have hW:Afd (w.fL.set at_.toNat (A8q (gt w.fL at_).Dc ch)):=by
    refine⟨fun x hx=> ?_,by rw[Z49];exact W.l.2⟩
    rcases Z54 hx with h|h
    ·exact W.l.1 x h
    ·rw[h];exact hnw
   have hfr:=(I.rg.rg p hpi).2.1;obtain⟨l',e,L⟩:=Bo1 hK hW (by simp;omega) (p:=p) (k:=at_) (by simpa using hpi) (by simpa using ha.1) hne (by rw[hgp];simpa using hfr) (by
    rw[hgp];intro e
    have h1:=(F.tree.link p al.lv).first (by rw[A p hpi];show(gt w.fL p).Eg≠0;omega)
    have h2:=((Awh A).1 h1.1).2;rw[A p hpi]at h2
    have h2:(gt w.fL ((gt w.fL p).Eg - 1)).Vt=1:=h2;rw[e,Int.add_sub_cancel,ha.2]at h2;cases h2)
   refine⟨l',fun h=>absurd h q,fun _=>e,by rw[L.len];simp,?_,fun x hx hxk=> ?_⟩
   ·rw[L.at_,Awf ha.1,hgp];unfold A8q mkN;rw[if_neg (by omega),if_neg (by omega)]
   ·rw[L.ot x (by simpa using hx) hxk,Ayw ha.1.1 hx (Ne.symm hxk),hgp]
    by_cases r:x+1=(gt w.fL p).Eg
    ·rw[if_pos r,if_pos (show p+1≠0∧x+1=(gt w.fL p).Eg from⟨by omega,r⟩)]
    ·rw[if_neg r,if_neg (fun s:p+1≠0∧x+1=(gt w.fL p).Eg=>r s.2)]
 obtain⟨l',h1,h2,L⟩:=hl'
 have I':=Bl7 I A F M T L;refine⟨p',l',ep,h1,h2,⟨I',?_,fun x hx=> ?_,?_⟩,L.len⟩
 ·show ∀x∈p'.Pm,_;rw[T.mem];exact G.mem
 ·have hx:0≤x∧x<(l'.length:Int):=hx;rw[L.len]at hx
  show EpP E (gt l' x)
  by_cases e:x=at_
  ·rw[e,L.at_];refine⟨hE.1,?_,⟨by show 0≤ch+1;omega,by show ch+1≤_;omega⟩⟩
   show(if p+1=0 then 0 else(gt w.fL p).S5)≤E
   split
   ·exact hE.1
   ·rename_i q
    have:=(hp.resolve_left (by omega)).1.al A
    exact(G.ep p this.lv.1).ep
  ·rw[L.ot x hx e]
   have:=G.ep x hx;exact⟨this.ep,this.ue,this.cur⟩
 ·have hs:=A3n (f:=wtN w.fC) L.len ha.1 fun x hx hne=>by rw[L.ot x hx hne];rfl
  have e0:wtN w.fC (gt w.fL at_)=0:=by rw[hbare];exact A3o _ (by decide) _
  have e1:wtN w.fC (gt l' at_)≤18:=by
   rw[L.at_];unfold wtN mkN;simp only[if_pos,List.length_singleton,List.length_nil];omega
  have h3:=G.wt;unfold wt pot at h3 ⊢
  show(l'.map (wtN w.fC)).sum+_+_≤_;simp only at h3 ⊢;omega
end
section
variable {K:Nat} (hK:281474976710656≤K)
include hK
theorem A3s{E:Int}{n:Nat}(hE:0≤E∧E≤900000000)(hn:n≤900000000){w:C8}(G:D8 w E n){p:Int}(a b:Ex)(hp:a.Xc=0->p= -1∨AlW w.fL p∧(Ai1 w.fL w.fL.length p).length<4):
  ∃r w',Ao7 K p w.fC.Az w.fC.Hi w.fC.Fb w.fC.G8 w.fC.Fc w.fC.Hj w.fP.Pm w.fP.Vt w.fP.Pn w.fL w.fQ w.Adf a b=some (r,w')∧D8 w' E (n+18)∧w'.fC=w.fC:=by
 unfold Ao7
 by_cases h0:a.Xc=0
 ·have hp:=hp h0;rw[h0];simp only[bne_self_eq_false,cond_false];obtain⟨d,w1,e1,S⟩:=Bd2 hK (by omega:0≤E∧E≤1000000000) (by omega) 1 (run:=1) (by omega) G
  rw[show C8.mk (Eb.mk w.fC.Az w.fC.Hi w.fC.Fb w.fC.G8 w.fC.Fc w.fC.Hj) (Dp.mk w.fP.Pm w.fP.Vt w.fP.Pn) w.fL w.fQ w.Adf=w from rfl,e1]
  simp only[Z0]
  have G1:=S.good
  have T1:=S.stay
  have P1:=Ala.1 G1.inv.pool
  have hst:=P1.st
  have hlen:=G1.inv.len;obtain⟨b1,b2,b3,b4,b5,b6⟩:=Gx G1.inv.conf;obtain⟨at_,e2,h2⟩:=Baq hK (l:=w1.fL) (by omega)
  obtain⟨ch,e3,h3⟩:=A5a hK (p:=w1.fP) (by omega)
  rw[e2,e3];simp only[Z0]
  have G1':=D8.le G1 (Int.le_refl E) (by omega:n≤n+18)
  by_cases q1:at_<0
  ·rw[decide_eq_true q1];exact⟨_,_,rfl,G1',T1.conf⟩
  ·rw[decide_eq_false q1];simp only[cond_false]
   by_cases q2:ch<0
   ·rw[decide_eq_true q2];exact⟨_,_,rfl,G1',T1.conf⟩
   ·rw[decide_eq_false q2];simp only[cond_false];obtain⟨hat,hfree⟩:=h2.resolve_left (by omega)
    have hch:=h3.resolve_left (by omega)
    obtain⟨f1,f2,f3,f4⟩:=Axz.1 hch
    have hp1:p= -1∨AlW w1.fL p∧(Ai1 w1.fL w1.fL.length p).length<4:=hp.imp_right fun h=>by
     obtain⟨x1,_,x3⟩:=T1.node p h.1;rw[x3,T1.len];exact⟨x1,h.2⟩
    obtain⟨p',l',et,k1,k2,G2,hl2⟩:=Bhh hK hE hn G1 hp1 ⟨hat,hfree⟩ hch
    have hg:=A1e (G1.inv.node at_ hat)
    have L0:Aus w1.fC (Au.mk 1 (gt w1.fL at_).Dc 0 0 0 0 0 0 [] 0 0 [] []):=⟨G1.inv.conf,rfl,hg.2.2,⟨Int.le_refl 0,by show(0:Int)≤_;omega⟩,⟨Int.le_refl 0,by show(0:Int)≤_;omega⟩,⟨Int.le_refl 0,by show(0:Int)≤_;omega⟩,⟨Int.le_refl 0,by show(0:Int)≤_;omega⟩,Int.le_refl 0,Int.le_refl 0,rfl,rfl,Z21 _,Z21 _,rfl,rfl⟩
    have W0:Aql (Au.mk 1 (gt w1.fL at_).Dc 0 0 0 0 0 0 [] 0 0 [] []):=A2p (E:=0) (Aje.2 L0).1 ⟨Int.le_refl 0,Int.le_refl 0,Int.le_refl 0,by show(0:Int)≤1000;omega⟩ (by omega)
    unfold Al1;simp only[Z0,if_pos hat];rw[et,Z0,A5s hK L0 W0 ⟨f1,by omega⟩ (by intro h;cases h),Z0]
    simp only
    have hnew:A3r (Au.mk 1 (gt w1.fL at_).Dc 0 0 0 0 0 0 [] 0 0 [] []) ch=A8q (gt w1.fL at_).Dc ch:=rfl;rw[hnew]
    by_cases q3:p= -1
    ·rw[decide_eq_false (by omega: ¬p≥0)]
     simp only[cond_false];rw[←k1 q3];obtain⟨hd,eh⟩:=A3q (K:=K) (l:=l') (by omega) at_
     obtain⟨t,w2,es,S2⟩:=A6w hK (E:=E) (n:=n+18) (by omega) (by omega) w1.fC.G8 G2
     unfold As6;rw[eh,Z0,show C8.mk (Eb.mk w1.fC.Az w1.fC.Hi w1.fC.Fb w1.fC.G8 w1.fC.Fc w1.fC.Hj) (Dp.mk p'.Pm p'.Vt p'.Pn) l' w1.fQ w1.Adf=C8.mk w1.fC p' l' w1.fQ w1.Adf from rfl,es]
     exact⟨_,_,rfl,S2.good,S2.stay.conf.trans T1.conf⟩
    ·have hp2:0≤p:=by
      obtain⟨t,A,F⟩:=G1.inv.forest;exact((hp1.resolve_left q3).1.al A).lv.1.1
     rw[decide_eq_true (show p≥0 from hp2)]
     simp only[cond_true];rw[k2 q3,Z0];obtain⟨hd,eh⟩:=A3q (K:=K) (l:=l') (by omega) at_
     obtain⟨t,w2,es,S2⟩:=A6w hK (E:=E) (n:=n+18) (by omega) (by omega) w1.fC.G8 G2
     unfold As6;rw[eh,Z0,show C8.mk (Eb.mk w1.fC.Az w1.fC.Hi w1.fC.Fb w1.fC.G8 w1.fC.Fc w1.fC.Hj) (Dp.mk p'.Pm p'.Vt p'.Pn) l' w1.fQ w1.Adf=C8.mk w1.fC p' l' w1.fQ w1.Adf from rfl,es]
     exact⟨_,_,rfl,S2.good,S2.stay.conf.trans T1.conf⟩
 ·rw[Arb h0];exact⟨_,_,rfl,D8.le G (Int.le_refl E) (by omega),rfl⟩
theorem Bch{E:Int}{n:Nat}(hE:0≤E∧E≤900000000)(hn:n≤900000000){w:C8}(G:D8 w E n){p:Int}(v:Bool)(a b:Ex)(hp:v=false->p= -1∨AlW w.fL p∧(Ai1 w.fL w.fL.length p).length<4):
  ∃r w',As7 K p v w.fC.Az w.fC.Hi w.fC.Fb w.fC.G8 w.fC.Fc w.fC.Hj w.fP.Pm w.fP.Vt w.fP.Pn w.fL w.fQ w.Adf a b=some (r,w')∧D8 w' E (n+18)∧w'.fC=w.fC:=by
 have W:=G.ww (by omega) (by omega)
 have hlen:=G.inv.len;obtain⟨b1,b2,b3,b4,b5,b6⟩:=Gx G.inv.conf;unfold As7;cases v with
 |true=>exact A3s hK hE hn G (p:=p) (Ex.mk 3 a.fH a.fR a.fB a.Xd a.G8 a.Po) b (fun h=>absurd (show(3:Int)=0 from h) (by decide))
 |false=>
  simp only[cond_false];rw[show C8.mk (Eb.mk w.fC.Az w.fC.Hi w.fC.Fb w.fC.G8 w.fC.Fc w.fC.Hj) (Dp.mk w.fP.Pm w.fP.Vt w.fP.Pn) w.fL w.fQ w.Adf=w from rfl]
  obtain⟨r,er⟩:=Bcg hK W (by omega)
  rw[er,Z0];cases r==0 with
  |true=>exact A3s hK hE hn G (p:=p) (Ex.mk 4 a.fH a.fR a.fB a.Xd a.G8 a.Po) b (fun h=>absurd (show(4:Int)=0 from h) (by decide))
  |false=>
   simp only[cond_false];obtain⟨f,ef⟩:=A3p hK W (by omega) 1
   rw[ef,Z0];cases f with
   |false=>exact A3s hK hE hn G (p:=p) (Ex.mk 5 a.fH a.fR a.fB a.Xd a.G8 a.Po) b (fun h=>absurd (show(5:Int)=0 from h) (by decide))
   |true=>exact A3s hK hE hn G (p:=p) a b (fun _=>hp rfl)
theorem Bd3{E:Int}{n:Nat}(hE:0≤E∧E≤900000000)(hn:n≤900000000){w:C8}(G:D8 w E n)(h:An): ∃r w',Aya K w h=some (r,w')∧D8 w' E (n+18)∧w'.fC=w.fC:=by
 have W:=G.ww (by omega) (by omega)
 have hlen:=G.inv.len;obtain⟨b1,b2,b3,b4,b5,b6⟩:=Gx G.inv.conf
 have hup: ∃p c,Az9 K w h=some (p,c)∧(c=0->p= -1∨AlW w.fL p):=by
  unfold Az9;cases ((h.Bk==0)&&((h.Dc==0)&&true))with
  |true=>exact⟨-1,0,rfl,fun _=> .inl rfl⟩
  |false=>
   simp only[cond_false];rw[Auz hK W.l,Z0];exact⟨_,_,rfl,fun h0=> .inr (A33 G.inv h0)⟩
 obtain⟨p,c,ep,hp⟩:=hup;unfold Aya;rw[ep,Z0,Azc hK w W.l,Z0];simp only
 by_cases q:c=0
 ·rw[q];simp only[bne_self_eq_false,cond_false];rcases hp q with e|e
  ·rw[e,decide_eq_false (by omega)]
   exact Bch hK hE hn G false _ _ (fun _=> .inl rfl)
  ·have hpi:0≤p∧p<(w.fL.length:Int):=by
    obtain⟨t,A,F⟩:=G.inv.forest;exact(e.al A).lv.1
   rw[decide_eq_true (show p≥0 from hpi.1)]
   simp only[cond_true];unfold Awk;rw[A2i hK W.l p ⟨by omega,by omega⟩]
   simp only[Z0];refine Bch hK hE hn G _ _ _ (fun hv=> .inr ⟨e,?_⟩)
   have:=of_decide_eq_false hv;omega
 ·rw[Arb q];exact A3s hK hE hn G (p:=p) (Ex.mk c (An.mk 0 0) (Bq.mk (An.mk 0 0) 0 0) [] (Bb2 w h) 0 0) (Ex.mk 0 (An.mk 0 0) (Bq.mk (An.mk 0 0) 0 0) [] 0 0 0) (fun h=>absurd h q)
end
theorem A7z{c:Eb}{ch:List Int}{t:Bd}(h:Arw c ch t=true){j:Int}(h0:t.fAt≤j)(h1:j<t.fAt+t.Aj0):j / c.Hi∈ch:=by
 unfold Arw at h;rw[Z4,Z1]at h;obtain⟨ht,hc⟩:=h;obtain⟨hs,hin⟩:=A13 ht;obtain⟨b1,b2,_⟩:=Gx hin.1
 have e1:t.fAt / c.Hi≤j / c.Hi:=Int.ediv_le_ediv (by omega) h0
 have e2:j / c.Hi≤(t.fAt+t.Aj0 - 1) / c.Hi:=Int.ediv_le_ediv (by omega) (by omega)
 have:=hc (j / c.Hi - t.fAt / c.Hi).toNat (by rw[List.mem_range];omega)
 rw[show t.fAt / c.Hi+(((j / c.Hi - t.fAt / c.Hi).toNat:Nat):Int)=j / c.Hi by omega]at this
 exact List.contains_iff_mem.1 this
theorem A5t{a s j:Int}(hs:0<s)(h0:a*s≤j)(h1:j<a*s+s):j / s=a:=by
 have h2:a≤j / s:=(Int.le_ediv_iff_mul_le hs).2 h0
 have h3:j / s<a+1:=Int.ediv_lt_of_lt_mul hs (by rw[Int.add_mul,Int.one_mul];exact h1)
 omega
theorem A2d{a b:Bd}(h: ∀j,a.fAt≤j->j<a.fAt+a.Aj0->b.fAt≤j->j<b.fAt+b.Aj0->False):Ank a b=true:=by
 unfold Ank;rw[decide_eq_true_iff]
 by_cases h1:a.Aj0≤0
 ·exact .inl h1
 by_cases h2:b.Aj0≤0
 ·exact .inr (.inl h2)
 by_cases h3:a.fAt+a.Aj0≤b.fAt
 ·exact .inr (.inr (.inl h3))
 by_cases h4:b.fAt+b.Aj0≤a.fAt
 ·exact .inr (.inr (.inr h4))
 exfalso
 by_cases h5:a.fAt≤b.fAt
 ·exact h b.fAt h5 (by omega) (by omega) (by omega)
 ·exact h a.fAt (by omega) (by omega) (by omega) (by omega)
theorem Bci{a b:Bd}(h:Ank a b=true){j:Int}(h1:a.fAt≤j)(h2:j<a.fAt+a.Aj0)(h3:b.fAt≤j)(h4:j<b.fAt+b.Aj0):False:=by
 unfold Ank at h;rw[decide_eq_true_iff]at h;omega
theorem Bar{l:List Bd}:Apd l=true ↔ l.Pairwise (fun a b=>Ank a b=true):=by
 unfold Apd;rw[Z1,List.pairwise_iff_getElem];constructor
 ·intro h i j hi hj hij
  have:=h j (by rw[List.mem_range];exact hj)
  rw[Z1]at this
  have h2:=this l[i] (by
   rw[List.mem_iff_getElem];exact⟨i,by simp;omega,by simp⟩)
  rwa[P2 hj]at h2
 ·intro h j hj;rw[List.mem_range]at hj;rw[Z1];intro o ho;obtain⟨i,hi,e⟩:=List.mem_iff_getElem.1 ho;simp only[List.length_take]at hi;simp only[List.getElem_take]at e;rw[P2 hj,←e];exact h i j (by omega) hj (by omega)
theorem A5b{l:List Bd}{t:Bd}(h:Apd l=true)(ht: ∀o∈l,Ank o t=true):Apd (l++[t])=true:=by
 rw[Bar]at h ⊢;rw[List.pairwise_append];exact⟨h,by simp,fun a ha b hb=>by rw[Mx.1 hb];exact ht a ha⟩
theorem A5c{c:Eb}{n:Au}(L:Aus c n)(hc:0≤n.Ade∧n.Ade≤1000)(h0:n.Ade≠0):n.Ade - 1∈n.Az∧0≤n.S9∧n.S9≤c.Hi:=by
 have:=L.cur;unfold A4q at this;rw[Ah0 h0,cond_false,Z4,Ael,sb1 (by omega) (by omega)]at this
 exact⟨List.contains_iff_mem.1 this.1,this.2⟩
theorem Bfk{c:Eb}{ch ch':List Int}(h: ∀x∈ch,x∈ch'){t:Bd}(ht:Arw c ch t=true):Arw c ch' t=true:=by
 unfold Arw at ht ⊢;rw[Z4,Z1]at ht ⊢;exact⟨ht.1,fun j hj=>List.contains_iff_mem.2 (h _ (List.contains_iff_mem.1 (ht.2 j hj)))⟩
def A70 (c:Eb)(n:Au)(off size:Int):Au:=Au.mk n.Vt n.Dc n.S5 n.fUp n.S6 n.Eg n.S7 n.S8 n.Az n.Ade (off+size) (n.Ga++[Bd.mk ((n.Ade - 1)*c.Hi+off) size 0]) n.Fo
structure Bl9 (c:Eb)(n:Au)(off size:Int):Prop where
 cur:n.Ade≠0
 ho:n.S9≤off
 hz:1≤size
 fit:off+size≤c.Hi
 cnt:n.Ga.length<12
structure ThP (c:Eb)(mem:List Int)(n:Au):Prop where
 inch:n.Ga.all (Arw c n.Az)=true
 apart:Apd n.Ga=true
 loose:Aru c mem n=true
theorem Bcj{c:Eb}{mem:List Int}{n:Au}{off size:Int}(L:Aus c n)(hc:0≤n.Ade∧n.Ade≤1000)(T:ThP c mem n)(S:Bl9 c n off size):Aus c (A70 c n off size)∧ThP c mem (A70 c n off size):=by
 obtain⟨b1,b2,_⟩:=Gx L.conf;obtain⟨m1,m2,m3⟩:=A5c L hc S.cur
 have hm:=Axn L.dist _ m1
 have ho:=S.ho;have hz:=S.hz;have hf:=S.fit;have hn:=S.cnt
 have hlo:=T.loose;unfold Aru at hlo;rw[Ah0 S.cur,Z52,Z4,Z1]at hlo;obtain⟨z1,z2⟩:=hlo
 have q0:0≤(n.Ade - 1)*c.Hi:=Int.mul_nonneg (by omega) (by omega)
 have q1:(n.Ade - 1)*c.Hi+c.Hi≤c.Az*c.Hi:=by
  have:(n.Ade - 1+1)*c.Hi≤c.Az*c.Hi:=Int.mul_le_mul_of_nonneg_right (by omega) (by omega)
  rw[Int.add_mul,Int.one_mul]at this;exact this
 have hby:Amn c=c.Az*c.Hi:=by unfold Amn;rw[L.conf];rfl
 have d1:((n.Ade - 1)*c.Hi+off) / c.Hi=n.Ade - 1:=A5t (by omega) (by omega) (by omega)
 have d2:((n.Ade - 1)*c.Hi+off+size - 1) / c.Hi=n.Ade - 1:=A5t (by omega) (by omega) (by omega)
 have htb:Ap4 c (Bd.mk ((n.Ade - 1)*c.Hi+off) size 0)=true:=by
  unfold Ap4;rw[decide_eq_true (show Axm c (Bd.mk ((n.Ade - 1)*c.Hi+off) size 0) from⟨L.conf,hz,by show 0≤_+off;omega,by rw[hby];show(n.Ade - 1)*c.Hi+off+size≤_;omega⟩)]
  show(decide (size≤c.Hi)&&(((n.Ade - 1)*c.Hi+off) / c.Hi==((n.Ade - 1)*c.Hi+off+size - 1) / c.Hi))=true;rw[d1,d2,decide_eq_true (by omega)];simp
 have htc:Arw c n.Az (Bd.mk ((n.Ade - 1)*c.Hi+off) size 0)=true:=by
  unfold Arw;rw[htb,Z30];simp only;rw[d1,d2,Int.sub_self,Z1];intro j hj;rw[List.mem_range]at hj;rw[show(j:Int)=0 by omega,Int.add_zero]
  exact List.contains_iff_mem.2 m1
 have hr: ∀o∈n.Ga,∀j,o.fAt≤j->j<o.fAt+o.Aj0->(n.Ade - 1)*c.Hi+n.S9≤j->j<(n.Ade - 1)*c.Hi+c.Hi->False:=fun o h j h1 h2 h3 h4=>Bci (z2 o h) h1 h2 (b:=Avb c n) h3 (by show j<(n.Ade - 1)*c.Hi+n.S9+(c.Hi - n.S9);omega)
 refine⟨⟨L.conf,L.st,L.gen,L.up,L.first,L.next,L.prev,L.ep,L.ue,L.dist,?_,?_,L.ntag,L.tags,?_⟩,⟨?_,?_,?_⟩⟩
 ·unfold A4q A70;simp only;rw[Ah0 S.cur,cond_false,sb1 (by omega) (by omega),List.contains_iff_mem.2 m1,Ael.2 ⟨by omega,by omega⟩];rfl
 ·show(n.Ga++[_]).length≤12;simp;omega
 ·show(n.Ga++[_]).all (Ap4 c)=true;rw[List.all_append,L.things,Fw,htb];rfl
 ·show(n.Ga++[_]).all (Arw c n.Az)=true;rw[List.all_append,T.inch,Fw,htc];rfl
 ·refine A5b T.apart fun o h=>A2d fun j h1 h2 h3 h4=>hr o h j h1 h2 ?_ ?_
  ·have h3:(n.Ade - 1)*c.Hi+off≤j:=h3;omega
  ·have h4:j<(n.Ade - 1)*c.Hi+off+size:=h4;omega
 ·unfold Aru;rw[Bool.or_eq_true,Z4];refine .inr ⟨?_,?_⟩
  ·rw[A3m]at z1 ⊢;intro j h1 h2 h3
   have h1:((n.Ade - 1)*c.Hi+(off+size)).toNat≤j:=h1
   have h2:j<((n.Ade - 1)*c.Hi+(off+size)).toNat+(c.Hi - (off+size)).toNat:=h2;refine z1 j ?_ ?_ h3
   ·show((n.Ade - 1)*c.Hi+n.S9).toNat≤j;omega
   ·show j<((n.Ade - 1)*c.Hi+n.S9).toNat+(c.Hi - n.S9).toNat;omega
  ·show(n.Ga++[_]).all _=true;rw[List.all_append,Fw,Z4,Z4,Z1];refine⟨fun o h=>A2d fun j h1 h2 h3 h4=>hr o h j h1 h2 ?_ ?_,A2d fun j h1 h2 h3 h4=> ?_,rfl⟩
   ·have h3:(n.Ade - 1)*c.Hi+(off+size)≤j:=h3;omega
   ·have h4:j<(n.Ade - 1)*c.Hi+(off+size)+(c.Hi - (off+size)):=h4;omega
   ·have h2:j<(n.Ade - 1)*c.Hi+off+size:=h2
    have h3:(n.Ade - 1)*c.Hi+(off+size)≤j:=h3;omega
def A5d (a n:Int):List Int:=(List.range n.toNat).map (fun(i:Nat)=>a+(i:Int))
theorem A5e{a n x:Int}:x∈A5d a n ↔ a≤x∧x<a+n:=by
 unfold A5d;rw[D9];constructor
 ·rintro⟨i,hi,e⟩;rw[List.mem_range]at hi;omega
 ·intro h;exact⟨(x - a).toNat,by rw[List.mem_range];omega,by omega⟩
theorem Bd4 (a n:Int):(A5d a n).Nodup:=by
 unfold A5d;refine List.Pairwise.map _ (fun x y h=> ?_) List.nodup_range;omega
def A1z (c:Eb)(n:Au)(a run size:Int):Au:=Au.mk n.Vt n.Dc n.S5 n.fUp n.S6 n.Eg n.S7 n.S8 (n.Az++A5d a run) n.Ade n.S9 (n.Ga++[Bd.mk (a*c.Hi) size run]) n.Fo
structure Bd5 (c:Eb)(n:Au)(a run size:Int):Prop where
 hz:c.Hi<size∧size≤200
 hr:run=Att size c.Hi
 at_:0≤a∧a+run≤c.Az
 new: ∀x∈n.Az,¬(a≤x∧x<a+run)
 cnt:n.Ga.length<12
theorem Bck{c:Eb}{mem:List Int}{n:Au}{a run size:Int}(L:Aus c n)(hc:0≤n.Ade∧n.Ade≤1000)(T:ThP c mem n)(S:Bd5 c n a run size):Aus c (A1z c n a run size)∧ThP c mem (A1z c n a run size):=by
 obtain⟨b1,b2,_⟩:=Gx L.conf
 have hz:=S.hz;have ha:=S.at_;have hn:=S.cnt
 have hrun:run=(size+c.Hi - 1) / c.Hi:=by
  rw[S.hr];unfold Att;rw[Ael.2 ⟨by omega,by omega⟩,Ael.2 ⟨by omega,by omega⟩];rfl
 have hru:size≤run*c.Hi:=by
  have:=Int.lt_ediv_add_one_mul_self (size+c.Hi - 1) (show 0<c.Hi by omega)
  rw[←hrun,Int.add_mul,Int.one_mul]at this;omega
 have hr1:1≤run:=by
  rw[hrun];exact(Int.le_ediv_iff_mul_le (by omega)).2 (by omega)
 have q0:0≤a*c.Hi:=Int.mul_nonneg (by omega) (by omega)
 have q1:a*c.Hi+run*c.Hi≤c.Az*c.Hi:=by
  rw[←Int.add_mul];exact Int.mul_le_mul_of_nonneg_right (by omega) (by omega)
 have hby:Amn c=c.Az*c.Hi:=by unfold Amn;rw[L.conf];rfl
 have htb:Ap4 c (Bd.mk (a*c.Hi) size run)=true:=by
  unfold Ap4;rw[decide_eq_true (show Axm c (Bd.mk (a*c.Hi) size run) from⟨L.conf,by show 1≤size;omega,q0,by rw[hby];show a*c.Hi+size≤_;omega⟩)]
  show(bif run==0 then _ else decide (size>c.Hi)&&(run==Att size c.Hi&&(a*c.Hi) % c.Hi==0))=true
  rw[Ah0 (by omega),cond_false,decide_eq_true (by omega),←S.hr,Int.mul_emod_left];simp
 have hdv: ∀j,a*c.Hi≤j->j<a*c.Hi+size->a≤j / c.Hi∧j / c.Hi<a+run:=fun j h1 h2=>by
  refine⟨(Int.le_ediv_iff_mul_le (by omega)).2 h1,Int.ediv_lt_of_lt_mul (by omega) ?_⟩
  rw[Int.add_mul];omega
 have htc:Arw c (n.Az++A5d a run) (Bd.mk (a*c.Hi) size run)=true:=by
  unfold Arw;rw[htb,Z30,Z1];intro j hj;rw[List.mem_range]at hj
  have e1:=hdv (a*c.Hi) (Int.le_refl _) (by omega)
  have e2:=hdv (a*c.Hi+size - 1) (by omega) (by omega)
  have hj:j<((a*c.Hi+size - 1) / c.Hi - a*c.Hi / c.Hi+1).toNat:=hj;refine List.contains_iff_mem.2 (Gh.2 (.inr (A5e.2 ?_)))
  show a≤a*c.Hi / c.Hi+(j:Int)∧a*c.Hi / c.Hi+(j:Int)<a+run;omega
 have hmono: ∀x∈n.Az,x∈n.Az++A5d a run:=fun x h=>Gh.2 (.inl h)
 have hold: ∀o∈n.Ga,∀j,o.fAt≤j->j<o.fAt+o.Aj0->a*c.Hi≤j->j<a*c.Hi+size->False:=fun o h j h1 h2 h3 h4=>S.new _ (A7z (Z1.1 T.inch o h) h1 h2) (hdv j h3 h4)
 have hd:=A2b.1 L.dist;refine⟨⟨L.conf,L.st,L.gen,L.up,L.first,L.next,L.prev,L.ep,L.ue,?_,?_,?_,L.ntag,L.tags,?_⟩,⟨?_,?_,?_⟩⟩
 ·refine A2b.2 ⟨Ai8.2 ⟨hd.1,Bd4 _ _,fun x h1 h2=>S.new x h1 (A5e.1 h2)⟩,fun x hx=> ?_⟩;rcases Gh.1 hx with h|h
  ·exact hd.2 x h
  ·have:=A5e.1 h;omega
 ·have:=L.cur;unfold A4q at this ⊢
  show(bif n.Ade==0 then n.S9==0 else(n.Az++A5d a run).contains (An8 .i64 n.Ade 1)&&inB n.S9 0 c.Hi)=true
  cases e:n.Ade==0 with
  |true=>rw[e]at this;exact this
  |false=>
   rw[e,cond_false,Z4]at this;rw[cond_false,this.2,Bool.and_true];exact List.contains_iff_mem.2 (hmono _ (List.contains_iff_mem.1 this.1))
 ·show(n.Ga++[_]).length≤12;simp;omega
 ·show(n.Ga++[_]).all (Ap4 c)=true;rw[List.all_append,L.things,Fw,htb];rfl
 ·show(n.Ga++[_]).all (Arw c (n.Az++A5d a run))=true;rw[List.all_append,Fw,htc,Z4,Z1];exact⟨fun o h=>Bfk hmono (Z1.1 T.inch o h),rfl⟩
 ·exact A5b T.apart fun o h=>A2d fun j h1 h2 h3 h4=>hold o h j h1 h2 h3 h4
 ·have hlo:=T.loose;unfold Aru at hlo ⊢;rw[Bool.or_eq_true,Z4]at hlo ⊢;rcases hlo with h|⟨h,h'⟩
  ·exact .inl h
  ·by_cases e:n.Ade=0
   ·exact .inl (by show(n.Ade==0)=true;rw[e];rfl)
   ·refine .inr ⟨h,?_⟩
    show(n.Ga++[_]).all (fun t=>Ank t (Avb c n))=true;rw[List.all_append,h',Fw,Z30,Z4];refine⟨A2d fun j h1 h2 h3 h4=> ?_,rfl⟩;obtain⟨m1,m2,m3⟩:=A5c L hc e
    have h3:(n.Ade - 1)*c.Hi+n.S9≤j:=h3
    have h4:j<(n.Ade - 1)*c.Hi+n.S9+(c.Hi - n.S9):=h4
    have:=A5t (a:=n.Ade - 1) (s:=c.Hi) (j:=j) (by omega) (by omega) (by omega)
    exact S.new _ m1 (by rw[←this];exact hdv j h1 h2)
def A4l (al:Int):Bool:=al==1||(al==2||al==4)
theorem A2q (K:Nat)(al:Int):Aro K al=some (A4l al):=by
 unfold Aro A4l;cases al==1<;>cases al==2<;>rfl
theorem Bcl{al:Int}(h:A4l al=true):al=1∨al=2∨al=4:=by
 unfold A4l at h
 rwa[Bool.or_eq_true,Bool.or_eq_true,beq_iff_eq,beq_iff_eq,beq_iff_eq]at h
theorem Bd6 (K:Nat){b al:Int}(hb:0≤b∧b≤1000)(ha:A4l al=true): ∃off,Ayb K b al=some off∧b≤off∧off≤2000:=by
 unfold Ayb;rw[Aoh,Ael.2 ⟨by omega,by omega⟩,A2q,ha]
 simp only[Z0,cond_true,Bool.not_true,cond_false]
 have e:An8 .i64 (An7 .i64 b al) 1=b+al - 1:=by
  have:=Bcl ha;unfold An8 An7;rw[Ht (n:=b+al) (by omega) (by omega),Ht (by omega) (by omega)]
 rw[e]
 have key: ∀a:Int,1≤a->a≤4->An9 .i64 (Alp .i64 (b+a - 1) a) a=(b+a - 1) / a*a:=by
  intro a h1 h2
  have h3:(b+a - 1) / a≤b+a - 1:=Int.ediv_le_self _ (by omega)
  have h4:0≤(b+a - 1) / a:=Int.ediv_nonneg (by omega) (by omega)
  have h5:=Au9 (a:=(b+a - 1) / a) (b:=a) (m:=2000) (n:=4) h4 (by omega) (by omega) h2
  unfold Alp An9;rw[Int.tdiv_eq_ediv_of_nonneg (by omega),Ht (n:=(b+a - 1) / a) (by omega) (by omega),Ht (by omega) (by omega)]
 rcases Bcl ha with h|h|h
 ·subst h;rw[if_pos (by decide),key 1 (by omega) (by omega)]
  exact⟨_,rfl,by omega,by omega⟩
 ·subst h;rw[if_pos (by decide),key 2 (by omega) (by omega)]
  exact⟨_,rfl,by omega,by omega⟩
 ·subst h;rw[if_pos (by decide),key 4 (by omega) (by omega)]
  exact⟨_,rfl,by omega,by omega⟩
section
variable {K:Nat} (hK:281474976710656≤K)
include hK
theorem A9a{c:Eb}{n:Au}(L:Aus c n)(W:Aql n)(hc:0≤n.Ade∧n.Ade≤1000)(size al:Int)(hs: -1000000≤size∧size≤1000000): ∃at_ b,Awp K c n size al=some (at_,b)∧(b=true-> ∃off,at_=(n.Ade - 1)*c.Hi+off∧n.Ade≠0∧n.S9≤off∧1≤size∧off+size≤c.Hi):=by
 obtain⟨b1,b2,_⟩:=Gx L.conf
 have h1:=Asi L.conf L.dist
 have h3:=L.nth
 have h4:=L.ntag;unfold Awp;rw[Avv hK c n (by omega) (by omega) (by omega),(Aje.2 L).1]
 simp only[Z0,cond_true]
 by_cases q:n.Ade=0
 ·rw[q];exact⟨_,_,rfl,fun h=>by cases h⟩
 ·rw[Ah0 q,Aoh];simp only[cond_false,Z0]
  by_cases q2:1≤size∧size≤c.Hi
  ·rw[Ael.2 q2,A2q];simp only[cond_true,Z0];cases ha:A4l al with
   |false=>exact⟨_,_,rfl,fun h=>by cases h⟩
   |true=>
    obtain⟨m1,m2,m3⟩:=A5c L hc q
    have hm:=Axn L.dist _ m1;obtain⟨off,eo,ho1,ho2⟩:=Bd6 K (b:=n.S9) ⟨m2,by omega⟩ ha
    simp only[Bool.not_true,cond_false];rw[eo,Z0]
    have e1:An7 .i64 off size=off+size:=by unfold An7;exact Ht (by omega) (by omega)
    have e2:An8 .i64 n.Ade 1=n.Ade - 1:=sb1 (by omega) (by omega)
    have h5:=Au9 (a:=n.Ade - 1) (b:=c.Hi) (m:=12) (n:=16) (by omega) (by omega) (by omega) b2.2
    have e3:An9 .i64 (n.Ade - 1) c.Hi=(n.Ade - 1)*c.Hi:=by unfold An9;exact Ht (by omega) (by omega)
    have e4:An7 .i64 ((n.Ade - 1)*c.Hi) off=(n.Ade - 1)*c.Hi+off:=by unfold An7;exact Ht (by omega) (by omega)
    rw[e1,e2,e3,e4]
    by_cases q3:off+size>c.Hi
    ·rw[decide_eq_true q3];exact⟨_,_,rfl,fun h=>by cases h⟩
    ·rw[decide_eq_false q3];exact⟨_,_,rfl,fun _=>⟨off,rfl,q,ho1,q2.1,by omega⟩⟩
  ·rw[A6n.2 q2];exact⟨_,_,rfl,fun h=>by cases h⟩
theorem A6f{c:Eb}{n:Au}(L:Aus c n)(W:Aql n)(hc:0≤n.Ade∧n.Ade≤1000)(size al:Int)(hs: -1000000≤size∧size≤1000000): ∃n' b,Aue K c n size al=some (n',b)∧(n'=n∨ ∃off,Bl9 c n off size∧n'=A70 c n off size):=by
 have hm:=Wx;obtain⟨b1,b2,_⟩:=Gx L.conf
 have h3:=L.nth;obtain⟨at_,b,e,hb⟩:=A9a hK L W hc size al hs;unfold Aue;rw[At3 K W,Z0,e,Z0];cases b with
 |false=>exact⟨_,_,rfl,.inl rfl⟩
 |true=>
  obtain⟨off,e1,h1,h2,h4,h5⟩:=hb rfl;obtain⟨m1,m2,m3⟩:=A5c L hc h1
  have hmi:=Axn L.dist _ m1;simp only[cond_true]
  by_cases q:(n.Ga.length:Int)≥12
  ·rw[decide_eq_true q];exact⟨_,_,rfl,.inl rfl⟩
  ·rw[decide_eq_false q];simp only[cond_false];rw[if_pos ⟨by simp;omega,by simp;omega⟩]
   refine⟨_,_,rfl,.inr ⟨off,⟨h1,h2,h4,h5,by omega⟩,?_⟩⟩
   have e2:An8 .i64 n.Ade 1=n.Ade - 1:=sb1 (by omega) (by omega)
   have h6:=Au9 (a:=n.Ade - 1) (b:=c.Hi) (m:=12) (n:=16) (by omega) (by omega) (by omega) b2.2
   have e3:An9 .i64 (n.Ade - 1) c.Hi=(n.Ade - 1)*c.Hi:=by unfold An9;exact Ht (by omega) (by omega)
   have e4:An8 .i64 at_ ((n.Ade - 1)*c.Hi)=off:=by unfold An8;rw[e1,Ht (by omega) (by omega)];omega
   have e5:An7 .i64 off size=off+size:=by unfold An7;exact Ht (by omega) (by omega)
   rw[e2,e3,e4,e5,e1];rfl
theorem Bma{c:Eb}{n:Au}(L:Aus c n)(W:Aql n)(hc:0≤n.Ade∧n.Ade≤1000)(size al:Int)(hs: -1000000≤size∧size≤1000000): ∃b,Au3 K c n size al=some b:=by
 have h1:=Asi L.conf L.dist
 have h3:=L.nth
 have h4:=L.ntag;obtain⟨at_,b,e,hb⟩:=A9a hK L W hc size al hs;unfold Au3;rw[e,Avv hK c n (by omega) (by omega) (by omega),(Aje.2 L).1,Aoh,A2q,L.st]
 simp only[Z0];cases b<;>cases inB size 1 c.Hi<;>exact⟨_,rfl⟩
theorem Bcm{c:Eb}{mem:List Int}{n:Au}(L:Aus c n)(W:Aql n)(hc:0≤n.Ade∧n.Ade≤1000)(T:ThP c mem n){a run size:Int}(S:Bd5 c n a run size):Aqx K c n a size=some (A1z c n a run size,true):=by
 have hm:=Wx;obtain⟨b1,b2,_⟩:=Gx L.conf
 have h1:=Asi L.conf L.dist
 have h3:=L.nth
 have h4:=L.ntag
 have hz:=S.hz;have ha:=S.at_;obtain⟨L2,T2⟩:=Bck L hc T S
 have hrun:run=(size+c.Hi - 1) / c.Hi:=by
  rw[S.hr];unfold Att;rw[Ael.2 ⟨by omega,by omega⟩,Ael.2 ⟨by omega,by omega⟩];rfl
 have hru:size≤run*c.Hi:=by
  have:=Int.lt_ediv_add_one_mul_self (size+c.Hi - 1) (show 0<c.Hi by omega)
  rw[←hrun,Int.add_mul,Int.one_mul]at this;omega
 have hr1:1≤run:=by
  rw[hrun];exact(Int.le_ediv_iff_mul_le (by omega)).2 (by omega)
 have q1:run*c.Hi≤c.Az*c.Hi:=Int.mul_le_mul_of_nonneg_right (by omega) (by omega)
 have hby:Amn c=c.Az*c.Hi:=by unfold Amn;rw[L.conf];rfl
 have e3:An9 .i64 a c.Hi=a*c.Hi:=by
  have h5:=Au9 (a:=a) (b:=c.Hi) (m:=12) (n:=16) (by omega) (by omega) (by omega) b2.2
  unfold An9;exact Ht (by omega) (by omega)
 unfold Aqx Apm Anh;rw[At3 K W,Z0,Arc,L.conf];simp only[Z0,cond_true];rw[show(n.Vt != 1)=false by rw[L.st];rfl,cond_false,decide_eq_true (by omega),cond_true,At6,Z0,decide_eq_false (by omega),cond_false,Aoh,Ay7 hK L.conf,Ael.2 ⟨by omega,by omega⟩]
 simp only[Z0,Bool.not_true,cond_false];rw[A0q,Z0,←S.hr,Z0]
 have key: ∀(f i:Nat) (v:List Int),(i:Int)≤run->run.toNat - i<f->v=n.Az++(List.range i).map (fun(j:Nat)=>a+(j:Int))->Anq K c a size run f (i:Int) (Au.mk n.Vt n.Dc n.S5 n.fUp n.S6 n.Eg n.S7 n.S8 v n.Ade n.S9 n.Ga n.Fo) (Au.mk 0 0 0 0 0 0 0 0 [] 0 0 [] []) n.Vt n.Dc n.S5 n.fUp n.S6 n.Eg n.S7 n.S8 n.Az n.Ade n.S9 n.Ga n.Fo=some (A1z c n a run size,true):=by
  intro f
  induction f with
  |zero=>intro i v _ h;omega
  |succ f ih=>
   intro i v hi hf hv
   have hvl:v.length=n.Az.length+i:=by rw[hv];simp
   rw[Anq]
   by_cases h:(i:Int)=run
   ·rw[decide_eq_false (by omega),cond_false,e3]
    simp only;rw[if_pos ⟨by simp;omega,by simp;omega⟩]
    have el:Au.mk n.Vt n.Dc n.S5 n.fUp n.S6 n.Eg n.S7 n.S8 v n.Ade n.S9 (n.Ga++[Bd.mk (a*c.Hi) size run]) n.Fo=A1z c n a run size:=by
     unfold A1z A5d;rw[hv,←h,Int.toNat_natCast]
    have hl2:=L2.nth
    have hl3:=Asi L2.conf L2.dist;rw[el,Avv hK c (A1z c n a run size) (by omega) (by omega) (show n.Fo.length≤_ by omega),(Aje.2 L2).1]
    rfl
   ·have e1:An7 .i64 a (i:Int)=a+(i:Int):=by unfold An7;exact Ht (by omega) (by omega)
    rw[decide_eq_true (by omega),cond_true,e1,Aep (by omega)]
    simp only;rw[if_pos ⟨by simp;omega,by simp;omega⟩]
    refine ih (i+1) _ (by omega) (by omega) ?_
    rw[hv,List.range_succ,Fv,Lc];rfl
 have:=key K 0 n.Az (by omega) (by omega) (by simp)
 exact this
end
theorem A3t{w:C8}{E:Int}{n:Nat}(G:D8 w E n){k:Int}(hk:AlW w.fL k){p':Dp}{n':Au}
  (P':A6b w.fC p') (hone: ∀c,0≤c∧c<w.fC.Az->(gt p'.Vt c=2 ↔ gt w.fP.Vt c=2)∧(gt p'.Vt c=1∧gt p'.Pn c=k ↔ c∈n'.Az)∧ ∀x,x≠k->(gt p'.Vt c=1∧gt p'.Pn c=x ↔ gt w.fP.Vt c=1∧gt w.fP.Pn c=x))
  (hm:p'.Pm=w.fP.Pm) (hlk:A3i n'=A3i (gt w.fL k)) (L:Aus w.fC n') (T:ThP w.fC w.fP.Pm n') (he:EpP E n') {m:Nat} (hwt:wtN w.fC n'≤wtN w.fC (gt w.fL k)+m):
  D8 (C8.mk w.fC p' (w.fL.set k.toNat n') w.fQ w.Adf) E (n+m)∧AlW (w.fL.set k.toNat n') k∧gt (w.fL.set k.toNat n') k=n':=by
 obtain⟨t,A,F⟩:=G.inv.forest
 have al:=hk.al A
 have hki:=al.lv.1
 have hst:=((Awh A).1 al.lv).2
 have hg: ∀x,0≤x∧x<(w.fL.length:Int)->gt (w.fL.set k.toNat n') x=if x=k then n' else gt w.fL x:=fun x hx=>Ap8 hki hx n'
 have hgk:gt (w.fL.set k.toNat n') k=n':=Awf hki n'
 have A':AtT (w.fL.set k.toNat n') t:=fun x hx=>by
  rw[Z49]at hx;rw[hg x hx,A x hx]
  by_cases e:x=k
  ·rw[if_pos e,e,hlk]
  ·rw[if_neg e]
 have I':Inv (C8.mk w.fC p' (w.fL.set k.toNat n') w.fQ w.Adf):=by
  refine Bfi G.inv hki p' _ t (by simp) (fun x hx hne=>⟨_,_,_,by rw[hg x hx,if_neg hne];exact(A7w _).symm,?_,?_,?_⟩) (by omega) (by rw[hgk];exact L) A' F P' hm (by rw[hgk];exact hone) (by rw[hgk];exact⟨T.inch,T.apart,T.loose⟩)
  ·rw[←G.inv.len];exact(G.inv.rg.rg x hx).2.1
  ·rw[←G.inv.len];exact(G.inv.rg.rg x hx).2.2.1
  ·rw[←G.inv.len];exact(G.inv.rg.rg x hx).2.2.2
 refine⟨⟨I',by show ∀x∈p'.Pm,_;rw[hm];exact G.mem,fun x hx=> ?_,?_⟩,⟨t,A',by rw[Z49];exact al⟩,hgk⟩
 ·have hx:0≤x∧x<((w.fL.set k.toNat n').length:Int):=hx;rw[Z49]at hx
  show EpP E (gt (w.fL.set k.toNat n') x);rw[hg x hx];split
  ·exact he
  ·exact G.ep x hx
 ·have hs:=A3n (f:=wtN w.fC) (l:=w.fL) (l':=w.fL.set k.toNat n') (by simp) hki fun x hx hne=>by rw[hg x hx,if_neg hne]
  rw[hgk]at hs
  have h3:=G.wt;unfold wt pot at h3 ⊢;simp only at h3 ⊢;omega
theorem D8.live{w:C8}{E:Int}{n:Nat}(G:D8 w E n){k:Int}(hk:AlW w.fL k):(0≤k∧k<(w.fL.length:Int))∧Aus w.fC (gt w.fL k)∧ThP w.fC w.fP.Pm (gt w.fL k)∧EpP E (gt w.fL k):=by
 obtain⟨t,A,F⟩:=G.inv.forest
 have al:=(hk.al A).lv;obtain⟨t1,t2,t3⟩:=G.inv.thing k al.1;exact⟨al.1,G.inv.live A al,⟨t1,t2,t3⟩,G.ep k al.1⟩
theorem A71{w:C8}(I:Inv w){k:Int}(hk:0≤k∧k<(w.fL.length:Int)){ch:List Int}(h:ch=(gt w.fL k).Az): ∀c,0≤c∧c<w.fC.Az->(gt w.fP.Vt c=2 ↔ gt w.fP.Vt c=2)∧(gt w.fP.Vt c=1∧gt w.fP.Pn c=k ↔ c∈ch)∧ ∀x,x≠k->(gt w.fP.Vt c=1∧gt w.fP.Pn c=x ↔ gt w.fP.Vt c=1∧gt w.fP.Pn c=x):=fun c hc=>⟨Iff.rfl,by rw[h,I.own k hk c];exact⟨fun a=>⟨hc,a⟩,fun a=>a.2⟩,fun _ _=>Iff.rfl⟩
theorem A9b{w:C8}(I:Inv w){p':Dp}{a n k:Int}(hk:0≤k∧k<(w.fL.length:Int))(hf:A1v w.fP a n=true)(T:Bhg w.fP p' a n k){ch:List Int}(h: ∀c,c∈ch ↔ c∈(gt w.fL k).Az∨a≤c∧c<a+n):
  A6b w.fC p'∧ ∀c,0≤c∧c<w.fC.Az->(gt p'.Vt c=2 ↔ gt w.fP.Vt c=2)∧(gt p'.Vt c=1∧gt p'.Pn c=k ↔ c∈ch)∧ ∀x,x≠k->(gt p'.Vt c=1∧gt p'.Pn c=x ↔ gt w.fP.Vt c=1∧gt w.fP.Pn c=x):=by
 obtain⟨a1,a2⟩:=A88 I hk hf T;exact⟨a1,fun c hc=>⟨(a2 c hc).1,by rw[h c];exact(a2 c hc).2.1,(a2 c hc).2.2⟩⟩
section
variable {K:Nat} (hK:281474976710656≤K)
include hK
theorem A9c{E:Int}{n:Nat}(hE:0≤E∧E≤900000000)(hn:n≤900000000){w:C8}(G:D8 w E n){k:Int}(hk:AlW w.fL k)(size al:Int)(hs: -1000000≤size∧size≤1000000)(v19:Ex)(v20 v21 v22 v23 v24 v25 v26:Int)(v27:List Int)(v28 v29 v30:Int):
  ∃r w',Ar8 K k size al w.fC.Az w.fC.Hi w.fC.Fb w.fC.G8 w.fC.Fc w.fC.Hj w.fP.Pm w.fP.Vt w.fP.Pn w.fL w.fQ w.Adf v19 v20 v21 v22 v23 v24 v25 v26 v27 v28 v29 v30=some (r,w')∧D8 w' E n∧w'.fC=w.fC∧w'.fL.length=w.fL.length:=by
 obtain⟨hki,L,T,e⟩:=G.live hk
 have W:=A2p (Aje.2 L).1 e (by omega)
 obtain⟨n',b,e1,h⟩:=A6f hK L W e.cur size al hs;unfold Ar8;simp only[if_pos hki];rw[show Eb.mk w.fC.Az w.fC.Hi w.fC.Fb w.fC.G8 w.fC.Fc w.fC.Hj=w.fC from rfl,e1,Z0]
 have P:=Ala.1 G.inv.pool;refine⟨_,_,rfl,?_,rfl,by simp⟩
 rcases h with h|⟨off,S,h⟩
 ·rw[h];exact(A3t G hk (n':=gt w.fL k) (m:=0) P (A71 G.inv hki rfl) rfl rfl L T e (by omega)).1
 ·rw[h];obtain⟨L2,T2⟩:=Bcj L e.cur T S;exact(A3t G hk (n':=A70 w.fC (gt w.fL k) off size) (m:=0) P (A71 G.inv hki rfl) rfl rfl L2 T2 ⟨e.ep,e.ue,e.cur⟩ (Z9 _)).1
theorem Bmb{E:Int}{n:Nat}(hE:0≤E∧E≤900000000)(hn:n≤880000000){w:C8}(G:D8 w E n){k:Int}(hk:AlW w.fL k)(size al:Int)(hs: -1000000≤size∧size≤1000000)(a4:Ex):
  ∃r w',Aw5 K w k size al a4=some (r,w')∧D8 w' E (n+16)∧w'.fC=w.fC∧w'.fL.length=w.fL.length:=by
 obtain⟨hki,L,T,e⟩:=G.live hk
 have W:=A2p (Aje.2 L).1 e (by omega)
 have WW:=G.ww (by omega) (by omega)
 have hlen:=G.inv.len;obtain⟨b1,b2,b3,b4,b5,b6⟩:=Gx G.inv.conf;obtain⟨nb,e1⟩:=Bma hK L W e.cur size al hs;unfold Aw5;simp only[if_pos hki];rw[e1,Z0];cases nb with
 |false=>
  simp only[cond_false];obtain⟨r,w',h1,h2,h3⟩:=A9c hK hE (by omega) G hk size al hs (Ex.mk 0 (An.mk 0 0) (Bq.mk (An.mk 0 0) 0 0) [] 0 0 0) a4.Xc a4.fH.Bk a4.fH.Dc a4.fR.fH.Bk a4.fR.fH.Dc a4.fR.S5 a4.fR.fNo a4.fB a4.Xd a4.G8 a4.Po
  exact⟨r,w',h1,D8.le h2 (Int.le_refl E) (by omega),h3⟩
 |true=>
  simp only[cond_true];obtain⟨fb,ef⟩:=A3p hK WW (by omega) 1
  rw[ef,Z0];cases fb with
  |false=>exact⟨_,_,rfl,D8.le G (Int.le_refl E) (by omega),rfl,rfl⟩
  |true=>
   simp only[Bool.not_true,cond_false];obtain⟨d,w1,ed,S⟩:=Bd2 hK (by omega:0≤E∧E≤1000000000) (by omega) 0 (run:=1) (by omega) G
   have G1:=S.good;obtain⟨hk1,⟨x1,x2,x3,hnode⟩,_⟩:=S.stay.node k hk;obtain⟨hki1,L1,T1,e1⟩:=G1.live hk1
   have W1:=A2p (Aje.2 L1).1 e1 (by omega)
   have WW1:=G1.ww (by omega) (by omega)
   have P1:=Ala.1 G1.inv.pool
   have hst:=P1.st
   have how:=P1.own
   have hc1:=S.stay.conf;obtain⟨ch,ec,hch⟩:=A5a hK (p:=w1.fP) (by rw[hc1]at hst;omega)
   rw[ed,Z0];simp only;rw[ec,Z0]
   by_cases q:ch<0
   ·rw[decide_eq_true q];exact⟨_,_,rfl,D8.le G1 (Int.le_refl E) (by omega),hc1,S.stay.len⟩
   ·rw[decide_eq_false q];simp only[cond_false]
    have hf:=hch.resolve_left (by omega)
    obtain⟨f1,f2,f3,f4⟩:=Axz.1 hf;obtain⟨p',ep,T'⟩:=A4k hK WW1.p (by rw[hc1]at hst;omega) (by omega) (k:=k) hf
    have hnew:ch ∉ (gt w1.fL k).Az:=fun h=>by
     have:=((G1.inv.own k hki1 ch).1 h).2.1;rw[f4 ch ⟨by omega,by omega⟩]at this
     cases this
    rw[ep,Z0];simp only[if_pos hki1];rw[A5s hK L1 W1 ⟨f1,by omega⟩ hnew,Z0]
    simp only[if_pos hki1];obtain⟨P',hone⟩:=A9b G1.inv hki1 hf T' (ch:=(A3r (gt w1.fL k) ch).Az) fun c=>by
     show c∈(gt w1.fL k).Az++[ch] ↔ _;rw[Gh,Mx];exact or_congr_right (by omega)
    have T2:ThP w1.fC w1.fP.Pm (A3r (gt w1.fL k) ch):=by
     refine⟨?_,T1.apart,?_⟩
     ·rw[Z1];exact fun o ho=>Bfk (fun x hx=>Gh.2 (.inl hx)) (Z1.1 T1.inch o ho)
     ·refine A6e rfl rfl ((P1.one ch ⟨f1,by omega⟩).2.2.2 (f4 ch ⟨by omega,by omega⟩)) ?_
      rw[Z1];intro o ho;refine A2d fun j h1 h2 h3 h4=> ?_
      have h3:(ch+1 - 1)*w1.fC.Hi+0≤j:=h3
      have h4:j<(ch+1 - 1)*w1.fC.Hi+0+(w1.fC.Hi - 0):=h4;rw[Int.add_sub_cancel]at h3 h4
      have:=A5t (a:=ch) (s:=w1.fC.Hi) (j:=j) (by rw[hc1];omega) (by omega) (by omega)
      have h5:=A7z (Z1.1 T1.inch o ho) h1 h2;rw[this]at h5;exact hnew h5
    obtain⟨G2,hk2,hg2⟩:=A3t G1 hk1 (n':=A3r (gt w1.fL k) ch) (m:=16) P' hone T'.mem rfl (A5r L1 ⟨f1,by omega⟩ hnew) T2 ⟨e1.ep,e1.ue,⟨by show 0≤ch+1;omega,by show ch+1≤_;rw[hc1]at hst;omega⟩⟩ (by
     have hz:w1.fC.Hi.toNat≤16:=by rw[hc1];omega
     have hst1:(A3r (gt w1.fL k) ch).Vt=1:=L1.st;unfold wtN;rw[if_pos L1.st,if_pos hst1]
     show 2+(gt w1.fL k).Fo.length+w1.fC.Hi.toNat*((gt w1.fL k).Az++[ch]).length≤_;rw[Jh,List.length_singleton,Nat.mul_succ];omega)
    obtain⟨r,w',h1,h2,h3,h4⟩:=A9c hK hE (n:=n+16) (by omega) G2 hk2 size al hs (Ex.mk 0 (An.mk 0 0) (Bq.mk (An.mk 0 0) 0 0) [] 0 0 0) a4.Xc a4.fH.Bk a4.fH.Dc a4.fR.fH.Bk a4.fR.fH.Dc a4.fR.S5 a4.fR.fNo a4.fB a4.Xd a4.G8 d
    refine⟨r,w',h1,h2,h3.trans hc1,h4.trans ?_⟩
    show(w1.fL.set _ _).length=_;rw[Z49];exact S.stay.len
theorem Bmc{E:Int}{n:Nat}(hE:0≤E∧E≤900000000)(hn:n≤900000000){w:C8}(G:D8 w E n){k:Int}(hk:AlW w.fL k)(size:Int)(hs:w.fC.Hi<size∧size≤200)(hcnt:(gt w.fL k).Ga.length<12)(a4:Ex):
  ∃r w',Aw4 K w k size a4=some (r,w')∧D8 w' E (n+192)∧w'.fC=w.fC∧w'.fL.length=w.fL.length:=by
 have WW:=G.ww (by omega) (by omega)
 have hlen:=G.inv.len;obtain⟨b1,b2,b3,b4,b5,b6⟩:=Gx G.inv.conf;unfold Aw4 Anh;rw[A0q,Z0,Z0];obtain⟨fb,ef⟩:=A3p hK WW (by omega) (Att size w.fC.Hi)
 have hrun:Att size w.fC.Hi=(size+w.fC.Hi - 1) / w.fC.Hi:=by
  unfold Att;rw[Ael.2 ⟨by omega,by omega⟩,Ael.2 ⟨by omega,by omega⟩];rfl
 have hr2:Att size w.fC.Hi≤1000:=by
  have:(size+w.fC.Hi - 1) / w.fC.Hi≤size+w.fC.Hi - 1:=Int.ediv_le_self _ (by omega)
  omega
 have hr1:1≤Att size w.fC.Hi:=by
  rw[hrun];exact(Int.le_ediv_iff_mul_le (by omega)).2 (by omega)
 rw[ef,Z0];cases fb with
 |false=>exact⟨_,_,rfl,D8.le G (Int.le_refl E) (by omega),rfl,rfl⟩
 |true=>
  simp only[Bool.not_true,cond_false];obtain⟨d,w1,ed,S⟩:=Bd2 hK (by omega:0≤E∧E≤1000000000) (by omega) 0 (run:=Att size w.fC.Hi) (by omega) G
  have G1:=S.good;obtain⟨hk1,⟨x1,x2,x3,hnode⟩,_⟩:=S.stay.node k hk;obtain⟨hki1,L1,T1,e1⟩:=G1.live hk1
  have W1:=A2p (Aje.2 L1).1 e1 (by omega)
  have WW1:=G1.ww (by omega) (by omega)
  have P1:=Ala.1 G1.inv.pool
  have hst:=P1.st
  have how:=P1.own
  have hc1:=S.stay.conf;rw[hc1]at hst how;obtain⟨at_,ec,hat⟩:=A6d hK (p:=w1.fP) (n:=Att size w.fC.Hi) (by omega) (by omega)
  rw[ed,Z0];simp only;rw[ec,Z0]
  by_cases q:at_<0
  ·rw[decide_eq_true q];exact⟨_,_,rfl,D8.le G1 (Int.le_refl E) (by omega),hc1,S.stay.len⟩
  ·rw[decide_eq_false q];simp only[cond_false]
   have hf:=hat.resolve_left (by omega)
   obtain⟨f1,f2,f3,f4⟩:=Axz.1 hf;obtain⟨p',ep,T'⟩:=A4k hK WW1.p (by omega) (by omega) (k:=k) hf
   have SP:Bd5 w1.fC (gt w1.fL k) at_ (Att size w.fC.Hi) size:=by
    refine⟨by rw[hc1];exact hs,by rw[hc1],by rw[hc1];omega,fun x hx h=> ?_,by rw[hnode];exact hcnt⟩
    have:=((G1.inv.own k hki1 x).1 hx).2.1;rw[f4 x h]at this;cases this
   obtain⟨L2,T2⟩:=Bck L1 e1.cur T1 SP;rw[ep,Z0];simp only[if_pos hki1];rw[Bcm hK L1 W1 e1.cur T1 SP,Z0]
   try simp only[if_pos hki1]
   obtain⟨P',hone⟩:=A9b G1.inv hki1 hf T' (ch:=(A1z w1.fC (gt w1.fL k) at_ (Att size w.fC.Hi) size).Az) fun c=>by
    show c∈(gt w1.fL k).Az++A5d at_ (Att size w.fC.Hi) ↔ _;rw[Gh,A5e]
   obtain⟨G2,hk2,hg2⟩:=A3t G1 hk1 (n':=A1z w1.fC (gt w1.fL k) at_ (Att size w.fC.Hi) size) (m:=192) P' hone T'.mem rfl L2 T2 ⟨e1.ep,e1.ue,e1.cur⟩ (by
    have hst1:(A1z w1.fC (gt w1.fL k) at_ (Att size w.fC.Hi) size).Vt=1:=L1.st;unfold wtN;rw[if_pos L1.st,if_pos hst1]
    show 2+(gt w1.fL k).Fo.length+w1.fC.Hi.toNat*((gt w1.fL k).Az++A5d at_ (Att size w.fC.Hi)).length≤_
    have hrl:(A5d at_ (Att size w.fC.Hi)).length≤12:=by unfold A5d;simp;omega
    have:=Nat.mul_le_mul (show w1.fC.Hi.toNat≤16 by rw[hc1];omega) hrl
    rw[Jh,Nat.mul_add];omega)
   refine⟨_,_,rfl,G2,hc1,?_⟩
   show(w1.fL.set _ _).length=_;rw[Z49];exact S.stay.len
theorem A9d{E:Int}{n:Nat}(hE:0≤E∧E≤900000000)(hn:n≤900000000){w:C8}(G:D8 w E n){k:Int}(hk:0≤k∧k<(w.fL.length:Int))(h:An)(c a b d e f g:Int)(l:List Int)(x y z:Int):
  ∃r w',Ar9 K h k w.fC.Az w.fC.Hi w.fC.Fb w.fC.G8 w.fC.Fc w.fC.Hj w.fP.Pm w.fP.Vt w.fP.Pn w.fL w.fQ w.Adf c a b d e f g l x y z=some (r,w')∧D8 w' E n∧w'.fC=w.fC:=by
 unfold Ar9;rw[show C8.mk (Eb.mk w.fC.Az w.fC.Hi w.fC.Fb w.fC.G8 w.fC.Fc w.fC.Hj) (Dp.mk w.fP.Pm w.fP.Vt w.fP.Pn) w.fL w.fQ w.Adf=w from rfl]
 cases c != 0 with
 |true=>exact⟨_,_,rfl,G,rfl⟩
 |false=>
  simp only[cond_false];obtain⟨t,w2,es,S2⟩:=A6w hK (E:=E) (n:=n) (by omega) (by omega) w.fC.G8 G
  simp only[if_pos hk,es,Z0];exact⟨_,_,rfl,S2.good,S2.stay.conf⟩
theorem A5u{E:Int}{n:Nat}(hE:0≤E∧E≤900000000)(hn:n≤800000000){w:C8}(G:D8 w E n)(h:An){size al:Int}(hs:1≤size∧size≤200){k:Int}(a b:Ex)(hk:a.Xc=0->AlW w.fL k∧(gt w.fL k).Ga.length<12):
  ∃r w',Aqq K h size al k w.fC.Az w.fC.Hi w.fC.Fb w.fC.G8 w.fC.Fc w.fC.Hj w.fP.Pm w.fP.Vt w.fP.Pn w.fL w.fQ w.Adf a b=some (r,w')∧D8 w' E (n+192)∧w'.fC=w.fC:=by
 unfold Aqq Apm;rw[show C8.mk (Eb.mk w.fC.Az w.fC.Hi w.fC.Fb w.fC.G8 w.fC.Fc w.fC.Hj) (Dp.mk w.fP.Pm w.fP.Vt w.fP.Pn) w.fL w.fQ w.Adf=w from rfl,show Eb.mk w.fC.Az w.fC.Hi w.fC.Fb w.fC.G8 w.fC.Fc w.fC.Hj=w.fC from rfl]
 by_cases h0:a.Xc=0
 ·obtain⟨hk,hcnt⟩:=hk h0
  have hki:=(G.live hk).1;rw[h0];simp only[bne_self_eq_false,cond_false,Z0]
  by_cases q:size>w.fC.Hi
  ·rw[decide_eq_true q];simp only[cond_true];obtain⟨r,w',h1,h2,h3,h4⟩:=Bmc hK hE (by omega) G hk size ⟨q,hs.2⟩ hcnt a
   rw[h1,Z0];obtain⟨r2,w2,k1,k2,k3⟩:=A9d hK hE (n:=n+192) (by omega) h2 (k:=k) (by rw[h4];exact hki) h r.Xc r.fH.Bk r.fH.Dc r.fR.fH.Bk r.fR.fH.Dc r.fR.S5 r.fR.fNo r.fB r.Xd r.G8 r.Po
   exact⟨r2,w2,k1,k2,k3.trans h3⟩
  ·rw[decide_eq_false q];simp only[cond_false];obtain⟨r,w',h1,h2,h3,h4⟩:=Bmb hK hE (by omega) G hk size al (by omega) a
   rw[h1,Z0];obtain⟨r2,w2,k1,k2,k3⟩:=A9d hK hE (n:=n+16) (by omega) h2 (k:=k) (by rw[h4];exact hki) h r.Xc r.fH.Bk r.fH.Dc r.fR.fH.Bk r.fR.fH.Dc r.fR.S5 r.fR.fNo r.fB r.Xd r.G8 r.Po
   exact⟨r2,w2,k1,D8.le k2 (Int.le_refl E) (by omega),k3.trans h3⟩
 ·rw[Arb h0];exact⟨_,_,rfl,D8.le G (Int.le_refl E) (by omega),rfl⟩
theorem Bcn{E:Int}{n:Nat}(hE:0≤E∧E≤900000000)(hn:n≤800000000){w:C8}(G:D8 w E n)(h:An)(size al:Int): ∃r w',Aw6 K w h size al=some (r,w')∧D8 w' E (n+192)∧w'.fC=w.fC:=by
 have W:=G.ww (by omega) (by omega)
 have G0:=D8.le G (Int.le_refl E) (by omega:n≤n+192)
 unfold Aw6;rw[Aoh,Z0]
 by_cases q:1≤size∧size≤200
 ·rw[Ael.2 q,A2q];simp only[cond_true,Z0];cases A4l al with
  |false=>exact⟨_,_,rfl,G0,rfl⟩
  |true=>
   simp only[Bool.not_true,cond_false];rw[Auz hK W.l,Z0,Azc hK w W.l,Z0]
   by_cases h0:(Aur w.fL h).2=0
   ·have hal:=A33 G.inv h0
    have hki:=(G.live hal).1;rw[h0];simp only[beq_self_eq_true,cond_true];simp only[if_pos hki]
    by_cases q2:((gt w.fL (Aur w.fL h).1).Ga.length:Int)≥12
    ·rw[decide_eq_true q2];exact A5u hK hE hn G h q (al:=al) (k:=(Aur w.fL h).1) (Ex.mk 8 (An.mk 0 0) (Bq.mk (An.mk 0 0) 0 0) [] (Bb2 w h) 0 0) (Ex.mk 0 (An.mk 0 0) (Bq.mk (An.mk 0 0) 0 0) [] 0 0 0) (fun f=>absurd (show(8:Int)=0 from f) (by decide))
    ·rw[decide_eq_false q2];exact A5u hK hE hn G h q (al:=al) (k:=(Aur w.fL h).1) (Ex.mk 0 (An.mk 0 0) (Bq.mk (An.mk 0 0) 0 0) [] (Bb2 w h) 0 0) (Ex.mk 0 (An.mk 0 0) (Bq.mk (An.mk 0 0) 0 0) [] 0 0 0) (fun f=>⟨hal,by omega⟩)
   ·rw[Ah0 h0];exact A5u hK hE hn G h q (al:=al) (k:=(Aur w.fL h).1) (Ex.mk (Aur w.fL h).2 (An.mk 0 0) (Bq.mk (An.mk 0 0) 0 0) [] (Bb2 w h) 0 0) (Ex.mk 0 (An.mk 0 0) (Bq.mk (An.mk 0 0) 0 0) [] 0 0 0) (fun f=>absurd f h0)
 ·rw[A6n.2 q];exact⟨_,_,rfl,G0,rfl⟩
end
def Es (mem:List Int)(p:Int)(s:List Int):List Int:=mem.take p.toNat++s++mem.drop (p.toNat+s.length)
def A6x (mem:List Int)(t:Bd)(off:Int)(s:List Int):Bool:=decide ((0≤off∧(0:Int)≤(s.length:Int)∧off+(s.length:Int)≤t.Aj0)∧0≤An7 .i64 t.fAt off∧An7 .i64 t.fAt off+(s.length:Int)≤(mem.length:Int))
def Bd7 (mem:List Int)(t:Bd)(off:Int)(s:List Int):List Int×Bool:=bif A6x mem t off s then(Es mem (An7 .i64 t.fAt off) s,true)else(mem,false)
theorem E5{mem:List Int}{p:Int}{s:List Int}(h0:0≤p)(h1:p+(s.length:Int)≤(mem.length:Int)):(Es mem p s).length=mem.length:=by
 unfold Es;simp;omega
theorem Bmd{mem s:List Int}{p j:Nat}(hj:j<s.length)(hp:p+s.length≤mem.length):(mem.take p++s.take j++mem.drop (p+j)).set (p+j) s[j]=mem.take p++s.take (j+1)++mem.drop (p+(j+1)):=by
 have hl:(mem.take p++s.take j).length=p+j:=by simp;omega
 rw[List.set_append_right _ _ (by omega),hl,Nat.sub_self,Z47 (by omega:p+j<mem.length),List.set_cons_zero,←List.take_append_getElem hj]
 simp only[Zn,Lc,Qe,Zl]
section
variable {K:Nat} (hK:281474976710656≤K)
include hK
theorem Bd8{mem s:List Int}(hm:mem.length≤140737488355327)(p:Int)(hs:s.length≤140737488355327):A0h K mem p s=some (bif decide (0≤p∧(0:Int)≤(s.length:Int)∧p+(s.length:Int)≤(mem.length:Int))then(Es mem p s,true)else(mem,false)):=by
 have hx:=Wx;unfold A0h;simp only[Zl];rw[if_pos ⟨by omega,by omega⟩,Bb1 K hm,Z0,Abt]
 by_cases h:0≤p∧(0:Int)≤(s.length:Int)∧p+(s.length:Int)≤(mem.length:Int)
 ·rw[decide_eq_true h,cond_true,cond_true];obtain⟨q,rfl⟩: ∃q:Nat,p=q:=⟨p.toNat,by omega⟩
  have:=A6p hK s (by omega) (fun _=>true) (some (Es mem (q:Int) s,true)) none (fun n j=>Aqj K (q:Int) s n (mem.take q++s.take j++mem.drop (q+j)) (j:Int)) (fun n j hj=> ?_) (fun n=> ?_)
  ·rw[Z1.2 (fun _ _=>rfl)]at this;simpa using this
  ·have hl:(mem.take q++s.take j++mem.drop (q+j)).length=mem.length:=by simp;omega
   have e:An7 .i64 (q:Int) (j:Int)=((q+j:Nat):Int):=by unfold An7;rw[Ht (by omega) (by omega)];omega
   show Aqj K (q:Int) s (n+1) _ _=_;rw[Aqj,Ae4 hj,cond_true,if_pos (Ajc hj),e,hl,if_pos ⟨by omega,by omega⟩,Aep (by omega),P2 hj,Int.toNat_natCast,Bmd hj (by omega)]
   rfl
  ·show Aqj K (q:Int) s (n+1) _ _=_;rw[Aqj,Afn (Z9 _),cond_false,List.take_length];simp[Es]
 ·rw[decide_eq_false h];rfl
theorem A6k{mem s:List Int}(hm:mem.length≤140737488355327)(hs:s.length≤140737488355327){t:Bd}(wt:ThingW t)(off:Int):Au5 K mem t off s=some (Bd7 mem t off s):=by
 have hx:=Wx;obtain⟨wl1,wl2⟩:=wt.2.1;unfold Au5 Ayh Bd7 A6x;simp only[Zl];rw[if_pos ⟨by omega,by omega⟩,Bd8 hK hm _ hs]
 simp only[Z0];rw[decide_eq_true (show(s.length:Int)≥0 by omega)]
 by_cases h1:(0:Int)≤off
 ·rw[decide_eq_true (show off≥0 from h1)]
  by_cases h3:off≤t.Aj0
  ·rw[decide_eq_true h3]
   have e:An8 .i64 t.Aj0 off=t.Aj0 - off:=by unfold An8;rw[Ht (by omega) (by omega)]
   rw[e]
   by_cases h4:(s.length:Int)≤t.Aj0 - off
   ·rw[decide_eq_true h4];simp only[cond_true]
    by_cases h5:0≤An7 .i64 t.fAt off∧An7 .i64 t.fAt off+(s.length:Int)≤(mem.length:Int)
    ·rw[decide_eq_true (show 0≤An7 .i64 t.fAt off∧(0:Int)≤(s.length:Int)∧An7 .i64 t.fAt off+(s.length:Int)≤(mem.length:Int) from⟨h5.1,by omega,h5.2⟩),decide_eq_true (show(0≤off∧(0:Int)≤(s.length:Int)∧off+(s.length:Int)≤t.Aj0)∧0≤An7 .i64 t.fAt off∧An7 .i64 t.fAt off+(s.length:Int)≤(mem.length:Int) from⟨⟨h1,by omega,by omega⟩,h5⟩),decide_eq_true (show An7 .i64 t.fAt off≥0 from h5.1)]
     cases decide (t.fAt<0)<;>rfl
    ·rw[decide_eq_false (show ¬(0≤An7 .i64 t.fAt off∧(0:Int)≤(s.length:Int)∧An7 .i64 t.fAt off+(s.length:Int)≤(mem.length:Int))by omega),decide_eq_false (show ¬((0≤off∧(0:Int)≤(s.length:Int)∧off+(s.length:Int)≤t.Aj0)∧0≤An7 .i64 t.fAt off∧An7 .i64 t.fAt off+(s.length:Int)≤(mem.length:Int))by omega)]
     cases decide (t.fAt<0)<;>cases decide (An7 .i64 t.fAt off≥0)<;>rfl
   ·rw[decide_eq_false h4,decide_eq_false (show ¬((0≤off∧(0:Int)≤(s.length:Int)∧off+(s.length:Int)≤t.Aj0)∧0≤An7 .i64 t.fAt off∧An7 .i64 t.fAt off+(s.length:Int)≤(mem.length:Int))by omega)];rfl
  ·rw[decide_eq_false h3,decide_eq_false (show ¬((0≤off∧(0:Int)≤(s.length:Int)∧off+(s.length:Int)≤t.Aj0)∧0≤An7 .i64 t.fAt off∧An7 .i64 t.fAt off+(s.length:Int)≤(mem.length:Int))by omega)];rfl
 ·rw[decide_eq_false (show ¬off≥0 from h1),decide_eq_false (show ¬((0≤off∧(0:Int)≤(s.length:Int)∧off+(s.length:Int)≤t.Aj0)∧0≤An7 .i64 t.fAt off∧An7 .i64 t.fAt off+(s.length:Int)≤(mem.length:Int))by omega)];rfl
end
def Bxp (n:Au)(v:Int):Au:=Au.mk n.Vt n.Dc n.S5 n.fUp n.S6 n.Eg n.S7 n.S8 n.Az n.Ade n.S9 n.Ga (n.Fo++([v]:List Int))
theorem Bo3 (K:Nat)(r:Bq): ∃b,A0f K r=some b:=by
 unfold A0f;rw[A36];simp only[Z0];cases A07 r.fH<;>cases decide (r.S5≥0)<;>exact⟨_,rfl⟩
theorem Bhi (K:Nat){n:Au}(hn:Aql n)(r:Bq): ∃t b,Ayg K n r=some (t,b)∧(b=true->t∈n.Ga):=by
 have h2:=hn.things
 have hl:n.Ga.length≤140737488355327:=by have:=h2.2;omega
 unfold Ayg;rw[A05 K hl];simp only[Z0]
 by_cases hs:0≤r.fNo∧r.fNo<(n.Ga.length:Int)
 ·rw[decide_eq_true hs,if_pos hs]
  have hm:gt n.Ga r.fNo∈n.Ga:=Alb hs.1 hs.2;cases n.Vt != 1<;>cases n.S5 != r.S5<;>first|exact⟨_,_,rfl,fun _=>hm⟩|exact⟨_,_,rfl,fun h=>Bool.noConfusion h⟩
 ·rw[decide_eq_false hs];cases n.Vt != 1<;>cases n.S5 != r.S5<;>exact⟨_,_,rfl,fun h=>by cases h⟩
theorem A6g{K:Nat}(hK:281474976710656≤K){w:C8}(I:Inv w)(hw:Afd w.fL)(r:Bq): ∃k t c,Ata K w r=some (k,t,c)∧(c=0->AlW w.fL k∧t∈(gt w.fL k).Ga):=by
 unfold Ata;obtain⟨b,h1⟩:=Bo3 K r;rw[h1,Auz hK hw];simp only[Z0];cases b with
 |false=>exact⟨_,_,_,rfl,fun h=>by cases h⟩
 |true=>
  simp only[Bool.not_true,cond_false]
  by_cases h0:(Aur w.fL r.fH).2=0
  ·have hi:=Bkz h0
   have hal:=A33 I h0;rw[if_pos hi,h0];obtain⟨q,b,h3,h4⟩:=Bhi K (hw.1 _ (Alb hi.1 hi.2)) r;rw[h3];simp only[Z0,bne_self_eq_false,cond_false];cases b with
   |false=>exact⟨_,_,_,rfl,fun h=>by cases h⟩
   |true=>exact⟨_,_,_,rfl,fun _=>⟨hal,h4 rfl⟩⟩
  ·rw[Arb h0];exact⟨_,_,_,rfl,fun h=>absurd h h0⟩
theorem Bo4{mem:List Int}{p:Int}{s:List Int}(h0:0≤p)(h1:p+(s.length:Int)≤(mem.length:Int)){j:Nat}(hj:j<mem.length)(h: ¬(p≤(j:Int)∧(j:Int)<p+(s.length:Int))):gt (Es mem p s) (j:Int)=gt mem (j:Int):=by
 have hl:=E5 h0 h1;rw[P2 (by rw[hl];exact hj),P2 hj]
 unfold Es
 by_cases q:(j:Int)<p
 ·rw[List.getElem_append_left (by simp;omega),List.getElem_append_left (by simp;omega),List.getElem_take]
 ·rw[List.getElem_append_right (by simp;omega),List.getElem_drop]
  congr 1
  simp;omega
theorem Bme{mem:List Int}{p:Int}{s:List Int}(hm: ∀x∈mem,0≤x∧x≤255)(hs: ∀x∈s,0≤x∧x≤255): ∀x∈Es mem p s,0≤x∧x≤255:=by
 intro x hx;unfold Es at hx;rcases Gh.1 hx with h|h
 ·rcases Gh.1 h with h|h
  ·exact hm x (Zm h)
  ·exact hs x h
 ·exact hm x (List.mem_of_mem_drop h)
theorem Bmf{w:C8}{E:Int}{n:Nat}(G:D8 w E n){k:Int}(hk:AlW w.fL k){t:Bd}(ht:t∈(gt w.fL k).Ga){mem':List Int}(hl:mem'.length=w.fP.Pm.length)
  (hb: ∀x∈mem',0≤x∧x≤255) (hs: ∀j:Nat,j<w.fP.Pm.length-> ¬(t.fAt≤(j:Int)∧(j:Int)<t.fAt+t.Aj0)->gt mem' (j:Int)=gt w.fP.Pm (j:Int)):
  D8 (C8.mk w.fC (Dp.mk mem' w.fP.Vt w.fP.Pn) w.fL w.fQ w.Adf) E n:=by
 have I:=G.inv
 have P:=Ala.1 I.pool;obtain⟨hki,L,T,e⟩:=G.live hk;obtain⟨b1,b2,b3,b4,b5,b6⟩:=Gx I.conf
 have hin: ∀j,t.fAt≤j->j<t.fAt+t.Aj0->j / w.fC.Hi∈(gt w.fL k).Az:=fun j h1 h2=>A7z (Z1.1 T.inch t ht) h1 h2
 have hz: ∀a m:Nat,Ap3 ((w.fP.Pm.drop a).take m)=true->(∀j:Nat,a≤j->j<a+m-> ¬(t.fAt≤(j:Int)∧(j:Int)<t.fAt+t.Aj0))->Ap3 ((mem'.drop a).take m)=true:=by
  intro a m h hd;rw[A3m]at h ⊢;intro j h1 h2 h3;rw[hl]at h3;rw[hs j h3 (hd j h1 h2)];exact h j h1 h2 h3
 have hch: ∀c,0≤c∧c<w.fC.Az->gt w.fP.Vt c≠1-> ∀j:Nat,(c*w.fC.Hi).toNat≤j->j<(c*w.fC.Hi).toNat+w.fC.Hi.toNat-> ¬(t.fAt≤(j:Int)∧(j:Int)<t.fAt+t.Aj0):=by
  intro c hc hst j h1 h2 h3
  have h0:0≤c*w.fC.Hi:=Int.mul_nonneg hc.1 (by omega)
  have h4:=hin j h3.1 h3.2;rw[A5t (a:=c) (by omega) (by omega) (by omega)]at h4
  exact hst ((I.own k hki c).1 h4).2.1
 refine⟨Bam I (Dp.mk mem' w.fP.Vt w.fP.Pn) w.fQ w.Adf ⟨P.conf,by rw[←P.mem];show(mem'.length:Int)=_;rw[hl],P.st,P.own,fun c hc=> ?_⟩ (fun c hc=>⟨Iff.rfl,rfl⟩) (fun x hx=> ?_) rfl rfl (fun x hx=> ?_) I.chn I.chi I.log,hb,G.ep,G.wt⟩
 ·obtain⟨p1,p2,p3,p4⟩:=P.one c hc;refine⟨p1,p2,p3,fun h=>hz _ _ (p4 h) fun j h1 h2=>hch c hc ?_ j h1 h2⟩
  have h:gt w.fP.Vt c=0:=h;omega
 ·have h3:=(I.thing x hx).2.2
  by_cases hs1:(gt w.fL x).Vt=1
  ·have Lx:=Aje.1 ⟨I.node x hx,hs1⟩
   have ex:=G.ep x hx
   by_cases hcur:(gt w.fL x).Ade=0
   ·unfold Aru;rw[hcur];rfl
   ·obtain⟨m1,m2,m3⟩:=A5c Lx ex.cur hcur
    have hm:=Axn Lx.dist _ m1
    have h0:0≤((gt w.fL x).Ade - 1)*w.fC.Hi:=Int.mul_nonneg hm.1 (by omega)
    unfold Aru at h3 ⊢;rw[Ah0 hcur,Z52,Z4]at h3 ⊢;refine⟨hz _ _ h3.1 fun j h1 h2 h4=> ?_,h3.2⟩
    have h1:(((gt w.fL x).Ade - 1)*w.fC.Hi+(gt w.fL x).S9).toNat≤j:=h1
    have h2:j<(((gt w.fL x).Ade - 1)*w.fC.Hi+(gt w.fL x).S9).toNat+(w.fC.Hi - (gt w.fL x).S9).toNat:=h2
    have h5:=hin j h4.1 h4.2;rw[A5t (a:=(gt w.fL x).Ade - 1) (by omega) (by omega) (by omega)]at h5
    have e1:=((I.own k hki _).1 h5).2.2
    have e2:=((I.own x hx _).1 m1).2.2
    have exk:x=k:=by omega
    rw[exk]at h3 h1 h2;refine Bci (Z1.1 h3.2 t ht) h4.1 h4.2 (b:=Avb w.fC (gt w.fL k)) ?_ ?_
    ·show((gt w.fL k).Ade - 1)*w.fC.Hi+(gt w.fL k).S9≤(j:Int);omega
    ·show(j:Int)<((gt w.fL k).Ade - 1)*w.fC.Hi+(gt w.fL k).S9+(w.fC.Hi - (gt w.fL k).S9);rw[exk]at m2 m3 h0;omega
  ·rw[Ayz (I.node x hx) hs1];rfl
 ·obtain⟨a,b⟩:=I.wrec x hx;refine⟨a,?_⟩
  have R:=Azv.1 a
  by_cases hc:0<x.Az.length
  ·have hm:gt x.Az 0∈x.Az:=Apg (i:=0) hc
   have h1:=(I.chi _).1 (Bai hx hm);unfold Ape at b ⊢;rw[Bool.or_eq_true]at b ⊢;rcases b with b|b
   ·exact .inl b
   ·refine .inr (hz _ _ b fun j h2 h3=>hch _ h1.1 (by omega) j h2 ?_)
    have hd:=R.done
    have h3:j<(gt x.Az 0*w.fC.Hi).toNat+x.Xa.toNat:=h3;omega
  ·unfold Ape;rw[decide_eq_false (by omega)];rfl
section
variable {K:Nat} (hK:281474976710656≤K)
include hK
theorem Bo5{E:Int}{n:Nat}(hE:0≤E∧E≤900000000)(hn:n≤800000000){w:C8}(G:D8 w E n)(r:Bq)(off m:Int): ∃a,A1m K w r off m=some (w,a):=by
 have W:=G.ww (by omega) (by omega)
 have P:=A5p (Ala.1 G.inv.pool);obtain⟨k,t,c,e,h⟩:=A6g hK G.inv W.l r;unfold A1m;rw[Aq7 hK W,A0r hK w W,G.inv.ok,e,Azc hK w W.l];simp only[Z0,Bool.not_true,cond_false]
 by_cases h0:c=0
 ·obtain⟨hk,ht⟩:=h h0
  have hT:=Bal (Z1.1 (G.live hk).2.1.things t ht);rw[h0];simp only[bne_self_eq_false,cond_false];rw[A7f K (by omega) hT,Z0]
  cases (Bk2 w.fP.Pm t off m).2<;>exact⟨_,rfl⟩
 ·rw[Arb h0];exact⟨_,rfl⟩
theorem Bmg{E:Int}{n:Nat}(hE:0≤E∧E≤900000000)(hn:n≤800000000){w:C8}(G:D8 w E n)(r:Bq)(off:Int){s:List Int}(hs: ∀x∈s,0≤x∧x≤255)(hl:s.length≤1000000): ∃a w',A0i K w r off s=some (w',a)∧D8 w' E n∧w'.fC=w.fC:=by
 have W:=G.ww (by omega) (by omega)
 have P:=A5p (Ala.1 G.inv.pool);obtain⟨k,t,c,e,h⟩:=A6g hK G.inv W.l r;unfold A0i;rw[Aq7 hK W,A0r hK w W,G.inv.ok,e,Azc hK w W.l];simp only[Z0,Bool.not_true,cond_false]
 by_cases h0:c=0
 ·obtain⟨hk,ht⟩:=h h0
  have htb:=Z1.1 (G.live hk).2.1.things t ht
  have hT:=Bal htb;obtain⟨s1,s2,s3,s4⟩:=(A13 htb).1;rw[h0];simp only[bne_self_eq_false,cond_false];rw[A6k hK (by omega) (by omega) hT,Z0]
  unfold Bd7;cases ho:A6x w.fP.Pm t off s with
  |false=>exact⟨_,_,rfl,G,rfl⟩
  |true=>
   unfold A6x at ho;rw[decide_eq_true_iff]at ho
   have ea:An7 .i64 t.fAt off=t.fAt+off:=by unfold An7;exact Ht (by omega) (by omega)
   rw[ea]at ho ⊢;refine⟨_,_,rfl,Bmf G hk ht (E5 (by omega) (by omega)) (Bme G.mem hs) (fun j hj hne=>Bo4 (by omega) (by omega) hj (by omega)),rfl⟩
 ·rw[Arb h0];exact⟨_,_,rfl,G,rfl⟩
theorem Bmh{E:Int}{n:Nat}(hE:0≤E∧E≤900000000)(hn:n≤800000000){w:C8}(G:D8 w E n)(h:An)(v:Int): ∃a w',A2f K w h v=some (w',a)∧D8 w' E (n+1)∧w'.fC=w.fC:=by
 have hm:=Wx
 have W:=G.ww (by omega) (by omega)
 have G0:=D8.le G (Int.le_refl E) (by omega:n≤n+1)
 unfold A2f Ayi A0j;rw[Aq7 hK W,A0r hK w W,G.inv.ok,Aoh,Auz hK W.l,Azc hK w W.l];simp only[Z0,cond_true]
 by_cases hv:0≤v∧v≤255
 ·rw[Ael.2 hv];simp only[Bool.not_true,cond_false]
  by_cases h0:(Aur w.fL h).2=0
  ·have hal:=A33 G.inv h0;obtain⟨hki,L,T,e⟩:=G.live hal;rw[h0];simp only[beq_self_eq_true,cond_true,if_pos hki]
   by_cases q:((gt w.fL (Aur w.fL h).1).Fo.length:Int)≥6
   ·rw[decide_eq_true q];exact⟨_,_,rfl,G0,rfl⟩
   ·rw[decide_eq_false q];simp only[cond_false];rw[if_pos ⟨by simp;omega,by simp;omega⟩]
    refine⟨_,_,rfl,?_,rfl⟩
    have P:=Ala.1 G.inv.pool;refine(A3t G hal (n':=Bxp (gt w.fL (Aur w.fL h).1) v) (m:=1) P (A71 G.inv hki rfl) rfl rfl ⟨L.conf,L.st,L.gen,L.up,L.first,L.next,L.prev,L.ep,L.ue,L.dist,L.cur,L.nth,?_,?_,L.things⟩ ⟨T.inch,T.apart,T.loose⟩ ⟨e.ep,e.ue,e.cur⟩ ?_).1
    ·show(_++[v]).length≤6;simp;omega
    ·show(_++[v]).all _=true;rw[List.all_append,L.tags,Fw,Ael.2 hv];rfl
    ·have hst1:(Bxp (gt w.fL (Aur w.fL h).1) v).Vt=1:=L.st;unfold wtN;rw[if_pos L.st,if_pos hst1]
     show 2+(_++[v]).length+w.fC.Hi.toNat*(gt w.fL (Aur w.fL h).1).Az.length≤_;rw[Jh,List.length_singleton];omega
  ·rw[Ah0 h0];simp only[cond_false];exact⟨_,_,rfl,G0,rfl⟩
 ·rw[A6n.2 hv];exact⟨_,_,rfl,G0,rfl⟩
theorem Bmi{E:Int}{n:Nat}(hE:0≤E∧E≤900000000)(hn:n≤800000000){w:C8}(G:D8 w E n)(h:An): ∃a,A0k K w h=some (w,a):=by
 have W:=G.ww (by omega) (by omega)
 unfold A0k Ayj;rw[Aq7 hK W,A0r hK w W,G.inv.ok,Auz hK W.l,Azc hK w W.l];simp only[Z0,Bool.not_true,cond_false]
 by_cases h0:(Aur w.fL h).2=0
 ·have hal:=A33 G.inv h0;obtain⟨hki,L,T,e⟩:=G.live hal
  have hn:=W.l.1 _ (Alb hki.1 hki.2);rw[h0];simp only[beq_self_eq_true,cond_true,if_pos hki];unfold A0w;rw[Avv hK _ _ (Ay8 hK hn.chunks) (Be2 hK hn.things) (Ay8 hK hn.tags)];simp only[Z0];cases (gt w.fL (Aur w.fL h).1).Ade==0<;>cases Aq2 w.fC (gt w.fL (Aur w.fL h).1)<;>exact⟨_,rfl⟩
 ·rw[Ah0 h0];exact⟨_,rfl⟩
end
def Ay1 (a:List Int):Prop:= ∀x∈a,0≤x∧x≤255
theorem Bd9{a b:List Int}(h:Ay1 a)(g:Ay1 b):Ay1 (a++b):=by
 intro x hx;rcases Gh.1 hx with h1|h1
 ·exact h x h1
 ·exact g x h1
def Ag8 (c:D1):Prop:=Ay1 c.fb∧c.fb.length≤1048576∧0≤c.fi∧c.fi≤(c.fb.length:Int)
theorem Bfl (x:Int):0≤Aoa .i64 x 255∧Aoa .i64 x 255≤255:=by
 unfold Aoa
 have e:(BitVec.ofInt IntKind.i64.bits x &&& BitVec.ofInt IntKind.i64.bits 255).toNat≤255:=by
  rw[BitVec.toNat_and];exact Tg Nat.and_le_right (by decide)
 rw[Ht (by omega) (by omega)]
 omega
theorem Bea (K:Nat){a:List Int}(hb:Ay1 a)(ha:a.length≤1048576): ∀(n i:Nat) (v:Int),i≤a.length->a.length - i<n-> ∃c,Avc K a n v (i:Int)=some c∧Ag8 c:=by
 intro n
 induction n with
 |zero=>intro i _ _ h;omega
 |succ n ih=>
  intro i v hi hn;rw[Avc]
  have done: ∀v,Ag8 (D1.mk a 0 v):=fun v=>⟨hb,ha,by show(0:Int)≤0;omega,by show(0:Int)≤_;omega⟩
  rcases E4 i a.length with h|h
  ·rw[Ae4 h];simp only[cond_true];cases decide ((i:Int)<4000)with
   |false=>exact⟨_,rfl,done _⟩
   |true=>
    simp only[cond_true];rw[if_pos ⟨by omega,by omega⟩,Aep (i:=i) (by omega)]
    exact ih (i+1) _ h (by omega)
  ·rw[Afn h];exact⟨_,rfl,done _⟩
theorem Bco{K:Nat}(hK:281474976710656≤K){a:List Int}(hb:Ay1 a)(ha:a.length≤1048576): ∃c,Ax1 K a=some c∧Ag8 c:=by
 unfold Ax1;exact Bea K hb ha K 0 _ (Z21 _) (by omega)
theorem A34 (K:Nat){c:D1}(hc:Ag8 c): ∃r,Aq8 K c=some r∧(0≤r.1∧r.1≤255)∧Ag8 r.2:=by
 obtain⟨h1,h2,h3,h4⟩:=hc;unfold Aq8 Awx;rw[if_pos (by decide),if_pos (by decide)]
 by_cases h:c.fi<(c.fb.length:Int)
 ·rw[decide_eq_true h];simp only[cond_true];rw[if_pos ⟨h3,h⟩]
  have e:An7 .i64 c.fi 1=c.fi+1:=by unfold An7;rw[Ht (by omega) (by omega)]
  exact⟨_,rfl,Bfl _,h1,h2,by show(0:Int)≤An7 .i64 c.fi 1;omega,by show An7 .i64 c.fi 1≤(c.fb.length:Int);omega⟩
 ·rw[decide_eq_false h];exact⟨_,rfl,Bfl _,h1,h2,h3,h4⟩
theorem Ag7 (K:Nat){c:D1}(hc:Ag8 c){n:Int}(hn:0<n): ∃r,Ap K c n=some r∧(0≤r.1∧r.1<n)∧Ag8 r.2:=by
 unfold Ap;rw[decide_eq_false (show ¬n≤0 by omega)]
 simp only[cond_false];obtain⟨r1,e1,b1,w1⟩:=A34 K hc
 by_cases h:n≤256
 ·rw[decide_eq_true h,e1];simp only[cond_true,Z0];rw[if_pos (by omega)]
  exact⟨_,rfl,⟨Int.tmod_nonneg _ b1.1,Int.tmod_lt_of_pos _ hn⟩,w1⟩
 ·rw[decide_eq_false h,e1];simp only[cond_false,Z0];obtain⟨r2,e2,b2,w2⟩:=A34 K w1;rw[e2];simp only[Z0];obtain⟨r3,e3,b3,w3⟩:=A34 K w2;rw[e3];simp only[Z0];rw[if_pos (by omega)]
  refine⟨_,rfl,⟨Int.tmod_nonneg _ ?_,Int.tmod_lt_of_pos _ hn⟩,w3⟩;unfold An7 An9;rw[Ht (n:=r1.1*65536) (by omega) (by omega),Ht (n:=r2.1*256) (by omega) (by omega),Ht (n:=r1.1*65536+r2.1*256) (by omega) (by omega),Ht (by omega) (by omega)]
  omega
theorem Ax0 (K:Nat){c:D1}(hc:Ag8 c){n:Int}(hn:0<n): ∃r,Anz K c n=some r∧Ag8 r.2:=by
 obtain⟨r,e,_,w⟩:=Ag7 K hc hn;unfold Anz;rw[e];exact⟨_,rfl,w⟩
theorem Az1 (K:Nat){c:D1}(hc:Ag8 c){l:List Int}(hl:0<l.length): ∃x c',Wy K c l=some (x,c',l)∧x∈l∧Ag8 c':=by
 obtain⟨r,e,b,w⟩:=Ag7 K hc (n:=(l.length:Int)) (by omega)
 unfold Wy;rw[e];simp only[Z0];rw[if_pos b];exact⟨_,_,rfl,Alb b.1 b.2,w⟩
theorem A6h (K:Nat){c:D1}(hc:Ag8 c)(n:Int): ∃r,Ap K c n=some r∧Ag8 r.2:=by
 by_cases h:0<n
 ·obtain⟨r,e,_,w⟩:=Ag7 K hc h;exact⟨r,e,w⟩
 ·unfold Ap;rw[decide_eq_true (show n≤0 by omega)]
  exact⟨_,rfl,hc⟩
theorem Bxq (x:Int):0≤IntKind.u8.wrap x∧IntKind.u8.wrap x≤255:=by rw[IntKind.wrap_u8];omega
theorem A72{K:Nat}(hK:281474976710656≤K){c:D1}(hc:Ag8 c){n:Int}(h1:n≤1000): ∃b c',Ax5 K c n=some (b,c')∧Ay1 b∧b.length≤1000∧Ag8 c':=by
 have hm:=Wx
 have key: ∀(f i:Nat) (l:List Int) (c:D1),Ag8 c->Ay1 l->l.length=i->(i:Int)≤1000->(1000 - i)<f-> ∃b c',Asu K n f l (i:Int) c.fb c.fi c.fh=some (b,c')∧Ay1 b∧b.length≤1000∧Ag8 c':=by
  intro f
  induction f with
  |zero=>intro i _ _ _ _ _ _ h;omega
  |succ f ih=>
   intro i l c hc hl hi h2 hf;rw[Asu]
   by_cases q:(i:Int)<n
   ·obtain⟨r,e,_,w⟩:=A34 K hc;rw[decide_eq_true q,cond_true,show D1.mk c.fb c.fi c.fh=c from rfl,e,Z0,if_pos ⟨by simp;omega,by simp;omega⟩,Aep (by omega)]
    exact ih (i+1) _ r.2 w (Bd9 hl fun x hx=>by rw[Mx.1 hx];exact Bxq _) (by simp[hi]) (by omega) (by omega)
   ·rw[decide_eq_false q];exact⟨_,_,rfl,hl,by omega,hc⟩
 exact key K 0 [] c hc (fun x hx=>by cases hx) rfl (by omega) (by omega)
def Aiw (o:Ct):Prop:=Ay1 o.fB∧o.fB.length≤1000
theorem Aqn (k:Int)(h:An)(r:Bq)(n m:Int):Aiw (Ct.mk k h r n m []):=⟨(fun x hx=>by cases hx),Z21 _⟩
theorem Bcp (K:Nat){c:D1}(hc:Ag8 c): ∃h c',Awz K c=some (h,c')∧Ag8 c':=by
 unfold Awz;obtain⟨r,e,_,w⟩:=Ag7 K hc (n:=5) (by omega)
 obtain⟨q,e2,_,w2⟩:=Ag7 K w (n:=3) (by omega)
 rw[e,Z0,e2];exact⟨_,_,rfl,w2⟩
theorem A73{K:Nat}(hK:281474976710656≤K){c:D1}(hc:Ag8 c)(k:Int)(b:Bool)(r:Bq)(h:An){o:Ct}(ho:Aiw o)(p:Ct): ∃o' c',Are K k b c.fb c.fi c.fh r h o p=some (o',c')∧Aiw o'∧Ag8 c':=by
 unfold Are
 have e0:D1.mk c.fb c.fi c.fh=c:=rfl;rw[e0];cases b with
 |true=>exact⟨_,_,rfl,⟨ho.1,ho.2⟩,hc⟩
 |false=>
  simp only[cond_false];cases k==2 with
  |true=>
   simp only[cond_true];obtain⟨x,c1,e1,_,w1⟩:=Az1 K hc (l:=[1,2,3,5,8,9,17,20,0,201]) (by simp)
   obtain⟨y,c2,e2,_,w2⟩:=Az1 K w1 (l:=[1,1,2,4,3]) (by simp)
   rw[e1,Z0,if_pos rfl,e2,Z0,if_pos rfl];exact⟨_,_,rfl,⟨ho.1,ho.2⟩,w2⟩
  |false=>
   simp only[cond_false];cases k==3 with
   |true=>
    simp only[cond_true];obtain⟨x,e1,_,w1⟩:=Ag7 K hc (n:=4) (by omega)
    obtain⟨y,e2,_,w2⟩:=Ag7 K w1 (n:=5) (by omega)
    rw[e1,Z0,e2,Z0];exact⟨_,_,rfl,⟨ho.1,ho.2⟩,w2⟩
   |false=>
    simp only[cond_false];cases k==4 with
    |true=>
     simp only[cond_true];obtain⟨x,e1,_,w1⟩:=Ag7 K hc (n:=4) (by omega)
     obtain⟨y,e2,b2,w2⟩:=Ag7 K w1 (n:=4) (by omega)
     obtain⟨z,c3,e3,b3,l3,w3⟩:=A72 hK w2 (n:=y.1) (by omega)
     rw[e1,Z0,e2,Z0,e3,Z0];exact⟨_,_,rfl,⟨b3,l3⟩,w3⟩
    |false=>
     simp only[cond_false];cases k==5 with
     |true=>
      simp only[cond_true];obtain⟨x,c1,e1,_,w1⟩:=Az1 K hc (l:=[1,7,255,256]) (by simp)
      rw[e1,Z0,if_pos rfl];exact⟨_,_,rfl,⟨ho.1,ho.2⟩,w1⟩
     |false=>exact⟨_,_,rfl,ho,hc⟩
theorem A74{K:Nat}(hK:281474976710656≤K){c:D1}(hc:Ag8 c): ∃o c',Avd K c=some (o,c')∧Aiw o∧Ag8 c':=by
 unfold Avd;obtain⟨r1,e1,_,w1⟩:=Ag7 K hc (n:=9) (by omega)
 obtain⟨h2,c2,e2,w2⟩:=Bcp K w1;obtain⟨r3,e3,_,w3⟩:=Ag7 K w2 (n:=2) (by omega)
 obtain⟨r4,e4,_,w4⟩:=Ag7 K w3 (n:=3) (by omega)
 rw[e1,Z0,e2,Z0,e3,Z0,e4,Z0];cases An7 .i64 1 r1.1==1 with
 |true=>
  simp only[cond_true];obtain⟨r5,e5,w5⟩:=Ax0 K w4 (n:=2) (by omega)
  rw[e5,Z0];cases r5.1 with
  |true=>exact⟨_,_,rfl,Aqn _ _ _ _ _,w5⟩
  |false=>exact⟨_,_,rfl,Aqn _ _ _ _ _,w5⟩
 |false=>
  simp only[cond_false];cases An7 .i64 1 r1.1==6 with
  |true=>simp only[cond_true];exact A73 hK w4 _ _ _ _ (Aqn _ _ _ _ _) _
  |false=>
   simp only[cond_false];cases An7 .i64 1 r1.1==7 with
   |true=>simp only[cond_true];exact A73 hK w4 _ _ _ _ (Aqn _ _ _ _ _) _
   |false=>simp only[cond_false];exact A73 hK w4 _ _ _ _ (Aqn _ _ _ _ _) _
theorem A9e (K:Nat){c:D1}(hc:Ag8 c): ∃x c',Awi K c=some (x,c')∧Ai0 x=true∧Ag8 c':=by
 unfold Awi;obtain⟨r1,e1,b1,w1⟩:=Ag7 K hc (n:=11) (by omega)
 obtain⟨x2,c2,e2,m2,w2⟩:=Az1 K w1 (l:=[8,8,9,12,16]) (by simp)
 obtain⟨r3,e3,b3,w3⟩:=Ag7 K w2 (n:=7) (by omega)
 obtain⟨r4,e4,b4,w4⟩:=Ag7 K w3 (n:=6) (by omega)
 obtain⟨x5,c5,e5,m5,w5⟩:=Az1 K w4 (l:=[1,3,4,8,16]) (by simp)
 obtain⟨r6,e6,b6,w6⟩:=Ag7 K w5 (n:=4) (by omega)
 rw[e1,Z0,e2,Z0,if_pos rfl,e3,Z0,e4,Z0,e5,Z0,if_pos rfl,e6];refine⟨_,_,rfl,?_,w6⟩
 have a1:An7 .i64 2 r1.1=2+r1.1:=by unfold An7;exact Ht (by omega) (by omega)
 have a3:An7 .i64 2 r3.1=2+r3.1:=by unfold An7;exact Ht (by omega) (by omega)
 have a4:An7 .i64 1 r4.1=1+r4.1:=by unfold An7;exact Ht (by omega) (by omega)
 have a6:An7 .i64 1 r6.1=1+r6.1:=by unfold An7;exact Ht (by omega) (by omega)
 rw[a1,a3,a4,a6]
 have m2:x2=8∨x2=8∨x2=9∨x2=12∨x2=16:=by simpa using m2
 have m5:x5=1∨x5=3∨x5=4∨x5=8∨x5=16:=by simpa using m5
 unfold Ai0;simp only[Z4,Ael];omega
theorem A75{w:C8}{E:Int}{n:Nat}(G:D8 w E n)(hE:0≤E){k:Int}(hk:AlW w.fL k):D8 (Asm w k) E n:=by
 obtain⟨t,A,F⟩:=G.inv.forest
 have al:=hk.al A
 have I':=Bg6 G.inv A F al;obtain⟨hki,L,T,e⟩:=G.live hk
 have R:=G.inv.rg
 have hN:(Asm w k).fL.length=w.fL.length:=by unfold Asm;simp only;rw[Z49,A0s]
 have hg: ∀x,0≤x∧x<(w.fL.length:Int)->gt (Asm w k).fL x=if x=k then Aqt 2 (gt (Anv w.fL k) k).Dc else gt (Anv w.fL k) x:=fun x hx=>by
  unfold Asm;simp only;rw[Ap8 (by rw[A0s];exact hki) (by rw[A0s];exact hx)];rfl
 refine⟨I',?_,fun x hx=> ?_,?_⟩
 ·show ∀x∈(Ai3 w.fP _).Pm,_;rw[(A0t G.inv hki).2.1];exact G.mem
 ·rw[hN]at hx;rw[hg x hx]
  by_cases q:x=k
  ·rw[if_pos q];exact⟨hE,hE,⟨Int.le_refl 0,by show(0:Int)≤1000;omega⟩⟩
  ·rw[if_neg q,A3j R hki hx q]
   have:=G.ep x hx;exact⟨this.ep,this.ue,this.cur⟩
 ·have hs:=A3n (f:=wtN w.fC) hN hki fun x hx hne=>by rw[hg x hx,if_neg hne,A3j R hki hx hne];rfl
  rw[hg k hki,if_pos rfl,A3o _ (by decide)]at hs
  have e1:wtN w.fC (gt w.fL k)=2+(gt w.fL k).Fo.length+w.fC.Hi.toNat*(gt w.fL k).Az.length:=by unfold wtN;rw[if_pos L.st]
  have h3:=G.wt;unfold wt pot at h3 ⊢
  show((Asm w k).fL.map (wtN w.fC)).sum+((w.fQ++[Ag5 (gt w.fL k) (An7 .i64 k 1)]).map (wtQ w.fC)).sum+w.Adf.length≤_
  have e2:wtQ w.fC (Ag5 (gt w.fL k) (An7 .i64 k 1))=1+(gt w.fL k).Fo.length+w.fC.Hi.toNat*(gt w.fL k).Az.length:=rfl;rw[Fv,List.sum_append,Z8,Gk,List.sum_cons,List.sum_nil,e2];omega
theorem A76{w:C8}{E:Int}{n:Nat}(G:D8 w E n)(hE:0≤E∧E≤900000000){k:Int}(hk:AlW w.fL k):D8 (Au2 w k) (E+1) (n+1):=by
 obtain⟨t,A,F⟩:=G.inv.forest
 have al:=hk.al A;obtain⟨hki,L,T,e⟩:=G.live hk
 have h0:=L.ep
 have h1:=e.ep
 have I':=Bg7 G.inv A F al (by omega)
 have hN:(Au2 w k).fL.length=w.fL.length:=by unfold Au2;simp only;rw[Z49]
 have hg: ∀x,0≤x∧x<(w.fL.length:Int)->gt (Au2 w k).fL x=if x=k then Atx (gt w.fL k)else gt w.fL x:=fun x hx=>Ap8 hki hx _
 refine⟨I',?_,fun x hx=> ?_,?_⟩
 ·show ∀x∈(Ai3 w.fP _).Pm,_;rw[(A0t G.inv hki).2.1];exact G.mem
 ·rw[hN]at hx;rw[hg x hx]
  have hx':=G.ep x hx
  by_cases q:x=k
  ·rw[if_pos q];refine⟨?_,?_,⟨Int.le_refl 0,by show(0:Int)≤1000;omega⟩⟩
   ·show An7 .i64 (gt w.fL k).S5 1≤_;rw[ad1 (by omega) (by omega)];omega
   ·have:=e.ue
    show(gt w.fL k).S6≤_;omega
  ·rw[if_neg q]
   have h2:=hx'.ep;have h3:=hx'.ue;exact⟨by omega,by omega,hx'.cur⟩
 ·have hs:=A3n (f:=wtN w.fC) hN hki fun x hx hne=>by rw[hg x hx,if_neg hne]
  rw[hg k hki,if_pos rfl]at hs
  have e1:wtN w.fC (gt w.fL k)=2+(gt w.fL k).Fo.length+w.fC.Hi.toNat*(gt w.fL k).Az.length:=by unfold wtN;rw[if_pos L.st]
  have e0:wtN w.fC (Atx (gt w.fL k))=2:=by
   have hst1:(Atx (gt w.fL k)).Vt=1:=L.st;unfold wtN;rw[if_pos hst1];rfl
  have h3:=G.wt;unfold wt pot at h3 ⊢
  show((Au2 w k).fL.map (wtN w.fC)).sum+((w.fQ++[Ag5 (gt w.fL k) 0]).map (wtQ w.fC)).sum+w.Adf.length≤_
  have e2:wtQ w.fC (Ag5 (gt w.fL k) 0)=1+(gt w.fL k).Fo.length+w.fC.Hi.toNat*(gt w.fL k).Az.length:=rfl;rw[Fv,List.sum_append,Z8,Gk,List.sum_cons,List.sum_nil,e2];omega
section
variable {K:Nat} (hK:281474976710656≤K)
include hK
theorem Bul{E:Int}{n:Nat}(hE:0≤E∧E≤900000000)(hn:n≤800000000){w:C8}(G:D8 w E n){o:Ct}(ho:Aiw o): ∃w' a,Azj K w o=some (w',a)∧D8 w' E (n+1)∧w'.fC=w.fC:=by
 have W:=G.ww (by omega) (by omega)
 have G0:=D8.le G (Int.le_refl E) (by omega:n≤n+1)
 unfold Azj;cases o.Xb==3 with
 |true=>
  simp only[cond_true];obtain⟨a,e⟩:=Bo5 hK hE hn G o.fR o.fN o.fM;rw[e];exact⟨_,_,rfl,G0,rfl⟩
 |false=>
  simp only[cond_false];cases o.Xb==4 with
  |true=>
   simp only[cond_true];obtain⟨a,w',e,g,c⟩:=Bmg hK hE hn G o.fR o.fN (s:=o.fB) ho.1 (by have:=ho.2;omega)
   rw[e];exact⟨_,_,rfl,D8.le g (Int.le_refl E) (by omega),c⟩
  |false=>
   simp only[cond_false];cases o.Xb==5 with
   |true=>
    simp only[cond_true];obtain⟨a,w',e,g,c⟩:=Bmh hK hE hn G o.fH o.fN;rw[e];exact⟨_,_,rfl,g,c⟩
   |false=>
    simp only[cond_false];cases o.Xb==8 with
    |true=>
     simp only[cond_true];obtain⟨a,e⟩:=Bmi hK hE hn G o.fH;rw[e];exact⟨_,_,rfl,G0,rfl⟩
    |false=>
     simp only[cond_false];rw[Aq7 hK W];exact⟨_,_,rfl,G0,rfl⟩
theorem Bmj{E:Int}{n:Nat}(hE:0≤E∧E≤800000000)(hn:n≤700000000){w:C8}(G:D8 w E n)(b:Bool){o:Ct}(ho:Aiw o)(z:Ex):
  ∃a w',Avp K b w.fC.Az w.fC.Hi w.fC.Fb w.fC.G8 w.fC.Fc w.fC.Hj w.fP.Pm w.fP.Vt w.fP.Pn w.fL w.fQ w.Adf z o.Xb o.fH.Bk o.fH.Dc o.fR.fH.Bk o.fR.fH.Dc o.fR.S5 o.fR.fNo o.fN o.fM o.fB=some (a,w')∧D8 w' (E+1) (n+1)∧w'.fC=w.fC:=by
 have W:=G.ww (by omega) (by omega)
 have hq:=Blo w
 have hwt:=G.wt
 have G0:=D8.le G (by omega:E≤E+1) (by omega:n≤n+1)
 unfold Avp;rw[show C8.mk (Eb.mk w.fC.Az w.fC.Hi w.fC.Fb w.fC.G8 w.fC.Fc w.fC.Hj) (Dp.mk w.fP.Pm w.fP.Vt w.fP.Pn) w.fL w.fQ w.Adf=w from rfl]
 cases b with
 |true=>
  simp only[cond_true];rw[Auz hK W.l,Z0,Azc hK w W.l,Z0]
  by_cases h0:(Aur w.fL (An.mk o.fH.Bk o.fH.Dc)).2=0
  ·have hal:=A33 G.inv h0
   have hki:=(G.live hal).1;rw[h0];simp only[bne_self_eq_false,cond_false];cases o.Xb==6 with
   |true=>
    simp only[cond_true];rw[A4y hK w W (by omega) hki,Z0]
    exact⟨_,_,rfl,A76 G (by omega) hal,rfl⟩
   |false=>
    simp only[cond_false];rw[A7h hK w W (by omega) hki,Z0]
    exact⟨_,_,rfl,D8.le (A75 G hE.1 hal) (by omega) (by omega),rfl⟩
  ·rw[Arb h0];exact⟨_,_,rfl,G0,rfl⟩
 |false=>
  simp only[cond_false];rw[show Ct.mk o.Xb (An.mk o.fH.Bk o.fH.Dc) (Bq.mk (An.mk o.fR.fH.Bk o.fR.fH.Dc) o.fR.S5 o.fR.fNo) o.fN o.fM o.fB=o from rfl]
  obtain⟨w',a,e,g,c⟩:=Bul hK (by omega) (by omega) G ho
  rw[e];exact⟨_,_,rfl,D8.le g (by omega) (Z9 _),c⟩
theorem Bxr{E:Int}{n:Nat}(hE:0≤E∧E≤800000000)(hn:n≤700000000){w:C8}(G:D8 w E n){o:Ct}(ho:Aiw o): ∃a w',A0l K w o=some (a,w')∧D8 w' (E+1) (n+192)∧w'.fC=w.fC:=by
 unfold A0l;cases o.Xb==1 with
 |true=>
  simp only[cond_true];obtain⟨r,w',e,g,c⟩:=Bd3 hK (by omega) (by omega) G o.fH
  rw[e];exact⟨_,_,rfl,D8.le g (by omega) (by omega),c⟩
 |false=>
  simp only[cond_false];cases o.Xb==2 with
  |true=>
   simp only[cond_true];obtain⟨r,w',e,g,c⟩:=Bcn hK (by omega) (by omega) G o.fH o.fN o.fM
   rw[e];exact⟨_,_,rfl,D8.le g (by omega) (by omega),c⟩
  |false=>
   simp only[cond_false];cases o.Xb==9 with
   |true=>
    simp only[cond_true];obtain⟨r,w',e,S⟩:=A6w hK (E:=E) (n:=n) (by omega) (by omega) 4000 G
    rw[e];exact⟨_,_,rfl,D8.le S.good (by omega) (by omega),S.stay.conf⟩
   |false=>
    simp only[cond_false];cases o.Xb==6 with
    |true=>
     simp only[cond_true];obtain⟨r,w',e,g,c⟩:=Bmj hK hE hn G true ho (Ex.mk 0 (An.mk 0 0) (Bq.mk (An.mk 0 0) 0 0) [] 0 0 0);exact⟨_,_,e,D8.le g (Int.le_refl _) (by omega),c⟩
    |false=>
     simp only[cond_false];obtain⟨r,w',e,g,c⟩:=Bmj hK hE hn G (o.Xb==7) ho (Ex.mk 0 (An.mk 0 0) (Bq.mk (An.mk 0 0) 0 0) [] 0 0 0);exact⟨_,_,e,D8.le g (Int.le_refl _) (by omega),c⟩
end
theorem Bas{α:Type}[Inhabited α]{n:Nat}(x:α){k:Int}(hk:0≤k∧k<(n:Int)):gt (List.replicate n x) k=x:=by
 obtain⟨j,rfl⟩: ∃j:Nat,k=j:=⟨k.toNat,by omega⟩
 rw[P2 (by simp;omega)]
 simp
theorem A77{α:Type}(i:Nat)(x:α):List.replicate i x++[x]=List.replicate (i+1) x:=by rw[List.replicate_succ']
section
variable {K:Nat} (hK:281474976710656≤K)
include hK
def Bfm (c:Eb):Dp:=Dp.mk (List.replicate (c.Az*c.Hi).toNat 0) (List.replicate c.Az.toNat 0) (List.replicate c.Az.toNat (-1))
theorem Beb{c:Eb}(hc:Ai0 c=true):Ax2 K c=some (Bfm c):=by
 have hm:=Wx;obtain⟨b1,b2,b3,b4,b5,b6⟩:=Gx hc
 have hb:=Au9 (a:=c.Az) (b:=c.Hi) (m:=12) (n:=16) (by omega) b1.2 (by omega) b2.2
 have hby:Amn c=c.Az*c.Hi:=by unfold Amn;rw[hc];rfl
 unfold Ax2 A2e;rw[Arc,hc,Z0,Bool.not_true,cond_false,At6,Z0,hby,Aoh,Ael.2 ⟨by omega,by omega⟩]
 simp only[Z0,Bool.not_true,cond_false];rw[if_pos ⟨by omega,by omega,by omega,by omega⟩,Z0]
 have key: ∀(f i:Nat),(i:Int)≤c.Az->c.Az.toNat - i<f->Asr K c f (i:Int) (Dp.mk (List.replicate (c.Az*c.Hi).toNat 0) (List.replicate i 0) (List.replicate i (-1))) (Dp.mk [] [] [])=some (Bfm c):=by
  intro f
  induction f with
  |zero=>intro i _ h;omega
  |succ f ih=>
   intro i hi hf;rw[Asr]
   by_cases q:(i:Int)=c.Az
   ·rw[decide_eq_false (by omega)]
    unfold Bfm;rw[←q];rfl
   ·rw[decide_eq_true (by omega),cond_true,if_pos ⟨by simp;omega,by simp;omega⟩,if_pos ⟨by simp;omega,by simp;omega⟩,Aep (by omega)]
    simp only;rw[A77,A77];exact ih (i+1) (by omega) (by omega)
 exact key K 0 (by omega) (by omega)
theorem Bcq{c:Eb}(hc:Ai0 c=true):Az2 K c=some (List.replicate c.Fb.toNat (Aqt 0 1)):=by
 have hm:=Wx;obtain⟨b1,b2,b3,b4,b5,b6⟩:=Gx hc
 have key: ∀(f i:Nat),(i:Int)≤c.Fb->c.Fb.toNat - i<f->Ar5 K c f (List.replicate i (Aqt 0 1)) (i:Int)=some (List.replicate c.Fb.toNat (Aqt 0 1)):=by
  intro f
  induction f with
  |zero=>intro i _ h;omega
  |succ f ih=>
   intro i hi hf;rw[Ar5]
   by_cases q:(i:Int)=c.Fb
   ·rw[decide_eq_false (by omega),←q];rfl
   ·unfold Al1;rw[decide_eq_true (by omega),cond_true,Arc,hc]
    simp only[Z0,cond_true];rw[show Au.mk 0 1 0 0 0 0 0 0 [] 0 0 [] []=Aqt 0 1 from rfl,if_pos ⟨by simp;omega,by simp;omega⟩,Aep (by omega),A77]
    exact ih (i+1) (by omega) (by omega)
 exact key K 0 (by omega) (by omega)
def A10 (c:Eb):C8:=C8.mk c (Bfm c) (List.replicate c.Fb.toNat (Aqt 0 1)) [] []
theorem Bcr{c:Eb}(hc:Ai0 c=true):Awy K c=some (A10 c):=by
 unfold Awy;rw[Arc,hc,Z0,Bool.not_true,cond_false,Beb hK hc,Z0,Bcq hK hc];rfl
end
def Bmk (_:Int):Lk:=⟨false,false,0,0,0,0,0,0⟩
theorem A2r{N x:Int}: ¬Lv N Bmk x:=fun h=>by have:=h.2;cases this
theorem Bcs (N:Int):Ak4 N Bmk []:=by
 refine⟨⟨fun k h=>absurd h A2r,fun k h=>absurd h A2r,fun _ _ _ _=>⟨rfl,rfl,rfl,rfl⟩⟩,⟨fun _=>0,fun x h=>absurd h A2r⟩,⟨fun _=>0,fun x h=>absurd h A2r⟩,⟨List.nodup_nil,fun x=>⟨(fun h=>by cases h),fun h=>absurd h.1 A2r⟩,(fun f h=>by cases h)⟩,trivial,fun x h=>absurd h A2r,fun x h=>absurd h A2r,(fun e h=>by cases h)⟩
theorem Bml{c:Eb}(hc:Ai0 c=true):D8 (A10 c) 0 0:=by
 obtain⟨b1,b2,b3,b4,b5,b6⟩:=Gx hc
 have hb:=Au9 (a:=c.Az) (b:=c.Hi) (m:=12) (n:=16) (by omega) b1.2 (by omega) b2.2
 have hN:((A10 c).fL.length:Int)=c.Fb:=by show((List.replicate _ _).length:Int)=_;rw[List.length_replicate];omega
 have hg: ∀k,0≤k∧k<((A10 c).fL.length:Int)->gt (A10 c).fL k=Aqt 0 1:=fun k hk=>Bas _ (by rw[hN]at hk;omega)
 have hs: ∀k,0≤k∧k<c.Az->gt (A10 c).fP.Vt k=0:=fun k hk=>Bas _ (by omega)
 have ho: ∀k,0≤k∧k<c.Az->gt (A10 c).fP.Pn k= -1:=fun k hk=>Bas _ (by omega)
 have hz: ∀a m:Nat,Ap3 (((A10 c).fP.Pm.drop a).take m)=true:=fun a m=>by
  rw[A3m];intro j _ _ h
  have h:j<(List.replicate (c.Az*c.Hi).toNat (0:Int)).length:=h;rw[List.length_replicate]at h;exact Bas _ ⟨by omega,by omega⟩
 refine⟨⟨Ala.2 ⟨hc,?_,?_,?_,fun k hk=> ?_⟩,hN,fun k hk=> ?_,fun k hk x=> ?_,fun k hk=> ?_,⟨Bmk,(fun k hk=>by rw[hg k hk];rfl),Bcs _⟩,(fun x h=>by cases h),List.nodup_nil,fun x=> ?_,List.nodup_nil,fun s=> ?_,rfl⟩,fun x hx=> ?_,fun k hk=> ?_,?_⟩
 ·show((List.replicate _ _).length:Int)=c.Az*c.Hi;rw[List.length_replicate];omega
 ·show((List.replicate _ _).length:Int)=c.Az;rw[List.length_replicate];omega
 ·show((List.replicate _ _).length:Int)=c.Az;rw[List.length_replicate];omega
 ·rw[hs k hk,ho k hk];exact⟨by omega,fun h=>by omega,fun _=>rfl,fun _=>hz _ _⟩
 ·rw[hg k hk];exact A31 hc (by omega) (by omega) (by show 1≤1∧1≤c.Hj;omega)
 ·rw[hg k hk];constructor
  ·intro h;cases h
  ·rintro⟨a,b,_⟩;rw[hs x a]at b;cases b
 ·rw[hg k hk];exact⟨rfl,rfl,rfl⟩
 ·constructor
  ·intro h;cases h
  ·rintro⟨a,b⟩;rw[hs x a]at b;cases b
 ·constructor
  ·intro h;cases h
  ·rintro⟨a,b⟩;rw[hg s a]at b;cases b
 ·have hx:x∈List.replicate (c.Az*c.Hi).toNat (0:Int):=hx;rw[(List.mem_replicate.1 hx).2];omega
 ·rw[hg k hk];exact⟨Int.le_refl 0,Int.le_refl 0,Int.le_refl 0,by show(0:Int)≤1000;omega⟩
 ·have e:wtN c (Aqt 0 1)=0:=A3o _ (by decide) _
  unfold wt pot A10;simp[e]
section
variable {K:Nat} (hK:281474976710656≤K)
include hK
def A6i (w:C8)(o:Ct)(c:D1):Ct×D1×(List Int)×(List Int)×(List Int)×(List Au)×(List A1)×(List Int):=(o,c,w.fP.Pm,w.fP.Vt,w.fP.Pn,w.fL,w.fQ,w.Adf)
omit hK in
theorem Bct (w:C8)(h:An)(d:Int){c:D1}(hc:Ag8 c)(b:Bool): ∃o c',Asv K h w.fP.Pm w.fP.Vt w.fP.Pn w.fL w.fQ w.Adf d c.fb c.fi c.fh b=some (A6i w o c')∧Aiw o∧Ag8 c':=by
 unfold Asv;rw[show D1.mk c.fb c.fi c.fh=c from rfl]
 cases b with
 |true=>
  simp only[cond_true];obtain⟨r,e,_,w1⟩:=Ag7 K hc (n:=256) (by omega)
  rw[e];exact⟨_,_,rfl,Aqn _ _ _ _ _,w1⟩
 |false=>
  simp only[cond_false];cases d==13 with
  |true=>exact⟨_,_,rfl,Aqn _ _ _ _ _,hc⟩
  |false=>
   simp only[cond_false];cases d==14 with
   |true=>exact⟨_,_,rfl,Aqn _ _ _ _ _,hc⟩
   |false=>
    simp only[cond_false];obtain⟨r,e,w1⟩:=Ax0 K hc (n:=6) (by omega)
    rw[e,Z0];cases r.1 with
    |true=>exact⟨_,_,rfl,Aqn _ _ _ _ _,w1⟩
    |false=>exact⟨_,_,rfl,Aqn _ _ _ _ _,w1⟩
theorem Bcu (w:C8)(h:An)(r:Bq)(d:Int){c:D1}(hc:Ag8 c)(b:Bool): ∃o c',Asw K h r w.fP.Pm w.fP.Vt w.fP.Pn w.fL w.fQ w.Adf d c.fb c.fi c.fh b=some (A6i w o c')∧Aiw o∧Ag8 c':=by
 unfold Asw;rw[show D1.mk c.fb c.fi c.fh=c from rfl]
 cases b with
 |true=>
  simp only[cond_true];obtain⟨x,e,b1,w1⟩:=Ag7 K hc (n:=2) (by omega)
  have e1:An7 .i64 1 x.1=1+x.1:=by unfold An7;exact Ht (by omega) (by omega)
  obtain⟨y,c2,e2,b2,l2,w2⟩:=A72 hK w1 (n:=1+x.1) (by omega)
  rw[e,Z0,e1,e2];exact⟨_,_,rfl,⟨b2,l2⟩,w2⟩
 |false=>
  simp only[cond_false];cases d==10 with
  |true=>
   simp only[cond_true];obtain⟨x,e,_,w1⟩:=Ag7 K hc (n:=3) (by omega)
   rw[e];exact⟨_,_,rfl,Aqn _ _ _ _ _,w1⟩
  |false=>
   simp only[cond_false];cases d==11 with
   |true=>simp only[cond_true];exact Bct w h d hc true
   |false=>simp only[cond_false];exact Bct w h d hc (d==12)
theorem A78 (w:C8)(h:An)(r:Bq)(z d:Int){c:D1}(hc:Ag8 c)(b:Bool): ∃o c',Arf K h r z w.fP.Pm w.fP.Vt w.fP.Pn w.fL w.fQ w.Adf d c.fb c.fi c.fh b=some (A6i w o c')∧Aiw o∧Ag8 c':=by
 unfold Arf;rw[show D1.mk c.fb c.fi c.fh=c from rfl]
 cases b with
 |true=>
  simp only[cond_true];obtain⟨x,c1,e1,_,w1⟩:=Az1 K hc (l:=[1,2,3,4,5,8]) (by simp)
  obtain⟨y,c2,e2,_,w2⟩:=Az1 K w1 (l:=[1,1,2,4]) (by simp)
  rw[e1,Z0,if_pos rfl,e2,Z0,if_pos rfl];exact⟨_,_,rfl,Aqn _ _ _ _ _,w2⟩
 |false=>
  simp only[cond_false];cases d==7 with
  |true=>
   simp only[cond_true];obtain⟨x,e,w1⟩:=A6h K hc z;rw[e];exact⟨_,_,rfl,Aqn _ _ _ _ _,w1⟩
  |false=>
   simp only[cond_false];cases d==8 with
   |true=>simp only[cond_true];exact Bcu hK w h r d hc true
   |false=>simp only[cond_false];exact Bcu hK w h r d hc (d==9)
theorem A79 (w:C8)(h:An)(r:Bq)(z d:Int){c:D1}(hc:Ag8 c)(b:Bool): ∃o c',Arg K h r z w.fP.Pm w.fP.Vt w.fP.Pn w.fL w.fQ w.Adf d b c.fb c.fi c.fh=some (A6i w o c')∧Aiw o∧Ag8 c':=by
 unfold Arg;rw[show D1.mk c.fb c.fi c.fh=c from rfl]
 cases b with
 |true=>exact⟨_,_,rfl,Aqn _ _ _ _ _,hc⟩
 |false=>
  simp only[cond_false];cases d==3 with
  |true=>exact⟨_,_,rfl,Aqn _ _ _ _ _,hc⟩
  |false=>
   simp only[cond_false];cases d==4 with
   |true=>simp only[cond_true];exact A78 hK w h r z d hc true
   |false=>
    simp only[cond_false];cases d==5 with
    |true=>simp only[cond_true];exact A78 hK w h r z d hc true
    |false=>simp only[cond_false];exact A78 hK w h r z d hc (d==6)
theorem Bcv (w:C8)(h:An)(r:Bq)(q:Ct){c:D1}(hc:Ag8 c): ∃o c',Asx K h c.fb c.fi c.fh r q w.fC.Az w.fC.Hi w.fC.Fb w.fC.G8 w.fC.Fc w.fC.Hj w.fP.Pm.length w.fP.Vt.length w.fP.Pn.length w.fL.length w.fQ.length w.Adf.length w.fP.Pm w.fP.Vt w.fP.Pn w.fL w.fQ w.Adf=some (A6i w o c')∧Aiw o∧Ag8 c':=by
 unfold Asx;rw[show D1.mk c.fb c.fi c.fh=c from rfl]
 obtain⟨x,e,_,w1⟩:=Ag7 K hc (n:=16) (by omega)
 rw[e,Z0];cases x.1==0 with
 |true=>simp only[cond_true];exact A79 hK w h r _ _ w1 true
 |false=>
  simp only[cond_false];cases x.1==1 with
  |true=>simp only[cond_true];exact A79 hK w h r _ _ w1 true
  |false=>simp only[cond_false];exact A79 hK w h r _ _ w1 _
theorem Bfn{w:C8}(W:Ano w)(h8:w.fL.length≤1000){c:D1}(hc:Ag8 c): ∃o c',Ave K c w=some (A6i w o c')∧Aiw o∧Ag8 c':=by
 unfold Ave;obtain⟨r1,e1,hl,hr⟩:=A7y hK W h8;rw[e1,Z0];cases hz:(r1.length:Int)==0 with
 |true=>
  simp only[cond_true];obtain⟨x,e,w1⟩:=Ax0 K hc (n:=2) (by omega)
  rw[e,Z0];cases x.1 with
  |true=>exact⟨_,_,rfl,Aqn _ _ _ _ _,w1⟩
  |false=>
   simp only[cond_false];obtain⟨o,c2,e2,ho,w2⟩:=A74 hK w1;rw[e2];exact⟨_,_,rfl,ho,w2⟩
 |false=>
  have hz: ¬(r1.length:Int)=0:=by simpa using hz
  simp only[cond_false];obtain⟨x,e,w1⟩:=Ax0 K hc (n:=10) (by omega)
  rw[e,Z0];cases x.1 with
  |true=>
   simp only[cond_true];obtain⟨y,e2,w2⟩:=Ax0 K w1 (n:=2) (by omega)
   rw[e2,Z0];cases y.1 with
   |true=>exact⟨_,_,rfl,Aqn _ _ _ _ _,w2⟩
   |false=>
    simp only[cond_false];obtain⟨o,c2,e3,ho,w3⟩:=A74 hK w2;rw[e3];exact⟨_,_,rfl,ho,w3⟩
  |false=>
   simp only[cond_false];obtain⟨y,e2,b2,w2⟩:=Ag7 K w1 (n:=(r1.length:Int)) (by omega)
   rw[e2,Z0,if_pos b2]
   have hk:=(hr _ (Alb b2.1 b2.2)).1;obtain⟨h,eh⟩:=A3q (K:=K) (l:=w.fL) (by omega) (gt r1 y.1)
   simp only[eh,Z0,if_pos hk];cases decide (((gt w.fL (gt r1 y.1)).Ga.length:Int)>0)with
   |true=>
    simp only[cond_true];obtain⟨z,e3,w3⟩:=A6h K w2 ((gt w.fL (gt r1 y.1)).Ga.length:Int);simp only[e3,Z0];exact Bcv hK w h _ _ w3
   |false=>
    simp only[cond_false];exact Bcv hK w h _ _ w2
theorem run_ok{c:D1}(hc:Ag8 c){most:Int}(hm:0<most∧most≤1000): ∃x l w c' E n,Azk K c most=some (x,l,w,c')∧D8 w E n∧(0≤E∧E≤200)∧n≤38400∧w.fC=x∧Ai0 x=true∧l.length≤200∧(∀o∈l,Aiw o)∧Ag8 c':=by
 have hx:=Wx;unfold Azk;obtain⟨x,c1,e1,hx1,w1⟩:=A9e K hc;obtain⟨y,e2,b2,w2⟩:=Ag7 K w1 (n:=most) (by omega)
 rw[e1,Z0,Bcr hK hx1,Z0,e2,Z0]
 have ea:An7 .i64 4 y.1=4+y.1:=by unfold An7;exact Ht (by omega) (by omega)
 rw[ea]
 have key: ∀(f i:Nat) (l:List Ct) (w:C8) (c:D1),(i:Int)≤4+y.1->i<f->D8 w (l.length:Int) (192*l.length)->w.fC=x->l.length≤200->(∀o∈l,Aiw o)->Ag8 c-> ∃x' l' w' c' E n,Aui K f l (i:Int) c.fb c.fi c.fh w x (C8.mk (Eb.mk 0 0 0 0 0 0) (Dp.mk [] [] []) [] [] []) (Eb.mk 0 0 0 0 0 0)=some (x',l',w',c')∧D8 w' E n∧(0≤E∧E≤200)∧n≤38400∧w'.fC=x'∧Ai0 x'=true∧l'.length≤200∧(∀o∈l',Aiw o)∧Ag8 c':=by
  intro f
  induction f with
  |zero=>intro i l w c _ h;omega
  |succ f ih=>
   intro i l w c hi hf G hwc hl ho hcc
   have done: ∃x' l' w' c' E n,some (x,l,w,D1.mk c.fb c.fi c.fh)=some (x',l',w',c')∧D8 w' E n∧(0≤E∧E≤200)∧n≤38400∧w'.fC=x'∧Ai0 x'=true∧l'.length≤200∧(∀o∈l',Aiw o)∧Ag8 c':=⟨_,_,_,_,_,_,rfl,G,by omega,by omega,hwc,hx1,hl,ho,hcc⟩
   rw[Aui]
   by_cases q:0<i
   ·rw[decide_eq_true (show(i:Int)>0 by omega),cond_true]
    by_cases q2:l.length<200
    ·rw[decide_eq_true (show(l.length:Int)<200 by omega),cond_true]
     have W:=G.ww (by omega) (by omega)
     obtain⟨b1,b2,b3,_⟩:=Gx G.inv.conf
     have hlen:=G.inv.len;obtain⟨o,c2,e3,hop,w3⟩:=Bfn hK W (by omega) hcc
     obtain⟨a,w',e4,G',hc'⟩:=Bxr hK (E:=(l.length:Int)) (n:=192*l.length) (by omega) (by omega) G hop
     rw[show D1.mk c.fb c.fi c.fh=c from rfl,e3,Z0]
     unfold A6i;simp only;rw[if_pos ⟨trivial,trivial,trivial,trivial,trivial,trivial⟩,if_pos ⟨by simp;omega,by simp;omega⟩]
     rw[show C8.mk w.fC (Dp.mk w.fP.Pm w.fP.Vt w.fP.Pn) w.fL w.fQ w.Adf=w from rfl,e4,Z0]
     have es:An8 .i64 (i:Int) 1=((i - 1:Nat):Int):=by rw[sb1 (by omega) (by omega)];omega
     rw[es];refine ih (i - 1) (l++[o]) w' c2 (by omega) (by omega) ?_ (hc'.trans hwc) (by simp;omega) ?_ w3
     ·rw[Jh,List.length_singleton];exact D8.le G' (by omega) (by omega)
     ·intro o' h';rcases Gh.1 h' with h'|h'
      ·exact ho o' h'
      ·rw[Mx.1 h'];exact hop
    ·rw[decide_eq_false (show ¬(l.length:Int)<200 by omega)];exact done
   ·rw[decide_eq_false (show ¬(i:Int)>0 by omega)];exact done
 have:=key K (4+y.1).toNat [] (A10 x) y.2 (by omega) (by omega) (Bml hx1) rfl (by simp) (fun o h=>by cases h) w2
 rw[show(((4+y.1).toNat:Nat):Int)=4+y.1 by omega]at this
 exact this
omit hK in
theorem Bhj (a:List Int){m:Int}(hm:0≤m∧m≤1000)(ha:a.length≤1048576): ∃r,Awr K a m=some r∧0≤r∧r≤1000:=by
 unfold Awr
 have h3:(a.length:Int) / 12≤(a.length:Int):=Int.ediv_le_self _ (by omega)
 have h4:0≤(a.length:Int) / 12:=Int.ediv_nonneg (by omega) (by omega)
 have e1:Alp .i64 (a.length:Int) 12=(a.length:Int) / 12:=by
  unfold Alp;rw[Int.tdiv_eq_ediv_of_nonneg (by omega)];exact Ht (by omega) (by omega)
 have e2:An7 .i64 3 ((a.length:Int) / 12)=3+(a.length:Int) / 12:=by unfold An7;exact Ht (by omega) (by omega)
 rw[if_pos (by decide),e1,e2]
 by_cases q:3+(a.length:Int) / 12>m
 ·rw[decide_eq_true q];exact⟨_,rfl,hm⟩
 ·rw[decide_eq_false q];exact⟨_,rfl,by omega,by omega⟩
theorem Bat{a:List Int}(hb:Ay1 a)(ha:a.length≤1048576): ∃w o E n,Av9 K a=some (w,o)∧D8 w E n∧(0≤E∧E≤200)∧n≤38400∧Aiw o:=by
 unfold Av9;obtain⟨c,e1,w1⟩:=Bco hK hb ha;obtain⟨m,e2,hm⟩:=Bhj (K:=K) a (m:=50) (by omega) ha
 have ea:An7 .i64 20 m=20+m:=by unfold An7;exact Ht (by omega) (by omega)
 have h50:m≤900∨900<m:=by omega
 rw[e1,Z0,e2,Z0,ea];unfold Auj
 have hm2:m≤50:=by
  unfold Awr at e2;rw[if_pos (by decide)]at e2
  by_cases q:(An7 .i64 3 (Alp .i64 (a.length:Int) 12))>50
  ·rw[decide_eq_true q]at e2;simp only[cond_true,Z7]at e2;omega
  ·rw[decide_eq_false q]at e2;simp only[cond_false,Z7]at e2;omega
 obtain⟨x,l,w,c2,E,n,e3,G,hE,hn,_,_,_,_,w3⟩:=run_ok hK w1 (most:=20+m) (by omega)
 have W:=G.ww (by omega) (by omega)
 obtain⟨b1,b2,b3,_⟩:=Gx G.inv.conf
 have hlen:=G.inv.len;obtain⟨o,c4,e4,ho,_⟩:=Bfn hK W (by omega) w3
 rw[e3];simp only[Z0];rw[e4,Z0];unfold A6i;simp only;rw[if_pos ⟨trivial,trivial,trivial,trivial,trivial,trivial⟩];exact⟨_,_,_,_,rfl,G,hE,hn,ho⟩
end
section
variable (N:Int) (t:Int->Lk)
inductive Up (a:Int):Int->Prop
 |refl:Lv N t a->Up a a
 |step {b:Int}:Lv N t b->Cu N t b->Up a ((t b).up - 1)->Up a b
end
section
variable {N:Int} {t:Int->Lk}
theorem Up.lv{a b:Int}(h:Up N t a b):Lv N t a∧Lv N t b:=by
 induction h with
 |refl h=>exact⟨h,h⟩
 |step h _ _ ih=>exact⟨ih.1,h⟩
theorem Up.trans{a b c:Int}(h:Up N t a b)(g:Up N t b c):Up N t a c:=by
 induction g with
 |refl _=>exact h
 |step h1 h2 _ ih=>exact .step h1 h2 ih
theorem Up.le{d:Int->Nat}(U: ∀x,Lv N t x->Cu N t x->d ((t x).up - 1)<d x){a b:Int}(h:Up N t a b):d a≤d b:=by
 induction h with
 |refl _=>exact Z9 _
 |step h1 h2 _ ih=>have:=U _ h1 h2;omega
theorem Up.al{a b:Int}(h:Up N t a b)(g:Al N t a):Al N t b:=by
 induction h with
 |refl _=>exact g
 |step h1 h2 _ ih=>exact .step h1 h2 ih
variable {r:Int->Nat} {d:Int->Nat}
end
structure Bum (w:C8)(t:Int->Lk)(k:Int):Prop where
 inv:Inv w
 tab:AtT w.fL t
 fr:Ak4 w.fL.length t (Awv w.fQ)
 al:Al w.fL.length t k
structure A9f (w w':C8)(t:Int->Lk)(k:Int):Prop where
 inv:Inv w'
 len:w'.fL.length=w.fL.length
 tab:AtT w'.fL (rem t k)
 fr:Ak4 w.fL.length (rem t k) (Awv w'.fQ)
 conf:w'.fC=w.fC
 q:w'.fQ=w.fQ++[Ag5 (gt w.fL k) (k+1)]
 node: ∀x,0≤x∧x<(w.fL.length:Int)->x≠k-> ∃a b c,gt w'.fL x=lnk (gt w.fL x) a b c
theorem Bhk (c:Eb)(a b:Int)(f g:Int)(ts cs:List Int)(d:Int):Bt7 c (A1.mk a f ts cs d)=Bt7 c (A1.mk b g ts cs d):=rfl
theorem A9f.own{w w':C8}{t:Int->Lk}{k:Int}(L:A9f w w' t k){x:Int}(hx:0≤x∧x<(w.fL.length:Int))(hne:x≠k):Bt8 w' x=Bt8 w x:=by
 obtain⟨a,b,c,e⟩:=L.node x hx hne;unfold Bt8;rw[e,L.conf];exact Bhk _ _ _ _ _ _ _ _
theorem A9f.kids{w w':C8}{t:Int->Lk}{k:Int}(P:Bum w t k)(L:A9f w w' t k){x:A1}(hx:x∈w.fQ):Alc w'.fL x.Eg=Alc w.fL x.Eg:=by
 have hf:=P.inv.first hx;rw[Bag P.tab P.inv.rg hf.1 (by omega),Bag L.tab L.inv.rg hf.1 (by omega),L.len]
 exact A5o P.fr.tree P.al.lv P.al.noOr P.fr.kid (Inv.qs hx)
def Bec (w:C8)(x:Int):List Int:=(gt w.fL x).Fo.reverse
theorem A9f.tags{w w':C8}{t:Int->Lk}{k:Int}(L:A9f w w' t k){x:Int}(hx:0≤x∧x<(w.fL.length:Int))(hne:x≠k):Bec w' x=Bec w x:=by
 obtain⟨a,b,c,e⟩:=L.node x hx hne;unfold Bec;rw[e];rfl
def A1h (w:C8):List Int:=((List.range w.fL.length).map (fun(i:Nat)=>(i:Int))).filter (At9 w.fL)
theorem Bhl{w:C8}{x:Int}:x∈A1h w ↔ (0≤x∧x<(w.fL.length:Int))∧At9 w.fL x=true:=by
 unfold A1h;rw[List.mem_filter,D9];refine and_congr ⟨?_,?_⟩ Iff.rfl
 ·rintro⟨i,hi,e⟩;rw[List.mem_range]at hi;omega
 ·intro h;exact⟨x.toNat,by rw[List.mem_range];omega,by omega⟩
section
variable {M:Type} (op:M->M->M) (e:M) (g:Int->M) (w:C8)
end
section
variable {M:Type} {op:M->M->M} {e:M} {g:Int->M} {w:C8}
end
def A5v (l:List Au)(i:Nat):List Int:=((List.range i).map (fun(i:Nat)=>(i:Int))).filter (At9 l)
theorem Bcw (l:List Au)(i:Nat):A5v l (i+1)=A5v l i++(if At9 l (i:Int)=true then [(i:Int)]else []):=by
 unfold A5v;rw[List.range_succ,Fv,List.filter_append]
 congr 1
 show List.filter (At9 l) [(i:Int)]=_;rw[List.filter_cons,List.filter_nil]
theorem Bed (l:List Au)(i:Nat):(A5v l i).length≤i:=by
 unfold A5v;refine Tg (List.length_filter_le _ _) ?_;simp
section
variable {K:Nat} (hK:281474976710656≤K)
include hK
end
section
variable {K:Nat} (hK:281474976710656≤K)
include hK
theorem Bau{w:C8}(hw:Ano w)(h8:w.fL.length≤1000):A0y K w=some (A1h w):=by
 have hm:=Wx
 have key: ∀(f i:Nat),i≤w.fL.length->w.fL.length - i<f->Arh K f (A5v w.fL i) (w.fL.length:Int) (i:Int) w.fC.Az w.fC.Hi w.fC.Fb w.fC.G8 w.fC.Fc w.fC.Hj w.fP.Pm w.fP.Vt w.fP.Pn w.fL w.fQ w.Adf=some (A1h w):=by
  intro f
  induction f with
  |zero=>intro i _ h;omega
  |succ f ih=>
   intro i hi hf
   have hl:=Bed w.fL i;rw[Arh];rcases E4 i w.fL.length with h|h
   ·rw[Ae4 h,cond_true,Bbq hK hw.l];simp only[Z0]
    have hs:=Bcw w.fL i;cases e:At9 w.fL (i:Int)with
    |false=>
     rw[e,if_neg (by decide),List.append_nil]at hs
     simp only[cond_false];unfold Ath;rw[Aep (by omega),←hs]
     exact ih (i+1) h (by omega)
    |true=>
     rw[e,if_pos rfl]at hs;simp only[cond_true];rw[if_pos ⟨by simp;omega,by simp;omega⟩]
     unfold Ath;rw[Aep (by omega),←hs]
     exact ih (i+1) h (by omega)
   ·obtain rfl:i=w.fL.length:=by omega
    rw[Afn (Z9 _)];rfl
 exact key K 0 (Z21 _) (by omega)
end
section
variable {K:Nat} (hK:281474976710656≤K)
include hK
theorem Bun{α:Type}(l:List α)(hl:l.length≤140737488355328)(L:Nat->Int->Option Bool)
  (hs: ∀n (i:Nat) (h:i<l.length),L (n+1) (i:Int)=L n ((i+1:Nat):Int)) (he: ∀n,L (n+1) (l.length:Int)=some true):L K 0=some true:=by
 rw[Asp hK l hl (fun _=>true) (some true) L (fun n i h=>by rw[hs n i h];rfl) he,Z1.2 (fun _ _=>rfl)]
 rfl
theorem A8a (l:List Int)(hl:l.length≤140737488355327):A1n K l l=some true:=by
 unfold A1n;simp only[bne_self_eq_false,cond_false];exact Bkv l (by omega) (Azp K l l) (fun n i=>rfl) K 0 (Z21 _) (by omega)
theorem Aze (l:List Int)(hl:l.length≤140737488355327):Ane K l l=some true:=by
 unfold Ane;simp only[bne_self_eq_false,cond_false];exact Bkv l (by omega) (Au6 K l l) (fun n i=>rfl) K 0 (Z21 _) (by omega)
theorem A8r{p:Dp}(h:Ay4 p):Axe K p p=some true:=by
 unfold Axe;rw[A8a hK _ h.mem.2,Z0,cond_true,Aze hK _ (Ay8 hK h.st),Z0,cond_true,Aze hK _ (Ay8 hK h.own)];rfl
theorem A8s{n:Au}(h:Aql n):Axf K n n=some true:=by
 have h2:=h.things.2;unfold Axf;simp only[bne_self_eq_false,cond_false];rw[Aze hK _ (Ay8 hK h.chunks),Z0,cond_true,Aze hK _ (Ay8 hK h.tags),Z0,Bool.not_true,cond_false]
 refine Bun hK n.Ga (by omega) (fun m i=>Aqs K m i n.Vt n.Dc n.S5 n.fUp n.S6 n.Eg n.S7 n.S8 n.Az n.Ade n.S9 n.Ga n.Fo n.Vt n.Dc n.S5 n.fUp n.S6 n.Eg n.S7 n.S8 n.Az n.Ade n.S9 n.Ga n.Fo) (fun m i hi=> ?_) (fun m=> ?_)
 ·simp only[Aqs];rw[Ae4 hi,cond_true,if_pos (Ajc hi),if_pos (Ajc hi),Aep (by omega)]
  simp
 ·simp only[Aqs];rw[Afn (Z9 _),cond_false]
theorem A8b{l:List Au}(h:Afd l):Awc K l l=some true:=by
 have h2:=h.2;unfold Awc;simp only[bne_self_eq_false,cond_false];refine Bun hK l (by omega) (Aqc K l l) (fun m i hi=> ?_) (fun m=> ?_)
 ·rw[Aqc,Ae4 hi,cond_true,if_pos (Ajc hi),if_pos (Ajc hi),A8s hK (h.1 _ (Apg hi)),Z0,Bool.not_true,cond_false,Aep (by omega)]
 ·rw[Aqc,Afn (Z9 _),cond_false]
theorem A8c{x:A1}(h:A04 x):Awd K x x=some true:=by
 unfold Awd;simp only[beq_self_eq_true,cond_true];rw[Aze hK _ (Ay8 hK h.tags),Z0,cond_true,Aze hK _ (Ay8 hK h.chunks)];rfl
theorem A3u{w:C8}(h:Ano w):Atk K w w=some true:=by
 have h2:=h.q.2;unfold Atk;simp only[beq_self_eq_true,Bool.and_self,Bool.not_true,cond_false];rw[A8r hK h.p,Z0,cond_true,A8b hK h.l,Z0,cond_true];simp only[bne_self_eq_false,cond_false];rw[Aze hK _ (Ay8 hK h.log),Z0,Bool.not_true,cond_false]
 refine Bun hK w.fQ (by omega) (fun m i=>Aqd K m i w.fC.Az w.fC.Hi w.fC.Fb w.fC.G8 w.fC.Fc w.fC.Hj w.fP.Pm w.fP.Vt w.fP.Pn w.fL w.fQ w.Adf w.fC.Az w.fC.Hi w.fC.Fb w.fC.G8 w.fC.Fc w.fC.Hj w.fP.Pm w.fP.Vt w.fP.Pn w.fL w.fQ w.Adf) (fun m i hi=> ?_) (fun m=> ?_)
 ·simp only[Aqd];rw[Ae4 hi,cond_true,if_pos (Ajc hi),if_pos (Ajc hi),A8c hK (h.q.1 _ (Apg hi)),Z0,Bool.not_true,cond_false,Aep (by omega)]
 ·simp only[Aqd];rw[Afn (Z9 _),cond_false]
end
instance:DecidablePred wfi:=fun x=>inferInstanceAs (Decidable (_∧_))
theorem Ay2 (n:Int):wfi (IntKind.i64.wrap n):=by rw[IntKind.wrap_i64];exact⟨by omega,by omega⟩
def OkP{α:Type}(x:Option (α×D1))(P:α->Prop):Prop:= ∃a c,x=some (a,c)∧P a∧Ag8 c
theorem okp{α:Type}{a:α}{c:D1}{P:α->Prop}(h:P a)(hc:Ag8 c):OkP (some (a,c)) P:=⟨_,_,rfl,h,hc⟩
theorem OkP.mono{α:Type}{x:Option (α×D1)}{P Q:α->Prop}(h:OkP x P)(k: ∀a,P a->Q a):OkP x Q:=by
 obtain⟨a,c,e,p,hc⟩:=h;exact⟨a,c,e,k a p,hc⟩
theorem Ag2{α β:Type}{x:Option (α×D1)}{f:α×D1->Option (β×D1)}{P:α->Prop}{Q:β->Prop}(h:OkP x P)(k: ∀a c,P a->Ag8 c->OkP (f (a,c)) Q):OkP (x.bind f) Q:=by
 obtain⟨a,c,e,p,hc⟩:=h;rw[e];exact k a c p hc
theorem Asj{α:Type}{p:Prop}[Decidable p]{x:Option (α×D1)}{Q:α->Prop}(h:p)(k:OkP x Q):OkP (if p then x else none) Q:=by rw[if_pos h];exact k
theorem Ap5{α:Type}{b:Bool}{x y:Option (α×D1)}{Q:α->Prop}(k:b=true->OkP x Q)(l:b=false->OkP y Q):OkP (bif b then x else y) Q:=by
 cases b
 ·exact l rfl
 ·exact k rfl
theorem Aqu (K:Nat){c:D1}(hc:Ag8 c){n:Int}(hn:0<n):OkP (Ap K c n) fun x=>0≤x∧x<n:=by
 obtain⟨r,e,b,w⟩:=Ag7 K hc hn;exact⟨_,_,e,b,w⟩
theorem A8d{β:Type}(K:Nat){c:D1}{l:List Int}{f:Int×D1×List Int->Option (β×D1)}{Q:β->Prop}(hc:Ag8 c)(hl:0<l.length)(k: ∀x c,x∈l->Ag8 c->OkP (f (x,c,l)) Q):OkP ((Wy K c l).bind f) Q:=by
 obtain⟨x,c',e,m,w⟩:=Az1 K hc hl;rw[e];exact k x c' m w
macro "belw" :term=> `(Aqu _ (by assumption) (by omega))
macro "okgo" :tactic=> `(tactic|repeat' (first|refine A8d _ (by assumption) (by decide) (fun x c hx hc=>Asj rfl ?_)|refine Ag2 belw (fun x c hx hc=> ?_)|refine Ap5 (fun _=> ?_) (fun _=> ?_)))
theorem Bmm (K:Nat){c:D1}(hc:Ag8 c):OkP (A0m K c) ConfW:=by
 unfold A0m Apr;obtain⟨x,c1,e,hx,w⟩:=A9e K hc
 have W:=Blp hx;rw[e,Z0];dsimp only
 okgo
 all_goals refine okp ?_ (by assumption)
 ·exact⟨(by decide: ∀y∈([1,2,12,13]:List Int),wfi y) _ ‹_›,W.size,W.slots,W.tax,W.slice,W.gens⟩
 ·exact⟨W.chunks,(by decide: ∀y∈([7,8,16,17]:List Int),wfi y) _ ‹_›,W.slots,W.tax,W.slice,W.gens⟩
 ·exact⟨W.chunks,W.size,(by decide: ∀y∈([1,8,9]:List Int),wfi y) _ ‹_›,W.tax,W.slice,W.gens⟩
 ·exact⟨W.chunks,W.size,W.slots,(by decide: ∀y∈([0,8,9]:List Int),wfi y) _ ‹_›,W.slice,W.gens⟩
 ·exact⟨W.chunks,W.size,W.slots,W.tax,(by decide: ∀y∈([0,17]:List Int),wfi y) _ ‹_›,W.gens⟩
 ·exact⟨W.chunks,W.size,W.slots,W.tax,W.slice,(by decide: ∀y∈([0,5]:List Int),wfi y) _ ‹_›⟩
 ·exact W
theorem A5f{l:List Int}(h:l.length≤1000)(x:Int):(l++[x]).length*8≤140737488355328∧(l++[x]).length≤maxLen:=by
 have:=Wx;rw[Jh,List.length_singleton];omega
theorem Bav{l:List Bd}(h:l.length≤1000)(x:Bd):(l++[x]).length*24≤140737488355328∧(l++[x]).length≤maxLen:=by
 have:=Wx;rw[Jh,List.length_singleton];omega
theorem A2t{l:List Int}(h:A14 l)(hl:l.length≤1000){x:Int}(hx:wfi x):A14 (l++[x]):=by
 refine⟨fun y hy=> ?_,by rw[Jh,List.length_singleton];omega⟩
 rcases Gh.1 hy with hy|hy
 ·exact h.1 y hy
 ·rw[Mx.1 hy];exact hx
structure SN (m:Nat)(n:Au):Prop where
 w:Aql n
 c:n.Az.length≤m
 t:n.Ga.length≤m
 g:n.Fo.length≤m
theorem SN.tag{m:Nat}{n:Au}(h:SN m n)(hm:m≤1000){x:Int}(hx:wfi x):SN (m+1) (Au.mk n.Vt n.Dc n.S5 n.fUp n.S6 n.Eg n.S7 n.S8 n.Az n.Ade n.S9 n.Ga (n.Fo++[x])):=by
 have:=h.c;have:=h.t;have:=h.g;exact⟨{h.w with tags:=A2t h.w.tags (by omega) hx},Nat.le_succ_of_le h.c,Nat.le_succ_of_le h.t,by simp;omega⟩
theorem SN.chunk{m:Nat}{n:Au}(h:SN m n)(hm:m≤1000){x:Int}(hx:wfi x):SN (m+1) (Au.mk n.Vt n.Dc n.S5 n.fUp n.S6 n.Eg n.S7 n.S8 (n.Az++[x]) n.Ade n.S9 n.Ga n.Fo):=by
 have:=h.c;have:=h.t;have:=h.g;exact⟨{h.w with chunks:=A2t h.w.chunks (by omega) hx},by simp;omega,Nat.le_succ_of_le h.t,Nat.le_succ_of_le h.g⟩
theorem SN.thing{m:Nat}{n:Au}(h:SN m n)(hm:m≤1000){x:Bd}(hx:ThingW x):SN (m+1) (Au.mk n.Vt n.Dc n.S5 n.fUp n.S6 n.Eg n.S7 n.S8 n.Az n.Ade n.S9 (n.Ga++[x]) n.Fo):=by
 have:=h.c;have:=h.t;have:=h.g;refine⟨{h.w with things:=⟨fun y hy=> ?_,by rw[Jh,List.length_singleton];omega⟩},Nat.le_succ_of_le h.c,by simp;omega,Nat.le_succ_of_le h.g⟩
 rcases Gh.1 hy with hy|hy
 ·exact h.w.things.1 y hy
 ·rw[Mx.1 hy];exact hx
theorem SN.mono{m k:Nat}{n:Au}(h:SN m n)(hk:m≤k):SN k n:=⟨h.w,Tg h.c hk,Tg h.t hk,Tg h.g hk⟩
theorem sbn{i:Nat}(hi:0<i)(h:i≤1000):An8 .i64 (i:Int) 1=((i - 1:Nat):Int):=by rw[sb1 (by omega) (by omega)];omega
theorem Bee (K:Nat){c:D1}(hc:Ag8 c){x:Eb}(hx:Ai0 x=true):OkP (Ayk K c x) ThingW:=by
 obtain⟨b1,b2,_⟩:=Gx hx
 have j: ∀(c:D1) (t:Bd),Ag8 c->OkP (Atb K x c.fb c.fi c.fh t) ThingW:=by
  intro c t hc;unfold Atb;refine Ag2 (Aqu K hc (by omega)) (fun y1 c1 h1 w1=>Ag2 (Aqu K w1 (by omega)) (fun y2 c2 h2 w2=> ?_))
  dsimp only at w2 ⊢
  have e:An8 .i64 x.Hi y2=x.Hi - y2:=by unfold An8;exact Ht (by omega) (by omega)
  rw[e];refine Ag2 (Aqu K w2 (by omega)) (fun y3 c3 h3 w3=>okp ⟨Ay2 _,Ay2 _,At1⟩ w3)
 unfold Ayk;obtain⟨r,e,w⟩:=Ax0 K hc (n:=4) (by omega)
 rw[e,Z0];refine Ap5 (fun _=>Ap5 (fun h=> ?_) (fun _=>j _ _ w)) (fun _=>j _ _ w);rw[decide_eq_true_eq]at h;rw[show An8 .i64 x.Az 1=x.Az - 1 from by unfold An8;exact Ht (by omega) (by omega)]
 exact Ag2 (Aqu K w (by omega)) (fun y1 c1 h1 w1=>Ag2 (Aqu K w1 (by omega)) (fun y2 c2 h2 w2=>okp ⟨Ay2 _,Ay2 _,K1 (x:=2) (by decide) (by decide)⟩ w2))
theorem Bmn (K:Nat): ∀(f i m:Nat) (c:D1) (n:Au),i<f->m+i≤50->SN m n->Ag8 c->OkP (Auk K f (i:Int) c.fb c.fi c.fh n) (SN 50):=by
 intro f
 induction f with
 |zero=>intro i m c n h;omega
 |succ f ih=>
  intro i m c n hi hm hn hc
  have:=hn.g;rw[Auk];refine Ap5 (fun h=> ?_) (fun _=>okp (hn.mono (by omega)) hc)
  rw[decide_eq_true_eq]at h;refine Ag2 (Aqu K hc (by omega)) (fun y c1 hy w1=>Asj (A5f (by omega) _) ?_)
  rw[sbn (by omega) (by omega)]
  exact ih (i - 1) (m+1) c1 _ (by omega) (by omega) (hn.tag (by omega) (K1 (by omega) (by omega))) w1
section
variable {K:Nat} (hK:281474976710656≤K)
include hK
theorem Bmo{x:Eb}(hx:Ai0 x=true): ∀(f i m:Nat) (c:D1) (n:Au),i<f->m+i≤40->SN m n->Ag8 c->OkP (Aul K x f (i:Int) c.fb c.fi c.fh n) (SN 50):=by
 intro f
 induction f with
 |zero=>intro i m c n h;omega
 |succ f ih=>
  intro i m c n hi hm hn hc
  have:=hn.t;rw[Aul];refine Ap5 (fun h=> ?_) (fun _=> ?_)
  ·rw[decide_eq_true_eq]at h;refine Ag2 (Bee K hc hx) (fun y c1 hy w1=>Asj (Bav (by omega) _) ?_)
   rw[sbn (by omega) (by omega)]
   exact ih (i - 1) (m+1) c1 _ (by omega) (by omega) (hn.thing (by omega) hy) w1
  ·refine Ag2 (Aqu K hc (by omega)) (fun y c1 hy w1=> ?_)
   have:=Bmn K K y.toNat 40 c1 n (by omega) (by omega) (hn.mono (by omega)) w1
   rw[Int.toNat_of_nonneg (by omega)]at this
   exact this
theorem Bhm{x:Eb}(hx:Ai0 x=true)(z:Au): ∀(f i m:Nat) (c:D1) (n:Au),i<f->m+i≤20->SN m n->Ag8 c->OkP (Aun K x f (i:Int) c.fb c.fi c.fh n z) (SN 50):=by
 obtain⟨b1,b2,_⟩:=Gx hx
 have j: ∀(c:D1) (n:Au),SN 20 n->Ag8 c->OkP (Aum K x c.fb c.fi c.fh n) (SN 50):=by
  intro c n hn hc;unfold Aum;refine Ag2 (Aqu K hc (by omega)) (fun y c1 hy w1=> ?_)
  have:=Bmo hK hx K y.toNat 20 c1 n (by omega) (by omega) hn w1
  rw[Int.toNat_of_nonneg (by omega)]at this
  exact this
 intro f
 induction f with
 |zero=>intro i m c n h;omega
 |succ f ih=>
  intro i m c n hi hm hn hc
  have:=hn.c;rw[Aun];refine Ap5 (fun h=> ?_) (fun _=>Ap5 (fun h=> ?_) (fun _=>j _ _ (hn.mono (by omega)) hc))
  ·rw[decide_eq_true_eq]at h;refine Asj (A5f (by omega) _) ?_
   rw[sbn (by omega) (by omega)]
   exact ih (i - 1) (m+1) c _ (by omega) (by omega) (hn.chunk (by omega) (K1 (by omega) (by omega))) hc
  ·rw[decide_eq_true_eq]at h;refine Asj ⟨by omega,h⟩ ?_
   rw[ad1 (x:=x.Hi) (by omega) (by omega)]
   refine Ag2 (Aqu K hc (by omega)) (fun y c1 hy w1=> ?_)
   exact j c1 _ (SN.mono (m:=m) ⟨{hn.w with cur:=Ay2 _,bump:=K1 (x:=y) (by omega) (by omega)},hn.c,hn.t,hn.g⟩ (by omega)) w1
theorem Bhn{x:Eb}(hx:Ai0 x=true){c:D1}(hc:Ag8 c):OkP (Azl K c x) (SN 50):=by
 obtain⟨b1,b2,b3,b4,b5,b6⟩:=Gx hx;unfold Azl Al1
 have s0: ∀a b d:Int,wfi a->wfi b->wfi d->SN 0 (Au.mk a b d 0 0 0 0 0 [] 0 0 [] []):=fun a b d ha hb hd=>⟨⟨ha,hb,hd,At1,At1,At1,At1,At1,Aty,At1,At1,Azy,Aty⟩,by simp,by simp,by simp⟩
 refine Ag2 (Aqu K hc (by omega)) (fun y1 c1 h1 w1=> ?_)
 rw[Z0];refine Ag2 (Aqu K w1 (by omega)) (fun y2 c2 h2 w2=>Ap5 (fun _=>okp ((s0 _ _ _ (K1 (by omega) (by omega)) (Ay2 _) At1).mono (by omega)) w2) (fun _=> ?_))
 refine Ag2 (Aqu K w2 (by omega)) (fun y3 c3 h3 w3=>Ag2 (Aqu K w3 (by omega)) (fun y4 c4 h4 w4=> ?_))
 have:=Bhm hK hx (Au.mk 0 0 0 0 0 0 0 0 [] 0 0 [] []) K y4.toNat 10 c4 _ (by omega) (by omega) ((s0 y2 (An7 .i64 1 y1) y3 (K1 (by omega) (by omega)) (Ay2 _) (K1 (by omega) (by omega))).mono (by omega)) w4
 rw[Int.toNat_of_nonneg (by omega)]at this
 exact this
end
theorem A9g (a b d:Int)(ha:wfi a)(hb:wfi b)(hd:wfi d):ThingW (Bd.mk a b d):=⟨ha,hb,hd⟩
structure DP (c:Eb)(n:Au):Prop where
 l:Aus c n
 t:ThP c [] n
 e:EpP 1 n
theorem DP.w{c:Eb}{n:Au}(h:DP c n):Aql n:=A2p (Aje.2 h.l).1 h.e (by omega)
theorem Bo6{c:Eb}{n:Au}(L:Aus c n)(e:EpP 1 n):SN 40 n:=⟨A2p (Aje.2 L).1 e (by omega),by have:=Asi L.conf L.dist;omega,by have:=L.nth;omega,by have:=L.ntag;omega⟩
theorem Bef (K:Nat): ∀(f i m:Nat) (c:D1) (n:Au),i<f->m+i≤50->SN m n->Ag8 c->OkP (Atc K f (i:Int) c.fb c.fi c.fh n) (SN 50):=by
 intro f
 induction f with
 |zero=>intro i m c n h;omega
 |succ f ih=>
  intro i m c n hi hm hn hc
  have:=hn.g;rw[Atc];refine Ap5 (fun h=> ?_) (fun _=>okp (hn.mono (by omega)) hc)
  rw[decide_eq_true_eq]at h;refine Ag2 (Aqu K hc (by omega)) (fun y c1 hy w1=>Asj (A5f (by omega) _) ?_)
  rw[sbn (by omega) (by omega)]
  exact ih (i - 1) (m+1) c1 _ (by omega) (by omega) (hn.tag (by omega) (K1 (by omega) (by omega))) w1
section
variable {K:Nat} (hK:281474976710656≤K)
include hK
theorem Bmp{x:Eb}(hx:Ai0 x=true){c:D1}(hc:Ag8 c):OkP (A0n K c x) (SN 60):=by
 unfold A0n Al4;refine Ag2 (Bhn hK hx hc) (fun n c1 hn w=> ?_)
 have:=hn.c;have:=hn.t;have:=hn.g
 have W:=hn.w
 have M:=hn.mono (k:=60) (by omega)
 okgo
 ·exact okp ⟨{W with st:=Ay2 _},M.c,M.t,M.g⟩ (by assumption)
 ·exact okp ⟨{W with gen:=(by decide: ∀y∈([0,4,5]:List Int),wfi y) _ ‹_›},M.c,M.t,M.g⟩ (by assumption)
 ·exact okp ⟨{W with up:=(by decide: ∀y∈([-1,1,8,9]:List Int),wfi y) _ ‹_›},M.c,M.t,M.g⟩ (by assumption)
 ·exact Asj (A5f (show n.Az.length≤_ by omega) _) (okp ((hn.chunk (by omega) ((by decide: ∀y∈([0,12,-1]:List Int),wfi y) _ ‹_›)).mono (by omega)) (by assumption))
 ·exact okp ⟨{W with cur:=K1 (x:= ‹Int›) (by omega) (by omega)},M.c,M.t,M.g⟩ (by assumption)
 ·exact okp ⟨{W with bump:=(by decide: ∀y∈([0,8,17,-1]:List Int),wfi y) _ ‹_›},M.c,M.t,M.g⟩ (by assumption)
 ·exact Asj (A5f (show n.Fo.length≤_ by omega) _) (okp ((hn.tag (by omega) ((by decide: ∀y∈([255,256,-1]:List Int),wfi y) _ ‹_›)).mono (by omega)) (by assumption))
 ·refine Asj (Bav (show n.Ga.length≤_ by omega) _) (okp ((hn.thing (by omega) (A9g _ _ _ ?_ ?_ ?_)).mono (by omega)) (by assumption))
  all_goals exact K1 (by dsimp only;omega) (by dsimp only;omega)
 ·exact okp M (by assumption)
theorem Baw{c:Eb}{n:Au}(L:Aus c n)(e:EpP 1 n): ∃n' b,Aqx K c n 2 (An7 .i64 c.Hi 1)=some (n',b)∧SN 40 n':=by
 have hm:=Wx;obtain⟨b1,b2,_⟩:=Gx L.conf
 have S:=Bo6 L e
 have W:=S.w
 have h1:=Asi L.conf L.dist
 have h3:=L.nth
 have h4:=L.ntag
 have q1:2*c.Hi≤c.Az*c.Hi:=Int.mul_le_mul_of_nonneg_right (by omega) (by omega)
 have hby:Amn c=c.Az*c.Hi:=by unfold Amn;rw[L.conf];rfl
 have done: ∃n' b,some (n,false)=some (n',b)∧SN 40 n':=⟨_,_,rfl,S⟩;unfold Aqx Apm Anh;rw[ad1 (x:=c.Hi) (by omega) (by omega),At3 K W,Z0,Arc,L.conf]
 simp only[Z0,cond_true];rw[show(n.Vt != 1)=false by rw[L.st];rfl,cond_false,decide_eq_true (by omega),cond_true,At6,Z0,decide_eq_false (by omega),cond_false,Aoh,Ay7 hK L.conf]
 simp only[Z0];cases q:inB 2 0 (c.Az - 1)with
 |false=>exact done
 |true=>
 simp only[Bool.not_true,cond_false]
 have hr:Att (c.Hi+1) c.Hi=2:=by
  unfold Att;rw[Ael.2 ⟨by omega,by omega⟩,Ael.2 ⟨by omega,by omega⟩]
  show(c.Hi+1+c.Hi - 1) / c.Hi=2;rw[show c.Hi+1+c.Hi - 1=c.Hi*2 by omega,Int.mul_ediv_cancel_left _ (by omega)]
 rw[A0q,Z0,hr,Z0];obtain⟨k,rfl⟩: ∃k,K=k+3:=⟨K - 3,by omega⟩
 have e3: ∀i:Nat,i≤2->An7 .i64 2 (i:Int)=2+i:=fun i hi=>by unfold An7;exact Ht (by omega) (by omega)
 have s1:=A5f (l:=n.Az) (by omega) (An7 .i64 2 0)
 have s2:=A5f (l:=n.Az++[An7 .i64 2 0]) (by simp;omega) (An7 .i64 2 (An7 .i64 0 1))
 have s3:=Bav (l:=n.Ga) (by omega) (Bd.mk (An9 .i64 2 c.Hi) (c.Hi+1) 2)
 rw[Anq,show decide ((0:Int)<2)=true from rfl,cond_true]
 rw[if_pos s1,Anq,show decide (An7 .i64 0 1<2)=true from rfl,cond_true]
 simp only;rw[if_pos s2,Anq,show decide (An7 .i64 (An7 .i64 0 1) 1<2)=false from rfl,cond_false]
 simp only;rw[if_pos s3,Avv hK c (Au.mk n.Vt n.Dc n.S5 n.fUp n.S6 n.Eg n.S7 n.S8 (n.Az++[An7 .i64 2 0]++[An7 .i64 2 (An7 .i64 0 1)]) n.Ade n.S9 (n.Ga++[Bd.mk (An9 .i64 2 c.Hi) (c.Hi+1) 2]) n.Fo) (by simp;omega) (by simp;omega) (show n.Fo.length≤_ by omega),Z0]
 cases q3:Aq2 c (Au.mk n.Vt n.Dc n.S5 n.fUp n.S6 n.Eg n.S7 n.S8 (n.Az++[An7 .i64 2 0]++[An7 .i64 2 (An7 .i64 0 1)]) n.Ade n.S9 (n.Ga++[Bd.mk (An9 .i64 2 c.Hi) (c.Hi+1) 2]) n.Fo)with
 |false=>
  simp only[Bool.not_false,cond_true];rw[show Au.mk n.Vt n.Dc n.S5 n.fUp n.S6 n.Eg n.S7 n.S8 n.Az n.Ade n.S9 n.Ga n.Fo=n from rfl,At3 _ W]
  exact done
 |true=>
  exact⟨_,_,rfl,Bo6 (Aje.1 ⟨q3,L.st⟩) ⟨e.ep,e.ue,e.cur⟩⟩
theorem Beg{x:Eb}(hx:Ai0 x=true)(z:Au): ∀(f i:Nat) (c:D1) (n:Au),i<f->i≤20->DP x n->Ag8 c->OkP (Ate K x f (i:Int) c.fb c.fi c.fh n z) (SN 50):=by
 obtain⟨b1,b2,_⟩:=Gx hx
 have j: ∀(c:D1) (n:Au),SN 40 n->Ag8 c->OkP (Atd K c.fb c.fi c.fh n) (SN 50):=by
  intro c n hn hc;unfold Atd;refine Ag2 (Aqu K hc (by omega)) (fun y c1 hy w1=> ?_)
  have:=Bef K K y.toNat 40 c1 n (by omega) (by omega) hn w1
  rw[Int.toNat_of_nonneg (by omega)]at this
  exact this
 intro f
 induction f with
 |zero=>intro i c n h;omega
 |succ f ih=>
  intro i c n hi hm hn hc;rw[Ate];refine Ap5 (fun h=> ?_) (fun _=> ?_)
  ·rw[decide_eq_true_eq]at h;refine Ag2 (Aqu K hc (by omega)) (fun y c1 hy w1=>A8d K w1 (by decide) (fun a c2 ha w2=>Asj rfl ?_))
   have e:An7 .i64 1 y=1+y:=by unfold An7;exact Ht (by omega) (by omega)
   obtain⟨n',b,e2,h2⟩:=A6f hK hn.l hn.w hn.e.cur (1+y) a ⟨by omega,by omega⟩
   dsimp only;rw[e,e2,Z0,sbn (by omega) (by omega)]
   have h3:DP x n':=by
    rcases h2 with rfl|⟨off,hs,rfl⟩
    ·exact hn
    ·obtain⟨l1,l2⟩:=Bcj hn.l hn.e.cur hn.t hs;exact⟨l1,l2,⟨hn.e.ep,hn.e.ue,hn.e.cur⟩⟩
   exact ih (i - 1) c2 n' (by omega) (by omega) h3 w2
  ·obtain⟨r,e,w⟩:=Ax0 K hc (n:=3) (by omega)
   rw[show D1.mk c.fb c.fi c.fh=c from rfl,e,Z0]
   refine Ap5 (fun _=> ?_) (fun _=>j _ _ (Bo6 hn.l hn.e) w);obtain⟨n',b,e2,h2⟩:=Baw hK hn.l hn.e;rw[e2,Z0];exact j _ _ h2 w
theorem Beh{x:Eb}(hx:Ai0 x=true){c:D1}(hc:Ag8 c):OkP (Ayl K c x) (SN 50):=by
 obtain⟨b1,b2,b3,b4,b5,b6⟩:=Gx hx;unfold Ayl Al1;refine Ag2 (Aqu K hc (by omega)) (fun y1 c1 h1 w1=> ?_)
 rw[Z0];refine Ag2 (Aqu K w1 (by omega)) (fun y2 c2 h2 w2=>Ag2 (Aqu K w2 (by omega)) (fun y3 c3 h3 w3=> ?_))
 dsimp only
 have e:An7 .i64 1 y1=1+y1:=by unfold An7;exact Ht (by omega) (by omega)
 rw[e]
 have L:Aus x (Au.mk 1 (1+y1) y2 0 0 0 0 0 [] 0 0 [] []):=⟨hx,rfl,⟨by show(1:Int)≤1+y1;omega,by show 1+y1≤x.Hj;omega⟩,⟨by show(0:Int)≤0;omega,by show(0:Int)≤x.Fb;omega⟩,⟨by show(0:Int)≤0;omega,by show(0:Int)≤x.Fb;omega⟩,⟨by show(0:Int)≤0;omega,by show(0:Int)≤x.Fb;omega⟩,⟨by show(0:Int)≤0;omega,by show(0:Int)≤x.Fb;omega⟩,h2.1,by show(0:Int)≤0;omega,rfl,rfl,by simp,by simp,rfl,rfl⟩
 have E:EpP 1 (Au.mk 1 (1+y1) y2 0 0 0 0 0 [] 0 0 [] []):=⟨by show y2≤1;omega,by show(0:Int)≤1;omega,by show(0:Int)≤0;omega,by show(0:Int)≤1000;omega⟩
 have L2:=A5r L (k:=y3) ⟨by omega,by omega⟩ (by simp)
 rw[A5s hK L (Bo6 L E).w ⟨by omega,by omega⟩ (by simp),Z0]
 have D:DP x (A3r (Au.mk 1 (1+y1) y2 0 0 0 0 0 [] 0 0 [] []) y3):=⟨L2,⟨rfl,rfl,by simp[Aru,A3r,Ap3]⟩,⟨E.ep,E.ue,by show 0≤y3+1;omega,by show y3+1≤1000;omega⟩⟩
 refine Ag2 (Aqu K w3 (by omega)) (fun y4 c4 h4 w4=> ?_)
 have:=Beg hK hx (Au.mk 0 0 0 0 0 0 0 0 [] 0 0 [] []) K y4.toNat c4 _ (by omega) (by omega) D w4
 rw[Int.toNat_of_nonneg (by omega)]at this
 exact this
structure SW (m:Nat)(x:A1):Prop where
 w:A04 x
 g:x.Fo.length≤m
 c:x.Az.length≤m
theorem Bho{x:Eb}(hx:Ai0 x=true){c:D1}(hc:Ag8 c):OkP (Azm K c x) (SW 60):=by
 obtain⟨b1,b2,b3,b4,b5,b6⟩:=Gx hx
 have j: ∀(c:D1) (a z:A1),SW 50 a->Ag8 c->OkP (Atf K c.fb c.fi c.fh a z) (SW 50):=by
  intro c a z ha hc;unfold Atf Av7;obtain⟨r,e,w⟩:=Ax0 K hc (n:=4) (by omega)
  rw[show D1.mk c.fb c.fi c.fh=c from rfl,e,Z0]
  exact Ap5 (fun _=>okp ⟨⟨ha.w.slot,ha.w.first,Aty,Aty,At1⟩,by simp,by simp⟩ w) (fun _=>okp ha w)
 have d:OkP (Aym K c x) (SW 50):=by
  unfold Aym;refine Ag2 (Beh hK hx hc) (fun n c1 hn w1=> ?_);dsimp only;rw[ad1 (x:=x.Fb) (by omega) (by omega)]
  refine Ag2 (Aqu K w1 (by omega)) (fun y2 c2 h2 w2=> ?_)
  dsimp only;rw[A2l K hn.w,Z0]
  have W:=A4e hn.w (s:=y2) (K1 (by omega) (by omega))
  refine Ag2 (Aqu K w2 (by omega)) (fun y3 c3 h3 w3=> ?_)
  have hf:wfi y3:=K1 (by omega) (by omega)
  refine Ap5 (fun _=>Ag2 (Aqu K w3 (by omega)) (fun y4 c4 h4 w4=> ?_)) (fun _=>j _ _ _ ⟨⟨W.slot,hf,W.tags,W.chunks,At1⟩,hn.g,hn.c⟩ w3)
  exact j _ _ _ ⟨⟨W.slot,hf,W.tags,W.chunks,K1 (x:=y4) (by omega) (by omega)⟩,hn.g,hn.c⟩ w4
 unfold Azm Ap0;refine Ag2 d (fun a c1 ha w=> ?_)
 have h1:=ha.g;have h2:=ha.c
 have W:=ha.w
 okgo
 ·exact okp ⟨{W with slot:=(by decide: ∀y∈([-1,0,8,9]:List Int),wfi y) _ ‹_›},show a.Fo.length≤60 by omega,show a.Az.length≤60 by omega⟩ (by assumption)
 ·exact okp ⟨{W with first:=(by decide: ∀y∈([-1,9,0]:List Int),wfi y) _ ‹_›},show a.Fo.length≤60 by omega,show a.Az.length≤60 by omega⟩ (by assumption)
 ·exact okp ⟨{W with done:=(by decide: ∀y∈([-1,0,8,16]:List Int),wfi y) _ ‹_›},show a.Fo.length≤60 by omega,show a.Az.length≤60 by omega⟩ (by assumption)
 ·exact Asj (A5f (show a.Fo.length≤_ by omega) _) (okp ⟨{W with tags:=A2t W.tags (by omega) ((by decide: ∀y∈([-1,255,256]:List Int),wfi y) _ ‹_›)},by simp;omega,show a.Az.length≤60 by omega⟩ (by assumption))
 ·exact Asj (A5f (show a.Az.length≤_ by omega) _) (okp ⟨{W with chunks:=A2t W.chunks (by omega) ((by decide: ∀y∈([-1,0,12]:List Int),wfi y) _ ‹_›)},show a.Fo.length≤60 by omega,by simp;omega⟩ (by assumption))
 ·exact okp ⟨W,show a.Fo.length≤60 by omega,show a.Az.length≤60 by omega⟩ (by assumption)
end
structure AnyP (w:C8):Prop where
 ww:Ano w
 l:w.fL.length≤8
 s:w.fP.Vt.length≤12∧w.fP.Pn.length≤12∧w.fP.Pm.length≤192
 q:w.fQ.length≤40000
 n: ∀x∈w.fL,SN 80 x
theorem A2u{l:List A1}(h:A9t l)(hl:l.length≤100000){x:A1}(hx:A04 x):A9t (l++[x]):=by
 refine⟨fun y hy=> ?_,by rw[Jh,List.length_singleton];omega⟩
 rcases Gh.1 hy with hy|hy
 ·exact h.1 y hy
 ·rw[Mx.1 hy];exact hx
theorem A6y{α:Type}{l:List α}{P:α->Prop}(h: ∀x∈l,P x)(i:Nat){x:α}(hx:P x): ∀y∈l.set i x,P y:=by
 intro y hy;rcases Z54 hy with hy|rfl
 ·exact h y hy
 ·exact hx
theorem AnyP.node{w:C8}(h:AnyP w)(i:Nat){x:Au}(hx:SN 80 x):AnyP (C8.mk w.fC w.fP (w.fL.set i x) w.fQ w.Adf):=
 ⟨{h.ww with l:=Axt h.ww.l i hx.w},by show(w.fL.set i x).length≤8;rw[Z49];exact h.l,h.s,h.q,A6y h.n i hx⟩
section
variable {K:Nat} (hK:281474976710656≤K)
include hK
theorem Bhp{c:D1}(hc:Ag8 c){most:Int}(hm:0<most∧most≤1000):OkP (Azn K c most) AnyP:=by
 obtain⟨x,l,w,c',E,n,e,G,hE,hn,hwc,hx,_,_,w1⟩:=run_ok hK hc hm
 have W:=G.ww (by omega) (by omega)
 have I:=G.inv
 have hlen:=I.len;obtain⟨b1,b2,b3,b4,b5,b6⟩:=Gx I.conf
 have P:=Ala.1 I.pool
 have h1:=Blo w
 have h2:=Bdy w
 have h3:=G.wt
 have p1:=P.st;have p2:=P.own;have p3:=P.mem
 have hmm:=Au9 (a:=w.fC.Az) (b:=w.fC.Hi) (m:=12) (n:=16) (by omega) b1.2 (by omega) b2.2
 have hm0:0<w.fC.Az*w.fC.Hi:=Int.mul_pos (by omega) (by omega)
 have N: ∀y∈w.fL,SN 12 y:=A7u fun k hk=>by
  have hb:=I.node k hk
  have hy:=A2p hb (G.ep k hk) (by omega)
  by_cases s:(gt w.fL k).Vt=1
  ·have X:=Aje.1 ⟨hb,s⟩
   have:=X.nth;have:=X.ntag;have:=Asi X.conf X.dist;exact⟨hy,by omega,by omega,by omega⟩
  ·rw[Ayz hb s]at hy ⊢;exact⟨hy,by simp[Aqt],by simp[Aqt],by simp[Aqt]⟩
 have A:AnyP w:=⟨W,by omega,by omega,by omega,fun y hy=>(N y hy).mono (by omega)⟩
 unfold Azn Auj;rw[e,Z0,Z0];refine Ag2 (Aqu K w1 (by dsimp only;omega)) (fun k c2 hk w2=>Ag2 (Aqu K w2 (by omega)) (fun d c3 hd w3=> ?_))
 dsimp only at hk ⊢
 have hg:=Alb hk.1 hk.2
 have S:=N _ hg
 have SW':=S.w
 have St:=S.t
 have M:=S.mono (k:=80) (by omega)
 unfold Adg;refine Ap5 (fun _=>Ag2 (Bmm K w3) (fun y c4 hy w4=>okp ⟨{W with c:=hy},A.l,A.s,A.q,A.n⟩ w4)) (fun _=> ?_)
 refine Ap5 (fun _=>Ag2 (Aqu K w3 (by omega)) (fun y c4 hy w4=>Ag2 (Aqu K w4 (by omega)) (fun z c5 hz w5=>Asj hy (okp ⟨{W with p:={W.p with st:=⟨A6y W.p.st.1 _ (K1 (x:=z) (by omega) (by omega)),by rw[Z49];exact W.p.st.2⟩}},A.l,by dsimp only;rw[Z49];exact A.s,A.q,A.n⟩ w5)))) (fun _=> ?_)
 refine Ap5 (fun _=>Ag2 (Aqu K w3 (by omega)) (fun y c4 hy w4=>Asj hy (okp ⟨{W with p:={W.p with mem:=⟨A6y W.p.mem.1 _ ⟨by decide,by decide⟩,by rw[Z49];exact W.p.mem.2⟩}},A.l,by dsimp only;rw[Z49];exact A.s,A.q,A.n⟩ w4))) (fun _=> ?_)
 refine Ap5 (fun _=>Ag2 (Bmp hK I.conf w3) (fun y c4 hy w4=>Asj hk (okp (A.node _ (hy.mono (by omega))) w4))) (fun _=> ?_)
 refine Ap5 (fun _=>Ag2 (Aqu K w3 (by omega)) (fun y c4 hy w4=>Asj hk (okp (A.node _ ⟨{SW' with st:=K1 (x:=y) (by omega) (by omega)},M.c,M.t,M.g⟩) w4))) (fun _=> ?_)
 refine Ap5 (fun _=>Ag2 (Aqu K w3 (by omega)) (fun y c4 hy w4=>Asj hk (okp (A.node _ ⟨{SW' with up:=K1 (x:=y) (by omega) (by omega)},M.c,M.t,M.g⟩) w4))) (fun _=> ?_)
 refine Ap5 (fun _=>Asj hk (Asj hk (okp (A.node _ ⟨{SW' with ep:=Ay2 _},M.c,M.t,M.g⟩) w3))) (fun _=> ?_)
 refine Ap5 (fun _=>Ag2 (Bho hK I.conf w3) (fun y c4 hy w4=>Asj ?_ (okp ⟨{W with q:=A2u W.q (by omega) hy.w},A.l,A.s,by simp;omega,A.n⟩ w4))) (fun _=> ?_)
 ·have:=Wx;rw[Jh,List.length_singleton];omega
 refine Ap5 (fun _=>Ap5 (fun h=> ?_) (fun _=>okp A w3)) (fun _=> ?_)
 ·rw[decide_eq_true_eq]at h;refine Asj ⟨by omega,by omega,by omega⟩ (okp ⟨{W with q:=⟨fun y hy=>W.q.1 y (List.mem_of_mem_drop (Zm hy)),by have:=W.q.2;simp;omega⟩},A.l,A.s,by have:=A.q;simp;omega,A.n⟩ w3)
 refine Ap5 (fun _=>A8d K w3 (by decide) (fun y c4 hy w4=>Asj rfl (Asj ?_ (okp ⟨{W with log:=⟨fun z hz=> ?_,by have:=W.log.2;simp;omega⟩},A.l,A.s,A.q,A.n⟩ w4)))) (fun _=> ?_)
 ·have:=Wx;rw[Jh,List.length_singleton];omega
 ·rcases Gh.1 hz with hz|hz
  ·exact W.log.1 z hz
  ·rw[Mx.1 hz];exact(by decide: ∀y∈([0,255,256,-1]:List Int),wfi y) _ hy
 refine Ap5 (fun _=>Asj hk (Asj hk (Ag2 (Aqu K w3 (by omega)) (fun y c4 hy w4=>Asj (Bav (by omega) _) (Asj hk (okp (A.node _ ((S.thing (by omega) (A9g _ _ _ (K1 (x:=y) (by omega) (by omega)) (K1 (by decide) (by decide)) At1)).mono (by omega))) w4)))))) (fun _=> ?_)
 refine Ap5 (fun _=>Ag2 (Aqu K w3 (by omega)) (fun y c4 hy w4=>Asj hk (okp (A.node _ ⟨{SW' with next:=K1 (x:=y) (by omega) (by omega)},M.c,M.t,M.g⟩) w4))) (fun _=> ?_)
 refine Ap5 (fun _=>Ap5 (fun h=> ?_) (fun _=>okp A w3)) (fun _=>okp A w3);rw[decide_eq_true_eq]at h
 refine Ag2 (Aqu K w3 (by omega)) (fun y c4 hy w4=>Asj ⟨by omega,h⟩ (okp ⟨{W with q:=⟨A6y W.q.1 _ {W.q.1 _ (Alb (i:=0) (by omega) h)with done:=K1 (x:=y) (by omega) (by omega)},by rw[Z49];exact W.q.2⟩},A.l,A.s,by dsimp only;rw[Z49];exact A.q,A.n⟩ w4))
end
theorem Buo{K:Nat}(a:List Int)(ha:a.length≤1048576)(hb:Ay1 a)(i:Int)(hi:0≤i∧i≤100): ∃r,A3v K a i=some r∧0≤r:=by
 unfold A3v
 by_cases q:i<(a.length:Int)
 ·rw[decide_eq_true q,cond_true,if_pos ⟨hi.1,q⟩]
  have:=hb _ (Alb hi.1 q);exact⟨_,rfl,by rw[Ht (by omega) (by omega)];omega⟩
 ·rw[decide_eq_false q,cond_false,if_pos (by decide)]
  refine⟨_,rfl,?_⟩
  have e:An7 .i64 (An9 .i64 i 31) (An9 .i64 (a.length:Int) 7)=i*31+(a.length:Int)*7:=by
   unfold An7 An9;rw[Ht (n:=i*31) (by omega) (by omega),Ht (n:=(a.length:Int)*7) (by omega) (by omega),Ht (by omega) (by omega)]
  rw[e];exact Int.tmod_nonneg _ (by omega)
theorem Bmq{w:C8}(hw:Ano w)(hq:w.fQ.length≤100000){k:Int}(hk:0≤k∧k<(w.fL.length:Int)):Ano (Asm w k):=by
 have hn:=hw.l.1 _ (Alb hk.1 hk.2);obtain⟨u1,u2,u3⟩:=A18 hw.l hk
 have hk':0≤k∧k<((Anv w.fL k).length:Int):=by rw[u3];exact hk
 exact⟨hw.c,(A8z hw.p _).1,Axt u1 _ (Bt3 (u1.1 _ (Alb hk'.1 hk'.2))),A2u hw.q hq (A4e hn (A9q _)),hw.log⟩
theorem Bmr{w:C8}(hw:Ano w)(hq:w.fQ.length≤100000){k:Int}(hk:0≤k∧k<(w.fL.length:Int)):Ano (Au2 w k):=by
 have hn:=hw.l.1 _ (Alb hk.1 hk.2);exact⟨hw.c,(A8z hw.p _).1,Axt hw.l _ (Bdu hn),A2u hw.q hq (A4e hn At1),hw.log⟩
section
variable {K:Nat} (hK:281474976710656≤K)
include hK
omit hK in
theorem A5w (K:Nat){w:C8}(hl:w.fL.length≤1000)(k:Int):Art K w k=some (decide (0≤k∧k<(w.fL.length:Int))&&(gt w.fL k).Vt==1):=by
 unfold Art;rw[A05 K (by omega),Z0]
 by_cases q:0≤k∧k<(w.fL.length:Int)
 ·rw[decide_eq_true q,cond_true,if_pos q];rfl
 ·rw[decide_eq_false q];rfl
theorem Bei{w:C8}(A:AnyP w)(k:Int): ∃v,Asc K w k=some v∧Awb K w k=some v∧Ano v:=by
 have hw:=A.ww;have hl:=A.l;have hq:=A.q
 have none_: ∀b,Art K w k=some b->b=false->Awb K w k=some w:=by
  rintro b e rfl;unfold Awb Avt;rw[Aq7 hK hw,Z0,e];rfl
 by_cases q:0≤k∧k<(w.fL.length:Int)
 ·by_cases s:(gt w.fL k).Vt=1
  ·refine⟨_,A7i hK w hw (by omega) q s,?_,Bmq hw (by omega) q⟩
   unfold Awb Avt;rw[Aq7 hK hw,Z0,A5w K (by omega),decide_eq_true q,s,Z0]
   simp only[beq_self_eq_true,Bool.and_self,cond_true];rw[A7h hK w hw (by omega) q];rfl
  ·refine⟨w,?_,none_ _ (A5w K (by omega) k) (by rw[beq_eq_false_iff_ne.2 s,Bool.and_false]),hw⟩
   unfold Asc;rw[Atw hK hw,Z0,Auy K (Aej hw.l),Z0,decide_eq_true q,cond_true,if_pos q,bne_iff_ne.2 s];rfl
 ·refine⟨w,?_,none_ _ (A5w K (by omega) k) (by rw[decide_eq_false q,Bool.false_and]),hw⟩
  unfold Asc;rw[Atw hK hw,Z0,Auy K (Aej hw.l),Z0,decide_eq_false q];rfl
theorem Bax{w:C8}(A:AnyP w)(k:Int): ∃v,Aqk K w k=some v∧Atm K w k=some v∧Ano v:=by
 have hw:=A.ww;have hl:=A.l;have hq:=A.q
 have none_: ∀b,Art K w k=some b->b=false->Atm K w k=some w:=by
  rintro b e rfl;unfold Atm Atl;rw[Aq7 hK hw,Z0,e];rfl
 by_cases q:0≤k∧k<(w.fL.length:Int)
 ·by_cases s:(gt w.fL k).Vt=1
  ·refine⟨_,A4z hK w hw (by omega) q s,?_,Bmr hw (by omega) q⟩
   unfold Atm Atl;rw[Aq7 hK hw,Z0,A5w K (by omega),decide_eq_true q,s,Z0]
   simp only[beq_self_eq_true,Bool.and_self,cond_true];rw[A4y hK w hw (by omega) q];rfl
  ·refine⟨w,?_,none_ _ (A5w K (by omega) k) (by rw[beq_eq_false_iff_ne.2 s,Bool.and_false]),hw⟩
   unfold Aqk;rw[Atw hK hw,Z0,Auy K (Aej hw.l),Z0,decide_eq_true q,cond_true,if_pos q,bne_iff_ne.2 s];rfl
 ·refine⟨w,?_,none_ _ (A5w K (by omega) k) (by rw[decide_eq_false q,Bool.false_and]),hw⟩
  unfold Aqk;rw[Atw hK hw,Z0,Auy K (Aej hw.l),Z0,decide_eq_false q];rfl
theorem Bo7{a:List Int}(hb:Ay1 a)(ha:a.length≤1048576){most:Int}(hm:0<most∧most≤1000): ∃w c,Avq K a most=some (c,w)∧AnyP w∧Ag8 c:=by
 obtain⟨c,e1,w1⟩:=Bco hK hb ha;obtain⟨w,c2,e2,A,w2⟩:=Bhp hK w1 hm;refine⟨w,c2,?_,A,w2⟩;unfold Avq;rw[e1,Z0,e2];rfl
end
theorem A8t (a:List Int)(u:A9p a): ∃K,Axl K a=some true:=by
 refine⟨562949953421312,?_⟩
 have hK:281474976710656≤562949953421312:=by decide
 unfold Axl A4a;rw[Z0]
 by_cases hbig:(a.length:Int)>1048576
 ·rw[decide_eq_true hbig,cond_true]
 rw[decide_eq_false hbig,cond_false]
 have ha:a.length≤1048576:=by omega
 have hb:Ay1 a:=(Bgz u).1;obtain⟨w,c,e1,A,wc⟩:=Bo7 hK hb ha (most:=40) (by omega)
 obtain⟨k,e2,bk,_⟩:=Ag7 562949953421312 wc (n:=7) (by omega)
 have d1:Av8 562949953421312 a=some (w,An8 .i64 k.1 1):=by
  unfold Av8;rw[e1,Z0,e2];rfl
 have d2:Axq 562949953421312 a=some (w,An8 .i64 k.1 1):=d1;obtain⟨w0,o,E,n,e3,G,hE,hn,_⟩:=Bat hK hb ha
 have W:=G.ww (by omega) (by omega)
 have I:=G.inv;obtain⟨b1,b2,b3,_⟩:=Gx I.conf
 have hlen:=I.len
 have hq:=Blo w0
 have hwt:=G.wt;obtain⟨v1,i1,s1,V1⟩:=Bei hK A (An8 .i64 k.1 1);obtain⟨v2,i2,s2,V2⟩:=Bax hK A (An8 .i64 k.1 1);rw[d1,Z0,d2,Z0,e3,Z0,Bau hK W (by omega),Z0]
 dsimp only;rw[i1,Z0,s1,Z0,A3u hK V1,Z0,cond_true,i2,Z0,s2,Z0,A3u hK V2,Z0];simp only[Bool.not_true,cond_false]
 by_cases hz:(A1h w0).length=0
 ·rw[hz];rfl
 rw[show(((A1h w0).length:Int)==0)=false from Ah0 (by omega),cond_false]
 obtain⟨r,e4,hr⟩:=Buo (K:=562949953421312) a ha hb 4 (by omega)
 have t1:0≤Int.tmod r ((A1h w0).length:Int):=Int.tmod_nonneg _ hr
 have t2:Int.tmod r ((A1h w0).length:Int)<((A1h w0).length:Int):=Int.tmod_lt_of_pos _ (by omega)
 rw[e4,Z0,if_pos (by omega),if_pos ⟨t1,t2⟩]
 obtain⟨hk,hal⟩:=Bhl.1 (Alb t1 t2);generalize gt (A1h w0) (Int.tmod r ((A1h w0).length:Int))=k at hk hal ⊢
 have al:AlW w0.fL k:=A89 I hal;obtain⟨t,AT,al'⟩:=id al
 have st:=((Awh AT).1 al'.lv).2
 have G1:=A75 G hE.1 al
 have G2:=A76 G (by omega) al
 have W1:=G1.ww (by omega) (by omega)
 have W2:=G2.ww (by omega) (by omega)
 have l1:(Asm w0 k).fL.length=w0.fL.length:=by
  unfold Asm;rw[Z49,(A18 W.l hk).2.2]
 have l2:(Au2 w0 k).fL.length=w0.fL.length:=by unfold Au2;rw[Z49]
 have n1: ∀x:A1,((w0.fQ++[x]).length:Int)=An7 .i64 (w0.fQ.length:Int) 1:=by
  intro x;rw[ad1 (by omega) (by omega),Jh,List.length_singleton];omega
 have c1: ∀x:A1,(0:Int)≤(w0.fQ.length:Int)∧(w0.fQ.length:Int)<((w0.fQ++[x]).length:Int):=by
  intro x;rw[Jh,List.length_singleton];omega
 have g1: ∀x:A1,gt (w0.fQ++[x]) (w0.fQ.length:Int)=x:=by
  intro x;rw[P2 (by simp)];simp
 have k1:0≤k∧k<((Asm w0 k).fL.length:Int):=by omega
 have k2:0≤k∧k<((Au2 w0 k).fL.length:Int):=by omega
 have x1:gt (Asm w0 k).fL k=Be6 (gt (Anv w0.fL k) k):=Awf (by rw[(A18 W.l hk).2.2];exact hk) _
 have x2:gt (Au2 w0 k).fL k=Atx (gt w0.fL k):=Awf hk _;rw[A7i hK w0 W (by omega) hk st,Z0,A4z hK w0 W (by omega) hk st,Z0,A4w hK _ W1,Z0,G1.inv.ok,cond_true,A4w hK _ W2,Z0,G2.inv.ok,cond_true,if_pos k1,if_pos k2,x1,x2,if_pos hk]
 have y1:(Be6 (gt (Anv w0.fL k) k)).Vt=2:=rfl
 have y2:(Atx (gt w0.fL k)).Vt=1:=st
 have y3:(Atx (gt w0.fL k)).S5=An7 .i64 (gt w0.fL k).S5 1:=rfl
 have q1:(Asm w0 k).fQ=w0.fQ++[Ag5 (gt w0.fL k) (An7 .i64 k 1)]:=rfl
 have q2:(Au2 w0 k).fQ=w0.fQ++[Ag5 (gt w0.fL k) 0]:=rfl
 have z1:(Asm w0 k).Adf=w0.Adf:=rfl;rw[q1,q2,n1,n1,y1,y2,y3,z1,←n1 (Ag5 (gt w0.fL k) 0),if_pos (c1 _),if_pos (c1 _),g1,g1];simp[Ag5,k2.1,k2.2]
end Go.Proofs.YtcdojenmonmcfaaGreat
