/- The plain law for FnDebts; no condition. -/
import Derived.Test.YtgcnddnmhllahaaGreatJFnDebtsTa
import Derived.Test.YtgcnddnmhllahaaGreatJFnDebtsW
set_option linter.all false
namespace Go.Proofs.YtgcnddnmhllahaaGreat
open Go.Eng Go.ChangeShapes Go.WideShapes Go.ChangeAt Go.RowKit
theorem K0{i:Nat}(h:i<=140737488355328):A4 (i:Int) 1=((i+1:Nat):Int):=by
 grind [A4,Fp,IntKind.wrap_i64]
theorem K1{α:Type}[Inhabited α]{l:List α}{i:Nat}(h:i<l.length):gt l (i:Int)=l[i]:=by
 grind [gt]
theorem Xe{α:Type}[Inhabited α]{l:List α}{i:Nat}(h:i<l.length):gt l (i:Int)∈l:=by
 grind [K1]
theorem Wi{α:Type}[Inhabited α]{l:List α}{i:Int}(h0:0<=i)(h:i<l.length):gt l i∈l:=by
 obtain⟨k,rfl⟩: ∃k:Nat,i=k:=⟨i.toNat,by omega⟩
 grind [Xe]
theorem Pz{i k:Nat}(h:i<k):decide ((i:Int)<(k:Int))=true:=by grind
theorem Wu{i k:Nat}(h:k<=i):decide ((i:Int)<(k:Int))=false:=by grind
theorem Vs{n:Int}(h0: -9223372036854775808<=n)(h1:n<=9223372036854775807):IntKind.i64.wrap n=n:=by rw[IntKind.wrap_i64];omega
theorem Xp{n:Int}(h: -9223372036854775808<=n/\n<=9223372036854775807):IntKind.i64.wrap n=n:=Vs h.1 h.2
theorem Bcl (n:Int): -9223372036854775808<=IntKind.i64.wrap n/\IntKind.i64.wrap n<=9223372036854775807:=by rw[IntKind.wrap_i64];omega
theorem Ym{a b:Int}(h: ¬a=b):(a != b)=true:=by simpa using h
theorem Wn{a b:Int}(h: ¬a=b):(a==b)=false:=by simpa using h
def Qi (x a b:Int):Bool:=decide (a<=x/\x<=b)
theorem V1{x a b:Int}:Qi x a b=true ↔ a<=x/\x<=b:=by unfold Qi;exact decide_eq_true_iff
theorem A2y{x a b:Int}:Qi x a b=false ↔ ¬(a<=x/\x<=b):=by unfold Qi;exact decide_eq_false_iff_not
theorem Yn (b:Bool)(x:Bool):(bif b then some x else some false)=some (b&&x):=by cases b<;>rfl
theorem Bcm (b:Bool)(x:Bool):(bif b then some false else some x)=some (!b&&x):=by cases b<;>rfl
theorem cr (b:Bool)(x:Bool):(bif b then some true else some x)=some (b||x):=by cases b<;>rfl
theorem Wl{α:Type}(b:Bool)(x y:α):(bif !b then x else y)=(bif b then y else x):=by cases b<;>rfl
theorem Gz{i n:Nat}(h:i<n):((0:Int)<=(i:Int)/\(i:Int)<(n:Int)):=⟨by omega,by omega⟩
theorem Br7{α:Type}(l:List α)(q:α->Bool)(fin:Option Bool)(L:Nat->Int->Option Bool)
  (hs: ∀n (i:Nat) (h:i<l.length),L (n+1) (i:Int)=bif q l[i]then L n ((i+1:Nat):Int)else some false)
  (he: ∀n,L (n+1) (l.length:Int)=fin):
  ∀(n i:Nat),i<=l.length->l.length - i<n->L n (i:Int)=bif (l.drop i).all q then fin else some false:=by
 intro n;induction n with
 |zero=>omega
 |succ n ih=>
  intro i hi hn;rcases Bj i l.length with h|h
  ·rw[hs n i h,Z47 h,Bb];cases q l[i]with
   |false=>rfl
   |true=>grind
  grind
theorem Zi{α:Type}{K:Nat}(hK:2^48<=K)(l:List α)(hl:l.length<=140737488355328)(q:α->Bool)(fin:Option Bool)(L:Nat->Int->Option Bool)
  (hs: ∀n (i:Nat) (h:i<l.length),L (n+1) (i:Int)=bif q l[i]then L n ((i+1:Nat):Int)else some false)
  (he: ∀n,L (n+1) (l.length:Int)=fin):L K 0=bif l.all q then fin else some false:=by
 have:=Br7 l q fin L hs he K 0 (Hc _) (by omega);simpa using this
theorem Yt{K:Nat}(hK:2^48<=K)(N:Nat)(hl:N<=140737488355328)(q:Nat->Bool)(fin:Option Bool)(L:Nat->Int->Option Bool)
  (hs: ∀n (i:Nat) (h:i<N),L (n+1) (i:Int)=bif q i then L n ((i+1:Nat):Int)else some false)
  (he: ∀n,L (n+1) (N:Int)=fin):L K 0=bif (List.range N).all q then fin else some false:=by
 refine Zi hK (List.range N) (by simpa using hl) q fin L (fun n i h=> ?_) (fun n=> ?_)
 ·rw[List.getElem_range];exact hs n i (by simpa using h)
 ·rw[List.length_range];exact he n
theorem Bcn{α:Type}(l:List α)(q:α->Bool)(L:Nat->Int->Int->Option Int)
  (hs: ∀n (i:Nat) (h:i<l.length),L (n+1) (l.length:Int) (i:Int)=bif q l[i]then some (i:Int)else L n (l.length:Int) ((i+1:Nat):Int))
  (he: ∀n,L (n+1) (l.length:Int) (l.length:Int)=some (-1)):
  ∀(n i:Nat),i<=l.length->l.length - i<n-> ∃r,L n (l.length:Int) (i:Int)=some r/\decide (r>=0)=(l.drop i).any q:=by
 intro n;induction n with
 |zero=>omega
 |succ n ih=>
  intro i hi hn;rcases Bj i l.length with h|h
  ·rw[hs n i h,Z47 h,List.any_cons]
   grind
  ·obtain rfl:i=l.length:=by omega
   exact⟨_,he n,by simp⟩
theorem tj{α:Type}[Inhabited α]{K:Nat}(hK:2^48<=K)(l:List α)(hl:l.length<=140737488355328)(f:α->Option Bool)(q:α->Bool)(hf: ∀x∈l,f x=some (q x))(L:Nat->Int->Int->Option Int)
  (hL: ∀n N i,L (n+1) N i=bif decide (i<N)then(if(0:Int)<=i/\i<(l.length:Int)then(f (gt l i)).bind (fun r=>bif r then some i else L n N (A4 i 1))else none)else some (-1)):
  ((L K (l.length:Int) 0).bind fun r=>some (decide (r>=0)))=some (l.any q):=by
 obtain⟨r,h1,h2⟩:=Bcn l q L (fun n i h=>by
  rw[hL,Pz h,cond_true,if_pos (Gz h),hf _ (Xe h),K1 h,Z0,K0 (by omega)]) (fun n=>by rw[hL,Wu (Z9 _),cond_false]) K 0 (Hc _) (by omega)
 rw[show((0:Nat):Int)=0 from rfl]at h1;rw[h1,Z0,h2,Hf]
theorem A6o{K:Nat}(hK:2^48<=K)(l:List Int)(x:Int)(hl:l.length<=140737488355328):sv K l x=some (l.contains x):=by
 unfold sv A50;obtain⟨r,h1,h2⟩:=Bcn l (fun y=>x==y) (su K l x) (fun n i h=>by
  rw[su,Pz h,cond_true,if_pos (Gz h),K1 h,K0 (by omega)]) (fun n=>by simp_all[su]) K 0 (Hc _) (by omega)
 grind
theorem gy{K:Nat}(hK:2^48<=K)(l:List Int)(x:Int)(hl:l.length<=140737488355328):ay K l x=some (l.contains x):=by
 unfold ay;have h: ∀(n i:Nat),i<=l.length->l.length - i<n->xc K l x n (i:Int)=some ((l.drop i).contains x):=by
  intro n;induction n with
  |zero=>omega
  |succ n ih=>
   intro i hi hn;rw[xc];rcases Bj i l.length with h|h
   ·rw[Pz h,cond_true,if_pos (Gz h),K1 h,K0 (by omega),ih (i+1) h (by omega),Z47 h,List.contains_cons,cr,Bool.beq_comm]
   grind
 have:=h K 0 (Hc _) (by omega)
 grind
theorem Xl (K:Nat)(x a b:Int):V4 K x a b=some (Qi x a b):=by
 unfold V4 Qi
 grind
theorem bb (K:Nat)(x a b:Int):Xd K x a b=some (Qi x a b):=Xl K x a b
def Vw (c:Sv):Bool:=Qi c.L 2 12&&(Qi c.k 8 16&&(Qi c.l 2 8&&(Qi c.e 1 8&&(Qi c.m 1 16&&Qi c.n 1 4))))
theorem dv (K:Nat)(c):bw K c=some (Vw c):=by
 simp_all[bw,Xl,Yn,Vw]
theorem A6p (K:Nat)(c):sr K c=some (Vw c):=dv K c
theorem Gy{c:Sv}(h:Vw c=true):(2<=c.L/\c.L<=12)/\(8<=c.k/\c.k<=16)/\(2<=c.l/\c.l<=8)/\(1<=c.e/\c.e<=8)/\(1<=c.m/\c.m<=16)/\(1<=c.n/\c.n<=4):=by
 simp_all[Vw,V1]
def Ws (c:Sv):Int:=bif Vw c then c.L*c.k else 0
theorem Zp{a b m n:Int}(h1:0<=a)(h2:a<=m)(h3:0<=b)(h4:b<=n):0<=a*b/\a*b<=m*n:=
 ⟨Int.mul_nonneg h1 h3,Int.mul_le_mul h2 h4 h3 (by omega)⟩
theorem pq (K:Nat)(c):mw K c=some (Ws c):=by
 unfold mw Ws;rw[dv,Z0,Wl];cases h:Vw c with
 |false=>rfl
 |true=>
  obtain⟨h1,h2,_⟩:=Gy h;have:=Zp (a:=c.L) (b:=c.k) (m:=12) (n:=16) (by omega) h1.2 (by omega) h2.2;simp only[cond_true,Gx,Ci]
  grind [Vs]
theorem A6q (K:Nat)(c):A1g K c=some (Ws c):=pq K c
theorem Aai (c:Sv):0<=Ws c/\Ws c<=192:=by
 unfold Ws;cases h:Vw c with
 |false=>simp
 |true=>
  obtain⟨h1,h2,_⟩:=Gy h;have:=Zp (a:=c.L) (b:=c.k) (m:=12) (n:=16) (by omega) h1.2 (by omega) h2.2
  grind
section
variable {K:Nat} (hK:2^48<=K)
include hK
def Wd (l:List Int):Bool:=l.all (fun x=>x==0)
theorem Abf (l:List Int)(hl:l.length<=140737488355328):jt K l=some (Wd l):=by
 unfold jt;rw[Zi hK l hl (fun x=>x==0) (some true) (rj K l) (fun n i h=>by
  rw[rj,Pz h,cond_true,if_pos (Gz h),K1 h,K0 (by omega)]
  grind) (fun n=>by simp_all[rj])]
 grind [Wd]
theorem A2z (l:List Int)(hl:l.length<=140737488355328):oy K l=some (Wd l):=by
 unfold oy A5w A5v;rw[tj hK l hl (A5u K) (fun x=>x != 0) (fun x _=>rfl) (A1h K l) (fun n N i=>rfl)];simp_all[Wd,List.not_any_eq_all_not,bne]
end
def We (a b:Int):Int:=bif Qi a 0 1000000000&&Qi b 1 1000000000 then(a+b - 1) / b else 0
theorem tk (K:Nat)(a b:Int):xe K a b=some (We a b):=by
 unfold xe We;rw[Xl,Xl,Z0];cases h1:Qi a 0 1000000000 with
 |false=>rfl
 |true=>
  cases h2:Qi b 1 1000000000 with
  |false=>rfl
  |true=>
   rw[V1]at h1 h2;simp only[Z0,cond_true,Bool.not_true,cond_false,Bool.and_self];rw[if_pos (by omega)];unfold Afg Ap Aly A4 Fp;rw[Xp (n:=a+b) (by omega),Xp (n:=a+b - 1) (by omega)];rw[Int.tdiv_eq_ediv_of_nonneg (by omega)];have h3:(a+b - 1) / b<=a+b - 1:=Int.ediv_le_self _ (by omega);have h4:0<=(a+b - 1) / b:=Int.ediv_nonneg (by omega) (by omega)
   grind [Vs]
def Yf (c:Sv)(mem:List Int)(k:Int):List Int:=(mem.drop (k*c.k).toNat).take c.k.toNat
def lc (c:Sv)(p:Pc)(k:Nat):Bool:=
 Qi (gt p.c k) 0 2&&((bif gt p.c k==1 then Qi (gt p.h k) 0 (c.l - 1)else gt p.h k== -1)&&(bif gt p.c k==0 then Wd (Yf c p.g k)else true))
def Xh (c:Sv)(p:Pc):Bool:=
 Vw c&&((p.g.length:Int)==Ws c&&((p.c.length:Int)==c.L&&((p.h.length:Int)==c.L&&(List.range c.L.toNat).all (lc c p))))
theorem Zq{c:Sv}{p:Pc}(h:Xh c p=true):Vw c=true/\(p.g.length:Int)=c.L*c.k/\(p.c.length:Int)=c.L/\(p.h.length:Int)=c.L/\ ∀k,k<c.L.toNat->lc c p k=true:=by
 simp_all[Xh,Ws]
theorem ld{c:Sv}(hc:Vw c=true){mem:List Int}(hm:(mem.length:Int)=c.L*c.k){k:Int}(h0:0<=k)(h1:k<c.L):
  Gx k c.k=k*c.k/\Gx (A4 k 1) c.k=k*c.k+c.k/\0<=k*c.k/\k*c.k+c.k<=(mem.length:Int):=by
 obtain⟨b1,b2,_⟩:=Gy hc;have m1:=Zp (a:=k) (b:=c.k) (m:=12) (n:=16) h0 (by omega) (by omega) b2.2;have e2:(k+1)*c.k=k*c.k+c.k:=by grind
 have m2:(k+1)*c.k<=c.L*c.k:=Int.mul_le_mul_of_nonneg_right (by omega) (by omega);rw[e2]at m2;refine⟨?_,?_,m1.1,by omega⟩
 all_goals grind [Gx,Ci,Vs,A4,Fp]
section
variable {K:Nat} (hK:2^48<=K)
include hK
theorem A6r{c:Sv}(hc:Vw c=true){p:Pc}(hm:(p.g.length:Int)=c.L*c.k){k:Int}(h0:0<=k)(h1:k<c.L):ss K p c k=some (Yf c p.g k):=by
 obtain⟨e1,e2,e3,e4⟩:=ld hc hm h0 h1;have b0:=Gy hc;unfold ss;rw[e1,e2,if_pos ⟨e3,by omega,e4⟩];unfold Yf
 grind
theorem A6s (c:Sv)(p:Pc):wq K c p=some (Xh c p):=by
 unfold wq;rw[dv,pq];simp only[Z0];cases hc:Vw c with
 |false=>simp[Xh,hc]
 |true=>
 have b0:=Gy hc;have hby:Ws c=c.L*c.k:=by rw[Ws,hc];rfl
 simp only[cond_true,Xh,hc,Z30,bne];cases h1:(p.g.length:Int)==Ws c with
 |false=>rfl
 |true=>
 cases h2:(p.c.length:Int)==c.L with
 |false=>rfl
 |true=>
 cases h3:(p.h.length:Int)==c.L with
 |false=>rfl
 |true=>
 rw[beq_iff_eq]at h1 h2 h3;have hN:((c.L.toNat:Nat):Int)=c.L:=by omega
 simp only[Bool.not_true,cond_false,Z30];rw[Yt hK c.L.toNat (by omega) (lc c p) (some true) (fun n i=>dq K c n i p.g p.c p.h) (fun n i h=> ?_) (fun n=> ?_)]
 ·grind
 ·obtain⟨e1,e2,e3,e4⟩:=ld hc (h1.trans hby) (k:=(i:Int)) (by omega) (by omega);have hl:(List.take (i*c.k+c.k - i*c.k).toNat (List.drop (i*c.k).toNat p.g)).length<=140737488355327:=by grind
  have hs:Ap c.l 1=c.l - 1:=by grind [Ap,Aly,Vs]
  have hck:List.take (i*c.k+c.k - i*c.k).toNat (List.drop (i*c.k).toNat p.g)=Yf c p.g i:=by
   unfold Yf;grind
  simp only[dq,rk,Ayz];rw[e1,e2,K0 (by omega),decide_eq_true (show(i:Int)<c.L by omega),cond_true,if_pos (by omega),Xl,Xl,hs,Abf hK _ (by omega),hck];simp only[Z0,bne,show((0:Int)<=(i:Int)/\(i:Int)<(p.c.length:Int))=True from eq_true ⟨by omega,by omega⟩,show((0:Int)<=(i:Int)/\(i:Int)<(p.h.length:Int))=True from eq_true ⟨by omega,by omega⟩,if_true,if_pos (show(0:Int)<=i*c.k/\(i:Int)*c.k<=i*c.k+c.k/\(i:Int)*c.k+c.k<=(p.g.length:Int) from⟨e3,by omega,e4⟩)];unfold lc
  grind
 ·show dq K c (n+1) _ _ _ _=_;simp_all[dq]
theorem Bco (c:Sv)(p:Pc):za K c p=some (Xh c p):=by
 unfold za;rw[A6p,A6q];simp only[Z0];cases hc:Vw c with
 |false=>simp[Xh,hc]
 |true=>
 have b0:=Gy hc;have hby:Ws c=c.L*c.k:=by rw[Ws,hc];rfl
 simp only[cond_true,Xh,hc,Z30,bne];cases h1:(p.g.length:Int)==Ws c with
 |false=>rfl
 |true=>
 cases h2:(p.c.length:Int)==c.L with
 |false=>rfl
 |true=>
 cases h3:(p.h.length:Int)==c.L with
 |false=>rfl
 |true=>
 rw[beq_iff_eq]at h1 h2 h3;have hN:((c.L.toNat:Nat):Int)=c.L:=by omega
 simp only[Bool.not_true,cond_false,Z30];rw[Yt hK c.L.toNat (by omega) (lc c p) (some true) (fun n i=>ci K c n p.c (p.c.length:Int) i p.g p.c p.h) (fun n i h=> ?_) (fun n=> ?_)]
 ·grind
 ·have hs:Ap c.l 1=c.l - 1:=by grind [Ap,Aly,Vs]
  have hl:(Yf c p.g i).length<=140737488355327:=by grind [Yf]
  simp only[ci,oz,A1j];rw[A6r hK hc (h1.trans hby) (by omega) (by omega),K0 (by omega),decide_eq_true (show(i:Int)<(p.c.length:Int)by omega),cond_true,if_pos (by omega),bb,bb,hs];simp only[Z0,A2z hK _ (show(Yf c p.g i).length<=140737488355328 by omega),bne,show((0:Int)<=(i:Int)/\(i:Int)<(p.h.length:Int))=True from eq_true ⟨by omega,by omega⟩,if_true];unfold lc
  grind
 ·show ci K c (n+1) _ _ _ _ _ _=_;simp_all[ci]
end
def bc (c:Sv)(t:H3):Prop:=Vw c=true/\1<=t.D/\0<=t.B/\t.B+t.D<=Ws c
instance (c t):Decidable (bc c t):=by unfold bc;infer_instance
def Xi (c:Sv)(t:H3):Bool:=
 decide (bc c t)&&(bif t.E==0 then decide (t.D<=c.k)&&(t.B / c.k==(t.B+t.D - 1) / c.k)else decide (t.D>c.k)&&(t.E==We t.D c.k&&t.B % c.k==0))
theorem Bcp (K:Nat){c:Sv}{t:H3}(h:bc c t):
  (bif (t.E==0)then(bif (decide (t.D<=c.k))then(if c.k≠(0:Int)then(if c.k≠(0:Int)then some ((Afg .i64 t.B c.k)==(Afg .i64 (Ap (A4 t.B t.D) 1) c.k))else none)else none)else some false)else((gb K c t.D).bind fun r2=>(bif r2 then((gd K c t.D).bind fun r3=>(bif (t.E==r3)then(if c.k≠(0:Int)then some ((Int.tmod t.B c.k)==0)else none)else some false))else some false)))=some (Xi c t):=by
 have hd:decide (bc c t)=true:=decide_eq_true h;obtain⟨hc,h1,h2,h3⟩:=h;have hb:=Aai c;have b0:=Gy hc;unfold Xi gb gd;rw[hd,if_pos (by omega),if_pos (by omega),tk];have e1:Ap (A4 t.B t.D) 1=t.B+t.D - 1:=by
  unfold Ap Aly A4 Fp;rw[Xp (n:=t.B+t.D) (by omega),Xp (by omega)]
 have e2: ∀x:Int,0<=x->x<=192->Afg .i64 x c.k=x / c.k:=by
  intro x h0 hx;unfold Afg;rw[Int.tdiv_eq_ediv_of_nonneg h0];have h3:x / c.k<=x:=Int.ediv_le_self _ h0;have h4:0<=x / c.k:=Int.ediv_nonneg h0 (by omega)
  grind [Vs]
 grind
theorem Bcq{c:Sv}{t:H3}(h: ¬bc c t):Xi c t=false:=by
 grind [Xi]
theorem Bcr (K:Nat)(c:Sv)(t:H3):rt K c t=some (Xi c t):=by
 have hb:=Aai c;by_cases h:bc c t
 ·rw[<-Bcp K h];obtain⟨hc,h1,h2,h3⟩:=h;unfold rt;rw[pq,Z0,Wn (by omega),decide_eq_false (by omega),decide_eq_false (by omega),decide_eq_false (by omega)];unfold Ap Aly;rw[Xp (by omega),decide_eq_false (show ¬t.D>Ws c - t.B by omega)];rfl
 ·rw[Bcq h];unfold rt;rw[pq,Z0];by_cases g0:Ws c=0
  ·grind
  ·have hc:Vw c=true:=by
    grind [Ws]
   rw[Wn g0,cond_false];by_cases g1:t.D<1
   ·grind
   ·by_cases g2:t.B<0
    ·grind
    ·by_cases g3:t.B>Ws c
     ·grind
     ·rw[decide_eq_false g1,decide_eq_false g2,decide_eq_false g3];unfold Ap Aly;rw[Xp (by omega),decide_eq_true (show t.D>Ws c - t.B from ?_)]
      ·rfl
      ·refine Classical.byContradiction fun g4=>h ⟨hc,by omega,by omega,by omega⟩
theorem Bcs (K:Nat)(c:Sv)(t:H3):sx K c t=some (Xi c t):=by
 have hb:=Aai c;by_cases h:bc c t
 ·rw[<-Bcp K h];obtain⟨hc,h1,h2,h3⟩:=h;unfold sx;rw[A6q,Z0,decide_eq_false (by omega),decide_eq_false (by omega),decide_eq_false (by omega)];unfold Ap Aly;rw[Xp (by omega),decide_eq_false (show ¬t.B>Ws c - t.D by omega)];rfl
 ·rw[Bcq h];unfold sx;rw[A6q,Z0];by_cases g1:t.D<=0
  ·grind
  ·by_cases g2:t.B<0
   ·grind
   ·by_cases g3:t.D>Ws c
    ·grind
    ·rw[decide_eq_false g1,decide_eq_false g2,decide_eq_false g3];have hc:Vw c=true:=by
      cases hc:Vw c with
      |true=>rfl
      |false=>simp_all[Ws]
     unfold Ap Aly;rw[Xp (by omega),decide_eq_true (show t.B>Ws c - t.D from ?_)]
     ·rfl
     ·refine Classical.byContradiction fun g4=>h ⟨hc,by omega,by omega,by omega⟩
theorem pr{α:Type}(l:List α)(i:Nat):(l.drop (0:Int).toNat).take ((i:Int) - 0).toNat=l.take i:=by simp
theorem Aef{i n:Nat}(h:i<=n):((0:Int)<=0/\(0:Int)<=(i:Int)/\(i:Int)<=(n:Int)):=by grind
def Xs (c:Sv)(l:List Int):Bool:=(List.range l.length).all (fun i=>Qi (gt l i) 0 (c.L - 1)&& !(l.take i).contains (gt l i))
def gz (n:Fy):Bool:=
 n.f==0&&(n.s==0&&(n.t==0&&(n.i==0&&(n.u==0&&(n.v==0&&((n.L.length:Int)==0&&(n.w==0&&(n.x==0&&((n.y.length:Int)==0&&(n.j.length:Int)==0)))))))))
theorem Br8 (K:Nat)(n):Aza K n=some (gz n):=by
 grind [Aza,gz]
theorem Br9{K:Nat}(hK:1<=K)(l:List Int):pb K l []=some ((l.length:Int)==0):=by
 obtain⟨k,rfl⟩: ∃k,K=k+1:=⟨K - 1,by omega⟩;cases l with
 |nil=>rfl
 |cons x l=>rfl
theorem Bsa{K:Nat}(hK:1<=K)(l:List H3):A5y K l []=some ((l.length:Int)==0):=by
 obtain⟨k,rfl⟩: ∃k,K=k+1:=⟨K - 1,by omega⟩;cases l with
 |nil=>rfl
 |cons x l=>rfl
theorem Bsb{K:Nat}(hK:1<=K)(n):A1l K n=some (gz n):=by
 simp_all[A1l,A5z,Yn,gz,Br9,Bsa]
def Zr (c:Sv)(n:Fy):Bool:=bif n.w==0 then n.x==0 else n.L.contains (Ap n.w 1)&&Qi n.x 0 c.k
def pt (c:Sv)(n:Fy):Bool:=
 (Qi n.s 0 c.l&&(Qi n.i 0 c.l&&(Qi n.u 0 c.l&&Qi n.v 0 c.l)))&&((!decide (n.f<0)&& !decide (n.t<0))&&((Xs c n.L&&Zr c n)&&((decide ((n.y.length:Int)<=12)&&decide ((n.j.length:Int)<=6))&&(n.j.all (fun x=>Qi x 0 255)&&n.y.all (Xi c)))))
def Wv (c:Sv)(n:Fy):Bool:=Vw c&&(Qi n.c 0 3&&(Qi n.a 1 c.n&&(bif n.c != 1 then gz n else pt c n)))
section
variable {K:Nat} (hK:2^48<=K)
include hK
theorem ia{c:Sv}(hc:Vw c=true):Ap c.L 1=c.L - 1:=by
 have b0:=Gy hc
 grind [Ap,Aly,Vs]
theorem Bct{c:Sv}(hc:Vw c=true)(l:List Int)(hl:l.length<=140737488355327):zd K c l=some (Xs c l):=by
 unfold zd;rw[Yt hK l.length (by omega) (fun i=>Qi (gt l i) 0 (c.L - 1)&& !(l.take i).contains (gt l i)) (some true) (fun n i=>pc K c l n l (l.length:Int) i) (fun n i h=> ?_) (fun n=> ?_)]
 ·grind [Xs]
 ·have hp:(l.take i).length<=140737488355328:=by grind
  simp only[pc];rw[Pz h,cond_true,if_pos (Gz h),bb,if_pos (Aef (by omega)),pr,A6o hK _ _ hp,K0 (by omega),ia hK hc]
  grind
 ·show pc K c l (n+1) _ _ _=_;simp_all[pc]
theorem Bsc{c:Sv}(hc:Vw c=true)(n:Fy)(hl:n.L.length<=140737488355327):Azb K c n=some (Xs c n.L&&Zr c n):=by
 unfold Azb;rw[Yt hK n.L.length (by omega) (fun i=>Qi (gt n.L i) 0 (c.L - 1)&& !(n.L.take i).contains (gt n.L i)) (some (Zr c n)) (fun k i=>nm K c k i n.c n.a n.f n.s n.t n.i n.u n.v n.L n.w n.x n.y n.j) (fun k i h=> ?_) (fun k=> ?_)]
 ·rw[Yn];rfl
 ·have hp:(n.L.take i).length<=140737488355328:=by grind
  simp only[nm];rw[Pz h,cond_true,if_pos (Gz h),Xl,if_pos (Aef (by omega)),pr,gy hK _ _ hp,K0 (by omega),ia hK hc]
  grind
 ·show nm K c (k+1) _ _ _ _ _ _ _ _ _ _ _ _ _ _=_;rw[nm,Wu (Z9 _),cond_false,gy hK _ _ (by omega),Xl];unfold Zr
  grind
theorem A6t (l:List Int)(hl:l.length<=140737488355328):sw K l=some (l.all (fun x=>Qi x 0 255)):=by
 unfold sw A53 A52;rw[tj hK l hl (A1m K) (fun x=> !Qi x 0 255) (fun x _=>by simp[A1m,bb]) (A1n K l) (fun n N i=>rfl)]
 grind
theorem pu (c:Sv)(n:Fy)(h1:n.L.length<=140737488355327)(h2:n.y.length<=140737488355327)(h3:n.j.length<=140737488355327):gf K c n=some (Wv c n):=by
 unfold gf;rw[dv,Br8];simp only[Z0,Xl];cases hc:Vw c with
 |false=>simp[Wv,hc]
 |true=>
 rw[Bsc hK hc n h1];have hA:nn K n.j K 0=some (n.j.all (fun x=>Qi x 0 255)):=by
  rw[Zi hK n.j (by omega) (fun x=>Qi x 0 255) (some true) (nn K n.j) (fun k i h=> ?_) (fun k=> ?_)]
  ·grind
  ·rw[nn,Pz h,cond_true,if_pos (Gz h),K1 h,Xl,K0 (by omega),Z0,Wl]
  simp_all[nn]
 have hB:jw K c K 0 n.c n.a n.f n.s n.t n.i n.u n.v n.L n.w n.x n.y n.j=some (n.j.all (fun x=>Qi x 0 255)&&n.y.all (Xi c)):=by
  rw[Zi hK n.y (by omega) (Xi c) (some (n.j.all (fun x=>Qi x 0 255))) (fun k i=>jw K c k i n.c n.a n.f n.s n.t n.i n.u n.v n.L n.w n.x n.y n.j) (fun k i h=> ?_) (fun k=> ?_)]
  ·grind
  ·simp only[jw];rw[Pz h,cond_true,if_pos (Gz h),K1 h,Bcr,K0 (by omega),Z0,Wl]
  ·show jw K c (k+1) _ _ _ _ _ _ _ _ _ _ _ _ _ _=_;simp_all[jw]
 rw[hB];have e12:decide ((n.y.length:Int)>12)= !decide ((n.y.length:Int)<=12):=by grind
 have e6:decide ((n.j.length:Int)>6)= !decide ((n.j.length:Int)<=6):=by grind
 simp only[Z0,cond_true,e12,e6,Wl,Yn,Bcm];unfold Wv pt
 grind
theorem Bsd (c:Sv)(n:Fy)(h1:n.L.length<=140737488355327)(h2:n.y.length<=140737488355327)(h3:n.j.length<=140737488355327):A1q K c n=some (Wv c n):=by
 unfold A1q;rw[A6p,Bsb (by omega)];simp only[Z0,bb];cases hc:Vw c with
 |false=>simp[Wv,hc]
 |true=>
 have hT:A55 K n.y c=some (n.y.any (fun t=> !Xi c t)):=
  tj hK n.y (by omega) (fun t=>A1o K t c) (fun t=> !Xi c t) (fun x _=>by simp[A1o,Bcs]) (A1p K n.y c) (fun n N i=>rfl)
 have hJ:pd K c n.y n.j=some ((decide ((n.y.length:Int)<=12)&&decide ((n.j.length:Int)<=6))&&(n.j.all (fun x=>Qi x 0 255)&&n.y.all (Xi c))):=by
  unfold pd;rw[hT,A6t hK _ (by omega)];simp only[Z0,Yn,List.not_any_eq_all_not,Bool.not_not,Z7]
  ac_rfl
 have b0:=Gy hc;have hB:kw K c K ([n.s,n.i,n.u,n.v]:List Int) (([n.s,n.i,n.u,n.v]:List Int).length:Int) 0 n.c n.a n.f n.s n.t n.i n.u n.v n.L n.w n.x n.y n.j=some (pt c n):=by
  rw[Zi hK ([n.s,n.i,n.u,n.v]:List Int) (by simp) (fun x=>Qi x 0 c.l) (some ((!decide (n.f<0)&& !decide (n.t<0))&&((Xs c n.L&&Zr c n)&&((decide ((n.y.length:Int)<=12)&&decide ((n.j.length:Int)<=6))&&(n.j.all (fun x=>Qi x 0 255)&&n.y.all (Xi c)))))) (fun k i=>kw K c k ([n.s,n.i,n.u,n.v]:List Int) (([n.s,n.i,n.u,n.v]:List Int).length:Int) i n.c n.a n.f n.s n.t n.i n.u n.v n.L n.w n.x n.y n.j) (fun k i h=> ?_) (fun k=> ?_)]
  ·simp_all[pt,Yn]
  ·simp only[kw];rw[Pz h,cond_true,if_pos (Gz h),K1 h,bb,K0 (by grind),Z0,Wl]
  ·show kw K c (k+1) _ _ _ _ _ _ _ _ _ _ _ _ _ _ _ _=_;rw[kw,Wu (Z9 _),cond_false,hJ,Bct hK hc _ h1,A6o hK _ _ (by omega),bb];simp only[Z0,bne,Wl,Yn,Bcm];unfold Zr;have hz:(n.x==0)=true->Qi n.x 0 c.k=true:=by
    intro h;rw[beq_iff_eq]at h;rw[V1];omega
   grind
 rw[hB];simp only[cond_true,Wl,Yn];unfold Wv
 grind
end
theorem Bcu{α β:Type}(l:List α)(q:α->Bool)(fin bad:Option β)(L:Nat->Int->Option β)
  (hs: ∀n (i:Nat) (h:i<l.length),L (n+1) (i:Int)=bif q l[i]then L n ((i+1:Nat):Int)else bad)
  (he: ∀n,L (n+1) (l.length:Int)=fin):
  ∀(n i:Nat),i<=l.length->l.length - i<n->L n (i:Int)=bif (l.drop i).all q then fin else bad:=by
 intro n;induction n with
 |zero=>omega
 |succ n ih=>
  intro i hi hn;rcases Bj i l.length with h|h
  ·rw[hs n i h,Z47 h,Bb];cases q l[i]with
   |false=>rfl
   |true=>grind
  grind
theorem Bse{β:Type}{K:Nat}(hK:2^48<=K)(N:Nat)(hl:N<=140737488355328)(q:Nat->Bool)(fin bad:Option β)(L:Nat->Int->Option β)
  (hs: ∀n (i:Nat) (h:i<N),L (n+1) (i:Int)=bif q i then L n ((i+1:Nat):Int)else bad)
  (he: ∀n,L (n+1) (N:Int)=fin):L K 0=bif (List.range N).all q then fin else bad:=by
 have:=Bcu (List.range N) q fin bad L (fun n i h=>by grind) (fun n=>by grind) K 0 (Hc _) (by grind)
 grind
def cz (t:H3):Prop:=0<=t.B/\t.B<=200/\0<=t.D/\t.D<=200
theorem tm{c:Sv}{t:H3}(h:Xi c t=true):cz t/\bc c t:=by
 have h1:bc c t:=by
  unfold Xi at h
  grind
 have hb:=Aai c;obtain⟨h2,h3,h4,h5⟩:=h1;exact⟨⟨h4,by omega,by omega,by omega⟩,h2,h3,h4,h5⟩
def Ww (a b:H3):Bool:=decide (a.D<=0\/b.D<=0\/a.B+a.D<=b.B\/b.B+b.D<=a.B)
theorem Bsf (a b:H3):Ww a b=Ww b a:=by
 unfold Ww
 grind
theorem Bsg (K:Nat){a b:H3}(ha:cz a)(hb:cz b):Az6 K a b=some (Ww a b):=by
 obtain⟨a1,a2,a3,a4⟩:=ha;obtain⟨b1,b2,b3,b4⟩:=hb;unfold Az6 Ap Aly;rw[Xp (n:=b.B - a.B) (by omega),Xp (n:=a.B - b.B) (by omega)];simp only[cr];have: ∀x:Bool,x=Ww a b->some x=some (Ww a b):=fun x h=>by rw[h]
 by_cases h:a.B<=b.B
 ·rw[decide_eq_true h,cond_true,cr,cr];refine this _ ?_;rw[Bool.eq_iff_iff];simp only[Ww,Bool.or_eq_true,decide_eq_true_eq];omega
 ·rw[decide_eq_false h,cond_false,cr,cr];refine this _ ?_;rw[Bool.eq_iff_iff];simp only[Ww,Bool.or_eq_true,decide_eq_true_eq];omega
theorem Bcv (K:Nat){a b:H3}(ha:cz a)(hb:cz b):zg K a b=some (Ww a b):=by
 obtain⟨a1,a2,a3,a4⟩:=ha;obtain⟨b1,b2,b3,b4⟩:=hb;unfold zg A1v Aly;simp only[IntKind.wrap_u64];have: ∀x:Bool,x=Ww a b->some x=some (Ww a b):=fun x h=>by rw[h]
 by_cases h:a.B>b.B
 ·rw[decide_eq_true h,cond_true,cr,cr];refine this _ ?_;rw[Bool.eq_iff_iff];simp only[Ww,Bool.or_eq_true,decide_eq_true_eq];omega
 ·rw[decide_eq_false h,cond_false,cr,cr];refine this _ ?_;rw[Bool.eq_iff_iff];simp only[Ww,Bool.or_eq_true,decide_eq_true_eq];omega
def Y8 (l:List H3):Bool:=(List.range l.length).all (fun i=>(l.take i).all (fun o=>Ww o (gt l i)))
def Xa (c:Sv)(chunks:List Int)(t:H3):Bool:=
 Xi c t&&(List.range ((t.B+t.D - 1) / c.k - t.B / c.k+1).toNat).all (fun j=>chunks.contains (t.B / c.k+(j:Int)))
theorem Bcw{c:Sv}{t:H3}(h:Xi c t=true):
  c.k≠0/\Afg .i64 t.B c.k=t.B / c.k/\Afg .i64 (Ap (A4 t.B t.D) 1) c.k=(t.B+t.D - 1) / c.k/\0<=t.B / c.k/\t.B / c.k<=(t.B+t.D - 1) / c.k/\(t.B+t.D - 1) / c.k<=192:=by
 obtain⟨hs,hc,h1,h2,h3⟩:=tm h;have hb:=Aai c;have b0:=Gy hc;have e1:Ap (A4 t.B t.D) 1=t.B+t.D - 1:=by
  unfold Ap Aly A4 Fp;rw[Xp (n:=t.B+t.D) (by omega),Xp (by omega)]
 have e2: ∀x:Int,0<=x->x<=192->Afg .i64 x c.k=x / c.k/\0<=x / c.k/\x / c.k<=192:=by
  intro x h0 hx;have h3:x / c.k<=x:=Int.ediv_le_self _ h0;have h4:0<=x / c.k:=Int.ediv_nonneg h0 (by omega)
  grind [Afg,Vs]
 obtain⟨x1,x2,x3⟩:=e2 t.B h2 (by omega);obtain⟨y1,y2,y3⟩:=e2 (t.B+t.D - 1) (by omega) (by omega);refine⟨by omega,x1,by grind,x2,Int.ediv_le_ediv (by omega) (by omega),y3⟩
theorem Bcx{a:Int}{j:Nat}(h0:0<=a)(h:a+j<=140737488355328):A4 (a+(j:Int)) 1=a+((j+1:Nat):Int):=by
 grind [A4,Fp,Vs]
section
variable {K:Nat} (hK:2^48<=K)
include hK
theorem Bsh (l:List H3)(hl:l.length<=140737488355327)(hs: ∀t∈l,cz t):Az7 K l=some (Y8 l):=by
 unfold Az7 Y8;rw[Yt hK l.length (by omega) (fun i=>(l.take i).all (fun o=>Ww o (gt l i))) (some true) (fun n i=>gm K l n i) (fun n i h=> ?_) (fun n=> ?_)]
 ·grind
 ·simp only[gm];rw[Pz h,cond_true];have hlen:(l.take i).length=i:=by grind
  rw[Zi hK (l.take i) (by omega) (fun o=>Ww o (gt l i)) (gm K l n (A4 i 1)) (fun m j=>oe K l i (gm K l n) m j) (fun m j hj=> ?_) (fun m=> ?_)]
  ·grind [K0]
  ·have hj':j<i:=by omega
   simp only[oe];rw[Pz hj',cond_true,if_pos (Gz h),if_pos (Gz (show j<l.length by omega)),Bsg K (hs _ (Xe h)) (hs _ (Xe (show j<l.length by omega))),Z0,Wl,K0 (by omega),Bsf,List.getElem_take,K1 (show j<l.length by omega)]
  ·show oe K l i _ (m+1) _=_;simp_all[oe]
 ·show gm K l (n+1) _=_;simp_all[gm]
theorem Bsi (l:List H3)(hl:l.length<=140737488355327)(hs: ∀t∈l,cz t):A1y K l=some (Y8 l):=by
 unfold A1y Y8;rw[Yt hK l.length (by omega) (fun i=>(l.take i).all (fun o=>Ww o (gt l i))) (some true) (fun n i=>pf K l n l (l.length:Int) i) (fun n i h=> ?_) (fun n=> ?_)]
 ·grind
 ·simp only[pf];have hlen:(l.take i).length=i:=by grind
  have hC:A59 K (l.take i) (gt l i)=some ((l.take i).any (fun o=> !Ww o (gt l i))):=
   tj hK (l.take i) (by omega) (fun t=>A1w K t (gt l i)) (fun o=> !Ww o (gt l i)) (fun x hx=>by
    grind [A1w,Bcv,Xe]) (A1x K (l.take i) (gt l i)) (fun n N i=>rfl)
  rw[Pz h,cond_true,if_pos (Gz h),if_pos (Aef (by omega)),pr,hC,K0 (by omega),Z0,List.any_eq_not_all_not,Wl]
  grind
 ·show pf K l (n+1) _ _ _=_;simp_all[pf]
theorem Bsj (c:Sv)(n:Fy)(h1:n.L.length<=140737488355327)(h2:n.y.length<=140737488355327):A1u K c n=some (n.y.all (Xa c n.L)):=by
 unfold A1u;have h1t: ∀t,zf K t c n=some (!Xa c n.L t):=by
  intro t;unfold zf Xa;rw[Bcs,Z0,Wl];cases ht:Xi c t with
  |false=>rfl
  |true=>
   obtain⟨d0,d1,d2,d3,d4,d5⟩:=Bcw ht;rw[cond_true,if_pos d0,d1];have:=Bse hK ((t.B+t.D - 1) / c.k - t.B / c.k+1).toNat (by omega) (fun j=>n.L.contains (t.B / c.k+(j:Int))) (some false) (some true) (fun m j=>pe K t c n m (t.B / c.k+j)) (fun m j hj=> ?_) (fun m=> ?_)
   ·grind
   ·simp only[pe];rw[if_pos d0,d2,decide_eq_true (by omega),cond_true,A6o hK _ _ (by omega),Z0,Wl,Bcx d3 (by omega)]
   ·show pe K t c n (m+1) _=_;rw[pe,if_pos d0,d2,decide_eq_false (by omega),cond_false]
 have hC:A58 K n.y c n=some (n.y.any (fun t=> !Xa c n.L t)):=
  tj hK n.y (by omega) (fun t=>zf K t c n) (fun t=> !Xa c n.L t) (fun x _=>h1t x) (A1t K n.y c n) (fun n N i=>rfl)
 grind
theorem Bsk (c:Sv)(n:Fy)(h1:n.L.length<=140737488355327)(h2:n.y.length<=140737488355327):Az5 K c n=some (n.y.all (Xa c n.L)):=by
 unfold Az5;rw[Zi hK n.y (by omega) (Xa c n.L) (some true) (fun k i=>gk K c k i n.c n.a n.f n.s n.t n.i n.u n.v n.L n.w n.x n.y n.j) (fun k i h=> ?_) (fun k=> ?_)]
 ·grind
 ·simp only[gk];rw[Pz h,cond_true,if_pos (Gz h),K1 h,Bcr,Z0,Wl];unfold Xa;generalize n.y[i]=t;cases ht:Xi c t with
  |false=>rfl
  |true=>
   obtain⟨d0,d1,d2,d3,d4,d5⟩:=Bcw ht;rw[cond_true,if_pos d0,d1,Z30];have:=Yt hK ((t.B+t.D - 1) / c.k - t.B / c.k+1).toNat (by omega) (fun j=>n.L.contains (t.B / c.k+(j:Int))) (gk K c k ((i+1:Nat):Int) n.c n.a n.f n.s n.t n.i n.u n.v n.L n.w n.x n.y n.j)
    (fun m j=>od K c i n.c n.a n.f n.s n.t n.i n.u n.v n.L n.w n.x n.y n.j (gk K c k) m (t.B / c.k+j) t) (fun m j hj=> ?_) (fun m=> ?_)
   ·grind
   ·simp only[od];rw[if_pos d0,d2,decide_eq_true (by omega),cond_true,gy hK _ _ (by omega),Z0,Wl,Bcx d3 (by omega)]
   ·show od K c i _ _ _ _ _ _ _ _ _ _ _ _ _ _ (m+1) _ _=_;rw[od,if_pos d0,d2,decide_eq_false (by omega),cond_false,K0 (by omega)]
 ·show gk K c (k+1) _ _ _ _ _ _ _ _ _ _ _ _ _ _=_;simp_all[gk]
end
def wfi (x:Int):Prop:= -9223372036854775808<=x/\x<=9223372036854775807
def Y0 (l:List Int):Prop:=(∀x∈l,wfi x)/\l.length*8<=140737488355327
def A6u (l:List Int):Prop:=(∀x∈l,0<=x/\x<=255)/\l.length<=140737488355327
def ThingW (t:H3):Prop:=wfi t.B/\wfi t.D/\wfi t.E
def A6v (l:List H3):Prop:=(∀x∈l,ThingW x)/\l.length*24<=140737488355327
structure Wo (n:Fy):Prop where
 st:wfi n.c
 gen:wfi n.a
 ep:wfi n.f
 up:wfi n.s
 upEp:wfi n.t
 first:wfi n.i
 next:wfi n.u
 prev:wfi n.v
 chunks:Y0 n.L
 cur:wfi n.w
 bump:wfi n.x
 things:A6v n.y
 tags:Y0 n.j
def V2 (l:List Fy):Prop:=(∀x∈l,Wo x)/\l.length*152<=140737488355327
structure Zj (x:G9):Prop where
 slot:wfi x.d
 first:wfi x.i
 tags:Y0 x.j
 chunks:Y0 x.L
 done:wfi x.z
def A20 (l:List G9):Prop:=(∀x∈l,Zj x)/\l.length*72<=140737488355327
structure ConfW (c:Sv):Prop where
 chunks:wfi c.L
 size:wfi c.k
 slots:wfi c.l
 tax:wfi c.e
 slice:wfi c.m
 gens:wfi c.n
structure X1 (p:Pc):Prop where
 mem:A6u p.g
 st:Y0 p.c
 own:Y0 p.h
structure Wa (w:H4):Prop where
 c:ConfW w.C
 p:X1 w.Q
 l:V2 w.o
 q:A20 w.p
 log:Y0 w.q
theorem V8:140737488355328<=maxLen:=by unfold maxLen;omega
theorem A6w{α:Type}(x:Option α):Aag x x=x:=by simp[Aag]
theorem dx (K:Nat){l:List Int}(h:l.length*8<=140737488355327):ah K l=some l:=by
 have hm:=V8;unfold ah;rw[Hd,if_pos (by omega)]
 grind [A6w]
theorem Bsl (K:Nat){l:List Int}(h:l.length<=140737488355327):A1b K l=some l:=by
 have hm:=V8;unfold A1b;rw[Hd,if_pos (by omega)]
 grind [A6w]
theorem Bsm (K:Nat){l:List H3}(h:l.length*24<=140737488355327):A1c K l=some l:=by
 have hm:=V8;unfold A1c;rw[Hd,if_pos (by omega)]
 grind [A6w]
theorem Bcy{α:Type}(N:Nat)(q:Nat->Bool)(g:Nat->α)(L:Nat->List α->Int->Option (List α))
  (hs: ∀n v (i:Nat),i<N->v.length<=i->L (n+1) v (i:Int)=bif q i then L n (v++[g i]) ((i+1:Nat):Int)else L n v ((i+1:Nat):Int))
  (he: ∀n v,L (n+1) v (N:Int)=some v):
  ∀(n i:Nat) (v:List α),i<=N->v.length<=i->N - i<n->L n v (i:Int)=some (v++(((List.range N).drop i).filter q).map g):=by
 intro n;induction n with
 |zero=>omega
 |succ n ih=>
  intro i v hi hv hn;rcases Bj i N with h|h
  ·rw[hs n v i h hv,Z47 (by grind),List.getElem_range,List.filter_cons]
   grind
  grind [List.drop_eq_nil_of_le]
def Yu (p:Pc)(k:Int):List Int:=((List.range (min p.c.length p.h.length)).filter (fun i:Nat=>gt p.c i==1&&gt p.h i==k)).map (fun i:Nat=>(i:Int))
theorem Bsn (p:Pc)(k:Int):(Yu p k).length<=min p.c.length p.h.length:=by
 grind [Yu]
theorem A6x (p:Pc)(k:Int):(Yu p k).Pairwise (fun a b=>a<b):=by
 grind [Yu,List.pairwise_lt_range]
theorem Bcz{l:List Int}: ∀ {o:List Int},o.Nodup->(∀x∈o,x∈l)->o.length=l.length->o.Perm l:=by
 intro o;induction o generalizing l with
 |nil=>grind
 |cons x o ih=>
  intro hn hs hl;have hx:x∈l:=hs x (by simp);rw[List.nodup_cons]at hn;have h2:o.Perm (l.erase x):=ih hn.2 (fun y hy=>by
   grind) (by grind)
  grind [List.perm_cons_erase]
def lf (p:Pc)(k:Int)(l:List Int):Bool:=(Yu p k).all (fun x=>l.contains x)&&((Yu p k).length:Int)==(l.length:Int)
theorem Bso (p:Pc)(k:Int)(l:List Int):decide (l.mergeSort (fun x y=>decide (x<=y))=Yu p k)=lf p k l:=by
 rw[Bool.eq_iff_iff];unfold lf;simp only[decide_eq_true_eq,Z4,Z1,List.contains_iff_mem,beq_iff_eq];have hp:=List.mergeSort_perm l (fun x y=>decide (x<=y));constructor
 ·intro e;rw[e]at hp;exact⟨fun x hx=>hp.mem_iff.1 hx,by have:=hp.length_eq;omega⟩
 ·rintro⟨h1,h2⟩
  have hn:(Yu p k).Nodup:=(A6x p k).imp fun h=>by omega
  have h3:=Bcz hn h1 (by omega);refine List.Perm.eq_of_pairwise (le:=fun a b=>a<=b) (fun a b _ _ h1 h2=>by omega) ?_ ((A6x p k).imp fun h=>by omega) (hp.trans h3.symm)
  grind [List.pairwise_mergeSort]
theorem Bsp{a b:List Int}(h:a.length=b.length):(List.range a.length).all (fun i=>gt a i==gt b i)=decide (a=b):=by
 rw[Bool.eq_iff_iff];simp only[Z1,List.mem_range,beq_iff_eq,decide_eq_true_eq]
 grind [List.ext_getElem,K1]
section
variable {K:Nat} (hK:2^48<=K)
include hK
theorem Bsq (a b:List Int)(ha:a.length<=140737488355327):pb K a b=some (decide (a=b)):=by
 unfold pb;by_cases h:a.length=b.length
 ·rw[show((a.length:Int) != (b.length:Int))=false by simp[h],cond_false,<-Bsp h];rw[Yt hK a.length (by omega) (fun i=>gt a i==gt b i) (some true) (fun n i=>pa K a b n (a.length:Int) i) (fun n i hi=> ?_) (fun n=> ?_)]
  ·grind
  ·simp only[pa];rw[Pz hi,cond_true,if_pos (Gz hi),if_pos (Gz (show i<b.length by omega)),K0 (by omega),bne,Wl]
  ·show pa K a b (n+1) _ _=_;simp_all[pa.eq_2]
 ·rw[Ym (by omega),cond_true,decide_eq_false (fun e=>h (by rw[e]))]
theorem Bc0 (p:Pc)(k:Int)(h1:p.c.length*8<=140737488355327):wm K p k=some (Yu p k):=by
 have hm:=V8;unfold wm;have:=Bcy (min p.c.length p.h.length) (fun i:Nat=>gt p.c i==1&&gt p.h i==k) (fun i:Nat=>(i:Int)) (fun n v i=>ga K k n v i p.g p.c p.h) (fun n v i hi hv=> ?_) (fun n v=> ?_) K 0 [] (Hc _) (Z9 _) (by omega)
 ·assumption
 ·have h2:(v++([(i:Int)]:List Int)).length=v.length+1:=by simp
  simp only[ga,wl];rw[Pz (by omega),Pz (by omega),cond_true,cond_true,if_pos (Gz (by omega)),if_pos (Gz (by omega)),K0 (by omega),if_pos (by omega)]
  grind
 ·show ga K k (n+1) v _ _ _ _=_;rw[ga]
  grind
theorem Bsr (p:Pc)(k:Int)(h1:p.c.length*8<=140737488355327):A1r K p k=some (Yu p k):=by
 have hm:=V8;unfold A1r;have e:M6 (p.c.length:Int) (p.h.length:Int)=((min p.c.length p.h.length:Nat):Int):=by grind [M6]
 rw[e];have:=Bcy (min p.c.length p.h.length) (fun i:Nat=>gt p.c i==1&&gt p.h i==k) (fun i:Nat=>(i:Int)) (fun n v i=>gu K k n v ((min p.c.length p.h.length:Nat):Int) i p.g p.c p.h) (fun n v i hi hv=> ?_) (fun n v=> ?_) K 0 [] (Hc _) (Z9 _) (by omega)
 ·assumption
 ·have h2:(v++([(i:Int)]:List Int)).length=v.length+1:=by simp
  simp only[gu,ze];rw[Pz hi,cond_true,if_pos (Gz (by omega)),if_pos (Gz (by omega)),K0 (by omega),if_pos (by omega)]
  grind
 ·show gu K k (n+1) v _ _ _ _ _=_;simp_all[gu]
theorem Bss (w:H4)(k:Nat)(hk:k<w.o.length)(h1:w.Q.c.length*8<=140737488355327)(h2:(gt w.o k).L.length<=140737488355327):Az4 K w k=some (lf w.Q k (gt w.o k).L):=by
 unfold Az4;rw[Bc0 hK _ _ h1,Z0];have hl:=Bsn w.Q k;rw[Zi hK (Yu w.Q k) (by omega) (fun x=>(gt w.o k).L.contains x) (some (((Yu w.Q k).length:Int)==((gt w.o k).L.length:Int))) (fun n i=>oc K k (Yu w.Q k) n i w.C.L w.C.k w.C.l w.C.e w.C.m w.C.n w.Q.g w.Q.c w.Q.h w.o w.p w.q) (fun n i hi=> ?_) (fun n=> ?_)]
 ·rw[Yn];rfl
 ·simp only[oc];rw[Pz hi,cond_true,if_pos (Gz hk),if_pos (Gz hi),gy hK _ _ (by omega),Z0,Wl,K0 (by omega),K1 hi]
 ·show oc K k (Yu w.Q k) (n+1) _ _ _ _ _ _ _ _ _ _ _ _ _=_;simp_all[oc]
end
def Xy (c:Sv)(n:Fy):H3:=H3.mk ((n.w - 1)*c.k+n.x) (c.k - n.x) 0
def X7 (c:Sv)(mem:List Int)(n:Fy):Bool:=
 n.w==0||(Wd ((mem.drop (Xy c n).B.toNat).take (Xy c n).D.toNat)&&n.y.all (fun t=>Ww t (Xy c n)))
theorem Bst{c:Sv}{n:Fy}(h:Wv c n=true)(h1:n.c=1):Vw c=true/\pt c n=true:=by
 simp_all[Wv]
theorem Bc1{c:Sv}{n:Fy}(h:Wv c n=true)(h1:n.c≠1):gz n=true:=by
 simp_all[Wv]
theorem Bsu{c:Sv}{n:Fy}(hw:Wo n)(h:Wv c n=true)(h1:n.w≠0):n.c=1/\1<=n.w/\n.w<=c.L/\0<=n.x/\n.x<=c.k:=by
 by_cases h2:n.c=1
 ·refine⟨h2,?_⟩;obtain⟨hc,hl⟩:=Bst h h2;have b0:=Gy hc;unfold pt at hl;simp only[Z4]at hl;have hd:=hl.2.2.1.1;have hcu:=hl.2.2.1.2;unfold Zr at hcu;rw[Wn h1,cond_false,Z4,List.contains_iff_mem,V1]at hcu;obtain⟨i,hi,e⟩:=List.mem_iff_getElem.1 hcu.1;unfold Xs at hd;rw[Z1]at hd;have:=hd i (by grind);rw[Z4,K1 hi,e,V1]at this;have h3:=this.1;obtain⟨w1,w2⟩:=hw.cur;unfold Ap Aly at h3;rw[IntKind.wrap_i64]at h3;omega
 ·have:=Bc1 h h2;simp_all[gz]
theorem Bc2{c:Sv}{p:Pc}{n:Fy}(hp:Xh c p=true)(hw:Wo n)(h:Wv c n=true)(h1:n.w≠0):
  A4 (Gx (Ap n.w 1) c.k) n.x=(Xy c n).B/\Ap c.k n.x=(Xy c n).D/\Gx n.w c.k=(Xy c n).B+(Xy c n).D/\cz (Xy c n)/\(Xy c n).B+(Xy c n).D<=(p.g.length:Int):=by
 obtain⟨h2,c1,c2,c3,c4⟩:=Bsu hw h h1;obtain⟨hc,hm,_⟩:=Zq hp;obtain⟨b1,b2,_⟩:=Gy hc;have m1:=Zp (a:=n.w - 1) (b:=c.k) (m:=11) (n:=16) (by omega) (by omega) (by omega) b2.2;have e2:n.w*c.k=(n.w - 1)*c.k+c.k:=by grind
 have m2:n.w*c.k<=c.L*c.k:=Int.mul_le_mul_of_nonneg_right (by omega) (by omega);unfold Xy cz A4 Fp Ap Aly Gx Ci;simp only;rw[Xp (n:=n.w - 1) (by omega),Xp (n:=(n.w - 1)*c.k) (by omega),Xp (n:=(n.w - 1)*c.k+n.x) (by omega),Xp (n:=c.k - n.x) (by omega),Xp (n:=n.w*c.k) (by omega)];omega
theorem Bc3{c:Sv}{l:List H3}{ch:List Int}(h:l.all (Xa c ch)=true): ∀t∈l,cz t/\1<=t.D:=by
 intro t ht;rw[Z1]at h;have:=h t ht;unfold Xa at this;rw[Z4]at this;obtain⟨h1,h2⟩:=tm this.1;exact⟨h1,h2.2.1⟩
def ib (w:H4)(k:Nat):Bool:=
 Wv w.C (gt w.o k)&&(lf w.Q k (gt w.o k).L&&((gt w.o k).y.all (Xa w.C (gt w.o k).L)&&(Y8 (gt w.o k).y&&X7 w.C w.Q.g (gt w.o k))))
section
variable {K:Nat} (hK:2^48<=K)
include hK
theorem Yj{l:List Int}(h:Y0 l):l.length<=140737488355327:=by have:=h.2;omega
theorem A21{l:List H3}(h:A6v l):l.length<=140737488355327:=by have:=h.2;omega
theorem Bsv (w:H4)(k:Nat)(hk:k<w.o.length)(hp:Xh w.C w.Q=true)(hw:Wo (gt w.o k))(hn:Wv w.C (gt w.o k)=true)(hs: ∀t∈(gt w.o k).y,cz t/\1<=t.D):Az9 K w k=some (X7 w.C w.Q.g (gt w.o k)):=by
 unfold Az9;rw[if_pos (Gz hk)];unfold X7;by_cases h1:(gt w.o k).w=0
 ·grind
 ·rw[Wn h1,cond_false];obtain⟨e1,e2,e3,⟨s1,s2,s3,s4⟩,s5⟩:=Bc2 hp hw hn h1;rw[e1,e3];generalize hr:Xy w.C (gt w.o k)=r at *;rcases (show r.D=0\/1<=r.D by omega)with h2|h2
  ·rw[decide_eq_true (show r.B>=r.B+r.D by omega),cond_true,h2];simp_all[Ww,Wd]
  ·rw[decide_eq_false (show ¬r.B>=r.B+r.D by omega),cond_false];have hlt:=A21 hK hw.things;have hz:List.take (r.B+r.D - r.B).toNat (List.drop r.B.toNat w.Q.g)=List.take r.D.toNat (List.drop r.B.toNat w.Q.g):=by grind
   rw[Zi hK (gt w.o k).y (by omega) (fun t=>Ww t r) (some (Wd (List.take r.D.toNat (List.drop r.B.toNat w.Q.g)))) (fun m i=>km K m r.B (r.B+r.D) i (gt w.o k).c (gt w.o k).a (gt w.o k).f (gt w.o k).s (gt w.o k).t (gt w.o k).i (gt w.o k).u (gt w.o k).v (gt w.o k).L (gt w.o k).w (gt w.o k).x (gt w.o k).y (gt w.o k).j w.C.L w.C.k w.C.l w.C.e w.C.m w.C.n w.Q.g w.Q.c w.Q.h w.o w.p w.q) (fun m i hi=> ?_) (fun m=> ?_)]
   ·grind
   ·simp only[km,Az8];obtain⟨⟨t1,t2,t3,t4⟩,t5⟩:=hs _ (Xe hi);rw[Pz hi,cond_true,if_pos (Gz hi),K0 (by omega),<-K1 hi];generalize gt (gt w.o k).y i=t at *;unfold A4 Fp;rw[Xp (n:=t.B+t.D) (by omega)];unfold Ww
    grind
   ·show km K (m+1) _ _ _ _ _ _ _ _ _ _ _ _ _ _ _ _ _ _ _ _ _ _ _ _ _ _ _ _=_;rw[km,Wu (Z9 _),cond_false,if_pos ⟨s1,by omega,s5⟩,Abf hK _ (by grind),hz,Z0]
theorem Bsw (l:List Int)(h:Y0 l):Aix K l=some (l.mergeSort fun x y=>decide (x<=y)):=by
 have:=h.2;unfold Aix
 grind
theorem Bsx (w:H4)(hw:Wa w)(hp:Xh w.C w.Q=true):A12 K w=some ((List.range w.o.length).all (ib w)):=by
 unfold A12;have hlL:=hw.l.2;rw[Yt hK w.o.length (by omega) (ib w) (some true) (fun m i=>ky K m w.o (w.o.length:Int) i w.C.L w.C.k w.C.l w.C.e w.C.m w.C.n w.Q.g w.Q.c w.Q.h w.o w.p w.q) (fun m k hk=> ?_) (fun m=> ?_)]
 ·grind
 ·simp only[ky,A11];rw[show Sv.mk w.C.L w.C.k w.C.l w.C.e w.C.m w.C.n=w.C from rfl,show Pc.mk w.Q.g w.Q.c w.Q.h=w.Q from rfl];have hn:=hw.l.1 _ (Xe hk);unfold ib;generalize hN:gt w.o k=n at*;have l1:=Yj hK hn.chunks;have l2:=A21 hK hn.things;have l3:=Yj hK hn.tags;rw[Pz hk,cond_true,if_pos (Gz hk),dx K hn.chunks.2,Z0,Bsw hK _ hn.chunks,Z0,if_pos (List.length_mergeSort _),Bsd hK _ _ l1 l2 l3,Z0,Bsr hK _ _ hw.p.st.2,K0 (by omega)];simp only[Z0];rw[Bsq hK _ _ (by simp_all),Bso,Bsj hK _ _ l1 l2];simp only[Z0];cases hb:Wv w.C n with
  |false=>rfl
  |true=>
  cases lf w.Q k n.L with
  |false=>rfl
  |true=>
  cases hi:n.y.all (Xa w.C n.L)with
  |false=>rfl
  |true=>
  have hs:=Bc3 hi;rw[Bsi hK _ l2 (fun t ht=>(hs t ht).1)];simp only[Z0,cond_true,Wl,Z30];cases Y8 n.y with
  |false=>rfl
  |true=>
  simp only[cond_true,Z30];unfold X7;by_cases h1:n.w=0
  ·grind
  ·rw[Wn h1,cond_false,Z52];obtain⟨e1,e2,e3,s,s5⟩:=Bc2 hp hn hb h1;have hmk:H3.mk (Xy w.C n).B (Xy w.C n).D 0=Xy w.C n:=rfl;rw[e1,e2];simp only[hmk];generalize hr:Xy w.C n=r at *;obtain⟨s1,s2,s3,s4⟩:=s;have e4:A4 r.B r.D=r.B+r.D:=by grind [A4,Fp,Vs]
   have hC:A6a K n.y r=some (n.y.any (fun t=> !Ww t r)):=
    tj hK n.y (by omega) (fun t=>A1z K t r) (fun t=> !Ww t r) (fun x hx=>by
     unfold A1z;rw[Bcv K (hs _ hx).1 ⟨s1,s2,s3,s4⟩];rfl) (A10 K n.y r) (fun n N i=>rfl)
   rw[e4,if_pos ⟨s1,by omega,s5⟩,show r.B+r.D - r.B=r.D by omega,A2z hK _ (by grind),hC,List.any_eq_not_all_not]
   grind
 ·show ky K (m+1) _ _ _ _ _ _ _ _ _ _ _ _ _ _ _=_;simp_all[ky]
end
section
variable {K:Nat} (hK:2^48<=K)
theorem Wx{l:List Fy}(w:V2 l):l.length<=140737488355327:=by have:=w.2;omega
theorem bd (K:Nat){α:Type}{l:List α}(hl:l.length<=140737488355327)(k:Int):V4 K k 0 (Ap (l.length:Int) 1)=some (decide (0<=k/\k<(l.length:Int))):=by
 unfold V4 Ap Aly;rw[Xp (by omega)]
 grind
theorem A6y (K:Nat){α:Type}{l:List α}(hl:l.length<=140737488355327)(k:Int):Xd K k 0 (Ap (l.length:Int) 1)=some (decide (0<=k/\k<(l.length:Int))):=bd K hl k
theorem pw (K:Nat){l:List Fy}(hl:l.length<=140737488355327)(k:Int):af K l k=some (decide (0<=k/\k<(l.length:Int))):=by
 grind [af,A6y]
theorem li (K:Nat)(l:List Fy)(k:Int):Yz K l k=some (decide (1<=k/\k<=(l.length:Int))):=by
 unfold Yz
 grind
def Y1 (l:List Fy)(h:Lz):Int:=if(0<=h.d/\h.d<(l.length:Int))/\(gt l h.d).c=1/\(gt l h.d).a=h.a then h.d else -1
theorem Bc4 (K:Nat){l:List Fy}(hl:l.length<=140737488355327)(h:Lz):wi K l h=some (Y1 l h):=by
 unfold wi Y1;rw[bd K hl]
 grind
theorem A6z{l:List Fy}{h:Lz}(h0: ¬Y1 l h<0):0<=Y1 l h/\Y1 l h<(l.length:Int):=by
 unfold Y1 at *;omega
def V0 (l:List Fy):Nat->Int->List Int
 |0,_=>[]
 |n+1,k=>if 0<=k/\k<(l.length:Int)then k::V0 l n (Ap (gt l k).s 1)else []
theorem Bc5{l:List Fy}: ∀(n:Nat) (k:Int),∀x∈V0 l n k,0<=x/\x<(l.length:Int):=by
 intro n;induction n with
 |zero=>intro k x hx;cases hx
 |succ n ih=>
  intro k x hx;unfold V0 at hx
  grind
theorem Bc6{l:List Fy}: ∀(n:Nat) (k:Int),(V0 l n k).length<=n:=by
 intro n;induction n with
 |zero=>intro k;exact Z9 _
 |succ n ih=>
  intro k;unfold V0
  grind
def A60 (l:List Fy):List Int->Prop
 |x::y::r=>Ap (gt l x).s 1=y/\A60 l (y::r)
 |_=>True
theorem Bsy{l:List Fy}: ∀(n:Nat) (k:Int),A60 l (V0 l n k):=by
 intro n;induction n with
 |zero=>intro k;trivial
 |succ n ih=>
  intro k;unfold V0;split
  ·have h1:=ih (Ap (gt l k).s 1);cases n with
   |zero=>trivial
   |succ n=>
    rw[V0]at h1 ⊢;split at h1
    ·rename_i h2;rw[if_pos h2];exact⟨rfl,h1⟩
    ·rename_i h2;rw[if_neg h2];trivial
  ·trivial
theorem Bsz{l:List Fy}(w:V2 l): ∀(n:Nat) (k:Int) (v:List Int),-9223372036854775808<=k/\k<=9223372036854775807->v.length<=l.length->l.length - v.length<n->vm K l n k v=some (v++V0 l (l.length - v.length) k):=by
 have hb:l.length*152<=140737488355327:=w.2;intro n;induction n with
 |zero=>omega
 |succ n ih=>
  intro k v hk hv hn;rw[vm,li];simp only[Z0];have e:decide (1<=A4 k 1/\A4 k 1<=(l.length:Int))=decide (0<=k/\k<(l.length:Int)):=by
   rw[decide_eq_decide]
   grind [A4,Fp,IntKind.wrap_i64]
  rw[e];by_cases hs:0<=k/\k<(l.length:Int)
  ·rw[decide_eq_true hs];simp only[cond_true];rcases Bj v.length l.length with h|h
   ·rw[Pz h];simp only[cond_true];have hl2:(v++[k]).length=v.length+1:=by simp
    rw[if_pos ⟨by omega,by grind [maxLen]⟩,if_pos hs,ih (Ap (gt l k).s 1) _ (Bcl _) (by omega) (by omega),hl2];obtain⟨m,hm⟩: ∃m,l.length - v.length=m+1:=⟨l.length - v.length - 1,by omega⟩;rw[hm,V0,if_pos hs,show l.length - (v.length+1)=m from by omega];simp
   ·rw[Wu h];rw[show l.length - v.length=0 from by omega];simp[V0]
  ·rw[decide_eq_false hs];have:V0 l (l.length - v.length) k=[]:=by
    cases l.length - v.length with
    |zero=>rfl
    |succ m=>rw[V0,if_neg hs]
   grind
theorem Bs0{l:List Fy}(w:V2 l): ∀(n:Nat) (k:Int) (v:List Int),v.length<=l.length->l.length - v.length<n->zm K l n k v=some (v++V0 l (l.length - v.length) k):=by
 have hb:l.length*152<=140737488355327:=w.2;intro n;induction n with
 |zero=>omega
 |succ n ih=>
  intro k v hv hn;rw[zm,pw K (by omega)];simp only[Z0];by_cases hs:0<=k/\k<(l.length:Int)
  ·rw[decide_eq_true hs];simp only[cond_true];rcases Bj v.length l.length with h|h
   ·rw[Pz h];simp only[cond_true];have hl2:(v++[k]).length=v.length+1:=by simp
    rw[if_pos ⟨by omega,by grind [maxLen]⟩,if_pos hs,ih _ _ (by omega) (by omega),hl2];obtain⟨m,hm⟩: ∃m,l.length - v.length=m+1:=⟨l.length - v.length - 1,by omega⟩;rw[hm,V0,if_pos hs,show l.length - (v.length+1)=m from by omega];simp
   ·rw[Wu h];rw[show l.length - v.length=0 from by omega];simp[V0]
  ·rw[decide_eq_false hs];have:V0 l (l.length - v.length) k=[]:=by
    cases l.length - v.length with
    |zero=>rfl
    |succ m=>rw[V0,if_neg hs]
   grind
include hK in
theorem A22{l:List Fy}(w:V2 l)(k:Int)(hk: -9223372036854775808<=k/\k<=9223372036854775807):qq K l k=some (V0 l l.length k):=by
 have hb:=Wx w;unfold qq;have:=Bsz (K:=K) w K k [] hk (Hc _) (by omega)
 grind
include hK in
theorem Bs1{l:List Fy}(w:V2 l)(k:Int):A15 K l k=some (V0 l l.length k):=by
 have hb:=Wx w;unfold A15;have:=Bs0 (K:=K) w K k [] (Hc _) (by omega)
 grind
def Zs (l:List Fy):List Int->Bool
 |[]=>true
 |[x]=>(gt l x).c==1
 |x::y::r=>((gt l x).c==1)&&((gt l x).t==(gt l y).f)&&Zs l (y::r)
def lj (l:List Fy)(way:List Int):Bool:=if 0<way.length then(gt l (gt way ((way.length - 1:Nat):Int))).s==0 else false
theorem Bs2{l:List Fy}{way:List Int}(hin: ∀x∈way,0<=x/\x<(l.length:Int))(hlen:way.length<=140737488355327):
  (bif (decide ((way.length:Int)>0))then(if(0:Int)<=(Ap (way.length:Int) 1)/\(Ap (way.length:Int) 1)<(way.length:Int)then(if(0:Int)<=(gt way (Ap (way.length:Int) 1))/\(gt way (Ap (way.length:Int) 1))<(l.length:Int)then some (((gt l (gt way (Ap (way.length:Int) 1))).s)==0)else none)else none)else some false)=some (lj l way):=by
 unfold lj;rcases Cz way.length with h|h
 ·grind
 ·rw[if_pos h,decide_eq_true (by omega)];simp only[cond_true];have e:Ap (way.length:Int) 1=((way.length - 1:Nat):Int):=by grind [Ap,Aly,Vs]
  rw[e,if_pos (by omega),if_pos (hin _ (Xe (by omega)))]
theorem tn{way:List Int}{i:Nat}(h:i<way.length):way.drop i=way[i]::way.drop (i+1):=by
 simp_all
theorem Bs3{l:List Fy}(w:V2 l){x y:Int}(hx:0<=x/\x<(l.length:Int))(hy:0<=y/\y<(l.length:Int))(h:Ap (gt l x).s 1=y):fx K l x=some (((gt l y).c==1)&&((gt l y).f==(gt l x).t)):=by
 have hl:=Wx w;unfold fx;rw[if_pos hx,li];simp only[Z0];obtain⟨hr1,hr2⟩:=(w.1 _ (Wi hx.1 hx.2)).up;have hp:1<=(gt l x).s/\(gt l x).s<=(l.length:Int):=by
  grind [Ap,Aly,IntKind.wrap_i64]
 grind
theorem Bs4{l:List Fy}{y:Int}{r:List Int}(h:(gt l y).c≠1):Zs l (y::r)=false:=by
 cases r with
 |nil=>simp[Zs,h]
 |cons z r=>simp[Zs,h]
theorem Bs5{l:List Fy}(w:V2 l){way:List Int}(hin: ∀x∈way,0<=x/\x<(l.length:Int))(hlen:way.length<=140737488355327): ∀(n i:Nat),A60 l (way.drop i)->i<=way.length->way.length - i<n->qr K l way n (i:Int)=some (Zs l (way.drop i)&&lj l way):=by
 intro n;induction n with
 |zero=>omega
 |succ n ih=>
  intro i hch hi hn;rw[qr];unfold Am3;rcases Bj i way.length with h|h
  ·rw[Pz h];simp only[cond_true];rw[tn h]at hch;rw[if_pos (by omega),if_pos (hin _ (Xe h)),tn h,K0 (by omega),<-K1 h];rcases Bj (i+1) way.length with h2|h2
   ·rw[tn h2]at hch;have hc1:=hch.1;rw[<-K1 h,<-K1 h2]at hc1;rw[Pz h2,tn h2,<-K1 h2];simp only[cond_true];rw[if_pos (by omega),Bs3 w (hin _ (Xe h)) (hin _ (Xe h2)) hc1,ih (i+1) (by rw[tn h2];exact hch.2) h (by omega),tn h2,<-K1 h2,Zs];generalize gt way ((i+1:Nat):Int)=y;generalize gt way (i:Int)=x;by_cases c1:(gt l x).c=1
    ·by_cases c3:(gt l y).c=1
     ·by_cases c2:(gt l x).t=(gt l y).f
      all_goals grind
     simp_all[Bs4]
    grind
   ·rw[Wu h2,ih (i+1) (by rw[Z48 h2];trivial) h (by omega),show way.drop (i+1)=[] from Z48 h2];simp only[cond_false,Zs];by_cases c1:(gt l (gt way (i:Int))).c=1
    all_goals grind
  ·rw[Wu h,show way.drop i=[] from Z48 h];simp only[cond_false,Zs,Z30];exact Bs2 hin hlen
def dy (l:List Fy)(k:Int):Bool:=Zs l (V0 l l.length k)&&lj l (V0 l l.length k)
include hK in
theorem A61{l:List Fy}(w:V2 l)(k:Int)(hk: -9223372036854775808<=k/\k<=9223372036854775807):qt K l k=some (dy l k):=by
 have hb:=Wx w;have hr:=Bc6 (l:=l) l.length k;unfold qt;rw[A22 hK w k hk];exact Bs5 w (Bc5 _ _) (by omega) K 0 (Bsy _ _) (Hc _) (by omega)
def px (h:Lz):Bool:=bif decide (h.d>=0)then decide (h.a>=1)else false
theorem Bc7 (K:Nat)(h:Lz):wh K h=some (px h):=by
 unfold wh px;grind
def Xt (l:List Fy)(h:Lz):Int×Int:=bif px h then(bif decide (Y1 l h<0)then(-1,2)else(bif dy l (Y1 l h)then(Y1 l h,0)else(-1,2)))else(-1,1)
include hK in
theorem tp{w:H4}(hw:V2 w.o)(h:Lz):fz K w h=some (Xt w.o h):=by
 have hb:=Wx hw;unfold fz Xt;rw[Bc7,Bc4 K hb];simp only[Z0];cases px h with
 |false=>rfl
 |true=>
  simp only[cond_true];cases e:decide (Y1 w.o h<0)with
  |true=>rfl
  |false=>
   have h1:=A6z (of_decide_eq_false e);simp only[cond_false];rw[A61 hK hw _ ⟨by omega,by omega⟩]
   grind
theorem Bs6{l:List Fy}{h:Lz}(h0:(Xt l h).2=0):0<=(Xt l h).1/\(Xt l h).1<(l.length:Int):=by
 unfold Xt at *;cases e1:px h with
 |false=>grind
 |true=>
  rw[e1]at h0;simp only[cond_true]at *;cases e:decide (Y1 l h<0)with
  |true=>grind
  |false=>
   rw[e]at h0;simp only[cond_false]at*
   grind [A6z,of_decide_eq_false]
end
def Wp (l:List Fy)(n:Int):Bool:=decide (0<=Ap n 1/\Ap n 1<(l.length:Int))
theorem bf{l:List Fy}{n:Int}(h:Wp l n=true):0<=Ap n 1/\Ap n 1<(l.length:Int):=of_decide_eq_true h
theorem A62 (K:Nat){l:List Fy}(hl:l.length<=140737488355327)(n:Int):af K l (Ap n 1)=some (Wp l n):=pw K hl _
theorem lm (K:Nat){l:List Fy}(hl:l.length<=140737488355327){n:Int}(hn:wfi n):Yz K l n=some (Wp l n):=by
 rw[li];unfold Wp;obtain⟨h1,h2⟩:=hn;congr 1;rw[decide_eq_decide]
 grind [Ap,Aly,IntKind.wrap_i64]
def Zt (l:List Fy)(k:Int):Bool:=Wp l (gt l k).s&&((gt l (Ap (gt l k).s 1)).c==1&&(gt l (Ap (gt l k).s 1)).f==(gt l k).t)
theorem A63 (K:Nat){l:List Fy}(w:V2 l){k:Int}(h:0<=k/\k<(l.length:Int)):fx K l k=some (Zt l k):=by
 unfold fx Zt;rw[if_pos h,lm K (Wx w) (w.1 _ (Wi h.1 h.2)).up,Z0,if_pos h];cases hp:Wp l (gt l k).s with
 |false=>rfl
 |true=>
  have:=bf hp
  grind
theorem A64 (K:Nat){l:List Fy}(w:V2 l){k:Int}(h:0<=k/\k<(l.length:Int)):ta K l k=some (Zt l k):=by
 unfold ta Zt;rw[if_pos h,A62 K (Wx w),Z0,if_pos h];cases hp:Wp l (gt l k).s with
 |false=>rfl
 |true=>
  have:=bf hp
  grind
def Xf (l:List Fy)(n:Int):Bool:=n==0||(Wp l n&&(gt l (Ap n 1)).c==1)
theorem tq{l:List Fy}{n:Int}(h:Xf l n=true)(h0:n≠0):0<=Ap n 1/\Ap n 1<(l.length:Int):=by
 unfold Xf at h;rw[Wn h0,Z52,Z4]at h;exact bf h.1
theorem A65 (K:Nat){l:List Fy}(w:V2 l){n:Int}(hn:wfi n):gg K l n=some (Xf l n):=by
 unfold gg Xf;rw[lm K (Wx w) hn,Z0];cases n==0 with
 |true=>rfl
 |false=>
  cases hp:Wp l n with
  |false=>rfl
  |true=>rw[if_pos (bf hp)];rfl
theorem A66 (K:Nat){l:List Fy}(w:V2 l)(n:Int):sy K l n=some (Xf l n):=by
 unfold sy Xf;rw[A62 K (Wx w),Z0];cases n==0 with
 |true=>rfl
 |false=>
  cases hp:Wp l n with
  |false=>rfl
  |true=>rw[if_pos (bf hp)];rfl
def lq (r:List Int):Int:=gt r ((r.length - 1:Nat):Int)
def ai (l:List Fy)(k:Int):Bool:=decide (((V0 l l.length k).length:Int)<=4)&& !Zt l (lq (V0 l l.length k))
def bg (l:List Fy)(k:Int):Bool:= !((gt l k).v==0&&Zt l k)||(gt l (Ap (gt l k).s 1)).i==A4 k 1
def dz (l:List Fy)(k:Int):Bool:=(gt l k).v==0||(gt l (Ap (gt l k).v 1)).u==A4 k 1
def lr (l:List Fy)(k:Int):Bool:=(gt l k).u==0||((gt l (Ap (gt l k).u 1)).v==A4 k 1&&((gt l (Ap (gt l k).u 1)).s==(gt l k).s&&(gt l (Ap (gt l k).u 1)).t==(gt l k).t))
def tr (l:List Fy)(k:Int):Bool:=(gt l k).i==0||((gt l (Ap (gt l k).i 1)).v==0&&((gt l (Ap (gt l k).i 1)).s==A4 k 1&&(gt l (Ap (gt l k).i 1)).t==(gt l k).f))
def A23 (l:List Fy)(k:Int):Bool:=Xf l (gt l k).i&&(Xf l (gt l k).u&&(Xf l (gt l k).v&&((gt l k).s==0||Wp l (gt l k).s)))
def ez (l:List Fy)(k:Int):Bool:=A23 l k&&(tr l k&&(lr l k&&(dz l k&&bg l k)))
def py (l:List Fy):Bool:=(List.range l.length).all (fun k=>(gt l (k:Int)).c != 1||(ez l k&&ai l k))
theorem A67{l:List Fy}{k:Int}(h:0<=k/\k<(l.length:Int)):0<(V0 l l.length k).length:=by
 obtain⟨m,hm⟩: ∃m,l.length=m+1:=⟨l.length - 1,by omega⟩;simp_all[V0.eq_2]
theorem A68{l:List Fy}{k:Int}(h:0<=k/\k<(l.length:Int)):0<=lq (V0 l l.length k)/\lq (V0 l l.length k)<(l.length:Int):=by
 have:=A67 h;exact Bc5 _ _ _ (Xe (by omega))
theorem Bc8{l:List Fy}(w:V2 l){k:Int}(h:0<=k/\k<(l.length:Int)):Ap ((V0 l l.length k).length:Int) 1=(((V0 l l.length k).length - 1:Nat):Int)/\(0:Int)<=(((V0 l l.length k).length - 1:Nat):Int)/\(((V0 l l.length k).length - 1:Nat):Int)<((V0 l l.length k).length:Int):=by
 grind [A67,Bc6,Wx,Ap,Aly,Vs]
section
variable {K:Nat} (hK:2^48<=K)
include hK
theorem Bs7{l:List Fy}(w:V2 l){k:Int}(h:0<=k/\k<(l.length:Int)):se K l k=some (ai l k):=by
 have h3:=Wx w;obtain⟨e1,e2,e3⟩:=Bc8 w h;unfold se;rw[A22 hK w k ⟨by omega,by omega⟩,Z0,e1,if_pos ⟨e2,e3⟩];have:=A63 K w (A68 h);unfold lq at this;rw[this,Z0,Yn];rfl
theorem Bs8{l:List Fy}(w:V2 l){k:Int}(h:0<=k/\k<(l.length:Int)):xq K l k (gt l k).s (gt l k).v=some (bg l k&&ai l k):=by
 unfold xq bg;rw[A63 K w h,Bs7 hK w h,Z0];cases (gt l k).v==0 with
 |false=>rfl
 |true=>
  cases hc:Zt l k with
  |false=>rfl
  |true=>
   have:Wp l (gt l k).s=true:=by simp_all[Zt]
   rw[cond_true,cond_true,if_pos (bf this),bne,Wl]
   grind
theorem Bs9{l:List Fy}(w:V2 l){k:Int}(h:0<=k/\k<(l.length:Int))(hp:Xf l (gt l k).v=true):xr K l k (gt l k).s (gt l k).v=some (dz l k&&(bg l k&&ai l k)):=by
 unfold xr dz;rw[Bs8 hK w h];by_cases h0:(gt l k).v=0
 ·grind
 ·rw[Ym h0,Wn h0,cond_true,if_pos (tq hp h0),bne,Wl]
  grind
theorem Bta{l:List Fy}(w:V2 l){k:Int}(h:0<=k/\k<(l.length:Int))(hp:Xf l (gt l k).v=true)(hn:Xf l (gt l k).u=true):xt K l k (gt l k).s (gt l k).t (gt l k).u (gt l k).v=some (lr l k&&(dz l k&&(bg l k&&ai l k))):=by
 unfold xt lr;rw[Bs9 hK w h hp];by_cases h0:(gt l k).u=0
 ·grind
 ·have hi:=tq hn h0
  grind
theorem Btb{l:List Fy}(w:V2 l){k:Int}(h:0<=k/\k<(l.length:Int))(hf:Xf l (gt l k).i=true)(hp:Xf l (gt l k).v=true)(hn:Xf l (gt l k).u=true):xu K l k (gt l k).c (gt l k).a (gt l k).f (gt l k).s (gt l k).t (gt l k).i (gt l k).u (gt l k).v (gt l k).L (gt l k).w (gt l k).x (gt l k).y (gt l k).j=some (tr l k&&(lr l k&&(dz l k&&(bg l k&&ai l k)))):=by
 unfold xu tr;rw[Bta hK w h hp hn];by_cases h0:(gt l k).i=0
 ·grind
 ·have hi:=tq hf h0
  grind
theorem Btc{l:List Fy}(w:V2 l){k:Int}(h:0<=k/\k<(l.length:Int)):Azr K l k=some (ez l k&&ai l k):=by
 have hn:=w.1 _ (Wi h.1 h.2);unfold Azr ez A23;rw[if_pos h,lm K (Wx w) hn.up,A65 K w hn.first,A65 K w hn.next,A65 K w hn.prev];simp only[Z0,Wl];cases hf:Xf l (gt l k).i with
 |false=>grind
 |true=>
 cases hx:Xf l (gt l k).u with
 |false=>grind
 |true=>
 cases hp:Xf l (gt l k).v with
 |false=>grind
 |true=>
 rw[Btb hK w h hf hp hx];simp only[bne];cases (gt l k).s==0<;>cases Wp l (gt l k).s<;>simp only[Bool.not_true,Bool.not_false,cond_true,cond_false,Z30,Bool.false_and,Bool.true_or,Z52,Bool.and_assoc]
theorem Btd{l:List Fy}(w:V2 l):Azt K l=some (py l):=by
 have hl:=Wx w;unfold Azt py;rw[Yt hK l.length (by omega) (fun k=>(gt l (k:Int)).c != 1||(ez l k&&ai l k)) (some true) (fun n i=>kb K l n i) (fun n i h=> ?_) (fun n=> ?_)]
 ·grind
 ·simp only[kb,Azs];rw[Pz h,cond_true,if_pos (Gz h),Btc hK w (Gz h),K0 (by omega),Z0,Wl,bne]
  grind
 ·show kb K l (n+1) _=_;simp_all[kb]
theorem Bte{l:List Fy}(w:V2 l){k:Int}(h:0<=k/\k<(l.length:Int)):zh K l k (gt l k).s (gt l k).v=some (bg l k):=by
 unfold zh bg;rw[A64 K w h,Z0,bne];cases (gt l k).v==0 with
 |false=>rfl
 |true=>
  cases hc:Zt l k with
  |false=>rfl
  |true=>
   simp_all[Wp,Zt]
theorem Btf{l:List Fy}(w:V2 l){k:Int}(h:0<=k/\k<(l.length:Int))(hp:Xf l (gt l k).v=true):zi K l k (gt l k).s (gt l k).v=some (dz l k&&bg l k):=by
 unfold zi dz;rw[Bte hK w h];by_cases h0:(gt l k).v=0
 ·grind
 ·rw[Ym h0,Wn h0,cond_true,if_pos (tq hp h0),bne,Wl]
  grind
theorem Btg{l:List Fy}(w:V2 l){k:Int}(h:0<=k/\k<(l.length:Int))(hp:Xf l (gt l k).v=true)(hn:Xf l (gt l k).u=true):zj K l k (gt l k).s (gt l k).t (gt l k).u (gt l k).v=some (lr l k&&(dz l k&&bg l k)):=by
 unfold zj lr;rw[Btf hK w h hp];by_cases h0:(gt l k).u=0
 ·grind
 ·have hi:=tq hn h0
  grind
theorem Bth{l:List Fy}(w:V2 l){k:Int}(h:0<=k/\k<(l.length:Int))(hf:Xf l (gt l k).i=true)(hp:Xf l (gt l k).v=true)(hn:Xf l (gt l k).u=true):zk K l k (gt l k).c (gt l k).a (gt l k).f (gt l k).s (gt l k).t (gt l k).i (gt l k).u (gt l k).v (gt l k).L (gt l k).w (gt l k).x (gt l k).y (gt l k).j=some (tr l k&&(lr l k&&(dz l k&&bg l k))):=by
 unfold zk tr;rw[Btg hK w h hp hn];by_cases h0:(gt l k).i=0
 ·grind
 ·have hi:=tq hf h0
  grind
theorem Bti{l:List Fy}(w:V2 l){k:Int}(h:0<=k/\k<(l.length:Int)):A14 K l k=some (ez l k):=by
 unfold A14 ez A23;rw[if_pos h,A62 K (Wx w),A66 K w,A66 K w,A66 K w];simp only[Z0,Wl];cases hf:Xf l (gt l k).i with
 |false=>rfl
 |true=>
 cases hx:Xf l (gt l k).u with
 |false=>rfl
 |true=>
 cases hp:Xf l (gt l k).v with
 |false=>rfl
 |true=>
 rw[Bth hK w h hf hp hx]
 grind
theorem Btj{l:List Fy}(w:V2 l):A17 K l=some (py l):=by
 have hl:=Wx w;unfold A17 py;rw[Yt hK l.length (by omega) (fun k=>(gt l (k:Int)).c != 1||(ez l k&&ai l k)) (some true) (fun n i=>la K l n l (l.length:Int) i) (fun n i h=> ?_) (fun n=> ?_)]
 ·grind
 ·have hc:=Gz h;obtain⟨e1,e2,e3⟩:=Bc8 w hc;have e4:=A64 K w (A68 hc);unfold lq at e4;have e5:decide (((V0 l l.length i).length:Int)>4)= !decide (((V0 l l.length i).length:Int)<=4):=by grind
  simp only[la,A16];rw[Pz h,cond_true,if_pos hc,Bti hK w hc,K0 (by omega),Z0,Bs1 hK w,Z0,e1,if_pos ⟨e2,e3⟩,e4,Z0,e5];unfold ai lq
  grind
 ·show la K l (n+1) _ _ _=_;simp_all[la]
end
theorem Aeg{c:Sv}(hc:Vw c=true):Ap c.k 1=c.k - 1:=by
 have b0:=Gy hc
 grind [Ap,Aly,Vs]
def X2 (c:Sv)(x:G9):Bool:=
 Vw c&&(Qi x.d 0 c.l&&(Qi x.i 0 c.l&&(decide ((x.j.length:Int)<=6)&&(x.j.all (fun y=>Qi y 0 255)&&(Xs c x.L&&(Qi x.z 0 (c.k - 1)&&(decide ((x.L.length:Int)>0)||x.z==0)))))))
section
variable {K:Nat} (hK:2^48<=K)
include hK
theorem Btk (c:Sv)(x:G9)(hw:Zj x):Az1 K c x=some (X2 c x):=by
 have h1:=Yj hK hw.tags;have h2:=Yj hK hw.chunks;unfold Az1 Az0;rw[dv];simp only[Z0,Xl];cases hc:Vw c with
 |false=>simp[X2,hc]
 |true=>
 have hA:kj K c x.L K 0=some (Xs c x.L):=by
  rw[Yt hK x.L.length (by omega) (fun i=>Qi (gt x.L i) 0 (c.L - 1)&& !(x.L.take i).contains (gt x.L i)) (some true) (fun k i=>kj K c x.L k i) (fun k i h=> ?_) (fun k=> ?_)]
  ·unfold Xs;grind
  ·have hp:(x.L.take i).length<=140737488355328:=by grind
   simp only[kj];rw[Pz h,cond_true,if_pos (Gz h),Xl,if_pos (Aef (by omega)),pr,gy hK _ _ hp,K0 (by omega),ia hK hc]
   grind
  ·show kj K c x.L (k+1) _=_;simp_all[kj]
 have hB:nu K c x.j x.L K 0=some (x.j.all (fun y=>Qi y 0 255)&&Xs c x.L):=by
  rw[Zi hK x.j (by omega) (fun y=>Qi y 0 255) (some (Xs c x.L)) (nu K c x.j x.L) (fun k i h=> ?_) (fun k=> ?_)]
  ·grind
  ·rw[nu,Pz h,cond_true,if_pos (Gz h),K1 h,Xl,K0 (by omega),Z0,Wl]
  simp_all[nu]
 rw[hB,Aeg hc];have e6:decide ((x.j.length:Int)>6)= !decide ((x.j.length:Int)<=6):=by grind
 have e0:decide ((x.L.length:Int)>0)= !((x.L.length:Int)==0):=by
  grind
 unfold X2
 grind
theorem Btl (c:Sv)(x:G9)(hw:Zj x):A19 K c x=some (X2 c x):=by
 have h1:=Yj hK hw.tags;have h2:=Yj hK hw.chunks;unfold A19;rw[A6p];simp only[Z0,bb];cases hc:Vw c with
 |false=>simp[X2,hc]
 |true=>
 rw[A6t hK _ (by omega),Bct hK hc _ h2,Aeg hc];simp_all[X2,cr,Yn]
end
theorem ic{c:Sv}{x:G9}(h:X2 c x=true):Vw c=true/\(0<=x.d/\x.d<=c.l)/\(0<=x.i/\x.i<=c.l)/\Xs c x.L=true/\(0<=x.z/\x.z<=c.k - 1):=by
 unfold X2 at h;simp only[Z4,V1]at h
 grind
theorem bh{c:Sv}{l:List Int}(h:Xs c l=true): ∀x∈l,0<=x/\x<c.L:=by
 intro x hx;obtain⟨i,hi,e⟩:=List.mem_iff_getElem.1 hx;unfold Xs at h;rw[Z1]at h;have:=h i (by grind);rw[Z4,K1 hi,e,V1]at this;omega
theorem A69{l:List Int}:l.Nodup ↔ ∀i,(h:i<l.length)->l[i] ∉ l.take i:=by
 unfold List.Nodup;rw[List.pairwise_iff_getElem];constructor
 ·intro h i hi hm;obtain⟨j,hj,e⟩:=List.mem_iff_getElem.1 hm
  grind
 ·intro h i j hi hj hij e;exact h j hj (List.mem_iff_getElem.2 ⟨i,by grind,by grind⟩)
theorem pz{c:Sv}{l:List Int}(h:Xs c l=true):l.Nodup:=by
 rw[A69];intro i hi hm;unfold Xs at h;rw[Z1]at h;have:=h i (by grind);rw[Z4,K1 hi,Gg,List.contains_eq_mem]at this
 grind
theorem ie{l:List Int}: ∀ {o:List Int},o.Nodup->(∀x∈o,x∈l)->o.length<=l.length:=by
 intro o;induction o generalizing l with
 |nil=>grind
 |cons x o ih=>
  intro hn hs;have hx:x∈l:=hs x (by simp);rw[List.nodup_cons]at hn;have h2:=ih (l:=l.erase x) hn.2 (fun y hy=>by
   grind)
  grind
theorem Y9{c:Sv}(hc:Vw c=true){l:List Int}(h:Xs c l=true):l.length<=12:=by
 have b0:=Gy hc;have:=ie (l:=(List.range 12).map (fun i:Nat=>(i:Int))) (pz h) (fun x hx=>by
  have:=bh h x hx;rw[A8];exact⟨x.toNat,by grind,by omega⟩)
 grind
def Yv (l:List Fy):Nat->Int->List Int
 |0,_=>[]
 |n+1,k=>if 0<=k/\k<(l.length:Int)then k::Yv l n (Ap (gt l k).u 1)else []
theorem Aei{l:List Fy}: ∀(n:Nat) (k:Int),∀x∈Yv l n k,0<=x/\x<(l.length:Int):=by
 intro n;induction n with
 |zero=>intro k x hx;cases hx
 |succ n ih=>
  intro k x hx;unfold Yv at hx
  grind
theorem tu{l:List Fy}: ∀(n:Nat) (k:Int),(Yv l n k).length<=n:=by
 intro n;induction n with
 |zero=>intro k;exact Z9 _
 |succ n ih=>
  intro k;unfold Yv
  grind
def Vq (l:List Fy)(first:Int):List Int:=Yv l l.length (Ap first 1)
def Yw (l:List Fy)(k:Int):Bool:=(gt l k).c==1&&((gt l k).s != 0&& !Zt l k)
theorem Bc9 (K:Nat){l:List Fy}(w:V2 l){k:Int}(h:0<=k/\k<(l.length:Int)):xv K l k=some (Yw l k):=by
 simp_all[xv,Yw,A63,Yn]
theorem Bda (K:Nat){l:List Fy}(w:V2 l){k:Int}(h:0<=k/\k<(l.length:Int)):tb K l k=some (Yw l k):=by
 simp_all[tb,Yw,A64,Yn]
section
variable {K:Nat} (hK:2^48<=K)
theorem Btm{l:List Fy}(w:V2 l): ∀(n:Nat) (k:Int) (v:List Int),wfi k->v.length<=l.length->l.length - v.length<n->xw K l n k v=some (v++Yv l (l.length - v.length) (Ap k 1)):=by
 have hm:=V8;have hb:l.length*152<=140737488355327:=w.2;intro n;induction n with
 |zero=>omega
 |succ n ih=>
  intro k v hk hv hn;rw[xw,lm K (Wx w) hk];simp only[Z0];by_cases hs:0<=Ap k 1/\Ap k 1<(l.length:Int)
  ·rw[show Wp l k=true from decide_eq_true hs];simp only[cond_true];rcases Bj v.length l.length with h|h
   ·rw[Pz h];simp only[cond_true];have hl2:(v++[Ap k 1]).length=v.length+1:=by simp
    rw[if_pos (by omega),if_pos hs,ih (gt l (Ap k 1)).u _ (w.1 _ (Wi hs.1 hs.2)).next (by omega) (by omega),hl2];obtain⟨m,hm⟩: ∃m,l.length - v.length=m+1:=⟨l.length - v.length - 1,by omega⟩;rw[hm,Yv,if_pos hs,show l.length - (v.length+1)=m from by omega];simp
   ·rw[Wu h];rw[show l.length - v.length=0 from by omega];simp[Yv]
  ·rw[show Wp l k=false from decide_eq_false hs];have:Yv l (l.length - v.length) (Ap k 1)=[]:=by
    cases l.length - v.length with
    |zero=>rfl
    |succ m=>rw[Yv,if_neg hs]
   grind
theorem Btn{l:List Fy}(w:V2 l): ∀(n:Nat) (k:Int) (v:List Int),v.length<=l.length->l.length - v.length<n->yv K l n v k=some (v++Yv l (l.length - v.length) k):=by
 have hm:=V8;have hb:l.length*152<=140737488355327:=w.2;intro n;induction n with
 |zero=>omega
 |succ n ih=>
  intro k v hv hn;rw[yv,pw K (by omega)];simp only[Z0];by_cases hs:0<=k/\k<(l.length:Int)
  ·rw[decide_eq_true hs];simp only[cond_true];rcases Bj v.length l.length with h|h
   ·rw[Pz h];simp only[cond_true];have hl2:(v++[k]).length=v.length+1:=by simp
    rw[if_pos (by omega),if_pos hs,ih _ _ (by omega) (by omega),hl2];obtain⟨m,hm⟩: ∃m,l.length - v.length=m+1:=⟨l.length - v.length - 1,by omega⟩;rw[hm,Yv,if_pos hs,show l.length - (v.length+1)=m from by omega];simp
   ·rw[Wu h];rw[show l.length - v.length=0 from by omega];simp[Yv]
  ·rw[decide_eq_false hs];have:Yv l (l.length - v.length) k=[]:=by
    cases l.length - v.length with
    |zero=>rfl
    |succ m=>rw[Yv,if_neg hs]
   grind
include hK
theorem Aez{l:List Fy}(w:V2 l){k:Int}(hk:wfi k):kg K l k=some (Vq l k):=by
 have hb:=Wx w;unfold kg Vq;have:=Btm (K:=K) w K k [] hk (Hc _) (by omega)
 grind
theorem A24{l:List Fy}(w:V2 l)(k:Int):ol K l k=some (Vq l k):=by
 have hb:=Wx w;unfold ol Vq;have:=Btn (K:=K) w K (Ap k 1) [] (Hc _) (by omega)
 grind
def Yk (w:H4)(x:G9):Bool:= !decide ((x.L.length:Int)>0)||Wd ((w.Q.g.drop (gt x.L 0*w.C.k).toNat).take x.z.toNat)
def fa (w:H4)(x:G9):Bool:=x.d==0||(gt w.o (Ap x.d 1)).c==2
def ig (w:H4)(x:G9):Bool:=x.i==0||(gt w.o (Ap x.i 1)).v==0
def qa (w:H4)(x:G9):Bool:=x.L.all (fun k=>gt w.Q.c k==2)
def Za (w:H4)(x:G9):Bool:=(Vq w.o x.i).all (Yw w.o)
def X8 (w:H4)(x:G9):Bool:=X2 w.C x&&(qa w x&&(Yk w x&&(fa w x&&(ig w x&&Za w x))))
theorem Ae2{w:H4}(hL:(w.o.length:Int)=w.C.l)(hc:Vw w.C=true){n:Int}(h0:n≠0)(h1:0<=n)(h2:n<=w.C.l):0<=Ap n 1/\Ap n 1<(w.o.length:Int):=by
 have b0:=Gy hc
 grind [Ap,Aly,Vs]
theorem Bto (w:H4)(hw:Wa w)(hp:Xh w.C w.Q=true)(hL:(w.o.length:Int)=w.C.l)(i:Nat)(hi:i<w.p.length):Az3 K w i=some (X8 w (gt w.p i)):=by
 have hx:=hw.q.1 _ (Xe hi);unfold Az3;rw[if_pos (Gz hi)];generalize gt w.p i=x at *;rw[Btk hK _ _ hx,Z0,Wl];unfold X8;cases hr:X2 w.C x with
 |false=>rfl
 |true=>
 rw[cond_true,Z30];obtain⟨hc,⟨s1,s2⟩,⟨f1,f2⟩,hd,d1,d2⟩:=ic hr;obtain⟨_,hm,hst,_⟩:=Zq hp;obtain⟨b1,b2,b3,_⟩:=Gy hc;have hch:=bh hd;have hl:=Yj hK hx.chunks;have h3:ny K x.i w.o=some (Za w x):=by
  unfold ny Za;have hk:=tu (l:=w.o) w.o.length (Ap x.i 1);have hin:=Aei (l:=w.o) w.o.length (Ap x.i 1);rw[Aez hK hw.l hx.first,Z0];change (Vq w.o x.i).length<=_ at hk;change ∀y∈Vq w.o x.i,_ at hin;generalize Vq w.o x.i=r at *;rw[Zi hK r (by omega) (Yw w.o) (some true) (sj K w.o r) (fun n i h=> ?_) (fun n=> ?_)]
  ·grind
  ·rw[sj,Pz h,cond_true,if_pos (Gz h),Bc9 K hw.l (hin _ (Xe h)),K0 (by omega),Z0,Wl,K1 h]
  simp_all[sj]
 have h2:ya K x.d x.i w.o=some (fa w x&&(ig w x&&Za w x)):=by
  unfold ya fa ig;rw[h3];by_cases g1:x.i=0
  ·rw[g1];by_cases g2:x.d=0
   ·grind
   ·rw[Ym g2,Wn g2,cond_true,if_pos (Ae2 hK hL hc g2 s1 s2)]
    grind
  ·have hF:(bif (x.i != 0)then(if(0:Int)<=(Ap x.i 1)/\(Ap x.i 1)<(w.o.length:Int)then(bif (((gt w.o (Ap x.i 1)).v) != 0)then some false else some (Za w x))else none)else some (Za w x))=some ((x.i==0||(gt w.o (Ap x.i 1)).v==0)&&Za w x):=by
    rw[Ym g1,Wn g1,cond_true,if_pos (Ae2 hK hL hc g1 f1 f2)]
    grind
   rw[hF];by_cases g2:x.d=0
   ·grind
   ·rw[Ym g2,Wn g2,cond_true,if_pos (Ae2 hK hL hc g2 s1 s2)]
    grind
 rw[Zi hK x.L (by omega) (fun k=>gt w.Q.c k==2) (some (Yk w x&&(fa w x&&(ig w x&&Za w x)))) (fun n i=>oa K n i x.d x.i x.j x.L x.z w.C.L w.C.k w.C.l w.C.e w.C.m w.C.n w.Q.g w.Q.c w.Q.h w.o w.p w.q) (fun n i h=> ?_) (fun n=> ?_)]
 ·rw[Yn];rfl
 ·simp only[oa];have h5:=hch _ (Xe h);rw[Pz h,cond_true,if_pos (Gz h),if_pos ⟨h5.1,by omega⟩,K0 (by omega),bne,Wl,K1 h]
 ·show oa K (n+1) _ _ _ _ _ _ _ _ _ _ _ _ _ _ _ _ _ _=_;rw[oa,Wu (Z9 _),cond_false,h2];unfold Yk;by_cases g:(x.L.length:Int)>0
  ·have h5:=hch _ (Wi (l:=x.L) (Int.le_refl 0) (by omega));obtain⟨e1,e2,e3,e4⟩:=ld hc hm h5.1 h5.2;have e5:A4 (gt x.L 0*w.C.k) x.z=gt x.L 0*w.C.k+x.z:=by
    have:=Zp (a:=gt x.L 0) (b:=w.C.k) (m:=12) (n:=16) h5.1 (by omega) (by omega) b2.2
    grind [A4,Fp,Vs]
   rw[decide_eq_true g,cond_true,if_pos (by omega),if_pos (by omega),e1,e5,if_pos ⟨e3,by omega,by omega⟩,Abf hK _ (by grind),show gt x.L 0*w.C.k+x.z - gt x.L 0*w.C.k=x.z by omega]
   grind
  grind
end
def Vr (N:Nat)(l:List Int):List Int:=(List.range N).map (fun k:Nat=>((l.count (k:Int):Nat):Int))
theorem A25 (N:Nat)(l:List Int):(Vr N l).length=N:=by simp[Vr]
theorem lu{N:Nat}{l:List Int}{x:Int}(h0:0<=x)(h1:x<N):gt (Vr N l) x=((l.count x:Nat):Int):=by
 obtain⟨k,rfl⟩: ∃k:Nat,x=k:=⟨x.toNat,by omega⟩
 grind [K1,Vr]
theorem Bdb (N:Nat):Vr N []=List.replicate N 0:=by
 refine List.ext_getElem (by simp[Vr]) fun i h1 h2=> ?_
 simp[Vr]
theorem Bdc{N:Nat}{l:List Int}{x:Int}(h0:0<=x)(h1:x<N)(hl:l.length<=140737488355327):(Vr N l).set x.toNat (A4 (gt (Vr N l) x) 1)=Vr N (l++[x]):=by
 have hc:l.count x<=l.length:=List.count_le_length;have e:A4 (gt (Vr N l) x) 1=((l.count x+1:Nat):Int):=by
  grind [lu,K0]
 rw[e];refine List.ext_getElem (by simp[Vr]) fun i h2 h3=> ?_
 rw[List.getElem_set];simp only[Vr,List.getElem_map,List.getElem_range,List.count_append,List.count_singleton]
 grind
theorem A7a{C P:List Int}(hs: ∀x∈C,x∈P)(hP:P.Nodup):(∀x∈P,C.count x=1) ↔ (C.Nodup/\C.length=P.length):=by
 constructor
 ·intro h;have hn:C.Nodup:=by
   grind
  refine⟨hn,?_⟩;have h1:=ie hn hs;have h2:=ie hP (l:=C) (fun x hx=>List.count_pos_iff.1 (by grind));omega
 ·rintro⟨hn,hl⟩ x hx
  have hp:=Bcz hn hs hl;have:=hn.count (a:=x);rw[this,if_pos (hp.mem_iff.2 hx)]
def Vy (q:List G9):List Int:=q.flatMap (fun x=>x.L)
def Vx (q:List G9):List Int:=q.flatMap (fun x=>if x.d=0 then []else [Ap x.d 1])
def Xz (l:List Fy)(q:List G9):List Int:=q.flatMap (fun x=>Vq l x.i)
theorem Bdd{α β:Type}(q:List α)(f:α->List β)(i:Nat)(h:i<q.length):(q.take (i+1)).flatMap f=(q.take i).flatMap f++f q[i]:=by
 grind [List.take_append_getElem]
theorem A26{α β:Type}(q:List α)(f:α->List β)(m:Nat)(h: ∀x∈q,(f x).length<=m):(q.flatMap f).length<=q.length*m:=by
 induction q with
 |nil=>simp
 |cons x q ih=>
  have h1:=h x (by simp);have h2:=ih fun y hy=>h y (by simp[hy])
  simp only[List.flatMap_cons,Jd,Z28,D6,Nat.one_mul];omega
def lw (w:H4):List Int:=((List.range w.Q.c.length).filter (fun k:Nat=>gt w.Q.c k==2)).map (fun k:Nat=>(k:Int))
def lz (w:H4):List Int:=((List.range w.o.length).filter (fun k:Nat=>(gt w.o k).c==2)).map (fun k:Nat=>(k:Int))
def Ae3 (w:H4):List Int:=((List.range w.o.length).filter (fun k:Nat=>Yw w.o k)).map (fun k:Nat=>(k:Int))
theorem A7b (N:Nat)(p:Nat->Bool):(((List.range N).filter p).map (fun k:Nat=>(k:Int))).Nodup:=by
 grind [List.pairwise_lt_range,List.Pairwise.imp]
theorem bi{N:Nat}{p:Nat->Bool}{x:Int}:x∈((List.range N).filter p).map (fun k:Nat=>(k:Int)) ↔ (0<=x/\x<(N:Int))/\p x.toNat=true:=by
 grind
def bj (w:H4)(N:Nat):Bool:=
 (List.range w.Q.c.length).all (fun k=> !(gt w.Q.c k==2)||gt (Vr N (Vy w.p)) k==1)&&
 (List.range w.o.length).all (fun k=>(!((gt w.o k).c==2)||gt (Vr w.o.length (Vx w.p)) k==1)&&(!Yw w.o k||gt (Vr w.o.length (Xz w.o w.p)) k==1))
def qb (q:List G9)(i k:Nat):Bool:= !((gt q i).d != 0&&(gt q k).d==(gt q i).d)&&(gt q i).L.all (fun y=> !(gt q k).L.contains y)
def A7c (q:List G9):Bool:=(List.range q.length).all (fun i=>(List.range i).all (fun k=>qb q i k))
def tv (l:List Int):Bool:=(List.range l.length).all (fun i=> !(l.take i).contains (gt l i))
def A27 (w:H4):Bool:=
 A7c w.p&&(tv (Xz w.o w.p)&&((((Vy w.p).length:Int)==((lw w).length:Int))&&((((Vx w.p).length:Int)==((lz w).length:Int))&&(((Xz w.o w.p).length:Int)==((Ae3 w).length:Int)))))
theorem Btp (l:List Int):tv l=true ↔ l.Nodup:=by
 grind [A69,tv,K1]
theorem Btq{w:H4}{q:List G9}(h1: ∀x∈q,x.L.Nodup)(h2: ∀x∈q,0<=x.d/\x.d<=8):A7c q=true ↔ (Vy q).Nodup/\(Vx q).Nodup:=by
 unfold Vy Vx List.Nodup;rw[List.pairwise_flatMap,List.pairwise_flatMap,List.pairwise_iff_getElem,List.pairwise_iff_getElem];have hs: ∀x∈q,List.Pairwise (fun a b:Int=>a≠b) (if x.d=0 then []else [Ap x.d 1]):=by
  intro x _;split<;>simp
 have hsub: ∀x∈q,Ap x.d 1=x.d - 1:=by
  grind [Ap,Aly,Vs]
 unfold A7c qb;simp only[Z1,List.mem_range,Z4,Gg,List.contains_eq_mem,decide_eq_false_iff_not];constructor
 ·intro h;refine⟨⟨h1,fun i j hi hj hij x hx y hy e=> ?_⟩,hs,fun i j hi hj hij x hx y hy e=> ?_⟩
  ·have:=(h j hj i hij).2
   grind [K1]
  ·have:=(h j hj i hij).1;simp_all[K1]
 ·rintro⟨⟨_,h3⟩,_,h4⟩ i hi k hk
  have hk':k<q.length:=by omega
  rw[K1 hi,K1 hk'];refine⟨?_,fun x hx hy=>h3 k i hk' hi hk x hy x hx rfl⟩;rw[Bool.and_eq_false_iff];by_cases g:q[i].d=0
  ·grind
  ·right;rw[beq_eq_false_iff_ne];intro e;refine h4 k i hk' hi hk (Ap q[k].d 1) ?_ (Ap q[i].d 1) ?_ (by rw[e])
   all_goals grind
theorem Btr{w:H4}(hp:Xh w.C w.Q=true)(hL:(w.o.length:Int)=w.C.l)(hq: ∀x∈w.p,X8 w x=true):bj w w.C.L.toNat=A27 w:=by
 obtain⟨hc,hm,hst,_⟩:=Zq hp;have b0:=Gy hc;have hone: ∀x∈w.p,(0<=x.d/\x.d<=w.C.l)/\Xs w.C x.L=true/\qa w x=true/\fa w x=true/\Za w x=true:=by
  intro x hx;have:=hq x hx;unfold X8 at this;simp only[Z4]at this;obtain⟨h1,h2,h3,h4,h5,h6⟩:=this;obtain⟨_,g1,_,g3,_⟩:=ic h1
  grind
 have hC: ∀x∈Vy w.p,x∈lw w:=by
  intro y hy;unfold Vy at hy;rw[List.mem_flatMap]at hy;obtain⟨x,hx,hy⟩:=hy;obtain⟨_,g2,g3,_⟩:=hone x hx;have:=bh g2 y hy;unfold qa at g3;rw[Z1]at g3;have g4:=g3 y hy;refine bi.2 ⟨⟨this.1,by omega⟩,?_⟩
  grind
 have hS: ∀x∈Vx w.p,x∈lz w:=by
  intro y hy;unfold Vx at hy;rw[List.mem_flatMap]at hy;obtain⟨x,hx,hy⟩:=hy;obtain⟨g1,g2,g3,g4,_⟩:=hone x hx;split at hy
  ·cases hy
  ·rename_i g;simp only[Dt]at hy;unfold fa at g4;rw[Wn g,Z52,<-hy]at g4;have:y=x.d - 1:=by grind [Ap,Aly,Vs]
   refine bi.2 ⟨⟨by omega,by omega⟩,?_⟩
   grind
 have hK2: ∀x∈Xz w.o w.p,x∈Ae3 w:=by
  intro y hy;unfold Xz at hy;rw[List.mem_flatMap]at hy;obtain⟨x,hx,hy⟩:=hy;obtain⟨g1,g2,g3,g4,g5⟩:=hone x hx;unfold Za at g5;rw[Z1]at g5;have:=Aei _ _ y hy;refine bi.2 ⟨this,?_⟩
  grind
 have e1:=A7a hC (A7b _ _);have e2:=A7a hS (A7b _ _);have e3:=A7a hK2 (A7b _ _);have hp2:=Btq (w:=w) (q:=w.p) (fun x hx=>pz (hone x hx).2.1) (fun x hx=>by grind);rw[Bool.eq_iff_iff];unfold bj A27;simp only[Z4,Z1,List.mem_range,Bool.or_eq_true,Gg,beq_iff_eq,Btp,hp2,beq_eq_false_iff_ne];have c1:(∀x∈lw w,(Vy w.p).count x=1) ↔ ∀k,k<w.Q.c.length->gt w.Q.c (k:Int)≠2\/gt (Vr w.C.L.toNat (Vy w.p)) (k:Int)=1:=by
  constructor
  ·intro h k hk;by_cases g:gt w.Q.c (k:Int)=2
   ·right;rw[lu (by omega) (by omega),h k (bi.2 ⟨⟨by omega,by omega⟩,by grind⟩)];rfl
   omega
  ·intro h x hx;obtain⟨⟨h1,h2⟩,h3⟩:=bi.1 hx;rw[beq_iff_eq,show((x.toNat:Nat):Int)=x by omega]at h3;rcases h x.toNat (by omega)with h4|h4
   ·grind
   ·rw[show((x.toNat:Nat):Int)=x by omega,lu h1 (by omega)]at h4;omega
 have c2:(∀x∈lz w,(Vx w.p).count x=1) ↔ ∀k,k<w.o.length->(gt w.o (k:Int)).c≠2\/gt (Vr w.o.length (Vx w.p)) (k:Int)=1:=by
  constructor
  ·intro h k hk;by_cases g:(gt w.o (k:Int)).c=2
   ·right;rw[lu (by omega) (by omega),h k (bi.2 ⟨⟨by omega,by omega⟩,by grind⟩)];rfl
   omega
  ·intro h x hx;obtain⟨⟨h1,h2⟩,h3⟩:=bi.1 hx;rw[beq_iff_eq,show((x.toNat:Nat):Int)=x by omega]at h3;rcases h x.toNat (by omega)with h4|h4
   ·grind
   ·rw[show((x.toNat:Nat):Int)=x by omega,lu h1 (by omega)]at h4;omega
 have c3:(∀x∈Ae3 w,(Xz w.o w.p).count x=1) ↔ ∀k,k<w.o.length->Yw w.o (k:Int)=false\/gt (Vr w.o.length (Xz w.o w.p)) (k:Int)=1:=by
  constructor
  ·intro h k hk;cases g:Yw w.o (k:Int)with
   |true=>
    right;rw[lu (by omega) (by omega),h k (bi.2 ⟨⟨by omega,by omega⟩,by grind⟩)];rfl
   |false=>left;rfl
  ·intro h x hx;obtain⟨⟨h1,h2⟩,h3⟩:=bi.1 hx;rw[show((x.toNat:Nat):Int)=x by omega]at h3;rcases h x.toNat (by omega)with h4|h4
   ·grind
   ·rw[show((x.toNat:Nat):Int)=x by omega,lu h1 (by omega)]at h4;omega
 grind
theorem A28{α β:Type}{K:Nat}(hK:2^48<=K)(l:List α)(hl:l.length<=140737488355328)(q:α->Bool)(fin bad:Option β)(L:Nat->Nat->Option β)
  (hs: ∀n (i:Nat) (h:i<l.length),L (n+1) i=bif q l[i]then L n (i+1)else bad)
  (he: ∀n,L (n+1) l.length=fin):L K 0=bif l.all q then fin else bad:=by
 have:=Bcu l q fin bad (fun n i=>L n i.toNat) (fun n i h=>by grind) (fun n=>by simp_all) K 0 (Hc _) (by omega)
 grind
section
variable {K:Nat} (hK:2^48<=K)
include hK
theorem Bts (w:H4)(hw:Wa w):cj K (Vr w.o.length (Vx w.p)) (Vr w.o.length (Xz w.o w.p)) w.o K (w.o.length:Int) 0 w.o=some ((List.range w.o.length).all (fun k=>(!((gt w.o (k:Int)).c==2)||gt (Vr w.o.length (Vx w.p)) k==1)&&(!Yw w.o k||gt (Vr w.o.length (Xz w.o w.p)) k==1))):=by
 have hl:=Wx hw.l;rw[Yt hK w.o.length (by omega) (fun k=>(!((gt w.o (k:Int)).c==2)||gt (Vr w.o.length (Vx w.p)) k==1)&&(!Yw w.o k||gt (Vr w.o.length (Xz w.o w.p)) k==1)) (some true) (fun n i=>cj K (Vr w.o.length (Vx w.p)) (Vr w.o.length (Xz w.o w.p)) w.o n (w.o.length:Int) i w.o) (fun n i h=> ?_) (fun n=> ?_)]
 ·grind
 ·simp only[cj,tc];rw[Pz h,cond_true,if_pos (Gz h),Bda K hw.l (Gz h),K0 (by omega)];simp only[Z0,A25,if_pos (Gz h),bne,Wl]
  grind
 ·show cj K _ _ _ (n+1) _ _ _=_;simp_all[cj]
theorem Btt (w:H4)(hw:Wa w)(hp:Xh w.C w.Q=true):gv K (Vr w.C.L.toNat (Vy w.p)) (Vr w.o.length (Vx w.p)) (Vr w.o.length (Xz w.o w.p)) w.Q.c w.o K (w.Q.c.length:Int) 0 w.Q.c=some (bj w w.C.L.toNat):=by
 obtain⟨hc,hm,hst,_⟩:=Zq hp;have b0:=Gy hc;rw[Yt hK w.Q.c.length (by omega) (fun k=> !(gt w.Q.c k==2)||gt (Vr w.C.L.toNat (Vy w.p)) k==1) (some ((List.range w.o.length).all (fun k=>(!((gt w.o (k:Int)).c==2)||gt (Vr w.o.length (Vx w.p)) k==1)&&(!Yw w.o k||gt (Vr w.o.length (Xz w.o w.p)) k==1)))) (fun n i=>gv K (Vr w.C.L.toNat (Vy w.p)) (Vr w.o.length (Vx w.p)) (Vr w.o.length (Xz w.o w.p)) w.Q.c w.o n (w.Q.c.length:Int) i w.Q.c) (fun n i h=> ?_) (fun n=> ?_)]
 ·rw[Yn];rfl
 ·simp only[gv,A2a];rw[Pz h,cond_true,if_pos (Gz h),K0 (by omega)];simp only[A25,if_pos (show(0:Int)<=(i:Int)/\(i:Int)<((w.C.L.toNat:Nat):Int) from⟨by omega,by omega⟩),bne,Wl]
  grind
 ·show gv K _ _ _ _ _ (n+1) _ _ _=_;rw[gv,Wu (Z9 _),cond_false,Bts hK w hw]
theorem Bde{β:Type}(N:Nat)(base l:List Int)(hin: ∀x∈l,0<=x/\x<(N:Int))(hl:base.length+l.length<=140737488355327)(q:Int->Bool)(fin bad:Option β)(L:Nat->List Int->Int->Option β)
  (hs: ∀n v (i:Nat) (h:i<l.length),v.length=N->L (n+1) v (i:Int)=bif q l[i]then L n (v.set (l[i]).toNat (A4 (gt v l[i]) 1)) ((i+1:Nat):Int)else bad)
  (he: ∀n,L (n+1) (Vr N (base++l)) (l.length:Int)=fin):L K (Vr N base) 0=bif l.all q then fin else bad:=by
 have:=A28 hK l (by omega) q fin bad (fun n i=>L n (Vr N (base++l.take i)) (i:Int)) (fun n i h=> ?_) (fun n=> ?_)
 ·grind
 ·have hb:(base++l.take i).length<=140737488355327:=by grind
  simp_all[A25,Bdc]
 grind
theorem Btu (w:H4)(hw:Wa w)(hp:Xh w.C w.Q=true)(hL:(w.o.length:Int)=w.C.l)(x:G9)(hx:Zj x)(c s d:List Int)(i:Nat)(n:Nat)(hi:i<w.p.length)(he:gt w.p i=x)
  (hb1:c.length+12<=140737488355327) (hb2:s.length<=140737488355326) (hb3:d.length+8<=140737488355327):
  Ys K (n+1) (Vr w.C.L.toNat c) (Vr w.o.length s) (Vr w.o.length d) w.p (w.p.length:Int) i w.C.L w.C.k w.C.l w.C.e w.C.m w.C.n w.Q.g w.Q.c w.Q.h w.o w.p w.q
   =bif X8 w x then Ys K n (Vr w.C.L.toNat (c++x.L)) (Vr w.o.length (s++if x.d=0 then []else [Ap x.d 1])) (Vr w.o.length (d++Vq w.o x.i)) w.p (w.p.length:Int) ((i+1:Nat):Int) w.C.L w.C.k w.C.l w.C.e w.C.m w.C.n w.Q.g w.Q.c w.Q.h w.o w.p w.q else some false:=by
 have hq:=hw.q.2;rw[Ys];rw[show Sv.mk w.C.L w.C.k w.C.l w.C.e w.C.m w.C.n=w.C from rfl,show Pc.mk w.Q.g w.Q.c w.Q.h=w.Q from rfl];rw[Pz hi,cond_true,if_pos (Gz hi),he,Btl hK _ _ hx,Z0];unfold X8;cases hr:X2 w.C x with
 |false=>rfl
 |true=>
 rw[cond_true,Z30];obtain⟨hc,⟨s1,s2⟩,⟨f1,f2⟩,hd,d1,d2⟩:=ic hr;obtain⟨_,hm,hst,_⟩:=Zq hp;have b0:=Gy hc;have hch:=bh hd;have hcl:=Y9 hc hd;have h5: ∀s',zn K (Vr w.o.length d) w.p (w.p.length:Int) i w.C.L w.C.k w.C.l w.C.e w.C.m w.C.n w.Q.g w.Q.c w.Q.h w.o w.p w.q x.i (Vr w.C.L.toNat (c++x.L)) s' (Ys K n)
   =bif Za w x then Ys K n (Vr w.C.L.toNat (c++x.L)) s' (Vr w.o.length (d++Vq w.o x.i)) w.p (w.p.length:Int) ((i+1:Nat):Int) w.C.L w.C.k w.C.l w.C.e w.C.m w.C.n w.Q.g w.Q.c w.Q.h w.o w.p w.q else some false:=by
  intro s';have hk:=tu (l:=w.o) w.o.length (Ap x.i 1);have hin:=Aei (l:=w.o) w.o.length (Ap x.i 1);unfold zn Za;rw[A24 hK hw.l,Z0];change (Vq w.o x.i).length<=_ at hk;change ∀y∈Vq w.o x.i,_ at hin;generalize Vq w.o x.i=r at*;refine Bde hK w.o.length d r hin (by omega) (Yw w.o) _ _ (fun m v j=>pg K w.p (w.p.length:Int) i w.C.L w.C.k w.C.l w.C.e w.C.m w.C.n w.Q.g w.Q.c w.Q.h w.o w.p w.q (Vr w.C.L.toNat (c++x.L)) s' r (Ys K n) m v (r.length:Int) j) (fun m v j hj hv=> ?_) (fun m=> ?_)
  ·have hr1:=hin _ (Xe hj);simp only[pg];rw[Pz hj,cond_true,if_pos (Gz hj),if_pos (by omega),if_pos (by omega),Bda K hw.l hr1,K0 (by omega),Z0,Wl,K1 hj]
  ·show pg K _ _ _ _ _ _ _ _ _ _ _ _ _ _ _ _ _ _ _ (m+1) _ _ _=_;rw[pg,Wu (Z9 _),cond_false,K0 (by omega)]
 have h4: ∀s',zo K (Vr w.o.length d) w.p (w.p.length:Int) i w.C.L w.C.k w.C.l w.C.e w.C.m w.C.n w.Q.g w.Q.c w.Q.h w.o w.p w.q x.i (Vr w.C.L.toNat (c++x.L)) (Ys K n) s'
   =bif ig w x&&Za w x then Ys K n (Vr w.C.L.toNat (c++x.L)) s' (Vr w.o.length (d++Vq w.o x.i)) w.p (w.p.length:Int) ((i+1:Nat):Int) w.C.L w.C.k w.C.l w.C.e w.C.m w.C.n w.Q.g w.Q.c w.Q.h w.o w.p w.q else some false:=by
  intro s';unfold zo ig;rw[h5];by_cases g:x.i=0
  ·grind
  ·rw[decide_eq_true (by omega),cond_true,if_pos (Ae2 hK hL hc g f1 f2),Wn g]
   grind
 have h2:zp K (Vr w.C.L.toNat c) (Vr w.o.length s) (Vr w.o.length d) w.p (w.p.length:Int) i w.C.L w.C.k w.C.l w.C.e w.C.m w.C.n w.Q.g w.Q.c w.Q.h w.o w.p w.q (Ys K n) x.d x.i x.j x.L x.z
   =bif qa w x&&(fa w x&&(ig w x&&Za w x))then Ys K n (Vr w.C.L.toNat (c++x.L)) (Vr w.o.length (s++if x.d=0 then []else [Ap x.d 1])) (Vr w.o.length (d++Vq w.o x.i)) w.p (w.p.length:Int) ((i+1:Nat):Int) w.C.L w.C.k w.C.l w.C.e w.C.m w.C.n w.Q.g w.Q.c w.Q.h w.o w.p w.q else some false:=by
  unfold zp;rw[Bde hK w.C.L.toNat c x.L (fun y hy=>by grind) (by omega) (fun k=>gt w.Q.c k==2)
   (bif fa w x&&(ig w x&&Za w x)then Ys K n (Vr w.C.L.toNat (c++x.L)) (Vr w.o.length (s++if x.d=0 then []else [Ap x.d 1])) (Vr w.o.length (d++Vq w.o x.i)) w.p (w.p.length:Int) ((i+1:Nat):Int) w.C.L w.C.k w.C.l w.C.e w.C.m w.C.n w.Q.g w.Q.c w.Q.h w.o w.p w.q else some false) (some false)
   (fun m v j=>ph K (Vr w.o.length s) (Vr w.o.length d) w.p (w.p.length:Int) i w.C.L w.C.k w.C.l w.C.e w.C.m w.C.n w.Q.g w.Q.c w.Q.h w.o w.p w.q x.d x.i x.L (Ys K n) m v (x.L.length:Int) j x.L) (fun m v j hj hv=> ?_) (fun m=> ?_)]
  ·unfold qa
   grind
  ·have hr1:=hch _ (Xe hj);simp only[ph];rw[Pz hj,cond_true,if_pos (Gz hj),if_pos (by omega),if_pos (by omega),if_pos ⟨hr1.1,by omega⟩,K0 (by omega),bne,Wl,K1 hj]
  ·show ph K _ _ _ _ _ _ _ _ _ _ _ _ _ _ _ _ _ _ _ _ _ (m+1) _ _ _ _=_;rw[ph,Wu (Z9 _),cond_false,h4,h4,A25];unfold fa;by_cases g:x.d=0
   ·grind
   ·have hlk:=Ae2 hK hL hc g s1 s2;rw[decide_eq_true (by omega),cond_true,if_pos hlk,if_pos hlk,if_neg g,Bdc hlk.1 hlk.2 (by omega),Wn g]
    grind
 rw[h2];unfold Yk;by_cases g:(x.L.length:Int)>0
 ·have h5:=hch _ (Wi (l:=x.L) (Int.le_refl 0) (by omega));obtain⟨e1,e2,e3,e4⟩:=ld hc hm h5.1 h5.2;have hlc:(Yf w.C w.Q.g (gt x.L 0)).length=w.C.k.toNat:=by grind [Yf]
  have htk:List.take (x.z - 0).toNat (List.drop (0:Int).toNat (Yf w.C w.Q.g (gt x.L 0)))=List.take x.z.toNat (List.drop (gt x.L 0*w.C.k).toNat w.Q.g):=by
   unfold Yf;simp only[Int.sub_zero,Int.toNat_zero,Hf,List.take_take];rw[Nat.min_eq_left (by omega)]
  rw[decide_eq_true g,cond_true,if_pos (by omega),A6r hK hc hm h5.1 h5.2,Z0,if_pos ⟨by omega,by omega,by rw[hlc];omega⟩,htk,A2z hK _ (by simp;omega)];simp only[Z0,Wl,Bool.not_true,Z52];cases Wd (List.take x.z.toNat (List.drop (gt x.L 0*w.C.k).toNat w.Q.g))<;>cases qa w x<;>rfl
 ·rw[decide_eq_false g];simp only[cond_false,Bool.not_false,Bool.true_or,Z30]
theorem Bdf (q:List G9):(Vx q).length<=q.length:=by
 have:=A26 q (fun x=>if x.d=0 then []else [Ap x.d 1]) 1 (fun x _=>by grind)
 grind [Vx]
theorem A7d (l:List Fy)(hl:l.length<=8)(q:List G9):(Xz l q).length<=q.length*8:=
 A26 _ _ 8 fun x _=>Dn (tu _ _) hl
end
theorem A7e{β:Type}(N:Nat)(hN:N<=140737488355327)(q:Nat->Bool)(fin:Int->Option β)(L:Nat->Int->Int->Option β)
  (hs: ∀n (v:Int) (i:Nat),i<N->0<=v->v<=i->L (n+1) v (i:Int)=bif q i then L n (v+1) ((i+1:Nat):Int)else L n v ((i+1:Nat):Int))
  (he: ∀n v,L (n+1) v (N:Int)=fin v):
  ∀(n i:Nat) (v:Int),0<=v->v<=i->i<=N->N - i<n->L n v (i:Int)=fin (v+((((List.range N).drop i).filter q).length:Int)):=by
 intro n;induction n with
 |zero=>omega
 |succ n ih=>
  intro i v h0 hv hi hn;rcases Bj i N with h|h
  ·rw[hs n v i h h0 hv,Z47 (by grind),List.getElem_range,List.filter_cons];cases hq:q i with
   |true=>
    rw[cond_true,ih (i+1) _ (by omega) (by omega) (by omega) (by omega)]
    grind
   |false=>
    grind
  grind
theorem A29{v:Int}(h0:0<=v)(h:v<=140737488355328):A4 v 1=v+1:=by grind [A4,Fp,Vs]
section
variable {K:Nat} (hK:2^48<=K)
include hK
theorem Btv (w:H4)(hw:Wa w)(hp:Xh w.C w.Q=true)(hL:(w.o.length:Int)=w.C.l):A2b K w=some (w.p.all (X8 w)&&bj w w.C.L.toNat):=by
 obtain⟨hc,hm,hst,_⟩:=Zq hp;have b0:=Gy hc;have hq:=hw.q.2;have key: ∀(n i:Nat),(∀x∈w.p.take i,X8 w x=true)->i<=w.p.length->w.p.length - i<n->
   Ys K n (Vr w.C.L.toNat (Vy (w.p.take i))) (Vr w.o.length (Vx (w.p.take i))) (Vr w.o.length (Xz w.o (w.p.take i))) w.p (w.p.length:Int) i w.C.L w.C.k w.C.l w.C.e w.C.m w.C.n w.Q.g w.Q.c w.Q.h w.o w.p w.q=some ((w.p.drop i).all (X8 w)&&bj w w.C.L.toNat):=by
  intro n;induction n with
  |zero=>omega
  |succ n ih=>
   intro i hpre hi hn;rcases Bj i w.p.length with h|h
   ·have hb1:(Vy (w.p.take i)).length<=(w.p.take i).length*12:=A26 _ _ 12 fun x hx=>by
     have:=hpre x hx;unfold X8 at this;simp only[Z4]at this;obtain⟨hc,_,_,hd,_⟩:=ic this.1;exact Y9 hc hd
    have hb2:=Bdf hK (w.p.take i);have hb3:=A7d hK w.o (by omega) (w.p.take i);rw[List.length_take]at hb1 hb2 hb3;rw[Btu hK w hw hp hL w.p[i] (hw.q.1 _ (List.getElem_mem h)) _ _ _ i n h (K1 h) (by omega) (by omega) (by omega),Z47 h,Bb];cases hx:X8 w w.p[i]with
    |false=>rfl
    |true=>
     rw[cond_true,Z30,<-ih (i+1) (fun x hx2=>by
      grind [List.take_append_getElem]) h (by omega)]
     simp_all[Vy,Vx,Xz,Bdd]
   ·obtain rfl:i=w.p.length:=by omega
    rw[Ys,Wu (Z9 _),cond_false,List.take_length,Btt hK w hw hp,List.drop_length];rfl
 unfold A2b;rw[if_pos (by omega),if_pos (by omega),if_pos (by omega)];have:=key K 0 (fun x hx=>by simp at hx) (Hc _) (by omega);rw[List.take_zero,Hf,show Vy []=[] from rfl,show Vx []=[] from rfl,show Xz w.o []=[] from rfl,Bdb,Bdb]at this
 grind
theorem Btw (p:Pc)(st:Int)(hl:p.c.length<=140737488355327):Azv K p st=some ((((List.range p.c.length).filter (fun k:Nat=>gt p.c k==st)).length:Nat):Int):=by
 unfold Azv;have:=A7e p.c.length hl (fun k:Nat=>gt p.c k==st) some (fun n v i=>ke K st n v i p.g p.c p.h) (fun n v i hi h0 hv=> ?_) (fun n v=> ?_) K 0 0 (Int.le_refl _) (Int.le_refl _) (Hc _) (by omega)
 ·grind
 ·simp only[ke,Azu];rw[Pz hi,cond_true,if_pos (Gz hi),K0 (by omega),A29 h0 (by omega)]
 ·show ke K st (n+1) v _ _ _ _=_;simp_all[ke]
theorem Bdg (l:List Fy)(st:Int)(hl:l.length<=140737488355327):rf K l st=some ((((List.range l.length).filter (fun k:Nat=>(gt l k).c==st)).length:Nat):Int):=by
 unfold rf;have:=A7e l.length hl (fun k:Nat=>(gt l k).c==st) some (fun n v i=>jq K l st n v i) (fun n v i hi h0 hv=> ?_) (fun n v=> ?_) K 0 0 (Int.le_refl _) (Int.le_refl _) (Hc _) (by omega)
 ·grind
 ·simp only[jq,Ayt];rw[Pz hi,cond_true,if_pos (Gz hi),K0 (by omega),A29 h0 (by omega)]
 ·show jq K l st (n+1) v _=_;simp_all[jq]
theorem Btx (w:H4)(hw:Wa w)(v1 v2:Int)(v3:List Int)(h3:v3.length<=140737488355327):
  dr K v1 v2 v3 w.Q.g w.Q.c w.Q.h w.o K 0 0=some (tv v3&&((v1==((lw w).length:Int))&&((v2==((lz w).length:Int))&&((v3.length:Int)==((Ae3 w).length:Int))))):=by
 have hl:=Wx hw.l;have hs:=Yj hK hw.p.st;have h8: ∀v24,ki K v1 v2 v3 w.Q.g w.Q.c w.Q.h w.o v24 K 0=some (tv v3&&((v1==((lw w).length:Int))&&((v2==((lz w).length:Int))&&((v3.length:Int)==v24)))):=by
  intro v24;rw[Yt hK v3.length (by omega) (fun i=> !(v3.take i).contains (gt v3 i)) (some ((v1==((lw w).length:Int))&&((v2==((lz w).length:Int))&&((v3.length:Int)==v24)))) (fun n i=>ki K v1 v2 v3 w.Q.g w.Q.c w.Q.h w.o v24 n i) (fun n i h=> ?_) (fun n=> ?_)]
  ·rw[Yn];rfl
  ·have hp:(v3.take i).length<=140737488355328:=by grind
   simp only[ki];rw[Pz h,cond_true,if_pos (Aef (by omega)),if_pos (Gz h),pr,gy hK _ _ hp,K0 (by omega),Z0,Wl]
  ·show ki K v1 v2 v3 _ _ _ _ v24 (n+1) _=_;simp_all[ki,Btw,Bdg,Yn,lw,lz]
 have:=A7e w.o.length hl (fun k:Nat=>Yw w.o k) (fun v=>some (tv v3&&((v1==((lw w).length:Int))&&((v2==((lz w).length:Int))&&((v3.length:Int)==v))))) (fun n v i=>dr K v1 v2 v3 w.Q.g w.Q.c w.Q.h w.o n v i) (fun n v i hi h0 hv=> ?_) (fun n v=> ?_) K 0 0 (Int.le_refl _) (Int.le_refl _) (Hc _) (by omega)
 ·rw[show((0:Nat):Int)=0 from rfl]at this;simp_all[Ae3]
 ·simp only[dr,Azx];rw[Pz hi,cond_true,Bc9 K hw.l (Gz hi),Z0,K0 (by omega),A29 h0 (by omega)]
 ·show dr K v1 v2 v3 _ _ _ _ (n+1) v _=_;simp_all[dr]
theorem Bty (w:H4)(hw:Wa w)(i n:Nat)(hi:i<w.p.length)(v1 v2:Int)(v3:List Int)(h1:0<=v1/\v1<=70368744177664)(h2:0<=v2/\v2<=70368744177664)(h3:(v3.length+w.o.length)*8<=140737488355327)(hcl:(gt w.p i).L.length<=12):
  az K (n+1) v1 v2 v3 i w.C.L w.C.k w.C.l w.C.e w.C.m w.C.n w.Q.g w.Q.c w.Q.h w.o w.p w.q
   =bif (List.range i).all (fun k=>qb w.p i k)then az K n (v1+((gt w.p i).L.length:Int)) (v2+((if(gt w.p i).d=0 then([]:List Int)else [Ap (gt w.p i).d 1]).length:Int)) (v3++Vq w.o (gt w.p i).i) ((i+1:Nat):Int) w.C.L w.C.k w.C.l w.C.e w.C.m w.C.n w.Q.g w.Q.c w.Q.h w.o w.p w.q else some false:=by
 have hq:=hw.q.2;have hm:=V8;have hx:=hw.q.1 _ (Xe hi);have hkl:=tu (l:=w.o) w.o.length (Ap (gt w.p i).i 1);change (Vq w.o (gt w.p i).i).length<=_ at hkl;have hJ: ∀v17 v18,xz K v3 i w.C.L w.C.k w.C.l w.C.e w.C.m w.C.n w.Q.g w.Q.c w.Q.h w.o w.p w.q (az K n) v17 v18
   =bif (List.range i).all (fun k=>qb w.p i k)then az K n v17 v18 (v3++Vq w.o (gt w.p i).i) ((i+1:Nat):Int) w.C.L w.C.k w.C.l w.C.e w.C.m w.C.n w.Q.g w.Q.c w.Q.h w.o w.p w.q else some false:=by
  intro v17 v18;unfold xz;have hlen:(v3++Vq w.o (gt w.p i).i).length=v3.length+(Vq w.o (gt w.p i).i).length:=by simp
  rw[if_pos (Gz hi),Aez hK hw.l hx.first,Z0,if_pos (by omega)];rw[Yt hK i (by omega) (fun k=>qb w.p i k) _ (fun m k=>kh K i w.C.L w.C.k w.C.l w.C.e w.C.m w.C.n w.Q.g w.Q.c w.Q.h w.o w.p w.q v17 v18 (az K n) m (v3++Vq w.o (gt w.p i).i) k) (fun m k hk=> ?_) (fun m=> ?_)]
  ·have hk2:k<w.p.length:=by omega
   have hlk:=Yj hK (hw.q.1 _ (Xe hk2)).chunks;have h4: ∀C:List Int->Int->Option Bool,xy K i w.p (v3++Vq w.o (gt w.p i).i) k C=bif (gt w.p i).L.all (fun y=> !(gt w.p k).L.contains y)then C (v3++Vq w.o (gt w.p i).i) ((k+1:Nat):Int)else some false:=by
    intro C;unfold xy;rw[Zi hK (gt w.p i).L (by omega) (fun y=> !(gt w.p k).L.contains y) _ (fun m j=>nt K i w.p (v3++Vq w.o (gt w.p i).i) k C m j) (fun m j hj=> ?_) (fun m=> ?_)]
    ·simp only[nt];rw[if_pos (Gz hi),Pz hj,cond_true,if_pos (Gz hk2),if_pos (Gz hj),gy hK _ _ (by omega),Z0,K0 (by omega),Wl,K1 hj,if_pos (Gz hi)]
    ·show nt K i w.p _ k C (m+1) _=_;rw[nt,if_pos (Gz hi),Wu (Z9 _),cond_false,K0 (by omega)]
   simp only[kh];rw[Pz hk,cond_true,if_pos (Gz hi),if_pos (Gz hk2),if_pos (Gz hi),h4];unfold qb
   grind
  ·show kh K i _ _ _ _ _ _ _ _ _ _ _ _ v17 v18 _ (m+1) _ _=_;rw[kh,Wu (Z9 _),cond_false,K0 (by omega)]
 rw[az,Pz hi,cond_true,if_pos (Gz hi),if_pos (Gz hi),hJ,hJ];have e1:A4 v1 ((gt w.p i).L.length:Int)=v1+((gt w.p i).L.length:Int):=by grind [A4,Fp,Vs]
 rw[e1,A29 h2.1 (by omega)]
 grind
theorem Btz (w:H4)(hw:Wa w)(hp:Xh w.C w.Q=true)(hL:(w.o.length:Int)=w.C.l)(hall: ∀x∈w.p,X8 w x=true):Azy K w=some (A27 w):=by
 obtain⟨hc,hm,hst,_⟩:=Zq hp;have b0:=Gy hc;have hq:=hw.q.2;have hc12: ∀x∈w.p,x.L.length<=12:=fun x hx=>by
  have:=hall x hx;unfold X8 at this;simp only[Z4]at this;obtain⟨hc,_,_,hd,_⟩:=ic this.1;exact Y9 hc hd
 have h3:=A7d hK w.o (by omega) w.p;unfold Azy;have:=A28 hK (List.range w.p.length) (by grind) (fun i=>(List.range i).all (fun k=>qb w.p i k)) (dr K ((Vy w.p).length:Int) ((Vx w.p).length:Int) (Xz w.o w.p) w.Q.g w.Q.c w.Q.h w.o K 0 0) (some false)
  (fun n i=>az K n ((Vy (w.p.take i)).length:Int) ((Vx (w.p.take i)).length:Int) (Xz w.o (w.p.take i)) (i:Int) w.C.L w.C.k w.C.l w.C.e w.C.m w.C.n w.Q.g w.Q.c w.Q.h w.o w.p w.q) (fun n i h=> ?_) (fun n=> ?_)
 ·rw[List.take_zero,show Vy []=[] from rfl,show Vx []=[] from rfl,show Xz w.o []=[] from rfl]at this;refine Eq.trans this ?_;rw[Btx hK w hw _ _ _ (by omega),Yn];rfl
 ·have hi:i<w.p.length:=by grind
  have hb1:(Vy (w.p.take i)).length<=(w.p.take i).length*12:=A26 _ _ 12 fun x hx=>hc12 x (Kk hx)
  have hb2:=Bdf hK (w.p.take i);have hb3:=A7d hK w.o (by omega) (w.p.take i);rw[List.length_take]at hb1 hb2 hb3;simp only[List.getElem_range];rw[Bty hK w hw i n hi _ _ _ ⟨by omega,by omega⟩ ⟨by omega,by omega⟩ (by omega) (hc12 _ (Xe hi))];simp_all[Vy,Vx,Xz,Bdd,K1]
 simp_all[az.eq_2]
end
def fc (w:H4):Bool:=
 Xh w.C w.Q&&(((w.o.length:Int)==w.C.l)&&((List.range w.o.length).all (ib w)&&(py w.o&&((w.p.all (X8 w)&&bj w w.C.L.toNat)&&w.q.all (fun x=>Qi x 0 255)))))
section
variable {K:Nat} (hK:2^48<=K)
include hK
theorem Bdh (w:H4)(hw:Wa w):zq K w=some (fc w):=by
 have hl:=Yj hK hw.log;unfold zq fc;rw[Bco hK,Z0];cases hp:Xh w.C w.Q with
 |false=>rfl
 |true=>
 rw[cond_true,Z30];cases hL:(w.o.length:Int)==w.C.l with
 |false=>rfl
 |true=>
 rw[beq_iff_eq]at hL;rw[cond_true,Z30,Bsx hK w hw hp,Btj hK hw.l,Btv hK w hw hp hL,A6t hK _ (by omega)];simp_all[Yn]
theorem A3a (w:H4)(hw:Wa w):oh K w=some (fc w):=by
 have hl:=Yj hK hw.log;have hl2:=Wx hw.l;have hq:=hw.q.2;unfold oh fc;rw[A6s hK,Z0];cases hp:Xh w.C w.Q with
 |false=>rfl
 |true=>
 rw[cond_true,Z30];cases hL:(w.o.length:Int)==w.C.l with
 |false=>grind
 |true=>
 rw[bne,hL,Bool.not_true,cond_false,Z30,Btd hK hw.l,Z0,Wl];rw[beq_iff_eq]at hL;have e1:Sv.mk w.C.L w.C.k w.C.l w.C.e w.C.m w.C.n=w.C:=rfl;have e2:H4.mk (Sv.mk w.C.L w.C.k w.C.l w.C.e w.C.m w.C.n) (Pc.mk w.Q.g w.Q.c w.Q.h) w.o w.p w.q=w:=rfl;have h3:w.p.all (X8 w)=true->kn K w.C.L w.C.k w.C.l w.C.e w.C.m w.C.n w.Q.g w.Q.c w.Q.h w.o w.p w.q K 0=some (w.q.all (fun x=>Qi x 0 255)&&bj w w.C.L.toNat):=by
  intro hall;rw[Z1]at hall;rw[Btr hp hL hall];rw[Zi hK w.q (by omega) (fun x=>Qi x 0 255) (some (A27 w)) (kn K w.C.L w.C.k w.C.l w.C.e w.C.m w.C.n w.Q.g w.Q.c w.Q.h w.o w.p w.q) (fun n i h=> ?_) (fun n=> ?_)]
  ·grind
  ·rw[kn,Pz h,cond_true,if_pos (Gz h),Xl,K0 (by omega),Z0,Wl,K1 h]
  simp_all[kn,Btz]
 have h2:og K w.C.L w.C.k w.C.l w.C.e w.C.m w.C.n w.Q.g w.Q.c w.Q.h w.o w.p w.q K 0=some (w.p.all (X8 w)&&(w.q.all (fun x=>Qi x 0 255)&&bj w w.C.L.toNat)):=by
  rw[Zi hK w.p (by omega) (X8 w) (kn K w.C.L w.C.k w.C.l w.C.e w.C.m w.C.n w.Q.g w.Q.c w.Q.h w.o w.p w.q K 0) (og K w.C.L w.C.k w.C.l w.C.e w.C.m w.C.n w.Q.g w.Q.c w.Q.h w.o w.p w.q) (fun n i h=> ?_) (fun n=> ?_)]
  ·grind
  ·rw[og,Pz h,cond_true,e2,Bto hK w hw hp hL i h,K0 (by omega),Z0,Wl,K1 h]
  simp_all[og]
 have h1:kq K K 0 w.C.L w.C.k w.C.l w.C.e w.C.m w.C.n w.Q.g w.Q.c w.Q.h w.o w.p w.q=some ((List.range w.o.length).all (ib w)&&(w.p.all (X8 w)&&(w.q.all (fun x=>Qi x 0 255)&&bj w w.C.L.toNat))):=by
  rw[Yt hK w.o.length (by omega) (ib w) (some (w.p.all (X8 w)&&(w.q.all (fun x=>Qi x 0 255)&&bj w w.C.L.toNat))) (fun n i=>kq K n i w.C.L w.C.k w.C.l w.C.e w.C.m w.C.n w.Q.g w.Q.c w.Q.h w.o w.p w.q) (fun n k hk=> ?_) (fun n=> ?_)]
  ·grind
  ·simp only[kq];rw[e2,e1];have hn:=hw.l.1 _ (Xe hk);have l1:=Yj hK hn.chunks;have l2:=A21 hK hn.things;have l3:=Yj hK hn.tags;rw[Pz hk,cond_true,if_pos (Gz hk),pu hK _ _ l1 l2 l3,Z0,Bss hK w k hk hw.p.st.2 l1,K0 (by omega),Bsk hK _ _ l1 l2];simp only[Z0];unfold ib;cases hb:Wv w.C (gt w.o k)with
   |false=>rfl
   |true=>
   cases lf w.Q k (gt w.o k).L with
   |false=>rfl
   |true=>
   cases hi:(gt w.o k).y.all (Xa w.C (gt w.o k).L)with
   |false=>grind
   |true=>
   have hs:=Bc3 hi;rw[Bsh hK _ l2 (fun t ht=>(hs t ht).1),Bsv hK w k hk hp hn hb hs];simp only[Z0,cond_true,Wl,Z30,if_pos (Gz hk)]
   grind
  ·show kq K (n+1) _ _ _ _ _ _ _ _ _ _ _ _ _=_;simp_all[kq]
 grind
end
theorem Bt0{n:Nat}(h:n<=reachBytes):n<=140737488355327:=by simp only[reachBytes]at h;omega
section
variable {K:Nat} (hK:2^48<=K)
include hK
end
theorem Bt1{x:Int}(h:Aaf x):0<=x/\x<=255:=by
 grind [Aaf,Lit.wf,IntKind.min,IntKind.max,IntKind.signed,IntKind.bits]
theorem Bt2{l:List Int}(h:A2x l):A6u l:=⟨fun x hx=>Bt1 (h.1 x hx),by have:=Bt0 h.2.1;omega⟩
theorem Bt3{α:Type}(l:List α)(i:Nat)(x y:α):(l.set i x).set i y=l.set i y:=List.set_set ..
section
variable {K:Nat} (hK:2^48<=K)
include hK
def one{α:Type}(_:α):Nat:=1
def da (x:Fy):Nat:=10+x.L.length+3*x.y.length+x.j.length
def Ae4 (p:Pc):Nat:=p.g.length+p.c.length+p.h.length
theorem A3b{α β:Type}(l:List α)(hl:l.length<=140737488355327)(fin:Option β)(L:Nat->List α->Int->Option β)
  (hs: ∀n v (i:Nat) (h:i<l.length),v.length=i->L (n+1) v (i:Int)=L n (v++[l[i]]) ((i+1:Nat):Int))
  (he: ∀n,L (n+1) l (l.length:Int)=fin):L K [] 0=fin:=by
 have:=A28 hK l (by omega) (fun _=>true) fin none (fun n i=>L n (l.take i) (i:Int)) (fun n i h=>by
  grind [List.take_append_getElem]) (fun n=>by grind)
 grind
omit hK in
theorem Ae5 (K:Nat){p:Pc}(w:X1 p):jr K p=some p:=by
 have hm:=V8;have h1:=w.mem.2;have h2:=w.st.2;have h3:=w.own.2;unfold jr;simp only[Hd];rw[if_pos (by omega),if_pos (by omega),if_pos (by omega)]
omit hK in
theorem ii (K:Nat){n:Fy}(w:Wo n):cd K n=some n:=by
 have hm:=V8;have h1:=w.chunks.2;have h2:=w.things.2;have h3:=w.tags.2;unfold cd;simp only[Hd];rw[if_pos (by omega),if_pos (by omega),if_pos (by omega)]
theorem A3c{l:List Fy}(w:V2 l):ng K l=some l:=by
 have hm:=V8;have h2:=w.2;unfold ng;refine A3b hK l (Wx w) (some l) (fun n v i=>nc K l n v i) (fun n v i h hv=> ?_) (fun n=> ?_)
 ·have hl:(v++[l[i]]).length=i+1:=by simp[hv]
  simp only[nc];rw[Pz h,cond_true,if_pos (Gz h),K1 h,ii K (w.1 _ (List.getElem_mem h)),Z0,if_pos (by omega),K0 (by omega)]
 ·show nc K l (n+1) _ _=_;simp_all[nc]
omit hK in
theorem Bt4 (K:Nat){x:G9}(w:Zj x):Azq K x=some x:=by
 have hm:=V8;have h1:=w.tags.2;have h2:=w.chunks.2;unfold Azq;simp only[Hd];rw[if_pos (by omega),if_pos (by omega)]
theorem Ae6{w:H4}(hw:Wa w):jz K w=some w:=by
 have hm:=V8;have h2:=hw.q.2;have h3:=hw.log.2;unfold jz;rw[Ae5 K hw.p,Z0,A3c hK hw.l,Z0];refine A3b hK w.p (by omega) (some w) (fun n v i=>ns K n i w.C.L w.C.k w.C.l w.C.e w.C.m w.C.n w.Q.g w.Q.c w.Q.h w.o v w.q (H4.mk (Sv.mk 0 0 0 0 0 0) (Pc.mk [] [] []) [] [] []) w.C.L w.C.k w.C.l w.C.e w.C.m w.C.n w.Q.g w.Q.c w.Q.h w.o w.p w.q) (fun n v i h hv=> ?_) (fun n=> ?_)
 ·have hl:(v++[w.p[i]]).length=i+1:=by simp[hv]
  simp only[ns];rw[Pz h,cond_true,if_pos (Gz h),K1 h,Bt4 K (hw.q.1 _ (List.getElem_mem h)),Z0,if_pos (by omega),K0 (by omega)]
 ·show ns K (n+1) _ _ _ _ _ _ _ _ _ _ _ _ _ _ _ _ _ _ _ _ _ _ _ _ _ _=_;rw[ns,Wu (Z9 _),cond_false];simp only[Hd];rw[if_pos (by omega)]
omit hK in
theorem A7f (K:Nat){p:Pc}(w:X1 p):sq K p=some p:=by
 unfold sq;rw[Bsl K w.mem.2,dx K w.st.2,dx K w.own.2];rfl
omit hK in
theorem Bt5 (K:Nat){n:Fy}(w:Wo n):A1d K n=some n:=by
 unfold A1d;rw[dx K w.chunks.2,Bsm K w.things.2,dx K w.tags.2];rfl
theorem Bdi{l:List Fy}(w:V2 l):yy K l=some l:=by
 have hm:=V8;have h2:=w.2;unfold yy;refine A3b hK l (Wx w) (some l) (fun n v i=>ou K l n v (l.length:Int) i) (fun n v i h hv=> ?_) (fun n=> ?_)
 ·have hl:(v++[l[i]]).length=i+1:=by simp[hv]
  simp only[ou];rw[Pz h,cond_true,if_pos (Gz h),K1 h,Bt5 K (w.1 _ (List.getElem_mem h)),Z0,if_pos (by omega),K0 (by omega)]
 ·show ou K l (n+1) _ _ _=_;simp_all[ou]
omit hK in
theorem Bt6 (K:Nat){x:G9}(w:Zj x):A1e K x=some x:=by
 unfold A1e;rw[dx K w.tags.2,dx K w.chunks.2];rfl
theorem Bt7{α:Type}(v:List α)(d x:α):(v++[d]).set (v.length:Int).toNat x=v++[x]:=by
 simp_all
theorem Bdj{w:H4}(hw:Wa w):yz K w=some w:=by
 have hm:=V8;have h2:=hw.q.2;unfold yz;rw[A7f K hw.p,Z0,Bdi hK hw.l,Z0,dx K hw.log.2,Z0];refine A3b hK w.p (by omega) (some w) (fun n v i=>ox K n w.p (w.p.length:Int) i (H4.mk w.C w.Q w.o v w.q) (H4.mk (Sv.mk 0 0 0 0 0 0) (Pc.mk [] [] []) [] [] [])) (fun n v i h hv=> ?_) (fun n=> ?_)
 ·simp only[ox];rw[Pz h,cond_true,if_pos (Gz h),K1 h,Bt6 K (hw.q.1 _ (List.getElem_mem h)),Z0,if_pos (by omega),K0 (by omega),Bt7 hK]
 ·show ox K (n+1) _ _ _ _ _=_;simp_all[ox]
end
def Ae7 (mem:List Int)(p n:Int):List Int×Bool:=if 0<=p/\0<=n/\p+n<=(mem.length:Int)then((mem.drop p.toNat).take n.toNat,true)else([],false)
theorem Bt8{mem:List Int}(a b:Nat):((mem.drop a).take b).length<=mem.length:=by grind
theorem Bdk (K:Nat){mem:List Int}(hl:mem.length<=140737488355327)(p n:Int):ye K mem p n=some (decide (0<=p/\0<=n/\p+n<=(mem.length:Int))):=by
 unfold ye;by_cases h1:(0:Int)<=p
 ·rw[decide_eq_true (show p>=0 from h1)];by_cases h2:(0:Int)<=n
  ·rw[decide_eq_true (show n>=0 from h2)];by_cases h3:p<=(mem.length:Int)
   ·rw[decide_eq_true h3];simp only[cond_true,Z7,decide_eq_decide]
    grind [Ap,Aly,Vs]
   ·rw[decide_eq_false h3];simp only[cond_true,cond_false,Z7]
    grind
  grind
 grind
theorem Bt9 (K:Nat){mem:List Int}(hl:mem.length<=140737488355327)(p n:Int):A0f K mem p n=some (Ae7 mem p n):=by
 unfold A0f Ae7;rw[Bdk K hl];simp only[Z0];by_cases h:0<=p/\0<=n/\p+n<=(mem.length:Int)
 ·rw[decide_eq_true h,if_pos h]
  try simp only[cond_true]
  have e:A4 p n=p+n:=by grind [A4,Fp,Vs]
  have hc:=Bt8 (mem:=mem) p.toNat (p+n - p).toNat;rw[e,if_pos (by omega),if_pos ⟨by grind,by grind [maxLen]⟩]
  grind
 grind
def A7g (mem:List Int)(t:H3)(at_ n:Int):List Int×Bool:=if 0<=at_/\0<=n/\at_+n<=t.D then Ae7 mem (A4 t.B at_) n else([],false)
theorem Bua{mem:List Int}{p n:Int}(h:p<0):Ae7 mem p n=([],false):=by unfold Ae7;grind
theorem Bub (K:Nat){mem:List Int}(hl:mem.length<=140737488355327){t:H3}(wt:ThingW t)(at_ n:Int):A0g K mem t at_ n=some (A7g mem t at_ n):=by
 obtain⟨wl1,wl2⟩:=wt.2.1;unfold A0g yd A7g;by_cases h1:(0:Int)<=at_
 ·rw[decide_eq_true (show at_>=0 from h1)];by_cases h2:(0:Int)<=n
  ·rw[decide_eq_true (show n>=0 from h2)];by_cases h3:at_<=t.D
   ·rw[decide_eq_true h3];have e:Ap t.D at_=t.D - at_:=by grind [Ap,Aly,Vs]
    rw[e];by_cases h4:n<=t.D - at_
    ·rw[decide_eq_true h4,if_pos ⟨h1,h2,by omega⟩];simp only[cond_true,Bt9 K hl];cases decide (t.B<0)with
     |true=>rfl
     |false=>
      by_cases h5:(0:Int)<=A4 t.B at_
      ·grind
      ·rw[decide_eq_false (show ¬A4 t.B at_>=0 from h5),Bua (by omega)];rfl
    grind
   grind
  grind
 grind
def Afd (w:H4)(h:Lz):Int:=((V0 w.o w.o.length (Y1 w.o h)).length:Int)
theorem Buc{l:List Fy}(hl:l.length<=140737488355327)(h:Lz):wfi (Y1 l h):=by
 by_cases h0:Y1 l h<0
 ·unfold Y1 at *;split at h0
  ·omega
  ·rename_i h1;rw[if_neg h1];exact⟨by omega,by omega⟩
 ·have:=A6z h0;exact⟨by omega,by omega⟩
section
variable {K:Nat} (hK:2^48<=K)
include hK
theorem qc (w:H4)(hw:V2 w.o)(h:Lz):dn K w h=some (Afd w h):=by
 have hl:=Wx hw;unfold dn wj;rw[Bc4 K hl,Z0,A22 hK hw _ (Buc hl h)];rfl
end
section
variable {β:Type} [Inhabited β]
end
theorem Bdl{β:Type}(f:β->Nat): ∀(l:List β) (i:Nat) (h:i<l.length) (x:β),((l.set i x).map f).sum+f l[i]=(l.map f).sum+f x
 |[],i,h,x=>by simp at h
 |y::l,0,h,x=>by grind
 |y::l,i+1,h,x=>by
  have:=Bdl f l i (by grind) x
  grind
theorem Afj{l:List Fy}(hl:V2 l)(i:Nat){x:Fy}(hx:Wo x):V2 (l.set i x):=
 ⟨fun y hy=>(Mv hy).elim (hl.1 y) (fun e=>e ▸ hx),by rw[Tb];exact hl.2⟩
def X9 (p:Pc)(k:Int):Pc:=if(0<=k/\k<(p.c.length:Int)/\k<(p.h.length:Int))/\gt p.c k=1 then Pc.mk p.g (p.c.set k.toNat 2) (p.h.set k.toNat (-1))else p
theorem A3d{p:Pc}(hp:X1 p)(k:Int):X1 (X9 p k)/\Ae4 (X9 p k)=Ae4 p:=by
 unfold X9;split
 ·refine⟨⟨hp.mem,⟨fun x hx=> ?_,by rw[Tb];exact hp.st.2⟩,⟨fun x hx=> ?_,by rw[Tb];exact hp.own.2⟩⟩,by simp[Ae4]⟩
  ·rcases Mv hx with h|h
   ·exact hp.st.1 x h
   ·subst h;exact⟨by omega,by omega⟩
  ·rcases Mv hx with h|h
   ·exact hp.own.1 x h
   ·subst h;exact⟨by omega,by omega⟩
 grind
theorem Bdm (K:Nat){p:Pc}(hp:X1 p)(k:Int):Ay2 K p k=some (X9 p k):=by
 have h1:=hp.st.2;unfold Ay2 rp X9;rw[Ae5 K hp,Z0,bd K (by omega),Z0]
 grind
theorem Bud (K:Nat){p:Pc}(hp:X1 p)(k:Int):A2g K p k=some (X9 p k):=by
 have h1:=hp.st.2;have h2:=hp.own.2;unfold A2g zt X9;have e:Ap (M6 (p.c.length:Int) (p.h.length:Int)) 1=M6 (p.c.length:Int) (p.h.length:Int) - 1:=by
  grind [Ap,Aly,M6,Vs]
 rw[A7f K hp,Z0,bb,Z0,e];by_cases hs:0<=k/\k<(p.c.length:Int)/\k<(p.h.length:Int)
 ·rw[V1.2 (by grind [M6]),cond_true,if_pos ⟨hs.1,hs.2.1⟩,if_pos ⟨hs.1,hs.2.1⟩,if_pos ⟨hs.1,hs.2.2⟩]
  grind
 ·rw[A2y.2 (by grind [M6]),if_neg (show ¬((0<=k/\k<(p.c.length:Int)/\k<(p.h.length:Int))/\gt p.c k=1) from fun x=>hs x.1)];rfl
def V9 (p:Pc)(l:List Int):Pc:=l.foldl X9 p
theorem Bue{p:Pc}(hp:X1 p)(l:List Int):X1 (V9 p l)/\Ae4 (V9 p l)=Ae4 p:=by
 unfold V9;induction l generalizing p with
 |nil=>grind
 |cons x l ih=>
  obtain⟨h1,h2⟩:=A3d hp x;obtain⟨h3,h4⟩:=ih h1;exact⟨h3,h4.trans h2⟩
theorem ij{α σ β:Type}{K:Nat}(hK:2^48<=K)(l:List α)(hl:l.length<=140737488355327)(f:σ->α->σ)(s0:σ)(I:σ->Prop)(hI:I s0)(hf: ∀s x,I s->I (f s x))(fin:Option β)(L:Nat->σ->Int->Option β)
  (hs: ∀n s (i:Nat) (h:i<l.length),I s->L (n+1) s (i:Int)=L n (f s l[i]) ((i+1:Nat):Int))
  (he: ∀n,L (n+1) (l.foldl f s0) (l.length:Int)=fin):L K s0 0=fin:=by
 have key: ∀(n i:Nat) (s:σ),I s->i<=l.length->l.length - i<n->(l.drop i).foldl f s=l.foldl f s0->L n s (i:Int)=fin:=by
  intro n;induction n with
  |zero=>omega
  |succ n ih=>
   grind [List.drop_eq_getElem_cons]
 exact key K 0 s0 hI (Hc _) (by omega) rfl
def Wc (n:Fy)(slot:Int):G9:=G9.mk slot n.i n.j n.L 0
def db (n:Fy):Fy:=Fy.mk n.c n.a (A4 n.f 1) n.s n.t 0 n.u n.v [] 0 0 [] []
theorem A3e (K:Nat){n:Fy}(hn:Wo n)(s:Int):jv K n s=some (Wc n s):=by
 have hm:=V8;have h1:=hn.tags.2;have h2:=hn.chunks.2;unfold jv;simp only[Hd];rw[if_pos (by omega),if_pos (by omega)];rfl
theorem Bdn (K:Nat){n:Fy}(hn:Wo n)(s:Int):sm K n s=some (Wc n s):=by
 unfold sm;rw[dx K hn.tags.2,dx K hn.chunks.2];rfl
theorem Buf (K:Nat){n:Fy}(hn:Wo n):Azl K n=some (db n):=by
 unfold Azl;rw[ii K hn];rfl
theorem Wj:wfi 0:=⟨by decide,by decide⟩
theorem ik:Y0 []:=⟨(fun x hx=>by cases hx),(by simp)⟩
theorem A3f:A6v []:=⟨(fun x hx=>by cases hx),(by simp)⟩
theorem Bdo{n:Fy}(hn:Wo n){s:Int}(hs:wfi s):Zj (Wc n s):=⟨hs,hn.first,hn.tags,hn.chunks,Wj⟩
def bk (w:H4)(k:Int):H4:=H4.mk w.C (V9 w.Q (gt w.o k).L) (w.o.set k.toNat (db (gt w.o k))) (w.p++[Wc (gt w.o k) 0]) w.q
section
variable {K:Nat} (hK:2^48<=K)
include hK
theorem Bdp (w:H4)(hw:Wa w)(l:List Int)(hl:l.length<=140737488355327):ju K w l=some (H4.mk w.C (V9 w.Q l) w.o w.p w.q):=by
 unfold ju;refine ij hK l (by omega) X9 w.Q X1 hw.p (fun s x h=>(A3d h x).1) _ (fun n s i=>cf K l n i w.C.L w.C.k w.C.l w.C.e w.C.m w.C.n s.g s.c s.h w.o w.p w.q) (fun n s i h hs=> ?_) (fun n=> ?_)
 ·simp only[cf];rw[Pz h,cond_true,if_pos (Gz h),K1 h,show Pc.mk s.g s.c s.h=s from rfl,Bdm K hs,Z0,K0 (by omega)]
 ·show cf K l (n+1) _ _ _ _ _ _ _ _ _ _ _ _ _=_;rw[cf,Wu (Z9 _),cond_false];rfl
theorem Bug (w:H4)(hw:X1 w.Q){k:Int}(hk:0<=k/\k<(w.o.length:Int))(hl:(gt w.o k).L.length<=140737488355327):A2h K w k=some (H4.mk w.C (V9 w.Q (gt w.o k).L) w.o w.p w.q):=by
 unfold A2h;simp only[if_pos hk];refine ij hK (gt w.o k).L (by omega) X9 w.Q X1 hw (fun s x h=>(A3d h x).1) _ (fun n s i=>pj K n (gt w.o k).L ((gt w.o k).L.length:Int) i w.C.L w.C.k w.C.l w.C.e w.C.m w.C.n s.g s.c s.h w.o w.p w.q) (fun n s i h hs=> ?_) (fun n=> ?_)
 ·simp only[pj];rw[Pz h,cond_true,if_pos (Gz h),K1 h,show Pc.mk s.g s.c s.h=s from rfl,Bud K hs,Z0,K0 (by omega)]
 ·show pj K (n+1) _ _ _ _ _ _ _ _ _ _ _ _ _ _ _=_;rw[pj,Wu (Z9 _),cond_false];rfl
theorem Buh (w:H4)(hw:Wa w)(hQ:w.p.length<=140737488355){k:Int}(hk:0<=k/\k<(w.o.length:Int)):Azm K w k=some (bk w k):=by
 have hm:=V8;have hn:=hw.l.1 _ (Wi hk.1 hk.2);unfold Azm;simp only[if_pos hk,A3e K hn,Z0,Bdp hK w hw _ (Yj hK hn.chunks),Buf K hn];rw[if_pos ⟨by grind,by grind⟩];rfl
end
def Bdq (n:Fy)(v:Int):Fy:=Fy.mk n.c n.a n.f n.s n.t n.i v n.v n.L n.w n.x n.y n.j
def A3g (n:Fy)(v:Int):Fy:=Fy.mk n.c n.a n.f n.s n.t n.i n.u v n.L n.w n.x n.y n.j
def Bdr (n:Fy)(v:Int):Fy:=Fy.mk n.c n.a n.f n.s n.t v n.u n.v n.L n.w n.x n.y n.j
def A3h (n:Fy):Fy:=Fy.mk n.c n.a n.f 0 0 n.i 0 0 n.L n.w n.x n.y n.j
theorem il{l:List Fy}{k:Int}(hk:0<=k/\k<(l.length:Int))(x:Fy):gt (l.set k.toNat x) k=x:=by
 have hlt:k.toNat<(l.set k.toNat x).length:=by grind
 simp_all[gt]
theorem ma{l:List Fy}{j k:Int}(hj:0<=j)(hk:0<=k/\k<(l.length:Int))(h:j≠k)(x:Fy):gt (l.set j.toNat x) k=gt l k:=by
 have h1:k.toNat<(l.set j.toNat x).length:=by grind
 have h2:k.toNat<l.length:=by omega
 have e1:gt (l.set j.toNat x) ((k.toNat:Nat):Int)=gt l ((k.toNat:Nat):Int):=by
  rw[K1 h1,K1 h2,List.getElem_set,if_neg (by omega)]
 grind
theorem Bds (K:Nat){l:List Fy}{k:Int}(hk:0<=k/\k<(l.length:Int)):xn K k l=some (l.set k.toNat (A3h (gt l k))):=by
 unfold xn;rw[if_pos hk];simp only[Ax5,Tb,il hk,Bt3,if_pos hk];rfl
def aj (l0 l:List Fy)(k nx pv:Int):List Fy:=bif Wp l0 nx then l.set (Ap nx 1).toNat (A3g (gt l (Ap nx 1)) pv)else l
def qd (l0 l:List Fy)(k nx pv:Int):List Fy:=(aj l0 l k nx pv).set k.toNat (A3h (gt (aj l0 l k nx pv) k))
theorem Afp (l0 l:List Fy)(k nx pv:Int):(aj l0 l k nx pv).length=l.length:=by
 grind [aj]
theorem Af8 (K:Nat){l0 l:List Fy}(hl:l0.length<=140737488355327)(he:l.length=l0.length){k:Int}(hk:0<=k/\k<(l0.length:Int))(a b c d e f nx pv:Int)(g:List Int)(h i:Int)(t:List H3)(u:List Int)(hx:wfi nx):sd K l0 k l a b c d e f nx pv g h i t u=some (qd l0 l k nx pv):=by
 unfold sd qd aj;rw[lm K hl hx,Z0];cases hp:Wp l0 nx with
 |false=>simp_all[Bds]
 |true=>
  have:=bf hp;rw[cond_true,cond_true,if_pos (by omega)];simp only[Ax5];rw[Bds K (by grind)];rfl
def Zu (l:List Fy)(k:Int):List Fy:=
 bif Wp l (gt l k).v then l.set (Ap (gt l k).v 1).toNat (Bdq (gt l (Ap (gt l k).v 1)) (gt l k).u)
 else bif (gt l k).v==0&&(Wp l (gt l k).s&&(gt l (Ap (gt l k).s 1)).i==A4 k 1)then l.set (Ap (gt l k).s 1).toNat (Bdr (gt l (Ap (gt l k).s 1)) (gt l k).u)
 else l
def Yg (l:List Fy)(k:Int):List Fy:=qd l (Zu l k) k (gt l k).u (gt l k).v
theorem tw (l:List Fy)(k:Int):(Zu l k).length=l.length:=by
 unfold Zu;grind
section
variable {K:Nat} (hK:2^48<=K)
include hK
theorem Bui{l:List Fy}(w:V2 l){k:Int}(hk:0<=k/\k<(l.length:Int)):Azn K l k=some (Yg l k):=by
 have hl:=Wx w;have hn:=w.1 _ (Wi hk.1 hk.2);have e1:Ap (A4 k 1) 1=k:=by grind [Ap,Aly,A4,Fp,Vs]
 have hpk:Wp l (A4 k 1)=true:=by grind [Wp]
 have hwk:wfi (A4 k 1):=Bcl _;unfold Azn Yg;rw[A3c hK w,Z0,lm K hl hwk,Z0,hpk,Bool.not_true,cond_false,if_pos hk,lm K hl hn.prev,Z0];unfold Zu;cases hp:Wp l (gt l k).v with
 |true=>
  have:=bf hp;rw[cond_true,cond_true,if_pos this];simp only[Ax5];rw[Af8 K hl (by grind) hk _ _ _ _ _ _ _ _ _ _ _ _ _ hn.next];rfl
 |false=>
  rw[cond_false,cond_false];cases h0:(gt l k).v==0 with
  |false=>
   simp_all[nr,Af8,Wo.next]
  |true=>
   rw[cond_true,lm K hl hn.up,Z0];cases hu:Wp l (gt l k).s with
   |false=>
    simp_all[nr,Af8,Wo.next]
   |true=>
    have hui:=bf hu;rw[cond_true,if_pos hui];simp only[Z30,nr];cases (gt l (Ap (gt l k).s 1)).i==A4 k 1 with
    |false=>
     simp_all[Af8,Wo.next]
    |true=>
     simp only[cond_true,if_pos hui,Ax5];rw[Af8 K hl (by grind) hk _ _ _ _ _ _ _ _ _ _ _ _ _ hn.next];rfl
end
def Buj (n:Fy):Fy:=Fy.mk 2 n.a 0 0 0 0 0 0 [] 0 0 [] []
theorem Buk{n:Fy}(hn:Wo n){v:Int}(hv:wfi v):Wo (Bdq n v):=⟨hn.st,hn.gen,hn.ep,hn.up,hn.upEp,hn.first,hv,hn.prev,hn.chunks,hn.cur,hn.bump,hn.things,hn.tags⟩
theorem Bdt{n:Fy}(hn:Wo n){v:Int}(hv:wfi v):Wo (A3g n v):=⟨hn.st,hn.gen,hn.ep,hn.up,hn.upEp,hn.first,hn.next,hv,hn.chunks,hn.cur,hn.bump,hn.things,hn.tags⟩
theorem Bul{n:Fy}(hn:Wo n){v:Int}(hv:wfi v):Wo (Bdr n v):=⟨hn.st,hn.gen,hn.ep,hn.up,hn.upEp,hv,hn.next,hn.prev,hn.chunks,hn.cur,hn.bump,hn.things,hn.tags⟩
theorem Bum{n:Fy}(hn:Wo n):Wo (A3h n):=by
 have z:wfi 0:=⟨by decide,by decide⟩;exact⟨hn.st,hn.gen,hn.ep,z,z,hn.first,z,z,hn.chunks,hn.cur,hn.bump,hn.things,hn.tags⟩
theorem A3i{l:List Fy}{k:Int}(hk:0<=k/\k<(l.length:Int)){x:Fy}(h:da x=da (gt l k)):((l.set k.toNat x).map da).sum=(l.map da).sum:=by
 have hlt:k.toNat<l.length:=by omega
 have:=Bdl da l k.toNat hlt x;have e:l[k.toNat]=gt l k:=by rw[<-K1 hlt,show((k.toNat:Nat):Int)=k by omega]
 grind
theorem Bun{l:List Fy}(w:V2 l){k:Int}(hk:0<=k/\k<(l.length:Int)):V2 (Zu l k)/\((Zu l k).map da).sum=(l.map da).sum:=by
 have hn:=w.1 _ (Wi hk.1 hk.2);unfold Zu;cases hp:Wp l (gt l k).v with
 |true=>
  have hi:=bf hp;exact⟨Afj w _ (Buk (w.1 _ (Wi hi.1 hi.2)) hn.next),A3i hi rfl⟩
 |false=>
  rw[cond_false];cases hc:((gt l k).v==0&&(Wp l (gt l k).s&&(gt l (Ap (gt l k).s 1)).i==A4 k 1))with
  |false=>grind
  |true=>
   simp only[Z4]at hc;have hi:=bf hc.2.1;exact⟨Afj w _ (Bul (w.1 _ (Wi hi.1 hi.2)) hn.next),A3i hi rfl⟩
theorem Buo{l0 l:List Fy}(w:V2 l)(he:l.length=l0.length)(k nx:Int){pv:Int}(hv:wfi pv):V2 (aj l0 l k nx pv)/\((aj l0 l k nx pv).map da).sum=(l.map da).sum:=by
 unfold aj;cases hp:Wp l0 nx with
 |true=>
  have hi:=bf hp;rw[<-he]at hi;exact⟨Afj w _ (Bdt (w.1 _ (Wi hi.1 hi.2)) hv),A3i hi rfl⟩
 |false=>grind
theorem Bup{l:List Fy}(w:V2 l){k:Int}(hk:0<=k/\k<(l.length:Int)):V2 (Yg l k)/\((Yg l k).map da).sum=(l.map da).sum/\(Yg l k).length=l.length:=by
 have hn:=w.1 _ (Wi hk.1 hk.2);obtain⟨h1,h2⟩:=Bun w hk;have h3:=tw l k;obtain⟨h4,h5⟩:=Buo h1 h3 k (gt l k).u hn.prev;have h6:=Afp l (Zu l k) k (gt l k).u (gt l k).v;have hk':0<=k/\k<((aj l (Zu l k) k (gt l k).u (gt l k).v).length:Int):=by omega
 unfold Yg qd;exact⟨Afj h4 _ (Bum (h4.1 _ (Wi hk'.1 hk'.2))),(A3i (x:=A3h (gt (aj l (Zu l k) k (gt l k).u (gt l k).v) k)) hk' rfl).trans (h5.trans h2),by grind⟩
def Zv (w:H4)(k:Int):H4:=H4.mk w.C (V9 w.Q (gt w.o k).L) ((Yg w.o k).set k.toNat (Buj (gt (Yg w.o k) k))) (w.p++[Wc (gt w.o k) (A4 k 1)]) w.q
section
variable {K:Nat} (hK:2^48<=K)
include hK
theorem Buq (w:H4)(hw:Wa w)(hQ:w.p.length<=140737488355){k:Int}(hk:0<=k/\k<(w.o.length:Int)):Azp K w k=some (Zv w k):=by
 have hm:=V8;have hn:=hw.l.1 _ (Wi hk.1 hk.2);have hk':0<=k/\k<((Yg w.o k).length:Int):=by simp_all[Bup,Wa.l]
 unfold Azp rq;simp only[if_pos hk,A3e K hn,Z0,Bdp hK w hw _ (Yj hK hn.chunks),Bui hK hw.l hk,if_pos hk'];rw[if_pos ⟨by grind,by grind⟩];rfl
end
def Vu (x:Int):Int:=IntKind.i64.wrap x
theorem Bdu (a b:Int):A4 (Vu a) b=Vu (a+b):=by unfold A4 Fp Vu;rw[IntKind.wrap_i64,IntKind.wrap_i64,IntKind.wrap_i64];omega
theorem A7h (a b:Int):A4 a (Vu b)=Vu (a+b):=by unfold A4 Fp Vu;rw[IntKind.wrap_i64,IntKind.wrap_i64,IntKind.wrap_i64];omega
theorem Bdv (a b:Int):A4 a b=Vu (a+b):=rfl
def ak (c:Sv)(x:G9)(v:Int)(i:Nat):Int:=A4 v (bif ((i:Int)==0)then We (Ap c.k x.z) c.m else We c.k c.m)
def Xu (c:Sv)(x:G9):Int:=
 (List.range x.L.length).foldl (ak c x) (A4 (x.j.length:Int) 1)
section
variable {K:Nat} (hK:2^48<=K)
include hK
omit hK in
theorem Bur (K:Nat)(a b:Int):A05 K a b=some (We a b):=tk K a b
theorem Bdw (c:Sv)(x:G9)(hl:x.L.length<=140737488355327):zy K c x=some (Xu c x):=by
 unfold zy Xu;refine ij hK (List.range x.L.length) (by simp;omega) (ak c x) (A4 (x.j.length:Int) 1) (fun _=>True) trivial (fun _ _ _=>trivial) _ (fun n s i=>pk K c n s i x.d x.i x.j x.L x.z) (fun n s i h _=> ?_) (fun n=> ?_)
 ·rw[List.length_range]at h;simp only[pk,A2m,A2l,tk,Z0,List.getElem_range];rw[Pz h,cond_true,K0 (by omega)];unfold ak;cases ((i:Int)==0)<;>rfl
 ·simp only[pk,List.length_range];rw[Wu (Z9 _),cond_false]
theorem Bdx (c:Sv)(x:G9)(hl:x.L.length<=140737488355327):yu K c x=some (Xu c x):=by
 unfold yu Xu;refine ij hK (List.range x.L.length) (by simp;omega) (ak c x) (A4 (x.j.length:Int) 1) (fun _=>True) trivial (fun _ _ _=>trivial) _ (fun n s i=>oi K c n s (x.L.length:Int) i x.d x.i x.j x.L x.z) (fun n s i h _=> ?_) (fun n=> ?_)
 ·rw[List.length_range]at h;simp only[oi,A07,A06,Bur,Z0,List.getElem_range];rw[Pz h,cond_true,K0 (by omega)];unfold ak;cases ((i:Int)==0)<;>rfl
 ·simp only[oi,List.length_range];rw[Wu (Z9 _),cond_false]
end
def Y2 (w:H4)(k:Int):Int:=Xu w.C (Wc (gt w.o k) 0)
def Vv (w:H4)(k:Int):List Int:=Vq w.o (gt w.o k).i
def Ya (w:H4)(met:List Int):Prop:=met.Nodup/\ ∀x∈met,0<=x/\x<(w.o.length:Int)
theorem A7i{w:H4}{met:List Int}(h:Ya w met):met.length<=w.o.length:=by
 have:=ie (l:=(List.range w.o.length).map (fun i:Nat=>(i:Int))) h.1 (fun x hx=>by
  have:=h.2 x hx;rw[A8];exact⟨x.toNat,by grind,by omega⟩)
 grind
theorem ua{w:H4}{met:List Int}(h:Ya w met){k:Int}(hk:0<=k/\k<(w.o.length:Int))(hn:k ∉ met):Ya w (met++[k]):=by
 refine⟨List.nodup_append.2 ⟨h.1,by simp,fun a ha b hb e=>hn (by grind)⟩,fun x hx=> ?_⟩;rcases C5.1 hx with hx|hx
 ·exact h.2 x hx
 grind
theorem qe (w:H4)(k:Int): ∀x∈Vv w k,0<=x/\x<(w.o.length:Int):=fun x hx=>Aei _ _ x hx
theorem Bus (w:H4)(k:Int):(Vv w k).length<=w.o.length:=tu _ _
section
variable {M:Type} (op:M->M->M) (e:M) (g:Int->M) (w:H4)
def Yb (D:List Int->List Int->M×List Int)(s:M×List Int)(k:Int):M×List Int:=
 if k∈s.2 then s else(op s.1 (op (g k) (D (Vv w k) (s.2++[k])).1),(D (Vv w k) (s.2++[k])).2)
def Yh:Nat->List Int->List Int->M×List Int
 |0,ks,met=>ks.foldl (Yb op g w fun _ m=>(e,m)) (e,met)
 |u+1,ks,met=>ks.foldl (Yb op g w (Yh u)) (e,met)
def am:Nat->List Int->List Int->M×List Int
 |0=>fun _ m=>(e,m)
 |u+1=>Yh op e g w u
def Y3:List Int->M
 |[]=>e
 |x::l=>op (g x) (Y3 l)
end
section
variable {M:Type} {op:M->M->M} {e:M} {g:Int->M} {w:H4}
theorem mb (u:Nat)(ks met:List Int):Yh op e g w u ks met=ks.foldl (Yb op g w (am op e g w u)) (e,met):=by cases u<;>rfl
def Aii (w:H4)(D:List Int->List Int->M×List Int):Prop:= ∀ks met,(∀x∈ks,0<=x/\x<(w.o.length:Int))->Ya w met->Ya w (D ks met).2/\met.length<=(D ks met).2.length
theorem A3j{D:List Int->List Int->M×List Int}(hD:Aii w D){s:M×List Int}(hs:Ya w s.2){k:Int}(hk:0<=k/\k<(w.o.length:Int)):Ya w (Yb op g w D s k).2/\s.2.length<=(Yb op g w D s k).2.length:=by
 unfold Yb;by_cases h:k∈s.2
 ·grind
 ·rw[if_neg h];obtain⟨a,b⟩:=hD (Vv w k) (s.2++[k]) (qe w k) (ua hs hk h)
  grind
theorem But{D:List Int->List Int->M×List Int}(hD:Aii w D): ∀(ks:List Int) (s:M×List Int),(∀x∈ks,0<=x/\x<(w.o.length:Int))->Ya w s.2->Ya w (ks.foldl (Yb op g w D) s).2/\s.2.length<=(ks.foldl (Yb op g w D) s).2.length:=by
 intro ks;induction ks with
 |nil=>grind
 |cons k ks ih=>
  grind [A3j]
theorem A7j: ∀u,Aii w (am op e g w u):=by
 intro u;induction u with
 |zero=>intro ks met _ h;exact⟨h,Z9 _⟩
 |succ u ih=>
  intro ks met hk h;show Ya w (Yh op e g w u ks met).2/\_<=(Yh op e g w u ks met).2.length;rw[mb];exact But ih ks (e,met) hk h
end
def ow (w:H4)(x:Int):Int:=1+Y2 w x
abbrev me (w:H4):=Yb (· + ·) (ow w) w
abbrev Zk (w:H4):=Yh (· + ·) 0 (ow w) w
abbrev ub (w:H4):=am (· + ·) 0 (ow w) w
theorem Bdy{w:H4}{D:List Int->List Int->Int×List Int}(hD:Aii w D){s:Int×List Int}(hs:Ya w s.2){k:Int}(hk:0<=k/\k<(w.o.length:Int)):Ya w (me w D s k).2/\s.2.length<=(me w D s k).2.length:=A3j hD hs hk
theorem A7k (w:H4)(u:Nat)(ks met:List Int):Zk w u ks met=ks.foldl (me w (ub w u)) (0,met):=mb u ks met
theorem Bdz (w:H4)(u:Nat):Aii w (ub w u):=A7j u
def Y4 (w:H4)(met:List Int):List Bool:=(List.range w.o.length).map (fun i:Nat=>met.contains (i:Int))
theorem fe (w:H4)(met:List Int):(Y4 w met).length=w.o.length:=by simp[Y4]
theorem Bd0{w:H4}{met:List Int}{k:Int}(h:0<=k/\k<(w.o.length:Int)):gt (Y4 w met) k=met.contains k:=by
 obtain⟨i,rfl⟩: ∃i:Nat,k=i:=⟨k.toNat,by omega⟩
 grind [K1,Y4]
theorem Bd1{w:H4}{met:List Int}{k:Int}(h:0<=k/\k<(w.o.length:Int)):(Y4 w met).set k.toNat true=Y4 w (met++[k]):=by
 refine List.ext_getElem (by grind [fe]) fun i h1 h2=> ?_
 rw[List.getElem_set];by_cases e:k.toNat=i
 ·rw[if_pos e];simp only[Y4,List.getElem_map,List.getElem_range]
  grind
 ·rw[if_neg e];simp only[Y4,List.getElem_map,List.getElem_range]
  grind
theorem Bd2 (w:H4):List.replicate w.o.length false=Y4 w []:=by
 refine List.ext_getElem (by simp[Y4]) fun i h1 h2=> ?_
 simp[Y4]
theorem A3k{α σ β:Type}{K:Nat}(hK:2^48<=K)(l:List α)(hl:l.length<=140737488355328)(f:σ->α->σ)(s0:σ)(I:σ->Prop)(hI:I s0)(hf: ∀s x,x∈l->I s->I (f s x))(fin:Option β)(L:Nat->σ->Int->Option β)
  (hs: ∀n s (i:Nat) (h:i<l.length),I s->L (n+1) s (i:Int)=L n (f s l[i]) ((i+1:Nat):Int))
  (he: ∀n,L (n+1) (l.foldl f s0) (l.length:Int)=fin):L K s0 0=fin:=by
 have key: ∀(n i:Nat) (s:σ),I s->i<=l.length->l.length - i<n->(l.drop i).foldl f s=l.foldl f s0->L n s (i:Int)=fin:=by
  intro n;induction n with
  |zero=>omega
  |succ n ih=>
   grind [List.drop_eq_getElem_cons]
 exact key K 0 s0 hI (Hc _) (by omega) rfl
theorem A3l{w:H4}{met met0:List Int}{u:Nat}(h:Ya w met)(h0:met0.length<=met.length)(hu:w.o.length<=met0.length+u){k:Int}(hk:0<=k/\k<(w.o.length:Int))(hn:k ∉ met): ∃v,u=v+1/\w.o.length<=(met++[k]).length+v:=by
 have:=A7i (ua h hk hn);rw[Jd,List.length_singleton]at this ⊢;exact⟨u - 1,by omega,by omega⟩
theorem uc{w:H4}(hw:Wa w)(k:Int):(Vv w k).length<=140737488355327:=by
 have:=Bus w k;have:=hw.l.2;omega
theorem Bd3 (K:Nat){w:H4}(hw:Wa w){k:Int}(hk:0<=k/\k<(w.o.length:Int)):jv K (gt w.o k) 0=some (Wc (gt w.o k) 0)/\sm K (gt w.o k) 0=some (Wc (gt w.o k) 0):=
 ⟨A3e K (hw.l.1 _ (Wi hk.1 hk.2)) 0,Bdn K (hw.l.1 _ (Wi hk.1 hk.2)) 0⟩
theorem Buu (w:H4)(hw:Wa w): ∀(u K:Nat) (ks met:List Int),2^48+u<K->ks.length<=140737488355327->(∀x∈ks,0<=x/\x<(w.o.length:Int))->Ya w met->w.o.length<=met.length+u->
  gr K w ks (Y4 w met)=some (Vu (Zk w u ks met).1,Y4 w (Zk w u ks met).2):=by
 intro u;induction u using Nat.strongRecOn with
 |_ u ih=>
  intro K ks met hKu hlen hin hm hu;obtain⟨J,rfl⟩: ∃J,K=J+1:=⟨K - 1,by omega⟩;have hJ:2^48<=J:=by omega
  rw[gr,A5q,A7k];refine A3k (K:=J) hJ ks (by omega) (me w (ub w u)) (0,met) (fun s=>Ya w s.2/\met.length<=s.2.length) ⟨hm,Z9 _⟩ (fun s x hx hs=> ?_) _ (fun n s i=>om J (gr J) ks n (Y4 w s.2) (Vu s.1) (ks.length:Int) i w.C.L w.C.k w.C.l w.C.e w.C.m w.C.n w.Q.g w.Q.c w.Q.h w.o w.p w.q) (fun n s i h hs=> ?_) (fun n=> ?_)
  ·obtain⟨a,b⟩:=Bdy (Bdz w u) hs.1 (hin x hx);exact⟨a,by omega⟩
  ·have hk:=hin _ (List.getElem_mem h);simp only[om,A1a];rw[Pz h,cond_true,if_pos (Gz h),K1 h,fe,if_pos hk,Bd0 hk,K0 (by omega)];unfold me Yb;by_cases hc:ks[i]∈s.2
   ·rw[if_pos hc,List.contains_iff_mem.2 hc,cond_true]
   ·obtain⟨v,rfl,hv⟩:=A3l hs.1 hs.2 hu hk hc;have hcf:s.2.contains ks[i]=false:=by rw[List.contains_eq_mem];exact decide_eq_false hc
    rw[if_neg hc,hcf,cond_false,if_pos hk,if_pos hk,(Bd3 J hw hk).2,Bd1 hk];simp only[Z0];rw[Bdx hJ _ _ (by have:=(hw.l.1 _ (Wi hk.1 hk.2)).chunks.2;simp only[Wc];omega)];simp only[Z0];rw[if_pos hk,A24 hJ hw.l];simp only[Z0];have:=ih v (by omega) J (Vv w ks[i]) (s.2++[ks[i]]) (by omega) (uc hw _) (qe w _) (ua hs.1 hk hc) hv;unfold Vv at this;rw[this];simp only[Z0];rw[if_pos (by rw[fe,fe])];have e:A4 (Vu s.1) (A4 (A4 1 (Xu w.C (Wc (gt w.o ks[i]) 0))) (Vu (Zk w v (Vq w.o (gt w.o ks[i]).i) (s.2++[ks[i]])).1))=Vu (s.1+(1+Y2 w ks[i]+(ub w (v+1) (Vv w ks[i]) (s.2++[ks[i]])).1)):=by
     show _=Vu (s.1+(1+Xu w.C (Wc (gt w.o ks[i]) 0)+(Zk w v (Vq w.o (gt w.o ks[i]).i) (s.2++[ks[i]])).1));generalize Xu w.C (Wc (gt w.o ks[i]) 0)=A;generalize (Zk w v (Vq w.o (gt w.o ks[i]).i) (s.2++[ks[i]])).1=B;simp only[A4,Fp,Vu,IntKind.wrap_i64];omega
    rw[e];rfl
  ·simp only[om];rw[Wu (Z9 _),cond_false]
theorem Bd4{g:Int->Int}{w:H4}(u:Nat)(s:Int×List Int)(k:Int):Yb (· + ·) g w (am (· + ·) 0 g w u) s k=(s.1+(Yh (· + ·) 0 g w u [k] s.2).1,(Yh (· + ·) 0 g w u [k] s.2).2):=by
 rw[mb,List.foldl_cons,List.foldl_nil];unfold Yb;by_cases h:k∈s.2
 ·rw[if_pos h,if_pos h];simp
 ·rw[if_neg h,if_neg h];simp
theorem Buv (w:H4)(u:Nat)(s:Int×List Int)(k:Int):me w (ub w u) s k=(s.1+(Zk w u [k] s.2).1,(Zk w u [k] s.2).2):=Bd4 u s k
theorem Buw (w:H4)(hw:Wa w): ∀(u K:Nat) (k:Int) (met:List Int),2^48+u<K->(0<=k/\k<(w.o.length:Int))->Ya w met->w.o.length<=met.length+u->
  co K w k met=some (Vu (Zk w u [k] met).1,(Zk w u [k] met).2):=by
 intro u;induction u using Nat.strongRecOn with
 |_ u ih=>
  intro K k met hKu hk hm hu;obtain⟨J,rfl⟩: ∃J,K=J+1:=⟨K - 1,by omega⟩;have hJ:2^48<=J:=by omega
  have hml:=A7i hm;have hL:=hw.l.2;rw[co,A2o,bd J (Wx hw.l),decide_eq_true hk];simp only[Z0,cond_true];rw[gy hJ _ _ (by omega),Z0,A7k,List.foldl_cons,List.foldl_nil];unfold me Yb;by_cases hc:k∈met
  ·rw[if_pos hc,List.contains_iff_mem.2 hc,cond_true];rfl
  ·obtain⟨v,rfl,hv⟩:=A3l hm (Z9 _) hu hk hc;have hcf:met.contains k=false:=by rw[List.contains_eq_mem];exact decide_eq_false hc
   have hx:=V8;rw[if_neg hc,hcf,cond_false,Hd,if_pos (by omega),if_pos ⟨by simp;omega,by simp;omega⟩,if_pos hk,(Bd3 J hw hk).1];simp only[Z0];rw[Bdw hJ _ _ (by have:=(hw.l.1 _ (Wi hk.1 hk.2)).chunks.2;simp only[Wc];omega)];simp only[Z0];rw[if_pos hk,Aez hJ hw.l (hw.l.1 _ (Wi hk.1 hk.2)).first];simp only[Z0];show pm J (co J) (Vv w k) J (met++[k]) (Vu (1+Y2 w k)) 0 _ _ _ _ _ _ _ _ _ _ _ _=_;have hm2:=ua hm hk hc;have hstart:Vu (1+Y2 w k)=Vu (1+Y2 w k+((0,met++[k]):Int×List Int).1):=by simp
   rw[hstart];refine A3k (K:=J) hJ (Vv w k) (by have:=uc hw k;omega) (me w (ub w v)) (0,met++[k]) (fun s=>Ya w s.2/\(met++[k]).length<=s.2.length) ⟨hm2,Z9 _⟩ (fun s x hx hs=> ?_) _ (fun n s i=>pm J (co J) (Vv w k) n s.2 (Vu (1+Y2 w k+s.1)) i w.C.L w.C.k w.C.l w.C.e w.C.m w.C.n w.Q.g w.Q.c w.Q.h w.o w.p w.q) (fun n s i h hs=> ?_) (fun n=> ?_)
   ·obtain⟨a,b⟩:=Bdy (Bdz w v) hs.1 (qe w k x hx);exact⟨a,by omega⟩
   ·have hki:=qe w k _ (List.getElem_mem h);have hf:=uc hw k;simp only[pm];rw[Pz h,cond_true,if_pos (Gz h),K1 h,K0 (by omega)];have:=ih v (by omega) J (Vv w k)[i] s.2 (by omega) hki hs.1 (by omega);rw[show H4.mk (Sv.mk w.C.L w.C.k w.C.l w.C.e w.C.m w.C.n) (Pc.mk w.Q.g w.Q.c w.Q.h) w.o w.p w.q=w from rfl,this,Buv];simp only[Z0];have e:A4 (Vu (1+Y2 w k+s.1)) (Vu (Zk w v [(Vv w k)[i]] s.2).1)=Vu (1+Y2 w k+(s.1+(Zk w v [(Vv w k)[i]] s.2).1)):=by
     rw[Bdu,<-Int.add_assoc];exact A7h _ _
    rw[e]
   ·simp only[pm];rw[Wu (Z9 _),cond_false];show _=some (Vu (0+(1+Y2 w k+(Zk w v (Vv w k) (met++[k])).1)),(Zk w v (Vv w k) (met++[k])).2);rw[A7k,Int.zero_add]
def im (w:H4)(k:Int):Int:=if 0<=k/\k<(w.o.length:Int)then Vu (Zk w w.o.length [k] []).1 else 0
theorem A3m (w:H4):Ya w []:=⟨.nil,fun x h=>(by cases h)⟩
section
variable {K:Nat} (hK:562949953421312<=K)
include hK
theorem Bd5 (w:H4)(hw:Wa w)(k:Int):zz K w k=some (im w k):=by
 have hL:=hw.l.2;unfold zz im;by_cases h:0<=k/\k<(w.o.length:Int)
 ·rw[if_pos h,Buw w hw w.o.length K k [] (by omega) h (A3m w) (by simp)];rfl
 ·obtain⟨J,rfl⟩: ∃J,K=J+1:=⟨K - 1,by omega⟩;rw[if_neg h,co,A2o,bd J (Wx hw.l),decide_eq_false h];rfl
theorem Bd6 (w:H4)(hw:Wa w)(k:Int):yx K w k=some (im w k):=by
 have hL:=hw.l.2;unfold yx im;rw[pw K (Wx hw.l)];by_cases h:0<=k/\k<(w.o.length:Int)
 ·rw[if_pos h,decide_eq_true h,Int.toNat_natCast,Bd2];simp only[Z0,Bool.not_true,cond_false];rw[if_pos (by omega),Buu w hw w.o.length K [k] [] (by omega) (by simp) (fun x hx=>by rw[Dt.1 hx];exact h) (A3m w) (by simp)];simp only[Z0];rw[if_pos (by rw[fe,fe])]
 ·rw[if_neg h,decide_eq_false h];rfl
def iq (w:H4)(x:G9):Int:=(Vq w.o x.i).foldl (fun v k=>A4 v (im w k)) (Xu w.C x)
omit hK in
theorem Bd7 (w:H4)(hw:Wa w)(f:Int):(Vq w.o f).length<=140737488355327:=by
 have:=tu (l:=w.o) w.o.length (Ap f 1);have:=hw.l.2;unfold Vq;omega
theorem Bd8 (w:H4)(hw:Wa w)(i:Nat)(hi:i<w.p.length):pn K w (i:Int)=some (iq w (gt w.p i)):=by
 have hQ:=hw.q.2;have hx:=hw.q.1 _ (Xe hi);have hc:=hx.chunks.2;have hl:=Bd7 w hw (gt w.p i).i;unfold pn iq;rw[bd K (by omega),decide_eq_true (Gz hi)];simp only[Z0,Bool.not_true,cond_false];rw[if_pos (Gz hi),Bdw (by omega) _ _ (by omega)];simp only[Z0];rw[if_pos (Gz hi),Aez (by omega) hw.l hx.first];simp only[Z0];refine ij (K:=K) (by omega) (Vq w.o (gt w.p i).i) (by omega) (fun v k=>A4 v (im w k)) (Xu w.C (gt w.p i)) (fun _=>True) trivial (fun _ _ _=>trivial) _ (fun n s j=>td K (Vq w.o (gt w.p i).i) n s j w.C.L w.C.k w.C.l w.C.e w.C.m w.C.n w.Q.g w.Q.c w.Q.h w.o w.p w.q) (fun n s j h _=> ?_) (fun n=> ?_)
 ·simp only[td];rw[Pz h,cond_true,if_pos (Gz h),K1 h,K0 (by omega)];rw[show H4.mk (Sv.mk w.C.L w.C.k w.C.l w.C.e w.C.m w.C.n) (Pc.mk w.Q.g w.Q.c w.Q.h) w.o w.p w.q=w from rfl,Bd5 hK w hw];rfl
 ·simp only[td];rw[Wu (Z9 _),cond_false]
theorem Bd9 (w:H4)(hw:Wa w)(i:Nat)(hi:i<w.p.length):oo K w (i:Int)=some (iq w (gt w.p i)):=by
 have hQ:=hw.q.2;have hx:=hw.q.1 _ (Xe hi);have hc:=hx.chunks.2;have hl:=Bd7 w hw (gt w.p i).i;unfold oo iq;rw[A6y K (by omega),decide_eq_true (Gz hi)];simp only[Z0,Bool.not_true,cond_false];rw[if_pos (Gz hi),Bdx (by omega) _ _ (by omega)];simp only[Z0];rw[if_pos (Gz hi),A24 (by omega) hw.l];simp only[Z0];refine ij (K:=K) (by omega) (Vq w.o (gt w.p i).i) (by omega) (fun v k=>A4 v (im w k)) (Xu w.C (gt w.p i)) (fun _=>True) trivial (fun _ _ _=>trivial) _ (fun n s j=>sn K (Vq w.o (gt w.p i).i) n s ((Vq w.o (gt w.p i).i).length:Int) j w.C.L w.C.k w.C.l w.C.e w.C.m w.C.n w.Q.g w.Q.c w.Q.h w.o w.p w.q) (fun n s j h _=> ?_) (fun n=> ?_)
 ·simp only[sn];rw[Pz h,cond_true,if_pos (Gz h),K1 h,K0 (by omega)];rw[show H4.mk (Sv.mk w.C.L w.C.k w.C.l w.C.e w.C.m w.C.n) (Pc.mk w.Q.g w.Q.c w.Q.h) w.o w.p w.q=w from rfl,Bd6 hK w hw];rfl
 ·simp only[sn];rw[Wu (Z9 _),cond_false]
def ir (w:H4):Int:=w.p.foldl (fun v x=>A4 v (iq w x)) 0
theorem Bux (w:H4)(hw:Wa w):A2q K w=some (ir w):=by
 have hQ:=hw.q.2;unfold A2q ir;refine ij (K:=K) (by omega) w.p (by omega) (fun v x=>A4 v (iq w x)) 0 (fun _=>True) trivial (fun _ _ _=>trivial) _ (fun n s j=>tf K n s j w.C.L w.C.k w.C.l w.C.e w.C.m w.C.n w.Q.g w.Q.c w.Q.h w.o w.p w.q) (fun n s j h _=> ?_) (fun n=> ?_)
 ·simp only[tf];rw[Pz h,cond_true,K0 (by omega)];rw[show H4.mk (Sv.mk w.C.L w.C.k w.C.l w.C.e w.C.m w.C.n) (Pc.mk w.Q.g w.Q.c w.Q.h) w.o w.p w.q=w from rfl,Bd8 hK w hw j h,K1 h];rfl
 ·simp only[tf];rw[Wu (Z9 _),cond_false]
theorem A3n (w:H4)(hw:Wa w):oq K w=some (ir w):=by
 have hQ:=hw.q.2;unfold oq ir;refine ij (K:=K) (by omega) w.p (by omega) (fun v x=>A4 v (iq w x)) 0 (fun _=>True) trivial (fun _ _ _=>trivial) _ (fun n s j=>sp K n s (w.p.length:Int) j w.C.L w.C.k w.C.l w.C.e w.C.m w.C.n w.Q.g w.Q.c w.Q.h w.o w.p w.q) (fun n s j h _=> ?_) (fun n=> ?_)
 ·simp only[sp];rw[Pz h,cond_true,K0 (by omega)];rw[show H4.mk (Sv.mk w.C.L w.C.k w.C.l w.C.e w.C.m w.C.n) (Pc.mk w.Q.g w.Q.c w.Q.h) w.o w.p w.q=w from rfl,Bd9 hK w hw j h,K1 h];rfl
 ·simp only[sp];rw[Wu (Z9 _),cond_false]
end
structure Lk where
 lv:Bool
 gn:Bool
 ep:Int
 up:Int
 ue:Int
 fi:Int
 nx:Int
 pv:Int
section
variable (N:Int) (t:Int->Lk)
def Lv (k:Int):Prop:=(0<=k/\k<N)/\(t k).lv=true
def Cu (k:Int):Prop:=Lv N t ((t k).up - 1)/\(t ((t k).up - 1)).ep=(t k).ue
def Oo (k:Int):Prop:=Lv N t k/\(t k).up≠0/\ ¬Cu N t k
structure ff (k:Int):Prop where
 first:(t k).fi≠0->Lv N t ((t k).fi - 1)/\(t ((t k).fi - 1)).pv=0/\(t ((t k).fi - 1)).up=k+1/\(t ((t k).fi - 1)).ue=(t k).ep
 next:(t k).nx≠0->Lv N t ((t k).nx - 1)/\(t ((t k).nx - 1)).pv=k+1/\(t ((t k).nx - 1)).up=(t k).up/\(t ((t k).nx - 1)).ue=(t k).ue
 prev:(t k).pv≠0->Lv N t ((t k).pv - 1)/\(t ((t k).pv - 1)).nx=k+1
 up:(t k).up≠0->0<=(t k).up - 1/\(t k).up - 1<N
 top:(t k).pv=0->Cu N t k->(t ((t k).up - 1)).fi=k+1
def kids:Nat->Int->List Int
 |0,_=>[]
 |n+1,k=>if 0<=k/\k<N then k::kids n ((t k).nx - 1)else []
def rise:Nat->Int->List Int
 |0,_=>[]
 |n+1,k=>if 0<=k/\k<N then k::rise n ((t k).up - 1)else []
structure Wy:Prop where
 link: ∀k,Lv N t k->ff N t k
 rise: ∀k,Lv N t k->(rise N t N.toNat k).length<=4/\ ∀x,(rise N t N.toNat k).getLast? =some x-> ¬Cu N t x
 bare: ∀k,0<=k->k<N->(t k).lv=false->(t k).up=0/\(t k).fi=0/\(t k).nx=0/\(t k).pv=0
def Wf (r:Int->Nat):Prop:= ∀x,Lv N t x->(t x).pv≠0->r ((t x).pv - 1)<r x
end
section
variable {N:Int} {t:Int->Lk}
theorem Buy (n:Nat)(k:Int):kids N t (n+1) k=if 0<=k/\k<N then k::kids N t n ((t k).nx - 1)else []:=rfl
theorem Buz (n:Nat)(k:Int):rise N t (n+1) k=if 0<=k/\k<N then k::rise N t n ((t k).up - 1)else []:=rfl
theorem Oo.lv{k:Int}(h:Oo N t k):Lv N t k:=h.1
theorem A7l: ∀(n:Nat) (k x:Int),x∈kids N t n k->0<=x/\x<N:=by
 intro n;induction n with
 |zero=>intro k x h;cases h
 |succ n ih=>
  intro k x h;unfold kids at h;split at h
  ·rename_i h1;rcases Ax.1 h with rfl|h
   ·exact h1
   ·exact ih _ x h
  ·cases h
theorem iu (n:Nat):kids N t n (0 - 1)=[]:=by
 cases n with
 |zero=>rfl
 |succ n=>rfl
theorem Bu0: ∀(n:Nat) (k:Int),kids N t n k=(kids N t (n+1) k).take n:=by
 intro n;induction n with
 |zero=>grind [kids]
 |succ n ih=>
  grind [Buy]
theorem Bu1 (T:Wy N t){u e:Int}: ∀(n:Nat) (k:Int),Lv N t k->(t k).up=u->(t k).ue=e-> ∀x∈kids N t n k,Lv N t x/\(t x).up=u/\(t x).ue=e:=by
 intro n;induction n with
 |zero=>intro k _ _ _ x h;cases h
 |succ n ih=>
  intro k h1 h2 h3 x h;unfold kids at h;split at h
  ·rcases Ax.1 h with rfl|h
   ·grind
   ·by_cases h4:(t k).nx=0
    ·grind [iu]
    ·obtain⟨a,_,b,c⟩:=(T.link k h1).next h4
     grind
  ·cases h
theorem Bea (T:Wy N t){r:Int->Nat}(W:Wf N t r): ∀(n:Nat) (k:Int),Lv N t k->(∀x∈kids N t n k,r k<=r x)/\(kids N t n k).Pairwise (fun a b=>r a<r b):=by
 intro n;induction n with
 |zero=>intro k _;exact⟨fun x h=>(by cases h),.nil⟩
 |succ n ih=>
  intro k h1;unfold kids;split
  ·by_cases h4:(t k).nx=0
   ·rw[h4,iu]
    grind
   ·obtain⟨a,b,_⟩:=(T.link k h1).next h4;obtain⟨i1,i2⟩:=ih _ a;have hr:=W _ a (by omega);rw[b,Int.add_sub_cancel]at hr;refine⟨fun x h=> ?_,List.pairwise_cons.2 ⟨fun x h=> ?_,i2⟩⟩
    all_goals grind
  simp_all
theorem A7m (T:Wy N t){r:Int->Nat}(W:Wf N t r)(n:Nat){k:Int}(h:Lv N t k):(kids N t n k).Nodup:=
 (Bea T W n k h).2.imp fun h e=>by grind
theorem A3o{l:List Int}(hn:l.Nodup)(h: ∀x∈l,0<=x/\x<N):l.length<=N.toNat:=by
 have:=ie (l:=(List.range N.toNat).map (fun i:Nat=>(i:Int))) hn (fun x hx=>by
  have:=h x hx;rw[A8];exact⟨x.toNat,by grind,by omega⟩)
 grind
theorem Bu2: ∀(n:Nat) (k y x:Int),y∈kids N t n k->(t y).nx=x+1->0<=x/\x<N->x∈kids N t n k\/(kids N t n k).length=n:=by
 intro n;induction n with
 |zero=>intro k y x h;cases h
 |succ n ih=>
  intro k y x h h1 h2;unfold kids at h ⊢;split at h
  ·rename_i h3;rw[if_pos h3];rcases Ax.1 h with rfl|h
   ·rw[h1,Int.add_sub_cancel];cases n with
    |zero=>grind [kids]
    |succ n=>simp_all[kids.eq_2]
   grind
  ·cases h
theorem Bu3 (T:Wy N t){r:Int->Nat}(W:Wf N t r){k:Int}(hk:Lv N t k)(x:Int):
  x∈kids N t N.toNat ((t k).fi - 1) ↔ Lv N t x/\(t x).up=k+1/\(t x).ue=(t k).ep:=by
 constructor
 ·intro h;by_cases h0:(t k).fi=0
  ·grind [iu]
  ·obtain⟨a,_,b,c⟩:=(T.link k hk).first h0;exact Bu1 T _ _ a b c x h
 ·generalize hn:r x=n;induction n using Nat.strongRecOn generalizing x with
  |_ n ih=>
   intro⟨h1,h2,h3⟩;have hc:Cu N t x:=by simp_all[Cu]
   by_cases hp:(t x).pv=0
   ·have:=(T.link x h1).top hp hc;rw[h2,Int.add_sub_cancel]at this;obtain⟨m,hm⟩: ∃m,N.toNat=m+1:=⟨N.toNat - 1,by have:=h1.1;omega⟩;rw[this,Int.add_sub_cancel,hm,kids,if_pos h1.1];simp
   ·obtain⟨a,b⟩:=(T.link x h1).prev hp;have hr:=W x h1 hp;obtain⟨_,_,c,d⟩:=(T.link _ a).next (by rw[b];have:=h1.1;omega);rw[b,Int.add_sub_cancel]at c d;have hy:=ih _ (by omega) _ rfl ⟨a,c ▸ h2,d ▸ h3⟩;rcases Bu2 _ _ _ x hy b h1.1 with h|h
    ·exact h
    ·refine Classical.byContradiction fun hx=> ?_
     have h0:(t k).fi≠0:=fun e=>by grind [iu]
     have hd:=A7m T W N.toNat ((T.link k hk).first h0).1;have:=A3o (N:=N) (l:=x::kids N t N.toNat ((t k).fi - 1)) (List.nodup_cons.2 ⟨hx,hd⟩) (fun y hy=>by
      rcases Ax.1 hy with rfl|hy
      ·exact h1.1
      ·exact A7l _ _ y hy)
     grind
theorem A3p (T:Wy N t){r:Int->Nat}(W:Wf N t r)(n:Nat){k:Int}(hk:Lv N t k):(kids N t n ((t k).fi - 1)).Nodup:=by
 by_cases h0:(t k).fi=0
 ·grind [iu]
 ·exact A7m T W n ((T.link k hk).first h0).1
theorem Aku{t':Int->Lk}: ∀(n:Nat) (k:Int),(∀x∈kids N t n k,(t' x).nx=(t x).nx)->kids N t' n k=kids N t n k:=by
 intro n;induction n with
 |zero=>intro k _;rfl
 |succ n ih=>
  simp_all[kids.eq_2]
theorem A3q{t':Int->Lk}: ∀(n:Nat) (k:Int),(∀x∈rise N t n k,(t' x).up=(t x).up)->rise N t' n k=rise N t n k:=by
 intro n;induction n with
 |zero=>intro k _;rfl
 |succ n ih=>
  simp_all[rise]
theorem Bu4: ∀(n:Nat) (k:Int),rise N t n k=(rise N t (n+1) k).take n:=by
 intro n;induction n with
 |zero=>grind [rise]
 |succ n ih=>
  grind [Buz]
theorem mf: ∀(n:Nat) (k x:Int),x∈rise N t n k->0<=x/\x<N:=by
 intro n;induction n with
 |zero=>intro k x h;cases h
 |succ n ih=>
  intro k x h;unfold rise at h;split at h
  ·rename_i h1;rcases Ax.1 h with rfl|h
   ·exact h1
   ·exact ih _ x h
  ·cases h
theorem Bu5{t':Int->Lk}{g:Int}(h: ∀x,x≠g->(t' x).up=(t x).up)(hg:(t' g).up=0): ∀(n:Nat) (k:Int),
  (rise N t' n k=[] ↔ rise N t n k=[])/\(rise N t' n k).length<=(rise N t n k).length/\((rise N t' n k).getLast? =some g\/(rise N t' n k).getLast? =(rise N t n k).getLast?):=by
 intro n;induction n with
 |zero=>intro k;exact⟨Iff.rfl,Z9 _,.inr rfl⟩
 |succ n ih=>
  intro k;rw[rise,rise];by_cases h1:0<=k/\k<N
  ·rw[if_pos h1,if_pos h1];by_cases e:k=g
   ·subst e;have:rise N t' n (0 - 1)=[]:=by cases n with|zero=>rfl|succ n=>rfl
    grind
   ·rw[h k e];obtain⟨i1,i2,i3⟩:=ih ((t k).up - 1);refine⟨by simp,by grind,?_⟩;cases ha:rise N t' n ((t k).up - 1)with
    |nil=>grind
    |cons a l=>
     cases hb:rise N t n ((t k).up - 1)with
     |nil=>grind
     |cons b m=>
      simp_all
  simp_all[if_neg]
theorem ud (T:Wy N t){k:Int}(hk:Lv N t k)(hc:Cu N t k):(t k).up≠k+1:=by
 intro e;obtain⟨_,h⟩:=T.rise k hk;have: ∀n,rise N t (n+1) k=List.replicate (n+1) k:=by
  intro n;induction n with
  |zero=>rw[rise,if_pos hk.1];rfl
  |succ n ih=>rw[rise,if_pos hk.1,e,Int.add_sub_cancel,ih];rfl
 obtain⟨m,hm⟩: ∃m,N.toNat=m+1:=⟨N.toNat - 1,by have:=hk.1;omega⟩;refine h k ?_ hc;rw[hm,this,List.getLast?_replicate,if_neg (by omega)]
def rem (t:Int->Lk)(g:Int)(x:Int):Lk:=
 if x=g then⟨false,true,0,0,0,0,0,0⟩else
  ⟨(t x).lv,(t x).gn,(t x).ep,(t x).up,(t x).ue,if(t g).pv=0/\x+1=(t g).up/\(t x).fi=g+1 then(t g).nx else(t x).fi,if x+1=(t g).pv then(t g).nx else(t x).nx,if x+1=(t g).nx then(t g).pv else(t x).pv⟩
theorem iv{g:Int}:rem t g g=⟨false,true,0,0,0,0,0,0⟩:=if_pos rfl
theorem V5{g x:Int}(h:x≠g):rem t g x=⟨(t x).lv,(t x).gn,(t x).ep,(t x).up,(t x).ue,if(t g).pv=0/\x+1=(t g).up/\(t x).fi=g+1 then(t g).nx else(t x).fi,if x+1=(t g).pv then(t g).nx else(t x).nx,if x+1=(t g).nx then(t g).pv else(t x).pv⟩:=if_neg h
theorem Xg{g x:Int}:Lv N (rem t g) x ↔ x≠g/\Lv N t x:=by
 unfold Lv;by_cases h:x=g
 all_goals grind [iv,V5]
theorem de{g x:Int}(hx:x≠g):Cu N (rem t g) x ↔ (t x).up≠g+1/\Cu N t x:=by
 unfold Cu;rw[Xg,V5 hx];by_cases h:(t x).up - 1=g
 ·grind
 ·rw[V5 h]
  grind
theorem Beb{g x:Int}(hg:0<=g):Oo N (rem t g) x ↔ x≠g/\(Oo N t x\/Lv N t x/\(t x).up=g+1):=by
 unfold Oo;rw[Xg];by_cases h:x=g
 ·simp[h]
 ·rw[de h,V5 h]
  grind
theorem Bu6 (T:Wy N t){g x:Int}(hg:Lv N t g)(hx:Lv N (rem t g) x):ff N (rem t g) x:=by
 obtain⟨hne,hl⟩:=Xg.1 hx;have G:=T.link g hg;have X:=T.link x hl;have g0:=hg.1;have x0:=hl.1;refine⟨?_,?_,?_,?_,?_⟩
 ·rw[V5 hne];intro h;simp only at h ⊢;by_cases hA:(t g).pv=0/\x+1=(t g).up/\(t x).fi=g+1
  ·rw[if_pos hA]at h ⊢;obtain⟨a,b,c,d⟩:=G.next h;have hm:(t g).nx - 1≠g:=fun e=>by grind
   obtain⟨_,_,_,f4⟩:=X.first (by omega);simp_all[V5,Xg]
  ·rw[if_neg hA]at h ⊢;obtain⟨a,b,c,d⟩:=X.first h;have hm:(t x).fi - 1≠g:=fun e=>by grind
   rw[V5 hm];refine⟨Xg.2 ⟨hm,a⟩,?_,c,d⟩;simp only;rw[if_neg]
   ·exact b
   ·intro e;have:=(G.next (by omega)).2.1
    grind
 ·rw[V5 hne];intro h;simp only at h ⊢;by_cases hA:x+1=(t g).pv
  ·rw[if_pos hA]at h ⊢;obtain⟨a,b,c,d⟩:=G.next h;have hm:(t g).nx - 1≠g:=fun e=>by grind
   obtain⟨_,p2⟩:=G.prev (by omega);rw[<-hA,Int.add_sub_cancel]at p2;obtain⟨_,_,q3,q4⟩:=X.next (by omega);simp_all[V5,Xg]
  ·rw[if_neg hA]at h ⊢;obtain⟨a,b,c,d⟩:=X.next h;have hm:(t x).nx - 1≠g:=fun e=>by grind
   rw[V5 hm];refine⟨Xg.2 ⟨hm,a⟩,?_,c,d⟩;simp only;rw[if_neg]
   ·exact b
   ·intro e;have:=(G.next (by omega)).2.1
    grind
 ·rw[V5 hne];intro h;simp only at h ⊢;by_cases hA:x+1=(t g).nx
  ·rw[if_pos hA]at h ⊢;obtain⟨a,b⟩:=G.prev h;have hm:(t g).pv - 1≠g:=fun e=>by grind
   simp_all[V5,Xg]
  ·rw[if_neg hA]at h ⊢;obtain⟨a,b⟩:=X.prev h;have hm:(t x).pv - 1≠g:=fun e=>by grind
   rw[V5 hm];refine⟨Xg.2 ⟨hm,a⟩,?_⟩;simp only;rw[if_neg]
   ·exact b
   ·intro e;have:=(G.prev (by omega)).2
    grind
 ·rw[V5 hne];exact X.up
 ·intro h hc;obtain⟨c1,c2⟩:=(de hne).1 hc;rw[V5 hne]at h ⊢;simp only at h ⊢;have hm:(t x).up - 1≠g:=by omega
  rw[V5 hm];simp only;by_cases hA:x+1=(t g).nx
  ·rw[if_pos hA]at h;obtain⟨_,_,q3,q4⟩:=G.next (by omega);rw[<-hA,Int.add_sub_cancel]at q3 q4;have hcg:Cu N t g:=by grind [Cu]
   have:=G.top h hcg
   grind
  ·rw[if_neg hA]at h;have:=X.top h c2;omega
theorem A7n (T:Wy N t){g:Int}(hg:Lv N t g):Wy N (rem t g):=by
 refine⟨fun k hk=>Bu6 T hg hk,fun k hk=> ?_,fun k h0 h1 h=> ?_⟩
 ·obtain⟨hne,hl⟩:=Xg.1 hk;obtain⟨r1,r2⟩:=T.rise k hl;obtain⟨_,c1,c2⟩:=Bu5 (t:=t) (t':=rem t g) (N:=N) (g:=g) (fun x hx=>by rw[V5 hx]) (by rw[iv]) N.toNat k;refine⟨by omega,fun x hx hc=> ?_⟩;by_cases e:x=g
  ·subst e;unfold Cu at hc;rw[iv]at hc;have:=hc.1.1.1
   grind
  ·rcases c2 with c2|c2
   ·grind
   simp_all[de]
 ·by_cases e:k=g
  ·simp_all[iv]
  ·rw[V5 e]at h ⊢;simp only at h ⊢;obtain⟨a,b,c,d⟩:=T.bare k h0 h1 h;have G:=T.link g hg;refine⟨a,?_,?_,?_⟩
   ·rw[if_neg (fun q=>by have:=hg.1;omega)];exact b
   ·rw[if_neg]
    ·exact c
    ·intro q;have:=(G.prev (by omega)).1.2
     grind
   ·rw[if_neg]
    ·exact d
    ·intro q;have:=(G.next (by omega)).1.2
     grind
theorem Bu7 (T:Wy N t){r:Int->Nat}(W:Wf N t r){g:Int}(hg:Lv N t g):Wf N (rem t g) r:=by
 intro x hx h;obtain⟨hne,hl⟩:=Xg.1 hx;rw[V5 hne]at h ⊢;simp only at h ⊢;by_cases hA:x+1=(t g).nx
 ·rw[if_pos hA]at h ⊢;have h1:=W g hg h;have h2:=((T.link g hg).next (by have:=hl.1;omega)).2.1;rw[<-hA,Int.add_sub_cancel]at h2;have h3:=W x hl (by have:=hg.1;omega)
  grind
 ·rw[if_neg hA]at h ⊢;exact W x hl h
end
section
variable (N:Int) (t:Int->Lk)
def kf (f:Int):List Int:=kids N t N.toNat (f - 1)
structure fg (fs:List Int):Prop where
 nodup:(fs.flatMap (kf N t)).Nodup
 iff: ∀x,x∈fs.flatMap (kf N t) ↔ Oo N t x
 top: ∀f∈fs,f≠0->(0<=f - 1/\f - 1<N)/\(t (f - 1)).pv=0
inductive Dd (S:List Int):Int->Prop
 |base {y:Int}:y∈S->Dd S y
 |step {y:Int}:Lv N t y->Cu N t y->Dd S ((t y).up - 1)->Dd S y
inductive Al:Int->Prop
 |root {y:Int}:Lv N t y->(t y).up=0->Al y
 |step {y:Int}:Lv N t y->Cu N t y->Al ((t y).up - 1)->Al y
def qf:List Int->List (Int×Int)->Prop
 |_,[]=>True
 |seen,e::q=>(∀y,Dd N t (kf N t e.2) y-> ∀x,Lv N t x->(t x).up=y+1-> ¬Cu N t x->x∈seen)/\(e.1≠0-> ∀x,Lv N t x->(t x).up=e.1->x∈seen++kf N t e.2)/\qf (seen++kf N t e.2) q
structure V3 (qs:List (Int×Int)):Prop where
 tree:Wy N t
 wf: ∃r,Wf N t r
 uw: ∃d:Int->Nat,∀x,Lv N t x->Cu N t x->d ((t x).up - 1)<d x
 kid:fg N t (qs.map (·.2))
 ord:qf N t [] qs
 gone: ∀x,Lv N t x->(t x).up≠0->(t ((t x).up - 1)).lv=true\/(t ((t x).up - 1)).gn=true
 ep: ∀x,Lv N t x->Lv N t ((t x).up - 1)->(t x).ue<=(t ((t x).up - 1)).ep
 slot: ∀e∈qs,e.1≠0->(t (e.1 - 1)).lv=false/\(t (e.1 - 1)).gn=true
end
section
variable {N:Int} {t:Int->Lk}
theorem Al.lv{y:Int}(h:Al N t y):Lv N t y:=by cases h<;>assumption
theorem Al.noOr{y:Int}(h:Al N t y): ¬Oo N t y:=by
 intro g;cases h with
 |root a b=>exact g.2.1 b
 |step a b c=>exact g.2.2 b
theorem Al.noDd{S:List Int}(hS: ∀x∈S,Oo N t x){y:Int}(h:Al N t y): ¬Dd N t S y:=by
 induction h with
 |root a b=>
  intro g;cases g with
  |base g=>exact(hS _ g).2.1 b
  |step g1 g2 g3=>have:=g2.1.1.1;omega
 |step a b c ih=>
  intro g;cases g with
  |base g=>exact(hS _ g).2.2 b
  |step g1 g2 g3=>grind
theorem Dd.in{S:List Int}(hS: ∀x∈S,0<=x/\x<N){y:Int}(h:Dd N t S y):0<=y/\y<N:=by
 cases h with
 |base h=>grind
 |step h _ _=>exact h.1
theorem uf{f x:Int}(h:x∈kf N t f):0<=x/\x<N:=A7l _ _ _ h
theorem fg.or{fs:List Int}(h:fg N t fs){f:Int}(hf:f∈fs){x:Int}(hx:x∈kf N t f):Oo N t x:=
 (h.iff x).1 (List.mem_flatMap.2 ⟨f,hf,hx⟩)
theorem sib (T:Wy N t){g x:Int}(hg:Lv N t g)(h:x+1=(t g).pv)(hx:0<=x):Lv N t x/\(t g).up=(t x).up/\(t g).ue=(t x).ue:=by
 obtain⟨a,b⟩:=(T.link g hg).prev (by omega);rw[<-h,Int.add_sub_cancel]at a b;obtain⟨_,_,c,d⟩:=(T.link x a).next (by rw[b];have:=hg.1;omega);rw[b,Int.add_sub_cancel]at c d;exact⟨a,c,d⟩
theorem Bed{g x:Int}(h1:(t g).up=(t x).up)(h2:(t g).ue=(t x).ue):Cu N t g ↔ Cu N t x:=by unfold Cu;rw[h1,h2]
theorem Zb (T:Wy N t){r:Int->Nat}(W:Wf N t r){g:Int}(hg:Lv N t g)(x:Int):x∈kf N t (t g).fi ↔ Lv N t x/\(t x).up=g+1/\Cu N t x:=by
 unfold kf;rw[Bu3 T W hg];constructor
 ·simp_all[Cu]
 ·rintro⟨a,b,c⟩;refine⟨a,b,?_⟩
  have:=c.2
  grind
theorem A3r{g f:Int}(h: ∀x∈kf N t f,x≠g/\x+1≠(t g).pv):kf N (rem t g) f=kf N t f:=
 Aku _ _ fun x hx=>by
  obtain⟨a,b⟩:=h x hx;simp_all[V5]
theorem iy (T:Wy N t){r:Int->Nat}(W:Wf N t r){g:Int}(hg:Lv N t g):kf N (rem t g) (t g).fi=kf N t (t g).fi:=by
 refine A3r fun x hx=> ?_;obtain⟨a,b,c⟩:=(Zb T W hg x).1 hx;constructor
 ·grind [ud]
 ·intro e;obtain⟨_,h1,h2⟩:=sib T hg e a.1.1;exact ud T hg ((Bed h1 h2).2 c) (h1.trans b)
theorem A7o (T:Wy N t){g f:Int}(hg:Lv N t g)(h:(0<=f - 1/\f - 1<N)/\(t (f - 1)).pv=0):(0<=f - 1/\f - 1<N)/\(rem t g (f - 1)).pv=0:=by
 refine⟨h.1,?_⟩;by_cases e:f - 1=g
 ·rw[e,iv]
 ·rw[V5 e];simp only;rw[if_neg]
  ·exact h.2
  ·intro q;have:=((T.link g hg).next (by omega)).2.1;rw[<-q,Int.add_sub_cancel,h.2]at this;have:=hg.1;omega
theorem Bee (T:Wy N t){g:Int}(hg:Lv N t g)(h:(t g).fi≠0):(0<=(t g).fi - 1/\(t g).fi - 1<N)/\(rem t g ((t g).fi - 1)).pv=0:=by
 obtain⟨a,b,_⟩:=(T.link g hg).first h;exact A7o T hg ⟨a.1,b⟩
theorem dg{α:Type}{a b:List α}:(a++b).Nodup ↔ a.Nodup/\b.Nodup/\ ∀x∈a,x ∉ b:=by
 grind
theorem Zl{α β:Type}{l:List α}{f g:α->List β}(h: ∀x∈l,f x=g x):l.flatMap f=l.flatMap g:=by
 induction l with
 |nil=>rfl
 |cons x l ih=>rw[List.flatMap_cons,List.flatMap_cons,h x (by simp),ih fun y hy=>h y (by simp[hy])]
theorem A7p (T:Wy N t){g:Int}(hg:Lv N t g)(ho: ¬Oo N t g){fs:List Int}(K:fg N t fs){f:Int}(hf:f∈fs):kf N (rem t g) f=kf N t f:=by
 refine A3r fun x hx=> ?_
 have hx:=K.or hf hx;constructor
 ·grind
 ·intro e;obtain⟨_,h1,h2⟩:=sib T hg e hx.1.1.1;exact ho ⟨hg,h1 ▸ hx.2.1,fun c=>hx.2.2 ((Bed h1 h2).1 c)⟩
theorem Bu8 (T:Wy N t){r:Int->Nat}(W:Wf N t r){g:Int}(hg:Lv N t g)(ho: ¬Oo N t g){fs:List Int}(K:fg N t fs):fg N (rem t g) (fs++[(t g).fi]):=by
 have e:(fs++[(t g).fi]).flatMap (kf N (rem t g))=fs.flatMap (kf N t)++kf N t (t g).fi:=by
  grind [iy,Zl,A7p]
 refine⟨?_,fun x=> ?_,fun f hf h0=> ?_⟩
 ·rw[e,dg];exact⟨K.nodup,A3p T W _ hg,fun x h1 h2=>((K.iff x).1 h1).2.2 ((Zb T W hg x).1 h2).2.2⟩
 ·rw[e,C5,K.iff,Zb T W hg,Beb hg.1.1];constructor
  ·grind [ud]
  ·rintro⟨a,h|⟨b,c⟩⟩
   ·grind
   ·by_cases d:Cu N t x
    ·grind
    ·exact .inl ⟨b,by have:=hg.1.1;omega,d⟩
 ·rw[C5,Dt]at hf;rcases hf with hf|rfl
  ·exact A7o T hg (K.top f hf h0)
  ·exact Bee T hg h0
theorem Akv{f:Int}(h:0<=f - 1/\f - 1<N):f - 1∈kf N t f:=by
 unfold kf;obtain⟨m,hm⟩: ∃m,N.toNat=m+1:=⟨N.toNat - 1,by omega⟩;rw[hm,kids,if_pos h];simp
theorem ug (T:Wy N t){r:Int->Nat}(W:Wf N t r){g:Int}(hg:Lv N t g):kf N t (g+1)=g::kf N t (t g).nx:=by
 unfold kf;obtain⟨m,hm⟩: ∃m,N.toNat=m+1:=⟨N.toNat - 1,by have:=hg.1;omega⟩;rw[Int.add_sub_cancel,hm,kids,if_pos hg.1];congr 1;rw[Bu0,List.take_of_length_le];by_cases h0:(t g).nx=0
 ·rw[h0,iu];grind
 ·obtain⟨a,b,_⟩:=(T.link g hg).next h0;have hr:=W _ a (by rw[b];have:=hg.1;omega);rw[b,Int.add_sub_cancel]at hr;have hn:g ∉ kids N t (m+1) ((t g).nx - 1):=fun h=>by
   have:=(Bea T W (m+1) _ a).1 g h;omega
  have:=A3o (N:=N) (List.nodup_cons.2 ⟨hn,A7m T W (m+1) a⟩) (fun y hy=>by
   rcases Ax.1 hy with rfl|hy
   ·exact hg.1
   ·exact A7l _ _ y hy)
  grind
theorem Bef (T:Wy N t){r:Int->Nat}(W:Wf N t r){g:Int}(hg:Lv N t g){fs:List Int}(K:fg N t ((g+1)::fs)):
  (∀f∈(t g).nx::fs,kf N (rem t g) f=kf N t f)/\fg N (rem t g) ((t g).fi::(t g).nx::fs):=by
 have h0:(t g).pv=0:=by have:=(K.top (g+1) (by simp) (by have:=hg.1;omega)).2;grind
 have ho:Oo N t g:=K.or (f:=g+1) (by simp) (by have:=Akv (N:=N) (t:=t) (f:=g+1) (by rw[Int.add_sub_cancel];exact hg.1);grind);have hnd:=K.nodup;rw[List.flatMap_cons,ug T W hg]at hnd;rw[Gh,List.nodup_cons]at hnd;have hold: ∀f∈(t g).nx::fs,kf N (rem t g) f=kf N t f:=fun f hf=>A3r fun x hx=>by
  refine⟨?_,fun e=>by have:=uf hx;omega⟩
  grind
 have e:((t g).fi::(t g).nx::fs).flatMap (kf N (rem t g))=kf N t (t g).fi++((t g).nx::fs).flatMap (kf N t):=by
  grind [iy,Zl]
 have hsub: ∀x,x∈((t g).nx::fs).flatMap (kf N t) ↔ Oo N t x/\x≠g:=by
  intro x;have:=K.iff x;rw[List.flatMap_cons,ug T W hg,Gh,Ax]at this
  grind
 refine⟨hold,?_,fun x=> ?_,fun f hf h1=> ?_⟩
 ·rw[e,dg];refine⟨A3p T W _ hg,by grind,fun x h1 h2=>((hsub x).1 h2).1.2.2 ((Zb T W hg x).1 h1).2.2⟩
 ·rw[e,C5,hsub,Zb T W hg,Beb hg.1.1];constructor
  ·grind [ud]
  ·rintro⟨a,h|⟨b,c⟩⟩
   ·grind
   ·by_cases d:Cu N t x
    ·grind
    ·exact .inr ⟨⟨b,by have:=hg.1.1;omega,d⟩,a⟩
 ·rcases Ax.1 hf with rfl|hf
  ·exact Bee T hg h1
  ·rcases Ax.1 hf with rfl|hf
   ·obtain⟨a,b,_⟩:=(T.link g hg).next h1;have hm:(t g).nx - 1≠g:=fun q=>by grind
    refine⟨a.1,?_⟩;simp_all[V5]
   ·exact A7o T hg (K.top f (by simp[hf]) h1)
theorem Akw{t':Int->Lk}: ∀(q:List (Int×Int)) (seen seen':List Int),(∀e∈q,kf N t' e.2=kf N t e.2)->
  (∀e∈q,∀y,Dd N t' (kf N t' e.2) y->Dd N t (kf N t e.2) y/\ ∀x,Lv N t' x->(t' x).up=y+1-> ¬Cu N t' x->x∈seen'\/Lv N t x/\(t x).up=y+1/\ ¬Cu N t x)->
  (∀e∈q,e.1≠0-> ∀x,Lv N t' x->(t' x).up=e.1->x∈seen'\/Lv N t x/\(t x).up=e.1)->
  (∀x∈seen,Lv N t' x->x∈seen')->qf N t seen q->qf N t' seen' q:=by
 intro q;induction q with
 |nil=>intros;trivial
 |cons e q ih=>
  intro seen seen' hk hd hsl hs h;obtain⟨h1,h2,h3⟩:=h;have hke:=hk e (by simp);refine⟨fun y hy x hx hu hc=> ?_,fun h0 x hx hu=> ?_,?_⟩
  ·grind
  ·grind
  ·rw[hke];refine ih (seen++kf N t e.2) _ (fun f hf=>hk f (by simp[hf])) (fun f hf y hy=> ?_) (fun f hf h0 x hx hu=> ?_) (fun x hx hl=> ?_) h3
   all_goals grind
theorem Beg: ∀(q:List (Int×Int)) (seen:List Int) (e:Int×Int),qf N t seen q->
  (∀y,Dd N t (kf N t e.2) y-> ∀x,Lv N t x->(t x).up=y+1-> ¬Cu N t x->x∈seen++q.flatMap (fun e=>kf N t e.2))->
  (e.1≠0-> ∀x,Lv N t x->(t x).up=e.1->x∈(seen++q.flatMap (fun e=>kf N t e.2))++kf N t e.2)->qf N t seen (q++[e]):=by
 intro q;induction q with
 |nil=>intro seen e h h1 h2;rw[List.flatMap_nil,List.append_nil]at h1 h2;exact⟨h1,h2,trivial⟩
 |cons f q ih=>
  intro seen e h h1 h2;obtain⟨a,b,c⟩:=h;rw[List.flatMap_cons,<-Je]at h1 h2;exact⟨a,b,ih _ e c h1 h2⟩
theorem A3s{g:Int}{S:List Int}{y:Int}(h:Dd N (rem t g) S y):Dd N t S y:=by
 induction h with
 |base h=>exact .base h
 |step a b c ih=>
  obtain⟨h1,h2⟩:=Xg.1 a;rw[V5 h1]at ih;exact .step h2 ((de h1).1 b).2 ih
theorem Akx{g:Int}{S:List Int}(hS:g ∉ S){y:Int}(h:Dd N (rem t g) S y):y≠g:=by
 cases h with
 |base h=>grind
 |step a _ _=>exact(Xg.1 a).1
theorem Beh{qs qs':List (Int×Int)}(F:V3 N t qs){g:Int}(hg:Lv N t g)(hK:fg N (rem t g) (qs'.map (·.2)))(hO:qf N (rem t g) [] qs')(hs: ∀e∈qs',e.1≠0->e.1=g+1\/e.1∈qs.map (·.1)):V3 N (rem t g) qs':=by
 obtain⟨r,W⟩:=F.wf;obtain⟨d,U⟩:=F.uw;refine⟨A7n F.tree hg,⟨r,Bu7 F.tree W hg⟩,⟨d,fun x hx hc=> ?_⟩,hK,hO,fun x hx h=> ?_,fun x hx h=> ?_,fun e he h0=> ?_⟩
 ·obtain⟨h1,h2⟩:=Xg.1 hx;rw[V5 h1];exact U x h2 ((de h1).1 hc).2
 ·obtain⟨h1,h2⟩:=Xg.1 hx;rw[V5 h1]at h ⊢;simp only at h ⊢;by_cases e:(t x).up - 1=g
  ·simp_all[iv]
  grind [V5,V3.gone]
 ·obtain⟨h1,h2⟩:=Xg.1 hx;rw[V5 h1]at h ⊢;simp only at h ⊢;obtain⟨h3,h4⟩:=Xg.1 h
  grind [V5,V3.ep]
 ·by_cases e1:e.1 - 1=g
  ·simp_all[iv]
  ·rw[V5 e1];rcases hs e he h0 with h|h
   ·omega
   ·obtain⟨a,ha,hb⟩:=A8.1 h
    grind [V3.slot]
theorem Bu9{qs:List (Int×Int)}(F:V3 N t qs){g:Int}(hg:Al N t g):V3 N (rem t g) (qs++[(g+1,(t g).fi)]):=by
 obtain⟨r,W⟩:=F.wf;have hl:=hg.lv;have T:=F.tree;have K:=F.kid;have hK:=Bu8 T W hl hg.noOr K;rw[show qs.map (·.2)++[(t g).fi]=(qs++[(g+1,(t g).fi)]).map (·.2)by simp]at hK;have hold: ∀e∈qs,kf N (rem t g) e.2=kf N t e.2:=fun e he=>A7p T hl hg.noOr K (A8.2 ⟨e,he,rfl⟩)
 have hgn: ∀e∈qs,g ∉ kf N t e.2:=fun e he h=>hg.noOr (K.or (A8.2 ⟨e,he,rfl⟩) h)
 have hflat:qs.flatMap (fun e=>kf N (rem t g) e.2)=(qs.map (·.2)).flatMap (kf N t):=by
  grind [Zl]
 refine Beh F hl hK (Beg _ _ _ (Akw qs [] [] hold (fun e he y hy=> ?_) (fun e he h0 x hx hu=> ?_) (fun x hx=>by cases hx) F.ord) (fun y hy x hx hu hc=> ?_) (fun _ x hx hu=> ?_)) (fun e he h0=> ?_)
 ·have hy2:=Akx (by grind) hy;refine⟨by grind [A3s],fun x hx hu hc=> .inr ?_⟩;simp_all[Xg,V5,de]
 ·simp_all[Xg,V5]
 ·rw[Hd,hflat,K.iff];obtain⟨a,b⟩:=Xg.1 hx;rw[V5 a]at hu;simp only at hu;rw[iy T W hl]at hy;have hgc:g ∉ kf N t (t g).fi:=fun h=>by obtain⟨_,h2,h3⟩:=(Zb T W hl g).1 h;grind [ud]
  have hy2:=Akx hgc hy;have hy0:=Dd.in (fun x hx=>uf hx) hy;exact⟨b,by omega,fun h=>hc ((de a).2 ⟨by omega,h⟩)⟩
 ·rw[Hd,hflat,iy T W hl,C5,K.iff,Zb T W hl];obtain⟨a,b⟩:=Xg.1 hx;rw[V5 a]at hu;simp only at hu;by_cases c:Cu N t x
  ·grind
  ·exact .inl ⟨b,by omega,c⟩
 grind
theorem Bva{qs:List (Int×Int)}{s g:Int}(F:V3 N t ((s,g+1)::qs))(h0:0<=g):Lv N t g/\(t g).pv=0/\V3 N (rem t g) ((g+1,(t g).fi)::(s,(t g).nx)::qs):=by
 obtain⟨r,W⟩:=F.wf;have T:=F.tree;have K:=F.kid;rw[Z8]at K;obtain⟨k1,k2⟩:=K.top (g+1) (by simp) (by omega);have hgm:g∈kf N t (g+1):=by have:=Akv (N:=N) (t:=t) k1;grind
 have ho:Oo N t g:=K.or (f:=g+1) (by simp) hgm;have hl:=ho.1;rw[Int.add_sub_cancel]at k2;obtain⟨hold,hK⟩:=Bef T W hl K;obtain⟨o1,o2,o3⟩:=F.ord;simp only[Hd]at o1 o2 o3;have hsp:=ug T W hl;have hgc:g ∉ kf N t (t g).fi:=fun h=>by obtain⟨_,h2,h3⟩:=(Zb T W hl g).1 h;grind [ud]
 have hchild: ∀y,Dd N t (kf N t (t g).fi) y->Dd N t (kf N t (g+1)) y:=by
  intro y hy;induction hy with
  |base h=>
   obtain⟨a,b,c⟩:=(Zb T W hl _).1 h;exact .step a c (by rw[b,Int.add_sub_cancel];exact .base hgm)
  |step a b c ih=>exact .step a b ih
 have hnone: ∀y,Dd N t (kf N t (g+1)) y-> ∀x,Lv N t x->(t x).up=y+1->Cu N t x:=fun y hy x hx hu=>Classical.byContradiction fun h=>by grind
 refine⟨hl,k2,Beh F hl hK ⟨fun y hy x hx hu hc=> ?_,fun _ x hx hu=> ?_,fun y hy x hx hu hc=> ?_,fun hs x hx hu=> ?_,?_⟩ (fun e he h1=> ?_)⟩
 ·exfalso;rw[iy T W hl]at hy;have hy2:=Akx hgc hy;obtain⟨a,b⟩:=Xg.1 hx;rw[V5 a]at hu;simp only at hu;exact hc ((de a).2 ⟨by omega,hnone y (hchild y (A3s hy)) x b hu⟩)
 ·rw[Hd,iy T W hl,Zb T W hl];obtain⟨a,b⟩:=Xg.1 hx;rw[V5 a]at hu;simp only at hu;exact⟨b,hu,hnone g (.base hgm) x b hu⟩
 ·exfalso;rw[hold _ (by simp)]at hy;have hgt:g ∉ kf N t (t g).nx:=by
   have:=K.nodup
   grind
  have hy2:=Akx hgt hy;obtain⟨a,b⟩:=Xg.1 hx;rw[V5 a]at hu;simp only at hu;have hd:Dd N t (kf N t (g+1)) y:=by
   have:=A3s hy;rw[hsp];clear hy hu;induction this with
   |base h=>exact .base (Pv _ h)
   |step a b c ih=>
    exact .step a b (Classical.byCases (fun e:(t _).up - 1=g=>by rw[e];exact .base (by simp)) (fun e=>ih e))
  exact hc ((de a).2 ⟨by omega,hnone y hd x b hu⟩)
 ·rw[Hd,iy T W hl,hold _ (by simp)];obtain⟨a,b⟩:=Xg.1 hx;rw[V5 a]at hu
  grind
 ·rw[Hd,iy T W hl,hold _ (by simp)];have hq: ∀e∈qs,e.2∈(t g).nx::qs.map (·.2):=fun e he=>Pv _ (A8.2 ⟨e,he,rfl⟩)
  have hnd:=K.nodup;rw[List.flatMap_cons,hsp,Gh,List.nodup_cons]at hnd;refine Akw qs (kf N t (g+1)) _ (fun e he=>hold _ (hq e he)) (fun e he y hy=> ?_) (fun e he _ x hx hu=> ?_) (fun x hx hl'=> ?_) o3
  ·rw[hold _ (hq e he)]at hy;have hy2:=Akx (fun h=>hnd.1 (List.mem_append_right _ (List.mem_flatMap.2 ⟨e.2,A8.2 ⟨e,he,rfl⟩,h⟩))) hy;refine⟨A3s hy,fun x hx hu hc=> .inr ?_⟩;obtain⟨a,b⟩:=Xg.1 hx;simp_all[V5,de]
  ·simp_all[Xg,V5]
  ·rw[hsp]at hx;rcases Ax.1 hx with h|h
   ·exact absurd h (Xg.1 hl').1
   grind
 grind
end
section
variable {N:Int} {t:Int->Lk}
def X3 (t:Int->Lk)(k x:Int):Lk:=if x=k then⟨(t k).lv,(t k).gn,(t k).ep+1,(t k).up,(t k).ue,0,(t k).nx,(t k).pv⟩else t x
theorem uh{k:Int}:X3 t k k=⟨(t k).lv,(t k).gn,(t k).ep+1,(t k).up,(t k).ue,0,(t k).nx,(t k).pv⟩:=if_pos rfl
theorem mg{k x:Int}(h:x≠k):X3 t k x=t x:=if_neg h
theorem W5 (k x:Int):(X3 t k x).lv=(t x).lv/\(X3 t k x).gn=(t x).gn/\(X3 t k x).up=(t x).up/\(X3 t k x).ue=(t x).ue/\(X3 t k x).nx=(t x).nx/\(X3 t k x).pv=(t x).pv:=by
 by_cases h:x=k
 all_goals simp_all[uh,mg]
theorem Yc{k x:Int}:Lv N (X3 t k) x ↔ Lv N t x:=by simp_all[Lv,W5]
theorem qg (hE: ∀x,Lv N t x->Lv N t ((t x).up - 1)->(t x).ue<=(t ((t x).up - 1)).ep){k x:Int}(hx:Lv N t x):Cu N (X3 t k) x ↔ (t x).up≠k+1/\Cu N t x:=by
 unfold Cu;rw[Yc,(W5 k x).2.2.1,(W5 k x).2.2.2.1];by_cases h:(t x).up - 1=k
 ·grind [uh]
 ·rw[mg h]
  grind
theorem A3t{k x:Int}(hx:(t x).up≠k+1):Cu N (X3 t k) x ↔ Cu N t x:=by
 unfold Cu;rw[Yc,(W5 k x).2.2.1,(W5 k x).2.2.2.1,mg (by omega)]
theorem Aky (k f:Int):kf N (X3 t k) f=kf N t f:=Aku _ _ fun x _=>(W5 k x).2.2.2.2.1
theorem Bvb (k:Int)(n:Nat)(x:Int):rise N (X3 t k) n x=rise N t n x:=A3q _ _ fun x _=>(W5 k x).2.2.1
theorem Bvc (T:Wy N t)(hE: ∀x,Lv N t x->Lv N t ((t x).up - 1)->(t x).ue<=(t ((t x).up - 1)).ep){k:Int}(hk:Lv N t k):Wy N (X3 t k):=by
 refine⟨fun x hx=> ?_,fun x hx=> ?_,fun x h0 h1 h=> ?_⟩
 ·have hl:=Yc.1 hx;have X:=T.link x hl;obtain⟨s1,s2,s3,s4,s5,s6⟩:=W5 (t:=t) k x;refine⟨fun h=> ?_,fun h=> ?_,fun h=> ?_,fun h=> ?_,fun h hc=> ?_⟩
  ·by_cases e:x=k
   ·simp_all[uh]
   ·rw[mg e]at h ⊢;obtain⟨a,b,c,d⟩:=X.first h;obtain⟨q1,q2,q3,q4,q5,q6⟩:=W5 (t:=t) k ((t x).fi - 1)
    grind [Yc]
  ·rw[s5]at h ⊢;obtain⟨q1,q2,q3,q4,q5,q6⟩:=W5 (t:=t) k ((t x).nx - 1)
   grind [Yc,ff.next]
  ·rw[s6]at h ⊢;rw[Yc,(W5 k _).2.2.2.2.1];exact X.prev h
  ·rw[s3]at h ⊢;exact X.up h
  ·rw[s6]at h;obtain⟨a,b⟩:=(qg hE hl).1 hc
   grind [mg,ff.top]
 ·have hl:=Yc.1 hx;rw[Bvb];obtain⟨a,b⟩:=T.rise x hl;refine⟨a,fun y hy hc=> ?_⟩;have hy2:=b y hy;by_cases e:Lv N t y
  ·simp_all[qg]
  ·have hin:=mf _ _ y (List.mem_of_getLast? hy);have:=(T.bare y hin.1 hin.2 (by cases q:(t y).lv with|false=>rfl|true=>exact absurd ⟨hin,q⟩ e)).1
   unfold Cu at hc;rw[(W5 k y).2.2.1,this]at hc;have:=hc.1.1.1;omega
 ·by_cases e:x=k
  ·subst e;rw[uh]at h;have:=hk.2;grind
  grind [mg,Wy.bare]
theorem Bei (hE: ∀x,Lv N t x->Lv N t ((t x).up - 1)->(t x).ue<=(t ((t x).up - 1)).ep){k x:Int}(hk:0<=k):Oo N (X3 t k) x ↔ Oo N t x\/Lv N t x/\(t x).up=k+1:=by
 unfold Oo;rw[Yc,(W5 k x).2.2.1];constructor
 ·rintro⟨a,b,c⟩
  by_cases e:(t x).up=k+1
  all_goals simp_all[qg]
 ·rintro(⟨a,b,c⟩|⟨a,b⟩)
  ·simp_all[qg]
  ·exact⟨a,by omega,fun d=>((qg hE a).1 d).1 b⟩
theorem Bvd{qs:List (Int×Int)}(F:V3 N t qs){k:Int}(hg:Al N t k):V3 N (X3 t k) (qs++[(0,(t k).fi)]):=by
 obtain⟨r,W⟩:=F.wf;obtain⟨d,U⟩:=F.uw;have hl:=hg.lv;have T:=F.tree;have K:=F.kid;have hE:=F.ep;have hflat:qs.flatMap (fun e=>kf N (X3 t k) e.2)=(qs.map (·.2)).flatMap (kf N t):=by
  simp_all[List.flatMap_map,Aky]
 have hfl2:((qs++[((0:Int),(t k).fi)]).map (fun e:Int×Int=>e.2)).flatMap (kf N (X3 t k))=(qs.map (·.2)).flatMap (kf N t)++kf N t (t k).fi:=by
  grind [List.flatMap_map,Aky]
 refine⟨Bvc T hE hl,⟨r,fun x hx h=> ?_⟩,⟨d,fun x hx hc=> ?_⟩,⟨?_,fun x=> ?_,fun f hf h0=> ?_⟩,Beg _ _ _ (Akw qs [] [] (fun e _=>Aky k e.2) (fun e he y hy=> ?_) (fun e he _ x hx hu=> ?_) (fun x hx=>by cases hx) F.ord) (fun y hy x hx hu hc=> ?_) (fun h=>absurd rfl h),fun x hx h=> ?_,fun x hx h=> ?_,fun e he h0=> ?_⟩
 ·rw[(W5 k x).2.2.2.2.2]at h ⊢;exact W x (Yc.1 hx) h
 ·simp_all[W5,Yc,qg]
 ·rw[hfl2,dg];exact⟨K.nodup,A3p T W _ hl,fun x h1 h2=>((K.iff x).1 h1).2.2 ((Zb T W hl x).1 h2).2.2⟩
 ·rw[hfl2,C5,K.iff,Zb T W hl,Bei hE hl.1.1];constructor
  ·grind
  ·rintro(h|⟨b,c⟩)
   ·grind
   ·by_cases d:Cu N t x
    ·grind
    ·exact .inl ⟨b,by have:=hl.1.1;omega,d⟩
 ·rw[(W5 k _).2.2.2.2.2];rw[Er,C5]at hf;rcases hf with hf|hf
  ·exact K.top f hf h0
  ·simp only[Z8,De,Dt]at hf;subst hf;obtain⟨a,b,_⟩:=(T.link k hl).first h0;exact⟨a.1,b⟩
 ·have hor: ∀x∈kf N t e.2,Oo N t x:=fun x hx=>K.or (A8.2 ⟨e,he,rfl⟩) hx
  have hy2:Dd N t (kf N t e.2) y:=by
   rw[Aky]at hy;induction hy with
   |base h=>exact .base h
   |step a b c ih=>
    rw[(W5 k _).2.2.1]at ih;exact .step (Yc.1 a) ((qg hE (Yc.1 a)).1 b).2 ih
  refine⟨hy2,fun x hx hu hc=> .inr ?_⟩;rw[(W5 k x).2.2.1]at hu;have hne:y≠k:=fun q=>hg.noDd hor (q ▸ hy2)
  simp_all[Yc,A3t]
 ·simp_all[W5,Yc]
 ·rw[Hd,hflat,K.iff];rw[(W5 k x).2.2.1]at hu;have hy0:=Dd.in (fun x hx=>uf hx) hy;have hal:Al N (X3 t k) k:=by
   clear hy hu hc hx;cases hg with
   |root a b=>exact .root (Yc.2 a) (by simp_all[W5])
   |step a b c=>
    have key: ∀z,Al N t z->d z<d k->Al N (X3 t k) z:=by
     intro z hz;induction hz with
     |root a b=>intro _;exact .root (Yc.2 a) (by simp_all[W5])
     | @step z a b c ih=>
      intro h1;have h2:=U z a b;have hne:(t z).up≠k+1:=fun q=>by grind
      exact .step (Yc.2 a) ((A3t hne).2 b) (by rw[(W5 k _).2.2.1];grind)
    have h2:=U k a b;have hne:(t k).up≠k+1:=fun q=>by grind
    exact .step (Yc.2 a) ((A3t hne).2 b) (by simp_all[W5])
  have hne:y≠k:=fun q=>by
   refine hal.noDd (S:=kf N (X3 t k) (t k).fi) (fun z hz=> ?_) (q ▸ hy);rw[Aky,Zb T W hl]at hz;simp_all[Bei]
  exact⟨Yc.1 hx,by omega,fun h=>hc ((A3t (by omega)).2 h)⟩
 ·rw[(W5 k x).2.2.1]at h ⊢;rw[(W5 k _).1,(W5 k _).2.1];exact F.gone x (Yc.1 hx) h
 ·rw[(W5 k x).2.2.1]at h ⊢;rw[(W5 k x).2.2.2.1];have:=hE x (Yc.1 hx) (Yc.1 h);by_cases e:(t x).up - 1=k
  all_goals grind [uh,mg]
 ·rw[(W5 k _).1,(W5 k _).2.1];rcases C5.1 he with he|he
  ·exact F.slot e he h0
  ·rw[Dt]at he;rw[he]at h0;exact absurd rfl h0
def Yx (t:Int->Lk)(k x:Int):Lk:=if x=k then⟨false,false,0,0,0,0,0,0⟩else t x
theorem Bej{qs:List (Int×Int)}{s:Int}(F:V3 N t ((s,0)::qs)):V3 N t qs:=by
 obtain⟨o1,o2,o3⟩:=F.ord;have h0:kf N t 0=[]:=iu _;have K:=F.kid;simp only[h0,List.append_nil]at o3;refine⟨F.tree,F.wf,F.uw,?_,o3,F.gone,F.ep,fun e he=>F.slot e (Pv _ he)⟩;refine⟨?_,fun x=> ?_,fun f hf=>K.top f (Pv _ hf)⟩
 ·have:=K.nodup;grind
 ·have:=K.iff x;grind
theorem Y5{k:Int}(h:(t k).lv=false){x:Int}:Lv N (Yx t k) x ↔ Lv N t x:=by
 unfold Lv Yx
 grind
theorem X4{k:Int}(h:(t k).lv=false){x:Int}(hx:Lv N t x):Yx t k x=t x:=by
 unfold Yx;rw[if_neg];intro e;subst e;have:=hx.2
 grind
theorem ui{k:Int}(h:(t k).lv=false){x:Int}(hx:Lv N t x):Cu N (Yx t k) x ↔ Cu N t x:=by
 grind [Cu,X4,Y5]
theorem Bve{qs:List (Int×Int)}{s:Int}(F:V3 N t ((s,0)::qs))(h0:s≠0)(hs: ∀e∈qs,e.1≠s):V3 N (Yx t (s - 1)) qs:=by
 have F':=Bej F;obtain⟨r,W⟩:=F.wf;obtain⟨d,U⟩:=F.uw;have T:=F.tree;have K:=F'.kid;obtain⟨hlv,hgn⟩:=F.slot (s,0) (by simp) h0;simp only at hlv hgn;have hno: ∀x,Lv N t x->(t x).up≠s:=fun x hx e=>by
  have:=F.ord.2.1 h0 x hx e;rw[show kf N t ((s,(0:Int)).2)=[] from iu _]at this;cases this
 have hnl: ∀x,x≠s - 1->Yx t (s - 1) x=t x:=fun x h=>if_neg h
 have hup: ∀x,(0<=x/\x<N)->(Yx t (s - 1) x).up=(t x).up:=fun x h=>by
  by_cases e:x=s - 1
  ·subst e;rw[(T.bare _ h.1 h.2 hlv).1];simp_all[Yx]
  grind
 have hri: ∀n x,rise N (Yx t (s - 1)) n x=rise N t n x:=fun n x=>A3q n x fun y hy=>hup y (mf _ _ y hy)
 have hkf: ∀f∈qs.map (·.2),kf N (Yx t (s - 1)) f=kf N t f:=fun f hf=>Aku _ _ fun x hx=>by rw[X4 hlv (K.or hf hx).1]
 have hor: ∀x,Oo N (Yx t (s - 1)) x ↔ Oo N t x:=fun x=>by
  grind [Oo,Y5,X4,ui]
 have hdd: ∀S y,Dd N (Yx t (s - 1)) S y->Dd N t S y:=fun S y h=>by
  induction h with
  |base h=>exact .base h
  |step a b c ih=>
   have a:=(Y5 hlv).1 a;rw[X4 hlv a]at ih;exact .step a ((ui hlv a).1 b) ih
 refine⟨⟨fun x hx=> ?_,fun x hx=> ?_,fun x h0 h1 h=> ?_⟩,⟨r,fun x hx h=> ?_⟩,⟨d,fun x hx hc=> ?_⟩,⟨?_,fun x=> ?_,fun f hf h1=> ?_⟩,?_,fun x hx h=> ?_,fun x hx h=> ?_,fun e he h1=> ?_⟩
 ·have hl:=(Y5 hlv).1 hx;have X:=T.link x hl;refine⟨fun h=> ?_,fun h=> ?_,fun h=> ?_,fun h=> ?_,fun h hc=> ?_⟩
  ·rw[X4 hlv hl]at h ⊢;have a:=(X.first h).1
   grind [Y5,X4,ff.first]
  ·rw[X4 hlv hl]at h ⊢;have a:=(X.next h).1
   grind [Y5,X4,ff.next]
  ·rw[X4 hlv hl]at h ⊢;have a:=(X.prev h).1
   grind [Y5,X4,ff.prev]
  ·grind [X4,ff.up]
  ·have hc:=(ui hlv hl).1 hc;rw[X4 hlv hl]at h ⊢;rw[X4 hlv hc.1];exact X.top h hc
 ·have hl:=(Y5 hlv).1 hx;rw[hri];obtain⟨a,b⟩:=T.rise x hl;refine⟨a,fun y hy hc=>b y hy ?_⟩;unfold Cu at hc ⊢;rw[hup y (mf _ _ y (List.mem_of_getLast? hy)),Y5 hlv]at hc;refine⟨hc.1,?_⟩;rw[<-X4 hlv hc.1,hc.2];by_cases e:y=s - 1
  ·subst e;have hin:=mf _ _ _ (List.mem_of_getLast? hy);have:=(T.bare _ hin.1 hin.2 hlv).1;rw[this]at hc;have:=hc.1.1.1;omega
  grind
 ·by_cases e:x=s - 1
  ·simp_all[Yx]
  grind [Wy.bare]
 ·have hl:=(Y5 hlv).1 hx;rw[X4 hlv hl]at h ⊢;exact W x hl h
 ·have hl:=(Y5 hlv).1 hx;rw[X4 hlv hl];simp_all[ui]
 ·rw[Zl hkf];exact K.nodup
 ·rw[Zl hkf,K.iff,hor]
 ·obtain⟨a,b⟩:=K.top f hf h1;refine⟨a,?_⟩;rw[X4 hlv (K.or hf (Akv a)).1];exact b
 ·have hk: ∀e∈qs,kf N (Yx t (s - 1)) e.2=kf N t e.2:=fun e he=>hkf _ (A8.2 ⟨e,he,rfl⟩);refine Akw qs [] [] hk (fun e he y hy=>⟨by grind,fun x hx hu hc=> ?_⟩) (fun e he h1 x hx hu=> ?_) (fun x hx=>by cases hx) F'.ord
  ·have hl:=(Y5 hlv).1 hx;rw[X4 hlv hl]at hu;simp_all[ui]
  ·have hl:=(Y5 hlv).1 hx
   grind [X4]
 ·have hl:=(Y5 hlv).1 hx
  grind [X4,V3.gone]
 ·have hl:=(Y5 hlv).1 hx;rw[X4 hlv hl]at h ⊢;have h2:=(Y5 hlv).1 h
  grind [V3.ep]
 grind [V3.slot]
end
section
variable {N:Int} {t:Int->Lk}
def Yo (t:Int->Lk)(k p x:Int):Lk:=
 if x=k then⟨true,false,0,p+1,if p+1=0 then 0 else(t p).ep,0,if p+1=0 then 0 else(t p).fi,0⟩
 else⟨(t x).lv,(t x).gn,(t x).ep,(t x).up,(t x).ue,if x=p then k+1 else(t x).fi,(t x).nx,if p+1≠0/\x+1=(t p).fi then k+1 else(t x).pv⟩
theorem Yd{k p:Int}:Yo t k p k=⟨true,false,0,p+1,if p+1=0 then 0 else(t p).ep,0,if p+1=0 then 0 else(t p).fi,0⟩:=if_pos rfl
theorem Xq{k p x:Int}(h:x≠k):Yo t k p x=⟨(t x).lv,(t x).gn,(t x).ep,(t x).up,(t x).ue,if x=p then k+1 else(t x).fi,(t x).nx,if p+1≠0/\x+1=(t p).fi then k+1 else(t x).pv⟩:=if_neg h
theorem Bvf: ∀(n:Nat) (x y:Int),y∈rise N t n x->y=x\/ ∃z,z∈rise N t n x/\(t z).up - 1=y:=by
 intro n;induction n with
 |zero=>intro x y h;cases h
 |succ n ih=>
  intro x y h;rw[rise]at h ⊢
  grind
theorem Bek{d:Int->Nat}(U: ∀x,Lv N t x->Cu N t x->d ((t x).up - 1)<d x): ∀(n:Nat) (x:Int),Al N t x->(∀y∈rise N t n x,d y<=d x/\Al N t y)/\(rise N t n x).Pairwise (fun a b=>d b<d a):=by
 intro n;induction n with
 |zero=>intro x _;exact⟨fun y h=>(by cases h),.nil⟩
 |succ n ih=>
  intro x hx;rw[rise,if_pos hx.lv.1];cases hx with
  |root a b=>
   have:rise N t n ((t x).up - 1)=[]:=by rw[b];cases n with|zero=>rfl|succ n=>rfl
   rw[this];exact⟨fun y h=>by rw[Dt.1 h];exact⟨Z9 _,.root a b⟩,List.pairwise_singleton ..⟩
  |step a b c=>
   obtain⟨i1,i2⟩:=ih _ c;have h2:=U x a b;refine⟨fun y h=> ?_,List.pairwise_cons.2 ⟨fun y h=> ?_,i2⟩⟩
   ·rcases Ax.1 h with rfl|h
    ·exact⟨Z9 _,.step a b c⟩
    grind
   grind
theorem Bvg{qs:List (Int×Int)}(F:V3 N t qs){k p:Int}(hk:0<=k/\k<N)(hlv:(t k).lv=false)(hgn:(t k).gn=false)(hp:p= -1\/Al N t p/\(rise N t N.toNat p).length<4):V3 N (Yo t k p) qs:=by
 obtain⟨r,W⟩:=F.wf;obtain⟨d,U⟩:=F.uw;have T:=F.tree;have K:=F.kid;have hne: ∀ {x},Lv N t x->x≠k:=fun {x} h e=>by subst e;rw[h.2]at hlv;cases hlv
 have hno: ∀x,Lv N t x->(t x).up≠k+1:=fun x hx e=>by
  rcases F.gone x hx (by omega)with h|h
  all_goals grind
 have hp0:p+1≠0->Al N t p:=fun h=>by
  grind
 have hp1: ∀x,Lv N t x->x=p->p+1≠0:=fun x hx e=>by have:=hx.1.1;omega
 have L: ∀x,Lv N (Yo t k p) x ↔ x=k\/Lv N t x:=fun x=>by
  unfold Lv;by_cases e:x=k
  all_goals grind [Yd,Xq]
 have hL: ∀ {x},Lv N t x->Lv N (Yo t k p) x:=fun h=>(L _).2 (.inr h)
 have hup: ∀x,x≠k->(Yo t k p x).up=(t x).up:=fun x h=>by rw[Xq h]
 have C: ∀x,x≠k->(t x).up≠k+1->(Cu N (Yo t k p) x ↔ Cu N t x):=fun x h h1=>by
  unfold Cu;rw[L,hup x h,Xq (x:=(t x).up - 1) (by omega),Xq h]
  grind
 have Ck:p+1≠0->Cu N (Yo t k p) k:=fun h=>by
  simp_all[Al.lv,Cu,Yd,Xq]
 have Cn:p+1=0-> ¬Cu N (Yo t k p) k:=fun h c=>by
  unfold Cu at c;rw[Yd]at c
  grind
 have hkf: ∀f∈qs.map (·.2),kf N (Yo t k p) f=kf N t f:=fun f hf=>Aku _ _ fun x hx=>by rw[Xq (hne (K.or hf hx).1)]
 have hor: ∀x,Oo N (Yo t k p) x ↔ Oo N t x:=fun x=>by
  unfold Oo;rw[L];by_cases e:x=k
  ·subst e;constructor
   ·grind [Yd]
   grind
  grind
 have hrk: ∀x,Lv N t x-> ∀n,k ∉ rise N t n x:=fun x hx n h=>by
  rcases Bvf _ _ _ h with h|⟨z,h1,h2⟩
  ·grind
  ·by_cases hz:(t z).lv=true
   ·exact hno z ⟨mf _ _ _ h1,hz⟩ (by omega)
   ·have:=mf _ _ _ h1;have:=(T.bare z this.1 this.2 (by grind)).1;omega
 have hri: ∀x,Lv N t x-> ∀n,rise N (Yo t k p) n x=rise N t n x:=fun x hx n=>A3q n x fun y hy=>hup y fun e=>hrk x hx n (e ▸ hy)
 have hlast: ∀x,Lv N t x-> ∀y,(rise N t N.toNat x).getLast? =some y-> ¬Cu N (Yo t k p) y:=fun x hx y hy hc=>by
  have hm:=List.mem_of_getLast? hy;have hyk:y≠k:=fun e=>hrk x hx _ (e ▸ hm)
  have hin:=mf _ _ _ hm;by_cases hz:(t y).lv=true
  ·exact(T.rise x hx).2 y hy ((C y hyk (hno y ⟨hin,hz⟩)).1 hc)
  ·have:=(T.bare y hin.1 hin.2 (by grind)).1;unfold Cu at hc;rw[hup y hyk,this]at hc;have:=hc.1.1.1;omega
 obtain⟨m,hm⟩: ∃m,N.toNat=m+1:=⟨N.toNat - 1,by omega⟩;have hpk:p+1≠0->rise N (Yo t k p) N.toNat k=k::rise N t N.toNat p:=fun h=>by
  have ha:=hp0 h;rw[hm,rise,if_pos hk,Yd];simp only;rw[Int.add_sub_cancel,hri p ha.lv,<-hm];congr 1;rw[hm,Bu4,List.take_of_length_le];obtain⟨i1,i2⟩:=Bek U (m+1) p ha;have:=A3o (N:=N) (List.nodup_cons.2 ⟨hrk p ha.lv (m+1),i2.imp fun h e=>by grind⟩) (fun y hy=>by
   rcases Ax.1 hy with rfl|hy
   ·exact hk
   ·exact mf _ _ y hy)
  grind
 refine⟨⟨fun x hx=> ?_,fun x hx=> ?_,fun x h0 h1 h=> ?_⟩,⟨fun x=>if x=k then 0 else r x+1,fun x hx h=> ?_⟩,⟨fun x=>if x=k then d p+1 else d x,fun x hx hc=> ?_⟩,⟨?_,fun x=> ?_,fun f hf h1=> ?_⟩,?_,fun x hx h=> ?_,fun x hx h=> ?_,fun e he h1=> ?_⟩
 ·by_cases e:x=k
  ·subst e;refine⟨fun h=> ?_,fun h=> ?_,fun h=> ?_,fun h=> ?_,fun h hc=> ?_⟩
   ·simp_all[Yd]
   ·rw[Yd]at h ⊢;simp only at h ⊢;by_cases hq:p+1=0
    ·omega
    ·rw[if_neg hq]at h ⊢;rw[if_neg hq];obtain⟨a,b,c,e⟩:=(T.link p (hp0 hq).lv).first h;simp_all[Xq]
   ·simp_all[Yd]
   ·rw[Yd]at h ⊢;simp only at h ⊢;rw[Int.add_sub_cancel];exact(hp0 h).lv.1
   ·by_cases hq:p+1=0
    ·grind
    ·rw[Yd];simp only;rw[Int.add_sub_cancel,Xq (hne (hp0 hq).lv)];simp
  ·have hl:=((L x).1 hx).resolve_left e;have X:=T.link x hl;refine⟨fun h=> ?_,fun h=> ?_,fun h=> ?_,fun h=> ?_,fun h hc=> ?_⟩
   ·rw[Xq e]at h ⊢;simp only at h ⊢;by_cases hq:x=p
    ·have hq1:=hp1 x hl hq;rw[if_pos hq,Int.add_sub_cancel,Yd]
     grind
    ·rw[if_neg hq]at h ⊢;obtain⟨a,b,c,f⟩:=X.first h;rw[Xq (hne a)];simp only;rw[if_neg]
     ·grind
     ·rintro⟨g1,g2⟩
      have:=((T.link p (hp0 g1).lv).first (by omega)).2.2.1
      grind
   ·rw[Xq e]at h ⊢;simp only at h ⊢;obtain⟨a,b,c,f⟩:=X.next h;rw[Xq (hne a)];simp only;rw[if_neg]
    ·grind
    ·rintro⟨g1,g2⟩
     have:=((T.link p (hp0 g1).lv).first (by omega)).2.1;rw[<-g2,Int.add_sub_cancel]at this;have:=hl.1;omega
   ·rw[Xq e]at h ⊢;simp only at h ⊢;by_cases hq:p+1≠0/\x+1=(t p).fi
    ·rw[if_pos hq,Int.add_sub_cancel,Yd]
     grind
    ·rw[if_neg hq]at h ⊢
     grind [ff.prev,Xq]
   ·rw[Xq e]at h ⊢;exact X.up h
   ·have hc:=(C x e (hno x hl)).1 hc;rw[Xq e]at h ⊢;simp only at h ⊢;by_cases hq:p+1≠0/\x+1=(t p).fi
    ·omega
    ·rw[if_neg hq]at h;have:=X.top h hc;rw[Xq (hne hc.1)];simp only;rw[if_neg]
     ·exact this
     ·intro g;rw[g]at this;exact hq ⟨hp1 _ hc.1 g,by omega⟩
 ·by_cases e:x=k
  ·subst e;by_cases hq:p+1=0
   ·have:rise N (Yo t x p) N.toNat x=[x]:=by
     rw[hm,rise,if_pos hk,Yd];simp only;rw[hq];cases m with
     |zero=>rfl
     |succ m=>rfl
    simp_all
   ·rw[hpk hq];rcases hp with rfl|hp
    ·omega
    ·refine⟨by grind,fun y hy=> ?_⟩;have:rise N t N.toNat p≠[]:=by rw[hm,rise,if_pos hp.1.lv.1];simp
     rw[List.getLast?_cons]at hy;refine hlast p hp.1.lv y ?_;simp_all[rise,List.getLast?_cons]
  ·have hl:=((L x).1 hx).resolve_left e;rw[hri x hl];exact⟨(T.rise x hl).1,hlast x hl⟩
 ·by_cases e:x=k
  ·grind [Yd]
  ·rw[Xq e]at h ⊢;simp only at h ⊢;obtain⟨a,b,c,f⟩:=T.bare x h0 h1 h;refine⟨a,?_,c,?_⟩
   ·rw[if_neg]
    ·exact b
    ·intro g;have:=(hp0 (by omega)).lv.2
     grind
   ·rw[if_neg]
    ·exact f
    ·rintro⟨g1,g2⟩
     have:=((T.link p (hp0 g1).lv).first (by omega)).1.2
     grind
 ·by_cases e:x=k
  ·simp_all[Yd]
  ·have hl:=((L x).1 hx).resolve_left e;rw[Xq e]at h ⊢;simp only at h ⊢;simp only[if_neg e];by_cases hq:p+1≠0/\x+1=(t p).fi
   ·grind
   ·rw[if_neg hq]at h ⊢;rw[if_neg (hne ((T.link x hl).prev h).1)];have:=W x hl h;omega
 ·by_cases e:x=k
  ·subst e;by_cases hq:p+1=0
   all_goals simp_all[Yd,Al.lv]
  grind
 ·rw[Zl hkf];exact K.nodup
 ·rw[Zl hkf,K.iff,hor]
 ·obtain⟨a,b⟩:=K.top f hf h1;have ho:=K.or hf (Akv (N:=N) (t:=t) a);refine⟨a,?_⟩;rw[Xq (hne ho.1)];simp only;rw[if_neg]
  ·exact b
  ·rintro⟨g1,g2⟩
   have hpl:=(hp0 g1).lv;obtain⟨_,_,c3,c4⟩:=(T.link p hpl).first (by omega);rw[<-g2,Int.add_sub_cancel]at c3 c4;exact ho.2.2 (by simp_all[Cu])
 ·have hk2: ∀e∈qs,kf N (Yo t k p) e.2=kf N t e.2:=fun e he=>hkf _ (A8.2 ⟨e,he,rfl⟩);refine Akw qs [] [] hk2 (fun e he y hy=> ?_) (fun e he h1 x hx hu=> ?_) (fun x hx=>by cases hx) F.ord
  ·have hS: ∀x∈kf N t e.2,Oo N t x:=fun x hx=>K.or (A8.2 ⟨e,he,rfl⟩) hx;rw[hk2 e he]at hy
   have hy2:Dd N t (kf N t e.2) y:=by
    induction hy with
    |base h=>exact .base h
    | @step y a b c ih=>
     by_cases q:y=k
     ·subst q;by_cases hq:p+1=0
      all_goals simp_all[Yd,Al.noDd]
     ·have hl:=((L y).1 a).resolve_left q;rw[hup y q]at ih;exact .step hl ((C y q (hno y hl)).1 b) ih
   refine⟨hy2,fun x hx hu hc=> .inr ?_⟩;by_cases q:x=k
   ·subst q;by_cases hq:p+1=0
    ·rw[Yd]at hu;simp only at hu;have:=Dd.in (fun x hx=>uf hx) hy2;omega
    grind
   grind
  ·by_cases q:x=k
   ·subst q;rw[Yd]at hu;simp only at hu;have:=(hp0 (by omega)).lv.2;have h3:=(F.slot e he h1).1
    grind
   grind
 ·by_cases e:x=k
  ·subst e;rw[Yd]at h ⊢;simp only at h ⊢;rw[Int.add_sub_cancel,Xq (hne (hp0 h).lv)];exact .inl (hp0 h).lv.2
  ·have hl:=((L x).1 hx).resolve_left e
   grind [Xq,V3.gone]
 ·by_cases e:x=k
  ·subst e;rw[Yd]at h ⊢;simp only at h ⊢;by_cases hq:p+1=0
   ·grind
   ·rw[if_neg hq,Int.add_sub_cancel,Xq (hne (hp0 hq).lv)]
    grind
  ·have hl:=((L x).1 hx).resolve_left e;rw[hup x e]at h ⊢;have hu:=hno x hl;have h2:=((L _).1 h).resolve_left (by omega)
   grind [Xq,V3.ep]
 ·have:=F.slot e he h1;have q:e.1 - 1≠k:=fun q=>by grind
  grind [Xq]
end
theorem uj{x:Int}(h0: -1000000000<=x)(h1:x<=1000000000):Ap x 1=x - 1:=by unfold Ap Aly;rw[Xp (by omega)]
theorem Wm{x:Int}(h: -1000000000<=x/\x<=1000000000):Ap x 1=x - 1:=uj h.1 h.2
theorem Yl{x:Int}(h0: -1000000000<=x)(h1:x<=1000000000):A4 x 1=x+1:=by unfold A4 Fp;rw[Xp (by omega)]
def Yp (n:Fy):Lk:=⟨n.c==1,n.c==2,n.f,n.s,n.t,n.i,n.u,n.v⟩
def V6 (l:List Fy)(t:Int->Lk):Prop:= ∀k,0<=k/\k<(l.length:Int)->t k=Yp (gt l k)
structure Rg (l:List Fy):Prop where
 len:l.length<=8
 rg: ∀k,0<=k/\k<(l.length:Int)->(0<=(gt l k).s/\(gt l k).s<=l.length)/\(0<=(gt l k).i/\(gt l k).i<=l.length)/\(0<=(gt l k).u/\(gt l k).u<=l.length)/\(0<=(gt l k).v/\(gt l k).v<=l.length)
theorem Zc{l:List Fy}{t:Int->Lk}(A:V6 l t){k:Int}:Lv l.length t k ↔ (0<=k/\k<(l.length:Int))/\(gt l k).c=1:=by
 unfold Lv;constructor
 ·rintro⟨a,b⟩;rw[A _ a]at b;grind [Yp]
 ·rintro⟨a,b⟩;rw[A _ a];grind [Yp]
theorem Bvh{l:List Fy}{t:Int->Lk}(A:V6 l t)(R:Rg l): ∀(n:Nat) (k:Int),Yv l n k=kids l.length t n k:=by
 intro n;induction n with
 |zero=>intro k;rfl
 |succ n ih=>
  intro k;rw[Yv,kids];split
  ·rename_i h;have:=(R.rg k h).2.2.1;have:=R.len;rw[A _ h,Wm (by omega),ih];rfl
  ·rfl
theorem A3u{l:List Fy}{t:Int->Lk}(A:V6 l t)(R:Rg l): ∀(n:Nat) (k:Int),V0 l n k=rise l.length t n k:=by
 intro n;induction n with
 |zero=>intro k;rfl
 |succ n ih=>
  intro k;rw[V0,rise];split
  ·rename_i h;have:=(R.rg k h).1;have:=R.len;rw[A _ h,Wm (by omega),ih];rfl
  ·rfl
theorem iz{l:List Fy}{t:Int->Lk}(A:V6 l t)(R:Rg l){f:Int}(h0:0<=f)(h1:f<=1000):Vq l f=kf l.length t f:=by
 grind [Vq,kf,uj,Bvh,Int.toNat_natCast]
theorem qh{l:List Fy}{n:Int}(h0:0<=n)(h1:n<=1000):Wp l n=true ↔ 0<=n - 1/\n - 1<(l.length:Int):=by
 unfold Wp;rw[Wm (by omega),decide_eq_true_iff]
theorem Akz{l:List Fy}{t:Int->Lk}(A:V6 l t)(R:Rg l){k:Int}(h:0<=k/\k<(l.length:Int)):Zt l k=true ↔ Cu l.length t k:=by
 have h1:=(R.rg k h).1;have h2:=R.len;unfold Zt Cu;rw[Z4,Z4,qh h1.1 (by omega),beq_iff_eq,beq_iff_eq,Wm (by omega),A _ h];show _ ↔ Lv _ _ ((gt l k).s - 1)/\(t ((gt l k).s - 1)).ep=(gt l k).t;rw[Zc A];constructor
 ·rintro⟨a,b,c⟩;rw[A _ a];exact⟨⟨a,b⟩,c⟩
 ·rintro⟨⟨a,b⟩,c⟩;rw[A _ a]at c;exact⟨a,b,c⟩
theorem Bel{l:List Fy}{t:Int->Lk}(A:V6 l t)(R:Rg l){k:Int}(h:0<=k/\k<(l.length:Int)):Yw l k=true ↔ Oo l.length t k:=by
 unfold Yw Oo;rw[Z4,Z4,beq_iff_eq,bne_iff_ne,Gg,Zc A,<-Akz A R h,A _ h,Bool.not_eq_true];exact⟨fun⟨a,b,c⟩=>⟨⟨h,a⟩,b,c⟩,fun⟨⟨_,a⟩,b,c⟩=>⟨a,b,c⟩⟩
theorem A7q{l:List Fy}{t:Int->Lk}(A:V6 l t){n:Int}(h0:0<=n)(h1:n<=1000):Xf l n=true ↔ (n≠0->Lv l.length t (n - 1)):=by
 unfold Xf;rw[Bool.or_eq_true,beq_iff_eq,Z4,qh h0 h1,beq_iff_eq,Zc A,Wm (by omega)];omega
theorem A7r{a:Int}{b:Bool}{P:Prop}(h:b=true ↔ P):(a==0||b)=true ↔ (a≠0->P):=by
 grind
theorem Bem{l:List Fy}{t:Int->Lk}(A:V6 l t)(R:Rg l){k:Int}(h:0<=k/\k<(l.length:Int)):ez l k=true ↔ ff l.length t k:=by
 obtain⟨r1,r2,r3,r4⟩:=R.rg k h;have h2:=R.len;have eg: ∀n,Lv l.length t n->t n=Yp (gt l n):=fun n hn=>A _ hn.1
 have ek:=A _ h;unfold ez A23 tr lr dz bg;rw[Yl (by omega) (by omega),Wm (x:=(gt l k).i) (by omega),Wm (x:=(gt l k).u) (by omega),Wm (x:=(gt l k).v) (by omega),Wm (x:=(gt l k).s) (by omega)];simp only[Z4,A7q A r2.1 (by omega:(gt l k).i<=1000),A7q A r3.1 (by omega:(gt l k).u<=1000),A7q A r4.1 (by omega:(gt l k).v<=1000),A7r (qh r1.1 (by omega:(gt l k).s<=1000)),A7r Bool.and_eq_true_iff,A7r beq_iff_eq,beq_iff_eq];constructor
 ·rintro⟨⟨a1,a2,a3,a4⟩,a5,a6,a7,a8⟩;refine⟨?_,?_,?_,?_,?_⟩
  ·simp_all[Yp]
  ·simp_all[Yp]
  ·simp_all[Yp]
  ·rw[ek];exact a4
  ·rw[ek];intro q c;have hc:=(Akz A R h).2 c;have hu:=c.1;rw[ek]at hu;have hu:Lv l.length t ((gt l k).s - 1):=hu;rw[show(Yp (gt l k)).up=(gt l k).s from rfl,eg _ hu];rw[show(Yp (gt l k)).pv=(gt l k).v from rfl]at q;rw[q,hc]at a8;show(gt l ((gt l k).s - 1)).i=k+1
   grind
 ·intro L;obtain⟨a1,a2,a3,a4,a5⟩:=L;rw[ek]at a1 a2 a3 a4 a5;refine⟨⟨fun q=>(a1 q).1,fun q=>(a2 q).1,fun q=>(a3 q).1,a4⟩,fun q=> ?_,fun q=> ?_,fun q=> ?_,?_⟩
  ·obtain⟨b1,b2,b3,b4⟩:=a1 q;rw[eg _ b1]at b2 b3 b4;exact⟨b2,b3,b4⟩
  ·obtain⟨b1,b2,b3,b4⟩:=a2 q;rw[eg _ b1]at b2 b3 b4;exact⟨b2,b3,b4⟩
  ·obtain⟨b1,b2⟩:=a3 q;rw[eg _ b1]at b2;exact b2
  ·by_cases q:(gt l k).v=0
   ·cases hc:Zt l k with
    |false=>simp
    |true=>
     have c:=(Akz A R h).1 hc;have hu:=c.1;rw[ek]at hu;have:=a5 q c;rw[eg _ hu]at this;simp only[Bool.or_eq_true,beq_iff_eq];exact .inr this
   grind
theorem Bvi{r:List Int}(h:r≠[]):r.getLast? =some (lq r):=by
 unfold lq;rw[K1 (by have:=List.length_pos_iff.2 h;omega),List.getLast?_eq_getElem?]
 grind
theorem Bvj{l:List Fy}{t:Int->Lk}(A:V6 l t)(R:Rg l)(hb: ∀k,0<=k/\k<(l.length:Int)->(gt l k).c≠1->(gt l k).s=0/\(gt l k).i=0/\(gt l k).u=0/\(gt l k).v=0):py l=true ↔ Wy l.length t:=by
 have key: ∀k,0<=k/\k<(l.length:Int)->(ai l k=true ↔ (rise l.length t (l.length:Int).toNat k).length<=4/\ ∀x,(rise l.length t (l.length:Int).toNat k).getLast? =some x-> ¬Cu l.length t x):=by
  intro k h;unfold ai;have hne:V0 l l.length k≠[]:=fun e=>by have:=A67 h;grind
  have hin:=A68 h;rw[Int.toNat_natCast,<-A3u A R,Z4,decide_eq_true_iff,Gg,Bvi hne];constructor
  ·grind [Akz]
  ·rintro⟨a,b⟩;refine⟨by omega,?_⟩
   have:=b _ rfl
   grind [Akz]
 unfold py;rw[Z1];constructor
 ·intro h;have h2: ∀k,Lv l.length t k->ez l k=true/\ai l k=true:=by
   intro k hk;obtain⟨a,b⟩:=(Zc A).1 hk;have:=h k.toNat (by grind)
   grind
  exact⟨fun k hk=>(Bem A R hk.1).1 (h2 k hk).1,fun k hk=>(key k hk.1).1 (h2 k hk).2,fun k h0 h1 hl=>by
   rw[A _ ⟨h0,h1⟩]at hl ⊢
   grind [Yp]⟩
 ·intro T k hk;rw[List.mem_range]at hk;by_cases e:(gt l (k:Int)).c=1
  ·have hl:=(Zc A).2 ⟨⟨by omega,by omega⟩,e⟩;rw[(Bem A R hl.1).2 (T.link _ hl),(key _ hl.1).2 (T.rise _ hl)];simp
  grind
def Wg (st gen:Int):Fy:=Fy.mk st gen 0 0 0 0 0 0 [] 0 0 [] []
structure W2 (c:Sv)(n:Fy):Prop where
 conf:Vw c=true
 st:n.c=1
 gen:1<=n.a/\n.a<=c.n
 up:0<=n.s/\n.s<=c.l
 first:0<=n.i/\n.i<=c.l
 next:0<=n.u/\n.u<=c.l
 prev:0<=n.v/\n.v<=c.l
 ep:0<=n.f
 ue:0<=n.t
 dist:Xs c n.L=true
 cur:Zr c n=true
 nth:n.y.length<=12
 ntag:n.j.length<=6
 tags:n.j.all (fun x=>Qi x 0 255)=true
 things:n.y.all (Xi c)=true
theorem Xm{c:Sv}{n:Fy}:Wv c n=true/\n.c=1 ↔ W2 c n:=by
 unfold Wv pt;constructor
 ·rintro⟨h,h1⟩;rw[h1]at h;simp only[Z4,V1,bne_self_eq_false,cond_false,Gg,decide_eq_false_iff_not,decide_eq_true_eq]at h;obtain⟨a,_,b,⟨c1,c2,c3,c4⟩,⟨d1,d2⟩,⟨e1,e2⟩,⟨f1,f2⟩,g1,g2⟩:=h;exact⟨a,h1,b,c1,c2,c3,c4,by omega,by omega,e1,e2,by omega,by omega,g1,g2⟩
 ·intro h;refine⟨?_,h.st⟩;rw[h.st];simp only[Z4,V1,bne_self_eq_false,cond_false,Gg,decide_eq_false_iff_not,decide_eq_true_eq];exact⟨h.conf,by omega,h.gen,⟨h.up,h.first,h.next,h.prev⟩,⟨by have:=h.ep;omega,by have:=h.ue;omega⟩,⟨h.dist,h.cur⟩,⟨by have:=h.nth;omega,by have:=h.ntag;omega⟩,h.tags,h.things⟩
theorem dh{c:Sv}{n:Fy}(h:Wv c n=true)(h1:n.c≠1):n=Wg n.c n.a:=by
 have:=Bc1 h h1;unfold gz at this;simp only[Z4,beq_iff_eq]at this;obtain⟨a1,a2,a3,a4,a5,a6,a7,a8,a9,a10,a11⟩:=this;cases n;simp_all[Wg]
theorem A3v{c:Sv}(hc:Vw c=true){st gen:Int}(h0:0<=st/\st<=3)(h1:st≠1)(h2:1<=gen/\gen<=c.n):Wv c (Wg st gen)=true:=by
 unfold Wv;rw[hc];show(true&&(Qi st 0 3&&(Qi gen 1 c.n&&(bif st != 1 then gz (Wg st gen)else _))))=true;rw[Ym h1,V1.2 h0,V1.2 h2];rfl
theorem mh{c:Sv}{n:Fy}(h:Wv c n=true):Vw c=true/\(0<=n.c/\n.c<=3)/\1<=n.a/\n.a<=c.n:=by
 simp_all[Wv,V1]
theorem A3w{c:Sv}{n:Fy}(h:Wv c n=true):(0<=n.s/\n.s<=c.l)/\(0<=n.i/\n.i<=c.l)/\(0<=n.u/\n.u<=c.l)/\(0<=n.v/\n.v<=c.l):=by
 by_cases e:n.c=1
 ·have:=Xm.1 ⟨h,e⟩;exact⟨this.up,this.first,this.next,this.prev⟩
 ·rw[dh h e];have b0:=Gy (mh h).1;exact⟨⟨Int.le_refl _,by grind [Wg]⟩,⟨Int.le_refl _,by grind [Wg]⟩,⟨Int.le_refl _,by grind [Wg]⟩,⟨Int.le_refl _,by grind [Wg]⟩⟩
theorem A7s{c:Sv}{n:Fy}(h:Wv c n=true):Xs c n.L=true:=by
 by_cases e:n.c=1
 ·exact(Xm.1 ⟨h,e⟩).dist
 ·rw[dh h e];rfl
def Wh (q:List G9):List (Int×Int):=q.map (fun x=>(x.d,x.i))
structure Bd (w:H4):Prop where
 pool:Xh w.C w.Q=true
 len:(w.o.length:Int)=w.C.l
 node: ∀k,0<=k/\k<(w.o.length:Int)->Wv w.C (gt w.o k)=true
 own: ∀k,0<=k/\k<(w.o.length:Int)-> ∀c,c∈(gt w.o k).L ↔ (0<=c/\c<w.C.L)/\gt w.Q.c c=1/\gt w.Q.h c=k
 thing: ∀k,0<=k/\k<(w.o.length:Int)->(gt w.o k).y.all (Xa w.C (gt w.o k).L)=true/\Y8 (gt w.o k).y=true/\X7 w.C w.Q.g (gt w.o k)=true
 forest: ∃t,V6 w.o t/\V3 w.o.length t (Wh w.p)
 wrec: ∀x∈w.p,X2 w.C x=true/\Yk w x=true
 chn:(Vy w.p).Nodup
 chi: ∀c,c∈Vy w.p ↔ (0<=c/\c<w.C.L)/\gt w.Q.c c=2
 sln:(Vx w.p).Nodup
 sli: ∀s,s∈Vx w.p ↔ (0<=s/\s<(w.o.length:Int))/\(gt w.o s).c=2
 log:w.q.all (fun x=>Qi x 0 255)=true
theorem Bd.conf{w:H4}(I:Bd w):Vw w.C=true:=(Zq I.pool).1
theorem Bd.rg{w:H4}(I:Bd w):Rg w.o:=by
 have b0:=Gy I.conf;have:=I.len;refine⟨by omega,fun k hk=> ?_⟩;rw[I.len];exact A3w (I.node k hk)
theorem Bd.live{w:H4}(I:Bd w){t:Int->Lk}(A:V6 w.o t){k:Int}(h:Lv w.o.length t k):W2 w.C (gt w.o k):=Xm.1 ⟨I.node k ((Zc A).1 h).1,((Zc A).1 h).2⟩
theorem A7t{N:Nat}{l:List Int}(hn:l.Nodup){k:Nat}(hk:k<N)(h:(k:Int)∈l):(gt (Vr N l) (k:Int)==1)=true:=by
 simp_all[lu,List.Nodup.count]
theorem Bd.chunks{w:H4}(I:Bd w){k:Int}(hk:0<=k/\k<(w.o.length:Int)):lf w.Q k (gt w.o k).L=true:=by
 obtain⟨_,_,hst,hown,_⟩:=Zq I.pool;have hd:=pz (A7s (I.node k hk));have hs:=(A6x w.Q k).imp (fun {a b} (h:a<b)=>Int.ne_of_lt h);have hm: ∀x,x∈Yu w.Q k ↔ x∈(gt w.o k).L:=by
  intro x;rw[I.own k hk x];unfold Yu;rw[bi]
  grind
 unfold lf;rw[Z4,Z1,beq_iff_eq];refine⟨fun x hx=>List.contains_iff_mem.2 ((hm x).1 hx),?_⟩;have h1:=ie (o:=Yu w.Q k) (l:=(gt w.o k).L) hs (fun x hx=>(hm x).1 hx);have h2:=ie (o:=(gt w.o k).L) (l:=Yu w.Q k) hd (fun x hx=>(hm x).2 hx);omega
theorem A7u{q:List G9}{x:G9}(hx:x∈q){c:Int}(h:c∈x.L):c∈Vy q:=List.mem_flatMap.2 ⟨x,hx,h⟩
theorem Ben{q:List G9}{x:G9}(hx:x∈q)(h:x.d≠0):Ap x.d 1∈Vx q:=List.mem_flatMap.2 ⟨x,hx,by grind⟩
theorem Bd.first{w:H4}(I:Bd w){x:G9}(hx:x∈w.p):0<=x.i/\x.i<=8:=by
 have b0:=Gy I.conf;have:=(ic (I.wrec x hx).1).2.2.1;omega
theorem Bd.qs{w:H4}{x:G9}(hx:x∈w.p):x.i∈(Wh w.p).map (fun e:Int×Int=>e.2):=by
 unfold Wh
 grind
theorem Bd.waste{w:H4}(I:Bd w){x:G9}(hx:x∈w.p):X8 w x=true:=by
 obtain⟨b1,_,b,_⟩:=Gy I.conf;obtain⟨h1,h2⟩:=I.wrec x hx;obtain⟨_,r1,r2,r3,_⟩:=ic h1;have hf:=I.first hx;obtain⟨t,A,F⟩:=I.forest;unfold X8;simp only[Z4];refine⟨h1,?_,h2,?_,?_,?_⟩
 ·unfold qa;rw[Z1];intro c hc;rw[beq_iff_eq];exact((I.chi c).1 (A7u hx hc)).2
 ·unfold fa;by_cases e:x.d=0
  ·grind
  ·rw[((I.sli _).1 (Ben hx e)).2];simp
 ·unfold ig;by_cases e:x.i=0
  ·grind
  ·obtain⟨a,b⟩:=F.kid.top _ (Bd.qs hx) e;rw[Wm (by omega)];rw[A _ a]at b;have b:(gt w.o (x.i - 1)).v=0:=b
   grind
 ·unfold Za;rw[Z1];intro k hk;have hin:=Aei _ _ k hk;rw[iz A I.rg hf.1 (by omega)]at hk;exact(Bel A I.rg hin).2 (F.kid.or (Bd.qs hx) hk)
theorem Beo{w:H4}(I:Bd w){t:Int->Lk}(A:V6 w.o t):Xz w.o w.p=((Wh w.p).map (fun e:Int×Int=>e.2)).flatMap (kf w.o.length t):=by
 unfold Xz Wh;rw[Ar,List.flatMap_map];exact Zl fun x hx=>by
  have hf:=I.first hx;exact iz A I.rg hf.1 (by omega)
theorem Bd.fin{w:H4}(I:Bd w):bj w w.C.L.toNat=true:=by
 obtain⟨_,_,hst,hown,_⟩:=Zq I.pool;obtain⟨t,A,F⟩:=I.forest;unfold bj;rw[Z4,Z1,Z1];refine⟨fun k hk=> ?_,fun k hk=> ?_⟩
 ·rw[List.mem_range]at hk;cases e:(gt w.Q.c (k:Int)==2)with
  |false=>rfl
  |true=>exact A7t I.chn (by omega) ((I.chi _).2 ⟨⟨by omega,by omega⟩,by grind⟩)
 ·rw[List.mem_range]at hk;rw[Z4];constructor
  ·cases e:((gt w.o (k:Int)).c==2)with
   |false=>rfl
   |true=>simp_all[A7t,sln,sli]
  ·cases e:Yw w.o (k:Int)with
   |false=>rfl
   |true=>
    refine A7t (by rw[Beo I A];exact F.kid.nodup) hk ?_;rw[Beo I A,F.kid.iff];exact(Bel A I.rg ⟨by omega,by omega⟩).1 e
theorem Bd.ok{w:H4}(I:Bd w):fc w=true:=by
 obtain⟨t,A,F⟩:=I.forest;unfold fc;simp only[Z4,beq_iff_eq];refine⟨I.pool,I.len,?_,?_,⟨?_,I.fin⟩,I.log⟩
 ·rw[Z1];intro k hk;rw[List.mem_range]at hk;have hk2:0<=(k:Int)/\(k:Int)<(w.o.length:Int):=⟨by omega,by omega⟩
  grind [thing,ib,node,chunks]
 ·refine(Bvj A I.rg fun k hk h=> ?_).2 F.tree;rw[dh (I.node k hk) h];exact⟨rfl,rfl,rfl,rfl⟩
 grind [waste]
def Zd (n:Fy)(fi nx pv:Int):Fy:=Fy.mk n.c n.a n.f n.s n.t fi nx pv n.L n.w n.x n.y n.j
theorem Y6{l:List Fy}{j x:Int}(hj:0<=j/\j<(l.length:Int))(hx:0<=x/\x<(l.length:Int))(v:Fy):gt (l.set j.toNat v) x=if x=j then v else gt l x:=by
 by_cases e:x=j
 all_goals simp_all[il,ma,Ne.symm]
theorem Ak0{l:List Fy}{n:Int}(h0:0<=n)(h1:n<=l.length)(h2:l.length<=8):Wp l n= !(n==0):=by
 have:=qh (l:=l) h0 (by omega:n<=1000)
 grind
theorem A3x{l:List Fy}(R:Rg l){k x:Int}(hk:0<=k/\k<(l.length:Int))(hx:0<=x/\x<(l.length:Int)):
  gt (Zu l k) x=Zd (gt l x) (if(gt l k).v=0/\x+1=(gt l k).s/\(gt l x).i=k+1 then(gt l k).u else(gt l x).i) (if x+1=(gt l k).v then(gt l k).u else(gt l x).u) (gt l x).v:=by
 obtain⟨r1,r2,r3,r4⟩:=R.rg k hk;have hl:=R.len;unfold Zu;rw[Ak0 r4.1 r4.2 hl,Ak0 r1.1 r1.2 hl,Wm (x:=(gt l k).v) (by omega),Wm (x:=(gt l k).s) (by omega),Yl (by omega) (by omega)];by_cases h:(gt l k).v=0
 ·rw[h];simp only[beq_self_eq_true,Bool.not_true,cond_false,Z30];rw[if_neg (by omega: ¬x+1=0)];by_cases h2:(gt l k).s=0
  ·rw[h2,if_neg (by omega)];rfl
  ·rw[Wn h2];simp only[Bool.not_false,Z30];by_cases h3:(gt l ((gt l k).s - 1)).i=k+1
   ·rw[h3,beq_self_eq_true,cond_true,Y6 (by omega) hx];by_cases e:x=(gt l k).s - 1
    ·rw[if_pos e,e,h3,if_pos ⟨trivial,by omega,rfl⟩];rfl
    ·rw[if_neg e,if_neg (by omega)];rfl
   ·rw[Wn h3,cond_false,if_neg]
    ·rfl
    grind
 ·rw[Wn h];simp only[Bool.not_false,cond_true];rw[Y6 (by omega) hx,if_neg (fun q:(gt l k).v=0/\x+1=(gt l k).s/\(gt l x).i=k+1=>h q.1)];by_cases e:x=(gt l k).v - 1
  ·have e2:x+1=(gt l k).v:=by omega
   rw[if_pos e,if_pos e2,<-e];rfl
  ·have e2: ¬x+1=(gt l k).v:=by omega
   rw[if_neg e,if_neg e2];rfl
theorem ja{l:List Fy}(R:Rg l){k x:Int}(hk:0<=k/\k<(l.length:Int))(hx:0<=x/\x<(l.length:Int))(hne:x≠k):
  gt (Yg l k) x=Zd (gt l x) (if(gt l k).v=0/\x+1=(gt l k).s/\(gt l x).i=k+1 then(gt l k).u else(gt l x).i) (if x+1=(gt l k).v then(gt l k).u else(gt l x).u) (if x+1=(gt l k).u then(gt l k).v else(gt l x).v):=by
 obtain⟨r1,r2,r3,r4⟩:=R.rg k hk;have hl:=R.len;have hl0:=tw l k;unfold Yg qd;rw[Y6 (by grind [Afp]) (by grind [Afp]),if_neg hne];unfold aj;rw[Ak0 r3.1 r3.2 hl,Wm (by omega)];by_cases h:(gt l k).u=0
 ·rw[h];simp only[beq_self_eq_true,Bool.not_true,cond_false];rw[A3x R hk hx,h,if_neg (by omega: ¬x+1=0)]
 ·rw[Wn h];simp only[Bool.not_false,cond_true];rw[Y6 (by omega) (by omega)];by_cases e:x=(gt l k).u - 1
  ·have e2:x+1=(gt l k).u:=by omega
   rw[if_pos e,if_pos e2,<-e,A3x R hk hx];rfl
  ·have e2: ¬x+1=(gt l k).u:=by omega
   simp_all[A3x]
theorem jb (l:List Fy)(k:Int):(Yg l k).length=l.length:=by grind [Yg,qd,Afp,tw]
theorem A7v{c:Sv}{n:Fy}(X:W2 c n){fi nx pv:Int}(h1:0<=fi/\fi<=c.l)(h2:0<=nx/\nx<=c.l)(h3:0<=pv/\pv<=c.l):W2 c (Zd n fi nx pv):=
 ⟨X.conf,X.st,X.gen,X.up,h1,h2,h3,X.ep,X.ue,X.dist,X.cur,X.nth,X.ntag,X.tags,X.things⟩
theorem Bvk{l:List Fy}{t:Int->Lk}(A:V6 l t)(R:Rg l){k:Int}(hk:0<=k/\k<(l.length:Int))(g:Int):V6 ((Yg l k).set k.toNat (Wg 2 g)) (rem t k):=by
 intro x hx;rw[Tb,jb]at hx;rw[Y6 (by grind [jb]) (by grind [jb])];by_cases e:x=k
 ·subst e;rw[iv,if_pos rfl];rfl
 ·rw[V5 e,if_neg e,ja R hk hx e,A x hx,A k hk];rfl
theorem Ak1{l:List Int}{j x:Int}(hj:0<=j)(hx:0<=x/\x<(l.length:Int))(v:Int):gt (l.set j.toNat v) x=if x=j then v else gt l x:=by
 have h1:x.toNat<(l.set j.toNat v).length:=by grind
 have h2:x.toNat<l.length:=by omega
 have e1:gt (l.set j.toNat v) ((x.toNat:Nat):Int)=if x=j then v else gt l ((x.toNat:Nat):Int):=by
  rw[K1 h1,K1 h2,List.getElem_set];omega
 grind
structure Zw (c:Sv)(p:Pc):Prop where
 conf:Vw c=true
 mem:(p.g.length:Int)=c.L*c.k
 st:(p.c.length:Int)=c.L
 own:(p.h.length:Int)=c.L
 one: ∀k,0<=k/\k<c.L->(0<=gt p.c k/\gt p.c k<=2)/\(gt p.c k=1->0<=gt p.h k/\gt p.h k<c.l)/\(gt p.c k≠1->gt p.h k= -1)/\(gt p.c k=0->Wd (Yf c p.g k)=true)
theorem Bep{c:Sv}{p:Pc}{k:Nat}:lc c p k=true ↔ (0<=gt p.c (k:Int)/\gt p.c (k:Int)<=2)/\(gt p.c (k:Int)=1->0<=gt p.h (k:Int)/\gt p.h (k:Int)<c.l)/\(gt p.c (k:Int)≠1->gt p.h (k:Int)= -1)/\(gt p.c (k:Int)=0->Wd (Yf c p.g k)=true):=by
 unfold lc;rw[Z4,Z4,V1];refine and_congr Iff.rfl ?_;by_cases e:gt p.c (k:Int)=1
 ·rw[e];simp only[beq_self_eq_true,cond_true,V1]
  grind
 grind
theorem W6{c:Sv}{p:Pc}:Xh c p=true ↔ Zw c p:=by
 constructor
 ·intro h;obtain⟨h1,h2,h3,h4,h5⟩:=Zq h;refine⟨h1,h2,h3,h4,fun k hk=> ?_⟩;have:=Bep.1 (h5 k.toNat (by omega))
  grind
 ·intro h;have b0:=Gy h.conf;unfold Xh;simp only[Z4,beq_iff_eq,Z1,List.mem_range];refine⟨h.conf,by grind [Zw.mem,Ws,Zw.conf],h.st,h.own,fun k hk=> ?_⟩;exact Bep.2 (h.one k (by omega))
theorem Bvl (cs:List Int): ∀(p:Pc),p.h.length=p.c.length->(V9 p cs).g=p.g/\(V9 p cs).c.length=p.c.length/\(V9 p cs).h.length=p.h.length/\ ∀c,0<=c/\c<(p.c.length:Int)->
  gt (V9 p cs).c c=(if c∈cs/\gt p.c c=1 then 2 else gt p.c c)/\gt (V9 p cs).h c=(if c∈cs/\gt p.c c=1 then -1 else gt p.h c):=by
 induction cs with
 |nil=>simp_all[V9]
 |cons k cs ih=>
  intro p hl;have h1:(X9 p k).g=p.g/\(X9 p k).c.length=p.c.length/\(X9 p k).h.length=p.h.length:=by
   grind [X9]
  obtain⟨a,b,c,d⟩:=ih (X9 p k) (by omega);refine⟨a.trans h1.1,b.trans h1.2.1,c.trans h1.2.2,fun x hx=> ?_⟩;obtain⟨d1,d2⟩:=d x (by omega);have e1:gt (X9 p k).c x=if x=k/\gt p.c x=1 then 2 else gt p.c x:=by
   unfold X9;by_cases q:(0<=k/\k<(p.c.length:Int)/\k<(p.h.length:Int))/\gt p.c k=1
   ·rw[if_pos q];simp only;rw[Ak1 q.1.1 hx]
    grind
   grind
  have e2:gt (X9 p k).h x=if x=k/\gt p.c x=1 then -1 else gt p.h x:=by
   unfold X9;by_cases q:(0<=k/\k<(p.c.length:Int)/\k<(p.h.length:Int))/\gt p.c k=1
   ·rw[if_pos q];simp only;rw[Ak1 q.1.1 (by omega)]
    grind
   grind
  show gt (V9 (X9 p k) cs).c x=_/\gt (V9 (X9 p k) cs).h x=_;rw[d1,d2,e1,e2];by_cases q:gt p.c x=1
  ·by_cases e:x=k
   ·subst e;simp[q]
   ·simp[q,e]
  ·simp[q]
theorem mi{w:H4}(I:Bd w){k:Int}(hk:0<=k/\k<(w.o.length:Int)):
  Zw w.C (V9 w.Q (gt w.o k).L)/\(V9 w.Q (gt w.o k).L).g=w.Q.g/\
  ∀c,0<=c/\c<w.C.L->gt (V9 w.Q (gt w.o k).L).c c=(if c∈(gt w.o k).L then 2 else gt w.Q.c c)/\gt (V9 w.Q (gt w.o k).L).h c=(if c∈(gt w.o k).L then -1 else gt w.Q.h c):=by
 have P:=W6.1 I.pool;obtain⟨a,b,c,d⟩:=Bvl (gt w.o k).L w.Q (by have:=P.st;have:=P.own;omega);have key: ∀c,0<=c/\c<w.C.L->gt (V9 w.Q (gt w.o k).L).c c=(if c∈(gt w.o k).L then 2 else gt w.Q.c c)/\gt (V9 w.Q (gt w.o k).L).h c=(if c∈(gt w.o k).L then -1 else gt w.Q.h c):=by
  intro x hx;obtain⟨d1,d2⟩:=d x (by rw[P.st];exact hx);rw[d1,d2];by_cases e:x∈(gt w.o k).L
  ·have:=((I.own k hk x).1 e).2.1
   grind
  grind
 refine⟨⟨P.conf,by rw[a];exact P.mem,by rw[b];exact P.st,by rw[c];exact P.own,fun x hx=> ?_⟩,a,key⟩;obtain⟨k1,k2⟩:=key x hx;obtain⟨p1,p2,p3,p4⟩:=P.one x hx
 grind
theorem A3y (q:List G9)(x:G9):Vy (q++[x])=Vy q++x.L:=by grind [Vy]
theorem A3z (q:List G9)(x:G9):Vx (q++[x])=Vx q++(if x.d=0 then []else [Ap x.d 1]):=by grind [Vx]
theorem Beq (q:List G9)(x:G9):Wh (q++[x])=Wh q++[(x.d,x.i)]:=by simp[Wh]
theorem A7w{c:Sv}{n:Fy}(h:W2 c n){s:Int}(hs:0<=s/\s<=c.l):X2 c (Wc n s)=true:=by
 have b0:=Gy h.conf;unfold X2 Wc;simp only[Z4,V1,decide_eq_true_eq,Bool.or_eq_true,beq_iff_eq];exact⟨h.conf,hs,h.first,by have:=h.ntag;omega,h.tags,h.dist,by omega,.inr trivial⟩
theorem A7x (w:H4)(n:Fy)(s:Int):Yk w (Wc n s)=true:=by
 unfold Yk Wc Wd;simp
theorem A7y{w:H4}(I:Bd w){k:Int}(hk:0<=k/\k<(w.o.length:Int)):(Vy w.p++(gt w.o k).L).Nodup:=
 dg.2 ⟨I.chn,pz (A7s (I.node k hk)),fun x h1 h2=>by simp_all[Bd.chi,Bd.own]⟩
theorem A7z{w:H4}(I:Bd w){k:Int}(hk:0<=k/\k<(w.o.length:Int))(c:Int):c∈Vy w.p++(gt w.o k).L ↔ (0<=c/\c<w.C.L)/\gt (V9 w.Q (gt w.o k).L).c c=2:=by
 rw[C5,I.chi];constructor
 ·rintro(⟨a,b⟩|h)
  all_goals simp_all[mi,Bd.own]
 ·rintro⟨a,b⟩;rw[((mi I hk).2.2 c a).1]at b
  grind
theorem Bvm{w:H4}(I:Bd w){t:Int->Lk}(A:V6 w.o t)(F:V3 w.o.length t (Wh w.p)){k:Int}(h:Al w.o.length t k):Bd (Zv w k):=by
 have hl:=h.lv;have hk:=hl.1;have P:=I.live A hl;have R:=I.rg;obtain⟨L1,L2,L3⟩:=mi I hk;have b0:=Gy I.conf;have hlen:=I.len;have e1:A4 k 1=k+1:=Yl (by omega) (by omega);have hN:(Zv w k).o.length=w.o.length:=by grind [Zv,jb]
 have hg: ∀x,0<=x/\x<(w.o.length:Int)->gt (Zv w k).o x=if x=k then Wg 2 (gt (Yg w.o k) k).a else gt (Yg w.o k) x:=fun x hx=>by
  unfold Zv;simp only;rw[Y6 (by grind [jb]) (by grind [jb])];rfl
 have hgen:(gt (Yg w.o k) k).a=(gt w.o k).a:=by
  unfold Yg qd;rw[il (by grind [Afp,tw])];show(gt (aj w.o (Zu w.o k) k _ _) k).a=_;unfold aj;have h0:(gt (Zu w.o k) k).a=(gt w.o k).a:=by rw[A3x R hk hk];rfl
  obtain⟨_,_,r3,_⟩:=R.rg k hk;have hl8:=R.len;rw[Ak0 r3.1 r3.2 hl8,Wm (by omega)];by_cases e:(gt w.o k).u=0
  ·grind
  ·rw[Wn e];simp only[Bool.not_false,cond_true];rw[Y6 (by rw[tw];omega) (by grind [tw])];split
   ·rename_i e2;rw[<-e2];exact h0
   omega
 refine⟨W6.2 L1,by rw[hN];exact hlen,fun x hx=> ?_,fun x hx c=> ?_,fun x hx=> ?_,⟨rem t k,?_,?_⟩,fun x hx=> ?_,?_,fun c=> ?_,?_,fun s=> ?_,I.log⟩
 ·rw[hN]at hx;rw[hg x hx];by_cases e:x=k
  ·rw[if_pos e,hgen];exact A3v I.conf (by omega) (by omega) P.gen
  ·rw[if_neg e,ja R hk hx e];by_cases hs:(gt w.o x).c=1
   ·have X:=Xm.1 ⟨I.node x hx,hs⟩;obtain⟨a1,a2,a3,a4⟩:=A3w (I.node k hk);refine(Xm.2 (A7v X ?_ ?_ ?_)).1
    ·split
     ·exact a3
     ·exact X.first
    ·split
     ·exact a3
     ·exact X.next
    ·split
     ·exact a4
     ·exact X.prev
   ·have X:=dh (I.node x hx) hs;have B:=(A7n F.tree hl).bare x hx.1 hx.2 (by rw[V5 e,A x hx];grind [Yp]);rw[V5 e,A x hx,A k hk]at B;obtain⟨_,B2,B3,B4⟩:=B;have q1:(if(gt w.o k).v=0/\x+1=(gt w.o k).s/\(gt w.o x).i=k+1 then(gt w.o k).u else(gt w.o x).i)=0:=B2;have q2:(if x+1=(gt w.o k).v then(gt w.o k).u else(gt w.o x).u)=0:=B3;have q3:(if x+1=(gt w.o k).u then(gt w.o k).v else(gt w.o x).v)=0:=B4;have this:Zd (gt w.o x) 0 0 0=gt w.o x:=by rw[X];rfl
    rw[q1,q2,q3];rw[this];exact I.node x hx
 ·rw[hN]at hx;rw[hg x hx];show c∈_ ↔ (0<=c/\c<w.C.L)/\gt (V9 w.Q (gt w.o k).L).c c=1/\gt (V9 w.Q (gt w.o k).L).h c=x;by_cases e:x=k
  ·rw[if_pos e];constructor
   ·intro q;cases q
   ·rintro⟨a,b,d⟩;rw[(L3 c a).1]at b;rw[(L3 c a).2]at d;split at b
    all_goals simp_all[Bd.own]
  ·rw[if_neg e,ja R hk hx e];show c∈(gt w.o x).L ↔ _;rw[I.own x hx c];constructor
   ·rintro⟨a,b,d⟩
    have q:c ∉ (gt w.o k).L:=fun q=>e (by have:=((I.own k hk c).1 q).2.2;omega)
    grind
   grind
 ·rw[hN]at hx;rw[hg x hx];by_cases e:x=k
  ·rw[if_pos e];exact⟨rfl,rfl,rfl⟩
  ·rw[if_neg e,ja R hk hx e];obtain⟨t1,t2,t3⟩:=I.thing x hx;refine⟨t1,t2,?_⟩;show X7 w.C (V9 w.Q (gt w.o k).L).g _=true;rw[L2];exact t3
 ·exact Bvk A R hk _
 ·show V3 ((Zv w k).o.length:Int) _ (Wh (w.p++[_]));rw[hN,Beq,e1];have:=Bu9 F h;rw[A k hk]at this;exact this
 ·have hx:x∈w.p++[Wc (gt w.o k) (A4 k 1)]:=hx;show X2 w.C x=true/\_;rcases C5.1 hx with hx|hx
  ·obtain⟨a,b⟩:=I.wrec x hx;refine⟨a,?_⟩;unfold Yk at b ⊢;show(_||Wd (((V9 w.Q (gt w.o k).L).g.drop (gt x.L 0*w.C.k).toNat).take x.z.toNat))=true
   grind
  ·rw[Dt.1 hx,e1]
   grind [A7w,A7x]
 ·show(Vy (w.p++[_])).Nodup;rw[A3y];exact A7y I hk
 ·show c∈Vy (w.p++[_]) ↔ _;rw[A3y];exact A7z I hk c
 ·show(Vx (w.p++[Wc (gt w.o k) (A4 k 1)])).Nodup;rw[A3z,e1];show(Vx w.p++(if k+1=0 then []else [Ap (k+1) 1])).Nodup;rw[if_neg (by omega),Wm (by omega),Int.add_sub_cancel];exact dg.2 ⟨I.sln,by simp,fun x h1 h2=>by rw[Dt]at h2;subst h2;have:=((I.sli x).1 h1).2;have:=P.st;omega⟩
 ·show s∈Vx (w.p++[Wc (gt w.o k) (A4 k 1)]) ↔ _;rw[A3z,e1,hN];show s∈Vx w.p++(if k+1=0 then []else [Ap (k+1) 1]) ↔ _;rw[if_neg (by omega),Wm (by omega),Int.add_sub_cancel,C5,Dt,I.sli];constructor
  ·rintro(⟨a,b⟩|a)
   ·refine⟨a,?_⟩;have e:s≠k:=fun e=>by grind [W2.st]
    rw[hg s a,if_neg e,ja R hk a e];exact b
   ·rw[a,hg k hk,if_pos rfl];exact⟨hk,rfl⟩
  ·rintro⟨a,b⟩
   by_cases e:s=k
   ·omega
   ·rw[hg s a,if_neg e,ja R hk a e]at b;exact .inl ⟨a,b⟩
theorem Bvn{l:List Fy}{t:Int->Lk}(A:V6 l t){k:Int}(hk:0<=k/\k<(l.length:Int))(h0:0<=(gt l k).f)(h1:(gt l k).f<=1000000000):V6 (l.set k.toNat (db (gt l k))) (X3 t k):=by
 intro x hx;rw[Tb]at hx;rw[Y6 hk hx];by_cases e:x=k
 ·subst e;rw[uh,if_pos rfl,A x hx]
  grind [db,Yp,Yl]
 ·rw[mg e,if_neg e,A x hx]
theorem Bvo{w:H4}(I:Bd w){t:Int->Lk}(A:V6 w.o t)(F:V3 w.o.length t (Wh w.p)){k:Int}(h:Al w.o.length t k)(hE:(gt w.o k).f<=1000000000):Bd (bk w k):=by
 have hl:=h.lv;have hk:=hl.1;have P:=I.live A hl;obtain⟨L1,L2,L3⟩:=mi I hk;have hN:(bk w k).o.length=w.o.length:=by grind [bk]
 have hg: ∀x,0<=x/\x<(w.o.length:Int)->gt (bk w k).o x=if x=k then db (gt w.o k)else gt w.o x:=fun x hx=>Y6 hk hx _
 have b0:=Gy I.conf;refine⟨W6.2 L1,by rw[hN];exact I.len,fun x hx=> ?_,fun x hx c=> ?_,fun x hx=> ?_,⟨X3 t k,?_,?_⟩,fun x hx=> ?_,?_,fun c=> ?_,?_,fun s=> ?_,I.log⟩
 ·rw[hN]at hx;rw[hg x hx];show Wv w.C _=true;by_cases e:x=k
  ·rw[if_pos e];exact((Xm (n:=db (gt w.o k))).2 ⟨P.conf,P.st,P.gen,P.up,⟨Int.le_refl _,by show(0:Int)<=_;omega⟩,P.next,P.prev,by show 0<=A4 _ 1;rw[Yl (by have:=P.ep;omega) hE];have:=P.ep;omega,P.ue,rfl,rfl,Hc _,Hc _,rfl,rfl⟩).1
  simp_all[Bd.node]
 ·rw[hN]at hx;rw[hg x hx];show c∈_ ↔ (0<=c/\c<w.C.L)/\gt (V9 w.Q (gt w.o k).L).c c=1/\gt (V9 w.Q (gt w.o k).L).h c=x;by_cases e:x=k
  ·rw[if_pos e];constructor
   ·intro q;cases q
   ·rintro⟨a,b,d⟩;rw[(L3 c a).1]at b;rw[(L3 c a).2]at d;split at b
    all_goals simp_all[Bd.own]
  ·rw[if_neg e,I.own x hx c];constructor
   ·rintro⟨a,b,d⟩
    have q:c ∉ (gt w.o k).L:=fun q=>e (by have:=((I.own k hk c).1 q).2.2;omega)
    grind
   grind
 ·rw[hN]at hx;rw[hg x hx];by_cases e:x=k
  ·rw[if_pos e];exact⟨rfl,rfl,rfl⟩
  ·rw[if_neg e];obtain⟨t1,t2,t3⟩:=I.thing x hx;refine⟨t1,t2,?_⟩;show X7 w.C (V9 w.Q (gt w.o k).L).g _=true
   grind
 ·exact Bvn A hk P.ep hE
 ·show V3 ((bk w k).o.length:Int) _ (Wh (w.p++[_]));rw[hN,Beq];have:=Bvd F h;rw[A k hk]at this;exact this
 ·have hx:x∈w.p++[Wc (gt w.o k) 0]:=hx;show X2 w.C x=true/\_;rcases C5.1 hx with hx|hx
  ·obtain⟨a,b⟩:=I.wrec x hx;refine⟨a,?_⟩;unfold Yk at b ⊢;show(_||Wd (((V9 w.Q (gt w.o k).L).g.drop (gt x.L 0*w.C.k).toNat).take x.z.toNat))=true
   grind
  ·rw[Dt.1 hx]
   grind [A7w,A7x]
 ·show(Vy (w.p++[_])).Nodup;rw[A3y];exact A7y I hk
 ·show c∈Vy (w.p++[_]) ↔ _;rw[A3y];exact A7z I hk c
 ·show(Vx (w.p++[Wc (gt w.o k) 0])).Nodup;rw[A3z];show(Vx w.p++(if(0:Int)=0 then []else [Ap 0 1])).Nodup;simp_all[Bd.sln]
 ·show s∈Vx (w.p++[Wc (gt w.o k) 0]) ↔ _;rw[A3z,hN];show s∈Vx w.p++(if(0:Int)=0 then []else [Ap 0 1]) ↔ _;rw[if_pos rfl,List.append_nil,I.sli];refine and_congr_right fun a=> ?_;rw[hg s a]
  by_cases e:s=k
  ·rw[if_pos e,e,P.st];show _ ↔ (gt w.o k).c=2;rw[P.st]
  grind
def Wq (c:Sv)(n:Fy):Nat:=if n.c=1 then 2+n.j.length+c.k.toNat*n.L.length else 0
def Xr (c:Sv)(x:G9):Nat:=1+x.j.length+(c.k.toNat*x.L.length - x.z.toNat)
def pot (w:H4):Nat:=(w.o.map (Wq w.C)).sum+(w.p.map (Xr w.C)).sum
def wt (w:H4):Nat:=pot w+w.q.length
def Wz (n:Fy):Nat:=if n.c=1 then 1 else 0
def cnt (w:H4):Nat:=(w.o.map Wz).sum+w.p.length
structure ap (E:Int)(n:Fy):Prop where
 ep:n.f<=E
 ue:n.t<=E
 cur:0<=n.w/\n.w<=1000
structure Ch (w:H4)(E:Int)(n:Nat):Prop where
 inv:Bd w
 mem: ∀x∈w.Q.g,0<=x/\x<=255
 ep: ∀k,0<=k/\k<(w.o.length:Int)->ap E (gt w.o k)
 wt:wt w<=n
 cn:(cnt w:Int)<=E
theorem Ber{α:Type}(f:α->Nat)(l:List α)(h: ∀x∈l,1<=f x):l.length<=(l.map f).sum:=by
 induction l with
 |nil=>simp
 |cons x l ih=>
  grind
theorem uk (w:H4):w.p.length<=wt w:=by
 have:=Ber (Xr w.C) w.p fun x _=>by grind [Xr]
 unfold wt pot;omega
theorem Ak2 (w:H4):w.q.length<=wt w:=by grind [wt]
theorem Vz{x:Int}(h0: -1000000000<=x)(h1:x<=1000000000):wfi x:=⟨by omega,by omega⟩
theorem A70{c:Sv}{t:H3}(h:Xi c t=true):ThingW t:=by
 have hs:=(tm h).1;have hin:=(tm h).2;have b0:=Gy hin.1;obtain⟨s1,s2,s3,s4⟩:=hs;refine⟨Vz (by omega) (by omega),Vz (by omega) (by omega),?_⟩;unfold Xi at h;rw[Z4]at h;by_cases e:t.E=0
 ·grind [Vz]
 ·have h:=h.2;rw[Wn e]at h;simp only[cond_false,Z4,beq_iff_eq]at h;rw[h.2.1];unfold We;have h3:(t.D+c.k - 1) / c.k<=t.D+c.k - 1:=Int.ediv_le_self _ (by omega);have h4:0<=(t.D+c.k - 1) / c.k:=Int.ediv_nonneg (by omega) (by omega);cases (Qi t.D 0 1000000000&&Qi c.k 1 1000000000)with
  |false=>simp_all[Vz]
  |true=>exact Vz (by grind) (by grind)
theorem mj{l:List Int}(h: ∀x∈l,-1000000000<=x/\x<=1000000000)(hl:l.length<=1000000000):Y0 l:=⟨fun x hx=>Vz (h x hx).1 (h x hx).2,by omega⟩
theorem Bes{c:Sv}(h:Vw c=true):ConfW c:=by
 have b0:=Gy h;exact⟨Vz (by omega) (by omega),Vz (by omega) (by omega),Vz (by omega) (by omega),Vz (by omega) (by omega),Vz (by omega) (by omega),Vz (by omega) (by omega)⟩
theorem A71{l:List Int}(h:l.all (fun x=>Qi x 0 255)=true): ∀x∈l,0<=x/\x<=255:=fun x hx=>V1.1 (Z1.1 h x hx)
theorem jc{c:Sv}{n:Fy}{E:Int}(h:Wv c n=true)(e:ap E n)(hE:E<=1000000000):Wo n:=by
 have b0:=Gy (mh h).1;by_cases s:n.c=1
 ·have X:=Xm.1 ⟨h,s⟩;have:=X.gen;have:=X.up;have:=X.first;have:=X.next;have:=X.prev;have:=X.ep;have:=X.ue;have:=X.nth;have:=X.ntag;have:=e.ep;have:=e.ue;have:=e.cur;refine⟨Vz (by omega) (by omega),Vz (by omega) (by omega),Vz (by omega) (by omega),Vz (by omega) (by omega),Vz (by omega) (by omega),Vz (by omega) (by omega),Vz (by omega) (by omega),Vz (by omega) (by omega),?_,Vz (by omega) (by omega),?_,?_,?_⟩
  ·exact mj (fun x hx=>by have:=bh X.dist x hx;omega) (by have:=Y9 X.conf X.dist;omega)
  ·have:=X.cur;unfold Zr at this;by_cases q:n.w=0
   ·simp_all[Vz]
   ·rw[Wn q]at this;simp only[cond_false,Z4,V1]at this
    grind [Vz]
  ·exact⟨fun t ht=>A70 (Z1.1 X.things t ht),by omega⟩
  ·exact mj (fun x hx=>by have:=A71 X.tags x hx;omega) (by omega)
 ·have g:=mh h;rw[dh h s];exact⟨Vz (by show _<=n.c;omega) (by show n.c<=_;omega),Vz (by show _<=n.a;omega) (by show n.a<=_;omega),Wj,Wj,Wj,Wj,Wj,Wj,ik,Wj,Wj,A3f,ik⟩
theorem Bvp{c:Sv}{x:G9}(h:X2 c x=true):Zj x:=by
 have b0:=Gy (ic h).1;obtain⟨h1,h2,h3,h4,h5⟩:=ic h;unfold X2 at h;simp only[Z4,V1,decide_eq_true_eq]at h;obtain⟨_,_,_,t1,t2,_⟩:=h;refine⟨Vz (by omega) (by omega),Vz (by omega) (by omega),?_,?_,Vz (by omega) (by omega)⟩
 ·exact mj (fun y hy=>by have:=A71 t2 y hy;omega) (by omega)
 ·exact mj (fun y hy=>by have:=bh h4 y hy;omega) (by grind [Y9])
theorem ml{α:Type}[Inhabited α]{l:List α}{P:α->Prop}(h: ∀k,0<=k/\k<(l.length:Int)->P (gt l k)): ∀x∈l,P x:=by
 intro x hx;obtain⟨i,hi,e⟩:=List.mem_iff_getElem.1 hx;have:=h (i:Int) ⟨by omega,by omega⟩
 grind [K1]
theorem Ch.ww{w:H4}{E:Int}{n:Nat}(G:Ch w E n)(hE:E<=1000000000)(hn:n<=1000000000):Wa w:=by
 have I:=G.inv;have P:=W6.1 I.pool;obtain⟨b1,b2,b3,b4,b5,b6⟩:=Gy I.conf;have h1:=uk w;have h2:=Ak2 w;have h3:=G.wt;have hm:=Zp (a:=w.C.L) (b:=w.C.k) (m:=12) (n:=16) (by omega) b1.2 (by omega) b2.2;refine⟨Bes I.conf,⟨⟨G.mem,by have:=P.mem;omega⟩,?_,?_⟩,⟨ml fun k hk=>jc (I.node k hk) (G.ep k hk) hE,by have:=I.len;omega⟩,⟨fun x hx=>Bvp (I.wrec x hx).1,by omega⟩,?_⟩
 ·exact mj (ml fun k hk=>by have:=(P.one k (by grind [Zw.st])).1;omega) (by have:=P.st;omega)
 ·refine mj (ml fun k hk=> ?_) (by have:=P.own;omega);obtain⟨o1,o2,o3,o4⟩:=P.one k (by grind [Zw.own]);omega
 ·exact mj (fun x hx=>by have:=A71 I.log x hx;omega) (by omega)
theorem Ch.wc{w:H4}{E:Int}{n:Nat}(G:Ch w E n)(h:E<=1000000000/\n<=1000000000):Wa w:=G.ww h.1 h.2
theorem A72{w:H4}(I:Bd w)(p:Pc)(q:List G9)(lg:List Int)(hp:Zw w.C p)
  (ho: ∀c,0<=c/\c<w.C.L->(gt p.c c=1 ↔ gt w.Q.c c=1)/\gt p.h c=gt w.Q.h c)
  (hl: ∀k,0<=k/\k<(w.o.length:Int)->X7 w.C p.g (gt w.o k)=true)
  (hq:Wh q=Wh w.p) (hs:Vx q=Vx w.p)
  (hr: ∀x∈q,X2 w.C x=true/\Yk (H4.mk w.C p w.o q lg) x=true)
  (hn:(Vy q).Nodup) (hc: ∀c,c∈Vy q ↔ (0<=c/\c<w.C.L)/\gt p.c c=2)
  (hg:lg.all (fun x=>Qi x 0 255)=true):Bd (H4.mk w.C p w.o q lg):=by
 refine⟨W6.2 hp,I.len,I.node,fun k hk c=> ?_,fun k hk=> ?_,?_,hr,hn,hc,?_,?_,hg⟩
 ·rw[I.own k hk c]
  grind
 all_goals grind [Bd.thing,Bd.forest,Bd.sln,Bd.sli]
theorem jd{α:Type}[Inhabited α](x:α)(l:List α):gt (x::l) 0=x:=rfl
theorem qi{mem:List Int}{a n:Nat}:Wd ((mem.drop a).take n)=true ↔ ∀j:Nat,a<=j->j<a+n->j<mem.length->gt mem (j:Int)=0:=by
 unfold Wd;rw[Z1];constructor
 ·intro h j h1 h2 h3;rw[K1 h3];have:mem[j]∈(mem.drop a).take n:=by
   rw[List.mem_iff_getElem];refine⟨j - a,by grind,?_⟩
   grind
  grind
 ·intro h x hx;obtain⟨i,hi,e⟩:=List.mem_iff_getElem.1 hx;simp only[List.length_take,List.length_drop]at hi;simp only[List.getElem_take,List.getElem_drop]at e;have:=h (a+i) (by omega) (by omega) (by omega);rw[K1 (by omega),e]at this
  grind
def Yi (mem:List Int)(a n:Nat):List Int:=(List.range mem.length).map fun(j:Nat)=>if a<=j/\j<a+n then(0:Int)else gt mem (j:Int)
theorem aq (mem:List Int)(a n:Nat):(Yi mem a n).length=mem.length:=by simp[Yi]
theorem je{mem:List Int}{a n j:Nat}(h:j<mem.length):gt (Yi mem a n) (j:Int)=if a<=j/\j<a+n then 0 else gt mem (j:Int):=by
 grind [K1,Yi]
theorem Bvq (mem:List Int)(a:Nat):Yi mem a 0=mem:=by
 refine List.ext_getElem (aq _ _ _) fun j h1 h2=> ?_
 have:=je (mem:=mem) (a:=a) (n:=0) h2;simp_all[if_neg,K1]
theorem Bvr{mem:List Int}{a i:Nat}:(Yi mem a i).set (a+i) 0=Yi mem a (i+1):=by
 refine List.ext_getElem (by grind [aq]) fun j h1 h2=> ?_
 rw[Tb,aq]at h1;have e1:=je (mem:=mem) (a:=a) (n:=i) h1;have e2:=je (mem:=mem) (a:=a) (n:=i+1) h1;rw[K1 (by grind)]at e1 e2
 grind
theorem Bvs{mem:List Int}{a n b m:Nat}(h:Wd ((mem.drop b).take m)=true):Wd (((Yi mem a n).drop b).take m)=true:=by
 grind [qi,aq,je]
theorem Bet{mem:List Int}{a d n m:Nat}(h:Wd ((mem.drop a).take d)=true)(hm:m<=d+n):Wd (((Yi mem (a+d) n).drop a).take m)=true:=by
 grind [qi,aq,je]
section
variable {K:Nat} (hK:2^48<=K)
include hK
theorem Beu{mem:List Int}(hl:mem.length<=1000000){a n:Int}(ha:0<=a/\a<=1000000)(hn:0<=n)(hs:a+n<=mem.length):Ay1 K mem a n=some (Yi mem a.toNat n.toNat):=by
 have hm:=V8;obtain⟨A,rfl⟩: ∃A:Nat,a=A:=⟨a.toNat,by omega⟩;obtain⟨N,rfl⟩: ∃N:Nat,n=N:=⟨n.toNat,by omega⟩;simp only[Int.toNat_natCast];have key: ∀(f i:Nat),i<=N->N - i<f->wr K mem A N f (Yi mem A i) ((A+i:Nat):Int)=some (Yi mem A N):=by
  intro f;induction f with
  |zero=>omega
  |succ f ih=>
   intro i hi hf;rw[wr];have e:Ap ((A+i:Nat):Int) A=i:=by unfold Ap Aly;grind [Vs]
   rw[e];by_cases q:i=N
   ·grind
   ·rw[Pz (by omega),Pz (by omega),cond_true,cond_true,aq,if_pos (by omega),K0 (by omega),Int.toNat_natCast,Bvr]
    grind
 unfold Ay1;rw[Hd,if_pos (by omega),decide_eq_false (by omega),decide_eq_false (by omega)];simp only[cond_false];have:=key K 0 (by omega) (by omega)
 grind [Bvq]
end
theorem di{w:H4}(I:Bd w){x qs}(hq:w.p=x::qs):X2 w.C x=true/\Yk w x=true:=by grind [Bd.wrec,List.mem_cons_self]
structure qj (c:Sv)(x:G9):Prop where
 conf:Vw c=true
 slot:0<=x.d/\x.d<=c.l
 first:0<=x.i/\x.i<=c.l
 ntag:x.j.length<=6
 tags: ∀y∈x.j,0<=y/\y<=255
 dist:Xs c x.L=true
 done:0<=x.z/\x.z<=c.k - 1
 zero:x.L=[]->x.z=0
theorem Zm{c:Sv}{x:G9}:X2 c x=true ↔ qj c x:=by
 unfold X2;simp only[Z4,V1,decide_eq_true_eq,Bool.or_eq_true,beq_iff_eq,Z1];constructor
 ·rintro⟨a,b,c,d,e,f,g,h⟩;refine⟨a,b,c,by omega,e,f,g,fun q=> ?_⟩
  grind
 ·intro h;refine⟨h.conf,h.slot,h.first,by have:=h.ntag;omega,h.tags,h.dist,h.done,?_⟩;by_cases q:x.L=[]
  ·exact .inr (h.zero q)
  simp_all[List.length_pos_iff]
def Ze (x:G9):G9:=G9.mk x.d x.i (x.j.take (x.j.length - 1)) x.L x.z
def bn (w:H4)(x:G9)(qs:List G9):H4:=H4.mk w.C w.Q w.o (Ze x::qs) (w.q++[gt x.j ((x.j.length - 1:Nat):Int)])
theorem Bvt (K:Nat){w:H4}{x:G9}{qs:List G9}(hq:w.p=x::qs)(h0:0<x.j.length)(h6:x.j.length<=6)(hl:w.q.length<=1000000000):ri K w=some (bn w x qs):=by
 have hm:=V8;unfold ri;rw[hq,jd];have e:Ap (x.j.length:Int) 1=((x.j.length - 1:Nat):Int):=by grind [uj]
 rw[e,if_pos ⟨by omega,by simp⟩,if_pos (by omega),if_pos ⟨by grind,by grind⟩,if_pos (by omega),pr,Hd,if_pos ⟨by grind,by grind⟩];rfl
theorem Bvu{l:List Int}{n:Nat}{P:Int->Prop}(h: ∀y∈l,P y): ∀y∈l.take n,P y:=by grind
theorem Bev{w:H4}(I:Bd w){x:G9}{qs:List G9}(hq:w.p=x::qs)(h0:0<x.j.length):Bd (bn w x qs):=by
 have R:=Zm.1 (di I hq).1;have e1:Vy (Ze x::qs)=Vy w.p:=by rw[hq];rfl
 refine A72 I w.Q _ _ (W6.1 I.pool) (fun c _=>⟨Iff.rfl,rfl⟩) (fun k hk=>(I.thing k hk).2.2) (by rw[hq];rfl) (by rw[hq];rfl) (fun y hy=> ?_) (by rw[e1];exact I.chn) (fun c=>by grind [Bd.chi]) ?_
 ·rcases Ax.1 hy with e|e
  ·subst e;refine⟨Zm.2 ⟨R.conf,R.slot,R.first,?_,Bvu R.tags,R.dist,R.done,R.zero⟩,(di I hq).2⟩;have:=R.ntag;show(x.j.take _).length<=6
   grind
  ·exact I.wrec y (by grind)
 ·rw[List.all_append,I.log];have:=R.tags _ (Xe (show x.j.length - 1<x.j.length by omega));simp[V1,this]
end Go.Proofs.YtgcnddnmhllahaaGreat
