/- The plain law for FnPendings; no condition. -/
import Derived.Test.YtgcnddnmhllahaaGreatJFnPendingsTa
import Derived.Test.YtgcnddnmhllahaaGreatJFnPendingsW
set_option linter.all false
namespace Go.Proofs.YtgcnddnmhllahaaGreat
open Go.Eng Go.ChangeShapes Go.WideShapes Go.ChangeAt Go.RowKit
theorem K1{i:Nat}(h:i<=140737488355328):A4 (i:Int) 1=((i+1:Nat):Int):=by
 grind [A4,Fp,IntKind.wrap_i64]
theorem Gz{α:Type}[Inhabited α]{l:List α}{i:Nat}(h:i<l.length):gt l (i:Int)=l[i]:=by
 grind [gt]
theorem Xn{α:Type}[Inhabited α]{l:List α}{i:Nat}(h:i<l.length):gt l (i:Int)∈l:=by
 grind [Gz]
theorem Wq{α:Type}[Inhabited α]{l:List α}{i:Int}(h0:0<=i)(h:i<l.length):gt l i∈l:=by
 obtain⟨k,rfl⟩: ∃k:Nat,i=k:=⟨i.toNat,by omega⟩
 grind [Xn]
theorem P2{i k:Nat}(h:i<k):decide ((i:Int)<(k:Int))=true:=by grind
theorem W2{i k:Nat}(h:k<=i):decide ((i:Int)<(k:Int))=false:=by grind
theorem Bqp (a:List Int)(ha:a.length<=140737488355328)
  (L:Nat->Int->Option Bool) (hL: ∀n i,L (n+1) i=bif decide (i<(a.length:Int))then(if(0:Int)<=i/\i<(a.length:Int)then(if(0:Int)<=i/\i<(a.length:Int)then(bif (gt a i != gt a i)then some false else L n (A4 i 1))else none)else none)else some true):
  ∀(n i:Nat),i<=a.length->a.length - i<n->L n (i:Int)=some true:=by
 intro n;induction n with
 |zero=>omega
 |succ n ih=>
  intro i hi hn;rw[hL];rcases Bj i a.length with h|h
  ·rw[P2 h];simp only[cond_true];rw[if_pos (by omega),if_pos (by omega),K1 (by omega)];simp only[bne_self_eq_false,cond_false];exact ih (i+1) h (by omega)
  ·rw[W2 h];rfl
theorem Vr{n:Int}(h0: -9223372036854775808<=n)(h1:n<=9223372036854775807):IntKind.i64.wrap n=n:=by rw[IntKind.wrap_i64];omega
theorem Xk{n:Int}(h: -9223372036854775808<=n/\n<=9223372036854775807):IntKind.i64.wrap n=n:=Vr h.1 h.2
theorem Bbj (n:Int): -9223372036854775808<=IntKind.i64.wrap n/\IntKind.i64.wrap n<=9223372036854775807:=by rw[IntKind.wrap_i64];omega
theorem Yg{a b:Int}(h: ¬a=b):(a != b)=true:=by simpa using h
theorem Wg{a b:Int}(h: ¬a=b):(a==b)=false:=by simpa using h
def Qi (x a b:Int):Bool:=decide (a<=x/\x<=b)
theorem Vz{x a b:Int}:Qi x a b=true ↔ a<=x/\x<=b:=by unfold Qi;exact decide_eq_true_iff
theorem A19{x a b:Int}:Qi x a b=false ↔ ¬(a<=x/\x<=b):=by unfold Qi;exact decide_eq_false_iff_not
theorem Yh (b:Bool)(x:Bool):(bif b then some x else some false)=some (b&&x):=by cases b<;>rfl
theorem Bbk (b:Bool)(x:Bool):(bif b then some false else some x)=some (!b&&x):=by cases b<;>rfl
theorem ca (b:Bool)(x:Bool):(bif b then some true else some x)=some (b||x):=by cases b<;>rfl
theorem Wd{α:Type}(b:Bool)(x y:α):(bif !b then x else y)=(bif b then y else x):=by cases b<;>rfl
theorem K0{i n:Nat}(h:i<n):((0:Int)<=(i:Int)/\(i:Int)<(n:Int)):=⟨by omega,by omega⟩
theorem Bqq{α:Type}(l:List α)(q:α->Bool)(fin:Option Bool)(L:Nat->Int->Option Bool)
  (hs: ∀n (i:Nat) (h:i<l.length),L (n+1) (i:Int)=bif q l[i]then L n ((i+1:Nat):Int)else some false)
  (he: ∀n,L (n+1) (l.length:Int)=fin):
  ∀(n i:Nat),i<=l.length->l.length - i<n->L n (i:Int)=bif (l.drop i).all q then fin else some false:=by
 intro n;induction n with
 |zero=>omega
 |succ n ih=>
  intro i hi hn;rcases Bj i l.length with h|h
  ·rw[hs n i h,Z47 h,Bb];cases q l[i]with
   |false=>rfl
   |true=>grind
  grind
theorem Zd{α:Type}{K:Nat}(hK:281474976710656<=K)(l:List α)(hl:l.length<=140737488355328)(q:α->Bool)(fin:Option Bool)(L:Nat->Int->Option Bool)
  (hs: ∀n (i:Nat) (h:i<l.length),L (n+1) (i:Int)=bif q l[i]then L n ((i+1:Nat):Int)else some false)
  (he: ∀n,L (n+1) (l.length:Int)=fin):L K 0=bif l.all q then fin else some false:=by
 have:=Bqq l q fin L hs he K 0 (Hc _) (by omega);simpa using this
theorem Yp{K:Nat}(hK:281474976710656<=K)(N:Nat)(hl:N<=140737488355328)(q:Nat->Bool)(fin:Option Bool)(L:Nat->Int->Option Bool)
  (hs: ∀n (i:Nat) (h:i<N),L (n+1) (i:Int)=bif q i then L n ((i+1:Nat):Int)else some false)
  (he: ∀n,L (n+1) (N:Int)=fin):L K 0=bif (List.range N).all q then fin else some false:=by
 refine Zd hK (List.range N) (by simpa using hl) q fin L (fun n i h=> ?_) (fun n=> ?_)
 ·rw[List.getElem_range];exact hs n i (by simpa using h)
 ·rw[List.length_range];exact he n
theorem Bbl{α:Type}(l:List α)(q:α->Bool)(L:Nat->Int->Int->Option Int)
  (hs: ∀n (i:Nat) (h:i<l.length),L (n+1) (l.length:Int) (i:Int)=bif q l[i]then some (i:Int)else L n (l.length:Int) ((i+1:Nat):Int))
  (he: ∀n,L (n+1) (l.length:Int) (l.length:Int)=some (-1)):
  ∀(n i:Nat),i<=l.length->l.length - i<n-> ∃r,L n (l.length:Int) (i:Int)=some r/\decide (r>=0)=(l.drop i).any q:=by
 intro n;induction n with
 |zero=>omega
 |succ n ih=>
  intro i hi hn;rcases Bj i l.length with h|h
  ·rw[hs n i h,Z47 h,List.any_cons]
   grind
  ·obtain rfl:i=l.length:=by omega
   exact⟨_,he n,by simp⟩
theorem sq{α:Type}[Inhabited α]{K:Nat}(hK:281474976710656<=K)(l:List α)(hl:l.length<=140737488355328)(f:α->Option Bool)(q:α->Bool)(hf: ∀x∈l,f x=some (q x))(L:Nat->Int->Int->Option Int)
  (hL: ∀n N i,L (n+1) N i=bif decide (i<N)then(if(0:Int)<=i/\i<(l.length:Int)then(f (gt l i)).bind (fun r=>bif r then some i else L n N (A4 i 1))else none)else some (-1)):
  ((L K (l.length:Int) 0).bind fun r=>some (decide (r>=0)))=some (l.any q):=by
 obtain⟨r,h1,h2⟩:=Bbl l q L (fun n i h=>by
  rw[hL,P2 h,cond_true,if_pos (K0 h),hf _ (Xn h),Gz h,Z0,K1 (by omega)]) (fun n=>by rw[hL,W2 (Z9 _),cond_false]) K 0 (Hc _) (by omega)
 rw[show((0:Nat):Int)=0 from rfl]at h1;rw[h1,Z0,h2,Hf]
theorem A5r{K:Nat}(hK:281474976710656<=K)(l:List Int)(x:Int)(hl:l.length<=140737488355328):se K l x=some (l.contains x):=by
 unfold se A46;obtain⟨r,h1,h2⟩:=Bbl l (fun y=>x==y) (sd K l x) (fun n i h=>by
  rw[sd,P2 h,cond_true,if_pos (K0 h),Gz h,K1 (by omega)]) (fun n=>by simp_all[sd]) K 0 (Hc _) (by omega)
 grind
theorem jv{K:Nat}(hK:281474976710656<=K)(l:List Int)(x:Int)(hl:l.length<=140737488355328):bo K l x=some (l.contains x):=by
 unfold bo;have h: ∀(n i:Nat),i<=l.length->l.length - i<n->wi K l x n (i:Int)=some ((l.drop i).contains x):=by
  intro n;induction n with
  |zero=>omega
  |succ n ih=>
   intro i hi hn;rw[wi];rcases Bj i l.length with h|h
   ·rw[P2 h,cond_true,if_pos (K0 h),Gz h,K1 (by omega),ih (i+1) h (by omega),Z47 h,List.contains_cons,ca,Bool.beq_comm]
   grind
 have:=h K 0 (Hc _) (by omega)
 grind
theorem Xh (K:Nat)(x a b:Int):V5 K x a b=some (Qi x a b):=by
 unfold V5 Qi
 grind
theorem ak (K:Nat)(x a b:Int):Xc K x a b=some (Qi x a b):=Xh K x a b
def Vt (c:Sv):Bool:=Qi c.L 2 12&&(Qi c.k 8 16&&(Qi c.l 2 8&&(Qi c.e 1 8&&(Qi c.m 1 16&&Qi c.n 1 4))))
theorem dj (K:Nat)(c):bh K c=some (Vt c):=by
 simp_all[bh,Xh,Yh,Vt]
theorem A5s (K:Nat)(c):ry K c=some (Vt c):=dj K c
theorem Gy{c:Sv}(h:Vt c=true):(2<=c.L/\c.L<=12)/\(8<=c.k/\c.k<=16)/\(2<=c.l/\c.l<=8)/\(1<=c.e/\c.e<=8)/\(1<=c.m/\c.m<=16)/\(1<=c.n/\c.n<=4):=by
 simp_all[Vt,Vz]
def Wl (c:Sv):Int:=bif Vt c then c.L*c.k else 0
theorem Zj{a b m n:Int}(h1:0<=a)(h2:a<=m)(h3:0<=b)(h4:b<=n):0<=a*b/\a*b<=m*n:=
 ⟨Int.mul_nonneg h1 h3,Int.mul_le_mul h2 h4 h3 (by omega)⟩
theorem ou (K:Nat)(c):mf K c=some (Wl c):=by
 unfold mf Wl;rw[dj,Z0,Wd];cases h:Vt c with
 |false=>rfl
 |true=>
  obtain⟨h1,h2,_⟩:=Gy h;have:=Zj (a:=c.L) (b:=c.k) (m:=12) (n:=16) (by omega) h1.2 (by omega) h2.2;simp only[cond_true,F2,Ci]
  grind [Vr]
theorem A5t (K:Nat)(c):A0w K c=some (Wl c):=ou K c
theorem zk (c:Sv):0<=Wl c/\Wl c<=192:=by
 unfold Wl;cases h:Vt c with
 |false=>simp
 |true=>
  obtain⟨h1,h2,_⟩:=Gy h;have:=Zj (a:=c.L) (b:=c.k) (m:=12) (n:=16) (by omega) h1.2 (by omega) h2.2
  grind
section
variable {K:Nat} (hK:281474976710656<=K)
include hK
def Wa (l:List Int):Bool:=l.all (fun x=>x==0)
theorem zl (l:List Int)(hl:l.length<=140737488355328):iy K l=some (Wa l):=by
 unfold iy;rw[Zd hK l hl (fun x=>x==0) (some true) (qt K l) (fun n i h=>by
  rw[qt,P2 h,cond_true,if_pos (K0 h),Gz h,K1 (by omega)]
  grind) (fun n=>by simp_all[qt])]
 grind [Wa]
theorem A2a (l:List Int)(hl:l.length<=140737488355328):nt K l=some (Wa l):=by
 unfold nt A42 A41;rw[sq hK l hl (A40 K) (fun x=>x != 0) (fun x _=>rfl) (A0x K l) (fun n N i=>rfl)];simp_all[Wa,List.not_any_eq_all_not,bne]
end
def Wb (a b:Int):Int:=bif Qi a 0 1000000000&&Qi b 1 1000000000 then(a+b - 1) / b else 0
theorem A2b (K:Nat)(a b:Int):Ayt K a b=some (Wb a b):=by
 unfold Ayt Wb;rw[Xh,Xh,Z0];cases h1:Qi a 0 1000000000 with
 |false=>rfl
 |true=>
  cases h2:Qi b 1 1000000000 with
  |false=>rfl
  |true=>
   rw[Vz]at h1 h2;simp only[Z0,cond_true,Bool.not_true,cond_false,Bool.and_self];rw[if_pos (by omega)];unfold Afg Ap Aly A4 Fp;rw[Xk (n:=a+b) (by omega),Xk (n:=a+b - 1) (by omega)];rw[Int.tdiv_eq_ediv_of_nonneg (by omega)];have h3:(a+b - 1) / b<=a+b - 1:=Int.ediv_le_self _ (by omega);have h4:0<=(a+b - 1) / b:=Int.ediv_nonneg (by omega) (by omega)
   grind [Vr]
def X8 (c:Sv)(mem:List Int)(k:Int):List Int:=(mem.drop (k*c.k).toNat).take c.k.toNat
def jw (c:Sv)(p:Pc)(k:Nat):Bool:=
 Qi (gt p.c k) 0 2&&((bif gt p.c k==1 then Qi (gt p.h k) 0 (c.l - 1)else gt p.h k== -1)&&(bif gt p.c k==0 then Wa (X8 c p.g k)else true))
def Xi (c:Sv)(p:Pc):Bool:=
 Vt c&&((p.g.length:Int)==Wl c&&((p.c.length:Int)==c.L&&((p.h.length:Int)==c.L&&(List.range c.L.toNat).all (jw c p))))
theorem Zk{c:Sv}{p:Pc}(h:Xi c p=true):Vt c=true/\(p.g.length:Int)=c.L*c.k/\(p.c.length:Int)=c.L/\(p.h.length:Int)=c.L/\ ∀k,k<c.L.toNat->jw c p k=true:=by
 simp_all[Xi,Wl]
theorem jx{c:Sv}(hc:Vt c=true){mem:List Int}(hm:(mem.length:Int)=c.L*c.k){k:Int}(h0:0<=k)(h1:k<c.L):
  F2 k c.k=k*c.k/\F2 (A4 k 1) c.k=k*c.k+c.k/\0<=k*c.k/\k*c.k+c.k<=(mem.length:Int):=by
 obtain⟨b1,b2,_⟩:=Gy hc;have m1:=Zj (a:=k) (b:=c.k) (m:=12) (n:=16) h0 (by omega) (by omega) b2.2;have e2:(k+1)*c.k=k*c.k+c.k:=by grind
 have m2:(k+1)*c.k<=c.L*c.k:=Int.mul_le_mul_of_nonneg_right (by omega) (by omega);rw[e2]at m2;refine⟨?_,?_,m1.1,by omega⟩
 all_goals grind [F2,Ci,Vr,A4,Fp]
section
variable {K:Nat} (hK:281474976710656<=K)
include hK
theorem A5u{c:Sv}(hc:Vt c=true){p:Pc}(hm:(p.g.length:Int)=c.L*c.k){k:Int}(h0:0<=k)(h1:k<c.L):rz K p c k=some (X8 c p.g k):=by
 obtain⟨e1,e2,e3,e4⟩:=jx hc hm h0 h1;have b0:=Gy hc;unfold rz;rw[e1,e2,if_pos ⟨e3,by omega,e4⟩];unfold X8
 grind
theorem A5v (c:Sv)(p:Pc):vr K c p=some (Xi c p):=by
 unfold vr;rw[dj,ou];simp only[Z0];cases hc:Vt c with
 |false=>simp[Xi,hc]
 |true=>
 have b0:=Gy hc;have hby:Wl c=c.L*c.k:=by rw[Wl,hc];rfl
 simp only[cond_true,Xi,hc,Z30,bne];cases h1:(p.g.length:Int)==Wl c with
 |false=>rfl
 |true=>
 cases h2:(p.c.length:Int)==c.L with
 |false=>rfl
 |true=>
 cases h3:(p.h.length:Int)==c.L with
 |false=>rfl
 |true=>
 rw[beq_iff_eq]at h1 h2 h3;have hN:((c.L.toNat:Nat):Int)=c.L:=by omega
 simp only[Bool.not_true,cond_false,Z30];rw[Yp hK c.L.toNat (by omega) (jw c p) (some true) (fun n i=>dg K c n i p.g p.c p.h) (fun n i h=> ?_) (fun n=> ?_)]
 ·grind
 ·obtain⟨e1,e2,e3,e4⟩:=jx hc (h1.trans hby) (k:=(i:Int)) (by omega) (by omega);have hl:(List.take (i*c.k+c.k - i*c.k).toNat (List.drop (i*c.k).toNat p.g)).length<=140737488355327:=by grind
  have hs:Ap c.l 1=c.l - 1:=by grind [Ap,Aly,Vr]
  have hck:List.take (i*c.k+c.k - i*c.k).toNat (List.drop (i*c.k).toNat p.g)=X8 c p.g i:=by
   unfold X8;grind
  simp only[dg,qu,Amg];rw[e1,e2,K1 (by omega),decide_eq_true (show(i:Int)<c.L by omega),cond_true,if_pos (by omega),Xh,Xh,hs,zl hK _ (by omega),hck];simp only[Z0,bne,show((0:Int)<=(i:Int)/\(i:Int)<(p.c.length:Int))=True from eq_true ⟨by omega,by omega⟩,show((0:Int)<=(i:Int)/\(i:Int)<(p.h.length:Int))=True from eq_true ⟨by omega,by omega⟩,if_true,if_pos (show(0:Int)<=i*c.k/\(i:Int)*c.k<=i*c.k+c.k/\(i:Int)*c.k+c.k<=(p.g.length:Int) from⟨e3,by omega,e4⟩)];unfold jw
  grind
 ·show dg K c (n+1) _ _ _ _=_;simp_all[dg]
theorem Bbm (c:Sv)(p:Pc):yj K c p=some (Xi c p):=by
 unfold yj;rw[A5s,A5t];simp only[Z0];cases hc:Vt c with
 |false=>simp[Xi,hc]
 |true=>
 have b0:=Gy hc;have hby:Wl c=c.L*c.k:=by rw[Wl,hc];rfl
 simp only[cond_true,Xi,hc,Z30,bne];cases h1:(p.g.length:Int)==Wl c with
 |false=>rfl
 |true=>
 cases h2:(p.c.length:Int)==c.L with
 |false=>rfl
 |true=>
 cases h3:(p.h.length:Int)==c.L with
 |false=>rfl
 |true=>
 rw[beq_iff_eq]at h1 h2 h3;have hN:((c.L.toNat:Nat):Int)=c.L:=by omega
 simp only[Bool.not_true,cond_false,Z30];rw[Yp hK c.L.toNat (by omega) (jw c p) (some true) (fun n i=>bs K c n p.c (p.c.length:Int) i p.g p.c p.h) (fun n i h=> ?_) (fun n=> ?_)]
 ·grind
 ·have hs:Ap c.l 1=c.l - 1:=by grind [Ap,Aly,Vr]
  have hl:(X8 c p.g i).length<=140737488355327:=by grind [X8]
  simp only[bs,nu,A0z];rw[A5u hK hc (h1.trans hby) (by omega) (by omega),K1 (by omega),decide_eq_true (show(i:Int)<(p.c.length:Int)by omega),cond_true,if_pos (by omega),ak,ak,hs];simp only[Z0,A2a hK _ (show(X8 c p.g i).length<=140737488355328 by omega),bne,show((0:Int)<=(i:Int)/\(i:Int)<(p.h.length:Int))=True from eq_true ⟨by omega,by omega⟩,if_true];unfold jw
  grind
 ·show bs K c (n+1) _ _ _ _ _ _=_;simp_all[bs]
end
def am (c:Sv)(t:H3):Prop:=Vt c=true/\1<=t.D/\0<=t.B/\t.B+t.D<=Wl c
instance (c t):Decidable (am c t):=by unfold am;infer_instance
def Xd (c:Sv)(t:H3):Bool:=
 decide (am c t)&&(bif t.E==0 then decide (t.D<=c.k)&&(t.B / c.k==(t.B+t.D - 1) / c.k)else decide (t.D>c.k)&&(t.E==Wb t.D c.k&&t.B % c.k==0))
theorem Bbn (K:Nat){c:Sv}{t:H3}(h:am c t):
  (bif (t.E==0)then(bif (decide (t.D<=c.k))then(if c.k≠(0:Int)then(if c.k≠(0:Int)then some ((Afg .i64 t.B c.k)==(Afg .i64 (Ap (A4 t.B t.D) 1) c.k))else none)else none)else some false)else((ff K c t.D).bind fun r2=>(bif r2 then((fg K c t.D).bind fun r3=>(bif (t.E==r3)then(if c.k≠(0:Int)then some ((Int.tmod t.B c.k)==0)else none)else some false))else some false)))=some (Xd c t):=by
 have hd:decide (am c t)=true:=decide_eq_true h;obtain⟨hc,h1,h2,h3⟩:=h;have hb:=zk c;have b0:=Gy hc;unfold Xd ff fg;rw[hd,if_pos (by omega),if_pos (by omega),A2b];have e1:Ap (A4 t.B t.D) 1=t.B+t.D - 1:=by
  unfold Ap Aly A4 Fp;rw[Xk (n:=t.B+t.D) (by omega),Xk (by omega)]
 have e2: ∀x:Int,0<=x->x<=192->Afg .i64 x c.k=x / c.k:=by
  intro x h0 hx;unfold Afg;rw[Int.tdiv_eq_ediv_of_nonneg h0];have h3:x / c.k<=x:=Int.ediv_le_self _ h0;have h4:0<=x / c.k:=Int.ediv_nonneg h0 (by omega)
  grind [Vr]
 grind
theorem Bbo{c:Sv}{t:H3}(h: ¬am c t):Xd c t=false:=by
 grind [Xd]
theorem Bbp (K:Nat)(c:Sv)(t:H3):rh K c t=some (Xd c t):=by
 have hb:=zk c;by_cases h:am c t
 ·rw[<-Bbn K h];obtain⟨hc,h1,h2,h3⟩:=h;unfold rh;rw[ou,Z0,Wg (by omega),decide_eq_false (by omega),decide_eq_false (by omega),decide_eq_false (by omega)];unfold Ap Aly;rw[Xk (by omega),decide_eq_false (show ¬t.D>Wl c - t.B by omega)];rfl
 ·rw[Bbo h];unfold rh;rw[ou,Z0];by_cases g0:Wl c=0
  ·grind
  ·have hc:Vt c=true:=by
    grind [Wl]
   rw[Wg g0,cond_false];by_cases g1:t.D<1
   ·grind
   ·by_cases g2:t.B<0
    ·grind
    ·by_cases g3:t.B>Wl c
     ·grind
     ·rw[decide_eq_false g1,decide_eq_false g2,decide_eq_false g3];unfold Ap Aly;rw[Xk (by omega),decide_eq_true (show t.D>Wl c - t.B from ?_)]
      ·rfl
      ·refine Classical.byContradiction fun g4=>h ⟨hc,by omega,by omega,by omega⟩
theorem Bbq (K:Nat)(c:Sv)(t:H3):si K c t=some (Xd c t):=by
 have hb:=zk c;by_cases h:am c t
 ·rw[<-Bbn K h];obtain⟨hc,h1,h2,h3⟩:=h;unfold si;rw[A5t,Z0,decide_eq_false (by omega),decide_eq_false (by omega),decide_eq_false (by omega)];unfold Ap Aly;rw[Xk (by omega),decide_eq_false (show ¬t.B>Wl c - t.D by omega)];rfl
 ·rw[Bbo h];unfold si;rw[A5t,Z0];by_cases g1:t.D<=0
  ·grind
  ·by_cases g2:t.B<0
   ·grind
   ·by_cases g3:t.D>Wl c
    ·grind
    ·rw[decide_eq_false g1,decide_eq_false g2,decide_eq_false g3];have hc:Vt c=true:=by
      cases hc:Vt c with
      |true=>rfl
      |false=>simp_all[Wl]
     unfold Ap Aly;rw[Xk (by omega),decide_eq_true (show t.B>Wl c - t.D from ?_)]
     ·rfl
     ·refine Classical.byContradiction fun g4=>h ⟨hc,by omega,by omega,by omega⟩
theorem ow{α:Type}(l:List α)(i:Nat):(l.drop (0:Int).toNat).take ((i:Int) - 0).toNat=l.take i:=by simp
theorem zm{i n:Nat}(h:i<=n):((0:Int)<=0/\(0:Int)<=(i:Int)/\(i:Int)<=(n:Int)):=by grind
def Xo (c:Sv)(l:List Int):Bool:=(List.range l.length).all (fun i=>Qi (gt l i) 0 (c.L - 1)&& !(l.take i).contains (gt l i))
def gf (n:Fy):Bool:=
 n.f==0&&(n.s==0&&(n.t==0&&(n.i==0&&(n.u==0&&(n.v==0&&((n.L.length:Int)==0&&(n.w==0&&(n.x==0&&((n.y.length:Int)==0&&(n.j.length:Int)==0)))))))))
theorem Bqr (K:Nat)(n):Ayr K n=some (gf n):=by
 grind [Ayr,gf]
theorem Bqs{K:Nat}(hK:1<=K)(l:List Int):oa K l []=some ((l.length:Int)==0):=by
 obtain⟨k,rfl⟩: ∃k,K=k+1:=⟨K - 1,by omega⟩;cases l with
 |nil=>rfl
 |cons x l=>rfl
theorem Bqt{K:Nat}(hK:1<=K)(l:List H3):A44 K l []=some ((l.length:Int)==0):=by
 obtain⟨k,rfl⟩: ∃k,K=k+1:=⟨K - 1,by omega⟩;cases l with
 |nil=>rfl
 |cons x l=>rfl
theorem Bqu{K:Nat}(hK:1<=K)(n):A01 K n=some (gf n):=by
 simp_all[A01,A45,Yh,gf,Bqs,Bqt]
def Zl (c:Sv)(n:Fy):Bool:=bif n.w==0 then n.x==0 else n.L.contains (Ap n.w 1)&&Qi n.x 0 c.k
def ox (c:Sv)(n:Fy):Bool:=
 (Qi n.s 0 c.l&&(Qi n.i 0 c.l&&(Qi n.u 0 c.l&&Qi n.v 0 c.l)))&&((!decide (n.f<0)&& !decide (n.t<0))&&((Xo c n.L&&Zl c n)&&((decide ((n.y.length:Int)<=12)&&decide ((n.j.length:Int)<=6))&&(n.j.all (fun x=>Qi x 0 255)&&n.y.all (Xd c)))))
def Wr (c:Sv)(n:Fy):Bool:=Vt c&&(Qi n.c 0 3&&(Qi n.a 1 c.n&&(bif n.c != 1 then gf n else ox c n)))
section
variable {K:Nat} (hK:281474976710656<=K)
include hK
theorem gg{c:Sv}(hc:Vt c=true):Ap c.L 1=c.L - 1:=by
 have b0:=Gy hc
 grind [Ap,Aly,Vr]
theorem Bbr{c:Sv}(hc:Vt c=true)(l:List Int)(hl:l.length<=140737488355327):yl K c l=some (Xo c l):=by
 unfold yl;rw[Yp hK l.length (by omega) (fun i=>Qi (gt l i) 0 (c.L - 1)&& !(l.take i).contains (gt l i)) (some true) (fun n i=>oc K c l n l (l.length:Int) i) (fun n i h=> ?_) (fun n=> ?_)]
 ·grind [Xo]
 ·have hp:(l.take i).length<=140737488355328:=by grind
  simp only[oc];rw[P2 h,cond_true,if_pos (K0 h),ak,if_pos (zm (by omega)),ow,A5r hK _ _ hp,K1 (by omega),gg hK hc]
  grind
 ·show oc K c l (n+1) _ _ _=_;simp_all[oc]
theorem Bqv{c:Sv}(hc:Vt c=true)(n:Fy)(hl:n.L.length<=140737488355327):Ays K c n=some (Xo c n.L&&Zl c n):=by
 unfold Ays;rw[Yp hK n.L.length (by omega) (fun i=>Qi (gt n.L i) 0 (c.L - 1)&& !(n.L.take i).contains (gt n.L i)) (some (Zl c n)) (fun k i=>mt K c k i n.c n.a n.f n.s n.t n.i n.u n.v n.L n.w n.x n.y n.j) (fun k i h=> ?_) (fun k=> ?_)]
 ·rw[Yh];rfl
 ·have hp:(n.L.take i).length<=140737488355328:=by grind
  simp only[mt];rw[P2 h,cond_true,if_pos (K0 h),Xh,if_pos (zm (by omega)),ow,jv hK _ _ hp,K1 (by omega),gg hK hc]
  grind
 ·show mt K c (k+1) _ _ _ _ _ _ _ _ _ _ _ _ _ _=_;rw[mt,W2 (Z9 _),cond_false,jv hK _ _ (by omega),Xh];unfold Zl
  grind
theorem A5w (l:List Int)(hl:l.length<=140737488355328):sf K l=some (l.all (fun x=>Qi x 0 255)):=by
 unfold sf A49 A48;rw[sq hK l hl (A02 K) (fun x=> !Qi x 0 255) (fun x _=>by simp[A02,ak]) (A03 K l) (fun n N i=>rfl)]
 grind
theorem oy (c:Sv)(n:Fy)(h1:n.L.length<=140737488355327)(h2:n.y.length<=140737488355327)(h3:n.j.length<=140737488355327):fj K c n=some (Wr c n):=by
 unfold fj;rw[dj,Bqr];simp only[Z0,Xh];cases hc:Vt c with
 |false=>simp[Wr,hc]
 |true=>
 rw[Bqv hK hc n h1];have hA:mu K n.j K 0=some (n.j.all (fun x=>Qi x 0 255)):=by
  rw[Zd hK n.j (by omega) (fun x=>Qi x 0 255) (some true) (mu K n.j) (fun k i h=> ?_) (fun k=> ?_)]
  ·grind
  ·rw[mu,P2 h,cond_true,if_pos (K0 h),Gz h,Xh,K1 (by omega),Z0,Wd]
  simp_all[mu]
 have hB:ja K c K 0 n.c n.a n.f n.s n.t n.i n.u n.v n.L n.w n.x n.y n.j=some (n.j.all (fun x=>Qi x 0 255)&&n.y.all (Xd c)):=by
  rw[Zd hK n.y (by omega) (Xd c) (some (n.j.all (fun x=>Qi x 0 255))) (fun k i=>ja K c k i n.c n.a n.f n.s n.t n.i n.u n.v n.L n.w n.x n.y n.j) (fun k i h=> ?_) (fun k=> ?_)]
  ·grind
  ·simp only[ja];rw[P2 h,cond_true,if_pos (K0 h),Gz h,Bbp,K1 (by omega),Z0,Wd]
  ·show ja K c (k+1) _ _ _ _ _ _ _ _ _ _ _ _ _ _=_;simp_all[ja]
 rw[hB];have e12:decide ((n.y.length:Int)>12)= !decide ((n.y.length:Int)<=12):=by grind
 have e6:decide ((n.j.length:Int)>6)= !decide ((n.j.length:Int)<=6):=by grind
 simp only[Z0,cond_true,e12,e6,Wd,Yh,Bbk];unfold Wr ox
 grind
theorem Bqw (c:Sv)(n:Fy)(h1:n.L.length<=140737488355327)(h2:n.y.length<=140737488355327)(h3:n.j.length<=140737488355327):A06 K c n=some (Wr c n):=by
 unfold A06;rw[A5s,Bqu (by omega)];simp only[Z0,ak];cases hc:Vt c with
 |false=>simp[Wr,hc]
 |true=>
 have hT:A5b K n.y c=some (n.y.any (fun t=> !Xd c t)):=
  sq hK n.y (by omega) (fun t=>A04 K t c) (fun t=> !Xd c t) (fun x _=>by simp[A04,Bbq]) (A05 K n.y c) (fun n N i=>rfl)
 have hJ:od K c n.y n.j=some ((decide ((n.y.length:Int)<=12)&&decide ((n.j.length:Int)<=6))&&(n.j.all (fun x=>Qi x 0 255)&&n.y.all (Xd c))):=by
  unfold od;rw[hT,A5w hK _ (by omega)];simp only[Z0,Yh,List.not_any_eq_all_not,Bool.not_not,Z7]
  ac_rfl
 have b0:=Gy hc;have hB:jr K c K ([n.s,n.i,n.u,n.v]:List Int) (([n.s,n.i,n.u,n.v]:List Int).length:Int) 0 n.c n.a n.f n.s n.t n.i n.u n.v n.L n.w n.x n.y n.j=some (ox c n):=by
  rw[Zd hK ([n.s,n.i,n.u,n.v]:List Int) (by simp) (fun x=>Qi x 0 c.l) (some ((!decide (n.f<0)&& !decide (n.t<0))&&((Xo c n.L&&Zl c n)&&((decide ((n.y.length:Int)<=12)&&decide ((n.j.length:Int)<=6))&&(n.j.all (fun x=>Qi x 0 255)&&n.y.all (Xd c)))))) (fun k i=>jr K c k ([n.s,n.i,n.u,n.v]:List Int) (([n.s,n.i,n.u,n.v]:List Int).length:Int) i n.c n.a n.f n.s n.t n.i n.u n.v n.L n.w n.x n.y n.j) (fun k i h=> ?_) (fun k=> ?_)]
  ·simp_all[ox,Yh]
  ·simp only[jr];rw[P2 h,cond_true,if_pos (K0 h),Gz h,ak,K1 (by grind),Z0,Wd]
  ·show jr K c (k+1) _ _ _ _ _ _ _ _ _ _ _ _ _ _ _ _=_;rw[jr,W2 (Z9 _),cond_false,hJ,Bbr hK hc _ h1,A5r hK _ _ (by omega),ak];simp only[Z0,bne,Wd,Yh,Bbk];unfold Zl;have hz:(n.x==0)=true->Qi n.x 0 c.k=true:=by
    intro h;rw[beq_iff_eq]at h;rw[Vz];omega
   grind
 rw[hB];simp only[cond_true,Wd,Yh];unfold Wr
 grind
end
theorem Bbs{α β:Type}(l:List α)(q:α->Bool)(fin bad:Option β)(L:Nat->Int->Option β)
  (hs: ∀n (i:Nat) (h:i<l.length),L (n+1) (i:Int)=bif q l[i]then L n ((i+1:Nat):Int)else bad)
  (he: ∀n,L (n+1) (l.length:Int)=fin):
  ∀(n i:Nat),i<=l.length->l.length - i<n->L n (i:Int)=bif (l.drop i).all q then fin else bad:=by
 intro n;induction n with
 |zero=>omega
 |succ n ih=>
  intro i hi hn;rcases Bj i l.length with h|h
  ·rw[hs n i h,Z47 h,Bb];cases q l[i]with
   |false=>rfl
   |true=>grind
  grind
theorem Bqx{β:Type}{K:Nat}(hK:281474976710656<=K)(N:Nat)(hl:N<=140737488355328)(q:Nat->Bool)(fin bad:Option β)(L:Nat->Int->Option β)
  (hs: ∀n (i:Nat) (h:i<N),L (n+1) (i:Int)=bif q i then L n ((i+1:Nat):Int)else bad)
  (he: ∀n,L (n+1) (N:Int)=fin):L K 0=bif (List.range N).all q then fin else bad:=by
 have:=Bbs (List.range N) q fin bad L (fun n i h=>by grind) (fun n=>by grind) K 0 (Hc _) (by grind)
 grind
def cd (t:H3):Prop:=0<=t.B/\t.B<=200/\0<=t.D/\t.D<=200
theorem sr{c:Sv}{t:H3}(h:Xd c t=true):cd t/\am c t:=by
 have h1:am c t:=by
  unfold Xd at h
  grind
 have hb:=zk c;obtain⟨h2,h3,h4,h5⟩:=h1;exact⟨⟨h4,by omega,by omega,by omega⟩,h2,h3,h4,h5⟩
def Ws (a b:H3):Bool:=decide (a.D<=0\/b.D<=0\/a.B+a.D<=b.B\/b.B+b.D<=a.B)
theorem Bqy (a b:H3):Ws a b=Ws b a:=by
 unfold Ws
 grind
theorem Bqz (K:Nat){a b:H3}(ha:cd a)(hb:cd b):Azp K a b=some (Ws a b):=by
 obtain⟨a1,a2,a3,a4⟩:=ha;obtain⟨b1,b2,b3,b4⟩:=hb;unfold Azp Ap Aly;rw[Xk (n:=b.B - a.B) (by omega),Xk (n:=a.B - b.B) (by omega)];simp only[ca];have: ∀x:Bool,x=Ws a b->some x=some (Ws a b):=fun x h=>by rw[h]
 by_cases h:a.B<=b.B
 ·rw[decide_eq_true h,cond_true,ca,ca];refine this _ ?_;rw[Bool.eq_iff_iff];simp only[Ws,Bool.or_eq_true,decide_eq_true_eq];omega
 ·rw[decide_eq_false h,cond_false,ca,ca];refine this _ ?_;rw[Bool.eq_iff_iff];simp only[Ws,Bool.or_eq_true,decide_eq_true_eq];omega
theorem Bbt (K:Nat){a b:H3}(ha:cd a)(hb:cd b):yo K a b=some (Ws a b):=by
 obtain⟨a1,a2,a3,a4⟩:=ha;obtain⟨b1,b2,b3,b4⟩:=hb;unfold yo A1b Aly;simp only[IntKind.wrap_u64];have: ∀x:Bool,x=Ws a b->some x=some (Ws a b):=fun x h=>by rw[h]
 by_cases h:a.B>b.B
 ·rw[decide_eq_true h,cond_true,ca,ca];refine this _ ?_;rw[Bool.eq_iff_iff];simp only[Ws,Bool.or_eq_true,decide_eq_true_eq];omega
 ·rw[decide_eq_false h,cond_false,ca,ca];refine this _ ?_;rw[Bool.eq_iff_iff];simp only[Ws,Bool.or_eq_true,decide_eq_true_eq];omega
def Y3 (l:List H3):Bool:=(List.range l.length).all (fun i=>(l.take i).all (fun o=>Ws o (gt l i)))
def W7 (c:Sv)(chunks:List Int)(t:H3):Bool:=
 Xd c t&&(List.range ((t.B+t.D - 1) / c.k - t.B / c.k+1).toNat).all (fun j=>chunks.contains (t.B / c.k+(j:Int)))
theorem Bbu{c:Sv}{t:H3}(h:Xd c t=true):
  c.k≠0/\Afg .i64 t.B c.k=t.B / c.k/\Afg .i64 (Ap (A4 t.B t.D) 1) c.k=(t.B+t.D - 1) / c.k/\0<=t.B / c.k/\t.B / c.k<=(t.B+t.D - 1) / c.k/\(t.B+t.D - 1) / c.k<=192:=by
 obtain⟨hs,hc,h1,h2,h3⟩:=sr h;have hb:=zk c;have b0:=Gy hc;have e1:Ap (A4 t.B t.D) 1=t.B+t.D - 1:=by
  unfold Ap Aly A4 Fp;rw[Xk (n:=t.B+t.D) (by omega),Xk (by omega)]
 have e2: ∀x:Int,0<=x->x<=192->Afg .i64 x c.k=x / c.k/\0<=x / c.k/\x / c.k<=192:=by
  intro x h0 hx;have h3:x / c.k<=x:=Int.ediv_le_self _ h0;have h4:0<=x / c.k:=Int.ediv_nonneg h0 (by omega)
  grind [Afg,Vr]
 obtain⟨x1,x2,x3⟩:=e2 t.B h2 (by omega);obtain⟨y1,y2,y3⟩:=e2 (t.B+t.D - 1) (by omega) (by omega);refine⟨by omega,x1,by grind,x2,Int.ediv_le_ediv (by omega) (by omega),y3⟩
theorem Bbv{a:Int}{j:Nat}(h0:0<=a)(h:a+j<=140737488355328):A4 (a+(j:Int)) 1=a+((j+1:Nat):Int):=by
 grind [A4,Fp,Vr]
section
variable {K:Nat} (hK:281474976710656<=K)
include hK
theorem Bq0 (l:List H3)(hl:l.length<=140737488355327)(hs: ∀t∈l,cd t):Azq K l=some (Y3 l):=by
 unfold Azq Y3;rw[Yp hK l.length (by omega) (fun i=>(l.take i).all (fun o=>Ws o (gt l i))) (some true) (fun n i=>fw K l n i) (fun n i h=> ?_) (fun n=> ?_)]
 ·grind
 ·simp only[fw];rw[P2 h,cond_true];have hlen:(l.take i).length=i:=by grind
  rw[Zd hK (l.take i) (by omega) (fun o=>Ws o (gt l i)) (fw K l n (A4 i 1)) (fun m j=>nl K l i (fw K l n) m j) (fun m j hj=> ?_) (fun m=> ?_)]
  ·grind [K1]
  ·have hj':j<i:=by omega
   simp only[nl];rw[P2 hj',cond_true,if_pos (K0 h),if_pos (K0 (show j<l.length by omega)),Bqz K (hs _ (Xn h)) (hs _ (Xn (show j<l.length by omega))),Z0,Wd,K1 (by omega),Bqy,List.getElem_take,Gz (show j<l.length by omega)]
  ·show nl K l i _ (m+1) _=_;simp_all[nl]
 ·show fw K l (n+1) _=_;simp_all[fw]
theorem Bq1 (l:List H3)(hl:l.length<=140737488355327)(hs: ∀t∈l,cd t):A1e K l=some (Y3 l):=by
 unfold A1e Y3;rw[Yp hK l.length (by omega) (fun i=>(l.take i).all (fun o=>Ws o (gt l i))) (some true) (fun n i=>og K l n l (l.length:Int) i) (fun n i h=> ?_) (fun n=> ?_)]
 ·grind
 ·simp only[og];have hlen:(l.take i).length=i:=by grind
  have hC:A5f K (l.take i) (gt l i)=some ((l.take i).any (fun o=> !Ws o (gt l i))):=
   sq hK (l.take i) (by omega) (fun t=>A1c K t (gt l i)) (fun o=> !Ws o (gt l i)) (fun x hx=>by
    grind [A1c,Bbt,Xn]) (A1d K (l.take i) (gt l i)) (fun n N i=>rfl)
  rw[P2 h,cond_true,if_pos (K0 h),if_pos (zm (by omega)),ow,hC,K1 (by omega),Z0,List.any_eq_not_all_not,Wd]
  grind
 ·show og K l (n+1) _ _ _=_;simp_all[og]
theorem Bq2 (c:Sv)(n:Fy)(h1:n.L.length<=140737488355327)(h2:n.y.length<=140737488355327):A1a K c n=some (n.y.all (W7 c n.L)):=by
 unfold A1a;have h1t: ∀t,yn K t c n=some (!W7 c n.L t):=by
  intro t;unfold yn W7;rw[Bbq,Z0,Wd];cases ht:Xd c t with
  |false=>rfl
  |true=>
   obtain⟨d0,d1,d2,d3,d4,d5⟩:=Bbu ht;rw[cond_true,if_pos d0,d1];have:=Bqx hK ((t.B+t.D - 1) / c.k - t.B / c.k+1).toNat (by omega) (fun j=>n.L.contains (t.B / c.k+(j:Int))) (some false) (some true) (fun m j=>oe K t c n m (t.B / c.k+j)) (fun m j hj=> ?_) (fun m=> ?_)
   ·grind
   ·simp only[oe];rw[if_pos d0,d2,decide_eq_true (by omega),cond_true,A5r hK _ _ (by omega),Z0,Wd,Bbv d3 (by omega)]
   ·show oe K t c n (m+1) _=_;rw[oe,if_pos d0,d2,decide_eq_false (by omega),cond_false]
 have hC:A5e K n.y c n=some (n.y.any (fun t=> !W7 c n.L t)):=
  sq hK n.y (by omega) (fun t=>yn K t c n) (fun t=> !W7 c n.L t) (fun x _=>h1t x) (A09 K n.y c n) (fun n N i=>rfl)
 grind
theorem Bq3 (c:Sv)(n:Fy)(h1:n.L.length<=140737488355327)(h2:n.y.length<=140737488355327):Azo K c n=some (n.y.all (W7 c n.L)):=by
 unfold Azo;rw[Zd hK n.y (by omega) (W7 c n.L) (some true) (fun k i=>fv K c k i n.c n.a n.f n.s n.t n.i n.u n.v n.L n.w n.x n.y n.j) (fun k i h=> ?_) (fun k=> ?_)]
 ·grind
 ·simp only[fv];rw[P2 h,cond_true,if_pos (K0 h),Gz h,Bbp,Z0,Wd];unfold W7;generalize n.y[i]=t;cases ht:Xd c t with
  |false=>rfl
  |true=>
   obtain⟨d0,d1,d2,d3,d4,d5⟩:=Bbu ht;rw[cond_true,if_pos d0,d1,Z30];have:=Yp hK ((t.B+t.D - 1) / c.k - t.B / c.k+1).toNat (by omega) (fun j=>n.L.contains (t.B / c.k+(j:Int))) (fv K c k ((i+1:Nat):Int) n.c n.a n.f n.s n.t n.i n.u n.v n.L n.w n.x n.y n.j)
    (fun m j=>nk K c i n.c n.a n.f n.s n.t n.i n.u n.v n.L n.w n.x n.y n.j (fv K c k) m (t.B / c.k+j) t) (fun m j hj=> ?_) (fun m=> ?_)
   ·grind
   ·simp only[nk];rw[if_pos d0,d2,decide_eq_true (by omega),cond_true,jv hK _ _ (by omega),Z0,Wd,Bbv d3 (by omega)]
   ·show nk K c i _ _ _ _ _ _ _ _ _ _ _ _ _ _ (m+1) _ _=_;rw[nk,if_pos d0,d2,decide_eq_false (by omega),cond_false,K1 (by omega)]
 ·show fv K c (k+1) _ _ _ _ _ _ _ _ _ _ _ _ _ _=_;simp_all[fv]
end
def wfi (x:Int):Prop:= -9223372036854775808<=x/\x<=9223372036854775807
def Zv (l:List Int):Prop:=(∀x∈l,wfi x)/\l.length*8<=140737488355327
def Bbw (l:List Int):Prop:=(∀x∈l,0<=x/\x<=255)/\l.length<=140737488355327
def ThingW (t:H3):Prop:=wfi t.B/\wfi t.D/\wfi t.E
def A5x (l:List H3):Prop:=(∀x∈l,ThingW x)/\l.length*24<=140737488355327
structure Wt (n:Fy):Prop where
 st:wfi n.c
 gen:wfi n.a
 ep:wfi n.f
 up:wfi n.s
 upEp:wfi n.t
 first:wfi n.i
 next:wfi n.u
 prev:wfi n.v
 chunks:Zv n.L
 cur:wfi n.w
 bump:wfi n.x
 things:A5x n.y
 tags:Zv n.j
def V0 (l:List Fy):Prop:=(∀x∈l,Wt x)/\l.length*152<=140737488355327
structure dk (x:G9):Prop where
 slot:wfi x.d
 first:wfi x.i
 tags:Zv x.j
 chunks:Zv x.L
 done:wfi x.z
def A5y (l:List G9):Prop:=(∀x∈l,dk x)/\l.length*72<=140737488355327
structure ConfW (c:Sv):Prop where
 chunks:wfi c.L
 size:wfi c.k
 slots:wfi c.l
 tax:wfi c.e
 slice:wfi c.m
 gens:wfi c.n
structure Yi (p:Pc):Prop where
 mem:Bbw p.g
 st:Zv p.c
 own:Zv p.h
structure Wp (w:H4):Prop where
 c:ConfW w.C
 p:Yi w.Q
 l:V0 w.o
 q:A5y w.p
 log:Zv w.q
theorem V2:140737488355328<=maxLen:=by unfold maxLen;omega
theorem A5z{α:Type}(x:Option α):Aag x x=x:=by simp[Aag]
theorem cf (K:Nat){l:List Int}(h:l.length*8<=140737488355327):Zi K l=some l:=by
 have hm:=V2;unfold Zi;rw[Hd,if_pos (by omega)]
 grind [A5z]
theorem Bq4 (K:Nat){l:List Int}(h:l.length<=140737488355327):A0r K l=some l:=by
 have hm:=V2;unfold A0r;rw[Hd,if_pos (by omega)]
 grind [A5z]
theorem Bq5 (K:Nat){l:List H3}(h:l.length*24<=140737488355327):A0s K l=some l:=by
 have hm:=V2;unfold A0s;rw[Hd,if_pos (by omega)]
 grind [A5z]
theorem Bbx{α:Type}(N:Nat)(q:Nat->Bool)(g:Nat->α)(L:Nat->List α->Int->Option (List α))
  (hs: ∀n v (i:Nat),i<N->v.length<=i->L (n+1) v (i:Int)=bif q i then L n (v++[g i]) ((i+1:Nat):Int)else L n v ((i+1:Nat):Int))
  (he: ∀n v,L (n+1) v (N:Int)=some v):
  ∀(n i:Nat) (v:List α),i<=N->v.length<=i->N - i<n->L n v (i:Int)=some (v++(((List.range N).drop i).filter q).map g):=by
 intro n;induction n with
 |zero=>omega
 |succ n ih=>
  intro i v hi hv hn;rcases Bj i N with h|h
  ·rw[hs n v i h hv,Z47 (by grind),List.getElem_range,List.filter_cons]
   grind
  grind [List.drop_eq_nil_of_le]
def Yq (p:Pc)(k:Int):List Int:=((List.range (min p.c.length p.h.length)).filter (fun i:Nat=>gt p.c i==1&&gt p.h i==k)).map (fun i:Nat=>(i:Int))
theorem Bq6 (p:Pc)(k:Int):(Yq p k).length<=min p.c.length p.h.length:=by
 grind [Yq]
theorem A50 (p:Pc)(k:Int):(Yq p k).Pairwise (fun a b=>a<b):=by
 grind [Yq,List.pairwise_lt_range]
theorem Bby{l:List Int}: ∀ {o:List Int},o.Nodup->(∀x∈o,x∈l)->o.length=l.length->o.Perm l:=by
 intro o;induction o generalizing l with
 |nil=>grind
 |cons x o ih=>
  intro hn hs hl;have hx:x∈l:=hs x (by simp);rw[List.nodup_cons]at hn;have h2:o.Perm (l.erase x):=ih hn.2 (fun y hy=>by
   grind) (by grind)
  grind [List.perm_cons_erase]
def jy (p:Pc)(k:Int)(l:List Int):Bool:=(Yq p k).all (fun x=>l.contains x)&&((Yq p k).length:Int)==(l.length:Int)
theorem Bq7 (p:Pc)(k:Int)(l:List Int):decide (l.mergeSort (fun x y=>decide (x<=y))=Yq p k)=jy p k l:=by
 rw[Bool.eq_iff_iff];unfold jy;simp only[decide_eq_true_eq,Z4,Z1,List.contains_iff_mem,beq_iff_eq];have hp:=List.mergeSort_perm l (fun x y=>decide (x<=y));constructor
 ·intro e;rw[e]at hp;exact⟨fun x hx=>hp.mem_iff.1 hx,by have:=hp.length_eq;omega⟩
 ·rintro⟨h1,h2⟩
  have hn:(Yq p k).Nodup:=(A50 p k).imp fun h=>by omega
  have h3:=Bby hn h1 (by omega);refine List.Perm.eq_of_pairwise (le:=fun a b=>a<=b) (fun a b _ _ h1 h2=>by omega) ?_ ((A50 p k).imp fun h=>by omega) (hp.trans h3.symm)
  grind [List.pairwise_mergeSort]
theorem Bq8{a b:List Int}(h:a.length=b.length):(List.range a.length).all (fun i=>gt a i==gt b i)=decide (a=b):=by
 rw[Bool.eq_iff_iff];simp only[Z1,List.mem_range,beq_iff_eq,decide_eq_true_eq]
 grind [List.ext_getElem,Gz]
section
variable {K:Nat} (hK:281474976710656<=K)
include hK
theorem Bq9 (a b:List Int)(ha:a.length<=140737488355327):oa K a b=some (decide (a=b)):=by
 unfold oa;by_cases h:a.length=b.length
 ·rw[show((a.length:Int) != (b.length:Int))=false by simp[h],cond_false,<-Bq8 h];rw[Yp hK a.length (by omega) (fun i=>gt a i==gt b i) (some true) (fun n i=>ny K a b n (a.length:Int) i) (fun n i hi=> ?_) (fun n=> ?_)]
  ·grind
  ·simp only[ny];rw[P2 hi,cond_true,if_pos (K0 hi),if_pos (K0 (show i<b.length by omega)),K1 (by omega),bne,Wd]
  ·show ny K a b (n+1) _ _=_;simp_all[ny.eq_2]
 ·rw[Yg (by omega),cond_true,decide_eq_false (fun e=>h (by rw[e]))]
theorem Bbz (p:Pc)(k:Int)(h1:p.c.length*8<=140737488355327):vm K p k=some (Yq p k):=by
 have hm:=V2;unfold vm;have:=Bbx (min p.c.length p.h.length) (fun i:Nat=>gt p.c i==1&&gt p.h i==k) (fun i:Nat=>(i:Int)) (fun n v i=>fe K k n v i p.g p.c p.h) (fun n v i hi hv=> ?_) (fun n v=> ?_) K 0 [] (Hc _) (Z9 _) (by omega)
 ·assumption
 ·have h2:(v++([(i:Int)]:List Int)).length=v.length+1:=by simp
  simp only[fe,vl];rw[P2 (by omega),P2 (by omega),cond_true,cond_true,if_pos (K0 (by omega)),if_pos (K0 (by omega)),K1 (by omega),if_pos (by omega)]
  grind
 ·show fe K k (n+1) v _ _ _ _=_;rw[fe]
  grind
theorem Bra (p:Pc)(k:Int)(h1:p.c.length*8<=140737488355327):A07 K p k=some (Yq p k):=by
 have hm:=V2;unfold A07;have e:M6 (p.c.length:Int) (p.h.length:Int)=((min p.c.length p.h.length:Nat):Int):=by grind [M6]
 rw[e];have:=Bbx (min p.c.length p.h.length) (fun i:Nat=>gt p.c i==1&&gt p.h i==k) (fun i:Nat=>(i:Int)) (fun n v i=>gb K k n v ((min p.c.length p.h.length:Nat):Int) i p.g p.c p.h) (fun n v i hi hv=> ?_) (fun n v=> ?_) K 0 [] (Hc _) (Z9 _) (by omega)
 ·assumption
 ·have h2:(v++([(i:Int)]:List Int)).length=v.length+1:=by simp
  simp only[gb,ym];rw[P2 hi,cond_true,if_pos (K0 (by omega)),if_pos (K0 (by omega)),K1 (by omega),if_pos (by omega)]
  grind
 ·show gb K k (n+1) v _ _ _ _ _=_;simp_all[gb]
theorem Brb (w:H4)(k:Nat)(hk:k<w.o.length)(h1:w.Q.c.length*8<=140737488355327)(h2:(gt w.o k).L.length<=140737488355327):Azn K w k=some (jy w.Q k (gt w.o k).L):=by
 unfold Azn;rw[Bbz hK _ _ h1,Z0];have hl:=Bq6 w.Q k;rw[Zd hK (Yq w.Q k) (by omega) (fun x=>(gt w.o k).L.contains x) (some (((Yq w.Q k).length:Int)==((gt w.o k).L.length:Int))) (fun n i=>nj K k (Yq w.Q k) n i w.C.L w.C.k w.C.l w.C.e w.C.m w.C.n w.Q.g w.Q.c w.Q.h w.o w.p w.q) (fun n i hi=> ?_) (fun n=> ?_)]
 ·rw[Yh];rfl
 ·simp only[nj];rw[P2 hi,cond_true,if_pos (K0 hk),if_pos (K0 hi),jv hK _ _ (by omega),Z0,Wd,K1 (by omega),Gz hi]
 ·show nj K k (Yq w.Q k) (n+1) _ _ _ _ _ _ _ _ _ _ _ _ _=_;simp_all[nj]
end
def Xq (c:Sv)(n:Fy):H3:=H3.mk ((n.w - 1)*c.k+n.x) (c.k - n.x) 0
def X2 (c:Sv)(mem:List Int)(n:Fy):Bool:=
 n.w==0||(Wa ((mem.drop (Xq c n).B.toNat).take (Xq c n).D.toNat)&&n.y.all (fun t=>Ws t (Xq c n)))
theorem Brc{c:Sv}{n:Fy}(h:Wr c n=true)(h1:n.c=1):Vt c=true/\ox c n=true:=by
 simp_all[Wr]
theorem Bb0{c:Sv}{n:Fy}(h:Wr c n=true)(h1:n.c≠1):gf n=true:=by
 simp_all[Wr]
theorem Brd{c:Sv}{n:Fy}(hw:Wt n)(h:Wr c n=true)(h1:n.w≠0):n.c=1/\1<=n.w/\n.w<=c.L/\0<=n.x/\n.x<=c.k:=by
 by_cases h2:n.c=1
 ·refine⟨h2,?_⟩;obtain⟨hc,hl⟩:=Brc h h2;have b0:=Gy hc;unfold ox at hl;simp only[Z4]at hl;have hd:=hl.2.2.1.1;have hcu:=hl.2.2.1.2;unfold Zl at hcu;rw[Wg h1,cond_false,Z4,List.contains_iff_mem,Vz]at hcu;obtain⟨i,hi,e⟩:=List.mem_iff_getElem.1 hcu.1;unfold Xo at hd;rw[Z1]at hd;have:=hd i (by grind);rw[Z4,Gz hi,e,Vz]at this;have h3:=this.1;obtain⟨w1,w2⟩:=hw.cur;unfold Ap Aly at h3;rw[IntKind.wrap_i64]at h3;omega
 ·have:=Bb0 h h2;simp_all[gf]
theorem Bb1{c:Sv}{p:Pc}{n:Fy}(hp:Xi c p=true)(hw:Wt n)(h:Wr c n=true)(h1:n.w≠0):
  A4 (F2 (Ap n.w 1) c.k) n.x=(Xq c n).B/\Ap c.k n.x=(Xq c n).D/\F2 n.w c.k=(Xq c n).B+(Xq c n).D/\cd (Xq c n)/\(Xq c n).B+(Xq c n).D<=(p.g.length:Int):=by
 obtain⟨h2,c1,c2,c3,c4⟩:=Brd hw h h1;obtain⟨hc,hm,_⟩:=Zk hp;obtain⟨b1,b2,_⟩:=Gy hc;have m1:=Zj (a:=n.w - 1) (b:=c.k) (m:=11) (n:=16) (by omega) (by omega) (by omega) b2.2;have e2:n.w*c.k=(n.w - 1)*c.k+c.k:=by grind
 have m2:n.w*c.k<=c.L*c.k:=Int.mul_le_mul_of_nonneg_right (by omega) (by omega);unfold Xq cd A4 Fp Ap Aly F2 Ci;simp only;rw[Xk (n:=n.w - 1) (by omega),Xk (n:=(n.w - 1)*c.k) (by omega),Xk (n:=(n.w - 1)*c.k+n.x) (by omega),Xk (n:=c.k - n.x) (by omega),Xk (n:=n.w*c.k) (by omega)];omega
theorem Bb2{c:Sv}{l:List H3}{ch:List Int}(h:l.all (W7 c ch)=true): ∀t∈l,cd t/\1<=t.D:=by
 intro t ht;rw[Z1]at h;have:=h t ht;unfold W7 at this;rw[Z4]at this;obtain⟨h1,h2⟩:=sr this.1;exact⟨h1,h2.2.1⟩
def gh (w:H4)(k:Nat):Bool:=
 Wr w.C (gt w.o k)&&(jy w.Q k (gt w.o k).L&&((gt w.o k).y.all (W7 w.C (gt w.o k).L)&&(Y3 (gt w.o k).y&&X2 w.C w.Q.g (gt w.o k))))
section
variable {K:Nat} (hK:281474976710656<=K)
include hK
theorem Yb{l:List Int}(h:Zv l):l.length<=140737488355327:=by have:=h.2;omega
theorem A2c{l:List H3}(h:A5x l):l.length<=140737488355327:=by have:=h.2;omega
theorem Bre (w:H4)(k:Nat)(hk:k<w.o.length)(hp:Xi w.C w.Q=true)(hw:Wt (gt w.o k))(hn:Wr w.C (gt w.o k)=true)(hs: ∀t∈(gt w.o k).y,cd t/\1<=t.D):Azs K w k=some (X2 w.C w.Q.g (gt w.o k)):=by
 unfold Azs;rw[if_pos (K0 hk)];unfold X2;by_cases h1:(gt w.o k).w=0
 ·grind
 ·rw[Wg h1,cond_false];obtain⟨e1,e2,e3,⟨s1,s2,s3,s4⟩,s5⟩:=Bb1 hp hw hn h1;rw[e1,e3];generalize hr:Xq w.C (gt w.o k)=r at *;rcases (show r.D=0\/1<=r.D by omega)with h2|h2
  ·rw[decide_eq_true (show r.B>=r.B+r.D by omega),cond_true,h2];simp_all[Ws,Wa]
  ·rw[decide_eq_false (show ¬r.B>=r.B+r.D by omega),cond_false];have hlt:=A2c hK hw.things;have hz:List.take (r.B+r.D - r.B).toNat (List.drop r.B.toNat w.Q.g)=List.take r.D.toNat (List.drop r.B.toNat w.Q.g):=by grind
   rw[Zd hK (gt w.o k).y (by omega) (fun t=>Ws t r) (some (Wa (List.take r.D.toNat (List.drop r.B.toNat w.Q.g)))) (fun m i=>jk K m r.B (r.B+r.D) i (gt w.o k).c (gt w.o k).a (gt w.o k).f (gt w.o k).s (gt w.o k).t (gt w.o k).i (gt w.o k).u (gt w.o k).v (gt w.o k).L (gt w.o k).w (gt w.o k).x (gt w.o k).y (gt w.o k).j w.C.L w.C.k w.C.l w.C.e w.C.m w.C.n w.Q.g w.Q.c w.Q.h w.o w.p w.q) (fun m i hi=> ?_) (fun m=> ?_)]
   ·grind
   ·simp only[jk,Azr];obtain⟨⟨t1,t2,t3,t4⟩,t5⟩:=hs _ (Xn hi);rw[P2 hi,cond_true,if_pos (K0 hi),K1 (by omega),<-Gz hi];generalize gt (gt w.o k).y i=t at *;unfold A4 Fp;rw[Xk (n:=t.B+t.D) (by omega)];unfold Ws
    grind
   ·show jk K (m+1) _ _ _ _ _ _ _ _ _ _ _ _ _ _ _ _ _ _ _ _ _ _ _ _ _ _ _ _=_;rw[jk,W2 (Z9 _),cond_false,if_pos ⟨s1,by omega,s5⟩,zl hK _ (by grind),hz,Z0]
theorem Brf (l:List Int)(h:Zv l):Aix K l=some (l.mergeSort fun x y=>decide (x<=y)):=by
 have:=h.2;unfold Aix
 grind
theorem Brg (w:H4)(hw:Wp w)(hp:Xi w.C w.Q=true):A1i K w=some ((List.range w.o.length).all (gh w)):=by
 unfold A1i;have hlL:=hw.l.2;rw[Yp hK w.o.length (by omega) (gh w) (some true) (fun m i=>jt K m w.o (w.o.length:Int) i w.C.L w.C.k w.C.l w.C.e w.C.m w.C.n w.Q.g w.Q.c w.Q.h w.o w.p w.q) (fun m k hk=> ?_) (fun m=> ?_)]
 ·grind
 ·simp only[jt,A1h];rw[show Sv.mk w.C.L w.C.k w.C.l w.C.e w.C.m w.C.n=w.C from rfl,show Pc.mk w.Q.g w.Q.c w.Q.h=w.Q from rfl];have hn:=hw.l.1 _ (Xn hk);unfold gh;generalize hN:gt w.o k=n at*;have l1:=Yb hK hn.chunks;have l2:=A2c hK hn.things;have l3:=Yb hK hn.tags;rw[P2 hk,cond_true,if_pos (K0 hk),cf K hn.chunks.2,Z0,Brf hK _ hn.chunks,Z0,if_pos (List.length_mergeSort _),Bqw hK _ _ l1 l2 l3,Z0,Bra hK _ _ hw.p.st.2,K1 (by omega)];simp only[Z0];rw[Bq9 hK _ _ (by simp_all),Bq7,Bq2 hK _ _ l1 l2];simp only[Z0];cases hb:Wr w.C n with
  |false=>rfl
  |true=>
  cases jy w.Q k n.L with
  |false=>rfl
  |true=>
  cases hi:n.y.all (W7 w.C n.L)with
  |false=>rfl
  |true=>
  have hs:=Bb2 hi;rw[Bq1 hK _ l2 (fun t ht=>(hs t ht).1)];simp only[Z0,cond_true,Wd,Z30];cases Y3 n.y with
  |false=>rfl
  |true=>
  simp only[cond_true,Z30];unfold X2;by_cases h1:n.w=0
  ·grind
  ·rw[Wg h1,cond_false,Z52];obtain⟨e1,e2,e3,s,s5⟩:=Bb1 hp hn hb h1;have hmk:H3.mk (Xq w.C n).B (Xq w.C n).D 0=Xq w.C n:=rfl;rw[e1,e2];simp only[hmk];generalize hr:Xq w.C n=r at *;obtain⟨s1,s2,s3,s4⟩:=s;have e4:A4 r.B r.D=r.B+r.D:=by grind [A4,Fp,Vr]
   have hC:A5g K n.y r=some (n.y.any (fun t=> !Ws t r)):=
    sq hK n.y (by omega) (fun t=>A1f K t r) (fun t=> !Ws t r) (fun x hx=>by
     unfold A1f;rw[Bbt K (hs _ hx).1 ⟨s1,s2,s3,s4⟩];rfl) (A1g K n.y r) (fun n N i=>rfl)
   rw[e4,if_pos ⟨s1,by omega,s5⟩,show r.B+r.D - r.B=r.D by omega,A2a hK _ (by grind),hC,List.any_eq_not_all_not]
   grind
 ·show jt K (m+1) _ _ _ _ _ _ _ _ _ _ _ _ _ _ _=_;simp_all[jt]
end
section
variable {K:Nat} (hK:281474976710656<=K)
theorem Ww{l:List Fy}(w:V0 l):l.length<=140737488355327:=by have:=w.2;omega
theorem jz (K:Nat){α:Type}{l:List α}(hl:l.length<=140737488355327)(k:Int):V5 K k 0 (Ap (l.length:Int) 1)=some (decide (0<=k/\k<(l.length:Int))):=by
 unfold V5 Ap Aly;rw[Xk (by omega)]
 grind
theorem Brh (K:Nat){α:Type}{l:List α}(hl:l.length<=140737488355327)(k:Int):Xc K k 0 (Ap (l.length:Int) 1)=some (decide (0<=k/\k<(l.length:Int))):=jz K hl k
theorem oz (K:Nat){l:List Fy}(hl:l.length<=140737488355327)(k:Int):aj K l k=some (decide (0<=k/\k<(l.length:Int))):=by
 grind [aj,Brh]
theorem ka (K:Nat)(l:List Fy)(k:Int):Yu K l k=some (decide (1<=k/\k<=(l.length:Int))):=by
 unfold Yu
 grind
def Yv (l:List Fy)(h:Lz):Int:=if(0<=h.d/\h.d<(l.length:Int))/\(gt l h.d).c=1/\(gt l h.d).a=h.a then h.d else -1
theorem Bb3 (K:Nat){l:List Fy}(hl:l.length<=140737488355327)(h:Lz):vj K l h=some (Yv l h):=by
 unfold vj Yv;rw[jz K hl]
 grind
theorem A51{l:List Fy}{h:Lz}(h0: ¬Yv l h<0):0<=Yv l h/\Yv l h<(l.length:Int):=by
 unfold Yv at *;omega
def Vy (l:List Fy):Nat->Int->List Int
 |0,_=>[]
 |n+1,k=>if 0<=k/\k<(l.length:Int)then k::Vy l n (Ap (gt l k).s 1)else []
theorem Bb4{l:List Fy}: ∀(n:Nat) (k:Int),∀x∈Vy l n k,0<=x/\x<(l.length:Int):=by
 intro n;induction n with
 |zero=>intro k x hx;cases hx
 |succ n ih=>
  intro k x hx;unfold Vy at hx
  grind
theorem Bb5{l:List Fy}: ∀(n:Nat) (k:Int),(Vy l n k).length<=n:=by
 intro n;induction n with
 |zero=>intro k;exact Z9 _
 |succ n ih=>
  intro k;unfold Vy
  grind
def A52 (l:List Fy):List Int->Prop
 |x::y::r=>Ap (gt l x).s 1=y/\A52 l (y::r)
 |_=>True
theorem Bri{l:List Fy}: ∀(n:Nat) (k:Int),A52 l (Vy l n k):=by
 intro n;induction n with
 |zero=>intro k;trivial
 |succ n ih=>
  intro k;unfold Vy;split
  ·have h1:=ih (Ap (gt l k).s 1);cases n with
   |zero=>trivial
   |succ n=>
    rw[Vy]at h1 ⊢;split at h1
    ·rename_i h2;rw[if_pos h2];exact⟨rfl,h1⟩
    ·rename_i h2;rw[if_neg h2];trivial
  ·trivial
theorem Brj{l:List Fy}(w:V0 l): ∀(n:Nat) (k:Int) (v:List Int),-9223372036854775808<=k/\k<=9223372036854775807->v.length<=l.length->l.length - v.length<n->ur K l n k v=some (v++Vy l (l.length - v.length) k):=by
 have hb:l.length*152<=140737488355327:=w.2;intro n;induction n with
 |zero=>omega
 |succ n ih=>
  intro k v hk hv hn;rw[ur,ka];simp only[Z0];have e:decide (1<=A4 k 1/\A4 k 1<=(l.length:Int))=decide (0<=k/\k<(l.length:Int)):=by
   rw[decide_eq_decide]
   grind [A4,Fp,IntKind.wrap_i64]
  rw[e];by_cases hs:0<=k/\k<(l.length:Int)
  ·rw[decide_eq_true hs];simp only[cond_true];rcases Bj v.length l.length with h|h
   ·rw[P2 h];simp only[cond_true];have hl2:(v++[k]).length=v.length+1:=by simp
    rw[if_pos ⟨by omega,by grind [maxLen]⟩,if_pos hs,ih (Ap (gt l k).s 1) _ (Bbj _) (by omega) (by omega),hl2];obtain⟨m,hm⟩: ∃m,l.length - v.length=m+1:=⟨l.length - v.length - 1,by omega⟩;rw[hm,Vy,if_pos hs,show l.length - (v.length+1)=m from by omega];simp
   ·rw[W2 h];rw[show l.length - v.length=0 from by omega];simp[Vy]
  ·rw[decide_eq_false hs];have:Vy l (l.length - v.length) k=[]:=by
    cases l.length - v.length with
    |zero=>rfl
    |succ m=>rw[Vy,if_neg hs]
   grind
theorem Brk{l:List Fy}(w:V0 l): ∀(n:Nat) (k:Int) (v:List Int),v.length<=l.length->l.length - v.length<n->yv K l n k v=some (v++Vy l (l.length - v.length) k):=by
 have hb:l.length*152<=140737488355327:=w.2;intro n;induction n with
 |zero=>omega
 |succ n ih=>
  intro k v hv hn;rw[yv,oz K (by omega)];simp only[Z0];by_cases hs:0<=k/\k<(l.length:Int)
  ·rw[decide_eq_true hs];simp only[cond_true];rcases Bj v.length l.length with h|h
   ·rw[P2 h];simp only[cond_true];have hl2:(v++[k]).length=v.length+1:=by simp
    rw[if_pos ⟨by omega,by grind [maxLen]⟩,if_pos hs,ih _ _ (by omega) (by omega),hl2];obtain⟨m,hm⟩: ∃m,l.length - v.length=m+1:=⟨l.length - v.length - 1,by omega⟩;rw[hm,Vy,if_pos hs,show l.length - (v.length+1)=m from by omega];simp
   ·rw[W2 h];rw[show l.length - v.length=0 from by omega];simp[Vy]
  ·rw[decide_eq_false hs];have:Vy l (l.length - v.length) k=[]:=by
    cases l.length - v.length with
    |zero=>rfl
    |succ m=>rw[Vy,if_neg hs]
   grind
include hK in
theorem A2d{l:List Fy}(w:V0 l)(k:Int)(hk: -9223372036854775808<=k/\k<=9223372036854775807):qd K l k=some (Vy l l.length k):=by
 have hb:=Ww w;unfold qd;have:=Brj (K:=K) w K k [] hk (Hc _) (by omega)
 grind
include hK in
theorem Brl{l:List Fy}(w:V0 l)(k:Int):A1l K l k=some (Vy l l.length k):=by
 have hb:=Ww w;unfold A1l;have:=Brk (K:=K) w K k [] (Hc _) (by omega)
 grind
def Zm (l:List Fy):List Int->Bool
 |[]=>true
 |[x]=>(gt l x).c==1
 |x::y::r=>((gt l x).c==1)&&((gt l x).t==(gt l y).f)&&Zm l (y::r)
def kb (l:List Fy)(way:List Int):Bool:=if 0<way.length then(gt l (gt way ((way.length - 1:Nat):Int))).s==0 else false
theorem Brm{l:List Fy}{way:List Int}(hin: ∀x∈way,0<=x/\x<(l.length:Int))(hlen:way.length<=140737488355327):
  (bif (decide ((way.length:Int)>0))then(if(0:Int)<=(Ap (way.length:Int) 1)/\(Ap (way.length:Int) 1)<(way.length:Int)then(if(0:Int)<=(gt way (Ap (way.length:Int) 1))/\(gt way (Ap (way.length:Int) 1))<(l.length:Int)then some (((gt l (gt way (Ap (way.length:Int) 1))).s)==0)else none)else none)else some false)=some (kb l way):=by
 unfold kb;rcases Cz way.length with h|h
 ·grind
 ·rw[if_pos h,decide_eq_true (by omega)];simp only[cond_true];have e:Ap (way.length:Int) 1=((way.length - 1:Nat):Int):=by grind [Ap,Aly,Vr]
  rw[e,if_pos (by omega),if_pos (hin _ (Xn (by omega)))]
theorem ss{way:List Int}{i:Nat}(h:i<way.length):way.drop i=way[i]::way.drop (i+1):=by
 simp_all
theorem Brn{l:List Fy}(w:V0 l){x y:Int}(hx:0<=x/\x<(l.length:Int))(hy:0<=y/\y<(l.length:Int))(h:Ap (gt l x).s 1=y):ez K l x=some (((gt l y).c==1)&&((gt l y).f==(gt l x).t)):=by
 have hl:=Ww w;unfold ez;rw[if_pos hx,ka];simp only[Z0];obtain⟨hr1,hr2⟩:=(w.1 _ (Wq hx.1 hx.2)).up;have hp:1<=(gt l x).s/\(gt l x).s<=(l.length:Int):=by
  grind [Ap,Aly,IntKind.wrap_i64]
 grind
theorem Bro{l:List Fy}{y:Int}{r:List Int}(h:(gt l y).c≠1):Zm l (y::r)=false:=by
 cases r with
 |nil=>simp[Zm,h]
 |cons z r=>simp[Zm,h]
theorem Brp{l:List Fy}(w:V0 l){way:List Int}(hin: ∀x∈way,0<=x/\x<(l.length:Int))(hlen:way.length<=140737488355327): ∀(n i:Nat),A52 l (way.drop i)->i<=way.length->way.length - i<n->qe K l way n (i:Int)=some (Zm l (way.drop i)&&kb l way):=by
 intro n;induction n with
 |zero=>omega
 |succ n ih=>
  intro i hch hi hn;rw[qe];unfold Ak7;rcases Bj i way.length with h|h
  ·rw[P2 h];simp only[cond_true];rw[ss h]at hch;rw[if_pos (by omega),if_pos (hin _ (Xn h)),ss h,K1 (by omega),<-Gz h];rcases Bj (i+1) way.length with h2|h2
   ·rw[ss h2]at hch;have hc1:=hch.1;rw[<-Gz h,<-Gz h2]at hc1;rw[P2 h2,ss h2,<-Gz h2];simp only[cond_true];rw[if_pos (by omega),Brn w (hin _ (Xn h)) (hin _ (Xn h2)) hc1,ih (i+1) (by rw[ss h2];exact hch.2) h (by omega),ss h2,<-Gz h2,Zm];generalize gt way ((i+1:Nat):Int)=y;generalize gt way (i:Int)=x;by_cases c1:(gt l x).c=1
    ·by_cases c3:(gt l y).c=1
     ·by_cases c2:(gt l x).t=(gt l y).f
      all_goals grind
     simp_all[Bro]
    grind
   ·rw[W2 h2,ih (i+1) (by rw[Z48 h2];trivial) h (by omega),show way.drop (i+1)=[] from Z48 h2];simp only[cond_false,Zm];by_cases c1:(gt l (gt way (i:Int))).c=1
    all_goals grind
  ·rw[W2 h,show way.drop i=[] from Z48 h];simp only[cond_false,Zm,Z30];exact Brm hin hlen
def dl (l:List Fy)(k:Int):Bool:=Zm l (Vy l l.length k)&&kb l (Vy l l.length k)
include hK in
theorem A53{l:List Fy}(w:V0 l)(k:Int)(hk: -9223372036854775808<=k/\k<=9223372036854775807):qf K l k=some (dl l k):=by
 have hb:=Ww w;have hr:=Bb5 (l:=l) l.length k;unfold qf;rw[A2d hK w k hk];exact Brp w (Bb4 _ _) (by omega) K 0 (Bri _ _) (Hc _) (by omega)
def pa (h:Lz):Bool:=bif decide (h.d>=0)then decide (h.a>=1)else false
theorem Bb6 (K:Nat)(h:Lz):vi K h=some (pa h):=by
 unfold vi pa;grind
def Xp (l:List Fy)(h:Lz):Int×Int:=bif pa h then(bif decide (Yv l h<0)then(-1,2)else(bif dl l (Yv l h)then(Yv l h,0)else(-1,2)))else(-1,1)
include hK in
theorem su{w:H4}(hw:V0 w.o)(h:Lz):fc K w h=some (Xp w.o h):=by
 have hb:=Ww hw;unfold fc Xp;rw[Bb6,Bb3 K hb];simp only[Z0];cases pa h with
 |false=>rfl
 |true=>
  simp only[cond_true];cases e:decide (Yv w.o h<0)with
  |true=>rfl
  |false=>
   have h1:=A51 (of_decide_eq_false e);simp only[cond_false];rw[A53 hK hw _ ⟨by omega,by omega⟩]
   grind
theorem Brq{l:List Fy}{h:Lz}(h0:(Xp l h).2=0):0<=(Xp l h).1/\(Xp l h).1<(l.length:Int):=by
 unfold Xp at *;cases e1:pa h with
 |false=>grind
 |true=>
  rw[e1]at h0;simp only[cond_true]at *;cases e:decide (Yv l h<0)with
  |true=>grind
  |false=>
   rw[e]at h0;simp only[cond_false]at*
   grind [A51,of_decide_eq_false]
end
def Wm (l:List Fy)(n:Int):Bool:=decide (0<=Ap n 1/\Ap n 1<(l.length:Int))
theorem ap{l:List Fy}{n:Int}(h:Wm l n=true):0<=Ap n 1/\Ap n 1<(l.length:Int):=of_decide_eq_true h
theorem A54 (K:Nat){l:List Fy}(hl:l.length<=140737488355327)(n:Int):aj K l (Ap n 1)=some (Wm l n):=oz K hl _
theorem ke (K:Nat){l:List Fy}(hl:l.length<=140737488355327){n:Int}(hn:wfi n):Yu K l n=some (Wm l n):=by
 rw[ka];unfold Wm;obtain⟨h1,h2⟩:=hn;congr 1;rw[decide_eq_decide]
 grind [Ap,Aly,IntKind.wrap_i64]
def Zn (l:List Fy)(k:Int):Bool:=Wm l (gt l k).s&&((gt l (Ap (gt l k).s 1)).c==1&&(gt l (Ap (gt l k).s 1)).f==(gt l k).t)
theorem A55 (K:Nat){l:List Fy}(w:V0 l){k:Int}(h:0<=k/\k<(l.length:Int)):ez K l k=some (Zn l k):=by
 unfold ez Zn;rw[if_pos h,ke K (Ww w) (w.1 _ (Wq h.1 h.2)).up,Z0,if_pos h];cases hp:Wm l (gt l k).s with
 |false=>rfl
 |true=>
  have:=ap hp
  grind
theorem A56 (K:Nat){l:List Fy}(w:V0 l){k:Int}(h:0<=k/\k<(l.length:Int)):sk K l k=some (Zn l k):=by
 unfold sk Zn;rw[if_pos h,A54 K (Ww w),Z0,if_pos h];cases hp:Wm l (gt l k).s with
 |false=>rfl
 |true=>
  have:=ap hp
  grind
def Xa (l:List Fy)(n:Int):Bool:=n==0||(Wm l n&&(gt l (Ap n 1)).c==1)
theorem sv{l:List Fy}{n:Int}(h:Xa l n=true)(h0:n≠0):0<=Ap n 1/\Ap n 1<(l.length:Int):=by
 unfold Xa at h;rw[Wg h0,Z52,Z4]at h;exact ap h.1
theorem A57 (K:Nat){l:List Fy}(w:V0 l){n:Int}(hn:wfi n):fm K l n=some (Xa l n):=by
 unfold fm Xa;rw[ke K (Ww w) hn,Z0];cases n==0 with
 |true=>rfl
 |false=>
  cases hp:Wm l n with
  |false=>rfl
  |true=>rw[if_pos (ap hp)];rfl
theorem A58 (K:Nat){l:List Fy}(w:V0 l)(n:Int):sj K l n=some (Xa l n):=by
 unfold sj Xa;rw[A54 K (Ww w),Z0];cases n==0 with
 |true=>rfl
 |false=>
  cases hp:Wm l n with
  |false=>rfl
  |true=>rw[if_pos (ap hp)];rfl
def kg (r:List Int):Int:=gt r ((r.length - 1:Nat):Int)
def Zw (l:List Fy)(k:Int):Bool:=decide (((Vy l l.length k).length:Int)<=4)&& !Zn l (kg (Vy l l.length k))
def aq (l:List Fy)(k:Int):Bool:= !((gt l k).v==0&&Zn l k)||(gt l (Ap (gt l k).s 1)).i==A4 k 1
def dm (l:List Fy)(k:Int):Bool:=(gt l k).v==0||(gt l (Ap (gt l k).v 1)).u==A4 k 1
def kh (l:List Fy)(k:Int):Bool:=(gt l k).u==0||((gt l (Ap (gt l k).u 1)).v==A4 k 1&&((gt l (Ap (gt l k).u 1)).s==(gt l k).s&&(gt l (Ap (gt l k).u 1)).t==(gt l k).t))
def sw (l:List Fy)(k:Int):Bool:=(gt l k).i==0||((gt l (Ap (gt l k).i 1)).v==0&&((gt l (Ap (gt l k).i 1)).s==A4 k 1&&(gt l (Ap (gt l k).i 1)).t==(gt l k).f))
def A2e (l:List Fy)(k:Int):Bool:=Xa l (gt l k).i&&(Xa l (gt l k).u&&(Xa l (gt l k).v&&((gt l k).s==0||Wm l (gt l k).s)))
def dn (l:List Fy)(k:Int):Bool:=A2e l k&&(sw l k&&(kh l k&&(dm l k&&aq l k)))
def pb (l:List Fy):Bool:=(List.range l.length).all (fun k=>(gt l (k:Int)).c != 1||(dn l k&&Zw l k))
theorem A59{l:List Fy}{k:Int}(h:0<=k/\k<(l.length:Int)):0<(Vy l l.length k).length:=by
 obtain⟨m,hm⟩: ∃m,l.length=m+1:=⟨l.length - 1,by omega⟩;simp_all[Vy.eq_2]
theorem A6a{l:List Fy}{k:Int}(h:0<=k/\k<(l.length:Int)):0<=kg (Vy l l.length k)/\kg (Vy l l.length k)<(l.length:Int):=by
 have:=A59 h;exact Bb4 _ _ _ (Xn (by omega))
theorem Bb7{l:List Fy}(w:V0 l){k:Int}(h:0<=k/\k<(l.length:Int)):Ap ((Vy l l.length k).length:Int) 1=(((Vy l l.length k).length - 1:Nat):Int)/\(0:Int)<=(((Vy l l.length k).length - 1:Nat):Int)/\(((Vy l l.length k).length - 1:Nat):Int)<((Vy l l.length k).length:Int):=by
 grind [A59,Bb5,Ww,Ap,Aly,Vr]
section
variable {K:Nat} (hK:281474976710656<=K)
include hK
theorem Brr{l:List Fy}(w:V0 l){k:Int}(h:0<=k/\k<(l.length:Int)):ro K l k=some (Zw l k):=by
 have h3:=Ww w;obtain⟨e1,e2,e3⟩:=Bb7 w h;unfold ro;rw[A2d hK w k ⟨by omega,by omega⟩,Z0,e1,if_pos ⟨e2,e3⟩];have:=A55 K w (A6a h);unfold kg at this;rw[this,Z0,Yh];rfl
theorem Brs{l:List Fy}(w:V0 l){k:Int}(h:0<=k/\k<(l.length:Int)):wy K l k (gt l k).s (gt l k).v=some (aq l k&&Zw l k):=by
 unfold wy aq;rw[A55 K w h,Brr hK w h,Z0];cases (gt l k).v==0 with
 |false=>rfl
 |true=>
  cases hc:Zn l k with
  |false=>rfl
  |true=>
   have:Wm l (gt l k).s=true:=by simp_all[Zn]
   rw[cond_true,cond_true,if_pos (ap this),bne,Wd]
   grind
theorem Brt{l:List Fy}(w:V0 l){k:Int}(h:0<=k/\k<(l.length:Int))(hp:Xa l (gt l k).v=true):wz K l k (gt l k).s (gt l k).v=some (dm l k&&(aq l k&&Zw l k)):=by
 unfold wz dm;rw[Brs hK w h];by_cases h0:(gt l k).v=0
 ·grind
 ·rw[Yg h0,Wg h0,cond_true,if_pos (sv hp h0),bne,Wd]
  grind
theorem Bru{l:List Fy}(w:V0 l){k:Int}(h:0<=k/\k<(l.length:Int))(hp:Xa l (gt l k).v=true)(hn:Xa l (gt l k).u=true):xa K l k (gt l k).s (gt l k).t (gt l k).u (gt l k).v=some (kh l k&&(dm l k&&(aq l k&&Zw l k))):=by
 unfold xa kh;rw[Brt hK w h hp];by_cases h0:(gt l k).u=0
 ·grind
 ·have hi:=sv hn h0
  grind
theorem Brv{l:List Fy}(w:V0 l){k:Int}(h:0<=k/\k<(l.length:Int))(hf:Xa l (gt l k).i=true)(hp:Xa l (gt l k).v=true)(hn:Xa l (gt l k).u=true):xb K l k (gt l k).c (gt l k).a (gt l k).f (gt l k).s (gt l k).t (gt l k).i (gt l k).u (gt l k).v (gt l k).L (gt l k).w (gt l k).x (gt l k).y (gt l k).j=some (sw l k&&(kh l k&&(dm l k&&(aq l k&&Zw l k)))):=by
 unfold xb sw;rw[Bru hK w h hp hn];by_cases h0:(gt l k).i=0
 ·grind
 ·have hi:=sv hf h0
  grind
theorem Brw{l:List Fy}(w:V0 l){k:Int}(h:0<=k/\k<(l.length:Int)):Ay9 K l k=some (dn l k&&Zw l k):=by
 have hn:=w.1 _ (Wq h.1 h.2);unfold Ay9 dn A2e;rw[if_pos h,ke K (Ww w) hn.up,A57 K w hn.first,A57 K w hn.next,A57 K w hn.prev];simp only[Z0,Wd];cases hf:Xa l (gt l k).i with
 |false=>grind
 |true=>
 cases hx:Xa l (gt l k).u with
 |false=>grind
 |true=>
 cases hp:Xa l (gt l k).v with
 |false=>grind
 |true=>
 rw[Brv hK w h hf hp hx];simp only[bne];cases (gt l k).s==0<;>cases Wm l (gt l k).s<;>simp only[Bool.not_true,Bool.not_false,cond_true,cond_false,Z30,Bool.false_and,Bool.true_or,Z52,Bool.and_assoc]
theorem Brx{l:List Fy}(w:V0 l):Azb K l=some (pb l):=by
 have hl:=Ww w;unfold Azb pb;rw[Yp hK l.length (by omega) (fun k=>(gt l (k:Int)).c != 1||(dn l k&&Zw l k)) (some true) (fun n i=>jf K l n i) (fun n i h=> ?_) (fun n=> ?_)]
 ·grind
 ·simp only[jf,Aza];rw[P2 h,cond_true,if_pos (K0 h),Brw hK w (K0 h),K1 (by omega),Z0,Wd,bne]
  grind
 ·show jf K l (n+1) _=_;simp_all[jf]
theorem Bry{l:List Fy}(w:V0 l){k:Int}(h:0<=k/\k<(l.length:Int)):yp K l k (gt l k).s (gt l k).v=some (aq l k):=by
 unfold yp aq;rw[A56 K w h,Z0,bne];cases (gt l k).v==0 with
 |false=>rfl
 |true=>
  cases hc:Zn l k with
  |false=>rfl
  |true=>
   simp_all[Wm,Zn]
theorem Brz{l:List Fy}(w:V0 l){k:Int}(h:0<=k/\k<(l.length:Int))(hp:Xa l (gt l k).v=true):yq K l k (gt l k).s (gt l k).v=some (dm l k&&aq l k):=by
 unfold yq dm;rw[Bry hK w h];by_cases h0:(gt l k).v=0
 ·grind
 ·rw[Yg h0,Wg h0,cond_true,if_pos (sv hp h0),bne,Wd]
  grind
theorem Br0{l:List Fy}(w:V0 l){k:Int}(h:0<=k/\k<(l.length:Int))(hp:Xa l (gt l k).v=true)(hn:Xa l (gt l k).u=true):yr K l k (gt l k).s (gt l k).t (gt l k).u (gt l k).v=some (kh l k&&(dm l k&&aq l k)):=by
 unfold yr kh;rw[Brz hK w h hp];by_cases h0:(gt l k).u=0
 ·grind
 ·have hi:=sv hn h0
  grind
theorem Br1{l:List Fy}(w:V0 l){k:Int}(h:0<=k/\k<(l.length:Int))(hf:Xa l (gt l k).i=true)(hp:Xa l (gt l k).v=true)(hn:Xa l (gt l k).u=true):yt K l k (gt l k).c (gt l k).a (gt l k).f (gt l k).s (gt l k).t (gt l k).i (gt l k).u (gt l k).v (gt l k).L (gt l k).w (gt l k).x (gt l k).y (gt l k).j=some (sw l k&&(kh l k&&(dm l k&&aq l k))):=by
 unfold yt sw;rw[Br0 hK w h hp hn];by_cases h0:(gt l k).i=0
 ·grind
 ·have hi:=sv hf h0
  grind
theorem Br2{l:List Fy}(w:V0 l){k:Int}(h:0<=k/\k<(l.length:Int)):A1k K l k=some (dn l k):=by
 unfold A1k dn A2e;rw[if_pos h,A54 K (Ww w),A58 K w,A58 K w,A58 K w];simp only[Z0,Wd];cases hf:Xa l (gt l k).i with
 |false=>rfl
 |true=>
 cases hx:Xa l (gt l k).u with
 |false=>rfl
 |true=>
 cases hp:Xa l (gt l k).v with
 |false=>rfl
 |true=>
 rw[Br1 hK w h hf hp hx]
 grind
theorem Br3{l:List Fy}(w:V0 l):A1n K l=some (pb l):=by
 have hl:=Ww w;unfold A1n pb;rw[Yp hK l.length (by omega) (fun k=>(gt l (k:Int)).c != 1||(dn l k&&Zw l k)) (some true) (fun n i=>ju K l n l (l.length:Int) i) (fun n i h=> ?_) (fun n=> ?_)]
 ·grind
 ·have hc:=K0 h;obtain⟨e1,e2,e3⟩:=Bb7 w hc;have e4:=A56 K w (A6a hc);unfold kg at e4;have e5:decide (((Vy l l.length i).length:Int)>4)= !decide (((Vy l l.length i).length:Int)<=4):=by grind
  simp only[ju,A1m];rw[P2 h,cond_true,if_pos hc,Br2 hK w hc,K1 (by omega),Z0,Brl hK w,Z0,e1,if_pos ⟨e2,e3⟩,e4,Z0,e5];unfold Zw kg
  grind
 ·show ju K l (n+1) _ _ _=_;simp_all[ju]
end
theorem zn{c:Sv}(hc:Vt c=true):Ap c.k 1=c.k - 1:=by
 have b0:=Gy hc
 grind [Ap,Aly,Vr]
def Xv (c:Sv)(x:G9):Bool:=
 Vt c&&(Qi x.d 0 c.l&&(Qi x.i 0 c.l&&(decide ((x.j.length:Int)<=6)&&(x.j.all (fun y=>Qi y 0 255)&&(Xo c x.L&&(Qi x.z 0 (c.k - 1)&&(decide ((x.L.length:Int)>0)||x.z==0)))))))
section
variable {K:Nat} (hK:281474976710656<=K)
include hK
theorem Br4 (c:Sv)(x:G9)(hw:dk x):Azk K c x=some (Xv c x):=by
 have h1:=Yb hK hw.tags;have h2:=Yb hK hw.chunks;unfold Azk Azj;rw[dj];simp only[Z0,Xh];cases hc:Vt c with
 |false=>simp[Xv,hc]
 |true=>
 have hA:jj K c x.L K 0=some (Xo c x.L):=by
  rw[Yp hK x.L.length (by omega) (fun i=>Qi (gt x.L i) 0 (c.L - 1)&& !(x.L.take i).contains (gt x.L i)) (some true) (fun k i=>jj K c x.L k i) (fun k i h=> ?_) (fun k=> ?_)]
  ·unfold Xo;grind
  ·have hp:(x.L.take i).length<=140737488355328:=by grind
   simp only[jj];rw[P2 h,cond_true,if_pos (K0 h),Xh,if_pos (zm (by omega)),ow,jv hK _ _ hp,K1 (by omega),gg hK hc]
   grind
  ·show jj K c x.L (k+1) _=_;simp_all[jj]
 have hB:ng K c x.j x.L K 0=some (x.j.all (fun y=>Qi y 0 255)&&Xo c x.L):=by
  rw[Zd hK x.j (by omega) (fun y=>Qi y 0 255) (some (Xo c x.L)) (ng K c x.j x.L) (fun k i h=> ?_) (fun k=> ?_)]
  ·grind
  ·rw[ng,P2 h,cond_true,if_pos (K0 h),Gz h,Xh,K1 (by omega),Z0,Wd]
  simp_all[ng]
 rw[hB,zn hc];have e6:decide ((x.j.length:Int)>6)= !decide ((x.j.length:Int)<=6):=by grind
 have e0:decide ((x.L.length:Int)>0)= !((x.L.length:Int)==0):=by
  grind
 unfold Xv
 grind
theorem Br5 (c:Sv)(x:G9)(hw:dk x):A1p K c x=some (Xv c x):=by
 have h1:=Yb hK hw.tags;have h2:=Yb hK hw.chunks;unfold A1p;rw[A5s];simp only[Z0,ak];cases hc:Vt c with
 |false=>simp[Xv,hc]
 |true=>
 rw[A5w hK _ (by omega),Bbr hK hc _ h2,zn hc];simp_all[Xv,ca,Yh]
end
theorem gk{c:Sv}{x:G9}(h:Xv c x=true):Vt c=true/\(0<=x.d/\x.d<=c.l)/\(0<=x.i/\x.i<=c.l)/\Xo c x.L=true/\(0<=x.z/\x.z<=c.k - 1):=by
 unfold Xv at h;simp only[Z4,Vz]at h
 grind
theorem au{c:Sv}{l:List Int}(h:Xo c l=true): ∀x∈l,0<=x/\x<c.L:=by
 intro x hx;obtain⟨i,hi,e⟩:=List.mem_iff_getElem.1 hx;unfold Xo at h;rw[Z1]at h;have:=h i (by grind);rw[Z4,Gz hi,e,Vz]at this;omega
theorem A6b{l:List Int}:l.Nodup ↔ ∀i,(h:i<l.length)->l[i] ∉ l.take i:=by
 unfold List.Nodup;rw[List.pairwise_iff_getElem];constructor
 ·intro h i hi hm;obtain⟨j,hj,e⟩:=List.mem_iff_getElem.1 hm
  grind
 ·intro h i j hi hj hij e;exact h j hj (List.mem_iff_getElem.2 ⟨i,by grind,by grind⟩)
theorem pc{c:Sv}{l:List Int}(h:Xo c l=true):l.Nodup:=by
 rw[A6b];intro i hi hm;unfold Xo at h;rw[Z1]at h;have:=h i (by grind);rw[Z4,Gz hi,Gg,List.contains_eq_mem]at this
 grind
theorem gm{l:List Int}: ∀ {o:List Int},o.Nodup->(∀x∈o,x∈l)->o.length<=l.length:=by
 intro o;induction o generalizing l with
 |nil=>grind
 |cons x o ih=>
  intro hn hs;have hx:x∈l:=hs x (by simp);rw[List.nodup_cons]at hn;have h2:=ih (l:=l.erase x) hn.2 (fun y hy=>by
   grind)
  grind
theorem Y4{c:Sv}(hc:Vt c=true){l:List Int}(h:Xo c l=true):l.length<=12:=by
 have b0:=Gy hc;have:=gm (l:=(List.range 12).map (fun i:Nat=>(i:Int))) (pc h) (fun x hx=>by
  have:=au h x hx;rw[A8];exact⟨x.toNat,by grind,by omega⟩)
 grind
def Yr (l:List Fy):Nat->Int->List Int
 |0,_=>[]
 |n+1,k=>if 0<=k/\k<(l.length:Int)then k::Yr l n (Ap (gt l k).u 1)else []
theorem pd{l:List Fy}: ∀(n:Nat) (k:Int),∀x∈Yr l n k,0<=x/\x<(l.length:Int):=by
 intro n;induction n with
 |zero=>intro k x hx;cases hx
 |succ n ih=>
  intro k x hx;unfold Yr at hx
  grind
theorem sx{l:List Fy}: ∀(n:Nat) (k:Int),(Yr l n k).length<=n:=by
 intro n;induction n with
 |zero=>intro k;exact Z9 _
 |succ n ih=>
  intro k;unfold Yr
  grind
def Gx (l:List Fy)(first:Int):List Int:=Yr l l.length (Ap first 1)
def Ys (l:List Fy)(k:Int):Bool:=(gt l k).c==1&&((gt l k).s != 0&& !Zn l k)
theorem Bb8 (K:Nat){l:List Fy}(w:V0 l){k:Int}(h:0<=k/\k<(l.length:Int)):xc K l k=some (Ys l k):=by
 simp_all[xc,Ys,A55,Yh]
theorem Bb9 (K:Nat){l:List Fy}(w:V0 l){k:Int}(h:0<=k/\k<(l.length:Int)):sl K l k=some (Ys l k):=by
 simp_all[sl,Ys,A56,Yh]
section
variable {K:Nat} (hK:281474976710656<=K)
theorem Br6{l:List Fy}(w:V0 l): ∀(n:Nat) (k:Int) (v:List Int),wfi k->v.length<=l.length->l.length - v.length<n->xd K l n k v=some (v++Yr l (l.length - v.length) (Ap k 1)):=by
 have hm:=V2;have hb:l.length*152<=140737488355327:=w.2;intro n;induction n with
 |zero=>omega
 |succ n ih=>
  intro k v hk hv hn;rw[xd,ke K (Ww w) hk];simp only[Z0];by_cases hs:0<=Ap k 1/\Ap k 1<(l.length:Int)
  ·rw[show Wm l k=true from decide_eq_true hs];simp only[cond_true];rcases Bj v.length l.length with h|h
   ·rw[P2 h];simp only[cond_true];have hl2:(v++[Ap k 1]).length=v.length+1:=by simp
    rw[if_pos (by omega),if_pos hs,ih (gt l (Ap k 1)).u _ (w.1 _ (Wq hs.1 hs.2)).next (by omega) (by omega),hl2];obtain⟨m,hm⟩: ∃m,l.length - v.length=m+1:=⟨l.length - v.length - 1,by omega⟩;rw[hm,Yr,if_pos hs,show l.length - (v.length+1)=m from by omega];simp
   ·rw[W2 h];rw[show l.length - v.length=0 from by omega];simp[Yr]
  ·rw[show Wm l k=false from decide_eq_false hs];have:Yr l (l.length - v.length) (Ap k 1)=[]:=by
    cases l.length - v.length with
    |zero=>rfl
    |succ m=>rw[Yr,if_neg hs]
   grind
theorem Br7{l:List Fy}(w:V0 l): ∀(n:Nat) (k:Int) (v:List Int),v.length<=l.length->l.length - v.length<n->ye K l n v k=some (v++Yr l (l.length - v.length) k):=by
 have hm:=V2;have hb:l.length*152<=140737488355327:=w.2;intro n;induction n with
 |zero=>omega
 |succ n ih=>
  intro k v hv hn;rw[ye,oz K (by omega)];simp only[Z0];by_cases hs:0<=k/\k<(l.length:Int)
  ·rw[decide_eq_true hs];simp only[cond_true];rcases Bj v.length l.length with h|h
   ·rw[P2 h];simp only[cond_true];have hl2:(v++[k]).length=v.length+1:=by simp
    rw[if_pos (by omega),if_pos hs,ih _ _ (by omega) (by omega),hl2];obtain⟨m,hm⟩: ∃m,l.length - v.length=m+1:=⟨l.length - v.length - 1,by omega⟩;rw[hm,Yr,if_pos hs,show l.length - (v.length+1)=m from by omega];simp
   ·rw[W2 h];rw[show l.length - v.length=0 from by omega];simp[Yr]
  ·rw[decide_eq_false hs];have:Yr l (l.length - v.length) k=[]:=by
    cases l.length - v.length with
    |zero=>rfl
    |succ m=>rw[Yr,if_neg hs]
   grind
include hK
theorem A2f{l:List Fy}(w:V0 l){k:Int}(hk:wfi k):na K l k=some (Gx l k):=by
 have hb:=Ww w;unfold na Gx;have:=Br6 (K:=K) w K k [] hk (Hc _) (by omega)
 grind
theorem A6c{l:List Fy}(w:V0 l)(k:Int):rt K l k=some (Gx l k):=by
 have hb:=Ww w;unfold rt Gx;have:=Br7 (K:=K) w K (Ap k 1) [] (Hc _) (by omega)
 grind
def Yc (w:H4)(x:G9):Bool:= !decide ((x.L.length:Int)>0)||Wa ((w.Q.g.drop (gt x.L 0*w.C.k).toNat).take x.z.toNat)
def dp (w:H4)(x:G9):Bool:=x.d==0||(gt w.o (Ap x.d 1)).c==2
def gp (w:H4)(x:G9):Bool:=x.i==0||(gt w.o (Ap x.i 1)).v==0
def pe (w:H4)(x:G9):Bool:=x.L.all (fun k=>gt w.Q.c k==2)
def Y5 (w:H4)(x:G9):Bool:=(Gx w.o x.i).all (Ys w.o)
def X3 (w:H4)(x:G9):Bool:=Xv w.C x&&(pe w x&&(Yc w x&&(dp w x&&(gp w x&&Y5 w x))))
theorem zo{w:H4}(hL:(w.o.length:Int)=w.C.l)(hc:Vt w.C=true){n:Int}(h0:n≠0)(h1:0<=n)(h2:n<=w.C.l):0<=Ap n 1/\Ap n 1<(w.o.length:Int):=by
 have b0:=Gy hc
 grind [Ap,Aly,Vr]
theorem Br8 (w:H4)(hw:Wp w)(hp:Xi w.C w.Q=true)(hL:(w.o.length:Int)=w.C.l)(i:Nat)(hi:i<w.p.length):Azm K w i=some (X3 w (gt w.p i)):=by
 have hx:=hw.q.1 _ (Xn hi);unfold Azm;rw[if_pos (K0 hi)];generalize gt w.p i=x at *;rw[Br4 hK _ _ hx,Z0,Wd];unfold X3;cases hr:Xv w.C x with
 |false=>rfl
 |true=>
 rw[cond_true,Z30];obtain⟨hc,⟨s1,s2⟩,⟨f1,f2⟩,hd,d1,d2⟩:=gk hr;obtain⟨_,hm,hst,_⟩:=Zk hp;obtain⟨b1,b2,b3,_⟩:=Gy hc;have hch:=au hd;have hl:=Yb hK hx.chunks;have h3:nh K x.i w.o=some (Y5 w x):=by
  unfold nh Y5;have hk:=sx (l:=w.o) w.o.length (Ap x.i 1);have hin:=pd (l:=w.o) w.o.length (Ap x.i 1);rw[A2f hK hw.l hx.first,Z0];change (Gx w.o x.i).length<=_ at hk;change ∀y∈Gx w.o x.i,_ at hin;generalize Gx w.o x.i=r at *;rw[Zd hK r (by omega) (Ys w.o) (some true) (rr K w.o r) (fun n i h=> ?_) (fun n=> ?_)]
  ·grind
  ·rw[rr,P2 h,cond_true,if_pos (K0 h),Bb8 K hw.l (hin _ (Xn h)),K1 (by omega),Z0,Wd,Gz h]
  simp_all[rr]
 have h2:xg K x.d x.i w.o=some (dp w x&&(gp w x&&Y5 w x)):=by
  unfold xg dp gp;rw[h3];by_cases g1:x.i=0
  ·rw[g1];by_cases g2:x.d=0
   ·grind
   ·rw[Yg g2,Wg g2,cond_true,if_pos (zo hK hL hc g2 s1 s2)]
    grind
  ·have hF:(bif (x.i != 0)then(if(0:Int)<=(Ap x.i 1)/\(Ap x.i 1)<(w.o.length:Int)then(bif (((gt w.o (Ap x.i 1)).v) != 0)then some false else some (Y5 w x))else none)else some (Y5 w x))=some ((x.i==0||(gt w.o (Ap x.i 1)).v==0)&&Y5 w x):=by
    rw[Yg g1,Wg g1,cond_true,if_pos (zo hK hL hc g1 f1 f2)]
    grind
   rw[hF];by_cases g2:x.d=0
   ·grind
   ·rw[Yg g2,Wg g2,cond_true,if_pos (zo hK hL hc g2 s1 s2)]
    grind
 rw[Zd hK x.L (by omega) (fun k=>gt w.Q.c k==2) (some (Yc w x&&(dp w x&&(gp w x&&Y5 w x)))) (fun n i=>ni K n i x.d x.i x.j x.L x.z w.C.L w.C.k w.C.l w.C.e w.C.m w.C.n w.Q.g w.Q.c w.Q.h w.o w.p w.q) (fun n i h=> ?_) (fun n=> ?_)]
 ·rw[Yh];rfl
 ·simp only[ni];have h5:=hch _ (Xn h);rw[P2 h,cond_true,if_pos (K0 h),if_pos ⟨h5.1,by omega⟩,K1 (by omega),bne,Wd,Gz h]
 ·show ni K (n+1) _ _ _ _ _ _ _ _ _ _ _ _ _ _ _ _ _ _=_;rw[ni,W2 (Z9 _),cond_false,h2];unfold Yc;by_cases g:(x.L.length:Int)>0
  ·have h5:=hch _ (Wq (l:=x.L) (Int.le_refl 0) (by omega));obtain⟨e1,e2,e3,e4⟩:=jx hc hm h5.1 h5.2;have e5:A4 (gt x.L 0*w.C.k) x.z=gt x.L 0*w.C.k+x.z:=by
    have:=Zj (a:=gt x.L 0) (b:=w.C.k) (m:=12) (n:=16) h5.1 (by omega) (by omega) b2.2
    grind [A4,Fp,Vr]
   rw[decide_eq_true g,cond_true,if_pos (by omega),if_pos (by omega),e1,e5,if_pos ⟨e3,by omega,by omega⟩,zl hK _ (by grind),show gt x.L 0*w.C.k+x.z - gt x.L 0*w.C.k=x.z by omega]
   grind
  grind
end
def Vq (N:Nat)(l:List Int):List Int:=(List.range N).map (fun k:Nat=>((l.count (k:Int):Nat):Int))
theorem A2g (N:Nat)(l:List Int):(Vq N l).length=N:=by simp[Vq]
theorem ki{N:Nat}{l:List Int}{x:Int}(h0:0<=x)(h1:x<N):gt (Vq N l) x=((l.count x:Nat):Int):=by
 obtain⟨k,rfl⟩: ∃k:Nat,x=k:=⟨x.toNat,by omega⟩
 grind [Gz,Vq]
theorem Bca (N:Nat):Vq N []=List.replicate N 0:=by
 refine List.ext_getElem (by simp[Vq]) fun i h1 h2=> ?_
 simp[Vq]
theorem Bcb{N:Nat}{l:List Int}{x:Int}(h0:0<=x)(h1:x<N)(hl:l.length<=140737488355327):(Vq N l).set x.toNat (A4 (gt (Vq N l) x) 1)=Vq N (l++[x]):=by
 have hc:l.count x<=l.length:=List.count_le_length;have e:A4 (gt (Vq N l) x) 1=((l.count x+1:Nat):Int):=by
  grind [ki,K1]
 rw[e];refine List.ext_getElem (by simp[Vq]) fun i h2 h3=> ?_
 rw[List.getElem_set];simp only[Vq,List.getElem_map,List.getElem_range,List.count_append,List.count_singleton]
 grind
theorem A6d{C P:List Int}(hs: ∀x∈C,x∈P)(hP:P.Nodup):(∀x∈P,C.count x=1) ↔ (C.Nodup/\C.length=P.length):=by
 constructor
 ·intro h;have hn:C.Nodup:=by
   grind
  refine⟨hn,?_⟩;have h1:=gm hn hs;have h2:=gm hP (l:=C) (fun x hx=>List.count_pos_iff.1 (by grind));omega
 ·rintro⟨hn,hl⟩ x hx
  have hp:=Bby hn hs hl;have:=hn.count (a:=x);rw[this,if_pos (hp.mem_iff.2 hx)]
def Vw (q:List G9):List Int:=q.flatMap (fun x=>x.L)
def Vv (q:List G9):List Int:=q.flatMap (fun x=>if x.d=0 then []else [Ap x.d 1])
def Xr (l:List Fy)(q:List G9):List Int:=q.flatMap (fun x=>Gx l x.i)
theorem Bcc{α β:Type}(q:List α)(f:α->List β)(i:Nat)(h:i<q.length):(q.take (i+1)).flatMap f=(q.take i).flatMap f++f q[i]:=by
 grind [List.take_append_getElem]
theorem A2h{α β:Type}(q:List α)(f:α->List β)(m:Nat)(h: ∀x∈q,(f x).length<=m):(q.flatMap f).length<=q.length*m:=by
 induction q with
 |nil=>simp
 |cons x q ih=>
  have h1:=h x (by simp);have h2:=ih fun y hy=>h y (by simp[hy])
  simp only[List.flatMap_cons,Jd,Z28,D6,Nat.one_mul];omega
def kj (w:H4):List Int:=((List.range w.Q.c.length).filter (fun k:Nat=>gt w.Q.c k==2)).map (fun k:Nat=>(k:Int))
def km (w:H4):List Int:=((List.range w.o.length).filter (fun k:Nat=>(gt w.o k).c==2)).map (fun k:Nat=>(k:Int))
def zp (w:H4):List Int:=((List.range w.o.length).filter (fun k:Nat=>Ys w.o k)).map (fun k:Nat=>(k:Int))
theorem A6e (N:Nat)(p:Nat->Bool):(((List.range N).filter p).map (fun k:Nat=>(k:Int))).Nodup:=by
 grind [List.pairwise_lt_range,List.Pairwise.imp]
theorem av{N:Nat}{p:Nat->Bool}{x:Int}:x∈((List.range N).filter p).map (fun k:Nat=>(k:Int)) ↔ (0<=x/\x<(N:Int))/\p x.toNat=true:=by
 grind
def aw (w:H4)(N:Nat):Bool:=
 (List.range w.Q.c.length).all (fun k=> !(gt w.Q.c k==2)||gt (Vq N (Vw w.p)) k==1)&&
 (List.range w.o.length).all (fun k=>(!((gt w.o k).c==2)||gt (Vq w.o.length (Vv w.p)) k==1)&&(!Ys w.o k||gt (Vq w.o.length (Xr w.o w.p)) k==1))
def pf (q:List G9)(i k:Nat):Bool:= !((gt q i).d != 0&&(gt q k).d==(gt q i).d)&&(gt q i).L.all (fun y=> !(gt q k).L.contains y)
def A6f (q:List G9):Bool:=(List.range q.length).all (fun i=>(List.range i).all (fun k=>pf q i k))
def sy (l:List Int):Bool:=(List.range l.length).all (fun i=> !(l.take i).contains (gt l i))
def A2i (w:H4):Bool:=
 A6f w.p&&(sy (Xr w.o w.p)&&((((Vw w.p).length:Int)==((kj w).length:Int))&&((((Vv w.p).length:Int)==((km w).length:Int))&&(((Xr w.o w.p).length:Int)==((zp w).length:Int)))))
theorem Br9 (l:List Int):sy l=true ↔ l.Nodup:=by
 grind [A6b,sy,Gz]
theorem Bsa{w:H4}{q:List G9}(h1: ∀x∈q,x.L.Nodup)(h2: ∀x∈q,0<=x.d/\x.d<=8):A6f q=true ↔ (Vw q).Nodup/\(Vv q).Nodup:=by
 unfold Vw Vv List.Nodup;rw[List.pairwise_flatMap,List.pairwise_flatMap,List.pairwise_iff_getElem,List.pairwise_iff_getElem];have hs: ∀x∈q,List.Pairwise (fun a b:Int=>a≠b) (if x.d=0 then []else [Ap x.d 1]):=by
  intro x _;split<;>simp
 have hsub: ∀x∈q,Ap x.d 1=x.d - 1:=by
  grind [Ap,Aly,Vr]
 unfold A6f pf;simp only[Z1,List.mem_range,Z4,Gg,List.contains_eq_mem,decide_eq_false_iff_not];constructor
 ·intro h;refine⟨⟨h1,fun i j hi hj hij x hx y hy e=> ?_⟩,hs,fun i j hi hj hij x hx y hy e=> ?_⟩
  ·have:=(h j hj i hij).2
   grind [Gz]
  ·have:=(h j hj i hij).1;simp_all[Gz]
 ·rintro⟨⟨_,h3⟩,_,h4⟩ i hi k hk
  have hk':k<q.length:=by omega
  rw[Gz hi,Gz hk'];refine⟨?_,fun x hx hy=>h3 k i hk' hi hk x hy x hx rfl⟩;rw[Bool.and_eq_false_iff];by_cases g:q[i].d=0
  ·grind
  ·right;rw[beq_eq_false_iff_ne];intro e;refine h4 k i hk' hi hk (Ap q[k].d 1) ?_ (Ap q[i].d 1) ?_ (by rw[e])
   all_goals grind
theorem Bsb{w:H4}(hp:Xi w.C w.Q=true)(hL:(w.o.length:Int)=w.C.l)(hq: ∀x∈w.p,X3 w x=true):aw w w.C.L.toNat=A2i w:=by
 obtain⟨hc,hm,hst,_⟩:=Zk hp;have b0:=Gy hc;have hone: ∀x∈w.p,(0<=x.d/\x.d<=w.C.l)/\Xo w.C x.L=true/\pe w x=true/\dp w x=true/\Y5 w x=true:=by
  intro x hx;have:=hq x hx;unfold X3 at this;simp only[Z4]at this;obtain⟨h1,h2,h3,h4,h5,h6⟩:=this;obtain⟨_,g1,_,g3,_⟩:=gk h1
  grind
 have hC: ∀x∈Vw w.p,x∈kj w:=by
  intro y hy;unfold Vw at hy;rw[List.mem_flatMap]at hy;obtain⟨x,hx,hy⟩:=hy;obtain⟨_,g2,g3,_⟩:=hone x hx;have:=au g2 y hy;unfold pe at g3;rw[Z1]at g3;have g4:=g3 y hy;refine av.2 ⟨⟨this.1,by omega⟩,?_⟩
  grind
 have hS: ∀x∈Vv w.p,x∈km w:=by
  intro y hy;unfold Vv at hy;rw[List.mem_flatMap]at hy;obtain⟨x,hx,hy⟩:=hy;obtain⟨g1,g2,g3,g4,_⟩:=hone x hx;split at hy
  ·cases hy
  ·rename_i g;simp only[Dt]at hy;unfold dp at g4;rw[Wg g,Z52,<-hy]at g4;have:y=x.d - 1:=by grind [Ap,Aly,Vr]
   refine av.2 ⟨⟨by omega,by omega⟩,?_⟩
   grind
 have hK2: ∀x∈Xr w.o w.p,x∈zp w:=by
  intro y hy;unfold Xr at hy;rw[List.mem_flatMap]at hy;obtain⟨x,hx,hy⟩:=hy;obtain⟨g1,g2,g3,g4,g5⟩:=hone x hx;unfold Y5 at g5;rw[Z1]at g5;have:=pd _ _ y hy;refine av.2 ⟨this,?_⟩
  grind
 have e1:=A6d hC (A6e _ _);have e2:=A6d hS (A6e _ _);have e3:=A6d hK2 (A6e _ _);have hp2:=Bsa (w:=w) (q:=w.p) (fun x hx=>pc (hone x hx).2.1) (fun x hx=>by grind);rw[Bool.eq_iff_iff];unfold aw A2i;simp only[Z4,Z1,List.mem_range,Bool.or_eq_true,Gg,beq_iff_eq,Br9,hp2,beq_eq_false_iff_ne];have c1:(∀x∈kj w,(Vw w.p).count x=1) ↔ ∀k,k<w.Q.c.length->gt w.Q.c (k:Int)≠2\/gt (Vq w.C.L.toNat (Vw w.p)) (k:Int)=1:=by
  constructor
  ·intro h k hk;by_cases g:gt w.Q.c (k:Int)=2
   ·right;rw[ki (by omega) (by omega),h k (av.2 ⟨⟨by omega,by omega⟩,by grind⟩)];rfl
   omega
  ·intro h x hx;obtain⟨⟨h1,h2⟩,h3⟩:=av.1 hx;rw[beq_iff_eq,show((x.toNat:Nat):Int)=x by omega]at h3;rcases h x.toNat (by omega)with h4|h4
   ·grind
   ·rw[show((x.toNat:Nat):Int)=x by omega,ki h1 (by omega)]at h4;omega
 have c2:(∀x∈km w,(Vv w.p).count x=1) ↔ ∀k,k<w.o.length->(gt w.o (k:Int)).c≠2\/gt (Vq w.o.length (Vv w.p)) (k:Int)=1:=by
  constructor
  ·intro h k hk;by_cases g:(gt w.o (k:Int)).c=2
   ·right;rw[ki (by omega) (by omega),h k (av.2 ⟨⟨by omega,by omega⟩,by grind⟩)];rfl
   omega
  ·intro h x hx;obtain⟨⟨h1,h2⟩,h3⟩:=av.1 hx;rw[beq_iff_eq,show((x.toNat:Nat):Int)=x by omega]at h3;rcases h x.toNat (by omega)with h4|h4
   ·grind
   ·rw[show((x.toNat:Nat):Int)=x by omega,ki h1 (by omega)]at h4;omega
 have c3:(∀x∈zp w,(Xr w.o w.p).count x=1) ↔ ∀k,k<w.o.length->Ys w.o (k:Int)=false\/gt (Vq w.o.length (Xr w.o w.p)) (k:Int)=1:=by
  constructor
  ·intro h k hk;cases g:Ys w.o (k:Int)with
   |true=>
    right;rw[ki (by omega) (by omega),h k (av.2 ⟨⟨by omega,by omega⟩,by grind⟩)];rfl
   |false=>left;rfl
  ·intro h x hx;obtain⟨⟨h1,h2⟩,h3⟩:=av.1 hx;rw[show((x.toNat:Nat):Int)=x by omega]at h3;rcases h x.toNat (by omega)with h4|h4
   ·grind
   ·rw[show((x.toNat:Nat):Int)=x by omega,ki h1 (by omega)]at h4;omega
 grind
theorem A2j{α β:Type}{K:Nat}(hK:281474976710656<=K)(l:List α)(hl:l.length<=140737488355328)(q:α->Bool)(fin bad:Option β)(L:Nat->Nat->Option β)
  (hs: ∀n (i:Nat) (h:i<l.length),L (n+1) i=bif q l[i]then L n (i+1)else bad)
  (he: ∀n,L (n+1) l.length=fin):L K 0=bif l.all q then fin else bad:=by
 have:=Bbs l q fin bad (fun n i=>L n i.toNat) (fun n i h=>by grind) (fun n=>by simp_all) K 0 (Hc _) (by omega)
 grind
section
variable {K:Nat} (hK:281474976710656<=K)
include hK
theorem Bsc (w:H4)(hw:Wp w):bt K (Vq w.o.length (Vv w.p)) (Vq w.o.length (Xr w.o w.p)) w.o K (w.o.length:Int) 0 w.o=some ((List.range w.o.length).all (fun k=>(!((gt w.o (k:Int)).c==2)||gt (Vq w.o.length (Vv w.p)) k==1)&&(!Ys w.o k||gt (Vq w.o.length (Xr w.o w.p)) k==1))):=by
 have hl:=Ww hw.l;rw[Yp hK w.o.length (by omega) (fun k=>(!((gt w.o (k:Int)).c==2)||gt (Vq w.o.length (Vv w.p)) k==1)&&(!Ys w.o k||gt (Vq w.o.length (Xr w.o w.p)) k==1)) (some true) (fun n i=>bt K (Vq w.o.length (Vv w.p)) (Vq w.o.length (Xr w.o w.p)) w.o n (w.o.length:Int) i w.o) (fun n i h=> ?_) (fun n=> ?_)]
 ·grind
 ·simp only[bt,sm];rw[P2 h,cond_true,if_pos (K0 h),Bb9 K hw.l (K0 h),K1 (by omega)];simp only[Z0,A2g,if_pos (K0 h),bne,Wd]
  grind
 ·show bt K _ _ _ (n+1) _ _ _=_;simp_all[bt]
theorem Bsd (w:H4)(hw:Wp w)(hp:Xi w.C w.Q=true):gd K (Vq w.C.L.toNat (Vw w.p)) (Vq w.o.length (Vv w.p)) (Vq w.o.length (Xr w.o w.p)) w.Q.c w.o K (w.Q.c.length:Int) 0 w.Q.c=some (aw w w.C.L.toNat):=by
 obtain⟨hc,hm,hst,_⟩:=Zk hp;have b0:=Gy hc;rw[Yp hK w.Q.c.length (by omega) (fun k=> !(gt w.Q.c k==2)||gt (Vq w.C.L.toNat (Vw w.p)) k==1) (some ((List.range w.o.length).all (fun k=>(!((gt w.o (k:Int)).c==2)||gt (Vq w.o.length (Vv w.p)) k==1)&&(!Ys w.o k||gt (Vq w.o.length (Xr w.o w.p)) k==1)))) (fun n i=>gd K (Vq w.C.L.toNat (Vw w.p)) (Vq w.o.length (Vv w.p)) (Vq w.o.length (Xr w.o w.p)) w.Q.c w.o n (w.Q.c.length:Int) i w.Q.c) (fun n i h=> ?_) (fun n=> ?_)]
 ·rw[Yh];rfl
 ·simp only[gd,A1q];rw[P2 h,cond_true,if_pos (K0 h),K1 (by omega)];simp only[A2g,if_pos (show(0:Int)<=(i:Int)/\(i:Int)<((w.C.L.toNat:Nat):Int) from⟨by omega,by omega⟩),bne,Wd]
  grind
 ·show gd K _ _ _ _ _ (n+1) _ _ _=_;rw[gd,W2 (Z9 _),cond_false,Bsc hK w hw]
theorem Bcd{β:Type}(N:Nat)(base l:List Int)(hin: ∀x∈l,0<=x/\x<(N:Int))(hl:base.length+l.length<=140737488355327)(q:Int->Bool)(fin bad:Option β)(L:Nat->List Int->Int->Option β)
  (hs: ∀n v (i:Nat) (h:i<l.length),v.length=N->L (n+1) v (i:Int)=bif q l[i]then L n (v.set (l[i]).toNat (A4 (gt v l[i]) 1)) ((i+1:Nat):Int)else bad)
  (he: ∀n,L (n+1) (Vq N (base++l)) (l.length:Int)=fin):L K (Vq N base) 0=bif l.all q then fin else bad:=by
 have:=A2j hK l (by omega) q fin bad (fun n i=>L n (Vq N (base++l.take i)) (i:Int)) (fun n i h=> ?_) (fun n=> ?_)
 ·grind
 ·have hb:(base++l.take i).length<=140737488355327:=by grind
  simp_all[A2g,Bcb]
 grind
theorem Bse (w:H4)(hw:Wp w)(hp:Xi w.C w.Q=true)(hL:(w.o.length:Int)=w.C.l)(x:G9)(hx:dk x)(c s d:List Int)(i:Nat)(n:Nat)(hi:i<w.p.length)(he:gt w.p i=x)
  (hb1:c.length+12<=140737488355327) (hb2:s.length<=140737488355326) (hb3:d.length+8<=140737488355327):
  Yo K (n+1) (Vq w.C.L.toNat c) (Vq w.o.length s) (Vq w.o.length d) w.p (w.p.length:Int) i w.C.L w.C.k w.C.l w.C.e w.C.m w.C.n w.Q.g w.Q.c w.Q.h w.o w.p w.q
   =bif X3 w x then Yo K n (Vq w.C.L.toNat (c++x.L)) (Vq w.o.length (s++if x.d=0 then []else [Ap x.d 1])) (Vq w.o.length (d++Gx w.o x.i)) w.p (w.p.length:Int) ((i+1:Nat):Int) w.C.L w.C.k w.C.l w.C.e w.C.m w.C.n w.Q.g w.Q.c w.Q.h w.o w.p w.q else some false:=by
 have hq:=hw.q.2;rw[Yo];rw[show Sv.mk w.C.L w.C.k w.C.l w.C.e w.C.m w.C.n=w.C from rfl,show Pc.mk w.Q.g w.Q.c w.Q.h=w.Q from rfl];rw[P2 hi,cond_true,if_pos (K0 hi),he,Br5 hK _ _ hx,Z0];unfold X3;cases hr:Xv w.C x with
 |false=>rfl
 |true=>
 rw[cond_true,Z30];obtain⟨hc,⟨s1,s2⟩,⟨f1,f2⟩,hd,d1,d2⟩:=gk hr;obtain⟨_,hm,hst,_⟩:=Zk hp;have b0:=Gy hc;have hch:=au hd;have hcl:=Y4 hc hd;have h5: ∀s',yw K (Vq w.o.length d) w.p (w.p.length:Int) i w.C.L w.C.k w.C.l w.C.e w.C.m w.C.n w.Q.g w.Q.c w.Q.h w.o w.p w.q x.i (Vq w.C.L.toNat (c++x.L)) s' (Yo K n)
   =bif Y5 w x then Yo K n (Vq w.C.L.toNat (c++x.L)) s' (Vq w.o.length (d++Gx w.o x.i)) w.p (w.p.length:Int) ((i+1:Nat):Int) w.C.L w.C.k w.C.l w.C.e w.C.m w.C.n w.Q.g w.Q.c w.Q.h w.o w.p w.q else some false:=by
  intro s';have hk:=sx (l:=w.o) w.o.length (Ap x.i 1);have hin:=pd (l:=w.o) w.o.length (Ap x.i 1);unfold yw Y5;rw[A6c hK hw.l,Z0];change (Gx w.o x.i).length<=_ at hk;change ∀y∈Gx w.o x.i,_ at hin;generalize Gx w.o x.i=r at*;refine Bcd hK w.o.length d r hin (by omega) (Ys w.o) _ _ (fun m v j=>oh K w.p (w.p.length:Int) i w.C.L w.C.k w.C.l w.C.e w.C.m w.C.n w.Q.g w.Q.c w.Q.h w.o w.p w.q (Vq w.C.L.toNat (c++x.L)) s' r (Yo K n) m v (r.length:Int) j) (fun m v j hj hv=> ?_) (fun m=> ?_)
  ·have hr1:=hin _ (Xn hj);simp only[oh];rw[P2 hj,cond_true,if_pos (K0 hj),if_pos (by omega),if_pos (by omega),Bb9 K hw.l hr1,K1 (by omega),Z0,Wd,Gz hj]
  ·show oh K _ _ _ _ _ _ _ _ _ _ _ _ _ _ _ _ _ _ _ (m+1) _ _ _=_;rw[oh,W2 (Z9 _),cond_false,K1 (by omega)]
 have h4: ∀s',yx K (Vq w.o.length d) w.p (w.p.length:Int) i w.C.L w.C.k w.C.l w.C.e w.C.m w.C.n w.Q.g w.Q.c w.Q.h w.o w.p w.q x.i (Vq w.C.L.toNat (c++x.L)) (Yo K n) s'
   =bif gp w x&&Y5 w x then Yo K n (Vq w.C.L.toNat (c++x.L)) s' (Vq w.o.length (d++Gx w.o x.i)) w.p (w.p.length:Int) ((i+1:Nat):Int) w.C.L w.C.k w.C.l w.C.e w.C.m w.C.n w.Q.g w.Q.c w.Q.h w.o w.p w.q else some false:=by
  intro s';unfold yx gp;rw[h5];by_cases g:x.i=0
  ·grind
  ·rw[decide_eq_true (by omega),cond_true,if_pos (zo hK hL hc g f1 f2),Wg g]
   grind
 have h2:yy K (Vq w.C.L.toNat c) (Vq w.o.length s) (Vq w.o.length d) w.p (w.p.length:Int) i w.C.L w.C.k w.C.l w.C.e w.C.m w.C.n w.Q.g w.Q.c w.Q.h w.o w.p w.q (Yo K n) x.d x.i x.j x.L x.z
   =bif pe w x&&(dp w x&&(gp w x&&Y5 w x))then Yo K n (Vq w.C.L.toNat (c++x.L)) (Vq w.o.length (s++if x.d=0 then []else [Ap x.d 1])) (Vq w.o.length (d++Gx w.o x.i)) w.p (w.p.length:Int) ((i+1:Nat):Int) w.C.L w.C.k w.C.l w.C.e w.C.m w.C.n w.Q.g w.Q.c w.Q.h w.o w.p w.q else some false:=by
  unfold yy;rw[Bcd hK w.C.L.toNat c x.L (fun y hy=>by grind) (by omega) (fun k=>gt w.Q.c k==2)
   (bif dp w x&&(gp w x&&Y5 w x)then Yo K n (Vq w.C.L.toNat (c++x.L)) (Vq w.o.length (s++if x.d=0 then []else [Ap x.d 1])) (Vq w.o.length (d++Gx w.o x.i)) w.p (w.p.length:Int) ((i+1:Nat):Int) w.C.L w.C.k w.C.l w.C.e w.C.m w.C.n w.Q.g w.Q.c w.Q.h w.o w.p w.q else some false) (some false)
   (fun m v j=>oi K (Vq w.o.length s) (Vq w.o.length d) w.p (w.p.length:Int) i w.C.L w.C.k w.C.l w.C.e w.C.m w.C.n w.Q.g w.Q.c w.Q.h w.o w.p w.q x.d x.i x.L (Yo K n) m v (x.L.length:Int) j x.L) (fun m v j hj hv=> ?_) (fun m=> ?_)]
  ·unfold pe
   grind
  ·have hr1:=hch _ (Xn hj);simp only[oi];rw[P2 hj,cond_true,if_pos (K0 hj),if_pos (by omega),if_pos (by omega),if_pos ⟨hr1.1,by omega⟩,K1 (by omega),bne,Wd,Gz hj]
  ·show oi K _ _ _ _ _ _ _ _ _ _ _ _ _ _ _ _ _ _ _ _ _ (m+1) _ _ _ _=_;rw[oi,W2 (Z9 _),cond_false,h4,h4,A2g];unfold dp;by_cases g:x.d=0
   ·grind
   ·have hlk:=zo hK hL hc g s1 s2;rw[decide_eq_true (by omega),cond_true,if_pos hlk,if_pos hlk,if_neg g,Bcb hlk.1 hlk.2 (by omega),Wg g]
    grind
 rw[h2];unfold Yc;by_cases g:(x.L.length:Int)>0
 ·have h5:=hch _ (Wq (l:=x.L) (Int.le_refl 0) (by omega));obtain⟨e1,e2,e3,e4⟩:=jx hc hm h5.1 h5.2;have hlc:(X8 w.C w.Q.g (gt x.L 0)).length=w.C.k.toNat:=by grind [X8]
  have htk:List.take (x.z - 0).toNat (List.drop (0:Int).toNat (X8 w.C w.Q.g (gt x.L 0)))=List.take x.z.toNat (List.drop (gt x.L 0*w.C.k).toNat w.Q.g):=by
   unfold X8;simp only[Int.sub_zero,Int.toNat_zero,Hf,List.take_take];rw[Nat.min_eq_left (by omega)]
  rw[decide_eq_true g,cond_true,if_pos (by omega),A5u hK hc hm h5.1 h5.2,Z0,if_pos ⟨by omega,by omega,by rw[hlc];omega⟩,htk,A2a hK _ (by simp;omega)];simp only[Z0,Wd,Bool.not_true,Z52];cases Wa (List.take x.z.toNat (List.drop (gt x.L 0*w.C.k).toNat w.Q.g))<;>cases pe w x<;>rfl
 ·rw[decide_eq_false g];simp only[cond_false,Bool.not_false,Bool.true_or,Z30]
theorem Bce (q:List G9):(Vv q).length<=q.length:=by
 have:=A2h q (fun x=>if x.d=0 then []else [Ap x.d 1]) 1 (fun x _=>by grind)
 grind [Vv]
theorem A6g (l:List Fy)(hl:l.length<=8)(q:List G9):(Xr l q).length<=q.length*8:=
 A2h _ _ 8 fun x _=>Dn (sx _ _) hl
end
theorem A6h{β:Type}(N:Nat)(hN:N<=140737488355327)(q:Nat->Bool)(fin:Int->Option β)(L:Nat->Int->Int->Option β)
  (hs: ∀n (v:Int) (i:Nat),i<N->0<=v->v<=i->L (n+1) v (i:Int)=bif q i then L n (v+1) ((i+1:Nat):Int)else L n v ((i+1:Nat):Int))
  (he: ∀n v,L (n+1) v (N:Int)=fin v):
  ∀(n i:Nat) (v:Int),0<=v->v<=i->i<=N->N - i<n->L n v (i:Int)=fin (v+((((List.range N).drop i).filter q).length:Int)):=by
 intro n;induction n with
 |zero=>omega
 |succ n ih=>
  intro i v h0 hv hi hn;rcases Bj i N with h|h
  ·rw[hs n v i h h0 hv,Z47 (by grind),List.getElem_range,List.filter_cons];cases hq:q i with
   |true=>
    rw[cond_true,ih (i+1) _ (by omega) (by omega) (by omega) (by omega)]
    grind
   |false=>
    grind
  grind
theorem A2k{v:Int}(h0:0<=v)(h:v<=140737488355328):A4 v 1=v+1:=by grind [A4,Fp,Vr]
section
variable {K:Nat} (hK:281474976710656<=K)
include hK
theorem Bsf (w:H4)(hw:Wp w)(hp:Xi w.C w.Q=true)(hL:(w.o.length:Int)=w.C.l):A1r K w=some (w.p.all (X3 w)&&aw w w.C.L.toNat):=by
 obtain⟨hc,hm,hst,_⟩:=Zk hp;have b0:=Gy hc;have hq:=hw.q.2;have key: ∀(n i:Nat),(∀x∈w.p.take i,X3 w x=true)->i<=w.p.length->w.p.length - i<n->
   Yo K n (Vq w.C.L.toNat (Vw (w.p.take i))) (Vq w.o.length (Vv (w.p.take i))) (Vq w.o.length (Xr w.o (w.p.take i))) w.p (w.p.length:Int) i w.C.L w.C.k w.C.l w.C.e w.C.m w.C.n w.Q.g w.Q.c w.Q.h w.o w.p w.q=some ((w.p.drop i).all (X3 w)&&aw w w.C.L.toNat):=by
  intro n;induction n with
  |zero=>omega
  |succ n ih=>
   intro i hpre hi hn;rcases Bj i w.p.length with h|h
   ·have hb1:(Vw (w.p.take i)).length<=(w.p.take i).length*12:=A2h _ _ 12 fun x hx=>by
     have:=hpre x hx;unfold X3 at this;simp only[Z4]at this;obtain⟨hc,_,_,hd,_⟩:=gk this.1;exact Y4 hc hd
    have hb2:=Bce hK (w.p.take i);have hb3:=A6g hK w.o (by omega) (w.p.take i);rw[List.length_take]at hb1 hb2 hb3;rw[Bse hK w hw hp hL w.p[i] (hw.q.1 _ (List.getElem_mem h)) _ _ _ i n h (Gz h) (by omega) (by omega) (by omega),Z47 h,Bb];cases hx:X3 w w.p[i]with
    |false=>rfl
    |true=>
     rw[cond_true,Z30,<-ih (i+1) (fun x hx2=>by
      grind [List.take_append_getElem]) h (by omega)]
     simp_all[Vw,Vv,Xr,Bcc]
   ·obtain rfl:i=w.p.length:=by omega
    rw[Yo,W2 (Z9 _),cond_false,List.take_length,Bsd hK w hw hp,List.drop_length];rfl
 unfold A1r;rw[if_pos (by omega),if_pos (by omega),if_pos (by omega)];have:=key K 0 (fun x hx=>by simp at hx) (Hc _) (by omega);rw[List.take_zero,Hf,show Vw []=[] from rfl,show Vv []=[] from rfl,show Xr w.o []=[] from rfl,Bca,Bca]at this
 grind
theorem Bsg (p:Pc)(st:Int)(hl:p.c.length<=140737488355327):Azd K p st=some ((((List.range p.c.length).filter (fun k:Nat=>gt p.c k==st)).length:Nat):Int):=by
 unfold Azd;have:=A6h p.c.length hl (fun k:Nat=>gt p.c k==st) some (fun n v i=>jg K st n v i p.g p.c p.h) (fun n v i hi h0 hv=> ?_) (fun n v=> ?_) K 0 0 (Int.le_refl _) (Int.le_refl _) (Hc _) (by omega)
 ·grind
 ·simp only[jg,Azc];rw[P2 hi,cond_true,if_pos (K0 hi),K1 (by omega),A2k h0 (by omega)]
 ·show jg K st (n+1) v _ _ _ _=_;simp_all[jg]
theorem Bcf (l:List Fy)(st:Int)(hl:l.length<=140737488355327):qp K l st=some ((((List.range l.length).filter (fun k:Nat=>(gt l k).c==st)).length:Nat):Int):=by
 unfold qp;have:=A6h l.length hl (fun k:Nat=>(gt l k).c==st) some (fun n v i=>iu K l st n v i) (fun n v i hi h0 hv=> ?_) (fun n v=> ?_) K 0 0 (Int.le_refl _) (Int.le_refl _) (Hc _) (by omega)
 ·grind
 ·simp only[iu,Alv];rw[P2 hi,cond_true,if_pos (K0 hi),K1 (by omega),A2k h0 (by omega)]
 ·show iu K l st (n+1) v _=_;simp_all[iu]
theorem Bsh (w:H4)(hw:Wp w)(v1 v2:Int)(v3:List Int)(h3:v3.length<=140737488355327):
  dh K v1 v2 v3 w.Q.g w.Q.c w.Q.h w.o K 0 0=some (sy v3&&((v1==((kj w).length:Int))&&((v2==((km w).length:Int))&&((v3.length:Int)==((zp w).length:Int))))):=by
 have hl:=Ww hw.l;have hs:=Yb hK hw.p.st;have h8: ∀v24,ji K v1 v2 v3 w.Q.g w.Q.c w.Q.h w.o v24 K 0=some (sy v3&&((v1==((kj w).length:Int))&&((v2==((km w).length:Int))&&((v3.length:Int)==v24)))):=by
  intro v24;rw[Yp hK v3.length (by omega) (fun i=> !(v3.take i).contains (gt v3 i)) (some ((v1==((kj w).length:Int))&&((v2==((km w).length:Int))&&((v3.length:Int)==v24)))) (fun n i=>ji K v1 v2 v3 w.Q.g w.Q.c w.Q.h w.o v24 n i) (fun n i h=> ?_) (fun n=> ?_)]
  ·rw[Yh];rfl
  ·have hp:(v3.take i).length<=140737488355328:=by grind
   simp only[ji];rw[P2 h,cond_true,if_pos (zm (by omega)),if_pos (K0 h),ow,jv hK _ _ hp,K1 (by omega),Z0,Wd]
  ·show ji K v1 v2 v3 _ _ _ _ v24 (n+1) _=_;simp_all[ji,Bsg,Bcf,Yh,kj,km]
 have:=A6h w.o.length hl (fun k:Nat=>Ys w.o k) (fun v=>some (sy v3&&((v1==((kj w).length:Int))&&((v2==((km w).length:Int))&&((v3.length:Int)==v))))) (fun n v i=>dh K v1 v2 v3 w.Q.g w.Q.c w.Q.h w.o n v i) (fun n v i hi h0 hv=> ?_) (fun n v=> ?_) K 0 0 (Int.le_refl _) (Int.le_refl _) (Hc _) (by omega)
 ·rw[show((0:Nat):Int)=0 from rfl]at this;simp_all[zp]
 ·simp only[dh,Azg];rw[P2 hi,cond_true,Bb8 K hw.l (K0 hi),Z0,K1 (by omega),A2k h0 (by omega)]
 ·show dh K v1 v2 v3 _ _ _ _ (n+1) v _=_;simp_all[dh]
theorem Bsi (w:H4)(hw:Wp w)(i n:Nat)(hi:i<w.p.length)(v1 v2:Int)(v3:List Int)(h1:0<=v1/\v1<=70368744177664)(h2:0<=v2/\v2<=70368744177664)(h3:(v3.length+w.o.length)*8<=140737488355327)(hcl:(gt w.p i).L.length<=12):
  ai K (n+1) v1 v2 v3 i w.C.L w.C.k w.C.l w.C.e w.C.m w.C.n w.Q.g w.Q.c w.Q.h w.o w.p w.q
   =bif (List.range i).all (fun k=>pf w.p i k)then ai K n (v1+((gt w.p i).L.length:Int)) (v2+((if(gt w.p i).d=0 then([]:List Int)else [Ap (gt w.p i).d 1]).length:Int)) (v3++Gx w.o (gt w.p i).i) ((i+1:Nat):Int) w.C.L w.C.k w.C.l w.C.e w.C.m w.C.n w.Q.g w.Q.c w.Q.h w.o w.p w.q else some false:=by
 have hq:=hw.q.2;have hm:=V2;have hx:=hw.q.1 _ (Xn hi);have hkl:=sx (l:=w.o) w.o.length (Ap (gt w.p i).i 1);change (Gx w.o (gt w.p i).i).length<=_ at hkl;have hJ: ∀v17 v18,xf K v3 i w.C.L w.C.k w.C.l w.C.e w.C.m w.C.n w.Q.g w.Q.c w.Q.h w.o w.p w.q (ai K n) v17 v18
   =bif (List.range i).all (fun k=>pf w.p i k)then ai K n v17 v18 (v3++Gx w.o (gt w.p i).i) ((i+1:Nat):Int) w.C.L w.C.k w.C.l w.C.e w.C.m w.C.n w.Q.g w.Q.c w.Q.h w.o w.p w.q else some false:=by
  intro v17 v18;unfold xf;have hlen:(v3++Gx w.o (gt w.p i).i).length=v3.length+(Gx w.o (gt w.p i).i).length:=by simp
  rw[if_pos (K0 hi),A2f hK hw.l hx.first,Z0,if_pos (by omega)];rw[Yp hK i (by omega) (fun k=>pf w.p i k) _ (fun m k=>jh K i w.C.L w.C.k w.C.l w.C.e w.C.m w.C.n w.Q.g w.Q.c w.Q.h w.o w.p w.q v17 v18 (ai K n) m (v3++Gx w.o (gt w.p i).i) k) (fun m k hk=> ?_) (fun m=> ?_)]
  ·have hk2:k<w.p.length:=by omega
   have hlk:=Yb hK (hw.q.1 _ (Xn hk2)).chunks;have h4: ∀C:List Int->Int->Option Bool,xe K i w.p (v3++Gx w.o (gt w.p i).i) k C=bif (gt w.p i).L.all (fun y=> !(gt w.p k).L.contains y)then C (v3++Gx w.o (gt w.p i).i) ((k+1:Nat):Int)else some false:=by
    intro C;unfold xe;rw[Zd hK (gt w.p i).L (by omega) (fun y=> !(gt w.p k).L.contains y) _ (fun m j=>nc K i w.p (v3++Gx w.o (gt w.p i).i) k C m j) (fun m j hj=> ?_) (fun m=> ?_)]
    ·simp only[nc];rw[if_pos (K0 hi),P2 hj,cond_true,if_pos (K0 hk2),if_pos (K0 hj),jv hK _ _ (by omega),Z0,K1 (by omega),Wd,Gz hj,if_pos (K0 hi)]
    ·show nc K i w.p _ k C (m+1) _=_;rw[nc,if_pos (K0 hi),W2 (Z9 _),cond_false,K1 (by omega)]
   simp only[jh];rw[P2 hk,cond_true,if_pos (K0 hi),if_pos (K0 hk2),if_pos (K0 hi),h4];unfold pf
   grind
  ·show jh K i _ _ _ _ _ _ _ _ _ _ _ _ v17 v18 _ (m+1) _ _=_;rw[jh,W2 (Z9 _),cond_false,K1 (by omega)]
 rw[ai,P2 hi,cond_true,if_pos (K0 hi),if_pos (K0 hi),hJ,hJ];have e1:A4 v1 ((gt w.p i).L.length:Int)=v1+((gt w.p i).L.length:Int):=by grind [A4,Fp,Vr]
 rw[e1,A2k h2.1 (by omega)]
 grind
theorem Bsj (w:H4)(hw:Wp w)(hp:Xi w.C w.Q=true)(hL:(w.o.length:Int)=w.C.l)(hall: ∀x∈w.p,X3 w x=true):Azh K w=some (A2i w):=by
 obtain⟨hc,hm,hst,_⟩:=Zk hp;have b0:=Gy hc;have hq:=hw.q.2;have hc12: ∀x∈w.p,x.L.length<=12:=fun x hx=>by
  have:=hall x hx;unfold X3 at this;simp only[Z4]at this;obtain⟨hc,_,_,hd,_⟩:=gk this.1;exact Y4 hc hd
 have h3:=A6g hK w.o (by omega) w.p;unfold Azh;have:=A2j hK (List.range w.p.length) (by grind) (fun i=>(List.range i).all (fun k=>pf w.p i k)) (dh K ((Vw w.p).length:Int) ((Vv w.p).length:Int) (Xr w.o w.p) w.Q.g w.Q.c w.Q.h w.o K 0 0) (some false)
  (fun n i=>ai K n ((Vw (w.p.take i)).length:Int) ((Vv (w.p.take i)).length:Int) (Xr w.o (w.p.take i)) (i:Int) w.C.L w.C.k w.C.l w.C.e w.C.m w.C.n w.Q.g w.Q.c w.Q.h w.o w.p w.q) (fun n i h=> ?_) (fun n=> ?_)
 ·rw[List.take_zero,show Vw []=[] from rfl,show Vv []=[] from rfl,show Xr w.o []=[] from rfl]at this;refine Eq.trans this ?_;rw[Bsh hK w hw _ _ _ (by omega),Yh];rfl
 ·have hi:i<w.p.length:=by grind
  have hb1:(Vw (w.p.take i)).length<=(w.p.take i).length*12:=A2h _ _ 12 fun x hx=>hc12 x (Kk hx)
  have hb2:=Bce hK (w.p.take i);have hb3:=A6g hK w.o (by omega) (w.p.take i);rw[List.length_take]at hb1 hb2 hb3;simp only[List.getElem_range];rw[Bsi hK w hw i n hi _ _ _ ⟨by omega,by omega⟩ ⟨by omega,by omega⟩ (by omega) (hc12 _ (Xn hi))];simp_all[Vw,Vv,Xr,Bcc,Gz]
 simp_all[ai.eq_2]
end
def dq (w:H4):Bool:=
 Xi w.C w.Q&&(((w.o.length:Int)==w.C.l)&&((List.range w.o.length).all (gh w)&&(pb w.o&&((w.p.all (X3 w)&&aw w w.C.L.toNat)&&w.q.all (fun x=>Qi x 0 255)))))
section
variable {K:Nat} (hK:281474976710656<=K)
include hK
theorem Bcg (w:H4)(hw:Wp w):yz K w=some (dq w):=by
 have hl:=Yb hK hw.log;unfold yz dq;rw[Bbm hK,Z0];cases hp:Xi w.C w.Q with
 |false=>rfl
 |true=>
 rw[cond_true,Z30];cases hL:(w.o.length:Int)==w.C.l with
 |false=>rfl
 |true=>
 rw[beq_iff_eq]at hL;rw[cond_true,Z30,Brg hK w hw hp,Br3 hK hw.l,Bsf hK w hw hp hL,A5w hK _ (by omega)];simp_all[Yh]
theorem A2l (w:H4)(hw:Wp w):nn K w=some (dq w):=by
 have hl:=Yb hK hw.log;have hl2:=Ww hw.l;have hq:=hw.q.2;unfold nn dq;rw[A5v hK,Z0];cases hp:Xi w.C w.Q with
 |false=>rfl
 |true=>
 rw[cond_true,Z30];cases hL:(w.o.length:Int)==w.C.l with
 |false=>grind
 |true=>
 rw[bne,hL,Bool.not_true,cond_false,Z30,Brx hK hw.l,Z0,Wd];rw[beq_iff_eq]at hL;have e1:Sv.mk w.C.L w.C.k w.C.l w.C.e w.C.m w.C.n=w.C:=rfl;have e2:H4.mk (Sv.mk w.C.L w.C.k w.C.l w.C.e w.C.m w.C.n) (Pc.mk w.Q.g w.Q.c w.Q.h) w.o w.p w.q=w:=rfl;have h3:w.p.all (X3 w)=true->jl K w.C.L w.C.k w.C.l w.C.e w.C.m w.C.n w.Q.g w.Q.c w.Q.h w.o w.p w.q K 0=some (w.q.all (fun x=>Qi x 0 255)&&aw w w.C.L.toNat):=by
  intro hall;rw[Z1]at hall;rw[Bsb hp hL hall];rw[Zd hK w.q (by omega) (fun x=>Qi x 0 255) (some (A2i w)) (jl K w.C.L w.C.k w.C.l w.C.e w.C.m w.C.n w.Q.g w.Q.c w.Q.h w.o w.p w.q) (fun n i h=> ?_) (fun n=> ?_)]
  ·grind
  ·rw[jl,P2 h,cond_true,if_pos (K0 h),Xh,K1 (by omega),Z0,Wd,Gz h]
  simp_all[jl,Bsj]
 have h2:nm K w.C.L w.C.k w.C.l w.C.e w.C.m w.C.n w.Q.g w.Q.c w.Q.h w.o w.p w.q K 0=some (w.p.all (X3 w)&&(w.q.all (fun x=>Qi x 0 255)&&aw w w.C.L.toNat)):=by
  rw[Zd hK w.p (by omega) (X3 w) (jl K w.C.L w.C.k w.C.l w.C.e w.C.m w.C.n w.Q.g w.Q.c w.Q.h w.o w.p w.q K 0) (nm K w.C.L w.C.k w.C.l w.C.e w.C.m w.C.n w.Q.g w.Q.c w.Q.h w.o w.p w.q) (fun n i h=> ?_) (fun n=> ?_)]
  ·grind
  ·rw[nm,P2 h,cond_true,e2,Br8 hK w hw hp hL i h,K1 (by omega),Z0,Wd,Gz h]
  simp_all[nm]
 have h1:jm K K 0 w.C.L w.C.k w.C.l w.C.e w.C.m w.C.n w.Q.g w.Q.c w.Q.h w.o w.p w.q=some ((List.range w.o.length).all (gh w)&&(w.p.all (X3 w)&&(w.q.all (fun x=>Qi x 0 255)&&aw w w.C.L.toNat))):=by
  rw[Yp hK w.o.length (by omega) (gh w) (some (w.p.all (X3 w)&&(w.q.all (fun x=>Qi x 0 255)&&aw w w.C.L.toNat))) (fun n i=>jm K n i w.C.L w.C.k w.C.l w.C.e w.C.m w.C.n w.Q.g w.Q.c w.Q.h w.o w.p w.q) (fun n k hk=> ?_) (fun n=> ?_)]
  ·grind
  ·simp only[jm];rw[e2,e1];have hn:=hw.l.1 _ (Xn hk);have l1:=Yb hK hn.chunks;have l2:=A2c hK hn.things;have l3:=Yb hK hn.tags;rw[P2 hk,cond_true,if_pos (K0 hk),oy hK _ _ l1 l2 l3,Z0,Brb hK w k hk hw.p.st.2 l1,K1 (by omega),Bq3 hK _ _ l1 l2];simp only[Z0];unfold gh;cases hb:Wr w.C (gt w.o k)with
   |false=>rfl
   |true=>
   cases jy w.Q k (gt w.o k).L with
   |false=>rfl
   |true=>
   cases hi:(gt w.o k).y.all (W7 w.C (gt w.o k).L)with
   |false=>grind
   |true=>
   have hs:=Bb2 hi;rw[Bq0 hK _ l2 (fun t ht=>(hs t ht).1),Bre hK w k hk hp hn hb hs];simp only[Z0,cond_true,Wd,Z30,if_pos (K0 hk)]
   grind
  ·show jm K (n+1) _ _ _ _ _ _ _ _ _ _ _ _ _=_;simp_all[jm]
 grind
end
theorem Bsk{n:Nat}(h:n<=reachBytes):n<=140737488355327:=by simp only[reachBytes]at h;omega
section
variable {K:Nat} (hK:281474976710656<=K)
include hK
end
theorem Bsl{x:Int}(h:zj x):0<=x/\x<=255:=by
 grind [zj,Lit.wf,IntKind.min,IntKind.max,IntKind.signed,IntKind.bits]
theorem Bsm{l:List Int}(h:A18 l):Bbw l:=⟨fun x hx=>Bsl (h.1 x hx),by have:=Bsk h.2.1;omega⟩
theorem Bsn{α:Type}(l:List α)(i:Nat)(x y:α):(l.set i x).set i y=l.set i y:=List.set_set ..
section
variable {K:Nat} (hK:281474976710656<=K)
include hK
def one{α:Type}(_:α):Nat:=1
def cg (x:Fy):Nat:=10+x.L.length+3*x.y.length+x.j.length
def A6i (p:Pc):Nat:=p.g.length+p.c.length+p.h.length
theorem A2m{α β:Type}(l:List α)(hl:l.length<=140737488355327)(fin:Option β)(L:Nat->List α->Int->Option β)
  (hs: ∀n v (i:Nat) (h:i<l.length),v.length=i->L (n+1) v (i:Int)=L n (v++[l[i]]) ((i+1:Nat):Int))
  (he: ∀n,L (n+1) l (l.length:Int)=fin):L K [] 0=fin:=by
 have:=A2j hK l (by omega) (fun _=>true) fin none (fun n i=>L n (l.take i) (i:Int)) (fun n i h=>by
  grind [List.take_append_getElem]) (fun n=>by grind)
 grind
omit hK in
theorem zq (K:Nat){p:Pc}(w:Yi p):iv K p=some p:=by
 have hm:=V2;have h1:=w.mem.2;have h2:=w.st.2;have h3:=w.own.2;unfold iv;simp only[Hd];rw[if_pos (by omega),if_pos (by omega),if_pos (by omega)]
omit hK in
theorem gq (K:Nat){n:Fy}(w:Wt n):bk K n=some n:=by
 have hm:=V2;have h1:=w.chunks.2;have h2:=w.things.2;have h3:=w.tags.2;unfold bk;simp only[Hd];rw[if_pos (by omega),if_pos (by omega),if_pos (by omega)]
theorem A2n{l:List Fy}(w:V0 l):mn K l=some l:=by
 have hm:=V2;have h2:=w.2;unfold mn;refine A2m hK l (Ww w) (some l) (fun n v i=>ml K l n v i) (fun n v i h hv=> ?_) (fun n=> ?_)
 ·have hl:(v++[l[i]]).length=i+1:=by simp[hv]
  simp only[ml];rw[P2 h,cond_true,if_pos (K0 h),Gz h,gq K (w.1 _ (List.getElem_mem h)),Z0,if_pos (by omega),K1 (by omega)]
 ·show ml K l (n+1) _ _=_;simp_all[ml]
omit hK in
theorem Bso (K:Nat){x:G9}(w:dk x):Ay8 K x=some x:=by
 have hm:=V2;have h1:=w.tags.2;have h2:=w.chunks.2;unfold Ay8;simp only[Hd];rw[if_pos (by omega),if_pos (by omega)]
theorem zr{w:H4}(hw:Wp w):jd K w=some w:=by
 have hm:=V2;have h2:=hw.q.2;have h3:=hw.log.2;unfold jd;rw[zq K hw.p,Z0,A2n hK hw.l,Z0];refine A2m hK w.p (by omega) (some w) (fun n v i=>mz K n i w.C.L w.C.k w.C.l w.C.e w.C.m w.C.n w.Q.g w.Q.c w.Q.h w.o v w.q (H4.mk (Sv.mk 0 0 0 0 0 0) (Pc.mk [] [] []) [] [] []) w.C.L w.C.k w.C.l w.C.e w.C.m w.C.n w.Q.g w.Q.c w.Q.h w.o w.p w.q) (fun n v i h hv=> ?_) (fun n=> ?_)
 ·have hl:(v++[w.p[i]]).length=i+1:=by simp[hv]
  simp only[mz];rw[P2 h,cond_true,if_pos (K0 h),Gz h,Bso K (hw.q.1 _ (List.getElem_mem h)),Z0,if_pos (by omega),K1 (by omega)]
 ·show mz K (n+1) _ _ _ _ _ _ _ _ _ _ _ _ _ _ _ _ _ _ _ _ _ _ _ _ _ _=_;rw[mz,W2 (Z9 _),cond_false];simp only[Hd];rw[if_pos (by omega)]
omit hK in
theorem A6j (K:Nat){p:Pc}(w:Yi p):rx K p=some p:=by
 unfold rx;rw[Bq4 K w.mem.2,cf K w.st.2,cf K w.own.2];rfl
omit hK in
theorem Bsp (K:Nat){n:Fy}(w:Wt n):A0t K n=some n:=by
 unfold A0t;rw[cf K w.chunks.2,Bq5 K w.things.2,cf K w.tags.2];rfl
theorem Bch{l:List Fy}(w:V0 l):yh K l=some l:=by
 have hm:=V2;have h2:=w.2;unfold yh;refine A2m hK l (Ww w) (some l) (fun n v i=>nr K l n v (l.length:Int) i) (fun n v i h hv=> ?_) (fun n=> ?_)
 ·have hl:(v++[l[i]]).length=i+1:=by simp[hv]
  simp only[nr];rw[P2 h,cond_true,if_pos (K0 h),Gz h,Bsp K (w.1 _ (List.getElem_mem h)),Z0,if_pos (by omega),K1 (by omega)]
 ·show nr K l (n+1) _ _ _=_;simp_all[nr]
omit hK in
theorem Bsq (K:Nat){x:G9}(w:dk x):A0u K x=some x:=by
 unfold A0u;rw[cf K w.tags.2,cf K w.chunks.2];rfl
theorem Bsr{α:Type}(v:List α)(d x:α):(v++[d]).set (v.length:Int).toNat x=v++[x]:=by
 simp_all
theorem Bci{w:H4}(hw:Wp w):yi K w=some w:=by
 have hm:=V2;have h2:=hw.q.2;unfold yi;rw[A6j K hw.p,Z0,Bch hK hw.l,Z0,cf K hw.log.2,Z0];refine A2m hK w.p (by omega) (some w) (fun n v i=>ns K n w.p (w.p.length:Int) i (H4.mk w.C w.Q w.o v w.q) (H4.mk (Sv.mk 0 0 0 0 0 0) (Pc.mk [] [] []) [] [] [])) (fun n v i h hv=> ?_) (fun n=> ?_)
 ·simp only[ns];rw[P2 h,cond_true,if_pos (K0 h),Gz h,Bsq K (hw.q.1 _ (List.getElem_mem h)),Z0,if_pos (by omega),K1 (by omega),Bsr hK]
 ·show ns K (n+1) _ _ _ _ _=_;simp_all[ns]
end
def zt (mem:List Int)(p n:Int):List Int×Bool:=if 0<=p/\0<=n/\p+n<=(mem.length:Int)then((mem.drop p.toNat).take n.toNat,true)else([],false)
theorem Bss{mem:List Int}(a b:Nat):((mem.drop a).take b).length<=mem.length:=by grind
theorem Bcj (K:Nat){mem:List Int}(hl:mem.length<=140737488355327)(p n:Int):xk K mem p n=some (decide (0<=p/\0<=n/\p+n<=(mem.length:Int))):=by
 unfold xk;by_cases h1:(0:Int)<=p
 ·rw[decide_eq_true (show p>=0 from h1)];by_cases h2:(0:Int)<=n
  ·rw[decide_eq_true (show n>=0 from h2)];by_cases h3:p<=(mem.length:Int)
   ·rw[decide_eq_true h3];simp only[cond_true,Z7,decide_eq_decide]
    grind [Ap,Aly,Vr]
   ·rw[decide_eq_false h3];simp only[cond_true,cond_false,Z7]
    grind
  grind
 grind
theorem Bst (K:Nat){mem:List Int}(hl:mem.length<=140737488355327)(p n:Int):Azy K mem p n=some (zt mem p n):=by
 unfold Azy zt;rw[Bcj K hl];simp only[Z0];by_cases h:0<=p/\0<=n/\p+n<=(mem.length:Int)
 ·rw[decide_eq_true h,if_pos h]
  try simp only[cond_true]
  have e:A4 p n=p+n:=by grind [A4,Fp,Vr]
  have hc:=Bss (mem:=mem) p.toNat (p+n - p).toNat;rw[e,if_pos (by omega),if_pos ⟨by grind,by grind [maxLen]⟩]
  grind
 grind
def A6k (mem:List Int)(t:H3)(at_ n:Int):List Int×Bool:=if 0<=at_/\0<=n/\at_+n<=t.D then zt mem (A4 t.B at_) n else([],false)
theorem Bsu{mem:List Int}{p n:Int}(h:p<0):zt mem p n=([],false):=by unfold zt;grind
theorem Bsv (K:Nat){mem:List Int}(hl:mem.length<=140737488355327){t:H3}(wt:ThingW t)(at_ n:Int):Azz K mem t at_ n=some (A6k mem t at_ n):=by
 obtain⟨wl1,wl2⟩:=wt.2.1;unfold Azz xj A6k;by_cases h1:(0:Int)<=at_
 ·rw[decide_eq_true (show at_>=0 from h1)];by_cases h2:(0:Int)<=n
  ·rw[decide_eq_true (show n>=0 from h2)];by_cases h3:at_<=t.D
   ·rw[decide_eq_true h3];have e:Ap t.D at_=t.D - at_:=by grind [Ap,Aly,Vr]
    rw[e];by_cases h4:n<=t.D - at_
    ·rw[decide_eq_true h4,if_pos ⟨h1,h2,by omega⟩];simp only[cond_true,Bst K hl];cases decide (t.B<0)with
     |true=>rfl
     |false=>
      by_cases h5:(0:Int)<=A4 t.B at_
      ·grind
      ·rw[decide_eq_false (show ¬A4 t.B at_>=0 from h5),Bsu (by omega)];rfl
    grind
   grind
  grind
 grind
def zu (w:H4)(h:Lz):Int:=((Vy w.o w.o.length (Yv w.o h)).length:Int)
theorem Bsw{l:List Fy}(hl:l.length<=140737488355327)(h:Lz):wfi (Yv l h):=by
 by_cases h0:Yv l h<0
 ·unfold Yv at *;split at h0
  ·omega
  ·rename_i h1;rw[if_neg h1];exact⟨by omega,by omega⟩
 ·have:=A51 h0;exact⟨by omega,by omega⟩
section
variable {K:Nat} (hK:281474976710656<=K)
include hK
theorem pg (w:H4)(hw:V0 w.o)(h:Lz):db K w h=some (zu w h):=by
 have hl:=Ww hw;unfold db vk;rw[Bb3 K hl,Z0,A2d hK hw _ (Bsw hl h)];rfl
end
section
variable {β:Type} [Inhabited β]
end
theorem Bck{β:Type}(f:β->Nat): ∀(l:List β) (i:Nat) (h:i<l.length) (x:β),((l.set i x).map f).sum+f l[i]=(l.map f).sum+f x
 |[],i,h,x=>by simp at h
 |y::l,0,h,x=>by grind
 |y::l,i+1,h,x=>by
  have:=Bck f l i (by grind) x
  grind
theorem zv{l:List Fy}(hl:V0 l)(i:Nat){x:Fy}(hx:Wt x):V0 (l.set i x):=
 ⟨fun y hy=>(Mv hy).elim (hl.1 y) (fun e=>e ▸ hx),by rw[Tb];exact hl.2⟩
def X4 (p:Pc)(k:Int):Pc:=if(0<=k/\k<(p.c.length:Int)/\k<(p.h.length:Int))/\gt p.c k=1 then Pc.mk p.g (p.c.set k.toNat 2) (p.h.set k.toNat (-1))else p
theorem A6l{p:Pc}(hp:Yi p)(k:Int):Yi (X4 p k)/\A6i (X4 p k)=A6i p:=by
 unfold X4;split
 ·refine⟨⟨hp.mem,⟨fun x hx=> ?_,by rw[Tb];exact hp.st.2⟩,⟨fun x hx=> ?_,by rw[Tb];exact hp.own.2⟩⟩,by simp[A6i]⟩
  ·rcases Mv hx with h|h
   ·exact hp.st.1 x h
   ·subst h;exact⟨by omega,by omega⟩
  ·rcases Mv hx with h|h
   ·exact hp.own.1 x h
   ·subst h;exact⟨by omega,by omega⟩
 grind
theorem Bcl (K:Nat){p:Pc}(hp:Yi p)(k:Int):Amy K p k=some (X4 p k):=by
 have h1:=hp.st.2;unfold Amy qz X4;rw[zq K hp,Z0,jz K (by omega),Z0]
 grind
theorem Bsx (K:Nat){p:Pc}(hp:Yi p)(k:Int):A1w K p k=some (X4 p k):=by
 have h1:=hp.st.2;have h2:=hp.own.2;unfold A1w zb X4;have e:Ap (M6 (p.c.length:Int) (p.h.length:Int)) 1=M6 (p.c.length:Int) (p.h.length:Int) - 1:=by
  grind [Ap,Aly,M6,Vr]
 rw[A6j K hp,Z0,ak,Z0,e];by_cases hs:0<=k/\k<(p.c.length:Int)/\k<(p.h.length:Int)
 ·rw[Vz.2 (by grind [M6]),cond_true,if_pos ⟨hs.1,hs.2.1⟩,if_pos ⟨hs.1,hs.2.1⟩,if_pos ⟨hs.1,hs.2.2⟩]
  grind
 ·rw[A19.2 (by grind [M6]),if_neg (show ¬((0<=k/\k<(p.c.length:Int)/\k<(p.h.length:Int))/\gt p.c k=1) from fun x=>hs x.1)];rfl
def V8 (p:Pc)(l:List Int):Pc:=l.foldl X4 p
theorem A6m{α σ β:Type}{K:Nat}(hK:281474976710656<=K)(l:List α)(hl:l.length<=140737488355327)(f:σ->α->σ)(s0:σ)(I:σ->Prop)(hI:I s0)(hf: ∀s x,I s->I (f s x))(fin:Option β)(L:Nat->σ->Int->Option β)
  (hs: ∀n s (i:Nat) (h:i<l.length),I s->L (n+1) s (i:Int)=L n (f s l[i]) ((i+1:Nat):Int))
  (he: ∀n,L (n+1) (l.foldl f s0) (l.length:Int)=fin):L K s0 0=fin:=by
 have key: ∀(n i:Nat) (s:σ),I s->i<=l.length->l.length - i<n->(l.drop i).foldl f s=l.foldl f s0->L n s (i:Int)=fin:=by
  intro n;induction n with
  |zero=>omega
  |succ n ih=>
   grind [List.drop_eq_getElem_cons]
 exact key K 0 s0 hI (Hc _) (by omega) rfl
def Wn (n:Fy)(slot:Int):G9:=G9.mk slot n.i n.j n.L 0
def ci (n:Fy):Fy:=Fy.mk n.c n.a (A4 n.f 1) n.s n.t 0 n.u n.v [] 0 0 [] []
theorem A6n (K:Nat){n:Fy}(hn:Wt n)(s:Int):rd K n s=some (Wn n s):=by
 have hm:=V2;have h1:=hn.tags.2;have h2:=hn.chunks.2;unfold rd;simp only[Hd];rw[if_pos (by omega),if_pos (by omega)];rfl
theorem Bsy (K:Nat){n:Fy}(hn:Wt n)(s:Int):A1y K n s=some (Wn n s):=by
 unfold A1y;rw[cf K hn.tags.2,cf K hn.chunks.2];rfl
theorem Bsz (K:Nat){n:Fy}(hn:Wt n):Ay3 K n=some (ci n):=by
 unfold Ay3;rw[gq K hn];rfl
theorem Xe:wfi 0:=⟨by decide,by decide⟩
theorem ph:Zv []:=⟨(fun x hx=>by cases hx),(by simp)⟩
theorem A6o:A5x []:=⟨(fun x hx=>by cases hx),(by simp)⟩
theorem Bs0{n:Fy}(hn:Wt n){s:Int}(hs:wfi s):dk (Wn n s):=⟨hs,hn.first,hn.tags,hn.chunks,Xe⟩
def ax (w:H4)(k:Int):H4:=H4.mk w.C (V8 w.Q (gt w.o k).L) (w.o.set k.toNat (ci (gt w.o k))) (w.p++[Wn (gt w.o k) 0]) w.q
section
variable {K:Nat} (hK:281474976710656<=K)
include hK
theorem Bcm (w:H4)(hw:Wp w)(l:List Int)(hl:l.length<=140737488355327):iz K w l=some (H4.mk w.C (V8 w.Q l) w.o w.p w.q):=by
 unfold iz;refine A6m hK l (by omega) X4 w.Q Yi hw.p (fun s x h=>(A6l h x).1) _ (fun n s i=>bn K l n i w.C.L w.C.k w.C.l w.C.e w.C.m w.C.n s.g s.c s.h w.o w.p w.q) (fun n s i h hs=> ?_) (fun n=> ?_)
 ·simp only[bn];rw[P2 h,cond_true,if_pos (K0 h),Gz h,show Pc.mk s.g s.c s.h=s from rfl,Bcl K hs,Z0,K1 (by omega)]
 ·show bn K l (n+1) _ _ _ _ _ _ _ _ _ _ _ _ _=_;rw[bn,W2 (Z9 _),cond_false];rfl
theorem Bs1 (w:H4)(hw:Yi w.Q){k:Int}(hk:0<=k/\k<(w.o.length:Int))(hl:(gt w.o k).L.length<=140737488355327):A1x K w k=some (H4.mk w.C (V8 w.Q (gt w.o k).L) w.o w.p w.q):=by
 unfold A1x;simp only[if_pos hk];refine A6m hK (gt w.o k).L (by omega) X4 w.Q Yi hw (fun s x h=>(A6l h x).1) _ (fun n s i=>ol K n (gt w.o k).L ((gt w.o k).L.length:Int) i w.C.L w.C.k w.C.l w.C.e w.C.m w.C.n s.g s.c s.h w.o w.p w.q) (fun n s i h hs=> ?_) (fun n=> ?_)
 ·simp only[ol];rw[P2 h,cond_true,if_pos (K0 h),Gz h,show Pc.mk s.g s.c s.h=s from rfl,Bsx K hs,Z0,K1 (by omega)]
 ·show ol K (n+1) _ _ _ _ _ _ _ _ _ _ _ _ _ _ _=_;rw[ol,W2 (Z9 _),cond_false];rfl
theorem Bs2 (w:H4)(hw:Wp w)(hQ:w.p.length<=140737488355){k:Int}(hk:0<=k/\k<(w.o.length:Int)):Ay4 K w k=some (ax w k):=by
 have hm:=V2;have hn:=hw.l.1 _ (Wq hk.1 hk.2);unfold Ay4;simp only[if_pos hk,A6n K hn,Z0,Bcm hK w hw _ (Yb hK hn.chunks),Bsz K hn];rw[if_pos ⟨by grind,by grind⟩];rfl
end
def Bcn (n:Fy)(v:Int):Fy:=Fy.mk n.c n.a n.f n.s n.t n.i v n.v n.L n.w n.x n.y n.j
def A6p (n:Fy)(v:Int):Fy:=Fy.mk n.c n.a n.f n.s n.t n.i n.u v n.L n.w n.x n.y n.j
def Bco (n:Fy)(v:Int):Fy:=Fy.mk n.c n.a n.f n.s n.t v n.u n.v n.L n.w n.x n.y n.j
def A2o (n:Fy):Fy:=Fy.mk n.c n.a n.f 0 0 n.i 0 0 n.L n.w n.x n.y n.j
theorem gr{l:List Fy}{k:Int}(hk:0<=k/\k<(l.length:Int))(x:Fy):gt (l.set k.toNat x) k=x:=by
 have hlt:k.toNat<(l.set k.toNat x).length:=by grind
 simp_all[gt]
theorem kn{l:List Fy}{j k:Int}(hj:0<=j)(hk:0<=k/\k<(l.length:Int))(h:j≠k)(x:Fy):gt (l.set j.toNat x) k=gt l k:=by
 have h1:k.toNat<(l.set j.toNat x).length:=by grind
 have h2:k.toNat<l.length:=by omega
 have e1:gt (l.set j.toNat x) ((k.toNat:Nat):Int)=gt l ((k.toNat:Nat):Int):=by
  rw[Gz h1,Gz h2,List.getElem_set,if_neg (by omega)]
 grind
theorem Bcp (K:Nat){l:List Fy}{k:Int}(hk:0<=k/\k<(l.length:Int)):wv K k l=some (l.set k.toNat (A2o (gt l k))):=by
 unfold wv;rw[if_pos hk];simp only[Ax5,Tb,gr hk,Bsn,if_pos hk];rfl
def Zx (l0 l:List Fy)(k nx pv:Int):List Fy:=bif Wm l0 nx then l.set (Ap nx 1).toNat (A6p (gt l (Ap nx 1)) pv)else l
def pj (l0 l:List Fy)(k nx pv:Int):List Fy:=(Zx l0 l k nx pv).set k.toNat (A2o (gt (Zx l0 l k nx pv) k))
theorem zw (l0 l:List Fy)(k nx pv:Int):(Zx l0 l k nx pv).length=l.length:=by
 grind [Zx]
theorem zx (K:Nat){l0 l:List Fy}(hl:l0.length<=140737488355327)(he:l.length=l0.length){k:Int}(hk:0<=k/\k<(l0.length:Int))(a b c d e f nx pv:Int)(g:List Int)(h i:Int)(t:List H3)(u:List Int)(hx:wfi nx):rn K l0 k l a b c d e f nx pv g h i t u=some (pj l0 l k nx pv):=by
 unfold rn pj Zx;rw[ke K hl hx,Z0];cases hp:Wm l0 nx with
 |false=>simp_all[Bcp]
 |true=>
  have:=ap hp;rw[cond_true,cond_true,if_pos (by omega)];simp only[Ax5];rw[Bcp K (by grind)];rfl
def Zo (l:List Fy)(k:Int):List Fy:=
 bif Wm l (gt l k).v then l.set (Ap (gt l k).v 1).toNat (Bcn (gt l (Ap (gt l k).v 1)) (gt l k).u)
 else bif (gt l k).v==0&&(Wm l (gt l k).s&&(gt l (Ap (gt l k).s 1)).i==A4 k 1)then l.set (Ap (gt l k).s 1).toNat (Bco (gt l (Ap (gt l k).s 1)) (gt l k).u)
 else l
def X9 (l:List Fy)(k:Int):List Fy:=pj l (Zo l k) k (gt l k).u (gt l k).v
theorem ta (l:List Fy)(k:Int):(Zo l k).length=l.length:=by
 unfold Zo;grind
section
variable {K:Nat} (hK:281474976710656<=K)
include hK
theorem Bs3{l:List Fy}(w:V0 l){k:Int}(hk:0<=k/\k<(l.length:Int)):Ay5 K l k=some (X9 l k):=by
 have hl:=Ww w;have hn:=w.1 _ (Wq hk.1 hk.2);have e1:Ap (A4 k 1) 1=k:=by grind [Ap,Aly,A4,Fp,Vr]
 have hpk:Wm l (A4 k 1)=true:=by grind [Wm]
 have hwk:wfi (A4 k 1):=Bbj _;unfold Ay5 X9;rw[A2n hK w,Z0,ke K hl hwk,Z0,hpk,Bool.not_true,cond_false,if_pos hk,ke K hl hn.prev,Z0];unfold Zo;cases hp:Wm l (gt l k).v with
 |true=>
  have:=ap hp;rw[cond_true,cond_true,if_pos this];simp only[Ax5];rw[zx K hl (by grind) hk _ _ _ _ _ _ _ _ _ _ _ _ _ hn.next];rfl
 |false=>
  rw[cond_false,cond_false];cases h0:(gt l k).v==0 with
  |false=>
   simp_all[my,zx,Wt.next]
  |true=>
   rw[cond_true,ke K hl hn.up,Z0];cases hu:Wm l (gt l k).s with
   |false=>
    simp_all[my,zx,Wt.next]
   |true=>
    have hui:=ap hu;rw[cond_true,if_pos hui];simp only[Z30,my];cases (gt l (Ap (gt l k).s 1)).i==A4 k 1 with
    |false=>
     simp_all[zx,Wt.next]
    |true=>
     simp only[cond_true,if_pos hui,Ax5];rw[zx K hl (by grind) hk _ _ _ _ _ _ _ _ _ _ _ _ _ hn.next];rfl
end
def Bs4 (n:Fy):Fy:=Fy.mk 2 n.a 0 0 0 0 0 0 [] 0 0 [] []
theorem Bs5{n:Fy}(hn:Wt n){v:Int}(hv:wfi v):Wt (Bcn n v):=⟨hn.st,hn.gen,hn.ep,hn.up,hn.upEp,hn.first,hv,hn.prev,hn.chunks,hn.cur,hn.bump,hn.things,hn.tags⟩
theorem Bs6{n:Fy}(hn:Wt n){v:Int}(hv:wfi v):Wt (A6p n v):=⟨hn.st,hn.gen,hn.ep,hn.up,hn.upEp,hn.first,hn.next,hv,hn.chunks,hn.cur,hn.bump,hn.things,hn.tags⟩
theorem Bs7{n:Fy}(hn:Wt n){v:Int}(hv:wfi v):Wt (Bco n v):=⟨hn.st,hn.gen,hn.ep,hn.up,hn.upEp,hv,hn.next,hn.prev,hn.chunks,hn.cur,hn.bump,hn.things,hn.tags⟩
theorem Bs8{n:Fy}(hn:Wt n):Wt (A2o n):=by
 have z:wfi 0:=⟨by decide,by decide⟩;exact⟨hn.st,hn.gen,hn.ep,z,z,hn.first,z,z,hn.chunks,hn.cur,hn.bump,hn.things,hn.tags⟩
theorem A2p{l:List Fy}{k:Int}(hk:0<=k/\k<(l.length:Int)){x:Fy}(h:cg x=cg (gt l k)):((l.set k.toNat x).map cg).sum=(l.map cg).sum:=by
 have hlt:k.toNat<l.length:=by omega
 have:=Bck cg l k.toNat hlt x;have e:l[k.toNat]=gt l k:=by rw[<-Gz hlt,show((k.toNat:Nat):Int)=k by omega]
 grind
theorem Bs9{l:List Fy}(w:V0 l){k:Int}(hk:0<=k/\k<(l.length:Int)):V0 (Zo l k)/\((Zo l k).map cg).sum=(l.map cg).sum:=by
 have hn:=w.1 _ (Wq hk.1 hk.2);unfold Zo;cases hp:Wm l (gt l k).v with
 |true=>
  have hi:=ap hp;exact⟨zv w _ (Bs5 (w.1 _ (Wq hi.1 hi.2)) hn.next),A2p hi rfl⟩
 |false=>
  rw[cond_false];cases hc:((gt l k).v==0&&(Wm l (gt l k).s&&(gt l (Ap (gt l k).s 1)).i==A4 k 1))with
  |false=>grind
  |true=>
   simp only[Z4]at hc;have hi:=ap hc.2.1;exact⟨zv w _ (Bs7 (w.1 _ (Wq hi.1 hi.2)) hn.next),A2p hi rfl⟩
theorem Bta{l0 l:List Fy}(w:V0 l)(he:l.length=l0.length)(k nx:Int){pv:Int}(hv:wfi pv):V0 (Zx l0 l k nx pv)/\((Zx l0 l k nx pv).map cg).sum=(l.map cg).sum:=by
 unfold Zx;cases hp:Wm l0 nx with
 |true=>
  have hi:=ap hp;rw[<-he]at hi;exact⟨zv w _ (Bs6 (w.1 _ (Wq hi.1 hi.2)) hv),A2p hi rfl⟩
 |false=>grind
theorem Btb{l:List Fy}(w:V0 l){k:Int}(hk:0<=k/\k<(l.length:Int)):V0 (X9 l k)/\((X9 l k).map cg).sum=(l.map cg).sum/\(X9 l k).length=l.length:=by
 have hn:=w.1 _ (Wq hk.1 hk.2);obtain⟨h1,h2⟩:=Bs9 w hk;have h3:=ta l k;obtain⟨h4,h5⟩:=Bta h1 h3 k (gt l k).u hn.prev;have h6:=zw l (Zo l k) k (gt l k).u (gt l k).v;have hk':0<=k/\k<((Zx l (Zo l k) k (gt l k).u (gt l k).v).length:Int):=by omega
 unfold X9 pj;exact⟨zv h4 _ (Bs8 (h4.1 _ (Wq hk'.1 hk'.2))),(A2p (x:=A2o (gt (Zx l (Zo l k) k (gt l k).u (gt l k).v) k)) hk' rfl).trans (h5.trans h2),by grind⟩
def Zp (w:H4)(k:Int):H4:=H4.mk w.C (V8 w.Q (gt w.o k).L) ((X9 w.o k).set k.toNat (Bs4 (gt (X9 w.o k) k))) (w.p++[Wn (gt w.o k) (A4 k 1)]) w.q
section
variable {K:Nat} (hK:281474976710656<=K)
include hK
theorem Btc (w:H4)(hw:Wp w)(hQ:w.p.length<=140737488355){k:Int}(hk:0<=k/\k<(w.o.length:Int)):Ay7 K w k=some (Zp w k):=by
 have hm:=V2;have hn:=hw.l.1 _ (Wq hk.1 hk.2);have hk':0<=k/\k<((X9 w.o k).length:Int):=by simp_all[Btb,Wp.l]
 unfold Ay7 rb;simp only[if_pos hk,A6n K hn,Z0,Bcm hK w hw _ (Yb hK hn.chunks),Bs3 hK hw.l hk,if_pos hk'];rw[if_pos ⟨by grind,by grind⟩];rfl
end
def tb (c:Sv)(x:G9)(v:Int)(i:Nat):Int:=A4 v (bif ((i:Int)==0)then Wb (Ap c.k x.z) c.m else Wb c.k c.m)
def ay (c:Sv)(x:G9):Int:=
 (List.range x.L.length).foldl (tb c x) (A4 (x.j.length:Int) 1)
section
variable {K:Nat} (hK:281474976710656<=K)
include hK
end
def kq (w:H4)(k:Int):Int:=ay w.C (Wn (gt w.o k) 0)
def Vu (w:H4)(k:Int):List Int:=Gx w.o (gt w.o k).i
def Yd (w:H4)(met:List Int):Prop:=met.Nodup/\ ∀x∈met,0<=x/\x<(w.o.length:Int)
theorem pk{w:H4}{met:List Int}(h:Yd w met):met.length<=w.o.length:=by
 have:=gm (l:=(List.range w.o.length).map (fun i:Nat=>(i:Int))) h.1 (fun x hx=>by
  have:=h.2 x hx;rw[A8];exact⟨x.toNat,by grind,by omega⟩)
 grind
theorem zy{w:H4}{met:List Int}(h:Yd w met){k:Int}(hk:0<=k/\k<(w.o.length:Int))(hn:k ∉ met):Yd w (met++[k]):=by
 refine⟨List.nodup_append.2 ⟨h.1,by simp,fun a ha b hb e=>hn (by grind)⟩,fun x hx=> ?_⟩;rcases C5.1 hx with hx|hx
 ·exact h.2 x hx
 grind
theorem kr (w:H4)(k:Int): ∀x∈Vu w k,0<=x/\x<(w.o.length:Int):=fun x hx=>pd _ _ x hx
theorem Btd (w:H4)(k:Int):(Vu w k).length<=w.o.length:=sx _ _
section
variable {M:Type} (op:M->M->M) (e:M) (g:Int->M) (w:H4)
def Xs (D:List Int->List Int->M×List Int)(s:M×List Int)(k:Int):M×List Int:=
 if k∈s.2 then s else(op s.1 (op (g k) (D (Vu w k) (s.2++[k])).1),(D (Vu w k) (s.2++[k])).2)
def Xw:Nat->List Int->List Int->M×List Int
 |0,ks,met=>ks.foldl (Xs op g w fun _ m=>(e,m)) (e,met)
 |u+1,ks,met=>ks.foldl (Xs op g w (Xw u)) (e,met)
def az:Nat->List Int->List Int->M×List Int
 |0=>fun _ m=>(e,m)
 |u+1=>Xw op e g w u
def Yw:List Int->M
 |[]=>e
 |x::l=>op (g x) (Yw l)
end
section
variable {M:Type} {op:M->M->M} {e:M} {g:Int->M} {w:H4}
theorem kt (u:Nat)(ks met:List Int):Xw op e g w u ks met=ks.foldl (Xs op g w (az op e g w u)) (e,met):=by cases u<;>rfl
def zz (w:H4)(D:List Int->List Int->M×List Int):Prop:= ∀ks met,(∀x∈ks,0<=x/\x<(w.o.length:Int))->Yd w met->Yd w (D ks met).2/\met.length<=(D ks met).2.length
theorem A2q{D:List Int->List Int->M×List Int}(hD:zz w D){s:M×List Int}(hs:Yd w s.2){k:Int}(hk:0<=k/\k<(w.o.length:Int)):Yd w (Xs op g w D s k).2/\s.2.length<=(Xs op g w D s k).2.length:=by
 unfold Xs;by_cases h:k∈s.2
 ·grind
 ·rw[if_neg h];obtain⟨a,b⟩:=hD (Vu w k) (s.2++[k]) (kr w k) (zy hs hk h)
  grind
theorem Bte{D:List Int->List Int->M×List Int}(hD:zz w D): ∀(ks:List Int) (s:M×List Int),(∀x∈ks,0<=x/\x<(w.o.length:Int))->Yd w s.2->Yd w (ks.foldl (Xs op g w D) s).2/\s.2.length<=(ks.foldl (Xs op g w D) s).2.length:=by
 intro ks;induction ks with
 |nil=>grind
 |cons k ks ih=>
  grind [A2q]
theorem ku: ∀u,zz w (az op e g w u):=by
 intro u;induction u with
 |zero=>intro ks met _ h;exact⟨h,Z9 _⟩
 |succ u ih=>
  intro ks met hk h;show Yd w (Xw op e g w u ks met).2/\_<=(Xw op e g w u ks met).2.length;rw[kt];exact Bte ih ks (e,met) hk h
end
def Zq (w:H4)(met:List Int):List Bool:=(List.range w.o.length).map (fun i:Nat=>met.contains (i:Int))
theorem tc (w:H4)(met:List Int):(Zq w met).length=w.o.length:=by simp[Zq]
theorem Btf{w:H4}{met:List Int}{k:Int}(h:0<=k/\k<(w.o.length:Int)):gt (Zq w met) k=met.contains k:=by
 obtain⟨i,rfl⟩: ∃i:Nat,k=i:=⟨k.toNat,by omega⟩
 grind [Gz,Zq]
theorem Btg{w:H4}{met:List Int}{k:Int}(h:0<=k/\k<(w.o.length:Int)):(Zq w met).set k.toNat true=Zq w (met++[k]):=by
 refine List.ext_getElem (by grind [tc]) fun i h1 h2=> ?_
 rw[List.getElem_set];by_cases e:k.toNat=i
 ·rw[if_pos e];simp only[Zq,List.getElem_map,List.getElem_range]
  grind
 ·rw[if_neg e];simp only[Zq,List.getElem_map,List.getElem_range]
  grind
theorem Bth (w:H4):List.replicate w.o.length false=Zq w []:=by
 refine List.ext_getElem (by simp[Zq]) fun i h1 h2=> ?_
 simp[Zq]
theorem Bcq{α σ β:Type}{K:Nat}(hK:281474976710656<=K)(l:List α)(hl:l.length<=140737488355328)(f:σ->α->σ)(s0:σ)(I:σ->Prop)(hI:I s0)(hf: ∀s x,x∈l->I s->I (f s x))(fin:Option β)(L:Nat->σ->Int->Option β)
  (hs: ∀n s (i:Nat) (h:i<l.length),I s->L (n+1) s (i:Int)=L n (f s l[i]) ((i+1:Nat):Int))
  (he: ∀n,L (n+1) (l.foldl f s0) (l.length:Int)=fin):L K s0 0=fin:=by
 have key: ∀(n i:Nat) (s:σ),I s->i<=l.length->l.length - i<n->(l.drop i).foldl f s=l.foldl f s0->L n s (i:Int)=fin:=by
  intro n;induction n with
  |zero=>omega
  |succ n ih=>
   grind [List.drop_eq_getElem_cons]
 exact key K 0 s0 hI (Hc _) (by omega) rfl
theorem Bcr{w:H4}{met met0:List Int}{u:Nat}(h:Yd w met)(h0:met0.length<=met.length)(hu:w.o.length<=met0.length+u){k:Int}(hk:0<=k/\k<(w.o.length:Int))(hn:k ∉ met): ∃v,u=v+1/\w.o.length<=(met++[k]).length+v:=by
 have:=pk (zy h hk hn);rw[Jd,List.length_singleton]at this ⊢;exact⟨u - 1,by omega,by omega⟩
theorem A6q{w:H4}(hw:Wp w)(k:Int):(Vu w k).length<=140737488355327:=by
 have:=Btd w k;have:=hw.l.2;omega
theorem A2r (w:H4):Yd w []:=⟨.nil,fun x h=>(by cases h)⟩
section
variable {K:Nat} (hK:562949953421312<=K)
include hK
end
structure Lk where
 lv:Bool
 gn:Bool
 ep:Int
 up:Int
 ue:Int
 fi:Int
 nx:Int
 pv:Int
section
variable (N:Int) (t:Int->Lk)
def Lv (k:Int):Prop:=(0<=k/\k<N)/\(t k).lv=true
def Cu (k:Int):Prop:=Lv N t ((t k).up - 1)/\(t ((t k).up - 1)).ep=(t k).ue
def Oo (k:Int):Prop:=Lv N t k/\(t k).up≠0/\ ¬Cu N t k
structure dr (k:Int):Prop where
 first:(t k).fi≠0->Lv N t ((t k).fi - 1)/\(t ((t k).fi - 1)).pv=0/\(t ((t k).fi - 1)).up=k+1/\(t ((t k).fi - 1)).ue=(t k).ep
 next:(t k).nx≠0->Lv N t ((t k).nx - 1)/\(t ((t k).nx - 1)).pv=k+1/\(t ((t k).nx - 1)).up=(t k).up/\(t ((t k).nx - 1)).ue=(t k).ue
 prev:(t k).pv≠0->Lv N t ((t k).pv - 1)/\(t ((t k).pv - 1)).nx=k+1
 up:(t k).up≠0->0<=(t k).up - 1/\(t k).up - 1<N
 top:(t k).pv=0->Cu N t k->(t ((t k).up - 1)).fi=k+1
def kids:Nat->Int->List Int
 |0,_=>[]
 |n+1,k=>if 0<=k/\k<N then k::kids n ((t k).nx - 1)else []
def rise:Nat->Int->List Int
 |0,_=>[]
 |n+1,k=>if 0<=k/\k<N then k::rise n ((t k).up - 1)else []
structure Wu:Prop where
 link: ∀k,Lv N t k->dr N t k
 rise: ∀k,Lv N t k->(rise N t N.toNat k).length<=4/\ ∀x,(rise N t N.toNat k).getLast? =some x-> ¬Cu N t x
 bare: ∀k,0<=k->k<N->(t k).lv=false->(t k).up=0/\(t k).fi=0/\(t k).nx=0/\(t k).pv=0
def Wf (r:Int->Nat):Prop:= ∀x,Lv N t x->(t x).pv≠0->r ((t x).pv - 1)<r x
end
section
variable {N:Int} {t:Int->Lk}
theorem Bti (n:Nat)(k:Int):kids N t (n+1) k=if 0<=k/\k<N then k::kids N t n ((t k).nx - 1)else []:=rfl
theorem Btj (n:Nat)(k:Int):rise N t (n+1) k=if 0<=k/\k<N then k::rise N t n ((t k).up - 1)else []:=rfl
theorem Oo.lv{k:Int}(h:Oo N t k):Lv N t k:=h.1
theorem A6r: ∀(n:Nat) (k x:Int),x∈kids N t n k->0<=x/\x<N:=by
 intro n;induction n with
 |zero=>intro k x h;cases h
 |succ n ih=>
  intro k x h;unfold kids at h;split at h
  ·rename_i h1;rcases Ax.1 h with rfl|h
   ·exact h1
   ·exact ih _ x h
  ·cases h
theorem gu (n:Nat):kids N t n (0 - 1)=[]:=by
 cases n with
 |zero=>rfl
 |succ n=>rfl
theorem Btk: ∀(n:Nat) (k:Int),kids N t n k=(kids N t (n+1) k).take n:=by
 intro n;induction n with
 |zero=>grind [kids]
 |succ n ih=>
  grind [Bti]
theorem Btl (T:Wu N t){u e:Int}: ∀(n:Nat) (k:Int),Lv N t k->(t k).up=u->(t k).ue=e-> ∀x∈kids N t n k,Lv N t x/\(t x).up=u/\(t x).ue=e:=by
 intro n;induction n with
 |zero=>intro k _ _ _ x h;cases h
 |succ n ih=>
  intro k h1 h2 h3 x h;unfold kids at h;split at h
  ·rcases Ax.1 h with rfl|h
   ·grind
   ·by_cases h4:(t k).nx=0
    ·grind [gu]
    ·obtain⟨a,_,b,c⟩:=(T.link k h1).next h4
     grind
  ·cases h
theorem Bcs (T:Wu N t){r:Int->Nat}(W:Wf N t r): ∀(n:Nat) (k:Int),Lv N t k->(∀x∈kids N t n k,r k<=r x)/\(kids N t n k).Pairwise (fun a b=>r a<r b):=by
 intro n;induction n with
 |zero=>intro k _;exact⟨fun x h=>(by cases h),.nil⟩
 |succ n ih=>
  intro k h1;unfold kids;split
  ·by_cases h4:(t k).nx=0
   ·rw[h4,gu]
    grind
   ·obtain⟨a,b,_⟩:=(T.link k h1).next h4;obtain⟨i1,i2⟩:=ih _ a;have hr:=W _ a (by omega);rw[b,Int.add_sub_cancel]at hr;refine⟨fun x h=> ?_,List.pairwise_cons.2 ⟨fun x h=> ?_,i2⟩⟩
    all_goals grind
  simp_all
theorem A6s (T:Wu N t){r:Int->Nat}(W:Wf N t r)(n:Nat){k:Int}(h:Lv N t k):(kids N t n k).Nodup:=
 (Bcs T W n k h).2.imp fun h e=>by grind
theorem A2s{l:List Int}(hn:l.Nodup)(h: ∀x∈l,0<=x/\x<N):l.length<=N.toNat:=by
 have:=gm (l:=(List.range N.toNat).map (fun i:Nat=>(i:Int))) hn (fun x hx=>by
  have:=h x hx;rw[A8];exact⟨x.toNat,by grind,by omega⟩)
 grind
theorem Btm: ∀(n:Nat) (k y x:Int),y∈kids N t n k->(t y).nx=x+1->0<=x/\x<N->x∈kids N t n k\/(kids N t n k).length=n:=by
 intro n;induction n with
 |zero=>intro k y x h;cases h
 |succ n ih=>
  intro k y x h h1 h2;unfold kids at h ⊢;split at h
  ·rename_i h3;rw[if_pos h3];rcases Ax.1 h with rfl|h
   ·rw[h1,Int.add_sub_cancel];cases n with
    |zero=>grind [kids]
    |succ n=>simp_all[kids.eq_2]
   grind
  ·cases h
theorem Btn (T:Wu N t){r:Int->Nat}(W:Wf N t r){k:Int}(hk:Lv N t k)(x:Int):
  x∈kids N t N.toNat ((t k).fi - 1) ↔ Lv N t x/\(t x).up=k+1/\(t x).ue=(t k).ep:=by
 constructor
 ·intro h;by_cases h0:(t k).fi=0
  ·grind [gu]
  ·obtain⟨a,_,b,c⟩:=(T.link k hk).first h0;exact Btl T _ _ a b c x h
 ·generalize hn:r x=n;induction n using Nat.strongRecOn generalizing x with
  |_ n ih=>
   intro⟨h1,h2,h3⟩;have hc:Cu N t x:=by simp_all[Cu]
   by_cases hp:(t x).pv=0
   ·have:=(T.link x h1).top hp hc;rw[h2,Int.add_sub_cancel]at this;obtain⟨m,hm⟩: ∃m,N.toNat=m+1:=⟨N.toNat - 1,by have:=h1.1;omega⟩;rw[this,Int.add_sub_cancel,hm,kids,if_pos h1.1];simp
   ·obtain⟨a,b⟩:=(T.link x h1).prev hp;have hr:=W x h1 hp;obtain⟨_,_,c,d⟩:=(T.link _ a).next (by rw[b];have:=h1.1;omega);rw[b,Int.add_sub_cancel]at c d;have hy:=ih _ (by omega) _ rfl ⟨a,c ▸ h2,d ▸ h3⟩;rcases Btm _ _ _ x hy b h1.1 with h|h
    ·exact h
    ·refine Classical.byContradiction fun hx=> ?_
     have h0:(t k).fi≠0:=fun e=>by grind [gu]
     have hd:=A6s T W N.toNat ((T.link k hk).first h0).1;have:=A2s (N:=N) (l:=x::kids N t N.toNat ((t k).fi - 1)) (List.nodup_cons.2 ⟨hx,hd⟩) (fun y hy=>by
      rcases Ax.1 hy with rfl|hy
      ·exact h1.1
      ·exact A6r _ _ y hy)
     grind
theorem A2t (T:Wu N t){r:Int->Nat}(W:Wf N t r)(n:Nat){k:Int}(hk:Lv N t k):(kids N t n ((t k).fi - 1)).Nodup:=by
 by_cases h0:(t k).fi=0
 ·grind [gu]
 ·exact A6s T W n ((T.link k hk).first h0).1
theorem Aad{t':Int->Lk}: ∀(n:Nat) (k:Int),(∀x∈kids N t n k,(t' x).nx=(t x).nx)->kids N t' n k=kids N t n k:=by
 intro n;induction n with
 |zero=>intro k _;rfl
 |succ n ih=>
  simp_all[kids.eq_2]
theorem A2u{t':Int->Lk}: ∀(n:Nat) (k:Int),(∀x∈rise N t n k,(t' x).up=(t x).up)->rise N t' n k=rise N t n k:=by
 intro n;induction n with
 |zero=>intro k _;rfl
 |succ n ih=>
  simp_all[rise]
theorem Bto: ∀(n:Nat) (k:Int),rise N t n k=(rise N t (n+1) k).take n:=by
 intro n;induction n with
 |zero=>grind [rise]
 |succ n ih=>
  grind [Btj]
theorem kw: ∀(n:Nat) (k x:Int),x∈rise N t n k->0<=x/\x<N:=by
 intro n;induction n with
 |zero=>intro k x h;cases h
 |succ n ih=>
  intro k x h;unfold rise at h;split at h
  ·rename_i h1;rcases Ax.1 h with rfl|h
   ·exact h1
   ·exact ih _ x h
  ·cases h
theorem Btp{t':Int->Lk}{g:Int}(h: ∀x,x≠g->(t' x).up=(t x).up)(hg:(t' g).up=0): ∀(n:Nat) (k:Int),
  (rise N t' n k=[] ↔ rise N t n k=[])/\(rise N t' n k).length<=(rise N t n k).length/\((rise N t' n k).getLast? =some g\/(rise N t' n k).getLast? =(rise N t n k).getLast?):=by
 intro n;induction n with
 |zero=>intro k;exact⟨Iff.rfl,Z9 _,.inr rfl⟩
 |succ n ih=>
  intro k;rw[rise,rise];by_cases h1:0<=k/\k<N
  ·rw[if_pos h1,if_pos h1];by_cases e:k=g
   ·subst e;have:rise N t' n (0 - 1)=[]:=by cases n with|zero=>rfl|succ n=>rfl
    grind
   ·rw[h k e];obtain⟨i1,i2,i3⟩:=ih ((t k).up - 1);refine⟨by simp,by grind,?_⟩;cases ha:rise N t' n ((t k).up - 1)with
    |nil=>grind
    |cons a l=>
     cases hb:rise N t n ((t k).up - 1)with
     |nil=>grind
     |cons b m=>
      simp_all
  simp_all[if_neg]
theorem td (T:Wu N t){k:Int}(hk:Lv N t k)(hc:Cu N t k):(t k).up≠k+1:=by
 intro e;obtain⟨_,h⟩:=T.rise k hk;have: ∀n,rise N t (n+1) k=List.replicate (n+1) k:=by
  intro n;induction n with
  |zero=>rw[rise,if_pos hk.1];rfl
  |succ n ih=>rw[rise,if_pos hk.1,e,Int.add_sub_cancel,ih];rfl
 obtain⟨m,hm⟩: ∃m,N.toNat=m+1:=⟨N.toNat - 1,by have:=hk.1;omega⟩;refine h k ?_ hc;rw[hm,this,List.getLast?_replicate,if_neg (by omega)]
def rem (t:Int->Lk)(g:Int)(x:Int):Lk:=
 if x=g then⟨false,true,0,0,0,0,0,0⟩else
  ⟨(t x).lv,(t x).gn,(t x).ep,(t x).up,(t x).ue,if(t g).pv=0/\x+1=(t g).up/\(t x).fi=g+1 then(t g).nx else(t x).fi,if x+1=(t g).pv then(t g).nx else(t x).nx,if x+1=(t g).nx then(t g).pv else(t x).pv⟩
theorem gv{g:Int}:rem t g g=⟨false,true,0,0,0,0,0,0⟩:=if_pos rfl
theorem V3{g x:Int}(h:x≠g):rem t g x=⟨(t x).lv,(t x).gn,(t x).ep,(t x).up,(t x).ue,if(t g).pv=0/\x+1=(t g).up/\(t x).fi=g+1 then(t g).nx else(t x).fi,if x+1=(t g).pv then(t g).nx else(t x).nx,if x+1=(t g).nx then(t g).pv else(t x).pv⟩:=if_neg h
theorem Xb{g x:Int}:Lv N (rem t g) x ↔ x≠g/\Lv N t x:=by
 unfold Lv;by_cases h:x=g
 all_goals grind [gv,V3]
theorem cj{g x:Int}(hx:x≠g):Cu N (rem t g) x ↔ (t x).up≠g+1/\Cu N t x:=by
 unfold Cu;rw[Xb,V3 hx];by_cases h:(t x).up - 1=g
 ·grind
 ·rw[V3 h]
  grind
theorem Bct{g x:Int}(hg:0<=g):Oo N (rem t g) x ↔ x≠g/\(Oo N t x\/Lv N t x/\(t x).up=g+1):=by
 unfold Oo;rw[Xb];by_cases h:x=g
 ·simp[h]
 ·rw[cj h,V3 h]
  grind
theorem Btq (T:Wu N t){g x:Int}(hg:Lv N t g)(hx:Lv N (rem t g) x):dr N (rem t g) x:=by
 obtain⟨hne,hl⟩:=Xb.1 hx;have G:=T.link g hg;have X:=T.link x hl;have g0:=hg.1;have x0:=hl.1;refine⟨?_,?_,?_,?_,?_⟩
 ·rw[V3 hne];intro h;simp only at h ⊢;by_cases hA:(t g).pv=0/\x+1=(t g).up/\(t x).fi=g+1
  ·rw[if_pos hA]at h ⊢;obtain⟨a,b,c,d⟩:=G.next h;have hm:(t g).nx - 1≠g:=fun e=>by grind
   obtain⟨_,_,_,f4⟩:=X.first (by omega);simp_all[V3,Xb]
  ·rw[if_neg hA]at h ⊢;obtain⟨a,b,c,d⟩:=X.first h;have hm:(t x).fi - 1≠g:=fun e=>by grind
   rw[V3 hm];refine⟨Xb.2 ⟨hm,a⟩,?_,c,d⟩;simp only;rw[if_neg]
   ·exact b
   ·intro e;have:=(G.next (by omega)).2.1
    grind
 ·rw[V3 hne];intro h;simp only at h ⊢;by_cases hA:x+1=(t g).pv
  ·rw[if_pos hA]at h ⊢;obtain⟨a,b,c,d⟩:=G.next h;have hm:(t g).nx - 1≠g:=fun e=>by grind
   obtain⟨_,p2⟩:=G.prev (by omega);rw[<-hA,Int.add_sub_cancel]at p2;obtain⟨_,_,q3,q4⟩:=X.next (by omega);simp_all[V3,Xb]
  ·rw[if_neg hA]at h ⊢;obtain⟨a,b,c,d⟩:=X.next h;have hm:(t x).nx - 1≠g:=fun e=>by grind
   rw[V3 hm];refine⟨Xb.2 ⟨hm,a⟩,?_,c,d⟩;simp only;rw[if_neg]
   ·exact b
   ·intro e;have:=(G.next (by omega)).2.1
    grind
 ·rw[V3 hne];intro h;simp only at h ⊢;by_cases hA:x+1=(t g).nx
  ·rw[if_pos hA]at h ⊢;obtain⟨a,b⟩:=G.prev h;have hm:(t g).pv - 1≠g:=fun e=>by grind
   simp_all[V3,Xb]
  ·rw[if_neg hA]at h ⊢;obtain⟨a,b⟩:=X.prev h;have hm:(t x).pv - 1≠g:=fun e=>by grind
   rw[V3 hm];refine⟨Xb.2 ⟨hm,a⟩,?_⟩;simp only;rw[if_neg]
   ·exact b
   ·intro e;have:=(G.prev (by omega)).2
    grind
 ·rw[V3 hne];exact X.up
 ·intro h hc;obtain⟨c1,c2⟩:=(cj hne).1 hc;rw[V3 hne]at h ⊢;simp only at h ⊢;have hm:(t x).up - 1≠g:=by omega
  rw[V3 hm];simp only;by_cases hA:x+1=(t g).nx
  ·rw[if_pos hA]at h;obtain⟨_,_,q3,q4⟩:=G.next (by omega);rw[<-hA,Int.add_sub_cancel]at q3 q4;have hcg:Cu N t g:=by grind [Cu]
   have:=G.top h hcg
   grind
  ·rw[if_neg hA]at h;have:=X.top h c2;omega
theorem A6t (T:Wu N t){g:Int}(hg:Lv N t g):Wu N (rem t g):=by
 refine⟨fun k hk=>Btq T hg hk,fun k hk=> ?_,fun k h0 h1 h=> ?_⟩
 ·obtain⟨hne,hl⟩:=Xb.1 hk;obtain⟨r1,r2⟩:=T.rise k hl;obtain⟨_,c1,c2⟩:=Btp (t:=t) (t':=rem t g) (N:=N) (g:=g) (fun x hx=>by rw[V3 hx]) (by rw[gv]) N.toNat k;refine⟨by omega,fun x hx hc=> ?_⟩;by_cases e:x=g
  ·subst e;unfold Cu at hc;rw[gv]at hc;have:=hc.1.1.1
   grind
  ·rcases c2 with c2|c2
   ·grind
   simp_all[cj]
 ·by_cases e:k=g
  ·simp_all[gv]
  ·rw[V3 e]at h ⊢;simp only at h ⊢;obtain⟨a,b,c,d⟩:=T.bare k h0 h1 h;have G:=T.link g hg;refine⟨a,?_,?_,?_⟩
   ·rw[if_neg (fun q=>by have:=hg.1;omega)];exact b
   ·rw[if_neg]
    ·exact c
    ·intro q;have:=(G.prev (by omega)).1.2
     grind
   ·rw[if_neg]
    ·exact d
    ·intro q;have:=(G.next (by omega)).1.2
     grind
theorem Btr (T:Wu N t){r:Int->Nat}(W:Wf N t r){g:Int}(hg:Lv N t g):Wf N (rem t g) r:=by
 intro x hx h;obtain⟨hne,hl⟩:=Xb.1 hx;rw[V3 hne]at h ⊢;simp only at h ⊢;by_cases hA:x+1=(t g).nx
 ·rw[if_pos hA]at h ⊢;have h1:=W g hg h;have h2:=((T.link g hg).next (by have:=hl.1;omega)).2.1;rw[<-hA,Int.add_sub_cancel]at h2;have h3:=W x hl (by have:=hg.1;omega)
  grind
 ·rw[if_neg hA]at h ⊢;exact W x hl h
end
section
variable (N:Int) (t:Int->Lk)
def kf (f:Int):List Int:=kids N t N.toNat (f - 1)
structure dt (fs:List Int):Prop where
 nodup:(fs.flatMap (kf N t)).Nodup
 iff: ∀x,x∈fs.flatMap (kf N t) ↔ Oo N t x
 top: ∀f∈fs,f≠0->(0<=f - 1/\f - 1<N)/\(t (f - 1)).pv=0
inductive Dd (S:List Int):Int->Prop
 |base {y:Int}:y∈S->Dd S y
 |step {y:Int}:Lv N t y->Cu N t y->Dd S ((t y).up - 1)->Dd S y
inductive Al:Int->Prop
 |root {y:Int}:Lv N t y->(t y).up=0->Al y
 |step {y:Int}:Lv N t y->Cu N t y->Al ((t y).up - 1)->Al y
def pm:List Int->List (Int×Int)->Prop
 |_,[]=>True
 |seen,e::q=>(∀y,Dd N t (kf N t e.2) y-> ∀x,Lv N t x->(t x).up=y+1-> ¬Cu N t x->x∈seen)/\(e.1≠0-> ∀x,Lv N t x->(t x).up=e.1->x∈seen++kf N t e.2)/\pm (seen++kf N t e.2) q
structure V4 (qs:List (Int×Int)):Prop where
 tree:Wu N t
 wf: ∃r,Wf N t r
 uw: ∃d:Int->Nat,∀x,Lv N t x->Cu N t x->d ((t x).up - 1)<d x
 kid:dt N t (qs.map (·.2))
 ord:pm N t [] qs
 gone: ∀x,Lv N t x->(t x).up≠0->(t ((t x).up - 1)).lv=true\/(t ((t x).up - 1)).gn=true
 ep: ∀x,Lv N t x->Lv N t ((t x).up - 1)->(t x).ue<=(t ((t x).up - 1)).ep
 slot: ∀e∈qs,e.1≠0->(t (e.1 - 1)).lv=false/\(t (e.1 - 1)).gn=true
end
section
variable {N:Int} {t:Int->Lk}
theorem Al.lv{y:Int}(h:Al N t y):Lv N t y:=by cases h<;>assumption
theorem Al.noOr{y:Int}(h:Al N t y): ¬Oo N t y:=by
 intro g;cases h with
 |root a b=>exact g.2.1 b
 |step a b c=>exact g.2.2 b
theorem Al.noDd{S:List Int}(hS: ∀x∈S,Oo N t x){y:Int}(h:Al N t y): ¬Dd N t S y:=by
 induction h with
 |root a b=>
  intro g;cases g with
  |base g=>exact(hS _ g).2.1 b
  |step g1 g2 g3=>have:=g2.1.1.1;omega
 |step a b c ih=>
  intro g;cases g with
  |base g=>exact(hS _ g).2.2 b
  |step g1 g2 g3=>grind
theorem Dd.in{S:List Int}(hS: ∀x∈S,0<=x/\x<N){y:Int}(h:Dd N t S y):0<=y/\y<N:=by
 cases h with
 |base h=>grind
 |step h _ _=>exact h.1
theorem tf{f x:Int}(h:x∈kf N t f):0<=x/\x<N:=A6r _ _ _ h
theorem dt.or{fs:List Int}(h:dt N t fs){f:Int}(hf:f∈fs){x:Int}(hx:x∈kf N t f):Oo N t x:=
 (h.iff x).1 (List.mem_flatMap.2 ⟨f,hf,hx⟩)
theorem sib (T:Wu N t){g x:Int}(hg:Lv N t g)(h:x+1=(t g).pv)(hx:0<=x):Lv N t x/\(t g).up=(t x).up/\(t g).ue=(t x).ue:=by
 obtain⟨a,b⟩:=(T.link g hg).prev (by omega);rw[<-h,Int.add_sub_cancel]at a b;obtain⟨_,_,c,d⟩:=(T.link x a).next (by rw[b];have:=hg.1;omega);rw[b,Int.add_sub_cancel]at c d;exact⟨a,c,d⟩
theorem Bcv{g x:Int}(h1:(t g).up=(t x).up)(h2:(t g).ue=(t x).ue):Cu N t g ↔ Cu N t x:=by unfold Cu;rw[h1,h2]
theorem Y6 (T:Wu N t){r:Int->Nat}(W:Wf N t r){g:Int}(hg:Lv N t g)(x:Int):x∈kf N t (t g).fi ↔ Lv N t x/\(t x).up=g+1/\Cu N t x:=by
 unfold kf;rw[Btn T W hg];constructor
 ·simp_all[Cu]
 ·rintro⟨a,b,c⟩;refine⟨a,b,?_⟩
  have:=c.2
  grind
theorem A2v{g f:Int}(h: ∀x∈kf N t f,x≠g/\x+1≠(t g).pv):kf N (rem t g) f=kf N t f:=
 Aad _ _ fun x hx=>by
  obtain⟨a,b⟩:=h x hx;simp_all[V3]
theorem gx (T:Wu N t){r:Int->Nat}(W:Wf N t r){g:Int}(hg:Lv N t g):kf N (rem t g) (t g).fi=kf N t (t g).fi:=by
 refine A2v fun x hx=> ?_;obtain⟨a,b,c⟩:=(Y6 T W hg x).1 hx;constructor
 ·grind [td]
 ·intro e;obtain⟨_,h1,h2⟩:=sib T hg e a.1.1;exact td T hg ((Bcv h1 h2).2 c) (h1.trans b)
theorem A6u (T:Wu N t){g f:Int}(hg:Lv N t g)(h:(0<=f - 1/\f - 1<N)/\(t (f - 1)).pv=0):(0<=f - 1/\f - 1<N)/\(rem t g (f - 1)).pv=0:=by
 refine⟨h.1,?_⟩;by_cases e:f - 1=g
 ·rw[e,gv]
 ·rw[V3 e];simp only;rw[if_neg]
  ·exact h.2
  ·intro q;have:=((T.link g hg).next (by omega)).2.1;rw[<-q,Int.add_sub_cancel,h.2]at this;have:=hg.1;omega
theorem Bcw (T:Wu N t){g:Int}(hg:Lv N t g)(h:(t g).fi≠0):(0<=(t g).fi - 1/\(t g).fi - 1<N)/\(rem t g ((t g).fi - 1)).pv=0:=by
 obtain⟨a,b,_⟩:=(T.link g hg).first h;exact A6u T hg ⟨a.1,b⟩
theorem ck{α:Type}{a b:List α}:(a++b).Nodup ↔ a.Nodup/\b.Nodup/\ ∀x∈a,x ∉ b:=by
 grind
theorem Yx{α β:Type}{l:List α}{f g:α->List β}(h: ∀x∈l,f x=g x):l.flatMap f=l.flatMap g:=by
 induction l with
 |nil=>rfl
 |cons x l ih=>rw[List.flatMap_cons,List.flatMap_cons,h x (by simp),ih fun y hy=>h y (by simp[hy])]
theorem A6v (T:Wu N t){g:Int}(hg:Lv N t g)(ho: ¬Oo N t g){fs:List Int}(K:dt N t fs){f:Int}(hf:f∈fs):kf N (rem t g) f=kf N t f:=by
 refine A2v fun x hx=> ?_
 have hx:=K.or hf hx;constructor
 ·grind
 ·intro e;obtain⟨_,h1,h2⟩:=sib T hg e hx.1.1.1;exact ho ⟨hg,h1 ▸ hx.2.1,fun c=>hx.2.2 ((Bcv h1 h2).1 c)⟩
theorem Bts (T:Wu N t){r:Int->Nat}(W:Wf N t r){g:Int}(hg:Lv N t g)(ho: ¬Oo N t g){fs:List Int}(K:dt N t fs):dt N (rem t g) (fs++[(t g).fi]):=by
 have e:(fs++[(t g).fi]).flatMap (kf N (rem t g))=fs.flatMap (kf N t)++kf N t (t g).fi:=by
  grind [gx,Yx,A6v]
 refine⟨?_,fun x=> ?_,fun f hf h0=> ?_⟩
 ·rw[e,ck];exact⟨K.nodup,A2t T W _ hg,fun x h1 h2=>((K.iff x).1 h1).2.2 ((Y6 T W hg x).1 h2).2.2⟩
 ·rw[e,C5,K.iff,Y6 T W hg,Bct hg.1.1];constructor
  ·grind [td]
  ·rintro⟨a,h|⟨b,c⟩⟩
   ·grind
   ·by_cases d:Cu N t x
    ·grind
    ·exact .inl ⟨b,by have:=hg.1.1;omega,d⟩
 ·rw[C5,Dt]at hf;rcases hf with hf|rfl
  ·exact A6u T hg (K.top f hf h0)
  ·exact Bcw T hg h0
theorem Aaf{f:Int}(h:0<=f - 1/\f - 1<N):f - 1∈kf N t f:=by
 unfold kf;obtain⟨m,hm⟩: ∃m,N.toNat=m+1:=⟨N.toNat - 1,by omega⟩;rw[hm,kids,if_pos h];simp
theorem tj (T:Wu N t){r:Int->Nat}(W:Wf N t r){g:Int}(hg:Lv N t g):kf N t (g+1)=g::kf N t (t g).nx:=by
 unfold kf;obtain⟨m,hm⟩: ∃m,N.toNat=m+1:=⟨N.toNat - 1,by have:=hg.1;omega⟩;rw[Int.add_sub_cancel,hm,kids,if_pos hg.1];congr 1;rw[Btk,List.take_of_length_le];by_cases h0:(t g).nx=0
 ·rw[h0,gu];grind
 ·obtain⟨a,b,_⟩:=(T.link g hg).next h0;have hr:=W _ a (by rw[b];have:=hg.1;omega);rw[b,Int.add_sub_cancel]at hr;have hn:g ∉ kids N t (m+1) ((t g).nx - 1):=fun h=>by
   have:=(Bcs T W (m+1) _ a).1 g h;omega
  have:=A2s (N:=N) (List.nodup_cons.2 ⟨hn,A6s T W (m+1) a⟩) (fun y hy=>by
   rcases Ax.1 hy with rfl|hy
   ·exact hg.1
   ·exact A6r _ _ y hy)
  grind
theorem Bcx (T:Wu N t){r:Int->Nat}(W:Wf N t r){g:Int}(hg:Lv N t g){fs:List Int}(K:dt N t ((g+1)::fs)):
  (∀f∈(t g).nx::fs,kf N (rem t g) f=kf N t f)/\dt N (rem t g) ((t g).fi::(t g).nx::fs):=by
 have h0:(t g).pv=0:=by have:=(K.top (g+1) (by simp) (by have:=hg.1;omega)).2;grind
 have ho:Oo N t g:=K.or (f:=g+1) (by simp) (by have:=Aaf (N:=N) (t:=t) (f:=g+1) (by rw[Int.add_sub_cancel];exact hg.1);grind);have hnd:=K.nodup;rw[List.flatMap_cons,tj T W hg]at hnd;rw[Gh,List.nodup_cons]at hnd;have hold: ∀f∈(t g).nx::fs,kf N (rem t g) f=kf N t f:=fun f hf=>A2v fun x hx=>by
  refine⟨?_,fun e=>by have:=tf hx;omega⟩
  grind
 have e:((t g).fi::(t g).nx::fs).flatMap (kf N (rem t g))=kf N t (t g).fi++((t g).nx::fs).flatMap (kf N t):=by
  grind [gx,Yx]
 have hsub: ∀x,x∈((t g).nx::fs).flatMap (kf N t) ↔ Oo N t x/\x≠g:=by
  intro x;have:=K.iff x;rw[List.flatMap_cons,tj T W hg,Gh,Ax]at this
  grind
 refine⟨hold,?_,fun x=> ?_,fun f hf h1=> ?_⟩
 ·rw[e,ck];refine⟨A2t T W _ hg,by grind,fun x h1 h2=>((hsub x).1 h2).1.2.2 ((Y6 T W hg x).1 h1).2.2⟩
 ·rw[e,C5,hsub,Y6 T W hg,Bct hg.1.1];constructor
  ·grind [td]
  ·rintro⟨a,h|⟨b,c⟩⟩
   ·grind
   ·by_cases d:Cu N t x
    ·grind
    ·exact .inr ⟨⟨b,by have:=hg.1.1;omega,d⟩,a⟩
 ·rcases Ax.1 hf with rfl|hf
  ·exact Bcw T hg h1
  ·rcases Ax.1 hf with rfl|hf
   ·obtain⟨a,b,_⟩:=(T.link g hg).next h1;have hm:(t g).nx - 1≠g:=fun q=>by grind
    refine⟨a.1,?_⟩;simp_all[V3]
   ·exact A6u T hg (K.top f (by simp[hf]) h1)
theorem Aai{t':Int->Lk}: ∀(q:List (Int×Int)) (seen seen':List Int),(∀e∈q,kf N t' e.2=kf N t e.2)->
  (∀e∈q,∀y,Dd N t' (kf N t' e.2) y->Dd N t (kf N t e.2) y/\ ∀x,Lv N t' x->(t' x).up=y+1-> ¬Cu N t' x->x∈seen'\/Lv N t x/\(t x).up=y+1/\ ¬Cu N t x)->
  (∀e∈q,e.1≠0-> ∀x,Lv N t' x->(t' x).up=e.1->x∈seen'\/Lv N t x/\(t x).up=e.1)->
  (∀x∈seen,Lv N t' x->x∈seen')->pm N t seen q->pm N t' seen' q:=by
 intro q;induction q with
 |nil=>intros;trivial
 |cons e q ih=>
  intro seen seen' hk hd hsl hs h;obtain⟨h1,h2,h3⟩:=h;have hke:=hk e (by simp);refine⟨fun y hy x hx hu hc=> ?_,fun h0 x hx hu=> ?_,?_⟩
  ·grind
  ·grind
  ·rw[hke];refine ih (seen++kf N t e.2) _ (fun f hf=>hk f (by simp[hf])) (fun f hf y hy=> ?_) (fun f hf h0 x hx hu=> ?_) (fun x hx hl=> ?_) h3
   all_goals grind
theorem Bcy: ∀(q:List (Int×Int)) (seen:List Int) (e:Int×Int),pm N t seen q->
  (∀y,Dd N t (kf N t e.2) y-> ∀x,Lv N t x->(t x).up=y+1-> ¬Cu N t x->x∈seen++q.flatMap (fun e=>kf N t e.2))->
  (e.1≠0-> ∀x,Lv N t x->(t x).up=e.1->x∈(seen++q.flatMap (fun e=>kf N t e.2))++kf N t e.2)->pm N t seen (q++[e]):=by
 intro q;induction q with
 |nil=>intro seen e h h1 h2;rw[List.flatMap_nil,List.append_nil]at h1 h2;exact⟨h1,h2,trivial⟩
 |cons f q ih=>
  intro seen e h h1 h2;obtain⟨a,b,c⟩:=h;rw[List.flatMap_cons,<-Je]at h1 h2;exact⟨a,b,ih _ e c h1 h2⟩
theorem A2w{g:Int}{S:List Int}{y:Int}(h:Dd N (rem t g) S y):Dd N t S y:=by
 induction h with
 |base h=>exact .base h
 |step a b c ih=>
  obtain⟨h1,h2⟩:=Xb.1 a;rw[V3 h1]at ih;exact .step h2 ((cj h1).1 b).2 ih
theorem Abf{g:Int}{S:List Int}(hS:g ∉ S){y:Int}(h:Dd N (rem t g) S y):y≠g:=by
 cases h with
 |base h=>grind
 |step a _ _=>exact(Xb.1 a).1
theorem Bcz{qs qs':List (Int×Int)}(F:V4 N t qs){g:Int}(hg:Lv N t g)(hK:dt N (rem t g) (qs'.map (·.2)))(hO:pm N (rem t g) [] qs')(hs: ∀e∈qs',e.1≠0->e.1=g+1\/e.1∈qs.map (·.1)):V4 N (rem t g) qs':=by
 obtain⟨r,W⟩:=F.wf;obtain⟨d,U⟩:=F.uw;refine⟨A6t F.tree hg,⟨r,Btr F.tree W hg⟩,⟨d,fun x hx hc=> ?_⟩,hK,hO,fun x hx h=> ?_,fun x hx h=> ?_,fun e he h0=> ?_⟩
 ·obtain⟨h1,h2⟩:=Xb.1 hx;rw[V3 h1];exact U x h2 ((cj h1).1 hc).2
 ·obtain⟨h1,h2⟩:=Xb.1 hx;rw[V3 h1]at h ⊢;simp only at h ⊢;by_cases e:(t x).up - 1=g
  ·simp_all[gv]
  grind [V3,V4.gone]
 ·obtain⟨h1,h2⟩:=Xb.1 hx;rw[V3 h1]at h ⊢;simp only at h ⊢;obtain⟨h3,h4⟩:=Xb.1 h
  grind [V3,V4.ep]
 ·by_cases e1:e.1 - 1=g
  ·simp_all[gv]
  ·rw[V3 e1];rcases hs e he h0 with h|h
   ·omega
   ·obtain⟨a,ha,hb⟩:=A8.1 h
    grind [V4.slot]
theorem Btt{qs:List (Int×Int)}(F:V4 N t qs){g:Int}(hg:Al N t g):V4 N (rem t g) (qs++[(g+1,(t g).fi)]):=by
 obtain⟨r,W⟩:=F.wf;have hl:=hg.lv;have T:=F.tree;have K:=F.kid;have hK:=Bts T W hl hg.noOr K;rw[show qs.map (·.2)++[(t g).fi]=(qs++[(g+1,(t g).fi)]).map (·.2)by simp]at hK;have hold: ∀e∈qs,kf N (rem t g) e.2=kf N t e.2:=fun e he=>A6v T hl hg.noOr K (A8.2 ⟨e,he,rfl⟩)
 have hgn: ∀e∈qs,g ∉ kf N t e.2:=fun e he h=>hg.noOr (K.or (A8.2 ⟨e,he,rfl⟩) h)
 have hflat:qs.flatMap (fun e=>kf N (rem t g) e.2)=(qs.map (·.2)).flatMap (kf N t):=by
  grind [Yx]
 refine Bcz F hl hK (Bcy _ _ _ (Aai qs [] [] hold (fun e he y hy=> ?_) (fun e he h0 x hx hu=> ?_) (fun x hx=>by cases hx) F.ord) (fun y hy x hx hu hc=> ?_) (fun _ x hx hu=> ?_)) (fun e he h0=> ?_)
 ·have hy2:=Abf (by grind) hy;refine⟨by grind [A2w],fun x hx hu hc=> .inr ?_⟩;simp_all[Xb,V3,cj]
 ·simp_all[Xb,V3]
 ·rw[Hd,hflat,K.iff];obtain⟨a,b⟩:=Xb.1 hx;rw[V3 a]at hu;simp only at hu;rw[gx T W hl]at hy;have hgc:g ∉ kf N t (t g).fi:=fun h=>by obtain⟨_,h2,h3⟩:=(Y6 T W hl g).1 h;grind [td]
  have hy2:=Abf hgc hy;have hy0:=Dd.in (fun x hx=>tf hx) hy;exact⟨b,by omega,fun h=>hc ((cj a).2 ⟨by omega,h⟩)⟩
 ·rw[Hd,hflat,gx T W hl,C5,K.iff,Y6 T W hl];obtain⟨a,b⟩:=Xb.1 hx;rw[V3 a]at hu;simp only at hu;by_cases c:Cu N t x
  ·grind
  ·exact .inl ⟨b,by omega,c⟩
 grind
theorem Btu{qs:List (Int×Int)}{s g:Int}(F:V4 N t ((s,g+1)::qs))(h0:0<=g):Lv N t g/\(t g).pv=0/\V4 N (rem t g) ((g+1,(t g).fi)::(s,(t g).nx)::qs):=by
 obtain⟨r,W⟩:=F.wf;have T:=F.tree;have K:=F.kid;rw[Z8]at K;obtain⟨k1,k2⟩:=K.top (g+1) (by simp) (by omega);have hgm:g∈kf N t (g+1):=by have:=Aaf (N:=N) (t:=t) k1;grind
 have ho:Oo N t g:=K.or (f:=g+1) (by simp) hgm;have hl:=ho.1;rw[Int.add_sub_cancel]at k2;obtain⟨hold,hK⟩:=Bcx T W hl K;obtain⟨o1,o2,o3⟩:=F.ord;simp only[Hd]at o1 o2 o3;have hsp:=tj T W hl;have hgc:g ∉ kf N t (t g).fi:=fun h=>by obtain⟨_,h2,h3⟩:=(Y6 T W hl g).1 h;grind [td]
 have hchild: ∀y,Dd N t (kf N t (t g).fi) y->Dd N t (kf N t (g+1)) y:=by
  intro y hy;induction hy with
  |base h=>
   obtain⟨a,b,c⟩:=(Y6 T W hl _).1 h;exact .step a c (by rw[b,Int.add_sub_cancel];exact .base hgm)
  |step a b c ih=>exact .step a b ih
 have hnone: ∀y,Dd N t (kf N t (g+1)) y-> ∀x,Lv N t x->(t x).up=y+1->Cu N t x:=fun y hy x hx hu=>Classical.byContradiction fun h=>by grind
 refine⟨hl,k2,Bcz F hl hK ⟨fun y hy x hx hu hc=> ?_,fun _ x hx hu=> ?_,fun y hy x hx hu hc=> ?_,fun hs x hx hu=> ?_,?_⟩ (fun e he h1=> ?_)⟩
 ·exfalso;rw[gx T W hl]at hy;have hy2:=Abf hgc hy;obtain⟨a,b⟩:=Xb.1 hx;rw[V3 a]at hu;simp only at hu;exact hc ((cj a).2 ⟨by omega,hnone y (hchild y (A2w hy)) x b hu⟩)
 ·rw[Hd,gx T W hl,Y6 T W hl];obtain⟨a,b⟩:=Xb.1 hx;rw[V3 a]at hu;simp only at hu;exact⟨b,hu,hnone g (.base hgm) x b hu⟩
 ·exfalso;rw[hold _ (by simp)]at hy;have hgt:g ∉ kf N t (t g).nx:=by
   have:=K.nodup
   grind
  have hy2:=Abf hgt hy;obtain⟨a,b⟩:=Xb.1 hx;rw[V3 a]at hu;simp only at hu;have hd:Dd N t (kf N t (g+1)) y:=by
   have:=A2w hy;rw[hsp];clear hy hu;induction this with
   |base h=>exact .base (Pv _ h)
   |step a b c ih=>
    exact .step a b (Classical.byCases (fun e:(t _).up - 1=g=>by rw[e];exact .base (by simp)) (fun e=>ih e))
  exact hc ((cj a).2 ⟨by omega,hnone y hd x b hu⟩)
 ·rw[Hd,gx T W hl,hold _ (by simp)];obtain⟨a,b⟩:=Xb.1 hx;rw[V3 a]at hu
  grind
 ·rw[Hd,gx T W hl,hold _ (by simp)];have hq: ∀e∈qs,e.2∈(t g).nx::qs.map (·.2):=fun e he=>Pv _ (A8.2 ⟨e,he,rfl⟩)
  have hnd:=K.nodup;rw[List.flatMap_cons,hsp,Gh,List.nodup_cons]at hnd;refine Aai qs (kf N t (g+1)) _ (fun e he=>hold _ (hq e he)) (fun e he y hy=> ?_) (fun e he _ x hx hu=> ?_) (fun x hx hl'=> ?_) o3
  ·rw[hold _ (hq e he)]at hy;have hy2:=Abf (fun h=>hnd.1 (List.mem_append_right _ (List.mem_flatMap.2 ⟨e.2,A8.2 ⟨e,he,rfl⟩,h⟩))) hy;refine⟨A2w hy,fun x hx hu hc=> .inr ?_⟩;obtain⟨a,b⟩:=Xb.1 hx;simp_all[V3,cj]
  ·simp_all[Xb,V3]
  ·rw[hsp]at hx;rcases Ax.1 hx with h|h
   ·exact absurd h (Xb.1 hl').1
   grind
 grind
end
section
variable {N:Int} {t:Int->Lk}
def Xx (t:Int->Lk)(k x:Int):Lk:=if x=k then⟨(t k).lv,(t k).gn,(t k).ep+1,(t k).up,(t k).ue,0,(t k).nx,(t k).pv⟩else t x
theorem tk{k:Int}:Xx t k k=⟨(t k).lv,(t k).gn,(t k).ep+1,(t k).up,(t k).ue,0,(t k).nx,(t k).pv⟩:=if_pos rfl
theorem ky{k x:Int}(h:x≠k):Xx t k x=t x:=if_neg h
theorem W3 (k x:Int):(Xx t k x).lv=(t x).lv/\(Xx t k x).gn=(t x).gn/\(Xx t k x).up=(t x).up/\(Xx t k x).ue=(t x).ue/\(Xx t k x).nx=(t x).nx/\(Xx t k x).pv=(t x).pv:=by
 by_cases h:x=k
 all_goals simp_all[tk,ky]
theorem X5{k x:Int}:Lv N (Xx t k) x ↔ Lv N t x:=by simp_all[Lv,W3]
theorem pn (hE: ∀x,Lv N t x->Lv N t ((t x).up - 1)->(t x).ue<=(t ((t x).up - 1)).ep){k x:Int}(hx:Lv N t x):Cu N (Xx t k) x ↔ (t x).up≠k+1/\Cu N t x:=by
 unfold Cu;rw[X5,(W3 k x).2.2.1,(W3 k x).2.2.2.1];by_cases h:(t x).up - 1=k
 ·grind [tk]
 ·rw[ky h]
  grind
theorem A2x{k x:Int}(hx:(t x).up≠k+1):Cu N (Xx t k) x ↔ Cu N t x:=by
 unfold Cu;rw[X5,(W3 k x).2.2.1,(W3 k x).2.2.2.1,ky (by omega)]
theorem Aef (k f:Int):kf N (Xx t k) f=kf N t f:=Aad _ _ fun x _=>(W3 k x).2.2.2.2.1
theorem Btv (k:Int)(n:Nat)(x:Int):rise N (Xx t k) n x=rise N t n x:=A2u _ _ fun x _=>(W3 k x).2.2.1
theorem Btw (T:Wu N t)(hE: ∀x,Lv N t x->Lv N t ((t x).up - 1)->(t x).ue<=(t ((t x).up - 1)).ep){k:Int}(hk:Lv N t k):Wu N (Xx t k):=by
 refine⟨fun x hx=> ?_,fun x hx=> ?_,fun x h0 h1 h=> ?_⟩
 ·have hl:=X5.1 hx;have X:=T.link x hl;obtain⟨s1,s2,s3,s4,s5,s6⟩:=W3 (t:=t) k x;refine⟨fun h=> ?_,fun h=> ?_,fun h=> ?_,fun h=> ?_,fun h hc=> ?_⟩
  ·by_cases e:x=k
   ·simp_all[tk]
   ·rw[ky e]at h ⊢;obtain⟨a,b,c,d⟩:=X.first h;obtain⟨q1,q2,q3,q4,q5,q6⟩:=W3 (t:=t) k ((t x).fi - 1)
    grind [X5]
  ·rw[s5]at h ⊢;obtain⟨q1,q2,q3,q4,q5,q6⟩:=W3 (t:=t) k ((t x).nx - 1)
   grind [X5,dr.next]
  ·rw[s6]at h ⊢;rw[X5,(W3 k _).2.2.2.2.1];exact X.prev h
  ·rw[s3]at h ⊢;exact X.up h
  ·rw[s6]at h;obtain⟨a,b⟩:=(pn hE hl).1 hc
   grind [ky,dr.top]
 ·have hl:=X5.1 hx;rw[Btv];obtain⟨a,b⟩:=T.rise x hl;refine⟨a,fun y hy hc=> ?_⟩;have hy2:=b y hy;by_cases e:Lv N t y
  ·simp_all[pn]
  ·have hin:=kw _ _ y (List.mem_of_getLast? hy);have:=(T.bare y hin.1 hin.2 (by cases q:(t y).lv with|false=>rfl|true=>exact absurd ⟨hin,q⟩ e)).1
   unfold Cu at hc;rw[(W3 k y).2.2.1,this]at hc;have:=hc.1.1.1;omega
 ·by_cases e:x=k
  ·subst e;rw[tk]at h;have:=hk.2;grind
  grind [ky,Wu.bare]
theorem Bc0 (hE: ∀x,Lv N t x->Lv N t ((t x).up - 1)->(t x).ue<=(t ((t x).up - 1)).ep){k x:Int}(hk:0<=k):Oo N (Xx t k) x ↔ Oo N t x\/Lv N t x/\(t x).up=k+1:=by
 unfold Oo;rw[X5,(W3 k x).2.2.1];constructor
 ·rintro⟨a,b,c⟩
  by_cases e:(t x).up=k+1
  all_goals simp_all[pn]
 ·rintro(⟨a,b,c⟩|⟨a,b⟩)
  ·simp_all[pn]
  ·exact⟨a,by omega,fun d=>((pn hE a).1 d).1 b⟩
theorem Btx{qs:List (Int×Int)}(F:V4 N t qs){k:Int}(hg:Al N t k):V4 N (Xx t k) (qs++[(0,(t k).fi)]):=by
 obtain⟨r,W⟩:=F.wf;obtain⟨d,U⟩:=F.uw;have hl:=hg.lv;have T:=F.tree;have K:=F.kid;have hE:=F.ep;have hflat:qs.flatMap (fun e=>kf N (Xx t k) e.2)=(qs.map (·.2)).flatMap (kf N t):=by
  simp_all[List.flatMap_map,Aef]
 have hfl2:((qs++[((0:Int),(t k).fi)]).map (fun e:Int×Int=>e.2)).flatMap (kf N (Xx t k))=(qs.map (·.2)).flatMap (kf N t)++kf N t (t k).fi:=by
  grind [List.flatMap_map,Aef]
 refine⟨Btw T hE hl,⟨r,fun x hx h=> ?_⟩,⟨d,fun x hx hc=> ?_⟩,⟨?_,fun x=> ?_,fun f hf h0=> ?_⟩,Bcy _ _ _ (Aai qs [] [] (fun e _=>Aef k e.2) (fun e he y hy=> ?_) (fun e he _ x hx hu=> ?_) (fun x hx=>by cases hx) F.ord) (fun y hy x hx hu hc=> ?_) (fun h=>absurd rfl h),fun x hx h=> ?_,fun x hx h=> ?_,fun e he h0=> ?_⟩
 ·rw[(W3 k x).2.2.2.2.2]at h ⊢;exact W x (X5.1 hx) h
 ·simp_all[W3,X5,pn]
 ·rw[hfl2,ck];exact⟨K.nodup,A2t T W _ hl,fun x h1 h2=>((K.iff x).1 h1).2.2 ((Y6 T W hl x).1 h2).2.2⟩
 ·rw[hfl2,C5,K.iff,Y6 T W hl,Bc0 hE hl.1.1];constructor
  ·grind
  ·rintro(h|⟨b,c⟩)
   ·grind
   ·by_cases d:Cu N t x
    ·grind
    ·exact .inl ⟨b,by have:=hl.1.1;omega,d⟩
 ·rw[(W3 k _).2.2.2.2.2];rw[Er,C5]at hf;rcases hf with hf|hf
  ·exact K.top f hf h0
  ·simp only[Z8,De,Dt]at hf;subst hf;obtain⟨a,b,_⟩:=(T.link k hl).first h0;exact⟨a.1,b⟩
 ·have hor: ∀x∈kf N t e.2,Oo N t x:=fun x hx=>K.or (A8.2 ⟨e,he,rfl⟩) hx
  have hy2:Dd N t (kf N t e.2) y:=by
   rw[Aef]at hy;induction hy with
   |base h=>exact .base h
   |step a b c ih=>
    rw[(W3 k _).2.2.1]at ih;exact .step (X5.1 a) ((pn hE (X5.1 a)).1 b).2 ih
  refine⟨hy2,fun x hx hu hc=> .inr ?_⟩;rw[(W3 k x).2.2.1]at hu;have hne:y≠k:=fun q=>hg.noDd hor (q ▸ hy2)
  simp_all[X5,A2x]
 ·simp_all[W3,X5]
 ·rw[Hd,hflat,K.iff];rw[(W3 k x).2.2.1]at hu;have hy0:=Dd.in (fun x hx=>tf hx) hy;have hal:Al N (Xx t k) k:=by
   clear hy hu hc hx;cases hg with
   |root a b=>exact .root (X5.2 a) (by simp_all[W3])
   |step a b c=>
    have key: ∀z,Al N t z->d z<d k->Al N (Xx t k) z:=by
     intro z hz;induction hz with
     |root a b=>intro _;exact .root (X5.2 a) (by simp_all[W3])
     | @step z a b c ih=>
      intro h1;have h2:=U z a b;have hne:(t z).up≠k+1:=fun q=>by grind
      exact .step (X5.2 a) ((A2x hne).2 b) (by rw[(W3 k _).2.2.1];grind)
    have h2:=U k a b;have hne:(t k).up≠k+1:=fun q=>by grind
    exact .step (X5.2 a) ((A2x hne).2 b) (by simp_all[W3])
  have hne:y≠k:=fun q=>by
   refine hal.noDd (S:=kf N (Xx t k) (t k).fi) (fun z hz=> ?_) (q ▸ hy);rw[Aef,Y6 T W hl]at hz;simp_all[Bc0]
  exact⟨X5.1 hx,by omega,fun h=>hc ((A2x (by omega)).2 h)⟩
 ·rw[(W3 k x).2.2.1]at h ⊢;rw[(W3 k _).1,(W3 k _).2.1];exact F.gone x (X5.1 hx) h
 ·rw[(W3 k x).2.2.1]at h ⊢;rw[(W3 k x).2.2.2.1];have:=hE x (X5.1 hx) (X5.1 h);by_cases e:(t x).up - 1=k
  all_goals grind [tk,ky]
 ·rw[(W3 k _).1,(W3 k _).2.1];rcases C5.1 he with he|he
  ·exact F.slot e he h0
  ·rw[Dt]at he;rw[he]at h0;exact absurd rfl h0
def Yt (t:Int->Lk)(k x:Int):Lk:=if x=k then⟨false,false,0,0,0,0,0,0⟩else t x
theorem Bc1{qs:List (Int×Int)}{s:Int}(F:V4 N t ((s,0)::qs)):V4 N t qs:=by
 obtain⟨o1,o2,o3⟩:=F.ord;have h0:kf N t 0=[]:=gu _;have K:=F.kid;simp only[h0,List.append_nil]at o3;refine⟨F.tree,F.wf,F.uw,?_,o3,F.gone,F.ep,fun e he=>F.slot e (Pv _ he)⟩;refine⟨?_,fun x=> ?_,fun f hf=>K.top f (Pv _ hf)⟩
 ·have:=K.nodup;grind
 ·have:=K.iff x;grind
theorem Yy{k:Int}(h:(t k).lv=false){x:Int}:Lv N (Yt t k) x ↔ Lv N t x:=by
 unfold Lv Yt
 grind
theorem Xy{k:Int}(h:(t k).lv=false){x:Int}(hx:Lv N t x):Yt t k x=t x:=by
 unfold Yt;rw[if_neg];intro e;subst e;have:=hx.2
 grind
theorem tm{k:Int}(h:(t k).lv=false){x:Int}(hx:Lv N t x):Cu N (Yt t k) x ↔ Cu N t x:=by
 grind [Cu,Xy,Yy]
theorem Bty{qs:List (Int×Int)}{s:Int}(F:V4 N t ((s,0)::qs))(h0:s≠0)(hs: ∀e∈qs,e.1≠s):V4 N (Yt t (s - 1)) qs:=by
 have F':=Bc1 F;obtain⟨r,W⟩:=F.wf;obtain⟨d,U⟩:=F.uw;have T:=F.tree;have K:=F'.kid;obtain⟨hlv,hgn⟩:=F.slot (s,0) (by simp) h0;simp only at hlv hgn;have hno: ∀x,Lv N t x->(t x).up≠s:=fun x hx e=>by
  have:=F.ord.2.1 h0 x hx e;rw[show kf N t ((s,(0:Int)).2)=[] from gu _]at this;cases this
 have hnl: ∀x,x≠s - 1->Yt t (s - 1) x=t x:=fun x h=>if_neg h
 have hup: ∀x,(0<=x/\x<N)->(Yt t (s - 1) x).up=(t x).up:=fun x h=>by
  by_cases e:x=s - 1
  ·subst e;rw[(T.bare _ h.1 h.2 hlv).1];simp_all[Yt]
  grind
 have hri: ∀n x,rise N (Yt t (s - 1)) n x=rise N t n x:=fun n x=>A2u n x fun y hy=>hup y (kw _ _ y hy)
 have hkf: ∀f∈qs.map (·.2),kf N (Yt t (s - 1)) f=kf N t f:=fun f hf=>Aad _ _ fun x hx=>by rw[Xy hlv (K.or hf hx).1]
 have hor: ∀x,Oo N (Yt t (s - 1)) x ↔ Oo N t x:=fun x=>by
  grind [Oo,Yy,Xy,tm]
 have hdd: ∀S y,Dd N (Yt t (s - 1)) S y->Dd N t S y:=fun S y h=>by
  induction h with
  |base h=>exact .base h
  |step a b c ih=>
   have a:=(Yy hlv).1 a;rw[Xy hlv a]at ih;exact .step a ((tm hlv a).1 b) ih
 refine⟨⟨fun x hx=> ?_,fun x hx=> ?_,fun x h0 h1 h=> ?_⟩,⟨r,fun x hx h=> ?_⟩,⟨d,fun x hx hc=> ?_⟩,⟨?_,fun x=> ?_,fun f hf h1=> ?_⟩,?_,fun x hx h=> ?_,fun x hx h=> ?_,fun e he h1=> ?_⟩
 ·have hl:=(Yy hlv).1 hx;have X:=T.link x hl;refine⟨fun h=> ?_,fun h=> ?_,fun h=> ?_,fun h=> ?_,fun h hc=> ?_⟩
  ·rw[Xy hlv hl]at h ⊢;have a:=(X.first h).1
   grind [Yy,Xy,dr.first]
  ·rw[Xy hlv hl]at h ⊢;have a:=(X.next h).1
   grind [Yy,Xy,dr.next]
  ·rw[Xy hlv hl]at h ⊢;have a:=(X.prev h).1
   grind [Yy,Xy,dr.prev]
  ·grind [Xy,dr.up]
  ·have hc:=(tm hlv hl).1 hc;rw[Xy hlv hl]at h ⊢;rw[Xy hlv hc.1];exact X.top h hc
 ·have hl:=(Yy hlv).1 hx;rw[hri];obtain⟨a,b⟩:=T.rise x hl;refine⟨a,fun y hy hc=>b y hy ?_⟩;unfold Cu at hc ⊢;rw[hup y (kw _ _ y (List.mem_of_getLast? hy)),Yy hlv]at hc;refine⟨hc.1,?_⟩;rw[<-Xy hlv hc.1,hc.2];by_cases e:y=s - 1
  ·subst e;have hin:=kw _ _ _ (List.mem_of_getLast? hy);have:=(T.bare _ hin.1 hin.2 hlv).1;rw[this]at hc;have:=hc.1.1.1;omega
  grind
 ·by_cases e:x=s - 1
  ·simp_all[Yt]
  grind [Wu.bare]
 ·have hl:=(Yy hlv).1 hx;rw[Xy hlv hl]at h ⊢;exact W x hl h
 ·have hl:=(Yy hlv).1 hx;rw[Xy hlv hl];simp_all[tm]
 ·rw[Yx hkf];exact K.nodup
 ·rw[Yx hkf,K.iff,hor]
 ·obtain⟨a,b⟩:=K.top f hf h1;refine⟨a,?_⟩;rw[Xy hlv (K.or hf (Aaf a)).1];exact b
 ·have hk: ∀e∈qs,kf N (Yt t (s - 1)) e.2=kf N t e.2:=fun e he=>hkf _ (A8.2 ⟨e,he,rfl⟩);refine Aai qs [] [] hk (fun e he y hy=>⟨by grind,fun x hx hu hc=> ?_⟩) (fun e he h1 x hx hu=> ?_) (fun x hx=>by cases hx) F'.ord
  ·have hl:=(Yy hlv).1 hx;rw[Xy hlv hl]at hu;simp_all[tm]
  ·have hl:=(Yy hlv).1 hx
   grind [Xy]
 ·have hl:=(Yy hlv).1 hx
  grind [Xy,V4.gone]
 ·have hl:=(Yy hlv).1 hx;rw[Xy hlv hl]at h ⊢;have h2:=(Yy hlv).1 h
  grind [V4.ep]
 grind [V4.slot]
end
section
variable {N:Int} {t:Int->Lk}
def Yj (t:Int->Lk)(k p x:Int):Lk:=
 if x=k then⟨true,false,0,p+1,if p+1=0 then 0 else(t p).ep,0,if p+1=0 then 0 else(t p).fi,0⟩
 else⟨(t x).lv,(t x).gn,(t x).ep,(t x).up,(t x).ue,if x=p then k+1 else(t x).fi,(t x).nx,if p+1≠0/\x+1=(t p).fi then k+1 else(t x).pv⟩
theorem X6{k p:Int}:Yj t k p k=⟨true,false,0,p+1,if p+1=0 then 0 else(t p).ep,0,if p+1=0 then 0 else(t p).fi,0⟩:=if_pos rfl
theorem Xl{k p x:Int}(h:x≠k):Yj t k p x=⟨(t x).lv,(t x).gn,(t x).ep,(t x).up,(t x).ue,if x=p then k+1 else(t x).fi,(t x).nx,if p+1≠0/\x+1=(t p).fi then k+1 else(t x).pv⟩:=if_neg h
theorem Btz: ∀(n:Nat) (x y:Int),y∈rise N t n x->y=x\/ ∃z,z∈rise N t n x/\(t z).up - 1=y:=by
 intro n;induction n with
 |zero=>intro x y h;cases h
 |succ n ih=>
  intro x y h;rw[rise]at h ⊢
  grind
theorem Bc2{d:Int->Nat}(U: ∀x,Lv N t x->Cu N t x->d ((t x).up - 1)<d x): ∀(n:Nat) (x:Int),Al N t x->(∀y∈rise N t n x,d y<=d x/\Al N t y)/\(rise N t n x).Pairwise (fun a b=>d b<d a):=by
 intro n;induction n with
 |zero=>intro x _;exact⟨fun y h=>(by cases h),.nil⟩
 |succ n ih=>
  intro x hx;rw[rise,if_pos hx.lv.1];cases hx with
  |root a b=>
   have:rise N t n ((t x).up - 1)=[]:=by rw[b];cases n with|zero=>rfl|succ n=>rfl
   rw[this];exact⟨fun y h=>by rw[Dt.1 h];exact⟨Z9 _,.root a b⟩,List.pairwise_singleton ..⟩
  |step a b c=>
   obtain⟨i1,i2⟩:=ih _ c;have h2:=U x a b;refine⟨fun y h=> ?_,List.pairwise_cons.2 ⟨fun y h=> ?_,i2⟩⟩
   ·rcases Ax.1 h with rfl|h
    ·exact⟨Z9 _,.step a b c⟩
    grind
   grind
theorem Bt0{qs:List (Int×Int)}(F:V4 N t qs){k p:Int}(hk:0<=k/\k<N)(hlv:(t k).lv=false)(hgn:(t k).gn=false)(hp:p= -1\/Al N t p/\(rise N t N.toNat p).length<4):V4 N (Yj t k p) qs:=by
 obtain⟨r,W⟩:=F.wf;obtain⟨d,U⟩:=F.uw;have T:=F.tree;have K:=F.kid;have hne: ∀ {x},Lv N t x->x≠k:=fun {x} h e=>by subst e;rw[h.2]at hlv;cases hlv
 have hno: ∀x,Lv N t x->(t x).up≠k+1:=fun x hx e=>by
  rcases F.gone x hx (by omega)with h|h
  all_goals grind
 have hp0:p+1≠0->Al N t p:=fun h=>by
  grind
 have hp1: ∀x,Lv N t x->x=p->p+1≠0:=fun x hx e=>by have:=hx.1.1;omega
 have L: ∀x,Lv N (Yj t k p) x ↔ x=k\/Lv N t x:=fun x=>by
  unfold Lv;by_cases e:x=k
  all_goals grind [X6,Xl]
 have hL: ∀ {x},Lv N t x->Lv N (Yj t k p) x:=fun h=>(L _).2 (.inr h)
 have hup: ∀x,x≠k->(Yj t k p x).up=(t x).up:=fun x h=>by rw[Xl h]
 have C: ∀x,x≠k->(t x).up≠k+1->(Cu N (Yj t k p) x ↔ Cu N t x):=fun x h h1=>by
  unfold Cu;rw[L,hup x h,Xl (x:=(t x).up - 1) (by omega),Xl h]
  grind
 have Ck:p+1≠0->Cu N (Yj t k p) k:=fun h=>by
  simp_all[Al.lv,Cu,X6,Xl]
 have Cn:p+1=0-> ¬Cu N (Yj t k p) k:=fun h c=>by
  unfold Cu at c;rw[X6]at c
  grind
 have hkf: ∀f∈qs.map (·.2),kf N (Yj t k p) f=kf N t f:=fun f hf=>Aad _ _ fun x hx=>by rw[Xl (hne (K.or hf hx).1)]
 have hor: ∀x,Oo N (Yj t k p) x ↔ Oo N t x:=fun x=>by
  unfold Oo;rw[L];by_cases e:x=k
  ·subst e;constructor
   ·grind [X6]
   grind
  grind
 have hrk: ∀x,Lv N t x-> ∀n,k ∉ rise N t n x:=fun x hx n h=>by
  rcases Btz _ _ _ h with h|⟨z,h1,h2⟩
  ·grind
  ·by_cases hz:(t z).lv=true
   ·exact hno z ⟨kw _ _ _ h1,hz⟩ (by omega)
   ·have:=kw _ _ _ h1;have:=(T.bare z this.1 this.2 (by grind)).1;omega
 have hri: ∀x,Lv N t x-> ∀n,rise N (Yj t k p) n x=rise N t n x:=fun x hx n=>A2u n x fun y hy=>hup y fun e=>hrk x hx n (e ▸ hy)
 have hlast: ∀x,Lv N t x-> ∀y,(rise N t N.toNat x).getLast? =some y-> ¬Cu N (Yj t k p) y:=fun x hx y hy hc=>by
  have hm:=List.mem_of_getLast? hy;have hyk:y≠k:=fun e=>hrk x hx _ (e ▸ hm)
  have hin:=kw _ _ _ hm;by_cases hz:(t y).lv=true
  ·exact(T.rise x hx).2 y hy ((C y hyk (hno y ⟨hin,hz⟩)).1 hc)
  ·have:=(T.bare y hin.1 hin.2 (by grind)).1;unfold Cu at hc;rw[hup y hyk,this]at hc;have:=hc.1.1.1;omega
 obtain⟨m,hm⟩: ∃m,N.toNat=m+1:=⟨N.toNat - 1,by omega⟩;have hpk:p+1≠0->rise N (Yj t k p) N.toNat k=k::rise N t N.toNat p:=fun h=>by
  have ha:=hp0 h;rw[hm,rise,if_pos hk,X6];simp only;rw[Int.add_sub_cancel,hri p ha.lv,<-hm];congr 1;rw[hm,Bto,List.take_of_length_le];obtain⟨i1,i2⟩:=Bc2 U (m+1) p ha;have:=A2s (N:=N) (List.nodup_cons.2 ⟨hrk p ha.lv (m+1),i2.imp fun h e=>by grind⟩) (fun y hy=>by
   rcases Ax.1 hy with rfl|hy
   ·exact hk
   ·exact kw _ _ y hy)
  grind
 refine⟨⟨fun x hx=> ?_,fun x hx=> ?_,fun x h0 h1 h=> ?_⟩,⟨fun x=>if x=k then 0 else r x+1,fun x hx h=> ?_⟩,⟨fun x=>if x=k then d p+1 else d x,fun x hx hc=> ?_⟩,⟨?_,fun x=> ?_,fun f hf h1=> ?_⟩,?_,fun x hx h=> ?_,fun x hx h=> ?_,fun e he h1=> ?_⟩
 ·by_cases e:x=k
  ·subst e;refine⟨fun h=> ?_,fun h=> ?_,fun h=> ?_,fun h=> ?_,fun h hc=> ?_⟩
   ·simp_all[X6]
   ·rw[X6]at h ⊢;simp only at h ⊢;by_cases hq:p+1=0
    ·omega
    ·rw[if_neg hq]at h ⊢;rw[if_neg hq];obtain⟨a,b,c,e⟩:=(T.link p (hp0 hq).lv).first h;simp_all[Xl]
   ·simp_all[X6]
   ·rw[X6]at h ⊢;simp only at h ⊢;rw[Int.add_sub_cancel];exact(hp0 h).lv.1
   ·by_cases hq:p+1=0
    ·grind
    ·rw[X6];simp only;rw[Int.add_sub_cancel,Xl (hne (hp0 hq).lv)];simp
  ·have hl:=((L x).1 hx).resolve_left e;have X:=T.link x hl;refine⟨fun h=> ?_,fun h=> ?_,fun h=> ?_,fun h=> ?_,fun h hc=> ?_⟩
   ·rw[Xl e]at h ⊢;simp only at h ⊢;by_cases hq:x=p
    ·have hq1:=hp1 x hl hq;rw[if_pos hq,Int.add_sub_cancel,X6]
     grind
    ·rw[if_neg hq]at h ⊢;obtain⟨a,b,c,f⟩:=X.first h;rw[Xl (hne a)];simp only;rw[if_neg]
     ·grind
     ·rintro⟨g1,g2⟩
      have:=((T.link p (hp0 g1).lv).first (by omega)).2.2.1
      grind
   ·rw[Xl e]at h ⊢;simp only at h ⊢;obtain⟨a,b,c,f⟩:=X.next h;rw[Xl (hne a)];simp only;rw[if_neg]
    ·grind
    ·rintro⟨g1,g2⟩
     have:=((T.link p (hp0 g1).lv).first (by omega)).2.1;rw[<-g2,Int.add_sub_cancel]at this;have:=hl.1;omega
   ·rw[Xl e]at h ⊢;simp only at h ⊢;by_cases hq:p+1≠0/\x+1=(t p).fi
    ·rw[if_pos hq,Int.add_sub_cancel,X6]
     grind
    ·rw[if_neg hq]at h ⊢
     grind [dr.prev,Xl]
   ·rw[Xl e]at h ⊢;exact X.up h
   ·have hc:=(C x e (hno x hl)).1 hc;rw[Xl e]at h ⊢;simp only at h ⊢;by_cases hq:p+1≠0/\x+1=(t p).fi
    ·omega
    ·rw[if_neg hq]at h;have:=X.top h hc;rw[Xl (hne hc.1)];simp only;rw[if_neg]
     ·exact this
     ·intro g;rw[g]at this;exact hq ⟨hp1 _ hc.1 g,by omega⟩
 ·by_cases e:x=k
  ·subst e;by_cases hq:p+1=0
   ·have:rise N (Yj t x p) N.toNat x=[x]:=by
     rw[hm,rise,if_pos hk,X6];simp only;rw[hq];cases m with
     |zero=>rfl
     |succ m=>rfl
    simp_all
   ·rw[hpk hq];rcases hp with rfl|hp
    ·omega
    ·refine⟨by grind,fun y hy=> ?_⟩;have:rise N t N.toNat p≠[]:=by rw[hm,rise,if_pos hp.1.lv.1];simp
     rw[List.getLast?_cons]at hy;refine hlast p hp.1.lv y ?_;simp_all[rise,List.getLast?_cons]
  ·have hl:=((L x).1 hx).resolve_left e;rw[hri x hl];exact⟨(T.rise x hl).1,hlast x hl⟩
 ·by_cases e:x=k
  ·grind [X6]
  ·rw[Xl e]at h ⊢;simp only at h ⊢;obtain⟨a,b,c,f⟩:=T.bare x h0 h1 h;refine⟨a,?_,c,?_⟩
   ·rw[if_neg]
    ·exact b
    ·intro g;have:=(hp0 (by omega)).lv.2
     grind
   ·rw[if_neg]
    ·exact f
    ·rintro⟨g1,g2⟩
     have:=((T.link p (hp0 g1).lv).first (by omega)).1.2
     grind
 ·by_cases e:x=k
  ·simp_all[X6]
  ·have hl:=((L x).1 hx).resolve_left e;rw[Xl e]at h ⊢;simp only at h ⊢;simp only[if_neg e];by_cases hq:p+1≠0/\x+1=(t p).fi
   ·grind
   ·rw[if_neg hq]at h ⊢;rw[if_neg (hne ((T.link x hl).prev h).1)];have:=W x hl h;omega
 ·by_cases e:x=k
  ·subst e;by_cases hq:p+1=0
   all_goals simp_all[X6,Al.lv]
  grind
 ·rw[Yx hkf];exact K.nodup
 ·rw[Yx hkf,K.iff,hor]
 ·obtain⟨a,b⟩:=K.top f hf h1;have ho:=K.or hf (Aaf (N:=N) (t:=t) a);refine⟨a,?_⟩;rw[Xl (hne ho.1)];simp only;rw[if_neg]
  ·exact b
  ·rintro⟨g1,g2⟩
   have hpl:=(hp0 g1).lv;obtain⟨_,_,c3,c4⟩:=(T.link p hpl).first (by omega);rw[<-g2,Int.add_sub_cancel]at c3 c4;exact ho.2.2 (by simp_all[Cu])
 ·have hk2: ∀e∈qs,kf N (Yj t k p) e.2=kf N t e.2:=fun e he=>hkf _ (A8.2 ⟨e,he,rfl⟩);refine Aai qs [] [] hk2 (fun e he y hy=> ?_) (fun e he h1 x hx hu=> ?_) (fun x hx=>by cases hx) F.ord
  ·have hS: ∀x∈kf N t e.2,Oo N t x:=fun x hx=>K.or (A8.2 ⟨e,he,rfl⟩) hx;rw[hk2 e he]at hy
   have hy2:Dd N t (kf N t e.2) y:=by
    induction hy with
    |base h=>exact .base h
    | @step y a b c ih=>
     by_cases q:y=k
     ·subst q;by_cases hq:p+1=0
      all_goals simp_all[X6,Al.noDd]
     ·have hl:=((L y).1 a).resolve_left q;rw[hup y q]at ih;exact .step hl ((C y q (hno y hl)).1 b) ih
   refine⟨hy2,fun x hx hu hc=> .inr ?_⟩;by_cases q:x=k
   ·subst q;by_cases hq:p+1=0
    ·rw[X6]at hu;simp only at hu;have:=Dd.in (fun x hx=>tf hx) hy2;omega
    grind
   grind
  ·by_cases q:x=k
   ·subst q;rw[X6]at hu;simp only at hu;have:=(hp0 (by omega)).lv.2;have h3:=(F.slot e he h1).1
    grind
   grind
 ·by_cases e:x=k
  ·subst e;rw[X6]at h ⊢;simp only at h ⊢;rw[Int.add_sub_cancel,Xl (hne (hp0 h).lv)];exact .inl (hp0 h).lv.2
  ·have hl:=((L x).1 hx).resolve_left e
   grind [Xl,V4.gone]
 ·by_cases e:x=k
  ·subst e;rw[X6]at h ⊢;simp only at h ⊢;by_cases hq:p+1=0
   ·grind
   ·rw[if_neg hq,Int.add_sub_cancel,Xl (hne (hp0 hq).lv)]
    grind
  ·have hl:=((L x).1 hx).resolve_left e;rw[hup x e]at h ⊢;have hu:=hno x hl;have h2:=((L _).1 h).resolve_left (by omega)
   grind [Xl,V4.ep]
 ·have:=F.slot e he h1;have q:e.1 - 1≠k:=fun q=>by grind
  grind [Xl]
end
theorem tn{x:Int}(h0: -1000000000<=x)(h1:x<=1000000000):Ap x 1=x - 1:=by unfold Ap Aly;rw[Xk (by omega)]
theorem V9{x:Int}(h: -1000000000<=x/\x<=1000000000):Ap x 1=x - 1:=tn h.1 h.2
theorem Ye{x:Int}(h0: -1000000000<=x)(h1:x<=1000000000):A4 x 1=x+1:=by unfold A4 Fp;rw[Xk (by omega)]
def Yk (n:Fy):Lk:=⟨n.c==1,n.c==2,n.f,n.s,n.t,n.i,n.u,n.v⟩
def V6 (l:List Fy)(t:Int->Lk):Prop:= ∀k,0<=k/\k<(l.length:Int)->t k=Yk (gt l k)
structure Rg (l:List Fy):Prop where
 len:l.length<=8
 rg: ∀k,0<=k/\k<(l.length:Int)->(0<=(gt l k).s/\(gt l k).s<=l.length)/\(0<=(gt l k).i/\(gt l k).i<=l.length)/\(0<=(gt l k).u/\(gt l k).u<=l.length)/\(0<=(gt l k).v/\(gt l k).v<=l.length)
theorem Y7{l:List Fy}{t:Int->Lk}(A:V6 l t){k:Int}:Lv l.length t k ↔ (0<=k/\k<(l.length:Int))/\(gt l k).c=1:=by
 unfold Lv;constructor
 ·rintro⟨a,b⟩;rw[A _ a]at b;grind [Yk]
 ·rintro⟨a,b⟩;rw[A _ a];grind [Yk]
theorem Bt1{l:List Fy}{t:Int->Lk}(A:V6 l t)(R:Rg l): ∀(n:Nat) (k:Int),Yr l n k=kids l.length t n k:=by
 intro n;induction n with
 |zero=>intro k;rfl
 |succ n ih=>
  intro k;rw[Yr,kids];split
  ·rename_i h;have:=(R.rg k h).2.2.1;have:=R.len;rw[A _ h,V9 (by omega),ih];rfl
  ·rfl
theorem A2y{l:List Fy}{t:Int->Lk}(A:V6 l t)(R:Rg l): ∀(n:Nat) (k:Int),Vy l n k=rise l.length t n k:=by
 intro n;induction n with
 |zero=>intro k;rfl
 |succ n ih=>
  intro k;rw[Vy,rise];split
  ·rename_i h;have:=(R.rg k h).1;have:=R.len;rw[A _ h,V9 (by omega),ih];rfl
  ·rfl
theorem la{l:List Fy}{t:Int->Lk}(A:V6 l t)(R:Rg l){f:Int}(h0:0<=f)(h1:f<=1000):Gx l f=kf l.length t f:=by
 grind [Gx,kf,tn,Bt1,Int.toNat_natCast]
theorem tp{l:List Fy}{n:Int}(h0:0<=n)(h1:n<=1000):Wm l n=true ↔ 0<=n - 1/\n - 1<(l.length:Int):=by
 unfold Wm;rw[V9 (by omega),decide_eq_true_iff]
theorem Aeg{l:List Fy}{t:Int->Lk}(A:V6 l t)(R:Rg l){k:Int}(h:0<=k/\k<(l.length:Int)):Zn l k=true ↔ Cu l.length t k:=by
 have h1:=(R.rg k h).1;have h2:=R.len;unfold Zn Cu;rw[Z4,Z4,tp h1.1 (by omega),beq_iff_eq,beq_iff_eq,V9 (by omega),A _ h];show _ ↔ Lv _ _ ((gt l k).s - 1)/\(t ((gt l k).s - 1)).ep=(gt l k).t;rw[Y7 A];constructor
 ·rintro⟨a,b,c⟩;rw[A _ a];exact⟨⟨a,b⟩,c⟩
 ·rintro⟨⟨a,b⟩,c⟩;rw[A _ a]at c;exact⟨a,b,c⟩
theorem Bc3{l:List Fy}{t:Int->Lk}(A:V6 l t)(R:Rg l){k:Int}(h:0<=k/\k<(l.length:Int)):Ys l k=true ↔ Oo l.length t k:=by
 unfold Ys Oo;rw[Z4,Z4,beq_iff_eq,bne_iff_ne,Gg,Y7 A,<-Aeg A R h,A _ h,Bool.not_eq_true];exact⟨fun⟨a,b,c⟩=>⟨⟨h,a⟩,b,c⟩,fun⟨⟨_,a⟩,b,c⟩=>⟨a,b,c⟩⟩
theorem A6w{l:List Fy}{t:Int->Lk}(A:V6 l t){n:Int}(h0:0<=n)(h1:n<=1000):Xa l n=true ↔ (n≠0->Lv l.length t (n - 1)):=by
 unfold Xa;rw[Bool.or_eq_true,beq_iff_eq,Z4,tp h0 h1,beq_iff_eq,Y7 A,V9 (by omega)];omega
theorem A6x{a:Int}{b:Bool}{P:Prop}(h:b=true ↔ P):(a==0||b)=true ↔ (a≠0->P):=by
 grind
theorem Bc4{l:List Fy}{t:Int->Lk}(A:V6 l t)(R:Rg l){k:Int}(h:0<=k/\k<(l.length:Int)):dn l k=true ↔ dr l.length t k:=by
 obtain⟨r1,r2,r3,r4⟩:=R.rg k h;have h2:=R.len;have eg: ∀n,Lv l.length t n->t n=Yk (gt l n):=fun n hn=>A _ hn.1
 have ek:=A _ h;unfold dn A2e sw kh dm aq;rw[Ye (by omega) (by omega),V9 (x:=(gt l k).i) (by omega),V9 (x:=(gt l k).u) (by omega),V9 (x:=(gt l k).v) (by omega),V9 (x:=(gt l k).s) (by omega)];simp only[Z4,A6w A r2.1 (by omega:(gt l k).i<=1000),A6w A r3.1 (by omega:(gt l k).u<=1000),A6w A r4.1 (by omega:(gt l k).v<=1000),A6x (tp r1.1 (by omega:(gt l k).s<=1000)),A6x Bool.and_eq_true_iff,A6x beq_iff_eq,beq_iff_eq];constructor
 ·rintro⟨⟨a1,a2,a3,a4⟩,a5,a6,a7,a8⟩;refine⟨?_,?_,?_,?_,?_⟩
  ·simp_all[Yk]
  ·simp_all[Yk]
  ·simp_all[Yk]
  ·rw[ek];exact a4
  ·rw[ek];intro q c;have hc:=(Aeg A R h).2 c;have hu:=c.1;rw[ek]at hu;have hu:Lv l.length t ((gt l k).s - 1):=hu;rw[show(Yk (gt l k)).up=(gt l k).s from rfl,eg _ hu];rw[show(Yk (gt l k)).pv=(gt l k).v from rfl]at q;rw[q,hc]at a8;show(gt l ((gt l k).s - 1)).i=k+1
   grind
 ·intro L;obtain⟨a1,a2,a3,a4,a5⟩:=L;rw[ek]at a1 a2 a3 a4 a5;refine⟨⟨fun q=>(a1 q).1,fun q=>(a2 q).1,fun q=>(a3 q).1,a4⟩,fun q=> ?_,fun q=> ?_,fun q=> ?_,?_⟩
  ·obtain⟨b1,b2,b3,b4⟩:=a1 q;rw[eg _ b1]at b2 b3 b4;exact⟨b2,b3,b4⟩
  ·obtain⟨b1,b2,b3,b4⟩:=a2 q;rw[eg _ b1]at b2 b3 b4;exact⟨b2,b3,b4⟩
  ·obtain⟨b1,b2⟩:=a3 q;rw[eg _ b1]at b2;exact b2
  ·by_cases q:(gt l k).v=0
   ·cases hc:Zn l k with
    |false=>simp
    |true=>
     have c:=(Aeg A R h).1 hc;have hu:=c.1;rw[ek]at hu;have:=a5 q c;rw[eg _ hu]at this;simp only[Bool.or_eq_true,beq_iff_eq];exact .inr this
   grind
theorem Bt2{r:List Int}(h:r≠[]):r.getLast? =some (kg r):=by
 unfold kg;rw[Gz (by have:=List.length_pos_iff.2 h;omega),List.getLast?_eq_getElem?]
 grind
theorem Bt3{l:List Fy}{t:Int->Lk}(A:V6 l t)(R:Rg l)(hb: ∀k,0<=k/\k<(l.length:Int)->(gt l k).c≠1->(gt l k).s=0/\(gt l k).i=0/\(gt l k).u=0/\(gt l k).v=0):pb l=true ↔ Wu l.length t:=by
 have key: ∀k,0<=k/\k<(l.length:Int)->(Zw l k=true ↔ (rise l.length t (l.length:Int).toNat k).length<=4/\ ∀x,(rise l.length t (l.length:Int).toNat k).getLast? =some x-> ¬Cu l.length t x):=by
  intro k h;unfold Zw;have hne:Vy l l.length k≠[]:=fun e=>by have:=A59 h;grind
  have hin:=A6a h;rw[Int.toNat_natCast,<-A2y A R,Z4,decide_eq_true_iff,Gg,Bt2 hne];constructor
  ·grind [Aeg]
  ·rintro⟨a,b⟩;refine⟨by omega,?_⟩
   have:=b _ rfl
   grind [Aeg]
 unfold pb;rw[Z1];constructor
 ·intro h;have h2: ∀k,Lv l.length t k->dn l k=true/\Zw l k=true:=by
   intro k hk;obtain⟨a,b⟩:=(Y7 A).1 hk;have:=h k.toNat (by grind)
   grind
  exact⟨fun k hk=>(Bc4 A R hk.1).1 (h2 k hk).1,fun k hk=>(key k hk.1).1 (h2 k hk).2,fun k h0 h1 hl=>by
   rw[A _ ⟨h0,h1⟩]at hl ⊢
   grind [Yk]⟩
 ·intro T k hk;rw[List.mem_range]at hk;by_cases e:(gt l (k:Int)).c=1
  ·have hl:=(Y7 A).2 ⟨⟨by omega,by omega⟩,e⟩;rw[(Bc4 A R hl.1).2 (T.link _ hl),(key _ hl.1).2 (T.rise _ hl)];simp
  grind
def We (st gen:Int):Fy:=Fy.mk st gen 0 0 0 0 0 0 [] 0 0 [] []
structure Wx (c:Sv)(n:Fy):Prop where
 conf:Vt c=true
 st:n.c=1
 gen:1<=n.a/\n.a<=c.n
 up:0<=n.s/\n.s<=c.l
 first:0<=n.i/\n.i<=c.l
 next:0<=n.u/\n.u<=c.l
 prev:0<=n.v/\n.v<=c.l
 ep:0<=n.f
 ue:0<=n.t
 dist:Xo c n.L=true
 cur:Zl c n=true
 nth:n.y.length<=12
 ntag:n.j.length<=6
 tags:n.j.all (fun x=>Qi x 0 255)=true
 things:n.y.all (Xd c)=true
theorem Xf{c:Sv}{n:Fy}:Wr c n=true/\n.c=1 ↔ Wx c n:=by
 unfold Wr ox;constructor
 ·rintro⟨h,h1⟩;rw[h1]at h;simp only[Z4,Vz,bne_self_eq_false,cond_false,Gg,decide_eq_false_iff_not,decide_eq_true_eq]at h;obtain⟨a,_,b,⟨c1,c2,c3,c4⟩,⟨d1,d2⟩,⟨e1,e2⟩,⟨f1,f2⟩,g1,g2⟩:=h;exact⟨a,h1,b,c1,c2,c3,c4,by omega,by omega,e1,e2,by omega,by omega,g1,g2⟩
 ·intro h;refine⟨?_,h.st⟩;rw[h.st];simp only[Z4,Vz,bne_self_eq_false,cond_false,Gg,decide_eq_false_iff_not,decide_eq_true_eq];exact⟨h.conf,by omega,h.gen,⟨h.up,h.first,h.next,h.prev⟩,⟨by have:=h.ep;omega,by have:=h.ue;omega⟩,⟨h.dist,h.cur⟩,⟨by have:=h.nth;omega,by have:=h.ntag;omega⟩,h.tags,h.things⟩
theorem ba{c:Sv}{n:Fy}(h:Wr c n=true)(h1:n.c≠1):n=We n.c n.a:=by
 have:=Bb0 h h1;unfold gf at this;simp only[Z4,beq_iff_eq]at this;obtain⟨a1,a2,a3,a4,a5,a6,a7,a8,a9,a10,a11⟩:=this;cases n;simp_all[We]
theorem A2z{c:Sv}(hc:Vt c=true){st gen:Int}(h0:0<=st/\st<=3)(h1:st≠1)(h2:1<=gen/\gen<=c.n):Wr c (We st gen)=true:=by
 unfold Wr;rw[hc];show(true&&(Qi st 0 3&&(Qi gen 1 c.n&&(bif st != 1 then gf (We st gen)else _))))=true;rw[Yg h1,Vz.2 h0,Vz.2 h2];rfl
theorem lc{c:Sv}{n:Fy}(h:Wr c n=true):Vt c=true/\(0<=n.c/\n.c<=3)/\1<=n.a/\n.a<=c.n:=by
 simp_all[Wr,Vz]
theorem A20{c:Sv}{n:Fy}(h:Wr c n=true):(0<=n.s/\n.s<=c.l)/\(0<=n.i/\n.i<=c.l)/\(0<=n.u/\n.u<=c.l)/\(0<=n.v/\n.v<=c.l):=by
 by_cases e:n.c=1
 ·have:=Xf.1 ⟨h,e⟩;exact⟨this.up,this.first,this.next,this.prev⟩
 ·rw[ba h e];have b0:=Gy (lc h).1;exact⟨⟨Int.le_refl _,by grind [We]⟩,⟨Int.le_refl _,by grind [We]⟩,⟨Int.le_refl _,by grind [We]⟩,⟨Int.le_refl _,by grind [We]⟩⟩
theorem A6y{c:Sv}{n:Fy}(h:Wr c n=true):Xo c n.L=true:=by
 by_cases e:n.c=1
 ·exact(Xf.1 ⟨h,e⟩).dist
 ·rw[ba h e];rfl
def Wh (q:List G9):List (Int×Int):=q.map (fun x=>(x.d,x.i))
structure Bd (w:H4):Prop where
 pool:Xi w.C w.Q=true
 len:(w.o.length:Int)=w.C.l
 node: ∀k,0<=k/\k<(w.o.length:Int)->Wr w.C (gt w.o k)=true
 own: ∀k,0<=k/\k<(w.o.length:Int)-> ∀c,c∈(gt w.o k).L ↔ (0<=c/\c<w.C.L)/\gt w.Q.c c=1/\gt w.Q.h c=k
 thing: ∀k,0<=k/\k<(w.o.length:Int)->(gt w.o k).y.all (W7 w.C (gt w.o k).L)=true/\Y3 (gt w.o k).y=true/\X2 w.C w.Q.g (gt w.o k)=true
 forest: ∃t,V6 w.o t/\V4 w.o.length t (Wh w.p)
 wrec: ∀x∈w.p,Xv w.C x=true/\Yc w x=true
 chn:(Vw w.p).Nodup
 chi: ∀c,c∈Vw w.p ↔ (0<=c/\c<w.C.L)/\gt w.Q.c c=2
 sln:(Vv w.p).Nodup
 sli: ∀s,s∈Vv w.p ↔ (0<=s/\s<(w.o.length:Int))/\(gt w.o s).c=2
 log:w.q.all (fun x=>Qi x 0 255)=true
theorem Bd.conf{w:H4}(I:Bd w):Vt w.C=true:=(Zk I.pool).1
theorem Bd.rg{w:H4}(I:Bd w):Rg w.o:=by
 have b0:=Gy I.conf;have:=I.len;refine⟨by omega,fun k hk=> ?_⟩;rw[I.len];exact A20 (I.node k hk)
theorem Bd.live{w:H4}(I:Bd w){t:Int->Lk}(A:V6 w.o t){k:Int}(h:Lv w.o.length t k):Wx w.C (gt w.o k):=Xf.1 ⟨I.node k ((Y7 A).1 h).1,((Y7 A).1 h).2⟩
theorem A6z{N:Nat}{l:List Int}(hn:l.Nodup){k:Nat}(hk:k<N)(h:(k:Int)∈l):(gt (Vq N l) (k:Int)==1)=true:=by
 simp_all[ki,List.Nodup.count]
theorem Bd.chunks{w:H4}(I:Bd w){k:Int}(hk:0<=k/\k<(w.o.length:Int)):jy w.Q k (gt w.o k).L=true:=by
 obtain⟨_,_,hst,hown,_⟩:=Zk I.pool;have hd:=pc (A6y (I.node k hk));have hs:=(A50 w.Q k).imp (fun {a b} (h:a<b)=>Int.ne_of_lt h);have hm: ∀x,x∈Yq w.Q k ↔ x∈(gt w.o k).L:=by
  intro x;rw[I.own k hk x];unfold Yq;rw[av]
  grind
 unfold jy;rw[Z4,Z1,beq_iff_eq];refine⟨fun x hx=>List.contains_iff_mem.2 ((hm x).1 hx),?_⟩;have h1:=gm (o:=Yq w.Q k) (l:=(gt w.o k).L) hs (fun x hx=>(hm x).1 hx);have h2:=gm (o:=(gt w.o k).L) (l:=Yq w.Q k) hd (fun x hx=>(hm x).2 hx);omega
theorem A60{q:List G9}{x:G9}(hx:x∈q){c:Int}(h:c∈x.L):c∈Vw q:=List.mem_flatMap.2 ⟨x,hx,h⟩
theorem Bc5{q:List G9}{x:G9}(hx:x∈q)(h:x.d≠0):Ap x.d 1∈Vv q:=List.mem_flatMap.2 ⟨x,hx,by grind⟩
theorem Bd.first{w:H4}(I:Bd w){x:G9}(hx:x∈w.p):0<=x.i/\x.i<=8:=by
 have b0:=Gy I.conf;have:=(gk (I.wrec x hx).1).2.2.1;omega
theorem Bd.qs{w:H4}{x:G9}(hx:x∈w.p):x.i∈(Wh w.p).map (fun e:Int×Int=>e.2):=by
 unfold Wh
 grind
theorem Bd.waste{w:H4}(I:Bd w){x:G9}(hx:x∈w.p):X3 w x=true:=by
 obtain⟨b1,_,b,_⟩:=Gy I.conf;obtain⟨h1,h2⟩:=I.wrec x hx;obtain⟨_,r1,r2,r3,_⟩:=gk h1;have hf:=I.first hx;obtain⟨t,A,F⟩:=I.forest;unfold X3;simp only[Z4];refine⟨h1,?_,h2,?_,?_,?_⟩
 ·unfold pe;rw[Z1];intro c hc;rw[beq_iff_eq];exact((I.chi c).1 (A60 hx hc)).2
 ·unfold dp;by_cases e:x.d=0
  ·grind
  ·rw[((I.sli _).1 (Bc5 hx e)).2];simp
 ·unfold gp;by_cases e:x.i=0
  ·grind
  ·obtain⟨a,b⟩:=F.kid.top _ (Bd.qs hx) e;rw[V9 (by omega)];rw[A _ a]at b;have b:(gt w.o (x.i - 1)).v=0:=b
   grind
 ·unfold Y5;rw[Z1];intro k hk;have hin:=pd _ _ k hk;rw[la A I.rg hf.1 (by omega)]at hk;exact(Bc3 A I.rg hin).2 (F.kid.or (Bd.qs hx) hk)
theorem Bc6{w:H4}(I:Bd w){t:Int->Lk}(A:V6 w.o t):Xr w.o w.p=((Wh w.p).map (fun e:Int×Int=>e.2)).flatMap (kf w.o.length t):=by
 unfold Xr Wh;rw[Ar,List.flatMap_map];exact Yx fun x hx=>by
  have hf:=I.first hx;exact la A I.rg hf.1 (by omega)
theorem Bd.fin{w:H4}(I:Bd w):aw w w.C.L.toNat=true:=by
 obtain⟨_,_,hst,hown,_⟩:=Zk I.pool;obtain⟨t,A,F⟩:=I.forest;unfold aw;rw[Z4,Z1,Z1];refine⟨fun k hk=> ?_,fun k hk=> ?_⟩
 ·rw[List.mem_range]at hk;cases e:(gt w.Q.c (k:Int)==2)with
  |false=>rfl
  |true=>exact A6z I.chn (by omega) ((I.chi _).2 ⟨⟨by omega,by omega⟩,by grind⟩)
 ·rw[List.mem_range]at hk;rw[Z4];constructor
  ·cases e:((gt w.o (k:Int)).c==2)with
   |false=>rfl
   |true=>simp_all[A6z,sln,sli]
  ·cases e:Ys w.o (k:Int)with
   |false=>rfl
   |true=>
    refine A6z (by rw[Bc6 I A];exact F.kid.nodup) hk ?_;rw[Bc6 I A,F.kid.iff];exact(Bc3 A I.rg ⟨by omega,by omega⟩).1 e
theorem Bd.ok{w:H4}(I:Bd w):dq w=true:=by
 obtain⟨t,A,F⟩:=I.forest;unfold dq;simp only[Z4,beq_iff_eq];refine⟨I.pool,I.len,?_,?_,⟨?_,I.fin⟩,I.log⟩
 ·rw[Z1];intro k hk;rw[List.mem_range]at hk;have hk2:0<=(k:Int)/\(k:Int)<(w.o.length:Int):=⟨by omega,by omega⟩
  grind [thing,gh,node,chunks]
 ·refine(Bt3 A I.rg fun k hk h=> ?_).2 F.tree;rw[ba (I.node k hk) h];exact⟨rfl,rfl,rfl,rfl⟩
 grind [waste]
def Y8 (n:Fy)(fi nx pv:Int):Fy:=Fy.mk n.c n.a n.f n.s n.t fi nx pv n.L n.w n.x n.y n.j
theorem Yz{l:List Fy}{j x:Int}(hj:0<=j/\j<(l.length:Int))(hx:0<=x/\x<(l.length:Int))(v:Fy):gt (l.set j.toNat v) x=if x=j then v else gt l x:=by
 by_cases e:x=j
 all_goals simp_all[gr,kn,Ne.symm]
theorem Aei{l:List Fy}{n:Int}(h0:0<=n)(h1:n<=l.length)(h2:l.length<=8):Wm l n= !(n==0):=by
 have:=tp (l:=l) h0 (by omega:n<=1000)
 grind
theorem A21{l:List Fy}(R:Rg l){k x:Int}(hk:0<=k/\k<(l.length:Int))(hx:0<=x/\x<(l.length:Int)):
  gt (Zo l k) x=Y8 (gt l x) (if(gt l k).v=0/\x+1=(gt l k).s/\(gt l x).i=k+1 then(gt l k).u else(gt l x).i) (if x+1=(gt l k).v then(gt l k).u else(gt l x).u) (gt l x).v:=by
 obtain⟨r1,r2,r3,r4⟩:=R.rg k hk;have hl:=R.len;unfold Zo;rw[Aei r4.1 r4.2 hl,Aei r1.1 r1.2 hl,V9 (x:=(gt l k).v) (by omega),V9 (x:=(gt l k).s) (by omega),Ye (by omega) (by omega)];by_cases h:(gt l k).v=0
 ·rw[h];simp only[beq_self_eq_true,Bool.not_true,cond_false,Z30];rw[if_neg (by omega: ¬x+1=0)];by_cases h2:(gt l k).s=0
  ·rw[h2,if_neg (by omega)];rfl
  ·rw[Wg h2];simp only[Bool.not_false,Z30];by_cases h3:(gt l ((gt l k).s - 1)).i=k+1
   ·rw[h3,beq_self_eq_true,cond_true,Yz (by omega) hx];by_cases e:x=(gt l k).s - 1
    ·rw[if_pos e,e,h3,if_pos ⟨trivial,by omega,rfl⟩];rfl
    ·rw[if_neg e,if_neg (by omega)];rfl
   ·rw[Wg h3,cond_false,if_neg]
    ·rfl
    grind
 ·rw[Wg h];simp only[Bool.not_false,cond_true];rw[Yz (by omega) hx,if_neg (fun q:(gt l k).v=0/\x+1=(gt l k).s/\(gt l x).i=k+1=>h q.1)];by_cases e:x=(gt l k).v - 1
  ·have e2:x+1=(gt l k).v:=by omega
   rw[if_pos e,if_pos e2,<-e];rfl
  ·have e2: ¬x+1=(gt l k).v:=by omega
   rw[if_neg e,if_neg e2];rfl
theorem gy{l:List Fy}(R:Rg l){k x:Int}(hk:0<=k/\k<(l.length:Int))(hx:0<=x/\x<(l.length:Int))(hne:x≠k):
  gt (X9 l k) x=Y8 (gt l x) (if(gt l k).v=0/\x+1=(gt l k).s/\(gt l x).i=k+1 then(gt l k).u else(gt l x).i) (if x+1=(gt l k).v then(gt l k).u else(gt l x).u) (if x+1=(gt l k).u then(gt l k).v else(gt l x).v):=by
 obtain⟨r1,r2,r3,r4⟩:=R.rg k hk;have hl:=R.len;have hl0:=ta l k;unfold X9 pj;rw[Yz (by grind [zw]) (by grind [zw]),if_neg hne];unfold Zx;rw[Aei r3.1 r3.2 hl,V9 (by omega)];by_cases h:(gt l k).u=0
 ·rw[h];simp only[beq_self_eq_true,Bool.not_true,cond_false];rw[A21 R hk hx,h,if_neg (by omega: ¬x+1=0)]
 ·rw[Wg h];simp only[Bool.not_false,cond_true];rw[Yz (by omega) (by omega)];by_cases e:x=(gt l k).u - 1
  ·have e2:x+1=(gt l k).u:=by omega
   rw[if_pos e,if_pos e2,<-e,A21 R hk hx];rfl
  ·have e2: ¬x+1=(gt l k).u:=by omega
   simp_all[A21]
theorem gz (l:List Fy)(k:Int):(X9 l k).length=l.length:=by grind [X9,pj,zw,ta]
theorem A61{c:Sv}{n:Fy}(X:Wx c n){fi nx pv:Int}(h1:0<=fi/\fi<=c.l)(h2:0<=nx/\nx<=c.l)(h3:0<=pv/\pv<=c.l):Wx c (Y8 n fi nx pv):=
 ⟨X.conf,X.st,X.gen,X.up,h1,h2,h3,X.ep,X.ue,X.dist,X.cur,X.nth,X.ntag,X.tags,X.things⟩
theorem Bt4{l:List Fy}{t:Int->Lk}(A:V6 l t)(R:Rg l){k:Int}(hk:0<=k/\k<(l.length:Int))(g:Int):V6 ((X9 l k).set k.toNat (We 2 g)) (rem t k):=by
 intro x hx;rw[Tb,gz]at hx;rw[Yz (by grind [gz]) (by grind [gz])];by_cases e:x=k
 ·subst e;rw[gv,if_pos rfl];rfl
 ·rw[V3 e,if_neg e,gy R hk hx e,A x hx,A k hk];rfl
theorem Aez{l:List Int}{j x:Int}(hj:0<=j)(hx:0<=x/\x<(l.length:Int))(v:Int):gt (l.set j.toNat v) x=if x=j then v else gt l x:=by
 have h1:x.toNat<(l.set j.toNat v).length:=by grind
 have h2:x.toNat<l.length:=by omega
 have e1:gt (l.set j.toNat v) ((x.toNat:Nat):Int)=if x=j then v else gt l ((x.toNat:Nat):Int):=by
  rw[Gz h1,Gz h2,List.getElem_set];omega
 grind
structure Zr (c:Sv)(p:Pc):Prop where
 conf:Vt c=true
 mem:(p.g.length:Int)=c.L*c.k
 st:(p.c.length:Int)=c.L
 own:(p.h.length:Int)=c.L
 one: ∀k,0<=k/\k<c.L->(0<=gt p.c k/\gt p.c k<=2)/\(gt p.c k=1->0<=gt p.h k/\gt p.h k<c.l)/\(gt p.c k≠1->gt p.h k= -1)/\(gt p.c k=0->Wa (X8 c p.g k)=true)
theorem Bc7{c:Sv}{p:Pc}{k:Nat}:jw c p k=true ↔ (0<=gt p.c (k:Int)/\gt p.c (k:Int)<=2)/\(gt p.c (k:Int)=1->0<=gt p.h (k:Int)/\gt p.h (k:Int)<c.l)/\(gt p.c (k:Int)≠1->gt p.h (k:Int)= -1)/\(gt p.c (k:Int)=0->Wa (X8 c p.g k)=true):=by
 unfold jw;rw[Z4,Z4,Vz];refine and_congr Iff.rfl ?_;by_cases e:gt p.c (k:Int)=1
 ·rw[e];simp only[beq_self_eq_true,cond_true,Vz]
  grind
 grind
theorem W4{c:Sv}{p:Pc}:Xi c p=true ↔ Zr c p:=by
 constructor
 ·intro h;obtain⟨h1,h2,h3,h4,h5⟩:=Zk h;refine⟨h1,h2,h3,h4,fun k hk=> ?_⟩;have:=Bc7.1 (h5 k.toNat (by omega))
  grind
 ·intro h;have b0:=Gy h.conf;unfold Xi;simp only[Z4,beq_iff_eq,Z1,List.mem_range];refine⟨h.conf,by grind [Zr.mem,Wl,Zr.conf],h.st,h.own,fun k hk=> ?_⟩;exact Bc7.2 (h.one k (by omega))
theorem Bt5 (cs:List Int): ∀(p:Pc),p.h.length=p.c.length->(V8 p cs).g=p.g/\(V8 p cs).c.length=p.c.length/\(V8 p cs).h.length=p.h.length/\ ∀c,0<=c/\c<(p.c.length:Int)->
  gt (V8 p cs).c c=(if c∈cs/\gt p.c c=1 then 2 else gt p.c c)/\gt (V8 p cs).h c=(if c∈cs/\gt p.c c=1 then -1 else gt p.h c):=by
 induction cs with
 |nil=>simp_all[V8]
 |cons k cs ih=>
  intro p hl;have h1:(X4 p k).g=p.g/\(X4 p k).c.length=p.c.length/\(X4 p k).h.length=p.h.length:=by
   grind [X4]
  obtain⟨a,b,c,d⟩:=ih (X4 p k) (by omega);refine⟨a.trans h1.1,b.trans h1.2.1,c.trans h1.2.2,fun x hx=> ?_⟩;obtain⟨d1,d2⟩:=d x (by omega);have e1:gt (X4 p k).c x=if x=k/\gt p.c x=1 then 2 else gt p.c x:=by
   unfold X4;by_cases q:(0<=k/\k<(p.c.length:Int)/\k<(p.h.length:Int))/\gt p.c k=1
   ·rw[if_pos q];simp only;rw[Aez q.1.1 hx]
    grind
   grind
  have e2:gt (X4 p k).h x=if x=k/\gt p.c x=1 then -1 else gt p.h x:=by
   unfold X4;by_cases q:(0<=k/\k<(p.c.length:Int)/\k<(p.h.length:Int))/\gt p.c k=1
   ·rw[if_pos q];simp only;rw[Aez q.1.1 (by omega)]
    grind
   grind
  show gt (V8 (X4 p k) cs).c x=_/\gt (V8 (X4 p k) cs).h x=_;rw[d1,d2,e1,e2];by_cases q:gt p.c x=1
  ·by_cases e:x=k
   ·subst e;simp[q]
   ·simp[q,e]
  ·simp[q]
theorem ld{w:H4}(I:Bd w){k:Int}(hk:0<=k/\k<(w.o.length:Int)):
  Zr w.C (V8 w.Q (gt w.o k).L)/\(V8 w.Q (gt w.o k).L).g=w.Q.g/\
  ∀c,0<=c/\c<w.C.L->gt (V8 w.Q (gt w.o k).L).c c=(if c∈(gt w.o k).L then 2 else gt w.Q.c c)/\gt (V8 w.Q (gt w.o k).L).h c=(if c∈(gt w.o k).L then -1 else gt w.Q.h c):=by
 have P:=W4.1 I.pool;obtain⟨a,b,c,d⟩:=Bt5 (gt w.o k).L w.Q (by have:=P.st;have:=P.own;omega);have key: ∀c,0<=c/\c<w.C.L->gt (V8 w.Q (gt w.o k).L).c c=(if c∈(gt w.o k).L then 2 else gt w.Q.c c)/\gt (V8 w.Q (gt w.o k).L).h c=(if c∈(gt w.o k).L then -1 else gt w.Q.h c):=by
  intro x hx;obtain⟨d1,d2⟩:=d x (by rw[P.st];exact hx);rw[d1,d2];by_cases e:x∈(gt w.o k).L
  ·have:=((I.own k hk x).1 e).2.1
   grind
  grind
 refine⟨⟨P.conf,by rw[a];exact P.mem,by rw[b];exact P.st,by rw[c];exact P.own,fun x hx=> ?_⟩,a,key⟩;obtain⟨k1,k2⟩:=key x hx;obtain⟨p1,p2,p3,p4⟩:=P.one x hx
 grind
theorem A22 (q:List G9)(x:G9):Vw (q++[x])=Vw q++x.L:=by grind [Vw]
theorem A23 (q:List G9)(x:G9):Vv (q++[x])=Vv q++(if x.d=0 then []else [Ap x.d 1]):=by grind [Vv]
theorem Bc8 (q:List G9)(x:G9):Wh (q++[x])=Wh q++[(x.d,x.i)]:=by simp[Wh]
theorem A62{c:Sv}{n:Fy}(h:Wx c n){s:Int}(hs:0<=s/\s<=c.l):Xv c (Wn n s)=true:=by
 have b0:=Gy h.conf;unfold Xv Wn;simp only[Z4,Vz,decide_eq_true_eq,Bool.or_eq_true,beq_iff_eq];exact⟨h.conf,hs,h.first,by have:=h.ntag;omega,h.tags,h.dist,by omega,.inr trivial⟩
theorem A63 (w:H4)(n:Fy)(s:Int):Yc w (Wn n s)=true:=by
 unfold Yc Wn Wa;simp
theorem A64{w:H4}(I:Bd w){k:Int}(hk:0<=k/\k<(w.o.length:Int)):(Vw w.p++(gt w.o k).L).Nodup:=
 ck.2 ⟨I.chn,pc (A6y (I.node k hk)),fun x h1 h2=>by simp_all[Bd.chi,Bd.own]⟩
theorem A65{w:H4}(I:Bd w){k:Int}(hk:0<=k/\k<(w.o.length:Int))(c:Int):c∈Vw w.p++(gt w.o k).L ↔ (0<=c/\c<w.C.L)/\gt (V8 w.Q (gt w.o k).L).c c=2:=by
 rw[C5,I.chi];constructor
 ·rintro(⟨a,b⟩|h)
  all_goals simp_all[ld,Bd.own]
 ·rintro⟨a,b⟩;rw[((ld I hk).2.2 c a).1]at b
  grind
theorem Bt6{w:H4}(I:Bd w){t:Int->Lk}(A:V6 w.o t)(F:V4 w.o.length t (Wh w.p)){k:Int}(h:Al w.o.length t k):Bd (Zp w k):=by
 have hl:=h.lv;have hk:=hl.1;have P:=I.live A hl;have R:=I.rg;obtain⟨L1,L2,L3⟩:=ld I hk;have b0:=Gy I.conf;have hlen:=I.len;have e1:A4 k 1=k+1:=Ye (by omega) (by omega);have hN:(Zp w k).o.length=w.o.length:=by grind [Zp,gz]
 have hg: ∀x,0<=x/\x<(w.o.length:Int)->gt (Zp w k).o x=if x=k then We 2 (gt (X9 w.o k) k).a else gt (X9 w.o k) x:=fun x hx=>by
  unfold Zp;simp only;rw[Yz (by grind [gz]) (by grind [gz])];rfl
 have hgen:(gt (X9 w.o k) k).a=(gt w.o k).a:=by
  unfold X9 pj;rw[gr (by grind [zw,ta])];show(gt (Zx w.o (Zo w.o k) k _ _) k).a=_;unfold Zx;have h0:(gt (Zo w.o k) k).a=(gt w.o k).a:=by rw[A21 R hk hk];rfl
  obtain⟨_,_,r3,_⟩:=R.rg k hk;have hl8:=R.len;rw[Aei r3.1 r3.2 hl8,V9 (by omega)];by_cases e:(gt w.o k).u=0
  ·grind
  ·rw[Wg e];simp only[Bool.not_false,cond_true];rw[Yz (by rw[ta];omega) (by grind [ta])];split
   ·rename_i e2;rw[<-e2];exact h0
   omega
 refine⟨W4.2 L1,by rw[hN];exact hlen,fun x hx=> ?_,fun x hx c=> ?_,fun x hx=> ?_,⟨rem t k,?_,?_⟩,fun x hx=> ?_,?_,fun c=> ?_,?_,fun s=> ?_,I.log⟩
 ·rw[hN]at hx;rw[hg x hx];by_cases e:x=k
  ·rw[if_pos e,hgen];exact A2z I.conf (by omega) (by omega) P.gen
  ·rw[if_neg e,gy R hk hx e];by_cases hs:(gt w.o x).c=1
   ·have X:=Xf.1 ⟨I.node x hx,hs⟩;obtain⟨a1,a2,a3,a4⟩:=A20 (I.node k hk);refine(Xf.2 (A61 X ?_ ?_ ?_)).1
    ·split
     ·exact a3
     ·exact X.first
    ·split
     ·exact a3
     ·exact X.next
    ·split
     ·exact a4
     ·exact X.prev
   ·have X:=ba (I.node x hx) hs;have B:=(A6t F.tree hl).bare x hx.1 hx.2 (by rw[V3 e,A x hx];grind [Yk]);rw[V3 e,A x hx,A k hk]at B;obtain⟨_,B2,B3,B4⟩:=B;have q1:(if(gt w.o k).v=0/\x+1=(gt w.o k).s/\(gt w.o x).i=k+1 then(gt w.o k).u else(gt w.o x).i)=0:=B2;have q2:(if x+1=(gt w.o k).v then(gt w.o k).u else(gt w.o x).u)=0:=B3;have q3:(if x+1=(gt w.o k).u then(gt w.o k).v else(gt w.o x).v)=0:=B4;have this:Y8 (gt w.o x) 0 0 0=gt w.o x:=by rw[X];rfl
    rw[q1,q2,q3];rw[this];exact I.node x hx
 ·rw[hN]at hx;rw[hg x hx];show c∈_ ↔ (0<=c/\c<w.C.L)/\gt (V8 w.Q (gt w.o k).L).c c=1/\gt (V8 w.Q (gt w.o k).L).h c=x;by_cases e:x=k
  ·rw[if_pos e];constructor
   ·intro q;cases q
   ·rintro⟨a,b,d⟩;rw[(L3 c a).1]at b;rw[(L3 c a).2]at d;split at b
    all_goals simp_all[Bd.own]
  ·rw[if_neg e,gy R hk hx e];show c∈(gt w.o x).L ↔ _;rw[I.own x hx c];constructor
   ·rintro⟨a,b,d⟩
    have q:c ∉ (gt w.o k).L:=fun q=>e (by have:=((I.own k hk c).1 q).2.2;omega)
    grind
   grind
 ·rw[hN]at hx;rw[hg x hx];by_cases e:x=k
  ·rw[if_pos e];exact⟨rfl,rfl,rfl⟩
  ·rw[if_neg e,gy R hk hx e];obtain⟨t1,t2,t3⟩:=I.thing x hx;refine⟨t1,t2,?_⟩;show X2 w.C (V8 w.Q (gt w.o k).L).g _=true;rw[L2];exact t3
 ·exact Bt4 A R hk _
 ·show V4 ((Zp w k).o.length:Int) _ (Wh (w.p++[_]));rw[hN,Bc8,e1];have:=Btt F h;rw[A k hk]at this;exact this
 ·have hx:x∈w.p++[Wn (gt w.o k) (A4 k 1)]:=hx;show Xv w.C x=true/\_;rcases C5.1 hx with hx|hx
  ·obtain⟨a,b⟩:=I.wrec x hx;refine⟨a,?_⟩;unfold Yc at b ⊢;show(_||Wa (((V8 w.Q (gt w.o k).L).g.drop (gt x.L 0*w.C.k).toNat).take x.z.toNat))=true
   grind
  ·rw[Dt.1 hx,e1]
   grind [A62,A63]
 ·show(Vw (w.p++[_])).Nodup;rw[A22];exact A64 I hk
 ·show c∈Vw (w.p++[_]) ↔ _;rw[A22];exact A65 I hk c
 ·show(Vv (w.p++[Wn (gt w.o k) (A4 k 1)])).Nodup;rw[A23,e1];show(Vv w.p++(if k+1=0 then []else [Ap (k+1) 1])).Nodup;rw[if_neg (by omega),V9 (by omega),Int.add_sub_cancel];exact ck.2 ⟨I.sln,by simp,fun x h1 h2=>by rw[Dt]at h2;subst h2;have:=((I.sli x).1 h1).2;have:=P.st;omega⟩
 ·show s∈Vv (w.p++[Wn (gt w.o k) (A4 k 1)]) ↔ _;rw[A23,e1,hN];show s∈Vv w.p++(if k+1=0 then []else [Ap (k+1) 1]) ↔ _;rw[if_neg (by omega),V9 (by omega),Int.add_sub_cancel,C5,Dt,I.sli];constructor
  ·rintro(⟨a,b⟩|a)
   ·refine⟨a,?_⟩;have e:s≠k:=fun e=>by grind [Wx.st]
    rw[hg s a,if_neg e,gy R hk a e];exact b
   ·rw[a,hg k hk,if_pos rfl];exact⟨hk,rfl⟩
  ·rintro⟨a,b⟩
   by_cases e:s=k
   ·omega
   ·rw[hg s a,if_neg e,gy R hk a e]at b;exact .inl ⟨a,b⟩
theorem Bt7{l:List Fy}{t:Int->Lk}(A:V6 l t){k:Int}(hk:0<=k/\k<(l.length:Int))(h0:0<=(gt l k).f)(h1:(gt l k).f<=1000000000):V6 (l.set k.toNat (ci (gt l k))) (Xx t k):=by
 intro x hx;rw[Tb]at hx;rw[Yz hk hx];by_cases e:x=k
 ·subst e;rw[tk,if_pos rfl,A x hx]
  grind [ci,Yk,Ye]
 ·rw[ky e,if_neg e,A x hx]
theorem Bt8{w:H4}(I:Bd w){t:Int->Lk}(A:V6 w.o t)(F:V4 w.o.length t (Wh w.p)){k:Int}(h:Al w.o.length t k)(hE:(gt w.o k).f<=1000000000):Bd (ax w k):=by
 have hl:=h.lv;have hk:=hl.1;have P:=I.live A hl;obtain⟨L1,L2,L3⟩:=ld I hk;have hN:(ax w k).o.length=w.o.length:=by grind [ax]
 have hg: ∀x,0<=x/\x<(w.o.length:Int)->gt (ax w k).o x=if x=k then ci (gt w.o k)else gt w.o x:=fun x hx=>Yz hk hx _
 have b0:=Gy I.conf;refine⟨W4.2 L1,by rw[hN];exact I.len,fun x hx=> ?_,fun x hx c=> ?_,fun x hx=> ?_,⟨Xx t k,?_,?_⟩,fun x hx=> ?_,?_,fun c=> ?_,?_,fun s=> ?_,I.log⟩
 ·rw[hN]at hx;rw[hg x hx];show Wr w.C _=true;by_cases e:x=k
  ·rw[if_pos e];exact((Xf (n:=ci (gt w.o k))).2 ⟨P.conf,P.st,P.gen,P.up,⟨Int.le_refl _,by show(0:Int)<=_;omega⟩,P.next,P.prev,by show 0<=A4 _ 1;rw[Ye (by have:=P.ep;omega) hE];have:=P.ep;omega,P.ue,rfl,rfl,Hc _,Hc _,rfl,rfl⟩).1
  simp_all[Bd.node]
 ·rw[hN]at hx;rw[hg x hx];show c∈_ ↔ (0<=c/\c<w.C.L)/\gt (V8 w.Q (gt w.o k).L).c c=1/\gt (V8 w.Q (gt w.o k).L).h c=x;by_cases e:x=k
  ·rw[if_pos e];constructor
   ·intro q;cases q
   ·rintro⟨a,b,d⟩;rw[(L3 c a).1]at b;rw[(L3 c a).2]at d;split at b
    all_goals simp_all[Bd.own]
  ·rw[if_neg e,I.own x hx c];constructor
   ·rintro⟨a,b,d⟩
    have q:c ∉ (gt w.o k).L:=fun q=>e (by have:=((I.own k hk c).1 q).2.2;omega)
    grind
   grind
 ·rw[hN]at hx;rw[hg x hx];by_cases e:x=k
  ·rw[if_pos e];exact⟨rfl,rfl,rfl⟩
  ·rw[if_neg e];obtain⟨t1,t2,t3⟩:=I.thing x hx;refine⟨t1,t2,?_⟩;show X2 w.C (V8 w.Q (gt w.o k).L).g _=true
   grind
 ·exact Bt7 A hk P.ep hE
 ·show V4 ((ax w k).o.length:Int) _ (Wh (w.p++[_]));rw[hN,Bc8];have:=Btx F h;rw[A k hk]at this;exact this
 ·have hx:x∈w.p++[Wn (gt w.o k) 0]:=hx;show Xv w.C x=true/\_;rcases C5.1 hx with hx|hx
  ·obtain⟨a,b⟩:=I.wrec x hx;refine⟨a,?_⟩;unfold Yc at b ⊢;show(_||Wa (((V8 w.Q (gt w.o k).L).g.drop (gt x.L 0*w.C.k).toNat).take x.z.toNat))=true
   grind
  ·rw[Dt.1 hx]
   grind [A62,A63]
 ·show(Vw (w.p++[_])).Nodup;rw[A22];exact A64 I hk
 ·show c∈Vw (w.p++[_]) ↔ _;rw[A22];exact A65 I hk c
 ·show(Vv (w.p++[Wn (gt w.o k) 0])).Nodup;rw[A23];show(Vv w.p++(if(0:Int)=0 then []else [Ap 0 1])).Nodup;simp_all[Bd.sln]
 ·show s∈Vv (w.p++[Wn (gt w.o k) 0]) ↔ _;rw[A23,hN];show s∈Vv w.p++(if(0:Int)=0 then []else [Ap 0 1]) ↔ _;rw[if_pos rfl,List.append_nil,I.sli];refine and_congr_right fun a=> ?_;rw[hg s a]
  by_cases e:s=k
  ·rw[if_pos e,e,P.st];show _ ↔ (gt w.o k).c=2;rw[P.st]
  grind
def Wj (c:Sv)(n:Fy):Nat:=if n.c=1 then 2+n.j.length+c.k.toNat*n.L.length else 0
def Xm (c:Sv)(x:G9):Nat:=1+x.j.length+(c.k.toNat*x.L.length - x.z.toNat)
def pot (w:H4):Nat:=(w.o.map (Wj w.C)).sum+(w.p.map (Xm w.C)).sum
def wt (w:H4):Nat:=pot w+w.q.length
def Wv (n:Fy):Nat:=if n.c=1 then 1 else 0
def cnt (w:H4):Nat:=(w.o.map Wv).sum+w.p.length
structure Zy (E:Int)(n:Fy):Prop where
 ep:n.f<=E
 ue:n.t<=E
 cur:0<=n.w/\n.w<=1000
structure Ch (w:H4)(E:Int)(n:Nat):Prop where
 inv:Bd w
 mem: ∀x∈w.Q.g,0<=x/\x<=255
 ep: ∀k,0<=k/\k<(w.o.length:Int)->Zy E (gt w.o k)
 wt:wt w<=n
 cn:(cnt w:Int)<=E
theorem Bc9{α:Type}(f:α->Nat)(l:List α)(h: ∀x∈l,1<=f x):l.length<=(l.map f).sum:=by
 induction l with
 |nil=>simp
 |cons x l ih=>
  grind
theorem lf (w:H4):w.p.length<=wt w:=by
 have:=Bc9 (Xm w.C) w.p fun x _=>by grind [Xm]
 unfold wt pot;omega
theorem po (w:H4):w.q.length<=wt w:=by grind [wt]
theorem V1{x:Int}(h0: -1000000000<=x)(h1:x<=1000000000):wfi x:=⟨by omega,by omega⟩
theorem A66{c:Sv}{t:H3}(h:Xd c t=true):ThingW t:=by
 have hs:=(sr h).1;have hin:=(sr h).2;have b0:=Gy hin.1;obtain⟨s1,s2,s3,s4⟩:=hs;refine⟨V1 (by omega) (by omega),V1 (by omega) (by omega),?_⟩;unfold Xd at h;rw[Z4]at h;by_cases e:t.E=0
 ·grind [V1]
 ·have h:=h.2;rw[Wg e]at h;simp only[cond_false,Z4,beq_iff_eq]at h;rw[h.2.1];unfold Wb;have h3:(t.D+c.k - 1) / c.k<=t.D+c.k - 1:=Int.ediv_le_self _ (by omega);have h4:0<=(t.D+c.k - 1) / c.k:=Int.ediv_nonneg (by omega) (by omega);cases (Qi t.D 0 1000000000&&Qi c.k 1 1000000000)with
  |false=>simp_all[V1]
  |true=>exact V1 (by grind) (by grind)
theorem li{l:List Int}(h: ∀x∈l,-1000000000<=x/\x<=1000000000)(hl:l.length<=1000000000):Zv l:=⟨fun x hx=>V1 (h x hx).1 (h x hx).2,by omega⟩
theorem Bda{c:Sv}(h:Vt c=true):ConfW c:=by
 have b0:=Gy h;exact⟨V1 (by omega) (by omega),V1 (by omega) (by omega),V1 (by omega) (by omega),V1 (by omega) (by omega),V1 (by omega) (by omega),V1 (by omega) (by omega)⟩
theorem A67{l:List Int}(h:l.all (fun x=>Qi x 0 255)=true): ∀x∈l,0<=x/\x<=255:=fun x hx=>Vz.1 (Z1.1 h x hx)
theorem ia{c:Sv}{n:Fy}{E:Int}(h:Wr c n=true)(e:Zy E n)(hE:E<=1000000000):Wt n:=by
 have b0:=Gy (lc h).1;by_cases s:n.c=1
 ·have X:=Xf.1 ⟨h,s⟩;have:=X.gen;have:=X.up;have:=X.first;have:=X.next;have:=X.prev;have:=X.ep;have:=X.ue;have:=X.nth;have:=X.ntag;have:=e.ep;have:=e.ue;have:=e.cur;refine⟨V1 (by omega) (by omega),V1 (by omega) (by omega),V1 (by omega) (by omega),V1 (by omega) (by omega),V1 (by omega) (by omega),V1 (by omega) (by omega),V1 (by omega) (by omega),V1 (by omega) (by omega),?_,V1 (by omega) (by omega),?_,?_,?_⟩
  ·exact li (fun x hx=>by have:=au X.dist x hx;omega) (by have:=Y4 X.conf X.dist;omega)
  ·have:=X.cur;unfold Zl at this;by_cases q:n.w=0
   ·simp_all[V1]
   ·rw[Wg q]at this;simp only[cond_false,Z4,Vz]at this
    grind [V1]
  ·exact⟨fun t ht=>A66 (Z1.1 X.things t ht),by omega⟩
  ·exact li (fun x hx=>by have:=A67 X.tags x hx;omega) (by omega)
 ·have g:=lc h;rw[ba h s];exact⟨V1 (by show _<=n.c;omega) (by show n.c<=_;omega),V1 (by show _<=n.a;omega) (by show n.a<=_;omega),Xe,Xe,Xe,Xe,Xe,Xe,ph,Xe,Xe,A6o,ph⟩
theorem Bt9{c:Sv}{x:G9}(h:Xv c x=true):dk x:=by
 have b0:=Gy (gk h).1;obtain⟨h1,h2,h3,h4,h5⟩:=gk h;unfold Xv at h;simp only[Z4,Vz,decide_eq_true_eq]at h;obtain⟨_,_,_,t1,t2,_⟩:=h;refine⟨V1 (by omega) (by omega),V1 (by omega) (by omega),?_,?_,V1 (by omega) (by omega)⟩
 ·exact li (fun y hy=>by have:=A67 t2 y hy;omega) (by omega)
 ·exact li (fun y hy=>by have:=au h4 y hy;omega) (by grind [Y4])
theorem pp{α:Type}[Inhabited α]{l:List α}{P:α->Prop}(h: ∀k,0<=k/\k<(l.length:Int)->P (gt l k)): ∀x∈l,P x:=by
 intro x hx;obtain⟨i,hi,e⟩:=List.mem_iff_getElem.1 hx;have:=h (i:Int) ⟨by omega,by omega⟩
 grind [Gz]
theorem Ch.ww{w:H4}{E:Int}{n:Nat}(G:Ch w E n)(hE:E<=1000000000)(hn:n<=1000000000):Wp w:=by
 have I:=G.inv;have P:=W4.1 I.pool;obtain⟨b1,b2,b3,b4,b5,b6⟩:=Gy I.conf;have h1:=lf w;have h2:=po w;have h3:=G.wt;have hm:=Zj (a:=w.C.L) (b:=w.C.k) (m:=12) (n:=16) (by omega) b1.2 (by omega) b2.2;refine⟨Bda I.conf,⟨⟨G.mem,by have:=P.mem;omega⟩,?_,?_⟩,⟨pp fun k hk=>ia (I.node k hk) (G.ep k hk) hE,by have:=I.len;omega⟩,⟨fun x hx=>Bt9 (I.wrec x hx).1,by omega⟩,?_⟩
 ·exact li (pp fun k hk=>by have:=(P.one k (by grind [Zr.st])).1;omega) (by have:=P.st;omega)
 ·refine li (pp fun k hk=> ?_) (by have:=P.own;omega);obtain⟨o1,o2,o3,o4⟩:=P.one k (by grind [Zr.own]);omega
 ·exact li (fun x hx=>by have:=A67 I.log x hx;omega) (by omega)
theorem A68{w:H4}(I:Bd w)(p:Pc)(q:List G9)(lg:List Int)(hp:Zr w.C p)
  (ho: ∀c,0<=c/\c<w.C.L->(gt p.c c=1 ↔ gt w.Q.c c=1)/\gt p.h c=gt w.Q.h c)
  (hl: ∀k,0<=k/\k<(w.o.length:Int)->X2 w.C p.g (gt w.o k)=true)
  (hq:Wh q=Wh w.p) (hs:Vv q=Vv w.p)
  (hr: ∀x∈q,Xv w.C x=true/\Yc (H4.mk w.C p w.o q lg) x=true)
  (hn:(Vw q).Nodup) (hc: ∀c,c∈Vw q ↔ (0<=c/\c<w.C.L)/\gt p.c c=2)
  (hg:lg.all (fun x=>Qi x 0 255)=true):Bd (H4.mk w.C p w.o q lg):=by
 refine⟨W4.2 hp,I.len,I.node,fun k hk c=> ?_,fun k hk=> ?_,?_,hr,hn,hc,?_,?_,hg⟩
 ·rw[I.own k hk c]
  grind
 all_goals grind [Bd.thing,Bd.forest,Bd.sln,Bd.sli]
theorem ib{α:Type}[Inhabited α](x:α)(l:List α):gt (x::l) 0=x:=rfl
theorem pq{mem:List Int}{a n:Nat}:Wa ((mem.drop a).take n)=true ↔ ∀j:Nat,a<=j->j<a+n->j<mem.length->gt mem (j:Int)=0:=by
 unfold Wa;rw[Z1];constructor
 ·intro h j h1 h2 h3;rw[Gz h3];have:mem[j]∈(mem.drop a).take n:=by
   rw[List.mem_iff_getElem];refine⟨j - a,by grind,?_⟩
   grind
  grind
 ·intro h x hx;obtain⟨i,hi,e⟩:=List.mem_iff_getElem.1 hx;simp only[List.length_take,List.length_drop]at hi;simp only[List.getElem_take,List.getElem_drop]at e;have:=h (a+i) (by omega) (by omega) (by omega);rw[Gz (by omega),e]at this
  grind
def Ya (mem:List Int)(a n:Nat):List Int:=(List.range mem.length).map fun(j:Nat)=>if a<=j/\j<a+n then(0:Int)else gt mem (j:Int)
theorem cm (mem:List Int)(a n:Nat):(Ya mem a n).length=mem.length:=by simp[Ya]
theorem lj{mem:List Int}{a n j:Nat}(h:j<mem.length):gt (Ya mem a n) (j:Int)=if a<=j/\j<a+n then 0 else gt mem (j:Int):=by
 grind [Gz,Ya]
theorem Bua (mem:List Int)(a:Nat):Ya mem a 0=mem:=by
 refine List.ext_getElem (cm _ _ _) fun j h1 h2=> ?_
 have:=lj (mem:=mem) (a:=a) (n:=0) h2;simp_all[if_neg,Gz]
theorem Bub{mem:List Int}{a i:Nat}:(Ya mem a i).set (a+i) 0=Ya mem a (i+1):=by
 refine List.ext_getElem (by grind [cm]) fun j h1 h2=> ?_
 rw[Tb,cm]at h1;have e1:=lj (mem:=mem) (a:=a) (n:=i) h1;have e2:=lj (mem:=mem) (a:=a) (n:=i+1) h1;rw[Gz (by grind)]at e1 e2
 grind
theorem Buc{mem:List Int}{a n b m:Nat}(h:Wa ((mem.drop b).take m)=true):Wa (((Ya mem a n).drop b).take m)=true:=by
 grind [pq,cm,lj]
theorem Bdb{mem:List Int}{a d n m:Nat}(h:Wa ((mem.drop a).take d)=true)(hm:m<=d+n):Wa (((Ya mem (a+d) n).drop a).take m)=true:=by
 grind [pq,cm,lj]
section
variable {K:Nat} (hK:281474976710656<=K)
include hK
theorem Bdc{mem:List Int}(hl:mem.length<=1000000){a n:Int}(ha:0<=a/\a<=1000000)(hn:0<=n)(hs:a+n<=mem.length):Amr K mem a n=some (Ya mem a.toNat n.toNat):=by
 have hm:=V2;obtain⟨A,rfl⟩: ∃A:Nat,a=A:=⟨a.toNat,by omega⟩;obtain⟨N,rfl⟩: ∃N:Nat,n=N:=⟨n.toNat,by omega⟩;simp only[Int.toNat_natCast];have key: ∀(f i:Nat),i<=N->N - i<f->vt K mem A N f (Ya mem A i) ((A+i:Nat):Int)=some (Ya mem A N):=by
  intro f;induction f with
  |zero=>omega
  |succ f ih=>
   intro i hi hf;rw[vt];have e:Ap ((A+i:Nat):Int) A=i:=by unfold Ap Aly;grind [Vr]
   rw[e];by_cases q:i=N
   ·grind
   ·rw[P2 (by omega),P2 (by omega),cond_true,cond_true,cm,if_pos (by omega),K1 (by omega),Int.toNat_natCast,Bub]
    grind
 unfold Amr;rw[Hd,if_pos (by omega),decide_eq_false (by omega),decide_eq_false (by omega)];simp only[cond_false];have:=key K 0 (by omega) (by omega)
 grind [Bua]
end
theorem co{w:H4}(I:Bd w){x qs}(hq:w.p=x::qs):Xv w.C x=true/\Yc w x=true:=by grind [Bd.wrec,List.mem_cons_self]
structure pr (c:Sv)(x:G9):Prop where
 conf:Vt c=true
 slot:0<=x.d/\x.d<=c.l
 first:0<=x.i/\x.i<=c.l
 ntag:x.j.length<=6
 tags: ∀y∈x.j,0<=y/\y<=255
 dist:Xo c x.L=true
 done:0<=x.z/\x.z<=c.k - 1
 zero:x.L=[]->x.z=0
theorem Y0{c:Sv}{x:G9}:Xv c x=true ↔ pr c x:=by
 unfold Xv;simp only[Z4,Vz,decide_eq_true_eq,Bool.or_eq_true,beq_iff_eq,Z1];constructor
 ·rintro⟨a,b,c,d,e,f,g,h⟩;refine⟨a,b,c,by omega,e,f,g,fun q=> ?_⟩
  grind
 ·intro h;refine⟨h.conf,h.slot,h.first,by have:=h.ntag;omega,h.tags,h.dist,h.done,?_⟩;by_cases q:x.L=[]
  ·exact .inr (h.zero q)
  simp_all[List.length_pos_iff]
def Ze (x:G9):G9:=G9.mk x.d x.i (x.j.take (x.j.length - 1)) x.L x.z
def bb (w:H4)(x:G9)(qs:List G9):H4:=H4.mk w.C w.Q w.o (Ze x::qs) (w.q++[gt x.j ((x.j.length - 1:Nat):Int)])
theorem Bud (K:Nat){w:H4}{x:G9}{qs:List G9}(hq:w.p=x::qs)(h0:0<x.j.length)(h6:x.j.length<=6)(hl:w.q.length<=1000000000):qr K w=some (bb w x qs):=by
 have hm:=V2;unfold qr;rw[hq,ib];have e:Ap (x.j.length:Int) 1=((x.j.length - 1:Nat):Int):=by grind [tn]
 rw[e,if_pos ⟨by omega,by simp⟩,if_pos (by omega),if_pos ⟨by grind,by grind⟩,if_pos (by omega),ow,Hd,if_pos ⟨by grind,by grind⟩];rfl
theorem Bue{l:List Int}{n:Nat}{P:Int->Prop}(h: ∀y∈l,P y): ∀y∈l.take n,P y:=by grind
theorem Bdd{w:H4}(I:Bd w){x:G9}{qs:List G9}(hq:w.p=x::qs)(h0:0<x.j.length):Bd (bb w x qs):=by
 have R:=Y0.1 (co I hq).1;have e1:Vw (Ze x::qs)=Vw w.p:=by rw[hq];rfl
 refine A68 I w.Q _ _ (W4.1 I.pool) (fun c _=>⟨Iff.rfl,rfl⟩) (fun k hk=>(I.thing k hk).2.2) (by rw[hq];rfl) (by rw[hq];rfl) (fun y hy=> ?_) (by rw[e1];exact I.chn) (fun c=>by grind [Bd.chi]) ?_
 ·rcases Ax.1 hy with e|e
  ·subst e;refine⟨Y0.2 ⟨R.conf,R.slot,R.first,?_,Bue R.tags,R.dist,R.done,R.zero⟩,(co I hq).2⟩;have:=R.ntag;show(x.j.take _).length<=6
   grind
  ·exact I.wrec y (by grind)
 ·rw[List.all_append,I.log];have:=R.tags _ (Xn (show x.j.length - 1<x.j.length by omega));simp[Vz,this]
def Xg (w:H4)(x:G9):Int:=if w.C.k<x.z+w.C.m then w.C.k else x.z+w.C.m
def A69 (w:H4)(x:G9):List Int:=Ya w.Q.g (gt x.L 0*w.C.k+x.z).toNat (Xg w x - x.z).toNat
def lm (w:H4)(x:G9):Pc:=Pc.mk (A69 w x) (if Xg w x<w.C.k then w.Q.c else w.Q.c.set (gt x.L 0).toNat 0) w.Q.h
def bc (w:H4)(x:G9):G9:=if Xg w x<w.C.k then G9.mk x.d x.i x.j x.L (Xg w x)else G9.mk x.d x.i x.j (x.L.drop 1) 0
def pt (w:H4)(x:G9)(qs:List G9):H4:=H4.mk w.C (lm w x) w.o (bc w x::qs) w.q
structure Bde (w:H4)(x:G9):Prop where
 rc:pr w.C x
 k:0<=gt x.L 0/\gt x.L 0<w.C.L
 st:gt w.Q.c (gt x.L 0)=2
 at0:0<=gt x.L 0*w.C.k
 at1:gt x.L 0*w.C.k+w.C.k<=(w.Q.g.length:Int)
 len:w.Q.g.length<=192
 to:x.z<Xg w x/\Xg w x<=w.C.k
 zero:Wa ((w.Q.g.drop (gt x.L 0*w.C.k).toNat).take x.z.toNat)=true
theorem Ae2{c:Sv}{p:Pc}(P:Zr c p):p.g.length<=192:=by
 obtain⟨b1,b2,_⟩:=Gy P.conf;have hm:=Zj (a:=c.L) (b:=c.k) (m:=12) (n:=16) (by omega) b1.2 (by omega) b2.2;have:=P.mem;omega
theorem A24{w:H4}(I:Bd w){x:G9}{qs:List G9}(hq:w.p=x::qs)(hc:0<x.L.length):Bde w x:=by
 have R:=Y0.1 (co I hq).1;have P:=W4.1 I.pool;have hx:x∈w.p:=by grind
 have hm:gt x.L 0∈x.L:=Xn (i:=0) hc;have h1:=(I.chi _).1 (A60 hx hm);obtain⟨_,_,e3,e4⟩:=jx I.conf P.mem h1.1.1 h1.1.2;have b0:=Gy I.conf;have hd:=R.done;refine⟨R,h1.1,h1.2,e3,e4,Ae2 P,?_,?_⟩
 ·grind [Xg]
 ·have:=(co I hq).2
  grind [Yc]
section
variable {K:Nat} (hK:281474976710656<=K)
include hK
theorem Bdf{w:H4}(hw:Yi w.Q)(hp:Xi w.C w.Q=true){x:G9}(X:Bde w x):qx K w.C w.Q (gt x.L 0) x.z=some (lm w x,!decide (Xg w x<w.C.k)):=by
 have b0:=Gy X.rc.conf;have P:=W4.1 hp;obtain⟨e1,e2,e3,e4⟩:=jx X.rc.conf P.mem X.k.1 X.k.2;have hd:=X.rc.done;have ht:=X.to;have hl:=X.len;have hk:=X.k;have es:A4 x.z w.C.m=x.z+w.C.m:=by grind [A4,Fp,Vr]
 have el:qv K (x.z+w.C.m) w.C.k=some (Xg w x):=by
  unfold qv Xg
  grind
 have ea:A4 (gt x.L 0*w.C.k) x.z=gt x.L 0*w.C.k+x.z:=by grind [A4,Fp,Vr]
 have en:Ap (Xg w x) x.z=Xg w x - x.z:=by grind [Ap,Aly,Vr]
 unfold qx;rw[zq K hw,A5v hK,hp,Xh,gg hK X.rc.conf,Vz.2 ⟨by omega,by omega⟩,Xh,zn X.rc.conf,Vz.2 hd,es,el,e1,ea];simp only[Z0,cond_true,Bool.not_true,cond_false];rw[en,Bdc hK (by omega) ⟨by omega,by omega⟩ (by omega) (by omega)];simp only[Z0,e2];rw[if_pos ⟨hk.1,by rw[P.st];exact hk.2⟩,X.st];simp only[bne_self_eq_false,cond_false];unfold lm;by_cases q:Xg w x<w.C.k
 ·rw[decide_eq_true q,if_pos q];rfl
 ·rw[decide_eq_false q,if_neg q];simp only[cond_false,Bool.not_false];rw[if_pos ⟨by omega,by omega,by show _<=((Ya _ _ _).length:Int);grind [cm]⟩];have hz:Wa (((Ya w.Q.g (gt x.L 0*w.C.k+x.z).toNat (Xg w x - x.z).toNat).drop (gt x.L 0*w.C.k).toNat).take (gt x.L 0*w.C.k+w.C.k - gt x.L 0*w.C.k).toNat)=true:=by
   rw[show(gt x.L 0*w.C.k+x.z).toNat=(gt x.L 0*w.C.k).toNat+x.z.toNat by omega];exact Bdb X.zero (by omega)
  rw[zl hK _ (by grind),hz];simp only[Z0,Bool.not_true,cond_false];rw[if_pos ⟨hk.1,by rw[P.st];exact hk.2⟩];rfl
theorem Buf{w:H4}(I:Bd w)(hw:Yi w.Q){x:G9}{qs:List G9}(hq:w.p=x::qs)(hc:0<x.L.length):vu K w=some (pt w x qs):=by
 have hm:=V2;have X:=A24 I hq hc;have hlen:=Y4 X.rc.conf X.rc.dist;have b0:=Gy X.rc.conf;have hd:=X.rc.done;unfold vu;rw[hq,ib,if_pos ⟨by omega,by simp⟩,if_pos (by omega),Bdf hK hw I.pool X,Z0];simp only;unfold pt bc;by_cases q:Xg w x<w.C.k
 ·rw[decide_eq_true q,if_pos q];have es:A4 x.z w.C.m=Xg w x:=by
   have ht:=X.to;unfold Xg at q ⊢;split at q
   ·omega
   ·rename_i r;rw[if_neg r];grind [A4,Fp,Vr]
  grind
 grind
end
theorem tq{c:Sv}{l:List Int}:Xo c l=true ↔ l.Nodup/\ ∀x∈l,0<=x/\x<c.L:=by
 constructor
 ·intro h;exact⟨pc h,au h⟩
 ·rintro⟨h1,h2⟩;unfold Xo;rw[Z1];intro i hi;rw[List.mem_range]at hi;rw[Z4,Vz,Gz hi]
  have:=h2 _ (List.getElem_mem hi);refine⟨by omega,?_⟩;simp_all[A6b]
theorem Bug{c:Sv}{l:List Int}{n:Nat}(h:Xo c l=true):Xo c (l.drop n)=true:=by
 rw[tq]at h ⊢
 grind
theorem Buh{w:H4}{x:G9}(h: ∀y∈w.Q.g,0<=y/\y<=255): ∀y∈A69 w x,0<=y/\y<=255:=by
 refine pp fun k hk=> ?_;unfold A69 at hk ⊢;rw[cm]at hk;obtain⟨j,rfl⟩: ∃j:Nat,k=j:=⟨k.toNat,by omega⟩
 grind [lj,Xn]
theorem Bui{w:H4}(I:Bd w){x:G9}{qs:List G9}(hq:w.p=x::qs)(hc:0<x.L.length):Bd (pt w x qs):=by
 have X:=A24 I hq hc;have P:=W4.1 I.pool;have hk:=X.k;have hd:=X.rc.done;have ht:=X.to;have hxq:x∈w.p:=by grind
 have hst: ∀c,0<=c/\c<w.C.L->gt (lm w x).c c=if c=gt x.L 0/\ ¬Xg w x<w.C.k then 0 else gt w.Q.c c:=by
  intro c h;show gt (if Xg w x<w.C.k then w.Q.c else w.Q.c.set (gt x.L 0).toNat 0) c=_;by_cases q:Xg w x<w.C.k
  ·grind
  ·rw[if_neg q,Aez hk.1 (by rw[P.st];exact h)];omega
 have hz: ∀b m,Wa ((w.Q.g.drop b).take m)=true->Wa (((lm w x).g.drop b).take m)=true:=fun b m h=>Buc h
 have hN:(gt x.L 0*w.C.k+x.z).toNat=(gt x.L 0*w.C.k).toNat+x.z.toNat:=by have:=X.at0;omega
 have hall: ∀m:Nat,m<=(Xg w x).toNat->Wa (((lm w x).g.drop (gt x.L 0*w.C.k).toNat).take m)=true:=by
  intro m h;show Wa (((Ya _ _ _).drop _).take m)=true;rw[hN];exact Bdb X.zero (by omega)
 have hlen:(lm w x).g.length=w.Q.g.length:=cm _ _ _;have hcons:x.L=gt x.L 0::x.L.drop 1:=by
  cases h:x.L with
  |nil=>grind
  |cons a l=>rfl
 have hnd:=pc X.rc.dist;have hch:Vw w.p=x.L++Vw qs:=by rw[hq];rfl
 have hn:=I.chn;rw[hch]at hn;have hchi:=I.chi;rw[hch]at hchi;unfold pt;refine A68 I (lm w x) _ _ ⟨P.conf,by rw[hlen];exact P.mem,?_,P.own,fun c h=> ?_⟩ (fun c h=>⟨?_,rfl⟩) (fun k h=> ?_) ?_ ?_ (fun y hy=> ?_) ?_ (fun c=> ?_) I.log
 ·show((if Xg w x<w.C.k then w.Q.c else w.Q.c.set (gt x.L 0).toNat 0).length:Int)=_
  grind [Zr.st]
 ·obtain⟨p1,p2,p3,p4⟩:=P.one c h;rw[hst c h];show _/\(_->0<=gt w.Q.h c/\_)/\(_->gt w.Q.h c= -1)/\_;by_cases q:c=gt x.L 0/\ ¬Xg w x<w.C.k
  ·rw[if_pos q];refine⟨by omega,fun f=>by omega,fun _=>p3 (by grind),fun _=> ?_⟩;unfold X8
   grind
  ·rw[if_neg q];exact⟨p1,p2,p3,fun f=>hz _ _ (p4 f)⟩
 ·grind
 ·have:=(I.thing k h).2.2;unfold X2 at this ⊢
  grind
 ·grind [bc,Wh]
 ·grind [bc,Vv]
 ·rcases Ax.1 hy with e|e
  ·subst e;unfold bc;by_cases q:Xg w x<w.C.k
   ·rw[if_pos q];refine⟨Y0.2 ⟨X.rc.conf,X.rc.slot,X.rc.first,X.rc.ntag,X.rc.tags,X.rc.dist,⟨by grind,by grind⟩,fun f=> ?_⟩,?_⟩
    ·grind
    ·unfold Yc
     grind
   ·rw[if_neg q];refine⟨Y0.2 ⟨X.rc.conf,X.rc.slot,X.rc.first,X.rc.ntag,X.rc.tags,?_,⟨Int.le_refl _,by grind⟩,fun _=>rfl⟩,?_⟩
    ·exact Bug X.rc.dist
    ·unfold Yc;rw[Bool.or_eq_true];exact .inr rfl
  ·obtain⟨a,b⟩:=I.wrec y (by grind);refine⟨a,?_⟩;unfold Yc at b ⊢
   grind
 ·show((bc w x).L++Vw qs).Nodup;unfold bc
  grind
 ·show c∈(bc w x).L++Vw qs ↔ _;rw[hcons,Gh]at hn;have hni:=(List.nodup_cons.1 hn).1;have hci:=hchi c;rw[hcons,Gh,Ax]at hci;unfold bc
  grind
def tr (g n:Fy)(k x:Int):Fy:=Y8 n (if g.v=0/\x+1=g.s/\n.i=k+1 then g.u else n.i) (if x+1=g.v then g.u else n.u) (if x+1=g.u then g.v else n.v)
theorem A7a{l l':List Fy}{t:Int->Lk}(A:V6 l t){k:Int}(hk:0<=k/\k<(l.length:Int))(hN:l'.length=l.length)(hg: ∀x,0<=x/\x<(l.length:Int)->x≠k->gt l' x=tr (gt l k) (gt l x) k x){gn:Int}(hb:gt l' k=We 2 gn):V6 l' (rem t k):=by
 intro x hx;rw[hN]at hx;by_cases e:x=k
 ·subst e;rw[gv,hb];rfl
 ·rw[V3 e,hg x hx e,A x hx,A k hk];rfl
theorem Buj{w:H4}(I:Bd w){t:Int->Lk}(A:V6 w.o t)(F:V4 w.o.length t (Wh w.p)){k:Int}(hl:Lv w.o.length t k)(l':List Fy)(q':List G9)(hN:l'.length=w.o.length)
  (hg: ∀x,0<=x/\x<(w.o.length:Int)->x≠k->gt l' x=tr (gt w.o k) (gt w.o x) k x) (hb:gt l' k=We 2 (gt w.o k).a)
  (F':V4 w.o.length (rem t k) (Wh q')) (hr: ∀x∈q',Xv w.C x=true/\Yc w x=true)
  (hcn:(Vw q').Nodup) (hci: ∀c,c∈Vw q' ↔ c∈Vw w.p++(gt w.o k).L) (hsn:(Vv q').Nodup) (hsi: ∀s,s∈Vv q' ↔ s∈Vv w.p\/s=k):
  Bd (H4.mk w.C (V8 w.Q (gt w.o k).L) l' q' w.q):=by
 have hk:=hl.1;have P:=I.live A hl;obtain⟨L1,L2,L3⟩:=ld I hk;refine⟨W4.2 L1,by simp_all[Bd.len],fun x hx=> ?_,fun x hx c=> ?_,fun x hx=> ?_,⟨rem t k,A7a A hk hN hg hb,?_⟩,fun x hx=> ?_,hcn,fun c=> ?_,hsn,fun s=> ?_,I.log⟩
 ·have hx:0<=x/\x<(l'.length:Int):=hx;rw[hN]at hx;show Wr w.C (gt l' x)=true;by_cases e:x=k
  ·grind [A2z,Bd.conf,Wx.gen]
  ·rw[hg x hx e];obtain⟨a1,a2,a3,a4⟩:=A20 (I.node k hk);by_cases hs:(gt w.o x).c=1
   ·have X:=Xf.1 ⟨I.node x hx,hs⟩;refine(Xf.2 (A61 X ?_ ?_ ?_)).1
    ·split
     ·exact a3
     ·exact X.first
    ·split
     ·exact a3
     ·exact X.next
    ·split
     ·exact a4
     ·exact X.prev
   ·have X:=ba (I.node x hx) hs;have B:=(A6t F.tree hl).bare x hx.1 hx.2 (by rw[V3 e,A x hx];grind [Yk]);rw[V3 e,A x hx,A k hk]at B;obtain⟨_,B2,B3,B4⟩:=B;have q1:(if(gt w.o k).v=0/\x+1=(gt w.o k).s/\(gt w.o x).i=k+1 then(gt w.o k).u else(gt w.o x).i)=0:=B2;have q2:(if x+1=(gt w.o k).v then(gt w.o k).u else(gt w.o x).u)=0:=B3;have q3:(if x+1=(gt w.o k).u then(gt w.o k).v else(gt w.o x).v)=0:=B4;have this:Y8 (gt w.o x) 0 0 0=gt w.o x:=by rw[X];rfl
    grind [tr,Bd.node]
 ·have hx:0<=x/\x<(l'.length:Int):=hx;rw[hN]at hx;show c∈(gt l' x).L ↔ (0<=c/\c<w.C.L)/\gt (V8 w.Q (gt w.o k).L).c c=1/\gt (V8 w.Q (gt w.o k).L).h c=x;by_cases e:x=k
  ·rw[e,hb];constructor
   ·intro q;cases q
   ·rintro⟨a,b,d⟩;rw[(L3 c a).1]at b;rw[(L3 c a).2]at d;split at b
    all_goals simp_all[Bd.own]
  ·rw[hg x hx e];show c∈(gt w.o x).L ↔ _;rw[I.own x hx c];constructor
   ·rintro⟨a,b,d⟩
    have q:c ∉ (gt w.o k).L:=fun q=>e (by have:=((I.own k hk c).1 q).2.2;omega)
    grind
   grind
 ·have hx:0<=x/\x<(l'.length:Int):=hx;rw[hN]at hx;show(gt l' x).y.all (W7 w.C (gt l' x).L)=true/\Y3 (gt l' x).y=true/\X2 w.C (V8 w.Q (gt w.o k).L).g (gt l' x)=true;by_cases e:x=k
  ·rw[e,hb];exact⟨rfl,rfl,rfl⟩
  ·rw[hg x hx e];obtain⟨t1,t2,t3⟩:=I.thing x hx;refine⟨t1,t2,?_⟩;rw[L2];exact t3
 ·grind
 ·obtain⟨a,b⟩:=hr x hx;refine⟨a,?_⟩;unfold Yc at b ⊢
  grind
 ·grind [A65]
 ·show s∈Vv q' ↔ (0<=s/\s<(l'.length:Int))/\(gt l' s).c=2;rw[hsi s,hN,I.sli];constructor
  ·rintro(⟨a,b⟩|a)
   ·refine⟨a,?_⟩;have e:s≠k:=fun e=>by grind [Wx.st]
    rw[hg s a e];exact b
   ·rw[a,hb];exact⟨hk,rfl⟩
  ·rintro⟨a,b⟩
   by_cases e:s=k
   ·omega
   ·rw[hg s a e]at b;exact .inl ⟨a,b⟩
def Yl (l:List Fy)(g:Int):List Fy:=((bif Wm l (gt l g).u then l.set ((gt l g).u - 1).toNat (A6p (gt l ((gt l g).u - 1)) 0)else l).set g.toNat (We 2 (gt l g).a))
def Zz (l:List Fy)(x:G9):G9:=G9.mk x.d (gt l (x.i - 1)).u x.j x.L x.z
def Xj (w:H4)(x:G9)(qs:List G9):H4:=
 H4.mk w.C (V8 w.Q (gt w.o (x.i - 1)).L) (Yl w.o (x.i - 1)) (Wn (gt w.o (x.i - 1)) x.i::Zz w.o x::qs) w.q
theorem A7b (l:List Fy)(g:Int):(Yl l g).length=l.length:=by
 unfold Yl;grind
theorem Bdg{l:List Fy}(R:Rg l){g x:Int}(hg:0<=g/\g<(l.length:Int))(hx:0<=x/\x<(l.length:Int))(hne:x≠g)(hp:(gt l g).v=0)(hf: ¬(x+1=(gt l g).s/\(gt l x).i=g+1)):gt (Yl l g) x=tr (gt l g) (gt l x) g x:=by
 obtain⟨r1,r2,r3,r4⟩:=R.rg g hg;have hl:=R.len;unfold Yl tr;rw[Aei r3.1 r3.2 hl,hp,if_neg (fun q=>hf q.2),if_neg (by omega: ¬x+1=0)];by_cases h:(gt l g).u=0
 ·rw[h];simp only[beq_self_eq_true,Bool.not_true,cond_false];rw[Yz hg hx,if_neg hne,if_neg (by omega)];rfl
 ·rw[Wg h];simp only[Bool.not_false,cond_true];rw[Yz (by grind) (by grind),if_neg hne,Yz (by omega) hx];by_cases e:x=(gt l g).u - 1
  ·rw[if_pos e,if_pos (by omega),<-e];rfl
  ·rw[if_neg e,if_neg (by omega)];rfl
theorem Bdh{l:List Fy}{g:Int}(hg:0<=g/\g<(l.length:Int)):gt (Yl l g) g=We 2 (gt l g).a:=by
 unfold Yl;rw[gr]
 grind
structure Bdi (w:H4)(t:Int->Lk)(x:G9)(qs:List G9):Prop where
 rc:pr w.C x
 lv:Lv w.o.length t (x.i - 1)
 or:Oo w.o.length t (x.i - 1)
 pv:(gt w.o (x.i - 1)).v=0
 fr:V4 w.o.length (rem t (x.i - 1)) (Wh (Wn (gt w.o (x.i - 1)) x.i::Zz w.o x::qs))
 nf: ∀y,0<=y/\y<(w.o.length:Int)-> ¬(y+1=(gt w.o (x.i - 1)).s/\(gt w.o y).i=x.i - 1+1)
theorem Ae3{w:H4}(I:Bd w){t:Int->Lk}(A:V6 w.o t)(F:V4 w.o.length t (Wh w.p)){x:G9}{qs:List G9}(hq:w.p=x::qs)(hf:x.i≠0):Bdi w t x qs:=by
 have R:=Y0.1 (co I hq).1;have hx:x∈w.p:=by grind
 have hF:=R.first;have e:x.i - 1+1=x.i:=by omega
 have F1:V4 w.o.length t ((x.d,x.i - 1+1)::Wh qs):=by rw[e];rw[hq]at F;exact F
 obtain⟨h1,h2,h3⟩:=Btu F1 (by omega);have hin:=h1.1;have hor:Oo w.o.length t (x.i - 1):=F.kid.or (Bd.qs hx) (Aaf hin);have hpv:(gt w.o (x.i - 1)).v=0:=by rw[A _ hin]at h2;exact h2
 refine⟨R,h1,hor,hpv,?_,?_⟩
 ·rw[A _ hin,e]at h3;exact h3
 ·rintro y hy ⟨a,b⟩
  have hup:(t (x.i - 1)).up=y+1:=by rw[A _ hin,a];rfl
  have hfi:(t y).fi=x.i:=by rw[A _ hy,<-e,<-b];rfl
  cases hlv:(t y).lv with
  |false=>
   have:=(F.tree.bare y hy.1 hy.2 hlv).2.1;omega
  |true=>
   have hY:Lv w.o.length t y:=⟨hy,hlv⟩;have:=(F.tree.link y hY).first (by omega);rw[hfi]at this;refine hor.2.2 ⟨?_,?_⟩
   all_goals grind
theorem Bdj{w:H4}(I:Bd w){x:G9}{qs:List G9}(hq:w.p=x::qs)(hf:x.i≠0):Bd (Xj w x qs):=by
 obtain⟨t,A,F⟩:=I.forest;have X:=Ae3 I A F hq hf;have hk:=X.lv.1;have hF:=X.rc.first;have L:=I.live A X.lv;have b0:=Gy I.conf;have hch:Vw w.p=x.L++Vw qs:=by rw[hq];rfl
 have hcn:=A64 I hk;rw[hch]at hcn;have hsl:Vv w.p=(if x.d=0 then []else [Ap x.d 1])++Vv qs:=by rw[hq];rfl
 have hsn:=I.sln;rw[hsl]at hsn;have e1:Vv (Wn (gt w.o (x.i - 1)) x.i::Zz w.o x::qs)=(x.i - 1)::((if x.d=0 then []else [Ap x.d 1])++Vv qs):=by
  show(if x.i=0 then []else [Ap x.i 1])++_=_;rw[if_neg hf,V9 (by omega)];rfl
 have hns:x.i - 1 ∉ Vv w.p:=fun h=>by
  have:=((I.sli _).1 h).2
  grind [Wx.st]
 unfold Xj;refine Buj I A F X.lv _ _ (A7b _ _) (fun y hy hne=>Bdg I.rg hk hy hne X.pv (X.nf y hy)) (Bdh hk) X.fr (fun y hy=> ?_) ?_ (fun c=> ?_) ?_ (fun s=> ?_)
 ·rcases Ax.1 hy with e|e
  ·grind [A62,A63]
  ·rcases Ax.1 e with e|e
   ·rw[e];exact⟨Y0.2 ⟨X.rc.conf,X.rc.slot,L.next,X.rc.ntag,X.rc.tags,X.rc.dist,X.rc.done,X.rc.zero⟩,(co I hq).2⟩
   grind [Bd.wrec]
 ·show((gt w.o (x.i - 1)).L++(x.L++Vw qs)).Nodup
  grind
 ·rw[hch];show c∈(gt w.o (x.i - 1)).L++(x.L++Vw qs) ↔ _
  grind
 all_goals grind
end Go.Proofs.YtgcnddnmhllahaaGreat
