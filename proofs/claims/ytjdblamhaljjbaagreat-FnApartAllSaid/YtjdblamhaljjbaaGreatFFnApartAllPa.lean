/- The plain law for FnApartAll; no condition. -/
import Derived.Test.YtjdblamhaljjbaaGreatFFnApartAllTa
import Derived.Test.YtjdblamhaljjbaaGreatFFnApartAllW
set_option linter.all false
namespace Go.Proofs.YtjdblamhaljjbaaGreat
open Go.Eng Go.ChangeShapes Go.WideShapes Go.ChangeAt Go.RowKit
theorem Agw{i:Nat}(h:i≤140737488355328):Aqc .i64 (i:Int) 1=((i+1:Nat):Int):=by
 unfold Aqc;rw[IntKind.wrap_i64];omega
theorem Abh{α:Type}[Inhabited α]{l:List α}{i:Nat}(h:i<l.length):gt l (i:Int)=l[i]:=by
 unfold gt;simp[h]
theorem Arz{α:Type}[Inhabited α]{l:List α}{i:Nat}(h:i<l.length):gt l (i:Int)∈l:=by
 rw[Abh h];exact List.getElem_mem h
theorem Aqx{α:Type}[Inhabited α]{l:List α}{i:Int}(h0:0≤i)(h:i<l.length):gt l i∈l:=by
 obtain⟨k,rfl⟩: ∃k:Nat,i=k:=⟨i.toNat,by omega⟩
 exact Arz (by omega)
theorem Aha{i k:Nat}(h:i<k):decide ((i:Int)<(k:Int))=true:=by simp;omega
theorem Ai2{i k:Nat}(h:k≤i):decide ((i:Int)<(k:Int))=false:=by simp;omega
theorem Abf{n:Int}(h0: -9223372036854775808≤n)(h1:n≤9223372036854775807):IntKind.i64.wrap n=n:=by rw[IntKind.wrap_i64];omega
theorem Bms (n:Int): -9223372036854775808≤IntKind.i64.wrap n∧IntKind.i64.wrap n≤9223372036854775807:=by rw[IntKind.wrap_i64];omega
theorem cc{α:Type}(b:Bool)(x:α):(bif b then x else x)=x:=by cases b<;>rfl
theorem Aue{a b:Int}(h: ¬a=b):(a != b)=true:=by simpa using h
theorem Aky{a b:Int}(h: ¬a=b):(a==b)=false:=by simpa using h
def inB (x a b:Int):Bool:=decide (a≤x∧x≤b)
theorem Abm{x a b:Int}:inB x a b=true ↔ a≤x∧x≤b:=by unfold inB;exact decide_eq_true_iff
theorem Bbi{x a b:Int}:inB x a b=false ↔ ¬(a≤x∧x≤b):=by unfold inB;exact decide_eq_false_iff_not
theorem Arb (b:Bool)(x:Bool):(bif b then some x else some false)=some (b&&x):=by cases b<;>rfl
theorem Byd (b:Bool)(x:Bool):(bif b then some false else some x)=some (!b&&x):=by cases b<;>rfl
theorem Azr (b:Bool)(x:Bool):(bif b then some true else some x)=some (b||x):=by cases b<;>rfl
theorem Age{α:Type}(b:Bool)(x y:α):(bif !b then x else y)=(bif b then y else x):=by cases b<;>rfl
theorem Aph{i n:Nat}(h:i<n):((0:Int)≤(i:Int)∧(i:Int)<(n:Int)):=⟨by omega,by omega⟩
theorem Bye{α:Type}(l:List α)(q:α->Bool)(fin:Option Bool)(L:Nat->Int->Option Bool)
  (hs: ∀n (i:Nat) (h:i<l.length),L (n+1) (i:Int)=bif q l[i]then L n ((i+1:Nat):Int)else some false)
  (he: ∀n,L (n+1) (l.length:Int)=fin):
  ∀(n i:Nat),i≤l.length->l.length - i<n->L n (i:Int)=bif (l.drop i).all q then fin else some false:=by
 intro n
 induction n with
 |zero=>intro i _ h;omega
 |succ n ih=>
  intro i hi hn;rcases Ge i l.length with h|h
  ·rw[hs n i h,Z47 h,Gc];cases q l[i]with
   |false=>rfl
   |true=>rw[cond_true,ih (i+1) h (by omega)];rfl
  ·obtain rfl:i=l.length:=by omega
   rw[he,List.drop_length];rfl
theorem Aty{α:Type}{K:Nat}(hK:281474976710656≤K)(l:List α)(hl:l.length≤140737488355328)(q:α->Bool)(fin:Option Bool)(L:Nat->Int->Option Bool)
  (hs: ∀n (i:Nat) (h:i<l.length),L (n+1) (i:Int)=bif q l[i]then L n ((i+1:Nat):Int)else some false)
  (he: ∀n,L (n+1) (l.length:Int)=fin):L K 0=bif l.all q then fin else some false:=by
 have:=Bye l q fin L hs he K 0 (Z21 _) (by omega)
 simpa using this
theorem Auf{K:Nat}(hK:281474976710656≤K)(N:Nat)(hl:N≤140737488355328)(q:Nat->Bool)(fin:Option Bool)(L:Nat->Int->Option Bool)
  (hs: ∀n (i:Nat) (h:i<N),L (n+1) (i:Int)=bif q i then L n ((i+1:Nat):Int)else some false)
  (he: ∀n,L (n+1) (N:Int)=fin):L K 0=bif (List.range N).all q then fin else some false:=by
 refine Aty hK (List.range N) (by simpa using hl) q fin L (fun n i h=> ?_) (fun n=> ?_)
 ·rw[List.getElem_range];exact hs n i (by simpa using h)
 ·rw[List.length_range];exact he n
theorem Bmt{α:Type}(l:List α)(q:α->Bool)(L:Nat->Int->Int->Option Int)
  (hs: ∀n (i:Nat) (h:i<l.length),L (n+1) (l.length:Int) (i:Int)=bif q l[i]then some (i:Int)else L n (l.length:Int) ((i+1:Nat):Int))
  (he: ∀n,L (n+1) (l.length:Int) (l.length:Int)=some (-1)):
  ∀(n i:Nat),i≤l.length->l.length - i<n-> ∃r,L n (l.length:Int) (i:Int)=some r∧decide (r≥0)=(l.drop i).any q:=by
 intro n
 induction n with
 |zero=>intro i _ h;omega
 |succ n ih=>
  intro i hi hn;rcases Ge i l.length with h|h
  ·rw[hs n i h,Z47 h,List.any_cons];cases q l[i]with
   |true=>exact⟨_,rfl,by simp⟩
   |false=>rw[cond_false,Z52];exact ih (i+1) h (by omega)
  ·obtain rfl:i=l.length:=by omega
   exact⟨_,he n,by simp⟩
theorem Bge{α:Type}[Inhabited α]{K:Nat}(hK:281474976710656≤K)(l:List α)(hl:l.length≤140737488355328)(f:α->Option Bool)(q:α->Bool)(hf: ∀x∈l,f x=some (q x))(L:Nat->Int->Int->Option Int)
  (hL: ∀n N i,L (n+1) N i=bif decide (i<N)then(if(0:Int)≤i∧i<(l.length:Int)then(f (gt l i)).bind (fun r=>bif r then some i else L n N (Aqc .i64 i 1))else none)else some (-1)):
  ((L K (l.length:Int) 0).bind fun r=>some (decide (r≥0)))=some (l.any q):=by
 obtain⟨r,h1,h2⟩:=Bmt l q L (fun n i h=>by
  rw[hL,Aha h,cond_true,if_pos (Aph h),hf _ (Arz h),Abh h,Z0,Agw (by omega)]) (fun n=>by rw[hL,Ai2 (Z9 _),cond_false]) K 0 (Z21 _) (by omega)
 rw[show((0:Nat):Int)=0 from rfl]at h1
 rw[h1,Z0,h2,Z55]
theorem Bcz{K:Nat}(hK:281474976710656≤K)(l:List Int)(x:Int)(hl:l.length≤140737488355328):Ar3 K l x=some (l.contains x):=by
 unfold Ar3 Avw;obtain⟨r,h1,h2⟩:=Bmt l (fun y=>x==y) (Anj K l x) (fun n i h=>by
  rw[Anj,Aha h,cond_true,if_pos (Aph h),Abh h,Agw (by omega)]) (fun n=>by rw[Anj,Ai2 (Z9 _),cond_false]) K 0 (Z21 _) (by omega)
 rw[show((0:Nat):Int)=0 from rfl]at h1
 rw[h1,Z0,h2,Z55,List.contains_eq_any_beq]
theorem Ays{K:Nat}(hK:281474976710656≤K)(l:List Int)(x:Int)(hl:l.length≤140737488355328):Apu K l x=some (l.contains x):=by
 unfold Apu
 have h: ∀(n i:Nat),i≤l.length->l.length - i<n->At6 K l x n (i:Int)=some ((l.drop i).contains x):=by
  intro n
  induction n with
  |zero=>intro i _ h;omega
  |succ n ih=>
   intro i hi hn;rw[At6];rcases Ge i l.length with h|h
   ·rw[Aha h,cond_true,if_pos (Aph h),Abh h,Agw (by omega),ih (i+1) h (by omega),Z47 h,List.contains_cons,Azr,Bool.beq_comm]
   ·rw[Ai2 h,cond_false,Z48 h];rfl
 have:=h K 0 (Z21 _) (by omega)
 simpa using this
theorem Api (K:Nat)(x a b:Int):Aaa K x a b=some (inB x a b):=by
 unfold Aaa inB
 by_cases h:a≤x
 ·rw[decide_eq_true (show x≥a from h)];simp[h]
 ·rw[decide_eq_false (show ¬x≥a from h)];simp[h]
def Alm (c:Fa):Bool:=inB c.Af 2 12&&(inB c.Ez 8 16&&(inB c.Db 2 8&&(inB c.Fv 1 8&&(inB c.Dc 1 16&&inB c.E0 1 4))))
theorem Atc (K:Nat)(c):Ak9 K c=some (Alm c):=by
 simp only[Ak9,Api,Z0,Arb,Alm]
theorem Ap{c:Fa}(h:Alm c=true):(2≤c.Af∧c.Af≤12)∧(8≤c.Ez∧c.Ez≤16)∧(2≤c.Db∧c.Db≤8)∧(1≤c.Fv∧c.Fv≤8)∧(1≤c.Dc∧c.Dc≤16)∧(1≤c.E0∧c.E0≤4):=by
 simpa only[Alm,Z4,Abm]using h
def Anl (c:Fa):Int:=bif Alm c then c.Af*c.Ez else 0
theorem Auu{a b m n:Int}(h1:0≤a)(h2:a≤m)(h3:0≤b)(h4:b≤n):0≤a*b∧a*b≤m*n:=
 ⟨Int.mul_nonneg h1 h3,Int.mul_le_mul h2 h4 h3 (by omega)⟩
theorem Auv (K:Nat)(c):Arn K c=some (Anl c):=by
 unfold Arn Anl;rw[Atc,Z0,Age];cases h:Alm c with
 |false=>rfl
 |true=>
  obtain⟨h1,h2,_⟩:=Ap h
  have:=Auu (a:=c.Af) (b:=c.Ez) (m:=12) (n:=16) (by omega) h1.2 (by omega) h2.2
  simp only[cond_true,Aqe];rw[Abf (by omega) (by omega)]
theorem A21 (K:Nat)(c):Ayr K c=some (Anl c):=Auv K c
theorem Ayt (c:Fa):0≤Anl c∧Anl c≤192:=by
 unfold Anl;cases h:Alm c with
 |false=>simp
 |true=>
  obtain⟨h1,h2,_⟩:=Ap h
  have:=Auu (a:=c.Af) (b:=c.Ez) (m:=12) (n:=16) (by omega) h1.2 (by omega) h2.2
  simp only[cond_true];omega
section
variable {K:Nat} (hK:281474976710656≤K)
include hK
def Ari (l:List Int):Bool:=l.all (fun x=>x==0)
theorem Azi (l:List Int)(hl:l.length≤140737488355328):Asl K l=some (Ari l):=by
 unfold Asl;rw[Aty hK l hl (fun x=>x==0) (some true) (Ar9 K l) (fun n i h=>by
  rw[Ar9,Aha h,cond_true,if_pos (Aph h),Abh h,Agw (by omega)]
  cases e:l[i]==0<;>simp[bne,e]) (fun n=>by rw[Ar9,Ai2 (Z9 _),cond_false])]
 unfold Ari;cases l.all (fun x=>x==0)<;>rfl
end
def Aug (a b:Int):Int:=bif inB a 0 1000000000&&inB b 1 1000000000 then(a+b - 1) / b else 0
theorem A0f (K:Nat)(a b:Int):Awk K a b=some (Aug a b):=by
 unfold Awk Aug;rw[Api,Api,Z0];cases h1:inB a 0 1000000000 with
 |false=>rfl
 |true=>
  cases h2:inB b 1 1000000000 with
  |false=>rfl
  |true=>
   rw[Abm]at h1 h2;simp only[Z0,cond_true,Bool.not_true,cond_false,Bool.and_self];rw[if_pos (by omega)]
   unfold Anr Aqd Aqc;rw[Abf (n:=a+b) (by omega) (by omega),Abf (n:=a+b - 1) (by omega) (by omega)]
   rw[Int.tdiv_eq_ediv_of_nonneg (by omega)]
   have h3:(a+b - 1) / b≤a+b - 1:=Int.ediv_le_self _ (by omega)
   have h4:0≤(a+b - 1) / b:=Int.ediv_nonneg (by omega) (by omega)
   rw[Abf (by omega) (by omega)]
def A0g (c:Fa)(mem:List Int)(k:Int):List Int:=(mem.drop (k*c.Ez).toNat).take c.Ez.toNat
def A0h (c:Fa)(p:Eb)(k:Nat):Bool:=
 inB (gt p.Ja k) 0 2&&((bif gt p.Ja k==1 then inB (gt p.Gm k) 0 (c.Db - 1)else gt p.Gm k== -1)&&(bif gt p.Ja k==0 then Ari (A0g c p.Gl k)else true))
def Ax0 (c:Fa)(p:Eb):Bool:=
 Alm c&&((p.Gl.length:Int)==Anl c&&((p.Ja.length:Int)==c.Af&&((p.Gm.length:Int)==c.Af&&(List.range c.Af.toNat).all (A0h c p))))
theorem Av5{c:Fa}{p:Eb}(h:Ax0 c p=true):Alm c=true∧(p.Gl.length:Int)=c.Af*c.Ez∧(p.Ja.length:Int)=c.Af∧(p.Gm.length:Int)=c.Af∧ ∀k,k<c.Af.toNat->A0h c p k=true:=by
 simp only[Ax0,Z4,beq_iff_eq,Z1,List.mem_range]at h;obtain⟨h1,h2,h3,h4,h5⟩:=h;refine⟨h1,?_,h3,h4,h5⟩;rw[h2,Anl,h1];rfl
theorem A22{c:Fa}(hc:Alm c=true){mem:List Int}(hm:(mem.length:Int)=c.Af*c.Ez){k:Int}(h0:0≤k)(h1:k<c.Af):
  Aqe .i64 k c.Ez=k*c.Ez∧Aqe .i64 (Aqc .i64 k 1) c.Ez=k*c.Ez+c.Ez∧0≤k*c.Ez∧k*c.Ez+c.Ez≤(mem.length:Int):=by
 obtain⟨b1,b2,_⟩:=Ap hc
 have m1:=Auu (a:=k) (b:=c.Ez) (m:=12) (n:=16) h0 (by omega) (by omega) b2.2
 have e2:(k+1)*c.Ez=k*c.Ez+c.Ez:=by rw[Int.add_mul,Int.one_mul]
 have m2:(k+1)*c.Ez≤c.Af*c.Ez:=Int.mul_le_mul_of_nonneg_right (by omega) (by omega)
 rw[e2]at m2;refine⟨?_,?_,m1.1,by omega⟩
 ·unfold Aqe;exact Abf (by omega) (by omega)
 ·unfold Aqe Aqc;rw[Abf (n:=k+1) (by omega) (by omega),e2,Abf (by omega) (by omega)]
section
variable {K:Nat} (hK:281474976710656≤K)
include hK
theorem A41 (c:Fa)(p:Eb):Au3 K c p=some (Ax0 c p):=by
 unfold Au3;rw[Atc,Auv];simp only[Z0];cases hc:Alm c with
 |false=>simp[Ax0,hc]
 |true=>
 obtain⟨b1,b2,b3,_⟩:=Ap hc
 have hby:Anl c=c.Af*c.Ez:=by rw[Anl,hc];rfl
 simp only[cond_true,Ax0,hc,Z30,bne];cases h1:(p.Gl.length:Int)==Anl c with
 |false=>rfl
 |true=>
 cases h2:(p.Ja.length:Int)==c.Af with
 |false=>rfl
 |true=>
 cases h3:(p.Gm.length:Int)==c.Af with
 |false=>rfl
 |true=>
 rw[beq_iff_eq]at h1 h2 h3
 have hN:((c.Af.toNat:Nat):Int)=c.Af:=by omega
 simp only[Bool.not_true,cond_false,Z30];rw[Auf hK c.Af.toNat (by omega) (A0h c p) (some true) (fun n i=>Ako K c n i p.Gl p.Ja p.Gm) (fun n i h=> ?_) (fun n=> ?_)]
 ·cases (List.range c.Af.toNat).all (A0h c p)<;>rfl
 ·obtain⟨e1,e2,e3,e4⟩:=A22 hc (h1.trans hby) (k:=(i:Int)) (by omega) (by omega)
  have hl:(List.take (i*c.Ez+c.Ez - i*c.Ez).toNat (List.drop (i*c.Ez).toNat p.Gl)).length≤140737488355327:=by simp;omega
  have hs:Aqd .i64 c.Db 1=c.Db - 1:=by unfold Aqd;rw[Abf (by omega) (by omega)]
  have hck:List.take (i*c.Ez+c.Ez - i*c.Ez).toNat (List.drop (i*c.Ez).toNat p.Gl)=A0g c p.Gl i:=by
   unfold A0g;rw[show(i:Int)*c.Ez+c.Ez - i*c.Ez=c.Ez by omega]
  simp only[Ako,Asa,Avf];rw[e1,e2,Agw (by omega),decide_eq_true (show(i:Int)<c.Af by omega),cond_true,if_pos ⟨by omega,by omega⟩,Api,Api,hs,Azi hK _ (by omega),hck]
  simp only[Z0,bne,show((0:Int)≤(i:Int)∧(i:Int)<(p.Ja.length:Int))=True from eq_true ⟨by omega,by omega⟩,show((0:Int)≤(i:Int)∧(i:Int)<(p.Gm.length:Int))=True from eq_true ⟨by omega,by omega⟩,if_true,if_pos (show(0:Int)≤i*c.Ez∧(i:Int)*c.Ez≤i*c.Ez+c.Ez∧(i:Int)*c.Ez+c.Ez≤(p.Gl.length:Int) from⟨e3,by omega,e4⟩)]
  unfold A0h;cases inB (gt p.Ja i) 0 2<;>cases (gt p.Ja (i:Int)==1)<;>cases inB (gt p.Gm i) 0 (c.Db - 1)<;>cases (gt p.Gm (i:Int)== -1)<;>cases (gt p.Ja (i:Int)==0)<;>cases Ari (A0g c p.Gl i)<;>rfl
 ·show Ako K c (n+1) _ _ _ _=_;rw[Ako,hN,decide_eq_false (by omega),cond_false]
end
def Avv (c:Fa)(t:Bf):Prop:=Alm c=true∧1≤t.Xf∧0≤t.fAt∧t.fAt+t.Xf≤Anl c
instance (c t):Decidable (Avv c t):=by unfold Avv;infer_instance
def Ard (c:Fa)(t:Bf):Bool:=
 decide (Avv c t)&&(bif t.Xg==0 then decide (t.Xf≤c.Ez)&&(t.fAt / c.Ez==(t.fAt+t.Xf - 1) / c.Ez)else decide (t.Xf>c.Ez)&&(t.Xg==Aug t.Xf c.Ez&&t.fAt % c.Ez==0))
theorem A7p (K:Nat){c:Fa}{t:Bf}(h:Avv c t):
  (bif (t.Xg==0)then(bif (decide (t.Xf≤c.Ez))then(if c.Ez≠(0:Int)then(if c.Ez≠(0:Int)then some ((Anr .i64 t.fAt c.Ez)==(Anr .i64 (Aqd .i64 (Aqc .i64 t.fAt t.Xf) 1) c.Ez))else none)else none)else some false)else((Ap1 K c t.Xf).bind fun r2=>(bif r2 then((Anb K c t.Xf).bind fun r3=>(bif (t.Xg==r3)then(if c.Ez≠(0:Int)then some ((Int.tmod t.fAt c.Ez)==0)else none)else some false))else some false)))=some (Ard c t):=by
 have hd:decide (Avv c t)=true:=decide_eq_true h;obtain⟨hc,h1,h2,h3⟩:=h
 have hb:=Ayt c;obtain⟨b1,b2,_⟩:=Ap hc;unfold Ard Ap1 Anb;rw[hd,if_pos (by omega),if_pos (by omega),A0f]
 have e1:Aqd .i64 (Aqc .i64 t.fAt t.Xf) 1=t.fAt+t.Xf - 1:=by
  unfold Aqd Aqc;rw[Abf (n:=t.fAt+t.Xf) (by omega) (by omega),Abf (by omega) (by omega)]
 have e2: ∀x:Int,0≤x->x≤192->Anr .i64 x c.Ez=x / c.Ez:=by
  intro x h0 hx;unfold Anr;rw[Int.tdiv_eq_ediv_of_nonneg h0]
  have h3:x / c.Ez≤x:=Int.ediv_le_self _ h0
  have h4:0≤x / c.Ez:=Int.ediv_nonneg h0 (by omega)
  rw[Abf (by omega) (by omega)]
 rw[e1,e2 _ h2 (by omega),e2 _ (by omega) (by omega),Int.tmod_eq_emod_of_nonneg h2]
 simp only[Z0,if_pos (show c.Ez≠0 by omega)]
 cases t.Xg==0<;>cases decide (t.Xf≤c.Ez)<;>cases decide (t.Xf>c.Ez)<;>cases t.Xg==Aug t.Xf c.Ez<;>rfl
theorem Bc0{c:Fa}{t:Bf}(h: ¬Avv c t):Ard c t=false:=by
 unfold Ard;rw[decide_eq_false h];rfl
theorem A23 (K:Nat)(c:Fa)(t:Bf):As2 K c t=some (Ard c t):=by
 have hb:=Ayt c
 by_cases h:Avv c t
 ·rw[←A7p K h];obtain⟨hc,h1,h2,h3⟩:=h;unfold As2;rw[Auv,Z0,Aky (by omega),decide_eq_false (by omega),decide_eq_false (by omega),decide_eq_false (by omega)]
  unfold Aqd;rw[Abf (by omega) (by omega),decide_eq_false (show ¬t.Xf>Anl c - t.fAt by omega)]
  simp only[cond_false]
  try rfl
 ·rw[Bc0 h];unfold As2;rw[Auv,Z0]
  by_cases g0:Anl c=0
  ·rw[g0];rfl
  ·have hc:Alm c=true:=by
    cases hc:Alm c with
    |true=>rfl
    |false=>exact absurd (by unfold Anl;rw[hc];rfl) g0
   rw[Aky g0,cond_false]
   by_cases g1:t.Xf<1
   ·rw[decide_eq_true g1];rfl
   ·by_cases g2:t.fAt<0
    ·rw[decide_eq_false g1,decide_eq_true g2];rfl
    ·by_cases g3:t.fAt>Anl c
     ·rw[decide_eq_false g1,decide_eq_false g2,decide_eq_true g3];rfl
     ·rw[decide_eq_false g1,decide_eq_false g2,decide_eq_false g3];unfold Aqd;rw[Abf (by omega) (by omega),decide_eq_true (show t.Xf>Anl c - t.fAt from ?_)]
      ·rfl
      ·refine Classical.byContradiction fun g4=>h ⟨hc,by omega,by omega,by omega⟩
theorem Bbj (K:Nat)(c:Fa)(t:Bf):Aud K c t=some (Ard c t):=by
 have hb:=Ayt c
 by_cases h:Avv c t
 ·rw[←A7p K h];obtain⟨hc,h1,h2,h3⟩:=h;unfold Aud;rw[A21,Z0,decide_eq_false (by omega),decide_eq_false (by omega),decide_eq_false (by omega)]
  unfold Aqd;rw[Abf (by omega) (by omega),decide_eq_false (show ¬t.fAt>Anl c - t.Xf by omega)]
  simp only[cond_false]
  try rfl
 ·rw[Bc0 h];unfold Aud;rw[A21,Z0]
  by_cases g1:t.Xf≤0
  ·rw[decide_eq_true g1];rfl
  ·by_cases g2:t.fAt<0
   ·rw[decide_eq_false g1,decide_eq_true g2];rfl
   ·by_cases g3:t.Xf>Anl c
    ·rw[decide_eq_false g1,decide_eq_false g2,decide_eq_true g3];rfl
    ·rw[decide_eq_false g1,decide_eq_false g2,decide_eq_false g3]
     have hc:Alm c=true:=by
      cases hc:Alm c with
      |true=>rfl
      |false=>exfalso;unfold Anl at g3;rw[hc]at g3;simp only[cond_false]at g3;omega
     unfold Aqd;rw[Abf (by omega) (by omega),decide_eq_true (show t.fAt>Anl c - t.Xf from ?_)]
     ·rfl
     ·refine Classical.byContradiction fun g4=>h ⟨hc,by omega,by omega,by omega⟩
theorem A7q{α:Type}(l:List α)(i:Nat):(l.drop (0:Int).toNat).take ((i:Int) - 0).toNat=l.take i:=by simp
theorem Bgf{i n:Nat}(h:i≤n):((0:Int)≤0∧(0:Int)≤(i:Int)∧(i:Int)≤(n:Int)):=⟨by omega,by omega,by omega⟩
def Auw (c:Fa)(l:List Int):Bool:=(List.range l.length).all (fun i=>inB (gt l i) 0 (c.Af - 1)&& !(l.take i).contains (gt l i))
def A7r (n:Bg):Bool:=
 n.Js==0&&(n.fUp==0&&(n.Hf==0&&(n.B5==0&&(n.Hg==0&&(n.Hh==0&&((n.Af.length:Int)==0&&(n.Rk==0&&(n.Hi==0&&((n.Er.length:Int)==0&&(n.Dt.length:Int)==0)))))))))
theorem Bia (K:Nat)(n):Azd K n=some (A7r n):=by
 simp only[Azd,Arb,A7r]
def A5h (c:Fa)(n:Bg):Bool:=bif n.Rk==0 then n.Hi==0 else n.Af.contains (Aqd .i64 n.Rk 1)&&inB n.Hi 0 c.Ez
def Bc1 (c:Fa)(n:Bg):Bool:=
 (inB n.fUp 0 c.Db&&(inB n.B5 0 c.Db&&(inB n.Hg 0 c.Db&&inB n.Hh 0 c.Db)))&&((!decide (n.Js<0)&& !decide (n.Hf<0))&&((Auw c n.Af&&A5h c n)&&((decide ((n.Er.length:Int)≤12)&&decide ((n.Dt.length:Int)≤6))&&(n.Dt.all (fun x=>inB x 0 255)&&n.Er.all (Ard c)))))
def Aso (c:Fa)(n:Bg):Bool:=Alm c&&(inB n.Ja 0 3&&(inB n.Bz 1 c.E0&&(bif n.Ja != 1 then A7r n else Bc1 c n)))
section
variable {K:Nat} (hK:281474976710656≤K)
include hK
theorem Azz{c:Fa}(hc:Alm c=true):Aqd .i64 c.Af 1=c.Af - 1:=by
 obtain⟨b1,_⟩:=Ap hc;unfold Aqd;rw[Abf (by omega) (by omega)]
theorem A8u{c:Fa}(hc:Alm c=true)(n:Bg)(hl:n.Af.length≤140737488355327):Avh K c n=some (Auw c n.Af&&A5h c n):=by
 unfold Avh;rw[Auf hK n.Af.length (by omega) (fun i=>inB (gt n.Af i) 0 (c.Af - 1)&& !(n.Af.take i).contains (gt n.Af i)) (some (A5h c n)) (fun k i=>An5 K c k i n.Ja n.Bz n.Js n.fUp n.Hf n.B5 n.Hg n.Hh n.Af n.Rk n.Hi n.Er n.Dt) (fun k i h=> ?_) (fun k=> ?_)]
 ·rw[Arb];rfl
 ·have hp:(n.Af.take i).length≤140737488355328:=by simp;omega
  simp only[An5];rw[Aha h,cond_true,if_pos (Aph h),Api,if_pos (Bgf (by omega)),A7q,Ays hK _ _ hp,Agw (by omega),Azz hK hc]
  simp only[Z0,if_pos (Aph h)];cases inB (gt n.Af i) 0 (c.Af - 1)<;>cases (n.Af.take i).contains (gt n.Af i)<;>rfl
 ·show An5 K c (k+1) _ _ _ _ _ _ _ _ _ _ _ _ _ _=_;rw[An5,Ai2 (Z9 _),cond_false,Ays hK _ _ (by omega),Api]
  unfold A5h;simp only[Z0,Arb];cases n.Rk==0<;>rfl
theorem Av6 (c:Fa)(n:Bg)(h1:n.Af.length≤140737488355327)(h2:n.Er.length≤140737488355327)(h3:n.Dt.length≤140737488355327):Apv K c n=some (Aso c n):=by
 unfold Apv;rw[Atc,Bia];simp only[Z0,Api];cases hc:Alm c with
 |false=>simp[Aso,hc]
 |true=>
 rw[A8u hK hc n h1]
 have hA:Aq0 K n.Dt K 0=some (n.Dt.all (fun x=>inB x 0 255)):=by
  rw[Aty hK n.Dt (by omega) (fun x=>inB x 0 255) (some true) (Aq0 K n.Dt) (fun k i h=> ?_) (fun k=> ?_)]
  ·cases n.Dt.all (fun x=>inB x 0 255)<;>rfl
  ·rw[Aq0,Aha h,cond_true,if_pos (Aph h),Abh h,Api,Agw (by omega),Z0,Age]
  ·rw[Aq0,Ai2 (Z9 _),cond_false]
 have hB:Apm K c K 0 n.Ja n.Bz n.Js n.fUp n.Hf n.B5 n.Hg n.Hh n.Af n.Rk n.Hi n.Er n.Dt=some (n.Dt.all (fun x=>inB x 0 255)&&n.Er.all (Ard c)):=by
  rw[Aty hK n.Er (by omega) (Ard c) (some (n.Dt.all (fun x=>inB x 0 255))) (fun k i=>Apm K c k i n.Ja n.Bz n.Js n.fUp n.Hf n.B5 n.Hg n.Hh n.Af n.Rk n.Hi n.Er n.Dt) (fun k i h=> ?_) (fun k=> ?_)]
  ·rw[Arb,Bool.and_comm]
  ·simp only[Apm];rw[Aha h,cond_true,if_pos (Aph h),Abh h,A23,Agw (by omega),Z0,Age]
  ·show Apm K c (k+1) _ _ _ _ _ _ _ _ _ _ _ _ _ _=_;rw[Apm,Ai2 (Z9 _),cond_false,hA]
 rw[hB]
 have e12:decide ((n.Er.length:Int)>12)= !decide ((n.Er.length:Int)≤12):=by rw[←decide_not];congr 1;simp
 have e6:decide ((n.Dt.length:Int)>6)= !decide ((n.Dt.length:Int)≤6):=by rw[←decide_not];congr 1;simp
 simp only[Z0,cond_true,e12,e6,Age,Arb,Byd];unfold Aso Bc1;rw[hc];cases n.Ja != 1 with
 |true=>simp only[cond_true,Arb,Z30]
 |false=>
  simp only[cond_false,Arb,Z30,Z7]
  ac_rfl
end
theorem Bgg{α β:Type}(l:List α)(q:α->Bool)(fin bad:Option β)(L:Nat->Int->Option β)
  (hs: ∀n (i:Nat) (h:i<l.length),L (n+1) (i:Int)=bif q l[i]then L n ((i+1:Nat):Int)else bad)
  (he: ∀n,L (n+1) (l.length:Int)=fin):
  ∀(n i:Nat),i≤l.length->l.length - i<n->L n (i:Int)=bif (l.drop i).all q then fin else bad:=by
 intro n
 induction n with
 |zero=>intro i _ h;omega
 |succ n ih=>
  intro i hi hn;rcases Ge i l.length with h|h
  ·rw[hs n i h,Z47 h,Gc];cases q l[i]with
   |false=>rfl
   |true=>rw[cond_true,ih (i+1) h (by omega)];rfl
  ·obtain rfl:i=l.length:=by omega
   rw[he,List.drop_length];rfl
theorem Bib{β:Type}{K:Nat}(hK:281474976710656≤K)(N:Nat)(hl:N≤140737488355328)(q:Nat->Bool)(fin bad:Option β)(L:Nat->Int->Option β)
  (hs: ∀n (i:Nat) (h:i<N),L (n+1) (i:Int)=bif q i then L n ((i+1:Nat):Int)else bad)
  (he: ∀n,L (n+1) (N:Int)=fin):L K 0=bif (List.range N).all q then fin else bad:=by
 have:=Bgg (List.range N) q fin bad L (fun n i h=>by rw[List.getElem_range];exact hs n i (by simpa using h)) (fun n=>by rw[List.length_range];exact he n) K 0 (Z21 _) (by simp;omega)
 simpa using this
def Ayu (t:Bf):Prop:=0≤t.fAt∧t.fAt≤200∧0≤t.Xf∧t.Xf≤200
theorem Ayv{c:Fa}{t:Bf}(h:Ard c t=true):Ayu t∧Avv c t:=by
 have h1:Avv c t:=by
  unfold Ard at h;rw[Z4]at h;exact of_decide_eq_true h.1
 have hb:=Ayt c;obtain⟨h2,h3,h4,h5⟩:=h1;exact⟨⟨h4,by omega,by omega,by omega⟩,h2,h3,h4,h5⟩
def Ana (a b:Bf):Bool:=decide (a.Xf≤0∨b.Xf≤0∨a.fAt+a.Xf≤b.fAt∨b.fAt+b.Xf≤a.fAt)
theorem Bc2 (a b:Bf):Ana a b=Ana b a:=by
 unfold Ana;rw[decide_eq_decide];omega
theorem Be1 (K:Nat){a b:Bf}(ha:Ayu a)(hb:Ayu b):Ax8 K a b=some (Ana a b):=by
 obtain⟨a1,a2,a3,a4⟩:=ha;obtain⟨b1,b2,b3,b4⟩:=hb;unfold Ax8 Aqd;rw[Abf (n:=b.fAt - a.fAt) (by omega) (by omega),Abf (n:=a.fAt - b.fAt) (by omega) (by omega)]
 simp only[Azr]
 have: ∀x:Bool,x=Ana a b->some x=some (Ana a b):=fun x h=>by rw[h]
 by_cases h:a.fAt≤b.fAt
 ·rw[decide_eq_true h,cond_true,Azr,Azr];refine this _ ?_;rw[Bool.eq_iff_iff];simp only[Ana,Bool.or_eq_true,decide_eq_true_eq];omega
 ·rw[decide_eq_false h,cond_false,Azr,Azr];refine this _ ?_;rw[Bool.eq_iff_iff];simp only[Ana,Bool.or_eq_true,decide_eq_true_eq];omega
theorem Be2 (K:Nat){a b:Bf}(ha:Ayu a)(hb:Ayu b):Ayg K a b=some (Ana a b):=by
 obtain⟨a1,a2,a3,a4⟩:=ha;obtain⟨b1,b2,b3,b4⟩:=hb;unfold Ayg Awv Aqd;simp only[IntKind.wrap_u64]
 have: ∀x:Bool,x=Ana a b->some x=some (Ana a b):=fun x h=>by rw[h]
 by_cases h:a.fAt>b.fAt
 ·rw[decide_eq_true h,cond_true,Azr,Azr];refine this _ ?_;rw[Bool.eq_iff_iff];simp only[Ana,Bool.or_eq_true,decide_eq_true_eq];omega
 ·rw[decide_eq_false h,cond_false,Azr,Azr];refine this _ ?_;rw[Bool.eq_iff_iff];simp only[Ana,Bool.or_eq_true,decide_eq_true_eq];omega
def Ank (l:List Bf):Bool:=(List.range l.length).all (fun i=>(l.take i).all (fun o=>Ana o (gt l i)))
def Ar5 (c:Fa)(chunks:List Int)(t:Bf):Bool:=
 Ard c t&&(List.range ((t.fAt+t.Xf - 1) / c.Ez - t.fAt / c.Ez+1).toNat).all (fun j=>chunks.contains (t.fAt / c.Ez+(j:Int)))
theorem A88{c:Fa}{t:Bf}(h:Ard c t=true):
  c.Ez≠0∧Anr .i64 t.fAt c.Ez=t.fAt / c.Ez∧Anr .i64 (Aqd .i64 (Aqc .i64 t.fAt t.Xf) 1) c.Ez=(t.fAt+t.Xf - 1) / c.Ez∧0≤t.fAt / c.Ez∧t.fAt / c.Ez≤(t.fAt+t.Xf - 1) / c.Ez∧(t.fAt+t.Xf - 1) / c.Ez≤192:=by
 obtain⟨hs,hc,h1,h2,h3⟩:=Ayv h
 have hb:=Ayt c;obtain⟨b1,b2,_⟩:=Ap hc
 have e1:Aqd .i64 (Aqc .i64 t.fAt t.Xf) 1=t.fAt+t.Xf - 1:=by
  unfold Aqd Aqc;rw[Abf (n:=t.fAt+t.Xf) (by omega) (by omega),Abf (by omega) (by omega)]
 have e2: ∀x:Int,0≤x->x≤192->Anr .i64 x c.Ez=x / c.Ez∧0≤x / c.Ez∧x / c.Ez≤192:=by
  intro x h0 hx
  have h3:x / c.Ez≤x:=Int.ediv_le_self _ h0
  have h4:0≤x / c.Ez:=Int.ediv_nonneg h0 (by omega)
  refine⟨?_,h4,by omega⟩
  unfold Anr;rw[Int.tdiv_eq_ediv_of_nonneg h0,Abf (by omega) (by omega)]
 obtain⟨x1,x2,x3⟩:=e2 t.fAt h2 (by omega)
 obtain⟨y1,y2,y3⟩:=e2 (t.fAt+t.Xf - 1) (by omega) (by omega)
 refine⟨by omega,x1,by rw[e1,y1],x2,Int.ediv_le_ediv (by omega) (by omega),y3⟩
theorem Bvc{a:Int}{j:Nat}(h0:0≤a)(h:a+j≤140737488355328):Aqc .i64 (a+(j:Int)) 1=a+((j+1:Nat):Int):=by
 unfold Aqc;rw[Abf (by omega) (by omega)];omega
section
variable {K:Nat} (hK:281474976710656≤K)
include hK
theorem A8v (l:List Bf)(hl:l.length≤140737488355327)(hs: ∀t∈l,Ayu t):Avr K l=some (Ank l):=by
 unfold Avr Ank;rw[Auf hK l.length (by omega) (fun i=>(l.take i).all (fun o=>Ana o (gt l i))) (some true) (fun n i=>Ai1 K l n i) (fun n i h=> ?_) (fun n=> ?_)]
 ·cases (List.range l.length).all _<;>rfl
 ·simp only[Ai1];rw[Aha h,cond_true]
  have hlen:(l.take i).length=i:=by simp;omega
  rw[Aty hK (l.take i) (by omega) (fun o=>Ana o (gt l i)) (Ai1 K l n (Aqc .i64 i 1)) (fun m j=>Aoc K l i (Ai1 K l n) m j) (fun m j hj=> ?_) (fun m=> ?_)]
  ·rw[Agw (by omega)]
  ·have hj':j<i:=by omega
   simp only[Aoc];rw[Aha hj',cond_true,if_pos (Aph h),if_pos (Aph (show j<l.length by omega)),Be1 K (hs _ (Arz h)) (hs _ (Arz (show j<l.length by omega))),Z0,Age,Agw (by omega),Bc2,List.getElem_take,Abh (show j<l.length by omega)]
  ·show Aoc K l i _ (m+1) _=_;rw[Aoc,hlen,Ai2 (Z9 _),cond_false]
 ·show Ai1 K l (n+1) _=_;rw[Ai1,Ai2 (Z9 _),cond_false]
theorem A8w (l:List Bf)(hl:l.length≤140737488355327)(hs: ∀t∈l,Ayu t):Avt K l=some (Ank l):=by
 unfold Avt Ank;rw[Auf hK l.length (by omega) (fun i=>(l.take i).all (fun o=>Ana o (gt l i))) (some true) (fun n i=>Aog K l n l (l.length:Int) i) (fun n i h=> ?_) (fun n=> ?_)]
 ·cases (List.range l.length).all _<;>rfl
 ·simp only[Aog]
  have hlen:(l.take i).length=i:=by simp;omega
  have hC:Acx K (l.take i) (gt l i)=some ((l.take i).any (fun o=> !Ana o (gt l i))):=
   Bge hK (l.take i) (by omega) (fun t=>Atw K t (gt l i)) (fun o=> !Ana o (gt l i)) (fun x hx=>by
    unfold Atw;rw[Be2 K (hs _ (Z42 hx)) (hs _ (Arz h))];rfl) (Abi K (l.take i) (gt l i)) (fun n N i=>rfl)
  rw[Aha h,cond_true,if_pos (Aph h),if_pos (Bgf (by omega)),A7q,hC,Agw (by omega),Z0,List.any_eq_not_all_not,Age]
  simp only[Bool.not_not]
 ·show Aog K l (n+1) _ _ _=_;rw[Aog,Ai2 (Z9 _),cond_false]
theorem A8x (c:Fa)(n:Bg)(h1:n.Af.length≤140737488355327)(h2:n.Er.length≤140737488355327):Avu K c n=some (n.Er.all (Ar5 c n.Af)):=by
 unfold Avu
 have h1t: ∀t,Asj K t c n=some (!Ar5 c n.Af t):=by
  intro t;unfold Asj Ar5;rw[Bbj,Z0,Age];cases ht:Ard c t with
  |false=>rfl
  |true=>
   obtain⟨d0,d1,d2,d3,d4,d5⟩:=A88 ht;rw[cond_true,if_pos d0,d1]
   have:=Bib hK ((t.fAt+t.Xf - 1) / c.Ez - t.fAt / c.Ez+1).toNat (by omega) (fun j=>n.Af.contains (t.fAt / c.Ez+(j:Int))) (some false) (some true) (fun m j=>Ak0 K t c n m (t.fAt / c.Ez+j)) (fun m j hj=> ?_) (fun m=> ?_)
   ·simp only[Int.add_zero]at this;rw[this];cases (List.range _).all _<;>rfl
   ·simp only[Ak0];rw[if_pos d0,d2,decide_eq_true (by omega),cond_true,Bcz hK _ _ (by omega),Z0,Age,Bvc d3 (by omega)]
   ·show Ak0 K t c n (m+1) _=_;rw[Ak0,if_pos d0,d2,decide_eq_false (by omega),cond_false]
 have hC:Adg K n.Er c n=some (n.Er.any (fun t=> !Ar5 c n.Af t)):=
  Bge hK n.Er (by omega) (fun t=>Asj K t c n) (fun t=> !Ar5 c n.Af t) (fun x _=>h1t x) (Abj K n.Er c n) (fun n N i=>rfl)
 rw[hC];simp only[Z0,List.not_any_eq_all_not,Bool.not_not]
theorem A8y (c:Fa)(n:Bg)(h1:n.Af.length≤140737488355327)(h2:n.Er.length≤140737488355327):Avq K c n=some (n.Er.all (Ar5 c n.Af)):=by
 unfold Avq;rw[Aty hK n.Er (by omega) (Ar5 c n.Af) (some true) (fun k i=>Ai0 K c k i n.Ja n.Bz n.Js n.fUp n.Hf n.B5 n.Hg n.Hh n.Af n.Rk n.Hi n.Er n.Dt) (fun k i h=> ?_) (fun k=> ?_)]
 ·cases n.Er.all _<;>rfl
 ·simp only[Ai0];rw[Aha h,cond_true,if_pos (Aph h),Abh h,A23,Z0,Age];unfold Ar5;generalize n.Er[i]=t;cases ht:Ard c t with
  |false=>rfl
  |true=>
   obtain⟨d0,d1,d2,d3,d4,d5⟩:=A88 ht;rw[cond_true,if_pos d0,d1,Z30]
   have:=Auf hK ((t.fAt+t.Xf - 1) / c.Ez - t.fAt / c.Ez+1).toNat (by omega) (fun j=>n.Af.contains (t.fAt / c.Ez+(j:Int))) (Ai0 K c k ((i+1:Nat):Int) n.Ja n.Bz n.Js n.fUp n.Hf n.B5 n.Hg n.Hh n.Af n.Rk n.Hi n.Er n.Dt)
    (fun m j=>An8 K c i n.Ja n.Bz n.Js n.fUp n.Hf n.B5 n.Hg n.Hh n.Af n.Rk n.Hi n.Er n.Dt (Ai0 K c k) m (t.fAt / c.Ez+j) t) (fun m j hj=> ?_) (fun m=> ?_)
   ·simp only[Int.add_zero]at this;exact this
   ·simp only[An8];rw[if_pos d0,d2,decide_eq_true (by omega),cond_true,Ays hK _ _ (by omega),Z0,Age,Bvc d3 (by omega)]
   ·show An8 K c i _ _ _ _ _ _ _ _ _ _ _ _ _ _ (m+1) _ _=_;rw[An8,if_pos d0,d2,decide_eq_false (by omega),cond_false,Agw (by omega)]
 ·show Ai0 K c (k+1) _ _ _ _ _ _ _ _ _ _ _ _ _ _=_;rw[Ai0,Ai2 (Z9 _),cond_false]
end
def wfi (x:Int):Prop:= -9223372036854775808≤x∧x≤9223372036854775807
def A1y (l:List Int):Prop:=(∀x∈l,wfi x)∧l.length*8≤140737488355327
def Bmu (l:List Int):Prop:=(∀x∈l,0≤x∧x≤255)∧l.length≤140737488355327
def Bbk (t:Bf):Prop:=wfi t.fAt∧wfi t.Xf∧wfi t.Xg
def Bbl (l:List Bf):Prop:=(∀x∈l,Bbk x)∧l.length*24≤140737488355327
structure Ato (n:Bg):Prop where
 st:wfi n.Ja
 gen:wfi n.Bz
 ep:wfi n.Js
 up:wfi n.fUp
 upEp:wfi n.Hf
 first:wfi n.B5
 next:wfi n.Hg
 prev:wfi n.Hh
 chunks:A1y n.Af
 cur:wfi n.Rk
 bump:wfi n.Hi
 things:Bbl n.Er
 tags:A1y n.Dt
def Ai4 (l:List Bg):Prop:=(∀x∈l,Ato x)∧l.length*152≤140737488355327
structure Bbm (x:A3):Prop where
 slot:wfi x.As
 first:wfi x.B5
 tags:A1y x.Dt
 chunks:A1y x.Af
 done:wfi x.Hj
def Brg (l:List A3):Prop:=(∀x∈l,Bbm x)∧l.length*72≤140737488355327
structure Bvd (c:Fa):Prop where
 chunks:wfi c.Af
 size:wfi c.Ez
 slots:wfi c.Db
 tax:wfi c.Fv
 slice:wfi c.Dc
 gens:wfi c.E0
structure A03 (p:Eb):Prop where
 mem:Bmu p.Gl
 st:A1y p.Ja
 own:A1y p.Gm
structure Avx (w:Es):Prop where
 c:Bvd w.fC
 p:A03 w.fP
 l:Ai4 w.fL
 q:Brg w.fQ
 log:A1y w.Rl
theorem Abn:140737488355328≤maxLen:=by unfold maxLen;omega
theorem Bgh{α:Type}(N:Nat)(q:Nat->Bool)(g:Nat->α)(L:Nat->List α->Int->Option (List α))
  (hs: ∀n v (i:Nat),i<N->v.length≤i->L (n+1) v (i:Int)=bif q i then L n (v++[g i]) ((i+1:Nat):Int)else L n v ((i+1:Nat):Int))
  (he: ∀n v,L (n+1) v (N:Int)=some v):
  ∀(n i:Nat) (v:List α),i≤N->v.length≤i->N - i<n->L n v (i:Int)=some (v++(((List.range N).drop i).filter q).map g):=by
 intro n
 induction n with
 |zero=>intro i v _ _ h;omega
 |succ n ih=>
  intro i v hi hv hn;rcases Ge i N with h|h
  ·rw[hs n v i h hv,Z47 (by simpa using h),List.getElem_range,List.filter_cons]
   cases hq:q i with
   |true=>
    rw[cond_true,ih (i+1) _ h (by simp;omega) (by omega)]
    simp
   |false=>
    rw[cond_false,ih (i+1) _ h (by omega) (by omega)]
    simp
  ·obtain rfl:i=N:=by omega
   rw[he,Z48 (by simp)];simp
def Atf (p:Eb)(k:Int):List Int:=((List.range (min p.Ja.length p.Gm.length)).filter (fun i:Nat=>gt p.Ja i==1&&gt p.Gm i==k)).map (fun i:Nat=>(i:Int))
theorem Be3 (p:Eb)(k:Int):(Atf p k).length≤min p.Ja.length p.Gm.length:=by
 unfold Atf;rw[B9];exact U7 (List.length_filter_le _ _) (by simp)
theorem A8z (p:Eb)(k:Int):(Atf p k).Pairwise (fun a b=>a<b):=by
 unfold Atf;rw[List.pairwise_map];exact(List.Pairwise.filter _ List.pairwise_lt_range).imp fun h=>by omega
theorem Bc3{l:List Int}: ∀ {o:List Int},o.Nodup->(∀x∈o,x∈l)->o.length=l.length->o.Perm l:=by
 intro o
 induction o generalizing l with
 |nil=>intro _ _ h;cases l with
  |nil=>exact .nil
  |cons _ _=>simp at h
 |cons x o ih=>
  intro hn hs hl
  have hx:x∈l:=hs x (by simp)
  rw[List.nodup_cons]at hn
  have h2:o.Perm (l.erase x):=ih hn.2 (fun y hy=>by
   have hne:y≠x:=fun e=>hn.1 (e ▸ hy);exact(List.mem_erase_of_ne hne).2 (hs y (by simp[hy]))) (by rw[List.length_erase_of_mem hx];simp at hl;omega)
  exact(List.Perm.cons x h2).trans (List.perm_cons_erase hx).symm
def A1p (p:Eb)(k:Int)(l:List Int):Bool:=(Atf p k).all (fun x=>l.contains x)&&((Atf p k).length:Int)==(l.length:Int)
section
variable {K:Nat} (hK:281474976710656≤K)
include hK
theorem A24 (p:Eb)(k:Int)(h1:p.Ja.length*8≤140737488355327):At3 K p k=some (Atf p k):=by
 have hm:=Abn;unfold At3
 have:=Bgh (min p.Ja.length p.Gm.length) (fun i:Nat=>gt p.Ja i==1&&gt p.Gm i==k) (fun i:Nat=>(i:Int)) (fun n v i=>Akw K k n v i p.Gl p.Ja p.Gm) (fun n v i hi hv=> ?_) (fun n v=> ?_) K 0 [] (Z21 _) (Z9 _) (by omega)
 ·simpa[Atf]using this
 ·have h2:(v++([(i:Int)]:List Int)).length=v.length+1:=by simp
  simp only[Akw,Asy];rw[Aha (by omega),Aha (by omega),cond_true,cond_true,if_pos (Aph (by omega)),if_pos (Aph (by omega)),Agw (by omega),if_pos ⟨by rw[h2];omega,by rw[h2];omega⟩]
  cases gt p.Ja (i:Int)==1<;>cases gt p.Gm (i:Int)==k<;>rfl
 ·show Akw K k (n+1) v _ _ _ _=_;rw[Akw];rcases Nat.le_total p.Ja.length p.Gm.length with h|h
  ·rw[Nat.min_eq_left h,Ai2 (Z9 _),cond_false]
  ·rw[Nat.min_eq_right h,Ai2 (Z9 p.Gm.length),cond_false,cc]
theorem Bbn (p:Eb)(k:Int)(h1:p.Ja.length*8≤140737488355327):Aww K p k=some (Atf p k):=by
 have hm:=Abn;unfold Aww
 have e:Ab9 (p.Ja.length:Int) (p.Gm.length:Int)=((min p.Ja.length p.Gm.length:Nat):Int):=by unfold Ab9;split<;>omega
 rw[e]
 have:=Bgh (min p.Ja.length p.Gm.length) (fun i:Nat=>gt p.Ja i==1&&gt p.Gm i==k) (fun i:Nat=>(i:Int)) (fun n v i=>Akx K k n v ((min p.Ja.length p.Gm.length:Nat):Int) i p.Gl p.Ja p.Gm) (fun n v i hi hv=> ?_) (fun n v=> ?_) K 0 [] (Z21 _) (Z9 _) (by omega)
 ·simpa[Atf]using this
 ·have h2:(v++([(i:Int)]:List Int)).length=v.length+1:=by simp
  simp only[Akx,As9];rw[Aha hi,cond_true,if_pos (Aph (by omega)),if_pos (Aph (by omega)),Agw (by omega),if_pos ⟨by rw[h2];omega,by rw[h2];omega⟩]
  cases gt p.Ja (i:Int)==1<;>cases gt p.Gm (i:Int)==k<;>rfl
 ·show Akx K k (n+1) v _ _ _ _ _=_;rw[Akx,Ai2 (Z9 _),cond_false]
theorem A7s (w:Es)(k:Nat)(hk:k<w.fL.length)(h1:w.fP.Ja.length*8≤140737488355327)(h2:(gt w.fL k).Af.length≤140737488355327):Aur K w k=some (A1p w.fP k (gt w.fL k).Af):=by
 unfold Aur;rw[A24 hK _ _ h1,Z0]
 have hl:=Be3 w.fP k;rw[Aty hK (Atf w.fP k) (by omega) (fun x=>(gt w.fL k).Af.contains x) (some (((Atf w.fP k).length:Int)==((gt w.fL k).Af.length:Int))) (fun n i=>Am9 K k (Atf w.fP k) n i w.fC.Af w.fC.Ez w.fC.Db w.fC.Fv w.fC.Dc w.fC.E0 w.fP.Gl w.fP.Ja w.fP.Gm w.fL w.fQ w.Rl) (fun n i hi=> ?_) (fun n=> ?_)]
 ·rw[Arb];rfl
 ·simp only[Am9];rw[Aha hi,cond_true,if_pos (Aph hk),if_pos (Aph hi),Ays hK _ _ (by omega),Z0,Age,Agw (by omega),Abh hi]
 ·show Am9 K k (Atf w.fP k) (n+1) _ _ _ _ _ _ _ _ _ _ _ _ _=_;rw[Am9,Ai2 (Z9 _),cond_false,if_pos (Aph hk)]
end
def Av7 (c:Fa)(n:Bg):Bf:=Bf.mk ((n.Rk - 1)*c.Ez+n.Hi) (c.Ez - n.Hi) 0
def Asm (c:Fa)(mem:List Int)(n:Bg):Bool:=
 n.Rk==0||(Ari ((mem.drop (Av7 c n).fAt.toNat).take (Av7 c n).Xf.toNat)&&n.Er.all (fun t=>Ana t (Av7 c n)))
theorem Bic{c:Fa}{n:Bg}(h:Aso c n=true)(h1:n.Ja=1):Alm c=true∧Bc1 c n=true:=by
 unfold Aso at h;simp only[Z4]at h;refine⟨h.1,?_⟩
 have:=h.2.2.2;rw[h1]at this;exact this
theorem A89{c:Fa}{n:Bg}(h:Aso c n=true)(h1:n.Ja≠1):A7r n=true:=by
 unfold Aso at h;simp only[Z4]at h
 have:=h.2.2.2;rw[Aue h1]at this;exact this
theorem Byf{c:Fa}{n:Bg}(hw:Ato n)(h:Aso c n=true)(h1:n.Rk≠0):n.Ja=1∧1≤n.Rk∧n.Rk≤c.Af∧0≤n.Hi∧n.Hi≤c.Ez:=by
 by_cases h2:n.Ja=1
 ·refine⟨h2,?_⟩;obtain⟨hc,hl⟩:=Bic h h2;obtain⟨b1,_⟩:=Ap hc;unfold Bc1 at hl;simp only[Z4]at hl
  have hd:=hl.2.2.1.1
  have hcu:=hl.2.2.1.2;unfold A5h at hcu;rw[Aky h1,cond_false,Z4,List.contains_iff_mem,Abm]at hcu;obtain⟨i,hi,e⟩:=List.mem_iff_getElem.1 hcu.1;unfold Auw at hd;rw[Z1]at hd
  have:=hd i (by simpa using hi)
  rw[Z4,Abh hi,e,Abm]at this
  have h3:=this.1;obtain⟨w1,w2⟩:=hw.cur;unfold Aqd at h3;rw[IntKind.wrap_i64]at h3;refine⟨by omega,by omega,hcu.2.1,hcu.2.2⟩
 ·have:=A89 h h2;unfold A7r at this;simp only[Z4,beq_iff_eq]at this;exact absurd this.2.2.2.2.2.2.2.1 h1
theorem Brh{c:Fa}{p:Eb}{n:Bg}(hp:Ax0 c p=true)(hw:Ato n)(h:Aso c n=true)(h1:n.Rk≠0):
  Aqc .i64 (Aqe .i64 (Aqd .i64 n.Rk 1) c.Ez) n.Hi=(Av7 c n).fAt∧Aqd .i64 c.Ez n.Hi=(Av7 c n).Xf∧Aqe .i64 n.Rk c.Ez=(Av7 c n).fAt+(Av7 c n).Xf∧Ayu (Av7 c n)∧(Av7 c n).fAt+(Av7 c n).Xf≤(p.Gl.length:Int):=by
 obtain⟨h2,c1,c2,c3,c4⟩:=Byf hw h h1;obtain⟨hc,hm,_⟩:=Av5 hp;obtain⟨b1,b2,_⟩:=Ap hc
 have m1:=Auu (a:=n.Rk - 1) (b:=c.Ez) (m:=11) (n:=16) (by omega) (by omega) (by omega) b2.2
 have e2:n.Rk*c.Ez=(n.Rk - 1)*c.Ez+c.Ez:=by rw[Int.sub_mul,Int.one_mul];omega
 have m2:n.Rk*c.Ez≤c.Af*c.Ez:=Int.mul_le_mul_of_nonneg_right (by omega) (by omega)
 unfold Av7 Ayu Aqc Aqd Aqe;simp only;rw[Abf (n:=n.Rk - 1) (by omega) (by omega),Abf (n:=(n.Rk - 1)*c.Ez) (by omega) (by omega),Abf (n:=(n.Rk - 1)*c.Ez+n.Hi) (by omega) (by omega),Abf (n:=c.Ez - n.Hi) (by omega) (by omega),Abf (n:=n.Rk*c.Ez) (by omega) (by omega)]
 refine⟨rfl,rfl,by omega,⟨by omega,by omega,by omega,by omega⟩,by omega⟩
theorem Be4{c:Fa}{l:List Bf}{ch:List Int}(h:l.all (Ar5 c ch)=true): ∀t∈l,Ayu t∧1≤t.Xf:=by
 intro t ht;rw[Z1]at h
 have:=h t ht;unfold Ar5 at this;rw[Z4]at this;obtain⟨h1,h2⟩:=Ayv this.1;exact⟨h1,h2.2.1⟩
def Bc4 (w:Es)(k:Nat):Bool:=
 Aso w.fC (gt w.fL k)&&(A1p w.fP k (gt w.fL k).Af&&((gt w.fL k).Er.all (Ar5 w.fC (gt w.fL k).Af)&&(Ank (gt w.fL k).Er&&Asm w.fC w.fP.Gl (gt w.fL k))))
section
variable {K:Nat} (hK:281474976710656≤K)
include hK
theorem A25{l:List Int}(h:A1y l):l.length≤140737488355327:=by have:=h.2;omega
theorem Bmv{l:List Bf}(h:Bbl l):l.length≤140737488355327:=by have:=h.2;omega
theorem Be5 (w:Es)(k:Nat)(hk:k<w.fL.length)(hp:Ax0 w.fC w.fP=true)(hw:Ato (gt w.fL k))(hn:Aso w.fC (gt w.fL k)=true)(hs: ∀t∈(gt w.fL k).Er,Ayu t∧1≤t.Xf):Avs K w k=some (Asm w.fC w.fP.Gl (gt w.fL k)):=by
 unfold Avs;rw[if_pos (Aph hk)];unfold Asm
 by_cases h1:(gt w.fL k).Rk=0
 ·rw[h1];rfl
 ·rw[Aky h1,cond_false];obtain⟨e1,e2,e3,⟨s1,s2,s3,s4⟩,s5⟩:=Brh hp hw hn h1;rw[e1,e3];generalize hr:Av7 w.fC (gt w.fL k)=r at *;rcases (show r.Xf=0∨1≤r.Xf by omega)with h2|h2
  ·rw[decide_eq_true (show r.fAt≥r.fAt+r.Xf by omega),cond_true,h2]
   have:(gt w.fL k).Er.all (fun t=>Ana t r)=true:=by
    rw[Z1];intro t _;exact decide_eq_true (.inr (.inl (by omega)))
   rw[this];simp[Ari]
  ·rw[decide_eq_false (show ¬r.fAt≥r.fAt+r.Xf by omega),cond_false]
   have hlt:=Bmv hK hw.things
   have hz:List.take (r.fAt+r.Xf - r.fAt).toNat (List.drop r.fAt.toNat w.fP.Gl)=List.take r.Xf.toNat (List.drop r.fAt.toNat w.fP.Gl):=by rw[show r.fAt+r.Xf - r.fAt=r.Xf by omega]
   rw[Aty hK (gt w.fL k).Er (by omega) (fun t=>Ana t r) (some (Ari (List.take r.Xf.toNat (List.drop r.fAt.toNat w.fP.Gl)))) (fun m i=>Ak2 K m r.fAt (r.fAt+r.Xf) i (gt w.fL k).Ja (gt w.fL k).Bz (gt w.fL k).Js (gt w.fL k).fUp (gt w.fL k).Hf (gt w.fL k).B5 (gt w.fL k).Hg (gt w.fL k).Hh (gt w.fL k).Af (gt w.fL k).Rk (gt w.fL k).Hi (gt w.fL k).Er (gt w.fL k).Dt w.fC.Af w.fC.Ez w.fC.Db w.fC.Fv w.fC.Dc w.fC.E0 w.fP.Gl w.fP.Ja w.fP.Gm w.fL w.fQ w.Rl) (fun m i hi=> ?_) (fun m=> ?_)]
   ·rw[Arb,Bool.and_comm];rfl
   ·simp only[Ak2,Atu];obtain⟨⟨t1,t2,t3,t4⟩,t5⟩:=hs _ (Arz hi);rw[Aha hi,cond_true,if_pos (Aph hi),Agw (by omega),←Abh hi]
    generalize gt (gt w.fL k).Er i=t at *;unfold Aqc;rw[Abf (n:=t.fAt+t.Xf) (by omega) (by omega)]
    unfold Ana
    by_cases g1:t.fAt<r.fAt+r.Xf
    ·by_cases g2:t.fAt+t.Xf>r.fAt
     ·rw[decide_eq_true g1,decide_eq_true g2,decide_eq_false (by omega)];rfl
     ·rw[decide_eq_true g1,decide_eq_false g2,decide_eq_true (by omega)];rfl
    ·rw[decide_eq_false g1,decide_eq_true (show t.Xf≤0∨r.Xf≤0∨t.fAt+t.Xf≤r.fAt∨r.fAt+r.Xf≤t.fAt by omega)];rfl
   ·show Ak2 K (m+1) _ _ _ _ _ _ _ _ _ _ _ _ _ _ _ _ _ _ _ _ _ _ _ _ _ _ _ _=_;rw[Ak2,Ai2 (Z9 _),cond_false,if_pos ⟨s1,by omega,s5⟩,Azi hK _ (by simp;omega),hz,Z0]
end
section
variable {K:Nat} (hK:281474976710656≤K)
theorem Ak8{l:List Bg}(w:Ai4 l):l.length≤140737488355327:=by have:=w.2;omega
theorem A04 (K:Nat){α:Type}{l:List α}(hl:l.length≤140737488355327)(k:Int):Aaa K k 0 (Aqd .i64 (l.length:Int) 1)=some (decide (0≤k∧k<(l.length:Int))):=by
 unfold Aaa Aqd;rw[Abf (by omega) (by omega)]
 by_cases h:(0:Int)≤k
 ·rw[decide_eq_true (show k≥0 from h)]
  simp only[cond_true,Z7,decide_eq_decide];omega
 ·rw[decide_eq_false (show ¬k≥0 from h)]
  simp only[cond_false,Z7];exact(decide_eq_false (by omega)).symm
theorem Avy (K:Nat)(l:List Bg)(k:Int):Abl K l k=some (decide (1≤k∧k≤(l.length:Int))):=by
 unfold Abl
 by_cases h:(1:Int)≤k
 ·rw[decide_eq_true (show k≥1 from h)]
  simp only[cond_true,Z7,decide_eq_decide];omega
 ·rw[decide_eq_false (show ¬k≥1 from h)]
  simp only[cond_false,Z7];exact(decide_eq_false (by omega)).symm
def Atg (l:List Bg)(h:Ca):Int:=if(0≤h.As∧h.As<(l.length:Int))∧(gt l h.As).Ja=1∧(gt l h.As).Bz=h.Bz then h.As else -1
theorem A26 (K:Nat){l:List Bg}(hl:l.length≤140737488355327)(h:Ca):At2 K l h=some (Atg l h):=by
 unfold At2 Atg;rw[A04 K hl];simp only[Z0]
 by_cases hs:0≤h.As∧h.As<(l.length:Int)
 ·rw[decide_eq_true hs];simp only[cond_true,if_pos hs]
  by_cases h1:(gt l h.As).Ja=1
  ·by_cases h2:(gt l h.As).Bz=h.Bz
   ·rw[if_pos ⟨hs,h1,h2⟩];simp[h1,h2]
   ·rw[if_neg (fun h=>h2 h.2.2),Aue h2];simp[h1]
  ·rw[if_neg (fun h=>h1 h.2.1),Aue h1];rfl
 ·rw[decide_eq_false hs];simp only[cond_false];rw[if_neg (fun h=>hs h.1)]
theorem A4m{l:List Bg}{h:Ca}(h0: ¬Atg l h<0):0≤Atg l h∧Atg l h<(l.length:Int):=by
 unfold Atg at *;split at h0
 ·rename_i h1;rw[if_pos h1];exact h1.1
 ·omega
def Ak5 (l:List Bg):Nat->Int->List Int
 |0,_=>[]
 |n+1,k=>if 0≤k∧k<(l.length:Int)then k::Ak5 l n (Aqd .i64 (gt l k).fUp 1)else []
theorem Bgi{l:List Bg}: ∀(n:Nat) (k:Int),∀x∈Ak5 l n k,0≤x∧x<(l.length:Int):=by
 intro n
 induction n with
 |zero=>intro k x hx;cases hx
 |succ n ih=>
  intro k x hx;unfold Ak5 at hx;split at hx
  ·rename_i h;rcases D4.1 hx with rfl|hx
   ·exact h
   ·exact ih _ x hx
  ·cases hx
theorem Bc5{l:List Bg}: ∀(n:Nat) (k:Int),(Ak5 l n k).length≤n:=by
 intro n
 induction n with
 |zero=>intro k;exact Z9 _
 |succ n ih=>
  intro k;unfold Ak5;split
  ·simp only[Yy];have:=ih (Aqd .i64 (gt l k).fUp 1);omega
  ·exact Z21 _
def Be6 (l:List Bg):List Int->Prop
 |x::y::r=>Aqd .i64 (gt l x).fUp 1=y∧Be6 l (y::r)
 |_=>True
theorem Be7{l:List Bg}: ∀(n:Nat) (k:Int),Be6 l (Ak5 l n k):=by
 intro n
 induction n with
 |zero=>intro k;trivial
 |succ n ih=>
  intro k;unfold Ak5;split
  ·have h1:=ih (Aqd .i64 (gt l k).fUp 1);cases n with
   |zero=>trivial
   |succ n=>
    rw[Ak5]at h1 ⊢;split at h1
    ·rename_i h2;rw[if_pos h2];exact⟨rfl,h1⟩
    ·rename_i h2;rw[if_neg h2];trivial
  ·trivial
theorem Bid{l:List Bg}(w:Ai4 l): ∀(n:Nat) (k:Int) (v:List Int),-9223372036854775808≤k∧k≤9223372036854775807->v.length≤l.length->l.length - v.length<n->Au0 K l n k v=some (v++Ak5 l (l.length - v.length) k):=by
 have hb:l.length*152≤140737488355327:=w.2;intro n
 induction n with
 |zero=>intro k v _ _ h;omega
 |succ n ih=>
  intro k v hk hv hn;rw[Au0,Avy];simp only[Z0]
  have e:decide (1≤Aqc .i64 k 1∧Aqc .i64 k 1≤(l.length:Int))=decide (0≤k∧k<(l.length:Int)):=by
   rw[decide_eq_decide];unfold Aqc;rw[IntKind.wrap_i64];omega
  rw[e]
  by_cases hs:0≤k∧k<(l.length:Int)
  ·rw[decide_eq_true hs];simp only[cond_true];rcases Ge v.length l.length with h|h
   ·rw[Aha h];simp only[cond_true]
    have hl2:(v++[k]).length=v.length+1:=by simp
    rw[if_pos ⟨by rw[hl2];omega,by rw[hl2];unfold maxLen;omega⟩,if_pos hs,ih (Aqd .i64 (gt l k).fUp 1) _ (Bms _) (by rw[hl2];omega) (by rw[hl2];omega),hl2]
    obtain⟨m,hm⟩: ∃m,l.length - v.length=m+1:=⟨l.length - v.length - 1,by omega⟩
    rw[hm,Ak5,if_pos hs,show l.length - (v.length+1)=m from by omega]
    simp
   ·rw[Ai2 h];rw[show l.length - v.length=0 from by omega]
    simp[Ak5]
  ·rw[decide_eq_false hs]
   have:Ak5 l (l.length - v.length) k=[]:=by
    cases l.length - v.length with
    |zero=>rfl
    |succ m=>rw[Ak5,if_neg hs]
   rw[this];simp
include hK in
theorem A0i{l:List Bg}(w:Ai4 l)(k:Int)(hk: -9223372036854775808≤k∧k≤9223372036854775807):Av1 K l k=some (Ak5 l l.length k):=by
 have hb:=Ak8 w;unfold Av1
 have:=Bid (K:=K) w K k [] hk (Z21 _) (by simp;omega)
 simpa using this
def Awx (l:List Bg):List Int->Bool
 |[]=>true
 |[x]=>(gt l x).Ja==1
 |x::y::r=>((gt l x).Ja==1)&&((gt l x).Hf==(gt l y).Js)&&Awx l (y::r)
def Azs (l:List Bg)(way:List Int):Bool:=if 0<way.length then(gt l (gt way ((way.length - 1:Nat):Int))).fUp==0 else false
theorem Bmw{l:List Bg}{way:List Int}(hin: ∀x∈way,0≤x∧x<(l.length:Int))(hlen:way.length≤140737488355327):
  (bif (decide ((way.length:Int)>0))then(if(0:Int)≤(Aqd .i64 (way.length:Int) 1)∧(Aqd .i64 (way.length:Int) 1)<(way.length:Int)then(if(0:Int)≤(gt way (Aqd .i64 (way.length:Int) 1))∧(gt way (Aqd .i64 (way.length:Int) 1))<(l.length:Int)then some (((gt l (gt way (Aqd .i64 (way.length:Int) 1))).fUp)==0)else none)else none)else some false)=some (Azs l way):=by
 unfold Azs;rcases Np way.length with h|h
 ·rw[decide_eq_false (show ¬(way.length:Int)>0 by omega)]
  simp only[cond_false];rw[if_neg (show ¬0<way.length by omega)]
 ·rw[if_pos h,decide_eq_true (by omega)]
  simp only[cond_true]
  have e:Aqd .i64 (way.length:Int) 1=((way.length - 1:Nat):Int):=by unfold Aqd;rw[Abf (by omega) (by omega)];omega
  rw[e,if_pos ⟨by omega,by omega⟩,if_pos (hin _ (Arz (by omega)))]
theorem Az0{way:List Int}{i:Nat}(h:i<way.length):way.drop i=way[i]::way.drop (i+1):=by
 rw[Z47 h]
theorem Bri{l:List Bg}(w:Ai4 l){x y:Int}(hx:0≤x∧x<(l.length:Int))(hy:0≤y∧y<(l.length:Int))(h:Aqd .i64 (gt l x).fUp 1=y):Asd K l x=some (((gt l y).Ja==1)&&((gt l y).Js==(gt l x).Hf)):=by
 have hl:=Ak8 w;unfold Asd;rw[if_pos hx,Avy];simp only[Z0];obtain⟨hr1,hr2⟩:=(w.1 _ (Aqx hx.1 hx.2)).up
 have hp:1≤(gt l x).fUp∧(gt l x).fUp≤(l.length:Int):=by
  unfold Aqd at h;rw[IntKind.wrap_i64]at h;omega
 rw[decide_eq_true hp,h];simp only[cond_true];rw[if_pos hy,if_pos hy,if_pos hx];cases (gt l y).Ja==1<;>rfl
theorem Bc6{l:List Bg}{y:Int}{r:List Int}(h:(gt l y).Ja≠1):Awx l (y::r)=false:=by
 cases r with
 |nil=>simp[Awx,h]
 |cons z r=>simp[Awx,h]
theorem Be8{l:List Bg}(w:Ai4 l){way:List Int}(hin: ∀x∈way,0≤x∧x<(l.length:Int))(hlen:way.length≤140737488355327): ∀(n i:Nat),Be6 l (way.drop i)->i≤way.length->way.length - i<n->Ass K l way n (i:Int)=some (Awx l (way.drop i)&&Azs l way):=by
 intro n
 induction n with
 |zero=>intro i _ _ h;omega
 |succ n ih=>
  intro i hch hi hn;rw[Ass];unfold Awe;rcases Ge i way.length with h|h
  ·rw[Aha h];simp only[cond_true];rw[Az0 h]at hch;rw[if_pos ⟨by omega,by omega⟩,if_pos (hin _ (Arz h)),Az0 h,Agw (by omega),←Abh h]
   rcases Ge (i+1) way.length with h2|h2
   ·rw[Az0 h2]at hch
    have hc1:=hch.1;rw[←Abh h,←Abh h2]at hc1;rw[Aha h2,Az0 h2,←Abh h2];simp only[cond_true];rw[if_pos ⟨by omega,by omega⟩,Bri w (hin _ (Arz h)) (hin _ (Arz h2)) hc1,ih (i+1) (by rw[Az0 h2];exact hch.2) h (by omega),Az0 h2,←Abh h2,Awx]
    generalize gt way ((i+1:Nat):Int)=y;generalize gt way (i:Int)=x
    by_cases c1:(gt l x).Ja=1
    ·by_cases c3:(gt l y).Ja=1
     ·by_cases c2:(gt l x).Hf=(gt l y).Js
      ·simp[c1,c2,c3]
      ·have c2': ¬(gt l y).Js=(gt l x).Hf:=fun e=>c2 e.symm;rw[Aky c2,Aky c2'];simp[c1]
     ·rw[Bc6 c3,Aky c3];simp[c1]
    ·rw[Aue c1,Aky c1];simp
   ·rw[Ai2 h2,ih (i+1) (by rw[Z48 h2];trivial) h (by omega),show way.drop (i+1)=[] from Z48 h2]
    simp only[cond_false,Awx]
    by_cases c1:(gt l (gt way (i:Int))).Ja=1
    ·simp[c1]
    ·rw[Aue c1,Aky c1];simp
  ·rw[Ai2 h,show way.drop i=[] from Z48 h]
   simp only[cond_false,Awx,Z30];exact Bmw hin hlen
def Axx (l:List Bg)(k:Int):Bool:=Awx l (Ak5 l l.length k)&&Azs l (Ak5 l l.length k)
include hK in
theorem A05{l:List Bg}(w:Ai4 l)(k:Int)(hk: -9223372036854775808≤k∧k≤9223372036854775807):Aul K l k=some (Axx l k):=by
 have hb:=Ak8 w
 have hr:=Bc5 (l:=l) l.length k;unfold Aul;rw[A0i hK w k hk];exact Be8 w (Bgi _ _) (by omega) K 0 (Be7 _ _) (Z21 _) (by omega)
def Ayw (h:Ca):Bool:=bif decide (h.As≥0)then decide (h.Bz≥1)else false
theorem A1z (K:Nat)(h:Ca):Atj K h=some (Ayw h):=by
 unfold Atj Ayw;cases decide (h.As≥0)<;>rfl
def Atp (l:List Bg)(h:Ca):Int×Int:=bif Ayw h then(bif decide (Atg l h<0)then(-1,2)else(bif Axx l (Atg l h)then(Atg l h,0)else(-1,2)))else(-1,1)
include hK in
theorem Atr{w:Es}(hw:Ai4 w.fL)(h:Ca):Alx K w h=some (Atp w.fL h):=by
 have hb:=Ak8 hw;unfold Alx Atp;rw[A1z,A26 K hb];simp only[Z0];cases Ayw h with
 |false=>rfl
 |true=>
  simp only[cond_true];cases e:decide (Atg w.fL h<0)with
  |true=>rfl
  |false=>
   have h1:=A4m (of_decide_eq_false e);simp only[cond_false];rw[A05 hK hw _ ⟨by omega,by omega⟩]
   simp only[Z0];cases Axx w.fL (Atg w.fL h)<;>rfl
theorem Bmx{l:List Bg}{h:Ca}(h0:(Atp l h).2=0):0≤(Atp l h).1∧(Atp l h).1<(l.length:Int):=by
 unfold Atp at *;cases e1:Ayw h with
 |false=>rw[e1]at h0;simp at h0
 |true=>
  rw[e1]at h0;simp only[cond_true]at *;cases e:decide (Atg l h<0)with
  |true=>rw[e]at h0;simp at h0
  |false=>
   rw[e]at h0;simp only[cond_false]at *;cases e2:Axx l (Atg l h)with
   |false=>rw[e2]at h0;simp at h0
   |true=>exact A4m (of_decide_eq_false e)
end
def plB (l:List Bg)(n:Int):Bool:=decide (0≤Aqd .i64 n 1∧Aqd .i64 n 1<(l.length:Int))
theorem Azt{l:List Bg}{n:Int}(h:plB l n=true):0≤Aqd .i64 n 1∧Aqd .i64 n 1<(l.length:Int):=of_decide_eq_true h
theorem Auh (K:Nat){l:List Bg}(hl:l.length≤140737488355327){n:Int}(hn:wfi n):Abl K l n=some (plB l n):=by
 rw[Avy];unfold plB;obtain⟨h1,h2⟩:=hn
 congr 1
 rw[decide_eq_decide];unfold Aqd;rw[IntKind.wrap_i64];omega
def A10 (l:List Bg)(k:Int):Bool:=plB l (gt l k).fUp&&((gt l (Aqd .i64 (gt l k).fUp 1)).Ja==1&&(gt l (Aqd .i64 (gt l k).fUp 1)).Js==(gt l k).Hf)
theorem A4n (K:Nat){l:List Bg}(w:Ai4 l){k:Int}(h:0≤k∧k<(l.length:Int)):Asd K l k=some (A10 l k):=by
 unfold Asd A10;rw[if_pos h,Auh K (Ak8 w) (w.1 _ (Aqx h.1 h.2)).up,Z0,if_pos h];cases hp:plB l (gt l k).fUp with
 |false=>rfl
 |true=>
  have:=Azt hp;rw[cond_true,if_pos this,if_pos this];cases (gt l (Aqd .i64 (gt l k).fUp 1)).Ja==1<;>rfl
def Aw6 (l:List Bg)(n:Int):Bool:=n==0||(plB l n&&(gt l (Aqd .i64 n 1)).Ja==1)
theorem A7t{l:List Bg}{n:Int}(h:Aw6 l n=true)(h0:n≠0):0≤Aqd .i64 n 1∧Aqd .i64 n 1<(l.length:Int):=by
 unfold Aw6 at h;rw[Aky h0,Z52,Z4]at h;exact Azt h.1
theorem A06 (K:Nat){l:List Bg}(w:Ai4 l){n:Int}(hn:wfi n):Apw K l n=some (Aw6 l n):=by
 unfold Apw Aw6;rw[Auh K (Ak8 w) hn,Z0];cases n==0 with
 |true=>rfl
 |false=>
  cases hp:plB l n with
  |false=>rfl
  |true=>rw[if_pos (Azt hp)];rfl
def A9a (r:List Int):Int:=gt r ((r.length - 1:Nat):Int)
def A07 (l:List Bg)(k:Int):Bool:=decide (((Ak5 l l.length k).length:Int)≤4)&& !A10 l (A9a (Ak5 l l.length k))
def Be9 (l:List Bg)(k:Int):Bool:= !((gt l k).Hh==0&&A10 l k)||(gt l (Aqd .i64 (gt l k).fUp 1)).B5==Aqc .i64 k 1
def Bie (l:List Bg)(k:Int):Bool:=(gt l k).Hh==0||(gt l (Aqd .i64 (gt l k).Hh 1)).Hg==Aqc .i64 k 1
def Bmy (l:List Bg)(k:Int):Bool:=(gt l k).Hg==0||((gt l (Aqd .i64 (gt l k).Hg 1)).Hh==Aqc .i64 k 1&&((gt l (Aqd .i64 (gt l k).Hg 1)).fUp==(gt l k).fUp&&(gt l (Aqd .i64 (gt l k).Hg 1)).Hf==(gt l k).Hf))
def Brj (l:List Bg)(k:Int):Bool:=(gt l k).B5==0||((gt l (Aqd .i64 (gt l k).B5 1)).Hh==0&&((gt l (Aqd .i64 (gt l k).B5 1)).fUp==Aqc .i64 k 1&&(gt l (Aqd .i64 (gt l k).B5 1)).Hf==(gt l k).Js))
def A4o (l:List Bg)(k:Int):Bool:=Aw6 l (gt l k).B5&&(Aw6 l (gt l k).Hg&&(Aw6 l (gt l k).Hh&&((gt l k).fUp==0||plB l (gt l k).fUp)))
def A2b (l:List Bg)(k:Int):Bool:=A4o l k&&(Brj l k&&(Bmy l k&&(Bie l k&&Be9 l k)))
def A9b (l:List Bg):Bool:=(List.range l.length).all (fun k=>(gt l (k:Int)).Ja != 1||(A2b l k&&A07 l k))
theorem A7u{l:List Bg}{k:Int}(h:0≤k∧k<(l.length:Int)):0<(Ak5 l l.length k).length:=by
 obtain⟨m,hm⟩: ∃m,l.length=m+1:=⟨l.length - 1,by omega⟩
 rw[hm,Ak5,if_pos h];simp
theorem Bgj{l:List Bg}{k:Int}(h:0≤k∧k<(l.length:Int)):0≤A9a (Ak5 l l.length k)∧A9a (Ak5 l l.length k)<(l.length:Int):=by
 have:=A7u h;exact Bgi _ _ _ (Arz (by omega))
theorem Brk{l:List Bg}(w:Ai4 l){k:Int}(h:0≤k∧k<(l.length:Int)):Aqd .i64 ((Ak5 l l.length k).length:Int) 1=(((Ak5 l l.length k).length - 1:Nat):Int)∧(0:Int)≤(((Ak5 l l.length k).length - 1:Nat):Int)∧(((Ak5 l l.length k).length - 1:Nat):Int)<((Ak5 l l.length k).length:Int):=by
 have h1:=A7u h
 have h2:=Bc5 (l:=l) l.length k
 have h3:=Ak8 w;unfold Aqd;rw[Abf (by omega) (by omega)]
 omega
section
variable {K:Nat} (hK:281474976710656≤K)
include hK
theorem Brl{l:List Bg}(w:Ai4 l){k:Int}(h:0≤k∧k<(l.length:Int)):As6 K l k=some (A07 l k):=by
 have h3:=Ak8 w;obtain⟨e1,e2,e3⟩:=Brk w h;unfold As6;rw[A0i hK w k ⟨by omega,by omega⟩,Z0,e1,if_pos ⟨e2,e3⟩]
 have:=A4n K w (Bgj h);unfold A9a at this;rw[this,Z0,Arb];rfl
theorem Brm{l:List Bg}(w:Ai4 l){k:Int}(h:0≤k∧k<(l.length:Int)):At7 K l k (gt l k).fUp (gt l k).Hh=some (Be9 l k&&A07 l k):=by
 unfold At7 Be9;rw[A4n K w h,Brl hK w h,Z0];cases (gt l k).Hh==0 with
 |false=>rfl
 |true=>
  cases hc:A10 l k with
  |false=>rfl
  |true=>
   have:plB l (gt l k).fUp=true:=by unfold A10 at hc;rw[Z4]at hc;exact hc.1
   rw[cond_true,cond_true,if_pos (Azt this),bne,Age];cases (gt l (Aqd .i64 (gt l k).fUp 1)).B5==Aqc .i64 k 1<;>rfl
theorem Brn{l:List Bg}(w:Ai4 l){k:Int}(h:0≤k∧k<(l.length:Int))(hp:Aw6 l (gt l k).Hh=true):At8 K l k (gt l k).fUp (gt l k).Hh=some (Bie l k&&(Be9 l k&&A07 l k)):=by
 unfold At8 Bie;rw[Brm hK w h]
 by_cases h0:(gt l k).Hh=0
 ·rw[h0];rfl
 ·rw[Aue h0,Aky h0,cond_true,if_pos (A7t hp h0),bne,Age];cases (gt l (Aqd .i64 (gt l k).Hh 1)).Hg==Aqc .i64 k 1<;>rfl
theorem Bro{l:List Bg}(w:Ai4 l){k:Int}(h:0≤k∧k<(l.length:Int))(hp:Aw6 l (gt l k).Hh=true)(hn:Aw6 l (gt l k).Hg=true):At9 K l k (gt l k).fUp (gt l k).Hf (gt l k).Hg (gt l k).Hh=some (Bmy l k&&(Bie l k&&(Be9 l k&&A07 l k))):=by
 unfold At9 Bmy;rw[Brn hK w h hp]
 by_cases h0:(gt l k).Hg=0
 ·rw[h0];rfl
 ·have hi:=A7t hn h0;rw[Aue h0,Aky h0,cond_true,if_pos hi];simp only[bne,Age,Z52];cases (gt l (Aqd .i64 (gt l k).Hg 1)).Hh==Aqc .i64 k 1<;>cases (gt l (Aqd .i64 (gt l k).Hg 1)).fUp==(gt l k).fUp<;>cases (gt l (Aqd .i64 (gt l k).Hg 1)).Hf==(gt l k).Hf<;>rfl
theorem Brp{l:List Bg}(w:Ai4 l){k:Int}(h:0≤k∧k<(l.length:Int))(hf:Aw6 l (gt l k).B5=true)(hp:Aw6 l (gt l k).Hh=true)(hn:Aw6 l (gt l k).Hg=true):Aua K l k (gt l k).Ja (gt l k).Bz (gt l k).Js (gt l k).fUp (gt l k).Hf (gt l k).B5 (gt l k).Hg (gt l k).Hh (gt l k).Af (gt l k).Rk (gt l k).Hi (gt l k).Er (gt l k).Dt=some (Brj l k&&(Bmy l k&&(Bie l k&&(Be9 l k&&A07 l k)))):=by
 unfold Aua Brj;rw[Bro hK w h hp hn]
 by_cases h0:(gt l k).B5=0
 ·rw[h0];rfl
 ·have hi:=A7t hf h0;rw[Aue h0,Aky h0,cond_true,if_pos hi];simp only[bne,Age,Z52];cases (gt l (Aqd .i64 (gt l k).B5 1)).Hh==0<;>cases (gt l (Aqd .i64 (gt l k).B5 1)).fUp==Aqc .i64 k 1<;>cases (gt l (Aqd .i64 (gt l k).B5 1)).Hf==(gt l k).Js<;>rfl
theorem Bfa{l:List Bg}(w:Ai4 l){k:Int}(h:0≤k∧k<(l.length:Int)):Ax7 K l k=some (A2b l k&&A07 l k):=by
 have hn:=w.1 _ (Aqx h.1 h.2);unfold Ax7 A2b A4o;rw[if_pos h,Auh K (Ak8 w) hn.up,A06 K w hn.first,A06 K w hn.next,A06 K w hn.prev];simp only[Z0,Age];cases hf:Aw6 l (gt l k).B5 with
 |false=>cases (gt l k).fUp != 0<;>cases plB l (gt l k).fUp<;>rfl
 |true=>
 cases hx:Aw6 l (gt l k).Hg with
 |false=>cases (gt l k).fUp != 0<;>cases plB l (gt l k).fUp<;>rfl
 |true=>
 cases hp:Aw6 l (gt l k).Hh with
 |false=>cases (gt l k).fUp != 0<;>cases plB l (gt l k).fUp<;>rfl
 |true=>
 rw[Brp hK w h hf hp hx];simp only[bne];cases (gt l k).fUp==0<;>cases plB l (gt l k).fUp<;>simp only[Bool.not_true,Bool.not_false,cond_true,cond_false,Z30,Bool.false_and,Bool.true_or,Z52,Bool.and_assoc]
theorem Bc7{l:List Bg}(w:Ai4 l):Axh K l=some (A9b l):=by
 have hl:=Ak8 w;unfold Axh A9b;rw[Auf hK l.length (by omega) (fun k=>(gt l (k:Int)).Ja != 1||(A2b l k&&A07 l k)) (some true) (fun n i=>Apn K l n i) (fun n i h=> ?_) (fun n=> ?_)]
 ·cases (List.range l.length).all _<;>rfl
 ·simp only[Apn,Avo];rw[Aha h,cond_true,if_pos (Aph h),Bfa hK w (Aph h),Agw (by omega),Z0,Age,bne]
  cases (gt l (i:Int)).Ja==1<;>rfl
 ·show Apn K l (n+1) _=_;rw[Apn,Ai2 (Z9 _),cond_false]
end
theorem A9c{c:Fa}(hc:Alm c=true):Aqd .i64 c.Ez 1=c.Ez - 1:=by
 obtain⟨_,b2,_⟩:=Ap hc;unfold Aqd;rw[Abf (by omega) (by omega)]
def Apj (c:Fa)(x:A3):Bool:=
 Alm c&&(inB x.As 0 c.Db&&(inB x.B5 0 c.Db&&(decide ((x.Dt.length:Int)≤6)&&(x.Dt.all (fun y=>inB y 0 255)&&(Auw c x.Af&&(inB x.Hj 0 (c.Ez - 1)&&(decide ((x.Af.length:Int)>0)||x.Hj==0)))))))
section
variable {K:Nat} (hK:281474976710656≤K)
include hK
theorem A80 (c:Fa)(x:A3)(hw:Bbm x):Awq K c x=some (Apj c x):=by
 have h1:=A25 hK hw.tags
 have h2:=A25 hK hw.chunks;unfold Awq Auq;rw[Atc];simp only[Z0,Api];cases hc:Alm c with
 |false=>simp[Apj,hc]
 |true=>
 have hA:Ang K c x.Af K 0=some (Auw c x.Af):=by
  rw[Auf hK x.Af.length (by omega) (fun i=>inB (gt x.Af i) 0 (c.Af - 1)&& !(x.Af.take i).contains (gt x.Af i)) (some true) (fun k i=>Ang K c x.Af k i) (fun k i h=> ?_) (fun k=> ?_)]
  ·unfold Auw;cases (List.range x.Af.length).all _<;>rfl
  ·have hp:(x.Af.take i).length≤140737488355328:=by simp;omega
   simp only[Ang];rw[Aha h,cond_true,if_pos (Aph h),Api,if_pos (Bgf (by omega)),A7q,Ays hK _ _ hp,Agw (by omega),Azz hK hc]
   simp only[Z0,if_pos (Aph h)];cases inB (gt x.Af i) 0 (c.Af - 1)<;>cases (x.Af.take i).contains (gt x.Af i)<;>rfl
  ·show Ang K c x.Af (k+1) _=_;rw[Ang,Ai2 (Z9 _),cond_false]
 have hB:Apq K c x.Dt x.Af K 0=some (x.Dt.all (fun y=>inB y 0 255)&&Auw c x.Af):=by
  rw[Aty hK x.Dt (by omega) (fun y=>inB y 0 255) (some (Auw c x.Af)) (Apq K c x.Dt x.Af) (fun k i h=> ?_) (fun k=> ?_)]
  ·rw[Arb]
  ·rw[Apq,Aha h,cond_true,if_pos (Aph h),Abh h,Api,Agw (by omega),Z0,Age]
  ·rw[Apq,Ai2 (Z9 _),cond_false,hA]
 rw[hB,A9c hc]
 have e6:decide ((x.Dt.length:Int)>6)= !decide ((x.Dt.length:Int)≤6):=by rw[←decide_not];congr 1;simp
 have e0:decide ((x.Af.length:Int)>0)= !((x.Af.length:Int)==0):=by
  rw[Bool.eq_iff_iff];simp only[decide_eq_true_eq,Z44,beq_eq_false_iff_ne];omega
 unfold Apj;simp only[cond_true,e6,e0,Age,bne,hc,Z30];cases (x.Af.length:Int)==0 with
 |true=>
  simp only[cond_true,Bool.not_true,Z52,Arb,Z7]
  ac_rfl
 |false=>
  simp only[cond_false,Bool.not_false,Bool.true_or,Arb,Z7,Bool.and_true]
  ac_rfl
end
theorem Ath{c:Fa}{x:A3}(h:Apj c x=true):Alm c=true∧(0≤x.As∧x.As≤c.Db)∧(0≤x.B5∧x.B5≤c.Db)∧Auw c x.Af=true∧(0≤x.Hj∧x.Hj≤c.Ez - 1):=by
 unfold Apj at h;simp only[Z4,Abm]at h;exact⟨h.1,h.2.1,h.2.2.1,h.2.2.2.2.2.1,h.2.2.2.2.2.2.1⟩
theorem Awy{c:Fa}{l:List Int}(h:Auw c l=true): ∀x∈l,0≤x∧x<c.Af:=by
 intro x hx;obtain⟨i,hi,e⟩:=List.mem_iff_getElem.1 hx;unfold Auw at h;rw[Z1]at h
 have:=h i (by simpa using hi)
 rw[Z4,Abh hi,e,Abm]at this;omega
theorem A2c{l:List Int}:l.Nodup ↔ ∀i,(h:i<l.length)->l[i] ∉ l.take i:=by
 unfold List.Nodup;rw[List.pairwise_iff_getElem];constructor
 ·intro h i hi hm;obtain⟨j,hj,e⟩:=List.mem_iff_getElem.1 hm;rw[List.getElem_take]at e;simp only[List.length_take]at hj;exact h j i (by omega) hi (by omega) e
 ·intro h i j hi hj hij e;exact h j hj (List.mem_iff_getElem.2 ⟨i,by simp;omega,by rw[List.getElem_take];exact e⟩)
theorem Aw8{c:Fa}{l:List Int}(h:Auw c l=true):l.Nodup:=by
 rw[A2c];intro i hi hm;unfold Auw at h;rw[Z1]at h
 have:=h i (by simpa using hi)
 rw[Z4,Abh hi,Z44,List.contains_eq_mem]at this;exact absurd hm (of_decide_eq_false this.2)
theorem Aw9{l:List Int}: ∀ {o:List Int},o.Nodup->(∀x∈o,x∈l)->o.length≤l.length:=by
 intro o
 induction o generalizing l with
 |nil=>intro _ _;exact Z21 _
 |cons x o ih=>
  intro hn hs
  have hx:x∈l:=hs x (by simp)
  rw[List.nodup_cons]at hn
  have h2:=ih (l:=l.erase x) hn.2 (fun y hy=>by
   have hne:y≠x:=fun e=>hn.1 (e ▸ hy);exact(List.mem_erase_of_ne hne).2 (hs y (by simp[hy])))
  rw[List.length_erase_of_mem hx]at h2
  have:0<l.length:=List.length_pos_of_mem hx;simp only[Yy];omega
theorem Awz{c:Fa}(hc:Alm c=true){l:List Int}(h:Auw c l=true):l.length≤12:=by
 obtain⟨b1,_⟩:=Ap hc
 have:=Aw9 (l:=(List.range 12).map (fun i:Nat=>(i:Int))) (Aw8 h) (fun x hx=>by
  have:=Awy h x hx;rw[E8];exact⟨x.toNat,by simp;omega,by omega⟩)
 simpa using this
def Az1 (l:List Bg):Nat->Int->List Int
 |0,_=>[]
 |n+1,k=>if 0≤k∧k<(l.length:Int)then k::Az1 l n (Aqd .i64 (gt l k).Hg 1)else []
theorem A7v{l:List Bg}: ∀(n:Nat) (k:Int),∀x∈Az1 l n k,0≤x∧x<(l.length:Int):=by
 intro n
 induction n with
 |zero=>intro k x hx;cases hx
 |succ n ih=>
  intro k x hx;unfold Az1 at hx;split at hx
  ·rename_i h;rcases D4.1 hx with rfl|hx
   ·exact h
   ·exact ih _ x hx
  ·cases hx
theorem A4p{l:List Bg}: ∀(n:Nat) (k:Int),(Az1 l n k).length≤n:=by
 intro n
 induction n with
 |zero=>intro k;exact Z9 _
 |succ n ih=>
  intro k;unfold Az1;split
  ·simp only[Yy];have:=ih (Aqd .i64 (gt l k).Hg 1);omega
  ·exact Z21 _
def Ar4 (l:List Bg)(first:Int):List Int:=Az1 l l.length (Aqd .i64 first 1)
def Az2 (l:List Bg)(k:Int):Bool:=(gt l k).Ja==1&&((gt l k).fUp != 0&& !A10 l k)
theorem A42 (K:Nat){l:List Bg}(w:Ai4 l){k:Int}(h:0≤k∧k<(l.length:Int)):As7 K l k=some (Az2 l k):=by
 unfold As7 Az2;rw[if_pos h,if_pos h,A4n K w h,Z0,Arb,Arb]
section
variable {K:Nat} (hK:281474976710656≤K)
theorem Bif{l:List Bg}(w:Ai4 l): ∀(n:Nat) (k:Int) (v:List Int),wfi k->v.length≤l.length->l.length - v.length<n->Atm K l n k v=some (v++Az1 l (l.length - v.length) (Aqd .i64 k 1)):=by
 have hm:=Abn
 have hb:l.length*152≤140737488355327:=w.2;intro n
 induction n with
 |zero=>intro k v _ _ h;omega
 |succ n ih=>
  intro k v hk hv hn;rw[Atm,Auh K (Ak8 w) hk];simp only[Z0]
  by_cases hs:0≤Aqd .i64 k 1∧Aqd .i64 k 1<(l.length:Int)
  ·rw[show plB l k=true from decide_eq_true hs]
   simp only[cond_true];rcases Ge v.length l.length with h|h
   ·rw[Aha h];simp only[cond_true]
    have hl2:(v++[Aqd .i64 k 1]).length=v.length+1:=by simp
    rw[if_pos ⟨by rw[hl2];omega,by rw[hl2];omega⟩,if_pos hs,ih (gt l (Aqd .i64 k 1)).Hg _ (w.1 _ (Aqx hs.1 hs.2)).next (by rw[hl2];omega) (by rw[hl2];omega),hl2]
    obtain⟨m,hm⟩: ∃m,l.length - v.length=m+1:=⟨l.length - v.length - 1,by omega⟩
    rw[hm,Az1,if_pos hs,show l.length - (v.length+1)=m from by omega]
    simp
   ·rw[Ai2 h];rw[show l.length - v.length=0 from by omega]
    simp[Az1]
  ·rw[show plB l k=false from decide_eq_false hs]
   have:Az1 l (l.length - v.length) (Aqd .i64 k 1)=[]:=by
    cases l.length - v.length with
    |zero=>rfl
    |succ m=>rw[Az1,if_neg hs]
   rw[this];simp
include hK
theorem A43{l:List Bg}(w:Ai4 l){k:Int}(hk:wfi k):Au8 K l k=some (Ar4 l k):=by
 have hb:=Ak8 w;unfold Au8 Ar4
 have:=Bif (K:=K) w K k [] hk (Z21 _) (by simp;omega)
 simpa using this
def Apk (w:Es)(x:A3):Bool:= !decide ((x.Af.length:Int)>0)||Ari ((w.fP.Gl.drop (gt x.Af 0*w.fC.Ez).toNat).take x.Hj.toNat)
def Ayx (w:Es)(x:A3):Bool:=x.As==0||(gt w.fL (Aqd .i64 x.As 1)).Ja==2
def A08 (w:Es)(x:A3):Bool:=x.B5==0||(gt w.fL (Aqd .i64 x.B5 1)).Hh==0
def A5q (w:Es)(x:A3):Bool:=x.Af.all (fun k=>gt w.fP.Ja k==2)
def Aw0 (w:Es)(x:A3):Bool:=(Ar4 w.fL x.B5).all (Az2 w.fL)
def Ar0 (w:Es)(x:A3):Bool:=Apj w.fC x&&(A5q w x&&(Apk w x&&(Ayx w x&&(A08 w x&&Aw0 w x))))
theorem Bbo{w:Es}(hL:(w.fL.length:Int)=w.fC.Db)(hc:Alm w.fC=true){n:Int}(h0:n≠0)(h1:0≤n)(h2:n≤w.fC.Db):0≤Aqd .i64 n 1∧Aqd .i64 n 1<(w.fL.length:Int):=by
 obtain⟨_,_,b3,_⟩:=Ap hc;unfold Aqd;rw[Abf (by omega) (by omega)]
 omega
theorem A81 (w:Es)(hw:Avx w)(hp:Ax0 w.fC w.fP=true)(hL:(w.fL.length:Int)=w.fC.Db)(i:Nat)(hi:i<w.fQ.length):Avp K w i=some (Ar0 w (gt w.fQ i)):=by
 have hx:=hw.q.1 _ (Arz hi);unfold Avp;rw[if_pos (Aph hi)];generalize gt w.fQ i=x at *;rw[A80 hK _ _ hx,Z0,Age];unfold Ar0;cases hr:Apj w.fC x with
 |false=>rfl
 |true=>
 rw[cond_true,Z30];obtain⟨hc,⟨s1,s2⟩,⟨f1,f2⟩,hd,d1,d2⟩:=Ath hr;obtain⟨_,hm,hst,_⟩:=Av5 hp;obtain⟨b1,b2,b3,_⟩:=Ap hc
 have hch:=Awy hd
 have hl:=A25 hK hx.chunks
 have h3:An6 K x.B5 w.fL=some (Aw0 w x):=by
  unfold An6 Aw0
  have hk:=A4p (l:=w.fL) w.fL.length (Aqd .i64 x.B5 1)
  have hin:=A7v (l:=w.fL) w.fL.length (Aqd .i64 x.B5 1);rw[A43 hK hw.l hx.first,Z0];change (Ar4 w.fL x.B5).length≤_ at hk;change ∀y∈Ar4 w.fL x.B5,_ at hin;generalize Ar4 w.fL x.B5=r at *;rw[Aty hK r (by omega) (Az2 w.fL) (some true) (Aqm K w.fL r) (fun n i h=> ?_) (fun n=> ?_)]
  ·cases r.all _<;>rfl
  ·rw[Aqm,Aha h,cond_true,if_pos (Aph h),A42 K hw.l (hin _ (Arz h)),Agw (by omega),Z0,Age,Abh h]
  ·rw[Aqm,Ai2 (Z9 _),cond_false]
 have h2:Asi K x.As x.B5 w.fL=some (Ayx w x&&(A08 w x&&Aw0 w x)):=by
  unfold Asi Ayx A08;rw[h3]
  by_cases g1:x.B5=0
  ·rw[g1]
   by_cases g2:x.As=0
   ·rw[g2];rfl
   ·rw[Aue g2,Aky g2,cond_true,if_pos (Bbo hK hL hc g2 s1 s2)];simp only[bne,Age,Z52];cases (gt w.fL (Aqd .i64 x.As 1)).Ja==2<;>rfl
  ·have hF:(bif (x.B5 != 0)then(if(0:Int)≤(Aqd .i64 x.B5 1)∧(Aqd .i64 x.B5 1)<(w.fL.length:Int)then(bif (((gt w.fL (Aqd .i64 x.B5 1)).Hh) != 0)then some false else some (Aw0 w x))else none)else some (Aw0 w x))=some ((x.B5==0||(gt w.fL (Aqd .i64 x.B5 1)).Hh==0)&&Aw0 w x):=by
    rw[Aue g1,Aky g1,cond_true,if_pos (Bbo hK hL hc g1 f1 f2)];simp only[bne,Age,Z52,Arb]
   rw[hF]
   by_cases g2:x.As=0
   ·rw[g2];rfl
   ·rw[Aue g2,Aky g2,cond_true,if_pos (Bbo hK hL hc g2 s1 s2)];simp only[bne,Age,Z52,Arb]
 rw[Aty hK x.Af (by omega) (fun k=>gt w.fP.Ja k==2) (some (Apk w x&&(Ayx w x&&(A08 w x&&Aw0 w x)))) (fun n i=>An7 K n i x.As x.B5 x.Dt x.Af x.Hj w.fC.Af w.fC.Ez w.fC.Db w.fC.Fv w.fC.Dc w.fC.E0 w.fP.Gl w.fP.Ja w.fP.Gm w.fL w.fQ w.Rl) (fun n i h=> ?_) (fun n=> ?_)]
 ·rw[Arb];rfl
 ·simp only[An7]
  have h5:=hch _ (Arz h);rw[Aha h,cond_true,if_pos (Aph h),if_pos ⟨h5.1,by omega⟩,Agw (by omega),bne,Age,Abh h]
 ·show An7 K (n+1) _ _ _ _ _ _ _ _ _ _ _ _ _ _ _ _ _ _=_;rw[An7,Ai2 (Z9 _),cond_false,h2];unfold Apk
  by_cases g:(x.Af.length:Int)>0
  ·have h5:=hch _ (Aqx (l:=x.Af) (Int.le_refl 0) (by omega))
   obtain⟨e1,e2,e3,e4⟩:=A22 hc hm h5.1 h5.2
   have e5:Aqc .i64 (gt x.Af 0*w.fC.Ez) x.Hj=gt x.Af 0*w.fC.Ez+x.Hj:=by
    have:=Auu (a:=gt x.Af 0) (b:=w.fC.Ez) (m:=12) (n:=16) h5.1 (by omega) (by omega) b2.2
    unfold Aqc;rw[Abf (by omega) (by omega)]
   rw[decide_eq_true g,cond_true,if_pos ⟨by omega,by omega⟩,if_pos ⟨by omega,by omega⟩,e1,e5,if_pos ⟨e3,by omega,by omega⟩,Azi hK _ (by simp;omega),show gt x.Af 0*w.fC.Ez+x.Hj - gt x.Af 0*w.fC.Ez=x.Hj by omega]
   simp only[Z0,Age,Arb,Bool.not_true,Z52]
  ·rw[decide_eq_false g];rfl
end
def A4q (N:Nat)(l:List Int):List Int:=(List.range N).map (fun k:Nat=>((l.count (k:Int):Nat):Int))
theorem Bmz (N:Nat)(l:List Int):(A4q N l).length=N:=by simp[A4q]
theorem A0j{N:Nat}{l:List Int}{x:Int}(h0:0≤x)(h1:x<N):gt (A4q N l) x=((l.count x:Nat):Int):=by
 obtain⟨k,rfl⟩: ∃k:Nat,x=k:=⟨x.toNat,by omega⟩
 rw[Abh (by rw[Bmz];omega)]
 simp[A4q]
theorem A7w{C P:List Int}(hs: ∀x∈C,x∈P)(hP:P.Nodup):(∀x∈P,C.count x=1) ↔ (C.Nodup∧C.length=P.length):=by
 constructor
 ·intro h
  have hn:C.Nodup:=by
   rw[List.nodup_iff_count];intro a
   by_cases ha:a∈C
   ·rw[h a (hs a ha)];omega
   ·rw[List.count_eq_zero_of_not_mem ha];omega
  refine⟨hn,?_⟩
  have h1:=Aw9 hn hs
  have h2:=Aw9 hP (l:=C) (fun x hx=>List.count_pos_iff.1 (by rw[h x hx];omega))
  omega
 ·rintro⟨hn,hl⟩ x hx
  have hp:=Bc3 hn hs hl
  have:=hn.count (a:=x);rw[this,if_pos (hp.mem_iff.2 hx)]
def chL (q:List A3):List Int:=q.flatMap (fun x=>x.Af)
def slL (q:List A3):List Int:=q.flatMap (fun x=>if x.As=0 then []else [Aqd .i64 x.As 1])
def kdL (l:List Bg)(q:List A3):List Int:=q.flatMap (fun x=>Ar4 l x.B5)
theorem A4r{α β:Type}(q:List α)(f:α->List β)(i:Nat)(h:i<q.length):(q.take (i+1)).flatMap f=(q.take i).flatMap f++f q[i]:=by
 rw[←List.take_append_getElem h,List.flatMap_append];simp
theorem A7x{α β:Type}(q:List α)(f:α->List β)(m:Nat)(h: ∀x∈q,(f x).length≤m):(q.flatMap f).length≤q.length*m:=by
 induction q with
 |nil=>simp
 |cons x q ih=>
  have h1:=h x (by simp)
  have h2:=ih fun y hy=>h y (by simp[hy])
  simp only[List.flatMap_cons,Kr,Yy,Hs,Nat.one_mul];omega
def A44 (w:Es):List Int:=((List.range w.fP.Ja.length).filter (fun k:Nat=>gt w.fP.Ja k==2)).map (fun k:Nat=>(k:Int))
def A11 (w:Es):List Int:=((List.range w.fL.length).filter (fun k:Nat=>(gt w.fL k).Ja==2)).map (fun k:Nat=>(k:Int))
def A7y (w:Es):List Int:=((List.range w.fL.length).filter (fun k:Nat=>Az2 w.fL k)).map (fun k:Nat=>(k:Int))
theorem A2d (N:Nat)(p:Nat->Bool):(((List.range N).filter p).map (fun k:Nat=>(k:Int))).Nodup:=by
 unfold List.Nodup;rw[List.pairwise_map];exact(List.Pairwise.filter _ List.pairwise_lt_range).imp fun h=>by omega
theorem Au9{N:Nat}{p:Nat->Bool}{x:Int}:x∈((List.range N).filter p).map (fun k:Nat=>(k:Int)) ↔ (0≤x∧x<(N:Int))∧p x.toNat=true:=by
 simp only[E8,List.mem_filter,List.mem_range];constructor
 ·rintro⟨k,⟨h1,h2⟩,rfl⟩;exact⟨⟨by omega,by omega⟩,by simpa using h2⟩
 ·rintro⟨⟨h1,h2⟩,h3⟩;exact⟨x.toNat,⟨by omega,h3⟩,by omega⟩
def Ayi (w:Es)(N:Nat):Bool:=
 (List.range w.fP.Ja.length).all (fun k=> !(gt w.fP.Ja k==2)||gt (A4q N (chL w.fQ)) k==1)&&
 (List.range w.fL.length).all (fun k=>(!((gt w.fL k).Ja==2)||gt (A4q w.fL.length (slL w.fQ)) k==1)&&(!Az2 w.fL k||gt (A4q w.fL.length (kdL w.fL w.fQ)) k==1))
def A2e (q:List A3)(i k:Nat):Bool:= !((gt q i).As != 0&&(gt q k).As==(gt q i).As)&&(gt q i).Af.all (fun y=> !(gt q k).Af.contains y)
def Bbq (q:List A3):Bool:=(List.range q.length).all (fun i=>(List.range i).all (fun k=>A2e q i k))
def A4s (l:List Int):Bool:=(List.range l.length).all (fun i=> !(l.take i).contains (gt l i))
def A5r (w:Es):Bool:=
 Bbq w.fQ&&(A4s (kdL w.fL w.fQ)&&((((chL w.fQ).length:Int)==((A44 w).length:Int))&&((((slL w.fQ).length:Int)==((A11 w).length:Int))&&(((kdL w.fL w.fQ).length:Int)==((A7y w).length:Int)))))
theorem Bfb (l:List Int):A4s l=true ↔ l.Nodup:=by
 rw[A2c];unfold A4s;simp only[Z1,List.mem_range,Z44,List.contains_eq_mem,decide_eq_false_iff_not];exact⟨fun h i hi=>by have:=h i hi;rwa[Abh hi]at this,fun h i hi=>by rw[Abh hi];exact h i hi⟩
theorem Bc8{w:Es}{q:List A3}(h1: ∀x∈q,x.Af.Nodup)(h2: ∀x∈q,0≤x.As∧x.As≤8):Bbq q=true ↔ (chL q).Nodup∧(slL q).Nodup:=by
 unfold chL slL List.Nodup;rw[List.pairwise_flatMap,List.pairwise_flatMap,List.pairwise_iff_getElem,List.pairwise_iff_getElem]
 have hs: ∀x∈q,List.Pairwise (fun a b:Int=>a≠b) (if x.As=0 then []else [Aqd .i64 x.As 1]):=by
  intro x _;split<;>simp
 have hsub: ∀x∈q,Aqd .i64 x.As 1=x.As - 1:=by
  intro x hx;have:=h2 x hx;unfold Aqd;rw[Abf (by omega) (by omega)]
 unfold Bbq A2e;simp only[Z1,List.mem_range,Z4,Z44,List.contains_eq_mem,decide_eq_false_iff_not];constructor
 ·intro h;refine⟨⟨h1,fun i j hi hj hij x hx y hy e=> ?_⟩,hs,fun i j hi hj hij x hx y hy e=> ?_⟩
  ·have:=(h j hj i hij).2;rw[Abh hi,Abh hj]at this;subst e;exact this x hy hx
  ·have:=(h j hj i hij).1;rw[Abh hi,Abh hj]at this;split at hx
   ·cases hx
   ·split at hy
    ·cases hy
    ·rename_i g1 g2;simp only[Pl]at hx hy;subst hx;subst hy;rw[hsub _ (List.getElem_mem hi),hsub _ (List.getElem_mem hj)]at e;rw[Aue g2,Z30,beq_eq_false_iff_ne]at this;exact this (by omega)
 ·rintro⟨⟨_,h3⟩,_,h4⟩ i hi k hk
  have hk':k<q.length:=by omega
  rw[Abh hi,Abh hk'];refine⟨?_,fun x hx hy=>h3 k i hk' hi hk x hy x hx rfl⟩;rw[Bool.and_eq_false_iff]
  by_cases g:q[i].As=0
  ·left;simp[g]
  ·right;rw[beq_eq_false_iff_ne];intro e;refine h4 k i hk' hi hk (Aqd .i64 q[k].As 1) ?_ (Aqd .i64 q[i].As 1) ?_ (by rw[e])
   ·rw[if_neg (by rw[e];exact g)];simp
   ·rw[if_neg g];simp
theorem Byg{w:Es}(hp:Ax0 w.fC w.fP=true)(hL:(w.fL.length:Int)=w.fC.Db)(hq: ∀x∈w.fQ,Ar0 w x=true):Ayi w w.fC.Af.toNat=A5r w:=by
 obtain⟨hc,hm,hst,_⟩:=Av5 hp;obtain⟨b1,b2,b3,_⟩:=Ap hc
 have hone: ∀x∈w.fQ,(0≤x.As∧x.As≤w.fC.Db)∧Auw w.fC x.Af=true∧A5q w x=true∧Ayx w x=true∧Aw0 w x=true:=by
  intro x hx
  have:=hq x hx;unfold Ar0 at this;simp only[Z4]at this;obtain⟨h1,h2,h3,h4,h5,h6⟩:=this;obtain⟨_,g1,_,g3,_⟩:=Ath h1;exact⟨g1,g3,h2,h4,h6⟩
 have hC: ∀x∈chL w.fQ,x∈A44 w:=by
  intro y hy;unfold chL at hy;rw[List.mem_flatMap]at hy;obtain⟨x,hx,hy⟩:=hy;obtain⟨_,g2,g3,_⟩:=hone x hx
  have:=Awy g2 y hy;unfold A5q at g3;rw[Z1]at g3
  have g4:=g3 y hy;refine Au9.2 ⟨⟨this.1,by omega⟩,?_⟩
  rw[show((y.toNat:Nat):Int)=y by omega];exact g4
 have hS: ∀x∈slL w.fQ,x∈A11 w:=by
  intro y hy;unfold slL at hy;rw[List.mem_flatMap]at hy;obtain⟨x,hx,hy⟩:=hy;obtain⟨g1,g2,g3,g4,_⟩:=hone x hx;split at hy
  ·cases hy
  ·rename_i g;simp only[Pl]at hy;unfold Ayx at g4;rw[Aky g,Z52,←hy]at g4
   have:y=x.As - 1:=by rw[hy];unfold Aqd;rw[Abf (by omega) (by omega)]
   refine Au9.2 ⟨⟨by omega,by omega⟩,?_⟩
   rw[show((y.toNat:Nat):Int)=y by omega];exact g4
 have hK2: ∀x∈kdL w.fL w.fQ,x∈A7y w:=by
  intro y hy;unfold kdL at hy;rw[List.mem_flatMap]at hy;obtain⟨x,hx,hy⟩:=hy;obtain⟨g1,g2,g3,g4,g5⟩:=hone x hx;unfold Aw0 at g5;rw[Z1]at g5
  have:=A7v _ _ y hy;refine Au9.2 ⟨this,?_⟩;rw[show((y.toNat:Nat):Int)=y by omega];exact g5 y hy
 have e1:=A7w hC (A2d _ _)
 have e2:=A7w hS (A2d _ _)
 have e3:=A7w hK2 (A2d _ _)
 have hp2:=Bc8 (w:=w) (q:=w.fQ) (fun x hx=>Aw8 (hone x hx).2.1) (fun x hx=>by have:=(hone x hx).1;omega)
 rw[Bool.eq_iff_iff];unfold Ayi A5r;simp only[Z4,Z1,List.mem_range,Bool.or_eq_true,Z44,beq_iff_eq,Bfb,hp2,beq_eq_false_iff_ne]
 have c1:(∀x∈A44 w,(chL w.fQ).count x=1) ↔ ∀k,k<w.fP.Ja.length->gt w.fP.Ja (k:Int)≠2∨gt (A4q w.fC.Af.toNat (chL w.fQ)) (k:Int)=1:=by
  constructor
  ·intro h k hk
   by_cases g:gt w.fP.Ja (k:Int)=2
   ·right;rw[A0j (by omega) (by omega),h k (Au9.2 ⟨⟨by omega,by omega⟩,by simpa using g⟩)];rfl
   ·left;exact g
  ·intro h x hx;obtain⟨⟨h1,h2⟩,h3⟩:=Au9.1 hx;rw[beq_iff_eq,show((x.toNat:Nat):Int)=x by omega]at h3
   rcases h x.toNat (by omega)with h4|h4
   ·rw[show((x.toNat:Nat):Int)=x by omega]at h4;exact absurd h3 h4
   ·rw[show((x.toNat:Nat):Int)=x by omega,A0j h1 (by omega)]at h4;omega
 have c2:(∀x∈A11 w,(slL w.fQ).count x=1) ↔ ∀k,k<w.fL.length->(gt w.fL (k:Int)).Ja≠2∨gt (A4q w.fL.length (slL w.fQ)) (k:Int)=1:=by
  constructor
  ·intro h k hk
   by_cases g:(gt w.fL (k:Int)).Ja=2
   ·right;rw[A0j (by omega) (by omega),h k (Au9.2 ⟨⟨by omega,by omega⟩,by simpa using g⟩)];rfl
   ·left;exact g
  ·intro h x hx;obtain⟨⟨h1,h2⟩,h3⟩:=Au9.1 hx;rw[beq_iff_eq,show((x.toNat:Nat):Int)=x by omega]at h3
   rcases h x.toNat (by omega)with h4|h4
   ·rw[show((x.toNat:Nat):Int)=x by omega]at h4;exact absurd h3 h4
   ·rw[show((x.toNat:Nat):Int)=x by omega,A0j h1 (by omega)]at h4;omega
 have c3:(∀x∈A7y w,(kdL w.fL w.fQ).count x=1) ↔ ∀k,k<w.fL.length->Az2 w.fL (k:Int)=false∨gt (A4q w.fL.length (kdL w.fL w.fQ)) (k:Int)=1:=by
  constructor
  ·intro h k hk;cases g:Az2 w.fL (k:Int)with
   |true=>
    right;rw[A0j (by omega) (by omega),h k (Au9.2 ⟨⟨by omega,by omega⟩,by simpa using g⟩)];rfl
   |false=>left;rfl
  ·intro h x hx;obtain⟨⟨h1,h2⟩,h3⟩:=Au9.1 hx;rw[show((x.toNat:Nat):Int)=x by omega]at h3
   rcases h x.toNat (by omega)with h4|h4
   ·rw[show((x.toNat:Nat):Int)=x by omega,h3]at h4;cases h4
   ·rw[show((x.toNat:Nat):Int)=x by omega,A0j h1 (by omega)]at h4;omega
 rw[←c1,e1]
 have hsplit:(∀k,k<w.fL.length->((gt w.fL (k:Int)).Ja≠2∨gt (A4q w.fL.length (slL w.fQ)) (k:Int)=1)∧(Az2 w.fL (k:Int)=false∨gt (A4q w.fL.length (kdL w.fL w.fQ)) (k:Int)=1)) ↔ (((slL w.fQ).Nodup∧(slL w.fQ).length=(A11 w).length)∧((kdL w.fL w.fQ).Nodup∧(kdL w.fL w.fQ).length=(A7y w).length)):=by
  rw[←show _ ↔ ((slL w.fQ).Nodup∧(slL w.fQ).length=(A11 w).length) from c2.symm.trans e2,←show _ ↔ ((kdL w.fL w.fQ).Nodup∧(kdL w.fL w.fQ).length=(A7y w).length) from c3.symm.trans e3]
  exact⟨fun h=>⟨fun k hk=>(h k hk).1,fun k hk=>(h k hk).2⟩,fun h k hk=>⟨h.1 k hk,h.2 k hk⟩⟩
 rw[hsplit];constructor
 ·rintro⟨⟨a1,a2⟩,⟨a3,a4⟩,a5,a6⟩;exact⟨⟨a1,a3⟩,a5,by omega,by omega,by omega⟩
 ·rintro⟨⟨a1,a3⟩,a5,a2,a4,a6⟩;exact⟨⟨a1,by omega⟩,⟨a3,by omega⟩,a5,by omega⟩
theorem Bbr{α β:Type}{K:Nat}(hK:281474976710656≤K)(l:List α)(hl:l.length≤140737488355328)(q:α->Bool)(fin bad:Option β)(L:Nat->Nat->Option β)
  (hs: ∀n (i:Nat) (h:i<l.length),L (n+1) i=bif q l[i]then L n (i+1)else bad)
  (he: ∀n,L (n+1) l.length=fin):L K 0=bif l.all q then fin else bad:=by
 have:=Bgg l q fin bad (fun n i=>L n i.toNat) (fun n i h=>by simpa using hs n i h) (fun n=>by simpa using he n) K 0 (Z21 _) (by omega)
 simpa using this
section
variable {K:Nat} (hK:281474976710656≤K)
include hK
theorem Brq (q:List A3):(slL q).length≤q.length:=by
 have:=A7x q (fun x=>if x.As=0 then []else [Aqd .i64 x.As 1]) 1 (fun x _=>by split<;>simp)
 simpa[slL]using this
theorem Bgk (l:List Bg)(hl:l.length≤8)(q:List A3):(kdL l q).length≤q.length*8:=
 A7x _ _ 8 fun x _=>U7 (A4p _ _) hl
end
theorem Bfc{β:Type}(N:Nat)(hN:N≤140737488355327)(q:Nat->Bool)(fin:Int->Option β)(L:Nat->Int->Int->Option β)
  (hs: ∀n (v:Int) (i:Nat),i<N->0≤v->v≤i->L (n+1) v (i:Int)=bif q i then L n (v+1) ((i+1:Nat):Int)else L n v ((i+1:Nat):Int))
  (he: ∀n v,L (n+1) v (N:Int)=fin v):
  ∀(n i:Nat) (v:Int),0≤v->v≤i->i≤N->N - i<n->L n v (i:Int)=fin (v+((((List.range N).drop i).filter q).length:Int)):=by
 intro n
 induction n with
 |zero=>intro i v _ _ _ h;omega
 |succ n ih=>
  intro i v h0 hv hi hn;rcases Ge i N with h|h
  ·rw[hs n v i h h0 hv,Z47 (by simpa using h),List.getElem_range,List.filter_cons]
   cases hq:q i with
   |true=>
    rw[cond_true,ih (i+1) _ (by omega) (by omega) (by omega) (by omega)]
    simp only[if_true,Yy]
    congr 1
    omega
   |false=>
    rw[cond_false,ih (i+1) _ (by omega) (by omega) (by omega) (by omega)]
    simp
  ·obtain rfl:i=N:=by omega
   rw[he,Z48 (by simp)];simp
theorem Bbs{v:Int}(h0:0≤v)(h:v≤140737488355328):Aqc .i64 v 1=v+1:=by unfold Aqc;rw[Abf (by omega) (by omega)]
section
variable {K:Nat} (hK:281474976710656≤K)
include hK
theorem Bbt (p:Eb)(st:Int)(hl:p.Ja.length≤140737488355327):Awp K p st=some ((((List.range p.Ja.length).filter (fun k:Nat=>gt p.Ja k==st)).length:Nat):Int):=by
 unfold Awp
 have:=Bfc p.Ja.length hl (fun k:Nat=>gt p.Ja k==st) some (fun n v i=>Ane K st n v i p.Gl p.Ja p.Gm) (fun n v i hi h0 hv=> ?_) (fun n v=> ?_) K 0 0 (Int.le_refl _) (Int.le_refl _) (Z21 _) (by omega)
 ·simpa using this
 ·simp only[Ane,Auo];rw[Aha hi,cond_true,if_pos (Aph hi),Agw (by omega),Bbs h0 (by omega)]
 ·show Ane K st (n+1) v _ _ _ _=_;rw[Ane,Ai2 (Z9 _),cond_false]
theorem A0q (l:List Bg)(st:Int)(hl:l.length≤140737488355327):Ap6 K l st=some ((((List.range l.length).filter (fun k:Nat=>(gt l k).Ja==st)).length:Nat):Int):=by
 unfold Ap6
 have:=Bfc l.length hl (fun k:Nat=>(gt l k).Ja==st) some (fun n v i=>Ag5 K l st n v i) (fun n v i hi h0 hv=> ?_) (fun n v=> ?_) K 0 0 (Int.le_refl _) (Int.le_refl _) (Z21 _) (by omega)
 ·simpa using this
 ·simp only[Ag5,Asp];rw[Aha hi,cond_true,if_pos (Aph hi),Agw (by omega),Bbs h0 (by omega)]
 ·show Ag5 K l st (n+1) v _=_;rw[Ag5,Ai2 (Z9 _),cond_false]
theorem Bfd (w:Es)(hw:Avx w)(v1 v2:Int)(v3:List Int)(h3:v3.length≤140737488355327):
  Agd K v1 v2 v3 w.fP.Gl w.fP.Ja w.fP.Gm w.fL K 0 0=some (A4s v3&&((v1==((A44 w).length:Int))&&((v2==((A11 w).length:Int))&&((v3.length:Int)==((A7y w).length:Int))))):=by
 have hl:=Ak8 hw.l
 have hs:=A25 hK hw.p.st
 have h8: ∀v24,Ajb K v1 v2 v3 w.fP.Gl w.fP.Ja w.fP.Gm w.fL v24 K 0=some (A4s v3&&((v1==((A44 w).length:Int))&&((v2==((A11 w).length:Int))&&((v3.length:Int)==v24)))):=by
  intro v24;rw[Auf hK v3.length (by omega) (fun i=> !(v3.take i).contains (gt v3 i)) (some ((v1==((A44 w).length:Int))&&((v2==((A11 w).length:Int))&&((v3.length:Int)==v24)))) (fun n i=>Ajb K v1 v2 v3 w.fP.Gl w.fP.Ja w.fP.Gm w.fL v24 n i) (fun n i h=> ?_) (fun n=> ?_)]
  ·rw[Arb];rfl
  ·have hp:(v3.take i).length≤140737488355328:=by simp;omega
   simp only[Ajb];rw[Aha h,cond_true,if_pos (Bgf (by omega)),if_pos (Aph h),A7q,Ays hK _ _ hp,Agw (by omega),Z0,Age]
  ·show Ajb K v1 v2 v3 _ _ _ _ v24 (n+1) _=_;rw[Ajb,Ai2 (Z9 _),cond_false,Bbt hK _ _ hs,A0q hK _ _ hl];simp only[Z0,Arb];unfold A44 A11;simp only[B9]
 have:=Bfc w.fL.length hl (fun k:Nat=>Az2 w.fL k) (fun v=>some (A4s v3&&((v1==((A44 w).length:Int))&&((v2==((A11 w).length:Int))&&((v3.length:Int)==v))))) (fun n v i=>Agd K v1 v2 v3 w.fP.Gl w.fP.Ja w.fP.Gm w.fL n v i) (fun n v i hi h0 hv=> ?_) (fun n v=> ?_) K 0 0 (Int.le_refl _) (Int.le_refl _) (Z21 _) (by omega)
 ·rw[show((0:Nat):Int)=0 from rfl]at this
  rw[this];unfold A7y;simp only[B9,Z55,Int.zero_add]
 ·simp only[Agd,Ate];rw[Aha hi,cond_true,A42 K hw.l (Aph hi),Z0,Agw (by omega),Bbs h0 (by omega)]
 ·show Agd K v1 v2 v3 _ _ _ _ (n+1) v _=_;rw[Agd,Ai2 (Z9 _),cond_false,h8]
theorem Bc9 (w:Es)(hw:Avx w)(i n:Nat)(hi:i<w.fQ.length)(v1 v2:Int)(v3:List Int)(h1:0≤v1∧v1≤70368744177664)(h2:0≤v2∧v2≤70368744177664)(h3:(v3.length+w.fL.length)*8≤140737488355327)(hcl:(gt w.fQ i).Af.length≤12):
  Abq K (n+1) v1 v2 v3 i w.fC.Af w.fC.Ez w.fC.Db w.fC.Fv w.fC.Dc w.fC.E0 w.fP.Gl w.fP.Ja w.fP.Gm w.fL w.fQ w.Rl
   =bif (List.range i).all (fun k=>A2e w.fQ i k)then Abq K n (v1+((gt w.fQ i).Af.length:Int)) (v2+((if(gt w.fQ i).As=0 then([]:List Int)else [Aqd .i64 (gt w.fQ i).As 1]).length:Int)) (v3++Ar4 w.fL (gt w.fQ i).B5) ((i+1:Nat):Int) w.fC.Af w.fC.Ez w.fC.Db w.fC.Fv w.fC.Dc w.fC.E0 w.fP.Gl w.fP.Ja w.fP.Gm w.fL w.fQ w.Rl else some false:=by
 have hq:=hw.q.2
 have hm:=Abn
 have hx:=hw.q.1 _ (Arz hi)
 have hkl:=A4p (l:=w.fL) w.fL.length (Aqd .i64 (gt w.fQ i).B5 1);change (Ar4 w.fL (gt w.fQ i).B5).length≤_ at hkl
 have hJ: ∀v17 v18,Arx K v3 i w.fC.Af w.fC.Ez w.fC.Db w.fC.Fv w.fC.Dc w.fC.E0 w.fP.Gl w.fP.Ja w.fP.Gm w.fL w.fQ w.Rl (Abq K n) v17 v18
   =bif (List.range i).all (fun k=>A2e w.fQ i k)then Abq K n v17 v18 (v3++Ar4 w.fL (gt w.fQ i).B5) ((i+1:Nat):Int) w.fC.Af w.fC.Ez w.fC.Db w.fC.Fv w.fC.Dc w.fC.E0 w.fP.Gl w.fP.Ja w.fP.Gm w.fL w.fQ w.Rl else some false:=by
  intro v17 v18;unfold Arx
  have hlen:(v3++Ar4 w.fL (gt w.fQ i).B5).length=v3.length+(Ar4 w.fL (gt w.fQ i).B5).length:=by simp
  rw[if_pos (Aph hi),A43 hK hw.l hx.first,Z0,if_pos ⟨by rw[hlen];omega,by rw[hlen];omega⟩]
  rw[Auf hK i (by omega) (fun k=>A2e w.fQ i k) _ (fun m k=>Ai9 K i w.fC.Af w.fC.Ez w.fC.Db w.fC.Fv w.fC.Dc w.fC.E0 w.fP.Gl w.fP.Ja w.fP.Gm w.fL w.fQ w.Rl v17 v18 (Abq K n) m (v3++Ar4 w.fL (gt w.fQ i).B5) k) (fun m k hk=> ?_) (fun m=> ?_)]
  ·have hk2:k<w.fQ.length:=by omega
   have hlk:=A25 hK (hw.q.1 _ (Arz hk2)).chunks
   have h4: ∀C:List Int->Int->Option Bool,Arw K i w.fQ (v3++Ar4 w.fL (gt w.fQ i).B5) k C=bif (gt w.fQ i).Af.all (fun y=> !(gt w.fQ k).Af.contains y)then C (v3++Ar4 w.fL (gt w.fQ i).B5) ((k+1:Nat):Int)else some false:=by
    intro C;unfold Arw;rw[Aty hK (gt w.fQ i).Af (by omega) (fun y=> !(gt w.fQ k).Af.contains y) _ (fun m j=>Am7 K i w.fQ (v3++Ar4 w.fL (gt w.fQ i).B5) k C m j) (fun m j hj=> ?_) (fun m=> ?_)]
    ·simp only[Am7];rw[if_pos (Aph hi),Aha hj,cond_true,if_pos (Aph hk2),if_pos (Aph hj),Ays hK _ _ (by omega),Z0,Agw (by omega),Age,Abh hj,if_pos (Aph hi)]
    ·show Am7 K i w.fQ _ k C (m+1) _=_;rw[Am7,if_pos (Aph hi),Ai2 (Z9 _),cond_false,Agw (by omega)]
   simp only[Ai9];rw[Aha hk,cond_true,if_pos (Aph hi),if_pos (Aph hk2),if_pos (Aph hi),h4];unfold A2e;cases (gt w.fQ (i:Int)).As != 0<;>cases (gt w.fQ (k:Int)).As==(gt w.fQ (i:Int)).As<;>cases (gt w.fQ i).Af.all _<;>rfl
  ·show Ai9 K i _ _ _ _ _ _ _ _ _ _ _ _ v17 v18 _ (m+1) _ _=_;rw[Ai9,Ai2 (Z9 _),cond_false,Agw (by omega)]
 rw[Abq,Aha hi,cond_true,if_pos (Aph hi),if_pos (Aph hi),hJ,hJ]
 have e1:Aqc .i64 v1 ((gt w.fQ i).Af.length:Int)=v1+((gt w.fQ i).Af.length:Int):=by unfold Aqc;rw[Abf (by omega) (by omega)]
 rw[e1,Bbs h2.1 (by omega)]
 by_cases g:(gt w.fQ i).As=0
 ·rw[if_pos g,g];simp
 ·rw[if_neg g,Aue g];simp
theorem Bda (w:Es)(hw:Avx w)(hp:Ax0 w.fC w.fP=true)(hL:(w.fL.length:Int)=w.fC.Db)(hall: ∀x∈w.fQ,Ar0 w x=true):Aup K w=some (A5r w):=by
 obtain⟨hc,hm,hst,_⟩:=Av5 hp;obtain⟨b1,b2,b3,_⟩:=Ap hc
 have hq:=hw.q.2
 have hc12: ∀x∈w.fQ,x.Af.length≤12:=fun x hx=>by
  have:=hall x hx;unfold Ar0 at this;simp only[Z4]at this;obtain⟨hc,_,_,hd,_⟩:=Ath this.1;exact Awz hc hd
 have h3:=Bgk hK w.fL (by omega) w.fQ
 unfold Aup
 have:=Bbr hK (List.range w.fQ.length) (by simp;omega) (fun i=>(List.range i).all (fun k=>A2e w.fQ i k)) (Agd K ((chL w.fQ).length:Int) ((slL w.fQ).length:Int) (kdL w.fL w.fQ) w.fP.Gl w.fP.Ja w.fP.Gm w.fL K 0 0) (some false)
  (fun n i=>Abq K n ((chL (w.fQ.take i)).length:Int) ((slL (w.fQ.take i)).length:Int) (kdL w.fL (w.fQ.take i)) (i:Int) w.fC.Af w.fC.Ez w.fC.Db w.fC.Fv w.fC.Dc w.fC.E0 w.fP.Gl w.fP.Ja w.fP.Gm w.fL w.fQ w.Rl) (fun n i h=> ?_) (fun n=> ?_)
 ·rw[List.take_zero,show chL []=[] from rfl,show slL []=[] from rfl,show kdL w.fL []=[] from rfl]at this
  refine Eq.trans this ?_;rw[Bfd hK w hw _ _ _ (by omega),Arb]
  rfl
 ·have hi:i<w.fQ.length:=by simpa using h
  have hb1:(chL (w.fQ.take i)).length≤(w.fQ.take i).length*12:=A7x _ _ 12 fun x hx=>hc12 x (Z42 hx)
  have hb2:=Brq hK (w.fQ.take i)
  have hb3:=Bgk hK w.fL (by omega) (w.fQ.take i)
  rw[List.length_take]at hb1 hb2 hb3;simp only[List.getElem_range];rw[Bc9 hK w hw i n hi _ _ _ ⟨by omega,by omega⟩ ⟨by omega,by omega⟩ (by omega) (hc12 _ (Arz hi))]
  unfold chL slL kdL;rw[A4r _ _ _ hi,A4r _ _ _ hi,A4r _ _ _ hi,Abh hi,Kr,Kr];rfl
 ·rw[List.length_range,List.take_length,Abq,Ai2 (Z9 _),cond_false]
end
def Bbu (w:Es):Bool:=
 Ax0 w.fC w.fP&&(((w.fL.length:Int)==w.fC.Db)&&((List.range w.fL.length).all (Bc4 w)&&(A9b w.fL&&((w.fQ.all (Ar0 w)&&Ayi w w.fC.Af.toNat)&&w.Rl.all (fun x=>inB x 0 255)))))
section
variable {K:Nat} (hK:281474976710656≤K)
include hK
theorem Ayj (w:Es)(hw:Avx w):Ary K w=some (Bbu w):=by
 have hl:=A25 hK hw.log
 have hl2:=Ak8 hw.l
 have hq:=hw.q.2;unfold Ary Bbu;rw[A41 hK,Z0];cases hp:Ax0 w.fC w.fP with
 |false=>rfl
 |true=>
 rw[cond_true,Z30];cases hL:(w.fL.length:Int)==w.fC.Db with
 |false=>rw[bne,hL];rfl
 |true=>
 rw[bne,hL,Bool.not_true,cond_false,Z30,Bc7 hK hw.l,Z0,Age];rw[beq_iff_eq]at hL
 have e1:Fa.mk w.fC.Af w.fC.Ez w.fC.Db w.fC.Fv w.fC.Dc w.fC.E0=w.fC:=rfl
 have e2:Es.mk (Fa.mk w.fC.Af w.fC.Ez w.fC.Db w.fC.Fv w.fC.Dc w.fC.E0) (Eb.mk w.fP.Gl w.fP.Ja w.fP.Gm) w.fL w.fQ w.Rl=w:=rfl
 have h3:w.fQ.all (Ar0 w)=true->Anh K w.fC.Af w.fC.Ez w.fC.Db w.fC.Fv w.fC.Dc w.fC.E0 w.fP.Gl w.fP.Ja w.fP.Gm w.fL w.fQ w.Rl K 0=some (w.Rl.all (fun x=>inB x 0 255)&&Ayi w w.fC.Af.toNat):=by
  intro hall;rw[Z1]at hall;rw[Byg hp hL hall];rw[Aty hK w.Rl (by omega) (fun x=>inB x 0 255) (some (A5r w)) (Anh K w.fC.Af w.fC.Ez w.fC.Db w.fC.Fv w.fC.Dc w.fC.E0 w.fP.Gl w.fP.Ja w.fP.Gm w.fL w.fQ w.Rl) (fun n i h=> ?_) (fun n=> ?_)]
  ·rw[Arb]
  ·rw[Anh,Aha h,cond_true,if_pos (Aph h),Api,Agw (by omega),Z0,Age,Abh h]
  ·rw[Anh,Ai2 (Z9 _),cond_false,e2,Bda hK w hw hp hL hall,Z0]
 have h2:Apr K w.fC.Af w.fC.Ez w.fC.Db w.fC.Fv w.fC.Dc w.fC.E0 w.fP.Gl w.fP.Ja w.fP.Gm w.fL w.fQ w.Rl K 0=some (w.fQ.all (Ar0 w)&&(w.Rl.all (fun x=>inB x 0 255)&&Ayi w w.fC.Af.toNat)):=by
  rw[Aty hK w.fQ (by omega) (Ar0 w) (Anh K w.fC.Af w.fC.Ez w.fC.Db w.fC.Fv w.fC.Dc w.fC.E0 w.fP.Gl w.fP.Ja w.fP.Gm w.fL w.fQ w.Rl K 0) (Apr K w.fC.Af w.fC.Ez w.fC.Db w.fC.Fv w.fC.Dc w.fC.E0 w.fP.Gl w.fP.Ja w.fP.Gm w.fL w.fQ w.Rl) (fun n i h=> ?_) (fun n=> ?_)]
  ·cases hall:w.fQ.all (Ar0 w)with
   |false=>rfl
   |true=>rw[cond_true,h3 hall];rfl
  ·rw[Apr,Aha h,cond_true,e2,A81 hK w hw hp hL i h,Agw (by omega),Z0,Age,Abh h]
  ·rw[Apr,Ai2 (Z9 _),cond_false]
 have h1:Ani K K 0 w.fC.Af w.fC.Ez w.fC.Db w.fC.Fv w.fC.Dc w.fC.E0 w.fP.Gl w.fP.Ja w.fP.Gm w.fL w.fQ w.Rl=some ((List.range w.fL.length).all (Bc4 w)&&(w.fQ.all (Ar0 w)&&(w.Rl.all (fun x=>inB x 0 255)&&Ayi w w.fC.Af.toNat))):=by
  rw[Auf hK w.fL.length (by omega) (Bc4 w) (some (w.fQ.all (Ar0 w)&&(w.Rl.all (fun x=>inB x 0 255)&&Ayi w w.fC.Af.toNat))) (fun n i=>Ani K n i w.fC.Af w.fC.Ez w.fC.Db w.fC.Fv w.fC.Dc w.fC.E0 w.fP.Gl w.fP.Ja w.fP.Gm w.fL w.fQ w.Rl) (fun n k hk=> ?_) (fun n=> ?_)]
  ·rw[Arb]
  ·simp only[Ani];rw[e2,e1]
   have hn:=hw.l.1 _ (Arz hk)
   have l1:=A25 hK hn.chunks
   have l2:=Bmv hK hn.things
   have l3:=A25 hK hn.tags;rw[Aha hk,cond_true,if_pos (Aph hk),Av6 hK _ _ l1 l2 l3,Z0,A7s hK w k hk hw.p.st.2 l1,Agw (by omega),A8y hK _ _ l1 l2]
   simp only[Z0];unfold Bc4;cases hb:Aso w.fC (gt w.fL k)with
   |false=>rfl
   |true=>
   cases A1p w.fP k (gt w.fL k).Af with
   |false=>rfl
   |true=>
   cases hi:(gt w.fL k).Er.all (Ar5 w.fC (gt w.fL k).Af)with
   |false=>simp only[cond_true,Z30,Bool.false_and,cond_false,if_pos (Aph hk)]
   |true=>
   have hs:=Be4 hi;rw[A8v hK _ l2 (fun t ht=>(hs t ht).1),Be5 hK w k hk hp hn hb hs];simp only[Z0,cond_true,Age,Z30,if_pos (Aph hk)];cases Ank (gt w.fL k).Er<;>cases Asm w.fC w.fP.Gl (gt w.fL k)<;>rfl
  ·show Ani K (n+1) _ _ _ _ _ _ _ _ _ _ _ _ _=_;rw[Ani,Ai2 (Z9 _),cond_false,h2]
 rw[h1];cases A9b w.fL with
 |false=>rw[cond_false];simp
 |true=>
  simp only[cond_true,Z30,Z7]
  ac_rfl
end
theorem Bm0{n:Nat}(h:n≤reachBytes):n≤140737488355327:=by simp only[reachBytes]at h;omega
section
variable {K:Nat} (hK:281474976710656≤K)
include hK
end
theorem B3p{x:Int}(h:Bcy x):0≤x∧x≤255:=by
 simpa[Bcy,Lit.wf,IntKind.min,IntKind.max,IntKind.signed,IntKind.bits]using h
theorem Big{l:List Int}(h:Bbh l):Bmu l:=⟨fun x hx=>B3p (h.1 x hx),by have:=Bm0 h.2.1;omega⟩
def K0:Nat:=281474976710656
theorem B5d{α:Type}(l:List α)(i:Nat)(x y:α):(l.set i x).set i y=l.set i y:=List.set_set ..
section
variable {K:Nat} (hK:281474976710656≤K)
include hK
def one{α:Type}(_:α):Nat:=1
def Ayy (x:Bg):Nat:=10+x.Af.length+3*x.Er.length+x.Dt.length
def Bfe (p:Eb):Nat:=p.Gl.length+p.Ja.length+p.Gm.length
end
section
variable {K:Nat} (hK:281474976710656≤K)
include hK
theorem Bgl{α β:Type}(l:List α)(hl:l.length≤140737488355327)(fin:Option β)(L:Nat->List α->Int->Option β)
  (hs: ∀n v (i:Nat) (h:i<l.length),v.length=i->L (n+1) v (i:Int)=L n (v++[l[i]]) ((i+1:Nat):Int))
  (he: ∀n,L (n+1) l (l.length:Int)=fin):L K [] 0=fin:=by
 have:=Bbr hK l (by omega) (fun _=>true) fin none (fun n i=>L n (l.take i) (i:Int)) (fun n i h=>by
  rw[hs n _ i h (by simp;omega),List.take_append_getElem];rfl) (fun n=>by rw[List.take_length];exact he n)
 rw[Z1.2 (fun _ _=>rfl)]at this;simpa using this
omit hK in
theorem Azj (K:Nat){p:Eb}(w:A03 p):Arg K p=some p:=by
 have hm:=Abn
 have h1:=w.mem.2
 have h2:=w.st.2
 have h3:=w.own.2;unfold Arg;simp only[Z38];rw[if_pos ⟨by omega,by omega⟩,if_pos ⟨by omega,by omega⟩,if_pos ⟨by omega,by omega⟩]
omit hK in
theorem Av8 (K:Nat){n:Bg}(w:Ato n):Alb K n=some n:=by
 have hm:=Abn
 have h1:=w.chunks.2
 have h2:=w.things.2
 have h3:=w.tags.2;unfold Alb;simp only[Z38];rw[if_pos ⟨by omega,by omega⟩,if_pos ⟨by omega,by omega⟩,if_pos ⟨by omega,by omega⟩]
theorem A0k{l:List Bg}(w:Ai4 l):Atd K l=some l:=by
 have hm:=Abn
 have h2:=w.2;unfold Atd;refine Bgl hK l (Ak8 w) (some l) (fun n v i=>Arr K l n v i) (fun n v i h hv=> ?_) (fun n=> ?_)
 ·have hl:(v++[l[i]]).length=i+1:=by simp[hv]
  simp only[Arr];rw[Aha h,cond_true,if_pos (Aph h),Abh h,Av8 K (w.1 _ (List.getElem_mem h)),Z0,if_pos ⟨by rw[hl];omega,by rw[hl];omega⟩,Agw (by omega)]
 ·show Arr K l (n+1) _ _=_;rw[Arr,Ai2 (Z9 _),cond_false]
omit hK in
theorem Bbv (K:Nat){x:A3}(w:Bbm x):Awo K x=some x:=by
 have hm:=Abn
 have h1:=w.tags.2
 have h2:=w.chunks.2;unfold Awo;simp only[Z38];rw[if_pos ⟨by omega,by omega⟩,if_pos ⟨by omega,by omega⟩]
theorem Aw1{w:Es}(hw:Avx w):Ap2 K w=some w:=by
 have hm:=Abn
 have h2:=hw.q.2
 have h3:=hw.log.2;unfold Ap2;rw[Azj K hw.p,Z0,A0k hK hw.l,Z0]
 refine Bgl hK w.fQ (by omega) (some w) (fun n v i=>App K n i w.fC.Af w.fC.Ez w.fC.Db w.fC.Fv w.fC.Dc w.fC.E0 w.fP.Gl w.fP.Ja w.fP.Gm w.fL v w.Rl (Es.mk (Fa.mk 0 0 0 0 0 0) (Eb.mk [] [] []) [] [] []) w.fC.Af w.fC.Ez w.fC.Db w.fC.Fv w.fC.Dc w.fC.E0 w.fP.Gl w.fP.Ja w.fP.Gm w.fL w.fQ w.Rl) (fun n v i h hv=> ?_) (fun n=> ?_)
 ·have hl:(v++[w.fQ[i]]).length=i+1:=by simp[hv]
  simp only[App];rw[Aha h,cond_true,if_pos (Aph h),Abh h,Bbv K (hw.q.1 _ (List.getElem_mem h)),Z0,if_pos ⟨by rw[hl];omega,by rw[hl];omega⟩,Agw (by omega)]
 ·show App K (n+1) _ _ _ _ _ _ _ _ _ _ _ _ _ _ _ _ _ _ _ _ _ _ _ _ _ _=_;rw[App,Ai2 (Z9 _),cond_false];simp only[Z38];rw[if_pos ⟨by omega,by omega⟩]
end
def Bm1 (mem:List Int)(p n:Int):List Int×Bool:=if 0≤p∧0≤n∧p+n≤(mem.length:Int)then((mem.drop p.toNat).take n.toNat,true)else([],false)
theorem Brr{mem:List Int}(a b:Nat):((mem.drop a).take b).length≤mem.length:=by simp;omega
theorem Bdb (K:Nat){mem:List Int}(hl:mem.length≤140737488355327)(p n:Int):Aub K mem p n=some (decide (0≤p∧0≤n∧p+n≤(mem.length:Int))):=by
 unfold Aub
 by_cases h1:(0:Int)≤p
 ·rw[decide_eq_true (show p≥0 from h1)]
  by_cases h2:(0:Int)≤n
  ·rw[decide_eq_true (show n≥0 from h2)]
   by_cases h3:p≤(mem.length:Int)
   ·rw[decide_eq_true h3];simp only[cond_true,Z7,decide_eq_decide];unfold Aqd;rw[Abf (by omega) (by omega)]
    omega
   ·rw[decide_eq_false h3];simp only[cond_true,cond_false,Z7];exact(decide_eq_false (by omega)).symm
  ·rw[decide_eq_false (show ¬n≥0 from h2)]
   simp only[cond_true,cond_false,Z7];exact(decide_eq_false (by omega)).symm
 ·rw[decide_eq_false (show ¬p≥0 from h1)]
  simp only[cond_false,Z7];exact(decide_eq_false (by omega)).symm
theorem Bff (K:Nat){mem:List Int}(hl:mem.length≤140737488355327)(p n:Int):Aya K mem p n=some (Bm1 mem p n):=by
 unfold Aya Bm1;rw[Bdb K hl];simp only[Z0]
 by_cases h:0≤p∧0≤n∧p+n≤(mem.length:Int)
 ·rw[decide_eq_true h,if_pos h]
  try simp only[cond_true]
  have e:Aqc .i64 p n=p+n:=by unfold Aqc;rw[Abf (by omega) (by omega)]
  have hc:=Brr (mem:=mem) p.toNat (p+n - p).toNat;rw[e,if_pos ⟨by omega,by omega,by omega⟩,if_pos ⟨by simp only[Z38,Nat.mul_one];omega,by simp only[Z38,maxLen];omega⟩]
  rw[show p+n - p=n from by omega]
  rfl
 ·rw[decide_eq_false h,if_neg h];rfl
def Bm2 (mem:List Int)(t:Bf)(at_ n:Int):List Int×Bool:=if 0≤at_∧0≤n∧at_+n≤t.Xf then Bm1 mem (Aqc .i64 t.fAt at_) n else([],false)
theorem Bm3{mem:List Int}{p n:Int}(h:p<0):Bm1 mem p n=([],false):=by unfold Bm1;rw[if_neg (by omega)]
theorem A7z (K:Nat){mem:List Int}(hl:mem.length≤140737488355327){t:Bf}(wt:Bbk t)(at_ n:Int):Aus K mem t at_ n=some (Bm2 mem t at_ n):=by
 obtain⟨wl1,wl2⟩:=wt.2.1;unfold Aus Aws Bm2
 by_cases h1:(0:Int)≤at_
 ·rw[decide_eq_true (show at_≥0 from h1)]
  by_cases h2:(0:Int)≤n
  ·rw[decide_eq_true (show n≥0 from h2)]
   by_cases h3:at_≤t.Xf
   ·rw[decide_eq_true h3]
    have e:Aqd .i64 t.Xf at_=t.Xf - at_:=by unfold Aqd;rw[Abf (by omega) (by omega)]
    rw[e]
    by_cases h4:n≤t.Xf - at_
    ·rw[decide_eq_true h4,if_pos ⟨h1,h2,by omega⟩]
     simp only[cond_true,Bff K hl];cases decide (t.fAt<0)with
     |true=>rfl
     |false=>
      by_cases h5:(0:Int)≤Aqc .i64 t.fAt at_
      ·rw[decide_eq_true (show Aqc .i64 t.fAt at_≥0 from h5)];rfl
      ·rw[decide_eq_false (show ¬Aqc .i64 t.fAt at_≥0 from h5),Bm3 (by omega)];rfl
    ·rw[decide_eq_false h4,if_neg (by omega)];rfl
   ·rw[decide_eq_false h3,if_neg (by omega)];rfl
  ·rw[decide_eq_false (show ¬n≥0 from h2),if_neg (by omega)];rfl
 ·rw[decide_eq_false (show ¬at_≥0 from h1),if_neg (by omega)];rfl
def Bdc (w:Es)(h:Ca):Int:=((Ak5 w.fL w.fL.length (Atg w.fL h)).length:Int)
theorem Bfg{l:List Bg}(hl:l.length≤140737488355327)(h:Ca):wfi (Atg l h):=by
 by_cases h0:Atg l h<0
 ·unfold Atg at *;split at h0
  ·rename_i h1;rw[if_pos h1]at *;obtain⟨⟨a,b⟩,_⟩:=h1;exact⟨by omega,by omega⟩
  ·rename_i h1;rw[if_neg h1];exact⟨by omega,by omega⟩
 ·have:=A4m h0;exact⟨by omega,by omega⟩
section
variable {K:Nat} (hK:281474976710656≤K)
include hK
theorem Axa (w:Es)(hw:Ai4 w.fL)(h:Ca):An4 K w h=some (Bdc w h):=by
 have hl:=Ak8 hw;unfold An4 Au1;rw[A26 K hl,Z0,A0i hK hw _ (Bfg hl h)];rfl
end
section
variable {β:Type} [Inhabited β]
end
section
variable {K:Nat} (hK:281474976710656≤K)
include hK
end
section
variable {K:Nat} (hK:281474976710656≤K)
include hK
end
theorem Bgm{β:Type}(f:β->Nat): ∀(l:List β) (i:Nat) (h:i<l.length) (x:β),((l.set i x).map f).sum+f l[i]=(l.map f).sum+f x
 |[],i,h,x=>by simp at h
 |y::l,0,h,x=>by simp;omega
 |y::l,i+1,h,x=>by
  have:=Bgm f l i (by simpa using h) x
  simp only[List.set_cons_succ,Z8,List.sum_cons,List.getElem_cons_succ]at this ⊢;omega
theorem A0l{l:List Bg}(hl:Ai4 l)(i:Nat){x:Bg}(hx:Ato x):Ai4 (l.set i x):=
 ⟨fun y hy=>(Z54 hy).elim (hl.1 y) (fun e=>e ▸ hx),by rw[Z49];exact hl.2⟩
def A0m (p:Eb)(k:Int):Eb:=if(0≤k∧k<(p.Ja.length:Int)∧k<(p.Gm.length:Int))∧gt p.Ja k=1 then Eb.mk p.Gl (p.Ja.set k.toNat 2) (p.Gm.set k.toNat (-1))else p
theorem Bgn{p:Eb}(hp:A03 p)(k:Int):A03 (A0m p k)∧Bfe (A0m p k)=Bfe p:=by
 unfold A0m;split
 ·refine⟨⟨hp.mem,⟨fun x hx=> ?_,by rw[Z49];exact hp.st.2⟩,⟨fun x hx=> ?_,by rw[Z49];exact hp.own.2⟩⟩,by simp[Bfe]⟩
  ·rcases Z54 hx with h|h
   ·exact hp.st.1 x h
   ·subst h;exact⟨by omega,by omega⟩
  ·rcases Z54 hx with h|h
   ·exact hp.own.1 x h
   ·subst h;exact⟨by omega,by omega⟩
 ·exact⟨hp,rfl⟩
theorem A70 (K:Nat){p:Eb}(hp:A03 p)(k:Int):Ax5 K p k=some (A0m p k):=by
 have h1:=hp.st.2;unfold Ax5 Asz A0m;rw[Azj K hp,Z0,A04 K (by omega),Z0]
 by_cases hs:0≤k∧k<(p.Ja.length:Int)
 ·rw[decide_eq_true hs,cond_true]
  by_cases ho:k<(p.Gm.length:Int)
  ·rw[decide_eq_true ho,cond_true,if_pos hs,if_pos hs,if_pos ⟨hs.1,ho⟩]
   by_cases h:gt p.Ja k=1
   ·rw[if_pos ⟨⟨hs.1,hs.2,ho⟩,h⟩,h];rfl
   ·rw[if_neg (show ¬((0≤k∧k<(p.Ja.length:Int)∧k<(p.Gm.length:Int))∧gt p.Ja k=1) from fun x=>h x.2),Aky h];rfl
  ·rw[decide_eq_false ho,if_neg (show ¬((0≤k∧k<(p.Ja.length:Int)∧k<(p.Gm.length:Int))∧gt p.Ja k=1) from fun x=>ho x.1.2.2)];rfl
 ·rw[decide_eq_false hs,if_neg (show ¬((0≤k∧k<(p.Ja.length:Int)∧k<(p.Gm.length:Int))∧gt p.Ja k=1) from fun x=>hs ⟨x.1.1,x.1.2.1⟩)];rfl
def Ahf (p:Eb)(l:List Int):Eb:=l.foldl A0m p
theorem Bgo{α σ β:Type}{K:Nat}(hK:281474976710656≤K)(l:List α)(hl:l.length≤140737488355327)(f:σ->α->σ)(s0:σ)(I:σ->Prop)(hI:I s0)(hf: ∀s x,I s->I (f s x))(fin:Option β)(L:Nat->σ->Int->Option β)
  (hs: ∀n s (i:Nat) (h:i<l.length),I s->L (n+1) s (i:Int)=L n (f s l[i]) ((i+1:Nat):Int))
  (he: ∀n,L (n+1) (l.foldl f s0) (l.length:Int)=fin):L K s0 0=fin:=by
 have key: ∀(n i:Nat) (s:σ),I s->i≤l.length->l.length - i<n->(l.drop i).foldl f s=l.foldl f s0->L n s (i:Int)=fin:=by
  intro n
  induction n with
  |zero=>intro i s _ _ h;omega
  |succ n ih=>
   intro i s hIs hi hn hd;rcases Ge i l.length with h|h
   ·rw[hs n s i h hIs];refine ih (i+1) _ (hf _ _ hIs) h (by omega) ?_
    rw[Z47 h,List.foldl_cons]at hd;exact hd
   ·obtain rfl:i=l.length:=by omega
    rw[List.drop_length]at hd;simp only[List.foldl_nil]at hd;rw[hd];exact he n
 exact key K 0 s0 hI (Z21 _) (by omega) rfl
def Aje (n:Bg)(slot:Int):A3:=A3.mk slot n.B5 n.Dt n.Af 0
def Aw2 (n:Bg):Bg:=Bg.mk n.Ja n.Bz (Aqc .i64 n.Js 1) n.fUp n.Hf 0 n.Hg n.Hh [] 0 0 [] []
theorem A27 (K:Nat){n:Bg}(hn:Ato n)(s:Int):At4 K n s=some (Aje n s):=by
 have hm:=Abn
 have h1:=hn.tags.2
 have h2:=hn.chunks.2;unfold At4;simp only[Z38];rw[if_pos ⟨by omega,by omega⟩,if_pos ⟨by omega,by omega⟩];rfl
theorem Bbw (K:Nat){n:Bg}(hn:Ato n):Awn K n=some (Aw2 n):=by
 unfold Awn;rw[Av8 K hn];rfl
theorem A2f:wfi 0:=⟨by decide,by decide⟩
theorem A4t:A1y []:=⟨(fun x hx=>by cases hx),(by simp)⟩
theorem A45:Bbl []:=⟨(fun x hx=>by cases hx),(by simp)⟩
def Ayz (w:Es)(k:Int):Es:=Es.mk w.fC (Ahf w.fP (gt w.fL k).Af) (w.fL.set k.toNat (Aw2 (gt w.fL k))) (w.fQ++[Aje (gt w.fL k) 0]) w.Rl
section
variable {K:Nat} (hK:281474976710656≤K)
include hK
theorem A46 (w:Es)(hw:Avx w)(l:List Int)(hl:l.length≤140737488355327):Arh K w l=some (Es.mk w.fC (Ahf w.fP l) w.fL w.fQ w.Rl):=by
 unfold Arh;refine Bgo hK l (by omega) A0m w.fP A03 hw.p (fun s x h=>(Bgn h x).1) _ (fun n s i=>Agi K l n i w.fC.Af w.fC.Ez w.fC.Db w.fC.Fv w.fC.Dc w.fC.E0 s.Gl s.Ja s.Gm w.fL w.fQ w.Rl) (fun n s i h hs=> ?_) (fun n=> ?_)
 ·simp only[Agi];rw[Aha h,cond_true,if_pos (Aph h),Abh h,show Eb.mk s.Gl s.Ja s.Gm=s from rfl,A70 K hs,Z0,Agw (by omega)]
 ·show Agi K l (n+1) _ _ _ _ _ _ _ _ _ _ _ _ _=_;rw[Agi,Ai2 (Z9 _),cond_false];rfl
theorem Bbx (w:Es)(hw:Avx w)(hQ:w.fQ.length≤140737488355){k:Int}(hk:0≤k∧k<(w.fL.length:Int)):Att K w k=some (Ayz w k):=by
 have hm:=Abn
 have hn:=hw.l.1 _ (Aqx hk.1 hk.2);unfold Att;rw[if_pos hk,A27 K hn,Z0,if_pos hk,A46 hK w hw _ (A25 hK hn.chunks),Z0];simp only;rw[if_pos hk,Bbw K hn,Z0,if_pos hk,if_pos ⟨by simp;omega,by simp;omega⟩]
 rfl
end
def Bve (n:Bg)(v:Int):Bg:=Bg.mk n.Ja n.Bz n.Js n.fUp n.Hf n.B5 v n.Hh n.Af n.Rk n.Hi n.Er n.Dt
def Bm4 (n:Bg)(v:Int):Bg:=Bg.mk n.Ja n.Bz n.Js n.fUp n.Hf n.B5 n.Hg v n.Af n.Rk n.Hi n.Er n.Dt
def Bm5 (n:Bg)(v:Int):Bg:=Bg.mk n.Ja n.Bz n.Js n.fUp n.Hf v n.Hg n.Hh n.Af n.Rk n.Hi n.Er n.Dt
def Brs (n:Bg):Bg:=Bg.mk n.Ja n.Bz n.Js 0 0 n.B5 0 0 n.Af n.Rk n.Hi n.Er n.Dt
theorem Ayk{l:List Bg}{k:Int}(hk:0≤k∧k<(l.length:Int))(x:Bg):gt (l.set k.toNat x) k=x:=by
 have hlt:k.toNat<(l.set k.toNat x).length:=by simp;omega
 have e:gt (l.set k.toNat x) ((k.toNat:Nat):Int)=x:=by rw[Abh hlt];simp
 rwa[show((k.toNat:Nat):Int)=k by omega]at e
theorem Ayl{l:List Bg}{j k:Int}(hj:0≤j)(hk:0≤k∧k<(l.length:Int))(h:j≠k)(x:Bg):gt (l.set j.toNat x) k=gt l k:=by
 have h1:k.toNat<(l.set j.toNat x).length:=by simp;omega
 have h2:k.toNat<l.length:=by omega
 have e1:gt (l.set j.toNat x) ((k.toNat:Nat):Int)=gt l ((k.toNat:Nat):Int):=by
  rw[Abh h1,Abh h2,List.getElem_set,if_neg (by omega)]
 rwa[show((k.toNat:Nat):Int)=k by omega]at e1
theorem A28 (K:Nat){l:List Bg}{k:Int}(hk:0≤k∧k<(l.length:Int)):Atl K k l=some (l.set k.toNat (Brs (gt l k))):=by
 unfold Atl;rw[if_pos hk];simp only[Asn,Z49,Ayk hk,B5d,if_pos hk];rfl
def A4u (l0 l:List Bg)(k nx pv:Int):List Bg:=bif plB l0 nx then l.set (Aqd .i64 nx 1).toNat (Bm4 (gt l (Aqd .i64 nx 1)) pv)else l
def A2g (l0 l:List Bg)(k nx pv:Int):List Bg:=(A4u l0 l k nx pv).set k.toNat (Brs (gt (A4u l0 l k nx pv) k))
theorem A09 (l0 l:List Bg)(k nx pv:Int):(A4u l0 l k nx pv).length=l.length:=by
 unfold A4u;cases plB l0 nx<;>simp
theorem Aw3 (K:Nat){l0 l:List Bg}(hl:l0.length≤140737488355327)(he:l.length=l0.length){k:Int}(hk:0≤k∧k<(l0.length:Int))(a b c d e f nx pv:Int)(g:List Int)(h i:Int)(t:List Bf)(u:List Int)(hx:wfi nx):Asb K l0 k l a b c d e f nx pv g h i t u=some (A2g l0 l k nx pv):=by
 unfold Asb A2g A4u;rw[Auh K hl hx,Z0];cases hp:plB l0 nx with
 |false=>rw[cond_false,cond_false,A28 K (by rw[he];exact hk)]
 |true=>
  have:=Azt hp;rw[cond_true,cond_true,if_pos (by rw[he];exact this)]
  simp only[Asn];rw[A28 K (by rw[Z49,he];exact hk)]
  rfl
def A29 (l:List Bg)(k:Int):List Bg:=
 bif plB l (gt l k).Hh then l.set (Aqd .i64 (gt l k).Hh 1).toNat (Bve (gt l (Aqd .i64 (gt l k).Hh 1)) (gt l k).Hg)
 else bif (gt l k).Hh==0&&(plB l (gt l k).fUp&&(gt l (Aqd .i64 (gt l k).fUp 1)).B5==Aqc .i64 k 1)then l.set (Aqd .i64 (gt l k).fUp 1).toNat (Bm5 (gt l (Aqd .i64 (gt l k).fUp 1)) (gt l k).Hg)
 else l
def Aqy (l:List Bg)(k:Int):List Bg:=A2g l (A29 l k) k (gt l k).Hg (gt l k).Hh
theorem Az3 (l:List Bg)(k:Int):(A29 l k).length=l.length:=by
 unfold A29;cases plB l (gt l k).Hh<;>cases ((gt l k).Hh==0&&(plB l (gt l k).fUp&&(gt l (Aqd .i64 (gt l k).fUp 1)).B5==Aqc .i64 k 1))<;>simp
section
variable {K:Nat} (hK:281474976710656≤K)
include hK
theorem Bdd{l:List Bg}(w:Ai4 l){k:Int}(hk:0≤k∧k<(l.length:Int)):Axg K l k=some (Aqy l k):=by
 have hl:=Ak8 w
 have hn:=w.1 _ (Aqx hk.1 hk.2)
 have e1:Aqd .i64 (Aqc .i64 k 1) 1=k:=by unfold Aqd Aqc;rw[Abf (n:=k+1) (by omega) (by omega),Abf (by omega) (by omega)];omega
 have hpk:plB l (Aqc .i64 k 1)=true:=by unfold plB;rw[e1];exact decide_eq_true hk
 have hwk:wfi (Aqc .i64 k 1):=Bms _;unfold Axg Aqy;rw[A0k hK w,Z0,Auh K hl hwk,Z0,hpk,Bool.not_true,cond_false,if_pos hk,Auh K hl hn.prev,Z0];unfold A29;cases hp:plB l (gt l k).Hh with
 |true=>
  have:=Azt hp;rw[cond_true,cond_true,if_pos this];simp only[Asn];rw[Aw3 K hl (by rw[Z49]) hk _ _ _ _ _ _ _ _ _ _ _ _ _ hn.next]
  rfl
 |false=>
  rw[cond_false,cond_false];cases h0:(gt l k).Hh==0 with
  |false=>
   simp only[cond_false,Bool.false_and,Aq4];rw[Aw3 K hl rfl hk _ _ _ _ _ _ _ _ _ _ _ _ _ hn.next]
  |true=>
   rw[cond_true,Auh K hl hn.up,Z0];cases hu:plB l (gt l k).fUp with
   |false=>
    simp only[cond_false,Bool.false_and,Bool.and_false,Aq4];rw[Aw3 K hl rfl hk _ _ _ _ _ _ _ _ _ _ _ _ _ hn.next]
   |true=>
    have hui:=Azt hu;rw[cond_true,if_pos hui];simp only[Z30,Aq4];cases (gt l (Aqd .i64 (gt l k).fUp 1)).B5==Aqc .i64 k 1 with
    |false=>
     simp only[cond_false];rw[Aw3 K hl rfl hk _ _ _ _ _ _ _ _ _ _ _ _ _ hn.next]
    |true=>
     simp only[cond_true,if_pos hui,Asn];rw[Aw3 K hl (by rw[Z49]) hk _ _ _ _ _ _ _ _ _ _ _ _ _ hn.next]
     rfl
end
def B3q (n:Bg):Bg:=Bg.mk 2 n.Bz 0 0 0 0 0 0 [] 0 0 [] []
theorem Brt{n:Bg}(hn:Ato n){v:Int}(hv:wfi v):Ato (Bve n v):=⟨hn.st,hn.gen,hn.ep,hn.up,hn.upEp,hn.first,hv,hn.prev,hn.chunks,hn.cur,hn.bump,hn.things,hn.tags⟩
theorem Bru{n:Bg}(hn:Ato n){v:Int}(hv:wfi v):Ato (Bm4 n v):=⟨hn.st,hn.gen,hn.ep,hn.up,hn.upEp,hn.first,hn.next,hv,hn.chunks,hn.cur,hn.bump,hn.things,hn.tags⟩
theorem Bm6{n:Bg}(hn:Ato n){v:Int}(hv:wfi v):Ato (Bm5 n v):=⟨hn.st,hn.gen,hn.ep,hn.up,hn.upEp,hv,hn.next,hn.prev,hn.chunks,hn.cur,hn.bump,hn.things,hn.tags⟩
theorem Byh{n:Bg}(hn:Ato n):Ato (Brs n):=by
 have z:wfi 0:=⟨by decide,by decide⟩
 exact⟨hn.st,hn.gen,hn.ep,z,z,hn.first,z,z,hn.chunks,hn.cur,hn.bump,hn.things,hn.tags⟩
theorem A1q{l:List Bg}{k:Int}(hk:0≤k∧k<(l.length:Int)){x:Bg}(h:Ayy x=Ayy (gt l k)):((l.set k.toNat x).map Ayy).sum=(l.map Ayy).sum:=by
 have hlt:k.toNat<l.length:=by omega
 have:=Bgm Ayy l k.toNat hlt x
 have e:l[k.toNat]=gt l k:=by rw[←Abh hlt,show((k.toNat:Nat):Int)=k by omega]
 rw[e]at this;omega
theorem Byi{l:List Bg}(w:Ai4 l){k:Int}(hk:0≤k∧k<(l.length:Int)):Ai4 (A29 l k)∧((A29 l k).map Ayy).sum=(l.map Ayy).sum:=by
 have hn:=w.1 _ (Aqx hk.1 hk.2);unfold A29;cases hp:plB l (gt l k).Hh with
 |true=>
  have hi:=Azt hp;exact⟨A0l w _ (Brt (w.1 _ (Aqx hi.1 hi.2)) hn.next),A1q hi rfl⟩
 |false=>
  rw[cond_false];cases hc:((gt l k).Hh==0&&(plB l (gt l k).fUp&&(gt l (Aqd .i64 (gt l k).fUp 1)).B5==Aqc .i64 k 1))with
  |false=>exact⟨w,rfl⟩
  |true=>
   simp only[Z4]at hc
   have hi:=Azt hc.2.1;exact⟨A0l w _ (Bm6 (w.1 _ (Aqx hi.1 hi.2)) hn.next),A1q hi rfl⟩
theorem Byj{l0 l:List Bg}(w:Ai4 l)(he:l.length=l0.length)(k nx:Int){pv:Int}(hv:wfi pv):Ai4 (A4u l0 l k nx pv)∧((A4u l0 l k nx pv).map Ayy).sum=(l.map Ayy).sum:=by
 unfold A4u;cases hp:plB l0 nx with
 |true=>
  have hi:=Azt hp;rw[←he]at hi;exact⟨A0l w _ (Bru (w.1 _ (Aqx hi.1 hi.2)) hv),A1q hi rfl⟩
 |false=>exact⟨w,rfl⟩
theorem Bih{l:List Bg}(w:Ai4 l){k:Int}(hk:0≤k∧k<(l.length:Int)):Ai4 (Aqy l k)∧((Aqy l k).map Ayy).sum=(l.map Ayy).sum∧(Aqy l k).length=l.length:=by
 have hn:=w.1 _ (Aqx hk.1 hk.2);obtain⟨h1,h2⟩:=Byi w hk
 have h3:=Az3 l k;obtain⟨h4,h5⟩:=Byj h1 h3 k (gt l k).Hg hn.prev
 have h6:=A09 l (A29 l k) k (gt l k).Hg (gt l k).Hh
 have hk':0≤k∧k<((A4u l (A29 l k) k (gt l k).Hg (gt l k).Hh).length:Int):=by rw[h6,h3];exact hk
 unfold Aqy A2g;exact⟨A0l h4 _ (Byh (h4.1 _ (Aqx hk'.1 hk'.2))),(A1q (x:=Brs (gt (A4u l (A29 l k) k (gt l k).Hg (gt l k).Hh) k)) hk' rfl).trans (h5.trans h2),by rw[Z49,h6,h3]⟩
def Axb (w:Es)(k:Int):Es:=Es.mk w.fC (Ahf w.fP (gt w.fL k).Af) ((Aqy w.fL k).set k.toNat (B3q (gt (Aqy w.fL k) k))) (w.fQ++[Aje (gt w.fL k) (Aqc .i64 k 1)]) w.Rl
section
variable {K:Nat} (hK:281474976710656≤K)
include hK
theorem Bfh (w:Es)(hw:Avx w)(hQ:w.fQ.length≤140737488355){k:Int}(hk:0≤k∧k<(w.fL.length:Int)):Avn K w k=some (Axb w k):=by
 have hm:=Abn
 have hn:=hw.l.1 _ (Aqx hk.1 hk.2)
 have hk':0≤k∧k<((Aqy w.fL k).length:Int):=by rw[(Bih hw.l hk).2.2];exact hk
 unfold Avn Axl;rw[if_pos hk,A27 K hn,Z0,if_pos hk,A46 hK w hw _ (A25 hK hn.chunks),Z0];simp only;rw[Bdd hK hw.l hk];simp only[Z0,if_pos hk'];rw[if_pos ⟨by simp;omega,by simp;omega⟩]
 rfl
end
section
variable {K:Nat} (hK:281474976710656≤K)
include hK
end
section
variable {K:Nat} (hK:562949953421312≤K)
include hK
end
structure Lk where
 lv:Bool
 gn:Bool
 ep:Int
 up:Int
 ue:Int
 fi:Int
 nx:Int
 pv:Int
section
variable (N:Int) (t:Int->Lk)
def Lv (k:Int):Prop:=(0≤k∧k<N)∧(t k).lv=true
def Cu (k:Int):Prop:=Lv N t ((t k).up - 1)∧(t ((t k).up - 1)).ep=(t k).ue
def Oo (k:Int):Prop:=Lv N t k∧(t k).up≠0∧ ¬Cu N t k
structure Bm7 (k:Int):Prop where
 first:(t k).fi≠0->Lv N t ((t k).fi - 1)∧(t ((t k).fi - 1)).pv=0∧(t ((t k).fi - 1)).up=k+1∧(t ((t k).fi - 1)).ue=(t k).ep
 next:(t k).nx≠0->Lv N t ((t k).nx - 1)∧(t ((t k).nx - 1)).pv=k+1∧(t ((t k).nx - 1)).up=(t k).up∧(t ((t k).nx - 1)).ue=(t k).ue
 prev:(t k).pv≠0->Lv N t ((t k).pv - 1)∧(t ((t k).pv - 1)).nx=k+1
 up:(t k).up≠0->0≤(t k).up - 1∧(t k).up - 1<N
 top:(t k).pv=0->Cu N t k->(t ((t k).up - 1)).fi=k+1
def Atq:Nat->Int->List Int
 |0,_=>[]
 |n+1,k=>if 0≤k∧k<N then k::Atq n ((t k).nx - 1)else []
def rise:Nat->Int->List Int
 |0,_=>[]
 |n+1,k=>if 0≤k∧k<N then k::rise n ((t k).up - 1)else []
structure Aui:Prop where
 link: ∀k,Lv N t k->Bm7 N t k
 rise: ∀k,Lv N t k->(rise N t N.toNat k).length≤4∧ ∀x,(rise N t N.toNat k).getLast? =some x-> ¬Cu N t x
 bare: ∀k,0≤k->k<N->(t k).lv=false->(t k).up=0∧(t k).fi=0∧(t k).nx=0∧(t k).pv=0
def Wf (r:Int->Nat):Prop:= ∀x,Lv N t x->(t x).pv≠0->r ((t x).pv - 1)<r x
end
section
variable {N:Int} {t:Int->Lk}
theorem A9d (n:Nat)(k:Int):Atq N t (n+1) k=if 0≤k∧k<N then k::Atq N t n ((t k).nx - 1)else []:=rfl
theorem A9e (n:Nat)(k:Int):rise N t (n+1) k=if 0≤k∧k<N then k::rise N t n ((t k).up - 1)else []:=rfl
theorem Oo.lv{k:Int}(h:Oo N t k):Lv N t k:=h.1
theorem Bby: ∀(n:Nat) (k x:Int),x∈Atq N t n k->0≤x∧x<N:=by
 intro n
 induction n with
 |zero=>intro k x h;cases h
 |succ n ih=>
  intro k x h;unfold Atq at h;split at h
  ·rename_i h1;rcases D4.1 h with rfl|h
   ·exact h1
   ·exact ih _ x h
  ·cases h
theorem Av9 (n:Nat):Atq N t n (0 - 1)=[]:=by
 cases n with
 |zero=>rfl
 |succ n=>unfold Atq;rw[if_neg (by omega)]
theorem Bii: ∀(n:Nat) (k:Int),Atq N t n k=(Atq N t (n+1) k).take n:=by
 intro n
 induction n with
 |zero=>intro k;simp[Atq]
 |succ n ih=>
  intro k;rw[A9d,A9d (n+1)];split
  ·rw[ih];simp
  ·simp
theorem Bm8 (T:Aui N t){u e:Int}: ∀(n:Nat) (k:Int),Lv N t k->(t k).up=u->(t k).ue=e-> ∀x∈Atq N t n k,Lv N t x∧(t x).up=u∧(t x).ue=e:=by
 intro n
 induction n with
 |zero=>intro k _ _ _ x h;cases h
 |succ n ih=>
  intro k h1 h2 h3 x h;unfold Atq at h;split at h
  ·rcases D4.1 h with rfl|h
   ·exact⟨h1,h2,h3⟩
   ·by_cases h4:(t k).nx=0
    ·rw[h4,Av9]at h;cases h
    ·obtain⟨a,_,b,c⟩:=(T.link k h1).next h4;exact ih _ a (b.trans h2) (c.trans h3) x h
  ·cases h
theorem A9f (T:Aui N t){r:Int->Nat}(W:Wf N t r): ∀(n:Nat) (k:Int),Lv N t k->(∀x∈Atq N t n k,r k≤r x)∧(Atq N t n k).Pairwise (fun a b=>r a<r b):=by
 intro n
 induction n with
 |zero=>intro k _;exact⟨fun x h=>(by cases h),.nil⟩
 |succ n ih=>
  intro k h1;unfold Atq;split
  ·by_cases h4:(t k).nx=0
   ·rw[h4,Av9];exact⟨fun x h=>by rw[Pl.1 h];exact Z9 _,List.pairwise_singleton ..⟩
   ·obtain⟨a,b,_⟩:=(T.link k h1).next h4;obtain⟨i1,i2⟩:=ih _ a
    have hr:=W _ a (by rw[b];have:=h1.1;omega)
    rw[b,Int.add_sub_cancel]at hr;refine⟨fun x h=> ?_,List.pairwise_cons.2 ⟨fun x h=> ?_,i2⟩⟩
    ·rcases D4.1 h with rfl|h
     ·exact Z9 _
     ·have:=i1 x h;omega
    ·have:=i1 x h;omega
  ·exact⟨fun x h=>(by cases h),.nil⟩
theorem A2h (T:Aui N t){r:Int->Nat}(W:Wf N t r)(n:Nat){k:Int}(h:Lv N t k):(Atq N t n k).Nodup:=
 (A9f T W n k h).2.imp fun h e=>by rw[e]at h;omega
theorem Bbz{l:List Int}(hn:l.Nodup)(h: ∀x∈l,0≤x∧x<N):l.length≤N.toNat:=by
 have:=Aw9 (l:=(List.range N.toNat).map (fun i:Nat=>(i:Int))) hn (fun x hx=>by
  have:=h x hx;rw[E8];exact⟨x.toNat,by simp;omega,by omega⟩)
 simpa using this
theorem Bij: ∀(n:Nat) (k y x:Int),y∈Atq N t n k->(t y).nx=x+1->0≤x∧x<N->x∈Atq N t n k∨(Atq N t n k).length=n:=by
 intro n
 induction n with
 |zero=>intro k y x h;cases h
 |succ n ih=>
  intro k y x h h1 h2;unfold Atq at h ⊢;split at h
  ·rename_i h3;rw[if_pos h3];rcases D4.1 h with rfl|h
   ·rw[h1,Int.add_sub_cancel];cases n with
    |zero=>right;simp[Atq]
    |succ n=>left;rw[Atq,if_pos h2];simp
   ·rcases ih _ y x h h1 h2 with h|h
    ·exact .inl (Z56 _ h)
    ·exact .inr (by simp[h])
  ·cases h
theorem Bm9 (T:Aui N t){r:Int->Nat}(W:Wf N t r){k:Int}(hk:Lv N t k)(x:Int):
  x∈Atq N t N.toNat ((t k).fi - 1) ↔ Lv N t x∧(t x).up=k+1∧(t x).ue=(t k).ep:=by
 constructor
 ·intro h
  by_cases h0:(t k).fi=0
  ·rw[h0,Av9]at h;cases h
  ·obtain⟨a,_,b,c⟩:=(T.link k hk).first h0;exact Bm8 T _ _ a b c x h
 ·generalize hn:r x=n
  induction n using Nat.strongRecOn generalizing x with
  |_ n ih=>
   intro⟨h1,h2,h3⟩
   have hc:Cu N t x:=by unfold Cu;rw[h2,h3,Int.add_sub_cancel];exact⟨hk,rfl⟩
   by_cases hp:(t x).pv=0
   ·have:=(T.link x h1).top hp hc;rw[h2,Int.add_sub_cancel]at this;obtain⟨m,hm⟩: ∃m,N.toNat=m+1:=⟨N.toNat - 1,by have:=h1.1;omega⟩
    rw[this,Int.add_sub_cancel,hm,Atq,if_pos h1.1];simp
   ·obtain⟨a,b⟩:=(T.link x h1).prev hp
    have hr:=W x h1 hp;obtain⟨_,_,c,d⟩:=(T.link _ a).next (by rw[b];have:=h1.1;omega)
    rw[b,Int.add_sub_cancel]at c d
    have hy:=ih _ (by omega) _ rfl ⟨a,c ▸ h2,d ▸ h3⟩
    rcases Bij _ _ _ x hy b h1.1 with h|h
    ·exact h
    ·refine Classical.byContradiction fun hx=> ?_
     have h0:(t k).fi≠0:=fun e=>by rw[e,Av9]at hy;cases hy
     have hd:=A2h T W N.toNat ((T.link k hk).first h0).1
     have:=Bbz (N:=N) (l:=x::Atq N t N.toNat ((t k).fi - 1)) (List.nodup_cons.2 ⟨hx,hd⟩) (fun y hy=>by
      rcases D4.1 hy with rfl|hy
      ·exact h1.1
      ·exact Bby _ _ y hy)
     simp only[Yy]at this;omega
theorem A1a (T:Aui N t){r:Int->Nat}(W:Wf N t r)(n:Nat){k:Int}(hk:Lv N t k):(Atq N t n ((t k).fi - 1)).Nodup:=by
 by_cases h0:(t k).fi=0
 ·rw[h0,Av9];exact .nil
 ·exact A2h T W n ((T.link k hk).first h0).1
theorem A0n{t':Int->Lk}: ∀(n:Nat) (k:Int),(∀x∈Atq N t n k,(t' x).nx=(t x).nx)->Atq N t' n k=Atq N t n k:=by
 intro n
 induction n with
 |zero=>intro k _;rfl
 |succ n ih=>
  intro k h;rw[Atq,Atq];rw[Atq]at h;split
  ·rename_i h1;rw[if_pos h1]at h;rw[h k (by simp),ih _ fun x hx=>h x (by simp[hx])]
  ·rfl
theorem Azk{t':Int->Lk}: ∀(n:Nat) (k:Int),(∀x∈rise N t n k,(t' x).up=(t x).up)->rise N t' n k=rise N t n k:=by
 intro n
 induction n with
 |zero=>intro k _;rfl
 |succ n ih=>
  intro k h;rw[rise,rise];rw[rise]at h;split
  ·rename_i h1;rw[if_pos h1]at h;rw[h k (by simp),ih _ fun x hx=>h x (by simp[hx])]
  ·rfl
theorem Bik: ∀(n:Nat) (k:Int),rise N t n k=(rise N t (n+1) k).take n:=by
 intro n
 induction n with
 |zero=>intro k;simp[rise]
 |succ n ih=>
  intro k;rw[A9e,A9e (n+1)];split
  ·rw[ih];simp
  ·simp
theorem Axq: ∀(n:Nat) (k x:Int),x∈rise N t n k->0≤x∧x<N:=by
 intro n
 induction n with
 |zero=>intro k x h;cases h
 |succ n ih=>
  intro k x h;unfold rise at h;split at h
  ·rename_i h1;rcases D4.1 h with rfl|h
   ·exact h1
   ·exact ih _ x h
  ·cases h
theorem Bna{t':Int->Lk}{g:Int}(h: ∀x,x≠g->(t' x).up=(t x).up)(hg:(t' g).up=0): ∀(n:Nat) (k:Int),
  (rise N t' n k=[] ↔ rise N t n k=[])∧(rise N t' n k).length≤(rise N t n k).length∧((rise N t' n k).getLast? =some g∨(rise N t' n k).getLast? =(rise N t n k).getLast?):=by
 intro n
 induction n with
 |zero=>intro k;exact⟨Iff.rfl,Z9 _,.inr rfl⟩
 |succ n ih=>
  intro k;rw[rise,rise]
  by_cases h1:0≤k∧k<N
  ·rw[if_pos h1,if_pos h1]
   by_cases e:k=g
   ·subst e
    have:rise N t' n (0 - 1)=[]:=by cases n with|zero=>rfl|succ n=>rw[rise,if_neg (by omega)]
    rw[hg,this];exact⟨by simp,by simp,.inl rfl⟩
   ·rw[h k e];obtain⟨i1,i2,i3⟩:=ih ((t k).up - 1);refine⟨by simp,by simpa using i2,?_⟩
    cases ha:rise N t' n ((t k).up - 1)with
    |nil=>rw[i1.1 ha];exact .inr rfl
    |cons a l=>
     cases hb:rise N t n ((t k).up - 1)with
     |nil=>rw[i1.2 hb]at ha;cases ha
     |cons b m=>
      rw[ha,hb]at i3;simpa using i3
  ·rw[if_neg h1,if_neg h1];exact⟨Iff.rfl,Z9 _,.inr rfl⟩
theorem A1r (T:Aui N t){k:Int}(hk:Lv N t k)(hc:Cu N t k):(t k).up≠k+1:=by
 intro e;obtain⟨_,h⟩:=T.rise k hk
 have: ∀n,rise N t (n+1) k=List.replicate (n+1) k:=by
  intro n
  induction n with
  |zero=>rw[rise,if_pos hk.1];rfl
  |succ n ih=>rw[rise,if_pos hk.1,e,Int.add_sub_cancel,ih];rfl
 obtain⟨m,hm⟩: ∃m,N.toNat=m+1:=⟨N.toNat - 1,by have:=hk.1;omega⟩
 refine h k ?_ hc;rw[hm,this,List.getLast?_replicate,if_neg (by omega)]
def rem (t:Int->Lk)(g:Int)(x:Int):Lk:=
 if x=g then⟨false,true,0,0,0,0,0,0⟩else
  ⟨(t x).lv,(t x).gn,(t x).ep,(t x).up,(t x).ue,if(t g).pv=0∧x+1=(t g).up∧(t x).fi=g+1 then(t g).nx else(t x).fi,if x+1=(t g).pv then(t g).nx else(t x).nx,if x+1=(t g).nx then(t g).pv else(t x).pv⟩
theorem A3a{g:Int}:rem t g g=⟨false,true,0,0,0,0,0,0⟩:=if_pos rfl
theorem Ajr{g x:Int}(h:x≠g):rem t g x=⟨(t x).lv,(t x).gn,(t x).ep,(t x).up,(t x).ue,if(t g).pv=0∧x+1=(t g).up∧(t x).fi=g+1 then(t g).nx else(t x).fi,if x+1=(t g).pv then(t g).nx else(t x).nx,if x+1=(t g).nx then(t g).pv else(t x).pv⟩:=if_neg h
theorem Apl{g x:Int}:Lv N (rem t g) x ↔ x≠g∧Lv N t x:=by
 unfold Lv
 by_cases h:x=g
 ·subst h;rw[A3a];simp
 ·rw[Ajr h];simp[h]
theorem Ay0{g x:Int}(hx:x≠g):Cu N (rem t g) x ↔ (t x).up≠g+1∧Cu N t x:=by
 unfold Cu;rw[Apl,Ajr hx]
 by_cases h:(t x).up - 1=g
 ·simp[h];omega
 ·rw[Ajr h];simp only[ne_eq,h,not_false_eq_true,true_and];exact⟨fun h1=>⟨by omega,h1⟩,fun h1=>h1.2⟩
theorem Bnb{g x:Int}(hg:0≤g):Oo N (rem t g) x ↔ x≠g∧(Oo N t x∨Lv N t x∧(t x).up=g+1):=by
 unfold Oo;rw[Apl]
 by_cases h:x=g
 ·simp[h]
 ·rw[Ay0 h,Ajr h];simp only[ne_eq,h,not_false_eq_true,true_and];constructor
  ·rintro⟨a,b,c⟩
   by_cases e:(t x).up=g+1
   ·exact .inr ⟨a,e⟩
   ·exact .inl ⟨a,b,fun d=>c ⟨e,d⟩⟩
  ·rintro(⟨a,b,c⟩|⟨a,b⟩)
   ·exact⟨a,b,fun d=>c d.2⟩
   ·exact⟨a,by omega,fun d=>d.1 b⟩
theorem Bnc (T:Aui N t){g x:Int}(hg:Lv N t g)(hx:Lv N (rem t g) x):Bm7 N (rem t g) x:=by
 obtain⟨hne,hl⟩:=Apl.1 hx
 have G:=T.link g hg
 have X:=T.link x hl
 have g0:=hg.1
 have x0:=hl.1;refine⟨?_,?_,?_,?_,?_⟩
 ·rw[Ajr hne];intro h;simp only at h ⊢
  by_cases hA:(t g).pv=0∧x+1=(t g).up∧(t x).fi=g+1
  ·rw[if_pos hA]at h ⊢;obtain⟨a,b,c,d⟩:=G.next h
   have hm:(t g).nx - 1≠g:=fun e=>by rw[e]at b;omega
   obtain⟨_,_,_,f4⟩:=X.first (by omega)
   rw[hA.2.2,Int.add_sub_cancel]at f4;rw[Ajr hm];refine⟨Apl.2 ⟨hm,a⟩,?_,?_,?_⟩
   ·simp only;rw[if_pos (by omega)];exact hA.1
   ·simp only;omega
   ·simp only;omega
  ·rw[if_neg hA]at h ⊢;obtain⟨a,b,c,d⟩:=X.first h
   have hm:(t x).fi - 1≠g:=fun e=>by rw[e]at b c;exact hA ⟨b,c.symm,by omega⟩
   rw[Ajr hm];refine⟨Apl.2 ⟨hm,a⟩,?_,c,d⟩;simp only;rw[if_neg]
   ·exact b
   ·intro e
    have:=(G.next (by omega)).2.1
    rw[←e,Int.add_sub_cancel]at this;omega
 ·rw[Ajr hne];intro h;simp only at h ⊢
  by_cases hA:x+1=(t g).pv
  ·rw[if_pos hA]at h ⊢;obtain⟨a,b,c,d⟩:=G.next h
   have hm:(t g).nx - 1≠g:=fun e=>by rw[e]at b;omega
   obtain⟨_,p2⟩:=G.prev (by omega)
   rw[←hA,Int.add_sub_cancel]at p2;obtain⟨_,_,q3,q4⟩:=X.next (by omega)
   rw[p2,Int.add_sub_cancel]at q3 q4;rw[Ajr hm];refine⟨Apl.2 ⟨hm,a⟩,?_,?_,?_⟩
   ·simp only;rw[if_pos (by omega)];omega
   ·simp only;omega
   ·simp only;omega
  ·rw[if_neg hA]at h ⊢;obtain⟨a,b,c,d⟩:=X.next h
   have hm:(t x).nx - 1≠g:=fun e=>by rw[e]at b;omega
   rw[Ajr hm];refine⟨Apl.2 ⟨hm,a⟩,?_,c,d⟩;simp only;rw[if_neg]
   ·exact b
   ·intro e
    have:=(G.next (by omega)).2.1
    rw[←e,Int.add_sub_cancel]at this;omega
 ·rw[Ajr hne];intro h;simp only at h ⊢
  by_cases hA:x+1=(t g).nx
  ·rw[if_pos hA]at h ⊢;obtain⟨a,b⟩:=G.prev h
   have hm:(t g).pv - 1≠g:=fun e=>by rw[e]at b;omega
   rw[Ajr hm];refine⟨Apl.2 ⟨hm,a⟩,?_⟩;simp only;rw[if_pos (by omega)]
   omega
  ·rw[if_neg hA]at h ⊢;obtain⟨a,b⟩:=X.prev h
   have hm:(t x).pv - 1≠g:=fun e=>by rw[e]at b;omega
   rw[Ajr hm];refine⟨Apl.2 ⟨hm,a⟩,?_⟩;simp only;rw[if_neg]
   ·exact b
   ·intro e
    have:=(G.prev (by omega)).2
    rw[←e,Int.add_sub_cancel]at this;omega
 ·rw[Ajr hne];exact X.up
 ·intro h hc;obtain⟨c1,c2⟩:=(Ay0 hne).1 hc;rw[Ajr hne]at h ⊢;simp only at h ⊢
  have hm:(t x).up - 1≠g:=by omega
  rw[Ajr hm];simp only
  by_cases hA:x+1=(t g).nx
  ·rw[if_pos hA]at h;obtain⟨_,_,q3,q4⟩:=G.next (by omega)
   rw[←hA,Int.add_sub_cancel]at q3 q4
   have hcg:Cu N t g:=by unfold Cu at c2 ⊢;rw[←q3,←q4];exact c2
   have:=G.top h hcg;rw[if_pos ⟨h,by omega,by rw[q3];exact this⟩]
   omega
  ·rw[if_neg hA]at h
   have:=X.top h c2;rw[if_neg (fun e=>by omega)]
   exact this
theorem A71 (T:Aui N t){g:Int}(hg:Lv N t g):Aui N (rem t g):=by
 refine⟨fun k hk=>Bnc T hg hk,fun k hk=> ?_,fun k h0 h1 h=> ?_⟩
 ·obtain⟨hne,hl⟩:=Apl.1 hk;obtain⟨r1,r2⟩:=T.rise k hl;obtain⟨_,c1,c2⟩:=Bna (t:=t) (t':=rem t g) (N:=N) (g:=g) (fun x hx=>by rw[Ajr hx]) (by rw[A3a]) N.toNat k
  refine⟨by omega,fun x hx hc=> ?_⟩
  by_cases e:x=g
  ·subst e;unfold Cu at hc;rw[A3a]at hc
   have:=hc.1.1.1;simp at this
  ·rcases c2 with c2|c2
   ·rw[c2]at hx;exact e (Hp hx).symm
   ·rw[c2]at hx;exact r2 x hx ((Ay0 e).1 hc).2
 ·by_cases e:k=g
  ·subst e;rw[A3a];exact⟨rfl,rfl,rfl,rfl⟩
  ·rw[Ajr e]at h ⊢;simp only at h ⊢;obtain⟨a,b,c,d⟩:=T.bare k h0 h1 h
   have G:=T.link g hg;refine⟨a,?_,?_,?_⟩
   ·rw[if_neg (fun q=>by have:=hg.1;omega)];exact b
   ·rw[if_neg]
    ·exact c
    ·intro q
     have:=(G.prev (by omega)).1.2
     rw[←q,Int.add_sub_cancel,h]at this;cases this
   ·rw[if_neg]
    ·exact d
    ·intro q
     have:=(G.next (by omega)).1.2
     rw[←q,Int.add_sub_cancel,h]at this;cases this
theorem Byk (T:Aui N t){r:Int->Nat}(W:Wf N t r){g:Int}(hg:Lv N t g):Wf N (rem t g) r:=by
 intro x hx h;obtain⟨hne,hl⟩:=Apl.1 hx;rw[Ajr hne]at h ⊢;simp only at h ⊢
 by_cases hA:x+1=(t g).nx
 ·rw[if_pos hA]at h ⊢
  have h1:=W g hg h
  have h2:=((T.link g hg).next (by have:=hl.1;omega)).2.1
  rw[←hA,Int.add_sub_cancel]at h2
  have h3:=W x hl (by have:=hg.1;omega)
  rw[h2,Int.add_sub_cancel]at h3;omega
 ·rw[if_neg hA]at h ⊢;exact W x hl h
end
section
variable (N:Int) (t:Int->Lk)
def kf (f:Int):List Int:=Atq N t N.toNat (f - 1)
structure Bb0 (fs:List Int):Prop where
 nodup:(fs.flatMap (kf N t)).Nodup
 iff: ∀x,x∈fs.flatMap (kf N t) ↔ Oo N t x
 top: ∀f∈fs,f≠0->(0≤f - 1∧f - 1<N)∧(t (f - 1)).pv=0
inductive Dd (S:List Int):Int->Prop
 |base {y:Int}:y∈S->Dd S y
 |step {y:Int}:Lv N t y->Cu N t y->Dd S ((t y).up - 1)->Dd S y
inductive Al:Int->Prop
 |root {y:Int}:Lv N t y->(t y).up=0->Al y
 |step {y:Int}:Lv N t y->Cu N t y->Al ((t y).up - 1)->Al y
def Odr:List Int->List (Int×Int)->Prop
 |_,[]=>True
 |seen,e::q=>(∀y,Dd N t (kf N t e.2) y-> ∀x,Lv N t x->(t x).up=y+1-> ¬Cu N t x->x∈seen)∧(e.1≠0-> ∀x,Lv N t x->(t x).up=e.1->x∈seen++kf N t e.2)∧Odr (seen++kf N t e.2) q
structure Aic (qs:List (Int×Int)):Prop where
 tree:Aui N t
 wf: ∃r,Wf N t r
 uw: ∃d:Int->Nat,∀x,Lv N t x->Cu N t x->d ((t x).up - 1)<d x
 kid:Bb0 N t (qs.map (·.2))
 ord:Odr N t [] qs
 gone: ∀x,Lv N t x->(t x).up≠0->(t ((t x).up - 1)).lv=true∨(t ((t x).up - 1)).gn=true
 ep: ∀x,Lv N t x->Lv N t ((t x).up - 1)->(t x).ue≤(t ((t x).up - 1)).ep
 slot: ∀e∈qs,e.1≠0->(t (e.1 - 1)).lv=false∧(t (e.1 - 1)).gn=true
end
section
variable {N:Int} {t:Int->Lk}
theorem Al.lv{y:Int}(h:Al N t y):Lv N t y:=by cases h<;>assumption
theorem Al.noOr{y:Int}(h:Al N t y): ¬Oo N t y:=by
 intro g;cases h with
 |root a b=>exact g.2.1 b
 |step a b c=>exact g.2.2 b
theorem Al.noDd{S:List Int}(hS: ∀x∈S,Oo N t x){y:Int}(h:Al N t y): ¬Dd N t S y:=by
 induction h with
 |root a b=>
  intro g;cases g with
  |base g=>exact(hS _ g).2.1 b
  |step g1 g2 g3=>have:=g2.1.1.1;omega
 |step a b c ih=>
  intro g;cases g with
  |base g=>exact(hS _ g).2.2 b
  |step g1 g2 g3=>exact ih g3
theorem Dd.in{S:List Int}(hS: ∀x∈S,0≤x∧x<N){y:Int}(h:Dd N t S y):0≤y∧y<N:=by
 cases h with
 |base h=>exact hS _ h
 |step h _ _=>exact h.1
theorem Bgp{f x:Int}(h:x∈kf N t f):0≤x∧x<N:=Bby _ _ _ h
theorem Bb0.or{fs:List Int}(h:Bb0 N t fs){f:Int}(hf:f∈fs){x:Int}(hx:x∈kf N t f):Oo N t x:=
 (h.iff x).1 (List.mem_flatMap.2 ⟨f,hf,hx⟩)
theorem sib (T:Aui N t){g x:Int}(hg:Lv N t g)(h:x+1=(t g).pv)(hx:0≤x):Lv N t x∧(t g).up=(t x).up∧(t g).ue=(t x).ue:=by
 obtain⟨a,b⟩:=(T.link g hg).prev (by omega)
 rw[←h,Int.add_sub_cancel]at a b;obtain⟨_,_,c,d⟩:=(T.link x a).next (by rw[b];have:=hg.1;omega)
 rw[b,Int.add_sub_cancel]at c d;exact⟨a,c,d⟩
theorem Bnd{g x:Int}(h1:(t g).up=(t x).up)(h2:(t g).ue=(t x).ue):Cu N t g ↔ Cu N t x:=by unfold Cu;rw[h1,h2]
theorem Az4 (T:Aui N t){r:Int->Nat}(W:Wf N t r){g:Int}(hg:Lv N t g)(x:Int):x∈kf N t (t g).fi ↔ Lv N t x∧(t x).up=g+1∧Cu N t x:=by
 unfold kf;rw[Bm9 T W hg];constructor
 ·rintro⟨a,b,c⟩;refine⟨a,b,?_⟩;unfold Cu;rw[b,c,Int.add_sub_cancel];exact⟨hg,rfl⟩
 ·rintro⟨a,b,c⟩;refine⟨a,b,?_⟩
  have:=c.2;rw[b,Int.add_sub_cancel]at this;exact this.symm
theorem Bfi{g f:Int}(h: ∀x∈kf N t f,x≠g∧x+1≠(t g).pv):kf N (rem t g) f=kf N t f:=
 A0n _ _ fun x hx=>by
  obtain⟨a,b⟩:=h x hx;rw[Ajr a];simp only;rw[if_neg b]
theorem Azl (T:Aui N t){r:Int->Nat}(W:Wf N t r){g:Int}(hg:Lv N t g):kf N (rem t g) (t g).fi=kf N t (t g).fi:=by
 refine Bfi fun x hx=> ?_;obtain⟨a,b,c⟩:=(Az4 T W hg x).1 hx;constructor
 ·rintro rfl;exact A1r T hg c b
 ·intro e;obtain⟨_,h1,h2⟩:=sib T hg e a.1.1;exact A1r T hg ((Bnd h1 h2).2 c) (h1.trans b)
theorem Bb1 (T:Aui N t){g f:Int}(hg:Lv N t g)(h:(0≤f - 1∧f - 1<N)∧(t (f - 1)).pv=0):(0≤f - 1∧f - 1<N)∧(rem t g (f - 1)).pv=0:=by
 refine⟨h.1,?_⟩
 by_cases e:f - 1=g
 ·rw[e,A3a]
 ·rw[Ajr e];simp only;rw[if_neg]
  ·exact h.2
  ·intro q
   have:=((T.link g hg).next (by omega)).2.1
   rw[←q,Int.add_sub_cancel,h.2]at this
   have:=hg.1;omega
theorem A9g (T:Aui N t){g:Int}(hg:Lv N t g)(h:(t g).fi≠0):(0≤(t g).fi - 1∧(t g).fi - 1<N)∧(rem t g ((t g).fi - 1)).pv=0:=by
 obtain⟨a,b,_⟩:=(T.link g hg).first h;exact Bb1 T hg ⟨a.1,b⟩
theorem Agh{α:Type}{a b:List α}:(a++b).Nodup ↔ a.Nodup∧b.Nodup∧ ∀x∈a,x ∉ b:=by
 rw[List.nodup_append];exact⟨fun h=>⟨h.1,h.2.1,fun x h1 h2=>h.2.2 x h1 x h2 rfl⟩,fun h=>⟨h.1,h.2.1,fun x h1 y h2 e=>h.2.2 x h1 (e ▸ h2)⟩⟩
theorem Ati{α β:Type}{l:List α}{f g:α->List β}(h: ∀x∈l,f x=g x):l.flatMap f=l.flatMap g:=by
 induction l with
 |nil=>rfl
 |cons x l ih=>rw[List.flatMap_cons,List.flatMap_cons,h x (by simp),ih fun y hy=>h y (by simp[hy])]
theorem A9h (T:Aui N t){g:Int}(hg:Lv N t g)(ho: ¬Oo N t g){fs:List Int}(K:Bb0 N t fs){f:Int}(hf:f∈fs):kf N (rem t g) f=kf N t f:=by
 refine Bfi fun x hx=> ?_
 have hx:=K.or hf hx;constructor
 ·rintro rfl;exact ho hx
 ·intro e;obtain⟨_,h1,h2⟩:=sib T hg e hx.1.1.1;exact ho ⟨hg,h1 ▸ hx.2.1,fun c=>hx.2.2 ((Bnd h1 h2).1 c)⟩
theorem Bil (T:Aui N t){r:Int->Nat}(W:Wf N t r){g:Int}(hg:Lv N t g)(ho: ¬Oo N t g){fs:List Int}(K:Bb0 N t fs):Bb0 N (rem t g) (fs++[(t g).fi]):=by
 have e:(fs++[(t g).fi]).flatMap (kf N (rem t g))=fs.flatMap (kf N t)++kf N t (t g).fi:=by
  rw[List.flatMap_append,List.flatMap_cons,List.flatMap_nil,List.append_nil,Azl T W hg,Ati fun f hf=>A9h T hg ho K hf]
 refine⟨?_,fun x=> ?_,fun f hf h0=> ?_⟩
 ·rw[e,Agh];exact⟨K.nodup,A1a T W _ hg,fun x h1 h2=>((K.iff x).1 h1).2.2 ((Az4 T W hg x).1 h2).2.2⟩
 ·rw[e,Ho,K.iff,Az4 T W hg,Bnb hg.1.1];constructor
  ·rintro(h|⟨a,b,c⟩)
   ·exact⟨fun q=>ho (q ▸ h),.inl h⟩
   ·exact⟨fun q=>A1r T hg (q ▸ c) (q ▸ b),.inr ⟨a,b⟩⟩
  ·rintro⟨a,h|⟨b,c⟩⟩
   ·exact .inl h
   ·by_cases d:Cu N t x
    ·exact .inr ⟨b,c,d⟩
    ·exact .inl ⟨b,by have:=hg.1.1;omega,d⟩
 ·rw[Ho,Pl]at hf;rcases hf with hf|rfl
  ·exact Bb1 T hg (K.top f hf h0)
  ·exact A9g T hg h0
theorem A3b{f:Int}(h:0≤f - 1∧f - 1<N):f - 1∈kf N t f:=by
 unfold kf;obtain⟨m,hm⟩: ∃m,N.toNat=m+1:=⟨N.toNat - 1,by omega⟩
 rw[hm,Atq,if_pos h];simp
theorem A2i (T:Aui N t){r:Int->Nat}(W:Wf N t r){g:Int}(hg:Lv N t g):kf N t (g+1)=g::kf N t (t g).nx:=by
 unfold kf;obtain⟨m,hm⟩: ∃m,N.toNat=m+1:=⟨N.toNat - 1,by have:=hg.1;omega⟩
 rw[Int.add_sub_cancel,hm,Atq,if_pos hg.1]
 congr 1
 rw[Bii,List.take_of_length_le]
 by_cases h0:(t g).nx=0
 ·rw[h0,Av9];exact Z21 _
 ·obtain⟨a,b,_⟩:=(T.link g hg).next h0
  have hr:=W _ a (by rw[b];have:=hg.1;omega)
  rw[b,Int.add_sub_cancel]at hr
  have hn:g ∉ Atq N t (m+1) ((t g).nx - 1):=fun h=>by
   have:=(A9f T W (m+1) _ a).1 g h;omega
  have:=Bbz (N:=N) (List.nodup_cons.2 ⟨hn,A2h T W (m+1) a⟩) (fun y hy=>by
   rcases D4.1 hy with rfl|hy
   ·exact hg.1
   ·exact Bby _ _ y hy)
  simp only[Yy]at this;omega
theorem Bne (T:Aui N t){r:Int->Nat}(W:Wf N t r){g:Int}(hg:Lv N t g){fs:List Int}(K:Bb0 N t ((g+1)::fs)):
  (∀f∈(t g).nx::fs,kf N (rem t g) f=kf N t f)∧Bb0 N (rem t g) ((t g).fi::(t g).nx::fs):=by
 have h0:(t g).pv=0:=by have:=(K.top (g+1) (by simp) (by have:=hg.1;omega)).2;rwa[Int.add_sub_cancel]at this
 have ho:Oo N t g:=K.or (f:=g+1) (by simp) (by have:=A3b (N:=N) (t:=t) (f:=g+1) (by rw[Int.add_sub_cancel];exact hg.1);rwa[Int.add_sub_cancel]at this)
 have hnd:=K.nodup;rw[List.flatMap_cons,A2i T W hg]at hnd;rw[Sk,List.nodup_cons]at hnd
 have hold: ∀f∈(t g).nx::fs,kf N (rem t g) f=kf N t f:=fun f hf=>Bfi fun x hx=>by
  refine⟨?_,fun e=>by have:=Bgp hx;omega⟩
  rintro rfl;refine hnd.1 ?_;rcases D4.1 hf with rfl|hf
  ·exact List.mem_append_left _ hx
  ·exact List.mem_append_right _ (List.mem_flatMap.2 ⟨f,hf,hx⟩)
 have e:((t g).fi::(t g).nx::fs).flatMap (kf N (rem t g))=kf N t (t g).fi++((t g).nx::fs).flatMap (kf N t):=by
  rw[List.flatMap_cons,Azl T W hg,Ati hold]
 have hsub: ∀x,x∈((t g).nx::fs).flatMap (kf N t) ↔ Oo N t x∧x≠g:=by
  intro x
  have:=K.iff x;rw[List.flatMap_cons,A2i T W hg,Sk,D4]at this;rw[List.flatMap_cons];constructor
  ·intro h;exact⟨this.1 (.inr h),fun q=>hnd.1 (q ▸ h)⟩
  ·rintro⟨h,hne⟩;rcases this.2 h with q|q
   ·exact absurd q hne
   ·exact q
 refine⟨hold,?_,fun x=> ?_,fun f hf h1=> ?_⟩
 ·rw[e,Agh];refine⟨A1a T W _ hg,by rw[List.flatMap_cons];exact hnd.2,fun x h1 h2=>((hsub x).1 h2).1.2.2 ((Az4 T W hg x).1 h1).2.2⟩
 ·rw[e,Ho,hsub,Az4 T W hg,Bnb hg.1.1];constructor
  ·rintro(⟨a,b,c⟩|⟨a,b⟩)
   ·exact⟨fun q=>A1r T hg (q ▸ c) (q ▸ b),.inr ⟨a,b⟩⟩
   ·exact⟨b,.inl a⟩
  ·rintro⟨a,h|⟨b,c⟩⟩
   ·exact .inr ⟨h,a⟩
   ·by_cases d:Cu N t x
    ·exact .inl ⟨b,c,d⟩
    ·exact .inr ⟨⟨b,by have:=hg.1.1;omega,d⟩,a⟩
 ·rcases D4.1 hf with rfl|hf
  ·exact A9g T hg h1
  ·rcases D4.1 hf with rfl|hf
   ·obtain⟨a,b,_⟩:=(T.link g hg).next h1
    have hm:(t g).nx - 1≠g:=fun q=>by rw[q]at b;have:=hg.1;omega
    refine⟨a.1,?_⟩;rw[Ajr hm];simp only;rw[if_pos (by omega)]
    exact h0
   ·exact Bb1 T hg (K.top f (by simp[hf]) h1)
theorem A72{t':Int->Lk}: ∀(q:List (Int×Int)) (seen seen':List Int),(∀e∈q,kf N t' e.2=kf N t e.2)→
  (∀e∈q,∀y,Dd N t' (kf N t' e.2) y->Dd N t (kf N t e.2) y∧ ∀x,Lv N t' x->(t' x).up=y+1-> ¬Cu N t' x->x∈seen'∨Lv N t x∧(t x).up=y+1∧ ¬Cu N t x)→
  (∀e∈q,e.1≠0-> ∀x,Lv N t' x->(t' x).up=e.1->x∈seen'∨Lv N t x∧(t x).up=e.1)→
  (∀x∈seen,Lv N t' x->x∈seen')->Odr N t seen q->Odr N t' seen' q:=by
 intro q
 induction q with
 |nil=>intros;trivial
 |cons e q ih=>
  intro seen seen' hk hd hsl hs h;obtain⟨h1,h2,h3⟩:=h
  have hke:=hk e (by simp)
  refine⟨fun y hy x hx hu hc=> ?_,fun h0 x hx hu=> ?_,?_⟩
  ·obtain⟨a,b⟩:=hd e (by simp) y hy
   rcases b x hx hu hc with b|⟨b1,b2,b3⟩
   ·exact b
   ·exact hs x (h1 y a x b1 b2 b3) hx
  ·rw[hke,Ho];rcases hsl e (by simp) h0 x hx hu with b|⟨b1,b2⟩
   ·exact .inl b
   ·rcases Ho.1 (h2 h0 x b1 b2)with b|b
    ·exact .inl (hs x b hx)
    ·exact .inr b
  ·rw[hke];refine ih (seen++kf N t e.2) _ (fun f hf=>hk f (by simp[hf])) (fun f hf y hy=> ?_) (fun f hf h0 x hx hu=> ?_) (fun x hx hl=> ?_) h3
   ·obtain⟨a,b⟩:=hd f (by simp[hf]) y hy
    refine⟨a,fun x hx hu hc=> ?_⟩;rcases b x hx hu hc with b|b
    ·exact .inl (List.mem_append_left _ b)
    ·exact .inr b
   ·rcases hsl f (by simp[hf]) h0 x hx hu with b|b
    ·exact .inl (List.mem_append_left _ b)
    ·exact .inr b
   ·rcases Ho.1 hx with h|h
    ·exact List.mem_append_left _ (hs x h hl)
    ·exact List.mem_append_right _ h
theorem Bgq: ∀(q:List (Int×Int)) (seen:List Int) (e:Int×Int),Odr N t seen q→
  (∀y,Dd N t (kf N t e.2) y-> ∀x,Lv N t x->(t x).up=y+1-> ¬Cu N t x->x∈seen++q.flatMap (fun e=>kf N t e.2))→
  (e.1≠0-> ∀x,Lv N t x->(t x).up=e.1->x∈(seen++q.flatMap (fun e=>kf N t e.2))++kf N t e.2)->Odr N t seen (q++[e]):=by
 intro q
 induction q with
 |nil=>intro seen e h h1 h2;rw[List.flatMap_nil,List.append_nil]at h1 h2;exact⟨h1,h2,trivial⟩
 |cons f q ih=>
  intro seen e h h1 h2;obtain⟨a,b,c⟩:=h;rw[List.flatMap_cons,←My]at h1 h2;exact⟨a,b,ih _ e c h1 h2⟩
theorem Bb2{g:Int}{S:List Int}{y:Int}(h:Dd N (rem t g) S y):Dd N t S y:=by
 induction h with
 |base h=>exact .base h
 |step a b c ih=>
  obtain⟨h1,h2⟩:=Apl.1 a;rw[Ajr h1]at ih;exact .step h2 ((Ay0 h1).1 b).2 ih
theorem A1b{g:Int}{S:List Int}(hS:g ∉ S){y:Int}(h:Dd N (rem t g) S y):y≠g:=by
 cases h with
 |base h=>exact fun e=>hS (e ▸ h)
 |step a _ _=>exact(Apl.1 a).1
theorem A73{qs qs':List (Int×Int)}(F:Aic N t qs){g:Int}(hg:Lv N t g)(hK:Bb0 N (rem t g) (qs'.map (·.2)))(hO:Odr N (rem t g) [] qs')(hs: ∀e∈qs',e.1≠0->e.1=g+1∨e.1∈qs.map (·.1)):Aic N (rem t g) qs':=by
 obtain⟨r,W⟩:=F.wf;obtain⟨d,U⟩:=F.uw;refine⟨A71 F.tree hg,⟨r,Byk F.tree W hg⟩,⟨d,fun x hx hc=> ?_⟩,hK,hO,fun x hx h=> ?_,fun x hx h=> ?_,fun e he h0=> ?_⟩
 ·obtain⟨h1,h2⟩:=Apl.1 hx;rw[Ajr h1];exact U x h2 ((Ay0 h1).1 hc).2
 ·obtain⟨h1,h2⟩:=Apl.1 hx;rw[Ajr h1]at h ⊢;simp only at h ⊢
  by_cases e:(t x).up - 1=g
  ·rw[e,A3a];exact .inr rfl
  ·rw[Ajr e];exact F.gone x h2 h
 ·obtain⟨h1,h2⟩:=Apl.1 hx;rw[Ajr h1]at h ⊢;simp only at h ⊢;obtain⟨h3,h4⟩:=Apl.1 h;rw[Ajr h3];exact F.ep x h2 h4
 ·by_cases e1:e.1 - 1=g
  ·rw[e1,A3a];exact⟨rfl,rfl⟩
  ·rw[Ajr e1];rcases hs e he h0 with h|h
   ·omega
   ·obtain⟨a,ha,hb⟩:=E8.1 h;simp only at hb ⊢;rw[←hb];exact F.slot a ha (by rw[hb];exact h0)
theorem Bb3{qs:List (Int×Int)}(F:Aic N t qs){g:Int}(hg:Al N t g):Aic N (rem t g) (qs++[(g+1,(t g).fi)]):=by
 obtain⟨r,W⟩:=F.wf
 have hl:=hg.lv
 have T:=F.tree
 have K:=F.kid
 have hK:=Bil T W hl hg.noOr K;rw[show qs.map (·.2)++[(t g).fi]=(qs++[(g+1,(t g).fi)]).map (·.2)by simp]at hK
 have hold: ∀e∈qs,kf N (rem t g) e.2=kf N t e.2:=fun e he=>A9h T hl hg.noOr K (E8.2 ⟨e,he,rfl⟩)
 have hgn: ∀e∈qs,g ∉ kf N t e.2:=fun e he h=>hg.noOr (K.or (E8.2 ⟨e,he,rfl⟩) h)
 have hflat:qs.flatMap (fun e=>kf N (rem t g) e.2)=(qs.map (·.2)).flatMap (kf N t):=by
  rw[List.flatMap_map];exact Ati hold
 refine A73 F hl hK (Bgq _ _ _ (A72 qs [] [] hold (fun e he y hy=> ?_) (fun e he h0 x hx hu=> ?_) (fun x hx=>by cases hx) F.ord) (fun y hy x hx hu hc=> ?_) (fun _ x hx hu=> ?_)) (fun e he h0=> ?_)
 ·have hy2:=A1b (by rw[hold e he];exact hgn e he) hy
  refine⟨by rw[←hold e he];exact Bb2 hy,fun x hx hu hc=> .inr ?_⟩
  obtain⟨a,b⟩:=Apl.1 hx;rw[Ajr a]at hu;simp only at hu;exact⟨b,hu,fun h=>hc ((Ay0 a).2 ⟨by omega,h⟩)⟩
 ·obtain⟨a,b⟩:=Apl.1 hx;rw[Ajr a]at hu;exact .inr ⟨b,hu⟩
 ·rw[Z38,hflat,K.iff];obtain⟨a,b⟩:=Apl.1 hx;rw[Ajr a]at hu;simp only at hu;rw[Azl T W hl]at hy
  have hgc:g ∉ kf N t (t g).fi:=fun h=>by obtain⟨_,h2,h3⟩:=(Az4 T W hl g).1 h;exact A1r T hl h3 h2
  have hy2:=A1b hgc hy
  have hy0:=Dd.in (fun x hx=>Bgp hx) hy;exact⟨b,by omega,fun h=>hc ((Ay0 a).2 ⟨by omega,h⟩)⟩
 ·rw[Z38,hflat,Azl T W hl,Ho,K.iff,Az4 T W hl];obtain⟨a,b⟩:=Apl.1 hx;rw[Ajr a]at hu;simp only at hu
  by_cases c:Cu N t x
  ·exact .inr ⟨b,hu,c⟩
  ·exact .inl ⟨b,by have:=hl.1;omega,c⟩
 ·rcases Ho.1 he with he|he
  ·exact .inr (E8.2 ⟨e,he,rfl⟩)
  ·rw[Pl]at he;rw[he];exact .inl rfl
theorem Bde{qs:List (Int×Int)}{s g:Int}(F:Aic N t ((s,g+1)::qs))(h0:0≤g):Lv N t g∧(t g).pv=0∧Aic N (rem t g) ((g+1,(t g).fi)::(s,(t g).nx)::qs):=by
 obtain⟨r,W⟩:=F.wf
 have T:=F.tree
 have K:=F.kid;rw[Z8]at K;obtain⟨k1,k2⟩:=K.top (g+1) (by simp) (by omega)
 have hgm:g∈kf N t (g+1):=by have:=A3b (N:=N) (t:=t) k1;rwa[Int.add_sub_cancel]at this
 have ho:Oo N t g:=K.or (f:=g+1) (by simp) hgm
 have hl:=ho.1;rw[Int.add_sub_cancel]at k2;obtain⟨hold,hK⟩:=Bne T W hl K;obtain⟨o1,o2,o3⟩:=F.ord;simp only[Z38]at o1 o2 o3
 have hsp:=A2i T W hl
 have hgc:g ∉ kf N t (t g).fi:=fun h=>by obtain⟨_,h2,h3⟩:=(Az4 T W hl g).1 h;exact A1r T hl h3 h2
 have hchild: ∀y,Dd N t (kf N t (t g).fi) y->Dd N t (kf N t (g+1)) y:=by
  intro y hy
  induction hy with
  |base h=>
   obtain⟨a,b,c⟩:=(Az4 T W hl _).1 h;exact .step a c (by rw[b,Int.add_sub_cancel];exact .base hgm)
  |step a b c ih=>exact .step a b ih
 have hnone: ∀y,Dd N t (kf N t (g+1)) y-> ∀x,Lv N t x->(t x).up=y+1->Cu N t x:=fun y hy x hx hu=>Classical.byContradiction fun h=>by have:=o1 y hy x hx hu h;cases this
 refine⟨hl,k2,A73 F hl hK ⟨fun y hy x hx hu hc=> ?_,fun _ x hx hu=> ?_,fun y hy x hx hu hc=> ?_,fun hs x hx hu=> ?_,?_⟩ (fun e he h1=> ?_)⟩
 ·exfalso;rw[Azl T W hl]at hy
  have hy2:=A1b hgc hy;obtain⟨a,b⟩:=Apl.1 hx;rw[Ajr a]at hu;simp only at hu;exact hc ((Ay0 a).2 ⟨by omega,hnone y (hchild y (Bb2 hy)) x b hu⟩)
 ·rw[Z38,Azl T W hl,Az4 T W hl];obtain⟨a,b⟩:=Apl.1 hx;rw[Ajr a]at hu;simp only at hu;exact⟨b,hu,hnone g (.base hgm) x b hu⟩
 ·exfalso;rw[hold _ (by simp)]at hy
  have hgt:g ∉ kf N t (t g).nx:=by
   have:=K.nodup;rw[List.flatMap_cons,hsp,Sk,List.nodup_cons]at this;exact fun h=>this.1 (List.mem_append_left _ h)
  have hy2:=A1b hgt hy;obtain⟨a,b⟩:=Apl.1 hx;rw[Ajr a]at hu;simp only at hu
  have hd:Dd N t (kf N t (g+1)) y:=by
   have:=Bb2 hy;rw[hsp];clear hy hu
   induction this with
   |base h=>exact .base (Z56 _ h)
   |step a b c ih=>
    exact .step a b (Classical.byCases (fun e:(t _).up - 1=g=>by rw[e];exact .base (by simp)) (fun e=>ih e))
  exact hc ((Ay0 a).2 ⟨by omega,hnone y hd x b hu⟩)
 ·rw[Z38,Azl T W hl,hold _ (by simp)]
  obtain⟨a,b⟩:=Apl.1 hx;rw[Ajr a]at hu;simp only at hu
  have:=o2 hs x b hu;rw[hsp]at this;rcases D4.1 this with h|h
  ·exact absurd h a
  ·exact List.mem_append_right _ h
 ·rw[Z38,Azl T W hl,hold _ (by simp)]
  have hq: ∀e∈qs,e.2∈(t g).nx::qs.map (·.2):=fun e he=>Z56 _ (E8.2 ⟨e,he,rfl⟩)
  have hnd:=K.nodup;rw[List.flatMap_cons,hsp,Sk,List.nodup_cons]at hnd;refine A72 qs (kf N t (g+1)) _ (fun e he=>hold _ (hq e he)) (fun e he y hy=> ?_) (fun e he _ x hx hu=> ?_) (fun x hx hl'=> ?_) o3
  ·rw[hold _ (hq e he)]at hy
   have hy2:=A1b (fun h=>hnd.1 (List.mem_append_right _ (List.mem_flatMap.2 ⟨e.2,E8.2 ⟨e,he,rfl⟩,h⟩))) hy;refine⟨Bb2 hy,fun x hx hu hc=> .inr ?_⟩;obtain⟨a,b⟩:=Apl.1 hx;rw[Ajr a]at hu;simp only at hu;exact⟨b,hu,fun h=>hc ((Ay0 a).2 ⟨by omega,h⟩)⟩
  ·obtain⟨a,b⟩:=Apl.1 hx;rw[Ajr a]at hu;exact .inr ⟨b,hu⟩
  ·rw[hsp]at hx;rcases D4.1 hx with h|h
   ·exact absurd h (Apl.1 hl').1
   ·exact List.mem_append_right _ h
 ·rcases D4.1 he with rfl|he
  ·exact .inl rfl
  ·rcases D4.1 he with rfl|he
   ·exact .inr (by simp)
   ·exact .inr (E8.2 ⟨e,Z56 _ he,rfl⟩)
end
section
variable {N:Int} {t:Int->Lk}
def emp (t:Int->Lk)(k x:Int):Lk:=if x=k then⟨(t k).lv,(t k).gn,(t k).ep+1,(t k).up,(t k).ue,0,(t k).nx,(t k).pv⟩else t x
theorem A9i{k:Int}:emp t k k=⟨(t k).lv,(t k).gn,(t k).ep+1,(t k).up,(t k).ue,0,(t k).nx,(t k).pv⟩:=if_pos rfl
theorem A47{k x:Int}(h:x≠k):emp t k x=t x:=if_neg h
theorem Abs (k x:Int):(emp t k x).lv=(t x).lv∧(emp t k x).gn=(t x).gn∧(emp t k x).up=(t x).up∧(emp t k x).ue=(t x).ue∧(emp t k x).nx=(t x).nx∧(emp t k x).pv=(t x).pv:=by
 by_cases h:x=k
 ·subst h;rw[A9i];exact⟨rfl,rfl,rfl,rfl,rfl,rfl⟩
 ·rw[A47 h];exact⟨rfl,rfl,rfl,rfl,rfl,rfl⟩
theorem Ar1{k x:Int}:Lv N (emp t k) x ↔ Lv N t x:=by unfold Lv;rw[(Abs k x).1]
theorem A2j (hE: ∀x,Lv N t x->Lv N t ((t x).up - 1)->(t x).ue≤(t ((t x).up - 1)).ep){k x:Int}(hx:Lv N t x):Cu N (emp t k) x ↔ (t x).up≠k+1∧Cu N t x:=by
 unfold Cu;rw[Ar1,(Abs k x).2.2.1,(Abs k x).2.2.2.1]
 by_cases h:(t x).up - 1=k
 ·rw[h,A9i];simp only;constructor
  ·rintro⟨a,b⟩
   have:=hE x hx (by rw[h];exact a)
   rw[h]at this;omega
  ·rintro⟨a,_⟩;omega
 ·rw[A47 h];exact⟨fun a=>⟨by omega,a⟩,fun a=>a.2⟩
theorem A5s{k x:Int}(hx:(t x).up≠k+1):Cu N (emp t k) x ↔ Cu N t x:=by
 unfold Cu;rw[Ar1,(Abs k x).2.2.1,(Abs k x).2.2.2.1,A47 (by omega)]
theorem A75 (k f:Int):kf N (emp t k) f=kf N t f:=A0n _ _ fun x _=>(Abs k x).2.2.2.2.1
theorem Bnf (k:Int)(n:Nat)(x:Int):rise N (emp t k) n x=rise N t n x:=Azk _ _ fun x _=>(Abs k x).2.2.1
theorem Bng (T:Aui N t)(hE: ∀x,Lv N t x->Lv N t ((t x).up - 1)->(t x).ue≤(t ((t x).up - 1)).ep){k:Int}(hk:Lv N t k):Aui N (emp t k):=by
 refine⟨fun x hx=> ?_,fun x hx=> ?_,fun x h0 h1 h=> ?_⟩
 ·have hl:=Ar1.1 hx
  have X:=T.link x hl;obtain⟨s1,s2,s3,s4,s5,s6⟩:=Abs (t:=t) k x;refine⟨fun h=> ?_,fun h=> ?_,fun h=> ?_,fun h=> ?_,fun h hc=> ?_⟩
  ·by_cases e:x=k
   ·subst e;rw[A9i]at h;exact absurd rfl h
   ·rw[A47 e]at h ⊢;obtain⟨a,b,c,d⟩:=X.first h;obtain⟨q1,q2,q3,q4,q5,q6⟩:=Abs (t:=t) k ((t x).fi - 1);rw[Ar1,q6,q3,q4];exact⟨a,b,c,d⟩
  ·rw[s5]at h ⊢;obtain⟨q1,q2,q3,q4,q5,q6⟩:=Abs (t:=t) k ((t x).nx - 1);rw[Ar1,q6,q3,q4,s3,s4];exact X.next h
  ·rw[s6]at h ⊢;rw[Ar1,(Abs k _).2.2.2.2.1];exact X.prev h
  ·rw[s3]at h ⊢;exact X.up h
  ·rw[s6]at h;obtain⟨a,b⟩:=(A2j hE hl).1 hc;rw[s3,A47 (by omega)]
   exact X.top h b
 ·have hl:=Ar1.1 hx;rw[Bnf];obtain⟨a,b⟩:=T.rise x hl;refine⟨a,fun y hy hc=> ?_⟩
  have hy2:=b y hy
  by_cases e:Lv N t y
  ·exact hy2 ((A2j hE e).1 hc).2
  ·have hin:=Axq _ _ y (List.mem_of_getLast? hy)
   have:=(T.bare y hin.1 hin.2 (by cases q:(t y).lv with|false=>rfl|true=>exact absurd ⟨hin,q⟩ e)).1
   unfold Cu at hc;rw[(Abs k y).2.2.1,this]at hc
   have:=hc.1.1.1;omega
 ·by_cases e:x=k
  ·subst e;rw[A9i]at h;have:=hk.2;simp only at h;rw[h]at this;cases this
  ·rw[A47 e]at h ⊢;exact T.bare x h0 h1 h
theorem Bnh (hE: ∀x,Lv N t x->Lv N t ((t x).up - 1)->(t x).ue≤(t ((t x).up - 1)).ep){k x:Int}(hk:0≤k):Oo N (emp t k) x ↔ Oo N t x∨Lv N t x∧(t x).up=k+1:=by
 unfold Oo;rw[Ar1,(Abs k x).2.2.1];constructor
 ·rintro⟨a,b,c⟩
  by_cases e:(t x).up=k+1
  ·exact .inr ⟨a,e⟩
  ·exact .inl ⟨a,b,fun d=>c ((A2j hE a).2 ⟨e,d⟩)⟩
 ·rintro(⟨a,b,c⟩|⟨a,b⟩)
  ·exact⟨a,b,fun d=>c ((A2j hE a).1 d).2⟩
  ·exact⟨a,by omega,fun d=>((A2j hE a).1 d).1 b⟩
theorem Bb4{qs:List (Int×Int)}(F:Aic N t qs){k:Int}(hg:Al N t k):Aic N (emp t k) (qs++[(0,(t k).fi)]):=by
 obtain⟨r,W⟩:=F.wf;obtain⟨d,U⟩:=F.uw
 have hl:=hg.lv
 have T:=F.tree
 have K:=F.kid
 have hE:=F.ep
 have hflat:qs.flatMap (fun e=>kf N (emp t k) e.2)=(qs.map (·.2)).flatMap (kf N t):=by
  rw[List.flatMap_map];exact Ati fun e _=>A75 k e.2
 have hfl2:((qs++[((0:Int),(t k).fi)]).map (fun e:Int×Int=>e.2)).flatMap (kf N (emp t k))=(qs.map (·.2)).flatMap (kf N t)++kf N t (t k).fi:=by
  rw[G3,List.flatMap_append,List.flatMap_map,hflat];simp[A75]
 refine⟨Bng T hE hl,⟨r,fun x hx h=> ?_⟩,⟨d,fun x hx hc=> ?_⟩,⟨?_,fun x=> ?_,fun f hf h0=> ?_⟩,Bgq _ _ _ (A72 qs [] [] (fun e _=>A75 k e.2) (fun e he y hy=> ?_) (fun e he _ x hx hu=> ?_) (fun x hx=>by cases hx) F.ord) (fun y hy x hx hu hc=> ?_) (fun h=>absurd rfl h),fun x hx h=> ?_,fun x hx h=> ?_,fun e he h0=> ?_⟩
 ·rw[(Abs k x).2.2.2.2.2]at h ⊢;exact W x (Ar1.1 hx) h
 ·rw[(Abs k x).2.2.1];exact U x (Ar1.1 hx) ((A2j hE (Ar1.1 hx)).1 hc).2
 ·rw[hfl2,Agh];exact⟨K.nodup,A1a T W _ hl,fun x h1 h2=>((K.iff x).1 h1).2.2 ((Az4 T W hl x).1 h2).2.2⟩
 ·rw[hfl2,Ho,K.iff,Az4 T W hl,Bnh hE hl.1.1];constructor
  ·rintro(h|⟨a,b,c⟩)
   ·exact .inl h
   ·exact .inr ⟨a,b⟩
  ·rintro(h|⟨b,c⟩)
   ·exact .inl h
   ·by_cases d:Cu N t x
    ·exact .inr ⟨b,c,d⟩
    ·exact .inl ⟨b,by have:=hl.1.1;omega,d⟩
 ·rw[(Abs k _).2.2.2.2.2];rw[G3,Ho]at hf;rcases hf with hf|hf
  ·exact K.top f hf h0
  ·simp only[Z8,Hr,Pl]at hf;subst hf;obtain⟨a,b,_⟩:=(T.link k hl).first h0;exact⟨a.1,b⟩
 ·have hor: ∀x∈kf N t e.2,Oo N t x:=fun x hx=>K.or (E8.2 ⟨e,he,rfl⟩) hx
  have hy2:Dd N t (kf N t e.2) y:=by
   rw[A75]at hy
   induction hy with
   |base h=>exact .base h
   |step a b c ih=>
    rw[(Abs k _).2.2.1]at ih;exact .step (Ar1.1 a) ((A2j hE (Ar1.1 a)).1 b).2 ih
  refine⟨hy2,fun x hx hu hc=> .inr ?_⟩;rw[(Abs k x).2.2.1]at hu
  have hne:y≠k:=fun q=>hg.noDd hor (q ▸ hy2);exact⟨Ar1.1 hx,hu,fun h=>hc ((A5s (by omega)).2 h)⟩
 ·rw[(Abs k x).2.2.1]at hu;exact .inr ⟨Ar1.1 hx,hu⟩
 ·rw[Z38,hflat,K.iff];rw[(Abs k x).2.2.1]at hu
  have hy0:=Dd.in (fun x hx=>Bgp hx) hy
  have hal:Al N (emp t k) k:=by
   clear hy hu hc hx;cases hg with
   |root a b=>exact .root (Ar1.2 a) (by rw[(Abs k _).2.2.1];exact b)
   |step a b c=>
    have key: ∀z,Al N t z->d z<d k->Al N (emp t k) z:=by
     intro z hz
     induction hz with
     |root a b=>intro _;exact .root (Ar1.2 a) (by rw[(Abs k _).2.2.1];exact b)
     | @step z a b c ih=>
      intro h1
      have h2:=U z a b
      have hne:(t z).up≠k+1:=fun q=>by rw[q,Int.add_sub_cancel]at h2;omega
      exact .step (Ar1.2 a) ((A5s hne).2 b) (by rw[(Abs k _).2.2.1];exact ih (by omega))
    have h2:=U k a b
    have hne:(t k).up≠k+1:=fun q=>by rw[q,Int.add_sub_cancel]at h2;omega
    exact .step (Ar1.2 a) ((A5s hne).2 b) (by rw[(Abs k _).2.2.1];exact key _ c h2)
  have hne:y≠k:=fun q=>by
   refine hal.noDd (S:=kf N (emp t k) (t k).fi) (fun z hz=> ?_) (q ▸ hy);rw[A75,Az4 T W hl]at hz;exact(Bnh hE hl.1.1).2 (.inr ⟨hz.1,hz.2.1⟩)
  exact⟨Ar1.1 hx,by omega,fun h=>hc ((A5s (by omega)).2 h)⟩
 ·rw[(Abs k x).2.2.1]at h ⊢;rw[(Abs k _).1,(Abs k _).2.1];exact F.gone x (Ar1.1 hx) h
 ·rw[(Abs k x).2.2.1]at h ⊢;rw[(Abs k x).2.2.2.1]
  have:=hE x (Ar1.1 hx) (Ar1.1 h)
  by_cases e:(t x).up - 1=k
  ·rw[e]at this ⊢;rw[A9i];simp only;omega
  ·rw[A47 e];exact this
 ·rw[(Abs k _).1,(Abs k _).2.1];rcases Ho.1 he with he|he
  ·exact F.slot e he h0
  ·rw[Pl]at he;rw[he]at h0;exact absurd rfl h0
def clr (t:Int->Lk)(k x:Int):Lk:=if x=k then⟨false,false,0,0,0,0,0,0⟩else t x
theorem A76{qs:List (Int×Int)}{s:Int}(F:Aic N t ((s,0)::qs)):Aic N t qs:=by
 obtain⟨o1,o2,o3⟩:=F.ord
 have h0:kf N t 0=[]:=Av9 _
 have K:=F.kid;simp only[h0,List.append_nil]at o3;refine⟨F.tree,F.wf,F.uw,?_,o3,F.gone,F.ep,fun e he=>F.slot e (Z56 _ he)⟩;refine⟨?_,fun x=> ?_,fun f hf=>K.top f (Z56 _ hf)⟩
 ·have:=K.nodup;rw[Z8,List.flatMap_cons,h0,Z38]at this;exact this
 ·have:=K.iff x;rw[Z8,List.flatMap_cons,h0,Z38]at this;exact this
theorem Auj{k:Int}(h:(t k).lv=false){x:Int}:Lv N (clr t k) x ↔ Lv N t x:=by
 unfold Lv clr
 by_cases e:x=k
 ·subst e;rw[if_pos rfl,h]
 ·rw[if_neg e]
theorem Agf{k:Int}(h:(t k).lv=false){x:Int}(hx:Lv N t x):clr t k x=t x:=by
 unfold clr;rw[if_neg];intro e;subst e
 have:=hx.2;rw[h]at this;cases this
theorem A2k{k:Int}(h:(t k).lv=false){x:Int}(hx:Lv N t x):Cu N (clr t k) x ↔ Cu N t x:=by
 unfold Cu;rw[Agf h hx,Auj h];constructor
 ·rintro⟨a,b⟩;rw[Agf h a]at b;exact⟨a,b⟩
 ·rintro⟨a,b⟩;rw[Agf h a];exact⟨a,b⟩
theorem Bb5{qs:List (Int×Int)}{s:Int}(F:Aic N t ((s,0)::qs))(h0:s≠0)(hs: ∀e∈qs,e.1≠s):Aic N (clr t (s - 1)) qs:=by
 have F':=A76 F;obtain⟨r,W⟩:=F.wf;obtain⟨d,U⟩:=F.uw
 have T:=F.tree
 have K:=F'.kid;obtain⟨hlv,hgn⟩:=F.slot (s,0) (by simp) h0
 simp only at hlv hgn
 have hno: ∀x,Lv N t x->(t x).up≠s:=fun x hx e=>by
  have:=F.ord.2.1 h0 x hx e;rw[show kf N t ((s,(0:Int)).2)=[] from Av9 _]at this
  cases this
 have hnl: ∀x,x≠s - 1->clr t (s - 1) x=t x:=fun x h=>if_neg h
 have hup: ∀x,(0≤x∧x<N)->(clr t (s - 1) x).up=(t x).up:=fun x h=>by
  by_cases e:x=s - 1
  ·subst e;rw[(T.bare _ h.1 h.2 hlv).1];unfold clr;rw[if_pos rfl]
  ·rw[hnl x e]
 have hri: ∀n x,rise N (clr t (s - 1)) n x=rise N t n x:=fun n x=>Azk n x fun y hy=>hup y (Axq _ _ y hy)
 have hkf: ∀f∈qs.map (·.2),kf N (clr t (s - 1)) f=kf N t f:=fun f hf=>A0n _ _ fun x hx=>by rw[Agf hlv (K.or hf hx).1]
 have hor: ∀x,Oo N (clr t (s - 1)) x ↔ Oo N t x:=fun x=>by
  unfold Oo;rw[Auj hlv];constructor
  ·rintro⟨a,b,c⟩;rw[Agf hlv a]at b;rw[A2k hlv a]at c;exact⟨a,b,c⟩
  ·rintro⟨a,b,c⟩;rw[Agf hlv a,A2k hlv a];exact⟨a,b,c⟩
 have hdd: ∀S y,Dd N (clr t (s - 1)) S y->Dd N t S y:=fun S y h=>by
  induction h with
  |base h=>exact .base h
  |step a b c ih=>
   have a:=(Auj hlv).1 a;rw[Agf hlv a]at ih;exact .step a ((A2k hlv a).1 b) ih
 refine⟨⟨fun x hx=> ?_,fun x hx=> ?_,fun x h0 h1 h=> ?_⟩,⟨r,fun x hx h=> ?_⟩,⟨d,fun x hx hc=> ?_⟩,⟨?_,fun x=> ?_,fun f hf h1=> ?_⟩,?_,fun x hx h=> ?_,fun x hx h=> ?_,fun e he h1=> ?_⟩
 ·have hl:=(Auj hlv).1 hx
  have X:=T.link x hl;refine⟨fun h=> ?_,fun h=> ?_,fun h=> ?_,fun h=> ?_,fun h hc=> ?_⟩
  ·rw[Agf hlv hl]at h ⊢
   have a:=(X.first h).1;rw[Auj hlv,Agf hlv a];exact X.first h
  ·rw[Agf hlv hl]at h ⊢
   have a:=(X.next h).1;rw[Auj hlv,Agf hlv a];exact X.next h
  ·rw[Agf hlv hl]at h ⊢
   have a:=(X.prev h).1;rw[Auj hlv,Agf hlv a];exact X.prev h
  ·rw[Agf hlv hl]at h ⊢;exact X.up h
  ·have hc:=(A2k hlv hl).1 hc;rw[Agf hlv hl]at h ⊢;rw[Agf hlv hc.1];exact X.top h hc
 ·have hl:=(Auj hlv).1 hx;rw[hri];obtain⟨a,b⟩:=T.rise x hl;refine⟨a,fun y hy hc=>b y hy ?_⟩;unfold Cu at hc ⊢;rw[hup y (Axq _ _ y (List.mem_of_getLast? hy)),Auj hlv]at hc;refine⟨hc.1,?_⟩;rw[←Agf hlv hc.1,hc.2]
  by_cases e:y=s - 1
  ·subst e
   have hin:=Axq _ _ _ (List.mem_of_getLast? hy)
   have:=(T.bare _ hin.1 hin.2 hlv).1;rw[this]at hc
   have:=hc.1.1.1;omega
  ·rw[hnl y e]
 ·by_cases e:x=s - 1
  ·subst e;unfold clr;rw[if_pos rfl];exact⟨rfl,rfl,rfl,rfl⟩
  ·rw[hnl x e]at h ⊢;exact T.bare x h0 h1 h
 ·have hl:=(Auj hlv).1 hx;rw[Agf hlv hl]at h ⊢;exact W x hl h
 ·have hl:=(Auj hlv).1 hx;rw[Agf hlv hl];exact U x hl ((A2k hlv hl).1 hc)
 ·rw[Ati hkf];exact K.nodup
 ·rw[Ati hkf,K.iff,hor]
 ·obtain⟨a,b⟩:=K.top f hf h1;refine⟨a,?_⟩;rw[Agf hlv (K.or hf (A3b a)).1];exact b
 ·have hk: ∀e∈qs,kf N (clr t (s - 1)) e.2=kf N t e.2:=fun e he=>hkf _ (E8.2 ⟨e,he,rfl⟩);refine A72 qs [] [] hk (fun e he y hy=>⟨by rw[←hk e he];exact hdd _ _ hy,fun x hx hu hc=> ?_⟩) (fun e he h1 x hx hu=> ?_) (fun x hx=>by cases hx) F'.ord
  ·have hl:=(Auj hlv).1 hx;rw[Agf hlv hl]at hu;exact .inr ⟨hl,hu,fun h=>hc ((A2k hlv hl).2 h)⟩
  ·have hl:=(Auj hlv).1 hx;rw[Agf hlv hl]at hu;exact .inr ⟨hl,hu⟩
 ·have hl:=(Auj hlv).1 hx;rw[Agf hlv hl]at h ⊢;rw[hnl _ (by have:=hno x hl;omega)]
  exact F.gone x hl h
 ·have hl:=(Auj hlv).1 hx;rw[Agf hlv hl]at h ⊢
  have h2:=(Auj hlv).1 h;rw[Agf hlv h2];exact F.ep x hl h2
 ·rw[hnl _ (by have:=hs e he;omega)]
  exact F'.slot e he h1
end
section
variable {N:Int} {t:Int->Lk}
def ins (t:Int->Lk)(k p x:Int):Lk:=
 if x=k then⟨true,false,0,p+1,if p+1=0 then 0 else(t p).ep,0,if p+1=0 then 0 else(t p).fi,0⟩
 else⟨(t x).lv,(t x).gn,(t x).ep,(t x).up,(t x).ue,if x=p then k+1 else(t x).fi,(t x).nx,if p+1≠0∧x+1=(t p).fi then k+1 else(t x).pv⟩
theorem Aux{k p:Int}:ins t k p k=⟨true,false,0,p+1,if p+1=0 then 0 else(t p).ep,0,if p+1=0 then 0 else(t p).fi,0⟩:=if_pos rfl
theorem Ata{k p x:Int}(h:x≠k):ins t k p x=⟨(t x).lv,(t x).gn,(t x).ep,(t x).up,(t x).ue,if x=p then k+1 else(t x).fi,(t x).nx,if p+1≠0∧x+1=(t p).fi then k+1 else(t x).pv⟩:=if_neg h
theorem Bni: ∀(n:Nat) (x y:Int),y∈rise N t n x->y=x∨ ∃z,z∈rise N t n x∧(t z).up - 1=y:=by
 intro n
 induction n with
 |zero=>intro x y h;cases h
 |succ n ih=>
  intro x y h;rw[rise]at h ⊢;split at h
  ·rename_i h1;rw[if_pos h1];rcases D4.1 h with h|h
   ·exact .inl h
   ·rcases ih _ y h with h|⟨z,h2,h3⟩
    ·exact .inr ⟨x,by simp,h.symm⟩
    ·exact .inr ⟨z,by simp[h2],h3⟩
  ·cases h
theorem Bgr{d:Int->Nat}(U: ∀x,Lv N t x->Cu N t x->d ((t x).up - 1)<d x): ∀(n:Nat) (x:Int),Al N t x->(∀y∈rise N t n x,d y≤d x∧Al N t y)∧(rise N t n x).Pairwise (fun a b=>d b<d a):=by
 intro n
 induction n with
 |zero=>intro x _;exact⟨fun y h=>(by cases h),.nil⟩
 |succ n ih=>
  intro x hx;rw[rise,if_pos hx.lv.1];cases hx with
  |root a b=>
   have:rise N t n ((t x).up - 1)=[]:=by rw[b];cases n with|zero=>rfl|succ n=>rw[rise,if_neg (by omega)]
   rw[this];exact⟨fun y h=>by rw[Pl.1 h];exact⟨Z9 _,.root a b⟩,List.pairwise_singleton ..⟩
  |step a b c=>
   obtain⟨i1,i2⟩:=ih _ c
   have h2:=U x a b;refine⟨fun y h=> ?_,List.pairwise_cons.2 ⟨fun y h=> ?_,i2⟩⟩
   ·rcases D4.1 h with rfl|h
    ·exact⟨Z9 _,.step a b c⟩
    ·obtain⟨j1,j2⟩:=i1 y h;exact⟨by omega,j2⟩
   ·have:=(i1 y h).1;omega
theorem Bdf{qs:List (Int×Int)}(F:Aic N t qs){k p:Int}(hk:0≤k∧k<N)(hlv:(t k).lv=false)(hgn:(t k).gn=false)(hp:p= -1∨Al N t p∧(rise N t N.toNat p).length<4):Aic N (ins t k p) qs:=by
 obtain⟨r,W⟩:=F.wf;obtain⟨d,U⟩:=F.uw
 have T:=F.tree
 have K:=F.kid
 have hne: ∀ {x},Lv N t x->x≠k:=fun {x} h e=>by subst e;rw[h.2]at hlv;cases hlv
 have hno: ∀x,Lv N t x->(t x).up≠k+1:=fun x hx e=>by
  rcases F.gone x hx (by omega)with h|h
  ·rw[e,Int.add_sub_cancel,hlv]at h;cases h
  ·rw[e,Int.add_sub_cancel,hgn]at h;cases h
 have hp0:p+1≠0->Al N t p:=fun h=>by
  rcases hp with rfl|hp
  ·exact absurd rfl h
  ·exact hp.1
 have hp1: ∀x,Lv N t x->x=p->p+1≠0:=fun x hx e=>by have:=hx.1.1;omega
 have L: ∀x,Lv N (ins t k p) x ↔ x=k∨Lv N t x:=fun x=>by
  unfold Lv
  by_cases e:x=k
  ·subst e;rw[Aux];simp[hk]
  ·rw[Ata e];simp[e]
 have hL: ∀ {x},Lv N t x->Lv N (ins t k p) x:=fun h=>(L _).2 (.inr h)
 have hup: ∀x,x≠k->(ins t k p x).up=(t x).up:=fun x h=>by rw[Ata h]
 have C: ∀x,x≠k->(t x).up≠k+1->(Cu N (ins t k p) x ↔ Cu N t x):=fun x h h1=>by
  unfold Cu;rw[L,hup x h,Ata (x:=(t x).up - 1) (by omega),Ata h]
  constructor
  ·rintro⟨a,b⟩;exact⟨a.resolve_left (by omega),b⟩
  ·rintro⟨a,b⟩;exact⟨.inr a,b⟩
 have Ck:p+1≠0->Cu N (ins t k p) k:=fun h=>by
  have:=(hp0 h).lv;unfold Cu;rw[Aux];simp only;rw[Int.add_sub_cancel,if_neg h,Ata (hne this)];exact⟨hL this,rfl⟩
 have Cn:p+1=0-> ¬Cu N (ins t k p) k:=fun h c=>by
  unfold Cu at c;rw[Aux]at c;simp only at c
  have:=c.1.1.1;omega
 have hkf: ∀f∈qs.map (·.2),kf N (ins t k p) f=kf N t f:=fun f hf=>A0n _ _ fun x hx=>by rw[Ata (hne (K.or hf hx).1)]
 have hor: ∀x,Oo N (ins t k p) x ↔ Oo N t x:=fun x=>by
  unfold Oo;rw[L]
  by_cases e:x=k
  ·subst e;constructor
   ·rintro⟨_,b,c⟩;rw[Aux]at b;exact absurd (Ck b) c
   ·rintro⟨a,_⟩;exact absurd rfl (hne a)
  ·rw[hup x e];constructor
   ·rintro⟨a,b,c⟩
    have a:=a.resolve_left e;exact⟨a,b,fun h=>c ((C x e (hno x a)).2 h)⟩
   ·rintro⟨a,b,c⟩;exact⟨.inr a,b,fun h=>c ((C x e (hno x a)).1 h)⟩
 have hrk: ∀x,Lv N t x-> ∀n,k ∉ rise N t n x:=fun x hx n h=>by
  rcases Bni _ _ _ h with h|⟨z,h1,h2⟩
  ·exact hne hx h.symm
  ·by_cases hz:(t z).lv=true
   ·exact hno z ⟨Axq _ _ _ h1,hz⟩ (by omega)
   ·have:=Axq _ _ _ h1
    have:=(T.bare z this.1 this.2 (by simpa using hz)).1
    omega
 have hri: ∀x,Lv N t x-> ∀n,rise N (ins t k p) n x=rise N t n x:=fun x hx n=>Azk n x fun y hy=>hup y fun e=>hrk x hx n (e ▸ hy)
 have hlast: ∀x,Lv N t x-> ∀y,(rise N t N.toNat x).getLast? =some y-> ¬Cu N (ins t k p) y:=fun x hx y hy hc=>by
  have hm:=List.mem_of_getLast? hy
  have hyk:y≠k:=fun e=>hrk x hx _ (e ▸ hm)
  have hin:=Axq _ _ _ hm
  by_cases hz:(t y).lv=true
  ·exact(T.rise x hx).2 y hy ((C y hyk (hno y ⟨hin,hz⟩)).1 hc)
  ·have:=(T.bare y hin.1 hin.2 (by simpa using hz)).1
   unfold Cu at hc;rw[hup y hyk,this]at hc
   have:=hc.1.1.1;omega
 obtain⟨m,hm⟩: ∃m,N.toNat=m+1:=⟨N.toNat - 1,by omega⟩
 have hpk:p+1≠0->rise N (ins t k p) N.toNat k=k::rise N t N.toNat p:=fun h=>by
  have ha:=hp0 h;rw[hm,rise,if_pos hk,Aux];simp only;rw[Int.add_sub_cancel,hri p ha.lv,←hm]
  congr 1
  rw[hm,Bik,List.take_of_length_le];obtain⟨i1,i2⟩:=Bgr U (m+1) p ha
  have:=Bbz (N:=N) (List.nodup_cons.2 ⟨hrk p ha.lv (m+1),i2.imp fun h e=>by rw[e]at h;omega⟩) (fun y hy=>by
   rcases D4.1 hy with rfl|hy
   ·exact hk
   ·exact Axq _ _ y hy)
  simp only[Yy]at this;omega
 refine⟨⟨fun x hx=> ?_,fun x hx=> ?_,fun x h0 h1 h=> ?_⟩,⟨fun x=>if x=k then 0 else r x+1,fun x hx h=> ?_⟩,⟨fun x=>if x=k then d p+1 else d x,fun x hx hc=> ?_⟩,⟨?_,fun x=> ?_,fun f hf h1=> ?_⟩,?_,fun x hx h=> ?_,fun x hx h=> ?_,fun e he h1=> ?_⟩
 ·by_cases e:x=k
  ·subst e;refine⟨fun h=> ?_,fun h=> ?_,fun h=> ?_,fun h=> ?_,fun h hc=> ?_⟩
   ·rw[Aux]at h;exact absurd rfl h
   ·rw[Aux]at h ⊢;simp only at h ⊢
    by_cases hq:p+1=0
    ·rw[if_pos hq]at h;exact absurd rfl h
    ·rw[if_neg hq]at h ⊢;rw[if_neg hq];obtain⟨a,b,c,e⟩:=(T.link p (hp0 hq).lv).first h;rw[Ata (hne a)];simp only;rw[if_pos ⟨hq,by omega⟩]
     exact⟨hL a,rfl,c,e⟩
   ·rw[Aux]at h;exact absurd rfl h
   ·rw[Aux]at h ⊢;simp only at h ⊢;rw[Int.add_sub_cancel];exact(hp0 h).lv.1
   ·by_cases hq:p+1=0
    ·exact absurd hc (Cn hq)
    ·rw[Aux];simp only;rw[Int.add_sub_cancel,Ata (hne (hp0 hq).lv)];simp
  ·have hl:=((L x).1 hx).resolve_left e
   have X:=T.link x hl;refine⟨fun h=> ?_,fun h=> ?_,fun h=> ?_,fun h=> ?_,fun h hc=> ?_⟩
   ·rw[Ata e]at h ⊢;simp only at h ⊢
    by_cases hq:x=p
    ·have hq1:=hp1 x hl hq;rw[if_pos hq,Int.add_sub_cancel,Aux];refine⟨(L k).2 (.inl rfl),rfl,?_,?_⟩
     ·show p+1=x+1;omega
     ·show(if p+1=0 then 0 else(t p).ep)=_;rw[if_neg hq1,hq]
    ·rw[if_neg hq]at h ⊢;obtain⟨a,b,c,f⟩:=X.first h;rw[Ata (hne a)];simp only;rw[if_neg]
     ·exact⟨hL a,b,c,f⟩
     ·rintro⟨g1,g2⟩
      have:=((T.link p (hp0 g1).lv).first (by have:=hl.1;omega)).2.2.1
      rw[←g2,Int.add_sub_cancel]at this;omega
   ·rw[Ata e]at h ⊢;simp only at h ⊢;obtain⟨a,b,c,f⟩:=X.next h;rw[Ata (hne a)];simp only;rw[if_neg]
    ·exact⟨hL a,b,c,f⟩
    ·rintro⟨g1,g2⟩
     have:=((T.link p (hp0 g1).lv).first (by have:=hl.1;omega)).2.1
     rw[←g2,Int.add_sub_cancel]at this
     have:=hl.1;omega
   ·rw[Ata e]at h ⊢;simp only at h ⊢
    by_cases hq:p+1≠0∧x+1=(t p).fi
    ·rw[if_pos hq,Int.add_sub_cancel,Aux];simp only;rw[if_neg hq.1];exact⟨(L k).2 (.inl rfl),hq.2.symm⟩
    ·rw[if_neg hq]at h ⊢;obtain⟨a,b⟩:=X.prev h;rw[Ata (hne a)];exact⟨hL a,b⟩
   ·rw[Ata e]at h ⊢;exact X.up h
   ·have hc:=(C x e (hno x hl)).1 hc;rw[Ata e]at h ⊢;simp only at h ⊢
    by_cases hq:p+1≠0∧x+1=(t p).fi
    ·rw[if_pos hq]at h;omega
    ·rw[if_neg hq]at h
     have:=X.top h hc;rw[Ata (hne hc.1)];simp only;rw[if_neg]
     ·exact this
     ·intro g;rw[g]at this;exact hq ⟨hp1 _ hc.1 g,by omega⟩
 ·by_cases e:x=k
  ·subst e
   by_cases hq:p+1=0
   ·have:rise N (ins t x p) N.toNat x=[x]:=by
     rw[hm,rise,if_pos hk,Aux];simp only;rw[hq];cases m with
     |zero=>rfl
     |succ m=>rw[rise,if_neg (by omega)]
    rw[this];refine⟨by simp,fun y hy=> ?_⟩
    rw[←Hp (show some x=some y from hy)]
    exact Cn hq
   ·rw[hpk hq];rcases hp with rfl|hp
    ·exact absurd rfl hq
    ·refine⟨by simp only[Yy];omega,fun y hy=> ?_⟩
     have:rise N t N.toNat p≠[]:=by rw[hm,rise,if_pos hp.1.lv.1];simp
     rw[List.getLast?_cons]at hy;refine hlast p hp.1.lv y ?_;rw[←hy];cases ha:rise N t N.toNat p with
     |nil=>exact absurd ha this
     |cons a l=>rw[List.getLast?_cons];simp
  ·have hl:=((L x).1 hx).resolve_left e;rw[hri x hl];exact⟨(T.rise x hl).1,hlast x hl⟩
 ·by_cases e:x=k
  ·subst e;rw[Aux]at h;cases h
  ·rw[Ata e]at h ⊢;simp only at h ⊢;obtain⟨a,b,c,f⟩:=T.bare x h0 h1 h;refine⟨a,?_,c,?_⟩
   ·rw[if_neg]
    ·exact b
    ·intro g
     have:=(hp0 (by omega)).lv.2
     rw[←g,h]at this;cases this
   ·rw[if_neg]
    ·exact f
    ·rintro⟨g1,g2⟩
     have:=((T.link p (hp0 g1).lv).first (by omega)).1.2
     rw[←g2,Int.add_sub_cancel,h]at this;cases this
 ·by_cases e:x=k
  ·subst e;rw[Aux]at h;exact absurd rfl h
  ·have hl:=((L x).1 hx).resolve_left e;rw[Ata e]at h ⊢;simp only at h ⊢;simp only[if_neg e]
   by_cases hq:p+1≠0∧x+1=(t p).fi
   ·simp only[if_pos hq,Int.add_sub_cancel,↓reduceIte];omega
   ·rw[if_neg hq]at h ⊢;rw[if_neg (hne ((T.link x hl).prev h).1)]
    have:=W x hl h;omega
 ·by_cases e:x=k
  ·subst e
   by_cases hq:p+1=0
   ·exact absurd hc (Cn hq)
   ·simp only[Aux,Int.add_sub_cancel,if_neg (hne (hp0 hq).lv),↓reduceIte];omega
  ·have hl:=((L x).1 hx).resolve_left e
   have hc:=(C x e (hno x hl)).1 hc;rw[hup x e];simp only[if_neg e,if_neg (hne hc.1)];exact U x hl hc
 ·rw[Ati hkf];exact K.nodup
 ·rw[Ati hkf,K.iff,hor]
 ·obtain⟨a,b⟩:=K.top f hf h1
  have ho:=K.or hf (A3b (N:=N) (t:=t) a);refine⟨a,?_⟩;rw[Ata (hne ho.1)];simp only;rw[if_neg]
  ·exact b
  ·rintro⟨g1,g2⟩
   have hpl:=(hp0 g1).lv;obtain⟨_,_,c3,c4⟩:=(T.link p hpl).first (by omega)
   rw[←g2,Int.add_sub_cancel]at c3 c4;exact ho.2.2 (by unfold Cu;rw[c3,c4,Int.add_sub_cancel];exact⟨hpl,rfl⟩)
 ·have hk2: ∀e∈qs,kf N (ins t k p) e.2=kf N t e.2:=fun e he=>hkf _ (E8.2 ⟨e,he,rfl⟩);refine A72 qs [] [] hk2 (fun e he y hy=> ?_) (fun e he h1 x hx hu=> ?_) (fun x hx=>by cases hx) F.ord
  ·have hS: ∀x∈kf N t e.2,Oo N t x:=fun x hx=>K.or (E8.2 ⟨e,he,rfl⟩) hx;rw[hk2 e he]at hy
   have hy2:Dd N t (kf N t e.2) y:=by
    induction hy with
    |base h=>exact .base h
    | @step y a b c ih=>
     by_cases q:y=k
     ·subst q
      by_cases hq:p+1=0
      ·exact absurd b (Cn hq)
      ·rw[Aux]at ih;simp only at ih;rw[Int.add_sub_cancel]at ih;exact absurd ih ((hp0 hq).noDd hS)
     ·have hl:=((L y).1 a).resolve_left q;rw[hup y q]at ih;exact .step hl ((C y q (hno y hl)).1 b) ih
   refine⟨hy2,fun x hx hu hc=> .inr ?_⟩
   by_cases q:x=k
   ·subst q
    by_cases hq:p+1=0
    ·rw[Aux]at hu;simp only at hu
     have:=Dd.in (fun x hx=>Bgp hx) hy2;omega
    ·exact absurd (Ck hq) hc
   ·have hl:=((L x).1 hx).resolve_left q;rw[hup x q]at hu;exact⟨hl,hu,fun h=>hc ((C x q (hno x hl)).2 h)⟩
  ·by_cases q:x=k
   ·subst q;rw[Aux]at hu;simp only at hu
    have:=(hp0 (by omega)).lv.2
    have h3:=(F.slot e he h1).1;rw[←hu,Int.add_sub_cancel,this]at h3;cases h3
   ·have hl:=((L x).1 hx).resolve_left q;rw[hup x q]at hu;exact .inr ⟨hl,hu⟩
 ·by_cases e:x=k
  ·subst e;rw[Aux]at h ⊢;simp only at h ⊢;rw[Int.add_sub_cancel,Ata (hne (hp0 h).lv)];exact .inl (hp0 h).lv.2
  ·have hl:=((L x).1 hx).resolve_left e;rw[hup x e]at h ⊢;rw[Ata (by have:=hno x hl;omega)]
   exact F.gone x hl h
 ·by_cases e:x=k
  ·subst e;rw[Aux]at h ⊢;simp only at h ⊢
   by_cases hq:p+1=0
   ·have:=h.1.1;omega
   ·rw[if_neg hq,Int.add_sub_cancel,Ata (hne (hp0 hq).lv)];exact Int.le_refl _
  ·have hl:=((L x).1 hx).resolve_left e;rw[hup x e]at h ⊢
   have hu:=hno x hl
   have h2:=((L _).1 h).resolve_left (by omega)
   rw[Ata e,Ata (hne h2)];exact F.ep x hl h2
 ·have:=F.slot e he h1
  have q:e.1 - 1≠k:=fun q=>by rw[q]at this;rw[this.2]at hgn;cases hgn
  rw[Ata q];exact this
end
theorem sb1{x:Int}(h0: -1000000000≤x)(h1:x≤1000000000):Aqd .i64 x 1=x - 1:=by unfold Aqd;rw[Abf (by omega) (by omega)]
theorem ad1{x:Int}(h0: -1000000000≤x)(h1:x≤1000000000):Aqc .i64 x 1=x+1:=by unfold Aqc;rw[Abf (by omega) (by omega)]
def A1d (n:Bg):Lk:=⟨n.Ja==1,n.Ja==2,n.Js,n.fUp,n.Hf,n.B5,n.Hg,n.Hh⟩
def AtT (l:List Bg)(t:Int->Lk):Prop:= ∀k,0≤k∧k<(l.length:Int)->t k=A1d (gt l k)
structure Rg (l:List Bg):Prop where
 len:l.length≤8
 rg: ∀k,0≤k∧k<(l.length:Int)->(0≤(gt l k).fUp∧(gt l k).fUp≤l.length)∧(0≤(gt l k).B5∧(gt l k).B5≤l.length)∧(0≤(gt l k).Hg∧(gt l k).Hg≤l.length)∧(0≤(gt l k).Hh∧(gt l k).Hh≤l.length)
theorem Avz{l:List Bg}{t:Int->Lk}(A:AtT l t){k:Int}:Lv l.length t k ↔ (0≤k∧k<(l.length:Int))∧(gt l k).Ja=1:=by
 unfold Lv;constructor
 ·rintro⟨a,b⟩;rw[A _ a]at b;exact⟨a,by simpa[A1d]using b⟩
 ·rintro⟨a,b⟩;rw[A _ a];exact⟨a,by simpa[A1d]using b⟩
theorem Bnj{l:List Bg}{t:Int->Lk}(A:AtT l t)(R:Rg l): ∀(n:Nat) (k:Int),Az1 l n k=Atq l.length t n k:=by
 intro n
 induction n with
 |zero=>intro k;rfl
 |succ n ih=>
  intro k;rw[Az1,Atq];split
  ·rename_i h
   have:=(R.rg k h).2.2.1
   have:=R.len;rw[A _ h,sb1 (by omega) (by omega),ih];rfl
  ·rfl
theorem A3c{l:List Bg}{t:Int->Lk}(A:AtT l t)(R:Rg l): ∀(n:Nat) (k:Int),Ak5 l n k=rise l.length t n k:=by
 intro n
 induction n with
 |zero=>intro k;rfl
 |succ n ih=>
  intro k;rw[Ak5,rise];split
  ·rename_i h
   have:=(R.rg k h).1
   have:=R.len;rw[A _ h,sb1 (by omega) (by omega),ih];rfl
  ·rfl
theorem Bnk{l:List Bg}{t:Int->Lk}(A:AtT l t)(R:Rg l){f:Int}(h0:0≤f)(h1:f≤1000):Ar4 l f=kf l.length t f:=by
 unfold Ar4 kf;rw[sb1 (by omega) (by omega),Bnj A R,Int.toNat_natCast]
theorem A3d{l:List Bg}{n:Int}(h0:0≤n)(h1:n≤1000):plB l n=true ↔ 0≤n - 1∧n - 1<(l.length:Int):=by
 unfold plB;rw[sb1 (by omega) (by omega),decide_eq_true_iff]
theorem A3e{l:List Bg}{t:Int->Lk}(A:AtT l t)(R:Rg l){k:Int}(h:0≤k∧k<(l.length:Int)):A10 l k=true ↔ Cu l.length t k:=by
 have h1:=(R.rg k h).1
 have h2:=R.len;unfold A10 Cu;rw[Z4,Z4,A3d h1.1 (by omega),beq_iff_eq,beq_iff_eq,sb1 (by omega) (by omega),A _ h]
 show _ ↔ Lv _ _ ((gt l k).fUp - 1)∧(t ((gt l k).fUp - 1)).ep=(gt l k).Hf;rw[Avz A];constructor
 ·rintro⟨a,b,c⟩;rw[A _ a];exact⟨⟨a,b⟩,c⟩
 ·rintro⟨⟨a,b⟩,c⟩;rw[A _ a]at c;exact⟨a,b,c⟩
theorem Bdg{l:List Bg}{t:Int->Lk}(A:AtT l t)(R:Rg l){k:Int}(h:0≤k∧k<(l.length:Int)):Az2 l k=true ↔ Oo l.length t k:=by
 unfold Az2 Oo;rw[Z4,Z4,beq_iff_eq,bne_iff_ne,Z44,Avz A,←A3e A R h,A _ h,Bool.not_eq_true];exact⟨fun⟨a,b,c⟩=>⟨⟨h,a⟩,b,c⟩,fun⟨⟨_,a⟩,b,c⟩=>⟨a,b,c⟩⟩
theorem A77{l:List Bg}{t:Int->Lk}(A:AtT l t){n:Int}(h0:0≤n)(h1:n≤1000):Aw6 l n=true ↔ (n≠0->Lv l.length t (n - 1)):=by
 unfold Aw6;rw[Bool.or_eq_true,beq_iff_eq,Z4,A3d h0 h1,beq_iff_eq,Avz A,sb1 (by omega) (by omega)]
 constructor
 ·rintro(h|h) h2
  ·exact absurd h h2
  ·exact h
 ·intro h
  by_cases e:n=0
  ·exact .inl e
  ·exact .inr (h e)
theorem Bfj{a:Int}{b:Bool}{P:Prop}(h:b=true ↔ P):(a==0||b)=true ↔ (a≠0->P):=by
 rw[Bool.or_eq_true,beq_iff_eq,h];constructor
 ·rintro(h|h) h2
  ·exact absurd h h2
  ·exact h
 ·intro h
  by_cases e:a=0
  ·exact .inl e
  ·exact .inr (h e)
theorem A9j{l:List Bg}{t:Int->Lk}(A:AtT l t)(R:Rg l){k:Int}(h:0≤k∧k<(l.length:Int)):A2b l k=true ↔ Bm7 l.length t k:=by
 obtain⟨r1,r2,r3,r4⟩:=R.rg k h
 have h2:=R.len
 have eg: ∀n,Lv l.length t n->t n=A1d (gt l n):=fun n hn=>A _ hn.1
 have ek:=A _ h;unfold A2b A4o Brj Bmy Bie Be9;rw[ad1 (by omega) (by omega),sb1 (x:=(gt l k).B5) (by omega) (by omega),sb1 (x:=(gt l k).Hg) (by omega) (by omega),sb1 (x:=(gt l k).Hh) (by omega) (by omega),sb1 (x:=(gt l k).fUp) (by omega) (by omega)]
 simp only[Z4,A77 A r2.1 (by omega:(gt l k).B5≤1000),A77 A r3.1 (by omega:(gt l k).Hg≤1000),A77 A r4.1 (by omega:(gt l k).Hh≤1000),Bfj (A3d r1.1 (by omega:(gt l k).fUp≤1000)),Bfj Bool.and_eq_true_iff,Bfj beq_iff_eq,beq_iff_eq]
 constructor
 ·rintro⟨⟨a1,a2,a3,a4⟩,a5,a6,a7,a8⟩;refine⟨?_,?_,?_,?_,?_⟩
  ·rw[ek];intro q;have:=a1 q;rw[show(A1d (gt l k)).fi=(gt l k).B5 from rfl,eg _ this];exact⟨this,a5 q⟩
  ·rw[ek];intro q;have:=a2 q;rw[show(A1d (gt l k)).nx=(gt l k).Hg from rfl,eg _ this];exact⟨this,a6 q⟩
  ·rw[ek];intro q;have:=a3 q;rw[show(A1d (gt l k)).pv=(gt l k).Hh from rfl,eg _ this];exact⟨this,a7 q⟩
  ·rw[ek];exact a4
  ·rw[ek];intro q c
   have hc:=(A3e A R h).2 c
   have hu:=c.1;rw[ek]at hu
   have hu:Lv l.length t ((gt l k).fUp - 1):=hu;rw[show(A1d (gt l k)).up=(gt l k).fUp from rfl,eg _ hu]
   rw[show(A1d (gt l k)).pv=(gt l k).Hh from rfl]at q
   rw[q,hc]at a8
   show(gt l ((gt l k).fUp - 1)).B5=k+1;simpa using a8
 ·intro L;obtain⟨a1,a2,a3,a4,a5⟩:=L;rw[ek]at a1 a2 a3 a4 a5;refine⟨⟨fun q=>(a1 q).1,fun q=>(a2 q).1,fun q=>(a3 q).1,a4⟩,fun q=> ?_,fun q=> ?_,fun q=> ?_,?_⟩
  ·obtain⟨b1,b2,b3,b4⟩:=a1 q;rw[eg _ b1]at b2 b3 b4;exact⟨b2,b3,b4⟩
  ·obtain⟨b1,b2,b3,b4⟩:=a2 q;rw[eg _ b1]at b2 b3 b4;exact⟨b2,b3,b4⟩
  ·obtain⟨b1,b2⟩:=a3 q;rw[eg _ b1]at b2;exact b2
  ·by_cases q:(gt l k).Hh=0
   ·cases hc:A10 l k with
    |false=>simp
    |true=>
     have c:=(A3e A R h).1 hc
     have hu:=c.1;rw[ek]at hu
     have:=a5 q c;rw[eg _ hu]at this;simp only[Bool.or_eq_true,beq_iff_eq];exact .inr this
   ·rw[Aky q];rfl
theorem Bnl{r:List Int}(h:r≠[]):r.getLast? =some (A9a r):=by
 unfold A9a;rw[Abh (by have:=List.length_pos_iff.2 h;omega),List.getLast?_eq_getElem?]
 exact Fk _
theorem Bnm{l:List Bg}{t:Int->Lk}(A:AtT l t)(R:Rg l)(hb: ∀k,0≤k∧k<(l.length:Int)->(gt l k).Ja≠1->(gt l k).fUp=0∧(gt l k).B5=0∧(gt l k).Hg=0∧(gt l k).Hh=0):A9b l=true ↔ Aui l.length t:=by
 have key: ∀k,0≤k∧k<(l.length:Int)->(A07 l k=true ↔ (rise l.length t (l.length:Int).toNat k).length≤4∧ ∀x,(rise l.length t (l.length:Int).toNat k).getLast? =some x-> ¬Cu l.length t x):=by
  intro k h;unfold A07
  have hne:Ak5 l l.length k≠[]:=fun e=>by have:=A7u h;rw[e]at this;exact absurd this (Nat.lt_irrefl _)
  have hin:=Bgj h;rw[Int.toNat_natCast,←A3c A R,Z4,decide_eq_true_iff,Z44,Bnl hne];constructor
  ·rintro⟨a,b⟩;refine⟨by omega,fun x hx hc=> ?_⟩
   rw[←Hp hx,←A3e A R hin,b]at hc;cases hc
  ·rintro⟨a,b⟩;refine⟨by omega,?_⟩
   have:=b _ rfl;rw[←A3e A R hin]at this;simpa using this
 unfold A9b;rw[Z1];constructor
 ·intro h
  have h2: ∀k,Lv l.length t k->A2b l k=true∧A07 l k=true:=by
   intro k hk;obtain⟨a,b⟩:=(Avz A).1 hk
   have:=h k.toNat (by simp;omega)
   rw[show((k.toNat:Nat):Int)=k by omega,b]at this
   simpa using this
  exact⟨fun k hk=>(A9j A R hk.1).1 (h2 k hk).1,fun k hk=>(key k hk.1).1 (h2 k hk).2,fun k h0 h1 hl=>by
   rw[A _ ⟨h0,h1⟩]at hl ⊢;exact hb k ⟨h0,h1⟩ (by simpa[A1d]using hl)⟩
 ·intro T k hk;rw[List.mem_range]at hk
  by_cases e:(gt l (k:Int)).Ja=1
  ·have hl:=(Avz A).2 ⟨⟨by omega,by omega⟩,e⟩
   rw[(A9j A R hl.1).2 (T.link _ hl),(key _ hl.1).2 (T.rise _ hl)];simp
  ·simp[e]
def Ar2 (st gen:Int):Bg:=Bg.mk st gen 0 0 0 0 0 0 [] 0 0 [] []
structure Ava (c:Fa)(n:Bg):Prop where
 conf:Alm c=true
 st:n.Ja=1
 gen:1≤n.Bz∧n.Bz≤c.E0
 up:0≤n.fUp∧n.fUp≤c.Db
 first:0≤n.B5∧n.B5≤c.Db
 next:0≤n.Hg∧n.Hg≤c.Db
 prev:0≤n.Hh∧n.Hh≤c.Db
 ep:0≤n.Js
 ue:0≤n.Hf
 dist:Auw c n.Af=true
 cur:A5h c n=true
 nth:n.Er.length≤12
 ntag:n.Dt.length≤6
 tags:n.Dt.all (fun x=>inB x 0 255)=true
 things:n.Er.all (Ard c)=true
theorem Ajx{c:Fa}{n:Bg}:Aso c n=true∧n.Ja=1 ↔ Ava c n:=by
 unfold Aso Bc1;constructor
 ·rintro⟨h,h1⟩;rw[h1]at h;simp only[Z4,Abm,bne_self_eq_false,cond_false,Z44,decide_eq_false_iff_not,decide_eq_true_eq]at h;obtain⟨a,_,b,⟨c1,c2,c3,c4⟩,⟨d1,d2⟩,⟨e1,e2⟩,⟨f1,f2⟩,g1,g2⟩:=h;exact⟨a,h1,b,c1,c2,c3,c4,by omega,by omega,e1,e2,by omega,by omega,g1,g2⟩
 ·intro h;refine⟨?_,h.st⟩;rw[h.st];simp only[Z4,Abm,bne_self_eq_false,cond_false,Z44,decide_eq_false_iff_not,decide_eq_true_eq];exact⟨h.conf,by omega,h.gen,⟨h.up,h.first,h.next,h.prev⟩,⟨by have:=h.ep;omega,by have:=h.ue;omega⟩,⟨h.dist,h.cur⟩,⟨by have:=h.nth;omega,by have:=h.ntag;omega⟩,h.tags,h.things⟩
theorem Aw4{c:Fa}{n:Bg}(h:Aso c n=true)(h1:n.Ja≠1):n=Ar2 n.Ja n.Bz:=by
 have:=A89 h h1;unfold A7r at this;simp only[Z4,beq_iff_eq]at this;obtain⟨a1,a2,a3,a4,a5,a6,a7,a8,a9,a10,a11⟩:=this;cases n;simp only at a1 a2 a3 a4 a5 a6 a7 a8 a9 a10 a11;unfold Ar2;simp only[a1,a2,a3,a4,a5,a6,a8,a9,Mv.1 (Int.ofNat_eq_zero.1 a7),Mv.1 (Int.ofNat_eq_zero.1 a10),Mv.1 (Int.ofNat_eq_zero.1 a11)]
theorem A1t{c:Fa}(hc:Alm c=true){st gen:Int}(h0:0≤st∧st≤3)(h1:st≠1)(h2:1≤gen∧gen≤c.E0):Aso c (Ar2 st gen)=true:=by
 unfold Aso;rw[hc]
 show(true&&(inB st 0 3&&(inB gen 1 c.E0&&(bif st != 1 then A7r (Ar2 st gen)else _))))=true
 rw[Aue h1,Abm.2 h0,Abm.2 h2];rfl
theorem Ay1{c:Fa}{n:Bg}(h:Aso c n=true):Alm c=true∧(0≤n.Ja∧n.Ja≤3)∧1≤n.Bz∧n.Bz≤c.E0:=by
 unfold Aso at h;simp only[Z4,Abm]at h;exact⟨h.1,h.2.1,h.2.2.1⟩
theorem A2l{c:Fa}{n:Bg}(h:Aso c n=true):(0≤n.fUp∧n.fUp≤c.Db)∧(0≤n.B5∧n.B5≤c.Db)∧(0≤n.Hg∧n.Hg≤c.Db)∧(0≤n.Hh∧n.Hh≤c.Db):=by
 by_cases e:n.Ja=1
 ·have:=Ajx.1 ⟨h,e⟩;exact⟨this.up,this.first,this.next,this.prev⟩
 ·rw[Aw4 h e];obtain⟨_,_,b,_⟩:=Ap (Ay1 h).1;exact⟨⟨Int.le_refl _,by simp[Ar2];omega⟩,⟨Int.le_refl _,by simp[Ar2];omega⟩,⟨Int.le_refl _,by simp[Ar2];omega⟩,⟨Int.le_refl _,by simp[Ar2];omega⟩⟩
theorem A48{c:Fa}{n:Bg}(h:Aso c n=true):Auw c n.Af=true:=by
 by_cases e:n.Ja=1
 ·exact(Ajx.1 ⟨h,e⟩).dist
 ·rw[Aw4 h e];rfl
def Awb (q:List A3):List (Int×Int):=q.map (fun x=>(x.As,x.B5))
structure Inv (w:Es):Prop where
 pool:Ax0 w.fC w.fP=true
 len:(w.fL.length:Int)=w.fC.Db
 node: ∀k,0≤k∧k<(w.fL.length:Int)->Aso w.fC (gt w.fL k)=true
 own: ∀k,0≤k∧k<(w.fL.length:Int)-> ∀c,c∈(gt w.fL k).Af ↔ (0≤c∧c<w.fC.Af)∧gt w.fP.Ja c=1∧gt w.fP.Gm c=k
 thing: ∀k,0≤k∧k<(w.fL.length:Int)->(gt w.fL k).Er.all (Ar5 w.fC (gt w.fL k).Af)=true∧Ank (gt w.fL k).Er=true∧Asm w.fC w.fP.Gl (gt w.fL k)=true
 forest: ∃t,AtT w.fL t∧Aic w.fL.length t (Awb w.fQ)
 wrec: ∀x∈w.fQ,Apj w.fC x=true∧Apk w x=true
 chn:(chL w.fQ).Nodup
 chi: ∀c,c∈chL w.fQ ↔ (0≤c∧c<w.fC.Af)∧gt w.fP.Ja c=2
 sln:(slL w.fQ).Nodup
 sli: ∀s,s∈slL w.fQ ↔ (0≤s∧s<(w.fL.length:Int))∧(gt w.fL s).Ja=2
 log:w.Rl.all (fun x=>inB x 0 255)=true
theorem Inv.conf{w:Es}(I:Inv w):Alm w.fC=true:=(Av5 I.pool).1
theorem Inv.rg{w:Es}(I:Inv w):Rg w.fL:=by
 obtain⟨_,_,b,_⟩:=Ap I.conf
 have:=I.len;refine⟨by omega,fun k hk=> ?_⟩
 rw[I.len];exact A2l (I.node k hk)
theorem Inv.live{w:Es}(I:Inv w){t:Int->Lk}(A:AtT w.fL t){k:Int}(h:Lv w.fL.length t k):Ava w.fC (gt w.fL k):=Ajx.1 ⟨I.node k ((Avz A).1 h).1,((Avz A).1 h).2⟩
theorem Bb7{N:Nat}{l:List Int}(hn:l.Nodup){k:Nat}(hk:k<N)(h:(k:Int)∈l):(gt (A4q N l) (k:Int)==1)=true:=by
 rw[A0j (by omega) (by omega),hn.count,if_pos h];rfl
theorem Inv.chunks{w:Es}(I:Inv w){k:Int}(hk:0≤k∧k<(w.fL.length:Int)):A1p w.fP k (gt w.fL k).Af=true:=by
 obtain⟨_,_,hst,hown,_⟩:=Av5 I.pool
 have hd:=Aw8 (A48 (I.node k hk))
 have hs:=(A8z w.fP k).imp (fun {a b} (h:a<b)=>Int.ne_of_lt h)
 have hm: ∀x,x∈Atf w.fP k ↔ x∈(gt w.fL k).Af:=by
  intro x;rw[I.own k hk x];unfold Atf;rw[Au9];simp only[Z4,beq_iff_eq];constructor
  ·rintro⟨⟨a,b⟩,c⟩;rw[show((x.toNat:Nat):Int)=x by omega]at c
   exact⟨⟨a,by omega⟩,c⟩
  ·rintro⟨⟨a,b⟩,c⟩;refine⟨⟨a,by omega⟩,?_⟩
   rw[show((x.toNat:Nat):Int)=x by omega]
   exact c
 unfold A1p;rw[Z4,Z1,beq_iff_eq];refine⟨fun x hx=>List.contains_iff_mem.2 ((hm x).1 hx),?_⟩
 have h1:=Aw9 (o:=Atf w.fP k) (l:=(gt w.fL k).Af) hs (fun x hx=>(hm x).1 hx)
 have h2:=Aw9 (o:=(gt w.fL k).Af) (l:=Atf w.fP k) hd (fun x hx=>(hm x).2 hx);omega
theorem Bb8{q:List A3}{x:A3}(hx:x∈q){c:Int}(h:c∈x.Af):c∈chL q:=List.mem_flatMap.2 ⟨x,hx,h⟩
theorem Bgs{q:List A3}{x:A3}(hx:x∈q)(h:x.As≠0):Aqd .i64 x.As 1∈slL q:=List.mem_flatMap.2 ⟨x,hx,by rw[if_neg h];simp⟩
theorem Inv.first{w:Es}(I:Inv w){x:A3}(hx:x∈w.fQ):0≤x.B5∧x.B5≤8:=by
 obtain⟨_,_,b,_⟩:=Ap I.conf
 have:=(Ath (I.wrec x hx).1).2.2.1;omega
theorem Inv.qs{w:Es}{x:A3}(hx:x∈w.fQ):x.B5∈(Awb w.fQ).map (fun e:Int×Int=>e.2):=by
 unfold Awb;rw[Da,E8];exact⟨x,hx,rfl⟩
theorem Inv.waste{w:Es}(I:Inv w){x:A3}(hx:x∈w.fQ):Ar0 w x=true:=by
 obtain⟨b1,_,b,_⟩:=Ap I.conf;obtain⟨h1,h2⟩:=I.wrec x hx;obtain⟨_,r1,r2,r3,_⟩:=Ath h1
 have hf:=I.first hx;obtain⟨t,A,F⟩:=I.forest;unfold Ar0;simp only[Z4];refine⟨h1,?_,h2,?_,?_,?_⟩
 ·unfold A5q;rw[Z1];intro c hc;rw[beq_iff_eq];exact((I.chi c).1 (Bb8 hx hc)).2
 ·unfold Ayx
  by_cases e:x.As=0
  ·rw[e];rfl
  ·rw[((I.sli _).1 (Bgs hx e)).2];simp
 ·unfold A08
  by_cases e:x.B5=0
  ·rw[e];rfl
  ·obtain⟨a,b⟩:=F.kid.top _ (Inv.qs hx) e;rw[sb1 (by omega) (by omega)]
   rw[A _ a]at b
   have b:(gt w.fL (x.B5 - 1)).Hh=0:=b;rw[b];simp
 ·unfold Aw0;rw[Z1];intro k hk
  have hin:=A7v _ _ k hk;rw[Bnk A I.rg hf.1 (by omega)]at hk
  exact(Bdg A I.rg hin).2 (F.kid.or (Inv.qs hx) hk)
theorem Bgt{w:Es}(I:Inv w){t:Int->Lk}(A:AtT w.fL t):kdL w.fL w.fQ=((Awb w.fQ).map (fun e:Int×Int=>e.2)).flatMap (kf w.fL.length t):=by
 unfold kdL Awb;rw[Da,List.flatMap_map];exact Ati fun x hx=>by
  have hf:=I.first hx;exact Bnk A I.rg hf.1 (by omega)
theorem Inv.fin{w:Es}(I:Inv w):Ayi w w.fC.Af.toNat=true:=by
 obtain⟨_,_,hst,hown,_⟩:=Av5 I.pool;obtain⟨t,A,F⟩:=I.forest;unfold Ayi;rw[Z4,Z1,Z1];refine⟨fun k hk=> ?_,fun k hk=> ?_⟩
 ·rw[List.mem_range]at hk;cases e:(gt w.fP.Ja (k:Int)==2)with
  |false=>rfl
  |true=>exact Bb7 I.chn (by omega) ((I.chi _).2 ⟨⟨by omega,by omega⟩,by simpa using e⟩)
 ·rw[List.mem_range]at hk;rw[Z4];constructor
  ·cases e:((gt w.fL (k:Int)).Ja==2)with
   |false=>rfl
   |true=>exact Bb7 I.sln hk ((I.sli _).2 ⟨⟨by omega,by omega⟩,by simpa using e⟩)
  ·cases e:Az2 w.fL (k:Int)with
   |false=>rfl
   |true=>
    refine Bb7 (by rw[Bgt I A];exact F.kid.nodup) hk ?_
    rw[Bgt I A,F.kid.iff];exact(Bdg A I.rg ⟨by omega,by omega⟩).1 e
theorem Inv.ok{w:Es}(I:Inv w):Bbu w=true:=by
 obtain⟨t,A,F⟩:=I.forest;unfold Bbu;simp only[Z4,beq_iff_eq];refine⟨I.pool,I.len,?_,?_,⟨?_,I.fin⟩,I.log⟩
 ·rw[Z1];intro k hk;rw[List.mem_range]at hk
  have hk2:0≤(k:Int)∧(k:Int)<(w.fL.length:Int):=⟨by omega,by omega⟩
  obtain⟨t1,t2,t3⟩:=I.thing k hk2;unfold Bc4;rw[I.node k hk2,I.chunks hk2,t1,t2,t3];rfl
 ·refine(Bnm A I.rg fun k hk h=> ?_).2 F.tree;rw[Aw4 (I.node k hk) h];exact⟨rfl,rfl,rfl,rfl⟩
 ·rw[Z1];exact fun x hx=>I.waste hx
def lnk (n:Bg)(fi nx pv:Int):Bg:=Bg.mk n.Ja n.Bz n.Js n.fUp n.Hf fi nx pv n.Af n.Rk n.Hi n.Er n.Dt
theorem Apo{l:List Bg}{j x:Int}(hj:0≤j∧j<(l.length:Int))(hx:0≤x∧x<(l.length:Int))(v:Bg):gt (l.set j.toNat v) x=if x=j then v else gt l x:=by
 by_cases e:x=j
 ·subst e;rw[if_pos rfl,Ayk hj]
 ·rw[if_neg e,Ayl hj.1 hx (Ne.symm e)]
theorem Bdh{l:List Bg}{n:Int}(h0:0≤n)(h1:n≤l.length)(h2:l.length≤8):plB l n= !(n==0):=by
 have:=A3d (l:=l) h0 (by omega:n≤1000)
 by_cases e:n=0
 ·rw[e];rw[e]at this;cases h:plB l 0 with
  |false=>rfl
  |true=>have:=this.1 h;omega
 ·rw[this.2 ⟨by omega,by omega⟩,Aky e];rfl
theorem A5t{l:List Bg}(R:Rg l){k x:Int}(hk:0≤k∧k<(l.length:Int))(hx:0≤x∧x<(l.length:Int)):
  gt (A29 l k) x=lnk (gt l x) (if(gt l k).Hh=0∧x+1=(gt l k).fUp∧(gt l x).B5=k+1 then(gt l k).Hg else(gt l x).B5) (if x+1=(gt l k).Hh then(gt l k).Hg else(gt l x).Hg) (gt l x).Hh:=by
 obtain⟨r1,r2,r3,r4⟩:=R.rg k hk
 have hl:=R.len;unfold A29;rw[Bdh r4.1 r4.2 hl,Bdh r1.1 r1.2 hl,sb1 (x:=(gt l k).Hh) (by omega) (by omega),sb1 (x:=(gt l k).fUp) (by omega) (by omega),ad1 (by omega) (by omega)]
 by_cases h:(gt l k).Hh=0
 ·rw[h];simp only[beq_self_eq_true,Bool.not_true,cond_false,Z30];rw[if_neg (by omega: ¬x+1=0)]
  by_cases h2:(gt l k).fUp=0
  ·rw[h2,if_neg (by omega)];rfl
  ·rw[Aky h2];simp only[Bool.not_false,Z30]
   by_cases h3:(gt l ((gt l k).fUp - 1)).B5=k+1
   ·rw[h3,beq_self_eq_true,cond_true,Apo (by omega) hx]
    by_cases e:x=(gt l k).fUp - 1
    ·rw[if_pos e,e,h3,if_pos ⟨trivial,by omega,rfl⟩];rfl
    ·rw[if_neg e,if_neg (by omega)];rfl
   ·rw[Aky h3,cond_false,if_neg]
    ·rfl
    ·rintro⟨_,a,b⟩;rw[←a,Int.add_sub_cancel]at h3;exact h3 b
 ·rw[Aky h];simp only[Bool.not_false,cond_true];rw[Apo (by omega) hx,if_neg (fun q:(gt l k).Hh=0∧x+1=(gt l k).fUp∧(gt l x).B5=k+1=>h q.1)]
  by_cases e:x=(gt l k).Hh - 1
  ·have e2:x+1=(gt l k).Hh:=by omega
   rw[if_pos e,if_pos e2,←e];rfl
  ·have e2: ¬x+1=(gt l k).Hh:=by omega
   rw[if_neg e,if_neg e2];rfl
theorem A1e{l:List Bg}(R:Rg l){k x:Int}(hk:0≤k∧k<(l.length:Int))(hx:0≤x∧x<(l.length:Int))(hne:x≠k):
  gt (Aqy l k) x=lnk (gt l x) (if(gt l k).Hh=0∧x+1=(gt l k).fUp∧(gt l x).B5=k+1 then(gt l k).Hg else(gt l x).B5) (if x+1=(gt l k).Hh then(gt l k).Hg else(gt l x).Hg) (if x+1=(gt l k).Hg then(gt l k).Hh else(gt l x).Hh):=by
 obtain⟨r1,r2,r3,r4⟩:=R.rg k hk
 have hl:=R.len
 have hl0:=Az3 l k;unfold Aqy A2g;rw[Apo (by rw[A09,hl0];exact hk) (by rw[A09,hl0];exact hx),if_neg hne]
 unfold A4u;rw[Bdh r3.1 r3.2 hl,sb1 (by omega) (by omega)]
 by_cases h:(gt l k).Hg=0
 ·rw[h];simp only[beq_self_eq_true,Bool.not_true,cond_false];rw[A5t R hk hx,h,if_neg (by omega: ¬x+1=0)]
 ·rw[Aky h];simp only[Bool.not_false,cond_true];rw[Apo (by rw[hl0];omega) (by rw[hl0];exact hx)]
  by_cases e:x=(gt l k).Hg - 1
  ·have e2:x+1=(gt l k).Hg:=by omega
   rw[if_pos e,if_pos e2,←e,A5t R hk hx];rfl
  ·have e2: ¬x+1=(gt l k).Hg:=by omega
   rw[if_neg e,if_neg e2,A5t R hk hx]
theorem Aym (l:List Bg)(k:Int):(Aqy l k).length=l.length:=by unfold Aqy A2g;rw[Z49,A09,Az3]
theorem A78{c:Fa}{n:Bg}(X:Ava c n){fi nx pv:Int}(h1:0≤fi∧fi≤c.Db)(h2:0≤nx∧nx≤c.Db)(h3:0≤pv∧pv≤c.Db):Ava c (lnk n fi nx pv):=
 ⟨X.conf,X.st,X.gen,X.up,h1,h2,h3,X.ep,X.ue,X.dist,X.cur,X.nth,X.ntag,X.tags,X.things⟩
theorem Bym{l:List Bg}{t:Int->Lk}(A:AtT l t)(R:Rg l){k:Int}(hk:0≤k∧k<(l.length:Int))(g:Int):AtT ((Aqy l k).set k.toNat (Ar2 2 g)) (rem t k):=by
 intro x hx;rw[Z49,Aym]at hx;rw[Apo (by rw[Aym];exact hk) (by rw[Aym];exact hx)]
 by_cases e:x=k
 ·subst e;rw[A3a,if_pos rfl];rfl
 ·rw[Ajr e,if_neg e,A1e R hk hx e,A x hx,A k hk];rfl
theorem Az5{l:List Int}{j x:Int}(hj:0≤j)(hx:0≤x∧x<(l.length:Int))(v:Int):gt (l.set j.toNat v) x=if x=j then v else gt l x:=by
 have h1:x.toNat<(l.set j.toNat v).length:=by simp;omega
 have h2:x.toNat<l.length:=by omega
 have e1:gt (l.set j.toNat v) ((x.toNat:Nat):Int)=if x=j then v else gt l ((x.toNat:Nat):Int):=by
  rw[Abh h1,Abh h2,List.getElem_set]
  by_cases e:x=j
  ·rw[if_pos e,if_pos (by omega)]
  ·rw[if_neg e,if_neg (by omega)]
 rwa[show((x.toNat:Nat):Int)=x by omega]at e1
structure A49 (c:Fa)(p:Eb):Prop where
 conf:Alm c=true
 mem:(p.Gl.length:Int)=c.Af*c.Ez
 st:(p.Ja.length:Int)=c.Af
 own:(p.Gm.length:Int)=c.Af
 one: ∀k,0≤k∧k<c.Af->(0≤gt p.Ja k∧gt p.Ja k≤2)∧(gt p.Ja k=1->0≤gt p.Gm k∧gt p.Gm k<c.Db)∧(gt p.Ja k≠1->gt p.Gm k= -1)∧(gt p.Ja k=0->Ari (A0g c p.Gl k)=true)
theorem Bgv{c:Fa}{p:Eb}{k:Nat}:A0h c p k=true ↔ (0≤gt p.Ja (k:Int)∧gt p.Ja (k:Int)≤2)∧(gt p.Ja (k:Int)=1->0≤gt p.Gm (k:Int)∧gt p.Gm (k:Int)<c.Db)∧(gt p.Ja (k:Int)≠1->gt p.Gm (k:Int)= -1)∧(gt p.Ja (k:Int)=0->Ari (A0g c p.Gl k)=true):=by
 unfold A0h;rw[Z4,Z4,Abm];refine and_congr Iff.rfl ?_
 by_cases e:gt p.Ja (k:Int)=1
 ·rw[e];simp only[beq_self_eq_true,cond_true,Abm];constructor
  ·rintro⟨a,b⟩;exact⟨fun _=>by omega,fun h=>absurd rfl h,fun h=>(by cases h)⟩
  ·rintro⟨a,b,c⟩;exact⟨by have:=a trivial;omega,rfl⟩
 ·rw[Aky e];simp only[cond_false,beq_iff_eq]
  by_cases f:gt p.Ja (k:Int)=0
  ·rw[f];simp only[beq_self_eq_true,cond_true];constructor
   ·rintro⟨a,b⟩;exact⟨fun h=>(by cases h),fun _=>a,fun _=>b⟩
   ·rintro⟨a,b,c⟩;exact⟨b (by decide),c trivial⟩
  ·rw[Aky f];simp only[cond_false];constructor
   ·rintro⟨a,b⟩;exact⟨fun h=>absurd h e,fun _=>a,fun h=>absurd h f⟩
   ·rintro⟨a,b,c⟩;exact⟨b e,trivial⟩
theorem Ai3{c:Fa}{p:Eb}:Ax0 c p=true ↔ A49 c p:=by
 constructor
 ·intro h;obtain⟨h1,h2,h3,h4,h5⟩:=Av5 h;refine⟨h1,h2,h3,h4,fun k hk=> ?_⟩
  have:=Bgv.1 (h5 k.toNat (by omega))
  rwa[show((k.toNat:Nat):Int)=k by omega]at this
 ·intro h;obtain⟨b1,_⟩:=Ap h.conf;unfold Ax0;simp only[Z4,beq_iff_eq,Z1,List.mem_range];refine⟨h.conf,by rw[h.mem];unfold Anl;rw[h.conf];rfl,h.st,h.own,fun k hk=> ?_⟩
  exact Bgv.2 (h.one k (by omega))
theorem Bin (cs:List Int): ∀(p:Eb),p.Gm.length=p.Ja.length->(Ahf p cs).Gl=p.Gl∧(Ahf p cs).Ja.length=p.Ja.length∧(Ahf p cs).Gm.length=p.Gm.length∧ ∀c,0≤c∧c<(p.Ja.length:Int)→
  gt (Ahf p cs).Ja c=(if c∈cs∧gt p.Ja c=1 then 2 else gt p.Ja c)∧gt (Ahf p cs).Gm c=(if c∈cs∧gt p.Ja c=1 then -1 else gt p.Gm c):=by
 induction cs with
 |nil=>intro p _;refine⟨rfl,rfl,rfl,fun c _=> ?_⟩;simp[Ahf]
 |cons k cs ih=>
  intro p hl
  have h1:(A0m p k).Gl=p.Gl∧(A0m p k).Ja.length=p.Ja.length∧(A0m p k).Gm.length=p.Gm.length:=by
   unfold A0m;split<;>simp
  obtain⟨a,b,c,d⟩:=ih (A0m p k) (by omega)
  refine⟨a.trans h1.1,b.trans h1.2.1,c.trans h1.2.2,fun x hx=> ?_⟩;obtain⟨d1,d2⟩:=d x (by rw[h1.2.1];exact hx)
  have e1:gt (A0m p k).Ja x=if x=k∧gt p.Ja x=1 then 2 else gt p.Ja x:=by
   unfold A0m
   by_cases q:(0≤k∧k<(p.Ja.length:Int)∧k<(p.Gm.length:Int))∧gt p.Ja k=1
   ·rw[if_pos q];simp only;rw[Az5 q.1.1 hx]
    by_cases e:x=k
    ·rw[if_pos e,if_pos ⟨e,e ▸ q.2⟩]
    ·rw[if_neg e,if_neg (fun f=>e f.1)]
   ·rw[if_neg q,if_neg];rintro⟨rfl,f⟩;exact q ⟨⟨hx.1,hx.2,by omega⟩,f⟩
  have e2:gt (A0m p k).Gm x=if x=k∧gt p.Ja x=1 then -1 else gt p.Gm x:=by
   unfold A0m
   by_cases q:(0≤k∧k<(p.Ja.length:Int)∧k<(p.Gm.length:Int))∧gt p.Ja k=1
   ·rw[if_pos q];simp only;rw[Az5 q.1.1 (by omega)]
    by_cases e:x=k
    ·rw[if_pos e,if_pos ⟨e,e ▸ q.2⟩]
    ·rw[if_neg e,if_neg (fun f=>e f.1)]
   ·rw[if_neg q,if_neg];rintro⟨rfl,f⟩;exact q ⟨⟨hx.1,hx.2,by omega⟩,f⟩
  show gt (Ahf (A0m p k) cs).Ja x=_∧gt (Ahf (A0m p k) cs).Gm x=_;rw[d1,d2,e1,e2]
  by_cases q:gt p.Ja x=1
  ·by_cases e:x=k
   ·subst e;simp[q]
   ·simp[q,e]
  ·simp[q]
theorem Ayn{w:Es}(I:Inv w){k:Int}(hk:0≤k∧k<(w.fL.length:Int)):
  A49 w.fC (Ahf w.fP (gt w.fL k).Af)∧(Ahf w.fP (gt w.fL k).Af).Gl=w.fP.Gl∧
  ∀c,0≤c∧c<w.fC.Af->gt (Ahf w.fP (gt w.fL k).Af).Ja c=(if c∈(gt w.fL k).Af then 2 else gt w.fP.Ja c)∧gt (Ahf w.fP (gt w.fL k).Af).Gm c=(if c∈(gt w.fL k).Af then -1 else gt w.fP.Gm c):=by
 have P:=Ai3.1 I.pool;obtain⟨a,b,c,d⟩:=Bin (gt w.fL k).Af w.fP (by have:=P.st;have:=P.own;omega)
 have key: ∀c,0≤c∧c<w.fC.Af->gt (Ahf w.fP (gt w.fL k).Af).Ja c=(if c∈(gt w.fL k).Af then 2 else gt w.fP.Ja c)∧gt (Ahf w.fP (gt w.fL k).Af).Gm c=(if c∈(gt w.fL k).Af then -1 else gt w.fP.Gm c):=by
  intro x hx;obtain⟨d1,d2⟩:=d x (by rw[P.st];exact hx)
  rw[d1,d2]
  by_cases e:x∈(gt w.fL k).Af
  ·have:=((I.own k hk x).1 e).2.1
   have q:x∈(gt w.fL k).Af∧gt w.fP.Ja x=1:=⟨e,this⟩;simp only[if_pos q,if_pos e,and_self]
  ·have q: ¬(x∈(gt w.fL k).Af∧gt w.fP.Ja x=1):=fun q=>e q.1;simp only[if_neg q,if_neg e,and_self]
 refine⟨⟨P.conf,by rw[a];exact P.mem,by rw[b];exact P.st,by rw[c];exact P.own,fun x hx=> ?_⟩,a,key⟩
 obtain⟨k1,k2⟩:=key x hx;obtain⟨p1,p2,p3,p4⟩:=P.one x hx;rw[k1,k2,a]
 by_cases e:x∈(gt w.fL k).Af
 ·rw[if_pos e,if_pos e];exact⟨by omega,fun h=>by omega,fun _=>rfl,fun h=>by omega⟩
 ·rw[if_neg e,if_neg e];exact⟨p1,p2,p3,p4⟩
theorem A5u (q:List A3)(x:A3):chL (q++[x])=chL q++x.Af:=by unfold chL;rw[List.flatMap_append];simp
theorem A5v (q:List A3)(x:A3):slL (q++[x])=slL q++(if x.As=0 then []else [Aqd .i64 x.As 1]):=by unfold slL;rw[List.flatMap_append];simp
theorem Bdi (q:List A3)(x:A3):Awb (q++[x])=Awb q++[(x.As,x.B5)]:=by simp[Awb]
theorem A1f{c:Fa}{n:Bg}(h:Ava c n){s:Int}(hs:0≤s∧s≤c.Db):Apj c (Aje n s)=true:=by
 obtain⟨_,b,_⟩:=Ap h.conf;unfold Apj Aje;simp only[Z4,Abm,decide_eq_true_eq,Bool.or_eq_true,beq_iff_eq];exact⟨h.conf,hs,h.first,by have:=h.ntag;omega,h.tags,h.dist,by omega,.inr trivial⟩
theorem A79 (w:Es)(n:Bg)(s:Int):Apk w (Aje n s)=true:=by
 unfold Apk Aje Ari;simp
theorem Bb9{w:Es}(I:Inv w){k:Int}(hk:0≤k∧k<(w.fL.length:Int)):(chL w.fQ++(gt w.fL k).Af).Nodup:=
 Agh.2 ⟨I.chn,Aw8 (A48 (I.node k hk)),fun x h1 h2=>by have:=((I.chi x).1 h1).2;have:=((I.own k hk x).1 h2).2.1;omega⟩
theorem Bca{w:Es}(I:Inv w){k:Int}(hk:0≤k∧k<(w.fL.length:Int))(c:Int):c∈chL w.fQ++(gt w.fL k).Af ↔ (0≤c∧c<w.fC.Af)∧gt (Ahf w.fP (gt w.fL k).Af).Ja c=2:=by
 rw[Ho,I.chi];constructor
 ·rintro(⟨a,b⟩|h)
  ·refine⟨a,?_⟩;rw[((Ayn I hk).2.2 c a).1];split
   ·rfl
   ·exact b
  ·have a:=((I.own k hk c).1 h).1;rw[((Ayn I hk).2.2 c a).1,if_pos h];exact⟨a,rfl⟩
 ·rintro⟨a,b⟩;rw[((Ayn I hk).2.2 c a).1]at b;split at b
  ·rename_i h;exact .inr h
  ·exact .inl ⟨a,b⟩
theorem Bio{w:Es}(I:Inv w){t:Int->Lk}(A:AtT w.fL t)(F:Aic w.fL.length t (Awb w.fQ)){k:Int}(h:Al w.fL.length t k):Inv (Axb w k):=by
 have hl:=h.lv
 have hk:=hl.1
 have P:=I.live A hl
 have R:=I.rg;obtain⟨L1,L2,L3⟩:=Ayn I hk;obtain⟨_,_,b3,_⟩:=Ap I.conf
 have hlen:=I.len
 have e1:Aqc .i64 k 1=k+1:=ad1 (by omega) (by omega)
 have hN:(Axb w k).fL.length=w.fL.length:=by unfold Axb;simp only;rw[Z49,Aym]
 have hg: ∀x,0≤x∧x<(w.fL.length:Int)->gt (Axb w k).fL x=if x=k then Ar2 2 (gt (Aqy w.fL k) k).Bz else gt (Aqy w.fL k) x:=fun x hx=>by
  unfold Axb;simp only;rw[Apo (by rw[Aym];exact hk) (by rw[Aym];exact hx)];rfl
 have hgen:(gt (Aqy w.fL k) k).Bz=(gt w.fL k).Bz:=by
  unfold Aqy A2g;rw[Ayk (by rw[A09,Az3];exact hk)]
  show(gt (A4u w.fL (A29 w.fL k) k _ _) k).Bz=_;unfold A4u
  have h0:(gt (A29 w.fL k) k).Bz=(gt w.fL k).Bz:=by rw[A5t R hk hk];rfl
  obtain⟨_,_,r3,_⟩:=R.rg k hk
  have hl8:=R.len;rw[Bdh r3.1 r3.2 hl8,sb1 (by omega) (by omega)]
  by_cases e:(gt w.fL k).Hg=0
  ·rw[e];exact h0
  ·rw[Aky e];simp only[Bool.not_false,cond_true];rw[Apo (by rw[Az3];omega) (by rw[Az3];exact hk)]
   split
   ·rename_i e2;rw[←e2];exact h0
   ·exact h0
 refine⟨Ai3.2 L1,by rw[hN];exact hlen,fun x hx=> ?_,fun x hx c=> ?_,fun x hx=> ?_,⟨rem t k,?_,?_⟩,fun x hx=> ?_,?_,fun c=> ?_,?_,fun s=> ?_,I.log⟩
 ·rw[hN]at hx;rw[hg x hx]
  by_cases e:x=k
  ·rw[if_pos e,hgen];exact A1t I.conf (by omega) (by omega) P.gen
  ·rw[if_neg e,A1e R hk hx e]
   by_cases hs:(gt w.fL x).Ja=1
   ·have X:=Ajx.1 ⟨I.node x hx,hs⟩;obtain⟨a1,a2,a3,a4⟩:=A2l (I.node k hk);refine(Ajx.2 (A78 X ?_ ?_ ?_)).1
    ·split
     ·exact a3
     ·exact X.first
    ·split
     ·exact a3
     ·exact X.next
    ·split
     ·exact a4
     ·exact X.prev
   ·have X:=Aw4 (I.node x hx) hs
    have B:=(A71 F.tree hl).bare x hx.1 hx.2 (by rw[Ajr e,A x hx];simpa[A1d]using hs)
    rw[Ajr e,A x hx,A k hk]at B;obtain⟨_,B2,B3,B4⟩:=B
    have q1:(if(gt w.fL k).Hh=0∧x+1=(gt w.fL k).fUp∧(gt w.fL x).B5=k+1 then(gt w.fL k).Hg else(gt w.fL x).B5)=0:=B2
    have q2:(if x+1=(gt w.fL k).Hh then(gt w.fL k).Hg else(gt w.fL x).Hg)=0:=B3
    have q3:(if x+1=(gt w.fL k).Hg then(gt w.fL k).Hh else(gt w.fL x).Hh)=0:=B4
    have this:lnk (gt w.fL x) 0 0 0=gt w.fL x:=by rw[X];rfl
    rw[q1,q2,q3];rw[this];exact I.node x hx
 ·rw[hN]at hx;rw[hg x hx]
  show c∈_ ↔ (0≤c∧c<w.fC.Af)∧gt (Ahf w.fP (gt w.fL k).Af).Ja c=1∧gt (Ahf w.fP (gt w.fL k).Af).Gm c=x
  by_cases e:x=k
  ·rw[if_pos e];constructor
   ·intro q;cases q
   ·rintro⟨a,b,d⟩;rw[(L3 c a).1]at b;rw[(L3 c a).2]at d;split at b
    ·omega
    ·rename_i q;rw[if_neg q]at d;exact absurd ((I.own k hk c).2 ⟨a,b,by omega⟩) q
  ·rw[if_neg e,A1e R hk hx e]
   show c∈(gt w.fL x).Af ↔ _;rw[I.own x hx c];constructor
   ·rintro⟨a,b,d⟩
    have q:c ∉ (gt w.fL k).Af:=fun q=>e (by have:=((I.own k hk c).1 q).2.2;omega)
    rw[(L3 c a).1,(L3 c a).2,if_neg q,if_neg q];exact⟨a,b,d⟩
   ·rintro⟨a,b,d⟩;rw[(L3 c a).1]at b;rw[(L3 c a).2]at d;split at b
    ·omega
    ·rename_i q;rw[if_neg q]at d;exact⟨a,b,d⟩
 ·rw[hN]at hx;rw[hg x hx]
  by_cases e:x=k
  ·rw[if_pos e];exact⟨rfl,rfl,rfl⟩
  ·rw[if_neg e,A1e R hk hx e];obtain⟨t1,t2,t3⟩:=I.thing x hx;refine⟨t1,t2,?_⟩
   show Asm w.fC (Ahf w.fP (gt w.fL k).Af).Gl _=true;rw[L2];exact t3
 ·exact Bym A R hk _
 ·show Aic ((Axb w k).fL.length:Int) _ (Awb (w.fQ++[_]));rw[hN,Bdi,e1]
  have:=Bb3 F h;rw[A k hk]at this;exact this
 ·have hx:x∈w.fQ++[Aje (gt w.fL k) (Aqc .i64 k 1)]:=hx
  show Apj w.fC x=true∧_;rcases Ho.1 hx with hx|hx
  ·obtain⟨a,b⟩:=I.wrec x hx;refine⟨a,?_⟩;unfold Apk at b ⊢
   show(_||Ari (((Ahf w.fP (gt w.fL k).Af).Gl.drop (gt x.Af 0*w.fC.Ez).toNat).take x.Hj.toNat))=true
   rw[L2];exact b
  ·rw[Pl.1 hx,e1];exact⟨A1f P (by omega),A79 _ _ _⟩
 ·show(chL (w.fQ++[_])).Nodup;rw[A5u];exact Bb9 I hk
 ·show c∈chL (w.fQ++[_]) ↔ _;rw[A5u];exact Bca I hk c
 ·show(slL (w.fQ++[Aje (gt w.fL k) (Aqc .i64 k 1)])).Nodup;rw[A5v,e1]
  show(slL w.fQ++(if k+1=0 then []else [Aqd .i64 (k+1) 1])).Nodup
  rw[if_neg (by omega),sb1 (by omega) (by omega),Int.add_sub_cancel]
  exact Agh.2 ⟨I.sln,by simp,fun x h1 h2=>by rw[Pl]at h2;subst h2;have:=((I.sli x).1 h1).2;have:=P.st;omega⟩
 ·show s∈slL (w.fQ++[Aje (gt w.fL k) (Aqc .i64 k 1)]) ↔ _;rw[A5v,e1,hN]
  show s∈slL w.fQ++(if k+1=0 then []else [Aqd .i64 (k+1) 1]) ↔ _
  rw[if_neg (by omega),sb1 (by omega) (by omega),Int.add_sub_cancel,Ho,Pl,I.sli]
  constructor
  ·rintro(⟨a,b⟩|a)
   ·refine⟨a,?_⟩
    have e:s≠k:=fun e=>by rw[e,P.st]at b;cases b
    rw[hg s a,if_neg e,A1e R hk a e];exact b
   ·rw[a,hg k hk,if_pos rfl];exact⟨hk,rfl⟩
  ·rintro⟨a,b⟩
   by_cases e:s=k
   ·exact .inr e
   ·rw[hg s a,if_neg e,A1e R hk a e]at b;exact .inl ⟨a,b⟩
theorem Byn{l:List Bg}{t:Int->Lk}(A:AtT l t){k:Int}(hk:0≤k∧k<(l.length:Int))(h0:0≤(gt l k).Js)(h1:(gt l k).Js≤1000000000):AtT (l.set k.toNat (Aw2 (gt l k))) (emp t k):=by
 intro x hx;rw[Z49]at hx;rw[Apo hk hx]
 by_cases e:x=k
 ·subst e;rw[A9i,if_pos rfl,A x hx];unfold Aw2 A1d;simp only;rw[ad1 (by omega) h1]
 ·rw[A47 e,if_neg e,A x hx]
theorem Bip{w:Es}(I:Inv w){t:Int->Lk}(A:AtT w.fL t)(F:Aic w.fL.length t (Awb w.fQ)){k:Int}(h:Al w.fL.length t k)(hE:(gt w.fL k).Js≤1000000000):Inv (Ayz w k):=by
 have hl:=h.lv
 have hk:=hl.1
 have P:=I.live A hl;obtain⟨L1,L2,L3⟩:=Ayn I hk
 have hN:(Ayz w k).fL.length=w.fL.length:=by unfold Ayz;simp only;rw[Z49]
 have hg: ∀x,0≤x∧x<(w.fL.length:Int)->gt (Ayz w k).fL x=if x=k then Aw2 (gt w.fL k)else gt w.fL x:=fun x hx=>Apo hk hx _
 obtain⟨_,b2,b3,_⟩:=Ap I.conf;refine⟨Ai3.2 L1,by rw[hN];exact I.len,fun x hx=> ?_,fun x hx c=> ?_,fun x hx=> ?_,⟨emp t k,?_,?_⟩,fun x hx=> ?_,?_,fun c=> ?_,?_,fun s=> ?_,I.log⟩
 ·rw[hN]at hx;rw[hg x hx]
  show Aso w.fC _=true
  by_cases e:x=k
  ·rw[if_pos e];exact((Ajx (n:=Aw2 (gt w.fL k))).2 ⟨P.conf,P.st,P.gen,P.up,⟨Int.le_refl _,by show(0:Int)≤_;omega⟩,P.next,P.prev,by show 0≤Aqc .i64 _ 1;rw[ad1 (by have:=P.ep;omega) hE];have:=P.ep;omega,P.ue,rfl,rfl,Z21 _,Z21 _,rfl,rfl⟩).1
  ·rw[if_neg e];exact I.node x hx
 ·rw[hN]at hx;rw[hg x hx]
  show c∈_ ↔ (0≤c∧c<w.fC.Af)∧gt (Ahf w.fP (gt w.fL k).Af).Ja c=1∧gt (Ahf w.fP (gt w.fL k).Af).Gm c=x
  by_cases e:x=k
  ·rw[if_pos e];constructor
   ·intro q;cases q
   ·rintro⟨a,b,d⟩;rw[(L3 c a).1]at b;rw[(L3 c a).2]at d;split at b
    ·omega
    ·rename_i q;rw[if_neg q]at d;exact absurd ((I.own k hk c).2 ⟨a,b,by omega⟩) q
  ·rw[if_neg e,I.own x hx c];constructor
   ·rintro⟨a,b,d⟩
    have q:c ∉ (gt w.fL k).Af:=fun q=>e (by have:=((I.own k hk c).1 q).2.2;omega)
    rw[(L3 c a).1,(L3 c a).2,if_neg q,if_neg q];exact⟨a,b,d⟩
   ·rintro⟨a,b,d⟩;rw[(L3 c a).1]at b;rw[(L3 c a).2]at d;split at b
    ·omega
    ·rename_i q;rw[if_neg q]at d;exact⟨a,b,d⟩
 ·rw[hN]at hx;rw[hg x hx]
  by_cases e:x=k
  ·rw[if_pos e];exact⟨rfl,rfl,rfl⟩
  ·rw[if_neg e];obtain⟨t1,t2,t3⟩:=I.thing x hx;refine⟨t1,t2,?_⟩
   show Asm w.fC (Ahf w.fP (gt w.fL k).Af).Gl _=true;rw[L2];exact t3
 ·exact Byn A hk P.ep hE
 ·show Aic ((Ayz w k).fL.length:Int) _ (Awb (w.fQ++[_]));rw[hN,Bdi]
  have:=Bb4 F h;rw[A k hk]at this;exact this
 ·have hx:x∈w.fQ++[Aje (gt w.fL k) 0]:=hx
  show Apj w.fC x=true∧_;rcases Ho.1 hx with hx|hx
  ·obtain⟨a,b⟩:=I.wrec x hx;refine⟨a,?_⟩;unfold Apk at b ⊢
   show(_||Ari (((Ahf w.fP (gt w.fL k).Af).Gl.drop (gt x.Af 0*w.fC.Ez).toNat).take x.Hj.toNat))=true
   rw[L2];exact b
  ·rw[Pl.1 hx];exact⟨A1f P (by omega),A79 _ _ _⟩
 ·show(chL (w.fQ++[_])).Nodup;rw[A5u];exact Bb9 I hk
 ·show c∈chL (w.fQ++[_]) ↔ _;rw[A5u];exact Bca I hk c
 ·show(slL (w.fQ++[Aje (gt w.fL k) 0])).Nodup;rw[A5v]
  show(slL w.fQ++(if(0:Int)=0 then []else [Aqd .i64 0 1])).Nodup
  rw[if_pos rfl,List.append_nil];exact I.sln
 ·show s∈slL (w.fQ++[Aje (gt w.fL k) 0]) ↔ _;rw[A5v,hN]
  show s∈slL w.fQ++(if(0:Int)=0 then []else [Aqd .i64 0 1]) ↔ _
  rw[if_pos rfl,List.append_nil,I.sli];refine and_congr_right fun a=> ?_;rw[hg s a]
  by_cases e:s=k
  ·rw[if_pos e,e,P.st]
   show _ ↔ (gt w.fL k).Ja=2;rw[P.st]
  ·rw[if_neg e]
def wtN (c:Fa)(n:Bg):Nat:=if n.Ja=1 then 2+n.Dt.length+c.Ez.toNat*n.Af.length else 0
def wtQ (c:Fa)(x:A3):Nat:=1+x.Dt.length+(c.Ez.toNat*x.Af.length - x.Hj.toNat)
def pot (w:Es):Nat:=(w.fL.map (wtN w.fC)).sum+(w.fQ.map (wtQ w.fC)).sum
def wt (w:Es):Nat:=pot w+w.Rl.length
structure EpP (E:Int)(n:Bg):Prop where
 ep:n.Js≤E
 ue:n.Hf≤E
 cur:0≤n.Rk∧n.Rk≤1000
structure E7 (w:Es)(E:Int)(n:Nat):Prop where
 inv:Inv w
 mem: ∀x∈w.fP.Gl,0≤x∧x≤255
 ep: ∀k,0≤k∧k<(w.fL.length:Int)->EpP E (gt w.fL k)
 wt:wt w≤n
theorem Byo{α:Type}(f:α->Nat)(l:List α)(h: ∀x∈l,1≤f x):l.length≤(l.map f).sum:=by
 induction l with
 |nil=>simp
 |cons x l ih=>
  have:=ih fun y hy=>h y (Z56 _ hy)
  have:=h x List.mem_cons_self;simp only[Yy,Z8,List.sum_cons];omega
theorem Byp (w:Es):w.fQ.length≤wt w:=by
 have:=Byo (wtQ w.fC) w.fQ fun x _=>by unfold wtQ;omega
 unfold wt pot;omega
theorem Bnn (w:Es):w.Rl.length≤wt w:=by unfold wt;omega
theorem Abk{x:Int}(h0: -1000000000≤x)(h1:x≤1000000000):wfi x:=⟨by omega,by omega⟩
theorem Bcb{c:Fa}{t:Bf}(h:Ard c t=true):Bbk t:=by
 have hs:=(Ayv h).1
 have hin:=(Ayv h).2;obtain⟨_,b2,_⟩:=Ap hin.1;obtain⟨s1,s2,s3,s4⟩:=hs;refine⟨Abk (by omega) (by omega),Abk (by omega) (by omega),?_⟩
 unfold Ard at h;rw[Z4]at h
 by_cases e:t.Xg=0
 ·rw[e];exact Abk (by omega) (by omega)
 ·have h:=h.2;rw[Aky e]at h;simp only[cond_false,Z4,beq_iff_eq]at h;rw[h.2.1];unfold Aug
  have h3:(t.Xf+c.Ez - 1) / c.Ez≤t.Xf+c.Ez - 1:=Int.ediv_le_self _ (by omega)
  have h4:0≤(t.Xf+c.Ez - 1) / c.Ez:=Int.ediv_nonneg (by omega) (by omega)
  cases (inB t.Xf 0 1000000000&&inB c.Ez 1 1000000000)with
  |false=>exact Abk (by simp only[cond_false];omega) (by simp only[cond_false];omega)
  |true=>exact Abk (by simp only[cond_true];omega) (by simp only[cond_true];omega)
theorem Auk{l:List Int}(h: ∀x∈l,-1000000000≤x∧x≤1000000000)(hl:l.length≤1000000000):A1y l:=⟨fun x hx=>Abk (h x hx).1 (h x hx).2,by omega⟩
theorem Byq{c:Fa}(h:Alm c=true):Bvd c:=by
 obtain⟨b1,b2,b3,b4,b5,b6⟩:=Ap h;exact⟨Abk (by omega) (by omega),Abk (by omega) (by omega),Abk (by omega) (by omega),Abk (by omega) (by omega),Abk (by omega) (by omega),Abk (by omega) (by omega)⟩
theorem A8b{l:List Int}(h:l.all (fun x=>inB x 0 255)=true): ∀x∈l,0≤x∧x≤255:=fun x hx=>Abm.1 (Z1.1 h x hx)
theorem A4v{c:Fa}{n:Bg}{E:Int}(h:Aso c n=true)(e:EpP E n)(hE:E≤1000000000):Ato n:=by
 obtain⟨b1,b2,b3,b4,b5,b6⟩:=Ap (Ay1 h).1
 by_cases s:n.Ja=1
 ·have X:=Ajx.1 ⟨h,s⟩
  have:=X.gen;have:=X.up;have:=X.first;have:=X.next;have:=X.prev;have:=X.ep;have:=X.ue;have:=X.nth;have:=X.ntag
  have:=e.ep;have:=e.ue;have:=e.cur;refine⟨Abk (by omega) (by omega),Abk (by omega) (by omega),Abk (by omega) (by omega),Abk (by omega) (by omega),Abk (by omega) (by omega),Abk (by omega) (by omega),Abk (by omega) (by omega),Abk (by omega) (by omega),?_,Abk (by omega) (by omega),?_,?_,?_⟩
  ·exact Auk (fun x hx=>by have:=Awy X.dist x hx;omega) (by have:=Awz X.conf X.dist;omega)
  ·have:=X.cur;unfold A5h at this
   by_cases q:n.Rk=0
   ·rw[q]at this;simp only[beq_self_eq_true,cond_true,beq_iff_eq]at this;rw[this];exact Abk (by decide) (by decide)
   ·rw[Aky q]at this;simp only[cond_false,Z4,Abm]at this;exact Abk (by omega) (by omega)
  ·exact⟨fun t ht=>Bcb (Z1.1 X.things t ht),by omega⟩
  ·exact Auk (fun x hx=>by have:=A8b X.tags x hx;omega) (by omega)
 ·have g:=Ay1 h;rw[Aw4 h s];exact⟨Abk (by show _≤n.Ja;omega) (by show n.Ja≤_;omega),Abk (by show _≤n.Bz;omega) (by show n.Bz≤_;omega),A2f,A2f,A2f,A2f,A2f,A2f,A4t,A2f,A2f,A45,A4t⟩
theorem Brw{c:Fa}{x:A3}(h:Apj c x=true):Bbm x:=by
 obtain⟨b1,b2,b3,b4,b5,b6⟩:=Ap (Ath h).1;obtain⟨h1,h2,h3,h4,h5⟩:=Ath h;unfold Apj at h;simp only[Z4,Abm,decide_eq_true_eq]at h;obtain⟨_,_,_,t1,t2,_⟩:=h;refine⟨Abk (by omega) (by omega),Abk (by omega) (by omega),?_,?_,Abk (by omega) (by omega)⟩
 ·exact Auk (fun y hy=>by have:=A8b t2 y hy;omega) (by omega)
 ·exact Auk (fun y hy=>by have:=Awy h4 y hy;omega) (by have:=Awz h1 h4;omega)
theorem Bcc{α:Type}[Inhabited α]{l:List α}{P:α->Prop}(h: ∀k,0≤k∧k<(l.length:Int)->P (gt l k)): ∀x∈l,P x:=by
 intro x hx;obtain⟨i,hi,e⟩:=List.mem_iff_getElem.1 hx
 have:=h (i:Int) ⟨by omega,by omega⟩
 rw[Abh hi,e]at this;exact this
theorem E7.ww{w:Es}{E:Int}{n:Nat}(G:E7 w E n)(hE:E≤1000000000)(hn:n≤1000000000):Avx w:=by
 have I:=G.inv
 have P:=Ai3.1 I.pool;obtain⟨b1,b2,b3,b4,b5,b6⟩:=Ap I.conf
 have h1:=Byp w
 have h2:=Bnn w
 have h3:=G.wt
 have hm:=Auu (a:=w.fC.Af) (b:=w.fC.Ez) (m:=12) (n:=16) (by omega) b1.2 (by omega) b2.2
 refine⟨Byq I.conf,⟨⟨G.mem,by have:=P.mem;omega⟩,?_,?_⟩,⟨Bcc fun k hk=>A4v (I.node k hk) (G.ep k hk) hE,by have:=I.len;omega⟩,⟨fun x hx=>Brw (I.wrec x hx).1,by omega⟩,?_⟩
 ·exact Auk (Bcc fun k hk=>by have:=(P.one k (by rw[P.st]at hk;exact hk)).1;omega) (by have:=P.st;omega)
 ·refine Auk (Bcc fun k hk=> ?_) (by have:=P.own;omega)
  obtain⟨o1,o2,o3,o4⟩:=P.one k (by rw[P.own]at hk;exact hk)
  by_cases e:gt w.fP.Ja k=1
  ·have:=o2 e;omega
  ·have:=o3 e;omega
 ·exact Auk (fun x hx=>by have:=A8b I.log x hx;omega) (by omega)
theorem Bcd{w:Es}(I:Inv w)(p:Eb)(q:List A3)(lg:List Int)(hp:A49 w.fC p)
  (ho: ∀c,0≤c∧c<w.fC.Af->(gt p.Ja c=1 ↔ gt w.fP.Ja c=1)∧gt p.Gm c=gt w.fP.Gm c)
  (hl: ∀k,0≤k∧k<(w.fL.length:Int)->Asm w.fC p.Gl (gt w.fL k)=true)
  (hq:Awb q=Awb w.fQ) (hs:slL q=slL w.fQ)
  (hr: ∀x∈q,Apj w.fC x=true∧Apk (Es.mk w.fC p w.fL q lg) x=true)
  (hn:(chL q).Nodup) (hc: ∀c,c∈chL q ↔ (0≤c∧c<w.fC.Af)∧gt p.Ja c=2)
  (hg:lg.all (fun x=>inB x 0 255)=true):Inv (Es.mk w.fC p w.fL q lg):=by
 refine⟨Ai3.2 hp,I.len,I.node,fun k hk c=> ?_,fun k hk=> ?_,?_,hr,hn,hc,?_,?_,hg⟩
 ·rw[I.own k hk c];refine and_congr_right fun a=> ?_;obtain⟨h1,h2⟩:=ho c a
  show _ ↔ gt p.Ja c=1∧gt p.Gm c=k;rw[h1,h2]
 ·obtain⟨t1,t2,_⟩:=I.thing k hk;exact⟨t1,t2,hl k hk⟩
 ·obtain⟨t,A,F⟩:=I.forest;refine⟨t,A,?_⟩
  show Aic _ t (Awb q);rw[hq];exact F
 ·show(slL q).Nodup;rw[hs];exact I.sln
 ·show ∀s,s∈slL q ↔ _;rw[hs];exact I.sli
theorem gt0{α:Type}[Inhabited α](x:α)(l:List α):gt (x::l) 0=x:=rfl
theorem A1h{mem:List Int}{a n:Nat}:Ari ((mem.drop a).take n)=true ↔ ∀j:Nat,a≤j->j<a+n->j<mem.length->gt mem (j:Int)=0:=by
 unfold Ari;rw[Z1];constructor
 ·intro h j h1 h2 h3;rw[Abh h3]
  have:mem[j]∈(mem.drop a).take n:=by
   rw[List.mem_iff_getElem];refine⟨j - a,by simp;omega,?_⟩
   simp only[List.getElem_take,List.getElem_drop]
   congr 1;omega
  simpa using h _ this
 ·intro h x hx;obtain⟨i,hi,e⟩:=List.mem_iff_getElem.1 hx;simp only[List.length_take,List.length_drop]at hi;simp only[List.getElem_take,List.getElem_drop]at e
  have:=h (a+i) (by omega) (by omega) (by omega)
  rw[Abh (by omega),e]at this
  simpa using this
def Ax1 (mem:List Int)(a n:Nat):List Int:=(List.range mem.length).map fun(j:Nat)=>if a≤j∧j<a+n then(0:Int)else gt mem (j:Int)
theorem Atb (mem:List Int)(a n:Nat):(Ax1 mem a n).length=mem.length:=by simp[Ax1]
theorem A1u{mem:List Int}{a n j:Nat}(h:j<mem.length):gt (Ax1 mem a n) (j:Int)=if a≤j∧j<a+n then 0 else gt mem (j:Int):=by
 rw[Abh (by rw[Atb];exact h)]
 simp[Ax1]
theorem Bno (mem:List Int)(a:Nat):Ax1 mem a 0=mem:=by
 refine List.ext_getElem (Atb _ _ _) fun j h1 h2=> ?_
 have:=A1u (mem:=mem) (a:=a) (n:=0) h2;rw[if_neg (by omega),Abh h1,Abh h2]at this
 exact this
theorem Bnp{mem:List Int}{a i:Nat}:(Ax1 mem a i).set (a+i) 0=Ax1 mem a (i+1):=by
 refine List.ext_getElem (by rw[Z49,Atb,Atb]) fun j h1 h2=> ?_
 rw[Z49,Atb]at h1
 have e1:=A1u (mem:=mem) (a:=a) (n:=i) h1
 have e2:=A1u (mem:=mem) (a:=a) (n:=i+1) h1;rw[Abh (by rw[Atb];exact h1)]at e1 e2
 rw[List.getElem_set,e1,e2]
 by_cases q:a+i=j
 ·rw[if_pos q,if_pos (by omega)]
 ·rw[if_neg q]
  by_cases r:a≤j∧j<a+i
  ·rw[if_pos r,if_pos (by omega)]
  ·rw[if_neg r,if_neg (by omega)]
theorem Biq{mem:List Int}{a n b m:Nat}(h:Ari ((mem.drop b).take m)=true):Ari (((Ax1 mem a n).drop b).take m)=true:=by
 rw[A1h]at h ⊢;intro j h1 h2 h3;rw[Atb]at h3;rw[A1u h3];split
 ·rfl
 ·exact h j h1 h2 h3
theorem Bdj{mem:List Int}{a d n m:Nat}(h:Ari ((mem.drop a).take d)=true)(hm:m≤d+n):Ari (((Ax1 mem (a+d) n).drop a).take m)=true:=by
 rw[A1h]at h ⊢;intro j h1 h2 h3;rw[Atb]at h3;rw[A1u h3];split
 ·rfl
 ·exact h j h1 (by omega) h3
section
variable {K:Nat} (hK:281474976710656≤K)
include hK
theorem Bir{mem:List Int}(hl:mem.length≤1000000){a n:Int}(ha:0≤a∧a≤1000000)(hn:0≤n)(hs:a+n≤mem.length):Azb K mem a n=some (Ax1 mem a.toNat n.toNat):=by
 have hm:=Abn;obtain⟨A,rfl⟩: ∃A:Nat,a=A:=⟨a.toNat,by omega⟩
 obtain⟨N,rfl⟩: ∃N:Nat,n=N:=⟨n.toNat,by omega⟩
 simp only[Int.toNat_natCast]
 have key: ∀(f i:Nat),i≤N->N - i<f->Au4 K mem A N f (Ax1 mem A i) ((A+i:Nat):Int)=some (Ax1 mem A N):=by
  intro f
  induction f with
  |zero=>intro i _ h;omega
  |succ f ih=>
   intro i hi hf;rw[Au4]
   have e:Aqd .i64 ((A+i:Nat):Int) A=i:=by unfold Aqd;rw[Abf (by omega) (by omega)];omega
   rw[e]
   by_cases q:i=N
   ·subst q;rw[Ai2 (Z9 _)];simp only[cond_false];cases decide (((A+i:Nat):Int)<(mem.length:Int))<;>rfl
   ·rw[Aha (by omega),Aha (by omega),cond_true,cond_true,Atb,if_pos ⟨by omega,by omega⟩,Agw (by omega),Int.toNat_natCast,Bnp]
    exact ih (i+1) (by omega) (by omega)
 unfold Azb;rw[Z38,if_pos ⟨by omega,by omega⟩,decide_eq_false (by omega),decide_eq_false (by omega)]
 simp only[cond_false]
 have:=key K 0 (by omega) (by omega)
 rw[Bno]at this;exact this
end
theorem Axr{w:Es}(I:Inv w){x qs}(hq:w.fQ=x::qs):Apj w.fC x=true∧Apk w x=true:=I.wrec x (by rw[hq];exact List.mem_cons_self)
structure Brx (c:Fa)(x:A3):Prop where
 conf:Alm c=true
 slot:0≤x.As∧x.As≤c.Db
 first:0≤x.B5∧x.B5≤c.Db
 ntag:x.Dt.length≤6
 tags: ∀y∈x.Dt,0≤y∧y≤255
 dist:Auw c x.Af=true
 done:0≤x.Hj∧x.Hj≤c.Ez - 1
 zero:x.Af=[]->x.Hj=0
theorem Axk{c:Fa}{x:A3}:Apj c x=true ↔ Brx c x:=by
 unfold Apj;simp only[Z4,Abm,decide_eq_true_eq,Bool.or_eq_true,beq_iff_eq,Z1];constructor
 ·rintro⟨a,b,c,d,e,f,g,h⟩;refine⟨a,b,c,by omega,e,f,g,fun q=> ?_⟩
  rw[q]at h;rcases h with h|h
  ·simp at h
  ·exact h
 ·intro h;refine⟨h.conf,h.slot,h.first,by have:=h.ntag;omega,h.tags,h.dist,h.done,?_⟩
  by_cases q:x.Af=[]
  ·exact .inr (h.zero q)
  ·exact .inl (by have:=List.length_pos_iff.2 q;omega)
def Bnq (x:A3):A3:=A3.mk x.As x.B5 (x.Dt.take (x.Dt.length - 1)) x.Af x.Hj
def A3f (w:Es)(x:A3)(qs:List A3):Es:=Es.mk w.fC w.fP w.fL (Bnq x::qs) (w.Rl++[gt x.Dt ((x.Dt.length - 1:Nat):Int)])
theorem Byr (K:Nat){w:Es}{x:A3}{qs:List A3}(hq:w.fQ=x::qs)(h0:0<x.Dt.length)(h6:x.Dt.length≤6)(hl:w.Rl.length≤1000000000):Axe K w=some (A3f w x qs):=by
 have hm:=Abn;unfold Axe;rw[hq,gt0]
 have e:Aqd .i64 (x.Dt.length:Int) 1=((x.Dt.length - 1:Nat):Int):=by rw[sb1 (by omega) (by omega)];omega
 rw[e,if_pos ⟨by omega,by simp⟩,if_pos ⟨by omega,by omega⟩,if_pos ⟨by simp;omega,by simp;omega⟩,if_pos ⟨by omega,by omega,by omega⟩,A7q,Z38,if_pos ⟨by simp;omega,by simp;omega⟩]
 rfl
theorem Bnr{l:List Int}{n:Nat}{P:Int->Prop}(h: ∀y∈l,P y): ∀y∈l.take n,P y:=fun y hy=>h y (Z42 hy)
theorem Bry{w:Es}(I:Inv w){x:A3}{qs:List A3}(hq:w.fQ=x::qs)(h0:0<x.Dt.length):Inv (A3f w x qs):=by
 have R:=Axk.1 (Axr I hq).1
 have e1:chL (Bnq x::qs)=chL w.fQ:=by rw[hq];rfl
 refine Bcd I w.fP _ _ (Ai3.1 I.pool) (fun c _=>⟨Iff.rfl,rfl⟩) (fun k hk=>(I.thing k hk).2.2) (by rw[hq];rfl) (by rw[hq];rfl) (fun y hy=> ?_) (by rw[e1];exact I.chn) (fun c=>by rw[e1];exact I.chi c) ?_
 ·rcases D4.1 hy with e|e
  ·subst e;refine⟨Axk.2 ⟨R.conf,R.slot,R.first,?_,Bnr R.tags,R.dist,R.done,R.zero⟩,(Axr I hq).2⟩
   have:=R.ntag
   show(x.Dt.take _).length≤6;simp;omega
  ·exact I.wrec y (by rw[hq];exact Z56 _ e)
 ·rw[List.all_append,I.log]
  have:=R.tags _ (Arz (show x.Dt.length - 1<x.Dt.length by omega))
  simp[Abm,this]
def Aps (w:Es)(x:A3):Int:=if w.fC.Ez<x.Hj+w.fC.Dc then w.fC.Ez else x.Hj+w.fC.Dc
def Bce (w:Es)(x:A3):List Int:=Ax1 w.fP.Gl (gt x.Af 0*w.fC.Ez+x.Hj).toNat (Aps w x - x.Hj).toNat
def A5a (w:Es)(x:A3):Eb:=Eb.mk (Bce w x) (if Aps w x<w.fC.Ez then w.fP.Ja else w.fP.Ja.set (gt x.Af 0).toNat 0) w.fP.Gm
def A0r (w:Es)(x:A3):A3:=if Aps w x<w.fC.Ez then A3.mk x.As x.B5 x.Dt x.Af (Aps w x)else A3.mk x.As x.B5 x.Dt (x.Af.drop 1) 0
def Ay2 (w:Es)(x:A3)(qs:List A3):Es:=Es.mk w.fC (A5a w x) w.fL (A0r w x::qs) w.Rl
structure Bvf (w:Es)(x:A3):Prop where
 rc:Brx w.fC x
 k:0≤gt x.Af 0∧gt x.Af 0<w.fC.Af
 st:gt w.fP.Ja (gt x.Af 0)=2
 at0:0≤gt x.Af 0*w.fC.Ez
 at1:gt x.Af 0*w.fC.Ez+w.fC.Ez≤(w.fP.Gl.length:Int)
 len:w.fP.Gl.length≤192
 to:x.Hj<Aps w x∧Aps w x≤w.fC.Ez
 zero:Ari ((w.fP.Gl.drop (gt x.Af 0*w.fC.Ez).toNat).take x.Hj.toNat)=true
theorem A4w{c:Fa}{p:Eb}(P:A49 c p):p.Gl.length≤192:=by
 obtain⟨b1,b2,_⟩:=Ap P.conf
 have hm:=Auu (a:=c.Af) (b:=c.Ez) (m:=12) (n:=16) (by omega) b1.2 (by omega) b2.2
 have:=P.mem;omega
theorem Bfk{w:Es}(I:Inv w){x:A3}{qs:List A3}(hq:w.fQ=x::qs)(hc:0<x.Af.length):Bvf w x:=by
 have R:=Axk.1 (Axr I hq).1
 have P:=Ai3.1 I.pool
 have hx:x∈w.fQ:=by rw[hq];exact List.mem_cons_self
 have hm:gt x.Af 0∈x.Af:=Arz (i:=0) hc
 have h1:=(I.chi _).1 (Bb8 hx hm);obtain⟨_,_,e3,e4⟩:=A22 I.conf P.mem h1.1.1 h1.1.2;obtain⟨b1,b2,b3,b4,b5,b6⟩:=Ap I.conf
 have hd:=R.done;refine⟨R,h1.1,h1.2,e3,e4,A4w P,?_,?_⟩
 ·unfold Aps;split<;>omega
 ·have:=(Axr I hq).2;unfold Apk at this;rw[decide_eq_true (by omega)]at this
  exact this
section
variable {K:Nat} (hK:281474976710656≤K)
include hK
theorem Bdk{w:Es}(hw:A03 w.fP)(hp:Ax0 w.fC w.fP=true){x:A3}(X:Bvf w x):Avg K w.fC w.fP (gt x.Af 0) x.Hj=some (A5a w x,!decide (Aps w x<w.fC.Ez)):=by
 obtain⟨b1,b2,b3,b4,b5,b6⟩:=Ap X.rc.conf
 have P:=Ai3.1 hp;obtain⟨e1,e2,e3,e4⟩:=A22 X.rc.conf P.mem X.k.1 X.k.2
 have hd:=X.rc.done
 have ht:=X.to
 have hl:=X.len
 have hk:=X.k
 have es:Aqc .i64 x.Hj w.fC.Dc=x.Hj+w.fC.Dc:=by unfold Aqc;exact Abf (by omega) (by omega)
 have el:Ax4 K (x.Hj+w.fC.Dc) w.fC.Ez=some (Aps w x):=by
  unfold Ax4 Aps
  by_cases q:w.fC.Ez<x.Hj+w.fC.Dc
  ·rw[decide_eq_true q,if_pos q];rfl
  ·rw[decide_eq_false q,if_neg q];rfl
 have ea:Aqc .i64 (gt x.Af 0*w.fC.Ez) x.Hj=gt x.Af 0*w.fC.Ez+x.Hj:=by unfold Aqc;exact Abf (by omega) (by omega)
 have en:Aqd .i64 (Aps w x) x.Hj=Aps w x - x.Hj:=by unfold Aqd;exact Abf (by omega) (by omega)
 unfold Avg;rw[Azj K hw,A41 hK,hp,Api,Azz hK X.rc.conf,Abm.2 ⟨by omega,by omega⟩,Api,A9c X.rc.conf,Abm.2 hd,es,el,e1,ea]
 simp only[Z0,cond_true,Bool.not_true,cond_false];rw[en,Bir hK (by omega) ⟨by omega,by omega⟩ (by omega) (by omega)]
 simp only[Z0,e2];rw[if_pos ⟨hk.1,by rw[P.st];exact hk.2⟩,X.st]
 simp only[bne_self_eq_false,cond_false];unfold A5a
 by_cases q:Aps w x<w.fC.Ez
 ·rw[decide_eq_true q,if_pos q];rfl
 ·rw[decide_eq_false q,if_neg q];simp only[cond_false,Bool.not_false];rw[if_pos ⟨by omega,by omega,by show _≤((Ax1 _ _ _).length:Int);rw[Atb];exact e4⟩]
  have hz:Ari (((Ax1 w.fP.Gl (gt x.Af 0*w.fC.Ez+x.Hj).toNat (Aps w x - x.Hj).toNat).drop (gt x.Af 0*w.fC.Ez).toNat).take (gt x.Af 0*w.fC.Ez+w.fC.Ez - gt x.Af 0*w.fC.Ez).toNat)=true:=by
   rw[show(gt x.Af 0*w.fC.Ez+x.Hj).toNat=(gt x.Af 0*w.fC.Ez).toNat+x.Hj.toNat by omega]
   exact Bdj X.zero (by omega)
  rw[Azi hK _ (by simp[Atb];omega),hz]
  simp only[Z0,Bool.not_true,cond_false];rw[if_pos ⟨hk.1,by rw[P.st];exact hk.2⟩]
  rfl
theorem Brz{w:Es}(I:Inv w)(hw:A03 w.fP){x:A3}{qs:List A3}(hq:w.fQ=x::qs)(hc:0<x.Af.length):Awh K w=some (Ay2 w x qs):=by
 have hm:=Abn
 have X:=Bfk I hq hc
 have hlen:=Awz X.rc.conf X.rc.dist;obtain⟨b1,b2,b3,b4,b5,b6⟩:=Ap X.rc.conf
 have hd:=X.rc.done;unfold Awh;rw[hq,gt0,if_pos ⟨by omega,by simp⟩,if_pos ⟨by omega,by omega⟩,Bdk hK hw I.pool X,Z0]
 simp only;unfold Ay2 A0r
 by_cases q:Aps w x<w.fC.Ez
 ·rw[decide_eq_true q,if_pos q]
  have es:Aqc .i64 x.Hj w.fC.Dc=Aps w x:=by
   have ht:=X.to;unfold Aps at q ⊢;split at q
   ·omega
   ·rename_i r;rw[if_neg r];unfold Aqc;exact Abf (by omega) (by omega)
  rw[es];rfl
 ·rw[decide_eq_false q,if_neg q]
  have et:(x.Af.drop (1:Int).toNat).take ((x.Af.length:Int) - 1).toNat=x.Af.drop 1:=by
   rw[show(1:Int).toNat=1 from rfl]
   exact List.take_of_length_le (by simp)
  simp only[Bool.not_false,cond_true];rw[if_pos ⟨by omega,by omega,by omega⟩,et,Z38,if_pos ⟨by simp;omega,by simp;omega⟩]
  rfl
end
theorem Az6{c:Fa}{l:List Int}:Auw c l=true ↔ l.Nodup∧ ∀x∈l,0≤x∧x<c.Af:=by
 constructor
 ·intro h;exact⟨Aw8 h,Awy h⟩
 ·rintro⟨h1,h2⟩;unfold Auw;rw[Z1];intro i hi;rw[List.mem_range]at hi;rw[Z4,Abm,Abh hi]
  have:=h2 _ (List.getElem_mem hi);refine⟨by omega,?_⟩
  have hn:=A2c.1 h1 i hi;simpa using hn
theorem Bis{c:Fa}{l:List Int}{n:Nat}(h:Auw c l=true):Auw c (l.drop n)=true:=by
 rw[Az6]at h ⊢;exact⟨h.1.sublist (List.drop_sublist _ _),fun x hx=>h.2 x (List.mem_of_mem_drop hx)⟩
theorem Bns{w:Es}{x:A3}(h: ∀y∈w.fP.Gl,0≤y∧y≤255): ∀y∈Bce w x,0≤y∧y≤255:=by
 refine Bcc fun k hk=> ?_;unfold Bce at hk ⊢;rw[Atb]at hk;obtain⟨j,rfl⟩: ∃j:Nat,k=j:=⟨k.toNat,by omega⟩
 rw[A1u (by omega)]
 split
 ·omega
 ·exact h _ (Arz (by omega))
theorem Bnt{w:Es}(I:Inv w){x:A3}{qs:List A3}(hq:w.fQ=x::qs)(hc:0<x.Af.length):Inv (Ay2 w x qs):=by
 have X:=Bfk I hq hc
 have P:=Ai3.1 I.pool
 have hk:=X.k
 have hd:=X.rc.done
 have ht:=X.to
 have hxq:x∈w.fQ:=by rw[hq];exact List.mem_cons_self
 have hst: ∀c,0≤c∧c<w.fC.Af->gt (A5a w x).Ja c=if c=gt x.Af 0∧ ¬Aps w x<w.fC.Ez then 0 else gt w.fP.Ja c:=by
  intro c h
  show gt (if Aps w x<w.fC.Ez then w.fP.Ja else w.fP.Ja.set (gt x.Af 0).toNat 0) c=_
  by_cases q:Aps w x<w.fC.Ez
  ·rw[if_pos q,if_neg (fun r=>r.2 q)]
  ·rw[if_neg q,Az5 hk.1 (by rw[P.st];exact h)]
   by_cases r:c=gt x.Af 0
   ·rw[if_pos r,if_pos ⟨r,q⟩]
   ·rw[if_neg r,if_neg (fun s=>r s.1)]
 have hz: ∀b m,Ari ((w.fP.Gl.drop b).take m)=true->Ari (((A5a w x).Gl.drop b).take m)=true:=fun b m h=>Biq h
 have hN:(gt x.Af 0*w.fC.Ez+x.Hj).toNat=(gt x.Af 0*w.fC.Ez).toNat+x.Hj.toNat:=by have:=X.at0;omega
 have hall: ∀m:Nat,m≤(Aps w x).toNat->Ari (((A5a w x).Gl.drop (gt x.Af 0*w.fC.Ez).toNat).take m)=true:=by
  intro m h
  show Ari (((Ax1 _ _ _).drop _).take m)=true;rw[hN];exact Bdj X.zero (by omega)
 have hlen:(A5a w x).Gl.length=w.fP.Gl.length:=Atb _ _ _
 have hcons:x.Af=gt x.Af 0::x.Af.drop 1:=by
  cases h:x.Af with
  |nil=>rw[h]at hc;simp at hc
  |cons a l=>rfl
 have hnd:=Aw8 X.rc.dist
 have hch:chL w.fQ=x.Af++chL qs:=by rw[hq];rfl
 have hn:=I.chn;rw[hch]at hn
 have hchi:=I.chi;rw[hch]at hchi;unfold Ay2;refine Bcd I (A5a w x) _ _ ⟨P.conf,by rw[hlen];exact P.mem,?_,P.own,fun c h=> ?_⟩ (fun c h=>⟨?_,rfl⟩) (fun k h=> ?_) ?_ ?_ (fun y hy=> ?_) ?_ (fun c=> ?_) I.log
 ·show((if Aps w x<w.fC.Ez then w.fP.Ja else w.fP.Ja.set (gt x.Af 0).toNat 0).length:Int)=_
  split
  ·exact P.st
  ·rw[Z49];exact P.st
 ·obtain⟨p1,p2,p3,p4⟩:=P.one c h;rw[hst c h]
  show _∧(_->0≤gt w.fP.Gm c∧_)∧(_->gt w.fP.Gm c= -1)∧_
  by_cases q:c=gt x.Af 0∧ ¬Aps w x<w.fC.Ez
  ·rw[if_pos q];refine⟨by omega,fun f=>by omega,fun _=>p3 (by rw[q.1,X.st];decide),fun _=> ?_⟩
   unfold A0g;rw[q.1];exact hall _ (by omega)
  ·rw[if_neg q];exact⟨p1,p2,p3,fun f=>hz _ _ (p4 f)⟩
 ·rw[hst c h];split
  ·rename_i q;rw[q.1,X.st];decide
  ·rfl
 ·have:=(I.thing k h).2.2;unfold Asm at this ⊢;rw[Bool.or_eq_true,Z4]at this ⊢;rcases this with a|⟨a,b⟩
  ·exact .inl a
  ·exact .inr ⟨hz _ _ a,b⟩
 ·rw[hq];unfold A0r Awb;split<;>rfl
 ·rw[hq];unfold A0r slL;split<;>rfl
 ·rcases D4.1 hy with e|e
  ·subst e;unfold A0r
   by_cases q:Aps w x<w.fC.Ez
   ·rw[if_pos q];refine⟨Axk.2 ⟨X.rc.conf,X.rc.slot,X.rc.first,X.rc.ntag,X.rc.tags,X.rc.dist,⟨by show 0≤Aps w x;omega,by show Aps w x≤_;omega⟩,fun f=> ?_⟩,?_⟩
    ·have f:x.Af=[]:=f;rw[f]at hc;simp at hc
    ·unfold Apk;rw[Bool.or_eq_true];exact .inr (hall _ (Z9 _))
   ·rw[if_neg q];refine⟨Axk.2 ⟨X.rc.conf,X.rc.slot,X.rc.first,X.rc.ntag,X.rc.tags,?_,⟨Int.le_refl _,by show(0:Int)≤_;omega⟩,fun _=>rfl⟩,?_⟩
    ·exact Bis X.rc.dist
    ·unfold Apk;rw[Bool.or_eq_true];exact .inr rfl
  ·obtain⟨a,b⟩:=I.wrec y (by rw[hq];exact Z56 _ e)
   refine⟨a,?_⟩;unfold Apk at b ⊢;rw[Bool.or_eq_true]at b ⊢;rcases b with b|b
   ·exact .inl b
   ·exact .inr (hz _ _ b)
 ·show((A0r w x).Af++chL qs).Nodup;unfold A0r;split
  ·exact hn
  ·rw[hcons]at hn;exact(List.nodup_cons.1 hn).2
 ·show c∈(A0r w x).Af++chL qs ↔ _;rw[hcons,Sk]at hn
  have hni:=(List.nodup_cons.1 hn).1
  have hci:=hchi c;rw[hcons,Sk,D4]at hci;unfold A0r
  by_cases q:Aps w x<w.fC.Ez
  ·rw[if_pos q]
   show c∈x.Af++chL qs ↔ _;rw[hchi c];refine and_congr_right fun a=> ?_;rw[hst c a,if_neg (fun r=>r.2 q)]
  ·rw[if_neg q]
   show c∈x.Af.drop 1++chL qs ↔ _;constructor
   ·intro h;obtain⟨a,b⟩:=hci.1 (.inr h);refine⟨a,?_⟩;rw[hst c a,if_neg]
    ·exact b
    ·rintro⟨r,_⟩;rw[r]at h;exact hni h
   ·rintro⟨a,b⟩;rw[hst c a]at b;split at b
    ·omega
    ·rename_i r;rcases hci.2 ⟨a,b⟩with e|e
     ·exact absurd ⟨e,q⟩ r
     ·exact e
def Biu (g n:Bg)(k x:Int):Bg:=lnk n (if g.Hh=0∧x+1=g.fUp∧n.B5=k+1 then g.Hg else n.B5) (if x+1=g.Hh then g.Hg else n.Hg) (if x+1=g.Hg then g.Hh else n.Hh)
theorem Bgw{l l':List Bg}{t:Int->Lk}(A:AtT l t){k:Int}(hk:0≤k∧k<(l.length:Int))(hN:l'.length=l.length)(hg: ∀x,0≤x∧x<(l.length:Int)->x≠k->gt l' x=Biu (gt l k) (gt l x) k x){gn:Int}(hb:gt l' k=Ar2 2 gn):AtT l' (rem t k):=by
 intro x hx;rw[hN]at hx
 by_cases e:x=k
 ·subst e;rw[A3a,hb];rfl
 ·rw[Ajr e,hg x hx e,A x hx,A k hk];rfl
theorem Bnu{w:Es}(I:Inv w){t:Int->Lk}(A:AtT w.fL t)(F:Aic w.fL.length t (Awb w.fQ)){k:Int}(hl:Lv w.fL.length t k)(l':List Bg)(q':List A3)(hN:l'.length=w.fL.length)
  (hg: ∀x,0≤x∧x<(w.fL.length:Int)->x≠k->gt l' x=Biu (gt w.fL k) (gt w.fL x) k x) (hb:gt l' k=Ar2 2 (gt w.fL k).Bz)
  (F':Aic w.fL.length (rem t k) (Awb q')) (hr: ∀x∈q',Apj w.fC x=true∧Apk w x=true)
  (hcn:(chL q').Nodup) (hci: ∀c,c∈chL q' ↔ c∈chL w.fQ++(gt w.fL k).Af) (hsn:(slL q').Nodup) (hsi: ∀s,s∈slL q' ↔ s∈slL w.fQ∨s=k):
  Inv (Es.mk w.fC (Ahf w.fP (gt w.fL k).Af) l' q' w.Rl):=by
 have hk:=hl.1
 have P:=I.live A hl;obtain⟨L1,L2,L3⟩:=Ayn I hk;refine⟨Ai3.2 L1,by show(l'.length:Int)=_;rw[hN];exact I.len,fun x hx=> ?_,fun x hx c=> ?_,fun x hx=> ?_,⟨rem t k,Bgw A hk hN hg hb,?_⟩,fun x hx=> ?_,hcn,fun c=> ?_,hsn,fun s=> ?_,I.log⟩
 ·have hx:0≤x∧x<(l'.length:Int):=hx;rw[hN]at hx
  show Aso w.fC (gt l' x)=true
  by_cases e:x=k
  ·rw[e,hb];exact A1t I.conf (by omega) (by omega) P.gen
  ·rw[hg x hx e];obtain⟨a1,a2,a3,a4⟩:=A2l (I.node k hk)
   by_cases hs:(gt w.fL x).Ja=1
   ·have X:=Ajx.1 ⟨I.node x hx,hs⟩;refine(Ajx.2 (A78 X ?_ ?_ ?_)).1
    ·split
     ·exact a3
     ·exact X.first
    ·split
     ·exact a3
     ·exact X.next
    ·split
     ·exact a4
     ·exact X.prev
   ·have X:=Aw4 (I.node x hx) hs
    have B:=(A71 F.tree hl).bare x hx.1 hx.2 (by rw[Ajr e,A x hx];simpa[A1d]using hs)
    rw[Ajr e,A x hx,A k hk]at B;obtain⟨_,B2,B3,B4⟩:=B
    have q1:(if(gt w.fL k).Hh=0∧x+1=(gt w.fL k).fUp∧(gt w.fL x).B5=k+1 then(gt w.fL k).Hg else(gt w.fL x).B5)=0:=B2
    have q2:(if x+1=(gt w.fL k).Hh then(gt w.fL k).Hg else(gt w.fL x).Hg)=0:=B3
    have q3:(if x+1=(gt w.fL k).Hg then(gt w.fL k).Hh else(gt w.fL x).Hh)=0:=B4
    have this:lnk (gt w.fL x) 0 0 0=gt w.fL x:=by rw[X];rfl
    unfold Biu;rw[q1,q2,q3,this];exact I.node x hx
 ·have hx:0≤x∧x<(l'.length:Int):=hx;rw[hN]at hx
  show c∈(gt l' x).Af ↔ (0≤c∧c<w.fC.Af)∧gt (Ahf w.fP (gt w.fL k).Af).Ja c=1∧gt (Ahf w.fP (gt w.fL k).Af).Gm c=x
  by_cases e:x=k
  ·rw[e,hb];constructor
   ·intro q;cases q
   ·rintro⟨a,b,d⟩;rw[(L3 c a).1]at b;rw[(L3 c a).2]at d;split at b
    ·omega
    ·rename_i q;rw[if_neg q]at d;exact absurd ((I.own k hk c).2 ⟨a,b,by omega⟩) q
  ·rw[hg x hx e]
   show c∈(gt w.fL x).Af ↔ _;rw[I.own x hx c];constructor
   ·rintro⟨a,b,d⟩
    have q:c ∉ (gt w.fL k).Af:=fun q=>e (by have:=((I.own k hk c).1 q).2.2;omega)
    rw[(L3 c a).1,(L3 c a).2,if_neg q,if_neg q];exact⟨a,b,d⟩
   ·rintro⟨a,b,d⟩;rw[(L3 c a).1]at b;rw[(L3 c a).2]at d;split at b
    ·omega
    ·rename_i q;rw[if_neg q]at d;exact⟨a,b,d⟩
 ·have hx:0≤x∧x<(l'.length:Int):=hx;rw[hN]at hx
  show(gt l' x).Er.all (Ar5 w.fC (gt l' x).Af)=true∧Ank (gt l' x).Er=true∧Asm w.fC (Ahf w.fP (gt w.fL k).Af).Gl (gt l' x)=true
  by_cases e:x=k
  ·rw[e,hb];exact⟨rfl,rfl,rfl⟩
  ·rw[hg x hx e];obtain⟨t1,t2,t3⟩:=I.thing x hx;refine⟨t1,t2,?_⟩;rw[L2];exact t3
 ·show Aic (l'.length:Int) _ (Awb q');rw[hN];exact F'
 ·obtain⟨a,b⟩:=hr x hx;refine⟨a,?_⟩;unfold Apk at b ⊢
  show(_||Ari (((Ahf w.fP (gt w.fL k).Af).Gl.drop (gt x.Af 0*w.fC.Ez).toNat).take x.Hj.toNat))=true
  rw[L2];exact b
 ·show c∈chL q' ↔ _;rw[hci c];exact Bca I hk c
 ·show s∈slL q' ↔ (0≤s∧s<(l'.length:Int))∧(gt l' s).Ja=2;rw[hsi s,hN,I.sli];constructor
  ·rintro(⟨a,b⟩|a)
   ·refine⟨a,?_⟩
    have e:s≠k:=fun e=>by rw[e,P.st]at b;cases b
    rw[hg s a e];exact b
   ·rw[a,hb];exact⟨hk,rfl⟩
  ·rintro⟨a,b⟩
   by_cases e:s=k
   ·exact .inr e
   ·rw[hg s a e]at b;exact .inl ⟨a,b⟩
def Az7 (l:List Bg)(g:Int):List Bg:=((bif plB l (gt l g).Hg then l.set ((gt l g).Hg - 1).toNat (Bm4 (gt l ((gt l g).Hg - 1)) 0)else l).set g.toNat (Ar2 2 (gt l g).Bz))
def Bdl (l:List Bg)(x:A3):A3:=A3.mk x.As (gt l (x.B5 - 1)).Hg x.Dt x.Af x.Hj
def Ay3 (w:Es)(x:A3)(qs:List A3):Es:=
 Es.mk w.fC (Ahf w.fP (gt w.fL (x.B5 - 1)).Af) (Az7 w.fL (x.B5 - 1)) (Aje (gt w.fL (x.B5 - 1)) x.B5::Bdl w.fL x::qs) w.Rl
theorem Bdm (l:List Bg)(g:Int):(Az7 l g).length=l.length:=by
 unfold Az7;rw[Z49];cases plB l (gt l g).Hg<;>simp
theorem Bgx{l:List Bg}(R:Rg l){g x:Int}(hg:0≤g∧g<(l.length:Int))(hx:0≤x∧x<(l.length:Int))(hne:x≠g)(hp:(gt l g).Hh=0)(hf: ¬(x+1=(gt l g).fUp∧(gt l x).B5=g+1)):gt (Az7 l g) x=Biu (gt l g) (gt l x) g x:=by
 obtain⟨r1,r2,r3,r4⟩:=R.rg g hg
 have hl:=R.len;unfold Az7 Biu;rw[Bdh r3.1 r3.2 hl,hp,if_neg (fun q=>hf q.2),if_neg (by omega: ¬x+1=0)]
 by_cases h:(gt l g).Hg=0
 ·rw[h];simp only[beq_self_eq_true,Bool.not_true,cond_false];rw[Apo hg hx,if_neg hne,if_neg (by omega)];rfl
 ·rw[Aky h];simp only[Bool.not_false,cond_true];rw[Apo (by rw[Z49];exact hg) (by rw[Z49];exact hx),if_neg hne,Apo (by omega) hx]
  by_cases e:x=(gt l g).Hg - 1
  ·rw[if_pos e,if_pos (by omega),←e];rfl
  ·rw[if_neg e,if_neg (by omega)];rfl
theorem Bgy{l:List Bg}{g:Int}(hg:0≤g∧g<(l.length:Int)):gt (Az7 l g) g=Ar2 2 (gt l g).Bz:=by
 unfold Az7;rw[Ayk];cases plB l (gt l g).Hg<;>simpa using hg
structure B3r (w:Es)(t:Int->Lk)(x:A3)(qs:List A3):Prop where
 rc:Brx w.fC x
 lv:Lv w.fL.length t (x.B5 - 1)
 or:Oo w.fL.length t (x.B5 - 1)
 pv:(gt w.fL (x.B5 - 1)).Hh=0
 fr:Aic w.fL.length (rem t (x.B5 - 1)) (Awb (Aje (gt w.fL (x.B5 - 1)) x.B5::Bdl w.fL x::qs))
 nf: ∀y,0≤y∧y<(w.fL.length:Int)-> ¬(y+1=(gt w.fL (x.B5 - 1)).fUp∧(gt w.fL y).B5=x.B5 - 1+1)
theorem Bcf{w:Es}(I:Inv w){t:Int->Lk}(A:AtT w.fL t)(F:Aic w.fL.length t (Awb w.fQ)){x:A3}{qs:List A3}(hq:w.fQ=x::qs)(hf:x.B5≠0):B3r w t x qs:=by
 have R:=Axk.1 (Axr I hq).1
 have hx:x∈w.fQ:=by rw[hq];exact List.mem_cons_self
 have hF:=R.first
 have e:x.B5 - 1+1=x.B5:=by omega
 have F1:Aic w.fL.length t ((x.As,x.B5 - 1+1)::Awb qs):=by rw[e];rw[hq]at F;exact F
 obtain⟨h1,h2,h3⟩:=Bde F1 (by omega)
 have hin:=h1.1
 have hor:Oo w.fL.length t (x.B5 - 1):=F.kid.or (Inv.qs hx) (A3b hin)
 have hpv:(gt w.fL (x.B5 - 1)).Hh=0:=by rw[A _ hin]at h2;exact h2
 refine⟨R,h1,hor,hpv,?_,?_⟩
 ·rw[A _ hin,e]at h3;exact h3
 ·rintro y hy ⟨a,b⟩
  have hup:(t (x.B5 - 1)).up=y+1:=by rw[A _ hin,a];rfl
  have hfi:(t y).fi=x.B5:=by rw[A _ hy,←e,←b];rfl
  cases hlv:(t y).lv with
  |false=>
   have:=(F.tree.bare y hy.1 hy.2 hlv).2.1;omega
  |true=>
   have hY:Lv w.fL.length t y:=⟨hy,hlv⟩
   have:=(F.tree.link y hY).first (by omega)
   rw[hfi]at this;refine hor.2.2 ⟨?_,?_⟩
   ·rw[hup];simpa using hY
   ·rw[hup];simpa using this.2.2.2.symm
theorem Bnv{w:Es}(I:Inv w){x:A3}{qs:List A3}(hq:w.fQ=x::qs)(hf:x.B5≠0):Inv (Ay3 w x qs):=by
 obtain⟨t,A,F⟩:=I.forest
 have X:=Bcf I A F hq hf
 have hk:=X.lv.1
 have hF:=X.rc.first
 have L:=I.live A X.lv;obtain⟨b1,b2,b3,b4,b5,b6⟩:=Ap I.conf
 have hch:chL w.fQ=x.Af++chL qs:=by rw[hq];rfl
 have hcn:=Bb9 I hk;rw[hch]at hcn
 have hsl:slL w.fQ=(if x.As=0 then []else [Aqd .i64 x.As 1])++slL qs:=by rw[hq];rfl
 have hsn:=I.sln;rw[hsl]at hsn
 have e1:slL (Aje (gt w.fL (x.B5 - 1)) x.B5::Bdl w.fL x::qs)=(x.B5 - 1)::((if x.As=0 then []else [Aqd .i64 x.As 1])++slL qs):=by
  show(if x.B5=0 then []else [Aqd .i64 x.B5 1])++_=_
  rw[if_neg hf,sb1 (by omega) (by omega)];rfl
 have hns:x.B5 - 1 ∉ slL w.fQ:=fun h=>by
  have:=((I.sli _).1 h).2
  have:=L.st;omega
 unfold Ay3;refine Bnu I A F X.lv _ _ (Bdm _ _) (fun y hy hne=>Bgx I.rg hk hy hne X.pv (X.nf y hy)) (Bgy hk) X.fr (fun y hy=> ?_) ?_ (fun c=> ?_) ?_ (fun s=> ?_)
 ·rcases D4.1 hy with e|e
  ·rw[e];exact⟨A1f L (by omega),A79 _ _ _⟩
  ·rcases D4.1 e with e|e
   ·rw[e];exact⟨Axk.2 ⟨X.rc.conf,X.rc.slot,L.next,X.rc.ntag,X.rc.tags,X.rc.dist,X.rc.done,X.rc.zero⟩,(Axr I hq).2⟩
   ·exact I.wrec y (by rw[hq];exact Z56 _ e)
 ·show((gt w.fL (x.B5 - 1)).Af++(x.Af++chL qs)).Nodup;obtain⟨n1,n2,n3⟩:=Agh.1 hcn;exact Agh.2 ⟨n2,n1,fun z h1 h2=>n3 z h2 h1⟩
 ·rw[hch]
  show c∈(gt w.fL (x.B5 - 1)).Af++(x.Af++chL qs) ↔ _;rw[Ho,Ho (s:=x.Af++chL qs)];exact Or.comm
 ·rw[e1,←hsl];exact List.nodup_cons.2 ⟨hns,I.sln⟩
 ·rw[e1,←hsl,D4];exact Or.comm
end Go.Proofs.YtjdblamhaljjbaaGreat
