/- The plain law for FnStales; no condition. -/
import Derived.Test.YtcdojenmonmcfaaGreatFFnStalesTa
import Derived.Test.YtcdojenmonmcfaaGreatFFnStalesW
set_option linter.all false
namespace Go.Proofs.YtcdojenmonmcfaaGreat
open Go.Eng Go.ChangeShapes Go.WideShapes Go.ChangeAt Go.RowKit
theorem Ad5{i:Nat}(h:i≤140737488355328):An6 .i64 (i:Int) 1=((i+1:Nat):Int):=by
 grind [An6,IntKind.wrap_i64]
theorem Wx{α:Type}[Inhabited α]{l:List α}{i:Nat}(h:i<l.length):gt l (i:Int)=l[i]:=by
 grind [gt]
theorem Ane{α:Type}[Inhabited α]{l:List α}{i:Nat}(h:i<l.length):gt l (i:Int)∈l:=by
 grind [Wx]
theorem Al5{α:Type}[Inhabited α]{l:List α}{i:Int}(h0:0≤i)(h:i<l.length):gt l i∈l:=by
 obtain⟨k,rfl⟩: ∃k:Nat,i=k:=⟨i.toNat,by omega⟩
 grind [Ane]
theorem Ad8{i k:Nat}(h:i<k):decide ((i:Int)<(k:Int))=true:=by grind
theorem Arh{i k:Nat}(h:k≤i):decide ((i:Int)<(k:Int))=false:=by grind
theorem Ht{n:Int}(h0: -9223372036854775808≤n)(h1:n≤9223372036854775807):IntKind.i64.wrap n=n:=by rw[IntKind.wrap_i64];omega
theorem Bld (n:Int): -9223372036854775808≤IntKind.i64.wrap n∧IntKind.i64.wrap n≤9223372036854775807:=by rw[IntKind.wrap_i64];omega
theorem Azt{a b:Int}(h: ¬a=b):(a != b)=true:=by simpa using h
theorem App{a b:Int}(h: ¬a=b):(a==b)=false:=by simpa using h
def inB (x a b:Int):Bool:=decide (a≤x∧x≤b)
theorem Acw{x a b:Int}:inB x a b=true ↔ a≤x∧x≤b:=by unfold inB;exact decide_eq_true_iff
theorem A6z{x a b:Int}:inB x a b=false ↔ ¬(a≤x∧x≤b):=by unfold inB;exact decide_eq_false_iff_not
theorem Ats (b:Bool)(x:Bool):(bif b then some x else some false)=some (b&&x):=by cases b<;>rfl
theorem Ble (b:Bool)(x:Bool):(bif b then some false else some x)=some (!b&&x):=by cases b<;>rfl
theorem A0q (b:Bool)(x:Bool):(bif b then some true else some x)=some (b||x):=by cases b<;>rfl
theorem Ad4{α:Type}(b:Bool)(x y:α):(bif !b then x else y)=(bif b then y else x):=by cases b<;>rfl
theorem Akq{i n:Nat}(h:i<n):((0:Int)≤(i:Int)∧(i:Int)<(n:Int)):=⟨by omega,by omega⟩
theorem Bur{α:Type}(l:List α)(q:α->Bool)(fin:Option Bool)(L:Nat->Int->Option Bool)
  (hs: ∀n (i:Nat) (h:i<l.length),L (n+1) (i:Int)=bif q l[i]then L n ((i+1:Nat):Int)else some false)
  (he: ∀n,L (n+1) (l.length:Int)=fin):
  ∀(n i:Nat),i≤l.length->l.length - i<n->L n (i:Int)=bif (l.drop i).all q then fin else some false:=by
 intro n
 induction n with
 |zero=>omega
 |succ n ih=>
  intro i hi hn;rcases Hn i l.length with h|h
  ·rw[hs n i h,Z47 h,Ge];cases q l[i]with
   |false=>rfl
   |true=>grind
  grind
theorem Att{α:Type}{K:Nat}(hK:281474976710656≤K)(l:List α)(hl:l.length≤140737488355328)(q:α->Bool)(fin:Option Bool)(L:Nat->Int->Option Bool)
  (hs: ∀n (i:Nat) (h:i<l.length),L (n+1) (i:Int)=bif q l[i]then L n ((i+1:Nat):Int)else some false)
  (he: ∀n,L (n+1) (l.length:Int)=fin):L K 0=bif l.all q then fin else some false:=by
 have:=Bur l q fin L hs he K 0 (Z21 _) (by omega)
 simpa using this
theorem Apt{K:Nat}(hK:281474976710656≤K)(N:Nat)(hl:N≤140737488355328)(q:Nat->Bool)(fin:Option Bool)(L:Nat->Int->Option Bool)
  (hs: ∀n (i:Nat) (h:i<N),L (n+1) (i:Int)=bif q i then L n ((i+1:Nat):Int)else some false)
  (he: ∀n,L (n+1) (N:Int)=fin):L K 0=bif (List.range N).all q then fin else some false:=by
 refine Att hK (List.range N) (by simpa using hl) q fin L (fun n i h=> ?_) (fun n=> ?_)
 ·rw[List.getElem_range];exact hs n i (by simpa using h)
 ·rw[List.length_range];exact he n
theorem Blf{α:Type}(l:List α)(q:α->Bool)(L:Nat->Int->Int->Option Int)
  (hs: ∀n (i:Nat) (h:i<l.length),L (n+1) (l.length:Int) (i:Int)=bif q l[i]then some (i:Int)else L n (l.length:Int) ((i+1:Nat):Int))
  (he: ∀n,L (n+1) (l.length:Int) (l.length:Int)=some (-1)):
  ∀(n i:Nat),i≤l.length->l.length - i<n-> ∃r,L n (l.length:Int) (i:Int)=some r∧decide (r≥0)=(l.drop i).any q:=by
 intro n
 induction n with
 |zero=>omega
 |succ n ih=>
  intro i hi hn;rcases Hn i l.length with h|h
  ·rw[hs n i h,Z47 h,List.any_cons]
   grind
  ·obtain rfl:i=l.length:=by omega
   exact⟨_,he n,by simp⟩
theorem A3r{α:Type}[Inhabited α]{K:Nat}(hK:281474976710656≤K)(l:List α)(hl:l.length≤140737488355328)(f:α->Option Bool)(q:α->Bool)(hf: ∀x∈l,f x=some (q x))(L:Nat->Int->Int->Option Int)
  (hL: ∀n N i,L (n+1) N i=bif decide (i<N)then(if(0:Int)≤i∧i<(l.length:Int)then(f (gt l i)).bind (fun r=>bif r then some i else L n N (An6 .i64 i 1))else none)else some (-1)):
  ((L K (l.length:Int) 0).bind fun r=>some (decide (r≥0)))=some (l.any q):=by
 obtain⟨r,h1,h2⟩:=Blf l q L (fun n i h=>by
  rw[hL,Ad8 h,cond_true,if_pos (Akq h),hf _ (Ane h),Wx h,Z0,Ad5 (by omega)]) (fun n=>by rw[hL,Arh (Z9 _),cond_false]) K 0 (Z21 _) (by omega)
 rw[show((0:Nat):Int)=0 from rfl]at h1
 rw[h1,Z0,h2,Z55]
theorem Azf{K:Nat}(hK:281474976710656≤K)(l:List Int)(x:Int)(hl:l.length≤140737488355328):Ako K l x=some (l.contains x):=by
 unfold Ako Aw7;obtain⟨r,h1,h2⟩:=Blf l (fun y=>x==y) (Anx K l x) (fun n i h=>by
  rw[Anx,Ad8 h,cond_true,if_pos (Akq h),Wx h,Ad5 (by omega)]) (fun n=>by simp_all[Anx]) K 0 (Z21 _) (by omega)
 grind
theorem Azg{K:Nat}(hK:281474976710656≤K)(l:List Int)(x:Int)(hl:l.length≤140737488355328):Aot K l x=some (l.contains x):=by
 unfold Aot
 have h: ∀(n i:Nat),i≤l.length->l.length - i<n->Au4 K l x n (i:Int)=some ((l.drop i).contains x):=by
  intro n
  induction n with
  |zero=>omega
  |succ n ih=>
   intro i hi hn;rw[Au4];rcases Hn i l.length with h|h
   ·rw[Ad8 h,cond_true,if_pos (Akq h),Wx h,Ad5 (by omega),ih (i+1) h (by omega),Z47 h,List.contains_cons,A0q,Bool.beq_comm]
   grind
 have:=h K 0 (Z21 _) (by omega)
 grind
theorem Anh (K:Nat)(x a b:Int):Gx K x a b=some (inB x a b):=by
 unfold Gx inB
 grind
theorem Avz (K:Nat)(x a b:Int):V1 K x a b=some (inB x a b):=Anh K x a b
def Ahg (c:Ea):Bool:=inB c.Ay 2 12&&(inB c.G8 8 16&&(inB c.E6 2 8&&(inB c.Gu 1 8&&(inB c.E7 1 16&&inB c.G9 1 4))))
theorem Aqz (K:Nat)(c):Anb K c=some (Ahg c):=by
 simp_all[Anb,Anh,Ats,Ahg]
theorem A23 (K:Nat)(c):Aug K c=some (Ahg c):=Aqz K c
theorem A1{c:Ea}(h:Ahg c=true):(2≤c.Ay∧c.Ay≤12)∧(8≤c.G8∧c.G8≤16)∧(2≤c.E6∧c.E6≤8)∧(1≤c.Gu∧c.Gu≤8)∧(1≤c.E7∧c.E7≤16)∧(1≤c.G9∧c.G9≤4):=by
 simp_all[Ahg,Acw]
def Ak8 (c:Ea):Int:=bif Ahg c then c.Ay*c.G8 else 0
theorem Auu{a b m n:Int}(h1:0≤a)(h2:a≤m)(h3:0≤b)(h4:b≤n):0≤a*b∧a*b≤m*n:=
 ⟨Int.mul_nonneg h1 h3,Int.mul_le_mul h2 h4 h3 (by omega)⟩
theorem Atu (K:Nat)(c):Aq8 K c=some (Ak8 c):=by
 unfold Aq8 Ak8;rw[Aqz,Z0,Ad4];cases h:Ahg c with
 |false=>rfl
 |true=>
  obtain⟨h1,h2,_⟩:=A1 h
  have:=Auu (a:=c.Ay) (b:=c.G8) (m:=12) (n:=16) (by omega) h1.2 (by omega) h2.2
  simp only[cond_true,An8]
  grind [Ht]
theorem A2h (K:Nat)(c):Ax5 K c=some (Ak8 c):=Atu K c
theorem A0r (c:Ea):0≤Ak8 c∧Ak8 c≤192:=by
 unfold Ak8;cases h:Ahg c with
 |false=>simp
 |true=>
  obtain⟨h1,h2,_⟩:=A1 h
  have:=Auu (a:=c.Ay) (b:=c.G8) (m:=12) (n:=16) (by omega) h1.2 (by omega) h2.2
  grind
section
variable {K:Nat} (hK:281474976710656≤K)
include hK
def Aqi (l:List Int):Bool:=l.all (fun x=>x==0)
theorem A1b (l:List Int)(hl:l.length≤140737488355328):Asa K l=some (Aqi l):=by
 unfold Asa;rw[Att hK l hl (fun x=>x==0) (some true) (Arq K l) (fun n i h=>by
  rw[Arq,Ad8 h,cond_true,if_pos (Akq h),Wx h,Ad5 (by omega)]
  grind) (fun n=>by simp_all[Arq])]
 grind [Aqi]
theorem A24 (l:List Int)(hl:l.length≤140737488355328):Auh K l=some (Aqi l):=by
 unfold Auh Akp Al0;rw[A3r hK l hl (Azq K) (fun x=>x != 0) (fun x _=>rfl) (Agr K l) (fun n N i=>rfl)]
 simp_all[Aqi,List.not_any_eq_all_not,bne]
end
def Atl (a b:Int):Int:=bif inB a 0 1000000000&&inB b 1 1000000000 then(a+b - 1) / b else 0
theorem A0e (K:Nat)(a b:Int):Axn K a b=some (Atl a b):=by
 unfold Axn Atl;rw[Anh,Anh,Z0];cases h1:inB a 0 1000000000 with
 |false=>rfl
 |true=>
  cases h2:inB b 1 1000000000 with
  |false=>rfl
  |true=>
   rw[Acw]at h1 h2;simp only[Z0,cond_true,Bool.not_true,cond_false,Bool.and_self];rw[if_pos (by omega)]
   unfold Alk An7 An6;rw[Ht (n:=a+b) (by omega) (by omega),Ht (n:=a+b - 1) (by omega) (by omega)]
   rw[Int.tdiv_eq_ediv_of_nonneg (by omega)]
   have h3:(a+b - 1) / b≤a+b - 1:=Int.ediv_le_self _ (by omega)
   have h4:0≤(a+b - 1) / b:=Int.ediv_nonneg (by omega) (by omega)
   grind [Ht]
def Avi (c:Ea)(mem:List Int)(k:Int):List Int:=(mem.drop (k*c.G8).toNat).take c.G8.toNat
def A1c (c:Ea)(p:Dn)(k:Nat):Bool:=
 inB (gt p.Vi k) 0 2&&((bif gt p.Vi k==1 then inB (gt p.N8 k) 0 (c.E6 - 1)else gt p.N8 k== -1)&&(bif gt p.Vi k==0 then Aqi (Avi c p.N7 k)else true))
def Auv (c:Ea)(p:Dn):Bool:=
 Ahg c&&((p.N7.length:Int)==Ak8 c&&((p.Vi.length:Int)==c.Ay&&((p.N8.length:Int)==c.Ay&&(List.range c.Ay.toNat).all (A1c c p))))
theorem Ati{c:Ea}{p:Dn}(h:Auv c p=true):Ahg c=true∧(p.N7.length:Int)=c.Ay*c.G8∧(p.Vi.length:Int)=c.Ay∧(p.N8.length:Int)=c.Ay∧ ∀k,k<c.Ay.toNat->A1c c p k=true:=by
 simp_all[Auv,Ak8]
theorem A1z{c:Ea}(hc:Ahg c=true){mem:List Int}(hm:(mem.length:Int)=c.Ay*c.G8){k:Int}(h0:0≤k)(h1:k<c.Ay):
  An8 .i64 k c.G8=k*c.G8∧An8 .i64 (An6 .i64 k 1) c.G8=k*c.G8+c.G8∧0≤k*c.G8∧k*c.G8+c.G8≤(mem.length:Int):=by
 obtain⟨b1,b2,_⟩:=A1 hc
 have m1:=Auu (a:=k) (b:=c.G8) (m:=12) (n:=16) h0 (by omega) (by omega) b2.2
 have e2:(k+1)*c.G8=k*c.G8+c.G8:=by grind
 have m2:(k+1)*c.G8≤c.Ay*c.G8:=Int.mul_le_mul_of_nonneg_right (by omega) (by omega)
 rw[e2]at m2;refine⟨?_,?_,m1.1,by omega⟩
 all_goals grind [An8,Ht,An6]
section
variable {K:Nat} (hK:281474976710656≤K)
include hK
theorem A7e{c:Ea}(hc:Ahg c=true){p:Dn}(hm:(p.N7.length:Int)=c.Ay*c.G8){k:Int}(h0:0≤k)(h1:k<c.Ay):Ar2 K p c k=some (Avi c p.N7 k):=by
 obtain⟨e1,e2,e3,e4⟩:=A1z hc hm h0 h1;obtain⟨b1,b2,_⟩:=A1 hc;unfold Ar2;rw[e1,e2,if_pos ⟨e3,by omega,e4⟩]
 unfold Avi
 grind
theorem A55 (c:Ea)(p:Dn):Av6 K c p=some (Auv c p):=by
 unfold Av6;rw[Aqz,Atu];simp only[Z0];cases hc:Ahg c with
 |false=>simp[Auv,hc]
 |true=>
 obtain⟨b1,b2,b3,_⟩:=A1 hc
 have hby:Ak8 c=c.Ay*c.G8:=by rw[Ak8,hc];rfl
 simp only[cond_true,Auv,hc,Z30,bne];cases h1:(p.N7.length:Int)==Ak8 c with
 |false=>rfl
 |true=>
 cases h2:(p.Vi.length:Int)==c.Ay with
 |false=>rfl
 |true=>
 cases h3:(p.N8.length:Int)==c.Ay with
 |false=>rfl
 |true=>
 rw[beq_iff_eq]at h1 h2 h3
 have hN:((c.Ay.toNat:Nat):Int)=c.Ay:=by omega
 simp only[Bool.not_true,cond_false,Z30];rw[Apt hK c.Ay.toNat (by omega) (A1c c p) (some true) (fun n i=>Alc K c n i p.N7 p.Vi p.N8) (fun n i h=> ?_) (fun n=> ?_)]
 ·grind
 ·obtain⟨e1,e2,e3,e4⟩:=A1z hc (h1.trans hby) (k:=(i:Int)) (by omega) (by omega)
  have hl:(List.take (i*c.G8+c.G8 - i*c.G8).toNat (List.drop (i*c.G8).toNat p.N7)).length≤140737488355327:=by grind
  have hs:An7 .i64 c.E6 1=c.E6 - 1:=by grind [An7,Ht]
  have hck:List.take (i*c.G8+c.G8 - i*c.G8).toNat (List.drop (i*c.G8).toNat p.N7)=Avi c p.N7 i:=by
   unfold Avi;grind
  simp only[Alc,Arr,Awl];rw[e1,e2,Ad5 (by omega),decide_eq_true (show(i:Int)<c.Ay by omega),cond_true,if_pos ⟨by omega,by omega⟩,Anh,Anh,hs,A1b hK _ (by omega),hck]
  simp only[Z0,bne,show((0:Int)≤(i:Int)∧(i:Int)<(p.Vi.length:Int))=True from eq_true ⟨by omega,by omega⟩,show((0:Int)≤(i:Int)∧(i:Int)<(p.N8.length:Int))=True from eq_true ⟨by omega,by omega⟩,if_true,if_pos (show(0:Int)≤i*c.G8∧(i:Int)*c.G8≤i*c.G8+c.G8∧(i:Int)*c.G8+c.G8≤(p.N7.length:Int) from⟨e3,by omega,e4⟩)]
  unfold A1c
  grind
 ·show Alc K c (n+1) _ _ _ _=_
  simp_all[Alc]
theorem Bbo (c:Ea)(p:Dn):Ay8 K c p=some (Auv c p):=by
 unfold Ay8;rw[A23,A2h];simp only[Z0];cases hc:Ahg c with
 |false=>simp[Auv,hc]
 |true=>
 obtain⟨b1,b2,b3,_⟩:=A1 hc
 have hby:Ak8 c=c.Ay*c.G8:=by rw[Ak8,hc];rfl
 simp only[cond_true,Auv,hc,Z30,bne];cases h1:(p.N7.length:Int)==Ak8 c with
 |false=>rfl
 |true=>
 cases h2:(p.Vi.length:Int)==c.Ay with
 |false=>rfl
 |true=>
 cases h3:(p.N8.length:Int)==c.Ay with
 |false=>rfl
 |true=>
 rw[beq_iff_eq]at h1 h2 h3
 have hN:((c.Ay.toNat:Nat):Int)=c.Ay:=by omega
 simp only[Bool.not_true,cond_false,Z30];rw[Apt hK c.Ay.toNat (by omega) (A1c c p) (some true) (fun n i=>Aix K c n p.Vi (p.Vi.length:Int) i p.N7 p.Vi p.N8) (fun n i h=> ?_) (fun n=> ?_)]
 ·grind
 ·have hs:An7 .i64 c.E6 1=c.E6 - 1:=by grind [An7,Ht]
  have hl:(Avi c p.N7 i).length≤140737488355327:=by grind [Avi]
  simp only[Aix,Aqg,Awx];rw[A7e hK hc (h1.trans hby) (by omega) (by omega),Ad5 (by omega),decide_eq_true (show(i:Int)<(p.Vi.length:Int)by omega),cond_true,if_pos ⟨by omega,by omega⟩,Avz,Avz,hs]
  simp only[Z0,A24 hK _ (show(Avi c p.N7 i).length≤140737488355328 by omega),bne,show((0:Int)≤(i:Int)∧(i:Int)<(p.N8.length:Int))=True from eq_true ⟨by omega,by omega⟩,if_true]
  unfold A1c
  grind
 ·show Aix K c (n+1) _ _ _ _ _ _=_
  simp_all[Aix]
end
def Aw4 (c:Ea)(t:Bc):Prop:=Ahg c=true∧1≤t.Ajm∧0≤t.fAt∧t.fAt+t.Ajm≤Ak8 c
instance (c t):Decidable (Aw4 c t):=by unfold Aw4;infer_instance
def Apq (c:Ea)(t:Bc):Bool:=
 decide (Aw4 c t)&&(bif t.Ajn==0 then decide (t.Ajm≤c.G8)&&(t.fAt / c.G8==(t.fAt+t.Ajm - 1) / c.G8)else decide (t.Ajm>c.G8)&&(t.Ajn==Atl t.Ajm c.G8&&t.fAt % c.G8==0))
theorem A7f (K:Nat){c:Ea}{t:Bc}(h:Aw4 c t):
  (bif (t.Ajn==0)then(bif (decide (t.Ajm≤c.G8))then(if c.G8≠(0:Int)then(if c.G8≠(0:Int)then some ((Alk .i64 t.fAt c.G8)==(Alk .i64 (An7 .i64 (An6 .i64 t.fAt t.Ajm) 1) c.G8))else none)else none)else some false)else((Aov K c t.Ajm).bind fun r2=>(bif r2 then((Alz K c t.Ajm).bind fun r3=>(bif (t.Ajn==r3)then(if c.G8≠(0:Int)then some ((Int.tmod t.fAt c.G8)==0)else none)else some false))else some false)))=some (Apq c t):=by
 have hd:decide (Aw4 c t)=true:=decide_eq_true h;obtain⟨hc,h1,h2,h3⟩:=h
 have hb:=A0r c;obtain⟨b1,b2,_⟩:=A1 hc;unfold Apq Aov Alz;rw[hd,if_pos (by omega),if_pos (by omega),A0e]
 have e1:An7 .i64 (An6 .i64 t.fAt t.Ajm) 1=t.fAt+t.Ajm - 1:=by
  unfold An7 An6;rw[Ht (n:=t.fAt+t.Ajm) (by omega) (by omega),Ht (by omega) (by omega)]
 have e2: ∀x:Int,0≤x->x≤192->Alk .i64 x c.G8=x / c.G8:=by
  intro x h0 hx;unfold Alk;rw[Int.tdiv_eq_ediv_of_nonneg h0]
  have h3:x / c.G8≤x:=Int.ediv_le_self _ h0
  have h4:0≤x / c.G8:=Int.ediv_nonneg h0 (by omega)
  grind [Ht]
 grind
theorem Bbp{c:Ea}{t:Bc}(h: ¬Aw4 c t):Apq c t=false:=by
 grind [Apq]
theorem A4r (K:Nat)(c:Ea)(t:Bc):Asv K c t=some (Apq c t):=by
 have hb:=A0r c
 by_cases h:Aw4 c t
 ·rw[←A7f K h];obtain⟨hc,h1,h2,h3⟩:=h;unfold Asv;rw[Atu,Z0,App (by omega),decide_eq_false (by omega),decide_eq_false (by omega),decide_eq_false (by omega)]
  unfold An7;rw[Ht (by omega) (by omega),decide_eq_false (show ¬t.Ajm>Ak8 c - t.fAt by omega)]
  rfl
 ·rw[Bbp h];unfold Asv;rw[Atu,Z0]
  by_cases g0:Ak8 c=0
  ·grind
  ·have hc:Ahg c=true:=by
    grind [Ak8]
   rw[App g0,cond_false]
   by_cases g1:t.Ajm<1
   ·grind
   ·by_cases g2:t.fAt<0
    ·grind
    ·by_cases g3:t.fAt>Ak8 c
     ·grind
     ·rw[decide_eq_false g1,decide_eq_false g2,decide_eq_false g3];unfold An7;rw[Ht (by omega) (by omega),decide_eq_true (show t.Ajm>Ak8 c - t.fAt from ?_)]
      ·rfl
      ·refine Classical.byContradiction fun g4=>h ⟨hc,by omega,by omega,by omega⟩
theorem A4s (K:Nat)(c:Ea)(t:Bc):Ata K c t=some (Apq c t):=by
 have hb:=A0r c
 by_cases h:Aw4 c t
 ·rw[←A7f K h];obtain⟨hc,h1,h2,h3⟩:=h;unfold Ata;rw[A2h,Z0,decide_eq_false (by omega),decide_eq_false (by omega),decide_eq_false (by omega)]
  unfold An7;rw[Ht (by omega) (by omega),decide_eq_false (show ¬t.fAt>Ak8 c - t.Ajm by omega)]
  rfl
 ·rw[Bbp h];unfold Ata;rw[A2h,Z0]
  by_cases g1:t.Ajm≤0
  ·grind
  ·by_cases g2:t.fAt<0
   ·grind
   ·by_cases g3:t.Ajm>Ak8 c
    ·grind
    ·rw[decide_eq_false g1,decide_eq_false g2,decide_eq_false g3]
     have hc:Ahg c=true:=by
      cases hc:Ahg c with
      |true=>rfl
      |false=>simp_all[Ak8]
     unfold An7;rw[Ht (by omega) (by omega),decide_eq_true (show t.fAt>Ak8 c - t.Ajm from ?_)]
     ·rfl
     ·refine Classical.byContradiction fun g4=>h ⟨hc,by omega,by omega,by omega⟩
theorem A5l{α:Type}(l:List α)(i:Nat):(l.drop (0:Int).toNat).take ((i:Int) - 0).toNat=l.take i:=by simp
theorem Bbq{i n:Nat}(h:i≤n):((0:Int)≤0∧(0:Int)≤(i:Int)∧(i:Int)≤(n:Int)):=by grind
def Aue (c:Ea)(l:List Int):Bool:=(List.range l.length).all (fun i=>inB (gt l i) 0 (c.Ay - 1)&& !(l.take i).contains (gt l i))
def A4t (n:As):Bool:=
 n.Sl==0&&(n.fUp==0&&(n.Sm==0&&(n.Ef==0&&(n.Sn==0&&(n.So==0&&((n.Ay.length:Int)==0&&(n.Acx==0&&(n.Sq==0&&((n.F6.length:Int)==0&&(n.Fi.length:Int)==0)))))))))
theorem Bgy (K:Nat)(n):A07 K n=some (A4t n):=by
 grind [A07,A4t]
theorem Bgz{K:Nat}(hK:1≤K)(l:List Int):Anm K l []=some ((l.length:Int)==0):=by
 obtain⟨k,rfl⟩: ∃k,K=k+1:=⟨K - 1,by omega⟩
 cases l with
 |nil=>rfl
 |cons x l=>rfl
theorem Bdo{K:Nat}(hK:1≤K)(l:List Bc):Ark K l []=some ((l.length:Int)==0):=by
 obtain⟨k,rfl⟩: ∃k,K=k+1:=⟨K - 1,by omega⟩
 cases l with
 |nil=>rfl
 |cons x l=>rfl
theorem Bg0{K:Nat}(hK:1≤K)(n):A09 K n=some (A4t n):=by
 simp_all[A09,Azr,Ats,A4t,Bgz,Bdo]
def A4u (c:Ea)(n:As):Bool:=bif n.Acx==0 then n.Sq==0 else n.Ay.contains (An7 .i64 n.Acx 1)&&inB n.Sq 0 c.G8
def A7g (c:Ea)(n:As):Bool:=
 (inB n.fUp 0 c.E6&&(inB n.Ef 0 c.E6&&(inB n.Sn 0 c.E6&&inB n.So 0 c.E6)))&&((!decide (n.Sl<0)&& !decide (n.Sm<0))&&((Aue c n.Ay&&A4u c n)&&((decide ((n.F6.length:Int)≤12)&&decide ((n.Fi.length:Int)≤6))&&(n.Fi.all (fun x=>inB x 0 255)&&n.F6.all (Apq c)))))
def Aqj (c:Ea)(n:As):Bool:=Ahg c&&(inB n.Vi 0 3&&(inB n.C9 1 c.G9&&(bif n.Vi != 1 then A4t n else A7g c n)))
section
variable {K:Nat} (hK:281474976710656≤K)
include hK
theorem Ayr{c:Ea}(hc:Ahg c=true):An7 .i64 c.Ay 1=c.Ay - 1:=by
 obtain⟨b1,_⟩:=A1 hc
 grind [An7,Ht]
theorem A33{c:Ea}(hc:Ahg c=true)(l:List Int)(hl:l.length≤140737488355327):Auc K c l=some (Aue c l):=by
 unfold Auc;rw[Apt hK l.length (by omega) (fun i=>inB (gt l i) 0 (c.Ay - 1)&& !(l.take i).contains (gt l i)) (some true) (fun n i=>Apa K c l n l (l.length:Int) i) (fun n i h=> ?_) (fun n=> ?_)]
 ·grind [Aue]
 ·have hp:(l.take i).length≤140737488355328:=by grind
  simp only[Apa];rw[Ad8 h,cond_true,if_pos (Akq h),Avz,if_pos (Bbq (by omega)),A5l,Azf hK _ _ hp,Ad5 (by omega),Ayr hK hc]
  grind
 ·show Apa K c l (n+1) _ _ _=_
  simp_all[Apa]
theorem A8i{c:Ea}(hc:Ahg c=true)(n:As)(hl:n.Ay.length≤140737488355327):Awn K c n=some (Aue c n.Ay&&A4u c n):=by
 unfold Awn;rw[Apt hK n.Ay.length (by omega) (fun i=>inB (gt n.Ay i) 0 (c.Ay - 1)&& !(n.Ay.take i).contains (gt n.Ay i)) (some (A4u c n)) (fun k i=>Aou K c k i n.Vi n.C9 n.Sl n.fUp n.Sm n.Ef n.Sn n.So n.Ay n.Acx n.Sq n.F6 n.Fi) (fun k i h=> ?_) (fun k=> ?_)]
 ·rw[Ats];rfl
 ·have hp:(n.Ay.take i).length≤140737488355328:=by grind
  simp only[Aou];rw[Ad8 h,cond_true,if_pos (Akq h),Anh,if_pos (Bbq (by omega)),A5l,Azg hK _ _ hp,Ad5 (by omega),Ayr hK hc]
  grind
 ·show Aou K c (k+1) _ _ _ _ _ _ _ _ _ _ _ _ _ _=_;rw[Aou,Arh (Z9 _),cond_false,Azg hK _ _ (by omega),Anh]
  unfold A4u
  grind
theorem A1p (l:List Int)(hl:l.length≤140737488355328):Art K l=some (l.all (fun x=>inB x 0 255)):=by
 unfold Art Aiy Ak4;rw[A3r hK l hl (Aur K) (fun x=> !inB x 0 255) (fun x _=>by simp[Aur,Avz]) (Agq K l) (fun n N i=>rfl)]
 grind
theorem Avj (c:Ea)(n:As)(h1:n.Ay.length≤140737488355327)(h2:n.F6.length≤140737488355327)(h3:n.Fi.length≤140737488355327):Apz K c n=some (Aqj c n):=by
 unfold Apz;rw[Aqz,Bgy];simp only[Z0,Anh];cases hc:Ahg c with
 |false=>simp[Aqj,hc]
 |true=>
 rw[A8i hK hc n h1]
 have hA:Aqd K n.Fi K 0=some (n.Fi.all (fun x=>inB x 0 255)):=by
  rw[Att hK n.Fi (by omega) (fun x=>inB x 0 255) (some true) (Aqd K n.Fi) (fun k i h=> ?_) (fun k=> ?_)]
  ·grind
  ·rw[Aqd,Ad8 h,cond_true,if_pos (Akq h),Wx h,Anh,Ad5 (by omega),Z0,Ad4]
  simp_all[Aqd]
 have hB:Api K c K 0 n.Vi n.C9 n.Sl n.fUp n.Sm n.Ef n.Sn n.So n.Ay n.Acx n.Sq n.F6 n.Fi=some (n.Fi.all (fun x=>inB x 0 255)&&n.F6.all (Apq c)):=by
  rw[Att hK n.F6 (by omega) (Apq c) (some (n.Fi.all (fun x=>inB x 0 255))) (fun k i=>Api K c k i n.Vi n.C9 n.Sl n.fUp n.Sm n.Ef n.Sn n.So n.Ay n.Acx n.Sq n.F6 n.Fi) (fun k i h=> ?_) (fun k=> ?_)]
  ·grind
  ·simp only[Api];rw[Ad8 h,cond_true,if_pos (Akq h),Wx h,A4r,Ad5 (by omega),Z0,Ad4]
  ·show Api K c (k+1) _ _ _ _ _ _ _ _ _ _ _ _ _ _=_
   simp_all[Api]
 rw[hB]
 have e12:decide ((n.F6.length:Int)>12)= !decide ((n.F6.length:Int)≤12):=by grind
 have e6:decide ((n.Fi.length:Int)>6)= !decide ((n.Fi.length:Int)≤6):=by grind
 simp only[Z0,cond_true,e12,e6,Ad4,Ats,Ble];unfold Aqj A7g
 grind
theorem Bbr (c:Ea)(n:As)(h1:n.Ay.length≤140737488355327)(h2:n.F6.length≤140737488355327)(h3:n.Fi.length≤140737488355327):Ay9 K c n=some (Aqj c n):=by
 unfold Ay9;rw[A23,Bg0 (by omega)]
 simp only[Z0,Avz];cases hc:Ahg c with
 |false=>simp[Aqj,hc]
 |true=>
 have hT:Ag8 K n.F6 c=some (n.F6.any (fun t=> !Apq c t)):=
  A3r hK n.F6 (by omega) (fun t=>Awy K t c) (fun t=> !Apq c t) (fun x _=>by simp[Awy,A4s]) (Aeq K n.F6 c) (fun n N i=>rfl)
 have hJ:Aqh K c n.F6 n.Fi=some ((decide ((n.F6.length:Int)≤12)&&decide ((n.Fi.length:Int)≤6))&&(n.Fi.all (fun x=>inB x 0 255)&&n.F6.all (Apq c))):=by
  unfold Aqh;rw[hT,A1p hK _ (by omega)]
  simp only[Z0,Ats,List.not_any_eq_all_not,Bool.not_not,Z7]
  ac_rfl
 obtain⟨_,b2,_⟩:=A1 hc
 have hB:Apl K c K ([n.fUp,n.Ef,n.Sn,n.So]:List Int) (([n.fUp,n.Ef,n.Sn,n.So]:List Int).length:Int) 0 n.Vi n.C9 n.Sl n.fUp n.Sm n.Ef n.Sn n.So n.Ay n.Acx n.Sq n.F6 n.Fi=some (A7g c n):=by
  rw[Att hK ([n.fUp,n.Ef,n.Sn,n.So]:List Int) (by simp) (fun x=>inB x 0 c.E6) (some ((!decide (n.Sl<0)&& !decide (n.Sm<0))&&((Aue c n.Ay&&A4u c n)&&((decide ((n.F6.length:Int)≤12)&&decide ((n.Fi.length:Int)≤6))&&(n.Fi.all (fun x=>inB x 0 255)&&n.F6.all (Apq c)))))) (fun k i=>Apl K c k ([n.fUp,n.Ef,n.Sn,n.So]:List Int) (([n.fUp,n.Ef,n.Sn,n.So]:List Int).length:Int) i n.Vi n.C9 n.Sl n.fUp n.Sm n.Ef n.Sn n.So n.Ay n.Acx n.Sq n.F6 n.Fi) (fun k i h=> ?_) (fun k=> ?_)]
  ·simp_all[A7g,Ats]
  ·simp only[Apl];rw[Ad8 h,cond_true,if_pos (Akq h),Wx h,Avz,Ad5 (by grind),Z0,Ad4]
  ·show Apl K c (k+1) _ _ _ _ _ _ _ _ _ _ _ _ _ _ _ _=_;rw[Apl,Arh (Z9 _),cond_false,hJ,A33 hK hc _ h1,Azf hK _ _ (by omega),Avz]
   simp only[Z0,bne,Ad4,Ats,Ble];unfold A4u
   have hz:(n.Sq==0)=true->inB n.Sq 0 c.G8=true:=by
    intro h;rw[beq_iff_eq]at h;rw[Acw];omega
   grind
 rw[hB];simp only[cond_true,Ad4,Ats];unfold Aqj
 grind
end
theorem Bfe{α β:Type}(l:List α)(q:α->Bool)(fin bad:Option β)(L:Nat->Int->Option β)
  (hs: ∀n (i:Nat) (h:i<l.length),L (n+1) (i:Int)=bif q l[i]then L n ((i+1:Nat):Int)else bad)
  (he: ∀n,L (n+1) (l.length:Int)=fin):
  ∀(n i:Nat),i≤l.length->l.length - i<n->L n (i:Int)=bif (l.drop i).all q then fin else bad:=by
 intro n
 induction n with
 |zero=>omega
 |succ n ih=>
  intro i hi hn;rcases Hn i l.length with h|h
  ·rw[hs n i h,Z47 h,Ge];cases q l[i]with
   |false=>rfl
   |true=>grind
  grind
theorem Bg1{β:Type}{K:Nat}(hK:281474976710656≤K)(N:Nat)(hl:N≤140737488355328)(q:Nat->Bool)(fin bad:Option β)(L:Nat->Int->Option β)
  (hs: ∀n (i:Nat) (h:i<N),L (n+1) (i:Int)=bif q i then L n ((i+1:Nat):Int)else bad)
  (he: ∀n,L (n+1) (N:Int)=fin):L K 0=bif (List.range N).all q then fin else bad:=by
 have:=Bfe (List.range N) q fin bad L (fun n i h=>by grind) (fun n=>by grind) K 0 (Z21 _) (by grind)
 grind
def A0s (t:Bc):Prop:=0≤t.fAt∧t.fAt≤200∧0≤t.Ajm∧t.Ajm≤200
theorem A10{c:Ea}{t:Bc}(h:Apq c t=true):A0s t∧Aw4 c t:=by
 have h1:Aw4 c t:=by
  unfold Apq at h
  grind
 have hb:=A0r c;obtain⟨h2,h3,h4,h5⟩:=h1;exact⟨⟨h4,by omega,by omega,by omega⟩,h2,h3,h4,h5⟩
def Am7 (a b:Bc):Bool:=decide (a.Ajm≤0∨b.Ajm≤0∨a.fAt+a.Ajm≤b.fAt∨b.fAt+b.Ajm≤a.fAt)
theorem Bbs (a b:Bc):Am7 a b=Am7 b a:=by
 unfold Am7
 grind
theorem Bdp (K:Nat){a b:Bc}(ha:A0s a)(hb:A0s b):Az0 K a b=some (Am7 a b):=by
 obtain⟨a1,a2,a3,a4⟩:=ha;obtain⟨b1,b2,b3,b4⟩:=hb;unfold Az0 An7;rw[Ht (n:=b.fAt - a.fAt) (by omega) (by omega),Ht (n:=a.fAt - b.fAt) (by omega) (by omega)]
 simp only[A0q]
 have: ∀x:Bool,x=Am7 a b->some x=some (Am7 a b):=fun x h=>by rw[h]
 by_cases h:a.fAt≤b.fAt
 ·rw[decide_eq_true h,cond_true,A0q,A0q];refine this _ ?_;rw[Bool.eq_iff_iff];simp only[Am7,Bool.or_eq_true,decide_eq_true_eq];omega
 ·rw[decide_eq_false h,cond_false,A0q,A0q];refine this _ ?_;rw[Bool.eq_iff_iff];simp only[Am7,Bool.or_eq_true,decide_eq_true_eq];omega
theorem A7h (K:Nat){a b:Bc}(ha:A0s a)(hb:A0s b):Ax8 K a b=some (Am7 a b):=by
 obtain⟨a1,a2,a3,a4⟩:=ha;obtain⟨b1,b2,b3,b4⟩:=hb;unfold Ax8 Ax7 An7;simp only[IntKind.wrap_u64]
 have: ∀x:Bool,x=Am7 a b->some x=some (Am7 a b):=fun x h=>by rw[h]
 by_cases h:a.fAt>b.fAt
 ·rw[decide_eq_true h,cond_true,A0q,A0q];refine this _ ?_;rw[Bool.eq_iff_iff];simp only[Am7,Bool.or_eq_true,decide_eq_true_eq];omega
 ·rw[decide_eq_false h,cond_false,A0q,A0q];refine this _ ?_;rw[Bool.eq_iff_iff];simp only[Am7,Bool.or_eq_true,decide_eq_true_eq];omega
def Aph (l:List Bc):Bool:=(List.range l.length).all (fun i=>(l.take i).all (fun o=>Am7 o (gt l i)))
def Ari (c:Ea)(chunks:List Int)(t:Bc):Bool:=
 Apq c t&&(List.range ((t.fAt+t.Ajm - 1) / c.G8 - t.fAt / c.G8+1).toNat).all (fun j=>chunks.contains (t.fAt / c.G8+(j:Int)))
theorem A8z{c:Ea}{t:Bc}(h:Apq c t=true):
  c.G8≠0∧Alk .i64 t.fAt c.G8=t.fAt / c.G8∧Alk .i64 (An7 .i64 (An6 .i64 t.fAt t.Ajm) 1) c.G8=(t.fAt+t.Ajm - 1) / c.G8∧0≤t.fAt / c.G8∧t.fAt / c.G8≤(t.fAt+t.Ajm - 1) / c.G8∧(t.fAt+t.Ajm - 1) / c.G8≤192:=by
 obtain⟨hs,hc,h1,h2,h3⟩:=A10 h
 have hb:=A0r c;obtain⟨b1,b2,_⟩:=A1 hc
 have e1:An7 .i64 (An6 .i64 t.fAt t.Ajm) 1=t.fAt+t.Ajm - 1:=by
  unfold An7 An6;rw[Ht (n:=t.fAt+t.Ajm) (by omega) (by omega),Ht (by omega) (by omega)]
 have e2: ∀x:Int,0≤x->x≤192->Alk .i64 x c.G8=x / c.G8∧0≤x / c.G8∧x / c.G8≤192:=by
  intro x h0 hx
  have h3:x / c.G8≤x:=Int.ediv_le_self _ h0
  have h4:0≤x / c.G8:=Int.ediv_nonneg h0 (by omega)
  grind [Alk,Ht]
 obtain⟨x1,x2,x3⟩:=e2 t.fAt h2 (by omega)
 obtain⟨y1,y2,y3⟩:=e2 (t.fAt+t.Ajm - 1) (by omega) (by omega)
 refine⟨by omega,x1,by grind,x2,Int.ediv_le_ediv (by omega) (by omega),y3⟩
theorem Brb{a:Int}{j:Nat}(h0:0≤a)(h:a+j≤140737488355328):An6 .i64 (a+(j:Int)) 1=a+((j+1:Nat):Int):=by
 grind [An6,Ht]
section
variable {K:Nat} (hK:281474976710656≤K)
include hK
theorem A8j (l:List Bc)(hl:l.length≤140737488355327)(hs: ∀t∈l,A0s t):Awv K l=some (Aph l):=by
 unfold Awv Aph;rw[Apt hK l.length (by omega) (fun i=>(l.take i).all (fun o=>Am7 o (gt l i))) (some true) (fun n i=>Akt K l n i) (fun n i h=> ?_) (fun n=> ?_)]
 ·grind
 ·simp only[Akt];rw[Ad8 h,cond_true]
  have hlen:(l.take i).length=i:=by grind
  rw[Att hK (l.take i) (by omega) (fun o=>Am7 o (gt l i)) (Akt K l n (An6 .i64 i 1)) (fun m j=>Ao8 K l i (Akt K l n) m j) (fun m j hj=> ?_) (fun m=> ?_)]
  ·grind [Ad5]
  ·have hj':j<i:=by omega
   simp only[Ao8];rw[Ad8 hj',cond_true,if_pos (Akq h),if_pos (Akq (show j<l.length by omega)),Bdp K (hs _ (Ane h)) (hs _ (Ane (show j<l.length by omega))),Z0,Ad4,Ad5 (by omega),Bbs,List.getElem_take,Wx (show j<l.length by omega)]
  ·show Ao8 K l i _ (m+1) _=_
   simp_all[Ao8]
 ·show Akt K l (n+1) _=_
  simp_all[Akt]
theorem A8k (l:List Bc)(hl:l.length≤140737488355327)(hs: ∀t∈l,A0s t):Aw0 K l=some (Aph l):=by
 unfold Aw0 Aph;rw[Apt hK l.length (by omega) (fun i=>(l.take i).all (fun o=>Am7 o (gt l i))) (some true) (fun n i=>Apb K l n l (l.length:Int) i) (fun n i h=> ?_) (fun n=> ?_)]
 ·grind
 ·simp only[Apb]
  have hlen:(l.take i).length=i:=by grind
  have hC:Agu K (l.take i) (gt l i)=some ((l.take i).any (fun o=> !Am7 o (gt l i))):=
   A3r hK (l.take i) (by omega) (fun t=>Aus K t (gt l i)) (fun o=> !Am7 o (gt l i)) (fun x hx=>by
    grind [Aus,A7h,Ane]) (Ad3 K (l.take i) (gt l i)) (fun n N i=>rfl)
  rw[Ad8 h,cond_true,if_pos (Akq h),if_pos (Bbq (by omega)),A5l,hC,Ad5 (by omega),Z0,List.any_eq_not_all_not,Ad4]
  grind
 ·show Apb K l (n+1) _ _ _=_
  simp_all[Apb]
theorem A8l (c:Ea)(n:As)(h1:n.Ay.length≤140737488355327)(h2:n.F6.length≤140737488355327):Awz K c n=some (n.F6.all (Ari c n.Ay)):=by
 unfold Awz
 have h1t: ∀t,Ar3 K t c n=some (!Ari c n.Ay t):=by
  intro t;unfold Ar3 Ari;rw[A4s,Z0,Ad4];cases ht:Apq c t with
  |false=>rfl
  |true=>
   obtain⟨d0,d1,d2,d3,d4,d5⟩:=A8z ht;rw[cond_true,if_pos d0,d1]
   have:=Bg1 hK ((t.fAt+t.Ajm - 1) / c.G8 - t.fAt / c.G8+1).toNat (by omega) (fun j=>n.Ay.contains (t.fAt / c.G8+(j:Int))) (some false) (some true) (fun m j=>Amj K t c n m (t.fAt / c.G8+j)) (fun m j hj=> ?_) (fun m=> ?_)
   ·grind
   ·simp only[Amj];rw[if_pos d0,d2,decide_eq_true (by omega),cond_true,Azf hK _ _ (by omega),Z0,Ad4,Brb d3 (by omega)]
   ·show Amj K t c n (m+1) _=_;rw[Amj,if_pos d0,d2,decide_eq_false (by omega),cond_false]
 have hC:Ags K n.F6 c n=some (n.F6.any (fun t=> !Ari c n.Ay t)):=
  A3r hK n.F6 (by omega) (fun t=>Ar3 K t c n) (fun t=> !Ari c n.Ay t) (fun x _=>h1t x) (Acz K n.F6 c n) (fun n N i=>rfl)
 grind
theorem A8m (c:Ea)(n:As)(h1:n.Ay.length≤140737488355327)(h2:n.F6.length≤140737488355327):Awu K c n=some (n.F6.all (Ari c n.Ay)):=by
 unfold Awu;rw[Att hK n.F6 (by omega) (Ari c n.Ay) (some true) (fun k i=>Aks K c k i n.Vi n.C9 n.Sl n.fUp n.Sm n.Ef n.Sn n.So n.Ay n.Acx n.Sq n.F6 n.Fi) (fun k i h=> ?_) (fun k=> ?_)]
 ·grind
 ·simp only[Aks];rw[Ad8 h,cond_true,if_pos (Akq h),Wx h,A4r,Z0,Ad4];unfold Ari;generalize n.F6[i]=t;cases ht:Apq c t with
  |false=>rfl
  |true=>
   obtain⟨d0,d1,d2,d3,d4,d5⟩:=A8z ht;rw[cond_true,if_pos d0,d1,Z30]
   have:=Apt hK ((t.fAt+t.Ajm - 1) / c.G8 - t.fAt / c.G8+1).toNat (by omega) (fun j=>n.Ay.contains (t.fAt / c.G8+(j:Int))) (Aks K c k ((i+1:Nat):Int) n.Vi n.C9 n.Sl n.fUp n.Sm n.Ef n.Sn n.So n.Ay n.Acx n.Sq n.F6 n.Fi)
    (fun m j=>Ao7 K c i n.Vi n.C9 n.Sl n.fUp n.Sm n.Ef n.Sn n.So n.Ay n.Acx n.Sq n.F6 n.Fi (Aks K c k) m (t.fAt / c.G8+j) t) (fun m j hj=> ?_) (fun m=> ?_)
   ·grind
   ·simp only[Ao7];rw[if_pos d0,d2,decide_eq_true (by omega),cond_true,Azg hK _ _ (by omega),Z0,Ad4,Brb d3 (by omega)]
   ·show Ao7 K c i _ _ _ _ _ _ _ _ _ _ _ _ _ _ (m+1) _ _=_;rw[Ao7,if_pos d0,d2,decide_eq_false (by omega),cond_false,Ad5 (by omega)]
 ·show Aks K c (k+1) _ _ _ _ _ _ _ _ _ _ _ _ _ _=_
  simp_all[Aks]
end
def wfi (x:Int):Prop:= -9223372036854775808≤x∧x≤9223372036854775807
def A11 (l:List Int):Prop:=(∀x∈l,wfi x)∧l.length*8≤140737488355327
def Blg (l:List Int):Prop:=(∀x∈l,0≤x∧x≤255)∧l.length≤140737488355327
def ThingW (t:Bc):Prop:=wfi t.fAt∧wfi t.Ajm∧wfi t.Ajn
def A9u (l:List Bc):Prop:=(∀x∈l,ThingW x)∧l.length*24≤140737488355327
structure Aql (n:As):Prop where
 st:wfi n.Vi
 gen:wfi n.C9
 ep:wfi n.Sl
 up:wfi n.fUp
 upEp:wfi n.Sm
 first:wfi n.Ef
 next:wfi n.Sn
 prev:wfi n.So
 chunks:A11 n.Ay
 cur:wfi n.Acx
 bump:wfi n.Sq
 things:A9u n.F6
 tags:A11 n.Fi
def Ad9 (l:List As):Prop:=(∀x∈l,Aql x)∧l.length*152≤140737488355327
structure A1q (x:Az):Prop where
 slot:wfi x.Bm
 first:wfi x.Ef
 tags:A11 x.Fi
 chunks:A11 x.Ay
 done:wfi x.Wz
def A9v (l:List Az):Prop:=(∀x∈l,A1q x)∧l.length*72≤140737488355327
structure ConfW (c:Ea):Prop where
 chunks:wfi c.Ay
 size:wfi c.G8
 slots:wfi c.E6
 tax:wfi c.Gu
 slice:wfi c.E7
 gens:wfi c.G9
structure A0t (p:Dn):Prop where
 mem:Blg p.N7
 st:A11 p.Vi
 own:A11 p.N8
structure Ak9 (w:C5):Prop where
 c:ConfW w.fC
 p:A0t w.fP
 l:Ad9 w.fL
 q:A9v w.fQ
 log:A11 w.Acy
theorem V2:140737488355328≤maxLen:=by unfold maxLen;omega
theorem A5m{α:Type}(x:Option α):Aik x x=x:=by simp[Aik]
theorem Atj (K:Nat){l:List Int}(h:l.length*8≤140737488355327):Aa4 K l=some l:=by
 have hm:=V2;unfold Aa4;rw[Z38,if_pos ⟨by omega,by omega⟩]
 grind [A5m]
theorem A4d (K:Nat){l:List Int}(h:l.length≤140737488355327):Am6 K l=some l:=by
 have hm:=V2;unfold Am6;rw[Z38,if_pos ⟨by omega,by omega⟩]
 grind [A5m]
theorem Bbt (K:Nat){l:List Bc}(h:l.length*24≤140737488355327):Aps K l=some l:=by
 have hm:=V2;unfold Aps;rw[Z38,if_pos ⟨by omega,by omega⟩]
 grind [A5m]
theorem Bff{α:Type}(N:Nat)(q:Nat->Bool)(g:Nat->α)(L:Nat->List α->Int->Option (List α))
  (hs: ∀n v (i:Nat),i<N->v.length≤i->L (n+1) v (i:Int)=bif q i then L n (v++[g i]) ((i+1:Nat):Int)else L n v ((i+1:Nat):Int))
  (he: ∀n v,L (n+1) v (N:Int)=some v):
  ∀(n i:Nat) (v:List α),i≤N->v.length≤i->N - i<n->L n v (i:Int)=some (v++(((List.range N).drop i).filter q).map g):=by
 intro n
 induction n with
 |zero=>omega
 |succ n ih=>
  intro i v hi hv hn;rcases Hn i N with h|h
  ·rw[hs n v i h hv,Z47 (by grind),List.getElem_range,List.filter_cons]
   grind
  grind [List.drop_eq_nil_of_le]
def Auk (p:Dn)(k:Int):List Int:=((List.range (min p.Vi.length p.N8.length)).filter (fun i:Nat=>gt p.Vi i==1&&gt p.N8 i==k)).map (fun i:Nat=>(i:Int))
theorem Bdq (p:Dn)(k:Int):(Auk p k).length≤min p.Vi.length p.N8.length:=by
 grind [Auk]
theorem A1r (p:Dn)(k:Int):(Auk p k).Pairwise (fun a b=>a<b):=by
 grind [Auk,List.pairwise_lt_range]
theorem A56{l:List Int}: ∀ {o:List Int},o.Nodup->(∀x∈o,x∈l)->o.length=l.length->o.Perm l:=by
 intro o
 induction o generalizing l with
 |nil=>grind
 |cons x o ih=>
  intro hn hs hl
  have hx:x∈l:=hs x (by simp)
  rw[List.nodup_cons]at hn
  have h2:o.Perm (l.erase x):=ih hn.2 (fun y hy=>by
   grind) (by grind)
  grind [List.perm_cons_erase]
def A1d (p:Dn)(k:Int)(l:List Int):Bool:=(Auk p k).all (fun x=>l.contains x)&&((Auk p k).length:Int)==(l.length:Int)
theorem Boz (p:Dn)(k:Int)(l:List Int):decide (l.mergeSort (fun x y=>decide (x≤y))=Auk p k)=A1d p k l:=by
 rw[Bool.eq_iff_iff];unfold A1d;simp only[decide_eq_true_eq,Z4,Z1,List.contains_iff_mem,beq_iff_eq]
 have hp:=List.mergeSort_perm l (fun x y=>decide (x≤y));constructor
 ·intro e;rw[e]at hp;exact⟨fun x hx=>hp.mem_iff.1 hx,by have:=hp.length_eq;omega⟩
 ·rintro⟨h1,h2⟩
  have hn:(Auk p k).Nodup:=(A1r p k).imp fun h=>by omega
  have h3:=A56 hn h1 (by omega)
  refine List.Perm.eq_of_pairwise (le:=fun a b=>a≤b) (fun a b _ _ h1 h2=>by omega) ?_ ((A1r p k).imp fun h=>by omega) (hp.trans h3.symm)
  grind [List.pairwise_mergeSort]
theorem Bg2{a b:List Int}(h:a.length=b.length):(List.range a.length).all (fun i=>gt a i==gt b i)=decide (a=b):=by
 rw[Bool.eq_iff_iff];simp only[Z1,List.mem_range,beq_iff_eq,decide_eq_true_eq]
 grind [List.ext_getElem,Wx]
section
variable {K:Nat} (hK:281474976710656≤K)
include hK
theorem Bg3 (a b:List Int)(ha:a.length≤140737488355327):Anm K a b=some (decide (a=b)):=by
 unfold Anm
 by_cases h:a.length=b.length
 ·rw[show((a.length:Int) != (b.length:Int))=false by simp[h],cond_false,←Bg2 h]
  rw[Apt hK a.length (by omega) (fun i=>gt a i==gt b i) (some true) (fun n i=>Ak3 K a b n (a.length:Int) i) (fun n i hi=> ?_) (fun n=> ?_)]
  ·grind
  ·simp only[Ak3];rw[Ad8 hi,cond_true,if_pos (Akq hi),if_pos (Akq (show i<b.length by omega)),Ad5 (by omega),bne,Ad4]
  ·show Ak3 K a b (n+1) _ _=_
   simp_all[Ak3.eq_2]
 ·rw[Azt (by omega),cond_true,decide_eq_false (fun e=>h (by rw[e]))]
theorem A4v (p:Dn)(k:Int)(h1:p.Vi.length*8≤140737488355327):Au2 K p k=some (Auk p k):=by
 have hm:=V2;unfold Au2
 have:=Bff (min p.Vi.length p.N8.length) (fun i:Nat=>gt p.Vi i==1&&gt p.N8 i==k) (fun i:Nat=>(i:Int)) (fun n v i=>Aly K k n v i p.N7 p.Vi p.N8) (fun n v i hi hv=> ?_) (fun n v=> ?_) K 0 [] (Z21 _) (Z9 _) (by omega)
 ·assumption
 ·have h2:(v++([(i:Int)]:List Int)).length=v.length+1:=by simp
  simp only[Aly,Asp];rw[Ad8 (by omega),Ad8 (by omega),cond_true,cond_true,if_pos (Akq (by omega)),if_pos (Akq (by omega)),Ad5 (by omega),if_pos ⟨by omega,by omega⟩]
  grind
 ·show Aly K k (n+1) v _ _ _ _=_;rw[Aly]
  grind
theorem A9w (p:Dn)(k:Int)(h1:p.Vi.length*8≤140737488355327):Ax6 K p k=some (Auk p k):=by
 have hm:=V2;unfold Ax6
 have e:Zy (p.Vi.length:Int) (p.N8.length:Int)=((min p.Vi.length p.N8.length:Nat):Int):=by grind [Zy]
 rw[e]
 have:=Bff (min p.Vi.length p.N8.length) (fun i:Nat=>gt p.Vi i==1&&gt p.N8 i==k) (fun i:Nat=>(i:Int)) (fun n v i=>Al1 K k n v ((min p.Vi.length p.N8.length:Nat):Int) i p.N7 p.Vi p.N8) (fun n v i hi hv=> ?_) (fun n v=> ?_) K 0 [] (Z21 _) (Z9 _) (by omega)
 ·assumption
 ·have h2:(v++([(i:Int)]:List Int)).length=v.length+1:=by simp
  simp only[Al1,Atb];rw[Ad8 hi,cond_true,if_pos (Akq (by omega)),if_pos (Akq (by omega)),Ad5 (by omega),if_pos ⟨by omega,by omega⟩]
  grind
 ·show Al1 K k (n+1) v _ _ _ _ _=_
  simp_all[Al1]
theorem A7i (w:C5)(k:Nat)(hk:k<w.fL.length)(h1:w.fP.Vi.length*8≤140737488355327)(h2:(gt w.fL k).Ay.length≤140737488355327):Avt K w k=some (A1d w.fP k (gt w.fL k).Ay):=by
 unfold Avt;rw[A4v hK _ _ h1,Z0]
 have hl:=Bdq w.fP k;rw[Att hK (Auk w.fP k) (by omega) (fun x=>(gt w.fL k).Ay.contains x) (some (((Auk w.fP k).length:Int)==((gt w.fL k).Ay.length:Int))) (fun n i=>Anl K k (Auk w.fP k) n i w.fC.Ay w.fC.G8 w.fC.E6 w.fC.Gu w.fC.E7 w.fC.G9 w.fP.N7 w.fP.Vi w.fP.N8 w.fL w.fQ w.Acy) (fun n i hi=> ?_) (fun n=> ?_)]
 ·rw[Ats];rfl
 ·simp only[Anl];rw[Ad8 hi,cond_true,if_pos (Akq hk),if_pos (Akq hi),Azg hK _ _ (by omega),Z0,Ad4,Ad5 (by omega),Wx hi]
 ·show Anl K k (Auk w.fP k) (n+1) _ _ _ _ _ _ _ _ _ _ _ _ _=_
  simp_all[Anl]
end
def Auw (c:Ea)(n:As):Bc:=Bc.mk ((n.Acx - 1)*c.G8+n.Sq) (c.G8 - n.Sq) 0
def Arm (c:Ea)(mem:List Int)(n:As):Bool:=
 n.Acx==0||(Aqi ((mem.drop (Auw c n).fAt.toNat).take (Auw c n).Ajm.toNat)&&n.F6.all (fun t=>Am7 t (Auw c n)))
theorem Bg4{c:Ea}{n:As}(h:Aqj c n=true)(h1:n.Vi=1):Ahg c=true∧A7g c n=true:=by
 simp_all[Aqj]
theorem A80{c:Ea}{n:As}(h:Aqj c n=true)(h1:n.Vi≠1):A4t n=true:=by
 simp_all[Aqj]
theorem Bus{c:Ea}{n:As}(hw:Aql n)(h:Aqj c n=true)(h1:n.Acx≠0):n.Vi=1∧1≤n.Acx∧n.Acx≤c.Ay∧0≤n.Sq∧n.Sq≤c.G8:=by
 by_cases h2:n.Vi=1
 ·refine⟨h2,?_⟩;obtain⟨hc,hl⟩:=Bg4 h h2;obtain⟨b1,_⟩:=A1 hc;unfold A7g at hl;simp only[Z4]at hl
  have hd:=hl.2.2.1.1
  have hcu:=hl.2.2.1.2;unfold A4u at hcu;rw[App h1,cond_false,Z4,List.contains_iff_mem,Acw]at hcu;obtain⟨i,hi,e⟩:=List.mem_iff_getElem.1 hcu.1;unfold Aue at hd;rw[Z1]at hd
  have:=hd i (by grind)
  rw[Z4,Wx hi,e,Acw]at this
  have h3:=this.1;obtain⟨w1,w2⟩:=hw.cur;unfold An7 at h3;rw[IntKind.wrap_i64]at h3;omega
 ·have:=A80 h h2
  simp_all[A4t]
theorem Bfg{c:Ea}{p:Dn}{n:As}(hp:Auv c p=true)(hw:Aql n)(h:Aqj c n=true)(h1:n.Acx≠0):
  An6 .i64 (An8 .i64 (An7 .i64 n.Acx 1) c.G8) n.Sq=(Auw c n).fAt∧An7 .i64 c.G8 n.Sq=(Auw c n).Ajm∧An8 .i64 n.Acx c.G8=(Auw c n).fAt+(Auw c n).Ajm∧A0s (Auw c n)∧(Auw c n).fAt+(Auw c n).Ajm≤(p.N7.length:Int):=by
 obtain⟨h2,c1,c2,c3,c4⟩:=Bus hw h h1;obtain⟨hc,hm,_⟩:=Ati hp;obtain⟨b1,b2,_⟩:=A1 hc
 have m1:=Auu (a:=n.Acx - 1) (b:=c.G8) (m:=11) (n:=16) (by omega) (by omega) (by omega) b2.2
 have e2:n.Acx*c.G8=(n.Acx - 1)*c.G8+c.G8:=by grind
 have m2:n.Acx*c.G8≤c.Ay*c.G8:=Int.mul_le_mul_of_nonneg_right (by omega) (by omega)
 unfold Auw A0s An6 An7 An8;simp only;rw[Ht (n:=n.Acx - 1) (by omega) (by omega),Ht (n:=(n.Acx - 1)*c.G8) (by omega) (by omega),Ht (n:=(n.Acx - 1)*c.G8+n.Sq) (by omega) (by omega),Ht (n:=c.G8 - n.Sq) (by omega) (by omega),Ht (n:=n.Acx*c.G8) (by omega) (by omega)]
 omega
theorem A7j{c:Ea}{l:List Bc}{ch:List Int}(h:l.all (Ari c ch)=true): ∀t∈l,A0s t∧1≤t.Ajm:=by
 intro t ht;rw[Z1]at h
 have:=h t ht;unfold Ari at this;rw[Z4]at this;obtain⟨h1,h2⟩:=A10 this.1;exact⟨h1,h2.2.1⟩
def A57 (w:C5)(k:Nat):Bool:=
 Aqj w.fC (gt w.fL k)&&(A1d w.fP k (gt w.fL k).Ay&&((gt w.fL k).F6.all (Ari w.fC (gt w.fL k).Ay)&&(Aph (gt w.fL k).F6&&Arm w.fC w.fP.N7 (gt w.fL k))))
section
variable {K:Nat} (hK:281474976710656≤K)
include hK
theorem A2i{l:List Int}(h:A11 l):l.length≤140737488355327:=by have:=h.2;omega
theorem Bfh{l:List Bc}(h:A9u l):l.length≤140737488355327:=by have:=h.2;omega
theorem Bdr (w:C5)(k:Nat)(hk:k<w.fL.length)(hp:Auv w.fC w.fP=true)(hw:Aql (gt w.fL k))(hn:Aqj w.fC (gt w.fL k)=true)(hs: ∀t∈(gt w.fL k).F6,A0s t∧1≤t.Ajm):Aww K w k=some (Arm w.fC w.fP.N7 (gt w.fL k)):=by
 unfold Aww;rw[if_pos (Akq hk)];unfold Arm
 by_cases h1:(gt w.fL k).Acx=0
 ·grind
 ·rw[App h1,cond_false];obtain⟨e1,e2,e3,⟨s1,s2,s3,s4⟩,s5⟩:=Bfg hp hw hn h1;rw[e1,e3];generalize hr:Auw w.fC (gt w.fL k)=r at *;rcases (show r.Ajm=0∨1≤r.Ajm by omega)with h2|h2
  ·rw[decide_eq_true (show r.fAt≥r.fAt+r.Ajm by omega),cond_true,h2]
   simp_all[Am7,Aqi]
  ·rw[decide_eq_false (show ¬r.fAt≥r.fAt+r.Ajm by omega),cond_false]
   have hlt:=Bfh hK hw.things
   have hz:List.take (r.fAt+r.Ajm - r.fAt).toNat (List.drop r.fAt.toNat w.fP.N7)=List.take r.Ajm.toNat (List.drop r.fAt.toNat w.fP.N7):=by grind
   rw[Att hK (gt w.fL k).F6 (by omega) (fun t=>Am7 t r) (some (Aqi (List.take r.Ajm.toNat (List.drop r.fAt.toNat w.fP.N7)))) (fun m i=>Ana K m r.fAt (r.fAt+r.Ajm) i (gt w.fL k).Vi (gt w.fL k).C9 (gt w.fL k).Sl (gt w.fL k).fUp (gt w.fL k).Sm (gt w.fL k).Ef (gt w.fL k).Sn (gt w.fL k).So (gt w.fL k).Ay (gt w.fL k).Acx (gt w.fL k).Sq (gt w.fL k).F6 (gt w.fL k).Fi w.fC.Ay w.fC.G8 w.fC.E6 w.fC.Gu w.fC.E7 w.fC.G9 w.fP.N7 w.fP.Vi w.fP.N8 w.fL w.fQ w.Acy) (fun m i hi=> ?_) (fun m=> ?_)]
   ·grind
   ·simp only[Ana,Auo];obtain⟨⟨t1,t2,t3,t4⟩,t5⟩:=hs _ (Ane hi);rw[Ad8 hi,cond_true,if_pos (Akq hi),Ad5 (by omega),←Wx hi]
    generalize gt (gt w.fL k).F6 i=t at *;unfold An6;rw[Ht (n:=t.fAt+t.Ajm) (by omega) (by omega)]
    unfold Am7
    grind
   ·show Ana K (m+1) _ _ _ _ _ _ _ _ _ _ _ _ _ _ _ _ _ _ _ _ _ _ _ _ _ _ _ _=_;rw[Ana,Arh (Z9 _),cond_false,if_pos ⟨s1,by omega,s5⟩,A1b hK _ (by grind),hz,Z0]
theorem Blh (l:List Int)(h:A11 l):Ec K l=some (l.mergeSort fun x y=>decide (x≤y)):=by
 have:=h.2;unfold Ec
 grind
theorem A9x (w:C5)(hw:Ak9 w)(hp:Auv w.fC w.fP=true):Ar4 K w=some ((List.range w.fL.length).all (A57 w)):=by
 unfold Ar4
 have hlL:=hw.l.2;rw[Apt hK w.fL.length (by omega) (A57 w) (some true) (fun m i=>Ag0 K m w.fL (w.fL.length:Int) i w.fC.Ay w.fC.G8 w.fC.E6 w.fC.Gu w.fC.E7 w.fC.G9 w.fP.N7 w.fP.Vi w.fP.N8 w.fL w.fQ w.Acy) (fun m k hk=> ?_) (fun m=> ?_)]
 ·grind
 ·simp only[Ag0,Aqr];rw[show Ea.mk w.fC.Ay w.fC.G8 w.fC.E6 w.fC.Gu w.fC.E7 w.fC.G9=w.fC from rfl,show Dn.mk w.fP.N7 w.fP.Vi w.fP.N8=w.fP from rfl]
  have hn:=hw.l.1 _ (Ane hk);unfold A57;generalize hN:gt w.fL k=n at*
  have l1:=A2i hK hn.chunks
  have l2:=Bfh hK hn.things
  have l3:=A2i hK hn.tags;rw[Ad8 hk,cond_true,if_pos (Akq hk),Atj K hn.chunks.2,Z0,Blh hK _ hn.chunks,Z0,if_pos (List.length_mergeSort _),Bbr hK _ _ l1 l2 l3,Z0,A9w hK _ _ hw.p.st.2,Ad5 (by omega)]
  simp only[Z0];rw[Bg3 hK _ _ (by simp_all),Boz,A8l hK _ _ l1 l2]
  simp only[Z0];cases hb:Aqj w.fC n with
  |false=>rfl
  |true=>
  cases A1d w.fP k n.Ay with
  |false=>rfl
  |true=>
  cases hi:n.F6.all (Ari w.fC n.Ay)with
  |false=>rfl
  |true=>
  have hs:=A7j hi;rw[A8k hK _ l2 (fun t ht=>(hs t ht).1)];simp only[Z0,cond_true,Ad4,Z30];cases Aph n.F6 with
  |false=>rfl
  |true=>
  simp only[cond_true,Z30];unfold Arm
  by_cases h1:n.Acx=0
  ·grind
  ·rw[App h1,cond_false,Z52];obtain⟨e1,e2,e3,s,s5⟩:=Bfg hp hn hb h1
   have hmk:Bc.mk (Auw w.fC n).fAt (Auw w.fC n).Ajm 0=Auw w.fC n:=rfl;rw[e1,e2];simp only[hmk];generalize hr:Auw w.fC n=r at *;obtain⟨s1,s2,s3,s4⟩:=s
   have e4:An6 .i64 r.fAt r.Ajm=r.fAt+r.Ajm:=by grind [An6,Ht]
   have hC:Ae7 K n.F6 r=some (n.F6.any (fun t=> !Am7 t r)):=
    A3r hK n.F6 (by omega) (fun t=>Aqq K t r) (fun t=> !Am7 t r) (fun x hx=>by
     unfold Aqq;rw[A7h K (hs _ hx).1 ⟨s1,s2,s3,s4⟩];rfl) (Wy K n.F6 r) (fun n N i=>rfl)
   rw[e4,if_pos ⟨s1,by omega,s5⟩,show r.fAt+r.Ajm - r.fAt=r.Ajm by omega,A24 hK _ (by grind),hC,List.any_eq_not_all_not]
   grind
 ·show Ag0 K (m+1) _ _ _ _ _ _ _ _ _ _ _ _ _ _ _=_
  simp_all[Ag0]
end
section
variable {K:Nat} (hK:281474976710656≤K)
theorem Ad6{l:List As}(w:Ad9 l):l.length≤140737488355327:=by have:=w.2;omega
theorem Azh (K:Nat){α:Type}{l:List α}(hl:l.length≤140737488355327)(k:Int):Gx K k 0 (An7 .i64 (l.length:Int) 1)=some (decide (0≤k∧k<(l.length:Int))):=by
 unfold Gx An7;rw[Ht (by omega) (by omega)]
 grind
theorem Bg5 (K:Nat){α:Type}{l:List α}(hl:l.length≤140737488355327)(k:Int):V1 K k 0 (An7 .i64 (l.length:Int) 1)=some (decide (0≤k∧k<(l.length:Int))):=Azh K hl k
theorem A0i (K:Nat){l:List As}(hl:l.length≤140737488355327)(k:Int):Alf K l k=some (decide (0≤k∧k<(l.length:Int))):=by
 grind [Alf,Bg5]
theorem Aw8 (K:Nat)(l:List As)(k:Int):Ad7 K l k=some (decide (1≤k∧k≤(l.length:Int))):=by
 unfold Ad7
 grind
def Apr (l:List As)(h:An):Int:=if(0≤h.Bm∧h.Bm<(l.length:Int))∧(gt l h.Bm).Vi=1∧(gt l h.Bm).C9=h.C9 then h.Bm else -1
theorem A2j (K:Nat){l:List As}(hl:l.length≤140737488355327)(h:An):Aso K l h=some (Apr l h):=by
 unfold Aso Apr;rw[Azh K hl]
 grind
theorem A4w (K:Nat){l:List As}(hl:l.length≤140737488355327)(h:An):Avd K l h=some (Apr l h):=by
 rw[←A2j K hl]
 grind [Aso,Avd,Azh,A0i]
theorem A5n{l:List As}{h:An}(h0: ¬Apr l h<0):0≤Apr l h∧Apr l h<(l.length:Int):=by
 unfold Apr at *;omega
def Agy (l:List As):Nat->Int->List Int
 |0,_=>[]
 |n+1,k=>if 0≤k∧k<(l.length:Int)then k::Agy l n (An7 .i64 (gt l k).fUp 1)else []
theorem A9y{l:List As}: ∀(n:Nat) (k:Int),∀x∈Agy l n k,0≤x∧x<(l.length:Int):=by
 intro n
 induction n with
 |zero=>intro k x hx;cases hx
 |succ n ih=>
  intro k x hx;unfold Agy at hx
  grind
theorem A25{l:List As}: ∀(n:Nat) (k:Int),(Agy l n k).length≤n:=by
 intro n
 induction n with
 |zero=>intro k;exact Z9 _
 |succ n ih=>
  intro k;unfold Agy
  grind
def Bds (l:List As):List Int->Prop
 |x::y::r=>An7 .i64 (gt l x).fUp 1=y∧Bds l (y::r)
 |_=>True
theorem Bdt{l:List As}: ∀(n:Nat) (k:Int),Bds l (Agy l n k):=by
 intro n
 induction n with
 |zero=>intro k;trivial
 |succ n ih=>
  intro k;unfold Agy;split
  ·have h1:=ih (An7 .i64 (gt l k).fUp 1);cases n with
   |zero=>trivial
   |succ n=>
    rw[Agy]at h1 ⊢;split at h1
    ·rename_i h2;rw[if_pos h2];exact⟨rfl,h1⟩
    ·rename_i h2;rw[if_neg h2];trivial
  ·trivial
theorem Bg6{l:List As}(w:Ad9 l): ∀(n:Nat) (k:Int) (v:List Int),-9223372036854775808≤k∧k≤9223372036854775807->v.length≤l.length->l.length - v.length<n->Av3 K l n k v=some (v++Agy l (l.length - v.length) k):=by
 have hb:l.length*152≤140737488355327:=w.2;intro n
 induction n with
 |zero=>omega
 |succ n ih=>
  intro k v hk hv hn;rw[Av3,Aw8];simp only[Z0]
  have e:decide (1≤An6 .i64 k 1∧An6 .i64 k 1≤(l.length:Int))=decide (0≤k∧k<(l.length:Int)):=by
   rw[decide_eq_decide]
   grind [An6,IntKind.wrap_i64]
  rw[e]
  by_cases hs:0≤k∧k<(l.length:Int)
  ·rw[decide_eq_true hs];simp only[cond_true];rcases Hn v.length l.length with h|h
   ·rw[Ad8 h];simp only[cond_true]
    have hl2:(v++[k]).length=v.length+1:=by simp
    rw[if_pos ⟨by omega,by grind [maxLen]⟩,if_pos hs,ih (An7 .i64 (gt l k).fUp 1) _ (Bld _) (by omega) (by omega),hl2]
    obtain⟨m,hm⟩: ∃m,l.length - v.length=m+1:=⟨l.length - v.length - 1,by omega⟩
    rw[hm,Agy,if_pos hs,show l.length - (v.length+1)=m from by omega]
    simp
   ·rw[Arh h];rw[show l.length - v.length=0 from by omega]
    simp[Agy]
  ·rw[decide_eq_false hs]
   have:Agy l (l.length - v.length) k=[]:=by
    cases l.length - v.length with
    |zero=>rfl
    |succ m=>rw[Agy,if_neg hs]
   grind
theorem Bg7{l:List As}(w:Ad9 l): ∀(n:Nat) (k:Int) (v:List Int),v.length≤l.length->l.length - v.length<n->Awb K l n k v=some (v++Agy l (l.length - v.length) k):=by
 have hb:l.length*152≤140737488355327:=w.2;intro n
 induction n with
 |zero=>omega
 |succ n ih=>
  intro k v hv hn;rw[Awb,A0i K (by omega)]
  simp only[Z0]
  by_cases hs:0≤k∧k<(l.length:Int)
  ·rw[decide_eq_true hs];simp only[cond_true];rcases Hn v.length l.length with h|h
   ·rw[Ad8 h];simp only[cond_true]
    have hl2:(v++[k]).length=v.length+1:=by simp
    rw[if_pos ⟨by omega,by grind [maxLen]⟩,if_pos hs,ih _ _ (by omega) (by omega),hl2]
    obtain⟨m,hm⟩: ∃m,l.length - v.length=m+1:=⟨l.length - v.length - 1,by omega⟩
    rw[hm,Agy,if_pos hs,show l.length - (v.length+1)=m from by omega]
    simp
   ·rw[Arh h];rw[show l.length - v.length=0 from by omega]
    simp[Agy]
  ·rw[decide_eq_false hs]
   have:Agy l (l.length - v.length) k=[]:=by
    cases l.length - v.length with
    |zero=>rfl
    |succ m=>rw[Agy,if_neg hs]
   grind
include hK in
theorem A0u{l:List As}(w:Ad9 l)(k:Int)(hk: -9223372036854775808≤k∧k≤9223372036854775807):Auy K l k=some (Agy l l.length k):=by
 have hb:=Ad6 w;unfold Auy
 have:=Bg6 (K:=K) w K k [] hk (Z21 _) (by omega)
 grind
include hK in
theorem A0v{l:List As}(w:Ad9 l)(k:Int):Ave K l k=some (Agy l l.length k):=by
 have hb:=Ad6 w;unfold Ave
 have:=Bg7 (K:=K) w K k [] (Z21 _) (by omega)
 grind
def Asd (l:List As):List Int->Bool
 |[]=>true
 |[x]=>(gt l x).Vi==1
 |x::y::r=>((gt l x).Vi==1)&&((gt l x).Sm==(gt l y).Sl)&&Asd l (y::r)
def A1s (l:List As)(way:List Int):Bool:=if 0<way.length then(gt l (gt way ((way.length - 1:Nat):Int))).fUp==0 else false
theorem Bbu{l:List As}{way:List Int}(hin: ∀x∈way,0≤x∧x<(l.length:Int))(hlen:way.length≤140737488355327):
  (bif (decide ((way.length:Int)>0))then(if(0:Int)≤(An7 .i64 (way.length:Int) 1)∧(An7 .i64 (way.length:Int) 1)<(way.length:Int)then(if(0:Int)≤(gt way (An7 .i64 (way.length:Int) 1))∧(gt way (An7 .i64 (way.length:Int) 1))<(l.length:Int)then some (((gt l (gt way (An7 .i64 (way.length:Int) 1))).fUp)==0)else none)else none)else some false)=some (A1s l way):=by
 unfold A1s;rcases Py way.length with h|h
 ·grind
 ·rw[if_pos h,decide_eq_true (by omega)]
  simp only[cond_true]
  have e:An7 .i64 (way.length:Int) 1=((way.length - 1:Nat):Int):=by grind [An7,Ht]
  rw[e,if_pos ⟨by omega,by omega⟩,if_pos (hin _ (Ane (by omega)))]
theorem Ayd{way:List Int}{i:Nat}(h:i<way.length):way.drop i=way[i]::way.drop (i+1):=by
 simp_all
theorem Bdu{l:List As}{way:List Int}(hin: ∀x∈way,0≤x∧x<(l.length:Int))(hlen:way.length≤140737488355327): ∀(n i:Nat),i≤way.length->way.length - i<n->As8 K l way n way (way.length:Int) (i:Int)=some (Asd l (way.drop i)&&A1s l way):=by
 intro n
 induction n with
 |zero=>omega
 |succ n ih=>
  intro i hi hn;rw[As8];unfold Ax3;rcases Hn i way.length with h|h
  ·rw[Ad8 h];simp only[cond_true];rw[if_pos ⟨by omega,by omega⟩,if_pos (hin _ (Ane h)),Ayd h,Ad5 (by omega),←Wx h]
   rcases Hn (i+1) way.length with h2|h2
   ·rw[Ad8 h2,Ayd h2,←Wx h2];simp only[cond_true];rw[if_pos (hin _ (Ane h)),if_pos ⟨by omega,by omega⟩,if_pos (hin _ (Ane h2)),ih (i+1) h (by omega),Ayd h2,←Wx h2,Asd]
    generalize gt way ((i+1:Nat):Int)=y;generalize gt way (i:Int)=x
    by_cases c1:(gt l x).Vi=1
    ·by_cases c2:(gt l x).Sm=(gt l y).Sl
     all_goals grind
    grind
   ·rw[Arh h2,ih (i+1) h (by omega),show way.drop (i+1)=[] from Z48 h2]
    simp only[cond_false,Asd]
    grind
  ·rw[Arh h,show way.drop i=[] from Z48 h]
   simp only[cond_false,Asd,Z30];exact Bbu hin hlen
theorem Bo0{l:List As}(w:Ad9 l){x y:Int}(hx:0≤x∧x<(l.length:Int))(hy:0≤y∧y<(l.length:Int))(h:An7 .i64 (gt l x).fUp 1=y):Arw K l x=some (((gt l y).Vi==1)&&((gt l y).Sl==(gt l x).Sm)):=by
 have hl:=Ad6 w;unfold Arw;rw[if_pos hx,Aw8];simp only[Z0];obtain⟨hr1,hr2⟩:=(w.1 _ (Al5 hx.1 hx.2)).up
 have hp:1≤(gt l x).fUp∧(gt l x).fUp≤(l.length:Int):=by
  grind [An7,IntKind.wrap_i64]
 grind
theorem Bbv{l:List As}{y:Int}{r:List Int}(h:(gt l y).Vi≠1):Asd l (y::r)=false:=by
 cases r with
 |nil=>simp[Asd,h]
 |cons z r=>simp[Asd,h]
theorem Bdv{l:List As}(w:Ad9 l){way:List Int}(hin: ∀x∈way,0≤x∧x<(l.length:Int))(hlen:way.length≤140737488355327): ∀(n i:Nat),Bds l (way.drop i)->i≤way.length->way.length - i<n->Ash K l way n (i:Int)=some (Asd l (way.drop i)&&A1s l way):=by
 intro n
 induction n with
 |zero=>omega
 |succ n ih=>
  intro i hch hi hn;rw[Ash];unfold Axi;rcases Hn i way.length with h|h
  ·rw[Ad8 h];simp only[cond_true];rw[Ayd h]at hch;rw[if_pos ⟨by omega,by omega⟩,if_pos (hin _ (Ane h)),Ayd h,Ad5 (by omega),←Wx h]
   rcases Hn (i+1) way.length with h2|h2
   ·rw[Ayd h2]at hch
    have hc1:=hch.1;rw[←Wx h,←Wx h2]at hc1;rw[Ad8 h2,Ayd h2,←Wx h2];simp only[cond_true];rw[if_pos ⟨by omega,by omega⟩,Bo0 w (hin _ (Ane h)) (hin _ (Ane h2)) hc1,ih (i+1) (by rw[Ayd h2];exact hch.2) h (by omega),Ayd h2,←Wx h2,Asd]
    generalize gt way ((i+1:Nat):Int)=y;generalize gt way (i:Int)=x
    by_cases c1:(gt l x).Vi=1
    ·by_cases c3:(gt l y).Vi=1
     ·by_cases c2:(gt l x).Sm=(gt l y).Sl
      all_goals grind
     simp_all[Bbv]
    grind
   ·rw[Arh h2,ih (i+1) (by rw[Z48 h2];trivial) h (by omega),show way.drop (i+1)=[] from Z48 h2]
    simp only[cond_false,Asd]
    by_cases c1:(gt l (gt way (i:Int))).Vi=1
    all_goals grind
  ·rw[Arh h,show way.drop i=[] from Z48 h]
   simp only[cond_false,Asd,Z30];exact Bbu hin hlen
def Arn (l:List As)(k:Int):Bool:=Asd l (Agy l l.length k)&&A1s l (Agy l l.length k)
include hK in
theorem A26{l:List As}(w:Ad9 l)(k:Int)(hk: -9223372036854775808≤k∧k≤9223372036854775807):Avo K l k=some (Arn l k):=by
 have hb:=Ad6 w
 have hr:=A25 (l:=l) l.length k;unfold Avo;rw[A0u hK w k hk];exact Bdv w (A9y _ _) (by omega) K 0 (Bdt _ _) (Z21 _) (by omega)
include hK in
theorem A58{l:List As}(w:Ad9 l)(k:Int):Ax4 K l k=some (Arn l k):=by
 have hb:=Ad6 w
 have hr:=A25 (l:=l) l.length k;unfold Ax4;rw[A0v hK w k];exact Bdu (A9y _ _) (by omega) K 0 (Z21 _) (by omega)
def Ap3 (h:An):Bool:=bif decide (h.Bm≥0)then decide (h.C9≥1)else false
theorem A34 (K:Nat)(h:An):Atw K h=some (Ap3 h):=by
 unfold Atw Ap3;grind
theorem A35 (K:Nat)(h:An):At7 K h=some (Ap3 h):=by
 unfold At7 Ap3;grind
def Aio (l:List As)(h:An):Int×Int:=bif Ap3 h then(bif decide (Apr l h<0)then(-1,2)else(bif Arn l (Apr l h)then(Apr l h,0)else(-1,2)))else(-1,1)
include hK in
theorem Aq0{w:C5}(hw:Ad9 w.fL)(h:An):Aiq K w h=some (Aio w.fL h):=by
 have hb:=Ad6 hw;unfold Aiq Aio;rw[A34,A2j K hb];simp only[Z0];cases Ap3 h with
 |false=>rfl
 |true=>
  simp only[cond_true];cases e:decide (Apr w.fL h<0)with
  |true=>rfl
  |false=>
   have h1:=A5n (of_decide_eq_false e);simp only[cond_false];rw[A26 hK hw _ ⟨by omega,by omega⟩]
   grind
include hK in
theorem Aos{w:C5}(hw:Ad9 w.fL)(h:An):Ais K w h=some (Aio w.fL h):=by
 have hb:=Ad6 hw;unfold Ais Aio;rw[A35,A4w K hb];simp only[Z0];cases Ap3 h with
 |false=>rfl
 |true=>
  simp only[cond_true];cases e:decide (Apr w.fL h<0)with
  |true=>rfl
  |false=>
   simp only[cond_false];rw[A58 hK hw]
   grind
theorem A0w{l:List As}{h:An}(h0:(Aio l h).2=0):0≤(Aio l h).1∧(Aio l h).1<(l.length:Int):=by
 unfold Aio at *;cases e1:Ap3 h with
 |false=>grind
 |true=>
  rw[e1]at h0;simp only[cond_true]at *;cases e:decide (Apr l h<0)with
  |true=>grind
  |false=>
   rw[e]at h0;simp only[cond_false]at*
   grind [A5n,of_decide_eq_false]
end
def plB (l:List As)(n:Int):Bool:=decide (0≤An7 .i64 n 1∧An7 .i64 n 1<(l.length:Int))
theorem Azs{l:List As}{n:Int}(h:plB l n=true):0≤An7 .i64 n 1∧An7 .i64 n 1<(l.length:Int):=of_decide_eq_true h
theorem A4e (K:Nat){l:List As}(hl:l.length≤140737488355327)(n:Int):Alf K l (An7 .i64 n 1)=some (plB l n):=A0i K hl _
theorem Avk (K:Nat){l:List As}(hl:l.length≤140737488355327){n:Int}(hn:wfi n):Ad7 K l n=some (plB l n):=by
 rw[Aw8];unfold plB;obtain⟨h1,h2⟩:=hn
 congr 1
 rw[decide_eq_decide]
 grind [An7,IntKind.wrap_i64]
def A1e (l:List As)(k:Int):Bool:=plB l (gt l k).fUp&&((gt l (An7 .i64 (gt l k).fUp 1)).Vi==1&&(gt l (An7 .i64 (gt l k).fUp 1)).Sl==(gt l k).Sm)
theorem A5o (K:Nat){l:List As}(w:Ad9 l){k:Int}(h:0≤k∧k<(l.length:Int)):Arw K l k=some (A1e l k):=by
 unfold Arw A1e;rw[if_pos h,Avk K (Ad6 w) (w.1 _ (Al5 h.1 h.2)).up,Z0,if_pos h];cases hp:plB l (gt l k).fUp with
 |false=>rfl
 |true=>
  have:=Azs hp
  grind
theorem A0x (K:Nat){l:List As}(w:Ad9 l){k:Int}(h:0≤k∧k<(l.length:Int)):Aq7 K l k=some (A1e l k):=by
 unfold Aq7 A1e;rw[if_pos h,A4e K (Ad6 w),Z0,if_pos h];cases hp:plB l (gt l k).fUp with
 |false=>rfl
 |true=>
  have:=Azs hp
  grind
def Ar8 (l:List As)(n:Int):Bool:=n==0||(plB l n&&(gt l (An7 .i64 n 1)).Vi==1)
theorem A12{l:List As}{n:Int}(h:Ar8 l n=true)(h0:n≠0):0≤An7 .i64 n 1∧An7 .i64 n 1<(l.length:Int):=by
 unfold Ar8 at h;rw[App h0,Z52,Z4]at h;exact Azs h.1
theorem A27 (K:Nat){l:List As}(w:Ad9 l){n:Int}(hn:wfi n):Ap0 K l n=some (Ar8 l n):=by
 unfold Ap0 Ar8;rw[Avk K (Ad6 w) hn,Z0];cases n==0 with
 |true=>rfl
 |false=>
  cases hp:plB l n with
  |false=>rfl
  |true=>rw[if_pos (Azs hp)];rfl
theorem A28 (K:Nat){l:List As}(w:Ad9 l)(n:Int):Aui K l n=some (Ar8 l n):=by
 unfold Aui Ar8;rw[A4e K (Ad6 w),Z0];cases n==0 with
 |true=>rfl
 |false=>
  cases hp:plB l n with
  |false=>rfl
  |true=>rw[if_pos (Azs hp)];rfl
def A59 (r:List Int):Int:=gt r ((r.length - 1:Nat):Int)
def A13 (l:List As)(k:Int):Bool:=decide (((Agy l l.length k).length:Int)≤4)&& !A1e l (A59 (Agy l l.length k))
def A6t (l:List As)(k:Int):Bool:= !((gt l k).So==0&&A1e l k)||(gt l (An7 .i64 (gt l k).fUp 1)).Ef==An6 .i64 k 1
def A8n (l:List As)(k:Int):Bool:=(gt l k).So==0||(gt l (An7 .i64 (gt l k).So 1)).Sn==An6 .i64 k 1
def Bbw (l:List As)(k:Int):Bool:=(gt l k).Sn==0||((gt l (An7 .i64 (gt l k).Sn 1)).So==An6 .i64 k 1&&((gt l (An7 .i64 (gt l k).Sn 1)).fUp==(gt l k).fUp&&(gt l (An7 .i64 (gt l k).Sn 1)).Sm==(gt l k).Sm))
def Bg8 (l:List As)(k:Int):Bool:=(gt l k).Ef==0||((gt l (An7 .i64 (gt l k).Ef 1)).So==0&&((gt l (An7 .i64 (gt l k).Ef 1)).fUp==An6 .i64 k 1&&(gt l (An7 .i64 (gt l k).Ef 1)).Sm==(gt l k).Sl))
def A3s (l:List As)(k:Int):Bool:=Ar8 l (gt l k).Ef&&(Ar8 l (gt l k).Sn&&(Ar8 l (gt l k).So&&((gt l k).fUp==0||plB l (gt l k).fUp)))
def A1t (l:List As)(k:Int):Bool:=A3s l k&&(Bg8 l k&&(Bbw l k&&(A8n l k&&A6t l k)))
def A7k (l:List As):Bool:=(List.range l.length).all (fun k=>(gt l (k:Int)).Vi != 1||(A1t l k&&A13 l k))
theorem A7l{l:List As}{k:Int}(h:0≤k∧k<(l.length:Int)):0<(Agy l l.length k).length:=by
 obtain⟨m,hm⟩: ∃m,l.length=m+1:=⟨l.length - 1,by omega⟩
 simp_all[Agy.eq_2]
theorem A9z{l:List As}{k:Int}(h:0≤k∧k<(l.length:Int)):0≤A59 (Agy l l.length k)∧A59 (Agy l l.length k)<(l.length:Int):=by
 have:=A7l h;exact A9y _ _ _ (Ane (by omega))
theorem Bfi{l:List As}(w:Ad9 l){k:Int}(h:0≤k∧k<(l.length:Int)):An7 .i64 ((Agy l l.length k).length:Int) 1=(((Agy l l.length k).length - 1:Nat):Int)∧(0:Int)≤(((Agy l l.length k).length - 1:Nat):Int)∧(((Agy l l.length k).length - 1:Nat):Int)<((Agy l l.length k).length:Int):=by
 grind [A7l,A25,Ad6,An7,Ht]
section
variable {K:Nat} (hK:281474976710656≤K)
include hK
theorem Bo1{l:List As}(w:Ad9 l){k:Int}(h:0≤k∧k<(l.length:Int)):Asz K l k=some (A13 l k):=by
 have h3:=Ad6 w;obtain⟨e1,e2,e3⟩:=Bfi w h;unfold Asz;rw[A0u hK w k ⟨by omega,by omega⟩,Z0,e1,if_pos ⟨e2,e3⟩]
 have:=A5o K w (A9z h);unfold A59 at this;rw[this,Z0,Ats];rfl
theorem Bo2{l:List As}(w:Ad9 l){k:Int}(h:0≤k∧k<(l.length:Int)):Au6 K l k (gt l k).fUp (gt l k).So=some (A6t l k&&A13 l k):=by
 unfold Au6 A6t;rw[A5o K w h,Bo1 hK w h,Z0];cases (gt l k).So==0 with
 |false=>rfl
 |true=>
  cases hc:A1e l k with
  |false=>rfl
  |true=>
   have:plB l (gt l k).fUp=true:=by simp_all[A1e]
   rw[cond_true,cond_true,if_pos (Azs this),bne,Ad4]
   grind
theorem Bo3{l:List As}(w:Ad9 l){k:Int}(h:0≤k∧k<(l.length:Int))(hp:Ar8 l (gt l k).So=true):Au7 K l k (gt l k).fUp (gt l k).So=some (A8n l k&&(A6t l k&&A13 l k)):=by
 unfold Au7 A8n;rw[Bo2 hK w h]
 by_cases h0:(gt l k).So=0
 ·grind
 ·rw[Azt h0,App h0,cond_true,if_pos (A12 hp h0),bne,Ad4]
  grind
theorem Bo4{l:List As}(w:Ad9 l){k:Int}(h:0≤k∧k<(l.length:Int))(hp:Ar8 l (gt l k).So=true)(hn:Ar8 l (gt l k).Sn=true):Au8 K l k (gt l k).fUp (gt l k).Sm (gt l k).Sn (gt l k).So=some (Bbw l k&&(A8n l k&&(A6t l k&&A13 l k))):=by
 unfold Au8 Bbw;rw[Bo3 hK w h hp]
 by_cases h0:(gt l k).Sn=0
 ·grind
 ·have hi:=A12 hn h0
  grind
theorem Bo5{l:List As}(w:Ad9 l){k:Int}(h:0≤k∧k<(l.length:Int))(hf:Ar8 l (gt l k).Ef=true)(hp:Ar8 l (gt l k).So=true)(hn:Ar8 l (gt l k).Sn=true):Au9 K l k (gt l k).Vi (gt l k).C9 (gt l k).Sl (gt l k).fUp (gt l k).Sm (gt l k).Ef (gt l k).Sn (gt l k).So (gt l k).Ay (gt l k).Acx (gt l k).Sq (gt l k).F6 (gt l k).Fi=some (Bg8 l k&&(Bbw l k&&(A8n l k&&(A6t l k&&A13 l k)))):=by
 unfold Au9 Bg8;rw[Bo4 hK w h hp hn]
 by_cases h0:(gt l k).Ef=0
 ·grind
 ·have hi:=A12 hf h0
  grind
theorem Bdw{l:List As}(w:Ad9 l){k:Int}(h:0≤k∧k<(l.length:Int)):Azz K l k=some (A1t l k&&A13 l k):=by
 have hn:=w.1 _ (Al5 h.1 h.2);unfold Azz A1t A3s;rw[if_pos h,Avk K (Ad6 w) hn.up,A27 K w hn.first,A27 K w hn.next,A27 K w hn.prev];simp only[Z0,Ad4];cases hf:Ar8 l (gt l k).Ef with
 |false=>grind
 |true=>
 cases hx:Ar8 l (gt l k).Sn with
 |false=>grind
 |true=>
 cases hp:Ar8 l (gt l k).So with
 |false=>grind
 |true=>
 rw[Bo5 hK w h hf hp hx];simp only[bne];cases (gt l k).fUp==0<;>cases plB l (gt l k).fUp<;>simp only[Bool.not_true,Bool.not_false,cond_true,cond_false,Z30,Bool.false_and,Bool.true_or,Z52,Bool.and_assoc]
theorem Bbx{l:List As}(w:Ad9 l):Ay1 K l=some (A7k l):=by
 have hl:=Ad6 w;unfold Ay1 A7k;rw[Apt hK l.length (by omega) (fun k=>(gt l (k:Int)).Vi != 1||(A1t l k&&A13 l k)) (some true) (fun n i=>Apj K l n i) (fun n i h=> ?_) (fun n=> ?_)]
 ·grind
 ·simp only[Apj,Aws];rw[Ad8 h,cond_true,if_pos (Akq h),Bdw hK w (Akq h),Ad5 (by omega),Z0,Ad4,bne]
  grind
 ·show Apj K l (n+1) _=_
  simp_all[Apj]
theorem Bo6{l:List As}(w:Ad9 l){k:Int}(h:0≤k∧k<(l.length:Int)):Atc K l k (gt l k).fUp (gt l k).So=some (A6t l k):=by
 unfold Atc A6t;rw[A0x K w h,Z0,bne];cases (gt l k).So==0 with
 |false=>rfl
 |true=>
  cases hc:A1e l k with
  |false=>rfl
  |true=>
   simp_all[plB,A1e]
theorem Bo7{l:List As}(w:Ad9 l){k:Int}(h:0≤k∧k<(l.length:Int))(hp:Ar8 l (gt l k).So=true):Atd K l k (gt l k).fUp (gt l k).So=some (A8n l k&&A6t l k):=by
 unfold Atd A8n;rw[Bo6 hK w h]
 by_cases h0:(gt l k).So=0
 ·grind
 ·rw[Azt h0,App h0,cond_true,if_pos (A12 hp h0),bne,Ad4]
  grind
theorem Bo8{l:List As}(w:Ad9 l){k:Int}(h:0≤k∧k<(l.length:Int))(hp:Ar8 l (gt l k).So=true)(hn:Ar8 l (gt l k).Sn=true):Ate K l k (gt l k).fUp (gt l k).Sm (gt l k).Sn (gt l k).So=some (Bbw l k&&(A8n l k&&A6t l k)):=by
 unfold Ate Bbw;rw[Bo7 hK w h hp]
 by_cases h0:(gt l k).Sn=0
 ·grind
 ·have hi:=A12 hn h0
  grind
theorem Bo9{l:List As}(w:Ad9 l){k:Int}(h:0≤k∧k<(l.length:Int))(hf:Ar8 l (gt l k).Ef=true)(hp:Ar8 l (gt l k).So=true)(hn:Ar8 l (gt l k).Sn=true):Atf K l k (gt l k).Vi (gt l k).C9 (gt l k).Sl (gt l k).fUp (gt l k).Sm (gt l k).Ef (gt l k).Sn (gt l k).So (gt l k).Ay (gt l k).Acx (gt l k).Sq (gt l k).F6 (gt l k).Fi=some (Bg8 l k&&(Bbw l k&&(A8n l k&&A6t l k))):=by
 unfold Atf Bg8;rw[Bo8 hK w h hp hn]
 by_cases h0:(gt l k).Ef=0
 ·grind
 ·have hi:=A12 hf h0
  grind
theorem A90{l:List As}(w:Ad9 l){k:Int}(h:0≤k∧k<(l.length:Int)):Ax9 K l k=some (A1t l k):=by
 unfold Ax9 A1t A3s;rw[if_pos h,A4e K (Ad6 w),A28 K w,A28 K w,A28 K w];simp only[Z0,Ad4];cases hf:Ar8 l (gt l k).Ef with
 |false=>rfl
 |true=>
 cases hx:Ar8 l (gt l k).Sn with
 |false=>rfl
 |true=>
 cases hp:Ar8 l (gt l k).So with
 |false=>rfl
 |true=>
 rw[Bo9 hK w h hf hp hx]
 grind
theorem Bby{l:List As}(w:Ad9 l):Aza K l=some (A7k l):=by
 have hl:=Ad6 w;unfold Aza A7k;rw[Apt hK l.length (by omega) (fun k=>(gt l (k:Int)).Vi != 1||(A1t l k&&A13 l k)) (some true) (fun n i=>Apm K l n l (l.length:Int) i) (fun n i h=> ?_) (fun n=> ?_)]
 ·grind
 ·have hc:=Akq h;obtain⟨e1,e2,e3⟩:=Bfi w hc
  have e4:=A0x K w (A9z hc);unfold A59 at e4
  have e5:decide (((Agy l l.length i).length:Int)>4)= !decide (((Agy l l.length i).length:Int)≤4):=by grind
  simp only[Apm,Aw1];rw[Ad8 h,cond_true,if_pos hc,A90 hK w hc,Ad5 (by omega),Z0,A0v hK w,Z0,e1,if_pos ⟨e2,e3⟩,e4,Z0,e5]
  unfold A13 A59
  grind
 ·show Apm K l (n+1) _ _ _=_
  simp_all[Apm]
end
theorem A5p{c:Ea}(hc:Ahg c=true):An7 .i64 c.G8 1=c.G8 - 1:=by
 obtain⟨_,b2,_⟩:=A1 hc
 grind [An7,Ht]
def Ala (c:Ea)(x:Az):Bool:=
 Ahg c&&(inB x.Bm 0 c.E6&&(inB x.Ef 0 c.E6&&(decide ((x.Fi.length:Int)≤6)&&(x.Fi.all (fun y=>inB y 0 255)&&(Aue c x.Ay&&(inB x.Wz 0 (c.G8 - 1)&&(decide ((x.Ay.length:Int)>0)||x.Wz==0)))))))
section
variable {K:Nat} (hK:281474976710656≤K)
include hK
theorem A8o (c:Ea)(x:Az)(hw:A1q x):Axt K c x=some (Ala c x):=by
 have h1:=A2i hK hw.tags
 have h2:=A2i hK hw.chunks;unfold Axt Avs;rw[Aqz];simp only[Z0,Anh];cases hc:Ahg c with
 |false=>simp[Ala,hc]
 |true=>
 have hA:Anu K c x.Ay K 0=some (Aue c x.Ay):=by
  rw[Apt hK x.Ay.length (by omega) (fun i=>inB (gt x.Ay i) 0 (c.Ay - 1)&& !(x.Ay.take i).contains (gt x.Ay i)) (some true) (fun k i=>Anu K c x.Ay k i) (fun k i h=> ?_) (fun k=> ?_)]
  ·unfold Aue;grind
  ·have hp:(x.Ay.take i).length≤140737488355328:=by grind
   simp only[Anu];rw[Ad8 h,cond_true,if_pos (Akq h),Anh,if_pos (Bbq (by omega)),A5l,Azg hK _ _ hp,Ad5 (by omega),Ayr hK hc]
   grind
  ·show Anu K c x.Ay (k+1) _=_
   simp_all[Anu]
 have hB:Apv K c x.Fi x.Ay K 0=some (x.Fi.all (fun y=>inB y 0 255)&&Aue c x.Ay):=by
  rw[Att hK x.Fi (by omega) (fun y=>inB y 0 255) (some (Aue c x.Ay)) (Apv K c x.Fi x.Ay) (fun k i h=> ?_) (fun k=> ?_)]
  ·grind
  ·rw[Apv,Ad8 h,cond_true,if_pos (Akq h),Wx h,Anh,Ad5 (by omega),Z0,Ad4]
  simp_all[Apv]
 rw[hB,A5p hc]
 have e6:decide ((x.Fi.length:Int)>6)= !decide ((x.Fi.length:Int)≤6):=by grind
 have e0:decide ((x.Ay.length:Int)>0)= !((x.Ay.length:Int)==0):=by
  grind
 unfold Ala
 grind
theorem A8p (c:Ea)(x:Az)(hw:A1q x):Aya K c x=some (Ala c x):=by
 have h1:=A2i hK hw.tags
 have h2:=A2i hK hw.chunks;unfold Aya;rw[A23];simp only[Z0,Avz];cases hc:Ahg c with
 |false=>simp[Ala,hc]
 |true=>
 rw[A1p hK _ (by omega),A33 hK hc _ h2,A5p hc]
 simp_all[Ala,A0q,Ats]
end
theorem Aqt{c:Ea}{x:Az}(h:Ala c x=true):Ahg c=true∧(0≤x.Bm∧x.Bm≤c.E6)∧(0≤x.Ef∧x.Ef≤c.E6)∧Aue c x.Ay=true∧(0≤x.Wz∧x.Wz≤c.G8 - 1):=by
 unfold Ala at h;simp only[Z4,Acw]at h
 grind
theorem Aw5{c:Ea}{l:List Int}(h:Aue c l=true): ∀x∈l,0≤x∧x<c.Ay:=by
 intro x hx;obtain⟨i,hi,e⟩:=List.mem_iff_getElem.1 hx;unfold Aue at h;rw[Z1]at h
 have:=h i (by grind)
 rw[Z4,Wx hi,e,Acw]at this;omega
theorem A4f{l:List Int}:l.Nodup ↔ ∀i,(h:i<l.length)->l[i] ∉ l.take i:=by
 unfold List.Nodup;rw[List.pairwise_iff_getElem];constructor
 ·intro h i hi hm;obtain⟨j,hj,e⟩:=List.mem_iff_getElem.1 hm
  grind
 ·intro h i j hi hj hij e;exact h j hj (List.mem_iff_getElem.2 ⟨i,by grind,by grind⟩)
theorem Ays{c:Ea}{l:List Int}(h:Aue c l=true):l.Nodup:=by
 rw[A4f];intro i hi hm;unfold Aue at h;rw[Z1]at h
 have:=h i (by grind)
 rw[Z4,Wx hi,Z44,List.contains_eq_mem]at this
 grind
theorem Ayt{l:List Int}: ∀ {o:List Int},o.Nodup->(∀x∈o,x∈l)->o.length≤l.length:=by
 intro o
 induction o generalizing l with
 |nil=>grind
 |cons x o ih=>
  intro hn hs
  have hx:x∈l:=hs x (by simp)
  rw[List.nodup_cons]at hn
  have h2:=ih (l:=l.erase x) hn.2 (fun y hy=>by
   grind)
  grind
theorem Ar9{c:Ea}(hc:Ahg c=true){l:List Int}(h:Aue c l=true):l.length≤12:=by
 obtain⟨b1,_⟩:=A1 hc
 have:=Ayt (l:=(List.range 12).map (fun i:Nat=>(i:Int))) (Ays h) (fun x hx=>by
  have:=Aw5 h x hx;rw[Ey];exact⟨x.toNat,by grind,by omega⟩)
 grind
def Aye (l:List As):Nat->Int->List Int
 |0,_=>[]
 |n+1,k=>if 0≤k∧k<(l.length:Int)then k::Aye l n (An7 .i64 (gt l k).Sn 1)else []
theorem A29{l:List As}: ∀(n:Nat) (k:Int),∀x∈Aye l n k,0≤x∧x<(l.length:Int):=by
 intro n
 induction n with
 |zero=>intro k x hx;cases hx
 |succ n ih=>
  intro k x hx;unfold Aye at hx
  grind
theorem A0j{l:List As}: ∀(n:Nat) (k:Int),(Aye l n k).length≤n:=by
 intro n
 induction n with
 |zero=>intro k;exact Z9 _
 |succ n ih=>
  intro k;unfold Aye
  grind
def Abj (l:List As)(first:Int):List Int:=Aye l l.length (An7 .i64 first 1)
def Ayn (l:List As)(k:Int):Bool:=(gt l k).Vi==1&&((gt l k).fUp != 0&& !A1e l k)
theorem A6a (K:Nat){l:List As}(w:Ad9 l){k:Int}(h:0≤k∧k<(l.length:Int)):As0 K l k=some (Ayn l k):=by
 simp_all[As0,Ayn,A5o,Ats]
theorem A6b (K:Nat){l:List As}(w:Ad9 l){k:Int}(h:0≤k∧k<(l.length:Int)):Aru K l k=some (Ayn l k):=by
 simp_all[Aru,Ayn,A0x,Ats]
section
variable {K:Nat} (hK:281474976710656≤K)
theorem Bg9{l:List As}(w:Ad9 l): ∀(n:Nat) (k:Int) (v:List Int),wfi k->v.length≤l.length->l.length - v.length<n->At0 K l n k v=some (v++Aye l (l.length - v.length) (An7 .i64 k 1)):=by
 have hm:=V2
 have hb:l.length*152≤140737488355327:=w.2;intro n
 induction n with
 |zero=>omega
 |succ n ih=>
  intro k v hk hv hn;rw[At0,Avk K (Ad6 w) hk];simp only[Z0]
  by_cases hs:0≤An7 .i64 k 1∧An7 .i64 k 1<(l.length:Int)
  ·rw[show plB l k=true from decide_eq_true hs]
   simp only[cond_true];rcases Hn v.length l.length with h|h
   ·rw[Ad8 h];simp only[cond_true]
    have hl2:(v++[An7 .i64 k 1]).length=v.length+1:=by simp
    rw[if_pos ⟨by omega,by omega⟩,if_pos hs,ih (gt l (An7 .i64 k 1)).Sn _ (w.1 _ (Al5 hs.1 hs.2)).next (by omega) (by omega),hl2]
    obtain⟨m,hm⟩: ∃m,l.length - v.length=m+1:=⟨l.length - v.length - 1,by omega⟩
    rw[hm,Aye,if_pos hs,show l.length - (v.length+1)=m from by omega]
    simp
   ·rw[Arh h];rw[show l.length - v.length=0 from by omega]
    simp[Aye]
  ·rw[show plB l k=false from decide_eq_false hs]
   have:Aye l (l.length - v.length) (An7 .i64 k 1)=[]:=by
    cases l.length - v.length with
    |zero=>rfl
    |succ m=>rw[Aye,if_neg hs]
   grind
theorem Bha{l:List As}(w:Ad9 l): ∀(n:Nat) (k:Int) (v:List Int),v.length≤l.length->l.length - v.length<n->Aua K l n v k=some (v++Aye l (l.length - v.length) k):=by
 have hm:=V2
 have hb:l.length*152≤140737488355327:=w.2;intro n
 induction n with
 |zero=>omega
 |succ n ih=>
  intro k v hv hn;rw[Aua,A0i K (by omega)]
  simp only[Z0]
  by_cases hs:0≤k∧k<(l.length:Int)
  ·rw[decide_eq_true hs];simp only[cond_true];rcases Hn v.length l.length with h|h
   ·rw[Ad8 h];simp only[cond_true]
    have hl2:(v++[k]).length=v.length+1:=by simp
    rw[if_pos ⟨by omega,by omega⟩,if_pos hs,ih _ _ (by omega) (by omega),hl2]
    obtain⟨m,hm⟩: ∃m,l.length - v.length=m+1:=⟨l.length - v.length - 1,by omega⟩
    rw[hm,Aye,if_pos hs,show l.length - (v.length+1)=m from by omega]
    simp
   ·rw[Arh h];rw[show l.length - v.length=0 from by omega]
    simp[Aye]
  ·rw[decide_eq_false hs]
   have:Aye l (l.length - v.length) k=[]:=by
    cases l.length - v.length with
    |zero=>rfl
    |succ m=>rw[Aye,if_neg hs]
   grind
include hK
theorem A6c{l:List As}(w:Ad9 l){k:Int}(hk:wfi k):Awa K l k=some (Abj l k):=by
 have hb:=Ad6 w;unfold Awa Abj
 have:=Bg9 (K:=K) w K k [] hk (Z21 _) (by omega)
 grind
theorem A6d{l:List As}(w:Ad9 l)(k:Int):Awc K l k=some (Abj l k):=by
 have hb:=Ad6 w;unfold Awc Abj
 have:=Bha (K:=K) w K (An7 .i64 k 1) [] (Z21 _) (by omega)
 grind
def An0 (w:C5)(x:Az):Bool:= !decide ((x.Ay.length:Int)>0)||Aqi ((w.fP.N7.drop (gt x.Ay 0*w.fC.G8).toNat).take x.Wz.toNat)
def Awf (w:C5)(x:Az):Bool:=x.Bm==0||(gt w.fL (An7 .i64 x.Bm 1)).Vi==2
def Ayf (w:C5)(x:Az):Bool:=x.Ef==0||(gt w.fL (An7 .i64 x.Ef 1)).So==0
def A2k (w:C5)(x:Az):Bool:=x.Ay.all (fun k=>gt w.fP.Vi k==2)
def Asf (w:C5)(x:Az):Bool:=(Abj w.fL x.Ef).all (Ayn w.fL)
def Anf (w:C5)(x:Az):Bool:=Ala w.fC x&&(A2k w x&&(An0 w x&&(Awf w x&&(Ayf w x&&Asf w x))))
theorem A4x{w:C5}(hL:(w.fL.length:Int)=w.fC.E6)(hc:Ahg w.fC=true){n:Int}(h0:n≠0)(h1:0≤n)(h2:n≤w.fC.E6):0≤An7 .i64 n 1∧An7 .i64 n 1<(w.fL.length:Int):=by
 obtain⟨_,_,b3,_⟩:=A1 hc
 grind [An7,Ht]
theorem A8q (w:C5)(hw:Ak9 w)(hp:Auv w.fC w.fP=true)(hL:(w.fL.length:Int)=w.fC.E6)(i:Nat)(hi:i<w.fQ.length):Awt K w i=some (Anf w (gt w.fQ i)):=by
 have hx:=hw.q.1 _ (Ane hi);unfold Awt;rw[if_pos (Akq hi)];generalize gt w.fQ i=x at *;rw[A8o hK _ _ hx,Z0,Ad4];unfold Anf;cases hr:Ala w.fC x with
 |false=>rfl
 |true=>
 rw[cond_true,Z30];obtain⟨hc,⟨s1,s2⟩,⟨f1,f2⟩,hd,d1,d2⟩:=Aqt hr;obtain⟨_,hm,hst,_⟩:=Ati hp;obtain⟨b1,b2,b3,_⟩:=A1 hc
 have hch:=Aw5 hd
 have hl:=A2i hK hx.chunks
 have h3:Aoz K x.Ef w.fL=some (Asf w x):=by
  unfold Aoz Asf
  have hk:=A0j (l:=w.fL) w.fL.length (An7 .i64 x.Ef 1)
  have hin:=A29 (l:=w.fL) w.fL.length (An7 .i64 x.Ef 1);rw[A6c hK hw.l hx.first,Z0];change (Abj w.fL x.Ef).length≤_ at hk;change ∀y∈Abj w.fL x.Ef,_ at hin;generalize Abj w.fL x.Ef=r at *;rw[Att hK r (by omega) (Ayn w.fL) (some true) (Ap9 K w.fL r) (fun n i h=> ?_) (fun n=> ?_)]
  ·grind
  ·rw[Ap9,Ad8 h,cond_true,if_pos (Akq h),A6a K hw.l (hin _ (Ane h)),Ad5 (by omega),Z0,Ad4,Wx h]
  simp_all[Ap9]
 have h2:Ar0 K x.Bm x.Ef w.fL=some (Awf w x&&(Ayf w x&&Asf w x)):=by
  unfold Ar0 Awf Ayf;rw[h3]
  by_cases g1:x.Ef=0
  ·rw[g1]
   by_cases g2:x.Bm=0
   ·grind
   ·rw[Azt g2,App g2,cond_true,if_pos (A4x hK hL hc g2 s1 s2)]
    grind
  ·have hF:(bif (x.Ef != 0)then(if(0:Int)≤(An7 .i64 x.Ef 1)∧(An7 .i64 x.Ef 1)<(w.fL.length:Int)then(bif (((gt w.fL (An7 .i64 x.Ef 1)).So) != 0)then some false else some (Asf w x))else none)else some (Asf w x))=some ((x.Ef==0||(gt w.fL (An7 .i64 x.Ef 1)).So==0)&&Asf w x):=by
    rw[Azt g1,App g1,cond_true,if_pos (A4x hK hL hc g1 f1 f2)]
    grind
   rw[hF]
   by_cases g2:x.Bm=0
   ·grind
   ·rw[Azt g2,App g2,cond_true,if_pos (A4x hK hL hc g2 s1 s2)]
    grind
 rw[Att hK x.Ay (by omega) (fun k=>gt w.fP.Vi k==2) (some (An0 w x&&(Awf w x&&(Ayf w x&&Asf w x)))) (fun n i=>Ao0 K n i x.Bm x.Ef x.Fi x.Ay x.Wz w.fC.Ay w.fC.G8 w.fC.E6 w.fC.Gu w.fC.E7 w.fC.G9 w.fP.N7 w.fP.Vi w.fP.N8 w.fL w.fQ w.Acy) (fun n i h=> ?_) (fun n=> ?_)]
 ·rw[Ats];rfl
 ·simp only[Ao0]
  have h5:=hch _ (Ane h);rw[Ad8 h,cond_true,if_pos (Akq h),if_pos ⟨h5.1,by omega⟩,Ad5 (by omega),bne,Ad4,Wx h]
 ·show Ao0 K (n+1) _ _ _ _ _ _ _ _ _ _ _ _ _ _ _ _ _ _=_;rw[Ao0,Arh (Z9 _),cond_false,h2];unfold An0
  by_cases g:(x.Ay.length:Int)>0
  ·have h5:=hch _ (Al5 (l:=x.Ay) (Int.le_refl 0) (by omega))
   obtain⟨e1,e2,e3,e4⟩:=A1z hc hm h5.1 h5.2
   have e5:An6 .i64 (gt x.Ay 0*w.fC.G8) x.Wz=gt x.Ay 0*w.fC.G8+x.Wz:=by
    have:=Auu (a:=gt x.Ay 0) (b:=w.fC.G8) (m:=12) (n:=16) h5.1 (by omega) (by omega) b2.2
    grind [An6,Ht]
   rw[decide_eq_true g,cond_true,if_pos ⟨by omega,by omega⟩,if_pos ⟨by omega,by omega⟩,e1,e5,if_pos ⟨e3,by omega,by omega⟩,A1b hK _ (by grind),show gt x.Ay 0*w.fC.G8+x.Wz - gt x.Ay 0*w.fC.G8=x.Wz by omega]
   grind
  grind
end
def Al9 (N:Nat)(l:List Int):List Int:=(List.range N).map (fun k:Nat=>((l.count (k:Int):Nat):Int))
theorem A4y (N:Nat)(l:List Int):(Al9 N l).length=N:=by simp[Al9]
theorem A1f{N:Nat}{l:List Int}{x:Int}(h0:0≤x)(h1:x<N):gt (Al9 N l) x=((l.count x:Nat):Int):=by
 obtain⟨k,rfl⟩: ∃k:Nat,x=k:=⟨x.toNat,by omega⟩
 grind [Wx,Al9]
theorem Bbz (N:Nat):Al9 N []=List.replicate N 0:=by
 refine List.ext_getElem (by simp[Al9]) fun i h1 h2=> ?_
 simp[Al9]
theorem Bb0{N:Nat}{l:List Int}{x:Int}(h0:0≤x)(h1:x<N)(hl:l.length≤140737488355327):(Al9 N l).set x.toNat (An6 .i64 (gt (Al9 N l) x) 1)=Al9 N (l++[x]):=by
 have hc:l.count x≤l.length:=List.count_le_length
 have e:An6 .i64 (gt (Al9 N l) x) 1=((l.count x+1:Nat):Int):=by
  grind [A1f,Ad5]
 rw[e];refine List.ext_getElem (by simp[Al9]) fun i h2 h3=> ?_
 rw[List.getElem_set];simp only[Al9,List.getElem_map,List.getElem_range,List.count_append,List.count_singleton]
 grind
theorem A7m{C P:List Int}(hs: ∀x∈C,x∈P)(hP:P.Nodup):(∀x∈P,C.count x=1) ↔ (C.Nodup∧C.length=P.length):=by
 constructor
 ·intro h
  have hn:C.Nodup:=by
   grind
  refine⟨hn,?_⟩
  have h1:=Ayt hn hs
  have h2:=Ayt hP (l:=C) (fun x hx=>List.count_pos_iff.1 (by grind))
  omega
 ·rintro⟨hn,hl⟩ x hx
  have hp:=A56 hn hs hl
  have:=hn.count (a:=x);rw[this,if_pos (hp.mem_iff.2 hx)]
def chL (q:List Az):List Int:=q.flatMap (fun x=>x.Ay)
def slL (q:List Az):List Int:=q.flatMap (fun x=>if x.Bm=0 then []else [An7 .i64 x.Bm 1])
def kdL (l:List As)(q:List Az):List Int:=q.flatMap (fun x=>Abj l x.Ef)
theorem A81{α β:Type}(q:List α)(f:α->List β)(i:Nat)(h:i<q.length):(q.take (i+1)).flatMap f=(q.take i).flatMap f++f q[i]:=by
 grind [List.take_append_getElem]
theorem A4z{α β:Type}(q:List α)(f:α->List β)(m:Nat)(h: ∀x∈q,(f x).length≤m):(q.flatMap f).length≤q.length*m:=by
 induction q with
 |nil=>simp
 |cons x q ih=>
  have h1:=h x (by simp)
  have h2:=ih fun y hy=>h y (by simp[hy])
  simp only[List.flatMap_cons,Z23,Z28,Ze,Nat.one_mul];omega
def A6e (w:C5):List Int:=((List.range w.fP.Vi.length).filter (fun k:Nat=>gt w.fP.Vi k==2)).map (fun k:Nat=>(k:Int))
def A6f (w:C5):List Int:=((List.range w.fL.length).filter (fun k:Nat=>(gt w.fL k).Vi==2)).map (fun k:Nat=>(k:Int))
def Bb1 (w:C5):List Int:=((List.range w.fL.length).filter (fun k:Nat=>Ayn w.fL k)).map (fun k:Nat=>(k:Int))
theorem A4g (N:Nat)(p:Nat->Bool):(((List.range N).filter p).map (fun k:Nat=>(k:Int))).Nodup:=by
 grind [List.pairwise_lt_range,List.Pairwise.imp]
theorem Awg{N:Nat}{p:Nat->Bool}{x:Int}:x∈((List.range N).filter p).map (fun k:Nat=>(k:Int)) ↔ (0≤x∧x<(N:Int))∧p x.toNat=true:=by
 grind
def Aw6 (w:C5)(N:Nat):Bool:=
 (List.range w.fP.Vi.length).all (fun k=> !(gt w.fP.Vi k==2)||gt (Al9 N (chL w.fQ)) k==1)&&
 (List.range w.fL.length).all (fun k=>(!((gt w.fL k).Vi==2)||gt (Al9 w.fL.length (slL w.fQ)) k==1)&&(!Ayn w.fL k||gt (Al9 w.fL.length (kdL w.fL w.fQ)) k==1))
def A4h (q:List Az)(i k:Nat):Bool:= !((gt q i).Bm != 0&&(gt q k).Bm==(gt q i).Bm)&&(gt q i).Ay.all (fun y=> !(gt q k).Ay.contains y)
def A91 (q:List Az):Bool:=(List.range q.length).all (fun i=>(List.range i).all (fun k=>A4h q i k))
def A5q (l:List Int):Bool:=(List.range l.length).all (fun i=> !(l.take i).contains (gt l i))
def A61 (w:C5):Bool:=
 A91 w.fQ&&(A5q (kdL w.fL w.fQ)&&((((chL w.fQ).length:Int)==((A6e w).length:Int))&&((((slL w.fQ).length:Int)==((A6f w).length:Int))&&(((kdL w.fL w.fQ).length:Int)==((Bb1 w).length:Int)))))
theorem Bdx (l:List Int):A5q l=true ↔ l.Nodup:=by
 grind [A4f,A5q,Wx]
theorem Bb2{w:C5}{q:List Az}(h1: ∀x∈q,x.Ay.Nodup)(h2: ∀x∈q,0≤x.Bm∧x.Bm≤8):A91 q=true ↔ (chL q).Nodup∧(slL q).Nodup:=by
 unfold chL slL List.Nodup;rw[List.pairwise_flatMap,List.pairwise_flatMap,List.pairwise_iff_getElem,List.pairwise_iff_getElem]
 have hs: ∀x∈q,List.Pairwise (fun a b:Int=>a≠b) (if x.Bm=0 then []else [An7 .i64 x.Bm 1]):=by
  intro x _;split<;>simp
 have hsub: ∀x∈q,An7 .i64 x.Bm 1=x.Bm - 1:=by
  grind [An7,Ht]
 unfold A91 A4h;simp only[Z1,List.mem_range,Z4,Z44,List.contains_eq_mem,decide_eq_false_iff_not];constructor
 ·intro h;refine⟨⟨h1,fun i j hi hj hij x hx y hy e=> ?_⟩,hs,fun i j hi hj hij x hx y hy e=> ?_⟩
  ·have:=(h j hj i hij).2
   grind [Wx]
  ·have:=(h j hj i hij).1
   simp_all[Wx]
 ·rintro⟨⟨_,h3⟩,_,h4⟩ i hi k hk
  have hk':k<q.length:=by omega
  rw[Wx hi,Wx hk'];refine⟨?_,fun x hx hy=>h3 k i hk' hi hk x hy x hx rfl⟩;rw[Bool.and_eq_false_iff]
  by_cases g:q[i].Bm=0
  ·grind
  ·right;rw[beq_eq_false_iff_ne];intro e;refine h4 k i hk' hi hk (An7 .i64 q[k].Bm 1) ?_ (An7 .i64 q[i].Bm 1) ?_ (by rw[e])
   all_goals grind
theorem But{w:C5}(hp:Auv w.fC w.fP=true)(hL:(w.fL.length:Int)=w.fC.E6)(hq: ∀x∈w.fQ,Anf w x=true):Aw6 w w.fC.Ay.toNat=A61 w:=by
 obtain⟨hc,hm,hst,_⟩:=Ati hp;obtain⟨b1,b2,b3,_⟩:=A1 hc
 have hone: ∀x∈w.fQ,(0≤x.Bm∧x.Bm≤w.fC.E6)∧Aue w.fC x.Ay=true∧A2k w x=true∧Awf w x=true∧Asf w x=true:=by
  intro x hx
  have:=hq x hx;unfold Anf at this;simp only[Z4]at this;obtain⟨h1,h2,h3,h4,h5,h6⟩:=this;obtain⟨_,g1,_,g3,_⟩:=Aqt h1
  grind
 have hC: ∀x∈chL w.fQ,x∈A6e w:=by
  intro y hy;unfold chL at hy;rw[List.mem_flatMap]at hy;obtain⟨x,hx,hy⟩:=hy;obtain⟨_,g2,g3,_⟩:=hone x hx
  have:=Aw5 g2 y hy;unfold A2k at g3;rw[Z1]at g3
  have g4:=g3 y hy;refine Awg.2 ⟨⟨this.1,by omega⟩,?_⟩
  grind
 have hS: ∀x∈slL w.fQ,x∈A6f w:=by
  intro y hy;unfold slL at hy;rw[List.mem_flatMap]at hy;obtain⟨x,hx,hy⟩:=hy;obtain⟨g1,g2,g3,g4,_⟩:=hone x hx;split at hy
  ·cases hy
  ·rename_i g;simp only[Pz]at hy;unfold Awf at g4;rw[App g,Z52,←hy]at g4
   have:y=x.Bm - 1:=by grind [An7,Ht]
   refine Awg.2 ⟨⟨by omega,by omega⟩,?_⟩
   grind
 have hK2: ∀x∈kdL w.fL w.fQ,x∈Bb1 w:=by
  intro y hy;unfold kdL at hy;rw[List.mem_flatMap]at hy;obtain⟨x,hx,hy⟩:=hy;obtain⟨g1,g2,g3,g4,g5⟩:=hone x hx;unfold Asf at g5;rw[Z1]at g5
  have:=A29 _ _ y hy;refine Awg.2 ⟨this,?_⟩
  grind
 have e1:=A7m hC (A4g _ _)
 have e2:=A7m hS (A4g _ _)
 have e3:=A7m hK2 (A4g _ _)
 have hp2:=Bb2 (w:=w) (q:=w.fQ) (fun x hx=>Ays (hone x hx).2.1) (fun x hx=>by grind)
 rw[Bool.eq_iff_iff];unfold Aw6 A61;simp only[Z4,Z1,List.mem_range,Bool.or_eq_true,Z44,beq_iff_eq,Bdx,hp2,beq_eq_false_iff_ne]
 have c1:(∀x∈A6e w,(chL w.fQ).count x=1) ↔ ∀k,k<w.fP.Vi.length->gt w.fP.Vi (k:Int)≠2∨gt (Al9 w.fC.Ay.toNat (chL w.fQ)) (k:Int)=1:=by
  constructor
  ·intro h k hk
   by_cases g:gt w.fP.Vi (k:Int)=2
   ·right;rw[A1f (by omega) (by omega),h k (Awg.2 ⟨⟨by omega,by omega⟩,by grind⟩)];rfl
   omega
  ·intro h x hx;obtain⟨⟨h1,h2⟩,h3⟩:=Awg.1 hx;rw[beq_iff_eq,show((x.toNat:Nat):Int)=x by omega]at h3
   rcases h x.toNat (by omega)with h4|h4
   ·grind
   ·rw[show((x.toNat:Nat):Int)=x by omega,A1f h1 (by omega)]at h4;omega
 have c2:(∀x∈A6f w,(slL w.fQ).count x=1) ↔ ∀k,k<w.fL.length->(gt w.fL (k:Int)).Vi≠2∨gt (Al9 w.fL.length (slL w.fQ)) (k:Int)=1:=by
  constructor
  ·intro h k hk
   by_cases g:(gt w.fL (k:Int)).Vi=2
   ·right;rw[A1f (by omega) (by omega),h k (Awg.2 ⟨⟨by omega,by omega⟩,by grind⟩)];rfl
   omega
  ·intro h x hx;obtain⟨⟨h1,h2⟩,h3⟩:=Awg.1 hx;rw[beq_iff_eq,show((x.toNat:Nat):Int)=x by omega]at h3
   rcases h x.toNat (by omega)with h4|h4
   ·grind
   ·rw[show((x.toNat:Nat):Int)=x by omega,A1f h1 (by omega)]at h4;omega
 have c3:(∀x∈Bb1 w,(kdL w.fL w.fQ).count x=1) ↔ ∀k,k<w.fL.length->Ayn w.fL (k:Int)=false∨gt (Al9 w.fL.length (kdL w.fL w.fQ)) (k:Int)=1:=by
  constructor
  ·intro h k hk;cases g:Ayn w.fL (k:Int)with
   |true=>
    right;rw[A1f (by omega) (by omega),h k (Awg.2 ⟨⟨by omega,by omega⟩,by grind⟩)];rfl
   |false=>left;rfl
  ·intro h x hx;obtain⟨⟨h1,h2⟩,h3⟩:=Awg.1 hx;rw[show((x.toNat:Nat):Int)=x by omega]at h3
   rcases h x.toNat (by omega)with h4|h4
   ·grind
   ·rw[show((x.toNat:Nat):Int)=x by omega,A1f h1 (by omega)]at h4;omega
 grind
theorem A62{α β:Type}{K:Nat}(hK:281474976710656≤K)(l:List α)(hl:l.length≤140737488355328)(q:α->Bool)(fin bad:Option β)(L:Nat->Nat->Option β)
  (hs: ∀n (i:Nat) (h:i<l.length),L (n+1) i=bif q l[i]then L n (i+1)else bad)
  (he: ∀n,L (n+1) l.length=fin):L K 0=bif l.all q then fin else bad:=by
 have:=Bfe l q fin bad (fun n i=>L n i.toNat) (fun n i h=>by grind) (fun n=>by simp_all) K 0 (Z21 _) (by omega)
 grind
section
variable {K:Nat} (hK:281474976710656≤K)
include hK
theorem Bhb (w:C5)(hw:Ak9 w):Abc K (Al9 w.fL.length (slL w.fQ)) (Al9 w.fL.length (kdL w.fL w.fQ)) w.fL K (w.fL.length:Int) 0 w.fL=some ((List.range w.fL.length).all (fun k=>(!((gt w.fL (k:Int)).Vi==2)||gt (Al9 w.fL.length (slL w.fQ)) k==1)&&(!Ayn w.fL k||gt (Al9 w.fL.length (kdL w.fL w.fQ)) k==1))):=by
 have hl:=Ad6 hw.l
 rw[Apt hK w.fL.length (by omega) (fun k=>(!((gt w.fL (k:Int)).Vi==2)||gt (Al9 w.fL.length (slL w.fQ)) k==1)&&(!Ayn w.fL k||gt (Al9 w.fL.length (kdL w.fL w.fQ)) k==1)) (some true) (fun n i=>Abc K (Al9 w.fL.length (slL w.fQ)) (Al9 w.fL.length (kdL w.fL w.fQ)) w.fL n (w.fL.length:Int) i w.fL) (fun n i h=> ?_) (fun n=> ?_)]
 ·grind
 ·simp only[Abc,Akw];rw[Ad8 h,cond_true,if_pos (Akq h),A6b K hw.l (Akq h),Ad5 (by omega)]
  simp only[Z0,A4y,if_pos (Akq h),bne,Ad4]
  grind
 ·show Abc K _ _ _ (n+1) _ _ _=_
  simp_all[Abc]
theorem Bhc (w:C5)(hw:Ak9 w)(hp:Auv w.fC w.fP=true):Ago K (Al9 w.fC.Ay.toNat (chL w.fQ)) (Al9 w.fL.length (slL w.fQ)) (Al9 w.fL.length (kdL w.fL w.fQ)) w.fP.Vi w.fL K (w.fP.Vi.length:Int) 0 w.fP.Vi=some (Aw6 w w.fC.Ay.toNat):=by
 obtain⟨hc,hm,hst,_⟩:=Ati hp;obtain⟨b1,_⟩:=A1 hc
 rw[Apt hK w.fP.Vi.length (by omega) (fun k=> !(gt w.fP.Vi k==2)||gt (Al9 w.fC.Ay.toNat (chL w.fQ)) k==1) (some ((List.range w.fL.length).all (fun k=>(!((gt w.fL (k:Int)).Vi==2)||gt (Al9 w.fL.length (slL w.fQ)) k==1)&&(!Ayn w.fL k||gt (Al9 w.fL.length (kdL w.fL w.fQ)) k==1)))) (fun n i=>Ago K (Al9 w.fC.Ay.toNat (chL w.fQ)) (Al9 w.fL.length (slL w.fQ)) (Al9 w.fL.length (kdL w.fL w.fQ)) w.fP.Vi w.fL n (w.fP.Vi.length:Int) i w.fP.Vi) (fun n i h=> ?_) (fun n=> ?_)]
 ·rw[Ats];rfl
 ·simp only[Ago,Aqs];rw[Ad8 h,cond_true,if_pos (Akq h),Ad5 (by omega)]
  simp only[A4y,if_pos (show(0:Int)≤(i:Int)∧(i:Int)<((w.fC.Ay.toNat:Nat):Int) from⟨by omega,by omega⟩),bne,Ad4]
  grind
 ·show Ago K _ _ _ _ _ (n+1) _ _ _=_;rw[Ago,Arh (Z9 _),cond_false,Bhb hK w hw]
theorem Bb3{β:Type}(N:Nat)(base l:List Int)(hin: ∀x∈l,0≤x∧x<(N:Int))(hl:base.length+l.length≤140737488355327)(q:Int->Bool)(fin bad:Option β)(L:Nat->List Int->Int->Option β)
  (hs: ∀n v (i:Nat) (h:i<l.length),v.length=N->L (n+1) v (i:Int)=bif q l[i]then L n (v.set (l[i]).toNat (An6 .i64 (gt v l[i]) 1)) ((i+1:Nat):Int)else bad)
  (he: ∀n,L (n+1) (Al9 N (base++l)) (l.length:Int)=fin):L K (Al9 N base) 0=bif l.all q then fin else bad:=by
 have:=A62 hK l (by omega) q fin bad (fun n i=>L n (Al9 N (base++l.take i)) (i:Int)) (fun n i h=> ?_) (fun n=> ?_)
 ·grind
 ·have hb:(base++l.take i).length≤140737488355327:=by grind
  simp_all[A4y,Bb0]
 grind
theorem Bdy (w:C5)(hw:Ak9 w)(hp:Auv w.fC w.fP=true)(hL:(w.fL.length:Int)=w.fC.E6)(x:Az)(hx:A1q x)(c s d:List Int)(i:Nat)(n:Nat)(hi:i<w.fQ.length)(he:gt w.fQ i=x)
  (hb1:c.length+12≤140737488355327) (hb2:s.length≤140737488355326) (hb3:d.length+8≤140737488355327):
  Gy K (n+1) (Al9 w.fC.Ay.toNat c) (Al9 w.fL.length s) (Al9 w.fL.length d) w.fQ (w.fQ.length:Int) i w.fC.Ay w.fC.G8 w.fC.E6 w.fC.Gu w.fC.E7 w.fC.G9 w.fP.N7 w.fP.Vi w.fP.N8 w.fL w.fQ w.Acy
   =bif Anf w x then Gy K n (Al9 w.fC.Ay.toNat (c++x.Ay)) (Al9 w.fL.length (s++if x.Bm=0 then []else [An7 .i64 x.Bm 1])) (Al9 w.fL.length (d++Abj w.fL x.Ef)) w.fQ (w.fQ.length:Int) ((i+1:Nat):Int) w.fC.Ay w.fC.G8 w.fC.E6 w.fC.Gu w.fC.E7 w.fC.G9 w.fP.N7 w.fP.Vi w.fP.N8 w.fL w.fQ w.Acy else some false:=by
 have hq:=hw.q.2;rw[Gy];rw[show Ea.mk w.fC.Ay w.fC.G8 w.fC.E6 w.fC.Gu w.fC.E7 w.fC.G9=w.fC from rfl,show Dn.mk w.fP.N7 w.fP.Vi w.fP.N8=w.fP from rfl]
 rw[Ad8 hi,cond_true,if_pos (Akq hi),he,A8p hK _ _ hx,Z0];unfold Anf;cases hr:Ala w.fC x with
 |false=>rfl
 |true=>
 rw[cond_true,Z30];obtain⟨hc,⟨s1,s2⟩,⟨f1,f2⟩,hd,d1,d2⟩:=Aqt hr;obtain⟨_,hm,hst,_⟩:=Ati hp;obtain⟨b1,b2,b3,_⟩:=A1 hc
 have hch:=Aw5 hd
 have hcl:=Ar9 hc hd
 have h5: ∀s',Apc K (Al9 w.fL.length d) w.fQ (w.fQ.length:Int) i w.fC.Ay w.fC.G8 w.fC.E6 w.fC.Gu w.fC.E7 w.fC.G9 w.fP.N7 w.fP.Vi w.fP.N8 w.fL w.fQ w.Acy x.Ef (Al9 w.fC.Ay.toNat (c++x.Ay)) s' (Gy K n)
   =bif Asf w x then Gy K n (Al9 w.fC.Ay.toNat (c++x.Ay)) s' (Al9 w.fL.length (d++Abj w.fL x.Ef)) w.fQ (w.fQ.length:Int) ((i+1:Nat):Int) w.fC.Ay w.fC.G8 w.fC.E6 w.fC.Gu w.fC.E7 w.fC.G9 w.fP.N7 w.fP.Vi w.fP.N8 w.fL w.fQ w.Acy else some false:=by
  intro s'
  have hk:=A0j (l:=w.fL) w.fL.length (An7 .i64 x.Ef 1)
  have hin:=A29 (l:=w.fL) w.fL.length (An7 .i64 x.Ef 1);unfold Apc Asf;rw[A6d hK hw.l,Z0];change (Abj w.fL x.Ef).length≤_ at hk;change ∀y∈Abj w.fL x.Ef,_ at hin;generalize Abj w.fL x.Ef=r at*
  refine Bb3 hK w.fL.length d r hin (by omega) (Ayn w.fL) _ _ (fun m v j=>Aim K w.fQ (w.fQ.length:Int) i w.fC.Ay w.fC.G8 w.fC.E6 w.fC.Gu w.fC.E7 w.fC.G9 w.fP.N7 w.fP.Vi w.fP.N8 w.fL w.fQ w.Acy (Al9 w.fC.Ay.toNat (c++x.Ay)) s' r (Gy K n) m v (r.length:Int) j) (fun m v j hj hv=> ?_) (fun m=> ?_)
  ·have hr1:=hin _ (Ane hj);simp only[Aim];rw[Ad8 hj,cond_true,if_pos (Akq hj),if_pos (by omega),if_pos (by omega),A6b K hw.l hr1,Ad5 (by omega),Z0,Ad4,Wx hj]
  ·show Aim K _ _ _ _ _ _ _ _ _ _ _ _ _ _ _ _ _ _ _ (m+1) _ _ _=_;rw[Aim,Arh (Z9 _),cond_false,Ad5 (by omega)]
 have h4: ∀s',Apd K (Al9 w.fL.length d) w.fQ (w.fQ.length:Int) i w.fC.Ay w.fC.G8 w.fC.E6 w.fC.Gu w.fC.E7 w.fC.G9 w.fP.N7 w.fP.Vi w.fP.N8 w.fL w.fQ w.Acy x.Ef (Al9 w.fC.Ay.toNat (c++x.Ay)) (Gy K n) s'
   =bif Ayf w x&&Asf w x then Gy K n (Al9 w.fC.Ay.toNat (c++x.Ay)) s' (Al9 w.fL.length (d++Abj w.fL x.Ef)) w.fQ (w.fQ.length:Int) ((i+1:Nat):Int) w.fC.Ay w.fC.G8 w.fC.E6 w.fC.Gu w.fC.E7 w.fC.G9 w.fP.N7 w.fP.Vi w.fP.N8 w.fL w.fQ w.Acy else some false:=by
  intro s';unfold Apd Ayf;rw[h5]
  by_cases g:x.Ef=0
  ·grind
  ·rw[decide_eq_true (by omega),cond_true,if_pos (A4x hK hL hc g f1 f2),App g]
   grind
 have h2:Ape K (Al9 w.fC.Ay.toNat c) (Al9 w.fL.length s) (Al9 w.fL.length d) w.fQ (w.fQ.length:Int) i w.fC.Ay w.fC.G8 w.fC.E6 w.fC.Gu w.fC.E7 w.fC.G9 w.fP.N7 w.fP.Vi w.fP.N8 w.fL w.fQ w.Acy (Gy K n) x.Bm x.Ef x.Fi x.Ay x.Wz
   =bif A2k w x&&(Awf w x&&(Ayf w x&&Asf w x))then Gy K n (Al9 w.fC.Ay.toNat (c++x.Ay)) (Al9 w.fL.length (s++if x.Bm=0 then []else [An7 .i64 x.Bm 1])) (Al9 w.fL.length (d++Abj w.fL x.Ef)) w.fQ (w.fQ.length:Int) ((i+1:Nat):Int) w.fC.Ay w.fC.G8 w.fC.E6 w.fC.Gu w.fC.E7 w.fC.G9 w.fP.N7 w.fP.Vi w.fP.N8 w.fL w.fQ w.Acy else some false:=by
  unfold Ape;rw[Bb3 hK w.fC.Ay.toNat c x.Ay (fun y hy=>by grind) (by omega) (fun k=>gt w.fP.Vi k==2)
   (bif Awf w x&&(Ayf w x&&Asf w x)then Gy K n (Al9 w.fC.Ay.toNat (c++x.Ay)) (Al9 w.fL.length (s++if x.Bm=0 then []else [An7 .i64 x.Bm 1])) (Al9 w.fL.length (d++Abj w.fL x.Ef)) w.fQ (w.fQ.length:Int) ((i+1:Nat):Int) w.fC.Ay w.fC.G8 w.fC.E6 w.fC.Gu w.fC.E7 w.fC.G9 w.fP.N7 w.fP.Vi w.fP.N8 w.fL w.fQ w.Acy else some false) (some false)
   (fun m v j=>Ain K (Al9 w.fL.length s) (Al9 w.fL.length d) w.fQ (w.fQ.length:Int) i w.fC.Ay w.fC.G8 w.fC.E6 w.fC.Gu w.fC.E7 w.fC.G9 w.fP.N7 w.fP.Vi w.fP.N8 w.fL w.fQ w.Acy x.Bm x.Ef x.Ay (Gy K n) m v (x.Ay.length:Int) j x.Ay) (fun m v j hj hv=> ?_) (fun m=> ?_)]
  ·unfold A2k
   grind
  ·have hr1:=hch _ (Ane hj);simp only[Ain];rw[Ad8 hj,cond_true,if_pos (Akq hj),if_pos (by omega),if_pos (by omega),if_pos ⟨hr1.1,by omega⟩,Ad5 (by omega),bne,Ad4,Wx hj]
  ·show Ain K _ _ _ _ _ _ _ _ _ _ _ _ _ _ _ _ _ _ _ _ _ (m+1) _ _ _ _=_;rw[Ain,Arh (Z9 _),cond_false,h4,h4,A4y];unfold Awf
   by_cases g:x.Bm=0
   ·grind
   ·have hlk:=A4x hK hL hc g s1 s2;rw[decide_eq_true (by omega),cond_true,if_pos hlk,if_pos hlk,if_neg g,Bb0 hlk.1 hlk.2 (by omega),App g]
    grind
 rw[h2];unfold An0
 by_cases g:(x.Ay.length:Int)>0
 ·have h5:=hch _ (Al5 (l:=x.Ay) (Int.le_refl 0) (by omega))
  obtain⟨e1,e2,e3,e4⟩:=A1z hc hm h5.1 h5.2
  have hlc:(Avi w.fC w.fP.N7 (gt x.Ay 0)).length=w.fC.G8.toNat:=by grind [Avi]
  have htk:List.take (x.Wz - 0).toNat (List.drop (0:Int).toNat (Avi w.fC w.fP.N7 (gt x.Ay 0)))=List.take x.Wz.toNat (List.drop (gt x.Ay 0*w.fC.G8).toNat w.fP.N7):=by
   unfold Avi;simp only[Int.sub_zero,Int.toNat_zero,Z55,List.take_take];rw[Nat.min_eq_left (by omega)]
  rw[decide_eq_true g,cond_true,if_pos ⟨by omega,by omega⟩,A7e hK hc hm h5.1 h5.2,Z0,if_pos ⟨by omega,by omega,by rw[hlc];omega⟩,htk,A24 hK _ (by simp;omega)]
  simp only[Z0,Ad4,Bool.not_true,Z52];cases Aqi (List.take x.Wz.toNat (List.drop (gt x.Ay 0*w.fC.G8).toNat w.fP.N7))<;>cases A2k w x<;>rfl
 ·rw[decide_eq_false g];simp only[cond_false,Bool.not_false,Bool.true_or,Z30]
theorem Bfj (q:List Az):(slL q).length≤q.length:=by
 have:=A4z q (fun x=>if x.Bm=0 then []else [An7 .i64 x.Bm 1]) 1 (fun x _=>by grind)
 grind [slL]
theorem A92 (l:List As)(hl:l.length≤8)(q:List Az):(kdL l q).length≤q.length*8:=
 A4z _ _ 8 fun x _=>Vx (A0j _ _) hl
end
theorem Bdz{β:Type}(N:Nat)(hN:N≤140737488355327)(q:Nat->Bool)(fin:Int->Option β)(L:Nat->Int->Int->Option β)
  (hs: ∀n (v:Int) (i:Nat),i<N->0≤v->v≤i->L (n+1) v (i:Int)=bif q i then L n (v+1) ((i+1:Nat):Int)else L n v ((i+1:Nat):Int))
  (he: ∀n v,L (n+1) v (N:Int)=fin v):
  ∀(n i:Nat) (v:Int),0≤v->v≤i->i≤N->N - i<n->L n v (i:Int)=fin (v+((((List.range N).drop i).filter q).length:Int)):=by
 intro n
 induction n with
 |zero=>omega
 |succ n ih=>
  intro i v h0 hv hi hn;rcases Hn i N with h|h
  ·rw[hs n v i h h0 hv,Z47 (by grind),List.getElem_range,List.filter_cons]
   cases hq:q i with
   |true=>
    rw[cond_true,ih (i+1) _ (by omega) (by omega) (by omega) (by omega)]
    grind
   |false=>
    grind
  grind
theorem A93{v:Int}(h0:0≤v)(h:v≤140737488355328):An6 .i64 v 1=v+1:=by grind [An6,Ht]
section
variable {K:Nat} (hK:281474976710656≤K)
include hK
theorem A94 (w:C5)(hw:Ak9 w)(hp:Auv w.fC w.fP=true)(hL:(w.fL.length:Int)=w.fC.E6):Ar5 K w=some (w.fQ.all (Anf w)&&Aw6 w w.fC.Ay.toNat):=by
 obtain⟨hc,hm,hst,_⟩:=Ati hp;obtain⟨b1,b2,b3,_⟩:=A1 hc
 have hq:=hw.q.2
 have key: ∀(n i:Nat),(∀x∈w.fQ.take i,Anf w x=true)->i≤w.fQ.length->w.fQ.length - i<n→
   Gy K n (Al9 w.fC.Ay.toNat (chL (w.fQ.take i))) (Al9 w.fL.length (slL (w.fQ.take i))) (Al9 w.fL.length (kdL w.fL (w.fQ.take i))) w.fQ (w.fQ.length:Int) i w.fC.Ay w.fC.G8 w.fC.E6 w.fC.Gu w.fC.E7 w.fC.G9 w.fP.N7 w.fP.Vi w.fP.N8 w.fL w.fQ w.Acy=some ((w.fQ.drop i).all (Anf w)&&Aw6 w w.fC.Ay.toNat):=by
  intro n
  induction n with
  |zero=>omega
  |succ n ih=>
   intro i hpre hi hn;rcases Hn i w.fQ.length with h|h
   ·have hb1:(chL (w.fQ.take i)).length≤(w.fQ.take i).length*12:=A4z _ _ 12 fun x hx=>by
     have:=hpre x hx;unfold Anf at this;simp only[Z4]at this;obtain⟨hc,_,_,hd,_⟩:=Aqt this.1;exact Ar9 hc hd
    have hb2:=Bfj hK (w.fQ.take i)
    have hb3:=A92 hK w.fL (by omega) (w.fQ.take i)
    rw[List.length_take]at hb1 hb2 hb3;rw[Bdy hK w hw hp hL w.fQ[i] (hw.q.1 _ (List.getElem_mem h)) _ _ _ i n h (Wx h) (by omega) (by omega) (by omega),Z47 h,Ge]
    cases hx:Anf w w.fQ[i]with
    |false=>rfl
    |true=>
     rw[cond_true,Z30,←ih (i+1) (fun x hx2=>by
      grind [List.take_append_getElem]) h (by omega)]
     simp_all[chL,slL,kdL,A81]
   ·obtain rfl:i=w.fQ.length:=by omega
    rw[Gy,Arh (Z9 _),cond_false,List.take_length,Bhc hK w hw hp,List.drop_length];rfl
 unfold Ar5;rw[if_pos ⟨by omega,by omega,by omega,by omega⟩,if_pos ⟨by omega,by omega,by omega,by omega⟩,if_pos ⟨by omega,by omega,by omega,by omega⟩]
 have:=key K 0 (fun x hx=>by simp at hx) (Z21 _) (by omega)
 rw[List.take_zero,Z55,show chL []=[] from rfl,show slL []=[] from rfl,show kdL w.fL []=[] from rfl,Bbz,Bbz]at this
 grind
theorem A95 (p:Dn)(st:Int)(hl:p.Vi.length≤140737488355327):Axs K p st=some ((((List.range p.Vi.length).filter (fun k:Nat=>gt p.Vi k==st)).length:Nat):Int):=by
 unfold Axs
 have:=Bdz p.Vi.length hl (fun k:Nat=>gt p.Vi k==st) some (fun n v i=>Anr K st n v i p.N7 p.Vi p.N8) (fun n v i hi h0 hv=> ?_) (fun n v=> ?_) K 0 0 (Int.le_refl _) (Int.le_refl _) (Z21 _) (by omega)
 ·grind
 ·simp only[Anr,Avq];rw[Ad8 hi,cond_true,if_pos (Akq hi),Ad5 (by omega),A93 h0 (by omega)]
 ·show Anr K st (n+1) v _ _ _ _=_
  simp_all[Anr]
theorem A2u (l:List As)(st:Int)(hl:l.length≤140737488355327):Ap7 K l st=some ((((List.range l.length).filter (fun k:Nat=>(gt l k).Vi==st)).length:Nat):Int):=by
 unfold Ap7
 have:=Bdz l.length hl (fun k:Nat=>(gt l k).Vi==st) some (fun n v i=>Ajb K l st n v i) (fun n v i hi h0 hv=> ?_) (fun n v=> ?_) K 0 0 (Int.le_refl _) (Int.le_refl _) (Z21 _) (by omega)
 ·grind
 ·simp only[Ajb,Ase];rw[Ad8 hi,cond_true,if_pos (Akq hi),Ad5 (by omega),A93 h0 (by omega)]
 ·show Ajb K l st (n+1) v _=_
  simp_all[Ajb]
theorem Bd0 (w:C5)(hw:Ak9 w)(v1 v2:Int)(v3:List Int)(h3:v3.length≤140737488355327):
  Ag1 K v1 v2 v3 w.fP.N7 w.fP.Vi w.fP.N8 w.fL K 0 0=some (A5q v3&&((v1==((A6e w).length:Int))&&((v2==((A6f w).length:Int))&&((v3.length:Int)==((Bb1 w).length:Int))))):=by
 have hl:=Ad6 hw.l
 have hs:=A2i hK hw.p.st
 have h8: ∀v24,Ak0 K v1 v2 v3 w.fP.N7 w.fP.Vi w.fP.N8 w.fL v24 K 0=some (A5q v3&&((v1==((A6e w).length:Int))&&((v2==((A6f w).length:Int))&&((v3.length:Int)==v24)))):=by
  intro v24;rw[Apt hK v3.length (by omega) (fun i=> !(v3.take i).contains (gt v3 i)) (some ((v1==((A6e w).length:Int))&&((v2==((A6f w).length:Int))&&((v3.length:Int)==v24)))) (fun n i=>Ak0 K v1 v2 v3 w.fP.N7 w.fP.Vi w.fP.N8 w.fL v24 n i) (fun n i h=> ?_) (fun n=> ?_)]
  ·rw[Ats];rfl
  ·have hp:(v3.take i).length≤140737488355328:=by grind
   simp only[Ak0];rw[Ad8 h,cond_true,if_pos (Bbq (by omega)),if_pos (Akq h),A5l,Azg hK _ _ hp,Ad5 (by omega),Z0,Ad4]
  ·show Ak0 K v1 v2 v3 _ _ _ _ v24 (n+1) _=_
   simp_all[Ak0,A95,A2u,Ats,A6e,A6f]
 have:=Bdz w.fL.length hl (fun k:Nat=>Ayn w.fL k) (fun v=>some (A5q v3&&((v1==((A6e w).length:Int))&&((v2==((A6f w).length:Int))&&((v3.length:Int)==v))))) (fun n v i=>Ag1 K v1 v2 v3 w.fP.N7 w.fP.Vi w.fP.N8 w.fL n v i) (fun n v i hi h0 hv=> ?_) (fun n v=> ?_) K 0 0 (Int.le_refl _) (Int.le_refl _) (Z21 _) (by omega)
 ·rw[show((0:Nat):Int)=0 from rfl]at this
  simp_all[Bb1]
 ·simp only[Ag1,Atp];rw[Ad8 hi,cond_true,A6a K hw.l (Akq hi),Z0,Ad5 (by omega),A93 h0 (by omega)]
 ·show Ag1 K v1 v2 v3 _ _ _ _ (n+1) v _=_
  simp_all[Ag1]
theorem Bb4 (w:C5)(hw:Ak9 w)(i n:Nat)(hi:i<w.fQ.length)(v1 v2:Int)(v3:List Int)(h1:0≤v1∧v1≤70368744177664)(h2:0≤v2∧v2≤70368744177664)(h3:(v3.length+w.fL.length)*8≤140737488355327)(hcl:(gt w.fQ i).Ay.length≤12):
  Aey K (n+1) v1 v2 v3 i w.fC.Ay w.fC.G8 w.fC.E6 w.fC.Gu w.fC.E7 w.fC.G9 w.fP.N7 w.fP.Vi w.fP.N8 w.fL w.fQ w.Acy
   =bif (List.range i).all (fun k=>A4h w.fQ i k)then Aey K n (v1+((gt w.fQ i).Ay.length:Int)) (v2+((if(gt w.fQ i).Bm=0 then([]:List Int)else [An7 .i64 (gt w.fQ i).Bm 1]).length:Int)) (v3++Abj w.fL (gt w.fQ i).Ef) ((i+1:Nat):Int) w.fC.Ay w.fC.G8 w.fC.E6 w.fC.Gu w.fC.E7 w.fC.G9 w.fP.N7 w.fP.Vi w.fP.N8 w.fL w.fQ w.Acy else some false:=by
 have hq:=hw.q.2
 have hm:=V2
 have hx:=hw.q.1 _ (Ane hi)
 have hkl:=A0j (l:=w.fL) w.fL.length (An7 .i64 (gt w.fQ i).Ef 1);change (Abj w.fL (gt w.fQ i).Ef).length≤_ at hkl
 have hJ: ∀v17 v18,Arf K v3 i w.fC.Ay w.fC.G8 w.fC.E6 w.fC.Gu w.fC.E7 w.fC.G9 w.fP.N7 w.fP.Vi w.fP.N8 w.fL w.fQ w.Acy (Aey K n) v17 v18
   =bif (List.range i).all (fun k=>A4h w.fQ i k)then Aey K n v17 v18 (v3++Abj w.fL (gt w.fQ i).Ef) ((i+1:Nat):Int) w.fC.Ay w.fC.G8 w.fC.E6 w.fC.Gu w.fC.E7 w.fC.G9 w.fP.N7 w.fP.Vi w.fP.N8 w.fL w.fQ w.Acy else some false:=by
  intro v17 v18;unfold Arf
  have hlen:(v3++Abj w.fL (gt w.fQ i).Ef).length=v3.length+(Abj w.fL (gt w.fQ i).Ef).length:=by simp
  rw[if_pos (Akq hi),A6c hK hw.l hx.first,Z0,if_pos ⟨by omega,by omega⟩]
  rw[Apt hK i (by omega) (fun k=>A4h w.fQ i k) _ (fun m k=>Akz K i w.fC.Ay w.fC.G8 w.fC.E6 w.fC.Gu w.fC.E7 w.fC.G9 w.fP.N7 w.fP.Vi w.fP.N8 w.fL w.fQ w.Acy v17 v18 (Aey K n) m (v3++Abj w.fL (gt w.fQ i).Ef) k) (fun m k hk=> ?_) (fun m=> ?_)]
  ·have hk2:k<w.fQ.length:=by omega
   have hlk:=A2i hK (hw.q.1 _ (Ane hk2)).chunks
   have h4: ∀C:List Int->Int->Option Bool,Are K i w.fQ (v3++Abj w.fL (gt w.fQ i).Ef) k C=bif (gt w.fQ i).Ay.all (fun y=> !(gt w.fQ k).Ay.contains y)then C (v3++Abj w.fL (gt w.fQ i).Ef) ((k+1:Nat):Int)else some false:=by
    intro C;unfold Are;rw[Att hK (gt w.fQ i).Ay (by omega) (fun y=> !(gt w.fQ k).Ay.contains y) _ (fun m j=>Ank K i w.fQ (v3++Abj w.fL (gt w.fQ i).Ef) k C m j) (fun m j hj=> ?_) (fun m=> ?_)]
    ·simp only[Ank];rw[if_pos (Akq hi),Ad8 hj,cond_true,if_pos (Akq hk2),if_pos (Akq hj),Azg hK _ _ (by omega),Z0,Ad5 (by omega),Ad4,Wx hj,if_pos (Akq hi)]
    ·show Ank K i w.fQ _ k C (m+1) _=_;rw[Ank,if_pos (Akq hi),Arh (Z9 _),cond_false,Ad5 (by omega)]
   simp only[Akz];rw[Ad8 hk,cond_true,if_pos (Akq hi),if_pos (Akq hk2),if_pos (Akq hi),h4];unfold A4h
   grind
  ·show Akz K i _ _ _ _ _ _ _ _ _ _ _ _ v17 v18 _ (m+1) _ _=_;rw[Akz,Arh (Z9 _),cond_false,Ad5 (by omega)]
 rw[Aey,Ad8 hi,cond_true,if_pos (Akq hi),if_pos (Akq hi),hJ,hJ]
 have e1:An6 .i64 v1 ((gt w.fQ i).Ay.length:Int)=v1+((gt w.fQ i).Ay.length:Int):=by grind [An6,Ht]
 rw[e1,A93 h2.1 (by omega)]
 grind
theorem Bb5 (w:C5)(hw:Ak9 w)(hp:Auv w.fC w.fP=true)(hL:(w.fL.length:Int)=w.fC.E6)(hall: ∀x∈w.fQ,Anf w x=true):Avr K w=some (A61 w):=by
 obtain⟨hc,hm,hst,_⟩:=Ati hp;obtain⟨b1,b2,b3,_⟩:=A1 hc
 have hq:=hw.q.2
 have hc12: ∀x∈w.fQ,x.Ay.length≤12:=fun x hx=>by
  have:=hall x hx;unfold Anf at this;simp only[Z4]at this;obtain⟨hc,_,_,hd,_⟩:=Aqt this.1;exact Ar9 hc hd
 have h3:=A92 hK w.fL (by omega) w.fQ
 unfold Avr
 have:=A62 hK (List.range w.fQ.length) (by grind) (fun i=>(List.range i).all (fun k=>A4h w.fQ i k)) (Ag1 K ((chL w.fQ).length:Int) ((slL w.fQ).length:Int) (kdL w.fL w.fQ) w.fP.N7 w.fP.Vi w.fP.N8 w.fL K 0 0) (some false)
  (fun n i=>Aey K n ((chL (w.fQ.take i)).length:Int) ((slL (w.fQ.take i)).length:Int) (kdL w.fL (w.fQ.take i)) (i:Int) w.fC.Ay w.fC.G8 w.fC.E6 w.fC.Gu w.fC.E7 w.fC.G9 w.fP.N7 w.fP.Vi w.fP.N8 w.fL w.fQ w.Acy) (fun n i h=> ?_) (fun n=> ?_)
 ·rw[List.take_zero,show chL []=[] from rfl,show slL []=[] from rfl,show kdL w.fL []=[] from rfl]at this
  refine Eq.trans this ?_;rw[Bd0 hK w hw _ _ _ (by omega),Ats]
  rfl
 ·have hi:i<w.fQ.length:=by grind
  have hb1:(chL (w.fQ.take i)).length≤(w.fQ.take i).length*12:=A4z _ _ 12 fun x hx=>hc12 x (Z42 hx)
  have hb2:=Bfj hK (w.fQ.take i)
  have hb3:=A92 hK w.fL (by omega) (w.fQ.take i)
  rw[List.length_take]at hb1 hb2 hb3;simp only[List.getElem_range];rw[Bb4 hK w hw i n hi _ _ _ ⟨by omega,by omega⟩ ⟨by omega,by omega⟩ (by omega) (hc12 _ (Ane hi))]
  simp_all[chL,slL,kdL,A81,Wx]
 simp_all[Aey.eq_2]
end
def A2l (w:C5):Bool:=
 Auv w.fC w.fP&&(((w.fL.length:Int)==w.fC.E6)&&((List.range w.fL.length).all (A57 w)&&(A7k w.fL&&((w.fQ.all (Anf w)&&Aw6 w w.fC.Ay.toNat)&&w.Acy.all (fun x=>inB x 0 255)))))
section
variable {K:Nat} (hK:281474976710656≤K)
include hK
theorem A2m (w:C5)(hw:Ak9 w):Atg K w=some (A2l w):=by
 have hl:=A2i hK hw.log;unfold Atg A2l;rw[Bbo hK,Z0];cases hp:Auv w.fC w.fP with
 |false=>rfl
 |true=>
 rw[cond_true,Z30];cases hL:(w.fL.length:Int)==w.fC.E6 with
 |false=>rfl
 |true=>
 rw[beq_iff_eq]at hL;rw[cond_true,Z30,A9x hK w hw hp,Bby hK hw.l,A94 hK w hw hp hL,A1p hK _ (by omega)]
 simp_all[Ats]
theorem A0f (w:C5)(hw:Ak9 w):Arg K w=some (A2l w):=by
 have hl:=A2i hK hw.log
 have hl2:=Ad6 hw.l
 have hq:=hw.q.2;unfold Arg A2l;rw[A55 hK,Z0];cases hp:Auv w.fC w.fP with
 |false=>rfl
 |true=>
 rw[cond_true,Z30];cases hL:(w.fL.length:Int)==w.fC.E6 with
 |false=>grind
 |true=>
 rw[bne,hL,Bool.not_true,cond_false,Z30,Bbx hK hw.l,Z0,Ad4];rw[beq_iff_eq]at hL
 have e1:Ea.mk w.fC.Ay w.fC.G8 w.fC.E6 w.fC.Gu w.fC.E7 w.fC.G9=w.fC:=rfl
 have e2:C5.mk (Ea.mk w.fC.Ay w.fC.G8 w.fC.E6 w.fC.Gu w.fC.E7 w.fC.G9) (Dn.mk w.fP.N7 w.fP.Vi w.fP.N8) w.fL w.fQ w.Acy=w:=rfl
 have h3:w.fQ.all (Anf w)=true->Anv K w.fC.Ay w.fC.G8 w.fC.E6 w.fC.Gu w.fC.E7 w.fC.G9 w.fP.N7 w.fP.Vi w.fP.N8 w.fL w.fQ w.Acy K 0=some (w.Acy.all (fun x=>inB x 0 255)&&Aw6 w w.fC.Ay.toNat):=by
  intro hall;rw[Z1]at hall;rw[But hp hL hall];rw[Att hK w.Acy (by omega) (fun x=>inB x 0 255) (some (A61 w)) (Anv K w.fC.Ay w.fC.G8 w.fC.E6 w.fC.Gu w.fC.E7 w.fC.G9 w.fP.N7 w.fP.Vi w.fP.N8 w.fL w.fQ w.Acy) (fun n i h=> ?_) (fun n=> ?_)]
  ·grind
  ·rw[Anv,Ad8 h,cond_true,if_pos (Akq h),Anh,Ad5 (by omega),Z0,Ad4,Wx h]
  simp_all[Anv,Bb5]
 have h2:Apw K w.fC.Ay w.fC.G8 w.fC.E6 w.fC.Gu w.fC.E7 w.fC.G9 w.fP.N7 w.fP.Vi w.fP.N8 w.fL w.fQ w.Acy K 0=some (w.fQ.all (Anf w)&&(w.Acy.all (fun x=>inB x 0 255)&&Aw6 w w.fC.Ay.toNat)):=by
  rw[Att hK w.fQ (by omega) (Anf w) (Anv K w.fC.Ay w.fC.G8 w.fC.E6 w.fC.Gu w.fC.E7 w.fC.G9 w.fP.N7 w.fP.Vi w.fP.N8 w.fL w.fQ w.Acy K 0) (Apw K w.fC.Ay w.fC.G8 w.fC.E6 w.fC.Gu w.fC.E7 w.fC.G9 w.fP.N7 w.fP.Vi w.fP.N8 w.fL w.fQ w.Acy) (fun n i h=> ?_) (fun n=> ?_)]
  ·grind
  ·rw[Apw,Ad8 h,cond_true,e2,A8q hK w hw hp hL i h,Ad5 (by omega),Z0,Ad4,Wx h]
  simp_all[Apw]
 have h1:Anw K K 0 w.fC.Ay w.fC.G8 w.fC.E6 w.fC.Gu w.fC.E7 w.fC.G9 w.fP.N7 w.fP.Vi w.fP.N8 w.fL w.fQ w.Acy=some ((List.range w.fL.length).all (A57 w)&&(w.fQ.all (Anf w)&&(w.Acy.all (fun x=>inB x 0 255)&&Aw6 w w.fC.Ay.toNat))):=by
  rw[Apt hK w.fL.length (by omega) (A57 w) (some (w.fQ.all (Anf w)&&(w.Acy.all (fun x=>inB x 0 255)&&Aw6 w w.fC.Ay.toNat))) (fun n i=>Anw K n i w.fC.Ay w.fC.G8 w.fC.E6 w.fC.Gu w.fC.E7 w.fC.G9 w.fP.N7 w.fP.Vi w.fP.N8 w.fL w.fQ w.Acy) (fun n k hk=> ?_) (fun n=> ?_)]
  ·grind
  ·simp only[Anw];rw[e2,e1]
   have hn:=hw.l.1 _ (Ane hk)
   have l1:=A2i hK hn.chunks
   have l2:=Bfh hK hn.things
   have l3:=A2i hK hn.tags;rw[Ad8 hk,cond_true,if_pos (Akq hk),Avj hK _ _ l1 l2 l3,Z0,A7i hK w k hk hw.p.st.2 l1,Ad5 (by omega),A8m hK _ _ l1 l2]
   simp only[Z0];unfold A57;cases hb:Aqj w.fC (gt w.fL k)with
   |false=>rfl
   |true=>
   cases A1d w.fP k (gt w.fL k).Ay with
   |false=>rfl
   |true=>
   cases hi:(gt w.fL k).F6.all (Ari w.fC (gt w.fL k).Ay)with
   |false=>grind
   |true=>
   have hs:=A7j hi;rw[A8j hK _ l2 (fun t ht=>(hs t ht).1),Bdr hK w k hk hp hn hb hs];simp only[Z0,cond_true,Ad4,Z30,if_pos (Akq hk)]
   grind
  ·show Anw K (n+1) _ _ _ _ _ _ _ _ _ _ _ _ _=_
   simp_all[Anw]
 grind
end
theorem Bli{n:Nat}(h:n≤reachBytes):n≤140737488355327:=by simp only[reachBytes]at h;omega
section
variable {K:Nat} (hK:281474976710656≤K)
include hK
end
theorem Byd{x:Int}(h:Bbn x):0≤x∧x≤255:=by
 grind [Bbn,Lit.wf,IntKind.min,IntKind.max,IntKind.signed,IntKind.bits]
theorem Bhd{l:List Int}(h:A9t l):Blg l:=⟨fun x hx=>Byd (h.1 x hx),by have:=Bli h.2.1;omega⟩
theorem B0t{α:Type}(l:List α)(i:Nat)(x y:α):(l.set i x).set i y=l.set i y:=List.set_set ..
section
variable {K:Nat} (hK:281474976710656≤K)
include hK
def one{α:Type}(_:α):Nat:=1
def A0y (x:As):Nat:=10+x.Ay.length+3*x.F6.length+x.Fi.length
def Bd1 (p:Dn):Nat:=p.N7.length+p.Vi.length+p.N8.length
end
section
variable {K:Nat} (hK:281474976710656≤K)
include hK
theorem A63{α β:Type}(l:List α)(hl:l.length≤140737488355327)(fin:Option β)(L:Nat->List α->Int->Option β)
  (hs: ∀n v (i:Nat) (h:i<l.length),v.length=i->L (n+1) v (i:Int)=L n (v++[l[i]]) ((i+1:Nat):Int))
  (he: ∀n,L (n+1) l (l.length:Int)=fin):L K [] 0=fin:=by
 have:=A62 hK l (by omega) (fun _=>true) fin none (fun n i=>L n (l.take i) (i:Int)) (fun n i h=>by
  grind [List.take_append_getElem]) (fun n=>by grind)
 grind
omit hK in
theorem A1g (K:Nat){p:Dn}(w:A0t p):Aqx K p=some p:=by
 have hm:=V2
 have h1:=w.mem.2
 have h2:=w.st.2
 have h3:=w.own.2;unfold Aqx;simp only[Z38];rw[if_pos ⟨by omega,by omega⟩,if_pos ⟨by omega,by omega⟩,if_pos ⟨by omega,by omega⟩]
omit hK in
theorem Atm (K:Nat){n:As}(w:Aql n):Anc K n=some n:=by
 have hm:=V2
 have h1:=w.chunks.2
 have h2:=w.things.2
 have h3:=w.tags.2;unfold Anc;simp only[Z38];rw[if_pos ⟨by omega,by omega⟩,if_pos ⟨by omega,by omega⟩,if_pos ⟨by omega,by omega⟩]
theorem A2n{l:List As}(w:Ad9 l):Ato K l=some l:=by
 have hm:=V2
 have h2:=w.2;unfold Ato;refine A63 hK l (Ad6 w) (some l) (fun n v i=>Aq9 K l n v i) (fun n v i h hv=> ?_) (fun n=> ?_)
 ·have hl:(v++[l[i]]).length=i+1:=by simp[hv]
  simp only[Aq9];rw[Ad8 h,cond_true,if_pos (Akq h),Wx h,Atm K (w.1 _ (List.getElem_mem h)),Z0,if_pos ⟨by omega,by omega⟩,Ad5 (by omega)]
 ·show Aq9 K l (n+1) _ _=_
  simp_all[Aq9]
omit hK in
theorem A96 (K:Nat){x:Az}(w:A1q x):Axr K x=some x:=by
 have hm:=V2
 have h1:=w.tags.2
 have h2:=w.chunks.2;unfold Axr;simp only[Z38];rw[if_pos ⟨by omega,by omega⟩,if_pos ⟨by omega,by omega⟩]
theorem Ayg{w:C5}(hw:Ak9 w):Ap1 K w=some w:=by
 have hm:=V2
 have h2:=hw.q.2
 have h3:=hw.log.2;unfold Ap1;rw[A1g K hw.p,Z0,A2n hK hw.l,Z0]
 refine A63 hK w.fQ (by omega) (some w) (fun n v i=>Apu K n i w.fC.Ay w.fC.G8 w.fC.E6 w.fC.Gu w.fC.E7 w.fC.G9 w.fP.N7 w.fP.Vi w.fP.N8 w.fL v w.Acy (C5.mk (Ea.mk 0 0 0 0 0 0) (Dn.mk [] [] []) [] [] []) w.fC.Ay w.fC.G8 w.fC.E6 w.fC.Gu w.fC.E7 w.fC.G9 w.fP.N7 w.fP.Vi w.fP.N8 w.fL w.fQ w.Acy) (fun n v i h hv=> ?_) (fun n=> ?_)
 ·have hl:(v++[w.fQ[i]]).length=i+1:=by simp[hv]
  simp only[Apu];rw[Ad8 h,cond_true,if_pos (Akq h),Wx h,A96 K (hw.q.1 _ (List.getElem_mem h)),Z0,if_pos ⟨by omega,by omega⟩,Ad5 (by omega)]
 ·show Apu K (n+1) _ _ _ _ _ _ _ _ _ _ _ _ _ _ _ _ _ _ _ _ _ _ _ _ _ _=_;rw[Apu,Arh (Z9 _),cond_false];simp only[Z38];rw[if_pos ⟨by omega,by omega⟩]
omit hK in
theorem A37 (K:Nat){p:Dn}(w:A0t p):Aud K p=some p:=by
 unfold Aud;rw[A4d K w.mem.2,Atj K w.st.2,Atj K w.own.2];rfl
omit hK in
theorem A8r (K:Nat){n:As}(w:Aql n):Aw2 K n=some n:=by
 unfold Aw2;rw[Atj K w.chunks.2,Bbt K w.things.2,Atj K w.tags.2];rfl
theorem A7n{l:List As}(w:Ad9 l):Avx K l=some l:=by
 have hm:=V2
 have h2:=w.2;unfold Avx;refine A63 hK l (Ad6 w) (some l) (fun n v i=>Ann K l n v (l.length:Int) i) (fun n v i h hv=> ?_) (fun n=> ?_)
 ·have hl:(v++[l[i]]).length=i+1:=by simp[hv]
  simp only[Ann];rw[Ad8 h,cond_true,if_pos (Akq h),Wx h,A8r K (w.1 _ (List.getElem_mem h)),Z0,if_pos ⟨by omega,by omega⟩,Ad5 (by omega)]
 ·show Ann K l (n+1) _ _ _=_
  simp_all[Ann]
omit hK in
theorem A7o (K:Nat){x:Az}(w:A1q x):Avy K x=some x:=by
 unfold Avy;rw[Atj K w.tags.2,Atj K w.chunks.2];rfl
theorem Bb6{α:Type}(v:List α)(d x:α):(v++[d]).set (v.length:Int).toNat x=v++[x]:=by
 simp_all
theorem Ayh{w:C5}(hw:Ak9 w):Anz K w=some w:=by
 have hm:=V2
 have h2:=hw.q.2;unfold Anz;rw[A37 K hw.p,Z0,A7n hK hw.l,Z0,Atj K hw.log.2,Z0];refine A63 hK w.fQ (by omega) (some w) (fun n v i=>Ano K n w.fQ (w.fQ.length:Int) i (C5.mk w.fC w.fP w.fL v w.Acy) (C5.mk (Ea.mk 0 0 0 0 0 0) (Dn.mk [] [] []) [] [] [])) (fun n v i h hv=> ?_) (fun n=> ?_)
 ·simp only[Ano];rw[Ad8 h,cond_true,if_pos (Akq h),Wx h,A7o K (hw.q.1 _ (List.getElem_mem h)),Z0,if_pos ⟨by omega,by omega⟩,Ad5 (by omega),Bb6 hK]
 ·show Ano K (n+1) _ _ _ _ _=_
  simp_all[Ano]
end
def Blj (mem:List Int)(p n:Int):List Int×Bool:=if 0≤p∧0≤n∧p+n≤(mem.length:Int)then((mem.drop p.toNat).take n.toNat,true)else([],false)
theorem Bpa{mem:List Int}(a b:Nat):((mem.drop a).take b).length≤mem.length:=by grind
theorem Bb7 (K:Nat){mem:List Int}(hl:mem.length≤140737488355327)(p n:Int):Ava K mem p n=some (decide (0≤p∧0≤n∧p+n≤(mem.length:Int))):=by
 unfold Ava
 by_cases h1:(0:Int)≤p
 ·rw[decide_eq_true (show p≥0 from h1)]
  by_cases h2:(0:Int)≤n
  ·rw[decide_eq_true (show n≥0 from h2)]
   by_cases h3:p≤(mem.length:Int)
   ·rw[decide_eq_true h3];simp only[cond_true,Z7,decide_eq_decide]
    grind [An7,Ht]
   ·rw[decide_eq_false h3];simp only[cond_true,cond_false,Z7]
    grind
  grind
 grind
theorem Bll (K:Nat){m:Nat}(hl:m≤140737488355327)(p n:Int):Ayq K (m:Int) p n=some (decide (0≤p∧0≤n∧p+n≤(m:Int))):=by
 unfold Ayq V1
 by_cases h2:(0:Int)≤n
 ·rw[decide_eq_true (show n≥0 from h2)]
  by_cases h3:n≤(m:Int)
  ·rw[decide_eq_true h3]
   by_cases h1:(0:Int)≤p
   ·rw[decide_eq_true (show p≥0 from h1)]
    simp only[cond_true,Z0,Z7,decide_eq_decide]
    grind [An7,Ht]
   grind
  ·rw[decide_eq_false h3];simp only[cond_true,cond_false,Z7]
   grind
 grind
theorem Bd2 (K:Nat){mem:List Int}(hl:mem.length≤140737488355327)(p n:Int):Az2 K mem p n=some (Blj mem p n):=by
 unfold Az2 Blj;rw[Bb7 K hl];simp only[Z0]
 by_cases h:0≤p∧0≤n∧p+n≤(mem.length:Int)
 ·rw[decide_eq_true h,if_pos h]
  try simp only[cond_true]
  have e:An6 .i64 p n=p+n:=by grind [An6,Ht]
  have hc:=Bpa (mem:=mem) p.toNat (p+n - p).toNat;rw[e,if_pos ⟨by omega,by omega,by omega⟩,if_pos ⟨by grind,by grind [maxLen]⟩]
  grind
 grind
def Blm (mem:List Int)(t:Bc)(at_ n:Int):List Int×Bool:=if 0≤at_∧0≤n∧at_+n≤t.Ajm then Blj mem (An6 .i64 t.fAt at_) n else([],false)
theorem Bln{mem:List Int}{p n:Int}(h:p<0):Blj mem p n=([],false):=by unfold Blj;grind
theorem A7p (K:Nat){mem:List Int}(hl:mem.length≤140737488355327){t:Bc}(wt:ThingW t)(at_ n:Int):Avu K mem t at_ n=some (Blm mem t at_ n):=by
 obtain⟨wl1,wl2⟩:=wt.2.1;unfold Avu Axv Blm
 by_cases h1:(0:Int)≤at_
 ·rw[decide_eq_true (show at_≥0 from h1)]
  by_cases h2:(0:Int)≤n
  ·rw[decide_eq_true (show n≥0 from h2)]
   by_cases h3:at_≤t.Ajm
   ·rw[decide_eq_true h3]
    have e:An7 .i64 t.Ajm at_=t.Ajm - at_:=by grind [An7,Ht]
    rw[e]
    by_cases h4:n≤t.Ajm - at_
    ·rw[decide_eq_true h4,if_pos ⟨h1,h2,by omega⟩]
     simp only[cond_true,Bd2 K hl];cases decide (t.fAt<0)with
     |true=>rfl
     |false=>
      by_cases h5:(0:Int)≤An6 .i64 t.fAt at_
      ·grind
      ·rw[decide_eq_false (show ¬An6 .i64 t.fAt at_≥0 from h5),Bln (by omega)];rfl
    grind
   grind
  grind
 grind
theorem Bd3 (K:Nat){mem:List Int}(hl:mem.length≤140737488355327){t:Bc}(wt:ThingW t)(at_ n:Int):
  ∃r,Avg K mem t at_ n=some r∧r.2=decide ((0≤at_∧0≤n∧at_+n≤t.Ajm)∧0≤An6 .i64 t.fAt at_∧An6 .i64 t.fAt at_+n≤(mem.length:Int))∧(r.2=true->r.1=An6 .i64 t.fAt at_):=by
 obtain⟨wl1,wl2⟩:=wt.2.1;unfold Avg
 by_cases h1:at_<0
 ·simp_all[decide_eq_false]
 ·rw[decide_eq_false h1]
  by_cases h2:n<0
  ·simp_all[decide_eq_false]
  ·rw[decide_eq_false h2]
   by_cases h3:n>t.Ajm
   ·rw[decide_eq_true h3];grind
   ·rw[decide_eq_false h3]
    have e:An7 .i64 t.Ajm n=t.Ajm - n:=by grind [An7,Ht]
    rw[e]
    by_cases h4:at_>t.Ajm - n
    ·rw[decide_eq_true h4];grind
    ·rw[decide_eq_false h4]
     by_cases h5:An6 .i64 t.fAt at_<0
     ·simp_all[decide_eq_false]
     ·rw[decide_eq_false h5,Bll K hl];refine⟨_,rfl,?_,fun _=>rfl⟩
      grind
def A6g (w:C5)(h:An):Int:=((Agy w.fL w.fL.length (Apr w.fL h)).length:Int)
theorem Bd4{l:List As}(hl:l.length≤140737488355327)(h:An):wfi (Apr l h):=by
 by_cases h0:Apr l h<0
 ·unfold Apr at *;split at h0
  ·omega
  ·rename_i h1;rw[if_neg h1];exact⟨by omega,by omega⟩
 ·have:=A5n h0;exact⟨by omega,by omega⟩
section
variable {K:Nat} (hK:281474976710656≤K)
include hK
theorem Ayu (w:C5)(hw:Ad9 w.fL)(h:An):Aog K w h=some (A6g w h):=by
 have hl:=Ad6 hw;unfold Aog Av4;rw[A2j K hl,Z0,A0u hK hw _ (Bd4 hl h)];rfl
theorem A5r (w:C5)(hw:Ad9 w.fL)(h:An):Auj K w h=some (A6g w h):=by
 have hl:=Ad6 hw;unfold Auj A1o;rw[A4w K hl,Z0,A0v hK hw];rfl
def Brc (code Er:Int)(b:List Int):Et:=Et.mk code (An.mk 0 0) (Br.mk (An.mk 0 0) 0 0) b Er 0 0
end
section
variable {β:Type} [Inhabited β]
end
section
variable {K:Nat} (hK:281474976710656≤K)
include hK
end
section
variable {K:Nat} (hK:281474976710656≤K)
include hK
end
theorem Bfk{β:Type}(f:β->Nat): ∀(l:List β) (i:Nat) (h:i<l.length) (x:β),((l.set i x).map f).sum+f l[i]=(l.map f).sum+f x
 |[],i,h,x=>by simp at h
 |y::l,0,h,x=>by grind
 |y::l,i+1,h,x=>by
  have:=Bfk f l i (by grind) x
  grind
theorem A0z{l:List As}(hl:Ad9 l)(i:Nat){x:As}(hx:Aql x):Ad9 (l.set i x):=
 ⟨fun y hy=>(Z54 hy).elim (hl.1 y) (fun e=>e ▸ hx),by rw[Z49];exact hl.2⟩
def A05 (p:Dn)(k:Int):Dn:=if(0≤k∧k<(p.Vi.length:Int)∧k<(p.N8.length:Int))∧gt p.Vi k=1 then Dn.mk p.N7 (p.Vi.set k.toNat 2) (p.N8.set k.toNat (-1))else p
theorem A97{p:Dn}(hp:A0t p)(k:Int):A0t (A05 p k)∧Bd1 (A05 p k)=Bd1 p:=by
 unfold A05;split
 ·refine⟨⟨hp.mem,⟨fun x hx=> ?_,by rw[Z49];exact hp.st.2⟩,⟨fun x hx=> ?_,by rw[Z49];exact hp.own.2⟩⟩,by simp[Bd1]⟩
  ·rcases Z54 hx with h|h
   ·exact hp.st.1 x h
   ·subst h;exact⟨by omega,by omega⟩
  ·rcases Z54 hx with h|h
   ·exact hp.own.1 x h
   ·subst h;exact⟨by omega,by omega⟩
 grind
theorem A7q (K:Nat){p:Dn}(hp:A0t p)(k:Int):Azx K p k=some (A05 p k):=by
 have h1:=hp.st.2;unfold Azx Asq A05;rw[A1g K hp,Z0,Azh K (by omega),Z0]
 grind
theorem Bd5 (K:Nat){p:Dn}(hp:A0t p)(k:Int):A0a K p k=some (A05 p k):=by
 have h1:=hp.st.2
 have h2:=hp.own.2;unfold A0a Avf A05
 have e:An7 .i64 (Zy (p.Vi.length:Int) (p.N8.length:Int)) 1=Zy (p.Vi.length:Int) (p.N8.length:Int) - 1:=by
  grind [An7,Zy,Ht]
 rw[A37 K hp,Z0,Avz,Z0,e]
 by_cases hs:0≤k∧k<(p.Vi.length:Int)∧k<(p.N8.length:Int)
 ·rw[Acw.2 (by grind [Zy]),cond_true,if_pos ⟨hs.1,hs.2.1⟩,if_pos ⟨hs.1,hs.2.1⟩,if_pos ⟨hs.1,hs.2.2⟩]
  grind
 ·rw[A6z.2 (by grind [Zy]),if_neg (show ¬((0≤k∧k<(p.Vi.length:Int)∧k<(p.N8.length:Int))∧gt p.Vi k=1) from fun x=>hs x.1)];rfl
def Akr (p:Dn)(l:List Int):Dn:=l.foldl A05 p
theorem A98{α σ β:Type}{K:Nat}(hK:281474976710656≤K)(l:List α)(hl:l.length≤140737488355327)(f:σ->α->σ)(s0:σ)(I:σ->Prop)(hI:I s0)(hf: ∀s x,I s->I (f s x))(fin:Option β)(L:Nat->σ->Int->Option β)
  (hs: ∀n s (i:Nat) (h:i<l.length),I s->L (n+1) s (i:Int)=L n (f s l[i]) ((i+1:Nat):Int))
  (he: ∀n,L (n+1) (l.foldl f s0) (l.length:Int)=fin):L K s0 0=fin:=by
 have key: ∀(n i:Nat) (s:σ),I s->i≤l.length->l.length - i<n->(l.drop i).foldl f s=l.foldl f s0->L n s (i:Int)=fin:=by
  intro n
  induction n with
  |zero=>omega
  |succ n ih=>
   grind [List.drop_eq_getElem_cons]
 exact key K 0 s0 hI (Z21 _) (by omega) rfl
def Ag9 (n:As)(slot:Int):Az:=Az.mk slot n.Ef n.Fi n.Ay 0
def Awh (n:As):As:=As.mk n.Vi n.C9 (An6 .i64 n.Sl 1) n.fUp n.Sm 0 n.Sn n.So [] 0 0 [] []
theorem A2o (K:Nat){n:As}(hn:Aql n)(s:Int):Asr K n s=some (Ag9 n s):=by
 have hm:=V2
 have h1:=hn.tags.2
 have h2:=hn.chunks.2;unfold Asr;simp only[Z38];rw[if_pos ⟨by omega,by omega⟩,if_pos ⟨by omega,by omega⟩];rfl
theorem A99 (K:Nat){n:As}(hn:Aql n)(s:Int):Ayb K n s=some (Ag9 n s):=by
 unfold Ayb;rw[Atj K hn.tags.2,Atj K hn.chunks.2];rfl
theorem Baa (K:Nat){n:As}(hn:Aql n):Axq K n=some (Awh n):=by
 unfold Axq;rw[Atm K hn];rfl
theorem Aw9:wfi 0:=⟨by decide,by decide⟩
theorem Ayv:A11 []:=⟨(fun x hx=>by cases hx),(by simp)⟩
theorem A3a:A9u []:=⟨(fun x hx=>by cases hx),(by simp)⟩
theorem Bd6{n:As}(hn:Aql n){s:Int}(hs:wfi s):A1q (Ag9 n s):=⟨hs,hn.first,hn.tags,hn.chunks,Aw9⟩
def K1 (w:C5)(k:Int):C5:=C5.mk w.fC (Akr w.fP (gt w.fL k).Ay) (w.fL.set k.toNat (Awh (gt w.fL k))) (w.fQ++[Ag9 (gt w.fL k) 0]) w.Acy
section
variable {K:Nat} (hK:281474976710656≤K)
include hK
theorem A6h (w:C5)(hw:Ak9 w)(l:List Int)(hl:l.length≤140737488355327):Aqy K w l=some (C5.mk w.fC (Akr w.fP l) w.fL w.fQ w.Acy):=by
 unfold Aqy;refine A98 hK l (by omega) A05 w.fP A0t hw.p (fun s x h=>(A97 h x).1) _ (fun n s i=>Air K l n i w.fC.Ay w.fC.G8 w.fC.E6 w.fC.Gu w.fC.E7 w.fC.G9 s.N7 s.Vi s.N8 w.fL w.fQ w.Acy) (fun n s i h hs=> ?_) (fun n=> ?_)
 ·simp only[Air];rw[Ad8 h,cond_true,if_pos (Akq h),Wx h,show Dn.mk s.N7 s.Vi s.N8=s from rfl,A7q K hs,Z0,Ad5 (by omega)]
 ·show Air K l (n+1) _ _ _ _ _ _ _ _ _ _ _ _ _=_;rw[Air,Arh (Z9 _),cond_false];rfl
theorem Bb8 (w:C5)(hw:A0t w.fP){k:Int}(hk:0≤k∧k<(w.fL.length:Int))(hl:(gt w.fL k).Ay.length≤140737488355327):Atr K w k=some (C5.mk w.fC (Akr w.fP (gt w.fL k).Ay) w.fL w.fQ w.Acy):=by
 unfold Atr;simp only[if_pos hk];refine A98 hK (gt w.fL k).Ay (by omega) A05 w.fP A0t hw (fun s x h=>(A97 h x).1) _ (fun n s i=>Ak7 K n (gt w.fL k).Ay ((gt w.fL k).Ay.length:Int) i w.fC.Ay w.fC.G8 w.fC.E6 w.fC.Gu w.fC.E7 w.fC.G9 s.N7 s.Vi s.N8 w.fL w.fQ w.Acy) (fun n s i h hs=> ?_) (fun n=> ?_)
 ·simp only[Ak7];rw[Ad8 h,cond_true,if_pos (Akq h),Wx h,show Dn.mk s.N7 s.Vi s.N8=s from rfl,Bd5 K hs,Z0,Ad5 (by omega)]
 ·show Ak7 K (n+1) _ _ _ _ _ _ _ _ _ _ _ _ _ _ _=_;rw[Ak7,Arh (Z9 _),cond_false];rfl
theorem Bab (w:C5)(hw:Ak9 w)(hQ:w.fQ.length≤140737488355){k:Int}(hk:0≤k∧k<(w.fL.length:Int)):Aun K w k=some (K1 w k):=by
 have hm:=V2
 have hn:=hw.l.1 _ (Al5 hk.1 hk.2);unfold Aun;simp only[if_pos hk,A2o K hn,Z0,A6h hK w hw _ (A2i hK hn.chunks),Baa K hn];rw[if_pos ⟨by grind,by grind⟩]
 rfl
theorem Bac (w:C5)(hw:Ak9 w)(hQ:w.fQ.length≤140737488355){k:Int}(hk:0≤k∧k<(w.fL.length:Int))(hst:(gt w.fL k).Vi=1):Ayc K w k=some (K1 w k):=by
 have hm:=V2
 have hn:=hw.l.1 _ (Al5 hk.1 hk.2);unfold Ayc A0o;rw[Ayh hK hw,Z0,A0i K (Ad6 hw.l),Z0,decide_eq_true hk,cond_true,if_pos hk,hst];simp only[bne_self_eq_false,cond_false,if_pos hk,A99 K hn,Z0]
 rw[if_pos ⟨by omega,by omega⟩,Bb6 hK,Bb8 hK (C5.mk w.fC w.fP w.fL (w.fQ++[Ag9 (gt w.fL k) 0]) w.Acy) hw.p hk (A2i hK hn.chunks),Z0]
 simp only[if_pos hk,Z0];rfl
end
def Brd (n:As)(v:Int):As:=As.mk n.Vi n.C9 n.Sl n.fUp n.Sm n.Ef v n.So n.Ay n.Acx n.Sq n.F6 n.Fi
def Blo (n:As)(v:Int):As:=As.mk n.Vi n.C9 n.Sl n.fUp n.Sm n.Ef n.Sn v n.Ay n.Acx n.Sq n.F6 n.Fi
def Blp (n:As)(v:Int):As:=As.mk n.Vi n.C9 n.Sl n.fUp n.Sm v n.Sn n.So n.Ay n.Acx n.Sq n.F6 n.Fi
def Bpb (n:As):As:=As.mk n.Vi n.C9 n.Sl 0 0 n.Ef 0 0 n.Ay n.Acx n.Sq n.F6 n.Fi
theorem Azc{l:List As}{k:Int}(hk:0≤k∧k<(l.length:Int))(x:As):gt (l.set k.toNat x) k=x:=by
 have hlt:k.toNat<(l.set k.toNat x).length:=by grind
 simp_all[gt]
theorem A0g{l:List As}{j k:Int}(hj:0≤j)(hk:0≤k∧k<(l.length:Int))(h:j≠k)(x:As):gt (l.set j.toNat x) k=gt l k:=by
 have h1:k.toNat<(l.set j.toNat x).length:=by grind
 have h2:k.toNat<l.length:=by omega
 have e1:gt (l.set j.toNat x) ((k.toNat:Nat):Int)=gt l ((k.toNat:Nat):Int):=by
  rw[Wx h1,Wx h2,List.getElem_set,if_neg (by omega)]
 grind
theorem A40 (K:Nat){l:List As}{k:Int}(hk:0≤k∧k<(l.length:Int)):Atz K k l=some (l.set k.toNat (Bpb (gt l k))):=by
 unfold Atz;rw[if_pos hk];simp only[Aqk,Z49,Azc hk,B0t,if_pos hk];rfl
def A5s (l0 l:List As)(k nx pv:Int):List As:=bif plB l0 nx then l.set (An7 .i64 nx 1).toNat (Blo (gt l (An7 .i64 nx 1)) pv)else l
def A4i (l0 l:List As)(k nx pv:Int):List As:=(A5s l0 l k nx pv).set k.toNat (Bpb (gt (A5s l0 l k nx pv) k))
theorem A3b (l0 l:List As)(k nx pv:Int):(A5s l0 l k nx pv).length=l.length:=by
 grind [A5s]
theorem Ayi (K:Nat){l0 l:List As}(hl:l0.length≤140737488355327)(he:l.length=l0.length){k:Int}(hk:0≤k∧k<(l0.length:Int))(a b c d e f nx pv:Int)(g:List Int)(h i:Int)(t:List Bc)(u:List Int)(hx:wfi nx):Ars K l0 k l a b c d e f nx pv g h i t u=some (A4i l0 l k nx pv):=by
 unfold Ars A4i A5s;rw[Avk K hl hx,Z0];cases hp:plB l0 nx with
 |false=>simp_all[A40]
 |true=>
  have:=Azs hp;rw[cond_true,cond_true,if_pos (by omega)]
  simp only[Aqk];rw[A40 K (by grind)]
  rfl
def A41 (l:List As)(k:Int):List As:=
 bif plB l (gt l k).So then l.set (An7 .i64 (gt l k).So 1).toNat (Brd (gt l (An7 .i64 (gt l k).So 1)) (gt l k).Sn)
 else bif (gt l k).So==0&&(plB l (gt l k).fUp&&(gt l (An7 .i64 (gt l k).fUp 1)).Ef==An6 .i64 k 1)then l.set (An7 .i64 (gt l k).fUp 1).toNat (Blp (gt l (An7 .i64 (gt l k).fUp 1)) (gt l k).Sn)
 else l
def Aqa (l:List As)(k:Int):List As:=A4i l (A41 l k) k (gt l k).Sn (gt l k).So
theorem A14 (l:List As)(k:Int):(A41 l k).length=l.length:=by
 unfold A41;grind
section
variable {K:Nat} (hK:281474976710656≤K)
include hK
theorem Bb9{l:List As}(w:Ad9 l){k:Int}(hk:0≤k∧k<(l.length:Int)):Ay0 K l k=some (Aqa l k):=by
 have hl:=Ad6 w
 have hn:=w.1 _ (Al5 hk.1 hk.2)
 have e1:An7 .i64 (An6 .i64 k 1) 1=k:=by grind [An7,An6,Ht]
 have hpk:plB l (An6 .i64 k 1)=true:=by grind [plB]
 have hwk:wfi (An6 .i64 k 1):=Bld _;unfold Ay0 Aqa;rw[A2n hK w,Z0,Avk K hl hwk,Z0,hpk,Bool.not_true,cond_false,if_pos hk,Avk K hl hn.prev,Z0];unfold A41;cases hp:plB l (gt l k).So with
 |true=>
  have:=Azs hp;rw[cond_true,cond_true,if_pos this];simp only[Aqk];rw[Ayi K hl (by grind) hk _ _ _ _ _ _ _ _ _ _ _ _ _ hn.next]
  rfl
 |false=>
  rw[cond_false,cond_false];cases h0:(gt l k).So==0 with
  |false=>
   simp_all[Aqf,Ayi,Aql.next]
  |true=>
   rw[cond_true,Avk K hl hn.up,Z0];cases hu:plB l (gt l k).fUp with
   |false=>
    simp_all[Aqf,Ayi,Aql.next]
   |true=>
    have hui:=Azs hu;rw[cond_true,if_pos hui];simp only[Z30,Aqf];cases (gt l (An7 .i64 (gt l k).fUp 1)).Ef==An6 .i64 k 1 with
    |false=>
     simp_all[Ayi,Aql.next]
    |true=>
     simp only[cond_true,if_pos hui,Aqk];rw[Ayi K hl (by grind) hk _ _ _ _ _ _ _ _ _ _ _ _ _ hn.next]
     rfl
end
def Bye (n:As):As:=As.mk 2 n.C9 0 0 0 0 0 0 [] 0 0 [] []
theorem Bpc{n:As}(hn:Aql n){v:Int}(hv:wfi v):Aql (Brd n v):=⟨hn.st,hn.gen,hn.ep,hn.up,hn.upEp,hn.first,hv,hn.prev,hn.chunks,hn.cur,hn.bump,hn.things,hn.tags⟩
theorem Bpd{n:As}(hn:Aql n){v:Int}(hv:wfi v):Aql (Blo n v):=⟨hn.st,hn.gen,hn.ep,hn.up,hn.upEp,hn.first,hn.next,hv,hn.chunks,hn.cur,hn.bump,hn.things,hn.tags⟩
theorem Blq{n:As}(hn:Aql n){v:Int}(hv:wfi v):Aql (Blp n v):=⟨hn.st,hn.gen,hn.ep,hn.up,hn.upEp,hv,hn.next,hn.prev,hn.chunks,hn.cur,hn.bump,hn.things,hn.tags⟩
theorem Buu{n:As}(hn:Aql n):Aql (Bpb n):=by
 have z:wfi 0:=⟨by decide,by decide⟩
 exact⟨hn.st,hn.gen,hn.ep,z,z,hn.first,z,z,hn.chunks,hn.cur,hn.bump,hn.things,hn.tags⟩
theorem A3t{l:List As}{k:Int}(hk:0≤k∧k<(l.length:Int)){x:As}(h:A0y x=A0y (gt l k)):((l.set k.toNat x).map A0y).sum=(l.map A0y).sum:=by
 have hlt:k.toNat<l.length:=by omega
 have:=Bfk A0y l k.toNat hlt x
 have e:l[k.toNat]=gt l k:=by rw[←Wx hlt,show((k.toNat:Nat):Int)=k by omega]
 grind
theorem Buv{l:List As}(w:Ad9 l){k:Int}(hk:0≤k∧k<(l.length:Int)):Ad9 (A41 l k)∧((A41 l k).map A0y).sum=(l.map A0y).sum:=by
 have hn:=w.1 _ (Al5 hk.1 hk.2);unfold A41;cases hp:plB l (gt l k).So with
 |true=>
  have hi:=Azs hp;exact⟨A0z w _ (Bpc (w.1 _ (Al5 hi.1 hi.2)) hn.next),A3t hi rfl⟩
 |false=>
  rw[cond_false];cases hc:((gt l k).So==0&&(plB l (gt l k).fUp&&(gt l (An7 .i64 (gt l k).fUp 1)).Ef==An6 .i64 k 1))with
  |false=>grind
  |true=>
   simp only[Z4]at hc
   have hi:=Azs hc.2.1;exact⟨A0z w _ (Blq (w.1 _ (Al5 hi.1 hi.2)) hn.next),A3t hi rfl⟩
theorem Buw{l0 l:List As}(w:Ad9 l)(he:l.length=l0.length)(k nx:Int){pv:Int}(hv:wfi pv):Ad9 (A5s l0 l k nx pv)∧((A5s l0 l k nx pv).map A0y).sum=(l.map A0y).sum:=by
 unfold A5s;cases hp:plB l0 nx with
 |true=>
  have hi:=Azs hp;rw[←he]at hi;exact⟨A0z w _ (Bpd (w.1 _ (Al5 hi.1 hi.2)) hv),A3t hi rfl⟩
 |false=>grind
theorem Bhe{l:List As}(w:Ad9 l){k:Int}(hk:0≤k∧k<(l.length:Int)):Ad9 (Aqa l k)∧((Aqa l k).map A0y).sum=(l.map A0y).sum∧(Aqa l k).length=l.length:=by
 have hn:=w.1 _ (Al5 hk.1 hk.2);obtain⟨h1,h2⟩:=Buv w hk
 have h3:=A14 l k;obtain⟨h4,h5⟩:=Buw h1 h3 k (gt l k).Sn hn.prev
 have h6:=A3b l (A41 l k) k (gt l k).Sn (gt l k).So
 have hk':0≤k∧k<((A5s l (A41 l k) k (gt l k).Sn (gt l k).So).length:Int):=by omega
 unfold Aqa A4i;exact⟨A0z h4 _ (Buu (h4.1 _ (Al5 hk'.1 hk'.2))),(A3t (x:=Bpb (gt (A5s l (A41 l k) k (gt l k).Sn (gt l k).So) k)) hk' rfl).trans (h5.trans h2),by grind⟩
def Ayw (w:C5)(k:Int):C5:=C5.mk w.fC (Akr w.fP (gt w.fL k).Ay) ((Aqa w.fL k).set k.toNat (Bye (gt (Aqa w.fL k) k))) (w.fQ++[Ag9 (gt w.fL k) (An6 .i64 k 1)]) w.Acy
section
variable {K:Nat} (hK:281474976710656≤K)
include hK
theorem Bd7 (w:C5)(hw:Ak9 w)(hQ:w.fQ.length≤140737488355){k:Int}(hk:0≤k∧k<(w.fL.length:Int)):Awr K w k=some (Ayw w k):=by
 have hm:=V2
 have hn:=hw.l.1 _ (Al5 hk.1 hk.2)
 have hk':0≤k∧k<((Aqa w.fL k).length:Int):=by simp_all[Bhe,Ak9.l]
 unfold Awr Aze;simp only[if_pos hk,A2o K hn,Z0,A6h hK w hw _ (A2i hK hn.chunks),Bb9 hK hw.l hk,if_pos hk'];rw[if_pos ⟨by grind,by grind⟩]
 rfl
end
def B0u (c:Ea)(x:Az)(v:Int)(i:Nat):Int:=An6 .i64 v (bif ((i:Int)==0)then Atl (An7 .i64 c.G8 x.Wz) c.E7 else Atl c.G8 c.E7)
def Bux (c:Ea)(x:Az):Int:=
 (List.range x.Ay.length).foldl (B0u c x) (An6 .i64 (x.Fi.length:Int) 1)
section
variable {K:Nat} (hK:281474976710656≤K)
include hK
end
def Buy (w:C5)(k:Int):Int:=Bux w.fC (Ag9 (gt w.fL k) 0)
def kidsK (w:C5)(k:Int):List Int:=Abj w.fL (gt w.fL k).Ef
section
variable {K:Nat} (hK:562949953421312≤K)
include hK
end
structure Lk where
 lv:Bool
 gn:Bool
 ep:Int
 up:Int
 ue:Int
 fi:Int
 nx:Int
 pv:Int
section
variable (N:Int) (t:Int->Lk)
def Lv (k:Int):Prop:=(0≤k∧k<N)∧(t k).lv=true
def Cu (k:Int):Prop:=Lv N t ((t k).up - 1)∧(t ((t k).up - 1)).ep=(t k).ue
def Oo (k:Int):Prop:=Lv N t k∧(t k).up≠0∧ ¬Cu N t k
structure A38 (k:Int):Prop where
 first:(t k).fi≠0->Lv N t ((t k).fi - 1)∧(t ((t k).fi - 1)).pv=0∧(t ((t k).fi - 1)).up=k+1∧(t ((t k).fi - 1)).ue=(t k).ep
 next:(t k).nx≠0->Lv N t ((t k).nx - 1)∧(t ((t k).nx - 1)).pv=k+1∧(t ((t k).nx - 1)).up=(t k).up∧(t ((t k).nx - 1)).ue=(t k).ue
 prev:(t k).pv≠0->Lv N t ((t k).pv - 1)∧(t ((t k).pv - 1)).nx=k+1
 up:(t k).up≠0->0≤(t k).up - 1∧(t k).up - 1<N
 top:(t k).pv=0->Cu N t k->(t ((t k).up - 1)).fi=k+1
def kids:Nat->Int->List Int
 |0,_=>[]
 |n+1,k=>if 0≤k∧k<N then k::kids n ((t k).nx - 1)else []
def rise:Nat->Int->List Int
 |0,_=>[]
 |n+1,k=>if 0≤k∧k<N then k::rise n ((t k).up - 1)else []
structure Aqm:Prop where
 link: ∀k,Lv N t k->A38 N t k
 rise: ∀k,Lv N t k->(rise N t N.toNat k).length≤4∧ ∀x,(rise N t N.toNat k).getLast? =some x-> ¬Cu N t x
 bare: ∀k,0≤k->k<N->(t k).lv=false->(t k).up=0∧(t k).fi=0∧(t k).nx=0∧(t k).pv=0
def Wf (r:Int->Nat):Prop:= ∀x,Lv N t x->(t x).pv≠0->r ((t x).pv - 1)<r x
end
section
variable {N:Int} {t:Int->Lk}
theorem A3u (n:Nat)(k:Int):kids N t (n+1) k=if 0≤k∧k<N then k::kids N t n ((t k).nx - 1)else []:=rfl
theorem Bhf (n:Nat)(k:Int):rise N t (n+1) k=if 0≤k∧k<N then k::rise N t n ((t k).up - 1)else []:=rfl
theorem Oo.lv{k:Int}(h:Oo N t k):Lv N t k:=h.1
theorem Bad: ∀(n:Nat) (k x:Int),x∈kids N t n k->0≤x∧x<N:=by
 intro n
 induction n with
 |zero=>intro k x h;cases h
 |succ n ih=>
  intro k x h;unfold kids at h;split at h
  ·rename_i h1;rcases Eg.1 h with rfl|h
   ·exact h1
   ·exact ih _ x h
  ·cases h
theorem Axe (n:Nat):kids N t n (0 - 1)=[]:=by
 cases n with
 |zero=>rfl
 |succ n=>rfl
theorem Bhg: ∀(n:Nat) (k:Int),kids N t n k=(kids N t (n+1) k).take n:=by
 intro n
 induction n with
 |zero=>grind [kids]
 |succ n ih=>
  grind [A3u]
theorem Blr (T:Aqm N t){u e:Int}: ∀(n:Nat) (k:Int),Lv N t k->(t k).up=u->(t k).ue=e-> ∀x∈kids N t n k,Lv N t x∧(t x).up=u∧(t x).ue=e:=by
 intro n
 induction n with
 |zero=>intro k _ _ _ x h;cases h
 |succ n ih=>
  intro k h1 h2 h3 x h;unfold kids at h;split at h
  ·rcases Eg.1 h with rfl|h
   ·grind
   ·by_cases h4:(t k).nx=0
    ·grind [Axe]
    ·obtain⟨a,_,b,c⟩:=(T.link k h1).next h4
     grind
  ·cases h
theorem A82 (T:Aqm N t){r:Int->Nat}(W:Wf N t r): ∀(n:Nat) (k:Int),Lv N t k->(∀x∈kids N t n k,r k≤r x)∧(kids N t n k).Pairwise (fun a b=>r a<r b):=by
 intro n
 induction n with
 |zero=>intro k _;exact⟨fun x h=>(by cases h),.nil⟩
 |succ n ih=>
  intro k h1;unfold kids;split
  ·by_cases h4:(t k).nx=0
   ·rw[h4,Axe]
    grind
   ·obtain⟨a,b,_⟩:=(T.link k h1).next h4;obtain⟨i1,i2⟩:=ih _ a
    have hr:=W _ a (by omega)
    rw[b,Int.add_sub_cancel]at hr;refine⟨fun x h=> ?_,List.pairwise_cons.2 ⟨fun x h=> ?_,i2⟩⟩
    all_goals grind
  simp_all
theorem A4j (T:Aqm N t){r:Int->Nat}(W:Wf N t r)(n:Nat){k:Int}(h:Lv N t k):(kids N t n k).Nodup:=
 (A82 T W n k h).2.imp fun h e=>by grind
theorem A64{l:List Int}(hn:l.Nodup)(h: ∀x∈l,0≤x∧x<N):l.length≤N.toNat:=by
 have:=Ayt (l:=(List.range N.toNat).map (fun i:Nat=>(i:Int))) hn (fun x hx=>by
  have:=h x hx;rw[Ey];exact⟨x.toNat,by grind,by omega⟩)
 grind
theorem Bhh: ∀(n:Nat) (k y x:Int),y∈kids N t n k->(t y).nx=x+1->0≤x∧x<N->x∈kids N t n k∨(kids N t n k).length=n:=by
 intro n
 induction n with
 |zero=>intro k y x h;cases h
 |succ n ih=>
  intro k y x h h1 h2;unfold kids at h ⊢;split at h
  ·rename_i h3;rw[if_pos h3];rcases Eg.1 h with rfl|h
   ·rw[h1,Int.add_sub_cancel];cases n with
    |zero=>grind [kids]
    |succ n=>simp_all[kids.eq_2]
   grind
  ·cases h
theorem Bls (T:Aqm N t){r:Int->Nat}(W:Wf N t r){k:Int}(hk:Lv N t k)(x:Int):
  x∈kids N t N.toNat ((t k).fi - 1) ↔ Lv N t x∧(t x).up=k+1∧(t x).ue=(t k).ep:=by
 constructor
 ·intro h
  by_cases h0:(t k).fi=0
  ·grind [Axe]
  ·obtain⟨a,_,b,c⟩:=(T.link k hk).first h0;exact Blr T _ _ a b c x h
 ·generalize hn:r x=n
  induction n using Nat.strongRecOn generalizing x with
  |_ n ih=>
   intro⟨h1,h2,h3⟩
   have hc:Cu N t x:=by simp_all[Cu]
   by_cases hp:(t x).pv=0
   ·have:=(T.link x h1).top hp hc;rw[h2,Int.add_sub_cancel]at this;obtain⟨m,hm⟩: ∃m,N.toNat=m+1:=⟨N.toNat - 1,by have:=h1.1;omega⟩
    rw[this,Int.add_sub_cancel,hm,kids,if_pos h1.1];simp
   ·obtain⟨a,b⟩:=(T.link x h1).prev hp
    have hr:=W x h1 hp;obtain⟨_,_,c,d⟩:=(T.link _ a).next (by rw[b];have:=h1.1;omega)
    rw[b,Int.add_sub_cancel]at c d
    have hy:=ih _ (by omega) _ rfl ⟨a,c ▸ h2,d ▸ h3⟩
    rcases Bhh _ _ _ x hy b h1.1 with h|h
    ·exact h
    ·refine Classical.byContradiction fun hx=> ?_
     have h0:(t k).fi≠0:=fun e=>by grind [Axe]
     have hd:=A4j T W N.toNat ((T.link k hk).first h0).1
     have:=A64 (N:=N) (l:=x::kids N t N.toNat ((t k).fi - 1)) (List.nodup_cons.2 ⟨hx,hd⟩) (fun y hy=>by
      rcases Eg.1 hy with rfl|hy
      ·exact h1.1
      ·exact Bad _ _ y hy)
     grind
theorem A3c (T:Aqm N t){r:Int->Nat}(W:Wf N t r)(n:Nat){k:Int}(hk:Lv N t k):(kids N t n ((t k).fi - 1)).Nodup:=by
 by_cases h0:(t k).fi=0
 ·grind [Axe]
 ·exact A4j T W n ((T.link k hk).first h0).1
theorem A2p{t':Int->Lk}: ∀(n:Nat) (k:Int),(∀x∈kids N t n k,(t' x).nx=(t x).nx)->kids N t' n k=kids N t n k:=by
 intro n
 induction n with
 |zero=>intro k _;rfl
 |succ n ih=>
  simp_all[kids.eq_2]
theorem A1h{t':Int->Lk}: ∀(n:Nat) (k:Int),(∀x∈rise N t n k,(t' x).up=(t x).up)->rise N t' n k=rise N t n k:=by
 intro n
 induction n with
 |zero=>intro k _;rfl
 |succ n ih=>
  simp_all[rise]
theorem Bhi: ∀(n:Nat) (k:Int),rise N t n k=(rise N t (n+1) k).take n:=by
 intro n
 induction n with
 |zero=>grind [rise]
 |succ n ih=>
  grind [Bhf]
theorem Azi: ∀(n:Nat) (k x:Int),x∈rise N t n k->0≤x∧x<N:=by
 intro n
 induction n with
 |zero=>intro k x h;cases h
 |succ n ih=>
  intro k x h;unfold rise at h;split at h
  ·rename_i h1;rcases Eg.1 h with rfl|h
   ·exact h1
   ·exact ih _ x h
  ·cases h
theorem Blt{t':Int->Lk}{g:Int}(h: ∀x,x≠g->(t' x).up=(t x).up)(hg:(t' g).up=0): ∀(n:Nat) (k:Int),
  (rise N t' n k=[] ↔ rise N t n k=[])∧(rise N t' n k).length≤(rise N t n k).length∧((rise N t' n k).getLast? =some g∨(rise N t' n k).getLast? =(rise N t n k).getLast?):=by
 intro n
 induction n with
 |zero=>intro k;exact⟨Iff.rfl,Z9 _,.inr rfl⟩
 |succ n ih=>
  intro k;rw[rise,rise]
  by_cases h1:0≤k∧k<N
  ·rw[if_pos h1,if_pos h1]
   by_cases e:k=g
   ·subst e
    have:rise N t' n (0 - 1)=[]:=by cases n with|zero=>rfl|succ n=>rfl
    grind
   ·rw[h k e];obtain⟨i1,i2,i3⟩:=ih ((t k).up - 1);refine⟨by simp,by grind,?_⟩
    cases ha:rise N t' n ((t k).up - 1)with
    |nil=>grind
    |cons a l=>
     cases hb:rise N t n ((t k).up - 1)with
     |nil=>grind
     |cons b m=>
      simp_all
  simp_all[if_neg]
theorem A3v (T:Aqm N t){k:Int}(hk:Lv N t k)(hc:Cu N t k):(t k).up≠k+1:=by
 intro e;obtain⟨_,h⟩:=T.rise k hk
 have: ∀n,rise N t (n+1) k=List.replicate (n+1) k:=by
  intro n
  induction n with
  |zero=>rw[rise,if_pos hk.1];rfl
  |succ n ih=>rw[rise,if_pos hk.1,e,Int.add_sub_cancel,ih];rfl
 obtain⟨m,hm⟩: ∃m,N.toNat=m+1:=⟨N.toNat - 1,by have:=hk.1;omega⟩
 refine h k ?_ hc;rw[hm,this,List.getLast?_replicate,if_neg (by omega)]
def rem (t:Int->Lk)(g:Int)(x:Int):Lk:=
 if x=g then⟨false,true,0,0,0,0,0,0⟩else
  ⟨(t x).lv,(t x).gn,(t x).ep,(t x).up,(t x).ue,if(t g).pv=0∧x+1=(t g).up∧(t x).fi=g+1 then(t g).nx else(t x).fi,if x+1=(t g).pv then(t g).nx else(t x).nx,if x+1=(t g).nx then(t g).pv else(t x).pv⟩
theorem A42{g:Int}:rem t g g=⟨false,true,0,0,0,0,0,0⟩:=if_pos rfl
theorem Akx{g x:Int}(h:x≠g):rem t g x=⟨(t x).lv,(t x).gn,(t x).ep,(t x).up,(t x).ue,if(t g).pv=0∧x+1=(t g).up∧(t x).fi=g+1 then(t g).nx else(t x).fi,if x+1=(t g).pv then(t g).nx else(t x).nx,if x+1=(t g).nx then(t g).pv else(t x).pv⟩:=if_neg h
theorem Apf{g x:Int}:Lv N (rem t g) x ↔ x≠g∧Lv N t x:=by
 unfold Lv
 by_cases h:x=g
 all_goals grind [A42,Akx]
theorem A00{g x:Int}(hx:x≠g):Cu N (rem t g) x ↔ (t x).up≠g+1∧Cu N t x:=by
 unfold Cu;rw[Apf,Akx hx]
 by_cases h:(t x).up - 1=g
 ·grind
 ·rw[Akx h]
  grind
theorem Blu{g x:Int}(hg:0≤g):Oo N (rem t g) x ↔ x≠g∧(Oo N t x∨Lv N t x∧(t x).up=g+1):=by
 unfold Oo;rw[Apf]
 by_cases h:x=g
 ·simp[h]
 ·rw[A00 h,Akx h]
  grind
theorem Blv (T:Aqm N t){g x:Int}(hg:Lv N t g)(hx:Lv N (rem t g) x):A38 N (rem t g) x:=by
 obtain⟨hne,hl⟩:=Apf.1 hx
 have G:=T.link g hg
 have X:=T.link x hl
 have g0:=hg.1
 have x0:=hl.1;refine⟨?_,?_,?_,?_,?_⟩
 ·rw[Akx hne];intro h;simp only at h ⊢
  by_cases hA:(t g).pv=0∧x+1=(t g).up∧(t x).fi=g+1
  ·rw[if_pos hA]at h ⊢;obtain⟨a,b,c,d⟩:=G.next h
   have hm:(t g).nx - 1≠g:=fun e=>by grind
   obtain⟨_,_,_,f4⟩:=X.first (by omega)
   simp_all[Akx,Apf]
  ·rw[if_neg hA]at h ⊢;obtain⟨a,b,c,d⟩:=X.first h
   have hm:(t x).fi - 1≠g:=fun e=>by grind
   rw[Akx hm];refine⟨Apf.2 ⟨hm,a⟩,?_,c,d⟩;simp only;rw[if_neg]
   ·exact b
   ·intro e
    have:=(G.next (by omega)).2.1
    grind
 ·rw[Akx hne];intro h;simp only at h ⊢
  by_cases hA:x+1=(t g).pv
  ·rw[if_pos hA]at h ⊢;obtain⟨a,b,c,d⟩:=G.next h
   have hm:(t g).nx - 1≠g:=fun e=>by grind
   obtain⟨_,p2⟩:=G.prev (by omega)
   rw[←hA,Int.add_sub_cancel]at p2;obtain⟨_,_,q3,q4⟩:=X.next (by omega)
   simp_all[Akx,Apf]
  ·rw[if_neg hA]at h ⊢;obtain⟨a,b,c,d⟩:=X.next h
   have hm:(t x).nx - 1≠g:=fun e=>by grind
   rw[Akx hm];refine⟨Apf.2 ⟨hm,a⟩,?_,c,d⟩;simp only;rw[if_neg]
   ·exact b
   ·intro e
    have:=(G.next (by omega)).2.1
    grind
 ·rw[Akx hne];intro h;simp only at h ⊢
  by_cases hA:x+1=(t g).nx
  ·rw[if_pos hA]at h ⊢;obtain⟨a,b⟩:=G.prev h
   have hm:(t g).pv - 1≠g:=fun e=>by grind
   simp_all[Akx,Apf]
  ·rw[if_neg hA]at h ⊢;obtain⟨a,b⟩:=X.prev h
   have hm:(t x).pv - 1≠g:=fun e=>by grind
   rw[Akx hm];refine⟨Apf.2 ⟨hm,a⟩,?_⟩;simp only;rw[if_neg]
   ·exact b
   ·intro e
    have:=(G.prev (by omega)).2
    grind
 ·rw[Akx hne];exact X.up
 ·intro h hc;obtain⟨c1,c2⟩:=(A00 hne).1 hc;rw[Akx hne]at h ⊢;simp only at h ⊢
  have hm:(t x).up - 1≠g:=by omega
  rw[Akx hm];simp only
  by_cases hA:x+1=(t g).nx
  ·rw[if_pos hA]at h;obtain⟨_,_,q3,q4⟩:=G.next (by omega)
   rw[←hA,Int.add_sub_cancel]at q3 q4
   have hcg:Cu N t g:=by grind [Cu]
   have:=G.top h hcg
   grind
  ·rw[if_neg hA]at h
   have:=X.top h c2;omega
theorem A7r (T:Aqm N t){g:Int}(hg:Lv N t g):Aqm N (rem t g):=by
 refine⟨fun k hk=>Blv T hg hk,fun k hk=> ?_,fun k h0 h1 h=> ?_⟩
 ·obtain⟨hne,hl⟩:=Apf.1 hk;obtain⟨r1,r2⟩:=T.rise k hl;obtain⟨_,c1,c2⟩:=Blt (t:=t) (t':=rem t g) (N:=N) (g:=g) (fun x hx=>by rw[Akx hx]) (by rw[A42]) N.toNat k
  refine⟨by omega,fun x hx hc=> ?_⟩
  by_cases e:x=g
  ·subst e;unfold Cu at hc;rw[A42]at hc
   have:=hc.1.1.1
   grind
  ·rcases c2 with c2|c2
   ·grind
   simp_all[A00]
 ·by_cases e:k=g
  ·simp_all[A42]
  ·rw[Akx e]at h ⊢;simp only at h ⊢;obtain⟨a,b,c,d⟩:=T.bare k h0 h1 h
   have G:=T.link g hg;refine⟨a,?_,?_,?_⟩
   ·rw[if_neg (fun q=>by have:=hg.1;omega)];exact b
   ·rw[if_neg]
    ·exact c
    ·intro q
     have:=(G.prev (by omega)).1.2
     grind
   ·rw[if_neg]
    ·exact d
    ·intro q
     have:=(G.next (by omega)).1.2
     grind
theorem Buz (T:Aqm N t){r:Int->Nat}(W:Wf N t r){g:Int}(hg:Lv N t g):Wf N (rem t g) r:=by
 intro x hx h;obtain⟨hne,hl⟩:=Apf.1 hx;rw[Akx hne]at h ⊢;simp only at h ⊢
 by_cases hA:x+1=(t g).nx
 ·rw[if_pos hA]at h ⊢
  have h1:=W g hg h
  have h2:=((T.link g hg).next (by have:=hl.1;omega)).2.1
  rw[←hA,Int.add_sub_cancel]at h2
  have h3:=W x hl (by have:=hg.1;omega)
  grind
 ·rw[if_neg hA]at h ⊢;exact W x hl h
end
section
variable (N:Int) (t:Int->Lk)
def kf (f:Int):List Int:=kids N t N.toNat (f - 1)
structure Bae (fs:List Int):Prop where
 nodup:(fs.flatMap (kf N t)).Nodup
 iff: ∀x,x∈fs.flatMap (kf N t) ↔ Oo N t x
 top: ∀f∈fs,f≠0->(0≤f - 1∧f - 1<N)∧(t (f - 1)).pv=0
inductive Dd (S:List Int):Int->Prop
 |base {y:Int}:y∈S->Dd S y
 |step {y:Int}:Lv N t y->Cu N t y->Dd S ((t y).up - 1)->Dd S y
inductive Al:Int->Prop
 |root {y:Int}:Lv N t y->(t y).up=0->Al y
 |step {y:Int}:Lv N t y->Cu N t y->Al ((t y).up - 1)->Al y
def Odr:List Int->List (Int×Int)->Prop
 |_,[]=>True
 |seen,e::q=>(∀y,Dd N t (kf N t e.2) y-> ∀x,Lv N t x->(t x).up=y+1-> ¬Cu N t x->x∈seen)∧(e.1≠0-> ∀x,Lv N t x->(t x).up=e.1->x∈seen++kf N t e.2)∧Odr (seen++kf N t e.2) q
structure Agw (qs:List (Int×Int)):Prop where
 tree:Aqm N t
 wf: ∃r,Wf N t r
 uw: ∃d:Int->Nat,∀x,Lv N t x->Cu N t x->d ((t x).up - 1)<d x
 kid:Bae N t (qs.map (·.2))
 ord:Odr N t [] qs
 gone: ∀x,Lv N t x->(t x).up≠0->(t ((t x).up - 1)).lv=true∨(t ((t x).up - 1)).gn=true
 ep: ∀x,Lv N t x->Lv N t ((t x).up - 1)->(t x).ue≤(t ((t x).up - 1)).ep
 slot: ∀e∈qs,e.1≠0->(t (e.1 - 1)).lv=false∧(t (e.1 - 1)).gn=true
end
section
variable {N:Int} {t:Int->Lk}
theorem Al.lv{y:Int}(h:Al N t y):Lv N t y:=by cases h<;>assumption
theorem Al.noOr{y:Int}(h:Al N t y): ¬Oo N t y:=by
 intro g;cases h with
 |root a b=>exact g.2.1 b
 |step a b c=>exact g.2.2 b
theorem Al.noDd{S:List Int}(hS: ∀x∈S,Oo N t x){y:Int}(h:Al N t y): ¬Dd N t S y:=by
 induction h with
 |root a b=>
  intro g;cases g with
  |base g=>exact(hS _ g).2.1 b
  |step g1 g2 g3=>have:=g2.1.1.1;omega
 |step a b c ih=>
  intro g;cases g with
  |base g=>exact(hS _ g).2.2 b
  |step g1 g2 g3=>grind
theorem Dd.in{S:List Int}(hS: ∀x∈S,0≤x∧x<N){y:Int}(h:Dd N t S y):0≤y∧y<N:=by
 cases h with
 |base h=>grind
 |step h _ _=>exact h.1
theorem Bfl{f x:Int}(h:x∈kf N t f):0≤x∧x<N:=Bad _ _ _ h
theorem Bae.or{fs:List Int}(h:Bae N t fs){f:Int}(hf:f∈fs){x:Int}(hx:x∈kf N t f):Oo N t x:=
 (h.iff x).1 (List.mem_flatMap.2 ⟨f,hf,hx⟩)
theorem sib (T:Aqm N t){g x:Int}(hg:Lv N t g)(h:x+1=(t g).pv)(hx:0≤x):Lv N t x∧(t g).up=(t x).up∧(t g).ue=(t x).ue:=by
 obtain⟨a,b⟩:=(T.link g hg).prev (by omega)
 rw[←h,Int.add_sub_cancel]at a b;obtain⟨_,_,c,d⟩:=(T.link x a).next (by rw[b];have:=hg.1;omega)
 rw[b,Int.add_sub_cancel]at c d;exact⟨a,c,d⟩
theorem Blw{g x:Int}(h1:(t g).up=(t x).up)(h2:(t g).ue=(t x).ue):Cu N t g ↔ Cu N t x:=by unfold Cu;rw[h1,h2]
theorem A15 (T:Aqm N t){r:Int->Nat}(W:Wf N t r){g:Int}(hg:Lv N t g)(x:Int):x∈kf N t (t g).fi ↔ Lv N t x∧(t x).up=g+1∧Cu N t x:=by
 unfold kf;rw[Bls T W hg];constructor
 ·simp_all[Cu]
 ·rintro⟨a,b,c⟩;refine⟨a,b,?_⟩
  have:=c.2
  grind
theorem Baf{g f:Int}(h: ∀x∈kf N t f,x≠g∧x+1≠(t g).pv):kf N (rem t g) f=kf N t f:=
 A2p _ _ fun x hx=>by
  obtain⟨a,b⟩:=h x hx
  simp_all[Akx]
theorem A1i (T:Aqm N t){r:Int->Nat}(W:Wf N t r){g:Int}(hg:Lv N t g):kf N (rem t g) (t g).fi=kf N t (t g).fi:=by
 refine Baf fun x hx=> ?_;obtain⟨a,b,c⟩:=(A15 T W hg x).1 hx;constructor
 ·grind [A3v]
 ·intro e;obtain⟨_,h1,h2⟩:=sib T hg e a.1.1;exact A3v T hg ((Blw h1 h2).2 c) (h1.trans b)
theorem Bag (T:Aqm N t){g f:Int}(hg:Lv N t g)(h:(0≤f - 1∧f - 1<N)∧(t (f - 1)).pv=0):(0≤f - 1∧f - 1<N)∧(rem t g (f - 1)).pv=0:=by
 refine⟨h.1,?_⟩
 by_cases e:f - 1=g
 ·rw[e,A42]
 ·rw[Akx e];simp only;rw[if_neg]
  ·exact h.2
  ·intro q
   have:=((T.link g hg).next (by omega)).2.1
   rw[←q,Int.add_sub_cancel,h.2]at this
   have:=hg.1;omega
theorem A83 (T:Aqm N t){g:Int}(hg:Lv N t g)(h:(t g).fi≠0):(0≤(t g).fi - 1∧(t g).fi - 1<N)∧(rem t g ((t g).fi - 1)).pv=0:=by
 obtain⟨a,b,_⟩:=(T.link g hg).first h;exact Bag T hg ⟨a.1,b⟩
theorem Aid{α:Type}{a b:List α}:(a++b).Nodup ↔ a.Nodup∧b.Nodup∧ ∀x∈a,x ∉ b:=by
 grind
theorem Avl{α β:Type}{l:List α}{f g:α->List β}(h: ∀x∈l,f x=g x):l.flatMap f=l.flatMap g:=by
 induction l with
 |nil=>rfl
 |cons x l ih=>rw[List.flatMap_cons,List.flatMap_cons,h x (by simp),ih fun y hy=>h y (by simp[hy])]
theorem A5t (T:Aqm N t){g:Int}(hg:Lv N t g)(ho: ¬Oo N t g){fs:List Int}(K:Bae N t fs){f:Int}(hf:f∈fs):kf N (rem t g) f=kf N t f:=by
 refine Baf fun x hx=> ?_
 have hx:=K.or hf hx;constructor
 ·grind
 ·intro e;obtain⟨_,h1,h2⟩:=sib T hg e hx.1.1.1;exact ho ⟨hg,h1 ▸ hx.2.1,fun c=>hx.2.2 ((Blw h1 h2).1 c)⟩
theorem Bhj (T:Aqm N t){r:Int->Nat}(W:Wf N t r){g:Int}(hg:Lv N t g)(ho: ¬Oo N t g){fs:List Int}(K:Bae N t fs):Bae N (rem t g) (fs++[(t g).fi]):=by
 have e:(fs++[(t g).fi]).flatMap (kf N (rem t g))=fs.flatMap (kf N t)++kf N t (t g).fi:=by
  grind [A1i,Avl,A5t]
 refine⟨?_,fun x=> ?_,fun f hf h0=> ?_⟩
 ·rw[e,Aid];exact⟨K.nodup,A3c T W _ hg,fun x h1 h2=>((K.iff x).1 h1).2.2 ((A15 T W hg x).1 h2).2.2⟩
 ·rw[e,Mj,K.iff,A15 T W hg,Blu hg.1.1];constructor
  ·grind [A3v]
  ·rintro⟨a,h|⟨b,c⟩⟩
   ·grind
   ·by_cases d:Cu N t x
    ·grind
    ·exact .inl ⟨b,by have:=hg.1.1;omega,d⟩
 ·rw[Mj,Pz]at hf;rcases hf with hf|rfl
  ·exact Bag T hg (K.top f hf h0)
  ·exact A83 T hg h0
theorem A43{f:Int}(h:0≤f - 1∧f - 1<N):f - 1∈kf N t f:=by
 unfold kf;obtain⟨m,hm⟩: ∃m,N.toNat=m+1:=⟨N.toNat - 1,by omega⟩
 rw[hm,kids,if_pos h];simp
theorem A4k (T:Aqm N t){r:Int->Nat}(W:Wf N t r){g:Int}(hg:Lv N t g):kf N t (g+1)=g::kf N t (t g).nx:=by
 unfold kf;obtain⟨m,hm⟩: ∃m,N.toNat=m+1:=⟨N.toNat - 1,by have:=hg.1;omega⟩
 rw[Int.add_sub_cancel,hm,kids,if_pos hg.1]
 congr 1
 rw[Bhg,List.take_of_length_le]
 by_cases h0:(t g).nx=0
 ·rw[h0,Axe];grind
 ·obtain⟨a,b,_⟩:=(T.link g hg).next h0
  have hr:=W _ a (by rw[b];have:=hg.1;omega)
  rw[b,Int.add_sub_cancel]at hr
  have hn:g ∉ kids N t (m+1) ((t g).nx - 1):=fun h=>by
   have:=(A82 T W (m+1) _ a).1 g h;omega
  have:=A64 (N:=N) (List.nodup_cons.2 ⟨hn,A4j T W (m+1) a⟩) (fun y hy=>by
   rcases Eg.1 hy with rfl|hy
   ·exact hg.1
   ·exact Bad _ _ y hy)
  grind
theorem Blx (T:Aqm N t){r:Int->Nat}(W:Wf N t r){g:Int}(hg:Lv N t g){fs:List Int}(K:Bae N t ((g+1)::fs)):
  (∀f∈(t g).nx::fs,kf N (rem t g) f=kf N t f)∧Bae N (rem t g) ((t g).fi::(t g).nx::fs):=by
 have h0:(t g).pv=0:=by have:=(K.top (g+1) (by simp) (by have:=hg.1;omega)).2;grind
 have ho:Oo N t g:=K.or (f:=g+1) (by simp) (by have:=A43 (N:=N) (t:=t) (f:=g+1) (by rw[Int.add_sub_cancel];exact hg.1);grind)
 have hnd:=K.nodup;rw[List.flatMap_cons,A4k T W hg]at hnd;rw[Z45,List.nodup_cons]at hnd
 have hold: ∀f∈(t g).nx::fs,kf N (rem t g) f=kf N t f:=fun f hf=>Baf fun x hx=>by
  refine⟨?_,fun e=>by have:=Bfl hx;omega⟩
  grind
 have e:((t g).fi::(t g).nx::fs).flatMap (kf N (rem t g))=kf N t (t g).fi++((t g).nx::fs).flatMap (kf N t):=by
  grind [A1i,Avl]
 have hsub: ∀x,x∈((t g).nx::fs).flatMap (kf N t) ↔ Oo N t x∧x≠g:=by
  intro x
  have:=K.iff x;rw[List.flatMap_cons,A4k T W hg,Z45,Eg]at this
  grind
 refine⟨hold,?_,fun x=> ?_,fun f hf h1=> ?_⟩
 ·rw[e,Aid];refine⟨A3c T W _ hg,by grind,fun x h1 h2=>((hsub x).1 h2).1.2.2 ((A15 T W hg x).1 h1).2.2⟩
 ·rw[e,Mj,hsub,A15 T W hg,Blu hg.1.1];constructor
  ·grind [A3v]
  ·rintro⟨a,h|⟨b,c⟩⟩
   ·grind
   ·by_cases d:Cu N t x
    ·grind
    ·exact .inr ⟨⟨b,by have:=hg.1.1;omega,d⟩,a⟩
 ·rcases Eg.1 hf with rfl|hf
  ·exact A83 T hg h1
  ·rcases Eg.1 hf with rfl|hf
   ·obtain⟨a,b,_⟩:=(T.link g hg).next h1
    have hm:(t g).nx - 1≠g:=fun q=>by grind
    refine⟨a.1,?_⟩
    simp_all[Akx]
   ·exact Bag T hg (K.top f (by simp[hf]) h1)
theorem A7s{t':Int->Lk}: ∀(q:List (Int×Int)) (seen seen':List Int),(∀e∈q,kf N t' e.2=kf N t e.2)→
  (∀e∈q,∀y,Dd N t' (kf N t' e.2) y->Dd N t (kf N t e.2) y∧ ∀x,Lv N t' x->(t' x).up=y+1-> ¬Cu N t' x->x∈seen'∨Lv N t x∧(t x).up=y+1∧ ¬Cu N t x)→
  (∀e∈q,e.1≠0-> ∀x,Lv N t' x->(t' x).up=e.1->x∈seen'∨Lv N t x∧(t x).up=e.1)→
  (∀x∈seen,Lv N t' x->x∈seen')->Odr N t seen q->Odr N t' seen' q:=by
 intro q
 induction q with
 |nil=>intros;trivial
 |cons e q ih=>
  intro seen seen' hk hd hsl hs h;obtain⟨h1,h2,h3⟩:=h
  have hke:=hk e (by simp)
  refine⟨fun y hy x hx hu hc=> ?_,fun h0 x hx hu=> ?_,?_⟩
  ·grind
  ·grind
  ·rw[hke];refine ih (seen++kf N t e.2) _ (fun f hf=>hk f (by simp[hf])) (fun f hf y hy=> ?_) (fun f hf h0 x hx hu=> ?_) (fun x hx hl=> ?_) h3
   all_goals grind
theorem Bfm: ∀(q:List (Int×Int)) (seen:List Int) (e:Int×Int),Odr N t seen q→
  (∀y,Dd N t (kf N t e.2) y-> ∀x,Lv N t x->(t x).up=y+1-> ¬Cu N t x->x∈seen++q.flatMap (fun e=>kf N t e.2))→
  (e.1≠0-> ∀x,Lv N t x->(t x).up=e.1->x∈(seen++q.flatMap (fun e=>kf N t e.2))++kf N t e.2)->Odr N t seen (q++[e]):=by
 intro q
 induction q with
 |nil=>intro seen e h h1 h2;rw[List.flatMap_nil,List.append_nil]at h1 h2;exact⟨h1,h2,trivial⟩
 |cons f q ih=>
  intro seen e h h1 h2;obtain⟨a,b,c⟩:=h;rw[List.flatMap_cons,←Z31]at h1 h2;exact⟨a,b,ih _ e c h1 h2⟩
theorem Bah{g:Int}{S:List Int}{y:Int}(h:Dd N (rem t g) S y):Dd N t S y:=by
 induction h with
 |base h=>exact .base h
 |step a b c ih=>
  obtain⟨h1,h2⟩:=Apf.1 a;rw[Akx h1]at ih;exact .step h2 ((A00 h1).1 b).2 ih
theorem A3d{g:Int}{S:List Int}(hS:g ∉ S){y:Int}(h:Dd N (rem t g) S y):y≠g:=by
 cases h with
 |base h=>grind
 |step a _ _=>exact(Apf.1 a).1
theorem A7t{qs qs':List (Int×Int)}(F:Agw N t qs){g:Int}(hg:Lv N t g)(hK:Bae N (rem t g) (qs'.map (·.2)))(hO:Odr N (rem t g) [] qs')(hs: ∀e∈qs',e.1≠0->e.1=g+1∨e.1∈qs.map (·.1)):Agw N (rem t g) qs':=by
 obtain⟨r,W⟩:=F.wf;obtain⟨d,U⟩:=F.uw;refine⟨A7r F.tree hg,⟨r,Buz F.tree W hg⟩,⟨d,fun x hx hc=> ?_⟩,hK,hO,fun x hx h=> ?_,fun x hx h=> ?_,fun e he h0=> ?_⟩
 ·obtain⟨h1,h2⟩:=Apf.1 hx;rw[Akx h1];exact U x h2 ((A00 h1).1 hc).2
 ·obtain⟨h1,h2⟩:=Apf.1 hx;rw[Akx h1]at h ⊢;simp only at h ⊢
  by_cases e:(t x).up - 1=g
  ·simp_all[A42]
  grind [Akx,Agw.gone]
 ·obtain⟨h1,h2⟩:=Apf.1 hx;rw[Akx h1]at h ⊢;simp only at h ⊢;obtain⟨h3,h4⟩:=Apf.1 h
  grind [Akx,Agw.ep]
 ·by_cases e1:e.1 - 1=g
  ·simp_all[A42]
  ·rw[Akx e1];rcases hs e he h0 with h|h
   ·omega
   ·obtain⟨a,ha,hb⟩:=Ey.1 h
    grind [Agw.slot]
theorem Bai{qs:List (Int×Int)}(F:Agw N t qs){g:Int}(hg:Al N t g):Agw N (rem t g) (qs++[(g+1,(t g).fi)]):=by
 obtain⟨r,W⟩:=F.wf
 have hl:=hg.lv
 have T:=F.tree
 have K:=F.kid
 have hK:=Bhj T W hl hg.noOr K;rw[show qs.map (·.2)++[(t g).fi]=(qs++[(g+1,(t g).fi)]).map (·.2)by simp]at hK
 have hold: ∀e∈qs,kf N (rem t g) e.2=kf N t e.2:=fun e he=>A5t T hl hg.noOr K (Ey.2 ⟨e,he,rfl⟩)
 have hgn: ∀e∈qs,g ∉ kf N t e.2:=fun e he h=>hg.noOr (K.or (Ey.2 ⟨e,he,rfl⟩) h)
 have hflat:qs.flatMap (fun e=>kf N (rem t g) e.2)=(qs.map (·.2)).flatMap (kf N t):=by
  grind [Avl]
 refine A7t F hl hK (Bfm _ _ _ (A7s qs [] [] hold (fun e he y hy=> ?_) (fun e he h0 x hx hu=> ?_) (fun x hx=>by cases hx) F.ord) (fun y hy x hx hu hc=> ?_) (fun _ x hx hu=> ?_)) (fun e he h0=> ?_)
 ·have hy2:=A3d (by grind) hy
  refine⟨by grind [Bah],fun x hx hu hc=> .inr ?_⟩
  simp_all[Apf,Akx,A00]
 ·simp_all[Apf,Akx]
 ·rw[Z38,hflat,K.iff];obtain⟨a,b⟩:=Apf.1 hx;rw[Akx a]at hu;simp only at hu;rw[A1i T W hl]at hy
  have hgc:g ∉ kf N t (t g).fi:=fun h=>by obtain⟨_,h2,h3⟩:=(A15 T W hl g).1 h;grind [A3v]
  have hy2:=A3d hgc hy
  have hy0:=Dd.in (fun x hx=>Bfl hx) hy;exact⟨b,by omega,fun h=>hc ((A00 a).2 ⟨by omega,h⟩)⟩
 ·rw[Z38,hflat,A1i T W hl,Mj,K.iff,A15 T W hl];obtain⟨a,b⟩:=Apf.1 hx;rw[Akx a]at hu;simp only at hu
  by_cases c:Cu N t x
  ·grind
  ·exact .inl ⟨b,by omega,c⟩
 grind
theorem Bca{qs:List (Int×Int)}{s g:Int}(F:Agw N t ((s,g+1)::qs))(h0:0≤g):Lv N t g∧(t g).pv=0∧Agw N (rem t g) ((g+1,(t g).fi)::(s,(t g).nx)::qs):=by
 obtain⟨r,W⟩:=F.wf
 have T:=F.tree
 have K:=F.kid;rw[Z8]at K;obtain⟨k1,k2⟩:=K.top (g+1) (by simp) (by omega)
 have hgm:g∈kf N t (g+1):=by have:=A43 (N:=N) (t:=t) k1;grind
 have ho:Oo N t g:=K.or (f:=g+1) (by simp) hgm
 have hl:=ho.1;rw[Int.add_sub_cancel]at k2;obtain⟨hold,hK⟩:=Blx T W hl K;obtain⟨o1,o2,o3⟩:=F.ord;simp only[Z38]at o1 o2 o3
 have hsp:=A4k T W hl
 have hgc:g ∉ kf N t (t g).fi:=fun h=>by obtain⟨_,h2,h3⟩:=(A15 T W hl g).1 h;grind [A3v]
 have hchild: ∀y,Dd N t (kf N t (t g).fi) y->Dd N t (kf N t (g+1)) y:=by
  intro y hy
  induction hy with
  |base h=>
   obtain⟨a,b,c⟩:=(A15 T W hl _).1 h;exact .step a c (by rw[b,Int.add_sub_cancel];exact .base hgm)
  |step a b c ih=>exact .step a b ih
 have hnone: ∀y,Dd N t (kf N t (g+1)) y-> ∀x,Lv N t x->(t x).up=y+1->Cu N t x:=fun y hy x hx hu=>Classical.byContradiction fun h=>by grind
 refine⟨hl,k2,A7t F hl hK ⟨fun y hy x hx hu hc=> ?_,fun _ x hx hu=> ?_,fun y hy x hx hu hc=> ?_,fun hs x hx hu=> ?_,?_⟩ (fun e he h1=> ?_)⟩
 ·exfalso;rw[A1i T W hl]at hy
  have hy2:=A3d hgc hy;obtain⟨a,b⟩:=Apf.1 hx;rw[Akx a]at hu;simp only at hu;exact hc ((A00 a).2 ⟨by omega,hnone y (hchild y (Bah hy)) x b hu⟩)
 ·rw[Z38,A1i T W hl,A15 T W hl];obtain⟨a,b⟩:=Apf.1 hx;rw[Akx a]at hu;simp only at hu;exact⟨b,hu,hnone g (.base hgm) x b hu⟩
 ·exfalso;rw[hold _ (by simp)]at hy
  have hgt:g ∉ kf N t (t g).nx:=by
   have:=K.nodup
   grind
  have hy2:=A3d hgt hy;obtain⟨a,b⟩:=Apf.1 hx;rw[Akx a]at hu;simp only at hu
  have hd:Dd N t (kf N t (g+1)) y:=by
   have:=Bah hy;rw[hsp];clear hy hu
   induction this with
   |base h=>exact .base (Z56 _ h)
   |step a b c ih=>
    exact .step a b (Classical.byCases (fun e:(t _).up - 1=g=>by rw[e];exact .base (by simp)) (fun e=>ih e))
  exact hc ((A00 a).2 ⟨by omega,hnone y hd x b hu⟩)
 ·rw[Z38,A1i T W hl,hold _ (by simp)]
  obtain⟨a,b⟩:=Apf.1 hx;rw[Akx a]at hu
  grind
 ·rw[Z38,A1i T W hl,hold _ (by simp)]
  have hq: ∀e∈qs,e.2∈(t g).nx::qs.map (·.2):=fun e he=>Z56 _ (Ey.2 ⟨e,he,rfl⟩)
  have hnd:=K.nodup;rw[List.flatMap_cons,hsp,Z45,List.nodup_cons]at hnd;refine A7s qs (kf N t (g+1)) _ (fun e he=>hold _ (hq e he)) (fun e he y hy=> ?_) (fun e he _ x hx hu=> ?_) (fun x hx hl'=> ?_) o3
  ·rw[hold _ (hq e he)]at hy
   have hy2:=A3d (fun h=>hnd.1 (List.mem_append_right _ (List.mem_flatMap.2 ⟨e.2,Ey.2 ⟨e,he,rfl⟩,h⟩))) hy;refine⟨Bah hy,fun x hx hu hc=> .inr ?_⟩;obtain⟨a,b⟩:=Apf.1 hx
   simp_all[Akx,A00]
  ·simp_all[Apf,Akx]
  ·rw[hsp]at hx;rcases Eg.1 hx with h|h
   ·exact absurd h (Apf.1 hl').1
   grind
 grind
end
section
variable {N:Int} {t:Int->Lk}
def emp (t:Int->Lk)(k x:Int):Lk:=if x=k then⟨(t k).lv,(t k).gn,(t k).ep+1,(t k).up,(t k).ue,0,(t k).nx,(t k).pv⟩else t x
theorem A84{k:Int}:emp t k k=⟨(t k).lv,(t k).gn,(t k).ep+1,(t k).up,(t k).ue,0,(t k).nx,(t k).pv⟩:=if_pos rfl
theorem A6i{k x:Int}(h:x≠k):emp t k x=t x:=if_neg h
theorem Agn (k x:Int):(emp t k x).lv=(t x).lv∧(emp t k x).gn=(t x).gn∧(emp t k x).up=(t x).up∧(emp t k x).ue=(t x).ue∧(emp t k x).nx=(t x).nx∧(emp t k x).pv=(t x).pv:=by
 by_cases h:x=k
 all_goals simp_all[A84,A6i]
theorem Aqu{k x:Int}:Lv N (emp t k) x ↔ Lv N t x:=by simp_all[Lv,Agn]
theorem A4l (hE: ∀x,Lv N t x->Lv N t ((t x).up - 1)->(t x).ue≤(t ((t x).up - 1)).ep){k x:Int}(hx:Lv N t x):Cu N (emp t k) x ↔ (t x).up≠k+1∧Cu N t x:=by
 unfold Cu;rw[Aqu,(Agn k x).2.2.1,(Agn k x).2.2.2.1]
 by_cases h:(t x).up - 1=k
 ·grind [A84]
 ·rw[A6i h]
  grind
theorem A44{k x:Int}(hx:(t x).up≠k+1):Cu N (emp t k) x ↔ Cu N t x:=by
 unfold Cu;rw[Aqu,(Agn k x).2.2.1,(Agn k x).2.2.2.1,A6i (by omega)]
theorem A7u (k f:Int):kf N (emp t k) f=kf N t f:=A2p _ _ fun x _=>(Agn k x).2.2.2.2.1
theorem Bly (k:Int)(n:Nat)(x:Int):rise N (emp t k) n x=rise N t n x:=A1h _ _ fun x _=>(Agn k x).2.2.1
theorem Blz (T:Aqm N t)(hE: ∀x,Lv N t x->Lv N t ((t x).up - 1)->(t x).ue≤(t ((t x).up - 1)).ep){k:Int}(hk:Lv N t k):Aqm N (emp t k):=by
 refine⟨fun x hx=> ?_,fun x hx=> ?_,fun x h0 h1 h=> ?_⟩
 ·have hl:=Aqu.1 hx
  have X:=T.link x hl;obtain⟨s1,s2,s3,s4,s5,s6⟩:=Agn (t:=t) k x;refine⟨fun h=> ?_,fun h=> ?_,fun h=> ?_,fun h=> ?_,fun h hc=> ?_⟩
  ·by_cases e:x=k
   ·simp_all[A84]
   ·rw[A6i e]at h ⊢;obtain⟨a,b,c,d⟩:=X.first h;obtain⟨q1,q2,q3,q4,q5,q6⟩:=Agn (t:=t) k ((t x).fi - 1)
    grind [Aqu]
  ·rw[s5]at h ⊢;obtain⟨q1,q2,q3,q4,q5,q6⟩:=Agn (t:=t) k ((t x).nx - 1)
   grind [Aqu,A38.next]
  ·rw[s6]at h ⊢;rw[Aqu,(Agn k _).2.2.2.2.1];exact X.prev h
  ·rw[s3]at h ⊢;exact X.up h
  ·rw[s6]at h;obtain⟨a,b⟩:=(A4l hE hl).1 hc
   grind [A6i,A38.top]
 ·have hl:=Aqu.1 hx;rw[Bly];obtain⟨a,b⟩:=T.rise x hl;refine⟨a,fun y hy hc=> ?_⟩
  have hy2:=b y hy
  by_cases e:Lv N t y
  ·simp_all[A4l]
  ·have hin:=Azi _ _ y (List.mem_of_getLast? hy)
   have:=(T.bare y hin.1 hin.2 (by cases q:(t y).lv with|false=>rfl|true=>exact absurd ⟨hin,q⟩ e)).1
   unfold Cu at hc;rw[(Agn k y).2.2.1,this]at hc
   have:=hc.1.1.1;omega
 ·by_cases e:x=k
  ·subst e;rw[A84]at h;have:=hk.2;grind
  grind [A6i,Aqm.bare]
theorem Bl0 (hE: ∀x,Lv N t x->Lv N t ((t x).up - 1)->(t x).ue≤(t ((t x).up - 1)).ep){k x:Int}(hk:0≤k):Oo N (emp t k) x ↔ Oo N t x∨Lv N t x∧(t x).up=k+1:=by
 unfold Oo;rw[Aqu,(Agn k x).2.2.1];constructor
 ·rintro⟨a,b,c⟩
  by_cases e:(t x).up=k+1
  all_goals simp_all[A4l]
 ·rintro(⟨a,b,c⟩|⟨a,b⟩)
  ·simp_all[A4l]
  ·exact⟨a,by omega,fun d=>((A4l hE a).1 d).1 b⟩
theorem Baj{qs:List (Int×Int)}(F:Agw N t qs){k:Int}(hg:Al N t k):Agw N (emp t k) (qs++[(0,(t k).fi)]):=by
 obtain⟨r,W⟩:=F.wf;obtain⟨d,U⟩:=F.uw
 have hl:=hg.lv
 have T:=F.tree
 have K:=F.kid
 have hE:=F.ep
 have hflat:qs.flatMap (fun e=>kf N (emp t k) e.2)=(qs.map (·.2)).flatMap (kf N t):=by
  simp_all[List.flatMap_map,A7u]
 have hfl2:((qs++[((0:Int),(t k).fi)]).map (fun e:Int×Int=>e.2)).flatMap (kf N (emp t k))=(qs.map (·.2)).flatMap (kf N t)++kf N t (t k).fi:=by
  grind [List.flatMap_map,A7u]
 refine⟨Blz T hE hl,⟨r,fun x hx h=> ?_⟩,⟨d,fun x hx hc=> ?_⟩,⟨?_,fun x=> ?_,fun f hf h0=> ?_⟩,Bfm _ _ _ (A7s qs [] [] (fun e _=>A7u k e.2) (fun e he y hy=> ?_) (fun e he _ x hx hu=> ?_) (fun x hx=>by cases hx) F.ord) (fun y hy x hx hu hc=> ?_) (fun h=>absurd rfl h),fun x hx h=> ?_,fun x hx h=> ?_,fun e he h0=> ?_⟩
 ·rw[(Agn k x).2.2.2.2.2]at h ⊢;exact W x (Aqu.1 hx) h
 ·simp_all[Agn,Aqu,A4l]
 ·rw[hfl2,Aid];exact⟨K.nodup,A3c T W _ hl,fun x h1 h2=>((K.iff x).1 h1).2.2 ((A15 T W hl x).1 h2).2.2⟩
 ·rw[hfl2,Mj,K.iff,A15 T W hl,Bl0 hE hl.1.1];constructor
  ·grind
  ·rintro(h|⟨b,c⟩)
   ·grind
   ·by_cases d:Cu N t x
    ·grind
    ·exact .inl ⟨b,by have:=hl.1.1;omega,d⟩
 ·rw[(Agn k _).2.2.2.2.2];rw[Vu,Mj]at hf;rcases hf with hf|hf
  ·exact K.top f hf h0
  ·simp only[Z8,P3,Pz]at hf;subst hf;obtain⟨a,b,_⟩:=(T.link k hl).first h0;exact⟨a.1,b⟩
 ·have hor: ∀x∈kf N t e.2,Oo N t x:=fun x hx=>K.or (Ey.2 ⟨e,he,rfl⟩) hx
  have hy2:Dd N t (kf N t e.2) y:=by
   rw[A7u]at hy
   induction hy with
   |base h=>exact .base h
   |step a b c ih=>
    rw[(Agn k _).2.2.1]at ih;exact .step (Aqu.1 a) ((A4l hE (Aqu.1 a)).1 b).2 ih
  refine⟨hy2,fun x hx hu hc=> .inr ?_⟩;rw[(Agn k x).2.2.1]at hu
  have hne:y≠k:=fun q=>hg.noDd hor (q ▸ hy2)
  simp_all[Aqu,A44]
 ·simp_all[Agn,Aqu]
 ·rw[Z38,hflat,K.iff];rw[(Agn k x).2.2.1]at hu
  have hy0:=Dd.in (fun x hx=>Bfl hx) hy
  have hal:Al N (emp t k) k:=by
   clear hy hu hc hx;cases hg with
   |root a b=>exact .root (Aqu.2 a) (by simp_all[Agn])
   |step a b c=>
    have key: ∀z,Al N t z->d z<d k->Al N (emp t k) z:=by
     intro z hz
     induction hz with
     |root a b=>intro _;exact .root (Aqu.2 a) (by simp_all[Agn])
     | @step z a b c ih=>
      intro h1
      have h2:=U z a b
      have hne:(t z).up≠k+1:=fun q=>by grind
      exact .step (Aqu.2 a) ((A44 hne).2 b) (by rw[(Agn k _).2.2.1];grind)
    have h2:=U k a b
    have hne:(t k).up≠k+1:=fun q=>by grind
    exact .step (Aqu.2 a) ((A44 hne).2 b) (by simp_all[Agn])
  have hne:y≠k:=fun q=>by
   refine hal.noDd (S:=kf N (emp t k) (t k).fi) (fun z hz=> ?_) (q ▸ hy);rw[A7u,A15 T W hl]at hz
   simp_all[Bl0]
  exact⟨Aqu.1 hx,by omega,fun h=>hc ((A44 (by omega)).2 h)⟩
 ·rw[(Agn k x).2.2.1]at h ⊢;rw[(Agn k _).1,(Agn k _).2.1];exact F.gone x (Aqu.1 hx) h
 ·rw[(Agn k x).2.2.1]at h ⊢;rw[(Agn k x).2.2.2.1]
  have:=hE x (Aqu.1 hx) (Aqu.1 h)
  by_cases e:(t x).up - 1=k
  all_goals grind [A84,A6i]
 ·rw[(Agn k _).1,(Agn k _).2.1];rcases Mj.1 he with he|he
  ·exact F.slot e he h0
  ·rw[Pz]at he;rw[he]at h0;exact absurd rfl h0
def clr (t:Int->Lk)(k x:Int):Lk:=if x=k then⟨false,false,0,0,0,0,0,0⟩else t x
theorem A7v{qs:List (Int×Int)}{s:Int}(F:Agw N t ((s,0)::qs)):Agw N t qs:=by
 obtain⟨o1,o2,o3⟩:=F.ord
 have h0:kf N t 0=[]:=Axe _
 have K:=F.kid;simp only[h0,List.append_nil]at o3;refine⟨F.tree,F.wf,F.uw,?_,o3,F.gone,F.ep,fun e he=>F.slot e (Z56 _ he)⟩;refine⟨?_,fun x=> ?_,fun f hf=>K.top f (Z56 _ hf)⟩
 ·have:=K.nodup;grind
 ·have:=K.iff x;grind
theorem Avm{k:Int}(h:(t k).lv=false){x:Int}:Lv N (clr t k) x ↔ Lv N t x:=by
 unfold Lv clr
 grind
theorem Alb{k:Int}(h:(t k).lv=false){x:Int}(hx:Lv N t x):clr t k x=t x:=by
 unfold clr;rw[if_neg];intro e;subst e
 have:=hx.2
 grind
theorem A5u{k:Int}(h:(t k).lv=false){x:Int}(hx:Lv N t x):Cu N (clr t k) x ↔ Cu N t x:=by
 grind [Cu,Alb,Avm]
theorem Bak{qs:List (Int×Int)}{s:Int}(F:Agw N t ((s,0)::qs))(h0:s≠0)(hs: ∀e∈qs,e.1≠s):Agw N (clr t (s - 1)) qs:=by
 have F':=A7v F;obtain⟨r,W⟩:=F.wf;obtain⟨d,U⟩:=F.uw
 have T:=F.tree
 have K:=F'.kid;obtain⟨hlv,hgn⟩:=F.slot (s,0) (by simp) h0
 simp only at hlv hgn
 have hno: ∀x,Lv N t x->(t x).up≠s:=fun x hx e=>by
  have:=F.ord.2.1 h0 x hx e;rw[show kf N t ((s,(0:Int)).2)=[] from Axe _]at this
  cases this
 have hnl: ∀x,x≠s - 1->clr t (s - 1) x=t x:=fun x h=>if_neg h
 have hup: ∀x,(0≤x∧x<N)->(clr t (s - 1) x).up=(t x).up:=fun x h=>by
  by_cases e:x=s - 1
  ·subst e;rw[(T.bare _ h.1 h.2 hlv).1];simp_all[clr]
  grind
 have hri: ∀n x,rise N (clr t (s - 1)) n x=rise N t n x:=fun n x=>A1h n x fun y hy=>hup y (Azi _ _ y hy)
 have hkf: ∀f∈qs.map (·.2),kf N (clr t (s - 1)) f=kf N t f:=fun f hf=>A2p _ _ fun x hx=>by rw[Alb hlv (K.or hf hx).1]
 have hor: ∀x,Oo N (clr t (s - 1)) x ↔ Oo N t x:=fun x=>by
  grind [Oo,Avm,Alb,A5u]
 have hdd: ∀S y,Dd N (clr t (s - 1)) S y->Dd N t S y:=fun S y h=>by
  induction h with
  |base h=>exact .base h
  |step a b c ih=>
   have a:=(Avm hlv).1 a;rw[Alb hlv a]at ih;exact .step a ((A5u hlv a).1 b) ih
 refine⟨⟨fun x hx=> ?_,fun x hx=> ?_,fun x h0 h1 h=> ?_⟩,⟨r,fun x hx h=> ?_⟩,⟨d,fun x hx hc=> ?_⟩,⟨?_,fun x=> ?_,fun f hf h1=> ?_⟩,?_,fun x hx h=> ?_,fun x hx h=> ?_,fun e he h1=> ?_⟩
 ·have hl:=(Avm hlv).1 hx
  have X:=T.link x hl;refine⟨fun h=> ?_,fun h=> ?_,fun h=> ?_,fun h=> ?_,fun h hc=> ?_⟩
  ·rw[Alb hlv hl]at h ⊢
   have a:=(X.first h).1
   grind [Avm,Alb,A38.first]
  ·rw[Alb hlv hl]at h ⊢
   have a:=(X.next h).1
   grind [Avm,Alb,A38.next]
  ·rw[Alb hlv hl]at h ⊢
   have a:=(X.prev h).1
   grind [Avm,Alb,A38.prev]
  ·grind [Alb,A38.up]
  ·have hc:=(A5u hlv hl).1 hc;rw[Alb hlv hl]at h ⊢;rw[Alb hlv hc.1];exact X.top h hc
 ·have hl:=(Avm hlv).1 hx;rw[hri];obtain⟨a,b⟩:=T.rise x hl;refine⟨a,fun y hy hc=>b y hy ?_⟩;unfold Cu at hc ⊢;rw[hup y (Azi _ _ y (List.mem_of_getLast? hy)),Avm hlv]at hc;refine⟨hc.1,?_⟩;rw[←Alb hlv hc.1,hc.2]
  by_cases e:y=s - 1
  ·subst e
   have hin:=Azi _ _ _ (List.mem_of_getLast? hy)
   have:=(T.bare _ hin.1 hin.2 hlv).1;rw[this]at hc
   have:=hc.1.1.1;omega
  grind
 ·by_cases e:x=s - 1
  ·simp_all[clr]
  grind [Aqm.bare]
 ·have hl:=(Avm hlv).1 hx;rw[Alb hlv hl]at h ⊢;exact W x hl h
 ·have hl:=(Avm hlv).1 hx;rw[Alb hlv hl];simp_all[A5u]
 ·rw[Avl hkf];exact K.nodup
 ·rw[Avl hkf,K.iff,hor]
 ·obtain⟨a,b⟩:=K.top f hf h1;refine⟨a,?_⟩;rw[Alb hlv (K.or hf (A43 a)).1];exact b
 ·have hk: ∀e∈qs,kf N (clr t (s - 1)) e.2=kf N t e.2:=fun e he=>hkf _ (Ey.2 ⟨e,he,rfl⟩);refine A7s qs [] [] hk (fun e he y hy=>⟨by grind,fun x hx hu hc=> ?_⟩) (fun e he h1 x hx hu=> ?_) (fun x hx=>by cases hx) F'.ord
  ·have hl:=(Avm hlv).1 hx;rw[Alb hlv hl]at hu
   simp_all[A5u]
  ·have hl:=(Avm hlv).1 hx
   grind [Alb]
 ·have hl:=(Avm hlv).1 hx
  grind [Alb,Agw.gone]
 ·have hl:=(Avm hlv).1 hx;rw[Alb hlv hl]at h ⊢
  have h2:=(Avm hlv).1 h
  grind [Agw.ep]
 grind [Agw.slot]
end
section
variable {N:Int} {t:Int->Lk}
def ins (t:Int->Lk)(k p x:Int):Lk:=
 if x=k then⟨true,false,0,p+1,if p+1=0 then 0 else(t p).ep,0,if p+1=0 then 0 else(t p).fi,0⟩
 else⟨(t x).lv,(t x).gn,(t x).ep,(t x).up,(t x).ue,if x=p then k+1 else(t x).fi,(t x).nx,if p+1≠0∧x+1=(t p).fi then k+1 else(t x).pv⟩
theorem Av0{k p:Int}:ins t k p k=⟨true,false,0,p+1,if p+1=0 then 0 else(t p).ep,0,if p+1=0 then 0 else(t p).fi,0⟩:=if_pos rfl
theorem Atn{k p x:Int}(h:x≠k):ins t k p x=⟨(t x).lv,(t x).gn,(t x).ep,(t x).up,(t x).ue,if x=p then k+1 else(t x).fi,(t x).nx,if p+1≠0∧x+1=(t p).fi then k+1 else(t x).pv⟩:=if_neg h
theorem Bl1: ∀(n:Nat) (x y:Int),y∈rise N t n x->y=x∨ ∃z,z∈rise N t n x∧(t z).up - 1=y:=by
 intro n
 induction n with
 |zero=>intro x y h;cases h
 |succ n ih=>
  intro x y h;rw[rise]at h ⊢
  grind
theorem Bfn{d:Int->Nat}(U: ∀x,Lv N t x->Cu N t x->d ((t x).up - 1)<d x): ∀(n:Nat) (x:Int),Al N t x->(∀y∈rise N t n x,d y≤d x∧Al N t y)∧(rise N t n x).Pairwise (fun a b=>d b<d a):=by
 intro n
 induction n with
 |zero=>intro x _;exact⟨fun y h=>(by cases h),.nil⟩
 |succ n ih=>
  intro x hx;rw[rise,if_pos hx.lv.1];cases hx with
  |root a b=>
   have:rise N t n ((t x).up - 1)=[]:=by rw[b];cases n with|zero=>rfl|succ n=>rfl
   rw[this];exact⟨fun y h=>by rw[Pz.1 h];exact⟨Z9 _,.root a b⟩,List.pairwise_singleton ..⟩
  |step a b c=>
   obtain⟨i1,i2⟩:=ih _ c
   have h2:=U x a b;refine⟨fun y h=> ?_,List.pairwise_cons.2 ⟨fun y h=> ?_,i2⟩⟩
   ·rcases Eg.1 h with rfl|h
    ·exact⟨Z9 _,.step a b c⟩
    grind
   grind
theorem Bcb{qs:List (Int×Int)}(F:Agw N t qs){k p:Int}(hk:0≤k∧k<N)(hlv:(t k).lv=false)(hgn:(t k).gn=false)(hp:p= -1∨Al N t p∧(rise N t N.toNat p).length<4):Agw N (ins t k p) qs:=by
 obtain⟨r,W⟩:=F.wf;obtain⟨d,U⟩:=F.uw
 have T:=F.tree
 have K:=F.kid
 have hne: ∀ {x},Lv N t x->x≠k:=fun {x} h e=>by subst e;rw[h.2]at hlv;cases hlv
 have hno: ∀x,Lv N t x->(t x).up≠k+1:=fun x hx e=>by
  rcases F.gone x hx (by omega)with h|h
  all_goals grind
 have hp0:p+1≠0->Al N t p:=fun h=>by
  grind
 have hp1: ∀x,Lv N t x->x=p->p+1≠0:=fun x hx e=>by have:=hx.1.1;omega
 have L: ∀x,Lv N (ins t k p) x ↔ x=k∨Lv N t x:=fun x=>by
  unfold Lv
  by_cases e:x=k
  all_goals grind [Av0,Atn]
 have hL: ∀ {x},Lv N t x->Lv N (ins t k p) x:=fun h=>(L _).2 (.inr h)
 have hup: ∀x,x≠k->(ins t k p x).up=(t x).up:=fun x h=>by rw[Atn h]
 have C: ∀x,x≠k->(t x).up≠k+1->(Cu N (ins t k p) x ↔ Cu N t x):=fun x h h1=>by
  unfold Cu;rw[L,hup x h,Atn (x:=(t x).up - 1) (by omega),Atn h]
  grind
 have Ck:p+1≠0->Cu N (ins t k p) k:=fun h=>by
  simp_all[Al.lv,Cu,Av0,Atn]
 have Cn:p+1=0-> ¬Cu N (ins t k p) k:=fun h c=>by
  unfold Cu at c;rw[Av0]at c
  grind
 have hkf: ∀f∈qs.map (·.2),kf N (ins t k p) f=kf N t f:=fun f hf=>A2p _ _ fun x hx=>by rw[Atn (hne (K.or hf hx).1)]
 have hor: ∀x,Oo N (ins t k p) x ↔ Oo N t x:=fun x=>by
  unfold Oo;rw[L]
  by_cases e:x=k
  ·subst e;constructor
   ·grind [Av0]
   grind
  grind
 have hrk: ∀x,Lv N t x-> ∀n,k ∉ rise N t n x:=fun x hx n h=>by
  rcases Bl1 _ _ _ h with h|⟨z,h1,h2⟩
  ·grind
  ·by_cases hz:(t z).lv=true
   ·exact hno z ⟨Azi _ _ _ h1,hz⟩ (by omega)
   ·have:=Azi _ _ _ h1
    have:=(T.bare z this.1 this.2 (by grind)).1
    omega
 have hri: ∀x,Lv N t x-> ∀n,rise N (ins t k p) n x=rise N t n x:=fun x hx n=>A1h n x fun y hy=>hup y fun e=>hrk x hx n (e ▸ hy)
 have hlast: ∀x,Lv N t x-> ∀y,(rise N t N.toNat x).getLast? =some y-> ¬Cu N (ins t k p) y:=fun x hx y hy hc=>by
  have hm:=List.mem_of_getLast? hy
  have hyk:y≠k:=fun e=>hrk x hx _ (e ▸ hm)
  have hin:=Azi _ _ _ hm
  by_cases hz:(t y).lv=true
  ·exact(T.rise x hx).2 y hy ((C y hyk (hno y ⟨hin,hz⟩)).1 hc)
  ·have:=(T.bare y hin.1 hin.2 (by grind)).1
   unfold Cu at hc;rw[hup y hyk,this]at hc
   have:=hc.1.1.1;omega
 obtain⟨m,hm⟩: ∃m,N.toNat=m+1:=⟨N.toNat - 1,by omega⟩
 have hpk:p+1≠0->rise N (ins t k p) N.toNat k=k::rise N t N.toNat p:=fun h=>by
  have ha:=hp0 h;rw[hm,rise,if_pos hk,Av0];simp only;rw[Int.add_sub_cancel,hri p ha.lv,←hm]
  congr 1
  rw[hm,Bhi,List.take_of_length_le];obtain⟨i1,i2⟩:=Bfn U (m+1) p ha
  have:=A64 (N:=N) (List.nodup_cons.2 ⟨hrk p ha.lv (m+1),i2.imp fun h e=>by grind⟩) (fun y hy=>by
   rcases Eg.1 hy with rfl|hy
   ·exact hk
   ·exact Azi _ _ y hy)
  grind
 refine⟨⟨fun x hx=> ?_,fun x hx=> ?_,fun x h0 h1 h=> ?_⟩,⟨fun x=>if x=k then 0 else r x+1,fun x hx h=> ?_⟩,⟨fun x=>if x=k then d p+1 else d x,fun x hx hc=> ?_⟩,⟨?_,fun x=> ?_,fun f hf h1=> ?_⟩,?_,fun x hx h=> ?_,fun x hx h=> ?_,fun e he h1=> ?_⟩
 ·by_cases e:x=k
  ·subst e;refine⟨fun h=> ?_,fun h=> ?_,fun h=> ?_,fun h=> ?_,fun h hc=> ?_⟩
   ·simp_all[Av0]
   ·rw[Av0]at h ⊢;simp only at h ⊢
    by_cases hq:p+1=0
    ·omega
    ·rw[if_neg hq]at h ⊢;rw[if_neg hq];obtain⟨a,b,c,e⟩:=(T.link p (hp0 hq).lv).first h
     simp_all[Atn]
   ·simp_all[Av0]
   ·rw[Av0]at h ⊢;simp only at h ⊢;rw[Int.add_sub_cancel];exact(hp0 h).lv.1
   ·by_cases hq:p+1=0
    ·grind
    ·rw[Av0];simp only;rw[Int.add_sub_cancel,Atn (hne (hp0 hq).lv)];simp
  ·have hl:=((L x).1 hx).resolve_left e
   have X:=T.link x hl;refine⟨fun h=> ?_,fun h=> ?_,fun h=> ?_,fun h=> ?_,fun h hc=> ?_⟩
   ·rw[Atn e]at h ⊢;simp only at h ⊢
    by_cases hq:x=p
    ·have hq1:=hp1 x hl hq;rw[if_pos hq,Int.add_sub_cancel,Av0]
     grind
    ·rw[if_neg hq]at h ⊢;obtain⟨a,b,c,f⟩:=X.first h;rw[Atn (hne a)];simp only;rw[if_neg]
     ·grind
     ·rintro⟨g1,g2⟩
      have:=((T.link p (hp0 g1).lv).first (by omega)).2.2.1
      grind
   ·rw[Atn e]at h ⊢;simp only at h ⊢;obtain⟨a,b,c,f⟩:=X.next h;rw[Atn (hne a)];simp only;rw[if_neg]
    ·grind
    ·rintro⟨g1,g2⟩
     have:=((T.link p (hp0 g1).lv).first (by omega)).2.1
     rw[←g2,Int.add_sub_cancel]at this
     have:=hl.1;omega
   ·rw[Atn e]at h ⊢;simp only at h ⊢
    by_cases hq:p+1≠0∧x+1=(t p).fi
    ·rw[if_pos hq,Int.add_sub_cancel,Av0]
     grind
    ·rw[if_neg hq]at h ⊢
     grind [A38.prev,Atn]
   ·rw[Atn e]at h ⊢;exact X.up h
   ·have hc:=(C x e (hno x hl)).1 hc;rw[Atn e]at h ⊢;simp only at h ⊢
    by_cases hq:p+1≠0∧x+1=(t p).fi
    ·omega
    ·rw[if_neg hq]at h
     have:=X.top h hc;rw[Atn (hne hc.1)];simp only;rw[if_neg]
     ·exact this
     ·intro g;rw[g]at this;exact hq ⟨hp1 _ hc.1 g,by omega⟩
 ·by_cases e:x=k
  ·subst e
   by_cases hq:p+1=0
   ·have:rise N (ins t x p) N.toNat x=[x]:=by
     rw[hm,rise,if_pos hk,Av0];simp only;rw[hq];cases m with
     |zero=>rfl
     |succ m=>rfl
    simp_all
   ·rw[hpk hq];rcases hp with rfl|hp
    ·omega
    ·refine⟨by grind,fun y hy=> ?_⟩
     have:rise N t N.toNat p≠[]:=by rw[hm,rise,if_pos hp.1.lv.1];simp
     rw[List.getLast?_cons]at hy;refine hlast p hp.1.lv y ?_
     simp_all[rise,List.getLast?_cons]
  ·have hl:=((L x).1 hx).resolve_left e;rw[hri x hl];exact⟨(T.rise x hl).1,hlast x hl⟩
 ·by_cases e:x=k
  ·grind [Av0]
  ·rw[Atn e]at h ⊢;simp only at h ⊢;obtain⟨a,b,c,f⟩:=T.bare x h0 h1 h;refine⟨a,?_,c,?_⟩
   ·rw[if_neg]
    ·exact b
    ·intro g
     have:=(hp0 (by omega)).lv.2
     grind
   ·rw[if_neg]
    ·exact f
    ·rintro⟨g1,g2⟩
     have:=((T.link p (hp0 g1).lv).first (by omega)).1.2
     grind
 ·by_cases e:x=k
  ·simp_all[Av0]
  ·have hl:=((L x).1 hx).resolve_left e;rw[Atn e]at h ⊢;simp only at h ⊢;simp only[if_neg e]
   by_cases hq:p+1≠0∧x+1=(t p).fi
   ·grind
   ·rw[if_neg hq]at h ⊢;rw[if_neg (hne ((T.link x hl).prev h).1)]
    have:=W x hl h;omega
 ·by_cases e:x=k
  ·subst e
   by_cases hq:p+1=0
   all_goals simp_all[Av0,Al.lv]
  grind
 ·rw[Avl hkf];exact K.nodup
 ·rw[Avl hkf,K.iff,hor]
 ·obtain⟨a,b⟩:=K.top f hf h1
  have ho:=K.or hf (A43 (N:=N) (t:=t) a);refine⟨a,?_⟩;rw[Atn (hne ho.1)];simp only;rw[if_neg]
  ·exact b
  ·rintro⟨g1,g2⟩
   have hpl:=(hp0 g1).lv;obtain⟨_,_,c3,c4⟩:=(T.link p hpl).first (by omega)
   rw[←g2,Int.add_sub_cancel]at c3 c4;exact ho.2.2 (by simp_all[Cu])
 ·have hk2: ∀e∈qs,kf N (ins t k p) e.2=kf N t e.2:=fun e he=>hkf _ (Ey.2 ⟨e,he,rfl⟩);refine A7s qs [] [] hk2 (fun e he y hy=> ?_) (fun e he h1 x hx hu=> ?_) (fun x hx=>by cases hx) F.ord
  ·have hS: ∀x∈kf N t e.2,Oo N t x:=fun x hx=>K.or (Ey.2 ⟨e,he,rfl⟩) hx;rw[hk2 e he]at hy
   have hy2:Dd N t (kf N t e.2) y:=by
    induction hy with
    |base h=>exact .base h
    | @step y a b c ih=>
     by_cases q:y=k
     ·subst q
      by_cases hq:p+1=0
      all_goals simp_all[Av0,Al.noDd]
     ·have hl:=((L y).1 a).resolve_left q;rw[hup y q]at ih;exact .step hl ((C y q (hno y hl)).1 b) ih
   refine⟨hy2,fun x hx hu hc=> .inr ?_⟩
   by_cases q:x=k
   ·subst q
    by_cases hq:p+1=0
    ·rw[Av0]at hu;simp only at hu
     have:=Dd.in (fun x hx=>Bfl hx) hy2;omega
    grind
   grind
  ·by_cases q:x=k
   ·subst q;rw[Av0]at hu;simp only at hu
    have:=(hp0 (by omega)).lv.2
    have h3:=(F.slot e he h1).1
    grind
   grind
 ·by_cases e:x=k
  ·subst e;rw[Av0]at h ⊢;simp only at h ⊢;rw[Int.add_sub_cancel,Atn (hne (hp0 h).lv)];exact .inl (hp0 h).lv.2
  ·have hl:=((L x).1 hx).resolve_left e
   grind [Atn,Agw.gone]
 ·by_cases e:x=k
  ·subst e;rw[Av0]at h ⊢;simp only at h ⊢
   by_cases hq:p+1=0
   ·grind
   ·rw[if_neg hq,Int.add_sub_cancel,Atn (hne (hp0 hq).lv)]
    grind
  ·have hl:=((L x).1 hx).resolve_left e;rw[hup x e]at h ⊢
   have hu:=hno x hl
   have h2:=((L _).1 h).resolve_left (by omega)
   grind [Atn,Agw.ep]
 ·have:=F.slot e he h1
  have q:e.1 - 1≠k:=fun q=>by grind
  grind [Atn]
end
theorem sb1{x:Int}(h0: -1000000000≤x)(h1:x≤1000000000):An7 .i64 x 1=x - 1:=by unfold An7;rw[Ht (by omega) (by omega)]
theorem ad1{x:Int}(h0: -1000000000≤x)(h1:x≤1000000000):An6 .i64 x 1=x+1:=by unfold An6;rw[Ht (by omega) (by omega)]
def A3e (n:As):Lk:=⟨n.Vi==1,n.Vi==2,n.Sl,n.fUp,n.Sm,n.Ef,n.Sn,n.So⟩
def AtT (l:List As)(t:Int->Lk):Prop:= ∀k,0≤k∧k<(l.length:Int)->t k=A3e (gt l k)
structure Rg (l:List As):Prop where
 len:l.length≤8
 rg: ∀k,0≤k∧k<(l.length:Int)->(0≤(gt l k).fUp∧(gt l k).fUp≤l.length)∧(0≤(gt l k).Ef∧(gt l k).Ef≤l.length)∧(0≤(gt l k).Sn∧(gt l k).Sn≤l.length)∧(0≤(gt l k).So∧(gt l k).So≤l.length)
theorem Aul{l:List As}{t:Int->Lk}(A:AtT l t){k:Int}:Lv l.length t k ↔ (0≤k∧k<(l.length:Int))∧(gt l k).Vi=1:=by
 unfold Lv;constructor
 ·rintro⟨a,b⟩;rw[A _ a]at b;grind [A3e]
 ·rintro⟨a,b⟩;rw[A _ a];grind [A3e]
theorem Bl2{l:List As}{t:Int->Lk}(A:AtT l t)(R:Rg l): ∀(n:Nat) (k:Int),Aye l n k=kids l.length t n k:=by
 intro n
 induction n with
 |zero=>intro k;rfl
 |succ n ih=>
  intro k;rw[Aye,kids];split
  ·rename_i h
   have:=(R.rg k h).2.2.1
   have:=R.len;rw[A _ h,sb1 (by omega) (by omega),ih];rfl
  ·rfl
theorem A45{l:List As}{t:Int->Lk}(A:AtT l t)(R:Rg l): ∀(n:Nat) (k:Int),Agy l n k=rise l.length t n k:=by
 intro n
 induction n with
 |zero=>intro k;rfl
 |succ n ih=>
  intro k;rw[Agy,rise];split
  ·rename_i h
   have:=(R.rg k h).1
   have:=R.len;rw[A _ h,sb1 (by omega) (by omega),ih];rfl
  ·rfl
theorem A3f{l:List As}{t:Int->Lk}(A:AtT l t)(R:Rg l){f:Int}(h0:0≤f)(h1:f≤1000):Abj l f=kf l.length t f:=by
 grind [Abj,kf,sb1,Bl2,Int.toNat_natCast]
theorem A46{l:List As}{n:Int}(h0:0≤n)(h1:n≤1000):plB l n=true ↔ 0≤n - 1∧n - 1<(l.length:Int):=by
 unfold plB;rw[sb1 (by omega) (by omega),decide_eq_true_iff]
theorem A47{l:List As}{t:Int->Lk}(A:AtT l t)(R:Rg l){k:Int}(h:0≤k∧k<(l.length:Int)):A1e l k=true ↔ Cu l.length t k:=by
 have h1:=(R.rg k h).1
 have h2:=R.len;unfold A1e Cu;rw[Z4,Z4,A46 h1.1 (by omega),beq_iff_eq,beq_iff_eq,sb1 (by omega) (by omega),A _ h]
 show _ ↔ Lv _ _ ((gt l k).fUp - 1)∧(t ((gt l k).fUp - 1)).ep=(gt l k).Sm;rw[Aul A];constructor
 ·rintro⟨a,b,c⟩;rw[A _ a];exact⟨⟨a,b⟩,c⟩
 ·rintro⟨⟨a,b⟩,c⟩;rw[A _ a]at c;exact⟨a,b,c⟩
theorem Bcd{l:List As}{t:Int->Lk}(A:AtT l t)(R:Rg l){k:Int}(h:0≤k∧k<(l.length:Int)):Ayn l k=true ↔ Oo l.length t k:=by
 unfold Ayn Oo;rw[Z4,Z4,beq_iff_eq,bne_iff_ne,Z44,Aul A,←A47 A R h,A _ h,Bool.not_eq_true];exact⟨fun⟨a,b,c⟩=>⟨⟨h,a⟩,b,c⟩,fun⟨⟨_,a⟩,b,c⟩=>⟨a,b,c⟩⟩
theorem A7w{l:List As}{t:Int->Lk}(A:AtT l t){n:Int}(h0:0≤n)(h1:n≤1000):Ar8 l n=true ↔ (n≠0->Lv l.length t (n - 1)):=by
 unfold Ar8;rw[Bool.or_eq_true,beq_iff_eq,Z4,A46 h0 h1,beq_iff_eq,Aul A,sb1 (by omega) (by omega)]
 omega
theorem Bd8{a:Int}{b:Bool}{P:Prop}(h:b=true ↔ P):(a==0||b)=true ↔ (a≠0->P):=by
 grind
theorem A85{l:List As}{t:Int->Lk}(A:AtT l t)(R:Rg l){k:Int}(h:0≤k∧k<(l.length:Int)):A1t l k=true ↔ A38 l.length t k:=by
 obtain⟨r1,r2,r3,r4⟩:=R.rg k h
 have h2:=R.len
 have eg: ∀n,Lv l.length t n->t n=A3e (gt l n):=fun n hn=>A _ hn.1
 have ek:=A _ h;unfold A1t A3s Bg8 Bbw A8n A6t;rw[ad1 (by omega) (by omega),sb1 (x:=(gt l k).Ef) (by omega) (by omega),sb1 (x:=(gt l k).Sn) (by omega) (by omega),sb1 (x:=(gt l k).So) (by omega) (by omega),sb1 (x:=(gt l k).fUp) (by omega) (by omega)]
 simp only[Z4,A7w A r2.1 (by omega:(gt l k).Ef≤1000),A7w A r3.1 (by omega:(gt l k).Sn≤1000),A7w A r4.1 (by omega:(gt l k).So≤1000),Bd8 (A46 r1.1 (by omega:(gt l k).fUp≤1000)),Bd8 Bool.and_eq_true_iff,Bd8 beq_iff_eq,beq_iff_eq]
 constructor
 ·rintro⟨⟨a1,a2,a3,a4⟩,a5,a6,a7,a8⟩;refine⟨?_,?_,?_,?_,?_⟩
  ·simp_all[A3e]
  ·simp_all[A3e]
  ·simp_all[A3e]
  ·rw[ek];exact a4
  ·rw[ek];intro q c
   have hc:=(A47 A R h).2 c
   have hu:=c.1;rw[ek]at hu
   have hu:Lv l.length t ((gt l k).fUp - 1):=hu;rw[show(A3e (gt l k)).up=(gt l k).fUp from rfl,eg _ hu]
   rw[show(A3e (gt l k)).pv=(gt l k).So from rfl]at q
   rw[q,hc]at a8
   show(gt l ((gt l k).fUp - 1)).Ef=k+1
   grind
 ·intro L;obtain⟨a1,a2,a3,a4,a5⟩:=L;rw[ek]at a1 a2 a3 a4 a5;refine⟨⟨fun q=>(a1 q).1,fun q=>(a2 q).1,fun q=>(a3 q).1,a4⟩,fun q=> ?_,fun q=> ?_,fun q=> ?_,?_⟩
  ·obtain⟨b1,b2,b3,b4⟩:=a1 q;rw[eg _ b1]at b2 b3 b4;exact⟨b2,b3,b4⟩
  ·obtain⟨b1,b2,b3,b4⟩:=a2 q;rw[eg _ b1]at b2 b3 b4;exact⟨b2,b3,b4⟩
  ·obtain⟨b1,b2⟩:=a3 q;rw[eg _ b1]at b2;exact b2
  ·by_cases q:(gt l k).So=0
   ·cases hc:A1e l k with
    |false=>simp
    |true=>
     have c:=(A47 A R h).1 hc
     have hu:=c.1;rw[ek]at hu
     have:=a5 q c;rw[eg _ hu]at this;simp only[Bool.or_eq_true,beq_iff_eq];exact .inr this
   grind
theorem Bl3{r:List Int}(h:r≠[]):r.getLast? =some (A59 r):=by
 unfold A59;rw[Wx (by have:=List.length_pos_iff.2 h;omega),List.getLast?_eq_getElem?]
 grind
theorem Bl4{l:List As}{t:Int->Lk}(A:AtT l t)(R:Rg l)(hb: ∀k,0≤k∧k<(l.length:Int)->(gt l k).Vi≠1->(gt l k).fUp=0∧(gt l k).Ef=0∧(gt l k).Sn=0∧(gt l k).So=0):A7k l=true ↔ Aqm l.length t:=by
 have key: ∀k,0≤k∧k<(l.length:Int)->(A13 l k=true ↔ (rise l.length t (l.length:Int).toNat k).length≤4∧ ∀x,(rise l.length t (l.length:Int).toNat k).getLast? =some x-> ¬Cu l.length t x):=by
  intro k h;unfold A13
  have hne:Agy l l.length k≠[]:=fun e=>by have:=A7l h;grind
  have hin:=A9z h;rw[Int.toNat_natCast,←A45 A R,Z4,decide_eq_true_iff,Z44,Bl3 hne];constructor
  ·grind [A47]
  ·rintro⟨a,b⟩;refine⟨by omega,?_⟩
   have:=b _ rfl
   grind [A47]
 unfold A7k;rw[Z1];constructor
 ·intro h
  have h2: ∀k,Lv l.length t k->A1t l k=true∧A13 l k=true:=by
   intro k hk;obtain⟨a,b⟩:=(Aul A).1 hk
   have:=h k.toNat (by grind)
   grind
  exact⟨fun k hk=>(A85 A R hk.1).1 (h2 k hk).1,fun k hk=>(key k hk.1).1 (h2 k hk).2,fun k h0 h1 hl=>by
   rw[A _ ⟨h0,h1⟩]at hl ⊢
   grind [A3e]⟩
 ·intro T k hk;rw[List.mem_range]at hk
  by_cases e:(gt l (k:Int)).Vi=1
  ·have hl:=(Aul A).2 ⟨⟨by omega,by omega⟩,e⟩
   rw[(A85 A R hl.1).2 (T.link _ hl),(key _ hl.1).2 (T.rise _ hl)];simp
  grind
def Aqb (st gen:Int):As:=As.mk st gen 0 0 0 0 0 0 [] 0 0 [] []
structure Aq1 (c:Ea)(n:As):Prop where
 conf:Ahg c=true
 st:n.Vi=1
 gen:1≤n.C9∧n.C9≤c.G9
 up:0≤n.fUp∧n.fUp≤c.E6
 first:0≤n.Ef∧n.Ef≤c.E6
 next:0≤n.Sn∧n.Sn≤c.E6
 prev:0≤n.So∧n.So≤c.E6
 ep:0≤n.Sl
 ue:0≤n.Sm
 dist:Aue c n.Ay=true
 cur:A4u c n=true
 nth:n.F6.length≤12
 ntag:n.Fi.length≤6
 tags:n.Fi.all (fun x=>inB x 0 255)=true
 things:n.F6.all (Apq c)=true
theorem Ail{c:Ea}{n:As}:Aqj c n=true∧n.Vi=1 ↔ Aq1 c n:=by
 unfold Aqj A7g;constructor
 ·rintro⟨h,h1⟩;rw[h1]at h;simp only[Z4,Acw,bne_self_eq_false,cond_false,Z44,decide_eq_false_iff_not,decide_eq_true_eq]at h;obtain⟨a,_,b,⟨c1,c2,c3,c4⟩,⟨d1,d2⟩,⟨e1,e2⟩,⟨f1,f2⟩,g1,g2⟩:=h;exact⟨a,h1,b,c1,c2,c3,c4,by omega,by omega,e1,e2,by omega,by omega,g1,g2⟩
 ·intro h;refine⟨?_,h.st⟩;rw[h.st];simp only[Z4,Acw,bne_self_eq_false,cond_false,Z44,decide_eq_false_iff_not,decide_eq_true_eq];exact⟨h.conf,by omega,h.gen,⟨h.up,h.first,h.next,h.prev⟩,⟨by have:=h.ep;omega,by have:=h.ue;omega⟩,⟨h.dist,h.cur⟩,⟨by have:=h.nth;omega,by have:=h.ntag;omega⟩,h.tags,h.things⟩
theorem Ayj{c:Ea}{n:As}(h:Aqj c n=true)(h1:n.Vi≠1):n=Aqb n.Vi n.C9:=by
 have:=A80 h h1;unfold A4t at this;simp only[Z4,beq_iff_eq]at this;obtain⟨a1,a2,a3,a4,a5,a6,a7,a8,a9,a10,a11⟩:=this;cases n
 simp_all[Aqb]
theorem A3w{c:Ea}(hc:Ahg c=true){st gen:Int}(h0:0≤st∧st≤3)(h1:st≠1)(h2:1≤gen∧gen≤c.G9):Aqj c (Aqb st gen)=true:=by
 unfold Aqj;rw[hc]
 show(true&&(inB st 0 3&&(inB gen 1 c.G9&&(bif st != 1 then A4t (Aqb st gen)else _))))=true
 rw[Azt h1,Acw.2 h0,Acw.2 h2];rfl
theorem A01{c:Ea}{n:As}(h:Aqj c n=true):Ahg c=true∧(0≤n.Vi∧n.Vi≤3)∧1≤n.C9∧n.C9≤c.G9:=by
 simp_all[Aqj,Acw]
theorem A4m{c:Ea}{n:As}(h:Aqj c n=true):(0≤n.fUp∧n.fUp≤c.E6)∧(0≤n.Ef∧n.Ef≤c.E6)∧(0≤n.Sn∧n.Sn≤c.E6)∧(0≤n.So∧n.So≤c.E6):=by
 by_cases e:n.Vi=1
 ·have:=Ail.1 ⟨h,e⟩;exact⟨this.up,this.first,this.next,this.prev⟩
 ·rw[Ayj h e];obtain⟨_,_,b,_⟩:=A1 (A01 h).1;exact⟨⟨Int.le_refl _,by grind [Aqb]⟩,⟨Int.le_refl _,by grind [Aqb]⟩,⟨Int.le_refl _,by grind [Aqb]⟩,⟨Int.le_refl _,by grind [Aqb]⟩⟩
theorem A6j{c:Ea}{n:As}(h:Aqj c n=true):Aue c n.Ay=true:=by
 by_cases e:n.Vi=1
 ·exact(Ail.1 ⟨h,e⟩).dist
 ·rw[Ayj h e];rfl
def Axa (q:List Az):List (Int×Int):=q.map (fun x=>(x.Bm,x.Ef))
structure Inv (w:C5):Prop where
 pool:Auv w.fC w.fP=true
 len:(w.fL.length:Int)=w.fC.E6
 node: ∀k,0≤k∧k<(w.fL.length:Int)->Aqj w.fC (gt w.fL k)=true
 own: ∀k,0≤k∧k<(w.fL.length:Int)-> ∀c,c∈(gt w.fL k).Ay ↔ (0≤c∧c<w.fC.Ay)∧gt w.fP.Vi c=1∧gt w.fP.N8 c=k
 thing: ∀k,0≤k∧k<(w.fL.length:Int)->(gt w.fL k).F6.all (Ari w.fC (gt w.fL k).Ay)=true∧Aph (gt w.fL k).F6=true∧Arm w.fC w.fP.N7 (gt w.fL k)=true
 forest: ∃t,AtT w.fL t∧Agw w.fL.length t (Axa w.fQ)
 wrec: ∀x∈w.fQ,Ala w.fC x=true∧An0 w x=true
 chn:(chL w.fQ).Nodup
 chi: ∀c,c∈chL w.fQ ↔ (0≤c∧c<w.fC.Ay)∧gt w.fP.Vi c=2
 sln:(slL w.fQ).Nodup
 sli: ∀s,s∈slL w.fQ ↔ (0≤s∧s<(w.fL.length:Int))∧(gt w.fL s).Vi=2
 log:w.Acy.all (fun x=>inB x 0 255)=true
theorem Inv.conf{w:C5}(I:Inv w):Ahg w.fC=true:=(Ati I.pool).1
theorem Inv.rg{w:C5}(I:Inv w):Rg w.fL:=by
 obtain⟨_,_,b,_⟩:=A1 I.conf
 have:=I.len;refine⟨by omega,fun k hk=> ?_⟩
 rw[I.len];exact A4m (I.node k hk)
theorem Inv.live{w:C5}(I:Inv w){t:Int->Lk}(A:AtT w.fL t){k:Int}(h:Lv w.fL.length t k):Aq1 w.fC (gt w.fL k):=Ail.1 ⟨I.node k ((Aul A).1 h).1,((Aul A).1 h).2⟩
theorem Bam{N:Nat}{l:List Int}(hn:l.Nodup){k:Nat}(hk:k<N)(h:(k:Int)∈l):(gt (Al9 N l) (k:Int)==1)=true:=by
 simp_all[A1f,List.Nodup.count]
theorem Inv.chunks{w:C5}(I:Inv w){k:Int}(hk:0≤k∧k<(w.fL.length:Int)):A1d w.fP k (gt w.fL k).Ay=true:=by
 obtain⟨_,_,hst,hown,_⟩:=Ati I.pool
 have hd:=Ays (A6j (I.node k hk))
 have hs:=(A1r w.fP k).imp (fun {a b} (h:a<b)=>Int.ne_of_lt h)
 have hm: ∀x,x∈Auk w.fP k ↔ x∈(gt w.fL k).Ay:=by
  intro x;rw[I.own k hk x];unfold Auk;rw[Awg]
  grind
 unfold A1d;rw[Z4,Z1,beq_iff_eq];refine⟨fun x hx=>List.contains_iff_mem.2 ((hm x).1 hx),?_⟩
 have h1:=Ayt (o:=Auk w.fP k) (l:=(gt w.fL k).Ay) hs (fun x hx=>(hm x).1 hx)
 have h2:=Ayt (o:=(gt w.fL k).Ay) (l:=Auk w.fP k) hd (fun x hx=>(hm x).2 hx);omega
theorem Ban{q:List Az}{x:Az}(hx:x∈q){c:Int}(h:c∈x.Ay):c∈chL q:=List.mem_flatMap.2 ⟨x,hx,h⟩
theorem Bfo{q:List Az}{x:Az}(hx:x∈q)(h:x.Bm≠0):An7 .i64 x.Bm 1∈slL q:=List.mem_flatMap.2 ⟨x,hx,by grind⟩
theorem Inv.first{w:C5}(I:Inv w){x:Az}(hx:x∈w.fQ):0≤x.Ef∧x.Ef≤8:=by
 obtain⟨_,_,b,_⟩:=A1 I.conf
 have:=(Aqt (I.wrec x hx).1).2.2.1;omega
theorem Inv.qs{w:C5}{x:Az}(hx:x∈w.fQ):x.Ef∈(Axa w.fQ).map (fun e:Int×Int=>e.2):=by
 unfold Axa
 grind
theorem Inv.waste{w:C5}(I:Inv w){x:Az}(hx:x∈w.fQ):Anf w x=true:=by
 obtain⟨b1,_,b,_⟩:=A1 I.conf;obtain⟨h1,h2⟩:=I.wrec x hx;obtain⟨_,r1,r2,r3,_⟩:=Aqt h1
 have hf:=I.first hx;obtain⟨t,A,F⟩:=I.forest;unfold Anf;simp only[Z4];refine⟨h1,?_,h2,?_,?_,?_⟩
 ·unfold A2k;rw[Z1];intro c hc;rw[beq_iff_eq];exact((I.chi c).1 (Ban hx hc)).2
 ·unfold Awf
  by_cases e:x.Bm=0
  ·grind
  ·rw[((I.sli _).1 (Bfo hx e)).2];simp
 ·unfold Ayf
  by_cases e:x.Ef=0
  ·grind
  ·obtain⟨a,b⟩:=F.kid.top _ (Inv.qs hx) e;rw[sb1 (by omega) (by omega)]
   rw[A _ a]at b
   have b:(gt w.fL (x.Ef - 1)).So=0:=b
   grind
 ·unfold Asf;rw[Z1];intro k hk
  have hin:=A29 _ _ k hk;rw[A3f A I.rg hf.1 (by omega)]at hk
  exact(Bcd A I.rg hin).2 (F.kid.or (Inv.qs hx) hk)
theorem Bfp{w:C5}(I:Inv w){t:Int->Lk}(A:AtT w.fL t):kdL w.fL w.fQ=((Axa w.fQ).map (fun e:Int×Int=>e.2)).flatMap (kf w.fL.length t):=by
 unfold kdL Axa;rw[Dr,List.flatMap_map];exact Avl fun x hx=>by
  have hf:=I.first hx;exact A3f A I.rg hf.1 (by omega)
theorem Inv.fin{w:C5}(I:Inv w):Aw6 w w.fC.Ay.toNat=true:=by
 obtain⟨_,_,hst,hown,_⟩:=Ati I.pool;obtain⟨t,A,F⟩:=I.forest;unfold Aw6;rw[Z4,Z1,Z1];refine⟨fun k hk=> ?_,fun k hk=> ?_⟩
 ·rw[List.mem_range]at hk;cases e:(gt w.fP.Vi (k:Int)==2)with
  |false=>rfl
  |true=>exact Bam I.chn (by omega) ((I.chi _).2 ⟨⟨by omega,by omega⟩,by grind⟩)
 ·rw[List.mem_range]at hk;rw[Z4];constructor
  ·cases e:((gt w.fL (k:Int)).Vi==2)with
   |false=>rfl
   |true=>simp_all[Bam,sln,sli]
  ·cases e:Ayn w.fL (k:Int)with
   |false=>rfl
   |true=>
    refine Bam (by rw[Bfp I A];exact F.kid.nodup) hk ?_
    rw[Bfp I A,F.kid.iff];exact(Bcd A I.rg ⟨by omega,by omega⟩).1 e
theorem Inv.ok{w:C5}(I:Inv w):A2l w=true:=by
 obtain⟨t,A,F⟩:=I.forest;unfold A2l;simp only[Z4,beq_iff_eq];refine⟨I.pool,I.len,?_,?_,⟨?_,I.fin⟩,I.log⟩
 ·rw[Z1];intro k hk;rw[List.mem_range]at hk
  have hk2:0≤(k:Int)∧(k:Int)<(w.fL.length:Int):=⟨by omega,by omega⟩
  grind [thing,A57,node,chunks]
 ·refine(Bl4 A I.rg fun k hk h=> ?_).2 F.tree;rw[Ayj (I.node k hk) h];exact⟨rfl,rfl,rfl,rfl⟩
 grind [waste]
def lnk (n:As)(fi nx pv:Int):As:=As.mk n.Vi n.C9 n.Sl n.fUp n.Sm fi nx pv n.Ay n.Acx n.Sq n.F6 n.Fi
theorem Ap4{l:List As}{j x:Int}(hj:0≤j∧j<(l.length:Int))(hx:0≤x∧x<(l.length:Int))(v:As):gt (l.set j.toNat v) x=if x=j then v else gt l x:=by
 by_cases e:x=j
 all_goals simp_all[Azc,A0g,Ne.symm]
theorem Bce{l:List As}{n:Int}(h0:0≤n)(h1:n≤l.length)(h2:l.length≤8):plB l n= !(n==0):=by
 have:=A46 (l:=l) h0 (by omega:n≤1000)
 grind
theorem A65{l:List As}(R:Rg l){k x:Int}(hk:0≤k∧k<(l.length:Int))(hx:0≤x∧x<(l.length:Int)):
  gt (A41 l k) x=lnk (gt l x) (if(gt l k).So=0∧x+1=(gt l k).fUp∧(gt l x).Ef=k+1 then(gt l k).Sn else(gt l x).Ef) (if x+1=(gt l k).So then(gt l k).Sn else(gt l x).Sn) (gt l x).So:=by
 obtain⟨r1,r2,r3,r4⟩:=R.rg k hk
 have hl:=R.len;unfold A41;rw[Bce r4.1 r4.2 hl,Bce r1.1 r1.2 hl,sb1 (x:=(gt l k).So) (by omega) (by omega),sb1 (x:=(gt l k).fUp) (by omega) (by omega),ad1 (by omega) (by omega)]
 by_cases h:(gt l k).So=0
 ·rw[h];simp only[beq_self_eq_true,Bool.not_true,cond_false,Z30];rw[if_neg (by omega: ¬x+1=0)]
  by_cases h2:(gt l k).fUp=0
  ·rw[h2,if_neg (by omega)];rfl
  ·rw[App h2];simp only[Bool.not_false,Z30]
   by_cases h3:(gt l ((gt l k).fUp - 1)).Ef=k+1
   ·rw[h3,beq_self_eq_true,cond_true,Ap4 (by omega) hx]
    by_cases e:x=(gt l k).fUp - 1
    ·rw[if_pos e,e,h3,if_pos ⟨trivial,by omega,rfl⟩];rfl
    ·rw[if_neg e,if_neg (by omega)];rfl
   ·rw[App h3,cond_false,if_neg]
    ·rfl
    grind
 ·rw[App h];simp only[Bool.not_false,cond_true];rw[Ap4 (by omega) hx,if_neg (fun q:(gt l k).So=0∧x+1=(gt l k).fUp∧(gt l x).Ef=k+1=>h q.1)]
  by_cases e:x=(gt l k).So - 1
  ·have e2:x+1=(gt l k).So:=by omega
   rw[if_pos e,if_pos e2,←e];rfl
  ·have e2: ¬x+1=(gt l k).So:=by omega
   rw[if_neg e,if_neg e2];rfl
theorem A3g{l:List As}(R:Rg l){k x:Int}(hk:0≤k∧k<(l.length:Int))(hx:0≤x∧x<(l.length:Int))(hne:x≠k):
  gt (Aqa l k) x=lnk (gt l x) (if(gt l k).So=0∧x+1=(gt l k).fUp∧(gt l x).Ef=k+1 then(gt l k).Sn else(gt l x).Ef) (if x+1=(gt l k).So then(gt l k).Sn else(gt l x).Sn) (if x+1=(gt l k).Sn then(gt l k).So else(gt l x).So):=by
 obtain⟨r1,r2,r3,r4⟩:=R.rg k hk
 have hl:=R.len
 have hl0:=A14 l k;unfold Aqa A4i;rw[Ap4 (by grind [A3b]) (by grind [A3b]),if_neg hne]
 unfold A5s;rw[Bce r3.1 r3.2 hl,sb1 (by omega) (by omega)]
 by_cases h:(gt l k).Sn=0
 ·rw[h];simp only[beq_self_eq_true,Bool.not_true,cond_false];rw[A65 R hk hx,h,if_neg (by omega: ¬x+1=0)]
 ·rw[App h];simp only[Bool.not_false,cond_true];rw[Ap4 (by omega) (by omega)]
  by_cases e:x=(gt l k).Sn - 1
  ·have e2:x+1=(gt l k).Sn:=by omega
   rw[if_pos e,if_pos e2,←e,A65 R hk hx];rfl
  ·have e2: ¬x+1=(gt l k).Sn:=by omega
   simp_all[A65]
theorem A0h (l:List As)(k:Int):(Aqa l k).length=l.length:=by grind [Aqa,A4i,A3b,A14]
theorem A7x{c:Ea}{n:As}(X:Aq1 c n){fi nx pv:Int}(h1:0≤fi∧fi≤c.E6)(h2:0≤nx∧nx≤c.E6)(h3:0≤pv∧pv≤c.E6):Aq1 c (lnk n fi nx pv):=
 ⟨X.conf,X.st,X.gen,X.up,h1,h2,h3,X.ep,X.ue,X.dist,X.cur,X.nth,X.ntag,X.tags,X.things⟩
theorem Bu1{l:List As}{t:Int->Lk}(A:AtT l t)(R:Rg l){k:Int}(hk:0≤k∧k<(l.length:Int))(g:Int):AtT ((Aqa l k).set k.toNat (Aqb 2 g)) (rem t k):=by
 intro x hx;rw[Z49,A0h]at hx;rw[Ap4 (by grind [A0h]) (by grind [A0h])]
 by_cases e:x=k
 ·subst e;rw[A42,if_pos rfl];rfl
 ·rw[Akx e,if_neg e,A3g R hk hx e,A x hx,A k hk];rfl
theorem A17{l:List Int}{j x:Int}(hj:0≤j)(hx:0≤x∧x<(l.length:Int))(v:Int):gt (l.set j.toNat v) x=if x=j then v else gt l x:=by
 have h1:x.toNat<(l.set j.toNat v).length:=by grind
 have h2:x.toNat<l.length:=by omega
 have e1:gt (l.set j.toNat v) ((x.toNat:Nat):Int)=if x=j then v else gt l ((x.toNat:Nat):Int):=by
  rw[Wx h1,Wx h2,List.getElem_set];omega
 grind
structure A18 (c:Ea)(p:Dn):Prop where
 conf:Ahg c=true
 mem:(p.N7.length:Int)=c.Ay*c.G8
 st:(p.Vi.length:Int)=c.Ay
 own:(p.N8.length:Int)=c.Ay
 one: ∀k,0≤k∧k<c.Ay->(0≤gt p.Vi k∧gt p.Vi k≤2)∧(gt p.Vi k=1->0≤gt p.N8 k∧gt p.N8 k<c.E6)∧(gt p.Vi k≠1->gt p.N8 k= -1)∧(gt p.Vi k=0->Aqi (Avi c p.N7 k)=true)
theorem Bfq{c:Ea}{p:Dn}{k:Nat}:A1c c p k=true ↔ (0≤gt p.Vi (k:Int)∧gt p.Vi (k:Int)≤2)∧(gt p.Vi (k:Int)=1->0≤gt p.N8 (k:Int)∧gt p.N8 (k:Int)<c.E6)∧(gt p.Vi (k:Int)≠1->gt p.N8 (k:Int)= -1)∧(gt p.Vi (k:Int)=0->Aqi (Avi c p.N7 k)=true):=by
 unfold A1c;rw[Z4,Z4,Acw];refine and_congr Iff.rfl ?_
 by_cases e:gt p.Vi (k:Int)=1
 ·rw[e];simp only[beq_self_eq_true,cond_true,Acw]
  grind
 grind
theorem Ai0{c:Ea}{p:Dn}:Auv c p=true ↔ A18 c p:=by
 constructor
 ·intro h;obtain⟨h1,h2,h3,h4,h5⟩:=Ati h;refine⟨h1,h2,h3,h4,fun k hk=> ?_⟩
  have:=Bfq.1 (h5 k.toNat (by omega))
  grind
 ·intro h;obtain⟨b1,_⟩:=A1 h.conf;unfold Auv;simp only[Z4,beq_iff_eq,Z1,List.mem_range];refine⟨h.conf,by grind [A18.mem,Ak8,A18.conf],h.st,h.own,fun k hk=> ?_⟩
  exact Bfq.2 (h.one k (by omega))
theorem Bhk (cs:List Int): ∀(p:Dn),p.N8.length=p.Vi.length->(Akr p cs).N7=p.N7∧(Akr p cs).Vi.length=p.Vi.length∧(Akr p cs).N8.length=p.N8.length∧ ∀c,0≤c∧c<(p.Vi.length:Int)→
  gt (Akr p cs).Vi c=(if c∈cs∧gt p.Vi c=1 then 2 else gt p.Vi c)∧gt (Akr p cs).N8 c=(if c∈cs∧gt p.Vi c=1 then -1 else gt p.N8 c):=by
 induction cs with
 |nil=>simp_all[Akr]
 |cons k cs ih=>
  intro p hl
  have h1:(A05 p k).N7=p.N7∧(A05 p k).Vi.length=p.Vi.length∧(A05 p k).N8.length=p.N8.length:=by
   grind [A05]
  obtain⟨a,b,c,d⟩:=ih (A05 p k) (by omega)
  refine⟨a.trans h1.1,b.trans h1.2.1,c.trans h1.2.2,fun x hx=> ?_⟩;obtain⟨d1,d2⟩:=d x (by omega)
  have e1:gt (A05 p k).Vi x=if x=k∧gt p.Vi x=1 then 2 else gt p.Vi x:=by
   unfold A05
   by_cases q:(0≤k∧k<(p.Vi.length:Int)∧k<(p.N8.length:Int))∧gt p.Vi k=1
   ·rw[if_pos q];simp only;rw[A17 q.1.1 hx]
    grind
   grind
  have e2:gt (A05 p k).N8 x=if x=k∧gt p.Vi x=1 then -1 else gt p.N8 x:=by
   unfold A05
   by_cases q:(0≤k∧k<(p.Vi.length:Int)∧k<(p.N8.length:Int))∧gt p.Vi k=1
   ·rw[if_pos q];simp only;rw[A17 q.1.1 (by omega)]
    grind
   grind
  show gt (Akr (A05 p k) cs).Vi x=_∧gt (Akr (A05 p k) cs).N8 x=_;rw[d1,d2,e1,e2]
  by_cases q:gt p.Vi x=1
  ·by_cases e:x=k
   ·subst e;simp[q]
   ·simp[q,e]
  ·simp[q]
theorem A1j{w:C5}(I:Inv w){k:Int}(hk:0≤k∧k<(w.fL.length:Int)):
  A18 w.fC (Akr w.fP (gt w.fL k).Ay)∧(Akr w.fP (gt w.fL k).Ay).N7=w.fP.N7∧
  ∀c,0≤c∧c<w.fC.Ay->gt (Akr w.fP (gt w.fL k).Ay).Vi c=(if c∈(gt w.fL k).Ay then 2 else gt w.fP.Vi c)∧gt (Akr w.fP (gt w.fL k).Ay).N8 c=(if c∈(gt w.fL k).Ay then -1 else gt w.fP.N8 c):=by
 have P:=Ai0.1 I.pool;obtain⟨a,b,c,d⟩:=Bhk (gt w.fL k).Ay w.fP (by have:=P.st;have:=P.own;omega)
 have key: ∀c,0≤c∧c<w.fC.Ay->gt (Akr w.fP (gt w.fL k).Ay).Vi c=(if c∈(gt w.fL k).Ay then 2 else gt w.fP.Vi c)∧gt (Akr w.fP (gt w.fL k).Ay).N8 c=(if c∈(gt w.fL k).Ay then -1 else gt w.fP.N8 c):=by
  intro x hx;obtain⟨d1,d2⟩:=d x (by rw[P.st];exact hx)
  rw[d1,d2]
  by_cases e:x∈(gt w.fL k).Ay
  ·have:=((I.own k hk x).1 e).2.1
   grind
  grind
 refine⟨⟨P.conf,by rw[a];exact P.mem,by rw[b];exact P.st,by rw[c];exact P.own,fun x hx=> ?_⟩,a,key⟩
 obtain⟨k1,k2⟩:=key x hx;obtain⟨p1,p2,p3,p4⟩:=P.one x hx
 grind
theorem A66 (q:List Az)(x:Az):chL (q++[x])=chL q++x.Ay:=by grind [chL]
theorem A67 (q:List Az)(x:Az):slL (q++[x])=slL q++(if x.Bm=0 then []else [An7 .i64 x.Bm 1]):=by grind [slL]
theorem Bcf (q:List Az)(x:Az):Axa (q++[x])=Axa q++[(x.Bm,x.Ef)]:=by simp[Axa]
theorem A3h{c:Ea}{n:As}(h:Aq1 c n){s:Int}(hs:0≤s∧s≤c.E6):Ala c (Ag9 n s)=true:=by
 obtain⟨_,b,_⟩:=A1 h.conf;unfold Ala Ag9;simp only[Z4,Acw,decide_eq_true_eq,Bool.or_eq_true,beq_iff_eq];exact⟨h.conf,hs,h.first,by have:=h.ntag;omega,h.tags,h.dist,by omega,.inr trivial⟩
theorem A7y (w:C5)(n:As)(s:Int):An0 w (Ag9 n s)=true:=by
 unfold An0 Ag9 Aqi;simp
theorem Bao{w:C5}(I:Inv w){k:Int}(hk:0≤k∧k<(w.fL.length:Int)):(chL w.fQ++(gt w.fL k).Ay).Nodup:=
 Aid.2 ⟨I.chn,Ays (A6j (I.node k hk)),fun x h1 h2=>by simp_all[Inv.chi,Inv.own]⟩
theorem Bap{w:C5}(I:Inv w){k:Int}(hk:0≤k∧k<(w.fL.length:Int))(c:Int):c∈chL w.fQ++(gt w.fL k).Ay ↔ (0≤c∧c<w.fC.Ay)∧gt (Akr w.fP (gt w.fL k).Ay).Vi c=2:=by
 rw[Mj,I.chi];constructor
 ·rintro(⟨a,b⟩|h)
  all_goals simp_all[A1j,Inv.own]
 ·rintro⟨a,b⟩;rw[((A1j I hk).2.2 c a).1]at b
  grind
theorem Bhl{w:C5}(I:Inv w){t:Int->Lk}(A:AtT w.fL t)(F:Agw w.fL.length t (Axa w.fQ)){k:Int}(h:Al w.fL.length t k):Inv (Ayw w k):=by
 have hl:=h.lv
 have hk:=hl.1
 have P:=I.live A hl
 have R:=I.rg;obtain⟨L1,L2,L3⟩:=A1j I hk;obtain⟨_,_,b3,_⟩:=A1 I.conf
 have hlen:=I.len
 have e1:An6 .i64 k 1=k+1:=ad1 (by omega) (by omega)
 have hN:(Ayw w k).fL.length=w.fL.length:=by grind [Ayw,A0h]
 have hg: ∀x,0≤x∧x<(w.fL.length:Int)->gt (Ayw w k).fL x=if x=k then Aqb 2 (gt (Aqa w.fL k) k).C9 else gt (Aqa w.fL k) x:=fun x hx=>by
  unfold Ayw;simp only;rw[Ap4 (by grind [A0h]) (by grind [A0h])];rfl
 have hgen:(gt (Aqa w.fL k) k).C9=(gt w.fL k).C9:=by
  unfold Aqa A4i;rw[Azc (by grind [A3b,A14])]
  show(gt (A5s w.fL (A41 w.fL k) k _ _) k).C9=_;unfold A5s
  have h0:(gt (A41 w.fL k) k).C9=(gt w.fL k).C9:=by rw[A65 R hk hk];rfl
  obtain⟨_,_,r3,_⟩:=R.rg k hk
  have hl8:=R.len;rw[Bce r3.1 r3.2 hl8,sb1 (by omega) (by omega)]
  by_cases e:(gt w.fL k).Sn=0
  ·grind
  ·rw[App e];simp only[Bool.not_false,cond_true];rw[Ap4 (by rw[A14];omega) (by grind [A14])]
   split
   ·rename_i e2;rw[←e2];exact h0
   omega
 refine⟨Ai0.2 L1,by rw[hN];exact hlen,fun x hx=> ?_,fun x hx c=> ?_,fun x hx=> ?_,⟨rem t k,?_,?_⟩,fun x hx=> ?_,?_,fun c=> ?_,?_,fun s=> ?_,I.log⟩
 ·rw[hN]at hx;rw[hg x hx]
  by_cases e:x=k
  ·rw[if_pos e,hgen];exact A3w I.conf (by omega) (by omega) P.gen
  ·rw[if_neg e,A3g R hk hx e]
   by_cases hs:(gt w.fL x).Vi=1
   ·have X:=Ail.1 ⟨I.node x hx,hs⟩;obtain⟨a1,a2,a3,a4⟩:=A4m (I.node k hk);refine(Ail.2 (A7x X ?_ ?_ ?_)).1
    ·split
     ·exact a3
     ·exact X.first
    ·split
     ·exact a3
     ·exact X.next
    ·split
     ·exact a4
     ·exact X.prev
   ·have X:=Ayj (I.node x hx) hs
    have B:=(A7r F.tree hl).bare x hx.1 hx.2 (by rw[Akx e,A x hx];grind [A3e])
    rw[Akx e,A x hx,A k hk]at B;obtain⟨_,B2,B3,B4⟩:=B
    have q1:(if(gt w.fL k).So=0∧x+1=(gt w.fL k).fUp∧(gt w.fL x).Ef=k+1 then(gt w.fL k).Sn else(gt w.fL x).Ef)=0:=B2
    have q2:(if x+1=(gt w.fL k).So then(gt w.fL k).Sn else(gt w.fL x).Sn)=0:=B3
    have q3:(if x+1=(gt w.fL k).Sn then(gt w.fL k).So else(gt w.fL x).So)=0:=B4
    have this:lnk (gt w.fL x) 0 0 0=gt w.fL x:=by rw[X];rfl
    rw[q1,q2,q3];rw[this];exact I.node x hx
 ·rw[hN]at hx;rw[hg x hx]
  show c∈_ ↔ (0≤c∧c<w.fC.Ay)∧gt (Akr w.fP (gt w.fL k).Ay).Vi c=1∧gt (Akr w.fP (gt w.fL k).Ay).N8 c=x
  by_cases e:x=k
  ·rw[if_pos e];constructor
   ·intro q;cases q
   ·rintro⟨a,b,d⟩;rw[(L3 c a).1]at b;rw[(L3 c a).2]at d;split at b
    all_goals simp_all[Inv.own]
  ·rw[if_neg e,A3g R hk hx e]
   show c∈(gt w.fL x).Ay ↔ _;rw[I.own x hx c];constructor
   ·rintro⟨a,b,d⟩
    have q:c ∉ (gt w.fL k).Ay:=fun q=>e (by have:=((I.own k hk c).1 q).2.2;omega)
    grind
   grind
 ·rw[hN]at hx;rw[hg x hx]
  by_cases e:x=k
  ·rw[if_pos e];exact⟨rfl,rfl,rfl⟩
  ·rw[if_neg e,A3g R hk hx e];obtain⟨t1,t2,t3⟩:=I.thing x hx;refine⟨t1,t2,?_⟩
   show Arm w.fC (Akr w.fP (gt w.fL k).Ay).N7 _=true;rw[L2];exact t3
 ·exact Bu1 A R hk _
 ·show Agw ((Ayw w k).fL.length:Int) _ (Axa (w.fQ++[_]));rw[hN,Bcf,e1]
  have:=Bai F h;rw[A k hk]at this;exact this
 ·have hx:x∈w.fQ++[Ag9 (gt w.fL k) (An6 .i64 k 1)]:=hx
  show Ala w.fC x=true∧_;rcases Mj.1 hx with hx|hx
  ·obtain⟨a,b⟩:=I.wrec x hx;refine⟨a,?_⟩;unfold An0 at b ⊢
   show(_||Aqi (((Akr w.fP (gt w.fL k).Ay).N7.drop (gt x.Ay 0*w.fC.G8).toNat).take x.Wz.toNat))=true
   grind
  ·rw[Pz.1 hx,e1]
   grind [A3h,A7y]
 ·show(chL (w.fQ++[_])).Nodup;rw[A66];exact Bao I hk
 ·show c∈chL (w.fQ++[_]) ↔ _;rw[A66];exact Bap I hk c
 ·show(slL (w.fQ++[Ag9 (gt w.fL k) (An6 .i64 k 1)])).Nodup;rw[A67,e1]
  show(slL w.fQ++(if k+1=0 then []else [An7 .i64 (k+1) 1])).Nodup
  rw[if_neg (by omega),sb1 (by omega) (by omega),Int.add_sub_cancel]
  exact Aid.2 ⟨I.sln,by simp,fun x h1 h2=>by rw[Pz]at h2;subst h2;have:=((I.sli x).1 h1).2;have:=P.st;omega⟩
 ·show s∈slL (w.fQ++[Ag9 (gt w.fL k) (An6 .i64 k 1)]) ↔ _;rw[A67,e1,hN]
  show s∈slL w.fQ++(if k+1=0 then []else [An7 .i64 (k+1) 1]) ↔ _
  rw[if_neg (by omega),sb1 (by omega) (by omega),Int.add_sub_cancel,Mj,Pz,I.sli]
  constructor
  ·rintro(⟨a,b⟩|a)
   ·refine⟨a,?_⟩
    have e:s≠k:=fun e=>by grind [Aq1.st]
    rw[hg s a,if_neg e,A3g R hk a e];exact b
   ·rw[a,hg k hk,if_pos rfl];exact⟨hk,rfl⟩
  ·rintro⟨a,b⟩
   by_cases e:s=k
   ·omega
   ·rw[hg s a,if_neg e,A3g R hk a e]at b;exact .inl ⟨a,b⟩
theorem Bl5{l:List As}{t:Int->Lk}(A:AtT l t){k:Int}(hk:0≤k∧k<(l.length:Int))(h0:0≤(gt l k).Sl)(h1:(gt l k).Sl≤1000000000):AtT (l.set k.toNat (Awh (gt l k))) (emp t k):=by
 intro x hx;rw[Z49]at hx;rw[Ap4 hk hx]
 by_cases e:x=k
 ·subst e;rw[A84,if_pos rfl,A x hx]
  grind [Awh,A3e,ad1]
 ·rw[A6i e,if_neg e,A x hx]
theorem Bhm{w:C5}(I:Inv w){t:Int->Lk}(A:AtT w.fL t)(F:Agw w.fL.length t (Axa w.fQ)){k:Int}(h:Al w.fL.length t k)(hE:(gt w.fL k).Sl≤1000000000):Inv (K1 w k):=by
 have hl:=h.lv
 have hk:=hl.1
 have P:=I.live A hl;obtain⟨L1,L2,L3⟩:=A1j I hk
 have hN:(K1 w k).fL.length=w.fL.length:=by grind [K1]
 have hg: ∀x,0≤x∧x<(w.fL.length:Int)->gt (K1 w k).fL x=if x=k then Awh (gt w.fL k)else gt w.fL x:=fun x hx=>Ap4 hk hx _
 obtain⟨_,b2,b3,_⟩:=A1 I.conf;refine⟨Ai0.2 L1,by rw[hN];exact I.len,fun x hx=> ?_,fun x hx c=> ?_,fun x hx=> ?_,⟨emp t k,?_,?_⟩,fun x hx=> ?_,?_,fun c=> ?_,?_,fun s=> ?_,I.log⟩
 ·rw[hN]at hx;rw[hg x hx]
  show Aqj w.fC _=true
  by_cases e:x=k
  ·rw[if_pos e];exact((Ail (n:=Awh (gt w.fL k))).2 ⟨P.conf,P.st,P.gen,P.up,⟨Int.le_refl _,by show(0:Int)≤_;omega⟩,P.next,P.prev,by show 0≤An6 .i64 _ 1;rw[ad1 (by have:=P.ep;omega) hE];have:=P.ep;omega,P.ue,rfl,rfl,Z21 _,Z21 _,rfl,rfl⟩).1
  simp_all[Inv.node]
 ·rw[hN]at hx;rw[hg x hx]
  show c∈_ ↔ (0≤c∧c<w.fC.Ay)∧gt (Akr w.fP (gt w.fL k).Ay).Vi c=1∧gt (Akr w.fP (gt w.fL k).Ay).N8 c=x
  by_cases e:x=k
  ·rw[if_pos e];constructor
   ·intro q;cases q
   ·rintro⟨a,b,d⟩;rw[(L3 c a).1]at b;rw[(L3 c a).2]at d;split at b
    all_goals simp_all[Inv.own]
  ·rw[if_neg e,I.own x hx c];constructor
   ·rintro⟨a,b,d⟩
    have q:c ∉ (gt w.fL k).Ay:=fun q=>e (by have:=((I.own k hk c).1 q).2.2;omega)
    grind
   grind
 ·rw[hN]at hx;rw[hg x hx]
  by_cases e:x=k
  ·rw[if_pos e];exact⟨rfl,rfl,rfl⟩
  ·rw[if_neg e];obtain⟨t1,t2,t3⟩:=I.thing x hx;refine⟨t1,t2,?_⟩
   show Arm w.fC (Akr w.fP (gt w.fL k).Ay).N7 _=true
   grind
 ·exact Bl5 A hk P.ep hE
 ·show Agw ((K1 w k).fL.length:Int) _ (Axa (w.fQ++[_]));rw[hN,Bcf]
  have:=Baj F h;rw[A k hk]at this;exact this
 ·have hx:x∈w.fQ++[Ag9 (gt w.fL k) 0]:=hx
  show Ala w.fC x=true∧_;rcases Mj.1 hx with hx|hx
  ·obtain⟨a,b⟩:=I.wrec x hx;refine⟨a,?_⟩;unfold An0 at b ⊢
   show(_||Aqi (((Akr w.fP (gt w.fL k).Ay).N7.drop (gt x.Ay 0*w.fC.G8).toNat).take x.Wz.toNat))=true
   grind
  ·rw[Pz.1 hx]
   grind [A3h,A7y]
 ·show(chL (w.fQ++[_])).Nodup;rw[A66];exact Bao I hk
 ·show c∈chL (w.fQ++[_]) ↔ _;rw[A66];exact Bap I hk c
 ·show(slL (w.fQ++[Ag9 (gt w.fL k) 0])).Nodup;rw[A67]
  show(slL w.fQ++(if(0:Int)=0 then []else [An7 .i64 0 1])).Nodup
  simp_all[Inv.sln]
 ·show s∈slL (w.fQ++[Ag9 (gt w.fL k) 0]) ↔ _;rw[A67,hN]
  show s∈slL w.fQ++(if(0:Int)=0 then []else [An7 .i64 0 1]) ↔ _
  rw[if_pos rfl,List.append_nil,I.sli];refine and_congr_right fun a=> ?_;rw[hg s a]
  by_cases e:s=k
  ·rw[if_pos e,e,P.st]
   show _ ↔ (gt w.fL k).Vi=2;rw[P.st]
  grind
def wtN (c:Ea)(n:As):Nat:=if n.Vi=1 then 2+n.Fi.length+c.G8.toNat*n.Ay.length else 0
def wtQ (c:Ea)(x:Az):Nat:=1+x.Fi.length+(c.G8.toNat*x.Ay.length - x.Wz.toNat)
def pot (w:C5):Nat:=(w.fL.map (wtN w.fC)).sum+(w.fQ.map (wtQ w.fC)).sum
def wt (w:C5):Nat:=pot w+w.Acy.length
structure EpP (E:Int)(n:As):Prop where
 ep:n.Sl≤E
 ue:n.Sm≤E
 cur:0≤n.Acx∧n.Acx≤1000
structure Dy (w:C5)(E:Int)(n:Nat):Prop where
 inv:Inv w
 mem: ∀x∈w.fP.N7,0≤x∧x≤255
 ep: ∀k,0≤k∧k<(w.fL.length:Int)->EpP E (gt w.fL k)
 wt:wt w≤n
theorem Bu2{α:Type}(f:α->Nat)(l:List α)(h: ∀x∈l,1≤f x):l.length≤(l.map f).sum:=by
 induction l with
 |nil=>simp
 |cons x l ih=>
  grind
theorem Bl6 (w:C5):w.fQ.length≤wt w:=by
 have:=Bu2 (wtQ w.fC) w.fQ fun x _=>by grind [wtQ]
 unfold wt pot;omega
theorem Bea (w:C5):w.Acy.length≤wt w:=by grind [wt]
theorem K0{x:Int}(h0: -1000000000≤x)(h1:x≤1000000000):wfi x:=⟨by omega,by omega⟩
theorem Baq{c:Ea}{t:Bc}(h:Apq c t=true):ThingW t:=by
 have hs:=(A10 h).1
 have hin:=(A10 h).2;obtain⟨_,b2,_⟩:=A1 hin.1;obtain⟨s1,s2,s3,s4⟩:=hs;refine⟨K0 (by omega) (by omega),K0 (by omega) (by omega),?_⟩
 unfold Apq at h;rw[Z4]at h
 by_cases e:t.Ajn=0
 ·grind [K0]
 ·have h:=h.2;rw[App e]at h;simp only[cond_false,Z4,beq_iff_eq]at h;rw[h.2.1];unfold Atl
  have h3:(t.Ajm+c.G8 - 1) / c.G8≤t.Ajm+c.G8 - 1:=Int.ediv_le_self _ (by omega)
  have h4:0≤(t.Ajm+c.G8 - 1) / c.G8:=Int.ediv_nonneg (by omega) (by omega)
  cases (inB t.Ajm 0 1000000000&&inB c.G8 1 1000000000)with
  |false=>simp_all[K0]
  |true=>exact K0 (by grind) (by grind)
theorem Avn{l:List Int}(h: ∀x∈l,-1000000000≤x∧x≤1000000000)(hl:l.length≤1000000000):A11 l:=⟨fun x hx=>K0 (h x hx).1 (h x hx).2,by omega⟩
theorem Bl7{c:Ea}(h:Ahg c=true):ConfW c:=by
 obtain⟨b1,b2,b3,b4,b5,b6⟩:=A1 h;exact⟨K0 (by omega) (by omega),K0 (by omega) (by omega),K0 (by omega) (by omega),K0 (by omega) (by omega),K0 (by omega) (by omega),K0 (by omega) (by omega)⟩
theorem A7z{l:List Int}(h:l.all (fun x=>inB x 0 255)=true): ∀x∈l,0≤x∧x≤255:=fun x hx=>Acw.1 (Z1.1 h x hx)
theorem A2q{c:Ea}{n:As}{E:Int}(h:Aqj c n=true)(e:EpP E n)(hE:E≤1000000000):Aql n:=by
 obtain⟨b1,b2,b3,b4,b5,b6⟩:=A1 (A01 h).1
 by_cases s:n.Vi=1
 ·have X:=Ail.1 ⟨h,s⟩
  have:=X.gen;have:=X.up;have:=X.first;have:=X.next;have:=X.prev;have:=X.ep;have:=X.ue;have:=X.nth;have:=X.ntag
  have:=e.ep;have:=e.ue;have:=e.cur;refine⟨K0 (by omega) (by omega),K0 (by omega) (by omega),K0 (by omega) (by omega),K0 (by omega) (by omega),K0 (by omega) (by omega),K0 (by omega) (by omega),K0 (by omega) (by omega),K0 (by omega) (by omega),?_,K0 (by omega) (by omega),?_,?_,?_⟩
  ·exact Avn (fun x hx=>by have:=Aw5 X.dist x hx;omega) (by have:=Ar9 X.conf X.dist;omega)
  ·have:=X.cur;unfold A4u at this
   by_cases q:n.Acx=0
   ·simp_all[K0]
   ·rw[App q]at this;simp only[cond_false,Z4,Acw]at this
    grind [K0]
  ·exact⟨fun t ht=>Baq (Z1.1 X.things t ht),by omega⟩
  ·exact Avn (fun x hx=>by have:=A7z X.tags x hx;omega) (by omega)
 ·have g:=A01 h;rw[Ayj h s];exact⟨K0 (by show _≤n.Vi;omega) (by show n.Vi≤_;omega),K0 (by show _≤n.C9;omega) (by show n.C9≤_;omega),Aw9,Aw9,Aw9,Aw9,Aw9,Aw9,Ayv,Aw9,Aw9,A3a,Ayv⟩
theorem Bpe{c:Ea}{x:Az}(h:Ala c x=true):A1q x:=by
 obtain⟨b1,b2,b3,b4,b5,b6⟩:=A1 (Aqt h).1;obtain⟨h1,h2,h3,h4,h5⟩:=Aqt h;unfold Ala at h;simp only[Z4,Acw,decide_eq_true_eq]at h;obtain⟨_,_,_,t1,t2,_⟩:=h;refine⟨K0 (by omega) (by omega),K0 (by omega) (by omega),?_,?_,K0 (by omega) (by omega)⟩
 ·exact Avn (fun y hy=>by have:=A7z t2 y hy;omega) (by omega)
 ·exact Avn (fun y hy=>by have:=Aw5 h4 y hy;omega) (by grind [Ar9])
theorem A70{α:Type}[Inhabited α]{l:List α}{P:α->Prop}(h: ∀k,0≤k∧k<(l.length:Int)->P (gt l k)): ∀x∈l,P x:=by
 intro x hx;obtain⟨i,hi,e⟩:=List.mem_iff_getElem.1 hx
 have:=h (i:Int) ⟨by omega,by omega⟩
 grind [Wx]
theorem Dy.ww{w:C5}{E:Int}{n:Nat}(G:Dy w E n)(hE:E≤1000000000)(hn:n≤1000000000):Ak9 w:=by
 have I:=G.inv
 have P:=Ai0.1 I.pool;obtain⟨b1,b2,b3,b4,b5,b6⟩:=A1 I.conf
 have h1:=Bl6 w
 have h2:=Bea w
 have h3:=G.wt
 have hm:=Auu (a:=w.fC.Ay) (b:=w.fC.G8) (m:=12) (n:=16) (by omega) b1.2 (by omega) b2.2
 refine⟨Bl7 I.conf,⟨⟨G.mem,by have:=P.mem;omega⟩,?_,?_⟩,⟨A70 fun k hk=>A2q (I.node k hk) (G.ep k hk) hE,by have:=I.len;omega⟩,⟨fun x hx=>Bpe (I.wrec x hx).1,by omega⟩,?_⟩
 ·exact Avn (A70 fun k hk=>by have:=(P.one k (by grind [A18.st])).1;omega) (by have:=P.st;omega)
 ·refine Avn (A70 fun k hk=> ?_) (by have:=P.own;omega)
  obtain⟨o1,o2,o3,o4⟩:=P.one k (by grind [A18.own])
  omega
 ·exact Avn (fun x hx=>by have:=A7z I.log x hx;omega) (by omega)
theorem Bar{w:C5}(I:Inv w)(p:Dn)(q:List Az)(lg:List Int)(hp:A18 w.fC p)
  (ho: ∀c,0≤c∧c<w.fC.Ay->(gt p.Vi c=1 ↔ gt w.fP.Vi c=1)∧gt p.N8 c=gt w.fP.N8 c)
  (hl: ∀k,0≤k∧k<(w.fL.length:Int)->Arm w.fC p.N7 (gt w.fL k)=true)
  (hq:Axa q=Axa w.fQ) (hs:slL q=slL w.fQ)
  (hr: ∀x∈q,Ala w.fC x=true∧An0 (C5.mk w.fC p w.fL q lg) x=true)
  (hn:(chL q).Nodup) (hc: ∀c,c∈chL q ↔ (0≤c∧c<w.fC.Ay)∧gt p.Vi c=2)
  (hg:lg.all (fun x=>inB x 0 255)=true):Inv (C5.mk w.fC p w.fL q lg):=by
 refine⟨Ai0.2 hp,I.len,I.node,fun k hk c=> ?_,fun k hk=> ?_,?_,hr,hn,hc,?_,?_,hg⟩
 ·rw[I.own k hk c]
  grind
 all_goals grind [Inv.thing,Inv.forest,Inv.sln,Inv.sli]
theorem gt0{α:Type}[Inhabited α](x:α)(l:List α):gt (x::l) 0=x:=rfl
theorem A3i{mem:List Int}{a n:Nat}:Aqi ((mem.drop a).take n)=true ↔ ∀j:Nat,a≤j->j<a+n->j<mem.length->gt mem (j:Int)=0:=by
 unfold Aqi;rw[Z1];constructor
 ·intro h j h1 h2 h3;rw[Wx h3]
  have:mem[j]∈(mem.drop a).take n:=by
   rw[List.mem_iff_getElem];refine⟨j - a,by grind,?_⟩
   grind
  grind
 ·intro h x hx;obtain⟨i,hi,e⟩:=List.mem_iff_getElem.1 hx;simp only[List.length_take,List.length_drop]at hi;simp only[List.getElem_take,List.getElem_drop]at e
  have:=h (a+i) (by omega) (by omega) (by omega)
  rw[Wx (by omega),e]at this
  grind
def Azu (mem:List Int)(a n:Nat):List Int:=(List.range mem.length).map fun(j:Nat)=>if a≤j∧j<a+n then(0:Int)else gt mem (j:Int)
theorem Ayk (mem:List Int)(a n:Nat):(Azu mem a n).length=mem.length:=by simp[Azu]
theorem A3y{mem:List Int}{a n j:Nat}(h:j<mem.length):gt (Azu mem a n) (j:Int)=if a≤j∧j<a+n then 0 else gt mem (j:Int):=by
 grind [Wx,Azu]
theorem Bl8 (mem:List Int)(a:Nat):Azu mem a 0=mem:=by
 refine List.ext_getElem (Ayk _ _ _) fun j h1 h2=> ?_
 have:=A3y (mem:=mem) (a:=a) (n:=0) h2
 simp_all[if_neg,Wx]
theorem Bl9{mem:List Int}{a i:Nat}:(Azu mem a i).set (a+i) 0=Azu mem a (i+1):=by
 refine List.ext_getElem (by grind [Ayk]) fun j h1 h2=> ?_
 rw[Z49,Ayk]at h1
 have e1:=A3y (mem:=mem) (a:=a) (n:=i) h1
 have e2:=A3y (mem:=mem) (a:=a) (n:=i+1) h1;rw[Wx (by grind)]at e1 e2
 grind
theorem Bho{mem:List Int}{a n b m:Nat}(h:Aqi ((mem.drop b).take m)=true):Aqi (((Azu mem a n).drop b).take m)=true:=by
 grind [A3i,Ayk,A3y]
theorem Bcg{mem:List Int}{a d n m:Nat}(h:Aqi ((mem.drop a).take d)=true)(hm:m≤d+n):Aqi (((Azu mem (a+d) n).drop a).take m)=true:=by
 grind [A3i,Ayk,A3y]
section
variable {K:Nat} (hK:281474976710656≤K)
include hK
theorem Bhp{mem:List Int}(hl:mem.length≤1000000){a n:Int}(ha:0≤a∧a≤1000000)(hn:0≤n)(hs:a+n≤mem.length):A06 K mem a n=some (Azu mem a.toNat n.toNat):=by
 have hm:=V2;obtain⟨A,rfl⟩: ∃A:Nat,a=A:=⟨a.toNat,by omega⟩
 obtain⟨N,rfl⟩: ∃N:Nat,n=N:=⟨n.toNat,by omega⟩
 simp only[Int.toNat_natCast]
 have key: ∀(f i:Nat),i≤N->N - i<f->Av7 K mem A N f (Azu mem A i) ((A+i:Nat):Int)=some (Azu mem A N):=by
  intro f
  induction f with
  |zero=>omega
  |succ f ih=>
   intro i hi hf;rw[Av7]
   have e:An7 .i64 ((A+i:Nat):Int) A=i:=by unfold An7;grind [Ht]
   rw[e]
   by_cases q:i=N
   ·grind
   ·rw[Ad8 (by omega),Ad8 (by omega),cond_true,cond_true,Ayk,if_pos ⟨by omega,by omega⟩,Ad5 (by omega),Int.toNat_natCast,Bl9]
    grind
 unfold A06;rw[Z38,if_pos ⟨by omega,by omega⟩,decide_eq_false (by omega),decide_eq_false (by omega)]
 simp only[cond_false]
 have:=key K 0 (by omega) (by omega)
 grind [Bl8]
end
theorem Azj{w:C5}(I:Inv w){x qs}(hq:w.fQ=x::qs):Ala w.fC x=true∧An0 w x=true:=by grind [Inv.wrec,List.mem_cons_self]
structure Bma (c:Ea)(x:Az):Prop where
 conf:Ahg c=true
 slot:0≤x.Bm∧x.Bm≤c.E6
 first:0≤x.Ef∧x.Ef≤c.E6
 ntag:x.Fi.length≤6
 tags: ∀y∈x.Fi,0≤y∧y≤255
 dist:Aue c x.Ay=true
 done:0≤x.Wz∧x.Wz≤c.G8 - 1
 zero:x.Ay=[]->x.Wz=0
theorem Azd{c:Ea}{x:Az}:Ala c x=true ↔ Bma c x:=by
 unfold Ala;simp only[Z4,Acw,decide_eq_true_eq,Bool.or_eq_true,beq_iff_eq,Z1];constructor
 ·rintro⟨a,b,c,d,e,f,g,h⟩;refine⟨a,b,c,by omega,e,f,g,fun q=> ?_⟩
  grind
 ·intro h;refine⟨h.conf,h.slot,h.first,by have:=h.ntag;omega,h.tags,h.dist,h.done,?_⟩
  by_cases q:x.Ay=[]
  ·exact .inr (h.zero q)
  simp_all[List.length_pos_iff]
def Bmb (x:Az):Az:=Az.mk x.Bm x.Ef (x.Fi.take (x.Fi.length - 1)) x.Ay x.Wz
def A48 (w:C5)(x:Az)(qs:List Az):C5:=C5.mk w.fC w.fP w.fL (Bmb x::qs) (w.Acy++[gt x.Fi ((x.Fi.length - 1:Nat):Int)])
theorem Bu3 (K:Nat){w:C5}{x:Az}{qs:List Az}(hq:w.fQ=x::qs)(h0:0<x.Fi.length)(h6:x.Fi.length≤6)(hl:w.Acy.length≤1000000000):Ayy K w=some (A48 w x qs):=by
 have hm:=V2;unfold Ayy;rw[hq,gt0]
 have e:An7 .i64 (x.Fi.length:Int) 1=((x.Fi.length - 1:Nat):Int):=by grind [sb1]
 rw[e,if_pos ⟨by omega,by simp⟩,if_pos ⟨by omega,by omega⟩,if_pos ⟨by grind,by grind⟩,if_pos ⟨by omega,by omega,by omega⟩,A5l,Z38,if_pos ⟨by grind,by grind⟩]
 rfl
theorem Bmc{l:List Int}{n:Nat}{P:Int->Prop}(h: ∀y∈l,P y): ∀y∈l.take n,P y:=by grind
theorem Bpf{w:C5}(I:Inv w){x:Az}{qs:List Az}(hq:w.fQ=x::qs)(h0:0<x.Fi.length):Inv (A48 w x qs):=by
 have R:=Azd.1 (Azj I hq).1
 have e1:chL (Bmb x::qs)=chL w.fQ:=by rw[hq];rfl
 refine Bar I w.fP _ _ (Ai0.1 I.pool) (fun c _=>⟨Iff.rfl,rfl⟩) (fun k hk=>(I.thing k hk).2.2) (by rw[hq];rfl) (by rw[hq];rfl) (fun y hy=> ?_) (by rw[e1];exact I.chn) (fun c=>by grind [Inv.chi]) ?_
 ·rcases Eg.1 hy with e|e
  ·subst e;refine⟨Azd.2 ⟨R.conf,R.slot,R.first,?_,Bmc R.tags,R.dist,R.done,R.zero⟩,(Azj I hq).2⟩
   have:=R.ntag
   show(x.Fi.take _).length≤6
   grind
  ·exact I.wrec y (by grind)
 ·rw[List.all_append,I.log]
  have:=R.tags _ (Ane (show x.Fi.length - 1<x.Fi.length by omega))
  simp[Acw,this]
def Aqv (w:C5)(x:Az):Int:=if w.fC.G8<x.Wz+w.fC.E7 then w.fC.G8 else x.Wz+w.fC.E7
def Bas (w:C5)(x:Az):List Int:=Azu w.fP.N7 (gt x.Ay 0*w.fC.G8+x.Wz).toNat (Aqv w x - x.Wz).toNat
def A6k (w:C5)(x:Az):Dn:=Dn.mk (Bas w x) (if Aqv w x<w.fC.G8 then w.fP.Vi else w.fP.Vi.set (gt x.Ay 0).toNat 0) w.fP.N8
def A2w (w:C5)(x:Az):Az:=if Aqv w x<w.fC.G8 then Az.mk x.Bm x.Ef x.Fi x.Ay (Aqv w x)else Az.mk x.Bm x.Ef x.Fi (x.Ay.drop 1) 0
def A02 (w:C5)(x:Az)(qs:List Az):C5:=C5.mk w.fC (A6k w x) w.fL (A2w w x::qs) w.Acy
structure Bre (w:C5)(x:Az):Prop where
 rc:Bma w.fC x
 k:0≤gt x.Ay 0∧gt x.Ay 0<w.fC.Ay
 st:gt w.fP.Vi (gt x.Ay 0)=2
 at0:0≤gt x.Ay 0*w.fC.G8
 at1:gt x.Ay 0*w.fC.G8+w.fC.G8≤(w.fP.N7.length:Int)
 len:w.fP.N7.length≤192
 to:x.Wz<Aqv w x∧Aqv w x≤w.fC.G8
 zero:Aqi ((w.fP.N7.drop (gt x.Ay 0*w.fC.G8).toNat).take x.Wz.toNat)=true
theorem A5v{c:Ea}{p:Dn}(P:A18 c p):p.N7.length≤192:=by
 obtain⟨b1,b2,_⟩:=A1 P.conf
 have hm:=Auu (a:=c.Ay) (b:=c.G8) (m:=12) (n:=16) (by omega) b1.2 (by omega) b2.2
 have:=P.mem;omega
theorem Beb{w:C5}(I:Inv w){x:Az}{qs:List Az}(hq:w.fQ=x::qs)(hc:0<x.Ay.length):Bre w x:=by
 have R:=Azd.1 (Azj I hq).1
 have P:=Ai0.1 I.pool
 have hx:x∈w.fQ:=by grind
 have hm:gt x.Ay 0∈x.Ay:=Ane (i:=0) hc
 have h1:=(I.chi _).1 (Ban hx hm);obtain⟨_,_,e3,e4⟩:=A1z I.conf P.mem h1.1.1 h1.1.2;obtain⟨b1,b2,b3,b4,b5,b6⟩:=A1 I.conf
 have hd:=R.done;refine⟨R,h1.1,h1.2,e3,e4,A5v P,?_,?_⟩
 ·grind [Aqv]
 ·have:=(Azj I hq).2
  grind [An0]
section
variable {K:Nat} (hK:281474976710656≤K)
include hK
theorem Bch{w:C5}(hw:A0t w.fP)(hp:Auv w.fC w.fP=true){x:Az}(X:Bre w x):Awm K w.fC w.fP (gt x.Ay 0) x.Wz=some (A6k w x,!decide (Aqv w x<w.fC.G8)):=by
 obtain⟨b1,b2,b3,b4,b5,b6⟩:=A1 X.rc.conf
 have P:=Ai0.1 hp;obtain⟨e1,e2,e3,e4⟩:=A1z X.rc.conf P.mem X.k.1 X.k.2
 have hd:=X.rc.done
 have ht:=X.to
 have hl:=X.len
 have hk:=X.k
 have es:An6 .i64 x.Wz w.fC.E7=x.Wz+w.fC.E7:=by grind [An6,Ht]
 have el:Azw K (x.Wz+w.fC.E7) w.fC.G8=some (Aqv w x):=by
  unfold Azw Aqv
  grind
 have ea:An6 .i64 (gt x.Ay 0*w.fC.G8) x.Wz=gt x.Ay 0*w.fC.G8+x.Wz:=by grind [An6,Ht]
 have en:An7 .i64 (Aqv w x) x.Wz=Aqv w x - x.Wz:=by grind [An7,Ht]
 unfold Awm;rw[A1g K hw,A55 hK,hp,Anh,Ayr hK X.rc.conf,Acw.2 ⟨by omega,by omega⟩,Anh,A5p X.rc.conf,Acw.2 hd,es,el,e1,ea]
 simp only[Z0,cond_true,Bool.not_true,cond_false];rw[en,Bhp hK (by omega) ⟨by omega,by omega⟩ (by omega) (by omega)]
 simp only[Z0,e2];rw[if_pos ⟨hk.1,by rw[P.st];exact hk.2⟩,X.st]
 simp only[bne_self_eq_false,cond_false];unfold A6k
 by_cases q:Aqv w x<w.fC.G8
 ·rw[decide_eq_true q,if_pos q];rfl
 ·rw[decide_eq_false q,if_neg q];simp only[cond_false,Bool.not_false];rw[if_pos ⟨by omega,by omega,by show _≤((Azu _ _ _).length:Int);grind [Ayk]⟩]
  have hz:Aqi (((Azu w.fP.N7 (gt x.Ay 0*w.fC.G8+x.Wz).toNat (Aqv w x - x.Wz).toNat).drop (gt x.Ay 0*w.fC.G8).toNat).take (gt x.Ay 0*w.fC.G8+w.fC.G8 - gt x.Ay 0*w.fC.G8).toNat)=true:=by
   rw[show(gt x.Ay 0*w.fC.G8+x.Wz).toNat=(gt x.Ay 0*w.fC.G8).toNat+x.Wz.toNat by omega]
   exact Bcg X.zero (by omega)
  rw[A1b hK _ (by grind),hz]
  simp only[Z0,Bool.not_true,cond_false];rw[if_pos ⟨hk.1,by rw[P.st];exact hk.2⟩]
  rfl
theorem Bpg{w:C5}(I:Inv w)(hw:A0t w.fP){x:Az}{qs:List Az}(hq:w.fQ=x::qs)(hc:0<x.Ay.length):Axk K w=some (A02 w x qs):=by
 have hm:=V2
 have X:=Beb I hq hc
 have hlen:=Ar9 X.rc.conf X.rc.dist;obtain⟨b1,b2,b3,b4,b5,b6⟩:=A1 X.rc.conf
 have hd:=X.rc.done;unfold Axk;rw[hq,gt0,if_pos ⟨by omega,by simp⟩,if_pos ⟨by omega,by omega⟩,Bch hK hw I.pool X,Z0]
 simp only;unfold A02 A2w
 by_cases q:Aqv w x<w.fC.G8
 ·rw[decide_eq_true q,if_pos q]
  have es:An6 .i64 x.Wz w.fC.E7=Aqv w x:=by
   have ht:=X.to;unfold Aqv at q ⊢;split at q
   ·omega
   ·rename_i r;rw[if_neg r];grind [An6,Ht]
  grind
 grind
end
theorem A19{c:Ea}{l:List Int}:Aue c l=true ↔ l.Nodup∧ ∀x∈l,0≤x∧x<c.Ay:=by
 constructor
 ·intro h;exact⟨Ays h,Aw5 h⟩
 ·rintro⟨h1,h2⟩;unfold Aue;rw[Z1];intro i hi;rw[List.mem_range]at hi;rw[Z4,Acw,Wx hi]
  have:=h2 _ (List.getElem_mem hi);refine⟨by omega,?_⟩
  simp_all[A4f]
theorem Bhq{c:Ea}{l:List Int}{n:Nat}(h:Aue c l=true):Aue c (l.drop n)=true:=by
 rw[A19]at h ⊢
 grind
theorem Bmd{w:C5}{x:Az}(h: ∀y∈w.fP.N7,0≤y∧y≤255): ∀y∈Bas w x,0≤y∧y≤255:=by
 refine A70 fun k hk=> ?_;unfold Bas at hk ⊢;rw[Ayk]at hk;obtain⟨j,rfl⟩: ∃j:Nat,k=j:=⟨k.toNat,by omega⟩
 grind [A3y,Ane]
theorem Bme{w:C5}(I:Inv w){x:Az}{qs:List Az}(hq:w.fQ=x::qs)(hc:0<x.Ay.length):Inv (A02 w x qs):=by
 have X:=Beb I hq hc
 have P:=Ai0.1 I.pool
 have hk:=X.k
 have hd:=X.rc.done
 have ht:=X.to
 have hxq:x∈w.fQ:=by grind
 have hst: ∀c,0≤c∧c<w.fC.Ay->gt (A6k w x).Vi c=if c=gt x.Ay 0∧ ¬Aqv w x<w.fC.G8 then 0 else gt w.fP.Vi c:=by
  intro c h
  show gt (if Aqv w x<w.fC.G8 then w.fP.Vi else w.fP.Vi.set (gt x.Ay 0).toNat 0) c=_
  by_cases q:Aqv w x<w.fC.G8
  ·grind
  ·rw[if_neg q,A17 hk.1 (by rw[P.st];exact h)]
   omega
 have hz: ∀b m,Aqi ((w.fP.N7.drop b).take m)=true->Aqi (((A6k w x).N7.drop b).take m)=true:=fun b m h=>Bho h
 have hN:(gt x.Ay 0*w.fC.G8+x.Wz).toNat=(gt x.Ay 0*w.fC.G8).toNat+x.Wz.toNat:=by have:=X.at0;omega
 have hall: ∀m:Nat,m≤(Aqv w x).toNat->Aqi (((A6k w x).N7.drop (gt x.Ay 0*w.fC.G8).toNat).take m)=true:=by
  intro m h
  show Aqi (((Azu _ _ _).drop _).take m)=true;rw[hN];exact Bcg X.zero (by omega)
 have hlen:(A6k w x).N7.length=w.fP.N7.length:=Ayk _ _ _
 have hcons:x.Ay=gt x.Ay 0::x.Ay.drop 1:=by
  cases h:x.Ay with
  |nil=>grind
  |cons a l=>rfl
 have hnd:=Ays X.rc.dist
 have hch:chL w.fQ=x.Ay++chL qs:=by rw[hq];rfl
 have hn:=I.chn;rw[hch]at hn
 have hchi:=I.chi;rw[hch]at hchi;unfold A02;refine Bar I (A6k w x) _ _ ⟨P.conf,by rw[hlen];exact P.mem,?_,P.own,fun c h=> ?_⟩ (fun c h=>⟨?_,rfl⟩) (fun k h=> ?_) ?_ ?_ (fun y hy=> ?_) ?_ (fun c=> ?_) I.log
 ·show((if Aqv w x<w.fC.G8 then w.fP.Vi else w.fP.Vi.set (gt x.Ay 0).toNat 0).length:Int)=_
  grind [A18.st]
 ·obtain⟨p1,p2,p3,p4⟩:=P.one c h;rw[hst c h]
  show _∧(_->0≤gt w.fP.N8 c∧_)∧(_->gt w.fP.N8 c= -1)∧_
  by_cases q:c=gt x.Ay 0∧ ¬Aqv w x<w.fC.G8
  ·rw[if_pos q];refine⟨by omega,fun f=>by omega,fun _=>p3 (by grind),fun _=> ?_⟩
   unfold Avi
   grind
  ·rw[if_neg q];exact⟨p1,p2,p3,fun f=>hz _ _ (p4 f)⟩
 ·grind
 ·have:=(I.thing k h).2.2;unfold Arm at this ⊢
  grind
 ·grind [A2w,Axa]
 ·grind [A2w,slL]
 ·rcases Eg.1 hy with e|e
  ·subst e;unfold A2w
   by_cases q:Aqv w x<w.fC.G8
   ·rw[if_pos q];refine⟨Azd.2 ⟨X.rc.conf,X.rc.slot,X.rc.first,X.rc.ntag,X.rc.tags,X.rc.dist,⟨by grind,by grind⟩,fun f=> ?_⟩,?_⟩
    ·grind
    ·unfold An0
     grind
   ·rw[if_neg q];refine⟨Azd.2 ⟨X.rc.conf,X.rc.slot,X.rc.first,X.rc.ntag,X.rc.tags,?_,⟨Int.le_refl _,by grind⟩,fun _=>rfl⟩,?_⟩
    ·exact Bhq X.rc.dist
    ·unfold An0;rw[Bool.or_eq_true];exact .inr rfl
  ·obtain⟨a,b⟩:=I.wrec y (by grind)
   refine⟨a,?_⟩;unfold An0 at b ⊢
   grind
 ·show((A2w w x).Ay++chL qs).Nodup;unfold A2w
  grind
 ·show c∈(A2w w x).Ay++chL qs ↔ _;rw[hcons,Z45]at hn
  have hni:=(List.nodup_cons.1 hn).1
  have hci:=hchi c;rw[hcons,Z45,Eg]at hci;unfold A2w
  grind
def Bhr (g n:As)(k x:Int):As:=lnk n (if g.So=0∧x+1=g.fUp∧n.Ef=k+1 then g.Sn else n.Ef) (if x+1=g.So then g.Sn else n.Sn) (if x+1=g.Sn then g.So else n.So)
theorem Bfr{l l':List As}{t:Int->Lk}(A:AtT l t){k:Int}(hk:0≤k∧k<(l.length:Int))(hN:l'.length=l.length)(hg: ∀x,0≤x∧x<(l.length:Int)->x≠k->gt l' x=Bhr (gt l k) (gt l x) k x){gn:Int}(hb:gt l' k=Aqb 2 gn):AtT l' (rem t k):=by
 intro x hx;rw[hN]at hx
 by_cases e:x=k
 ·subst e;rw[A42,hb];rfl
 ·rw[Akx e,hg x hx e,A x hx,A k hk];rfl
theorem Bmf{w:C5}(I:Inv w){t:Int->Lk}(A:AtT w.fL t)(F:Agw w.fL.length t (Axa w.fQ)){k:Int}(hl:Lv w.fL.length t k)(l':List As)(q':List Az)(hN:l'.length=w.fL.length)
  (hg: ∀x,0≤x∧x<(w.fL.length:Int)->x≠k->gt l' x=Bhr (gt w.fL k) (gt w.fL x) k x) (hb:gt l' k=Aqb 2 (gt w.fL k).C9)
  (F':Agw w.fL.length (rem t k) (Axa q')) (hr: ∀x∈q',Ala w.fC x=true∧An0 w x=true)
  (hcn:(chL q').Nodup) (hci: ∀c,c∈chL q' ↔ c∈chL w.fQ++(gt w.fL k).Ay) (hsn:(slL q').Nodup) (hsi: ∀s,s∈slL q' ↔ s∈slL w.fQ∨s=k):
  Inv (C5.mk w.fC (Akr w.fP (gt w.fL k).Ay) l' q' w.Acy):=by
 have hk:=hl.1
 have P:=I.live A hl;obtain⟨L1,L2,L3⟩:=A1j I hk;refine⟨Ai0.2 L1,by simp_all[Inv.len],fun x hx=> ?_,fun x hx c=> ?_,fun x hx=> ?_,⟨rem t k,Bfr A hk hN hg hb,?_⟩,fun x hx=> ?_,hcn,fun c=> ?_,hsn,fun s=> ?_,I.log⟩
 ·have hx:0≤x∧x<(l'.length:Int):=hx;rw[hN]at hx
  show Aqj w.fC (gt l' x)=true
  by_cases e:x=k
  ·grind [A3w,Inv.conf,Aq1.gen]
  ·rw[hg x hx e];obtain⟨a1,a2,a3,a4⟩:=A4m (I.node k hk)
   by_cases hs:(gt w.fL x).Vi=1
   ·have X:=Ail.1 ⟨I.node x hx,hs⟩;refine(Ail.2 (A7x X ?_ ?_ ?_)).1
    ·split
     ·exact a3
     ·exact X.first
    ·split
     ·exact a3
     ·exact X.next
    ·split
     ·exact a4
     ·exact X.prev
   ·have X:=Ayj (I.node x hx) hs
    have B:=(A7r F.tree hl).bare x hx.1 hx.2 (by rw[Akx e,A x hx];grind [A3e])
    rw[Akx e,A x hx,A k hk]at B;obtain⟨_,B2,B3,B4⟩:=B
    have q1:(if(gt w.fL k).So=0∧x+1=(gt w.fL k).fUp∧(gt w.fL x).Ef=k+1 then(gt w.fL k).Sn else(gt w.fL x).Ef)=0:=B2
    have q2:(if x+1=(gt w.fL k).So then(gt w.fL k).Sn else(gt w.fL x).Sn)=0:=B3
    have q3:(if x+1=(gt w.fL k).Sn then(gt w.fL k).So else(gt w.fL x).So)=0:=B4
    have this:lnk (gt w.fL x) 0 0 0=gt w.fL x:=by rw[X];rfl
    grind [Bhr,Inv.node]
 ·have hx:0≤x∧x<(l'.length:Int):=hx;rw[hN]at hx
  show c∈(gt l' x).Ay ↔ (0≤c∧c<w.fC.Ay)∧gt (Akr w.fP (gt w.fL k).Ay).Vi c=1∧gt (Akr w.fP (gt w.fL k).Ay).N8 c=x
  by_cases e:x=k
  ·rw[e,hb];constructor
   ·intro q;cases q
   ·rintro⟨a,b,d⟩;rw[(L3 c a).1]at b;rw[(L3 c a).2]at d;split at b
    all_goals simp_all[Inv.own]
  ·rw[hg x hx e]
   show c∈(gt w.fL x).Ay ↔ _;rw[I.own x hx c];constructor
   ·rintro⟨a,b,d⟩
    have q:c ∉ (gt w.fL k).Ay:=fun q=>e (by have:=((I.own k hk c).1 q).2.2;omega)
    grind
   grind
 ·have hx:0≤x∧x<(l'.length:Int):=hx;rw[hN]at hx
  show(gt l' x).F6.all (Ari w.fC (gt l' x).Ay)=true∧Aph (gt l' x).F6=true∧Arm w.fC (Akr w.fP (gt w.fL k).Ay).N7 (gt l' x)=true
  by_cases e:x=k
  ·rw[e,hb];exact⟨rfl,rfl,rfl⟩
  ·rw[hg x hx e];obtain⟨t1,t2,t3⟩:=I.thing x hx;refine⟨t1,t2,?_⟩;rw[L2];exact t3
 ·grind
 ·obtain⟨a,b⟩:=hr x hx;refine⟨a,?_⟩;unfold An0 at b ⊢
  grind
 ·grind [Bap]
 ·show s∈slL q' ↔ (0≤s∧s<(l'.length:Int))∧(gt l' s).Vi=2;rw[hsi s,hN,I.sli];constructor
  ·rintro(⟨a,b⟩|a)
   ·refine⟨a,?_⟩
    have e:s≠k:=fun e=>by grind [Aq1.st]
    rw[hg s a e];exact b
   ·rw[a,hb];exact⟨hk,rfl⟩
  ·rintro⟨a,b⟩
   by_cases e:s=k
   ·omega
   ·rw[hg s a e]at b;exact .inl ⟨a,b⟩
def A2a (l:List As)(g:Int):List As:=((bif plB l (gt l g).Sn then l.set ((gt l g).Sn - 1).toNat (Blo (gt l ((gt l g).Sn - 1)) 0)else l).set g.toNat (Aqb 2 (gt l g).C9))
def Bci (l:List As)(x:Az):Az:=Az.mk x.Bm (gt l (x.Ef - 1)).Sn x.Fi x.Ay x.Wz
def A03 (w:C5)(x:Az)(qs:List Az):C5:=
 C5.mk w.fC (Akr w.fP (gt w.fL (x.Ef - 1)).Ay) (A2a w.fL (x.Ef - 1)) (Ag9 (gt w.fL (x.Ef - 1)) x.Ef::Bci w.fL x::qs) w.Acy
theorem Bcj (l:List As)(g:Int):(A2a l g).length=l.length:=by
 unfold A2a;grind
theorem Bfs{l:List As}(R:Rg l){g x:Int}(hg:0≤g∧g<(l.length:Int))(hx:0≤x∧x<(l.length:Int))(hne:x≠g)(hp:(gt l g).So=0)(hf: ¬(x+1=(gt l g).fUp∧(gt l x).Ef=g+1)):gt (A2a l g) x=Bhr (gt l g) (gt l x) g x:=by
 obtain⟨r1,r2,r3,r4⟩:=R.rg g hg
 have hl:=R.len;unfold A2a Bhr;rw[Bce r3.1 r3.2 hl,hp,if_neg (fun q=>hf q.2),if_neg (by omega: ¬x+1=0)]
 by_cases h:(gt l g).Sn=0
 ·rw[h];simp only[beq_self_eq_true,Bool.not_true,cond_false];rw[Ap4 hg hx,if_neg hne,if_neg (by omega)];rfl
 ·rw[App h];simp only[Bool.not_false,cond_true];rw[Ap4 (by grind) (by grind),if_neg hne,Ap4 (by omega) hx]
  by_cases e:x=(gt l g).Sn - 1
  ·rw[if_pos e,if_pos (by omega),←e];rfl
  ·rw[if_neg e,if_neg (by omega)];rfl
theorem Bft{l:List As}{g:Int}(hg:0≤g∧g<(l.length:Int)):gt (A2a l g) g=Aqb 2 (gt l g).C9:=by
 unfold A2a;rw[Azc]
 grind
structure Byf (w:C5)(t:Int->Lk)(x:Az)(qs:List Az):Prop where
 rc:Bma w.fC x
 lv:Lv w.fL.length t (x.Ef - 1)
 or:Oo w.fL.length t (x.Ef - 1)
 pv:(gt w.fL (x.Ef - 1)).So=0
 fr:Agw w.fL.length (rem t (x.Ef - 1)) (Axa (Ag9 (gt w.fL (x.Ef - 1)) x.Ef::Bci w.fL x::qs))
 nf: ∀y,0≤y∧y<(w.fL.length:Int)-> ¬(y+1=(gt w.fL (x.Ef - 1)).fUp∧(gt w.fL y).Ef=x.Ef - 1+1)
theorem Bat{w:C5}(I:Inv w){t:Int->Lk}(A:AtT w.fL t)(F:Agw w.fL.length t (Axa w.fQ)){x:Az}{qs:List Az}(hq:w.fQ=x::qs)(hf:x.Ef≠0):Byf w t x qs:=by
 have R:=Azd.1 (Azj I hq).1
 have hx:x∈w.fQ:=by grind
 have hF:=R.first
 have e:x.Ef - 1+1=x.Ef:=by omega
 have F1:Agw w.fL.length t ((x.Bm,x.Ef - 1+1)::Axa qs):=by rw[e];rw[hq]at F;exact F
 obtain⟨h1,h2,h3⟩:=Bca F1 (by omega)
 have hin:=h1.1
 have hor:Oo w.fL.length t (x.Ef - 1):=F.kid.or (Inv.qs hx) (A43 hin)
 have hpv:(gt w.fL (x.Ef - 1)).So=0:=by rw[A _ hin]at h2;exact h2
 refine⟨R,h1,hor,hpv,?_,?_⟩
 ·rw[A _ hin,e]at h3;exact h3
 ·rintro y hy ⟨a,b⟩
  have hup:(t (x.Ef - 1)).up=y+1:=by rw[A _ hin,a];rfl
  have hfi:(t y).fi=x.Ef:=by rw[A _ hy,←e,←b];rfl
  cases hlv:(t y).lv with
  |false=>
   have:=(F.tree.bare y hy.1 hy.2 hlv).2.1;omega
  |true=>
   have hY:Lv w.fL.length t y:=⟨hy,hlv⟩
   have:=(F.tree.link y hY).first (by omega)
   rw[hfi]at this;refine hor.2.2 ⟨?_,?_⟩
   all_goals grind
theorem Bmg{w:C5}(I:Inv w){x:Az}{qs:List Az}(hq:w.fQ=x::qs)(hf:x.Ef≠0):Inv (A03 w x qs):=by
 obtain⟨t,A,F⟩:=I.forest
 have X:=Bat I A F hq hf
 have hk:=X.lv.1
 have hF:=X.rc.first
 have L:=I.live A X.lv;obtain⟨b1,b2,b3,b4,b5,b6⟩:=A1 I.conf
 have hch:chL w.fQ=x.Ay++chL qs:=by rw[hq];rfl
 have hcn:=Bao I hk;rw[hch]at hcn
 have hsl:slL w.fQ=(if x.Bm=0 then []else [An7 .i64 x.Bm 1])++slL qs:=by rw[hq];rfl
 have hsn:=I.sln;rw[hsl]at hsn
 have e1:slL (Ag9 (gt w.fL (x.Ef - 1)) x.Ef::Bci w.fL x::qs)=(x.Ef - 1)::((if x.Bm=0 then []else [An7 .i64 x.Bm 1])++slL qs):=by
  show(if x.Ef=0 then []else [An7 .i64 x.Ef 1])++_=_
  rw[if_neg hf,sb1 (by omega) (by omega)];rfl
 have hns:x.Ef - 1 ∉ slL w.fQ:=fun h=>by
  have:=((I.sli _).1 h).2
  grind [Aq1.st]
 unfold A03;refine Bmf I A F X.lv _ _ (Bcj _ _) (fun y hy hne=>Bfs I.rg hk hy hne X.pv (X.nf y hy)) (Bft hk) X.fr (fun y hy=> ?_) ?_ (fun c=> ?_) ?_ (fun s=> ?_)
 ·rcases Eg.1 hy with e|e
  ·grind [A3h,A7y]
  ·rcases Eg.1 e with e|e
   ·rw[e];exact⟨Azd.2 ⟨X.rc.conf,X.rc.slot,L.next,X.rc.ntag,X.rc.tags,X.rc.dist,X.rc.done,X.rc.zero⟩,(Azj I hq).2⟩
   grind [Inv.wrec]
 ·show((gt w.fL (x.Ef - 1)).Ay++(x.Ay++chL qs)).Nodup
  grind
 ·rw[hch]
  show c∈(gt w.fL (x.Ef - 1)).Ay++(x.Ay++chL qs) ↔ _
  grind
 all_goals grind
end Go.Proofs.YtcdojenmonmcfaaGreat
