/- The plain law for FnTags; no condition. -/
import Derived.Test.YtcdojenmonmcfaaGreatFFnTagsTb
import Derived.Test.YtcdojenmonmcfaaGreatFFnTagsW
set_option linter.all false
namespace Go.Proofs.YtcdojenmonmcfaaGreat
open Go.Eng Go.ChangeShapes Go.WideShapes Go.ChangeAt Go.RowKit
theorem Ad5{i:Nat}(h:i≤140737488355328):An6 .i64 (i:Int) 1=((i+1:Nat):Int):=by
 grind [An6,IntKind.wrap_i64]
theorem V2{α:Type}[Inhabited α]{l:List α}{i:Nat}(h:i<l.length):gt l (i:Int)=l[i]:=by
 grind [gt]
theorem Aou{α:Type}[Inhabited α]{l:List α}{i:Nat}(h:i<l.length):gt l (i:Int)∈l:=by
 grind [V2]
theorem Akq{α:Type}[Inhabited α]{l:List α}{i:Int}(h0:0≤i)(h:i<l.length):gt l i∈l:=by
 obtain⟨k,rfl⟩: ∃k:Nat,i=k:=⟨i.toNat,by omega⟩
 grind [Aou]
theorem Ad7{i k:Nat}(h:i<k):decide ((i:Int)<(k:Int))=true:=by grind
theorem Ars{i k:Nat}(h:k≤i):decide ((i:Int)<(k:Int))=false:=by grind
theorem Bm9 (a:List Int)(ha:a.length≤140737488355328)
  (L:Nat->Int->Option Bool) (hL: ∀n i,L (n+1) i=bif decide (i<(a.length:Int))then(if(0:Int)≤i∧i<(a.length:Int)then(if(0:Int)≤i∧i<(a.length:Int)then(bif (gt a i != gt a i)then some false else L n (An6 .i64 i 1))else none)else none)else some true):
  ∀(n i:Nat),i≤a.length->a.length - i<n->L n (i:Int)=some true:=by
 intro n
 induction n with
 |zero=>omega
 |succ n ih=>
  intro i hi hn;rw[hL];rcases Hn i a.length with h|h
  ·rw[Ad7 h];simp only[cond_true];rw[if_pos ⟨by omega,by omega⟩,if_pos ⟨by omega,by omega⟩,Ad5 (by omega)]
   simp only[bne_self_eq_false,cond_false];exact ih (i+1) h (by omega)
  ·rw[Ars h];rfl
theorem K0{n:Int}(h0: -9223372036854775808≤n)(h1:n≤9223372036854775807):IntKind.i64.wrap n=n:=by rw[IntKind.wrap_i64];omega
theorem Bep (n:Int): -9223372036854775808≤IntKind.i64.wrap n∧IntKind.i64.wrap n≤9223372036854775807:=by rw[IntKind.wrap_i64];omega
theorem A0m{a b:Int}(h: ¬a=b):(a != b)=true:=by simpa using h
theorem Aps{a b:Int}(h: ¬a=b):(a==b)=false:=by simpa using h
def inB (x a b:Int):Bool:=decide (a≤x∧x≤b)
theorem Acw{x a b:Int}:inB x a b=true ↔ a≤x∧x≤b:=by unfold inB;exact decide_eq_true_iff
theorem A7l{x a b:Int}:inB x a b=false ↔ ¬(a≤x∧x≤b):=by unfold inB;exact decide_eq_false_iff_not
theorem At2 (b:Bool)(x:Bool):(bif b then some x else some false)=some (b&&x):=by cases b<;>rfl
theorem Bna (b:Bool)(x:Bool):(bif b then some false else some x)=some (!b&&x):=by cases b<;>rfl
theorem A1b (b:Bool)(x:Bool):(bif b then some true else some x)=some (b||x):=by cases b<;>rfl
theorem Ae2{α:Type}(b:Bool)(x y:α):(bif !b then x else y)=(bif b then y else x):=by cases b<;>rfl
theorem Aiy{i n:Nat}(h:i<n):((0:Int)≤(i:Int)∧(i:Int)<(n:Int)):=⟨by omega,by omega⟩
theorem Bwt{α:Type}(l:List α)(q:α->Bool)(fin:Option Bool)(L:Nat->Int->Option Bool)
  (hs: ∀n (i:Nat) (h:i<l.length),L (n+1) (i:Int)=bif q l[i]then L n ((i+1:Nat):Int)else some false)
  (he: ∀n,L (n+1) (l.length:Int)=fin):
  ∀(n i:Nat),i≤l.length->l.length - i<n->L n (i:Int)=bif (l.drop i).all q then fin else some false:=by
 intro n
 induction n with
 |zero=>omega
 |succ n ih=>
  intro i hi hn;rcases Hn i l.length with h|h
  ·rw[hs n i h,Z47 h,Ge];cases q l[i]with
   |false=>rfl
   |true=>grind
  grind
theorem Aso{α:Type}{K:Nat}(hK:281474976710656≤K)(l:List α)(hl:l.length≤140737488355328)(q:α->Bool)(fin:Option Bool)(L:Nat->Int->Option Bool)
  (hs: ∀n (i:Nat) (h:i<l.length),L (n+1) (i:Int)=bif q l[i]then L n ((i+1:Nat):Int)else some false)
  (he: ∀n,L (n+1) (l.length:Int)=fin):L K 0=bif l.all q then fin else some false:=by
 have:=Bwt l q fin L hs he K 0 (Z21 _) (by omega)
 simpa using this
theorem Apw{K:Nat}(hK:281474976710656≤K)(N:Nat)(hl:N≤140737488355328)(q:Nat->Bool)(fin:Option Bool)(L:Nat->Int->Option Bool)
  (hs: ∀n (i:Nat) (h:i<N),L (n+1) (i:Int)=bif q i then L n ((i+1:Nat):Int)else some false)
  (he: ∀n,L (n+1) (N:Int)=fin):L K 0=bif (List.range N).all q then fin else some false:=by
 refine Aso hK (List.range N) (by simpa using hl) q fin L (fun n i h=> ?_) (fun n=> ?_)
 ·rw[List.getElem_range];exact hs n i (by simpa using h)
 ·rw[List.length_range];exact he n
theorem Bnb{α:Type}(l:List α)(q:α->Bool)(L:Nat->Int->Int->Option Int)
  (hs: ∀n (i:Nat) (h:i<l.length),L (n+1) (l.length:Int) (i:Int)=bif q l[i]then some (i:Int)else L n (l.length:Int) ((i+1:Nat):Int))
  (he: ∀n,L (n+1) (l.length:Int) (l.length:Int)=some (-1)):
  ∀(n i:Nat),i≤l.length->l.length - i<n-> ∃r,L n (l.length:Int) (i:Int)=some r∧decide (r≥0)=(l.drop i).any q:=by
 intro n
 induction n with
 |zero=>omega
 |succ n ih=>
  intro i hi hn;rcases Hn i l.length with h|h
  ·rw[hs n i h,Z47 h,List.any_cons]
   grind
  ·obtain rfl:i=l.length:=by omega
   exact⟨_,he n,by simp⟩
theorem A4l{α:Type}[Inhabited α]{K:Nat}(hK:281474976710656≤K)(l:List α)(hl:l.length≤140737488355328)(f:α->Option Bool)(q:α->Bool)(hf: ∀x∈l,f x=some (q x))(L:Nat->Int->Int->Option Int)
  (hL: ∀n N i,L (n+1) N i=bif decide (i<N)then(if(0:Int)≤i∧i<(l.length:Int)then(f (gt l i)).bind (fun r=>bif r then some i else L n N (An6 .i64 i 1))else none)else some (-1)):
  ((L K (l.length:Int) 0).bind fun r=>some (decide (r≥0)))=some (l.any q):=by
 obtain⟨r,h1,h2⟩:=Bnb l q L (fun n i h=>by
  rw[hL,Ad7 h,cond_true,if_pos (Aiy h),hf _ (Aou h),V2 h,Z0,Ad5 (by omega)]) (fun n=>by rw[hL,Ars (Z9 _),cond_false]) K 0 (Z21 _) (by omega)
 rw[show((0:Nat):Int)=0 from rfl]at h1
 rw[h1,Z0,h2,Z55]
theorem A3t{K:Nat}(hK:281474976710656≤K)(l:List Int)(x:Int)(hl:l.length≤140737488355328):Anh K l x=some (l.contains x):=by
 unfold Anh Axw;obtain⟨r,h1,h2⟩:=Bnb l (fun y=>x==y) (Aog K l x) (fun n i h=>by
  rw[Aog,Ad7 h,cond_true,if_pos (Aiy h),V2 h,Ad5 (by omega)]) (fun n=>by simp_all[Aog]) K 0 (Z21 _) (by omega)
 grind
theorem A1c{K:Nat}(hK:281474976710656≤K)(l:List Int)(x:Int)(hl:l.length≤140737488355328):Ap7 K l x=some (l.contains x):=by
 unfold Ap7
 have h: ∀(n i:Nat),i≤l.length->l.length - i<n->Avf K l x n (i:Int)=some ((l.drop i).contains x):=by
  intro n
  induction n with
  |zero=>omega
  |succ n ih=>
   intro i hi hn;rw[Avf];rcases Hn i l.length with h|h
   ·rw[Ad7 h,cond_true,if_pos (Aiy h),V2 h,Ad5 (by omega),ih (i+1) h (by omega),Z47 h,List.contains_cons,A1b,Bool.beq_comm]
   grind
 have:=h K 0 (Z21 _) (by omega)
 grind
theorem Ane (K:Nat)(x a b:Int):Gx K x a b=some (inB x a b):=by
 unfold Gx inB
 grind
theorem Auu (K:Nat)(x a b:Int):Wx K x a b=some (inB x a b):=Ane K x a b
def Ahn (c:Ea):Bool:=inB c.Ay 2 12&&(inB c.G8 8 16&&(inB c.E6 2 8&&(inB c.Gu 1 8&&(inB c.E7 1 16&&inB c.G9 1 4))))
theorem Aq6 (K:Nat)(c):Ani K c=some (Ahn c):=by
 simp_all[Ani,Ane,At2,Ahn]
theorem A3u (K:Nat)(c):Aun K c=some (Ahn c):=Aq6 K c
theorem F2{c:Ea}(h:Ahn c=true):(2≤c.Ay∧c.Ay≤12)∧(8≤c.G8∧c.G8≤16)∧(2≤c.E6∧c.E6≤8)∧(1≤c.Gu∧c.Gu≤8)∧(1≤c.E7∧c.E7≤16)∧(1≤c.G9∧c.G9≤4):=by
 simp_all[Ahn,Acw]
def Ala (c:Ea):Int:=bif Ahn c then c.Ay*c.G8 else 0
theorem Au4{a b m n:Int}(h1:0≤a)(h2:a≤m)(h3:0≤b)(h4:b≤n):0≤a*b∧a*b≤m*n:=
 ⟨Int.mul_nonneg h1 h3,Int.mul_le_mul h2 h4 h3 (by omega)⟩
theorem At3 (K:Nat)(c):Arf K c=some (Ala c):=by
 unfold Arf Ala;rw[Aq6,Z0,Ae2];cases h:Ahn c with
 |false=>rfl
 |true=>
  obtain⟨h1,h2,_⟩:=F2 h
  have:=Au4 (a:=c.Ay) (b:=c.G8) (m:=12) (n:=16) (by omega) h1.2 (by omega) h2.2
  simp only[cond_true,An8]
  grind [K0]
theorem A21 (K:Nat)(c):Ayw K c=some (Ala c):=At3 K c
theorem A1d (c:Ea):0≤Ala c∧Ala c≤192:=by
 unfold Ala;cases h:Ahn c with
 |false=>simp
 |true=>
  obtain⟨h1,h2,_⟩:=F2 h
  have:=Au4 (a:=c.Ay) (b:=c.G8) (m:=12) (n:=16) (by omega) h1.2 (by omega) h2.2
  grind
section
variable {K:Nat} (hK:281474976710656≤K)
include hK
def Aqu (l:List Int):Bool:=l.all (fun x=>x==0)
theorem A1w (l:List Int)(hl:l.length≤140737488355328):Asj K l=some (Aqu l):=by
 unfold Asj;rw[Aso hK l hl (fun x=>x==0) (some true) (Arz K l) (fun n i h=>by
  rw[Arz,Ad7 h,cond_true,if_pos (Aiy h),V2 h,Ad5 (by omega)]
  grind) (fun n=>by simp_all[Arz])]
 grind [Aqu]
theorem A3v (l:List Int)(hl:l.length≤140737488355328):Auo K l=some (Aqu l):=by
 unfold Auo Aks Al5;rw[A4l hK l hl (A0k K) (fun x=>x != 0) (fun x _=>rfl) (Agw K l) (fun n N i=>rfl)]
 simp_all[Aqu,List.not_any_eq_all_not,bne]
end
def Att (a b:Int):Int:=bif inB a 0 1000000000&&inB b 1 1000000000 then(a+b - 1) / b else 0
theorem A07 (K:Nat)(a b:Int):Ayh K a b=some (Att a b):=by
 unfold Ayh Att;rw[Ane,Ane,Z0];cases h1:inB a 0 1000000000 with
 |false=>rfl
 |true=>
  cases h2:inB b 1 1000000000 with
  |false=>rfl
  |true=>
   rw[Acw]at h1 h2;simp only[Z0,cond_true,Bool.not_true,cond_false,Bool.and_self];rw[if_pos (by omega)]
   unfold Alk An7 An6;rw[K0 (n:=a+b) (by omega) (by omega),K0 (n:=a+b - 1) (by omega) (by omega)]
   rw[Int.tdiv_eq_ediv_of_nonneg (by omega)]
   have h3:(a+b - 1) / b≤a+b - 1:=Int.ediv_le_self _ (by omega)
   have h4:0≤(a+b - 1) / b:=Int.ediv_nonneg (by omega) (by omega)
   grind [K0]
def Avv (c:Ea)(mem:List Int)(k:Int):List Int:=(mem.drop (k*c.G8).toNat).take c.G8.toNat
def A1x (c:Ea)(p:Dn)(k:Nat):Bool:=
 inB (gt p.Vi k) 0 2&&((bif gt p.Vi k==1 then inB (gt p.N8 k) 0 (c.E6 - 1)else gt p.N8 k== -1)&&(bif gt p.Vi k==0 then Aqu (Avv c p.N7 k)else true))
def Au5 (c:Ea)(p:Dn):Bool:=
 Ahn c&&((p.N7.length:Int)==Ala c&&((p.Vi.length:Int)==c.Ay&&((p.N8.length:Int)==c.Ay&&(List.range c.Ay.toNat).all (A1x c p))))
theorem Atr{c:Ea}{p:Dn}(h:Au5 c p=true):Ahn c=true∧(p.N7.length:Int)=c.Ay*c.G8∧(p.Vi.length:Int)=c.Ay∧(p.N8.length:Int)=c.Ay∧ ∀k,k<c.Ay.toNat->A1x c p k=true:=by
 simp_all[Au5,Ala]
theorem A2l{c:Ea}(hc:Ahn c=true){mem:List Int}(hm:(mem.length:Int)=c.Ay*c.G8){k:Int}(h0:0≤k)(h1:k<c.Ay):
  An8 .i64 k c.G8=k*c.G8∧An8 .i64 (An6 .i64 k 1) c.G8=k*c.G8+c.G8∧0≤k*c.G8∧k*c.G8+c.G8≤(mem.length:Int):=by
 obtain⟨b1,b2,_⟩:=F2 hc
 have m1:=Au4 (a:=k) (b:=c.G8) (m:=12) (n:=16) h0 (by omega) (by omega) b2.2
 have e2:(k+1)*c.G8=k*c.G8+c.G8:=by grind
 have m2:(k+1)*c.G8≤c.Ay*c.G8:=Int.mul_le_mul_of_nonneg_right (by omega) (by omega)
 rw[e2]at m2;refine⟨?_,?_,m1.1,by omega⟩
 all_goals grind [An8,K0,An6]
section
variable {K:Nat} (hK:281474976710656≤K)
include hK
theorem A73{c:Ea}(hc:Ahn c=true){p:Dn}(hm:(p.N7.length:Int)=c.Ay*c.G8){k:Int}(h0:0≤k)(h1:k<c.Ay):Asd K p c k=some (Avv c p.N7 k):=by
 obtain⟨e1,e2,e3,e4⟩:=A2l hc hm h0 h1;obtain⟨b1,b2,_⟩:=F2 hc;unfold Asd;rw[e1,e2,if_pos ⟨e3,by omega,e4⟩]
 unfold Avv
 grind
theorem A60 (c:Ea)(p:Dn):Awt K c p=some (Au5 c p):=by
 unfold Awt;rw[Aq6,At3];simp only[Z0];cases hc:Ahn c with
 |false=>simp[Au5,hc]
 |true=>
 obtain⟨b1,b2,b3,_⟩:=F2 hc
 have hby:Ala c=c.Ay*c.G8:=by rw[Ala,hc];rfl
 simp only[cond_true,Au5,hc,Z30,bne];cases h1:(p.N7.length:Int)==Ala c with
 |false=>rfl
 |true=>
 cases h2:(p.Vi.length:Int)==c.Ay with
 |false=>rfl
 |true=>
 cases h3:(p.N8.length:Int)==c.Ay with
 |false=>rfl
 |true=>
 rw[beq_iff_eq]at h1 h2 h3
 have hN:((c.Ay.toNat:Nat):Int)=c.Ay:=by omega
 simp only[Bool.not_true,cond_false,Z30];rw[Apw hK c.Ay.toNat (by omega) (A1x c p) (some true) (fun n i=>Aly K c n i p.N7 p.Vi p.N8) (fun n i h=> ?_) (fun n=> ?_)]
 ·grind
 ·obtain⟨e1,e2,e3,e4⟩:=A2l hc (h1.trans hby) (k:=(i:Int)) (by omega) (by omega)
  have hl:(List.take (i*c.G8+c.G8 - i*c.G8).toNat (List.drop (i*c.G8).toNat p.N7)).length≤140737488355327:=by grind
  have hs:An7 .i64 c.E6 1=c.E6 - 1:=by grind [An7,K0]
  have hck:List.take (i*c.G8+c.G8 - i*c.G8).toNat (List.drop (i*c.G8).toNat p.N7)=Avv c p.N7 i:=by
   unfold Avv;grind
  simp only[Aly,Ar0,Aw7];rw[e1,e2,Ad5 (by omega),decide_eq_true (show(i:Int)<c.Ay by omega),cond_true,if_pos ⟨by omega,by omega⟩,Ane,Ane,hs,A1w hK _ (by omega),hck]
  simp only[Z0,bne,show((0:Int)≤(i:Int)∧(i:Int)<(p.Vi.length:Int))=True from eq_true ⟨by omega,by omega⟩,show((0:Int)≤(i:Int)∧(i:Int)<(p.N8.length:Int))=True from eq_true ⟨by omega,by omega⟩,if_true,if_pos (show(0:Int)≤i*c.G8∧(i:Int)*c.G8≤i*c.G8+c.G8∧(i:Int)*c.G8+c.G8≤(p.N7.length:Int) from⟨e3,by omega,e4⟩)]
  unfold A1x
  grind
 ·show Aly K c (n+1) _ _ _ _=_
  simp_all[Aly]
theorem Bcl (c:Ea)(p:Dn):Az2 K c p=some (Au5 c p):=by
 unfold Az2;rw[A3u,A21];simp only[Z0];cases hc:Ahn c with
 |false=>simp[Au5,hc]
 |true=>
 obtain⟨b1,b2,b3,_⟩:=F2 hc
 have hby:Ala c=c.Ay*c.G8:=by rw[Ala,hc];rfl
 simp only[cond_true,Au5,hc,Z30,bne];cases h1:(p.N7.length:Int)==Ala c with
 |false=>rfl
 |true=>
 cases h2:(p.Vi.length:Int)==c.Ay with
 |false=>rfl
 |true=>
 cases h3:(p.N8.length:Int)==c.Ay with
 |false=>rfl
 |true=>
 rw[beq_iff_eq]at h1 h2 h3
 have hN:((c.Ay.toNat:Nat):Int)=c.Ay:=by omega
 simp only[Bool.not_true,cond_false,Z30];rw[Apw hK c.Ay.toNat (by omega) (A1x c p) (some true) (fun n i=>Ajb K c n p.Vi (p.Vi.length:Int) i p.N7 p.Vi p.N8) (fun n i h=> ?_) (fun n=> ?_)]
 ·grind
 ·have hs:An7 .i64 c.E6 1=c.E6 - 1:=by grind [An7,K0]
  have hl:(Avv c p.N7 i).length≤140737488355327:=by grind [Avv]
  simp only[Ajb,Aqq,Axj];rw[A73 hK hc (h1.trans hby) (by omega) (by omega),Ad5 (by omega),decide_eq_true (show(i:Int)<(p.Vi.length:Int)by omega),cond_true,if_pos ⟨by omega,by omega⟩,Auu,Auu,hs]
  simp only[Z0,A3v hK _ (show(Avv c p.N7 i).length≤140737488355328 by omega),bne,show((0:Int)≤(i:Int)∧(i:Int)<(p.N8.length:Int))=True from eq_true ⟨by omega,by omega⟩,if_true]
  unfold A1x
  grind
 ·show Ajb K c (n+1) _ _ _ _ _ _=_
  simp_all[Ajb]
end
def Axt (c:Ea)(t:Bc):Prop:=Ahn c=true∧1≤t.Ajm∧0≤t.fAt∧t.fAt+t.Ajm≤Ala c
instance (c t):Decidable (Axt c t):=by unfold Axt;infer_instance
def Apt (c:Ea)(t:Bc):Bool:=
 decide (Axt c t)&&(bif t.Ajn==0 then decide (t.Ajm≤c.G8)&&(t.fAt / c.G8==(t.fAt+t.Ajm - 1) / c.G8)else decide (t.Ajm>c.G8)&&(t.Ajn==Att t.Ajm c.G8&&t.fAt % c.G8==0))
theorem A74 (K:Nat){c:Ea}{t:Bc}(h:Axt c t):
  (bif (t.Ajn==0)then(bif (decide (t.Ajm≤c.G8))then(if c.G8≠(0:Int)then(if c.G8≠(0:Int)then some ((Alk .i64 t.fAt c.G8)==(Alk .i64 (An7 .i64 (An6 .i64 t.fAt t.Ajm) 1) c.G8))else none)else none)else some false)else((Ao7 K c t.Ajm).bind fun r2=>(bif r2 then((Al1 K c t.Ajm).bind fun r3=>(bif (t.Ajn==r3)then(if c.G8≠(0:Int)then some ((Int.tmod t.fAt c.G8)==0)else none)else some false))else some false)))=some (Apt c t):=by
 have hd:decide (Axt c t)=true:=decide_eq_true h;obtain⟨hc,h1,h2,h3⟩:=h
 have hb:=A1d c;obtain⟨b1,b2,_⟩:=F2 hc;unfold Apt Ao7 Al1;rw[hd,if_pos (by omega),if_pos (by omega),A07]
 have e1:An7 .i64 (An6 .i64 t.fAt t.Ajm) 1=t.fAt+t.Ajm - 1:=by
  unfold An7 An6;rw[K0 (n:=t.fAt+t.Ajm) (by omega) (by omega),K0 (by omega) (by omega)]
 have e2: ∀x:Int,0≤x->x≤192->Alk .i64 x c.G8=x / c.G8:=by
  intro x h0 hx;unfold Alk;rw[Int.tdiv_eq_ediv_of_nonneg h0]
  have h3:x / c.G8≤x:=Int.ediv_le_self _ h0
  have h4:0≤x / c.G8:=Int.ediv_nonneg h0 (by omega)
  grind [K0]
 grind
theorem Bcm{c:Ea}{t:Bc}(h: ¬Axt c t):Apt c t=false:=by
 grind [Apt]
theorem A5h (K:Nat)(c:Ea)(t:Bc):As3 K c t=some (Apt c t):=by
 have hb:=A1d c
 by_cases h:Axt c t
 ·rw[←A74 K h];obtain⟨hc,h1,h2,h3⟩:=h;unfold As3;rw[At3,Z0,Aps (by omega),decide_eq_false (by omega),decide_eq_false (by omega),decide_eq_false (by omega)]
  unfold An7;rw[K0 (by omega) (by omega),decide_eq_false (show ¬t.Ajm>Ala c - t.fAt by omega)]
  rfl
 ·rw[Bcm h];unfold As3;rw[At3,Z0]
  by_cases g0:Ala c=0
  ·grind
  ·have hc:Ahn c=true:=by
    grind [Ala]
   rw[Aps g0,cond_false]
   by_cases g1:t.Ajm<1
   ·grind
   ·by_cases g2:t.fAt<0
    ·grind
    ·by_cases g3:t.fAt>Ala c
     ·grind
     ·rw[decide_eq_false g1,decide_eq_false g2,decide_eq_false g3];unfold An7;rw[K0 (by omega) (by omega),decide_eq_true (show t.Ajm>Ala c - t.fAt from ?_)]
      ·rfl
      ·refine Classical.byContradiction fun g4=>h ⟨hc,by omega,by omega,by omega⟩
theorem A5i (K:Nat)(c:Ea)(t:Bc):Atg K c t=some (Apt c t):=by
 have hb:=A1d c
 by_cases h:Axt c t
 ·rw[←A74 K h];obtain⟨hc,h1,h2,h3⟩:=h;unfold Atg;rw[A21,Z0,decide_eq_false (by omega),decide_eq_false (by omega),decide_eq_false (by omega)]
  unfold An7;rw[K0 (by omega) (by omega),decide_eq_false (show ¬t.fAt>Ala c - t.Ajm by omega)]
  rfl
 ·rw[Bcm h];unfold Atg;rw[A21,Z0]
  by_cases g1:t.Ajm≤0
  ·grind
  ·by_cases g2:t.fAt<0
   ·grind
   ·by_cases g3:t.Ajm>Ala c
    ·grind
    ·rw[decide_eq_false g1,decide_eq_false g2,decide_eq_false g3]
     have hc:Ahn c=true:=by
      cases hc:Ahn c with
      |true=>rfl
      |false=>simp_all[Ala]
     unfold An7;rw[K0 (by omega) (by omega),decide_eq_true (show t.fAt>Ala c - t.Ajm from ?_)]
     ·rfl
     ·refine Classical.byContradiction fun g4=>h ⟨hc,by omega,by omega,by omega⟩
theorem A6e{α:Type}(l:List α)(i:Nat):(l.drop (0:Int).toNat).take ((i:Int) - 0).toNat=l.take i:=by simp
theorem Bcn{i n:Nat}(h:i≤n):((0:Int)≤0∧(0:Int)≤(i:Int)∧(i:Int)≤(n:Int)):=by grind
def Auk (c:Ea)(l:List Int):Bool:=(List.range l.length).all (fun i=>inB (gt l i) 0 (c.Ay - 1)&& !(l.take i).contains (gt l i))
def A5j (n:As):Bool:=
 n.Sl==0&&(n.fUp==0&&(n.Sm==0&&(n.Ef==0&&(n.Sn==0&&(n.So==0&&((n.Ay.length:Int)==0&&(n.Acx==0&&(n.Sq==0&&((n.F6.length:Int)==0&&(n.Fi.length:Int)==0)))))))))
theorem Bh9 (K:Nat)(n):A1t K n=some (A5j n):=by
 grind [A1t,A5j]
theorem Bia{K:Nat}(hK:1≤K)(l:List Int):Anr K l []=some ((l.length:Int)==0):=by
 obtain⟨k,rfl⟩: ∃k,K=k+1:=⟨K - 1,by omega⟩
 cases l with
 |nil=>rfl
 |cons x l=>rfl
theorem Beq{K:Nat}(hK:1≤K)(l:List Bc):Aru K l []=some ((l.length:Int)==0):=by
 obtain⟨k,rfl⟩: ∃k,K=k+1:=⟨K - 1,by omega⟩
 cases l with
 |nil=>rfl
 |cons x l=>rfl
theorem Bib{K:Nat}(hK:1≤K)(n):A1v K n=some (A5j n):=by
 simp_all[A1v,A0l,At2,A5j,Bia,Beq]
def A5k (c:Ea)(n:As):Bool:=bif n.Acx==0 then n.Sq==0 else n.Ay.contains (An7 .i64 n.Acx 1)&&inB n.Sq 0 c.G8
def A75 (c:Ea)(n:As):Bool:=
 (inB n.fUp 0 c.E6&&(inB n.Ef 0 c.E6&&(inB n.Sn 0 c.E6&&inB n.So 0 c.E6)))&&((!decide (n.Sl<0)&& !decide (n.Sm<0))&&((Auk c n.Ay&&A5k c n)&&((decide ((n.F6.length:Int)≤12)&&decide ((n.Fi.length:Int)≤6))&&(n.Fi.all (fun x=>inB x 0 255)&&n.F6.all (Apt c)))))
def Ap6 (c:Ea)(n:As):Bool:=Ahn c&&(inB n.Vi 0 3&&(inB n.C9 1 c.G9&&(bif n.Vi != 1 then A5j n else A75 c n)))
section
variable {K:Nat} (hK:281474976710656≤K)
include hK
theorem Azo{c:Ea}(hc:Ahn c=true):An7 .i64 c.Ay 1=c.Ay - 1:=by
 obtain⟨b1,_⟩:=F2 hc
 grind [An7,K0]
theorem A4z{c:Ea}(hc:Ahn c=true)(l:List Int)(hl:l.length≤140737488355327):Aug K c l=some (Auk c l):=by
 unfold Aug;rw[Apw hK l.length (by omega) (fun i=>inB (gt l i) 0 (c.Ay - 1)&& !(l.take i).contains (gt l i)) (some true) (fun n i=>Apd K c l n l (l.length:Int) i) (fun n i h=> ?_) (fun n=> ?_)]
 ·grind [Auk]
 ·have hp:(l.take i).length≤140737488355328:=by grind
  simp only[Apd];rw[Ad7 h,cond_true,if_pos (Aiy h),Auu,if_pos (Bcn (by omega)),A6e,A3t hK _ _ hp,Ad5 (by omega),Azo hK hc]
  grind
 ·show Apd K c l (n+1) _ _ _=_
  simp_all[Apd]
theorem A9g{c:Ea}(hc:Ahn c=true)(n:As)(hl:n.Ay.length≤140737488355327):Aw9 K c n=some (Auk c n.Ay&&A5k c n):=by
 unfold Aw9;rw[Apw hK n.Ay.length (by omega) (fun i=>inB (gt n.Ay i) 0 (c.Ay - 1)&& !(n.Ay.take i).contains (gt n.Ay i)) (some (A5k c n)) (fun k i=>Ao0 K c k i n.Vi n.C9 n.Sl n.fUp n.Sm n.Ef n.Sn n.So n.Ay n.Acx n.Sq n.F6 n.Fi) (fun k i h=> ?_) (fun k=> ?_)]
 ·rw[At2];rfl
 ·have hp:(n.Ay.take i).length≤140737488355328:=by grind
  simp only[Ao0];rw[Ad7 h,cond_true,if_pos (Aiy h),Ane,if_pos (Bcn (by omega)),A6e,A1c hK _ _ hp,Ad5 (by omega),Azo hK hc]
  grind
 ·show Ao0 K c (k+1) _ _ _ _ _ _ _ _ _ _ _ _ _ _=_;rw[Ao0,Ars (Z9 _),cond_false,A1c hK _ _ (by omega),Ane]
  unfold A5k
  grind
theorem A2e (l:List Int)(hl:l.length≤140737488355328):Ar2 K l=some (l.all (fun x=>inB x 0 255)):=by
 unfold Ar2 Ako Ak7;rw[A4l hK l hl (Au1 K) (fun x=> !inB x 0 255) (fun x _=>by simp[Au1,Auu]) (Agr K l) (fun n N i=>rfl)]
 grind
theorem Atu (c:Ea)(n:As)(h1:n.Ay.length≤140737488355327)(h2:n.F6.length≤140737488355327)(h3:n.Fi.length≤140737488355327):Ap8 K c n=some (Ap6 c n):=by
 unfold Ap8;rw[Aq6,Bh9];simp only[Z0,Ane];cases hc:Ahn c with
 |false=>simp[Ap6,hc]
 |true=>
 rw[A9g hK hc n h1]
 have hA:Aqm K n.Fi K 0=some (n.Fi.all (fun x=>inB x 0 255)):=by
  rw[Aso hK n.Fi (by omega) (fun x=>inB x 0 255) (some true) (Aqm K n.Fi) (fun k i h=> ?_) (fun k=> ?_)]
  ·grind
  ·rw[Aqm,Ad7 h,cond_true,if_pos (Aiy h),V2 h,Ane,Ad5 (by omega),Z0,Ae2]
  simp_all[Aqm]
 have hB:Apl K c K 0 n.Vi n.C9 n.Sl n.fUp n.Sm n.Ef n.Sn n.So n.Ay n.Acx n.Sq n.F6 n.Fi=some (n.Fi.all (fun x=>inB x 0 255)&&n.F6.all (Apt c)):=by
  rw[Aso hK n.F6 (by omega) (Apt c) (some (n.Fi.all (fun x=>inB x 0 255))) (fun k i=>Apl K c k i n.Vi n.C9 n.Sl n.fUp n.Sm n.Ef n.Sn n.So n.Ay n.Acx n.Sq n.F6 n.Fi) (fun k i h=> ?_) (fun k=> ?_)]
  ·grind
  ·simp only[Apl];rw[Ad7 h,cond_true,if_pos (Aiy h),V2 h,A5h,Ad5 (by omega),Z0,Ae2]
  ·show Apl K c (k+1) _ _ _ _ _ _ _ _ _ _ _ _ _ _=_
   simp_all[Apl]
 rw[hB]
 have e12:decide ((n.F6.length:Int)>12)= !decide ((n.F6.length:Int)≤12):=by grind
 have e6:decide ((n.Fi.length:Int)>6)= !decide ((n.Fi.length:Int)≤6):=by grind
 simp only[Z0,cond_true,e12,e6,Ae2,At2,Bna];unfold Ap6 A75
 grind
theorem A61 (c:Ea)(n:As)(h1:n.Ay.length≤140737488355327)(h2:n.F6.length≤140737488355327)(h3:n.Fi.length≤140737488355327):Awy K c n=some (Ap6 c n):=by
 unfold Awy;rw[A3u,Bib (by omega)]
 simp only[Z0,Auu];cases hc:Ahn c with
 |false=>simp[Ap6,hc]
 |true=>
 have hT:Ahh K n.F6 c=some (n.F6.any (fun t=> !Apt c t)):=
  A4l hK n.F6 (by omega) (fun t=>Axk K t c) (fun t=> !Apt c t) (fun x _=>by simp[Axk,A5i]) (Ad9 K n.F6 c) (fun n N i=>rfl)
 have hJ:Aqr K c n.F6 n.Fi=some ((decide ((n.F6.length:Int)≤12)&&decide ((n.Fi.length:Int)≤6))&&(n.Fi.all (fun x=>inB x 0 255)&&n.F6.all (Apt c))):=by
  unfold Aqr;rw[hT,A2e hK _ (by omega)]
  simp only[Z0,At2,List.not_any_eq_all_not,Bool.not_not,Z7]
  ac_rfl
 obtain⟨_,b2,_⟩:=F2 hc
 have hB:Apq K c K ([n.fUp,n.Ef,n.Sn,n.So]:List Int) (([n.fUp,n.Ef,n.Sn,n.So]:List Int).length:Int) 0 n.Vi n.C9 n.Sl n.fUp n.Sm n.Ef n.Sn n.So n.Ay n.Acx n.Sq n.F6 n.Fi=some (A75 c n):=by
  rw[Aso hK ([n.fUp,n.Ef,n.Sn,n.So]:List Int) (by simp) (fun x=>inB x 0 c.E6) (some ((!decide (n.Sl<0)&& !decide (n.Sm<0))&&((Auk c n.Ay&&A5k c n)&&((decide ((n.F6.length:Int)≤12)&&decide ((n.Fi.length:Int)≤6))&&(n.Fi.all (fun x=>inB x 0 255)&&n.F6.all (Apt c)))))) (fun k i=>Apq K c k ([n.fUp,n.Ef,n.Sn,n.So]:List Int) (([n.fUp,n.Ef,n.Sn,n.So]:List Int).length:Int) i n.Vi n.C9 n.Sl n.fUp n.Sm n.Ef n.Sn n.So n.Ay n.Acx n.Sq n.F6 n.Fi) (fun k i h=> ?_) (fun k=> ?_)]
  ·simp_all[A75,At2]
  ·simp only[Apq];rw[Ad7 h,cond_true,if_pos (Aiy h),V2 h,Auu,Ad5 (by grind),Z0,Ae2]
  ·show Apq K c (k+1) _ _ _ _ _ _ _ _ _ _ _ _ _ _ _ _=_;rw[Apq,Ars (Z9 _),cond_false,hJ,A4z hK hc _ h1,A3t hK _ _ (by omega),Auu]
   simp only[Z0,bne,Ae2,At2,Bna];unfold A5k
   have hz:(n.Sq==0)=true->inB n.Sq 0 c.G8=true:=by
    intro h;rw[beq_iff_eq]at h;rw[Acw];omega
   grind
 rw[hB];simp only[cond_true,Ae2,At2];unfold Ap6
 grind
end
theorem Bgp{α β:Type}(l:List α)(q:α->Bool)(fin bad:Option β)(L:Nat->Int->Option β)
  (hs: ∀n (i:Nat) (h:i<l.length),L (n+1) (i:Int)=bif q l[i]then L n ((i+1:Nat):Int)else bad)
  (he: ∀n,L (n+1) (l.length:Int)=fin):
  ∀(n i:Nat),i≤l.length->l.length - i<n->L n (i:Int)=bif (l.drop i).all q then fin else bad:=by
 intro n
 induction n with
 |zero=>omega
 |succ n ih=>
  intro i hi hn;rcases Hn i l.length with h|h
  ·rw[hs n i h,Z47 h,Ge];cases q l[i]with
   |false=>rfl
   |true=>grind
  grind
theorem Bic{β:Type}{K:Nat}(hK:281474976710656≤K)(N:Nat)(hl:N≤140737488355328)(q:Nat->Bool)(fin bad:Option β)(L:Nat->Int->Option β)
  (hs: ∀n (i:Nat) (h:i<N),L (n+1) (i:Int)=bif q i then L n ((i+1:Nat):Int)else bad)
  (he: ∀n,L (n+1) (N:Int)=fin):L K 0=bif (List.range N).all q then fin else bad:=by
 have:=Bgp (List.range N) q fin bad L (fun n i h=>by grind) (fun n=>by grind) K 0 (Z21 _) (by grind)
 grind
def A1e (t:Bc):Prop:=0≤t.fAt∧t.fAt≤200∧0≤t.Ajm∧t.Ajm≤200
theorem A2m{c:Ea}{t:Bc}(h:Apt c t=true):A1e t∧Axt c t:=by
 have h1:Axt c t:=by
  unfold Apt at h
  grind
 have hb:=A1d c;obtain⟨h2,h3,h4,h5⟩:=h1;exact⟨⟨h4,by omega,by omega,by omega⟩,h2,h3,h4,h5⟩
def Am9 (a b:Bc):Bool:=decide (a.Ajm≤0∨b.Ajm≤0∨a.fAt+a.Ajm≤b.fAt∨b.fAt+b.Ajm≤a.fAt)
theorem Bco (a b:Bc):Am9 a b=Am9 b a:=by
 unfold Am9
 grind
theorem Ber (K:Nat){a b:Bc}(ha:A1e a)(hb:A1e b):A0v K a b=some (Am9 a b):=by
 obtain⟨a1,a2,a3,a4⟩:=ha;obtain⟨b1,b2,b3,b4⟩:=hb;unfold A0v An7;rw[K0 (n:=b.fAt - a.fAt) (by omega) (by omega),K0 (n:=a.fAt - b.fAt) (by omega) (by omega)]
 simp only[A1b]
 have: ∀x:Bool,x=Am9 a b->some x=some (Am9 a b):=fun x h=>by rw[h]
 by_cases h:a.fAt≤b.fAt
 ·rw[decide_eq_true h,cond_true,A1b,A1b];refine this _ ?_;rw[Bool.eq_iff_iff];simp only[Am9,Bool.or_eq_true,decide_eq_true_eq];omega
 ·rw[decide_eq_false h,cond_false,A1b,A1b];refine this _ ?_;rw[Bool.eq_iff_iff];simp only[Am9,Bool.or_eq_true,decide_eq_true_eq];omega
theorem A76 (K:Nat){a b:Bc}(ha:A1e a)(hb:A1e b):Ayz K a b=some (Am9 a b):=by
 obtain⟨a1,a2,a3,a4⟩:=ha;obtain⟨b1,b2,b3,b4⟩:=hb;unfold Ayz Ayy An7;simp only[IntKind.wrap_u64]
 have: ∀x:Bool,x=Am9 a b->some x=some (Am9 a b):=fun x h=>by rw[h]
 by_cases h:a.fAt>b.fAt
 ·rw[decide_eq_true h,cond_true,A1b,A1b];refine this _ ?_;rw[Bool.eq_iff_iff];simp only[Am9,Bool.or_eq_true,decide_eq_true_eq];omega
 ·rw[decide_eq_false h,cond_false,A1b,A1b];refine this _ ?_;rw[Bool.eq_iff_iff];simp only[Am9,Bool.or_eq_true,decide_eq_true_eq];omega
def Aot (l:List Bc):Bool:=(List.range l.length).all (fun i=>(l.take i).all (fun o=>Am9 o (gt l i)))
def Arp (c:Ea)(chunks:List Int)(t:Bc):Bool:=
 Apt c t&&(List.range ((t.fAt+t.Ajm - 1) / c.G8 - t.fAt / c.G8+1).toNat).all (fun j=>chunks.contains (t.fAt / c.G8+(j:Int)))
theorem A9y{c:Ea}{t:Bc}(h:Apt c t=true):
  c.G8≠0∧Alk .i64 t.fAt c.G8=t.fAt / c.G8∧Alk .i64 (An7 .i64 (An6 .i64 t.fAt t.Ajm) 1) c.G8=(t.fAt+t.Ajm - 1) / c.G8∧0≤t.fAt / c.G8∧t.fAt / c.G8≤(t.fAt+t.Ajm - 1) / c.G8∧(t.fAt+t.Ajm - 1) / c.G8≤192:=by
 obtain⟨hs,hc,h1,h2,h3⟩:=A2m h
 have hb:=A1d c;obtain⟨b1,b2,_⟩:=F2 hc
 have e1:An7 .i64 (An6 .i64 t.fAt t.Ajm) 1=t.fAt+t.Ajm - 1:=by
  unfold An7 An6;rw[K0 (n:=t.fAt+t.Ajm) (by omega) (by omega),K0 (by omega) (by omega)]
 have e2: ∀x:Int,0≤x->x≤192->Alk .i64 x c.G8=x / c.G8∧0≤x / c.G8∧x / c.G8≤192:=by
  intro x h0 hx
  have h3:x / c.G8≤x:=Int.ediv_le_self _ h0
  have h4:0≤x / c.G8:=Int.ediv_nonneg h0 (by omega)
  grind [Alk,K0]
 obtain⟨x1,x2,x3⟩:=e2 t.fAt h2 (by omega)
 obtain⟨y1,y2,y3⟩:=e2 (t.fAt+t.Ajm - 1) (by omega) (by omega)
 refine⟨by omega,x1,by grind,x2,Int.ediv_le_ediv (by omega) (by omega),y3⟩
theorem Bth{a:Int}{j:Nat}(h0:0≤a)(h:a+j≤140737488355328):An6 .i64 (a+(j:Int)) 1=a+((j+1:Nat):Int):=by
 grind [An6,K0]
section
variable {K:Nat} (hK:281474976710656≤K)
include hK
theorem A9h (l:List Bc)(hl:l.length≤140737488355327)(hs: ∀t∈l,A1e t):Axh K l=some (Aot l):=by
 unfold Axh Aot;rw[Apw hK l.length (by omega) (fun i=>(l.take i).all (fun o=>Am9 o (gt l i))) (some true) (fun n i=>Akv K l n i) (fun n i h=> ?_) (fun n=> ?_)]
 ·grind
 ·simp only[Akv];rw[Ad7 h,cond_true]
  have hlen:(l.take i).length=i:=by grind
  rw[Aso hK (l.take i) (by omega) (fun o=>Am9 o (gt l i)) (Akv K l n (An6 .i64 i 1)) (fun m j=>Apb K l i (Akv K l n) m j) (fun m j hj=> ?_) (fun m=> ?_)]
  ·grind [Ad5]
  ·have hj':j<i:=by omega
   simp only[Apb];rw[Ad7 hj',cond_true,if_pos (Aiy h),if_pos (Aiy (show j<l.length by omega)),Ber K (hs _ (Aou h)) (hs _ (Aou (show j<l.length by omega))),Z0,Ae2,Ad5 (by omega),Bco,List.getElem_take,V2 (show j<l.length by omega)]
  ·show Apb K l i _ (m+1) _=_
   simp_all[Apb]
 ·show Akv K l (n+1) _=_
  simp_all[Akv]
theorem A9i (l:List Bc)(hl:l.length≤140737488355327)(hs: ∀t∈l,A1e t):Axm K l=some (Aot l):=by
 unfold Axm Aot;rw[Apw hK l.length (by omega) (fun i=>(l.take i).all (fun o=>Am9 o (gt l i))) (some true) (fun n i=>Ape K l n l (l.length:Int) i) (fun n i h=> ?_) (fun n=> ?_)]
 ·grind
 ·simp only[Ape]
  have hlen:(l.take i).length=i:=by grind
  have hC:Ag0 K (l.take i) (gt l i)=some ((l.take i).any (fun o=> !Am9 o (gt l i))):=
   A4l hK (l.take i) (by omega) (fun t=>Au2 K t (gt l i)) (fun o=> !Am9 o (gt l i)) (fun x hx=>by
    grind [Au2,A76,Aou]) (Ad4 K (l.take i) (gt l i)) (fun n N i=>rfl)
  rw[Ad7 h,cond_true,if_pos (Aiy h),if_pos (Bcn (by omega)),A6e,hC,Ad5 (by omega),Z0,List.any_eq_not_all_not,Ae2]
  grind
 ·show Ape K l (n+1) _ _ _=_
  simp_all[Ape]
theorem A9j (c:Ea)(n:As)(h1:n.Ay.length≤140737488355327)(h2:n.F6.length≤140737488355327):Axl K c n=some (n.F6.all (Arp c n.Ay)):=by
 unfold Axl
 have h1t: ∀t,Ase K t c n=some (!Arp c n.Ay t):=by
  intro t;unfold Ase Arp;rw[A5i,Z0,Ae2];cases ht:Apt c t with
  |false=>rfl
  |true=>
   obtain⟨d0,d1,d2,d3,d4,d5⟩:=A9y ht;rw[cond_true,if_pos d0,d1]
   have:=Bic hK ((t.fAt+t.Ajm - 1) / c.G8 - t.fAt / c.G8+1).toNat (by omega) (fun j=>n.Ay.contains (t.fAt / c.G8+(j:Int))) (some false) (some true) (fun m j=>Am7 K t c n m (t.fAt / c.G8+j)) (fun m j hj=> ?_) (fun m=> ?_)
   ·grind
   ·simp only[Am7];rw[if_pos d0,d2,decide_eq_true (by omega),cond_true,A3t hK _ _ (by omega),Z0,Ae2,Bth d3 (by omega)]
   ·show Am7 K t c n (m+1) _=_;rw[Am7,if_pos d0,d2,decide_eq_false (by omega),cond_false]
 have hC:Agy K n.F6 c n=some (n.F6.any (fun t=> !Arp c n.Ay t)):=
  A4l hK n.F6 (by omega) (fun t=>Ase K t c n) (fun t=> !Arp c n.Ay t) (fun x _=>h1t x) (Ad3 K n.F6 c n) (fun n N i=>rfl)
 grind
theorem A9k (c:Ea)(n:As)(h1:n.Ay.length≤140737488355327)(h2:n.F6.length≤140737488355327):Axg K c n=some (n.F6.all (Arp c n.Ay)):=by
 unfold Axg;rw[Aso hK n.F6 (by omega) (Arp c n.Ay) (some true) (fun k i=>Akt K c k i n.Vi n.C9 n.Sl n.fUp n.Sm n.Ef n.Sn n.So n.Ay n.Acx n.Sq n.F6 n.Fi) (fun k i h=> ?_) (fun k=> ?_)]
 ·grind
 ·simp only[Akt];rw[Ad7 h,cond_true,if_pos (Aiy h),V2 h,A5h,Z0,Ae2];unfold Arp;generalize n.F6[i]=t;cases ht:Apt c t with
  |false=>rfl
  |true=>
   obtain⟨d0,d1,d2,d3,d4,d5⟩:=A9y ht;rw[cond_true,if_pos d0,d1,Z30]
   have:=Apw hK ((t.fAt+t.Ajm - 1) / c.G8 - t.fAt / c.G8+1).toNat (by omega) (fun j=>n.Ay.contains (t.fAt / c.G8+(j:Int))) (Akt K c k ((i+1:Nat):Int) n.Vi n.C9 n.Sl n.fUp n.Sm n.Ef n.Sn n.So n.Ay n.Acx n.Sq n.F6 n.Fi)
    (fun m j=>Apa K c i n.Vi n.C9 n.Sl n.fUp n.Sm n.Ef n.Sn n.So n.Ay n.Acx n.Sq n.F6 n.Fi (Akt K c k) m (t.fAt / c.G8+j) t) (fun m j hj=> ?_) (fun m=> ?_)
   ·grind
   ·simp only[Apa];rw[if_pos d0,d2,decide_eq_true (by omega),cond_true,A1c hK _ _ (by omega),Z0,Ae2,Bth d3 (by omega)]
   ·show Apa K c i _ _ _ _ _ _ _ _ _ _ _ _ _ _ (m+1) _ _=_;rw[Apa,if_pos d0,d2,decide_eq_false (by omega),cond_false,Ad5 (by omega)]
 ·show Akt K c (k+1) _ _ _ _ _ _ _ _ _ _ _ _ _ _=_
  simp_all[Akt]
end
def wfi (x:Int):Prop:= -9223372036854775808≤x∧x≤9223372036854775807
def A2n (l:List Int):Prop:=(∀x∈l,wfi x)∧l.length*8≤140737488355327
def Bnc (l:List Int):Prop:=(∀x∈l,0≤x∧x≤255)∧l.length≤140737488355327
def ThingW (t:Bc):Prop:=wfi t.fAt∧wfi t.Ajm∧wfi t.Ajn
def Bar (l:List Bc):Prop:=(∀x∈l,ThingW x)∧l.length*24≤140737488355327
structure Apx (n:As):Prop where
 st:wfi n.Vi
 gen:wfi n.C9
 ep:wfi n.Sl
 up:wfi n.fUp
 upEp:wfi n.Sm
 first:wfi n.Ef
 next:wfi n.Sn
 prev:wfi n.So
 chunks:A2n n.Ay
 cur:wfi n.Acx
 bump:wfi n.Sq
 things:Bar n.F6
 tags:A2n n.Fi
def Ad6 (l:List As):Prop:=(∀x∈l,Apx x)∧l.length*152≤140737488355327
structure A1f (x:Az):Prop where
 slot:wfi x.Bm
 first:wfi x.Ef
 tags:A2n x.Fi
 chunks:A2n x.Ay
 done:wfi x.Wz
def Bas (l:List Az):Prop:=(∀x∈l,A1f x)∧l.length*72≤140737488355327
structure ConfW (c:Ea):Prop where
 chunks:wfi c.Ay
 size:wfi c.G8
 slots:wfi c.E6
 tax:wfi c.Gu
 slice:wfi c.E7
 gens:wfi c.G9
structure Azk (p:Dn):Prop where
 mem:Bnc p.N7
 st:A2n p.Vi
 own:A2n p.N8
structure Aid (w:C5):Prop where
 c:ConfW w.fC
 p:Azk w.fP
 l:Ad6 w.fL
 q:Bas w.fQ
 log:A2n w.Acy
theorem V1:140737488355328≤maxLen:=by unfold maxLen;omega
theorem A6f{α:Type}(x:Option α):Aik x x=x:=by simp[Aik]
theorem Ar5 (K:Nat){l:List Int}(h:l.length*8≤140737488355327):Wy K l=some l:=by
 have hm:=V1;unfold Wy;rw[Z38,if_pos ⟨by omega,by omega⟩]
 grind [A6f]
theorem Bes (K:Nat){l:List Int}(h:l.length≤140737488355327):Asm K l=some l:=by
 have hm:=V1;unfold Asm;rw[Z38,if_pos ⟨by omega,by omega⟩]
 grind [A6f]
theorem Bcp (K:Nat){l:List Bc}(h:l.length*24≤140737488355327):Apv K l=some l:=by
 have hm:=V1;unfold Apv;rw[Z38,if_pos ⟨by omega,by omega⟩]
 grind [A6f]
theorem Bgq{α:Type}(N:Nat)(q:Nat->Bool)(g:Nat->α)(L:Nat->List α->Int->Option (List α))
  (hs: ∀n v (i:Nat),i<N->v.length≤i->L (n+1) v (i:Int)=bif q i then L n (v++[g i]) ((i+1:Nat):Int)else L n v ((i+1:Nat):Int))
  (he: ∀n v,L (n+1) v (N:Int)=some v):
  ∀(n i:Nat) (v:List α),i≤N->v.length≤i->N - i<n->L n v (i:Int)=some (v++(((List.range N).drop i).filter q).map g):=by
 intro n
 induction n with
 |zero=>omega
 |succ n ih=>
  intro i v hi hv hn;rcases Hn i N with h|h
  ·rw[hs n v i h hv,Z47 (by grind),List.getElem_range,List.filter_cons]
   grind
  grind [List.drop_eq_nil_of_le]
def Auv (p:Dn)(k:Int):List Int:=((List.range (min p.Vi.length p.N8.length)).filter (fun i:Nat=>gt p.Vi i==1&&gt p.N8 i==k)).map (fun i:Nat=>(i:Int))
theorem Bet (p:Dn)(k:Int):(Auv p k).length≤min p.Vi.length p.N8.length:=by
 grind [Auv]
theorem A2f (p:Dn)(k:Int):(Auv p k).Pairwise (fun a b=>a<b):=by
 grind [Auv,List.pairwise_lt_range]
theorem A62{l:List Int}: ∀ {o:List Int},o.Nodup->(∀x∈o,x∈l)->o.length=l.length->o.Perm l:=by
 intro o
 induction o generalizing l with
 |nil=>grind
 |cons x o ih=>
  intro hn hs hl
  have hx:x∈l:=hs x (by simp)
  rw[List.nodup_cons]at hn
  have h2:o.Perm (l.erase x):=ih hn.2 (fun y hy=>by
   grind) (by grind)
  grind [List.perm_cons_erase]
def A08 (p:Dn)(k:Int)(l:List Int):Bool:=(Auv p k).all (fun x=>l.contains x)&&((Auv p k).length:Int)==(l.length:Int)
theorem Bqy (p:Dn)(k:Int)(l:List Int):decide (l.mergeSort (fun x y=>decide (x≤y))=Auv p k)=A08 p k l:=by
 rw[Bool.eq_iff_iff];unfold A08;simp only[decide_eq_true_eq,Z4,Z1,List.contains_iff_mem,beq_iff_eq]
 have hp:=List.mergeSort_perm l (fun x y=>decide (x≤y));constructor
 ·intro e;rw[e]at hp;exact⟨fun x hx=>hp.mem_iff.1 hx,by have:=hp.length_eq;omega⟩
 ·rintro⟨h1,h2⟩
  have hn:(Auv p k).Nodup:=(A2f p k).imp fun h=>by omega
  have h3:=A62 hn h1 (by omega)
  refine List.Perm.eq_of_pairwise (le:=fun a b=>a≤b) (fun a b _ _ h1 h2=>by omega) ?_ ((A2f p k).imp fun h=>by omega) (hp.trans h3.symm)
  grind [List.pairwise_mergeSort]
theorem Bid{a b:List Int}(h:a.length=b.length):(List.range a.length).all (fun i=>gt a i==gt b i)=decide (a=b):=by
 rw[Bool.eq_iff_iff];simp only[Z1,List.mem_range,beq_iff_eq,decide_eq_true_eq]
 grind [List.ext_getElem,V2]
section
variable {K:Nat} (hK:281474976710656≤K)
include hK
theorem Bie (a b:List Int)(ha:a.length≤140737488355327):Anr K a b=some (decide (a=b)):=by
 unfold Anr
 by_cases h:a.length=b.length
 ·rw[show((a.length:Int) != (b.length:Int))=false by simp[h],cond_false,←Bid h]
  rw[Apw hK a.length (by omega) (fun i=>gt a i==gt b i) (some true) (fun n i=>Ak6 K a b n (a.length:Int) i) (fun n i hi=> ?_) (fun n=> ?_)]
  ·grind
  ·simp only[Ak6];rw[Ad7 hi,cond_true,if_pos (Aiy hi),if_pos (Aiy (show i<b.length by omega)),Ad5 (by omega),bne,Ae2]
  ·show Ak6 K a b (n+1) _ _=_
   simp_all[Ak6.eq_2]
 ·rw[A0m (by omega),cond_true,decide_eq_false (fun e=>h (by rw[e]))]
theorem A5l (p:Dn)(k:Int)(h1:p.Vi.length*8≤140737488355327):Avd K p k=some (Auv p k):=by
 have hm:=V1;unfold Avd
 have:=Bgq (min p.Vi.length p.N8.length) (fun i:Nat=>gt p.Vi i==1&&gt p.N8 i==k) (fun i:Nat=>(i:Int)) (fun n v i=>Al0 K k n v i p.N7 p.Vi p.N8) (fun n v i hi hv=> ?_) (fun n v=> ?_) K 0 [] (Z21 _) (Z9 _) (by omega)
 ·assumption
 ·have h2:(v++([(i:Int)]:List Int)).length=v.length+1:=by simp
  simp only[Al0,Asx];rw[Ad7 (by omega),Ad7 (by omega),cond_true,cond_true,if_pos (Aiy (by omega)),if_pos (Aiy (by omega)),Ad5 (by omega),if_pos ⟨by omega,by omega⟩]
  grind
 ·show Al0 K k (n+1) v _ _ _ _=_;rw[Al0]
  grind
theorem Bat (p:Dn)(k:Int)(h1:p.Vi.length*8≤140737488355327):Ayx K p k=some (Auv p k):=by
 have hm:=V1;unfold Ayx
 have e:Zy (p.Vi.length:Int) (p.N8.length:Int)=((min p.Vi.length p.N8.length:Nat):Int):=by grind [Zy]
 rw[e]
 have:=Bgq (min p.Vi.length p.N8.length) (fun i:Nat=>gt p.Vi i==1&&gt p.N8 i==k) (fun i:Nat=>(i:Int)) (fun n v i=>Al9 K k n v ((min p.Vi.length p.N8.length:Nat):Int) i p.N7 p.Vi p.N8) (fun n v i hi hv=> ?_) (fun n v=> ?_) K 0 [] (Z21 _) (Z9 _) (by omega)
 ·assumption
 ·have h2:(v++([(i:Int)]:List Int)).length=v.length+1:=by simp
  simp only[Al9,Ath];rw[Ad7 hi,cond_true,if_pos (Aiy (by omega)),if_pos (Aiy (by omega)),Ad5 (by omega),if_pos ⟨by omega,by omega⟩]
  grind
 ·show Al9 K k (n+1) v _ _ _ _ _=_
  simp_all[Al9]
theorem A77 (w:C5)(k:Nat)(hk:k<w.fL.length)(h1:w.fP.Vi.length*8≤140737488355327)(h2:(gt w.fL k).Ay.length≤140737488355327):Av8 K w k=some (A08 w.fP k (gt w.fL k).Ay):=by
 unfold Av8;rw[A5l hK _ _ h1,Z0]
 have hl:=Bet w.fP k;rw[Aso hK (Auv w.fP k) (by omega) (fun x=>(gt w.fL k).Ay.contains x) (some (((Auv w.fP k).length:Int)==((gt w.fL k).Ay.length:Int))) (fun n i=>Anp K k (Auv w.fP k) n i w.fC.Ay w.fC.G8 w.fC.E6 w.fC.Gu w.fC.E7 w.fC.G9 w.fP.N7 w.fP.Vi w.fP.N8 w.fL w.fQ w.Acy) (fun n i hi=> ?_) (fun n=> ?_)]
 ·rw[At2];rfl
 ·simp only[Anp];rw[Ad7 hi,cond_true,if_pos (Aiy hk),if_pos (Aiy hi),A1c hK _ _ (by omega),Z0,Ae2,Ad5 (by omega),V2 hi]
 ·show Anp K k (Auv w.fP k) (n+1) _ _ _ _ _ _ _ _ _ _ _ _ _=_
  simp_all[Anp]
end
def Au6 (c:Ea)(n:As):Bc:=Bc.mk ((n.Acx - 1)*c.G8+n.Sq) (c.G8 - n.Sq) 0
def Arq (c:Ea)(mem:List Int)(n:As):Bool:=
 n.Acx==0||(Aqu ((mem.drop (Au6 c n).fAt.toNat).take (Au6 c n).Ajm.toNat)&&n.F6.all (fun t=>Am9 t (Au6 c n)))
theorem Bif{c:Ea}{n:As}(h:Ap6 c n=true)(h1:n.Vi=1):Ahn c=true∧A75 c n=true:=by
 simp_all[Ap6]
theorem A9z{c:Ea}{n:As}(h:Ap6 c n=true)(h1:n.Vi≠1):A5j n=true:=by
 simp_all[Ap6]
theorem Bwu{c:Ea}{n:As}(hw:Apx n)(h:Ap6 c n=true)(h1:n.Acx≠0):n.Vi=1∧1≤n.Acx∧n.Acx≤c.Ay∧0≤n.Sq∧n.Sq≤c.G8:=by
 by_cases h2:n.Vi=1
 ·refine⟨h2,?_⟩;obtain⟨hc,hl⟩:=Bif h h2;obtain⟨b1,_⟩:=F2 hc;unfold A75 at hl;simp only[Z4]at hl
  have hd:=hl.2.2.1.1
  have hcu:=hl.2.2.1.2;unfold A5k at hcu;rw[Aps h1,cond_false,Z4,List.contains_iff_mem,Acw]at hcu;obtain⟨i,hi,e⟩:=List.mem_iff_getElem.1 hcu.1;unfold Auk at hd;rw[Z1]at hd
  have:=hd i (by grind)
  rw[Z4,V2 hi,e,Acw]at this
  have h3:=this.1;obtain⟨w1,w2⟩:=hw.cur;unfold An7 at h3;rw[IntKind.wrap_i64]at h3;omega
 ·have:=A9z h h2
  simp_all[A5j]
theorem Bgr{c:Ea}{p:Dn}{n:As}(hp:Au5 c p=true)(hw:Apx n)(h:Ap6 c n=true)(h1:n.Acx≠0):
  An6 .i64 (An8 .i64 (An7 .i64 n.Acx 1) c.G8) n.Sq=(Au6 c n).fAt∧An7 .i64 c.G8 n.Sq=(Au6 c n).Ajm∧An8 .i64 n.Acx c.G8=(Au6 c n).fAt+(Au6 c n).Ajm∧A1e (Au6 c n)∧(Au6 c n).fAt+(Au6 c n).Ajm≤(p.N7.length:Int):=by
 obtain⟨h2,c1,c2,c3,c4⟩:=Bwu hw h h1;obtain⟨hc,hm,_⟩:=Atr hp;obtain⟨b1,b2,_⟩:=F2 hc
 have m1:=Au4 (a:=n.Acx - 1) (b:=c.G8) (m:=11) (n:=16) (by omega) (by omega) (by omega) b2.2
 have e2:n.Acx*c.G8=(n.Acx - 1)*c.G8+c.G8:=by grind
 have m2:n.Acx*c.G8≤c.Ay*c.G8:=Int.mul_le_mul_of_nonneg_right (by omega) (by omega)
 unfold Au6 A1e An6 An7 An8;simp only;rw[K0 (n:=n.Acx - 1) (by omega) (by omega),K0 (n:=(n.Acx - 1)*c.G8) (by omega) (by omega),K0 (n:=(n.Acx - 1)*c.G8+n.Sq) (by omega) (by omega),K0 (n:=c.G8 - n.Sq) (by omega) (by omega),K0 (n:=n.Acx*c.G8) (by omega) (by omega)]
 omega
theorem A78{c:Ea}{l:List Bc}{ch:List Int}(h:l.all (Arp c ch)=true): ∀t∈l,A1e t∧1≤t.Ajm:=by
 intro t ht;rw[Z1]at h
 have:=h t ht;unfold Arp at this;rw[Z4]at this;obtain⟨h1,h2⟩:=A2m this.1;exact⟨h1,h2.2.1⟩
def A3j (w:C5)(k:Nat):Bool:=
 Ap6 w.fC (gt w.fL k)&&(A08 w.fP k (gt w.fL k).Ay&&((gt w.fL k).F6.all (Arp w.fC (gt w.fL k).Ay)&&(Aot (gt w.fL k).F6&&Arq w.fC w.fP.N7 (gt w.fL k))))
section
variable {K:Nat} (hK:281474976710656≤K)
include hK
theorem Ax8{l:List Int}(h:A2n l):l.length≤140737488355327:=by have:=h.2;omega
theorem A90{l:List Bc}(h:Bar l):l.length≤140737488355327:=by have:=h.2;omega
theorem Beu (w:C5)(k:Nat)(hk:k<w.fL.length)(hp:Au5 w.fC w.fP=true)(hw:Apx (gt w.fL k))(hn:Ap6 w.fC (gt w.fL k)=true)(hs: ∀t∈(gt w.fL k).F6,A1e t∧1≤t.Ajm):Axi K w k=some (Arq w.fC w.fP.N7 (gt w.fL k)):=by
 unfold Axi;rw[if_pos (Aiy hk)];unfold Arq
 by_cases h1:(gt w.fL k).Acx=0
 ·grind
 ·rw[Aps h1,cond_false];obtain⟨e1,e2,e3,⟨s1,s2,s3,s4⟩,s5⟩:=Bgr hp hw hn h1;rw[e1,e3];generalize hr:Au6 w.fC (gt w.fL k)=r at *;rcases (show r.Ajm=0∨1≤r.Ajm by omega)with h2|h2
  ·rw[decide_eq_true (show r.fAt≥r.fAt+r.Ajm by omega),cond_true,h2]
   simp_all[Am9,Aqu]
  ·rw[decide_eq_false (show ¬r.fAt≥r.fAt+r.Ajm by omega),cond_false]
   have hlt:=A90 hK hw.things
   have hz:List.take (r.fAt+r.Ajm - r.fAt).toNat (List.drop r.fAt.toNat w.fP.N7)=List.take r.Ajm.toNat (List.drop r.fAt.toNat w.fP.N7):=by grind
   rw[Aso hK (gt w.fL k).F6 (by omega) (fun t=>Am9 t r) (some (Aqu (List.take r.Ajm.toNat (List.drop r.fAt.toNat w.fP.N7)))) (fun m i=>Anc K m r.fAt (r.fAt+r.Ajm) i (gt w.fL k).Vi (gt w.fL k).C9 (gt w.fL k).Sl (gt w.fL k).fUp (gt w.fL k).Sm (gt w.fL k).Ef (gt w.fL k).Sn (gt w.fL k).So (gt w.fL k).Ay (gt w.fL k).Acx (gt w.fL k).Sq (gt w.fL k).F6 (gt w.fL k).Fi w.fC.Ay w.fC.G8 w.fC.E6 w.fC.Gu w.fC.E7 w.fC.G9 w.fP.N7 w.fP.Vi w.fP.N8 w.fL w.fQ w.Acy) (fun m i hi=> ?_) (fun m=> ?_)]
   ·grind
   ·simp only[Anc,Auz];obtain⟨⟨t1,t2,t3,t4⟩,t5⟩:=hs _ (Aou hi);rw[Ad7 hi,cond_true,if_pos (Aiy hi),Ad5 (by omega),←V2 hi]
    generalize gt (gt w.fL k).F6 i=t at *;unfold An6;rw[K0 (n:=t.fAt+t.Ajm) (by omega) (by omega)]
    unfold Am9
    grind
   ·show Anc K (m+1) _ _ _ _ _ _ _ _ _ _ _ _ _ _ _ _ _ _ _ _ _ _ _ _ _ _ _ _=_;rw[Anc,Ars (Z9 _),cond_false,if_pos ⟨s1,by omega,s5⟩,A1w hK _ (by grind),hz,Z0]
theorem Bnd (l:List Int)(h:A2n l):Ec K l=some (l.mergeSort fun x y=>decide (x≤y)):=by
 have:=h.2;unfold Ec
 grind
theorem Bau (w:C5)(hw:Aid w)(hp:Au5 w.fC w.fP=true):Asf K w=some ((List.range w.fL.length).all (A3j w)):=by
 unfold Asf
 have hlL:=hw.l.2;rw[Apw hK w.fL.length (by omega) (A3j w) (some true) (fun m i=>Ag1 K m w.fL (w.fL.length:Int) i w.fC.Ay w.fC.G8 w.fC.E6 w.fC.Gu w.fC.E7 w.fC.G9 w.fP.N7 w.fP.Vi w.fP.N8 w.fL w.fQ w.Acy) (fun m k hk=> ?_) (fun m=> ?_)]
 ·grind
 ·simp only[Ag1,Aqz];rw[show Ea.mk w.fC.Ay w.fC.G8 w.fC.E6 w.fC.Gu w.fC.E7 w.fC.G9=w.fC from rfl,show Dn.mk w.fP.N7 w.fP.Vi w.fP.N8=w.fP from rfl]
  have hn:=hw.l.1 _ (Aou hk);unfold A3j;generalize hN:gt w.fL k=n at*
  have l1:=Ax8 hK hn.chunks
  have l2:=A90 hK hn.things
  have l3:=Ax8 hK hn.tags;rw[Ad7 hk,cond_true,if_pos (Aiy hk),Ar5 K hn.chunks.2,Z0,Bnd hK _ hn.chunks,Z0,if_pos (List.length_mergeSort _),A61 hK _ _ l1 l2 l3,Z0,Bat hK _ _ hw.p.st.2,Ad5 (by omega)]
  simp only[Z0];rw[Bie hK _ _ (by simp_all),Bqy,A9j hK _ _ l1 l2]
  simp only[Z0];cases hb:Ap6 w.fC n with
  |false=>rfl
  |true=>
  cases A08 w.fP k n.Ay with
  |false=>rfl
  |true=>
  cases hi:n.F6.all (Arp w.fC n.Ay)with
  |false=>rfl
  |true=>
  have hs:=A78 hi;rw[A9i hK _ l2 (fun t ht=>(hs t ht).1)];simp only[Z0,cond_true,Ae2,Z30];cases Aot n.F6 with
  |false=>rfl
  |true=>
  simp only[cond_true,Z30];unfold Arq
  by_cases h1:n.Acx=0
  ·grind
  ·rw[Aps h1,cond_false,Z52];obtain⟨e1,e2,e3,s,s5⟩:=Bgr hp hn hb h1
   have hmk:Bc.mk (Au6 w.fC n).fAt (Au6 w.fC n).Ajm 0=Au6 w.fC n:=rfl;rw[e1,e2];simp only[hmk];generalize hr:Au6 w.fC n=r at *;obtain⟨s1,s2,s3,s4⟩:=s
   have e4:An6 .i64 r.fAt r.Ajm=r.fAt+r.Ajm:=by grind [An6,K0]
   have hC:Ae7 K n.F6 r=some (n.F6.any (fun t=> !Am9 t r)):=
    A4l hK n.F6 (by omega) (fun t=>Aqy K t r) (fun t=> !Am9 t r) (fun x hx=>by
     unfold Aqy;rw[A76 K (hs _ hx).1 ⟨s1,s2,s3,s4⟩];rfl) (Aau K n.F6 r) (fun n N i=>rfl)
   rw[e4,if_pos ⟨s1,by omega,s5⟩,show r.fAt+r.Ajm - r.fAt=r.Ajm by omega,A3v hK _ (by grind),hC,List.any_eq_not_all_not]
   grind
 ·show Ag1 K (m+1) _ _ _ _ _ _ _ _ _ _ _ _ _ _ _=_
  simp_all[Ag1]
end
section
variable {K:Nat} (hK:281474976710656≤K)
theorem Acz{l:List As}(w:Ad6 l):l.length≤140737488355327:=by have:=w.2;omega
theorem A0b (K:Nat){α:Type}{l:List α}(hl:l.length≤140737488355327)(k:Int):Gx K k 0 (An7 .i64 (l.length:Int) 1)=some (decide (0≤k∧k<(l.length:Int))):=by
 unfold Gx An7;rw[K0 (by omega) (by omega)]
 grind
theorem Big (K:Nat){α:Type}{l:List α}(hl:l.length≤140737488355327)(k:Int):Wx K k 0 (An7 .i64 (l.length:Int) 1)=some (decide (0≤k∧k<(l.length:Int))):=A0b K hl k
theorem Azp (K:Nat){l:List As}(hl:l.length≤140737488355327)(k:Int):Ags K l k=some (decide (0≤k∧k<(l.length:Int))):=by
 grind [Ags,Big]
theorem Axx (K:Nat)(l:List As)(k:Int):Ad8 K l k=some (decide (1≤k∧k≤(l.length:Int))):=by
 unfold Ad8
 grind
def Ap5 (l:List As)(h:An):Int:=if(0≤h.Bm∧h.Bm<(l.length:Int))∧(gt l h.Bm).Vi=1∧(gt l h.Bm).C9=h.C9 then h.Bm else -1
theorem A22 (K:Nat){l:List As}(hl:l.length≤140737488355327)(h:An):Asw K l h=some (Ap5 l h):=by
 unfold Asw Ap5;rw[A0b K hl]
 grind
theorem A5m (K:Nat){l:List As}(hl:l.length≤140737488355327)(h:An):Avr K l h=some (Ap5 l h):=by
 rw[←A22 K hl]
 grind [Asw,Avr,A0b,Azp]
theorem A6g{l:List As}{h:An}(h0: ¬Ap5 l h<0):0≤Ap5 l h∧Ap5 l h<(l.length:Int):=by
 unfold Ap5 at *;omega
def Ail (l:List As):Nat->Int->List Int
 |0,_=>[]
 |n+1,k=>if 0≤k∧k<(l.length:Int)then k::Ail l n (An7 .i64 (gt l k).fUp 1)else []
theorem Bav{l:List As}: ∀(n:Nat) (k:Int),∀x∈Ail l n k,0≤x∧x<(l.length:Int):=by
 intro n
 induction n with
 |zero=>intro k x hx;cases hx
 |succ n ih=>
  intro k x hx;unfold Ail at hx
  grind
theorem A79{l:List As}: ∀(n:Nat) (k:Int),(Ail l n k).length≤n:=by
 intro n
 induction n with
 |zero=>intro k;exact Z9 _
 |succ n ih=>
  intro k;unfold Ail
  grind
def Bev (l:List As):List Int->Prop
 |x::y::r=>An7 .i64 (gt l x).fUp 1=y∧Bev l (y::r)
 |_=>True
theorem Bew{l:List As}: ∀(n:Nat) (k:Int),Bev l (Ail l n k):=by
 intro n
 induction n with
 |zero=>intro k;trivial
 |succ n ih=>
  intro k;unfold Ail;split
  ·have h1:=ih (An7 .i64 (gt l k).fUp 1);cases n with
   |zero=>trivial
   |succ n=>
    rw[Ail]at h1 ⊢;split at h1
    ·rename_i h2;rw[if_pos h2];exact⟨rfl,h1⟩
    ·rename_i h2;rw[if_neg h2];trivial
  ·trivial
theorem Bih{l:List As}(w:Ad6 l): ∀(n:Nat) (k:Int) (v:List Int),-9223372036854775808≤k∧k≤9223372036854775807->v.length≤l.length->l.length - v.length<n->Awq K l n k v=some (v++Ail l (l.length - v.length) k):=by
 have hb:l.length*152≤140737488355327:=w.2;intro n
 induction n with
 |zero=>omega
 |succ n ih=>
  intro k v hk hv hn;rw[Awq,Axx];simp only[Z0]
  have e:decide (1≤An6 .i64 k 1∧An6 .i64 k 1≤(l.length:Int))=decide (0≤k∧k<(l.length:Int)):=by
   rw[decide_eq_decide]
   grind [An6,IntKind.wrap_i64]
  rw[e]
  by_cases hs:0≤k∧k<(l.length:Int)
  ·rw[decide_eq_true hs];simp only[cond_true];rcases Hn v.length l.length with h|h
   ·rw[Ad7 h];simp only[cond_true]
    have hl2:(v++[k]).length=v.length+1:=by simp
    rw[if_pos ⟨by omega,by grind [maxLen]⟩,if_pos hs,ih (An7 .i64 (gt l k).fUp 1) _ (Bep _) (by omega) (by omega),hl2]
    obtain⟨m,hm⟩: ∃m,l.length - v.length=m+1:=⟨l.length - v.length - 1,by omega⟩
    rw[hm,Ail,if_pos hs,show l.length - (v.length+1)=m from by omega]
    simp
   ·rw[Ars h];rw[show l.length - v.length=0 from by omega]
    simp[Ail]
  ·rw[decide_eq_false hs]
   have:Ail l (l.length - v.length) k=[]:=by
    cases l.length - v.length with
    |zero=>rfl
    |succ m=>rw[Ail,if_neg hs]
   grind
theorem Bii{l:List As}(w:Ad6 l): ∀(n:Nat) (k:Int) (v:List Int),v.length≤l.length->l.length - v.length<n->Awz K l n k v=some (v++Ail l (l.length - v.length) k):=by
 have hb:l.length*152≤140737488355327:=w.2;intro n
 induction n with
 |zero=>omega
 |succ n ih=>
  intro k v hv hn;rw[Awz,Azp K (by omega)]
  simp only[Z0]
  by_cases hs:0≤k∧k<(l.length:Int)
  ·rw[decide_eq_true hs];simp only[cond_true];rcases Hn v.length l.length with h|h
   ·rw[Ad7 h];simp only[cond_true]
    have hl2:(v++[k]).length=v.length+1:=by simp
    rw[if_pos ⟨by omega,by grind [maxLen]⟩,if_pos hs,ih _ _ (by omega) (by omega),hl2]
    obtain⟨m,hm⟩: ∃m,l.length - v.length=m+1:=⟨l.length - v.length - 1,by omega⟩
    rw[hm,Ail,if_pos hs,show l.length - (v.length+1)=m from by omega]
    simp
   ·rw[Ars h];rw[show l.length - v.length=0 from by omega]
    simp[Ail]
  ·rw[decide_eq_false hs]
   have:Ail l (l.length - v.length) k=[]:=by
    cases l.length - v.length with
    |zero=>rfl
    |succ m=>rw[Ail,if_neg hs]
   grind
include hK in
theorem A23{l:List As}(w:Ad6 l)(k:Int)(hk: -9223372036854775808≤k∧k≤9223372036854775807):Ax2 K l k=some (Ail l l.length k):=by
 have hb:=Acz w;unfold Ax2
 have:=Bih (K:=K) w K k [] hk (Z21 _) (by omega)
 grind
include hK in
theorem A46{l:List As}(w:Ad6 l)(k:Int):Ax4 K l k=some (Ail l l.length k):=by
 have hb:=Acz w;unfold Ax4
 have:=Bii (K:=K) w K k [] (Z21 _) (by omega)
 grind
def Arv (l:List As):List Int->Bool
 |[]=>true
 |[x]=>(gt l x).Vi==1
 |x::y::r=>((gt l x).Vi==1)&&((gt l x).Sm==(gt l y).Sl)&&Arv l (y::r)
def A2g (l:List As)(way:List Int):Bool:=if 0<way.length then(gt l (gt way ((way.length - 1:Nat):Int))).fUp==0 else false
theorem Bcq{l:List As}{way:List Int}(hin: ∀x∈way,0≤x∧x<(l.length:Int))(hlen:way.length≤140737488355327):
  (bif (decide ((way.length:Int)>0))then(if(0:Int)≤(An7 .i64 (way.length:Int) 1)∧(An7 .i64 (way.length:Int) 1)<(way.length:Int)then(if(0:Int)≤(gt way (An7 .i64 (way.length:Int) 1))∧(gt way (An7 .i64 (way.length:Int) 1))<(l.length:Int)then some (((gt l (gt way (An7 .i64 (way.length:Int) 1))).fUp)==0)else none)else none)else some false)=some (A2g l way):=by
 unfold A2g;rcases Py way.length with h|h
 ·grind
 ·rw[if_pos h,decide_eq_true (by omega)]
  simp only[cond_true]
  have e:An7 .i64 (way.length:Int) 1=((way.length - 1:Nat):Int):=by grind [An7,K0]
  rw[e,if_pos ⟨by omega,by omega⟩,if_pos (hin _ (Aou (by omega)))]
theorem Ay9{way:List Int}{i:Nat}(h:i<way.length):way.drop i=way[i]::way.drop (i+1):=by
 simp_all
theorem Bex{l:List As}{way:List Int}(hin: ∀x∈way,0≤x∧x<(l.length:Int))(hlen:way.length≤140737488355327): ∀(n i:Nat),i≤way.length->way.length - i<n->Ato K l way n way (way.length:Int) (i:Int)=some (Arv l (way.drop i)&&A2g l way):=by
 intro n
 induction n with
 |zero=>omega
 |succ n ih=>
  intro i hi hn;rw[Ato];unfold Ay2;rcases Hn i way.length with h|h
  ·rw[Ad7 h];simp only[cond_true];rw[if_pos ⟨by omega,by omega⟩,if_pos (hin _ (Aou h)),Ay9 h,Ad5 (by omega),←V2 h]
   rcases Hn (i+1) way.length with h2|h2
   ·rw[Ad7 h2,Ay9 h2,←V2 h2];simp only[cond_true];rw[if_pos (hin _ (Aou h)),if_pos ⟨by omega,by omega⟩,if_pos (hin _ (Aou h2)),ih (i+1) h (by omega),Ay9 h2,←V2 h2,Arv]
    generalize gt way ((i+1:Nat):Int)=y;generalize gt way (i:Int)=x
    by_cases c1:(gt l x).Vi=1
    ·by_cases c2:(gt l x).Sm=(gt l y).Sl
     all_goals grind
    grind
   ·rw[Ars h2,ih (i+1) h (by omega),show way.drop (i+1)=[] from Z48 h2]
    simp only[cond_false,Arv]
    grind
  ·rw[Ars h,show way.drop i=[] from Z48 h]
   simp only[cond_false,Arv,Z30];exact Bcq hin hlen
theorem Bqz{l:List As}(w:Ad6 l){x y:Int}(hx:0≤x∧x<(l.length:Int))(hy:0≤y∧y<(l.length:Int))(h:An7 .i64 (gt l x).fUp 1=y):Ar8 K l x=some (((gt l y).Vi==1)&&((gt l y).Sl==(gt l x).Sm)):=by
 have hl:=Acz w;unfold Ar8;rw[if_pos hx,Axx];simp only[Z0];obtain⟨hr1,hr2⟩:=(w.1 _ (Akq hx.1 hx.2)).up
 have hp:1≤(gt l x).fUp∧(gt l x).fUp≤(l.length:Int):=by
  grind [An7,IntKind.wrap_i64]
 grind
theorem Bcr{l:List As}{y:Int}{r:List Int}(h:(gt l y).Vi≠1):Arv l (y::r)=false:=by
 cases r with
 |nil=>simp[Arv,h]
 |cons z r=>simp[Arv,h]
theorem Bey{l:List As}(w:Ad6 l){way:List Int}(hin: ∀x∈way,0≤x∧x<(l.length:Int))(hlen:way.length≤140737488355327): ∀(n i:Nat),Bev l (way.drop i)->i≤way.length->way.length - i<n->Asq K l way n (i:Int)=some (Arv l (way.drop i)&&A2g l way):=by
 intro n
 induction n with
 |zero=>omega
 |succ n ih=>
  intro i hch hi hn;rw[Asq];unfold Ayb;rcases Hn i way.length with h|h
  ·rw[Ad7 h];simp only[cond_true];rw[Ay9 h]at hch;rw[if_pos ⟨by omega,by omega⟩,if_pos (hin _ (Aou h)),Ay9 h,Ad5 (by omega),←V2 h]
   rcases Hn (i+1) way.length with h2|h2
   ·rw[Ay9 h2]at hch
    have hc1:=hch.1;rw[←V2 h,←V2 h2]at hc1;rw[Ad7 h2,Ay9 h2,←V2 h2];simp only[cond_true];rw[if_pos ⟨by omega,by omega⟩,Bqz w (hin _ (Aou h)) (hin _ (Aou h2)) hc1,ih (i+1) (by rw[Ay9 h2];exact hch.2) h (by omega),Ay9 h2,←V2 h2,Arv]
    generalize gt way ((i+1:Nat):Int)=y;generalize gt way (i:Int)=x
    by_cases c1:(gt l x).Vi=1
    ·by_cases c3:(gt l y).Vi=1
     ·by_cases c2:(gt l x).Sm=(gt l y).Sl
      all_goals grind
     simp_all[Bcr]
    grind
   ·rw[Ars h2,ih (i+1) (by rw[Z48 h2];trivial) h (by omega),show way.drop (i+1)=[] from Z48 h2]
    simp only[cond_false,Arv]
    by_cases c1:(gt l (gt way (i:Int))).Vi=1
    all_goals grind
  ·rw[Ars h,show way.drop i=[] from Z48 h]
   simp only[cond_false,Arv,Z30];exact Bcq hin hlen
def Avw (l:List As)(k:Int):Bool:=Arv l (Ail l l.length k)&&A2g l (Ail l l.length k)
include hK in
theorem A3w{l:List As}(w:Ad6 l)(k:Int)(hk: -9223372036854775808≤k∧k≤9223372036854775807):Av3 K l k=some (Avw l k):=by
 have hb:=Acz w
 have hr:=A79 (l:=l) l.length k;unfold Av3;rw[A23 hK w k hk];exact Bey w (Bav _ _) (by omega) K 0 (Bew _ _) (Z21 _) (by omega)
include hK in
theorem Bcs{l:List As}(w:Ad6 l)(k:Int):A03 K l k=some (Avw l k):=by
 have hb:=Acz w
 have hr:=A79 (l:=l) l.length k;unfold A03;rw[A46 hK w k];exact Bex (Bav _ _) (by omega) K 0 (Z21 _) (by omega)
def Aul (h:An):Bool:=bif decide (h.Bm≥0)then decide (h.C9≥1)else false
theorem A40 (K:Nat)(h:An):At6 K h=some (Aul h):=by
 unfold At6 Aul;grind
theorem A9l (K:Nat)(h:An):Axp K h=some (Aul h):=by
 unfold Axp Aul;grind
def Agu (l:List As)(h:An):Int×Int:=bif Aul h then(bif decide (Ap5 l h<0)then(-1,2)else(bif Avw l (Ap5 l h)then(Ap5 l h,0)else(-1,2)))else(-1,1)
include hK in
theorem Aqa{w:C5}(hw:Ad6 w.fL)(h:An):Alx K w h=some (Agu w.fL h):=by
 have hb:=Acz hw;unfold Alx Agu;rw[A40,A22 K hb];simp only[Z0];cases Aul h with
 |false=>rfl
 |true=>
  simp only[cond_true];cases e:decide (Ap5 w.fL h<0)with
  |true=>rfl
  |false=>
   have h1:=A6g (of_decide_eq_false e);simp only[cond_false];rw[A3w hK hw _ ⟨by omega,by omega⟩]
   grind
include hK in
theorem Az8{w:C5}(hw:Ad6 w.fL)(h:An):Aqs K w h=some (Agu w.fL h):=by
 have hb:=Acz hw;unfold Aqs Agu;rw[A9l,A5m K hb];simp only[Z0];cases Aul h with
 |false=>rfl
 |true=>
  simp only[cond_true];cases e:decide (Ap5 w.fL h<0)with
  |true=>rfl
  |false=>
   simp only[cond_false];rw[Bcs hK hw]
   grind
theorem A2o{l:List As}{h:An}(h0:(Agu l h).2=0):0≤(Agu l h).1∧(Agu l h).1<(l.length:Int):=by
 unfold Agu at *;cases e1:Aul h with
 |false=>grind
 |true=>
  rw[e1]at h0;simp only[cond_true]at *;cases e:decide (Ap5 l h<0)with
  |true=>grind
  |false=>
   rw[e]at h0;simp only[cond_false]at*
   grind [A6g,of_decide_eq_false]
end
def plB (l:List As)(n:Int):Bool:=decide (0≤An7 .i64 n 1∧An7 .i64 n 1<(l.length:Int))
theorem Avx{l:List As}{n:Int}(h:plB l n=true):0≤An7 .i64 n 1∧An7 .i64 n 1<(l.length:Int):=of_decide_eq_true h
theorem Azq (K:Nat){l:List As}(hl:l.length≤140737488355327)(n:Int):Ags K l (An7 .i64 n 1)=some (plB l n):=Azp K hl _
theorem Avy (K:Nat){l:List As}(hl:l.length≤140737488355327){n:Int}(hn:wfi n):Ad8 K l n=some (plB l n):=by
 rw[Axx];unfold plB;obtain⟨h1,h2⟩:=hn
 congr 1
 rw[decide_eq_decide]
 grind [An7,IntKind.wrap_i64]
def A0n (l:List As)(k:Int):Bool:=plB l (gt l k).fUp&&((gt l (An7 .i64 (gt l k).fUp 1)).Vi==1&&(gt l (An7 .i64 (gt l k).fUp 1)).Sl==(gt l k).Sm)
theorem A6h (K:Nat){l:List As}(w:Ad6 l){k:Int}(h:0≤k∧k<(l.length:Int)):Ar8 K l k=some (A0n l k):=by
 unfold Ar8 A0n;rw[if_pos h,Avy K (Acz w) (w.1 _ (Akq h.1 h.2)).up,Z0,if_pos h];cases hp:plB l (gt l k).fUp with
 |false=>rfl
 |true=>
  have:=Avx hp
  grind
theorem A1g (K:Nat){l:List As}(w:Ad6 l){k:Int}(h:0≤k∧k<(l.length:Int)):Arc K l k=some (A0n l k):=by
 unfold Arc A0n;rw[if_pos h,Azq K (Acz w),Z0,if_pos h];cases hp:plB l (gt l k).fUp with
 |false=>rfl
 |true=>
  have:=Avx hp
  grind
def Art (l:List As)(n:Int):Bool:=n==0||(plB l n&&(gt l (An7 .i64 n 1)).Vi==1)
theorem A2p{l:List As}{n:Int}(h:Art l n=true)(h0:n≠0):0≤An7 .i64 n 1∧An7 .i64 n 1<(l.length:Int):=by
 unfold Art at h;rw[Aps h0,Z52,Z4]at h;exact Avx h.1
theorem A3x (K:Nat){l:List As}(w:Ad6 l){n:Int}(hn:wfi n):Ap9 K l n=some (Art l n):=by
 unfold Ap9 Art;rw[Avy K (Acz w) hn,Z0];cases n==0 with
 |true=>rfl
 |false=>
  cases hp:plB l n with
  |false=>rfl
  |true=>rw[if_pos (Avx hp)];rfl
theorem A3y (K:Nat){l:List As}(w:Ad6 l)(n:Int):Aup K l n=some (Art l n):=by
 unfold Aup Art;rw[Azq K (Acz w),Z0];cases n==0 with
 |true=>rfl
 |false=>
  cases hp:plB l n with
  |false=>rfl
  |true=>rw[if_pos (Avx hp)];rfl
def A63 (r:List Int):Int:=gt r ((r.length - 1:Nat):Int)
def A1y (l:List As)(k:Int):Bool:=decide (((Ail l l.length k).length:Int)≤4)&& !A0n l (A63 (Ail l l.length k))
def A6i (l:List As)(k:Int):Bool:= !((gt l k).So==0&&A0n l k)||(gt l (An7 .i64 (gt l k).fUp 1)).Ef==An6 .i64 k 1
def A8a (l:List As)(k:Int):Bool:=(gt l k).So==0||(gt l (An7 .i64 (gt l k).So 1)).Sn==An6 .i64 k 1
def Baw (l:List As)(k:Int):Bool:=(gt l k).Sn==0||((gt l (An7 .i64 (gt l k).Sn 1)).So==An6 .i64 k 1&&((gt l (An7 .i64 (gt l k).Sn 1)).fUp==(gt l k).fUp&&(gt l (An7 .i64 (gt l k).Sn 1)).Sm==(gt l k).Sm))
def Bez (l:List As)(k:Int):Bool:=(gt l k).Ef==0||((gt l (An7 .i64 (gt l k).Ef 1)).So==0&&((gt l (An7 .i64 (gt l k).Ef 1)).fUp==An6 .i64 k 1&&(gt l (An7 .i64 (gt l k).Ef 1)).Sm==(gt l k).Sl))
def A2q (l:List As)(k:Int):Bool:=Art l (gt l k).Ef&&(Art l (gt l k).Sn&&(Art l (gt l k).So&&((gt l k).fUp==0||plB l (gt l k).fUp)))
def A1h (l:List As)(k:Int):Bool:=A2q l k&&(Bez l k&&(Baw l k&&(A8a l k&&A6i l k)))
def A41 (l:List As):Bool:=(List.range l.length).all (fun k=>(gt l (k:Int)).Vi != 1||(A1h l k&&A1y l k))
theorem A8b{l:List As}{k:Int}(h:0≤k∧k<(l.length:Int)):0<(Ail l l.length k).length:=by
 obtain⟨m,hm⟩: ∃m,l.length=m+1:=⟨l.length - 1,by omega⟩
 simp_all[Ail.eq_2]
theorem Bax{l:List As}{k:Int}(h:0≤k∧k<(l.length:Int)):0≤A63 (Ail l l.length k)∧A63 (Ail l l.length k)<(l.length:Int):=by
 have:=A8b h;exact Bav _ _ _ (Aou (by omega))
theorem Bgs{l:List As}(w:Ad6 l){k:Int}(h:0≤k∧k<(l.length:Int)):An7 .i64 ((Ail l l.length k).length:Int) 1=(((Ail l l.length k).length - 1:Nat):Int)∧(0:Int)≤(((Ail l l.length k).length - 1:Nat):Int)∧(((Ail l l.length k).length - 1:Nat):Int)<((Ail l l.length k).length:Int):=by
 grind [A8b,A79,Acz,An7,K0]
section
variable {K:Nat} (hK:281474976710656≤K)
include hK
theorem Bq0{l:List As}(w:Ad6 l){k:Int}(h:0≤k∧k<(l.length:Int)):As7 K l k=some (A1y l k):=by
 have h3:=Acz w;obtain⟨e1,e2,e3⟩:=Bgs w h;unfold As7;rw[A23 hK w k ⟨by omega,by omega⟩,Z0,e1,if_pos ⟨e2,e3⟩]
 have:=A6h K w (Bax h);unfold A63 at this;rw[this,Z0,At2];rfl
theorem Bq1{l:List As}(w:Ad6 l){k:Int}(h:0≤k∧k<(l.length:Int)):Avh K l k (gt l k).fUp (gt l k).So=some (A6i l k&&A1y l k):=by
 unfold Avh A6i;rw[A6h K w h,Bq0 hK w h,Z0];cases (gt l k).So==0 with
 |false=>rfl
 |true=>
  cases hc:A0n l k with
  |false=>rfl
  |true=>
   have:plB l (gt l k).fUp=true:=by simp_all[A0n]
   rw[cond_true,cond_true,if_pos (Avx this),bne,Ae2]
   grind
theorem Bq2{l:List As}(w:Ad6 l){k:Int}(h:0≤k∧k<(l.length:Int))(hp:Art l (gt l k).So=true):Avi K l k (gt l k).fUp (gt l k).So=some (A8a l k&&(A6i l k&&A1y l k)):=by
 unfold Avi A8a;rw[Bq1 hK w h]
 by_cases h0:(gt l k).So=0
 ·grind
 ·rw[A0m h0,Aps h0,cond_true,if_pos (A2p hp h0),bne,Ae2]
  grind
theorem Bq3{l:List As}(w:Ad6 l){k:Int}(h:0≤k∧k<(l.length:Int))(hp:Art l (gt l k).So=true)(hn:Art l (gt l k).Sn=true):Avj K l k (gt l k).fUp (gt l k).Sm (gt l k).Sn (gt l k).So=some (Baw l k&&(A8a l k&&(A6i l k&&A1y l k))):=by
 unfold Avj Baw;rw[Bq2 hK w h hp]
 by_cases h0:(gt l k).Sn=0
 ·grind
 ·have hi:=A2p hn h0
  grind
theorem Bq4{l:List As}(w:Ad6 l){k:Int}(h:0≤k∧k<(l.length:Int))(hf:Art l (gt l k).Ef=true)(hp:Art l (gt l k).So=true)(hn:Art l (gt l k).Sn=true):Avk K l k (gt l k).Vi (gt l k).C9 (gt l k).Sl (gt l k).fUp (gt l k).Sm (gt l k).Ef (gt l k).Sn (gt l k).So (gt l k).Ay (gt l k).Acx (gt l k).Sq (gt l k).F6 (gt l k).Fi=some (Bez l k&&(Baw l k&&(A8a l k&&(A6i l k&&A1y l k)))):=by
 unfold Avk Bez;rw[Bq3 hK w h hp hn]
 by_cases h0:(gt l k).Ef=0
 ·grind
 ·have hi:=A2p hf h0
  grind
theorem Be0{l:List As}(w:Ad6 l){k:Int}(h:0≤k∧k<(l.length:Int)):A0u K l k=some (A1h l k&&A1y l k):=by
 have hn:=w.1 _ (Akq h.1 h.2);unfold A0u A1h A2q;rw[if_pos h,Avy K (Acz w) hn.up,A3x K w hn.first,A3x K w hn.next,A3x K w hn.prev];simp only[Z0,Ae2];cases hf:Art l (gt l k).Ef with
 |false=>grind
 |true=>
 cases hx:Art l (gt l k).Sn with
 |false=>grind
 |true=>
 cases hp:Art l (gt l k).So with
 |false=>grind
 |true=>
 rw[Bq4 hK w h hf hp hx];simp only[bne];cases (gt l k).fUp==0<;>cases plB l (gt l k).fUp<;>simp only[Bool.not_true,Bool.not_false,cond_true,cond_false,Z30,Bool.false_and,Bool.true_or,Z52,Bool.and_assoc]
theorem Bct{l:List As}(w:Ad6 l):Azw K l=some (A41 l):=by
 have hl:=Acz w;unfold Azw A41;rw[Apw hK l.length (by omega) (fun k=>(gt l (k:Int)).Vi != 1||(A1h l k&&A1y l k)) (some true) (fun n i=>Apm K l n i) (fun n i h=> ?_) (fun n=> ?_)]
 ·grind
 ·simp only[Apm,Axe];rw[Ad7 h,cond_true,if_pos (Aiy h),Be0 hK w (Aiy h),Ad5 (by omega),Z0,Ae2,bne]
  grind
 ·show Apm K l (n+1) _=_
  simp_all[Apm]
theorem Bq5{l:List As}(w:Ad6 l){k:Int}(h:0≤k∧k<(l.length:Int)):Ati K l k (gt l k).fUp (gt l k).So=some (A6i l k):=by
 unfold Ati A6i;rw[A1g K w h,Z0,bne];cases (gt l k).So==0 with
 |false=>rfl
 |true=>
  cases hc:A0n l k with
  |false=>rfl
  |true=>
   simp_all[plB,A0n]
theorem Bq6{l:List As}(w:Ad6 l){k:Int}(h:0≤k∧k<(l.length:Int))(hp:Art l (gt l k).So=true):Atj K l k (gt l k).fUp (gt l k).So=some (A8a l k&&A6i l k):=by
 unfold Atj A8a;rw[Bq5 hK w h]
 by_cases h0:(gt l k).So=0
 ·grind
 ·rw[A0m h0,Aps h0,cond_true,if_pos (A2p hp h0),bne,Ae2]
  grind
theorem Bq7{l:List As}(w:Ad6 l){k:Int}(h:0≤k∧k<(l.length:Int))(hp:Art l (gt l k).So=true)(hn:Art l (gt l k).Sn=true):Atk K l k (gt l k).fUp (gt l k).Sm (gt l k).Sn (gt l k).So=some (Baw l k&&(A8a l k&&A6i l k)):=by
 unfold Atk Baw;rw[Bq6 hK w h hp]
 by_cases h0:(gt l k).Sn=0
 ·grind
 ·have hi:=A2p hn h0
  grind
theorem Bq8{l:List As}(w:Ad6 l){k:Int}(h:0≤k∧k<(l.length:Int))(hf:Art l (gt l k).Ef=true)(hp:Art l (gt l k).So=true)(hn:Art l (gt l k).Sn=true):Atl K l k (gt l k).Vi (gt l k).C9 (gt l k).Sl (gt l k).fUp (gt l k).Sm (gt l k).Ef (gt l k).Sn (gt l k).So (gt l k).Ay (gt l k).Acx (gt l k).Sq (gt l k).F6 (gt l k).Fi=some (Bez l k&&(Baw l k&&(A8a l k&&A6i l k))):=by
 unfold Atl Bez;rw[Bq7 hK w h hp hn]
 by_cases h0:(gt l k).Ef=0
 ·grind
 ·have hi:=A2p hf h0
  grind
theorem Bay{l:List As}(w:Ad6 l){k:Int}(h:0≤k∧k<(l.length:Int)):Ay0 K l k=some (A1h l k):=by
 unfold Ay0 A1h A2q;rw[if_pos h,Azq K (Acz w),A3y K w,A3y K w,A3y K w];simp only[Z0,Ae2];cases hf:Art l (gt l k).Ef with
 |false=>rfl
 |true=>
 cases hx:Art l (gt l k).Sn with
 |false=>rfl
 |true=>
 cases hp:Art l (gt l k).So with
 |false=>rfl
 |true=>
 rw[Bq8 hK w h hf hp hx]
 grind
theorem Bcu{l:List As}(w:Ad6 l):Az3 K l=some (A41 l):=by
 have hl:=Acz w;unfold Az3 A41;rw[Apw hK l.length (by omega) (fun k=>(gt l (k:Int)).Vi != 1||(A1h l k&&A1y l k)) (some true) (fun n i=>Apr K l n l (l.length:Int) i) (fun n i h=> ?_) (fun n=> ?_)]
 ·grind
 ·have hc:=Aiy h;obtain⟨e1,e2,e3⟩:=Bgs w hc
  have e4:=A1g K w (Bax hc);unfold A63 at e4
  have e5:decide (((Ail l l.length i).length:Int)>4)= !decide (((Ail l l.length i).length:Int)≤4):=by grind
  simp only[Apr,Axn];rw[Ad7 h,cond_true,if_pos hc,Bay hK w hc,Ad5 (by omega),Z0,A46 hK w,Z0,e1,if_pos ⟨e2,e3⟩,e4,Z0,e5]
  unfold A1y A63
  grind
 ·show Apr K l (n+1) _ _ _=_
  simp_all[Apr]
end
theorem A6j{c:Ea}(hc:Ahn c=true):An7 .i64 c.G8 1=c.G8 - 1:=by
 obtain⟨_,b2,_⟩:=F2 hc
 grind [An7,K0]
def Alb (c:Ea)(x:Az):Bool:=
 Ahn c&&(inB x.Bm 0 c.E6&&(inB x.Ef 0 c.E6&&(decide ((x.Fi.length:Int)≤6)&&(x.Fi.all (fun y=>inB y 0 255)&&(Auk c x.Ay&&(inB x.Wz 0 (c.G8 - 1)&&(decide ((x.Ay.length:Int)>0)||x.Wz==0)))))))
section
variable {K:Nat} (hK:281474976710656≤K)
include hK
theorem A9m (c:Ea)(x:Az)(hw:A1f x):Ayn K c x=some (Alb c x):=by
 have h1:=Ax8 hK hw.tags
 have h2:=Ax8 hK hw.chunks;unfold Ayn Av7;rw[Aq6];simp only[Z0,Ane];cases hc:Ahn c with
 |false=>simp[Alb,hc]
 |true=>
 have hA:Anz K c x.Ay K 0=some (Auk c x.Ay):=by
  rw[Apw hK x.Ay.length (by omega) (fun i=>inB (gt x.Ay i) 0 (c.Ay - 1)&& !(x.Ay.take i).contains (gt x.Ay i)) (some true) (fun k i=>Anz K c x.Ay k i) (fun k i h=> ?_) (fun k=> ?_)]
  ·unfold Auk;grind
  ·have hp:(x.Ay.take i).length≤140737488355328:=by grind
   simp only[Anz];rw[Ad7 h,cond_true,if_pos (Aiy h),Ane,if_pos (Bcn (by omega)),A6e,A1c hK _ _ hp,Ad5 (by omega),Azo hK hc]
   grind
  ·show Anz K c x.Ay (k+1) _=_
   simp_all[Anz]
 have hB:Ap0 K c x.Fi x.Ay K 0=some (x.Fi.all (fun y=>inB y 0 255)&&Auk c x.Ay):=by
  rw[Aso hK x.Fi (by omega) (fun y=>inB y 0 255) (some (Auk c x.Ay)) (Ap0 K c x.Fi x.Ay) (fun k i h=> ?_) (fun k=> ?_)]
  ·grind
  ·rw[Ap0,Ad7 h,cond_true,if_pos (Aiy h),V2 h,Ane,Ad5 (by omega),Z0,Ae2]
  simp_all[Ap0]
 rw[hB,A6j hc]
 have e6:decide ((x.Fi.length:Int)>6)= !decide ((x.Fi.length:Int)≤6):=by grind
 have e0:decide ((x.Ay.length:Int)>0)= !((x.Ay.length:Int)==0):=by
  grind
 unfold Alb
 grind
theorem A9n (c:Ea)(x:Az)(hw:A1f x):Ay1 K c x=some (Alb c x):=by
 have h1:=Ax8 hK hw.tags
 have h2:=Ax8 hK hw.chunks;unfold Ay1;rw[A3u];simp only[Z0,Auu];cases hc:Ahn c with
 |false=>simp[Alb,hc]
 |true=>
 rw[A2e hK _ (by omega),A4z hK hc _ h2,A6j hc]
 simp_all[Alb,A1b,At2]
end
theorem Aq1{c:Ea}{x:Az}(h:Alb c x=true):Ahn c=true∧(0≤x.Bm∧x.Bm≤c.E6)∧(0≤x.Ef∧x.Ef≤c.E6)∧Auk c x.Ay=true∧(0≤x.Wz∧x.Wz≤c.G8 - 1):=by
 unfold Alb at h;simp only[Z4,Acw]at h
 grind
theorem Axu{c:Ea}{l:List Int}(h:Auk c l=true): ∀x∈l,0≤x∧x<c.Ay:=by
 intro x hx;obtain⟨i,hi,e⟩:=List.mem_iff_getElem.1 hx;unfold Auk at h;rw[Z1]at h
 have:=h i (by grind)
 rw[Z4,V2 hi,e,Acw]at this;omega
theorem A47{l:List Int}:l.Nodup ↔ ∀i,(h:i<l.length)->l[i] ∉ l.take i:=by
 unfold List.Nodup;rw[List.pairwise_iff_getElem];constructor
 ·intro h i hi hm;obtain⟨j,hj,e⟩:=List.mem_iff_getElem.1 hm
  grind
 ·intro h i j hi hj hij e;exact h j hj (List.mem_iff_getElem.2 ⟨i,by grind,by grind⟩)
theorem Azr{c:Ea}{l:List Int}(h:Auk c l=true):l.Nodup:=by
 rw[A47];intro i hi hm;unfold Auk at h;rw[Z1]at h
 have:=h i (by grind)
 rw[Z4,V2 hi,Z44,List.contains_eq_mem]at this
 grind
theorem Axy{l:List Int}: ∀ {o:List Int},o.Nodup->(∀x∈o,x∈l)->o.length≤l.length:=by
 intro o
 induction o generalizing l with
 |nil=>grind
 |cons x o ih=>
  intro hn hs
  have hx:x∈l:=hs x (by simp)
  rw[List.nodup_cons]at hn
  have h2:=ih (l:=l.erase x) hn.2 (fun y hy=>by
   grind)
  grind
theorem Asi{c:Ea}(hc:Ahn c=true){l:List Int}(h:Auk c l=true):l.length≤12:=by
 obtain⟨b1,_⟩:=F2 hc
 have:=Axy (l:=(List.range 12).map (fun i:Nat=>(i:Int))) (Azr h) (fun x hx=>by
  have:=Axu h x hx;rw[Ey];exact⟨x.toNat,by grind,by omega⟩)
 grind
def Aw0 (l:List As):Nat->Int->List Int
 |0,_=>[]
 |n+1,k=>if 0≤k∧k<(l.length:Int)then k::Aw0 l n (An7 .i64 (gt l k).Sn 1)else []
theorem A1i{l:List As}: ∀(n:Nat) (k:Int),∀x∈Aw0 l n k,0≤x∧x<(l.length:Int):=by
 intro n
 induction n with
 |zero=>intro k x hx;cases hx
 |succ n ih=>
  intro k x hx;unfold Aw0 at hx
  grind
theorem A09{l:List As}: ∀(n:Nat) (k:Int),(Aw0 l n k).length≤n:=by
 intro n
 induction n with
 |zero=>intro k;exact Z9 _
 |succ n ih=>
  intro k;unfold Aw0
  grind
def P2 (l:List As)(first:Int):List Int:=Aw0 l l.length (An7 .i64 first 1)
def Aw1 (l:List As)(k:Int):Bool:=(gt l k).Vi==1&&((gt l k).fUp != 0&& !A0n l k)
theorem A64 (K:Nat){l:List As}(w:Ad6 l){k:Int}(h:0≤k∧k<(l.length:Int)):As8 K l k=some (Aw1 l k):=by
 simp_all[As8,Aw1,A6h,At2]
theorem A65 (K:Nat){l:List As}(w:Ad6 l){k:Int}(h:0≤k∧k<(l.length:Int)):Ar3 K l k=some (Aw1 l k):=by
 simp_all[Ar3,Aw1,A1g,At2]
section
variable {K:Nat} (hK:281474976710656≤K)
theorem Bij{l:List As}(w:Ad6 l): ∀(n:Nat) (k:Int) (v:List Int),wfi k->v.length≤l.length->l.length - v.length<n->Aua K l n k v=some (v++Aw0 l (l.length - v.length) (An7 .i64 k 1)):=by
 have hm:=V1
 have hb:l.length*152≤140737488355327:=w.2;intro n
 induction n with
 |zero=>omega
 |succ n ih=>
  intro k v hk hv hn;rw[Aua,Avy K (Acz w) hk];simp only[Z0]
  by_cases hs:0≤An7 .i64 k 1∧An7 .i64 k 1<(l.length:Int)
  ·rw[show plB l k=true from decide_eq_true hs]
   simp only[cond_true];rcases Hn v.length l.length with h|h
   ·rw[Ad7 h];simp only[cond_true]
    have hl2:(v++[An7 .i64 k 1]).length=v.length+1:=by simp
    rw[if_pos ⟨by omega,by omega⟩,if_pos hs,ih (gt l (An7 .i64 k 1)).Sn _ (w.1 _ (Akq hs.1 hs.2)).next (by omega) (by omega),hl2]
    obtain⟨m,hm⟩: ∃m,l.length - v.length=m+1:=⟨l.length - v.length - 1,by omega⟩
    rw[hm,Aw0,if_pos hs,show l.length - (v.length+1)=m from by omega]
    simp
   ·rw[Ars h];rw[show l.length - v.length=0 from by omega]
    simp[Aw0]
  ·rw[show plB l k=false from decide_eq_false hs]
   have:Aw0 l (l.length - v.length) (An7 .i64 k 1)=[]:=by
    cases l.length - v.length with
    |zero=>rfl
    |succ m=>rw[Aw0,if_neg hs]
   grind
theorem Bik{l:List As}(w:Ad6 l): ∀(n:Nat) (k:Int) (v:List Int),v.length≤l.length->l.length - v.length<n->Auh K l n v k=some (v++Aw0 l (l.length - v.length) k):=by
 have hm:=V1
 have hb:l.length*152≤140737488355327:=w.2;intro n
 induction n with
 |zero=>omega
 |succ n ih=>
  intro k v hv hn;rw[Auh,Azp K (by omega)]
  simp only[Z0]
  by_cases hs:0≤k∧k<(l.length:Int)
  ·rw[decide_eq_true hs];simp only[cond_true];rcases Hn v.length l.length with h|h
   ·rw[Ad7 h];simp only[cond_true]
    have hl2:(v++[k]).length=v.length+1:=by simp
    rw[if_pos ⟨by omega,by omega⟩,if_pos hs,ih _ _ (by omega) (by omega),hl2]
    obtain⟨m,hm⟩: ∃m,l.length - v.length=m+1:=⟨l.length - v.length - 1,by omega⟩
    rw[hm,Aw0,if_pos hs,show l.length - (v.length+1)=m from by omega]
    simp
   ·rw[Ars h];rw[show l.length - v.length=0 from by omega]
    simp[Aw0]
  ·rw[decide_eq_false hs]
   have:Aw0 l (l.length - v.length) k=[]:=by
    cases l.length - v.length with
    |zero=>rfl
    |succ m=>rw[Aw0,if_neg hs]
   grind
include hK
theorem A66{l:List As}(w:Ad6 l){k:Int}(hk:wfi k):Awx K l k=some (P2 l k):=by
 have hb:=Acz w;unfold Awx P2
 have:=Bij (K:=K) w K k [] hk (Z21 _) (by omega)
 grind
theorem A3z{l:List As}(w:Ad6 l)(k:Int):Auq K l k=some (P2 l k):=by
 have hb:=Acz w;unfold Auq P2
 have:=Bik (K:=K) w K (An7 .i64 k 1) [] (Z21 _) (by omega)
 grind
def Ank (w:C5)(x:Az):Bool:= !decide ((x.Ay.length:Int)>0)||Aqu ((w.fP.N7.drop (gt x.Ay 0*w.fC.G8).toNat).take x.Wz.toNat)
def Avz (w:C5)(x:Az):Bool:=x.Bm==0||(gt w.fL (An7 .i64 x.Bm 1)).Vi==2
def Aw2 (w:C5)(x:Az):Bool:=x.Ef==0||(gt w.fL (An7 .i64 x.Ef 1)).So==0
def A1z (w:C5)(x:Az):Bool:=x.Ay.all (fun k=>gt w.fP.Vi k==2)
def Arr (w:C5)(x:Az):Bool:=(P2 w.fL x.Ef).all (Aw1 w.fL)
def Aiq (w:C5)(x:Az):Bool:=Alb w.fC x&&(A1z w x&&(Ank w x&&(Avz w x&&(Aw2 w x&&Arr w x))))
theorem A5n{w:C5}(hL:(w.fL.length:Int)=w.fC.E6)(hc:Ahn w.fC=true){n:Int}(h0:n≠0)(h1:0≤n)(h2:n≤w.fC.E6):0≤An7 .i64 n 1∧An7 .i64 n 1<(w.fL.length:Int):=by
 obtain⟨_,_,b3,_⟩:=F2 hc
 grind [An7,K0]
theorem A9o (w:C5)(hw:Aid w)(hp:Au5 w.fC w.fP=true)(hL:(w.fL.length:Int)=w.fC.E6)(i:Nat)(hi:i<w.fQ.length):Axf K w i=some (Aiq w (gt w.fQ i)):=by
 have hx:=hw.q.1 _ (Aou hi);unfold Axf;rw[if_pos (Aiy hi)];generalize gt w.fQ i=x at *;rw[A9m hK _ _ hx,Z0,Ae2];unfold Aiq;cases hr:Alb w.fC x with
 |false=>rfl
 |true=>
 rw[cond_true,Z30];obtain⟨hc,⟨s1,s2⟩,⟨f1,f2⟩,hd,d1,d2⟩:=Aq1 hr;obtain⟨_,hm,hst,_⟩:=Atr hp;obtain⟨b1,b2,b3,_⟩:=F2 hc
 have hch:=Axu hd
 have hl:=Ax8 hK hx.chunks
 have h3:Ao8 K x.Ef w.fL=some (Arr w x):=by
  unfold Ao8 Arr
  have hk:=A09 (l:=w.fL) w.fL.length (An7 .i64 x.Ef 1)
  have hin:=A1i (l:=w.fL) w.fL.length (An7 .i64 x.Ef 1);rw[A66 hK hw.l hx.first,Z0];change (P2 w.fL x.Ef).length≤_ at hk;change ∀y∈P2 w.fL x.Ef,_ at hin;generalize P2 w.fL x.Ef=r at *;rw[Aso hK r (by omega) (Aw1 w.fL) (some true) (Aqh K w.fL r) (fun n i h=> ?_) (fun n=> ?_)]
  ·grind
  ·rw[Aqh,Ad7 h,cond_true,if_pos (Aiy h),A64 K hw.l (hin _ (Aou h)),Ad5 (by omega),Z0,Ae2,V2 h]
  simp_all[Aqh]
 have h2:Asc K x.Bm x.Ef w.fL=some (Avz w x&&(Aw2 w x&&Arr w x)):=by
  unfold Asc Avz Aw2;rw[h3]
  by_cases g1:x.Ef=0
  ·rw[g1]
   by_cases g2:x.Bm=0
   ·grind
   ·rw[A0m g2,Aps g2,cond_true,if_pos (A5n hK hL hc g2 s1 s2)]
    grind
  ·have hF:(bif (x.Ef != 0)then(if(0:Int)≤(An7 .i64 x.Ef 1)∧(An7 .i64 x.Ef 1)<(w.fL.length:Int)then(bif (((gt w.fL (An7 .i64 x.Ef 1)).So) != 0)then some false else some (Arr w x))else none)else some (Arr w x))=some ((x.Ef==0||(gt w.fL (An7 .i64 x.Ef 1)).So==0)&&Arr w x):=by
    rw[A0m g1,Aps g1,cond_true,if_pos (A5n hK hL hc g1 f1 f2)]
    grind
   rw[hF]
   by_cases g2:x.Bm=0
   ·grind
   ·rw[A0m g2,Aps g2,cond_true,if_pos (A5n hK hL hc g2 s1 s2)]
    grind
 rw[Aso hK x.Ay (by omega) (fun k=>gt w.fP.Vi k==2) (some (Ank w x&&(Avz w x&&(Aw2 w x&&Arr w x)))) (fun n i=>Ao9 K n i x.Bm x.Ef x.Fi x.Ay x.Wz w.fC.Ay w.fC.G8 w.fC.E6 w.fC.Gu w.fC.E7 w.fC.G9 w.fP.N7 w.fP.Vi w.fP.N8 w.fL w.fQ w.Acy) (fun n i h=> ?_) (fun n=> ?_)]
 ·rw[At2];rfl
 ·simp only[Ao9]
  have h5:=hch _ (Aou h);rw[Ad7 h,cond_true,if_pos (Aiy h),if_pos ⟨h5.1,by omega⟩,Ad5 (by omega),bne,Ae2,V2 h]
 ·show Ao9 K (n+1) _ _ _ _ _ _ _ _ _ _ _ _ _ _ _ _ _ _=_;rw[Ao9,Ars (Z9 _),cond_false,h2];unfold Ank
  by_cases g:(x.Ay.length:Int)>0
  ·have h5:=hch _ (Akq (l:=x.Ay) (Int.le_refl 0) (by omega))
   obtain⟨e1,e2,e3,e4⟩:=A2l hc hm h5.1 h5.2
   have e5:An6 .i64 (gt x.Ay 0*w.fC.G8) x.Wz=gt x.Ay 0*w.fC.G8+x.Wz:=by
    have:=Au4 (a:=gt x.Ay 0) (b:=w.fC.G8) (m:=12) (n:=16) h5.1 (by omega) (by omega) b2.2
    grind [An6,K0]
   rw[decide_eq_true g,cond_true,if_pos ⟨by omega,by omega⟩,if_pos ⟨by omega,by omega⟩,e1,e5,if_pos ⟨e3,by omega,by omega⟩,A1w hK _ (by grind),show gt x.Ay 0*w.fC.G8+x.Wz - gt x.Ay 0*w.fC.G8=x.Wz by omega]
   grind
  grind
end
def Amj (N:Nat)(l:List Int):List Int:=(List.range N).map (fun k:Nat=>((l.count (k:Int):Nat):Int))
theorem A5o (N:Nat)(l:List Int):(Amj N l).length=N:=by simp[Amj]
theorem A10{N:Nat}{l:List Int}{x:Int}(h0:0≤x)(h1:x<N):gt (Amj N l) x=((l.count x:Nat):Int):=by
 obtain⟨k,rfl⟩: ∃k:Nat,x=k:=⟨x.toNat,by omega⟩
 grind [V2,Amj]
theorem Bcv (N:Nat):Amj N []=List.replicate N 0:=by
 refine List.ext_getElem (by simp[Amj]) fun i h1 h2=> ?_
 simp[Amj]
theorem Bcw{N:Nat}{l:List Int}{x:Int}(h0:0≤x)(h1:x<N)(hl:l.length≤140737488355327):(Amj N l).set x.toNat (An6 .i64 (gt (Amj N l) x) 1)=Amj N (l++[x]):=by
 have hc:l.count x≤l.length:=List.count_le_length
 have e:An6 .i64 (gt (Amj N l) x) 1=((l.count x+1:Nat):Int):=by
  grind [A10,Ad5]
 rw[e];refine List.ext_getElem (by simp[Amj]) fun i h2 h3=> ?_
 rw[List.getElem_set];simp only[Amj,List.getElem_map,List.getElem_range,List.count_append,List.count_singleton]
 grind
theorem A8c{C P:List Int}(hs: ∀x∈C,x∈P)(hP:P.Nodup):(∀x∈P,C.count x=1) ↔ (C.Nodup∧C.length=P.length):=by
 constructor
 ·intro h
  have hn:C.Nodup:=by
   grind
  refine⟨hn,?_⟩
  have h1:=Axy hn hs
  have h2:=Axy hP (l:=C) (fun x hx=>List.count_pos_iff.1 (by grind))
  omega
 ·rintro⟨hn,hl⟩ x hx
  have hp:=A62 hn hs hl
  have:=hn.count (a:=x);rw[this,if_pos (hp.mem_iff.2 hx)]
def chL (q:List Az):List Int:=q.flatMap (fun x=>x.Ay)
def slL (q:List Az):List Int:=q.flatMap (fun x=>if x.Bm=0 then []else [An7 .i64 x.Bm 1])
def kdL (l:List As)(q:List Az):List Int:=q.flatMap (fun x=>P2 l x.Ef)
theorem A91{α β:Type}(q:List α)(f:α->List β)(i:Nat)(h:i<q.length):(q.take (i+1)).flatMap f=(q.take i).flatMap f++f q[i]:=by
 grind [List.take_append_getElem]
theorem A5p{α β:Type}(q:List α)(f:α->List β)(m:Nat)(h: ∀x∈q,(f x).length≤m):(q.flatMap f).length≤q.length*m:=by
 induction q with
 |nil=>simp
 |cons x q ih=>
  have h1:=h x (by simp)
  have h2:=ih fun y hy=>h y (by simp[hy])
  simp only[List.flatMap_cons,Z23,Z28,Ze,Nat.one_mul];omega
def A67 (w:C5):List Int:=((List.range w.fP.Vi.length).filter (fun k:Nat=>gt w.fP.Vi k==2)).map (fun k:Nat=>(k:Int))
def A68 (w:C5):List Int:=((List.range w.fL.length).filter (fun k:Nat=>(gt w.fL k).Vi==2)).map (fun k:Nat=>(k:Int))
def Bcx (w:C5):List Int:=((List.range w.fL.length).filter (fun k:Nat=>Aw1 w.fL k)).map (fun k:Nat=>(k:Int))
theorem A48 (N:Nat)(p:Nat->Bool):(((List.range N).filter p).map (fun k:Nat=>(k:Int))).Nodup:=by
 grind [List.pairwise_lt_range,List.Pairwise.imp]
theorem Aw3{N:Nat}{p:Nat->Bool}{x:Int}:x∈((List.range N).filter p).map (fun k:Nat=>(k:Int)) ↔ (0≤x∧x<(N:Int))∧p x.toNat=true:=by
 grind
def Awg (w:C5)(N:Nat):Bool:=
 (List.range w.fP.Vi.length).all (fun k=> !(gt w.fP.Vi k==2)||gt (Amj N (chL w.fQ)) k==1)&&
 (List.range w.fL.length).all (fun k=>(!((gt w.fL k).Vi==2)||gt (Amj w.fL.length (slL w.fQ)) k==1)&&(!Aw1 w.fL k||gt (Amj w.fL.length (kdL w.fL w.fQ)) k==1))
def A49 (q:List Az)(i k:Nat):Bool:= !((gt q i).Bm != 0&&(gt q k).Bm==(gt q i).Bm)&&(gt q i).Ay.all (fun y=> !(gt q k).Ay.contains y)
def Baz (q:List Az):Bool:=(List.range q.length).all (fun i=>(List.range i).all (fun k=>A49 q i k))
def A6l (l:List Int):Bool:=(List.range l.length).all (fun i=> !(l.take i).contains (gt l i))
def A7m (w:C5):Bool:=
 Baz w.fQ&&(A6l (kdL w.fL w.fQ)&&((((chL w.fQ).length:Int)==((A67 w).length:Int))&&((((slL w.fQ).length:Int)==((A68 w).length:Int))&&(((kdL w.fL w.fQ).length:Int)==((Bcx w).length:Int)))))
theorem Be1 (l:List Int):A6l l=true ↔ l.Nodup:=by
 grind [A47,A6l,V2]
theorem Bcy{w:C5}{q:List Az}(h1: ∀x∈q,x.Ay.Nodup)(h2: ∀x∈q,0≤x.Bm∧x.Bm≤8):Baz q=true ↔ (chL q).Nodup∧(slL q).Nodup:=by
 unfold chL slL List.Nodup;rw[List.pairwise_flatMap,List.pairwise_flatMap,List.pairwise_iff_getElem,List.pairwise_iff_getElem]
 have hs: ∀x∈q,List.Pairwise (fun a b:Int=>a≠b) (if x.Bm=0 then []else [An7 .i64 x.Bm 1]):=by
  intro x _;split<;>simp
 have hsub: ∀x∈q,An7 .i64 x.Bm 1=x.Bm - 1:=by
  grind [An7,K0]
 unfold Baz A49;simp only[Z1,List.mem_range,Z4,Z44,List.contains_eq_mem,decide_eq_false_iff_not];constructor
 ·intro h;refine⟨⟨h1,fun i j hi hj hij x hx y hy e=> ?_⟩,hs,fun i j hi hj hij x hx y hy e=> ?_⟩
  ·have:=(h j hj i hij).2
   grind [V2]
  ·have:=(h j hj i hij).1
   simp_all[V2]
 ·rintro⟨⟨_,h3⟩,_,h4⟩ i hi k hk
  have hk':k<q.length:=by omega
  rw[V2 hi,V2 hk'];refine⟨?_,fun x hx hy=>h3 k i hk' hi hk x hy x hx rfl⟩;rw[Bool.and_eq_false_iff]
  by_cases g:q[i].Bm=0
  ·grind
  ·right;rw[beq_eq_false_iff_ne];intro e;refine h4 k i hk' hi hk (An7 .i64 q[k].Bm 1) ?_ (An7 .i64 q[i].Bm 1) ?_ (by rw[e])
   all_goals grind
theorem Bwv{w:C5}(hp:Au5 w.fC w.fP=true)(hL:(w.fL.length:Int)=w.fC.E6)(hq: ∀x∈w.fQ,Aiq w x=true):Awg w w.fC.Ay.toNat=A7m w:=by
 obtain⟨hc,hm,hst,_⟩:=Atr hp;obtain⟨b1,b2,b3,_⟩:=F2 hc
 have hone: ∀x∈w.fQ,(0≤x.Bm∧x.Bm≤w.fC.E6)∧Auk w.fC x.Ay=true∧A1z w x=true∧Avz w x=true∧Arr w x=true:=by
  intro x hx
  have:=hq x hx;unfold Aiq at this;simp only[Z4]at this;obtain⟨h1,h2,h3,h4,h5,h6⟩:=this;obtain⟨_,g1,_,g3,_⟩:=Aq1 h1
  grind
 have hC: ∀x∈chL w.fQ,x∈A67 w:=by
  intro y hy;unfold chL at hy;rw[List.mem_flatMap]at hy;obtain⟨x,hx,hy⟩:=hy;obtain⟨_,g2,g3,_⟩:=hone x hx
  have:=Axu g2 y hy;unfold A1z at g3;rw[Z1]at g3
  have g4:=g3 y hy;refine Aw3.2 ⟨⟨this.1,by omega⟩,?_⟩
  grind
 have hS: ∀x∈slL w.fQ,x∈A68 w:=by
  intro y hy;unfold slL at hy;rw[List.mem_flatMap]at hy;obtain⟨x,hx,hy⟩:=hy;obtain⟨g1,g2,g3,g4,_⟩:=hone x hx;split at hy
  ·cases hy
  ·rename_i g;simp only[Pz]at hy;unfold Avz at g4;rw[Aps g,Z52,←hy]at g4
   have:y=x.Bm - 1:=by grind [An7,K0]
   refine Aw3.2 ⟨⟨by omega,by omega⟩,?_⟩
   grind
 have hK2: ∀x∈kdL w.fL w.fQ,x∈Bcx w:=by
  intro y hy;unfold kdL at hy;rw[List.mem_flatMap]at hy;obtain⟨x,hx,hy⟩:=hy;obtain⟨g1,g2,g3,g4,g5⟩:=hone x hx;unfold Arr at g5;rw[Z1]at g5
  have:=A1i _ _ y hy;refine Aw3.2 ⟨this,?_⟩
  grind
 have e1:=A8c hC (A48 _ _)
 have e2:=A8c hS (A48 _ _)
 have e3:=A8c hK2 (A48 _ _)
 have hp2:=Bcy (w:=w) (q:=w.fQ) (fun x hx=>Azr (hone x hx).2.1) (fun x hx=>by grind)
 rw[Bool.eq_iff_iff];unfold Awg A7m;simp only[Z4,Z1,List.mem_range,Bool.or_eq_true,Z44,beq_iff_eq,Be1,hp2,beq_eq_false_iff_ne]
 have c1:(∀x∈A67 w,(chL w.fQ).count x=1) ↔ ∀k,k<w.fP.Vi.length->gt w.fP.Vi (k:Int)≠2∨gt (Amj w.fC.Ay.toNat (chL w.fQ)) (k:Int)=1:=by
  constructor
  ·intro h k hk
   by_cases g:gt w.fP.Vi (k:Int)=2
   ·right;rw[A10 (by omega) (by omega),h k (Aw3.2 ⟨⟨by omega,by omega⟩,by grind⟩)];rfl
   omega
  ·intro h x hx;obtain⟨⟨h1,h2⟩,h3⟩:=Aw3.1 hx;rw[beq_iff_eq,show((x.toNat:Nat):Int)=x by omega]at h3
   rcases h x.toNat (by omega)with h4|h4
   ·grind
   ·rw[show((x.toNat:Nat):Int)=x by omega,A10 h1 (by omega)]at h4;omega
 have c2:(∀x∈A68 w,(slL w.fQ).count x=1) ↔ ∀k,k<w.fL.length->(gt w.fL (k:Int)).Vi≠2∨gt (Amj w.fL.length (slL w.fQ)) (k:Int)=1:=by
  constructor
  ·intro h k hk
   by_cases g:(gt w.fL (k:Int)).Vi=2
   ·right;rw[A10 (by omega) (by omega),h k (Aw3.2 ⟨⟨by omega,by omega⟩,by grind⟩)];rfl
   omega
  ·intro h x hx;obtain⟨⟨h1,h2⟩,h3⟩:=Aw3.1 hx;rw[beq_iff_eq,show((x.toNat:Nat):Int)=x by omega]at h3
   rcases h x.toNat (by omega)with h4|h4
   ·grind
   ·rw[show((x.toNat:Nat):Int)=x by omega,A10 h1 (by omega)]at h4;omega
 have c3:(∀x∈Bcx w,(kdL w.fL w.fQ).count x=1) ↔ ∀k,k<w.fL.length->Aw1 w.fL (k:Int)=false∨gt (Amj w.fL.length (kdL w.fL w.fQ)) (k:Int)=1:=by
  constructor
  ·intro h k hk;cases g:Aw1 w.fL (k:Int)with
   |true=>
    right;rw[A10 (by omega) (by omega),h k (Aw3.2 ⟨⟨by omega,by omega⟩,by grind⟩)];rfl
   |false=>left;rfl
  ·intro h x hx;obtain⟨⟨h1,h2⟩,h3⟩:=Aw3.1 hx;rw[show((x.toNat:Nat):Int)=x by omega]at h3
   rcases h x.toNat (by omega)with h4|h4
   ·grind
   ·rw[show((x.toNat:Nat):Int)=x by omega,A10 h1 (by omega)]at h4;omega
 grind
theorem A7n{α β:Type}{K:Nat}(hK:281474976710656≤K)(l:List α)(hl:l.length≤140737488355328)(q:α->Bool)(fin bad:Option β)(L:Nat->Nat->Option β)
  (hs: ∀n (i:Nat) (h:i<l.length),L (n+1) i=bif q l[i]then L n (i+1)else bad)
  (he: ∀n,L (n+1) l.length=fin):L K 0=bif l.all q then fin else bad:=by
 have:=Bgp l q fin bad (fun n i=>L n i.toNat) (fun n i h=>by grind) (fun n=>by simp_all) K 0 (Z21 _) (by omega)
 grind
section
variable {K:Nat} (hK:281474976710656≤K)
include hK
theorem Bil (w:C5)(hw:Aid w):Abj K (Amj w.fL.length (slL w.fQ)) (Amj w.fL.length (kdL w.fL w.fQ)) w.fL K (w.fL.length:Int) 0 w.fL=some ((List.range w.fL.length).all (fun k=>(!((gt w.fL (k:Int)).Vi==2)||gt (Amj w.fL.length (slL w.fQ)) k==1)&&(!Aw1 w.fL k||gt (Amj w.fL.length (kdL w.fL w.fQ)) k==1))):=by
 have hl:=Acz hw.l
 rw[Apw hK w.fL.length (by omega) (fun k=>(!((gt w.fL (k:Int)).Vi==2)||gt (Amj w.fL.length (slL w.fQ)) k==1)&&(!Aw1 w.fL k||gt (Amj w.fL.length (kdL w.fL w.fQ)) k==1)) (some true) (fun n i=>Abj K (Amj w.fL.length (slL w.fQ)) (Amj w.fL.length (kdL w.fL w.fQ)) w.fL n (w.fL.length:Int) i w.fL) (fun n i h=> ?_) (fun n=> ?_)]
 ·grind
 ·simp only[Abj,Aky];rw[Ad7 h,cond_true,if_pos (Aiy h),A65 K hw.l (Aiy h),Ad5 (by omega)]
  simp only[Z0,A5o,if_pos (Aiy h),bne,Ae2]
  grind
 ·show Abj K _ _ _ (n+1) _ _ _=_
  simp_all[Abj]
theorem Bim (w:C5)(hw:Aid w)(hp:Au5 w.fC w.fP=true):Agn K (Amj w.fC.Ay.toNat (chL w.fQ)) (Amj w.fL.length (slL w.fQ)) (Amj w.fL.length (kdL w.fL w.fQ)) w.fP.Vi w.fL K (w.fP.Vi.length:Int) 0 w.fP.Vi=some (Awg w w.fC.Ay.toNat):=by
 obtain⟨hc,hm,hst,_⟩:=Atr hp;obtain⟨b1,_⟩:=F2 hc
 rw[Apw hK w.fP.Vi.length (by omega) (fun k=> !(gt w.fP.Vi k==2)||gt (Amj w.fC.Ay.toNat (chL w.fQ)) k==1) (some ((List.range w.fL.length).all (fun k=>(!((gt w.fL (k:Int)).Vi==2)||gt (Amj w.fL.length (slL w.fQ)) k==1)&&(!Aw1 w.fL k||gt (Amj w.fL.length (kdL w.fL w.fQ)) k==1)))) (fun n i=>Agn K (Amj w.fC.Ay.toNat (chL w.fQ)) (Amj w.fL.length (slL w.fQ)) (Amj w.fL.length (kdL w.fL w.fQ)) w.fP.Vi w.fL n (w.fP.Vi.length:Int) i w.fP.Vi) (fun n i h=> ?_) (fun n=> ?_)]
 ·rw[At2];rfl
 ·simp only[Agn,Aq0];rw[Ad7 h,cond_true,if_pos (Aiy h),Ad5 (by omega)]
  simp only[A5o,if_pos (show(0:Int)≤(i:Int)∧(i:Int)<((w.fC.Ay.toNat:Nat):Int) from⟨by omega,by omega⟩),bne,Ae2]
  grind
 ·show Agn K _ _ _ _ _ (n+1) _ _ _=_;rw[Agn,Ars (Z9 _),cond_false,Bil hK w hw]
theorem Bcz{β:Type}(N:Nat)(base l:List Int)(hin: ∀x∈l,0≤x∧x<(N:Int))(hl:base.length+l.length≤140737488355327)(q:Int->Bool)(fin bad:Option β)(L:Nat->List Int->Int->Option β)
  (hs: ∀n v (i:Nat) (h:i<l.length),v.length=N->L (n+1) v (i:Int)=bif q l[i]then L n (v.set (l[i]).toNat (An6 .i64 (gt v l[i]) 1)) ((i+1:Nat):Int)else bad)
  (he: ∀n,L (n+1) (Amj N (base++l)) (l.length:Int)=fin):L K (Amj N base) 0=bif l.all q then fin else bad:=by
 have:=A7n hK l (by omega) q fin bad (fun n i=>L n (Amj N (base++l.take i)) (i:Int)) (fun n i h=> ?_) (fun n=> ?_)
 ·grind
 ·have hb:(base++l.take i).length≤140737488355327:=by grind
  simp_all[A5o,Bcw]
 grind
theorem Be2 (w:C5)(hw:Aid w)(hp:Au5 w.fC w.fP=true)(hL:(w.fL.length:Int)=w.fC.E6)(x:Az)(hx:A1f x)(c s d:List Int)(i:Nat)(n:Nat)(hi:i<w.fQ.length)(he:gt w.fQ i=x)
  (hb1:c.length+12≤140737488355327) (hb2:s.length≤140737488355326) (hb3:d.length+8≤140737488355327):
  Gy K (n+1) (Amj w.fC.Ay.toNat c) (Amj w.fL.length s) (Amj w.fL.length d) w.fQ (w.fQ.length:Int) i w.fC.Ay w.fC.G8 w.fC.E6 w.fC.Gu w.fC.E7 w.fC.G9 w.fP.N7 w.fP.Vi w.fP.N8 w.fL w.fQ w.Acy
   =bif Aiq w x then Gy K n (Amj w.fC.Ay.toNat (c++x.Ay)) (Amj w.fL.length (s++if x.Bm=0 then []else [An7 .i64 x.Bm 1])) (Amj w.fL.length (d++P2 w.fL x.Ef)) w.fQ (w.fQ.length:Int) ((i+1:Nat):Int) w.fC.Ay w.fC.G8 w.fC.E6 w.fC.Gu w.fC.E7 w.fC.G9 w.fP.N7 w.fP.Vi w.fP.N8 w.fL w.fQ w.Acy else some false:=by
 have hq:=hw.q.2;rw[Gy];rw[show Ea.mk w.fC.Ay w.fC.G8 w.fC.E6 w.fC.Gu w.fC.E7 w.fC.G9=w.fC from rfl,show Dn.mk w.fP.N7 w.fP.Vi w.fP.N8=w.fP from rfl]
 rw[Ad7 hi,cond_true,if_pos (Aiy hi),he,A9n hK _ _ hx,Z0];unfold Aiq;cases hr:Alb w.fC x with
 |false=>rfl
 |true=>
 rw[cond_true,Z30];obtain⟨hc,⟨s1,s2⟩,⟨f1,f2⟩,hd,d1,d2⟩:=Aq1 hr;obtain⟨_,hm,hst,_⟩:=Atr hp;obtain⟨b1,b2,b3,_⟩:=F2 hc
 have hch:=Axu hd
 have hcl:=Asi hc hd
 have h5: ∀s',Apf K (Amj w.fL.length d) w.fQ (w.fQ.length:Int) i w.fC.Ay w.fC.G8 w.fC.E6 w.fC.Gu w.fC.E7 w.fC.G9 w.fP.N7 w.fP.Vi w.fP.N8 w.fL w.fQ w.Acy x.Ef (Amj w.fC.Ay.toNat (c++x.Ay)) s' (Gy K n)
   =bif Arr w x then Gy K n (Amj w.fC.Ay.toNat (c++x.Ay)) s' (Amj w.fL.length (d++P2 w.fL x.Ef)) w.fQ (w.fQ.length:Int) ((i+1:Nat):Int) w.fC.Ay w.fC.G8 w.fC.E6 w.fC.Gu w.fC.E7 w.fC.G9 w.fP.N7 w.fP.Vi w.fP.N8 w.fL w.fQ w.Acy else some false:=by
  intro s'
  have hk:=A09 (l:=w.fL) w.fL.length (An7 .i64 x.Ef 1)
  have hin:=A1i (l:=w.fL) w.fL.length (An7 .i64 x.Ef 1);unfold Apf Arr;rw[A3z hK hw.l,Z0];change (P2 w.fL x.Ef).length≤_ at hk;change ∀y∈P2 w.fL x.Ef,_ at hin;generalize P2 w.fL x.Ef=r at*
  refine Bcz hK w.fL.length d r hin (by omega) (Aw1 w.fL) _ _ (fun m v j=>Ais K w.fQ (w.fQ.length:Int) i w.fC.Ay w.fC.G8 w.fC.E6 w.fC.Gu w.fC.E7 w.fC.G9 w.fP.N7 w.fP.Vi w.fP.N8 w.fL w.fQ w.Acy (Amj w.fC.Ay.toNat (c++x.Ay)) s' r (Gy K n) m v (r.length:Int) j) (fun m v j hj hv=> ?_) (fun m=> ?_)
  ·have hr1:=hin _ (Aou hj);simp only[Ais];rw[Ad7 hj,cond_true,if_pos (Aiy hj),if_pos (by omega),if_pos (by omega),A65 K hw.l hr1,Ad5 (by omega),Z0,Ae2,V2 hj]
  ·show Ais K _ _ _ _ _ _ _ _ _ _ _ _ _ _ _ _ _ _ _ (m+1) _ _ _=_;rw[Ais,Ars (Z9 _),cond_false,Ad5 (by omega)]
 have h4: ∀s',Apg K (Amj w.fL.length d) w.fQ (w.fQ.length:Int) i w.fC.Ay w.fC.G8 w.fC.E6 w.fC.Gu w.fC.E7 w.fC.G9 w.fP.N7 w.fP.Vi w.fP.N8 w.fL w.fQ w.Acy x.Ef (Amj w.fC.Ay.toNat (c++x.Ay)) (Gy K n) s'
   =bif Aw2 w x&&Arr w x then Gy K n (Amj w.fC.Ay.toNat (c++x.Ay)) s' (Amj w.fL.length (d++P2 w.fL x.Ef)) w.fQ (w.fQ.length:Int) ((i+1:Nat):Int) w.fC.Ay w.fC.G8 w.fC.E6 w.fC.Gu w.fC.E7 w.fC.G9 w.fP.N7 w.fP.Vi w.fP.N8 w.fL w.fQ w.Acy else some false:=by
  intro s';unfold Apg Aw2;rw[h5]
  by_cases g:x.Ef=0
  ·grind
  ·rw[decide_eq_true (by omega),cond_true,if_pos (A5n hK hL hc g f1 f2),Aps g]
   grind
 have h2:Aph K (Amj w.fC.Ay.toNat c) (Amj w.fL.length s) (Amj w.fL.length d) w.fQ (w.fQ.length:Int) i w.fC.Ay w.fC.G8 w.fC.E6 w.fC.Gu w.fC.E7 w.fC.G9 w.fP.N7 w.fP.Vi w.fP.N8 w.fL w.fQ w.Acy (Gy K n) x.Bm x.Ef x.Fi x.Ay x.Wz
   =bif A1z w x&&(Avz w x&&(Aw2 w x&&Arr w x))then Gy K n (Amj w.fC.Ay.toNat (c++x.Ay)) (Amj w.fL.length (s++if x.Bm=0 then []else [An7 .i64 x.Bm 1])) (Amj w.fL.length (d++P2 w.fL x.Ef)) w.fQ (w.fQ.length:Int) ((i+1:Nat):Int) w.fC.Ay w.fC.G8 w.fC.E6 w.fC.Gu w.fC.E7 w.fC.G9 w.fP.N7 w.fP.Vi w.fP.N8 w.fL w.fQ w.Acy else some false:=by
  unfold Aph;rw[Bcz hK w.fC.Ay.toNat c x.Ay (fun y hy=>by grind) (by omega) (fun k=>gt w.fP.Vi k==2)
   (bif Avz w x&&(Aw2 w x&&Arr w x)then Gy K n (Amj w.fC.Ay.toNat (c++x.Ay)) (Amj w.fL.length (s++if x.Bm=0 then []else [An7 .i64 x.Bm 1])) (Amj w.fL.length (d++P2 w.fL x.Ef)) w.fQ (w.fQ.length:Int) ((i+1:Nat):Int) w.fC.Ay w.fC.G8 w.fC.E6 w.fC.Gu w.fC.E7 w.fC.G9 w.fP.N7 w.fP.Vi w.fP.N8 w.fL w.fQ w.Acy else some false) (some false)
   (fun m v j=>Aix K (Amj w.fL.length s) (Amj w.fL.length d) w.fQ (w.fQ.length:Int) i w.fC.Ay w.fC.G8 w.fC.E6 w.fC.Gu w.fC.E7 w.fC.G9 w.fP.N7 w.fP.Vi w.fP.N8 w.fL w.fQ w.Acy x.Bm x.Ef x.Ay (Gy K n) m v (x.Ay.length:Int) j x.Ay) (fun m v j hj hv=> ?_) (fun m=> ?_)]
  ·unfold A1z
   grind
  ·have hr1:=hch _ (Aou hj);simp only[Aix];rw[Ad7 hj,cond_true,if_pos (Aiy hj),if_pos (by omega),if_pos (by omega),if_pos ⟨hr1.1,by omega⟩,Ad5 (by omega),bne,Ae2,V2 hj]
  ·show Aix K _ _ _ _ _ _ _ _ _ _ _ _ _ _ _ _ _ _ _ _ _ (m+1) _ _ _ _=_;rw[Aix,Ars (Z9 _),cond_false,h4,h4,A5o];unfold Avz
   by_cases g:x.Bm=0
   ·grind
   ·have hlk:=A5n hK hL hc g s1 s2;rw[decide_eq_true (by omega),cond_true,if_pos hlk,if_pos hlk,if_neg g,Bcw hlk.1 hlk.2 (by omega),Aps g]
    grind
 rw[h2];unfold Ank
 by_cases g:(x.Ay.length:Int)>0
 ·have h5:=hch _ (Akq (l:=x.Ay) (Int.le_refl 0) (by omega))
  obtain⟨e1,e2,e3,e4⟩:=A2l hc hm h5.1 h5.2
  have hlc:(Avv w.fC w.fP.N7 (gt x.Ay 0)).length=w.fC.G8.toNat:=by grind [Avv]
  have htk:List.take (x.Wz - 0).toNat (List.drop (0:Int).toNat (Avv w.fC w.fP.N7 (gt x.Ay 0)))=List.take x.Wz.toNat (List.drop (gt x.Ay 0*w.fC.G8).toNat w.fP.N7):=by
   unfold Avv;simp only[Int.sub_zero,Int.toNat_zero,Z55,List.take_take];rw[Nat.min_eq_left (by omega)]
  rw[decide_eq_true g,cond_true,if_pos ⟨by omega,by omega⟩,A73 hK hc hm h5.1 h5.2,Z0,if_pos ⟨by omega,by omega,by rw[hlc];omega⟩,htk,A3v hK _ (by simp;omega)]
  simp only[Z0,Ae2,Bool.not_true,Z52];cases Aqu (List.take x.Wz.toNat (List.drop (gt x.Ay 0*w.fC.G8).toNat w.fP.N7))<;>cases A1z w x<;>rfl
 ·rw[decide_eq_false g];simp only[cond_false,Bool.not_false,Bool.true_or,Z30]
theorem Bgt (q:List Az):(slL q).length≤q.length:=by
 have:=A5p q (fun x=>if x.Bm=0 then []else [An7 .i64 x.Bm 1]) 1 (fun x _=>by grind)
 grind [slL]
theorem Ba0 (l:List As)(hl:l.length≤8)(q:List Az):(kdL l q).length≤q.length*8:=
 A5p _ _ 8 fun x _=>Vx (A09 _ _) hl
end
theorem Be3{β:Type}(N:Nat)(hN:N≤140737488355327)(q:Nat->Bool)(fin:Int->Option β)(L:Nat->Int->Int->Option β)
  (hs: ∀n (v:Int) (i:Nat),i<N->0≤v->v≤i->L (n+1) v (i:Int)=bif q i then L n (v+1) ((i+1:Nat):Int)else L n v ((i+1:Nat):Int))
  (he: ∀n v,L (n+1) v (N:Int)=fin v):
  ∀(n i:Nat) (v:Int),0≤v->v≤i->i≤N->N - i<n->L n v (i:Int)=fin (v+((((List.range N).drop i).filter q).length:Int)):=by
 intro n
 induction n with
 |zero=>omega
 |succ n ih=>
  intro i v h0 hv hi hn;rcases Hn i N with h|h
  ·rw[hs n v i h h0 hv,Z47 (by grind),List.getElem_range,List.filter_cons]
   cases hq:q i with
   |true=>
    rw[cond_true,ih (i+1) _ (by omega) (by omega) (by omega) (by omega)]
    grind
   |false=>
    grind
  grind
theorem Ba1{v:Int}(h0:0≤v)(h:v≤140737488355328):An6 .i64 v 1=v+1:=by grind [An6,K0]
section
variable {K:Nat} (hK:281474976710656≤K)
include hK
theorem Ba2 (w:C5)(hw:Aid w)(hp:Au5 w.fC w.fP=true)(hL:(w.fL.length:Int)=w.fC.E6):Asg K w=some (w.fQ.all (Aiq w)&&Awg w w.fC.Ay.toNat):=by
 obtain⟨hc,hm,hst,_⟩:=Atr hp;obtain⟨b1,b2,b3,_⟩:=F2 hc
 have hq:=hw.q.2
 have key: ∀(n i:Nat),(∀x∈w.fQ.take i,Aiq w x=true)->i≤w.fQ.length->w.fQ.length - i<n→
   Gy K n (Amj w.fC.Ay.toNat (chL (w.fQ.take i))) (Amj w.fL.length (slL (w.fQ.take i))) (Amj w.fL.length (kdL w.fL (w.fQ.take i))) w.fQ (w.fQ.length:Int) i w.fC.Ay w.fC.G8 w.fC.E6 w.fC.Gu w.fC.E7 w.fC.G9 w.fP.N7 w.fP.Vi w.fP.N8 w.fL w.fQ w.Acy=some ((w.fQ.drop i).all (Aiq w)&&Awg w w.fC.Ay.toNat):=by
  intro n
  induction n with
  |zero=>omega
  |succ n ih=>
   intro i hpre hi hn;rcases Hn i w.fQ.length with h|h
   ·have hb1:(chL (w.fQ.take i)).length≤(w.fQ.take i).length*12:=A5p _ _ 12 fun x hx=>by
     have:=hpre x hx;unfold Aiq at this;simp only[Z4]at this;obtain⟨hc,_,_,hd,_⟩:=Aq1 this.1;exact Asi hc hd
    have hb2:=Bgt hK (w.fQ.take i)
    have hb3:=Ba0 hK w.fL (by omega) (w.fQ.take i)
    rw[List.length_take]at hb1 hb2 hb3;rw[Be2 hK w hw hp hL w.fQ[i] (hw.q.1 _ (List.getElem_mem h)) _ _ _ i n h (V2 h) (by omega) (by omega) (by omega),Z47 h,Ge]
    cases hx:Aiq w w.fQ[i]with
    |false=>rfl
    |true=>
     rw[cond_true,Z30,←ih (i+1) (fun x hx2=>by
      grind [List.take_append_getElem]) h (by omega)]
     simp_all[chL,slL,kdL,A91]
   ·obtain rfl:i=w.fQ.length:=by omega
    rw[Gy,Ars (Z9 _),cond_false,List.take_length,Bim hK w hw hp,List.drop_length];rfl
 unfold Asg;rw[if_pos ⟨by omega,by omega,by omega,by omega⟩,if_pos ⟨by omega,by omega,by omega,by omega⟩,if_pos ⟨by omega,by omega,by omega,by omega⟩]
 have:=key K 0 (fun x hx=>by simp at hx) (Z21 _) (by omega)
 rw[List.take_zero,Z55,show chL []=[] from rfl,show slL []=[] from rfl,show kdL w.fL []=[] from rfl,Bcv,Bcv]at this
 grind
theorem Ba3 (p:Dn)(st:Int)(hl:p.Vi.length≤140737488355327):Aym K p st=some ((((List.range p.Vi.length).filter (fun k:Nat=>gt p.Vi k==st)).length:Nat):Int):=by
 unfold Aym
 have:=Be3 p.Vi.length hl (fun k:Nat=>gt p.Vi k==st) some (fun n v i=>Anx K st n v i p.N7 p.Vi p.N8) (fun n v i hi h0 hv=> ?_) (fun n v=> ?_) K 0 0 (Int.le_refl _) (Int.le_refl _) (Z21 _) (by omega)
 ·grind
 ·simp only[Anx,Av5];rw[Ad7 hi,cond_true,if_pos (Aiy hi),Ad5 (by omega),Ba1 h0 (by omega)]
 ·show Anx K st (n+1) v _ _ _ _=_
  simp_all[Anx]
theorem A3k (l:List As)(st:Int)(hl:l.length≤140737488355327):Aqf K l st=some ((((List.range l.length).filter (fun k:Nat=>(gt l k).Vi==st)).length:Nat):Int):=by
 unfold Aqf
 have:=Be3 l.length hl (fun k:Nat=>(gt l k).Vi==st) some (fun n v i=>Akr K l st n v i) (fun n v i hi h0 hv=> ?_) (fun n v=> ?_) K 0 0 (Int.le_refl _) (Int.le_refl _) (Z21 _) (by omega)
 ·grind
 ·simp only[Akr,Asl];rw[Ad7 hi,cond_true,if_pos (Aiy hi),Ad5 (by omega),Ba1 h0 (by omega)]
 ·show Akr K l st (n+1) v _=_
  simp_all[Akr]
theorem Be4 (w:C5)(hw:Aid w)(v1 v2:Int)(v3:List Int)(h3:v3.length≤140737488355327):
  Ahg K v1 v2 v3 w.fP.N7 w.fP.Vi w.fP.N8 w.fL K 0 0=some (A6l v3&&((v1==((A67 w).length:Int))&&((v2==((A68 w).length:Int))&&((v3.length:Int)==((Bcx w).length:Int))))):=by
 have hl:=Acz hw.l
 have hs:=Ax8 hK hw.p.st
 have h8: ∀v24,Ak3 K v1 v2 v3 w.fP.N7 w.fP.Vi w.fP.N8 w.fL v24 K 0=some (A6l v3&&((v1==((A67 w).length:Int))&&((v2==((A68 w).length:Int))&&((v3.length:Int)==v24)))):=by
  intro v24;rw[Apw hK v3.length (by omega) (fun i=> !(v3.take i).contains (gt v3 i)) (some ((v1==((A67 w).length:Int))&&((v2==((A68 w).length:Int))&&((v3.length:Int)==v24)))) (fun n i=>Ak3 K v1 v2 v3 w.fP.N7 w.fP.Vi w.fP.N8 w.fL v24 n i) (fun n i h=> ?_) (fun n=> ?_)]
  ·rw[At2];rfl
  ·have hp:(v3.take i).length≤140737488355328:=by grind
   simp only[Ak3];rw[Ad7 h,cond_true,if_pos (Bcn (by omega)),if_pos (Aiy h),A6e,A1c hK _ _ hp,Ad5 (by omega),Z0,Ae2]
  ·show Ak3 K v1 v2 v3 _ _ _ _ v24 (n+1) _=_
   simp_all[Ak3,Ba3,A3k,At2,A67,A68]
 have:=Be3 w.fL.length hl (fun k:Nat=>Aw1 w.fL k) (fun v=>some (A6l v3&&((v1==((A67 w).length:Int))&&((v2==((A68 w).length:Int))&&((v3.length:Int)==v))))) (fun n v i=>Ahg K v1 v2 v3 w.fP.N7 w.fP.Vi w.fP.N8 w.fL n v i) (fun n v i hi h0 hv=> ?_) (fun n v=> ?_) K 0 0 (Int.le_refl _) (Int.le_refl _) (Z21 _) (by omega)
 ·rw[show((0:Nat):Int)=0 from rfl]at this
  simp_all[Bcx]
 ·simp only[Ahg,Aty];rw[Ad7 hi,cond_true,A64 K hw.l (Aiy hi),Z0,Ad5 (by omega),Ba1 h0 (by omega)]
 ·show Ahg K v1 v2 v3 _ _ _ _ (n+1) v _=_
  simp_all[Ahg]
theorem Bc0 (w:C5)(hw:Aid w)(i n:Nat)(hi:i<w.fQ.length)(v1 v2:Int)(v3:List Int)(h1:0≤v1∧v1≤70368744177664)(h2:0≤v2∧v2≤70368744177664)(h3:(v3.length+w.fL.length)*8≤140737488355327)(hcl:(gt w.fQ i).Ay.length≤12):
  Aeq K (n+1) v1 v2 v3 i w.fC.Ay w.fC.G8 w.fC.E6 w.fC.Gu w.fC.E7 w.fC.G9 w.fP.N7 w.fP.Vi w.fP.N8 w.fL w.fQ w.Acy
   =bif (List.range i).all (fun k=>A49 w.fQ i k)then Aeq K n (v1+((gt w.fQ i).Ay.length:Int)) (v2+((if(gt w.fQ i).Bm=0 then([]:List Int)else [An7 .i64 (gt w.fQ i).Bm 1]).length:Int)) (v3++P2 w.fL (gt w.fQ i).Ef) ((i+1:Nat):Int) w.fC.Ay w.fC.G8 w.fC.E6 w.fC.Gu w.fC.E7 w.fC.G9 w.fP.N7 w.fP.Vi w.fP.N8 w.fL w.fQ w.Acy else some false:=by
 have hq:=hw.q.2
 have hm:=V1
 have hx:=hw.q.1 _ (Aou hi)
 have hkl:=A09 (l:=w.fL) w.fL.length (An7 .i64 (gt w.fQ i).Ef 1);change (P2 w.fL (gt w.fQ i).Ef).length≤_ at hkl
 have hJ: ∀v17 v18,Arm K v3 i w.fC.Ay w.fC.G8 w.fC.E6 w.fC.Gu w.fC.E7 w.fC.G9 w.fP.N7 w.fP.Vi w.fP.N8 w.fL w.fQ w.Acy (Aeq K n) v17 v18
   =bif (List.range i).all (fun k=>A49 w.fQ i k)then Aeq K n v17 v18 (v3++P2 w.fL (gt w.fQ i).Ef) ((i+1:Nat):Int) w.fC.Ay w.fC.G8 w.fC.E6 w.fC.Gu w.fC.E7 w.fC.G9 w.fP.N7 w.fP.Vi w.fP.N8 w.fL w.fQ w.Acy else some false:=by
  intro v17 v18;unfold Arm
  have hlen:(v3++P2 w.fL (gt w.fQ i).Ef).length=v3.length+(P2 w.fL (gt w.fQ i).Ef).length:=by simp
  rw[if_pos (Aiy hi),A66 hK hw.l hx.first,Z0,if_pos ⟨by omega,by omega⟩]
  rw[Apw hK i (by omega) (fun k=>A49 w.fQ i k) _ (fun m k=>Ak1 K i w.fC.Ay w.fC.G8 w.fC.E6 w.fC.Gu w.fC.E7 w.fC.G9 w.fP.N7 w.fP.Vi w.fP.N8 w.fL w.fQ w.Acy v17 v18 (Aeq K n) m (v3++P2 w.fL (gt w.fQ i).Ef) k) (fun m k hk=> ?_) (fun m=> ?_)]
  ·have hk2:k<w.fQ.length:=by omega
   have hlk:=Ax8 hK (hw.q.1 _ (Aou hk2)).chunks
   have h4: ∀C:List Int->Int->Option Bool,Arl K i w.fQ (v3++P2 w.fL (gt w.fQ i).Ef) k C=bif (gt w.fQ i).Ay.all (fun y=> !(gt w.fQ k).Ay.contains y)then C (v3++P2 w.fL (gt w.fQ i).Ef) ((k+1:Nat):Int)else some false:=by
    intro C;unfold Arl;rw[Aso hK (gt w.fQ i).Ay (by omega) (fun y=> !(gt w.fQ k).Ay.contains y) _ (fun m j=>Ano K i w.fQ (v3++P2 w.fL (gt w.fQ i).Ef) k C m j) (fun m j hj=> ?_) (fun m=> ?_)]
    ·simp only[Ano];rw[if_pos (Aiy hi),Ad7 hj,cond_true,if_pos (Aiy hk2),if_pos (Aiy hj),A1c hK _ _ (by omega),Z0,Ad5 (by omega),Ae2,V2 hj,if_pos (Aiy hi)]
    ·show Ano K i w.fQ _ k C (m+1) _=_;rw[Ano,if_pos (Aiy hi),Ars (Z9 _),cond_false,Ad5 (by omega)]
   simp only[Ak1];rw[Ad7 hk,cond_true,if_pos (Aiy hi),if_pos (Aiy hk2),if_pos (Aiy hi),h4];unfold A49
   grind
  ·show Ak1 K i _ _ _ _ _ _ _ _ _ _ _ _ v17 v18 _ (m+1) _ _=_;rw[Ak1,Ars (Z9 _),cond_false,Ad5 (by omega)]
 rw[Aeq,Ad7 hi,cond_true,if_pos (Aiy hi),if_pos (Aiy hi),hJ,hJ]
 have e1:An6 .i64 v1 ((gt w.fQ i).Ay.length:Int)=v1+((gt w.fQ i).Ay.length:Int):=by grind [An6,K0]
 rw[e1,Ba1 h2.1 (by omega)]
 grind
theorem Bc1 (w:C5)(hw:Aid w)(hp:Au5 w.fC w.fP=true)(hL:(w.fL.length:Int)=w.fC.E6)(hall: ∀x∈w.fQ,Aiq w x=true):Av6 K w=some (A7m w):=by
 obtain⟨hc,hm,hst,_⟩:=Atr hp;obtain⟨b1,b2,b3,_⟩:=F2 hc
 have hq:=hw.q.2
 have hc12: ∀x∈w.fQ,x.Ay.length≤12:=fun x hx=>by
  have:=hall x hx;unfold Aiq at this;simp only[Z4]at this;obtain⟨hc,_,_,hd,_⟩:=Aq1 this.1;exact Asi hc hd
 have h3:=Ba0 hK w.fL (by omega) w.fQ
 unfold Av6
 have:=A7n hK (List.range w.fQ.length) (by grind) (fun i=>(List.range i).all (fun k=>A49 w.fQ i k)) (Ahg K ((chL w.fQ).length:Int) ((slL w.fQ).length:Int) (kdL w.fL w.fQ) w.fP.N7 w.fP.Vi w.fP.N8 w.fL K 0 0) (some false)
  (fun n i=>Aeq K n ((chL (w.fQ.take i)).length:Int) ((slL (w.fQ.take i)).length:Int) (kdL w.fL (w.fQ.take i)) (i:Int) w.fC.Ay w.fC.G8 w.fC.E6 w.fC.Gu w.fC.E7 w.fC.G9 w.fP.N7 w.fP.Vi w.fP.N8 w.fL w.fQ w.Acy) (fun n i h=> ?_) (fun n=> ?_)
 ·rw[List.take_zero,show chL []=[] from rfl,show slL []=[] from rfl,show kdL w.fL []=[] from rfl]at this
  refine Eq.trans this ?_;rw[Be4 hK w hw _ _ _ (by omega),At2]
  rfl
 ·have hi:i<w.fQ.length:=by grind
  have hb1:(chL (w.fQ.take i)).length≤(w.fQ.take i).length*12:=A5p _ _ 12 fun x hx=>hc12 x (Z42 hx)
  have hb2:=Bgt hK (w.fQ.take i)
  have hb3:=Ba0 hK w.fL (by omega) (w.fQ.take i)
  rw[List.length_take]at hb1 hb2 hb3;simp only[List.getElem_range];rw[Bc0 hK w hw i n hi _ _ _ ⟨by omega,by omega⟩ ⟨by omega,by omega⟩ (by omega) (hc12 _ (Aou hi))]
  simp_all[chL,slL,kdL,A91,V2]
 simp_all[Aeq.eq_2]
end
def Apu (w:C5):Bool:=
 Au5 w.fC w.fP&&(((w.fL.length:Int)==w.fC.E6)&&((List.range w.fL.length).all (A3j w)&&(A41 w.fL&&((w.fQ.all (Aiq w)&&Awg w w.fC.Ay.toNat)&&w.Acy.all (fun x=>inB x 0 255)))))
section
variable {K:Nat} (hK:281474976710656≤K)
include hK
theorem A25 (w:C5)(hw:Aid w):Atm K w=some (Apu w):=by
 have hl:=Ax8 hK hw.log;unfold Atm Apu;rw[Bcl hK,Z0];cases hp:Au5 w.fC w.fP with
 |false=>rfl
 |true=>
 rw[cond_true,Z30];cases hL:(w.fL.length:Int)==w.fC.E6 with
 |false=>rfl
 |true=>
 rw[beq_iff_eq]at hL;rw[cond_true,Z30,Bau hK w hw hp,Bcu hK hw.l,Ba2 hK w hw hp hL,A2e hK _ (by omega)]
 simp_all[At2]
theorem Awh (w:C5)(hw:Aid w):Arn K w=some (Apu w):=by
 have hl:=Ax8 hK hw.log
 have hl2:=Acz hw.l
 have hq:=hw.q.2;unfold Arn Apu;rw[A60 hK,Z0];cases hp:Au5 w.fC w.fP with
 |false=>rfl
 |true=>
 rw[cond_true,Z30];cases hL:(w.fL.length:Int)==w.fC.E6 with
 |false=>grind
 |true=>
 rw[bne,hL,Bool.not_true,cond_false,Z30,Bct hK hw.l,Z0,Ae2];rw[beq_iff_eq]at hL
 have e1:Ea.mk w.fC.Ay w.fC.G8 w.fC.E6 w.fC.Gu w.fC.E7 w.fC.G9=w.fC:=rfl
 have e2:C5.mk (Ea.mk w.fC.Ay w.fC.G8 w.fC.E6 w.fC.Gu w.fC.E7 w.fC.G9) (Dn.mk w.fP.N7 w.fP.Vi w.fP.N8) w.fL w.fQ w.Acy=w:=rfl
 have h3:w.fQ.all (Aiq w)=true->An0 K w.fC.Ay w.fC.G8 w.fC.E6 w.fC.Gu w.fC.E7 w.fC.G9 w.fP.N7 w.fP.Vi w.fP.N8 w.fL w.fQ w.Acy K 0=some (w.Acy.all (fun x=>inB x 0 255)&&Awg w w.fC.Ay.toNat):=by
  intro hall;rw[Z1]at hall;rw[Bwv hp hL hall];rw[Aso hK w.Acy (by omega) (fun x=>inB x 0 255) (some (A7m w)) (An0 K w.fC.Ay w.fC.G8 w.fC.E6 w.fC.Gu w.fC.E7 w.fC.G9 w.fP.N7 w.fP.Vi w.fP.N8 w.fL w.fQ w.Acy) (fun n i h=> ?_) (fun n=> ?_)]
  ·grind
  ·rw[An0,Ad7 h,cond_true,if_pos (Aiy h),Ane,Ad5 (by omega),Z0,Ae2,V2 h]
  simp_all[An0,Bc1]
 have h2:Ap1 K w.fC.Ay w.fC.G8 w.fC.E6 w.fC.Gu w.fC.E7 w.fC.G9 w.fP.N7 w.fP.Vi w.fP.N8 w.fL w.fQ w.Acy K 0=some (w.fQ.all (Aiq w)&&(w.Acy.all (fun x=>inB x 0 255)&&Awg w w.fC.Ay.toNat)):=by
  rw[Aso hK w.fQ (by omega) (Aiq w) (An0 K w.fC.Ay w.fC.G8 w.fC.E6 w.fC.Gu w.fC.E7 w.fC.G9 w.fP.N7 w.fP.Vi w.fP.N8 w.fL w.fQ w.Acy K 0) (Ap1 K w.fC.Ay w.fC.G8 w.fC.E6 w.fC.Gu w.fC.E7 w.fC.G9 w.fP.N7 w.fP.Vi w.fP.N8 w.fL w.fQ w.Acy) (fun n i h=> ?_) (fun n=> ?_)]
  ·grind
  ·rw[Ap1,Ad7 h,cond_true,e2,A9o hK w hw hp hL i h,Ad5 (by omega),Z0,Ae2,V2 h]
  simp_all[Ap1]
 have h1:An2 K K 0 w.fC.Ay w.fC.G8 w.fC.E6 w.fC.Gu w.fC.E7 w.fC.G9 w.fP.N7 w.fP.Vi w.fP.N8 w.fL w.fQ w.Acy=some ((List.range w.fL.length).all (A3j w)&&(w.fQ.all (Aiq w)&&(w.Acy.all (fun x=>inB x 0 255)&&Awg w w.fC.Ay.toNat))):=by
  rw[Apw hK w.fL.length (by omega) (A3j w) (some (w.fQ.all (Aiq w)&&(w.Acy.all (fun x=>inB x 0 255)&&Awg w w.fC.Ay.toNat))) (fun n i=>An2 K n i w.fC.Ay w.fC.G8 w.fC.E6 w.fC.Gu w.fC.E7 w.fC.G9 w.fP.N7 w.fP.Vi w.fP.N8 w.fL w.fQ w.Acy) (fun n k hk=> ?_) (fun n=> ?_)]
  ·grind
  ·simp only[An2];rw[e2,e1]
   have hn:=hw.l.1 _ (Aou hk)
   have l1:=Ax8 hK hn.chunks
   have l2:=A90 hK hn.things
   have l3:=Ax8 hK hn.tags;rw[Ad7 hk,cond_true,if_pos (Aiy hk),Atu hK _ _ l1 l2 l3,Z0,A77 hK w k hk hw.p.st.2 l1,Ad5 (by omega),A9k hK _ _ l1 l2]
   simp only[Z0];unfold A3j;cases hb:Ap6 w.fC (gt w.fL k)with
   |false=>rfl
   |true=>
   cases A08 w.fP k (gt w.fL k).Ay with
   |false=>rfl
   |true=>
   cases hi:(gt w.fL k).F6.all (Arp w.fC (gt w.fL k).Ay)with
   |false=>grind
   |true=>
   have hs:=A78 hi;rw[A9h hK _ l2 (fun t ht=>(hs t ht).1),Beu hK w k hk hp hn hb hs];simp only[Z0,cond_true,Ae2,Z30,if_pos (Aiy hk)]
   grind
  ·show An2 K (n+1) _ _ _ _ _ _ _ _ _ _ _ _ _=_
   simp_all[An2]
 grind
end
theorem Bne{n:Nat}(h:n≤reachBytes):n≤140737488355327:=by simp only[reachBytes]at h;omega
section
variable {K:Nat} (hK:281474976710656≤K)
include hK
end
theorem B0j{x:Int}(h:Bck x):0≤x∧x≤255:=by
 grind [Bck,Lit.wf,IntKind.min,IntKind.max,IntKind.signed,IntKind.bits]
theorem Bin{l:List Int}(h:Baq l):Bnc l:=⟨fun x hx=>B0j (h.1 x hx),by have:=Bne h.2.1;omega⟩
theorem B21{α:Type}(l:List α)(i:Nat)(x y:α):(l.set i x).set i y=l.set i y:=List.set_set ..
section
variable {K:Nat} (hK:281474976710656≤K)
include hK
def one{α:Type}(_:α):Nat:=1
def A1j (x:As):Nat:=10+x.Ay.length+3*x.F6.length+x.Fi.length
def A8d (p:Dn):Nat:=p.N7.length+p.Vi.length+p.N8.length
end
section
variable {K:Nat} (hK:281474976710656≤K)
include hK
theorem A7o{α β:Type}(l:List α)(hl:l.length≤140737488355327)(fin:Option β)(L:Nat->List α->Int->Option β)
  (hs: ∀n v (i:Nat) (h:i<l.length),v.length=i->L (n+1) v (i:Int)=L n (v++[l[i]]) ((i+1:Nat):Int))
  (he: ∀n,L (n+1) l (l.length:Int)=fin):L K [] 0=fin:=by
 have:=A7n hK l (by omega) (fun _=>true) fin none (fun n i=>L n (l.take i) (i:Int)) (fun n i h=>by
  grind [List.take_append_getElem]) (fun n=>by grind)
 grind
omit hK in
theorem A11 (K:Nat){p:Dn}(w:Azk p):Aq4 K p=some p:=by
 have hm:=V1
 have h1:=w.mem.2
 have h2:=w.st.2
 have h3:=w.own.2;unfold Aq4;simp only[Z38];rw[if_pos ⟨by omega,by omega⟩,if_pos ⟨by omega,by omega⟩,if_pos ⟨by omega,by omega⟩]
omit hK in
theorem Atv (K:Nat){n:As}(w:Apx n):Anj K n=some n:=by
 have hm:=V1
 have h1:=w.chunks.2
 have h2:=w.things.2
 have h3:=w.tags.2;unfold Anj;simp only[Z38];rw[if_pos ⟨by omega,by omega⟩,if_pos ⟨by omega,by omega⟩,if_pos ⟨by omega,by omega⟩]
theorem A26{l:List As}(w:Ad6 l):Atx K l=some l:=by
 have hm:=V1
 have h2:=w.2;unfold Atx;refine A7o hK l (Acz w) (some l) (fun n v i=>Arg K l n v i) (fun n v i h hv=> ?_) (fun n=> ?_)
 ·have hl:(v++[l[i]]).length=i+1:=by simp[hv]
  simp only[Arg];rw[Ad7 h,cond_true,if_pos (Aiy h),V2 h,Atv K (w.1 _ (List.getElem_mem h)),Z0,if_pos ⟨by omega,by omega⟩,Ad5 (by omega)]
 ·show Arg K l (n+1) _ _=_
  simp_all[Arg]
omit hK in
theorem Ba4 (K:Nat){x:Az}(w:A1f x):Ayl K x=some x:=by
 have hm:=V1
 have h1:=w.tags.2
 have h2:=w.chunks.2;unfold Ayl;simp only[Z38];rw[if_pos ⟨by omega,by omega⟩,if_pos ⟨by omega,by omega⟩]
theorem At4{w:C5}(hw:Aid w):Aqb K w=some w:=by
 have hm:=V1
 have h2:=hw.q.2
 have h3:=hw.log.2;unfold Aqb;rw[A11 K hw.p,Z0,A26 hK hw.l,Z0]
 refine A7o hK w.fQ (by omega) (some w) (fun n v i=>Apz K n i w.fC.Ay w.fC.G8 w.fC.E6 w.fC.Gu w.fC.E7 w.fC.G9 w.fP.N7 w.fP.Vi w.fP.N8 w.fL v w.Acy (C5.mk (Ea.mk 0 0 0 0 0 0) (Dn.mk [] [] []) [] [] []) w.fC.Ay w.fC.G8 w.fC.E6 w.fC.Gu w.fC.E7 w.fC.G9 w.fP.N7 w.fP.Vi w.fP.N8 w.fL w.fQ w.Acy) (fun n v i h hv=> ?_) (fun n=> ?_)
 ·have hl:(v++[w.fQ[i]]).length=i+1:=by simp[hv]
  simp only[Apz];rw[Ad7 h,cond_true,if_pos (Aiy h),V2 h,Ba4 K (hw.q.1 _ (List.getElem_mem h)),Z0,if_pos ⟨by omega,by omega⟩,Ad5 (by omega)]
 ·show Apz K (n+1) _ _ _ _ _ _ _ _ _ _ _ _ _ _ _ _ _ _ _ _ _ _ _ _ _ _=_;rw[Apz,Ars (Z9 _),cond_false];simp only[Z38];rw[if_pos ⟨by omega,by omega⟩]
omit hK in
theorem A42 (K:Nat){p:Dn}(w:Azk p):Aui K p=some p:=by
 unfold Aui;rw[Bes K w.mem.2,Ar5 K w.st.2,Ar5 K w.own.2];rfl
omit hK in
theorem A9p (K:Nat){n:As}(w:Apx n):Axo K n=some n:=by
 unfold Axo;rw[Ar5 K w.chunks.2,Bcp K w.things.2,Ar5 K w.tags.2];rfl
theorem A30{l:List As}(w:Ad6 l):Atn K l=some l:=by
 have hm:=V1
 have h2:=w.2;unfold Atn;refine A7o hK l (Acz w) (some l) (fun n v i=>Anu K l n v (l.length:Int) i) (fun n v i h hv=> ?_) (fun n=> ?_)
 ·have hl:(v++[l[i]]).length=i+1:=by simp[hv]
  simp only[Anu];rw[Ad7 h,cond_true,if_pos (Aiy h),V2 h,A9p K (w.1 _ (List.getElem_mem h)),Z0,if_pos ⟨by omega,by omega⟩,Ad5 (by omega)]
 ·show Anu K l (n+1) _ _ _=_
  simp_all[Anu]
omit hK in
theorem A8e (K:Nat){x:Az}(w:A1f x):Awc K x=some x:=by
 unfold Awc;rw[Ar5 K w.tags.2,Ar5 K w.chunks.2];rfl
theorem Bc2{α:Type}(v:List α)(d x:α):(v++[d]).set (v.length:Int).toNat x=v++[x]:=by
 simp_all
theorem Aza{w:C5}(hw:Aid w):Aos K w=some w:=by
 have hm:=V1
 have h2:=hw.q.2;unfold Aos;rw[A42 K hw.p,Z0,A30 hK hw.l,Z0,Ar5 K hw.log.2,Z0];refine A7o hK w.fQ (by omega) (some w) (fun n v i=>Anv K n w.fQ (w.fQ.length:Int) i (C5.mk w.fC w.fP w.fL v w.Acy) (C5.mk (Ea.mk 0 0 0 0 0 0) (Dn.mk [] [] []) [] [] [])) (fun n v i h hv=> ?_) (fun n=> ?_)
 ·simp only[Anv];rw[Ad7 h,cond_true,if_pos (Aiy h),V2 h,A8e K (hw.q.1 _ (List.getElem_mem h)),Z0,if_pos ⟨by omega,by omega⟩,Ad5 (by omega),Bc2 hK]
 ·show Anv K (n+1) _ _ _ _ _=_
  simp_all[Anv]
end
def Bnf (mem:List Int)(p n:Int):List Int×Bool:=if 0≤p∧0≤n∧p+n≤(mem.length:Int)then((mem.drop p.toNat).take n.toNat,true)else([],false)
theorem Bq9{mem:List Int}(a b:Nat):((mem.drop a).take b).length≤mem.length:=by grind
theorem Bc3 (K:Nat){mem:List Int}(hl:mem.length≤140737488355327)(p n:Int):Avl K mem p n=some (decide (0≤p∧0≤n∧p+n≤(mem.length:Int))):=by
 unfold Avl
 by_cases h1:(0:Int)≤p
 ·rw[decide_eq_true (show p≥0 from h1)]
  by_cases h2:(0:Int)≤n
  ·rw[decide_eq_true (show n≥0 from h2)]
   by_cases h3:p≤(mem.length:Int)
   ·rw[decide_eq_true h3];simp only[cond_true,Z7,decide_eq_decide]
    grind [An7,K0]
   ·rw[decide_eq_false h3];simp only[cond_true,cond_false,Z7]
    grind
  grind
 grind
theorem Be5 (K:Nat){mem:List Int}(hl:mem.length≤140737488355327)(p n:Int):A0x K mem p n=some (Bnf mem p n):=by
 unfold A0x Bnf;rw[Bc3 K hl];simp only[Z0]
 by_cases h:0≤p∧0≤n∧p+n≤(mem.length:Int)
 ·rw[decide_eq_true h,if_pos h]
  try simp only[cond_true]
  have e:An6 .i64 p n=p+n:=by grind [An6,K0]
  have hc:=Bq9 (mem:=mem) p.toNat (p+n - p).toNat;rw[e,if_pos ⟨by omega,by omega,by omega⟩,if_pos ⟨by grind,by grind [maxLen]⟩]
  grind
 grind
def Bng (mem:List Int)(t:Bc)(at_ n:Int):List Int×Bool:=if 0≤at_∧0≤n∧at_+n≤t.Ajm then Bnf mem (An6 .i64 t.fAt at_) n else([],false)
theorem Bnh{mem:List Int}{p n:Int}(h:p<0):Bnf mem p n=([],false):=by unfold Bnf;grind
theorem A8f (K:Nat){mem:List Int}(hl:mem.length≤140737488355327){t:Bc}(wt:ThingW t)(at_ n:Int):Av9 K mem t at_ n=some (Bng mem t at_ n):=by
 obtain⟨wl1,wl2⟩:=wt.2.1;unfold Av9 Ayp Bng
 by_cases h1:(0:Int)≤at_
 ·rw[decide_eq_true (show at_≥0 from h1)]
  by_cases h2:(0:Int)≤n
  ·rw[decide_eq_true (show n≥0 from h2)]
   by_cases h3:at_≤t.Ajm
   ·rw[decide_eq_true h3]
    have e:An7 .i64 t.Ajm at_=t.Ajm - at_:=by grind [An7,K0]
    rw[e]
    by_cases h4:n≤t.Ajm - at_
    ·rw[decide_eq_true h4,if_pos ⟨h1,h2,by omega⟩]
     simp only[cond_true,Be5 K hl];cases decide (t.fAt<0)with
     |true=>rfl
     |false=>
      by_cases h5:(0:Int)≤An6 .i64 t.fAt at_
      ·grind
      ·rw[decide_eq_false (show ¬An6 .i64 t.fAt at_≥0 from h5),Bnh (by omega)];rfl
    grind
   grind
  grind
 grind
def A31 (w:C5)(h:An):Int:=((Ail w.fL w.fL.length (Ap5 w.fL h)).length:Int)
theorem Be6{l:List As}(hl:l.length≤140737488355327)(h:An):wfi (Ap5 l h):=by
 by_cases h0:Ap5 l h<0
 ·unfold Ap5 at *;split at h0
  ·omega
  ·rename_i h1;rw[if_neg h1];exact⟨by omega,by omega⟩
 ·have:=A6g h0;exact⟨by omega,by omega⟩
section
variable {K:Nat} (hK:281474976710656≤K)
include hK
theorem Awi (w:C5)(hw:Ad6 w.fL)(h:An):Aoz K w h=some (A31 w h):=by
 have hl:=Acz hw;unfold Aoz Awr;rw[A22 K hl,Z0,A23 hK hw _ (Be6 hl h)];rfl
theorem A6m (w:C5)(hw:Ad6 w.fL)(h:An):Aur K w h=some (A31 w h):=by
 have hl:=Acz hw;unfold Aur A2d;rw[A5m K hl,Z0,A46 hK hw];rfl
def A5q (code Er:Int)(b:List Int):Et:=Et.mk code (An.mk 0 0) (Br.mk (An.mk 0 0) 0 0) b Er 0 0
end
section
variable {β:Type} [Inhabited β]
end
section
variable {K:Nat} (hK:281474976710656≤K)
include hK
end
section
variable {K:Nat} (hK:281474976710656≤K)
include hK
end
theorem Bgu{β:Type}(f:β->Nat): ∀(l:List β) (i:Nat) (h:i<l.length) (x:β),((l.set i x).map f).sum+f l[i]=(l.map f).sum+f x
 |[],i,h,x=>by simp at h
 |y::l,0,h,x=>by grind
 |y::l,i+1,h,x=>by
  have:=Bgu f l i (by grind) x
  grind
theorem Axz{l:List As}(hl:Ad6 l)(i:Nat){x:As}(hx:Apx x):Ad6 (l.set i x):=
 ⟨fun y hy=>(Z54 hy).elim (hl.1 y) (fun e=>e ▸ hx),by rw[Z49];exact hl.2⟩
def A1r (p:Dn)(k:Int):Dn:=if(0≤k∧k<(p.Vi.length:Int)∧k<(p.N8.length:Int))∧gt p.Vi k=1 then Dn.mk p.N7 (p.Vi.set k.toNat 2) (p.N8.set k.toNat (-1))else p
theorem A7p{p:Dn}(hp:Azk p)(k:Int):Azk (A1r p k)∧A8d (A1r p k)=A8d p:=by
 unfold A1r;split
 ·refine⟨⟨hp.mem,⟨fun x hx=> ?_,by rw[Z49];exact hp.st.2⟩,⟨fun x hx=> ?_,by rw[Z49];exact hp.own.2⟩⟩,by simp[A8d]⟩
  ·rcases Z54 hx with h|h
   ·exact hp.st.1 x h
   ·subst h;exact⟨by omega,by omega⟩
  ·rcases Z54 hx with h|h
   ·exact hp.own.1 x h
   ·subst h;exact⟨by omega,by omega⟩
 grind
theorem A8g (K:Nat){p:Dn}(hp:Azk p)(k:Int):A0s K p k=some (A1r p k):=by
 have h1:=hp.st.2;unfold A0s Asy A1r;rw[A11 K hp,Z0,A0b K (by omega),Z0]
 grind
theorem Be7 (K:Nat){p:Dn}(hp:Azk p)(k:Int):A05 K p k=some (A1r p k):=by
 have h1:=hp.st.2
 have h2:=hp.own.2;unfold A05 Avt A1r
 have e:An7 .i64 (Zy (p.Vi.length:Int) (p.N8.length:Int)) 1=Zy (p.Vi.length:Int) (p.N8.length:Int) - 1:=by
  grind [An7,Zy,K0]
 rw[A42 K hp,Z0,Auu,Z0,e]
 by_cases hs:0≤k∧k<(p.Vi.length:Int)∧k<(p.N8.length:Int)
 ·rw[Acw.2 (by grind [Zy]),cond_true,if_pos ⟨hs.1,hs.2.1⟩,if_pos ⟨hs.1,hs.2.1⟩,if_pos ⟨hs.1,hs.2.2⟩]
  grind
 ·rw[A7l.2 (by grind [Zy]),if_neg (show ¬((0≤k∧k<(p.Vi.length:Int)∧k<(p.N8.length:Int))∧gt p.Vi k=1) from fun x=>hs x.1)];rfl
def Aio (p:Dn)(l:List Int):Dn:=l.foldl A1r p
theorem Bio{p:Dn}(hp:Azk p)(l:List Int):Azk (Aio p l)∧A8d (Aio p l)=A8d p:=by
 unfold Aio
 induction l generalizing p with
 |nil=>grind
 |cons x l ih=>
  obtain⟨h1,h2⟩:=A7p hp x;obtain⟨h3,h4⟩:=ih h1;exact⟨h3,h4.trans h2⟩
theorem Ba5{α σ β:Type}{K:Nat}(hK:281474976710656≤K)(l:List α)(hl:l.length≤140737488355327)(f:σ->α->σ)(s0:σ)(I:σ->Prop)(hI:I s0)(hf: ∀s x,I s->I (f s x))(fin:Option β)(L:Nat->σ->Int->Option β)
  (hs: ∀n s (i:Nat) (h:i<l.length),I s->L (n+1) s (i:Int)=L n (f s l[i]) ((i+1:Nat):Int))
  (he: ∀n,L (n+1) (l.foldl f s0) (l.length:Int)=fin):L K s0 0=fin:=by
 have key: ∀(n i:Nat) (s:σ),I s->i≤l.length->l.length - i<n->(l.drop i).foldl f s=l.foldl f s0->L n s (i:Int)=fin:=by
  intro n
  induction n with
  |zero=>omega
  |succ n ih=>
   grind [List.drop_eq_getElem_cons]
 exact key K 0 s0 hI (Z21 _) (by omega) rfl
def Ago (n:As)(slot:Int):Az:=Az.mk slot n.Ef n.Fi n.Ay 0
def Azb (n:As):As:=As.mk n.Vi n.C9 (An6 .i64 n.Sl 1) n.fUp n.Sm 0 n.Sn n.So [] 0 0 [] []
theorem A27 (K:Nat){n:As}(hn:Apx n)(s:Int):Asz K n s=some (Ago n s):=by
 have hm:=V1
 have h1:=hn.tags.2
 have h2:=hn.chunks.2;unfold Asz;simp only[Z38];rw[if_pos ⟨by omega,by omega⟩,if_pos ⟨by omega,by omega⟩];rfl
theorem Ba6 (K:Nat){n:As}(hn:Apx n)(s:Int):Ay6 K n s=some (Ago n s):=by
 unfold Ay6;rw[Ar5 K hn.tags.2,Ar5 K hn.chunks.2];rfl
theorem Ba7 (K:Nat){n:As}(hn:Apx n):Ayk K n=some (Azb n):=by
 unfold Ayk;rw[Atv K hn];rfl
theorem Au9:wfi 0:=⟨by decide,by decide⟩
theorem Awj:A2n []:=⟨(fun x hx=>by cases hx),(by simp)⟩
theorem A12:Bar []:=⟨(fun x hx=>by cases hx),(by simp)⟩
theorem A8h{n:As}(hn:Apx n){s:Int}(hs:wfi s):A1f (Ago n s):=⟨hs,hn.first,hn.tags,hn.chunks,Au9⟩
def A1k (w:C5)(k:Int):C5:=C5.mk w.fC (Aio w.fP (gt w.fL k).Ay) (w.fL.set k.toNat (Azb (gt w.fL k))) (w.fQ++[Ago (gt w.fL k) 0]) w.Acy
theorem Be8{l:List As}{h:An}(h0:(Agu l h).2=0):(gt l (Agu l h).1).Vi=1:=by
 unfold Agu at *;cases e1:Aul h with
 |false=>grind
 |true=>
  rw[e1]at h0;simp only[cond_true]at *;cases e:decide (Ap5 l h<0)with
  |true=>grind
  |false=>
   rw[e]at h0;simp only[cond_false]at *;cases e2:Avw l (Ap5 l h)with
   |false=>grind
   |true=>
    simp only[cond_true]
    have h1:=of_decide_eq_false e;unfold Ap5 at h1 ⊢;split at h1
    ·rename_i h2;rw[if_pos h2];exact h2.2.1
    ·omega
section
variable {K:Nat} (hK:281474976710656≤K)
include hK
theorem A69 (w:C5)(hw:Aid w)(l:List Int)(hl:l.length≤140737488355327):Aq5 K w l=some (C5.mk w.fC (Aio w.fP l) w.fL w.fQ w.Acy):=by
 unfold Aq5;refine Ba5 hK l (by omega) A1r w.fP Azk hw.p (fun s x h=>(A7p h x).1) _ (fun n s i=>Ai0 K l n i w.fC.Ay w.fC.G8 w.fC.E6 w.fC.Gu w.fC.E7 w.fC.G9 s.N7 s.Vi s.N8 w.fL w.fQ w.Acy) (fun n s i h hs=> ?_) (fun n=> ?_)
 ·simp only[Ai0];rw[Ad7 h,cond_true,if_pos (Aiy h),V2 h,show Dn.mk s.N7 s.Vi s.N8=s from rfl,A8g K hs,Z0,Ad5 (by omega)]
 ·show Ai0 K l (n+1) _ _ _ _ _ _ _ _ _ _ _ _ _=_;rw[Ai0,Ars (Z9 _),cond_false];rfl
theorem Bc4 (w:C5)(hw:Azk w.fP){k:Int}(hk:0≤k∧k<(w.fL.length:Int))(hl:(gt w.fL k).Ay.length≤140737488355327):At1 K w k=some (C5.mk w.fC (Aio w.fP (gt w.fL k).Ay) w.fL w.fQ w.Acy):=by
 unfold At1;simp only[if_pos hk];refine Ba5 hK (gt w.fL k).Ay (by omega) A1r w.fP Azk hw (fun s x h=>(A7p h x).1) _ (fun n s i=>Ak9 K n (gt w.fL k).Ay ((gt w.fL k).Ay.length:Int) i w.fC.Ay w.fC.G8 w.fC.E6 w.fC.Gu w.fC.E7 w.fC.G9 s.N7 s.Vi s.N8 w.fL w.fQ w.Acy) (fun n s i h hs=> ?_) (fun n=> ?_)
 ·simp only[Ak9];rw[Ad7 h,cond_true,if_pos (Aiy h),V2 h,show Dn.mk s.N7 s.Vi s.N8=s from rfl,Be7 K hs,Z0,Ad5 (by omega)]
 ·show Ak9 K (n+1) _ _ _ _ _ _ _ _ _ _ _ _ _ _ _=_;rw[Ak9,Ars (Z9 _),cond_false];rfl
theorem Ba8 (w:C5)(hw:Aid w)(hQ:w.fQ.length≤140737488355){k:Int}(hk:0≤k∧k<(w.fL.length:Int)):Auy K w k=some (A1k w k):=by
 have hm:=V1
 have hn:=hw.l.1 _ (Akq hk.1 hk.2);unfold Auy;simp only[if_pos hk,A27 K hn,Z0,A69 hK w hw _ (Ax8 hK hn.chunks),Ba7 K hn];rw[if_pos ⟨by grind,by grind⟩]
 rfl
end
def Bti (n:As)(v:Int):As:=As.mk n.Vi n.C9 n.Sl n.fUp n.Sm n.Ef v n.So n.Ay n.Acx n.Sq n.F6 n.Fi
def Bni (n:As)(v:Int):As:=As.mk n.Vi n.C9 n.Sl n.fUp n.Sm n.Ef n.Sn v n.Ay n.Acx n.Sq n.F6 n.Fi
def Bnj (n:As)(v:Int):As:=As.mk n.Vi n.C9 n.Sl n.fUp n.Sm v n.Sn n.So n.Ay n.Acx n.Sq n.F6 n.Fi
def Bnk (n:As):As:=As.mk n.Vi n.C9 n.Sl 0 0 n.Ef 0 0 n.Ay n.Acx n.Sq n.F6 n.Fi
theorem Au7{l:List As}{k:Int}(hk:0≤k∧k<(l.length:Int))(x:As):gt (l.set k.toNat x) k=x:=by
 have hlt:k.toNat<(l.set k.toNat x).length:=by grind
 simp_all[gt]
theorem Azc{l:List As}{j k:Int}(hj:0≤j)(hk:0≤k∧k<(l.length:Int))(h:j≠k)(x:As):gt (l.set j.toNat x) k=gt l k:=by
 have h1:k.toNat<(l.set j.toNat x).length:=by grind
 have h2:k.toNat<l.length:=by omega
 have e1:gt (l.set j.toNat x) ((k.toNat:Nat):Int)=gt l ((k.toNat:Nat):Int):=by
  rw[V2 h1,V2 h2,List.getElem_set,if_neg (by omega)]
 grind
theorem A28 (K:Nat){l:List As}{k:Int}(hk:0≤k∧k<(l.length:Int)):At9 K k l=some (l.set k.toNat (Bnk (gt l k))):=by
 unfold At9;rw[if_pos hk];simp only[Aqk,Z49,Au7 hk,B21,if_pos hk];rfl
theorem A5r (K:Nat){l:List As}{k:Int}(hk:0≤k∧k<(l.length:Int)):Axs K k l=some (l.set k.toNat (Bnk (gt l k))):=A28 K hk
def A5s (l0 l:List As)(k nx pv:Int):List As:=bif plB l0 nx then l.set (An7 .i64 nx 1).toNat (Bni (gt l (An7 .i64 nx 1)) pv)else l
def A29 (l0 l:List As)(k nx pv:Int):List As:=(A5s l0 l k nx pv).set k.toNat (Bnk (gt (A5s l0 l k nx pv) k))
theorem A32 (l0 l:List As)(k nx pv:Int):(A5s l0 l k nx pv).length=l.length:=by
 grind [A5s]
theorem Azd (K:Nat){l0 l:List As}(hl:l0.length≤140737488355327)(he:l.length=l0.length){k:Int}(hk:0≤k∧k<(l0.length:Int))(a b c d e f nx pv:Int)(g:List Int)(h i:Int)(t:List Bc)(u:List Int)(hx:wfi nx):Ar1 K l0 k l a b c d e f nx pv g h i t u=some (A29 l0 l k nx pv):=by
 unfold Ar1 A29 A5s;rw[Avy K hl hx,Z0];cases hp:plB l0 nx with
 |false=>simp_all[A28]
 |true=>
  have:=Avx hp;rw[cond_true,cond_true,if_pos (by omega)]
  simp only[Aqk];rw[A28 K (by grind)]
  rfl
theorem Aze (K:Nat){l0 l:List As}(hl:l0.length≤140737488355327)(he:l.length=l0.length){k:Int}(hk:0≤k∧k<(l0.length:Int))(nx pv:Int)(hv:(gt l k).So=pv):Ar4 K l0 k l (An7 .i64 nx 1)=some (A29 l0 l k nx pv):=by
 unfold Ar4 A29 A5s;rw[Azq K hl,Z0];cases hp:plB l0 nx with
 |false=>simp_all[A5r]
 |true=>
  have:=Avx hp;rw[cond_true,cond_true,if_pos (by omega),if_pos (by omega),hv]
  simp only[Aqk];rw[A5r K (by grind)]
  rfl
def A33 (l:List As)(k:Int):List As:=
 bif plB l (gt l k).So then l.set (An7 .i64 (gt l k).So 1).toNat (Bti (gt l (An7 .i64 (gt l k).So 1)) (gt l k).Sn)
 else bif (gt l k).So==0&&(plB l (gt l k).fUp&&(gt l (An7 .i64 (gt l k).fUp 1)).Ef==An6 .i64 k 1)then l.set (An7 .i64 (gt l k).fUp 1).toNat (Bnj (gt l (An7 .i64 (gt l k).fUp 1)) (gt l k).Sn)
 else l
def Anf (l:List As)(k:Int):List As:=A29 l (A33 l k) k (gt l k).Sn (gt l k).So
theorem A2r (l:List As)(k:Int):(A33 l k).length=l.length:=by
 unfold A33;grind
theorem Bip{l:List As}{k:Int}(hk:0≤k∧k<(l.length:Int)):(gt (A33 l k) k).So=(gt l k).So:=by
 unfold A33;cases hp:plB l (gt l k).So with
 |true=>
  have:=Avx hp;rw[cond_true]
  by_cases e:An7 .i64 (gt l k).So 1=k
  ·rw[e,Au7 hk];rfl
  simp_all[Azc]
 |false=>
  rw[cond_false];cases hc:((gt l k).So==0&&(plB l (gt l k).fUp&&(gt l (An7 .i64 (gt l k).fUp 1)).Ef==An6 .i64 k 1))with
  |false=>rfl
  |true=>
   simp only[Z4]at hc
   have:=Avx hc.2.1;rw[cond_true]
   by_cases e:An7 .i64 (gt l k).fUp 1=k
   ·rw[e,Au7 hk];rfl
   simp_all[Azc]
section
variable {K:Nat} (hK:281474976710656≤K)
include hK
theorem Bc5{l:List As}(w:Ad6 l){k:Int}(hk:0≤k∧k<(l.length:Int)):Azv K l k=some (Anf l k):=by
 have hl:=Acz w
 have hn:=w.1 _ (Akq hk.1 hk.2)
 have e1:An7 .i64 (An6 .i64 k 1) 1=k:=by grind [An7,An6,K0]
 have hpk:plB l (An6 .i64 k 1)=true:=by grind [plB]
 have hwk:wfi (An6 .i64 k 1):=Bep _;unfold Azv Anf;rw[A26 hK w,Z0,Avy K hl hwk,Z0,hpk,Bool.not_true,cond_false,if_pos hk,Avy K hl hn.prev,Z0];unfold A33;cases hp:plB l (gt l k).So with
 |true=>
  have:=Avx hp;rw[cond_true,cond_true,if_pos this];simp only[Aqk];rw[Azd K hl (by grind) hk _ _ _ _ _ _ _ _ _ _ _ _ _ hn.next]
  rfl
 |false=>
  rw[cond_false,cond_false];cases h0:(gt l k).So==0 with
  |false=>
   simp_all[Aqp,Azd,Apx.next]
  |true=>
   rw[cond_true,Avy K hl hn.up,Z0];cases hu:plB l (gt l k).fUp with
   |false=>
    simp_all[Aqp,Azd,Apx.next]
   |true=>
    have hui:=Avx hu;rw[cond_true,if_pos hui];simp only[Z30,Aqp];cases (gt l (An7 .i64 (gt l k).fUp 1)).Ef==An6 .i64 k 1 with
    |false=>
     simp_all[Azd,Apx.next]
    |true=>
     simp only[cond_true,if_pos hui,Aqk];rw[Azd K hl (by grind) hk _ _ _ _ _ _ _ _ _ _ _ _ _ hn.next]
     rfl
theorem Bc6{l:List As}(w:Ad6 l){k:Int}(hk:0≤k∧k<(l.length:Int)):Az6 K l k=some (Anf l k):=by
 have hl:=Acz w
 have h0p:=Bip hk;unfold Az6 Anf;rw[A30 hK w,Z0,Azp K hl,Z0,decide_eq_true hk,Bool.not_true,cond_false,if_pos hk,if_pos hk,if_pos hk,Azq K hl,Z0];unfold A33 at h0p ⊢;cases hp:plB l (gt l k).So with
 |true=>
  rw[hp]at h0p
  have:=Avx hp;rw[cond_true]at h0p ⊢;rw[cond_true,if_pos hk,if_pos this];simp only[Aqk];exact Aze K hl (by grind) hk _ _ h0p
 |false=>
  rw[hp]at h0p;rw[cond_false]at h0p ⊢;rw[cond_false,if_pos hk];cases h0:(gt l k).So==0 with
  |false=>
   simp_all[Aqt,Aze]
  |true=>
   rw[h0]at h0p;rw[cond_true,Azq K hl,Z0];cases hu:plB l (gt l k).fUp with
   |false=>
    simp_all[Aqt,Aze]
   |true=>
    rw[hu]at h0p
    have hui:=Avx hu;rw[cond_true,if_pos hui];simp only[Z30,Aqt]at h0p ⊢;cases hf:(gt l (An7 .i64 (gt l k).fUp 1)).Ef==An6 .i64 k 1 with
    |false=>
     simp_all[Aze]
    |true=>
     rw[hf]at h0p;simp only[cond_true,if_pos hui,if_pos hk,Aqk]at h0p ⊢;exact Aze K hl (by grind) hk _ _ h0p
end
def Bnl (n:As):As:=As.mk 2 n.C9 0 0 0 0 0 0 [] 0 0 [] []
theorem Bww{n:As}(hn:Apx n):Apx (Bnl n):=
 ⟨⟨by show _≤(2:Int);omega,by show(2:Int)≤_;omega⟩,hn.gen,Au9,Au9,Au9,Au9,Au9,Au9,Awj,Au9,Au9,A12,Awj⟩
theorem Bra{n:As}(hn:Apx n){v:Int}(hv:wfi v):Apx (Bti n v):=⟨hn.st,hn.gen,hn.ep,hn.up,hn.upEp,hn.first,hv,hn.prev,hn.chunks,hn.cur,hn.bump,hn.things,hn.tags⟩
theorem Brb{n:As}(hn:Apx n){v:Int}(hv:wfi v):Apx (Bni n v):=⟨hn.st,hn.gen,hn.ep,hn.up,hn.upEp,hn.first,hn.next,hv,hn.chunks,hn.cur,hn.bump,hn.things,hn.tags⟩
theorem Bnm{n:As}(hn:Apx n){v:Int}(hv:wfi v):Apx (Bnj n v):=⟨hn.st,hn.gen,hn.ep,hn.up,hn.upEp,hv,hn.next,hn.prev,hn.chunks,hn.cur,hn.bump,hn.things,hn.tags⟩
theorem Bwx{n:As}(hn:Apx n):Apx (Bnk n):=by
 have z:wfi 0:=⟨by decide,by decide⟩
 exact⟨hn.st,hn.gen,hn.ep,z,z,hn.first,z,z,hn.chunks,hn.cur,hn.bump,hn.things,hn.tags⟩
theorem A4m{l:List As}{k:Int}(hk:0≤k∧k<(l.length:Int)){x:As}(h:A1j x=A1j (gt l k)):((l.set k.toNat x).map A1j).sum=(l.map A1j).sum:=by
 have hlt:k.toNat<l.length:=by omega
 have:=Bgu A1j l k.toNat hlt x
 have e:l[k.toNat]=gt l k:=by rw[←V2 hlt,show((k.toNat:Nat):Int)=k by omega]
 grind
theorem Bwy{l:List As}(w:Ad6 l){k:Int}(hk:0≤k∧k<(l.length:Int)):Ad6 (A33 l k)∧((A33 l k).map A1j).sum=(l.map A1j).sum:=by
 have hn:=w.1 _ (Akq hk.1 hk.2);unfold A33;cases hp:plB l (gt l k).So with
 |true=>
  have hi:=Avx hp;exact⟨Axz w _ (Bra (w.1 _ (Akq hi.1 hi.2)) hn.next),A4m hi rfl⟩
 |false=>
  rw[cond_false];cases hc:((gt l k).So==0&&(plB l (gt l k).fUp&&(gt l (An7 .i64 (gt l k).fUp 1)).Ef==An6 .i64 k 1))with
  |false=>grind
  |true=>
   simp only[Z4]at hc
   have hi:=Avx hc.2.1;exact⟨Axz w _ (Bnm (w.1 _ (Akq hi.1 hi.2)) hn.next),A4m hi rfl⟩
theorem Bwz{l0 l:List As}(w:Ad6 l)(he:l.length=l0.length)(k nx:Int){pv:Int}(hv:wfi pv):Ad6 (A5s l0 l k nx pv)∧((A5s l0 l k nx pv).map A1j).sum=(l.map A1j).sum:=by
 unfold A5s;cases hp:plB l0 nx with
 |true=>
  have hi:=Avx hp;rw[←he]at hi;exact⟨Axz w _ (Brb (w.1 _ (Akq hi.1 hi.2)) hv),A4m hi rfl⟩
 |false=>grind
theorem A6n{l:List As}(w:Ad6 l){k:Int}(hk:0≤k∧k<(l.length:Int)):Ad6 (Anf l k)∧((Anf l k).map A1j).sum=(l.map A1j).sum∧(Anf l k).length=l.length:=by
 have hn:=w.1 _ (Akq hk.1 hk.2);obtain⟨h1,h2⟩:=Bwy w hk
 have h3:=A2r l k;obtain⟨h4,h5⟩:=Bwz h1 h3 k (gt l k).Sn hn.prev
 have h6:=A32 l (A33 l k) k (gt l k).Sn (gt l k).So
 have hk':0≤k∧k<((A5s l (A33 l k) k (gt l k).Sn (gt l k).So).length:Int):=by omega
 unfold Anf A29;exact⟨Axz h4 _ (Bwx (h4.1 _ (Akq hk'.1 hk'.2))),(A4m (x:=Bnk (gt (A5s l (A33 l k) k (gt l k).Sn (gt l k).So) k)) hk' rfl).trans (h5.trans h2),by grind⟩
def Am6 (w:C5)(k:Int):C5:=C5.mk w.fC (Aio w.fP (gt w.fL k).Ay) ((Anf w.fL k).set k.toNat (Bnl (gt (Anf w.fL k) k))) (w.fQ++[Ago (gt w.fL k) (An6 .i64 k 1)]) w.Acy
section
variable {K:Nat} (hK:281474976710656≤K)
include hK
theorem Be9 (w:C5)(hw:Aid w)(hQ:w.fQ.length≤140737488355){k:Int}(hk:0≤k∧k<(w.fL.length:Int)):Axd K w k=some (Am6 w k):=by
 have hm:=V1
 have hn:=hw.l.1 _ (Akq hk.1 hk.2)
 have hk':0≤k∧k<((Anf w.fL k).length:Int):=by simp_all[A6n,Aid.l]
 unfold Axd Az9;simp only[if_pos hk,A27 K hn,Z0,A69 hK w hw _ (Ax8 hK hn.chunks),Bc5 hK hw.l hk,if_pos hk'];rw[if_pos ⟨by grind,by grind⟩]
 rfl
theorem Bfa (w:C5)(hw:Aid w)(hQ:w.fQ.length≤140737488355){k:Int}(hk:0≤k∧k<(w.fL.length:Int))(hst:(gt w.fL k).Vi=1):A06 K w k=some (Am6 w k):=by
 have hm:=V1
 have hn:=hw.l.1 _ (Akq hk.1 hk.2)
 have hk':0≤k∧k<((Anf w.fL k).length:Int):=by simp_all[A6n,Aid.l]
 unfold A06 A3s;rw[Aza hK hw,Z0,Azp K (Acz hw.l),Z0,decide_eq_true hk,cond_true,if_pos hk,hst];simp only[bne_self_eq_false,cond_false,if_pos hk,Ba6 K hn,Z0]
 rw[if_pos ⟨by omega,by omega⟩,Bc2 hK,Bc4 hK (C5.mk w.fC w.fP w.fL (w.fQ++[Ago (gt w.fL k) (An6 .i64 k 1)]) w.Acy) hw.p hk (Ax8 hK hn.chunks),Z0]
 simp only;rw[Bc6 hK hw.l hk];simp only[Z0,if_pos hk'];rfl
end
def B22 (c:Ea)(x:Az)(v:Int)(i:Nat):Int:=An6 .i64 v (bif ((i:Int)==0)then Att (An7 .i64 c.G8 x.Wz) c.E7 else Att c.G8 c.E7)
def Bw0 (c:Ea)(x:Az):Int:=
 (List.range x.Ay.length).foldl (B22 c x) (An6 .i64 (x.Fi.length:Int) 1)
section
variable {K:Nat} (hK:281474976710656≤K)
include hK
end
def Bw1 (w:C5)(k:Int):Int:=Bw0 w.fC (Ago (gt w.fL k) 0)
def kidsK (w:C5)(k:Int):List Int:=P2 w.fL (gt w.fL k).Ef
def Azm (w:C5)(met:List Int):Prop:=met.Nodup∧ ∀x∈met,0≤x∧x<(w.fL.length:Int)
theorem A7q{w:C5}{met:List Int}(h:Azm w met):met.length≤w.fL.length:=by
 have:=Axy (l:=(List.range w.fL.length).map (fun i:Nat=>(i:Int))) h.1 (fun x hx=>by
  have:=h.2 x hx;rw[Ey];exact⟨x.toNat,by grind,by omega⟩)
 grind
theorem A7r{w:C5}{met:List Int}(h:Azm w met){k:Int}(hk:0≤k∧k<(w.fL.length:Int))(hn:k ∉ met):Azm w (met++[k]):=by
 refine⟨List.nodup_append.2 ⟨h.1,by simp,fun a ha b hb e=>hn (by grind)⟩,fun x hx=> ?_⟩
 rcases Mj.1 hx with hx|hx
 ·exact h.2 x hx
 grind
theorem A34 (w:C5)(k:Int): ∀x∈kidsK w k,0≤x∧x<(w.fL.length:Int):=fun x hx=>A1i _ _ x hx
theorem Biq (w:C5)(k:Int):(kidsK w k).length≤w.fL.length:=A09 _ _
def mof (w:C5)(met:List Int):List Bool:=(List.range w.fL.length).map (fun i:Nat=>met.contains (i:Int))
theorem A4n (w:C5)(met:List Int):(mof w met).length=w.fL.length:=by simp[mof]
theorem Bw2{w:C5}{met:List Int}{k:Int}(h:0≤k∧k<(w.fL.length:Int)):gt (mof w met) k=met.contains k:=by
 obtain⟨i,rfl⟩: ∃i:Nat,k=i:=⟨k.toNat,by omega⟩
 grind [V2,mof]
theorem Brc{w:C5}{met:List Int}{k:Int}(h:0≤k∧k<(w.fL.length:Int)):(mof w met).set k.toNat true=mof w (met++[k]):=by
 refine List.ext_getElem (by grind [A4n]) fun i h1 h2=> ?_
 rw[List.getElem_set]
 by_cases e:k.toNat=i
 ·rw[if_pos e];simp only[mof,List.getElem_map,List.getElem_range]
  grind
 ·rw[if_neg e];simp only[mof,List.getElem_map,List.getElem_range]
  grind
theorem Brd (w:C5):List.replicate w.fL.length false=mof w []:=by
 refine List.ext_getElem (by simp[mof]) fun i h1 h2=> ?_
 simp[mof]
theorem Bnn{α σ β:Type}{K:Nat}(hK:281474976710656≤K)(l:List α)(hl:l.length≤140737488355328)(f:σ->α->σ)(s0:σ)(I:σ->Prop)(hI:I s0)(hf: ∀s x,x∈l->I s->I (f s x))(fin:Option β)(L:Nat->σ->Int->Option β)
  (hs: ∀n s (i:Nat) (h:i<l.length),I s->L (n+1) s (i:Int)=L n (f s l[i]) ((i+1:Nat):Int))
  (he: ∀n,L (n+1) (l.foldl f s0) (l.length:Int)=fin):L K s0 0=fin:=by
 have key: ∀(n i:Nat) (s:σ),I s->i≤l.length->l.length - i<n->(l.drop i).foldl f s=l.foldl f s0->L n s (i:Int)=fin:=by
  intro n
  induction n with
  |zero=>omega
  |succ n ih=>
   grind [List.drop_eq_getElem_cons]
 exact key K 0 s0 hI (Z21 _) (by omega) rfl
theorem B0k{w:C5}{met met0:List Int}{u:Nat}(h:Azm w met)(h0:met0.length≤met.length)(hu:w.fL.length≤met0.length+u){k:Int}(hk:0≤k∧k<(w.fL.length:Int))(hn:k ∉ met): ∃v,u=v+1∧w.fL.length≤(met++[k]).length+v:=by
 have:=A7q (A7r h hk hn);rw[Z23,List.length_singleton]at this ⊢;exact⟨u - 1,by omega,by omega⟩
theorem Bir{w:C5}(hw:Aid w)(k:Int):(kidsK w k).length≤140737488355327:=by
 have:=Biq w k
 have:=hw.l.2;omega
theorem Ba9 (w:C5):Azm w []:=⟨.nil,fun x h=>(by cases h)⟩
section
variable {K:Nat} (hK:562949953421312≤K)
include hK
end
structure Lk where
 lv:Bool
 gn:Bool
 ep:Int
 up:Int
 ue:Int
 fi:Int
 nx:Int
 pv:Int
section
variable (N:Int) (t:Int->Lk)
def Lv (k:Int):Prop:=(0≤k∧k<N)∧(t k).lv=true
def Cu (k:Int):Prop:=Lv N t ((t k).up - 1)∧(t ((t k).up - 1)).ep=(t k).ue
def Oo (k:Int):Prop:=Lv N t k∧(t k).up≠0∧ ¬Cu N t k
structure A43 (k:Int):Prop where
 first:(t k).fi≠0->Lv N t ((t k).fi - 1)∧(t ((t k).fi - 1)).pv=0∧(t ((t k).fi - 1)).up=k+1∧(t ((t k).fi - 1)).ue=(t k).ep
 next:(t k).nx≠0->Lv N t ((t k).nx - 1)∧(t ((t k).nx - 1)).pv=k+1∧(t ((t k).nx - 1)).up=(t k).up∧(t ((t k).nx - 1)).ue=(t k).ue
 prev:(t k).pv≠0->Lv N t ((t k).pv - 1)∧(t ((t k).pv - 1)).nx=k+1
 up:(t k).up≠0->0≤(t k).up - 1∧(t k).up - 1<N
 top:(t k).pv=0->Cu N t k->(t ((t k).up - 1)).fi=k+1
def kids:Nat->Int->List Int
 |0,_=>[]
 |n+1,k=>if 0≤k∧k<N then k::kids n ((t k).nx - 1)else []
def rise:Nat->Int->List Int
 |0,_=>[]
 |n+1,k=>if 0≤k∧k<N then k::rise n ((t k).up - 1)else []
structure Aq7:Prop where
 link: ∀k,Lv N t k->A43 N t k
 rise: ∀k,Lv N t k->(rise N t N.toNat k).length≤4∧ ∀x,(rise N t N.toNat k).getLast? =some x-> ¬Cu N t x
 bare: ∀k,0≤k->k<N->(t k).lv=false->(t k).up=0∧(t k).fi=0∧(t k).nx=0∧(t k).pv=0
def Wf (r:Int->Nat):Prop:= ∀x,Lv N t x->(t x).pv≠0->r ((t x).pv - 1)<r x
end
section
variable {N:Int} {t:Int->Lk}
theorem A6o (n:Nat)(k:Int):kids N t (n+1) k=if 0≤k∧k<N then k::kids N t n ((t k).nx - 1)else []:=rfl
theorem Bis (n:Nat)(k:Int):rise N t (n+1) k=if 0≤k∧k<N then k::rise N t n ((t k).up - 1)else []:=rfl
theorem Oo.lv{k:Int}(h:Oo N t k):Lv N t k:=h.1
theorem Bba: ∀(n:Nat) (k x:Int),x∈kids N t n k->0≤x∧x<N:=by
 intro n
 induction n with
 |zero=>intro k x h;cases h
 |succ n ih=>
  intro k x h;unfold kids at h;split at h
  ·rename_i h1;rcases Eg.1 h with rfl|h
   ·exact h1
   ·exact ih _ x h
  ·cases h
theorem Ax5 (n:Nat):kids N t n (0 - 1)=[]:=by
 cases n with
 |zero=>rfl
 |succ n=>rfl
theorem Biu: ∀(n:Nat) (k:Int),kids N t n k=(kids N t (n+1) k).take n:=by
 intro n
 induction n with
 |zero=>grind [kids]
 |succ n ih=>
  grind [A6o]
theorem Bno (T:Aq7 N t){u e:Int}: ∀(n:Nat) (k:Int),Lv N t k->(t k).up=u->(t k).ue=e-> ∀x∈kids N t n k,Lv N t x∧(t x).up=u∧(t x).ue=e:=by
 intro n
 induction n with
 |zero=>intro k _ _ _ x h;cases h
 |succ n ih=>
  intro k h1 h2 h3 x h;unfold kids at h;split at h
  ·rcases Eg.1 h with rfl|h
   ·grind
   ·by_cases h4:(t k).nx=0
    ·grind [Ax5]
    ·obtain⟨a,_,b,c⟩:=(T.link k h1).next h4
     grind
  ·cases h
theorem A92 (T:Aq7 N t){r:Int->Nat}(W:Wf N t r): ∀(n:Nat) (k:Int),Lv N t k->(∀x∈kids N t n k,r k≤r x)∧(kids N t n k).Pairwise (fun a b=>r a<r b):=by
 intro n
 induction n with
 |zero=>intro k _;exact⟨fun x h=>(by cases h),.nil⟩
 |succ n ih=>
  intro k h1;unfold kids;split
  ·by_cases h4:(t k).nx=0
   ·rw[h4,Ax5]
    grind
   ·obtain⟨a,b,_⟩:=(T.link k h1).next h4;obtain⟨i1,i2⟩:=ih _ a
    have hr:=W _ a (by omega)
    rw[b,Int.add_sub_cancel]at hr;refine⟨fun x h=> ?_,List.pairwise_cons.2 ⟨fun x h=> ?_,i2⟩⟩
    all_goals grind
  simp_all
theorem A5a (T:Aq7 N t){r:Int->Nat}(W:Wf N t r)(n:Nat){k:Int}(h:Lv N t k):(kids N t n k).Nodup:=
 (A92 T W n k h).2.imp fun h e=>by grind
theorem Bbb{l:List Int}(hn:l.Nodup)(h: ∀x∈l,0≤x∧x<N):l.length≤N.toNat:=by
 have:=Axy (l:=(List.range N.toNat).map (fun i:Nat=>(i:Int))) hn (fun x hx=>by
  have:=h x hx;rw[Ey];exact⟨x.toNat,by grind,by omega⟩)
 grind
theorem Biv: ∀(n:Nat) (k y x:Int),y∈kids N t n k->(t y).nx=x+1->0≤x∧x<N->x∈kids N t n k∨(kids N t n k).length=n:=by
 intro n
 induction n with
 |zero=>intro k y x h;cases h
 |succ n ih=>
  intro k y x h h1 h2;unfold kids at h ⊢;split at h
  ·rename_i h3;rw[if_pos h3];rcases Eg.1 h with rfl|h
   ·rw[h1,Int.add_sub_cancel];cases n with
    |zero=>grind [kids]
    |succ n=>simp_all[kids.eq_2]
   grind
  ·cases h
theorem Bnp (T:Aq7 N t){r:Int->Nat}(W:Wf N t r){k:Int}(hk:Lv N t k)(x:Int):
  x∈kids N t N.toNat ((t k).fi - 1) ↔ Lv N t x∧(t x).up=k+1∧(t x).ue=(t k).ep:=by
 constructor
 ·intro h
  by_cases h0:(t k).fi=0
  ·grind [Ax5]
  ·obtain⟨a,_,b,c⟩:=(T.link k hk).first h0;exact Bno T _ _ a b c x h
 ·generalize hn:r x=n
  induction n using Nat.strongRecOn generalizing x with
  |_ n ih=>
   intro⟨h1,h2,h3⟩
   have hc:Cu N t x:=by simp_all[Cu]
   by_cases hp:(t x).pv=0
   ·have:=(T.link x h1).top hp hc;rw[h2,Int.add_sub_cancel]at this;obtain⟨m,hm⟩: ∃m,N.toNat=m+1:=⟨N.toNat - 1,by have:=h1.1;omega⟩
    rw[this,Int.add_sub_cancel,hm,kids,if_pos h1.1];simp
   ·obtain⟨a,b⟩:=(T.link x h1).prev hp
    have hr:=W x h1 hp;obtain⟨_,_,c,d⟩:=(T.link _ a).next (by rw[b];have:=h1.1;omega)
    rw[b,Int.add_sub_cancel]at c d
    have hy:=ih _ (by omega) _ rfl ⟨a,c ▸ h2,d ▸ h3⟩
    rcases Biv _ _ _ x hy b h1.1 with h|h
    ·exact h
    ·refine Classical.byContradiction fun hx=> ?_
     have h0:(t k).fi≠0:=fun e=>by grind [Ax5]
     have hd:=A5a T W N.toNat ((T.link k hk).first h0).1
     have:=Bbb (N:=N) (l:=x::kids N t N.toNat ((t k).fi - 1)) (List.nodup_cons.2 ⟨hx,hd⟩) (fun y hy=>by
      rcases Eg.1 hy with rfl|hy
      ·exact h1.1
      ·exact Bba _ _ y hy)
     grind
theorem A35 (T:Aq7 N t){r:Int->Nat}(W:Wf N t r)(n:Nat){k:Int}(hk:Lv N t k):(kids N t n ((t k).fi - 1)).Nodup:=by
 by_cases h0:(t k).fi=0
 ·grind [Ax5]
 ·exact A5a T W n ((T.link k hk).first h0).1
theorem A3a{t':Int->Lk}: ∀(n:Nat) (k:Int),(∀x∈kids N t n k,(t' x).nx=(t x).nx)->kids N t' n k=kids N t n k:=by
 intro n
 induction n with
 |zero=>intro k _;rfl
 |succ n ih=>
  simp_all[kids.eq_2]
theorem A13{t':Int->Lk}: ∀(n:Nat) (k:Int),(∀x∈rise N t n k,(t' x).up=(t x).up)->rise N t' n k=rise N t n k:=by
 intro n
 induction n with
 |zero=>intro k _;rfl
 |succ n ih=>
  simp_all[rise]
theorem Biw: ∀(n:Nat) (k:Int),rise N t n k=(rise N t (n+1) k).take n:=by
 intro n
 induction n with
 |zero=>grind [rise]
 |succ n ih=>
  grind [Bis]
theorem A0c: ∀(n:Nat) (k x:Int),x∈rise N t n k->0≤x∧x<N:=by
 intro n
 induction n with
 |zero=>intro k x h;cases h
 |succ n ih=>
  intro k x h;unfold rise at h;split at h
  ·rename_i h1;rcases Eg.1 h with rfl|h
   ·exact h1
   ·exact ih _ x h
  ·cases h
theorem Bnq{t':Int->Lk}{g:Int}(h: ∀x,x≠g->(t' x).up=(t x).up)(hg:(t' g).up=0): ∀(n:Nat) (k:Int),
  (rise N t' n k=[] ↔ rise N t n k=[])∧(rise N t' n k).length≤(rise N t n k).length∧((rise N t' n k).getLast? =some g∨(rise N t' n k).getLast? =(rise N t n k).getLast?):=by
 intro n
 induction n with
 |zero=>intro k;exact⟨Iff.rfl,Z9 _,.inr rfl⟩
 |succ n ih=>
  intro k;rw[rise,rise]
  by_cases h1:0≤k∧k<N
  ·rw[if_pos h1,if_pos h1]
   by_cases e:k=g
   ·subst e
    have:rise N t' n (0 - 1)=[]:=by cases n with|zero=>rfl|succ n=>rfl
    grind
   ·rw[h k e];obtain⟨i1,i2,i3⟩:=ih ((t k).up - 1);refine⟨by simp,by grind,?_⟩
    cases ha:rise N t' n ((t k).up - 1)with
    |nil=>grind
    |cons a l=>
     cases hb:rise N t n ((t k).up - 1)with
     |nil=>grind
     |cons b m=>
      simp_all
  simp_all[if_neg]
theorem A4o (T:Aq7 N t){k:Int}(hk:Lv N t k)(hc:Cu N t k):(t k).up≠k+1:=by
 intro e;obtain⟨_,h⟩:=T.rise k hk
 have: ∀n,rise N t (n+1) k=List.replicate (n+1) k:=by
  intro n
  induction n with
  |zero=>rw[rise,if_pos hk.1];rfl
  |succ n ih=>rw[rise,if_pos hk.1,e,Int.add_sub_cancel,ih];rfl
 obtain⟨m,hm⟩: ∃m,N.toNat=m+1:=⟨N.toNat - 1,by have:=hk.1;omega⟩
 refine h k ?_ hc;rw[hm,this,List.getLast?_replicate,if_neg (by omega)]
def rem (t:Int->Lk)(g:Int)(x:Int):Lk:=
 if x=g then⟨false,true,0,0,0,0,0,0⟩else
  ⟨(t x).lv,(t x).gn,(t x).ep,(t x).up,(t x).ue,if(t g).pv=0∧x+1=(t g).up∧(t x).fi=g+1 then(t g).nx else(t x).fi,if x+1=(t g).pv then(t g).nx else(t x).nx,if x+1=(t g).nx then(t g).pv else(t x).pv⟩
theorem A5t{g:Int}:rem t g g=⟨false,true,0,0,0,0,0,0⟩:=if_pos rfl
theorem Akz{g x:Int}(h:x≠g):rem t g x=⟨(t x).lv,(t x).gn,(t x).ep,(t x).up,(t x).ue,if(t g).pv=0∧x+1=(t g).up∧(t x).fi=g+1 then(t g).nx else(t x).fi,if x+1=(t g).pv then(t g).nx else(t x).nx,if x+1=(t g).nx then(t g).pv else(t x).pv⟩:=if_neg h
theorem Apj{g x:Int}:Lv N (rem t g) x ↔ x≠g∧Lv N t x:=by
 unfold Lv
 by_cases h:x=g
 all_goals grind [A5t,Akz]
theorem A1l{g x:Int}(hx:x≠g):Cu N (rem t g) x ↔ (t x).up≠g+1∧Cu N t x:=by
 unfold Cu;rw[Apj,Akz hx]
 by_cases h:(t x).up - 1=g
 ·grind
 ·rw[Akz h]
  grind
theorem Bnr{g x:Int}(hg:0≤g):Oo N (rem t g) x ↔ x≠g∧(Oo N t x∨Lv N t x∧(t x).up=g+1):=by
 unfold Oo;rw[Apj]
 by_cases h:x=g
 ·simp[h]
 ·rw[A1l h,Akz h]
  grind
theorem Bns (T:Aq7 N t){g x:Int}(hg:Lv N t g)(hx:Lv N (rem t g) x):A43 N (rem t g) x:=by
 obtain⟨hne,hl⟩:=Apj.1 hx
 have G:=T.link g hg
 have X:=T.link x hl
 have g0:=hg.1
 have x0:=hl.1;refine⟨?_,?_,?_,?_,?_⟩
 ·rw[Akz hne];intro h;simp only at h ⊢
  by_cases hA:(t g).pv=0∧x+1=(t g).up∧(t x).fi=g+1
  ·rw[if_pos hA]at h ⊢;obtain⟨a,b,c,d⟩:=G.next h
   have hm:(t g).nx - 1≠g:=fun e=>by grind
   obtain⟨_,_,_,f4⟩:=X.first (by omega)
   simp_all[Akz,Apj]
  ·rw[if_neg hA]at h ⊢;obtain⟨a,b,c,d⟩:=X.first h
   have hm:(t x).fi - 1≠g:=fun e=>by grind
   rw[Akz hm];refine⟨Apj.2 ⟨hm,a⟩,?_,c,d⟩;simp only;rw[if_neg]
   ·exact b
   ·intro e
    have:=(G.next (by omega)).2.1
    grind
 ·rw[Akz hne];intro h;simp only at h ⊢
  by_cases hA:x+1=(t g).pv
  ·rw[if_pos hA]at h ⊢;obtain⟨a,b,c,d⟩:=G.next h
   have hm:(t g).nx - 1≠g:=fun e=>by grind
   obtain⟨_,p2⟩:=G.prev (by omega)
   rw[←hA,Int.add_sub_cancel]at p2;obtain⟨_,_,q3,q4⟩:=X.next (by omega)
   simp_all[Akz,Apj]
  ·rw[if_neg hA]at h ⊢;obtain⟨a,b,c,d⟩:=X.next h
   have hm:(t x).nx - 1≠g:=fun e=>by grind
   rw[Akz hm];refine⟨Apj.2 ⟨hm,a⟩,?_,c,d⟩;simp only;rw[if_neg]
   ·exact b
   ·intro e
    have:=(G.next (by omega)).2.1
    grind
 ·rw[Akz hne];intro h;simp only at h ⊢
  by_cases hA:x+1=(t g).nx
  ·rw[if_pos hA]at h ⊢;obtain⟨a,b⟩:=G.prev h
   have hm:(t g).pv - 1≠g:=fun e=>by grind
   simp_all[Akz,Apj]
  ·rw[if_neg hA]at h ⊢;obtain⟨a,b⟩:=X.prev h
   have hm:(t x).pv - 1≠g:=fun e=>by grind
   rw[Akz hm];refine⟨Apj.2 ⟨hm,a⟩,?_⟩;simp only;rw[if_neg]
   ·exact b
   ·intro e
    have:=(G.prev (by omega)).2
    grind
 ·rw[Akz hne];exact X.up
 ·intro h hc;obtain⟨c1,c2⟩:=(A1l hne).1 hc;rw[Akz hne]at h ⊢;simp only at h ⊢
  have hm:(t x).up - 1≠g:=by omega
  rw[Akz hm];simp only
  by_cases hA:x+1=(t g).nx
  ·rw[if_pos hA]at h;obtain⟨_,_,q3,q4⟩:=G.next (by omega)
   rw[←hA,Int.add_sub_cancel]at q3 q4
   have hcg:Cu N t g:=by grind [Cu]
   have:=G.top h hcg
   grind
  ·rw[if_neg hA]at h
   have:=X.top h c2;omega
theorem A8i (T:Aq7 N t){g:Int}(hg:Lv N t g):Aq7 N (rem t g):=by
 refine⟨fun k hk=>Bns T hg hk,fun k hk=> ?_,fun k h0 h1 h=> ?_⟩
 ·obtain⟨hne,hl⟩:=Apj.1 hk;obtain⟨r1,r2⟩:=T.rise k hl;obtain⟨_,c1,c2⟩:=Bnq (t:=t) (t':=rem t g) (N:=N) (g:=g) (fun x hx=>by rw[Akz hx]) (by rw[A5t]) N.toNat k
  refine⟨by omega,fun x hx hc=> ?_⟩
  by_cases e:x=g
  ·subst e;unfold Cu at hc;rw[A5t]at hc
   have:=hc.1.1.1
   grind
  ·rcases c2 with c2|c2
   ·grind
   simp_all[A1l]
 ·by_cases e:k=g
  ·simp_all[A5t]
  ·rw[Akz e]at h ⊢;simp only at h ⊢;obtain⟨a,b,c,d⟩:=T.bare k h0 h1 h
   have G:=T.link g hg;refine⟨a,?_,?_,?_⟩
   ·rw[if_neg (fun q=>by have:=hg.1;omega)];exact b
   ·rw[if_neg]
    ·exact c
    ·intro q
     have:=(G.prev (by omega)).1.2
     grind
   ·rw[if_neg]
    ·exact d
    ·intro q
     have:=(G.next (by omega)).1.2
     grind
theorem Bw3 (T:Aq7 N t){r:Int->Nat}(W:Wf N t r){g:Int}(hg:Lv N t g):Wf N (rem t g) r:=by
 intro x hx h;obtain⟨hne,hl⟩:=Apj.1 hx;rw[Akz hne]at h ⊢;simp only at h ⊢
 by_cases hA:x+1=(t g).nx
 ·rw[if_pos hA]at h ⊢
  have h1:=W g hg h
  have h2:=((T.link g hg).next (by have:=hl.1;omega)).2.1
  rw[←hA,Int.add_sub_cancel]at h2
  have h3:=W x hl (by have:=hg.1;omega)
  grind
 ·rw[if_neg hA]at h ⊢;exact W x hl h
end
section
variable (N:Int) (t:Int->Lk)
def kf (f:Int):List Int:=kids N t N.toNat (f - 1)
structure Bbc (fs:List Int):Prop where
 nodup:(fs.flatMap (kf N t)).Nodup
 iff: ∀x,x∈fs.flatMap (kf N t) ↔ Oo N t x
 top: ∀f∈fs,f≠0->(0≤f - 1∧f - 1<N)∧(t (f - 1)).pv=0
inductive Dd (S:List Int):Int->Prop
 |base {y:Int}:y∈S->Dd S y
 |step {y:Int}:Lv N t y->Cu N t y->Dd S ((t y).up - 1)->Dd S y
inductive Al:Int->Prop
 |root {y:Int}:Lv N t y->(t y).up=0->Al y
 |step {y:Int}:Lv N t y->Cu N t y->Al ((t y).up - 1)->Al y
def Odr:List Int->List (Int×Int)->Prop
 |_,[]=>True
 |seen,e::q=>(∀y,Dd N t (kf N t e.2) y-> ∀x,Lv N t x->(t x).up=y+1-> ¬Cu N t x->x∈seen)∧(e.1≠0-> ∀x,Lv N t x->(t x).up=e.1->x∈seen++kf N t e.2)∧Odr (seen++kf N t e.2) q
structure Ag8 (qs:List (Int×Int)):Prop where
 tree:Aq7 N t
 wf: ∃r,Wf N t r
 uw: ∃d:Int->Nat,∀x,Lv N t x->Cu N t x->d ((t x).up - 1)<d x
 kid:Bbc N t (qs.map (·.2))
 ord:Odr N t [] qs
 gone: ∀x,Lv N t x->(t x).up≠0->(t ((t x).up - 1)).lv=true∨(t ((t x).up - 1)).gn=true
 ep: ∀x,Lv N t x->Lv N t ((t x).up - 1)->(t x).ue≤(t ((t x).up - 1)).ep
 slot: ∀e∈qs,e.1≠0->(t (e.1 - 1)).lv=false∧(t (e.1 - 1)).gn=true
end
section
variable {N:Int} {t:Int->Lk}
theorem Al.lv{y:Int}(h:Al N t y):Lv N t y:=by cases h<;>assumption
theorem Al.noOr{y:Int}(h:Al N t y): ¬Oo N t y:=by
 intro g;cases h with
 |root a b=>exact g.2.1 b
 |step a b c=>exact g.2.2 b
theorem Al.noDd{S:List Int}(hS: ∀x∈S,Oo N t x){y:Int}(h:Al N t y): ¬Dd N t S y:=by
 induction h with
 |root a b=>
  intro g;cases g with
  |base g=>exact(hS _ g).2.1 b
  |step g1 g2 g3=>have:=g2.1.1.1;omega
 |step a b c ih=>
  intro g;cases g with
  |base g=>exact(hS _ g).2.2 b
  |step g1 g2 g3=>grind
theorem Dd.in{S:List Int}(hS: ∀x∈S,0≤x∧x<N){y:Int}(h:Dd N t S y):0≤y∧y<N:=by
 cases h with
 |base h=>grind
 |step h _ _=>exact h.1
theorem Bgw{f x:Int}(h:x∈kf N t f):0≤x∧x<N:=Bba _ _ _ h
theorem Bbc.or{fs:List Int}(h:Bbc N t fs){f:Int}(hf:f∈fs){x:Int}(hx:x∈kf N t f):Oo N t x:=
 (h.iff x).1 (List.mem_flatMap.2 ⟨f,hf,hx⟩)
theorem sib (T:Aq7 N t){g x:Int}(hg:Lv N t g)(h:x+1=(t g).pv)(hx:0≤x):Lv N t x∧(t g).up=(t x).up∧(t g).ue=(t x).ue:=by
 obtain⟨a,b⟩:=(T.link g hg).prev (by omega)
 rw[←h,Int.add_sub_cancel]at a b;obtain⟨_,_,c,d⟩:=(T.link x a).next (by rw[b];have:=hg.1;omega)
 rw[b,Int.add_sub_cancel]at c d;exact⟨a,c,d⟩
theorem Bnt{g x:Int}(h1:(t g).up=(t x).up)(h2:(t g).ue=(t x).ue):Cu N t g ↔ Cu N t x:=by unfold Cu;rw[h1,h2]
theorem A2s (T:Aq7 N t){r:Int->Nat}(W:Wf N t r){g:Int}(hg:Lv N t g)(x:Int):x∈kf N t (t g).fi ↔ Lv N t x∧(t x).up=g+1∧Cu N t x:=by
 unfold kf;rw[Bnp T W hg];constructor
 ·simp_all[Cu]
 ·rintro⟨a,b,c⟩;refine⟨a,b,?_⟩
  have:=c.2
  grind
theorem Bbd{g f:Int}(h: ∀x∈kf N t f,x≠g∧x+1≠(t g).pv):kf N (rem t g) f=kf N t f:=
 A3a _ _ fun x hx=>by
  obtain⟨a,b⟩:=h x hx
  simp_all[Akz]
theorem A14 (T:Aq7 N t){r:Int->Nat}(W:Wf N t r){g:Int}(hg:Lv N t g):kf N (rem t g) (t g).fi=kf N t (t g).fi:=by
 refine Bbd fun x hx=> ?_;obtain⟨a,b,c⟩:=(A2s T W hg x).1 hx;constructor
 ·grind [A4o]
 ·intro e;obtain⟨_,h1,h2⟩:=sib T hg e a.1.1;exact A4o T hg ((Bnt h1 h2).2 c) (h1.trans b)
theorem Bbe (T:Aq7 N t){g f:Int}(hg:Lv N t g)(h:(0≤f - 1∧f - 1<N)∧(t (f - 1)).pv=0):(0≤f - 1∧f - 1<N)∧(rem t g (f - 1)).pv=0:=by
 refine⟨h.1,?_⟩
 by_cases e:f - 1=g
 ·rw[e,A5t]
 ·rw[Akz e];simp only;rw[if_neg]
  ·exact h.2
  ·intro q
   have:=((T.link g hg).next (by omega)).2.1
   rw[←q,Int.add_sub_cancel,h.2]at this
   have:=hg.1;omega
theorem A93 (T:Aq7 N t){g:Int}(hg:Lv N t g)(h:(t g).fi≠0):(0≤(t g).fi - 1∧(t g).fi - 1<N)∧(rem t g ((t g).fi - 1)).pv=0:=by
 obtain⟨a,b,_⟩:=(T.link g hg).first h;exact Bbe T hg ⟨a.1,b⟩
theorem Ang{α:Type}{a b:List α}:(a++b).Nodup ↔ a.Nodup∧b.Nodup∧ ∀x∈a,x ∉ b:=by
 grind
theorem Av0{α β:Type}{l:List α}{f g:α->List β}(h: ∀x∈l,f x=g x):l.flatMap f=l.flatMap g:=by
 induction l with
 |nil=>rfl
 |cons x l ih=>rw[List.flatMap_cons,List.flatMap_cons,h x (by simp),ih fun y hy=>h y (by simp[hy])]
theorem A6p (T:Aq7 N t){g:Int}(hg:Lv N t g)(ho: ¬Oo N t g){fs:List Int}(K:Bbc N t fs){f:Int}(hf:f∈fs):kf N (rem t g) f=kf N t f:=by
 refine Bbd fun x hx=> ?_
 have hx:=K.or hf hx;constructor
 ·grind
 ·intro e;obtain⟨_,h1,h2⟩:=sib T hg e hx.1.1.1;exact ho ⟨hg,h1 ▸ hx.2.1,fun c=>hx.2.2 ((Bnt h1 h2).1 c)⟩
theorem Bix (T:Aq7 N t){r:Int->Nat}(W:Wf N t r){g:Int}(hg:Lv N t g)(ho: ¬Oo N t g){fs:List Int}(K:Bbc N t fs):Bbc N (rem t g) (fs++[(t g).fi]):=by
 have e:(fs++[(t g).fi]).flatMap (kf N (rem t g))=fs.flatMap (kf N t)++kf N t (t g).fi:=by
  grind [A14,Av0,A6p]
 refine⟨?_,fun x=> ?_,fun f hf h0=> ?_⟩
 ·rw[e,Ang];exact⟨K.nodup,A35 T W _ hg,fun x h1 h2=>((K.iff x).1 h1).2.2 ((A2s T W hg x).1 h2).2.2⟩
 ·rw[e,Mj,K.iff,A2s T W hg,Bnr hg.1.1];constructor
  ·grind [A4o]
  ·rintro⟨a,h|⟨b,c⟩⟩
   ·grind
   ·by_cases d:Cu N t x
    ·grind
    ·exact .inl ⟨b,by have:=hg.1.1;omega,d⟩
 ·rw[Mj,Pz]at hf;rcases hf with hf|rfl
  ·exact Bbe T hg (K.top f hf h0)
  ·exact A93 T hg h0
theorem A5u{f:Int}(h:0≤f - 1∧f - 1<N):f - 1∈kf N t f:=by
 unfold kf;obtain⟨m,hm⟩: ∃m,N.toNat=m+1:=⟨N.toNat - 1,by omega⟩
 rw[hm,kids,if_pos h];simp
theorem A5b (T:Aq7 N t){r:Int->Nat}(W:Wf N t r){g:Int}(hg:Lv N t g):kf N t (g+1)=g::kf N t (t g).nx:=by
 unfold kf;obtain⟨m,hm⟩: ∃m,N.toNat=m+1:=⟨N.toNat - 1,by have:=hg.1;omega⟩
 rw[Int.add_sub_cancel,hm,kids,if_pos hg.1]
 congr 1
 rw[Biu,List.take_of_length_le]
 by_cases h0:(t g).nx=0
 ·rw[h0,Ax5];grind
 ·obtain⟨a,b,_⟩:=(T.link g hg).next h0
  have hr:=W _ a (by rw[b];have:=hg.1;omega)
  rw[b,Int.add_sub_cancel]at hr
  have hn:g ∉ kids N t (m+1) ((t g).nx - 1):=fun h=>by
   have:=(A92 T W (m+1) _ a).1 g h;omega
  have:=Bbb (N:=N) (List.nodup_cons.2 ⟨hn,A5a T W (m+1) a⟩) (fun y hy=>by
   rcases Eg.1 hy with rfl|hy
   ·exact hg.1
   ·exact Bba _ _ y hy)
  grind
theorem Bnu (T:Aq7 N t){r:Int->Nat}(W:Wf N t r){g:Int}(hg:Lv N t g){fs:List Int}(K:Bbc N t ((g+1)::fs)):
  (∀f∈(t g).nx::fs,kf N (rem t g) f=kf N t f)∧Bbc N (rem t g) ((t g).fi::(t g).nx::fs):=by
 have h0:(t g).pv=0:=by have:=(K.top (g+1) (by simp) (by have:=hg.1;omega)).2;grind
 have ho:Oo N t g:=K.or (f:=g+1) (by simp) (by have:=A5u (N:=N) (t:=t) (f:=g+1) (by rw[Int.add_sub_cancel];exact hg.1);grind)
 have hnd:=K.nodup;rw[List.flatMap_cons,A5b T W hg]at hnd;rw[Z45,List.nodup_cons]at hnd
 have hold: ∀f∈(t g).nx::fs,kf N (rem t g) f=kf N t f:=fun f hf=>Bbd fun x hx=>by
  refine⟨?_,fun e=>by have:=Bgw hx;omega⟩
  grind
 have e:((t g).fi::(t g).nx::fs).flatMap (kf N (rem t g))=kf N t (t g).fi++((t g).nx::fs).flatMap (kf N t):=by
  grind [A14,Av0]
 have hsub: ∀x,x∈((t g).nx::fs).flatMap (kf N t) ↔ Oo N t x∧x≠g:=by
  intro x
  have:=K.iff x;rw[List.flatMap_cons,A5b T W hg,Z45,Eg]at this
  grind
 refine⟨hold,?_,fun x=> ?_,fun f hf h1=> ?_⟩
 ·rw[e,Ang];refine⟨A35 T W _ hg,by grind,fun x h1 h2=>((hsub x).1 h2).1.2.2 ((A2s T W hg x).1 h1).2.2⟩
 ·rw[e,Mj,hsub,A2s T W hg,Bnr hg.1.1];constructor
  ·grind [A4o]
  ·rintro⟨a,h|⟨b,c⟩⟩
   ·grind
   ·by_cases d:Cu N t x
    ·grind
    ·exact .inr ⟨⟨b,by have:=hg.1.1;omega,d⟩,a⟩
 ·rcases Eg.1 hf with rfl|hf
  ·exact A93 T hg h1
  ·rcases Eg.1 hf with rfl|hf
   ·obtain⟨a,b,_⟩:=(T.link g hg).next h1
    have hm:(t g).nx - 1≠g:=fun q=>by grind
    refine⟨a.1,?_⟩
    simp_all[Akz]
   ·exact Bbe T hg (K.top f (by simp[hf]) h1)
theorem A8j{t':Int->Lk}: ∀(q:List (Int×Int)) (seen seen':List Int),(∀e∈q,kf N t' e.2=kf N t e.2)→
  (∀e∈q,∀y,Dd N t' (kf N t' e.2) y->Dd N t (kf N t e.2) y∧ ∀x,Lv N t' x->(t' x).up=y+1-> ¬Cu N t' x->x∈seen'∨Lv N t x∧(t x).up=y+1∧ ¬Cu N t x)→
  (∀e∈q,e.1≠0-> ∀x,Lv N t' x->(t' x).up=e.1->x∈seen'∨Lv N t x∧(t x).up=e.1)→
  (∀x∈seen,Lv N t' x->x∈seen')->Odr N t seen q->Odr N t' seen' q:=by
 intro q
 induction q with
 |nil=>intros;trivial
 |cons e q ih=>
  intro seen seen' hk hd hsl hs h;obtain⟨h1,h2,h3⟩:=h
  have hke:=hk e (by simp)
  refine⟨fun y hy x hx hu hc=> ?_,fun h0 x hx hu=> ?_,?_⟩
  ·grind
  ·grind
  ·rw[hke];refine ih (seen++kf N t e.2) _ (fun f hf=>hk f (by simp[hf])) (fun f hf y hy=> ?_) (fun f hf h0 x hx hu=> ?_) (fun x hx hl=> ?_) h3
   all_goals grind
theorem Bgx: ∀(q:List (Int×Int)) (seen:List Int) (e:Int×Int),Odr N t seen q→
  (∀y,Dd N t (kf N t e.2) y-> ∀x,Lv N t x->(t x).up=y+1-> ¬Cu N t x->x∈seen++q.flatMap (fun e=>kf N t e.2))→
  (e.1≠0-> ∀x,Lv N t x->(t x).up=e.1->x∈(seen++q.flatMap (fun e=>kf N t e.2))++kf N t e.2)->Odr N t seen (q++[e]):=by
 intro q
 induction q with
 |nil=>intro seen e h h1 h2;rw[List.flatMap_nil,List.append_nil]at h1 h2;exact⟨h1,h2,trivial⟩
 |cons f q ih=>
  intro seen e h h1 h2;obtain⟨a,b,c⟩:=h;rw[List.flatMap_cons,←Z31]at h1 h2;exact⟨a,b,ih _ e c h1 h2⟩
theorem Bbf{g:Int}{S:List Int}{y:Int}(h:Dd N (rem t g) S y):Dd N t S y:=by
 induction h with
 |base h=>exact .base h
 |step a b c ih=>
  obtain⟨h1,h2⟩:=Apj.1 a;rw[Akz h1]at ih;exact .step h2 ((A1l h1).1 b).2 ih
theorem A36{g:Int}{S:List Int}(hS:g ∉ S){y:Int}(h:Dd N (rem t g) S y):y≠g:=by
 cases h with
 |base h=>grind
 |step a _ _=>exact(Apj.1 a).1
theorem A8k{qs qs':List (Int×Int)}(F:Ag8 N t qs){g:Int}(hg:Lv N t g)(hK:Bbc N (rem t g) (qs'.map (·.2)))(hO:Odr N (rem t g) [] qs')(hs: ∀e∈qs',e.1≠0->e.1=g+1∨e.1∈qs.map (·.1)):Ag8 N (rem t g) qs':=by
 obtain⟨r,W⟩:=F.wf;obtain⟨d,U⟩:=F.uw;refine⟨A8i F.tree hg,⟨r,Bw3 F.tree W hg⟩,⟨d,fun x hx hc=> ?_⟩,hK,hO,fun x hx h=> ?_,fun x hx h=> ?_,fun e he h0=> ?_⟩
 ·obtain⟨h1,h2⟩:=Apj.1 hx;rw[Akz h1];exact U x h2 ((A1l h1).1 hc).2
 ·obtain⟨h1,h2⟩:=Apj.1 hx;rw[Akz h1]at h ⊢;simp only at h ⊢
  by_cases e:(t x).up - 1=g
  ·simp_all[A5t]
  grind [Akz,Ag8.gone]
 ·obtain⟨h1,h2⟩:=Apj.1 hx;rw[Akz h1]at h ⊢;simp only at h ⊢;obtain⟨h3,h4⟩:=Apj.1 h
  grind [Akz,Ag8.ep]
 ·by_cases e1:e.1 - 1=g
  ·simp_all[A5t]
  ·rw[Akz e1];rcases hs e he h0 with h|h
   ·omega
   ·obtain⟨a,ha,hb⟩:=Ey.1 h
    grind [Ag8.slot]
theorem Bbg{qs:List (Int×Int)}(F:Ag8 N t qs){g:Int}(hg:Al N t g):Ag8 N (rem t g) (qs++[(g+1,(t g).fi)]):=by
 obtain⟨r,W⟩:=F.wf
 have hl:=hg.lv
 have T:=F.tree
 have K:=F.kid
 have hK:=Bix T W hl hg.noOr K;rw[show qs.map (·.2)++[(t g).fi]=(qs++[(g+1,(t g).fi)]).map (·.2)by simp]at hK
 have hold: ∀e∈qs,kf N (rem t g) e.2=kf N t e.2:=fun e he=>A6p T hl hg.noOr K (Ey.2 ⟨e,he,rfl⟩)
 have hgn: ∀e∈qs,g ∉ kf N t e.2:=fun e he h=>hg.noOr (K.or (Ey.2 ⟨e,he,rfl⟩) h)
 have hflat:qs.flatMap (fun e=>kf N (rem t g) e.2)=(qs.map (·.2)).flatMap (kf N t):=by
  grind [Av0]
 refine A8k F hl hK (Bgx _ _ _ (A8j qs [] [] hold (fun e he y hy=> ?_) (fun e he h0 x hx hu=> ?_) (fun x hx=>by cases hx) F.ord) (fun y hy x hx hu hc=> ?_) (fun _ x hx hu=> ?_)) (fun e he h0=> ?_)
 ·have hy2:=A36 (by grind) hy
  refine⟨by grind [Bbf],fun x hx hu hc=> .inr ?_⟩
  simp_all[Apj,Akz,A1l]
 ·simp_all[Apj,Akz]
 ·rw[Z38,hflat,K.iff];obtain⟨a,b⟩:=Apj.1 hx;rw[Akz a]at hu;simp only at hu;rw[A14 T W hl]at hy
  have hgc:g ∉ kf N t (t g).fi:=fun h=>by obtain⟨_,h2,h3⟩:=(A2s T W hl g).1 h;grind [A4o]
  have hy2:=A36 hgc hy
  have hy0:=Dd.in (fun x hx=>Bgw hx) hy;exact⟨b,by omega,fun h=>hc ((A1l a).2 ⟨by omega,h⟩)⟩
 ·rw[Z38,hflat,A14 T W hl,Mj,K.iff,A2s T W hl];obtain⟨a,b⟩:=Apj.1 hx;rw[Akz a]at hu;simp only at hu
  by_cases c:Cu N t x
  ·grind
  ·exact .inl ⟨b,by omega,c⟩
 grind
theorem Bc7{qs:List (Int×Int)}{s g:Int}(F:Ag8 N t ((s,g+1)::qs))(h0:0≤g):Lv N t g∧(t g).pv=0∧Ag8 N (rem t g) ((g+1,(t g).fi)::(s,(t g).nx)::qs):=by
 obtain⟨r,W⟩:=F.wf
 have T:=F.tree
 have K:=F.kid;rw[Z8]at K;obtain⟨k1,k2⟩:=K.top (g+1) (by simp) (by omega)
 have hgm:g∈kf N t (g+1):=by have:=A5u (N:=N) (t:=t) k1;grind
 have ho:Oo N t g:=K.or (f:=g+1) (by simp) hgm
 have hl:=ho.1;rw[Int.add_sub_cancel]at k2;obtain⟨hold,hK⟩:=Bnu T W hl K;obtain⟨o1,o2,o3⟩:=F.ord;simp only[Z38]at o1 o2 o3
 have hsp:=A5b T W hl
 have hgc:g ∉ kf N t (t g).fi:=fun h=>by obtain⟨_,h2,h3⟩:=(A2s T W hl g).1 h;grind [A4o]
 have hchild: ∀y,Dd N t (kf N t (t g).fi) y->Dd N t (kf N t (g+1)) y:=by
  intro y hy
  induction hy with
  |base h=>
   obtain⟨a,b,c⟩:=(A2s T W hl _).1 h;exact .step a c (by rw[b,Int.add_sub_cancel];exact .base hgm)
  |step a b c ih=>exact .step a b ih
 have hnone: ∀y,Dd N t (kf N t (g+1)) y-> ∀x,Lv N t x->(t x).up=y+1->Cu N t x:=fun y hy x hx hu=>Classical.byContradiction fun h=>by grind
 refine⟨hl,k2,A8k F hl hK ⟨fun y hy x hx hu hc=> ?_,fun _ x hx hu=> ?_,fun y hy x hx hu hc=> ?_,fun hs x hx hu=> ?_,?_⟩ (fun e he h1=> ?_)⟩
 ·exfalso;rw[A14 T W hl]at hy
  have hy2:=A36 hgc hy;obtain⟨a,b⟩:=Apj.1 hx;rw[Akz a]at hu;simp only at hu;exact hc ((A1l a).2 ⟨by omega,hnone y (hchild y (Bbf hy)) x b hu⟩)
 ·rw[Z38,A14 T W hl,A2s T W hl];obtain⟨a,b⟩:=Apj.1 hx;rw[Akz a]at hu;simp only at hu;exact⟨b,hu,hnone g (.base hgm) x b hu⟩
 ·exfalso;rw[hold _ (by simp)]at hy
  have hgt:g ∉ kf N t (t g).nx:=by
   have:=K.nodup
   grind
  have hy2:=A36 hgt hy;obtain⟨a,b⟩:=Apj.1 hx;rw[Akz a]at hu;simp only at hu
  have hd:Dd N t (kf N t (g+1)) y:=by
   have:=Bbf hy;rw[hsp];clear hy hu
   induction this with
   |base h=>exact .base (Z56 _ h)
   |step a b c ih=>
    exact .step a b (Classical.byCases (fun e:(t _).up - 1=g=>by rw[e];exact .base (by simp)) (fun e=>ih e))
  exact hc ((A1l a).2 ⟨by omega,hnone y hd x b hu⟩)
 ·rw[Z38,A14 T W hl,hold _ (by simp)]
  obtain⟨a,b⟩:=Apj.1 hx;rw[Akz a]at hu
  grind
 ·rw[Z38,A14 T W hl,hold _ (by simp)]
  have hq: ∀e∈qs,e.2∈(t g).nx::qs.map (·.2):=fun e he=>Z56 _ (Ey.2 ⟨e,he,rfl⟩)
  have hnd:=K.nodup;rw[List.flatMap_cons,hsp,Z45,List.nodup_cons]at hnd;refine A8j qs (kf N t (g+1)) _ (fun e he=>hold _ (hq e he)) (fun e he y hy=> ?_) (fun e he _ x hx hu=> ?_) (fun x hx hl'=> ?_) o3
  ·rw[hold _ (hq e he)]at hy
   have hy2:=A36 (fun h=>hnd.1 (List.mem_append_right _ (List.mem_flatMap.2 ⟨e.2,Ey.2 ⟨e,he,rfl⟩,h⟩))) hy;refine⟨Bbf hy,fun x hx hu hc=> .inr ?_⟩;obtain⟨a,b⟩:=Apj.1 hx
   simp_all[Akz,A1l]
  ·simp_all[Apj,Akz]
  ·rw[hsp]at hx;rcases Eg.1 hx with h|h
   ·exact absurd h (Apj.1 hl').1
   grind
 grind
end
section
variable {N:Int} {t:Int->Lk}
def emp (t:Int->Lk)(k x:Int):Lk:=if x=k then⟨(t k).lv,(t k).gn,(t k).ep+1,(t k).up,(t k).ue,0,(t k).nx,(t k).pv⟩else t x
theorem A94{k:Int}:emp t k k=⟨(t k).lv,(t k).gn,(t k).ep+1,(t k).up,(t k).ue,0,(t k).nx,(t k).pv⟩:=if_pos rfl
theorem A7a{k x:Int}(h:x≠k):emp t k x=t x:=if_neg h
theorem Agp (k x:Int):(emp t k x).lv=(t x).lv∧(emp t k x).gn=(t x).gn∧(emp t k x).up=(t x).up∧(emp t k x).ue=(t x).ue∧(emp t k x).nx=(t x).nx∧(emp t k x).pv=(t x).pv:=by
 by_cases h:x=k
 all_goals simp_all[A94,A7a]
theorem Arw{k x:Int}:Lv N (emp t k) x ↔ Lv N t x:=by simp_all[Lv,Agp]
theorem A5c (hE: ∀x,Lv N t x->Lv N t ((t x).up - 1)->(t x).ue≤(t ((t x).up - 1)).ep){k x:Int}(hx:Lv N t x):Cu N (emp t k) x ↔ (t x).up≠k+1∧Cu N t x:=by
 unfold Cu;rw[Arw,(Agp k x).2.2.1,(Agp k x).2.2.2.1]
 by_cases h:(t x).up - 1=k
 ·grind [A94]
 ·rw[A7a h]
  grind
theorem A7s{k x:Int}(hx:(t x).up≠k+1):Cu N (emp t k) x ↔ Cu N t x:=by
 unfold Cu;rw[Arw,(Agp k x).2.2.1,(Agp k x).2.2.2.1,A7a (by omega)]
theorem A8m (k f:Int):kf N (emp t k) f=kf N t f:=A3a _ _ fun x _=>(Agp k x).2.2.2.2.1
theorem Bnv (k:Int)(n:Nat)(x:Int):rise N (emp t k) n x=rise N t n x:=A13 _ _ fun x _=>(Agp k x).2.2.1
theorem Bnw (T:Aq7 N t)(hE: ∀x,Lv N t x->Lv N t ((t x).up - 1)->(t x).ue≤(t ((t x).up - 1)).ep){k:Int}(hk:Lv N t k):Aq7 N (emp t k):=by
 refine⟨fun x hx=> ?_,fun x hx=> ?_,fun x h0 h1 h=> ?_⟩
 ·have hl:=Arw.1 hx
  have X:=T.link x hl;obtain⟨s1,s2,s3,s4,s5,s6⟩:=Agp (t:=t) k x;refine⟨fun h=> ?_,fun h=> ?_,fun h=> ?_,fun h=> ?_,fun h hc=> ?_⟩
  ·by_cases e:x=k
   ·simp_all[A94]
   ·rw[A7a e]at h ⊢;obtain⟨a,b,c,d⟩:=X.first h;obtain⟨q1,q2,q3,q4,q5,q6⟩:=Agp (t:=t) k ((t x).fi - 1)
    grind [Arw]
  ·rw[s5]at h ⊢;obtain⟨q1,q2,q3,q4,q5,q6⟩:=Agp (t:=t) k ((t x).nx - 1)
   grind [Arw,A43.next]
  ·rw[s6]at h ⊢;rw[Arw,(Agp k _).2.2.2.2.1];exact X.prev h
  ·rw[s3]at h ⊢;exact X.up h
  ·rw[s6]at h;obtain⟨a,b⟩:=(A5c hE hl).1 hc
   grind [A7a,A43.top]
 ·have hl:=Arw.1 hx;rw[Bnv];obtain⟨a,b⟩:=T.rise x hl;refine⟨a,fun y hy hc=> ?_⟩
  have hy2:=b y hy
  by_cases e:Lv N t y
  ·simp_all[A5c]
  ·have hin:=A0c _ _ y (List.mem_of_getLast? hy)
   have:=(T.bare y hin.1 hin.2 (by cases q:(t y).lv with|false=>rfl|true=>exact absurd ⟨hin,q⟩ e)).1
   unfold Cu at hc;rw[(Agp k y).2.2.1,this]at hc
   have:=hc.1.1.1;omega
 ·by_cases e:x=k
  ·subst e;rw[A94]at h;have:=hk.2;grind
  grind [A7a,Aq7.bare]
theorem Bnx (hE: ∀x,Lv N t x->Lv N t ((t x).up - 1)->(t x).ue≤(t ((t x).up - 1)).ep){k x:Int}(hk:0≤k):Oo N (emp t k) x ↔ Oo N t x∨Lv N t x∧(t x).up=k+1:=by
 unfold Oo;rw[Arw,(Agp k x).2.2.1];constructor
 ·rintro⟨a,b,c⟩
  by_cases e:(t x).up=k+1
  all_goals simp_all[A5c]
 ·rintro(⟨a,b,c⟩|⟨a,b⟩)
  ·simp_all[A5c]
  ·exact⟨a,by omega,fun d=>((A5c hE a).1 d).1 b⟩
theorem Bbh{qs:List (Int×Int)}(F:Ag8 N t qs){k:Int}(hg:Al N t k):Ag8 N (emp t k) (qs++[(0,(t k).fi)]):=by
 obtain⟨r,W⟩:=F.wf;obtain⟨d,U⟩:=F.uw
 have hl:=hg.lv
 have T:=F.tree
 have K:=F.kid
 have hE:=F.ep
 have hflat:qs.flatMap (fun e=>kf N (emp t k) e.2)=(qs.map (·.2)).flatMap (kf N t):=by
  simp_all[List.flatMap_map,A8m]
 have hfl2:((qs++[((0:Int),(t k).fi)]).map (fun e:Int×Int=>e.2)).flatMap (kf N (emp t k))=(qs.map (·.2)).flatMap (kf N t)++kf N t (t k).fi:=by
  grind [List.flatMap_map,A8m]
 refine⟨Bnw T hE hl,⟨r,fun x hx h=> ?_⟩,⟨d,fun x hx hc=> ?_⟩,⟨?_,fun x=> ?_,fun f hf h0=> ?_⟩,Bgx _ _ _ (A8j qs [] [] (fun e _=>A8m k e.2) (fun e he y hy=> ?_) (fun e he _ x hx hu=> ?_) (fun x hx=>by cases hx) F.ord) (fun y hy x hx hu hc=> ?_) (fun h=>absurd rfl h),fun x hx h=> ?_,fun x hx h=> ?_,fun e he h0=> ?_⟩
 ·rw[(Agp k x).2.2.2.2.2]at h ⊢;exact W x (Arw.1 hx) h
 ·simp_all[Agp,Arw,A5c]
 ·rw[hfl2,Ang];exact⟨K.nodup,A35 T W _ hl,fun x h1 h2=>((K.iff x).1 h1).2.2 ((A2s T W hl x).1 h2).2.2⟩
 ·rw[hfl2,Mj,K.iff,A2s T W hl,Bnx hE hl.1.1];constructor
  ·grind
  ·rintro(h|⟨b,c⟩)
   ·grind
   ·by_cases d:Cu N t x
    ·grind
    ·exact .inl ⟨b,by have:=hl.1.1;omega,d⟩
 ·rw[(Agp k _).2.2.2.2.2];rw[Vu,Mj]at hf;rcases hf with hf|hf
  ·exact K.top f hf h0
  ·simp only[Z8,P3,Pz]at hf;subst hf;obtain⟨a,b,_⟩:=(T.link k hl).first h0;exact⟨a.1,b⟩
 ·have hor: ∀x∈kf N t e.2,Oo N t x:=fun x hx=>K.or (Ey.2 ⟨e,he,rfl⟩) hx
  have hy2:Dd N t (kf N t e.2) y:=by
   rw[A8m]at hy
   induction hy with
   |base h=>exact .base h
   |step a b c ih=>
    rw[(Agp k _).2.2.1]at ih;exact .step (Arw.1 a) ((A5c hE (Arw.1 a)).1 b).2 ih
  refine⟨hy2,fun x hx hu hc=> .inr ?_⟩;rw[(Agp k x).2.2.1]at hu
  have hne:y≠k:=fun q=>hg.noDd hor (q ▸ hy2)
  simp_all[Arw,A7s]
 ·simp_all[Agp,Arw]
 ·rw[Z38,hflat,K.iff];rw[(Agp k x).2.2.1]at hu
  have hy0:=Dd.in (fun x hx=>Bgw hx) hy
  have hal:Al N (emp t k) k:=by
   clear hy hu hc hx;cases hg with
   |root a b=>exact .root (Arw.2 a) (by simp_all[Agp])
   |step a b c=>
    have key: ∀z,Al N t z->d z<d k->Al N (emp t k) z:=by
     intro z hz
     induction hz with
     |root a b=>intro _;exact .root (Arw.2 a) (by simp_all[Agp])
     | @step z a b c ih=>
      intro h1
      have h2:=U z a b
      have hne:(t z).up≠k+1:=fun q=>by grind
      exact .step (Arw.2 a) ((A7s hne).2 b) (by rw[(Agp k _).2.2.1];grind)
    have h2:=U k a b
    have hne:(t k).up≠k+1:=fun q=>by grind
    exact .step (Arw.2 a) ((A7s hne).2 b) (by simp_all[Agp])
  have hne:y≠k:=fun q=>by
   refine hal.noDd (S:=kf N (emp t k) (t k).fi) (fun z hz=> ?_) (q ▸ hy);rw[A8m,A2s T W hl]at hz
   simp_all[Bnx]
  exact⟨Arw.1 hx,by omega,fun h=>hc ((A7s (by omega)).2 h)⟩
 ·rw[(Agp k x).2.2.1]at h ⊢;rw[(Agp k _).1,(Agp k _).2.1];exact F.gone x (Arw.1 hx) h
 ·rw[(Agp k x).2.2.1]at h ⊢;rw[(Agp k x).2.2.2.1]
  have:=hE x (Arw.1 hx) (Arw.1 h)
  by_cases e:(t x).up - 1=k
  all_goals grind [A94,A7a]
 ·rw[(Agp k _).1,(Agp k _).2.1];rcases Mj.1 he with he|he
  ·exact F.slot e he h0
  ·rw[Pz]at he;rw[he]at h0;exact absurd rfl h0
def clr (t:Int->Lk)(k x:Int):Lk:=if x=k then⟨false,false,0,0,0,0,0,0⟩else t x
theorem A8n{qs:List (Int×Int)}{s:Int}(F:Ag8 N t ((s,0)::qs)):Ag8 N t qs:=by
 obtain⟨o1,o2,o3⟩:=F.ord
 have h0:kf N t 0=[]:=Ax5 _
 have K:=F.kid;simp only[h0,List.append_nil]at o3;refine⟨F.tree,F.wf,F.uw,?_,o3,F.gone,F.ep,fun e he=>F.slot e (Z56 _ he)⟩;refine⟨?_,fun x=> ?_,fun f hf=>K.top f (Z56 _ hf)⟩
 ·have:=K.nodup;grind
 ·have:=K.iff x;grind
theorem Av1{k:Int}(h:(t k).lv=false){x:Int}:Lv N (clr t k) x ↔ Lv N t x:=by
 unfold Lv clr
 grind
theorem Alc{k:Int}(h:(t k).lv=false){x:Int}(hx:Lv N t x):clr t k x=t x:=by
 unfold clr;rw[if_neg];intro e;subst e
 have:=hx.2
 grind
theorem A6q{k:Int}(h:(t k).lv=false){x:Int}(hx:Lv N t x):Cu N (clr t k) x ↔ Cu N t x:=by
 grind [Cu,Alc,Av1]
theorem Bbi{qs:List (Int×Int)}{s:Int}(F:Ag8 N t ((s,0)::qs))(h0:s≠0)(hs: ∀e∈qs,e.1≠s):Ag8 N (clr t (s - 1)) qs:=by
 have F':=A8n F;obtain⟨r,W⟩:=F.wf;obtain⟨d,U⟩:=F.uw
 have T:=F.tree
 have K:=F'.kid;obtain⟨hlv,hgn⟩:=F.slot (s,0) (by simp) h0
 simp only at hlv hgn
 have hno: ∀x,Lv N t x->(t x).up≠s:=fun x hx e=>by
  have:=F.ord.2.1 h0 x hx e;rw[show kf N t ((s,(0:Int)).2)=[] from Ax5 _]at this
  cases this
 have hnl: ∀x,x≠s - 1->clr t (s - 1) x=t x:=fun x h=>if_neg h
 have hup: ∀x,(0≤x∧x<N)->(clr t (s - 1) x).up=(t x).up:=fun x h=>by
  by_cases e:x=s - 1
  ·subst e;rw[(T.bare _ h.1 h.2 hlv).1];simp_all[clr]
  grind
 have hri: ∀n x,rise N (clr t (s - 1)) n x=rise N t n x:=fun n x=>A13 n x fun y hy=>hup y (A0c _ _ y hy)
 have hkf: ∀f∈qs.map (·.2),kf N (clr t (s - 1)) f=kf N t f:=fun f hf=>A3a _ _ fun x hx=>by rw[Alc hlv (K.or hf hx).1]
 have hor: ∀x,Oo N (clr t (s - 1)) x ↔ Oo N t x:=fun x=>by
  grind [Oo,Av1,Alc,A6q]
 have hdd: ∀S y,Dd N (clr t (s - 1)) S y->Dd N t S y:=fun S y h=>by
  induction h with
  |base h=>exact .base h
  |step a b c ih=>
   have a:=(Av1 hlv).1 a;rw[Alc hlv a]at ih;exact .step a ((A6q hlv a).1 b) ih
 refine⟨⟨fun x hx=> ?_,fun x hx=> ?_,fun x h0 h1 h=> ?_⟩,⟨r,fun x hx h=> ?_⟩,⟨d,fun x hx hc=> ?_⟩,⟨?_,fun x=> ?_,fun f hf h1=> ?_⟩,?_,fun x hx h=> ?_,fun x hx h=> ?_,fun e he h1=> ?_⟩
 ·have hl:=(Av1 hlv).1 hx
  have X:=T.link x hl;refine⟨fun h=> ?_,fun h=> ?_,fun h=> ?_,fun h=> ?_,fun h hc=> ?_⟩
  ·rw[Alc hlv hl]at h ⊢
   have a:=(X.first h).1
   grind [Av1,Alc,A43.first]
  ·rw[Alc hlv hl]at h ⊢
   have a:=(X.next h).1
   grind [Av1,Alc,A43.next]
  ·rw[Alc hlv hl]at h ⊢
   have a:=(X.prev h).1
   grind [Av1,Alc,A43.prev]
  ·grind [Alc,A43.up]
  ·have hc:=(A6q hlv hl).1 hc;rw[Alc hlv hl]at h ⊢;rw[Alc hlv hc.1];exact X.top h hc
 ·have hl:=(Av1 hlv).1 hx;rw[hri];obtain⟨a,b⟩:=T.rise x hl;refine⟨a,fun y hy hc=>b y hy ?_⟩;unfold Cu at hc ⊢;rw[hup y (A0c _ _ y (List.mem_of_getLast? hy)),Av1 hlv]at hc;refine⟨hc.1,?_⟩;rw[←Alc hlv hc.1,hc.2]
  by_cases e:y=s - 1
  ·subst e
   have hin:=A0c _ _ _ (List.mem_of_getLast? hy)
   have:=(T.bare _ hin.1 hin.2 hlv).1;rw[this]at hc
   have:=hc.1.1.1;omega
  grind
 ·by_cases e:x=s - 1
  ·simp_all[clr]
  grind [Aq7.bare]
 ·have hl:=(Av1 hlv).1 hx;rw[Alc hlv hl]at h ⊢;exact W x hl h
 ·have hl:=(Av1 hlv).1 hx;rw[Alc hlv hl];simp_all[A6q]
 ·rw[Av0 hkf];exact K.nodup
 ·rw[Av0 hkf,K.iff,hor]
 ·obtain⟨a,b⟩:=K.top f hf h1;refine⟨a,?_⟩;rw[Alc hlv (K.or hf (A5u a)).1];exact b
 ·have hk: ∀e∈qs,kf N (clr t (s - 1)) e.2=kf N t e.2:=fun e he=>hkf _ (Ey.2 ⟨e,he,rfl⟩);refine A8j qs [] [] hk (fun e he y hy=>⟨by grind,fun x hx hu hc=> ?_⟩) (fun e he h1 x hx hu=> ?_) (fun x hx=>by cases hx) F'.ord
  ·have hl:=(Av1 hlv).1 hx;rw[Alc hlv hl]at hu
   simp_all[A6q]
  ·have hl:=(Av1 hlv).1 hx
   grind [Alc]
 ·have hl:=(Av1 hlv).1 hx
  grind [Alc,Ag8.gone]
 ·have hl:=(Av1 hlv).1 hx;rw[Alc hlv hl]at h ⊢
  have h2:=(Av1 hlv).1 h
  grind [Ag8.ep]
 grind [Ag8.slot]
end
section
variable {N:Int} {t:Int->Lk}
def ins (t:Int->Lk)(k p x:Int):Lk:=
 if x=k then⟨true,false,0,p+1,if p+1=0 then 0 else(t p).ep,0,if p+1=0 then 0 else(t p).fi,0⟩
 else⟨(t x).lv,(t x).gn,(t x).ep,(t x).up,(t x).ue,if x=p then k+1 else(t x).fi,(t x).nx,if p+1≠0∧x+1=(t p).fi then k+1 else(t x).pv⟩
theorem Awn{k p:Int}:ins t k p k=⟨true,false,0,p+1,if p+1=0 then 0 else(t p).ep,0,if p+1=0 then 0 else(t p).fi,0⟩:=if_pos rfl
theorem Atw{k p x:Int}(h:x≠k):ins t k p x=⟨(t x).lv,(t x).gn,(t x).ep,(t x).up,(t x).ue,if x=p then k+1 else(t x).fi,(t x).nx,if p+1≠0∧x+1=(t p).fi then k+1 else(t x).pv⟩:=if_neg h
theorem Bny: ∀(n:Nat) (x y:Int),y∈rise N t n x->y=x∨ ∃z,z∈rise N t n x∧(t z).up - 1=y:=by
 intro n
 induction n with
 |zero=>intro x y h;cases h
 |succ n ih=>
  intro x y h;rw[rise]at h ⊢
  grind
theorem Bgy{d:Int->Nat}(U: ∀x,Lv N t x->Cu N t x->d ((t x).up - 1)<d x): ∀(n:Nat) (x:Int),Al N t x->(∀y∈rise N t n x,d y≤d x∧Al N t y)∧(rise N t n x).Pairwise (fun a b=>d b<d a):=by
 intro n
 induction n with
 |zero=>intro x _;exact⟨fun y h=>(by cases h),.nil⟩
 |succ n ih=>
  intro x hx;rw[rise,if_pos hx.lv.1];cases hx with
  |root a b=>
   have:rise N t n ((t x).up - 1)=[]:=by rw[b];cases n with|zero=>rfl|succ n=>rfl
   rw[this];exact⟨fun y h=>by rw[Pz.1 h];exact⟨Z9 _,.root a b⟩,List.pairwise_singleton ..⟩
  |step a b c=>
   obtain⟨i1,i2⟩:=ih _ c
   have h2:=U x a b;refine⟨fun y h=> ?_,List.pairwise_cons.2 ⟨fun y h=> ?_,i2⟩⟩
   ·rcases Eg.1 h with rfl|h
    ·exact⟨Z9 _,.step a b c⟩
    grind
   grind
theorem Bc8{qs:List (Int×Int)}(F:Ag8 N t qs){k p:Int}(hk:0≤k∧k<N)(hlv:(t k).lv=false)(hgn:(t k).gn=false)(hp:p= -1∨Al N t p∧(rise N t N.toNat p).length<4):Ag8 N (ins t k p) qs:=by
 obtain⟨r,W⟩:=F.wf;obtain⟨d,U⟩:=F.uw
 have T:=F.tree
 have K:=F.kid
 have hne: ∀ {x},Lv N t x->x≠k:=fun {x} h e=>by subst e;rw[h.2]at hlv;cases hlv
 have hno: ∀x,Lv N t x->(t x).up≠k+1:=fun x hx e=>by
  rcases F.gone x hx (by omega)with h|h
  all_goals grind
 have hp0:p+1≠0->Al N t p:=fun h=>by
  grind
 have hp1: ∀x,Lv N t x->x=p->p+1≠0:=fun x hx e=>by have:=hx.1.1;omega
 have L: ∀x,Lv N (ins t k p) x ↔ x=k∨Lv N t x:=fun x=>by
  unfold Lv
  by_cases e:x=k
  all_goals grind [Awn,Atw]
 have hL: ∀ {x},Lv N t x->Lv N (ins t k p) x:=fun h=>(L _).2 (.inr h)
 have hup: ∀x,x≠k->(ins t k p x).up=(t x).up:=fun x h=>by rw[Atw h]
 have C: ∀x,x≠k->(t x).up≠k+1->(Cu N (ins t k p) x ↔ Cu N t x):=fun x h h1=>by
  unfold Cu;rw[L,hup x h,Atw (x:=(t x).up - 1) (by omega),Atw h]
  grind
 have Ck:p+1≠0->Cu N (ins t k p) k:=fun h=>by
  simp_all[Al.lv,Cu,Awn,Atw]
 have Cn:p+1=0-> ¬Cu N (ins t k p) k:=fun h c=>by
  unfold Cu at c;rw[Awn]at c
  grind
 have hkf: ∀f∈qs.map (·.2),kf N (ins t k p) f=kf N t f:=fun f hf=>A3a _ _ fun x hx=>by rw[Atw (hne (K.or hf hx).1)]
 have hor: ∀x,Oo N (ins t k p) x ↔ Oo N t x:=fun x=>by
  unfold Oo;rw[L]
  by_cases e:x=k
  ·subst e;constructor
   ·grind [Awn]
   grind
  grind
 have hrk: ∀x,Lv N t x-> ∀n,k ∉ rise N t n x:=fun x hx n h=>by
  rcases Bny _ _ _ h with h|⟨z,h1,h2⟩
  ·grind
  ·by_cases hz:(t z).lv=true
   ·exact hno z ⟨A0c _ _ _ h1,hz⟩ (by omega)
   ·have:=A0c _ _ _ h1
    have:=(T.bare z this.1 this.2 (by grind)).1
    omega
 have hri: ∀x,Lv N t x-> ∀n,rise N (ins t k p) n x=rise N t n x:=fun x hx n=>A13 n x fun y hy=>hup y fun e=>hrk x hx n (e ▸ hy)
 have hlast: ∀x,Lv N t x-> ∀y,(rise N t N.toNat x).getLast? =some y-> ¬Cu N (ins t k p) y:=fun x hx y hy hc=>by
  have hm:=List.mem_of_getLast? hy
  have hyk:y≠k:=fun e=>hrk x hx _ (e ▸ hm)
  have hin:=A0c _ _ _ hm
  by_cases hz:(t y).lv=true
  ·exact(T.rise x hx).2 y hy ((C y hyk (hno y ⟨hin,hz⟩)).1 hc)
  ·have:=(T.bare y hin.1 hin.2 (by grind)).1
   unfold Cu at hc;rw[hup y hyk,this]at hc
   have:=hc.1.1.1;omega
 obtain⟨m,hm⟩: ∃m,N.toNat=m+1:=⟨N.toNat - 1,by omega⟩
 have hpk:p+1≠0->rise N (ins t k p) N.toNat k=k::rise N t N.toNat p:=fun h=>by
  have ha:=hp0 h;rw[hm,rise,if_pos hk,Awn];simp only;rw[Int.add_sub_cancel,hri p ha.lv,←hm]
  congr 1
  rw[hm,Biw,List.take_of_length_le];obtain⟨i1,i2⟩:=Bgy U (m+1) p ha
  have:=Bbb (N:=N) (List.nodup_cons.2 ⟨hrk p ha.lv (m+1),i2.imp fun h e=>by grind⟩) (fun y hy=>by
   rcases Eg.1 hy with rfl|hy
   ·exact hk
   ·exact A0c _ _ y hy)
  grind
 refine⟨⟨fun x hx=> ?_,fun x hx=> ?_,fun x h0 h1 h=> ?_⟩,⟨fun x=>if x=k then 0 else r x+1,fun x hx h=> ?_⟩,⟨fun x=>if x=k then d p+1 else d x,fun x hx hc=> ?_⟩,⟨?_,fun x=> ?_,fun f hf h1=> ?_⟩,?_,fun x hx h=> ?_,fun x hx h=> ?_,fun e he h1=> ?_⟩
 ·by_cases e:x=k
  ·subst e;refine⟨fun h=> ?_,fun h=> ?_,fun h=> ?_,fun h=> ?_,fun h hc=> ?_⟩
   ·simp_all[Awn]
   ·rw[Awn]at h ⊢;simp only at h ⊢
    by_cases hq:p+1=0
    ·omega
    ·rw[if_neg hq]at h ⊢;rw[if_neg hq];obtain⟨a,b,c,e⟩:=(T.link p (hp0 hq).lv).first h
     simp_all[Atw]
   ·simp_all[Awn]
   ·rw[Awn]at h ⊢;simp only at h ⊢;rw[Int.add_sub_cancel];exact(hp0 h).lv.1
   ·by_cases hq:p+1=0
    ·grind
    ·rw[Awn];simp only;rw[Int.add_sub_cancel,Atw (hne (hp0 hq).lv)];simp
  ·have hl:=((L x).1 hx).resolve_left e
   have X:=T.link x hl;refine⟨fun h=> ?_,fun h=> ?_,fun h=> ?_,fun h=> ?_,fun h hc=> ?_⟩
   ·rw[Atw e]at h ⊢;simp only at h ⊢
    by_cases hq:x=p
    ·have hq1:=hp1 x hl hq;rw[if_pos hq,Int.add_sub_cancel,Awn]
     grind
    ·rw[if_neg hq]at h ⊢;obtain⟨a,b,c,f⟩:=X.first h;rw[Atw (hne a)];simp only;rw[if_neg]
     ·grind
     ·rintro⟨g1,g2⟩
      have:=((T.link p (hp0 g1).lv).first (by omega)).2.2.1
      grind
   ·rw[Atw e]at h ⊢;simp only at h ⊢;obtain⟨a,b,c,f⟩:=X.next h;rw[Atw (hne a)];simp only;rw[if_neg]
    ·grind
    ·rintro⟨g1,g2⟩
     have:=((T.link p (hp0 g1).lv).first (by omega)).2.1
     rw[←g2,Int.add_sub_cancel]at this
     have:=hl.1;omega
   ·rw[Atw e]at h ⊢;simp only at h ⊢
    by_cases hq:p+1≠0∧x+1=(t p).fi
    ·rw[if_pos hq,Int.add_sub_cancel,Awn]
     grind
    ·rw[if_neg hq]at h ⊢
     grind [A43.prev,Atw]
   ·rw[Atw e]at h ⊢;exact X.up h
   ·have hc:=(C x e (hno x hl)).1 hc;rw[Atw e]at h ⊢;simp only at h ⊢
    by_cases hq:p+1≠0∧x+1=(t p).fi
    ·omega
    ·rw[if_neg hq]at h
     have:=X.top h hc;rw[Atw (hne hc.1)];simp only;rw[if_neg]
     ·exact this
     ·intro g;rw[g]at this;exact hq ⟨hp1 _ hc.1 g,by omega⟩
 ·by_cases e:x=k
  ·subst e
   by_cases hq:p+1=0
   ·have:rise N (ins t x p) N.toNat x=[x]:=by
     rw[hm,rise,if_pos hk,Awn];simp only;rw[hq];cases m with
     |zero=>rfl
     |succ m=>rfl
    simp_all
   ·rw[hpk hq];rcases hp with rfl|hp
    ·omega
    ·refine⟨by grind,fun y hy=> ?_⟩
     have:rise N t N.toNat p≠[]:=by rw[hm,rise,if_pos hp.1.lv.1];simp
     rw[List.getLast?_cons]at hy;refine hlast p hp.1.lv y ?_
     simp_all[rise,List.getLast?_cons]
  ·have hl:=((L x).1 hx).resolve_left e;rw[hri x hl];exact⟨(T.rise x hl).1,hlast x hl⟩
 ·by_cases e:x=k
  ·grind [Awn]
  ·rw[Atw e]at h ⊢;simp only at h ⊢;obtain⟨a,b,c,f⟩:=T.bare x h0 h1 h;refine⟨a,?_,c,?_⟩
   ·rw[if_neg]
    ·exact b
    ·intro g
     have:=(hp0 (by omega)).lv.2
     grind
   ·rw[if_neg]
    ·exact f
    ·rintro⟨g1,g2⟩
     have:=((T.link p (hp0 g1).lv).first (by omega)).1.2
     grind
 ·by_cases e:x=k
  ·simp_all[Awn]
  ·have hl:=((L x).1 hx).resolve_left e;rw[Atw e]at h ⊢;simp only at h ⊢;simp only[if_neg e]
   by_cases hq:p+1≠0∧x+1=(t p).fi
   ·grind
   ·rw[if_neg hq]at h ⊢;rw[if_neg (hne ((T.link x hl).prev h).1)]
    have:=W x hl h;omega
 ·by_cases e:x=k
  ·subst e
   by_cases hq:p+1=0
   all_goals simp_all[Awn,Al.lv]
  grind
 ·rw[Av0 hkf];exact K.nodup
 ·rw[Av0 hkf,K.iff,hor]
 ·obtain⟨a,b⟩:=K.top f hf h1
  have ho:=K.or hf (A5u (N:=N) (t:=t) a);refine⟨a,?_⟩;rw[Atw (hne ho.1)];simp only;rw[if_neg]
  ·exact b
  ·rintro⟨g1,g2⟩
   have hpl:=(hp0 g1).lv;obtain⟨_,_,c3,c4⟩:=(T.link p hpl).first (by omega)
   rw[←g2,Int.add_sub_cancel]at c3 c4;exact ho.2.2 (by simp_all[Cu])
 ·have hk2: ∀e∈qs,kf N (ins t k p) e.2=kf N t e.2:=fun e he=>hkf _ (Ey.2 ⟨e,he,rfl⟩);refine A8j qs [] [] hk2 (fun e he y hy=> ?_) (fun e he h1 x hx hu=> ?_) (fun x hx=>by cases hx) F.ord
  ·have hS: ∀x∈kf N t e.2,Oo N t x:=fun x hx=>K.or (Ey.2 ⟨e,he,rfl⟩) hx;rw[hk2 e he]at hy
   have hy2:Dd N t (kf N t e.2) y:=by
    induction hy with
    |base h=>exact .base h
    | @step y a b c ih=>
     by_cases q:y=k
     ·subst q
      by_cases hq:p+1=0
      all_goals simp_all[Awn,Al.noDd]
     ·have hl:=((L y).1 a).resolve_left q;rw[hup y q]at ih;exact .step hl ((C y q (hno y hl)).1 b) ih
   refine⟨hy2,fun x hx hu hc=> .inr ?_⟩
   by_cases q:x=k
   ·subst q
    by_cases hq:p+1=0
    ·rw[Awn]at hu;simp only at hu
     have:=Dd.in (fun x hx=>Bgw hx) hy2;omega
    grind
   grind
  ·by_cases q:x=k
   ·subst q;rw[Awn]at hu;simp only at hu
    have:=(hp0 (by omega)).lv.2
    have h3:=(F.slot e he h1).1
    grind
   grind
 ·by_cases e:x=k
  ·subst e;rw[Awn]at h ⊢;simp only at h ⊢;rw[Int.add_sub_cancel,Atw (hne (hp0 h).lv)];exact .inl (hp0 h).lv.2
  ·have hl:=((L x).1 hx).resolve_left e
   grind [Atw,Ag8.gone]
 ·by_cases e:x=k
  ·subst e;rw[Awn]at h ⊢;simp only at h ⊢
   by_cases hq:p+1=0
   ·grind
   ·rw[if_neg hq,Int.add_sub_cancel,Atw (hne (hp0 hq).lv)]
    grind
  ·have hl:=((L x).1 hx).resolve_left e;rw[hup x e]at h ⊢
   have hu:=hno x hl
   have h2:=((L _).1 h).resolve_left (by omega)
   grind [Atw,Ag8.ep]
 ·have:=F.slot e he h1
  have q:e.1 - 1≠k:=fun q=>by grind
  grind [Atw]
end
theorem sb1{x:Int}(h0: -1000000000≤x)(h1:x≤1000000000):An7 .i64 x 1=x - 1:=by unfold An7;rw[K0 (by omega) (by omega)]
theorem ad1{x:Int}(h0: -1000000000≤x)(h1:x≤1000000000):An6 .i64 x 1=x+1:=by unfold An6;rw[K0 (by omega) (by omega)]
def A3c (n:As):Lk:=⟨n.Vi==1,n.Vi==2,n.Sl,n.fUp,n.Sm,n.Ef,n.Sn,n.So⟩
def AtT (l:List As)(t:Int->Lk):Prop:= ∀k,0≤k∧k<(l.length:Int)->t k=A3c (gt l k)
structure Rg (l:List As):Prop where
 len:l.length≤8
 rg: ∀k,0≤k∧k<(l.length:Int)->(0≤(gt l k).fUp∧(gt l k).fUp≤l.length)∧(0≤(gt l k).Ef∧(gt l k).Ef≤l.length)∧(0≤(gt l k).Sn∧(gt l k).Sn≤l.length)∧(0≤(gt l k).So∧(gt l k).So≤l.length)
theorem Ax0{l:List As}{t:Int->Lk}(A:AtT l t){k:Int}:Lv l.length t k ↔ (0≤k∧k<(l.length:Int))∧(gt l k).Vi=1:=by
 unfold Lv;constructor
 ·rintro⟨a,b⟩;rw[A _ a]at b;grind [A3c]
 ·rintro⟨a,b⟩;rw[A _ a];grind [A3c]
theorem Bnz{l:List As}{t:Int->Lk}(A:AtT l t)(R:Rg l): ∀(n:Nat) (k:Int),Aw0 l n k=kids l.length t n k:=by
 intro n
 induction n with
 |zero=>intro k;rfl
 |succ n ih=>
  intro k;rw[Aw0,kids];split
  ·rename_i h
   have:=(R.rg k h).2.2.1
   have:=R.len;rw[A _ h,sb1 (by omega) (by omega),ih];rfl
  ·rfl
theorem A5v{l:List As}{t:Int->Lk}(A:AtT l t)(R:Rg l): ∀(n:Nat) (k:Int),Ail l n k=rise l.length t n k:=by
 intro n
 induction n with
 |zero=>intro k;rfl
 |succ n ih=>
  intro k;rw[Ail,rise];split
  ·rename_i h
   have:=(R.rg k h).1
   have:=R.len;rw[A _ h,sb1 (by omega) (by omega),ih];rfl
  ·rfl
theorem A5d{l:List As}{t:Int->Lk}(A:AtT l t)(R:Rg l){f:Int}(h0:0≤f)(h1:f≤1000):P2 l f=kf l.length t f:=by
 grind [P2,kf,sb1,Bnz,Int.toNat_natCast]
theorem A5w{l:List As}{n:Int}(h0:0≤n)(h1:n≤1000):plB l n=true ↔ 0≤n - 1∧n - 1<(l.length:Int):=by
 unfold plB;rw[sb1 (by omega) (by omega),decide_eq_true_iff]
theorem A5x{l:List As}{t:Int->Lk}(A:AtT l t)(R:Rg l){k:Int}(h:0≤k∧k<(l.length:Int)):A0n l k=true ↔ Cu l.length t k:=by
 have h1:=(R.rg k h).1
 have h2:=R.len;unfold A0n Cu;rw[Z4,Z4,A5w h1.1 (by omega),beq_iff_eq,beq_iff_eq,sb1 (by omega) (by omega),A _ h]
 show _ ↔ Lv _ _ ((gt l k).fUp - 1)∧(t ((gt l k).fUp - 1)).ep=(gt l k).Sm;rw[Ax0 A];constructor
 ·rintro⟨a,b,c⟩;rw[A _ a];exact⟨⟨a,b⟩,c⟩
 ·rintro⟨⟨a,b⟩,c⟩;rw[A _ a]at c;exact⟨a,b,c⟩
theorem A8o{l:List As}{t:Int->Lk}(A:AtT l t)(R:Rg l){k:Int}(h:0≤k∧k<(l.length:Int)):Aw1 l k=true ↔ Oo l.length t k:=by
 unfold Aw1 Oo;rw[Z4,Z4,beq_iff_eq,bne_iff_ne,Z44,Ax0 A,←A5x A R h,A _ h,Bool.not_eq_true];exact⟨fun⟨a,b,c⟩=>⟨⟨h,a⟩,b,c⟩,fun⟨⟨_,a⟩,b,c⟩=>⟨a,b,c⟩⟩
theorem A8p{l:List As}{t:Int->Lk}(A:AtT l t){n:Int}(h0:0≤n)(h1:n≤1000):Art l n=true ↔ (n≠0->Lv l.length t (n - 1)):=by
 unfold Art;rw[Bool.or_eq_true,beq_iff_eq,Z4,A5w h0 h1,beq_iff_eq,Ax0 A,sb1 (by omega) (by omega)]
 omega
theorem Bfb{a:Int}{b:Bool}{P:Prop}(h:b=true ↔ P):(a==0||b)=true ↔ (a≠0->P):=by
 grind
theorem A95{l:List As}{t:Int->Lk}(A:AtT l t)(R:Rg l){k:Int}(h:0≤k∧k<(l.length:Int)):A1h l k=true ↔ A43 l.length t k:=by
 obtain⟨r1,r2,r3,r4⟩:=R.rg k h
 have h2:=R.len
 have eg: ∀n,Lv l.length t n->t n=A3c (gt l n):=fun n hn=>A _ hn.1
 have ek:=A _ h;unfold A1h A2q Bez Baw A8a A6i;rw[ad1 (by omega) (by omega),sb1 (x:=(gt l k).Ef) (by omega) (by omega),sb1 (x:=(gt l k).Sn) (by omega) (by omega),sb1 (x:=(gt l k).So) (by omega) (by omega),sb1 (x:=(gt l k).fUp) (by omega) (by omega)]
 simp only[Z4,A8p A r2.1 (by omega:(gt l k).Ef≤1000),A8p A r3.1 (by omega:(gt l k).Sn≤1000),A8p A r4.1 (by omega:(gt l k).So≤1000),Bfb (A5w r1.1 (by omega:(gt l k).fUp≤1000)),Bfb Bool.and_eq_true_iff,Bfb beq_iff_eq,beq_iff_eq]
 constructor
 ·rintro⟨⟨a1,a2,a3,a4⟩,a5,a6,a7,a8⟩;refine⟨?_,?_,?_,?_,?_⟩
  ·simp_all[A3c]
  ·simp_all[A3c]
  ·simp_all[A3c]
  ·rw[ek];exact a4
  ·rw[ek];intro q c
   have hc:=(A5x A R h).2 c
   have hu:=c.1;rw[ek]at hu
   have hu:Lv l.length t ((gt l k).fUp - 1):=hu;rw[show(A3c (gt l k)).up=(gt l k).fUp from rfl,eg _ hu]
   rw[show(A3c (gt l k)).pv=(gt l k).So from rfl]at q
   rw[q,hc]at a8
   show(gt l ((gt l k).fUp - 1)).Ef=k+1
   grind
 ·intro L;obtain⟨a1,a2,a3,a4,a5⟩:=L;rw[ek]at a1 a2 a3 a4 a5;refine⟨⟨fun q=>(a1 q).1,fun q=>(a2 q).1,fun q=>(a3 q).1,a4⟩,fun q=> ?_,fun q=> ?_,fun q=> ?_,?_⟩
  ·obtain⟨b1,b2,b3,b4⟩:=a1 q;rw[eg _ b1]at b2 b3 b4;exact⟨b2,b3,b4⟩
  ·obtain⟨b1,b2,b3,b4⟩:=a2 q;rw[eg _ b1]at b2 b3 b4;exact⟨b2,b3,b4⟩
  ·obtain⟨b1,b2⟩:=a3 q;rw[eg _ b1]at b2;exact b2
  ·by_cases q:(gt l k).So=0
   ·cases hc:A0n l k with
    |false=>simp
    |true=>
     have c:=(A5x A R h).1 hc
     have hu:=c.1;rw[ek]at hu
     have:=a5 q c;rw[eg _ hu]at this;simp only[Bool.or_eq_true,beq_iff_eq];exact .inr this
   grind
theorem Bn0{r:List Int}(h:r≠[]):r.getLast? =some (A63 r):=by
 unfold A63;rw[V2 (by have:=List.length_pos_iff.2 h;omega),List.getLast?_eq_getElem?]
 grind
theorem Bda{l:List As}{t:Int->Lk}(A:AtT l t)(R:Rg l)(hb: ∀k,0≤k∧k<(l.length:Int)->(gt l k).Vi≠1->(gt l k).fUp=0∧(gt l k).Ef=0∧(gt l k).Sn=0∧(gt l k).So=0):A41 l=true ↔ Aq7 l.length t:=by
 have key: ∀k,0≤k∧k<(l.length:Int)->(A1y l k=true ↔ (rise l.length t (l.length:Int).toNat k).length≤4∧ ∀x,(rise l.length t (l.length:Int).toNat k).getLast? =some x-> ¬Cu l.length t x):=by
  intro k h;unfold A1y
  have hne:Ail l l.length k≠[]:=fun e=>by have:=A8b h;grind
  have hin:=Bax h;rw[Int.toNat_natCast,←A5v A R,Z4,decide_eq_true_iff,Z44,Bn0 hne];constructor
  ·grind [A5x]
  ·rintro⟨a,b⟩;refine⟨by omega,?_⟩
   have:=b _ rfl
   grind [A5x]
 unfold A41;rw[Z1];constructor
 ·intro h
  have h2: ∀k,Lv l.length t k->A1h l k=true∧A1y l k=true:=by
   intro k hk;obtain⟨a,b⟩:=(Ax0 A).1 hk
   have:=h k.toNat (by grind)
   grind
  exact⟨fun k hk=>(A95 A R hk.1).1 (h2 k hk).1,fun k hk=>(key k hk.1).1 (h2 k hk).2,fun k h0 h1 hl=>by
   rw[A _ ⟨h0,h1⟩]at hl ⊢
   grind [A3c]⟩
 ·intro T k hk;rw[List.mem_range]at hk
  by_cases e:(gt l (k:Int)).Vi=1
  ·have hl:=(Ax0 A).2 ⟨⟨by omega,by omega⟩,e⟩
   rw[(A95 A R hl.1).2 (T.link _ hl),(key _ hl.1).2 (T.rise _ hl)];simp
  grind
def Aqj (st gen:Int):As:=As.mk st gen 0 0 0 0 0 0 [] 0 0 [] []
structure Aqv (c:Ea)(n:As):Prop where
 conf:Ahn c=true
 st:n.Vi=1
 gen:1≤n.C9∧n.C9≤c.G9
 up:0≤n.fUp∧n.fUp≤c.E6
 first:0≤n.Ef∧n.Ef≤c.E6
 next:0≤n.Sn∧n.Sn≤c.E6
 prev:0≤n.So∧n.So≤c.E6
 ep:0≤n.Sl
 ue:0≤n.Sm
 dist:Auk c n.Ay=true
 cur:A5k c n=true
 nth:n.F6.length≤12
 ntag:n.Fi.length≤6
 tags:n.Fi.all (fun x=>inB x 0 255)=true
 things:n.F6.all (Apt c)=true
theorem Ag9{c:Ea}{n:As}:Ap6 c n=true∧n.Vi=1 ↔ Aqv c n:=by
 unfold Ap6 A75;constructor
 ·rintro⟨h,h1⟩;rw[h1]at h;simp only[Z4,Acw,bne_self_eq_false,cond_false,Z44,decide_eq_false_iff_not,decide_eq_true_eq]at h;obtain⟨a,_,b,⟨c1,c2,c3,c4⟩,⟨d1,d2⟩,⟨e1,e2⟩,⟨f1,f2⟩,g1,g2⟩:=h;exact⟨a,h1,b,c1,c2,c3,c4,by omega,by omega,e1,e2,by omega,by omega,g1,g2⟩
 ·intro h;refine⟨?_,h.st⟩;rw[h.st];simp only[Z4,Acw,bne_self_eq_false,cond_false,Z44,decide_eq_false_iff_not,decide_eq_true_eq];exact⟨h.conf,by omega,h.gen,⟨h.up,h.first,h.next,h.prev⟩,⟨by have:=h.ep;omega,by have:=h.ue;omega⟩,⟨h.dist,h.cur⟩,⟨by have:=h.nth;omega,by have:=h.ntag;omega⟩,h.tags,h.things⟩
theorem Awk{c:Ea}{n:As}(h:Ap6 c n=true)(h1:n.Vi≠1):n=Aqj n.Vi n.C9:=by
 have:=A9z h h1;unfold A5j at this;simp only[Z4,beq_iff_eq]at this;obtain⟨a1,a2,a3,a4,a5,a6,a7,a8,a9,a10,a11⟩:=this;cases n
 simp_all[Aqj]
theorem A4p{c:Ea}(hc:Ahn c=true){st gen:Int}(h0:0≤st∧st≤3)(h1:st≠1)(h2:1≤gen∧gen≤c.G9):Ap6 c (Aqj st gen)=true:=by
 unfold Ap6;rw[hc]
 show(true&&(inB st 0 3&&(inB gen 1 c.G9&&(bif st != 1 then A5j (Aqj st gen)else _))))=true
 rw[A0m h1,Acw.2 h0,Acw.2 h2];rfl
theorem A1m{c:Ea}{n:As}(h:Ap6 c n=true):Ahn c=true∧(0≤n.Vi∧n.Vi≤3)∧1≤n.C9∧n.C9≤c.G9:=by
 simp_all[Ap6,Acw]
theorem A3d{c:Ea}{n:As}(h:Ap6 c n=true):(0≤n.fUp∧n.fUp≤c.E6)∧(0≤n.Ef∧n.Ef≤c.E6)∧(0≤n.Sn∧n.Sn≤c.E6)∧(0≤n.So∧n.So≤c.E6):=by
 by_cases e:n.Vi=1
 ·have:=Ag9.1 ⟨h,e⟩;exact⟨this.up,this.first,this.next,this.prev⟩
 ·rw[Awk h e];obtain⟨_,_,b,_⟩:=F2 (A1m h).1;exact⟨⟨Int.le_refl _,by grind [Aqj]⟩,⟨Int.le_refl _,by grind [Aqj]⟩,⟨Int.le_refl _,by grind [Aqj]⟩,⟨Int.le_refl _,by grind [Aqj]⟩⟩
theorem A7b{c:Ea}{n:As}(h:Ap6 c n=true):Auk c n.Ay=true:=by
 by_cases e:n.Vi=1
 ·exact(Ag9.1 ⟨h,e⟩).dist
 ·rw[Awk h e];rfl
def Ax9 (q:List Az):List (Int×Int):=q.map (fun x=>(x.Bm,x.Ef))
structure Inv (w:C5):Prop where
 pool:Au5 w.fC w.fP=true
 len:(w.fL.length:Int)=w.fC.E6
 node: ∀k,0≤k∧k<(w.fL.length:Int)->Ap6 w.fC (gt w.fL k)=true
 own: ∀k,0≤k∧k<(w.fL.length:Int)-> ∀c,c∈(gt w.fL k).Ay ↔ (0≤c∧c<w.fC.Ay)∧gt w.fP.Vi c=1∧gt w.fP.N8 c=k
 thing: ∀k,0≤k∧k<(w.fL.length:Int)->(gt w.fL k).F6.all (Arp w.fC (gt w.fL k).Ay)=true∧Aot (gt w.fL k).F6=true∧Arq w.fC w.fP.N7 (gt w.fL k)=true
 forest: ∃t,AtT w.fL t∧Ag8 w.fL.length t (Ax9 w.fQ)
 wrec: ∀x∈w.fQ,Alb w.fC x=true∧Ank w x=true
 chn:(chL w.fQ).Nodup
 chi: ∀c,c∈chL w.fQ ↔ (0≤c∧c<w.fC.Ay)∧gt w.fP.Vi c=2
 sln:(slL w.fQ).Nodup
 sli: ∀s,s∈slL w.fQ ↔ (0≤s∧s<(w.fL.length:Int))∧(gt w.fL s).Vi=2
 log:w.Acy.all (fun x=>inB x 0 255)=true
theorem Inv.conf{w:C5}(I:Inv w):Ahn w.fC=true:=(Atr I.pool).1
theorem Inv.rg{w:C5}(I:Inv w):Rg w.fL:=by
 obtain⟨_,_,b,_⟩:=F2 I.conf
 have:=I.len;refine⟨by omega,fun k hk=> ?_⟩
 rw[I.len];exact A3d (I.node k hk)
theorem Inv.live{w:C5}(I:Inv w){t:Int->Lk}(A:AtT w.fL t){k:Int}(h:Lv w.fL.length t k):Aqv w.fC (gt w.fL k):=Ag9.1 ⟨I.node k ((Ax0 A).1 h).1,((Ax0 A).1 h).2⟩
theorem Bbk{N:Nat}{l:List Int}(hn:l.Nodup){k:Nat}(hk:k<N)(h:(k:Int)∈l):(gt (Amj N l) (k:Int)==1)=true:=by
 simp_all[A10,List.Nodup.count]
theorem Inv.chunks{w:C5}(I:Inv w){k:Int}(hk:0≤k∧k<(w.fL.length:Int)):A08 w.fP k (gt w.fL k).Ay=true:=by
 obtain⟨_,_,hst,hown,_⟩:=Atr I.pool
 have hd:=Azr (A7b (I.node k hk))
 have hs:=(A2f w.fP k).imp (fun {a b} (h:a<b)=>Int.ne_of_lt h)
 have hm: ∀x,x∈Auv w.fP k ↔ x∈(gt w.fL k).Ay:=by
  intro x;rw[I.own k hk x];unfold Auv;rw[Aw3]
  grind
 unfold A08;rw[Z4,Z1,beq_iff_eq];refine⟨fun x hx=>List.contains_iff_mem.2 ((hm x).1 hx),?_⟩
 have h1:=Axy (o:=Auv w.fP k) (l:=(gt w.fL k).Ay) hs (fun x hx=>(hm x).1 hx)
 have h2:=Axy (o:=(gt w.fL k).Ay) (l:=Auv w.fP k) hd (fun x hx=>(hm x).2 hx);omega
theorem Bbl{q:List Az}{x:Az}(hx:x∈q){c:Int}(h:c∈x.Ay):c∈chL q:=List.mem_flatMap.2 ⟨x,hx,h⟩
theorem Bgz{q:List Az}{x:Az}(hx:x∈q)(h:x.Bm≠0):An7 .i64 x.Bm 1∈slL q:=List.mem_flatMap.2 ⟨x,hx,by grind⟩
theorem Inv.first{w:C5}(I:Inv w){x:Az}(hx:x∈w.fQ):0≤x.Ef∧x.Ef≤8:=by
 obtain⟨_,_,b,_⟩:=F2 I.conf
 have:=(Aq1 (I.wrec x hx).1).2.2.1;omega
theorem Inv.qs{w:C5}{x:Az}(hx:x∈w.fQ):x.Ef∈(Ax9 w.fQ).map (fun e:Int×Int=>e.2):=by
 unfold Ax9
 grind
theorem Inv.waste{w:C5}(I:Inv w){x:Az}(hx:x∈w.fQ):Aiq w x=true:=by
 obtain⟨b1,_,b,_⟩:=F2 I.conf;obtain⟨h1,h2⟩:=I.wrec x hx;obtain⟨_,r1,r2,r3,_⟩:=Aq1 h1
 have hf:=I.first hx;obtain⟨t,A,F⟩:=I.forest;unfold Aiq;simp only[Z4];refine⟨h1,?_,h2,?_,?_,?_⟩
 ·unfold A1z;rw[Z1];intro c hc;rw[beq_iff_eq];exact((I.chi c).1 (Bbl hx hc)).2
 ·unfold Avz
  by_cases e:x.Bm=0
  ·grind
  ·rw[((I.sli _).1 (Bgz hx e)).2];simp
 ·unfold Aw2
  by_cases e:x.Ef=0
  ·grind
  ·obtain⟨a,b⟩:=F.kid.top _ (Inv.qs hx) e;rw[sb1 (by omega) (by omega)]
   rw[A _ a]at b
   have b:(gt w.fL (x.Ef - 1)).So=0:=b
   grind
 ·unfold Arr;rw[Z1];intro k hk
  have hin:=A1i _ _ k hk;rw[A5d A I.rg hf.1 (by omega)]at hk
  exact(A8o A I.rg hin).2 (F.kid.or (Inv.qs hx) hk)
theorem Bg0{w:C5}(I:Inv w){t:Int->Lk}(A:AtT w.fL t):kdL w.fL w.fQ=((Ax9 w.fQ).map (fun e:Int×Int=>e.2)).flatMap (kf w.fL.length t):=by
 unfold kdL Ax9;rw[Dr,List.flatMap_map];exact Av0 fun x hx=>by
  have hf:=I.first hx;exact A5d A I.rg hf.1 (by omega)
theorem Inv.fin{w:C5}(I:Inv w):Awg w w.fC.Ay.toNat=true:=by
 obtain⟨_,_,hst,hown,_⟩:=Atr I.pool;obtain⟨t,A,F⟩:=I.forest;unfold Awg;rw[Z4,Z1,Z1];refine⟨fun k hk=> ?_,fun k hk=> ?_⟩
 ·rw[List.mem_range]at hk;cases e:(gt w.fP.Vi (k:Int)==2)with
  |false=>rfl
  |true=>exact Bbk I.chn (by omega) ((I.chi _).2 ⟨⟨by omega,by omega⟩,by grind⟩)
 ·rw[List.mem_range]at hk;rw[Z4];constructor
  ·cases e:((gt w.fL (k:Int)).Vi==2)with
   |false=>rfl
   |true=>simp_all[Bbk,sln,sli]
  ·cases e:Aw1 w.fL (k:Int)with
   |false=>rfl
   |true=>
    refine Bbk (by rw[Bg0 I A];exact F.kid.nodup) hk ?_
    rw[Bg0 I A,F.kid.iff];exact(A8o A I.rg ⟨by omega,by omega⟩).1 e
theorem Inv.ok{w:C5}(I:Inv w):Apu w=true:=by
 obtain⟨t,A,F⟩:=I.forest;unfold Apu;simp only[Z4,beq_iff_eq];refine⟨I.pool,I.len,?_,?_,⟨?_,I.fin⟩,I.log⟩
 ·rw[Z1];intro k hk;rw[List.mem_range]at hk
  have hk2:0≤(k:Int)∧(k:Int)<(w.fL.length:Int):=⟨by omega,by omega⟩
  grind [thing,A3j,node,chunks]
 ·refine(Bda A I.rg fun k hk h=> ?_).2 F.tree;rw[Awk (I.node k hk) h];exact⟨rfl,rfl,rfl,rfl⟩
 grind [waste]
def lnk (n:As)(fi nx pv:Int):As:=As.mk n.Vi n.C9 n.Sl n.fUp n.Sm fi nx pv n.Ay n.Acx n.Sq n.F6 n.Fi
theorem Apy{l:List As}{j x:Int}(hj:0≤j∧j<(l.length:Int))(hx:0≤x∧x<(l.length:Int))(v:As):gt (l.set j.toNat v) x=if x=j then v else gt l x:=by
 by_cases e:x=j
 all_goals simp_all[Au7,Azc,Ne.symm]
theorem Bdb{l:List As}{n:Int}(h0:0≤n)(h1:n≤l.length)(h2:l.length≤8):plB l n= !(n==0):=by
 have:=A5w (l:=l) h0 (by omega:n≤1000)
 grind
theorem A7t{l:List As}(R:Rg l){k x:Int}(hk:0≤k∧k<(l.length:Int))(hx:0≤x∧x<(l.length:Int)):
  gt (A33 l k) x=lnk (gt l x) (if(gt l k).So=0∧x+1=(gt l k).fUp∧(gt l x).Ef=k+1 then(gt l k).Sn else(gt l x).Ef) (if x+1=(gt l k).So then(gt l k).Sn else(gt l x).Sn) (gt l x).So:=by
 obtain⟨r1,r2,r3,r4⟩:=R.rg k hk
 have hl:=R.len;unfold A33;rw[Bdb r4.1 r4.2 hl,Bdb r1.1 r1.2 hl,sb1 (x:=(gt l k).So) (by omega) (by omega),sb1 (x:=(gt l k).fUp) (by omega) (by omega),ad1 (by omega) (by omega)]
 by_cases h:(gt l k).So=0
 ·rw[h];simp only[beq_self_eq_true,Bool.not_true,cond_false,Z30];rw[if_neg (by omega: ¬x+1=0)]
  by_cases h2:(gt l k).fUp=0
  ·rw[h2,if_neg (by omega)];rfl
  ·rw[Aps h2];simp only[Bool.not_false,Z30]
   by_cases h3:(gt l ((gt l k).fUp - 1)).Ef=k+1
   ·rw[h3,beq_self_eq_true,cond_true,Apy (by omega) hx]
    by_cases e:x=(gt l k).fUp - 1
    ·rw[if_pos e,e,h3,if_pos ⟨trivial,by omega,rfl⟩];rfl
    ·rw[if_neg e,if_neg (by omega)];rfl
   ·rw[Aps h3,cond_false,if_neg]
    ·rfl
    grind
 ·rw[Aps h];simp only[Bool.not_false,cond_true];rw[Apy (by omega) hx,if_neg (fun q:(gt l k).So=0∧x+1=(gt l k).fUp∧(gt l x).Ef=k+1=>h q.1)]
  by_cases e:x=(gt l k).So - 1
  ·have e2:x+1=(gt l k).So:=by omega
   rw[if_pos e,if_pos e2,←e];rfl
  ·have e2: ¬x+1=(gt l k).So:=by omega
   rw[if_neg e,if_neg e2];rfl
theorem A3e{l:List As}(R:Rg l){k x:Int}(hk:0≤k∧k<(l.length:Int))(hx:0≤x∧x<(l.length:Int))(hne:x≠k):
  gt (Anf l k) x=lnk (gt l x) (if(gt l k).So=0∧x+1=(gt l k).fUp∧(gt l x).Ef=k+1 then(gt l k).Sn else(gt l x).Ef) (if x+1=(gt l k).So then(gt l k).Sn else(gt l x).Sn) (if x+1=(gt l k).Sn then(gt l k).So else(gt l x).So):=by
 obtain⟨r1,r2,r3,r4⟩:=R.rg k hk
 have hl:=R.len
 have hl0:=A2r l k;unfold Anf A29;rw[Apy (by grind [A32]) (by grind [A32]),if_neg hne]
 unfold A5s;rw[Bdb r3.1 r3.2 hl,sb1 (by omega) (by omega)]
 by_cases h:(gt l k).Sn=0
 ·rw[h];simp only[beq_self_eq_true,Bool.not_true,cond_false];rw[A7t R hk hx,h,if_neg (by omega: ¬x+1=0)]
 ·rw[Aps h];simp only[Bool.not_false,cond_true];rw[Apy (by omega) (by omega)]
  by_cases e:x=(gt l k).Sn - 1
  ·have e2:x+1=(gt l k).Sn:=by omega
   rw[if_pos e,if_pos e2,←e,A7t R hk hx];rfl
  ·have e2: ¬x+1=(gt l k).Sn:=by omega
   simp_all[A7t]
theorem Awl (l:List As)(k:Int):(Anf l k).length=l.length:=by grind [Anf,A29,A32,A2r]
theorem A8q{c:Ea}{n:As}(X:Aqv c n){fi nx pv:Int}(h1:0≤fi∧fi≤c.E6)(h2:0≤nx∧nx≤c.E6)(h3:0≤pv∧pv≤c.E6):Aqv c (lnk n fi nx pv):=
 ⟨X.conf,X.st,X.gen,X.up,h1,h2,h3,X.ep,X.ue,X.dist,X.cur,X.nth,X.ntag,X.tags,X.things⟩
theorem Bn1{l:List As}{t:Int->Lk}(A:AtT l t)(R:Rg l){k:Int}(hk:0≤k∧k<(l.length:Int))(g:Int):AtT ((Anf l k).set k.toNat (Aqj 2 g)) (rem t k):=by
 intro x hx;rw[Z49,Awl]at hx;rw[Apy (by grind [Awl]) (by grind [Awl])]
 by_cases e:x=k
 ·subst e;rw[A5t,if_pos rfl];rfl
 ·rw[Akz e,if_neg e,A3e R hk hx e,A x hx,A k hk];rfl
theorem A2t{l:List Int}{j x:Int}(hj:0≤j)(hx:0≤x∧x<(l.length:Int))(v:Int):gt (l.set j.toNat v) x=if x=j then v else gt l x:=by
 have h1:x.toNat<(l.set j.toNat v).length:=by grind
 have h2:x.toNat<l.length:=by omega
 have e1:gt (l.set j.toNat v) ((x.toNat:Nat):Int)=if x=j then v else gt l ((x.toNat:Nat):Int):=by
  rw[V2 h1,V2 h2,List.getElem_set];omega
 grind
structure A16 (c:Ea)(p:Dn):Prop where
 conf:Ahn c=true
 mem:(p.N7.length:Int)=c.Ay*c.G8
 st:(p.Vi.length:Int)=c.Ay
 own:(p.N8.length:Int)=c.Ay
 one: ∀k,0≤k∧k<c.Ay->(0≤gt p.Vi k∧gt p.Vi k≤2)∧(gt p.Vi k=1->0≤gt p.N8 k∧gt p.N8 k<c.E6)∧(gt p.Vi k≠1->gt p.N8 k= -1)∧(gt p.Vi k=0->Aqu (Avv c p.N7 k)=true)
theorem Bg1{c:Ea}{p:Dn}{k:Nat}:A1x c p k=true ↔ (0≤gt p.Vi (k:Int)∧gt p.Vi (k:Int)≤2)∧(gt p.Vi (k:Int)=1->0≤gt p.N8 (k:Int)∧gt p.N8 (k:Int)<c.E6)∧(gt p.Vi (k:Int)≠1->gt p.N8 (k:Int)= -1)∧(gt p.Vi (k:Int)=0->Aqu (Avv c p.N7 k)=true):=by
 unfold A1x;rw[Z4,Z4,Acw];refine and_congr Iff.rfl ?_
 by_cases e:gt p.Vi (k:Int)=1
 ·rw[e];simp only[beq_self_eq_true,cond_true,Acw]
  grind
 grind
theorem Air{c:Ea}{p:Dn}:Au5 c p=true ↔ A16 c p:=by
 constructor
 ·intro h;obtain⟨h1,h2,h3,h4,h5⟩:=Atr h;refine⟨h1,h2,h3,h4,fun k hk=> ?_⟩
  have:=Bg1.1 (h5 k.toNat (by omega))
  grind
 ·intro h;obtain⟨b1,_⟩:=F2 h.conf;unfold Au5;simp only[Z4,beq_iff_eq,Z1,List.mem_range];refine⟨h.conf,by grind [A16.mem,Ala,A16.conf],h.st,h.own,fun k hk=> ?_⟩
  exact Bg1.2 (h.one k (by omega))
theorem Biy (cs:List Int): ∀(p:Dn),p.N8.length=p.Vi.length->(Aio p cs).N7=p.N7∧(Aio p cs).Vi.length=p.Vi.length∧(Aio p cs).N8.length=p.N8.length∧ ∀c,0≤c∧c<(p.Vi.length:Int)→
  gt (Aio p cs).Vi c=(if c∈cs∧gt p.Vi c=1 then 2 else gt p.Vi c)∧gt (Aio p cs).N8 c=(if c∈cs∧gt p.Vi c=1 then -1 else gt p.N8 c):=by
 induction cs with
 |nil=>simp_all[Aio]
 |cons k cs ih=>
  intro p hl
  have h1:(A1r p k).N7=p.N7∧(A1r p k).Vi.length=p.Vi.length∧(A1r p k).N8.length=p.N8.length:=by
   grind [A1r]
  obtain⟨a,b,c,d⟩:=ih (A1r p k) (by omega)
  refine⟨a.trans h1.1,b.trans h1.2.1,c.trans h1.2.2,fun x hx=> ?_⟩;obtain⟨d1,d2⟩:=d x (by omega)
  have e1:gt (A1r p k).Vi x=if x=k∧gt p.Vi x=1 then 2 else gt p.Vi x:=by
   unfold A1r
   by_cases q:(0≤k∧k<(p.Vi.length:Int)∧k<(p.N8.length:Int))∧gt p.Vi k=1
   ·rw[if_pos q];simp only;rw[A2t q.1.1 hx]
    grind
   grind
  have e2:gt (A1r p k).N8 x=if x=k∧gt p.Vi x=1 then -1 else gt p.N8 x:=by
   unfold A1r
   by_cases q:(0≤k∧k<(p.Vi.length:Int)∧k<(p.N8.length:Int))∧gt p.Vi k=1
   ·rw[if_pos q];simp only;rw[A2t q.1.1 (by omega)]
    grind
   grind
  show gt (Aio (A1r p k) cs).Vi x=_∧gt (Aio (A1r p k) cs).N8 x=_;rw[d1,d2,e1,e2]
  by_cases q:gt p.Vi x=1
  ·by_cases e:x=k
   ·subst e;simp[q]
   ·simp[q,e]
  ·simp[q]
theorem A17{w:C5}(I:Inv w){k:Int}(hk:0≤k∧k<(w.fL.length:Int)):
  A16 w.fC (Aio w.fP (gt w.fL k).Ay)∧(Aio w.fP (gt w.fL k).Ay).N7=w.fP.N7∧
  ∀c,0≤c∧c<w.fC.Ay->gt (Aio w.fP (gt w.fL k).Ay).Vi c=(if c∈(gt w.fL k).Ay then 2 else gt w.fP.Vi c)∧gt (Aio w.fP (gt w.fL k).Ay).N8 c=(if c∈(gt w.fL k).Ay then -1 else gt w.fP.N8 c):=by
 have P:=Air.1 I.pool;obtain⟨a,b,c,d⟩:=Biy (gt w.fL k).Ay w.fP (by have:=P.st;have:=P.own;omega)
 have key: ∀c,0≤c∧c<w.fC.Ay->gt (Aio w.fP (gt w.fL k).Ay).Vi c=(if c∈(gt w.fL k).Ay then 2 else gt w.fP.Vi c)∧gt (Aio w.fP (gt w.fL k).Ay).N8 c=(if c∈(gt w.fL k).Ay then -1 else gt w.fP.N8 c):=by
  intro x hx;obtain⟨d1,d2⟩:=d x (by rw[P.st];exact hx)
  rw[d1,d2]
  by_cases e:x∈(gt w.fL k).Ay
  ·have:=((I.own k hk x).1 e).2.1
   grind
  grind
 refine⟨⟨P.conf,by rw[a];exact P.mem,by rw[b];exact P.st,by rw[c];exact P.own,fun x hx=> ?_⟩,a,key⟩
 obtain⟨k1,k2⟩:=key x hx;obtain⟨p1,p2,p3,p4⟩:=P.one x hx
 grind
theorem A7u (q:List Az)(x:Az):chL (q++[x])=chL q++x.Ay:=by grind [chL]
theorem A7v (q:List Az)(x:Az):slL (q++[x])=slL q++(if x.Bm=0 then []else [An7 .i64 x.Bm 1]):=by grind [slL]
theorem Bdc (q:List Az)(x:Az):Ax9 (q++[x])=Ax9 q++[(x.Bm,x.Ef)]:=by simp[Ax9]
theorem A37{c:Ea}{n:As}(h:Aqv c n){s:Int}(hs:0≤s∧s≤c.E6):Alb c (Ago n s)=true:=by
 obtain⟨_,b,_⟩:=F2 h.conf;unfold Alb Ago;simp only[Z4,Acw,decide_eq_true_eq,Bool.or_eq_true,beq_iff_eq];exact⟨h.conf,hs,h.first,by have:=h.ntag;omega,h.tags,h.dist,by omega,.inr trivial⟩
theorem A8r (w:C5)(n:As)(s:Int):Ank w (Ago n s)=true:=by
 unfold Ank Ago Aqu;simp
theorem Bbm{w:C5}(I:Inv w){k:Int}(hk:0≤k∧k<(w.fL.length:Int)):(chL w.fQ++(gt w.fL k).Ay).Nodup:=
 Ang.2 ⟨I.chn,Azr (A7b (I.node k hk)),fun x h1 h2=>by simp_all[Inv.chi,Inv.own]⟩
theorem Bbn{w:C5}(I:Inv w){k:Int}(hk:0≤k∧k<(w.fL.length:Int))(c:Int):c∈chL w.fQ++(gt w.fL k).Ay ↔ (0≤c∧c<w.fC.Ay)∧gt (Aio w.fP (gt w.fL k).Ay).Vi c=2:=by
 rw[Mj,I.chi];constructor
 ·rintro(⟨a,b⟩|h)
  all_goals simp_all[A17,Inv.own]
 ·rintro⟨a,b⟩;rw[((A17 I hk).2.2 c a).1]at b
  grind
theorem Biz{w:C5}(I:Inv w){t:Int->Lk}(A:AtT w.fL t)(F:Ag8 w.fL.length t (Ax9 w.fQ)){k:Int}(h:Al w.fL.length t k):Inv (Am6 w k):=by
 have hl:=h.lv
 have hk:=hl.1
 have P:=I.live A hl
 have R:=I.rg;obtain⟨L1,L2,L3⟩:=A17 I hk;obtain⟨_,_,b3,_⟩:=F2 I.conf
 have hlen:=I.len
 have e1:An6 .i64 k 1=k+1:=ad1 (by omega) (by omega)
 have hN:(Am6 w k).fL.length=w.fL.length:=by grind [Am6,Awl]
 have hg: ∀x,0≤x∧x<(w.fL.length:Int)->gt (Am6 w k).fL x=if x=k then Aqj 2 (gt (Anf w.fL k) k).C9 else gt (Anf w.fL k) x:=fun x hx=>by
  unfold Am6;simp only;rw[Apy (by grind [Awl]) (by grind [Awl])];rfl
 have hgen:(gt (Anf w.fL k) k).C9=(gt w.fL k).C9:=by
  unfold Anf A29;rw[Au7 (by grind [A32,A2r])]
  show(gt (A5s w.fL (A33 w.fL k) k _ _) k).C9=_;unfold A5s
  have h0:(gt (A33 w.fL k) k).C9=(gt w.fL k).C9:=by rw[A7t R hk hk];rfl
  obtain⟨_,_,r3,_⟩:=R.rg k hk
  have hl8:=R.len;rw[Bdb r3.1 r3.2 hl8,sb1 (by omega) (by omega)]
  by_cases e:(gt w.fL k).Sn=0
  ·grind
  ·rw[Aps e];simp only[Bool.not_false,cond_true];rw[Apy (by rw[A2r];omega) (by grind [A2r])]
   split
   ·rename_i e2;rw[←e2];exact h0
   omega
 refine⟨Air.2 L1,by rw[hN];exact hlen,fun x hx=> ?_,fun x hx c=> ?_,fun x hx=> ?_,⟨rem t k,?_,?_⟩,fun x hx=> ?_,?_,fun c=> ?_,?_,fun s=> ?_,I.log⟩
 ·rw[hN]at hx;rw[hg x hx]
  by_cases e:x=k
  ·rw[if_pos e,hgen];exact A4p I.conf (by omega) (by omega) P.gen
  ·rw[if_neg e,A3e R hk hx e]
   by_cases hs:(gt w.fL x).Vi=1
   ·have X:=Ag9.1 ⟨I.node x hx,hs⟩;obtain⟨a1,a2,a3,a4⟩:=A3d (I.node k hk);refine(Ag9.2 (A8q X ?_ ?_ ?_)).1
    ·split
     ·exact a3
     ·exact X.first
    ·split
     ·exact a3
     ·exact X.next
    ·split
     ·exact a4
     ·exact X.prev
   ·have X:=Awk (I.node x hx) hs
    have B:=(A8i F.tree hl).bare x hx.1 hx.2 (by rw[Akz e,A x hx];grind [A3c])
    rw[Akz e,A x hx,A k hk]at B;obtain⟨_,B2,B3,B4⟩:=B
    have q1:(if(gt w.fL k).So=0∧x+1=(gt w.fL k).fUp∧(gt w.fL x).Ef=k+1 then(gt w.fL k).Sn else(gt w.fL x).Ef)=0:=B2
    have q2:(if x+1=(gt w.fL k).So then(gt w.fL k).Sn else(gt w.fL x).Sn)=0:=B3
    have q3:(if x+1=(gt w.fL k).Sn then(gt w.fL k).So else(gt w.fL x).So)=0:=B4
    have this:lnk (gt w.fL x) 0 0 0=gt w.fL x:=by rw[X];rfl
    rw[q1,q2,q3];rw[this];exact I.node x hx
 ·rw[hN]at hx;rw[hg x hx]
  show c∈_ ↔ (0≤c∧c<w.fC.Ay)∧gt (Aio w.fP (gt w.fL k).Ay).Vi c=1∧gt (Aio w.fP (gt w.fL k).Ay).N8 c=x
  by_cases e:x=k
  ·rw[if_pos e];constructor
   ·intro q;cases q
   ·rintro⟨a,b,d⟩;rw[(L3 c a).1]at b;rw[(L3 c a).2]at d;split at b
    all_goals simp_all[Inv.own]
  ·rw[if_neg e,A3e R hk hx e]
   show c∈(gt w.fL x).Ay ↔ _;rw[I.own x hx c];constructor
   ·rintro⟨a,b,d⟩
    have q:c ∉ (gt w.fL k).Ay:=fun q=>e (by have:=((I.own k hk c).1 q).2.2;omega)
    grind
   grind
 ·rw[hN]at hx;rw[hg x hx]
  by_cases e:x=k
  ·rw[if_pos e];exact⟨rfl,rfl,rfl⟩
  ·rw[if_neg e,A3e R hk hx e];obtain⟨t1,t2,t3⟩:=I.thing x hx;refine⟨t1,t2,?_⟩
   show Arq w.fC (Aio w.fP (gt w.fL k).Ay).N7 _=true;rw[L2];exact t3
 ·exact Bn1 A R hk _
 ·show Ag8 ((Am6 w k).fL.length:Int) _ (Ax9 (w.fQ++[_]));rw[hN,Bdc,e1]
  have:=Bbg F h;rw[A k hk]at this;exact this
 ·have hx:x∈w.fQ++[Ago (gt w.fL k) (An6 .i64 k 1)]:=hx
  show Alb w.fC x=true∧_;rcases Mj.1 hx with hx|hx
  ·obtain⟨a,b⟩:=I.wrec x hx;refine⟨a,?_⟩;unfold Ank at b ⊢
   show(_||Aqu (((Aio w.fP (gt w.fL k).Ay).N7.drop (gt x.Ay 0*w.fC.G8).toNat).take x.Wz.toNat))=true
   grind
  ·rw[Pz.1 hx,e1]
   grind [A37,A8r]
 ·show(chL (w.fQ++[_])).Nodup;rw[A7u];exact Bbm I hk
 ·show c∈chL (w.fQ++[_]) ↔ _;rw[A7u];exact Bbn I hk c
 ·show(slL (w.fQ++[Ago (gt w.fL k) (An6 .i64 k 1)])).Nodup;rw[A7v,e1]
  show(slL w.fQ++(if k+1=0 then []else [An7 .i64 (k+1) 1])).Nodup
  rw[if_neg (by omega),sb1 (by omega) (by omega),Int.add_sub_cancel]
  exact Ang.2 ⟨I.sln,by simp,fun x h1 h2=>by rw[Pz]at h2;subst h2;have:=((I.sli x).1 h1).2;have:=P.st;omega⟩
 ·show s∈slL (w.fQ++[Ago (gt w.fL k) (An6 .i64 k 1)]) ↔ _;rw[A7v,e1,hN]
  show s∈slL w.fQ++(if k+1=0 then []else [An7 .i64 (k+1) 1]) ↔ _
  rw[if_neg (by omega),sb1 (by omega) (by omega),Int.add_sub_cancel,Mj,Pz,I.sli]
  constructor
  ·rintro(⟨a,b⟩|a)
   ·refine⟨a,?_⟩
    have e:s≠k:=fun e=>by grind [Aqv.st]
    rw[hg s a,if_neg e,A3e R hk a e];exact b
   ·rw[a,hg k hk,if_pos rfl];exact⟨hk,rfl⟩
  ·rintro⟨a,b⟩
   by_cases e:s=k
   ·omega
   ·rw[hg s a,if_neg e,A3e R hk a e]at b;exact .inl ⟨a,b⟩
theorem Bw5{l:List As}{t:Int->Lk}(A:AtT l t){k:Int}(hk:0≤k∧k<(l.length:Int))(h0:0≤(gt l k).Sl)(h1:(gt l k).Sl≤1000000000):AtT (l.set k.toNat (Azb (gt l k))) (emp t k):=by
 intro x hx;rw[Z49]at hx;rw[Apy hk hx]
 by_cases e:x=k
 ·subst e;rw[A94,if_pos rfl,A x hx]
  grind [Azb,A3c,ad1]
 ·rw[A7a e,if_neg e,A x hx]
theorem Bi0{w:C5}(I:Inv w){t:Int->Lk}(A:AtT w.fL t)(F:Ag8 w.fL.length t (Ax9 w.fQ)){k:Int}(h:Al w.fL.length t k)(hE:(gt w.fL k).Sl≤1000000000):Inv (A1k w k):=by
 have hl:=h.lv
 have hk:=hl.1
 have P:=I.live A hl;obtain⟨L1,L2,L3⟩:=A17 I hk
 have hN:(A1k w k).fL.length=w.fL.length:=by grind [A1k]
 have hg: ∀x,0≤x∧x<(w.fL.length:Int)->gt (A1k w k).fL x=if x=k then Azb (gt w.fL k)else gt w.fL x:=fun x hx=>Apy hk hx _
 obtain⟨_,b2,b3,_⟩:=F2 I.conf;refine⟨Air.2 L1,by rw[hN];exact I.len,fun x hx=> ?_,fun x hx c=> ?_,fun x hx=> ?_,⟨emp t k,?_,?_⟩,fun x hx=> ?_,?_,fun c=> ?_,?_,fun s=> ?_,I.log⟩
 ·rw[hN]at hx;rw[hg x hx]
  show Ap6 w.fC _=true
  by_cases e:x=k
  ·rw[if_pos e];exact((Ag9 (n:=Azb (gt w.fL k))).2 ⟨P.conf,P.st,P.gen,P.up,⟨Int.le_refl _,by show(0:Int)≤_;omega⟩,P.next,P.prev,by show 0≤An6 .i64 _ 1;rw[ad1 (by have:=P.ep;omega) hE];have:=P.ep;omega,P.ue,rfl,rfl,Z21 _,Z21 _,rfl,rfl⟩).1
  simp_all[Inv.node]
 ·rw[hN]at hx;rw[hg x hx]
  show c∈_ ↔ (0≤c∧c<w.fC.Ay)∧gt (Aio w.fP (gt w.fL k).Ay).Vi c=1∧gt (Aio w.fP (gt w.fL k).Ay).N8 c=x
  by_cases e:x=k
  ·rw[if_pos e];constructor
   ·intro q;cases q
   ·rintro⟨a,b,d⟩;rw[(L3 c a).1]at b;rw[(L3 c a).2]at d;split at b
    all_goals simp_all[Inv.own]
  ·rw[if_neg e,I.own x hx c];constructor
   ·rintro⟨a,b,d⟩
    have q:c ∉ (gt w.fL k).Ay:=fun q=>e (by have:=((I.own k hk c).1 q).2.2;omega)
    grind
   grind
 ·rw[hN]at hx;rw[hg x hx]
  by_cases e:x=k
  ·rw[if_pos e];exact⟨rfl,rfl,rfl⟩
  ·rw[if_neg e];obtain⟨t1,t2,t3⟩:=I.thing x hx;refine⟨t1,t2,?_⟩
   show Arq w.fC (Aio w.fP (gt w.fL k).Ay).N7 _=true
   grind
 ·exact Bw5 A hk P.ep hE
 ·show Ag8 ((A1k w k).fL.length:Int) _ (Ax9 (w.fQ++[_]));rw[hN,Bdc]
  have:=Bbh F h;rw[A k hk]at this;exact this
 ·have hx:x∈w.fQ++[Ago (gt w.fL k) 0]:=hx
  show Alb w.fC x=true∧_;rcases Mj.1 hx with hx|hx
  ·obtain⟨a,b⟩:=I.wrec x hx;refine⟨a,?_⟩;unfold Ank at b ⊢
   show(_||Aqu (((Aio w.fP (gt w.fL k).Ay).N7.drop (gt x.Ay 0*w.fC.G8).toNat).take x.Wz.toNat))=true
   grind
  ·rw[Pz.1 hx]
   grind [A37,A8r]
 ·show(chL (w.fQ++[_])).Nodup;rw[A7u];exact Bbm I hk
 ·show c∈chL (w.fQ++[_]) ↔ _;rw[A7u];exact Bbn I hk c
 ·show(slL (w.fQ++[Ago (gt w.fL k) 0])).Nodup;rw[A7v]
  show(slL w.fQ++(if(0:Int)=0 then []else [An7 .i64 0 1])).Nodup
  simp_all[Inv.sln]
 ·show s∈slL (w.fQ++[Ago (gt w.fL k) 0]) ↔ _;rw[A7v,hN]
  show s∈slL w.fQ++(if(0:Int)=0 then []else [An7 .i64 0 1]) ↔ _
  rw[if_pos rfl,List.append_nil,I.sli];refine and_congr_right fun a=> ?_;rw[hg s a]
  by_cases e:s=k
  ·rw[if_pos e,e,P.st]
   show _ ↔ (gt w.fL k).Vi=2;rw[P.st]
  grind
def wtN (c:Ea)(n:As):Nat:=if n.Vi=1 then 2+n.Fi.length+c.G8.toNat*n.Ay.length else 0
def wtQ (c:Ea)(x:Az):Nat:=1+x.Fi.length+(c.G8.toNat*x.Ay.length - x.Wz.toNat)
def pot (w:C5):Nat:=(w.fL.map (wtN w.fC)).sum+(w.fQ.map (wtQ w.fC)).sum
def wt (w:C5):Nat:=pot w+w.Acy.length
structure EpP (E:Int)(n:As):Prop where
 ep:n.Sl≤E
 ue:n.Sm≤E
 cur:0≤n.Acx∧n.Acx≤1000
structure Dy (w:C5)(E:Int)(n:Nat):Prop where
 inv:Inv w
 mem: ∀x∈w.fP.N7,0≤x∧x≤255
 ep: ∀k,0≤k∧k<(w.fL.length:Int)->EpP E (gt w.fL k)
 wt:wt w≤n
theorem Bw6{α:Type}(f:α->Nat)(l:List α)(h: ∀x∈l,1≤f x):l.length≤(l.map f).sum:=by
 induction l with
 |nil=>simp
 |cons x l ih=>
  grind
theorem Bre (w:C5):w.fQ.length≤wt w:=by
 have:=Bw6 (wtQ w.fC) w.fQ fun x _=>by grind [wtQ]
 unfold wt pot;omega
theorem Bfd (w:C5):w.Acy.length≤wt w:=by grind [wt]
theorem Ht{x:Int}(h0: -1000000000≤x)(h1:x≤1000000000):wfi x:=⟨by omega,by omega⟩
theorem Bbo{c:Ea}{t:Bc}(h:Apt c t=true):ThingW t:=by
 have hs:=(A2m h).1
 have hin:=(A2m h).2;obtain⟨_,b2,_⟩:=F2 hin.1;obtain⟨s1,s2,s3,s4⟩:=hs;refine⟨Ht (by omega) (by omega),Ht (by omega) (by omega),?_⟩
 unfold Apt at h;rw[Z4]at h
 by_cases e:t.Ajn=0
 ·grind [Ht]
 ·have h:=h.2;rw[Aps e]at h;simp only[cond_false,Z4,beq_iff_eq]at h;rw[h.2.1];unfold Att
  have h3:(t.Ajm+c.G8 - 1) / c.G8≤t.Ajm+c.G8 - 1:=Int.ediv_le_self _ (by omega)
  have h4:0≤(t.Ajm+c.G8 - 1) / c.G8:=Int.ediv_nonneg (by omega) (by omega)
  cases (inB t.Ajm 0 1000000000&&inB c.G8 1 1000000000)with
  |false=>simp_all[Ht]
  |true=>exact Ht (by grind) (by grind)
theorem Av2{l:List Int}(h: ∀x∈l,-1000000000≤x∧x≤1000000000)(hl:l.length≤1000000000):A2n l:=⟨fun x hx=>Ht (h x hx).1 (h x hx).2,by omega⟩
theorem Bn2{c:Ea}(h:Ahn c=true):ConfW c:=by
 obtain⟨b1,b2,b3,b4,b5,b6⟩:=F2 h;exact⟨Ht (by omega) (by omega),Ht (by omega) (by omega),Ht (by omega) (by omega),Ht (by omega) (by omega),Ht (by omega) (by omega),Ht (by omega) (by omega)⟩
theorem A8s{l:List Int}(h:l.all (fun x=>inB x 0 255)=true): ∀x∈l,0≤x∧x≤255:=fun x hx=>Acw.1 (Z1.1 h x hx)
theorem A3f{c:Ea}{n:As}{E:Int}(h:Ap6 c n=true)(e:EpP E n)(hE:E≤1000000000):Apx n:=by
 obtain⟨b1,b2,b3,b4,b5,b6⟩:=F2 (A1m h).1
 by_cases s:n.Vi=1
 ·have X:=Ag9.1 ⟨h,s⟩
  have:=X.gen;have:=X.up;have:=X.first;have:=X.next;have:=X.prev;have:=X.ep;have:=X.ue;have:=X.nth;have:=X.ntag
  have:=e.ep;have:=e.ue;have:=e.cur;refine⟨Ht (by omega) (by omega),Ht (by omega) (by omega),Ht (by omega) (by omega),Ht (by omega) (by omega),Ht (by omega) (by omega),Ht (by omega) (by omega),Ht (by omega) (by omega),Ht (by omega) (by omega),?_,Ht (by omega) (by omega),?_,?_,?_⟩
  ·exact Av2 (fun x hx=>by have:=Axu X.dist x hx;omega) (by have:=Asi X.conf X.dist;omega)
  ·have:=X.cur;unfold A5k at this
   by_cases q:n.Acx=0
   ·simp_all[Ht]
   ·rw[Aps q]at this;simp only[cond_false,Z4,Acw]at this
    grind [Ht]
  ·exact⟨fun t ht=>Bbo (Z1.1 X.things t ht),by omega⟩
  ·exact Av2 (fun x hx=>by have:=A8s X.tags x hx;omega) (by omega)
 ·have g:=A1m h;rw[Awk h s];exact⟨Ht (by show _≤n.Vi;omega) (by show n.Vi≤_;omega),Ht (by show _≤n.C9;omega) (by show n.C9≤_;omega),Au9,Au9,Au9,Au9,Au9,Au9,Awj,Au9,Au9,A12,Awj⟩
theorem Brf{c:Ea}{x:Az}(h:Alb c x=true):A1f x:=by
 obtain⟨b1,b2,b3,b4,b5,b6⟩:=F2 (Aq1 h).1;obtain⟨h1,h2,h3,h4,h5⟩:=Aq1 h;unfold Alb at h;simp only[Z4,Acw,decide_eq_true_eq]at h;obtain⟨_,_,_,t1,t2,_⟩:=h;refine⟨Ht (by omega) (by omega),Ht (by omega) (by omega),?_,?_,Ht (by omega) (by omega)⟩
 ·exact Av2 (fun y hy=>by have:=A8s t2 y hy;omega) (by omega)
 ·exact Av2 (fun y hy=>by have:=Axu h4 y hy;omega) (by grind [Asi])
theorem A8t{α:Type}[Inhabited α]{l:List α}{P:α->Prop}(h: ∀k,0≤k∧k<(l.length:Int)->P (gt l k)): ∀x∈l,P x:=by
 intro x hx;obtain⟨i,hi,e⟩:=List.mem_iff_getElem.1 hx
 have:=h (i:Int) ⟨by omega,by omega⟩
 grind [V2]
theorem Dy.ww{w:C5}{E:Int}{n:Nat}(G:Dy w E n)(hE:E≤1000000000)(hn:n≤1000000000):Aid w:=by
 have I:=G.inv
 have P:=Air.1 I.pool;obtain⟨b1,b2,b3,b4,b5,b6⟩:=F2 I.conf
 have h1:=Bre w
 have h2:=Bfd w
 have h3:=G.wt
 have hm:=Au4 (a:=w.fC.Ay) (b:=w.fC.G8) (m:=12) (n:=16) (by omega) b1.2 (by omega) b2.2
 refine⟨Bn2 I.conf,⟨⟨G.mem,by have:=P.mem;omega⟩,?_,?_⟩,⟨A8t fun k hk=>A3f (I.node k hk) (G.ep k hk) hE,by have:=I.len;omega⟩,⟨fun x hx=>Brf (I.wrec x hx).1,by omega⟩,?_⟩
 ·exact Av2 (A8t fun k hk=>by have:=(P.one k (by grind [A16.st])).1;omega) (by have:=P.st;omega)
 ·refine Av2 (A8t fun k hk=> ?_) (by have:=P.own;omega)
  obtain⟨o1,o2,o3,o4⟩:=P.one k (by grind [A16.own])
  omega
 ·exact Av2 (fun x hx=>by have:=A8s I.log x hx;omega) (by omega)
theorem Bbp{w:C5}(I:Inv w)(p:Dn)(q:List Az)(lg:List Int)(hp:A16 w.fC p)
  (ho: ∀c,0≤c∧c<w.fC.Ay->(gt p.Vi c=1 ↔ gt w.fP.Vi c=1)∧gt p.N8 c=gt w.fP.N8 c)
  (hl: ∀k,0≤k∧k<(w.fL.length:Int)->Arq w.fC p.N7 (gt w.fL k)=true)
  (hq:Ax9 q=Ax9 w.fQ) (hs:slL q=slL w.fQ)
  (hr: ∀x∈q,Alb w.fC x=true∧Ank (C5.mk w.fC p w.fL q lg) x=true)
  (hn:(chL q).Nodup) (hc: ∀c,c∈chL q ↔ (0≤c∧c<w.fC.Ay)∧gt p.Vi c=2)
  (hg:lg.all (fun x=>inB x 0 255)=true):Inv (C5.mk w.fC p w.fL q lg):=by
 refine⟨Air.2 hp,I.len,I.node,fun k hk c=> ?_,fun k hk=> ?_,?_,hr,hn,hc,?_,?_,hg⟩
 ·rw[I.own k hk c]
  grind
 all_goals grind [Inv.thing,Inv.forest,Inv.sln,Inv.sli]
theorem gt0{α:Type}[Inhabited α](x:α)(l:List α):gt (x::l) 0=x:=rfl
theorem A38{mem:List Int}{a n:Nat}:Aqu ((mem.drop a).take n)=true ↔ ∀j:Nat,a≤j->j<a+n->j<mem.length->gt mem (j:Int)=0:=by
 unfold Aqu;rw[Z1];constructor
 ·intro h j h1 h2 h3;rw[V2 h3]
  have:mem[j]∈(mem.drop a).take n:=by
   rw[List.mem_iff_getElem];refine⟨j - a,by grind,?_⟩
   grind
  grind
 ·intro h x hx;obtain⟨i,hi,e⟩:=List.mem_iff_getElem.1 hx;simp only[List.length_take,List.length_drop]at hi;simp only[List.getElem_take,List.getElem_drop]at e
  have:=h (a+i) (by omega) (by omega) (by omega)
  rw[V2 (by omega),e]at this
  grind
def A0o (mem:List Int)(a n:Nat):List Int:=(List.range mem.length).map fun(j:Nat)=>if a≤j∧j<a+n then(0:Int)else gt mem (j:Int)
theorem Azf (mem:List Int)(a n:Nat):(A0o mem a n).length=mem.length:=by simp[A0o]
theorem A4r{mem:List Int}{a n j:Nat}(h:j<mem.length):gt (A0o mem a n) (j:Int)=if a≤j∧j<a+n then 0 else gt mem (j:Int):=by
 grind [V2,A0o]
theorem Bn3 (mem:List Int)(a:Nat):A0o mem a 0=mem:=by
 refine List.ext_getElem (Azf _ _ _) fun j h1 h2=> ?_
 have:=A4r (mem:=mem) (a:=a) (n:=0) h2
 simp_all[if_neg,V2]
theorem Bn4{mem:List Int}{a i:Nat}:(A0o mem a i).set (a+i) 0=A0o mem a (i+1):=by
 refine List.ext_getElem (by grind [Azf]) fun j h1 h2=> ?_
 rw[Z49,Azf]at h1
 have e1:=A4r (mem:=mem) (a:=a) (n:=i) h1
 have e2:=A4r (mem:=mem) (a:=a) (n:=i+1) h1;rw[V2 (by grind)]at e1 e2
 grind
theorem Bi2{mem:List Int}{a n b m:Nat}(h:Aqu ((mem.drop b).take m)=true):Aqu (((A0o mem a n).drop b).take m)=true:=by
 grind [A38,Azf,A4r]
theorem Bdd{mem:List Int}{a d n m:Nat}(h:Aqu ((mem.drop a).take d)=true)(hm:m≤d+n):Aqu (((A0o mem (a+d) n).drop a).take m)=true:=by
 grind [A38,Azf,A4r]
section
variable {K:Nat} (hK:281474976710656≤K)
include hK
theorem Bi3{mem:List Int}(hl:mem.length≤1000000){a n:Int}(ha:0≤a∧a≤1000000)(hn:0≤n)(hs:a+n≤mem.length):A1s K mem a n=some (A0o mem a.toNat n.toNat):=by
 have hm:=V1;obtain⟨A,rfl⟩: ∃A:Nat,a=A:=⟨a.toNat,by omega⟩
 obtain⟨N,rfl⟩: ∃N:Nat,n=N:=⟨n.toNat,by omega⟩
 simp only[Int.toNat_natCast]
 have key: ∀(f i:Nat),i≤N->N - i<f->Awu K mem A N f (A0o mem A i) ((A+i:Nat):Int)=some (A0o mem A N):=by
  intro f
  induction f with
  |zero=>omega
  |succ f ih=>
   intro i hi hf;rw[Awu]
   have e:An7 .i64 ((A+i:Nat):Int) A=i:=by unfold An7;grind [K0]
   rw[e]
   by_cases q:i=N
   ·grind
   ·rw[Ad7 (by omega),Ad7 (by omega),cond_true,cond_true,Azf,if_pos ⟨by omega,by omega⟩,Ad5 (by omega),Int.toNat_natCast,Bn4]
    grind
 unfold A1s;rw[Z38,if_pos ⟨by omega,by omega⟩,decide_eq_false (by omega),decide_eq_false (by omega)]
 simp only[cond_false]
 have:=key K 0 (by omega) (by omega)
 grind [Bn3]
end
theorem A0d{w:C5}(I:Inv w){x qs}(hq:w.fQ=x::qs):Alb w.fC x=true∧Ank w x=true:=by grind [Inv.wrec,List.mem_cons_self]
structure Bn5 (c:Ea)(x:Az):Prop where
 conf:Ahn c=true
 slot:0≤x.Bm∧x.Bm≤c.E6
 first:0≤x.Ef∧x.Ef≤c.E6
 ntag:x.Fi.length≤6
 tags: ∀y∈x.Fi,0≤y∧y≤255
 dist:Auk c x.Ay=true
 done:0≤x.Wz∧x.Wz≤c.G8 - 1
 zero:x.Ay=[]->x.Wz=0
theorem Awm{c:Ea}{x:Az}:Alb c x=true ↔ Bn5 c x:=by
 unfold Alb;simp only[Z4,Acw,decide_eq_true_eq,Bool.or_eq_true,beq_iff_eq,Z1];constructor
 ·rintro⟨a,b,c,d,e,f,g,h⟩;refine⟨a,b,c,by omega,e,f,g,fun q=> ?_⟩
  grind
 ·intro h;refine⟨h.conf,h.slot,h.first,by have:=h.ntag;omega,h.tags,h.dist,h.done,?_⟩
  by_cases q:x.Ay=[]
  ·exact .inr (h.zero q)
  simp_all[List.length_pos_iff]
def Bn6 (x:Az):Az:=Az.mk x.Bm x.Ef (x.Fi.take (x.Fi.length - 1)) x.Ay x.Wz
def A5y (w:C5)(x:Az)(qs:List Az):C5:=C5.mk w.fC w.fP w.fL (Bn6 x::qs) (w.Acy++[gt x.Fi ((x.Fi.length - 1:Nat):Int)])
theorem Bw7 (K:Nat){w:C5}{x:Az}{qs:List Az}(hq:w.fQ=x::qs)(h0:0<x.Fi.length)(h6:x.Fi.length≤6)(hl:w.Acy.length≤1000000000):Azt K w=some (A5y w x qs):=by
 have hm:=V1;unfold Azt;rw[hq,gt0]
 have e:An7 .i64 (x.Fi.length:Int) 1=((x.Fi.length - 1:Nat):Int):=by grind [sb1]
 rw[e,if_pos ⟨by omega,by simp⟩,if_pos ⟨by omega,by omega⟩,if_pos ⟨by grind,by grind⟩,if_pos ⟨by omega,by omega,by omega⟩,A6e,Z38,if_pos ⟨by grind,by grind⟩]
 rfl
theorem Bn7{l:List Int}{n:Nat}{P:Int->Prop}(h: ∀y∈l,P y): ∀y∈l.take n,P y:=by grind
theorem Brg{w:C5}(I:Inv w){x:Az}{qs:List Az}(hq:w.fQ=x::qs)(h0:0<x.Fi.length):Inv (A5y w x qs):=by
 have R:=Awm.1 (A0d I hq).1
 have e1:chL (Bn6 x::qs)=chL w.fQ:=by rw[hq];rfl
 refine Bbp I w.fP _ _ (Air.1 I.pool) (fun c _=>⟨Iff.rfl,rfl⟩) (fun k hk=>(I.thing k hk).2.2) (by rw[hq];rfl) (by rw[hq];rfl) (fun y hy=> ?_) (by rw[e1];exact I.chn) (fun c=>by grind [Inv.chi]) ?_
 ·rcases Eg.1 hy with e|e
  ·subst e;refine⟨Awm.2 ⟨R.conf,R.slot,R.first,?_,Bn7 R.tags,R.dist,R.done,R.zero⟩,(A0d I hq).2⟩
   have:=R.ntag
   show(x.Fi.take _).length≤6
   grind
  ·exact I.wrec y (by grind)
 ·rw[List.all_append,I.log]
  have:=R.tags _ (Aou (show x.Fi.length - 1<x.Fi.length by omega))
  simp[Acw,this]
def Aq2 (w:C5)(x:Az):Int:=if w.fC.G8<x.Wz+w.fC.E7 then w.fC.G8 else x.Wz+w.fC.E7
def Bbq (w:C5)(x:Az):List Int:=A0o w.fP.N7 (gt x.Ay 0*w.fC.G8+x.Wz).toNat (Aq2 w x - x.Wz).toNat
def A7c (w:C5)(x:Az):Dn:=Dn.mk (Bbq w x) (if Aq2 w x<w.fC.G8 then w.fP.Vi else w.fP.Vi.set (gt x.Ay 0).toNat 0) w.fP.N8
def A3l (w:C5)(x:Az):Az:=if Aq2 w x<w.fC.G8 then Az.mk x.Bm x.Ef x.Fi x.Ay (Aq2 w x)else Az.mk x.Bm x.Ef x.Fi (x.Ay.drop 1) 0
def A1n (w:C5)(x:Az)(qs:List Az):C5:=C5.mk w.fC (A7c w x) w.fL (A3l w x::qs) w.Acy
structure Btj (w:C5)(x:Az):Prop where
 rc:Bn5 w.fC x
 k:0≤gt x.Ay 0∧gt x.Ay 0<w.fC.Ay
 st:gt w.fP.Vi (gt x.Ay 0)=2
 at0:0≤gt x.Ay 0*w.fC.G8
 at1:gt x.Ay 0*w.fC.G8+w.fC.G8≤(w.fP.N7.length:Int)
 len:w.fP.N7.length≤192
 to:x.Wz<Aq2 w x∧Aq2 w x≤w.fC.G8
 zero:Aqu ((w.fP.N7.drop (gt x.Ay 0*w.fC.G8).toNat).take x.Wz.toNat)=true
theorem A6r{c:Ea}{p:Dn}(P:A16 c p):p.N7.length≤192:=by
 obtain⟨b1,b2,_⟩:=F2 P.conf
 have hm:=Au4 (a:=c.Ay) (b:=c.G8) (m:=12) (n:=16) (by omega) b1.2 (by omega) b2.2
 have:=P.mem;omega
theorem Bfe{w:C5}(I:Inv w){x:Az}{qs:List Az}(hq:w.fQ=x::qs)(hc:0<x.Ay.length):Btj w x:=by
 have R:=Awm.1 (A0d I hq).1
 have P:=Air.1 I.pool
 have hx:x∈w.fQ:=by grind
 have hm:gt x.Ay 0∈x.Ay:=Aou (i:=0) hc
 have h1:=(I.chi _).1 (Bbl hx hm);obtain⟨_,_,e3,e4⟩:=A2l I.conf P.mem h1.1.1 h1.1.2;obtain⟨b1,b2,b3,b4,b5,b6⟩:=F2 I.conf
 have hd:=R.done;refine⟨R,h1.1,h1.2,e3,e4,A6r P,?_,?_⟩
 ·grind [Aq2]
 ·have:=(A0d I hq).2
  grind [Ank]
section
variable {K:Nat} (hK:281474976710656≤K)
include hK
theorem Bde{w:C5}(hw:Azk w.fP)(hp:Au5 w.fC w.fP=true){x:Az}(X:Btj w x):Aw8 K w.fC w.fP (gt x.Ay 0) x.Wz=some (A7c w x,!decide (Aq2 w x<w.fC.G8)):=by
 obtain⟨b1,b2,b3,b4,b5,b6⟩:=F2 X.rc.conf
 have P:=Air.1 hp;obtain⟨e1,e2,e3,e4⟩:=A2l X.rc.conf P.mem X.k.1 X.k.2
 have hd:=X.rc.done
 have ht:=X.to
 have hl:=X.len
 have hk:=X.k
 have es:An6 .i64 x.Wz w.fC.E7=x.Wz+w.fC.E7:=by grind [An6,K0]
 have el:A0r K (x.Wz+w.fC.E7) w.fC.G8=some (Aq2 w x):=by
  unfold A0r Aq2
  grind
 have ea:An6 .i64 (gt x.Ay 0*w.fC.G8) x.Wz=gt x.Ay 0*w.fC.G8+x.Wz:=by grind [An6,K0]
 have en:An7 .i64 (Aq2 w x) x.Wz=Aq2 w x - x.Wz:=by grind [An7,K0]
 unfold Aw8;rw[A11 K hw,A60 hK,hp,Ane,Azo hK X.rc.conf,Acw.2 ⟨by omega,by omega⟩,Ane,A6j X.rc.conf,Acw.2 hd,es,el,e1,ea]
 simp only[Z0,cond_true,Bool.not_true,cond_false];rw[en,Bi3 hK (by omega) ⟨by omega,by omega⟩ (by omega) (by omega)]
 simp only[Z0,e2];rw[if_pos ⟨hk.1,by rw[P.st];exact hk.2⟩,X.st]
 simp only[bne_self_eq_false,cond_false];unfold A7c
 by_cases q:Aq2 w x<w.fC.G8
 ·rw[decide_eq_true q,if_pos q];rfl
 ·rw[decide_eq_false q,if_neg q];simp only[cond_false,Bool.not_false];rw[if_pos ⟨by omega,by omega,by show _≤((A0o _ _ _).length:Int);grind [Azf]⟩]
  have hz:Aqu (((A0o w.fP.N7 (gt x.Ay 0*w.fC.G8+x.Wz).toNat (Aq2 w x - x.Wz).toNat).drop (gt x.Ay 0*w.fC.G8).toNat).take (gt x.Ay 0*w.fC.G8+w.fC.G8 - gt x.Ay 0*w.fC.G8).toNat)=true:=by
   rw[show(gt x.Ay 0*w.fC.G8+x.Wz).toNat=(gt x.Ay 0*w.fC.G8).toNat+x.Wz.toNat by omega]
   exact Bdd X.zero (by omega)
  rw[A1w hK _ (by grind),hz]
  simp only[Z0,Bool.not_true,cond_false];rw[if_pos ⟨hk.1,by rw[P.st];exact hk.2⟩]
  rfl
theorem Brh{w:C5}(I:Inv w)(hw:Azk w.fP){x:Az}{qs:List Az}(hq:w.fQ=x::qs)(hc:0<x.Ay.length):Aye K w=some (A1n w x qs):=by
 have hm:=V1
 have X:=Bfe I hq hc
 have hlen:=Asi X.rc.conf X.rc.dist;obtain⟨b1,b2,b3,b4,b5,b6⟩:=F2 X.rc.conf
 have hd:=X.rc.done;unfold Aye;rw[hq,gt0,if_pos ⟨by omega,by simp⟩,if_pos ⟨by omega,by omega⟩,Bde hK hw I.pool X,Z0]
 simp only;unfold A1n A3l
 by_cases q:Aq2 w x<w.fC.G8
 ·rw[decide_eq_true q,if_pos q]
  have es:An6 .i64 x.Wz w.fC.E7=Aq2 w x:=by
   have ht:=X.to;unfold Aq2 at q ⊢;split at q
   ·omega
   ·rename_i r;rw[if_neg r];grind [An6,K0]
  grind
 grind
end
theorem A2u{c:Ea}{l:List Int}:Auk c l=true ↔ l.Nodup∧ ∀x∈l,0≤x∧x<c.Ay:=by
 constructor
 ·intro h;exact⟨Azr h,Axu h⟩
 ·rintro⟨h1,h2⟩;unfold Auk;rw[Z1];intro i hi;rw[List.mem_range]at hi;rw[Z4,Acw,V2 hi]
  have:=h2 _ (List.getElem_mem hi);refine⟨by omega,?_⟩
  simp_all[A47]
theorem Bi4{c:Ea}{l:List Int}{n:Nat}(h:Auk c l=true):Auk c (l.drop n)=true:=by
 rw[A2u]at h ⊢
 grind
theorem Bn8{w:C5}{x:Az}(h: ∀y∈w.fP.N7,0≤y∧y≤255): ∀y∈Bbq w x,0≤y∧y≤255:=by
 refine A8t fun k hk=> ?_;unfold Bbq at hk ⊢;rw[Azf]at hk;obtain⟨j,rfl⟩: ∃j:Nat,k=j:=⟨k.toNat,by omega⟩
 grind [A4r,Aou]
theorem Bn9{w:C5}(I:Inv w){x:Az}{qs:List Az}(hq:w.fQ=x::qs)(hc:0<x.Ay.length):Inv (A1n w x qs):=by
 have X:=Bfe I hq hc
 have P:=Air.1 I.pool
 have hk:=X.k
 have hd:=X.rc.done
 have ht:=X.to
 have hxq:x∈w.fQ:=by grind
 have hst: ∀c,0≤c∧c<w.fC.Ay->gt (A7c w x).Vi c=if c=gt x.Ay 0∧ ¬Aq2 w x<w.fC.G8 then 0 else gt w.fP.Vi c:=by
  intro c h
  show gt (if Aq2 w x<w.fC.G8 then w.fP.Vi else w.fP.Vi.set (gt x.Ay 0).toNat 0) c=_
  by_cases q:Aq2 w x<w.fC.G8
  ·grind
  ·rw[if_neg q,A2t hk.1 (by rw[P.st];exact h)]
   omega
 have hz: ∀b m,Aqu ((w.fP.N7.drop b).take m)=true->Aqu (((A7c w x).N7.drop b).take m)=true:=fun b m h=>Bi2 h
 have hN:(gt x.Ay 0*w.fC.G8+x.Wz).toNat=(gt x.Ay 0*w.fC.G8).toNat+x.Wz.toNat:=by have:=X.at0;omega
 have hall: ∀m:Nat,m≤(Aq2 w x).toNat->Aqu (((A7c w x).N7.drop (gt x.Ay 0*w.fC.G8).toNat).take m)=true:=by
  intro m h
  show Aqu (((A0o _ _ _).drop _).take m)=true;rw[hN];exact Bdd X.zero (by omega)
 have hlen:(A7c w x).N7.length=w.fP.N7.length:=Azf _ _ _
 have hcons:x.Ay=gt x.Ay 0::x.Ay.drop 1:=by
  cases h:x.Ay with
  |nil=>grind
  |cons a l=>rfl
 have hnd:=Azr X.rc.dist
 have hch:chL w.fQ=x.Ay++chL qs:=by rw[hq];rfl
 have hn:=I.chn;rw[hch]at hn
 have hchi:=I.chi;rw[hch]at hchi;unfold A1n;refine Bbp I (A7c w x) _ _ ⟨P.conf,by rw[hlen];exact P.mem,?_,P.own,fun c h=> ?_⟩ (fun c h=>⟨?_,rfl⟩) (fun k h=> ?_) ?_ ?_ (fun y hy=> ?_) ?_ (fun c=> ?_) I.log
 ·show((if Aq2 w x<w.fC.G8 then w.fP.Vi else w.fP.Vi.set (gt x.Ay 0).toNat 0).length:Int)=_
  grind [A16.st]
 ·obtain⟨p1,p2,p3,p4⟩:=P.one c h;rw[hst c h]
  show _∧(_->0≤gt w.fP.N8 c∧_)∧(_->gt w.fP.N8 c= -1)∧_
  by_cases q:c=gt x.Ay 0∧ ¬Aq2 w x<w.fC.G8
  ·rw[if_pos q];refine⟨by omega,fun f=>by omega,fun _=>p3 (by grind),fun _=> ?_⟩
   unfold Avv
   grind
  ·rw[if_neg q];exact⟨p1,p2,p3,fun f=>hz _ _ (p4 f)⟩
 ·grind
 ·have:=(I.thing k h).2.2;unfold Arq at this ⊢
  grind
 ·grind [A3l,Ax9]
 ·grind [A3l,slL]
 ·rcases Eg.1 hy with e|e
  ·subst e;unfold A3l
   by_cases q:Aq2 w x<w.fC.G8
   ·rw[if_pos q];refine⟨Awm.2 ⟨X.rc.conf,X.rc.slot,X.rc.first,X.rc.ntag,X.rc.tags,X.rc.dist,⟨by grind,by grind⟩,fun f=> ?_⟩,?_⟩
    ·grind
    ·unfold Ank
     grind
   ·rw[if_neg q];refine⟨Awm.2 ⟨X.rc.conf,X.rc.slot,X.rc.first,X.rc.ntag,X.rc.tags,?_,⟨Int.le_refl _,by grind⟩,fun _=>rfl⟩,?_⟩
    ·exact Bi4 X.rc.dist
    ·unfold Ank;rw[Bool.or_eq_true];exact .inr rfl
  ·obtain⟨a,b⟩:=I.wrec y (by grind)
   refine⟨a,?_⟩;unfold Ank at b ⊢
   grind
 ·show((A3l w x).Ay++chL qs).Nodup;unfold A3l
  grind
 ·show c∈(A3l w x).Ay++chL qs ↔ _;rw[hcons,Z45]at hn
  have hni:=(List.nodup_cons.1 hn).1
  have hci:=hchi c;rw[hcons,Z45,Eg]at hci;unfold A3l
  grind
end Go.Proofs.YtcdojenmonmcfaaGreat
