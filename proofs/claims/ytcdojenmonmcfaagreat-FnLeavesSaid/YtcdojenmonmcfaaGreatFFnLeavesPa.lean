/- The plain law for FnLeaves; no condition. -/
import Derived.Test.YtcdojenmonmcfaaGreatFFnLeavesTa
import Derived.Test.YtcdojenmonmcfaaGreatFFnLeavesW
set_option linter.all false
namespace Go.Proofs.YtcdojenmonmcfaaGreat
open Go.Eng Go.ChangeShapes Go.WideShapes Go.ChangeAt Go.RowKit
theorem Aep{i:Nat}(h:i≤140737488355328):An7 .i64 (i:Int) 1=((i+1:Nat):Int):=by
 unfold An7;rw[IntKind.wrap_i64];omega
theorem P2{α:Type}[Inhabited α]{l:List α}{i:Nat}(h:i<l.length):gt l (i:Int)=l[i]:=by
 unfold gt;simp[h]
theorem Apg{α:Type}[Inhabited α]{l:List α}{i:Nat}(h:i<l.length):gt l (i:Int)∈l:=by
 rw[P2 h];exact List.getElem_mem h
theorem Alb{α:Type}[Inhabited α]{l:List α}{i:Int}(h0:0≤i)(h:i<l.length):gt l i∈l:=by
 obtain⟨k,rfl⟩: ∃k:Nat,i=k:=⟨i.toNat,by omega⟩
 exact Apg (by omega)
theorem Ae4{i k:Nat}(h:i<k):decide ((i:Int)<(k:Int))=true:=by simp;omega
theorem Afn{i k:Nat}(h:k≤i):decide ((i:Int)<(k:Int))=false:=by simp;omega
theorem Bkv (a:List Int)(ha:a.length≤140737488355328)
  (L:Nat->Int->Option Bool) (hL: ∀n i,L (n+1) i=bif decide (i<(a.length:Int))then(if(0:Int)≤i∧i<(a.length:Int)then(if(0:Int)≤i∧i<(a.length:Int)then(bif (gt a i != gt a i)then some false else L n (An7 .i64 i 1))else none)else none)else some true):
  ∀(n i:Nat),i≤a.length->a.length - i<n->L n (i:Int)=some true:=by
 intro n
 induction n with
 |zero=>intro i _ h;omega
 |succ n ih=>
  intro i hi hn;rw[hL];rcases E4 i a.length with h|h
  ·rw[Ae4 h];simp only[cond_true];rw[if_pos ⟨by omega,by omega⟩,if_pos ⟨by omega,by omega⟩,Aep (by omega)]
   simp only[bne_self_eq_false,cond_false];exact ih (i+1) h (by omega)
  ·rw[Afn h];rfl
theorem Ht{n:Int}(h0: -9223372036854775808≤n)(h1:n≤9223372036854775807):IntKind.i64.wrap n=n:=by rw[IntKind.wrap_i64];omega
theorem A9q (n:Int): -9223372036854775808≤IntKind.i64.wrap n∧IntKind.i64.wrap n≤9223372036854775807:=by rw[IntKind.wrap_i64];omega
theorem cc{α:Type}(b:Bool)(x:α):(bif b then x else x)=x:=by cases b<;>rfl
theorem Arb{a b:Int}(h: ¬a=b):(a != b)=true:=by simpa using h
theorem Ah0{a b:Int}(h: ¬a=b):(a==b)=false:=by simpa using h
def inB (x a b:Int):Bool:=decide (a≤x∧x≤b)
theorem Ael{x a b:Int}:inB x a b=true ↔ a≤x∧x≤b:=by unfold inB;exact decide_eq_true_iff
theorem A6n{x a b:Int}:inB x a b=false ↔ ¬(a≤x∧x≤b):=by unfold inB;exact decide_eq_false_iff_not
theorem Ak9 (b:Bool)(x:Bool):(bif b then some x else some false)=some (b&&x):=by cases b<;>rfl
theorem A9r (b:Bool)(x:Bool):(bif b then some false else some x)=some (!b&&x):=by cases b<;>rfl
theorem A00 (b:Bool)(x:Bool):(bif b then some true else some x)=some (b||x):=by cases b<;>rfl
theorem Abt{α:Type}(b:Bool)(x y:α):(bif !b then x else y)=(bif b then y else x):=by cases b<;>rfl
theorem Ajc{i n:Nat}(h:i<n):((0:Int)≤(i:Int)∧(i:Int)<(n:Int)):=⟨by omega,by omega⟩
theorem Bt0{α:Type}(l:List α)(q:α->Bool)(fin:Option Bool)(L:Nat->Int->Option Bool)
  (hs: ∀n (i:Nat) (h:i<l.length),L (n+1) (i:Int)=bif q l[i]then L n ((i+1:Nat):Int)else some false)
  (he: ∀n,L (n+1) (l.length:Int)=fin):
  ∀(n i:Nat),i≤l.length->l.length - i<n->L n (i:Int)=bif (l.drop i).all q then fin else some false:=by
 intro n
 induction n with
 |zero=>intro i _ h;omega
 |succ n ih=>
  intro i hi hn;rcases E4 i l.length with h|h
  ·rw[hs n i h,Z47 h,Fw];cases q l[i]with
   |false=>rfl
   |true=>rw[cond_true,ih (i+1) h (by omega)];rfl
  ·obtain rfl:i=l.length:=by omega
   rw[he,List.drop_length];rfl
theorem Asp{α:Type}{K:Nat}(hK:281474976710656≤K)(l:List α)(hl:l.length≤140737488355328)(q:α->Bool)(fin:Option Bool)(L:Nat->Int->Option Bool)
  (hs: ∀n (i:Nat) (h:i<l.length),L (n+1) (i:Int)=bif q l[i]then L n ((i+1:Nat):Int)else some false)
  (he: ∀n,L (n+1) (l.length:Int)=fin):L K 0=bif l.all q then fin else some false:=by
 have:=Bt0 l q fin L hs he K 0 (Z21 _) (by omega)
 simpa using this
theorem Ap7{K:Nat}(hK:281474976710656≤K)(N:Nat)(hl:N≤140737488355328)(q:Nat->Bool)(fin:Option Bool)(L:Nat->Int->Option Bool)
  (hs: ∀n (i:Nat) (h:i<N),L (n+1) (i:Int)=bif q i then L n ((i+1:Nat):Int)else some false)
  (he: ∀n,L (n+1) (N:Int)=fin):L K 0=bif (List.range N).all q then fin else some false:=by
 refine Asp hK (List.range N) (by simpa using hl) q fin L (fun n i h=> ?_) (fun n=> ?_)
 ·rw[List.getElem_range];exact hs n i (by simpa using h)
 ·rw[List.length_range];exact he n
theorem Bkw{α:Type}(l:List α)(q:α->Bool)(L:Nat->Int->Int->Option Int)
  (hs: ∀n (i:Nat) (h:i<l.length),L (n+1) (l.length:Int) (i:Int)=bif q l[i]then some (i:Int)else L n (l.length:Int) ((i+1:Nat):Int))
  (he: ∀n,L (n+1) (l.length:Int) (l.length:Int)=some (-1)):
  ∀(n i:Nat),i≤l.length->l.length - i<n-> ∃r,L n (l.length:Int) (i:Int)=some r∧decide (r≥0)=(l.drop i).any q:=by
 intro n
 induction n with
 |zero=>intro i _ h;omega
 |succ n ih=>
  intro i hi hn;rcases E4 i l.length with h|h
  ·rw[hs n i h,Z47 h,List.any_cons];cases q l[i]with
   |true=>exact⟨_,rfl,by simp⟩
   |false=>rw[cond_false,Z52];exact ih (i+1) h (by omega)
  ·obtain rfl:i=l.length:=by omega
   exact⟨_,he n,by simp⟩
theorem A3w{α:Type}[Inhabited α]{K:Nat}(hK:281474976710656≤K)(l:List α)(hl:l.length≤140737488355328)(f:α->Option Bool)(q:α->Bool)(hf: ∀x∈l,f x=some (q x))(L:Nat->Int->Int->Option Int)
  (hL: ∀n N i,L (n+1) N i=bif decide (i<N)then(if(0:Int)≤i∧i<(l.length:Int)then(f (gt l i)).bind (fun r=>bif r then some i else L n N (An7 .i64 i 1))else none)else some (-1)):
  ((L K (l.length:Int) 0).bind fun r=>some (decide (r≥0)))=some (l.any q):=by
 obtain⟨r,h1,h2⟩:=Bkw l q L (fun n i h=>by
  rw[hL,Ae4 h,cond_true,if_pos (Ajc h),hf _ (Apg h),P2 h,Z0,Aep (by omega)]) (fun n=>by rw[hL,Afn (Z9 _),cond_false]) K 0 (Z21 _) (by omega)
 rw[show((0:Nat):Int)=0 from rfl]at h1
 rw[h1,Z0,h2,Z55]
theorem A26{K:Nat}(hK:281474976710656≤K)(l:List Int)(x:Int)(hl:l.length≤140737488355328):Anw K l x=some (l.contains x):=by
 unfold Anw Axr;obtain⟨r,h1,h2⟩:=Bkw l (fun y=>x==y) (Apc K l x) (fun n i h=>by
  rw[Apc,Ae4 h,cond_true,if_pos (Ajc h),P2 h,Aep (by omega)]) (fun n=>by rw[Apc,Afn (Z9 _),cond_false]) K 0 (Z21 _) (by omega)
 rw[show((0:Nat):Int)=0 from rfl]at h1
 rw[h1,Z0,h2,Z55,List.contains_eq_any_beq]
theorem A01{K:Nat}(hK:281474976710656≤K)(l:List Int)(x:Int)(hl:l.length≤140737488355328):Aqf K l x=some (l.contains x):=by
 unfold Aqf
 have h: ∀(n i:Nat),i≤l.length->l.length - i<n->Avi K l x n (i:Int)=some ((l.drop i).contains x):=by
  intro n
  induction n with
  |zero=>intro i _ h;omega
  |succ n ih=>
   intro i hi hn;rw[Avi];rcases E4 i l.length with h|h
   ·rw[Ae4 h,cond_true,if_pos (Ajc h),P2 h,Aep (by omega),ih (i+1) h (by omega),Z47 h,List.contains_cons,A00,Bool.beq_comm]
   ·rw[Afn h,cond_false,Z48 h];rfl
 have:=h K 0 (Z21 _) (by omega)
 simpa using this
theorem Aoh (K:Nat)(x a b:Int):Gy K x a b=some (inB x a b):=by
 unfold Gy inB
 by_cases h:a≤x
 ·rw[decide_eq_true (show x≥a from h)];simp[h]
 ·rw[decide_eq_false (show ¬x≥a from h)];simp[h]
theorem Awe (K:Nat)(x a b:Int):Abc K x a b=some (inB x a b):=Aoh K x a b
def Ai0 (c:Eb):Bool:=inB c.Az 2 12&&(inB c.Hi 8 16&&(inB c.Fb 2 8&&(inB c.G8 1 8&&(inB c.Fc 1 16&&inB c.Hj 1 4))))
theorem Arc (K:Nat)(c):Anx K c=some (Ai0 c):=by
 simp only[Anx,Aoh,Z0,Ak9,Ai0]
theorem A27 (K:Nat)(c):Auu K c=some (Ai0 c):=Arc K c
theorem Gx{c:Eb}(h:Ai0 c=true):(2≤c.Az∧c.Az≤12)∧(8≤c.Hi∧c.Hi≤16)∧(2≤c.Fb∧c.Fb≤8)∧(1≤c.G8∧c.G8≤8)∧(1≤c.Fc∧c.Fc≤16)∧(1≤c.Hj∧c.Hj≤4):=by
 simpa only[Ai0,Z4,Ael]using h
def Amn (c:Eb):Int:=bif Ai0 c then c.Az*c.Hi else 0
theorem Au9{a b m n:Int}(h1:0≤a)(h2:a≤m)(h3:0≤b)(h4:b≤n):0≤a*b∧a*b≤m*n:=
 ⟨Int.mul_nonneg h1 h3,Int.mul_le_mul h2 h4 h3 (by omega)⟩
theorem At6 (K:Nat)(c):Arj K c=some (Amn c):=by
 unfold Arj Amn;rw[Arc,Z0,Abt];cases h:Ai0 c with
 |false=>rfl
 |true=>
  obtain⟨h1,h2,_⟩:=Gx h
  have:=Au9 (a:=c.Az) (b:=c.Hi) (m:=12) (n:=16) (by omega) h1.2 (by omega) h2.2
  simp only[cond_true,An9];rw[Ht (by omega) (by omega)]
theorem A2h (K:Nat)(c):Ayo K c=some (Amn c):=At6 K c
theorem A02 (c:Eb):0≤Amn c∧Amn c≤192:=by
 unfold Amn;cases h:Ai0 c with
 |false=>simp
 |true=>
  obtain⟨h1,h2,_⟩:=Gx h
  have:=Au9 (a:=c.Az) (b:=c.Hi) (m:=12) (n:=16) (by omega) h1.2 (by omega) h2.2
  simp only[cond_true];omega
section
variable {K:Nat} (hK:281474976710656≤K)
include hK
def Ap3 (l:List Int):Bool:=l.all (fun x=>x==0)
theorem A1p (l:List Int)(hl:l.length≤140737488355328):Asl K l=some (Ap3 l):=by
 unfold Asl;rw[Asp hK l hl (fun x=>x==0) (some true) (Arz K l) (fun n i h=>by
  rw[Arz,Ae4 h,cond_true,if_pos (Ajc h),P2 h,Aep (by omega)]
  cases e:l[i]==0<;>simp[bne,e]) (fun n=>by rw[Arz,Afn (Z9 _),cond_false])]
 unfold Ap3;cases l.all (fun x=>x==0)<;>rfl
theorem A28 (l:List Int)(hl:l.length≤140737488355328):Auv K l=some (Ap3 l):=by
 unfold Auv Ale Ani;rw[A3w hK l hl (Az6 K) (fun x=>x != 0) (fun x _=>rfl) (Ahe K l) (fun n N i=>rfl)];simp only[Z0,Ap3,List.not_any_eq_all_not,Z7]
 congr 1
 funext x
 simp[bne]
end
def Att (a b:Int):Int:=bif inB a 0 1000000000&&inB b 1 1000000000 then(a+b - 1) / b else 0
theorem A0q (K:Nat)(a b:Int):Ax9 K a b=some (Att a b):=by
 unfold Ax9 Att;rw[Aoh,Aoh,Z0];cases h1:inB a 0 1000000000 with
 |false=>rfl
 |true=>
  cases h2:inB b 1 1000000000 with
  |false=>rfl
  |true=>
   rw[Ael]at h1 h2;simp only[Z0,cond_true,Bool.not_true,cond_false,Bool.and_self];rw[if_pos (by omega)]
   unfold Alp An8 An7;rw[Ht (n:=a+b) (by omega) (by omega),Ht (n:=a+b - 1) (by omega) (by omega)]
   rw[Int.tdiv_eq_ediv_of_nonneg (by omega)]
   have h3:(a+b - 1) / b≤a+b - 1:=Int.ediv_le_self _ (by omega)
   have h4:0≤(a+b - 1) / b:=Int.ediv_nonneg (by omega) (by omega)
   rw[Ht (by omega) (by omega)]
def At7 (c:Eb)(mem:List Int)(k:Int):List Int:=(mem.drop (k*c.Hi).toNat).take c.Hi.toNat
def Azu (c:Eb)(p:Dp)(k:Nat):Bool:=
 inB (gt p.Vt k) 0 2&&((bif gt p.Vt k==1 then inB (gt p.Pn k) 0 (c.Fb - 1)else gt p.Pn k== -1)&&(bif gt p.Vt k==0 then Ap3 (At7 c p.Pm k)else true))
def Ava (c:Eb)(p:Dp):Bool:=
 Ai0 c&&((p.Pm.length:Int)==Amn c&&((p.Vt.length:Int)==c.Az&&((p.Pn.length:Int)==c.Az&&(List.range c.Az.toNat).all (Azu c p))))
theorem Atu{c:Eb}{p:Dp}(h:Ava c p=true):Ai0 c=true∧(p.Pm.length:Int)=c.Az*c.Hi∧(p.Vt.length:Int)=c.Az∧(p.Pn.length:Int)=c.Az∧ ∀k,k<c.Az.toNat->Azu c p k=true:=by
 simp only[Ava,Z4,beq_iff_eq,Z1,List.mem_range]at h;obtain⟨h1,h2,h3,h4,h5⟩:=h;refine⟨h1,?_,h3,h4,h5⟩;rw[h2,Amn,h1];rfl
theorem A12{c:Eb}(hc:Ai0 c=true){mem:List Int}(hm:(mem.length:Int)=c.Az*c.Hi){k:Int}(h0:0≤k)(h1:k<c.Az):
  An9 .i64 k c.Hi=k*c.Hi∧An9 .i64 (An7 .i64 k 1) c.Hi=k*c.Hi+c.Hi∧0≤k*c.Hi∧k*c.Hi+c.Hi≤(mem.length:Int):=by
 obtain⟨b1,b2,_⟩:=Gx hc
 have m1:=Au9 (a:=k) (b:=c.Hi) (m:=12) (n:=16) h0 (by omega) (by omega) b2.2
 have e2:(k+1)*c.Hi=k*c.Hi+c.Hi:=by rw[Int.add_mul,Int.one_mul]
 have m2:(k+1)*c.Hi≤c.Az*c.Hi:=Int.mul_le_mul_of_nonneg_right (by omega) (by omega)
 rw[e2]at m2;refine⟨?_,?_,m1.1,by omega⟩
 ·unfold An9;exact Ht (by omega) (by omega)
 ·unfold An9 An7;rw[Ht (n:=k+1) (by omega) (by omega),e2,Ht (by omega) (by omega)]
section
variable {K:Nat} (hK:281474976710656≤K)
include hK
theorem A61{c:Eb}(hc:Ai0 c=true){p:Dp}(hm:(p.Pm.length:Int)=c.Az*c.Hi){k:Int}(h0:0≤k)(h1:k<c.Az):Asd K p c k=some (At7 c p.Pm k):=by
 obtain⟨e1,e2,e3,e4⟩:=A12 hc hm h0 h1;obtain⟨b1,b2,_⟩:=Gx hc;unfold Asd;rw[e1,e2,if_pos ⟨e3,by omega,e4⟩]
 unfold At7;rw[show k*c.Hi+c.Hi - k*c.Hi=c.Hi by omega]
theorem A5y (c:Eb)(p:Dp):Awm K c p=some (Ava c p):=by
 unfold Awm;rw[Arc,At6];simp only[Z0];cases hc:Ai0 c with
 |false=>simp[Ava,hc]
 |true=>
 obtain⟨b1,b2,b3,_⟩:=Gx hc
 have hby:Amn c=c.Az*c.Hi:=by rw[Amn,hc];rfl
 simp only[cond_true,Ava,hc,Z30,bne];cases h1:(p.Pm.length:Int)==Amn c with
 |false=>rfl
 |true=>
 cases h2:(p.Vt.length:Int)==c.Az with
 |false=>rfl
 |true=>
 cases h3:(p.Pn.length:Int)==c.Az with
 |false=>rfl
 |true=>
 rw[beq_iff_eq]at h1 h2 h3
 have hN:((c.Az.toNat:Nat):Int)=c.Az:=by omega
 simp only[Bool.not_true,cond_false,Z30];rw[Ap7 hK c.Az.toNat (by omega) (Azu c p) (some true) (fun n i=>Anc K c n i p.Pm p.Vt p.Pn) (fun n i h=> ?_) (fun n=> ?_)]
 ·cases (List.range c.Az.toNat).all (Azu c p)<;>rfl
 ·obtain⟨e1,e2,e3,e4⟩:=A12 hc (h1.trans hby) (k:=(i:Int)) (by omega) (by omega)
  have hl:(List.take (i*c.Hi+c.Hi - i*c.Hi).toNat (List.drop (i*c.Hi).toNat p.Pm)).length≤140737488355327:=by simp;omega
  have hs:An8 .i64 c.Fb 1=c.Fb - 1:=by unfold An8;rw[Ht (by omega) (by omega)]
  have hck:List.take (i*c.Hi+c.Hi - i*c.Hi).toNat (List.drop (i*c.Hi).toNat p.Pm)=At7 c p.Pm i:=by
   unfold At7;rw[show(i:Int)*c.Hi+c.Hi - i*c.Hi=c.Hi by omega]
  simp only[Anc,Ar0,Aw1];rw[e1,e2,Aep (by omega),decide_eq_true (show(i:Int)<c.Az by omega),cond_true,if_pos ⟨by omega,by omega⟩,Aoh,Aoh,hs,A1p hK _ (by omega),hck]
  simp only[Z0,bne,show((0:Int)≤(i:Int)∧(i:Int)<(p.Vt.length:Int))=True from eq_true ⟨by omega,by omega⟩,show((0:Int)≤(i:Int)∧(i:Int)<(p.Pn.length:Int))=True from eq_true ⟨by omega,by omega⟩,if_true,if_pos (show(0:Int)≤i*c.Hi∧(i:Int)*c.Hi≤i*c.Hi+c.Hi∧(i:Int)*c.Hi+c.Hi≤(p.Pm.length:Int) from⟨e3,by omega,e4⟩)]
  unfold Azu;cases inB (gt p.Vt i) 0 2<;>cases (gt p.Vt (i:Int)==1)<;>cases inB (gt p.Pn i) 0 (c.Fb - 1)<;>cases (gt p.Pn (i:Int)== -1)<;>cases (gt p.Vt (i:Int)==0)<;>cases Ap3 (At7 c p.Pm i)<;>rfl
 ·show Anc K c (n+1) _ _ _ _=_;rw[Anc,hN,decide_eq_false (by omega),cond_false]
theorem Bbi (c:Eb)(p:Dp):Azq K c p=some (Ava c p):=by
 unfold Azq;rw[A27,A2h];simp only[Z0];cases hc:Ai0 c with
 |false=>simp[Ava,hc]
 |true=>
 obtain⟨b1,b2,b3,_⟩:=Gx hc
 have hby:Amn c=c.Az*c.Hi:=by rw[Amn,hc];rfl
 simp only[cond_true,Ava,hc,Z30,bne];cases h1:(p.Pm.length:Int)==Amn c with
 |false=>rfl
 |true=>
 cases h2:(p.Vt.length:Int)==c.Az with
 |false=>rfl
 |true=>
 cases h3:(p.Pn.length:Int)==c.Az with
 |false=>rfl
 |true=>
 rw[beq_iff_eq]at h1 h2 h3
 have hN:((c.Az.toNat:Nat):Int)=c.Az:=by omega
 simp only[Bool.not_true,cond_false,Z30];rw[Ap7 hK c.Az.toNat (by omega) (Azu c p) (some true) (fun n i=>Ak7 K c n p.Vt (p.Vt.length:Int) i p.Pm p.Vt p.Pn) (fun n i h=> ?_) (fun n=> ?_)]
 ·cases (List.range c.Az.toNat).all (Azu c p)<;>rfl
 ·have hs:An8 .i64 c.Fb 1=c.Fb - 1:=by unfold An8;rw[Ht (by omega) (by omega)]
  have hl:(At7 c p.Pm i).length≤140737488355327:=by unfold At7;simp;omega
  simp only[Ak7,Aq0,Axg];rw[A61 hK hc (h1.trans hby) (by omega) (by omega),Aep (by omega),decide_eq_true (show(i:Int)<(p.Vt.length:Int)by omega),cond_true,if_pos ⟨by omega,by omega⟩,Awe,Awe,hs]
  simp only[Z0,A28 hK _ (show(At7 c p.Pm i).length≤140737488355328 by omega),bne,show((0:Int)≤(i:Int)∧(i:Int)<(p.Pn.length:Int))=True from eq_true ⟨by omega,by omega⟩,if_true]
  unfold Azu;cases inB (gt p.Vt i) 0 2<;>cases (gt p.Vt (i:Int)==1)<;>cases inB (gt p.Pn i) 0 (c.Fb - 1)<;>cases (gt p.Pn (i:Int)== -1)<;>cases (gt p.Vt (i:Int)==0)<;>cases Ap3 (At7 c p.Pm i)<;>rfl
 ·show Ak7 K c (n+1) _ _ _ _ _ _=_;rw[Ak7,hN,decide_eq_false (by omega),cond_false]
end
def Axm (c:Eb)(t:Bd):Prop:=Ai0 c=true∧1≤t.Aj0∧0≤t.fAt∧t.fAt+t.Aj0≤Amn c
instance (c t):Decidable (Axm c t):=by unfold Axm;infer_instance
def Ap4 (c:Eb)(t:Bd):Bool:=
 decide (Axm c t)&&(bif t.Aj1==0 then decide (t.Aj0≤c.Hi)&&(t.fAt / c.Hi==(t.fAt+t.Aj0 - 1) / c.Hi)else decide (t.Aj0>c.Hi)&&(t.Aj1==Att t.Aj0 c.Hi&&t.fAt % c.Hi==0))
theorem A62 (K:Nat){c:Eb}{t:Bd}(h:Axm c t):
  (bif (t.Aj1==0)then(bif (decide (t.Aj0≤c.Hi))then(if c.Hi≠(0:Int)then(if c.Hi≠(0:Int)then some ((Alp .i64 t.fAt c.Hi)==(Alp .i64 (An8 .i64 (An7 .i64 t.fAt t.Aj0) 1) c.Hi))else none)else none)else some false)else((Apm K c t.Aj0).bind fun r2=>(bif r2 then((Anh K c t.Aj0).bind fun r3=>(bif (t.Aj1==r3)then(if c.Hi≠(0:Int)then some ((Int.tmod t.fAt c.Hi)==0)else none)else some false))else some false)))=some (Ap4 c t):=by
 have hd:decide (Axm c t)=true:=decide_eq_true h;obtain⟨hc,h1,h2,h3⟩:=h
 have hb:=A02 c;obtain⟨b1,b2,_⟩:=Gx hc;unfold Ap4 Apm Anh;rw[hd,if_pos (by omega),if_pos (by omega),A0q]
 have e1:An8 .i64 (An7 .i64 t.fAt t.Aj0) 1=t.fAt+t.Aj0 - 1:=by
  unfold An8 An7;rw[Ht (n:=t.fAt+t.Aj0) (by omega) (by omega),Ht (by omega) (by omega)]
 have e2: ∀x:Int,0≤x->x≤192->Alp .i64 x c.Hi=x / c.Hi:=by
  intro x h0 hx;unfold Alp;rw[Int.tdiv_eq_ediv_of_nonneg h0]
  have h3:x / c.Hi≤x:=Int.ediv_le_self _ h0
  have h4:0≤x / c.Hi:=Int.ediv_nonneg h0 (by omega)
  rw[Ht (by omega) (by omega)]
 rw[e1,e2 _ h2 (by omega),e2 _ (by omega) (by omega),Int.tmod_eq_emod_of_nonneg h2]
 simp only[Z0,if_pos (show c.Hi≠0 by omega)]
 cases t.Aj1==0<;>cases decide (t.Aj0≤c.Hi)<;>cases decide (t.Aj0>c.Hi)<;>cases t.Aj1==Att t.Aj0 c.Hi<;>rfl
theorem Bbj{c:Eb}{t:Bd}(h: ¬Axm c t):Ap4 c t=false:=by
 unfold Ap4;rw[decide_eq_false h];rfl
theorem A4n (K:Nat)(c:Eb)(t:Bd):As4 K c t=some (Ap4 c t):=by
 have hb:=A02 c
 by_cases h:Axm c t
 ·rw[←A62 K h];obtain⟨hc,h1,h2,h3⟩:=h;unfold As4;rw[At6,Z0,Ah0 (by omega),decide_eq_false (by omega),decide_eq_false (by omega),decide_eq_false (by omega)]
  unfold An8;rw[Ht (by omega) (by omega),decide_eq_false (show ¬t.Aj0>Amn c - t.fAt by omega)]
  simp only[cond_false]
  try rfl
 ·rw[Bbj h];unfold As4;rw[At6,Z0]
  by_cases g0:Amn c=0
  ·rw[g0];rfl
  ·have hc:Ai0 c=true:=by
    cases hc:Ai0 c with
    |true=>rfl
    |false=>exact absurd (by unfold Amn;rw[hc];rfl) g0
   rw[Ah0 g0,cond_false]
   by_cases g1:t.Aj0<1
   ·rw[decide_eq_true g1];rfl
   ·by_cases g2:t.fAt<0
    ·rw[decide_eq_false g1,decide_eq_true g2];rfl
    ·by_cases g3:t.fAt>Amn c
     ·rw[decide_eq_false g1,decide_eq_false g2,decide_eq_true g3];rfl
     ·rw[decide_eq_false g1,decide_eq_false g2,decide_eq_false g3];unfold An8;rw[Ht (by omega) (by omega),decide_eq_true (show t.Aj0>Amn c - t.fAt from ?_)]
      ·rfl
      ·refine Classical.byContradiction fun g4=>h ⟨hc,by omega,by omega,by omega⟩
theorem A4o (K:Nat)(c:Eb)(t:Bd):Atn K c t=some (Ap4 c t):=by
 have hb:=A02 c
 by_cases h:Axm c t
 ·rw[←A62 K h];obtain⟨hc,h1,h2,h3⟩:=h;unfold Atn;rw[A2h,Z0,decide_eq_false (by omega),decide_eq_false (by omega),decide_eq_false (by omega)]
  unfold An8;rw[Ht (by omega) (by omega),decide_eq_false (show ¬t.fAt>Amn c - t.Aj0 by omega)]
  simp only[cond_false]
  try rfl
 ·rw[Bbj h];unfold Atn;rw[A2h,Z0]
  by_cases g1:t.Aj0≤0
  ·rw[decide_eq_true g1];rfl
  ·by_cases g2:t.fAt<0
   ·rw[decide_eq_false g1,decide_eq_true g2];rfl
   ·by_cases g3:t.Aj0>Amn c
    ·rw[decide_eq_false g1,decide_eq_false g2,decide_eq_true g3];rfl
    ·rw[decide_eq_false g1,decide_eq_false g2,decide_eq_false g3]
     have hc:Ai0 c=true:=by
      cases hc:Ai0 c with
      |true=>rfl
      |false=>exfalso;unfold Amn at g3;rw[hc]at g3;simp only[cond_false]at g3;omega
     unfold An8;rw[Ht (by omega) (by omega),decide_eq_true (show t.fAt>Amn c - t.Aj0 from ?_)]
     ·rfl
     ·refine Classical.byContradiction fun g4=>h ⟨hc,by omega,by omega,by omega⟩
theorem A5h{α:Type}(l:List α)(i:Nat):(l.drop (0:Int).toNat).take ((i:Int) - 0).toNat=l.take i:=by simp
theorem Bbk{i n:Nat}(h:i≤n):((0:Int)≤0∧(0:Int)≤(i:Int)∧(i:Int)≤(n:Int)):=⟨by omega,by omega,by omega⟩
def At2 (c:Eb)(l:List Int):Bool:=(List.range l.length).all (fun i=>inB (gt l i) 0 (c.Az - 1)&& !(l.take i).contains (gt l i))
def A4p (n:Au):Bool:=
 n.S5==0&&(n.fUp==0&&(n.S6==0&&(n.Eg==0&&(n.S7==0&&(n.S8==0&&((n.Az.length:Int)==0&&(n.Ade==0&&(n.S9==0&&((n.Ga.length:Int)==0&&(n.Fo.length:Int)==0)))))))))
theorem Bgk (K:Nat)(n):A1l K n=some (A4p n):=by
 simp only[A1l,Ak9,A4p]
theorem Bgl{K:Nat}(hK:1≤K)(l:List Int):Ajp K l []=some ((l.length:Int)==0):=by
 obtain⟨k,rfl⟩: ∃k,K=k+1:=⟨K - 1,by omega⟩
 cases l with
 |nil=>unfold Ajp;rw[Ajb];rfl
 |cons x l=>unfold Ajp;rw[Arb (by simp only[Xf,List.length_nil];omega),cond_true,Ah0 (by simp only[Xf];omega)]
theorem Bdd{K:Nat}(hK:1≤K)(l:List Bd):Anl K l []=some ((l.length:Int)==0):=by
 obtain⟨k,rfl⟩: ∃k,K=k+1:=⟨K - 1,by omega⟩
 cases l with
 |nil=>unfold Anl;rw[Apf];rfl
 |cons x l=>unfold Anl;rw[Arb (by simp only[Xf,List.length_nil];omega),cond_true,Ah0 (by simp only[Xf];omega)]
theorem Bgm{K:Nat}(hK:1≤K)(n):A1o K n=some (A4p n):=by
 unfold A1o Az7;simp only[beq_self_eq_true,cond_true,Bgl hK,Bdd hK,Z0,Ak9,A4p]
def A4q (c:Eb)(n:Au):Bool:=bif n.Ade==0 then n.S9==0 else n.Az.contains (An8 .i64 n.Ade 1)&&inB n.S9 0 c.Hi
def A63 (c:Eb)(n:Au):Bool:=
 (inB n.fUp 0 c.Fb&&(inB n.Eg 0 c.Fb&&(inB n.S7 0 c.Fb&&inB n.S8 0 c.Fb)))&&((!decide (n.S5<0)&& !decide (n.S6<0))&&((At2 c n.Az&&A4q c n)&&((decide ((n.Ga.length:Int)≤12)&&decide ((n.Fo.length:Int)≤6))&&(n.Fo.all (fun x=>inB x 0 255)&&n.Ga.all (Ap4 c)))))
def Aq2 (c:Eb)(n:Au):Bool:=Ai0 c&&(inB n.Vt 0 3&&(inB n.Dc 1 c.Hj&&(bif n.Vt != 1 then A4p n else A63 c n)))
section
variable {K:Nat} (hK:281474976710656≤K)
include hK
theorem Ay7{c:Eb}(hc:Ai0 c=true):An8 .i64 c.Az 1=c.Az - 1:=by
 obtain⟨b1,_⟩:=Gx hc;unfold An8;rw[Ht (by omega) (by omega)]
theorem A35{c:Eb}(hc:Ai0 c=true)(l:List Int)(hl:l.length≤140737488355327):Aup K c l=some (At2 c l):=by
 unfold Aup;rw[Ap7 hK l.length (by omega) (fun i=>inB (gt l i) 0 (c.Az - 1)&& !(l.take i).contains (gt l i)) (some true) (fun n i=>Aps K c l n l (l.length:Int) i) (fun n i h=> ?_) (fun n=> ?_)]
 ·unfold At2;cases (List.range l.length).all _<;>rfl
 ·have hp:(l.take i).length≤140737488355328:=by simp;omega
  simp only[Aps];rw[Ae4 h,cond_true,if_pos (Ajc h),Awe,if_pos (Bbk (by omega)),A5h,A26 hK _ _ hp,Aep (by omega),Ay7 hK hc]
  simp only[Z0];cases inB (gt l i) 0 (c.Az - 1)<;>cases (l.take i).contains (gt l i)<;>rfl
 ·show Aps K c l (n+1) _ _ _=_;rw[Aps,Afn (Z9 _),cond_false]
theorem A8g{c:Eb}(hc:Ai0 c=true)(n:Au)(hl:n.Az.length≤140737488355327):Aw3 K c n=some (At2 c n.Az&&A4q c n):=by
 unfold Aw3;rw[Ap7 hK n.Az.length (by omega) (fun i=>inB (gt n.Az i) 0 (c.Az - 1)&& !(n.Az.take i).contains (gt n.Az i)) (some (A4q c n)) (fun k i=>Apj K c k i n.Vt n.Dc n.S5 n.fUp n.S6 n.Eg n.S7 n.S8 n.Az n.Ade n.S9 n.Ga n.Fo) (fun k i h=> ?_) (fun k=> ?_)]
 ·rw[Ak9];rfl
 ·have hp:(n.Az.take i).length≤140737488355328:=by simp;omega
  simp only[Apj];rw[Ae4 h,cond_true,if_pos (Ajc h),Aoh,if_pos (Bbk (by omega)),A5h,A01 hK _ _ hp,Aep (by omega),Ay7 hK hc]
  simp only[Z0,if_pos (Ajc h)];cases inB (gt n.Az i) 0 (c.Az - 1)<;>cases (n.Az.take i).contains (gt n.Az i)<;>rfl
 ·show Apj K c (k+1) _ _ _ _ _ _ _ _ _ _ _ _ _ _=_;rw[Apj,Afn (Z9 _),cond_false,A01 hK _ _ (by omega),Aoh]
  unfold A4q;simp only[Z0,Ak9];cases n.Ade==0<;>rfl
theorem A1x (l:List Int)(hl:l.length≤140737488355328):Ar3 K l=some (l.all (fun x=>inB x 0 255)):=by
 unfold Ar3 Ak8 Al9;rw[A3w hK l hl (Au7 K) (fun x=> !inB x 0 255) (fun x _=>by simp[Au7,Awe]) (Ahc K l) (fun n N i=>rfl)]
 simp only[Z0,List.not_any_eq_all_not,Bool.not_not]
theorem Avv (c:Eb)(n:Au)(h1:n.Az.length≤140737488355327)(h2:n.Ga.length≤140737488355327)(h3:n.Fo.length≤140737488355327):Aqg K c n=some (Aq2 c n):=by
 unfold Aqg;rw[Arc,Bgk];simp only[Z0,Aoh];cases hc:Ai0 c with
 |false=>simp[Aq2,hc]
 |true=>
 rw[A8g hK hc n h1]
 have hA:Aqw K n.Fo K 0=some (n.Fo.all (fun x=>inB x 0 255)):=by
  rw[Asp hK n.Fo (by omega) (fun x=>inB x 0 255) (some true) (Aqw K n.Fo) (fun k i h=> ?_) (fun k=> ?_)]
  ·cases n.Fo.all (fun x=>inB x 0 255)<;>rfl
  ·rw[Aqw,Ae4 h,cond_true,if_pos (Ajc h),P2 h,Aoh,Aep (by omega),Z0,Abt]
  ·rw[Aqw,Afn (Z9 _),cond_false]
 have hB:Apy K c K 0 n.Vt n.Dc n.S5 n.fUp n.S6 n.Eg n.S7 n.S8 n.Az n.Ade n.S9 n.Ga n.Fo=some (n.Fo.all (fun x=>inB x 0 255)&&n.Ga.all (Ap4 c)):=by
  rw[Asp hK n.Ga (by omega) (Ap4 c) (some (n.Fo.all (fun x=>inB x 0 255))) (fun k i=>Apy K c k i n.Vt n.Dc n.S5 n.fUp n.S6 n.Eg n.S7 n.S8 n.Az n.Ade n.S9 n.Ga n.Fo) (fun k i h=> ?_) (fun k=> ?_)]
  ·rw[Ak9,Bool.and_comm]
  ·simp only[Apy];rw[Ae4 h,cond_true,if_pos (Ajc h),P2 h,A4n,Aep (by omega),Z0,Abt]
  ·show Apy K c (k+1) _ _ _ _ _ _ _ _ _ _ _ _ _ _=_;rw[Apy,Afn (Z9 _),cond_false,hA]
 rw[hB]
 have e12:decide ((n.Ga.length:Int)>12)= !decide ((n.Ga.length:Int)≤12):=by rw[←decide_not];congr 1;simp
 have e6:decide ((n.Fo.length:Int)>6)= !decide ((n.Fo.length:Int)≤6):=by rw[←decide_not];congr 1;simp
 simp only[Z0,cond_true,e12,e6,Abt,Ak9,A9r];unfold Aq2 A63;rw[hc];cases n.Vt != 1 with
 |true=>simp only[cond_true,Ak9,Z30]
 |false=>
  simp only[cond_false,Ak9,Z30,Z7]
  ac_rfl
theorem Bbl (c:Eb)(n:Au)(h1:n.Az.length≤140737488355327)(h2:n.Ga.length≤140737488355327)(h3:n.Fo.length≤140737488355327):Azr K c n=some (Aq2 c n):=by
 unfold Azr;rw[A27,Bgm (by omega)]
 simp only[Z0,Awe];cases hc:Ai0 c with
 |false=>simp[Aq2,hc]
 |true=>
 have hT:Aiz K n.Ga c=some (n.Ga.any (fun t=> !Ap4 c t)):=
  A3w hK n.Ga (by omega) (fun t=>Axh K t c) (fun t=> !Ap4 c t) (fun x _=>by simp[Axh,A4o]) (Afi K n.Ga c) (fun n N i=>rfl)
 have hJ:Aq1 K c n.Ga n.Fo=some ((decide ((n.Ga.length:Int)≤12)&&decide ((n.Fo.length:Int)≤6))&&(n.Fo.all (fun x=>inB x 0 255)&&n.Ga.all (Ap4 c))):=by
  unfold Aq1;rw[hT,A1x hK _ (by omega)]
  simp only[Z0,Ak9,List.not_any_eq_all_not,Bool.not_not,Z7]
  ac_rfl
 obtain⟨_,b2,_⟩:=Gx hc
 have hB:Ap1 K c K ([n.fUp,n.Eg,n.S7,n.S8]:List Int) (([n.fUp,n.Eg,n.S7,n.S8]:List Int).length:Int) 0 n.Vt n.Dc n.S5 n.fUp n.S6 n.Eg n.S7 n.S8 n.Az n.Ade n.S9 n.Ga n.Fo=some (A63 c n):=by
  rw[Asp hK ([n.fUp,n.Eg,n.S7,n.S8]:List Int) (by simp) (fun x=>inB x 0 c.Fb) (some ((!decide (n.S5<0)&& !decide (n.S6<0))&&((At2 c n.Az&&A4q c n)&&((decide ((n.Ga.length:Int)≤12)&&decide ((n.Fo.length:Int)≤6))&&(n.Fo.all (fun x=>inB x 0 255)&&n.Ga.all (Ap4 c)))))) (fun k i=>Ap1 K c k ([n.fUp,n.Eg,n.S7,n.S8]:List Int) (([n.fUp,n.Eg,n.S7,n.S8]:List Int).length:Int) i n.Vt n.Dc n.S5 n.fUp n.S6 n.Eg n.S7 n.S8 n.Az n.Ade n.S9 n.Ga n.Fo) (fun k i h=> ?_) (fun k=> ?_)]
  ·unfold A63;rw[Ak9];simp only[Fw,List.all_nil,Bool.and_true]
  ·simp only[Ap1];rw[Ae4 h,cond_true,if_pos (Ajc h),P2 h,Awe,Aep (by simp at h ⊢;omega),Z0,Abt]
  ·show Ap1 K c (k+1) _ _ _ _ _ _ _ _ _ _ _ _ _ _ _ _=_;rw[Ap1,Afn (Z9 _),cond_false,hJ,A35 hK hc _ h1,A26 hK _ _ (by omega),Awe]
   simp only[Z0,bne,Abt,Ak9,A9r];unfold A4q
   have hz:(n.S9==0)=true->inB n.S9 0 c.Hi=true:=by
    intro h;rw[beq_iff_eq]at h;rw[Ael];omega
   cases e0:n.Ade==0 with
   |true=>
    simp only[cond_true,Ak9,A9r,Bool.not_not,Abt,cond_false];cases e1:n.S9==0 with
    |true=>rw[hz e1];simp only[Z30,Bool.and_true];simp only[Z7];ac_rfl
    |false=>cases inB n.S9 0 c.Hi<;>cases decide (n.S5<0)<;>cases decide (n.S6<0)<;>cases At2 c n.Az<;>rfl
   |false=>
    simp only[cond_false,Ak9,A9r,Z7]
    ac_rfl
 rw[hB];simp only[cond_true,Abt,Ak9];unfold Aq2;rw[hc];cases n.Vt != 1<;>simp only[cond_true,cond_false,Ak9,Z30]
end
theorem Bez{α β:Type}(l:List α)(q:α->Bool)(fin bad:Option β)(L:Nat->Int->Option β)
  (hs: ∀n (i:Nat) (h:i<l.length),L (n+1) (i:Int)=bif q l[i]then L n ((i+1:Nat):Int)else bad)
  (he: ∀n,L (n+1) (l.length:Int)=fin):
  ∀(n i:Nat),i≤l.length->l.length - i<n->L n (i:Int)=bif (l.drop i).all q then fin else bad:=by
 intro n
 induction n with
 |zero=>intro i _ h;omega
 |succ n ih=>
  intro i hi hn;rcases E4 i l.length with h|h
  ·rw[hs n i h,Z47 h,Fw];cases q l[i]with
   |false=>rfl
   |true=>rw[cond_true,ih (i+1) h (by omega)];rfl
  ·obtain rfl:i=l.length:=by omega
   rw[he,List.drop_length];rfl
theorem Bgn{β:Type}{K:Nat}(hK:281474976710656≤K)(N:Nat)(hl:N≤140737488355328)(q:Nat->Bool)(fin bad:Option β)(L:Nat->Int->Option β)
  (hs: ∀n (i:Nat) (h:i<N),L (n+1) (i:Int)=bif q i then L n ((i+1:Nat):Int)else bad)
  (he: ∀n,L (n+1) (N:Int)=fin):L K 0=bif (List.range N).all q then fin else bad:=by
 have:=Bez (List.range N) q fin bad L (fun n i h=>by rw[List.getElem_range];exact hs n i (by simpa using h)) (fun n=>by rw[List.length_range];exact he n) K 0 (Z21 _) (by simp;omega)
 simpa using this
def A03 (t:Bd):Prop:=0≤t.fAt∧t.fAt≤200∧0≤t.Aj0∧t.Aj0≤200
theorem A13{c:Eb}{t:Bd}(h:Ap4 c t=true):A03 t∧Axm c t:=by
 have h1:Axm c t:=by
  unfold Ap4 at h;rw[Z4]at h;exact of_decide_eq_true h.1
 have hb:=A02 c;obtain⟨h2,h3,h4,h5⟩:=h1;exact⟨⟨h4,by omega,by omega,by omega⟩,h2,h3,h4,h5⟩
def Ank (a b:Bd):Bool:=decide (a.Aj0≤0∨b.Aj0≤0∨a.fAt+a.Aj0≤b.fAt∨b.fAt+b.Aj0≤a.fAt)
theorem Bbm (a b:Bd):Ank a b=Ank b a:=by
 unfold Ank;rw[decide_eq_decide];omega
theorem Bde (K:Nat){a b:Bd}(ha:A03 a)(hb:A03 b):A0e K a b=some (Ank a b):=by
 obtain⟨a1,a2,a3,a4⟩:=ha;obtain⟨b1,b2,b3,b4⟩:=hb;unfold A0e An8;rw[Ht (n:=b.fAt - a.fAt) (by omega) (by omega),Ht (n:=a.fAt - b.fAt) (by omega) (by omega)]
 simp only[A00]
 have: ∀x:Bool,x=Ank a b->some x=some (Ank a b):=fun x h=>by rw[h]
 by_cases h:a.fAt≤b.fAt
 ·rw[decide_eq_true h,cond_true,A00,A00];refine this _ ?_;rw[Bool.eq_iff_iff];simp only[Ank,Bool.or_eq_true,decide_eq_true_eq];omega
 ·rw[decide_eq_false h,cond_false,A00,A00];refine this _ ?_;rw[Bool.eq_iff_iff];simp only[Ank,Bool.or_eq_true,decide_eq_true_eq];omega
theorem A64 (K:Nat){a b:Bd}(ha:A03 a)(hb:A03 b):Ayr K a b=some (Ank a b):=by
 obtain⟨a1,a2,a3,a4⟩:=ha;obtain⟨b1,b2,b3,b4⟩:=hb;unfold Ayr Ayq An8;simp only[IntKind.wrap_u64]
 have: ∀x:Bool,x=Ank a b->some x=some (Ank a b):=fun x h=>by rw[h]
 by_cases h:a.fAt>b.fAt
 ·rw[decide_eq_true h,cond_true,A00,A00];refine this _ ?_;rw[Bool.eq_iff_iff];simp only[Ank,Bool.or_eq_true,decide_eq_true_eq];omega
 ·rw[decide_eq_false h,cond_false,A00,A00];refine this _ ?_;rw[Bool.eq_iff_iff];simp only[Ank,Bool.or_eq_true,decide_eq_true_eq];omega
def Apd (l:List Bd):Bool:=(List.range l.length).all (fun i=>(l.take i).all (fun o=>Ank o (gt l i)))
def Arw (c:Eb)(chunks:List Int)(t:Bd):Bool:=
 Ap4 c t&&(List.range ((t.fAt+t.Aj0 - 1) / c.Hi - t.fAt / c.Hi+1).toNat).all (fun j=>chunks.contains (t.fAt / c.Hi+(j:Int)))
theorem A8x{c:Eb}{t:Bd}(h:Ap4 c t=true):
  c.Hi≠0∧Alp .i64 t.fAt c.Hi=t.fAt / c.Hi∧Alp .i64 (An8 .i64 (An7 .i64 t.fAt t.Aj0) 1) c.Hi=(t.fAt+t.Aj0 - 1) / c.Hi∧0≤t.fAt / c.Hi∧t.fAt / c.Hi≤(t.fAt+t.Aj0 - 1) / c.Hi∧(t.fAt+t.Aj0 - 1) / c.Hi≤192:=by
 obtain⟨hs,hc,h1,h2,h3⟩:=A13 h
 have hb:=A02 c;obtain⟨b1,b2,_⟩:=Gx hc
 have e1:An8 .i64 (An7 .i64 t.fAt t.Aj0) 1=t.fAt+t.Aj0 - 1:=by
  unfold An8 An7;rw[Ht (n:=t.fAt+t.Aj0) (by omega) (by omega),Ht (by omega) (by omega)]
 have e2: ∀x:Int,0≤x->x≤192->Alp .i64 x c.Hi=x / c.Hi∧0≤x / c.Hi∧x / c.Hi≤192:=by
  intro x h0 hx
  have h3:x / c.Hi≤x:=Int.ediv_le_self _ h0
  have h4:0≤x / c.Hi:=Int.ediv_nonneg h0 (by omega)
  refine⟨?_,h4,by omega⟩
  unfold Alp;rw[Int.tdiv_eq_ediv_of_nonneg h0,Ht (by omega) (by omega)]
 obtain⟨x1,x2,x3⟩:=e2 t.fAt h2 (by omega)
 obtain⟨y1,y2,y3⟩:=e2 (t.fAt+t.Aj0 - 1) (by omega) (by omega)
 refine⟨by omega,x1,by rw[e1,y1],x2,Int.ediv_le_ediv (by omega) (by omega),y3⟩
theorem Bqt{a:Int}{j:Nat}(h0:0≤a)(h:a+j≤140737488355328):An7 .i64 (a+(j:Int)) 1=a+((j+1:Nat):Int):=by
 unfold An7;rw[Ht (by omega) (by omega)];omega
section
variable {K:Nat} (hK:281474976710656≤K)
include hK
theorem A8h (l:List Bd)(hl:l.length≤140737488355327)(hs: ∀t∈l,A03 t):Axa K l=some (Apd l):=by
 unfold Axa Apd;rw[Ap7 hK l.length (by omega) (fun i=>(l.take i).all (fun o=>Ank o (gt l i))) (some true) (fun n i=>Alg K l n i) (fun n i h=> ?_) (fun n=> ?_)]
 ·cases (List.range l.length).all _<;>rfl
 ·simp only[Alg];rw[Ae4 h,cond_true]
  have hlen:(l.take i).length=i:=by simp;omega
  rw[Asp hK (l.take i) (by omega) (fun o=>Ank o (gt l i)) (Alg K l n (An7 .i64 i 1)) (fun m j=>Apq K l i (Alg K l n) m j) (fun m j hj=> ?_) (fun m=> ?_)]
  ·rw[Aep (by omega)]
  ·have hj':j<i:=by omega
   simp only[Apq];rw[Ae4 hj',cond_true,if_pos (Ajc h),if_pos (Ajc (show j<l.length by omega)),Bde K (hs _ (Apg h)) (hs _ (Apg (show j<l.length by omega))),Z0,Abt,Aep (by omega),Bbm,List.getElem_take,P2 (show j<l.length by omega)]
  ·show Apq K l i _ (m+1) _=_;rw[Apq,hlen,Afn (Z9 _),cond_false]
 ·show Alg K l (n+1) _=_;rw[Alg,Afn (Z9 _),cond_false]
theorem A8i (l:List Bd)(hl:l.length≤140737488355327)(hs: ∀t∈l,A03 t):Axj K l=some (Apd l):=by
 unfold Axj Apd;rw[Ap7 hK l.length (by omega) (fun i=>(l.take i).all (fun o=>Ank o (gt l i))) (some true) (fun n i=>Apt K l n l (l.length:Int) i) (fun n i h=> ?_) (fun n=> ?_)]
 ·cases (List.range l.length).all _<;>rfl
 ·simp only[Apt]
  have hlen:(l.take i).length=i:=by simp;omega
  have hC:Ahh K (l.take i) (gt l i)=some ((l.take i).any (fun o=> !Ank o (gt l i))):=
   A3w hK (l.take i) (by omega) (fun t=>Au8 K t (gt l i)) (fun o=> !Ank o (gt l i)) (fun x hx=>by
    unfold Au8;rw[A64 K (hs _ (Zm hx)) (hs _ (Apg h))];rfl) (Aen K (l.take i) (gt l i)) (fun n N i=>rfl)
  rw[Ae4 h,cond_true,if_pos (Ajc h),if_pos (Bbk (by omega)),A5h,hC,Aep (by omega),Z0,List.any_eq_not_all_not,Abt]
  simp only[Bool.not_not]
 ·show Apt K l (n+1) _ _ _=_;rw[Apt,Afn (Z9 _),cond_false]
theorem A8j (c:Eb)(n:Au)(h1:n.Az.length≤140737488355327)(h2:n.Ga.length≤140737488355327):Axi K c n=some (n.Ga.all (Arw c n.Az)):=by
 unfold Axi
 have h1t: ∀t,Ase K t c n=some (!Arw c n.Az t):=by
  intro t;unfold Ase Arw;rw[A4o,Z0,Abt];cases ht:Ap4 c t with
  |false=>rfl
  |true=>
   obtain⟨d0,d1,d2,d3,d4,d5⟩:=A8x ht;rw[cond_true,if_pos d0,d1]
   have:=Bgn hK ((t.fAt+t.Aj0 - 1) / c.Hi - t.fAt / c.Hi+1).toNat (by omega) (fun j=>n.Az.contains (t.fAt / c.Hi+(j:Int))) (some false) (some true) (fun m j=>Ann K t c n m (t.fAt / c.Hi+j)) (fun m j hj=> ?_) (fun m=> ?_)
   ·simp only[Int.add_zero]at this;rw[this];cases (List.range _).all _<;>rfl
   ·simp only[Ann];rw[if_pos d0,d2,decide_eq_true (by omega),cond_true,A26 hK _ _ (by omega),Z0,Abt,Bqt d3 (by omega)]
   ·show Ann K t c n (m+1) _=_;rw[Ann,if_pos d0,d2,decide_eq_false (by omega),cond_false]
 have hC:Ahg K n.Ga c n=some (n.Ga.any (fun t=> !Arw c n.Az t)):=
  A3w hK n.Ga (by omega) (fun t=>Ase K t c n) (fun t=> !Arw c n.Az t) (fun x _=>h1t x) (Aem K n.Ga c n) (fun n N i=>rfl)
 rw[hC];simp only[Z0,List.not_any_eq_all_not,Bool.not_not]
theorem A8k (c:Eb)(n:Au)(h1:n.Az.length≤140737488355327)(h2:n.Ga.length≤140737488355327):Aw9 K c n=some (n.Ga.all (Arw c n.Az)):=by
 unfold Aw9;rw[Asp hK n.Ga (by omega) (Arw c n.Az) (some true) (fun k i=>Alf K c k i n.Vt n.Dc n.S5 n.fUp n.S6 n.Eg n.S7 n.S8 n.Az n.Ade n.S9 n.Ga n.Fo) (fun k i h=> ?_) (fun k=> ?_)]
 ·cases n.Ga.all _<;>rfl
 ·simp only[Alf];rw[Ae4 h,cond_true,if_pos (Ajc h),P2 h,A4n,Z0,Abt];unfold Arw;generalize n.Ga[i]=t;cases ht:Ap4 c t with
  |false=>rfl
  |true=>
   obtain⟨d0,d1,d2,d3,d4,d5⟩:=A8x ht;rw[cond_true,if_pos d0,d1,Z30]
   have:=Ap7 hK ((t.fAt+t.Aj0 - 1) / c.Hi - t.fAt / c.Hi+1).toNat (by omega) (fun j=>n.Az.contains (t.fAt / c.Hi+(j:Int))) (Alf K c k ((i+1:Nat):Int) n.Vt n.Dc n.S5 n.fUp n.S6 n.Eg n.S7 n.S8 n.Az n.Ade n.S9 n.Ga n.Fo)
    (fun m j=>App K c i n.Vt n.Dc n.S5 n.fUp n.S6 n.Eg n.S7 n.S8 n.Az n.Ade n.S9 n.Ga n.Fo (Alf K c k) m (t.fAt / c.Hi+j) t) (fun m j hj=> ?_) (fun m=> ?_)
   ·simp only[Int.add_zero]at this;exact this
   ·simp only[App];rw[if_pos d0,d2,decide_eq_true (by omega),cond_true,A01 hK _ _ (by omega),Z0,Abt,Bqt d3 (by omega)]
   ·show App K c i _ _ _ _ _ _ _ _ _ _ _ _ _ _ (m+1) _ _=_;rw[App,if_pos d0,d2,decide_eq_false (by omega),cond_false,Aep (by omega)]
 ·show Alf K c (k+1) _ _ _ _ _ _ _ _ _ _ _ _ _ _=_;rw[Alf,Afn (Z9 _),cond_false]
end
def wfi (x:Int):Prop:= -9223372036854775808≤x∧x≤9223372036854775807
def A14 (l:List Int):Prop:=(∀x∈l,wfi x)∧l.length*8≤140737488355327
def Bkx (l:List Int):Prop:=(∀x∈l,0≤x∧x≤255)∧l.length≤140737488355327
def ThingW (t:Bd):Prop:=wfi t.fAt∧wfi t.Aj0∧wfi t.Aj1
def A9s (l:List Bd):Prop:=(∀x∈l,ThingW x)∧l.length*24≤140737488355327
structure Aql (n:Au):Prop where
 st:wfi n.Vt
 gen:wfi n.Dc
 ep:wfi n.S5
 up:wfi n.fUp
 upEp:wfi n.S6
 first:wfi n.Eg
 next:wfi n.S7
 prev:wfi n.S8
 chunks:A14 n.Az
 cur:wfi n.Ade
 bump:wfi n.S9
 things:A9s n.Ga
 tags:A14 n.Fo
def Afd (l:List Au):Prop:=(∀x∈l,Aql x)∧l.length*152≤140737488355327
structure A04 (x:A1):Prop where
 slot:wfi x.Bk
 first:wfi x.Eg
 tags:A14 x.Fo
 chunks:A14 x.Az
 done:wfi x.Xa
def A9t (l:List A1):Prop:=(∀x∈l,A04 x)∧l.length*72≤140737488355327
structure ConfW (c:Eb):Prop where
 chunks:wfi c.Az
 size:wfi c.Hi
 slots:wfi c.Fb
 tax:wfi c.G8
 slice:wfi c.Fc
 gens:wfi c.Hj
structure Ay4 (p:Dp):Prop where
 mem:Bkx p.Pm
 st:A14 p.Vt
 own:A14 p.Pn
structure Ano (w:C8):Prop where
 c:ConfW w.fC
 p:Ay4 w.fP
 l:Afd w.fL
 q:A9t w.fQ
 log:A14 w.Adf
theorem Wx:140737488355328≤maxLen:=by unfold maxLen;omega
theorem A5i{α:Type}(x:Option α):Afh x x=x:=by simp[Afh]
theorem Aux (K:Nat){l:List Int}(h:l.length*8≤140737488355327):Aeo K l=some l:=by
 have hm:=Wx;unfold Aeo;rw[Zl,if_pos ⟨by omega,by omega⟩]
 cases l with
 |nil=>exact A5i _
 |cons x l=>rfl
theorem Bdf (K:Nat){l:List Int}(h:l.length≤140737488355327):Aso K l=some l:=by
 have hm:=Wx;unfold Aso;rw[Zl,if_pos ⟨by omega,by omega⟩]
 cases l with
 |nil=>exact A5i _
 |cons x l=>rfl
theorem Bbn (K:Nat){l:List Bd}(h:l.length*24≤140737488355327):Ap6 K l=some l:=by
 have hm:=Wx;unfold Ap6;rw[Zl,if_pos ⟨by omega,by omega⟩]
 cases l with
 |nil=>exact A5i _
 |cons x l=>rfl
theorem Be0{α:Type}(N:Nat)(q:Nat->Bool)(g:Nat->α)(L:Nat->List α->Int->Option (List α))
  (hs: ∀n v (i:Nat),i<N->v.length≤i->L (n+1) v (i:Int)=bif q i then L n (v++[g i]) ((i+1:Nat):Int)else L n v ((i+1:Nat):Int))
  (he: ∀n v,L (n+1) v (N:Int)=some v):
  ∀(n i:Nat) (v:List α),i≤N->v.length≤i->N - i<n->L n v (i:Int)=some (v++(((List.range N).drop i).filter q).map g):=by
 intro n
 induction n with
 |zero=>intro i v _ _ h;omega
 |succ n ih=>
  intro i v hi hv hn;rcases E4 i N with h|h
  ·rw[hs n v i h hv,Z47 (by simpa using h),List.getElem_range,List.filter_cons]
   cases hq:q i with
   |true=>
    rw[cond_true,ih (i+1) _ h (by simp;omega) (by omega)]
    simp
   |false=>
    rw[cond_false,ih (i+1) _ h (by omega) (by omega)]
    simp
  ·obtain rfl:i=N:=by omega
   rw[he,Z48 (by simp)];simp
def Atv (p:Dp)(k:Int):List Int:=((List.range (min p.Vt.length p.Pn.length)).filter (fun i:Nat=>gt p.Vt i==1&&gt p.Pn i==k)).map (fun i:Nat=>(i:Int))
theorem Bdg (p:Dp)(k:Int):(Atv p k).length≤min p.Vt.length p.Pn.length:=by
 unfold Atv;rw[Bu];exact Tg (List.length_filter_le _ _) (by simp)
theorem A1y (p:Dp)(k:Int):(Atv p k).Pairwise (fun a b=>a<b):=by
 unfold Atv;rw[List.pairwise_map];exact(List.Pairwise.filter _ List.pairwise_lt_range).imp fun h=>by omega
theorem A5z{l:List Int}: ∀ {o:List Int},o.Nodup->(∀x∈o,x∈l)->o.length=l.length->o.Perm l:=by
 intro o
 induction o generalizing l with
 |nil=>intro _ _ h;cases l with
  |nil=>exact .nil
  |cons _ _=>simp at h
 |cons x o ih=>
  intro hn hs hl
  have hx:x∈l:=hs x (by simp)
  rw[List.nodup_cons]at hn
  have h2:o.Perm (l.erase x):=ih hn.2 (fun y hy=>by
   have hne:y≠x:=fun e=>hn.1 (e ▸ hy);exact(List.mem_erase_of_ne hne).2 (hs y (by simp[hy]))) (by rw[List.length_erase_of_mem hx];simp at hl;omega)
  exact(List.Perm.cons x h2).trans (List.perm_cons_erase hx).symm
def A1q (p:Dp)(k:Int)(l:List Int):Bool:=(Atv p k).all (fun x=>l.contains x)&&((Atv p k).length:Int)==(l.length:Int)
theorem Bof (p:Dp)(k:Int)(l:List Int):decide (l.mergeSort (fun x y=>decide (x≤y))=Atv p k)=A1q p k l:=by
 rw[Bool.eq_iff_iff];unfold A1q;simp only[decide_eq_true_eq,Z4,Z1,List.contains_iff_mem,beq_iff_eq]
 have hp:=List.mergeSort_perm l (fun x y=>decide (x≤y));constructor
 ·intro e;rw[e]at hp;exact⟨fun x hx=>hp.mem_iff.1 hx,by have:=hp.length_eq;omega⟩
 ·rintro⟨h1,h2⟩
  have hn:(Atv p k).Nodup:=(A1y p k).imp fun h=>by omega
  have h3:=A5z hn h1 (by omega)
  refine List.Perm.eq_of_pairwise (le:=fun a b=>a≤b) (fun a b _ _ h1 h2=>by omega) ?_ ((A1y p k).imp fun h=>by omega) (hp.trans h3.symm)
  have:=List.pairwise_mergeSort (le:=fun x y:Int=>decide (x≤y)) (fun a b c h1 h2=>by simp at *;omega) (fun a b=>by simp;omega) l
  exact this.imp fun h=>by simpa using h
theorem Bgo{a b:List Int}(h:a.length=b.length):(List.range a.length).all (fun i=>gt a i==gt b i)=decide (a=b):=by
 rw[Bool.eq_iff_iff];simp only[Z1,List.mem_range,beq_iff_eq,decide_eq_true_eq];constructor
 ·intro h1;refine List.ext_getElem h fun i h2 h3=> ?_
  have:=h1 i h2
  rwa[P2 h2,P2 h3]at this
 ·rintro rfl _ _;rfl
section
variable {K:Nat} (hK:281474976710656≤K)
include hK
theorem Bgp (a b:List Int)(ha:a.length≤140737488355327):Ajp K a b=some (decide (a=b)):=by
 unfold Ajp
 by_cases h:a.length=b.length
 ·rw[show((a.length:Int) != (b.length:Int))=false by simp[h],cond_false,←Bgo h]
  rw[Ap7 hK a.length (by omega) (fun i=>gt a i==gt b i) (some true) (fun n i=>Ajb K a b n (a.length:Int) i) (fun n i hi=> ?_) (fun n=> ?_)]
  ·cases (List.range a.length).all _<;>rfl
  ·simp only[Ajb];rw[Ae4 hi,cond_true,if_pos (Ajc hi),if_pos (Ajc (show i<b.length by omega)),Aep (by omega),bne,Abt]
  ·show Ajb K a b (n+1) _ _=_;rw[Ajb,Afn (Z9 _),cond_false]
 ·rw[Arb (by omega),cond_true,decide_eq_false (fun e=>h (by rw[e]))]
theorem A4r (p:Dp)(k:Int)(h1:p.Vt.length*8≤140737488355327):Avg K p k=some (Atv p k):=by
 have hm:=Wx;unfold Avg
 have:=Be0 (min p.Vt.length p.Pn.length) (fun i:Nat=>gt p.Vt i==1&&gt p.Pn i==k) (fun i:Nat=>(i:Int)) (fun n v i=>Ang K k n v i p.Pm p.Vt p.Pn) (fun n v i hi hv=> ?_) (fun n v=> ?_) K 0 [] (Z21 _) (Z9 _) (by omega)
 ·simpa[Atv]using this
 ·have h2:(v++([(i:Int)]:List Int)).length=v.length+1:=by simp
  simp only[Ang,Asy];rw[Ae4 (by omega),Ae4 (by omega),cond_true,cond_true,if_pos (Ajc (by omega)),if_pos (Ajc (by omega)),Aep (by omega),if_pos ⟨by rw[h2];omega,by rw[h2];omega⟩]
  cases gt p.Vt (i:Int)==1<;>cases gt p.Pn (i:Int)==k<;>rfl
 ·show Ang K k (n+1) v _ _ _ _=_;rw[Ang];rcases Nat.le_total p.Vt.length p.Pn.length with h|h
  ·rw[Nat.min_eq_left h,Afn (Z9 _),cond_false]
  ·rw[Nat.min_eq_right h,Afn (Z9 p.Pn.length),cond_false,cc]
theorem A9u (p:Dp)(k:Int)(h1:p.Vt.length*8≤140737488355327):Ayp K p k=some (Atv p k):=by
 have hm:=Wx;unfold Ayp
 have e:Aaq (p.Vt.length:Int) (p.Pn.length:Int)=((min p.Vt.length p.Pn.length:Nat):Int):=by unfold Aaq;split<;>omega
 rw[e]
 have:=Be0 (min p.Vt.length p.Pn.length) (fun i:Nat=>gt p.Vt i==1&&gt p.Pn i==k) (fun i:Nat=>(i:Int)) (fun n v i=>Anj K k n v ((min p.Vt.length p.Pn.length:Nat):Int) i p.Pm p.Vt p.Pn) (fun n v i hi hv=> ?_) (fun n v=> ?_) K 0 [] (Z21 _) (Z9 _) (by omega)
 ·simpa[Atv]using this
 ·have h2:(v++([(i:Int)]:List Int)).length=v.length+1:=by simp
  simp only[Anj,Ato];rw[Ae4 hi,cond_true,if_pos (Ajc (by omega)),if_pos (Ajc (by omega)),Aep (by omega),if_pos ⟨by rw[h2];omega,by rw[h2];omega⟩]
  cases gt p.Vt (i:Int)==1<;>cases gt p.Pn (i:Int)==k<;>rfl
 ·show Anj K k (n+1) v _ _ _ _ _=_;rw[Anj,Afn (Z9 _),cond_false]
theorem A65 (w:C8)(k:Nat)(hk:k<w.fL.length)(h1:w.fP.Vt.length*8≤140737488355327)(h2:(gt w.fL k).Az.length≤140737488355327):Av5 K w k=some (A1q w.fP k (gt w.fL k).Az):=by
 unfold Av5;rw[A4r hK _ _ h1,Z0]
 have hl:=Bdg w.fP k;rw[Asp hK (Atv w.fP k) (by omega) (fun x=>(gt w.fL k).Az.contains x) (some (((Atv w.fP k).length:Int)==((gt w.fL k).Az.length:Int))) (fun n i=>Aov K k (Atv w.fP k) n i w.fC.Az w.fC.Hi w.fC.Fb w.fC.G8 w.fC.Fc w.fC.Hj w.fP.Pm w.fP.Vt w.fP.Pn w.fL w.fQ w.Adf) (fun n i hi=> ?_) (fun n=> ?_)]
 ·rw[Ak9];rfl
 ·simp only[Aov];rw[Ae4 hi,cond_true,if_pos (Ajc hk),if_pos (Ajc hi),A01 hK _ _ (by omega),Z0,Abt,Aep (by omega),P2 hi]
 ·show Aov K k (Atv w.fP k) (n+1) _ _ _ _ _ _ _ _ _ _ _ _ _=_;rw[Aov,Afn (Z9 _),cond_false,if_pos (Ajc hk)]
end
def Avb (c:Eb)(n:Au):Bd:=Bd.mk ((n.Ade - 1)*c.Hi+n.S9) (c.Hi - n.S9) 0
def Aru (c:Eb)(mem:List Int)(n:Au):Bool:=
 n.Ade==0||(Ap3 ((mem.drop (Avb c n).fAt.toNat).take (Avb c n).Aj0.toNat)&&n.Ga.all (fun t=>Ank t (Avb c n)))
theorem Bgq{c:Eb}{n:Au}(h:Aq2 c n=true)(h1:n.Vt=1):Ai0 c=true∧A63 c n=true:=by
 unfold Aq2 at h;simp only[Z4]at h;refine⟨h.1,?_⟩
 have:=h.2.2.2;rw[h1]at this;exact this
theorem A8y{c:Eb}{n:Au}(h:Aq2 c n=true)(h1:n.Vt≠1):A4p n=true:=by
 unfold Aq2 at h;simp only[Z4]at h
 have:=h.2.2.2;rw[Arb h1]at this;exact this
theorem Bt1{c:Eb}{n:Au}(hw:Aql n)(h:Aq2 c n=true)(h1:n.Ade≠0):n.Vt=1∧1≤n.Ade∧n.Ade≤c.Az∧0≤n.S9∧n.S9≤c.Hi:=by
 by_cases h2:n.Vt=1
 ·refine⟨h2,?_⟩;obtain⟨hc,hl⟩:=Bgq h h2;obtain⟨b1,_⟩:=Gx hc;unfold A63 at hl;simp only[Z4]at hl
  have hd:=hl.2.2.1.1
  have hcu:=hl.2.2.1.2;unfold A4q at hcu;rw[Ah0 h1,cond_false,Z4,List.contains_iff_mem,Ael]at hcu;obtain⟨i,hi,e⟩:=List.mem_iff_getElem.1 hcu.1;unfold At2 at hd;rw[Z1]at hd
  have:=hd i (by simpa using hi)
  rw[Z4,P2 hi,e,Ael]at this
  have h3:=this.1;obtain⟨w1,w2⟩:=hw.cur;unfold An8 at h3;rw[IntKind.wrap_i64]at h3;refine⟨by omega,by omega,hcu.2.1,hcu.2.2⟩
 ·have:=A8y h h2;unfold A4p at this;simp only[Z4,beq_iff_eq]at this;exact absurd this.2.2.2.2.2.2.2.1 h1
theorem Be1{c:Eb}{p:Dp}{n:Au}(hp:Ava c p=true)(hw:Aql n)(h:Aq2 c n=true)(h1:n.Ade≠0):
  An7 .i64 (An9 .i64 (An8 .i64 n.Ade 1) c.Hi) n.S9=(Avb c n).fAt∧An8 .i64 c.Hi n.S9=(Avb c n).Aj0∧An9 .i64 n.Ade c.Hi=(Avb c n).fAt+(Avb c n).Aj0∧A03 (Avb c n)∧(Avb c n).fAt+(Avb c n).Aj0≤(p.Pm.length:Int):=by
 obtain⟨h2,c1,c2,c3,c4⟩:=Bt1 hw h h1;obtain⟨hc,hm,_⟩:=Atu hp;obtain⟨b1,b2,_⟩:=Gx hc
 have m1:=Au9 (a:=n.Ade - 1) (b:=c.Hi) (m:=11) (n:=16) (by omega) (by omega) (by omega) b2.2
 have e2:n.Ade*c.Hi=(n.Ade - 1)*c.Hi+c.Hi:=by rw[Int.sub_mul,Int.one_mul];omega
 have m2:n.Ade*c.Hi≤c.Az*c.Hi:=Int.mul_le_mul_of_nonneg_right (by omega) (by omega)
 unfold Avb A03 An7 An8 An9;simp only;rw[Ht (n:=n.Ade - 1) (by omega) (by omega),Ht (n:=(n.Ade - 1)*c.Hi) (by omega) (by omega),Ht (n:=(n.Ade - 1)*c.Hi+n.S9) (by omega) (by omega),Ht (n:=c.Hi - n.S9) (by omega) (by omega),Ht (n:=n.Ade*c.Hi) (by omega) (by omega)]
 refine⟨rfl,rfl,by omega,⟨by omega,by omega,by omega,by omega⟩,by omega⟩
theorem A66{c:Eb}{l:List Bd}{ch:List Int}(h:l.all (Arw c ch)=true): ∀t∈l,A03 t∧1≤t.Aj0:=by
 intro t ht;rw[Z1]at h
 have:=h t ht;unfold Arw at this;rw[Z4]at this;obtain⟨h1,h2⟩:=A13 this.1;exact⟨h1,h2.2.1⟩
def A50 (w:C8)(k:Nat):Bool:=
 Aq2 w.fC (gt w.fL k)&&(A1q w.fP k (gt w.fL k).Az&&((gt w.fL k).Ga.all (Arw w.fC (gt w.fL k).Az)&&(Apd (gt w.fL k).Ga&&Aru w.fC w.fP.Pm (gt w.fL k))))
section
variable {K:Nat} (hK:281474976710656≤K)
include hK
theorem Ay8{l:List Int}(h:A14 l):l.length≤140737488355327:=by have:=h.2;omega
theorem Be2{l:List Bd}(h:A9s l):l.length≤140737488355327:=by have:=h.2;omega
theorem Bdh (w:C8)(k:Nat)(hk:k<w.fL.length)(hp:Ava w.fC w.fP=true)(hw:Aql (gt w.fL k))(hn:Aq2 w.fC (gt w.fL k)=true)(hs: ∀t∈(gt w.fL k).Ga,A03 t∧1≤t.Aj0):Axb K w k=some (Aru w.fC w.fP.Pm (gt w.fL k)):=by
 unfold Axb;rw[if_pos (Ajc hk)];unfold Aru
 by_cases h1:(gt w.fL k).Ade=0
 ·rw[h1];rfl
 ·rw[Ah0 h1,cond_false];obtain⟨e1,e2,e3,⟨s1,s2,s3,s4⟩,s5⟩:=Be1 hp hw hn h1;rw[e1,e3];generalize hr:Avb w.fC (gt w.fL k)=r at *;rcases (show r.Aj0=0∨1≤r.Aj0 by omega)with h2|h2
  ·rw[decide_eq_true (show r.fAt≥r.fAt+r.Aj0 by omega),cond_true,h2]
   have:(gt w.fL k).Ga.all (fun t=>Ank t r)=true:=by
    rw[Z1];intro t _;exact decide_eq_true (.inr (.inl (by omega)))
   rw[this];simp[Ap3]
  ·rw[decide_eq_false (show ¬r.fAt≥r.fAt+r.Aj0 by omega),cond_false]
   have hlt:=Be2 hK hw.things
   have hz:List.take (r.fAt+r.Aj0 - r.fAt).toNat (List.drop r.fAt.toNat w.fP.Pm)=List.take r.Aj0.toNat (List.drop r.fAt.toNat w.fP.Pm):=by rw[show r.fAt+r.Aj0 - r.fAt=r.Aj0 by omega]
   rw[Asp hK (gt w.fL k).Ga (by omega) (fun t=>Ank t r) (some (Ap3 (List.take r.Aj0.toNat (List.drop r.fAt.toNat w.fP.Pm)))) (fun m i=>Ans K m r.fAt (r.fAt+r.Aj0) i (gt w.fL k).Vt (gt w.fL k).Dc (gt w.fL k).S5 (gt w.fL k).fUp (gt w.fL k).S6 (gt w.fL k).Eg (gt w.fL k).S7 (gt w.fL k).S8 (gt w.fL k).Az (gt w.fL k).Ade (gt w.fL k).S9 (gt w.fL k).Ga (gt w.fL k).Fo w.fC.Az w.fC.Hi w.fC.Fb w.fC.G8 w.fC.Fc w.fC.Hj w.fP.Pm w.fP.Vt w.fP.Pn w.fL w.fQ w.Adf) (fun m i hi=> ?_) (fun m=> ?_)]
   ·rw[Ak9,Bool.and_comm];rfl
   ·simp only[Ans,Au4];obtain⟨⟨t1,t2,t3,t4⟩,t5⟩:=hs _ (Apg hi);rw[Ae4 hi,cond_true,if_pos (Ajc hi),Aep (by omega),←P2 hi]
    generalize gt (gt w.fL k).Ga i=t at *;unfold An7;rw[Ht (n:=t.fAt+t.Aj0) (by omega) (by omega)]
    unfold Ank
    by_cases g1:t.fAt<r.fAt+r.Aj0
    ·by_cases g2:t.fAt+t.Aj0>r.fAt
     ·rw[decide_eq_true g1,decide_eq_true g2,decide_eq_false (by omega)];rfl
     ·rw[decide_eq_true g1,decide_eq_false g2,decide_eq_true (by omega)];rfl
    ·rw[decide_eq_false g1,decide_eq_true (show t.Aj0≤0∨r.Aj0≤0∨t.fAt+t.Aj0≤r.fAt∨r.fAt+r.Aj0≤t.fAt by omega)];rfl
   ·show Ans K (m+1) _ _ _ _ _ _ _ _ _ _ _ _ _ _ _ _ _ _ _ _ _ _ _ _ _ _ _ _=_;rw[Ans,Afn (Z9 _),cond_false,if_pos ⟨s1,by omega,s5⟩,A1p hK _ (by simp;omega),hz,Z0]
theorem Bky (l:List Int)(h:A14 l):Ed K l=some (l.mergeSort fun x y=>decide (x≤y)):=by
 have:=h.2;unfold Ed;rw[if_pos (by omega)]
theorem A9v (w:C8)(hw:Ano w)(hp:Ava w.fC w.fP=true):Asf K w=some ((List.range w.fL.length).all (A50 w)):=by
 unfold Asf
 have hlL:=hw.l.2;rw[Ap7 hK w.fL.length (by omega) (A50 w) (some true) (fun m i=>Ahu K m w.fL (w.fL.length:Int) i w.fC.Az w.fC.Hi w.fC.Fb w.fC.G8 w.fC.Fc w.fC.Hj w.fP.Pm w.fP.Vt w.fP.Pn w.fL w.fQ w.Adf) (fun m k hk=> ?_) (fun m=> ?_)]
 ·cases (List.range w.fL.length).all _<;>rfl
 ·simp only[Ahu,Aq4];rw[show Eb.mk w.fC.Az w.fC.Hi w.fC.Fb w.fC.G8 w.fC.Fc w.fC.Hj=w.fC from rfl,show Dp.mk w.fP.Pm w.fP.Vt w.fP.Pn=w.fP from rfl]
  have hn:=hw.l.1 _ (Apg hk);unfold A50;generalize hN:gt w.fL k=n at*
  have l1:=Ay8 hK hn.chunks
  have l2:=Be2 hK hn.things
  have l3:=Ay8 hK hn.tags;rw[Ae4 hk,cond_true,if_pos (Ajc hk),Aux K hn.chunks.2,Z0,Bky hK _ hn.chunks,Z0,if_pos (List.length_mergeSort _),Bbl hK _ _ l1 l2 l3,Z0,A9u hK _ _ hw.p.st.2,Aep (by omega)]
  simp only[Z0];rw[Bgp hK _ _ (by rw[List.length_mergeSort];exact l1),Bof,A8j hK _ _ l1 l2]
  simp only[Z0];cases hb:Aq2 w.fC n with
  |false=>rfl
  |true=>
  cases A1q w.fP k n.Az with
  |false=>rfl
  |true=>
  cases hi:n.Ga.all (Arw w.fC n.Az)with
  |false=>rfl
  |true=>
  have hs:=A66 hi;rw[A8i hK _ l2 (fun t ht=>(hs t ht).1)];simp only[Z0,cond_true,Abt,Z30];cases Apd n.Ga with
  |false=>rfl
  |true=>
  simp only[cond_true,Z30];unfold Aru
  by_cases h1:n.Ade=0
  ·rw[h1];rfl
  ·rw[Ah0 h1,cond_false,Z52];obtain⟨e1,e2,e3,s,s5⟩:=Be1 hp hn hb h1
   have hmk:Bd.mk (Avb w.fC n).fAt (Avb w.fC n).Aj0 0=Avb w.fC n:=rfl;rw[e1,e2];simp only[hmk];generalize hr:Avb w.fC n=r at *;obtain⟨s1,s2,s3,s4⟩:=s
   have e4:An7 .i64 r.fAt r.Aj0=r.fAt+r.Aj0:=by unfold An7;rw[Ht (by omega) (by omega)]
   have hC:Ag4 K n.Ga r=some (n.Ga.any (fun t=> !Ank t r)):=
    A3w hK n.Ga (by omega) (fun t=>Aq3 K t r) (fun t=> !Ank t r) (fun x hx=>by
     unfold Aq3;rw[A64 K (hs _ hx).1 ⟨s1,s2,s3,s4⟩];rfl) (Adc K n.Ga r) (fun n N i=>rfl)
   rw[e4,if_pos ⟨s1,by omega,s5⟩,show r.fAt+r.Aj0 - r.fAt=r.Aj0 by omega,A28 hK _ (by simp;omega),hC,List.any_eq_not_all_not]
   simp only[Z0,Bool.not_not];cases Ap3 (List.take r.Aj0.toNat (List.drop r.fAt.toNat w.fP.Pm))<;>cases n.Ga.all (fun t=>Ank t r)<;>rfl
 ·show Ahu K (m+1) _ _ _ _ _ _ _ _ _ _ _ _ _ _ _=_;rw[Ahu,Afn (Z9 _),cond_false]
end
section
variable {K:Nat} (hK:281474976710656≤K)
theorem Aej{l:List Au}(w:Afd l):l.length≤140737488355327:=by have:=w.2;omega
theorem A05 (K:Nat){α:Type}{l:List α}(hl:l.length≤140737488355327)(k:Int):Gy K k 0 (An8 .i64 (l.length:Int) 1)=some (decide (0≤k∧k<(l.length:Int))):=by
 unfold Gy An8;rw[Ht (by omega) (by omega)]
 by_cases h:(0:Int)≤k
 ·rw[decide_eq_true (show k≥0 from h)]
  simp only[cond_true,Z7,decide_eq_decide];omega
 ·rw[decide_eq_false (show ¬k≥0 from h)]
  simp only[cond_false,Z7];exact(decide_eq_false (by omega)).symm
theorem Bgr (K:Nat){α:Type}{l:List α}(hl:l.length≤140737488355327)(k:Int):Abc K k 0 (An8 .i64 (l.length:Int) 1)=some (decide (0≤k∧k<(l.length:Int))):=A05 K hl k
theorem Auy (K:Nat){l:List Au}(hl:l.length≤140737488355327)(k:Int):Aiy K l k=some (decide (0≤k∧k<(l.length:Int))):=by
 unfold Aiy;rw[Bgr K hl];rfl
theorem Axs (K:Nat)(l:List Au)(k:Int):Aeq K l k=some (decide (1≤k∧k≤(l.length:Int))):=by
 unfold Aeq
 by_cases h:(1:Int)≤k
 ·rw[decide_eq_true (show k≥1 from h)]
  simp only[cond_true,Z7,decide_eq_decide];omega
 ·rw[decide_eq_false (show ¬k≥1 from h)]
  simp only[cond_false,Z7];exact(decide_eq_false (by omega)).symm
def At8 (l:List Au)(h:An):Int:=if(0≤h.Bk∧h.Bk<(l.length:Int))∧(gt l h.Bk).Vt=1∧(gt l h.Bk).Dc=h.Dc then h.Bk else -1
theorem A4s (K:Nat){l:List Au}(hl:l.length≤140737488355327)(h:An):Avf K l h=some (At8 l h):=by
 unfold Avf At8;rw[A05 K hl];simp only[Z0]
 by_cases hs:0≤h.Bk∧h.Bk<(l.length:Int)
 ·rw[decide_eq_true hs];simp only[cond_true,if_pos hs]
  by_cases h1:(gt l h.Bk).Vt=1
  ·by_cases h2:(gt l h.Bk).Dc=h.Dc
   ·rw[if_pos ⟨hs,h1,h2⟩];simp[h1,h2]
   ·rw[if_neg (fun h=>h2 h.2.2),Arb h2];simp[h1]
  ·rw[if_neg (fun h=>h1 h.2.1),Arb h1];rfl
 ·rw[decide_eq_false hs];simp only[cond_false];rw[if_neg (fun h=>hs h.1)]
theorem A5j{l:List Au}{h:An}(h0: ¬At8 l h<0):0≤At8 l h∧At8 l h<(l.length:Int):=by
 unfold At8 at *;split at h0
 ·rename_i h1;rw[if_pos h1];exact h1.1
 ·omega
def Ai1 (l:List Au):Nat->Int->List Int
 |0,_=>[]
 |n+1,k=>if 0≤k∧k<(l.length:Int)then k::Ai1 l n (An8 .i64 (gt l k).fUp 1)else []
theorem A9w{l:List Au}: ∀(n:Nat) (k:Int),∀x∈Ai1 l n k,0≤x∧x<(l.length:Int):=by
 intro n
 induction n with
 |zero=>intro k x hx;cases hx
 |succ n ih=>
  intro k x hx;unfold Ai1 at hx;split at hx
  ·rename_i h;rcases Di.1 hx with rfl|hx
   ·exact h
   ·exact ih _ x hx
  ·cases hx
theorem A67{l:List Au}: ∀(n:Nat) (k:Int),(Ai1 l n k).length≤n:=by
 intro n
 induction n with
 |zero=>intro k;exact Z9 _
 |succ n ih=>
  intro k;unfold Ai1;split
  ·simp only[Xf];have:=ih (An8 .i64 (gt l k).fUp 1);omega
  ·exact Z21 _
def Bdi (l:List Au):List Int->Prop
 |x::y::r=>An8 .i64 (gt l x).fUp 1=y∧Bdi l (y::r)
 |_=>True
theorem Bdj{l:List Au}: ∀(n:Nat) (k:Int),Bdi l (Ai1 l n k):=by
 intro n
 induction n with
 |zero=>intro k;trivial
 |succ n ih=>
  intro k;unfold Ai1;split
  ·have h1:=ih (An8 .i64 (gt l k).fUp 1);cases n with
   |zero=>trivial
   |succ n=>
    rw[Ai1]at h1 ⊢;split at h1
    ·rename_i h2;rw[if_pos h2];exact⟨rfl,h1⟩
    ·rename_i h2;rw[if_neg h2];trivial
  ·trivial
theorem Bgs{l:List Au}(w:Afd l): ∀(n:Nat) (k:Int) (v:List Int),-9223372036854775808≤k∧k≤9223372036854775807->v.length≤l.length->l.length - v.length<n->Awj K l n k v=some (v++Ai1 l (l.length - v.length) k):=by
 have hb:l.length*152≤140737488355327:=w.2;intro n
 induction n with
 |zero=>intro k v _ _ h;omega
 |succ n ih=>
  intro k v hk hv hn;rw[Awj,Axs];simp only[Z0]
  have e:decide (1≤An7 .i64 k 1∧An7 .i64 k 1≤(l.length:Int))=decide (0≤k∧k<(l.length:Int)):=by
   rw[decide_eq_decide];unfold An7;rw[IntKind.wrap_i64];omega
  rw[e]
  by_cases hs:0≤k∧k<(l.length:Int)
  ·rw[decide_eq_true hs];simp only[cond_true];rcases E4 v.length l.length with h|h
   ·rw[Ae4 h];simp only[cond_true]
    have hl2:(v++[k]).length=v.length+1:=by simp
    rw[if_pos ⟨by rw[hl2];omega,by rw[hl2];unfold maxLen;omega⟩,if_pos hs,ih (An8 .i64 (gt l k).fUp 1) _ (A9q _) (by rw[hl2];omega) (by rw[hl2];omega),hl2]
    obtain⟨m,hm⟩: ∃m,l.length - v.length=m+1:=⟨l.length - v.length - 1,by omega⟩
    rw[hm,Ai1,if_pos hs,show l.length - (v.length+1)=m from by omega]
    simp
   ·rw[Afn h];rw[show l.length - v.length=0 from by omega]
    simp[Ai1]
  ·rw[decide_eq_false hs]
   have:Ai1 l (l.length - v.length) k=[]:=by
    cases l.length - v.length with
    |zero=>rfl
    |succ m=>rw[Ai1,if_neg hs]
   rw[this];simp
theorem Bgt{l:List Au}(w:Afd l): ∀(n:Nat) (k:Int) (v:List Int),v.length≤l.length->l.length - v.length<n->Aws K l n k v=some (v++Ai1 l (l.length - v.length) k):=by
 have hb:l.length*152≤140737488355327:=w.2;intro n
 induction n with
 |zero=>intro k v _ h;omega
 |succ n ih=>
  intro k v hv hn;rw[Aws,Auy K (by omega)]
  simp only[Z0]
  by_cases hs:0≤k∧k<(l.length:Int)
  ·rw[decide_eq_true hs];simp only[cond_true];rcases E4 v.length l.length with h|h
   ·rw[Ae4 h];simp only[cond_true]
    have hl2:(v++[k]).length=v.length+1:=by simp
    rw[if_pos ⟨by rw[hl2];omega,by rw[hl2];unfold maxLen;omega⟩,if_pos hs,ih _ _ (by rw[hl2];omega) (by rw[hl2];omega),hl2]
    obtain⟨m,hm⟩: ∃m,l.length - v.length=m+1:=⟨l.length - v.length - 1,by omega⟩
    rw[hm,Ai1,if_pos hs,show l.length - (v.length+1)=m from by omega]
    simp
   ·rw[Afn h];rw[show l.length - v.length=0 from by omega]
    simp[Ai1]
  ·rw[decide_eq_false hs]
   have:Ai1 l (l.length - v.length) k=[]:=by
    cases l.length - v.length with
    |zero=>rfl
    |succ m=>rw[Ai1,if_neg hs]
   rw[this];simp
include hK in
theorem A2i{l:List Au}(w:Afd l)(k:Int)(hk: -9223372036854775808≤k∧k≤9223372036854775807):Axv K l k=some (Ai1 l l.length k):=by
 have hb:=Aej w;unfold Axv
 have:=Bgs (K:=K) w K k [] hk (Z21 _) (by simp;omega)
 simpa using this
include hK in
theorem A68{l:List Au}(w:Afd l)(k:Int):Azx K l k=some (Ai1 l l.length k):=by
 have hb:=Aej w;unfold Azx
 have:=Bgt (K:=K) w K k [] (Z21 _) (by simp;omega)
 simpa using this
def Au0 (l:List Au):List Int->Bool
 |[]=>true
 |[x]=>(gt l x).Vt==1
 |x::y::r=>((gt l x).Vt==1)&&((gt l x).S6==(gt l y).S5)&&Au0 l (y::r)
def A06 (l:List Au)(way:List Int):Bool:=if 0<way.length then(gt l (gt way ((way.length - 1:Nat):Int))).fUp==0 else false
theorem Bbo{l:List Au}{way:List Int}(hin: ∀x∈way,0≤x∧x<(l.length:Int))(hlen:way.length≤140737488355327):
  (bif (decide ((way.length:Int)>0))then(if(0:Int)≤(An8 .i64 (way.length:Int) 1)∧(An8 .i64 (way.length:Int) 1)<(way.length:Int)then(if(0:Int)≤(gt way (An8 .i64 (way.length:Int) 1))∧(gt way (An8 .i64 (way.length:Int) 1))<(l.length:Int)then some (((gt l (gt way (An8 .i64 (way.length:Int) 1))).fUp)==0)else none)else none)else some false)=some (A06 l way):=by
 unfold A06;rcases Ly way.length with h|h
 ·rw[decide_eq_false (show ¬(way.length:Int)>0 by omega)]
  simp only[cond_false];rw[if_neg (show ¬0<way.length by omega)]
 ·rw[if_pos h,decide_eq_true (by omega)]
  simp only[cond_true]
  have e:An8 .i64 (way.length:Int) 1=((way.length - 1:Nat):Int):=by unfold An8;rw[Ht (by omega) (by omega)];omega
  rw[e,if_pos ⟨by omega,by omega⟩,if_pos (hin _ (Apg (by omega)))]
theorem Ayu{way:List Int}{i:Nat}(h:i<way.length):way.drop i=way[i]::way.drop (i+1):=by
 rw[Z47 h]
theorem Bdk{l:List Au}{way:List Int}(hin: ∀x∈way,0≤x∧x<(l.length:Int))(hlen:way.length≤140737488355327): ∀(n i:Nat),i≤way.length->way.length - i<n->Atg K l way n way (way.length:Int) (i:Int)=some (Au0 l (way.drop i)&&A06 l way):=by
 intro n
 induction n with
 |zero=>intro i _ h;omega
 |succ n ih=>
  intro i hi hn;rw[Atg];unfold Ayn;rcases E4 i way.length with h|h
  ·rw[Ae4 h];simp only[cond_true];rw[if_pos ⟨by omega,by omega⟩,if_pos (hin _ (Apg h)),Ayu h,Aep (by omega),←P2 h]
   rcases E4 (i+1) way.length with h2|h2
   ·rw[Ae4 h2,Ayu h2,←P2 h2];simp only[cond_true];rw[if_pos (hin _ (Apg h)),if_pos ⟨by omega,by omega⟩,if_pos (hin _ (Apg h2)),ih (i+1) h (by omega),Ayu h2,←P2 h2,Au0]
    generalize gt way ((i+1:Nat):Int)=y;generalize gt way (i:Int)=x
    by_cases c1:(gt l x).Vt=1
    ·by_cases c2:(gt l x).S6=(gt l y).S5
     ·simp[c1,c2]
     ·rw[Arb c2,Ah0 c2];simp[c1]
    ·rw[Arb c1,Ah0 c1];simp
   ·rw[Afn h2,ih (i+1) h (by omega),show way.drop (i+1)=[] from Z48 h2]
    simp only[cond_false,Au0]
    by_cases c1:(gt l (gt way (i:Int))).Vt=1
    ·simp[c1]
    ·rw[Arb c1,Ah0 c1];simp
  ·rw[Afn h,show way.drop i=[] from Z48 h]
   simp only[cond_false,Au0,Z30];exact Bbo hin hlen
theorem Bog{l:List Au}(w:Afd l){x y:Int}(hx:0≤x∧x<(l.length:Int))(hy:0≤y∧y<(l.length:Int))(h:An8 .i64 (gt l x).fUp 1=y):Ar6 K l x=some (((gt l y).Vt==1)&&((gt l y).S5==(gt l x).S6)):=by
 have hl:=Aej w;unfold Ar6;rw[if_pos hx,Axs];simp only[Z0];obtain⟨hr1,hr2⟩:=(w.1 _ (Alb hx.1 hx.2)).up
 have hp:1≤(gt l x).fUp∧(gt l x).fUp≤(l.length:Int):=by
  unfold An8 at h;rw[IntKind.wrap_i64]at h;omega
 rw[decide_eq_true hp,h];simp only[cond_true];rw[if_pos hy,if_pos hy,if_pos hx];cases (gt l y).Vt==1<;>rfl
theorem Bbp{l:List Au}{y:Int}{r:List Int}(h:(gt l y).Vt≠1):Au0 l (y::r)=false:=by
 cases r with
 |nil=>simp[Au0,h]
 |cons z r=>simp[Au0,h]
theorem Bdl{l:List Au}(w:Afd l){way:List Int}(hin: ∀x∈way,0≤x∧x<(l.length:Int))(hlen:way.length≤140737488355327): ∀(n i:Nat),Bdi l (way.drop i)->i≤way.length->way.length - i<n->Ass K l way n (i:Int)=some (Au0 l (way.drop i)&&A06 l way):=by
 intro n
 induction n with
 |zero=>intro i _ _ h;omega
 |succ n ih=>
  intro i hch hi hn;rw[Ass];unfold Ax3;rcases E4 i way.length with h|h
  ·rw[Ae4 h];simp only[cond_true];rw[Ayu h]at hch;rw[if_pos ⟨by omega,by omega⟩,if_pos (hin _ (Apg h)),Ayu h,Aep (by omega),←P2 h]
   rcases E4 (i+1) way.length with h2|h2
   ·rw[Ayu h2]at hch
    have hc1:=hch.1;rw[←P2 h,←P2 h2]at hc1;rw[Ae4 h2,Ayu h2,←P2 h2];simp only[cond_true];rw[if_pos ⟨by omega,by omega⟩,Bog w (hin _ (Apg h)) (hin _ (Apg h2)) hc1,ih (i+1) (by rw[Ayu h2];exact hch.2) h (by omega),Ayu h2,←P2 h2,Au0]
    generalize gt way ((i+1:Nat):Int)=y;generalize gt way (i:Int)=x
    by_cases c1:(gt l x).Vt=1
    ·by_cases c3:(gt l y).Vt=1
     ·by_cases c2:(gt l x).S6=(gt l y).S5
      ·simp[c1,c2,c3]
      ·have c2': ¬(gt l y).S5=(gt l x).S6:=fun e=>c2 e.symm;rw[Ah0 c2,Ah0 c2'];simp[c1]
     ·rw[Bbp c3,Ah0 c3];simp[c1]
    ·rw[Arb c1,Ah0 c1];simp
   ·rw[Afn h2,ih (i+1) (by rw[Z48 h2];trivial) h (by omega),show way.drop (i+1)=[] from Z48 h2]
    simp only[cond_false,Au0]
    by_cases c1:(gt l (gt way (i:Int))).Vt=1
    ·simp[c1]
    ·rw[Arb c1,Ah0 c1];simp
  ·rw[Afn h,show way.drop i=[] from Z48 h]
   simp only[cond_false,Au0,Z30];exact Bbo hin hlen
def At9 (l:List Au)(k:Int):Bool:=Au0 l (Ai1 l l.length k)&&A06 l (Ai1 l l.length k)
include hK in
theorem A29{l:List Au}(w:Afd l)(k:Int)(hk: -9223372036854775808≤k∧k≤9223372036854775807):Av0 K l k=some (At9 l k):=by
 have hb:=Aej w
 have hr:=A67 (l:=l) l.length k;unfold Av0;rw[A2i hK w k hk];exact Bdl w (A9w _ _) (by omega) K 0 (Bdj _ _) (Z21 _) (by omega)
include hK in
theorem Bbq{l:List Au}(w:Afd l)(k:Int):A0o K l k=some (At9 l k):=by
 have hb:=Aej w
 have hr:=A67 (l:=l) l.length k;unfold A0o;rw[A68 hK w k];exact Bdk (A9w _ _) (by omega) K 0 (Z21 _) (by omega)
def A07 (h:An):Bool:=bif decide (h.Bk≥0)then decide (h.Dc≥1)else false
theorem A36 (K:Nat)(h:An):Auc K h=some (A07 h):=by
 unfold Auc A07;cases decide (h.Bk≥0)<;>rfl
def Aur (l:List Au)(h:An):Int×Int:=bif A07 h then(bif decide (At8 l h<0)then(-1,2)else(bif At9 l (At8 l h)then(At8 l h,0)else(-1,2)))else(-1,1)
include hK in
theorem Auz{w:C8}(hw:Afd w.fL)(h:An):An3 K w h=some (Aur w.fL h):=by
 have hb:=Aej hw;unfold An3 Aur;rw[A36,A4s K hb];simp only[Z0];cases A07 h with
 |false=>rfl
 |true=>
  simp only[cond_true];cases e:decide (At8 w.fL h<0)with
  |true=>rfl
  |false=>
   have h1:=A5j (of_decide_eq_false e);simp only[cond_false];rw[A29 hK hw _ ⟨by omega,by omega⟩]
   simp only[Z0];cases At9 w.fL (At8 w.fL h)<;>rfl
theorem Bkz{l:List Au}{h:An}(h0:(Aur l h).2=0):0≤(Aur l h).1∧(Aur l h).1<(l.length:Int):=by
 unfold Aur at *;cases e1:A07 h with
 |false=>rw[e1]at h0;simp at h0
 |true=>
  rw[e1]at h0;simp only[cond_true]at *;cases e:decide (At8 l h<0)with
  |true=>rw[e]at h0;simp at h0
  |false=>
   rw[e]at h0;simp only[cond_false]at *;cases e2:At9 l (At8 l h)with
   |false=>rw[e2]at h0;simp at h0
   |true=>exact A5j (of_decide_eq_false e)
end
def plB (l:List Au)(n:Int):Bool:=decide (0≤An8 .i64 n 1∧An8 .i64 n 1<(l.length:Int))
theorem Au1{l:List Au}{n:Int}(h:plB l n=true):0≤An8 .i64 n 1∧An8 .i64 n 1<(l.length:Int):=of_decide_eq_true h
theorem Ay9 (K:Nat){l:List Au}(hl:l.length≤140737488355327)(n:Int):Aiy K l (An8 .i64 n 1)=some (plB l n):=Auy K hl _
theorem Avw (K:Nat){l:List Au}(hl:l.length≤140737488355327){n:Int}(hn:wfi n):Aeq K l n=some (plB l n):=by
 rw[Axs];unfold plB;obtain⟨h1,h2⟩:=hn
 congr 1
 rw[decide_eq_decide];unfold An8;rw[IntKind.wrap_i64];omega
def A09 (l:List Au)(k:Int):Bool:=plB l (gt l k).fUp&&((gt l (An8 .i64 (gt l k).fUp 1)).Vt==1&&(gt l (An8 .i64 (gt l k).fUp 1)).S5==(gt l k).S6)
theorem A5k (K:Nat){l:List Au}(w:Afd l){k:Int}(h:0≤k∧k<(l.length:Int)):Ar6 K l k=some (A09 l k):=by
 unfold Ar6 A09;rw[if_pos h,Avw K (Aej w) (w.1 _ (Alb h.1 h.2)).up,Z0,if_pos h];cases hp:plB l (gt l k).fUp with
 |false=>rfl
 |true=>
  have:=Au1 hp;rw[cond_true,if_pos this,if_pos this];cases (gt l (An8 .i64 (gt l k).fUp 1)).Vt==1<;>rfl
theorem A1a (K:Nat){l:List Au}(w:Afd l){k:Int}(h:0≤k∧k<(l.length:Int)):Ari K l k=some (A09 l k):=by
 unfold Ari A09;rw[if_pos h,Ay9 K (Aej w),Z0,if_pos h];cases hp:plB l (gt l k).fUp with
 |false=>rfl
 |true=>
  have:=Au1 hp;rw[cond_true,if_pos this,if_pos this];cases (gt l (An8 .i64 (gt l k).fUp 1)).Vt==1<;>rfl
def Ash (l:List Au)(n:Int):Bool:=n==0||(plB l n&&(gt l (An8 .i64 n 1)).Vt==1)
theorem A15{l:List Au}{n:Int}(h:Ash l n=true)(h0:n≠0):0≤An8 .i64 n 1∧An8 .i64 n 1<(l.length:Int):=by
 unfold Ash at h;rw[Ah0 h0,Z52,Z4]at h;exact Au1 h.1
theorem A3a (K:Nat){l:List Au}(w:Afd l){n:Int}(hn:wfi n):Aqh K l n=some (Ash l n):=by
 unfold Aqh Ash;rw[Avw K (Aej w) hn,Z0];cases n==0 with
 |true=>rfl
 |false=>
  cases hp:plB l n with
  |false=>rfl
  |true=>rw[if_pos (Au1 hp)];rfl
theorem A3b (K:Nat){l:List Au}(w:Afd l)(n:Int):Auw K l n=some (Ash l n):=by
 unfold Auw Ash;rw[Ay9 K (Aej w),Z0];cases n==0 with
 |true=>rfl
 |false=>
  cases hp:plB l n with
  |false=>rfl
  |true=>rw[if_pos (Au1 hp)];rfl
def A51 (r:List Int):Int:=gt r ((r.length - 1:Nat):Int)
def A16 (l:List Au)(k:Int):Bool:=decide (((Ai1 l l.length k).length:Int)≤4)&& !A09 l (A51 (Ai1 l l.length k))
def A6j (l:List Au)(k:Int):Bool:= !((gt l k).S8==0&&A09 l k)||(gt l (An8 .i64 (gt l k).fUp 1)).Eg==An7 .i64 k 1
def A8l (l:List Au)(k:Int):Bool:=(gt l k).S8==0||(gt l (An8 .i64 (gt l k).S8 1)).S7==An7 .i64 k 1
def Bbr (l:List Au)(k:Int):Bool:=(gt l k).S7==0||((gt l (An8 .i64 (gt l k).S7 1)).S8==An7 .i64 k 1&&((gt l (An8 .i64 (gt l k).S7 1)).fUp==(gt l k).fUp&&(gt l (An8 .i64 (gt l k).S7 1)).S6==(gt l k).S6))
def Bgu (l:List Au)(k:Int):Bool:=(gt l k).Eg==0||((gt l (An8 .i64 (gt l k).Eg 1)).S8==0&&((gt l (An8 .i64 (gt l k).Eg 1)).fUp==An7 .i64 k 1&&(gt l (An8 .i64 (gt l k).Eg 1)).S6==(gt l k).S5))
def A3x (l:List Au)(k:Int):Bool:=Ash l (gt l k).Eg&&(Ash l (gt l k).S7&&(Ash l (gt l k).S8&&((gt l k).fUp==0||plB l (gt l k).fUp)))
def A1b (l:List Au)(k:Int):Bool:=A3x l k&&(Bgu l k&&(Bbr l k&&(A8l l k&&A6j l k)))
def A52 (l:List Au):Bool:=(List.range l.length).all (fun k=>(gt l (k:Int)).Vt != 1||(A1b l k&&A16 l k))
theorem A69{l:List Au}{k:Int}(h:0≤k∧k<(l.length:Int)):0<(Ai1 l l.length k).length:=by
 obtain⟨m,hm⟩: ∃m,l.length=m+1:=⟨l.length - 1,by omega⟩
 rw[hm,Ai1,if_pos h];simp
theorem A9x{l:List Au}{k:Int}(h:0≤k∧k<(l.length:Int)):0≤A51 (Ai1 l l.length k)∧A51 (Ai1 l l.length k)<(l.length:Int):=by
 have:=A69 h;exact A9w _ _ _ (Apg (by omega))
theorem Be3{l:List Au}(w:Afd l){k:Int}(h:0≤k∧k<(l.length:Int)):An8 .i64 ((Ai1 l l.length k).length:Int) 1=(((Ai1 l l.length k).length - 1:Nat):Int)∧(0:Int)≤(((Ai1 l l.length k).length - 1:Nat):Int)∧(((Ai1 l l.length k).length - 1:Nat):Int)<((Ai1 l l.length k).length:Int):=by
 have h1:=A69 h
 have h2:=A67 (l:=l) l.length k
 have h3:=Aej w;unfold An8;rw[Ht (by omega) (by omega)]
 omega
section
variable {K:Nat} (hK:281474976710656≤K)
include hK
theorem Boh{l:List Au}(w:Afd l){k:Int}(h:0≤k∧k<(l.length:Int)):As8 K l k=some (A16 l k):=by
 have h3:=Aej w;obtain⟨e1,e2,e3⟩:=Be3 w h;unfold As8;rw[A2i hK w k ⟨by omega,by omega⟩,Z0,e1,if_pos ⟨e2,e3⟩]
 have:=A5k K w (A9x h);unfold A51 at this;rw[this,Z0,Ak9];rfl
theorem Boi{l:List Au}(w:Afd l){k:Int}(h:0≤k∧k<(l.length:Int)):Avk K l k (gt l k).fUp (gt l k).S8=some (A6j l k&&A16 l k):=by
 unfold Avk A6j;rw[A5k K w h,Boh hK w h,Z0];cases (gt l k).S8==0 with
 |false=>rfl
 |true=>
  cases hc:A09 l k with
  |false=>rfl
  |true=>
   have:plB l (gt l k).fUp=true:=by unfold A09 at hc;rw[Z4]at hc;exact hc.1
   rw[cond_true,cond_true,if_pos (Au1 this),bne,Abt];cases (gt l (An8 .i64 (gt l k).fUp 1)).Eg==An7 .i64 k 1<;>rfl
theorem Boj{l:List Au}(w:Afd l){k:Int}(h:0≤k∧k<(l.length:Int))(hp:Ash l (gt l k).S8=true):Avl K l k (gt l k).fUp (gt l k).S8=some (A8l l k&&(A6j l k&&A16 l k)):=by
 unfold Avl A8l;rw[Boi hK w h]
 by_cases h0:(gt l k).S8=0
 ·rw[h0];rfl
 ·rw[Arb h0,Ah0 h0,cond_true,if_pos (A15 hp h0),bne,Abt];cases (gt l (An8 .i64 (gt l k).S8 1)).S7==An7 .i64 k 1<;>rfl
theorem Bok{l:List Au}(w:Afd l){k:Int}(h:0≤k∧k<(l.length:Int))(hp:Ash l (gt l k).S8=true)(hn:Ash l (gt l k).S7=true):Avm K l k (gt l k).fUp (gt l k).S6 (gt l k).S7 (gt l k).S8=some (Bbr l k&&(A8l l k&&(A6j l k&&A16 l k))):=by
 unfold Avm Bbr;rw[Boj hK w h hp]
 by_cases h0:(gt l k).S7=0
 ·rw[h0];rfl
 ·have hi:=A15 hn h0;rw[Arb h0,Ah0 h0,cond_true,if_pos hi];simp only[bne,Abt,Z52];cases (gt l (An8 .i64 (gt l k).S7 1)).S8==An7 .i64 k 1<;>cases (gt l (An8 .i64 (gt l k).S7 1)).fUp==(gt l k).fUp<;>cases (gt l (An8 .i64 (gt l k).S7 1)).S6==(gt l k).S6<;>rfl
theorem Bol{l:List Au}(w:Afd l){k:Int}(h:0≤k∧k<(l.length:Int))(hf:Ash l (gt l k).Eg=true)(hp:Ash l (gt l k).S8=true)(hn:Ash l (gt l k).S7=true):Avn K l k (gt l k).Vt (gt l k).Dc (gt l k).S5 (gt l k).fUp (gt l k).S6 (gt l k).Eg (gt l k).S7 (gt l k).S8 (gt l k).Az (gt l k).Ade (gt l k).S9 (gt l k).Ga (gt l k).Fo=some (Bgu l k&&(Bbr l k&&(A8l l k&&(A6j l k&&A16 l k)))):=by
 unfold Avn Bgu;rw[Bok hK w h hp hn]
 by_cases h0:(gt l k).Eg=0
 ·rw[h0];rfl
 ·have hi:=A15 hf h0;rw[Arb h0,Ah0 h0,cond_true,if_pos hi];simp only[bne,Abt,Z52];cases (gt l (An8 .i64 (gt l k).Eg 1)).S8==0<;>cases (gt l (An8 .i64 (gt l k).Eg 1)).fUp==An7 .i64 k 1<;>cases (gt l (An8 .i64 (gt l k).Eg 1)).S6==(gt l k).S5<;>rfl
theorem Bdm{l:List Au}(w:Afd l){k:Int}(h:0≤k∧k<(l.length:Int)):A0d K l k=some (A1b l k&&A16 l k):=by
 have hn:=w.1 _ (Alb h.1 h.2);unfold A0d A1b A3x;rw[if_pos h,Avw K (Aej w) hn.up,A3a K w hn.first,A3a K w hn.next,A3a K w hn.prev];simp only[Z0,Abt];cases hf:Ash l (gt l k).Eg with
 |false=>cases (gt l k).fUp != 0<;>cases plB l (gt l k).fUp<;>rfl
 |true=>
 cases hx:Ash l (gt l k).S7 with
 |false=>cases (gt l k).fUp != 0<;>cases plB l (gt l k).fUp<;>rfl
 |true=>
 cases hp:Ash l (gt l k).S8 with
 |false=>cases (gt l k).fUp != 0<;>cases plB l (gt l k).fUp<;>rfl
 |true=>
 rw[Bol hK w h hf hp hx];simp only[bne];cases (gt l k).fUp==0<;>cases plB l (gt l k).fUp<;>simp only[Bool.not_true,Bool.not_false,cond_true,cond_false,Z30,Bool.false_and,Bool.true_or,Z52,Bool.and_assoc]
theorem Bbs{l:List Au}(w:Afd l):Azi K l=some (A52 l):=by
 have hl:=Aej w;unfold Azi A52;rw[Ap7 hK l.length (by omega) (fun k=>(gt l (k:Int)).Vt != 1||(A1b l k&&A16 l k)) (some true) (fun n i=>Apz K l n i) (fun n i h=> ?_) (fun n=> ?_)]
 ·cases (List.range l.length).all _<;>rfl
 ·simp only[Apz,Aw7];rw[Ae4 h,cond_true,if_pos (Ajc h),Bdm hK w (Ajc h),Aep (by omega),Z0,Abt,bne]
  cases (gt l (i:Int)).Vt==1<;>rfl
 ·show Apz K l (n+1) _=_;rw[Apz,Afn (Z9 _),cond_false]
theorem Bom{l:List Au}(w:Afd l){k:Int}(h:0≤k∧k<(l.length:Int)):Atp K l k (gt l k).fUp (gt l k).S8=some (A6j l k):=by
 unfold Atp A6j;rw[A1a K w h,Z0,bne];cases (gt l k).S8==0 with
 |false=>rfl
 |true=>
  cases hc:A09 l k with
  |false=>rfl
  |true=>
   have:plB l (gt l k).fUp=true:=by unfold A09 at hc;rw[Z4]at hc;exact hc.1
   rw[if_pos (Au1 this)];rfl
theorem Bon{l:List Au}(w:Afd l){k:Int}(h:0≤k∧k<(l.length:Int))(hp:Ash l (gt l k).S8=true):Atq K l k (gt l k).fUp (gt l k).S8=some (A8l l k&&A6j l k):=by
 unfold Atq A8l;rw[Bom hK w h]
 by_cases h0:(gt l k).S8=0
 ·rw[h0];rfl
 ·rw[Arb h0,Ah0 h0,cond_true,if_pos (A15 hp h0),bne,Abt];cases (gt l (An8 .i64 (gt l k).S8 1)).S7==An7 .i64 k 1<;>rfl
theorem Boo{l:List Au}(w:Afd l){k:Int}(h:0≤k∧k<(l.length:Int))(hp:Ash l (gt l k).S8=true)(hn:Ash l (gt l k).S7=true):Atr K l k (gt l k).fUp (gt l k).S6 (gt l k).S7 (gt l k).S8=some (Bbr l k&&(A8l l k&&A6j l k)):=by
 unfold Atr Bbr;rw[Bon hK w h hp]
 by_cases h0:(gt l k).S7=0
 ·rw[h0];rfl
 ·have hi:=A15 hn h0;rw[Arb h0,Ah0 h0,cond_true,if_pos hi];simp only[bne,Abt,Z52];cases (gt l (An8 .i64 (gt l k).S7 1)).S8==An7 .i64 k 1<;>cases (gt l (An8 .i64 (gt l k).S7 1)).fUp==(gt l k).fUp<;>cases (gt l (An8 .i64 (gt l k).S7 1)).S6==(gt l k).S6<;>rfl
theorem Bop{l:List Au}(w:Afd l){k:Int}(h:0≤k∧k<(l.length:Int))(hf:Ash l (gt l k).Eg=true)(hp:Ash l (gt l k).S8=true)(hn:Ash l (gt l k).S7=true):Ats K l k (gt l k).Vt (gt l k).Dc (gt l k).S5 (gt l k).fUp (gt l k).S6 (gt l k).Eg (gt l k).S7 (gt l k).S8 (gt l k).Az (gt l k).Ade (gt l k).S9 (gt l k).Ga (gt l k).Fo=some (Bgu l k&&(Bbr l k&&(A8l l k&&A6j l k))):=by
 unfold Ats Bgu;rw[Boo hK w h hp hn]
 by_cases h0:(gt l k).Eg=0
 ·rw[h0];rfl
 ·have hi:=A15 hf h0;rw[Arb h0,Ah0 h0,cond_true,if_pos hi];simp only[bne,Abt,Z52];cases (gt l (An8 .i64 (gt l k).Eg 1)).S8==0<;>cases (gt l (An8 .i64 (gt l k).Eg 1)).fUp==An7 .i64 k 1<;>cases (gt l (An8 .i64 (gt l k).Eg 1)).S6==(gt l k).S5<;>rfl
theorem A9y{l:List Au}(w:Afd l){k:Int}(h:0≤k∧k<(l.length:Int)):Ays K l k=some (A1b l k):=by
 unfold Ays A1b A3x;rw[if_pos h,Ay9 K (Aej w),A3b K w,A3b K w,A3b K w];simp only[Z0,Abt];cases hf:Ash l (gt l k).Eg with
 |false=>rfl
 |true=>
 cases hx:Ash l (gt l k).S7 with
 |false=>rfl
 |true=>
 cases hp:Ash l (gt l k).S8 with
 |false=>rfl
 |true=>
 rw[Bop hK w h hf hp hx];simp only[bne];cases (gt l k).fUp==0<;>cases plB l (gt l k).fUp<;>simp only[Bool.not_true,Bool.not_false,cond_true,cond_false,Z30,Bool.false_and,Bool.true_or,Z52,Bool.and_assoc]
theorem Bbt{l:List Au}(w:Afd l):Azs K l=some (A52 l):=by
 have hl:=Aej w;unfold Azs A52;rw[Ap7 hK l.length (by omega) (fun k=>(gt l (k:Int)).Vt != 1||(A1b l k&&A16 l k)) (some true) (fun n i=>Ap2 K l n l (l.length:Int) i) (fun n i h=> ?_) (fun n=> ?_)]
 ·cases (List.range l.length).all _<;>rfl
 ·have hc:=Ajc h;obtain⟨e1,e2,e3⟩:=Be3 w hc
  have e4:=A1a K w (A9x hc);unfold A51 at e4
  have e5:decide (((Ai1 l l.length i).length:Int)>4)= !decide (((Ai1 l l.length i).length:Int)≤4):=by rw[←decide_not];congr 1;simp
  simp only[Ap2,Axk];rw[Ae4 h,cond_true,if_pos hc,A9y hK w hc,Aep (by omega),Z0,A68 hK w,Z0,e1,if_pos ⟨e2,e3⟩,e4,Z0,e5]
  unfold A16 A51;simp only[Abt,bne];cases (gt l (i:Int)).Vt==1<;>cases A1b l i<;>cases decide (((Ai1 l l.length i).length:Int)≤4)<;>cases A09 l (gt (Ai1 l l.length i) (((Ai1 l l.length i).length - 1:Nat):Int))<;>rfl
 ·show Ap2 K l (n+1) _ _ _=_;rw[Ap2,Afn (Z9 _),cond_false]
end
theorem A5l{c:Eb}(hc:Ai0 c=true):An8 .i64 c.Hi 1=c.Hi - 1:=by
 obtain⟨_,b2,_⟩:=Gx hc;unfold An8;rw[Ht (by omega) (by omega)]
def Ana (c:Eb)(x:A1):Bool:=
 Ai0 c&&(inB x.Bk 0 c.Fb&&(inB x.Eg 0 c.Fb&&(decide ((x.Fo.length:Int)≤6)&&(x.Fo.all (fun y=>inB y 0 255)&&(At2 c x.Az&&(inB x.Xa 0 (c.Hi - 1)&&(decide ((x.Az.length:Int)>0)||x.Xa==0)))))))
section
variable {K:Nat} (hK:281474976710656≤K)
include hK
theorem A8m (c:Eb)(x:A1)(hw:A04 x):Ayf K c x=some (Ana c x):=by
 have h1:=Ay8 hK hw.tags
 have h2:=Ay8 hK hw.chunks;unfold Ayf Av4;rw[Arc];simp only[Z0,Aoh];cases hc:Ai0 c with
 |false=>simp[Ana,hc]
 |true=>
 have hA:Ao9 K c x.Az K 0=some (At2 c x.Az):=by
  rw[Ap7 hK x.Az.length (by omega) (fun i=>inB (gt x.Az i) 0 (c.Az - 1)&& !(x.Az.take i).contains (gt x.Az i)) (some true) (fun k i=>Ao9 K c x.Az k i) (fun k i h=> ?_) (fun k=> ?_)]
  ·unfold At2;cases (List.range x.Az.length).all _<;>rfl
  ·have hp:(x.Az.take i).length≤140737488355328:=by simp;omega
   simp only[Ao9];rw[Ae4 h,cond_true,if_pos (Ajc h),Aoh,if_pos (Bbk (by omega)),A5h,A01 hK _ _ hp,Aep (by omega),Ay7 hK hc]
   simp only[Z0,if_pos (Ajc h)];cases inB (gt x.Az i) 0 (c.Az - 1)<;>cases (x.Az.take i).contains (gt x.Az i)<;>rfl
  ·show Ao9 K c x.Az (k+1) _=_;rw[Ao9,Afn (Z9 _),cond_false]
 have hB:Aqa K c x.Fo x.Az K 0=some (x.Fo.all (fun y=>inB y 0 255)&&At2 c x.Az):=by
  rw[Asp hK x.Fo (by omega) (fun y=>inB y 0 255) (some (At2 c x.Az)) (Aqa K c x.Fo x.Az) (fun k i h=> ?_) (fun k=> ?_)]
  ·rw[Ak9]
  ·rw[Aqa,Ae4 h,cond_true,if_pos (Ajc h),P2 h,Aoh,Aep (by omega),Z0,Abt]
  ·rw[Aqa,Afn (Z9 _),cond_false,hA]
 rw[hB,A5l hc]
 have e6:decide ((x.Fo.length:Int)>6)= !decide ((x.Fo.length:Int)≤6):=by rw[←decide_not];congr 1;simp
 have e0:decide ((x.Az.length:Int)>0)= !((x.Az.length:Int)==0):=by
  rw[Bool.eq_iff_iff];simp only[decide_eq_true_eq,Zu,beq_eq_false_iff_ne];omega
 unfold Ana;simp only[cond_true,e6,e0,Abt,bne,hc,Z30];cases (x.Az.length:Int)==0 with
 |true=>
  simp only[cond_true,Bool.not_true,Z52,Ak9,Z7]
  ac_rfl
 |false=>
  simp only[cond_false,Bool.not_false,Bool.true_or,Ak9,Z7,Bool.and_true]
  ac_rfl
theorem A8n (c:Eb)(x:A1)(hw:A04 x):Ayt K c x=some (Ana c x):=by
 have h1:=Ay8 hK hw.tags
 have h2:=Ay8 hK hw.chunks;unfold Ayt;rw[A27];simp only[Z0,Awe];cases hc:Ai0 c with
 |false=>simp[Ana,hc]
 |true=>
 rw[A1x hK _ (by omega),A35 hK hc _ h2,A5l hc]
 unfold Ana;simp only[Z0,cond_true,hc,Z30,A00,Ak9]
end
theorem Aq6{c:Eb}{x:A1}(h:Ana c x=true):Ai0 c=true∧(0≤x.Bk∧x.Bk≤c.Fb)∧(0≤x.Eg∧x.Eg≤c.Fb)∧At2 c x.Az=true∧(0≤x.Xa∧x.Xa≤c.Hi - 1):=by
 unfold Ana at h;simp only[Z4,Ael]at h;exact⟨h.1,h.2.1,h.2.2.1,h.2.2.2.2.2.1,h.2.2.2.2.2.2.1⟩
theorem Axn{c:Eb}{l:List Int}(h:At2 c l=true): ∀x∈l,0≤x∧x<c.Az:=by
 intro x hx;obtain⟨i,hi,e⟩:=List.mem_iff_getElem.1 hx;unfold At2 at h;rw[Z1]at h
 have:=h i (by simpa using hi)
 rw[Z4,P2 hi,e,Ael]at this;omega
theorem A4b{l:List Int}:l.Nodup ↔ ∀i,(h:i<l.length)->l[i] ∉ l.take i:=by
 unfold List.Nodup;rw[List.pairwise_iff_getElem];constructor
 ·intro h i hi hm;obtain⟨j,hj,e⟩:=List.mem_iff_getElem.1 hm;rw[List.getElem_take]at e;simp only[List.length_take]at hj;exact h j i (by omega) hi (by omega) e
 ·intro h i j hi hj hij e;exact h j hj (List.mem_iff_getElem.2 ⟨i,by simp;omega,by rw[List.getElem_take];exact e⟩)
theorem Aza{c:Eb}{l:List Int}(h:At2 c l=true):l.Nodup:=by
 rw[A4b];intro i hi hm;unfold At2 at h;rw[Z1]at h
 have:=h i (by simpa using hi)
 rw[Z4,P2 hi,Zu,List.contains_eq_mem]at this;exact absurd hm (of_decide_eq_false this.2)
theorem Azb{l:List Int}: ∀ {o:List Int},o.Nodup->(∀x∈o,x∈l)->o.length≤l.length:=by
 intro o
 induction o generalizing l with
 |nil=>intro _ _;exact Z21 _
 |cons x o ih=>
  intro hn hs
  have hx:x∈l:=hs x (by simp)
  rw[List.nodup_cons]at hn
  have h2:=ih (l:=l.erase x) hn.2 (fun y hy=>by
   have hne:y≠x:=fun e=>hn.1 (e ▸ hy);exact(List.mem_erase_of_ne hne).2 (hs y (by simp[hy])))
  rw[List.length_erase_of_mem hx]at h2
  have:0<l.length:=List.length_pos_of_mem hx;simp only[Xf];omega
theorem Asi{c:Eb}(hc:Ai0 c=true){l:List Int}(h:At2 c l=true):l.length≤12:=by
 obtain⟨b1,_⟩:=Gx hc
 have:=Azb (l:=(List.range 12).map (fun i:Nat=>(i:Int))) (Aza h) (fun x hx=>by
  have:=Axn h x hx;rw[D9];exact⟨x.toNat,by simp;omega,by omega⟩)
 simpa using this
def Ay5 (l:List Au):Nat->Int->List Int
 |0,_=>[]
 |n+1,k=>if 0≤k∧k<(l.length:Int)then k::Ay5 l n (An8 .i64 (gt l k).S7 1)else []
theorem A4t{l:List Au}: ∀(n:Nat) (k:Int),∀x∈Ay5 l n k,0≤x∧x<(l.length:Int):=by
 intro n
 induction n with
 |zero=>intro k x hx;cases hx
 |succ n ih=>
  intro k x hx;unfold Ay5 at hx;split at hx
  ·rename_i h;rcases Di.1 hx with rfl|hx
   ·exact h
   ·exact ih _ x hx
  ·cases hx
theorem A3y{l:List Au}: ∀(n:Nat) (k:Int),(Ay5 l n k).length≤n:=by
 intro n
 induction n with
 |zero=>intro k;exact Z9 _
 |succ n ih=>
  intro k;unfold Ay5;split
  ·simp only[Xf];have:=ih (An8 .i64 (gt l k).S7 1);omega
  ·exact Z21 _
def Alc (l:List Au)(first:Int):List Int:=Ay5 l l.length (An8 .i64 first 1)
def Axx (l:List Au)(k:Int):Bool:=(gt l k).Vt==1&&((gt l k).fUp != 0&& !A09 l k)
theorem A53 (K:Nat){l:List Au}(w:Afd l){k:Int}(h:0≤k∧k<(l.length:Int)):As9 K l k=some (Axx l k):=by
 unfold As9 Axx;rw[if_pos h,if_pos h,A5k K w h,Z0,Ak9,Ak9]
theorem A54 (K:Nat){l:List Au}(w:Afd l){k:Int}(h:0≤k∧k<(l.length:Int)):Ar4 K l k=some (Axx l k):=by
 unfold Ar4 Axx;rw[if_pos h,if_pos h,A1a K w h,Z0,Ak9,Ak9]
section
variable {K:Nat} (hK:281474976710656≤K)
theorem Bgv{l:List Au}(w:Afd l): ∀(n:Nat) (k:Int) (v:List Int),wfi k->v.length≤l.length->l.length - v.length<n->Auh K l n k v=some (v++Ay5 l (l.length - v.length) (An8 .i64 k 1)):=by
 have hm:=Wx
 have hb:l.length*152≤140737488355327:=w.2;intro n
 induction n with
 |zero=>intro k v _ _ h;omega
 |succ n ih=>
  intro k v hk hv hn;rw[Auh,Avw K (Aej w) hk];simp only[Z0]
  by_cases hs:0≤An8 .i64 k 1∧An8 .i64 k 1<(l.length:Int)
  ·rw[show plB l k=true from decide_eq_true hs]
   simp only[cond_true];rcases E4 v.length l.length with h|h
   ·rw[Ae4 h];simp only[cond_true]
    have hl2:(v++[An8 .i64 k 1]).length=v.length+1:=by simp
    rw[if_pos ⟨by rw[hl2];omega,by rw[hl2];omega⟩,if_pos hs,ih (gt l (An8 .i64 k 1)).S7 _ (w.1 _ (Alb hs.1 hs.2)).next (by rw[hl2];omega) (by rw[hl2];omega),hl2]
    obtain⟨m,hm⟩: ∃m,l.length - v.length=m+1:=⟨l.length - v.length - 1,by omega⟩
    rw[hm,Ay5,if_pos hs,show l.length - (v.length+1)=m from by omega]
    simp
   ·rw[Afn h];rw[show l.length - v.length=0 from by omega]
    simp[Ay5]
  ·rw[show plB l k=false from decide_eq_false hs]
   have:Ay5 l (l.length - v.length) (An8 .i64 k 1)=[]:=by
    cases l.length - v.length with
    |zero=>rfl
    |succ m=>rw[Ay5,if_neg hs]
   rw[this];simp
theorem Bgw{l:List Au}(w:Afd l): ∀(n:Nat) (k:Int) (v:List Int),v.length≤l.length->l.length - v.length<n->Auq K l n v k=some (v++Ay5 l (l.length - v.length) k):=by
 have hm:=Wx
 have hb:l.length*152≤140737488355327:=w.2;intro n
 induction n with
 |zero=>intro k v _ h;omega
 |succ n ih=>
  intro k v hv hn;rw[Auq,Auy K (by omega)]
  simp only[Z0]
  by_cases hs:0≤k∧k<(l.length:Int)
  ·rw[decide_eq_true hs];simp only[cond_true];rcases E4 v.length l.length with h|h
   ·rw[Ae4 h];simp only[cond_true]
    have hl2:(v++[k]).length=v.length+1:=by simp
    rw[if_pos ⟨by rw[hl2];omega,by rw[hl2];omega⟩,if_pos hs,ih _ _ (by rw[hl2];omega) (by rw[hl2];omega),hl2]
    obtain⟨m,hm⟩: ∃m,l.length - v.length=m+1:=⟨l.length - v.length - 1,by omega⟩
    rw[hm,Ay5,if_pos hs,show l.length - (v.length+1)=m from by omega]
    simp
   ·rw[Afn h];rw[show l.length - v.length=0 from by omega]
    simp[Ay5]
  ·rw[decide_eq_false hs]
   have:Ay5 l (l.length - v.length) k=[]:=by
    cases l.length - v.length with
    |zero=>rfl
    |succ m=>rw[Ay5,if_neg hs]
   rw[this];simp
include hK
theorem A55{l:List Au}(w:Afd l){k:Int}(hk:wfi k):Awq K l k=some (Alc l k):=by
 have hb:=Aej w;unfold Awq Alc
 have:=Bgv (K:=K) w K k [] hk (Z21 _) (by simp;omega)
 simpa using this
theorem Bbu{l:List Au}(w:Afd l)(k:Int):Azt K l k=some (Alc l k):=by
 have hb:=Aej w;unfold Azt Alc
 have:=Bgw (K:=K) w K (An8 .i64 k 1) [] (Z21 _) (by simp;omega)
 simpa using this
def Ape (w:C8)(x:A1):Bool:= !decide ((x.Az.length:Int)>0)||Ap3 ((w.fP.Pm.drop (gt x.Az 0*w.fC.Hi).toNat).take x.Xa.toNat)
def Awt (w:C8)(x:A1):Bool:=x.Bk==0||(gt w.fL (An8 .i64 x.Bk 1)).Vt==2
def Ayv (w:C8)(x:A1):Bool:=x.Eg==0||(gt w.fL (An8 .i64 x.Eg 1)).S8==0
def A2j (w:C8)(x:A1):Bool:=x.Az.all (fun k=>gt w.fP.Vt k==2)
def Asq (w:C8)(x:A1):Bool:=(Alc w.fL x.Eg).all (Axx w.fL)
def Anm (w:C8)(x:A1):Bool:=Ana w.fC x&&(A2j w x&&(Ape w x&&(Awt w x&&(Ayv w x&&Asq w x))))
theorem A4u{w:C8}(hL:(w.fL.length:Int)=w.fC.Fb)(hc:Ai0 w.fC=true){n:Int}(h0:n≠0)(h1:0≤n)(h2:n≤w.fC.Fb):0≤An8 .i64 n 1∧An8 .i64 n 1<(w.fL.length:Int):=by
 obtain⟨_,_,b3,_⟩:=Gx hc;unfold An8;rw[Ht (by omega) (by omega)]
 omega
theorem A8o (w:C8)(hw:Ano w)(hp:Ava w.fC w.fP=true)(hL:(w.fL.length:Int)=w.fC.Fb)(i:Nat)(hi:i<w.fQ.length):Aw8 K w i=some (Anm w (gt w.fQ i)):=by
 have hx:=hw.q.1 _ (Apg hi);unfold Aw8;rw[if_pos (Ajc hi)];generalize gt w.fQ i=x at *;rw[A8m hK _ _ hx,Z0,Abt];unfold Anm;cases hr:Ana w.fC x with
 |false=>rfl
 |true=>
 rw[cond_true,Z30];obtain⟨hc,⟨s1,s2⟩,⟨f1,f2⟩,hd,d1,d2⟩:=Aq6 hr;obtain⟨_,hm,hst,_⟩:=Atu hp;obtain⟨b1,b2,b3,_⟩:=Gx hc
 have hch:=Axn hd
 have hl:=Ay8 hK hx.chunks
 have h3:Apn K x.Eg w.fL=some (Asq w x):=by
  unfold Apn Asq
  have hk:=A3y (l:=w.fL) w.fL.length (An8 .i64 x.Eg 1)
  have hin:=A4t (l:=w.fL) w.fL.length (An8 .i64 x.Eg 1);rw[A55 hK hw.l hx.first,Z0];change (Alc w.fL x.Eg).length≤_ at hk;change ∀y∈Alc w.fL x.Eg,_ at hin;generalize Alc w.fL x.Eg=r at *;rw[Asp hK r (by omega) (Axx w.fL) (some true) (Aqr K w.fL r) (fun n i h=> ?_) (fun n=> ?_)]
  ·cases r.all _<;>rfl
  ·rw[Aqr,Ae4 h,cond_true,if_pos (Ajc h),A53 K hw.l (hin _ (Apg h)),Aep (by omega),Z0,Abt,P2 h]
  ·rw[Aqr,Afn (Z9 _),cond_false]
 have h2:Asb K x.Bk x.Eg w.fL=some (Awt w x&&(Ayv w x&&Asq w x)):=by
  unfold Asb Awt Ayv;rw[h3]
  by_cases g1:x.Eg=0
  ·rw[g1]
   by_cases g2:x.Bk=0
   ·rw[g2];rfl
   ·rw[Arb g2,Ah0 g2,cond_true,if_pos (A4u hK hL hc g2 s1 s2)];simp only[bne,Abt,Z52];cases (gt w.fL (An8 .i64 x.Bk 1)).Vt==2<;>rfl
  ·have hF:(bif (x.Eg != 0)then(if(0:Int)≤(An8 .i64 x.Eg 1)∧(An8 .i64 x.Eg 1)<(w.fL.length:Int)then(bif (((gt w.fL (An8 .i64 x.Eg 1)).S8) != 0)then some false else some (Asq w x))else none)else some (Asq w x))=some ((x.Eg==0||(gt w.fL (An8 .i64 x.Eg 1)).S8==0)&&Asq w x):=by
    rw[Arb g1,Ah0 g1,cond_true,if_pos (A4u hK hL hc g1 f1 f2)];simp only[bne,Abt,Z52,Ak9]
   rw[hF]
   by_cases g2:x.Bk=0
   ·rw[g2];rfl
   ·rw[Arb g2,Ah0 g2,cond_true,if_pos (A4u hK hL hc g2 s1 s2)];simp only[bne,Abt,Z52,Ak9]
 rw[Asp hK x.Az (by omega) (fun k=>gt w.fP.Vt k==2) (some (Ape w x&&(Awt w x&&(Ayv w x&&Asq w x)))) (fun n i=>Apo K n i x.Bk x.Eg x.Fo x.Az x.Xa w.fC.Az w.fC.Hi w.fC.Fb w.fC.G8 w.fC.Fc w.fC.Hj w.fP.Pm w.fP.Vt w.fP.Pn w.fL w.fQ w.Adf) (fun n i h=> ?_) (fun n=> ?_)]
 ·rw[Ak9];rfl
 ·simp only[Apo]
  have h5:=hch _ (Apg h);rw[Ae4 h,cond_true,if_pos (Ajc h),if_pos ⟨h5.1,by omega⟩,Aep (by omega),bne,Abt,P2 h]
 ·show Apo K (n+1) _ _ _ _ _ _ _ _ _ _ _ _ _ _ _ _ _ _=_;rw[Apo,Afn (Z9 _),cond_false,h2];unfold Ape
  by_cases g:(x.Az.length:Int)>0
  ·have h5:=hch _ (Alb (l:=x.Az) (Int.le_refl 0) (by omega))
   obtain⟨e1,e2,e3,e4⟩:=A12 hc hm h5.1 h5.2
   have e5:An7 .i64 (gt x.Az 0*w.fC.Hi) x.Xa=gt x.Az 0*w.fC.Hi+x.Xa:=by
    have:=Au9 (a:=gt x.Az 0) (b:=w.fC.Hi) (m:=12) (n:=16) h5.1 (by omega) (by omega) b2.2
    unfold An7;rw[Ht (by omega) (by omega)]
   rw[decide_eq_true g,cond_true,if_pos ⟨by omega,by omega⟩,if_pos ⟨by omega,by omega⟩,e1,e5,if_pos ⟨e3,by omega,by omega⟩,A1p hK _ (by simp;omega),show gt x.Az 0*w.fC.Hi+x.Xa - gt x.Az 0*w.fC.Hi=x.Xa by omega]
   simp only[Z0,Abt,Ak9,Bool.not_true,Z52]
  ·rw[decide_eq_false g];rfl
end
def Alh (N:Nat)(l:List Int):List Int:=(List.range N).map (fun k:Nat=>((l.count (k:Int):Nat):Int))
theorem A3c (N:Nat)(l:List Int):(Alh N l).length=N:=by simp[Alh]
theorem A1r{N:Nat}{l:List Int}{x:Int}(h0:0≤x)(h1:x<N):gt (Alh N l) x=((l.count x:Nat):Int):=by
 obtain⟨k,rfl⟩: ∃k:Nat,x=k:=⟨x.toNat,by omega⟩
 rw[P2 (by rw[A3c];omega)]
 simp[Alh]
theorem Bbv (N:Nat):Alh N []=List.replicate N 0:=by
 refine List.ext_getElem (by simp[Alh]) fun i h1 h2=> ?_
 simp[Alh]
theorem Bbw{N:Nat}{l:List Int}{x:Int}(h0:0≤x)(h1:x<N)(hl:l.length≤140737488355327):(Alh N l).set x.toNat (An7 .i64 (gt (Alh N l) x) 1)=Alh N (l++[x]):=by
 have hc:l.count x≤l.length:=List.count_le_length
 have e:An7 .i64 (gt (Alh N l) x) 1=((l.count x+1:Nat):Int):=by
  rw[A1r h0 h1,Aep (by omega)]
 rw[e];refine List.ext_getElem (by simp[Alh]) fun i h2 h3=> ?_
 rw[List.getElem_set];simp only[Alh,List.getElem_map,List.getElem_range,List.count_append,List.count_singleton]
 by_cases hi:x.toNat=i
 ·rw[if_pos hi]
  have:x=(i:Int):=by omega
  simp[this]
 ·rw[if_neg hi]
  have: ¬x=(i:Int):=by omega
  simp[this]
theorem A7a{C P:List Int}(hs: ∀x∈C,x∈P)(hP:P.Nodup):(∀x∈P,C.count x=1) ↔ (C.Nodup∧C.length=P.length):=by
 constructor
 ·intro h
  have hn:C.Nodup:=by
   rw[List.nodup_iff_count];intro a
   by_cases ha:a∈C
   ·rw[h a (hs a ha)];omega
   ·rw[List.count_eq_zero_of_not_mem ha];omega
  refine⟨hn,?_⟩
  have h1:=Azb hn hs
  have h2:=Azb hP (l:=C) (fun x hx=>List.count_pos_iff.1 (by rw[h x hx];omega))
  omega
 ·rintro⟨hn,hl⟩ x hx
  have hp:=A5z hn hs hl
  have:=hn.count (a:=x);rw[this,if_pos (hp.mem_iff.2 hx)]
def chL (q:List A1):List Int:=q.flatMap (fun x=>x.Az)
def slL (q:List A1):List Int:=q.flatMap (fun x=>if x.Bk=0 then []else [An8 .i64 x.Bk 1])
def kdL (l:List Au)(q:List A1):List Int:=q.flatMap (fun x=>Alc l x.Eg)
theorem A0v{α β:Type}(q:List α)(f:α->List β)(i:Nat)(h:i<q.length):(q.take (i+1)).flatMap f=(q.take i).flatMap f++f q[i]:=by
 rw[←List.take_append_getElem h,List.flatMap_append];simp
theorem A4v{α β:Type}(q:List α)(f:α->List β)(m:Nat)(h: ∀x∈q,(f x).length≤m):(q.flatMap f).length≤q.length*m:=by
 induction q with
 |nil=>simp
 |cons x q ih=>
  have h1:=h x (by simp)
  have h2:=ih fun y hy=>h y (by simp[hy])
  simp only[List.flatMap_cons,Jh,Xf,Gl,Nat.one_mul];omega
def A56 (w:C8):List Int:=((List.range w.fP.Vt.length).filter (fun k:Nat=>gt w.fP.Vt k==2)).map (fun k:Nat=>(k:Int))
def A37 (w:C8):List Int:=((List.range w.fL.length).filter (fun k:Nat=>(gt w.fL k).Vt==2)).map (fun k:Nat=>(k:Int))
def A7b (w:C8):List Int:=((List.range w.fL.length).filter (fun k:Nat=>Axx w.fL k)).map (fun k:Nat=>(k:Int))
theorem A4c (N:Nat)(p:Nat->Bool):(((List.range N).filter p).map (fun k:Nat=>(k:Int))).Nodup:=by
 unfold List.Nodup;rw[List.pairwise_map];exact(List.Pairwise.filter _ List.pairwise_lt_range).imp fun h=>by omega
theorem Awu{N:Nat}{p:Nat->Bool}{x:Int}:x∈((List.range N).filter p).map (fun k:Nat=>(k:Int)) ↔ (0≤x∧x<(N:Int))∧p x.toNat=true:=by
 simp only[D9,List.mem_filter,List.mem_range];constructor
 ·rintro⟨k,⟨h1,h2⟩,rfl⟩;exact⟨⟨by omega,by omega⟩,by simpa using h2⟩
 ·rintro⟨⟨h1,h2⟩,h3⟩;exact⟨x.toNat,⟨by omega,h3⟩,by omega⟩
def Axp (w:C8)(N:Nat):Bool:=
 (List.range w.fP.Vt.length).all (fun k=> !(gt w.fP.Vt k==2)||gt (Alh N (chL w.fQ)) k==1)&&
 (List.range w.fL.length).all (fun k=>(!((gt w.fL k).Vt==2)||gt (Alh w.fL.length (slL w.fQ)) k==1)&&(!Axx w.fL k||gt (Alh w.fL.length (kdL w.fL w.fQ)) k==1))
def A4d (q:List A1)(i k:Nat):Bool:= !((gt q i).Bk != 0&&(gt q k).Bk==(gt q i).Bk)&&(gt q i).Az.all (fun y=> !(gt q k).Az.contains y)
def A9z (q:List A1):Bool:=(List.range q.length).all (fun i=>(List.range i).all (fun k=>A4d q i k))
def A5m (l:List Int):Bool:=(List.range l.length).all (fun i=> !(l.take i).contains (gt l i))
def A6o (w:C8):Bool:=
 A9z w.fQ&&(A5m (kdL w.fL w.fQ)&&((((chL w.fQ).length:Int)==((A56 w).length:Int))&&((((slL w.fQ).length:Int)==((A37 w).length:Int))&&(((kdL w.fL w.fQ).length:Int)==((A7b w).length:Int)))))
theorem Bdn (l:List Int):A5m l=true ↔ l.Nodup:=by
 rw[A4b];unfold A5m;simp only[Z1,List.mem_range,Zu,List.contains_eq_mem,decide_eq_false_iff_not];exact⟨fun h i hi=>by have:=h i hi;rwa[P2 hi]at this,fun h i hi=>by rw[P2 hi];exact h i hi⟩
theorem Bbx{w:C8}{q:List A1}(h1: ∀x∈q,x.Az.Nodup)(h2: ∀x∈q,0≤x.Bk∧x.Bk≤8):A9z q=true ↔ (chL q).Nodup∧(slL q).Nodup:=by
 unfold chL slL List.Nodup;rw[List.pairwise_flatMap,List.pairwise_flatMap,List.pairwise_iff_getElem,List.pairwise_iff_getElem]
 have hs: ∀x∈q,List.Pairwise (fun a b:Int=>a≠b) (if x.Bk=0 then []else [An8 .i64 x.Bk 1]):=by
  intro x _;split<;>simp
 have hsub: ∀x∈q,An8 .i64 x.Bk 1=x.Bk - 1:=by
  intro x hx;have:=h2 x hx;unfold An8;rw[Ht (by omega) (by omega)]
 unfold A9z A4d;simp only[Z1,List.mem_range,Z4,Zu,List.contains_eq_mem,decide_eq_false_iff_not];constructor
 ·intro h;refine⟨⟨h1,fun i j hi hj hij x hx y hy e=> ?_⟩,hs,fun i j hi hj hij x hx y hy e=> ?_⟩
  ·have:=(h j hj i hij).2;rw[P2 hi,P2 hj]at this;subst e;exact this x hy hx
  ·have:=(h j hj i hij).1;rw[P2 hi,P2 hj]at this;split at hx
   ·cases hx
   ·split at hy
    ·cases hy
    ·rename_i g1 g2;simp only[Mx]at hx hy;subst hx;subst hy;rw[hsub _ (List.getElem_mem hi),hsub _ (List.getElem_mem hj)]at e;rw[Arb g2,Z30,beq_eq_false_iff_ne]at this;exact this (by omega)
 ·rintro⟨⟨_,h3⟩,_,h4⟩ i hi k hk
  have hk':k<q.length:=by omega
  rw[P2 hi,P2 hk'];refine⟨?_,fun x hx hy=>h3 k i hk' hi hk x hy x hx rfl⟩;rw[Bool.and_eq_false_iff]
  by_cases g:q[i].Bk=0
  ·left;simp[g]
  ·right;rw[beq_eq_false_iff_ne];intro e;refine h4 k i hk' hi hk (An8 .i64 q[k].Bk 1) ?_ (An8 .i64 q[i].Bk 1) ?_ (by rw[e])
   ·rw[if_neg (by rw[e];exact g)];simp
   ·rw[if_neg g];simp
theorem Bt2{w:C8}(hp:Ava w.fC w.fP=true)(hL:(w.fL.length:Int)=w.fC.Fb)(hq: ∀x∈w.fQ,Anm w x=true):Axp w w.fC.Az.toNat=A6o w:=by
 obtain⟨hc,hm,hst,_⟩:=Atu hp;obtain⟨b1,b2,b3,_⟩:=Gx hc
 have hone: ∀x∈w.fQ,(0≤x.Bk∧x.Bk≤w.fC.Fb)∧At2 w.fC x.Az=true∧A2j w x=true∧Awt w x=true∧Asq w x=true:=by
  intro x hx
  have:=hq x hx;unfold Anm at this;simp only[Z4]at this;obtain⟨h1,h2,h3,h4,h5,h6⟩:=this;obtain⟨_,g1,_,g3,_⟩:=Aq6 h1;exact⟨g1,g3,h2,h4,h6⟩
 have hC: ∀x∈chL w.fQ,x∈A56 w:=by
  intro y hy;unfold chL at hy;rw[List.mem_flatMap]at hy;obtain⟨x,hx,hy⟩:=hy;obtain⟨_,g2,g3,_⟩:=hone x hx
  have:=Axn g2 y hy;unfold A2j at g3;rw[Z1]at g3
  have g4:=g3 y hy;refine Awu.2 ⟨⟨this.1,by omega⟩,?_⟩
  rw[show((y.toNat:Nat):Int)=y by omega];exact g4
 have hS: ∀x∈slL w.fQ,x∈A37 w:=by
  intro y hy;unfold slL at hy;rw[List.mem_flatMap]at hy;obtain⟨x,hx,hy⟩:=hy;obtain⟨g1,g2,g3,g4,_⟩:=hone x hx;split at hy
  ·cases hy
  ·rename_i g;simp only[Mx]at hy;unfold Awt at g4;rw[Ah0 g,Z52,←hy]at g4
   have:y=x.Bk - 1:=by rw[hy];unfold An8;rw[Ht (by omega) (by omega)]
   refine Awu.2 ⟨⟨by omega,by omega⟩,?_⟩
   rw[show((y.toNat:Nat):Int)=y by omega];exact g4
 have hK2: ∀x∈kdL w.fL w.fQ,x∈A7b w:=by
  intro y hy;unfold kdL at hy;rw[List.mem_flatMap]at hy;obtain⟨x,hx,hy⟩:=hy;obtain⟨g1,g2,g3,g4,g5⟩:=hone x hx;unfold Asq at g5;rw[Z1]at g5
  have:=A4t _ _ y hy;refine Awu.2 ⟨this,?_⟩;rw[show((y.toNat:Nat):Int)=y by omega];exact g5 y hy
 have e1:=A7a hC (A4c _ _)
 have e2:=A7a hS (A4c _ _)
 have e3:=A7a hK2 (A4c _ _)
 have hp2:=Bbx (w:=w) (q:=w.fQ) (fun x hx=>Aza (hone x hx).2.1) (fun x hx=>by have:=(hone x hx).1;omega)
 rw[Bool.eq_iff_iff];unfold Axp A6o;simp only[Z4,Z1,List.mem_range,Bool.or_eq_true,Zu,beq_iff_eq,Bdn,hp2,beq_eq_false_iff_ne]
 have c1:(∀x∈A56 w,(chL w.fQ).count x=1) ↔ ∀k,k<w.fP.Vt.length->gt w.fP.Vt (k:Int)≠2∨gt (Alh w.fC.Az.toNat (chL w.fQ)) (k:Int)=1:=by
  constructor
  ·intro h k hk
   by_cases g:gt w.fP.Vt (k:Int)=2
   ·right;rw[A1r (by omega) (by omega),h k (Awu.2 ⟨⟨by omega,by omega⟩,by simpa using g⟩)];rfl
   ·left;exact g
  ·intro h x hx;obtain⟨⟨h1,h2⟩,h3⟩:=Awu.1 hx;rw[beq_iff_eq,show((x.toNat:Nat):Int)=x by omega]at h3
   rcases h x.toNat (by omega)with h4|h4
   ·rw[show((x.toNat:Nat):Int)=x by omega]at h4;exact absurd h3 h4
   ·rw[show((x.toNat:Nat):Int)=x by omega,A1r h1 (by omega)]at h4;omega
 have c2:(∀x∈A37 w,(slL w.fQ).count x=1) ↔ ∀k,k<w.fL.length->(gt w.fL (k:Int)).Vt≠2∨gt (Alh w.fL.length (slL w.fQ)) (k:Int)=1:=by
  constructor
  ·intro h k hk
   by_cases g:(gt w.fL (k:Int)).Vt=2
   ·right;rw[A1r (by omega) (by omega),h k (Awu.2 ⟨⟨by omega,by omega⟩,by simpa using g⟩)];rfl
   ·left;exact g
  ·intro h x hx;obtain⟨⟨h1,h2⟩,h3⟩:=Awu.1 hx;rw[beq_iff_eq,show((x.toNat:Nat):Int)=x by omega]at h3
   rcases h x.toNat (by omega)with h4|h4
   ·rw[show((x.toNat:Nat):Int)=x by omega]at h4;exact absurd h3 h4
   ·rw[show((x.toNat:Nat):Int)=x by omega,A1r h1 (by omega)]at h4;omega
 have c3:(∀x∈A7b w,(kdL w.fL w.fQ).count x=1) ↔ ∀k,k<w.fL.length->Axx w.fL (k:Int)=false∨gt (Alh w.fL.length (kdL w.fL w.fQ)) (k:Int)=1:=by
  constructor
  ·intro h k hk;cases g:Axx w.fL (k:Int)with
   |true=>
    right;rw[A1r (by omega) (by omega),h k (Awu.2 ⟨⟨by omega,by omega⟩,by simpa using g⟩)];rfl
   |false=>left;rfl
  ·intro h x hx;obtain⟨⟨h1,h2⟩,h3⟩:=Awu.1 hx;rw[show((x.toNat:Nat):Int)=x by omega]at h3
   rcases h x.toNat (by omega)with h4|h4
   ·rw[show((x.toNat:Nat):Int)=x by omega,h3]at h4;cases h4
   ·rw[show((x.toNat:Nat):Int)=x by omega,A1r h1 (by omega)]at h4;omega
 rw[←c1,e1]
 have hsplit:(∀k,k<w.fL.length->((gt w.fL (k:Int)).Vt≠2∨gt (Alh w.fL.length (slL w.fQ)) (k:Int)=1)∧(Axx w.fL (k:Int)=false∨gt (Alh w.fL.length (kdL w.fL w.fQ)) (k:Int)=1)) ↔ (((slL w.fQ).Nodup∧(slL w.fQ).length=(A37 w).length)∧((kdL w.fL w.fQ).Nodup∧(kdL w.fL w.fQ).length=(A7b w).length)):=by
  rw[←show _ ↔ ((slL w.fQ).Nodup∧(slL w.fQ).length=(A37 w).length) from c2.symm.trans e2,←show _ ↔ ((kdL w.fL w.fQ).Nodup∧(kdL w.fL w.fQ).length=(A7b w).length) from c3.symm.trans e3]
  exact⟨fun h=>⟨fun k hk=>(h k hk).1,fun k hk=>(h k hk).2⟩,fun h k hk=>⟨h.1 k hk,h.2 k hk⟩⟩
 rw[hsplit];constructor
 ·rintro⟨⟨a1,a2⟩,⟨a3,a4⟩,a5,a6⟩;exact⟨⟨a1,a3⟩,a5,by omega,by omega,by omega⟩
 ·rintro⟨⟨a1,a3⟩,a5,a2,a4,a6⟩;exact⟨⟨a1,by omega⟩,⟨a3,by omega⟩,a5,by omega⟩
theorem A6p{α β:Type}{K:Nat}(hK:281474976710656≤K)(l:List α)(hl:l.length≤140737488355328)(q:α->Bool)(fin bad:Option β)(L:Nat->Nat->Option β)
  (hs: ∀n (i:Nat) (h:i<l.length),L (n+1) i=bif q l[i]then L n (i+1)else bad)
  (he: ∀n,L (n+1) l.length=fin):L K 0=bif l.all q then fin else bad:=by
 have:=Bez l q fin bad (fun n i=>L n i.toNat) (fun n i h=>by simpa using hs n i h) (fun n=>by simpa using he n) K 0 (Z21 _) (by omega)
 simpa using this
section
variable {K:Nat} (hK:281474976710656≤K)
include hK
theorem Bgx (w:C8)(hw:Ano w):Aek K (Alh w.fL.length (slL w.fQ)) (Alh w.fL.length (kdL w.fL w.fQ)) w.fL K (w.fL.length:Int) 0 w.fL=some ((List.range w.fL.length).all (fun k=>(!((gt w.fL (k:Int)).Vt==2)||gt (Alh w.fL.length (slL w.fQ)) k==1)&&(!Axx w.fL k||gt (Alh w.fL.length (kdL w.fL w.fQ)) k==1))):=by
 have hl:=Aej hw.l
 rw[Ap7 hK w.fL.length (by omega) (fun k=>(!((gt w.fL (k:Int)).Vt==2)||gt (Alh w.fL.length (slL w.fQ)) k==1)&&(!Axx w.fL k||gt (Alh w.fL.length (kdL w.fL w.fQ)) k==1)) (some true) (fun n i=>Aek K (Alh w.fL.length (slL w.fQ)) (Alh w.fL.length (kdL w.fL w.fQ)) w.fL n (w.fL.length:Int) i w.fL) (fun n i h=> ?_) (fun n=> ?_)]
 ·cases (List.range w.fL.length).all _<;>rfl
 ·simp only[Aek,Ali];rw[Ae4 h,cond_true,if_pos (Ajc h),A54 K hw.l (Ajc h),Aep (by omega)]
  simp only[Z0,A3c,if_pos (Ajc h),bne,Abt];cases (gt w.fL (i:Int)).Vt==2<;>cases gt (Alh w.fL.length (slL w.fQ)) (i:Int)==1<;>cases Axx w.fL i<;>cases gt (Alh w.fL.length (kdL w.fL w.fQ)) (i:Int)==1<;>rfl
 ·show Aek K _ _ _ (n+1) _ _ _=_;rw[Aek,Afn (Z9 _),cond_false]
theorem Bgy (w:C8)(hw:Ano w)(hp:Ava w.fC w.fP=true):Ag6 K (Alh w.fC.Az.toNat (chL w.fQ)) (Alh w.fL.length (slL w.fQ)) (Alh w.fL.length (kdL w.fL w.fQ)) w.fP.Vt w.fL K (w.fP.Vt.length:Int) 0 w.fP.Vt=some (Axp w w.fC.Az.toNat):=by
 obtain⟨hc,hm,hst,_⟩:=Atu hp;obtain⟨b1,_⟩:=Gx hc
 rw[Ap7 hK w.fP.Vt.length (by omega) (fun k=> !(gt w.fP.Vt k==2)||gt (Alh w.fC.Az.toNat (chL w.fQ)) k==1) (some ((List.range w.fL.length).all (fun k=>(!((gt w.fL (k:Int)).Vt==2)||gt (Alh w.fL.length (slL w.fQ)) k==1)&&(!Axx w.fL k||gt (Alh w.fL.length (kdL w.fL w.fQ)) k==1)))) (fun n i=>Ag6 K (Alh w.fC.Az.toNat (chL w.fQ)) (Alh w.fL.length (slL w.fQ)) (Alh w.fL.length (kdL w.fL w.fQ)) w.fP.Vt w.fL n (w.fP.Vt.length:Int) i w.fP.Vt) (fun n i h=> ?_) (fun n=> ?_)]
 ·rw[Ak9];rfl
 ·simp only[Ag6,Aq5];rw[Ae4 h,cond_true,if_pos (Ajc h),Aep (by omega)]
  simp only[A3c,if_pos (show(0:Int)≤(i:Int)∧(i:Int)<((w.fC.Az.toNat:Nat):Int) from⟨by omega,by omega⟩),bne,Abt]
  cases gt w.fP.Vt (i:Int)==2<;>cases gt (Alh w.fC.Az.toNat (chL w.fQ)) (i:Int)==1<;>rfl
 ·show Ag6 K _ _ _ _ _ (n+1) _ _ _=_;rw[Ag6,Afn (Z9 _),cond_false,Bgx hK w hw]
theorem Bby{β:Type}(N:Nat)(base l:List Int)(hin: ∀x∈l,0≤x∧x<(N:Int))(hl:base.length+l.length≤140737488355327)(q:Int->Bool)(fin bad:Option β)(L:Nat->List Int->Int->Option β)
  (hs: ∀n v (i:Nat) (h:i<l.length),v.length=N->L (n+1) v (i:Int)=bif q l[i]then L n (v.set (l[i]).toNat (An7 .i64 (gt v l[i]) 1)) ((i+1:Nat):Int)else bad)
  (he: ∀n,L (n+1) (Alh N (base++l)) (l.length:Int)=fin):L K (Alh N base) 0=bif l.all q then fin else bad:=by
 have:=A6p hK l (by omega) q fin bad (fun n i=>L n (Alh N (base++l.take i)) (i:Int)) (fun n i h=> ?_) (fun n=> ?_)
 ·simpa using this
 ·have hb:(base++l.take i).length≤140737488355327:=by simp;omega
  have h1:=hin _ (List.getElem_mem h);rw[hs n _ i h (A3c _ _),Bbw h1.1 h1.2 hb,Lc,List.take_append_getElem]
 ·simp only[List.take_length];exact he n
theorem Bdo (w:C8)(hw:Ano w)(hp:Ava w.fC w.fP=true)(hL:(w.fL.length:Int)=w.fC.Fb)(x:A1)(hx:A04 x)(c s d:List Int)(i:Nat)(n:Nat)(hi:i<w.fQ.length)(he:gt w.fQ i=x)
  (hb1:c.length+12≤140737488355327) (hb2:s.length≤140737488355326) (hb3:d.length+8≤140737488355327):
  K0 K (n+1) (Alh w.fC.Az.toNat c) (Alh w.fL.length s) (Alh w.fL.length d) w.fQ (w.fQ.length:Int) i w.fC.Az w.fC.Hi w.fC.Fb w.fC.G8 w.fC.Fc w.fC.Hj w.fP.Pm w.fP.Vt w.fP.Pn w.fL w.fQ w.Adf
   =bif Anm w x then K0 K n (Alh w.fC.Az.toNat (c++x.Az)) (Alh w.fL.length (s++if x.Bk=0 then []else [An8 .i64 x.Bk 1])) (Alh w.fL.length (d++Alc w.fL x.Eg)) w.fQ (w.fQ.length:Int) ((i+1:Nat):Int) w.fC.Az w.fC.Hi w.fC.Fb w.fC.G8 w.fC.Fc w.fC.Hj w.fP.Pm w.fP.Vt w.fP.Pn w.fL w.fQ w.Adf else some false:=by
 have hq:=hw.q.2;rw[K0];rw[show Eb.mk w.fC.Az w.fC.Hi w.fC.Fb w.fC.G8 w.fC.Fc w.fC.Hj=w.fC from rfl,show Dp.mk w.fP.Pm w.fP.Vt w.fP.Pn=w.fP from rfl]
 rw[Ae4 hi,cond_true,if_pos (Ajc hi),he,A8n hK _ _ hx,Z0];unfold Anm;cases hr:Ana w.fC x with
 |false=>rfl
 |true=>
 rw[cond_true,Z30];obtain⟨hc,⟨s1,s2⟩,⟨f1,f2⟩,hd,d1,d2⟩:=Aq6 hr;obtain⟨_,hm,hst,_⟩:=Atu hp;obtain⟨b1,b2,b3,_⟩:=Gx hc
 have hch:=Axn hd
 have hcl:=Asi hc hd
 have h5: ∀s',Apu K (Alh w.fL.length d) w.fQ (w.fQ.length:Int) i w.fC.Az w.fC.Hi w.fC.Fb w.fC.G8 w.fC.Fc w.fC.Hj w.fP.Pm w.fP.Vt w.fP.Pn w.fL w.fQ w.Adf x.Eg (Alh w.fC.Az.toNat (c++x.Az)) s' (K0 K n)
   =bif Asq w x then K0 K n (Alh w.fC.Az.toNat (c++x.Az)) s' (Alh w.fL.length (d++Alc w.fL x.Eg)) w.fQ (w.fQ.length:Int) ((i+1:Nat):Int) w.fC.Az w.fC.Hi w.fC.Fb w.fC.G8 w.fC.Fc w.fC.Hj w.fP.Pm w.fP.Vt w.fP.Pn w.fL w.fQ w.Adf else some false:=by
  intro s'
  have hk:=A3y (l:=w.fL) w.fL.length (An8 .i64 x.Eg 1)
  have hin:=A4t (l:=w.fL) w.fL.length (An8 .i64 x.Eg 1);unfold Apu Asq;rw[Bbu hK hw.l,Z0];change (Alc w.fL x.Eg).length≤_ at hk;change ∀y∈Alc w.fL x.Eg,_ at hin;generalize Alc w.fL x.Eg=r at*
  refine Bby hK w.fL.length d r hin (by omega) (Axx w.fL) _ _ (fun m v j=>Ak2 K w.fQ (w.fQ.length:Int) i w.fC.Az w.fC.Hi w.fC.Fb w.fC.G8 w.fC.Fc w.fC.Hj w.fP.Pm w.fP.Vt w.fP.Pn w.fL w.fQ w.Adf (Alh w.fC.Az.toNat (c++x.Az)) s' r (K0 K n) m v (r.length:Int) j) (fun m v j hj hv=> ?_) (fun m=> ?_)
  ·have hr1:=hin _ (Apg hj);simp only[Ak2];rw[Ae4 hj,cond_true,if_pos (Ajc hj),if_pos (by rw[hv];exact hr1),if_pos (by rw[hv];exact hr1),A54 K hw.l hr1,Aep (by omega),Z0,Abt,P2 hj]
  ·show Ak2 K _ _ _ _ _ _ _ _ _ _ _ _ _ _ _ _ _ _ _ (m+1) _ _ _=_;rw[Ak2,Afn (Z9 _),cond_false,Aep (by omega)]
 have h4: ∀s',Apv K (Alh w.fL.length d) w.fQ (w.fQ.length:Int) i w.fC.Az w.fC.Hi w.fC.Fb w.fC.G8 w.fC.Fc w.fC.Hj w.fP.Pm w.fP.Vt w.fP.Pn w.fL w.fQ w.Adf x.Eg (Alh w.fC.Az.toNat (c++x.Az)) (K0 K n) s'
   =bif Ayv w x&&Asq w x then K0 K n (Alh w.fC.Az.toNat (c++x.Az)) s' (Alh w.fL.length (d++Alc w.fL x.Eg)) w.fQ (w.fQ.length:Int) ((i+1:Nat):Int) w.fC.Az w.fC.Hi w.fC.Fb w.fC.G8 w.fC.Fc w.fC.Hj w.fP.Pm w.fP.Vt w.fP.Pn w.fL w.fQ w.Adf else some false:=by
  intro s';unfold Apv Ayv;rw[h5]
  by_cases g:x.Eg=0
  ·rw[g];rfl
  ·rw[decide_eq_true (by omega),cond_true,if_pos (A4u hK hL hc g f1 f2),Ah0 g]
   simp only[bne,Abt,Z52];cases (gt w.fL (An8 .i64 x.Eg 1)).S8==0<;>rfl
 have h2:Apw K (Alh w.fC.Az.toNat c) (Alh w.fL.length s) (Alh w.fL.length d) w.fQ (w.fQ.length:Int) i w.fC.Az w.fC.Hi w.fC.Fb w.fC.G8 w.fC.Fc w.fC.Hj w.fP.Pm w.fP.Vt w.fP.Pn w.fL w.fQ w.Adf (K0 K n) x.Bk x.Eg x.Fo x.Az x.Xa
   =bif A2j w x&&(Awt w x&&(Ayv w x&&Asq w x))then K0 K n (Alh w.fC.Az.toNat (c++x.Az)) (Alh w.fL.length (s++if x.Bk=0 then []else [An8 .i64 x.Bk 1])) (Alh w.fL.length (d++Alc w.fL x.Eg)) w.fQ (w.fQ.length:Int) ((i+1:Nat):Int) w.fC.Az w.fC.Hi w.fC.Fb w.fC.G8 w.fC.Fc w.fC.Hj w.fP.Pm w.fP.Vt w.fP.Pn w.fL w.fQ w.Adf else some false:=by
  unfold Apw;rw[Bby hK w.fC.Az.toNat c x.Az (fun y hy=>by have:=hch y hy;omega) (by omega) (fun k=>gt w.fP.Vt k==2)
   (bif Awt w x&&(Ayv w x&&Asq w x)then K0 K n (Alh w.fC.Az.toNat (c++x.Az)) (Alh w.fL.length (s++if x.Bk=0 then []else [An8 .i64 x.Bk 1])) (Alh w.fL.length (d++Alc w.fL x.Eg)) w.fQ (w.fQ.length:Int) ((i+1:Nat):Int) w.fC.Az w.fC.Hi w.fC.Fb w.fC.G8 w.fC.Fc w.fC.Hj w.fP.Pm w.fP.Vt w.fP.Pn w.fL w.fQ w.Adf else some false) (some false)
   (fun m v j=>Ak3 K (Alh w.fL.length s) (Alh w.fL.length d) w.fQ (w.fQ.length:Int) i w.fC.Az w.fC.Hi w.fC.Fb w.fC.G8 w.fC.Fc w.fC.Hj w.fP.Pm w.fP.Vt w.fP.Pn w.fL w.fQ w.Adf x.Bk x.Eg x.Az (K0 K n) m v (x.Az.length:Int) j x.Az) (fun m v j hj hv=> ?_) (fun m=> ?_)]
  ·unfold A2j;cases x.Az.all _<;>rfl
  ·have hr1:=hch _ (Apg hj);simp only[Ak3];rw[Ae4 hj,cond_true,if_pos (Ajc hj),if_pos (by rw[hv];omega),if_pos (by rw[hv];omega),if_pos ⟨hr1.1,by omega⟩,Aep (by omega),bne,Abt,P2 hj]
  ·show Ak3 K _ _ _ _ _ _ _ _ _ _ _ _ _ _ _ _ _ _ _ _ _ (m+1) _ _ _ _=_;rw[Ak3,Afn (Z9 _),cond_false,h4,h4,A3c];unfold Awt
   by_cases g:x.Bk=0
   ·rw[g,if_pos rfl,List.append_nil];rfl
   ·have hlk:=A4u hK hL hc g s1 s2;rw[decide_eq_true (by omega),cond_true,if_pos hlk,if_pos hlk,if_neg g,Bbw hlk.1 hlk.2 (by omega),Ah0 g]
    simp only[bne,Abt,Z52,if_pos hlk];cases (gt w.fL (An8 .i64 x.Bk 1)).Vt==2<;>rfl
 rw[h2];unfold Ape
 by_cases g:(x.Az.length:Int)>0
 ·have h5:=hch _ (Alb (l:=x.Az) (Int.le_refl 0) (by omega))
  obtain⟨e1,e2,e3,e4⟩:=A12 hc hm h5.1 h5.2
  have hlc:(At7 w.fC w.fP.Pm (gt x.Az 0)).length=w.fC.Hi.toNat:=by unfold At7;simp;omega
  have htk:List.take (x.Xa - 0).toNat (List.drop (0:Int).toNat (At7 w.fC w.fP.Pm (gt x.Az 0)))=List.take x.Xa.toNat (List.drop (gt x.Az 0*w.fC.Hi).toNat w.fP.Pm):=by
   unfold At7;simp only[Int.sub_zero,Int.toNat_zero,Z55,List.take_take];rw[Nat.min_eq_left (by omega)]
  rw[decide_eq_true g,cond_true,if_pos ⟨by omega,by omega⟩,A61 hK hc hm h5.1 h5.2,Z0,if_pos ⟨by omega,by omega,by rw[hlc];omega⟩,htk,A28 hK _ (by simp;omega)]
  simp only[Z0,Abt,Bool.not_true,Z52];cases Ap3 (List.take x.Xa.toNat (List.drop (gt x.Az 0*w.fC.Hi).toNat w.fP.Pm))<;>cases A2j w x<;>rfl
 ·rw[decide_eq_false g];simp only[cond_false,Bool.not_false,Bool.true_or,Z30]
theorem Be4 (q:List A1):(slL q).length≤q.length:=by
 have:=A4v q (fun x=>if x.Bk=0 then []else [An8 .i64 x.Bk 1]) 1 (fun x _=>by split<;>simp)
 simpa[slL]using this
theorem A90 (l:List Au)(hl:l.length≤8)(q:List A1):(kdL l q).length≤q.length*8:=
 A4v _ _ 8 fun x _=>Tg (A3y _ _) hl
end
theorem Bdp{β:Type}(N:Nat)(hN:N≤140737488355327)(q:Nat->Bool)(fin:Int->Option β)(L:Nat->Int->Int->Option β)
  (hs: ∀n (v:Int) (i:Nat),i<N->0≤v->v≤i->L (n+1) v (i:Int)=bif q i then L n (v+1) ((i+1:Nat):Int)else L n v ((i+1:Nat):Int))
  (he: ∀n v,L (n+1) v (N:Int)=fin v):
  ∀(n i:Nat) (v:Int),0≤v->v≤i->i≤N->N - i<n->L n v (i:Int)=fin (v+((((List.range N).drop i).filter q).length:Int)):=by
 intro n
 induction n with
 |zero=>intro i v _ _ _ h;omega
 |succ n ih=>
  intro i v h0 hv hi hn;rcases E4 i N with h|h
  ·rw[hs n v i h h0 hv,Z47 (by simpa using h),List.getElem_range,List.filter_cons]
   cases hq:q i with
   |true=>
    rw[cond_true,ih (i+1) _ (by omega) (by omega) (by omega) (by omega)]
    simp only[if_true,Xf]
    congr 1
    omega
   |false=>
    rw[cond_false,ih (i+1) _ (by omega) (by omega) (by omega) (by omega)]
    simp
  ·obtain rfl:i=N:=by omega
   rw[he,Z48 (by simp)];simp
theorem A91{v:Int}(h0:0≤v)(h:v≤140737488355328):An7 .i64 v 1=v+1:=by unfold An7;rw[Ht (by omega) (by omega)]
section
variable {K:Nat} (hK:281474976710656≤K)
include hK
theorem A92 (w:C8)(hw:Ano w)(hp:Ava w.fC w.fP=true)(hL:(w.fL.length:Int)=w.fC.Fb):Asg K w=some (w.fQ.all (Anm w)&&Axp w w.fC.Az.toNat):=by
 obtain⟨hc,hm,hst,_⟩:=Atu hp;obtain⟨b1,b2,b3,_⟩:=Gx hc
 have hq:=hw.q.2
 have key: ∀(n i:Nat),(∀x∈w.fQ.take i,Anm w x=true)->i≤w.fQ.length->w.fQ.length - i<n→
   K0 K n (Alh w.fC.Az.toNat (chL (w.fQ.take i))) (Alh w.fL.length (slL (w.fQ.take i))) (Alh w.fL.length (kdL w.fL (w.fQ.take i))) w.fQ (w.fQ.length:Int) i w.fC.Az w.fC.Hi w.fC.Fb w.fC.G8 w.fC.Fc w.fC.Hj w.fP.Pm w.fP.Vt w.fP.Pn w.fL w.fQ w.Adf=some ((w.fQ.drop i).all (Anm w)&&Axp w w.fC.Az.toNat):=by
  intro n
  induction n with
  |zero=>intro i _ _ h;omega
  |succ n ih=>
   intro i hpre hi hn;rcases E4 i w.fQ.length with h|h
   ·have hb1:(chL (w.fQ.take i)).length≤(w.fQ.take i).length*12:=A4v _ _ 12 fun x hx=>by
     have:=hpre x hx;unfold Anm at this;simp only[Z4]at this;obtain⟨hc,_,_,hd,_⟩:=Aq6 this.1;exact Asi hc hd
    have hb2:=Be4 hK (w.fQ.take i)
    have hb3:=A90 hK w.fL (by omega) (w.fQ.take i)
    rw[List.length_take]at hb1 hb2 hb3;rw[Bdo hK w hw hp hL w.fQ[i] (hw.q.1 _ (List.getElem_mem h)) _ _ _ i n h (P2 h) (by omega) (by omega) (by omega),Z47 h,Fw]
    cases hx:Anm w w.fQ[i]with
    |false=>rfl
    |true=>
     rw[cond_true,Z30,←ih (i+1) (fun x hx2=>by
      rw[←List.take_append_getElem h,Gh]at hx2;rcases hx2 with hx2|hx2
      ·exact hpre x hx2
      ·simp only[Mx]at hx2;rw[hx2];exact hx) h (by omega)]
     unfold chL slL kdL;rw[A0v _ _ _ h,A0v _ _ _ h,A0v _ _ _ h]
   ·obtain rfl:i=w.fQ.length:=by omega
    rw[K0,Afn (Z9 _),cond_false,List.take_length,Bgy hK w hw hp,List.drop_length];rfl
 unfold Asg;rw[if_pos ⟨by omega,by omega,by omega,by omega⟩,if_pos ⟨by omega,by omega,by omega,by omega⟩,if_pos ⟨by omega,by omega,by omega,by omega⟩]
 have:=key K 0 (fun x hx=>by simp at hx) (Z21 _) (by omega)
 rw[List.take_zero,Z55,show chL []=[] from rfl,show slL []=[] from rfl,show kdL w.fL []=[] from rfl,Bbv,Bbv]at this
 rw[←this,show w.fL.length=w.fC.Fb.toNat by omega]
 rfl
theorem A93 (p:Dp)(st:Int)(hl:p.Vt.length≤140737488355327):Aye K p st=some ((((List.range p.Vt.length).filter (fun k:Nat=>gt p.Vt k==st)).length:Nat):Int):=by
 unfold Aye
 have:=Bdp p.Vt.length hl (fun k:Nat=>gt p.Vt k==st) some (fun n v i=>Ao8 K st n v i p.Pm p.Vt p.Pn) (fun n v i hi h0 hv=> ?_) (fun n v=> ?_) K 0 0 (Int.le_refl _) (Int.le_refl _) (Z21 _) (by omega)
 ·simpa using this
 ·simp only[Ao8,Av2];rw[Ae4 hi,cond_true,if_pos (Ajc hi),Aep (by omega),A91 h0 (by omega)]
 ·show Ao8 K st (n+1) v _ _ _ _=_;rw[Ao8,Afn (Z9 _),cond_false]
theorem A2v (l:List Au)(st:Int)(hl:l.length≤140737488355327):Aqp K l st=some ((((List.range l.length).filter (fun k:Nat=>(gt l k).Vt==st)).length:Nat):Int):=by
 unfold Aqp
 have:=Bdp l.length hl (fun k:Nat=>(gt l k).Vt==st) some (fun n v i=>Ald K l st n v i) (fun n v i hi h0 hv=> ?_) (fun n v=> ?_) K 0 0 (Int.le_refl _) (Int.le_refl _) (Z21 _) (by omega)
 ·simpa using this
 ·simp only[Ald,Asn];rw[Ae4 hi,cond_true,if_pos (Ajc hi),Aep (by omega),A91 h0 (by omega)]
 ·show Ald K l st (n+1) v _=_;rw[Ald,Afn (Z9 _),cond_false]
theorem Bdq (w:C8)(hw:Ano w)(v1 v2:Int)(v3:List Int)(h3:v3.length≤140737488355327):
  Air K v1 v2 v3 w.fP.Pm w.fP.Vt w.fP.Pn w.fL K 0 0=some (A5m v3&&((v1==((A56 w).length:Int))&&((v2==((A37 w).length:Int))&&((v3.length:Int)==((A7b w).length:Int))))):=by
 have hl:=Aej hw.l
 have hs:=Ay8 hK hw.p.st
 have h8: ∀v24,Al3 K v1 v2 v3 w.fP.Pm w.fP.Vt w.fP.Pn w.fL v24 K 0=some (A5m v3&&((v1==((A56 w).length:Int))&&((v2==((A37 w).length:Int))&&((v3.length:Int)==v24)))):=by
  intro v24;rw[Ap7 hK v3.length (by omega) (fun i=> !(v3.take i).contains (gt v3 i)) (some ((v1==((A56 w).length:Int))&&((v2==((A37 w).length:Int))&&((v3.length:Int)==v24)))) (fun n i=>Al3 K v1 v2 v3 w.fP.Pm w.fP.Vt w.fP.Pn w.fL v24 n i) (fun n i h=> ?_) (fun n=> ?_)]
  ·rw[Ak9];rfl
  ·have hp:(v3.take i).length≤140737488355328:=by simp;omega
   simp only[Al3];rw[Ae4 h,cond_true,if_pos (Bbk (by omega)),if_pos (Ajc h),A5h,A01 hK _ _ hp,Aep (by omega),Z0,Abt]
  ·show Al3 K v1 v2 v3 _ _ _ _ v24 (n+1) _=_;rw[Al3,Afn (Z9 _),cond_false,A93 hK _ _ hs,A2v hK _ _ hl];simp only[Z0,Ak9];unfold A56 A37;simp only[Bu]
 have:=Bdp w.fL.length hl (fun k:Nat=>Axx w.fL k) (fun v=>some (A5m v3&&((v1==((A56 w).length:Int))&&((v2==((A37 w).length:Int))&&((v3.length:Int)==v))))) (fun n v i=>Air K v1 v2 v3 w.fP.Pm w.fP.Vt w.fP.Pn w.fL n v i) (fun n v i hi h0 hv=> ?_) (fun n v=> ?_) K 0 0 (Int.le_refl _) (Int.le_refl _) (Z21 _) (by omega)
 ·rw[show((0:Nat):Int)=0 from rfl]at this
  rw[this];unfold A7b;simp only[Bu,Z55,Int.zero_add]
 ·simp only[Air,At5];rw[Ae4 hi,cond_true,A53 K hw.l (Ajc hi),Z0,Aep (by omega),A91 h0 (by omega)]
 ·show Air K v1 v2 v3 _ _ _ _ (n+1) v _=_;rw[Air,Afn (Z9 _),cond_false,h8]
theorem Bbz (w:C8)(hw:Ano w)(i n:Nat)(hi:i<w.fQ.length)(v1 v2:Int)(v3:List Int)(h1:0≤v1∧v1≤70368744177664)(h2:0≤v2∧v2≤70368744177664)(h3:(v3.length+w.fL.length)*8≤140737488355327)(hcl:(gt w.fQ i).Az.length≤12):
  Ag3 K (n+1) v1 v2 v3 i w.fC.Az w.fC.Hi w.fC.Fb w.fC.G8 w.fC.Fc w.fC.Hj w.fP.Pm w.fP.Vt w.fP.Pn w.fL w.fQ w.Adf
   =bif (List.range i).all (fun k=>A4d w.fQ i k)then Ag3 K n (v1+((gt w.fQ i).Az.length:Int)) (v2+((if(gt w.fQ i).Bk=0 then([]:List Int)else [An8 .i64 (gt w.fQ i).Bk 1]).length:Int)) (v3++Alc w.fL (gt w.fQ i).Eg) ((i+1:Nat):Int) w.fC.Az w.fC.Hi w.fC.Fb w.fC.G8 w.fC.Fc w.fC.Hj w.fP.Pm w.fP.Vt w.fP.Pn w.fL w.fQ w.Adf else some false:=by
 have hq:=hw.q.2
 have hm:=Wx
 have hx:=hw.q.1 _ (Apg hi)
 have hkl:=A3y (l:=w.fL) w.fL.length (An8 .i64 (gt w.fQ i).Eg 1);change (Alc w.fL (gt w.fQ i).Eg).length≤_ at hkl
 have hJ: ∀v17 v18,Arq K v3 i w.fC.Az w.fC.Hi w.fC.Fb w.fC.G8 w.fC.Fc w.fC.Hj w.fP.Pm w.fP.Vt w.fP.Pn w.fL w.fQ w.Adf (Ag3 K n) v17 v18
   =bif (List.range i).all (fun k=>A4d w.fQ i k)then Ag3 K n v17 v18 (v3++Alc w.fL (gt w.fQ i).Eg) ((i+1:Nat):Int) w.fC.Az w.fC.Hi w.fC.Fb w.fC.G8 w.fC.Fc w.fC.Hj w.fP.Pm w.fP.Vt w.fP.Pn w.fL w.fQ w.Adf else some false:=by
  intro v17 v18;unfold Arq
  have hlen:(v3++Alc w.fL (gt w.fQ i).Eg).length=v3.length+(Alc w.fL (gt w.fQ i).Eg).length:=by simp
  rw[if_pos (Ajc hi),A55 hK hw.l hx.first,Z0,if_pos ⟨by rw[hlen];omega,by rw[hlen];omega⟩]
  rw[Ap7 hK i (by omega) (fun k=>A4d w.fQ i k) _ (fun m k=>Al2 K i w.fC.Az w.fC.Hi w.fC.Fb w.fC.G8 w.fC.Fc w.fC.Hj w.fP.Pm w.fP.Vt w.fP.Pn w.fL w.fQ w.Adf v17 v18 (Ag3 K n) m (v3++Alc w.fL (gt w.fQ i).Eg) k) (fun m k hk=> ?_) (fun m=> ?_)]
  ·have hk2:k<w.fQ.length:=by omega
   have hlk:=Ay8 hK (hw.q.1 _ (Apg hk2)).chunks
   have h4: ∀C:List Int->Int->Option Bool,Arp K i w.fQ (v3++Alc w.fL (gt w.fQ i).Eg) k C=bif (gt w.fQ i).Az.all (fun y=> !(gt w.fQ k).Az.contains y)then C (v3++Alc w.fL (gt w.fQ i).Eg) ((k+1:Nat):Int)else some false:=by
    intro C;unfold Arp;rw[Asp hK (gt w.fQ i).Az (by omega) (fun y=> !(gt w.fQ k).Az.contains y) _ (fun m j=>Aou K i w.fQ (v3++Alc w.fL (gt w.fQ i).Eg) k C m j) (fun m j hj=> ?_) (fun m=> ?_)]
    ·simp only[Aou];rw[if_pos (Ajc hi),Ae4 hj,cond_true,if_pos (Ajc hk2),if_pos (Ajc hj),A01 hK _ _ (by omega),Z0,Aep (by omega),Abt,P2 hj,if_pos (Ajc hi)]
    ·show Aou K i w.fQ _ k C (m+1) _=_;rw[Aou,if_pos (Ajc hi),Afn (Z9 _),cond_false,Aep (by omega)]
   simp only[Al2];rw[Ae4 hk,cond_true,if_pos (Ajc hi),if_pos (Ajc hk2),if_pos (Ajc hi),h4];unfold A4d;cases (gt w.fQ (i:Int)).Bk != 0<;>cases (gt w.fQ (k:Int)).Bk==(gt w.fQ (i:Int)).Bk<;>cases (gt w.fQ i).Az.all _<;>rfl
  ·show Al2 K i _ _ _ _ _ _ _ _ _ _ _ _ v17 v18 _ (m+1) _ _=_;rw[Al2,Afn (Z9 _),cond_false,Aep (by omega)]
 rw[Ag3,Ae4 hi,cond_true,if_pos (Ajc hi),if_pos (Ajc hi),hJ,hJ]
 have e1:An7 .i64 v1 ((gt w.fQ i).Az.length:Int)=v1+((gt w.fQ i).Az.length:Int):=by unfold An7;rw[Ht (by omega) (by omega)]
 rw[e1,A91 h2.1 (by omega)]
 by_cases g:(gt w.fQ i).Bk=0
 ·rw[if_pos g,g];simp
 ·rw[if_neg g,Arb g];simp
theorem Bb0 (w:C8)(hw:Ano w)(hp:Ava w.fC w.fP=true)(hL:(w.fL.length:Int)=w.fC.Fb)(hall: ∀x∈w.fQ,Anm w x=true):Av3 K w=some (A6o w):=by
 obtain⟨hc,hm,hst,_⟩:=Atu hp;obtain⟨b1,b2,b3,_⟩:=Gx hc
 have hq:=hw.q.2
 have hc12: ∀x∈w.fQ,x.Az.length≤12:=fun x hx=>by
  have:=hall x hx;unfold Anm at this;simp only[Z4]at this;obtain⟨hc,_,_,hd,_⟩:=Aq6 this.1;exact Asi hc hd
 have h3:=A90 hK w.fL (by omega) w.fQ
 unfold Av3
 have:=A6p hK (List.range w.fQ.length) (by simp;omega) (fun i=>(List.range i).all (fun k=>A4d w.fQ i k)) (Air K ((chL w.fQ).length:Int) ((slL w.fQ).length:Int) (kdL w.fL w.fQ) w.fP.Pm w.fP.Vt w.fP.Pn w.fL K 0 0) (some false)
  (fun n i=>Ag3 K n ((chL (w.fQ.take i)).length:Int) ((slL (w.fQ.take i)).length:Int) (kdL w.fL (w.fQ.take i)) (i:Int) w.fC.Az w.fC.Hi w.fC.Fb w.fC.G8 w.fC.Fc w.fC.Hj w.fP.Pm w.fP.Vt w.fP.Pn w.fL w.fQ w.Adf) (fun n i h=> ?_) (fun n=> ?_)
 ·rw[List.take_zero,show chL []=[] from rfl,show slL []=[] from rfl,show kdL w.fL []=[] from rfl]at this
  refine Eq.trans this ?_;rw[Bdq hK w hw _ _ _ (by omega),Ak9]
  rfl
 ·have hi:i<w.fQ.length:=by simpa using h
  have hb1:(chL (w.fQ.take i)).length≤(w.fQ.take i).length*12:=A4v _ _ 12 fun x hx=>hc12 x (Zm hx)
  have hb2:=Be4 hK (w.fQ.take i)
  have hb3:=A90 hK w.fL (by omega) (w.fQ.take i)
  rw[List.length_take]at hb1 hb2 hb3;simp only[List.getElem_range];rw[Bbz hK w hw i n hi _ _ _ ⟨by omega,by omega⟩ ⟨by omega,by omega⟩ (by omega) (hc12 _ (Apg hi))]
  unfold chL slL kdL;rw[A0v _ _ _ hi,A0v _ _ _ hi,A0v _ _ _ hi,P2 hi,Jh,Jh];rfl
 ·rw[List.length_range,List.take_length,Ag3,Afn (Z9 _),cond_false]
end
def A5n (w:C8):Bool:=
 Ava w.fC w.fP&&(((w.fL.length:Int)==w.fC.Fb)&&((List.range w.fL.length).all (A50 w)&&(A52 w.fL&&((w.fQ.all (Anm w)&&Axp w w.fC.Az.toNat)&&w.Adf.all (fun x=>inB x 0 255)))))
section
variable {K:Nat} (hK:281474976710656≤K)
include hK
theorem A4w (w:C8)(hw:Ano w):Avu K w=some (A5n w):=by
 have hl:=Ay8 hK hw.log;unfold Avu A5n;rw[Bbi hK,Z0];cases hp:Ava w.fC w.fP with
 |false=>rfl
 |true=>
 rw[cond_true,Z30];cases hL:(w.fL.length:Int)==w.fC.Fb with
 |false=>rfl
 |true=>
 rw[beq_iff_eq]at hL;rw[cond_true,Z30,A9v hK w hw hp,Bbt hK hw.l,A92 hK w hw hp hL,A1x hK _ (by omega)]
 simp only[Z0,Ak9]
theorem A0r (w:C8)(hw:Ano w):Arr K w=some (A5n w):=by
 have hl:=Ay8 hK hw.log
 have hl2:=Aej hw.l
 have hq:=hw.q.2;unfold Arr A5n;rw[A5y hK,Z0];cases hp:Ava w.fC w.fP with
 |false=>rfl
 |true=>
 rw[cond_true,Z30];cases hL:(w.fL.length:Int)==w.fC.Fb with
 |false=>rw[bne,hL];rfl
 |true=>
 rw[bne,hL,Bool.not_true,cond_false,Z30,Bbs hK hw.l,Z0,Abt];rw[beq_iff_eq]at hL
 have e1:Eb.mk w.fC.Az w.fC.Hi w.fC.Fb w.fC.G8 w.fC.Fc w.fC.Hj=w.fC:=rfl
 have e2:C8.mk (Eb.mk w.fC.Az w.fC.Hi w.fC.Fb w.fC.G8 w.fC.Fc w.fC.Hj) (Dp.mk w.fP.Pm w.fP.Vt w.fP.Pn) w.fL w.fQ w.Adf=w:=rfl
 have h3:w.fQ.all (Anm w)=true->Apa K w.fC.Az w.fC.Hi w.fC.Fb w.fC.G8 w.fC.Fc w.fC.Hj w.fP.Pm w.fP.Vt w.fP.Pn w.fL w.fQ w.Adf K 0=some (w.Adf.all (fun x=>inB x 0 255)&&Axp w w.fC.Az.toNat):=by
  intro hall;rw[Z1]at hall;rw[Bt2 hp hL hall];rw[Asp hK w.Adf (by omega) (fun x=>inB x 0 255) (some (A6o w)) (Apa K w.fC.Az w.fC.Hi w.fC.Fb w.fC.G8 w.fC.Fc w.fC.Hj w.fP.Pm w.fP.Vt w.fP.Pn w.fL w.fQ w.Adf) (fun n i h=> ?_) (fun n=> ?_)]
  ·rw[Ak9]
  ·rw[Apa,Ae4 h,cond_true,if_pos (Ajc h),Aoh,Aep (by omega),Z0,Abt,P2 h]
  ·rw[Apa,Afn (Z9 _),cond_false,e2,Bb0 hK w hw hp hL hall,Z0]
 have h2:Aqb K w.fC.Az w.fC.Hi w.fC.Fb w.fC.G8 w.fC.Fc w.fC.Hj w.fP.Pm w.fP.Vt w.fP.Pn w.fL w.fQ w.Adf K 0=some (w.fQ.all (Anm w)&&(w.Adf.all (fun x=>inB x 0 255)&&Axp w w.fC.Az.toNat)):=by
  rw[Asp hK w.fQ (by omega) (Anm w) (Apa K w.fC.Az w.fC.Hi w.fC.Fb w.fC.G8 w.fC.Fc w.fC.Hj w.fP.Pm w.fP.Vt w.fP.Pn w.fL w.fQ w.Adf K 0) (Aqb K w.fC.Az w.fC.Hi w.fC.Fb w.fC.G8 w.fC.Fc w.fC.Hj w.fP.Pm w.fP.Vt w.fP.Pn w.fL w.fQ w.Adf) (fun n i h=> ?_) (fun n=> ?_)]
  ·cases hall:w.fQ.all (Anm w)with
   |false=>rfl
   |true=>rw[cond_true,h3 hall];rfl
  ·rw[Aqb,Ae4 h,cond_true,e2,A8o hK w hw hp hL i h,Aep (by omega),Z0,Abt,P2 h]
  ·rw[Aqb,Afn (Z9 _),cond_false]
 have h1:Apb K K 0 w.fC.Az w.fC.Hi w.fC.Fb w.fC.G8 w.fC.Fc w.fC.Hj w.fP.Pm w.fP.Vt w.fP.Pn w.fL w.fQ w.Adf=some ((List.range w.fL.length).all (A50 w)&&(w.fQ.all (Anm w)&&(w.Adf.all (fun x=>inB x 0 255)&&Axp w w.fC.Az.toNat))):=by
  rw[Ap7 hK w.fL.length (by omega) (A50 w) (some (w.fQ.all (Anm w)&&(w.Adf.all (fun x=>inB x 0 255)&&Axp w w.fC.Az.toNat))) (fun n i=>Apb K n i w.fC.Az w.fC.Hi w.fC.Fb w.fC.G8 w.fC.Fc w.fC.Hj w.fP.Pm w.fP.Vt w.fP.Pn w.fL w.fQ w.Adf) (fun n k hk=> ?_) (fun n=> ?_)]
  ·rw[Ak9]
  ·simp only[Apb];rw[e2,e1]
   have hn:=hw.l.1 _ (Apg hk)
   have l1:=Ay8 hK hn.chunks
   have l2:=Be2 hK hn.things
   have l3:=Ay8 hK hn.tags;rw[Ae4 hk,cond_true,if_pos (Ajc hk),Avv hK _ _ l1 l2 l3,Z0,A65 hK w k hk hw.p.st.2 l1,Aep (by omega),A8k hK _ _ l1 l2]
   simp only[Z0];unfold A50;cases hb:Aq2 w.fC (gt w.fL k)with
   |false=>rfl
   |true=>
   cases A1q w.fP k (gt w.fL k).Az with
   |false=>rfl
   |true=>
   cases hi:(gt w.fL k).Ga.all (Arw w.fC (gt w.fL k).Az)with
   |false=>simp only[cond_true,Z30,Bool.false_and,cond_false,if_pos (Ajc hk)]
   |true=>
   have hs:=A66 hi;rw[A8h hK _ l2 (fun t ht=>(hs t ht).1),Bdh hK w k hk hp hn hb hs];simp only[Z0,cond_true,Abt,Z30,if_pos (Ajc hk)];cases Apd (gt w.fL k).Ga<;>cases Aru w.fC w.fP.Pm (gt w.fL k)<;>rfl
  ·show Apb K (n+1) _ _ _ _ _ _ _ _ _ _ _ _ _=_;rw[Apb,Afn (Z9 _),cond_false,h2]
 rw[h1];cases A52 w.fL with
 |false=>rw[cond_false];simp
 |true=>
  simp only[cond_true,Z30,Z7]
  ac_rfl
end
theorem Bk0{n:Nat}(h:n≤reachBytes):n≤140737488355327:=by simp only[reachBytes]at h;omega
section
variable {K:Nat} (hK:281474976710656≤K)
include hK
end
theorem Bxn{x:Int}(h:Bbh x):0≤x∧x≤255:=by
 simpa[Bbh,Lit.wf,IntKind.min,IntKind.max,IntKind.signed,IntKind.bits]using h
theorem Bgz{l:List Int}(h:A9p l):Bkx l:=⟨fun x hx=>Bxn (h.1 x hx),by have:=Bk0 h.2.1;omega⟩
theorem Bzy{α:Type}(l:List α)(i:Nat)(x y:α):(l.set i x).set i y=l.set i y:=List.set_set ..
section
variable {K:Nat} (hK:281474976710656≤K)
include hK
def one{α:Type}(_:α):Nat:=1
def A1c (x:Au):Nat:=10+x.Az.length+3*x.Ga.length+x.Fo.length
def A7c (p:Dp):Nat:=p.Pm.length+p.Vt.length+p.Pn.length
end
section
variable {K:Nat} (hK:281474976710656≤K)
include hK
theorem A6q{α β:Type}(l:List α)(hl:l.length≤140737488355327)(fin:Option β)(L:Nat->List α->Int->Option β)
  (hs: ∀n v (i:Nat) (h:i<l.length),v.length=i->L (n+1) v (i:Int)=L n (v++[l[i]]) ((i+1:Nat):Int))
  (he: ∀n,L (n+1) l (l.length:Int)=fin):L K [] 0=fin:=by
 have:=A6p hK l (by omega) (fun _=>true) fin none (fun n i=>L n (l.take i) (i:Int)) (fun n i h=>by
  rw[hs n _ i h (by simp;omega),List.take_append_getElem];rfl) (fun n=>by rw[List.take_length];exact he n)
 rw[Z1.2 (fun _ _=>rfl)]at this;simpa using this
omit hK in
theorem A1s (K:Nat){p:Dp}(w:Ay4 p):Aq9 K p=some p:=by
 have hm:=Wx
 have h1:=w.mem.2
 have h2:=w.st.2
 have h3:=w.own.2;unfold Aq9;simp only[Zl];rw[if_pos ⟨by omega,by omega⟩,if_pos ⟨by omega,by omega⟩,if_pos ⟨by omega,by omega⟩]
omit hK in
theorem At3 (K:Nat){n:Au}(w:Aql n):An0 K n=some n:=by
 have hm:=Wx
 have h1:=w.chunks.2
 have h2:=w.things.2
 have h3:=w.tags.2;unfold An0;simp only[Zl];rw[if_pos ⟨by omega,by omega⟩,if_pos ⟨by omega,by omega⟩,if_pos ⟨by omega,by omega⟩]
theorem A2k{l:List Au}(w:Afd l):At4 K l=some l:=by
 have hm:=Wx
 have h2:=w.2;unfold At4;refine A6q hK l (Aej w) (some l) (fun n v i=>Ark K l n v i) (fun n v i h hv=> ?_) (fun n=> ?_)
 ·have hl:(v++[l[i]]).length=i+1:=by simp[hv]
  simp only[Ark];rw[Ae4 h,cond_true,if_pos (Ajc h),P2 h,At3 K (w.1 _ (List.getElem_mem h)),Z0,if_pos ⟨by rw[hl];omega,by rw[hl];omega⟩,Aep (by omega)]
 ·show Ark K l (n+1) _ _=_;rw[Ark,Afn (Z9 _),cond_false]
omit hK in
theorem A94 (K:Nat){x:A1}(w:A04 x):Ayd K x=some x:=by
 have hm:=Wx
 have h1:=w.tags.2
 have h2:=w.chunks.2;unfold Ayd;simp only[Zl];rw[if_pos ⟨by omega,by omega⟩,if_pos ⟨by omega,by omega⟩]
theorem Aq7{w:C8}(hw:Ano w):An1 K w=some w:=by
 have hm:=Wx
 have h2:=hw.q.2
 have h3:=hw.log.2;unfold An1;rw[A1s K hw.p,Z0,A2k hK hw.l,Z0]
 refine A6q hK w.fQ (by omega) (some w) (fun n v i=>Ap9 K n i w.fC.Az w.fC.Hi w.fC.Fb w.fC.G8 w.fC.Fc w.fC.Hj w.fP.Pm w.fP.Vt w.fP.Pn w.fL v w.Adf (C8.mk (Eb.mk 0 0 0 0 0 0) (Dp.mk [] [] []) [] [] []) w.fC.Az w.fC.Hi w.fC.Fb w.fC.G8 w.fC.Fc w.fC.Hj w.fP.Pm w.fP.Vt w.fP.Pn w.fL w.fQ w.Adf) (fun n v i h hv=> ?_) (fun n=> ?_)
 ·have hl:(v++[w.fQ[i]]).length=i+1:=by simp[hv]
  simp only[Ap9];rw[Ae4 h,cond_true,if_pos (Ajc h),P2 h,A94 K (hw.q.1 _ (List.getElem_mem h)),Z0,if_pos ⟨by rw[hl];omega,by rw[hl];omega⟩,Aep (by omega)]
 ·show Ap9 K (n+1) _ _ _ _ _ _ _ _ _ _ _ _ _ _ _ _ _ _ _ _ _ _ _ _ _ _=_;rw[Ap9,Afn (Z9 _),cond_false];simp only[Zl];rw[if_pos ⟨by omega,by omega⟩]
omit hK in
theorem A38 (K:Nat){p:Dp}(w:Ay4 p):Auo K p=some p:=by
 unfold Auo;rw[Bdf K w.mem.2,Aux K w.st.2,Aux K w.own.2];rfl
omit hK in
theorem A8p (K:Nat){n:Au}(w:Aql n):Axc K n=some n:=by
 unfold Axc;rw[Aux K w.chunks.2,Bbn K w.things.2,Aux K w.tags.2];rfl
theorem A3d{l:List Au}(w:Afd l):Ati K l=some l:=by
 have hm:=Wx
 have h2:=w.2;unfold Ati;refine A6q hK l (Aej w) (some l) (fun n v i=>Aoz K l n v (l.length:Int) i) (fun n v i h hv=> ?_) (fun n=> ?_)
 ·have hl:(v++[l[i]]).length=i+1:=by simp[hv]
  simp only[Aoz];rw[Ae4 h,cond_true,if_pos (Ajc h),P2 h,A8p K (w.1 _ (List.getElem_mem h)),Z0,if_pos ⟨by rw[hl];omega,by rw[hl];omega⟩,Aep (by omega)]
 ·show Aoz K l (n+1) _ _ _=_;rw[Aoz,Afn (Z9 _),cond_false]
omit hK in
theorem A7d (K:Nat){x:A1}(w:A04 x):Awa K x=some x:=by
 unfold Awa;rw[Aux K w.tags.2,Aux K w.chunks.2];rfl
theorem A7e{α:Type}(v:List α)(d x:α):(v++[d]).set (v.length:Int).toNat x=v++[x]:=by
 rw[Int.toNat_natCast,List.set_append_right _ _ (Z9 _)];simp
theorem Atw{w:C8}(hw:Ano w):Atj K w=some w:=by
 have hm:=Wx
 have h2:=hw.q.2;unfold Atj;rw[A38 K hw.p,Z0,A3d hK hw.l,Z0,Aux K hw.log.2,Z0];refine A6q hK w.fQ (by omega) (some w) (fun n v i=>Ao0 K n w.fQ (w.fQ.length:Int) i (C8.mk w.fC w.fP w.fL v w.Adf) (C8.mk (Eb.mk 0 0 0 0 0 0) (Dp.mk [] [] []) [] [] [])) (fun n v i h hv=> ?_) (fun n=> ?_)
 ·simp only[Ao0];rw[Ae4 h,cond_true,if_pos (Ajc h),P2 h,A7d K (hw.q.1 _ (List.getElem_mem h)),Z0,if_pos ⟨by omega,by omega⟩,Aep (by omega),A7e hK]
 ·show Ao0 K (n+1) _ _ _ _ _=_;rw[Ao0,Afn (Z9 _),cond_false]
end
def Bk1 (mem:List Int)(p n:Int):List Int×Bool:=if 0≤p∧0≤n∧p+n≤(mem.length:Int)then((mem.drop p.toNat).take n.toNat,true)else([],false)
theorem Boq{mem:List Int}(a b:Nat):((mem.drop a).take b).length≤mem.length:=by simp;omega
theorem Bb1 (K:Nat){mem:List Int}(hl:mem.length≤140737488355327)(p n:Int):Avo K mem p n=some (decide (0≤p∧0≤n∧p+n≤(mem.length:Int))):=by
 unfold Avo
 by_cases h1:(0:Int)≤p
 ·rw[decide_eq_true (show p≥0 from h1)]
  by_cases h2:(0:Int)≤n
  ·rw[decide_eq_true (show n≥0 from h2)]
   by_cases h3:p≤(mem.length:Int)
   ·rw[decide_eq_true h3];simp only[cond_true,Z7,decide_eq_decide];unfold An8;rw[Ht (by omega) (by omega)]
    omega
   ·rw[decide_eq_false h3];simp only[cond_true,cond_false,Z7];exact(decide_eq_false (by omega)).symm
  ·rw[decide_eq_false (show ¬n≥0 from h2)]
   simp only[cond_true,cond_false,Z7];exact(decide_eq_false (by omega)).symm
 ·rw[decide_eq_false (show ¬p≥0 from h1)]
  simp only[cond_false,Z7];exact(decide_eq_false (by omega)).symm
theorem Bdr (K:Nat){mem:List Int}(hl:mem.length≤140737488355327)(p n:Int):A0g K mem p n=some (Bk1 mem p n):=by
 unfold A0g Bk1;rw[Bb1 K hl];simp only[Z0]
 by_cases h:0≤p∧0≤n∧p+n≤(mem.length:Int)
 ·rw[decide_eq_true h,if_pos h]
  try simp only[cond_true]
  have e:An7 .i64 p n=p+n:=by unfold An7;rw[Ht (by omega) (by omega)]
  have hc:=Boq (mem:=mem) p.toNat (p+n - p).toNat;rw[e,if_pos ⟨by omega,by omega,by omega⟩,if_pos ⟨by simp only[Zl,Nat.mul_one];omega,by simp only[Zl,maxLen];omega⟩]
  rw[show p+n - p=n from by omega]
  rfl
 ·rw[decide_eq_false h,if_neg h];rfl
def Bk2 (mem:List Int)(t:Bd)(at_ n:Int):List Int×Bool:=if 0≤at_∧0≤n∧at_+n≤t.Aj0 then Bk1 mem (An7 .i64 t.fAt at_) n else([],false)
theorem Bk3{mem:List Int}{p n:Int}(h:p<0):Bk1 mem p n=([],false):=by unfold Bk1;rw[if_neg (by omega)]
theorem A7f (K:Nat){mem:List Int}(hl:mem.length≤140737488355327){t:Bd}(wt:ThingW t)(at_ n:Int):Av6 K mem t at_ n=some (Bk2 mem t at_ n):=by
 obtain⟨wl1,wl2⟩:=wt.2.1;unfold Av6 Ayh Bk2
 by_cases h1:(0:Int)≤at_
 ·rw[decide_eq_true (show at_≥0 from h1)]
  by_cases h2:(0:Int)≤n
  ·rw[decide_eq_true (show n≥0 from h2)]
   by_cases h3:at_≤t.Aj0
   ·rw[decide_eq_true h3]
    have e:An8 .i64 t.Aj0 at_=t.Aj0 - at_:=by unfold An8;rw[Ht (by omega) (by omega)]
    rw[e]
    by_cases h4:n≤t.Aj0 - at_
    ·rw[decide_eq_true h4,if_pos ⟨h1,h2,by omega⟩]
     simp only[cond_true,Bdr K hl];cases decide (t.fAt<0)with
     |true=>rfl
     |false=>
      by_cases h5:(0:Int)≤An7 .i64 t.fAt at_
      ·rw[decide_eq_true (show An7 .i64 t.fAt at_≥0 from h5)];rfl
      ·rw[decide_eq_false (show ¬An7 .i64 t.fAt at_≥0 from h5),Bk3 (by omega)];rfl
    ·rw[decide_eq_false h4,if_neg (by omega)];rfl
   ·rw[decide_eq_false h3,if_neg (by omega)];rfl
  ·rw[decide_eq_false (show ¬n≥0 from h2),if_neg (by omega)];rfl
 ·rw[decide_eq_false (show ¬at_≥0 from h1),if_neg (by omega)];rfl
def Bb2 (w:C8)(h:An):Int:=((Ai1 w.fL w.fL.length (At8 w.fL h)).length:Int)
theorem Bds{l:List Au}(hl:l.length≤140737488355327)(h:An):wfi (At8 l h):=by
 by_cases h0:At8 l h<0
 ·unfold At8 at *;split at h0
  ·rename_i h1;rw[if_pos h1]at *;obtain⟨⟨a,b⟩,_⟩:=h1;exact⟨by omega,by omega⟩
  ·rename_i h1;rw[if_neg h1];exact⟨by omega,by omega⟩
 ·have:=A5j h0;exact⟨by omega,by omega⟩
section
variable {K:Nat} (hK:281474976710656≤K)
include hK
theorem Azc (w:C8)(hw:Afd w.fL)(h:An):Api K w h=some (Bb2 w h):=by
 have hl:=Aej hw;unfold Api Awk;rw[A4s K hl,Z0,A2i hK hw _ (Bds hl h)];rfl
end
section
variable {β:Type} [Inhabited β]
end
section
variable {K:Nat} (hK:281474976710656≤K)
include hK
end
section
variable {K:Nat} (hK:281474976710656≤K)
include hK
end
theorem Be5{β:Type}(f:β->Nat): ∀(l:List β) (i:Nat) (h:i<l.length) (x:β),((l.set i x).map f).sum+f l[i]=(l.map f).sum+f x
 |[],i,h,x=>by simp at h
 |y::l,0,h,x=>by simp;omega
 |y::l,i+1,h,x=>by
  have:=Be5 f l i (by simpa using h) x
  simp only[List.set_cons_succ,Z8,List.sum_cons,List.getElem_cons_succ]at this ⊢;omega
theorem Axt{l:List Au}(hl:Afd l)(i:Nat){x:Au}(hx:Aql x):Afd (l.set i x):=
 ⟨fun y hy=>(Z54 hy).elim (hl.1 y) (fun e=>e ▸ hx),by rw[Z49];exact hl.2⟩
def A1j (p:Dp)(k:Int):Dp:=if(0≤k∧k<(p.Vt.length:Int)∧k<(p.Pn.length:Int))∧gt p.Vt k=1 then Dp.mk p.Pm (p.Vt.set k.toNat 2) (p.Pn.set k.toNat (-1))else p
theorem A6r{p:Dp}(hp:Ay4 p)(k:Int):Ay4 (A1j p k)∧A7c (A1j p k)=A7c p:=by
 unfold A1j;split
 ·refine⟨⟨hp.mem,⟨fun x hx=> ?_,by rw[Z49];exact hp.st.2⟩,⟨fun x hx=> ?_,by rw[Z49];exact hp.own.2⟩⟩,by simp[A7c]⟩
  ·rcases Z54 hx with h|h
   ·exact hp.st.1 x h
   ·subst h;exact⟨by omega,by omega⟩
  ·rcases Z54 hx with h|h
   ·exact hp.own.1 x h
   ·subst h;exact⟨by omega,by omega⟩
 ·exact⟨hp,rfl⟩
theorem A7g (K:Nat){p:Dp}(hp:Ay4 p)(k:Int):A0b K p k=some (A1j p k):=by
 have h1:=hp.st.2;unfold A0b Asz A1j;rw[A1s K hp,Z0,A05 K (by omega),Z0]
 by_cases hs:0≤k∧k<(p.Vt.length:Int)
 ·rw[decide_eq_true hs,cond_true]
  by_cases ho:k<(p.Pn.length:Int)
  ·rw[decide_eq_true ho,cond_true,if_pos hs,if_pos hs,if_pos ⟨hs.1,ho⟩]
   by_cases h:gt p.Vt k=1
   ·rw[if_pos ⟨⟨hs.1,hs.2,ho⟩,h⟩,h];rfl
   ·rw[if_neg (show ¬((0≤k∧k<(p.Vt.length:Int)∧k<(p.Pn.length:Int))∧gt p.Vt k=1) from fun x=>h x.2),Ah0 h];rfl
  ·rw[decide_eq_false ho,if_neg (show ¬((0≤k∧k<(p.Vt.length:Int)∧k<(p.Pn.length:Int))∧gt p.Vt k=1) from fun x=>ho x.1.2.2)];rfl
 ·rw[decide_eq_false hs,if_neg (show ¬((0≤k∧k<(p.Vt.length:Int)∧k<(p.Pn.length:Int))∧gt p.Vt k=1) from fun x=>hs ⟨x.1.1,x.1.2.1⟩)];rfl
theorem Bdt (K:Nat){p:Dp}(hp:Ay4 p)(k:Int):A0p K p k=some (A1j p k):=by
 have h1:=hp.st.2
 have h2:=hp.own.2;unfold A0p Avs A1j
 have e:An8 .i64 (Aaq (p.Vt.length:Int) (p.Pn.length:Int)) 1=Aaq (p.Vt.length:Int) (p.Pn.length:Int) - 1:=by
  unfold An8 Aaq;split<;>rw[Ht (by omega) (by omega)]
 rw[A38 K hp,Z0,Awe,Z0,e]
 by_cases hs:0≤k∧k<(p.Vt.length:Int)∧k<(p.Pn.length:Int)
 ·rw[Ael.2 (by unfold Aaq;split<;>omega),cond_true,if_pos ⟨hs.1,hs.2.1⟩,if_pos ⟨hs.1,hs.2.1⟩,if_pos ⟨hs.1,hs.2.2⟩]
  by_cases h:gt p.Vt k=1
  ·rw[if_pos ⟨hs,h⟩,h];rfl
  ·rw[if_neg (show ¬((0≤k∧k<(p.Vt.length:Int)∧k<(p.Pn.length:Int))∧gt p.Vt k=1) from fun x=>h x.2),Ah0 h];rfl
 ·rw[A6n.2 (by unfold Aaq;split<;>omega),if_neg (show ¬((0≤k∧k<(p.Vt.length:Int)∧k<(p.Pn.length:Int))∧gt p.Vt k=1) from fun x=>hs x.1)];rfl
def Ai3 (p:Dp)(l:List Int):Dp:=l.foldl A1j p
theorem A8z{p:Dp}(hp:Ay4 p)(l:List Int):Ay4 (Ai3 p l)∧A7c (Ai3 p l)=A7c p:=by
 unfold Ai3
 induction l generalizing p with
 |nil=>exact⟨hp,rfl⟩
 |cons x l ih=>
  obtain⟨h1,h2⟩:=A6r hp x;obtain⟨h3,h4⟩:=ih h1;exact⟨h3,h4.trans h2⟩
theorem A95{α σ β:Type}{K:Nat}(hK:281474976710656≤K)(l:List α)(hl:l.length≤140737488355327)(f:σ->α->σ)(s0:σ)(I:σ->Prop)(hI:I s0)(hf: ∀s x,I s->I (f s x))(fin:Option β)(L:Nat->σ->Int->Option β)
  (hs: ∀n s (i:Nat) (h:i<l.length),I s->L (n+1) s (i:Int)=L n (f s l[i]) ((i+1:Nat):Int))
  (he: ∀n,L (n+1) (l.foldl f s0) (l.length:Int)=fin):L K s0 0=fin:=by
 have key: ∀(n i:Nat) (s:σ),I s->i≤l.length->l.length - i<n->(l.drop i).foldl f s=l.foldl f s0->L n s (i:Int)=fin:=by
  intro n
  induction n with
  |zero=>intro i s _ _ h;omega
  |succ n ih=>
   intro i s hIs hi hn hd;rcases E4 i l.length with h|h
   ·rw[hs n s i h hIs];refine ih (i+1) _ (hf _ _ hIs) h (by omega) ?_
    rw[Z47 h,List.foldl_cons]at hd;exact hd
   ·obtain rfl:i=l.length:=by omega
    rw[List.drop_length]at hd;simp only[List.foldl_nil]at hd;rw[hd];exact he n
 exact key K 0 s0 hI (Z21 _) (by omega) rfl
def Ag5 (n:Au)(slot:Int):A1:=A1.mk slot n.Eg n.Fo n.Az 0
def Atx (n:Au):Au:=Au.mk n.Vt n.Dc (An7 .i64 n.S5 1) n.fUp n.S6 0 n.S7 n.S8 [] 0 0 [] []
theorem A2l (K:Nat){n:Au}(hn:Aql n)(s:Int):As0 K n s=some (Ag5 n s):=by
 have hm:=Wx
 have h1:=hn.tags.2
 have h2:=hn.chunks.2;unfold As0;simp only[Zl];rw[if_pos ⟨by omega,by omega⟩,if_pos ⟨by omega,by omega⟩];rfl
theorem A4x (K:Nat){n:Au}(hn:Aql n)(s:Int):Avr K n s=some (Ag5 n s):=by
 unfold Avr;rw[Aux K hn.tags.2,Aux K hn.chunks.2];rfl
theorem A96 (K:Nat){n:Au}(hn:Aql n):Ayc K n=some (Atx n):=by
 unfold Ayc;rw[At3 K hn];rfl
theorem At1:wfi 0:=⟨by decide,by decide⟩
theorem Aty:A14 []:=⟨(fun x hx=>by cases hx),(by simp)⟩
theorem Azy:A9s []:=⟨(fun x hx=>by cases hx),(by simp)⟩
theorem Bdu{n:Au}(hn:Aql n):Aql (Atx n):=
 ⟨hn.st,hn.gen,A9q _,hn.up,hn.upEp,At1,hn.next,hn.prev,Aty,At1,At1,Azy,Aty⟩
theorem A4e{n:Au}(hn:Aql n){s:Int}(hs:wfi s):A04 (Ag5 n s):=⟨hs,hn.first,hn.tags,hn.chunks,At1⟩
def Au2 (w:C8)(k:Int):C8:=C8.mk w.fC (Ai3 w.fP (gt w.fL k).Az) (w.fL.set k.toNat (Atx (gt w.fL k))) (w.fQ++[Ag5 (gt w.fL k) 0]) w.Adf
section
variable {K:Nat} (hK:281474976710656≤K)
include hK
theorem A57 (w:C8)(hw:Ano w)(l:List Int)(hl:l.length≤140737488355327):Ara K w l=some (C8.mk w.fC (Ai3 w.fP l) w.fL w.fQ w.Adf):=by
 unfold Ara;refine A95 hK l (by omega) A1j w.fP Ay4 hw.p (fun s x h=>(A6r h x).1) _ (fun n s i=>Ak5 K l n i w.fC.Az w.fC.Hi w.fC.Fb w.fC.G8 w.fC.Fc w.fC.Hj s.Pm s.Vt s.Pn w.fL w.fQ w.Adf) (fun n s i h hs=> ?_) (fun n=> ?_)
 ·simp only[Ak5];rw[Ae4 h,cond_true,if_pos (Ajc h),P2 h,show Dp.mk s.Pm s.Vt s.Pn=s from rfl,A7g K hs,Z0,Aep (by omega)]
 ·show Ak5 K l (n+1) _ _ _ _ _ _ _ _ _ _ _ _ _=_;rw[Ak5,Afn (Z9 _),cond_false];rfl
theorem A58 (w:C8)(hw:Ay4 w.fP){k:Int}(hk:0≤k∧k<(w.fL.length:Int))(hl:(gt w.fL k).Az.length≤140737488355327):Ars K w k=some (C8.mk w.fC (Ai3 w.fP (gt w.fL k).Az) w.fL w.fQ w.Adf):=by
 unfold Ars;simp only[if_pos hk];refine A95 hK (gt w.fL k).Az (by omega) A1j w.fP Ay4 hw (fun s x h=>(A6r h x).1) _ (fun n s i=>Al5 K n (gt w.fL k).Az ((gt w.fL k).Az.length:Int) i w.fC.Az w.fC.Hi w.fC.Fb w.fC.G8 w.fC.Fc w.fC.Hj s.Pm s.Vt s.Pn w.fL w.fQ w.Adf) (fun n s i h hs=> ?_) (fun n=> ?_)
 ·simp only[Al5];rw[Ae4 h,cond_true,if_pos (Ajc h),P2 h,show Dp.mk s.Pm s.Vt s.Pn=s from rfl,Bdt K hs,Z0,Aep (by omega)]
 ·show Al5 K (n+1) _ _ _ _ _ _ _ _ _ _ _ _ _ _ _=_;rw[Al5,Afn (Z9 _),cond_false];rfl
theorem A4y (w:C8)(hw:Ano w)(hQ:w.fQ.length≤140737488355){k:Int}(hk:0≤k∧k<(w.fL.length:Int)):Asa K w k=some (Au2 w k):=by
 have hm:=Wx
 have hn:=hw.l.1 _ (Alb hk.1 hk.2);unfold Asa;simp only[if_pos hk,A2l K hn,Z0,A57 hK w hw _ (Ay8 hK hn.chunks),A96 K hn];rw[if_pos ⟨by simp;omega,by simp;omega⟩]
 rfl
theorem A4z (w:C8)(hw:Ano w)(hQ:w.fQ.length≤140737488355){k:Int}(hk:0≤k∧k<(w.fL.length:Int))(hst:(gt w.fL k).Vt=1):Aqk K w k=some (Au2 w k):=by
 have hm:=Wx
 have hn:=hw.l.1 _ (Alb hk.1 hk.2);unfold Aqk A0z;rw[Atw hK hw,Z0,Auy K (Aej hw.l),Z0,decide_eq_true hk,cond_true,if_pos hk,hst];simp only[bne_self_eq_false,cond_false,if_pos hk,A4x K hn,Z0]
 rw[if_pos ⟨by omega,by omega⟩,A7e hK,A58 hK (C8.mk w.fC w.fP w.fL (w.fQ++[Ag5 (gt w.fL k) 0]) w.Adf) hw.p hk (Ay8 hK hn.chunks),Z0]
 simp only[if_pos hk,Z0];rfl
end
def Bqu (n:Au)(v:Int):Au:=Au.mk n.Vt n.Dc n.S5 n.fUp n.S6 n.Eg v n.S8 n.Az n.Ade n.S9 n.Ga n.Fo
def Bk4 (n:Au)(v:Int):Au:=Au.mk n.Vt n.Dc n.S5 n.fUp n.S6 n.Eg n.S7 v n.Az n.Ade n.S9 n.Ga n.Fo
def Bk5 (n:Au)(v:Int):Au:=Au.mk n.Vt n.Dc n.S5 n.fUp n.S6 v n.S7 n.S8 n.Az n.Ade n.S9 n.Ga n.Fo
def Bk6 (n:Au):Au:=Au.mk n.Vt n.Dc n.S5 0 0 n.Eg 0 0 n.Az n.Ade n.S9 n.Ga n.Fo
theorem Awf{l:List Au}{k:Int}(hk:0≤k∧k<(l.length:Int))(x:Au):gt (l.set k.toNat x) k=x:=by
 have hlt:k.toNat<(l.set k.toNat x).length:=by simp;omega
 have e:gt (l.set k.toNat x) ((k.toNat:Nat):Int)=x:=by rw[P2 hlt];simp
 rwa[show((k.toNat:Nat):Int)=k by omega]at e
theorem Ayw{l:List Au}{j k:Int}(hj:0≤j)(hk:0≤k∧k<(l.length:Int))(h:j≠k)(x:Au):gt (l.set j.toNat x) k=gt l k:=by
 have h1:k.toNat<(l.set j.toNat x).length:=by simp;omega
 have h2:k.toNat<l.length:=by omega
 have e1:gt (l.set j.toNat x) ((k.toNat:Nat):Int)=gt l ((k.toNat:Nat):Int):=by
  rw[P2 h1,P2 h2,List.getElem_set,if_neg (by omega)]
 rwa[show((k.toNat:Nat):Int)=k by omega]at e1
theorem A2m (K:Nat){l:List Au}{k:Int}(hk:0≤k∧k<(l.length:Int)):Auf K k l=some (l.set k.toNat (Bk6 (gt l k))):=by
 unfold Auf;rw[if_pos hk];simp only[Aqi,Z49,Awf hk,Bzy,if_pos hk];rfl
theorem A40 (K:Nat){l:List Au}{k:Int}(hk:0≤k∧k<(l.length:Int)):Axd K k l=some (l.set k.toNat (Bk6 (gt l k))):=A2m K hk
def A41 (l0 l:List Au)(k nx pv:Int):List Au:=bif plB l0 nx then l.set (An8 .i64 nx 1).toNat (Bk4 (gt l (An8 .i64 nx 1)) pv)else l
def A2n (l0 l:List Au)(k nx pv:Int):List Au:=(A41 l0 l k nx pv).set k.toNat (Bk6 (gt (A41 l0 l k nx pv) k))
theorem A3e (l0 l:List Au)(k nx pv:Int):(A41 l0 l k nx pv).length=l.length:=by
 unfold A41;cases plB l0 nx<;>simp
theorem Ayx (K:Nat){l0 l:List Au}(hl:l0.length≤140737488355327)(he:l.length=l0.length){k:Int}(hk:0≤k∧k<(l0.length:Int))(a b c d e f nx pv:Int)(g:List Int)(h i:Int)(t:List Bd)(u:List Int)(hx:wfi nx):Ar1 K l0 k l a b c d e f nx pv g h i t u=some (A2n l0 l k nx pv):=by
 unfold Ar1 A2n A41;rw[Avw K hl hx,Z0];cases hp:plB l0 nx with
 |false=>rw[cond_false,cond_false,A2m K (by rw[he];exact hk)]
 |true=>
  have:=Au1 hp;rw[cond_true,cond_true,if_pos (by rw[he];exact this)]
  simp only[Aqi];rw[A2m K (by rw[Z49,he];exact hk)]
  rfl
theorem Ayy (K:Nat){l0 l:List Au}(hl:l0.length≤140737488355327)(he:l.length=l0.length){k:Int}(hk:0≤k∧k<(l0.length:Int))(nx pv:Int)(hv:(gt l k).S8=pv):Ar2 K l0 k l (An8 .i64 nx 1)=some (A2n l0 l k nx pv):=by
 unfold Ar2 A2n A41;rw[Ay9 K hl,Z0];cases hp:plB l0 nx with
 |false=>rw[cond_false,cond_false,A40 K (by rw[he];exact hk)]
 |true=>
  have:=Au1 hp;rw[cond_true,cond_true,if_pos (by rw[he];exact hk),if_pos (by rw[he];exact this),hv]
  simp only[Aqi];rw[A40 K (by rw[Z49,he];exact hk)]
  rfl
def A3f (l:List Au)(k:Int):List Au:=
 bif plB l (gt l k).S8 then l.set (An8 .i64 (gt l k).S8 1).toNat (Bqu (gt l (An8 .i64 (gt l k).S8 1)) (gt l k).S7)
 else bif (gt l k).S8==0&&(plB l (gt l k).fUp&&(gt l (An8 .i64 (gt l k).fUp 1)).Eg==An7 .i64 k 1)then l.set (An8 .i64 (gt l k).fUp 1).toNat (Bk5 (gt l (An8 .i64 (gt l k).fUp 1)) (gt l k).S7)
 else l
def Anv (l:List Au)(k:Int):List Au:=A2n l (A3f l k) k (gt l k).S7 (gt l k).S8
theorem A17 (l:List Au)(k:Int):(A3f l k).length=l.length:=by
 unfold A3f;cases plB l (gt l k).S8<;>cases ((gt l k).S8==0&&(plB l (gt l k).fUp&&(gt l (An8 .i64 (gt l k).fUp 1)).Eg==An7 .i64 k 1))<;>simp
theorem Bg0{l:List Au}{k:Int}(hk:0≤k∧k<(l.length:Int)):(gt (A3f l k) k).S8=(gt l k).S8:=by
 unfold A3f;cases hp:plB l (gt l k).S8 with
 |true=>
  have:=Au1 hp;rw[cond_true]
  by_cases e:An8 .i64 (gt l k).S8 1=k
  ·rw[e,Awf hk];rfl
  ·rw[Ayw this.1 hk e]
 |false=>
  rw[cond_false];cases hc:((gt l k).S8==0&&(plB l (gt l k).fUp&&(gt l (An8 .i64 (gt l k).fUp 1)).Eg==An7 .i64 k 1))with
  |false=>rfl
  |true=>
   simp only[Z4]at hc
   have:=Au1 hc.2.1;rw[cond_true]
   by_cases e:An8 .i64 (gt l k).fUp 1=k
   ·rw[e,Awf hk];rfl
   ·rw[Ayw this.1 hk e]
section
variable {K:Nat} (hK:281474976710656≤K)
include hK
theorem Bb3{l:List Au}(w:Afd l){k:Int}(hk:0≤k∧k<(l.length:Int)):Azh K l k=some (Anv l k):=by
 have hl:=Aej w
 have hn:=w.1 _ (Alb hk.1 hk.2)
 have e1:An8 .i64 (An7 .i64 k 1) 1=k:=by unfold An8 An7;rw[Ht (n:=k+1) (by omega) (by omega),Ht (by omega) (by omega)];omega
 have hpk:plB l (An7 .i64 k 1)=true:=by unfold plB;rw[e1];exact decide_eq_true hk
 have hwk:wfi (An7 .i64 k 1):=A9q _;unfold Azh Anv;rw[A2k hK w,Z0,Avw K hl hwk,Z0,hpk,Bool.not_true,cond_false,if_pos hk,Avw K hl hn.prev,Z0];unfold A3f;cases hp:plB l (gt l k).S8 with
 |true=>
  have:=Au1 hp;rw[cond_true,cond_true,if_pos this];simp only[Aqi];rw[Ayx K hl (by rw[Z49]) hk _ _ _ _ _ _ _ _ _ _ _ _ _ hn.next]
  rfl
 |false=>
  rw[cond_false,cond_false];cases h0:(gt l k).S8==0 with
  |false=>
   simp only[cond_false,Bool.false_and,Aqy];rw[Ayx K hl rfl hk _ _ _ _ _ _ _ _ _ _ _ _ _ hn.next]
  |true=>
   rw[cond_true,Avw K hl hn.up,Z0];cases hu:plB l (gt l k).fUp with
   |false=>
    simp only[cond_false,Bool.false_and,Bool.and_false,Aqy];rw[Ayx K hl rfl hk _ _ _ _ _ _ _ _ _ _ _ _ _ hn.next]
   |true=>
    have hui:=Au1 hu;rw[cond_true,if_pos hui];simp only[Z30,Aqy];cases (gt l (An8 .i64 (gt l k).fUp 1)).Eg==An7 .i64 k 1 with
    |false=>
     simp only[cond_false];rw[Ayx K hl rfl hk _ _ _ _ _ _ _ _ _ _ _ _ _ hn.next]
    |true=>
     simp only[cond_true,if_pos hui,Aqi];rw[Ayx K hl (by rw[Z49]) hk _ _ _ _ _ _ _ _ _ _ _ _ _ hn.next]
     rfl
theorem Bb4{l:List Au}(w:Afd l){k:Int}(hk:0≤k∧k<(l.length:Int)):Azo K l k=some (Anv l k):=by
 have hl:=Aej w
 have h0p:=Bg0 hk;unfold Azo Anv;rw[A3d hK w,Z0,Auy K hl,Z0,decide_eq_true hk,Bool.not_true,cond_false,if_pos hk,if_pos hk,if_pos hk,Ay9 K hl,Z0];unfold A3f at h0p ⊢;cases hp:plB l (gt l k).S8 with
 |true=>
  rw[hp]at h0p
  have:=Au1 hp;rw[cond_true]at h0p ⊢;rw[cond_true,if_pos hk,if_pos this];simp only[Aqi];exact Ayy K hl (by rw[Z49]) hk _ _ h0p
 |false=>
  rw[hp]at h0p;rw[cond_false]at h0p ⊢;rw[cond_false,if_pos hk];cases h0:(gt l k).S8==0 with
  |false=>
   simp only[cond_false,Bool.false_and,Aqz];exact Ayy K hl rfl hk _ _ rfl
  |true=>
   rw[h0]at h0p;rw[cond_true,Ay9 K hl,Z0];cases hu:plB l (gt l k).fUp with
   |false=>
    simp only[cond_false,Bool.false_and,Bool.and_false,Aqz];exact Ayy K hl rfl hk _ _ rfl
   |true=>
    rw[hu]at h0p
    have hui:=Au1 hu;rw[cond_true,if_pos hui];simp only[Z30,Aqz]at h0p ⊢;cases hf:(gt l (An8 .i64 (gt l k).fUp 1)).Eg==An7 .i64 k 1 with
    |false=>
     simp only[cond_false];exact Ayy K hl rfl hk _ _ rfl
    |true=>
     rw[hf]at h0p;simp only[cond_true,if_pos hui,if_pos hk,Aqi]at h0p ⊢;exact Ayy K hl (by rw[Z49]) hk _ _ h0p
end
def Be6 (n:Au):Au:=Au.mk 2 n.Dc 0 0 0 0 0 0 [] 0 0 [] []
theorem Bt3{n:Au}(hn:Aql n):Aql (Be6 n):=
 ⟨⟨by show _≤(2:Int);omega,by show(2:Int)≤_;omega⟩,hn.gen,At1,At1,At1,At1,At1,At1,Aty,At1,At1,Azy,Aty⟩
theorem Bor{n:Au}(hn:Aql n){v:Int}(hv:wfi v):Aql (Bqu n v):=⟨hn.st,hn.gen,hn.ep,hn.up,hn.upEp,hn.first,hv,hn.prev,hn.chunks,hn.cur,hn.bump,hn.things,hn.tags⟩
theorem Bos{n:Au}(hn:Aql n){v:Int}(hv:wfi v):Aql (Bk4 n v):=⟨hn.st,hn.gen,hn.ep,hn.up,hn.upEp,hn.first,hn.next,hv,hn.chunks,hn.cur,hn.bump,hn.things,hn.tags⟩
theorem Bk7{n:Au}(hn:Aql n){v:Int}(hv:wfi v):Aql (Bk5 n v):=⟨hn.st,hn.gen,hn.ep,hn.up,hn.upEp,hv,hn.next,hn.prev,hn.chunks,hn.cur,hn.bump,hn.things,hn.tags⟩
theorem Bt4{n:Au}(hn:Aql n):Aql (Bk6 n):=by
 have z:wfi 0:=⟨by decide,by decide⟩
 exact⟨hn.st,hn.gen,hn.ep,z,z,hn.first,z,z,hn.chunks,hn.cur,hn.bump,hn.things,hn.tags⟩
theorem A3z{l:List Au}{k:Int}(hk:0≤k∧k<(l.length:Int)){x:Au}(h:A1c x=A1c (gt l k)):((l.set k.toNat x).map A1c).sum=(l.map A1c).sum:=by
 have hlt:k.toNat<l.length:=by omega
 have:=Be5 A1c l k.toNat hlt x
 have e:l[k.toNat]=gt l k:=by rw[←P2 hlt,show((k.toNat:Nat):Int)=k by omega]
 rw[e]at this;omega
theorem Bt5{l:List Au}(w:Afd l){k:Int}(hk:0≤k∧k<(l.length:Int)):Afd (A3f l k)∧((A3f l k).map A1c).sum=(l.map A1c).sum:=by
 have hn:=w.1 _ (Alb hk.1 hk.2);unfold A3f;cases hp:plB l (gt l k).S8 with
 |true=>
  have hi:=Au1 hp;exact⟨Axt w _ (Bor (w.1 _ (Alb hi.1 hi.2)) hn.next),A3z hi rfl⟩
 |false=>
  rw[cond_false];cases hc:((gt l k).S8==0&&(plB l (gt l k).fUp&&(gt l (An8 .i64 (gt l k).fUp 1)).Eg==An7 .i64 k 1))with
  |false=>exact⟨w,rfl⟩
  |true=>
   simp only[Z4]at hc
   have hi:=Au1 hc.2.1;exact⟨Axt w _ (Bk7 (w.1 _ (Alb hi.1 hi.2)) hn.next),A3z hi rfl⟩
theorem Bt6{l0 l:List Au}(w:Afd l)(he:l.length=l0.length)(k nx:Int){pv:Int}(hv:wfi pv):Afd (A41 l0 l k nx pv)∧((A41 l0 l k nx pv).map A1c).sum=(l.map A1c).sum:=by
 unfold A41;cases hp:plB l0 nx with
 |true=>
  have hi:=Au1 hp;rw[←he]at hi;exact⟨Axt w _ (Bos (w.1 _ (Alb hi.1 hi.2)) hv),A3z hi rfl⟩
 |false=>exact⟨w,rfl⟩
theorem A18{l:List Au}(w:Afd l){k:Int}(hk:0≤k∧k<(l.length:Int)):Afd (Anv l k)∧((Anv l k).map A1c).sum=(l.map A1c).sum∧(Anv l k).length=l.length:=by
 have hn:=w.1 _ (Alb hk.1 hk.2);obtain⟨h1,h2⟩:=Bt5 w hk
 have h3:=A17 l k;obtain⟨h4,h5⟩:=Bt6 h1 h3 k (gt l k).S7 hn.prev
 have h6:=A3e l (A3f l k) k (gt l k).S7 (gt l k).S8
 have hk':0≤k∧k<((A41 l (A3f l k) k (gt l k).S7 (gt l k).S8).length:Int):=by rw[h6,h3];exact hk
 unfold Anv A2n;exact⟨Axt h4 _ (Bt4 (h4.1 _ (Alb hk'.1 hk'.2))),(A3z (x:=Bk6 (gt (A41 l (A3f l k) k (gt l k).S7 (gt l k).S8) k)) hk' rfl).trans (h5.trans h2),by rw[Z49,h6,h3]⟩
def Asm (w:C8)(k:Int):C8:=C8.mk w.fC (Ai3 w.fP (gt w.fL k).Az) ((Anv w.fL k).set k.toNat (Be6 (gt (Anv w.fL k) k))) (w.fQ++[Ag5 (gt w.fL k) (An7 .i64 k 1)]) w.Adf
section
variable {K:Nat} (hK:281474976710656≤K)
include hK
theorem A7h (w:C8)(hw:Ano w)(hQ:w.fQ.length≤140737488355){k:Int}(hk:0≤k∧k<(w.fL.length:Int)):Aug K w k=some (Asm w k):=by
 have hm:=Wx
 have hn:=hw.l.1 _ (Alb hk.1 hk.2)
 have hk':0≤k∧k<((Anv w.fL k).length:Int):=by rw[(A18 hw.l hk).2.2];exact hk
 unfold Aug Azw;simp only[if_pos hk,A2l K hn,Z0,A57 hK w hw _ (Ay8 hK hn.chunks),Bb3 hK hw.l hk,if_pos hk'];rw[if_pos ⟨by simp;omega,by simp;omega⟩]
 rfl
theorem A7i (w:C8)(hw:Ano w)(hQ:w.fQ.length≤140737488355){k:Int}(hk:0≤k∧k<(w.fL.length:Int))(hst:(gt w.fL k).Vt=1):Asc K w k=some (Asm w k):=by
 have hm:=Wx
 have hn:=hw.l.1 _ (Alb hk.1 hk.2)
 have hk':0≤k∧k<((Anv w.fL k).length:Int):=by rw[(A18 hw.l hk).2.2];exact hk
 unfold Asc A21;rw[Atw hK hw,Z0,Auy K (Aej hw.l),Z0,decide_eq_true hk,cond_true,if_pos hk,hst];simp only[bne_self_eq_false,cond_false,if_pos hk,A4x K hn,Z0]
 rw[if_pos ⟨by omega,by omega⟩,A7e hK,A58 hK (C8.mk w.fC w.fP w.fL (w.fQ++[Ag5 (gt w.fL k) (An7 .i64 k 1)]) w.Adf) hw.p hk (Ay8 hK hn.chunks),Z0]
 simp only;rw[Bb4 hK hw.l hk];simp only[Z0,if_pos hk'];rfl
end
def Bzz (c:Eb)(x:A1)(v:Int)(i:Nat):Int:=An7 .i64 v (bif ((i:Int)==0)then Att (An8 .i64 c.Hi x.Xa) c.Fc else Att c.Hi c.Fc)
def Bt7 (c:Eb)(x:A1):Int:=
 (List.range x.Az.length).foldl (Bzz c x) (An7 .i64 (x.Fo.length:Int) 1)
section
variable {K:Nat} (hK:281474976710656≤K)
include hK
end
def Bt8 (w:C8)(k:Int):Int:=Bt7 w.fC (Ag5 (gt w.fL k) 0)
section
variable {K:Nat} (hK:562949953421312≤K)
include hK
end
structure Lk where
 lv:Bool
 gn:Bool
 ep:Int
 up:Int
 ue:Int
 fi:Int
 nx:Int
 pv:Int
section
variable (N:Int) (t:Int->Lk)
def Lv (k:Int):Prop:=(0≤k∧k<N)∧(t k).lv=true
def Cu (k:Int):Prop:=Lv N t ((t k).up - 1)∧(t ((t k).up - 1)).ep=(t k).ue
def Oo (k:Int):Prop:=Lv N t k∧(t k).up≠0∧ ¬Cu N t k
structure Bk8 (k:Int):Prop where
 first:(t k).fi≠0->Lv N t ((t k).fi - 1)∧(t ((t k).fi - 1)).pv=0∧(t ((t k).fi - 1)).up=k+1∧(t ((t k).fi - 1)).ue=(t k).ep
 next:(t k).nx≠0->Lv N t ((t k).nx - 1)∧(t ((t k).nx - 1)).pv=k+1∧(t ((t k).nx - 1)).up=(t k).up∧(t ((t k).nx - 1)).ue=(t k).ue
 prev:(t k).pv≠0->Lv N t ((t k).pv - 1)∧(t ((t k).pv - 1)).nx=k+1
 up:(t k).up≠0->0≤(t k).up - 1∧(t k).up - 1<N
 top:(t k).pv=0->Cu N t k->(t ((t k).up - 1)).fi=k+1
def kids:Nat->Int->List Int
 |0,_=>[]
 |n+1,k=>if 0≤k∧k<N then k::kids n ((t k).nx - 1)else []
def rise:Nat->Int->List Int
 |0,_=>[]
 |n+1,k=>if 0≤k∧k<N then k::rise n ((t k).up - 1)else []
structure Avx:Prop where
 link: ∀k,Lv N t k->Bk8 N t k
 rise: ∀k,Lv N t k->(rise N t N.toNat k).length≤4∧ ∀x,(rise N t N.toNat k).getLast? =some x-> ¬Cu N t x
 bare: ∀k,0≤k->k<N->(t k).lv=false->(t k).up=0∧(t k).fi=0∧(t k).nx=0∧(t k).pv=0
def Wf (r:Int->Nat):Prop:= ∀x,Lv N t x->(t x).pv≠0->r ((t x).pv - 1)<r x
end
section
variable {N:Int} {t:Int->Lk}
theorem A80 (n:Nat)(k:Int):kids N t (n+1) k=if 0≤k∧k<N then k::kids N t n ((t k).nx - 1)else []:=rfl
theorem A81 (n:Nat)(k:Int):rise N t (n+1) k=if 0≤k∧k<N then k::rise N t n ((t k).up - 1)else []:=rfl
theorem Oo.lv{k:Int}(h:Oo N t k):Lv N t k:=h.1
theorem A97: ∀(n:Nat) (k x:Int),x∈kids N t n k->0≤x∧x<N:=by
 intro n
 induction n with
 |zero=>intro k x h;cases h
 |succ n ih=>
  intro k x h;unfold kids at h;split at h
  ·rename_i h1;rcases Di.1 h with rfl|h
   ·exact h1
   ·exact ih _ x h
  ·cases h
theorem Axy (n:Nat):kids N t n (0 - 1)=[]:=by
 cases n with
 |zero=>rfl
 |succ n=>unfold kids;rw[if_neg (by omega)]
theorem Bg1: ∀(n:Nat) (k:Int),kids N t n k=(kids N t (n+1) k).take n:=by
 intro n
 induction n with
 |zero=>intro k;simp[kids]
 |succ n ih=>
  intro k;rw[A80,A80 (n+1)];split
  ·rw[ih];simp
  ·simp
theorem Bk9 (T:Avx N t){u e:Int}: ∀(n:Nat) (k:Int),Lv N t k->(t k).up=u->(t k).ue=e-> ∀x∈kids N t n k,Lv N t x∧(t x).up=u∧(t x).ue=e:=by
 intro n
 induction n with
 |zero=>intro k _ _ _ x h;cases h
 |succ n ih=>
  intro k h1 h2 h3 x h;unfold kids at h;split at h
  ·rcases Di.1 h with rfl|h
   ·exact⟨h1,h2,h3⟩
   ·by_cases h4:(t k).nx=0
    ·rw[h4,Axy]at h;cases h
    ·obtain⟨a,_,b,c⟩:=(T.link k h1).next h4;exact ih _ a (b.trans h2) (c.trans h3) x h
  ·cases h
theorem A82 (T:Avx N t){r:Int->Nat}(W:Wf N t r): ∀(n:Nat) (k:Int),Lv N t k->(∀x∈kids N t n k,r k≤r x)∧(kids N t n k).Pairwise (fun a b=>r a<r b):=by
 intro n
 induction n with
 |zero=>intro k _;exact⟨fun x h=>(by cases h),.nil⟩
 |succ n ih=>
  intro k h1;unfold kids;split
  ·by_cases h4:(t k).nx=0
   ·rw[h4,Axy];exact⟨fun x h=>by rw[Mx.1 h];exact Z9 _,List.pairwise_singleton ..⟩
   ·obtain⟨a,b,_⟩:=(T.link k h1).next h4;obtain⟨i1,i2⟩:=ih _ a
    have hr:=W _ a (by rw[b];have:=h1.1;omega)
    rw[b,Int.add_sub_cancel]at hr;refine⟨fun x h=> ?_,List.pairwise_cons.2 ⟨fun x h=> ?_,i2⟩⟩
    ·rcases Di.1 h with rfl|h
     ·exact Z9 _
     ·have:=i1 x h;omega
    ·have:=i1 x h;omega
  ·exact⟨fun x h=>(by cases h),.nil⟩
theorem A4f (T:Avx N t){r:Int->Nat}(W:Wf N t r)(n:Nat){k:Int}(h:Lv N t k):(kids N t n k).Nodup:=
 (A82 T W n k h).2.imp fun h e=>by rw[e]at h;omega
theorem A98{l:List Int}(hn:l.Nodup)(h: ∀x∈l,0≤x∧x<N):l.length≤N.toNat:=by
 have:=Azb (l:=(List.range N.toNat).map (fun i:Nat=>(i:Int))) hn (fun x hx=>by
  have:=h x hx;rw[D9];exact⟨x.toNat,by simp;omega,by omega⟩)
 simpa using this
theorem Bg2: ∀(n:Nat) (k y x:Int),y∈kids N t n k->(t y).nx=x+1->0≤x∧x<N->x∈kids N t n k∨(kids N t n k).length=n:=by
 intro n
 induction n with
 |zero=>intro k y x h;cases h
 |succ n ih=>
  intro k y x h h1 h2;unfold kids at h ⊢;split at h
  ·rename_i h3;rw[if_pos h3];rcases Di.1 h with rfl|h
   ·rw[h1,Int.add_sub_cancel];cases n with
    |zero=>right;simp[kids]
    |succ n=>left;rw[kids,if_pos h2];simp
   ·rcases ih _ y x h h1 h2 with h|h
    ·exact .inl (Z56 _ h)
    ·exact .inr (by simp[h])
  ·cases h
theorem Bla (T:Avx N t){r:Int->Nat}(W:Wf N t r){k:Int}(hk:Lv N t k)(x:Int):
  x∈kids N t N.toNat ((t k).fi - 1) ↔ Lv N t x∧(t x).up=k+1∧(t x).ue=(t k).ep:=by
 constructor
 ·intro h
  by_cases h0:(t k).fi=0
  ·rw[h0,Axy]at h;cases h
  ·obtain⟨a,_,b,c⟩:=(T.link k hk).first h0;exact Bk9 T _ _ a b c x h
 ·generalize hn:r x=n
  induction n using Nat.strongRecOn generalizing x with
  |_ n ih=>
   intro⟨h1,h2,h3⟩
   have hc:Cu N t x:=by unfold Cu;rw[h2,h3,Int.add_sub_cancel];exact⟨hk,rfl⟩
   by_cases hp:(t x).pv=0
   ·have:=(T.link x h1).top hp hc;rw[h2,Int.add_sub_cancel]at this;obtain⟨m,hm⟩: ∃m,N.toNat=m+1:=⟨N.toNat - 1,by have:=h1.1;omega⟩
    rw[this,Int.add_sub_cancel,hm,kids,if_pos h1.1];simp
   ·obtain⟨a,b⟩:=(T.link x h1).prev hp
    have hr:=W x h1 hp;obtain⟨_,_,c,d⟩:=(T.link _ a).next (by rw[b];have:=h1.1;omega)
    rw[b,Int.add_sub_cancel]at c d
    have hy:=ih _ (by omega) _ rfl ⟨a,c ▸ h2,d ▸ h3⟩
    rcases Bg2 _ _ _ x hy b h1.1 with h|h
    ·exact h
    ·refine Classical.byContradiction fun hx=> ?_
     have h0:(t k).fi≠0:=fun e=>by rw[e,Axy]at hy;cases hy
     have hd:=A4f T W N.toNat ((T.link k hk).first h0).1
     have:=A98 (N:=N) (l:=x::kids N t N.toNat ((t k).fi - 1)) (List.nodup_cons.2 ⟨hx,hd⟩) (fun y hy=>by
      rcases Di.1 hy with rfl|hy
      ·exact h1.1
      ·exact A97 _ _ y hy)
     simp only[Xf]at this;omega
theorem A3g (T:Avx N t){r:Int->Nat}(W:Wf N t r)(n:Nat){k:Int}(hk:Lv N t k):(kids N t n ((t k).fi - 1)).Nodup:=by
 by_cases h0:(t k).fi=0
 ·rw[h0,Axy];exact .nil
 ·exact A4f T W n ((T.link k hk).first h0).1
theorem A2o{t':Int->Lk}: ∀(n:Nat) (k:Int),(∀x∈kids N t n k,(t' x).nx=(t x).nx)->kids N t' n k=kids N t n k:=by
 intro n
 induction n with
 |zero=>intro k _;rfl
 |succ n ih=>
  intro k h;rw[kids,kids];rw[kids]at h;split
  ·rename_i h1;rw[if_pos h1]at h;rw[h k (by simp),ih _ fun x hx=>h x (by simp[hx])]
  ·rfl
theorem A1t{t':Int->Lk}: ∀(n:Nat) (k:Int),(∀x∈rise N t n k,(t' x).up=(t x).up)->rise N t' n k=rise N t n k:=by
 intro n
 induction n with
 |zero=>intro k _;rfl
 |succ n ih=>
  intro k h;rw[rise,rise];rw[rise]at h;split
  ·rename_i h1;rw[if_pos h1]at h;rw[h k (by simp),ih _ fun x hx=>h x (by simp[hx])]
  ·rfl
theorem Bg3: ∀(n:Nat) (k:Int),rise N t n k=(rise N t (n+1) k).take n:=by
 intro n
 induction n with
 |zero=>intro k;simp[rise]
 |succ n ih=>
  intro k;rw[A81,A81 (n+1)];split
  ·rw[ih];simp
  ·simp
theorem Azz: ∀(n:Nat) (k x:Int),x∈rise N t n k->0≤x∧x<N:=by
 intro n
 induction n with
 |zero=>intro k x h;cases h
 |succ n ih=>
  intro k x h;unfold rise at h;split at h
  ·rename_i h1;rcases Di.1 h with rfl|h
   ·exact h1
   ·exact ih _ x h
  ·cases h
theorem Blb{t':Int->Lk}{g:Int}(h: ∀x,x≠g->(t' x).up=(t x).up)(hg:(t' g).up=0): ∀(n:Nat) (k:Int),
  (rise N t' n k=[] ↔ rise N t n k=[])∧(rise N t' n k).length≤(rise N t n k).length∧((rise N t' n k).getLast? =some g∨(rise N t' n k).getLast? =(rise N t n k).getLast?):=by
 intro n
 induction n with
 |zero=>intro k;exact⟨Iff.rfl,Z9 _,.inr rfl⟩
 |succ n ih=>
  intro k;rw[rise,rise]
  by_cases h1:0≤k∧k<N
  ·rw[if_pos h1,if_pos h1]
   by_cases e:k=g
   ·subst e
    have:rise N t' n (0 - 1)=[]:=by cases n with|zero=>rfl|succ n=>rw[rise,if_neg (by omega)]
    rw[hg,this];exact⟨by simp,by simp,.inl rfl⟩
   ·rw[h k e];obtain⟨i1,i2,i3⟩:=ih ((t k).up - 1);refine⟨by simp,by simpa using i2,?_⟩
    cases ha:rise N t' n ((t k).up - 1)with
    |nil=>rw[i1.1 ha];exact .inr rfl
    |cons a l=>
     cases hb:rise N t n ((t k).up - 1)with
     |nil=>rw[i1.2 hb]at ha;cases ha
     |cons b m=>
      rw[ha,hb]at i3;simpa using i3
  ·rw[if_neg h1,if_neg h1];exact⟨Iff.rfl,Z9 _,.inr rfl⟩
theorem A30 (T:Avx N t){k:Int}(hk:Lv N t k)(hc:Cu N t k):(t k).up≠k+1:=by
 intro e;obtain⟨_,h⟩:=T.rise k hk
 have: ∀n,rise N t (n+1) k=List.replicate (n+1) k:=by
  intro n
  induction n with
  |zero=>rw[rise,if_pos hk.1];rfl
  |succ n ih=>rw[rise,if_pos hk.1,e,Int.add_sub_cancel,ih];rfl
 obtain⟨m,hm⟩: ∃m,N.toNat=m+1:=⟨N.toNat - 1,by have:=hk.1;omega⟩
 refine h k ?_ hc;rw[hm,this,List.getLast?_replicate,if_neg (by omega)]
def rem (t:Int->Lk)(g:Int)(x:Int):Lk:=
 if x=g then⟨false,true,0,0,0,0,0,0⟩else
  ⟨(t x).lv,(t x).gn,(t x).ep,(t x).up,(t x).ue,if(t g).pv=0∧x+1=(t g).up∧(t x).fi=g+1 then(t g).nx else(t x).fi,if x+1=(t g).pv then(t g).nx else(t x).nx,if x+1=(t g).nx then(t g).pv else(t x).pv⟩
theorem A42{g:Int}:rem t g g=⟨false,true,0,0,0,0,0,0⟩:=if_pos rfl
theorem Anb{g x:Int}(h:x≠g):rem t g x=⟨(t x).lv,(t x).gn,(t x).ep,(t x).up,(t x).ue,if(t g).pv=0∧x+1=(t g).up∧(t x).fi=g+1 then(t g).nx else(t x).fi,if x+1=(t g).pv then(t g).nx else(t x).nx,if x+1=(t g).nx then(t g).pv else(t x).pv⟩:=if_neg h
theorem Apx{g x:Int}:Lv N (rem t g) x ↔ x≠g∧Lv N t x:=by
 unfold Lv
 by_cases h:x=g
 ·subst h;rw[A42];simp
 ·rw[Anb h];simp[h]
theorem A1d{g x:Int}(hx:x≠g):Cu N (rem t g) x ↔ (t x).up≠g+1∧Cu N t x:=by
 unfold Cu;rw[Apx,Anb hx]
 by_cases h:(t x).up - 1=g
 ·simp[h];omega
 ·rw[Anb h];simp only[ne_eq,h,not_false_eq_true,true_and];exact⟨fun h1=>⟨by omega,h1⟩,fun h1=>h1.2⟩
theorem Blc{g x:Int}(hg:0≤g):Oo N (rem t g) x ↔ x≠g∧(Oo N t x∨Lv N t x∧(t x).up=g+1):=by
 unfold Oo;rw[Apx]
 by_cases h:x=g
 ·simp[h]
 ·rw[A1d h,Anb h];simp only[ne_eq,h,not_false_eq_true,true_and];constructor
  ·rintro⟨a,b,c⟩
   by_cases e:(t x).up=g+1
   ·exact .inr ⟨a,e⟩
   ·exact .inl ⟨a,b,fun d=>c ⟨e,d⟩⟩
  ·rintro(⟨a,b,c⟩|⟨a,b⟩)
   ·exact⟨a,b,fun d=>c d.2⟩
   ·exact⟨a,by omega,fun d=>d.1 b⟩
theorem Bld (T:Avx N t){g x:Int}(hg:Lv N t g)(hx:Lv N (rem t g) x):Bk8 N (rem t g) x:=by
 obtain⟨hne,hl⟩:=Apx.1 hx
 have G:=T.link g hg
 have X:=T.link x hl
 have g0:=hg.1
 have x0:=hl.1;refine⟨?_,?_,?_,?_,?_⟩
 ·rw[Anb hne];intro h;simp only at h ⊢
  by_cases hA:(t g).pv=0∧x+1=(t g).up∧(t x).fi=g+1
  ·rw[if_pos hA]at h ⊢;obtain⟨a,b,c,d⟩:=G.next h
   have hm:(t g).nx - 1≠g:=fun e=>by rw[e]at b;omega
   obtain⟨_,_,_,f4⟩:=X.first (by omega)
   rw[hA.2.2,Int.add_sub_cancel]at f4;rw[Anb hm];refine⟨Apx.2 ⟨hm,a⟩,?_,?_,?_⟩
   ·simp only;rw[if_pos (by omega)];exact hA.1
   ·simp only;omega
   ·simp only;omega
  ·rw[if_neg hA]at h ⊢;obtain⟨a,b,c,d⟩:=X.first h
   have hm:(t x).fi - 1≠g:=fun e=>by rw[e]at b c;exact hA ⟨b,c.symm,by omega⟩
   rw[Anb hm];refine⟨Apx.2 ⟨hm,a⟩,?_,c,d⟩;simp only;rw[if_neg]
   ·exact b
   ·intro e
    have:=(G.next (by omega)).2.1
    rw[←e,Int.add_sub_cancel]at this;omega
 ·rw[Anb hne];intro h;simp only at h ⊢
  by_cases hA:x+1=(t g).pv
  ·rw[if_pos hA]at h ⊢;obtain⟨a,b,c,d⟩:=G.next h
   have hm:(t g).nx - 1≠g:=fun e=>by rw[e]at b;omega
   obtain⟨_,p2⟩:=G.prev (by omega)
   rw[←hA,Int.add_sub_cancel]at p2;obtain⟨_,_,q3,q4⟩:=X.next (by omega)
   rw[p2,Int.add_sub_cancel]at q3 q4;rw[Anb hm];refine⟨Apx.2 ⟨hm,a⟩,?_,?_,?_⟩
   ·simp only;rw[if_pos (by omega)];omega
   ·simp only;omega
   ·simp only;omega
  ·rw[if_neg hA]at h ⊢;obtain⟨a,b,c,d⟩:=X.next h
   have hm:(t x).nx - 1≠g:=fun e=>by rw[e]at b;omega
   rw[Anb hm];refine⟨Apx.2 ⟨hm,a⟩,?_,c,d⟩;simp only;rw[if_neg]
   ·exact b
   ·intro e
    have:=(G.next (by omega)).2.1
    rw[←e,Int.add_sub_cancel]at this;omega
 ·rw[Anb hne];intro h;simp only at h ⊢
  by_cases hA:x+1=(t g).nx
  ·rw[if_pos hA]at h ⊢;obtain⟨a,b⟩:=G.prev h
   have hm:(t g).pv - 1≠g:=fun e=>by rw[e]at b;omega
   rw[Anb hm];refine⟨Apx.2 ⟨hm,a⟩,?_⟩;simp only;rw[if_pos (by omega)]
   omega
  ·rw[if_neg hA]at h ⊢;obtain⟨a,b⟩:=X.prev h
   have hm:(t x).pv - 1≠g:=fun e=>by rw[e]at b;omega
   rw[Anb hm];refine⟨Apx.2 ⟨hm,a⟩,?_⟩;simp only;rw[if_neg]
   ·exact b
   ·intro e
    have:=(G.prev (by omega)).2
    rw[←e,Int.add_sub_cancel]at this;omega
 ·rw[Anb hne];exact X.up
 ·intro h hc;obtain⟨c1,c2⟩:=(A1d hne).1 hc;rw[Anb hne]at h ⊢;simp only at h ⊢
  have hm:(t x).up - 1≠g:=by omega
  rw[Anb hm];simp only
  by_cases hA:x+1=(t g).nx
  ·rw[if_pos hA]at h;obtain⟨_,_,q3,q4⟩:=G.next (by omega)
   rw[←hA,Int.add_sub_cancel]at q3 q4
   have hcg:Cu N t g:=by unfold Cu at c2 ⊢;rw[←q3,←q4];exact c2
   have:=G.top h hcg;rw[if_pos ⟨h,by omega,by rw[q3];exact this⟩]
   omega
  ·rw[if_neg hA]at h
   have:=X.top h c2;rw[if_neg (fun e=>by omega)]
   exact this
theorem A7j (T:Avx N t){g:Int}(hg:Lv N t g):Avx N (rem t g):=by
 refine⟨fun k hk=>Bld T hg hk,fun k hk=> ?_,fun k h0 h1 h=> ?_⟩
 ·obtain⟨hne,hl⟩:=Apx.1 hk;obtain⟨r1,r2⟩:=T.rise k hl;obtain⟨_,c1,c2⟩:=Blb (t:=t) (t':=rem t g) (N:=N) (g:=g) (fun x hx=>by rw[Anb hx]) (by rw[A42]) N.toNat k
  refine⟨by omega,fun x hx hc=> ?_⟩
  by_cases e:x=g
  ·subst e;unfold Cu at hc;rw[A42]at hc
   have:=hc.1.1.1;simp at this
  ·rcases c2 with c2|c2
   ·rw[c2]at hx;exact e (Gi hx).symm
   ·rw[c2]at hx;exact r2 x hx ((A1d e).1 hc).2
 ·by_cases e:k=g
  ·subst e;rw[A42];exact⟨rfl,rfl,rfl,rfl⟩
  ·rw[Anb e]at h ⊢;simp only at h ⊢;obtain⟨a,b,c,d⟩:=T.bare k h0 h1 h
   have G:=T.link g hg;refine⟨a,?_,?_,?_⟩
   ·rw[if_neg (fun q=>by have:=hg.1;omega)];exact b
   ·rw[if_neg]
    ·exact c
    ·intro q
     have:=(G.prev (by omega)).1.2
     rw[←q,Int.add_sub_cancel,h]at this;cases this
   ·rw[if_neg]
    ·exact d
    ·intro q
     have:=(G.next (by omega)).1.2
     rw[←q,Int.add_sub_cancel,h]at this;cases this
theorem Bt9 (T:Avx N t){r:Int->Nat}(W:Wf N t r){g:Int}(hg:Lv N t g):Wf N (rem t g) r:=by
 intro x hx h;obtain⟨hne,hl⟩:=Apx.1 hx;rw[Anb hne]at h ⊢;simp only at h ⊢
 by_cases hA:x+1=(t g).nx
 ·rw[if_pos hA]at h ⊢
  have h1:=W g hg h
  have h2:=((T.link g hg).next (by have:=hl.1;omega)).2.1
  rw[←hA,Int.add_sub_cancel]at h2
  have h3:=W x hl (by have:=hg.1;omega)
  rw[h2,Int.add_sub_cancel]at h3;omega
 ·rw[if_neg hA]at h ⊢;exact W x hl h
end
section
variable (N:Int) (t:Int->Lk)
def kf (f:Int):List Int:=kids N t N.toNat (f - 1)
structure A99 (fs:List Int):Prop where
 nodup:(fs.flatMap (kf N t)).Nodup
 iff: ∀x,x∈fs.flatMap (kf N t) ↔ Oo N t x
 top: ∀f∈fs,f≠0->(0≤f - 1∧f - 1<N)∧(t (f - 1)).pv=0
inductive Dd (S:List Int):Int->Prop
 |base {y:Int}:y∈S->Dd S y
 |step {y:Int}:Lv N t y->Cu N t y->Dd S ((t y).up - 1)->Dd S y
inductive Al:Int->Prop
 |root {y:Int}:Lv N t y->(t y).up=0->Al y
 |step {y:Int}:Lv N t y->Cu N t y->Al ((t y).up - 1)->Al y
def Odr:List Int->List (Int×Int)->Prop
 |_,[]=>True
 |seen,e::q=>(∀y,Dd N t (kf N t e.2) y-> ∀x,Lv N t x->(t x).up=y+1-> ¬Cu N t x->x∈seen)∧(e.1≠0-> ∀x,Lv N t x->(t x).up=e.1->x∈seen++kf N t e.2)∧Odr (seen++kf N t e.2) q
structure Ak4 (qs:List (Int×Int)):Prop where
 tree:Avx N t
 wf: ∃r,Wf N t r
 uw: ∃d:Int->Nat,∀x,Lv N t x->Cu N t x->d ((t x).up - 1)<d x
 kid:A99 N t (qs.map (·.2))
 ord:Odr N t [] qs
 gone: ∀x,Lv N t x->(t x).up≠0->(t ((t x).up - 1)).lv=true∨(t ((t x).up - 1)).gn=true
 ep: ∀x,Lv N t x->Lv N t ((t x).up - 1)->(t x).ue≤(t ((t x).up - 1)).ep
 slot: ∀e∈qs,e.1≠0->(t (e.1 - 1)).lv=false∧(t (e.1 - 1)).gn=true
end
section
variable {N:Int} {t:Int->Lk}
theorem Al.lv{y:Int}(h:Al N t y):Lv N t y:=by cases h<;>assumption
theorem Al.noOr{y:Int}(h:Al N t y): ¬Oo N t y:=by
 intro g;cases h with
 |root a b=>exact g.2.1 b
 |step a b c=>exact g.2.2 b
theorem Al.noDd{S:List Int}(hS: ∀x∈S,Oo N t x){y:Int}(h:Al N t y): ¬Dd N t S y:=by
 induction h with
 |root a b=>
  intro g;cases g with
  |base g=>exact(hS _ g).2.1 b
  |step g1 g2 g3=>have:=g2.1.1.1;omega
 |step a b c ih=>
  intro g;cases g with
  |base g=>exact(hS _ g).2.2 b
  |step g1 g2 g3=>exact ih g3
theorem Dd.in{S:List Int}(hS: ∀x∈S,0≤x∧x<N){y:Int}(h:Dd N t S y):0≤y∧y<N:=by
 cases h with
 |base h=>exact hS _ h
 |step h _ _=>exact h.1
theorem Be7{f x:Int}(h:x∈kf N t f):0≤x∧x<N:=A97 _ _ _ h
theorem A99.or{fs:List Int}(h:A99 N t fs){f:Int}(hf:f∈fs){x:Int}(hx:x∈kf N t f):Oo N t x:=
 (h.iff x).1 (List.mem_flatMap.2 ⟨f,hf,hx⟩)
theorem sib (T:Avx N t){g x:Int}(hg:Lv N t g)(h:x+1=(t g).pv)(hx:0≤x):Lv N t x∧(t g).up=(t x).up∧(t g).ue=(t x).ue:=by
 obtain⟨a,b⟩:=(T.link g hg).prev (by omega)
 rw[←h,Int.add_sub_cancel]at a b;obtain⟨_,_,c,d⟩:=(T.link x a).next (by rw[b];have:=hg.1;omega)
 rw[b,Int.add_sub_cancel]at c d;exact⟨a,c,d⟩
theorem Ble{g x:Int}(h1:(t g).up=(t x).up)(h2:(t g).ue=(t x).ue):Cu N t g ↔ Cu N t x:=by unfold Cu;rw[h1,h2]
theorem A19 (T:Avx N t){r:Int->Nat}(W:Wf N t r){g:Int}(hg:Lv N t g)(x:Int):x∈kf N t (t g).fi ↔ Lv N t x∧(t x).up=g+1∧Cu N t x:=by
 unfold kf;rw[Bla T W hg];constructor
 ·rintro⟨a,b,c⟩;refine⟨a,b,?_⟩;unfold Cu;rw[b,c,Int.add_sub_cancel];exact⟨hg,rfl⟩
 ·rintro⟨a,b,c⟩;refine⟨a,b,?_⟩
  have:=c.2;rw[b,Int.add_sub_cancel]at this;exact this.symm
theorem Bdv{g f:Int}(h: ∀x∈kf N t f,x≠g∧x+1≠(t g).pv):kf N (rem t g) f=kf N t f:=
 A2o _ _ fun x hx=>by
  obtain⟨a,b⟩:=h x hx;rw[Anb a];simp only;rw[if_neg b]
theorem A1u (T:Avx N t){r:Int->Nat}(W:Wf N t r){g:Int}(hg:Lv N t g):kf N (rem t g) (t g).fi=kf N t (t g).fi:=by
 refine Bdv fun x hx=> ?_;obtain⟨a,b,c⟩:=(A19 T W hg x).1 hx;constructor
 ·rintro rfl;exact A30 T hg c b
 ·intro e;obtain⟨_,h1,h2⟩:=sib T hg e a.1.1;exact A30 T hg ((Ble h1 h2).2 c) (h1.trans b)
theorem Baa (T:Avx N t){g f:Int}(hg:Lv N t g)(h:(0≤f - 1∧f - 1<N)∧(t (f - 1)).pv=0):(0≤f - 1∧f - 1<N)∧(rem t g (f - 1)).pv=0:=by
 refine⟨h.1,?_⟩
 by_cases e:f - 1=g
 ·rw[e,A42]
 ·rw[Anb e];simp only;rw[if_neg]
  ·exact h.2
  ·intro q
   have:=((T.link g hg).next (by omega)).2.1
   rw[←q,Int.add_sub_cancel,h.2]at this
   have:=hg.1;omega
theorem A83 (T:Avx N t){g:Int}(hg:Lv N t g)(h:(t g).fi≠0):(0≤(t g).fi - 1∧(t g).fi - 1<N)∧(rem t g ((t g).fi - 1)).pv=0:=by
 obtain⟨a,b,_⟩:=(T.link g hg).first h;exact Baa T hg ⟨a.1,b⟩
theorem Ai8{α:Type}{a b:List α}:(a++b).Nodup ↔ a.Nodup∧b.Nodup∧ ∀x∈a,x ∉ b:=by
 rw[List.nodup_append];exact⟨fun h=>⟨h.1,h.2.1,fun x h1 h2=>h.2.2 x h1 x h2 rfl⟩,fun h=>⟨h.1,h.2.1,fun x h1 y h2 e=>h.2.2 x h1 (e ▸ h2)⟩⟩
theorem Aua{α β:Type}{l:List α}{f g:α->List β}(h: ∀x∈l,f x=g x):l.flatMap f=l.flatMap g:=by
 induction l with
 |nil=>rfl
 |cons x l ih=>rw[List.flatMap_cons,List.flatMap_cons,h x (by simp),ih fun y hy=>h y (by simp[hy])]
theorem A5o (T:Avx N t){g:Int}(hg:Lv N t g)(ho: ¬Oo N t g){fs:List Int}(K:A99 N t fs){f:Int}(hf:f∈fs):kf N (rem t g) f=kf N t f:=by
 refine Bdv fun x hx=> ?_
 have hx:=K.or hf hx;constructor
 ·rintro rfl;exact ho hx
 ·intro e;obtain⟨_,h1,h2⟩:=sib T hg e hx.1.1.1;exact ho ⟨hg,h1 ▸ hx.2.1,fun c=>hx.2.2 ((Ble h1 h2).1 c)⟩
theorem Bg4 (T:Avx N t){r:Int->Nat}(W:Wf N t r){g:Int}(hg:Lv N t g)(ho: ¬Oo N t g){fs:List Int}(K:A99 N t fs):A99 N (rem t g) (fs++[(t g).fi]):=by
 have e:(fs++[(t g).fi]).flatMap (kf N (rem t g))=fs.flatMap (kf N t)++kf N t (t g).fi:=by
  rw[List.flatMap_append,List.flatMap_cons,List.flatMap_nil,List.append_nil,A1u T W hg,Aua fun f hf=>A5o T hg ho K hf]
 refine⟨?_,fun x=> ?_,fun f hf h0=> ?_⟩
 ·rw[e,Ai8];exact⟨K.nodup,A3g T W _ hg,fun x h1 h2=>((K.iff x).1 h1).2.2 ((A19 T W hg x).1 h2).2.2⟩
 ·rw[e,Gh,K.iff,A19 T W hg,Blc hg.1.1];constructor
  ·rintro(h|⟨a,b,c⟩)
   ·exact⟨fun q=>ho (q ▸ h),.inl h⟩
   ·exact⟨fun q=>A30 T hg (q ▸ c) (q ▸ b),.inr ⟨a,b⟩⟩
  ·rintro⟨a,h|⟨b,c⟩⟩
   ·exact .inl h
   ·by_cases d:Cu N t x
    ·exact .inr ⟨b,c,d⟩
    ·exact .inl ⟨b,by have:=hg.1.1;omega,d⟩
 ·rw[Gh,Mx]at hf;rcases hf with hf|rfl
  ·exact Baa T hg (K.top f hf h0)
  ·exact A83 T hg h0
theorem A43{f:Int}(h:0≤f - 1∧f - 1<N):f - 1∈kf N t f:=by
 unfold kf;obtain⟨m,hm⟩: ∃m,N.toNat=m+1:=⟨N.toNat - 1,by omega⟩
 rw[hm,kids,if_pos h];simp
theorem A4g (T:Avx N t){r:Int->Nat}(W:Wf N t r){g:Int}(hg:Lv N t g):kf N t (g+1)=g::kf N t (t g).nx:=by
 unfold kf;obtain⟨m,hm⟩: ∃m,N.toNat=m+1:=⟨N.toNat - 1,by have:=hg.1;omega⟩
 rw[Int.add_sub_cancel,hm,kids,if_pos hg.1]
 congr 1
 rw[Bg1,List.take_of_length_le]
 by_cases h0:(t g).nx=0
 ·rw[h0,Axy];exact Z21 _
 ·obtain⟨a,b,_⟩:=(T.link g hg).next h0
  have hr:=W _ a (by rw[b];have:=hg.1;omega)
  rw[b,Int.add_sub_cancel]at hr
  have hn:g ∉ kids N t (m+1) ((t g).nx - 1):=fun h=>by
   have:=(A82 T W (m+1) _ a).1 g h;omega
  have:=A98 (N:=N) (List.nodup_cons.2 ⟨hn,A4f T W (m+1) a⟩) (fun y hy=>by
   rcases Di.1 hy with rfl|hy
   ·exact hg.1
   ·exact A97 _ _ y hy)
  simp only[Xf]at this;omega
theorem Blf (T:Avx N t){r:Int->Nat}(W:Wf N t r){g:Int}(hg:Lv N t g){fs:List Int}(K:A99 N t ((g+1)::fs)):
  (∀f∈(t g).nx::fs,kf N (rem t g) f=kf N t f)∧A99 N (rem t g) ((t g).fi::(t g).nx::fs):=by
 have h0:(t g).pv=0:=by have:=(K.top (g+1) (by simp) (by have:=hg.1;omega)).2;rwa[Int.add_sub_cancel]at this
 have ho:Oo N t g:=K.or (f:=g+1) (by simp) (by have:=A43 (N:=N) (t:=t) (f:=g+1) (by rw[Int.add_sub_cancel];exact hg.1);rwa[Int.add_sub_cancel]at this)
 have hnd:=K.nodup;rw[List.flatMap_cons,A4g T W hg]at hnd;rw[Qe,List.nodup_cons]at hnd
 have hold: ∀f∈(t g).nx::fs,kf N (rem t g) f=kf N t f:=fun f hf=>Bdv fun x hx=>by
  refine⟨?_,fun e=>by have:=Be7 hx;omega⟩
  rintro rfl;refine hnd.1 ?_;rcases Di.1 hf with rfl|hf
  ·exact List.mem_append_left _ hx
  ·exact List.mem_append_right _ (List.mem_flatMap.2 ⟨f,hf,hx⟩)
 have e:((t g).fi::(t g).nx::fs).flatMap (kf N (rem t g))=kf N t (t g).fi++((t g).nx::fs).flatMap (kf N t):=by
  rw[List.flatMap_cons,A1u T W hg,Aua hold]
 have hsub: ∀x,x∈((t g).nx::fs).flatMap (kf N t) ↔ Oo N t x∧x≠g:=by
  intro x
  have:=K.iff x;rw[List.flatMap_cons,A4g T W hg,Qe,Di]at this;rw[List.flatMap_cons];constructor
  ·intro h;exact⟨this.1 (.inr h),fun q=>hnd.1 (q ▸ h)⟩
  ·rintro⟨h,hne⟩;rcases this.2 h with q|q
   ·exact absurd q hne
   ·exact q
 refine⟨hold,?_,fun x=> ?_,fun f hf h1=> ?_⟩
 ·rw[e,Ai8];refine⟨A3g T W _ hg,by rw[List.flatMap_cons];exact hnd.2,fun x h1 h2=>((hsub x).1 h2).1.2.2 ((A19 T W hg x).1 h1).2.2⟩
 ·rw[e,Gh,hsub,A19 T W hg,Blc hg.1.1];constructor
  ·rintro(⟨a,b,c⟩|⟨a,b⟩)
   ·exact⟨fun q=>A30 T hg (q ▸ c) (q ▸ b),.inr ⟨a,b⟩⟩
   ·exact⟨b,.inl a⟩
  ·rintro⟨a,h|⟨b,c⟩⟩
   ·exact .inr ⟨h,a⟩
   ·by_cases d:Cu N t x
    ·exact .inl ⟨b,c,d⟩
    ·exact .inr ⟨⟨b,by have:=hg.1.1;omega,d⟩,a⟩
 ·rcases Di.1 hf with rfl|hf
  ·exact A83 T hg h1
  ·rcases Di.1 hf with rfl|hf
   ·obtain⟨a,b,_⟩:=(T.link g hg).next h1
    have hm:(t g).nx - 1≠g:=fun q=>by rw[q]at b;have:=hg.1;omega
    refine⟨a.1,?_⟩;rw[Anb hm];simp only;rw[if_pos (by omega)]
    exact h0
   ·exact Baa T hg (K.top f (by simp[hf]) h1)
theorem A7k{t':Int->Lk}: ∀(q:List (Int×Int)) (seen seen':List Int),(∀e∈q,kf N t' e.2=kf N t e.2)→
  (∀e∈q,∀y,Dd N t' (kf N t' e.2) y->Dd N t (kf N t e.2) y∧ ∀x,Lv N t' x->(t' x).up=y+1-> ¬Cu N t' x->x∈seen'∨Lv N t x∧(t x).up=y+1∧ ¬Cu N t x)→
  (∀e∈q,e.1≠0-> ∀x,Lv N t' x->(t' x).up=e.1->x∈seen'∨Lv N t x∧(t x).up=e.1)→
  (∀x∈seen,Lv N t' x->x∈seen')->Odr N t seen q->Odr N t' seen' q:=by
 intro q
 induction q with
 |nil=>intros;trivial
 |cons e q ih=>
  intro seen seen' hk hd hsl hs h;obtain⟨h1,h2,h3⟩:=h
  have hke:=hk e (by simp)
  refine⟨fun y hy x hx hu hc=> ?_,fun h0 x hx hu=> ?_,?_⟩
  ·obtain⟨a,b⟩:=hd e (by simp) y hy
   rcases b x hx hu hc with b|⟨b1,b2,b3⟩
   ·exact b
   ·exact hs x (h1 y a x b1 b2 b3) hx
  ·rw[hke,Gh];rcases hsl e (by simp) h0 x hx hu with b|⟨b1,b2⟩
   ·exact .inl b
   ·rcases Gh.1 (h2 h0 x b1 b2)with b|b
    ·exact .inl (hs x b hx)
    ·exact .inr b
  ·rw[hke];refine ih (seen++kf N t e.2) _ (fun f hf=>hk f (by simp[hf])) (fun f hf y hy=> ?_) (fun f hf h0 x hx hu=> ?_) (fun x hx hl=> ?_) h3
   ·obtain⟨a,b⟩:=hd f (by simp[hf]) y hy
    refine⟨a,fun x hx hu hc=> ?_⟩;rcases b x hx hu hc with b|b
    ·exact .inl (List.mem_append_left _ b)
    ·exact .inr b
   ·rcases hsl f (by simp[hf]) h0 x hx hu with b|b
    ·exact .inl (List.mem_append_left _ b)
    ·exact .inr b
   ·rcases Gh.1 hx with h|h
    ·exact List.mem_append_left _ (hs x h hl)
    ·exact List.mem_append_right _ h
theorem Be8: ∀(q:List (Int×Int)) (seen:List Int) (e:Int×Int),Odr N t seen q→
  (∀y,Dd N t (kf N t e.2) y-> ∀x,Lv N t x->(t x).up=y+1-> ¬Cu N t x->x∈seen++q.flatMap (fun e=>kf N t e.2))→
  (e.1≠0-> ∀x,Lv N t x->(t x).up=e.1->x∈(seen++q.flatMap (fun e=>kf N t e.2))++kf N t e.2)->Odr N t seen (q++[e]):=by
 intro q
 induction q with
 |nil=>intro seen e h h1 h2;rw[List.flatMap_nil,List.append_nil]at h1 h2;exact⟨h1,h2,trivial⟩
 |cons f q ih=>
  intro seen e h h1 h2;obtain⟨a,b,c⟩:=h;rw[List.flatMap_cons,←Lc]at h1 h2;exact⟨a,b,ih _ e c h1 h2⟩
theorem Bab{g:Int}{S:List Int}{y:Int}(h:Dd N (rem t g) S y):Dd N t S y:=by
 induction h with
 |base h=>exact .base h
 |step a b c ih=>
  obtain⟨h1,h2⟩:=Apx.1 a;rw[Anb h1]at ih;exact .step h2 ((A1d h1).1 b).2 ih
theorem A3h{g:Int}{S:List Int}(hS:g ∉ S){y:Int}(h:Dd N (rem t g) S y):y≠g:=by
 cases h with
 |base h=>exact fun e=>hS (e ▸ h)
 |step a _ _=>exact(Apx.1 a).1
theorem A7l{qs qs':List (Int×Int)}(F:Ak4 N t qs){g:Int}(hg:Lv N t g)(hK:A99 N (rem t g) (qs'.map (·.2)))(hO:Odr N (rem t g) [] qs')(hs: ∀e∈qs',e.1≠0->e.1=g+1∨e.1∈qs.map (·.1)):Ak4 N (rem t g) qs':=by
 obtain⟨r,W⟩:=F.wf;obtain⟨d,U⟩:=F.uw;refine⟨A7j F.tree hg,⟨r,Bt9 F.tree W hg⟩,⟨d,fun x hx hc=> ?_⟩,hK,hO,fun x hx h=> ?_,fun x hx h=> ?_,fun e he h0=> ?_⟩
 ·obtain⟨h1,h2⟩:=Apx.1 hx;rw[Anb h1];exact U x h2 ((A1d h1).1 hc).2
 ·obtain⟨h1,h2⟩:=Apx.1 hx;rw[Anb h1]at h ⊢;simp only at h ⊢
  by_cases e:(t x).up - 1=g
  ·rw[e,A42];exact .inr rfl
  ·rw[Anb e];exact F.gone x h2 h
 ·obtain⟨h1,h2⟩:=Apx.1 hx;rw[Anb h1]at h ⊢;simp only at h ⊢;obtain⟨h3,h4⟩:=Apx.1 h;rw[Anb h3];exact F.ep x h2 h4
 ·by_cases e1:e.1 - 1=g
  ·rw[e1,A42];exact⟨rfl,rfl⟩
  ·rw[Anb e1];rcases hs e he h0 with h|h
   ·omega
   ·obtain⟨a,ha,hb⟩:=D9.1 h;simp only at hb ⊢;rw[←hb];exact F.slot a ha (by rw[hb];exact h0)
theorem Bac{qs:List (Int×Int)}(F:Ak4 N t qs){g:Int}(hg:Al N t g):Ak4 N (rem t g) (qs++[(g+1,(t g).fi)]):=by
 obtain⟨r,W⟩:=F.wf
 have hl:=hg.lv
 have T:=F.tree
 have K:=F.kid
 have hK:=Bg4 T W hl hg.noOr K;rw[show qs.map (·.2)++[(t g).fi]=(qs++[(g+1,(t g).fi)]).map (·.2)by simp]at hK
 have hold: ∀e∈qs,kf N (rem t g) e.2=kf N t e.2:=fun e he=>A5o T hl hg.noOr K (D9.2 ⟨e,he,rfl⟩)
 have hgn: ∀e∈qs,g ∉ kf N t e.2:=fun e he h=>hg.noOr (K.or (D9.2 ⟨e,he,rfl⟩) h)
 have hflat:qs.flatMap (fun e=>kf N (rem t g) e.2)=(qs.map (·.2)).flatMap (kf N t):=by
  rw[List.flatMap_map];exact Aua hold
 refine A7l F hl hK (Be8 _ _ _ (A7k qs [] [] hold (fun e he y hy=> ?_) (fun e he h0 x hx hu=> ?_) (fun x hx=>by cases hx) F.ord) (fun y hy x hx hu hc=> ?_) (fun _ x hx hu=> ?_)) (fun e he h0=> ?_)
 ·have hy2:=A3h (by rw[hold e he];exact hgn e he) hy
  refine⟨by rw[←hold e he];exact Bab hy,fun x hx hu hc=> .inr ?_⟩
  obtain⟨a,b⟩:=Apx.1 hx;rw[Anb a]at hu;simp only at hu;exact⟨b,hu,fun h=>hc ((A1d a).2 ⟨by omega,h⟩)⟩
 ·obtain⟨a,b⟩:=Apx.1 hx;rw[Anb a]at hu;exact .inr ⟨b,hu⟩
 ·rw[Zl,hflat,K.iff];obtain⟨a,b⟩:=Apx.1 hx;rw[Anb a]at hu;simp only at hu;rw[A1u T W hl]at hy
  have hgc:g ∉ kf N t (t g).fi:=fun h=>by obtain⟨_,h2,h3⟩:=(A19 T W hl g).1 h;exact A30 T hl h3 h2
  have hy2:=A3h hgc hy
  have hy0:=Dd.in (fun x hx=>Be7 hx) hy;exact⟨b,by omega,fun h=>hc ((A1d a).2 ⟨by omega,h⟩)⟩
 ·rw[Zl,hflat,A1u T W hl,Gh,K.iff,A19 T W hl];obtain⟨a,b⟩:=Apx.1 hx;rw[Anb a]at hu;simp only at hu
  by_cases c:Cu N t x
  ·exact .inr ⟨b,hu,c⟩
  ·exact .inl ⟨b,by have:=hl.1;omega,c⟩
 ·rcases Gh.1 he with he|he
  ·exact .inr (D9.2 ⟨e,he,rfl⟩)
  ·rw[Mx]at he;rw[he];exact .inl rfl
theorem Bb5{qs:List (Int×Int)}{s g:Int}(F:Ak4 N t ((s,g+1)::qs))(h0:0≤g):Lv N t g∧(t g).pv=0∧Ak4 N (rem t g) ((g+1,(t g).fi)::(s,(t g).nx)::qs):=by
 obtain⟨r,W⟩:=F.wf
 have T:=F.tree
 have K:=F.kid;rw[Z8]at K;obtain⟨k1,k2⟩:=K.top (g+1) (by simp) (by omega)
 have hgm:g∈kf N t (g+1):=by have:=A43 (N:=N) (t:=t) k1;rwa[Int.add_sub_cancel]at this
 have ho:Oo N t g:=K.or (f:=g+1) (by simp) hgm
 have hl:=ho.1;rw[Int.add_sub_cancel]at k2;obtain⟨hold,hK⟩:=Blf T W hl K;obtain⟨o1,o2,o3⟩:=F.ord;simp only[Zl]at o1 o2 o3
 have hsp:=A4g T W hl
 have hgc:g ∉ kf N t (t g).fi:=fun h=>by obtain⟨_,h2,h3⟩:=(A19 T W hl g).1 h;exact A30 T hl h3 h2
 have hchild: ∀y,Dd N t (kf N t (t g).fi) y->Dd N t (kf N t (g+1)) y:=by
  intro y hy
  induction hy with
  |base h=>
   obtain⟨a,b,c⟩:=(A19 T W hl _).1 h;exact .step a c (by rw[b,Int.add_sub_cancel];exact .base hgm)
  |step a b c ih=>exact .step a b ih
 have hnone: ∀y,Dd N t (kf N t (g+1)) y-> ∀x,Lv N t x->(t x).up=y+1->Cu N t x:=fun y hy x hx hu=>Classical.byContradiction fun h=>by have:=o1 y hy x hx hu h;cases this
 refine⟨hl,k2,A7l F hl hK ⟨fun y hy x hx hu hc=> ?_,fun _ x hx hu=> ?_,fun y hy x hx hu hc=> ?_,fun hs x hx hu=> ?_,?_⟩ (fun e he h1=> ?_)⟩
 ·exfalso;rw[A1u T W hl]at hy
  have hy2:=A3h hgc hy;obtain⟨a,b⟩:=Apx.1 hx;rw[Anb a]at hu;simp only at hu;exact hc ((A1d a).2 ⟨by omega,hnone y (hchild y (Bab hy)) x b hu⟩)
 ·rw[Zl,A1u T W hl,A19 T W hl];obtain⟨a,b⟩:=Apx.1 hx;rw[Anb a]at hu;simp only at hu;exact⟨b,hu,hnone g (.base hgm) x b hu⟩
 ·exfalso;rw[hold _ (by simp)]at hy
  have hgt:g ∉ kf N t (t g).nx:=by
   have:=K.nodup;rw[List.flatMap_cons,hsp,Qe,List.nodup_cons]at this;exact fun h=>this.1 (List.mem_append_left _ h)
  have hy2:=A3h hgt hy;obtain⟨a,b⟩:=Apx.1 hx;rw[Anb a]at hu;simp only at hu
  have hd:Dd N t (kf N t (g+1)) y:=by
   have:=Bab hy;rw[hsp];clear hy hu
   induction this with
   |base h=>exact .base (Z56 _ h)
   |step a b c ih=>
    exact .step a b (Classical.byCases (fun e:(t _).up - 1=g=>by rw[e];exact .base (by simp)) (fun e=>ih e))
  exact hc ((A1d a).2 ⟨by omega,hnone y hd x b hu⟩)
 ·rw[Zl,A1u T W hl,hold _ (by simp)]
  obtain⟨a,b⟩:=Apx.1 hx;rw[Anb a]at hu;simp only at hu
  have:=o2 hs x b hu;rw[hsp]at this;rcases Di.1 this with h|h
  ·exact absurd h a
  ·exact List.mem_append_right _ h
 ·rw[Zl,A1u T W hl,hold _ (by simp)]
  have hq: ∀e∈qs,e.2∈(t g).nx::qs.map (·.2):=fun e he=>Z56 _ (D9.2 ⟨e,he,rfl⟩)
  have hnd:=K.nodup;rw[List.flatMap_cons,hsp,Qe,List.nodup_cons]at hnd;refine A7k qs (kf N t (g+1)) _ (fun e he=>hold _ (hq e he)) (fun e he y hy=> ?_) (fun e he _ x hx hu=> ?_) (fun x hx hl'=> ?_) o3
  ·rw[hold _ (hq e he)]at hy
   have hy2:=A3h (fun h=>hnd.1 (List.mem_append_right _ (List.mem_flatMap.2 ⟨e.2,D9.2 ⟨e,he,rfl⟩,h⟩))) hy;refine⟨Bab hy,fun x hx hu hc=> .inr ?_⟩;obtain⟨a,b⟩:=Apx.1 hx;rw[Anb a]at hu;simp only at hu;exact⟨b,hu,fun h=>hc ((A1d a).2 ⟨by omega,h⟩)⟩
  ·obtain⟨a,b⟩:=Apx.1 hx;rw[Anb a]at hu;exact .inr ⟨b,hu⟩
  ·rw[hsp]at hx;rcases Di.1 hx with h|h
   ·exact absurd h (Apx.1 hl').1
   ·exact List.mem_append_right _ h
 ·rcases Di.1 he with rfl|he
  ·exact .inl rfl
  ·rcases Di.1 he with rfl|he
   ·exact .inr (by simp)
   ·exact .inr (D9.2 ⟨e,Z56 _ he,rfl⟩)
end
section
variable {N:Int} {t:Int->Lk}
def emp (t:Int->Lk)(k x:Int):Lk:=if x=k then⟨(t k).lv,(t k).gn,(t k).ep+1,(t k).up,(t k).ue,0,(t k).nx,(t k).pv⟩else t x
theorem A84{k:Int}:emp t k k=⟨(t k).lv,(t k).gn,(t k).ep+1,(t k).up,(t k).ue,0,(t k).nx,(t k).pv⟩:=if_pos rfl
theorem A59{k x:Int}(h:x≠k):emp t k x=t x:=if_neg h
theorem Aha (k x:Int):(emp t k x).lv=(t x).lv∧(emp t k x).gn=(t x).gn∧(emp t k x).up=(t x).up∧(emp t k x).ue=(t x).ue∧(emp t k x).nx=(t x).nx∧(emp t k x).pv=(t x).pv:=by
 by_cases h:x=k
 ·subst h;rw[A84];exact⟨rfl,rfl,rfl,rfl,rfl,rfl⟩
 ·rw[A59 h];exact⟨rfl,rfl,rfl,rfl,rfl,rfl⟩
theorem Arv{k x:Int}:Lv N (emp t k) x ↔ Lv N t x:=by unfold Lv;rw[(Aha k x).1]
theorem A4h (hE: ∀x,Lv N t x->Lv N t ((t x).up - 1)->(t x).ue≤(t ((t x).up - 1)).ep){k x:Int}(hx:Lv N t x):Cu N (emp t k) x ↔ (t x).up≠k+1∧Cu N t x:=by
 unfold Cu;rw[Arv,(Aha k x).2.2.1,(Aha k x).2.2.2.1]
 by_cases h:(t x).up - 1=k
 ·rw[h,A84];simp only;constructor
  ·rintro⟨a,b⟩
   have:=hE x hx (by rw[h];exact a)
   rw[h]at this;omega
  ·rintro⟨a,_⟩;omega
 ·rw[A59 h];exact⟨fun a=>⟨by omega,a⟩,fun a=>a.2⟩
theorem A6s{k x:Int}(hx:(t x).up≠k+1):Cu N (emp t k) x ↔ Cu N t x:=by
 unfold Cu;rw[Arv,(Aha k x).2.2.1,(Aha k x).2.2.2.1,A59 (by omega)]
theorem A7n (k f:Int):kf N (emp t k) f=kf N t f:=A2o _ _ fun x _=>(Aha k x).2.2.2.2.1
theorem Blg (k:Int)(n:Nat)(x:Int):rise N (emp t k) n x=rise N t n x:=A1t _ _ fun x _=>(Aha k x).2.2.1
theorem Blh (T:Avx N t)(hE: ∀x,Lv N t x->Lv N t ((t x).up - 1)->(t x).ue≤(t ((t x).up - 1)).ep){k:Int}(hk:Lv N t k):Avx N (emp t k):=by
 refine⟨fun x hx=> ?_,fun x hx=> ?_,fun x h0 h1 h=> ?_⟩
 ·have hl:=Arv.1 hx
  have X:=T.link x hl;obtain⟨s1,s2,s3,s4,s5,s6⟩:=Aha (t:=t) k x;refine⟨fun h=> ?_,fun h=> ?_,fun h=> ?_,fun h=> ?_,fun h hc=> ?_⟩
  ·by_cases e:x=k
   ·subst e;rw[A84]at h;exact absurd rfl h
   ·rw[A59 e]at h ⊢;obtain⟨a,b,c,d⟩:=X.first h;obtain⟨q1,q2,q3,q4,q5,q6⟩:=Aha (t:=t) k ((t x).fi - 1);rw[Arv,q6,q3,q4];exact⟨a,b,c,d⟩
  ·rw[s5]at h ⊢;obtain⟨q1,q2,q3,q4,q5,q6⟩:=Aha (t:=t) k ((t x).nx - 1);rw[Arv,q6,q3,q4,s3,s4];exact X.next h
  ·rw[s6]at h ⊢;rw[Arv,(Aha k _).2.2.2.2.1];exact X.prev h
  ·rw[s3]at h ⊢;exact X.up h
  ·rw[s6]at h;obtain⟨a,b⟩:=(A4h hE hl).1 hc;rw[s3,A59 (by omega)]
   exact X.top h b
 ·have hl:=Arv.1 hx;rw[Blg];obtain⟨a,b⟩:=T.rise x hl;refine⟨a,fun y hy hc=> ?_⟩
  have hy2:=b y hy
  by_cases e:Lv N t y
  ·exact hy2 ((A4h hE e).1 hc).2
  ·have hin:=Azz _ _ y (List.mem_of_getLast? hy)
   have:=(T.bare y hin.1 hin.2 (by cases q:(t y).lv with|false=>rfl|true=>exact absurd ⟨hin,q⟩ e)).1
   unfold Cu at hc;rw[(Aha k y).2.2.1,this]at hc
   have:=hc.1.1.1;omega
 ·by_cases e:x=k
  ·subst e;rw[A84]at h;have:=hk.2;simp only at h;rw[h]at this;cases this
  ·rw[A59 e]at h ⊢;exact T.bare x h0 h1 h
theorem Bli (hE: ∀x,Lv N t x->Lv N t ((t x).up - 1)->(t x).ue≤(t ((t x).up - 1)).ep){k x:Int}(hk:0≤k):Oo N (emp t k) x ↔ Oo N t x∨Lv N t x∧(t x).up=k+1:=by
 unfold Oo;rw[Arv,(Aha k x).2.2.1];constructor
 ·rintro⟨a,b,c⟩
  by_cases e:(t x).up=k+1
  ·exact .inr ⟨a,e⟩
  ·exact .inl ⟨a,b,fun d=>c ((A4h hE a).2 ⟨e,d⟩)⟩
 ·rintro(⟨a,b,c⟩|⟨a,b⟩)
  ·exact⟨a,b,fun d=>c ((A4h hE a).1 d).2⟩
  ·exact⟨a,by omega,fun d=>((A4h hE a).1 d).1 b⟩
theorem Bad{qs:List (Int×Int)}(F:Ak4 N t qs){k:Int}(hg:Al N t k):Ak4 N (emp t k) (qs++[(0,(t k).fi)]):=by
 obtain⟨r,W⟩:=F.wf;obtain⟨d,U⟩:=F.uw
 have hl:=hg.lv
 have T:=F.tree
 have K:=F.kid
 have hE:=F.ep
 have hflat:qs.flatMap (fun e=>kf N (emp t k) e.2)=(qs.map (·.2)).flatMap (kf N t):=by
  rw[List.flatMap_map];exact Aua fun e _=>A7n k e.2
 have hfl2:((qs++[((0:Int),(t k).fi)]).map (fun e:Int×Int=>e.2)).flatMap (kf N (emp t k))=(qs.map (·.2)).flatMap (kf N t)++kf N t (t k).fi:=by
  rw[Fv,List.flatMap_append,List.flatMap_map,hflat];simp[A7n]
 refine⟨Blh T hE hl,⟨r,fun x hx h=> ?_⟩,⟨d,fun x hx hc=> ?_⟩,⟨?_,fun x=> ?_,fun f hf h0=> ?_⟩,Be8 _ _ _ (A7k qs [] [] (fun e _=>A7n k e.2) (fun e he y hy=> ?_) (fun e he _ x hx hu=> ?_) (fun x hx=>by cases hx) F.ord) (fun y hy x hx hu hc=> ?_) (fun h=>absurd rfl h),fun x hx h=> ?_,fun x hx h=> ?_,fun e he h0=> ?_⟩
 ·rw[(Aha k x).2.2.2.2.2]at h ⊢;exact W x (Arv.1 hx) h
 ·rw[(Aha k x).2.2.1];exact U x (Arv.1 hx) ((A4h hE (Arv.1 hx)).1 hc).2
 ·rw[hfl2,Ai8];exact⟨K.nodup,A3g T W _ hl,fun x h1 h2=>((K.iff x).1 h1).2.2 ((A19 T W hl x).1 h2).2.2⟩
 ·rw[hfl2,Gh,K.iff,A19 T W hl,Bli hE hl.1.1];constructor
  ·rintro(h|⟨a,b,c⟩)
   ·exact .inl h
   ·exact .inr ⟨a,b⟩
  ·rintro(h|⟨b,c⟩)
   ·exact .inl h
   ·by_cases d:Cu N t x
    ·exact .inr ⟨b,c,d⟩
    ·exact .inl ⟨b,by have:=hl.1.1;omega,d⟩
 ·rw[(Aha k _).2.2.2.2.2];rw[Fv,Gh]at hf;rcases hf with hf|hf
  ·exact K.top f hf h0
  ·simp only[Z8,Gk,Mx]at hf;subst hf;obtain⟨a,b,_⟩:=(T.link k hl).first h0;exact⟨a.1,b⟩
 ·have hor: ∀x∈kf N t e.2,Oo N t x:=fun x hx=>K.or (D9.2 ⟨e,he,rfl⟩) hx
  have hy2:Dd N t (kf N t e.2) y:=by
   rw[A7n]at hy
   induction hy with
   |base h=>exact .base h
   |step a b c ih=>
    rw[(Aha k _).2.2.1]at ih;exact .step (Arv.1 a) ((A4h hE (Arv.1 a)).1 b).2 ih
  refine⟨hy2,fun x hx hu hc=> .inr ?_⟩;rw[(Aha k x).2.2.1]at hu
  have hne:y≠k:=fun q=>hg.noDd hor (q ▸ hy2);exact⟨Arv.1 hx,hu,fun h=>hc ((A6s (by omega)).2 h)⟩
 ·rw[(Aha k x).2.2.1]at hu;exact .inr ⟨Arv.1 hx,hu⟩
 ·rw[Zl,hflat,K.iff];rw[(Aha k x).2.2.1]at hu
  have hy0:=Dd.in (fun x hx=>Be7 hx) hy
  have hal:Al N (emp t k) k:=by
   clear hy hu hc hx;cases hg with
   |root a b=>exact .root (Arv.2 a) (by rw[(Aha k _).2.2.1];exact b)
   |step a b c=>
    have key: ∀z,Al N t z->d z<d k->Al N (emp t k) z:=by
     intro z hz
     induction hz with
     |root a b=>intro _;exact .root (Arv.2 a) (by rw[(Aha k _).2.2.1];exact b)
     | @step z a b c ih=>
      intro h1
      have h2:=U z a b
      have hne:(t z).up≠k+1:=fun q=>by rw[q,Int.add_sub_cancel]at h2;omega
      exact .step (Arv.2 a) ((A6s hne).2 b) (by rw[(Aha k _).2.2.1];exact ih (by omega))
    have h2:=U k a b
    have hne:(t k).up≠k+1:=fun q=>by rw[q,Int.add_sub_cancel]at h2;omega
    exact .step (Arv.2 a) ((A6s hne).2 b) (by rw[(Aha k _).2.2.1];exact key _ c h2)
  have hne:y≠k:=fun q=>by
   refine hal.noDd (S:=kf N (emp t k) (t k).fi) (fun z hz=> ?_) (q ▸ hy);rw[A7n,A19 T W hl]at hz;exact(Bli hE hl.1.1).2 (.inr ⟨hz.1,hz.2.1⟩)
  exact⟨Arv.1 hx,by omega,fun h=>hc ((A6s (by omega)).2 h)⟩
 ·rw[(Aha k x).2.2.1]at h ⊢;rw[(Aha k _).1,(Aha k _).2.1];exact F.gone x (Arv.1 hx) h
 ·rw[(Aha k x).2.2.1]at h ⊢;rw[(Aha k x).2.2.2.1]
  have:=hE x (Arv.1 hx) (Arv.1 h)
  by_cases e:(t x).up - 1=k
  ·rw[e]at this ⊢;rw[A84];simp only;omega
  ·rw[A59 e];exact this
 ·rw[(Aha k _).1,(Aha k _).2.1];rcases Gh.1 he with he|he
  ·exact F.slot e he h0
  ·rw[Mx]at he;rw[he]at h0;exact absurd rfl h0
def clr (t:Int->Lk)(k x:Int):Lk:=if x=k then⟨false,false,0,0,0,0,0,0⟩else t x
theorem A7o{qs:List (Int×Int)}{s:Int}(F:Ak4 N t ((s,0)::qs)):Ak4 N t qs:=by
 obtain⟨o1,o2,o3⟩:=F.ord
 have h0:kf N t 0=[]:=Axy _
 have K:=F.kid;simp only[h0,List.append_nil]at o3;refine⟨F.tree,F.wf,F.uw,?_,o3,F.gone,F.ep,fun e he=>F.slot e (Z56 _ he)⟩;refine⟨?_,fun x=> ?_,fun f hf=>K.top f (Z56 _ hf)⟩
 ·have:=K.nodup;rw[Z8,List.flatMap_cons,h0,Zl]at this;exact this
 ·have:=K.iff x;rw[Z8,List.flatMap_cons,h0,Zl]at this;exact this
theorem Avy{k:Int}(h:(t k).lv=false){x:Int}:Lv N (clr t k) x ↔ Lv N t x:=by
 unfold Lv clr
 by_cases e:x=k
 ·subst e;rw[if_pos rfl,h]
 ·rw[if_neg e]
theorem Ai4{k:Int}(h:(t k).lv=false){x:Int}(hx:Lv N t x):clr t k x=t x:=by
 unfold clr;rw[if_neg];intro e;subst e
 have:=hx.2;rw[h]at this;cases this
theorem A4i{k:Int}(h:(t k).lv=false){x:Int}(hx:Lv N t x):Cu N (clr t k) x ↔ Cu N t x:=by
 unfold Cu;rw[Ai4 h hx,Avy h];constructor
 ·rintro⟨a,b⟩;rw[Ai4 h a]at b;exact⟨a,b⟩
 ·rintro⟨a,b⟩;rw[Ai4 h a];exact⟨a,b⟩
theorem Bae{qs:List (Int×Int)}{s:Int}(F:Ak4 N t ((s,0)::qs))(h0:s≠0)(hs: ∀e∈qs,e.1≠s):Ak4 N (clr t (s - 1)) qs:=by
 have F':=A7o F;obtain⟨r,W⟩:=F.wf;obtain⟨d,U⟩:=F.uw
 have T:=F.tree
 have K:=F'.kid;obtain⟨hlv,hgn⟩:=F.slot (s,0) (by simp) h0
 simp only at hlv hgn
 have hno: ∀x,Lv N t x->(t x).up≠s:=fun x hx e=>by
  have:=F.ord.2.1 h0 x hx e;rw[show kf N t ((s,(0:Int)).2)=[] from Axy _]at this
  cases this
 have hnl: ∀x,x≠s - 1->clr t (s - 1) x=t x:=fun x h=>if_neg h
 have hup: ∀x,(0≤x∧x<N)->(clr t (s - 1) x).up=(t x).up:=fun x h=>by
  by_cases e:x=s - 1
  ·subst e;rw[(T.bare _ h.1 h.2 hlv).1];unfold clr;rw[if_pos rfl]
  ·rw[hnl x e]
 have hri: ∀n x,rise N (clr t (s - 1)) n x=rise N t n x:=fun n x=>A1t n x fun y hy=>hup y (Azz _ _ y hy)
 have hkf: ∀f∈qs.map (·.2),kf N (clr t (s - 1)) f=kf N t f:=fun f hf=>A2o _ _ fun x hx=>by rw[Ai4 hlv (K.or hf hx).1]
 have hor: ∀x,Oo N (clr t (s - 1)) x ↔ Oo N t x:=fun x=>by
  unfold Oo;rw[Avy hlv];constructor
  ·rintro⟨a,b,c⟩;rw[Ai4 hlv a]at b;rw[A4i hlv a]at c;exact⟨a,b,c⟩
  ·rintro⟨a,b,c⟩;rw[Ai4 hlv a,A4i hlv a];exact⟨a,b,c⟩
 have hdd: ∀S y,Dd N (clr t (s - 1)) S y->Dd N t S y:=fun S y h=>by
  induction h with
  |base h=>exact .base h
  |step a b c ih=>
   have a:=(Avy hlv).1 a;rw[Ai4 hlv a]at ih;exact .step a ((A4i hlv a).1 b) ih
 refine⟨⟨fun x hx=> ?_,fun x hx=> ?_,fun x h0 h1 h=> ?_⟩,⟨r,fun x hx h=> ?_⟩,⟨d,fun x hx hc=> ?_⟩,⟨?_,fun x=> ?_,fun f hf h1=> ?_⟩,?_,fun x hx h=> ?_,fun x hx h=> ?_,fun e he h1=> ?_⟩
 ·have hl:=(Avy hlv).1 hx
  have X:=T.link x hl;refine⟨fun h=> ?_,fun h=> ?_,fun h=> ?_,fun h=> ?_,fun h hc=> ?_⟩
  ·rw[Ai4 hlv hl]at h ⊢
   have a:=(X.first h).1;rw[Avy hlv,Ai4 hlv a];exact X.first h
  ·rw[Ai4 hlv hl]at h ⊢
   have a:=(X.next h).1;rw[Avy hlv,Ai4 hlv a];exact X.next h
  ·rw[Ai4 hlv hl]at h ⊢
   have a:=(X.prev h).1;rw[Avy hlv,Ai4 hlv a];exact X.prev h
  ·rw[Ai4 hlv hl]at h ⊢;exact X.up h
  ·have hc:=(A4i hlv hl).1 hc;rw[Ai4 hlv hl]at h ⊢;rw[Ai4 hlv hc.1];exact X.top h hc
 ·have hl:=(Avy hlv).1 hx;rw[hri];obtain⟨a,b⟩:=T.rise x hl;refine⟨a,fun y hy hc=>b y hy ?_⟩;unfold Cu at hc ⊢;rw[hup y (Azz _ _ y (List.mem_of_getLast? hy)),Avy hlv]at hc;refine⟨hc.1,?_⟩;rw[←Ai4 hlv hc.1,hc.2]
  by_cases e:y=s - 1
  ·subst e
   have hin:=Azz _ _ _ (List.mem_of_getLast? hy)
   have:=(T.bare _ hin.1 hin.2 hlv).1;rw[this]at hc
   have:=hc.1.1.1;omega
  ·rw[hnl y e]
 ·by_cases e:x=s - 1
  ·subst e;unfold clr;rw[if_pos rfl];exact⟨rfl,rfl,rfl,rfl⟩
  ·rw[hnl x e]at h ⊢;exact T.bare x h0 h1 h
 ·have hl:=(Avy hlv).1 hx;rw[Ai4 hlv hl]at h ⊢;exact W x hl h
 ·have hl:=(Avy hlv).1 hx;rw[Ai4 hlv hl];exact U x hl ((A4i hlv hl).1 hc)
 ·rw[Aua hkf];exact K.nodup
 ·rw[Aua hkf,K.iff,hor]
 ·obtain⟨a,b⟩:=K.top f hf h1;refine⟨a,?_⟩;rw[Ai4 hlv (K.or hf (A43 a)).1];exact b
 ·have hk: ∀e∈qs,kf N (clr t (s - 1)) e.2=kf N t e.2:=fun e he=>hkf _ (D9.2 ⟨e,he,rfl⟩);refine A7k qs [] [] hk (fun e he y hy=>⟨by rw[←hk e he];exact hdd _ _ hy,fun x hx hu hc=> ?_⟩) (fun e he h1 x hx hu=> ?_) (fun x hx=>by cases hx) F'.ord
  ·have hl:=(Avy hlv).1 hx;rw[Ai4 hlv hl]at hu;exact .inr ⟨hl,hu,fun h=>hc ((A4i hlv hl).2 h)⟩
  ·have hl:=(Avy hlv).1 hx;rw[Ai4 hlv hl]at hu;exact .inr ⟨hl,hu⟩
 ·have hl:=(Avy hlv).1 hx;rw[Ai4 hlv hl]at h ⊢;rw[hnl _ (by have:=hno x hl;omega)]
  exact F.gone x hl h
 ·have hl:=(Avy hlv).1 hx;rw[Ai4 hlv hl]at h ⊢
  have h2:=(Avy hlv).1 h;rw[Ai4 hlv h2];exact F.ep x hl h2
 ·rw[hnl _ (by have:=hs e he;omega)]
  exact F'.slot e he h1
end
section
variable {N:Int} {t:Int->Lk}
def ins (t:Int->Lk)(k p x:Int):Lk:=
 if x=k then⟨true,false,0,p+1,if p+1=0 then 0 else(t p).ep,0,if p+1=0 then 0 else(t p).fi,0⟩
 else⟨(t x).lv,(t x).gn,(t x).ep,(t x).up,(t x).ue,if x=p then k+1 else(t x).fi,(t x).nx,if p+1≠0∧x+1=(t p).fi then k+1 else(t x).pv⟩
theorem Awg{k p:Int}:ins t k p k=⟨true,false,0,p+1,if p+1=0 then 0 else(t p).ep,0,if p+1=0 then 0 else(t p).fi,0⟩:=if_pos rfl
theorem Atz{k p x:Int}(h:x≠k):ins t k p x=⟨(t x).lv,(t x).gn,(t x).ep,(t x).up,(t x).ue,if x=p then k+1 else(t x).fi,(t x).nx,if p+1≠0∧x+1=(t p).fi then k+1 else(t x).pv⟩:=if_neg h
theorem Blj: ∀(n:Nat) (x y:Int),y∈rise N t n x->y=x∨ ∃z,z∈rise N t n x∧(t z).up - 1=y:=by
 intro n
 induction n with
 |zero=>intro x y h;cases h
 |succ n ih=>
  intro x y h;rw[rise]at h ⊢;split at h
  ·rename_i h1;rw[if_pos h1];rcases Di.1 h with h|h
   ·exact .inl h
   ·rcases ih _ y h with h|⟨z,h2,h3⟩
    ·exact .inr ⟨x,by simp,h.symm⟩
    ·exact .inr ⟨z,by simp[h2],h3⟩
  ·cases h
theorem Be9{d:Int->Nat}(U: ∀x,Lv N t x->Cu N t x->d ((t x).up - 1)<d x): ∀(n:Nat) (x:Int),Al N t x->(∀y∈rise N t n x,d y≤d x∧Al N t y)∧(rise N t n x).Pairwise (fun a b=>d b<d a):=by
 intro n
 induction n with
 |zero=>intro x _;exact⟨fun y h=>(by cases h),.nil⟩
 |succ n ih=>
  intro x hx;rw[rise,if_pos hx.lv.1];cases hx with
  |root a b=>
   have:rise N t n ((t x).up - 1)=[]:=by rw[b];cases n with|zero=>rfl|succ n=>rw[rise,if_neg (by omega)]
   rw[this];exact⟨fun y h=>by rw[Mx.1 h];exact⟨Z9 _,.root a b⟩,List.pairwise_singleton ..⟩
  |step a b c=>
   obtain⟨i1,i2⟩:=ih _ c
   have h2:=U x a b;refine⟨fun y h=> ?_,List.pairwise_cons.2 ⟨fun y h=> ?_,i2⟩⟩
   ·rcases Di.1 h with rfl|h
    ·exact⟨Z9 _,.step a b c⟩
    ·obtain⟨j1,j2⟩:=i1 y h;exact⟨by omega,j2⟩
   ·have:=(i1 y h).1;omega
theorem Bb6{qs:List (Int×Int)}(F:Ak4 N t qs){k p:Int}(hk:0≤k∧k<N)(hlv:(t k).lv=false)(hgn:(t k).gn=false)(hp:p= -1∨Al N t p∧(rise N t N.toNat p).length<4):Ak4 N (ins t k p) qs:=by
 obtain⟨r,W⟩:=F.wf;obtain⟨d,U⟩:=F.uw
 have T:=F.tree
 have K:=F.kid
 have hne: ∀ {x},Lv N t x->x≠k:=fun {x} h e=>by subst e;rw[h.2]at hlv;cases hlv
 have hno: ∀x,Lv N t x->(t x).up≠k+1:=fun x hx e=>by
  rcases F.gone x hx (by omega)with h|h
  ·rw[e,Int.add_sub_cancel,hlv]at h;cases h
  ·rw[e,Int.add_sub_cancel,hgn]at h;cases h
 have hp0:p+1≠0->Al N t p:=fun h=>by
  rcases hp with rfl|hp
  ·exact absurd rfl h
  ·exact hp.1
 have hp1: ∀x,Lv N t x->x=p->p+1≠0:=fun x hx e=>by have:=hx.1.1;omega
 have L: ∀x,Lv N (ins t k p) x ↔ x=k∨Lv N t x:=fun x=>by
  unfold Lv
  by_cases e:x=k
  ·subst e;rw[Awg];simp[hk]
  ·rw[Atz e];simp[e]
 have hL: ∀ {x},Lv N t x->Lv N (ins t k p) x:=fun h=>(L _).2 (.inr h)
 have hup: ∀x,x≠k->(ins t k p x).up=(t x).up:=fun x h=>by rw[Atz h]
 have C: ∀x,x≠k->(t x).up≠k+1->(Cu N (ins t k p) x ↔ Cu N t x):=fun x h h1=>by
  unfold Cu;rw[L,hup x h,Atz (x:=(t x).up - 1) (by omega),Atz h]
  constructor
  ·rintro⟨a,b⟩;exact⟨a.resolve_left (by omega),b⟩
  ·rintro⟨a,b⟩;exact⟨.inr a,b⟩
 have Ck:p+1≠0->Cu N (ins t k p) k:=fun h=>by
  have:=(hp0 h).lv;unfold Cu;rw[Awg];simp only;rw[Int.add_sub_cancel,if_neg h,Atz (hne this)];exact⟨hL this,rfl⟩
 have Cn:p+1=0-> ¬Cu N (ins t k p) k:=fun h c=>by
  unfold Cu at c;rw[Awg]at c;simp only at c
  have:=c.1.1.1;omega
 have hkf: ∀f∈qs.map (·.2),kf N (ins t k p) f=kf N t f:=fun f hf=>A2o _ _ fun x hx=>by rw[Atz (hne (K.or hf hx).1)]
 have hor: ∀x,Oo N (ins t k p) x ↔ Oo N t x:=fun x=>by
  unfold Oo;rw[L]
  by_cases e:x=k
  ·subst e;constructor
   ·rintro⟨_,b,c⟩;rw[Awg]at b;exact absurd (Ck b) c
   ·rintro⟨a,_⟩;exact absurd rfl (hne a)
  ·rw[hup x e];constructor
   ·rintro⟨a,b,c⟩
    have a:=a.resolve_left e;exact⟨a,b,fun h=>c ((C x e (hno x a)).2 h)⟩
   ·rintro⟨a,b,c⟩;exact⟨.inr a,b,fun h=>c ((C x e (hno x a)).1 h)⟩
 have hrk: ∀x,Lv N t x-> ∀n,k ∉ rise N t n x:=fun x hx n h=>by
  rcases Blj _ _ _ h with h|⟨z,h1,h2⟩
  ·exact hne hx h.symm
  ·by_cases hz:(t z).lv=true
   ·exact hno z ⟨Azz _ _ _ h1,hz⟩ (by omega)
   ·have:=Azz _ _ _ h1
    have:=(T.bare z this.1 this.2 (by simpa using hz)).1
    omega
 have hri: ∀x,Lv N t x-> ∀n,rise N (ins t k p) n x=rise N t n x:=fun x hx n=>A1t n x fun y hy=>hup y fun e=>hrk x hx n (e ▸ hy)
 have hlast: ∀x,Lv N t x-> ∀y,(rise N t N.toNat x).getLast? =some y-> ¬Cu N (ins t k p) y:=fun x hx y hy hc=>by
  have hm:=List.mem_of_getLast? hy
  have hyk:y≠k:=fun e=>hrk x hx _ (e ▸ hm)
  have hin:=Azz _ _ _ hm
  by_cases hz:(t y).lv=true
  ·exact(T.rise x hx).2 y hy ((C y hyk (hno y ⟨hin,hz⟩)).1 hc)
  ·have:=(T.bare y hin.1 hin.2 (by simpa using hz)).1
   unfold Cu at hc;rw[hup y hyk,this]at hc
   have:=hc.1.1.1;omega
 obtain⟨m,hm⟩: ∃m,N.toNat=m+1:=⟨N.toNat - 1,by omega⟩
 have hpk:p+1≠0->rise N (ins t k p) N.toNat k=k::rise N t N.toNat p:=fun h=>by
  have ha:=hp0 h;rw[hm,rise,if_pos hk,Awg];simp only;rw[Int.add_sub_cancel,hri p ha.lv,←hm]
  congr 1
  rw[hm,Bg3,List.take_of_length_le];obtain⟨i1,i2⟩:=Be9 U (m+1) p ha
  have:=A98 (N:=N) (List.nodup_cons.2 ⟨hrk p ha.lv (m+1),i2.imp fun h e=>by rw[e]at h;omega⟩) (fun y hy=>by
   rcases Di.1 hy with rfl|hy
   ·exact hk
   ·exact Azz _ _ y hy)
  simp only[Xf]at this;omega
 refine⟨⟨fun x hx=> ?_,fun x hx=> ?_,fun x h0 h1 h=> ?_⟩,⟨fun x=>if x=k then 0 else r x+1,fun x hx h=> ?_⟩,⟨fun x=>if x=k then d p+1 else d x,fun x hx hc=> ?_⟩,⟨?_,fun x=> ?_,fun f hf h1=> ?_⟩,?_,fun x hx h=> ?_,fun x hx h=> ?_,fun e he h1=> ?_⟩
 ·by_cases e:x=k
  ·subst e;refine⟨fun h=> ?_,fun h=> ?_,fun h=> ?_,fun h=> ?_,fun h hc=> ?_⟩
   ·rw[Awg]at h;exact absurd rfl h
   ·rw[Awg]at h ⊢;simp only at h ⊢
    by_cases hq:p+1=0
    ·rw[if_pos hq]at h;exact absurd rfl h
    ·rw[if_neg hq]at h ⊢;rw[if_neg hq];obtain⟨a,b,c,e⟩:=(T.link p (hp0 hq).lv).first h;rw[Atz (hne a)];simp only;rw[if_pos ⟨hq,by omega⟩]
     exact⟨hL a,rfl,c,e⟩
   ·rw[Awg]at h;exact absurd rfl h
   ·rw[Awg]at h ⊢;simp only at h ⊢;rw[Int.add_sub_cancel];exact(hp0 h).lv.1
   ·by_cases hq:p+1=0
    ·exact absurd hc (Cn hq)
    ·rw[Awg];simp only;rw[Int.add_sub_cancel,Atz (hne (hp0 hq).lv)];simp
  ·have hl:=((L x).1 hx).resolve_left e
   have X:=T.link x hl;refine⟨fun h=> ?_,fun h=> ?_,fun h=> ?_,fun h=> ?_,fun h hc=> ?_⟩
   ·rw[Atz e]at h ⊢;simp only at h ⊢
    by_cases hq:x=p
    ·have hq1:=hp1 x hl hq;rw[if_pos hq,Int.add_sub_cancel,Awg];refine⟨(L k).2 (.inl rfl),rfl,?_,?_⟩
     ·show p+1=x+1;omega
     ·show(if p+1=0 then 0 else(t p).ep)=_;rw[if_neg hq1,hq]
    ·rw[if_neg hq]at h ⊢;obtain⟨a,b,c,f⟩:=X.first h;rw[Atz (hne a)];simp only;rw[if_neg]
     ·exact⟨hL a,b,c,f⟩
     ·rintro⟨g1,g2⟩
      have:=((T.link p (hp0 g1).lv).first (by have:=hl.1;omega)).2.2.1
      rw[←g2,Int.add_sub_cancel]at this;omega
   ·rw[Atz e]at h ⊢;simp only at h ⊢;obtain⟨a,b,c,f⟩:=X.next h;rw[Atz (hne a)];simp only;rw[if_neg]
    ·exact⟨hL a,b,c,f⟩
    ·rintro⟨g1,g2⟩
     have:=((T.link p (hp0 g1).lv).first (by have:=hl.1;omega)).2.1
     rw[←g2,Int.add_sub_cancel]at this
     have:=hl.1;omega
   ·rw[Atz e]at h ⊢;simp only at h ⊢
    by_cases hq:p+1≠0∧x+1=(t p).fi
    ·rw[if_pos hq,Int.add_sub_cancel,Awg];simp only;rw[if_neg hq.1];exact⟨(L k).2 (.inl rfl),hq.2.symm⟩
    ·rw[if_neg hq]at h ⊢;obtain⟨a,b⟩:=X.prev h;rw[Atz (hne a)];exact⟨hL a,b⟩
   ·rw[Atz e]at h ⊢;exact X.up h
   ·have hc:=(C x e (hno x hl)).1 hc;rw[Atz e]at h ⊢;simp only at h ⊢
    by_cases hq:p+1≠0∧x+1=(t p).fi
    ·rw[if_pos hq]at h;omega
    ·rw[if_neg hq]at h
     have:=X.top h hc;rw[Atz (hne hc.1)];simp only;rw[if_neg]
     ·exact this
     ·intro g;rw[g]at this;exact hq ⟨hp1 _ hc.1 g,by omega⟩
 ·by_cases e:x=k
  ·subst e
   by_cases hq:p+1=0
   ·have:rise N (ins t x p) N.toNat x=[x]:=by
     rw[hm,rise,if_pos hk,Awg];simp only;rw[hq];cases m with
     |zero=>rfl
     |succ m=>rw[rise,if_neg (by omega)]
    rw[this];refine⟨by simp,fun y hy=> ?_⟩
    rw[←Gi (show some x=some y from hy)]
    exact Cn hq
   ·rw[hpk hq];rcases hp with rfl|hp
    ·exact absurd rfl hq
    ·refine⟨by simp only[Xf];omega,fun y hy=> ?_⟩
     have:rise N t N.toNat p≠[]:=by rw[hm,rise,if_pos hp.1.lv.1];simp
     rw[List.getLast?_cons]at hy;refine hlast p hp.1.lv y ?_;rw[←hy];cases ha:rise N t N.toNat p with
     |nil=>exact absurd ha this
     |cons a l=>rw[List.getLast?_cons];simp
  ·have hl:=((L x).1 hx).resolve_left e;rw[hri x hl];exact⟨(T.rise x hl).1,hlast x hl⟩
 ·by_cases e:x=k
  ·subst e;rw[Awg]at h;cases h
  ·rw[Atz e]at h ⊢;simp only at h ⊢;obtain⟨a,b,c,f⟩:=T.bare x h0 h1 h;refine⟨a,?_,c,?_⟩
   ·rw[if_neg]
    ·exact b
    ·intro g
     have:=(hp0 (by omega)).lv.2
     rw[←g,h]at this;cases this
   ·rw[if_neg]
    ·exact f
    ·rintro⟨g1,g2⟩
     have:=((T.link p (hp0 g1).lv).first (by omega)).1.2
     rw[←g2,Int.add_sub_cancel,h]at this;cases this
 ·by_cases e:x=k
  ·subst e;rw[Awg]at h;exact absurd rfl h
  ·have hl:=((L x).1 hx).resolve_left e;rw[Atz e]at h ⊢;simp only at h ⊢;simp only[if_neg e]
   by_cases hq:p+1≠0∧x+1=(t p).fi
   ·simp only[if_pos hq,Int.add_sub_cancel,↓reduceIte];omega
   ·rw[if_neg hq]at h ⊢;rw[if_neg (hne ((T.link x hl).prev h).1)]
    have:=W x hl h;omega
 ·by_cases e:x=k
  ·subst e
   by_cases hq:p+1=0
   ·exact absurd hc (Cn hq)
   ·simp only[Awg,Int.add_sub_cancel,if_neg (hne (hp0 hq).lv),↓reduceIte];omega
  ·have hl:=((L x).1 hx).resolve_left e
   have hc:=(C x e (hno x hl)).1 hc;rw[hup x e];simp only[if_neg e,if_neg (hne hc.1)];exact U x hl hc
 ·rw[Aua hkf];exact K.nodup
 ·rw[Aua hkf,K.iff,hor]
 ·obtain⟨a,b⟩:=K.top f hf h1
  have ho:=K.or hf (A43 (N:=N) (t:=t) a);refine⟨a,?_⟩;rw[Atz (hne ho.1)];simp only;rw[if_neg]
  ·exact b
  ·rintro⟨g1,g2⟩
   have hpl:=(hp0 g1).lv;obtain⟨_,_,c3,c4⟩:=(T.link p hpl).first (by omega)
   rw[←g2,Int.add_sub_cancel]at c3 c4;exact ho.2.2 (by unfold Cu;rw[c3,c4,Int.add_sub_cancel];exact⟨hpl,rfl⟩)
 ·have hk2: ∀e∈qs,kf N (ins t k p) e.2=kf N t e.2:=fun e he=>hkf _ (D9.2 ⟨e,he,rfl⟩);refine A7k qs [] [] hk2 (fun e he y hy=> ?_) (fun e he h1 x hx hu=> ?_) (fun x hx=>by cases hx) F.ord
  ·have hS: ∀x∈kf N t e.2,Oo N t x:=fun x hx=>K.or (D9.2 ⟨e,he,rfl⟩) hx;rw[hk2 e he]at hy
   have hy2:Dd N t (kf N t e.2) y:=by
    induction hy with
    |base h=>exact .base h
    | @step y a b c ih=>
     by_cases q:y=k
     ·subst q
      by_cases hq:p+1=0
      ·exact absurd b (Cn hq)
      ·rw[Awg]at ih;simp only at ih;rw[Int.add_sub_cancel]at ih;exact absurd ih ((hp0 hq).noDd hS)
     ·have hl:=((L y).1 a).resolve_left q;rw[hup y q]at ih;exact .step hl ((C y q (hno y hl)).1 b) ih
   refine⟨hy2,fun x hx hu hc=> .inr ?_⟩
   by_cases q:x=k
   ·subst q
    by_cases hq:p+1=0
    ·rw[Awg]at hu;simp only at hu
     have:=Dd.in (fun x hx=>Be7 hx) hy2;omega
    ·exact absurd (Ck hq) hc
   ·have hl:=((L x).1 hx).resolve_left q;rw[hup x q]at hu;exact⟨hl,hu,fun h=>hc ((C x q (hno x hl)).2 h)⟩
  ·by_cases q:x=k
   ·subst q;rw[Awg]at hu;simp only at hu
    have:=(hp0 (by omega)).lv.2
    have h3:=(F.slot e he h1).1;rw[←hu,Int.add_sub_cancel,this]at h3;cases h3
   ·have hl:=((L x).1 hx).resolve_left q;rw[hup x q]at hu;exact .inr ⟨hl,hu⟩
 ·by_cases e:x=k
  ·subst e;rw[Awg]at h ⊢;simp only at h ⊢;rw[Int.add_sub_cancel,Atz (hne (hp0 h).lv)];exact .inl (hp0 h).lv.2
  ·have hl:=((L x).1 hx).resolve_left e;rw[hup x e]at h ⊢;rw[Atz (by have:=hno x hl;omega)]
   exact F.gone x hl h
 ·by_cases e:x=k
  ·subst e;rw[Awg]at h ⊢;simp only at h ⊢
   by_cases hq:p+1=0
   ·have:=h.1.1;omega
   ·rw[if_neg hq,Int.add_sub_cancel,Atz (hne (hp0 hq).lv)];exact Int.le_refl _
  ·have hl:=((L x).1 hx).resolve_left e;rw[hup x e]at h ⊢
   have hu:=hno x hl
   have h2:=((L _).1 h).resolve_left (by omega)
   rw[Atz e,Atz (hne h2)];exact F.ep x hl h2
 ·have:=F.slot e he h1
  have q:e.1 - 1≠k:=fun q=>by rw[q]at this;rw[this.2]at hgn;cases hgn
  rw[Atz q];exact this
end
theorem sb1{x:Int}(h0: -1000000000≤x)(h1:x≤1000000000):An8 .i64 x 1=x - 1:=by unfold An8;rw[Ht (by omega) (by omega)]
theorem ad1{x:Int}(h0: -1000000000≤x)(h1:x≤1000000000):An7 .i64 x 1=x+1:=by unfold An7;rw[Ht (by omega) (by omega)]
def A3i (n:Au):Lk:=⟨n.Vt==1,n.Vt==2,n.S5,n.fUp,n.S6,n.Eg,n.S7,n.S8⟩
def AtT (l:List Au)(t:Int->Lk):Prop:= ∀k,0≤k∧k<(l.length:Int)->t k=A3i (gt l k)
structure Rg (l:List Au):Prop where
 len:l.length≤8
 rg: ∀k,0≤k∧k<(l.length:Int)->(0≤(gt l k).fUp∧(gt l k).fUp≤l.length)∧(0≤(gt l k).Eg∧(gt l k).Eg≤l.length)∧(0≤(gt l k).S7∧(gt l k).S7≤l.length)∧(0≤(gt l k).S8∧(gt l k).S8≤l.length)
theorem Awh{l:List Au}{t:Int->Lk}(A:AtT l t){k:Int}:Lv l.length t k ↔ (0≤k∧k<(l.length:Int))∧(gt l k).Vt=1:=by
 unfold Lv;constructor
 ·rintro⟨a,b⟩;rw[A _ a]at b;exact⟨a,by simpa[A3i]using b⟩
 ·rintro⟨a,b⟩;rw[A _ a];exact⟨a,by simpa[A3i]using b⟩
theorem Bll{l:List Au}{t:Int->Lk}(A:AtT l t)(R:Rg l): ∀(n:Nat) (k:Int),Ay5 l n k=kids l.length t n k:=by
 intro n
 induction n with
 |zero=>intro k;rfl
 |succ n ih=>
  intro k;rw[Ay5,kids];split
  ·rename_i h
   have:=(R.rg k h).2.2.1
   have:=R.len;rw[A _ h,sb1 (by omega) (by omega),ih];rfl
  ·rfl
theorem A44{l:List Au}{t:Int->Lk}(A:AtT l t)(R:Rg l): ∀(n:Nat) (k:Int),Ai1 l n k=rise l.length t n k:=by
 intro n
 induction n with
 |zero=>intro k;rfl
 |succ n ih=>
  intro k;rw[Ai1,rise];split
  ·rename_i h
   have:=(R.rg k h).1
   have:=R.len;rw[A _ h,sb1 (by omega) (by omega),ih];rfl
  ·rfl
theorem Bag{l:List Au}{t:Int->Lk}(A:AtT l t)(R:Rg l){f:Int}(h0:0≤f)(h1:f≤1000):Alc l f=kf l.length t f:=by
 unfold Alc kf;rw[sb1 (by omega) (by omega),Bll A R,Int.toNat_natCast]
theorem A45{l:List Au}{n:Int}(h0:0≤n)(h1:n≤1000):plB l n=true ↔ 0≤n - 1∧n - 1<(l.length:Int):=by
 unfold plB;rw[sb1 (by omega) (by omega),decide_eq_true_iff]
theorem A46{l:List Au}{t:Int->Lk}(A:AtT l t)(R:Rg l){k:Int}(h:0≤k∧k<(l.length:Int)):A09 l k=true ↔ Cu l.length t k:=by
 have h1:=(R.rg k h).1
 have h2:=R.len;unfold A09 Cu;rw[Z4,Z4,A45 h1.1 (by omega),beq_iff_eq,beq_iff_eq,sb1 (by omega) (by omega),A _ h]
 show _ ↔ Lv _ _ ((gt l k).fUp - 1)∧(t ((gt l k).fUp - 1)).ep=(gt l k).S6;rw[Awh A];constructor
 ·rintro⟨a,b,c⟩;rw[A _ a];exact⟨⟨a,b⟩,c⟩
 ·rintro⟨⟨a,b⟩,c⟩;rw[A _ a]at c;exact⟨a,b,c⟩
theorem Bb8{l:List Au}{t:Int->Lk}(A:AtT l t)(R:Rg l){k:Int}(h:0≤k∧k<(l.length:Int)):Axx l k=true ↔ Oo l.length t k:=by
 unfold Axx Oo;rw[Z4,Z4,beq_iff_eq,bne_iff_ne,Zu,Awh A,←A46 A R h,A _ h,Bool.not_eq_true];exact⟨fun⟨a,b,c⟩=>⟨⟨h,a⟩,b,c⟩,fun⟨⟨_,a⟩,b,c⟩=>⟨a,b,c⟩⟩
theorem A7p{l:List Au}{t:Int->Lk}(A:AtT l t){n:Int}(h0:0≤n)(h1:n≤1000):Ash l n=true ↔ (n≠0->Lv l.length t (n - 1)):=by
 unfold Ash;rw[Bool.or_eq_true,beq_iff_eq,Z4,A45 h0 h1,beq_iff_eq,Awh A,sb1 (by omega) (by omega)]
 constructor
 ·rintro(h|h) h2
  ·exact absurd h h2
  ·exact h
 ·intro h
  by_cases e:n=0
  ·exact .inl e
  ·exact .inr (h e)
theorem Bdw{a:Int}{b:Bool}{P:Prop}(h:b=true ↔ P):(a==0||b)=true ↔ (a≠0->P):=by
 rw[Bool.or_eq_true,beq_iff_eq,h];constructor
 ·rintro(h|h) h2
  ·exact absurd h h2
  ·exact h
 ·intro h
  by_cases e:a=0
  ·exact .inl e
  ·exact .inr (h e)
theorem A85{l:List Au}{t:Int->Lk}(A:AtT l t)(R:Rg l){k:Int}(h:0≤k∧k<(l.length:Int)):A1b l k=true ↔ Bk8 l.length t k:=by
 obtain⟨r1,r2,r3,r4⟩:=R.rg k h
 have h2:=R.len
 have eg: ∀n,Lv l.length t n->t n=A3i (gt l n):=fun n hn=>A _ hn.1
 have ek:=A _ h;unfold A1b A3x Bgu Bbr A8l A6j;rw[ad1 (by omega) (by omega),sb1 (x:=(gt l k).Eg) (by omega) (by omega),sb1 (x:=(gt l k).S7) (by omega) (by omega),sb1 (x:=(gt l k).S8) (by omega) (by omega),sb1 (x:=(gt l k).fUp) (by omega) (by omega)]
 simp only[Z4,A7p A r2.1 (by omega:(gt l k).Eg≤1000),A7p A r3.1 (by omega:(gt l k).S7≤1000),A7p A r4.1 (by omega:(gt l k).S8≤1000),Bdw (A45 r1.1 (by omega:(gt l k).fUp≤1000)),Bdw Bool.and_eq_true_iff,Bdw beq_iff_eq,beq_iff_eq]
 constructor
 ·rintro⟨⟨a1,a2,a3,a4⟩,a5,a6,a7,a8⟩;refine⟨?_,?_,?_,?_,?_⟩
  ·rw[ek];intro q;have:=a1 q;rw[show(A3i (gt l k)).fi=(gt l k).Eg from rfl,eg _ this];exact⟨this,a5 q⟩
  ·rw[ek];intro q;have:=a2 q;rw[show(A3i (gt l k)).nx=(gt l k).S7 from rfl,eg _ this];exact⟨this,a6 q⟩
  ·rw[ek];intro q;have:=a3 q;rw[show(A3i (gt l k)).pv=(gt l k).S8 from rfl,eg _ this];exact⟨this,a7 q⟩
  ·rw[ek];exact a4
  ·rw[ek];intro q c
   have hc:=(A46 A R h).2 c
   have hu:=c.1;rw[ek]at hu
   have hu:Lv l.length t ((gt l k).fUp - 1):=hu;rw[show(A3i (gt l k)).up=(gt l k).fUp from rfl,eg _ hu]
   rw[show(A3i (gt l k)).pv=(gt l k).S8 from rfl]at q
   rw[q,hc]at a8
   show(gt l ((gt l k).fUp - 1)).Eg=k+1;simpa using a8
 ·intro L;obtain⟨a1,a2,a3,a4,a5⟩:=L;rw[ek]at a1 a2 a3 a4 a5;refine⟨⟨fun q=>(a1 q).1,fun q=>(a2 q).1,fun q=>(a3 q).1,a4⟩,fun q=> ?_,fun q=> ?_,fun q=> ?_,?_⟩
  ·obtain⟨b1,b2,b3,b4⟩:=a1 q;rw[eg _ b1]at b2 b3 b4;exact⟨b2,b3,b4⟩
  ·obtain⟨b1,b2,b3,b4⟩:=a2 q;rw[eg _ b1]at b2 b3 b4;exact⟨b2,b3,b4⟩
  ·obtain⟨b1,b2⟩:=a3 q;rw[eg _ b1]at b2;exact b2
  ·by_cases q:(gt l k).S8=0
   ·cases hc:A09 l k with
    |false=>simp
    |true=>
     have c:=(A46 A R h).1 hc
     have hu:=c.1;rw[ek]at hu
     have:=a5 q c;rw[eg _ hu]at this;simp only[Bool.or_eq_true,beq_iff_eq];exact .inr this
   ·rw[Ah0 q];rfl
theorem Blm{r:List Int}(h:r≠[]):r.getLast? =some (A51 r):=by
 unfold A51;rw[P2 (by have:=List.length_pos_iff.2 h;omega),List.getLast?_eq_getElem?]
 exact Eh _
theorem Bln{l:List Au}{t:Int->Lk}(A:AtT l t)(R:Rg l)(hb: ∀k,0≤k∧k<(l.length:Int)->(gt l k).Vt≠1->(gt l k).fUp=0∧(gt l k).Eg=0∧(gt l k).S7=0∧(gt l k).S8=0):A52 l=true ↔ Avx l.length t:=by
 have key: ∀k,0≤k∧k<(l.length:Int)->(A16 l k=true ↔ (rise l.length t (l.length:Int).toNat k).length≤4∧ ∀x,(rise l.length t (l.length:Int).toNat k).getLast? =some x-> ¬Cu l.length t x):=by
  intro k h;unfold A16
  have hne:Ai1 l l.length k≠[]:=fun e=>by have:=A69 h;rw[e]at this;exact absurd this (Nat.lt_irrefl _)
  have hin:=A9x h;rw[Int.toNat_natCast,←A44 A R,Z4,decide_eq_true_iff,Zu,Blm hne];constructor
  ·rintro⟨a,b⟩;refine⟨by omega,fun x hx hc=> ?_⟩
   rw[←Gi hx,←A46 A R hin,b]at hc;cases hc
  ·rintro⟨a,b⟩;refine⟨by omega,?_⟩
   have:=b _ rfl;rw[←A46 A R hin]at this;simpa using this
 unfold A52;rw[Z1];constructor
 ·intro h
  have h2: ∀k,Lv l.length t k->A1b l k=true∧A16 l k=true:=by
   intro k hk;obtain⟨a,b⟩:=(Awh A).1 hk
   have:=h k.toNat (by simp;omega)
   rw[show((k.toNat:Nat):Int)=k by omega,b]at this
   simpa using this
  exact⟨fun k hk=>(A85 A R hk.1).1 (h2 k hk).1,fun k hk=>(key k hk.1).1 (h2 k hk).2,fun k h0 h1 hl=>by
   rw[A _ ⟨h0,h1⟩]at hl ⊢;exact hb k ⟨h0,h1⟩ (by simpa[A3i]using hl)⟩
 ·intro T k hk;rw[List.mem_range]at hk
  by_cases e:(gt l (k:Int)).Vt=1
  ·have hl:=(Awh A).2 ⟨⟨by omega,by omega⟩,e⟩
   rw[(A85 A R hl.1).2 (T.link _ hl),(key _ hl.1).2 (T.rise _ hl)];simp
  ·simp[e]
def Aqt (st gen:Int):Au:=Au.mk st gen 0 0 0 0 0 0 [] 0 0 [] []
structure Aus (c:Eb)(n:Au):Prop where
 conf:Ai0 c=true
 st:n.Vt=1
 gen:1≤n.Dc∧n.Dc≤c.Hj
 up:0≤n.fUp∧n.fUp≤c.Fb
 first:0≤n.Eg∧n.Eg≤c.Fb
 next:0≤n.S7∧n.S7≤c.Fb
 prev:0≤n.S8∧n.S8≤c.Fb
 ep:0≤n.S5
 ue:0≤n.S6
 dist:At2 c n.Az=true
 cur:A4q c n=true
 nth:n.Ga.length≤12
 ntag:n.Fo.length≤6
 tags:n.Fo.all (fun x=>inB x 0 255)=true
 things:n.Ga.all (Ap4 c)=true
theorem Aje{c:Eb}{n:Au}:Aq2 c n=true∧n.Vt=1 ↔ Aus c n:=by
 unfold Aq2 A63;constructor
 ·rintro⟨h,h1⟩;rw[h1]at h;simp only[Z4,Ael,bne_self_eq_false,cond_false,Zu,decide_eq_false_iff_not,decide_eq_true_eq]at h;obtain⟨a,_,b,⟨c1,c2,c3,c4⟩,⟨d1,d2⟩,⟨e1,e2⟩,⟨f1,f2⟩,g1,g2⟩:=h;exact⟨a,h1,b,c1,c2,c3,c4,by omega,by omega,e1,e2,by omega,by omega,g1,g2⟩
 ·intro h;refine⟨?_,h.st⟩;rw[h.st];simp only[Z4,Ael,bne_self_eq_false,cond_false,Zu,decide_eq_false_iff_not,decide_eq_true_eq];exact⟨h.conf,by omega,h.gen,⟨h.up,h.first,h.next,h.prev⟩,⟨by have:=h.ep;omega,by have:=h.ue;omega⟩,⟨h.dist,h.cur⟩,⟨by have:=h.nth;omega,by have:=h.ntag;omega⟩,h.tags,h.things⟩
theorem Ayz{c:Eb}{n:Au}(h:Aq2 c n=true)(h1:n.Vt≠1):n=Aqt n.Vt n.Dc:=by
 have:=A8y h h1;unfold A4p at this;simp only[Z4,beq_iff_eq]at this;obtain⟨a1,a2,a3,a4,a5,a6,a7,a8,a9,a10,a11⟩:=this;cases n;simp only at a1 a2 a3 a4 a5 a6 a7 a8 a9 a10 a11;unfold Aqt;simp only[a1,a2,a3,a4,a5,a6,a8,a9,K9.1 (Int.ofNat_eq_zero.1 a7),K9.1 (Int.ofNat_eq_zero.1 a10),K9.1 (Int.ofNat_eq_zero.1 a11)]
theorem A31{c:Eb}(hc:Ai0 c=true){st gen:Int}(h0:0≤st∧st≤3)(h1:st≠1)(h2:1≤gen∧gen≤c.Hj):Aq2 c (Aqt st gen)=true:=by
 unfold Aq2;rw[hc]
 show(true&&(inB st 0 3&&(inB gen 1 c.Hj&&(bif st != 1 then A4p (Aqt st gen)else _))))=true
 rw[Arb h1,Ael.2 h0,Ael.2 h2];rfl
theorem A1e{c:Eb}{n:Au}(h:Aq2 c n=true):Ai0 c=true∧(0≤n.Vt∧n.Vt≤3)∧1≤n.Dc∧n.Dc≤c.Hj:=by
 unfold Aq2 at h;simp only[Z4,Ael]at h;exact⟨h.1,h.2.1,h.2.2.1⟩
theorem A4j{c:Eb}{n:Au}(h:Aq2 c n=true):(0≤n.fUp∧n.fUp≤c.Fb)∧(0≤n.Eg∧n.Eg≤c.Fb)∧(0≤n.S7∧n.S7≤c.Fb)∧(0≤n.S8∧n.S8≤c.Fb):=by
 by_cases e:n.Vt=1
 ·have:=Aje.1 ⟨h,e⟩;exact⟨this.up,this.first,this.next,this.prev⟩
 ·rw[Ayz h e];obtain⟨_,_,b,_⟩:=Gx (A1e h).1;exact⟨⟨Int.le_refl _,by simp[Aqt];omega⟩,⟨Int.le_refl _,by simp[Aqt];omega⟩,⟨Int.le_refl _,by simp[Aqt];omega⟩,⟨Int.le_refl _,by simp[Aqt];omega⟩⟩
theorem A6a{c:Eb}{n:Au}(h:Aq2 c n=true):At2 c n.Az=true:=by
 by_cases e:n.Vt=1
 ·exact(Aje.1 ⟨h,e⟩).dist
 ·rw[Ayz h e];rfl
def Awv (q:List A1):List (Int×Int):=q.map (fun x=>(x.Bk,x.Eg))
structure Inv (w:C8):Prop where
 pool:Ava w.fC w.fP=true
 len:(w.fL.length:Int)=w.fC.Fb
 node: ∀k,0≤k∧k<(w.fL.length:Int)->Aq2 w.fC (gt w.fL k)=true
 own: ∀k,0≤k∧k<(w.fL.length:Int)-> ∀c,c∈(gt w.fL k).Az ↔ (0≤c∧c<w.fC.Az)∧gt w.fP.Vt c=1∧gt w.fP.Pn c=k
 thing: ∀k,0≤k∧k<(w.fL.length:Int)->(gt w.fL k).Ga.all (Arw w.fC (gt w.fL k).Az)=true∧Apd (gt w.fL k).Ga=true∧Aru w.fC w.fP.Pm (gt w.fL k)=true
 forest: ∃t,AtT w.fL t∧Ak4 w.fL.length t (Awv w.fQ)
 wrec: ∀x∈w.fQ,Ana w.fC x=true∧Ape w x=true
 chn:(chL w.fQ).Nodup
 chi: ∀c,c∈chL w.fQ ↔ (0≤c∧c<w.fC.Az)∧gt w.fP.Vt c=2
 sln:(slL w.fQ).Nodup
 sli: ∀s,s∈slL w.fQ ↔ (0≤s∧s<(w.fL.length:Int))∧(gt w.fL s).Vt=2
 log:w.Adf.all (fun x=>inB x 0 255)=true
theorem Inv.conf{w:C8}(I:Inv w):Ai0 w.fC=true:=(Atu I.pool).1
theorem Inv.rg{w:C8}(I:Inv w):Rg w.fL:=by
 obtain⟨_,_,b,_⟩:=Gx I.conf
 have:=I.len;refine⟨by omega,fun k hk=> ?_⟩
 rw[I.len];exact A4j (I.node k hk)
theorem Inv.live{w:C8}(I:Inv w){t:Int->Lk}(A:AtT w.fL t){k:Int}(h:Lv w.fL.length t k):Aus w.fC (gt w.fL k):=Aje.1 ⟨I.node k ((Awh A).1 h).1,((Awh A).1 h).2⟩
theorem Bah{N:Nat}{l:List Int}(hn:l.Nodup){k:Nat}(hk:k<N)(h:(k:Int)∈l):(gt (Alh N l) (k:Int)==1)=true:=by
 rw[A1r (by omega) (by omega),hn.count,if_pos h];rfl
theorem Inv.chunks{w:C8}(I:Inv w){k:Int}(hk:0≤k∧k<(w.fL.length:Int)):A1q w.fP k (gt w.fL k).Az=true:=by
 obtain⟨_,_,hst,hown,_⟩:=Atu I.pool
 have hd:=Aza (A6a (I.node k hk))
 have hs:=(A1y w.fP k).imp (fun {a b} (h:a<b)=>Int.ne_of_lt h)
 have hm: ∀x,x∈Atv w.fP k ↔ x∈(gt w.fL k).Az:=by
  intro x;rw[I.own k hk x];unfold Atv;rw[Awu];simp only[Z4,beq_iff_eq];constructor
  ·rintro⟨⟨a,b⟩,c⟩;rw[show((x.toNat:Nat):Int)=x by omega]at c
   exact⟨⟨a,by omega⟩,c⟩
  ·rintro⟨⟨a,b⟩,c⟩;refine⟨⟨a,by omega⟩,?_⟩
   rw[show((x.toNat:Nat):Int)=x by omega]
   exact c
 unfold A1q;rw[Z4,Z1,beq_iff_eq];refine⟨fun x hx=>List.contains_iff_mem.2 ((hm x).1 hx),?_⟩
 have h1:=Azb (o:=Atv w.fP k) (l:=(gt w.fL k).Az) hs (fun x hx=>(hm x).1 hx)
 have h2:=Azb (o:=(gt w.fL k).Az) (l:=Atv w.fP k) hd (fun x hx=>(hm x).2 hx);omega
theorem Bai{q:List A1}{x:A1}(hx:x∈q){c:Int}(h:c∈x.Az):c∈chL q:=List.mem_flatMap.2 ⟨x,hx,h⟩
theorem Bfa{q:List A1}{x:A1}(hx:x∈q)(h:x.Bk≠0):An8 .i64 x.Bk 1∈slL q:=List.mem_flatMap.2 ⟨x,hx,by rw[if_neg h];simp⟩
theorem Inv.first{w:C8}(I:Inv w){x:A1}(hx:x∈w.fQ):0≤x.Eg∧x.Eg≤8:=by
 obtain⟨_,_,b,_⟩:=Gx I.conf
 have:=(Aq6 (I.wrec x hx).1).2.2.1;omega
theorem Inv.qs{w:C8}{x:A1}(hx:x∈w.fQ):x.Eg∈(Awv w.fQ).map (fun e:Int×Int=>e.2):=by
 unfold Awv;rw[Cq,D9];exact⟨x,hx,rfl⟩
theorem Inv.waste{w:C8}(I:Inv w){x:A1}(hx:x∈w.fQ):Anm w x=true:=by
 obtain⟨b1,_,b,_⟩:=Gx I.conf;obtain⟨h1,h2⟩:=I.wrec x hx;obtain⟨_,r1,r2,r3,_⟩:=Aq6 h1
 have hf:=I.first hx;obtain⟨t,A,F⟩:=I.forest;unfold Anm;simp only[Z4];refine⟨h1,?_,h2,?_,?_,?_⟩
 ·unfold A2j;rw[Z1];intro c hc;rw[beq_iff_eq];exact((I.chi c).1 (Bai hx hc)).2
 ·unfold Awt
  by_cases e:x.Bk=0
  ·rw[e];rfl
  ·rw[((I.sli _).1 (Bfa hx e)).2];simp
 ·unfold Ayv
  by_cases e:x.Eg=0
  ·rw[e];rfl
  ·obtain⟨a,b⟩:=F.kid.top _ (Inv.qs hx) e;rw[sb1 (by omega) (by omega)]
   rw[A _ a]at b
   have b:(gt w.fL (x.Eg - 1)).S8=0:=b;rw[b];simp
 ·unfold Asq;rw[Z1];intro k hk
  have hin:=A4t _ _ k hk;rw[Bag A I.rg hf.1 (by omega)]at hk
  exact(Bb8 A I.rg hin).2 (F.kid.or (Inv.qs hx) hk)
theorem Bfb{w:C8}(I:Inv w){t:Int->Lk}(A:AtT w.fL t):kdL w.fL w.fQ=((Awv w.fQ).map (fun e:Int×Int=>e.2)).flatMap (kf w.fL.length t):=by
 unfold kdL Awv;rw[Cq,List.flatMap_map];exact Aua fun x hx=>by
  have hf:=I.first hx;exact Bag A I.rg hf.1 (by omega)
theorem Inv.fin{w:C8}(I:Inv w):Axp w w.fC.Az.toNat=true:=by
 obtain⟨_,_,hst,hown,_⟩:=Atu I.pool;obtain⟨t,A,F⟩:=I.forest;unfold Axp;rw[Z4,Z1,Z1];refine⟨fun k hk=> ?_,fun k hk=> ?_⟩
 ·rw[List.mem_range]at hk;cases e:(gt w.fP.Vt (k:Int)==2)with
  |false=>rfl
  |true=>exact Bah I.chn (by omega) ((I.chi _).2 ⟨⟨by omega,by omega⟩,by simpa using e⟩)
 ·rw[List.mem_range]at hk;rw[Z4];constructor
  ·cases e:((gt w.fL (k:Int)).Vt==2)with
   |false=>rfl
   |true=>exact Bah I.sln hk ((I.sli _).2 ⟨⟨by omega,by omega⟩,by simpa using e⟩)
  ·cases e:Axx w.fL (k:Int)with
   |false=>rfl
   |true=>
    refine Bah (by rw[Bfb I A];exact F.kid.nodup) hk ?_
    rw[Bfb I A,F.kid.iff];exact(Bb8 A I.rg ⟨by omega,by omega⟩).1 e
theorem Inv.ok{w:C8}(I:Inv w):A5n w=true:=by
 obtain⟨t,A,F⟩:=I.forest;unfold A5n;simp only[Z4,beq_iff_eq];refine⟨I.pool,I.len,?_,?_,⟨?_,I.fin⟩,I.log⟩
 ·rw[Z1];intro k hk;rw[List.mem_range]at hk
  have hk2:0≤(k:Int)∧(k:Int)<(w.fL.length:Int):=⟨by omega,by omega⟩
  obtain⟨t1,t2,t3⟩:=I.thing k hk2;unfold A50;rw[I.node k hk2,I.chunks hk2,t1,t2,t3];rfl
 ·refine(Bln A I.rg fun k hk h=> ?_).2 F.tree;rw[Ayz (I.node k hk) h];exact⟨rfl,rfl,rfl,rfl⟩
 ·rw[Z1];exact fun x hx=>I.waste hx
end Go.Proofs.YtcdojenmonmcfaaGreat
