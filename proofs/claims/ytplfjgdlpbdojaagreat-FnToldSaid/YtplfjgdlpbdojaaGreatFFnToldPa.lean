/- The plain law for FnTold; no condition. -/
import Derived.Test.YtplfjgdlpbdojaaGreatFFnToldTa
import Derived.Test.YtplfjgdlpbdojaaGreatFFnToldW
set_option linter.all false
namespace Go.Proofs.YtplfjgdlpbdojaaGreat
open Go.Eng Go.ChangeShapes Go.WideShapes Go.ChangeAt Go.RowKit
theorem Agd{i:Nat}(h:i≤140737488355328):Am9 .i64 (i:Int) 1=((i+1:Nat):Int):=by
 unfold Am9;rw[IntKind.wrap_i64];omega
theorem Acm{α:Type}[Inhabited α]{l:List α}{i:Nat}(h:i<l.length):gt l (i:Int)=l[i]:=by
 unfold gt;simp[h]
theorem Ao9{α:Type}[Inhabited α]{l:List α}{i:Nat}(h:i<l.length):gt l (i:Int)∈l:=by
 rw[Acm h];exact List.getElem_mem h
theorem Ank{α:Type}[Inhabited α]{l:List α}{i:Int}(h0:0≤i)(h:i<l.length):gt l i∈l:=by
 obtain⟨k,rfl⟩: ∃k:Nat,i=k:=⟨i.toNat,by omega⟩
 exact Ao9 (by omega)
theorem Agh{i k:Nat}(h:i<k):decide ((i:Int)<(k:Int))=true:=by simp;omega
theorem Agl{i k:Nat}(h:k≤i):decide ((i:Int)<(k:Int))=false:=by simp;omega
theorem Bst (a:List Int)(ha:a.length≤140737488355328)
  (L:Nat->Int->Option Bool) (hL: ∀n i,L (n+1) i=bif decide (i<(a.length:Int))then(if(0:Int)≤i∧i<(a.length:Int)then(if(0:Int)≤i∧i<(a.length:Int)then(bif (gt a i != gt a i)then some false else L n (Am9 .i64 i 1))else none)else none)else some true):
  ∀(n i:Nat),i≤a.length->a.length - i<n->L n (i:Int)=some true:=by
 intro n
 induction n with
 |zero=>intro i _ h;omega
 |succ n ih=>
  intro i hi hn;rw[hL];rcases Ez i a.length with h|h
  ·rw[Agh h];simp only[cond_true];rw[if_pos ⟨by omega,by omega⟩,if_pos ⟨by omega,by omega⟩,Agd (by omega)]
   simp only[bne_self_eq_false,cond_false];exact ih (i+1) h (by omega)
  ·rw[Agl h];rfl
theorem Aa3{n:Int}(h0: -9223372036854775808≤n)(h1:n≤9223372036854775807):IntKind.i64.wrap n=n:=by rw[IntKind.wrap_i64];omega
theorem Bjq (n:Int): -9223372036854775808≤IntKind.i64.wrap n∧IntKind.i64.wrap n≤9223372036854775807:=by rw[IntKind.wrap_i64];omega
theorem cc{α:Type}(b:Bool)(x:α):(bif b then x else x)=x:=by cases b<;>rfl
theorem Aqd{a b:Int}(h: ¬a=b):(a != b)=true:=by simpa using h
theorem Ail{a b:Int}(h: ¬a=b):(a==b)=false:=by simpa using h
def inB (x a b:Int):Bool:=decide (a≤x∧x≤b)
theorem Age{x a b:Int}:inB x a b=true ↔ a≤x∧x≤b:=by unfold inB;exact decide_eq_true_iff
theorem A5p{x a b:Int}:inB x a b=false ↔ ¬(a≤x∧x≤b):=by unfold inB;exact decide_eq_false_iff_not
theorem Akg (b:Bool)(x:Bool):(bif b then some x else some false)=some (b&&x):=by cases b<;>rfl
theorem A8q (b:Bool)(x:Bool):(bif b then some false else some x)=some (!b&&x):=by cases b<;>rfl
theorem Azl (b:Bool)(x:Bool):(bif b then some true else some x)=some (b||x):=by cases b<;>rfl
theorem Ady{α:Type}(b:Bool)(x y:α):(bif !b then x else y)=(bif b then y else x):=by cases b<;>rfl
theorem Akh{i n:Nat}(h:i<n):((0:Int)≤(i:Int)∧(i:Int)<(n:Int)):=⟨by omega,by omega⟩
theorem Bsu{α:Type}(l:List α)(q:α->Bool)(fin:Option Bool)(L:Nat->Int->Option Bool)
  (hs: ∀n (i:Nat) (h:i<l.length),L (n+1) (i:Int)=bif q l[i]then L n ((i+1:Nat):Int)else some false)
  (he: ∀n,L (n+1) (l.length:Int)=fin):
  ∀(n i:Nat),i≤l.length->l.length - i<n->L n (i:Int)=bif (l.drop i).all q then fin else some false:=by
 intro n
 induction n with
 |zero=>intro i _ h;omega
 |succ n ih=>
  intro i hi hn;rcases Ez i l.length with h|h
  ·rw[hs n i h,Z47 h,Fp];cases q l[i]with
   |false=>rfl
   |true=>rw[cond_true,ih (i+1) h (by omega)];rfl
  ·obtain rfl:i=l.length:=by omega
   rw[he,List.drop_length];rfl
theorem As6{α:Type}{K:Nat}(hK:281474976710656≤K)(l:List α)(hl:l.length≤140737488355328)(q:α->Bool)(fin:Option Bool)(L:Nat->Int->Option Bool)
  (hs: ∀n (i:Nat) (h:i<l.length),L (n+1) (i:Int)=bif q l[i]then L n ((i+1:Nat):Int)else some false)
  (he: ∀n,L (n+1) (l.length:Int)=fin):L K 0=bif l.all q then fin else some false:=by
 have:=Bsu l q fin L hs he K 0 (Z21 _) (by omega)
 simpa using this
theorem Apc{K:Nat}(hK:281474976710656≤K)(N:Nat)(hl:N≤140737488355328)(q:Nat->Bool)(fin:Option Bool)(L:Nat->Int->Option Bool)
  (hs: ∀n (i:Nat) (h:i<N),L (n+1) (i:Int)=bif q i then L n ((i+1:Nat):Int)else some false)
  (he: ∀n,L (n+1) (N:Int)=fin):L K 0=bif (List.range N).all q then fin else some false:=by
 refine As6 hK (List.range N) (by simpa using hl) q fin L (fun n i h=> ?_) (fun n=> ?_)
 ·rw[List.getElem_range];exact hs n i (by simpa using h)
 ·rw[List.length_range];exact he n
theorem Bjr{α:Type}(l:List α)(q:α->Bool)(L:Nat->Int->Int->Option Int)
  (hs: ∀n (i:Nat) (h:i<l.length),L (n+1) (l.length:Int) (i:Int)=bif q l[i]then some (i:Int)else L n (l.length:Int) ((i+1:Nat):Int))
  (he: ∀n,L (n+1) (l.length:Int) (l.length:Int)=some (-1)):
  ∀(n i:Nat),i≤l.length->l.length - i<n-> ∃r,L n (l.length:Int) (i:Int)=some r∧decide (r≥0)=(l.drop i).any q:=by
 intro n
 induction n with
 |zero=>intro i _ h;omega
 |succ n ih=>
  intro i hi hn;rcases Ez i l.length with h|h
  ·rw[hs n i h,Z47 h,List.any_cons];cases q l[i]with
   |true=>exact⟨_,rfl,by simp⟩
   |false=>rw[cond_false,Z52];exact ih (i+1) h (by omega)
  ·obtain rfl:i=l.length:=by omega
   exact⟨_,he n,by simp⟩
theorem A2p{α:Type}[Inhabited α]{K:Nat}(hK:281474976710656≤K)(l:List α)(hl:l.length≤140737488355328)(f:α->Option Bool)(q:α->Bool)(hf: ∀x∈l,f x=some (q x))(L:Nat->Int->Int->Option Int)
  (hL: ∀n N i,L (n+1) N i=bif decide (i<N)then(if(0:Int)≤i∧i<(l.length:Int)then(f (gt l i)).bind (fun r=>bif r then some i else L n N (Am9 .i64 i 1))else none)else some (-1)):
  ((L K (l.length:Int) 0).bind fun r=>some (decide (r≥0)))=some (l.any q):=by
 obtain⟨r,h1,h2⟩:=Bjr l q L (fun n i h=>by
  rw[hL,Agh h,cond_true,if_pos (Akh h),hf _ (Ao9 h),Acm h,Z0,Agd (by omega)]) (fun n=>by rw[hL,Agl (Z9 _),cond_false]) K 0 (Z21 _) (by omega)
 rw[show((0:Nat):Int)=0 from rfl]at h1
 rw[h1,Z0,h2,Z55]
theorem Az6{K:Nat}(hK:281474976710656≤K)(l:List Int)(x:Int)(hl:l.length≤140737488355328):Akk K l x=some (l.contains x):=by
 unfold Akk Awd;obtain⟨r,h1,h2⟩:=Bjr l (fun y=>x==y) (Aoj K l x) (fun n i h=>by
  rw[Aoj,Agh h,cond_true,if_pos (Akh h),Acm h,Agd (by omega)]) (fun n=>by rw[Aoj,Agl (Z9 _),cond_false]) K 0 (Z21 _) (by omega)
 rw[show((0:Nat):Int)=0 from rfl]at h1
 rw[h1,Z0,h2,Z55,List.contains_eq_any_beq]
theorem Azm{K:Nat}(hK:281474976710656≤K)(l:List Int)(x:Int)(hl:l.length≤140737488355328):Apk K l x=some (l.contains x):=by
 unfold Apk
 have h: ∀(n i:Nat),i≤l.length->l.length - i<n->At6 K l x n (i:Int)=some ((l.drop i).contains x):=by
  intro n
  induction n with
  |zero=>intro i _ h;omega
  |succ n ih=>
   intro i hi hn;rw[At6];rcases Ez i l.length with h|h
   ·rw[Agh h,cond_true,if_pos (Akh h),Acm h,Agd (by omega),ih (i+1) h (by omega),Z47 h,List.contains_cons,Azl,Bool.beq_comm]
   ·rw[Agl h,cond_false,Z48 h];rfl
 have:=h K 0 (Z21 _) (by omega)
 simpa using this
theorem Aon (K:Nat)(x a b:Int):K0 K x a b=some (inB x a b):=by
 unfold K0 inB
 by_cases h:a≤x
 ·rw[decide_eq_true (show x≥a from h)];simp[h]
 ·rw[decide_eq_false (show ¬x≥a from h)];simp[h]
theorem Aux (K:Nat)(x a b:Int):Adu K x a b=some (inB x a b):=Aon K x a b
def Ak5 (c:D4):Bool:=inB c.A6 2 12&&(inB c.Kh 8 16&&(inB c.Fj 2 8&&(inB c.Hb 1 8&&(inB c.Fk 1 16&&inB c.Ki 1 4))))
theorem Arr (K:Nat)(c):Am2 K c=some (Ak5 c):=by
 simp only[Am2,Aon,Z0,Akg,Ak5]
theorem A1w (K:Nat)(c):Atl K c=some (Ak5 c):=Arr K c
theorem Ap{c:D4}(h:Ak5 c=true):(2≤c.A6∧c.A6≤12)∧(8≤c.Kh∧c.Kh≤16)∧(2≤c.Fj∧c.Fj≤8)∧(1≤c.Hb∧c.Hb≤8)∧(1≤c.Fk∧c.Fk≤16)∧(1≤c.Ki∧c.Ki≤4):=by
 simpa only[Ak5,Z4,Age]using h
def Amv (c:D4):Int:=bif Ak5 c then c.A6*c.Kh else 0
theorem Auy{a b m n:Int}(h1:0≤a)(h2:a≤m)(h3:0≤b)(h4:b≤n):0≤a*b∧a*b≤m*n:=
 ⟨Int.mul_nonneg h1 h3,Int.mul_le_mul h2 h4 h3 (by omega)⟩
theorem Auz (K:Nat)(c):Aqp K c=some (Amv c):=by
 unfold Aqp Amv;rw[Arr,Z0,Ady];cases h:Ak5 c with
 |false=>rfl
 |true=>
  obtain⟨h1,h2,_⟩:=Ap h
  have:=Auy (a:=c.A6) (b:=c.Kh) (m:=12) (n:=16) (by omega) h1.2 (by omega) h2.2
  simp only[cond_true,Anb];rw[Aa3 (by omega) (by omega)]
theorem A08 (K:Nat)(c):Axb K c=some (Amv c):=Auz K c
theorem Azn (c:D4):0≤Amv c∧Amv c≤192:=by
 unfold Amv;cases h:Ak5 c with
 |false=>simp
 |true=>
  obtain⟨h1,h2,_⟩:=Ap h
  have:=Auy (a:=c.A6) (b:=c.Kh) (m:=12) (n:=16) (by omega) h1.2 (by omega) h2.2
  simp only[cond_true];omega
section
variable {K:Nat} (hK:281474976710656≤K)
include hK
def Apd (l:List Int):Bool:=l.all (fun x=>x==0)
theorem Az7 (l:List Int)(hl:l.length≤140737488355328):Art K l=some (Apd l):=by
 unfold Art;rw[As6 hK l hl (fun x=>x==0) (some true) (Aq8 K l) (fun n i h=>by
  rw[Aq8,Agh h,cond_true,if_pos (Akh h),Acm h,Agd (by omega)]
  cases e:l[i]==0<;>simp[bne,e]) (fun n=>by rw[Aq8,Agl (Z9 _),cond_false])]
 unfold Apd;cases l.all (fun x=>x==0)<;>rfl
theorem A1x (l:List Int)(hl:l.length≤140737488355328):Atm K l=some (Apd l):=by
 unfold Atm Akj Amn;rw[A2p hK l hl (Ayq K) (fun x=>x != 0) (fun x _=>rfl) (Ah9 K l) (fun n N i=>rfl)];simp only[Z0,Apd,List.not_any_eq_all_not,Z7]
 congr 1
 funext x
 simp[bne]
end
def Atj (a b:Int):Int:=bif inB a 0 1000000000&&inB b 1 1000000000 then(a+b - 1) / b else 0
theorem A09 (K:Nat)(a b:Int):Awy K a b=some (Atj a b):=by
 unfold Awy Atj;rw[Aon,Aon,Z0];cases h1:inB a 0 1000000000 with
 |false=>rfl
 |true=>
  cases h2:inB b 1 1000000000 with
  |false=>rfl
  |true=>
   rw[Age]at h1 h2;simp only[Z0,cond_true,Bool.not_true,cond_false,Bool.and_self];rw[if_pos (by omega)]
   unfold Akr Ana Am9;rw[Aa3 (n:=a+b) (by omega) (by omega),Aa3 (n:=a+b - 1) (by omega) (by omega)]
   rw[Int.tdiv_eq_ediv_of_nonneg (by omega)]
   have h3:(a+b - 1) / b≤a+b - 1:=Int.ediv_le_self _ (by omega)
   have h4:0≤(a+b - 1) / b:=Int.ediv_nonneg (by omega) (by omega)
   rw[Aa3 (by omega) (by omega)]
def As7 (c:D4)(mem:List Int)(k:Int):List Int:=(mem.drop (k*c.Kh).toNat).take c.Kh.toNat
def Ayg (c:D4)(p:Dh)(k:Nat):Bool:=
 inB (gt p.Yq k) 0 2&&((bif gt p.Yq k==1 then inB (gt p.Sl k) 0 (c.Fj - 1)else gt p.Sl k== -1)&&(bif gt p.Yq k==0 then Apd (As7 c p.Sk k)else true))
def Aty (c:D4)(p:Dh):Bool:=
 Ak5 c&&((p.Sk.length:Int)==Amv c&&((p.Yq.length:Int)==c.A6&&((p.Sl.length:Int)==c.A6&&(List.range c.A6.toNat).all (Ayg c p))))
theorem Asu{c:D4}{p:Dh}(h:Aty c p=true):Ak5 c=true∧(p.Sk.length:Int)=c.A6*c.Kh∧(p.Yq.length:Int)=c.A6∧(p.Sl.length:Int)=c.A6∧ ∀k,k<c.A6.toNat->Ayg c p k=true:=by
 simp only[Aty,Z4,beq_iff_eq,Z1,List.mem_range]at h;obtain⟨h1,h2,h3,h4,h5⟩:=h;refine⟨h1,?_,h3,h4,h5⟩;rw[h2,Amv,h1];rfl
theorem A0r{c:D4}(hc:Ak5 c=true){mem:List Int}(hm:(mem.length:Int)=c.A6*c.Kh){k:Int}(h0:0≤k)(h1:k<c.A6):
  Anb .i64 k c.Kh=k*c.Kh∧Anb .i64 (Am9 .i64 k 1) c.Kh=k*c.Kh+c.Kh∧0≤k*c.Kh∧k*c.Kh+c.Kh≤(mem.length:Int):=by
 obtain⟨b1,b2,_⟩:=Ap hc
 have m1:=Auy (a:=k) (b:=c.Kh) (m:=12) (n:=16) h0 (by omega) (by omega) b2.2
 have e2:(k+1)*c.Kh=k*c.Kh+c.Kh:=by rw[Int.add_mul,Int.one_mul]
 have m2:(k+1)*c.Kh≤c.A6*c.Kh:=Int.mul_le_mul_of_nonneg_right (by omega) (by omega)
 rw[e2]at m2;refine⟨?_,?_,m1.1,by omega⟩
 ·unfold Anb;exact Aa3 (by omega) (by omega)
 ·unfold Anb Am9;rw[Aa3 (n:=k+1) (by omega) (by omega),e2,Aa3 (by omega) (by omega)]
section
variable {K:Nat} (hK:281474976710656≤K)
include hK
theorem A53{c:D4}(hc:Ak5 c=true){p:Dh}(hm:(p.Sk.length:Int)=c.A6*c.Kh){k:Int}(h0:0≤k)(h1:k<c.A6):Arm K p c k=some (As7 c p.Sk k):=by
 obtain⟨e1,e2,e3,e4⟩:=A0r hc hm h0 h1;obtain⟨b1,b2,_⟩:=Ap hc;unfold Arm;rw[e1,e2,if_pos ⟨e3,by omega,e4⟩]
 unfold As7;rw[show k*c.Kh+c.Kh - k*c.Kh=c.Kh by omega]
theorem A41 (c:D4)(p:Dh):Au5 K c p=some (Aty c p):=by
 unfold Au5;rw[Arr,Auz];simp only[Z0];cases hc:Ak5 c with
 |false=>simp[Aty,hc]
 |true=>
 obtain⟨b1,b2,b3,_⟩:=Ap hc
 have hby:Amv c=c.A6*c.Kh:=by rw[Amv,hc];rfl
 simp only[cond_true,Aty,hc,Z30,bne];cases h1:(p.Sk.length:Int)==Amv c with
 |false=>rfl
 |true=>
 cases h2:(p.Yq.length:Int)==c.A6 with
 |false=>rfl
 |true=>
 cases h3:(p.Sl.length:Int)==c.A6 with
 |false=>rfl
 |true=>
 rw[beq_iff_eq]at h1 h2 h3
 have hN:((c.A6.toNat:Nat):Int)=c.A6:=by omega
 simp only[Bool.not_true,cond_false,Z30];rw[Apc hK c.A6.toNat (by omega) (Ayg c p) (some true) (fun n i=>Amk K c n i p.Sk p.Yq p.Sl) (fun n i h=> ?_) (fun n=> ?_)]
 ·cases (List.range c.A6.toNat).all (Ayg c p)<;>rfl
 ·obtain⟨e1,e2,e3,e4⟩:=A0r hc (h1.trans hby) (k:=(i:Int)) (by omega) (by omega)
  have hl:(List.take (i*c.Kh+c.Kh - i*c.Kh).toNat (List.drop (i*c.Kh).toNat p.Sk)).length≤140737488355327:=by simp;omega
  have hs:Ana .i64 c.Fj 1=c.Fj - 1:=by unfold Ana;rw[Aa3 (by omega) (by omega)]
  have hck:List.take (i*c.Kh+c.Kh - i*c.Kh).toNat (List.drop (i*c.Kh).toNat p.Sk)=As7 c p.Sk i:=by
   unfold As7;rw[show(i:Int)*c.Kh+c.Kh - i*c.Kh=c.Kh by omega]
  simp only[Amk,Aq9,Avk];rw[e1,e2,Agd (by omega),decide_eq_true (show(i:Int)<c.A6 by omega),cond_true,if_pos ⟨by omega,by omega⟩,Aon,Aon,hs,Az7 hK _ (by omega),hck]
  simp only[Z0,bne,show((0:Int)≤(i:Int)∧(i:Int)<(p.Yq.length:Int))=True from eq_true ⟨by omega,by omega⟩,show((0:Int)≤(i:Int)∧(i:Int)<(p.Sl.length:Int))=True from eq_true ⟨by omega,by omega⟩,if_true,if_pos (show(0:Int)≤i*c.Kh∧(i:Int)*c.Kh≤i*c.Kh+c.Kh∧(i:Int)*c.Kh+c.Kh≤(p.Sk.length:Int) from⟨e3,by omega,e4⟩)]
  unfold Ayg;cases inB (gt p.Yq i) 0 2<;>cases (gt p.Yq (i:Int)==1)<;>cases inB (gt p.Sl i) 0 (c.Fj - 1)<;>cases (gt p.Sl (i:Int)== -1)<;>cases (gt p.Yq (i:Int)==0)<;>cases Apd (As7 c p.Sk i)<;>rfl
 ·show Amk K c (n+1) _ _ _ _=_;rw[Amk,hN,decide_eq_false (by omega),cond_false]
theorem Baj (c:D4)(p:Dh):Aya K c p=some (Aty c p):=by
 unfold Aya;rw[A1w,A08];simp only[Z0];cases hc:Ak5 c with
 |false=>simp[Aty,hc]
 |true=>
 obtain⟨b1,b2,b3,_⟩:=Ap hc
 have hby:Amv c=c.A6*c.Kh:=by rw[Amv,hc];rfl
 simp only[cond_true,Aty,hc,Z30,bne];cases h1:(p.Sk.length:Int)==Amv c with
 |false=>rfl
 |true=>
 cases h2:(p.Yq.length:Int)==c.A6 with
 |false=>rfl
 |true=>
 cases h3:(p.Sl.length:Int)==c.A6 with
 |false=>rfl
 |true=>
 rw[beq_iff_eq]at h1 h2 h3
 have hN:((c.A6.toNat:Nat):Int)=c.A6:=by omega
 simp only[Bool.not_true,cond_false,Z30];rw[Apc hK c.A6.toNat (by omega) (Ayg c p) (some true) (fun n i=>Ake K c n p.Yq (p.Yq.length:Int) i p.Sk p.Yq p.Sl) (fun n i h=> ?_) (fun n=> ?_)]
 ·cases (List.range c.A6.toNat).all (Ayg c p)<;>rfl
 ·have hs:Ana .i64 c.Fj 1=c.Fj - 1:=by unfold Ana;rw[Aa3 (by omega) (by omega)]
  have hl:(As7 c p.Sk i).length≤140737488355327:=by unfold As7;simp;omega
  simp only[Ake,Ap0,Avy];rw[A53 hK hc (h1.trans hby) (by omega) (by omega),Agd (by omega),decide_eq_true (show(i:Int)<(p.Yq.length:Int)by omega),cond_true,if_pos ⟨by omega,by omega⟩,Aux,Aux,hs]
  simp only[Z0,A1x hK _ (show(As7 c p.Sk i).length≤140737488355328 by omega),bne,show((0:Int)≤(i:Int)∧(i:Int)<(p.Sl.length:Int))=True from eq_true ⟨by omega,by omega⟩,if_true]
  unfold Ayg;cases inB (gt p.Yq i) 0 2<;>cases (gt p.Yq (i:Int)==1)<;>cases inB (gt p.Sl i) 0 (c.Fj - 1)<;>cases (gt p.Sl (i:Int)== -1)<;>cases (gt p.Yq (i:Int)==0)<;>cases Apd (As7 c p.Sk i)<;>rfl
 ·show Ake K c (n+1) _ _ _ _ _ _=_;rw[Ake,hN,decide_eq_false (by omega),cond_false]
end
def Av7 (c:D4)(t:A7):Prop:=Ak5 c=true∧1≤t.Ai8∧0≤t.fAt∧t.fAt+t.Ai8≤Amv c
instance (c t):Decidable (Av7 c t):=by unfold Av7;infer_instance
def Apa (c:D4)(t:A7):Bool:=
 decide (Av7 c t)&&(bif t.Ai9==0 then decide (t.Ai8≤c.Kh)&&(t.fAt / c.Kh==(t.fAt+t.Ai8 - 1) / c.Kh)else decide (t.Ai8>c.Kh)&&(t.Ai9==Atj t.Ai8 c.Kh&&t.fAt % c.Kh==0))
theorem A54 (K:Nat){c:D4}{t:A7}(h:Av7 c t):
  (bif (t.Ai9==0)then(bif (decide (t.Ai8≤c.Kh))then(if c.Kh≠(0:Int)then(if c.Kh≠(0:Int)then some ((Akr .i64 t.fAt c.Kh)==(Akr .i64 (Ana .i64 (Am9 .i64 t.fAt t.Ai8) 1) c.Kh))else none)else none)else some false)else((Apo K c t.Ai8).bind fun r2=>(bif r2 then((Aod K c t.Ai8).bind fun r3=>(bif (t.Ai9==r3)then(if c.Kh≠(0:Int)then some ((Int.tmod t.fAt c.Kh)==0)else none)else some false))else some false)))=some (Apa c t):=by
 have hd:decide (Av7 c t)=true:=decide_eq_true h;obtain⟨hc,h1,h2,h3⟩:=h
 have hb:=Azn c;obtain⟨b1,b2,_⟩:=Ap hc;unfold Apa Apo Aod;rw[hd,if_pos (by omega),if_pos (by omega),A09]
 have e1:Ana .i64 (Am9 .i64 t.fAt t.Ai8) 1=t.fAt+t.Ai8 - 1:=by
  unfold Ana Am9;rw[Aa3 (n:=t.fAt+t.Ai8) (by omega) (by omega),Aa3 (by omega) (by omega)]
 have e2: ∀x:Int,0≤x->x≤192->Akr .i64 x c.Kh=x / c.Kh:=by
  intro x h0 hx;unfold Akr;rw[Int.tdiv_eq_ediv_of_nonneg h0]
  have h3:x / c.Kh≤x:=Int.ediv_le_self _ h0
  have h4:0≤x / c.Kh:=Int.ediv_nonneg h0 (by omega)
  rw[Aa3 (by omega) (by omega)]
 rw[e1,e2 _ h2 (by omega),e2 _ (by omega) (by omega),Int.tmod_eq_emod_of_nonneg h2]
 simp only[Z0,if_pos (show c.Kh≠0 by omega)]
 cases t.Ai9==0<;>cases decide (t.Ai8≤c.Kh)<;>cases decide (t.Ai8>c.Kh)<;>cases t.Ai9==Atj t.Ai8 c.Kh<;>rfl
theorem Bak{c:D4}{t:A7}(h: ¬Av7 c t):Apa c t=false:=by
 unfold Apa;rw[decide_eq_false h];rfl
theorem A3o (K:Nat)(c:D4)(t:A7):Asb K c t=some (Apa c t):=by
 have hb:=Azn c
 by_cases h:Av7 c t
 ·rw[←A54 K h];obtain⟨hc,h1,h2,h3⟩:=h;unfold Asb;rw[Auz,Z0,Ail (by omega),decide_eq_false (by omega),decide_eq_false (by omega),decide_eq_false (by omega)]
  unfold Ana;rw[Aa3 (by omega) (by omega),decide_eq_false (show ¬t.Ai8>Amv c - t.fAt by omega)]
  simp only[cond_false]
  try rfl
 ·rw[Bak h];unfold Asb;rw[Auz,Z0]
  by_cases g0:Amv c=0
  ·rw[g0];rfl
  ·have hc:Ak5 c=true:=by
    cases hc:Ak5 c with
    |true=>rfl
    |false=>exact absurd (by unfold Amv;rw[hc];rfl) g0
   rw[Ail g0,cond_false]
   by_cases g1:t.Ai8<1
   ·rw[decide_eq_true g1];rfl
   ·by_cases g2:t.fAt<0
    ·rw[decide_eq_false g1,decide_eq_true g2];rfl
    ·by_cases g3:t.fAt>Amv c
     ·rw[decide_eq_false g1,decide_eq_false g2,decide_eq_true g3];rfl
     ·rw[decide_eq_false g1,decide_eq_false g2,decide_eq_false g3];unfold Ana;rw[Aa3 (by omega) (by omega),decide_eq_true (show t.Ai8>Amv c - t.fAt from ?_)]
      ·rfl
      ·refine Classical.byContradiction fun g4=>h ⟨hc,by omega,by omega,by omega⟩
theorem A3p (K:Nat)(c:D4)(t:A7):Asl K c t=some (Apa c t):=by
 have hb:=Azn c
 by_cases h:Av7 c t
 ·rw[←A54 K h];obtain⟨hc,h1,h2,h3⟩:=h;unfold Asl;rw[A08,Z0,decide_eq_false (by omega),decide_eq_false (by omega),decide_eq_false (by omega)]
  unfold Ana;rw[Aa3 (by omega) (by omega),decide_eq_false (show ¬t.fAt>Amv c - t.Ai8 by omega)]
  simp only[cond_false]
  try rfl
 ·rw[Bak h];unfold Asl;rw[A08,Z0]
  by_cases g1:t.Ai8≤0
  ·rw[decide_eq_true g1];rfl
  ·by_cases g2:t.fAt<0
   ·rw[decide_eq_false g1,decide_eq_true g2];rfl
   ·by_cases g3:t.Ai8>Amv c
    ·rw[decide_eq_false g1,decide_eq_false g2,decide_eq_true g3];rfl
    ·rw[decide_eq_false g1,decide_eq_false g2,decide_eq_false g3]
     have hc:Ak5 c=true:=by
      cases hc:Ak5 c with
      |true=>rfl
      |false=>exfalso;unfold Amv at g3;rw[hc]at g3;simp only[cond_false]at g3;omega
     unfold Ana;rw[Aa3 (by omega) (by omega),decide_eq_true (show t.fAt>Amv c - t.Ai8 from ?_)]
     ·rfl
     ·refine Classical.byContradiction fun g4=>h ⟨hc,by omega,by omega,by omega⟩
theorem A4k{α:Type}(l:List α)(i:Nat):(l.drop (0:Int).toNat).take ((i:Int) - 0).toNat=l.take i:=by simp
theorem Bal{i n:Nat}(h:i≤n):((0:Int)≤0∧(0:Int)≤(i:Int)∧(i:Int)≤(n:Int)):=⟨by omega,by omega,by omega⟩
def As2 (c:D4)(l:List Int):Bool:=(List.range l.length).all (fun i=>inB (gt l i) 0 (c.A6 - 1)&& !(l.take i).contains (gt l i))
def A3q (n:A8):Bool:=
 n.Sy==0&&(n.fUp==0&&(n.Wk==0&&(n.Er==0&&(n.Wl==0&&(n.Wm==0&&((n.A6.length:Int)==0&&(n.Afu==0&&(n.Wn==0&&((n.H7.length:Int)==0&&(n.F3.length:Int)==0)))))))))
theorem Bfc (K:Nat)(n):Az3 K n=some (A3q n):=by
 simp only[Az3,Akg,A3q]
theorem Bfd{K:Nat}(hK:1≤K)(l:List Int):Aj7 K l []=some ((l.length:Int)==0):=by
 obtain⟨k,rfl⟩: ∃k,K=k+1:=⟨K - 1,by omega⟩
 cases l with
 |nil=>unfold Aj7;rw[Aj6];rfl
 |cons x l=>unfold Aj7;rw[Aqd (by simp only[Ws,List.length_nil];omega),cond_true,Ail (by simp only[Ws];omega)]
theorem Bca{K:Nat}(hK:1≤K)(l:List A7):Amq K l []=some ((l.length:Int)==0):=by
 obtain⟨k,rfl⟩: ∃k,K=k+1:=⟨K - 1,by omega⟩
 cases l with
 |nil=>unfold Amq;rw[Aom];rfl
 |cons x l=>unfold Amq;rw[Aqd (by simp only[Ws,List.length_nil];omega),cond_true,Ail (by simp only[Ws];omega)]
theorem Bfe{K:Nat}(hK:1≤K)(n):Az5 K n=some (A3q n):=by
 unfold Az5 Ayr;simp only[beq_self_eq_true,cond_true,Bfd hK,Bca hK,Z0,Akg,A3q]
def A3r (c:D4)(n:A8):Bool:=bif n.Afu==0 then n.Wn==0 else n.A6.contains (Ana .i64 n.Afu 1)&&inB n.Wn 0 c.Kh
def A55 (c:D4)(n:A8):Bool:=
 (inB n.fUp 0 c.Fj&&(inB n.Er 0 c.Fj&&(inB n.Wl 0 c.Fj&&inB n.Wm 0 c.Fj)))&&((!decide (n.Sy<0)&& !decide (n.Wk<0))&&((As2 c n.A6&&A3r c n)&&((decide ((n.H7.length:Int)≤12)&&decide ((n.F3.length:Int)≤6))&&(n.F3.all (fun x=>inB x 0 255)&&n.H7.all (Apa c)))))
def Aqe (c:D4)(n:A8):Bool:=Ak5 c&&(inB n.Yq 0 3&&(inB n.C6 1 c.Ki&&(bif n.Yq != 1 then A3q n else A55 c n)))
section
variable {K:Nat} (hK:281474976710656≤K)
include hK
theorem Azd{c:D4}(hc:Ak5 c=true):Ana .i64 c.A6 1=c.A6 - 1:=by
 obtain⟨b1,_⟩:=Ap hc;unfold Ana;rw[Aa3 (by omega) (by omega)]
theorem A20{c:D4}(hc:Ak5 c=true)(l:List Int)(hl:l.length≤140737488355327):Ate K c l=some (As2 c l):=by
 unfold Ate;rw[Apc hK l.length (by omega) (fun i=>inB (gt l i) 0 (c.A6 - 1)&& !(l.take i).contains (gt l i)) (some true) (fun n i=>Aoy K c l n l (l.length:Int) i) (fun n i h=> ?_) (fun n=> ?_)]
 ·unfold As2;cases (List.range l.length).all _<;>rfl
 ·have hp:(l.take i).length≤140737488355328:=by simp;omega
  simp only[Aoy];rw[Agh h,cond_true,if_pos (Akh h),Aux,if_pos (Bal (by omega)),A4k,Az6 hK _ _ hp,Agd (by omega),Azd hK hc]
  simp only[Z0];cases inB (gt l i) 0 (c.A6 - 1)<;>cases (l.take i).contains (gt l i)<;>rfl
 ·show Aoy K c l (n+1) _ _ _=_;rw[Aoy,Agl (Z9 _),cond_false]
theorem A7a{c:D4}(hc:Ak5 c=true)(n:A8)(hl:n.A6.length≤140737488355327):Avm K c n=some (As2 c n.A6&&A3r c n):=by
 unfold Avm;rw[Apc hK n.A6.length (by omega) (fun i=>inB (gt n.A6 i) 0 (c.A6 - 1)&& !(n.A6.take i).contains (gt n.A6 i)) (some (A3r c n)) (fun k i=>Aot K c k i n.Yq n.C6 n.Sy n.fUp n.Wk n.Er n.Wl n.Wm n.A6 n.Afu n.Wn n.H7 n.F3) (fun k i h=> ?_) (fun k=> ?_)]
 ·rw[Akg];rfl
 ·have hp:(n.A6.take i).length≤140737488355328:=by simp;omega
  simp only[Aot];rw[Agh h,cond_true,if_pos (Akh h),Aon,if_pos (Bal (by omega)),A4k,Azm hK _ _ hp,Agd (by omega),Azd hK hc]
  simp only[Z0,if_pos (Akh h)];cases inB (gt n.A6 i) 0 (c.A6 - 1)<;>cases (n.A6.take i).contains (gt n.A6 i)<;>rfl
 ·show Aot K c (k+1) _ _ _ _ _ _ _ _ _ _ _ _ _ _=_;rw[Aot,Agl (Z9 _),cond_false,Azm hK _ _ (by omega),Aon]
  unfold A3r;simp only[Z0,Akg];cases n.Afu==0<;>rfl
theorem A0k (l:List Int)(hl:l.length≤140737488355328):Arb K l=some (l.all (fun x=>inB x 0 255)):=by
 unfold Arb Akf Amf;rw[A2p hK l hl (Atv K) (fun x=> !inB x 0 255) (fun x _=>by simp[Atv,Aux]) (Ah7 K l) (fun n N i=>rfl)]
 simp only[Z0,List.not_any_eq_all_not,Bool.not_not]
theorem Awk (c:D4)(n:A8)(h1:n.A6.length≤140737488355327)(h2:n.H7.length≤140737488355327)(h3:n.F3.length≤140737488355327):Apl K c n=some (Aqe c n):=by
 unfold Apl;rw[Arr,Bfc];simp only[Z0,Aon];cases hc:Ak5 c with
 |false=>simp[Aqe,hc]
 |true=>
 rw[A7a hK hc n h1]
 have hA:Apy K n.F3 K 0=some (n.F3.all (fun x=>inB x 0 255)):=by
  rw[As6 hK n.F3 (by omega) (fun x=>inB x 0 255) (some true) (Apy K n.F3) (fun k i h=> ?_) (fun k=> ?_)]
  ·cases n.F3.all (fun x=>inB x 0 255)<;>rfl
  ·rw[Apy,Agh h,cond_true,if_pos (Akh h),Acm h,Aon,Agd (by omega),Z0,Ady]
  ·rw[Apy,Agl (Z9 _),cond_false]
 have hB:Ao5 K c K 0 n.Yq n.C6 n.Sy n.fUp n.Wk n.Er n.Wl n.Wm n.A6 n.Afu n.Wn n.H7 n.F3=some (n.F3.all (fun x=>inB x 0 255)&&n.H7.all (Apa c)):=by
  rw[As6 hK n.H7 (by omega) (Apa c) (some (n.F3.all (fun x=>inB x 0 255))) (fun k i=>Ao5 K c k i n.Yq n.C6 n.Sy n.fUp n.Wk n.Er n.Wl n.Wm n.A6 n.Afu n.Wn n.H7 n.F3) (fun k i h=> ?_) (fun k=> ?_)]
  ·rw[Akg,Bool.and_comm]
  ·simp only[Ao5];rw[Agh h,cond_true,if_pos (Akh h),Acm h,A3o,Agd (by omega),Z0,Ady]
  ·show Ao5 K c (k+1) _ _ _ _ _ _ _ _ _ _ _ _ _ _=_;rw[Ao5,Agl (Z9 _),cond_false,hA]
 rw[hB]
 have e12:decide ((n.H7.length:Int)>12)= !decide ((n.H7.length:Int)≤12):=by rw[←decide_not];congr 1;simp
 have e6:decide ((n.F3.length:Int)>6)= !decide ((n.F3.length:Int)≤6):=by rw[←decide_not];congr 1;simp
 simp only[Z0,cond_true,e12,e6,Ady,Akg,A8q];unfold Aqe A55;rw[hc];cases n.Yq != 1 with
 |true=>simp only[cond_true,Akg,Z30]
 |false=>
  simp only[cond_false,Akg,Z30,Z7]
  ac_rfl
theorem Bam (c:D4)(n:A8)(h1:n.A6.length≤140737488355327)(h2:n.H7.length≤140737488355327)(h3:n.F3.length≤140737488355327):Ayb K c n=some (Aqe c n):=by
 unfold Ayb;rw[A1w,Bfe (by omega)]
 simp only[Z0,Aux];cases hc:Ak5 c with
 |false=>simp[Aqe,hc]
 |true=>
 have hT:Aik K n.H7 c=some (n.H7.any (fun t=> !Apa c t)):=
  A2p hK n.H7 (by omega) (fun t=>Avz K t c) (fun t=> !Apa c t) (fun x _=>by simp[Avz,A3p]) (Agj K n.H7 c) (fun n N i=>rfl)
 have hJ:Ap1 K c n.H7 n.F3=some ((decide ((n.H7.length:Int)≤12)&&decide ((n.F3.length:Int)≤6))&&(n.F3.all (fun x=>inB x 0 255)&&n.H7.all (Apa c))):=by
  unfold Ap1;rw[hT,A0k hK _ (by omega)]
  simp only[Z0,Akg,List.not_any_eq_all_not,Bool.not_not,Z7]
  ac_rfl
 obtain⟨_,b2,_⟩:=Ap hc
 have hB:Ao7 K c K ([n.fUp,n.Er,n.Wl,n.Wm]:List Int) (([n.fUp,n.Er,n.Wl,n.Wm]:List Int).length:Int) 0 n.Yq n.C6 n.Sy n.fUp n.Wk n.Er n.Wl n.Wm n.A6 n.Afu n.Wn n.H7 n.F3=some (A55 c n):=by
  rw[As6 hK ([n.fUp,n.Er,n.Wl,n.Wm]:List Int) (by simp) (fun x=>inB x 0 c.Fj) (some ((!decide (n.Sy<0)&& !decide (n.Wk<0))&&((As2 c n.A6&&A3r c n)&&((decide ((n.H7.length:Int)≤12)&&decide ((n.F3.length:Int)≤6))&&(n.F3.all (fun x=>inB x 0 255)&&n.H7.all (Apa c)))))) (fun k i=>Ao7 K c k ([n.fUp,n.Er,n.Wl,n.Wm]:List Int) (([n.fUp,n.Er,n.Wl,n.Wm]:List Int).length:Int) i n.Yq n.C6 n.Sy n.fUp n.Wk n.Er n.Wl n.Wm n.A6 n.Afu n.Wn n.H7 n.F3) (fun k i h=> ?_) (fun k=> ?_)]
  ·unfold A55;rw[Akg];simp only[Fp,List.all_nil,Bool.and_true]
  ·simp only[Ao7];rw[Agh h,cond_true,if_pos (Akh h),Acm h,Aux,Agd (by simp at h ⊢;omega),Z0,Ady]
  ·show Ao7 K c (k+1) _ _ _ _ _ _ _ _ _ _ _ _ _ _ _ _=_;rw[Ao7,Agl (Z9 _),cond_false,hJ,A20 hK hc _ h1,Az6 hK _ _ (by omega),Aux]
   simp only[Z0,bne,Ady,Akg,A8q];unfold A3r
   have hz:(n.Wn==0)=true->inB n.Wn 0 c.Kh=true:=by
    intro h;rw[beq_iff_eq]at h;rw[Age];omega
   cases e0:n.Afu==0 with
   |true=>
    simp only[cond_true,Akg,A8q,Bool.not_not,Ady,cond_false];cases e1:n.Wn==0 with
    |true=>rw[hz e1];simp only[Z30,Bool.and_true];simp only[Z7];ac_rfl
    |false=>cases inB n.Wn 0 c.Kh<;>cases decide (n.Sy<0)<;>cases decide (n.Wk<0)<;>cases As2 c n.A6<;>rfl
   |false=>
    simp only[cond_false,Akg,A8q,Z7]
    ac_rfl
 rw[hB];simp only[cond_true,Ady,Akg];unfold Aqe;rw[hc];cases n.Yq != 1<;>simp only[cond_true,cond_false,Akg,Z30]
end
theorem Bds{α β:Type}(l:List α)(q:α->Bool)(fin bad:Option β)(L:Nat->Int->Option β)
  (hs: ∀n (i:Nat) (h:i<l.length),L (n+1) (i:Int)=bif q l[i]then L n ((i+1:Nat):Int)else bad)
  (he: ∀n,L (n+1) (l.length:Int)=fin):
  ∀(n i:Nat),i≤l.length->l.length - i<n->L n (i:Int)=bif (l.drop i).all q then fin else bad:=by
 intro n
 induction n with
 |zero=>intro i _ h;omega
 |succ n ih=>
  intro i hi hn;rcases Ez i l.length with h|h
  ·rw[hs n i h,Z47 h,Fp];cases q l[i]with
   |false=>rfl
   |true=>rw[cond_true,ih (i+1) h (by omega)];rfl
  ·obtain rfl:i=l.length:=by omega
   rw[he,List.drop_length];rfl
theorem Bff{β:Type}{K:Nat}(hK:281474976710656≤K)(N:Nat)(hl:N≤140737488355328)(q:Nat->Bool)(fin bad:Option β)(L:Nat->Int->Option β)
  (hs: ∀n (i:Nat) (h:i<N),L (n+1) (i:Int)=bif q i then L n ((i+1:Nat):Int)else bad)
  (he: ∀n,L (n+1) (N:Int)=fin):L K 0=bif (List.range N).all q then fin else bad:=by
 have:=Bds (List.range N) q fin bad L (fun n i h=>by rw[List.getElem_range];exact hs n i (by simpa using h)) (fun n=>by rw[List.length_range];exact he n) K 0 (Z21 _) (by simp;omega)
 simpa using this
def Azo (t:A7):Prop:=0≤t.fAt∧t.fAt≤200∧0≤t.Ai8∧t.Ai8≤200
theorem A0s{c:D4}{t:A7}(h:Apa c t=true):Azo t∧Av7 c t:=by
 have h1:Av7 c t:=by
  unfold Apa at h;rw[Z4]at h;exact of_decide_eq_true h.1
 have hb:=Azn c;obtain⟨h2,h3,h4,h5⟩:=h1;exact⟨⟨h4,by omega,by omega,by omega⟩,h2,h3,h4,h5⟩
def Amp (a b:A7):Bool:=decide (a.Ai8≤0∨b.Ai8≤0∨a.fAt+a.Ai8≤b.fAt∨b.fAt+b.Ai8≤a.fAt)
theorem Ban (a b:A7):Amp a b=Amp b a:=by
 unfold Amp;rw[decide_eq_decide];omega
theorem Bcb (K:Nat){a b:A7}(ha:Azo a)(hb:Azo b):Ay0 K a b=some (Amp a b):=by
 obtain⟨a1,a2,a3,a4⟩:=ha;obtain⟨b1,b2,b3,b4⟩:=hb;unfold Ay0 Ana;rw[Aa3 (n:=b.fAt - a.fAt) (by omega) (by omega),Aa3 (n:=a.fAt - b.fAt) (by omega) (by omega)]
 simp only[Azl]
 have: ∀x:Bool,x=Amp a b->some x=some (Amp a b):=fun x h=>by rw[h]
 by_cases h:a.fAt≤b.fAt
 ·rw[decide_eq_true h,cond_true,Azl,Azl];refine this _ ?_;rw[Bool.eq_iff_iff];simp only[Amp,Bool.or_eq_true,decide_eq_true_eq];omega
 ·rw[decide_eq_false h,cond_false,Azl,Azl];refine this _ ?_;rw[Bool.eq_iff_iff];simp only[Amp,Bool.or_eq_true,decide_eq_true_eq];omega
theorem A56 (K:Nat){a b:A7}(ha:Azo a)(hb:Azo b):Axe K a b=some (Amp a b):=by
 obtain⟨a1,a2,a3,a4⟩:=ha;obtain⟨b1,b2,b3,b4⟩:=hb;unfold Axe Axd Ana;simp only[IntKind.wrap_u64]
 have: ∀x:Bool,x=Amp a b->some x=some (Amp a b):=fun x h=>by rw[h]
 by_cases h:a.fAt>b.fAt
 ·rw[decide_eq_true h,cond_true,Azl,Azl];refine this _ ?_;rw[Bool.eq_iff_iff];simp only[Amp,Bool.or_eq_true,decide_eq_true_eq];omega
 ·rw[decide_eq_false h,cond_false,Azl,Azl];refine this _ ?_;rw[Bool.eq_iff_iff];simp only[Amp,Bool.or_eq_true,decide_eq_true_eq];omega
def Aok (l:List A7):Bool:=(List.range l.length).all (fun i=>(l.take i).all (fun o=>Amp o (gt l i)))
def Aq2 (c:D4)(chunks:List Int)(t:A7):Bool:=
 Apa c t&&(List.range ((t.fAt+t.Ai8 - 1) / c.Kh - t.fAt / c.Kh+1).toNat).all (fun j=>chunks.contains (t.fAt / c.Kh+(j:Int)))
theorem A7s{c:D4}{t:A7}(h:Apa c t=true):
  c.Kh≠0∧Akr .i64 t.fAt c.Kh=t.fAt / c.Kh∧Akr .i64 (Ana .i64 (Am9 .i64 t.fAt t.Ai8) 1) c.Kh=(t.fAt+t.Ai8 - 1) / c.Kh∧0≤t.fAt / c.Kh∧t.fAt / c.Kh≤(t.fAt+t.Ai8 - 1) / c.Kh∧(t.fAt+t.Ai8 - 1) / c.Kh≤192:=by
 obtain⟨hs,hc,h1,h2,h3⟩:=A0s h
 have hb:=Azn c;obtain⟨b1,b2,_⟩:=Ap hc
 have e1:Ana .i64 (Am9 .i64 t.fAt t.Ai8) 1=t.fAt+t.Ai8 - 1:=by
  unfold Ana Am9;rw[Aa3 (n:=t.fAt+t.Ai8) (by omega) (by omega),Aa3 (by omega) (by omega)]
 have e2: ∀x:Int,0≤x->x≤192->Akr .i64 x c.Kh=x / c.Kh∧0≤x / c.Kh∧x / c.Kh≤192:=by
  intro x h0 hx
  have h3:x / c.Kh≤x:=Int.ediv_le_self _ h0
  have h4:0≤x / c.Kh:=Int.ediv_nonneg h0 (by omega)
  refine⟨?_,h4,by omega⟩
  unfold Akr;rw[Int.tdiv_eq_ediv_of_nonneg h0,Aa3 (by omega) (by omega)]
 obtain⟨x1,x2,x3⟩:=e2 t.fAt h2 (by omega)
 obtain⟨y1,y2,y3⟩:=e2 (t.fAt+t.Ai8 - 1) (by omega) (by omega)
 refine⟨by omega,x1,by rw[e1,y1],x2,Int.ediv_le_ediv (by omega) (by omega),y3⟩
theorem Bpq{a:Int}{j:Nat}(h0:0≤a)(h:a+j≤140737488355328):Am9 .i64 (a+(j:Int)) 1=a+((j+1:Nat):Int):=by
 unfold Am9;rw[Aa3 (by omega) (by omega)];omega
section
variable {K:Nat} (hK:281474976710656≤K)
include hK
theorem A7b (l:List A7)(hl:l.length≤140737488355327)(hs: ∀t∈l,Azo t):Avw K l=some (Aok l):=by
 unfold Avw Aok;rw[Apc hK l.length (by omega) (fun i=>(l.take i).all (fun o=>Amp o (gt l i))) (some true) (fun n i=>Ak3 K l n i) (fun n i h=> ?_) (fun n=> ?_)]
 ·cases (List.range l.length).all _<;>rfl
 ·simp only[Ak3];rw[Agh h,cond_true]
  have hlen:(l.take i).length=i:=by simp;omega
  rw[As6 hK (l.take i) (by omega) (fun o=>Amp o (gt l i)) (Ak3 K l n (Am9 .i64 i 1)) (fun m j=>Aox K l i (Ak3 K l n) m j) (fun m j hj=> ?_) (fun m=> ?_)]
  ·rw[Agd (by omega)]
  ·have hj':j<i:=by omega
   simp only[Aox];rw[Agh hj',cond_true,if_pos (Akh h),if_pos (Akh (show j<l.length by omega)),Bcb K (hs _ (Ao9 h)) (hs _ (Ao9 (show j<l.length by omega))),Z0,Ady,Agd (by omega),Ban,List.getElem_take,Acm (show j<l.length by omega)]
  ·show Aox K l i _ (m+1) _=_;rw[Aox,hlen,Agl (Z9 _),cond_false]
 ·show Ak3 K l (n+1) _=_;rw[Ak3,Agl (Z9 _),cond_false]
theorem A7c (l:List A7)(hl:l.length≤140737488355327)(hs: ∀t∈l,Azo t):Av1 K l=some (Aok l):=by
 unfold Av1 Aok;rw[Apc hK l.length (by omega) (fun i=>(l.take i).all (fun o=>Amp o (gt l i))) (some true) (fun n i=>Aoz K l n l (l.length:Int) i) (fun n i h=> ?_) (fun n=> ?_)]
 ·cases (List.range l.length).all _<;>rfl
 ·simp only[Aoz]
  have hlen:(l.take i).length=i:=by simp;omega
  have hC:Aic K (l.take i) (gt l i)=some ((l.take i).any (fun o=> !Amp o (gt l i))):=
   A2p hK (l.take i) (by omega) (fun t=>Atw K t (gt l i)) (fun o=> !Amp o (gt l i)) (fun x hx=>by
    unfold Atw;rw[A56 K (hs _ (Yv hx)) (hs _ (Ao9 h))];rfl) (Agb K (l.take i) (gt l i)) (fun n N i=>rfl)
  rw[Agh h,cond_true,if_pos (Akh h),if_pos (Bal (by omega)),A4k,hC,Agd (by omega),Z0,List.any_eq_not_all_not,Ady]
  simp only[Bool.not_not]
 ·show Aoz K l (n+1) _ _ _=_;rw[Aoz,Agl (Z9 _),cond_false]
theorem A7d (c:D4)(n:A8)(h1:n.A6.length≤140737488355327)(h2:n.H7.length≤140737488355327):Av0 K c n=some (n.H7.all (Aq2 c n.A6)):=by
 unfold Av0
 have h1t: ∀t,Arn K t c n=some (!Aq2 c n.A6 t):=by
  intro t;unfold Arn Aq2;rw[A3p,Z0,Ady];cases ht:Apa c t with
  |false=>rfl
  |true=>
   obtain⟨d0,d1,d2,d3,d4,d5⟩:=A7s ht;rw[cond_true,if_pos d0,d1]
   have:=Bff hK ((t.fAt+t.Ai8 - 1) / c.Kh - t.fAt / c.Kh+1).toNat (by omega) (fun j=>n.A6.contains (t.fAt / c.Kh+(j:Int))) (some false) (some true) (fun m j=>Ams K t c n m (t.fAt / c.Kh+j)) (fun m j hj=> ?_) (fun m=> ?_)
   ·simp only[Int.add_zero]at this;rw[this];cases (List.range _).all _<;>rfl
   ·simp only[Ams];rw[if_pos d0,d2,decide_eq_true (by omega),cond_true,Az6 hK _ _ (by omega),Z0,Ady,Bpq d3 (by omega)]
   ·show Ams K t c n (m+1) _=_;rw[Ams,if_pos d0,d2,decide_eq_false (by omega),cond_false]
 have hC:Aia K n.H7 c n=some (n.H7.any (fun t=> !Aq2 c n.A6 t)):=
  A2p hK n.H7 (by omega) (fun t=>Arn K t c n) (fun t=> !Aq2 c n.A6 t) (fun x _=>h1t x) (Aex K n.H7 c n) (fun n N i=>rfl)
 rw[hC];simp only[Z0,List.not_any_eq_all_not,Bool.not_not]
theorem A7e (c:D4)(n:A8)(h1:n.A6.length≤140737488355327)(h2:n.H7.length≤140737488355327):Avv K c n=some (n.H7.all (Aq2 c n.A6)):=by
 unfold Avv;rw[As6 hK n.H7 (by omega) (Aq2 c n.A6) (some true) (fun k i=>Akl K c k i n.Yq n.C6 n.Sy n.fUp n.Wk n.Er n.Wl n.Wm n.A6 n.Afu n.Wn n.H7 n.F3) (fun k i h=> ?_) (fun k=> ?_)]
 ·cases n.H7.all _<;>rfl
 ·simp only[Akl];rw[Agh h,cond_true,if_pos (Akh h),Acm h,A3o,Z0,Ady];unfold Aq2;generalize n.H7[i]=t;cases ht:Apa c t with
  |false=>rfl
  |true=>
   obtain⟨d0,d1,d2,d3,d4,d5⟩:=A7s ht;rw[cond_true,if_pos d0,d1,Z30]
   have:=Apc hK ((t.fAt+t.Ai8 - 1) / c.Kh - t.fAt / c.Kh+1).toNat (by omega) (fun j=>n.A6.contains (t.fAt / c.Kh+(j:Int))) (Akl K c k ((i+1:Nat):Int) n.Yq n.C6 n.Sy n.fUp n.Wk n.Er n.Wl n.Wm n.A6 n.Afu n.Wn n.H7 n.F3)
    (fun m j=>Aow K c i n.Yq n.C6 n.Sy n.fUp n.Wk n.Er n.Wl n.Wm n.A6 n.Afu n.Wn n.H7 n.F3 (Akl K c k) m (t.fAt / c.Kh+j) t) (fun m j hj=> ?_) (fun m=> ?_)
   ·simp only[Int.add_zero]at this;exact this
   ·simp only[Aow];rw[if_pos d0,d2,decide_eq_true (by omega),cond_true,Azm hK _ _ (by omega),Z0,Ady,Bpq d3 (by omega)]
   ·show Aow K c i _ _ _ _ _ _ _ _ _ _ _ _ _ _ (m+1) _ _=_;rw[Aow,if_pos d0,d2,decide_eq_false (by omega),cond_false,Agd (by omega)]
 ·show Akl K c (k+1) _ _ _ _ _ _ _ _ _ _ _ _ _ _=_;rw[Akl,Agl (Z9 _),cond_false]
end
def wfi (x:Int):Prop:= -9223372036854775808≤x∧x≤9223372036854775807
def A1y (l:List Int):Prop:=(∀x∈l,wfi x)∧l.length*8≤140737488355327
def Bjs (l:List Int):Prop:=(∀x∈l,0≤x∧x≤255)∧l.length≤140737488355327
def A8r (t:A7):Prop:=wfi t.fAt∧wfi t.Ai8∧wfi t.Ai9
def A8s (l:List A7):Prop:=(∀x∈l,A8r x)∧l.length*24≤140737488355327
structure Asv (n:A8):Prop where
 st:wfi n.Yq
 gen:wfi n.C6
 ep:wfi n.Sy
 up:wfi n.fUp
 upEp:wfi n.Wk
 first:wfi n.Er
 next:wfi n.Wl
 prev:wfi n.Wm
 chunks:A1y n.A6
 cur:wfi n.Afu
 bump:wfi n.Wn
 things:A8s n.H7
 tags:A1y n.F3
def Agf (l:List A8):Prop:=(∀x∈l,Asv x)∧l.length*152≤140737488355327
structure A28 (x:Av):Prop where
 slot:wfi x.Be
 first:wfi x.Er
 tags:A1y x.F3
 chunks:A1y x.A6
 done:wfi x.Wo
def Bnj (l:List Av):Prop:=(∀x∈l,A28 x)∧l.length*72≤140737488355327
structure Bpr (c:D4):Prop where
 chunks:wfi c.A6
 size:wfi c.Kh
 slots:wfi c.Fj
 tax:wfi c.Hb
 slice:wfi c.Fk
 gens:wfi c.Ki
structure Azp (p:Dh):Prop where
 mem:Bjs p.Sk
 st:A1y p.Yq
 own:A1y p.Sl
structure Aoc (w:Ds):Prop where
 c:Bpr w.fC
 p:Azp w.fP
 l:Agf w.fL
 q:Bnj w.fQ
 log:A1y w.Afv
theorem Adv:140737488355328≤maxLen:=by unfold maxLen;omega
theorem A4l{α:Type}(x:Option α):Aer x x=x:=by simp[Aer]
theorem Asw (K:Nat){l:List Int}(h:l.length*8≤140737488355327):Ad0 K l=some l:=by
 have hm:=Adv;unfold Ad0;rw[Yu,if_pos ⟨by omega,by omega⟩]
 cases l with
 |nil=>exact A4l _
 |cons x l=>rfl
theorem Bcc (K:Nat){l:List Int}(h:l.length≤140737488355327):Arw K l=some l:=by
 have hm:=Adv;unfold Arw;rw[Yu,if_pos ⟨by omega,by omega⟩]
 cases l with
 |nil=>exact A4l _
 |cons x l=>rfl
theorem Bao (K:Nat){l:List A7}(h:l.length*24≤140737488355327):Apb K l=some l:=by
 have hm:=Adv;unfold Apb;rw[Yu,if_pos ⟨by omega,by omega⟩]
 cases l with
 |nil=>exact A4l _
 |cons x l=>rfl
theorem Bdt{α:Type}(N:Nat)(q:Nat->Bool)(g:Nat->α)(L:Nat->List α->Int->Option (List α))
  (hs: ∀n v (i:Nat),i<N->v.length≤i->L (n+1) v (i:Int)=bif q i then L n (v++[g i]) ((i+1:Nat):Int)else L n v ((i+1:Nat):Int))
  (he: ∀n v,L (n+1) v (N:Int)=some v):
  ∀(n i:Nat) (v:List α),i≤N->v.length≤i->N - i<n->L n v (i:Int)=some (v++(((List.range N).drop i).filter q).map g):=by
 intro n
 induction n with
 |zero=>intro i v _ _ h;omega
 |succ n ih=>
  intro i v hi hv hn;rcases Ez i N with h|h
  ·rw[hs n v i h hv,Z47 (by simpa using h),List.getElem_range,List.filter_cons]
   cases hq:q i with
   |true=>
    rw[cond_true,ih (i+1) _ h (by simp;omega) (by omega)]
    simp
   |false=>
    rw[cond_false,ih (i+1) _ h (by omega) (by omega)]
    simp
  ·obtain rfl:i=N:=by omega
   rw[he,Z48 (by simp)];simp
def Asx (p:Dh)(k:Int):List Int:=((List.range (min p.Yq.length p.Sl.length)).filter (fun i:Nat=>gt p.Yq i==1&&gt p.Sl i==k)).map (fun i:Nat=>(i:Int))
theorem Bcd (p:Dh)(k:Int):(Asx p k).length≤min p.Yq.length p.Sl.length:=by
 unfold Asx;rw[Bn];exact Su (List.length_filter_le _ _) (by simp)
theorem A0l (p:Dh)(k:Int):(Asx p k).Pairwise (fun a b=>a<b):=by
 unfold Asx;rw[List.pairwise_map];exact(List.Pairwise.filter _ List.pairwise_lt_range).imp fun h=>by omega
theorem A42{l:List Int}: ∀ {o:List Int},o.Nodup->(∀x∈o,x∈l)->o.length=l.length->o.Perm l:=by
 intro o
 induction o generalizing l with
 |nil=>intro _ _ h;cases l with
  |nil=>exact .nil
  |cons _ _=>simp at h
 |cons x o ih=>
  intro hn hs hl
  have hx:x∈l:=hs x (by simp)
  rw[List.nodup_cons]at hn
  have h2:o.Perm (l.erase x):=ih hn.2 (fun y hy=>by
   have hne:y≠x:=fun e=>hn.1 (e ▸ hy);exact(List.mem_erase_of_ne hne).2 (hs y (by simp[hy]))) (by rw[List.length_erase_of_mem hx];simp at hl;omega)
  exact(List.Perm.cons x h2).trans (List.perm_cons_erase hx).symm
def Az8 (p:Dh)(k:Int)(l:List Int):Bool:=(Asx p k).all (fun x=>l.contains x)&&((Asx p k).length:Int)==(l.length:Int)
theorem Bnk (p:Dh)(k:Int)(l:List Int):decide (l.mergeSort (fun x y=>decide (x≤y))=Asx p k)=Az8 p k l:=by
 rw[Bool.eq_iff_iff];unfold Az8;simp only[decide_eq_true_eq,Z4,Z1,List.contains_iff_mem,beq_iff_eq]
 have hp:=List.mergeSort_perm l (fun x y=>decide (x≤y));constructor
 ·intro e;rw[e]at hp;exact⟨fun x hx=>hp.mem_iff.1 hx,by have:=hp.length_eq;omega⟩
 ·rintro⟨h1,h2⟩
  have hn:(Asx p k).Nodup:=(A0l p k).imp fun h=>by omega
  have h3:=A42 hn h1 (by omega)
  refine List.Perm.eq_of_pairwise (le:=fun a b=>a≤b) (fun a b _ _ h1 h2=>by omega) ?_ ((A0l p k).imp fun h=>by omega) (hp.trans h3.symm)
  have:=List.pairwise_mergeSort (le:=fun x y:Int=>decide (x≤y)) (fun a b c h1 h2=>by simp at *;omega) (fun a b=>by simp;omega) l
  exact this.imp fun h=>by simpa using h
theorem Bfg{a b:List Int}(h:a.length=b.length):(List.range a.length).all (fun i=>gt a i==gt b i)=decide (a=b):=by
 rw[Bool.eq_iff_iff];simp only[Z1,List.mem_range,beq_iff_eq,decide_eq_true_eq];constructor
 ·intro h1;refine List.ext_getElem h fun i h2 h3=> ?_
  have:=h1 i h2
  rwa[Acm h2,Acm h3]at this
 ·rintro rfl _ _;rfl
section
variable {K:Nat} (hK:281474976710656≤K)
include hK
theorem Bfh (a b:List Int)(ha:a.length≤140737488355327):Aj7 K a b=some (decide (a=b)):=by
 unfold Aj7
 by_cases h:a.length=b.length
 ·rw[show((a.length:Int) != (b.length:Int))=false by simp[h],cond_false,←Bfg h]
  rw[Apc hK a.length (by omega) (fun i=>gt a i==gt b i) (some true) (fun n i=>Aj6 K a b n (a.length:Int) i) (fun n i hi=> ?_) (fun n=> ?_)]
  ·cases (List.range a.length).all _<;>rfl
  ·simp only[Aj6];rw[Agh hi,cond_true,if_pos (Akh hi),if_pos (Akh (show i<b.length by omega)),Agd (by omega),bne,Ady]
  ·show Aj6 K a b (n+1) _ _=_;rw[Aj6,Agl (Z9 _),cond_false]
 ·rw[Aqd (by omega),cond_true,decide_eq_false (fun e=>h (by rw[e]))]
theorem A3s (p:Dh)(k:Int)(h1:p.Yq.length*8≤140737488355327):At3 K p k=some (Asx p k):=by
 have hm:=Adv;unfold At3
 have:=Bdt (min p.Yq.length p.Sl.length) (fun i:Nat=>gt p.Yq i==1&&gt p.Sl i==k) (fun i:Nat=>(i:Int)) (fun n v i=>Amm K k n v i p.Sk p.Yq p.Sl) (fun n v i hi hv=> ?_) (fun n v=> ?_) K 0 [] (Z21 _) (Z9 _) (by omega)
 ·simpa[Asx]using this
 ·have h2:(v++([(i:Int)]:List Int)).length=v.length+1:=by simp
  simp only[Amm,Ar7];rw[Agh (by omega),Agh (by omega),cond_true,cond_true,if_pos (Akh (by omega)),if_pos (Akh (by omega)),Agd (by omega),if_pos ⟨by rw[h2];omega,by rw[h2];omega⟩]
  cases gt p.Yq (i:Int)==1<;>cases gt p.Sl (i:Int)==k<;>rfl
 ·show Amm K k (n+1) v _ _ _ _=_;rw[Amm];rcases Nat.le_total p.Yq.length p.Sl.length with h|h
  ·rw[Nat.min_eq_left h,Agl (Z9 _),cond_false]
  ·rw[Nat.min_eq_right h,Agl (Z9 p.Sl.length),cond_false,cc]
theorem A8t (p:Dh)(k:Int)(h1:p.Yq.length*8≤140737488355327):Axc K p k=some (Asx p k):=by
 have hm:=Adv;unfold Axc
 have e:Zp (p.Yq.length:Int) (p.Sl.length:Int)=((min p.Yq.length p.Sl.length:Nat):Int):=by unfold Zp;split<;>omega
 rw[e]
 have:=Bdt (min p.Yq.length p.Sl.length) (fun i:Nat=>gt p.Yq i==1&&gt p.Sl i==k) (fun i:Nat=>(i:Int)) (fun n v i=>Amo K k n v ((min p.Yq.length p.Sl.length:Nat):Int) i p.Sk p.Yq p.Sl) (fun n v i hi hv=> ?_) (fun n v=> ?_) K 0 [] (Z21 _) (Z9 _) (by omega)
 ·simpa[Asx]using this
 ·have h2:(v++([(i:Int)]:List Int)).length=v.length+1:=by simp
  simp only[Amo,Asm];rw[Agh hi,cond_true,if_pos (Akh (by omega)),if_pos (Akh (by omega)),Agd (by omega),if_pos ⟨by rw[h2];omega,by rw[h2];omega⟩]
  cases gt p.Yq (i:Int)==1<;>cases gt p.Sl (i:Int)==k<;>rfl
 ·show Amo K k (n+1) v _ _ _ _ _=_;rw[Amo,Agl (Z9 _),cond_false]
theorem A57 (w:Ds)(k:Nat)(hk:k<w.fL.length)(h1:w.fP.Yq.length*8≤140737488355327)(h2:(gt w.fL k).A6.length≤140737488355327):Aut K w k=some (Az8 w.fP k (gt w.fL k).A6):=by
 unfold Aut;rw[A3s hK _ _ h1,Z0]
 have hl:=Bcd w.fP k;rw[As6 hK (Asx w.fP k) (by omega) (fun x=>(gt w.fL k).A6.contains x) (some (((Asx w.fP k).length:Int)==((gt w.fL k).A6.length:Int))) (fun n i=>An3 K k (Asx w.fP k) n i w.fC.A6 w.fC.Kh w.fC.Fj w.fC.Hb w.fC.Fk w.fC.Ki w.fP.Sk w.fP.Yq w.fP.Sl w.fL w.fQ w.Afv) (fun n i hi=> ?_) (fun n=> ?_)]
 ·rw[Akg];rfl
 ·simp only[An3];rw[Agh hi,cond_true,if_pos (Akh hk),if_pos (Akh hi),Azm hK _ _ (by omega),Z0,Ady,Agd (by omega),Acm hi]
 ·show An3 K k (Asx w.fP k) (n+1) _ _ _ _ _ _ _ _ _ _ _ _ _=_;rw[An3,Agl (Z9 _),cond_false,if_pos (Akh hk)]
end
def Atz (c:D4)(n:A8):A7:=A7.mk ((n.Afu - 1)*c.Kh+n.Wn) (c.Kh - n.Wn) 0
def Aq3 (c:D4)(mem:List Int)(n:A8):Bool:=
 n.Afu==0||(Apd ((mem.drop (Atz c n).fAt.toNat).take (Atz c n).Ai8.toNat)&&n.H7.all (fun t=>Amp t (Atz c n)))
theorem Bfi{c:D4}{n:A8}(h:Aqe c n=true)(h1:n.Yq=1):Ak5 c=true∧A55 c n=true:=by
 unfold Aqe at h;simp only[Z4]at h;refine⟨h.1,?_⟩
 have:=h.2.2.2;rw[h1]at this;exact this
theorem A7t{c:D4}{n:A8}(h:Aqe c n=true)(h1:n.Yq≠1):A3q n=true:=by
 unfold Aqe at h;simp only[Z4]at h
 have:=h.2.2.2;rw[Aqd h1]at this;exact this
theorem Bsv{c:D4}{n:A8}(hw:Asv n)(h:Aqe c n=true)(h1:n.Afu≠0):n.Yq=1∧1≤n.Afu∧n.Afu≤c.A6∧0≤n.Wn∧n.Wn≤c.Kh:=by
 by_cases h2:n.Yq=1
 ·refine⟨h2,?_⟩;obtain⟨hc,hl⟩:=Bfi h h2;obtain⟨b1,_⟩:=Ap hc;unfold A55 at hl;simp only[Z4]at hl
  have hd:=hl.2.2.1.1
  have hcu:=hl.2.2.1.2;unfold A3r at hcu;rw[Ail h1,cond_false,Z4,List.contains_iff_mem,Age]at hcu;obtain⟨i,hi,e⟩:=List.mem_iff_getElem.1 hcu.1;unfold As2 at hd;rw[Z1]at hd
  have:=hd i (by simpa using hi)
  rw[Z4,Acm hi,e,Age]at this
  have h3:=this.1;obtain⟨w1,w2⟩:=hw.cur;unfold Ana at h3;rw[IntKind.wrap_i64]at h3;refine⟨by omega,by omega,hcu.2.1,hcu.2.2⟩
 ·have:=A7t h h2;unfold A3q at this;simp only[Z4,beq_iff_eq]at this;exact absurd this.2.2.2.2.2.2.2.1 h1
theorem Bdu{c:D4}{p:Dh}{n:A8}(hp:Aty c p=true)(hw:Asv n)(h:Aqe c n=true)(h1:n.Afu≠0):
  Am9 .i64 (Anb .i64 (Ana .i64 n.Afu 1) c.Kh) n.Wn=(Atz c n).fAt∧Ana .i64 c.Kh n.Wn=(Atz c n).Ai8∧Anb .i64 n.Afu c.Kh=(Atz c n).fAt+(Atz c n).Ai8∧Azo (Atz c n)∧(Atz c n).fAt+(Atz c n).Ai8≤(p.Sk.length:Int):=by
 obtain⟨h2,c1,c2,c3,c4⟩:=Bsv hw h h1;obtain⟨hc,hm,_⟩:=Asu hp;obtain⟨b1,b2,_⟩:=Ap hc
 have m1:=Auy (a:=n.Afu - 1) (b:=c.Kh) (m:=11) (n:=16) (by omega) (by omega) (by omega) b2.2
 have e2:n.Afu*c.Kh=(n.Afu - 1)*c.Kh+c.Kh:=by rw[Int.sub_mul,Int.one_mul];omega
 have m2:n.Afu*c.Kh≤c.A6*c.Kh:=Int.mul_le_mul_of_nonneg_right (by omega) (by omega)
 unfold Atz Azo Am9 Ana Anb;simp only;rw[Aa3 (n:=n.Afu - 1) (by omega) (by omega),Aa3 (n:=(n.Afu - 1)*c.Kh) (by omega) (by omega),Aa3 (n:=(n.Afu - 1)*c.Kh+n.Wn) (by omega) (by omega),Aa3 (n:=c.Kh - n.Wn) (by omega) (by omega),Aa3 (n:=n.Afu*c.Kh) (by omega) (by omega)]
 refine⟨rfl,rfl,by omega,⟨by omega,by omega,by omega,by omega⟩,by omega⟩
theorem A58{c:D4}{l:List A7}{ch:List Int}(h:l.all (Aq2 c ch)=true): ∀t∈l,Azo t∧1≤t.Ai8:=by
 intro t ht;rw[Z1]at h
 have:=h t ht;unfold Aq2 at this;rw[Z4]at this;obtain⟨h1,h2⟩:=A0s this.1;exact⟨h1,h2.2.1⟩
def A43 (w:Ds)(k:Nat):Bool:=
 Aqe w.fC (gt w.fL k)&&(Az8 w.fP k (gt w.fL k).A6&&((gt w.fL k).H7.all (Aq2 w.fC (gt w.fL k).A6)&&(Aok (gt w.fL k).H7&&Aq3 w.fC w.fP.Sk (gt w.fL k))))
section
variable {K:Nat} (hK:281474976710656≤K)
include hK
theorem A1a{l:List Int}(h:A1y l):l.length≤140737488355327:=by have:=h.2;omega
theorem Bdv{l:List A7}(h:A8s l):l.length≤140737488355327:=by have:=h.2;omega
theorem Bce (w:Ds)(k:Nat)(hk:k<w.fL.length)(hp:Aty w.fC w.fP=true)(hw:Asv (gt w.fL k))(hn:Aqe w.fC (gt w.fL k)=true)(hs: ∀t∈(gt w.fL k).H7,Azo t∧1≤t.Ai8):Avx K w k=some (Aq3 w.fC w.fP.Sk (gt w.fL k)):=by
 unfold Avx;rw[if_pos (Akh hk)];unfold Aq3
 by_cases h1:(gt w.fL k).Afu=0
 ·rw[h1];rfl
 ·rw[Ail h1,cond_false];obtain⟨e1,e2,e3,⟨s1,s2,s3,s4⟩,s5⟩:=Bdu hp hw hn h1;rw[e1,e3];generalize hr:Atz w.fC (gt w.fL k)=r at *;rcases (show r.Ai8=0∨1≤r.Ai8 by omega)with h2|h2
  ·rw[decide_eq_true (show r.fAt≥r.fAt+r.Ai8 by omega),cond_true,h2]
   have:(gt w.fL k).H7.all (fun t=>Amp t r)=true:=by
    rw[Z1];intro t _;exact decide_eq_true (.inr (.inl (by omega)))
   rw[this];simp[Apd]
  ·rw[decide_eq_false (show ¬r.fAt≥r.fAt+r.Ai8 by omega),cond_false]
   have hlt:=Bdv hK hw.things
   have hz:List.take (r.fAt+r.Ai8 - r.fAt).toNat (List.drop r.fAt.toNat w.fP.Sk)=List.take r.Ai8.toNat (List.drop r.fAt.toNat w.fP.Sk):=by rw[show r.fAt+r.Ai8 - r.fAt=r.Ai8 by omega]
   rw[As6 hK (gt w.fL k).H7 (by omega) (fun t=>Amp t r) (some (Apd (List.take r.Ai8.toNat (List.drop r.fAt.toNat w.fP.Sk)))) (fun m i=>Am1 K m r.fAt (r.fAt+r.Ai8) i (gt w.fL k).Yq (gt w.fL k).C6 (gt w.fL k).Sy (gt w.fL k).fUp (gt w.fL k).Wk (gt w.fL k).Er (gt w.fL k).Wl (gt w.fL k).Wm (gt w.fL k).A6 (gt w.fL k).Afu (gt w.fL k).Wn (gt w.fL k).H7 (gt w.fL k).F3 w.fC.A6 w.fC.Kh w.fC.Fj w.fC.Hb w.fC.Fk w.fC.Ki w.fP.Sk w.fP.Yq w.fP.Sl w.fL w.fQ w.Afv) (fun m i hi=> ?_) (fun m=> ?_)]
   ·rw[Akg,Bool.and_comm];rfl
   ·simp only[Am1,Att];obtain⟨⟨t1,t2,t3,t4⟩,t5⟩:=hs _ (Ao9 hi);rw[Agh hi,cond_true,if_pos (Akh hi),Agd (by omega),←Acm hi]
    generalize gt (gt w.fL k).H7 i=t at *;unfold Am9;rw[Aa3 (n:=t.fAt+t.Ai8) (by omega) (by omega)]
    unfold Amp
    by_cases g1:t.fAt<r.fAt+r.Ai8
    ·by_cases g2:t.fAt+t.Ai8>r.fAt
     ·rw[decide_eq_true g1,decide_eq_true g2,decide_eq_false (by omega)];rfl
     ·rw[decide_eq_true g1,decide_eq_false g2,decide_eq_true (by omega)];rfl
    ·rw[decide_eq_false g1,decide_eq_true (show t.Ai8≤0∨r.Ai8≤0∨t.fAt+t.Ai8≤r.fAt∨r.fAt+r.Ai8≤t.fAt by omega)];rfl
   ·show Am1 K (m+1) _ _ _ _ _ _ _ _ _ _ _ _ _ _ _ _ _ _ _ _ _ _ _ _ _ _ _ _=_;rw[Am1,Agl (Z9 _),cond_false,if_pos ⟨s1,by omega,s5⟩,Az7 hK _ (by simp;omega),hz,Z0]
theorem Bjt (l:List Int)(h:A1y l):D6 K l=some (l.mergeSort fun x y=>decide (x≤y)):=by
 have:=h.2;unfold D6;rw[if_pos (by omega)]
theorem A8u (w:Ds)(hw:Aoc w)(hp:Aty w.fC w.fP=true):Aro K w=some ((List.range w.fL.length).all (A43 w)):=by
 unfold Aro
 have hlL:=hw.l.2;rw[Apc hK w.fL.length (by omega) (A43 w) (some true) (fun m i=>Aie K m w.fL (w.fL.length:Int) i w.fC.A6 w.fC.Kh w.fC.Fj w.fC.Hb w.fC.Fk w.fC.Ki w.fP.Sk w.fP.Yq w.fP.Sl w.fL w.fQ w.Afv) (fun m k hk=> ?_) (fun m=> ?_)]
 ·cases (List.range w.fL.length).all _<;>rfl
 ·simp only[Aie,Ap4];rw[show D4.mk w.fC.A6 w.fC.Kh w.fC.Fj w.fC.Hb w.fC.Fk w.fC.Ki=w.fC from rfl,show Dh.mk w.fP.Sk w.fP.Yq w.fP.Sl=w.fP from rfl]
  have hn:=hw.l.1 _ (Ao9 hk);unfold A43;generalize hN:gt w.fL k=n at*
  have l1:=A1a hK hn.chunks
  have l2:=Bdv hK hn.things
  have l3:=A1a hK hn.tags;rw[Agh hk,cond_true,if_pos (Akh hk),Asw K hn.chunks.2,Z0,Bjt hK _ hn.chunks,Z0,if_pos (List.length_mergeSort _),Bam hK _ _ l1 l2 l3,Z0,A8t hK _ _ hw.p.st.2,Agd (by omega)]
  simp only[Z0];rw[Bfh hK _ _ (by rw[List.length_mergeSort];exact l1),Bnk,A7d hK _ _ l1 l2]
  simp only[Z0];cases hb:Aqe w.fC n with
  |false=>rfl
  |true=>
  cases Az8 w.fP k n.A6 with
  |false=>rfl
  |true=>
  cases hi:n.H7.all (Aq2 w.fC n.A6)with
  |false=>rfl
  |true=>
  have hs:=A58 hi;rw[A7c hK _ l2 (fun t ht=>(hs t ht).1)];simp only[Z0,cond_true,Ady,Z30];cases Aok n.H7 with
  |false=>rfl
  |true=>
  simp only[cond_true,Z30];unfold Aq3
  by_cases h1:n.Afu=0
  ·rw[h1];rfl
  ·rw[Ail h1,cond_false,Z52];obtain⟨e1,e2,e3,s,s5⟩:=Bdu hp hn hb h1
   have hmk:A7.mk (Atz w.fC n).fAt (Atz w.fC n).Ai8 0=Atz w.fC n:=rfl;rw[e1,e2];simp only[hmk];generalize hr:Atz w.fC n=r at *;obtain⟨s1,s2,s3,s4⟩:=s
   have e4:Am9 .i64 r.fAt r.Ai8=r.fAt+r.Ai8:=by unfold Am9;rw[Aa3 (by omega) (by omega)]
   have hC:Agq K n.H7 r=some (n.H7.any (fun t=> !Amp t r)):=
    A2p hK n.H7 (by omega) (fun t=>Ap3 K t r) (fun t=> !Amp t r) (fun x hx=>by
     unfold Ap3;rw[A56 K (hs _ hx).1 ⟨s1,s2,s3,s4⟩];rfl) (Adz K n.H7 r) (fun n N i=>rfl)
   rw[e4,if_pos ⟨s1,by omega,s5⟩,show r.fAt+r.Ai8 - r.fAt=r.Ai8 by omega,A1x hK _ (by simp;omega),hC,List.any_eq_not_all_not]
   simp only[Z0,Bool.not_not];cases Apd (List.take r.Ai8.toNat (List.drop r.fAt.toNat w.fP.Sk))<;>cases n.H7.all (fun t=>Amp t r)<;>rfl
 ·show Aie K (m+1) _ _ _ _ _ _ _ _ _ _ _ _ _ _ _=_;rw[Aie,Agl (Z9 _),cond_false]
end
section
variable {K:Nat} (hK:281474976710656≤K)
theorem Aen{l:List A8}(w:Agf l):l.length≤140737488355327:=by have:=w.2;omega
theorem Azq (K:Nat){α:Type}{l:List α}(hl:l.length≤140737488355327)(k:Int):K0 K k 0 (Ana .i64 (l.length:Int) 1)=some (decide (0≤k∧k<(l.length:Int))):=by
 unfold K0 Ana;rw[Aa3 (by omega) (by omega)]
 by_cases h:(0:Int)≤k
 ·rw[decide_eq_true (show k≥0 from h)]
  simp only[cond_true,Z7,decide_eq_decide];omega
 ·rw[decide_eq_false (show ¬k≥0 from h)]
  simp only[cond_false,Z7];exact(decide_eq_false (by omega)).symm
theorem Bfj (K:Nat){α:Type}{l:List α}(hl:l.length≤140737488355327)(k:Int):Adu K k 0 (Ana .i64 (l.length:Int) 1)=some (decide (0≤k∧k<(l.length:Int))):=Azq K hl k
theorem Awl (K:Nat){l:List A8}(hl:l.length≤140737488355327)(k:Int):Ag9 K l k=some (decide (0≤k∧k<(l.length:Int))):=by
 unfold Ag9;rw[Bfj K hl];rfl
theorem Awe (K:Nat)(l:List A8)(k:Int):Agg K l k=some (decide (1≤k∧k≤(l.length:Int))):=by
 unfold Agg
 by_cases h:(1:Int)≤k
 ·rw[decide_eq_true (show k≥1 from h)]
  simp only[cond_true,Z7,decide_eq_decide];omega
 ·rw[decide_eq_false (show ¬k≥1 from h)]
  simp only[cond_false,Z7];exact(decide_eq_false (by omega)).symm
def Ap6 (l:List A8)(h:Bo):Int:=if(0≤h.Be∧h.Be<(l.length:Int))∧(gt l h.Be).Yq=1∧(gt l h.Be).C6=h.C6 then h.Be else -1
theorem A1b (K:Nat){l:List A8}(hl:l.length≤140737488355327)(h:Bo):Ar6 K l h=some (Ap6 l h):=by
 unfold Ar6 Ap6;rw[Azq K hl];simp only[Z0]
 by_cases hs:0≤h.Be∧h.Be<(l.length:Int)
 ·rw[decide_eq_true hs];simp only[cond_true,if_pos hs]
  by_cases h1:(gt l h.Be).Yq=1
  ·by_cases h2:(gt l h.Be).C6=h.C6
   ·rw[if_pos ⟨hs,h1,h2⟩];simp[h1,h2]
   ·rw[if_neg (fun h=>h2 h.2.2),Aqd h2];simp[h1]
  ·rw[if_neg (fun h=>h1 h.2.1),Aqd h1];rfl
 ·rw[decide_eq_false hs];simp only[cond_false];rw[if_neg (fun h=>hs h.1)]
theorem A3t (K:Nat){l:List A8}(hl:l.length≤140737488355327)(h:Bo):Auf K l h=some (Ap6 l h):=by
 rw[←A1b K hl];unfold Ar6 Auf;rw[Azq K hl,Awl K hl]
theorem A4m{l:List A8}{h:Bo}(h0: ¬Ap6 l h<0):0≤Ap6 l h∧Ap6 l h<(l.length:Int):=by
 unfold Ap6 at *;split at h0
 ·rename_i h1;rw[if_pos h1];exact h1.1
 ·omega
def Aes (l:List A8):Nat->Int->List Int
 |0,_=>[]
 |n+1,k=>if 0≤k∧k<(l.length:Int)then k::Aes l n (Ana .i64 (gt l k).fUp 1)else []
theorem A8v{l:List A8}: ∀(n:Nat) (k:Int),∀x∈Aes l n k,0≤x∧x<(l.length:Int):=by
 intro n
 induction n with
 |zero=>intro k x hx;cases hx
 |succ n ih=>
  intro k x hx;unfold Aes at hx;split at hx
  ·rename_i h;rcases C9.1 hx with rfl|hx
   ·exact h
   ·exact ih _ x hx
  ·cases hx
theorem A3u{l:List A8}: ∀(n:Nat) (k:Int),(Aes l n k).length≤n:=by
 intro n
 induction n with
 |zero=>intro k;exact Z9 _
 |succ n ih=>
  intro k;unfold Aes;split
  ·simp only[Ws];have:=ih (Ana .i64 (gt l k).fUp 1);omega
  ·exact Z21 _
def Bcf (l:List A8):List Int->Prop
 |x::y::r=>Ana .i64 (gt l x).fUp 1=y∧Bcf l (y::r)
 |_=>True
theorem Bcg{l:List A8}: ∀(n:Nat) (k:Int),Bcf l (Aes l n k):=by
 intro n
 induction n with
 |zero=>intro k;trivial
 |succ n ih=>
  intro k;unfold Aes;split
  ·have h1:=ih (Ana .i64 (gt l k).fUp 1);cases n with
   |zero=>trivial
   |succ n=>
    rw[Aes]at h1 ⊢;split at h1
    ·rename_i h2;rw[if_pos h2];exact⟨rfl,h1⟩
    ·rename_i h2;rw[if_neg h2];trivial
  ·trivial
theorem Bfk{l:List A8}(w:Agf l): ∀(n:Nat) (k:Int) (v:List Int),-9223372036854775808≤k∧k≤9223372036854775807->v.length≤l.length->l.length - v.length<n->Au2 K l n k v=some (v++Aes l (l.length - v.length) k):=by
 have hb:l.length*152≤140737488355327:=w.2;intro n
 induction n with
 |zero=>intro k v _ _ h;omega
 |succ n ih=>
  intro k v hk hv hn;rw[Au2,Awe];simp only[Z0]
  have e:decide (1≤Am9 .i64 k 1∧Am9 .i64 k 1≤(l.length:Int))=decide (0≤k∧k<(l.length:Int)):=by
   rw[decide_eq_decide];unfold Am9;rw[IntKind.wrap_i64];omega
  rw[e]
  by_cases hs:0≤k∧k<(l.length:Int)
  ·rw[decide_eq_true hs];simp only[cond_true];rcases Ez v.length l.length with h|h
   ·rw[Agh h];simp only[cond_true]
    have hl2:(v++[k]).length=v.length+1:=by simp
    rw[if_pos ⟨by rw[hl2];omega,by rw[hl2];unfold maxLen;omega⟩,if_pos hs,ih (Ana .i64 (gt l k).fUp 1) _ (Bjq _) (by rw[hl2];omega) (by rw[hl2];omega),hl2]
    obtain⟨m,hm⟩: ∃m,l.length - v.length=m+1:=⟨l.length - v.length - 1,by omega⟩
    rw[hm,Aes,if_pos hs,show l.length - (v.length+1)=m from by omega]
    simp
   ·rw[Agl h];rw[show l.length - v.length=0 from by omega]
    simp[Aes]
  ·rw[decide_eq_false hs]
   have:Aes l (l.length - v.length) k=[]:=by
    cases l.length - v.length with
    |zero=>rfl
    |succ m=>rw[Aes,if_neg hs]
   rw[this];simp
theorem Bfl{l:List A8}(w:Agf l): ∀(n:Nat) (k:Int) (v:List Int),v.length≤l.length->l.length - v.length<n->Avb K l n k v=some (v++Aes l (l.length - v.length) k):=by
 have hb:l.length*152≤140737488355327:=w.2;intro n
 induction n with
 |zero=>intro k v _ h;omega
 |succ n ih=>
  intro k v hv hn;rw[Avb,Awl K (by omega)]
  simp only[Z0]
  by_cases hs:0≤k∧k<(l.length:Int)
  ·rw[decide_eq_true hs];simp only[cond_true];rcases Ez v.length l.length with h|h
   ·rw[Agh h];simp only[cond_true]
    have hl2:(v++[k]).length=v.length+1:=by simp
    rw[if_pos ⟨by rw[hl2];omega,by rw[hl2];unfold maxLen;omega⟩,if_pos hs,ih _ _ (by rw[hl2];omega) (by rw[hl2];omega),hl2]
    obtain⟨m,hm⟩: ∃m,l.length - v.length=m+1:=⟨l.length - v.length - 1,by omega⟩
    rw[hm,Aes,if_pos hs,show l.length - (v.length+1)=m from by omega]
    simp
   ·rw[Agl h];rw[show l.length - v.length=0 from by omega]
    simp[Aes]
  ·rw[decide_eq_false hs]
   have:Aes l (l.length - v.length) k=[]:=by
    cases l.length - v.length with
    |zero=>rfl
    |succ m=>rw[Aes,if_neg hs]
   rw[this];simp
include hK in
theorem A1c{l:List A8}(w:Agf l)(k:Int)(hk: -9223372036854775808≤k∧k≤9223372036854775807):Awi K l k=some (Aes l l.length k):=by
 have hb:=Aen w;unfold Awi
 have:=Bfk (K:=K) w K k [] hk (Z21 _) (by simp;omega)
 simpa using this
include hK in
theorem A1d{l:List A8}(w:Agf l)(k:Int):Aud K l k=some (Aes l l.length k):=by
 have hb:=Aen w;unfold Aud
 have:=Bfl (K:=K) w K k [] (Z21 _) (by simp;omega)
 simpa using this
def Aru (l:List A8):List Int->Bool
 |[]=>true
 |[x]=>(gt l x).Yq==1
 |x::y::r=>((gt l x).Yq==1)&&((gt l x).Wk==(gt l y).Sy)&&Aru l (y::r)
def Awf (l:List A8)(way:List Int):Bool:=if 0<way.length then(gt l (gt way ((way.length - 1:Nat):Int))).fUp==0 else false
theorem Bap{l:List A8}{way:List Int}(hin: ∀x∈way,0≤x∧x<(l.length:Int))(hlen:way.length≤140737488355327):
  (bif (decide ((way.length:Int)>0))then(if(0:Int)≤(Ana .i64 (way.length:Int) 1)∧(Ana .i64 (way.length:Int) 1)<(way.length:Int)then(if(0:Int)≤(gt way (Ana .i64 (way.length:Int) 1))∧(gt way (Ana .i64 (way.length:Int) 1))<(l.length:Int)then some (((gt l (gt way (Ana .i64 (way.length:Int) 1))).fUp)==0)else none)else none)else some false)=some (Awf l way):=by
 unfold Awf;rcases Li way.length with h|h
 ·rw[decide_eq_false (show ¬(way.length:Int)>0 by omega)]
  simp only[cond_false];rw[if_neg (show ¬0<way.length by omega)]
 ·rw[if_pos h,decide_eq_true (by omega)]
  simp only[cond_true]
  have e:Ana .i64 (way.length:Int) 1=((way.length - 1:Nat):Int):=by unfold Ana;rw[Aa3 (by omega) (by omega)];omega
  rw[e,if_pos ⟨by omega,by omega⟩,if_pos (hin _ (Ao9 (by omega)))]
theorem Axj{way:List Int}{i:Nat}(h:i<way.length):way.drop i=way[i]::way.drop (i+1):=by
 rw[Z47 h]
theorem Bch{l:List A8}{way:List Int}(hin: ∀x∈way,0≤x∧x<(l.length:Int))(hlen:way.length≤140737488355327): ∀(n i:Nat),i≤way.length->way.length - i<n->Asi K l way n way (way.length:Int) (i:Int)=some (Aru l (way.drop i)&&Awf l way):=by
 intro n
 induction n with
 |zero=>intro i _ h;omega
 |succ n ih=>
  intro i hi hn;rw[Asi];unfold Aw9;rcases Ez i way.length with h|h
  ·rw[Agh h];simp only[cond_true];rw[if_pos ⟨by omega,by omega⟩,if_pos (hin _ (Ao9 h)),Axj h,Agd (by omega),←Acm h]
   rcases Ez (i+1) way.length with h2|h2
   ·rw[Agh h2,Axj h2,←Acm h2];simp only[cond_true];rw[if_pos (hin _ (Ao9 h)),if_pos ⟨by omega,by omega⟩,if_pos (hin _ (Ao9 h2)),ih (i+1) h (by omega),Axj h2,←Acm h2,Aru]
    generalize gt way ((i+1:Nat):Int)=y;generalize gt way (i:Int)=x
    by_cases c1:(gt l x).Yq=1
    ·by_cases c2:(gt l x).Wk=(gt l y).Sy
     ·simp[c1,c2]
     ·rw[Aqd c2,Ail c2];simp[c1]
    ·rw[Aqd c1,Ail c1];simp
   ·rw[Agl h2,ih (i+1) h (by omega),show way.drop (i+1)=[] from Z48 h2]
    simp only[cond_false,Aru]
    by_cases c1:(gt l (gt way (i:Int))).Yq=1
    ·simp[c1]
    ·rw[Aqd c1,Ail c1];simp
  ·rw[Agl h,show way.drop i=[] from Z48 h]
   simp only[cond_false,Aru,Z30];exact Bap hin hlen
theorem Bnl{l:List A8}(w:Agf l){x y:Int}(hx:0≤x∧x<(l.length:Int))(hy:0≤y∧y<(l.length:Int))(h:Ana .i64 (gt l x).fUp 1=y):Arg K l x=some (((gt l y).Yq==1)&&((gt l y).Sy==(gt l x).Wk)):=by
 have hl:=Aen w;unfold Arg;rw[if_pos hx,Awe];simp only[Z0];obtain⟨hr1,hr2⟩:=(w.1 _ (Ank hx.1 hx.2)).up
 have hp:1≤(gt l x).fUp∧(gt l x).fUp≤(l.length:Int):=by
  unfold Ana at h;rw[IntKind.wrap_i64]at h;omega
 rw[decide_eq_true hp,h];simp only[cond_true];rw[if_pos hy,if_pos hy,if_pos hx];cases (gt l y).Yq==1<;>rfl
theorem Baq{l:List A8}{y:Int}{r:List Int}(h:(gt l y).Yq≠1):Aru l (y::r)=false:=by
 cases r with
 |nil=>simp[Aru,h]
 |cons z r=>simp[Aru,h]
theorem Bci{l:List A8}(w:Agf l){way:List Int}(hin: ∀x∈way,0≤x∧x<(l.length:Int))(hlen:way.length≤140737488355327): ∀(n i:Nat),Bcf l (way.drop i)->i≤way.length->way.length - i<n->Ar0 K l way n (i:Int)=some (Aru l (way.drop i)&&Awf l way):=by
 intro n
 induction n with
 |zero=>intro i _ _ h;omega
 |succ n ih=>
  intro i hch hi hn;rw[Ar0];unfold Aws;rcases Ez i way.length with h|h
  ·rw[Agh h];simp only[cond_true];rw[Axj h]at hch;rw[if_pos ⟨by omega,by omega⟩,if_pos (hin _ (Ao9 h)),Axj h,Agd (by omega),←Acm h]
   rcases Ez (i+1) way.length with h2|h2
   ·rw[Axj h2]at hch
    have hc1:=hch.1;rw[←Acm h,←Acm h2]at hc1;rw[Agh h2,Axj h2,←Acm h2];simp only[cond_true];rw[if_pos ⟨by omega,by omega⟩,Bnl w (hin _ (Ao9 h)) (hin _ (Ao9 h2)) hc1,ih (i+1) (by rw[Axj h2];exact hch.2) h (by omega),Axj h2,←Acm h2,Aru]
    generalize gt way ((i+1:Nat):Int)=y;generalize gt way (i:Int)=x
    by_cases c1:(gt l x).Yq=1
    ·by_cases c3:(gt l y).Yq=1
     ·by_cases c2:(gt l x).Wk=(gt l y).Sy
      ·simp[c1,c2,c3]
      ·have c2': ¬(gt l y).Sy=(gt l x).Wk:=fun e=>c2 e.symm;rw[Ail c2,Ail c2'];simp[c1]
     ·rw[Baq c3,Ail c3];simp[c1]
    ·rw[Aqd c1,Ail c1];simp
   ·rw[Agl h2,ih (i+1) (by rw[Z48 h2];trivial) h (by omega),show way.drop (i+1)=[] from Z48 h2]
    simp only[cond_false,Aru]
    by_cases c1:(gt l (gt way (i:Int))).Yq=1
    ·simp[c1]
    ·rw[Aqd c1,Ail c1];simp
  ·rw[Agl h,show way.drop i=[] from Z48 h]
   simp only[cond_false,Aru,Z30];exact Bap hin hlen
def Aph (l:List A8)(k:Int):Bool:=Aru l (Aes l l.length k)&&Awf l (Aes l l.length k)
include hK in
theorem A1z{l:List A8}(w:Agf l)(k:Int)(hk: -9223372036854775808≤k∧k≤9223372036854775807):Auo K l k=some (Aph l k):=by
 have hb:=Aen w
 have hr:=A3u (l:=l) l.length k;unfold Auo;rw[A1c hK w k hk];exact Bci w (A8v _ _) (by omega) K 0 (Bcg _ _) (Z21 _) (by omega)
include hK in
theorem A44{l:List A8}(w:Agf l)(k:Int):Axa K l k=some (Aph l k):=by
 have hb:=Aen w
 have hr:=A3u (l:=l) l.length k;unfold Axa;rw[A1d hK w k];exact Bch (A8v _ _) (by omega) K 0 (Z21 _) (by omega)
def Atk (h:Bo):Bool:=bif decide (h.Be≥0)then decide (h.C6≥1)else false
theorem A21 (K:Nat)(h:Bo):As9 K h=some (Atk h):=by
 unfold As9 Atk;cases decide (h.Be≥0)<;>rfl
theorem A7f (K:Nat)(h:Bo):Av3 K h=some (Atk h):=by
 unfold Av3 Atk;cases decide (h.Be≥0)<;>rfl
def Aqz (l:List A8)(h:Bo):Int×Int:=bif Atk h then(bif decide (Ap6 l h<0)then(-1,2)else(bif Aph l (Ap6 l h)then(Ap6 l h,0)else(-1,2)))else(-1,1)
include hK in
theorem Atp{w:Ds}(hw:Agf w.fL)(h:Bo):Am5 K w h=some (Aqz w.fL h):=by
 have hb:=Aen hw;unfold Am5 Aqz;rw[A21,A1b K hb];simp only[Z0];cases Atk h with
 |false=>rfl
 |true=>
  simp only[cond_true];cases e:decide (Ap6 w.fL h<0)with
  |true=>rfl
  |false=>
   have h1:=A4m (of_decide_eq_false e);simp only[cond_false];rw[A1z hK hw _ ⟨by omega,by omega⟩]
   simp only[Z0];cases Aph w.fL (Ap6 w.fL h)<;>rfl
include hK in
theorem A0m{w:Ds}(hw:Agf w.fL)(h:Bo):Ard K w h=some (Aqz w.fL h):=by
 have hb:=Aen hw;unfold Ard Aqz;rw[A7f,A3t K hb];simp only[Z0];cases Atk h with
 |false=>rfl
 |true=>
  simp only[cond_true];cases e:decide (Ap6 w.fL h<0)with
  |true=>rfl
  |false=>
   simp only[cond_false];rw[A44 hK hw];simp only[Z0];cases Aph w.fL (Ap6 w.fL h)<;>rfl
theorem Bju{l:List A8}{h:Bo}(h0:(Aqz l h).2=0):0≤(Aqz l h).1∧(Aqz l h).1<(l.length:Int):=by
 unfold Aqz at *;cases e1:Atk h with
 |false=>rw[e1]at h0;simp at h0
 |true=>
  rw[e1]at h0;simp only[cond_true]at *;cases e:decide (Ap6 l h<0)with
  |true=>rw[e]at h0;simp at h0
  |false=>
   rw[e]at h0;simp only[cond_false]at *;cases e2:Aph l (Ap6 l h)with
   |false=>rw[e2]at h0;simp at h0
   |true=>exact A4m (of_decide_eq_false e)
end
def plB (l:List A8)(n:Int):Bool:=decide (0≤Ana .i64 n 1∧Ana .i64 n 1<(l.length:Int))
theorem Atq{l:List A8}{n:Int}(h:plB l n=true):0≤Ana .i64 n 1∧Ana .i64 n 1<(l.length:Int):=of_decide_eq_true h
theorem Axx (K:Nat){l:List A8}(hl:l.length≤140737488355327)(n:Int):Ag9 K l (Ana .i64 n 1)=some (plB l n):=Awl K hl _
theorem Auj (K:Nat){l:List A8}(hl:l.length≤140737488355327){n:Int}(hn:wfi n):Agg K l n=some (plB l n):=by
 rw[Awe];unfold plB;obtain⟨h1,h2⟩:=hn
 congr 1
 rw[decide_eq_decide];unfold Ana;rw[IntKind.wrap_i64];omega
def Azs (l:List A8)(k:Int):Bool:=plB l (gt l k).fUp&&((gt l (Ana .i64 (gt l k).fUp 1)).Yq==1&&(gt l (Ana .i64 (gt l k).fUp 1)).Sy==(gt l k).Wk)
theorem A4n (K:Nat){l:List A8}(w:Agf l){k:Int}(h:0≤k∧k<(l.length:Int)):Arg K l k=some (Azs l k):=by
 unfold Arg Azs;rw[if_pos h,Auj K (Aen w) (w.1 _ (Ank h.1 h.2)).up,Z0,if_pos h];cases hp:plB l (gt l k).fUp with
 |false=>rfl
 |true=>
  have:=Atq hp;rw[cond_true,if_pos this,if_pos this];cases (gt l (Ana .i64 (gt l k).fUp 1)).Yq==1<;>rfl
theorem Azt (K:Nat){l:List A8}(w:Agf l){k:Int}(h:0≤k∧k<(l.length:Int)):Aqm K l k=some (Azs l k):=by
 unfold Aqm Azs;rw[if_pos h,Axx K (Aen w),Z0,if_pos h];cases hp:plB l (gt l k).fUp with
 |false=>rfl
 |true=>
  have:=Atq hp;rw[cond_true,if_pos this,if_pos this];cases (gt l (Ana .i64 (gt l k).fUp 1)).Yq==1<;>rfl
def Ars (l:List A8)(n:Int):Bool:=n==0||(plB l n&&(gt l (Ana .i64 n 1)).Yq==1)
theorem A0t{l:List A8}{n:Int}(h:Ars l n=true)(h0:n≠0):0≤Ana .i64 n 1∧Ana .i64 n 1<(l.length:Int):=by
 unfold Ars at h;rw[Ail h0,Z52,Z4]at h;exact Atq h.1
theorem A10 (K:Nat){l:List A8}(w:Agf l){n:Int}(hn:wfi n):Apn K l n=some (Ars l n):=by
 unfold Apn Ars;rw[Auj K (Aen w) hn,Z0];cases n==0 with
 |true=>rfl
 |false=>
  cases hp:plB l n with
  |false=>rfl
  |true=>rw[if_pos (Atq hp)];rfl
theorem A11 (K:Nat){l:List A8}(w:Agf l)(n:Int):Atn K l n=some (Ars l n):=by
 unfold Atn Ars;rw[Axx K (Aen w),Z0];cases n==0 with
 |true=>rfl
 |false=>
  cases hp:plB l n with
  |false=>rfl
  |true=>rw[if_pos (Atq hp)];rfl
def A45 (r:List Int):Int:=gt r ((r.length - 1:Nat):Int)
def A0u (l:List A8)(k:Int):Bool:=decide (((Aes l l.length k).length:Int)≤4)&& !Azs l (A45 (Aes l l.length k))
def A5m (l:List A8)(k:Int):Bool:= !((gt l k).Wm==0&&Azs l k)||(gt l (Ana .i64 (gt l k).fUp 1)).Er==Am9 .i64 k 1
def A7g (l:List A8)(k:Int):Bool:=(gt l k).Wm==0||(gt l (Ana .i64 (gt l k).Wm 1)).Wl==Am9 .i64 k 1
def Bar (l:List A8)(k:Int):Bool:=(gt l k).Wl==0||((gt l (Ana .i64 (gt l k).Wl 1)).Wm==Am9 .i64 k 1&&((gt l (Ana .i64 (gt l k).Wl 1)).fUp==(gt l k).fUp&&(gt l (Ana .i64 (gt l k).Wl 1)).Wk==(gt l k).Wk))
def Bfm (l:List A8)(k:Int):Bool:=(gt l k).Er==0||((gt l (Ana .i64 (gt l k).Er 1)).Wm==0&&((gt l (Ana .i64 (gt l k).Er 1)).fUp==Am9 .i64 k 1&&(gt l (Ana .i64 (gt l k).Er 1)).Wk==(gt l k).Sy))
def A2q (l:List A8)(k:Int):Bool:=Ars l (gt l k).Er&&(Ars l (gt l k).Wl&&(Ars l (gt l k).Wm&&((gt l k).fUp==0||plB l (gt l k).fUp)))
def Azu (l:List A8)(k:Int):Bool:=A2q l k&&(Bfm l k&&(Bar l k&&(A7g l k&&A5m l k)))
def A46 (l:List A8):Bool:=(List.range l.length).all (fun k=>(gt l (k:Int)).Yq != 1||(Azu l k&&A0u l k))
theorem A59{l:List A8}{k:Int}(h:0≤k∧k<(l.length:Int)):0<(Aes l l.length k).length:=by
 obtain⟨m,hm⟩: ∃m,l.length=m+1:=⟨l.length - 1,by omega⟩
 rw[hm,Aes,if_pos h];simp
theorem A8w{l:List A8}{k:Int}(h:0≤k∧k<(l.length:Int)):0≤A45 (Aes l l.length k)∧A45 (Aes l l.length k)<(l.length:Int):=by
 have:=A59 h;exact A8v _ _ _ (Ao9 (by omega))
theorem Bdw{l:List A8}(w:Agf l){k:Int}(h:0≤k∧k<(l.length:Int)):Ana .i64 ((Aes l l.length k).length:Int) 1=(((Aes l l.length k).length - 1:Nat):Int)∧(0:Int)≤(((Aes l l.length k).length - 1:Nat):Int)∧(((Aes l l.length k).length - 1:Nat):Int)<((Aes l l.length k).length:Int):=by
 have h1:=A59 h
 have h2:=A3u (l:=l) l.length k
 have h3:=Aen w;unfold Ana;rw[Aa3 (by omega) (by omega)]
 omega
section
variable {K:Nat} (hK:281474976710656≤K)
include hK
theorem Bnm{l:List A8}(w:Agf l){k:Int}(h:0≤k∧k<(l.length:Int)):Asf K l k=some (A0u l k):=by
 have h3:=Aen w;obtain⟨e1,e2,e3⟩:=Bdw w h;unfold Asf;rw[A1c hK w k ⟨by omega,by omega⟩,Z0,e1,if_pos ⟨e2,e3⟩]
 have:=A4n K w (A8w h);unfold A45 at this;rw[this,Z0,Akg];rfl
theorem Bnn{l:List A8}(w:Agf l){k:Int}(h:0≤k∧k<(l.length:Int)):At7 K l k (gt l k).fUp (gt l k).Wm=some (A5m l k&&A0u l k):=by
 unfold At7 A5m;rw[A4n K w h,Bnm hK w h,Z0];cases (gt l k).Wm==0 with
 |false=>rfl
 |true=>
  cases hc:Azs l k with
  |false=>rfl
  |true=>
   have:plB l (gt l k).fUp=true:=by unfold Azs at hc;rw[Z4]at hc;exact hc.1
   rw[cond_true,cond_true,if_pos (Atq this),bne,Ady];cases (gt l (Ana .i64 (gt l k).fUp 1)).Er==Am9 .i64 k 1<;>rfl
theorem Bno{l:List A8}(w:Agf l){k:Int}(h:0≤k∧k<(l.length:Int))(hp:Ars l (gt l k).Wm=true):At8 K l k (gt l k).fUp (gt l k).Wm=some (A7g l k&&(A5m l k&&A0u l k)):=by
 unfold At8 A7g;rw[Bnn hK w h]
 by_cases h0:(gt l k).Wm=0
 ·rw[h0];rfl
 ·rw[Aqd h0,Ail h0,cond_true,if_pos (A0t hp h0),bne,Ady];cases (gt l (Ana .i64 (gt l k).Wm 1)).Wl==Am9 .i64 k 1<;>rfl
theorem Bnp{l:List A8}(w:Agf l){k:Int}(h:0≤k∧k<(l.length:Int))(hp:Ars l (gt l k).Wm=true)(hn:Ars l (gt l k).Wl=true):At9 K l k (gt l k).fUp (gt l k).Wk (gt l k).Wl (gt l k).Wm=some (Bar l k&&(A7g l k&&(A5m l k&&A0u l k))):=by
 unfold At9 Bar;rw[Bno hK w h hp]
 by_cases h0:(gt l k).Wl=0
 ·rw[h0];rfl
 ·have hi:=A0t hn h0;rw[Aqd h0,Ail h0,cond_true,if_pos hi];simp only[bne,Ady,Z52];cases (gt l (Ana .i64 (gt l k).Wl 1)).Wm==Am9 .i64 k 1<;>cases (gt l (Ana .i64 (gt l k).Wl 1)).fUp==(gt l k).fUp<;>cases (gt l (Ana .i64 (gt l k).Wl 1)).Wk==(gt l k).Wk<;>rfl
theorem Bnq{l:List A8}(w:Agf l){k:Int}(h:0≤k∧k<(l.length:Int))(hf:Ars l (gt l k).Er=true)(hp:Ars l (gt l k).Wm=true)(hn:Ars l (gt l k).Wl=true):Aua K l k (gt l k).Yq (gt l k).C6 (gt l k).Sy (gt l k).fUp (gt l k).Wk (gt l k).Er (gt l k).Wl (gt l k).Wm (gt l k).A6 (gt l k).Afu (gt l k).Wn (gt l k).H7 (gt l k).F3=some (Bfm l k&&(Bar l k&&(A7g l k&&(A5m l k&&A0u l k)))):=by
 unfold Aua Bfm;rw[Bnp hK w h hp hn]
 by_cases h0:(gt l k).Er=0
 ·rw[h0];rfl
 ·have hi:=A0t hf h0;rw[Aqd h0,Ail h0,cond_true,if_pos hi];simp only[bne,Ady,Z52];cases (gt l (Ana .i64 (gt l k).Er 1)).Wm==0<;>cases (gt l (Ana .i64 (gt l k).Er 1)).fUp==Am9 .i64 k 1<;>cases (gt l (Ana .i64 (gt l k).Er 1)).Wk==(gt l k).Sy<;>rfl
theorem Bcj{l:List A8}(w:Agf l){k:Int}(h:0≤k∧k<(l.length:Int)):Ayz K l k=some (Azu l k&&A0u l k):=by
 have hn:=w.1 _ (Ank h.1 h.2);unfold Ayz Azu A2q;rw[if_pos h,Auj K (Aen w) hn.up,A10 K w hn.first,A10 K w hn.next,A10 K w hn.prev];simp only[Z0,Ady];cases hf:Ars l (gt l k).Er with
 |false=>cases (gt l k).fUp != 0<;>cases plB l (gt l k).fUp<;>rfl
 |true=>
 cases hx:Ars l (gt l k).Wl with
 |false=>cases (gt l k).fUp != 0<;>cases plB l (gt l k).fUp<;>rfl
 |true=>
 cases hp:Ars l (gt l k).Wm with
 |false=>cases (gt l k).fUp != 0<;>cases plB l (gt l k).fUp<;>rfl
 |true=>
 rw[Bnq hK w h hf hp hx];simp only[bne];cases (gt l k).fUp==0<;>cases plB l (gt l k).fUp<;>simp only[Bool.not_true,Bool.not_false,cond_true,cond_false,Z30,Bool.false_and,Bool.true_or,Z52,Bool.and_assoc]
theorem Bas{l:List A8}(w:Agf l):Ax7 K l=some (A46 l):=by
 have hl:=Aen w;unfold Ax7 A46;rw[Apc hK l.length (by omega) (fun k=>(gt l (k:Int)).Yq != 1||(Azu l k&&A0u l k)) (some true) (fun n i=>Ao6 K l n i) (fun n i h=> ?_) (fun n=> ?_)]
 ·cases (List.range l.length).all _<;>rfl
 ·simp only[Ao6,Avt];rw[Agh h,cond_true,if_pos (Akh h),Bcj hK w (Akh h),Agd (by omega),Z0,Ady,bne]
  cases (gt l (i:Int)).Yq==1<;>rfl
 ·show Ao6 K l (n+1) _=_;rw[Ao6,Agl (Z9 _),cond_false]
theorem Bnr{l:List A8}(w:Agf l){k:Int}(h:0≤k∧k<(l.length:Int)):Asn K l k (gt l k).fUp (gt l k).Wm=some (A5m l k):=by
 unfold Asn A5m;rw[Azt K w h,Z0,bne];cases (gt l k).Wm==0 with
 |false=>rfl
 |true=>
  cases hc:Azs l k with
  |false=>rfl
  |true=>
   have:plB l (gt l k).fUp=true:=by unfold Azs at hc;rw[Z4]at hc;exact hc.1
   rw[if_pos (Atq this)];rfl
theorem Bns{l:List A8}(w:Agf l){k:Int}(h:0≤k∧k<(l.length:Int))(hp:Ars l (gt l k).Wm=true):Aso K l k (gt l k).fUp (gt l k).Wm=some (A7g l k&&A5m l k):=by
 unfold Aso A7g;rw[Bnr hK w h]
 by_cases h0:(gt l k).Wm=0
 ·rw[h0];rfl
 ·rw[Aqd h0,Ail h0,cond_true,if_pos (A0t hp h0),bne,Ady];cases (gt l (Ana .i64 (gt l k).Wm 1)).Wl==Am9 .i64 k 1<;>rfl
theorem Bnt{l:List A8}(w:Agf l){k:Int}(h:0≤k∧k<(l.length:Int))(hp:Ars l (gt l k).Wm=true)(hn:Ars l (gt l k).Wl=true):Asp K l k (gt l k).fUp (gt l k).Wk (gt l k).Wl (gt l k).Wm=some (Bar l k&&(A7g l k&&A5m l k)):=by
 unfold Asp Bar;rw[Bns hK w h hp]
 by_cases h0:(gt l k).Wl=0
 ·rw[h0];rfl
 ·have hi:=A0t hn h0;rw[Aqd h0,Ail h0,cond_true,if_pos hi];simp only[bne,Ady,Z52];cases (gt l (Ana .i64 (gt l k).Wl 1)).Wm==Am9 .i64 k 1<;>cases (gt l (Ana .i64 (gt l k).Wl 1)).fUp==(gt l k).fUp<;>cases (gt l (Ana .i64 (gt l k).Wl 1)).Wk==(gt l k).Wk<;>rfl
theorem Bnu{l:List A8}(w:Agf l){k:Int}(h:0≤k∧k<(l.length:Int))(hf:Ars l (gt l k).Er=true)(hp:Ars l (gt l k).Wm=true)(hn:Ars l (gt l k).Wl=true):Asq K l k (gt l k).Yq (gt l k).C6 (gt l k).Sy (gt l k).fUp (gt l k).Wk (gt l k).Er (gt l k).Wl (gt l k).Wm (gt l k).A6 (gt l k).Afu (gt l k).Wn (gt l k).H7 (gt l k).F3=some (Bfm l k&&(Bar l k&&(A7g l k&&A5m l k))):=by
 unfold Asq Bfm;rw[Bnt hK w h hp hn]
 by_cases h0:(gt l k).Er=0
 ·rw[h0];rfl
 ·have hi:=A0t hf h0;rw[Aqd h0,Ail h0,cond_true,if_pos hi];simp only[bne,Ady,Z52];cases (gt l (Ana .i64 (gt l k).Er 1)).Wm==0<;>cases (gt l (Ana .i64 (gt l k).Er 1)).fUp==Am9 .i64 k 1<;>cases (gt l (Ana .i64 (gt l k).Er 1)).Wk==(gt l k).Sy<;>rfl
theorem A8x{l:List A8}(w:Agf l){k:Int}(h:0≤k∧k<(l.length:Int)):Axf K l k=some (Azu l k):=by
 unfold Axf Azu A2q;rw[if_pos h,Axx K (Aen w),A11 K w,A11 K w,A11 K w];simp only[Z0,Ady];cases hf:Ars l (gt l k).Er with
 |false=>rfl
 |true=>
 cases hx:Ars l (gt l k).Wl with
 |false=>rfl
 |true=>
 cases hp:Ars l (gt l k).Wm with
 |false=>rfl
 |true=>
 rw[Bnu hK w h hf hp hx];simp only[bne];cases (gt l k).fUp==0<;>cases plB l (gt l k).fUp<;>simp only[Bool.not_true,Bool.not_false,cond_true,cond_false,Z30,Bool.false_and,Bool.true_or,Z52,Bool.and_assoc]
theorem Bat{l:List A8}(w:Agf l):Ayc K l=some (A46 l):=by
 have hl:=Aen w;unfold Ayc A46;rw[Apc hK l.length (by omega) (fun k=>(gt l (k:Int)).Yq != 1||(Azu l k&&A0u l k)) (some true) (fun n i=>Ao8 K l n l (l.length:Int) i) (fun n i h=> ?_) (fun n=> ?_)]
 ·cases (List.range l.length).all _<;>rfl
 ·have hc:=Akh h;obtain⟨e1,e2,e3⟩:=Bdw w hc
  have e4:=Azt K w (A8w hc);unfold A45 at e4
  have e5:decide (((Aes l l.length i).length:Int)>4)= !decide (((Aes l l.length i).length:Int)≤4):=by rw[←decide_not];congr 1;simp
  simp only[Ao8,Av2];rw[Agh h,cond_true,if_pos hc,A8x hK w hc,Agd (by omega),Z0,A1d hK w,Z0,e1,if_pos ⟨e2,e3⟩,e4,Z0,e5]
  unfold A0u A45;simp only[Ady,bne];cases (gt l (i:Int)).Yq==1<;>cases Azu l i<;>cases decide (((Aes l l.length i).length:Int)≤4)<;>cases Azs l (gt (Aes l l.length i) (((Aes l l.length i).length - 1:Nat):Int))<;>rfl
 ·show Ao8 K l (n+1) _ _ _=_;rw[Ao8,Agl (Z9 _),cond_false]
end
theorem A4o{c:D4}(hc:Ak5 c=true):Ana .i64 c.Kh 1=c.Kh - 1:=by
 obtain⟨_,b2,_⟩:=Ap hc;unfold Ana;rw[Aa3 (by omega) (by omega)]
def Ami (c:D4)(x:Av):Bool:=
 Ak5 c&&(inB x.Be 0 c.Fj&&(inB x.Er 0 c.Fj&&(decide ((x.F3.length:Int)≤6)&&(x.F3.all (fun y=>inB y 0 255)&&(As2 c x.A6&&(inB x.Wo 0 (c.Kh - 1)&&(decide ((x.A6.length:Int)>0)||x.Wo==0)))))))
section
variable {K:Nat} (hK:281474976710656≤K)
include hK
theorem A7h (c:D4)(x:Av)(hw:A28 x):Aw4 K c x=some (Ami c x):=by
 have h1:=A1a hK hw.tags
 have h2:=A1a hK hw.chunks;unfold Aw4 Aus;rw[Arr];simp only[Z0,Aon];cases hc:Ak5 c with
 |false=>simp[Ami,hc]
 |true=>
 have hA:Aog K c x.A6 K 0=some (As2 c x.A6):=by
  rw[Apc hK x.A6.length (by omega) (fun i=>inB (gt x.A6 i) 0 (c.A6 - 1)&& !(x.A6.take i).contains (gt x.A6 i)) (some true) (fun k i=>Aog K c x.A6 k i) (fun k i h=> ?_) (fun k=> ?_)]
  ·unfold As2;cases (List.range x.A6.length).all _<;>rfl
  ·have hp:(x.A6.take i).length≤140737488355328:=by simp;omega
   simp only[Aog];rw[Agh h,cond_true,if_pos (Akh h),Aon,if_pos (Bal (by omega)),A4k,Azm hK _ _ hp,Agd (by omega),Azd hK hc]
   simp only[Z0,if_pos (Akh h)];cases inB (gt x.A6 i) 0 (c.A6 - 1)<;>cases (x.A6.take i).contains (gt x.A6 i)<;>rfl
  ·show Aog K c x.A6 (k+1) _=_;rw[Aog,Agl (Z9 _),cond_false]
 have hB:Apf K c x.F3 x.A6 K 0=some (x.F3.all (fun y=>inB y 0 255)&&As2 c x.A6):=by
  rw[As6 hK x.F3 (by omega) (fun y=>inB y 0 255) (some (As2 c x.A6)) (Apf K c x.F3 x.A6) (fun k i h=> ?_) (fun k=> ?_)]
  ·rw[Akg]
  ·rw[Apf,Agh h,cond_true,if_pos (Akh h),Acm h,Aon,Agd (by omega),Z0,Ady]
  ·rw[Apf,Agl (Z9 _),cond_false,hA]
 rw[hB,A4o hc]
 have e6:decide ((x.F3.length:Int)>6)= !decide ((x.F3.length:Int)≤6):=by rw[←decide_not];congr 1;simp
 have e0:decide ((x.A6.length:Int)>0)= !((x.A6.length:Int)==0):=by
  rw[Bool.eq_iff_iff];simp only[decide_eq_true_eq,Y3,beq_eq_false_iff_ne];omega
 unfold Ami;simp only[cond_true,e6,e0,Ady,bne,hc,Z30];cases (x.A6.length:Int)==0 with
 |true=>
  simp only[cond_true,Bool.not_true,Z52,Akg,Z7]
  ac_rfl
 |false=>
  simp only[cond_false,Bool.not_false,Bool.true_or,Akg,Z7,Bool.and_true]
  ac_rfl
theorem A7i (c:D4)(x:Av)(hw:A28 x):Axg K c x=some (Ami c x):=by
 have h1:=A1a hK hw.tags
 have h2:=A1a hK hw.chunks;unfold Axg;rw[A1w];simp only[Z0,Aux];cases hc:Ak5 c with
 |false=>simp[Ami,hc]
 |true=>
 rw[A0k hK _ (by omega),A20 hK hc _ h2,A4o hc]
 unfold Ami;simp only[Z0,cond_true,hc,Z30,Azl,Akg]
end
theorem Ap7{c:D4}{x:Av}(h:Ami c x=true):Ak5 c=true∧(0≤x.Be∧x.Be≤c.Fj)∧(0≤x.Er∧x.Er≤c.Fj)∧As2 c x.A6=true∧(0≤x.Wo∧x.Wo≤c.Kh - 1):=by
 unfold Ami at h;simp only[Z4,Age]at h;exact⟨h.1,h.2.1,h.2.2.1,h.2.2.2.2.2.1,h.2.2.2.2.2.2.1⟩
theorem Av8{c:D4}{l:List Int}(h:As2 c l=true): ∀x∈l,0≤x∧x<c.A6:=by
 intro x hx;obtain⟨i,hi,e⟩:=List.mem_iff_getElem.1 hx;unfold As2 at h;rw[Z1]at h
 have:=h i (by simpa using hi)
 rw[Z4,Acm hi,e,Age]at this;omega
theorem A29{l:List Int}:l.Nodup ↔ ∀i,(h:i<l.length)->l[i] ∉ l.take i:=by
 unfold List.Nodup;rw[List.pairwise_iff_getElem];constructor
 ·intro h i hi hm;obtain⟨j,hj,e⟩:=List.mem_iff_getElem.1 hm;rw[List.getElem_take]at e;simp only[List.length_take]at hj;exact h j i (by omega) hi (by omega) e
 ·intro h i j hi hj hij e;exact h j hj (List.mem_iff_getElem.2 ⟨i,by simp;omega,by rw[List.getElem_take];exact e⟩)
theorem Axy{c:D4}{l:List Int}(h:As2 c l=true):l.Nodup:=by
 rw[A29];intro i hi hm;unfold As2 at h;rw[Z1]at h
 have:=h i (by simpa using hi)
 rw[Z4,Acm hi,Y3,List.contains_eq_mem]at this;exact absurd hm (of_decide_eq_false this.2)
theorem Awg{l:List Int}: ∀ {o:List Int},o.Nodup->(∀x∈o,x∈l)->o.length≤l.length:=by
 intro o
 induction o generalizing l with
 |nil=>intro _ _;exact Z21 _
 |cons x o ih=>
  intro hn hs
  have hx:x∈l:=hs x (by simp)
  rw[List.nodup_cons]at hn
  have h2:=ih (l:=l.erase x) hn.2 (fun y hy=>by
   have hne:y≠x:=fun e=>hn.1 (e ▸ hy);exact(List.mem_erase_of_ne hne).2 (hs y (by simp[hy])))
  rw[List.length_erase_of_mem hx]at h2
  have:0<l.length:=List.length_pos_of_mem hx;simp only[Ws];omega
theorem Auk{c:D4}(hc:Ak5 c=true){l:List Int}(h:As2 c l=true):l.length≤12:=by
 obtain⟨b1,_⟩:=Ap hc
 have:=Awg (l:=(List.range 12).map (fun i:Nat=>(i:Int))) (Axy h) (fun x hx=>by
  have:=Av8 h x hx;rw[D2];exact⟨x.toNat,by simp;omega,by omega⟩)
 simpa using this
def Axu (l:List A8):Nat->Int->List Int
 |0,_=>[]
 |n+1,k=>if 0≤k∧k<(l.length:Int)then k::Axu l n (Ana .i64 (gt l k).Wl 1)else []
theorem A12{l:List A8}: ∀(n:Nat) (k:Int),∀x∈Axu l n k,0≤x∧x<(l.length:Int):=by
 intro n
 induction n with
 |zero=>intro k x hx;cases hx
 |succ n ih=>
  intro k x hx;unfold Axu at hx;split at hx
  ·rename_i h;rcases C9.1 hx with rfl|hx
   ·exact h
   ·exact ih _ x hx
  ·cases hx
theorem Aze{l:List A8}: ∀(n:Nat) (k:Int),(Axu l n k).length≤n:=by
 intro n
 induction n with
 |zero=>intro k;exact Z9 _
 |succ n ih=>
  intro k;unfold Axu;split
  ·simp only[Ws];have:=ih (Ana .i64 (gt l k).Wl 1);omega
  ·exact Z21 _
def Adw (l:List A8)(first:Int):List Int:=Axu l l.length (Ana .i64 first 1)
def Awm (l:List A8)(k:Int):Bool:=(gt l k).Yq==1&&((gt l k).fUp != 0&& !Azs l k)
theorem A47 (K:Nat){l:List A8}(w:Agf l){k:Int}(h:0≤k∧k<(l.length:Int)):Asg K l k=some (Awm l k):=by
 unfold Asg Awm;rw[if_pos h,if_pos h,A4n K w h,Z0,Akg,Akg]
theorem A48 (K:Nat){l:List A8}(w:Agf l){k:Int}(h:0≤k∧k<(l.length:Int)):Arc K l k=some (Awm l k):=by
 unfold Arc Awm;rw[if_pos h,if_pos h,Azt K w h,Z0,Akg,Akg]
section
variable {K:Nat} (hK:281474976710656≤K)
theorem Bfn{l:List A8}(w:Agf l): ∀(n:Nat) (k:Int) (v:List Int),wfi k->v.length≤l.length->l.length - v.length<n->Atc K l n k v=some (v++Axu l (l.length - v.length) (Ana .i64 k 1)):=by
 have hm:=Adv
 have hb:l.length*152≤140737488355327:=w.2;intro n
 induction n with
 |zero=>intro k v _ _ h;omega
 |succ n ih=>
  intro k v hk hv hn;rw[Atc,Auj K (Aen w) hk];simp only[Z0]
  by_cases hs:0≤Ana .i64 k 1∧Ana .i64 k 1<(l.length:Int)
  ·rw[show plB l k=true from decide_eq_true hs]
   simp only[cond_true];rcases Ez v.length l.length with h|h
   ·rw[Agh h];simp only[cond_true]
    have hl2:(v++[Ana .i64 k 1]).length=v.length+1:=by simp
    rw[if_pos ⟨by rw[hl2];omega,by rw[hl2];omega⟩,if_pos hs,ih (gt l (Ana .i64 k 1)).Wl _ (w.1 _ (Ank hs.1 hs.2)).next (by rw[hl2];omega) (by rw[hl2];omega),hl2]
    obtain⟨m,hm⟩: ∃m,l.length - v.length=m+1:=⟨l.length - v.length - 1,by omega⟩
    rw[hm,Axu,if_pos hs,show l.length - (v.length+1)=m from by omega]
    simp
   ·rw[Agl h];rw[show l.length - v.length=0 from by omega]
    simp[Axu]
  ·rw[show plB l k=false from decide_eq_false hs]
   have:Axu l (l.length - v.length) (Ana .i64 k 1)=[]:=by
    cases l.length - v.length with
    |zero=>rfl
    |succ m=>rw[Axu,if_neg hs]
   rw[this];simp
theorem Bfo{l:List A8}(w:Agf l): ∀(n:Nat) (k:Int) (v:List Int),v.length≤l.length->l.length - v.length<n->Atf K l n v k=some (v++Axu l (l.length - v.length) k):=by
 have hm:=Adv
 have hb:l.length*152≤140737488355327:=w.2;intro n
 induction n with
 |zero=>intro k v _ h;omega
 |succ n ih=>
  intro k v hv hn;rw[Atf,Awl K (by omega)]
  simp only[Z0]
  by_cases hs:0≤k∧k<(l.length:Int)
  ·rw[decide_eq_true hs];simp only[cond_true];rcases Ez v.length l.length with h|h
   ·rw[Agh h];simp only[cond_true]
    have hl2:(v++[k]).length=v.length+1:=by simp
    rw[if_pos ⟨by rw[hl2];omega,by rw[hl2];omega⟩,if_pos hs,ih _ _ (by rw[hl2];omega) (by rw[hl2];omega),hl2]
    obtain⟨m,hm⟩: ∃m,l.length - v.length=m+1:=⟨l.length - v.length - 1,by omega⟩
    rw[hm,Axu,if_pos hs,show l.length - (v.length+1)=m from by omega]
    simp
   ·rw[Agl h];rw[show l.length - v.length=0 from by omega]
    simp[Axu]
  ·rw[decide_eq_false hs]
   have:Axu l (l.length - v.length) k=[]:=by
    cases l.length - v.length with
    |zero=>rfl
    |succ m=>rw[Axu,if_neg hs]
   rw[this];simp
include hK
theorem A49{l:List A8}(w:Agf l){k:Int}(hk:wfi k):Ava K l k=some (Adw l k):=by
 have hb:=Aen w;unfold Ava Adw
 have:=Bfn (K:=K) w K k [] hk (Z21 _) (by simp;omega)
 simpa using this
theorem A13{l:List A8}(w:Agf l)(k:Int):Ato K l k=some (Adw l k):=by
 have hb:=Aen w;unfold Ato Adw
 have:=Bfo (K:=K) w K (Ana .i64 k 1) [] (Z21 _) (by simp;omega)
 simpa using this
def Aol (w:Ds)(x:Av):Bool:= !decide ((x.A6.length:Int)>0)||Apd ((w.fP.Sk.drop (gt x.A6 0*w.fC.Kh).toNat).take x.Wo.toNat)
def Avd (w:Ds)(x:Av):Bool:=x.Be==0||(gt w.fL (Ana .i64 x.Be 1)).Yq==2
def Axk (w:Ds)(x:Av):Bool:=x.Er==0||(gt w.fL (Ana .i64 x.Er 1)).Wm==0
def A1e (w:Ds)(x:Av):Bool:=x.A6.all (fun k=>gt w.fP.Yq k==2)
def Ary (w:Ds)(x:Av):Bool:=(Adw w.fL x.Er).all (Awm w.fL)
def Amr (w:Ds)(x:Av):Bool:=Ami w.fC x&&(A1e w x&&(Aol w x&&(Avd w x&&(Axk w x&&Ary w x))))
theorem A3v{w:Ds}(hL:(w.fL.length:Int)=w.fC.Fj)(hc:Ak5 w.fC=true){n:Int}(h0:n≠0)(h1:0≤n)(h2:n≤w.fC.Fj):0≤Ana .i64 n 1∧Ana .i64 n 1<(w.fL.length:Int):=by
 obtain⟨_,_,b3,_⟩:=Ap hc;unfold Ana;rw[Aa3 (by omega) (by omega)]
 omega
theorem A7j (w:Ds)(hw:Aoc w)(hp:Aty w.fC w.fP=true)(hL:(w.fL.length:Int)=w.fC.Fj)(i:Nat)(hi:i<w.fQ.length):Avu K w i=some (Amr w (gt w.fQ i)):=by
 have hx:=hw.q.1 _ (Ao9 hi);unfold Avu;rw[if_pos (Akh hi)];generalize gt w.fQ i=x at *;rw[A7h hK _ _ hx,Z0,Ady];unfold Amr;cases hr:Ami w.fC x with
 |false=>rfl
 |true=>
 rw[cond_true,Z30];obtain⟨hc,⟨s1,s2⟩,⟨f1,f2⟩,hd,d1,d2⟩:=Ap7 hr;obtain⟨_,hm,hst,_⟩:=Asu hp;obtain⟨b1,b2,b3,_⟩:=Ap hc
 have hch:=Av8 hd
 have hl:=A1a hK hx.chunks
 have h3:Aou K x.Er w.fL=some (Ary w x):=by
  unfold Aou Ary
  have hk:=Aze (l:=w.fL) w.fL.length (Ana .i64 x.Er 1)
  have hin:=A12 (l:=w.fL) w.fL.length (Ana .i64 x.Er 1);rw[A49 hK hw.l hx.first,Z0];change (Adw w.fL x.Er).length≤_ at hk;change ∀y∈Adw w.fL x.Er,_ at hin;generalize Adw w.fL x.Er=r at *;rw[As6 hK r (by omega) (Awm w.fL) (some true) (Apw K w.fL r) (fun n i h=> ?_) (fun n=> ?_)]
  ·cases r.all _<;>rfl
  ·rw[Apw,Agh h,cond_true,if_pos (Akh h),A47 K hw.l (hin _ (Ao9 h)),Agd (by omega),Z0,Ady,Acm h]
  ·rw[Apw,Agl (Z9 _),cond_false]
 have h2:Arl K x.Be x.Er w.fL=some (Avd w x&&(Axk w x&&Ary w x)):=by
  unfold Arl Avd Axk;rw[h3]
  by_cases g1:x.Er=0
  ·rw[g1]
   by_cases g2:x.Be=0
   ·rw[g2];rfl
   ·rw[Aqd g2,Ail g2,cond_true,if_pos (A3v hK hL hc g2 s1 s2)];simp only[bne,Ady,Z52];cases (gt w.fL (Ana .i64 x.Be 1)).Yq==2<;>rfl
  ·have hF:(bif (x.Er != 0)then(if(0:Int)≤(Ana .i64 x.Er 1)∧(Ana .i64 x.Er 1)<(w.fL.length:Int)then(bif (((gt w.fL (Ana .i64 x.Er 1)).Wm) != 0)then some false else some (Ary w x))else none)else some (Ary w x))=some ((x.Er==0||(gt w.fL (Ana .i64 x.Er 1)).Wm==0)&&Ary w x):=by
    rw[Aqd g1,Ail g1,cond_true,if_pos (A3v hK hL hc g1 f1 f2)];simp only[bne,Ady,Z52,Akg]
   rw[hF]
   by_cases g2:x.Be=0
   ·rw[g2];rfl
   ·rw[Aqd g2,Ail g2,cond_true,if_pos (A3v hK hL hc g2 s1 s2)];simp only[bne,Ady,Z52,Akg]
 rw[As6 hK x.A6 (by omega) (fun k=>gt w.fP.Yq k==2) (some (Aol w x&&(Avd w x&&(Axk w x&&Ary w x)))) (fun n i=>Aov K n i x.Be x.Er x.F3 x.A6 x.Wo w.fC.A6 w.fC.Kh w.fC.Fj w.fC.Hb w.fC.Fk w.fC.Ki w.fP.Sk w.fP.Yq w.fP.Sl w.fL w.fQ w.Afv) (fun n i h=> ?_) (fun n=> ?_)]
 ·rw[Akg];rfl
 ·simp only[Aov]
  have h5:=hch _ (Ao9 h);rw[Agh h,cond_true,if_pos (Akh h),if_pos ⟨h5.1,by omega⟩,Agd (by omega),bne,Ady,Acm h]
 ·show Aov K (n+1) _ _ _ _ _ _ _ _ _ _ _ _ _ _ _ _ _ _=_;rw[Aov,Agl (Z9 _),cond_false,h2];unfold Aol
  by_cases g:(x.A6.length:Int)>0
  ·have h5:=hch _ (Ank (l:=x.A6) (Int.le_refl 0) (by omega))
   obtain⟨e1,e2,e3,e4⟩:=A0r hc hm h5.1 h5.2
   have e5:Am9 .i64 (gt x.A6 0*w.fC.Kh) x.Wo=gt x.A6 0*w.fC.Kh+x.Wo:=by
    have:=Auy (a:=gt x.A6 0) (b:=w.fC.Kh) (m:=12) (n:=16) h5.1 (by omega) (by omega) b2.2
    unfold Am9;rw[Aa3 (by omega) (by omega)]
   rw[decide_eq_true g,cond_true,if_pos ⟨by omega,by omega⟩,if_pos ⟨by omega,by omega⟩,e1,e5,if_pos ⟨e3,by omega,by omega⟩,Az7 hK _ (by simp;omega),show gt x.A6 0*w.fC.Kh+x.Wo - gt x.A6 0*w.fC.Kh=x.Wo by omega]
   simp only[Z0,Ady,Akg,Bool.not_true,Z52]
  ·rw[decide_eq_false g];rfl
end
def Ak6 (N:Nat)(l:List Int):List Int:=(List.range N).map (fun k:Nat=>((l.count (k:Int):Nat):Int))
theorem A14 (N:Nat)(l:List Int):(Ak6 N l).length=N:=by simp[Ak6]
theorem Az9{N:Nat}{l:List Int}{x:Int}(h0:0≤x)(h1:x<N):gt (Ak6 N l) x=((l.count x:Nat):Int):=by
 obtain⟨k,rfl⟩: ∃k:Nat,x=k:=⟨x.toNat,by omega⟩
 rw[Acm (by rw[A14];omega)]
 simp[Ak6]
theorem Bau (N:Nat):Ak6 N []=List.replicate N 0:=by
 refine List.ext_getElem (by simp[Ak6]) fun i h1 h2=> ?_
 simp[Ak6]
theorem Bav{N:Nat}{l:List Int}{x:Int}(h0:0≤x)(h1:x<N)(hl:l.length≤140737488355327):(Ak6 N l).set x.toNat (Am9 .i64 (gt (Ak6 N l) x) 1)=Ak6 N (l++[x]):=by
 have hc:l.count x≤l.length:=List.count_le_length
 have e:Am9 .i64 (gt (Ak6 N l) x) 1=((l.count x+1:Nat):Int):=by
  rw[Az9 h0 h1,Agd (by omega)]
 rw[e];refine List.ext_getElem (by simp[Ak6]) fun i h2 h3=> ?_
 rw[List.getElem_set];simp only[Ak6,List.getElem_map,List.getElem_range,List.count_append,List.count_singleton]
 by_cases hi:x.toNat=i
 ·rw[if_pos hi]
  have:x=(i:Int):=by omega
  simp[this]
 ·rw[if_neg hi]
  have: ¬x=(i:Int):=by omega
  simp[this]
theorem A6a{C P:List Int}(hs: ∀x∈C,x∈P)(hP:P.Nodup):(∀x∈P,C.count x=1) ↔ (C.Nodup∧C.length=P.length):=by
 constructor
 ·intro h
  have hn:C.Nodup:=by
   rw[List.nodup_iff_count];intro a
   by_cases ha:a∈C
   ·rw[h a (hs a ha)];omega
   ·rw[List.count_eq_zero_of_not_mem ha];omega
  refine⟨hn,?_⟩
  have h1:=Awg hn hs
  have h2:=Awg hP (l:=C) (fun x hx=>List.count_pos_iff.1 (by rw[h x hx];omega))
  omega
 ·rintro⟨hn,hl⟩ x hx
  have hp:=A42 hn hs hl
  have:=hn.count (a:=x);rw[this,if_pos (hp.mem_iff.2 hx)]
def chL (q:List Av):List Int:=q.flatMap (fun x=>x.A6)
def slL (q:List Av):List Int:=q.flatMap (fun x=>if x.Be=0 then []else [Ana .i64 x.Be 1])
def kdL (l:List A8)(q:List Av):List Int:=q.flatMap (fun x=>Adw l x.Er)
theorem Azf{α β:Type}(q:List α)(f:α->List β)(i:Nat)(h:i<q.length):(q.take (i+1)).flatMap f=(q.take i).flatMap f++f q[i]:=by
 rw[←List.take_append_getElem h,List.flatMap_append];simp
theorem A3w{α β:Type}(q:List α)(f:α->List β)(m:Nat)(h: ∀x∈q,(f x).length≤m):(q.flatMap f).length≤q.length*m:=by
 induction q with
 |nil=>simp
 |cons x q ih=>
  have h1:=h x (by simp)
  have h2:=ih fun y hy=>h y (by simp[hy])
  simp only[List.flatMap_cons,H8,Ws,Gc,Nat.one_mul];omega
def A5a (w:Ds):List Int:=((List.range w.fP.Yq.length).filter (fun k:Nat=>gt w.fP.Yq k==2)).map (fun k:Nat=>(k:Int))
def A22 (w:Ds):List Int:=((List.range w.fL.length).filter (fun k:Nat=>(gt w.fL k).Yq==2)).map (fun k:Nat=>(k:Int))
def A6b (w:Ds):List Int:=((List.range w.fL.length).filter (fun k:Nat=>Awm w.fL k)).map (fun k:Nat=>(k:Int))
theorem A3a (N:Nat)(p:Nat->Bool):(((List.range N).filter p).map (fun k:Nat=>(k:Int))).Nodup:=by
 unfold List.Nodup;rw[List.pairwise_map];exact(List.Pairwise.filter _ List.pairwise_lt_range).imp fun h=>by omega
theorem Ave{N:Nat}{p:Nat->Bool}{x:Int}:x∈((List.range N).filter p).map (fun k:Nat=>(k:Int)) ↔ (0≤x∧x<(N:Int))∧p x.toNat=true:=by
 simp only[D2,List.mem_filter,List.mem_range];constructor
 ·rintro⟨k,⟨h1,h2⟩,rfl⟩;exact⟨⟨by omega,by omega⟩,by simpa using h2⟩
 ·rintro⟨⟨h1,h2⟩,h3⟩;exact⟨x.toNat,⟨by omega,h3⟩,by omega⟩
def Awa (w:Ds)(N:Nat):Bool:=
 (List.range w.fP.Yq.length).all (fun k=> !(gt w.fP.Yq k==2)||gt (Ak6 N (chL w.fQ)) k==1)&&
 (List.range w.fL.length).all (fun k=>(!((gt w.fL k).Yq==2)||gt (Ak6 w.fL.length (slL w.fQ)) k==1)&&(!Awm w.fL k||gt (Ak6 w.fL.length (kdL w.fL w.fQ)) k==1))
def A3b (q:List Av)(i k:Nat):Bool:= !((gt q i).Be != 0&&(gt q k).Be==(gt q i).Be)&&(gt q i).A6.all (fun y=> !(gt q k).A6.contains y)
def A8y (q:List Av):Bool:=(List.range q.length).all (fun i=>(List.range i).all (fun k=>A3b q i k))
def A4p (l:List Int):Bool:=(List.range l.length).all (fun i=> !(l.take i).contains (gt l i))
def A5q (w:Ds):Bool:=
 A8y w.fQ&&(A4p (kdL w.fL w.fQ)&&((((chL w.fQ).length:Int)==((A5a w).length:Int))&&((((slL w.fQ).length:Int)==((A22 w).length:Int))&&(((kdL w.fL w.fQ).length:Int)==((A6b w).length:Int)))))
theorem Bck (l:List Int):A4p l=true ↔ l.Nodup:=by
 rw[A29];unfold A4p;simp only[Z1,List.mem_range,Y3,List.contains_eq_mem,decide_eq_false_iff_not];exact⟨fun h i hi=>by have:=h i hi;rwa[Acm hi]at this,fun h i hi=>by rw[Acm hi];exact h i hi⟩
theorem Baw{w:Ds}{q:List Av}(h1: ∀x∈q,x.A6.Nodup)(h2: ∀x∈q,0≤x.Be∧x.Be≤8):A8y q=true ↔ (chL q).Nodup∧(slL q).Nodup:=by
 unfold chL slL List.Nodup;rw[List.pairwise_flatMap,List.pairwise_flatMap,List.pairwise_iff_getElem,List.pairwise_iff_getElem]
 have hs: ∀x∈q,List.Pairwise (fun a b:Int=>a≠b) (if x.Be=0 then []else [Ana .i64 x.Be 1]):=by
  intro x _;split<;>simp
 have hsub: ∀x∈q,Ana .i64 x.Be 1=x.Be - 1:=by
  intro x hx;have:=h2 x hx;unfold Ana;rw[Aa3 (by omega) (by omega)]
 unfold A8y A3b;simp only[Z1,List.mem_range,Z4,Y3,List.contains_eq_mem,decide_eq_false_iff_not];constructor
 ·intro h;refine⟨⟨h1,fun i j hi hj hij x hx y hy e=> ?_⟩,hs,fun i j hi hj hij x hx y hy e=> ?_⟩
  ·have:=(h j hj i hij).2;rw[Acm hi,Acm hj]at this;subst e;exact this x hy hx
  ·have:=(h j hj i hij).1;rw[Acm hi,Acm hj]at this;split at hx
   ·cases hx
   ·split at hy
    ·cases hy
    ·rename_i g1 g2;simp only[Mk]at hx hy;subst hx;subst hy;rw[hsub _ (List.getElem_mem hi),hsub _ (List.getElem_mem hj)]at e;rw[Aqd g2,Z30,beq_eq_false_iff_ne]at this;exact this (by omega)
 ·rintro⟨⟨_,h3⟩,_,h4⟩ i hi k hk
  have hk':k<q.length:=by omega
  rw[Acm hi,Acm hk'];refine⟨?_,fun x hx hy=>h3 k i hk' hi hk x hy x hx rfl⟩;rw[Bool.and_eq_false_iff]
  by_cases g:q[i].Be=0
  ·left;simp[g]
  ·right;rw[beq_eq_false_iff_ne];intro e;refine h4 k i hk' hi hk (Ana .i64 q[k].Be 1) ?_ (Ana .i64 q[i].Be 1) ?_ (by rw[e])
   ·rw[if_neg (by rw[e];exact g)];simp
   ·rw[if_neg g];simp
theorem Bsw{w:Ds}(hp:Aty w.fC w.fP=true)(hL:(w.fL.length:Int)=w.fC.Fj)(hq: ∀x∈w.fQ,Amr w x=true):Awa w w.fC.A6.toNat=A5q w:=by
 obtain⟨hc,hm,hst,_⟩:=Asu hp;obtain⟨b1,b2,b3,_⟩:=Ap hc
 have hone: ∀x∈w.fQ,(0≤x.Be∧x.Be≤w.fC.Fj)∧As2 w.fC x.A6=true∧A1e w x=true∧Avd w x=true∧Ary w x=true:=by
  intro x hx
  have:=hq x hx;unfold Amr at this;simp only[Z4]at this;obtain⟨h1,h2,h3,h4,h5,h6⟩:=this;obtain⟨_,g1,_,g3,_⟩:=Ap7 h1;exact⟨g1,g3,h2,h4,h6⟩
 have hC: ∀x∈chL w.fQ,x∈A5a w:=by
  intro y hy;unfold chL at hy;rw[List.mem_flatMap]at hy;obtain⟨x,hx,hy⟩:=hy;obtain⟨_,g2,g3,_⟩:=hone x hx
  have:=Av8 g2 y hy;unfold A1e at g3;rw[Z1]at g3
  have g4:=g3 y hy;refine Ave.2 ⟨⟨this.1,by omega⟩,?_⟩
  rw[show((y.toNat:Nat):Int)=y by omega];exact g4
 have hS: ∀x∈slL w.fQ,x∈A22 w:=by
  intro y hy;unfold slL at hy;rw[List.mem_flatMap]at hy;obtain⟨x,hx,hy⟩:=hy;obtain⟨g1,g2,g3,g4,_⟩:=hone x hx;split at hy
  ·cases hy
  ·rename_i g;simp only[Mk]at hy;unfold Avd at g4;rw[Ail g,Z52,←hy]at g4
   have:y=x.Be - 1:=by rw[hy];unfold Ana;rw[Aa3 (by omega) (by omega)]
   refine Ave.2 ⟨⟨by omega,by omega⟩,?_⟩
   rw[show((y.toNat:Nat):Int)=y by omega];exact g4
 have hK2: ∀x∈kdL w.fL w.fQ,x∈A6b w:=by
  intro y hy;unfold kdL at hy;rw[List.mem_flatMap]at hy;obtain⟨x,hx,hy⟩:=hy;obtain⟨g1,g2,g3,g4,g5⟩:=hone x hx;unfold Ary at g5;rw[Z1]at g5
  have:=A12 _ _ y hy;refine Ave.2 ⟨this,?_⟩;rw[show((y.toNat:Nat):Int)=y by omega];exact g5 y hy
 have e1:=A6a hC (A3a _ _)
 have e2:=A6a hS (A3a _ _)
 have e3:=A6a hK2 (A3a _ _)
 have hp2:=Baw (w:=w) (q:=w.fQ) (fun x hx=>Axy (hone x hx).2.1) (fun x hx=>by have:=(hone x hx).1;omega)
 rw[Bool.eq_iff_iff];unfold Awa A5q;simp only[Z4,Z1,List.mem_range,Bool.or_eq_true,Y3,beq_iff_eq,Bck,hp2,beq_eq_false_iff_ne]
 have c1:(∀x∈A5a w,(chL w.fQ).count x=1) ↔ ∀k,k<w.fP.Yq.length->gt w.fP.Yq (k:Int)≠2∨gt (Ak6 w.fC.A6.toNat (chL w.fQ)) (k:Int)=1:=by
  constructor
  ·intro h k hk
   by_cases g:gt w.fP.Yq (k:Int)=2
   ·right;rw[Az9 (by omega) (by omega),h k (Ave.2 ⟨⟨by omega,by omega⟩,by simpa using g⟩)];rfl
   ·left;exact g
  ·intro h x hx;obtain⟨⟨h1,h2⟩,h3⟩:=Ave.1 hx;rw[beq_iff_eq,show((x.toNat:Nat):Int)=x by omega]at h3
   rcases h x.toNat (by omega)with h4|h4
   ·rw[show((x.toNat:Nat):Int)=x by omega]at h4;exact absurd h3 h4
   ·rw[show((x.toNat:Nat):Int)=x by omega,Az9 h1 (by omega)]at h4;omega
 have c2:(∀x∈A22 w,(slL w.fQ).count x=1) ↔ ∀k,k<w.fL.length->(gt w.fL (k:Int)).Yq≠2∨gt (Ak6 w.fL.length (slL w.fQ)) (k:Int)=1:=by
  constructor
  ·intro h k hk
   by_cases g:(gt w.fL (k:Int)).Yq=2
   ·right;rw[Az9 (by omega) (by omega),h k (Ave.2 ⟨⟨by omega,by omega⟩,by simpa using g⟩)];rfl
   ·left;exact g
  ·intro h x hx;obtain⟨⟨h1,h2⟩,h3⟩:=Ave.1 hx;rw[beq_iff_eq,show((x.toNat:Nat):Int)=x by omega]at h3
   rcases h x.toNat (by omega)with h4|h4
   ·rw[show((x.toNat:Nat):Int)=x by omega]at h4;exact absurd h3 h4
   ·rw[show((x.toNat:Nat):Int)=x by omega,Az9 h1 (by omega)]at h4;omega
 have c3:(∀x∈A6b w,(kdL w.fL w.fQ).count x=1) ↔ ∀k,k<w.fL.length->Awm w.fL (k:Int)=false∨gt (Ak6 w.fL.length (kdL w.fL w.fQ)) (k:Int)=1:=by
  constructor
  ·intro h k hk;cases g:Awm w.fL (k:Int)with
   |true=>
    right;rw[Az9 (by omega) (by omega),h k (Ave.2 ⟨⟨by omega,by omega⟩,by simpa using g⟩)];rfl
   |false=>left;rfl
  ·intro h x hx;obtain⟨⟨h1,h2⟩,h3⟩:=Ave.1 hx;rw[show((x.toNat:Nat):Int)=x by omega]at h3
   rcases h x.toNat (by omega)with h4|h4
   ·rw[show((x.toNat:Nat):Int)=x by omega,h3]at h4;cases h4
   ·rw[show((x.toNat:Nat):Int)=x by omega,Az9 h1 (by omega)]at h4;omega
 rw[←c1,e1]
 have hsplit:(∀k,k<w.fL.length->((gt w.fL (k:Int)).Yq≠2∨gt (Ak6 w.fL.length (slL w.fQ)) (k:Int)=1)∧(Awm w.fL (k:Int)=false∨gt (Ak6 w.fL.length (kdL w.fL w.fQ)) (k:Int)=1)) ↔ (((slL w.fQ).Nodup∧(slL w.fQ).length=(A22 w).length)∧((kdL w.fL w.fQ).Nodup∧(kdL w.fL w.fQ).length=(A6b w).length)):=by
  rw[←show _ ↔ ((slL w.fQ).Nodup∧(slL w.fQ).length=(A22 w).length) from c2.symm.trans e2,←show _ ↔ ((kdL w.fL w.fQ).Nodup∧(kdL w.fL w.fQ).length=(A6b w).length) from c3.symm.trans e3]
  exact⟨fun h=>⟨fun k hk=>(h k hk).1,fun k hk=>(h k hk).2⟩,fun h k hk=>⟨h.1 k hk,h.2 k hk⟩⟩
 rw[hsplit];constructor
 ·rintro⟨⟨a1,a2⟩,⟨a3,a4⟩,a5,a6⟩;exact⟨⟨a1,a3⟩,a5,by omega,by omega,by omega⟩
 ·rintro⟨⟨a1,a3⟩,a5,a2,a4,a6⟩;exact⟨⟨a1,by omega⟩,⟨a3,by omega⟩,a5,by omega⟩
theorem A5r{α β:Type}{K:Nat}(hK:281474976710656≤K)(l:List α)(hl:l.length≤140737488355328)(q:α->Bool)(fin bad:Option β)(L:Nat->Nat->Option β)
  (hs: ∀n (i:Nat) (h:i<l.length),L (n+1) i=bif q l[i]then L n (i+1)else bad)
  (he: ∀n,L (n+1) l.length=fin):L K 0=bif l.all q then fin else bad:=by
 have:=Bds l q fin bad (fun n i=>L n i.toNat) (fun n i h=>by simpa using hs n i h) (fun n=>by simpa using he n) K 0 (Z21 _) (by omega)
 simpa using this
section
variable {K:Nat} (hK:281474976710656≤K)
include hK
theorem Bfp (w:Ds)(hw:Aoc w):Aee K (Ak6 w.fL.length (slL w.fQ)) (Ak6 w.fL.length (kdL w.fL w.fQ)) w.fL K (w.fL.length:Int) 0 w.fL=some ((List.range w.fL.length).all (fun k=>(!((gt w.fL (k:Int)).Yq==2)||gt (Ak6 w.fL.length (slL w.fQ)) k==1)&&(!Awm w.fL k||gt (Ak6 w.fL.length (kdL w.fL w.fQ)) k==1))):=by
 have hl:=Aen hw.l
 rw[Apc hK w.fL.length (by omega) (fun k=>(!((gt w.fL (k:Int)).Yq==2)||gt (Ak6 w.fL.length (slL w.fQ)) k==1)&&(!Awm w.fL k||gt (Ak6 w.fL.length (kdL w.fL w.fQ)) k==1)) (some true) (fun n i=>Aee K (Ak6 w.fL.length (slL w.fQ)) (Ak6 w.fL.length (kdL w.fL w.fQ)) w.fL n (w.fL.length:Int) i w.fL) (fun n i h=> ?_) (fun n=> ?_)]
 ·cases (List.range w.fL.length).all _<;>rfl
 ·simp only[Aee,Alf];rw[Agh h,cond_true,if_pos (Akh h),A48 K hw.l (Akh h),Agd (by omega)]
  simp only[Z0,A14,if_pos (Akh h),bne,Ady];cases (gt w.fL (i:Int)).Yq==2<;>cases gt (Ak6 w.fL.length (slL w.fQ)) (i:Int)==1<;>cases Awm w.fL i<;>cases gt (Ak6 w.fL.length (kdL w.fL w.fQ)) (i:Int)==1<;>rfl
 ·show Aee K _ _ _ (n+1) _ _ _=_;rw[Aee,Agl (Z9 _),cond_false]
theorem Bfq (w:Ds)(hw:Aoc w)(hp:Aty w.fC w.fP=true):Ag3 K (Ak6 w.fC.A6.toNat (chL w.fQ)) (Ak6 w.fL.length (slL w.fQ)) (Ak6 w.fL.length (kdL w.fL w.fQ)) w.fP.Yq w.fL K (w.fP.Yq.length:Int) 0 w.fP.Yq=some (Awa w w.fC.A6.toNat):=by
 obtain⟨hc,hm,hst,_⟩:=Asu hp;obtain⟨b1,_⟩:=Ap hc
 rw[Apc hK w.fP.Yq.length (by omega) (fun k=> !(gt w.fP.Yq k==2)||gt (Ak6 w.fC.A6.toNat (chL w.fQ)) k==1) (some ((List.range w.fL.length).all (fun k=>(!((gt w.fL (k:Int)).Yq==2)||gt (Ak6 w.fL.length (slL w.fQ)) k==1)&&(!Awm w.fL k||gt (Ak6 w.fL.length (kdL w.fL w.fQ)) k==1)))) (fun n i=>Ag3 K (Ak6 w.fC.A6.toNat (chL w.fQ)) (Ak6 w.fL.length (slL w.fQ)) (Ak6 w.fL.length (kdL w.fL w.fQ)) w.fP.Yq w.fL n (w.fP.Yq.length:Int) i w.fP.Yq) (fun n i h=> ?_) (fun n=> ?_)]
 ·rw[Akg];rfl
 ·simp only[Ag3,Ap5];rw[Agh h,cond_true,if_pos (Akh h),Agd (by omega)]
  simp only[A14,if_pos (show(0:Int)≤(i:Int)∧(i:Int)<((w.fC.A6.toNat:Nat):Int) from⟨by omega,by omega⟩),bne,Ady]
  cases gt w.fP.Yq (i:Int)==2<;>cases gt (Ak6 w.fC.A6.toNat (chL w.fQ)) (i:Int)==1<;>rfl
 ·show Ag3 K _ _ _ _ _ (n+1) _ _ _=_;rw[Ag3,Agl (Z9 _),cond_false,Bfp hK w hw]
theorem Bax{β:Type}(N:Nat)(base l:List Int)(hin: ∀x∈l,0≤x∧x<(N:Int))(hl:base.length+l.length≤140737488355327)(q:Int->Bool)(fin bad:Option β)(L:Nat->List Int->Int->Option β)
  (hs: ∀n v (i:Nat) (h:i<l.length),v.length=N->L (n+1) v (i:Int)=bif q l[i]then L n (v.set (l[i]).toNat (Am9 .i64 (gt v l[i]) 1)) ((i+1:Nat):Int)else bad)
  (he: ∀n,L (n+1) (Ak6 N (base++l)) (l.length:Int)=fin):L K (Ak6 N base) 0=bif l.all q then fin else bad:=by
 have:=A5r hK l (by omega) q fin bad (fun n i=>L n (Ak6 N (base++l.take i)) (i:Int)) (fun n i h=> ?_) (fun n=> ?_)
 ·simpa using this
 ·have hb:(base++l.take i).length≤140737488355327:=by simp;omega
  have h1:=hin _ (List.getElem_mem h);rw[hs n _ i h (A14 _ _),Bav h1.1 h1.2 hb,Kv,List.take_append_getElem]
 ·simp only[List.take_length];exact he n
theorem Bcl (w:Ds)(hw:Aoc w)(hp:Aty w.fC w.fP=true)(hL:(w.fL.length:Int)=w.fC.Fj)(x:Av)(hx:A28 x)(c s d:List Int)(i:Nat)(n:Nat)(hi:i<w.fQ.length)(he:gt w.fQ i=x)
  (hb1:c.length+12≤140737488355327) (hb2:s.length≤140737488355326) (hb3:d.length+8≤140737488355327):
  Aal K (n+1) (Ak6 w.fC.A6.toNat c) (Ak6 w.fL.length s) (Ak6 w.fL.length d) w.fQ (w.fQ.length:Int) i w.fC.A6 w.fC.Kh w.fC.Fj w.fC.Hb w.fC.Fk w.fC.Ki w.fP.Sk w.fP.Yq w.fP.Sl w.fL w.fQ w.Afv
   =bif Amr w x then Aal K n (Ak6 w.fC.A6.toNat (c++x.A6)) (Ak6 w.fL.length (s++if x.Be=0 then []else [Ana .i64 x.Be 1])) (Ak6 w.fL.length (d++Adw w.fL x.Er)) w.fQ (w.fQ.length:Int) ((i+1:Nat):Int) w.fC.A6 w.fC.Kh w.fC.Fj w.fC.Hb w.fC.Fk w.fC.Ki w.fP.Sk w.fP.Yq w.fP.Sl w.fL w.fQ w.Afv else some false:=by
 have hq:=hw.q.2;rw[Aal];rw[show D4.mk w.fC.A6 w.fC.Kh w.fC.Fj w.fC.Hb w.fC.Fk w.fC.Ki=w.fC from rfl,show Dh.mk w.fP.Sk w.fP.Yq w.fP.Sl=w.fP from rfl]
 rw[Agh hi,cond_true,if_pos (Akh hi),he,A7i hK _ _ hx,Z0];unfold Amr;cases hr:Ami w.fC x with
 |false=>rfl
 |true=>
 rw[cond_true,Z30];obtain⟨hc,⟨s1,s2⟩,⟨f1,f2⟩,hd,d1,d2⟩:=Ap7 hr;obtain⟨_,hm,hst,_⟩:=Asu hp;obtain⟨b1,b2,b3,_⟩:=Ap hc
 have hch:=Av8 hd
 have hcl:=Auk hc hd
 have h5: ∀s',Ao0 K (Ak6 w.fL.length d) w.fQ (w.fQ.length:Int) i w.fC.A6 w.fC.Kh w.fC.Fj w.fC.Hb w.fC.Fk w.fC.Ki w.fP.Sk w.fP.Yq w.fP.Sl w.fL w.fQ w.Afv x.Er (Ak6 w.fC.A6.toNat (c++x.A6)) s' (Aal K n)
   =bif Ary w x then Aal K n (Ak6 w.fC.A6.toNat (c++x.A6)) s' (Ak6 w.fL.length (d++Adw w.fL x.Er)) w.fQ (w.fQ.length:Int) ((i+1:Nat):Int) w.fC.A6 w.fC.Kh w.fC.Fj w.fC.Hb w.fC.Fk w.fC.Ki w.fP.Sk w.fP.Yq w.fP.Sl w.fL w.fQ w.Afv else some false:=by
  intro s'
  have hk:=Aze (l:=w.fL) w.fL.length (Ana .i64 x.Er 1)
  have hin:=A12 (l:=w.fL) w.fL.length (Ana .i64 x.Er 1);unfold Ao0 Ary;rw[A13 hK hw.l,Z0];change (Adw w.fL x.Er).length≤_ at hk;change ∀y∈Adw w.fL x.Er,_ at hin;generalize Adw w.fL x.Er=r at*
  refine Bax hK w.fL.length d r hin (by omega) (Awm w.fL) _ _ (fun m v j=>Aj8 K w.fQ (w.fQ.length:Int) i w.fC.A6 w.fC.Kh w.fC.Fj w.fC.Hb w.fC.Fk w.fC.Ki w.fP.Sk w.fP.Yq w.fP.Sl w.fL w.fQ w.Afv (Ak6 w.fC.A6.toNat (c++x.A6)) s' r (Aal K n) m v (r.length:Int) j) (fun m v j hj hv=> ?_) (fun m=> ?_)
  ·have hr1:=hin _ (Ao9 hj);simp only[Aj8];rw[Agh hj,cond_true,if_pos (Akh hj),if_pos (by rw[hv];exact hr1),if_pos (by rw[hv];exact hr1),A48 K hw.l hr1,Agd (by omega),Z0,Ady,Acm hj]
  ·show Aj8 K _ _ _ _ _ _ _ _ _ _ _ _ _ _ _ _ _ _ _ (m+1) _ _ _=_;rw[Aj8,Agl (Z9 _),cond_false,Agd (by omega)]
 have h4: ∀s',Ao1 K (Ak6 w.fL.length d) w.fQ (w.fQ.length:Int) i w.fC.A6 w.fC.Kh w.fC.Fj w.fC.Hb w.fC.Fk w.fC.Ki w.fP.Sk w.fP.Yq w.fP.Sl w.fL w.fQ w.Afv x.Er (Ak6 w.fC.A6.toNat (c++x.A6)) (Aal K n) s'
   =bif Axk w x&&Ary w x then Aal K n (Ak6 w.fC.A6.toNat (c++x.A6)) s' (Ak6 w.fL.length (d++Adw w.fL x.Er)) w.fQ (w.fQ.length:Int) ((i+1:Nat):Int) w.fC.A6 w.fC.Kh w.fC.Fj w.fC.Hb w.fC.Fk w.fC.Ki w.fP.Sk w.fP.Yq w.fP.Sl w.fL w.fQ w.Afv else some false:=by
  intro s';unfold Ao1 Axk;rw[h5]
  by_cases g:x.Er=0
  ·rw[g];rfl
  ·rw[decide_eq_true (by omega),cond_true,if_pos (A3v hK hL hc g f1 f2),Ail g]
   simp only[bne,Ady,Z52];cases (gt w.fL (Ana .i64 x.Er 1)).Wm==0<;>rfl
 have h2:Ao2 K (Ak6 w.fC.A6.toNat c) (Ak6 w.fL.length s) (Ak6 w.fL.length d) w.fQ (w.fQ.length:Int) i w.fC.A6 w.fC.Kh w.fC.Fj w.fC.Hb w.fC.Fk w.fC.Ki w.fP.Sk w.fP.Yq w.fP.Sl w.fL w.fQ w.Afv (Aal K n) x.Be x.Er x.F3 x.A6 x.Wo
   =bif A1e w x&&(Avd w x&&(Axk w x&&Ary w x))then Aal K n (Ak6 w.fC.A6.toNat (c++x.A6)) (Ak6 w.fL.length (s++if x.Be=0 then []else [Ana .i64 x.Be 1])) (Ak6 w.fL.length (d++Adw w.fL x.Er)) w.fQ (w.fQ.length:Int) ((i+1:Nat):Int) w.fC.A6 w.fC.Kh w.fC.Fj w.fC.Hb w.fC.Fk w.fC.Ki w.fP.Sk w.fP.Yq w.fP.Sl w.fL w.fQ w.Afv else some false:=by
  unfold Ao2;rw[Bax hK w.fC.A6.toNat c x.A6 (fun y hy=>by have:=hch y hy;omega) (by omega) (fun k=>gt w.fP.Yq k==2)
   (bif Avd w x&&(Axk w x&&Ary w x)then Aal K n (Ak6 w.fC.A6.toNat (c++x.A6)) (Ak6 w.fL.length (s++if x.Be=0 then []else [Ana .i64 x.Be 1])) (Ak6 w.fL.length (d++Adw w.fL x.Er)) w.fQ (w.fQ.length:Int) ((i+1:Nat):Int) w.fC.A6 w.fC.Kh w.fC.Fj w.fC.Hb w.fC.Fk w.fC.Ki w.fP.Sk w.fP.Yq w.fP.Sl w.fL w.fQ w.Afv else some false) (some false)
   (fun m v j=>Aka K (Ak6 w.fL.length s) (Ak6 w.fL.length d) w.fQ (w.fQ.length:Int) i w.fC.A6 w.fC.Kh w.fC.Fj w.fC.Hb w.fC.Fk w.fC.Ki w.fP.Sk w.fP.Yq w.fP.Sl w.fL w.fQ w.Afv x.Be x.Er x.A6 (Aal K n) m v (x.A6.length:Int) j x.A6) (fun m v j hj hv=> ?_) (fun m=> ?_)]
  ·unfold A1e;cases x.A6.all _<;>rfl
  ·have hr1:=hch _ (Ao9 hj);simp only[Aka];rw[Agh hj,cond_true,if_pos (Akh hj),if_pos (by rw[hv];omega),if_pos (by rw[hv];omega),if_pos ⟨hr1.1,by omega⟩,Agd (by omega),bne,Ady,Acm hj]
  ·show Aka K _ _ _ _ _ _ _ _ _ _ _ _ _ _ _ _ _ _ _ _ _ (m+1) _ _ _ _=_;rw[Aka,Agl (Z9 _),cond_false,h4,h4,A14];unfold Avd
   by_cases g:x.Be=0
   ·rw[g,if_pos rfl,List.append_nil];rfl
   ·have hlk:=A3v hK hL hc g s1 s2;rw[decide_eq_true (by omega),cond_true,if_pos hlk,if_pos hlk,if_neg g,Bav hlk.1 hlk.2 (by omega),Ail g]
    simp only[bne,Ady,Z52,if_pos hlk];cases (gt w.fL (Ana .i64 x.Be 1)).Yq==2<;>rfl
 rw[h2];unfold Aol
 by_cases g:(x.A6.length:Int)>0
 ·have h5:=hch _ (Ank (l:=x.A6) (Int.le_refl 0) (by omega))
  obtain⟨e1,e2,e3,e4⟩:=A0r hc hm h5.1 h5.2
  have hlc:(As7 w.fC w.fP.Sk (gt x.A6 0)).length=w.fC.Kh.toNat:=by unfold As7;simp;omega
  have htk:List.take (x.Wo - 0).toNat (List.drop (0:Int).toNat (As7 w.fC w.fP.Sk (gt x.A6 0)))=List.take x.Wo.toNat (List.drop (gt x.A6 0*w.fC.Kh).toNat w.fP.Sk):=by
   unfold As7;simp only[Int.sub_zero,Int.toNat_zero,Z55,List.take_take];rw[Nat.min_eq_left (by omega)]
  rw[decide_eq_true g,cond_true,if_pos ⟨by omega,by omega⟩,A53 hK hc hm h5.1 h5.2,Z0,if_pos ⟨by omega,by omega,by rw[hlc];omega⟩,htk,A1x hK _ (by simp;omega)]
  simp only[Z0,Ady,Bool.not_true,Z52];cases Apd (List.take x.Wo.toNat (List.drop (gt x.A6 0*w.fC.Kh).toNat w.fP.Sk))<;>cases A1e w x<;>rfl
 ·rw[decide_eq_false g];simp only[cond_false,Bool.not_false,Bool.true_or,Z30]
theorem Bdx (q:List Av):(slL q).length≤q.length:=by
 have:=A3w q (fun x=>if x.Be=0 then []else [Ana .i64 x.Be 1]) 1 (fun x _=>by split<;>simp)
 simpa[slL]using this
theorem A8z (l:List A8)(hl:l.length≤8)(q:List Av):(kdL l q).length≤q.length*8:=
 A3w _ _ 8 fun x _=>Su (Aze _ _) hl
end
theorem Bcm{β:Type}(N:Nat)(hN:N≤140737488355327)(q:Nat->Bool)(fin:Int->Option β)(L:Nat->Int->Int->Option β)
  (hs: ∀n (v:Int) (i:Nat),i<N->0≤v->v≤i->L (n+1) v (i:Int)=bif q i then L n (v+1) ((i+1:Nat):Int)else L n v ((i+1:Nat):Int))
  (he: ∀n v,L (n+1) v (N:Int)=fin v):
  ∀(n i:Nat) (v:Int),0≤v->v≤i->i≤N->N - i<n->L n v (i:Int)=fin (v+((((List.range N).drop i).filter q).length:Int)):=by
 intro n
 induction n with
 |zero=>intro i v _ _ _ h;omega
 |succ n ih=>
  intro i v h0 hv hi hn;rcases Ez i N with h|h
  ·rw[hs n v i h h0 hv,Z47 (by simpa using h),List.getElem_range,List.filter_cons]
   cases hq:q i with
   |true=>
    rw[cond_true,ih (i+1) _ (by omega) (by omega) (by omega) (by omega)]
    simp only[if_true,Ws]
    congr 1
    omega
   |false=>
    rw[cond_false,ih (i+1) _ (by omega) (by omega) (by omega) (by omega)]
    simp
  ·obtain rfl:i=N:=by omega
   rw[he,Z48 (by simp)];simp
theorem A80{v:Int}(h0:0≤v)(h:v≤140737488355328):Am9 .i64 v 1=v+1:=by unfold Am9;rw[Aa3 (by omega) (by omega)]
section
variable {K:Nat} (hK:281474976710656≤K)
include hK
theorem A81 (w:Ds)(hw:Aoc w)(hp:Aty w.fC w.fP=true)(hL:(w.fL.length:Int)=w.fC.Fj):Arp K w=some (w.fQ.all (Amr w)&&Awa w w.fC.A6.toNat):=by
 obtain⟨hc,hm,hst,_⟩:=Asu hp;obtain⟨b1,b2,b3,_⟩:=Ap hc
 have hq:=hw.q.2
 have key: ∀(n i:Nat),(∀x∈w.fQ.take i,Amr w x=true)->i≤w.fQ.length->w.fQ.length - i<n→
   Aal K n (Ak6 w.fC.A6.toNat (chL (w.fQ.take i))) (Ak6 w.fL.length (slL (w.fQ.take i))) (Ak6 w.fL.length (kdL w.fL (w.fQ.take i))) w.fQ (w.fQ.length:Int) i w.fC.A6 w.fC.Kh w.fC.Fj w.fC.Hb w.fC.Fk w.fC.Ki w.fP.Sk w.fP.Yq w.fP.Sl w.fL w.fQ w.Afv=some ((w.fQ.drop i).all (Amr w)&&Awa w w.fC.A6.toNat):=by
  intro n
  induction n with
  |zero=>intro i _ _ h;omega
  |succ n ih=>
   intro i hpre hi hn;rcases Ez i w.fQ.length with h|h
   ·have hb1:(chL (w.fQ.take i)).length≤(w.fQ.take i).length*12:=A3w _ _ 12 fun x hx=>by
     have:=hpre x hx;unfold Amr at this;simp only[Z4]at this;obtain⟨hc,_,_,hd,_⟩:=Ap7 this.1;exact Auk hc hd
    have hb2:=Bdx hK (w.fQ.take i)
    have hb3:=A8z hK w.fL (by omega) (w.fQ.take i)
    rw[List.length_take]at hb1 hb2 hb3;rw[Bcl hK w hw hp hL w.fQ[i] (hw.q.1 _ (List.getElem_mem h)) _ _ _ i n h (Acm h) (by omega) (by omega) (by omega),Z47 h,Fp]
    cases hx:Amr w w.fQ[i]with
    |false=>rfl
    |true=>
     rw[cond_true,Z30,←ih (i+1) (fun x hx2=>by
      rw[←List.take_append_getElem h,F8]at hx2;rcases hx2 with hx2|hx2
      ·exact hpre x hx2
      ·simp only[Mk]at hx2;rw[hx2];exact hx) h (by omega)]
     unfold chL slL kdL;rw[Azf _ _ _ h,Azf _ _ _ h,Azf _ _ _ h]
   ·obtain rfl:i=w.fQ.length:=by omega
    rw[Aal,Agl (Z9 _),cond_false,List.take_length,Bfq hK w hw hp,List.drop_length];rfl
 unfold Arp;rw[if_pos ⟨by omega,by omega,by omega,by omega⟩,if_pos ⟨by omega,by omega,by omega,by omega⟩,if_pos ⟨by omega,by omega,by omega,by omega⟩]
 have:=key K 0 (fun x hx=>by simp at hx) (Z21 _) (by omega)
 rw[List.take_zero,Z55,show chL []=[] from rfl,show slL []=[] from rfl,show kdL w.fL []=[] from rfl,Bau,Bau]at this
 rw[←this,show w.fL.length=w.fC.Fj.toNat by omega]
 rfl
theorem A82 (p:Dh)(st:Int)(hl:p.Yq.length≤140737488355327):Aw3 K p st=some ((((List.range p.Yq.length).filter (fun k:Nat=>gt p.Yq k==st)).length:Nat):Int):=by
 unfold Aw3
 have:=Bcm p.Yq.length hl (fun k:Nat=>gt p.Yq k==st) some (fun n v i=>Aof K st n v i p.Sk p.Yq p.Sl) (fun n v i hi h0 hv=> ?_) (fun n v=> ?_) K 0 0 (Int.le_refl _) (Int.le_refl _) (Z21 _) (by omega)
 ·simpa using this
 ·simp only[Aof,Auq];rw[Agh hi,cond_true,if_pos (Akh hi),Agd (by omega),A80 h0 (by omega)]
 ·show Aof K st (n+1) v _ _ _ _=_;rw[Aof,Agl (Z9 _),cond_false]
theorem A1n (l:List A8)(st:Int)(hl:l.length≤140737488355327):Apu K l st=some ((((List.range l.length).filter (fun k:Nat=>(gt l k).Yq==st)).length:Nat):Int):=by
 unfold Apu
 have:=Bcm l.length hl (fun k:Nat=>(gt l k).Yq==st) some (fun n v i=>Aki K l st n v i) (fun n v i hi h0 hv=> ?_) (fun n v=> ?_) K 0 0 (Int.le_refl _) (Int.le_refl _) (Z21 _) (by omega)
 ·simpa using this
 ·simp only[Aki,Arv];rw[Agh hi,cond_true,if_pos (Akh hi),Agd (by omega),A80 h0 (by omega)]
 ·show Aki K l st (n+1) v _=_;rw[Aki,Agl (Z9 _),cond_false]
theorem Bcn (w:Ds)(hw:Aoc w)(v1 v2:Int)(v3:List Int)(h3:v3.length≤140737488355327):
  Aih K v1 v2 v3 w.fP.Sk w.fP.Yq w.fP.Sl w.fL K 0 0=some (A4p v3&&((v1==((A5a w).length:Int))&&((v2==((A22 w).length:Int))&&((v3.length:Int)==((A6b w).length:Int))))):=by
 have hl:=Aen hw.l
 have hs:=A1a hK hw.p.st
 have h8: ∀v24,Ame K v1 v2 v3 w.fP.Sk w.fP.Yq w.fP.Sl w.fL v24 K 0=some (A4p v3&&((v1==((A5a w).length:Int))&&((v2==((A22 w).length:Int))&&((v3.length:Int)==v24)))):=by
  intro v24;rw[Apc hK v3.length (by omega) (fun i=> !(v3.take i).contains (gt v3 i)) (some ((v1==((A5a w).length:Int))&&((v2==((A22 w).length:Int))&&((v3.length:Int)==v24)))) (fun n i=>Ame K v1 v2 v3 w.fP.Sk w.fP.Yq w.fP.Sl w.fL v24 n i) (fun n i h=> ?_) (fun n=> ?_)]
  ·rw[Akg];rfl
  ·have hp:(v3.take i).length≤140737488355328:=by simp;omega
   simp only[Ame];rw[Agh h,cond_true,if_pos (Bal (by omega)),if_pos (Akh h),A4k,Azm hK _ _ hp,Agd (by omega),Z0,Ady]
  ·show Ame K v1 v2 v3 _ _ _ _ v24 (n+1) _=_;rw[Ame,Agl (Z9 _),cond_false,A82 hK _ _ hs,A1n hK _ _ hl];simp only[Z0,Akg];unfold A5a A22;simp only[Bn]
 have:=Bcm w.fL.length hl (fun k:Nat=>Awm w.fL k) (fun v=>some (A4p v3&&((v1==((A5a w).length:Int))&&((v2==((A22 w).length:Int))&&((v3.length:Int)==v))))) (fun n v i=>Aih K v1 v2 v3 w.fP.Sk w.fP.Yq w.fP.Sl w.fL n v i) (fun n v i hi h0 hv=> ?_) (fun n v=> ?_) K 0 0 (Int.le_refl _) (Int.le_refl _) (Z21 _) (by omega)
 ·rw[show((0:Nat):Int)=0 from rfl]at this
  rw[this];unfold A6b;simp only[Bn,Z55,Int.zero_add]
 ·simp only[Aih,As4];rw[Agh hi,cond_true,A47 K hw.l (Akh hi),Z0,Agd (by omega),A80 h0 (by omega)]
 ·show Aih K v1 v2 v3 _ _ _ _ (n+1) v _=_;rw[Aih,Agl (Z9 _),cond_false,h8]
theorem Bay (w:Ds)(hw:Aoc w)(i n:Nat)(hi:i<w.fQ.length)(v1 v2:Int)(v3:List Int)(h1:0≤v1∧v1≤70368744177664)(h2:0≤v2∧v2≤70368744177664)(h3:(v3.length+w.fL.length)*8≤140737488355327)(hcl:(gt w.fQ i).A6.length≤12):
  Agp K (n+1) v1 v2 v3 i w.fC.A6 w.fC.Kh w.fC.Fj w.fC.Hb w.fC.Fk w.fC.Ki w.fP.Sk w.fP.Yq w.fP.Sl w.fL w.fQ w.Afv
   =bif (List.range i).all (fun k=>A3b w.fQ i k)then Agp K n (v1+((gt w.fQ i).A6.length:Int)) (v2+((if(gt w.fQ i).Be=0 then([]:List Int)else [Ana .i64 (gt w.fQ i).Be 1]).length:Int)) (v3++Adw w.fL (gt w.fQ i).Er) ((i+1:Nat):Int) w.fC.A6 w.fC.Kh w.fC.Fj w.fC.Hb w.fC.Fk w.fC.Ki w.fP.Sk w.fP.Yq w.fP.Sl w.fL w.fQ w.Afv else some false:=by
 have hq:=hw.q.2
 have hm:=Adv
 have hx:=hw.q.1 _ (Ao9 hi)
 have hkl:=Aze (l:=w.fL) w.fL.length (Ana .i64 (gt w.fQ i).Er 1);change (Adw w.fL (gt w.fQ i).Er).length≤_ at hkl
 have hJ: ∀v17 v18,Aqx K v3 i w.fC.A6 w.fC.Kh w.fC.Fj w.fC.Hb w.fC.Fk w.fC.Ki w.fP.Sk w.fP.Yq w.fP.Sl w.fL w.fQ w.Afv (Agp K n) v17 v18
   =bif (List.range i).all (fun k=>A3b w.fQ i k)then Agp K n v17 v18 (v3++Adw w.fL (gt w.fQ i).Er) ((i+1:Nat):Int) w.fC.A6 w.fC.Kh w.fC.Fj w.fC.Hb w.fC.Fk w.fC.Ki w.fP.Sk w.fP.Yq w.fP.Sl w.fL w.fQ w.Afv else some false:=by
  intro v17 v18;unfold Aqx
  have hlen:(v3++Adw w.fL (gt w.fQ i).Er).length=v3.length+(Adw w.fL (gt w.fQ i).Er).length:=by simp
  rw[if_pos (Akh hi),A49 hK hw.l hx.first,Z0,if_pos ⟨by rw[hlen];omega,by rw[hlen];omega⟩]
  rw[Apc hK i (by omega) (fun k=>A3b w.fQ i k) _ (fun m k=>Amd K i w.fC.A6 w.fC.Kh w.fC.Fj w.fC.Hb w.fC.Fk w.fC.Ki w.fP.Sk w.fP.Yq w.fP.Sl w.fL w.fQ w.Afv v17 v18 (Agp K n) m (v3++Adw w.fL (gt w.fQ i).Er) k) (fun m k hk=> ?_) (fun m=> ?_)]
  ·have hk2:k<w.fQ.length:=by omega
   have hlk:=A1a hK (hw.q.1 _ (Ao9 hk2)).chunks
   have h4: ∀C:List Int->Int->Option Bool,Aqw K i w.fQ (v3++Adw w.fL (gt w.fQ i).Er) k C=bif (gt w.fQ i).A6.all (fun y=> !(gt w.fQ k).A6.contains y)then C (v3++Adw w.fL (gt w.fQ i).Er) ((k+1:Nat):Int)else some false:=by
    intro C;unfold Aqw;rw[As6 hK (gt w.fQ i).A6 (by omega) (fun y=> !(gt w.fQ k).A6.contains y) _ (fun m j=>Anz K i w.fQ (v3++Adw w.fL (gt w.fQ i).Er) k C m j) (fun m j hj=> ?_) (fun m=> ?_)]
    ·simp only[Anz];rw[if_pos (Akh hi),Agh hj,cond_true,if_pos (Akh hk2),if_pos (Akh hj),Azm hK _ _ (by omega),Z0,Agd (by omega),Ady,Acm hj,if_pos (Akh hi)]
    ·show Anz K i w.fQ _ k C (m+1) _=_;rw[Anz,if_pos (Akh hi),Agl (Z9 _),cond_false,Agd (by omega)]
   simp only[Amd];rw[Agh hk,cond_true,if_pos (Akh hi),if_pos (Akh hk2),if_pos (Akh hi),h4];unfold A3b;cases (gt w.fQ (i:Int)).Be != 0<;>cases (gt w.fQ (k:Int)).Be==(gt w.fQ (i:Int)).Be<;>cases (gt w.fQ i).A6.all _<;>rfl
  ·show Amd K i _ _ _ _ _ _ _ _ _ _ _ _ v17 v18 _ (m+1) _ _=_;rw[Amd,Agl (Z9 _),cond_false,Agd (by omega)]
 rw[Agp,Agh hi,cond_true,if_pos (Akh hi),if_pos (Akh hi),hJ,hJ]
 have e1:Am9 .i64 v1 ((gt w.fQ i).A6.length:Int)=v1+((gt w.fQ i).A6.length:Int):=by unfold Am9;rw[Aa3 (by omega) (by omega)]
 rw[e1,A80 h2.1 (by omega)]
 by_cases g:(gt w.fQ i).Be=0
 ·rw[if_pos g,g];simp
 ·rw[if_neg g,Aqd g];simp
theorem Baz (w:Ds)(hw:Aoc w)(hp:Aty w.fC w.fP=true)(hL:(w.fL.length:Int)=w.fC.Fj)(hall: ∀x∈w.fQ,Amr w x=true):Aur K w=some (A5q w):=by
 obtain⟨hc,hm,hst,_⟩:=Asu hp;obtain⟨b1,b2,b3,_⟩:=Ap hc
 have hq:=hw.q.2
 have hc12: ∀x∈w.fQ,x.A6.length≤12:=fun x hx=>by
  have:=hall x hx;unfold Amr at this;simp only[Z4]at this;obtain⟨hc,_,_,hd,_⟩:=Ap7 this.1;exact Auk hc hd
 have h3:=A8z hK w.fL (by omega) w.fQ
 unfold Aur
 have:=A5r hK (List.range w.fQ.length) (by simp;omega) (fun i=>(List.range i).all (fun k=>A3b w.fQ i k)) (Aih K ((chL w.fQ).length:Int) ((slL w.fQ).length:Int) (kdL w.fL w.fQ) w.fP.Sk w.fP.Yq w.fP.Sl w.fL K 0 0) (some false)
  (fun n i=>Agp K n ((chL (w.fQ.take i)).length:Int) ((slL (w.fQ.take i)).length:Int) (kdL w.fL (w.fQ.take i)) (i:Int) w.fC.A6 w.fC.Kh w.fC.Fj w.fC.Hb w.fC.Fk w.fC.Ki w.fP.Sk w.fP.Yq w.fP.Sl w.fL w.fQ w.Afv) (fun n i h=> ?_) (fun n=> ?_)
 ·rw[List.take_zero,show chL []=[] from rfl,show slL []=[] from rfl,show kdL w.fL []=[] from rfl]at this
  refine Eq.trans this ?_;rw[Bcn hK w hw _ _ _ (by omega),Akg]
  rfl
 ·have hi:i<w.fQ.length:=by simpa using h
  have hb1:(chL (w.fQ.take i)).length≤(w.fQ.take i).length*12:=A3w _ _ 12 fun x hx=>hc12 x (Yv hx)
  have hb2:=Bdx hK (w.fQ.take i)
  have hb3:=A8z hK w.fL (by omega) (w.fQ.take i)
  rw[List.length_take]at hb1 hb2 hb3;simp only[List.getElem_range];rw[Bay hK w hw i n hi _ _ _ ⟨by omega,by omega⟩ ⟨by omega,by omega⟩ (by omega) (hc12 _ (Ao9 hi))]
  unfold chL slL kdL;rw[Azf _ _ _ hi,Azf _ _ _ hi,Azf _ _ _ hi,Acm hi,H8,H8];rfl
 ·rw[List.length_range,List.take_length,Agp,Agl (Z9 _),cond_false]
end
def A4q (w:Ds):Bool:=
 Aty w.fC w.fP&&(((w.fL.length:Int)==w.fC.Fj)&&((List.range w.fL.length).all (A43 w)&&(A46 w.fL&&((w.fQ.all (Amr w)&&Awa w w.fC.A6.toNat)&&w.Afv.all (fun x=>inB x 0 255)))))
section
variable {K:Nat} (hK:281474976710656≤K)
include hK
theorem A3x (w:Ds)(hw:Aoc w):Aue K w=some (A4q w):=by
 have hl:=A1a hK hw.log;unfold Aue A4q;rw[Baj hK,Z0];cases hp:Aty w.fC w.fP with
 |false=>rfl
 |true=>
 rw[cond_true,Z30];cases hL:(w.fL.length:Int)==w.fC.Fj with
 |false=>rfl
 |true=>
 rw[beq_iff_eq]at hL;rw[cond_true,Z30,A8u hK w hw hp,Bat hK hw.l,A81 hK w hw hp hL,A0k hK _ (by omega)]
 simp only[Z0,Akg]
theorem Aza (w:Ds)(hw:Aoc w):Aqy K w=some (A4q w):=by
 have hl:=A1a hK hw.log
 have hl2:=Aen hw.l
 have hq:=hw.q.2;unfold Aqy A4q;rw[A41 hK,Z0];cases hp:Aty w.fC w.fP with
 |false=>rfl
 |true=>
 rw[cond_true,Z30];cases hL:(w.fL.length:Int)==w.fC.Fj with
 |false=>rw[bne,hL];rfl
 |true=>
 rw[bne,hL,Bool.not_true,cond_false,Z30,Bas hK hw.l,Z0,Ady];rw[beq_iff_eq]at hL
 have e1:D4.mk w.fC.A6 w.fC.Kh w.fC.Fj w.fC.Hb w.fC.Fk w.fC.Ki=w.fC:=rfl
 have e2:Ds.mk (D4.mk w.fC.A6 w.fC.Kh w.fC.Fj w.fC.Hb w.fC.Fk w.fC.Ki) (Dh.mk w.fP.Sk w.fP.Yq w.fP.Sl) w.fL w.fQ w.Afv=w:=rfl
 have h3:w.fQ.all (Amr w)=true->Aoh K w.fC.A6 w.fC.Kh w.fC.Fj w.fC.Hb w.fC.Fk w.fC.Ki w.fP.Sk w.fP.Yq w.fP.Sl w.fL w.fQ w.Afv K 0=some (w.Afv.all (fun x=>inB x 0 255)&&Awa w w.fC.A6.toNat):=by
  intro hall;rw[Z1]at hall;rw[Bsw hp hL hall];rw[As6 hK w.Afv (by omega) (fun x=>inB x 0 255) (some (A5q w)) (Aoh K w.fC.A6 w.fC.Kh w.fC.Fj w.fC.Hb w.fC.Fk w.fC.Ki w.fP.Sk w.fP.Yq w.fP.Sl w.fL w.fQ w.Afv) (fun n i h=> ?_) (fun n=> ?_)]
  ·rw[Akg]
  ·rw[Aoh,Agh h,cond_true,if_pos (Akh h),Aon,Agd (by omega),Z0,Ady,Acm h]
  ·rw[Aoh,Agl (Z9 _),cond_false,e2,Baz hK w hw hp hL hall,Z0]
 have h2:Apg K w.fC.A6 w.fC.Kh w.fC.Fj w.fC.Hb w.fC.Fk w.fC.Ki w.fP.Sk w.fP.Yq w.fP.Sl w.fL w.fQ w.Afv K 0=some (w.fQ.all (Amr w)&&(w.Afv.all (fun x=>inB x 0 255)&&Awa w w.fC.A6.toNat)):=by
  rw[As6 hK w.fQ (by omega) (Amr w) (Aoh K w.fC.A6 w.fC.Kh w.fC.Fj w.fC.Hb w.fC.Fk w.fC.Ki w.fP.Sk w.fP.Yq w.fP.Sl w.fL w.fQ w.Afv K 0) (Apg K w.fC.A6 w.fC.Kh w.fC.Fj w.fC.Hb w.fC.Fk w.fC.Ki w.fP.Sk w.fP.Yq w.fP.Sl w.fL w.fQ w.Afv) (fun n i h=> ?_) (fun n=> ?_)]
  ·cases hall:w.fQ.all (Amr w)with
   |false=>rfl
   |true=>rw[cond_true,h3 hall];rfl
  ·rw[Apg,Agh h,cond_true,e2,A7j hK w hw hp hL i h,Agd (by omega),Z0,Ady,Acm h]
  ·rw[Apg,Agl (Z9 _),cond_false]
 have h1:Aoi K K 0 w.fC.A6 w.fC.Kh w.fC.Fj w.fC.Hb w.fC.Fk w.fC.Ki w.fP.Sk w.fP.Yq w.fP.Sl w.fL w.fQ w.Afv=some ((List.range w.fL.length).all (A43 w)&&(w.fQ.all (Amr w)&&(w.Afv.all (fun x=>inB x 0 255)&&Awa w w.fC.A6.toNat))):=by
  rw[Apc hK w.fL.length (by omega) (A43 w) (some (w.fQ.all (Amr w)&&(w.Afv.all (fun x=>inB x 0 255)&&Awa w w.fC.A6.toNat))) (fun n i=>Aoi K n i w.fC.A6 w.fC.Kh w.fC.Fj w.fC.Hb w.fC.Fk w.fC.Ki w.fP.Sk w.fP.Yq w.fP.Sl w.fL w.fQ w.Afv) (fun n k hk=> ?_) (fun n=> ?_)]
  ·rw[Akg]
  ·simp only[Aoi];rw[e2,e1]
   have hn:=hw.l.1 _ (Ao9 hk)
   have l1:=A1a hK hn.chunks
   have l2:=Bdv hK hn.things
   have l3:=A1a hK hn.tags;rw[Agh hk,cond_true,if_pos (Akh hk),Awk hK _ _ l1 l2 l3,Z0,A57 hK w k hk hw.p.st.2 l1,Agd (by omega),A7e hK _ _ l1 l2]
   simp only[Z0];unfold A43;cases hb:Aqe w.fC (gt w.fL k)with
   |false=>rfl
   |true=>
   cases Az8 w.fP k (gt w.fL k).A6 with
   |false=>rfl
   |true=>
   cases hi:(gt w.fL k).H7.all (Aq2 w.fC (gt w.fL k).A6)with
   |false=>simp only[cond_true,Z30,Bool.false_and,cond_false,if_pos (Akh hk)]
   |true=>
   have hs:=A58 hi;rw[A7b hK _ l2 (fun t ht=>(hs t ht).1),Bce hK w k hk hp hn hb hs];simp only[Z0,cond_true,Ady,Z30,if_pos (Akh hk)];cases Aok (gt w.fL k).H7<;>cases Aq3 w.fC w.fP.Sk (gt w.fL k)<;>rfl
  ·show Aoi K (n+1) _ _ _ _ _ _ _ _ _ _ _ _ _=_;rw[Aoi,Agl (Z9 _),cond_false,h2]
 rw[h1];cases A46 w.fL with
 |false=>rw[cond_false];simp
 |true=>
  simp only[cond_true,Z30,Z7]
  ac_rfl
end
theorem Bjv{n:Nat}(h:n≤reachBytes):n≤140737488355327:=by simp only[reachBytes]at h;omega
section
variable {K:Nat} (hK:281474976710656≤K)
include hK
end
theorem Bv2{x:Int}(h:Bai x):0≤x∧x≤255:=by
 simpa[Bai,Lit.wf,IntKind.min,IntKind.max,IntKind.signed,IntKind.bits]using h
theorem Bfr{l:List Int}(h:A8p l):Bjs l:=⟨fun x hx=>Bv2 (h.1 x hx),by have:=Bjv h.2.1;omega⟩
theorem Byh{α:Type}(l:List α)(i:Nat)(x y:α):(l.set i x).set i y=l.set i y:=List.set_set ..
section
variable {K:Nat} (hK:281474976710656≤K)
include hK
def one{α:Type}(_:α):Nat:=1
def Azv (x:A8):Nat:=10+x.A6.length+3*x.H7.length+x.F3.length
def Bco (p:Dh):Nat:=p.Sk.length+p.Yq.length+p.Sl.length
end
section
variable {K:Nat} (hK:281474976710656≤K)
include hK
theorem A5s{α β:Type}(l:List α)(hl:l.length≤140737488355327)(fin:Option β)(L:Nat->List α->Int->Option β)
  (hs: ∀n v (i:Nat) (h:i<l.length),v.length=i->L (n+1) v (i:Int)=L n (v++[l[i]]) ((i+1:Nat):Int))
  (he: ∀n,L (n+1) l (l.length:Int)=fin):L K [] 0=fin:=by
 have:=A5r hK l (by omega) (fun _=>true) fin none (fun n i=>L n (l.take i) (i:Int)) (fun n i h=>by
  rw[hs n _ i h (by simp;omega),List.take_append_getElem];rfl) (fun n=>by rw[List.take_length];exact he n)
 rw[Z1.2 (fun _ _=>rfl)]at this;simpa using this
omit hK in
theorem A0a (K:Nat){p:Dh}(w:Azp p):Aqa K p=some p:=by
 have hm:=Adv
 have h1:=w.mem.2
 have h2:=w.st.2
 have h3:=w.own.2;unfold Aqa;simp only[Yu];rw[if_pos ⟨by omega,by omega⟩,if_pos ⟨by omega,by omega⟩,if_pos ⟨by omega,by omega⟩]
omit hK in
theorem Awn (K:Nat){n:A8}(w:Asv n):Am3 K n=some n:=by
 have hm:=Adv
 have h1:=w.chunks.2
 have h2:=w.things.2
 have h3:=w.tags.2;unfold Am3;simp only[Yu];rw[if_pos ⟨by omega,by omega⟩,if_pos ⟨by omega,by omega⟩,if_pos ⟨by omega,by omega⟩]
theorem A1f{l:List A8}(w:Agf l):As3 K l=some l:=by
 have hm:=Adv
 have h2:=w.2;unfold As3;refine A5s hK l (Aen w) (some l) (fun n v i=>Aqr K l n v i) (fun n v i h hv=> ?_) (fun n=> ?_)
 ·have hl:(v++[l[i]]).length=i+1:=by simp[hv]
  simp only[Aqr];rw[Agh h,cond_true,if_pos (Akh h),Acm h,Awn K (w.1 _ (List.getElem_mem h)),Z0,if_pos ⟨by rw[hl];omega,by rw[hl];omega⟩,Agd (by omega)]
 ·show Aqr K l (n+1) _ _=_;rw[Aqr,Agl (Z9 _),cond_false]
omit hK in
theorem A83 (K:Nat){x:Av}(w:A28 x):Aw2 K x=some x:=by
 have hm:=Adv
 have h1:=w.tags.2
 have h2:=w.chunks.2;unfold Aw2;simp only[Yu];rw[if_pos ⟨by omega,by omega⟩,if_pos ⟨by omega,by omega⟩]
theorem Axl{w:Ds}(hw:Aoc w):App K w=some w:=by
 have hm:=Adv
 have h2:=hw.q.2
 have h3:=hw.log.2;unfold App;rw[A0a K hw.p,Z0,A1f hK hw.l,Z0]
 refine A5s hK w.fQ (by omega) (some w) (fun n v i=>Ape K n i w.fC.A6 w.fC.Kh w.fC.Fj w.fC.Hb w.fC.Fk w.fC.Ki w.fP.Sk w.fP.Yq w.fP.Sl w.fL v w.Afv (Ds.mk (D4.mk 0 0 0 0 0 0) (Dh.mk [] [] []) [] [] []) w.fC.A6 w.fC.Kh w.fC.Fj w.fC.Hb w.fC.Fk w.fC.Ki w.fP.Sk w.fP.Yq w.fP.Sl w.fL w.fQ w.Afv) (fun n v i h hv=> ?_) (fun n=> ?_)
 ·have hl:(v++[w.fQ[i]]).length=i+1:=by simp[hv]
  simp only[Ape];rw[Agh h,cond_true,if_pos (Akh h),Acm h,A83 K (hw.q.1 _ (List.getElem_mem h)),Z0,if_pos ⟨by rw[hl];omega,by rw[hl];omega⟩,Agd (by omega)]
 ·show Ape K (n+1) _ _ _ _ _ _ _ _ _ _ _ _ _ _ _ _ _ _ _ _ _ _ _ _ _ _=_;rw[Ape,Agl (Z9 _),cond_false];simp only[Yu];rw[if_pos ⟨by omega,by omega⟩]
omit hK in
theorem A23 (K:Nat){p:Dh}(w:Azp p):Ath K p=some p:=by
 unfold Ath;rw[Bcc K w.mem.2,Asw K w.st.2,Asw K w.own.2];rfl
omit hK in
theorem A7k (K:Nat){n:A8}(w:Asv n):Av4 K n=some n:=by
 unfold Av4;rw[Asw K w.chunks.2,Bao K w.things.2,Asw K w.tags.2];rfl
theorem A15{l:List A8}(w:Agf l):Asr K l=some l:=by
 have hm:=Adv
 have h2:=w.2;unfold Asr;refine A5s hK l (Aen w) (some l) (fun n v i=>An4 K l n v (l.length:Int) i) (fun n v i h hv=> ?_) (fun n=> ?_)
 ·have hl:(v++[l[i]]).length=i+1:=by simp[hv]
  simp only[An4];rw[Agh h,cond_true,if_pos (Akh h),Acm h,A7k K (w.1 _ (List.getElem_mem h)),Z0,if_pos ⟨by rw[hl];omega,by rw[hl];omega⟩,Agd (by omega)]
 ·show An4 K l (n+1) _ _ _=_;rw[An4,Agl (Z9 _),cond_false]
omit hK in
theorem A6c (K:Nat){x:Av}(w:A28 x):Auw K x=some x:=by
 unfold Auw;rw[Asw K w.tags.2,Asw K w.chunks.2];rfl
theorem Ba0{α:Type}(v:List α)(d x:α):(v++[d]).set (v.length:Int).toNat x=v++[x]:=by
 rw[Int.toNat_natCast,List.set_append_right _ _ (Z9 _)];simp
theorem A6d{w:Ds}(hw:Aoc w):Aqn K w=some w:=by
 have hm:=Adv
 have h2:=hw.q.2;unfold Aqn;rw[A23 K hw.p,Z0,A15 hK hw.l,Z0,Asw K hw.log.2,Z0];refine A5s hK w.fQ (by omega) (some w) (fun n v i=>Aob K n w.fQ (w.fQ.length:Int) i (Ds.mk w.fC w.fP w.fL v w.Afv) (Ds.mk (D4.mk 0 0 0 0 0 0) (Dh.mk [] [] []) [] [] [])) (fun n v i h hv=> ?_) (fun n=> ?_)
 ·simp only[Aob];rw[Agh h,cond_true,if_pos (Akh h),Acm h,A6c K (hw.q.1 _ (List.getElem_mem h)),Z0,if_pos ⟨by omega,by omega⟩,Agd (by omega),Ba0 hK]
 ·show Aob K (n+1) _ _ _ _ _=_;rw[Aob,Agl (Z9 _),cond_false]
end
def Bjw (mem:List Int)(p n:Int):List Int×Bool:=if 0≤p∧0≤n∧p+n≤(mem.length:Int)then((mem.drop p.toNat).take n.toNat,true)else([],false)
theorem Bnv{mem:List Int}(a b:Nat):((mem.drop a).take b).length≤mem.length:=by simp;omega
theorem Ba1 (K:Nat){mem:List Int}(hl:mem.length≤140737488355327)(p n:Int):Aub K mem p n=some (decide (0≤p∧0≤n∧p+n≤(mem.length:Int))):=by
 unfold Aub
 by_cases h1:(0:Int)≤p
 ·rw[decide_eq_true (show p≥0 from h1)]
  by_cases h2:(0:Int)≤n
  ·rw[decide_eq_true (show n≥0 from h2)]
   by_cases h3:p≤(mem.length:Int)
   ·rw[decide_eq_true h3];simp only[cond_true,Z7,decide_eq_decide];unfold Ana;rw[Aa3 (by omega) (by omega)]
    omega
   ·rw[decide_eq_false h3];simp only[cond_true,cond_false,Z7];exact(decide_eq_false (by omega)).symm
  ·rw[decide_eq_false (show ¬n≥0 from h2)]
   simp only[cond_true,cond_false,Z7];exact(decide_eq_false (by omega)).symm
 ·rw[decide_eq_false (show ¬p≥0 from h1)]
  simp only[cond_false,Z7];exact(decide_eq_false (by omega)).symm
theorem Bcp (K:Nat){mem:List Int}(hl:mem.length≤140737488355327)(p n:Int):Ay2 K mem p n=some (Bjw mem p n):=by
 unfold Ay2 Bjw;rw[Ba1 K hl];simp only[Z0]
 by_cases h:0≤p∧0≤n∧p+n≤(mem.length:Int)
 ·rw[decide_eq_true h,if_pos h]
  try simp only[cond_true]
  have e:Am9 .i64 p n=p+n:=by unfold Am9;rw[Aa3 (by omega) (by omega)]
  have hc:=Bnv (mem:=mem) p.toNat (p+n - p).toNat;rw[e,if_pos ⟨by omega,by omega,by omega⟩,if_pos ⟨by simp only[Yu,Nat.mul_one];omega,by simp only[Yu,maxLen];omega⟩]
  rw[show p+n - p=n from by omega]
  rfl
 ·rw[decide_eq_false h,if_neg h];rfl
def Bjx (mem:List Int)(t:A7)(at_ n:Int):List Int×Bool:=if 0≤at_∧0≤n∧at_+n≤t.Ai8 then Bjw mem (Am9 .i64 t.fAt at_) n else([],false)
theorem Bjy{mem:List Int}{p n:Int}(h:p<0):Bjw mem p n=([],false):=by unfold Bjw;rw[if_neg (by omega)]
theorem A6e (K:Nat){mem:List Int}(hl:mem.length≤140737488355327){t:A7}(wt:A8r t)(at_ n:Int):Auu K mem t at_ n=some (Bjx mem t at_ n):=by
 obtain⟨wl1,wl2⟩:=wt.2.1;unfold Auu Aw6 Bjx
 by_cases h1:(0:Int)≤at_
 ·rw[decide_eq_true (show at_≥0 from h1)]
  by_cases h2:(0:Int)≤n
  ·rw[decide_eq_true (show n≥0 from h2)]
   by_cases h3:at_≤t.Ai8
   ·rw[decide_eq_true h3]
    have e:Ana .i64 t.Ai8 at_=t.Ai8 - at_:=by unfold Ana;rw[Aa3 (by omega) (by omega)]
    rw[e]
    by_cases h4:n≤t.Ai8 - at_
    ·rw[decide_eq_true h4,if_pos ⟨h1,h2,by omega⟩]
     simp only[cond_true,Bcp K hl];cases decide (t.fAt<0)with
     |true=>rfl
     |false=>
      by_cases h5:(0:Int)≤Am9 .i64 t.fAt at_
      ·rw[decide_eq_true (show Am9 .i64 t.fAt at_≥0 from h5)];rfl
      ·rw[decide_eq_false (show ¬Am9 .i64 t.fAt at_≥0 from h5),Bjy (by omega)];rfl
    ·rw[decide_eq_false h4,if_neg (by omega)];rfl
   ·rw[decide_eq_false h3,if_neg (by omega)];rfl
  ·rw[decide_eq_false (show ¬n≥0 from h2),if_neg (by omega)];rfl
 ·rw[decide_eq_false (show ¬at_≥0 from h1),if_neg (by omega)];rfl
def A7u (w:Ds)(h:Bo):Int:=((Aes w.fL w.fL.length (Ap6 w.fL h)).length:Int)
theorem Bcq{l:List A8}(hl:l.length≤140737488355327)(h:Bo):wfi (Ap6 l h):=by
 by_cases h0:Ap6 l h<0
 ·unfold Ap6 at *;split at h0
  ·rename_i h1;rw[if_pos h1]at *;obtain⟨⟨a,b⟩,_⟩:=h1;exact⟨by omega,by omega⟩
  ·rename_i h1;rw[if_neg h1];exact⟨by omega,by omega⟩
 ·have:=A4m h0;exact⟨by omega,by omega⟩
section
variable {K:Nat} (hK:281474976710656≤K)
include hK
theorem Axz (w:Ds)(hw:Agf w.fL)(h:Bo):Aos K w h=some (A7u w h):=by
 have hl:=Aen hw;unfold Aos Au3;rw[A1b K hl,Z0,A1c hK hw _ (Bcq hl h)];rfl
theorem Bfs (w:Ds)(hw:Agf w.fL)(h:Bo):Ayd K w h=some (A7u w h):=by
 have hl:=Aen hw;unfold Ayd A0j;rw[A3t K hl,Z0,A1d hK hw];rfl
end
section
variable {β:Type} [Inhabited β]
end
section
variable {K:Nat} (hK:281474976710656≤K)
include hK
end
section
variable {K:Nat} (hK:281474976710656≤K)
include hK
end
theorem Bdy{β:Type}(f:β->Nat): ∀(l:List β) (i:Nat) (h:i<l.length) (x:β),((l.set i x).map f).sum+f l[i]=(l.map f).sum+f x
 |[],i,h,x=>by simp at h
 |y::l,0,h,x=>by simp;omega
 |y::l,i+1,h,x=>by
  have:=Bdy f l i (by simpa using h) x
  simp only[List.set_cons_succ,Z8,List.sum_cons,List.getElem_cons_succ]at this ⊢;omega
theorem A1g{l:List A8}(hl:Agf l)(i:Nat){x:A8}(hx:Asv x):Agf (l.set i x):=
 ⟨fun y hy=>(Z54 hy).elim (hl.1 y) (fun e=>e ▸ hx),by rw[Z49];exact hl.2⟩
def Az1 (p:Dh)(k:Int):Dh:=if(0≤k∧k<(p.Yq.length:Int)∧k<(p.Sl.length:Int))∧gt p.Yq k=1 then Dh.mk p.Sk (p.Yq.set k.toNat 2) (p.Sl.set k.toNat (-1))else p
theorem A84{p:Dh}(hp:Azp p)(k:Int):Azp (Az1 p k)∧Bco (Az1 p k)=Bco p:=by
 unfold Az1;split
 ·refine⟨⟨hp.mem,⟨fun x hx=> ?_,by rw[Z49];exact hp.st.2⟩,⟨fun x hx=> ?_,by rw[Z49];exact hp.own.2⟩⟩,by simp[Bco]⟩
  ·rcases Z54 hx with h|h
   ·exact hp.st.1 x h
   ·subst h;exact⟨by omega,by omega⟩
  ·rcases Z54 hx with h|h
   ·exact hp.own.1 x h
   ·subst h;exact⟨by omega,by omega⟩
 ·exact⟨hp,rfl⟩
theorem A6f (K:Nat){p:Dh}(hp:Azp p)(k:Int):Ayx K p k=some (Az1 p k):=by
 have h1:=hp.st.2;unfold Ayx Ar8 Az1;rw[A0a K hp,Z0,Azq K (by omega),Z0]
 by_cases hs:0≤k∧k<(p.Yq.length:Int)
 ·rw[decide_eq_true hs,cond_true]
  by_cases ho:k<(p.Sl.length:Int)
  ·rw[decide_eq_true ho,cond_true,if_pos hs,if_pos hs,if_pos ⟨hs.1,ho⟩]
   by_cases h:gt p.Yq k=1
   ·rw[if_pos ⟨⟨hs.1,hs.2,ho⟩,h⟩,h];rfl
   ·rw[if_neg (show ¬((0≤k∧k<(p.Yq.length:Int)∧k<(p.Sl.length:Int))∧gt p.Yq k=1) from fun x=>h x.2),Ail h];rfl
  ·rw[decide_eq_false ho,if_neg (show ¬((0≤k∧k<(p.Yq.length:Int)∧k<(p.Sl.length:Int))∧gt p.Yq k=1) from fun x=>ho x.1.2.2)];rfl
 ·rw[decide_eq_false hs,if_neg (show ¬((0≤k∧k<(p.Yq.length:Int)∧k<(p.Sl.length:Int))∧gt p.Yq k=1) from fun x=>hs ⟨x.1.1,x.1.2.1⟩)];rfl
theorem Bcr (K:Nat){p:Dh}(hp:Azp p)(k:Int):Ay8 K p k=some (Az1 p k):=by
 have h1:=hp.st.2
 have h2:=hp.own.2;unfold Ay8 Aug Az1
 have e:Ana .i64 (Zp (p.Yq.length:Int) (p.Sl.length:Int)) 1=Zp (p.Yq.length:Int) (p.Sl.length:Int) - 1:=by
  unfold Ana Zp;split<;>rw[Aa3 (by omega) (by omega)]
 rw[A23 K hp,Z0,Aux,Z0,e]
 by_cases hs:0≤k∧k<(p.Yq.length:Int)∧k<(p.Sl.length:Int)
 ·rw[Age.2 (by unfold Zp;split<;>omega),cond_true,if_pos ⟨hs.1,hs.2.1⟩,if_pos ⟨hs.1,hs.2.1⟩,if_pos ⟨hs.1,hs.2.2⟩]
  by_cases h:gt p.Yq k=1
  ·rw[if_pos ⟨hs,h⟩,h];rfl
  ·rw[if_neg (show ¬((0≤k∧k<(p.Yq.length:Int)∧k<(p.Sl.length:Int))∧gt p.Yq k=1) from fun x=>h x.2),Ail h];rfl
 ·rw[A5p.2 (by unfold Zp;split<;>omega),if_neg (show ¬((0≤k∧k<(p.Yq.length:Int)∧k<(p.Sl.length:Int))∧gt p.Yq k=1) from fun x=>hs x.1)];rfl
def Akb (p:Dh)(l:List Int):Dh:=l.foldl Az1 p
theorem A85{α σ β:Type}{K:Nat}(hK:281474976710656≤K)(l:List α)(hl:l.length≤140737488355327)(f:σ->α->σ)(s0:σ)(I:σ->Prop)(hI:I s0)(hf: ∀s x,I s->I (f s x))(fin:Option β)(L:Nat->σ->Int->Option β)
  (hs: ∀n s (i:Nat) (h:i<l.length),I s->L (n+1) s (i:Int)=L n (f s l[i]) ((i+1:Nat):Int))
  (he: ∀n,L (n+1) (l.foldl f s0) (l.length:Int)=fin):L K s0 0=fin:=by
 have key: ∀(n i:Nat) (s:σ),I s->i≤l.length->l.length - i<n->(l.drop i).foldl f s=l.foldl f s0->L n s (i:Int)=fin:=by
  intro n
  induction n with
  |zero=>intro i s _ _ h;omega
  |succ n ih=>
   intro i s hIs hi hn hd;rcases Ez i l.length with h|h
   ·rw[hs n s i h hIs];refine ih (i+1) _ (hf _ _ hIs) h (by omega) ?_
    rw[Z47 h,List.foldl_cons]at hd;exact hd
   ·obtain rfl:i=l.length:=by omega
    rw[List.drop_length]at hd;simp only[List.foldl_nil]at hd;rw[hd];exact he n
 exact key K 0 s0 hI (Z21 _) (by omega) rfl
def Ah8 (n:A8)(slot:Int):Av:=Av.mk slot n.Er n.F3 n.A6 0
def Axm (n:A8):A8:=A8.mk n.Yq n.C6 (Am9 .i64 n.Sy 1) n.fUp n.Wk 0 n.Wl n.Wm [] 0 0 [] []
theorem A3y (K:Nat){n:A8}(hn:Asv n)(s:Int):At4 K n s=some (Ah8 n s):=by
 have hm:=Adv
 have h1:=hn.tags.2
 have h2:=hn.chunks.2;unfold At4;simp only[Yu];rw[if_pos ⟨by omega,by omega⟩,if_pos ⟨by omega,by omega⟩];rfl
theorem A86 (K:Nat){n:A8}(hn:Asv n)(s:Int):Axh K n s=some (Ah8 n s):=by
 unfold Axh;rw[Asw K hn.tags.2,Asw K hn.chunks.2];rfl
theorem A87 (K:Nat){n:A8}(hn:Asv n):Aw1 K n=some (Axm n):=by
 unfold Aw1;rw[Awn K hn];rfl
theorem A3c:wfi 0:=⟨by decide,by decide⟩
theorem A4r:A1y []:=⟨(fun x hx=>by cases hx),(by simp)⟩
theorem A5b:A8s []:=⟨(fun x hx=>by cases hx),(by simp)⟩
def Azw (w:Ds)(k:Int):Ds:=Ds.mk w.fC (Akb w.fP (gt w.fL k).A6) (w.fL.set k.toNat (Axm (gt w.fL k))) (w.fQ++[Ah8 (gt w.fL k) 0]) w.Afv
theorem Bjz{l:List A8}{k:Int}(hk:0≤k∧k<(l.length:Int)):l.set k.toNat (gt l k)=l:=by
 have hlt:k.toNat<l.length:=by omega
 have e:gt l k=l[k.toNat]:=by rw[←Acm hlt,show((k.toNat:Nat):Int)=k by omega]
 rw[e];exact List.set_getElem_self hlt
section
variable {K:Nat} (hK:281474976710656≤K)
include hK
theorem A5c (w:Ds)(hw:Aoc w)(l:List Int)(hl:l.length≤140737488355327):Aqb K w l=some (Ds.mk w.fC (Akb w.fP l) w.fL w.fQ w.Afv):=by
 unfold Aqb;refine A85 hK l (by omega) Az1 w.fP Azp hw.p (fun s x h=>(A84 h x).1) _ (fun n s i=>Akd K l n i w.fC.A6 w.fC.Kh w.fC.Fj w.fC.Hb w.fC.Fk w.fC.Ki s.Sk s.Yq s.Sl w.fL w.fQ w.Afv) (fun n s i h hs=> ?_) (fun n=> ?_)
 ·simp only[Akd];rw[Agh h,cond_true,if_pos (Akh h),Acm h,show Dh.mk s.Sk s.Yq s.Sl=s from rfl,A6f K hs,Z0,Agd (by omega)]
 ·show Akd K l (n+1) _ _ _ _ _ _ _ _ _ _ _ _ _=_;rw[Akd,Agl (Z9 _),cond_false];rfl
theorem Ba2 (w:Ds)(hw:Azp w.fP){k:Int}(hk:0≤k∧k<(w.fL.length:Int))(hl:(gt w.fL k).A6.length≤140737488355327):As5 K w k=some (Ds.mk w.fC (Akb w.fP (gt w.fL k).A6) w.fL w.fQ w.Afv):=by
 unfold As5;rw[if_pos hk,if_pos hk]
 refine A85 hK (gt w.fL k).A6 (by omega) Az1 w.fP Azp hw (fun s x h=>(A84 h x).1) _ (fun n s i=>Amh K n (gt w.fL k).A6 ((gt w.fL k).A6.length:Int) i w.fC.A6 w.fC.Kh w.fC.Fj w.fC.Hb w.fC.Fk w.fC.Ki s.Sk s.Yq s.Sl w.fL.length w.fQ w.Afv w.fL k.toNat (gt w.fL k).Yq (gt w.fL k).C6 (gt w.fL k).Sy (gt w.fL k).fUp (gt w.fL k).Wk (gt w.fL k).Er (gt w.fL k).Wl (gt w.fL k).Wm (gt w.fL k).A6.length (gt w.fL k).Afu (gt w.fL k).Wn (gt w.fL k).H7 (gt w.fL k).F3) (fun n s i h hs=> ?_) (fun n=> ?_)
 ·simp only[Amh];rw[Agh h,cond_true,if_pos (Akh h),Acm h,show Dh.mk s.Sk s.Yq s.Sl=s from rfl,Bcr K hs,Z0,Agd (by omega),Int.toNat_natCast]
 ·show Amh K (n+1) _ _ _ _ _ _ _ _ _ _ _ _ _ _ _ _ _ _ _ _ _ _ _ _ _ _ _ _ _ _=_;rw[Amh,Agl (Z9 _),cond_false,Int.toNat_natCast]
  have:=Bjz hk;exact congrArg (fun l=>some (Ds.mk w.fC (Akb w.fP (gt w.fL k).A6) l w.fQ w.Afv)) this
theorem A88 (w:Ds)(hw:Aoc w)(hQ:w.fQ.length≤140737488355){k:Int}(hk:0≤k∧k<(w.fL.length:Int)):Ats K w k=some (Azw w k):=by
 have hm:=Adv
 have hn:=hw.l.1 _ (Ank hk.1 hk.2);unfold Ats;rw[if_pos hk,A3y K hn,Z0,if_pos hk,A5c hK w hw _ (A1a hK hn.chunks),Z0];simp only;rw[if_pos hk,A87 K hn,Z0,if_pos hk,if_pos ⟨by simp;omega,by simp;omega⟩]
 rfl
end
def Bps (n:A8)(v:Int):A8:=A8.mk n.Yq n.C6 n.Sy n.fUp n.Wk n.Er v n.Wm n.A6 n.Afu n.Wn n.H7 n.F3
def Bj0 (n:A8)(v:Int):A8:=A8.mk n.Yq n.C6 n.Sy n.fUp n.Wk n.Er n.Wl v n.A6 n.Afu n.Wn n.H7 n.F3
def Bj1 (n:A8)(v:Int):A8:=A8.mk n.Yq n.C6 n.Sy n.fUp n.Wk v n.Wl n.Wm n.A6 n.Afu n.Wn n.H7 n.F3
def Bj2 (n:A8):A8:=A8.mk n.Yq n.C6 n.Sy 0 0 n.Er 0 0 n.A6 n.Afu n.Wn n.H7 n.F3
theorem Axn{l:List A8}{k:Int}(hk:0≤k∧k<(l.length:Int))(x:A8):gt (l.set k.toNat x) k=x:=by
 have hlt:k.toNat<(l.set k.toNat x).length:=by simp;omega
 have e:gt (l.set k.toNat x) ((k.toNat:Nat):Int)=x:=by rw[Acm hlt];simp
 rwa[show((k.toNat:Nat):Int)=k by omega]at e
theorem Axo{l:List A8}{j k:Int}(hj:0≤j)(hk:0≤k∧k<(l.length:Int))(h:j≠k)(x:A8):gt (l.set j.toNat x) k=gt l k:=by
 have h1:k.toNat<(l.set j.toNat x).length:=by simp;omega
 have h2:k.toNat<l.length:=by omega
 have e1:gt (l.set j.toNat x) ((k.toNat:Nat):Int)=gt l ((k.toNat:Nat):Int):=by
  rw[Acm h1,Acm h2,List.getElem_set,if_neg (by omega)]
 rwa[show((k.toNat:Nat):Int)=k by omega]at e1
theorem A1h (K:Nat){l:List A8}{k:Int}(hk:0≤k∧k<(l.length:Int)):Atb K k l=some (l.set k.toNat (Bj2 (gt l k))):=by
 unfold Atb;rw[if_pos hk];simp only[Apm,Z49,Axn hk,Byh,if_pos hk];rfl
theorem A3z (K:Nat){l:List A8}{k:Int}(hk:0≤k∧k<(l.length:Int)):Av5 K k l=some (l.set k.toNat (Bj2 (gt l k))):=A1h K hk
def A30 (l0 l:List A8)(k nx pv:Int):List A8:=bif plB l0 nx then l.set (Ana .i64 nx 1).toNat (Bj0 (gt l (Ana .i64 nx 1)) pv)else l
def A1i (l0 l:List A8)(k nx pv:Int):List A8:=(A30 l0 l k nx pv).set k.toNat (Bj2 (gt (A30 l0 l k nx pv) k))
theorem A16 (l0 l:List A8)(k nx pv:Int):(A30 l0 l k nx pv).length=l.length:=by
 unfold A30;cases plB l0 nx<;>simp
theorem Axp (K:Nat){l0 l:List A8}(hl:l0.length≤140737488355327)(he:l.length=l0.length){k:Int}(hk:0≤k∧k<(l0.length:Int))(a b c d e f nx pv:Int)(g:List Int)(h i:Int)(t:List A7)(u:List Int)(hx:wfi nx):Ara K l0 k l a b c d e f nx pv g h i t u=some (A1i l0 l k nx pv):=by
 unfold Ara A1i A30;rw[Auj K hl hx,Z0];cases hp:plB l0 nx with
 |false=>rw[cond_false,cond_false,A1h K (by rw[he];exact hk)]
 |true=>
  have:=Atq hp;rw[cond_true,cond_true,if_pos (by rw[he];exact this)]
  simp only[Apm];rw[A1h K (by rw[Z49,he];exact hk)]
  rfl
theorem Axq (K:Nat){l0 l:List A8}(hl:l0.length≤140737488355327)(he:l.length=l0.length){k:Int}(hk:0≤k∧k<(l0.length:Int))(nx pv:Int)(hv:(gt l k).Wm=pv):Are K l0 k l (Ana .i64 nx 1)=some (A1i l0 l k nx pv):=by
 unfold Are A1i A30;rw[Axx K hl,Z0];cases hp:plB l0 nx with
 |false=>rw[cond_false,cond_false,A3z K (by rw[he];exact hk)]
 |true=>
  have:=Atq hp;rw[cond_true,cond_true,if_pos (by rw[he];exact hk),if_pos (by rw[he];exact this),hv]
  simp only[Apm];rw[A3z K (by rw[Z49,he];exact hk)]
  rfl
def A17 (l:List A8)(k:Int):List A8:=
 bif plB l (gt l k).Wm then l.set (Ana .i64 (gt l k).Wm 1).toNat (Bps (gt l (Ana .i64 (gt l k).Wm 1)) (gt l k).Wl)
 else bif (gt l k).Wm==0&&(plB l (gt l k).fUp&&(gt l (Ana .i64 (gt l k).fUp 1)).Er==Am9 .i64 k 1)then l.set (Ana .i64 (gt l k).fUp 1).toNat (Bj1 (gt l (Ana .i64 (gt l k).fUp 1)) (gt l k).Wl)
 else l
def Aoq (l:List A8)(k:Int):List A8:=A1i l (A17 l k) k (gt l k).Wl (gt l k).Wm
theorem A0v (l:List A8)(k:Int):(A17 l k).length=l.length:=by
 unfold A17;cases plB l (gt l k).Wm<;>cases ((gt l k).Wm==0&&(plB l (gt l k).fUp&&(gt l (Ana .i64 (gt l k).fUp 1)).Er==Am9 .i64 k 1))<;>simp
theorem Bft{l:List A8}{k:Int}(hk:0≤k∧k<(l.length:Int)):(gt (A17 l k) k).Wm=(gt l k).Wm:=by
 unfold A17;cases hp:plB l (gt l k).Wm with
 |true=>
  have:=Atq hp;rw[cond_true]
  by_cases e:Ana .i64 (gt l k).Wm 1=k
  ·rw[e,Axn hk];rfl
  ·rw[Axo this.1 hk e]
 |false=>
  rw[cond_false];cases hc:((gt l k).Wm==0&&(plB l (gt l k).fUp&&(gt l (Ana .i64 (gt l k).fUp 1)).Er==Am9 .i64 k 1))with
  |false=>rfl
  |true=>
   simp only[Z4]at hc
   have:=Atq hc.2.1;rw[cond_true]
   by_cases e:Ana .i64 (gt l k).fUp 1=k
   ·rw[e,Axn hk];rfl
   ·rw[Axo this.1 hk e]
section
variable {K:Nat} (hK:281474976710656≤K)
include hK
theorem Ba3{l:List A8}(w:Agf l){k:Int}(hk:0≤k∧k<(l.length:Int)):Ax6 K l k=some (Aoq l k):=by
 have hl:=Aen w
 have hn:=w.1 _ (Ank hk.1 hk.2)
 have e1:Ana .i64 (Am9 .i64 k 1) 1=k:=by unfold Ana Am9;rw[Aa3 (n:=k+1) (by omega) (by omega),Aa3 (by omega) (by omega)];omega
 have hpk:plB l (Am9 .i64 k 1)=true:=by unfold plB;rw[e1];exact decide_eq_true hk
 have hwk:wfi (Am9 .i64 k 1):=Bjq _;unfold Ax6 Aoq;rw[A1f hK w,Z0,Auj K hl hwk,Z0,hpk,Bool.not_true,cond_false,if_pos hk,Auj K hl hn.prev,Z0];unfold A17;cases hp:plB l (gt l k).Wm with
 |true=>
  have:=Atq hp;rw[cond_true,cond_true,if_pos this];simp only[Apm];rw[Axp K hl (by rw[Z49]) hk _ _ _ _ _ _ _ _ _ _ _ _ _ hn.next]
  rfl
 |false=>
  rw[cond_false,cond_false];cases h0:(gt l k).Wm==0 with
  |false=>
   simp only[cond_false,Bool.false_and,Apz];rw[Axp K hl rfl hk _ _ _ _ _ _ _ _ _ _ _ _ _ hn.next]
  |true=>
   rw[cond_true,Auj K hl hn.up,Z0];cases hu:plB l (gt l k).fUp with
   |false=>
    simp only[cond_false,Bool.false_and,Bool.and_false,Apz];rw[Axp K hl rfl hk _ _ _ _ _ _ _ _ _ _ _ _ _ hn.next]
   |true=>
    have hui:=Atq hu;rw[cond_true,if_pos hui];simp only[Z30,Apz];cases (gt l (Ana .i64 (gt l k).fUp 1)).Er==Am9 .i64 k 1 with
    |false=>
     simp only[cond_false];rw[Axp K hl rfl hk _ _ _ _ _ _ _ _ _ _ _ _ _ hn.next]
    |true=>
     simp only[cond_true,if_pos hui,Apm];rw[Axp K hl (by rw[Z49]) hk _ _ _ _ _ _ _ _ _ _ _ _ _ hn.next]
     rfl
theorem Ba4{l:List A8}(w:Agf l){k:Int}(hk:0≤k∧k<(l.length:Int)):Aye K l k=some (Aoq l k):=by
 have hl:=Aen w
 have h0p:=Bft hk;unfold Aye Aoq;rw[A15 hK w,Z0,Awl K hl,Z0,decide_eq_true hk,Bool.not_true,cond_false,if_pos hk,if_pos hk,if_pos hk,Axx K hl,Z0];unfold A17 at h0p ⊢;cases hp:plB l (gt l k).Wm with
 |true=>
  rw[hp]at h0p
  have:=Atq hp;rw[cond_true]at h0p ⊢;rw[cond_true,if_pos hk,if_pos this];simp only[Apm];exact Axq K hl (by rw[Z49]) hk _ _ h0p
 |false=>
  rw[hp]at h0p;rw[cond_false]at h0p ⊢;rw[cond_false,if_pos hk];cases h0:(gt l k).Wm==0 with
  |false=>
   simp only[cond_false,Bool.false_and,Ap2];exact Axq K hl rfl hk _ _ rfl
  |true=>
   rw[h0]at h0p;rw[cond_true,Axx K hl,Z0];cases hu:plB l (gt l k).fUp with
   |false=>
    simp only[cond_false,Bool.false_and,Bool.and_false,Ap2];exact Axq K hl rfl hk _ _ rfl
   |true=>
    rw[hu]at h0p
    have hui:=Atq hu;rw[cond_true,if_pos hui];simp only[Z30,Ap2]at h0p ⊢;cases hf:(gt l (Ana .i64 (gt l k).fUp 1)).Er==Am9 .i64 k 1 with
    |false=>
     simp only[cond_false];exact Axq K hl rfl hk _ _ rfl
    |true=>
     rw[hf]at h0p;simp only[cond_true,if_pos hui,if_pos hk,Apm]at h0p ⊢;exact Axq K hl (by rw[Z49]) hk _ _ h0p
end
def Bv3 (n:A8):A8:=A8.mk 2 n.C6 0 0 0 0 0 0 [] 0 0 [] []
theorem Bnw{n:A8}(hn:Asv n){v:Int}(hv:wfi v):Asv (Bps n v):=⟨hn.st,hn.gen,hn.ep,hn.up,hn.upEp,hn.first,hv,hn.prev,hn.chunks,hn.cur,hn.bump,hn.things,hn.tags⟩
theorem Bnx{n:A8}(hn:Asv n){v:Int}(hv:wfi v):Asv (Bj0 n v):=⟨hn.st,hn.gen,hn.ep,hn.up,hn.upEp,hn.first,hn.next,hv,hn.chunks,hn.cur,hn.bump,hn.things,hn.tags⟩
theorem Bj3{n:A8}(hn:Asv n){v:Int}(hv:wfi v):Asv (Bj1 n v):=⟨hn.st,hn.gen,hn.ep,hn.up,hn.upEp,hv,hn.next,hn.prev,hn.chunks,hn.cur,hn.bump,hn.things,hn.tags⟩
theorem Bsx{n:A8}(hn:Asv n):Asv (Bj2 n):=by
 have z:wfi 0:=⟨by decide,by decide⟩
 exact⟨hn.st,hn.gen,hn.ep,z,z,hn.first,z,z,hn.chunks,hn.cur,hn.bump,hn.things,hn.tags⟩
theorem A2r{l:List A8}{k:Int}(hk:0≤k∧k<(l.length:Int)){x:A8}(h:Azv x=Azv (gt l k)):((l.set k.toNat x).map Azv).sum=(l.map Azv).sum:=by
 have hlt:k.toNat<l.length:=by omega
 have:=Bdy Azv l k.toNat hlt x
 have e:l[k.toNat]=gt l k:=by rw[←Acm hlt,show((k.toNat:Nat):Int)=k by omega]
 rw[e]at this;omega
theorem Bsy{l:List A8}(w:Agf l){k:Int}(hk:0≤k∧k<(l.length:Int)):Agf (A17 l k)∧((A17 l k).map Azv).sum=(l.map Azv).sum:=by
 have hn:=w.1 _ (Ank hk.1 hk.2);unfold A17;cases hp:plB l (gt l k).Wm with
 |true=>
  have hi:=Atq hp;exact⟨A1g w _ (Bnw (w.1 _ (Ank hi.1 hi.2)) hn.next),A2r hi rfl⟩
 |false=>
  rw[cond_false];cases hc:((gt l k).Wm==0&&(plB l (gt l k).fUp&&(gt l (Ana .i64 (gt l k).fUp 1)).Er==Am9 .i64 k 1))with
  |false=>exact⟨w,rfl⟩
  |true=>
   simp only[Z4]at hc
   have hi:=Atq hc.2.1;exact⟨A1g w _ (Bj3 (w.1 _ (Ank hi.1 hi.2)) hn.next),A2r hi rfl⟩
theorem Bsz{l0 l:List A8}(w:Agf l)(he:l.length=l0.length)(k nx:Int){pv:Int}(hv:wfi pv):Agf (A30 l0 l k nx pv)∧((A30 l0 l k nx pv).map Azv).sum=(l.map Azv).sum:=by
 unfold A30;cases hp:plB l0 nx with
 |true=>
  have hi:=Atq hp;rw[←he]at hi;exact⟨A1g w _ (Bnx (w.1 _ (Ank hi.1 hi.2)) hv),A2r hi rfl⟩
 |false=>exact⟨w,rfl⟩
theorem A7v{l:List A8}(w:Agf l){k:Int}(hk:0≤k∧k<(l.length:Int)):Agf (Aoq l k)∧((Aoq l k).map Azv).sum=(l.map Azv).sum∧(Aoq l k).length=l.length:=by
 have hn:=w.1 _ (Ank hk.1 hk.2);obtain⟨h1,h2⟩:=Bsy w hk
 have h3:=A0v l k;obtain⟨h4,h5⟩:=Bsz h1 h3 k (gt l k).Wl hn.prev
 have h6:=A16 l (A17 l k) k (gt l k).Wl (gt l k).Wm
 have hk':0≤k∧k<((A30 l (A17 l k) k (gt l k).Wl (gt l k).Wm).length:Int):=by rw[h6,h3];exact hk
 unfold Aoq A1i;exact⟨A1g h4 _ (Bsx (h4.1 _ (Ank hk'.1 hk'.2))),(A2r (x:=Bj2 (gt (A30 l (A17 l k) k (gt l k).Wl (gt l k).Wm) k)) hk' rfl).trans (h5.trans h2),by rw[Z49,h6,h3]⟩
def Ain (w:Ds)(k:Int):Ds:=Ds.mk w.fC (Akb w.fP (gt w.fL k).A6) ((Aoq w.fL k).set k.toNat (Bv3 (gt (Aoq w.fL k) k))) (w.fQ++[Ah8 (gt w.fL k) (Am9 .i64 k 1)]) w.Afv
section
variable {K:Nat} (hK:281474976710656≤K)
include hK
theorem Bcs (w:Ds)(hw:Aoc w)(hQ:w.fQ.length≤140737488355){k:Int}(hk:0≤k∧k<(w.fL.length:Int)):Avs K w k=some (Ain w k):=by
 have hm:=Adv
 have hn:=hw.l.1 _ (Ank hk.1 hk.2)
 have hk':0≤k∧k<((Aoq w.fL k).length:Int):=by rw[(A7v hw.l hk).2.2];exact hk
 unfold Avs Ayi;rw[if_pos hk,A3y K hn,Z0,if_pos hk,A5c hK w hw _ (A1a hK hn.chunks),Z0];simp only;rw[Ba3 hK hw.l hk];simp only[Z0,if_pos hk'];rw[if_pos ⟨by simp;omega,by simp;omega⟩]
 rfl
theorem Bct (w:Ds)(hw:Aoc w)(hQ:w.fQ.length≤140737488355){k:Int}(hk:0≤k∧k<(w.fL.length:Int))(hst:(gt w.fL k).Yq=1):Ay9 K w k=some (Ain w k):=by
 have hm:=Adv
 have hn:=hw.l.1 _ (Ank hk.1 hk.2)
 have hk':0≤k∧k<((Aoq w.fL k).length:Int):=by rw[(A7v hw.l hk).2.2];exact hk
 unfold Ay9 A1v;rw[A6d hK hw,Z0,Awl K (Aen hw.l),Z0,decide_eq_true hk,cond_true,if_pos hk,hst];simp only[bne_self_eq_false,cond_false]
 rw[if_pos hk,A86 K hn,Z0,if_pos ⟨by omega,by omega⟩,Ba0 hK,Ba2 hK (Ds.mk w.fC w.fP w.fL (w.fQ++[Ah8 (gt w.fL k) (Am9 .i64 k 1)]) w.Afv) hw.p hk (A1a hK hn.chunks),Z0]
 simp only;rw[Ba4 hK hw.l hk];simp only[Z0,if_pos hk'];rfl
end
def Byi (c:D4)(x:Av)(v:Int)(i:Nat):Int:=Am9 .i64 v (bif ((i:Int)==0)then Atj (Ana .i64 c.Kh x.Wo) c.Fk else Atj c.Kh c.Fk)
def Bs0 (c:D4)(x:Av):Int:=
 (List.range x.A6.length).foldl (Byi c x) (Am9 .i64 (x.F3.length:Int) 1)
section
variable {K:Nat} (hK:281474976710656≤K)
include hK
end
def Bs1 (w:Ds)(k:Int):Int:=Bs0 w.fC (Ah8 (gt w.fL k) 0)
def Aqf (w:Ds)(k:Int):List Int:=Adw w.fL (gt w.fL k).Er
def Axv (w:Ds)(met:List Int):Prop:=met.Nodup∧ ∀x∈met,0≤x∧x<(w.fL.length:Int)
theorem A5t{w:Ds}{met:List Int}(h:Axv w met):met.length≤w.fL.length:=by
 have:=Awg (l:=(List.range w.fL.length).map (fun i:Nat=>(i:Int))) h.1 (fun x hx=>by
  have:=h.2 x hx;rw[D2];exact⟨x.toNat,by simp;omega,by omega⟩)
 simpa using this
theorem A5u{w:Ds}{met:List Int}(h:Axv w met){k:Int}(hk:0≤k∧k<(w.fL.length:Int))(hn:k ∉ met):Axv w (met++[k]):=by
 refine⟨List.nodup_append.2 ⟨h.1,by simp,fun a ha b hb e=>hn (by rw[Mk]at hb;rw[←hb,←e];exact ha)⟩,fun x hx=> ?_⟩
 rcases F8.1 hx with hx|hx
 ·exact h.2 x hx
 ·rw[Mk.1 hx];exact hk
theorem A18 (w:Ds)(k:Int): ∀x∈Aqf w k,0≤x∧x<(w.fL.length:Int):=fun x hx=>A12 _ _ x hx
theorem Bfu (w:Ds)(k:Int):(Aqf w k).length≤w.fL.length:=Aze _ _
def mof (w:Ds)(met:List Int):List Bool:=(List.range w.fL.length).map (fun i:Nat=>met.contains (i:Int))
theorem A0b (w:Ds)(met:List Int):(mof w met).length=w.fL.length:=by simp[mof]
theorem Bs2{w:Ds}{met:List Int}{k:Int}(h:0≤k∧k<(w.fL.length:Int)):gt (mof w met) k=met.contains k:=by
 obtain⟨i,rfl⟩: ∃i:Nat,k=i:=⟨k.toNat,by omega⟩
 rw[Acm (by rw[A0b];omega)]
 simp[mof]
theorem Bny{w:Ds}{met:List Int}{k:Int}(h:0≤k∧k<(w.fL.length:Int)):(mof w met).set k.toNat true=mof w (met++[k]):=by
 refine List.ext_getElem (by rw[Z49,A0b,A0b]) fun i h1 h2=> ?_
 rw[List.getElem_set]
 by_cases e:k.toNat=i
 ·rw[if_pos e];simp only[mof,List.getElem_map,List.getElem_range];rw[List.contains_iff_mem.2 (by rw[F8];right;rw[Mk];omega)]
 ·rw[if_neg e];simp only[mof,List.getElem_map,List.getElem_range];rw[Bool.eq_iff_iff,List.contains_iff_mem,List.contains_iff_mem,F8,Mk];exact⟨.inl,fun q=>q.resolve_right (by omega)⟩
theorem Bnz (w:Ds):List.replicate w.fL.length false=mof w []:=by
 refine List.ext_getElem (by simp[mof]) fun i h1 h2=> ?_
 simp[mof]
theorem Bj4{α σ β:Type}{K:Nat}(hK:281474976710656≤K)(l:List α)(hl:l.length≤140737488355328)(f:σ->α->σ)(s0:σ)(I:σ->Prop)(hI:I s0)(hf: ∀s x,x∈l->I s->I (f s x))(fin:Option β)(L:Nat->σ->Int->Option β)
  (hs: ∀n s (i:Nat) (h:i<l.length),I s->L (n+1) s (i:Int)=L n (f s l[i]) ((i+1:Nat):Int))
  (he: ∀n,L (n+1) (l.foldl f s0) (l.length:Int)=fin):L K s0 0=fin:=by
 have key: ∀(n i:Nat) (s:σ),I s->i≤l.length->l.length - i<n->(l.drop i).foldl f s=l.foldl f s0->L n s (i:Int)=fin:=by
  intro n
  induction n with
  |zero=>intro i s _ _ h;omega
  |succ n ih=>
   intro i s hIs hi hn hd;rcases Ez i l.length with h|h
   ·rw[hs n s i h hIs];refine ih (i+1) _ (hf _ _ (List.getElem_mem h) hIs) h (by omega) ?_
    rw[Z47 h,List.foldl_cons]at hd;exact hd
   ·obtain rfl:i=l.length:=by omega
    rw[List.drop_length]at hd;simp only[List.foldl_nil]at hd;rw[hd];exact he n
 exact key K 0 s0 hI (Z21 _) (by omega) rfl
theorem Bv4{w:Ds}{met met0:List Int}{u:Nat}(h:Axv w met)(h0:met0.length≤met.length)(hu:w.fL.length≤met0.length+u){k:Int}(hk:0≤k∧k<(w.fL.length:Int))(hn:k ∉ met): ∃v,u=v+1∧w.fL.length≤(met++[k]).length+v:=by
 have:=A5t (A5u h hk hn);rw[H8,List.length_singleton]at this ⊢;exact⟨u - 1,by omega,by omega⟩
theorem Bfv{w:Ds}(hw:Aoc w)(k:Int):(Aqf w k).length≤140737488355327:=by
 have:=Bfu w k
 have:=hw.l.2;omega
theorem A89 (w:Ds):Axv w []:=⟨.nil,fun x h=>(by cases h)⟩
section
variable {K:Nat} (hK:562949953421312≤K)
include hK
end
structure Lk where
 lv:Bool
 gn:Bool
 ep:Int
 up:Int
 ue:Int
 fi:Int
 nx:Int
 pv:Int
section
variable (N:Int) (t:Int->Lk)
def Lv (k:Int):Prop:=(0≤k∧k<N)∧(t k).lv=true
def Cu (k:Int):Prop:=Lv N t ((t k).up - 1)∧(t ((t k).up - 1)).ep=(t k).ue
def Oo (k:Int):Prop:=Lv N t k∧(t k).up≠0∧ ¬Cu N t k
structure Bj5 (k:Int):Prop where
 first:(t k).fi≠0->Lv N t ((t k).fi - 1)∧(t ((t k).fi - 1)).pv=0∧(t ((t k).fi - 1)).up=k+1∧(t ((t k).fi - 1)).ue=(t k).ep
 next:(t k).nx≠0->Lv N t ((t k).nx - 1)∧(t ((t k).nx - 1)).pv=k+1∧(t ((t k).nx - 1)).up=(t k).up∧(t ((t k).nx - 1)).ue=(t k).ue
 prev:(t k).pv≠0->Lv N t ((t k).pv - 1)∧(t ((t k).pv - 1)).nx=k+1
 up:(t k).up≠0->0≤(t k).up - 1∧(t k).up - 1<N
 top:(t k).pv=0->Cu N t k->(t ((t k).up - 1)).fi=k+1
def kids:Nat->Int->List Int
 |0,_=>[]
 |n+1,k=>if 0≤k∧k<N then k::kids n ((t k).nx - 1)else []
def rise:Nat->Int->List Int
 |0,_=>[]
 |n+1,k=>if 0≤k∧k<N then k::rise n ((t k).up - 1)else []
structure Aqg:Prop where
 link: ∀k,Lv N t k->Bj5 N t k
 rise: ∀k,Lv N t k->(rise N t N.toNat k).length≤4∧ ∀x,(rise N t N.toNat k).getLast? =some x-> ¬Cu N t x
 bare: ∀k,0≤k->k<N->(t k).lv=false->(t k).up=0∧(t k).fi=0∧(t k).nx=0∧(t k).pv=0
def Wf (r:Int->Nat):Prop:= ∀x,Lv N t x->(t x).pv≠0->r ((t x).pv - 1)<r x
end
section
variable {N:Int} {t:Int->Lk}
theorem A7w (n:Nat)(k:Int):kids N t (n+1) k=if 0≤k∧k<N then k::kids N t n ((t k).nx - 1)else []:=rfl
theorem A7x (n:Nat)(k:Int):rise N t (n+1) k=if 0≤k∧k<N then k::rise N t n ((t k).up - 1)else []:=rfl
theorem Oo.lv{k:Int}(h:Oo N t k):Lv N t k:=h.1
theorem A9a: ∀(n:Nat) (k x:Int),x∈kids N t n k->0≤x∧x<N:=by
 intro n
 induction n with
 |zero=>intro k x h;cases h
 |succ n ih=>
  intro k x h;unfold kids at h;split at h
  ·rename_i h1;rcases C9.1 h with rfl|h
   ·exact h1
   ·exact ih _ x h
  ·cases h
theorem Awo (n:Nat):kids N t n (0 - 1)=[]:=by
 cases n with
 |zero=>rfl
 |succ n=>unfold kids;rw[if_neg (by omega)]
theorem Bfw: ∀(n:Nat) (k:Int),kids N t n k=(kids N t (n+1) k).take n:=by
 intro n
 induction n with
 |zero=>intro k;simp[kids]
 |succ n ih=>
  intro k;rw[A7w,A7w (n+1)];split
  ·rw[ih];simp
  ·simp
theorem Bj6 (T:Aqg N t){u e:Int}: ∀(n:Nat) (k:Int),Lv N t k->(t k).up=u->(t k).ue=e-> ∀x∈kids N t n k,Lv N t x∧(t x).up=u∧(t x).ue=e:=by
 intro n
 induction n with
 |zero=>intro k _ _ _ x h;cases h
 |succ n ih=>
  intro k h1 h2 h3 x h;unfold kids at h;split at h
  ·rcases C9.1 h with rfl|h
   ·exact⟨h1,h2,h3⟩
   ·by_cases h4:(t k).nx=0
    ·rw[h4,Awo]at h;cases h
    ·obtain⟨a,_,b,c⟩:=(T.link k h1).next h4;exact ih _ a (b.trans h2) (c.trans h3) x h
  ·cases h
theorem A7y (T:Aqg N t){r:Int->Nat}(W:Wf N t r): ∀(n:Nat) (k:Int),Lv N t k->(∀x∈kids N t n k,r k≤r x)∧(kids N t n k).Pairwise (fun a b=>r a<r b):=by
 intro n
 induction n with
 |zero=>intro k _;exact⟨fun x h=>(by cases h),.nil⟩
 |succ n ih=>
  intro k h1;unfold kids;split
  ·by_cases h4:(t k).nx=0
   ·rw[h4,Awo];exact⟨fun x h=>by rw[Mk.1 h];exact Z9 _,List.pairwise_singleton ..⟩
   ·obtain⟨a,b,_⟩:=(T.link k h1).next h4;obtain⟨i1,i2⟩:=ih _ a
    have hr:=W _ a (by rw[b];have:=h1.1;omega)
    rw[b,Int.add_sub_cancel]at hr;refine⟨fun x h=> ?_,List.pairwise_cons.2 ⟨fun x h=> ?_,i2⟩⟩
    ·rcases C9.1 h with rfl|h
     ·exact Z9 _
     ·have:=i1 x h;omega
    ·have:=i1 x h;omega
  ·exact⟨fun x h=>(by cases h),.nil⟩
theorem A3d (T:Aqg N t){r:Int->Nat}(W:Wf N t r)(n:Nat){k:Int}(h:Lv N t k):(kids N t n k).Nodup:=
 (A7y T W n k h).2.imp fun h e=>by rw[e]at h;omega
theorem A2s{l:List Int}(hn:l.Nodup)(h: ∀x∈l,0≤x∧x<N):l.length≤N.toNat:=by
 have:=Awg (l:=(List.range N.toNat).map (fun i:Nat=>(i:Int))) hn (fun x hx=>by
  have:=h x hx;rw[D2];exact⟨x.toNat,by simp;omega,by omega⟩)
 simpa using this
theorem Bfx: ∀(n:Nat) (k y x:Int),y∈kids N t n k->(t y).nx=x+1->0≤x∧x<N->x∈kids N t n k∨(kids N t n k).length=n:=by
 intro n
 induction n with
 |zero=>intro k y x h;cases h
 |succ n ih=>
  intro k y x h h1 h2;unfold kids at h ⊢;split at h
  ·rename_i h3;rw[if_pos h3];rcases C9.1 h with rfl|h
   ·rw[h1,Int.add_sub_cancel];cases n with
    |zero=>right;simp[kids]
    |succ n=>left;rw[kids,if_pos h2];simp
   ·rcases ih _ y x h h1 h2 with h|h
    ·exact .inl (Z56 _ h)
    ·exact .inr (by simp[h])
  ·cases h
theorem Bj7 (T:Aqg N t){r:Int->Nat}(W:Wf N t r){k:Int}(hk:Lv N t k)(x:Int):
  x∈kids N t N.toNat ((t k).fi - 1) ↔ Lv N t x∧(t x).up=k+1∧(t x).ue=(t k).ep:=by
 constructor
 ·intro h
  by_cases h0:(t k).fi=0
  ·rw[h0,Awo]at h;cases h
  ·obtain⟨a,_,b,c⟩:=(T.link k hk).first h0;exact Bj6 T _ _ a b c x h
 ·generalize hn:r x=n
  induction n using Nat.strongRecOn generalizing x with
  |_ n ih=>
   intro⟨h1,h2,h3⟩
   have hc:Cu N t x:=by unfold Cu;rw[h2,h3,Int.add_sub_cancel];exact⟨hk,rfl⟩
   by_cases hp:(t x).pv=0
   ·have:=(T.link x h1).top hp hc;rw[h2,Int.add_sub_cancel]at this;obtain⟨m,hm⟩: ∃m,N.toNat=m+1:=⟨N.toNat - 1,by have:=h1.1;omega⟩
    rw[this,Int.add_sub_cancel,hm,kids,if_pos h1.1];simp
   ·obtain⟨a,b⟩:=(T.link x h1).prev hp
    have hr:=W x h1 hp;obtain⟨_,_,c,d⟩:=(T.link _ a).next (by rw[b];have:=h1.1;omega)
    rw[b,Int.add_sub_cancel]at c d
    have hy:=ih _ (by omega) _ rfl ⟨a,c ▸ h2,d ▸ h3⟩
    rcases Bfx _ _ _ x hy b h1.1 with h|h
    ·exact h
    ·refine Classical.byContradiction fun hx=> ?_
     have h0:(t k).fi≠0:=fun e=>by rw[e,Awo]at hy;cases hy
     have hd:=A3d T W N.toNat ((T.link k hk).first h0).1
     have:=A2s (N:=N) (l:=x::kids N t N.toNat ((t k).fi - 1)) (List.nodup_cons.2 ⟨hx,hd⟩) (fun y hy=>by
      rcases C9.1 hy with rfl|hy
      ·exact h1.1
      ·exact A9a _ _ y hy)
     simp only[Ws]at this;omega
theorem A0c (T:Aqg N t){r:Int->Nat}(W:Wf N t r)(n:Nat){k:Int}(hk:Lv N t k):(kids N t n ((t k).fi - 1)).Nodup:=by
 by_cases h0:(t k).fi=0
 ·rw[h0,Awo];exact .nil
 ·exact A3d T W n ((T.link k hk).first h0).1
theorem A1j{t':Int->Lk}: ∀(n:Nat) (k:Int),(∀x∈kids N t n k,(t' x).nx=(t x).nx)->kids N t' n k=kids N t n k:=by
 intro n
 induction n with
 |zero=>intro k _;rfl
 |succ n ih=>
  intro k h;rw[kids,kids];rw[kids]at h;split
  ·rename_i h1;rw[if_pos h1]at h;rw[h k (by simp),ih _ fun x hx=>h x (by simp[hx])]
  ·rfl
theorem A0d{t':Int->Lk}: ∀(n:Nat) (k:Int),(∀x∈rise N t n k,(t' x).up=(t x).up)->rise N t' n k=rise N t n k:=by
 intro n
 induction n with
 |zero=>intro k _;rfl
 |succ n ih=>
  intro k h;rw[rise,rise];rw[rise]at h;split
  ·rename_i h1;rw[if_pos h1]at h;rw[h k (by simp),ih _ fun x hx=>h x (by simp[hx])]
  ·rfl
theorem Bfy: ∀(n:Nat) (k:Int),rise N t n k=(rise N t (n+1) k).take n:=by
 intro n
 induction n with
 |zero=>intro k;simp[rise]
 |succ n ih=>
  intro k;rw[A7x,A7x (n+1)];split
  ·rw[ih];simp
  ·simp
theorem Ayj: ∀(n:Nat) (k x:Int),x∈rise N t n k->0≤x∧x<N:=by
 intro n
 induction n with
 |zero=>intro k x h;cases h
 |succ n ih=>
  intro k x h;unfold rise at h;split at h
  ·rename_i h1;rcases C9.1 h with rfl|h
   ·exact h1
   ·exact ih _ x h
  ·cases h
theorem Bj8{t':Int->Lk}{g:Int}(h: ∀x,x≠g->(t' x).up=(t x).up)(hg:(t' g).up=0): ∀(n:Nat) (k:Int),
  (rise N t' n k=[] ↔ rise N t n k=[])∧(rise N t' n k).length≤(rise N t n k).length∧((rise N t' n k).getLast? =some g∨(rise N t' n k).getLast? =(rise N t n k).getLast?):=by
 intro n
 induction n with
 |zero=>intro k;exact⟨Iff.rfl,Z9 _,.inr rfl⟩
 |succ n ih=>
  intro k;rw[rise,rise]
  by_cases h1:0≤k∧k<N
  ·rw[if_pos h1,if_pos h1]
   by_cases e:k=g
   ·subst e
    have:rise N t' n (0 - 1)=[]:=by cases n with|zero=>rfl|succ n=>rw[rise,if_neg (by omega)]
    rw[hg,this];exact⟨by simp,by simp,.inl rfl⟩
   ·rw[h k e];obtain⟨i1,i2,i3⟩:=ih ((t k).up - 1);refine⟨by simp,by simpa using i2,?_⟩
    cases ha:rise N t' n ((t k).up - 1)with
    |nil=>rw[i1.1 ha];exact .inr rfl
    |cons a l=>
     cases hb:rise N t n ((t k).up - 1)with
     |nil=>rw[i1.2 hb]at ha;cases ha
     |cons b m=>
      rw[ha,hb]at i3;simpa using i3
  ·rw[if_neg h1,if_neg h1];exact⟨Iff.rfl,Z9 _,.inr rfl⟩
theorem A2t (T:Aqg N t){k:Int}(hk:Lv N t k)(hc:Cu N t k):(t k).up≠k+1:=by
 intro e;obtain⟨_,h⟩:=T.rise k hk
 have: ∀n,rise N t (n+1) k=List.replicate (n+1) k:=by
  intro n
  induction n with
  |zero=>rw[rise,if_pos hk.1];rfl
  |succ n ih=>rw[rise,if_pos hk.1,e,Int.add_sub_cancel,ih];rfl
 obtain⟨m,hm⟩: ∃m,N.toNat=m+1:=⟨N.toNat - 1,by have:=hk.1;omega⟩
 refine h k ?_ hc;rw[hm,this,List.getLast?_replicate,if_neg (by omega)]
def rem (t:Int->Lk)(g:Int)(x:Int):Lk:=
 if x=g then⟨false,true,0,0,0,0,0,0⟩else
  ⟨(t x).lv,(t x).gn,(t x).ep,(t x).up,(t x).ue,if(t g).pv=0∧x+1=(t g).up∧(t x).fi=g+1 then(t g).nx else(t x).fi,if x+1=(t g).pv then(t g).nx else(t x).nx,if x+1=(t g).nx then(t g).pv else(t x).pv⟩
theorem A31{g:Int}:rem t g g=⟨false,true,0,0,0,0,0,0⟩:=if_pos rfl
theorem Akc{g x:Int}(h:x≠g):rem t g x=⟨(t x).lv,(t x).gn,(t x).ep,(t x).up,(t x).ue,if(t g).pv=0∧x+1=(t g).up∧(t x).fi=g+1 then(t g).nx else(t x).fi,if x+1=(t g).pv then(t g).nx else(t x).nx,if x+1=(t g).nx then(t g).pv else(t x).pv⟩:=if_neg h
theorem Amy{g x:Int}:Lv N (rem t g) x ↔ x≠g∧Lv N t x:=by
 unfold Lv
 by_cases h:x=g
 ·subst h;rw[A31];simp
 ·rw[Akc h];simp[h]
theorem Ax0{g x:Int}(hx:x≠g):Cu N (rem t g) x ↔ (t x).up≠g+1∧Cu N t x:=by
 unfold Cu;rw[Amy,Akc hx]
 by_cases h:(t x).up - 1=g
 ·simp[h];omega
 ·rw[Akc h];simp only[ne_eq,h,not_false_eq_true,true_and];exact⟨fun h1=>⟨by omega,h1⟩,fun h1=>h1.2⟩
theorem Bj9{g x:Int}(hg:0≤g):Oo N (rem t g) x ↔ x≠g∧(Oo N t x∨Lv N t x∧(t x).up=g+1):=by
 unfold Oo;rw[Amy]
 by_cases h:x=g
 ·simp[h]
 ·rw[Ax0 h,Akc h];simp only[ne_eq,h,not_false_eq_true,true_and];constructor
  ·rintro⟨a,b,c⟩
   by_cases e:(t x).up=g+1
   ·exact .inr ⟨a,e⟩
   ·exact .inl ⟨a,b,fun d=>c ⟨e,d⟩⟩
  ·rintro(⟨a,b,c⟩|⟨a,b⟩)
   ·exact⟨a,b,fun d=>c d.2⟩
   ·exact⟨a,by omega,fun d=>d.1 b⟩
theorem Bka (T:Aqg N t){g x:Int}(hg:Lv N t g)(hx:Lv N (rem t g) x):Bj5 N (rem t g) x:=by
 obtain⟨hne,hl⟩:=Amy.1 hx
 have G:=T.link g hg
 have X:=T.link x hl
 have g0:=hg.1
 have x0:=hl.1;refine⟨?_,?_,?_,?_,?_⟩
 ·rw[Akc hne];intro h;simp only at h ⊢
  by_cases hA:(t g).pv=0∧x+1=(t g).up∧(t x).fi=g+1
  ·rw[if_pos hA]at h ⊢;obtain⟨a,b,c,d⟩:=G.next h
   have hm:(t g).nx - 1≠g:=fun e=>by rw[e]at b;omega
   obtain⟨_,_,_,f4⟩:=X.first (by omega)
   rw[hA.2.2,Int.add_sub_cancel]at f4;rw[Akc hm];refine⟨Amy.2 ⟨hm,a⟩,?_,?_,?_⟩
   ·simp only;rw[if_pos (by omega)];exact hA.1
   ·simp only;omega
   ·simp only;omega
  ·rw[if_neg hA]at h ⊢;obtain⟨a,b,c,d⟩:=X.first h
   have hm:(t x).fi - 1≠g:=fun e=>by rw[e]at b c;exact hA ⟨b,c.symm,by omega⟩
   rw[Akc hm];refine⟨Amy.2 ⟨hm,a⟩,?_,c,d⟩;simp only;rw[if_neg]
   ·exact b
   ·intro e
    have:=(G.next (by omega)).2.1
    rw[←e,Int.add_sub_cancel]at this;omega
 ·rw[Akc hne];intro h;simp only at h ⊢
  by_cases hA:x+1=(t g).pv
  ·rw[if_pos hA]at h ⊢;obtain⟨a,b,c,d⟩:=G.next h
   have hm:(t g).nx - 1≠g:=fun e=>by rw[e]at b;omega
   obtain⟨_,p2⟩:=G.prev (by omega)
   rw[←hA,Int.add_sub_cancel]at p2;obtain⟨_,_,q3,q4⟩:=X.next (by omega)
   rw[p2,Int.add_sub_cancel]at q3 q4;rw[Akc hm];refine⟨Amy.2 ⟨hm,a⟩,?_,?_,?_⟩
   ·simp only;rw[if_pos (by omega)];omega
   ·simp only;omega
   ·simp only;omega
  ·rw[if_neg hA]at h ⊢;obtain⟨a,b,c,d⟩:=X.next h
   have hm:(t x).nx - 1≠g:=fun e=>by rw[e]at b;omega
   rw[Akc hm];refine⟨Amy.2 ⟨hm,a⟩,?_,c,d⟩;simp only;rw[if_neg]
   ·exact b
   ·intro e
    have:=(G.next (by omega)).2.1
    rw[←e,Int.add_sub_cancel]at this;omega
 ·rw[Akc hne];intro h;simp only at h ⊢
  by_cases hA:x+1=(t g).nx
  ·rw[if_pos hA]at h ⊢;obtain⟨a,b⟩:=G.prev h
   have hm:(t g).pv - 1≠g:=fun e=>by rw[e]at b;omega
   rw[Akc hm];refine⟨Amy.2 ⟨hm,a⟩,?_⟩;simp only;rw[if_pos (by omega)]
   omega
  ·rw[if_neg hA]at h ⊢;obtain⟨a,b⟩:=X.prev h
   have hm:(t x).pv - 1≠g:=fun e=>by rw[e]at b;omega
   rw[Akc hm];refine⟨Amy.2 ⟨hm,a⟩,?_⟩;simp only;rw[if_neg]
   ·exact b
   ·intro e
    have:=(G.prev (by omega)).2
    rw[←e,Int.add_sub_cancel]at this;omega
 ·rw[Akc hne];exact X.up
 ·intro h hc;obtain⟨c1,c2⟩:=(Ax0 hne).1 hc;rw[Akc hne]at h ⊢;simp only at h ⊢
  have hm:(t x).up - 1≠g:=by omega
  rw[Akc hm];simp only
  by_cases hA:x+1=(t g).nx
  ·rw[if_pos hA]at h;obtain⟨_,_,q3,q4⟩:=G.next (by omega)
   rw[←hA,Int.add_sub_cancel]at q3 q4
   have hcg:Cu N t g:=by unfold Cu at c2 ⊢;rw[←q3,←q4];exact c2
   have:=G.top h hcg;rw[if_pos ⟨h,by omega,by rw[q3];exact this⟩]
   omega
  ·rw[if_neg hA]at h
   have:=X.top h c2;rw[if_neg (fun e=>by omega)]
   exact this
theorem A6g (T:Aqg N t){g:Int}(hg:Lv N t g):Aqg N (rem t g):=by
 refine⟨fun k hk=>Bka T hg hk,fun k hk=> ?_,fun k h0 h1 h=> ?_⟩
 ·obtain⟨hne,hl⟩:=Amy.1 hk;obtain⟨r1,r2⟩:=T.rise k hl;obtain⟨_,c1,c2⟩:=Bj8 (t:=t) (t':=rem t g) (N:=N) (g:=g) (fun x hx=>by rw[Akc hx]) (by rw[A31]) N.toNat k
  refine⟨by omega,fun x hx hc=> ?_⟩
  by_cases e:x=g
  ·subst e;unfold Cu at hc;rw[A31]at hc
   have:=hc.1.1.1;simp at this
  ·rcases c2 with c2|c2
   ·rw[c2]at hx;exact e (F9 hx).symm
   ·rw[c2]at hx;exact r2 x hx ((Ax0 e).1 hc).2
 ·by_cases e:k=g
  ·subst e;rw[A31];exact⟨rfl,rfl,rfl,rfl⟩
  ·rw[Akc e]at h ⊢;simp only at h ⊢;obtain⟨a,b,c,d⟩:=T.bare k h0 h1 h
   have G:=T.link g hg;refine⟨a,?_,?_,?_⟩
   ·rw[if_neg (fun q=>by have:=hg.1;omega)];exact b
   ·rw[if_neg]
    ·exact c
    ·intro q
     have:=(G.prev (by omega)).1.2
     rw[←q,Int.add_sub_cancel,h]at this;cases this
   ·rw[if_neg]
    ·exact d
    ·intro q
     have:=(G.next (by omega)).1.2
     rw[←q,Int.add_sub_cancel,h]at this;cases this
theorem Bs3 (T:Aqg N t){r:Int->Nat}(W:Wf N t r){g:Int}(hg:Lv N t g):Wf N (rem t g) r:=by
 intro x hx h;obtain⟨hne,hl⟩:=Amy.1 hx;rw[Akc hne]at h ⊢;simp only at h ⊢
 by_cases hA:x+1=(t g).nx
 ·rw[if_pos hA]at h ⊢
  have h1:=W g hg h
  have h2:=((T.link g hg).next (by have:=hl.1;omega)).2.1
  rw[←hA,Int.add_sub_cancel]at h2
  have h3:=W x hl (by have:=hg.1;omega)
  rw[h2,Int.add_sub_cancel]at h3;omega
 ·rw[if_neg hA]at h ⊢;exact W x hl h
end
section
variable (N:Int) (t:Int->Lk)
def kf (f:Int):List Int:=kids N t N.toNat (f - 1)
structure A9b (fs:List Int):Prop where
 nodup:(fs.flatMap (kf N t)).Nodup
 iff: ∀x,x∈fs.flatMap (kf N t) ↔ Oo N t x
 top: ∀f∈fs,f≠0->(0≤f - 1∧f - 1<N)∧(t (f - 1)).pv=0
inductive Dd (S:List Int):Int->Prop
 |base {y:Int}:y∈S->Dd S y
 |step {y:Int}:Lv N t y->Cu N t y->Dd S ((t y).up - 1)->Dd S y
inductive Al:Int->Prop
 |root {y:Int}:Lv N t y->(t y).up=0->Al y
 |step {y:Int}:Lv N t y->Cu N t y->Al ((t y).up - 1)->Al y
def Odr:List Int->List (Int×Int)->Prop
 |_,[]=>True
 |seen,e::q=>(∀y,Dd N t (kf N t e.2) y-> ∀x,Lv N t x->(t x).up=y+1-> ¬Cu N t x->x∈seen)∧(e.1≠0-> ∀x,Lv N t x->(t x).up=e.1->x∈seen++kf N t e.2)∧Odr (seen++kf N t e.2) q
structure Agn (qs:List (Int×Int)):Prop where
 tree:Aqg N t
 wf: ∃r,Wf N t r
 uw: ∃d:Int->Nat,∀x,Lv N t x->Cu N t x->d ((t x).up - 1)<d x
 kid:A9b N t (qs.map (·.2))
 ord:Odr N t [] qs
 gone: ∀x,Lv N t x->(t x).up≠0->(t ((t x).up - 1)).lv=true∨(t ((t x).up - 1)).gn=true
 ep: ∀x,Lv N t x->Lv N t ((t x).up - 1)->(t x).ue≤(t ((t x).up - 1)).ep
 slot: ∀e∈qs,e.1≠0->(t (e.1 - 1)).lv=false∧(t (e.1 - 1)).gn=true
end
section
variable {N:Int} {t:Int->Lk}
theorem Al.lv{y:Int}(h:Al N t y):Lv N t y:=by cases h<;>assumption
theorem Al.noOr{y:Int}(h:Al N t y): ¬Oo N t y:=by
 intro g;cases h with
 |root a b=>exact g.2.1 b
 |step a b c=>exact g.2.2 b
theorem Al.noDd{S:List Int}(hS: ∀x∈S,Oo N t x){y:Int}(h:Al N t y): ¬Dd N t S y:=by
 induction h with
 |root a b=>
  intro g;cases g with
  |base g=>exact(hS _ g).2.1 b
  |step g1 g2 g3=>have:=g2.1.1.1;omega
 |step a b c ih=>
  intro g;cases g with
  |base g=>exact(hS _ g).2.2 b
  |step g1 g2 g3=>exact ih g3
theorem Dd.in{S:List Int}(hS: ∀x∈S,0≤x∧x<N){y:Int}(h:Dd N t S y):0≤y∧y<N:=by
 cases h with
 |base h=>exact hS _ h
 |step h _ _=>exact h.1
theorem Ba5{f x:Int}(h:x∈kf N t f):0≤x∧x<N:=A9a _ _ _ h
theorem A9b.or{fs:List Int}(h:A9b N t fs){f:Int}(hf:f∈fs){x:Int}(hx:x∈kf N t f):Oo N t x:=
 (h.iff x).1 (List.mem_flatMap.2 ⟨f,hf,hx⟩)
theorem sib (T:Aqg N t){g x:Int}(hg:Lv N t g)(h:x+1=(t g).pv)(hx:0≤x):Lv N t x∧(t g).up=(t x).up∧(t g).ue=(t x).ue:=by
 obtain⟨a,b⟩:=(T.link g hg).prev (by omega)
 rw[←h,Int.add_sub_cancel]at a b;obtain⟨_,_,c,d⟩:=(T.link x a).next (by rw[b];have:=hg.1;omega)
 rw[b,Int.add_sub_cancel]at c d;exact⟨a,c,d⟩
theorem Bkb{g x:Int}(h1:(t g).up=(t x).up)(h2:(t g).ue=(t x).ue):Cu N t g ↔ Cu N t x:=by unfold Cu;rw[h1,h2]
theorem A0e (T:Aqg N t){r:Int->Nat}(W:Wf N t r){g:Int}(hg:Lv N t g)(x:Int):x∈kf N t (t g).fi ↔ Lv N t x∧(t x).up=g+1∧Cu N t x:=by
 unfold kf;rw[Bj7 T W hg];constructor
 ·rintro⟨a,b,c⟩;refine⟨a,b,?_⟩;unfold Cu;rw[b,c,Int.add_sub_cancel];exact⟨hg,rfl⟩
 ·rintro⟨a,b,c⟩;refine⟨a,b,?_⟩
  have:=c.2;rw[b,Int.add_sub_cancel]at this;exact this.symm
theorem A9c{g f:Int}(h: ∀x∈kf N t f,x≠g∧x+1≠(t g).pv):kf N (rem t g) f=kf N t f:=
 A1j _ _ fun x hx=>by
  obtain⟨a,b⟩:=h x hx;rw[Akc a];simp only;rw[if_neg b]
theorem Azb (T:Aqg N t){r:Int->Nat}(W:Wf N t r){g:Int}(hg:Lv N t g):kf N (rem t g) (t g).fi=kf N t (t g).fi:=by
 refine A9c fun x hx=> ?_;obtain⟨a,b,c⟩:=(A0e T W hg x).1 hx;constructor
 ·rintro rfl;exact A2t T hg c b
 ·intro e;obtain⟨_,h1,h2⟩:=sib T hg e a.1.1;exact A2t T hg ((Bkb h1 h2).2 c) (h1.trans b)
theorem A9d (T:Aqg N t){g f:Int}(hg:Lv N t g)(h:(0≤f - 1∧f - 1<N)∧(t (f - 1)).pv=0):(0≤f - 1∧f - 1<N)∧(rem t g (f - 1)).pv=0:=by
 refine⟨h.1,?_⟩
 by_cases e:f - 1=g
 ·rw[e,A31]
 ·rw[Akc e];simp only;rw[if_neg]
  ·exact h.2
  ·intro q
   have:=((T.link g hg).next (by omega)).2.1
   rw[←q,Int.add_sub_cancel,h.2]at this
   have:=hg.1;omega
theorem A7z (T:Aqg N t){g:Int}(hg:Lv N t g)(h:(t g).fi≠0):(0≤(t g).fi - 1∧(t g).fi - 1<N)∧(rem t g ((t g).fi - 1)).pv=0:=by
 obtain⟨a,b,_⟩:=(T.link g hg).first h;exact A9d T hg ⟨a.1,b⟩
theorem Adx{α:Type}{a b:List α}:(a++b).Nodup ↔ a.Nodup∧b.Nodup∧ ∀x∈a,x ∉ b:=by
 rw[List.nodup_append];exact⟨fun h=>⟨h.1,h.2.1,fun x h1 h2=>h.2.2 x h1 x h2 rfl⟩,fun h=>⟨h.1,h.2.1,fun x h1 y h2 e=>h.2.2 x h1 (e ▸ h2)⟩⟩
theorem Amz{α β:Type}{l:List α}{f g:α->List β}(h: ∀x∈l,f x=g x):l.flatMap f=l.flatMap g:=by
 induction l with
 |nil=>rfl
 |cons x l ih=>rw[List.flatMap_cons,List.flatMap_cons,h x (by simp),ih fun y hy=>h y (by simp[hy])]
theorem A4s (T:Aqg N t){g:Int}(hg:Lv N t g)(ho: ¬Oo N t g){fs:List Int}(K:A9b N t fs){f:Int}(hf:f∈fs):kf N (rem t g) f=kf N t f:=by
 refine A9c fun x hx=> ?_
 have hx:=K.or hf hx;constructor
 ·rintro rfl;exact ho hx
 ·intro e;obtain⟨_,h1,h2⟩:=sib T hg e hx.1.1.1;exact ho ⟨hg,h1 ▸ hx.2.1,fun c=>hx.2.2 ((Bkb h1 h2).1 c)⟩
theorem Bfz (T:Aqg N t){r:Int->Nat}(W:Wf N t r){g:Int}(hg:Lv N t g)(ho: ¬Oo N t g){fs:List Int}(K:A9b N t fs):A9b N (rem t g) (fs++[(t g).fi]):=by
 have e:(fs++[(t g).fi]).flatMap (kf N (rem t g))=fs.flatMap (kf N t)++kf N t (t g).fi:=by
  rw[List.flatMap_append,List.flatMap_cons,List.flatMap_nil,List.append_nil,Azb T W hg,Amz fun f hf=>A4s T hg ho K hf]
 refine⟨?_,fun x=> ?_,fun f hf h0=> ?_⟩
 ·rw[e,Adx];exact⟨K.nodup,A0c T W _ hg,fun x h1 h2=>((K.iff x).1 h1).2.2 ((A0e T W hg x).1 h2).2.2⟩
 ·rw[e,F8,K.iff,A0e T W hg,Bj9 hg.1.1];constructor
  ·rintro(h|⟨a,b,c⟩)
   ·exact⟨fun q=>ho (q ▸ h),.inl h⟩
   ·exact⟨fun q=>A2t T hg (q ▸ c) (q ▸ b),.inr ⟨a,b⟩⟩
  ·rintro⟨a,h|⟨b,c⟩⟩
   ·exact .inl h
   ·by_cases d:Cu N t x
    ·exact .inr ⟨b,c,d⟩
    ·exact .inl ⟨b,by have:=hg.1.1;omega,d⟩
 ·rw[F8,Mk]at hf;rcases hf with hf|rfl
  ·exact A9d T hg (K.top f hf h0)
  ·exact A7z T hg h0
theorem A32{f:Int}(h:0≤f - 1∧f - 1<N):f - 1∈kf N t f:=by
 unfold kf;obtain⟨m,hm⟩: ∃m,N.toNat=m+1:=⟨N.toNat - 1,by omega⟩
 rw[hm,kids,if_pos h];simp
theorem A3e (T:Aqg N t){r:Int->Nat}(W:Wf N t r){g:Int}(hg:Lv N t g):kf N t (g+1)=g::kf N t (t g).nx:=by
 unfold kf;obtain⟨m,hm⟩: ∃m,N.toNat=m+1:=⟨N.toNat - 1,by have:=hg.1;omega⟩
 rw[Int.add_sub_cancel,hm,kids,if_pos hg.1]
 congr 1
 rw[Bfw,List.take_of_length_le]
 by_cases h0:(t g).nx=0
 ·rw[h0,Awo];exact Z21 _
 ·obtain⟨a,b,_⟩:=(T.link g hg).next h0
  have hr:=W _ a (by rw[b];have:=hg.1;omega)
  rw[b,Int.add_sub_cancel]at hr
  have hn:g ∉ kids N t (m+1) ((t g).nx - 1):=fun h=>by
   have:=(A7y T W (m+1) _ a).1 g h;omega
  have:=A2s (N:=N) (List.nodup_cons.2 ⟨hn,A3d T W (m+1) a⟩) (fun y hy=>by
   rcases C9.1 hy with rfl|hy
   ·exact hg.1
   ·exact A9a _ _ y hy)
  simp only[Ws]at this;omega
theorem Bkc (T:Aqg N t){r:Int->Nat}(W:Wf N t r){g:Int}(hg:Lv N t g){fs:List Int}(K:A9b N t ((g+1)::fs)):
  (∀f∈(t g).nx::fs,kf N (rem t g) f=kf N t f)∧A9b N (rem t g) ((t g).fi::(t g).nx::fs):=by
 have h0:(t g).pv=0:=by have:=(K.top (g+1) (by simp) (by have:=hg.1;omega)).2;rwa[Int.add_sub_cancel]at this
 have ho:Oo N t g:=K.or (f:=g+1) (by simp) (by have:=A32 (N:=N) (t:=t) (f:=g+1) (by rw[Int.add_sub_cancel];exact hg.1);rwa[Int.add_sub_cancel]at this)
 have hnd:=K.nodup;rw[List.flatMap_cons,A3e T W hg]at hnd;rw[Px,List.nodup_cons]at hnd
 have hold: ∀f∈(t g).nx::fs,kf N (rem t g) f=kf N t f:=fun f hf=>A9c fun x hx=>by
  refine⟨?_,fun e=>by have:=Ba5 hx;omega⟩
  rintro rfl;refine hnd.1 ?_;rcases C9.1 hf with rfl|hf
  ·exact List.mem_append_left _ hx
  ·exact List.mem_append_right _ (List.mem_flatMap.2 ⟨f,hf,hx⟩)
 have e:((t g).fi::(t g).nx::fs).flatMap (kf N (rem t g))=kf N t (t g).fi++((t g).nx::fs).flatMap (kf N t):=by
  rw[List.flatMap_cons,Azb T W hg,Amz hold]
 have hsub: ∀x,x∈((t g).nx::fs).flatMap (kf N t) ↔ Oo N t x∧x≠g:=by
  intro x
  have:=K.iff x;rw[List.flatMap_cons,A3e T W hg,Px,C9]at this;rw[List.flatMap_cons];constructor
  ·intro h;exact⟨this.1 (.inr h),fun q=>hnd.1 (q ▸ h)⟩
  ·rintro⟨h,hne⟩;rcases this.2 h with q|q
   ·exact absurd q hne
   ·exact q
 refine⟨hold,?_,fun x=> ?_,fun f hf h1=> ?_⟩
 ·rw[e,Adx];refine⟨A0c T W _ hg,by rw[List.flatMap_cons];exact hnd.2,fun x h1 h2=>((hsub x).1 h2).1.2.2 ((A0e T W hg x).1 h1).2.2⟩
 ·rw[e,F8,hsub,A0e T W hg,Bj9 hg.1.1];constructor
  ·rintro(⟨a,b,c⟩|⟨a,b⟩)
   ·exact⟨fun q=>A2t T hg (q ▸ c) (q ▸ b),.inr ⟨a,b⟩⟩
   ·exact⟨b,.inl a⟩
  ·rintro⟨a,h|⟨b,c⟩⟩
   ·exact .inr ⟨h,a⟩
   ·by_cases d:Cu N t x
    ·exact .inl ⟨b,c,d⟩
    ·exact .inr ⟨⟨b,by have:=hg.1.1;omega,d⟩,a⟩
 ·rcases C9.1 hf with rfl|hf
  ·exact A7z T hg h1
  ·rcases C9.1 hf with rfl|hf
   ·obtain⟨a,b,_⟩:=(T.link g hg).next h1
    have hm:(t g).nx - 1≠g:=fun q=>by rw[q]at b;have:=hg.1;omega
    refine⟨a.1,?_⟩;rw[Akc hm];simp only;rw[if_pos (by omega)]
    exact h0
   ·exact A9d T hg (K.top f (by simp[hf]) h1)
theorem A6h{t':Int->Lk}: ∀(q:List (Int×Int)) (seen seen':List Int),(∀e∈q,kf N t' e.2=kf N t e.2)→
  (∀e∈q,∀y,Dd N t' (kf N t' e.2) y->Dd N t (kf N t e.2) y∧ ∀x,Lv N t' x->(t' x).up=y+1-> ¬Cu N t' x->x∈seen'∨Lv N t x∧(t x).up=y+1∧ ¬Cu N t x)→
  (∀e∈q,e.1≠0-> ∀x,Lv N t' x->(t' x).up=e.1->x∈seen'∨Lv N t x∧(t x).up=e.1)→
  (∀x∈seen,Lv N t' x->x∈seen')->Odr N t seen q->Odr N t' seen' q:=by
 intro q
 induction q with
 |nil=>intros;trivial
 |cons e q ih=>
  intro seen seen' hk hd hsl hs h;obtain⟨h1,h2,h3⟩:=h
  have hke:=hk e (by simp)
  refine⟨fun y hy x hx hu hc=> ?_,fun h0 x hx hu=> ?_,?_⟩
  ·obtain⟨a,b⟩:=hd e (by simp) y hy
   rcases b x hx hu hc with b|⟨b1,b2,b3⟩
   ·exact b
   ·exact hs x (h1 y a x b1 b2 b3) hx
  ·rw[hke,F8];rcases hsl e (by simp) h0 x hx hu with b|⟨b1,b2⟩
   ·exact .inl b
   ·rcases F8.1 (h2 h0 x b1 b2)with b|b
    ·exact .inl (hs x b hx)
    ·exact .inr b
  ·rw[hke];refine ih (seen++kf N t e.2) _ (fun f hf=>hk f (by simp[hf])) (fun f hf y hy=> ?_) (fun f hf h0 x hx hu=> ?_) (fun x hx hl=> ?_) h3
   ·obtain⟨a,b⟩:=hd f (by simp[hf]) y hy
    refine⟨a,fun x hx hu hc=> ?_⟩;rcases b x hx hu hc with b|b
    ·exact .inl (List.mem_append_left _ b)
    ·exact .inr b
   ·rcases hsl f (by simp[hf]) h0 x hx hu with b|b
    ·exact .inl (List.mem_append_left _ b)
    ·exact .inr b
   ·rcases F8.1 hx with h|h
    ·exact List.mem_append_left _ (hs x h hl)
    ·exact List.mem_append_right _ h
theorem Bd0: ∀(q:List (Int×Int)) (seen:List Int) (e:Int×Int),Odr N t seen q→
  (∀y,Dd N t (kf N t e.2) y-> ∀x,Lv N t x->(t x).up=y+1-> ¬Cu N t x->x∈seen++q.flatMap (fun e=>kf N t e.2))→
  (e.1≠0-> ∀x,Lv N t x->(t x).up=e.1->x∈(seen++q.flatMap (fun e=>kf N t e.2))++kf N t e.2)->Odr N t seen (q++[e]):=by
 intro q
 induction q with
 |nil=>intro seen e h h1 h2;rw[List.flatMap_nil,List.append_nil]at h1 h2;exact⟨h1,h2,trivial⟩
 |cons f q ih=>
  intro seen e h h1 h2;obtain⟨a,b,c⟩:=h;rw[List.flatMap_cons,←Kv]at h1 h2;exact⟨a,b,ih _ e c h1 h2⟩
theorem A9e{g:Int}{S:List Int}{y:Int}(h:Dd N (rem t g) S y):Dd N t S y:=by
 induction h with
 |base h=>exact .base h
 |step a b c ih=>
  obtain⟨h1,h2⟩:=Amy.1 a;rw[Akc h1]at ih;exact .step h2 ((Ax0 h1).1 b).2 ih
theorem A19{g:Int}{S:List Int}(hS:g ∉ S){y:Int}(h:Dd N (rem t g) S y):y≠g:=by
 cases h with
 |base h=>exact fun e=>hS (e ▸ h)
 |step a _ _=>exact(Amy.1 a).1
theorem A6i{qs qs':List (Int×Int)}(F:Agn N t qs){g:Int}(hg:Lv N t g)(hK:A9b N (rem t g) (qs'.map (·.2)))(hO:Odr N (rem t g) [] qs')(hs: ∀e∈qs',e.1≠0->e.1=g+1∨e.1∈qs.map (·.1)):Agn N (rem t g) qs':=by
 obtain⟨r,W⟩:=F.wf;obtain⟨d,U⟩:=F.uw;refine⟨A6g F.tree hg,⟨r,Bs3 F.tree W hg⟩,⟨d,fun x hx hc=> ?_⟩,hK,hO,fun x hx h=> ?_,fun x hx h=> ?_,fun e he h0=> ?_⟩
 ·obtain⟨h1,h2⟩:=Amy.1 hx;rw[Akc h1];exact U x h2 ((Ax0 h1).1 hc).2
 ·obtain⟨h1,h2⟩:=Amy.1 hx;rw[Akc h1]at h ⊢;simp only at h ⊢
  by_cases e:(t x).up - 1=g
  ·rw[e,A31];exact .inr rfl
  ·rw[Akc e];exact F.gone x h2 h
 ·obtain⟨h1,h2⟩:=Amy.1 hx;rw[Akc h1]at h ⊢;simp only at h ⊢;obtain⟨h3,h4⟩:=Amy.1 h;rw[Akc h3];exact F.ep x h2 h4
 ·by_cases e1:e.1 - 1=g
  ·rw[e1,A31];exact⟨rfl,rfl⟩
  ·rw[Akc e1];rcases hs e he h0 with h|h
   ·omega
   ·obtain⟨a,ha,hb⟩:=D2.1 h;simp only at hb ⊢;rw[←hb];exact F.slot a ha (by rw[hb];exact h0)
theorem A33{qs:List (Int×Int)}(F:Agn N t qs){g:Int}(hg:Al N t g):Agn N (rem t g) (qs++[(g+1,(t g).fi)]):=by
 obtain⟨r,W⟩:=F.wf
 have hl:=hg.lv
 have T:=F.tree
 have K:=F.kid
 have hK:=Bfz T W hl hg.noOr K;rw[show qs.map (·.2)++[(t g).fi]=(qs++[(g+1,(t g).fi)]).map (·.2)by simp]at hK
 have hold: ∀e∈qs,kf N (rem t g) e.2=kf N t e.2:=fun e he=>A4s T hl hg.noOr K (D2.2 ⟨e,he,rfl⟩)
 have hgn: ∀e∈qs,g ∉ kf N t e.2:=fun e he h=>hg.noOr (K.or (D2.2 ⟨e,he,rfl⟩) h)
 have hflat:qs.flatMap (fun e=>kf N (rem t g) e.2)=(qs.map (·.2)).flatMap (kf N t):=by
  rw[List.flatMap_map];exact Amz hold
 refine A6i F hl hK (Bd0 _ _ _ (A6h qs [] [] hold (fun e he y hy=> ?_) (fun e he h0 x hx hu=> ?_) (fun x hx=>by cases hx) F.ord) (fun y hy x hx hu hc=> ?_) (fun _ x hx hu=> ?_)) (fun e he h0=> ?_)
 ·have hy2:=A19 (by rw[hold e he];exact hgn e he) hy
  refine⟨by rw[←hold e he];exact A9e hy,fun x hx hu hc=> .inr ?_⟩
  obtain⟨a,b⟩:=Amy.1 hx;rw[Akc a]at hu;simp only at hu;exact⟨b,hu,fun h=>hc ((Ax0 a).2 ⟨by omega,h⟩)⟩
 ·obtain⟨a,b⟩:=Amy.1 hx;rw[Akc a]at hu;exact .inr ⟨b,hu⟩
 ·rw[Yu,hflat,K.iff];obtain⟨a,b⟩:=Amy.1 hx;rw[Akc a]at hu;simp only at hu;rw[Azb T W hl]at hy
  have hgc:g ∉ kf N t (t g).fi:=fun h=>by obtain⟨_,h2,h3⟩:=(A0e T W hl g).1 h;exact A2t T hl h3 h2
  have hy2:=A19 hgc hy
  have hy0:=Dd.in (fun x hx=>Ba5 hx) hy;exact⟨b,by omega,fun h=>hc ((Ax0 a).2 ⟨by omega,h⟩)⟩
 ·rw[Yu,hflat,Azb T W hl,F8,K.iff,A0e T W hl];obtain⟨a,b⟩:=Amy.1 hx;rw[Akc a]at hu;simp only at hu
  by_cases c:Cu N t x
  ·exact .inr ⟨b,hu,c⟩
  ·exact .inl ⟨b,by have:=hl.1;omega,c⟩
 ·rcases F8.1 he with he|he
  ·exact .inr (D2.2 ⟨e,he,rfl⟩)
  ·rw[Mk]at he;rw[he];exact .inl rfl
theorem Ba6{qs:List (Int×Int)}{s g:Int}(F:Agn N t ((s,g+1)::qs))(h0:0≤g):Lv N t g∧(t g).pv=0∧Agn N (rem t g) ((g+1,(t g).fi)::(s,(t g).nx)::qs):=by
 obtain⟨r,W⟩:=F.wf
 have T:=F.tree
 have K:=F.kid;rw[Z8]at K;obtain⟨k1,k2⟩:=K.top (g+1) (by simp) (by omega)
 have hgm:g∈kf N t (g+1):=by have:=A32 (N:=N) (t:=t) k1;rwa[Int.add_sub_cancel]at this
 have ho:Oo N t g:=K.or (f:=g+1) (by simp) hgm
 have hl:=ho.1;rw[Int.add_sub_cancel]at k2;obtain⟨hold,hK⟩:=Bkc T W hl K;obtain⟨o1,o2,o3⟩:=F.ord;simp only[Yu]at o1 o2 o3
 have hsp:=A3e T W hl
 have hgc:g ∉ kf N t (t g).fi:=fun h=>by obtain⟨_,h2,h3⟩:=(A0e T W hl g).1 h;exact A2t T hl h3 h2
 have hchild: ∀y,Dd N t (kf N t (t g).fi) y->Dd N t (kf N t (g+1)) y:=by
  intro y hy
  induction hy with
  |base h=>
   obtain⟨a,b,c⟩:=(A0e T W hl _).1 h;exact .step a c (by rw[b,Int.add_sub_cancel];exact .base hgm)
  |step a b c ih=>exact .step a b ih
 have hnone: ∀y,Dd N t (kf N t (g+1)) y-> ∀x,Lv N t x->(t x).up=y+1->Cu N t x:=fun y hy x hx hu=>Classical.byContradiction fun h=>by have:=o1 y hy x hx hu h;cases this
 refine⟨hl,k2,A6i F hl hK ⟨fun y hy x hx hu hc=> ?_,fun _ x hx hu=> ?_,fun y hy x hx hu hc=> ?_,fun hs x hx hu=> ?_,?_⟩ (fun e he h1=> ?_)⟩
 ·exfalso;rw[Azb T W hl]at hy
  have hy2:=A19 hgc hy;obtain⟨a,b⟩:=Amy.1 hx;rw[Akc a]at hu;simp only at hu;exact hc ((Ax0 a).2 ⟨by omega,hnone y (hchild y (A9e hy)) x b hu⟩)
 ·rw[Yu,Azb T W hl,A0e T W hl];obtain⟨a,b⟩:=Amy.1 hx;rw[Akc a]at hu;simp only at hu;exact⟨b,hu,hnone g (.base hgm) x b hu⟩
 ·exfalso;rw[hold _ (by simp)]at hy
  have hgt:g ∉ kf N t (t g).nx:=by
   have:=K.nodup;rw[List.flatMap_cons,hsp,Px,List.nodup_cons]at this;exact fun h=>this.1 (List.mem_append_left _ h)
  have hy2:=A19 hgt hy;obtain⟨a,b⟩:=Amy.1 hx;rw[Akc a]at hu;simp only at hu
  have hd:Dd N t (kf N t (g+1)) y:=by
   have:=A9e hy;rw[hsp];clear hy hu
   induction this with
   |base h=>exact .base (Z56 _ h)
   |step a b c ih=>
    exact .step a b (Classical.byCases (fun e:(t _).up - 1=g=>by rw[e];exact .base (by simp)) (fun e=>ih e))
  exact hc ((Ax0 a).2 ⟨by omega,hnone y hd x b hu⟩)
 ·rw[Yu,Azb T W hl,hold _ (by simp)]
  obtain⟨a,b⟩:=Amy.1 hx;rw[Akc a]at hu;simp only at hu
  have:=o2 hs x b hu;rw[hsp]at this;rcases C9.1 this with h|h
  ·exact absurd h a
  ·exact List.mem_append_right _ h
 ·rw[Yu,Azb T W hl,hold _ (by simp)]
  have hq: ∀e∈qs,e.2∈(t g).nx::qs.map (·.2):=fun e he=>Z56 _ (D2.2 ⟨e,he,rfl⟩)
  have hnd:=K.nodup;rw[List.flatMap_cons,hsp,Px,List.nodup_cons]at hnd;refine A6h qs (kf N t (g+1)) _ (fun e he=>hold _ (hq e he)) (fun e he y hy=> ?_) (fun e he _ x hx hu=> ?_) (fun x hx hl'=> ?_) o3
  ·rw[hold _ (hq e he)]at hy
   have hy2:=A19 (fun h=>hnd.1 (List.mem_append_right _ (List.mem_flatMap.2 ⟨e.2,D2.2 ⟨e,he,rfl⟩,h⟩))) hy;refine⟨A9e hy,fun x hx hu hc=> .inr ?_⟩;obtain⟨a,b⟩:=Amy.1 hx;rw[Akc a]at hu;simp only at hu;exact⟨b,hu,fun h=>hc ((Ax0 a).2 ⟨by omega,h⟩)⟩
  ·obtain⟨a,b⟩:=Amy.1 hx;rw[Akc a]at hu;exact .inr ⟨b,hu⟩
  ·rw[hsp]at hx;rcases C9.1 hx with h|h
   ·exact absurd h (Amy.1 hl').1
   ·exact List.mem_append_right _ h
 ·rcases C9.1 he with rfl|he
  ·exact .inl rfl
  ·rcases C9.1 he with rfl|he
   ·exact .inr (by simp)
   ·exact .inr (D2.2 ⟨e,Z56 _ he,rfl⟩)
end
section
variable {N:Int} {t:Int->Lk}
def emp (t:Int->Lk)(k x:Int):Lk:=if x=k then⟨(t k).lv,(t k).gn,(t k).ep+1,(t k).up,(t k).ue,0,(t k).nx,(t k).pv⟩else t x
theorem A70{k:Int}:emp t k k=⟨(t k).lv,(t k).gn,(t k).ep+1,(t k).up,(t k).ue,0,(t k).nx,(t k).pv⟩:=if_pos rfl
theorem A5d{k x:Int}(h:x≠k):emp t k x=t x:=if_neg h
theorem Ah0 (k x:Int):(emp t k x).lv=(t x).lv∧(emp t k x).gn=(t x).gn∧(emp t k x).up=(t x).up∧(emp t k x).ue=(t x).ue∧(emp t k x).nx=(t x).nx∧(emp t k x).pv=(t x).pv:=by
 by_cases h:x=k
 ·subst h;rw[A70];exact⟨rfl,rfl,rfl,rfl,rfl,rfl⟩
 ·rw[A5d h];exact⟨rfl,rfl,rfl,rfl,rfl,rfl⟩
theorem Aq0{k x:Int}:Lv N (emp t k) x ↔ Lv N t x:=by unfold Lv;rw[(Ah0 k x).1]
theorem A3f (hE: ∀x,Lv N t x->Lv N t ((t x).up - 1)->(t x).ue≤(t ((t x).up - 1)).ep){k x:Int}(hx:Lv N t x):Cu N (emp t k) x ↔ (t x).up≠k+1∧Cu N t x:=by
 unfold Cu;rw[Aq0,(Ah0 k x).2.2.1,(Ah0 k x).2.2.2.1]
 by_cases h:(t x).up - 1=k
 ·rw[h,A70];simp only;constructor
  ·rintro⟨a,b⟩
   have:=hE x hx (by rw[h];exact a)
   rw[h]at this;omega
  ·rintro⟨a,_⟩;omega
 ·rw[A5d h];exact⟨fun a=>⟨by omega,a⟩,fun a=>a.2⟩
theorem A5v{k x:Int}(hx:(t x).up≠k+1):Cu N (emp t k) x ↔ Cu N t x:=by
 unfold Cu;rw[Aq0,(Ah0 k x).2.2.1,(Ah0 k x).2.2.2.1,A5d (by omega)]
theorem A6k (k f:Int):kf N (emp t k) f=kf N t f:=A1j _ _ fun x _=>(Ah0 k x).2.2.2.2.1
theorem Bkd (k:Int)(n:Nat)(x:Int):rise N (emp t k) n x=rise N t n x:=A0d _ _ fun x _=>(Ah0 k x).2.2.1
theorem Bke (T:Aqg N t)(hE: ∀x,Lv N t x->Lv N t ((t x).up - 1)->(t x).ue≤(t ((t x).up - 1)).ep){k:Int}(hk:Lv N t k):Aqg N (emp t k):=by
 refine⟨fun x hx=> ?_,fun x hx=> ?_,fun x h0 h1 h=> ?_⟩
 ·have hl:=Aq0.1 hx
  have X:=T.link x hl;obtain⟨s1,s2,s3,s4,s5,s6⟩:=Ah0 (t:=t) k x;refine⟨fun h=> ?_,fun h=> ?_,fun h=> ?_,fun h=> ?_,fun h hc=> ?_⟩
  ·by_cases e:x=k
   ·subst e;rw[A70]at h;exact absurd rfl h
   ·rw[A5d e]at h ⊢;obtain⟨a,b,c,d⟩:=X.first h;obtain⟨q1,q2,q3,q4,q5,q6⟩:=Ah0 (t:=t) k ((t x).fi - 1);rw[Aq0,q6,q3,q4];exact⟨a,b,c,d⟩
  ·rw[s5]at h ⊢;obtain⟨q1,q2,q3,q4,q5,q6⟩:=Ah0 (t:=t) k ((t x).nx - 1);rw[Aq0,q6,q3,q4,s3,s4];exact X.next h
  ·rw[s6]at h ⊢;rw[Aq0,(Ah0 k _).2.2.2.2.1];exact X.prev h
  ·rw[s3]at h ⊢;exact X.up h
  ·rw[s6]at h;obtain⟨a,b⟩:=(A3f hE hl).1 hc;rw[s3,A5d (by omega)]
   exact X.top h b
 ·have hl:=Aq0.1 hx;rw[Bkd];obtain⟨a,b⟩:=T.rise x hl;refine⟨a,fun y hy hc=> ?_⟩
  have hy2:=b y hy
  by_cases e:Lv N t y
  ·exact hy2 ((A3f hE e).1 hc).2
  ·have hin:=Ayj _ _ y (List.mem_of_getLast? hy)
   have:=(T.bare y hin.1 hin.2 (by cases q:(t y).lv with|false=>rfl|true=>exact absurd ⟨hin,q⟩ e)).1
   unfold Cu at hc;rw[(Ah0 k y).2.2.1,this]at hc
   have:=hc.1.1.1;omega
 ·by_cases e:x=k
  ·subst e;rw[A70]at h;have:=hk.2;simp only at h;rw[h]at this;cases this
  ·rw[A5d e]at h ⊢;exact T.bare x h0 h1 h
theorem Bkf (hE: ∀x,Lv N t x->Lv N t ((t x).up - 1)->(t x).ue≤(t ((t x).up - 1)).ep){k x:Int}(hk:0≤k):Oo N (emp t k) x ↔ Oo N t x∨Lv N t x∧(t x).up=k+1:=by
 unfold Oo;rw[Aq0,(Ah0 k x).2.2.1];constructor
 ·rintro⟨a,b,c⟩
  by_cases e:(t x).up=k+1
  ·exact .inr ⟨a,e⟩
  ·exact .inl ⟨a,b,fun d=>c ((A3f hE a).2 ⟨e,d⟩)⟩
 ·rintro(⟨a,b,c⟩|⟨a,b⟩)
  ·exact⟨a,b,fun d=>c ((A3f hE a).1 d).2⟩
  ·exact⟨a,by omega,fun d=>((A3f hE a).1 d).1 b⟩
theorem A9f{qs:List (Int×Int)}(F:Agn N t qs){k:Int}(hg:Al N t k):Agn N (emp t k) (qs++[(0,(t k).fi)]):=by
 obtain⟨r,W⟩:=F.wf;obtain⟨d,U⟩:=F.uw
 have hl:=hg.lv
 have T:=F.tree
 have K:=F.kid
 have hE:=F.ep
 have hflat:qs.flatMap (fun e=>kf N (emp t k) e.2)=(qs.map (·.2)).flatMap (kf N t):=by
  rw[List.flatMap_map];exact Amz fun e _=>A6k k e.2
 have hfl2:((qs++[((0:Int),(t k).fi)]).map (fun e:Int×Int=>e.2)).flatMap (kf N (emp t k))=(qs.map (·.2)).flatMap (kf N t)++kf N t (t k).fi:=by
  rw[Fo,List.flatMap_append,List.flatMap_map,hflat];simp[A6k]
 refine⟨Bke T hE hl,⟨r,fun x hx h=> ?_⟩,⟨d,fun x hx hc=> ?_⟩,⟨?_,fun x=> ?_,fun f hf h0=> ?_⟩,Bd0 _ _ _ (A6h qs [] [] (fun e _=>A6k k e.2) (fun e he y hy=> ?_) (fun e he _ x hx hu=> ?_) (fun x hx=>by cases hx) F.ord) (fun y hy x hx hu hc=> ?_) (fun h=>absurd rfl h),fun x hx h=> ?_,fun x hx h=> ?_,fun e he h0=> ?_⟩
 ·rw[(Ah0 k x).2.2.2.2.2]at h ⊢;exact W x (Aq0.1 hx) h
 ·rw[(Ah0 k x).2.2.1];exact U x (Aq0.1 hx) ((A3f hE (Aq0.1 hx)).1 hc).2
 ·rw[hfl2,Adx];exact⟨K.nodup,A0c T W _ hl,fun x h1 h2=>((K.iff x).1 h1).2.2 ((A0e T W hl x).1 h2).2.2⟩
 ·rw[hfl2,F8,K.iff,A0e T W hl,Bkf hE hl.1.1];constructor
  ·rintro(h|⟨a,b,c⟩)
   ·exact .inl h
   ·exact .inr ⟨a,b⟩
  ·rintro(h|⟨b,c⟩)
   ·exact .inl h
   ·by_cases d:Cu N t x
    ·exact .inr ⟨b,c,d⟩
    ·exact .inl ⟨b,by have:=hl.1.1;omega,d⟩
 ·rw[(Ah0 k _).2.2.2.2.2];rw[Fo,F8]at hf;rcases hf with hf|hf
  ·exact K.top f hf h0
  ·simp only[Z8,Gb,Mk]at hf;subst hf;obtain⟨a,b,_⟩:=(T.link k hl).first h0;exact⟨a.1,b⟩
 ·have hor: ∀x∈kf N t e.2,Oo N t x:=fun x hx=>K.or (D2.2 ⟨e,he,rfl⟩) hx
  have hy2:Dd N t (kf N t e.2) y:=by
   rw[A6k]at hy
   induction hy with
   |base h=>exact .base h
   |step a b c ih=>
    rw[(Ah0 k _).2.2.1]at ih;exact .step (Aq0.1 a) ((A3f hE (Aq0.1 a)).1 b).2 ih
  refine⟨hy2,fun x hx hu hc=> .inr ?_⟩;rw[(Ah0 k x).2.2.1]at hu
  have hne:y≠k:=fun q=>hg.noDd hor (q ▸ hy2);exact⟨Aq0.1 hx,hu,fun h=>hc ((A5v (by omega)).2 h)⟩
 ·rw[(Ah0 k x).2.2.1]at hu;exact .inr ⟨Aq0.1 hx,hu⟩
 ·rw[Yu,hflat,K.iff];rw[(Ah0 k x).2.2.1]at hu
  have hy0:=Dd.in (fun x hx=>Ba5 hx) hy
  have hal:Al N (emp t k) k:=by
   clear hy hu hc hx;cases hg with
   |root a b=>exact .root (Aq0.2 a) (by rw[(Ah0 k _).2.2.1];exact b)
   |step a b c=>
    have key: ∀z,Al N t z->d z<d k->Al N (emp t k) z:=by
     intro z hz
     induction hz with
     |root a b=>intro _;exact .root (Aq0.2 a) (by rw[(Ah0 k _).2.2.1];exact b)
     | @step z a b c ih=>
      intro h1
      have h2:=U z a b
      have hne:(t z).up≠k+1:=fun q=>by rw[q,Int.add_sub_cancel]at h2;omega
      exact .step (Aq0.2 a) ((A5v hne).2 b) (by rw[(Ah0 k _).2.2.1];exact ih (by omega))
    have h2:=U k a b
    have hne:(t k).up≠k+1:=fun q=>by rw[q,Int.add_sub_cancel]at h2;omega
    exact .step (Aq0.2 a) ((A5v hne).2 b) (by rw[(Ah0 k _).2.2.1];exact key _ c h2)
  have hne:y≠k:=fun q=>by
   refine hal.noDd (S:=kf N (emp t k) (t k).fi) (fun z hz=> ?_) (q ▸ hy);rw[A6k,A0e T W hl]at hz;exact(Bkf hE hl.1.1).2 (.inr ⟨hz.1,hz.2.1⟩)
  exact⟨Aq0.1 hx,by omega,fun h=>hc ((A5v (by omega)).2 h)⟩
 ·rw[(Ah0 k x).2.2.1]at h ⊢;rw[(Ah0 k _).1,(Ah0 k _).2.1];exact F.gone x (Aq0.1 hx) h
 ·rw[(Ah0 k x).2.2.1]at h ⊢;rw[(Ah0 k x).2.2.2.1]
  have:=hE x (Aq0.1 hx) (Aq0.1 h)
  by_cases e:(t x).up - 1=k
  ·rw[e]at this ⊢;rw[A70];simp only;omega
  ·rw[A5d e];exact this
 ·rw[(Ah0 k _).1,(Ah0 k _).2.1];rcases F8.1 he with he|he
  ·exact F.slot e he h0
  ·rw[Mk]at he;rw[he]at h0;exact absurd rfl h0
def clr (t:Int->Lk)(k x:Int):Lk:=if x=k then⟨false,false,0,0,0,0,0,0⟩else t x
theorem A6l{qs:List (Int×Int)}{s:Int}(F:Agn N t ((s,0)::qs)):Agn N t qs:=by
 obtain⟨o1,o2,o3⟩:=F.ord
 have h0:kf N t 0=[]:=Awo _
 have K:=F.kid;simp only[h0,List.append_nil]at o3;refine⟨F.tree,F.wf,F.uw,?_,o3,F.gone,F.ep,fun e he=>F.slot e (Z56 _ he)⟩;refine⟨?_,fun x=> ?_,fun f hf=>K.top f (Z56 _ hf)⟩
 ·have:=K.nodup;rw[Z8,List.flatMap_cons,h0,Yu]at this;exact this
 ·have:=K.iff x;rw[Z8,List.flatMap_cons,h0,Yu]at this;exact this
theorem Aul{k:Int}(h:(t k).lv=false){x:Int}:Lv N (clr t k) x ↔ Lv N t x:=by
 unfold Lv clr
 by_cases e:x=k
 ·subst e;rw[if_pos rfl,h]
 ·rw[if_neg e]
theorem Aix{k:Int}(h:(t k).lv=false){x:Int}(hx:Lv N t x):clr t k x=t x:=by
 unfold clr;rw[if_neg];intro e;subst e
 have:=hx.2;rw[h]at this;cases this
theorem A3g{k:Int}(h:(t k).lv=false){x:Int}(hx:Lv N t x):Cu N (clr t k) x ↔ Cu N t x:=by
 unfold Cu;rw[Aix h hx,Aul h];constructor
 ·rintro⟨a,b⟩;rw[Aix h a]at b;exact⟨a,b⟩
 ·rintro⟨a,b⟩;rw[Aix h a];exact⟨a,b⟩
theorem A9g{qs:List (Int×Int)}{s:Int}(F:Agn N t ((s,0)::qs))(h0:s≠0)(hs: ∀e∈qs,e.1≠s):Agn N (clr t (s - 1)) qs:=by
 have F':=A6l F;obtain⟨r,W⟩:=F.wf;obtain⟨d,U⟩:=F.uw
 have T:=F.tree
 have K:=F'.kid;obtain⟨hlv,hgn⟩:=F.slot (s,0) (by simp) h0
 simp only at hlv hgn
 have hno: ∀x,Lv N t x->(t x).up≠s:=fun x hx e=>by
  have:=F.ord.2.1 h0 x hx e;rw[show kf N t ((s,(0:Int)).2)=[] from Awo _]at this
  cases this
 have hnl: ∀x,x≠s - 1->clr t (s - 1) x=t x:=fun x h=>if_neg h
 have hup: ∀x,(0≤x∧x<N)->(clr t (s - 1) x).up=(t x).up:=fun x h=>by
  by_cases e:x=s - 1
  ·subst e;rw[(T.bare _ h.1 h.2 hlv).1];unfold clr;rw[if_pos rfl]
  ·rw[hnl x e]
 have hri: ∀n x,rise N (clr t (s - 1)) n x=rise N t n x:=fun n x=>A0d n x fun y hy=>hup y (Ayj _ _ y hy)
 have hkf: ∀f∈qs.map (·.2),kf N (clr t (s - 1)) f=kf N t f:=fun f hf=>A1j _ _ fun x hx=>by rw[Aix hlv (K.or hf hx).1]
 have hor: ∀x,Oo N (clr t (s - 1)) x ↔ Oo N t x:=fun x=>by
  unfold Oo;rw[Aul hlv];constructor
  ·rintro⟨a,b,c⟩;rw[Aix hlv a]at b;rw[A3g hlv a]at c;exact⟨a,b,c⟩
  ·rintro⟨a,b,c⟩;rw[Aix hlv a,A3g hlv a];exact⟨a,b,c⟩
 have hdd: ∀S y,Dd N (clr t (s - 1)) S y->Dd N t S y:=fun S y h=>by
  induction h with
  |base h=>exact .base h
  |step a b c ih=>
   have a:=(Aul hlv).1 a;rw[Aix hlv a]at ih;exact .step a ((A3g hlv a).1 b) ih
 refine⟨⟨fun x hx=> ?_,fun x hx=> ?_,fun x h0 h1 h=> ?_⟩,⟨r,fun x hx h=> ?_⟩,⟨d,fun x hx hc=> ?_⟩,⟨?_,fun x=> ?_,fun f hf h1=> ?_⟩,?_,fun x hx h=> ?_,fun x hx h=> ?_,fun e he h1=> ?_⟩
 ·have hl:=(Aul hlv).1 hx
  have X:=T.link x hl;refine⟨fun h=> ?_,fun h=> ?_,fun h=> ?_,fun h=> ?_,fun h hc=> ?_⟩
  ·rw[Aix hlv hl]at h ⊢
   have a:=(X.first h).1;rw[Aul hlv,Aix hlv a];exact X.first h
  ·rw[Aix hlv hl]at h ⊢
   have a:=(X.next h).1;rw[Aul hlv,Aix hlv a];exact X.next h
  ·rw[Aix hlv hl]at h ⊢
   have a:=(X.prev h).1;rw[Aul hlv,Aix hlv a];exact X.prev h
  ·rw[Aix hlv hl]at h ⊢;exact X.up h
  ·have hc:=(A3g hlv hl).1 hc;rw[Aix hlv hl]at h ⊢;rw[Aix hlv hc.1];exact X.top h hc
 ·have hl:=(Aul hlv).1 hx;rw[hri];obtain⟨a,b⟩:=T.rise x hl;refine⟨a,fun y hy hc=>b y hy ?_⟩;unfold Cu at hc ⊢;rw[hup y (Ayj _ _ y (List.mem_of_getLast? hy)),Aul hlv]at hc;refine⟨hc.1,?_⟩;rw[←Aix hlv hc.1,hc.2]
  by_cases e:y=s - 1
  ·subst e
   have hin:=Ayj _ _ _ (List.mem_of_getLast? hy)
   have:=(T.bare _ hin.1 hin.2 hlv).1;rw[this]at hc
   have:=hc.1.1.1;omega
  ·rw[hnl y e]
 ·by_cases e:x=s - 1
  ·subst e;unfold clr;rw[if_pos rfl];exact⟨rfl,rfl,rfl,rfl⟩
  ·rw[hnl x e]at h ⊢;exact T.bare x h0 h1 h
 ·have hl:=(Aul hlv).1 hx;rw[Aix hlv hl]at h ⊢;exact W x hl h
 ·have hl:=(Aul hlv).1 hx;rw[Aix hlv hl];exact U x hl ((A3g hlv hl).1 hc)
 ·rw[Amz hkf];exact K.nodup
 ·rw[Amz hkf,K.iff,hor]
 ·obtain⟨a,b⟩:=K.top f hf h1;refine⟨a,?_⟩;rw[Aix hlv (K.or hf (A32 a)).1];exact b
 ·have hk: ∀e∈qs,kf N (clr t (s - 1)) e.2=kf N t e.2:=fun e he=>hkf _ (D2.2 ⟨e,he,rfl⟩);refine A6h qs [] [] hk (fun e he y hy=>⟨by rw[←hk e he];exact hdd _ _ hy,fun x hx hu hc=> ?_⟩) (fun e he h1 x hx hu=> ?_) (fun x hx=>by cases hx) F'.ord
  ·have hl:=(Aul hlv).1 hx;rw[Aix hlv hl]at hu;exact .inr ⟨hl,hu,fun h=>hc ((A3g hlv hl).2 h)⟩
  ·have hl:=(Aul hlv).1 hx;rw[Aix hlv hl]at hu;exact .inr ⟨hl,hu⟩
 ·have hl:=(Aul hlv).1 hx;rw[Aix hlv hl]at h ⊢;rw[hnl _ (by have:=hno x hl;omega)]
  exact F.gone x hl h
 ·have hl:=(Aul hlv).1 hx;rw[Aix hlv hl]at h ⊢
  have h2:=(Aul hlv).1 h;rw[Aix hlv h2];exact F.ep x hl h2
 ·rw[hnl _ (by have:=hs e he;omega)]
  exact F'.slot e he h1
end
section
variable {N:Int} {t:Int->Lk}
def ins (t:Int->Lk)(k p x:Int):Lk:=
 if x=k then⟨true,false,0,p+1,if p+1=0 then 0 else(t p).ep,0,if p+1=0 then 0 else(t p).fi,0⟩
 else⟨(t x).lv,(t x).gn,(t x).ep,(t x).up,(t x).ue,if x=p then k+1 else(t x).fi,(t x).nx,if p+1≠0∧x+1=(t p).fi then k+1 else(t x).pv⟩
theorem Au0{k p:Int}:ins t k p k=⟨true,false,0,p+1,if p+1=0 then 0 else(t p).ep,0,if p+1=0 then 0 else(t p).fi,0⟩:=if_pos rfl
theorem Asy{k p x:Int}(h:x≠k):ins t k p x=⟨(t x).lv,(t x).gn,(t x).ep,(t x).up,(t x).ue,if x=p then k+1 else(t x).fi,(t x).nx,if p+1≠0∧x+1=(t p).fi then k+1 else(t x).pv⟩:=if_neg h
theorem Bkg: ∀(n:Nat) (x y:Int),y∈rise N t n x->y=x∨ ∃z,z∈rise N t n x∧(t z).up - 1=y:=by
 intro n
 induction n with
 |zero=>intro x y h;cases h
 |succ n ih=>
  intro x y h;rw[rise]at h ⊢;split at h
  ·rename_i h1;rw[if_pos h1];rcases C9.1 h with h|h
   ·exact .inl h
   ·rcases ih _ y h with h|⟨z,h2,h3⟩
    ·exact .inr ⟨x,by simp,h.symm⟩
    ·exact .inr ⟨z,by simp[h2],h3⟩
  ·cases h
theorem Bd1{d:Int->Nat}(U: ∀x,Lv N t x->Cu N t x->d ((t x).up - 1)<d x): ∀(n:Nat) (x:Int),Al N t x->(∀y∈rise N t n x,d y≤d x∧Al N t y)∧(rise N t n x).Pairwise (fun a b=>d b<d a):=by
 intro n
 induction n with
 |zero=>intro x _;exact⟨fun y h=>(by cases h),.nil⟩
 |succ n ih=>
  intro x hx;rw[rise,if_pos hx.lv.1];cases hx with
  |root a b=>
   have:rise N t n ((t x).up - 1)=[]:=by rw[b];cases n with|zero=>rfl|succ n=>rw[rise,if_neg (by omega)]
   rw[this];exact⟨fun y h=>by rw[Mk.1 h];exact⟨Z9 _,.root a b⟩,List.pairwise_singleton ..⟩
  |step a b c=>
   obtain⟨i1,i2⟩:=ih _ c
   have h2:=U x a b;refine⟨fun y h=> ?_,List.pairwise_cons.2 ⟨fun y h=> ?_,i2⟩⟩
   ·rcases C9.1 h with rfl|h
    ·exact⟨Z9 _,.step a b c⟩
    ·obtain⟨j1,j2⟩:=i1 y h;exact⟨by omega,j2⟩
   ·have:=(i1 y h).1;omega
theorem Ba7{qs:List (Int×Int)}(F:Agn N t qs){k p:Int}(hk:0≤k∧k<N)(hlv:(t k).lv=false)(hgn:(t k).gn=false)(hp:p= -1∨Al N t p∧(rise N t N.toNat p).length<4):Agn N (ins t k p) qs:=by
 obtain⟨r,W⟩:=F.wf;obtain⟨d,U⟩:=F.uw
 have T:=F.tree
 have K:=F.kid
 have hne: ∀ {x},Lv N t x->x≠k:=fun {x} h e=>by subst e;rw[h.2]at hlv;cases hlv
 have hno: ∀x,Lv N t x->(t x).up≠k+1:=fun x hx e=>by
  rcases F.gone x hx (by omega)with h|h
  ·rw[e,Int.add_sub_cancel,hlv]at h;cases h
  ·rw[e,Int.add_sub_cancel,hgn]at h;cases h
 have hp0:p+1≠0->Al N t p:=fun h=>by
  rcases hp with rfl|hp
  ·exact absurd rfl h
  ·exact hp.1
 have hp1: ∀x,Lv N t x->x=p->p+1≠0:=fun x hx e=>by have:=hx.1.1;omega
 have L: ∀x,Lv N (ins t k p) x ↔ x=k∨Lv N t x:=fun x=>by
  unfold Lv
  by_cases e:x=k
  ·subst e;rw[Au0];simp[hk]
  ·rw[Asy e];simp[e]
 have hL: ∀ {x},Lv N t x->Lv N (ins t k p) x:=fun h=>(L _).2 (.inr h)
 have hup: ∀x,x≠k->(ins t k p x).up=(t x).up:=fun x h=>by rw[Asy h]
 have C: ∀x,x≠k->(t x).up≠k+1->(Cu N (ins t k p) x ↔ Cu N t x):=fun x h h1=>by
  unfold Cu;rw[L,hup x h,Asy (x:=(t x).up - 1) (by omega),Asy h]
  constructor
  ·rintro⟨a,b⟩;exact⟨a.resolve_left (by omega),b⟩
  ·rintro⟨a,b⟩;exact⟨.inr a,b⟩
 have Ck:p+1≠0->Cu N (ins t k p) k:=fun h=>by
  have:=(hp0 h).lv;unfold Cu;rw[Au0];simp only;rw[Int.add_sub_cancel,if_neg h,Asy (hne this)];exact⟨hL this,rfl⟩
 have Cn:p+1=0-> ¬Cu N (ins t k p) k:=fun h c=>by
  unfold Cu at c;rw[Au0]at c;simp only at c
  have:=c.1.1.1;omega
 have hkf: ∀f∈qs.map (·.2),kf N (ins t k p) f=kf N t f:=fun f hf=>A1j _ _ fun x hx=>by rw[Asy (hne (K.or hf hx).1)]
 have hor: ∀x,Oo N (ins t k p) x ↔ Oo N t x:=fun x=>by
  unfold Oo;rw[L]
  by_cases e:x=k
  ·subst e;constructor
   ·rintro⟨_,b,c⟩;rw[Au0]at b;exact absurd (Ck b) c
   ·rintro⟨a,_⟩;exact absurd rfl (hne a)
  ·rw[hup x e];constructor
   ·rintro⟨a,b,c⟩
    have a:=a.resolve_left e;exact⟨a,b,fun h=>c ((C x e (hno x a)).2 h)⟩
   ·rintro⟨a,b,c⟩;exact⟨.inr a,b,fun h=>c ((C x e (hno x a)).1 h)⟩
 have hrk: ∀x,Lv N t x-> ∀n,k ∉ rise N t n x:=fun x hx n h=>by
  rcases Bkg _ _ _ h with h|⟨z,h1,h2⟩
  ·exact hne hx h.symm
  ·by_cases hz:(t z).lv=true
   ·exact hno z ⟨Ayj _ _ _ h1,hz⟩ (by omega)
   ·have:=Ayj _ _ _ h1
    have:=(T.bare z this.1 this.2 (by simpa using hz)).1
    omega
 have hri: ∀x,Lv N t x-> ∀n,rise N (ins t k p) n x=rise N t n x:=fun x hx n=>A0d n x fun y hy=>hup y fun e=>hrk x hx n (e ▸ hy)
 have hlast: ∀x,Lv N t x-> ∀y,(rise N t N.toNat x).getLast? =some y-> ¬Cu N (ins t k p) y:=fun x hx y hy hc=>by
  have hm:=List.mem_of_getLast? hy
  have hyk:y≠k:=fun e=>hrk x hx _ (e ▸ hm)
  have hin:=Ayj _ _ _ hm
  by_cases hz:(t y).lv=true
  ·exact(T.rise x hx).2 y hy ((C y hyk (hno y ⟨hin,hz⟩)).1 hc)
  ·have:=(T.bare y hin.1 hin.2 (by simpa using hz)).1
   unfold Cu at hc;rw[hup y hyk,this]at hc
   have:=hc.1.1.1;omega
 obtain⟨m,hm⟩: ∃m,N.toNat=m+1:=⟨N.toNat - 1,by omega⟩
 have hpk:p+1≠0->rise N (ins t k p) N.toNat k=k::rise N t N.toNat p:=fun h=>by
  have ha:=hp0 h;rw[hm,rise,if_pos hk,Au0];simp only;rw[Int.add_sub_cancel,hri p ha.lv,←hm]
  congr 1
  rw[hm,Bfy,List.take_of_length_le];obtain⟨i1,i2⟩:=Bd1 U (m+1) p ha
  have:=A2s (N:=N) (List.nodup_cons.2 ⟨hrk p ha.lv (m+1),i2.imp fun h e=>by rw[e]at h;omega⟩) (fun y hy=>by
   rcases C9.1 hy with rfl|hy
   ·exact hk
   ·exact Ayj _ _ y hy)
  simp only[Ws]at this;omega
 refine⟨⟨fun x hx=> ?_,fun x hx=> ?_,fun x h0 h1 h=> ?_⟩,⟨fun x=>if x=k then 0 else r x+1,fun x hx h=> ?_⟩,⟨fun x=>if x=k then d p+1 else d x,fun x hx hc=> ?_⟩,⟨?_,fun x=> ?_,fun f hf h1=> ?_⟩,?_,fun x hx h=> ?_,fun x hx h=> ?_,fun e he h1=> ?_⟩
 ·by_cases e:x=k
  ·subst e;refine⟨fun h=> ?_,fun h=> ?_,fun h=> ?_,fun h=> ?_,fun h hc=> ?_⟩
   ·rw[Au0]at h;exact absurd rfl h
   ·rw[Au0]at h ⊢;simp only at h ⊢
    by_cases hq:p+1=0
    ·rw[if_pos hq]at h;exact absurd rfl h
    ·rw[if_neg hq]at h ⊢;rw[if_neg hq];obtain⟨a,b,c,e⟩:=(T.link p (hp0 hq).lv).first h;rw[Asy (hne a)];simp only;rw[if_pos ⟨hq,by omega⟩]
     exact⟨hL a,rfl,c,e⟩
   ·rw[Au0]at h;exact absurd rfl h
   ·rw[Au0]at h ⊢;simp only at h ⊢;rw[Int.add_sub_cancel];exact(hp0 h).lv.1
   ·by_cases hq:p+1=0
    ·exact absurd hc (Cn hq)
    ·rw[Au0];simp only;rw[Int.add_sub_cancel,Asy (hne (hp0 hq).lv)];simp
  ·have hl:=((L x).1 hx).resolve_left e
   have X:=T.link x hl;refine⟨fun h=> ?_,fun h=> ?_,fun h=> ?_,fun h=> ?_,fun h hc=> ?_⟩
   ·rw[Asy e]at h ⊢;simp only at h ⊢
    by_cases hq:x=p
    ·have hq1:=hp1 x hl hq;rw[if_pos hq,Int.add_sub_cancel,Au0];refine⟨(L k).2 (.inl rfl),rfl,?_,?_⟩
     ·show p+1=x+1;omega
     ·show(if p+1=0 then 0 else(t p).ep)=_;rw[if_neg hq1,hq]
    ·rw[if_neg hq]at h ⊢;obtain⟨a,b,c,f⟩:=X.first h;rw[Asy (hne a)];simp only;rw[if_neg]
     ·exact⟨hL a,b,c,f⟩
     ·rintro⟨g1,g2⟩
      have:=((T.link p (hp0 g1).lv).first (by have:=hl.1;omega)).2.2.1
      rw[←g2,Int.add_sub_cancel]at this;omega
   ·rw[Asy e]at h ⊢;simp only at h ⊢;obtain⟨a,b,c,f⟩:=X.next h;rw[Asy (hne a)];simp only;rw[if_neg]
    ·exact⟨hL a,b,c,f⟩
    ·rintro⟨g1,g2⟩
     have:=((T.link p (hp0 g1).lv).first (by have:=hl.1;omega)).2.1
     rw[←g2,Int.add_sub_cancel]at this
     have:=hl.1;omega
   ·rw[Asy e]at h ⊢;simp only at h ⊢
    by_cases hq:p+1≠0∧x+1=(t p).fi
    ·rw[if_pos hq,Int.add_sub_cancel,Au0];simp only;rw[if_neg hq.1];exact⟨(L k).2 (.inl rfl),hq.2.symm⟩
    ·rw[if_neg hq]at h ⊢;obtain⟨a,b⟩:=X.prev h;rw[Asy (hne a)];exact⟨hL a,b⟩
   ·rw[Asy e]at h ⊢;exact X.up h
   ·have hc:=(C x e (hno x hl)).1 hc;rw[Asy e]at h ⊢;simp only at h ⊢
    by_cases hq:p+1≠0∧x+1=(t p).fi
    ·rw[if_pos hq]at h;omega
    ·rw[if_neg hq]at h
     have:=X.top h hc;rw[Asy (hne hc.1)];simp only;rw[if_neg]
     ·exact this
     ·intro g;rw[g]at this;exact hq ⟨hp1 _ hc.1 g,by omega⟩
 ·by_cases e:x=k
  ·subst e
   by_cases hq:p+1=0
   ·have:rise N (ins t x p) N.toNat x=[x]:=by
     rw[hm,rise,if_pos hk,Au0];simp only;rw[hq];cases m with
     |zero=>rfl
     |succ m=>rw[rise,if_neg (by omega)]
    rw[this];refine⟨by simp,fun y hy=> ?_⟩
    rw[←F9 (show some x=some y from hy)]
    exact Cn hq
   ·rw[hpk hq];rcases hp with rfl|hp
    ·exact absurd rfl hq
    ·refine⟨by simp only[Ws];omega,fun y hy=> ?_⟩
     have:rise N t N.toNat p≠[]:=by rw[hm,rise,if_pos hp.1.lv.1];simp
     rw[List.getLast?_cons]at hy;refine hlast p hp.1.lv y ?_;rw[←hy];cases ha:rise N t N.toNat p with
     |nil=>exact absurd ha this
     |cons a l=>rw[List.getLast?_cons];simp
  ·have hl:=((L x).1 hx).resolve_left e;rw[hri x hl];exact⟨(T.rise x hl).1,hlast x hl⟩
 ·by_cases e:x=k
  ·subst e;rw[Au0]at h;cases h
  ·rw[Asy e]at h ⊢;simp only at h ⊢;obtain⟨a,b,c,f⟩:=T.bare x h0 h1 h;refine⟨a,?_,c,?_⟩
   ·rw[if_neg]
    ·exact b
    ·intro g
     have:=(hp0 (by omega)).lv.2
     rw[←g,h]at this;cases this
   ·rw[if_neg]
    ·exact f
    ·rintro⟨g1,g2⟩
     have:=((T.link p (hp0 g1).lv).first (by omega)).1.2
     rw[←g2,Int.add_sub_cancel,h]at this;cases this
 ·by_cases e:x=k
  ·subst e;rw[Au0]at h;exact absurd rfl h
  ·have hl:=((L x).1 hx).resolve_left e;rw[Asy e]at h ⊢;simp only at h ⊢;simp only[if_neg e]
   by_cases hq:p+1≠0∧x+1=(t p).fi
   ·simp only[if_pos hq,Int.add_sub_cancel,↓reduceIte];omega
   ·rw[if_neg hq]at h ⊢;rw[if_neg (hne ((T.link x hl).prev h).1)]
    have:=W x hl h;omega
 ·by_cases e:x=k
  ·subst e
   by_cases hq:p+1=0
   ·exact absurd hc (Cn hq)
   ·simp only[Au0,Int.add_sub_cancel,if_neg (hne (hp0 hq).lv),↓reduceIte];omega
  ·have hl:=((L x).1 hx).resolve_left e
   have hc:=(C x e (hno x hl)).1 hc;rw[hup x e];simp only[if_neg e,if_neg (hne hc.1)];exact U x hl hc
 ·rw[Amz hkf];exact K.nodup
 ·rw[Amz hkf,K.iff,hor]
 ·obtain⟨a,b⟩:=K.top f hf h1
  have ho:=K.or hf (A32 (N:=N) (t:=t) a);refine⟨a,?_⟩;rw[Asy (hne ho.1)];simp only;rw[if_neg]
  ·exact b
  ·rintro⟨g1,g2⟩
   have hpl:=(hp0 g1).lv;obtain⟨_,_,c3,c4⟩:=(T.link p hpl).first (by omega)
   rw[←g2,Int.add_sub_cancel]at c3 c4;exact ho.2.2 (by unfold Cu;rw[c3,c4,Int.add_sub_cancel];exact⟨hpl,rfl⟩)
 ·have hk2: ∀e∈qs,kf N (ins t k p) e.2=kf N t e.2:=fun e he=>hkf _ (D2.2 ⟨e,he,rfl⟩);refine A6h qs [] [] hk2 (fun e he y hy=> ?_) (fun e he h1 x hx hu=> ?_) (fun x hx=>by cases hx) F.ord
  ·have hS: ∀x∈kf N t e.2,Oo N t x:=fun x hx=>K.or (D2.2 ⟨e,he,rfl⟩) hx;rw[hk2 e he]at hy
   have hy2:Dd N t (kf N t e.2) y:=by
    induction hy with
    |base h=>exact .base h
    | @step y a b c ih=>
     by_cases q:y=k
     ·subst q
      by_cases hq:p+1=0
      ·exact absurd b (Cn hq)
      ·rw[Au0]at ih;simp only at ih;rw[Int.add_sub_cancel]at ih;exact absurd ih ((hp0 hq).noDd hS)
     ·have hl:=((L y).1 a).resolve_left q;rw[hup y q]at ih;exact .step hl ((C y q (hno y hl)).1 b) ih
   refine⟨hy2,fun x hx hu hc=> .inr ?_⟩
   by_cases q:x=k
   ·subst q
    by_cases hq:p+1=0
    ·rw[Au0]at hu;simp only at hu
     have:=Dd.in (fun x hx=>Ba5 hx) hy2;omega
    ·exact absurd (Ck hq) hc
   ·have hl:=((L x).1 hx).resolve_left q;rw[hup x q]at hu;exact⟨hl,hu,fun h=>hc ((C x q (hno x hl)).2 h)⟩
  ·by_cases q:x=k
   ·subst q;rw[Au0]at hu;simp only at hu
    have:=(hp0 (by omega)).lv.2
    have h3:=(F.slot e he h1).1;rw[←hu,Int.add_sub_cancel,this]at h3;cases h3
   ·have hl:=((L x).1 hx).resolve_left q;rw[hup x q]at hu;exact .inr ⟨hl,hu⟩
 ·by_cases e:x=k
  ·subst e;rw[Au0]at h ⊢;simp only at h ⊢;rw[Int.add_sub_cancel,Asy (hne (hp0 h).lv)];exact .inl (hp0 h).lv.2
  ·have hl:=((L x).1 hx).resolve_left e;rw[hup x e]at h ⊢;rw[Asy (by have:=hno x hl;omega)]
   exact F.gone x hl h
 ·by_cases e:x=k
  ·subst e;rw[Au0]at h ⊢;simp only at h ⊢
   by_cases hq:p+1=0
   ·have:=h.1.1;omega
   ·rw[if_neg hq,Int.add_sub_cancel,Asy (hne (hp0 hq).lv)];exact Int.le_refl _
  ·have hl:=((L x).1 hx).resolve_left e;rw[hup x e]at h ⊢
   have hu:=hno x hl
   have h2:=((L _).1 h).resolve_left (by omega)
   rw[Asy e,Asy (hne h2)];exact F.ep x hl h2
 ·have:=F.slot e he h1
  have q:e.1 - 1≠k:=fun q=>by rw[q]at this;rw[this.2]at hgn;cases hgn
  rw[Asy q];exact this
end
theorem sb1{x:Int}(h0: -1000000000≤x)(h1:x≤1000000000):Ana .i64 x 1=x - 1:=by unfold Ana;rw[Aa3 (by omega) (by omega)]
theorem ad1{x:Int}(h0: -1000000000≤x)(h1:x≤1000000000):Am9 .i64 x 1=x+1:=by unfold Am9;rw[Aa3 (by omega) (by omega)]
def A2a (n:A8):Lk:=⟨n.Yq==1,n.Yq==2,n.Sy,n.fUp,n.Wk,n.Er,n.Wl,n.Wm⟩
def AtT (l:List A8)(t:Int->Lk):Prop:= ∀k,0≤k∧k<(l.length:Int)->t k=A2a (gt l k)
structure Rg (l:List A8):Prop where
 len:l.length≤8
 rg: ∀k,0≤k∧k<(l.length:Int)->(0≤(gt l k).fUp∧(gt l k).fUp≤l.length)∧(0≤(gt l k).Er∧(gt l k).Er≤l.length)∧(0≤(gt l k).Wl∧(gt l k).Wl≤l.length)∧(0≤(gt l k).Wm∧(gt l k).Wm≤l.length)
theorem As8{l:List A8}{t:Int->Lk}(A:AtT l t){k:Int}:Lv l.length t k ↔ (0≤k∧k<(l.length:Int))∧(gt l k).Yq=1:=by
 unfold Lv;constructor
 ·rintro⟨a,b⟩;rw[A _ a]at b;exact⟨a,by simpa[A2a]using b⟩
 ·rintro⟨a,b⟩;rw[A _ a];exact⟨a,by simpa[A2a]using b⟩
theorem Bkh{l:List A8}{t:Int->Lk}(A:AtT l t)(R:Rg l): ∀(n:Nat) (k:Int),Axu l n k=kids l.length t n k:=by
 intro n
 induction n with
 |zero=>intro k;rfl
 |succ n ih=>
  intro k;rw[Axu,kids];split
  ·rename_i h
   have:=(R.rg k h).2.2.1
   have:=R.len;rw[A _ h,sb1 (by omega) (by omega),ih];rfl
  ·rfl
theorem A34{l:List A8}{t:Int->Lk}(A:AtT l t)(R:Rg l): ∀(n:Nat) (k:Int),Aes l n k=rise l.length t n k:=by
 intro n
 induction n with
 |zero=>intro k;rfl
 |succ n ih=>
  intro k;rw[Aes,rise];split
  ·rename_i h
   have:=(R.rg k h).1
   have:=R.len;rw[A _ h,sb1 (by omega) (by omega),ih];rfl
  ·rfl
theorem A2b{l:List A8}{t:Int->Lk}(A:AtT l t)(R:Rg l){f:Int}(h0:0≤f)(h1:f≤1000):Adw l f=kf l.length t f:=by
 unfold Adw kf;rw[sb1 (by omega) (by omega),Bkh A R,Int.toNat_natCast]
theorem A35{l:List A8}{n:Int}(h0:0≤n)(h1:n≤1000):plB l n=true ↔ 0≤n - 1∧n - 1<(l.length:Int):=by
 unfold plB;rw[sb1 (by omega) (by omega),decide_eq_true_iff]
theorem A36{l:List A8}{t:Int->Lk}(A:AtT l t)(R:Rg l){k:Int}(h:0≤k∧k<(l.length:Int)):Azs l k=true ↔ Cu l.length t k:=by
 have h1:=(R.rg k h).1
 have h2:=R.len;unfold Azs Cu;rw[Z4,Z4,A35 h1.1 (by omega),beq_iff_eq,beq_iff_eq,sb1 (by omega) (by omega),A _ h]
 show _ ↔ Lv _ _ ((gt l k).fUp - 1)∧(t ((gt l k).fUp - 1)).ep=(gt l k).Wk;rw[As8 A];constructor
 ·rintro⟨a,b,c⟩;rw[A _ a];exact⟨⟨a,b⟩,c⟩
 ·rintro⟨⟨a,b⟩,c⟩;rw[A _ a]at c;exact⟨a,b,c⟩
theorem Ba8{l:List A8}{t:Int->Lk}(A:AtT l t)(R:Rg l){k:Int}(h:0≤k∧k<(l.length:Int)):Awm l k=true ↔ Oo l.length t k:=by
 unfold Awm Oo;rw[Z4,Z4,beq_iff_eq,bne_iff_ne,Y3,As8 A,←A36 A R h,A _ h,Bool.not_eq_true];exact⟨fun⟨a,b,c⟩=>⟨⟨h,a⟩,b,c⟩,fun⟨⟨_,a⟩,b,c⟩=>⟨a,b,c⟩⟩
theorem A6m{l:List A8}{t:Int->Lk}(A:AtT l t){n:Int}(h0:0≤n)(h1:n≤1000):Ars l n=true ↔ (n≠0->Lv l.length t (n - 1)):=by
 unfold Ars;rw[Bool.or_eq_true,beq_iff_eq,Z4,A35 h0 h1,beq_iff_eq,As8 A,sb1 (by omega) (by omega)]
 constructor
 ·rintro(h|h) h2
  ·exact absurd h h2
  ·exact h
 ·intro h
  by_cases e:n=0
  ·exact .inl e
  ·exact .inr (h e)
theorem Bcu{a:Int}{b:Bool}{P:Prop}(h:b=true ↔ P):(a==0||b)=true ↔ (a≠0->P):=by
 rw[Bool.or_eq_true,beq_iff_eq,h];constructor
 ·rintro(h|h) h2
  ·exact absurd h h2
  ·exact h
 ·intro h
  by_cases e:a=0
  ·exact .inl e
  ·exact .inr (h e)
theorem A71{l:List A8}{t:Int->Lk}(A:AtT l t)(R:Rg l){k:Int}(h:0≤k∧k<(l.length:Int)):Azu l k=true ↔ Bj5 l.length t k:=by
 obtain⟨r1,r2,r3,r4⟩:=R.rg k h
 have h2:=R.len
 have eg: ∀n,Lv l.length t n->t n=A2a (gt l n):=fun n hn=>A _ hn.1
 have ek:=A _ h;unfold Azu A2q Bfm Bar A7g A5m;rw[ad1 (by omega) (by omega),sb1 (x:=(gt l k).Er) (by omega) (by omega),sb1 (x:=(gt l k).Wl) (by omega) (by omega),sb1 (x:=(gt l k).Wm) (by omega) (by omega),sb1 (x:=(gt l k).fUp) (by omega) (by omega)]
 simp only[Z4,A6m A r2.1 (by omega:(gt l k).Er≤1000),A6m A r3.1 (by omega:(gt l k).Wl≤1000),A6m A r4.1 (by omega:(gt l k).Wm≤1000),Bcu (A35 r1.1 (by omega:(gt l k).fUp≤1000)),Bcu Bool.and_eq_true_iff,Bcu beq_iff_eq,beq_iff_eq]
 constructor
 ·rintro⟨⟨a1,a2,a3,a4⟩,a5,a6,a7,a8⟩;refine⟨?_,?_,?_,?_,?_⟩
  ·rw[ek];intro q;have:=a1 q;rw[show(A2a (gt l k)).fi=(gt l k).Er from rfl,eg _ this];exact⟨this,a5 q⟩
  ·rw[ek];intro q;have:=a2 q;rw[show(A2a (gt l k)).nx=(gt l k).Wl from rfl,eg _ this];exact⟨this,a6 q⟩
  ·rw[ek];intro q;have:=a3 q;rw[show(A2a (gt l k)).pv=(gt l k).Wm from rfl,eg _ this];exact⟨this,a7 q⟩
  ·rw[ek];exact a4
  ·rw[ek];intro q c
   have hc:=(A36 A R h).2 c
   have hu:=c.1;rw[ek]at hu
   have hu:Lv l.length t ((gt l k).fUp - 1):=hu;rw[show(A2a (gt l k)).up=(gt l k).fUp from rfl,eg _ hu]
   rw[show(A2a (gt l k)).pv=(gt l k).Wm from rfl]at q
   rw[q,hc]at a8
   show(gt l ((gt l k).fUp - 1)).Er=k+1;simpa using a8
 ·intro L;obtain⟨a1,a2,a3,a4,a5⟩:=L;rw[ek]at a1 a2 a3 a4 a5;refine⟨⟨fun q=>(a1 q).1,fun q=>(a2 q).1,fun q=>(a3 q).1,a4⟩,fun q=> ?_,fun q=> ?_,fun q=> ?_,?_⟩
  ·obtain⟨b1,b2,b3,b4⟩:=a1 q;rw[eg _ b1]at b2 b3 b4;exact⟨b2,b3,b4⟩
  ·obtain⟨b1,b2,b3,b4⟩:=a2 q;rw[eg _ b1]at b2 b3 b4;exact⟨b2,b3,b4⟩
  ·obtain⟨b1,b2⟩:=a3 q;rw[eg _ b1]at b2;exact b2
  ·by_cases q:(gt l k).Wm=0
   ·cases hc:Azs l k with
    |false=>simp
    |true=>
     have c:=(A36 A R h).1 hc
     have hu:=c.1;rw[ek]at hu
     have:=a5 q c;rw[eg _ hu]at this;simp only[Bool.or_eq_true,beq_iff_eq];exact .inr this
   ·rw[Ail q];rfl
theorem Bki{r:List Int}(h:r≠[]):r.getLast? =some (A45 r):=by
 unfold A45;rw[Acm (by have:=List.length_pos_iff.2 h;omega),List.getLast?_eq_getElem?]
 exact Eb _
theorem Bkj{l:List A8}{t:Int->Lk}(A:AtT l t)(R:Rg l)(hb: ∀k,0≤k∧k<(l.length:Int)->(gt l k).Yq≠1->(gt l k).fUp=0∧(gt l k).Er=0∧(gt l k).Wl=0∧(gt l k).Wm=0):A46 l=true ↔ Aqg l.length t:=by
 have key: ∀k,0≤k∧k<(l.length:Int)->(A0u l k=true ↔ (rise l.length t (l.length:Int).toNat k).length≤4∧ ∀x,(rise l.length t (l.length:Int).toNat k).getLast? =some x-> ¬Cu l.length t x):=by
  intro k h;unfold A0u
  have hne:Aes l l.length k≠[]:=fun e=>by have:=A59 h;rw[e]at this;exact absurd this (Nat.lt_irrefl _)
  have hin:=A8w h;rw[Int.toNat_natCast,←A34 A R,Z4,decide_eq_true_iff,Y3,Bki hne];constructor
  ·rintro⟨a,b⟩;refine⟨by omega,fun x hx hc=> ?_⟩
   rw[←F9 hx,←A36 A R hin,b]at hc;cases hc
  ·rintro⟨a,b⟩;refine⟨by omega,?_⟩
   have:=b _ rfl;rw[←A36 A R hin]at this;simpa using this
 unfold A46;rw[Z1];constructor
 ·intro h
  have h2: ∀k,Lv l.length t k->Azu l k=true∧A0u l k=true:=by
   intro k hk;obtain⟨a,b⟩:=(As8 A).1 hk
   have:=h k.toNat (by simp;omega)
   rw[show((k.toNat:Nat):Int)=k by omega,b]at this
   simpa using this
  exact⟨fun k hk=>(A71 A R hk.1).1 (h2 k hk).1,fun k hk=>(key k hk.1).1 (h2 k hk).2,fun k h0 h1 hl=>by
   rw[A _ ⟨h0,h1⟩]at hl ⊢;exact hb k ⟨h0,h1⟩ (by simpa[A2a]using hl)⟩
 ·intro T k hk;rw[List.mem_range]at hk
  by_cases e:(gt l (k:Int)).Yq=1
  ·have hl:=(As8 A).2 ⟨⟨by omega,by omega⟩,e⟩
   rw[(A71 A R hl.1).2 (T.link _ hl),(key _ hl.1).2 (T.rise _ hl)];simp
  ·simp[e]
def Aq1 (st gen:Int):A8:=A8.mk st gen 0 0 0 0 0 0 [] 0 0 [] []
structure Avf (c:D4)(n:A8):Prop where
 conf:Ak5 c=true
 st:n.Yq=1
 gen:1≤n.C6∧n.C6≤c.Ki
 up:0≤n.fUp∧n.fUp≤c.Fj
 first:0≤n.Er∧n.Er≤c.Fj
 next:0≤n.Wl∧n.Wl≤c.Fj
 prev:0≤n.Wm∧n.Wm≤c.Fj
 ep:0≤n.Sy
 ue:0≤n.Wk
 dist:As2 c n.A6=true
 cur:A3r c n=true
 nth:n.H7.length≤12
 ntag:n.F3.length≤6
 tags:n.F3.all (fun x=>inB x 0 255)=true
 things:n.H7.all (Apa c)=true
theorem Amj{c:D4}{n:A8}:Aqe c n=true∧n.Yq=1 ↔ Avf c n:=by
 unfold Aqe A55;constructor
 ·rintro⟨h,h1⟩;rw[h1]at h;simp only[Z4,Age,bne_self_eq_false,cond_false,Y3,decide_eq_false_iff_not,decide_eq_true_eq]at h;obtain⟨a,_,b,⟨c1,c2,c3,c4⟩,⟨d1,d2⟩,⟨e1,e2⟩,⟨f1,f2⟩,g1,g2⟩:=h;exact⟨a,h1,b,c1,c2,c3,c4,by omega,by omega,e1,e2,by omega,by omega,g1,g2⟩
 ·intro h;refine⟨?_,h.st⟩;rw[h.st];simp only[Z4,Age,bne_self_eq_false,cond_false,Y3,decide_eq_false_iff_not,decide_eq_true_eq];exact⟨h.conf,by omega,h.gen,⟨h.up,h.first,h.next,h.prev⟩,⟨by have:=h.ep;omega,by have:=h.ue;omega⟩,⟨h.dist,h.cur⟩,⟨by have:=h.nth;omega,by have:=h.ntag;omega⟩,h.tags,h.things⟩
theorem Axr{c:D4}{n:A8}(h:Aqe c n=true)(h1:n.Yq≠1):n=Aq1 n.Yq n.C6:=by
 have:=A7t h h1;unfold A3q at this;simp only[Z4,beq_iff_eq]at this;obtain⟨a1,a2,a3,a4,a5,a6,a7,a8,a9,a10,a11⟩:=this;cases n;simp only at a1 a2 a3 a4 a5 a6 a7 a8 a9 a10 a11;unfold Aq1;simp only[a1,a2,a3,a4,a5,a6,a8,a9,Ks.1 (Int.ofNat_eq_zero.1 a7),Ks.1 (Int.ofNat_eq_zero.1 a10),Ks.1 (Int.ofNat_eq_zero.1 a11)]
theorem A2u{c:D4}(hc:Ak5 c=true){st gen:Int}(h0:0≤st∧st≤3)(h1:st≠1)(h2:1≤gen∧gen≤c.Ki):Aqe c (Aq1 st gen)=true:=by
 unfold Aqe;rw[hc]
 show(true&&(inB st 0 3&&(inB gen 1 c.Ki&&(bif st != 1 then A3q (Aq1 st gen)else _))))=true
 rw[Aqd h1,Age.2 h0,Age.2 h2];rfl
theorem Azx{c:D4}{n:A8}(h:Aqe c n=true):Ak5 c=true∧(0≤n.Yq∧n.Yq≤3)∧1≤n.C6∧n.C6≤c.Ki:=by
 unfold Aqe at h;simp only[Z4,Age]at h;exact⟨h.1,h.2.1,h.2.2.1⟩
theorem A3h{c:D4}{n:A8}(h:Aqe c n=true):(0≤n.fUp∧n.fUp≤c.Fj)∧(0≤n.Er∧n.Er≤c.Fj)∧(0≤n.Wl∧n.Wl≤c.Fj)∧(0≤n.Wm∧n.Wm≤c.Fj):=by
 by_cases e:n.Yq=1
 ·have:=Amj.1 ⟨h,e⟩;exact⟨this.up,this.first,this.next,this.prev⟩
 ·rw[Axr h e];obtain⟨_,_,b,_⟩:=Ap (Azx h).1;exact⟨⟨Int.le_refl _,by simp[Aq1];omega⟩,⟨Int.le_refl _,by simp[Aq1];omega⟩,⟨Int.le_refl _,by simp[Aq1];omega⟩,⟨Int.le_refl _,by simp[Aq1];omega⟩⟩
theorem A5e{c:D4}{n:A8}(h:Aqe c n=true):As2 c n.A6=true:=by
 by_cases e:n.Yq=1
 ·exact(Amj.1 ⟨h,e⟩).dist
 ·rw[Axr h e];rfl
def Aq4 (q:List Av):List (Int×Int):=q.map (fun x=>(x.Be,x.Er))
structure Inv (w:Ds):Prop where
 pool:Aty w.fC w.fP=true
 len:(w.fL.length:Int)=w.fC.Fj
 node: ∀k,0≤k∧k<(w.fL.length:Int)->Aqe w.fC (gt w.fL k)=true
 own: ∀k,0≤k∧k<(w.fL.length:Int)-> ∀c,c∈(gt w.fL k).A6 ↔ (0≤c∧c<w.fC.A6)∧gt w.fP.Yq c=1∧gt w.fP.Sl c=k
 thing: ∀k,0≤k∧k<(w.fL.length:Int)->(gt w.fL k).H7.all (Aq2 w.fC (gt w.fL k).A6)=true∧Aok (gt w.fL k).H7=true∧Aq3 w.fC w.fP.Sk (gt w.fL k)=true
 forest: ∃t,AtT w.fL t∧Agn w.fL.length t (Aq4 w.fQ)
 wrec: ∀x∈w.fQ,Ami w.fC x=true∧Aol w x=true
 chn:(chL w.fQ).Nodup
 chi: ∀c,c∈chL w.fQ ↔ (0≤c∧c<w.fC.A6)∧gt w.fP.Yq c=2
 sln:(slL w.fQ).Nodup
 sli: ∀s,s∈slL w.fQ ↔ (0≤s∧s<(w.fL.length:Int))∧(gt w.fL s).Yq=2
 log:w.Afv.all (fun x=>inB x 0 255)=true
theorem Inv.conf{w:Ds}(I:Inv w):Ak5 w.fC=true:=(Asu I.pool).1
theorem Inv.rg{w:Ds}(I:Inv w):Rg w.fL:=by
 obtain⟨_,_,b,_⟩:=Ap I.conf
 have:=I.len;refine⟨by omega,fun k hk=> ?_⟩
 rw[I.len];exact A3h (I.node k hk)
theorem Inv.live{w:Ds}(I:Inv w){t:Int->Lk}(A:AtT w.fL t){k:Int}(h:Lv w.fL.length t k):Avf w.fC (gt w.fL k):=Amj.1 ⟨I.node k ((As8 A).1 h).1,((As8 A).1 h).2⟩
theorem A9i{N:Nat}{l:List Int}(hn:l.Nodup){k:Nat}(hk:k<N)(h:(k:Int)∈l):(gt (Ak6 N l) (k:Int)==1)=true:=by
 rw[Az9 (by omega) (by omega),hn.count,if_pos h];rfl
theorem Inv.chunks{w:Ds}(I:Inv w){k:Int}(hk:0≤k∧k<(w.fL.length:Int)):Az8 w.fP k (gt w.fL k).A6=true:=by
 obtain⟨_,_,hst,hown,_⟩:=Asu I.pool
 have hd:=Axy (A5e (I.node k hk))
 have hs:=(A0l w.fP k).imp (fun {a b} (h:a<b)=>Int.ne_of_lt h)
 have hm: ∀x,x∈Asx w.fP k ↔ x∈(gt w.fL k).A6:=by
  intro x;rw[I.own k hk x];unfold Asx;rw[Ave];simp only[Z4,beq_iff_eq];constructor
  ·rintro⟨⟨a,b⟩,c⟩;rw[show((x.toNat:Nat):Int)=x by omega]at c
   exact⟨⟨a,by omega⟩,c⟩
  ·rintro⟨⟨a,b⟩,c⟩;refine⟨⟨a,by omega⟩,?_⟩
   rw[show((x.toNat:Nat):Int)=x by omega]
   exact c
 unfold Az8;rw[Z4,Z1,beq_iff_eq];refine⟨fun x hx=>List.contains_iff_mem.2 ((hm x).1 hx),?_⟩
 have h1:=Awg (o:=Asx w.fP k) (l:=(gt w.fL k).A6) hs (fun x hx=>(hm x).1 hx)
 have h2:=Awg (o:=(gt w.fL k).A6) (l:=Asx w.fP k) hd (fun x hx=>(hm x).2 hx);omega
theorem A9j{q:List Av}{x:Av}(hx:x∈q){c:Int}(h:c∈x.A6):c∈chL q:=List.mem_flatMap.2 ⟨x,hx,h⟩
theorem Bd3{q:List Av}{x:Av}(hx:x∈q)(h:x.Be≠0):Ana .i64 x.Be 1∈slL q:=List.mem_flatMap.2 ⟨x,hx,by rw[if_neg h];simp⟩
theorem Inv.first{w:Ds}(I:Inv w){x:Av}(hx:x∈w.fQ):0≤x.Er∧x.Er≤8:=by
 obtain⟨_,_,b,_⟩:=Ap I.conf
 have:=(Ap7 (I.wrec x hx).1).2.2.1;omega
theorem Inv.qs{w:Ds}{x:Av}(hx:x∈w.fQ):x.Er∈(Aq4 w.fQ).map (fun e:Int×Int=>e.2):=by
 unfold Aq4;rw[Ch,D2];exact⟨x,hx,rfl⟩
theorem Inv.waste{w:Ds}(I:Inv w){x:Av}(hx:x∈w.fQ):Amr w x=true:=by
 obtain⟨b1,_,b,_⟩:=Ap I.conf;obtain⟨h1,h2⟩:=I.wrec x hx;obtain⟨_,r1,r2,r3,_⟩:=Ap7 h1
 have hf:=I.first hx;obtain⟨t,A,F⟩:=I.forest;unfold Amr;simp only[Z4];refine⟨h1,?_,h2,?_,?_,?_⟩
 ·unfold A1e;rw[Z1];intro c hc;rw[beq_iff_eq];exact((I.chi c).1 (A9j hx hc)).2
 ·unfold Avd
  by_cases e:x.Be=0
  ·rw[e];rfl
  ·rw[((I.sli _).1 (Bd3 hx e)).2];simp
 ·unfold Axk
  by_cases e:x.Er=0
  ·rw[e];rfl
  ·obtain⟨a,b⟩:=F.kid.top _ (Inv.qs hx) e;rw[sb1 (by omega) (by omega)]
   rw[A _ a]at b
   have b:(gt w.fL (x.Er - 1)).Wm=0:=b;rw[b];simp
 ·unfold Ary;rw[Z1];intro k hk
  have hin:=A12 _ _ k hk;rw[A2b A I.rg hf.1 (by omega)]at hk
  exact(Ba8 A I.rg hin).2 (F.kid.or (Inv.qs hx) hk)
theorem Bd4{w:Ds}(I:Inv w){t:Int->Lk}(A:AtT w.fL t):kdL w.fL w.fQ=((Aq4 w.fQ).map (fun e:Int×Int=>e.2)).flatMap (kf w.fL.length t):=by
 unfold kdL Aq4;rw[Ch,List.flatMap_map];exact Amz fun x hx=>by
  have hf:=I.first hx;exact A2b A I.rg hf.1 (by omega)
theorem Inv.fin{w:Ds}(I:Inv w):Awa w w.fC.A6.toNat=true:=by
 obtain⟨_,_,hst,hown,_⟩:=Asu I.pool;obtain⟨t,A,F⟩:=I.forest;unfold Awa;rw[Z4,Z1,Z1];refine⟨fun k hk=> ?_,fun k hk=> ?_⟩
 ·rw[List.mem_range]at hk;cases e:(gt w.fP.Yq (k:Int)==2)with
  |false=>rfl
  |true=>exact A9i I.chn (by omega) ((I.chi _).2 ⟨⟨by omega,by omega⟩,by simpa using e⟩)
 ·rw[List.mem_range]at hk;rw[Z4];constructor
  ·cases e:((gt w.fL (k:Int)).Yq==2)with
   |false=>rfl
   |true=>exact A9i I.sln hk ((I.sli _).2 ⟨⟨by omega,by omega⟩,by simpa using e⟩)
  ·cases e:Awm w.fL (k:Int)with
   |false=>rfl
   |true=>
    refine A9i (by rw[Bd4 I A];exact F.kid.nodup) hk ?_
    rw[Bd4 I A,F.kid.iff];exact(Ba8 A I.rg ⟨by omega,by omega⟩).1 e
theorem Inv.ok{w:Ds}(I:Inv w):A4q w=true:=by
 obtain⟨t,A,F⟩:=I.forest;unfold A4q;simp only[Z4,beq_iff_eq];refine⟨I.pool,I.len,?_,?_,⟨?_,I.fin⟩,I.log⟩
 ·rw[Z1];intro k hk;rw[List.mem_range]at hk
  have hk2:0≤(k:Int)∧(k:Int)<(w.fL.length:Int):=⟨by omega,by omega⟩
  obtain⟨t1,t2,t3⟩:=I.thing k hk2;unfold A43;rw[I.node k hk2,I.chunks hk2,t1,t2,t3];rfl
 ·refine(Bkj A I.rg fun k hk h=> ?_).2 F.tree;rw[Axr (I.node k hk) h];exact⟨rfl,rfl,rfl,rfl⟩
 ·rw[Z1];exact fun x hx=>I.waste hx
end Go.Proofs.YtplfjgdlpbdojaaGreat
