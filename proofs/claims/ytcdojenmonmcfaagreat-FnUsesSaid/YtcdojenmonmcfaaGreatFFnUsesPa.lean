/- The plain law for FnUses; no condition. -/
import Derived.Test.YtcdojenmonmcfaaGreatFFnUsesTb
import Derived.Test.YtcdojenmonmcfaaGreatFFnUsesW
set_option linter.all false
namespace Go.Proofs.YtcdojenmonmcfaaGreat
open Go.Eng Go.ChangeShapes Go.WideShapes Go.ChangeAt Go.RowKit
theorem Acx{i:Nat}(h:i≤140737488355328):An3 .i64 (i:Int) 1=((i+1:Nat):Int):=by
 unfold An3;rw[IntKind.wrap_i64];omega
theorem V2{α:Type}[Inhabited α]{l:List α}{i:Nat}(h:i<l.length):gt l (i:Int)=l[i]:=by
 unfold gt;simp[h]
theorem Ani{α:Type}[Inhabited α]{l:List α}{i:Nat}(h:i<l.length):gt l (i:Int)∈l:=by
 rw[V2 h];exact List.getElem_mem h
theorem Ahf{α:Type}[Inhabited α]{l:List α}{i:Int}(h0:0≤i)(h:i<l.length):gt l i∈l:=by
 obtain⟨k,rfl⟩: ∃k:Nat,i=k:=⟨i.toNat,by omega⟩
 exact Ani (by omega)
theorem Ad4{i k:Nat}(h:i<k):decide ((i:Int)<(k:Int))=true:=by simp;omega
theorem Ad5{i k:Nat}(h:k≤i):decide ((i:Int)<(k:Int))=false:=by simp;omega
theorem Bmj (a:List Int)(ha:a.length≤140737488355328)
  (L:Nat->Int->Option Bool) (hL: ∀n i,L (n+1) i=bif decide (i<(a.length:Int))then(if(0:Int)≤i∧i<(a.length:Int)then(if(0:Int)≤i∧i<(a.length:Int)then(bif (gt a i != gt a i)then some false else L n (An3 .i64 i 1))else none)else none)else some true):
  ∀(n i:Nat),i≤a.length->a.length - i<n->L n (i:Int)=some true:=by
 intro n
 induction n with
 |zero=>intro i _ h;omega
 |succ n ih=>
  intro i hi hn;rw[hL];rcases Hl i a.length with h|h
  ·rw[Ad4 h];simp only[cond_true];rw[if_pos ⟨by omega,by omega⟩,if_pos ⟨by omega,by omega⟩,Acx (by omega)]
   simp only[bne_self_eq_false,cond_false];exact ih (i+1) h (by omega)
  ·rw[Ad5 h];rfl
theorem K0{n:Int}(h0: -9223372036854775808≤n)(h1:n≤9223372036854775807):IntKind.i64.wrap n=n:=by rw[IntKind.wrap_i64];omega
theorem Bmk (n:Int): -9223372036854775808≤IntKind.i64.wrap n∧IntKind.i64.wrap n≤9223372036854775807:=by rw[IntKind.wrap_i64];omega
theorem cc{α:Type}(b:Bool)(x:α):(bif b then x else x)=x:=by cases b<;>rfl
theorem Aq0{a b:Int}(h: ¬a=b):(a != b)=true:=by simpa using h
theorem Agz{a b:Int}(h: ¬a=b):(a==b)=false:=by simpa using h
def inB (x a b:Int):Bool:=decide (a≤x∧x≤b)
theorem Acu{x a b:Int}:inB x a b=true ↔ a≤x∧x≤b:=by unfold inB;exact decide_eq_true_iff
theorem Bab{x a b:Int}:inB x a b=false ↔ ¬(a≤x∧x≤b):=by unfold inB;exact decide_eq_false_iff_not
theorem Akr (b:Bool)(x:Bool):(bif b then some x else some false)=some (b&&x):=by cases b<;>rfl
theorem Bac (b:Bool)(x:Bool):(bif b then some false else some x)=some (!b&&x):=by cases b<;>rfl
theorem A1b (b:Bool)(x:Bool):(bif b then some true else some x)=some (b||x):=by cases b<;>rfl
theorem Wx{α:Type}(b:Bool)(x y:α):(bif !b then x else y)=(bif b then y else x):=by cases b<;>rfl
theorem Ahl{i n:Nat}(h:i<n):((0:Int)≤(i:Int)∧(i:Int)<(n:Int)):=⟨by omega,by omega⟩
theorem Bve{α:Type}(l:List α)(q:α->Bool)(fin:Option Bool)(L:Nat->Int->Option Bool)
  (hs: ∀n (i:Nat) (h:i<l.length),L (n+1) (i:Int)=bif q l[i]then L n ((i+1:Nat):Int)else some false)
  (he: ∀n,L (n+1) (l.length:Int)=fin):
  ∀(n i:Nat),i≤l.length->l.length - i<n->L n (i:Int)=bif (l.drop i).all q then fin else some false:=by
 intro n
 induction n with
 |zero=>intro i _ h;omega
 |succ n ih=>
  intro i hi hn;rcases Hl i l.length with h|h
  ·rw[hs n i h,Z47 h,Gc];cases q l[i]with
   |false=>rfl
   |true=>rw[cond_true,ih (i+1) h (by omega)];rfl
  ·obtain rfl:i=l.length:=by omega
   rw[he,List.drop_length];rfl
theorem Asj{α:Type}{K:Nat}(hK:281474976710656≤K)(l:List α)(hl:l.length≤140737488355328)(q:α->Bool)(fin:Option Bool)(L:Nat->Int->Option Bool)
  (hs: ∀n (i:Nat) (h:i<l.length),L (n+1) (i:Int)=bif q l[i]then L n ((i+1:Nat):Int)else some false)
  (he: ∀n,L (n+1) (l.length:Int)=fin):L K 0=bif l.all q then fin else some false:=by
 have:=Bve l q fin L hs he K 0 (Z21 _) (by omega)
 simpa using this
theorem Apu{K:Nat}(hK:281474976710656≤K)(N:Nat)(hl:N≤140737488355328)(q:Nat->Bool)(fin:Option Bool)(L:Nat->Int->Option Bool)
  (hs: ∀n (i:Nat) (h:i<N),L (n+1) (i:Int)=bif q i then L n ((i+1:Nat):Int)else some false)
  (he: ∀n,L (n+1) (N:Int)=fin):L K 0=bif (List.range N).all q then fin else some false:=by
 refine Asj hK (List.range N) (by simpa using hl) q fin L (fun n i h=> ?_) (fun n=> ?_)
 ·rw[List.getElem_range];exact hs n i (by simpa using h)
 ·rw[List.length_range];exact he n
theorem Bml{α:Type}(l:List α)(q:α->Bool)(L:Nat->Int->Int->Option Int)
  (hs: ∀n (i:Nat) (h:i<l.length),L (n+1) (l.length:Int) (i:Int)=bif q l[i]then some (i:Int)else L n (l.length:Int) ((i+1:Nat):Int))
  (he: ∀n,L (n+1) (l.length:Int) (l.length:Int)=some (-1)):
  ∀(n i:Nat),i≤l.length->l.length - i<n-> ∃r,L n (l.length:Int) (i:Int)=some r∧decide (r≥0)=(l.drop i).any q:=by
 intro n
 induction n with
 |zero=>intro i _ h;omega
 |succ n ih=>
  intro i hi hn;rcases Hl i l.length with h|h
  ·rw[hs n i h,Z47 h,List.any_cons];cases q l[i]with
   |true=>exact⟨_,rfl,by simp⟩
   |false=>rw[cond_false,Z52];exact ih (i+1) h (by omega)
  ·obtain rfl:i=l.length:=by omega
   exact⟨_,he n,by simp⟩
theorem A4d{α:Type}[Inhabited α]{K:Nat}(hK:281474976710656≤K)(l:List α)(hl:l.length≤140737488355328)(f:α->Option Bool)(q:α->Bool)(hf: ∀x∈l,f x=some (q x))(L:Nat->Int->Int->Option Int)
  (hL: ∀n N i,L (n+1) N i=bif decide (i<N)then(if(0:Int)≤i∧i<(l.length:Int)then(f (gt l i)).bind (fun r=>bif r then some i else L n N (An3 .i64 i 1))else none)else some (-1)):
  ((L K (l.length:Int) 0).bind fun r=>some (decide (r≥0)))=some (l.any q):=by
 obtain⟨r,h1,h2⟩:=Bml l q L (fun n i h=>by
  rw[hL,Ad4 h,cond_true,if_pos (Ahl h),hf _ (Ani h),V2 h,Z0,Acx (by omega)]) (fun n=>by rw[hL,Ad5 (Z9 _),cond_false]) K 0 (Z21 _) (by omega)
 rw[show((0:Nat):Int)=0 from rfl]at h1
 rw[h1,Z0,h2,Z55]
theorem A3l{K:Nat}(hK:281474976710656≤K)(l:List Int)(x:Int)(hl:l.length≤140737488355328):Anc K l x=some (l.contains x):=by
 unfold Anc Axm;obtain⟨r,h1,h2⟩:=Bml l (fun y=>x==y) (Aox K l x) (fun n i h=>by
  rw[Aox,Ad4 h,cond_true,if_pos (Ahl h),V2 h,Acx (by omega)]) (fun n=>by rw[Aox,Ad5 (Z9 _),cond_false]) K 0 (Z21 _) (by omega)
 rw[show((0:Nat):Int)=0 from rfl]at h1
 rw[h1,Z0,h2,Z55,List.contains_eq_any_beq]
theorem A1c{K:Nat}(hK:281474976710656≤K)(l:List Int)(x:Int)(hl:l.length≤140737488355328):Ap5 K l x=some (l.contains x):=by
 unfold Ap5
 have h: ∀(n i:Nat),i≤l.length->l.length - i<n->Au7 K l x n (i:Int)=some ((l.drop i).contains x):=by
  intro n
  induction n with
  |zero=>intro i _ h;omega
  |succ n ih=>
   intro i hi hn;rw[Au7];rcases Hl i l.length with h|h
   ·rw[Ad4 h,cond_true,if_pos (Ahl h),V2 h,Acx (by omega),ih (i+1) h (by omega),Z47 h,List.contains_cons,A1b,Bool.beq_comm]
   ·rw[Ad5 h,cond_false,Z48 h];rfl
 have:=h K 0 (Z21 _) (by omega)
 simpa using this
theorem Anm (K:Nat)(x a b:Int):Gy K x a b=some (inB x a b):=by
 unfold Gy inB
 by_cases h:a≤x
 ·rw[decide_eq_true (show x≥a from h)];simp[h]
 ·rw[decide_eq_false (show ¬x≥a from h)];simp[h]
theorem Av8 (K:Nat)(x a b:Int):Wy K x a b=some (inB x a b):=Anm K x a b
def Ahe (c:D9):Bool:=inB c.Ay 2 12&&(inB c.G6 8 16&&(inB c.E5 2 8&&(inB c.Gs 1 8&&(inB c.E6 1 16&&inB c.G7 1 4))))
theorem Aq1 (K:Nat)(c):Anf K c=some (Ahe c):=by
 simp only[Anf,Anm,Z0,Akr,Ahe]
theorem A3m (K:Nat)(c):Auo K c=some (Ahe c):=Aq1 K c
theorem Gx{c:D9}(h:Ahe c=true):(2≤c.Ay∧c.Ay≤12)∧(8≤c.G6∧c.G6≤16)∧(2≤c.E5∧c.E5≤8)∧(1≤c.Gs∧c.Gs≤8)∧(1≤c.E6∧c.E6≤16)∧(1≤c.G7∧c.G7≤4):=by
 simpa only[Ahe,Z4,Acu]using h
def Ala (c:D9):Int:=bif Ahe c then c.Ay*c.G6 else 0
theorem Au0{a b m n:Int}(h1:0≤a)(h2:a≤m)(h3:0≤b)(h4:b≤n):0≤a*b∧a*b≤m*n:=
 ⟨Int.mul_nonneg h1 h3,Int.mul_le_mul h2 h4 h3 (by omega)⟩
theorem Atx (K:Nat)(c):Arb K c=some (Ala c):=by
 unfold Arb Ala;rw[Aq1,Z0,Wx];cases h:Ahe c with
 |false=>rfl
 |true=>
  obtain⟨h1,h2,_⟩:=Gx h
  have:=Au0 (a:=c.Ay) (b:=c.G6) (m:=12) (n:=16) (by omega) h1.2 (by omega) h2.2
  simp only[cond_true,An5];rw[K0 (by omega) (by omega)]
theorem A20 (K:Nat)(c):Ayl K c=some (Ala c):=Atx K c
theorem A1d (c:D9):0≤Ala c∧Ala c≤192:=by
 unfold Ala;cases h:Ahe c with
 |false=>simp
 |true=>
  obtain⟨h1,h2,_⟩:=Gx h
  have:=Au0 (a:=c.Ay) (b:=c.G6) (m:=12) (n:=16) (by omega) h1.2 (by omega) h2.2
  simp only[cond_true];omega
section
variable {K:Nat} (hK:281474976710656≤K)
include hK
def Ao6 (l:List Int):Bool:=l.all (fun x=>x==0)
theorem A1v (l:List Int)(hl:l.length≤140737488355328):Asd K l=some (Ao6 l):=by
 unfold Asd;rw[Asj hK l hl (fun x=>x==0) (some true) (Ars K l) (fun n i h=>by
  rw[Ars,Ad4 h,cond_true,if_pos (Ahl h),V2 h,Acx (by omega)]
  cases e:l[i]==0<;>simp[bne,e]) (fun n=>by rw[Ars,Ad5 (Z9 _),cond_false])]
 unfold Ao6;cases l.all (fun x=>x==0)<;>rfl
theorem A3n (l:List Int)(hl:l.length≤140737488355328):Aup K l=some (Ao6 l):=by
 unfold Aup Akv Amg;rw[A4d hK l hl (A0a K) (fun x=>x != 0) (fun x _=>rfl) (Ags K l) (fun n N i=>rfl)];simp only[Z0,Ao6,List.not_any_eq_all_not,Z7]
 congr 1
 funext x
 simp[bne]
end
def Atk (a b:Int):Int:=bif inB a 0 1000000000&&inB b 1 1000000000 then(a+b - 1) / b else 0
theorem A0z (K:Nat)(a b:Int):Ax7 K a b=some (Atk a b):=by
 unfold Ax7 Atk;rw[Anm,Anm,Z0];cases h1:inB a 0 1000000000 with
 |false=>rfl
 |true=>
  cases h2:inB b 1 1000000000 with
  |false=>rfl
  |true=>
   rw[Acu]at h1 h2;simp only[Z0,cond_true,Bool.not_true,cond_false,Bool.and_self];rw[if_pos (by omega)]
   unfold Ali An4 An3;rw[K0 (n:=a+b) (by omega) (by omega),K0 (n:=a+b - 1) (by omega) (by omega)]
   rw[Int.tdiv_eq_ediv_of_nonneg (by omega)]
   have h3:(a+b - 1) / b≤a+b - 1:=Int.ediv_le_self _ (by omega)
   have h4:0≤(a+b - 1) / b:=Int.ediv_nonneg (by omega) (by omega)
   rw[K0 (by omega) (by omega)]
def Aty (c:D9)(mem:List Int)(k:Int):List Int:=(mem.drop (k*c.G6).toNat).take c.G6.toNat
def Azx (c:D9)(p:Dm)(k:Nat):Bool:=
 inB (gt p.Vg k) 0 2&&((bif gt p.Vg k==1 then inB (gt p.N6 k) 0 (c.E5 - 1)else gt p.N6 k== -1)&&(bif gt p.Vg k==0 then Ao6 (Aty c p.N5 k)else true))
def Auj (c:D9)(p:Dm):Bool:=
 Ahe c&&((p.N5.length:Int)==Ala c&&((p.Vg.length:Int)==c.Ay&&((p.N6.length:Int)==c.Ay&&(List.range c.Ay.toNat).all (Azx c p))))
theorem Atl{c:D9}{p:Dm}(h:Auj c p=true):Ahe c=true∧(p.N5.length:Int)=c.Ay*c.G6∧(p.Vg.length:Int)=c.Ay∧(p.N6.length:Int)=c.Ay∧ ∀k,k<c.Ay.toNat->Azx c p k=true:=by
 simp only[Auj,Z4,beq_iff_eq,Z1,List.mem_range]at h;obtain⟨h1,h2,h3,h4,h5⟩:=h;refine⟨h1,?_,h3,h4,h5⟩;rw[h2,Ala,h1];rfl
theorem A2i{c:D9}(hc:Ahe c=true){mem:List Int}(hm:(mem.length:Int)=c.Ay*c.G6){k:Int}(h0:0≤k)(h1:k<c.Ay):
  An5 .i64 k c.G6=k*c.G6∧An5 .i64 (An3 .i64 k 1) c.G6=k*c.G6+c.G6∧0≤k*c.G6∧k*c.G6+c.G6≤(mem.length:Int):=by
 obtain⟨b1,b2,_⟩:=Gx hc
 have m1:=Au0 (a:=k) (b:=c.G6) (m:=12) (n:=16) h0 (by omega) (by omega) b2.2
 have e2:(k+1)*c.G6=k*c.G6+c.G6:=by rw[Int.add_mul,Int.one_mul]
 have m2:(k+1)*c.G6≤c.Ay*c.G6:=Int.mul_le_mul_of_nonneg_right (by omega) (by omega)
 rw[e2]at m2;refine⟨?_,?_,m1.1,by omega⟩
 ·unfold An5;exact K0 (by omega) (by omega)
 ·unfold An5 An3;rw[K0 (n:=k+1) (by omega) (by omega),e2,K0 (by omega) (by omega)]
section
variable {K:Nat} (hK:281474976710656≤K)
include hK
theorem A7n{c:D9}(hc:Ahe c=true){p:Dm}(hm:(p.N5.length:Int)=c.Ay*c.G6){k:Int}(h0:0≤k)(h1:k<c.Ay):Ar6 K p c k=some (Aty c p.N5 k):=by
 obtain⟨e1,e2,e3,e4⟩:=A2i hc hm h0 h1;obtain⟨b1,b2,_⟩:=Gx hc;unfold Ar6;rw[e1,e2,if_pos ⟨e3,by omega,e4⟩]
 unfold Aty;rw[show k*c.G6+c.G6 - k*c.G6=c.G6 by omega]
theorem A6n (c:D9)(p:Dm):Awg K c p=some (Auj c p):=by
 unfold Awg;rw[Aq1,Atx];simp only[Z0];cases hc:Ahe c with
 |false=>simp[Auj,hc]
 |true=>
 obtain⟨b1,b2,b3,_⟩:=Gx hc
 have hby:Ala c=c.Ay*c.G6:=by rw[Ala,hc];rfl
 simp only[cond_true,Auj,hc,Z30,bne];cases h1:(p.N5.length:Int)==Ala c with
 |false=>rfl
 |true=>
 cases h2:(p.Vg.length:Int)==c.Ay with
 |false=>rfl
 |true=>
 cases h3:(p.N6.length:Int)==c.Ay with
 |false=>rfl
 |true=>
 rw[beq_iff_eq]at h1 h2 h3
 have hN:((c.Ay.toNat:Nat):Int)=c.Ay:=by omega
 simp only[Bool.not_true,cond_false,Z30];rw[Apu hK c.Ay.toNat (by omega) (Azx c p) (some true) (fun n i=>Alw K c n i p.N5 p.Vg p.N6) (fun n i h=> ?_) (fun n=> ?_)]
 ·cases (List.range c.Ay.toNat).all (Azx c p)<;>rfl
 ·obtain⟨e1,e2,e3,e4⟩:=A2i hc (h1.trans hby) (k:=(i:Int)) (by omega) (by omega)
  have hl:(List.take (i*c.G6+c.G6 - i*c.G6).toNat (List.drop (i*c.G6).toNat p.N5)).length≤140737488355327:=by simp;omega
  have hs:An4 .i64 c.E5 1=c.E5 - 1:=by unfold An4;rw[K0 (by omega) (by omega)]
  have hck:List.take (i*c.G6+c.G6 - i*c.G6).toNat (List.drop (i*c.G6).toNat p.N5)=Aty c p.N5 i:=by
   unfold Aty;rw[show(i:Int)*c.G6+c.G6 - i*c.G6=c.G6 by omega]
  simp only[Alw,Art,Awv];rw[e1,e2,Acx (by omega),decide_eq_true (show(i:Int)<c.Ay by omega),cond_true,if_pos ⟨by omega,by omega⟩,Anm,Anm,hs,A1v hK _ (by omega),hck]
  simp only[Z0,bne,show((0:Int)≤(i:Int)∧(i:Int)<(p.Vg.length:Int))=True from eq_true ⟨by omega,by omega⟩,show((0:Int)≤(i:Int)∧(i:Int)<(p.N6.length:Int))=True from eq_true ⟨by omega,by omega⟩,if_true,if_pos (show(0:Int)≤i*c.G6∧(i:Int)*c.G6≤i*c.G6+c.G6∧(i:Int)*c.G6+c.G6≤(p.N5.length:Int) from⟨e3,by omega,e4⟩)]
  unfold Azx;cases inB (gt p.Vg i) 0 2<;>cases (gt p.Vg (i:Int)==1)<;>cases inB (gt p.N6 i) 0 (c.E5 - 1)<;>cases (gt p.N6 (i:Int)== -1)<;>cases (gt p.Vg (i:Int)==0)<;>cases Ao6 (Aty c p.N5 i)<;>rfl
 ·show Alw K c (n+1) _ _ _ _=_;rw[Alw,hN,decide_eq_false (by omega),cond_false]
theorem Bb4 (c:D9)(p:Dm):Azq K c p=some (Auj c p):=by
 unfold Azq;rw[A3m,A20];simp only[Z0];cases hc:Ahe c with
 |false=>simp[Auj,hc]
 |true=>
 obtain⟨b1,b2,b3,_⟩:=Gx hc
 have hby:Ala c=c.Ay*c.G6:=by rw[Ala,hc];rfl
 simp only[cond_true,Auj,hc,Z30,bne];cases h1:(p.N5.length:Int)==Ala c with
 |false=>rfl
 |true=>
 cases h2:(p.Vg.length:Int)==c.Ay with
 |false=>rfl
 |true=>
 cases h3:(p.N6.length:Int)==c.Ay with
 |false=>rfl
 |true=>
 rw[beq_iff_eq]at h1 h2 h3
 have hN:((c.Ay.toNat:Nat):Int)=c.Ay:=by omega
 simp only[Bool.not_true,cond_false,Z30];rw[Apu hK c.Ay.toNat (by omega) (Azx c p) (some true) (fun n i=>Ako K c n p.Vg (p.Vg.length:Int) i p.N5 p.Vg p.N6) (fun n i h=> ?_) (fun n=> ?_)]
 ·cases (List.range c.Ay.toNat).all (Azx c p)<;>rfl
 ·have hs:An4 .i64 c.E5 1=c.E5 - 1:=by unfold An4;rw[K0 (by omega) (by omega)]
  have hl:(Aty c p.N5 i).length≤140737488355327:=by unfold Aty;simp;omega
  simp only[Ako,Aqq,Aw7];rw[A7n hK hc (h1.trans hby) (by omega) (by omega),Acx (by omega),decide_eq_true (show(i:Int)<(p.Vg.length:Int)by omega),cond_true,if_pos ⟨by omega,by omega⟩,Av8,Av8,hs]
  simp only[Z0,A3n hK _ (show(Aty c p.N5 i).length≤140737488355328 by omega),bne,show((0:Int)≤(i:Int)∧(i:Int)<(p.N6.length:Int))=True from eq_true ⟨by omega,by omega⟩,if_true]
  unfold Azx;cases inB (gt p.Vg i) 0 2<;>cases (gt p.Vg (i:Int)==1)<;>cases inB (gt p.N6 i) 0 (c.E5 - 1)<;>cases (gt p.N6 (i:Int)== -1)<;>cases (gt p.Vg (i:Int)==0)<;>cases Ao6 (Aty c p.N5 i)<;>rfl
 ·show Ako K c (n+1) _ _ _ _ _ _=_;rw[Ako,hN,decide_eq_false (by omega),cond_false]
end
def Axi (c:D9)(t:Bc):Prop:=Ahe c=true∧1≤t.Ajk∧0≤t.fAt∧t.fAt+t.Ajk≤Ala c
instance (c t):Decidable (Axi c t):=by unfold Axi;infer_instance
def Aps (c:D9)(t:Bc):Bool:=
 decide (Axi c t)&&(bif t.Ajl==0 then decide (t.Ajk≤c.G6)&&(t.fAt / c.G6==(t.fAt+t.Ajk - 1) / c.G6)else decide (t.Ajk>c.G6)&&(t.Ajl==Atk t.Ajk c.G6&&t.fAt % c.G6==0))
theorem A7o (K:Nat){c:D9}{t:Bc}(h:Axi c t):
  (bif (t.Ajl==0)then(bif (decide (t.Ajk≤c.G6))then(if c.G6≠(0:Int)then(if c.G6≠(0:Int)then some ((Ali .i64 t.fAt c.G6)==(Ali .i64 (An4 .i64 (An3 .i64 t.fAt t.Ajk) 1) c.G6))else none)else none)else some false)else((Ao9 K c t.Ajk).bind fun r2=>(bif r2 then((Al6 K c t.Ajk).bind fun r3=>(bif (t.Ajl==r3)then(if c.G6≠(0:Int)then some ((Int.tmod t.fAt c.G6)==0)else none)else some false))else some false)))=some (Aps c t):=by
 have hd:decide (Axi c t)=true:=decide_eq_true h;obtain⟨hc,h1,h2,h3⟩:=h
 have hb:=A1d c;obtain⟨b1,b2,_⟩:=Gx hc;unfold Aps Ao9 Al6;rw[hd,if_pos (by omega),if_pos (by omega),A0z]
 have e1:An4 .i64 (An3 .i64 t.fAt t.Ajk) 1=t.fAt+t.Ajk - 1:=by
  unfold An4 An3;rw[K0 (n:=t.fAt+t.Ajk) (by omega) (by omega),K0 (by omega) (by omega)]
 have e2: ∀x:Int,0≤x->x≤192->Ali .i64 x c.G6=x / c.G6:=by
  intro x h0 hx;unfold Ali;rw[Int.tdiv_eq_ediv_of_nonneg h0]
  have h3:x / c.G6≤x:=Int.ediv_le_self _ h0
  have h4:0≤x / c.G6:=Int.ediv_nonneg h0 (by omega)
  rw[K0 (by omega) (by omega)]
 rw[e1,e2 _ h2 (by omega),e2 _ (by omega) (by omega),Int.tmod_eq_emod_of_nonneg h2]
 simp only[Z0,if_pos (show c.G6≠0 by omega)]
 cases t.Ajl==0<;>cases decide (t.Ajk≤c.G6)<;>cases decide (t.Ajk>c.G6)<;>cases t.Ajl==Atk t.Ajk c.G6<;>rfl
theorem Bb5{c:D9}{t:Bc}(h: ¬Axi c t):Aps c t=false:=by
 unfold Aps;rw[decide_eq_false h];rfl
theorem A5c (K:Nat)(c:D9)(t:Bc):Asz K c t=some (Aps c t):=by
 have hb:=A1d c
 by_cases h:Axi c t
 ·rw[←A7o K h];obtain⟨hc,h1,h2,h3⟩:=h;unfold Asz;rw[Atx,Z0,Agz (by omega),decide_eq_false (by omega),decide_eq_false (by omega),decide_eq_false (by omega)]
  unfold An4;rw[K0 (by omega) (by omega),decide_eq_false (show ¬t.Ajk>Ala c - t.fAt by omega)]
  simp only[cond_false]
  try rfl
 ·rw[Bb5 h];unfold Asz;rw[Atx,Z0]
  by_cases g0:Ala c=0
  ·rw[g0];rfl
  ·have hc:Ahe c=true:=by
    cases hc:Ahe c with
    |true=>rfl
    |false=>exact absurd (by unfold Ala;rw[hc];rfl) g0
   rw[Agz g0,cond_false]
   by_cases g1:t.Ajk<1
   ·rw[decide_eq_true g1];rfl
   ·by_cases g2:t.fAt<0
    ·rw[decide_eq_false g1,decide_eq_true g2];rfl
    ·by_cases g3:t.fAt>Ala c
     ·rw[decide_eq_false g1,decide_eq_false g2,decide_eq_true g3];rfl
     ·rw[decide_eq_false g1,decide_eq_false g2,decide_eq_false g3];unfold An4;rw[K0 (by omega) (by omega),decide_eq_true (show t.Ajk>Ala c - t.fAt from ?_)]
      ·rfl
      ·refine Classical.byContradiction fun g4=>h ⟨hc,by omega,by omega,by omega⟩
theorem A5d (K:Nat)(c:D9)(t:Bc):Atb K c t=some (Aps c t):=by
 have hb:=A1d c
 by_cases h:Axi c t
 ·rw[←A7o K h];obtain⟨hc,h1,h2,h3⟩:=h;unfold Atb;rw[A20,Z0,decide_eq_false (by omega),decide_eq_false (by omega),decide_eq_false (by omega)]
  unfold An4;rw[K0 (by omega) (by omega),decide_eq_false (show ¬t.fAt>Ala c - t.Ajk by omega)]
  simp only[cond_false]
  try rfl
 ·rw[Bb5 h];unfold Atb;rw[A20,Z0]
  by_cases g1:t.Ajk≤0
  ·rw[decide_eq_true g1];rfl
  ·by_cases g2:t.fAt<0
   ·rw[decide_eq_false g1,decide_eq_true g2];rfl
   ·by_cases g3:t.Ajk>Ala c
    ·rw[decide_eq_false g1,decide_eq_false g2,decide_eq_true g3];rfl
    ·rw[decide_eq_false g1,decide_eq_false g2,decide_eq_false g3]
     have hc:Ahe c=true:=by
      cases hc:Ahe c with
      |true=>rfl
      |false=>exfalso;unfold Ala at g3;rw[hc]at g3;simp only[cond_false]at g3;omega
     unfold An4;rw[K0 (by omega) (by omega),decide_eq_true (show t.fAt>Ala c - t.Ajk from ?_)]
     ·rfl
     ·refine Classical.byContradiction fun g4=>h ⟨hc,by omega,by omega,by omega⟩
theorem A55{α:Type}(l:List α)(i:Nat):(l.drop (0:Int).toNat).take ((i:Int) - 0).toNat=l.take i:=by simp
theorem Bb6{i n:Nat}(h:i≤n):((0:Int)≤0∧(0:Int)≤(i:Int)∧(i:Int)≤(n:Int)):=⟨by omega,by omega,by omega⟩
def Atq (c:D9)(l:List Int):Bool:=(List.range l.length).all (fun i=>inB (gt l i) 0 (c.Ay - 1)&& !(l.take i).contains (gt l i))
def A5e (n:As):Bool:=
 n.Sj==0&&(n.fUp==0&&(n.Sk==0&&(n.Ee==0&&(n.Sl==0&&(n.Sm==0&&((n.Ay.length:Int)==0&&(n.Acv==0&&(n.Sn==0&&((n.F4.length:Int)==0&&(n.Fh.length:Int)==0)))))))))
theorem Bhs (K:Nat)(n):A1t K n=some (A5e n):=by
 simp only[A1t,Akr,A5e]
theorem Bht{K:Nat}(hK:1≤K)(l:List Int):Aiw K l []=some ((l.length:Int)==0):=by
 obtain⟨k,rfl⟩: ∃k,K=k+1:=⟨K - 1,by omega⟩
 cases l with
 |nil=>unfold Aiw;rw[Aiq];rfl
 |cons x l=>unfold Aiw;rw[Aq0 (by simp only[Z28,List.length_nil];omega),cond_true,Agz (by simp only[Z28];omega)]
theorem Bd4{K:Nat}(hK:1≤K)(l:List Bc):Am5 K l []=some ((l.length:Int)==0):=by
 obtain⟨k,rfl⟩: ∃k,K=k+1:=⟨K - 1,by omega⟩
 cases l with
 |nil=>unfold Am5;rw[Ao4];rfl
 |cons x l=>unfold Am5;rw[Aq0 (by simp only[Z28,List.length_nil];omega),cond_true,Agz (by simp only[Z28];omega)]
theorem Bhu{K:Nat}(hK:1≤K)(n):A1u K n=some (A5e n):=by
 unfold A1u A0b;simp only[beq_self_eq_true,cond_true,Bht hK,Bd4 hK,Z0,Akr,A5e]
def A4t (c:D9)(n:As):Bool:=bif n.Acv==0 then n.Sn==0 else n.Ay.contains (An4 .i64 n.Acv 1)&&inB n.Sn 0 c.G6
def A7p (c:D9)(n:As):Bool:=
 (inB n.fUp 0 c.E5&&(inB n.Ee 0 c.E5&&(inB n.Sl 0 c.E5&&inB n.Sm 0 c.E5)))&&((!decide (n.Sj<0)&& !decide (n.Sk<0))&&((Atq c n.Ay&&A4t c n)&&((decide ((n.F4.length:Int)≤12)&&decide ((n.Fh.length:Int)≤6))&&(n.Fh.all (fun x=>inB x 0 255)&&n.F4.all (Aps c)))))
def Aqg (c:D9)(n:As):Bool:=Ahe c&&(inB n.Vg 0 3&&(inB n.C8 1 c.G7&&(bif n.Vg != 1 then A5e n else A7p c n)))
section
variable {K:Nat} (hK:281474976710656≤K)
include hK
theorem Ay8{c:D9}(hc:Ahe c=true):An4 .i64 c.Ay 1=c.Ay - 1:=by
 obtain⟨b1,_⟩:=Gx hc;unfold An4;rw[K0 (by omega) (by omega)]
theorem A4o{c:D9}(hc:Ahe c=true)(l:List Int)(hl:l.length≤140737488355327):Aud K c l=some (Atq c l):=by
 unfold Aud;rw[Apu hK l.length (by omega) (fun i=>inB (gt l i) 0 (c.Ay - 1)&& !(l.take i).contains (gt l i)) (some true) (fun n i=>Apf K c l n l (l.length:Int) i) (fun n i h=> ?_) (fun n=> ?_)]
 ·unfold Atq;cases (List.range l.length).all _<;>rfl
 ·have hp:(l.take i).length≤140737488355328:=by simp;omega
  simp only[Apf];rw[Ad4 h,cond_true,if_pos (Ahl h),Av8,if_pos (Bb6 (by omega)),A55,A3l hK _ _ hp,Acx (by omega),Ay8 hK hc]
  simp only[Z0];cases inB (gt l i) 0 (c.Ay - 1)<;>cases (l.take i).contains (gt l i)<;>rfl
 ·show Apf K c l (n+1) _ _ _=_;rw[Apf,Ad5 (Z9 _),cond_false]
theorem A8v{c:D9}(hc:Ahe c=true)(n:As)(hl:n.Ay.length≤140737488355327):Awx K c n=some (Atq c n.Ay&&A4t c n):=by
 unfold Awx;rw[Apu hK n.Ay.length (by omega) (fun i=>inB (gt n.Ay i) 0 (c.Ay - 1)&& !(n.Ay.take i).contains (gt n.Ay i)) (some (A4t c n)) (fun k i=>Ao8 K c k i n.Vg n.C8 n.Sj n.fUp n.Sk n.Ee n.Sl n.Sm n.Ay n.Acv n.Sn n.F4 n.Fh) (fun k i h=> ?_) (fun k=> ?_)]
 ·rw[Akr];rfl
 ·have hp:(n.Ay.take i).length≤140737488355328:=by simp;omega
  simp only[Ao8];rw[Ad4 h,cond_true,if_pos (Ahl h),Anm,if_pos (Bb6 (by omega)),A55,A1c hK _ _ hp,Acx (by omega),Ay8 hK hc]
  simp only[Z0,if_pos (Ahl h)];cases inB (gt n.Ay i) 0 (c.Ay - 1)<;>cases (n.Ay.take i).contains (gt n.Ay i)<;>rfl
 ·show Ao8 K c (k+1) _ _ _ _ _ _ _ _ _ _ _ _ _ _=_;rw[Ao8,Ad5 (Z9 _),cond_false,A1c hK _ _ (by omega),Anm]
  unfold A4t;simp only[Z0,Akr];cases n.Acv==0<;>rfl
theorem A18 (l:List Int)(hl:l.length≤140737488355328):Arw K l=some (l.all (fun x=>inB x 0 255)):=by
 unfold Arw Akp Ak8;rw[A4d hK l hl (Auw K) (fun x=> !inB x 0 255) (fun x _=>by simp[Auw,Av8]) (Agq K l) (fun n N i=>rfl)]
 simp only[Z0,List.not_any_eq_all_not,Bool.not_not]
theorem Avn (c:D9)(n:As)(h1:n.Ay.length≤140737488355327)(h2:n.F4.length≤140737488355327)(h3:n.Fh.length≤140737488355327):Ap6 K c n=some (Aqg c n):=by
 unfold Ap6;rw[Aq1,Bhs];simp only[Z0,Anm];cases hc:Ahe c with
 |false=>simp[Aqg,hc]
 |true=>
 rw[A8v hK hc n h1]
 have hA:Aqn K n.Fh K 0=some (n.Fh.all (fun x=>inB x 0 255)):=by
  rw[Asj hK n.Fh (by omega) (fun x=>inB x 0 255) (some true) (Aqn K n.Fh) (fun k i h=> ?_) (fun k=> ?_)]
  ·cases n.Fh.all (fun x=>inB x 0 255)<;>rfl
  ·rw[Aqn,Ad4 h,cond_true,if_pos (Ahl h),V2 h,Anm,Acx (by omega),Z0,Wx]
  ·rw[Aqn,Ad5 (Z9 _),cond_false]
 have hB:Apn K c K 0 n.Vg n.C8 n.Sj n.fUp n.Sk n.Ee n.Sl n.Sm n.Ay n.Acv n.Sn n.F4 n.Fh=some (n.Fh.all (fun x=>inB x 0 255)&&n.F4.all (Aps c)):=by
  rw[Asj hK n.F4 (by omega) (Aps c) (some (n.Fh.all (fun x=>inB x 0 255))) (fun k i=>Apn K c k i n.Vg n.C8 n.Sj n.fUp n.Sk n.Ee n.Sl n.Sm n.Ay n.Acv n.Sn n.F4 n.Fh) (fun k i h=> ?_) (fun k=> ?_)]
  ·rw[Akr,Bool.and_comm]
  ·simp only[Apn];rw[Ad4 h,cond_true,if_pos (Ahl h),V2 h,A5c,Acx (by omega),Z0,Wx]
  ·show Apn K c (k+1) _ _ _ _ _ _ _ _ _ _ _ _ _ _=_;rw[Apn,Ad5 (Z9 _),cond_false,hA]
 rw[hB]
 have e12:decide ((n.F4.length:Int)>12)= !decide ((n.F4.length:Int)≤12):=by rw[←decide_not];congr 1;simp
 have e6:decide ((n.Fh.length:Int)>6)= !decide ((n.Fh.length:Int)≤6):=by rw[←decide_not];congr 1;simp
 simp only[Z0,cond_true,e12,e6,Wx,Akr,Bac];unfold Aqg A7p;rw[hc];cases n.Vg != 1 with
 |true=>simp only[cond_true,Akr,Z30]
 |false=>
  simp only[cond_false,Akr,Z30,Z7]
  ac_rfl
theorem Bb7 (c:D9)(n:As)(h1:n.Ay.length≤140737488355327)(h2:n.F4.length≤140737488355327)(h3:n.Fh.length≤140737488355327):Azr K c n=some (Aqg c n):=by
 unfold Azr;rw[A3m,Bhu (by omega)]
 simp only[Z0,Av8];cases hc:Ahe c with
 |false=>simp[Aqg,hc]
 |true=>
 have hT:Ag7 K n.F4 c=some (n.F4.any (fun t=> !Aps c t)):=
  A4d hK n.F4 (by omega) (fun t=>Aw8 K t c) (fun t=> !Aps c t) (fun x _=>by simp[Aw8,A5d]) (Aeo K n.F4 c) (fun n N i=>rfl)
 have hJ:Aqr K c n.F4 n.Fh=some ((decide ((n.F4.length:Int)≤12)&&decide ((n.Fh.length:Int)≤6))&&(n.Fh.all (fun x=>inB x 0 255)&&n.F4.all (Aps c))):=by
  unfold Aqr;rw[hT,A18 hK _ (by omega)]
  simp only[Z0,Akr,List.not_any_eq_all_not,Bool.not_not,Z7]
  ac_rfl
 obtain⟨_,b2,_⟩:=Gx hc
 have hB:Apq K c K ([n.fUp,n.Ee,n.Sl,n.Sm]:List Int) (([n.fUp,n.Ee,n.Sl,n.Sm]:List Int).length:Int) 0 n.Vg n.C8 n.Sj n.fUp n.Sk n.Ee n.Sl n.Sm n.Ay n.Acv n.Sn n.F4 n.Fh=some (A7p c n):=by
  rw[Asj hK ([n.fUp,n.Ee,n.Sl,n.Sm]:List Int) (by simp) (fun x=>inB x 0 c.E5) (some ((!decide (n.Sj<0)&& !decide (n.Sk<0))&&((Atq c n.Ay&&A4t c n)&&((decide ((n.F4.length:Int)≤12)&&decide ((n.Fh.length:Int)≤6))&&(n.Fh.all (fun x=>inB x 0 255)&&n.F4.all (Aps c)))))) (fun k i=>Apq K c k ([n.fUp,n.Ee,n.Sl,n.Sm]:List Int) (([n.fUp,n.Ee,n.Sl,n.Sm]:List Int).length:Int) i n.Vg n.C8 n.Sj n.fUp n.Sk n.Ee n.Sl n.Sm n.Ay n.Acv n.Sn n.F4 n.Fh) (fun k i h=> ?_) (fun k=> ?_)]
  ·unfold A7p;rw[Akr];simp only[Gc,List.all_nil,Bool.and_true]
  ·simp only[Apq];rw[Ad4 h,cond_true,if_pos (Ahl h),V2 h,Av8,Acx (by simp at h ⊢;omega),Z0,Wx]
  ·show Apq K c (k+1) _ _ _ _ _ _ _ _ _ _ _ _ _ _ _ _=_;rw[Apq,Ad5 (Z9 _),cond_false,hJ,A4o hK hc _ h1,A3l hK _ _ (by omega),Av8]
   simp only[Z0,bne,Wx,Akr,Bac];unfold A4t
   have hz:(n.Sn==0)=true->inB n.Sn 0 c.G6=true:=by
    intro h;rw[beq_iff_eq]at h;rw[Acu];omega
   cases e0:n.Acv==0 with
   |true=>
    simp only[cond_true,Akr,Bac,Bool.not_not,Wx,cond_false];cases e1:n.Sn==0 with
    |true=>rw[hz e1];simp only[Z30,Bool.and_true];simp only[Z7];ac_rfl
    |false=>cases inB n.Sn 0 c.G6<;>cases decide (n.Sj<0)<;>cases decide (n.Sk<0)<;>cases Atq c n.Ay<;>rfl
   |false=>
    simp only[cond_false,Akr,Bac,Z7]
    ac_rfl
 rw[hB];simp only[cond_true,Wx,Akr];unfold Aqg;rw[hc];cases n.Vg != 1<;>simp only[cond_true,cond_false,Akr,Z30]
end
theorem Bf3{α β:Type}(l:List α)(q:α->Bool)(fin bad:Option β)(L:Nat->Int->Option β)
  (hs: ∀n (i:Nat) (h:i<l.length),L (n+1) (i:Int)=bif q l[i]then L n ((i+1:Nat):Int)else bad)
  (he: ∀n,L (n+1) (l.length:Int)=fin):
  ∀(n i:Nat),i≤l.length->l.length - i<n->L n (i:Int)=bif (l.drop i).all q then fin else bad:=by
 intro n
 induction n with
 |zero=>intro i _ h;omega
 |succ n ih=>
  intro i hi hn;rcases Hl i l.length with h|h
  ·rw[hs n i h,Z47 h,Gc];cases q l[i]with
   |false=>rfl
   |true=>rw[cond_true,ih (i+1) h (by omega)];rfl
  ·obtain rfl:i=l.length:=by omega
   rw[he,List.drop_length];rfl
theorem Bhv{β:Type}{K:Nat}(hK:281474976710656≤K)(N:Nat)(hl:N≤140737488355328)(q:Nat->Bool)(fin bad:Option β)(L:Nat->Int->Option β)
  (hs: ∀n (i:Nat) (h:i<N),L (n+1) (i:Int)=bif q i then L n ((i+1:Nat):Int)else bad)
  (he: ∀n,L (n+1) (N:Int)=fin):L K 0=bif (List.range N).all q then fin else bad:=by
 have:=Bf3 (List.range N) q fin bad L (fun n i h=>by rw[List.getElem_range];exact hs n i (by simpa using h)) (fun n=>by rw[List.length_range];exact he n) K 0 (Z21 _) (by simp;omega)
 simpa using this
def Ay9 (t:Bc):Prop:=0≤t.fAt∧t.fAt≤200∧0≤t.Ajk∧t.Ajk≤200
theorem A1e{c:D9}{t:Bc}(h:Aps c t=true):Ay9 t∧Axi c t:=by
 have h1:Axi c t:=by
  unfold Aps at h;rw[Z4]at h;exact of_decide_eq_true h.1
 have hb:=A1d c;obtain⟨h2,h3,h4,h5⟩:=h1;exact⟨⟨h4,by omega,by omega,by omega⟩,h2,h3,h4,h5⟩
def Am4 (a b:Bc):Bool:=decide (a.Ajk≤0∨b.Ajk≤0∨a.fAt+a.Ajk≤b.fAt∨b.fAt+b.Ajk≤a.fAt)
theorem Bb8 (a b:Bc):Am4 a b=Am4 b a:=by
 unfold Am4;rw[decide_eq_decide];omega
theorem Bd5 (K:Nat){a b:Bc}(ha:Ay9 a)(hb:Ay9 b):A0m K a b=some (Am4 a b):=by
 obtain⟨a1,a2,a3,a4⟩:=ha;obtain⟨b1,b2,b3,b4⟩:=hb;unfold A0m An4;rw[K0 (n:=b.fAt - a.fAt) (by omega) (by omega),K0 (n:=a.fAt - b.fAt) (by omega) (by omega)]
 simp only[A1b]
 have: ∀x:Bool,x=Am4 a b->some x=some (Am4 a b):=fun x h=>by rw[h]
 by_cases h:a.fAt≤b.fAt
 ·rw[decide_eq_true h,cond_true,A1b,A1b];refine this _ ?_;rw[Bool.eq_iff_iff];simp only[Am4,Bool.or_eq_true,decide_eq_true_eq];omega
 ·rw[decide_eq_false h,cond_false,A1b,A1b];refine this _ ?_;rw[Bool.eq_iff_iff];simp only[Am4,Bool.or_eq_true,decide_eq_true_eq];omega
theorem A7q (K:Nat){a b:Bc}(ha:Ay9 a)(hb:Ay9 b):Ayo K a b=some (Am4 a b):=by
 obtain⟨a1,a2,a3,a4⟩:=ha;obtain⟨b1,b2,b3,b4⟩:=hb;unfold Ayo Ayn An4;simp only[IntKind.wrap_u64]
 have: ∀x:Bool,x=Am4 a b->some x=some (Am4 a b):=fun x h=>by rw[h]
 by_cases h:a.fAt>b.fAt
 ·rw[decide_eq_true h,cond_true,A1b,A1b];refine this _ ?_;rw[Bool.eq_iff_iff];simp only[Am4,Bool.or_eq_true,decide_eq_true_eq];omega
 ·rw[decide_eq_false h,cond_false,A1b,A1b];refine this _ ?_;rw[Bool.eq_iff_iff];simp only[Am4,Bool.or_eq_true,decide_eq_true_eq];omega
def Ane (l:List Bc):Bool:=(List.range l.length).all (fun i=>(l.take i).all (fun o=>Am4 o (gt l i)))
def Aq2 (c:D9)(chunks:List Int)(t:Bc):Bool:=
 Aps c t&&(List.range ((t.fAt+t.Ajk - 1) / c.G6 - t.fAt / c.G6+1).toNat).all (fun j=>chunks.contains (t.fAt / c.G6+(j:Int)))
theorem A9f{c:D9}{t:Bc}(h:Aps c t=true):
  c.G6≠0∧Ali .i64 t.fAt c.G6=t.fAt / c.G6∧Ali .i64 (An4 .i64 (An3 .i64 t.fAt t.Ajk) 1) c.G6=(t.fAt+t.Ajk - 1) / c.G6∧0≤t.fAt / c.G6∧t.fAt / c.G6≤(t.fAt+t.Ajk - 1) / c.G6∧(t.fAt+t.Ajk - 1) / c.G6≤192:=by
 obtain⟨hs,hc,h1,h2,h3⟩:=A1e h
 have hb:=A1d c;obtain⟨b1,b2,_⟩:=Gx hc
 have e1:An4 .i64 (An3 .i64 t.fAt t.Ajk) 1=t.fAt+t.Ajk - 1:=by
  unfold An4 An3;rw[K0 (n:=t.fAt+t.Ajk) (by omega) (by omega),K0 (by omega) (by omega)]
 have e2: ∀x:Int,0≤x->x≤192->Ali .i64 x c.G6=x / c.G6∧0≤x / c.G6∧x / c.G6≤192:=by
  intro x h0 hx
  have h3:x / c.G6≤x:=Int.ediv_le_self _ h0
  have h4:0≤x / c.G6:=Int.ediv_nonneg h0 (by omega)
  refine⟨?_,h4,by omega⟩
  unfold Ali;rw[Int.tdiv_eq_ediv_of_nonneg h0,K0 (by omega) (by omega)]
 obtain⟨x1,x2,x3⟩:=e2 t.fAt h2 (by omega)
 obtain⟨y1,y2,y3⟩:=e2 (t.fAt+t.Ajk - 1) (by omega) (by omega)
 refine⟨by omega,x1,by rw[e1,y1],x2,Int.ediv_le_ediv (by omega) (by omega),y3⟩
theorem Br3{a:Int}{j:Nat}(h0:0≤a)(h:a+j≤140737488355328):An3 .i64 (a+(j:Int)) 1=a+((j+1:Nat):Int):=by
 unfold An3;rw[K0 (by omega) (by omega)];omega
section
variable {K:Nat} (hK:281474976710656≤K)
include hK
theorem A8w (l:List Bc)(hl:l.length≤140737488355327)(hs: ∀t∈l,Ay9 t):Aw5 K l=some (Ane l):=by
 unfold Aw5 Ane;rw[Apu hK l.length (by omega) (fun i=>(l.take i).all (fun o=>Am4 o (gt l i))) (some true) (fun n i=>Aky K l n i) (fun n i h=> ?_) (fun n=> ?_)]
 ·cases (List.range l.length).all _<;>rfl
 ·simp only[Aky];rw[Ad4 h,cond_true]
  have hlen:(l.take i).length=i:=by simp;omega
  rw[Asj hK (l.take i) (by omega) (fun o=>Am4 o (gt l i)) (Aky K l n (An3 .i64 i 1)) (fun m j=>Apd K l i (Aky K l n) m j) (fun m j hj=> ?_) (fun m=> ?_)]
  ·rw[Acx (by omega)]
  ·have hj':j<i:=by omega
   simp only[Apd];rw[Ad4 hj',cond_true,if_pos (Ahl h),if_pos (Ahl (show j<l.length by omega)),Bd5 K (hs _ (Ani h)) (hs _ (Ani (show j<l.length by omega))),Z0,Wx,Acx (by omega),Bb8,List.getElem_take,V2 (show j<l.length by omega)]
  ·show Apd K l i _ (m+1) _=_;rw[Apd,hlen,Ad5 (Z9 _),cond_false]
 ·show Aky K l (n+1) _=_;rw[Aky,Ad5 (Z9 _),cond_false]
theorem A8x (l:List Bc)(hl:l.length≤140737488355327)(hs: ∀t∈l,Ay9 t):Axa K l=some (Ane l):=by
 unfold Axa Ane;rw[Apu hK l.length (by omega) (fun i=>(l.take i).all (fun o=>Am4 o (gt l i))) (some true) (fun n i=>Apg K l n l (l.length:Int) i) (fun n i h=> ?_) (fun n=> ?_)]
 ·cases (List.range l.length).all _<;>rfl
 ·simp only[Apg]
  have hlen:(l.take i).length=i:=by simp;omega
  have hC:Agw K (l.take i) (gt l i)=some ((l.take i).any (fun o=> !Am4 o (gt l i))):=
   A4d hK (l.take i) (by omega) (fun t=>Aux K t (gt l i)) (fun o=> !Am4 o (gt l i)) (fun x hx=>by
    unfold Aux;rw[A7q K (hs _ (Z42 hx)) (hs _ (Ani h))];rfl) (Ad3 K (l.take i) (gt l i)) (fun n N i=>rfl)
  rw[Ad4 h,cond_true,if_pos (Ahl h),if_pos (Bb6 (by omega)),A55,hC,Acx (by omega),Z0,List.any_eq_not_all_not,Wx]
  simp only[Bool.not_not]
 ·show Apg K l (n+1) _ _ _=_;rw[Apg,Ad5 (Z9 _),cond_false]
theorem A8y (c:D9)(n:As)(h1:n.Ay.length≤140737488355327)(h2:n.F4.length≤140737488355327):Aw9 K c n=some (n.F4.all (Aq2 c n.Ay)):=by
 unfold Aw9
 have h1t: ∀t,Ar7 K t c n=some (!Aq2 c n.Ay t):=by
  intro t;unfold Ar7 Aq2;rw[A5d,Z0,Wx];cases ht:Aps c t with
  |false=>rfl
  |true=>
   obtain⟨d0,d1,d2,d3,d4,d5⟩:=A9f ht;rw[cond_true,if_pos d0,d1]
   have:=Bhv hK ((t.fAt+t.Ajk - 1) / c.G6 - t.fAt / c.G6+1).toNat (by omega) (fun j=>n.Ay.contains (t.fAt / c.G6+(j:Int))) (some false) (some true) (fun m j=>Am7 K t c n m (t.fAt / c.G6+j)) (fun m j hj=> ?_) (fun m=> ?_)
   ·simp only[Int.add_zero]at this;rw[this];cases (List.range _).all _<;>rfl
   ·simp only[Am7];rw[if_pos d0,d2,decide_eq_true (by omega),cond_true,A3l hK _ _ (by omega),Z0,Wx,Br3 d3 (by omega)]
   ·show Am7 K t c n (m+1) _=_;rw[Am7,if_pos d0,d2,decide_eq_false (by omega),cond_false]
 have hC:Agu K n.F4 c n=some (n.F4.any (fun t=> !Aq2 c n.Ay t)):=
  A4d hK n.F4 (by omega) (fun t=>Ar7 K t c n) (fun t=> !Aq2 c n.Ay t) (fun x _=>h1t x) (Ad2 K n.F4 c n) (fun n N i=>rfl)
 rw[hC];simp only[Z0,List.not_any_eq_all_not,Bool.not_not]
theorem A8z (c:D9)(n:As)(h1:n.Ay.length≤140737488355327)(h2:n.F4.length≤140737488355327):Aw4 K c n=some (n.F4.all (Aq2 c n.Ay)):=by
 unfold Aw4;rw[Asj hK n.F4 (by omega) (Aq2 c n.Ay) (some true) (fun k i=>Akx K c k i n.Vg n.C8 n.Sj n.fUp n.Sk n.Ee n.Sl n.Sm n.Ay n.Acv n.Sn n.F4 n.Fh) (fun k i h=> ?_) (fun k=> ?_)]
 ·cases n.F4.all _<;>rfl
 ·simp only[Akx];rw[Ad4 h,cond_true,if_pos (Ahl h),V2 h,A5c,Z0,Wx];unfold Aq2;generalize n.F4[i]=t;cases ht:Aps c t with
  |false=>rfl
  |true=>
   obtain⟨d0,d1,d2,d3,d4,d5⟩:=A9f ht;rw[cond_true,if_pos d0,d1,Z30]
   have:=Apu hK ((t.fAt+t.Ajk - 1) / c.G6 - t.fAt / c.G6+1).toNat (by omega) (fun j=>n.Ay.contains (t.fAt / c.G6+(j:Int))) (Akx K c k ((i+1:Nat):Int) n.Vg n.C8 n.Sj n.fUp n.Sk n.Ee n.Sl n.Sm n.Ay n.Acv n.Sn n.F4 n.Fh)
    (fun m j=>Apc K c i n.Vg n.C8 n.Sj n.fUp n.Sk n.Ee n.Sl n.Sm n.Ay n.Acv n.Sn n.F4 n.Fh (Akx K c k) m (t.fAt / c.G6+j) t) (fun m j hj=> ?_) (fun m=> ?_)
   ·simp only[Int.add_zero]at this;exact this
   ·simp only[Apc];rw[if_pos d0,d2,decide_eq_true (by omega),cond_true,A1c hK _ _ (by omega),Z0,Wx,Br3 d3 (by omega)]
   ·show Apc K c i _ _ _ _ _ _ _ _ _ _ _ _ _ _ (m+1) _ _=_;rw[Apc,if_pos d0,d2,decide_eq_false (by omega),cond_false,Acx (by omega)]
 ·show Akx K c (k+1) _ _ _ _ _ _ _ _ _ _ _ _ _ _=_;rw[Akx,Ad5 (Z9 _),cond_false]
end
def wfi (x:Int):Prop:= -9223372036854775808≤x∧x≤9223372036854775807
def A2j (l:List Int):Prop:=(∀x∈l,wfi x)∧l.length*8≤140737488355327
def Bd6 (l:List Int):Prop:=(∀x∈l,0≤x∧x≤255)∧l.length≤140737488355327
def ThingW (t:Bc):Prop:=wfi t.fAt∧wfi t.Ajk∧wfi t.Ajl
def Bad (l:List Bc):Prop:=(∀x∈l,ThingW x)∧l.length*24≤140737488355327
structure Arm (n:As):Prop where
 st:wfi n.Vg
 gen:wfi n.C8
 ep:wfi n.Sj
 up:wfi n.fUp
 upEp:wfi n.Sk
 first:wfi n.Ee
 next:wfi n.Sl
 prev:wfi n.Sm
 chunks:A2j n.Ay
 cur:wfi n.Acv
 bump:wfi n.Sn
 things:Bad n.F4
 tags:A2j n.Fh
def Ad1 (l:List As):Prop:=(∀x∈l,Arm x)∧l.length*152≤140737488355327
structure A1f (x:Az):Prop where
 slot:wfi x.Bk
 first:wfi x.Ee
 tags:A2j x.Fh
 chunks:A2j x.Ay
 done:wfi x.Wv
def Bae (l:List Az):Prop:=(∀x∈l,A1f x)∧l.length*72≤140737488355327
structure ConfW (c:D9):Prop where
 chunks:wfi c.Ay
 size:wfi c.G6
 slots:wfi c.E5
 tax:wfi c.Gs
 slice:wfi c.E6
 gens:wfi c.G7
structure A2k (p:Dm):Prop where
 mem:Bd6 p.N5
 st:A2j p.Vg
 own:A2j p.N6
structure Ak1 (w:C4):Prop where
 c:ConfW w.fC
 p:A2k w.fP
 l:Ad1 w.fL
 q:Bae w.fQ
 log:A2j w.Acw
theorem V1:140737488355328≤maxLen:=by unfold maxLen;omega
theorem A56{α:Type}(x:Option α):Aii x x=x:=by simp[Aii]
theorem Axw (K:Nat){l:List Int}(h:l.length*8≤140737488355327):Agn K l=some l:=by
 have hm:=V1;unfold Agn;rw[Z38,if_pos ⟨by omega,by omega⟩]
 cases l with
 |nil=>exact A56 _
 |cons x l=>rfl
theorem A21 (K:Nat){l:List Int}(h:l.length≤140737488355327):Am8 K l=some l:=by
 have hm:=V1;unfold Am8;rw[Z38,if_pos ⟨by omega,by omega⟩]
 cases l with
 |nil=>exact A56 _
 |cons x l=>rfl
theorem Bb9 (K:Nat){l:List Bc}(h:l.length*24≤140737488355327):Apt K l=some l:=by
 have hm:=V1;unfold Apt;rw[Z38,if_pos ⟨by omega,by omega⟩]
 cases l with
 |nil=>exact A56 _
 |cons x l=>rfl
theorem Bf4{α:Type}(N:Nat)(q:Nat->Bool)(g:Nat->α)(L:Nat->List α->Int->Option (List α))
  (hs: ∀n v (i:Nat),i<N->v.length≤i->L (n+1) v (i:Int)=bif q i then L n (v++[g i]) ((i+1:Nat):Int)else L n v ((i+1:Nat):Int))
  (he: ∀n v,L (n+1) v (N:Int)=some v):
  ∀(n i:Nat) (v:List α),i≤N->v.length≤i->N - i<n->L n v (i:Int)=some (v++(((List.range N).drop i).filter q).map g):=by
 intro n
 induction n with
 |zero=>intro i v _ _ h;omega
 |succ n ih=>
  intro i v hi hv hn;rcases Hl i N with h|h
  ·rw[hs n v i h hv,Z47 (by simpa using h),List.getElem_range,List.filter_cons]
   cases hq:q i with
   |true=>
    rw[cond_true,ih (i+1) _ h (by simp;omega) (by omega)]
    simp
   |false=>
    rw[cond_false,ih (i+1) _ h (by omega) (by omega)]
    simp
  ·obtain rfl:i=N:=by omega
   rw[he,Z48 (by simp)];simp
def Arp (p:Dm)(k:Int):List Int:=((List.range (min p.Vg.length p.N6.length)).filter (fun i:Nat=>gt p.Vg i==1&&gt p.N6 i==k)).map (fun i:Nat=>(i:Int))
theorem Bd7 (p:Dm)(k:Int):(Arp p k).length≤min p.Vg.length p.N6.length:=by
 unfold Arp;rw[Hk];exact Vv (List.length_filter_le _ _) (by simp)
theorem A19 (p:Dm)(k:Int):(Arp p k).Pairwise (fun a b=>a<b):=by
 unfold Arp;rw[List.pairwise_map];exact(List.Pairwise.filter _ List.pairwise_lt_range).imp fun h=>by omega
theorem A6o{l:List Int}: ∀ {o:List Int},o.Nodup->(∀x∈o,x∈l)->o.length=l.length->o.Perm l:=by
 intro o
 induction o generalizing l with
 |nil=>intro _ _ h;cases l with
  |nil=>exact .nil
  |cons _ _=>simp at h
 |cons x o ih=>
  intro hn hs hl
  have hx:x∈l:=hs x (by simp)
  rw[List.nodup_cons]at hn
  have h2:o.Perm (l.erase x):=ih hn.2 (fun y hy=>by
   have hne:y≠x:=fun e=>hn.1 (e ▸ hy);exact(List.mem_erase_of_ne hne).2 (hs y (by simp[hy]))) (by rw[List.length_erase_of_mem hx];simp at hl;omega)
  exact(List.Perm.cons x h2).trans (List.perm_cons_erase hx).symm
def Azy (p:Dm)(k:Int)(l:List Int):Bool:=(Arp p k).all (fun x=>l.contains x)&&((Arp p k).length:Int)==(l.length:Int)
theorem Bf5 (p:Dm)(k:Int)(l:List Int):decide (l.mergeSort (fun x y=>decide (x≤y))=Arp p k)=Azy p k l:=by
 rw[Bool.eq_iff_iff];unfold Azy;simp only[decide_eq_true_eq,Z4,Z1,List.contains_iff_mem,beq_iff_eq]
 have hp:=List.mergeSort_perm l (fun x y=>decide (x≤y));constructor
 ·intro e;rw[e]at hp;exact⟨fun x hx=>hp.mem_iff.1 hx,by have:=hp.length_eq;omega⟩
 ·rintro⟨h1,h2⟩
  have hn:(Arp p k).Nodup:=(A19 p k).imp fun h=>by omega
  have h3:=A6o hn h1 (by omega)
  refine List.Perm.eq_of_pairwise (le:=fun a b=>a≤b) (fun a b _ _ h1 h2=>by omega) ?_ ((A19 p k).imp fun h=>by omega) (hp.trans h3.symm)
  have:=List.pairwise_mergeSort (le:=fun x y:Int=>decide (x≤y)) (fun a b c h1 h2=>by simp at *;omega) (fun a b=>by simp;omega) l
  exact this.imp fun h=>by simpa using h
theorem Bhw{a b:List Int}(h:a.length=b.length):(List.range a.length).all (fun i=>gt a i==gt b i)=decide (a=b):=by
 rw[Bool.eq_iff_iff];simp only[Z1,List.mem_range,beq_iff_eq,decide_eq_true_eq];constructor
 ·intro h1;refine List.ext_getElem h fun i h2 h3=> ?_
  have:=h1 i h2
  rwa[V2 h2,V2 h3]at this
 ·rintro rfl _ _;rfl
section
variable {K:Nat} (hK:281474976710656≤K)
include hK
theorem Bhx (a b:List Int)(ha:a.length≤140737488355327):Aiw K a b=some (decide (a=b)):=by
 unfold Aiw
 by_cases h:a.length=b.length
 ·rw[show((a.length:Int) != (b.length:Int))=false by simp[h],cond_false,←Bhw h]
  rw[Apu hK a.length (by omega) (fun i=>gt a i==gt b i) (some true) (fun n i=>Aiq K a b n (a.length:Int) i) (fun n i hi=> ?_) (fun n=> ?_)]
  ·cases (List.range a.length).all _<;>rfl
  ·simp only[Aiq];rw[Ad4 hi,cond_true,if_pos (Ahl hi),if_pos (Ahl (show i<b.length by omega)),Acx (by omega),bne,Wx]
  ·show Aiq K a b (n+1) _ _=_;rw[Aiq,Ad5 (Z9 _),cond_false]
 ·rw[Aq0 (by omega),cond_true,decide_eq_false (fun e=>h (by rw[e]))]
theorem A5f (p:Dm)(k:Int)(h1:p.Vg.length*8≤140737488355327):Au5 K p k=some (Arp p k):=by
 have hm:=V1;unfold Au5
 have:=Bf4 (min p.Vg.length p.N6.length) (fun i:Nat=>gt p.Vg i==1&&gt p.N6 i==k) (fun i:Nat=>(i:Int)) (fun n v i=>Al2 K k n v i p.N5 p.Vg p.N6) (fun n v i hi hv=> ?_) (fun n v=> ?_) K 0 [] (Z21 _) (Z9 _) (by omega)
 ·simpa[Arp]using this
 ·have h2:(v++([(i:Int)]:List Int)).length=v.length+1:=by simp
  simp only[Al2,Ast];rw[Ad4 (by omega),Ad4 (by omega),cond_true,cond_true,if_pos (Ahl (by omega)),if_pos (Ahl (by omega)),Acx (by omega),if_pos ⟨by rw[h2];omega,by rw[h2];omega⟩]
  cases gt p.Vg (i:Int)==1<;>cases gt p.N6 (i:Int)==k<;>rfl
 ·show Al2 K k (n+1) v _ _ _ _=_;rw[Al2];rcases Nat.le_total p.Vg.length p.N6.length with h|h
  ·rw[Nat.min_eq_left h,Ad5 (Z9 _),cond_false]
  ·rw[Nat.min_eq_right h,Ad5 (Z9 p.N6.length),cond_false,cc]
theorem Baf (p:Dm)(k:Int)(h1:p.Vg.length*8≤140737488355327):Aym K p k=some (Arp p k):=by
 have hm:=V1;unfold Aym
 have e:Zw (p.Vg.length:Int) (p.N6.length:Int)=((min p.Vg.length p.N6.length:Nat):Int):=by unfold Zw;split<;>omega
 rw[e]
 have:=Bf4 (min p.Vg.length p.N6.length) (fun i:Nat=>gt p.Vg i==1&&gt p.N6 i==k) (fun i:Nat=>(i:Int)) (fun n v i=>Am3 K k n v ((min p.Vg.length p.N6.length:Nat):Int) i p.N5 p.Vg p.N6) (fun n v i hi hv=> ?_) (fun n v=> ?_) K 0 [] (Z21 _) (Z9 _) (by omega)
 ·simpa[Arp]using this
 ·have h2:(v++([(i:Int)]:List Int)).length=v.length+1:=by simp
  simp only[Am3,Atc];rw[Ad4 hi,cond_true,if_pos (Ahl (by omega)),if_pos (Ahl (by omega)),Acx (by omega),if_pos ⟨by rw[h2];omega,by rw[h2];omega⟩]
  cases gt p.Vg (i:Int)==1<;>cases gt p.N6 (i:Int)==k<;>rfl
 ·show Am3 K k (n+1) v _ _ _ _ _=_;rw[Am3,Ad5 (Z9 _),cond_false]
theorem A7r (w:C4)(k:Nat)(hk:k<w.fL.length)(h1:w.fP.Vg.length*8≤140737488355327)(h2:(gt w.fL k).Ay.length≤140737488355327):Avy K w k=some (Azy w.fP k (gt w.fL k).Ay):=by
 unfold Avy;rw[A5f hK _ _ h1,Z0]
 have hl:=Bd7 w.fP k;rw[Asj hK (Arp w.fP k) (by omega) (fun x=>(gt w.fL k).Ay.contains x) (some (((Arp w.fP k).length:Int)==((gt w.fL k).Ay.length:Int))) (fun n i=>Anu K k (Arp w.fP k) n i w.fC.Ay w.fC.G6 w.fC.E5 w.fC.Gs w.fC.E6 w.fC.G7 w.fP.N5 w.fP.Vg w.fP.N6 w.fL w.fQ w.Acw) (fun n i hi=> ?_) (fun n=> ?_)]
 ·rw[Akr];rfl
 ·simp only[Anu];rw[Ad4 hi,cond_true,if_pos (Ahl hk),if_pos (Ahl hi),A1c hK _ _ (by omega),Z0,Wx,Acx (by omega),V2 hi]
 ·show Anu K k (Arp w.fP k) (n+1) _ _ _ _ _ _ _ _ _ _ _ _ _=_;rw[Anu,Ad5 (Z9 _),cond_false,if_pos (Ahl hk)]
end
def Auk (c:D9)(n:As):Bc:=Bc.mk ((n.Acv - 1)*c.G6+n.Sn) (c.G6 - n.Sn) 0
def Ap3 (c:D9)(mem:List Int)(n:As):Bool:=
 n.Acv==0||(Ao6 ((mem.drop (Auk c n).fAt.toNat).take (Auk c n).Ajk.toNat)&&n.F4.all (fun t=>Am4 t (Auk c n)))
theorem Bhy{c:D9}{n:As}(h:Aqg c n=true)(h1:n.Vg=1):Ahe c=true∧A7p c n=true:=by
 unfold Aqg at h;simp only[Z4]at h;refine⟨h.1,?_⟩
 have:=h.2.2.2;rw[h1]at this;exact this
theorem A9g{c:D9}{n:As}(h:Aqg c n=true)(h1:n.Vg≠1):A5e n=true:=by
 unfold Aqg at h;simp only[Z4]at h
 have:=h.2.2.2;rw[Aq0 h1]at this;exact this
theorem Bvf{c:D9}{n:As}(hw:Arm n)(h:Aqg c n=true)(h1:n.Acv≠0):n.Vg=1∧1≤n.Acv∧n.Acv≤c.Ay∧0≤n.Sn∧n.Sn≤c.G6:=by
 by_cases h2:n.Vg=1
 ·refine⟨h2,?_⟩;obtain⟨hc,hl⟩:=Bhy h h2;obtain⟨b1,_⟩:=Gx hc;unfold A7p at hl;simp only[Z4]at hl
  have hd:=hl.2.2.1.1
  have hcu:=hl.2.2.1.2;unfold A4t at hcu;rw[Agz h1,cond_false,Z4,List.contains_iff_mem,Acu]at hcu;obtain⟨i,hi,e⟩:=List.mem_iff_getElem.1 hcu.1;unfold Atq at hd;rw[Z1]at hd
  have:=hd i (by simpa using hi)
  rw[Z4,V2 hi,e,Acu]at this
  have h3:=this.1;obtain⟨w1,w2⟩:=hw.cur;unfold An4 at h3;rw[IntKind.wrap_i64]at h3;refine⟨by omega,by omega,hcu.2.1,hcu.2.2⟩
 ·have:=A9g h h2;unfold A5e at this;simp only[Z4,beq_iff_eq]at this;exact absurd this.2.2.2.2.2.2.2.1 h1
theorem Bf6{c:D9}{p:Dm}{n:As}(hp:Auj c p=true)(hw:Arm n)(h:Aqg c n=true)(h1:n.Acv≠0):
  An3 .i64 (An5 .i64 (An4 .i64 n.Acv 1) c.G6) n.Sn=(Auk c n).fAt∧An4 .i64 c.G6 n.Sn=(Auk c n).Ajk∧An5 .i64 n.Acv c.G6=(Auk c n).fAt+(Auk c n).Ajk∧Ay9 (Auk c n)∧(Auk c n).fAt+(Auk c n).Ajk≤(p.N5.length:Int):=by
 obtain⟨h2,c1,c2,c3,c4⟩:=Bvf hw h h1;obtain⟨hc,hm,_⟩:=Atl hp;obtain⟨b1,b2,_⟩:=Gx hc
 have m1:=Au0 (a:=n.Acv - 1) (b:=c.G6) (m:=11) (n:=16) (by omega) (by omega) (by omega) b2.2
 have e2:n.Acv*c.G6=(n.Acv - 1)*c.G6+c.G6:=by rw[Int.sub_mul,Int.one_mul];omega
 have m2:n.Acv*c.G6≤c.Ay*c.G6:=Int.mul_le_mul_of_nonneg_right (by omega) (by omega)
 unfold Auk Ay9 An3 An4 An5;simp only;rw[K0 (n:=n.Acv - 1) (by omega) (by omega),K0 (n:=(n.Acv - 1)*c.G6) (by omega) (by omega),K0 (n:=(n.Acv - 1)*c.G6+n.Sn) (by omega) (by omega),K0 (n:=c.G6 - n.Sn) (by omega) (by omega),K0 (n:=n.Acv*c.G6) (by omega) (by omega)]
 refine⟨rfl,rfl,by omega,⟨by omega,by omega,by omega,by omega⟩,by omega⟩
theorem A7s{c:D9}{l:List Bc}{ch:List Int}(h:l.all (Aq2 c ch)=true): ∀t∈l,Ay9 t∧1≤t.Ajk:=by
 intro t ht;rw[Z1]at h
 have:=h t ht;unfold Aq2 at this;rw[Z4]at this;obtain⟨h1,h2⟩:=A1e this.1;exact⟨h1,h2.2.1⟩
def A3o (w:C4)(k:Nat):Bool:=
 Aqg w.fC (gt w.fL k)&&(Azy w.fP k (gt w.fL k).Ay&&((gt w.fL k).F4.all (Aq2 w.fC (gt w.fL k).Ay)&&(Ane (gt w.fL k).F4&&Ap3 w.fC w.fP.N5 (gt w.fL k))))
section
variable {K:Nat} (hK:281474976710656≤K)
include hK
theorem A0c{l:List Int}(h:A2j l):l.length≤140737488355327:=by have:=h.2;omega
theorem Bf7{l:List Bc}(h:Bad l):l.length≤140737488355327:=by have:=h.2;omega
theorem Bd8 (w:C4)(k:Nat)(hk:k<w.fL.length)(hp:Auj w.fC w.fP=true)(hw:Arm (gt w.fL k))(hn:Aqg w.fC (gt w.fL k)=true)(hs: ∀t∈(gt w.fL k).F4,Ay9 t∧1≤t.Ajk):Aw6 K w k=some (Ap3 w.fC w.fP.N5 (gt w.fL k)):=by
 unfold Aw6;rw[if_pos (Ahl hk)];unfold Ap3
 by_cases h1:(gt w.fL k).Acv=0
 ·rw[h1];rfl
 ·rw[Agz h1,cond_false];obtain⟨e1,e2,e3,⟨s1,s2,s3,s4⟩,s5⟩:=Bf6 hp hw hn h1;rw[e1,e3];generalize hr:Auk w.fC (gt w.fL k)=r at *;rcases (show r.Ajk=0∨1≤r.Ajk by omega)with h2|h2
  ·rw[decide_eq_true (show r.fAt≥r.fAt+r.Ajk by omega),cond_true,h2]
   have:(gt w.fL k).F4.all (fun t=>Am4 t r)=true:=by
    rw[Z1];intro t _;exact decide_eq_true (.inr (.inl (by omega)))
   rw[this];simp[Ao6]
  ·rw[decide_eq_false (show ¬r.fAt≥r.fAt+r.Ajk by omega),cond_false]
   have hlt:=Bf7 hK hw.things
   have hz:List.take (r.fAt+r.Ajk - r.fAt).toNat (List.drop r.fAt.toNat w.fP.N5)=List.take r.Ajk.toNat (List.drop r.fAt.toNat w.fP.N5):=by rw[show r.fAt+r.Ajk - r.fAt=r.Ajk by omega]
   rw[Asj hK (gt w.fL k).F4 (by omega) (fun t=>Am4 t r) (some (Ao6 (List.take r.Ajk.toNat (List.drop r.fAt.toNat w.fP.N5)))) (fun m i=>Anb K m r.fAt (r.fAt+r.Ajk) i (gt w.fL k).Vg (gt w.fL k).C8 (gt w.fL k).Sj (gt w.fL k).fUp (gt w.fL k).Sk (gt w.fL k).Ee (gt w.fL k).Sl (gt w.fL k).Sm (gt w.fL k).Ay (gt w.fL k).Acv (gt w.fL k).Sn (gt w.fL k).F4 (gt w.fL k).Fh w.fC.Ay w.fC.G6 w.fC.E5 w.fC.Gs w.fC.E6 w.fC.G7 w.fP.N5 w.fP.Vg w.fP.N6 w.fL w.fQ w.Acw) (fun m i hi=> ?_) (fun m=> ?_)]
   ·rw[Akr,Bool.and_comm];rfl
   ·simp only[Anb,Auu];obtain⟨⟨t1,t2,t3,t4⟩,t5⟩:=hs _ (Ani hi);rw[Ad4 hi,cond_true,if_pos (Ahl hi),Acx (by omega),←V2 hi]
    generalize gt (gt w.fL k).F4 i=t at *;unfold An3;rw[K0 (n:=t.fAt+t.Ajk) (by omega) (by omega)]
    unfold Am4
    by_cases g1:t.fAt<r.fAt+r.Ajk
    ·by_cases g2:t.fAt+t.Ajk>r.fAt
     ·rw[decide_eq_true g1,decide_eq_true g2,decide_eq_false (by omega)];rfl
     ·rw[decide_eq_true g1,decide_eq_false g2,decide_eq_true (by omega)];rfl
    ·rw[decide_eq_false g1,decide_eq_true (show t.Ajk≤0∨r.Ajk≤0∨t.fAt+t.Ajk≤r.fAt∨r.fAt+r.Ajk≤t.fAt by omega)];rfl
   ·show Anb K (m+1) _ _ _ _ _ _ _ _ _ _ _ _ _ _ _ _ _ _ _ _ _ _ _ _ _ _ _ _=_;rw[Anb,Ad5 (Z9 _),cond_false,if_pos ⟨s1,by omega,s5⟩,A1v hK _ (by simp;omega),hz,Z0]
theorem Bmm (l:List Int)(h:A2j l):Eb K l=some (l.mergeSort fun x y=>decide (x≤y)):=by
 have:=h.2;unfold Eb;rw[if_pos (by omega)]
theorem Bag (w:C4)(hw:Ak1 w)(hp:Auj w.fC w.fP=true):Ar8 K w=some ((List.range w.fL.length).all (A3o w)):=by
 unfold Ar8
 have hlL:=hw.l.2;rw[Apu hK w.fL.length (by omega) (A3o w) (some true) (fun m i=>Agy K m w.fL (w.fL.length:Int) i w.fC.Ay w.fC.G6 w.fC.E5 w.fC.Gs w.fC.E6 w.fC.G7 w.fP.N5 w.fP.Vg w.fP.N6 w.fL w.fQ w.Acw) (fun m k hk=> ?_) (fun m=> ?_)]
 ·cases (List.range w.fL.length).all _<;>rfl
 ·simp only[Agy,Aqt];rw[show D9.mk w.fC.Ay w.fC.G6 w.fC.E5 w.fC.Gs w.fC.E6 w.fC.G7=w.fC from rfl,show Dm.mk w.fP.N5 w.fP.Vg w.fP.N6=w.fP from rfl]
  have hn:=hw.l.1 _ (Ani hk);unfold A3o;generalize hN:gt w.fL k=n at*
  have l1:=A0c hK hn.chunks
  have l2:=Bf7 hK hn.things
  have l3:=A0c hK hn.tags;rw[Ad4 hk,cond_true,if_pos (Ahl hk),Axw K hn.chunks.2,Z0,Bmm hK _ hn.chunks,Z0,if_pos (List.length_mergeSort _),Bb7 hK _ _ l1 l2 l3,Z0,Baf hK _ _ hw.p.st.2,Acx (by omega)]
  simp only[Z0];rw[Bhx hK _ _ (by rw[List.length_mergeSort];exact l1),Bf5,A8y hK _ _ l1 l2]
  simp only[Z0];cases hb:Aqg w.fC n with
  |false=>rfl
  |true=>
  cases Azy w.fP k n.Ay with
  |false=>rfl
  |true=>
  cases hi:n.F4.all (Aq2 w.fC n.Ay)with
  |false=>rfl
  |true=>
  have hs:=A7s hi;rw[A8x hK _ l2 (fun t ht=>(hs t ht).1)];simp only[Z0,cond_true,Wx,Z30];cases Ane n.F4 with
  |false=>rfl
  |true=>
  simp only[cond_true,Z30];unfold Ap3
  by_cases h1:n.Acv=0
  ·rw[h1];rfl
  ·rw[Agz h1,cond_false,Z52];obtain⟨e1,e2,e3,s,s5⟩:=Bf6 hp hn hb h1
   have hmk:Bc.mk (Auk w.fC n).fAt (Auk w.fC n).Ajk 0=Auk w.fC n:=rfl;rw[e1,e2];simp only[hmk];generalize hr:Auk w.fC n=r at *;obtain⟨s1,s2,s3,s4⟩:=s
   have e4:An3 .i64 r.fAt r.Ajk=r.fAt+r.Ajk:=by unfold An3;rw[K0 (by omega) (by omega)]
   have hC:Ae5 K n.F4 r=some (n.F4.any (fun t=> !Am4 t r)):=
    A4d hK n.F4 (by omega) (fun t=>Aqs K t r) (fun t=> !Am4 t r) (fun x hx=>by
     unfold Aqs;rw[A7q K (hs _ hx).1 ⟨s1,s2,s3,s4⟩];rfl) (Aas K n.F4 r) (fun n N i=>rfl)
   rw[e4,if_pos ⟨s1,by omega,s5⟩,show r.fAt+r.Ajk - r.fAt=r.Ajk by omega,A3n hK _ (by simp;omega),hC,List.any_eq_not_all_not]
   simp only[Z0,Bool.not_not];cases Ao6 (List.take r.Ajk.toNat (List.drop r.fAt.toNat w.fP.N5))<;>cases n.F4.all (fun t=>Am4 t r)<;>rfl
 ·show Agy K (m+1) _ _ _ _ _ _ _ _ _ _ _ _ _ _ _=_;rw[Agy,Ad5 (Z9 _),cond_false]
end
section
variable {K:Nat} (hK:281474976710656≤K)
theorem Aew{l:List As}(w:Ad1 l):l.length≤140737488355327:=by have:=w.2;omega
theorem Ayu (K:Nat){α:Type}{l:List α}(hl:l.length≤140737488355327)(k:Int):Gy K k 0 (An4 .i64 (l.length:Int) 1)=some (decide (0≤k∧k<(l.length:Int))):=by
 unfold Gy An4;rw[K0 (by omega) (by omega)]
 by_cases h:(0:Int)≤k
 ·rw[decide_eq_true (show k≥0 from h)]
  simp only[cond_true,Z7,decide_eq_decide];omega
 ·rw[decide_eq_false (show ¬k≥0 from h)]
  simp only[cond_false,Z7];exact(decide_eq_false (by omega)).symm
theorem A9h (K:Nat){α:Type}{l:List α}(hl:l.length≤140737488355327)(k:Int):Wy K k 0 (An4 .i64 (l.length:Int) 1)=some (decide (0≤k∧k<(l.length:Int))):=Ayu K hl k
theorem A2l (K:Nat){l:List As}(hl:l.length≤140737488355327)(k:Int):Anh K l k=some (decide (0≤k∧k<(l.length:Int))):=by
 unfold Anh;rw[A9h K hl];rfl
theorem Axn (K:Nat)(l:List As)(k:Int):Ad6 K l k=some (decide (1≤k∧k≤(l.length:Int))):=by
 unfold Ad6
 by_cases h:(1:Int)≤k
 ·rw[decide_eq_true (show k≥1 from h)]
  simp only[cond_true,Z7,decide_eq_decide];omega
 ·rw[decide_eq_false (show ¬k≥1 from h)]
  simp only[cond_false,Z7];exact(decide_eq_false (by omega)).symm
def Anz (l:List As)(h:Am):Int:=if(0≤h.Bk∧h.Bk<(l.length:Int))∧(gt l h.Bk).Vg=1∧(gt l h.Bk).C8=h.C8 then h.Bk else -1
theorem A00 (K:Nat){l:List As}(hl:l.length≤140737488355327)(h:Am):Arc K l h=some (Anz l h):=by
 unfold Arc Anz;rw[Ayu K hl];simp only[Z0]
 by_cases hs:0≤h.Bk∧h.Bk<(l.length:Int)
 ·rw[decide_eq_true hs];simp only[cond_true,if_pos hs]
  by_cases h1:(gt l h.Bk).Vg=1
  ·by_cases h2:(gt l h.Bk).C8=h.C8
   ·rw[if_pos ⟨hs,h1,h2⟩];simp[h1,h2]
   ·rw[if_neg (fun h=>h2 h.2.2),Aq0 h2];simp[h1]
  ·rw[if_neg (fun h=>h1 h.2.1),Aq0 h1];rfl
 ·rw[decide_eq_false hs];simp only[cond_false];rw[if_neg (fun h=>hs h.1)]
theorem A5g (K:Nat){l:List As}(hl:l.length≤140737488355327)(h:Am):Avi K l h=some (Anz l h):=by
 rw[←A00 K hl];unfold Arc Avi;rw[Ayu K hl,A2l K hl]
theorem A57{l:List As}{h:Am}(h0: ¬Anz l h<0):0≤Anz l h∧Anz l h<(l.length:Int):=by
 unfold Anz at *;split at h0
 ·rename_i h1;rw[if_pos h1];exact h1.1
 ·omega
def Aib (l:List As):Nat->Int->List Int
 |0,_=>[]
 |n+1,k=>if 0≤k∧k<(l.length:Int)then k::Aib l n (An4 .i64 (gt l k).fUp 1)else []
theorem Bah{l:List As}: ∀(n:Nat) (k:Int),∀x∈Aib l n k,0≤x∧x<(l.length:Int):=by
 intro n
 induction n with
 |zero=>intro k x hx;cases hx
 |succ n ih=>
  intro k x hx;unfold Aib at hx;split at hx
  ·rename_i h;rcases Ef.1 hx with rfl|hx
   ·exact h
   ·exact ih _ x hx
  ·cases hx
theorem A7t{l:List As}: ∀(n:Nat) (k:Int),(Aib l n k).length≤n:=by
 intro n
 induction n with
 |zero=>intro k;exact Z9 _
 |succ n ih=>
  intro k;unfold Aib;split
  ·simp only[Z28];have:=ih (An4 .i64 (gt l k).fUp 1);omega
  ·exact Z21 _
def Bd9 (l:List As):List Int->Prop
 |x::y::r=>An4 .i64 (gt l x).fUp 1=y∧Bd9 l (y::r)
 |_=>True
theorem Bea{l:List As}: ∀(n:Nat) (k:Int),Bd9 l (Aib l n k):=by
 intro n
 induction n with
 |zero=>intro k;trivial
 |succ n ih=>
  intro k;unfold Aib;split
  ·have h1:=ih (An4 .i64 (gt l k).fUp 1);cases n with
   |zero=>trivial
   |succ n=>
    rw[Aib]at h1 ⊢;split at h1
    ·rename_i h2;rw[if_pos h2];exact⟨rfl,h1⟩
    ·rename_i h2;rw[if_neg h2];trivial
  ·trivial
theorem Bhz{l:List As}(w:Ad1 l): ∀(n:Nat) (k:Int) (v:List Int),-9223372036854775808≤k∧k≤9223372036854775807->v.length≤l.length->l.length - v.length<n->Awd K l n k v=some (v++Aib l (l.length - v.length) k):=by
 have hb:l.length*152≤140737488355327:=w.2;intro n
 induction n with
 |zero=>intro k v _ _ h;omega
 |succ n ih=>
  intro k v hk hv hn;rw[Awd,Axn];simp only[Z0]
  have e:decide (1≤An3 .i64 k 1∧An3 .i64 k 1≤(l.length:Int))=decide (0≤k∧k<(l.length:Int)):=by
   rw[decide_eq_decide];unfold An3;rw[IntKind.wrap_i64];omega
  rw[e]
  by_cases hs:0≤k∧k<(l.length:Int)
  ·rw[decide_eq_true hs];simp only[cond_true];rcases Hl v.length l.length with h|h
   ·rw[Ad4 h];simp only[cond_true]
    have hl2:(v++[k]).length=v.length+1:=by simp
    rw[if_pos ⟨by rw[hl2];omega,by rw[hl2];unfold maxLen;omega⟩,if_pos hs,ih (An4 .i64 (gt l k).fUp 1) _ (Bmk _) (by rw[hl2];omega) (by rw[hl2];omega),hl2]
    obtain⟨m,hm⟩: ∃m,l.length - v.length=m+1:=⟨l.length - v.length - 1,by omega⟩
    rw[hm,Aib,if_pos hs,show l.length - (v.length+1)=m from by omega]
    simp
   ·rw[Ad5 h];rw[show l.length - v.length=0 from by omega]
    simp[Aib]
  ·rw[decide_eq_false hs]
   have:Aib l (l.length - v.length) k=[]:=by
    cases l.length - v.length with
    |zero=>rfl
    |succ m=>rw[Aib,if_neg hs]
   rw[this];simp
theorem Bh0{l:List As}(w:Ad1 l): ∀(n:Nat) (k:Int) (v:List Int),v.length≤l.length->l.length - v.length<n->Awm K l n k v=some (v++Aib l (l.length - v.length) k):=by
 have hb:l.length*152≤140737488355327:=w.2;intro n
 induction n with
 |zero=>intro k v _ h;omega
 |succ n ih=>
  intro k v hv hn;rw[Awm,A2l K (by omega)]
  simp only[Z0]
  by_cases hs:0≤k∧k<(l.length:Int)
  ·rw[decide_eq_true hs];simp only[cond_true];rcases Hl v.length l.length with h|h
   ·rw[Ad4 h];simp only[cond_true]
    have hl2:(v++[k]).length=v.length+1:=by simp
    rw[if_pos ⟨by rw[hl2];omega,by rw[hl2];unfold maxLen;omega⟩,if_pos hs,ih _ _ (by rw[hl2];omega) (by rw[hl2];omega),hl2]
    obtain⟨m,hm⟩: ∃m,l.length - v.length=m+1:=⟨l.length - v.length - 1,by omega⟩
    rw[hm,Aib,if_pos hs,show l.length - (v.length+1)=m from by omega]
    simp
   ·rw[Ad5 h];rw[show l.length - v.length=0 from by omega]
    simp[Aib]
  ·rw[decide_eq_false hs]
   have:Aib l (l.length - v.length) k=[]:=by
    cases l.length - v.length with
    |zero=>rfl
    |succ m=>rw[Aib,if_neg hs]
   rw[this];simp
include hK in
theorem A22{l:List As}(w:Ad1 l)(k:Int)(hk: -9223372036854775808≤k∧k≤9223372036854775807):Axt K l k=some (Aib l l.length k):=by
 have hb:=Aew w;unfold Axt
 have:=Bhz (K:=K) w K k [] hk (Z21 _) (by simp;omega)
 simpa using this
include hK in
theorem A4u{l:List As}(w:Ad1 l)(k:Int):Axv K l k=some (Aib l l.length k):=by
 have hb:=Aew w;unfold Axv
 have:=Bh0 (K:=K) w K k [] (Z21 _) (by simp;omega)
 simpa using this
def Aur (l:List As):List Int->Bool
 |[]=>true
 |[x]=>(gt l x).Vg==1
 |x::y::r=>((gt l x).Vg==1)&&((gt l x).Sk==(gt l y).Sj)&&Aur l (y::r)
def A1g (l:List As)(way:List Int):Bool:=if 0<way.length then(gt l (gt way ((way.length - 1:Nat):Int))).fUp==0 else false
theorem Bca{l:List As}{way:List Int}(hin: ∀x∈way,0≤x∧x<(l.length:Int))(hlen:way.length≤140737488355327):
  (bif (decide ((way.length:Int)>0))then(if(0:Int)≤(An4 .i64 (way.length:Int) 1)∧(An4 .i64 (way.length:Int) 1)<(way.length:Int)then(if(0:Int)≤(gt way (An4 .i64 (way.length:Int) 1))∧(gt way (An4 .i64 (way.length:Int) 1))<(l.length:Int)then some (((gt l (gt way (An4 .i64 (way.length:Int) 1))).fUp)==0)else none)else none)else some false)=some (A1g l way):=by
 unfold A1g;rcases Pw way.length with h|h
 ·rw[decide_eq_false (show ¬(way.length:Int)>0 by omega)]
  simp only[cond_false];rw[if_neg (show ¬0<way.length by omega)]
 ·rw[if_pos h,decide_eq_true (by omega)]
  simp only[cond_true]
  have e:An4 .i64 (way.length:Int) 1=((way.length - 1:Nat):Int):=by unfold An4;rw[K0 (by omega) (by omega)];omega
  rw[e,if_pos ⟨by omega,by omega⟩,if_pos (hin _ (Ani (by omega)))]
theorem Ayv{way:List Int}{i:Nat}(h:i<way.length):way.drop i=way[i]::way.drop (i+1):=by
 rw[Z47 h]
theorem Beb{l:List As}{way:List Int}(hin: ∀x∈way,0≤x∧x<(l.length:Int))(hlen:way.length≤140737488355327): ∀(n i:Nat),i≤way.length->way.length - i<n->Ath K l way n way (way.length:Int) (i:Int)=some (Aur l (way.drop i)&&A1g l way):=by
 intro n
 induction n with
 |zero=>intro i _ h;omega
 |succ n ih=>
  intro i hi hn;rw[Ath];unfold Ayr;rcases Hl i way.length with h|h
  ·rw[Ad4 h];simp only[cond_true];rw[if_pos ⟨by omega,by omega⟩,if_pos (hin _ (Ani h)),Ayv h,Acx (by omega),←V2 h]
   rcases Hl (i+1) way.length with h2|h2
   ·rw[Ad4 h2,Ayv h2,←V2 h2];simp only[cond_true];rw[if_pos (hin _ (Ani h)),if_pos ⟨by omega,by omega⟩,if_pos (hin _ (Ani h2)),ih (i+1) h (by omega),Ayv h2,←V2 h2,Aur]
    generalize gt way ((i+1:Nat):Int)=y;generalize gt way (i:Int)=x
    by_cases c1:(gt l x).Vg=1
    ·by_cases c2:(gt l x).Sk=(gt l y).Sj
     ·simp[c1,c2]
     ·rw[Aq0 c2,Agz c2];simp[c1]
    ·rw[Aq0 c1,Agz c1];simp
   ·rw[Ad5 h2,ih (i+1) h (by omega),show way.drop (i+1)=[] from Z48 h2]
    simp only[cond_false,Aur]
    by_cases c1:(gt l (gt way (i:Int))).Vg=1
    ·simp[c1]
    ·rw[Aq0 c1,Agz c1];simp
  ·rw[Ad5 h,show way.drop i=[] from Z48 h]
   simp only[cond_false,Aur,Z30];exact Bca hin hlen
theorem Bpu{l:List As}(w:Ad1 l){x y:Int}(hx:0≤x∧x<(l.length:Int))(hy:0≤y∧y<(l.length:Int))(h:An4 .i64 (gt l x).fUp 1=y):Ar1 K l x=some (((gt l y).Vg==1)&&((gt l y).Sj==(gt l x).Sk)):=by
 have hl:=Aew w;unfold Ar1;rw[if_pos hx,Axn];simp only[Z0];obtain⟨hr1,hr2⟩:=(w.1 _ (Ahf hx.1 hx.2)).up
 have hp:1≤(gt l x).fUp∧(gt l x).fUp≤(l.length:Int):=by
  unfold An4 at h;rw[IntKind.wrap_i64]at h;omega
 rw[decide_eq_true hp,h];simp only[cond_true];rw[if_pos hy,if_pos hy,if_pos hx];cases (gt l y).Vg==1<;>rfl
theorem Bcb{l:List As}{y:Int}{r:List Int}(h:(gt l y).Vg≠1):Aur l (y::r)=false:=by
 cases r with
 |nil=>simp[Aur,h]
 |cons z r=>simp[Aur,h]
theorem Bec{l:List As}(w:Ad1 l){way:List Int}(hin: ∀x∈way,0≤x∧x<(l.length:Int))(hlen:way.length≤140737488355327): ∀(n i:Nat),Bd9 l (way.drop i)->i≤way.length->way.length - i<n->Asn K l way n (i:Int)=some (Aur l (way.drop i)&&A1g l way):=by
 intro n
 induction n with
 |zero=>intro i _ _ h;omega
 |succ n ih=>
  intro i hch hi hn;rw[Asn];unfold Ax2;rcases Hl i way.length with h|h
  ·rw[Ad4 h];simp only[cond_true];rw[Ayv h]at hch;rw[if_pos ⟨by omega,by omega⟩,if_pos (hin _ (Ani h)),Ayv h,Acx (by omega),←V2 h]
   rcases Hl (i+1) way.length with h2|h2
   ·rw[Ayv h2]at hch
    have hc1:=hch.1;rw[←V2 h,←V2 h2]at hc1;rw[Ad4 h2,Ayv h2,←V2 h2];simp only[cond_true];rw[if_pos ⟨by omega,by omega⟩,Bpu w (hin _ (Ani h)) (hin _ (Ani h2)) hc1,ih (i+1) (by rw[Ayv h2];exact hch.2) h (by omega),Ayv h2,←V2 h2,Aur]
    generalize gt way ((i+1:Nat):Int)=y;generalize gt way (i:Int)=x
    by_cases c1:(gt l x).Vg=1
    ·by_cases c3:(gt l y).Vg=1
     ·by_cases c2:(gt l x).Sk=(gt l y).Sj
      ·simp[c1,c2,c3]
      ·have c2': ¬(gt l y).Sj=(gt l x).Sk:=fun e=>c2 e.symm;rw[Agz c2,Agz c2'];simp[c1]
     ·rw[Bcb c3,Agz c3];simp[c1]
    ·rw[Aq0 c1,Agz c1];simp
   ·rw[Ad5 h2,ih (i+1) (by rw[Z48 h2];trivial) h (by omega),show way.drop (i+1)=[] from Z48 h2]
    simp only[cond_false,Aur]
    by_cases c1:(gt l (gt way (i:Int))).Vg=1
    ·simp[c1]
    ·rw[Aq0 c1,Agz c1];simp
  ·rw[Ad5 h,show way.drop i=[] from Z48 h]
   simp only[cond_false,Aur,Z30];exact Bca hin hlen
def Asf (l:List As)(k:Int):Bool:=Aur l (Aib l l.length k)&&A1g l (Aib l l.length k)
include hK in
theorem A3p{l:List As}(w:Ad1 l)(k:Int)(hk: -9223372036854775808≤k∧k≤9223372036854775807):Avt K l k=some (Asf l k):=by
 have hb:=Aew w
 have hr:=A7t (l:=l) l.length k;unfold Avt;rw[A22 hK w k hk];exact Bec w (Bah _ _) (by omega) K 0 (Bea _ _) (Z21 _) (by omega)
include hK in
theorem A6p{l:List As}(w:Ad1 l)(k:Int):Ays K l k=some (Asf l k):=by
 have hb:=Aew w
 have hr:=A7t (l:=l) l.length k;unfold Ays;rw[A4u hK w k];exact Beb (Bah _ _) (by omega) K 0 (Z21 _) (by omega)
def Aul (h:Am):Bool:=bif decide (h.Bk≥0)then decide (h.C8≥1)else false
theorem A2a (K:Nat)(h:Am):At3 K h=some (Aul h):=by
 unfold At3 Aul;cases decide (h.Bk≥0)<;>rfl
theorem A4p (K:Nat)(h:Am):Auf K h=some (Aul h):=by
 unfold Auf Aul;cases decide (h.Bk≥0)<;>rfl
def Ans (l:List As)(h:Am):Int×Int:=bif Aul h then(bif decide (Anz l h<0)then(-1,2)else(bif Asf l (Anz l h)then(Anz l h,0)else(-1,2)))else(-1,1)
include hK in
theorem Asg{w:C4}(hw:Ad1 w.fL)(h:Am):Anl K w h=some (Ans w.fL h):=by
 have hb:=Aew hw;unfold Anl Ans;rw[A2a,A00 K hb];simp only[Z0];cases Aul h with
 |false=>rfl
 |true=>
  simp only[cond_true];cases e:decide (Anz w.fL h<0)with
  |true=>rfl
  |false=>
   have h1:=A57 (of_decide_eq_false e);simp only[cond_false];rw[A3p hK hw _ ⟨by omega,by omega⟩]
   simp only[Z0];cases Asf w.fL (Anz w.fL h)<;>rfl
include hK in
theorem A2b{w:C4}(hw:Ad1 w.fL)(h:Am):Aug K w h=some (Ans w.fL h):=by
 have hb:=Aew hw;unfold Aug Ans;rw[A4p,A5g K hb];simp only[Z0];cases Aul h with
 |false=>rfl
 |true=>
  simp only[cond_true];cases e:decide (Anz w.fL h<0)with
  |true=>rfl
  |false=>
   simp only[cond_false];rw[A6p hK hw];simp only[Z0];cases Asf w.fL (Anz w.fL h)<;>rfl
theorem A7u{l:List As}{h:Am}(h0:(Ans l h).2=0):0≤(Ans l h).1∧(Ans l h).1<(l.length:Int):=by
 unfold Ans at *;cases e1:Aul h with
 |false=>rw[e1]at h0;simp at h0
 |true=>
  rw[e1]at h0;simp only[cond_true]at *;cases e:decide (Anz l h<0)with
  |true=>rw[e]at h0;simp at h0
  |false=>
   rw[e]at h0;simp only[cond_false]at *;cases e2:Asf l (Anz l h)with
   |false=>rw[e2]at h0;simp at h0
   |true=>exact A57 (of_decide_eq_false e)
end
def plB (l:List As)(n:Int):Bool:=decide (0≤An4 .i64 n 1∧An4 .i64 n 1<(l.length:Int))
theorem Aza{l:List As}{n:Int}(h:plB l n=true):0≤An4 .i64 n 1∧An4 .i64 n 1<(l.length:Int):=of_decide_eq_true h
theorem A4v (K:Nat){l:List As}(hl:l.length≤140737488355327)(n:Int):Anh K l (An4 .i64 n 1)=some (plB l n):=A2l K hl _
theorem Avo (K:Nat){l:List As}(hl:l.length≤140737488355327){n:Int}(hn:wfi n):Ad6 K l n=some (plB l n):=by
 rw[Axn];unfold plB;obtain⟨h1,h2⟩:=hn
 congr 1
 rw[decide_eq_decide];unfold An4;rw[IntKind.wrap_i64];omega
def A1h (l:List As)(k:Int):Bool:=plB l (gt l k).fUp&&((gt l (An4 .i64 (gt l k).fUp 1)).Vg==1&&(gt l (An4 .i64 (gt l k).fUp 1)).Sj==(gt l k).Sk)
theorem A58 (K:Nat){l:List As}(w:Ad1 l){k:Int}(h:0≤k∧k<(l.length:Int)):Ar1 K l k=some (A1h l k):=by
 unfold Ar1 A1h;rw[if_pos h,Avo K (Aew w) (w.1 _ (Ahf h.1 h.2)).up,Z0,if_pos h];cases hp:plB l (gt l k).fUp with
 |false=>rfl
 |true=>
  have:=Aza hp;rw[cond_true,if_pos this,if_pos this];cases (gt l (An4 .i64 (gt l k).fUp 1)).Vg==1<;>rfl
theorem A1i (K:Nat){l:List As}(w:Ad1 l){k:Int}(h:0≤k∧k<(l.length:Int)):Aq7 K l k=some (A1h l k):=by
 unfold Aq7 A1h;rw[if_pos h,A4v K (Aew w),Z0,if_pos h];cases hp:plB l (gt l k).fUp with
 |false=>rfl
 |true=>
  have:=Aza hp;rw[cond_true,if_pos this,if_pos this];cases (gt l (An4 .i64 (gt l k).fUp 1)).Vg==1<;>rfl
def Asb (l:List As)(n:Int):Bool:=n==0||(plB l n&&(gt l (An4 .i64 n 1)).Vg==1)
theorem A2m{l:List As}{n:Int}(h:Asb l n=true)(h0:n≠0):0≤An4 .i64 n 1∧An4 .i64 n 1<(l.length:Int):=by
 unfold Asb at h;rw[Agz h0,Z52,Z4]at h;exact Aza h.1
theorem A3q (K:Nat){l:List As}(w:Ad1 l){n:Int}(hn:wfi n):Ap7 K l n=some (Asb l n):=by
 unfold Ap7 Asb;rw[Avo K (Aew w) hn,Z0];cases n==0 with
 |true=>rfl
 |false=>
  cases hp:plB l n with
  |false=>rfl
  |true=>rw[if_pos (Aza hp)];rfl
theorem A3r (K:Nat){l:List As}(w:Ad1 l)(n:Int):Auq K l n=some (Asb l n):=by
 unfold Auq Asb;rw[A4v K (Aew w),Z0];cases n==0 with
 |true=>rfl
 |false=>
  cases hp:plB l n with
  |false=>rfl
  |true=>rw[if_pos (Aza hp)];rfl
def A6q (r:List Int):Int:=gt r ((r.length - 1:Nat):Int)
def A2n (l:List As)(k:Int):Bool:=decide (((Aib l l.length k).length:Int)≤4)&& !A1h l (A6q (Aib l l.length k))
def A67 (l:List As)(k:Int):Bool:= !((gt l k).Sm==0&&A1h l k)||(gt l (An4 .i64 (gt l k).fUp 1)).Ee==An3 .i64 k 1
def A80 (l:List As)(k:Int):Bool:=(gt l k).Sm==0||(gt l (An4 .i64 (gt l k).Sm 1)).Sl==An3 .i64 k 1
def Bcc (l:List As)(k:Int):Bool:=(gt l k).Sl==0||((gt l (An4 .i64 (gt l k).Sl 1)).Sm==An3 .i64 k 1&&((gt l (An4 .i64 (gt l k).Sl 1)).fUp==(gt l k).fUp&&(gt l (An4 .i64 (gt l k).Sl 1)).Sk==(gt l k).Sk))
def Bh1 (l:List As)(k:Int):Bool:=(gt l k).Ee==0||((gt l (An4 .i64 (gt l k).Ee 1)).Sm==0&&((gt l (An4 .i64 (gt l k).Ee 1)).fUp==An3 .i64 k 1&&(gt l (An4 .i64 (gt l k).Ee 1)).Sk==(gt l k).Sj))
def A4e (l:List As)(k:Int):Bool:=Asb l (gt l k).Ee&&(Asb l (gt l k).Sl&&(Asb l (gt l k).Sm&&((gt l k).fUp==0||plB l (gt l k).fUp)))
def A1j (l:List As)(k:Int):Bool:=A4e l k&&(Bh1 l k&&(Bcc l k&&(A80 l k&&A67 l k)))
def A6r (l:List As):Bool:=(List.range l.length).all (fun k=>(gt l (k:Int)).Vg != 1||(A1j l k&&A2n l k))
theorem A7v{l:List As}{k:Int}(h:0≤k∧k<(l.length:Int)):0<(Aib l l.length k).length:=by
 obtain⟨m,hm⟩: ∃m,l.length=m+1:=⟨l.length - 1,by omega⟩
 rw[hm,Aib,if_pos h];simp
theorem Bai{l:List As}{k:Int}(h:0≤k∧k<(l.length:Int)):0≤A6q (Aib l l.length k)∧A6q (Aib l l.length k)<(l.length:Int):=by
 have:=A7v h;exact Bah _ _ _ (Ani (by omega))
theorem Bf8{l:List As}(w:Ad1 l){k:Int}(h:0≤k∧k<(l.length:Int)):An4 .i64 ((Aib l l.length k).length:Int) 1=(((Aib l l.length k).length - 1:Nat):Int)∧(0:Int)≤(((Aib l l.length k).length - 1:Nat):Int)∧(((Aib l l.length k).length - 1:Nat):Int)<((Aib l l.length k).length:Int):=by
 have h1:=A7v h
 have h2:=A7t (l:=l) l.length k
 have h3:=Aew w;unfold An4;rw[K0 (by omega) (by omega)]
 omega
section
variable {K:Nat} (hK:281474976710656≤K)
include hK
theorem Bpv{l:List As}(w:Ad1 l){k:Int}(h:0≤k∧k<(l.length:Int)):As3 K l k=some (A2n l k):=by
 have h3:=Aew w;obtain⟨e1,e2,e3⟩:=Bf8 w h;unfold As3;rw[A22 hK w k ⟨by omega,by omega⟩,Z0,e1,if_pos ⟨e2,e3⟩]
 have:=A58 K w (Bai h);unfold A6q at this;rw[this,Z0,Akr];rfl
theorem Bpw{l:List As}(w:Ad1 l){k:Int}(h:0≤k∧k<(l.length:Int)):Au9 K l k (gt l k).fUp (gt l k).Sm=some (A67 l k&&A2n l k):=by
 unfold Au9 A67;rw[A58 K w h,Bpv hK w h,Z0];cases (gt l k).Sm==0 with
 |false=>rfl
 |true=>
  cases hc:A1h l k with
  |false=>rfl
  |true=>
   have:plB l (gt l k).fUp=true:=by unfold A1h at hc;rw[Z4]at hc;exact hc.1
   rw[cond_true,cond_true,if_pos (Aza this),bne,Wx];cases (gt l (An4 .i64 (gt l k).fUp 1)).Ee==An3 .i64 k 1<;>rfl
theorem Bpx{l:List As}(w:Ad1 l){k:Int}(h:0≤k∧k<(l.length:Int))(hp:Asb l (gt l k).Sm=true):Ava K l k (gt l k).fUp (gt l k).Sm=some (A80 l k&&(A67 l k&&A2n l k)):=by
 unfold Ava A80;rw[Bpw hK w h]
 by_cases h0:(gt l k).Sm=0
 ·rw[h0];rfl
 ·rw[Aq0 h0,Agz h0,cond_true,if_pos (A2m hp h0),bne,Wx];cases (gt l (An4 .i64 (gt l k).Sm 1)).Sl==An3 .i64 k 1<;>rfl
theorem Bpy{l:List As}(w:Ad1 l){k:Int}(h:0≤k∧k<(l.length:Int))(hp:Asb l (gt l k).Sm=true)(hn:Asb l (gt l k).Sl=true):Avb K l k (gt l k).fUp (gt l k).Sk (gt l k).Sl (gt l k).Sm=some (Bcc l k&&(A80 l k&&(A67 l k&&A2n l k))):=by
 unfold Avb Bcc;rw[Bpx hK w h hp]
 by_cases h0:(gt l k).Sl=0
 ·rw[h0];rfl
 ·have hi:=A2m hn h0;rw[Aq0 h0,Agz h0,cond_true,if_pos hi];simp only[bne,Wx,Z52];cases (gt l (An4 .i64 (gt l k).Sl 1)).Sm==An3 .i64 k 1<;>cases (gt l (An4 .i64 (gt l k).Sl 1)).fUp==(gt l k).fUp<;>cases (gt l (An4 .i64 (gt l k).Sl 1)).Sk==(gt l k).Sk<;>rfl
theorem Bpz{l:List As}(w:Ad1 l){k:Int}(h:0≤k∧k<(l.length:Int))(hf:Asb l (gt l k).Ee=true)(hp:Asb l (gt l k).Sm=true)(hn:Asb l (gt l k).Sl=true):Avc K l k (gt l k).Vg (gt l k).C8 (gt l k).Sj (gt l k).fUp (gt l k).Sk (gt l k).Ee (gt l k).Sl (gt l k).Sm (gt l k).Ay (gt l k).Acv (gt l k).Sn (gt l k).F4 (gt l k).Fh=some (Bh1 l k&&(Bcc l k&&(A80 l k&&(A67 l k&&A2n l k)))):=by
 unfold Avc Bh1;rw[Bpy hK w h hp hn]
 by_cases h0:(gt l k).Ee=0
 ·rw[h0];rfl
 ·have hi:=A2m hf h0;rw[Aq0 h0,Agz h0,cond_true,if_pos hi];simp only[bne,Wx,Z52];cases (gt l (An4 .i64 (gt l k).Ee 1)).Sm==0<;>cases (gt l (An4 .i64 (gt l k).Ee 1)).fUp==An3 .i64 k 1<;>cases (gt l (An4 .i64 (gt l k).Ee 1)).Sk==(gt l k).Sj<;>rfl
theorem Bed{l:List As}(w:Ad1 l){k:Int}(h:0≤k∧k<(l.length:Int)):A0l K l k=some (A1j l k&&A2n l k):=by
 have hn:=w.1 _ (Ahf h.1 h.2);unfold A0l A1j A4e;rw[if_pos h,Avo K (Aew w) hn.up,A3q K w hn.first,A3q K w hn.next,A3q K w hn.prev];simp only[Z0,Wx];cases hf:Asb l (gt l k).Ee with
 |false=>cases (gt l k).fUp != 0<;>cases plB l (gt l k).fUp<;>rfl
 |true=>
 cases hx:Asb l (gt l k).Sl with
 |false=>cases (gt l k).fUp != 0<;>cases plB l (gt l k).fUp<;>rfl
 |true=>
 cases hp:Asb l (gt l k).Sm with
 |false=>cases (gt l k).fUp != 0<;>cases plB l (gt l k).fUp<;>rfl
 |true=>
 rw[Bpz hK w h hf hp hx];simp only[bne];cases (gt l k).fUp==0<;>cases plB l (gt l k).fUp<;>simp only[Bool.not_true,Bool.not_false,cond_true,cond_false,Z30,Bool.false_and,Bool.true_or,Z52,Bool.and_assoc]
theorem Bcd{l:List As}(w:Ad1 l):Azk K l=some (A6r l):=by
 have hl:=Aew w;unfold Azk A6r;rw[Apu hK l.length (by omega) (fun k=>(gt l (k:Int)).Vg != 1||(A1j l k&&A2n l k)) (some true) (fun n i=>Apo K l n i) (fun n i h=> ?_) (fun n=> ?_)]
 ·cases (List.range l.length).all _<;>rfl
 ·simp only[Apo,Aw2];rw[Ad4 h,cond_true,if_pos (Ahl h),Bed hK w (Ahl h),Acx (by omega),Z0,Wx,bne]
  cases (gt l (i:Int)).Vg==1<;>rfl
 ·show Apo K l (n+1) _=_;rw[Apo,Ad5 (Z9 _),cond_false]
theorem Bp0{l:List As}(w:Ad1 l){k:Int}(h:0≤k∧k<(l.length:Int)):Atd K l k (gt l k).fUp (gt l k).Sm=some (A67 l k):=by
 unfold Atd A67;rw[A1i K w h,Z0,bne];cases (gt l k).Sm==0 with
 |false=>rfl
 |true=>
  cases hc:A1h l k with
  |false=>rfl
  |true=>
   have:plB l (gt l k).fUp=true:=by unfold A1h at hc;rw[Z4]at hc;exact hc.1
   rw[if_pos (Aza this)];rfl
theorem Bp1{l:List As}(w:Ad1 l){k:Int}(h:0≤k∧k<(l.length:Int))(hp:Asb l (gt l k).Sm=true):Ate K l k (gt l k).fUp (gt l k).Sm=some (A80 l k&&A67 l k):=by
 unfold Ate A80;rw[Bp0 hK w h]
 by_cases h0:(gt l k).Sm=0
 ·rw[h0];rfl
 ·rw[Aq0 h0,Agz h0,cond_true,if_pos (A2m hp h0),bne,Wx];cases (gt l (An4 .i64 (gt l k).Sm 1)).Sl==An3 .i64 k 1<;>rfl
theorem Bp2{l:List As}(w:Ad1 l){k:Int}(h:0≤k∧k<(l.length:Int))(hp:Asb l (gt l k).Sm=true)(hn:Asb l (gt l k).Sl=true):Atf K l k (gt l k).fUp (gt l k).Sk (gt l k).Sl (gt l k).Sm=some (Bcc l k&&(A80 l k&&A67 l k)):=by
 unfold Atf Bcc;rw[Bp1 hK w h hp]
 by_cases h0:(gt l k).Sl=0
 ·rw[h0];rfl
 ·have hi:=A2m hn h0;rw[Aq0 h0,Agz h0,cond_true,if_pos hi];simp only[bne,Wx,Z52];cases (gt l (An4 .i64 (gt l k).Sl 1)).Sm==An3 .i64 k 1<;>cases (gt l (An4 .i64 (gt l k).Sl 1)).fUp==(gt l k).fUp<;>cases (gt l (An4 .i64 (gt l k).Sl 1)).Sk==(gt l k).Sk<;>rfl
theorem Bp3{l:List As}(w:Ad1 l){k:Int}(h:0≤k∧k<(l.length:Int))(hf:Asb l (gt l k).Ee=true)(hp:Asb l (gt l k).Sm=true)(hn:Asb l (gt l k).Sl=true):Atg K l k (gt l k).Vg (gt l k).C8 (gt l k).Sj (gt l k).fUp (gt l k).Sk (gt l k).Ee (gt l k).Sl (gt l k).Sm (gt l k).Ay (gt l k).Acv (gt l k).Sn (gt l k).F4 (gt l k).Fh=some (Bh1 l k&&(Bcc l k&&(A80 l k&&A67 l k))):=by
 unfold Atg Bh1;rw[Bp2 hK w h hp hn]
 by_cases h0:(gt l k).Ee=0
 ·rw[h0];rfl
 ·have hi:=A2m hf h0;rw[Aq0 h0,Agz h0,cond_true,if_pos hi];simp only[bne,Wx,Z52];cases (gt l (An4 .i64 (gt l k).Ee 1)).Sm==0<;>cases (gt l (An4 .i64 (gt l k).Ee 1)).fUp==An3 .i64 k 1<;>cases (gt l (An4 .i64 (gt l k).Ee 1)).Sk==(gt l k).Sj<;>rfl
theorem Baj{l:List As}(w:Ad1 l){k:Int}(h:0≤k∧k<(l.length:Int)):Ayp K l k=some (A1j l k):=by
 unfold Ayp A1j A4e;rw[if_pos h,A4v K (Aew w),A3r K w,A3r K w,A3r K w];simp only[Z0,Wx];cases hf:Asb l (gt l k).Ee with
 |false=>rfl
 |true=>
 cases hx:Asb l (gt l k).Sl with
 |false=>rfl
 |true=>
 cases hp:Asb l (gt l k).Sm with
 |false=>rfl
 |true=>
 rw[Bp3 hK w h hf hp hx];simp only[bne];cases (gt l k).fUp==0<;>cases plB l (gt l k).fUp<;>simp only[Bool.not_true,Bool.not_false,cond_true,cond_false,Z30,Bool.false_and,Bool.true_or,Z52,Bool.and_assoc]
theorem Bce{l:List As}(w:Ad1 l):Azs K l=some (A6r l):=by
 have hl:=Aew w;unfold Azs A6r;rw[Apu hK l.length (by omega) (fun k=>(gt l (k:Int)).Vg != 1||(A1j l k&&A2n l k)) (some true) (fun n i=>Apr K l n l (l.length:Int) i) (fun n i h=> ?_) (fun n=> ?_)]
 ·cases (List.range l.length).all _<;>rfl
 ·have hc:=Ahl h;obtain⟨e1,e2,e3⟩:=Bf8 w hc
  have e4:=A1i K w (Bai hc);unfold A6q at e4
  have e5:decide (((Aib l l.length i).length:Int)>4)= !decide (((Aib l l.length i).length:Int)≤4):=by rw[←decide_not];congr 1;simp
  simp only[Apr,Axb];rw[Ad4 h,cond_true,if_pos hc,Baj hK w hc,Acx (by omega),Z0,A4u hK w,Z0,e1,if_pos ⟨e2,e3⟩,e4,Z0,e5]
  unfold A2n A6q;simp only[Wx,bne];cases (gt l (i:Int)).Vg==1<;>cases A1j l i<;>cases decide (((Aib l l.length i).length:Int)≤4)<;>cases A1h l (gt (Aib l l.length i) (((Aib l l.length i).length - 1:Nat):Int))<;>rfl
 ·show Apr K l (n+1) _ _ _=_;rw[Apr,Ad5 (Z9 _),cond_false]
end
theorem A59{c:D9}(hc:Ahe c=true):An4 .i64 c.G6 1=c.G6 - 1:=by
 obtain⟨_,b2,_⟩:=Gx hc;unfold An4;rw[K0 (by omega) (by omega)]
def Ald (c:D9)(x:Az):Bool:=
 Ahe c&&(inB x.Bk 0 c.E5&&(inB x.Ee 0 c.E5&&(decide ((x.Fh.length:Int)≤6)&&(x.Fh.all (fun y=>inB y 0 255)&&(Atq c x.Ay&&(inB x.Wv 0 (c.G6 - 1)&&(decide ((x.Ay.length:Int)>0)||x.Wv==0)))))))
section
variable {K:Nat} (hK:281474976710656≤K)
include hK
theorem A81 (c:D9)(x:Az)(hw:A1f x):Ayd K c x=some (Ald c x):=by
 have h1:=A0c hK hw.tags
 have h2:=A0c hK hw.chunks;unfold Ayd Avx;rw[Aq1];simp only[Z0,Anm];cases hc:Ahe c with
 |false=>simp[Ald,hc]
 |true=>
 have hA:Aoq K c x.Ay K 0=some (Atq c x.Ay):=by
  rw[Apu hK x.Ay.length (by omega) (fun i=>inB (gt x.Ay i) 0 (c.Ay - 1)&& !(x.Ay.take i).contains (gt x.Ay i)) (some true) (fun k i=>Aoq K c x.Ay k i) (fun k i h=> ?_) (fun k=> ?_)]
  ·unfold Atq;cases (List.range x.Ay.length).all _<;>rfl
  ·have hp:(x.Ay.take i).length≤140737488355328:=by simp;omega
   simp only[Aoq];rw[Ad4 h,cond_true,if_pos (Ahl h),Anm,if_pos (Bb6 (by omega)),A55,A1c hK _ _ hp,Acx (by omega),Ay8 hK hc]
   simp only[Z0,if_pos (Ahl h)];cases inB (gt x.Ay i) 0 (c.Ay - 1)<;>cases (x.Ay.take i).contains (gt x.Ay i)<;>rfl
  ·show Aoq K c x.Ay (k+1) _=_;rw[Aoq,Ad5 (Z9 _),cond_false]
 have hB:Apy K c x.Fh x.Ay K 0=some (x.Fh.all (fun y=>inB y 0 255)&&Atq c x.Ay):=by
  rw[Asj hK x.Fh (by omega) (fun y=>inB y 0 255) (some (Atq c x.Ay)) (Apy K c x.Fh x.Ay) (fun k i h=> ?_) (fun k=> ?_)]
  ·rw[Akr]
  ·rw[Apy,Ad4 h,cond_true,if_pos (Ahl h),V2 h,Anm,Acx (by omega),Z0,Wx]
  ·rw[Apy,Ad5 (Z9 _),cond_false,hA]
 rw[hB,A59 hc]
 have e6:decide ((x.Fh.length:Int)>6)= !decide ((x.Fh.length:Int)≤6):=by rw[←decide_not];congr 1;simp
 have e0:decide ((x.Ay.length:Int)>0)= !((x.Ay.length:Int)==0):=by
  rw[Bool.eq_iff_iff];simp only[decide_eq_true_eq,Z44,beq_eq_false_iff_ne];omega
 unfold Ald;simp only[cond_true,e6,e0,Wx,bne,hc,Z30];cases (x.Ay.length:Int)==0 with
 |true=>
  simp only[cond_true,Bool.not_true,Z52,Akr,Z7]
  ac_rfl
 |false=>
  simp only[cond_false,Bool.not_false,Bool.true_or,Akr,Z7,Bool.and_true]
  ac_rfl
theorem A82 (c:D9)(x:Az)(hw:A1f x):Ayq K c x=some (Ald c x):=by
 have h1:=A0c hK hw.tags
 have h2:=A0c hK hw.chunks;unfold Ayq;rw[A3m];simp only[Z0,Av8];cases hc:Ahe c with
 |false=>simp[Ald,hc]
 |true=>
 rw[A18 hK _ (by omega),A4o hK hc _ h2,A59 hc]
 unfold Ald;simp only[Z0,cond_true,hc,Z30,A1b,Akr]
end
theorem Aqv{c:D9}{x:Az}(h:Ald c x=true):Ahe c=true∧(0≤x.Bk∧x.Bk≤c.E5)∧(0≤x.Ee∧x.Ee≤c.E5)∧Atq c x.Ay=true∧(0≤x.Wv∧x.Wv≤c.G6 - 1):=by
 unfold Ald at h;simp only[Z4,Acu]at h;exact⟨h.1,h.2.1,h.2.2.1,h.2.2.2.2.2.1,h.2.2.2.2.2.2.1⟩
theorem Atz{c:D9}{l:List Int}(h:Atq c l=true): ∀x∈l,0≤x∧x<c.Ay:=by
 intro x hx;obtain⟨i,hi,e⟩:=List.mem_iff_getElem.1 hx;unfold Atq at h;rw[Z1]at h
 have:=h i (by simpa using hi)
 rw[Z4,V2 hi,e,Acu]at this;omega
theorem A4w{l:List Int}:l.Nodup ↔ ∀i,(h:i<l.length)->l[i] ∉ l.take i:=by
 unfold List.Nodup;rw[List.pairwise_iff_getElem];constructor
 ·intro h i hi hm;obtain⟨j,hj,e⟩:=List.mem_iff_getElem.1 hm;rw[List.getElem_take]at e;simp only[List.length_take]at hj;exact h j i (by omega) hi (by omega) e
 ·intro h i j hi hj hij e;exact h j hj (List.mem_iff_getElem.2 ⟨i,by simp;omega,by rw[List.getElem_take];exact e⟩)
theorem Azb{c:D9}{l:List Int}(h:Atq c l=true):l.Nodup:=by
 rw[A4w];intro i hi hm;unfold Atq at h;rw[Z1]at h
 have:=h i (by simpa using hi)
 rw[Z4,V2 hi,Z44,List.contains_eq_mem]at this;exact absurd hm (of_decide_eq_false this.2)
theorem Azc{l:List Int}: ∀ {o:List Int},o.Nodup->(∀x∈o,x∈l)->o.length≤l.length:=by
 intro o
 induction o generalizing l with
 |nil=>intro _ _;exact Z21 _
 |cons x o ih=>
  intro hn hs
  have hx:x∈l:=hs x (by simp)
  rw[List.nodup_cons]at hn
  have h2:=ih (l:=l.erase x) hn.2 (fun y hy=>by
   have hne:y≠x:=fun e=>hn.1 (e ▸ hy);exact(List.mem_erase_of_ne hne).2 (hs y (by simp[hy])))
  rw[List.length_erase_of_mem hx]at h2
  have:0<l.length:=List.length_pos_of_mem hx;simp only[Z28];omega
theorem Asc{c:D9}(hc:Ahe c=true){l:List Int}(h:Atq c l=true):l.length≤12:=by
 obtain⟨b1,_⟩:=Gx hc
 have:=Azc (l:=(List.range 12).map (fun i:Nat=>(i:Int))) (Azb h) (fun x hx=>by
  have:=Atz h x hx;rw[Ex];exact⟨x.toNat,by simp;omega,by omega⟩)
 simpa using this
def Ay5 (l:List As):Nat->Int->List Int
 |0,_=>[]
 |n+1,k=>if 0≤k∧k<(l.length:Int)then k::Ay5 l n (An4 .i64 (gt l k).Sl 1)else []
theorem A5h{l:List As}: ∀(n:Nat) (k:Int),∀x∈Ay5 l n k,0≤x∧x<(l.length:Int):=by
 intro n
 induction n with
 |zero=>intro k x hx;cases hx
 |succ n ih=>
  intro k x hx;unfold Ay5 at hx;split at hx
  ·rename_i h;rcases Ef.1 hx with rfl|hx
   ·exact h
   ·exact ih _ x hx
  ·cases hx
theorem A4f{l:List As}: ∀(n:Nat) (k:Int),(Ay5 l n k).length≤n:=by
 intro n
 induction n with
 |zero=>intro k;exact Z9 _
 |succ n ih=>
  intro k;unfold Ay5;split
  ·simp only[Z28];have:=ih (An4 .i64 (gt l k).Sl 1);omega
  ·exact Z21 _
def Akt (l:List As)(first:Int):List Int:=Ay5 l l.length (An4 .i64 first 1)
def Axx (l:List As)(k:Int):Bool:=(gt l k).Vg==1&&((gt l k).fUp != 0&& !A1h l k)
theorem A6s (K:Nat){l:List As}(w:Ad1 l){k:Int}(h:0≤k∧k<(l.length:Int)):As4 K l k=some (Axx l k):=by
 unfold As4 Axx;rw[if_pos h,if_pos h,A58 K w h,Z0,Akr,Akr]
theorem A6t (K:Nat){l:List As}(w:Ad1 l){k:Int}(h:0≤k∧k<(l.length:Int)):Arx K l k=some (Axx l k):=by
 unfold Arx Axx;rw[if_pos h,if_pos h,A1i K w h,Z0,Akr,Akr]
section
variable {K:Nat} (hK:281474976710656≤K)
theorem Bh2{l:List As}(w:Ad1 l): ∀(n:Nat) (k:Int) (v:List Int),wfi k->v.length≤l.length->l.length - v.length<n->At7 K l n k v=some (v++Ay5 l (l.length - v.length) (An4 .i64 k 1)):=by
 have hm:=V1
 have hb:l.length*152≤140737488355327:=w.2;intro n
 induction n with
 |zero=>intro k v _ _ h;omega
 |succ n ih=>
  intro k v hk hv hn;rw[At7,Avo K (Aew w) hk];simp only[Z0]
  by_cases hs:0≤An4 .i64 k 1∧An4 .i64 k 1<(l.length:Int)
  ·rw[show plB l k=true from decide_eq_true hs]
   simp only[cond_true];rcases Hl v.length l.length with h|h
   ·rw[Ad4 h];simp only[cond_true]
    have hl2:(v++[An4 .i64 k 1]).length=v.length+1:=by simp
    rw[if_pos ⟨by rw[hl2];omega,by rw[hl2];omega⟩,if_pos hs,ih (gt l (An4 .i64 k 1)).Sl _ (w.1 _ (Ahf hs.1 hs.2)).next (by rw[hl2];omega) (by rw[hl2];omega),hl2]
    obtain⟨m,hm⟩: ∃m,l.length - v.length=m+1:=⟨l.length - v.length - 1,by omega⟩
    rw[hm,Ay5,if_pos hs,show l.length - (v.length+1)=m from by omega]
    simp
   ·rw[Ad5 h];rw[show l.length - v.length=0 from by omega]
    simp[Ay5]
  ·rw[show plB l k=false from decide_eq_false hs]
   have:Ay5 l (l.length - v.length) (An4 .i64 k 1)=[]:=by
    cases l.length - v.length with
    |zero=>rfl
    |succ m=>rw[Ay5,if_neg hs]
   rw[this];simp
theorem Bh3{l:List As}(w:Ad1 l): ∀(n:Nat) (k:Int) (v:List Int),v.length≤l.length->l.length - v.length<n->Aue K l n v k=some (v++Ay5 l (l.length - v.length) k):=by
 have hm:=V1
 have hb:l.length*152≤140737488355327:=w.2;intro n
 induction n with
 |zero=>intro k v _ h;omega
 |succ n ih=>
  intro k v hv hn;rw[Aue,A2l K (by omega)]
  simp only[Z0]
  by_cases hs:0≤k∧k<(l.length:Int)
  ·rw[decide_eq_true hs];simp only[cond_true];rcases Hl v.length l.length with h|h
   ·rw[Ad4 h];simp only[cond_true]
    have hl2:(v++[k]).length=v.length+1:=by simp
    rw[if_pos ⟨by rw[hl2];omega,by rw[hl2];omega⟩,if_pos hs,ih _ _ (by rw[hl2];omega) (by rw[hl2];omega),hl2]
    obtain⟨m,hm⟩: ∃m,l.length - v.length=m+1:=⟨l.length - v.length - 1,by omega⟩
    rw[hm,Ay5,if_pos hs,show l.length - (v.length+1)=m from by omega]
    simp
   ·rw[Ad5 h];rw[show l.length - v.length=0 from by omega]
    simp[Ay5]
  ·rw[decide_eq_false hs]
   have:Ay5 l (l.length - v.length) k=[]:=by
    cases l.length - v.length with
    |zero=>rfl
    |succ m=>rw[Ay5,if_neg hs]
   rw[this];simp
include hK
theorem A6u{l:List As}(w:Ad1 l){k:Int}(hk:wfi k):Awk K l k=some (Akt l k):=by
 have hb:=Aew w;unfold Awk Akt
 have:=Bh2 (K:=K) w K k [] hk (Z21 _) (by simp;omega)
 simpa using this
theorem Bcf{l:List As}(w:Ad1 l)(k:Int):Azt K l k=some (Akt l k):=by
 have hb:=Aew w;unfold Azt Akt
 have:=Bh3 (K:=K) w K (An4 .i64 k 1) [] (Z21 _) (by simp;omega)
 simpa using this
def Am6 (w:C4)(x:Az):Bool:= !decide ((x.Ay.length:Int)>0)||Ao6 ((w.fP.N5.drop (gt x.Ay 0*w.fC.G6).toNat).take x.Wv.toNat)
def Awo (w:C4)(x:Az):Bool:=x.Bk==0||(gt w.fL (An4 .i64 x.Bk 1)).Vg==2
def Ayw (w:C4)(x:Az):Bool:=x.Ee==0||(gt w.fL (An4 .i64 x.Ee 1)).Sm==0
def A1w (w:C4)(x:Az):Bool:=x.Ay.all (fun k=>gt w.fP.Vg k==2)
def Asl (w:C4)(x:Az):Bool:=(Akt w.fL x.Ee).all (Axx w.fL)
def Alu (w:C4)(x:Az):Bool:=Ald w.fC x&&(A1w w x&&(Am6 w x&&(Awo w x&&(Ayw w x&&Asl w x))))
theorem A5i{w:C4}(hL:(w.fL.length:Int)=w.fC.E5)(hc:Ahe w.fC=true){n:Int}(h0:n≠0)(h1:0≤n)(h2:n≤w.fC.E5):0≤An4 .i64 n 1∧An4 .i64 n 1<(w.fL.length:Int):=by
 obtain⟨_,_,b3,_⟩:=Gx hc;unfold An4;rw[K0 (by omega) (by omega)]
 omega
theorem A83 (w:C4)(hw:Ak1 w)(hp:Auj w.fC w.fP=true)(hL:(w.fL.length:Int)=w.fC.E5)(i:Nat)(hi:i<w.fQ.length):Aw3 K w i=some (Alu w (gt w.fQ i)):=by
 have hx:=hw.q.1 _ (Ani hi);unfold Aw3;rw[if_pos (Ahl hi)];generalize gt w.fQ i=x at *;rw[A81 hK _ _ hx,Z0,Wx];unfold Alu;cases hr:Ald w.fC x with
 |false=>rfl
 |true=>
 rw[cond_true,Z30];obtain⟨hc,⟨s1,s2⟩,⟨f1,f2⟩,hd,d1,d2⟩:=Aqv hr;obtain⟨_,hm,hst,_⟩:=Atl hp;obtain⟨b1,b2,b3,_⟩:=Gx hc
 have hch:=Atz hd
 have hl:=A0c hK hx.chunks
 have h3:Apa K x.Ee w.fL=some (Asl w x):=by
  unfold Apa Asl
  have hk:=A4f (l:=w.fL) w.fL.length (An4 .i64 x.Ee 1)
  have hin:=A5h (l:=w.fL) w.fL.length (An4 .i64 x.Ee 1);rw[A6u hK hw.l hx.first,Z0];change (Akt w.fL x.Ee).length≤_ at hk;change ∀y∈Akt w.fL x.Ee,_ at hin;generalize Akt w.fL x.Ee=r at *;rw[Asj hK r (by omega) (Axx w.fL) (some true) (Aqe K w.fL r) (fun n i h=> ?_) (fun n=> ?_)]
  ·cases r.all _<;>rfl
  ·rw[Aqe,Ad4 h,cond_true,if_pos (Ahl h),A6s K hw.l (hin _ (Ani h)),Acx (by omega),Z0,Wx,V2 h]
  ·rw[Aqe,Ad5 (Z9 _),cond_false]
 have h2:Ar5 K x.Bk x.Ee w.fL=some (Awo w x&&(Ayw w x&&Asl w x)):=by
  unfold Ar5 Awo Ayw;rw[h3]
  by_cases g1:x.Ee=0
  ·rw[g1]
   by_cases g2:x.Bk=0
   ·rw[g2];rfl
   ·rw[Aq0 g2,Agz g2,cond_true,if_pos (A5i hK hL hc g2 s1 s2)];simp only[bne,Wx,Z52];cases (gt w.fL (An4 .i64 x.Bk 1)).Vg==2<;>rfl
  ·have hF:(bif (x.Ee != 0)then(if(0:Int)≤(An4 .i64 x.Ee 1)∧(An4 .i64 x.Ee 1)<(w.fL.length:Int)then(bif (((gt w.fL (An4 .i64 x.Ee 1)).Sm) != 0)then some false else some (Asl w x))else none)else some (Asl w x))=some ((x.Ee==0||(gt w.fL (An4 .i64 x.Ee 1)).Sm==0)&&Asl w x):=by
    rw[Aq0 g1,Agz g1,cond_true,if_pos (A5i hK hL hc g1 f1 f2)];simp only[bne,Wx,Z52,Akr]
   rw[hF]
   by_cases g2:x.Bk=0
   ·rw[g2];rfl
   ·rw[Aq0 g2,Agz g2,cond_true,if_pos (A5i hK hL hc g2 s1 s2)];simp only[bne,Wx,Z52,Akr]
 rw[Asj hK x.Ay (by omega) (fun k=>gt w.fP.Vg k==2) (some (Am6 w x&&(Awo w x&&(Ayw w x&&Asl w x)))) (fun n i=>Apb K n i x.Bk x.Ee x.Fh x.Ay x.Wv w.fC.Ay w.fC.G6 w.fC.E5 w.fC.Gs w.fC.E6 w.fC.G7 w.fP.N5 w.fP.Vg w.fP.N6 w.fL w.fQ w.Acw) (fun n i h=> ?_) (fun n=> ?_)]
 ·rw[Akr];rfl
 ·simp only[Apb]
  have h5:=hch _ (Ani h);rw[Ad4 h,cond_true,if_pos (Ahl h),if_pos ⟨h5.1,by omega⟩,Acx (by omega),bne,Wx,V2 h]
 ·show Apb K (n+1) _ _ _ _ _ _ _ _ _ _ _ _ _ _ _ _ _ _=_;rw[Apb,Ad5 (Z9 _),cond_false,h2];unfold Am6
  by_cases g:(x.Ay.length:Int)>0
  ·have h5:=hch _ (Ahf (l:=x.Ay) (Int.le_refl 0) (by omega))
   obtain⟨e1,e2,e3,e4⟩:=A2i hc hm h5.1 h5.2
   have e5:An3 .i64 (gt x.Ay 0*w.fC.G6) x.Wv=gt x.Ay 0*w.fC.G6+x.Wv:=by
    have:=Au0 (a:=gt x.Ay 0) (b:=w.fC.G6) (m:=12) (n:=16) h5.1 (by omega) (by omega) b2.2
    unfold An3;rw[K0 (by omega) (by omega)]
   rw[decide_eq_true g,cond_true,if_pos ⟨by omega,by omega⟩,if_pos ⟨by omega,by omega⟩,e1,e5,if_pos ⟨e3,by omega,by omega⟩,A1v hK _ (by simp;omega),show gt x.Ay 0*w.fC.G6+x.Wv - gt x.Ay 0*w.fC.G6=x.Wv by omega]
   simp only[Z0,Wx,Akr,Bool.not_true,Z52]
  ·rw[decide_eq_false g];rfl
end
def Akz (N:Nat)(l:List Int):List Int:=(List.range N).map (fun k:Nat=>((l.count (k:Int):Nat):Int))
theorem A3s (N:Nat)(l:List Int):(Akz N l).length=N:=by simp[Akz]
theorem A1x{N:Nat}{l:List Int}{x:Int}(h0:0≤x)(h1:x<N):gt (Akz N l) x=((l.count x:Nat):Int):=by
 obtain⟨k,rfl⟩: ∃k:Nat,x=k:=⟨x.toNat,by omega⟩
 rw[V2 (by rw[A3s];omega)]
 simp[Akz]
theorem Bcg (N:Nat):Akz N []=List.replicate N 0:=by
 refine List.ext_getElem (by simp[Akz]) fun i h1 h2=> ?_
 simp[Akz]
theorem Bch{N:Nat}{l:List Int}{x:Int}(h0:0≤x)(h1:x<N)(hl:l.length≤140737488355327):(Akz N l).set x.toNat (An3 .i64 (gt (Akz N l) x) 1)=Akz N (l++[x]):=by
 have hc:l.count x≤l.length:=List.count_le_length
 have e:An3 .i64 (gt (Akz N l) x) 1=((l.count x+1:Nat):Int):=by
  rw[A1x h0 h1,Acx (by omega)]
 rw[e];refine List.ext_getElem (by simp[Akz]) fun i h2 h3=> ?_
 rw[List.getElem_set];simp only[Akz,List.getElem_map,List.getElem_range,List.count_append,List.count_singleton]
 by_cases hi:x.toNat=i
 ·rw[if_pos hi]
  have:x=(i:Int):=by omega
  simp[this]
 ·rw[if_neg hi]
  have: ¬x=(i:Int):=by omega
  simp[this]
theorem A7w{C P:List Int}(hs: ∀x∈C,x∈P)(hP:P.Nodup):(∀x∈P,C.count x=1) ↔ (C.Nodup∧C.length=P.length):=by
 constructor
 ·intro h
  have hn:C.Nodup:=by
   rw[List.nodup_iff_count];intro a
   by_cases ha:a∈C
   ·rw[h a (hs a ha)];omega
   ·rw[List.count_eq_zero_of_not_mem ha];omega
  refine⟨hn,?_⟩
  have h1:=Azc hn hs
  have h2:=Azc hP (l:=C) (fun x hx=>List.count_pos_iff.1 (by rw[h x hx];omega))
  omega
 ·rintro⟨hn,hl⟩ x hx
  have hp:=A6o hn hs hl
  have:=hn.count (a:=x);rw[this,if_pos (hp.mem_iff.2 hx)]
def chL (q:List Az):List Int:=q.flatMap (fun x=>x.Ay)
def slL (q:List Az):List Int:=q.flatMap (fun x=>if x.Bk=0 then []else [An4 .i64 x.Bk 1])
def kdL (l:List As)(q:List Az):List Int:=q.flatMap (fun x=>Akt l x.Ee)
theorem A07{α β:Type}(q:List α)(f:α->List β)(i:Nat)(h:i<q.length):(q.take (i+1)).flatMap f=(q.take i).flatMap f++f q[i]:=by
 rw[←List.take_append_getElem h,List.flatMap_append];simp
theorem A5j{α β:Type}(q:List α)(f:α->List β)(m:Nat)(h: ∀x∈q,(f x).length≤m):(q.flatMap f).length≤q.length*m:=by
 induction q with
 |nil=>simp
 |cons x q ih=>
  have h1:=h x (by simp)
  have h2:=ih fun y hy=>h y (by simp[hy])
  simp only[List.flatMap_cons,Z23,Z28,Zb,Nat.one_mul];omega
def A6v (w:C4):List Int:=((List.range w.fP.Vg.length).filter (fun k:Nat=>gt w.fP.Vg k==2)).map (fun k:Nat=>(k:Int))
def A4q (w:C4):List Int:=((List.range w.fL.length).filter (fun k:Nat=>(gt w.fL k).Vg==2)).map (fun k:Nat=>(k:Int))
def A7x (w:C4):List Int:=((List.range w.fL.length).filter (fun k:Nat=>Axx w.fL k)).map (fun k:Nat=>(k:Int))
theorem A4x (N:Nat)(p:Nat->Bool):(((List.range N).filter p).map (fun k:Nat=>(k:Int))).Nodup:=by
 unfold List.Nodup;rw[List.pairwise_map];exact(List.Pairwise.filter _ List.pairwise_lt_range).imp fun h=>by omega
theorem Awp{N:Nat}{p:Nat->Bool}{x:Int}:x∈((List.range N).filter p).map (fun k:Nat=>(k:Int)) ↔ (0≤x∧x<(N:Int))∧p x.toNat=true:=by
 simp only[Ex,List.mem_filter,List.mem_range];constructor
 ·rintro⟨k,⟨h1,h2⟩,rfl⟩;exact⟨⟨by omega,by omega⟩,by simpa using h2⟩
 ·rintro⟨⟨h1,h2⟩,h3⟩;exact⟨x.toNat,⟨by omega,h3⟩,by omega⟩
def Axk (w:C4)(N:Nat):Bool:=
 (List.range w.fP.Vg.length).all (fun k=> !(gt w.fP.Vg k==2)||gt (Akz N (chL w.fQ)) k==1)&&
 (List.range w.fL.length).all (fun k=>(!((gt w.fL k).Vg==2)||gt (Akz w.fL.length (slL w.fQ)) k==1)&&(!Axx w.fL k||gt (Akz w.fL.length (kdL w.fL w.fQ)) k==1))
def A4y (q:List Az)(i k:Nat):Bool:= !((gt q i).Bk != 0&&(gt q k).Bk==(gt q i).Bk)&&(gt q i).Ay.all (fun y=> !(gt q k).Ay.contains y)
def Bak (q:List Az):Bool:=(List.range q.length).all (fun i=>(List.range i).all (fun k=>A4y q i k))
def A6a (l:List Int):Bool:=(List.range l.length).all (fun i=> !(l.take i).contains (gt l i))
def A69 (w:C4):Bool:=
 Bak w.fQ&&(A6a (kdL w.fL w.fQ)&&((((chL w.fQ).length:Int)==((A6v w).length:Int))&&((((slL w.fQ).length:Int)==((A4q w).length:Int))&&(((kdL w.fL w.fQ).length:Int)==((A7x w).length:Int)))))
theorem Bee (l:List Int):A6a l=true ↔ l.Nodup:=by
 rw[A4w];unfold A6a;simp only[Z1,List.mem_range,Z44,List.contains_eq_mem,decide_eq_false_iff_not];exact⟨fun h i hi=>by have:=h i hi;rwa[V2 hi]at this,fun h i hi=>by rw[V2 hi];exact h i hi⟩
theorem Bci{w:C4}{q:List Az}(h1: ∀x∈q,x.Ay.Nodup)(h2: ∀x∈q,0≤x.Bk∧x.Bk≤8):Bak q=true ↔ (chL q).Nodup∧(slL q).Nodup:=by
 unfold chL slL List.Nodup;rw[List.pairwise_flatMap,List.pairwise_flatMap,List.pairwise_iff_getElem,List.pairwise_iff_getElem]
 have hs: ∀x∈q,List.Pairwise (fun a b:Int=>a≠b) (if x.Bk=0 then []else [An4 .i64 x.Bk 1]):=by
  intro x _;split<;>simp
 have hsub: ∀x∈q,An4 .i64 x.Bk 1=x.Bk - 1:=by
  intro x hx;have:=h2 x hx;unfold An4;rw[K0 (by omega) (by omega)]
 unfold Bak A4y;simp only[Z1,List.mem_range,Z4,Z44,List.contains_eq_mem,decide_eq_false_iff_not];constructor
 ·intro h;refine⟨⟨h1,fun i j hi hj hij x hx y hy e=> ?_⟩,hs,fun i j hi hj hij x hx y hy e=> ?_⟩
  ·have:=(h j hj i hij).2;rw[V2 hi,V2 hj]at this;subst e;exact this x hy hx
  ·have:=(h j hj i hij).1;rw[V2 hi,V2 hj]at this;split at hx
   ·cases hx
   ·split at hy
    ·cases hy
    ·rename_i g1 g2;simp only[Px]at hx hy;subst hx;subst hy;rw[hsub _ (List.getElem_mem hi),hsub _ (List.getElem_mem hj)]at e;rw[Aq0 g2,Z30,beq_eq_false_iff_ne]at this;exact this (by omega)
 ·rintro⟨⟨_,h3⟩,_,h4⟩ i hi k hk
  have hk':k<q.length:=by omega
  rw[V2 hi,V2 hk'];refine⟨?_,fun x hx hy=>h3 k i hk' hi hk x hy x hx rfl⟩;rw[Bool.and_eq_false_iff]
  by_cases g:q[i].Bk=0
  ·left;simp[g]
  ·right;rw[beq_eq_false_iff_ne];intro e;refine h4 k i hk' hi hk (An4 .i64 q[k].Bk 1) ?_ (An4 .i64 q[i].Bk 1) ?_ (by rw[e])
   ·rw[if_neg (by rw[e];exact g)];simp
   ·rw[if_neg g];simp
theorem Bvg{w:C4}(hp:Auj w.fC w.fP=true)(hL:(w.fL.length:Int)=w.fC.E5)(hq: ∀x∈w.fQ,Alu w x=true):Axk w w.fC.Ay.toNat=A69 w:=by
 obtain⟨hc,hm,hst,_⟩:=Atl hp;obtain⟨b1,b2,b3,_⟩:=Gx hc
 have hone: ∀x∈w.fQ,(0≤x.Bk∧x.Bk≤w.fC.E5)∧Atq w.fC x.Ay=true∧A1w w x=true∧Awo w x=true∧Asl w x=true:=by
  intro x hx
  have:=hq x hx;unfold Alu at this;simp only[Z4]at this;obtain⟨h1,h2,h3,h4,h5,h6⟩:=this;obtain⟨_,g1,_,g3,_⟩:=Aqv h1;exact⟨g1,g3,h2,h4,h6⟩
 have hC: ∀x∈chL w.fQ,x∈A6v w:=by
  intro y hy;unfold chL at hy;rw[List.mem_flatMap]at hy;obtain⟨x,hx,hy⟩:=hy;obtain⟨_,g2,g3,_⟩:=hone x hx
  have:=Atz g2 y hy;unfold A1w at g3;rw[Z1]at g3
  have g4:=g3 y hy;refine Awp.2 ⟨⟨this.1,by omega⟩,?_⟩
  rw[show((y.toNat:Nat):Int)=y by omega];exact g4
 have hS: ∀x∈slL w.fQ,x∈A4q w:=by
  intro y hy;unfold slL at hy;rw[List.mem_flatMap]at hy;obtain⟨x,hx,hy⟩:=hy;obtain⟨g1,g2,g3,g4,_⟩:=hone x hx;split at hy
  ·cases hy
  ·rename_i g;simp only[Px]at hy;unfold Awo at g4;rw[Agz g,Z52,←hy]at g4
   have:y=x.Bk - 1:=by rw[hy];unfold An4;rw[K0 (by omega) (by omega)]
   refine Awp.2 ⟨⟨by omega,by omega⟩,?_⟩
   rw[show((y.toNat:Nat):Int)=y by omega];exact g4
 have hK2: ∀x∈kdL w.fL w.fQ,x∈A7x w:=by
  intro y hy;unfold kdL at hy;rw[List.mem_flatMap]at hy;obtain⟨x,hx,hy⟩:=hy;obtain⟨g1,g2,g3,g4,g5⟩:=hone x hx;unfold Asl at g5;rw[Z1]at g5
  have:=A5h _ _ y hy;refine Awp.2 ⟨this,?_⟩;rw[show((y.toNat:Nat):Int)=y by omega];exact g5 y hy
 have e1:=A7w hC (A4x _ _)
 have e2:=A7w hS (A4x _ _)
 have e3:=A7w hK2 (A4x _ _)
 have hp2:=Bci (w:=w) (q:=w.fQ) (fun x hx=>Azb (hone x hx).2.1) (fun x hx=>by have:=(hone x hx).1;omega)
 rw[Bool.eq_iff_iff];unfold Axk A69;simp only[Z4,Z1,List.mem_range,Bool.or_eq_true,Z44,beq_iff_eq,Bee,hp2,beq_eq_false_iff_ne]
 have c1:(∀x∈A6v w,(chL w.fQ).count x=1) ↔ ∀k,k<w.fP.Vg.length->gt w.fP.Vg (k:Int)≠2∨gt (Akz w.fC.Ay.toNat (chL w.fQ)) (k:Int)=1:=by
  constructor
  ·intro h k hk
   by_cases g:gt w.fP.Vg (k:Int)=2
   ·right;rw[A1x (by omega) (by omega),h k (Awp.2 ⟨⟨by omega,by omega⟩,by simpa using g⟩)];rfl
   ·left;exact g
  ·intro h x hx;obtain⟨⟨h1,h2⟩,h3⟩:=Awp.1 hx;rw[beq_iff_eq,show((x.toNat:Nat):Int)=x by omega]at h3
   rcases h x.toNat (by omega)with h4|h4
   ·rw[show((x.toNat:Nat):Int)=x by omega]at h4;exact absurd h3 h4
   ·rw[show((x.toNat:Nat):Int)=x by omega,A1x h1 (by omega)]at h4;omega
 have c2:(∀x∈A4q w,(slL w.fQ).count x=1) ↔ ∀k,k<w.fL.length->(gt w.fL (k:Int)).Vg≠2∨gt (Akz w.fL.length (slL w.fQ)) (k:Int)=1:=by
  constructor
  ·intro h k hk
   by_cases g:(gt w.fL (k:Int)).Vg=2
   ·right;rw[A1x (by omega) (by omega),h k (Awp.2 ⟨⟨by omega,by omega⟩,by simpa using g⟩)];rfl
   ·left;exact g
  ·intro h x hx;obtain⟨⟨h1,h2⟩,h3⟩:=Awp.1 hx;rw[beq_iff_eq,show((x.toNat:Nat):Int)=x by omega]at h3
   rcases h x.toNat (by omega)with h4|h4
   ·rw[show((x.toNat:Nat):Int)=x by omega]at h4;exact absurd h3 h4
   ·rw[show((x.toNat:Nat):Int)=x by omega,A1x h1 (by omega)]at h4;omega
 have c3:(∀x∈A7x w,(kdL w.fL w.fQ).count x=1) ↔ ∀k,k<w.fL.length->Axx w.fL (k:Int)=false∨gt (Akz w.fL.length (kdL w.fL w.fQ)) (k:Int)=1:=by
  constructor
  ·intro h k hk;cases g:Axx w.fL (k:Int)with
   |true=>
    right;rw[A1x (by omega) (by omega),h k (Awp.2 ⟨⟨by omega,by omega⟩,by simpa using g⟩)];rfl
   |false=>left;rfl
  ·intro h x hx;obtain⟨⟨h1,h2⟩,h3⟩:=Awp.1 hx;rw[show((x.toNat:Nat):Int)=x by omega]at h3
   rcases h x.toNat (by omega)with h4|h4
   ·rw[show((x.toNat:Nat):Int)=x by omega,h3]at h4;cases h4
   ·rw[show((x.toNat:Nat):Int)=x by omega,A1x h1 (by omega)]at h4;omega
 rw[←c1,e1]
 have hsplit:(∀k,k<w.fL.length->((gt w.fL (k:Int)).Vg≠2∨gt (Akz w.fL.length (slL w.fQ)) (k:Int)=1)∧(Axx w.fL (k:Int)=false∨gt (Akz w.fL.length (kdL w.fL w.fQ)) (k:Int)=1)) ↔ (((slL w.fQ).Nodup∧(slL w.fQ).length=(A4q w).length)∧((kdL w.fL w.fQ).Nodup∧(kdL w.fL w.fQ).length=(A7x w).length)):=by
  rw[←show _ ↔ ((slL w.fQ).Nodup∧(slL w.fQ).length=(A4q w).length) from c2.symm.trans e2,←show _ ↔ ((kdL w.fL w.fQ).Nodup∧(kdL w.fL w.fQ).length=(A7x w).length) from c3.symm.trans e3]
  exact⟨fun h=>⟨fun k hk=>(h k hk).1,fun k hk=>(h k hk).2⟩,fun h k hk=>⟨h.1 k hk,h.2 k hk⟩⟩
 rw[hsplit];constructor
 ·rintro⟨⟨a1,a2⟩,⟨a3,a4⟩,a5,a6⟩;exact⟨⟨a1,a3⟩,a5,by omega,by omega,by omega⟩
 ·rintro⟨⟨a1,a3⟩,a5,a2,a4,a6⟩;exact⟨⟨a1,by omega⟩,⟨a3,by omega⟩,a5,by omega⟩
theorem A7a{α β:Type}{K:Nat}(hK:281474976710656≤K)(l:List α)(hl:l.length≤140737488355328)(q:α->Bool)(fin bad:Option β)(L:Nat->Nat->Option β)
  (hs: ∀n (i:Nat) (h:i<l.length),L (n+1) i=bif q l[i]then L n (i+1)else bad)
  (he: ∀n,L (n+1) l.length=fin):L K 0=bif l.all q then fin else bad:=by
 have:=Bf3 l q fin bad (fun n i=>L n i.toNat) (fun n i h=>by simpa using hs n i h) (fun n=>by simpa using he n) K 0 (Z21 _) (by omega)
 simpa using this
section
variable {K:Nat} (hK:281474976710656≤K)
include hK
theorem Bh4 (w:C4)(hw:Ak1 w):Aba K (Akz w.fL.length (slL w.fQ)) (Akz w.fL.length (kdL w.fL w.fQ)) w.fL K (w.fL.length:Int) 0 w.fL=some ((List.range w.fL.length).all (fun k=>(!((gt w.fL (k:Int)).Vg==2)||gt (Akz w.fL.length (slL w.fQ)) k==1)&&(!Axx w.fL k||gt (Akz w.fL.length (kdL w.fL w.fQ)) k==1))):=by
 have hl:=Aew hw.l
 rw[Apu hK w.fL.length (by omega) (fun k=>(!((gt w.fL (k:Int)).Vg==2)||gt (Akz w.fL.length (slL w.fQ)) k==1)&&(!Axx w.fL k||gt (Akz w.fL.length (kdL w.fL w.fQ)) k==1)) (some true) (fun n i=>Aba K (Akz w.fL.length (slL w.fQ)) (Akz w.fL.length (kdL w.fL w.fQ)) w.fL n (w.fL.length:Int) i w.fL) (fun n i h=> ?_) (fun n=> ?_)]
 ·cases (List.range w.fL.length).all _<;>rfl
 ·simp only[Aba,Ak2];rw[Ad4 h,cond_true,if_pos (Ahl h),A6t K hw.l (Ahl h),Acx (by omega)]
  simp only[Z0,A3s,if_pos (Ahl h),bne,Wx];cases (gt w.fL (i:Int)).Vg==2<;>cases gt (Akz w.fL.length (slL w.fQ)) (i:Int)==1<;>cases Axx w.fL i<;>cases gt (Akz w.fL.length (kdL w.fL w.fQ)) (i:Int)==1<;>rfl
 ·show Aba K _ _ _ (n+1) _ _ _=_;rw[Aba,Ad5 (Z9 _),cond_false]
theorem Bh5 (w:C4)(hw:Ak1 w)(hp:Auj w.fC w.fP=true):Agl K (Akz w.fC.Ay.toNat (chL w.fQ)) (Akz w.fL.length (slL w.fQ)) (Akz w.fL.length (kdL w.fL w.fQ)) w.fP.Vg w.fL K (w.fP.Vg.length:Int) 0 w.fP.Vg=some (Axk w w.fC.Ay.toNat):=by
 obtain⟨hc,hm,hst,_⟩:=Atl hp;obtain⟨b1,_⟩:=Gx hc
 rw[Apu hK w.fP.Vg.length (by omega) (fun k=> !(gt w.fP.Vg k==2)||gt (Akz w.fC.Ay.toNat (chL w.fQ)) k==1) (some ((List.range w.fL.length).all (fun k=>(!((gt w.fL (k:Int)).Vg==2)||gt (Akz w.fL.length (slL w.fQ)) k==1)&&(!Axx w.fL k||gt (Akz w.fL.length (kdL w.fL w.fQ)) k==1)))) (fun n i=>Agl K (Akz w.fC.Ay.toNat (chL w.fQ)) (Akz w.fL.length (slL w.fQ)) (Akz w.fL.length (kdL w.fL w.fQ)) w.fP.Vg w.fL n (w.fP.Vg.length:Int) i w.fP.Vg) (fun n i h=> ?_) (fun n=> ?_)]
 ·rw[Akr];rfl
 ·simp only[Agl,Aqu];rw[Ad4 h,cond_true,if_pos (Ahl h),Acx (by omega)]
  simp only[A3s,if_pos (show(0:Int)≤(i:Int)∧(i:Int)<((w.fC.Ay.toNat:Nat):Int) from⟨by omega,by omega⟩),bne,Wx]
  cases gt w.fP.Vg (i:Int)==2<;>cases gt (Akz w.fC.Ay.toNat (chL w.fQ)) (i:Int)==1<;>rfl
 ·show Agl K _ _ _ _ _ (n+1) _ _ _=_;rw[Agl,Ad5 (Z9 _),cond_false,Bh4 hK w hw]
theorem Bcj{β:Type}(N:Nat)(base l:List Int)(hin: ∀x∈l,0≤x∧x<(N:Int))(hl:base.length+l.length≤140737488355327)(q:Int->Bool)(fin bad:Option β)(L:Nat->List Int->Int->Option β)
  (hs: ∀n v (i:Nat) (h:i<l.length),v.length=N->L (n+1) v (i:Int)=bif q l[i]then L n (v.set (l[i]).toNat (An3 .i64 (gt v l[i]) 1)) ((i+1:Nat):Int)else bad)
  (he: ∀n,L (n+1) (Akz N (base++l)) (l.length:Int)=fin):L K (Akz N base) 0=bif l.all q then fin else bad:=by
 have:=A7a hK l (by omega) q fin bad (fun n i=>L n (Akz N (base++l.take i)) (i:Int)) (fun n i h=> ?_) (fun n=> ?_)
 ·simpa using this
 ·have hb:(base++l.take i).length≤140737488355327:=by simp;omega
  have h1:=hin _ (List.getElem_mem h);rw[hs n _ i h (A3s _ _),Bch h1.1 h1.2 hb,Z31,List.take_append_getElem]
 ·simp only[List.take_length];exact he n
theorem Bef (w:C4)(hw:Ak1 w)(hp:Auj w.fC w.fP=true)(hL:(w.fL.length:Int)=w.fC.E5)(x:Az)(hx:A1f x)(c s d:List Int)(i:Nat)(n:Nat)(hi:i<w.fQ.length)(he:gt w.fQ i=x)
  (hb1:c.length+12≤140737488355327) (hb2:s.length≤140737488355326) (hb3:d.length+8≤140737488355327):
  Ht K (n+1) (Akz w.fC.Ay.toNat c) (Akz w.fL.length s) (Akz w.fL.length d) w.fQ (w.fQ.length:Int) i w.fC.Ay w.fC.G6 w.fC.E5 w.fC.Gs w.fC.E6 w.fC.G7 w.fP.N5 w.fP.Vg w.fP.N6 w.fL w.fQ w.Acw
   =bif Alu w x then Ht K n (Akz w.fC.Ay.toNat (c++x.Ay)) (Akz w.fL.length (s++if x.Bk=0 then []else [An4 .i64 x.Bk 1])) (Akz w.fL.length (d++Akt w.fL x.Ee)) w.fQ (w.fQ.length:Int) ((i+1:Nat):Int) w.fC.Ay w.fC.G6 w.fC.E5 w.fC.Gs w.fC.E6 w.fC.G7 w.fP.N5 w.fP.Vg w.fP.N6 w.fL w.fQ w.Acw else some false:=by
 have hq:=hw.q.2;rw[Ht];rw[show D9.mk w.fC.Ay w.fC.G6 w.fC.E5 w.fC.Gs w.fC.E6 w.fC.G7=w.fC from rfl,show Dm.mk w.fP.N5 w.fP.Vg w.fP.N6=w.fP from rfl]
 rw[Ad4 hi,cond_true,if_pos (Ahl hi),he,A82 hK _ _ hx,Z0];unfold Alu;cases hr:Ald w.fC x with
 |false=>rfl
 |true=>
 rw[cond_true,Z30];obtain⟨hc,⟨s1,s2⟩,⟨f1,f2⟩,hd,d1,d2⟩:=Aqv hr;obtain⟨_,hm,hst,_⟩:=Atl hp;obtain⟨b1,b2,b3,_⟩:=Gx hc
 have hch:=Atz hd
 have hcl:=Asc hc hd
 have h5: ∀s',Aph K (Akz w.fL.length d) w.fQ (w.fQ.length:Int) i w.fC.Ay w.fC.G6 w.fC.E5 w.fC.Gs w.fC.E6 w.fC.G7 w.fP.N5 w.fP.Vg w.fP.N6 w.fL w.fQ w.Acw x.Ee (Akz w.fC.Ay.toNat (c++x.Ay)) s' (Ht K n)
   =bif Asl w x then Ht K n (Akz w.fC.Ay.toNat (c++x.Ay)) s' (Akz w.fL.length (d++Akt w.fL x.Ee)) w.fQ (w.fQ.length:Int) ((i+1:Nat):Int) w.fC.Ay w.fC.G6 w.fC.E5 w.fC.Gs w.fC.E6 w.fC.G7 w.fP.N5 w.fP.Vg w.fP.N6 w.fL w.fQ w.Acw else some false:=by
  intro s'
  have hk:=A4f (l:=w.fL) w.fL.length (An4 .i64 x.Ee 1)
  have hin:=A5h (l:=w.fL) w.fL.length (An4 .i64 x.Ee 1);unfold Aph Asl;rw[Bcf hK hw.l,Z0];change (Akt w.fL x.Ee).length≤_ at hk;change ∀y∈Akt w.fL x.Ee,_ at hin;generalize Akt w.fL x.Ee=r at*
  refine Bcj hK w.fL.length d r hin (by omega) (Axx w.fL) _ _ (fun m v j=>Aiy K w.fQ (w.fQ.length:Int) i w.fC.Ay w.fC.G6 w.fC.E5 w.fC.Gs w.fC.E6 w.fC.G7 w.fP.N5 w.fP.Vg w.fP.N6 w.fL w.fQ w.Acw (Akz w.fC.Ay.toNat (c++x.Ay)) s' r (Ht K n) m v (r.length:Int) j) (fun m v j hj hv=> ?_) (fun m=> ?_)
  ·have hr1:=hin _ (Ani hj);simp only[Aiy];rw[Ad4 hj,cond_true,if_pos (Ahl hj),if_pos (by rw[hv];exact hr1),if_pos (by rw[hv];exact hr1),A6t K hw.l hr1,Acx (by omega),Z0,Wx,V2 hj]
  ·show Aiy K _ _ _ _ _ _ _ _ _ _ _ _ _ _ _ _ _ _ _ (m+1) _ _ _=_;rw[Aiy,Ad5 (Z9 _),cond_false,Acx (by omega)]
 have h4: ∀s',Api K (Akz w.fL.length d) w.fQ (w.fQ.length:Int) i w.fC.Ay w.fC.G6 w.fC.E5 w.fC.Gs w.fC.E6 w.fC.G7 w.fP.N5 w.fP.Vg w.fP.N6 w.fL w.fQ w.Acw x.Ee (Akz w.fC.Ay.toNat (c++x.Ay)) (Ht K n) s'
   =bif Ayw w x&&Asl w x then Ht K n (Akz w.fC.Ay.toNat (c++x.Ay)) s' (Akz w.fL.length (d++Akt w.fL x.Ee)) w.fQ (w.fQ.length:Int) ((i+1:Nat):Int) w.fC.Ay w.fC.G6 w.fC.E5 w.fC.Gs w.fC.E6 w.fC.G7 w.fP.N5 w.fP.Vg w.fP.N6 w.fL w.fQ w.Acw else some false:=by
  intro s';unfold Api Ayw;rw[h5]
  by_cases g:x.Ee=0
  ·rw[g];rfl
  ·rw[decide_eq_true (by omega),cond_true,if_pos (A5i hK hL hc g f1 f2),Agz g]
   simp only[bne,Wx,Z52];cases (gt w.fL (An4 .i64 x.Ee 1)).Sm==0<;>rfl
 have h2:Apj K (Akz w.fC.Ay.toNat c) (Akz w.fL.length s) (Akz w.fL.length d) w.fQ (w.fQ.length:Int) i w.fC.Ay w.fC.G6 w.fC.E5 w.fC.Gs w.fC.E6 w.fC.G7 w.fP.N5 w.fP.Vg w.fP.N6 w.fL w.fQ w.Acw (Ht K n) x.Bk x.Ee x.Fh x.Ay x.Wv
   =bif A1w w x&&(Awo w x&&(Ayw w x&&Asl w x))then Ht K n (Akz w.fC.Ay.toNat (c++x.Ay)) (Akz w.fL.length (s++if x.Bk=0 then []else [An4 .i64 x.Bk 1])) (Akz w.fL.length (d++Akt w.fL x.Ee)) w.fQ (w.fQ.length:Int) ((i+1:Nat):Int) w.fC.Ay w.fC.G6 w.fC.E5 w.fC.Gs w.fC.E6 w.fC.G7 w.fP.N5 w.fP.Vg w.fP.N6 w.fL w.fQ w.Acw else some false:=by
  unfold Apj;rw[Bcj hK w.fC.Ay.toNat c x.Ay (fun y hy=>by have:=hch y hy;omega) (by omega) (fun k=>gt w.fP.Vg k==2)
   (bif Awo w x&&(Ayw w x&&Asl w x)then Ht K n (Akz w.fC.Ay.toNat (c++x.Ay)) (Akz w.fL.length (s++if x.Bk=0 then []else [An4 .i64 x.Bk 1])) (Akz w.fL.length (d++Akt w.fL x.Ee)) w.fQ (w.fQ.length:Int) ((i+1:Nat):Int) w.fC.Ay w.fC.G6 w.fC.E5 w.fC.Gs w.fC.E6 w.fC.G7 w.fP.N5 w.fP.Vg w.fP.N6 w.fL w.fQ w.Acw else some false) (some false)
   (fun m v j=>Ai9 K (Akz w.fL.length s) (Akz w.fL.length d) w.fQ (w.fQ.length:Int) i w.fC.Ay w.fC.G6 w.fC.E5 w.fC.Gs w.fC.E6 w.fC.G7 w.fP.N5 w.fP.Vg w.fP.N6 w.fL w.fQ w.Acw x.Bk x.Ee x.Ay (Ht K n) m v (x.Ay.length:Int) j x.Ay) (fun m v j hj hv=> ?_) (fun m=> ?_)]
  ·unfold A1w;cases x.Ay.all _<;>rfl
  ·have hr1:=hch _ (Ani hj);simp only[Ai9];rw[Ad4 hj,cond_true,if_pos (Ahl hj),if_pos (by rw[hv];omega),if_pos (by rw[hv];omega),if_pos ⟨hr1.1,by omega⟩,Acx (by omega),bne,Wx,V2 hj]
  ·show Ai9 K _ _ _ _ _ _ _ _ _ _ _ _ _ _ _ _ _ _ _ _ _ (m+1) _ _ _ _=_;rw[Ai9,Ad5 (Z9 _),cond_false,h4,h4,A3s];unfold Awo
   by_cases g:x.Bk=0
   ·rw[g,if_pos rfl,List.append_nil];rfl
   ·have hlk:=A5i hK hL hc g s1 s2;rw[decide_eq_true (by omega),cond_true,if_pos hlk,if_pos hlk,if_neg g,Bch hlk.1 hlk.2 (by omega),Agz g]
    simp only[bne,Wx,Z52,if_pos hlk];cases (gt w.fL (An4 .i64 x.Bk 1)).Vg==2<;>rfl
 rw[h2];unfold Am6
 by_cases g:(x.Ay.length:Int)>0
 ·have h5:=hch _ (Ahf (l:=x.Ay) (Int.le_refl 0) (by omega))
  obtain⟨e1,e2,e3,e4⟩:=A2i hc hm h5.1 h5.2
  have hlc:(Aty w.fC w.fP.N5 (gt x.Ay 0)).length=w.fC.G6.toNat:=by unfold Aty;simp;omega
  have htk:List.take (x.Wv - 0).toNat (List.drop (0:Int).toNat (Aty w.fC w.fP.N5 (gt x.Ay 0)))=List.take x.Wv.toNat (List.drop (gt x.Ay 0*w.fC.G6).toNat w.fP.N5):=by
   unfold Aty;simp only[Int.sub_zero,Int.toNat_zero,Z55,List.take_take];rw[Nat.min_eq_left (by omega)]
  rw[decide_eq_true g,cond_true,if_pos ⟨by omega,by omega⟩,A7n hK hc hm h5.1 h5.2,Z0,if_pos ⟨by omega,by omega,by rw[hlc];omega⟩,htk,A3n hK _ (by simp;omega)]
  simp only[Z0,Wx,Bool.not_true,Z52];cases Ao6 (List.take x.Wv.toNat (List.drop (gt x.Ay 0*w.fC.G6).toNat w.fP.N5))<;>cases A1w w x<;>rfl
 ·rw[decide_eq_false g];simp only[cond_false,Bool.not_false,Bool.true_or,Z30]
theorem Bf9 (q:List Az):(slL q).length≤q.length:=by
 have:=A5j q (fun x=>if x.Bk=0 then []else [An4 .i64 x.Bk 1]) 1 (fun x _=>by split<;>simp)
 simpa[slL]using this
theorem Bal (l:List As)(hl:l.length≤8)(q:List Az):(kdL l q).length≤q.length*8:=
 A5j _ _ 8 fun x _=>Vv (A4f _ _) hl
end
theorem Beg{β:Type}(N:Nat)(hN:N≤140737488355327)(q:Nat->Bool)(fin:Int->Option β)(L:Nat->Int->Int->Option β)
  (hs: ∀n (v:Int) (i:Nat),i<N->0≤v->v≤i->L (n+1) v (i:Int)=bif q i then L n (v+1) ((i+1:Nat):Int)else L n v ((i+1:Nat):Int))
  (he: ∀n v,L (n+1) v (N:Int)=fin v):
  ∀(n i:Nat) (v:Int),0≤v->v≤i->i≤N->N - i<n->L n v (i:Int)=fin (v+((((List.range N).drop i).filter q).length:Int)):=by
 intro n
 induction n with
 |zero=>intro i v _ _ _ h;omega
 |succ n ih=>
  intro i v h0 hv hi hn;rcases Hl i N with h|h
  ·rw[hs n v i h h0 hv,Z47 (by simpa using h),List.getElem_range,List.filter_cons]
   cases hq:q i with
   |true=>
    rw[cond_true,ih (i+1) _ (by omega) (by omega) (by omega) (by omega)]
    simp only[if_true,Z28]
    congr 1
    omega
   |false=>
    rw[cond_false,ih (i+1) _ (by omega) (by omega) (by omega) (by omega)]
    simp
  ·obtain rfl:i=N:=by omega
   rw[he,Z48 (by simp)];simp
theorem Bam{v:Int}(h0:0≤v)(h:v≤140737488355328):An3 .i64 v 1=v+1:=by unfold An3;rw[K0 (by omega) (by omega)]
section
variable {K:Nat} (hK:281474976710656≤K)
include hK
theorem Ban (w:C4)(hw:Ak1 w)(hp:Auj w.fC w.fP=true)(hL:(w.fL.length:Int)=w.fC.E5):Ar9 K w=some (w.fQ.all (Alu w)&&Axk w w.fC.Ay.toNat):=by
 obtain⟨hc,hm,hst,_⟩:=Atl hp;obtain⟨b1,b2,b3,_⟩:=Gx hc
 have hq:=hw.q.2
 have key: ∀(n i:Nat),(∀x∈w.fQ.take i,Alu w x=true)->i≤w.fQ.length->w.fQ.length - i<n→
   Ht K n (Akz w.fC.Ay.toNat (chL (w.fQ.take i))) (Akz w.fL.length (slL (w.fQ.take i))) (Akz w.fL.length (kdL w.fL (w.fQ.take i))) w.fQ (w.fQ.length:Int) i w.fC.Ay w.fC.G6 w.fC.E5 w.fC.Gs w.fC.E6 w.fC.G7 w.fP.N5 w.fP.Vg w.fP.N6 w.fL w.fQ w.Acw=some ((w.fQ.drop i).all (Alu w)&&Axk w w.fC.Ay.toNat):=by
  intro n
  induction n with
  |zero=>intro i _ _ h;omega
  |succ n ih=>
   intro i hpre hi hn;rcases Hl i w.fQ.length with h|h
   ·have hb1:(chL (w.fQ.take i)).length≤(w.fQ.take i).length*12:=A5j _ _ 12 fun x hx=>by
     have:=hpre x hx;unfold Alu at this;simp only[Z4]at this;obtain⟨hc,_,_,hd,_⟩:=Aqv this.1;exact Asc hc hd
    have hb2:=Bf9 hK (w.fQ.take i)
    have hb3:=Bal hK w.fL (by omega) (w.fQ.take i)
    rw[List.length_take]at hb1 hb2 hb3;rw[Bef hK w hw hp hL w.fQ[i] (hw.q.1 _ (List.getElem_mem h)) _ _ _ i n h (V2 h) (by omega) (by omega) (by omega),Z47 h,Gc]
    cases hx:Alu w w.fQ[i]with
    |false=>rfl
    |true=>
     rw[cond_true,Z30,←ih (i+1) (fun x hx2=>by
      rw[←List.take_append_getElem h,Mh]at hx2;rcases hx2 with hx2|hx2
      ·exact hpre x hx2
      ·simp only[Px]at hx2;rw[hx2];exact hx) h (by omega)]
     unfold chL slL kdL;rw[A07 _ _ _ h,A07 _ _ _ h,A07 _ _ _ h]
   ·obtain rfl:i=w.fQ.length:=by omega
    rw[Ht,Ad5 (Z9 _),cond_false,List.take_length,Bh5 hK w hw hp,List.drop_length];rfl
 unfold Ar9;rw[if_pos ⟨by omega,by omega,by omega,by omega⟩,if_pos ⟨by omega,by omega,by omega,by omega⟩,if_pos ⟨by omega,by omega,by omega,by omega⟩]
 have:=key K 0 (fun x hx=>by simp at hx) (Z21 _) (by omega)
 rw[List.take_zero,Z55,show chL []=[] from rfl,show slL []=[] from rfl,show kdL w.fL []=[] from rfl,Bcg,Bcg]at this
 rw[←this,show w.fL.length=w.fC.E5.toNat by omega]
 rfl
theorem Bao (p:Dm)(st:Int)(hl:p.Vg.length≤140737488355327):Ayc K p st=some ((((List.range p.Vg.length).filter (fun k:Nat=>gt p.Vg k==st)).length:Nat):Int):=by
 unfold Ayc
 have:=Beg p.Vg.length hl (fun k:Nat=>gt p.Vg k==st) some (fun n v i=>Aop K st n v i p.N5 p.Vg p.N6) (fun n v i hi h0 hv=> ?_) (fun n v=> ?_) K 0 0 (Int.le_refl _) (Int.le_refl _) (Z21 _) (by omega)
 ·simpa using this
 ·simp only[Aop,Avv];rw[Ad4 hi,cond_true,if_pos (Ahl hi),Acx (by omega),Bam h0 (by omega)]
 ·show Aop K st (n+1) v _ _ _ _=_;rw[Aop,Ad5 (Z9 _),cond_false]
theorem A3b (l:List As)(st:Int)(hl:l.length≤140737488355327):Aqc K l st=some ((((List.range l.length).filter (fun k:Nat=>(gt l k).Vg==st)).length:Nat):Int):=by
 unfold Aqc
 have:=Beg l.length hl (fun k:Nat=>(gt l k).Vg==st) some (fun n v i=>Aku K l st n v i) (fun n v i hi h0 hv=> ?_) (fun n v=> ?_) K 0 0 (Int.le_refl _) (Int.le_refl _) (Z21 _) (by omega)
 ·simpa using this
 ·simp only[Aku,Asi];rw[Ad4 hi,cond_true,if_pos (Ahl hi),Acx (by omega),Bam h0 (by omega)]
 ·show Aku K l st (n+1) v _=_;rw[Aku,Ad5 (Z9 _),cond_false]
theorem Beh (w:C4)(hw:Ak1 w)(v1 v2:Int)(v3:List Int)(h3:v3.length≤140737488355327):
  Ag6 K v1 v2 v3 w.fP.N5 w.fP.Vg w.fP.N6 w.fL K 0 0=some (A6a v3&&((v1==((A6v w).length:Int))&&((v2==((A4q w).length:Int))&&((v3.length:Int)==((A7x w).length:Int))))):=by
 have hl:=Aew hw.l
 have hs:=A0c hK hw.p.st
 have h8: ∀v24,Ak6 K v1 v2 v3 w.fP.N5 w.fP.Vg w.fP.N6 w.fL v24 K 0=some (A6a v3&&((v1==((A6v w).length:Int))&&((v2==((A4q w).length:Int))&&((v3.length:Int)==v24)))):=by
  intro v24;rw[Apu hK v3.length (by omega) (fun i=> !(v3.take i).contains (gt v3 i)) (some ((v1==((A6v w).length:Int))&&((v2==((A4q w).length:Int))&&((v3.length:Int)==v24)))) (fun n i=>Ak6 K v1 v2 v3 w.fP.N5 w.fP.Vg w.fP.N6 w.fL v24 n i) (fun n i h=> ?_) (fun n=> ?_)]
  ·rw[Akr];rfl
  ·have hp:(v3.take i).length≤140737488355328:=by simp;omega
   simp only[Ak6];rw[Ad4 h,cond_true,if_pos (Bb6 (by omega)),if_pos (Ahl h),A55,A1c hK _ _ hp,Acx (by omega),Z0,Wx]
  ·show Ak6 K v1 v2 v3 _ _ _ _ v24 (n+1) _=_;rw[Ak6,Ad5 (Z9 _),cond_false,Bao hK _ _ hs,A3b hK _ _ hl];simp only[Z0,Akr];unfold A6v A4q;simp only[Hk]
 have:=Beg w.fL.length hl (fun k:Nat=>Axx w.fL k) (fun v=>some (A6a v3&&((v1==((A6v w).length:Int))&&((v2==((A4q w).length:Int))&&((v3.length:Int)==v))))) (fun n v i=>Ag6 K v1 v2 v3 w.fP.N5 w.fP.Vg w.fP.N6 w.fL n v i) (fun n v i hi h0 hv=> ?_) (fun n v=> ?_) K 0 0 (Int.le_refl _) (Int.le_refl _) (Z21 _) (by omega)
 ·rw[show((0:Nat):Int)=0 from rfl]at this
  rw[this];unfold A7x;simp only[Hk,Z55,Int.zero_add]
 ·simp only[Ag6,Atu];rw[Ad4 hi,cond_true,A6s K hw.l (Ahl hi),Z0,Acx (by omega),Bam h0 (by omega)]
 ·show Ag6 K v1 v2 v3 _ _ _ _ (n+1) v _=_;rw[Ag6,Ad5 (Z9 _),cond_false,h8]
theorem Bck (w:C4)(hw:Ak1 w)(i n:Nat)(hi:i<w.fQ.length)(v1 v2:Int)(v3:List Int)(h1:0≤v1∧v1≤70368744177664)(h2:0≤v2∧v2≤70368744177664)(h3:(v3.length+w.fL.length)*8≤140737488355327)(hcl:(gt w.fQ i).Ay.length≤12):
  Ae0 K (n+1) v1 v2 v3 i w.fC.Ay w.fC.G6 w.fC.E5 w.fC.Gs w.fC.E6 w.fC.G7 w.fP.N5 w.fP.Vg w.fP.N6 w.fL w.fQ w.Acw
   =bif (List.range i).all (fun k=>A4y w.fQ i k)then Ae0 K n (v1+((gt w.fQ i).Ay.length:Int)) (v2+((if(gt w.fQ i).Bk=0 then([]:List Int)else [An4 .i64 (gt w.fQ i).Bk 1]).length:Int)) (v3++Akt w.fL (gt w.fQ i).Ee) ((i+1:Nat):Int) w.fC.Ay w.fC.G6 w.fC.E5 w.fC.Gs w.fC.E6 w.fC.G7 w.fP.N5 w.fP.Vg w.fP.N6 w.fL w.fQ w.Acw else some false:=by
 have hq:=hw.q.2
 have hm:=V1
 have hx:=hw.q.1 _ (Ani hi)
 have hkl:=A4f (l:=w.fL) w.fL.length (An4 .i64 (gt w.fQ i).Ee 1);change (Akt w.fL (gt w.fQ i).Ee).length≤_ at hkl
 have hJ: ∀v17 v18,Arj K v3 i w.fC.Ay w.fC.G6 w.fC.E5 w.fC.Gs w.fC.E6 w.fC.G7 w.fP.N5 w.fP.Vg w.fP.N6 w.fL w.fQ w.Acw (Ae0 K n) v17 v18
   =bif (List.range i).all (fun k=>A4y w.fQ i k)then Ae0 K n v17 v18 (v3++Akt w.fL (gt w.fQ i).Ee) ((i+1:Nat):Int) w.fC.Ay w.fC.G6 w.fC.E5 w.fC.Gs w.fC.E6 w.fC.G7 w.fP.N5 w.fP.Vg w.fP.N6 w.fL w.fQ w.Acw else some false:=by
  intro v17 v18;unfold Arj
  have hlen:(v3++Akt w.fL (gt w.fQ i).Ee).length=v3.length+(Akt w.fL (gt w.fQ i).Ee).length:=by simp
  rw[if_pos (Ahl hi),A6u hK hw.l hx.first,Z0,if_pos ⟨by rw[hlen];omega,by rw[hlen];omega⟩]
  rw[Apu hK i (by omega) (fun k=>A4y w.fQ i k) _ (fun m k=>Ak5 K i w.fC.Ay w.fC.G6 w.fC.E5 w.fC.Gs w.fC.E6 w.fC.G7 w.fP.N5 w.fP.Vg w.fP.N6 w.fL w.fQ w.Acw v17 v18 (Ae0 K n) m (v3++Akt w.fL (gt w.fQ i).Ee) k) (fun m k hk=> ?_) (fun m=> ?_)]
  ·have hk2:k<w.fQ.length:=by omega
   have hlk:=A0c hK (hw.q.1 _ (Ani hk2)).chunks
   have h4: ∀C:List Int->Int->Option Bool,Ari K i w.fQ (v3++Akt w.fL (gt w.fQ i).Ee) k C=bif (gt w.fQ i).Ay.all (fun y=> !(gt w.fQ k).Ay.contains y)then C (v3++Akt w.fL (gt w.fQ i).Ee) ((k+1:Nat):Int)else some false:=by
    intro C;unfold Ari;rw[Asj hK (gt w.fQ i).Ay (by omega) (fun y=> !(gt w.fQ k).Ay.contains y) _ (fun m j=>Ant K i w.fQ (v3++Akt w.fL (gt w.fQ i).Ee) k C m j) (fun m j hj=> ?_) (fun m=> ?_)]
    ·simp only[Ant];rw[if_pos (Ahl hi),Ad4 hj,cond_true,if_pos (Ahl hk2),if_pos (Ahl hj),A1c hK _ _ (by omega),Z0,Acx (by omega),Wx,V2 hj,if_pos (Ahl hi)]
    ·show Ant K i w.fQ _ k C (m+1) _=_;rw[Ant,if_pos (Ahl hi),Ad5 (Z9 _),cond_false,Acx (by omega)]
   simp only[Ak5];rw[Ad4 hk,cond_true,if_pos (Ahl hi),if_pos (Ahl hk2),if_pos (Ahl hi),h4];unfold A4y;cases (gt w.fQ (i:Int)).Bk != 0<;>cases (gt w.fQ (k:Int)).Bk==(gt w.fQ (i:Int)).Bk<;>cases (gt w.fQ i).Ay.all _<;>rfl
  ·show Ak5 K i _ _ _ _ _ _ _ _ _ _ _ _ v17 v18 _ (m+1) _ _=_;rw[Ak5,Ad5 (Z9 _),cond_false,Acx (by omega)]
 rw[Ae0,Ad4 hi,cond_true,if_pos (Ahl hi),if_pos (Ahl hi),hJ,hJ]
 have e1:An3 .i64 v1 ((gt w.fQ i).Ay.length:Int)=v1+((gt w.fQ i).Ay.length:Int):=by unfold An3;rw[K0 (by omega) (by omega)]
 rw[e1,Bam h2.1 (by omega)]
 by_cases g:(gt w.fQ i).Bk=0
 ·rw[if_pos g,g];simp
 ·rw[if_neg g,Aq0 g];simp
theorem Bcl (w:C4)(hw:Ak1 w)(hp:Auj w.fC w.fP=true)(hL:(w.fL.length:Int)=w.fC.E5)(hall: ∀x∈w.fQ,Alu w x=true):Avw K w=some (A69 w):=by
 obtain⟨hc,hm,hst,_⟩:=Atl hp;obtain⟨b1,b2,b3,_⟩:=Gx hc
 have hq:=hw.q.2
 have hc12: ∀x∈w.fQ,x.Ay.length≤12:=fun x hx=>by
  have:=hall x hx;unfold Alu at this;simp only[Z4]at this;obtain⟨hc,_,_,hd,_⟩:=Aqv this.1;exact Asc hc hd
 have h3:=Bal hK w.fL (by omega) w.fQ
 unfold Avw
 have:=A7a hK (List.range w.fQ.length) (by simp;omega) (fun i=>(List.range i).all (fun k=>A4y w.fQ i k)) (Ag6 K ((chL w.fQ).length:Int) ((slL w.fQ).length:Int) (kdL w.fL w.fQ) w.fP.N5 w.fP.Vg w.fP.N6 w.fL K 0 0) (some false)
  (fun n i=>Ae0 K n ((chL (w.fQ.take i)).length:Int) ((slL (w.fQ.take i)).length:Int) (kdL w.fL (w.fQ.take i)) (i:Int) w.fC.Ay w.fC.G6 w.fC.E5 w.fC.Gs w.fC.E6 w.fC.G7 w.fP.N5 w.fP.Vg w.fP.N6 w.fL w.fQ w.Acw) (fun n i h=> ?_) (fun n=> ?_)
 ·rw[List.take_zero,show chL []=[] from rfl,show slL []=[] from rfl,show kdL w.fL []=[] from rfl]at this
  refine Eq.trans this ?_;rw[Beh hK w hw _ _ _ (by omega),Akr]
  rfl
 ·have hi:i<w.fQ.length:=by simpa using h
  have hb1:(chL (w.fQ.take i)).length≤(w.fQ.take i).length*12:=A5j _ _ 12 fun x hx=>hc12 x (Z42 hx)
  have hb2:=Bf9 hK (w.fQ.take i)
  have hb3:=Bal hK w.fL (by omega) (w.fQ.take i)
  rw[List.length_take]at hb1 hb2 hb3;simp only[List.getElem_range];rw[Bck hK w hw i n hi _ _ _ ⟨by omega,by omega⟩ ⟨by omega,by omega⟩ (by omega) (hc12 _ (Ani hi))]
  unfold chL slL kdL;rw[A07 _ _ _ hi,A07 _ _ _ hi,A07 _ _ _ hi,V2 hi,Z23,Z23];rfl
 ·rw[List.length_range,List.take_length,Ae0,Ad5 (Z9 _),cond_false]
end
def Ash (w:C4):Bool:=
 Auj w.fC w.fP&&(((w.fL.length:Int)==w.fC.E5)&&((List.range w.fL.length).all (A3o w)&&(A6r w.fL&&((w.fQ.all (Alu w)&&Axk w w.fC.Ay.toNat)&&w.Acw.all (fun x=>inB x 0 255)))))
section
variable {K:Nat} (hK:281474976710656≤K)
include hK
theorem A01 (w:C4)(hw:Ak1 w):Avh K w=some (Ash w):=by
 have hl:=A0c hK hw.log;unfold Avh Ash;rw[Bb4 hK,Z0];cases hp:Auj w.fC w.fP with
 |false=>rfl
 |true=>
 rw[cond_true,Z30];cases hL:(w.fL.length:Int)==w.fC.E5 with
 |false=>rfl
 |true=>
 rw[beq_iff_eq]at hL;rw[cond_true,Z30,Bag hK w hw hp,Bce hK hw.l,Ban hK w hw hp hL,A18 hK _ (by omega)]
 simp only[Z0,Akr]
theorem Av9 (w:C4)(hw:Ak1 w):Ark K w=some (Ash w):=by
 have hl:=A0c hK hw.log
 have hl2:=Aew hw.l
 have hq:=hw.q.2;unfold Ark Ash;rw[A6n hK,Z0];cases hp:Auj w.fC w.fP with
 |false=>rfl
 |true=>
 rw[cond_true,Z30];cases hL:(w.fL.length:Int)==w.fC.E5 with
 |false=>rw[bne,hL];rfl
 |true=>
 rw[bne,hL,Bool.not_true,cond_false,Z30,Bcd hK hw.l,Z0,Wx];rw[beq_iff_eq]at hL
 have e1:D9.mk w.fC.Ay w.fC.G6 w.fC.E5 w.fC.Gs w.fC.E6 w.fC.G7=w.fC:=rfl
 have e2:C4.mk (D9.mk w.fC.Ay w.fC.G6 w.fC.E5 w.fC.Gs w.fC.E6 w.fC.G7) (Dm.mk w.fP.N5 w.fP.Vg w.fP.N6) w.fL w.fQ w.Acw=w:=rfl
 have h3:w.fQ.all (Alu w)=true->Aor K w.fC.Ay w.fC.G6 w.fC.E5 w.fC.Gs w.fC.E6 w.fC.G7 w.fP.N5 w.fP.Vg w.fP.N6 w.fL w.fQ w.Acw K 0=some (w.Acw.all (fun x=>inB x 0 255)&&Axk w w.fC.Ay.toNat):=by
  intro hall;rw[Z1]at hall;rw[Bvg hp hL hall];rw[Asj hK w.Acw (by omega) (fun x=>inB x 0 255) (some (A69 w)) (Aor K w.fC.Ay w.fC.G6 w.fC.E5 w.fC.Gs w.fC.E6 w.fC.G7 w.fP.N5 w.fP.Vg w.fP.N6 w.fL w.fQ w.Acw) (fun n i h=> ?_) (fun n=> ?_)]
  ·rw[Akr]
  ·rw[Aor,Ad4 h,cond_true,if_pos (Ahl h),Anm,Acx (by omega),Z0,Wx,V2 h]
  ·rw[Aor,Ad5 (Z9 _),cond_false,e2,Bcl hK w hw hp hL hall,Z0]
 have h2:Apz K w.fC.Ay w.fC.G6 w.fC.E5 w.fC.Gs w.fC.E6 w.fC.G7 w.fP.N5 w.fP.Vg w.fP.N6 w.fL w.fQ w.Acw K 0=some (w.fQ.all (Alu w)&&(w.Acw.all (fun x=>inB x 0 255)&&Axk w w.fC.Ay.toNat)):=by
  rw[Asj hK w.fQ (by omega) (Alu w) (Aor K w.fC.Ay w.fC.G6 w.fC.E5 w.fC.Gs w.fC.E6 w.fC.G7 w.fP.N5 w.fP.Vg w.fP.N6 w.fL w.fQ w.Acw K 0) (Apz K w.fC.Ay w.fC.G6 w.fC.E5 w.fC.Gs w.fC.E6 w.fC.G7 w.fP.N5 w.fP.Vg w.fP.N6 w.fL w.fQ w.Acw) (fun n i h=> ?_) (fun n=> ?_)]
  ·cases hall:w.fQ.all (Alu w)with
   |false=>rfl
   |true=>rw[cond_true,h3 hall];rfl
  ·rw[Apz,Ad4 h,cond_true,e2,A83 hK w hw hp hL i h,Acx (by omega),Z0,Wx,V2 h]
  ·rw[Apz,Ad5 (Z9 _),cond_false]
 have h1:Aos K K 0 w.fC.Ay w.fC.G6 w.fC.E5 w.fC.Gs w.fC.E6 w.fC.G7 w.fP.N5 w.fP.Vg w.fP.N6 w.fL w.fQ w.Acw=some ((List.range w.fL.length).all (A3o w)&&(w.fQ.all (Alu w)&&(w.Acw.all (fun x=>inB x 0 255)&&Axk w w.fC.Ay.toNat))):=by
  rw[Apu hK w.fL.length (by omega) (A3o w) (some (w.fQ.all (Alu w)&&(w.Acw.all (fun x=>inB x 0 255)&&Axk w w.fC.Ay.toNat))) (fun n i=>Aos K n i w.fC.Ay w.fC.G6 w.fC.E5 w.fC.Gs w.fC.E6 w.fC.G7 w.fP.N5 w.fP.Vg w.fP.N6 w.fL w.fQ w.Acw) (fun n k hk=> ?_) (fun n=> ?_)]
  ·rw[Akr]
  ·simp only[Aos];rw[e2,e1]
   have hn:=hw.l.1 _ (Ani hk)
   have l1:=A0c hK hn.chunks
   have l2:=Bf7 hK hn.things
   have l3:=A0c hK hn.tags;rw[Ad4 hk,cond_true,if_pos (Ahl hk),Avn hK _ _ l1 l2 l3,Z0,A7r hK w k hk hw.p.st.2 l1,Acx (by omega),A8z hK _ _ l1 l2]
   simp only[Z0];unfold A3o;cases hb:Aqg w.fC (gt w.fL k)with
   |false=>rfl
   |true=>
   cases Azy w.fP k (gt w.fL k).Ay with
   |false=>rfl
   |true=>
   cases hi:(gt w.fL k).F4.all (Aq2 w.fC (gt w.fL k).Ay)with
   |false=>simp only[cond_true,Z30,Bool.false_and,cond_false,if_pos (Ahl hk)]
   |true=>
   have hs:=A7s hi;rw[A8w hK _ l2 (fun t ht=>(hs t ht).1),Bd8 hK w k hk hp hn hb hs];simp only[Z0,cond_true,Wx,Z30,if_pos (Ahl hk)];cases Ane (gt w.fL k).F4<;>cases Ap3 w.fC w.fP.N5 (gt w.fL k)<;>rfl
  ·show Aos K (n+1) _ _ _ _ _ _ _ _ _ _ _ _ _=_;rw[Aos,Ad5 (Z9 _),cond_false,h2]
 rw[h1];cases A6r w.fL with
 |false=>rw[cond_false];simp
 |true=>
  simp only[cond_true,Z30,Z7]
  ac_rfl
end
theorem Bmn{n:Nat}(h:n≤reachBytes):n≤140737488355327:=by simp only[reachBytes]at h;omega
section
variable {K:Nat} (hK:281474976710656≤K)
include hK
end
theorem By0{x:Int}(h:Bb3 x):0≤x∧x≤255:=by
 simpa[Bb3,Lit.wf,IntKind.min,IntKind.max,IntKind.signed,IntKind.bits]using h
theorem Bh6{l:List Int}(h:Baa l):Bd6 l:=⟨fun x hx=>By0 (h.1 x hx),by have:=Bmn h.2.1;omega⟩
theorem B1i{α:Type}(l:List α)(i:Nat)(x y:α):(l.set i x).set i y=l.set i y:=List.set_set ..
section
variable {K:Nat} (hK:281474976710656≤K)
include hK
def one{α:Type}(_:α):Nat:=1
def A1k (x:As):Nat:=10+x.Ay.length+3*x.F4.length+x.Fh.length
def Bei (p:Dm):Nat:=p.N5.length+p.Vg.length+p.N6.length
end
section
variable {K:Nat} (hK:281474976710656≤K)
include hK
theorem A7b{α β:Type}(l:List α)(hl:l.length≤140737488355327)(fin:Option β)(L:Nat->List α->Int->Option β)
  (hs: ∀n v (i:Nat) (h:i<l.length),v.length=i->L (n+1) v (i:Int)=L n (v++[l[i]]) ((i+1:Nat):Int))
  (he: ∀n,L (n+1) l (l.length:Int)=fin):L K [] 0=fin:=by
 have:=A7a hK l (by omega) (fun _=>true) fin none (fun n i=>L n (l.take i) (i:Int)) (fun n i h=>by
  rw[hs n _ i h (by simp;omega),List.take_append_getElem];rfl) (fun n=>by rw[List.take_length];exact he n)
 rw[Z1.2 (fun _ _=>rfl)]at this;simpa using this
omit hK in
theorem A1y (K:Nat){p:Dm}(w:A2k p):Aqx K p=some p:=by
 have hm:=V1
 have h1:=w.mem.2
 have h2:=w.st.2
 have h3:=w.own.2;unfold Aqx;simp only[Z38];rw[if_pos ⟨by omega,by omega⟩,if_pos ⟨by omega,by omega⟩,if_pos ⟨by omega,by omega⟩]
omit hK in
theorem Atr (K:Nat){n:As}(w:Arm n):Ang K n=some n:=by
 have hm:=V1
 have h1:=w.chunks.2
 have h2:=w.things.2
 have h3:=w.tags.2;unfold Ang;simp only[Z38];rw[if_pos ⟨by omega,by omega⟩,if_pos ⟨by omega,by omega⟩,if_pos ⟨by omega,by omega⟩]
theorem A23{l:List As}(w:Ad1 l):Att K l=some l:=by
 have hm:=V1
 have h2:=w.2;unfold Att;refine A7b hK l (Aew w) (some l) (fun n v i=>Ard K l n v i) (fun n v i h hv=> ?_) (fun n=> ?_)
 ·have hl:(v++[l[i]]).length=i+1:=by simp[hv]
  simp only[Ard];rw[Ad4 h,cond_true,if_pos (Ahl h),V2 h,Atr K (w.1 _ (List.getElem_mem h)),Z0,if_pos ⟨by rw[hl];omega,by rw[hl];omega⟩,Acx (by omega)]
 ·show Ard K l (n+1) _ _=_;rw[Ard,Ad5 (Z9 _),cond_false]
omit hK in
theorem Bap (K:Nat){x:Az}(w:A1f x):Ayb K x=some x:=by
 have hm:=V1
 have h1:=w.tags.2
 have h2:=w.chunks.2;unfold Ayb;simp only[Z38];rw[if_pos ⟨by omega,by omega⟩,if_pos ⟨by omega,by omega⟩]
theorem At0{w:C4}(hw:Ak1 w):Ap8 K w=some w:=by
 have hm:=V1
 have h2:=hw.q.2
 have h3:=hw.log.2;unfold Ap8;rw[A1y K hw.p,Z0,A23 hK hw.l,Z0]
 refine A7b hK w.fQ (by omega) (some w) (fun n v i=>Apx K n i w.fC.Ay w.fC.G6 w.fC.E5 w.fC.Gs w.fC.E6 w.fC.G7 w.fP.N5 w.fP.Vg w.fP.N6 w.fL v w.Acw (C4.mk (D9.mk 0 0 0 0 0 0) (Dm.mk [] [] []) [] [] []) w.fC.Ay w.fC.G6 w.fC.E5 w.fC.Gs w.fC.E6 w.fC.G7 w.fP.N5 w.fP.Vg w.fP.N6 w.fL w.fQ w.Acw) (fun n v i h hv=> ?_) (fun n=> ?_)
 ·have hl:(v++[w.fQ[i]]).length=i+1:=by simp[hv]
  simp only[Apx];rw[Ad4 h,cond_true,if_pos (Ahl h),V2 h,Bap K (hw.q.1 _ (List.getElem_mem h)),Z0,if_pos ⟨by rw[hl];omega,by rw[hl];omega⟩,Acx (by omega)]
 ·show Apx K (n+1) _ _ _ _ _ _ _ _ _ _ _ _ _ _ _ _ _ _ _ _ _ _ _ _ _ _=_;rw[Apx,Ad5 (Z9 _),cond_false];simp only[Z38];rw[if_pos ⟨by omega,by omega⟩]
omit hK in
theorem A84 (K:Nat){p:Dm}(w:A2k p):Axc K p=some p:=by
 unfold Axc;rw[A21 K w.mem.2,Axw K w.st.2,Axw K w.own.2];rfl
omit hK in
theorem A85 (K:Nat){n:As}(w:Arm n):Axd K n=some n:=by
 unfold Axd;rw[Axw K w.chunks.2,Bb9 K w.things.2,Axw K w.tags.2];rfl
theorem A7y{l:List As}(w:Ad1 l):Av4 K l=some l:=by
 have hm:=V1
 have h2:=w.2;unfold Av4;refine A7b hK l (Aew w) (some l) (fun n v i=>Anv K l n v (l.length:Int) i) (fun n v i h hv=> ?_) (fun n=> ?_)
 ·have hl:(v++[l[i]]).length=i+1:=by simp[hv]
  simp only[Anv];rw[Ad4 h,cond_true,if_pos (Ahl h),V2 h,A85 K (w.1 _ (List.getElem_mem h)),Z0,if_pos ⟨by rw[hl];omega,by rw[hl];omega⟩,Acx (by omega)]
 ·show Anv K l (n+1) _ _ _=_;rw[Anv,Ad5 (Z9 _),cond_false]
omit hK in
theorem A7z (K:Nat){x:Az}(w:A1f x):Av5 K x=some x:=by
 unfold Av5;rw[Axw K w.tags.2,Axw K w.chunks.2];rfl
theorem Bmo{α:Type}(v:List α)(d x:α):(v++[d]).set (v.length:Int).toNat x=v++[x]:=by
 rw[Int.toNat_natCast,List.set_append_right _ _ (Z9 _)];simp
theorem Arn{w:C4}(hw:Ak1 w):Aq8 K w=some w:=by
 have hm:=V1
 have h2:=hw.q.2;unfold Aq8;rw[A84 K hw.p,Z0,A7y hK hw.l,Z0,Axw K hw.log.2,Z0];refine A7b hK w.fQ (by omega) (some w) (fun n v i=>Anw K n w.fQ (w.fQ.length:Int) i (C4.mk w.fC w.fP w.fL v w.Acw) (C4.mk (D9.mk 0 0 0 0 0 0) (Dm.mk [] [] []) [] [] [])) (fun n v i h hv=> ?_) (fun n=> ?_)
 ·simp only[Anw];rw[Ad4 h,cond_true,if_pos (Ahl h),V2 h,A7z K (hw.q.1 _ (List.getElem_mem h)),Z0,if_pos ⟨by omega,by omega⟩,Acx (by omega),Bmo hK]
 ·show Anw K (n+1) _ _ _ _ _=_;rw[Anw,Ad5 (Z9 _),cond_false]
end
theorem A70 (K:Nat)(r:Bq): ∃t,Avz K r=some t∧A0v K r=some t:=by
 unfold Avz A0v;rw[A2a,A4p];simp only[Z0];cases Aul r.fH<;>cases decide (r.Sj≥0)<;>exact⟨_,rfl,rfl⟩
theorem Baq (K:Nat){n:As}(hn:Arm n)(r:Bq): ∃t,As5 K n r=some t∧Avj K n r=some t∧ThingW t.1:=by
 have wz:ThingW (Bc.mk 0 0 0):=⟨⟨by decide,by decide⟩,⟨by decide,by decide⟩,⟨by decide,by decide⟩⟩
 have h2:=hn.things
 have hl:n.F4.length≤140737488355327:=by have:=h2.2;omega
 unfold As5 Avj;rw[Ayu K hl,A9h K hl];simp only[Z0]
 by_cases hs:0≤r.fNo∧r.fNo<(n.F4.length:Int)
 ·rw[decide_eq_true hs,if_pos hs]
  have wt:=h2.1 _ (Ahf hs.1 hs.2);cases n.Vg != 1<;>cases n.Sj != r.Sj<;>first|exact⟨_,rfl,rfl,wz⟩|exact⟨_,rfl,rfl,wt⟩
 ·rw[decide_eq_false hs];cases n.Vg != 1<;>cases n.Sj != r.Sj<;>exact⟨_,rfl,rfl,wz⟩
theorem Ayx{K:Nat}(hK:281474976710656≤K){w:C4}(hw:Ad1 w.fL)(r:Bq): ∃t,Aow K w r=some t∧Abh K w r=some t∧ThingW t.2.1:=by
 have wz:ThingW (Bc.mk 0 0 0):=⟨⟨by decide,by decide⟩,⟨by decide,by decide⟩,⟨by decide,by decide⟩⟩
 unfold Aow Abh;obtain⟨t,h1,h2⟩:=A70 K r;rw[h1,h2,Asg hK hw,A2b hK hw];simp only[Z0];cases t with
 |false=>exact⟨_,rfl,rfl,wz⟩
 |true=>
  try simp only[cond_true]
  by_cases h0:(Ans w.fL r.fH).2=0
  ·have hi:=A7u h0;rw[if_pos hi,if_pos hi,h0];obtain⟨q,h3,h4,h5⟩:=Baq K (hw.1 _ (Ahf hi.1 hi.2)) r;rw[h3,h4];simp only[Z0];cases q.2<;>first|exact⟨_,rfl,rfl,wz⟩|exact⟨_,rfl,rfl,h5⟩
  ·have:((Ans w.fL r.fH).2 != 0)=true:=by simpa using h0
   rw[this];exact⟨_,rfl,rfl,wz⟩
def A5k (mem:List Int)(p n:Int):List Int×Bool:=if 0≤p∧0≤n∧p+n≤(mem.length:Int)then((mem.drop p.toNat).take n.toNat,true)else([],false)
theorem Bar{mem:List Int}(a b:Nat):((mem.drop a).take b).length≤mem.length:=by simp;omega
theorem Bcm (K:Nat){mem:List Int}(hl:mem.length≤140737488355327)(p n:Int):Avd K mem p n=some (decide (0≤p∧0≤n∧p+n≤(mem.length:Int))):=by
 unfold Avd
 by_cases h1:(0:Int)≤p
 ·rw[decide_eq_true (show p≥0 from h1)]
  by_cases h2:(0:Int)≤n
  ·rw[decide_eq_true (show n≥0 from h2)]
   by_cases h3:p≤(mem.length:Int)
   ·rw[decide_eq_true h3];simp only[cond_true,Z7,decide_eq_decide];unfold An4;rw[K0 (by omega) (by omega)]
    omega
   ·rw[decide_eq_false h3];simp only[cond_true,cond_false,Z7];exact(decide_eq_false (by omega)).symm
  ·rw[decide_eq_false (show ¬n≥0 from h2)]
   simp only[cond_true,cond_false,Z7];exact(decide_eq_false (by omega)).symm
 ·rw[decide_eq_false (show ¬p≥0 from h1)]
  simp only[cond_false,Z7];exact(decide_eq_false (by omega)).symm
theorem Bej (K:Nat){m:Nat}(hl:m≤140737488355327)(p n:Int):Ay7 K (m:Int) p n=some (decide (0≤p∧0≤n∧p+n≤(m:Int))):=by
 unfold Ay7 Wy
 by_cases h2:(0:Int)≤n
 ·rw[decide_eq_true (show n≥0 from h2)]
  by_cases h3:n≤(m:Int)
  ·rw[decide_eq_true h3]
   by_cases h1:(0:Int)≤p
   ·rw[decide_eq_true (show p≥0 from h1)]
    simp only[cond_true,Z0,Z7,decide_eq_decide];unfold An4;rw[K0 (by omega) (by omega)]
    omega
   ·rw[decide_eq_false (show ¬p≥0 from h1)]
    simp only[cond_true,cond_false,Z0,Z7];exact(decide_eq_false (by omega)).symm
  ·rw[decide_eq_false h3];simp only[cond_true,cond_false,Z7];exact(decide_eq_false (by omega)).symm
 ·rw[decide_eq_false (show ¬n≥0 from h2)]
  simp only[cond_false,Z7];exact(decide_eq_false (by omega)).symm
theorem Bek (K:Nat){mem:List Int}(hl:mem.length≤140737488355327)(p n:Int):A0n K mem p n=some (A5k mem p n):=by
 unfold A0n A5k;rw[Bcm K hl];simp only[Z0]
 by_cases h:0≤p∧0≤n∧p+n≤(mem.length:Int)
 ·rw[decide_eq_true h,if_pos h]
  try simp only[cond_true]
  have e:An3 .i64 p n=p+n:=by unfold An3;rw[K0 (by omega) (by omega)]
  have hc:=Bar (mem:=mem) p.toNat (p+n - p).toNat;rw[e,if_pos ⟨by omega,by omega,by omega⟩,if_pos ⟨by simp only[Z38,Nat.mul_one];omega,by simp only[Z38,maxLen];omega⟩]
  rw[show p+n - p=n from by omega]
  rfl
 ·rw[decide_eq_false h,if_neg h];rfl
theorem Bel (K:Nat){mem:List Int}(hl:mem.length≤140737488355327)(p n:Int):A0y K mem p n=some (A5k mem p n):=by
 unfold A0y A5k;rw[Bej K hl];simp only[Z0]
 by_cases h:0≤p∧0≤n∧p+n≤(mem.length:Int)
 ·rw[decide_eq_true h,if_pos h]
  try simp only[cond_true]
  have e:An3 .i64 p n=p+n:=by unfold An3;rw[K0 (by omega) (by omega)]
  have hc:=Bar (mem:=mem) p.toNat (p+n - p).toNat;rw[e,if_pos ⟨by omega,by omega,by omega⟩,A21 K (by omega)]
  rw[show p+n - p=n from by omega]
  rfl
 ·rw[decide_eq_false h,if_neg h];rfl
def Axy (mem:List Int)(t:Bc)(at_ n:Int):List Int×Bool:=if 0≤at_∧0≤n∧at_+n≤t.Ajk then A5k mem (An3 .i64 t.fAt at_) n else([],false)
theorem Bmp{mem:List Int}{p n:Int}(h:p<0):A5k mem p n=([],false):=by unfold A5k;rw[if_neg (by omega)]
theorem A3t (K:Nat){mem:List Int}(hl:mem.length≤140737488355327){t:Bc}(wt:ThingW t)(at_ n:Int):Av0 K mem t at_ n=some (Axy mem t at_ n):=by
 obtain⟨wl1,wl2⟩:=wt.2.1;unfold Av0 Aye Axy
 by_cases h1:(0:Int)≤at_
 ·rw[decide_eq_true (show at_≥0 from h1)]
  by_cases h2:(0:Int)≤n
  ·rw[decide_eq_true (show n≥0 from h2)]
   by_cases h3:at_≤t.Ajk
   ·rw[decide_eq_true h3]
    have e:An4 .i64 t.Ajk at_=t.Ajk - at_:=by unfold An4;rw[K0 (by omega) (by omega)]
    rw[e]
    by_cases h4:n≤t.Ajk - at_
    ·rw[decide_eq_true h4,if_pos ⟨h1,h2,by omega⟩]
     simp only[cond_true,Bek K hl];cases decide (t.fAt<0)with
     |true=>rfl
     |false=>
      by_cases h5:(0:Int)≤An3 .i64 t.fAt at_
      ·rw[decide_eq_true (show An3 .i64 t.fAt at_≥0 from h5)];rfl
      ·rw[decide_eq_false (show ¬An3 .i64 t.fAt at_≥0 from h5),Bmp (by omega)];rfl
    ·rw[decide_eq_false h4,if_neg (by omega)];rfl
   ·rw[decide_eq_false h3,if_neg (by omega)];rfl
  ·rw[decide_eq_false (show ¬n≥0 from h2),if_neg (by omega)];rfl
 ·rw[decide_eq_false (show ¬at_≥0 from h1),if_neg (by omega)];rfl
theorem A71 (K:Nat){mem:List Int}(hl:mem.length≤140737488355327){t:Bc}(wt:ThingW t)(at_ n:Int):
  ∃r,Avk K mem t at_ n=some r∧r.2=decide ((0≤at_∧0≤n∧at_+n≤t.Ajk)∧0≤An3 .i64 t.fAt at_∧An3 .i64 t.fAt at_+n≤(mem.length:Int))∧(r.2=true->r.1=An3 .i64 t.fAt at_):=by
 obtain⟨wl1,wl2⟩:=wt.2.1;unfold Avk
 by_cases h1:at_<0
 ·rw[decide_eq_true h1];exact⟨_,rfl,(decide_eq_false (by omega)).symm,fun h=>by cases h⟩
 ·rw[decide_eq_false h1]
  by_cases h2:n<0
  ·rw[decide_eq_true h2];exact⟨_,rfl,(decide_eq_false (by omega)).symm,fun h=>by cases h⟩
  ·rw[decide_eq_false h2]
   by_cases h3:n>t.Ajk
   ·rw[decide_eq_true h3];exact⟨_,rfl,(decide_eq_false (by omega)).symm,fun h=>by cases h⟩
   ·rw[decide_eq_false h3]
    have e:An4 .i64 t.Ajk n=t.Ajk - n:=by unfold An4;rw[K0 (by omega) (by omega)]
    rw[e]
    by_cases h4:at_>t.Ajk - n
    ·rw[decide_eq_true h4];exact⟨_,rfl,(decide_eq_false (by omega)).symm,fun h=>by cases h⟩
    ·rw[decide_eq_false h4]
     by_cases h5:An3 .i64 t.fAt at_<0
     ·rw[decide_eq_true h5];exact⟨_,rfl,(decide_eq_false (by omega)).symm,fun h=>by cases h⟩
     ·rw[decide_eq_false h5,Bej K hl];refine⟨_,rfl,?_,fun _=>rfl⟩;simp only[decide_eq_decide];omega
theorem A3u (K:Nat){mem:List Int}(hl:mem.length≤140737488355327){t:Bc}(wt:ThingW t)(at_ n:Int):Av6 K mem t at_ n=some (Axy mem t at_ n):=by
 obtain⟨r,h1,h2,h3⟩:=A71 K hl wt at_ n;unfold Av6 Axy;rw[h1];simp only[Z0]
 by_cases hc:0≤at_∧0≤n∧at_+n≤t.Ajk
 ·rw[if_pos hc]
  by_cases hd:0≤An3 .i64 t.fAt at_∧An3 .i64 t.fAt at_+n≤(mem.length:Int)
  ·have e:r.2=true:=by rw[h2];exact decide_eq_true ⟨hc,hd⟩
   rw[e,h3 e,Bel K hl];rfl
  ·have e:r.2=false:=by rw[h2];exact decide_eq_false (fun h=>hd h.2)
   rw[e];unfold A5k;rw[if_neg (by omega)];rfl
 ·have e:r.2=false:=by rw[h2];exact decide_eq_false (fun h=>hc h.1)
  rw[e,if_neg hc];rfl
theorem A6b{mem:List Int}{t:Bc}{at_ n:Int}:(Axy mem t at_ n).1.length≤mem.length:=by
 unfold Axy A5k;split
 ·split
  ·exact Bar _ _
  ·exact Z21 _
 ·exact Z21 _
def A0d (w:C4)(h:Am):Int:=((Aib w.fL w.fL.length (Anz w.fL h)).length:Int)
theorem Bem{l:List As}(hl:l.length≤140737488355327)(h:Am):wfi (Anz l h):=by
 by_cases h0:Anz l h<0
 ·unfold Anz at *;split at h0
  ·rename_i h1;rw[if_pos h1]at *;obtain⟨⟨a,b⟩,_⟩:=h1;exact⟨by omega,by omega⟩
  ·rename_i h1;rw[if_neg h1];exact⟨by omega,by omega⟩
 ·have:=A57 h0;exact⟨by omega,by omega⟩
section
variable {K:Nat} (hK:281474976710656≤K)
include hK
theorem Awa (w:C4)(hw:Ad1 w.fL)(h:Am):Ao7 K w h=some (A0d w h):=by
 have hl:=Aew hw;unfold Ao7 Awe;rw[A00 K hl,Z0,A22 hK hw _ (Bem hl h)];rfl
theorem A4g (w:C4)(hw:Ad1 w.fL)(h:Am):Awn K w h=some (A0d w h):=by
 have hl:=Aew hw;unfold Awn A16;rw[A5g K hl,Z0,A4u hK hw];rfl
def A0e (code Ep:Int)(b:List Int):Es:=Es.mk code (Am.mk 0 0) (Bq.mk (Am.mk 0 0) 0 0) b Ep 0 0
omit hK in
theorem Ben{mem:List Int}{p n:Int}(h:(A5k mem p n).2=false):(A5k mem p n).1=[]:=by
 unfold A5k at *;split at h
 ·cases h
 ·rename_i h1;rw[if_neg h1]
omit hK in
theorem A6w{mem:List Int}{t:Bc}{p n:Int}(h:(Axy mem t p n).2=false):(Axy mem t p n).1=[]:=by
 unfold Axy at *;split at h
 ·rename_i h1;rw[if_pos h1];exact Ben h
 ·rename_i h1;rw[if_neg h1]
theorem A9i (w:C4)(hw:Ak1 w)(r:Bq)(off n:Int): ∃code Ep b,Ato K w r off n=some (w,A0e code Ep b)∧Aqz K w r off n=some (w,A0e code Ep b)∧b.length≤w.fP.N5.length:=by
 obtain⟨t,t1,t2,t3⟩:=Ayx hK hw.l r
 have hm:=hw.p.mem.2;unfold Ato Aqz Arl Ase;rw[At0 hK hw,Av9 hK w hw,A01 hK w hw,Arn hK hw,Awa hK w hw.l,A4g hK w hw.l,t1,t2]
 have e2:C4.mk (D9.mk w.fC.Ay w.fC.G6 w.fC.E5 w.fC.Gs w.fC.E6 w.fC.G7) (Dm.mk w.fP.N5 w.fP.Vg w.fP.N6) w.fL w.fQ w.Acw=w:=rfl;simp only[Z0,e2,Arn hK hw,Wx];cases Ash w with
 |false=>exact⟨1,0,[],rfl,rfl,Z21 _⟩
 |true=>
  simp only[cond_true];rw[A3t K hm t3,A3u K hm t3];simp only[Z0,bne,Wx];cases hc:t.2.2==0 with
  |false=>exact⟨t.2.2,A0d w r.fH,[],rfl,rfl,Z21 _⟩
  |true=>
   simp only[cond_true];cases hq:(Axy w.fP.N5 t.2.1 off n).2 with
   |false=>
    rw[A6w hq];exact⟨7,A0d w r.fH,[],rfl,rfl,Z21 _⟩
   |true=>exact⟨t.2.2,A0d w r.fH,_,rfl,rfl,A6b⟩
end
theorem Bas{K:Nat}(hK:281474976710656≤K)(w:C4)(hw:Ak1 w)(r:Bq): ∃b,Ayt K w r=some b∧Akq K w r=some b∧b.length≤w.fP.N5.length:=by
 obtain⟨t,t1,t2,t3⟩:=Ayx hK hw.l r;obtain⟨code,Ep,b,h1,h2,h3⟩:=A9i hK w hw r 0 t.2.1.Ajk
 have hm:=hw.p.mem.2
 have hx:=V1;unfold Ayt Akq A17 Azv;rw[t1,t2];simp only[Z0,h1,h2,A0e,Z38];rw[if_pos ⟨by omega,by omega⟩]
 exact⟨b,rfl,rfl,h3⟩
section
variable {β:Type} [Inhabited β]
end
section
variable {K:Nat} (hK:281474976710656≤K)
include hK
end
section
variable {K:Nat} (hK:281474976710656≤K)
include hK
end
theorem Bga{β:Type}(f:β->Nat): ∀(l:List β) (i:Nat) (h:i<l.length) (x:β),((l.set i x).map f).sum+f l[i]=(l.map f).sum+f x
 |[],i,h,x=>by simp at h
 |y::l,0,h,x=>by simp;omega
 |y::l,i+1,h,x=>by
  have:=Bga f l i (by simpa using h) x
  simp only[List.set_cons_succ,Z8,List.sum_cons,List.getElem_cons_succ]at this ⊢;omega
theorem A1l{l:List As}(hl:Ad1 l)(i:Nat){x:As}(hx:Arm x):Ad1 (l.set i x):=
 ⟨fun y hy=>(Z54 hy).elim (hl.1 y) (fun e=>e ▸ hx),by rw[Z49];exact hl.2⟩
def A24 (p:Dm)(k:Int):Dm:=if(0≤k∧k<(p.Vg.length:Int)∧k<(p.N6.length:Int))∧gt p.Vg k=1 then Dm.mk p.N5 (p.Vg.set k.toNat 2) (p.N6.set k.toNat (-1))else p
theorem Bgb{p:Dm}(hp:A2k p)(k:Int):A2k (A24 p k)∧Bei (A24 p k)=Bei p:=by
 unfold A24;split
 ·refine⟨⟨hp.mem,⟨fun x hx=> ?_,by rw[Z49];exact hp.st.2⟩,⟨fun x hx=> ?_,by rw[Z49];exact hp.own.2⟩⟩,by simp[Bei]⟩
  ·rcases Z54 hx with h|h
   ·exact hp.st.1 x h
   ·subst h;exact⟨by omega,by omega⟩
  ·rcases Z54 hx with h|h
   ·exact hp.own.1 x h
   ·subst h;exact⟨by omega,by omega⟩
 ·exact⟨hp,rfl⟩
theorem A72 (K:Nat){p:Dm}(hp:A2k p)(k:Int):A0j K p k=some (A24 p k):=by
 have h1:=hp.st.2;unfold A0j Asu A24;rw[A1y K hp,Z0,Ayu K (by omega),Z0]
 by_cases hs:0≤k∧k<(p.Vg.length:Int)
 ·rw[decide_eq_true hs,cond_true]
  by_cases ho:k<(p.N6.length:Int)
  ·rw[decide_eq_true ho,cond_true,if_pos hs,if_pos hs,if_pos ⟨hs.1,ho⟩]
   by_cases h:gt p.Vg k=1
   ·rw[if_pos ⟨⟨hs.1,hs.2,ho⟩,h⟩,h];rfl
   ·rw[if_neg (show ¬((0≤k∧k<(p.Vg.length:Int)∧k<(p.N6.length:Int))∧gt p.Vg k=1) from fun x=>h x.2),Agz h];rfl
  ·rw[decide_eq_false ho,if_neg (show ¬((0≤k∧k<(p.Vg.length:Int)∧k<(p.N6.length:Int))∧gt p.Vg k=1) from fun x=>ho x.1.2.2)];rfl
 ·rw[decide_eq_false hs,if_neg (show ¬((0≤k∧k<(p.Vg.length:Int)∧k<(p.N6.length:Int))∧gt p.Vg k=1) from fun x=>hs ⟨x.1.1,x.1.2.1⟩)];rfl
def Akw (p:Dm)(l:List Int):Dm:=l.foldl A24 p
theorem Bgc{α σ β:Type}{K:Nat}(hK:281474976710656≤K)(l:List α)(hl:l.length≤140737488355327)(f:σ->α->σ)(s0:σ)(I:σ->Prop)(hI:I s0)(hf: ∀s x,I s->I (f s x))(fin:Option β)(L:Nat->σ->Int->Option β)
  (hs: ∀n s (i:Nat) (h:i<l.length),I s->L (n+1) s (i:Int)=L n (f s l[i]) ((i+1:Nat):Int))
  (he: ∀n,L (n+1) (l.foldl f s0) (l.length:Int)=fin):L K s0 0=fin:=by
 have key: ∀(n i:Nat) (s:σ),I s->i≤l.length->l.length - i<n->(l.drop i).foldl f s=l.foldl f s0->L n s (i:Int)=fin:=by
  intro n
  induction n with
  |zero=>intro i s _ _ h;omega
  |succ n ih=>
   intro i s hIs hi hn hd;rcases Hl i l.length with h|h
   ·rw[hs n s i h hIs];refine ih (i+1) _ (hf _ _ hIs) h (by omega) ?_
    rw[Z47 h,List.foldl_cons]at hd;exact hd
   ·obtain rfl:i=l.length:=by omega
    rw[List.drop_length]at hd;simp only[List.foldl_nil]at hd;rw[hd];exact he n
 exact key K 0 s0 hI (Z21 _) (by omega) rfl
def Aiv (n:As)(slot:Int):Az:=Az.mk slot n.Ee n.Fh n.Ay 0
def Ayy (n:As):As:=As.mk n.Vg n.C8 (An3 .i64 n.Sj 1) n.fUp n.Sk 0 n.Sl n.Sm [] 0 0 [] []
theorem A25 (K:Nat){n:As}(hn:Arm n)(s:Int):Asv K n s=some (Aiv n s):=by
 have hm:=V1
 have h1:=hn.tags.2
 have h2:=hn.chunks.2;unfold Asv;simp only[Z38];rw[if_pos ⟨by omega,by omega⟩,if_pos ⟨by omega,by omega⟩];rfl
theorem Bat (K:Nat){n:As}(hn:Arm n):Aya K n=some (Ayy n):=by
 unfold Aya;rw[Atr K hn];rfl
theorem Ay4:wfi 0:=⟨by decide,by decide⟩
theorem Azd:A2j []:=⟨(fun x hx=>by cases hx),(by simp)⟩
theorem A3v:Bad []:=⟨(fun x hx=>by cases hx),(by simp)⟩
theorem Beo{n:As}(hn:Arm n){s:Int}(hs:wfi s):A1f (Aiv n s):=⟨hs,hn.first,hn.tags,hn.chunks,Ay4⟩
def A1m (w:C4)(k:Int):C4:=C4.mk w.fC (Akw w.fP (gt w.fL k).Ay) (w.fL.set k.toNat (Ayy (gt w.fL k))) (w.fQ++[Aiv (gt w.fL k) 0]) w.Acw
section
variable {K:Nat} (hK:281474976710656≤K)
include hK
theorem A6x (w:C4)(hw:Ak1 w)(l:List Int)(hl:l.length≤140737488355327):Aqy K w l=some (C4.mk w.fC (Akw w.fP l) w.fL w.fQ w.Acw):=by
 unfold Aqy;refine Bgc hK l (by omega) A24 w.fP A2k hw.p (fun s x h=>(Bgb h x).1) _ (fun n s i=>Akn K l n i w.fC.Ay w.fC.G6 w.fC.E5 w.fC.Gs w.fC.E6 w.fC.G7 s.N5 s.Vg s.N6 w.fL w.fQ w.Acw) (fun n s i h hs=> ?_) (fun n=> ?_)
 ·simp only[Akn];rw[Ad4 h,cond_true,if_pos (Ahl h),V2 h,show Dm.mk s.N5 s.Vg s.N6=s from rfl,A72 K hs,Z0,Acx (by omega)]
 ·show Akn K l (n+1) _ _ _ _ _ _ _ _ _ _ _ _ _=_;rw[Akn,Ad5 (Z9 _),cond_false];rfl
theorem Bau (w:C4)(hw:Ak1 w)(hQ:w.fQ.length≤140737488355){k:Int}(hk:0≤k∧k<(w.fL.length:Int)):Aut K w k=some (A1m w k):=by
 have hm:=V1
 have hn:=hw.l.1 _ (Ahf hk.1 hk.2);unfold Aut;simp only[if_pos hk,A25 K hn,Z0,A6x hK w hw _ (A0c hK hn.chunks),Bat K hn];rw[if_pos ⟨by simp;omega,by simp;omega⟩]
 rfl
end
def Br4 (n:As)(v:Int):As:=As.mk n.Vg n.C8 n.Sj n.fUp n.Sk n.Ee v n.Sm n.Ay n.Acv n.Sn n.F4 n.Fh
def Bmq (n:As)(v:Int):As:=As.mk n.Vg n.C8 n.Sj n.fUp n.Sk n.Ee n.Sl v n.Ay n.Acv n.Sn n.F4 n.Fh
def Bmr (n:As)(v:Int):As:=As.mk n.Vg n.C8 n.Sj n.fUp n.Sk v n.Sl n.Sm n.Ay n.Acv n.Sn n.F4 n.Fh
def Bp4 (n:As):As:=As.mk n.Vg n.C8 n.Sj 0 0 n.Ee 0 0 n.Ay n.Acv n.Sn n.F4 n.Fh
theorem A02{l:List As}{k:Int}(hk:0≤k∧k<(l.length:Int))(x:As):gt (l.set k.toNat x) k=x:=by
 have hlt:k.toNat<(l.set k.toNat x).length:=by simp;omega
 have e:gt (l.set k.toNat x) ((k.toNat:Nat):Int)=x:=by rw[V2 hlt];simp
 rwa[show((k.toNat:Nat):Int)=k by omega]at e
theorem A03{l:List As}{j k:Int}(hj:0≤j)(hk:0≤k∧k<(l.length:Int))(h:j≠k)(x:As):gt (l.set j.toNat x) k=gt l k:=by
 have h1:k.toNat<(l.set j.toNat x).length:=by simp;omega
 have h2:k.toNat<l.length:=by omega
 have e1:gt (l.set j.toNat x) ((k.toNat:Nat):Int)=gt l ((k.toNat:Nat):Int):=by
  rw[V2 h1,V2 h2,List.getElem_set,if_neg (by omega)]
 rwa[show((k.toNat:Nat):Int)=k by omega]at e1
theorem A5l (K:Nat){l:List As}{k:Int}(hk:0≤k∧k<(l.length:Int)):At6 K k l=some (l.set k.toNat (Bp4 (gt l k))):=by
 unfold At6;rw[if_pos hk];simp only[Aqh,Z49,A02 hk,B1i,if_pos hk];rfl
def A6c (l0 l:List As)(k nx pv:Int):List As:=bif plB l0 nx then l.set (An4 .i64 nx 1).toNat (Bmq (gt l (An4 .i64 nx 1)) pv)else l
def A4z (l0 l:List As)(k nx pv:Int):List As:=(A6c l0 l k nx pv).set k.toNat (Bp4 (gt (A6c l0 l k nx pv) k))
theorem A3w (l0 l:List As)(k nx pv:Int):(A6c l0 l k nx pv).length=l.length:=by
 unfold A6c;cases plB l0 nx<;>simp
theorem Ayz (K:Nat){l0 l:List As}(hl:l0.length≤140737488355327)(he:l.length=l0.length){k:Int}(hk:0≤k∧k<(l0.length:Int))(a b c d e f nx pv:Int)(g:List Int)(h i:Int)(t:List Bc)(u:List Int)(hx:wfi nx):Aru K l0 k l a b c d e f nx pv g h i t u=some (A4z l0 l k nx pv):=by
 unfold Aru A4z A6c;rw[Avo K hl hx,Z0];cases hp:plB l0 nx with
 |false=>rw[cond_false,cond_false,A5l K (by rw[he];exact hk)]
 |true=>
  have:=Aza hp;rw[cond_true,cond_true,if_pos (by rw[he];exact this)]
  simp only[Aqh];rw[A5l K (by rw[Z49,he];exact hk)]
  rfl
def A5m (l:List As)(k:Int):List As:=
 bif plB l (gt l k).Sm then l.set (An4 .i64 (gt l k).Sm 1).toNat (Br4 (gt l (An4 .i64 (gt l k).Sm 1)) (gt l k).Sl)
 else bif (gt l k).Sm==0&&(plB l (gt l k).fUp&&(gt l (An4 .i64 (gt l k).fUp 1)).Ee==An3 .i64 k 1)then l.set (An4 .i64 (gt l k).fUp 1).toNat (Bmr (gt l (An4 .i64 (gt l k).fUp 1)) (gt l k).Sl)
 else l
def Aqi (l:List As)(k:Int):List As:=A4z l (A5m l k) k (gt l k).Sl (gt l k).Sm
theorem A2o (l:List As)(k:Int):(A5m l k).length=l.length:=by
 unfold A5m;cases plB l (gt l k).Sm<;>cases ((gt l k).Sm==0&&(plB l (gt l k).fUp&&(gt l (An4 .i64 (gt l k).fUp 1)).Ee==An3 .i64 k 1))<;>simp
section
variable {K:Nat} (hK:281474976710656≤K)
include hK
theorem Bcn{l:List As}(w:Ad1 l){k:Int}(hk:0≤k∧k<(l.length:Int)):Azj K l k=some (Aqi l k):=by
 have hl:=Aew w
 have hn:=w.1 _ (Ahf hk.1 hk.2)
 have e1:An4 .i64 (An3 .i64 k 1) 1=k:=by unfold An4 An3;rw[K0 (n:=k+1) (by omega) (by omega),K0 (by omega) (by omega)];omega
 have hpk:plB l (An3 .i64 k 1)=true:=by unfold plB;rw[e1];exact decide_eq_true hk
 have hwk:wfi (An3 .i64 k 1):=Bmk _;unfold Azj Aqi;rw[A23 hK w,Z0,Avo K hl hwk,Z0,hpk,Bool.not_true,cond_false,if_pos hk,Avo K hl hn.prev,Z0];unfold A5m;cases hp:plB l (gt l k).Sm with
 |true=>
  have:=Aza hp;rw[cond_true,cond_true,if_pos this];simp only[Aqh];rw[Ayz K hl (by rw[Z49]) hk _ _ _ _ _ _ _ _ _ _ _ _ _ hn.next]
  rfl
 |false=>
  rw[cond_false,cond_false];cases h0:(gt l k).Sm==0 with
  |false=>
   simp only[cond_false,Bool.false_and,Aqp];rw[Ayz K hl rfl hk _ _ _ _ _ _ _ _ _ _ _ _ _ hn.next]
  |true=>
   rw[cond_true,Avo K hl hn.up,Z0];cases hu:plB l (gt l k).fUp with
   |false=>
    simp only[cond_false,Bool.false_and,Bool.and_false,Aqp];rw[Ayz K hl rfl hk _ _ _ _ _ _ _ _ _ _ _ _ _ hn.next]
   |true=>
    have hui:=Aza hu;rw[cond_true,if_pos hui];simp only[Z30,Aqp];cases (gt l (An4 .i64 (gt l k).fUp 1)).Ee==An3 .i64 k 1 with
    |false=>
     simp only[cond_false];rw[Ayz K hl rfl hk _ _ _ _ _ _ _ _ _ _ _ _ _ hn.next]
    |true=>
     simp only[cond_true,if_pos hui,Aqh];rw[Ayz K hl (by rw[Z49]) hk _ _ _ _ _ _ _ _ _ _ _ _ _ hn.next]
     rfl
end
def By1 (n:As):As:=As.mk 2 n.C8 0 0 0 0 0 0 [] 0 0 [] []
theorem Bp5{n:As}(hn:Arm n){v:Int}(hv:wfi v):Arm (Br4 n v):=⟨hn.st,hn.gen,hn.ep,hn.up,hn.upEp,hn.first,hv,hn.prev,hn.chunks,hn.cur,hn.bump,hn.things,hn.tags⟩
theorem Bp6{n:As}(hn:Arm n){v:Int}(hv:wfi v):Arm (Bmq n v):=⟨hn.st,hn.gen,hn.ep,hn.up,hn.upEp,hn.first,hn.next,hv,hn.chunks,hn.cur,hn.bump,hn.things,hn.tags⟩
theorem Bms{n:As}(hn:Arm n){v:Int}(hv:wfi v):Arm (Bmr n v):=⟨hn.st,hn.gen,hn.ep,hn.up,hn.upEp,hv,hn.next,hn.prev,hn.chunks,hn.cur,hn.bump,hn.things,hn.tags⟩
theorem Bvh{n:As}(hn:Arm n):Arm (Bp4 n):=by
 have z:wfi 0:=⟨by decide,by decide⟩
 exact⟨hn.st,hn.gen,hn.ep,z,z,hn.first,z,z,hn.chunks,hn.cur,hn.bump,hn.things,hn.tags⟩
theorem A4h{l:List As}{k:Int}(hk:0≤k∧k<(l.length:Int)){x:As}(h:A1k x=A1k (gt l k)):((l.set k.toNat x).map A1k).sum=(l.map A1k).sum:=by
 have hlt:k.toNat<l.length:=by omega
 have:=Bga A1k l k.toNat hlt x
 have e:l[k.toNat]=gt l k:=by rw[←V2 hlt,show((k.toNat:Nat):Int)=k by omega]
 rw[e]at this;omega
theorem Bvi{l:List As}(w:Ad1 l){k:Int}(hk:0≤k∧k<(l.length:Int)):Ad1 (A5m l k)∧((A5m l k).map A1k).sum=(l.map A1k).sum:=by
 have hn:=w.1 _ (Ahf hk.1 hk.2);unfold A5m;cases hp:plB l (gt l k).Sm with
 |true=>
  have hi:=Aza hp;exact⟨A1l w _ (Bp5 (w.1 _ (Ahf hi.1 hi.2)) hn.next),A4h hi rfl⟩
 |false=>
  rw[cond_false];cases hc:((gt l k).Sm==0&&(plB l (gt l k).fUp&&(gt l (An4 .i64 (gt l k).fUp 1)).Ee==An3 .i64 k 1))with
  |false=>exact⟨w,rfl⟩
  |true=>
   simp only[Z4]at hc
   have hi:=Aza hc.2.1;exact⟨A1l w _ (Bms (w.1 _ (Ahf hi.1 hi.2)) hn.next),A4h hi rfl⟩
theorem Bvj{l0 l:List As}(w:Ad1 l)(he:l.length=l0.length)(k nx:Int){pv:Int}(hv:wfi pv):Ad1 (A6c l0 l k nx pv)∧((A6c l0 l k nx pv).map A1k).sum=(l.map A1k).sum:=by
 unfold A6c;cases hp:plB l0 nx with
 |true=>
  have hi:=Aza hp;rw[←he]at hi;exact⟨A1l w _ (Bp6 (w.1 _ (Ahf hi.1 hi.2)) hv),A4h hi rfl⟩
 |false=>exact⟨w,rfl⟩
theorem Bh7{l:List As}(w:Ad1 l){k:Int}(hk:0≤k∧k<(l.length:Int)):Ad1 (Aqi l k)∧((Aqi l k).map A1k).sum=(l.map A1k).sum∧(Aqi l k).length=l.length:=by
 have hn:=w.1 _ (Ahf hk.1 hk.2);obtain⟨h1,h2⟩:=Bvi w hk
 have h3:=A2o l k;obtain⟨h4,h5⟩:=Bvj h1 h3 k (gt l k).Sl hn.prev
 have h6:=A3w l (A5m l k) k (gt l k).Sl (gt l k).Sm
 have hk':0≤k∧k<((A6c l (A5m l k) k (gt l k).Sl (gt l k).Sm).length:Int):=by rw[h6,h3];exact hk
 unfold Aqi A4z;exact⟨A1l h4 _ (Bvh (h4.1 _ (Ahf hk'.1 hk'.2))),(A4h (x:=Bp4 (gt (A6c l (A5m l k) k (gt l k).Sl (gt l k).Sm) k)) hk' rfl).trans (h5.trans h2),by rw[Z49,h6,h3]⟩
def Aze (w:C4)(k:Int):C4:=C4.mk w.fC (Akw w.fP (gt w.fL k).Ay) ((Aqi w.fL k).set k.toNat (By1 (gt (Aqi w.fL k) k))) (w.fQ++[Aiv (gt w.fL k) (An3 .i64 k 1)]) w.Acw
section
variable {K:Nat} (hK:281474976710656≤K)
include hK
theorem Bep (w:C4)(hw:Ak1 w)(hQ:w.fQ.length≤140737488355){k:Int}(hk:0≤k∧k<(w.fL.length:Int)):Aw1 K w k=some (Aze w k):=by
 have hm:=V1
 have hn:=hw.l.1 _ (Ahf hk.1 hk.2)
 have hk':0≤k∧k<((Aqi w.fL k).length:Int):=by rw[(Bh7 hw.l hk).2.2];exact hk
 unfold Aw1 Azz;simp only[if_pos hk,A25 K hn,Z0,A6x hK w hw _ (A0c hK hn.chunks),Bcn hK hw.l hk,if_pos hk'];rw[if_pos ⟨by simp;omega,by simp;omega⟩]
 rfl
end
def B1j (c:D9)(x:Az)(v:Int)(i:Nat):Int:=An3 .i64 v (bif ((i:Int)==0)then Atk (An4 .i64 c.G6 x.Wv) c.E6 else Atk c.G6 c.E6)
def Bvk (c:D9)(x:Az):Int:=
 (List.range x.Ay.length).foldl (B1j c x) (An3 .i64 (x.Fh.length:Int) 1)
section
variable {K:Nat} (hK:281474976710656≤K)
include hK
end
def Bvl (w:C4)(k:Int):Int:=Bvk w.fC (Aiv (gt w.fL k) 0)
section
variable {K:Nat} (hK:562949953421312≤K)
include hK
end
structure Lk where
 lv:Bool
 gn:Bool
 ep:Int
 up:Int
 ue:Int
 fi:Int
 nx:Int
 pv:Int
section
variable (N:Int) (t:Int->Lk)
def Lv (k:Int):Prop:=(0≤k∧k<N)∧(t k).lv=true
def Cu (k:Int):Prop:=Lv N t ((t k).up - 1)∧(t ((t k).up - 1)).ep=(t k).ue
def Oo (k:Int):Prop:=Lv N t k∧(t k).up≠0∧ ¬Cu N t k
structure Bmt (k:Int):Prop where
 first:(t k).fi≠0->Lv N t ((t k).fi - 1)∧(t ((t k).fi - 1)).pv=0∧(t ((t k).fi - 1)).up=k+1∧(t ((t k).fi - 1)).ue=(t k).ep
 next:(t k).nx≠0->Lv N t ((t k).nx - 1)∧(t ((t k).nx - 1)).pv=k+1∧(t ((t k).nx - 1)).up=(t k).up∧(t ((t k).nx - 1)).ue=(t k).ue
 prev:(t k).pv≠0->Lv N t ((t k).pv - 1)∧(t ((t k).pv - 1)).nx=k+1
 up:(t k).up≠0->0≤(t k).up - 1∧(t k).up - 1<N
 top:(t k).pv=0->Cu N t k->(t ((t k).up - 1)).fi=k+1
def kids:Nat->Int->List Int
 |0,_=>[]
 |n+1,k=>if 0≤k∧k<N then k::kids n ((t k).nx - 1)else []
def rise:Nat->Int->List Int
 |0,_=>[]
 |n+1,k=>if 0≤k∧k<N then k::rise n ((t k).up - 1)else []
structure Avp:Prop where
 link: ∀k,Lv N t k->Bmt N t k
 rise: ∀k,Lv N t k->(rise N t N.toNat k).length≤4∧ ∀x,(rise N t N.toNat k).getLast? =some x-> ¬Cu N t x
 bare: ∀k,0≤k->k<N->(t k).lv=false->(t k).up=0∧(t k).fi=0∧(t k).nx=0∧(t k).pv=0
def Wf (r:Int->Nat):Prop:= ∀x,Lv N t x->(t x).pv≠0->r ((t x).pv - 1)<r x
end
section
variable {N:Int} {t:Int->Lk}
theorem A9j (n:Nat)(k:Int):kids N t (n+1) k=if 0≤k∧k<N then k::kids N t n ((t k).nx - 1)else []:=rfl
theorem A9k (n:Nat)(k:Int):rise N t (n+1) k=if 0≤k∧k<N then k::rise N t n ((t k).up - 1)else []:=rfl
theorem Oo.lv{k:Int}(h:Oo N t k):Lv N t k:=h.1
theorem Bav: ∀(n:Nat) (k x:Int),x∈kids N t n k->0≤x∧x<N:=by
 intro n
 induction n with
 |zero=>intro k x h;cases h
 |succ n ih=>
  intro k x h;unfold kids at h;split at h
  ·rename_i h1;rcases Ef.1 h with rfl|h
   ·exact h1
   ·exact ih _ x h
  ·cases h
theorem Axz (n:Nat):kids N t n (0 - 1)=[]:=by
 cases n with
 |zero=>rfl
 |succ n=>unfold kids;rw[if_neg (by omega)]
theorem Bh8: ∀(n:Nat) (k:Int),kids N t n k=(kids N t (n+1) k).take n:=by
 intro n
 induction n with
 |zero=>intro k;simp[kids]
 |succ n ih=>
  intro k;rw[A9j,A9j (n+1)];split
  ·rw[ih];simp
  ·simp
theorem Bmu (T:Avp N t){u e:Int}: ∀(n:Nat) (k:Int),Lv N t k->(t k).up=u->(t k).ue=e-> ∀x∈kids N t n k,Lv N t x∧(t x).up=u∧(t x).ue=e:=by
 intro n
 induction n with
 |zero=>intro k _ _ _ x h;cases h
 |succ n ih=>
  intro k h1 h2 h3 x h;unfold kids at h;split at h
  ·rcases Ef.1 h with rfl|h
   ·exact⟨h1,h2,h3⟩
   ·by_cases h4:(t k).nx=0
    ·rw[h4,Axz]at h;cases h
    ·obtain⟨a,_,b,c⟩:=(T.link k h1).next h4;exact ih _ a (b.trans h2) (c.trans h3) x h
  ·cases h
theorem A9l (T:Avp N t){r:Int->Nat}(W:Wf N t r): ∀(n:Nat) (k:Int),Lv N t k->(∀x∈kids N t n k,r k≤r x)∧(kids N t n k).Pairwise (fun a b=>r a<r b):=by
 intro n
 induction n with
 |zero=>intro k _;exact⟨fun x h=>(by cases h),.nil⟩
 |succ n ih=>
  intro k h1;unfold kids;split
  ·by_cases h4:(t k).nx=0
   ·rw[h4,Axz];exact⟨fun x h=>by rw[Px.1 h];exact Z9 _,List.pairwise_singleton ..⟩
   ·obtain⟨a,b,_⟩:=(T.link k h1).next h4;obtain⟨i1,i2⟩:=ih _ a
    have hr:=W _ a (by rw[b];have:=h1.1;omega)
    rw[b,Int.add_sub_cancel]at hr;refine⟨fun x h=> ?_,List.pairwise_cons.2 ⟨fun x h=> ?_,i2⟩⟩
    ·rcases Ef.1 h with rfl|h
     ·exact Z9 _
     ·have:=i1 x h;omega
    ·have:=i1 x h;omega
  ·exact⟨fun x h=>(by cases h),.nil⟩
theorem A40 (T:Avp N t){r:Int->Nat}(W:Wf N t r)(n:Nat){k:Int}(h:Lv N t k):(kids N t n k).Nodup:=
 (A9l T W n k h).2.imp fun h e=>by rw[e]at h;omega
theorem Baw{l:List Int}(hn:l.Nodup)(h: ∀x∈l,0≤x∧x<N):l.length≤N.toNat:=by
 have:=Azc (l:=(List.range N.toNat).map (fun i:Nat=>(i:Int))) hn (fun x hx=>by
  have:=h x hx;rw[Ex];exact⟨x.toNat,by simp;omega,by omega⟩)
 simpa using this
theorem Bh9: ∀(n:Nat) (k y x:Int),y∈kids N t n k->(t y).nx=x+1->0≤x∧x<N->x∈kids N t n k∨(kids N t n k).length=n:=by
 intro n
 induction n with
 |zero=>intro k y x h;cases h
 |succ n ih=>
  intro k y x h h1 h2;unfold kids at h ⊢;split at h
  ·rename_i h3;rw[if_pos h3];rcases Ef.1 h with rfl|h
   ·rw[h1,Int.add_sub_cancel];cases n with
    |zero=>right;simp[kids]
    |succ n=>left;rw[kids,if_pos h2];simp
   ·rcases ih _ y x h h1 h2 with h|h
    ·exact .inl (Z56 _ h)
    ·exact .inr (by simp[h])
  ·cases h
theorem Bmv (T:Avp N t){r:Int->Nat}(W:Wf N t r){k:Int}(hk:Lv N t k)(x:Int):
  x∈kids N t N.toNat ((t k).fi - 1) ↔ Lv N t x∧(t x).up=k+1∧(t x).ue=(t k).ep:=by
 constructor
 ·intro h
  by_cases h0:(t k).fi=0
  ·rw[h0,Axz]at h;cases h
  ·obtain⟨a,_,b,c⟩:=(T.link k hk).first h0;exact Bmu T _ _ a b c x h
 ·generalize hn:r x=n
  induction n using Nat.strongRecOn generalizing x with
  |_ n ih=>
   intro⟨h1,h2,h3⟩
   have hc:Cu N t x:=by unfold Cu;rw[h2,h3,Int.add_sub_cancel];exact⟨hk,rfl⟩
   by_cases hp:(t x).pv=0
   ·have:=(T.link x h1).top hp hc;rw[h2,Int.add_sub_cancel]at this;obtain⟨m,hm⟩: ∃m,N.toNat=m+1:=⟨N.toNat - 1,by have:=h1.1;omega⟩
    rw[this,Int.add_sub_cancel,hm,kids,if_pos h1.1];simp
   ·obtain⟨a,b⟩:=(T.link x h1).prev hp
    have hr:=W x h1 hp;obtain⟨_,_,c,d⟩:=(T.link _ a).next (by rw[b];have:=h1.1;omega)
    rw[b,Int.add_sub_cancel]at c d
    have hy:=ih _ (by omega) _ rfl ⟨a,c ▸ h2,d ▸ h3⟩
    rcases Bh9 _ _ _ x hy b h1.1 with h|h
    ·exact h
    ·refine Classical.byContradiction fun hx=> ?_
     have h0:(t k).fi≠0:=fun e=>by rw[e,Axz]at hy;cases hy
     have hd:=A40 T W N.toNat ((T.link k hk).first h0).1
     have:=Baw (N:=N) (l:=x::kids N t N.toNat ((t k).fi - 1)) (List.nodup_cons.2 ⟨hx,hd⟩) (fun y hy=>by
      rcases Ef.1 hy with rfl|hy
      ·exact h1.1
      ·exact Bav _ _ y hy)
     simp only[Z28]at this;omega
theorem A3x (T:Avp N t){r:Int->Nat}(W:Wf N t r)(n:Nat){k:Int}(hk:Lv N t k):(kids N t n ((t k).fi - 1)).Nodup:=by
 by_cases h0:(t k).fi=0
 ·rw[h0,Axz];exact .nil
 ·exact A40 T W n ((T.link k hk).first h0).1
theorem A26{t':Int->Lk}: ∀(n:Nat) (k:Int),(∀x∈kids N t n k,(t' x).nx=(t x).nx)->kids N t' n k=kids N t n k:=by
 intro n
 induction n with
 |zero=>intro k _;rfl
 |succ n ih=>
  intro k h;rw[kids,kids];rw[kids]at h;split
  ·rename_i h1;rw[if_pos h1]at h;rw[h k (by simp),ih _ fun x hx=>h x (by simp[hx])]
  ·rfl
theorem A1z{t':Int->Lk}: ∀(n:Nat) (k:Int),(∀x∈rise N t n k,(t' x).up=(t x).up)->rise N t' n k=rise N t n k:=by
 intro n
 induction n with
 |zero=>intro k _;rfl
 |succ n ih=>
  intro k h;rw[rise,rise];rw[rise]at h;split
  ·rename_i h1;rw[if_pos h1]at h;rw[h k (by simp),ih _ fun x hx=>h x (by simp[hx])]
  ·rfl
theorem Bia: ∀(n:Nat) (k:Int),rise N t n k=(rise N t (n+1) k).take n:=by
 intro n
 induction n with
 |zero=>intro k;simp[rise]
 |succ n ih=>
  intro k;rw[A9k,A9k (n+1)];split
  ·rw[ih];simp
  ·simp
theorem Az0: ∀(n:Nat) (k x:Int),x∈rise N t n k->0≤x∧x<N:=by
 intro n
 induction n with
 |zero=>intro k x h;cases h
 |succ n ih=>
  intro k x h;unfold rise at h;split at h
  ·rename_i h1;rcases Ef.1 h with rfl|h
   ·exact h1
   ·exact ih _ x h
  ·cases h
theorem Bmw{t':Int->Lk}{g:Int}(h: ∀x,x≠g->(t' x).up=(t x).up)(hg:(t' g).up=0): ∀(n:Nat) (k:Int),
  (rise N t' n k=[] ↔ rise N t n k=[])∧(rise N t' n k).length≤(rise N t n k).length∧((rise N t' n k).getLast? =some g∨(rise N t' n k).getLast? =(rise N t n k).getLast?):=by
 intro n
 induction n with
 |zero=>intro k;exact⟨Iff.rfl,Z9 _,.inr rfl⟩
 |succ n ih=>
  intro k;rw[rise,rise]
  by_cases h1:0≤k∧k<N
  ·rw[if_pos h1,if_pos h1]
   by_cases e:k=g
   ·subst e
    have:rise N t' n (0 - 1)=[]:=by cases n with|zero=>rfl|succ n=>rw[rise,if_neg (by omega)]
    rw[hg,this];exact⟨by simp,by simp,.inl rfl⟩
   ·rw[h k e];obtain⟨i1,i2,i3⟩:=ih ((t k).up - 1);refine⟨by simp,by simpa using i2,?_⟩
    cases ha:rise N t' n ((t k).up - 1)with
    |nil=>rw[i1.1 ha];exact .inr rfl
    |cons a l=>
     cases hb:rise N t n ((t k).up - 1)with
     |nil=>rw[i1.2 hb]at ha;cases ha
     |cons b m=>
      rw[ha,hb]at i3;simpa using i3
  ·rw[if_neg h1,if_neg h1];exact⟨Iff.rfl,Z9 _,.inr rfl⟩
theorem A4i (T:Avp N t){k:Int}(hk:Lv N t k)(hc:Cu N t k):(t k).up≠k+1:=by
 intro e;obtain⟨_,h⟩:=T.rise k hk
 have: ∀n,rise N t (n+1) k=List.replicate (n+1) k:=by
  intro n
  induction n with
  |zero=>rw[rise,if_pos hk.1];rfl
  |succ n ih=>rw[rise,if_pos hk.1,e,Int.add_sub_cancel,ih];rfl
 obtain⟨m,hm⟩: ∃m,N.toNat=m+1:=⟨N.toNat - 1,by have:=hk.1;omega⟩
 refine h k ?_ hc;rw[hm,this,List.getLast?_replicate,if_neg (by omega)]
def rem (t:Int->Lk)(g:Int)(x:Int):Lk:=
 if x=g then⟨false,true,0,0,0,0,0,0⟩else
  ⟨(t x).lv,(t x).gn,(t x).ep,(t x).up,(t x).ue,if(t g).pv=0∧x+1=(t g).up∧(t x).fi=g+1 then(t g).nx else(t x).fi,if x+1=(t g).pv then(t g).nx else(t x).nx,if x+1=(t g).nx then(t g).pv else(t x).pv⟩
theorem A5n{g:Int}:rem t g g=⟨false,true,0,0,0,0,0,0⟩:=if_pos rfl
theorem Alv{g x:Int}(h:x≠g):rem t g x=⟨(t x).lv,(t x).gn,(t x).ep,(t x).up,(t x).ue,if(t g).pv=0∧x+1=(t g).up∧(t x).fi=g+1 then(t g).nx else(t x).fi,if x+1=(t g).pv then(t g).nx else(t x).nx,if x+1=(t g).nx then(t g).pv else(t x).pv⟩:=if_neg h
theorem Apm{g x:Int}:Lv N (rem t g) x ↔ x≠g∧Lv N t x:=by
 unfold Lv
 by_cases h:x=g
 ·subst h;rw[A5n];simp
 ·rw[Alv h];simp[h]
theorem A1n{g x:Int}(hx:x≠g):Cu N (rem t g) x ↔ (t x).up≠g+1∧Cu N t x:=by
 unfold Cu;rw[Apm,Alv hx]
 by_cases h:(t x).up - 1=g
 ·simp[h];omega
 ·rw[Alv h];simp only[ne_eq,h,not_false_eq_true,true_and];exact⟨fun h1=>⟨by omega,h1⟩,fun h1=>h1.2⟩
theorem Bmx{g x:Int}(hg:0≤g):Oo N (rem t g) x ↔ x≠g∧(Oo N t x∨Lv N t x∧(t x).up=g+1):=by
 unfold Oo;rw[Apm]
 by_cases h:x=g
 ·simp[h]
 ·rw[A1n h,Alv h];simp only[ne_eq,h,not_false_eq_true,true_and];constructor
  ·rintro⟨a,b,c⟩
   by_cases e:(t x).up=g+1
   ·exact .inr ⟨a,e⟩
   ·exact .inl ⟨a,b,fun d=>c ⟨e,d⟩⟩
  ·rintro(⟨a,b,c⟩|⟨a,b⟩)
   ·exact⟨a,b,fun d=>c d.2⟩
   ·exact⟨a,by omega,fun d=>d.1 b⟩
theorem Bmy (T:Avp N t){g x:Int}(hg:Lv N t g)(hx:Lv N (rem t g) x):Bmt N (rem t g) x:=by
 obtain⟨hne,hl⟩:=Apm.1 hx
 have G:=T.link g hg
 have X:=T.link x hl
 have g0:=hg.1
 have x0:=hl.1;refine⟨?_,?_,?_,?_,?_⟩
 ·rw[Alv hne];intro h;simp only at h ⊢
  by_cases hA:(t g).pv=0∧x+1=(t g).up∧(t x).fi=g+1
  ·rw[if_pos hA]at h ⊢;obtain⟨a,b,c,d⟩:=G.next h
   have hm:(t g).nx - 1≠g:=fun e=>by rw[e]at b;omega
   obtain⟨_,_,_,f4⟩:=X.first (by omega)
   rw[hA.2.2,Int.add_sub_cancel]at f4;rw[Alv hm];refine⟨Apm.2 ⟨hm,a⟩,?_,?_,?_⟩
   ·simp only;rw[if_pos (by omega)];exact hA.1
   ·simp only;omega
   ·simp only;omega
  ·rw[if_neg hA]at h ⊢;obtain⟨a,b,c,d⟩:=X.first h
   have hm:(t x).fi - 1≠g:=fun e=>by rw[e]at b c;exact hA ⟨b,c.symm,by omega⟩
   rw[Alv hm];refine⟨Apm.2 ⟨hm,a⟩,?_,c,d⟩;simp only;rw[if_neg]
   ·exact b
   ·intro e
    have:=(G.next (by omega)).2.1
    rw[←e,Int.add_sub_cancel]at this;omega
 ·rw[Alv hne];intro h;simp only at h ⊢
  by_cases hA:x+1=(t g).pv
  ·rw[if_pos hA]at h ⊢;obtain⟨a,b,c,d⟩:=G.next h
   have hm:(t g).nx - 1≠g:=fun e=>by rw[e]at b;omega
   obtain⟨_,p2⟩:=G.prev (by omega)
   rw[←hA,Int.add_sub_cancel]at p2;obtain⟨_,_,q3,q4⟩:=X.next (by omega)
   rw[p2,Int.add_sub_cancel]at q3 q4;rw[Alv hm];refine⟨Apm.2 ⟨hm,a⟩,?_,?_,?_⟩
   ·simp only;rw[if_pos (by omega)];omega
   ·simp only;omega
   ·simp only;omega
  ·rw[if_neg hA]at h ⊢;obtain⟨a,b,c,d⟩:=X.next h
   have hm:(t x).nx - 1≠g:=fun e=>by rw[e]at b;omega
   rw[Alv hm];refine⟨Apm.2 ⟨hm,a⟩,?_,c,d⟩;simp only;rw[if_neg]
   ·exact b
   ·intro e
    have:=(G.next (by omega)).2.1
    rw[←e,Int.add_sub_cancel]at this;omega
 ·rw[Alv hne];intro h;simp only at h ⊢
  by_cases hA:x+1=(t g).nx
  ·rw[if_pos hA]at h ⊢;obtain⟨a,b⟩:=G.prev h
   have hm:(t g).pv - 1≠g:=fun e=>by rw[e]at b;omega
   rw[Alv hm];refine⟨Apm.2 ⟨hm,a⟩,?_⟩;simp only;rw[if_pos (by omega)]
   omega
  ·rw[if_neg hA]at h ⊢;obtain⟨a,b⟩:=X.prev h
   have hm:(t x).pv - 1≠g:=fun e=>by rw[e]at b;omega
   rw[Alv hm];refine⟨Apm.2 ⟨hm,a⟩,?_⟩;simp only;rw[if_neg]
   ·exact b
   ·intro e
    have:=(G.prev (by omega)).2
    rw[←e,Int.add_sub_cancel]at this;omega
 ·rw[Alv hne];exact X.up
 ·intro h hc;obtain⟨c1,c2⟩:=(A1n hne).1 hc;rw[Alv hne]at h ⊢;simp only at h ⊢
  have hm:(t x).up - 1≠g:=by omega
  rw[Alv hm];simp only
  by_cases hA:x+1=(t g).nx
  ·rw[if_pos hA]at h;obtain⟨_,_,q3,q4⟩:=G.next (by omega)
   rw[←hA,Int.add_sub_cancel]at q3 q4
   have hcg:Cu N t g:=by unfold Cu at c2 ⊢;rw[←q3,←q4];exact c2
   have:=G.top h hcg;rw[if_pos ⟨h,by omega,by rw[q3];exact this⟩]
   omega
  ·rw[if_neg hA]at h
   have:=X.top h c2;rw[if_neg (fun e=>by omega)]
   exact this
theorem A73 (T:Avp N t){g:Int}(hg:Lv N t g):Avp N (rem t g):=by
 refine⟨fun k hk=>Bmy T hg hk,fun k hk=> ?_,fun k h0 h1 h=> ?_⟩
 ·obtain⟨hne,hl⟩:=Apm.1 hk;obtain⟨r1,r2⟩:=T.rise k hl;obtain⟨_,c1,c2⟩:=Bmw (t:=t) (t':=rem t g) (N:=N) (g:=g) (fun x hx=>by rw[Alv hx]) (by rw[A5n]) N.toNat k
  refine⟨by omega,fun x hx hc=> ?_⟩
  by_cases e:x=g
  ·subst e;unfold Cu at hc;rw[A5n]at hc
   have:=hc.1.1.1;simp at this
  ·rcases c2 with c2|c2
   ·rw[c2]at hx;exact e (Z32 hx).symm
   ·rw[c2]at hx;exact r2 x hx ((A1n e).1 hc).2
 ·by_cases e:k=g
  ·subst e;rw[A5n];exact⟨rfl,rfl,rfl,rfl⟩
  ·rw[Alv e]at h ⊢;simp only at h ⊢;obtain⟨a,b,c,d⟩:=T.bare k h0 h1 h
   have G:=T.link g hg;refine⟨a,?_,?_,?_⟩
   ·rw[if_neg (fun q=>by have:=hg.1;omega)];exact b
   ·rw[if_neg]
    ·exact c
    ·intro q
     have:=(G.prev (by omega)).1.2
     rw[←q,Int.add_sub_cancel,h]at this;cases this
   ·rw[if_neg]
    ·exact d
    ·intro q
     have:=(G.next (by omega)).1.2
     rw[←q,Int.add_sub_cancel,h]at this;cases this
theorem Bvm (T:Avp N t){r:Int->Nat}(W:Wf N t r){g:Int}(hg:Lv N t g):Wf N (rem t g) r:=by
 intro x hx h;obtain⟨hne,hl⟩:=Apm.1 hx;rw[Alv hne]at h ⊢;simp only at h ⊢
 by_cases hA:x+1=(t g).nx
 ·rw[if_pos hA]at h ⊢
  have h1:=W g hg h
  have h2:=((T.link g hg).next (by have:=hl.1;omega)).2.1
  rw[←hA,Int.add_sub_cancel]at h2
  have h3:=W x hl (by have:=hg.1;omega)
  rw[h2,Int.add_sub_cancel]at h3;omega
 ·rw[if_neg hA]at h ⊢;exact W x hl h
end
section
variable (N:Int) (t:Int->Lk)
def kf (f:Int):List Int:=kids N t N.toNat (f - 1)
structure Bax (fs:List Int):Prop where
 nodup:(fs.flatMap (kf N t)).Nodup
 iff: ∀x,x∈fs.flatMap (kf N t) ↔ Oo N t x
 top: ∀f∈fs,f≠0->(0≤f - 1∧f - 1<N)∧(t (f - 1)).pv=0
inductive Dd (S:List Int):Int->Prop
 |base {y:Int}:y∈S->Dd S y
 |step {y:Int}:Lv N t y->Cu N t y->Dd S ((t y).up - 1)->Dd S y
inductive Al:Int->Prop
 |root {y:Int}:Lv N t y->(t y).up=0->Al y
 |step {y:Int}:Lv N t y->Cu N t y->Al ((t y).up - 1)->Al y
def Odr:List Int->List (Int×Int)->Prop
 |_,[]=>True
 |seen,e::q=>(∀y,Dd N t (kf N t e.2) y-> ∀x,Lv N t x->(t x).up=y+1-> ¬Cu N t x->x∈seen)∧(e.1≠0-> ∀x,Lv N t x->(t x).up=e.1->x∈seen++kf N t e.2)∧Odr (seen++kf N t e.2) q
structure Akm (qs:List (Int×Int)):Prop where
 tree:Avp N t
 wf: ∃r,Wf N t r
 uw: ∃d:Int->Nat,∀x,Lv N t x->Cu N t x->d ((t x).up - 1)<d x
 kid:Bax N t (qs.map (·.2))
 ord:Odr N t [] qs
 gone: ∀x,Lv N t x->(t x).up≠0->(t ((t x).up - 1)).lv=true∨(t ((t x).up - 1)).gn=true
 ep: ∀x,Lv N t x->Lv N t ((t x).up - 1)->(t x).ue≤(t ((t x).up - 1)).ep
 slot: ∀e∈qs,e.1≠0->(t (e.1 - 1)).lv=false∧(t (e.1 - 1)).gn=true
end
section
variable {N:Int} {t:Int->Lk}
theorem Al.lv{y:Int}(h:Al N t y):Lv N t y:=by cases h<;>assumption
theorem Al.noOr{y:Int}(h:Al N t y): ¬Oo N t y:=by
 intro g;cases h with
 |root a b=>exact g.2.1 b
 |step a b c=>exact g.2.2 b
theorem Al.noDd{S:List Int}(hS: ∀x∈S,Oo N t x){y:Int}(h:Al N t y): ¬Dd N t S y:=by
 induction h with
 |root a b=>
  intro g;cases g with
  |base g=>exact(hS _ g).2.1 b
  |step g1 g2 g3=>have:=g2.1.1.1;omega
 |step a b c ih=>
  intro g;cases g with
  |base g=>exact(hS _ g).2.2 b
  |step g1 g2 g3=>exact ih g3
theorem Dd.in{S:List Int}(hS: ∀x∈S,0≤x∧x<N){y:Int}(h:Dd N t S y):0≤y∧y<N:=by
 cases h with
 |base h=>exact hS _ h
 |step h _ _=>exact h.1
theorem Bgd{f x:Int}(h:x∈kf N t f):0≤x∧x<N:=Bav _ _ _ h
theorem Bax.or{fs:List Int}(h:Bax N t fs){f:Int}(hf:f∈fs){x:Int}(hx:x∈kf N t f):Oo N t x:=
 (h.iff x).1 (List.mem_flatMap.2 ⟨f,hf,hx⟩)
theorem sib (T:Avp N t){g x:Int}(hg:Lv N t g)(h:x+1=(t g).pv)(hx:0≤x):Lv N t x∧(t g).up=(t x).up∧(t g).ue=(t x).ue:=by
 obtain⟨a,b⟩:=(T.link g hg).prev (by omega)
 rw[←h,Int.add_sub_cancel]at a b;obtain⟨_,_,c,d⟩:=(T.link x a).next (by rw[b];have:=hg.1;omega)
 rw[b,Int.add_sub_cancel]at c d;exact⟨a,c,d⟩
theorem Bmz{g x:Int}(h1:(t g).up=(t x).up)(h2:(t g).ue=(t x).ue):Cu N t g ↔ Cu N t x:=by unfold Cu;rw[h1,h2]
theorem A2p (T:Avp N t){r:Int->Nat}(W:Wf N t r){g:Int}(hg:Lv N t g)(x:Int):x∈kf N t (t g).fi ↔ Lv N t x∧(t x).up=g+1∧Cu N t x:=by
 unfold kf;rw[Bmv T W hg];constructor
 ·rintro⟨a,b,c⟩;refine⟨a,b,?_⟩;unfold Cu;rw[b,c,Int.add_sub_cancel];exact⟨hg,rfl⟩
 ·rintro⟨a,b,c⟩;refine⟨a,b,?_⟩
  have:=c.2;rw[b,Int.add_sub_cancel]at this;exact this.symm
theorem Beq{g f:Int}(h: ∀x∈kf N t f,x≠g∧x+1≠(t g).pv):kf N (rem t g) f=kf N t f:=
 A26 _ _ fun x hx=>by
  obtain⟨a,b⟩:=h x hx;rw[Alv a];simp only;rw[if_neg b]
theorem A10 (T:Avp N t){r:Int->Nat}(W:Wf N t r){g:Int}(hg:Lv N t g):kf N (rem t g) (t g).fi=kf N t (t g).fi:=by
 refine Beq fun x hx=> ?_;obtain⟨a,b,c⟩:=(A2p T W hg x).1 hx;constructor
 ·rintro rfl;exact A4i T hg c b
 ·intro e;obtain⟨_,h1,h2⟩:=sib T hg e a.1.1;exact A4i T hg ((Bmz h1 h2).2 c) (h1.trans b)
theorem Bay (T:Avp N t){g f:Int}(hg:Lv N t g)(h:(0≤f - 1∧f - 1<N)∧(t (f - 1)).pv=0):(0≤f - 1∧f - 1<N)∧(rem t g (f - 1)).pv=0:=by
 refine⟨h.1,?_⟩
 by_cases e:f - 1=g
 ·rw[e,A5n]
 ·rw[Alv e];simp only;rw[if_neg]
  ·exact h.2
  ·intro q
   have:=((T.link g hg).next (by omega)).2.1
   rw[←q,Int.add_sub_cancel,h.2]at this
   have:=hg.1;omega
theorem A9m (T:Avp N t){g:Int}(hg:Lv N t g)(h:(t g).fi≠0):(0≤(t g).fi - 1∧(t g).fi - 1<N)∧(rem t g ((t g).fi - 1)).pv=0:=by
 obtain⟨a,b,_⟩:=(T.link g hg).first h;exact Bay T hg ⟨a.1,b⟩
theorem Aip{α:Type}{a b:List α}:(a++b).Nodup ↔ a.Nodup∧b.Nodup∧ ∀x∈a,x ∉ b:=by
 rw[List.nodup_append];exact⟨fun h=>⟨h.1,h.2.1,fun x h1 h2=>h.2.2 x h1 x h2 rfl⟩,fun h=>⟨h.1,h.2.1,fun x h1 y h2 e=>h.2.2 x h1 (e ▸ h2)⟩⟩
theorem At1{α β:Type}{l:List α}{f g:α->List β}(h: ∀x∈l,f x=g x):l.flatMap f=l.flatMap g:=by
 induction l with
 |nil=>rfl
 |cons x l ih=>rw[List.flatMap_cons,List.flatMap_cons,h x (by simp),ih fun y hy=>h y (by simp[hy])]
theorem A6d (T:Avp N t){g:Int}(hg:Lv N t g)(ho: ¬Oo N t g){fs:List Int}(K:Bax N t fs){f:Int}(hf:f∈fs):kf N (rem t g) f=kf N t f:=by
 refine Beq fun x hx=> ?_
 have hx:=K.or hf hx;constructor
 ·rintro rfl;exact ho hx
 ·intro e;obtain⟨_,h1,h2⟩:=sib T hg e hx.1.1.1;exact ho ⟨hg,h1 ▸ hx.2.1,fun c=>hx.2.2 ((Bmz h1 h2).1 c)⟩
theorem Bib (T:Avp N t){r:Int->Nat}(W:Wf N t r){g:Int}(hg:Lv N t g)(ho: ¬Oo N t g){fs:List Int}(K:Bax N t fs):Bax N (rem t g) (fs++[(t g).fi]):=by
 have e:(fs++[(t g).fi]).flatMap (kf N (rem t g))=fs.flatMap (kf N t)++kf N t (t g).fi:=by
  rw[List.flatMap_append,List.flatMap_cons,List.flatMap_nil,List.append_nil,A10 T W hg,At1 fun f hf=>A6d T hg ho K hf]
 refine⟨?_,fun x=> ?_,fun f hf h0=> ?_⟩
 ·rw[e,Aip];exact⟨K.nodup,A3x T W _ hg,fun x h1 h2=>((K.iff x).1 h1).2.2 ((A2p T W hg x).1 h2).2.2⟩
 ·rw[e,Mh,K.iff,A2p T W hg,Bmx hg.1.1];constructor
  ·rintro(h|⟨a,b,c⟩)
   ·exact⟨fun q=>ho (q ▸ h),.inl h⟩
   ·exact⟨fun q=>A4i T hg (q ▸ c) (q ▸ b),.inr ⟨a,b⟩⟩
  ·rintro⟨a,h|⟨b,c⟩⟩
   ·exact .inl h
   ·by_cases d:Cu N t x
    ·exact .inr ⟨b,c,d⟩
    ·exact .inl ⟨b,by have:=hg.1.1;omega,d⟩
 ·rw[Mh,Px]at hf;rcases hf with hf|rfl
  ·exact Bay T hg (K.top f hf h0)
  ·exact A9m T hg h0
theorem A5o{f:Int}(h:0≤f - 1∧f - 1<N):f - 1∈kf N t f:=by
 unfold kf;obtain⟨m,hm⟩: ∃m,N.toNat=m+1:=⟨N.toNat - 1,by omega⟩
 rw[hm,kids,if_pos h];simp
theorem A41 (T:Avp N t){r:Int->Nat}(W:Wf N t r){g:Int}(hg:Lv N t g):kf N t (g+1)=g::kf N t (t g).nx:=by
 unfold kf;obtain⟨m,hm⟩: ∃m,N.toNat=m+1:=⟨N.toNat - 1,by have:=hg.1;omega⟩
 rw[Int.add_sub_cancel,hm,kids,if_pos hg.1]
 congr 1
 rw[Bh8,List.take_of_length_le]
 by_cases h0:(t g).nx=0
 ·rw[h0,Axz];exact Z21 _
 ·obtain⟨a,b,_⟩:=(T.link g hg).next h0
  have hr:=W _ a (by rw[b];have:=hg.1;omega)
  rw[b,Int.add_sub_cancel]at hr
  have hn:g ∉ kids N t (m+1) ((t g).nx - 1):=fun h=>by
   have:=(A9l T W (m+1) _ a).1 g h;omega
  have:=Baw (N:=N) (List.nodup_cons.2 ⟨hn,A40 T W (m+1) a⟩) (fun y hy=>by
   rcases Ef.1 hy with rfl|hy
   ·exact hg.1
   ·exact Bav _ _ y hy)
  simp only[Z28]at this;omega
theorem Bm0 (T:Avp N t){r:Int->Nat}(W:Wf N t r){g:Int}(hg:Lv N t g){fs:List Int}(K:Bax N t ((g+1)::fs)):
  (∀f∈(t g).nx::fs,kf N (rem t g) f=kf N t f)∧Bax N (rem t g) ((t g).fi::(t g).nx::fs):=by
 have h0:(t g).pv=0:=by have:=(K.top (g+1) (by simp) (by have:=hg.1;omega)).2;rwa[Int.add_sub_cancel]at this
 have ho:Oo N t g:=K.or (f:=g+1) (by simp) (by have:=A5o (N:=N) (t:=t) (f:=g+1) (by rw[Int.add_sub_cancel];exact hg.1);rwa[Int.add_sub_cancel]at this)
 have hnd:=K.nodup;rw[List.flatMap_cons,A41 T W hg]at hnd;rw[Z45,List.nodup_cons]at hnd
 have hold: ∀f∈(t g).nx::fs,kf N (rem t g) f=kf N t f:=fun f hf=>Beq fun x hx=>by
  refine⟨?_,fun e=>by have:=Bgd hx;omega⟩
  rintro rfl;refine hnd.1 ?_;rcases Ef.1 hf with rfl|hf
  ·exact List.mem_append_left _ hx
  ·exact List.mem_append_right _ (List.mem_flatMap.2 ⟨f,hf,hx⟩)
 have e:((t g).fi::(t g).nx::fs).flatMap (kf N (rem t g))=kf N t (t g).fi++((t g).nx::fs).flatMap (kf N t):=by
  rw[List.flatMap_cons,A10 T W hg,At1 hold]
 have hsub: ∀x,x∈((t g).nx::fs).flatMap (kf N t) ↔ Oo N t x∧x≠g:=by
  intro x
  have:=K.iff x;rw[List.flatMap_cons,A41 T W hg,Z45,Ef]at this;rw[List.flatMap_cons];constructor
  ·intro h;exact⟨this.1 (.inr h),fun q=>hnd.1 (q ▸ h)⟩
  ·rintro⟨h,hne⟩;rcases this.2 h with q|q
   ·exact absurd q hne
   ·exact q
 refine⟨hold,?_,fun x=> ?_,fun f hf h1=> ?_⟩
 ·rw[e,Aip];refine⟨A3x T W _ hg,by rw[List.flatMap_cons];exact hnd.2,fun x h1 h2=>((hsub x).1 h2).1.2.2 ((A2p T W hg x).1 h1).2.2⟩
 ·rw[e,Mh,hsub,A2p T W hg,Bmx hg.1.1];constructor
  ·rintro(⟨a,b,c⟩|⟨a,b⟩)
   ·exact⟨fun q=>A4i T hg (q ▸ c) (q ▸ b),.inr ⟨a,b⟩⟩
   ·exact⟨b,.inl a⟩
  ·rintro⟨a,h|⟨b,c⟩⟩
   ·exact .inr ⟨h,a⟩
   ·by_cases d:Cu N t x
    ·exact .inl ⟨b,c,d⟩
    ·exact .inr ⟨⟨b,by have:=hg.1.1;omega,d⟩,a⟩
 ·rcases Ef.1 hf with rfl|hf
  ·exact A9m T hg h1
  ·rcases Ef.1 hf with rfl|hf
   ·obtain⟨a,b,_⟩:=(T.link g hg).next h1
    have hm:(t g).nx - 1≠g:=fun q=>by rw[q]at b;have:=hg.1;omega
    refine⟨a.1,?_⟩;rw[Alv hm];simp only;rw[if_pos (by omega)]
    exact h0
   ·exact Bay T hg (K.top f (by simp[hf]) h1)
theorem A74{t':Int->Lk}: ∀(q:List (Int×Int)) (seen seen':List Int),(∀e∈q,kf N t' e.2=kf N t e.2)→
  (∀e∈q,∀y,Dd N t' (kf N t' e.2) y->Dd N t (kf N t e.2) y∧ ∀x,Lv N t' x->(t' x).up=y+1-> ¬Cu N t' x->x∈seen'∨Lv N t x∧(t x).up=y+1∧ ¬Cu N t x)→
  (∀e∈q,e.1≠0-> ∀x,Lv N t' x->(t' x).up=e.1->x∈seen'∨Lv N t x∧(t x).up=e.1)→
  (∀x∈seen,Lv N t' x->x∈seen')->Odr N t seen q->Odr N t' seen' q:=by
 intro q
 induction q with
 |nil=>intros;trivial
 |cons e q ih=>
  intro seen seen' hk hd hsl hs h;obtain⟨h1,h2,h3⟩:=h
  have hke:=hk e (by simp)
  refine⟨fun y hy x hx hu hc=> ?_,fun h0 x hx hu=> ?_,?_⟩
  ·obtain⟨a,b⟩:=hd e (by simp) y hy
   rcases b x hx hu hc with b|⟨b1,b2,b3⟩
   ·exact b
   ·exact hs x (h1 y a x b1 b2 b3) hx
  ·rw[hke,Mh];rcases hsl e (by simp) h0 x hx hu with b|⟨b1,b2⟩
   ·exact .inl b
   ·rcases Mh.1 (h2 h0 x b1 b2)with b|b
    ·exact .inl (hs x b hx)
    ·exact .inr b
  ·rw[hke];refine ih (seen++kf N t e.2) _ (fun f hf=>hk f (by simp[hf])) (fun f hf y hy=> ?_) (fun f hf h0 x hx hu=> ?_) (fun x hx hl=> ?_) h3
   ·obtain⟨a,b⟩:=hd f (by simp[hf]) y hy
    refine⟨a,fun x hx hu hc=> ?_⟩;rcases b x hx hu hc with b|b
    ·exact .inl (List.mem_append_left _ b)
    ·exact .inr b
   ·rcases hsl f (by simp[hf]) h0 x hx hu with b|b
    ·exact .inl (List.mem_append_left _ b)
    ·exact .inr b
   ·rcases Mh.1 hx with h|h
    ·exact List.mem_append_left _ (hs x h hl)
    ·exact List.mem_append_right _ h
theorem Bge: ∀(q:List (Int×Int)) (seen:List Int) (e:Int×Int),Odr N t seen q→
  (∀y,Dd N t (kf N t e.2) y-> ∀x,Lv N t x->(t x).up=y+1-> ¬Cu N t x->x∈seen++q.flatMap (fun e=>kf N t e.2))→
  (e.1≠0-> ∀x,Lv N t x->(t x).up=e.1->x∈(seen++q.flatMap (fun e=>kf N t e.2))++kf N t e.2)->Odr N t seen (q++[e]):=by
 intro q
 induction q with
 |nil=>intro seen e h h1 h2;rw[List.flatMap_nil,List.append_nil]at h1 h2;exact⟨h1,h2,trivial⟩
 |cons f q ih=>
  intro seen e h h1 h2;obtain⟨a,b,c⟩:=h;rw[List.flatMap_cons,←Z31]at h1 h2;exact⟨a,b,ih _ e c h1 h2⟩
theorem Baz{g:Int}{S:List Int}{y:Int}(h:Dd N (rem t g) S y):Dd N t S y:=by
 induction h with
 |base h=>exact .base h
 |step a b c ih=>
  obtain⟨h1,h2⟩:=Apm.1 a;rw[Alv h1]at ih;exact .step h2 ((A1n h1).1 b).2 ih
theorem A3y{g:Int}{S:List Int}(hS:g ∉ S){y:Int}(h:Dd N (rem t g) S y):y≠g:=by
 cases h with
 |base h=>exact fun e=>hS (e ▸ h)
 |step a _ _=>exact(Apm.1 a).1
theorem A75{qs qs':List (Int×Int)}(F:Akm N t qs){g:Int}(hg:Lv N t g)(hK:Bax N (rem t g) (qs'.map (·.2)))(hO:Odr N (rem t g) [] qs')(hs: ∀e∈qs',e.1≠0->e.1=g+1∨e.1∈qs.map (·.1)):Akm N (rem t g) qs':=by
 obtain⟨r,W⟩:=F.wf;obtain⟨d,U⟩:=F.uw;refine⟨A73 F.tree hg,⟨r,Bvm F.tree W hg⟩,⟨d,fun x hx hc=> ?_⟩,hK,hO,fun x hx h=> ?_,fun x hx h=> ?_,fun e he h0=> ?_⟩
 ·obtain⟨h1,h2⟩:=Apm.1 hx;rw[Alv h1];exact U x h2 ((A1n h1).1 hc).2
 ·obtain⟨h1,h2⟩:=Apm.1 hx;rw[Alv h1]at h ⊢;simp only at h ⊢
  by_cases e:(t x).up - 1=g
  ·rw[e,A5n];exact .inr rfl
  ·rw[Alv e];exact F.gone x h2 h
 ·obtain⟨h1,h2⟩:=Apm.1 hx;rw[Alv h1]at h ⊢;simp only at h ⊢;obtain⟨h3,h4⟩:=Apm.1 h;rw[Alv h3];exact F.ep x h2 h4
 ·by_cases e1:e.1 - 1=g
  ·rw[e1,A5n];exact⟨rfl,rfl⟩
  ·rw[Alv e1];rcases hs e he h0 with h|h
   ·omega
   ·obtain⟨a,ha,hb⟩:=Ex.1 h;simp only at hb ⊢;rw[←hb];exact F.slot a ha (by rw[hb];exact h0)
theorem Ba0{qs:List (Int×Int)}(F:Akm N t qs){g:Int}(hg:Al N t g):Akm N (rem t g) (qs++[(g+1,(t g).fi)]):=by
 obtain⟨r,W⟩:=F.wf
 have hl:=hg.lv
 have T:=F.tree
 have K:=F.kid
 have hK:=Bib T W hl hg.noOr K;rw[show qs.map (·.2)++[(t g).fi]=(qs++[(g+1,(t g).fi)]).map (·.2)by simp]at hK
 have hold: ∀e∈qs,kf N (rem t g) e.2=kf N t e.2:=fun e he=>A6d T hl hg.noOr K (Ex.2 ⟨e,he,rfl⟩)
 have hgn: ∀e∈qs,g ∉ kf N t e.2:=fun e he h=>hg.noOr (K.or (Ex.2 ⟨e,he,rfl⟩) h)
 have hflat:qs.flatMap (fun e=>kf N (rem t g) e.2)=(qs.map (·.2)).flatMap (kf N t):=by
  rw[List.flatMap_map];exact At1 hold
 refine A75 F hl hK (Bge _ _ _ (A74 qs [] [] hold (fun e he y hy=> ?_) (fun e he h0 x hx hu=> ?_) (fun x hx=>by cases hx) F.ord) (fun y hy x hx hu hc=> ?_) (fun _ x hx hu=> ?_)) (fun e he h0=> ?_)
 ·have hy2:=A3y (by rw[hold e he];exact hgn e he) hy
  refine⟨by rw[←hold e he];exact Baz hy,fun x hx hu hc=> .inr ?_⟩
  obtain⟨a,b⟩:=Apm.1 hx;rw[Alv a]at hu;simp only at hu;exact⟨b,hu,fun h=>hc ((A1n a).2 ⟨by omega,h⟩)⟩
 ·obtain⟨a,b⟩:=Apm.1 hx;rw[Alv a]at hu;exact .inr ⟨b,hu⟩
 ·rw[Z38,hflat,K.iff];obtain⟨a,b⟩:=Apm.1 hx;rw[Alv a]at hu;simp only at hu;rw[A10 T W hl]at hy
  have hgc:g ∉ kf N t (t g).fi:=fun h=>by obtain⟨_,h2,h3⟩:=(A2p T W hl g).1 h;exact A4i T hl h3 h2
  have hy2:=A3y hgc hy
  have hy0:=Dd.in (fun x hx=>Bgd hx) hy;exact⟨b,by omega,fun h=>hc ((A1n a).2 ⟨by omega,h⟩)⟩
 ·rw[Z38,hflat,A10 T W hl,Mh,K.iff,A2p T W hl];obtain⟨a,b⟩:=Apm.1 hx;rw[Alv a]at hu;simp only at hu
  by_cases c:Cu N t x
  ·exact .inr ⟨b,hu,c⟩
  ·exact .inl ⟨b,by have:=hl.1;omega,c⟩
 ·rcases Mh.1 he with he|he
  ·exact .inr (Ex.2 ⟨e,he,rfl⟩)
  ·rw[Px]at he;rw[he];exact .inl rfl
theorem Bco{qs:List (Int×Int)}{s g:Int}(F:Akm N t ((s,g+1)::qs))(h0:0≤g):Lv N t g∧(t g).pv=0∧Akm N (rem t g) ((g+1,(t g).fi)::(s,(t g).nx)::qs):=by
 obtain⟨r,W⟩:=F.wf
 have T:=F.tree
 have K:=F.kid;rw[Z8]at K;obtain⟨k1,k2⟩:=K.top (g+1) (by simp) (by omega)
 have hgm:g∈kf N t (g+1):=by have:=A5o (N:=N) (t:=t) k1;rwa[Int.add_sub_cancel]at this
 have ho:Oo N t g:=K.or (f:=g+1) (by simp) hgm
 have hl:=ho.1;rw[Int.add_sub_cancel]at k2;obtain⟨hold,hK⟩:=Bm0 T W hl K;obtain⟨o1,o2,o3⟩:=F.ord;simp only[Z38]at o1 o2 o3
 have hsp:=A41 T W hl
 have hgc:g ∉ kf N t (t g).fi:=fun h=>by obtain⟨_,h2,h3⟩:=(A2p T W hl g).1 h;exact A4i T hl h3 h2
 have hchild: ∀y,Dd N t (kf N t (t g).fi) y->Dd N t (kf N t (g+1)) y:=by
  intro y hy
  induction hy with
  |base h=>
   obtain⟨a,b,c⟩:=(A2p T W hl _).1 h;exact .step a c (by rw[b,Int.add_sub_cancel];exact .base hgm)
  |step a b c ih=>exact .step a b ih
 have hnone: ∀y,Dd N t (kf N t (g+1)) y-> ∀x,Lv N t x->(t x).up=y+1->Cu N t x:=fun y hy x hx hu=>Classical.byContradiction fun h=>by have:=o1 y hy x hx hu h;cases this
 refine⟨hl,k2,A75 F hl hK ⟨fun y hy x hx hu hc=> ?_,fun _ x hx hu=> ?_,fun y hy x hx hu hc=> ?_,fun hs x hx hu=> ?_,?_⟩ (fun e he h1=> ?_)⟩
 ·exfalso;rw[A10 T W hl]at hy
  have hy2:=A3y hgc hy;obtain⟨a,b⟩:=Apm.1 hx;rw[Alv a]at hu;simp only at hu;exact hc ((A1n a).2 ⟨by omega,hnone y (hchild y (Baz hy)) x b hu⟩)
 ·rw[Z38,A10 T W hl,A2p T W hl];obtain⟨a,b⟩:=Apm.1 hx;rw[Alv a]at hu;simp only at hu;exact⟨b,hu,hnone g (.base hgm) x b hu⟩
 ·exfalso;rw[hold _ (by simp)]at hy
  have hgt:g ∉ kf N t (t g).nx:=by
   have:=K.nodup;rw[List.flatMap_cons,hsp,Z45,List.nodup_cons]at this;exact fun h=>this.1 (List.mem_append_left _ h)
  have hy2:=A3y hgt hy;obtain⟨a,b⟩:=Apm.1 hx;rw[Alv a]at hu;simp only at hu
  have hd:Dd N t (kf N t (g+1)) y:=by
   have:=Baz hy;rw[hsp];clear hy hu
   induction this with
   |base h=>exact .base (Z56 _ h)
   |step a b c ih=>
    exact .step a b (Classical.byCases (fun e:(t _).up - 1=g=>by rw[e];exact .base (by simp)) (fun e=>ih e))
  exact hc ((A1n a).2 ⟨by omega,hnone y hd x b hu⟩)
 ·rw[Z38,A10 T W hl,hold _ (by simp)]
  obtain⟨a,b⟩:=Apm.1 hx;rw[Alv a]at hu;simp only at hu
  have:=o2 hs x b hu;rw[hsp]at this;rcases Ef.1 this with h|h
  ·exact absurd h a
  ·exact List.mem_append_right _ h
 ·rw[Z38,A10 T W hl,hold _ (by simp)]
  have hq: ∀e∈qs,e.2∈(t g).nx::qs.map (·.2):=fun e he=>Z56 _ (Ex.2 ⟨e,he,rfl⟩)
  have hnd:=K.nodup;rw[List.flatMap_cons,hsp,Z45,List.nodup_cons]at hnd;refine A74 qs (kf N t (g+1)) _ (fun e he=>hold _ (hq e he)) (fun e he y hy=> ?_) (fun e he _ x hx hu=> ?_) (fun x hx hl'=> ?_) o3
  ·rw[hold _ (hq e he)]at hy
   have hy2:=A3y (fun h=>hnd.1 (List.mem_append_right _ (List.mem_flatMap.2 ⟨e.2,Ex.2 ⟨e,he,rfl⟩,h⟩))) hy;refine⟨Baz hy,fun x hx hu hc=> .inr ?_⟩;obtain⟨a,b⟩:=Apm.1 hx;rw[Alv a]at hu;simp only at hu;exact⟨b,hu,fun h=>hc ((A1n a).2 ⟨by omega,h⟩)⟩
  ·obtain⟨a,b⟩:=Apm.1 hx;rw[Alv a]at hu;exact .inr ⟨b,hu⟩
  ·rw[hsp]at hx;rcases Ef.1 hx with h|h
   ·exact absurd h (Apm.1 hl').1
   ·exact List.mem_append_right _ h
 ·rcases Ef.1 he with rfl|he
  ·exact .inl rfl
  ·rcases Ef.1 he with rfl|he
   ·exact .inr (by simp)
   ·exact .inr (Ex.2 ⟨e,Z56 _ he,rfl⟩)
end
section
variable {N:Int} {t:Int->Lk}
def emp (t:Int->Lk)(k x:Int):Lk:=if x=k then⟨(t k).lv,(t k).gn,(t k).ep+1,(t k).up,(t k).ue,0,(t k).nx,(t k).pv⟩else t x
theorem A9n{k:Int}:emp t k k=⟨(t k).lv,(t k).gn,(t k).ep+1,(t k).up,(t k).ue,0,(t k).nx,(t k).pv⟩:=if_pos rfl
theorem A6y{k x:Int}(h:x≠k):emp t k x=t x:=if_neg h
theorem Ago (k x:Int):(emp t k x).lv=(t x).lv∧(emp t k x).gn=(t x).gn∧(emp t k x).up=(t x).up∧(emp t k x).ue=(t x).ue∧(emp t k x).nx=(t x).nx∧(emp t k x).pv=(t x).pv:=by
 by_cases h:x=k
 ·subst h;rw[A9n];exact⟨rfl,rfl,rfl,rfl,rfl,rfl⟩
 ·rw[A6y h];exact⟨rfl,rfl,rfl,rfl,rfl,rfl⟩
theorem Aro{k x:Int}:Lv N (emp t k) x ↔ Lv N t x:=by unfold Lv;rw[(Ago k x).1]
theorem A42 (hE: ∀x,Lv N t x->Lv N t ((t x).up - 1)->(t x).ue≤(t ((t x).up - 1)).ep){k x:Int}(hx:Lv N t x):Cu N (emp t k) x ↔ (t x).up≠k+1∧Cu N t x:=by
 unfold Cu;rw[Aro,(Ago k x).2.2.1,(Ago k x).2.2.2.1]
 by_cases h:(t x).up - 1=k
 ·rw[h,A9n];simp only;constructor
  ·rintro⟨a,b⟩
   have:=hE x hx (by rw[h];exact a)
   rw[h]at this;omega
  ·rintro⟨a,_⟩;omega
 ·rw[A6y h];exact⟨fun a=>⟨by omega,a⟩,fun a=>a.2⟩
theorem A7c{k x:Int}(hx:(t x).up≠k+1):Cu N (emp t k) x ↔ Cu N t x:=by
 unfold Cu;rw[Aro,(Ago k x).2.2.1,(Ago k x).2.2.2.1,A6y (by omega)]
theorem A77 (k f:Int):kf N (emp t k) f=kf N t f:=A26 _ _ fun x _=>(Ago k x).2.2.2.2.1
theorem Bm1 (k:Int)(n:Nat)(x:Int):rise N (emp t k) n x=rise N t n x:=A1z _ _ fun x _=>(Ago k x).2.2.1
theorem Bm2 (T:Avp N t)(hE: ∀x,Lv N t x->Lv N t ((t x).up - 1)->(t x).ue≤(t ((t x).up - 1)).ep){k:Int}(hk:Lv N t k):Avp N (emp t k):=by
 refine⟨fun x hx=> ?_,fun x hx=> ?_,fun x h0 h1 h=> ?_⟩
 ·have hl:=Aro.1 hx
  have X:=T.link x hl;obtain⟨s1,s2,s3,s4,s5,s6⟩:=Ago (t:=t) k x;refine⟨fun h=> ?_,fun h=> ?_,fun h=> ?_,fun h=> ?_,fun h hc=> ?_⟩
  ·by_cases e:x=k
   ·subst e;rw[A9n]at h;exact absurd rfl h
   ·rw[A6y e]at h ⊢;obtain⟨a,b,c,d⟩:=X.first h;obtain⟨q1,q2,q3,q4,q5,q6⟩:=Ago (t:=t) k ((t x).fi - 1);rw[Aro,q6,q3,q4];exact⟨a,b,c,d⟩
  ·rw[s5]at h ⊢;obtain⟨q1,q2,q3,q4,q5,q6⟩:=Ago (t:=t) k ((t x).nx - 1);rw[Aro,q6,q3,q4,s3,s4];exact X.next h
  ·rw[s6]at h ⊢;rw[Aro,(Ago k _).2.2.2.2.1];exact X.prev h
  ·rw[s3]at h ⊢;exact X.up h
  ·rw[s6]at h;obtain⟨a,b⟩:=(A42 hE hl).1 hc;rw[s3,A6y (by omega)]
   exact X.top h b
 ·have hl:=Aro.1 hx;rw[Bm1];obtain⟨a,b⟩:=T.rise x hl;refine⟨a,fun y hy hc=> ?_⟩
  have hy2:=b y hy
  by_cases e:Lv N t y
  ·exact hy2 ((A42 hE e).1 hc).2
  ·have hin:=Az0 _ _ y (List.mem_of_getLast? hy)
   have:=(T.bare y hin.1 hin.2 (by cases q:(t y).lv with|false=>rfl|true=>exact absurd ⟨hin,q⟩ e)).1
   unfold Cu at hc;rw[(Ago k y).2.2.1,this]at hc
   have:=hc.1.1.1;omega
 ·by_cases e:x=k
  ·subst e;rw[A9n]at h;have:=hk.2;simp only at h;rw[h]at this;cases this
  ·rw[A6y e]at h ⊢;exact T.bare x h0 h1 h
theorem Bm3 (hE: ∀x,Lv N t x->Lv N t ((t x).up - 1)->(t x).ue≤(t ((t x).up - 1)).ep){k x:Int}(hk:0≤k):Oo N (emp t k) x ↔ Oo N t x∨Lv N t x∧(t x).up=k+1:=by
 unfold Oo;rw[Aro,(Ago k x).2.2.1];constructor
 ·rintro⟨a,b,c⟩
  by_cases e:(t x).up=k+1
  ·exact .inr ⟨a,e⟩
  ·exact .inl ⟨a,b,fun d=>c ((A42 hE a).2 ⟨e,d⟩)⟩
 ·rintro(⟨a,b,c⟩|⟨a,b⟩)
  ·exact⟨a,b,fun d=>c ((A42 hE a).1 d).2⟩
  ·exact⟨a,by omega,fun d=>((A42 hE a).1 d).1 b⟩
theorem Ba1{qs:List (Int×Int)}(F:Akm N t qs){k:Int}(hg:Al N t k):Akm N (emp t k) (qs++[(0,(t k).fi)]):=by
 obtain⟨r,W⟩:=F.wf;obtain⟨d,U⟩:=F.uw
 have hl:=hg.lv
 have T:=F.tree
 have K:=F.kid
 have hE:=F.ep
 have hflat:qs.flatMap (fun e=>kf N (emp t k) e.2)=(qs.map (·.2)).flatMap (kf N t):=by
  rw[List.flatMap_map];exact At1 fun e _=>A77 k e.2
 have hfl2:((qs++[((0:Int),(t k).fi)]).map (fun e:Int×Int=>e.2)).flatMap (kf N (emp t k))=(qs.map (·.2)).flatMap (kf N t)++kf N t (t k).fi:=by
  rw[Vs,List.flatMap_append,List.flatMap_map,hflat];simp[A77]
 refine⟨Bm2 T hE hl,⟨r,fun x hx h=> ?_⟩,⟨d,fun x hx hc=> ?_⟩,⟨?_,fun x=> ?_,fun f hf h0=> ?_⟩,Bge _ _ _ (A74 qs [] [] (fun e _=>A77 k e.2) (fun e he y hy=> ?_) (fun e he _ x hx hu=> ?_) (fun x hx=>by cases hx) F.ord) (fun y hy x hx hu hc=> ?_) (fun h=>absurd rfl h),fun x hx h=> ?_,fun x hx h=> ?_,fun e he h0=> ?_⟩
 ·rw[(Ago k x).2.2.2.2.2]at h ⊢;exact W x (Aro.1 hx) h
 ·rw[(Ago k x).2.2.1];exact U x (Aro.1 hx) ((A42 hE (Aro.1 hx)).1 hc).2
 ·rw[hfl2,Aip];exact⟨K.nodup,A3x T W _ hl,fun x h1 h2=>((K.iff x).1 h1).2.2 ((A2p T W hl x).1 h2).2.2⟩
 ·rw[hfl2,Mh,K.iff,A2p T W hl,Bm3 hE hl.1.1];constructor
  ·rintro(h|⟨a,b,c⟩)
   ·exact .inl h
   ·exact .inr ⟨a,b⟩
  ·rintro(h|⟨b,c⟩)
   ·exact .inl h
   ·by_cases d:Cu N t x
    ·exact .inr ⟨b,c,d⟩
    ·exact .inl ⟨b,by have:=hl.1.1;omega,d⟩
 ·rw[(Ago k _).2.2.2.2.2];rw[Vs,Mh]at hf;rcases hf with hf|hf
  ·exact K.top f hf h0
  ·simp only[Z8,Pz,Px]at hf;subst hf;obtain⟨a,b,_⟩:=(T.link k hl).first h0;exact⟨a.1,b⟩
 ·have hor: ∀x∈kf N t e.2,Oo N t x:=fun x hx=>K.or (Ex.2 ⟨e,he,rfl⟩) hx
  have hy2:Dd N t (kf N t e.2) y:=by
   rw[A77]at hy
   induction hy with
   |base h=>exact .base h
   |step a b c ih=>
    rw[(Ago k _).2.2.1]at ih;exact .step (Aro.1 a) ((A42 hE (Aro.1 a)).1 b).2 ih
  refine⟨hy2,fun x hx hu hc=> .inr ?_⟩;rw[(Ago k x).2.2.1]at hu
  have hne:y≠k:=fun q=>hg.noDd hor (q ▸ hy2);exact⟨Aro.1 hx,hu,fun h=>hc ((A7c (by omega)).2 h)⟩
 ·rw[(Ago k x).2.2.1]at hu;exact .inr ⟨Aro.1 hx,hu⟩
 ·rw[Z38,hflat,K.iff];rw[(Ago k x).2.2.1]at hu
  have hy0:=Dd.in (fun x hx=>Bgd hx) hy
  have hal:Al N (emp t k) k:=by
   clear hy hu hc hx;cases hg with
   |root a b=>exact .root (Aro.2 a) (by rw[(Ago k _).2.2.1];exact b)
   |step a b c=>
    have key: ∀z,Al N t z->d z<d k->Al N (emp t k) z:=by
     intro z hz
     induction hz with
     |root a b=>intro _;exact .root (Aro.2 a) (by rw[(Ago k _).2.2.1];exact b)
     | @step z a b c ih=>
      intro h1
      have h2:=U z a b
      have hne:(t z).up≠k+1:=fun q=>by rw[q,Int.add_sub_cancel]at h2;omega
      exact .step (Aro.2 a) ((A7c hne).2 b) (by rw[(Ago k _).2.2.1];exact ih (by omega))
    have h2:=U k a b
    have hne:(t k).up≠k+1:=fun q=>by rw[q,Int.add_sub_cancel]at h2;omega
    exact .step (Aro.2 a) ((A7c hne).2 b) (by rw[(Ago k _).2.2.1];exact key _ c h2)
  have hne:y≠k:=fun q=>by
   refine hal.noDd (S:=kf N (emp t k) (t k).fi) (fun z hz=> ?_) (q ▸ hy);rw[A77,A2p T W hl]at hz;exact(Bm3 hE hl.1.1).2 (.inr ⟨hz.1,hz.2.1⟩)
  exact⟨Aro.1 hx,by omega,fun h=>hc ((A7c (by omega)).2 h)⟩
 ·rw[(Ago k x).2.2.1]at h ⊢;rw[(Ago k _).1,(Ago k _).2.1];exact F.gone x (Aro.1 hx) h
 ·rw[(Ago k x).2.2.1]at h ⊢;rw[(Ago k x).2.2.2.1]
  have:=hE x (Aro.1 hx) (Aro.1 h)
  by_cases e:(t x).up - 1=k
  ·rw[e]at this ⊢;rw[A9n];simp only;omega
  ·rw[A6y e];exact this
 ·rw[(Ago k _).1,(Ago k _).2.1];rcases Mh.1 he with he|he
  ·exact F.slot e he h0
  ·rw[Px]at he;rw[he]at h0;exact absurd rfl h0
def clr (t:Int->Lk)(k x:Int):Lk:=if x=k then⟨false,false,0,0,0,0,0,0⟩else t x
theorem A78{qs:List (Int×Int)}{s:Int}(F:Akm N t ((s,0)::qs)):Akm N t qs:=by
 obtain⟨o1,o2,o3⟩:=F.ord
 have h0:kf N t 0=[]:=Axz _
 have K:=F.kid;simp only[h0,List.append_nil]at o3;refine⟨F.tree,F.wf,F.uw,?_,o3,F.gone,F.ep,fun e he=>F.slot e (Z56 _ he)⟩;refine⟨?_,fun x=> ?_,fun f hf=>K.top f (Z56 _ hf)⟩
 ·have:=K.nodup;rw[Z8,List.flatMap_cons,h0,Z38]at this;exact this
 ·have:=K.iff x;rw[Z8,List.flatMap_cons,h0,Z38]at this;exact this
theorem Avq{k:Int}(h:(t k).lv=false){x:Int}:Lv N (clr t k) x ↔ Lv N t x:=by
 unfold Lv clr
 by_cases e:x=k
 ·subst e;rw[if_pos rfl,h]
 ·rw[if_neg e]
theorem Aij{k:Int}(h:(t k).lv=false){x:Int}(hx:Lv N t x):clr t k x=t x:=by
 unfold clr;rw[if_neg];intro e;subst e
 have:=hx.2;rw[h]at this;cases this
theorem A43{k:Int}(h:(t k).lv=false){x:Int}(hx:Lv N t x):Cu N (clr t k) x ↔ Cu N t x:=by
 unfold Cu;rw[Aij h hx,Avq h];constructor
 ·rintro⟨a,b⟩;rw[Aij h a]at b;exact⟨a,b⟩
 ·rintro⟨a,b⟩;rw[Aij h a];exact⟨a,b⟩
theorem Ba2{qs:List (Int×Int)}{s:Int}(F:Akm N t ((s,0)::qs))(h0:s≠0)(hs: ∀e∈qs,e.1≠s):Akm N (clr t (s - 1)) qs:=by
 have F':=A78 F;obtain⟨r,W⟩:=F.wf;obtain⟨d,U⟩:=F.uw
 have T:=F.tree
 have K:=F'.kid;obtain⟨hlv,hgn⟩:=F.slot (s,0) (by simp) h0
 simp only at hlv hgn
 have hno: ∀x,Lv N t x->(t x).up≠s:=fun x hx e=>by
  have:=F.ord.2.1 h0 x hx e;rw[show kf N t ((s,(0:Int)).2)=[] from Axz _]at this
  cases this
 have hnl: ∀x,x≠s - 1->clr t (s - 1) x=t x:=fun x h=>if_neg h
 have hup: ∀x,(0≤x∧x<N)->(clr t (s - 1) x).up=(t x).up:=fun x h=>by
  by_cases e:x=s - 1
  ·subst e;rw[(T.bare _ h.1 h.2 hlv).1];unfold clr;rw[if_pos rfl]
  ·rw[hnl x e]
 have hri: ∀n x,rise N (clr t (s - 1)) n x=rise N t n x:=fun n x=>A1z n x fun y hy=>hup y (Az0 _ _ y hy)
 have hkf: ∀f∈qs.map (·.2),kf N (clr t (s - 1)) f=kf N t f:=fun f hf=>A26 _ _ fun x hx=>by rw[Aij hlv (K.or hf hx).1]
 have hor: ∀x,Oo N (clr t (s - 1)) x ↔ Oo N t x:=fun x=>by
  unfold Oo;rw[Avq hlv];constructor
  ·rintro⟨a,b,c⟩;rw[Aij hlv a]at b;rw[A43 hlv a]at c;exact⟨a,b,c⟩
  ·rintro⟨a,b,c⟩;rw[Aij hlv a,A43 hlv a];exact⟨a,b,c⟩
 have hdd: ∀S y,Dd N (clr t (s - 1)) S y->Dd N t S y:=fun S y h=>by
  induction h with
  |base h=>exact .base h
  |step a b c ih=>
   have a:=(Avq hlv).1 a;rw[Aij hlv a]at ih;exact .step a ((A43 hlv a).1 b) ih
 refine⟨⟨fun x hx=> ?_,fun x hx=> ?_,fun x h0 h1 h=> ?_⟩,⟨r,fun x hx h=> ?_⟩,⟨d,fun x hx hc=> ?_⟩,⟨?_,fun x=> ?_,fun f hf h1=> ?_⟩,?_,fun x hx h=> ?_,fun x hx h=> ?_,fun e he h1=> ?_⟩
 ·have hl:=(Avq hlv).1 hx
  have X:=T.link x hl;refine⟨fun h=> ?_,fun h=> ?_,fun h=> ?_,fun h=> ?_,fun h hc=> ?_⟩
  ·rw[Aij hlv hl]at h ⊢
   have a:=(X.first h).1;rw[Avq hlv,Aij hlv a];exact X.first h
  ·rw[Aij hlv hl]at h ⊢
   have a:=(X.next h).1;rw[Avq hlv,Aij hlv a];exact X.next h
  ·rw[Aij hlv hl]at h ⊢
   have a:=(X.prev h).1;rw[Avq hlv,Aij hlv a];exact X.prev h
  ·rw[Aij hlv hl]at h ⊢;exact X.up h
  ·have hc:=(A43 hlv hl).1 hc;rw[Aij hlv hl]at h ⊢;rw[Aij hlv hc.1];exact X.top h hc
 ·have hl:=(Avq hlv).1 hx;rw[hri];obtain⟨a,b⟩:=T.rise x hl;refine⟨a,fun y hy hc=>b y hy ?_⟩;unfold Cu at hc ⊢;rw[hup y (Az0 _ _ y (List.mem_of_getLast? hy)),Avq hlv]at hc;refine⟨hc.1,?_⟩;rw[←Aij hlv hc.1,hc.2]
  by_cases e:y=s - 1
  ·subst e
   have hin:=Az0 _ _ _ (List.mem_of_getLast? hy)
   have:=(T.bare _ hin.1 hin.2 hlv).1;rw[this]at hc
   have:=hc.1.1.1;omega
  ·rw[hnl y e]
 ·by_cases e:x=s - 1
  ·subst e;unfold clr;rw[if_pos rfl];exact⟨rfl,rfl,rfl,rfl⟩
  ·rw[hnl x e]at h ⊢;exact T.bare x h0 h1 h
 ·have hl:=(Avq hlv).1 hx;rw[Aij hlv hl]at h ⊢;exact W x hl h
 ·have hl:=(Avq hlv).1 hx;rw[Aij hlv hl];exact U x hl ((A43 hlv hl).1 hc)
 ·rw[At1 hkf];exact K.nodup
 ·rw[At1 hkf,K.iff,hor]
 ·obtain⟨a,b⟩:=K.top f hf h1;refine⟨a,?_⟩;rw[Aij hlv (K.or hf (A5o a)).1];exact b
 ·have hk: ∀e∈qs,kf N (clr t (s - 1)) e.2=kf N t e.2:=fun e he=>hkf _ (Ex.2 ⟨e,he,rfl⟩);refine A74 qs [] [] hk (fun e he y hy=>⟨by rw[←hk e he];exact hdd _ _ hy,fun x hx hu hc=> ?_⟩) (fun e he h1 x hx hu=> ?_) (fun x hx=>by cases hx) F'.ord
  ·have hl:=(Avq hlv).1 hx;rw[Aij hlv hl]at hu;exact .inr ⟨hl,hu,fun h=>hc ((A43 hlv hl).2 h)⟩
  ·have hl:=(Avq hlv).1 hx;rw[Aij hlv hl]at hu;exact .inr ⟨hl,hu⟩
 ·have hl:=(Avq hlv).1 hx;rw[Aij hlv hl]at h ⊢;rw[hnl _ (by have:=hno x hl;omega)]
  exact F.gone x hl h
 ·have hl:=(Avq hlv).1 hx;rw[Aij hlv hl]at h ⊢
  have h2:=(Avq hlv).1 h;rw[Aij hlv h2];exact F.ep x hl h2
 ·rw[hnl _ (by have:=hs e he;omega)]
  exact F'.slot e he h1
end
section
variable {N:Int} {t:Int->Lk}
def ins (t:Int->Lk)(k p x:Int):Lk:=
 if x=k then⟨true,false,0,p+1,if p+1=0 then 0 else(t p).ep,0,if p+1=0 then 0 else(t p).fi,0⟩
 else⟨(t x).lv,(t x).gn,(t x).ep,(t x).up,(t x).ue,if x=p then k+1 else(t x).fi,(t x).nx,if p+1≠0∧x+1=(t p).fi then k+1 else(t x).pv⟩
theorem Awb{k p:Int}:ins t k p k=⟨true,false,0,p+1,if p+1=0 then 0 else(t p).ep,0,if p+1=0 then 0 else(t p).fi,0⟩:=if_pos rfl
theorem Atm{k p x:Int}(h:x≠k):ins t k p x=⟨(t x).lv,(t x).gn,(t x).ep,(t x).up,(t x).ue,if x=p then k+1 else(t x).fi,(t x).nx,if p+1≠0∧x+1=(t p).fi then k+1 else(t x).pv⟩:=if_neg h
theorem Bm4: ∀(n:Nat) (x y:Int),y∈rise N t n x->y=x∨ ∃z,z∈rise N t n x∧(t z).up - 1=y:=by
 intro n
 induction n with
 |zero=>intro x y h;cases h
 |succ n ih=>
  intro x y h;rw[rise]at h ⊢;split at h
  ·rename_i h1;rw[if_pos h1];rcases Ef.1 h with h|h
   ·exact .inl h
   ·rcases ih _ y h with h|⟨z,h2,h3⟩
    ·exact .inr ⟨x,by simp,h.symm⟩
    ·exact .inr ⟨z,by simp[h2],h3⟩
  ·cases h
theorem Bgf{d:Int->Nat}(U: ∀x,Lv N t x->Cu N t x->d ((t x).up - 1)<d x): ∀(n:Nat) (x:Int),Al N t x->(∀y∈rise N t n x,d y≤d x∧Al N t y)∧(rise N t n x).Pairwise (fun a b=>d b<d a):=by
 intro n
 induction n with
 |zero=>intro x _;exact⟨fun y h=>(by cases h),.nil⟩
 |succ n ih=>
  intro x hx;rw[rise,if_pos hx.lv.1];cases hx with
  |root a b=>
   have:rise N t n ((t x).up - 1)=[]:=by rw[b];cases n with|zero=>rfl|succ n=>rw[rise,if_neg (by omega)]
   rw[this];exact⟨fun y h=>by rw[Px.1 h];exact⟨Z9 _,.root a b⟩,List.pairwise_singleton ..⟩
  |step a b c=>
   obtain⟨i1,i2⟩:=ih _ c
   have h2:=U x a b;refine⟨fun y h=> ?_,List.pairwise_cons.2 ⟨fun y h=> ?_,i2⟩⟩
   ·rcases Ef.1 h with rfl|h
    ·exact⟨Z9 _,.step a b c⟩
    ·obtain⟨j1,j2⟩:=i1 y h;exact⟨by omega,j2⟩
   ·have:=(i1 y h).1;omega
theorem Bcp{qs:List (Int×Int)}(F:Akm N t qs){k p:Int}(hk:0≤k∧k<N)(hlv:(t k).lv=false)(hgn:(t k).gn=false)(hp:p= -1∨Al N t p∧(rise N t N.toNat p).length<4):Akm N (ins t k p) qs:=by
 obtain⟨r,W⟩:=F.wf;obtain⟨d,U⟩:=F.uw
 have T:=F.tree
 have K:=F.kid
 have hne: ∀ {x},Lv N t x->x≠k:=fun {x} h e=>by subst e;rw[h.2]at hlv;cases hlv
 have hno: ∀x,Lv N t x->(t x).up≠k+1:=fun x hx e=>by
  rcases F.gone x hx (by omega)with h|h
  ·rw[e,Int.add_sub_cancel,hlv]at h;cases h
  ·rw[e,Int.add_sub_cancel,hgn]at h;cases h
 have hp0:p+1≠0->Al N t p:=fun h=>by
  rcases hp with rfl|hp
  ·exact absurd rfl h
  ·exact hp.1
 have hp1: ∀x,Lv N t x->x=p->p+1≠0:=fun x hx e=>by have:=hx.1.1;omega
 have L: ∀x,Lv N (ins t k p) x ↔ x=k∨Lv N t x:=fun x=>by
  unfold Lv
  by_cases e:x=k
  ·subst e;rw[Awb];simp[hk]
  ·rw[Atm e];simp[e]
 have hL: ∀ {x},Lv N t x->Lv N (ins t k p) x:=fun h=>(L _).2 (.inr h)
 have hup: ∀x,x≠k->(ins t k p x).up=(t x).up:=fun x h=>by rw[Atm h]
 have C: ∀x,x≠k->(t x).up≠k+1->(Cu N (ins t k p) x ↔ Cu N t x):=fun x h h1=>by
  unfold Cu;rw[L,hup x h,Atm (x:=(t x).up - 1) (by omega),Atm h]
  constructor
  ·rintro⟨a,b⟩;exact⟨a.resolve_left (by omega),b⟩
  ·rintro⟨a,b⟩;exact⟨.inr a,b⟩
 have Ck:p+1≠0->Cu N (ins t k p) k:=fun h=>by
  have:=(hp0 h).lv;unfold Cu;rw[Awb];simp only;rw[Int.add_sub_cancel,if_neg h,Atm (hne this)];exact⟨hL this,rfl⟩
 have Cn:p+1=0-> ¬Cu N (ins t k p) k:=fun h c=>by
  unfold Cu at c;rw[Awb]at c;simp only at c
  have:=c.1.1.1;omega
 have hkf: ∀f∈qs.map (·.2),kf N (ins t k p) f=kf N t f:=fun f hf=>A26 _ _ fun x hx=>by rw[Atm (hne (K.or hf hx).1)]
 have hor: ∀x,Oo N (ins t k p) x ↔ Oo N t x:=fun x=>by
  unfold Oo;rw[L]
  by_cases e:x=k
  ·subst e;constructor
   ·rintro⟨_,b,c⟩;rw[Awb]at b;exact absurd (Ck b) c
   ·rintro⟨a,_⟩;exact absurd rfl (hne a)
  ·rw[hup x e];constructor
   ·rintro⟨a,b,c⟩
    have a:=a.resolve_left e;exact⟨a,b,fun h=>c ((C x e (hno x a)).2 h)⟩
   ·rintro⟨a,b,c⟩;exact⟨.inr a,b,fun h=>c ((C x e (hno x a)).1 h)⟩
 have hrk: ∀x,Lv N t x-> ∀n,k ∉ rise N t n x:=fun x hx n h=>by
  rcases Bm4 _ _ _ h with h|⟨z,h1,h2⟩
  ·exact hne hx h.symm
  ·by_cases hz:(t z).lv=true
   ·exact hno z ⟨Az0 _ _ _ h1,hz⟩ (by omega)
   ·have:=Az0 _ _ _ h1
    have:=(T.bare z this.1 this.2 (by simpa using hz)).1
    omega
 have hri: ∀x,Lv N t x-> ∀n,rise N (ins t k p) n x=rise N t n x:=fun x hx n=>A1z n x fun y hy=>hup y fun e=>hrk x hx n (e ▸ hy)
 have hlast: ∀x,Lv N t x-> ∀y,(rise N t N.toNat x).getLast? =some y-> ¬Cu N (ins t k p) y:=fun x hx y hy hc=>by
  have hm:=List.mem_of_getLast? hy
  have hyk:y≠k:=fun e=>hrk x hx _ (e ▸ hm)
  have hin:=Az0 _ _ _ hm
  by_cases hz:(t y).lv=true
  ·exact(T.rise x hx).2 y hy ((C y hyk (hno y ⟨hin,hz⟩)).1 hc)
  ·have:=(T.bare y hin.1 hin.2 (by simpa using hz)).1
   unfold Cu at hc;rw[hup y hyk,this]at hc
   have:=hc.1.1.1;omega
 obtain⟨m,hm⟩: ∃m,N.toNat=m+1:=⟨N.toNat - 1,by omega⟩
 have hpk:p+1≠0->rise N (ins t k p) N.toNat k=k::rise N t N.toNat p:=fun h=>by
  have ha:=hp0 h;rw[hm,rise,if_pos hk,Awb];simp only;rw[Int.add_sub_cancel,hri p ha.lv,←hm]
  congr 1
  rw[hm,Bia,List.take_of_length_le];obtain⟨i1,i2⟩:=Bgf U (m+1) p ha
  have:=Baw (N:=N) (List.nodup_cons.2 ⟨hrk p ha.lv (m+1),i2.imp fun h e=>by rw[e]at h;omega⟩) (fun y hy=>by
   rcases Ef.1 hy with rfl|hy
   ·exact hk
   ·exact Az0 _ _ y hy)
  simp only[Z28]at this;omega
 refine⟨⟨fun x hx=> ?_,fun x hx=> ?_,fun x h0 h1 h=> ?_⟩,⟨fun x=>if x=k then 0 else r x+1,fun x hx h=> ?_⟩,⟨fun x=>if x=k then d p+1 else d x,fun x hx hc=> ?_⟩,⟨?_,fun x=> ?_,fun f hf h1=> ?_⟩,?_,fun x hx h=> ?_,fun x hx h=> ?_,fun e he h1=> ?_⟩
 ·by_cases e:x=k
  ·subst e;refine⟨fun h=> ?_,fun h=> ?_,fun h=> ?_,fun h=> ?_,fun h hc=> ?_⟩
   ·rw[Awb]at h;exact absurd rfl h
   ·rw[Awb]at h ⊢;simp only at h ⊢
    by_cases hq:p+1=0
    ·rw[if_pos hq]at h;exact absurd rfl h
    ·rw[if_neg hq]at h ⊢;rw[if_neg hq];obtain⟨a,b,c,e⟩:=(T.link p (hp0 hq).lv).first h;rw[Atm (hne a)];simp only;rw[if_pos ⟨hq,by omega⟩]
     exact⟨hL a,rfl,c,e⟩
   ·rw[Awb]at h;exact absurd rfl h
   ·rw[Awb]at h ⊢;simp only at h ⊢;rw[Int.add_sub_cancel];exact(hp0 h).lv.1
   ·by_cases hq:p+1=0
    ·exact absurd hc (Cn hq)
    ·rw[Awb];simp only;rw[Int.add_sub_cancel,Atm (hne (hp0 hq).lv)];simp
  ·have hl:=((L x).1 hx).resolve_left e
   have X:=T.link x hl;refine⟨fun h=> ?_,fun h=> ?_,fun h=> ?_,fun h=> ?_,fun h hc=> ?_⟩
   ·rw[Atm e]at h ⊢;simp only at h ⊢
    by_cases hq:x=p
    ·have hq1:=hp1 x hl hq;rw[if_pos hq,Int.add_sub_cancel,Awb];refine⟨(L k).2 (.inl rfl),rfl,?_,?_⟩
     ·show p+1=x+1;omega
     ·show(if p+1=0 then 0 else(t p).ep)=_;rw[if_neg hq1,hq]
    ·rw[if_neg hq]at h ⊢;obtain⟨a,b,c,f⟩:=X.first h;rw[Atm (hne a)];simp only;rw[if_neg]
     ·exact⟨hL a,b,c,f⟩
     ·rintro⟨g1,g2⟩
      have:=((T.link p (hp0 g1).lv).first (by have:=hl.1;omega)).2.2.1
      rw[←g2,Int.add_sub_cancel]at this;omega
   ·rw[Atm e]at h ⊢;simp only at h ⊢;obtain⟨a,b,c,f⟩:=X.next h;rw[Atm (hne a)];simp only;rw[if_neg]
    ·exact⟨hL a,b,c,f⟩
    ·rintro⟨g1,g2⟩
     have:=((T.link p (hp0 g1).lv).first (by have:=hl.1;omega)).2.1
     rw[←g2,Int.add_sub_cancel]at this
     have:=hl.1;omega
   ·rw[Atm e]at h ⊢;simp only at h ⊢
    by_cases hq:p+1≠0∧x+1=(t p).fi
    ·rw[if_pos hq,Int.add_sub_cancel,Awb];simp only;rw[if_neg hq.1];exact⟨(L k).2 (.inl rfl),hq.2.symm⟩
    ·rw[if_neg hq]at h ⊢;obtain⟨a,b⟩:=X.prev h;rw[Atm (hne a)];exact⟨hL a,b⟩
   ·rw[Atm e]at h ⊢;exact X.up h
   ·have hc:=(C x e (hno x hl)).1 hc;rw[Atm e]at h ⊢;simp only at h ⊢
    by_cases hq:p+1≠0∧x+1=(t p).fi
    ·rw[if_pos hq]at h;omega
    ·rw[if_neg hq]at h
     have:=X.top h hc;rw[Atm (hne hc.1)];simp only;rw[if_neg]
     ·exact this
     ·intro g;rw[g]at this;exact hq ⟨hp1 _ hc.1 g,by omega⟩
 ·by_cases e:x=k
  ·subst e
   by_cases hq:p+1=0
   ·have:rise N (ins t x p) N.toNat x=[x]:=by
     rw[hm,rise,if_pos hk,Awb];simp only;rw[hq];cases m with
     |zero=>rfl
     |succ m=>rw[rise,if_neg (by omega)]
    rw[this];refine⟨by simp,fun y hy=> ?_⟩
    rw[←Z32 (show some x=some y from hy)]
    exact Cn hq
   ·rw[hpk hq];rcases hp with rfl|hp
    ·exact absurd rfl hq
    ·refine⟨by simp only[Z28];omega,fun y hy=> ?_⟩
     have:rise N t N.toNat p≠[]:=by rw[hm,rise,if_pos hp.1.lv.1];simp
     rw[List.getLast?_cons]at hy;refine hlast p hp.1.lv y ?_;rw[←hy];cases ha:rise N t N.toNat p with
     |nil=>exact absurd ha this
     |cons a l=>rw[List.getLast?_cons];simp
  ·have hl:=((L x).1 hx).resolve_left e;rw[hri x hl];exact⟨(T.rise x hl).1,hlast x hl⟩
 ·by_cases e:x=k
  ·subst e;rw[Awb]at h;cases h
  ·rw[Atm e]at h ⊢;simp only at h ⊢;obtain⟨a,b,c,f⟩:=T.bare x h0 h1 h;refine⟨a,?_,c,?_⟩
   ·rw[if_neg]
    ·exact b
    ·intro g
     have:=(hp0 (by omega)).lv.2
     rw[←g,h]at this;cases this
   ·rw[if_neg]
    ·exact f
    ·rintro⟨g1,g2⟩
     have:=((T.link p (hp0 g1).lv).first (by omega)).1.2
     rw[←g2,Int.add_sub_cancel,h]at this;cases this
 ·by_cases e:x=k
  ·subst e;rw[Awb]at h;exact absurd rfl h
  ·have hl:=((L x).1 hx).resolve_left e;rw[Atm e]at h ⊢;simp only at h ⊢;simp only[if_neg e]
   by_cases hq:p+1≠0∧x+1=(t p).fi
   ·simp only[if_pos hq,Int.add_sub_cancel,↓reduceIte];omega
   ·rw[if_neg hq]at h ⊢;rw[if_neg (hne ((T.link x hl).prev h).1)]
    have:=W x hl h;omega
 ·by_cases e:x=k
  ·subst e
   by_cases hq:p+1=0
   ·exact absurd hc (Cn hq)
   ·simp only[Awb,Int.add_sub_cancel,if_neg (hne (hp0 hq).lv),↓reduceIte];omega
  ·have hl:=((L x).1 hx).resolve_left e
   have hc:=(C x e (hno x hl)).1 hc;rw[hup x e];simp only[if_neg e,if_neg (hne hc.1)];exact U x hl hc
 ·rw[At1 hkf];exact K.nodup
 ·rw[At1 hkf,K.iff,hor]
 ·obtain⟨a,b⟩:=K.top f hf h1
  have ho:=K.or hf (A5o (N:=N) (t:=t) a);refine⟨a,?_⟩;rw[Atm (hne ho.1)];simp only;rw[if_neg]
  ·exact b
  ·rintro⟨g1,g2⟩
   have hpl:=(hp0 g1).lv;obtain⟨_,_,c3,c4⟩:=(T.link p hpl).first (by omega)
   rw[←g2,Int.add_sub_cancel]at c3 c4;exact ho.2.2 (by unfold Cu;rw[c3,c4,Int.add_sub_cancel];exact⟨hpl,rfl⟩)
 ·have hk2: ∀e∈qs,kf N (ins t k p) e.2=kf N t e.2:=fun e he=>hkf _ (Ex.2 ⟨e,he,rfl⟩);refine A74 qs [] [] hk2 (fun e he y hy=> ?_) (fun e he h1 x hx hu=> ?_) (fun x hx=>by cases hx) F.ord
  ·have hS: ∀x∈kf N t e.2,Oo N t x:=fun x hx=>K.or (Ex.2 ⟨e,he,rfl⟩) hx;rw[hk2 e he]at hy
   have hy2:Dd N t (kf N t e.2) y:=by
    induction hy with
    |base h=>exact .base h
    | @step y a b c ih=>
     by_cases q:y=k
     ·subst q
      by_cases hq:p+1=0
      ·exact absurd b (Cn hq)
      ·rw[Awb]at ih;simp only at ih;rw[Int.add_sub_cancel]at ih;exact absurd ih ((hp0 hq).noDd hS)
     ·have hl:=((L y).1 a).resolve_left q;rw[hup y q]at ih;exact .step hl ((C y q (hno y hl)).1 b) ih
   refine⟨hy2,fun x hx hu hc=> .inr ?_⟩
   by_cases q:x=k
   ·subst q
    by_cases hq:p+1=0
    ·rw[Awb]at hu;simp only at hu
     have:=Dd.in (fun x hx=>Bgd hx) hy2;omega
    ·exact absurd (Ck hq) hc
   ·have hl:=((L x).1 hx).resolve_left q;rw[hup x q]at hu;exact⟨hl,hu,fun h=>hc ((C x q (hno x hl)).2 h)⟩
  ·by_cases q:x=k
   ·subst q;rw[Awb]at hu;simp only at hu
    have:=(hp0 (by omega)).lv.2
    have h3:=(F.slot e he h1).1;rw[←hu,Int.add_sub_cancel,this]at h3;cases h3
   ·have hl:=((L x).1 hx).resolve_left q;rw[hup x q]at hu;exact .inr ⟨hl,hu⟩
 ·by_cases e:x=k
  ·subst e;rw[Awb]at h ⊢;simp only at h ⊢;rw[Int.add_sub_cancel,Atm (hne (hp0 h).lv)];exact .inl (hp0 h).lv.2
  ·have hl:=((L x).1 hx).resolve_left e;rw[hup x e]at h ⊢;rw[Atm (by have:=hno x hl;omega)]
   exact F.gone x hl h
 ·by_cases e:x=k
  ·subst e;rw[Awb]at h ⊢;simp only at h ⊢
   by_cases hq:p+1=0
   ·have:=h.1.1;omega
   ·rw[if_neg hq,Int.add_sub_cancel,Atm (hne (hp0 hq).lv)];exact Int.le_refl _
  ·have hl:=((L x).1 hx).resolve_left e;rw[hup x e]at h ⊢
   have hu:=hno x hl
   have h2:=((L _).1 h).resolve_left (by omega)
   rw[Atm e,Atm (hne h2)];exact F.ep x hl h2
 ·have:=F.slot e he h1
  have q:e.1 - 1≠k:=fun q=>by rw[q]at this;rw[this.2]at hgn;cases hgn
  rw[Atm q];exact this
end
theorem sb1{x:Int}(h0: -1000000000≤x)(h1:x≤1000000000):An4 .i64 x 1=x - 1:=by unfold An4;rw[K0 (by omega) (by omega)]
theorem ad1{x:Int}(h0: -1000000000≤x)(h1:x≤1000000000):An3 .i64 x 1=x+1:=by unfold An3;rw[K0 (by omega) (by omega)]
def A3z (n:As):Lk:=⟨n.Vg==1,n.Vg==2,n.Sj,n.fUp,n.Sk,n.Ee,n.Sl,n.Sm⟩
def AtT (l:List As)(t:Int->Lk):Prop:= ∀k,0≤k∧k<(l.length:Int)->t k=A3z (gt l k)
structure Rg (l:List As):Prop where
 len:l.length≤8
 rg: ∀k,0≤k∧k<(l.length:Int)->(0≤(gt l k).fUp∧(gt l k).fUp≤l.length)∧(0≤(gt l k).Ee∧(gt l k).Ee≤l.length)∧(0≤(gt l k).Sl∧(gt l k).Sl≤l.length)∧(0≤(gt l k).Sm∧(gt l k).Sm≤l.length)
theorem Axo{l:List As}{t:Int->Lk}(A:AtT l t){k:Int}:Lv l.length t k ↔ (0≤k∧k<(l.length:Int))∧(gt l k).Vg=1:=by
 unfold Lv;constructor
 ·rintro⟨a,b⟩;rw[A _ a]at b;exact⟨a,by simpa[A3z]using b⟩
 ·rintro⟨a,b⟩;rw[A _ a];exact⟨a,by simpa[A3z]using b⟩
theorem Bm5{l:List As}{t:Int->Lk}(A:AtT l t)(R:Rg l): ∀(n:Nat) (k:Int),Ay5 l n k=kids l.length t n k:=by
 intro n
 induction n with
 |zero=>intro k;rfl
 |succ n ih=>
  intro k;rw[Ay5,kids];split
  ·rename_i h
   have:=(R.rg k h).2.2.1
   have:=R.len;rw[A _ h,sb1 (by omega) (by omega),ih];rfl
  ·rfl
theorem A5p{l:List As}{t:Int->Lk}(A:AtT l t)(R:Rg l): ∀(n:Nat) (k:Int),Aib l n k=rise l.length t n k:=by
 intro n
 induction n with
 |zero=>intro k;rfl
 |succ n ih=>
  intro k;rw[Aib,rise];split
  ·rename_i h
   have:=(R.rg k h).1
   have:=R.len;rw[A _ h,sb1 (by omega) (by omega),ih];rfl
  ·rfl
theorem Ba4{l:List As}{t:Int->Lk}(A:AtT l t)(R:Rg l){f:Int}(h0:0≤f)(h1:f≤1000):Akt l f=kf l.length t f:=by
 unfold Akt kf;rw[sb1 (by omega) (by omega),Bm5 A R,Int.toNat_natCast]
theorem A5q{l:List As}{n:Int}(h0:0≤n)(h1:n≤1000):plB l n=true ↔ 0≤n - 1∧n - 1<(l.length:Int):=by
 unfold plB;rw[sb1 (by omega) (by omega),decide_eq_true_iff]
theorem A5r{l:List As}{t:Int->Lk}(A:AtT l t)(R:Rg l){k:Int}(h:0≤k∧k<(l.length:Int)):A1h l k=true ↔ Cu l.length t k:=by
 have h1:=(R.rg k h).1
 have h2:=R.len;unfold A1h Cu;rw[Z4,Z4,A5q h1.1 (by omega),beq_iff_eq,beq_iff_eq,sb1 (by omega) (by omega),A _ h]
 show _ ↔ Lv _ _ ((gt l k).fUp - 1)∧(t ((gt l k).fUp - 1)).ep=(gt l k).Sk;rw[Axo A];constructor
 ·rintro⟨a,b,c⟩;rw[A _ a];exact⟨⟨a,b⟩,c⟩
 ·rintro⟨⟨a,b⟩,c⟩;rw[A _ a]at c;exact⟨a,b,c⟩
theorem Bcq{l:List As}{t:Int->Lk}(A:AtT l t)(R:Rg l){k:Int}(h:0≤k∧k<(l.length:Int)):Axx l k=true ↔ Oo l.length t k:=by
 unfold Axx Oo;rw[Z4,Z4,beq_iff_eq,bne_iff_ne,Z44,Axo A,←A5r A R h,A _ h,Bool.not_eq_true];exact⟨fun⟨a,b,c⟩=>⟨⟨h,a⟩,b,c⟩,fun⟨⟨_,a⟩,b,c⟩=>⟨a,b,c⟩⟩
theorem A79{l:List As}{t:Int->Lk}(A:AtT l t){n:Int}(h0:0≤n)(h1:n≤1000):Asb l n=true ↔ (n≠0->Lv l.length t (n - 1)):=by
 unfold Asb;rw[Bool.or_eq_true,beq_iff_eq,Z4,A5q h0 h1,beq_iff_eq,Axo A,sb1 (by omega) (by omega)]
 constructor
 ·rintro(h|h) h2
  ·exact absurd h h2
  ·exact h
 ·intro h
  by_cases e:n=0
  ·exact .inl e
  ·exact .inr (h e)
theorem Ber{a:Int}{b:Bool}{P:Prop}(h:b=true ↔ P):(a==0||b)=true ↔ (a≠0->P):=by
 rw[Bool.or_eq_true,beq_iff_eq,h];constructor
 ·rintro(h|h) h2
  ·exact absurd h h2
  ·exact h
 ·intro h
  by_cases e:a=0
  ·exact .inl e
  ·exact .inr (h e)
theorem A9o{l:List As}{t:Int->Lk}(A:AtT l t)(R:Rg l){k:Int}(h:0≤k∧k<(l.length:Int)):A1j l k=true ↔ Bmt l.length t k:=by
 obtain⟨r1,r2,r3,r4⟩:=R.rg k h
 have h2:=R.len
 have eg: ∀n,Lv l.length t n->t n=A3z (gt l n):=fun n hn=>A _ hn.1
 have ek:=A _ h;unfold A1j A4e Bh1 Bcc A80 A67;rw[ad1 (by omega) (by omega),sb1 (x:=(gt l k).Ee) (by omega) (by omega),sb1 (x:=(gt l k).Sl) (by omega) (by omega),sb1 (x:=(gt l k).Sm) (by omega) (by omega),sb1 (x:=(gt l k).fUp) (by omega) (by omega)]
 simp only[Z4,A79 A r2.1 (by omega:(gt l k).Ee≤1000),A79 A r3.1 (by omega:(gt l k).Sl≤1000),A79 A r4.1 (by omega:(gt l k).Sm≤1000),Ber (A5q r1.1 (by omega:(gt l k).fUp≤1000)),Ber Bool.and_eq_true_iff,Ber beq_iff_eq,beq_iff_eq]
 constructor
 ·rintro⟨⟨a1,a2,a3,a4⟩,a5,a6,a7,a8⟩;refine⟨?_,?_,?_,?_,?_⟩
  ·rw[ek];intro q;have:=a1 q;rw[show(A3z (gt l k)).fi=(gt l k).Ee from rfl,eg _ this];exact⟨this,a5 q⟩
  ·rw[ek];intro q;have:=a2 q;rw[show(A3z (gt l k)).nx=(gt l k).Sl from rfl,eg _ this];exact⟨this,a6 q⟩
  ·rw[ek];intro q;have:=a3 q;rw[show(A3z (gt l k)).pv=(gt l k).Sm from rfl,eg _ this];exact⟨this,a7 q⟩
  ·rw[ek];exact a4
  ·rw[ek];intro q c
   have hc:=(A5r A R h).2 c
   have hu:=c.1;rw[ek]at hu
   have hu:Lv l.length t ((gt l k).fUp - 1):=hu;rw[show(A3z (gt l k)).up=(gt l k).fUp from rfl,eg _ hu]
   rw[show(A3z (gt l k)).pv=(gt l k).Sm from rfl]at q
   rw[q,hc]at a8
   show(gt l ((gt l k).fUp - 1)).Ee=k+1;simpa using a8
 ·intro L;obtain⟨a1,a2,a3,a4,a5⟩:=L;rw[ek]at a1 a2 a3 a4 a5;refine⟨⟨fun q=>(a1 q).1,fun q=>(a2 q).1,fun q=>(a3 q).1,a4⟩,fun q=> ?_,fun q=> ?_,fun q=> ?_,?_⟩
  ·obtain⟨b1,b2,b3,b4⟩:=a1 q;rw[eg _ b1]at b2 b3 b4;exact⟨b2,b3,b4⟩
  ·obtain⟨b1,b2,b3,b4⟩:=a2 q;rw[eg _ b1]at b2 b3 b4;exact⟨b2,b3,b4⟩
  ·obtain⟨b1,b2⟩:=a3 q;rw[eg _ b1]at b2;exact b2
  ·by_cases q:(gt l k).Sm=0
   ·cases hc:A1h l k with
    |false=>simp
    |true=>
     have c:=(A5r A R h).1 hc
     have hu:=c.1;rw[ek]at hu
     have:=a5 q c;rw[eg _ hu]at this;simp only[Bool.or_eq_true,beq_iff_eq];exact .inr this
   ·rw[Agz q];rfl
theorem Bm6{r:List Int}(h:r≠[]):r.getLast? =some (A6q r):=by
 unfold A6q;rw[V2 (by have:=List.length_pos_iff.2 h;omega),List.getLast?_eq_getElem?]
 exact E9 _
theorem Bm7{l:List As}{t:Int->Lk}(A:AtT l t)(R:Rg l)(hb: ∀k,0≤k∧k<(l.length:Int)->(gt l k).Vg≠1->(gt l k).fUp=0∧(gt l k).Ee=0∧(gt l k).Sl=0∧(gt l k).Sm=0):A6r l=true ↔ Avp l.length t:=by
 have key: ∀k,0≤k∧k<(l.length:Int)->(A2n l k=true ↔ (rise l.length t (l.length:Int).toNat k).length≤4∧ ∀x,(rise l.length t (l.length:Int).toNat k).getLast? =some x-> ¬Cu l.length t x):=by
  intro k h;unfold A2n
  have hne:Aib l l.length k≠[]:=fun e=>by have:=A7v h;rw[e]at this;exact absurd this (Nat.lt_irrefl _)
  have hin:=Bai h;rw[Int.toNat_natCast,←A5p A R,Z4,decide_eq_true_iff,Z44,Bm6 hne];constructor
  ·rintro⟨a,b⟩;refine⟨by omega,fun x hx hc=> ?_⟩
   rw[←Z32 hx,←A5r A R hin,b]at hc;cases hc
  ·rintro⟨a,b⟩;refine⟨by omega,?_⟩
   have:=b _ rfl;rw[←A5r A R hin]at this;simpa using this
 unfold A6r;rw[Z1];constructor
 ·intro h
  have h2: ∀k,Lv l.length t k->A1j l k=true∧A2n l k=true:=by
   intro k hk;obtain⟨a,b⟩:=(Axo A).1 hk
   have:=h k.toNat (by simp;omega)
   rw[show((k.toNat:Nat):Int)=k by omega,b]at this
   simpa using this
  exact⟨fun k hk=>(A9o A R hk.1).1 (h2 k hk).1,fun k hk=>(key k hk.1).1 (h2 k hk).2,fun k h0 h1 hl=>by
   rw[A _ ⟨h0,h1⟩]at hl ⊢;exact hb k ⟨h0,h1⟩ (by simpa[A3z]using hl)⟩
 ·intro T k hk;rw[List.mem_range]at hk
  by_cases e:(gt l (k:Int)).Vg=1
  ·have hl:=(Axo A).2 ⟨⟨by omega,by omega⟩,e⟩
   rw[(A9o A R hl.1).2 (T.link _ hl),(key _ hl.1).2 (T.rise _ hl)];simp
  ·simp[e]
def Aqj (st gen:Int):As:=As.mk st gen 0 0 0 0 0 0 [] 0 0 [] []
structure Ats (c:D9)(n:As):Prop where
 conf:Ahe c=true
 st:n.Vg=1
 gen:1≤n.C8∧n.C8≤c.G7
 up:0≤n.fUp∧n.fUp≤c.E5
 first:0≤n.Ee∧n.Ee≤c.E5
 next:0≤n.Sl∧n.Sl≤c.E5
 prev:0≤n.Sm∧n.Sm≤c.E5
 ep:0≤n.Sj
 ue:0≤n.Sk
 dist:Atq c n.Ay=true
 cur:A4t c n=true
 nth:n.F4.length≤12
 ntag:n.Fh.length≤6
 tags:n.Fh.all (fun x=>inB x 0 255)=true
 things:n.F4.all (Aps c)=true
theorem Aik{c:D9}{n:As}:Aqg c n=true∧n.Vg=1 ↔ Ats c n:=by
 unfold Aqg A7p;constructor
 ·rintro⟨h,h1⟩;rw[h1]at h;simp only[Z4,Acu,bne_self_eq_false,cond_false,Z44,decide_eq_false_iff_not,decide_eq_true_eq]at h;obtain⟨a,_,b,⟨c1,c2,c3,c4⟩,⟨d1,d2⟩,⟨e1,e2⟩,⟨f1,f2⟩,g1,g2⟩:=h;exact⟨a,h1,b,c1,c2,c3,c4,by omega,by omega,e1,e2,by omega,by omega,g1,g2⟩
 ·intro h;refine⟨?_,h.st⟩;rw[h.st];simp only[Z4,Acu,bne_self_eq_false,cond_false,Z44,decide_eq_false_iff_not,decide_eq_true_eq];exact⟨h.conf,by omega,h.gen,⟨h.up,h.first,h.next,h.prev⟩,⟨by have:=h.ep;omega,by have:=h.ue;omega⟩,⟨h.dist,h.cur⟩,⟨by have:=h.nth;omega,by have:=h.ntag;omega⟩,h.tags,h.things⟩
theorem Axl{c:D9}{n:As}(h:Aqg c n=true)(h1:n.Vg≠1):n=Aqj n.Vg n.C8:=by
 have:=A9g h h1;unfold A5e at this;simp only[Z4,beq_iff_eq]at this;obtain⟨a1,a2,a3,a4,a5,a6,a7,a8,a9,a10,a11⟩:=this;cases n;simp only at a1 a2 a3 a4 a5 a6 a7 a8 a9 a10 a11;unfold Aqj;simp only[a1,a2,a3,a4,a5,a6,a8,a9,Y6.1 (Int.ofNat_eq_zero.1 a7),Y6.1 (Int.ofNat_eq_zero.1 a10),Y6.1 (Int.ofNat_eq_zero.1 a11)]
theorem A4j{c:D9}(hc:Ahe c=true){st gen:Int}(h0:0≤st∧st≤3)(h1:st≠1)(h2:1≤gen∧gen≤c.G7):Aqg c (Aqj st gen)=true:=by
 unfold Aqg;rw[hc]
 show(true&&(inB st 0 3&&(inB gen 1 c.G7&&(bif st != 1 then A5e (Aqj st gen)else _))))=true
 rw[Aq0 h1,Acu.2 h0,Acu.2 h2];rfl
theorem A1o{c:D9}{n:As}(h:Aqg c n=true):Ahe c=true∧(0≤n.Vg∧n.Vg≤3)∧1≤n.C8∧n.C8≤c.G7:=by
 unfold Aqg at h;simp only[Z4,Acu]at h;exact⟨h.1,h.2.1,h.2.2.1⟩
theorem A44{c:D9}{n:As}(h:Aqg c n=true):(0≤n.fUp∧n.fUp≤c.E5)∧(0≤n.Ee∧n.Ee≤c.E5)∧(0≤n.Sl∧n.Sl≤c.E5)∧(0≤n.Sm∧n.Sm≤c.E5):=by
 by_cases e:n.Vg=1
 ·have:=Aik.1 ⟨h,e⟩;exact⟨this.up,this.first,this.next,this.prev⟩
 ·rw[Axl h e];obtain⟨_,_,b,_⟩:=Gx (A1o h).1;exact⟨⟨Int.le_refl _,by simp[Aqj];omega⟩,⟨Int.le_refl _,by simp[Aqj];omega⟩,⟨Int.le_refl _,by simp[Aqj];omega⟩,⟨Int.le_refl _,by simp[Aqj];omega⟩⟩
theorem A6z{c:D9}{n:As}(h:Aqg c n=true):Atq c n.Ay=true:=by
 by_cases e:n.Vg=1
 ·exact(Aik.1 ⟨h,e⟩).dist
 ·rw[Axl h e];rfl
def Awq (q:List Az):List (Int×Int):=q.map (fun x=>(x.Bk,x.Ee))
structure Inv (w:C4):Prop where
 pool:Auj w.fC w.fP=true
 len:(w.fL.length:Int)=w.fC.E5
 node: ∀k,0≤k∧k<(w.fL.length:Int)->Aqg w.fC (gt w.fL k)=true
 own: ∀k,0≤k∧k<(w.fL.length:Int)-> ∀c,c∈(gt w.fL k).Ay ↔ (0≤c∧c<w.fC.Ay)∧gt w.fP.Vg c=1∧gt w.fP.N6 c=k
 thing: ∀k,0≤k∧k<(w.fL.length:Int)->(gt w.fL k).F4.all (Aq2 w.fC (gt w.fL k).Ay)=true∧Ane (gt w.fL k).F4=true∧Ap3 w.fC w.fP.N5 (gt w.fL k)=true
 forest: ∃t,AtT w.fL t∧Akm w.fL.length t (Awq w.fQ)
 wrec: ∀x∈w.fQ,Ald w.fC x=true∧Am6 w x=true
 chn:(chL w.fQ).Nodup
 chi: ∀c,c∈chL w.fQ ↔ (0≤c∧c<w.fC.Ay)∧gt w.fP.Vg c=2
 sln:(slL w.fQ).Nodup
 sli: ∀s,s∈slL w.fQ ↔ (0≤s∧s<(w.fL.length:Int))∧(gt w.fL s).Vg=2
 log:w.Acw.all (fun x=>inB x 0 255)=true
theorem Inv.conf{w:C4}(I:Inv w):Ahe w.fC=true:=(Atl I.pool).1
theorem Inv.rg{w:C4}(I:Inv w):Rg w.fL:=by
 obtain⟨_,_,b,_⟩:=Gx I.conf
 have:=I.len;refine⟨by omega,fun k hk=> ?_⟩
 rw[I.len];exact A44 (I.node k hk)
theorem Inv.live{w:C4}(I:Inv w){t:Int->Lk}(A:AtT w.fL t){k:Int}(h:Lv w.fL.length t k):Ats w.fC (gt w.fL k):=Aik.1 ⟨I.node k ((Axo A).1 h).1,((Axo A).1 h).2⟩
theorem Ba5{N:Nat}{l:List Int}(hn:l.Nodup){k:Nat}(hk:k<N)(h:(k:Int)∈l):(gt (Akz N l) (k:Int)==1)=true:=by
 rw[A1x (by omega) (by omega),hn.count,if_pos h];rfl
theorem Inv.chunks{w:C4}(I:Inv w){k:Int}(hk:0≤k∧k<(w.fL.length:Int)):Azy w.fP k (gt w.fL k).Ay=true:=by
 obtain⟨_,_,hst,hown,_⟩:=Atl I.pool
 have hd:=Azb (A6z (I.node k hk))
 have hs:=(A19 w.fP k).imp (fun {a b} (h:a<b)=>Int.ne_of_lt h)
 have hm: ∀x,x∈Arp w.fP k ↔ x∈(gt w.fL k).Ay:=by
  intro x;rw[I.own k hk x];unfold Arp;rw[Awp];simp only[Z4,beq_iff_eq];constructor
  ·rintro⟨⟨a,b⟩,c⟩;rw[show((x.toNat:Nat):Int)=x by omega]at c
   exact⟨⟨a,by omega⟩,c⟩
  ·rintro⟨⟨a,b⟩,c⟩;refine⟨⟨a,by omega⟩,?_⟩
   rw[show((x.toNat:Nat):Int)=x by omega]
   exact c
 unfold Azy;rw[Z4,Z1,beq_iff_eq];refine⟨fun x hx=>List.contains_iff_mem.2 ((hm x).1 hx),?_⟩
 have h1:=Azc (o:=Arp w.fP k) (l:=(gt w.fL k).Ay) hs (fun x hx=>(hm x).1 hx)
 have h2:=Azc (o:=(gt w.fL k).Ay) (l:=Arp w.fP k) hd (fun x hx=>(hm x).2 hx);omega
theorem Ba6{q:List Az}{x:Az}(hx:x∈q){c:Int}(h:c∈x.Ay):c∈chL q:=List.mem_flatMap.2 ⟨x,hx,h⟩
theorem Bgg{q:List Az}{x:Az}(hx:x∈q)(h:x.Bk≠0):An4 .i64 x.Bk 1∈slL q:=List.mem_flatMap.2 ⟨x,hx,by rw[if_neg h];simp⟩
theorem Inv.first{w:C4}(I:Inv w){x:Az}(hx:x∈w.fQ):0≤x.Ee∧x.Ee≤8:=by
 obtain⟨_,_,b,_⟩:=Gx I.conf
 have:=(Aqv (I.wrec x hx).1).2.2.1;omega
theorem Inv.qs{w:C4}{x:Az}(hx:x∈w.fQ):x.Ee∈(Awq w.fQ).map (fun e:Int×Int=>e.2):=by
 unfold Awq;rw[Dq,Ex];exact⟨x,hx,rfl⟩
theorem Inv.waste{w:C4}(I:Inv w){x:Az}(hx:x∈w.fQ):Alu w x=true:=by
 obtain⟨b1,_,b,_⟩:=Gx I.conf;obtain⟨h1,h2⟩:=I.wrec x hx;obtain⟨_,r1,r2,r3,_⟩:=Aqv h1
 have hf:=I.first hx;obtain⟨t,A,F⟩:=I.forest;unfold Alu;simp only[Z4];refine⟨h1,?_,h2,?_,?_,?_⟩
 ·unfold A1w;rw[Z1];intro c hc;rw[beq_iff_eq];exact((I.chi c).1 (Ba6 hx hc)).2
 ·unfold Awo
  by_cases e:x.Bk=0
  ·rw[e];rfl
  ·rw[((I.sli _).1 (Bgg hx e)).2];simp
 ·unfold Ayw
  by_cases e:x.Ee=0
  ·rw[e];rfl
  ·obtain⟨a,b⟩:=F.kid.top _ (Inv.qs hx) e;rw[sb1 (by omega) (by omega)]
   rw[A _ a]at b
   have b:(gt w.fL (x.Ee - 1)).Sm=0:=b;rw[b];simp
 ·unfold Asl;rw[Z1];intro k hk
  have hin:=A5h _ _ k hk;rw[Ba4 A I.rg hf.1 (by omega)]at hk
  exact(Bcq A I.rg hin).2 (F.kid.or (Inv.qs hx) hk)
theorem Bgh{w:C4}(I:Inv w){t:Int->Lk}(A:AtT w.fL t):kdL w.fL w.fQ=((Awq w.fQ).map (fun e:Int×Int=>e.2)).flatMap (kf w.fL.length t):=by
 unfold kdL Awq;rw[Dq,List.flatMap_map];exact At1 fun x hx=>by
  have hf:=I.first hx;exact Ba4 A I.rg hf.1 (by omega)
theorem Inv.fin{w:C4}(I:Inv w):Axk w w.fC.Ay.toNat=true:=by
 obtain⟨_,_,hst,hown,_⟩:=Atl I.pool;obtain⟨t,A,F⟩:=I.forest;unfold Axk;rw[Z4,Z1,Z1];refine⟨fun k hk=> ?_,fun k hk=> ?_⟩
 ·rw[List.mem_range]at hk;cases e:(gt w.fP.Vg (k:Int)==2)with
  |false=>rfl
  |true=>exact Ba5 I.chn (by omega) ((I.chi _).2 ⟨⟨by omega,by omega⟩,by simpa using e⟩)
 ·rw[List.mem_range]at hk;rw[Z4];constructor
  ·cases e:((gt w.fL (k:Int)).Vg==2)with
   |false=>rfl
   |true=>exact Ba5 I.sln hk ((I.sli _).2 ⟨⟨by omega,by omega⟩,by simpa using e⟩)
  ·cases e:Axx w.fL (k:Int)with
   |false=>rfl
   |true=>
    refine Ba5 (by rw[Bgh I A];exact F.kid.nodup) hk ?_
    rw[Bgh I A,F.kid.iff];exact(Bcq A I.rg ⟨by omega,by omega⟩).1 e
theorem Inv.ok{w:C4}(I:Inv w):Ash w=true:=by
 obtain⟨t,A,F⟩:=I.forest;unfold Ash;simp only[Z4,beq_iff_eq];refine⟨I.pool,I.len,?_,?_,⟨?_,I.fin⟩,I.log⟩
 ·rw[Z1];intro k hk;rw[List.mem_range]at hk
  have hk2:0≤(k:Int)∧(k:Int)<(w.fL.length:Int):=⟨by omega,by omega⟩
  obtain⟨t1,t2,t3⟩:=I.thing k hk2;unfold A3o;rw[I.node k hk2,I.chunks hk2,t1,t2,t3];rfl
 ·refine(Bm7 A I.rg fun k hk h=> ?_).2 F.tree;rw[Axl (I.node k hk) h];exact⟨rfl,rfl,rfl,rfl⟩
 ·rw[Z1];exact fun x hx=>I.waste hx
end Go.Proofs.YtcdojenmonmcfaaGreat
