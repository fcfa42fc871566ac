/- The plain law for FnLeaves; no condition. -/
import Derived.Test.YtcdojenmonmcfaaGreatFFnLeavesTa
import Derived.Test.YtcdojenmonmcfaaGreatFFnLeavesW
set_option linter.all false
namespace Go.Proofs.YtcdojenmonmcfaaGreat
open Go.Eng Go.ChangeShapes Go.WideShapes Go.ChangeAt Go.RowKit
theorem Ad5{i:Nat}(h:i≤140737488355328):An3 .i64 (i:Int) 1=((i+1:Nat):Int):=by
 unfold An3;rw[IntKind.wrap_i64];omega
theorem K1{α:Type}[Inhabited α]{l:List α}{i:Nat}(h:i<l.length):gt l (i:Int)=l[i]:=by
 unfold gt;simp[h]
theorem Aor{α:Type}[Inhabited α]{l:List α}{i:Nat}(h:i<l.length):gt l (i:Int)∈l:=by
 rw[K1 h];exact List.getElem_mem h
theorem Akr{α:Type}[Inhabited α]{l:List α}{i:Int}(h0:0≤i)(h:i<l.length):gt l i∈l:=by
 obtain⟨k,rfl⟩: ∃k:Nat,i=k:=⟨i.toNat,by omega⟩
 exact Aor (by omega)
theorem Ad7{i k:Nat}(h:i<k):decide ((i:Int)<(k:Int))=true:=by simp;omega
theorem Ae0{i k:Nat}(h:k≤i):decide ((i:Int)<(k:Int))=false:=by simp;omega
theorem Bkf (a:List Int)(ha:a.length≤140737488355328)
  (L:Nat->Int->Option Bool) (hL: ∀n i,L (n+1) i=bif decide (i<(a.length:Int))then(if(0:Int)≤i∧i<(a.length:Int)then(if(0:Int)≤i∧i<(a.length:Int)then(bif (gt a i != gt a i)then some false else L n (An3 .i64 i 1))else none)else none)else some true):
  ∀(n i:Nat),i≤a.length->a.length - i<n->L n (i:Int)=some true:=by
 intro n
 induction n with
 |zero=>intro i _ h;omega
 |succ n ih=>
  intro i hi hn;rw[hL];rcases Hl i a.length with h|h
  ·rw[Ad7 h];simp only[cond_true];rw[if_pos ⟨by omega,by omega⟩,if_pos ⟨by omega,by omega⟩,Ad5 (by omega)]
   simp only[bne_self_eq_false,cond_false];exact ih (i+1) h (by omega)
  ·rw[Ae0 h];rfl
theorem Gy{n:Int}(h0: -9223372036854775808≤n)(h1:n≤9223372036854775807):IntKind.i64.wrap n=n:=by rw[IntKind.wrap_i64];omega
theorem A9a (n:Int): -9223372036854775808≤IntKind.i64.wrap n∧IntKind.i64.wrap n≤9223372036854775807:=by rw[IntKind.wrap_i64];omega
theorem cc{α:Type}(b:Bool)(x:α):(bif b then x else x)=x:=by cases b<;>rfl
theorem Aqv{a b:Int}(h: ¬a=b):(a != b)=true:=by simpa using h
theorem Ag6{a b:Int}(h: ¬a=b):(a==b)=false:=by simpa using h
def inB (x a b:Int):Bool:=decide (a≤x∧x≤b)
theorem Acx{x a b:Int}:inB x a b=true ↔ a≤x∧x≤b:=by unfold inB;exact decide_eq_true_iff
theorem A58{x a b:Int}:inB x a b=false ↔ ¬(a≤x∧x≤b):=by unfold inB;exact decide_eq_false_iff_not
theorem Akp (b:Bool)(x:Bool):(bif b then some x else some false)=some (b&&x):=by cases b<;>rfl
theorem A9b (b:Bool)(x:Bool):(bif b then some false else some x)=some (!b&&x):=by cases b<;>rfl
theorem A0k (b:Bool)(x:Bool):(bif b then some true else some x)=some (b||x):=by cases b<;>rfl
theorem Aas{α:Type}(b:Bool)(x y:α):(bif !b then x else y)=(bif b then y else x):=by cases b<;>rfl
theorem Aip{i n:Nat}(h:i<n):((0:Int)≤(i:Int)∧(i:Int)<(n:Int)):=⟨by omega,by omega⟩
theorem Btk{α:Type}(l:List α)(q:α->Bool)(fin:Option Bool)(L:Nat->Int->Option Bool)
  (hs: ∀n (i:Nat) (h:i<l.length),L (n+1) (i:Int)=bif q l[i]then L n ((i+1:Nat):Int)else some false)
  (he: ∀n,L (n+1) (l.length:Int)=fin):
  ∀(n i:Nat),i≤l.length->l.length - i<n->L n (i:Int)=bif (l.drop i).all q then fin else some false:=by
 intro n
 induction n with
 |zero=>intro i _ h;omega
 |succ n ih=>
  intro i hi hn;rcases Hl i l.length with h|h
  ·rw[hs n i h,Z47 h,Gc];cases q l[i]with
   |false=>rfl
   |true=>rw[cond_true,ih (i+1) h (by omega)];rfl
  ·obtain rfl:i=l.length:=by omega
   rw[he,List.drop_length];rfl
theorem Ar8{α:Type}{K:Nat}(hK:281474976710656≤K)(l:List α)(hl:l.length≤140737488355328)(q:α->Bool)(fin:Option Bool)(L:Nat->Int->Option Bool)
  (hs: ∀n (i:Nat) (h:i<l.length),L (n+1) (i:Int)=bif q l[i]then L n ((i+1:Nat):Int)else some false)
  (he: ∀n,L (n+1) (l.length:Int)=fin):L K 0=bif l.all q then fin else some false:=by
 have:=Btk l q fin L hs he K 0 (Z21 _) (by omega)
 simpa using this
theorem Apr{K:Nat}(hK:281474976710656≤K)(N:Nat)(hl:N≤140737488355328)(q:Nat->Bool)(fin:Option Bool)(L:Nat->Int->Option Bool)
  (hs: ∀n (i:Nat) (h:i<N),L (n+1) (i:Int)=bif q i then L n ((i+1:Nat):Int)else some false)
  (he: ∀n,L (n+1) (N:Int)=fin):L K 0=bif (List.range N).all q then fin else some false:=by
 refine Ar8 hK (List.range N) (by simpa using hl) q fin L (fun n i h=> ?_) (fun n=> ?_)
 ·rw[List.getElem_range];exact hs n i (by simpa using h)
 ·rw[List.length_range];exact he n
theorem Bkg{α:Type}(l:List α)(q:α->Bool)(L:Nat->Int->Int->Option Int)
  (hs: ∀n (i:Nat) (h:i<l.length),L (n+1) (l.length:Int) (i:Int)=bif q l[i]then some (i:Int)else L n (l.length:Int) ((i+1:Nat):Int))
  (he: ∀n,L (n+1) (l.length:Int) (l.length:Int)=some (-1)):
  ∀(n i:Nat),i≤l.length->l.length - i<n-> ∃r,L n (l.length:Int) (i:Int)=some r∧decide (r≥0)=(l.drop i).any q:=by
 intro n
 induction n with
 |zero=>intro i _ h;omega
 |succ n ih=>
  intro i hi hn;rcases Hl i l.length with h|h
  ·rw[hs n i h,Z47 h,List.any_cons];cases q l[i]with
   |true=>exact⟨_,rfl,by simp⟩
   |false=>rw[cond_false,Z52];exact ih (i+1) h (by omega)
  ·obtain rfl:i=l.length:=by omega
   exact⟨_,he n,by simp⟩
theorem A3h{α:Type}[Inhabited α]{K:Nat}(hK:281474976710656≤K)(l:List α)(hl:l.length≤140737488355328)(f:α->Option Bool)(q:α->Bool)(hf: ∀x∈l,f x=some (q x))(L:Nat->Int->Int->Option Int)
  (hL: ∀n N i,L (n+1) N i=bif decide (i<N)then(if(0:Int)≤i∧i<(l.length:Int)then(f (gt l i)).bind (fun r=>bif r then some i else L n N (An3 .i64 i 1))else none)else some (-1)):
  ((L K (l.length:Int) 0).bind fun r=>some (decide (r≥0)))=some (l.any q):=by
 obtain⟨r,h1,h2⟩:=Bkg l q L (fun n i h=>by
  rw[hL,Ad7 h,cond_true,if_pos (Aip h),hf _ (Aor h),K1 h,Z0,Ad5 (by omega)]) (fun n=>by rw[hL,Ae0 (Z9 _),cond_false]) K 0 (Z21 _) (by omega)
 rw[show((0:Nat):Int)=0 from rfl]at h1
 rw[h1,Z0,h2,Z55]
theorem A2q{K:Nat}(hK:281474976710656≤K)(l:List Int)(x:Int)(hl:l.length≤140737488355328):Anb K l x=some (l.contains x):=by
 unfold Anb Axb;obtain⟨r,h1,h2⟩:=Bkg l (fun y=>x==y) (Anz K l x) (fun n i h=>by
  rw[Anz,Ad7 h,cond_true,if_pos (Aip h),K1 h,Ad5 (by omega)]) (fun n=>by rw[Anz,Ae0 (Z9 _),cond_false]) K 0 (Z21 _) (by omega)
 rw[show((0:Nat):Int)=0 from rfl]at h1
 rw[h1,Z0,h2,Z55,List.contains_eq_any_beq]
theorem A0l{K:Nat}(hK:281474976710656≤K)(l:List Int)(x:Int)(hl:l.length≤140737488355328):Ap0 K l x=some (l.contains x):=by
 unfold Ap0
 have h: ∀(n i:Nat),i≤l.length->l.length - i<n->Au2 K l x n (i:Int)=some ((l.drop i).contains x):=by
  intro n
  induction n with
  |zero=>intro i _ h;omega
  |succ n ih=>
   intro i hi hn;rw[Au2];rcases Hl i l.length with h|h
   ·rw[Ad7 h,cond_true,if_pos (Aip h),K1 h,Ad5 (by omega),ih (i+1) h (by omega),Z47 h,List.contains_cons,A0k,Bool.beq_comm]
   ·rw[Ae0 h,cond_false,Z48 h];rfl
 have:=h K 0 (Z21 _) (by omega)
 simpa using this
theorem Ani (K:Nat)(x a b:Int):Gx K x a b=some (inB x a b):=by
 unfold Gx inB
 by_cases h:a≤x
 ·rw[decide_eq_true (show x≥a from h)];simp[h]
 ·rw[decide_eq_false (show ¬x≥a from h)];simp[h]
theorem Avy (K:Nat)(x a b:Int):Wy K x a b=some (inB x a b):=Ani K x a b
def Ahl (c:D9):Bool:=inB c.Ay 2 12&&(inB c.G6 8 16&&(inB c.E5 2 8&&(inB c.Gs 1 8&&(inB c.E6 1 16&&inB c.G7 1 4))))
theorem Aqw (K:Nat)(c):Anc K c=some (Ahl c):=by
 simp only[Anc,Ani,Z0,Akp,Ahl]
theorem A2r (K:Nat)(c):Aue K c=some (Ahl c):=Aqw K c
theorem A1{c:D9}(h:Ahl c=true):(2≤c.Ay∧c.Ay≤12)∧(8≤c.G6∧c.G6≤16)∧(2≤c.E5∧c.E5≤8)∧(1≤c.Gs∧c.Gs≤8)∧(1≤c.E6∧c.E6≤16)∧(1≤c.G7∧c.G7≤4):=by
 simpa only[Ahl,Z4,Acx]using h
def Ak9 (c:D9):Int:=bif Ahl c then c.Ay*c.G6 else 0
theorem Aut{a b m n:Int}(h1:0≤a)(h2:a≤m)(h3:0≤b)(h4:b≤n):0≤a*b∧a*b≤m*n:=
 ⟨Int.mul_nonneg h1 h3,Int.mul_le_mul h2 h4 h3 (by omega)⟩
theorem Atq (K:Nat)(c):Aq3 K c=some (Ak9 c):=by
 unfold Aq3 Ak9;rw[Aqw,Z0,Aas];cases h:Ahl c with
 |false=>rfl
 |true=>
  obtain⟨h1,h2,_⟩:=A1 h
  have:=Aut (a:=c.Ay) (b:=c.G6) (m:=12) (n:=16) (by omega) h1.2 (by omega) h2.2
  simp only[cond_true,An5];rw[Gy (by omega) (by omega)]
theorem A11 (K:Nat)(c):Ax8 K c=some (Ak9 c):=Atq K c
theorem A0m (c:D9):0≤Ak9 c∧Ak9 c≤192:=by
 unfold Ak9;cases h:Ahl c with
 |false=>simp
 |true=>
  obtain⟨h1,h2,_⟩:=A1 h
  have:=Aut (a:=c.Ay) (b:=c.G6) (m:=12) (n:=16) (by omega) h1.2 (by omega) h2.2
  simp only[cond_true];omega
section
variable {K:Nat} (hK:281474976710656≤K)
include hK
def Apo (l:List Int):Bool:=l.all (fun x=>x==0)
theorem A09 (l:List Int)(hl:l.length≤140737488355328):Ar4 K l=some (Apo l):=by
 unfold Ar4;rw[Ar8 hK l hl (fun x=>x==0) (some true) (Ark K l) (fun n i h=>by
  rw[Ark,Ad7 h,cond_true,if_pos (Aip h),K1 h,Ad5 (by omega)]
  cases e:l[i]==0<;>simp[bne,e]) (fun n=>by rw[Ark,Ae0 (Z9 _),cond_false])]
 unfold Apo;cases l.all (fun x=>x==0)<;>rfl
theorem A2s (l:List Int)(hl:l.length≤140737488355328):Auf K l=some (Apo l):=by
 unfold Auf Akv Al2;rw[A3h hK l hl (Azq K) (fun x=>x != 0) (fun x _=>rfl) (Agu K l) (fun n N i=>rfl)];simp only[Z0,Apo,List.not_any_eq_all_not,Z7]
 congr 1
 funext x
 simp[bne]
end
def Atd (a b:Int):Int:=bif inB a 0 1000000000&&inB b 1 1000000000 then(a+b - 1) / b else 0
theorem A0a (K:Nat)(a b:Int):Axt K a b=some (Atd a b):=by
 unfold Axt Atd;rw[Ani,Ani,Z0];cases h1:inB a 0 1000000000 with
 |false=>rfl
 |true=>
  cases h2:inB b 1 1000000000 with
  |false=>rfl
  |true=>
   rw[Acx]at h1 h2;simp only[Z0,cond_true,Bool.not_true,cond_false,Bool.and_self];rw[if_pos (by omega)]
   unfold Ali An4 An3;rw[Gy (n:=a+b) (by omega) (by omega),Gy (n:=a+b - 1) (by omega) (by omega)]
   rw[Int.tdiv_eq_ediv_of_nonneg (by omega)]
   have h3:(a+b - 1) / b≤a+b - 1:=Int.ediv_le_self _ (by omega)
   have h4:0≤(a+b - 1) / b:=Int.ediv_nonneg (by omega) (by omega)
   rw[Gy (by omega) (by omega)]
def Atr (c:D9)(mem:List Int)(k:Int):List Int:=(mem.drop (k*c.G6).toNat).take c.G6.toNat
def Aze (c:D9)(p:Dm)(k:Nat):Bool:=
 inB (gt p.Vg k) 0 2&&((bif gt p.Vg k==1 then inB (gt p.N6 k) 0 (c.E5 - 1)else gt p.N6 k== -1)&&(bif gt p.Vg k==0 then Apo (Atr c p.N5 k)else true))
def Auu (c:D9)(p:Dm):Bool:=
 Ahl c&&((p.N5.length:Int)==Ak9 c&&((p.Vg.length:Int)==c.Ay&&((p.N6.length:Int)==c.Ay&&(List.range c.Ay.toNat).all (Aze c p))))
theorem Ate{c:D9}{p:Dm}(h:Auu c p=true):Ahl c=true∧(p.N5.length:Int)=c.Ay*c.G6∧(p.Vg.length:Int)=c.Ay∧(p.N6.length:Int)=c.Ay∧ ∀k,k<c.Ay.toNat->Aze c p k=true:=by
 simp only[Auu,Z4,beq_iff_eq,Z1,List.mem_range]at h;obtain⟨h1,h2,h3,h4,h5⟩:=h;refine⟨h1,?_,h3,h4,h5⟩;rw[h2,Ak9,h1];rfl
theorem A1m{c:D9}(hc:Ahl c=true){mem:List Int}(hm:(mem.length:Int)=c.Ay*c.G6){k:Int}(h0:0≤k)(h1:k<c.Ay):
  An5 .i64 k c.G6=k*c.G6∧An5 .i64 (An3 .i64 k 1) c.G6=k*c.G6+c.G6∧0≤k*c.G6∧k*c.G6+c.G6≤(mem.length:Int):=by
 obtain⟨b1,b2,_⟩:=A1 hc
 have m1:=Aut (a:=k) (b:=c.G6) (m:=12) (n:=16) h0 (by omega) (by omega) b2.2
 have e2:(k+1)*c.G6=k*c.G6+c.G6:=by rw[Int.add_mul,Int.one_mul]
 have m2:(k+1)*c.G6≤c.Ay*c.G6:=Int.mul_le_mul_of_nonneg_right (by omega) (by omega)
 rw[e2]at m2;refine⟨?_,?_,m1.1,by omega⟩
 ·unfold An5;exact Gy (by omega) (by omega)
 ·unfold An5 An3;rw[Gy (n:=k+1) (by omega) (by omega),e2,Gy (by omega) (by omega)]
section
variable {K:Nat} (hK:281474976710656≤K)
include hK
theorem A6m{c:D9}(hc:Ahl c=true){p:Dm}(hm:(p.N5.length:Int)=c.Ay*c.G6){k:Int}(h0:0≤k)(h1:k<c.Ay):Ary K p c k=some (Atr c p.N5 k):=by
 obtain⟨e1,e2,e3,e4⟩:=A1m hc hm h0 h1;obtain⟨b1,b2,_⟩:=A1 hc;unfold Ary;rw[e1,e2,if_pos ⟨e3,by omega,e4⟩]
 unfold Atr;rw[show k*c.G6+c.G6 - k*c.G6=c.G6 by omega]
theorem A5j (c:D9)(p:Dm):Av6 K c p=some (Auu c p):=by
 unfold Av6;rw[Aqw,Atq];simp only[Z0];cases hc:Ahl c with
 |false=>simp[Auu,hc]
 |true=>
 obtain⟨b1,b2,b3,_⟩:=A1 hc
 have hby:Ak9 c=c.Ay*c.G6:=by rw[Ak9,hc];rfl
 simp only[cond_true,Auu,hc,Z30,bne];cases h1:(p.N5.length:Int)==Ak9 c with
 |false=>rfl
 |true=>
 cases h2:(p.Vg.length:Int)==c.Ay with
 |false=>rfl
 |true=>
 cases h3:(p.N6.length:Int)==c.Ay with
 |false=>rfl
 |true=>
 rw[beq_iff_eq]at h1 h2 h3
 have hN:((c.Ay.toNat:Nat):Int)=c.Ay:=by omega
 simp only[Bool.not_true,cond_false,Z30];rw[Apr hK c.Ay.toNat (by omega) (Aze c p) (some true) (fun n i=>Alu K c n i p.N5 p.Vg p.N6) (fun n i h=> ?_) (fun n=> ?_)]
 ·cases (List.range c.Ay.toNat).all (Aze c p)<;>rfl
 ·obtain⟨e1,e2,e3,e4⟩:=A1m hc (h1.trans hby) (k:=(i:Int)) (by omega) (by omega)
  have hl:(List.take (i*c.G6+c.G6 - i*c.G6).toNat (List.drop (i*c.G6).toNat p.N5)).length≤140737488355327:=by simp;omega
  have hs:An4 .i64 c.E5 1=c.E5 - 1:=by unfold An4;rw[Gy (by omega) (by omega)]
  have hck:List.take (i*c.G6+c.G6 - i*c.G6).toNat (List.drop (i*c.G6).toNat p.N5)=Atr c p.N5 i:=by
   unfold Atr;rw[show(i:Int)*c.G6+c.G6 - i*c.G6=c.G6 by omega]
  simp only[Alu,Arl,Awl];rw[e1,e2,Ad5 (by omega),decide_eq_true (show(i:Int)<c.Ay by omega),cond_true,if_pos ⟨by omega,by omega⟩,Ani,Ani,hs,A09 hK _ (by omega),hck]
  simp only[Z0,bne,show((0:Int)≤(i:Int)∧(i:Int)<(p.Vg.length:Int))=True from eq_true ⟨by omega,by omega⟩,show((0:Int)≤(i:Int)∧(i:Int)<(p.N6.length:Int))=True from eq_true ⟨by omega,by omega⟩,if_true,if_pos (show(0:Int)≤i*c.G6∧(i:Int)*c.G6≤i*c.G6+c.G6∧(i:Int)*c.G6+c.G6≤(p.N5.length:Int) from⟨e3,by omega,e4⟩)]
  unfold Aze;cases inB (gt p.Vg i) 0 2<;>cases (gt p.Vg (i:Int)==1)<;>cases inB (gt p.N6 i) 0 (c.E5 - 1)<;>cases (gt p.N6 (i:Int)== -1)<;>cases (gt p.Vg (i:Int)==0)<;>cases Apo (Atr c p.N5 i)<;>rfl
 ·show Alu K c (n+1) _ _ _ _=_;rw[Alu,hN,decide_eq_false (by omega),cond_false]
theorem Ba2 (c:D9)(p:Dm):Aza K c p=some (Auu c p):=by
 unfold Aza;rw[A2r,A11];simp only[Z0];cases hc:Ahl c with
 |false=>simp[Auu,hc]
 |true=>
 obtain⟨b1,b2,b3,_⟩:=A1 hc
 have hby:Ak9 c=c.Ay*c.G6:=by rw[Ak9,hc];rfl
 simp only[cond_true,Auu,hc,Z30,bne];cases h1:(p.N5.length:Int)==Ak9 c with
 |false=>rfl
 |true=>
 cases h2:(p.Vg.length:Int)==c.Ay with
 |false=>rfl
 |true=>
 cases h3:(p.N6.length:Int)==c.Ay with
 |false=>rfl
 |true=>
 rw[beq_iff_eq]at h1 h2 h3
 have hN:((c.Ay.toNat:Nat):Int)=c.Ay:=by omega
 simp only[Bool.not_true,cond_false,Z30];rw[Apr hK c.Ay.toNat (by omega) (Aze c p) (some true) (fun n i=>Akn K c n p.Vg (p.Vg.length:Int) i p.N5 p.Vg p.N6) (fun n i h=> ?_) (fun n=> ?_)]
 ·cases (List.range c.Ay.toNat).all (Aze c p)<;>rfl
 ·have hs:An4 .i64 c.E5 1=c.E5 - 1:=by unfold An4;rw[Gy (by omega) (by omega)]
  have hl:(Atr c p.N5 i).length≤140737488355327:=by unfold Atr;simp;omega
  simp only[Akn,Aqj,Aw0];rw[A6m hK hc (h1.trans hby) (by omega) (by omega),Ad5 (by omega),decide_eq_true (show(i:Int)<(p.Vg.length:Int)by omega),cond_true,if_pos ⟨by omega,by omega⟩,Avy,Avy,hs]
  simp only[Z0,A2s hK _ (show(Atr c p.N5 i).length≤140737488355328 by omega),bne,show((0:Int)≤(i:Int)∧(i:Int)<(p.N6.length:Int))=True from eq_true ⟨by omega,by omega⟩,if_true]
  unfold Aze;cases inB (gt p.Vg i) 0 2<;>cases (gt p.Vg (i:Int)==1)<;>cases inB (gt p.N6 i) 0 (c.E5 - 1)<;>cases (gt p.N6 (i:Int)== -1)<;>cases (gt p.Vg (i:Int)==0)<;>cases Apo (Atr c p.N5 i)<;>rfl
 ·show Akn K c (n+1) _ _ _ _ _ _=_;rw[Akn,hN,decide_eq_false (by omega),cond_false]
end
def Aw6 (c:D9)(t:Bc):Prop:=Ahl c=true∧1≤t.Ajk∧0≤t.fAt∧t.fAt+t.Ajk≤Ak9 c
instance (c t):Decidable (Aw6 c t):=by unfold Aw6;infer_instance
def App (c:D9)(t:Bc):Bool:=
 decide (Aw6 c t)&&(bif t.Ajl==0 then decide (t.Ajk≤c.G6)&&(t.fAt / c.G6==(t.fAt+t.Ajk - 1) / c.G6)else decide (t.Ajk>c.G6)&&(t.Ajl==Atd t.Ajk c.G6&&t.fAt % c.G6==0))
theorem A6n (K:Nat){c:D9}{t:Bc}(h:Aw6 c t):
  (bif (t.Ajl==0)then(bif (decide (t.Ajk≤c.G6))then(if c.G6≠(0:Int)then(if c.G6≠(0:Int)then some ((Ali .i64 t.fAt c.G6)==(Ali .i64 (An4 .i64 (An3 .i64 t.fAt t.Ajk) 1) c.G6))else none)else none)else some false)else((Ao5 K c t.Ajk).bind fun r2=>(bif r2 then((Aly K c t.Ajk).bind fun r3=>(bif (t.Ajl==r3)then(if c.G6≠(0:Int)then some ((Int.tmod t.fAt c.G6)==0)else none)else some false))else some false)))=some (App c t):=by
 have hd:decide (Aw6 c t)=true:=decide_eq_true h;obtain⟨hc,h1,h2,h3⟩:=h
 have hb:=A0m c;obtain⟨b1,b2,_⟩:=A1 hc;unfold App Ao5 Aly;rw[hd,if_pos (by omega),if_pos (by omega),A0a]
 have e1:An4 .i64 (An3 .i64 t.fAt t.Ajk) 1=t.fAt+t.Ajk - 1:=by
  unfold An4 An3;rw[Gy (n:=t.fAt+t.Ajk) (by omega) (by omega),Gy (by omega) (by omega)]
 have e2: ∀x:Int,0≤x->x≤192->Ali .i64 x c.G6=x / c.G6:=by
  intro x h0 hx;unfold Ali;rw[Int.tdiv_eq_ediv_of_nonneg h0]
  have h3:x / c.G6≤x:=Int.ediv_le_self _ h0
  have h4:0≤x / c.G6:=Int.ediv_nonneg h0 (by omega)
  rw[Gy (by omega) (by omega)]
 rw[e1,e2 _ h2 (by omega),e2 _ (by omega) (by omega),Int.tmod_eq_emod_of_nonneg h2]
 simp only[Z0,if_pos (show c.G6≠0 by omega)]
 cases t.Ajl==0<;>cases decide (t.Ajk≤c.G6)<;>cases decide (t.Ajk>c.G6)<;>cases t.Ajl==Atd t.Ajk c.G6<;>rfl
theorem Ba3{c:D9}{t:Bc}(h: ¬Aw6 c t):App c t=false:=by
 unfold App;rw[decide_eq_false h];rfl
theorem A38 (K:Nat)(c:D9)(t:Bc):Aso K c t=some (App c t):=by
 have hb:=A0m c
 by_cases h:Aw6 c t
 ·rw[←A6n K h];obtain⟨hc,h1,h2,h3⟩:=h;unfold Aso;rw[Atq,Z0,Ag6 (by omega),decide_eq_false (by omega),decide_eq_false (by omega),decide_eq_false (by omega)]
  unfold An4;rw[Gy (by omega) (by omega),decide_eq_false (show ¬t.Ajk>Ak9 c - t.fAt by omega)]
  simp only[cond_false]
  try rfl
 ·rw[Ba3 h];unfold Aso;rw[Atq,Z0]
  by_cases g0:Ak9 c=0
  ·rw[g0];rfl
  ·have hc:Ahl c=true:=by
    cases hc:Ahl c with
    |true=>rfl
    |false=>exact absurd (by unfold Ak9;rw[hc];rfl) g0
   rw[Ag6 g0,cond_false]
   by_cases g1:t.Ajk<1
   ·rw[decide_eq_true g1];rfl
   ·by_cases g2:t.fAt<0
    ·rw[decide_eq_false g1,decide_eq_true g2];rfl
    ·by_cases g3:t.fAt>Ak9 c
     ·rw[decide_eq_false g1,decide_eq_false g2,decide_eq_true g3];rfl
     ·rw[decide_eq_false g1,decide_eq_false g2,decide_eq_false g3];unfold An4;rw[Gy (by omega) (by omega),decide_eq_true (show t.Ajk>Ak9 c - t.fAt from ?_)]
      ·rfl
      ·refine Classical.byContradiction fun g4=>h ⟨hc,by omega,by omega,by omega⟩
theorem A39 (K:Nat)(c:D9)(t:Bc):As7 K c t=some (App c t):=by
 have hb:=A0m c
 by_cases h:Aw6 c t
 ·rw[←A6n K h];obtain⟨hc,h1,h2,h3⟩:=h;unfold As7;rw[A11,Z0,decide_eq_false (by omega),decide_eq_false (by omega),decide_eq_false (by omega)]
  unfold An4;rw[Gy (by omega) (by omega),decide_eq_false (show ¬t.fAt>Ak9 c - t.Ajk by omega)]
  simp only[cond_false]
  try rfl
 ·rw[Ba3 h];unfold As7;rw[A11,Z0]
  by_cases g1:t.Ajk≤0
  ·rw[decide_eq_true g1];rfl
  ·by_cases g2:t.fAt<0
   ·rw[decide_eq_false g1,decide_eq_true g2];rfl
   ·by_cases g3:t.Ajk>Ak9 c
    ·rw[decide_eq_false g1,decide_eq_false g2,decide_eq_true g3];rfl
    ·rw[decide_eq_false g1,decide_eq_false g2,decide_eq_false g3]
     have hc:Ahl c=true:=by
      cases hc:Ahl c with
      |true=>rfl
      |false=>exfalso;unfold Ak9 at g3;rw[hc]at g3;simp only[cond_false]at g3;omega
     unfold An4;rw[Gy (by omega) (by omega),decide_eq_true (show t.fAt>Ak9 c - t.Ajk from ?_)]
     ·rfl
     ·refine Classical.byContradiction fun g4=>h ⟨hc,by omega,by omega,by omega⟩
theorem A42{α:Type}(l:List α)(i:Nat):(l.drop (0:Int).toNat).take ((i:Int) - 0).toNat=l.take i:=by simp
theorem Ba4{i n:Nat}(h:i≤n):((0:Int)≤0∧(0:Int)≤(i:Int)∧(i:Int)≤(n:Int)):=⟨by omega,by omega,by omega⟩
def Atm (c:D9)(l:List Int):Bool:=(List.range l.length).all (fun i=>inB (gt l i) 0 (c.Ay - 1)&& !(l.take i).contains (gt l i))
def A4a (n:As):Bool:=
 n.Sj==0&&(n.fUp==0&&(n.Sk==0&&(n.Ee==0&&(n.Sl==0&&(n.Sm==0&&((n.Ay.length:Int)==0&&(n.Acv==0&&(n.Sn==0&&((n.F4.length:Int)==0&&(n.Fh.length:Int)==0)))))))))
theorem Bf4 (K:Nat)(n):A05 K n=some (A4a n):=by
 simp only[A05,Akp,A4a]
theorem Bf5{K:Nat}(hK:1≤K)(l:List Int):Aiv K l []=some ((l.length:Int)==0):=by
 obtain⟨k,rfl⟩: ∃k,K=k+1:=⟨K - 1,by omega⟩
 cases l with
 |nil=>unfold Aiv;rw[Aio];rfl
 |cons x l=>unfold Aiv;rw[Aqv (by simp only[Z28,List.length_nil];omega),cond_true,Ag6 (by simp only[Z28];omega)]
theorem Bcx{K:Nat}(hK:1≤K)(l:List Bc):Am3 K l []=some ((l.length:Int)==0):=by
 obtain⟨k,rfl⟩: ∃k,K=k+1:=⟨K - 1,by omega⟩
 cases l with
 |nil=>unfold Am3;rw[Aoq];rfl
 |cons x l=>unfold Am3;rw[Aqv (by simp only[Z28,List.length_nil];omega),cond_true,Ag6 (by simp only[Z28];omega)]
theorem Bf6{K:Nat}(hK:1≤K)(n):A08 K n=some (A4a n):=by
 unfold A08 Azr;simp only[beq_self_eq_true,cond_true,Bf5 hK,Bcx hK,Z0,Akp,A4a]
def A4b (c:D9)(n:As):Bool:=bif n.Acv==0 then n.Sn==0 else n.Ay.contains (An4 .i64 n.Acv 1)&&inB n.Sn 0 c.G6
def A6o (c:D9)(n:As):Bool:=
 (inB n.fUp 0 c.E5&&(inB n.Ee 0 c.E5&&(inB n.Sl 0 c.E5&&inB n.Sm 0 c.E5)))&&((!decide (n.Sj<0)&& !decide (n.Sk<0))&&((Atm c n.Ay&&A4b c n)&&((decide ((n.F4.length:Int)≤12)&&decide ((n.Fh.length:Int)≤6))&&(n.Fh.all (fun x=>inB x 0 255)&&n.F4.all (App c)))))
def Aqm (c:D9)(n:As):Bool:=Ahl c&&(inB n.Vg 0 3&&(inB n.C8 1 c.G7&&(bif n.Vg != 1 then A4a n else A6o c n)))
section
variable {K:Nat} (hK:281474976710656≤K)
include hK
theorem Ayr{c:D9}(hc:Ahl c=true):An4 .i64 c.Ay 1=c.Ay - 1:=by
 obtain⟨b1,_⟩:=A1 hc;unfold An4;rw[Gy (by omega) (by omega)]
theorem A3q{c:D9}(hc:Ahl c=true)(l:List Int)(hl:l.length≤140737488355327):At9 K c l=some (Atm c l):=by
 unfold At9;rw[Apr hK l.length (by omega) (fun i=>inB (gt l i) 0 (c.Ay - 1)&& !(l.take i).contains (gt l i)) (some true) (fun n i=>Apb K c l n l (l.length:Int) i) (fun n i h=> ?_) (fun n=> ?_)]
 ·unfold Atm;cases (List.range l.length).all _<;>rfl
 ·have hp:(l.take i).length≤140737488355328:=by simp;omega
  simp only[Apb];rw[Ad7 h,cond_true,if_pos (Aip h),Avy,if_pos (Ba4 (by omega)),A42,A2q hK _ _ hp,Ad5 (by omega),Ayr hK hc]
  simp only[Z0];cases inB (gt l i) 0 (c.Ay - 1)<;>cases (l.take i).contains (gt l i)<;>rfl
 ·show Apb K c l (n+1) _ _ _=_;rw[Apb,Ae0 (Z9 _),cond_false]
theorem A70{c:D9}(hc:Ahl c=true)(n:As)(hl:n.Ay.length≤140737488355327):Awn K c n=some (Atm c n.Ay&&A4b c n):=by
 unfold Awn;rw[Apr hK n.Ay.length (by omega) (fun i=>inB (gt n.Ay i) 0 (c.Ay - 1)&& !(n.Ay.take i).contains (gt n.Ay i)) (some (A4b c n)) (fun k i=>Ao4 K c k i n.Vg n.C8 n.Sj n.fUp n.Sk n.Ee n.Sl n.Sm n.Ay n.Acv n.Sn n.F4 n.Fh) (fun k i h=> ?_) (fun k=> ?_)]
 ·rw[Akp];rfl
 ·have hp:(n.Ay.take i).length≤140737488355328:=by simp;omega
  simp only[Ao4];rw[Ad7 h,cond_true,if_pos (Aip h),Ani,if_pos (Ba4 (by omega)),A42,A0l hK _ _ hp,Ad5 (by omega),Ayr hK hc]
  simp only[Z0,if_pos (Aip h)];cases inB (gt n.Ay i) 0 (c.Ay - 1)<;>cases (n.Ay.take i).contains (gt n.Ay i)<;>rfl
 ·show Ao4 K c (k+1) _ _ _ _ _ _ _ _ _ _ _ _ _ _=_;rw[Ao4,Ae0 (Z9 _),cond_false,A0l hK _ _ (by omega),Ani]
  unfold A4b;simp only[Z0,Akp];cases n.Acv==0<;>rfl
theorem A1h (l:List Int)(hl:l.length≤140737488355328):Aro K l=some (l.all (fun x=>inB x 0 255)):=by
 unfold Aro Ako Ak7;rw[A3h hK l hl (Aur K) (fun x=> !inB x 0 255) (fun x _=>by simp[Aur,Avy]) (Ags K l) (fun n N i=>rfl)]
 simp only[Z0,List.not_any_eq_all_not,Bool.not_not]
theorem Avf (c:D9)(n:As)(h1:n.Ay.length≤140737488355327)(h2:n.F4.length≤140737488355327)(h3:n.Fh.length≤140737488355327):Ap1 K c n=some (Aqm c n):=by
 unfold Ap1;rw[Aqw,Bf4];simp only[Z0,Ani];cases hc:Ahl c with
 |false=>simp[Aqm,hc]
 |true=>
 rw[A70 hK hc n h1]
 have hA:Aqe K n.Fh K 0=some (n.Fh.all (fun x=>inB x 0 255)):=by
  rw[Ar8 hK n.Fh (by omega) (fun x=>inB x 0 255) (some true) (Aqe K n.Fh) (fun k i h=> ?_) (fun k=> ?_)]
  ·cases n.Fh.all (fun x=>inB x 0 255)<;>rfl
  ·rw[Aqe,Ad7 h,cond_true,if_pos (Aip h),K1 h,Ani,Ad5 (by omega),Z0,Aas]
  ·rw[Aqe,Ae0 (Z9 _),cond_false]
 have hB:Aph K c K 0 n.Vg n.C8 n.Sj n.fUp n.Sk n.Ee n.Sl n.Sm n.Ay n.Acv n.Sn n.F4 n.Fh=some (n.Fh.all (fun x=>inB x 0 255)&&n.F4.all (App c)):=by
  rw[Ar8 hK n.F4 (by omega) (App c) (some (n.Fh.all (fun x=>inB x 0 255))) (fun k i=>Aph K c k i n.Vg n.C8 n.Sj n.fUp n.Sk n.Ee n.Sl n.Sm n.Ay n.Acv n.Sn n.F4 n.Fh) (fun k i h=> ?_) (fun k=> ?_)]
  ·rw[Akp,Bool.and_comm]
  ·simp only[Aph];rw[Ad7 h,cond_true,if_pos (Aip h),K1 h,A38,Ad5 (by omega),Z0,Aas]
  ·show Aph K c (k+1) _ _ _ _ _ _ _ _ _ _ _ _ _ _=_;rw[Aph,Ae0 (Z9 _),cond_false,hA]
 rw[hB]
 have e12:decide ((n.F4.length:Int)>12)= !decide ((n.F4.length:Int)≤12):=by rw[←decide_not];congr 1;simp
 have e6:decide ((n.Fh.length:Int)>6)= !decide ((n.Fh.length:Int)≤6):=by rw[←decide_not];congr 1;simp
 simp only[Z0,cond_true,e12,e6,Aas,Akp,A9b];unfold Aqm A6o;rw[hc];cases n.Vg != 1 with
 |true=>simp only[cond_true,Akp,Z30]
 |false=>
  simp only[cond_false,Akp,Z30,Z7]
  ac_rfl
theorem Ba5 (c:D9)(n:As)(h1:n.Ay.length≤140737488355327)(h2:n.F4.length≤140737488355327)(h3:n.Fh.length≤140737488355327):Azb K c n=some (Aqm c n):=by
 unfold Azb;rw[A2r,Bf6 (by omega)]
 simp only[Z0,Avy];cases hc:Ahl c with
 |false=>simp[Aqm,hc]
 |true=>
 have hT:Ahf K n.F4 c=some (n.F4.any (fun t=> !App c t)):=
  A3h hK n.F4 (by omega) (fun t=>Aw1 K t c) (fun t=> !App c t) (fun x _=>by simp[Aw1,A39]) (Aew K n.F4 c) (fun n N i=>rfl)
 have hJ:Aqk K c n.F4 n.Fh=some ((decide ((n.F4.length:Int)≤12)&&decide ((n.Fh.length:Int)≤6))&&(n.Fh.all (fun x=>inB x 0 255)&&n.F4.all (App c))):=by
  unfold Aqk;rw[hT,A1h hK _ (by omega)]
  simp only[Z0,Akp,List.not_any_eq_all_not,Bool.not_not,Z7]
  ac_rfl
 obtain⟨_,b2,_⟩:=A1 hc
 have hB:Apm K c K ([n.fUp,n.Ee,n.Sl,n.Sm]:List Int) (([n.fUp,n.Ee,n.Sl,n.Sm]:List Int).length:Int) 0 n.Vg n.C8 n.Sj n.fUp n.Sk n.Ee n.Sl n.Sm n.Ay n.Acv n.Sn n.F4 n.Fh=some (A6o c n):=by
  rw[Ar8 hK ([n.fUp,n.Ee,n.Sl,n.Sm]:List Int) (by simp) (fun x=>inB x 0 c.E5) (some ((!decide (n.Sj<0)&& !decide (n.Sk<0))&&((Atm c n.Ay&&A4b c n)&&((decide ((n.F4.length:Int)≤12)&&decide ((n.Fh.length:Int)≤6))&&(n.Fh.all (fun x=>inB x 0 255)&&n.F4.all (App c)))))) (fun k i=>Apm K c k ([n.fUp,n.Ee,n.Sl,n.Sm]:List Int) (([n.fUp,n.Ee,n.Sl,n.Sm]:List Int).length:Int) i n.Vg n.C8 n.Sj n.fUp n.Sk n.Ee n.Sl n.Sm n.Ay n.Acv n.Sn n.F4 n.Fh) (fun k i h=> ?_) (fun k=> ?_)]
  ·unfold A6o;rw[Akp];simp only[Gc,List.all_nil,Bool.and_true]
  ·simp only[Apm];rw[Ad7 h,cond_true,if_pos (Aip h),K1 h,Avy,Ad5 (by simp at h ⊢;omega),Z0,Aas]
  ·show Apm K c (k+1) _ _ _ _ _ _ _ _ _ _ _ _ _ _ _ _=_;rw[Apm,Ae0 (Z9 _),cond_false,hJ,A3q hK hc _ h1,A2q hK _ _ (by omega),Avy]
   simp only[Z0,bne,Aas,Akp,A9b];unfold A4b
   have hz:(n.Sn==0)=true->inB n.Sn 0 c.G6=true:=by
    intro h;rw[beq_iff_eq]at h;rw[Acx];omega
   cases e0:n.Acv==0 with
   |true=>
    simp only[cond_true,Akp,A9b,Bool.not_not,Aas,cond_false];cases e1:n.Sn==0 with
    |true=>rw[hz e1];simp only[Z30,Bool.and_true];simp only[Z7];ac_rfl
    |false=>cases inB n.Sn 0 c.G6<;>cases decide (n.Sj<0)<;>cases decide (n.Sk<0)<;>cases Atm c n.Ay<;>rfl
   |false=>
    simp only[cond_false,Akp,A9b,Z7]
    ac_rfl
 rw[hB];simp only[cond_true,Aas,Akp];unfold Aqm;rw[hc];cases n.Vg != 1<;>simp only[cond_true,cond_false,Akp,Z30]
end
theorem Bej{α β:Type}(l:List α)(q:α->Bool)(fin bad:Option β)(L:Nat->Int->Option β)
  (hs: ∀n (i:Nat) (h:i<l.length),L (n+1) (i:Int)=bif q l[i]then L n ((i+1:Nat):Int)else bad)
  (he: ∀n,L (n+1) (l.length:Int)=fin):
  ∀(n i:Nat),i≤l.length->l.length - i<n->L n (i:Int)=bif (l.drop i).all q then fin else bad:=by
 intro n
 induction n with
 |zero=>intro i _ h;omega
 |succ n ih=>
  intro i hi hn;rcases Hl i l.length with h|h
  ·rw[hs n i h,Z47 h,Gc];cases q l[i]with
   |false=>rfl
   |true=>rw[cond_true,ih (i+1) h (by omega)];rfl
  ·obtain rfl:i=l.length:=by omega
   rw[he,List.drop_length];rfl
theorem Bf7{β:Type}{K:Nat}(hK:281474976710656≤K)(N:Nat)(hl:N≤140737488355328)(q:Nat->Bool)(fin bad:Option β)(L:Nat->Int->Option β)
  (hs: ∀n (i:Nat) (h:i<N),L (n+1) (i:Int)=bif q i then L n ((i+1:Nat):Int)else bad)
  (he: ∀n,L (n+1) (N:Int)=fin):L K 0=bif (List.range N).all q then fin else bad:=by
 have:=Bej (List.range N) q fin bad L (fun n i h=>by rw[List.getElem_range];exact hs n i (by simpa using h)) (fun n=>by rw[List.length_range];exact he n) K 0 (Z21 _) (by simp;omega)
 simpa using this
def A0n (t:Bc):Prop:=0≤t.fAt∧t.fAt≤200∧0≤t.Ajk∧t.Ajk≤200
theorem A1n{c:D9}{t:Bc}(h:App c t=true):A0n t∧Aw6 c t:=by
 have h1:Aw6 c t:=by
  unfold App at h;rw[Z4]at h;exact of_decide_eq_true h.1
 have hb:=A0m c;obtain⟨h2,h3,h4,h5⟩:=h1;exact⟨⟨h4,by omega,by omega,by omega⟩,h2,h3,h4,h5⟩
def Amg (a b:Bc):Bool:=decide (a.Ajk≤0∨b.Ajk≤0∨a.fAt+a.Ajk≤b.fAt∨b.fAt+b.Ajk≤a.fAt)
theorem Ba6 (a b:Bc):Amg a b=Amg b a:=by
 unfold Amg;rw[decide_eq_decide];omega
theorem Bcy (K:Nat){a b:Bc}(ha:A0n a)(hb:A0n b):Azy K a b=some (Amg a b):=by
 obtain⟨a1,a2,a3,a4⟩:=ha;obtain⟨b1,b2,b3,b4⟩:=hb;unfold Azy An4;rw[Gy (n:=b.fAt - a.fAt) (by omega) (by omega),Gy (n:=a.fAt - b.fAt) (by omega) (by omega)]
 simp only[A0k]
 have: ∀x:Bool,x=Amg a b->some x=some (Amg a b):=fun x h=>by rw[h]
 by_cases h:a.fAt≤b.fAt
 ·rw[decide_eq_true h,cond_true,A0k,A0k];refine this _ ?_;rw[Bool.eq_iff_iff];simp only[Amg,Bool.or_eq_true,decide_eq_true_eq];omega
 ·rw[decide_eq_false h,cond_false,A0k,A0k];refine this _ ?_;rw[Bool.eq_iff_iff];simp only[Amg,Bool.or_eq_true,decide_eq_true_eq];omega
theorem A6p (K:Nat){a b:Bc}(ha:A0n a)(hb:A0n b):Ayb K a b=some (Amg a b):=by
 obtain⟨a1,a2,a3,a4⟩:=ha;obtain⟨b1,b2,b3,b4⟩:=hb;unfold Ayb Aya An4;simp only[IntKind.wrap_u64]
 have: ∀x:Bool,x=Amg a b->some x=some (Amg a b):=fun x h=>by rw[h]
 by_cases h:a.fAt>b.fAt
 ·rw[decide_eq_true h,cond_true,A0k,A0k];refine this _ ?_;rw[Bool.eq_iff_iff];simp only[Amg,Bool.or_eq_true,decide_eq_true_eq];omega
 ·rw[decide_eq_false h,cond_false,A0k,A0k];refine this _ ?_;rw[Bool.eq_iff_iff];simp only[Amg,Bool.or_eq_true,decide_eq_true_eq];omega
def Aod (l:List Bc):Bool:=(List.range l.length).all (fun i=>(l.take i).all (fun o=>Amg o (gt l i)))
def Arh (c:D9)(chunks:List Int)(t:Bc):Bool:=
 App c t&&(List.range ((t.fAt+t.Ajk - 1) / c.G6 - t.fAt / c.G6+1).toNat).all (fun j=>chunks.contains (t.fAt / c.G6+(j:Int)))
theorem A8h{c:D9}{t:Bc}(h:App c t=true):
  c.G6≠0∧Ali .i64 t.fAt c.G6=t.fAt / c.G6∧Ali .i64 (An4 .i64 (An3 .i64 t.fAt t.Ajk) 1) c.G6=(t.fAt+t.Ajk - 1) / c.G6∧0≤t.fAt / c.G6∧t.fAt / c.G6≤(t.fAt+t.Ajk - 1) / c.G6∧(t.fAt+t.Ajk - 1) / c.G6≤192:=by
 obtain⟨hs,hc,h1,h2,h3⟩:=A1n h
 have hb:=A0m c;obtain⟨b1,b2,_⟩:=A1 hc
 have e1:An4 .i64 (An3 .i64 t.fAt t.Ajk) 1=t.fAt+t.Ajk - 1:=by
  unfold An4 An3;rw[Gy (n:=t.fAt+t.Ajk) (by omega) (by omega),Gy (by omega) (by omega)]
 have e2: ∀x:Int,0≤x->x≤192->Ali .i64 x c.G6=x / c.G6∧0≤x / c.G6∧x / c.G6≤192:=by
  intro x h0 hx
  have h3:x / c.G6≤x:=Int.ediv_le_self _ h0
  have h4:0≤x / c.G6:=Int.ediv_nonneg h0 (by omega)
  refine⟨?_,h4,by omega⟩
  unfold Ali;rw[Int.tdiv_eq_ediv_of_nonneg h0,Gy (by omega) (by omega)]
 obtain⟨x1,x2,x3⟩:=e2 t.fAt h2 (by omega)
 obtain⟨y1,y2,y3⟩:=e2 (t.fAt+t.Ajk - 1) (by omega) (by omega)
 refine⟨by omega,x1,by rw[e1,y1],x2,Int.ediv_le_ediv (by omega) (by omega),y3⟩
theorem Bqd{a:Int}{j:Nat}(h0:0≤a)(h:a+j≤140737488355328):An3 .i64 (a+(j:Int)) 1=a+((j+1:Nat):Int):=by
 unfold An3;rw[Gy (by omega) (by omega)];omega
section
variable {K:Nat} (hK:281474976710656≤K)
include hK
theorem A71 (l:List Bc)(hl:l.length≤140737488355327)(hs: ∀t∈l,A0n t):Awu K l=some (Aod l):=by
 unfold Awu Aod;rw[Apr hK l.length (by omega) (fun i=>(l.take i).all (fun o=>Amg o (gt l i))) (some true) (fun n i=>Akx K l n i) (fun n i h=> ?_) (fun n=> ?_)]
 ·cases (List.range l.length).all _<;>rfl
 ·simp only[Akx];rw[Ad7 h,cond_true]
  have hlen:(l.take i).length=i:=by simp;omega
  rw[Ar8 hK (l.take i) (by omega) (fun o=>Amg o (gt l i)) (Akx K l n (An3 .i64 i 1)) (fun m j=>Ao9 K l i (Akx K l n) m j) (fun m j hj=> ?_) (fun m=> ?_)]
  ·rw[Ad5 (by omega)]
  ·have hj':j<i:=by omega
   simp only[Ao9];rw[Ad7 hj',cond_true,if_pos (Aip h),if_pos (Aip (show j<l.length by omega)),Bcy K (hs _ (Aor h)) (hs _ (Aor (show j<l.length by omega))),Z0,Aas,Ad5 (by omega),Ba6,List.getElem_take,K1 (show j<l.length by omega)]
  ·show Ao9 K l i _ (m+1) _=_;rw[Ao9,hlen,Ae0 (Z9 _),cond_false]
 ·show Akx K l (n+1) _=_;rw[Akx,Ae0 (Z9 _),cond_false]
theorem A72 (l:List Bc)(hl:l.length≤140737488355327)(hs: ∀t∈l,A0n t):Aw3 K l=some (Aod l):=by
 unfold Aw3 Aod;rw[Apr hK l.length (by omega) (fun i=>(l.take i).all (fun o=>Amg o (gt l i))) (some true) (fun n i=>Apc K l n l (l.length:Int) i) (fun n i h=> ?_) (fun n=> ?_)]
 ·cases (List.range l.length).all _<;>rfl
 ·simp only[Apc]
  have hlen:(l.take i).length=i:=by simp;omega
  have hC:Agy K (l.take i) (gt l i)=some ((l.take i).any (fun o=> !Amg o (gt l i))):=
   A3h hK (l.take i) (by omega) (fun t=>Aus K t (gt l i)) (fun o=> !Amg o (gt l i)) (fun x hx=>by
    unfold Aus;rw[A6p K (hs _ (Z42 hx)) (hs _ (Aor h))];rfl) (Ad2 K (l.take i) (gt l i)) (fun n N i=>rfl)
  rw[Ad7 h,cond_true,if_pos (Aip h),if_pos (Ba4 (by omega)),A42,hC,Ad5 (by omega),Z0,List.any_eq_not_all_not,Aas]
  simp only[Bool.not_not]
 ·show Apc K l (n+1) _ _ _=_;rw[Apc,Ae0 (Z9 _),cond_false]
theorem A73 (c:D9)(n:As)(h1:n.Ay.length≤140737488355327)(h2:n.F4.length≤140737488355327):Aw2 K c n=some (n.F4.all (Arh c n.Ay)):=by
 unfold Aw2
 have h1t: ∀t,Arz K t c n=some (!Arh c n.Ay t):=by
  intro t;unfold Arz Arh;rw[A39,Z0,Aas];cases ht:App c t with
  |false=>rfl
  |true=>
   obtain⟨d0,d1,d2,d3,d4,d5⟩:=A8h ht;rw[cond_true,if_pos d0,d1]
   have:=Bf7 hK ((t.fAt+t.Ajk - 1) / c.G6 - t.fAt / c.G6+1).toNat (by omega) (fun j=>n.Ay.contains (t.fAt / c.G6+(j:Int))) (some false) (some true) (fun m j=>Am5 K t c n m (t.fAt / c.G6+j)) (fun m j hj=> ?_) (fun m=> ?_)
   ·simp only[Int.add_zero]at this;rw[this];cases (List.range _).all _<;>rfl
   ·simp only[Am5];rw[if_pos d0,d2,decide_eq_true (by omega),cond_true,A2q hK _ _ (by omega),Z0,Aas,Bqd d3 (by omega)]
   ·show Am5 K t c n (m+1) _=_;rw[Am5,if_pos d0,d2,decide_eq_false (by omega),cond_false]
 have hC:Agw K n.F4 c n=some (n.F4.any (fun t=> !Arh c n.Ay t)):=
  A3h hK n.F4 (by omega) (fun t=>Arz K t c n) (fun t=> !Arh c n.Ay t) (fun x _=>h1t x) (Ad1 K n.F4 c n) (fun n N i=>rfl)
 rw[hC];simp only[Z0,List.not_any_eq_all_not,Bool.not_not]
theorem A74 (c:D9)(n:As)(h1:n.Ay.length≤140737488355327)(h2:n.F4.length≤140737488355327):Awt K c n=some (n.F4.all (Arh c n.Ay)):=by
 unfold Awt;rw[Ar8 hK n.F4 (by omega) (Arh c n.Ay) (some true) (fun k i=>Akw K c k i n.Vg n.C8 n.Sj n.fUp n.Sk n.Ee n.Sl n.Sm n.Ay n.Acv n.Sn n.F4 n.Fh) (fun k i h=> ?_) (fun k=> ?_)]
 ·cases n.F4.all _<;>rfl
 ·simp only[Akw];rw[Ad7 h,cond_true,if_pos (Aip h),K1 h,A38,Z0,Aas];unfold Arh;generalize n.F4[i]=t;cases ht:App c t with
  |false=>rfl
  |true=>
   obtain⟨d0,d1,d2,d3,d4,d5⟩:=A8h ht;rw[cond_true,if_pos d0,d1,Z30]
   have:=Apr hK ((t.fAt+t.Ajk - 1) / c.G6 - t.fAt / c.G6+1).toNat (by omega) (fun j=>n.Ay.contains (t.fAt / c.G6+(j:Int))) (Akw K c k ((i+1:Nat):Int) n.Vg n.C8 n.Sj n.fUp n.Sk n.Ee n.Sl n.Sm n.Ay n.Acv n.Sn n.F4 n.Fh)
    (fun m j=>Ao8 K c i n.Vg n.C8 n.Sj n.fUp n.Sk n.Ee n.Sl n.Sm n.Ay n.Acv n.Sn n.F4 n.Fh (Akw K c k) m (t.fAt / c.G6+j) t) (fun m j hj=> ?_) (fun m=> ?_)
   ·simp only[Int.add_zero]at this;exact this
   ·simp only[Ao8];rw[if_pos d0,d2,decide_eq_true (by omega),cond_true,A0l hK _ _ (by omega),Z0,Aas,Bqd d3 (by omega)]
   ·show Ao8 K c i _ _ _ _ _ _ _ _ _ _ _ _ _ _ (m+1) _ _=_;rw[Ao8,if_pos d0,d2,decide_eq_false (by omega),cond_false,Ad5 (by omega)]
 ·show Akw K c (k+1) _ _ _ _ _ _ _ _ _ _ _ _ _ _=_;rw[Akw,Ae0 (Z9 _),cond_false]
end
def wfi (x:Int):Prop:= -9223372036854775808≤x∧x≤9223372036854775807
def A1o (l:List Int):Prop:=(∀x∈l,wfi x)∧l.length*8≤140737488355327
def Bkh (l:List Int):Prop:=(∀x∈l,0≤x∧x≤255)∧l.length≤140737488355327
def ThingW (t:Bc):Prop:=wfi t.fAt∧wfi t.Ajk∧wfi t.Ajl
def A9c (l:List Bc):Prop:=(∀x∈l,ThingW x)∧l.length*24≤140737488355327
structure Ap5 (n:As):Prop where
 st:wfi n.Vg
 gen:wfi n.C8
 ep:wfi n.Sj
 up:wfi n.fUp
 upEp:wfi n.Sk
 first:wfi n.Ee
 next:wfi n.Sl
 prev:wfi n.Sm
 chunks:A1o n.Ay
 cur:wfi n.Acv
 bump:wfi n.Sn
 things:A9c n.F4
 tags:A1o n.Fh
def Aeo (l:List As):Prop:=(∀x∈l,Ap5 x)∧l.length*152≤140737488355327
structure A0o (x:Az):Prop where
 slot:wfi x.Bk
 first:wfi x.Ee
 tags:A1o x.Fh
 chunks:A1o x.Ay
 done:wfi x.Wv
def A9d (l:List Az):Prop:=(∀x∈l,A0o x)∧l.length*72≤140737488355327
structure ConfW (c:D9):Prop where
 chunks:wfi c.Ay
 size:wfi c.G6
 slots:wfi c.E5
 tax:wfi c.Gs
 slice:wfi c.E6
 gens:wfi c.G7
structure Ayo (p:Dm):Prop where
 mem:Bkh p.N5
 st:A1o p.Vg
 own:A1o p.N6
structure Am6 (w:C4):Prop where
 c:ConfW w.fC
 p:Ayo w.fP
 l:Aeo w.fL
 q:A9d w.fQ
 log:A1o w.Acw
theorem P2:140737488355328≤maxLen:=by unfold maxLen;omega
theorem A43{α:Type}(x:Option α):Aii x x=x:=by simp[Aii]
theorem Auh (K:Nat){l:List Int}(h:l.length*8≤140737488355327):Ad3 K l=some l:=by
 have hm:=P2;unfold Ad3;rw[Z38,if_pos ⟨by omega,by omega⟩]
 cases l with
 |nil=>exact A43 _
 |cons x l=>rfl
theorem Bcz (K:Nat){l:List Int}(h:l.length≤140737488355327):Ar7 K l=some l:=by
 have hm:=P2;unfold Ar7;rw[Z38,if_pos ⟨by omega,by omega⟩]
 cases l with
 |nil=>exact A43 _
 |cons x l=>rfl
theorem Ba7 (K:Nat){l:List Bc}(h:l.length*24≤140737488355327):Apq K l=some l:=by
 have hm:=P2;unfold Apq;rw[Z38,if_pos ⟨by omega,by omega⟩]
 cases l with
 |nil=>exact A43 _
 |cons x l=>rfl
theorem Bek{α:Type}(N:Nat)(q:Nat->Bool)(g:Nat->α)(L:Nat->List α->Int->Option (List α))
  (hs: ∀n v (i:Nat),i<N->v.length≤i->L (n+1) v (i:Int)=bif q i then L n (v++[g i]) ((i+1:Nat):Int)else L n v ((i+1:Nat):Int))
  (he: ∀n v,L (n+1) v (N:Int)=some v):
  ∀(n i:Nat) (v:List α),i≤N->v.length≤i->N - i<n->L n v (i:Int)=some (v++(((List.range N).drop i).filter q).map g):=by
 intro n
 induction n with
 |zero=>intro i v _ _ h;omega
 |succ n ih=>
  intro i v hi hv hn;rcases Hl i N with h|h
  ·rw[hs n v i h hv,Z47 (by simpa using h),List.getElem_range,List.filter_cons]
   cases hq:q i with
   |true=>
    rw[cond_true,ih (i+1) _ h (by simp;omega) (by omega)]
    simp
   |false=>
    rw[cond_false,ih (i+1) _ h (by omega) (by omega)]
    simp
  ·obtain rfl:i=N:=by omega
   rw[he,Z48 (by simp)];simp
def Atf (p:Dm)(k:Int):List Int:=((List.range (min p.Vg.length p.N6.length)).filter (fun i:Nat=>gt p.Vg i==1&&gt p.N6 i==k)).map (fun i:Nat=>(i:Int))
theorem Bc0 (p:Dm)(k:Int):(Atf p k).length≤min p.Vg.length p.N6.length:=by
 unfold Atf;rw[Hk];exact Vv (List.length_filter_le _ _) (by simp)
theorem A1i (p:Dm)(k:Int):(Atf p k).Pairwise (fun a b=>a<b):=by
 unfold Atf;rw[List.pairwise_map];exact(List.Pairwise.filter _ List.pairwise_lt_range).imp fun h=>by omega
theorem A5k{l:List Int}: ∀ {o:List Int},o.Nodup->(∀x∈o,x∈l)->o.length=l.length->o.Perm l:=by
 intro o
 induction o generalizing l with
 |nil=>intro _ _ h;cases l with
  |nil=>exact .nil
  |cons _ _=>simp at h
 |cons x o ih=>
  intro hn hs hl
  have hx:x∈l:=hs x (by simp)
  rw[List.nodup_cons]at hn
  have h2:o.Perm (l.erase x):=ih hn.2 (fun y hy=>by
   have hne:y≠x:=fun e=>hn.1 (e ▸ hy);exact(List.mem_erase_of_ne hne).2 (hs y (by simp[hy]))) (by rw[List.length_erase_of_mem hx];simp at hl;omega)
  exact(List.Perm.cons x h2).trans (List.perm_cons_erase hx).symm
def A1a (p:Dm)(k:Int)(l:List Int):Bool:=(Atf p k).all (fun x=>l.contains x)&&((Atf p k).length:Int)==(l.length:Int)
theorem Bnz (p:Dm)(k:Int)(l:List Int):decide (l.mergeSort (fun x y=>decide (x≤y))=Atf p k)=A1a p k l:=by
 rw[Bool.eq_iff_iff];unfold A1a;simp only[decide_eq_true_eq,Z4,Z1,List.contains_iff_mem,beq_iff_eq]
 have hp:=List.mergeSort_perm l (fun x y=>decide (x≤y));constructor
 ·intro e;rw[e]at hp;exact⟨fun x hx=>hp.mem_iff.1 hx,by have:=hp.length_eq;omega⟩
 ·rintro⟨h1,h2⟩
  have hn:(Atf p k).Nodup:=(A1i p k).imp fun h=>by omega
  have h3:=A5k hn h1 (by omega)
  refine List.Perm.eq_of_pairwise (le:=fun a b=>a≤b) (fun a b _ _ h1 h2=>by omega) ?_ ((A1i p k).imp fun h=>by omega) (hp.trans h3.symm)
  have:=List.pairwise_mergeSort (le:=fun x y:Int=>decide (x≤y)) (fun a b c h1 h2=>by simp at *;omega) (fun a b=>by simp;omega) l
  exact this.imp fun h=>by simpa using h
theorem Bf8{a b:List Int}(h:a.length=b.length):(List.range a.length).all (fun i=>gt a i==gt b i)=decide (a=b):=by
 rw[Bool.eq_iff_iff];simp only[Z1,List.mem_range,beq_iff_eq,decide_eq_true_eq];constructor
 ·intro h1;refine List.ext_getElem h fun i h2 h3=> ?_
  have:=h1 i h2
  rwa[K1 h2,K1 h3]at this
 ·rintro rfl _ _;rfl
section
variable {K:Nat} (hK:281474976710656≤K)
include hK
theorem Bf9 (a b:List Int)(ha:a.length≤140737488355327):Aiv K a b=some (decide (a=b)):=by
 unfold Aiv
 by_cases h:a.length=b.length
 ·rw[show((a.length:Int) != (b.length:Int))=false by simp[h],cond_false,←Bf8 h]
  rw[Apr hK a.length (by omega) (fun i=>gt a i==gt b i) (some true) (fun n i=>Aio K a b n (a.length:Int) i) (fun n i hi=> ?_) (fun n=> ?_)]
  ·cases (List.range a.length).all _<;>rfl
  ·simp only[Aio];rw[Ad7 hi,cond_true,if_pos (Aip hi),if_pos (Aip (show i<b.length by omega)),Ad5 (by omega),bne,Aas]
  ·show Aio K a b (n+1) _ _=_;rw[Aio,Ae0 (Z9 _),cond_false]
 ·rw[Aqv (by omega),cond_true,decide_eq_false (fun e=>h (by rw[e]))]
theorem A4c (p:Dm)(k:Int)(h1:p.Vg.length*8≤140737488355327):Au0 K p k=some (Atf p k):=by
 have hm:=P2;unfold Au0
 have:=Bek (min p.Vg.length p.N6.length) (fun i:Nat=>gt p.Vg i==1&&gt p.N6 i==k) (fun i:Nat=>(i:Int)) (fun n v i=>Alx K k n v i p.N5 p.Vg p.N6) (fun n v i hi hv=> ?_) (fun n v=> ?_) K 0 [] (Z21 _) (Z9 _) (by omega)
 ·simpa[Atf]using this
 ·have h2:(v++([(i:Int)]:List Int)).length=v.length+1:=by simp
  simp only[Alx,Ash];rw[Ad7 (by omega),Ad7 (by omega),cond_true,cond_true,if_pos (Aip (by omega)),if_pos (Aip (by omega)),Ad5 (by omega),if_pos ⟨by rw[h2];omega,by rw[h2];omega⟩]
  cases gt p.Vg (i:Int)==1<;>cases gt p.N6 (i:Int)==k<;>rfl
 ·show Alx K k (n+1) v _ _ _ _=_;rw[Alx];rcases Nat.le_total p.Vg.length p.N6.length with h|h
  ·rw[Nat.min_eq_left h,Ae0 (Z9 _),cond_false]
  ·rw[Nat.min_eq_right h,Ae0 (Z9 p.N6.length),cond_false,cc]
theorem A9e (p:Dm)(k:Int)(h1:p.Vg.length*8≤140737488355327):Ax9 K p k=some (Atf p k):=by
 have hm:=P2;unfold Ax9
 have e:Zw (p.Vg.length:Int) (p.N6.length:Int)=((min p.Vg.length p.N6.length:Nat):Int):=by unfold Zw;split<;>omega
 rw[e]
 have:=Bek (min p.Vg.length p.N6.length) (fun i:Nat=>gt p.Vg i==1&&gt p.N6 i==k) (fun i:Nat=>(i:Int)) (fun n v i=>Al6 K k n v ((min p.Vg.length p.N6.length:Nat):Int) i p.N5 p.Vg p.N6) (fun n v i hi hv=> ?_) (fun n v=> ?_) K 0 [] (Z21 _) (Z9 _) (by omega)
 ·simpa[Atf]using this
 ·have h2:(v++([(i:Int)]:List Int)).length=v.length+1:=by simp
  simp only[Al6,As8];rw[Ad7 hi,cond_true,if_pos (Aip (by omega)),if_pos (Aip (by omega)),Ad5 (by omega),if_pos ⟨by rw[h2];omega,by rw[h2];omega⟩]
  cases gt p.Vg (i:Int)==1<;>cases gt p.N6 (i:Int)==k<;>rfl
 ·show Al6 K k (n+1) v _ _ _ _ _=_;rw[Al6,Ae0 (Z9 _),cond_false]
theorem A6q (w:C4)(k:Nat)(hk:k<w.fL.length)(h1:w.fP.Vg.length*8≤140737488355327)(h2:(gt w.fL k).Ay.length≤140737488355327):Avp K w k=some (A1a w.fP k (gt w.fL k).Ay):=by
 unfold Avp;rw[A4c hK _ _ h1,Z0]
 have hl:=Bc0 w.fP k;rw[Ar8 hK (Atf w.fP k) (by omega) (fun x=>(gt w.fL k).Ay.contains x) (some (((Atf w.fP k).length:Int)==((gt w.fL k).Ay.length:Int))) (fun n i=>Anm K k (Atf w.fP k) n i w.fC.Ay w.fC.G6 w.fC.E5 w.fC.Gs w.fC.E6 w.fC.G7 w.fP.N5 w.fP.Vg w.fP.N6 w.fL w.fQ w.Acw) (fun n i hi=> ?_) (fun n=> ?_)]
 ·rw[Akp];rfl
 ·simp only[Anm];rw[Ad7 hi,cond_true,if_pos (Aip hk),if_pos (Aip hi),A0l hK _ _ (by omega),Z0,Aas,Ad5 (by omega),K1 hi]
 ·show Anm K k (Atf w.fP k) (n+1) _ _ _ _ _ _ _ _ _ _ _ _ _=_;rw[Anm,Ae0 (Z9 _),cond_false,if_pos (Aip hk)]
end
def Auv (c:D9)(n:As):Bc:=Bc.mk ((n.Acv - 1)*c.G6+n.Sn) (c.G6 - n.Sn) 0
def Are (c:D9)(mem:List Int)(n:As):Bool:=
 n.Acv==0||(Apo ((mem.drop (Auv c n).fAt.toNat).take (Auv c n).Ajk.toNat)&&n.F4.all (fun t=>Amg t (Auv c n)))
theorem Bga{c:D9}{n:As}(h:Aqm c n=true)(h1:n.Vg=1):Ahl c=true∧A6o c n=true:=by
 unfold Aqm at h;simp only[Z4]at h;refine⟨h.1,?_⟩
 have:=h.2.2.2;rw[h1]at this;exact this
theorem A8i{c:D9}{n:As}(h:Aqm c n=true)(h1:n.Vg≠1):A4a n=true:=by
 unfold Aqm at h;simp only[Z4]at h
 have:=h.2.2.2;rw[Aqv h1]at this;exact this
theorem Btl{c:D9}{n:As}(hw:Ap5 n)(h:Aqm c n=true)(h1:n.Acv≠0):n.Vg=1∧1≤n.Acv∧n.Acv≤c.Ay∧0≤n.Sn∧n.Sn≤c.G6:=by
 by_cases h2:n.Vg=1
 ·refine⟨h2,?_⟩;obtain⟨hc,hl⟩:=Bga h h2;obtain⟨b1,_⟩:=A1 hc;unfold A6o at hl;simp only[Z4]at hl
  have hd:=hl.2.2.1.1
  have hcu:=hl.2.2.1.2;unfold A4b at hcu;rw[Ag6 h1,cond_false,Z4,List.contains_iff_mem,Acx]at hcu;obtain⟨i,hi,e⟩:=List.mem_iff_getElem.1 hcu.1;unfold Atm at hd;rw[Z1]at hd
  have:=hd i (by simpa using hi)
  rw[Z4,K1 hi,e,Acx]at this
  have h3:=this.1;obtain⟨w1,w2⟩:=hw.cur;unfold An4 at h3;rw[IntKind.wrap_i64]at h3;refine⟨by omega,by omega,hcu.2.1,hcu.2.2⟩
 ·have:=A8i h h2;unfold A4a at this;simp only[Z4,beq_iff_eq]at this;exact absurd this.2.2.2.2.2.2.2.1 h1
theorem Bel{c:D9}{p:Dm}{n:As}(hp:Auu c p=true)(hw:Ap5 n)(h:Aqm c n=true)(h1:n.Acv≠0):
  An3 .i64 (An5 .i64 (An4 .i64 n.Acv 1) c.G6) n.Sn=(Auv c n).fAt∧An4 .i64 c.G6 n.Sn=(Auv c n).Ajk∧An5 .i64 n.Acv c.G6=(Auv c n).fAt+(Auv c n).Ajk∧A0n (Auv c n)∧(Auv c n).fAt+(Auv c n).Ajk≤(p.N5.length:Int):=by
 obtain⟨h2,c1,c2,c3,c4⟩:=Btl hw h h1;obtain⟨hc,hm,_⟩:=Ate hp;obtain⟨b1,b2,_⟩:=A1 hc
 have m1:=Aut (a:=n.Acv - 1) (b:=c.G6) (m:=11) (n:=16) (by omega) (by omega) (by omega) b2.2
 have e2:n.Acv*c.G6=(n.Acv - 1)*c.G6+c.G6:=by rw[Int.sub_mul,Int.one_mul];omega
 have m2:n.Acv*c.G6≤c.Ay*c.G6:=Int.mul_le_mul_of_nonneg_right (by omega) (by omega)
 unfold Auv A0n An3 An4 An5;simp only;rw[Gy (n:=n.Acv - 1) (by omega) (by omega),Gy (n:=(n.Acv - 1)*c.G6) (by omega) (by omega),Gy (n:=(n.Acv - 1)*c.G6+n.Sn) (by omega) (by omega),Gy (n:=c.G6 - n.Sn) (by omega) (by omega),Gy (n:=n.Acv*c.G6) (by omega) (by omega)]
 refine⟨rfl,rfl,by omega,⟨by omega,by omega,by omega,by omega⟩,by omega⟩
theorem A6r{c:D9}{l:List Bc}{ch:List Int}(h:l.all (Arh c ch)=true): ∀t∈l,A0n t∧1≤t.Ajk:=by
 intro t ht;rw[Z1]at h
 have:=h t ht;unfold Arh at this;rw[Z4]at this;obtain⟨h1,h2⟩:=A1n this.1;exact⟨h1,h2.2.1⟩
def A5l (w:C4)(k:Nat):Bool:=
 Aqm w.fC (gt w.fL k)&&(A1a w.fP k (gt w.fL k).Ay&&((gt w.fL k).F4.all (Arh w.fC (gt w.fL k).Ay)&&(Aod (gt w.fL k).F4&&Are w.fC w.fP.N5 (gt w.fL k))))
section
variable {K:Nat} (hK:281474976710656≤K)
include hK
theorem Ays{l:List Int}(h:A1o l):l.length≤140737488355327:=by have:=h.2;omega
theorem Bem{l:List Bc}(h:A9c l):l.length≤140737488355327:=by have:=h.2;omega
theorem Bc1 (w:C4)(k:Nat)(hk:k<w.fL.length)(hp:Auu w.fC w.fP=true)(hw:Ap5 (gt w.fL k))(hn:Aqm w.fC (gt w.fL k)=true)(hs: ∀t∈(gt w.fL k).F4,A0n t∧1≤t.Ajk):Awv K w k=some (Are w.fC w.fP.N5 (gt w.fL k)):=by
 unfold Awv;rw[if_pos (Aip hk)];unfold Are
 by_cases h1:(gt w.fL k).Acv=0
 ·rw[h1];rfl
 ·rw[Ag6 h1,cond_false];obtain⟨e1,e2,e3,⟨s1,s2,s3,s4⟩,s5⟩:=Bel hp hw hn h1;rw[e1,e3];generalize hr:Auv w.fC (gt w.fL k)=r at *;rcases (show r.Ajk=0∨1≤r.Ajk by omega)with h2|h2
  ·rw[decide_eq_true (show r.fAt≥r.fAt+r.Ajk by omega),cond_true,h2]
   have:(gt w.fL k).F4.all (fun t=>Amg t r)=true:=by
    rw[Z1];intro t _;exact decide_eq_true (.inr (.inl (by omega)))
   rw[this];simp[Apo]
  ·rw[decide_eq_false (show ¬r.fAt≥r.fAt+r.Ajk by omega),cond_false]
   have hlt:=Bem hK hw.things
   have hz:List.take (r.fAt+r.Ajk - r.fAt).toNat (List.drop r.fAt.toNat w.fP.N5)=List.take r.Ajk.toNat (List.drop r.fAt.toNat w.fP.N5):=by rw[show r.fAt+r.Ajk - r.fAt=r.Ajk by omega]
   rw[Ar8 hK (gt w.fL k).F4 (by omega) (fun t=>Amg t r) (some (Apo (List.take r.Ajk.toNat (List.drop r.fAt.toNat w.fP.N5)))) (fun m i=>Am9 K m r.fAt (r.fAt+r.Ajk) i (gt w.fL k).Vg (gt w.fL k).C8 (gt w.fL k).Sj (gt w.fL k).fUp (gt w.fL k).Sk (gt w.fL k).Ee (gt w.fL k).Sl (gt w.fL k).Sm (gt w.fL k).Ay (gt w.fL k).Acv (gt w.fL k).Sn (gt w.fL k).F4 (gt w.fL k).Fh w.fC.Ay w.fC.G6 w.fC.E5 w.fC.Gs w.fC.E6 w.fC.G7 w.fP.N5 w.fP.Vg w.fP.N6 w.fL w.fQ w.Acw) (fun m i hi=> ?_) (fun m=> ?_)]
   ·rw[Akp,Bool.and_comm];rfl
   ·simp only[Am9,Auo];obtain⟨⟨t1,t2,t3,t4⟩,t5⟩:=hs _ (Aor hi);rw[Ad7 hi,cond_true,if_pos (Aip hi),Ad5 (by omega),←K1 hi]
    generalize gt (gt w.fL k).F4 i=t at *;unfold An3;rw[Gy (n:=t.fAt+t.Ajk) (by omega) (by omega)]
    unfold Amg
    by_cases g1:t.fAt<r.fAt+r.Ajk
    ·by_cases g2:t.fAt+t.Ajk>r.fAt
     ·rw[decide_eq_true g1,decide_eq_true g2,decide_eq_false (by omega)];rfl
     ·rw[decide_eq_true g1,decide_eq_false g2,decide_eq_true (by omega)];rfl
    ·rw[decide_eq_false g1,decide_eq_true (show t.Ajk≤0∨r.Ajk≤0∨t.fAt+t.Ajk≤r.fAt∨r.fAt+r.Ajk≤t.fAt by omega)];rfl
   ·show Am9 K (m+1) _ _ _ _ _ _ _ _ _ _ _ _ _ _ _ _ _ _ _ _ _ _ _ _ _ _ _ _=_;rw[Am9,Ae0 (Z9 _),cond_false,if_pos ⟨s1,by omega,s5⟩,A09 hK _ (by simp;omega),hz,Z0]
theorem Bki (l:List Int)(h:A1o l):Eb K l=some (l.mergeSort fun x y=>decide (x≤y)):=by
 have:=h.2;unfold Eb;rw[if_pos (by omega)]
theorem A9f (w:C4)(hw:Am6 w)(hp:Auu w.fC w.fP=true):Ar0 K w=some ((List.range w.fL.length).all (A5l w)):=by
 unfold Ar0
 have hlL:=hw.l.2;rw[Apr hK w.fL.length (by omega) (A5l w) (some true) (fun m i=>Agz K m w.fL (w.fL.length:Int) i w.fC.Ay w.fC.G6 w.fC.E5 w.fC.Gs w.fC.E6 w.fC.G7 w.fP.N5 w.fP.Vg w.fP.N6 w.fL w.fQ w.Acw) (fun m k hk=> ?_) (fun m=> ?_)]
 ·cases (List.range w.fL.length).all _<;>rfl
 ·simp only[Agz,Aqo];rw[show D9.mk w.fC.Ay w.fC.G6 w.fC.E5 w.fC.Gs w.fC.E6 w.fC.G7=w.fC from rfl,show Dm.mk w.fP.N5 w.fP.Vg w.fP.N6=w.fP from rfl]
  have hn:=hw.l.1 _ (Aor hk);unfold A5l;generalize hN:gt w.fL k=n at*
  have l1:=Ays hK hn.chunks
  have l2:=Bem hK hn.things
  have l3:=Ays hK hn.tags;rw[Ad7 hk,cond_true,if_pos (Aip hk),Auh K hn.chunks.2,Z0,Bki hK _ hn.chunks,Z0,if_pos (List.length_mergeSort _),Ba5 hK _ _ l1 l2 l3,Z0,A9e hK _ _ hw.p.st.2,Ad5 (by omega)]
  simp only[Z0];rw[Bf9 hK _ _ (by rw[List.length_mergeSort];exact l1),Bnz,A73 hK _ _ l1 l2]
  simp only[Z0];cases hb:Aqm w.fC n with
  |false=>rfl
  |true=>
  cases A1a w.fP k n.Ay with
  |false=>rfl
  |true=>
  cases hi:n.F4.all (Arh w.fC n.Ay)with
  |false=>rfl
  |true=>
  have hs:=A6r hi;rw[A72 hK _ l2 (fun t ht=>(hs t ht).1)];simp only[Z0,cond_true,Aas,Z30];cases Aod n.F4 with
  |false=>rfl
  |true=>
  simp only[cond_true,Z30];unfold Are
  by_cases h1:n.Acv=0
  ·rw[h1];rfl
  ·rw[Ag6 h1,cond_false,Z52];obtain⟨e1,e2,e3,s,s5⟩:=Bel hp hn hb h1
   have hmk:Bc.mk (Auv w.fC n).fAt (Auv w.fC n).Ajk 0=Auv w.fC n:=rfl;rw[e1,e2];simp only[hmk];generalize hr:Auv w.fC n=r at *;obtain⟨s1,s2,s3,s4⟩:=s
   have e4:An3 .i64 r.fAt r.Ajk=r.fAt+r.Ajk:=by unfold An3;rw[Gy (by omega) (by omega)]
   have hC:Agl K n.F4 r=some (n.F4.any (fun t=> !Amg t r)):=
    A3h hK n.F4 (by omega) (fun t=>Aqn K t r) (fun t=> !Amg t r) (fun x hx=>by
     unfold Aqn;rw[A6p K (hs _ hx).1 ⟨s1,s2,s3,s4⟩];rfl) (Aa2 K n.F4 r) (fun n N i=>rfl)
   rw[e4,if_pos ⟨s1,by omega,s5⟩,show r.fAt+r.Ajk - r.fAt=r.Ajk by omega,A2s hK _ (by simp;omega),hC,List.any_eq_not_all_not]
   simp only[Z0,Bool.not_not];cases Apo (List.take r.Ajk.toNat (List.drop r.fAt.toNat w.fP.N5))<;>cases n.F4.all (fun t=>Amg t r)<;>rfl
 ·show Agz K (m+1) _ _ _ _ _ _ _ _ _ _ _ _ _ _ _=_;rw[Agz,Ae0 (Z9 _),cond_false]
end
section
variable {K:Nat} (hK:281474976710656≤K)
theorem Abh{l:List As}(w:Aeo l):l.length≤140737488355327:=by have:=w.2;omega
theorem A0p (K:Nat){α:Type}{l:List α}(hl:l.length≤140737488355327)(k:Int):Gx K k 0 (An4 .i64 (l.length:Int) 1)=some (decide (0≤k∧k<(l.length:Int))):=by
 unfold Gx An4;rw[Gy (by omega) (by omega)]
 by_cases h:(0:Int)≤k
 ·rw[decide_eq_true (show k≥0 from h)]
  simp only[cond_true,Z7,decide_eq_decide];omega
 ·rw[decide_eq_false (show ¬k≥0 from h)]
  simp only[cond_false,Z7];exact(decide_eq_false (by omega)).symm
theorem Bgb (K:Nat){α:Type}{l:List α}(hl:l.length≤140737488355327)(k:Int):Wy K k 0 (An4 .i64 (l.length:Int) 1)=some (decide (0≤k∧k<(l.length:Int))):=A0p K hl k
theorem Aui (K:Nat){l:List As}(hl:l.length≤140737488355327)(k:Int):Ahe K l k=some (decide (0≤k∧k<(l.length:Int))):=by
 unfold Ahe;rw[Bgb K hl];rfl
theorem Axc (K:Nat)(l:List As)(k:Int):Ad6 K l k=some (decide (1≤k∧k≤(l.length:Int))):=by
 unfold Ad6
 by_cases h:(1:Int)≤k
 ·rw[decide_eq_true (show k≥1 from h)]
  simp only[cond_true,Z7,decide_eq_decide];omega
 ·rw[decide_eq_false (show ¬k≥1 from h)]
  simp only[cond_false,Z7];exact(decide_eq_false (by omega)).symm
def Ats (l:List As)(h:Am):Int:=if(0≤h.Bk∧h.Bk<(l.length:Int))∧(gt l h.Bk).Vg=1∧(gt l h.Bk).C8=h.C8 then h.Bk else -1
theorem A4d (K:Nat){l:List As}(hl:l.length≤140737488355327)(h:Am):Auz K l h=some (Ats l h):=by
 unfold Auz Ats;rw[A0p K hl];simp only[Z0]
 by_cases hs:0≤h.Bk∧h.Bk<(l.length:Int)
 ·rw[decide_eq_true hs];simp only[cond_true,if_pos hs]
  by_cases h1:(gt l h.Bk).Vg=1
  ·by_cases h2:(gt l h.Bk).C8=h.C8
   ·rw[if_pos ⟨hs,h1,h2⟩];simp[h1,h2]
   ·rw[if_neg (fun h=>h2 h.2.2),Aqv h2];simp[h1]
  ·rw[if_neg (fun h=>h1 h.2.1),Aqv h1];rfl
 ·rw[decide_eq_false hs];simp only[cond_false];rw[if_neg (fun h=>hs h.1)]
theorem A44{l:List As}{h:Am}(h0: ¬Ats l h<0):0≤Ats l h∧Ats l h<(l.length:Int):=by
 unfold Ats at *;split at h0
 ·rename_i h1;rw[if_pos h1];exact h1.1
 ·omega
def Aib (l:List As):Nat->Int->List Int
 |0,_=>[]
 |n+1,k=>if 0≤k∧k<(l.length:Int)then k::Aib l n (An4 .i64 (gt l k).fUp 1)else []
theorem A9g{l:List As}: ∀(n:Nat) (k:Int),∀x∈Aib l n k,0≤x∧x<(l.length:Int):=by
 intro n
 induction n with
 |zero=>intro k x hx;cases hx
 |succ n ih=>
  intro k x hx;unfold Aib at hx;split at hx
  ·rename_i h;rcases Ef.1 hx with rfl|hx
   ·exact h
   ·exact ih _ x hx
  ·cases hx
theorem A6s{l:List As}: ∀(n:Nat) (k:Int),(Aib l n k).length≤n:=by
 intro n
 induction n with
 |zero=>intro k;exact Z9 _
 |succ n ih=>
  intro k;unfold Aib;split
  ·simp only[Z28];have:=ih (An4 .i64 (gt l k).fUp 1);omega
  ·exact Z21 _
def Bc2 (l:List As):List Int->Prop
 |x::y::r=>An4 .i64 (gt l x).fUp 1=y∧Bc2 l (y::r)
 |_=>True
theorem Bc3{l:List As}: ∀(n:Nat) (k:Int),Bc2 l (Aib l n k):=by
 intro n
 induction n with
 |zero=>intro k;trivial
 |succ n ih=>
  intro k;unfold Aib;split
  ·have h1:=ih (An4 .i64 (gt l k).fUp 1);cases n with
   |zero=>trivial
   |succ n=>
    rw[Aib]at h1 ⊢;split at h1
    ·rename_i h2;rw[if_pos h2];exact⟨rfl,h1⟩
    ·rename_i h2;rw[if_neg h2];trivial
  ·trivial
theorem Bgc{l:List As}(w:Aeo l): ∀(n:Nat) (k:Int) (v:List Int),-9223372036854775808≤k∧k≤9223372036854775807->v.length≤l.length->l.length - v.length<n->Av3 K l n k v=some (v++Aib l (l.length - v.length) k):=by
 have hb:l.length*152≤140737488355327:=w.2;intro n
 induction n with
 |zero=>intro k v _ _ h;omega
 |succ n ih=>
  intro k v hk hv hn;rw[Av3,Axc];simp only[Z0]
  have e:decide (1≤An3 .i64 k 1∧An3 .i64 k 1≤(l.length:Int))=decide (0≤k∧k<(l.length:Int)):=by
   rw[decide_eq_decide];unfold An3;rw[IntKind.wrap_i64];omega
  rw[e]
  by_cases hs:0≤k∧k<(l.length:Int)
  ·rw[decide_eq_true hs];simp only[cond_true];rcases Hl v.length l.length with h|h
   ·rw[Ad7 h];simp only[cond_true]
    have hl2:(v++[k]).length=v.length+1:=by simp
    rw[if_pos ⟨by rw[hl2];omega,by rw[hl2];unfold maxLen;omega⟩,if_pos hs,ih (An4 .i64 (gt l k).fUp 1) _ (A9a _) (by rw[hl2];omega) (by rw[hl2];omega),hl2]
    obtain⟨m,hm⟩: ∃m,l.length - v.length=m+1:=⟨l.length - v.length - 1,by omega⟩
    rw[hm,Aib,if_pos hs,show l.length - (v.length+1)=m from by omega]
    simp
   ·rw[Ae0 h];rw[show l.length - v.length=0 from by omega]
    simp[Aib]
  ·rw[decide_eq_false hs]
   have:Aib l (l.length - v.length) k=[]:=by
    cases l.length - v.length with
    |zero=>rfl
    |succ m=>rw[Aib,if_neg hs]
   rw[this];simp
theorem Bgd{l:List As}(w:Aeo l): ∀(n:Nat) (k:Int) (v:List Int),v.length≤l.length->l.length - v.length<n->Awc K l n k v=some (v++Aib l (l.length - v.length) k):=by
 have hb:l.length*152≤140737488355327:=w.2;intro n
 induction n with
 |zero=>intro k v _ h;omega
 |succ n ih=>
  intro k v hv hn;rw[Awc,Aui K (by omega)]
  simp only[Z0]
  by_cases hs:0≤k∧k<(l.length:Int)
  ·rw[decide_eq_true hs];simp only[cond_true];rcases Hl v.length l.length with h|h
   ·rw[Ad7 h];simp only[cond_true]
    have hl2:(v++[k]).length=v.length+1:=by simp
    rw[if_pos ⟨by rw[hl2];omega,by rw[hl2];unfold maxLen;omega⟩,if_pos hs,ih _ _ (by rw[hl2];omega) (by rw[hl2];omega),hl2]
    obtain⟨m,hm⟩: ∃m,l.length - v.length=m+1:=⟨l.length - v.length - 1,by omega⟩
    rw[hm,Aib,if_pos hs,show l.length - (v.length+1)=m from by omega]
    simp
   ·rw[Ae0 h];rw[show l.length - v.length=0 from by omega]
    simp[Aib]
  ·rw[decide_eq_false hs]
   have:Aib l (l.length - v.length) k=[]:=by
    cases l.length - v.length with
    |zero=>rfl
    |succ m=>rw[Aib,if_neg hs]
   rw[this];simp
include hK in
theorem A12{l:List As}(w:Aeo l)(k:Int)(hk: -9223372036854775808≤k∧k≤9223372036854775807):Axf K l k=some (Aib l l.length k):=by
 have hb:=Abh w;unfold Axf
 have:=Bgc (K:=K) w K k [] hk (Z21 _) (by simp;omega)
 simpa using this
include hK in
theorem A6t{l:List As}(w:Aeo l)(k:Int):Azh K l k=some (Aib l l.length k):=by
 have hb:=Abh w;unfold Azh
 have:=Bgd (K:=K) w K k [] (Z21 _) (by simp;omega)
 simpa using this
def Auk (l:List As):List Int->Bool
 |[]=>true
 |[x]=>(gt l x).Vg==1
 |x::y::r=>((gt l x).Vg==1)&&((gt l x).Sk==(gt l y).Sj)&&Auk l (y::r)
def A0q (l:List As)(way:List Int):Bool:=if 0<way.length then(gt l (gt way ((way.length - 1:Nat):Int))).fUp==0 else false
theorem Ba8{l:List As}{way:List Int}(hin: ∀x∈way,0≤x∧x<(l.length:Int))(hlen:way.length≤140737488355327):
  (bif (decide ((way.length:Int)>0))then(if(0:Int)≤(An4 .i64 (way.length:Int) 1)∧(An4 .i64 (way.length:Int) 1)<(way.length:Int)then(if(0:Int)≤(gt way (An4 .i64 (way.length:Int) 1))∧(gt way (An4 .i64 (way.length:Int) 1))<(l.length:Int)then some (((gt l (gt way (An4 .i64 (way.length:Int) 1))).fUp)==0)else none)else none)else some false)=some (A0q l way):=by
 unfold A0q;rcases Pw way.length with h|h
 ·rw[decide_eq_false (show ¬(way.length:Int)>0 by omega)]
  simp only[cond_false];rw[if_neg (show ¬0<way.length by omega)]
 ·rw[if_pos h,decide_eq_true (by omega)]
  simp only[cond_true]
  have e:An4 .i64 (way.length:Int) 1=((way.length - 1:Nat):Int):=by unfold An4;rw[Gy (by omega) (by omega)];omega
  rw[e,if_pos ⟨by omega,by omega⟩,if_pos (hin _ (Aor (by omega)))]
theorem Aye{way:List Int}{i:Nat}(h:i<way.length):way.drop i=way[i]::way.drop (i+1):=by
 rw[Z47 h]
theorem Bc4{l:List As}{way:List Int}(hin: ∀x∈way,0≤x∧x<(l.length:Int))(hlen:way.length≤140737488355327): ∀(n i:Nat),i≤way.length->way.length - i<n->As0 K l way n way (way.length:Int) (i:Int)=some (Auk l (way.drop i)&&A0q l way):=by
 intro n
 induction n with
 |zero=>intro i _ h;omega
 |succ n ih=>
  intro i hi hn;rw[As0];unfold Ax7;rcases Hl i way.length with h|h
  ·rw[Ad7 h];simp only[cond_true];rw[if_pos ⟨by omega,by omega⟩,if_pos (hin _ (Aor h)),Aye h,Ad5 (by omega),←K1 h]
   rcases Hl (i+1) way.length with h2|h2
   ·rw[Ad7 h2,Aye h2,←K1 h2];simp only[cond_true];rw[if_pos (hin _ (Aor h)),if_pos ⟨by omega,by omega⟩,if_pos (hin _ (Aor h2)),ih (i+1) h (by omega),Aye h2,←K1 h2,Auk]
    generalize gt way ((i+1:Nat):Int)=y;generalize gt way (i:Int)=x
    by_cases c1:(gt l x).Vg=1
    ·by_cases c2:(gt l x).Sk=(gt l y).Sj
     ·simp[c1,c2]
     ·rw[Aqv c2,Ag6 c2];simp[c1]
    ·rw[Aqv c1,Ag6 c1];simp
   ·rw[Ae0 h2,ih (i+1) h (by omega),show way.drop (i+1)=[] from Z48 h2]
    simp only[cond_false,Auk]
    by_cases c1:(gt l (gt way (i:Int))).Vg=1
    ·simp[c1]
    ·rw[Aqv c1,Ag6 c1];simp
  ·rw[Ae0 h,show way.drop i=[] from Z48 h]
   simp only[cond_false,Auk,Z30];exact Ba8 hin hlen
theorem Bn0{l:List As}(w:Aeo l){x y:Int}(hx:0≤x∧x<(l.length:Int))(hy:0≤y∧y<(l.length:Int))(h:An4 .i64 (gt l x).fUp 1=y):Arr K l x=some (((gt l y).Vg==1)&&((gt l y).Sj==(gt l x).Sk)):=by
 have hl:=Abh w;unfold Arr;rw[if_pos hx,Axc];simp only[Z0];obtain⟨hr1,hr2⟩:=(w.1 _ (Akr hx.1 hx.2)).up
 have hp:1≤(gt l x).fUp∧(gt l x).fUp≤(l.length:Int):=by
  unfold An4 at h;rw[IntKind.wrap_i64]at h;omega
 rw[decide_eq_true hp,h];simp only[cond_true];rw[if_pos hy,if_pos hy,if_pos hx];cases (gt l y).Vg==1<;>rfl
theorem Ba9{l:List As}{y:Int}{r:List Int}(h:(gt l y).Vg≠1):Auk l (y::r)=false:=by
 cases r with
 |nil=>simp[Auk,h]
 |cons z r=>simp[Auk,h]
theorem Bc5{l:List As}(w:Aeo l){way:List Int}(hin: ∀x∈way,0≤x∧x<(l.length:Int))(hlen:way.length≤140737488355327): ∀(n i:Nat),Bc2 l (way.drop i)->i≤way.length->way.length - i<n->Asb K l way n (i:Int)=some (Auk l (way.drop i)&&A0q l way):=by
 intro n
 induction n with
 |zero=>intro i _ _ h;omega
 |succ n ih=>
  intro i hch hi hn;rw[Asb];unfold Axn;rcases Hl i way.length with h|h
  ·rw[Ad7 h];simp only[cond_true];rw[Aye h]at hch;rw[if_pos ⟨by omega,by omega⟩,if_pos (hin _ (Aor h)),Aye h,Ad5 (by omega),←K1 h]
   rcases Hl (i+1) way.length with h2|h2
   ·rw[Aye h2]at hch
    have hc1:=hch.1;rw[←K1 h,←K1 h2]at hc1;rw[Ad7 h2,Aye h2,←K1 h2];simp only[cond_true];rw[if_pos ⟨by omega,by omega⟩,Bn0 w (hin _ (Aor h)) (hin _ (Aor h2)) hc1,ih (i+1) (by rw[Aye h2];exact hch.2) h (by omega),Aye h2,←K1 h2,Auk]
    generalize gt way ((i+1:Nat):Int)=y;generalize gt way (i:Int)=x
    by_cases c1:(gt l x).Vg=1
    ·by_cases c3:(gt l y).Vg=1
     ·by_cases c2:(gt l x).Sk=(gt l y).Sj
      ·simp[c1,c2,c3]
      ·have c2': ¬(gt l y).Sj=(gt l x).Sk:=fun e=>c2 e.symm;rw[Ag6 c2,Ag6 c2'];simp[c1]
     ·rw[Ba9 c3,Ag6 c3];simp[c1]
    ·rw[Aqv c1,Ag6 c1];simp
   ·rw[Ae0 h2,ih (i+1) (by rw[Z48 h2];trivial) h (by omega),show way.drop (i+1)=[] from Z48 h2]
    simp only[cond_false,Auk]
    by_cases c1:(gt l (gt way (i:Int))).Vg=1
    ·simp[c1]
    ·rw[Aqv c1,Ag6 c1];simp
  ·rw[Ae0 h,show way.drop i=[] from Z48 h]
   simp only[cond_false,Auk,Z30];exact Ba8 hin hlen
def Att (l:List As)(k:Int):Bool:=Auk l (Aib l l.length k)&&A0q l (Aib l l.length k)
include hK in
theorem A2t{l:List As}(w:Aeo l)(k:Int)(hk: -9223372036854775808≤k∧k≤9223372036854775807):Avk K l k=some (Att l k):=by
 have hb:=Abh w
 have hr:=A6s (l:=l) l.length k;unfold Avk;rw[A12 hK w k hk];exact Bc5 w (A9g _ _) (by omega) K 0 (Bc3 _ _) (Z21 _) (by omega)
include hK in
theorem Bba{l:List As}(w:Aeo l)(k:Int):Az8 K l k=some (Att l k):=by
 have hb:=Abh w
 have hr:=A6s (l:=l) l.length k;unfold Az8;rw[A6t hK w k];exact Bc4 (A9g _ _) (by omega) K 0 (Z21 _) (by omega)
def A0r (h:Am):Bool:=bif decide (h.Bk≥0)then decide (h.C8≥1)else false
theorem A3r (K:Nat)(h:Am):Atw K h=some (A0r h):=by
 unfold Atw A0r;cases decide (h.Bk≥0)<;>rfl
def Aub (l:List As)(h:Am):Int×Int:=bif A0r h then(bif decide (Ats l h<0)then(-1,2)else(bif Att l (Ats l h)then(Ats l h,0)else(-1,2)))else(-1,1)
include hK in
theorem Auj{w:C4}(hw:Aeo w.fL)(h:Am):Anh K w h=some (Aub w.fL h):=by
 have hb:=Abh hw;unfold Anh Aub;rw[A3r,A4d K hb];simp only[Z0];cases A0r h with
 |false=>rfl
 |true=>
  simp only[cond_true];cases e:decide (Ats w.fL h<0)with
  |true=>rfl
  |false=>
   have h1:=A44 (of_decide_eq_false e);simp only[cond_false];rw[A2t hK hw _ ⟨by omega,by omega⟩]
   simp only[Z0];cases Att w.fL (Ats w.fL h)<;>rfl
theorem Bkj{l:List As}{h:Am}(h0:(Aub l h).2=0):0≤(Aub l h).1∧(Aub l h).1<(l.length:Int):=by
 unfold Aub at *;cases e1:A0r h with
 |false=>rw[e1]at h0;simp at h0
 |true=>
  rw[e1]at h0;simp only[cond_true]at *;cases e:decide (Ats l h<0)with
  |true=>rw[e]at h0;simp at h0
  |false=>
   rw[e]at h0;simp only[cond_false]at *;cases e2:Att l (Ats l h)with
   |false=>rw[e2]at h0;simp at h0
   |true=>exact A44 (of_decide_eq_false e)
end
def plB (l:List As)(n:Int):Bool:=decide (0≤An4 .i64 n 1∧An4 .i64 n 1<(l.length:Int))
theorem Aul{l:List As}{n:Int}(h:plB l n=true):0≤An4 .i64 n 1∧An4 .i64 n 1<(l.length:Int):=of_decide_eq_true h
theorem Ayt (K:Nat){l:List As}(hl:l.length≤140737488355327)(n:Int):Ahe K l (An4 .i64 n 1)=some (plB l n):=Aui K hl _
theorem Avg (K:Nat){l:List As}(hl:l.length≤140737488355327){n:Int}(hn:wfi n):Ad6 K l n=some (plB l n):=by
 rw[Axc];unfold plB;obtain⟨h1,h2⟩:=hn
 congr 1
 rw[decide_eq_decide];unfold An4;rw[IntKind.wrap_i64];omega
def A0t (l:List As)(k:Int):Bool:=plB l (gt l k).fUp&&((gt l (An4 .i64 (gt l k).fUp 1)).Vg==1&&(gt l (An4 .i64 (gt l k).fUp 1)).Sj==(gt l k).Sk)
theorem A45 (K:Nat){l:List As}(w:Aeo l){k:Int}(h:0≤k∧k<(l.length:Int)):Arr K l k=some (A0t l k):=by
 unfold Arr A0t;rw[if_pos h,Avg K (Abh w) (w.1 _ (Akr h.1 h.2)).up,Z0,if_pos h];cases hp:plB l (gt l k).fUp with
 |false=>rfl
 |true=>
  have:=Aul hp;rw[cond_true,if_pos this,if_pos this];cases (gt l (An4 .i64 (gt l k).fUp 1)).Vg==1<;>rfl
theorem A0u (K:Nat){l:List As}(w:Aeo l){k:Int}(h:0≤k∧k<(l.length:Int)):Aq2 K l k=some (A0t l k):=by
 unfold Aq2 A0t;rw[if_pos h,Ayt K (Abh w),Z0,if_pos h];cases hp:plB l (gt l k).fUp with
 |false=>rfl
 |true=>
  have:=Aul hp;rw[cond_true,if_pos this,if_pos this];cases (gt l (An4 .i64 (gt l k).fUp 1)).Vg==1<;>rfl
def Ar2 (l:List As)(n:Int):Bool:=n==0||(plB l n&&(gt l (An4 .i64 n 1)).Vg==1)
theorem A1p{l:List As}{n:Int}(h:Ar2 l n=true)(h0:n≠0):0≤An4 .i64 n 1∧An4 .i64 n 1<(l.length:Int):=by
 unfold Ar2 at h;rw[Ag6 h0,Z52,Z4]at h;exact Aul h.1
theorem A2u (K:Nat){l:List As}(w:Aeo l){n:Int}(hn:wfi n):Ap2 K l n=some (Ar2 l n):=by
 unfold Ap2 Ar2;rw[Avg K (Abh w) hn,Z0];cases n==0 with
 |true=>rfl
 |false=>
  cases hp:plB l n with
  |false=>rfl
  |true=>rw[if_pos (Aul hp)];rfl
theorem A2v (K:Nat){l:List As}(w:Aeo l)(n:Int):Aug K l n=some (Ar2 l n):=by
 unfold Aug Ar2;rw[Ayt K (Abh w),Z0];cases n==0 with
 |true=>rfl
 |false=>
  cases hp:plB l n with
  |false=>rfl
  |true=>rw[if_pos (Aul hp)];rfl
def A5m (r:List Int):Int:=gt r ((r.length - 1:Nat):Int)
def A1q (l:List As)(k:Int):Bool:=decide (((Aib l l.length k).length:Int)≤4)&& !A0t l (A5m (Aib l l.length k))
def A54 (l:List As)(k:Int):Bool:= !((gt l k).Sm==0&&A0t l k)||(gt l (An4 .i64 (gt l k).fUp 1)).Ee==An3 .i64 k 1
def A75 (l:List As)(k:Int):Bool:=(gt l k).Sm==0||(gt l (An4 .i64 (gt l k).Sm 1)).Sl==An3 .i64 k 1
def Bbb (l:List As)(k:Int):Bool:=(gt l k).Sl==0||((gt l (An4 .i64 (gt l k).Sl 1)).Sm==An3 .i64 k 1&&((gt l (An4 .i64 (gt l k).Sl 1)).fUp==(gt l k).fUp&&(gt l (An4 .i64 (gt l k).Sl 1)).Sk==(gt l k).Sk))
def Bge (l:List As)(k:Int):Bool:=(gt l k).Ee==0||((gt l (An4 .i64 (gt l k).Ee 1)).Sm==0&&((gt l (An4 .i64 (gt l k).Ee 1)).fUp==An3 .i64 k 1&&(gt l (An4 .i64 (gt l k).Ee 1)).Sk==(gt l k).Sj))
def A3i (l:List As)(k:Int):Bool:=Ar2 l (gt l k).Ee&&(Ar2 l (gt l k).Sl&&(Ar2 l (gt l k).Sm&&((gt l k).fUp==0||plB l (gt l k).fUp)))
def A0v (l:List As)(k:Int):Bool:=A3i l k&&(Bge l k&&(Bbb l k&&(A75 l k&&A54 l k)))
def A5n (l:List As):Bool:=(List.range l.length).all (fun k=>(gt l (k:Int)).Vg != 1||(A0v l k&&A1q l k))
theorem A6u{l:List As}{k:Int}(h:0≤k∧k<(l.length:Int)):0<(Aib l l.length k).length:=by
 obtain⟨m,hm⟩: ∃m,l.length=m+1:=⟨l.length - 1,by omega⟩
 rw[hm,Aib,if_pos h];simp
theorem A9h{l:List As}{k:Int}(h:0≤k∧k<(l.length:Int)):0≤A5m (Aib l l.length k)∧A5m (Aib l l.length k)<(l.length:Int):=by
 have:=A6u h;exact A9g _ _ _ (Aor (by omega))
theorem Ben{l:List As}(w:Aeo l){k:Int}(h:0≤k∧k<(l.length:Int)):An4 .i64 ((Aib l l.length k).length:Int) 1=(((Aib l l.length k).length - 1:Nat):Int)∧(0:Int)≤(((Aib l l.length k).length - 1:Nat):Int)∧(((Aib l l.length k).length - 1:Nat):Int)<((Aib l l.length k).length:Int):=by
 have h1:=A6u h
 have h2:=A6s (l:=l) l.length k
 have h3:=Abh w;unfold An4;rw[Gy (by omega) (by omega)]
 omega
section
variable {K:Nat} (hK:281474976710656≤K)
include hK
theorem Bn1{l:List As}(w:Aeo l){k:Int}(h:0≤k∧k<(l.length:Int)):Ass K l k=some (A1q l k):=by
 have h3:=Abh w;obtain⟨e1,e2,e3⟩:=Ben w h;unfold Ass;rw[A12 hK w k ⟨by omega,by omega⟩,Z0,e1,if_pos ⟨e2,e3⟩]
 have:=A45 K w (A9h h);unfold A5m at this;rw[this,Z0,Akp];rfl
theorem Bn2{l:List As}(w:Aeo l){k:Int}(h:0≤k∧k<(l.length:Int)):Au4 K l k (gt l k).fUp (gt l k).Sm=some (A54 l k&&A1q l k):=by
 unfold Au4 A54;rw[A45 K w h,Bn1 hK w h,Z0];cases (gt l k).Sm==0 with
 |false=>rfl
 |true=>
  cases hc:A0t l k with
  |false=>rfl
  |true=>
   have:plB l (gt l k).fUp=true:=by unfold A0t at hc;rw[Z4]at hc;exact hc.1
   rw[cond_true,cond_true,if_pos (Aul this),bne,Aas];cases (gt l (An4 .i64 (gt l k).fUp 1)).Ee==An3 .i64 k 1<;>rfl
theorem Bn3{l:List As}(w:Aeo l){k:Int}(h:0≤k∧k<(l.length:Int))(hp:Ar2 l (gt l k).Sm=true):Au5 K l k (gt l k).fUp (gt l k).Sm=some (A75 l k&&(A54 l k&&A1q l k)):=by
 unfold Au5 A75;rw[Bn2 hK w h]
 by_cases h0:(gt l k).Sm=0
 ·rw[h0];rfl
 ·rw[Aqv h0,Ag6 h0,cond_true,if_pos (A1p hp h0),bne,Aas];cases (gt l (An4 .i64 (gt l k).Sm 1)).Sl==An3 .i64 k 1<;>rfl
theorem Bn4{l:List As}(w:Aeo l){k:Int}(h:0≤k∧k<(l.length:Int))(hp:Ar2 l (gt l k).Sm=true)(hn:Ar2 l (gt l k).Sl=true):Au6 K l k (gt l k).fUp (gt l k).Sk (gt l k).Sl (gt l k).Sm=some (Bbb l k&&(A75 l k&&(A54 l k&&A1q l k))):=by
 unfold Au6 Bbb;rw[Bn3 hK w h hp]
 by_cases h0:(gt l k).Sl=0
 ·rw[h0];rfl
 ·have hi:=A1p hn h0;rw[Aqv h0,Ag6 h0,cond_true,if_pos hi];simp only[bne,Aas,Z52];cases (gt l (An4 .i64 (gt l k).Sl 1)).Sm==An3 .i64 k 1<;>cases (gt l (An4 .i64 (gt l k).Sl 1)).fUp==(gt l k).fUp<;>cases (gt l (An4 .i64 (gt l k).Sl 1)).Sk==(gt l k).Sk<;>rfl
theorem Bn5{l:List As}(w:Aeo l){k:Int}(h:0≤k∧k<(l.length:Int))(hf:Ar2 l (gt l k).Ee=true)(hp:Ar2 l (gt l k).Sm=true)(hn:Ar2 l (gt l k).Sl=true):Au7 K l k (gt l k).Vg (gt l k).C8 (gt l k).Sj (gt l k).fUp (gt l k).Sk (gt l k).Ee (gt l k).Sl (gt l k).Sm (gt l k).Ay (gt l k).Acv (gt l k).Sn (gt l k).F4 (gt l k).Fh=some (Bge l k&&(Bbb l k&&(A75 l k&&(A54 l k&&A1q l k)))):=by
 unfold Au7 Bge;rw[Bn4 hK w h hp hn]
 by_cases h0:(gt l k).Ee=0
 ·rw[h0];rfl
 ·have hi:=A1p hf h0;rw[Aqv h0,Ag6 h0,cond_true,if_pos hi];simp only[bne,Aas,Z52];cases (gt l (An4 .i64 (gt l k).Ee 1)).Sm==0<;>cases (gt l (An4 .i64 (gt l k).Ee 1)).fUp==An3 .i64 k 1<;>cases (gt l (An4 .i64 (gt l k).Ee 1)).Sk==(gt l k).Sj<;>rfl
theorem Bc6{l:List As}(w:Aeo l){k:Int}(h:0≤k∧k<(l.length:Int)):Azx K l k=some (A0v l k&&A1q l k):=by
 have hn:=w.1 _ (Akr h.1 h.2);unfold Azx A0v A3i;rw[if_pos h,Avg K (Abh w) hn.up,A2u K w hn.first,A2u K w hn.next,A2u K w hn.prev];simp only[Z0,Aas];cases hf:Ar2 l (gt l k).Ee with
 |false=>cases (gt l k).fUp != 0<;>cases plB l (gt l k).fUp<;>rfl
 |true=>
 cases hx:Ar2 l (gt l k).Sl with
 |false=>cases (gt l k).fUp != 0<;>cases plB l (gt l k).fUp<;>rfl
 |true=>
 cases hp:Ar2 l (gt l k).Sm with
 |false=>cases (gt l k).fUp != 0<;>cases plB l (gt l k).fUp<;>rfl
 |true=>
 rw[Bn5 hK w h hf hp hx];simp only[bne];cases (gt l k).fUp==0<;>cases plB l (gt l k).fUp<;>simp only[Bool.not_true,Bool.not_false,cond_true,cond_false,Z30,Bool.false_and,Bool.true_or,Z52,Bool.and_assoc]
theorem Bbc{l:List As}(w:Aeo l):Ay2 K l=some (A5n l):=by
 have hl:=Abh w;unfold Ay2 A5n;rw[Apr hK l.length (by omega) (fun k=>(gt l (k:Int)).Vg != 1||(A0v l k&&A1q l k)) (some true) (fun n i=>Api K l n i) (fun n i h=> ?_) (fun n=> ?_)]
 ·cases (List.range l.length).all _<;>rfl
 ·simp only[Api,Awr];rw[Ad7 h,cond_true,if_pos (Aip h),Bc6 hK w (Aip h),Ad5 (by omega),Z0,Aas,bne]
  cases (gt l (i:Int)).Vg==1<;>rfl
 ·show Api K l (n+1) _=_;rw[Api,Ae0 (Z9 _),cond_false]
theorem Bn6{l:List As}(w:Aeo l){k:Int}(h:0≤k∧k<(l.length:Int)):As9 K l k (gt l k).fUp (gt l k).Sm=some (A54 l k):=by
 unfold As9 A54;rw[A0u K w h,Z0,bne];cases (gt l k).Sm==0 with
 |false=>rfl
 |true=>
  cases hc:A0t l k with
  |false=>rfl
  |true=>
   have:plB l (gt l k).fUp=true:=by unfold A0t at hc;rw[Z4]at hc;exact hc.1
   rw[if_pos (Aul this)];rfl
theorem Bn7{l:List As}(w:Aeo l){k:Int}(h:0≤k∧k<(l.length:Int))(hp:Ar2 l (gt l k).Sm=true):Ata K l k (gt l k).fUp (gt l k).Sm=some (A75 l k&&A54 l k):=by
 unfold Ata A75;rw[Bn6 hK w h]
 by_cases h0:(gt l k).Sm=0
 ·rw[h0];rfl
 ·rw[Aqv h0,Ag6 h0,cond_true,if_pos (A1p hp h0),bne,Aas];cases (gt l (An4 .i64 (gt l k).Sm 1)).Sl==An3 .i64 k 1<;>rfl
theorem Bn8{l:List As}(w:Aeo l){k:Int}(h:0≤k∧k<(l.length:Int))(hp:Ar2 l (gt l k).Sm=true)(hn:Ar2 l (gt l k).Sl=true):Atb K l k (gt l k).fUp (gt l k).Sk (gt l k).Sl (gt l k).Sm=some (Bbb l k&&(A75 l k&&A54 l k)):=by
 unfold Atb Bbb;rw[Bn7 hK w h hp]
 by_cases h0:(gt l k).Sl=0
 ·rw[h0];rfl
 ·have hi:=A1p hn h0;rw[Aqv h0,Ag6 h0,cond_true,if_pos hi];simp only[bne,Aas,Z52];cases (gt l (An4 .i64 (gt l k).Sl 1)).Sm==An3 .i64 k 1<;>cases (gt l (An4 .i64 (gt l k).Sl 1)).fUp==(gt l k).fUp<;>cases (gt l (An4 .i64 (gt l k).Sl 1)).Sk==(gt l k).Sk<;>rfl
theorem Bn9{l:List As}(w:Aeo l){k:Int}(h:0≤k∧k<(l.length:Int))(hf:Ar2 l (gt l k).Ee=true)(hp:Ar2 l (gt l k).Sm=true)(hn:Ar2 l (gt l k).Sl=true):Atc K l k (gt l k).Vg (gt l k).C8 (gt l k).Sj (gt l k).fUp (gt l k).Sk (gt l k).Ee (gt l k).Sl (gt l k).Sm (gt l k).Ay (gt l k).Acv (gt l k).Sn (gt l k).F4 (gt l k).Fh=some (Bge l k&&(Bbb l k&&(A75 l k&&A54 l k))):=by
 unfold Atc Bge;rw[Bn8 hK w h hp hn]
 by_cases h0:(gt l k).Ee=0
 ·rw[h0];rfl
 ·have hi:=A1p hf h0;rw[Aqv h0,Ag6 h0,cond_true,if_pos hi];simp only[bne,Aas,Z52];cases (gt l (An4 .i64 (gt l k).Ee 1)).Sm==0<;>cases (gt l (An4 .i64 (gt l k).Ee 1)).fUp==An3 .i64 k 1<;>cases (gt l (An4 .i64 (gt l k).Ee 1)).Sk==(gt l k).Sj<;>rfl
theorem A9i{l:List As}(w:Aeo l){k:Int}(h:0≤k∧k<(l.length:Int)):Ayc K l k=some (A0v l k):=by
 unfold Ayc A0v A3i;rw[if_pos h,Ayt K (Abh w),A2v K w,A2v K w,A2v K w];simp only[Z0,Aas];cases hf:Ar2 l (gt l k).Ee with
 |false=>rfl
 |true=>
 cases hx:Ar2 l (gt l k).Sl with
 |false=>rfl
 |true=>
 cases hp:Ar2 l (gt l k).Sm with
 |false=>rfl
 |true=>
 rw[Bn9 hK w h hf hp hx];simp only[bne];cases (gt l k).fUp==0<;>cases plB l (gt l k).fUp<;>simp only[Bool.not_true,Bool.not_false,cond_true,cond_false,Z30,Bool.false_and,Bool.true_or,Z52,Bool.and_assoc]
theorem Bbd{l:List As}(w:Aeo l):Azc K l=some (A5n l):=by
 have hl:=Abh w;unfold Azc A5n;rw[Apr hK l.length (by omega) (fun k=>(gt l (k:Int)).Vg != 1||(A0v l k&&A1q l k)) (some true) (fun n i=>Apn K l n l (l.length:Int) i) (fun n i h=> ?_) (fun n=> ?_)]
 ·cases (List.range l.length).all _<;>rfl
 ·have hc:=Aip h;obtain⟨e1,e2,e3⟩:=Ben w hc
  have e4:=A0u K w (A9h hc);unfold A5m at e4
  have e5:decide (((Aib l l.length i).length:Int)>4)= !decide (((Aib l l.length i).length:Int)≤4):=by rw[←decide_not];congr 1;simp
  simp only[Apn,Aw4];rw[Ad7 h,cond_true,if_pos hc,A9i hK w hc,Ad5 (by omega),Z0,A6t hK w,Z0,e1,if_pos ⟨e2,e3⟩,e4,Z0,e5]
  unfold A1q A5m;simp only[Aas,bne];cases (gt l (i:Int)).Vg==1<;>cases A0v l i<;>cases decide (((Aib l l.length i).length:Int)≤4)<;>cases A0t l (gt (Aib l l.length i) (((Aib l l.length i).length - 1:Nat):Int))<;>rfl
 ·show Apn K l (n+1) _ _ _=_;rw[Apn,Ae0 (Z9 _),cond_false]
end
theorem A46{c:D9}(hc:Ahl c=true):An4 .i64 c.G6 1=c.G6 - 1:=by
 obtain⟨_,b2,_⟩:=A1 hc;unfold An4;rw[Gy (by omega) (by omega)]
def Ala (c:D9)(x:Az):Bool:=
 Ahl c&&(inB x.Bk 0 c.E5&&(inB x.Ee 0 c.E5&&(decide ((x.Fh.length:Int)≤6)&&(x.Fh.all (fun y=>inB y 0 255)&&(Atm c x.Ay&&(inB x.Wv 0 (c.G6 - 1)&&(decide ((x.Ay.length:Int)>0)||x.Wv==0)))))))
section
variable {K:Nat} (hK:281474976710656≤K)
include hK
theorem A76 (c:D9)(x:Az)(hw:A0o x):Axz K c x=some (Ala c x):=by
 have h1:=Ays hK hw.tags
 have h2:=Ays hK hw.chunks;unfold Axz Avo;rw[Aqw];simp only[Z0,Ani];cases hc:Ahl c with
 |false=>simp[Ala,hc]
 |true=>
 have hA:Anu K c x.Ay K 0=some (Atm c x.Ay):=by
  rw[Apr hK x.Ay.length (by omega) (fun i=>inB (gt x.Ay i) 0 (c.Ay - 1)&& !(x.Ay.take i).contains (gt x.Ay i)) (some true) (fun k i=>Anu K c x.Ay k i) (fun k i h=> ?_) (fun k=> ?_)]
  ·unfold Atm;cases (List.range x.Ay.length).all _<;>rfl
  ·have hp:(x.Ay.take i).length≤140737488355328:=by simp;omega
   simp only[Anu];rw[Ad7 h,cond_true,if_pos (Aip h),Ani,if_pos (Ba4 (by omega)),A42,A0l hK _ _ hp,Ad5 (by omega),Ayr hK hc]
   simp only[Z0,if_pos (Aip h)];cases inB (gt x.Ay i) 0 (c.Ay - 1)<;>cases (x.Ay.take i).contains (gt x.Ay i)<;>rfl
  ·show Anu K c x.Ay (k+1) _=_;rw[Anu,Ae0 (Z9 _),cond_false]
 have hB:Apu K c x.Fh x.Ay K 0=some (x.Fh.all (fun y=>inB y 0 255)&&Atm c x.Ay):=by
  rw[Ar8 hK x.Fh (by omega) (fun y=>inB y 0 255) (some (Atm c x.Ay)) (Apu K c x.Fh x.Ay) (fun k i h=> ?_) (fun k=> ?_)]
  ·rw[Akp]
  ·rw[Apu,Ad7 h,cond_true,if_pos (Aip h),K1 h,Ani,Ad5 (by omega),Z0,Aas]
  ·rw[Apu,Ae0 (Z9 _),cond_false,hA]
 rw[hB,A46 hc]
 have e6:decide ((x.Fh.length:Int)>6)= !decide ((x.Fh.length:Int)≤6):=by rw[←decide_not];congr 1;simp
 have e0:decide ((x.Ay.length:Int)>0)= !((x.Ay.length:Int)==0):=by
  rw[Bool.eq_iff_iff];simp only[decide_eq_true_eq,Z44,beq_eq_false_iff_ne];omega
 unfold Ala;simp only[cond_true,e6,e0,Aas,bne,hc,Z30];cases (x.Ay.length:Int)==0 with
 |true=>
  simp only[cond_true,Bool.not_true,Z52,Akp,Z7]
  ac_rfl
 |false=>
  simp only[cond_false,Bool.not_false,Bool.true_or,Akp,Z7,Bool.and_true]
  ac_rfl
theorem A77 (c:D9)(x:Az)(hw:A0o x):Ayd K c x=some (Ala c x):=by
 have h1:=Ays hK hw.tags
 have h2:=Ays hK hw.chunks;unfold Ayd;rw[A2r];simp only[Z0,Avy];cases hc:Ahl c with
 |false=>simp[Ala,hc]
 |true=>
 rw[A1h hK _ (by omega),A3q hK hc _ h2,A46 hc]
 unfold Ala;simp only[Z0,cond_true,hc,Z30,A0k,Akp]
end
theorem Aqq{c:D9}{x:Az}(h:Ala c x=true):Ahl c=true∧(0≤x.Bk∧x.Bk≤c.E5)∧(0≤x.Ee∧x.Ee≤c.E5)∧Atm c x.Ay=true∧(0≤x.Wv∧x.Wv≤c.G6 - 1):=by
 unfold Ala at h;simp only[Z4,Acx]at h;exact⟨h.1,h.2.1,h.2.2.1,h.2.2.2.2.2.1,h.2.2.2.2.2.2.1⟩
theorem Aw7{c:D9}{l:List Int}(h:Atm c l=true): ∀x∈l,0≤x∧x<c.Ay:=by
 intro x hx;obtain⟨i,hi,e⟩:=List.mem_iff_getElem.1 hx;unfold Atm at h;rw[Z1]at h
 have:=h i (by simpa using hi)
 rw[Z4,K1 hi,e,Acx]at this;omega
theorem A3w{l:List Int}:l.Nodup ↔ ∀i,(h:i<l.length)->l[i] ∉ l.take i:=by
 unfold List.Nodup;rw[List.pairwise_iff_getElem];constructor
 ·intro h i hi hm;obtain⟨j,hj,e⟩:=List.mem_iff_getElem.1 hm;rw[List.getElem_take]at e;simp only[List.length_take]at hj;exact h j i (by omega) hi (by omega) e
 ·intro h i j hi hj hij e;exact h j hj (List.mem_iff_getElem.2 ⟨i,by simp;omega,by rw[List.getElem_take];exact e⟩)
theorem Ayu{c:D9}{l:List Int}(h:Atm c l=true):l.Nodup:=by
 rw[A3w];intro i hi hm;unfold Atm at h;rw[Z1]at h
 have:=h i (by simpa using hi)
 rw[Z4,K1 hi,Z44,List.contains_eq_mem]at this;exact absurd hm (of_decide_eq_false this.2)
theorem Ayv{l:List Int}: ∀ {o:List Int},o.Nodup->(∀x∈o,x∈l)->o.length≤l.length:=by
 intro o
 induction o generalizing l with
 |nil=>intro _ _;exact Z21 _
 |cons x o ih=>
  intro hn hs
  have hx:x∈l:=hs x (by simp)
  rw[List.nodup_cons]at hn
  have h2:=ih (l:=l.erase x) hn.2 (fun y hy=>by
   have hne:y≠x:=fun e=>hn.1 (e ▸ hy);exact(List.mem_erase_of_ne hne).2 (hs y (by simp[hy])))
  rw[List.length_erase_of_mem hx]at h2
  have:0<l.length:=List.length_pos_of_mem hx;simp only[Z28];omega
theorem Ar3{c:D9}(hc:Ahl c=true){l:List Int}(h:Atm c l=true):l.length≤12:=by
 obtain⟨b1,_⟩:=A1 hc
 have:=Ayv (l:=(List.range 12).map (fun i:Nat=>(i:Int))) (Ayu h) (fun x hx=>by
  have:=Aw7 h x hx;rw[Ex];exact⟨x.toNat,by simp;omega,by omega⟩)
 simpa using this
def Ayp (l:List As):Nat->Int->List Int
 |0,_=>[]
 |n+1,k=>if 0≤k∧k<(l.length:Int)then k::Ayp l n (An4 .i64 (gt l k).Sl 1)else []
theorem A4e{l:List As}: ∀(n:Nat) (k:Int),∀x∈Ayp l n k,0≤x∧x<(l.length:Int):=by
 intro n
 induction n with
 |zero=>intro k x hx;cases hx
 |succ n ih=>
  intro k x hx;unfold Ayp at hx;split at hx
  ·rename_i h;rcases Ef.1 hx with rfl|hx
   ·exact h
   ·exact ih _ x hx
  ·cases hx
theorem A3j{l:List As}: ∀(n:Nat) (k:Int),(Ayp l n k).length≤n:=by
 intro n
 induction n with
 |zero=>intro k;exact Z9 _
 |succ n ih=>
  intro k;unfold Ayp;split
  ·simp only[Z28];have:=ih (An4 .i64 (gt l k).Sl 1);omega
  ·exact Z21 _
def Akt (l:List As)(first:Int):List Int:=Ayp l l.length (An4 .i64 first 1)
def Axh (l:List As)(k:Int):Bool:=(gt l k).Vg==1&&((gt l k).fUp != 0&& !A0t l k)
theorem A5o (K:Nat){l:List As}(w:Aeo l){k:Int}(h:0≤k∧k<(l.length:Int)):Ast K l k=some (Axh l k):=by
 unfold Ast Axh;rw[if_pos h,if_pos h,A45 K w h,Z0,Akp,Akp]
theorem A5p (K:Nat){l:List As}(w:Aeo l){k:Int}(h:0≤k∧k<(l.length:Int)):Arp K l k=some (Axh l k):=by
 unfold Arp Axh;rw[if_pos h,if_pos h,A0u K w h,Z0,Akp,Akp]
section
variable {K:Nat} (hK:281474976710656≤K)
theorem Bgf{l:List As}(w:Aeo l): ∀(n:Nat) (k:Int) (v:List Int),wfi k->v.length≤l.length->l.length - v.length<n->At1 K l n k v=some (v++Ayp l (l.length - v.length) (An4 .i64 k 1)):=by
 have hm:=P2
 have hb:l.length*152≤140737488355327:=w.2;intro n
 induction n with
 |zero=>intro k v _ _ h;omega
 |succ n ih=>
  intro k v hk hv hn;rw[At1,Avg K (Abh w) hk];simp only[Z0]
  by_cases hs:0≤An4 .i64 k 1∧An4 .i64 k 1<(l.length:Int)
  ·rw[show plB l k=true from decide_eq_true hs]
   simp only[cond_true];rcases Hl v.length l.length with h|h
   ·rw[Ad7 h];simp only[cond_true]
    have hl2:(v++[An4 .i64 k 1]).length=v.length+1:=by simp
    rw[if_pos ⟨by rw[hl2];omega,by rw[hl2];omega⟩,if_pos hs,ih (gt l (An4 .i64 k 1)).Sl _ (w.1 _ (Akr hs.1 hs.2)).next (by rw[hl2];omega) (by rw[hl2];omega),hl2]
    obtain⟨m,hm⟩: ∃m,l.length - v.length=m+1:=⟨l.length - v.length - 1,by omega⟩
    rw[hm,Ayp,if_pos hs,show l.length - (v.length+1)=m from by omega]
    simp
   ·rw[Ae0 h];rw[show l.length - v.length=0 from by omega]
    simp[Ayp]
  ·rw[show plB l k=false from decide_eq_false hs]
   have:Ayp l (l.length - v.length) (An4 .i64 k 1)=[]:=by
    cases l.length - v.length with
    |zero=>rfl
    |succ m=>rw[Ayp,if_neg hs]
   rw[this];simp
theorem Bgg{l:List As}(w:Aeo l): ∀(n:Nat) (k:Int) (v:List Int),v.length≤l.length->l.length - v.length<n->Aua K l n v k=some (v++Ayp l (l.length - v.length) k):=by
 have hm:=P2
 have hb:l.length*152≤140737488355327:=w.2;intro n
 induction n with
 |zero=>intro k v _ h;omega
 |succ n ih=>
  intro k v hv hn;rw[Aua,Aui K (by omega)]
  simp only[Z0]
  by_cases hs:0≤k∧k<(l.length:Int)
  ·rw[decide_eq_true hs];simp only[cond_true];rcases Hl v.length l.length with h|h
   ·rw[Ad7 h];simp only[cond_true]
    have hl2:(v++[k]).length=v.length+1:=by simp
    rw[if_pos ⟨by rw[hl2];omega,by rw[hl2];omega⟩,if_pos hs,ih _ _ (by rw[hl2];omega) (by rw[hl2];omega),hl2]
    obtain⟨m,hm⟩: ∃m,l.length - v.length=m+1:=⟨l.length - v.length - 1,by omega⟩
    rw[hm,Ayp,if_pos hs,show l.length - (v.length+1)=m from by omega]
    simp
   ·rw[Ae0 h];rw[show l.length - v.length=0 from by omega]
    simp[Ayp]
  ·rw[decide_eq_false hs]
   have:Ayp l (l.length - v.length) k=[]:=by
    cases l.length - v.length with
    |zero=>rfl
    |succ m=>rw[Ayp,if_neg hs]
   rw[this];simp
include hK
theorem A5q{l:List As}(w:Aeo l){k:Int}(hk:wfi k):Awa K l k=some (Akt l k):=by
 have hb:=Abh w;unfold Awa Akt
 have:=Bgf (K:=K) w K k [] hk (Z21 _) (by simp;omega)
 simpa using this
theorem Bbe{l:List As}(w:Aeo l)(k:Int):Azd K l k=some (Akt l k):=by
 have hb:=Abh w;unfold Azd Akt
 have:=Bgg (K:=K) w K (An4 .i64 k 1) [] (Z21 _) (by simp;omega)
 simpa using this
def Aop (w:C4)(x:Az):Bool:= !decide ((x.Ay.length:Int)>0)||Apo ((w.fP.N5.drop (gt x.Ay 0*w.fC.G6).toNat).take x.Wv.toNat)
def Awd (w:C4)(x:Az):Bool:=x.Bk==0||(gt w.fL (An4 .i64 x.Bk 1)).Vg==2
def Ayf (w:C4)(x:Az):Bool:=x.Ee==0||(gt w.fL (An4 .i64 x.Ee 1)).Sm==0
def A13 (w:C4)(x:Az):Bool:=x.Ay.all (fun k=>gt w.fP.Vg k==2)
def Ar9 (w:C4)(x:Az):Bool:=(Akt w.fL x.Ee).all (Axh w.fL)
def Am4 (w:C4)(x:Az):Bool:=Ala w.fC x&&(A13 w x&&(Aop w x&&(Awd w x&&(Ayf w x&&Ar9 w x))))
theorem A4f{w:C4}(hL:(w.fL.length:Int)=w.fC.E5)(hc:Ahl w.fC=true){n:Int}(h0:n≠0)(h1:0≤n)(h2:n≤w.fC.E5):0≤An4 .i64 n 1∧An4 .i64 n 1<(w.fL.length:Int):=by
 obtain⟨_,_,b3,_⟩:=A1 hc;unfold An4;rw[Gy (by omega) (by omega)]
 omega
theorem A78 (w:C4)(hw:Am6 w)(hp:Auu w.fC w.fP=true)(hL:(w.fL.length:Int)=w.fC.E5)(i:Nat)(hi:i<w.fQ.length):Aws K w i=some (Am4 w (gt w.fQ i)):=by
 have hx:=hw.q.1 _ (Aor hi);unfold Aws;rw[if_pos (Aip hi)];generalize gt w.fQ i=x at *;rw[A76 hK _ _ hx,Z0,Aas];unfold Am4;cases hr:Ala w.fC x with
 |false=>rfl
 |true=>
 rw[cond_true,Z30];obtain⟨hc,⟨s1,s2⟩,⟨f1,f2⟩,hd,d1,d2⟩:=Aqq hr;obtain⟨_,hm,hst,_⟩:=Ate hp;obtain⟨b1,b2,b3,_⟩:=A1 hc
 have hch:=Aw7 hd
 have hl:=Ays hK hx.chunks
 have h3:Ao6 K x.Ee w.fL=some (Ar9 w x):=by
  unfold Ao6 Ar9
  have hk:=A3j (l:=w.fL) w.fL.length (An4 .i64 x.Ee 1)
  have hin:=A4e (l:=w.fL) w.fL.length (An4 .i64 x.Ee 1);rw[A5q hK hw.l hx.first,Z0];change (Akt w.fL x.Ee).length≤_ at hk;change ∀y∈Akt w.fL x.Ee,_ at hin;generalize Akt w.fL x.Ee=r at *;rw[Ar8 hK r (by omega) (Axh w.fL) (some true) (Aqa K w.fL r) (fun n i h=> ?_) (fun n=> ?_)]
  ·cases r.all _<;>rfl
  ·rw[Aqa,Ad7 h,cond_true,if_pos (Aip h),A5o K hw.l (hin _ (Aor h)),Ad5 (by omega),Z0,Aas,K1 h]
  ·rw[Aqa,Ae0 (Z9 _),cond_false]
 have h2:Arw K x.Bk x.Ee w.fL=some (Awd w x&&(Ayf w x&&Ar9 w x)):=by
  unfold Arw Awd Ayf;rw[h3]
  by_cases g1:x.Ee=0
  ·rw[g1]
   by_cases g2:x.Bk=0
   ·rw[g2];rfl
   ·rw[Aqv g2,Ag6 g2,cond_true,if_pos (A4f hK hL hc g2 s1 s2)];simp only[bne,Aas,Z52];cases (gt w.fL (An4 .i64 x.Bk 1)).Vg==2<;>rfl
  ·have hF:(bif (x.Ee != 0)then(if(0:Int)≤(An4 .i64 x.Ee 1)∧(An4 .i64 x.Ee 1)<(w.fL.length:Int)then(bif (((gt w.fL (An4 .i64 x.Ee 1)).Sm) != 0)then some false else some (Ar9 w x))else none)else some (Ar9 w x))=some ((x.Ee==0||(gt w.fL (An4 .i64 x.Ee 1)).Sm==0)&&Ar9 w x):=by
    rw[Aqv g1,Ag6 g1,cond_true,if_pos (A4f hK hL hc g1 f1 f2)];simp only[bne,Aas,Z52,Akp]
   rw[hF]
   by_cases g2:x.Bk=0
   ·rw[g2];rfl
   ·rw[Aqv g2,Ag6 g2,cond_true,if_pos (A4f hK hL hc g2 s1 s2)];simp only[bne,Aas,Z52,Akp]
 rw[Ar8 hK x.Ay (by omega) (fun k=>gt w.fP.Vg k==2) (some (Aop w x&&(Awd w x&&(Ayf w x&&Ar9 w x)))) (fun n i=>Ao7 K n i x.Bk x.Ee x.Fh x.Ay x.Wv w.fC.Ay w.fC.G6 w.fC.E5 w.fC.Gs w.fC.E6 w.fC.G7 w.fP.N5 w.fP.Vg w.fP.N6 w.fL w.fQ w.Acw) (fun n i h=> ?_) (fun n=> ?_)]
 ·rw[Akp];rfl
 ·simp only[Ao7]
  have h5:=hch _ (Aor h);rw[Ad7 h,cond_true,if_pos (Aip h),if_pos ⟨h5.1,by omega⟩,Ad5 (by omega),bne,Aas,K1 h]
 ·show Ao7 K (n+1) _ _ _ _ _ _ _ _ _ _ _ _ _ _ _ _ _ _=_;rw[Ao7,Ae0 (Z9 _),cond_false,h2];unfold Aop
  by_cases g:(x.Ay.length:Int)>0
  ·have h5:=hch _ (Akr (l:=x.Ay) (Int.le_refl 0) (by omega))
   obtain⟨e1,e2,e3,e4⟩:=A1m hc hm h5.1 h5.2
   have e5:An3 .i64 (gt x.Ay 0*w.fC.G6) x.Wv=gt x.Ay 0*w.fC.G6+x.Wv:=by
    have:=Aut (a:=gt x.Ay 0) (b:=w.fC.G6) (m:=12) (n:=16) h5.1 (by omega) (by omega) b2.2
    unfold An3;rw[Gy (by omega) (by omega)]
   rw[decide_eq_true g,cond_true,if_pos ⟨by omega,by omega⟩,if_pos ⟨by omega,by omega⟩,e1,e5,if_pos ⟨e3,by omega,by omega⟩,A09 hK _ (by simp;omega),show gt x.Ay 0*w.fC.G6+x.Wv - gt x.Ay 0*w.fC.G6=x.Wv by omega]
   simp only[Z0,Aas,Akp,Bool.not_true,Z52]
  ·rw[decide_eq_false g];rfl
end
def Aky (N:Nat)(l:List Int):List Int:=(List.range N).map (fun k:Nat=>((l.count (k:Int):Nat):Int))
theorem A2w (N:Nat)(l:List Int):(Aky N l).length=N:=by simp[Aky]
theorem A1b{N:Nat}{l:List Int}{x:Int}(h0:0≤x)(h1:x<N):gt (Aky N l) x=((l.count x:Nat):Int):=by
 obtain⟨k,rfl⟩: ∃k:Nat,x=k:=⟨x.toNat,by omega⟩
 rw[K1 (by rw[A2w];omega)]
 simp[Aky]
theorem Bbf (N:Nat):Aky N []=List.replicate N 0:=by
 refine List.ext_getElem (by simp[Aky]) fun i h1 h2=> ?_
 simp[Aky]
theorem Bbg{N:Nat}{l:List Int}{x:Int}(h0:0≤x)(h1:x<N)(hl:l.length≤140737488355327):(Aky N l).set x.toNat (An3 .i64 (gt (Aky N l) x) 1)=Aky N (l++[x]):=by
 have hc:l.count x≤l.length:=List.count_le_length
 have e:An3 .i64 (gt (Aky N l) x) 1=((l.count x+1:Nat):Int):=by
  rw[A1b h0 h1,Ad5 (by omega)]
 rw[e];refine List.ext_getElem (by simp[Aky]) fun i h2 h3=> ?_
 rw[List.getElem_set];simp only[Aky,List.getElem_map,List.getElem_range,List.count_append,List.count_singleton]
 by_cases hi:x.toNat=i
 ·rw[if_pos hi]
  have:x=(i:Int):=by omega
  simp[this]
 ·rw[if_neg hi]
  have: ¬x=(i:Int):=by omega
  simp[this]
theorem A6v{C P:List Int}(hs: ∀x∈C,x∈P)(hP:P.Nodup):(∀x∈P,C.count x=1) ↔ (C.Nodup∧C.length=P.length):=by
 constructor
 ·intro h
  have hn:C.Nodup:=by
   rw[List.nodup_iff_count];intro a
   by_cases ha:a∈C
   ·rw[h a (hs a ha)];omega
   ·rw[List.count_eq_zero_of_not_mem ha];omega
  refine⟨hn,?_⟩
  have h1:=Ayv hn hs
  have h2:=Ayv hP (l:=C) (fun x hx=>List.count_pos_iff.1 (by rw[h x hx];omega))
  omega
 ·rintro⟨hn,hl⟩ x hx
  have hp:=A5k hn hs hl
  have:=hn.count (a:=x);rw[this,if_pos (hp.mem_iff.2 hx)]
def chL (q:List Az):List Int:=q.flatMap (fun x=>x.Ay)
def slL (q:List Az):List Int:=q.flatMap (fun x=>if x.Bk=0 then []else [An4 .i64 x.Bk 1])
def kdL (l:List As)(q:List Az):List Int:=q.flatMap (fun x=>Akt l x.Ee)
theorem A0f{α β:Type}(q:List α)(f:α->List β)(i:Nat)(h:i<q.length):(q.take (i+1)).flatMap f=(q.take i).flatMap f++f q[i]:=by
 rw[←List.take_append_getElem h,List.flatMap_append];simp
theorem A4g{α β:Type}(q:List α)(f:α->List β)(m:Nat)(h: ∀x∈q,(f x).length≤m):(q.flatMap f).length≤q.length*m:=by
 induction q with
 |nil=>simp
 |cons x q ih=>
  have h1:=h x (by simp)
  have h2:=ih fun y hy=>h y (by simp[hy])
  simp only[List.flatMap_cons,Z23,Z28,Zb,Nat.one_mul];omega
def A5r (w:C4):List Int:=((List.range w.fP.Vg.length).filter (fun k:Nat=>gt w.fP.Vg k==2)).map (fun k:Nat=>(k:Int))
def A3s (w:C4):List Int:=((List.range w.fL.length).filter (fun k:Nat=>(gt w.fL k).Vg==2)).map (fun k:Nat=>(k:Int))
def A6w (w:C4):List Int:=((List.range w.fL.length).filter (fun k:Nat=>Axh w.fL k)).map (fun k:Nat=>(k:Int))
theorem A3x (N:Nat)(p:Nat->Bool):(((List.range N).filter p).map (fun k:Nat=>(k:Int))).Nodup:=by
 unfold List.Nodup;rw[List.pairwise_map];exact(List.Pairwise.filter _ List.pairwise_lt_range).imp fun h=>by omega
theorem Awe{N:Nat}{p:Nat->Bool}{x:Int}:x∈((List.range N).filter p).map (fun k:Nat=>(k:Int)) ↔ (0≤x∧x<(N:Int))∧p x.toNat=true:=by
 simp only[Ex,List.mem_filter,List.mem_range];constructor
 ·rintro⟨k,⟨h1,h2⟩,rfl⟩;exact⟨⟨by omega,by omega⟩,by simpa using h2⟩
 ·rintro⟨⟨h1,h2⟩,h3⟩;exact⟨x.toNat,⟨by omega,h3⟩,by omega⟩
def Aw9 (w:C4)(N:Nat):Bool:=
 (List.range w.fP.Vg.length).all (fun k=> !(gt w.fP.Vg k==2)||gt (Aky N (chL w.fQ)) k==1)&&
 (List.range w.fL.length).all (fun k=>(!((gt w.fL k).Vg==2)||gt (Aky w.fL.length (slL w.fQ)) k==1)&&(!Axh w.fL k||gt (Aky w.fL.length (kdL w.fL w.fQ)) k==1))
def A3y (q:List Az)(i k:Nat):Bool:= !((gt q i).Bk != 0&&(gt q k).Bk==(gt q i).Bk)&&(gt q i).Ay.all (fun y=> !(gt q k).Ay.contains y)
def A9j (q:List Az):Bool:=(List.range q.length).all (fun i=>(List.range i).all (fun k=>A3y q i k))
def A47 (l:List Int):Bool:=(List.range l.length).all (fun i=> !(l.take i).contains (gt l i))
def A59 (w:C4):Bool:=
 A9j w.fQ&&(A47 (kdL w.fL w.fQ)&&((((chL w.fQ).length:Int)==((A5r w).length:Int))&&((((slL w.fQ).length:Int)==((A3s w).length:Int))&&(((kdL w.fL w.fQ).length:Int)==((A6w w).length:Int)))))
theorem Bc7 (l:List Int):A47 l=true ↔ l.Nodup:=by
 rw[A3w];unfold A47;simp only[Z1,List.mem_range,Z44,List.contains_eq_mem,decide_eq_false_iff_not];exact⟨fun h i hi=>by have:=h i hi;rwa[K1 hi]at this,fun h i hi=>by rw[K1 hi];exact h i hi⟩
theorem Bbh{w:C4}{q:List Az}(h1: ∀x∈q,x.Ay.Nodup)(h2: ∀x∈q,0≤x.Bk∧x.Bk≤8):A9j q=true ↔ (chL q).Nodup∧(slL q).Nodup:=by
 unfold chL slL List.Nodup;rw[List.pairwise_flatMap,List.pairwise_flatMap,List.pairwise_iff_getElem,List.pairwise_iff_getElem]
 have hs: ∀x∈q,List.Pairwise (fun a b:Int=>a≠b) (if x.Bk=0 then []else [An4 .i64 x.Bk 1]):=by
  intro x _;split<;>simp
 have hsub: ∀x∈q,An4 .i64 x.Bk 1=x.Bk - 1:=by
  intro x hx;have:=h2 x hx;unfold An4;rw[Gy (by omega) (by omega)]
 unfold A9j A3y;simp only[Z1,List.mem_range,Z4,Z44,List.contains_eq_mem,decide_eq_false_iff_not];constructor
 ·intro h;refine⟨⟨h1,fun i j hi hj hij x hx y hy e=> ?_⟩,hs,fun i j hi hj hij x hx y hy e=> ?_⟩
  ·have:=(h j hj i hij).2;rw[K1 hi,K1 hj]at this;subst e;exact this x hy hx
  ·have:=(h j hj i hij).1;rw[K1 hi,K1 hj]at this;split at hx
   ·cases hx
   ·split at hy
    ·cases hy
    ·rename_i g1 g2;simp only[Px]at hx hy;subst hx;subst hy;rw[hsub _ (List.getElem_mem hi),hsub _ (List.getElem_mem hj)]at e;rw[Aqv g2,Z30,beq_eq_false_iff_ne]at this;exact this (by omega)
 ·rintro⟨⟨_,h3⟩,_,h4⟩ i hi k hk
  have hk':k<q.length:=by omega
  rw[K1 hi,K1 hk'];refine⟨?_,fun x hx hy=>h3 k i hk' hi hk x hy x hx rfl⟩;rw[Bool.and_eq_false_iff]
  by_cases g:q[i].Bk=0
  ·left;simp[g]
  ·right;rw[beq_eq_false_iff_ne];intro e;refine h4 k i hk' hi hk (An4 .i64 q[k].Bk 1) ?_ (An4 .i64 q[i].Bk 1) ?_ (by rw[e])
   ·rw[if_neg (by rw[e];exact g)];simp
   ·rw[if_neg g];simp
theorem Btm{w:C4}(hp:Auu w.fC w.fP=true)(hL:(w.fL.length:Int)=w.fC.E5)(hq: ∀x∈w.fQ,Am4 w x=true):Aw9 w w.fC.Ay.toNat=A59 w:=by
 obtain⟨hc,hm,hst,_⟩:=Ate hp;obtain⟨b1,b2,b3,_⟩:=A1 hc
 have hone: ∀x∈w.fQ,(0≤x.Bk∧x.Bk≤w.fC.E5)∧Atm w.fC x.Ay=true∧A13 w x=true∧Awd w x=true∧Ar9 w x=true:=by
  intro x hx
  have:=hq x hx;unfold Am4 at this;simp only[Z4]at this;obtain⟨h1,h2,h3,h4,h5,h6⟩:=this;obtain⟨_,g1,_,g3,_⟩:=Aqq h1;exact⟨g1,g3,h2,h4,h6⟩
 have hC: ∀x∈chL w.fQ,x∈A5r w:=by
  intro y hy;unfold chL at hy;rw[List.mem_flatMap]at hy;obtain⟨x,hx,hy⟩:=hy;obtain⟨_,g2,g3,_⟩:=hone x hx
  have:=Aw7 g2 y hy;unfold A13 at g3;rw[Z1]at g3
  have g4:=g3 y hy;refine Awe.2 ⟨⟨this.1,by omega⟩,?_⟩
  rw[show((y.toNat:Nat):Int)=y by omega];exact g4
 have hS: ∀x∈slL w.fQ,x∈A3s w:=by
  intro y hy;unfold slL at hy;rw[List.mem_flatMap]at hy;obtain⟨x,hx,hy⟩:=hy;obtain⟨g1,g2,g3,g4,_⟩:=hone x hx;split at hy
  ·cases hy
  ·rename_i g;simp only[Px]at hy;unfold Awd at g4;rw[Ag6 g,Z52,←hy]at g4
   have:y=x.Bk - 1:=by rw[hy];unfold An4;rw[Gy (by omega) (by omega)]
   refine Awe.2 ⟨⟨by omega,by omega⟩,?_⟩
   rw[show((y.toNat:Nat):Int)=y by omega];exact g4
 have hK2: ∀x∈kdL w.fL w.fQ,x∈A6w w:=by
  intro y hy;unfold kdL at hy;rw[List.mem_flatMap]at hy;obtain⟨x,hx,hy⟩:=hy;obtain⟨g1,g2,g3,g4,g5⟩:=hone x hx;unfold Ar9 at g5;rw[Z1]at g5
  have:=A4e _ _ y hy;refine Awe.2 ⟨this,?_⟩;rw[show((y.toNat:Nat):Int)=y by omega];exact g5 y hy
 have e1:=A6v hC (A3x _ _)
 have e2:=A6v hS (A3x _ _)
 have e3:=A6v hK2 (A3x _ _)
 have hp2:=Bbh (w:=w) (q:=w.fQ) (fun x hx=>Ayu (hone x hx).2.1) (fun x hx=>by have:=(hone x hx).1;omega)
 rw[Bool.eq_iff_iff];unfold Aw9 A59;simp only[Z4,Z1,List.mem_range,Bool.or_eq_true,Z44,beq_iff_eq,Bc7,hp2,beq_eq_false_iff_ne]
 have c1:(∀x∈A5r w,(chL w.fQ).count x=1) ↔ ∀k,k<w.fP.Vg.length->gt w.fP.Vg (k:Int)≠2∨gt (Aky w.fC.Ay.toNat (chL w.fQ)) (k:Int)=1:=by
  constructor
  ·intro h k hk
   by_cases g:gt w.fP.Vg (k:Int)=2
   ·right;rw[A1b (by omega) (by omega),h k (Awe.2 ⟨⟨by omega,by omega⟩,by simpa using g⟩)];rfl
   ·left;exact g
  ·intro h x hx;obtain⟨⟨h1,h2⟩,h3⟩:=Awe.1 hx;rw[beq_iff_eq,show((x.toNat:Nat):Int)=x by omega]at h3
   rcases h x.toNat (by omega)with h4|h4
   ·rw[show((x.toNat:Nat):Int)=x by omega]at h4;exact absurd h3 h4
   ·rw[show((x.toNat:Nat):Int)=x by omega,A1b h1 (by omega)]at h4;omega
 have c2:(∀x∈A3s w,(slL w.fQ).count x=1) ↔ ∀k,k<w.fL.length->(gt w.fL (k:Int)).Vg≠2∨gt (Aky w.fL.length (slL w.fQ)) (k:Int)=1:=by
  constructor
  ·intro h k hk
   by_cases g:(gt w.fL (k:Int)).Vg=2
   ·right;rw[A1b (by omega) (by omega),h k (Awe.2 ⟨⟨by omega,by omega⟩,by simpa using g⟩)];rfl
   ·left;exact g
  ·intro h x hx;obtain⟨⟨h1,h2⟩,h3⟩:=Awe.1 hx;rw[beq_iff_eq,show((x.toNat:Nat):Int)=x by omega]at h3
   rcases h x.toNat (by omega)with h4|h4
   ·rw[show((x.toNat:Nat):Int)=x by omega]at h4;exact absurd h3 h4
   ·rw[show((x.toNat:Nat):Int)=x by omega,A1b h1 (by omega)]at h4;omega
 have c3:(∀x∈A6w w,(kdL w.fL w.fQ).count x=1) ↔ ∀k,k<w.fL.length->Axh w.fL (k:Int)=false∨gt (Aky w.fL.length (kdL w.fL w.fQ)) (k:Int)=1:=by
  constructor
  ·intro h k hk;cases g:Axh w.fL (k:Int)with
   |true=>
    right;rw[A1b (by omega) (by omega),h k (Awe.2 ⟨⟨by omega,by omega⟩,by simpa using g⟩)];rfl
   |false=>left;rfl
  ·intro h x hx;obtain⟨⟨h1,h2⟩,h3⟩:=Awe.1 hx;rw[show((x.toNat:Nat):Int)=x by omega]at h3
   rcases h x.toNat (by omega)with h4|h4
   ·rw[show((x.toNat:Nat):Int)=x by omega,h3]at h4;cases h4
   ·rw[show((x.toNat:Nat):Int)=x by omega,A1b h1 (by omega)]at h4;omega
 rw[←c1,e1]
 have hsplit:(∀k,k<w.fL.length->((gt w.fL (k:Int)).Vg≠2∨gt (Aky w.fL.length (slL w.fQ)) (k:Int)=1)∧(Axh w.fL (k:Int)=false∨gt (Aky w.fL.length (kdL w.fL w.fQ)) (k:Int)=1)) ↔ (((slL w.fQ).Nodup∧(slL w.fQ).length=(A3s w).length)∧((kdL w.fL w.fQ).Nodup∧(kdL w.fL w.fQ).length=(A6w w).length)):=by
  rw[←show _ ↔ ((slL w.fQ).Nodup∧(slL w.fQ).length=(A3s w).length) from c2.symm.trans e2,←show _ ↔ ((kdL w.fL w.fQ).Nodup∧(kdL w.fL w.fQ).length=(A6w w).length) from c3.symm.trans e3]
  exact⟨fun h=>⟨fun k hk=>(h k hk).1,fun k hk=>(h k hk).2⟩,fun h k hk=>⟨h.1 k hk,h.2 k hk⟩⟩
 rw[hsplit];constructor
 ·rintro⟨⟨a1,a2⟩,⟨a3,a4⟩,a5,a6⟩;exact⟨⟨a1,a3⟩,a5,by omega,by omega,by omega⟩
 ·rintro⟨⟨a1,a3⟩,a5,a2,a4,a6⟩;exact⟨⟨a1,by omega⟩,⟨a3,by omega⟩,a5,by omega⟩
theorem A6a{α β:Type}{K:Nat}(hK:281474976710656≤K)(l:List α)(hl:l.length≤140737488355328)(q:α->Bool)(fin bad:Option β)(L:Nat->Nat->Option β)
  (hs: ∀n (i:Nat) (h:i<l.length),L (n+1) i=bif q l[i]then L n (i+1)else bad)
  (he: ∀n,L (n+1) l.length=fin):L K 0=bif l.all q then fin else bad:=by
 have:=Bej l q fin bad (fun n i=>L n i.toNat) (fun n i h=>by simpa using hs n i h) (fun n=>by simpa using he n) K 0 (Z21 _) (by omega)
 simpa using this
section
variable {K:Nat} (hK:281474976710656≤K)
include hK
theorem Bgh (w:C4)(hw:Am6 w):Acu K (Aky w.fL.length (slL w.fQ)) (Aky w.fL.length (kdL w.fL w.fQ)) w.fL K (w.fL.length:Int) 0 w.fL=some ((List.range w.fL.length).all (fun k=>(!((gt w.fL (k:Int)).Vg==2)||gt (Aky w.fL.length (slL w.fQ)) k==1)&&(!Axh w.fL k||gt (Aky w.fL.length (kdL w.fL w.fQ)) k==1))):=by
 have hl:=Abh hw.l
 rw[Apr hK w.fL.length (by omega) (fun k=>(!((gt w.fL (k:Int)).Vg==2)||gt (Aky w.fL.length (slL w.fQ)) k==1)&&(!Axh w.fL k||gt (Aky w.fL.length (kdL w.fL w.fQ)) k==1)) (some true) (fun n i=>Acu K (Aky w.fL.length (slL w.fQ)) (Aky w.fL.length (kdL w.fL w.fQ)) w.fL n (w.fL.length:Int) i w.fL) (fun n i h=> ?_) (fun n=> ?_)]
 ·cases (List.range w.fL.length).all _<;>rfl
 ·simp only[Acu,Akz];rw[Ad7 h,cond_true,if_pos (Aip h),A5p K hw.l (Aip h),Ad5 (by omega)]
  simp only[Z0,A2w,if_pos (Aip h),bne,Aas];cases (gt w.fL (i:Int)).Vg==2<;>cases gt (Aky w.fL.length (slL w.fQ)) (i:Int)==1<;>cases Axh w.fL i<;>cases gt (Aky w.fL.length (kdL w.fL w.fQ)) (i:Int)==1<;>rfl
 ·show Acu K _ _ _ (n+1) _ _ _=_;rw[Acu,Ae0 (Z9 _),cond_false]
theorem Bgi (w:C4)(hw:Am6 w)(hp:Auu w.fC w.fP=true):Agn K (Aky w.fC.Ay.toNat (chL w.fQ)) (Aky w.fL.length (slL w.fQ)) (Aky w.fL.length (kdL w.fL w.fQ)) w.fP.Vg w.fL K (w.fP.Vg.length:Int) 0 w.fP.Vg=some (Aw9 w w.fC.Ay.toNat):=by
 obtain⟨hc,hm,hst,_⟩:=Ate hp;obtain⟨b1,_⟩:=A1 hc
 rw[Apr hK w.fP.Vg.length (by omega) (fun k=> !(gt w.fP.Vg k==2)||gt (Aky w.fC.Ay.toNat (chL w.fQ)) k==1) (some ((List.range w.fL.length).all (fun k=>(!((gt w.fL (k:Int)).Vg==2)||gt (Aky w.fL.length (slL w.fQ)) k==1)&&(!Axh w.fL k||gt (Aky w.fL.length (kdL w.fL w.fQ)) k==1)))) (fun n i=>Agn K (Aky w.fC.Ay.toNat (chL w.fQ)) (Aky w.fL.length (slL w.fQ)) (Aky w.fL.length (kdL w.fL w.fQ)) w.fP.Vg w.fL n (w.fP.Vg.length:Int) i w.fP.Vg) (fun n i h=> ?_) (fun n=> ?_)]
 ·rw[Akp];rfl
 ·simp only[Agn,Aqp];rw[Ad7 h,cond_true,if_pos (Aip h),Ad5 (by omega)]
  simp only[A2w,if_pos (show(0:Int)≤(i:Int)∧(i:Int)<((w.fC.Ay.toNat:Nat):Int) from⟨by omega,by omega⟩),bne,Aas]
  cases gt w.fP.Vg (i:Int)==2<;>cases gt (Aky w.fC.Ay.toNat (chL w.fQ)) (i:Int)==1<;>rfl
 ·show Agn K _ _ _ _ _ (n+1) _ _ _=_;rw[Agn,Ae0 (Z9 _),cond_false,Bgh hK w hw]
theorem Bbi{β:Type}(N:Nat)(base l:List Int)(hin: ∀x∈l,0≤x∧x<(N:Int))(hl:base.length+l.length≤140737488355327)(q:Int->Bool)(fin bad:Option β)(L:Nat->List Int->Int->Option β)
  (hs: ∀n v (i:Nat) (h:i<l.length),v.length=N->L (n+1) v (i:Int)=bif q l[i]then L n (v.set (l[i]).toNat (An3 .i64 (gt v l[i]) 1)) ((i+1:Nat):Int)else bad)
  (he: ∀n,L (n+1) (Aky N (base++l)) (l.length:Int)=fin):L K (Aky N base) 0=bif l.all q then fin else bad:=by
 have:=A6a hK l (by omega) q fin bad (fun n i=>L n (Aky N (base++l.take i)) (i:Int)) (fun n i h=> ?_) (fun n=> ?_)
 ·simpa using this
 ·have hb:(base++l.take i).length≤140737488355327:=by simp;omega
  have h1:=hin _ (List.getElem_mem h);rw[hs n _ i h (A2w _ _),Bbg h1.1 h1.2 hb,Z31,List.take_append_getElem]
 ·simp only[List.take_length];exact he n
theorem Bc8 (w:C4)(hw:Am6 w)(hp:Auu w.fC w.fP=true)(hL:(w.fL.length:Int)=w.fC.E5)(x:Az)(hx:A0o x)(c s d:List Int)(i:Nat)(n:Nat)(hi:i<w.fQ.length)(he:gt w.fQ i=x)
  (hb1:c.length+12≤140737488355327) (hb2:s.length≤140737488355326) (hb3:d.length+8≤140737488355327):
  Ht K (n+1) (Aky w.fC.Ay.toNat c) (Aky w.fL.length s) (Aky w.fL.length d) w.fQ (w.fQ.length:Int) i w.fC.Ay w.fC.G6 w.fC.E5 w.fC.Gs w.fC.E6 w.fC.G7 w.fP.N5 w.fP.Vg w.fP.N6 w.fL w.fQ w.Acw
   =bif Am4 w x then Ht K n (Aky w.fC.Ay.toNat (c++x.Ay)) (Aky w.fL.length (s++if x.Bk=0 then []else [An4 .i64 x.Bk 1])) (Aky w.fL.length (d++Akt w.fL x.Ee)) w.fQ (w.fQ.length:Int) ((i+1:Nat):Int) w.fC.Ay w.fC.G6 w.fC.E5 w.fC.Gs w.fC.E6 w.fC.G7 w.fP.N5 w.fP.Vg w.fP.N6 w.fL w.fQ w.Acw else some false:=by
 have hq:=hw.q.2;rw[Ht];rw[show D9.mk w.fC.Ay w.fC.G6 w.fC.E5 w.fC.Gs w.fC.E6 w.fC.G7=w.fC from rfl,show Dm.mk w.fP.N5 w.fP.Vg w.fP.N6=w.fP from rfl]
 rw[Ad7 hi,cond_true,if_pos (Aip hi),he,A77 hK _ _ hx,Z0];unfold Am4;cases hr:Ala w.fC x with
 |false=>rfl
 |true=>
 rw[cond_true,Z30];obtain⟨hc,⟨s1,s2⟩,⟨f1,f2⟩,hd,d1,d2⟩:=Aqq hr;obtain⟨_,hm,hst,_⟩:=Ate hp;obtain⟨b1,b2,b3,_⟩:=A1 hc
 have hch:=Aw7 hd
 have hcl:=Ar3 hc hd
 have h5: ∀s',Apd K (Aky w.fL.length d) w.fQ (w.fQ.length:Int) i w.fC.Ay w.fC.G6 w.fC.E5 w.fC.Gs w.fC.E6 w.fC.G7 w.fP.N5 w.fP.Vg w.fP.N6 w.fL w.fQ w.Acw x.Ee (Aky w.fC.Ay.toNat (c++x.Ay)) s' (Ht K n)
   =bif Ar9 w x then Ht K n (Aky w.fC.Ay.toNat (c++x.Ay)) s' (Aky w.fL.length (d++Akt w.fL x.Ee)) w.fQ (w.fQ.length:Int) ((i+1:Nat):Int) w.fC.Ay w.fC.G6 w.fC.E5 w.fC.Gs w.fC.E6 w.fC.G7 w.fP.N5 w.fP.Vg w.fP.N6 w.fL w.fQ w.Acw else some false:=by
  intro s'
  have hk:=A3j (l:=w.fL) w.fL.length (An4 .i64 x.Ee 1)
  have hin:=A4e (l:=w.fL) w.fL.length (An4 .i64 x.Ee 1);unfold Apd Ar9;rw[Bbe hK hw.l,Z0];change (Akt w.fL x.Ee).length≤_ at hk;change ∀y∈Akt w.fL x.Ee,_ at hin;generalize Akt w.fL x.Ee=r at*
  refine Bbi hK w.fL.length d r hin (by omega) (Axh w.fL) _ _ (fun m v j=>Aiw K w.fQ (w.fQ.length:Int) i w.fC.Ay w.fC.G6 w.fC.E5 w.fC.Gs w.fC.E6 w.fC.G7 w.fP.N5 w.fP.Vg w.fP.N6 w.fL w.fQ w.Acw (Aky w.fC.Ay.toNat (c++x.Ay)) s' r (Ht K n) m v (r.length:Int) j) (fun m v j hj hv=> ?_) (fun m=> ?_)
  ·have hr1:=hin _ (Aor hj);simp only[Aiw];rw[Ad7 hj,cond_true,if_pos (Aip hj),if_pos (by rw[hv];exact hr1),if_pos (by rw[hv];exact hr1),A5p K hw.l hr1,Ad5 (by omega),Z0,Aas,K1 hj]
  ·show Aiw K _ _ _ _ _ _ _ _ _ _ _ _ _ _ _ _ _ _ _ (m+1) _ _ _=_;rw[Aiw,Ae0 (Z9 _),cond_false,Ad5 (by omega)]
 have h4: ∀s',Ape K (Aky w.fL.length d) w.fQ (w.fQ.length:Int) i w.fC.Ay w.fC.G6 w.fC.E5 w.fC.Gs w.fC.E6 w.fC.G7 w.fP.N5 w.fP.Vg w.fP.N6 w.fL w.fQ w.Acw x.Ee (Aky w.fC.Ay.toNat (c++x.Ay)) (Ht K n) s'
   =bif Ayf w x&&Ar9 w x then Ht K n (Aky w.fC.Ay.toNat (c++x.Ay)) s' (Aky w.fL.length (d++Akt w.fL x.Ee)) w.fQ (w.fQ.length:Int) ((i+1:Nat):Int) w.fC.Ay w.fC.G6 w.fC.E5 w.fC.Gs w.fC.E6 w.fC.G7 w.fP.N5 w.fP.Vg w.fP.N6 w.fL w.fQ w.Acw else some false:=by
  intro s';unfold Ape Ayf;rw[h5]
  by_cases g:x.Ee=0
  ·rw[g];rfl
  ·rw[decide_eq_true (by omega),cond_true,if_pos (A4f hK hL hc g f1 f2),Ag6 g]
   simp only[bne,Aas,Z52];cases (gt w.fL (An4 .i64 x.Ee 1)).Sm==0<;>rfl
 have h2:Apf K (Aky w.fC.Ay.toNat c) (Aky w.fL.length s) (Aky w.fL.length d) w.fQ (w.fQ.length:Int) i w.fC.Ay w.fC.G6 w.fC.E5 w.fC.Gs w.fC.E6 w.fC.G7 w.fP.N5 w.fP.Vg w.fP.N6 w.fL w.fQ w.Acw (Ht K n) x.Bk x.Ee x.Fh x.Ay x.Wv
   =bif A13 w x&&(Awd w x&&(Ayf w x&&Ar9 w x))then Ht K n (Aky w.fC.Ay.toNat (c++x.Ay)) (Aky w.fL.length (s++if x.Bk=0 then []else [An4 .i64 x.Bk 1])) (Aky w.fL.length (d++Akt w.fL x.Ee)) w.fQ (w.fQ.length:Int) ((i+1:Nat):Int) w.fC.Ay w.fC.G6 w.fC.E5 w.fC.Gs w.fC.E6 w.fC.G7 w.fP.N5 w.fP.Vg w.fP.N6 w.fL w.fQ w.Acw else some false:=by
  unfold Apf;rw[Bbi hK w.fC.Ay.toNat c x.Ay (fun y hy=>by have:=hch y hy;omega) (by omega) (fun k=>gt w.fP.Vg k==2)
   (bif Awd w x&&(Ayf w x&&Ar9 w x)then Ht K n (Aky w.fC.Ay.toNat (c++x.Ay)) (Aky w.fL.length (s++if x.Bk=0 then []else [An4 .i64 x.Bk 1])) (Aky w.fL.length (d++Akt w.fL x.Ee)) w.fQ (w.fQ.length:Int) ((i+1:Nat):Int) w.fC.Ay w.fC.G6 w.fC.E5 w.fC.Gs w.fC.E6 w.fC.G7 w.fP.N5 w.fP.Vg w.fP.N6 w.fL w.fQ w.Acw else some false) (some false)
   (fun m v j=>Aiy K (Aky w.fL.length s) (Aky w.fL.length d) w.fQ (w.fQ.length:Int) i w.fC.Ay w.fC.G6 w.fC.E5 w.fC.Gs w.fC.E6 w.fC.G7 w.fP.N5 w.fP.Vg w.fP.N6 w.fL w.fQ w.Acw x.Bk x.Ee x.Ay (Ht K n) m v (x.Ay.length:Int) j x.Ay) (fun m v j hj hv=> ?_) (fun m=> ?_)]
  ·unfold A13;cases x.Ay.all _<;>rfl
  ·have hr1:=hch _ (Aor hj);simp only[Aiy];rw[Ad7 hj,cond_true,if_pos (Aip hj),if_pos (by rw[hv];omega),if_pos (by rw[hv];omega),if_pos ⟨hr1.1,by omega⟩,Ad5 (by omega),bne,Aas,K1 hj]
  ·show Aiy K _ _ _ _ _ _ _ _ _ _ _ _ _ _ _ _ _ _ _ _ _ (m+1) _ _ _ _=_;rw[Aiy,Ae0 (Z9 _),cond_false,h4,h4,A2w];unfold Awd
   by_cases g:x.Bk=0
   ·rw[g,if_pos rfl,List.append_nil];rfl
   ·have hlk:=A4f hK hL hc g s1 s2;rw[decide_eq_true (by omega),cond_true,if_pos hlk,if_pos hlk,if_neg g,Bbg hlk.1 hlk.2 (by omega),Ag6 g]
    simp only[bne,Aas,Z52,if_pos hlk];cases (gt w.fL (An4 .i64 x.Bk 1)).Vg==2<;>rfl
 rw[h2];unfold Aop
 by_cases g:(x.Ay.length:Int)>0
 ·have h5:=hch _ (Akr (l:=x.Ay) (Int.le_refl 0) (by omega))
  obtain⟨e1,e2,e3,e4⟩:=A1m hc hm h5.1 h5.2
  have hlc:(Atr w.fC w.fP.N5 (gt x.Ay 0)).length=w.fC.G6.toNat:=by unfold Atr;simp;omega
  have htk:List.take (x.Wv - 0).toNat (List.drop (0:Int).toNat (Atr w.fC w.fP.N5 (gt x.Ay 0)))=List.take x.Wv.toNat (List.drop (gt x.Ay 0*w.fC.G6).toNat w.fP.N5):=by
   unfold Atr;simp only[Int.sub_zero,Int.toNat_zero,Z55,List.take_take];rw[Nat.min_eq_left (by omega)]
  rw[decide_eq_true g,cond_true,if_pos ⟨by omega,by omega⟩,A6m hK hc hm h5.1 h5.2,Z0,if_pos ⟨by omega,by omega,by rw[hlc];omega⟩,htk,A2s hK _ (by simp;omega)]
  simp only[Z0,Aas,Bool.not_true,Z52];cases Apo (List.take x.Wv.toNat (List.drop (gt x.Ay 0*w.fC.G6).toNat w.fP.N5))<;>cases A13 w x<;>rfl
 ·rw[decide_eq_false g];simp only[cond_false,Bool.not_false,Bool.true_or,Z30]
theorem Beo (q:List Az):(slL q).length≤q.length:=by
 have:=A4g q (fun x=>if x.Bk=0 then []else [An4 .i64 x.Bk 1]) 1 (fun x _=>by split<;>simp)
 simpa[slL]using this
theorem A9k (l:List As)(hl:l.length≤8)(q:List Az):(kdL l q).length≤q.length*8:=
 A4g _ _ 8 fun x _=>Vv (A3j _ _) hl
end
theorem Bc9{β:Type}(N:Nat)(hN:N≤140737488355327)(q:Nat->Bool)(fin:Int->Option β)(L:Nat->Int->Int->Option β)
  (hs: ∀n (v:Int) (i:Nat),i<N->0≤v->v≤i->L (n+1) v (i:Int)=bif q i then L n (v+1) ((i+1:Nat):Int)else L n v ((i+1:Nat):Int))
  (he: ∀n v,L (n+1) v (N:Int)=fin v):
  ∀(n i:Nat) (v:Int),0≤v->v≤i->i≤N->N - i<n->L n v (i:Int)=fin (v+((((List.range N).drop i).filter q).length:Int)):=by
 intro n
 induction n with
 |zero=>intro i v _ _ _ h;omega
 |succ n ih=>
  intro i v h0 hv hi hn;rcases Hl i N with h|h
  ·rw[hs n v i h h0 hv,Z47 (by simpa using h),List.getElem_range,List.filter_cons]
   cases hq:q i with
   |true=>
    rw[cond_true,ih (i+1) _ (by omega) (by omega) (by omega) (by omega)]
    simp only[if_true,Z28]
    congr 1
    omega
   |false=>
    rw[cond_false,ih (i+1) _ (by omega) (by omega) (by omega) (by omega)]
    simp
  ·obtain rfl:i=N:=by omega
   rw[he,Z48 (by simp)];simp
theorem A9l{v:Int}(h0:0≤v)(h:v≤140737488355328):An3 .i64 v 1=v+1:=by unfold An3;rw[Gy (by omega) (by omega)]
section
variable {K:Nat} (hK:281474976710656≤K)
include hK
theorem A9m (w:C4)(hw:Am6 w)(hp:Auu w.fC w.fP=true)(hL:(w.fL.length:Int)=w.fC.E5):Ar1 K w=some (w.fQ.all (Am4 w)&&Aw9 w w.fC.Ay.toNat):=by
 obtain⟨hc,hm,hst,_⟩:=Ate hp;obtain⟨b1,b2,b3,_⟩:=A1 hc
 have hq:=hw.q.2
 have key: ∀(n i:Nat),(∀x∈w.fQ.take i,Am4 w x=true)->i≤w.fQ.length->w.fQ.length - i<n→
   Ht K n (Aky w.fC.Ay.toNat (chL (w.fQ.take i))) (Aky w.fL.length (slL (w.fQ.take i))) (Aky w.fL.length (kdL w.fL (w.fQ.take i))) w.fQ (w.fQ.length:Int) i w.fC.Ay w.fC.G6 w.fC.E5 w.fC.Gs w.fC.E6 w.fC.G7 w.fP.N5 w.fP.Vg w.fP.N6 w.fL w.fQ w.Acw=some ((w.fQ.drop i).all (Am4 w)&&Aw9 w w.fC.Ay.toNat):=by
  intro n
  induction n with
  |zero=>intro i _ _ h;omega
  |succ n ih=>
   intro i hpre hi hn;rcases Hl i w.fQ.length with h|h
   ·have hb1:(chL (w.fQ.take i)).length≤(w.fQ.take i).length*12:=A4g _ _ 12 fun x hx=>by
     have:=hpre x hx;unfold Am4 at this;simp only[Z4]at this;obtain⟨hc,_,_,hd,_⟩:=Aqq this.1;exact Ar3 hc hd
    have hb2:=Beo hK (w.fQ.take i)
    have hb3:=A9k hK w.fL (by omega) (w.fQ.take i)
    rw[List.length_take]at hb1 hb2 hb3;rw[Bc8 hK w hw hp hL w.fQ[i] (hw.q.1 _ (List.getElem_mem h)) _ _ _ i n h (K1 h) (by omega) (by omega) (by omega),Z47 h,Gc]
    cases hx:Am4 w w.fQ[i]with
    |false=>rfl
    |true=>
     rw[cond_true,Z30,←ih (i+1) (fun x hx2=>by
      rw[←List.take_append_getElem h,Mh]at hx2;rcases hx2 with hx2|hx2
      ·exact hpre x hx2
      ·simp only[Px]at hx2;rw[hx2];exact hx) h (by omega)]
     unfold chL slL kdL;rw[A0f _ _ _ h,A0f _ _ _ h,A0f _ _ _ h]
   ·obtain rfl:i=w.fQ.length:=by omega
    rw[Ht,Ae0 (Z9 _),cond_false,List.take_length,Bgi hK w hw hp,List.drop_length];rfl
 unfold Ar1;rw[if_pos ⟨by omega,by omega,by omega,by omega⟩,if_pos ⟨by omega,by omega,by omega,by omega⟩,if_pos ⟨by omega,by omega,by omega,by omega⟩]
 have:=key K 0 (fun x hx=>by simp at hx) (Z21 _) (by omega)
 rw[List.take_zero,Z55,show chL []=[] from rfl,show slL []=[] from rfl,show kdL w.fL []=[] from rfl,Bbf,Bbf]at this
 rw[←this,show w.fL.length=w.fC.E5.toNat by omega]
 rfl
theorem A9n (p:Dm)(st:Int)(hl:p.Vg.length≤140737488355327):Axy K p st=some ((((List.range p.Vg.length).filter (fun k:Nat=>gt p.Vg k==st)).length:Nat):Int):=by
 unfold Axy
 have:=Bc9 p.Vg.length hl (fun k:Nat=>gt p.Vg k==st) some (fun n v i=>Ant K st n v i p.N5 p.Vg p.N6) (fun n v i hi h0 hv=> ?_) (fun n v=> ?_) K 0 0 (Int.le_refl _) (Int.le_refl _) (Z21 _) (by omega)
 ·simpa using this
 ·simp only[Ant,Avm];rw[Ad7 hi,cond_true,if_pos (Aip hi),Ad5 (by omega),A9l h0 (by omega)]
 ·show Ant K st (n+1) v _ _ _ _=_;rw[Ant,Ae0 (Z9 _),cond_false]
theorem A2f (l:List As)(st:Int)(hl:l.length≤140737488355327):Ap8 K l st=some ((((List.range l.length).filter (fun k:Nat=>(gt l k).Vg==st)).length:Nat):Int):=by
 unfold Ap8
 have:=Bc9 l.length hl (fun k:Nat=>(gt l k).Vg==st) some (fun n v i=>Aku K l st n v i) (fun n v i hi h0 hv=> ?_) (fun n v=> ?_) K 0 0 (Int.le_refl _) (Int.le_refl _) (Z21 _) (by omega)
 ·simpa using this
 ·simp only[Aku,Ar6];rw[Ad7 hi,cond_true,if_pos (Aip hi),Ad5 (by omega),A9l h0 (by omega)]
 ·show Aku K l st (n+1) v _=_;rw[Aku,Ae0 (Z9 _),cond_false]
theorem Bda (w:C4)(hw:Am6 w)(v1 v2:Int)(v3:List Int)(h3:v3.length≤140737488355327):
  Ag7 K v1 v2 v3 w.fP.N5 w.fP.Vg w.fP.N6 w.fL K 0 0=some (A47 v3&&((v1==((A5r w).length:Int))&&((v2==((A3s w).length:Int))&&((v3.length:Int)==((A6w w).length:Int))))):=by
 have hl:=Abh hw.l
 have hs:=Ays hK hw.p.st
 have h8: ∀v24,Ak4 K v1 v2 v3 w.fP.N5 w.fP.Vg w.fP.N6 w.fL v24 K 0=some (A47 v3&&((v1==((A5r w).length:Int))&&((v2==((A3s w).length:Int))&&((v3.length:Int)==v24)))):=by
  intro v24;rw[Apr hK v3.length (by omega) (fun i=> !(v3.take i).contains (gt v3 i)) (some ((v1==((A5r w).length:Int))&&((v2==((A3s w).length:Int))&&((v3.length:Int)==v24)))) (fun n i=>Ak4 K v1 v2 v3 w.fP.N5 w.fP.Vg w.fP.N6 w.fL v24 n i) (fun n i h=> ?_) (fun n=> ?_)]
  ·rw[Akp];rfl
  ·have hp:(v3.take i).length≤140737488355328:=by simp;omega
   simp only[Ak4];rw[Ad7 h,cond_true,if_pos (Ba4 (by omega)),if_pos (Aip h),A42,A0l hK _ _ hp,Ad5 (by omega),Z0,Aas]
  ·show Ak4 K v1 v2 v3 _ _ _ _ v24 (n+1) _=_;rw[Ak4,Ae0 (Z9 _),cond_false,A9n hK _ _ hs,A2f hK _ _ hl];simp only[Z0,Akp];unfold A5r A3s;simp only[Hk]
 have:=Bc9 w.fL.length hl (fun k:Nat=>Axh w.fL k) (fun v=>some (A47 v3&&((v1==((A5r w).length:Int))&&((v2==((A3s w).length:Int))&&((v3.length:Int)==v))))) (fun n v i=>Ag7 K v1 v2 v3 w.fP.N5 w.fP.Vg w.fP.N6 w.fL n v i) (fun n v i hi h0 hv=> ?_) (fun n v=> ?_) K 0 0 (Int.le_refl _) (Int.le_refl _) (Z21 _) (by omega)
 ·rw[show((0:Nat):Int)=0 from rfl]at this
  rw[this];unfold A6w;simp only[Hk,Z55,Int.zero_add]
 ·simp only[Ag7,Atp];rw[Ad7 hi,cond_true,A5o K hw.l (Aip hi),Z0,Ad5 (by omega),A9l h0 (by omega)]
 ·show Ag7 K v1 v2 v3 _ _ _ _ (n+1) v _=_;rw[Ag7,Ae0 (Z9 _),cond_false,h8]
theorem Bbj (w:C4)(hw:Am6 w)(i n:Nat)(hi:i<w.fQ.length)(v1 v2:Int)(v3:List Int)(h1:0≤v1∧v1≤70368744177664)(h2:0≤v2∧v2≤70368744177664)(h3:(v3.length+w.fL.length)*8≤140737488355327)(hcl:(gt w.fQ i).Ay.length≤12):
  Ae5 K (n+1) v1 v2 v3 i w.fC.Ay w.fC.G6 w.fC.E5 w.fC.Gs w.fC.E6 w.fC.G7 w.fP.N5 w.fP.Vg w.fP.N6 w.fL w.fQ w.Acw
   =bif (List.range i).all (fun k=>A3y w.fQ i k)then Ae5 K n (v1+((gt w.fQ i).Ay.length:Int)) (v2+((if(gt w.fQ i).Bk=0 then([]:List Int)else [An4 .i64 (gt w.fQ i).Bk 1]).length:Int)) (v3++Akt w.fL (gt w.fQ i).Ee) ((i+1:Nat):Int) w.fC.Ay w.fC.G6 w.fC.E5 w.fC.Gs w.fC.E6 w.fC.G7 w.fP.N5 w.fP.Vg w.fP.N6 w.fL w.fQ w.Acw else some false:=by
 have hq:=hw.q.2
 have hm:=P2
 have hx:=hw.q.1 _ (Aor hi)
 have hkl:=A3j (l:=w.fL) w.fL.length (An4 .i64 (gt w.fQ i).Ee 1);change (Akt w.fL (gt w.fQ i).Ee).length≤_ at hkl
 have hJ: ∀v17 v18,Ara K v3 i w.fC.Ay w.fC.G6 w.fC.E5 w.fC.Gs w.fC.E6 w.fC.G7 w.fP.N5 w.fP.Vg w.fP.N6 w.fL w.fQ w.Acw (Ae5 K n) v17 v18
   =bif (List.range i).all (fun k=>A3y w.fQ i k)then Ae5 K n v17 v18 (v3++Akt w.fL (gt w.fQ i).Ee) ((i+1:Nat):Int) w.fC.Ay w.fC.G6 w.fC.E5 w.fC.Gs w.fC.E6 w.fC.G7 w.fP.N5 w.fP.Vg w.fP.N6 w.fL w.fQ w.Acw else some false:=by
  intro v17 v18;unfold Ara
  have hlen:(v3++Akt w.fL (gt w.fQ i).Ee).length=v3.length+(Akt w.fL (gt w.fQ i).Ee).length:=by simp
  rw[if_pos (Aip hi),A5q hK hw.l hx.first,Z0,if_pos ⟨by rw[hlen];omega,by rw[hlen];omega⟩]
  rw[Apr hK i (by omega) (fun k=>A3y w.fQ i k) _ (fun m k=>Ak2 K i w.fC.Ay w.fC.G6 w.fC.E5 w.fC.Gs w.fC.E6 w.fC.G7 w.fP.N5 w.fP.Vg w.fP.N6 w.fL w.fQ w.Acw v17 v18 (Ae5 K n) m (v3++Akt w.fL (gt w.fQ i).Ee) k) (fun m k hk=> ?_) (fun m=> ?_)]
  ·have hk2:k<w.fQ.length:=by omega
   have hlk:=Ays hK (hw.q.1 _ (Aor hk2)).chunks
   have h4: ∀C:List Int->Int->Option Bool,Aq9 K i w.fQ (v3++Akt w.fL (gt w.fQ i).Ee) k C=bif (gt w.fQ i).Ay.all (fun y=> !(gt w.fQ k).Ay.contains y)then C (v3++Akt w.fL (gt w.fQ i).Ee) ((k+1:Nat):Int)else some false:=by
    intro C;unfold Aq9;rw[Ar8 hK (gt w.fQ i).Ay (by omega) (fun y=> !(gt w.fQ k).Ay.contains y) _ (fun m j=>Anl K i w.fQ (v3++Akt w.fL (gt w.fQ i).Ee) k C m j) (fun m j hj=> ?_) (fun m=> ?_)]
    ·simp only[Anl];rw[if_pos (Aip hi),Ad7 hj,cond_true,if_pos (Aip hk2),if_pos (Aip hj),A0l hK _ _ (by omega),Z0,Ad5 (by omega),Aas,K1 hj,if_pos (Aip hi)]
    ·show Anl K i w.fQ _ k C (m+1) _=_;rw[Anl,if_pos (Aip hi),Ae0 (Z9 _),cond_false,Ad5 (by omega)]
   simp only[Ak2];rw[Ad7 hk,cond_true,if_pos (Aip hi),if_pos (Aip hk2),if_pos (Aip hi),h4];unfold A3y;cases (gt w.fQ (i:Int)).Bk != 0<;>cases (gt w.fQ (k:Int)).Bk==(gt w.fQ (i:Int)).Bk<;>cases (gt w.fQ i).Ay.all _<;>rfl
  ·show Ak2 K i _ _ _ _ _ _ _ _ _ _ _ _ v17 v18 _ (m+1) _ _=_;rw[Ak2,Ae0 (Z9 _),cond_false,Ad5 (by omega)]
 rw[Ae5,Ad7 hi,cond_true,if_pos (Aip hi),if_pos (Aip hi),hJ,hJ]
 have e1:An3 .i64 v1 ((gt w.fQ i).Ay.length:Int)=v1+((gt w.fQ i).Ay.length:Int):=by unfold An3;rw[Gy (by omega) (by omega)]
 rw[e1,A9l h2.1 (by omega)]
 by_cases g:(gt w.fQ i).Bk=0
 ·rw[if_pos g,g];simp
 ·rw[if_neg g,Aqv g];simp
theorem Bbk (w:C4)(hw:Am6 w)(hp:Auu w.fC w.fP=true)(hL:(w.fL.length:Int)=w.fC.E5)(hall: ∀x∈w.fQ,Am4 w x=true):Avn K w=some (A59 w):=by
 obtain⟨hc,hm,hst,_⟩:=Ate hp;obtain⟨b1,b2,b3,_⟩:=A1 hc
 have hq:=hw.q.2
 have hc12: ∀x∈w.fQ,x.Ay.length≤12:=fun x hx=>by
  have:=hall x hx;unfold Am4 at this;simp only[Z4]at this;obtain⟨hc,_,_,hd,_⟩:=Aqq this.1;exact Ar3 hc hd
 have h3:=A9k hK w.fL (by omega) w.fQ
 unfold Avn
 have:=A6a hK (List.range w.fQ.length) (by simp;omega) (fun i=>(List.range i).all (fun k=>A3y w.fQ i k)) (Ag7 K ((chL w.fQ).length:Int) ((slL w.fQ).length:Int) (kdL w.fL w.fQ) w.fP.N5 w.fP.Vg w.fP.N6 w.fL K 0 0) (some false)
  (fun n i=>Ae5 K n ((chL (w.fQ.take i)).length:Int) ((slL (w.fQ.take i)).length:Int) (kdL w.fL (w.fQ.take i)) (i:Int) w.fC.Ay w.fC.G6 w.fC.E5 w.fC.Gs w.fC.E6 w.fC.G7 w.fP.N5 w.fP.Vg w.fP.N6 w.fL w.fQ w.Acw) (fun n i h=> ?_) (fun n=> ?_)
 ·rw[List.take_zero,show chL []=[] from rfl,show slL []=[] from rfl,show kdL w.fL []=[] from rfl]at this
  refine Eq.trans this ?_;rw[Bda hK w hw _ _ _ (by omega),Akp]
  rfl
 ·have hi:i<w.fQ.length:=by simpa using h
  have hb1:(chL (w.fQ.take i)).length≤(w.fQ.take i).length*12:=A4g _ _ 12 fun x hx=>hc12 x (Z42 hx)
  have hb2:=Beo hK (w.fQ.take i)
  have hb3:=A9k hK w.fL (by omega) (w.fQ.take i)
  rw[List.length_take]at hb1 hb2 hb3;simp only[List.getElem_range];rw[Bbj hK w hw i n hi _ _ _ ⟨by omega,by omega⟩ ⟨by omega,by omega⟩ (by omega) (hc12 _ (Aor hi))]
  unfold chL slL kdL;rw[A0f _ _ _ hi,A0f _ _ _ hi,A0f _ _ _ hi,K1 hi,Z23,Z23];rfl
 ·rw[List.length_range,List.take_length,Ae5,Ae0 (Z9 _),cond_false]
end
def A48 (w:C4):Bool:=
 Auu w.fC w.fP&&(((w.fL.length:Int)==w.fC.E5)&&((List.range w.fL.length).all (A5l w)&&(A5n w.fL&&((w.fQ.all (Am4 w)&&Aw9 w w.fC.Ay.toNat)&&w.Acw.all (fun x=>inB x 0 255)))))
section
variable {K:Nat} (hK:281474976710656≤K)
include hK
theorem A4h (w:C4)(hw:Am6 w):Ave K w=some (A48 w):=by
 have hl:=Ays hK hw.log;unfold Ave A48;rw[Ba2 hK,Z0];cases hp:Auu w.fC w.fP with
 |false=>rfl
 |true=>
 rw[cond_true,Z30];cases hL:(w.fL.length:Int)==w.fC.E5 with
 |false=>rfl
 |true=>
 rw[beq_iff_eq]at hL;rw[cond_true,Z30,A9f hK w hw hp,Bbd hK hw.l,A9m hK w hw hp hL,A1h hK _ (by omega)]
 simp only[Z0,Akp]
theorem A0b (w:C4)(hw:Am6 w):Arb K w=some (A48 w):=by
 have hl:=Ays hK hw.log
 have hl2:=Abh hw.l
 have hq:=hw.q.2;unfold Arb A48;rw[A5j hK,Z0];cases hp:Auu w.fC w.fP with
 |false=>rfl
 |true=>
 rw[cond_true,Z30];cases hL:(w.fL.length:Int)==w.fC.E5 with
 |false=>rw[bne,hL];rfl
 |true=>
 rw[bne,hL,Bool.not_true,cond_false,Z30,Bbc hK hw.l,Z0,Aas];rw[beq_iff_eq]at hL
 have e1:D9.mk w.fC.Ay w.fC.G6 w.fC.E5 w.fC.Gs w.fC.E6 w.fC.G7=w.fC:=rfl
 have e2:C4.mk (D9.mk w.fC.Ay w.fC.G6 w.fC.E5 w.fC.Gs w.fC.E6 w.fC.G7) (Dm.mk w.fP.N5 w.fP.Vg w.fP.N6) w.fL w.fQ w.Acw=w:=rfl
 have h3:w.fQ.all (Am4 w)=true->Anv K w.fC.Ay w.fC.G6 w.fC.E5 w.fC.Gs w.fC.E6 w.fC.G7 w.fP.N5 w.fP.Vg w.fP.N6 w.fL w.fQ w.Acw K 0=some (w.Acw.all (fun x=>inB x 0 255)&&Aw9 w w.fC.Ay.toNat):=by
  intro hall;rw[Z1]at hall;rw[Btm hp hL hall];rw[Ar8 hK w.Acw (by omega) (fun x=>inB x 0 255) (some (A59 w)) (Anv K w.fC.Ay w.fC.G6 w.fC.E5 w.fC.Gs w.fC.E6 w.fC.G7 w.fP.N5 w.fP.Vg w.fP.N6 w.fL w.fQ w.Acw) (fun n i h=> ?_) (fun n=> ?_)]
  ·rw[Akp]
  ·rw[Anv,Ad7 h,cond_true,if_pos (Aip h),Ani,Ad5 (by omega),Z0,Aas,K1 h]
  ·rw[Anv,Ae0 (Z9 _),cond_false,e2,Bbk hK w hw hp hL hall,Z0]
 have h2:Apv K w.fC.Ay w.fC.G6 w.fC.E5 w.fC.Gs w.fC.E6 w.fC.G7 w.fP.N5 w.fP.Vg w.fP.N6 w.fL w.fQ w.Acw K 0=some (w.fQ.all (Am4 w)&&(w.Acw.all (fun x=>inB x 0 255)&&Aw9 w w.fC.Ay.toNat)):=by
  rw[Ar8 hK w.fQ (by omega) (Am4 w) (Anv K w.fC.Ay w.fC.G6 w.fC.E5 w.fC.Gs w.fC.E6 w.fC.G7 w.fP.N5 w.fP.Vg w.fP.N6 w.fL w.fQ w.Acw K 0) (Apv K w.fC.Ay w.fC.G6 w.fC.E5 w.fC.Gs w.fC.E6 w.fC.G7 w.fP.N5 w.fP.Vg w.fP.N6 w.fL w.fQ w.Acw) (fun n i h=> ?_) (fun n=> ?_)]
  ·cases hall:w.fQ.all (Am4 w)with
   |false=>rfl
   |true=>rw[cond_true,h3 hall];rfl
  ·rw[Apv,Ad7 h,cond_true,e2,A78 hK w hw hp hL i h,Ad5 (by omega),Z0,Aas,K1 h]
  ·rw[Apv,Ae0 (Z9 _),cond_false]
 have h1:Anw K K 0 w.fC.Ay w.fC.G6 w.fC.E5 w.fC.Gs w.fC.E6 w.fC.G7 w.fP.N5 w.fP.Vg w.fP.N6 w.fL w.fQ w.Acw=some ((List.range w.fL.length).all (A5l w)&&(w.fQ.all (Am4 w)&&(w.Acw.all (fun x=>inB x 0 255)&&Aw9 w w.fC.Ay.toNat))):=by
  rw[Apr hK w.fL.length (by omega) (A5l w) (some (w.fQ.all (Am4 w)&&(w.Acw.all (fun x=>inB x 0 255)&&Aw9 w w.fC.Ay.toNat))) (fun n i=>Anw K n i w.fC.Ay w.fC.G6 w.fC.E5 w.fC.Gs w.fC.E6 w.fC.G7 w.fP.N5 w.fP.Vg w.fP.N6 w.fL w.fQ w.Acw) (fun n k hk=> ?_) (fun n=> ?_)]
  ·rw[Akp]
  ·simp only[Anw];rw[e2,e1]
   have hn:=hw.l.1 _ (Aor hk)
   have l1:=Ays hK hn.chunks
   have l2:=Bem hK hn.things
   have l3:=Ays hK hn.tags;rw[Ad7 hk,cond_true,if_pos (Aip hk),Avf hK _ _ l1 l2 l3,Z0,A6q hK w k hk hw.p.st.2 l1,Ad5 (by omega),A74 hK _ _ l1 l2]
   simp only[Z0];unfold A5l;cases hb:Aqm w.fC (gt w.fL k)with
   |false=>rfl
   |true=>
   cases A1a w.fP k (gt w.fL k).Ay with
   |false=>rfl
   |true=>
   cases hi:(gt w.fL k).F4.all (Arh w.fC (gt w.fL k).Ay)with
   |false=>simp only[cond_true,Z30,Bool.false_and,cond_false,if_pos (Aip hk)]
   |true=>
   have hs:=A6r hi;rw[A71 hK _ l2 (fun t ht=>(hs t ht).1),Bc1 hK w k hk hp hn hb hs];simp only[Z0,cond_true,Aas,Z30,if_pos (Aip hk)];cases Aod (gt w.fL k).F4<;>cases Are w.fC w.fP.N5 (gt w.fL k)<;>rfl
  ·show Anw K (n+1) _ _ _ _ _ _ _ _ _ _ _ _ _=_;rw[Anw,Ae0 (Z9 _),cond_false,h2]
 rw[h1];cases A5n w.fL with
 |false=>rw[cond_false];simp
 |true=>
  simp only[cond_true,Z30,Z7]
  ac_rfl
end
theorem Bkk{n:Nat}(h:n≤reachBytes):n≤140737488355327:=by simp only[reachBytes]at h;omega
section
variable {K:Nat} (hK:281474976710656≤K)
include hK
end
theorem Bw7{x:Int}(h:Ba1 x):0≤x∧x≤255:=by
 simpa[Ba1,Lit.wf,IntKind.min,IntKind.max,IntKind.signed,IntKind.bits]using h
theorem Bgj{l:List Int}(h:A89 l):Bkh l:=⟨fun x hx=>Bw7 (h.1 x hx),by have:=Bkk h.2.1;omega⟩
theorem Bzi{α:Type}(l:List α)(i:Nat)(x y:α):(l.set i x).set i y=l.set i y:=List.set_set ..
section
variable {K:Nat} (hK:281474976710656≤K)
include hK
def one{α:Type}(_:α):Nat:=1
def A0w (x:As):Nat:=10+x.Ay.length+3*x.F4.length+x.Fh.length
def A6x (p:Dm):Nat:=p.N5.length+p.Vg.length+p.N6.length
end
section
variable {K:Nat} (hK:281474976710656≤K)
include hK
theorem A6b{α β:Type}(l:List α)(hl:l.length≤140737488355327)(fin:Option β)(L:Nat->List α->Int->Option β)
  (hs: ∀n v (i:Nat) (h:i<l.length),v.length=i->L (n+1) v (i:Int)=L n (v++[l[i]]) ((i+1:Nat):Int))
  (he: ∀n,L (n+1) l (l.length:Int)=fin):L K [] 0=fin:=by
 have:=A6a hK l (by omega) (fun _=>true) fin none (fun n i=>L n (l.take i) (i:Int)) (fun n i h=>by
  rw[hs n _ i h (by simp;omega),List.take_append_getElem];rfl) (fun n=>by rw[List.take_length];exact he n)
 rw[Z1.2 (fun _ _=>rfl)]at this;simpa using this
omit hK in
theorem A1c (K:Nat){p:Dm}(w:Ayo p):Aqt K p=some p:=by
 have hm:=P2
 have h1:=w.mem.2
 have h2:=w.st.2
 have h3:=w.own.2;unfold Aqt;simp only[Z38];rw[if_pos ⟨by omega,by omega⟩,if_pos ⟨by omega,by omega⟩,if_pos ⟨by omega,by omega⟩]
omit hK in
theorem Atn (K:Nat){n:As}(w:Ap5 n):Anf K n=some n:=by
 have hm:=P2
 have h1:=w.chunks.2
 have h2:=w.things.2
 have h3:=w.tags.2;unfold Anf;simp only[Z38];rw[if_pos ⟨by omega,by omega⟩,if_pos ⟨by omega,by omega⟩,if_pos ⟨by omega,by omega⟩]
theorem A14{l:List As}(w:Aeo l):Ato K l=some l:=by
 have hm:=P2
 have h2:=w.2;unfold Ato;refine A6b hK l (Abh w) (some l) (fun n v i=>Aq4 K l n v i) (fun n v i h hv=> ?_) (fun n=> ?_)
 ·have hl:(v++[l[i]]).length=i+1:=by simp[hv]
  simp only[Aq4];rw[Ad7 h,cond_true,if_pos (Aip h),K1 h,Atn K (w.1 _ (List.getElem_mem h)),Z0,if_pos ⟨by rw[hl];omega,by rw[hl];omega⟩,Ad5 (by omega)]
 ·show Aq4 K l (n+1) _ _=_;rw[Aq4,Ae0 (Z9 _),cond_false]
omit hK in
theorem A9o (K:Nat){x:Az}(w:A0o x):Axx K x=some x:=by
 have hm:=P2
 have h1:=w.tags.2
 have h2:=w.chunks.2;unfold Axx;simp only[Z38];rw[if_pos ⟨by omega,by omega⟩,if_pos ⟨by omega,by omega⟩]
theorem Aqr{w:C4}(hw:Am6 w):Ang K w=some w:=by
 have hm:=P2
 have h2:=hw.q.2
 have h3:=hw.log.2;unfold Ang;rw[A1c K hw.p,Z0,A14 hK hw.l,Z0]
 refine A6b hK w.fQ (by omega) (some w) (fun n v i=>Apt K n i w.fC.Ay w.fC.G6 w.fC.E5 w.fC.Gs w.fC.E6 w.fC.G7 w.fP.N5 w.fP.Vg w.fP.N6 w.fL v w.Acw (C4.mk (D9.mk 0 0 0 0 0 0) (Dm.mk [] [] []) [] [] []) w.fC.Ay w.fC.G6 w.fC.E5 w.fC.Gs w.fC.E6 w.fC.G7 w.fP.N5 w.fP.Vg w.fP.N6 w.fL w.fQ w.Acw) (fun n v i h hv=> ?_) (fun n=> ?_)
 ·have hl:(v++[w.fQ[i]]).length=i+1:=by simp[hv]
  simp only[Apt];rw[Ad7 h,cond_true,if_pos (Aip h),K1 h,A9o K (hw.q.1 _ (List.getElem_mem h)),Z0,if_pos ⟨by rw[hl];omega,by rw[hl];omega⟩,Ad5 (by omega)]
 ·show Apt K (n+1) _ _ _ _ _ _ _ _ _ _ _ _ _ _ _ _ _ _ _ _ _ _ _ _ _ _=_;rw[Apt,Ae0 (Z9 _),cond_false];simp only[Z38];rw[if_pos ⟨by omega,by omega⟩]
omit hK in
theorem A3t (K:Nat){p:Dm}(w:Ayo p):At8 K p=some p:=by
 unfold At8;rw[Bcz K w.mem.2,Auh K w.st.2,Auh K w.own.2];rfl
omit hK in
theorem A79 (K:Nat){n:As}(w:Ap5 n):Aww K n=some n:=by
 unfold Aww;rw[Auh K w.chunks.2,Ba7 K w.things.2,Auh K w.tags.2];rfl
theorem A2x{l:List As}(w:Aeo l):As2 K l=some l:=by
 have hm:=P2
 have h2:=w.2;unfold As2;refine A6b hK l (Abh w) (some l) (fun n v i=>Ano K l n v (l.length:Int) i) (fun n v i h hv=> ?_) (fun n=> ?_)
 ·have hl:(v++[l[i]]).length=i+1:=by simp[hv]
  simp only[Ano];rw[Ad7 h,cond_true,if_pos (Aip h),K1 h,A79 K (w.1 _ (List.getElem_mem h)),Z0,if_pos ⟨by rw[hl];omega,by rw[hl];omega⟩,Ad5 (by omega)]
 ·show Ano K l (n+1) _ _ _=_;rw[Ano,Ae0 (Z9 _),cond_false]
omit hK in
theorem A6y (K:Nat){x:Az}(w:A0o x):Avu K x=some x:=by
 unfold Avu;rw[Auh K w.tags.2,Auh K w.chunks.2];rfl
theorem A6z{α:Type}(v:List α)(d x:α):(v++[d]).set (v.length:Int).toNat x=v++[x]:=by
 rw[Int.toNat_natCast,List.set_append_right _ _ (Z9 _)];simp
theorem Atg{w:C4}(hw:Am6 w):As3 K w=some w:=by
 have hm:=P2
 have h2:=hw.q.2;unfold As3;rw[A3t K hw.p,Z0,A2x hK hw.l,Z0,Auh K hw.log.2,Z0];refine A6b hK w.fQ (by omega) (some w) (fun n v i=>Anr K n w.fQ (w.fQ.length:Int) i (C4.mk w.fC w.fP w.fL v w.Acw) (C4.mk (D9.mk 0 0 0 0 0 0) (Dm.mk [] [] []) [] [] [])) (fun n v i h hv=> ?_) (fun n=> ?_)
 ·simp only[Anr];rw[Ad7 h,cond_true,if_pos (Aip h),K1 h,A6y K (hw.q.1 _ (List.getElem_mem h)),Z0,if_pos ⟨by omega,by omega⟩,Ad5 (by omega),A6z hK]
 ·show Anr K (n+1) _ _ _ _ _=_;rw[Anr,Ae0 (Z9 _),cond_false]
end
def Bkl (mem:List Int)(p n:Int):List Int×Bool:=if 0≤p∧0≤n∧p+n≤(mem.length:Int)then((mem.drop p.toNat).take n.toNat,true)else([],false)
theorem Boa{mem:List Int}(a b:Nat):((mem.drop a).take b).length≤mem.length:=by simp;omega
theorem Bbl (K:Nat){mem:List Int}(hl:mem.length≤140737488355327)(p n:Int):Au8 K mem p n=some (decide (0≤p∧0≤n∧p+n≤(mem.length:Int))):=by
 unfold Au8
 by_cases h1:(0:Int)≤p
 ·rw[decide_eq_true (show p≥0 from h1)]
  by_cases h2:(0:Int)≤n
  ·rw[decide_eq_true (show n≥0 from h2)]
   by_cases h3:p≤(mem.length:Int)
   ·rw[decide_eq_true h3];simp only[cond_true,Z7,decide_eq_decide];unfold An4;rw[Gy (by omega) (by omega)]
    omega
   ·rw[decide_eq_false h3];simp only[cond_true,cond_false,Z7];exact(decide_eq_false (by omega)).symm
  ·rw[decide_eq_false (show ¬n≥0 from h2)]
   simp only[cond_true,cond_false,Z7];exact(decide_eq_false (by omega)).symm
 ·rw[decide_eq_false (show ¬p≥0 from h1)]
  simp only[cond_false,Z7];exact(decide_eq_false (by omega)).symm
theorem Bdb (K:Nat){mem:List Int}(hl:mem.length≤140737488355327)(p n:Int):Az0 K mem p n=some (Bkl mem p n):=by
 unfold Az0 Bkl;rw[Bbl K hl];simp only[Z0]
 by_cases h:0≤p∧0≤n∧p+n≤(mem.length:Int)
 ·rw[decide_eq_true h,if_pos h]
  try simp only[cond_true]
  have e:An3 .i64 p n=p+n:=by unfold An3;rw[Gy (by omega) (by omega)]
  have hc:=Boa (mem:=mem) p.toNat (p+n - p).toNat;rw[e,if_pos ⟨by omega,by omega,by omega⟩,if_pos ⟨by simp only[Z38,Nat.mul_one];omega,by simp only[Z38,maxLen];omega⟩]
  rw[show p+n - p=n from by omega]
  rfl
 ·rw[decide_eq_false h,if_neg h];rfl
def Bkm (mem:List Int)(t:Bc)(at_ n:Int):List Int×Bool:=if 0≤at_∧0≤n∧at_+n≤t.Ajk then Bkl mem (An3 .i64 t.fAt at_) n else([],false)
theorem Bkn{mem:List Int}{p n:Int}(h:p<0):Bkl mem p n=([],false):=by unfold Bkl;rw[if_neg (by omega)]
theorem A60 (K:Nat){mem:List Int}(hl:mem.length≤140737488355327){t:Bc}(wt:ThingW t)(at_ n:Int):Avq K mem t at_ n=some (Bkm mem t at_ n):=by
 obtain⟨wl1,wl2⟩:=wt.2.1;unfold Avq Ax1 Bkm
 by_cases h1:(0:Int)≤at_
 ·rw[decide_eq_true (show at_≥0 from h1)]
  by_cases h2:(0:Int)≤n
  ·rw[decide_eq_true (show n≥0 from h2)]
   by_cases h3:at_≤t.Ajk
   ·rw[decide_eq_true h3]
    have e:An4 .i64 t.Ajk at_=t.Ajk - at_:=by unfold An4;rw[Gy (by omega) (by omega)]
    rw[e]
    by_cases h4:n≤t.Ajk - at_
    ·rw[decide_eq_true h4,if_pos ⟨h1,h2,by omega⟩]
     simp only[cond_true,Bdb K hl];cases decide (t.fAt<0)with
     |true=>rfl
     |false=>
      by_cases h5:(0:Int)≤An3 .i64 t.fAt at_
      ·rw[decide_eq_true (show An3 .i64 t.fAt at_≥0 from h5)];rfl
      ·rw[decide_eq_false (show ¬An3 .i64 t.fAt at_≥0 from h5),Bkn (by omega)];rfl
    ·rw[decide_eq_false h4,if_neg (by omega)];rfl
   ·rw[decide_eq_false h3,if_neg (by omega)];rfl
  ·rw[decide_eq_false (show ¬n≥0 from h2),if_neg (by omega)];rfl
 ·rw[decide_eq_false (show ¬at_≥0 from h1),if_neg (by omega)];rfl
def Bbm (w:C4)(h:Am):Int:=((Aib w.fL w.fL.length (Ats w.fL h)).length:Int)
theorem Bdc{l:List As}(hl:l.length≤140737488355327)(h:Am):wfi (Ats l h):=by
 by_cases h0:Ats l h<0
 ·unfold Ats at *;split at h0
  ·rename_i h1;rw[if_pos h1]at *;obtain⟨⟨a,b⟩,_⟩:=h1;exact⟨by omega,by omega⟩
  ·rename_i h1;rw[if_neg h1];exact⟨by omega,by omega⟩
 ·have:=A44 h0;exact⟨by omega,by omega⟩
section
variable {K:Nat} (hK:281474976710656≤K)
include hK
theorem Ayw (w:C4)(hw:Aeo w.fL)(h:Am):Aox K w h=some (Bbm w h):=by
 have hl:=Abh hw;unfold Aox Av4;rw[A4d K hl,Z0,A12 hK hw _ (Bdc hl h)];rfl
end
section
variable {β:Type} [Inhabited β]
end
section
variable {K:Nat} (hK:281474976710656≤K)
include hK
end
section
variable {K:Nat} (hK:281474976710656≤K)
include hK
end
theorem Bep{β:Type}(f:β->Nat): ∀(l:List β) (i:Nat) (h:i<l.length) (x:β),((l.set i x).map f).sum+f l[i]=(l.map f).sum+f x
 |[],i,h,x=>by simp at h
 |y::l,0,h,x=>by simp;omega
 |y::l,i+1,h,x=>by
  have:=Bep f l i (by simpa using h) x
  simp only[List.set_cons_succ,Z8,List.sum_cons,List.getElem_cons_succ]at this ⊢;omega
theorem Axd{l:List As}(hl:Aeo l)(i:Nat){x:As}(hx:Ap5 x):Aeo (l.set i x):=
 ⟨fun y hy=>(Z54 hy).elim (hl.1 y) (fun e=>e ▸ hx),by rw[Z49];exact hl.2⟩
def A03 (p:Dm)(k:Int):Dm:=if(0≤k∧k<(p.Vg.length:Int)∧k<(p.N6.length:Int))∧gt p.Vg k=1 then Dm.mk p.N5 (p.Vg.set k.toNat 2) (p.N6.set k.toNat (-1))else p
theorem A6c{p:Dm}(hp:Ayo p)(k:Int):Ayo (A03 p k)∧A6x (A03 p k)=A6x p:=by
 unfold A03;split
 ·refine⟨⟨hp.mem,⟨fun x hx=> ?_,by rw[Z49];exact hp.st.2⟩,⟨fun x hx=> ?_,by rw[Z49];exact hp.own.2⟩⟩,by simp[A6x]⟩
  ·rcases Z54 hx with h|h
   ·exact hp.st.1 x h
   ·subst h;exact⟨by omega,by omega⟩
  ·rcases Z54 hx with h|h
   ·exact hp.own.1 x h
   ·subst h;exact⟨by omega,by omega⟩
 ·exact⟨hp,rfl⟩
theorem A61 (K:Nat){p:Dm}(hp:Ayo p)(k:Int):Azv K p k=some (A03 p k):=by
 have h1:=hp.st.2;unfold Azv Asi A03;rw[A1c K hp,Z0,A0p K (by omega),Z0]
 by_cases hs:0≤k∧k<(p.Vg.length:Int)
 ·rw[decide_eq_true hs,cond_true]
  by_cases ho:k<(p.N6.length:Int)
  ·rw[decide_eq_true ho,cond_true,if_pos hs,if_pos hs,if_pos ⟨hs.1,ho⟩]
   by_cases h:gt p.Vg k=1
   ·rw[if_pos ⟨⟨hs.1,hs.2,ho⟩,h⟩,h];rfl
   ·rw[if_neg (show ¬((0≤k∧k<(p.Vg.length:Int)∧k<(p.N6.length:Int))∧gt p.Vg k=1) from fun x=>h x.2),Ag6 h];rfl
  ·rw[decide_eq_false ho,if_neg (show ¬((0≤k∧k<(p.Vg.length:Int)∧k<(p.N6.length:Int))∧gt p.Vg k=1) from fun x=>ho x.1.2.2)];rfl
 ·rw[decide_eq_false hs,if_neg (show ¬((0≤k∧k<(p.Vg.length:Int)∧k<(p.N6.length:Int))∧gt p.Vg k=1) from fun x=>hs ⟨x.1.1,x.1.2.1⟩)];rfl
theorem Bdd (K:Nat){p:Dm}(hp:Ayo p)(k:Int):Az9 K p k=some (A03 p k):=by
 have h1:=hp.st.2
 have h2:=hp.own.2;unfold Az9 Avc A03
 have e:An4 .i64 (Zw (p.Vg.length:Int) (p.N6.length:Int)) 1=Zw (p.Vg.length:Int) (p.N6.length:Int) - 1:=by
  unfold An4 Zw;split<;>rw[Gy (by omega) (by omega)]
 rw[A3t K hp,Z0,Avy,Z0,e]
 by_cases hs:0≤k∧k<(p.Vg.length:Int)∧k<(p.N6.length:Int)
 ·rw[Acx.2 (by unfold Zw;split<;>omega),cond_true,if_pos ⟨hs.1,hs.2.1⟩,if_pos ⟨hs.1,hs.2.1⟩,if_pos ⟨hs.1,hs.2.2⟩]
  by_cases h:gt p.Vg k=1
  ·rw[if_pos ⟨hs,h⟩,h];rfl
  ·rw[if_neg (show ¬((0≤k∧k<(p.Vg.length:Int)∧k<(p.N6.length:Int))∧gt p.Vg k=1) from fun x=>h x.2),Ag6 h];rfl
 ·rw[A58.2 (by unfold Zw;split<;>omega),if_neg (show ¬((0≤k∧k<(p.Vg.length:Int)∧k<(p.N6.length:Int))∧gt p.Vg k=1) from fun x=>hs x.1)];rfl
def Aij (p:Dm)(l:List Int):Dm:=l.foldl A03 p
theorem A8j{p:Dm}(hp:Ayo p)(l:List Int):Ayo (Aij p l)∧A6x (Aij p l)=A6x p:=by
 unfold Aij
 induction l generalizing p with
 |nil=>exact⟨hp,rfl⟩
 |cons x l ih=>
  obtain⟨h1,h2⟩:=A6c hp x;obtain⟨h3,h4⟩:=ih h1;exact⟨h3,h4.trans h2⟩
theorem A9p{α σ β:Type}{K:Nat}(hK:281474976710656≤K)(l:List α)(hl:l.length≤140737488355327)(f:σ->α->σ)(s0:σ)(I:σ->Prop)(hI:I s0)(hf: ∀s x,I s->I (f s x))(fin:Option β)(L:Nat->σ->Int->Option β)
  (hs: ∀n s (i:Nat) (h:i<l.length),I s->L (n+1) s (i:Int)=L n (f s l[i]) ((i+1:Nat):Int))
  (he: ∀n,L (n+1) (l.foldl f s0) (l.length:Int)=fin):L K s0 0=fin:=by
 have key: ∀(n i:Nat) (s:σ),I s->i≤l.length->l.length - i<n->(l.drop i).foldl f s=l.foldl f s0->L n s (i:Int)=fin:=by
  intro n
  induction n with
  |zero=>intro i s _ _ h;omega
  |succ n ih=>
   intro i s hIs hi hn hd;rcases Hl i l.length with h|h
   ·rw[hs n s i h hIs];refine ih (i+1) _ (hf _ _ hIs) h (by omega) ?_
    rw[Z47 h,List.foldl_cons]at hd;exact hd
   ·obtain rfl:i=l.length:=by omega
    rw[List.drop_length]at hd;simp only[List.foldl_nil]at hd;rw[hd];exact he n
 exact key K 0 s0 hI (Z21 _) (by omega) rfl
def Agm (n:As)(slot:Int):Az:=Az.mk slot n.Ee n.Fh n.Ay 0
def Ath (n:As):As:=As.mk n.Vg n.C8 (An3 .i64 n.Sj 1) n.fUp n.Sk 0 n.Sl n.Sm [] 0 0 [] []
theorem A15 (K:Nat){n:As}(hn:Ap5 n)(s:Int):Asj K n s=some (Agm n s):=by
 have hm:=P2
 have h1:=hn.tags.2
 have h2:=hn.chunks.2;unfold Asj;simp only[Z38];rw[if_pos ⟨by omega,by omega⟩,if_pos ⟨by omega,by omega⟩];rfl
theorem A4i (K:Nat){n:As}(hn:Ap5 n)(s:Int):Avb K n s=some (Agm n s):=by
 unfold Avb;rw[Auh K hn.tags.2,Auh K hn.chunks.2];rfl
theorem A9q (K:Nat){n:As}(hn:Ap5 n):Axw K n=some (Ath n):=by
 unfold Axw;rw[Atn K hn];rfl
theorem Atl:wfi 0:=⟨by decide,by decide⟩
theorem Ati:A1o []:=⟨(fun x hx=>by cases hx),(by simp)⟩
theorem Azi:A9c []:=⟨(fun x hx=>by cases hx),(by simp)⟩
theorem Bde{n:As}(hn:Ap5 n):Ap5 (Ath n):=
 ⟨hn.st,hn.gen,A9a _,hn.up,hn.upEp,Atl,hn.next,hn.prev,Ati,Atl,Atl,Azi,Ati⟩
theorem A3z{n:As}(hn:Ap5 n){s:Int}(hs:wfi s):A0o (Agm n s):=⟨hs,hn.first,hn.tags,hn.chunks,Atl⟩
def Aum (w:C4)(k:Int):C4:=C4.mk w.fC (Aij w.fP (gt w.fL k).Ay) (w.fL.set k.toNat (Ath (gt w.fL k))) (w.fQ++[Agm (gt w.fL k) 0]) w.Acw
section
variable {K:Nat} (hK:281474976710656≤K)
include hK
theorem A5s (w:C4)(hw:Am6 w)(l:List Int)(hl:l.length≤140737488355327):Aqu K w l=some (C4.mk w.fC (Aij w.fP l) w.fL w.fQ w.Acw):=by
 unfold Aqu;refine A9p hK l (by omega) A03 w.fP Ayo hw.p (fun s x h=>(A6c h x).1) _ (fun n s i=>Akm K l n i w.fC.Ay w.fC.G6 w.fC.E5 w.fC.Gs w.fC.E6 w.fC.G7 s.N5 s.Vg s.N6 w.fL w.fQ w.Acw) (fun n s i h hs=> ?_) (fun n=> ?_)
 ·simp only[Akm];rw[Ad7 h,cond_true,if_pos (Aip h),K1 h,show Dm.mk s.N5 s.Vg s.N6=s from rfl,A61 K hs,Z0,Ad5 (by omega)]
 ·show Akm K l (n+1) _ _ _ _ _ _ _ _ _ _ _ _ _=_;rw[Akm,Ae0 (Z9 _),cond_false];rfl
theorem A5t (w:C4)(hw:Ayo w.fP){k:Int}(hk:0≤k∧k<(w.fL.length:Int))(hl:(gt w.fL k).Ay.length≤140737488355327):Arc K w k=some (C4.mk w.fC (Aij w.fP (gt w.fL k).Ay) w.fL w.fQ w.Acw):=by
 unfold Arc;simp only[if_pos hk];refine A9p hK (gt w.fL k).Ay (by omega) A03 w.fP Ayo hw (fun s x h=>(A6c h x).1) _ (fun n s i=>Ak6 K n (gt w.fL k).Ay ((gt w.fL k).Ay.length:Int) i w.fC.Ay w.fC.G6 w.fC.E5 w.fC.Gs w.fC.E6 w.fC.G7 s.N5 s.Vg s.N6 w.fL w.fQ w.Acw) (fun n s i h hs=> ?_) (fun n=> ?_)
 ·simp only[Ak6];rw[Ad7 h,cond_true,if_pos (Aip h),K1 h,show Dm.mk s.N5 s.Vg s.N6=s from rfl,Bdd K hs,Z0,Ad5 (by omega)]
 ·show Ak6 K (n+1) _ _ _ _ _ _ _ _ _ _ _ _ _ _ _=_;rw[Ak6,Ae0 (Z9 _),cond_false];rfl
theorem A4j (w:C4)(hw:Am6 w)(hQ:w.fQ.length≤140737488355){k:Int}(hk:0≤k∧k<(w.fL.length:Int)):Arv K w k=some (Aum w k):=by
 have hm:=P2
 have hn:=hw.l.1 _ (Akr hk.1 hk.2);unfold Arv;simp only[if_pos hk,A15 K hn,Z0,A5s hK w hw _ (Ays hK hn.chunks),A9q K hn];rw[if_pos ⟨by simp;omega,by simp;omega⟩]
 rfl
theorem A4k (w:C4)(hw:Am6 w)(hQ:w.fQ.length≤140737488355){k:Int}(hk:0≤k∧k<(w.fL.length:Int))(hst:(gt w.fL k).Vg=1):Ap4 K w k=some (Aum w k):=by
 have hm:=P2
 have hn:=hw.l.1 _ (Akr hk.1 hk.2);unfold Ap4 A0j;rw[Atg hK hw,Z0,Aui K (Abh hw.l),Z0,decide_eq_true hk,cond_true,if_pos hk,hst];simp only[bne_self_eq_false,cond_false,if_pos hk,A4i K hn,Z0]
 rw[if_pos ⟨by omega,by omega⟩,A6z hK,A5t hK (C4.mk w.fC w.fP w.fL (w.fQ++[Agm (gt w.fL k) 0]) w.Acw) hw.p hk (Ays hK hn.chunks),Z0]
 simp only[if_pos hk,Z0];rfl
end
def Bqe (n:As)(v:Int):As:=As.mk n.Vg n.C8 n.Sj n.fUp n.Sk n.Ee v n.Sm n.Ay n.Acv n.Sn n.F4 n.Fh
def Bko (n:As)(v:Int):As:=As.mk n.Vg n.C8 n.Sj n.fUp n.Sk n.Ee n.Sl v n.Ay n.Acv n.Sn n.F4 n.Fh
def Bkp (n:As)(v:Int):As:=As.mk n.Vg n.C8 n.Sj n.fUp n.Sk v n.Sl n.Sm n.Ay n.Acv n.Sn n.F4 n.Fh
def Bkq (n:As):As:=As.mk n.Vg n.C8 n.Sj 0 0 n.Ee 0 0 n.Ay n.Acv n.Sn n.F4 n.Fh
theorem Avz{l:List As}{k:Int}(hk:0≤k∧k<(l.length:Int))(x:As):gt (l.set k.toNat x) k=x:=by
 have hlt:k.toNat<(l.set k.toNat x).length:=by simp;omega
 have e:gt (l.set k.toNat x) ((k.toNat:Nat):Int)=x:=by rw[K1 hlt];simp
 rwa[show((k.toNat:Nat):Int)=k by omega]at e
theorem Ayg{l:List As}{j k:Int}(hj:0≤j)(hk:0≤k∧k<(l.length:Int))(h:j≠k)(x:As):gt (l.set j.toNat x) k=gt l k:=by
 have h1:k.toNat<(l.set j.toNat x).length:=by simp;omega
 have h2:k.toNat<l.length:=by omega
 have e1:gt (l.set j.toNat x) ((k.toNat:Nat):Int)=gt l ((k.toNat:Nat):Int):=by
  rw[K1 h1,K1 h2,List.getElem_set,if_neg (by omega)]
 rwa[show((k.toNat:Nat):Int)=k by omega]at e1
theorem A16 (K:Nat){l:List As}{k:Int}(hk:0≤k∧k<(l.length:Int)):Atz K k l=some (l.set k.toNat (Bkq (gt l k))):=by
 unfold Atz;rw[if_pos hk];simp only[Aqh,Z49,Avz hk,Bzi,if_pos hk];rfl
theorem A4l (K:Nat){l:List As}{k:Int}(hk:0≤k∧k<(l.length:Int)):Awx K k l=some (l.set k.toNat (Bkq (gt l k))):=A16 K hk
def A4m (l0 l:List As)(k nx pv:Int):List As:=bif plB l0 nx then l.set (An4 .i64 nx 1).toNat (Bko (gt l (An4 .i64 nx 1)) pv)else l
def A17 (l0 l:List As)(k nx pv:Int):List As:=(A4m l0 l k nx pv).set k.toNat (Bkq (gt (A4m l0 l k nx pv) k))
theorem A2y (l0 l:List As)(k nx pv:Int):(A4m l0 l k nx pv).length=l.length:=by
 unfold A4m;cases plB l0 nx<;>simp
theorem Ayh (K:Nat){l0 l:List As}(hl:l0.length≤140737488355327)(he:l.length=l0.length){k:Int}(hk:0≤k∧k<(l0.length:Int))(a b c d e f nx pv:Int)(g:List Int)(h i:Int)(t:List Bc)(u:List Int)(hx:wfi nx):Arm K l0 k l a b c d e f nx pv g h i t u=some (A17 l0 l k nx pv):=by
 unfold Arm A17 A4m;rw[Avg K hl hx,Z0];cases hp:plB l0 nx with
 |false=>rw[cond_false,cond_false,A16 K (by rw[he];exact hk)]
 |true=>
  have:=Aul hp;rw[cond_true,cond_true,if_pos (by rw[he];exact this)]
  simp only[Aqh];rw[A16 K (by rw[Z49,he];exact hk)]
  rfl
theorem Ayi (K:Nat){l0 l:List As}(hl:l0.length≤140737488355327)(he:l.length=l0.length){k:Int}(hk:0≤k∧k<(l0.length:Int))(nx pv:Int)(hv:(gt l k).Sm=pv):Arn K l0 k l (An4 .i64 nx 1)=some (A17 l0 l k nx pv):=by
 unfold Arn A17 A4m;rw[Ayt K hl,Z0];cases hp:plB l0 nx with
 |false=>rw[cond_false,cond_false,A4l K (by rw[he];exact hk)]
 |true=>
  have:=Aul hp;rw[cond_true,cond_true,if_pos (by rw[he];exact hk),if_pos (by rw[he];exact this),hv]
  simp only[Aqh];rw[A4l K (by rw[Z49,he];exact hk)]
  rfl
def A2z (l:List As)(k:Int):List As:=
 bif plB l (gt l k).Sm then l.set (An4 .i64 (gt l k).Sm 1).toNat (Bqe (gt l (An4 .i64 (gt l k).Sm 1)) (gt l k).Sl)
 else bif (gt l k).Sm==0&&(plB l (gt l k).fUp&&(gt l (An4 .i64 (gt l k).fUp 1)).Ee==An3 .i64 k 1)then l.set (An4 .i64 (gt l k).fUp 1).toNat (Bkp (gt l (An4 .i64 (gt l k).fUp 1)) (gt l k).Sl)
 else l
def Ana (l:List As)(k:Int):List As:=A17 l (A2z l k) k (gt l k).Sl (gt l k).Sm
theorem A1r (l:List As)(k:Int):(A2z l k).length=l.length:=by
 unfold A2z;cases plB l (gt l k).Sm<;>cases ((gt l k).Sm==0&&(plB l (gt l k).fUp&&(gt l (An4 .i64 (gt l k).fUp 1)).Ee==An3 .i64 k 1))<;>simp
theorem Bgk{l:List As}{k:Int}(hk:0≤k∧k<(l.length:Int)):(gt (A2z l k) k).Sm=(gt l k).Sm:=by
 unfold A2z;cases hp:plB l (gt l k).Sm with
 |true=>
  have:=Aul hp;rw[cond_true]
  by_cases e:An4 .i64 (gt l k).Sm 1=k
  ·rw[e,Avz hk];rfl
  ·rw[Ayg this.1 hk e]
 |false=>
  rw[cond_false];cases hc:((gt l k).Sm==0&&(plB l (gt l k).fUp&&(gt l (An4 .i64 (gt l k).fUp 1)).Ee==An3 .i64 k 1))with
  |false=>rfl
  |true=>
   simp only[Z4]at hc
   have:=Aul hc.2.1;rw[cond_true]
   by_cases e:An4 .i64 (gt l k).fUp 1=k
   ·rw[e,Avz hk];rfl
   ·rw[Ayg this.1 hk e]
section
variable {K:Nat} (hK:281474976710656≤K)
include hK
theorem Bbn{l:List As}(w:Aeo l){k:Int}(hk:0≤k∧k<(l.length:Int)):Ay1 K l k=some (Ana l k):=by
 have hl:=Abh w
 have hn:=w.1 _ (Akr hk.1 hk.2)
 have e1:An4 .i64 (An3 .i64 k 1) 1=k:=by unfold An4 An3;rw[Gy (n:=k+1) (by omega) (by omega),Gy (by omega) (by omega)];omega
 have hpk:plB l (An3 .i64 k 1)=true:=by unfold plB;rw[e1];exact decide_eq_true hk
 have hwk:wfi (An3 .i64 k 1):=A9a _;unfold Ay1 Ana;rw[A14 hK w,Z0,Avg K hl hwk,Z0,hpk,Bool.not_true,cond_false,if_pos hk,Avg K hl hn.prev,Z0];unfold A2z;cases hp:plB l (gt l k).Sm with
 |true=>
  have:=Aul hp;rw[cond_true,cond_true,if_pos this];simp only[Aqh];rw[Ayh K hl (by rw[Z49]) hk _ _ _ _ _ _ _ _ _ _ _ _ _ hn.next]
  rfl
 |false=>
  rw[cond_false,cond_false];cases h0:(gt l k).Sm==0 with
  |false=>
   simp only[cond_false,Bool.false_and,Aqg];rw[Ayh K hl rfl hk _ _ _ _ _ _ _ _ _ _ _ _ _ hn.next]
  |true=>
   rw[cond_true,Avg K hl hn.up,Z0];cases hu:plB l (gt l k).fUp with
   |false=>
    simp only[cond_false,Bool.false_and,Bool.and_false,Aqg];rw[Ayh K hl rfl hk _ _ _ _ _ _ _ _ _ _ _ _ _ hn.next]
   |true=>
    have hui:=Aul hu;rw[cond_true,if_pos hui];simp only[Z30,Aqg];cases (gt l (An4 .i64 (gt l k).fUp 1)).Ee==An3 .i64 k 1 with
    |false=>
     simp only[cond_false];rw[Ayh K hl rfl hk _ _ _ _ _ _ _ _ _ _ _ _ _ hn.next]
    |true=>
     simp only[cond_true,if_pos hui,Aqh];rw[Ayh K hl (by rw[Z49]) hk _ _ _ _ _ _ _ _ _ _ _ _ _ hn.next]
     rfl
theorem Bbo{l:List As}(w:Aeo l){k:Int}(hk:0≤k∧k<(l.length:Int)):Ay8 K l k=some (Ana l k):=by
 have hl:=Abh w
 have h0p:=Bgk hk;unfold Ay8 Ana;rw[A2x hK w,Z0,Aui K hl,Z0,decide_eq_true hk,Bool.not_true,cond_false,if_pos hk,if_pos hk,if_pos hk,Ayt K hl,Z0];unfold A2z at h0p ⊢;cases hp:plB l (gt l k).Sm with
 |true=>
  rw[hp]at h0p
  have:=Aul hp;rw[cond_true]at h0p ⊢;rw[cond_true,if_pos hk,if_pos this];simp only[Aqh];exact Ayi K hl (by rw[Z49]) hk _ _ h0p
 |false=>
  rw[hp]at h0p;rw[cond_false]at h0p ⊢;rw[cond_false,if_pos hk];cases h0:(gt l k).Sm==0 with
  |false=>
   simp only[cond_false,Bool.false_and,Aqi];exact Ayi K hl rfl hk _ _ rfl
  |true=>
   rw[h0]at h0p;rw[cond_true,Ayt K hl,Z0];cases hu:plB l (gt l k).fUp with
   |false=>
    simp only[cond_false,Bool.false_and,Bool.and_false,Aqi];exact Ayi K hl rfl hk _ _ rfl
   |true=>
    rw[hu]at h0p
    have hui:=Aul hu;rw[cond_true,if_pos hui];simp only[Z30,Aqi]at h0p ⊢;cases hf:(gt l (An4 .i64 (gt l k).fUp 1)).Ee==An3 .i64 k 1 with
    |false=>
     simp only[cond_false];exact Ayi K hl rfl hk _ _ rfl
    |true=>
     rw[hf]at h0p;simp only[cond_true,if_pos hui,if_pos hk,Aqh]at h0p ⊢;exact Ayi K hl (by rw[Z49]) hk _ _ h0p
end
def Beq (n:As):As:=As.mk 2 n.C8 0 0 0 0 0 0 [] 0 0 [] []
theorem Btn{n:As}(hn:Ap5 n):Ap5 (Beq n):=
 ⟨⟨by show _≤(2:Int);omega,by show(2:Int)≤_;omega⟩,hn.gen,Atl,Atl,Atl,Atl,Atl,Atl,Ati,Atl,Atl,Azi,Ati⟩
theorem Bob{n:As}(hn:Ap5 n){v:Int}(hv:wfi v):Ap5 (Bqe n v):=⟨hn.st,hn.gen,hn.ep,hn.up,hn.upEp,hn.first,hv,hn.prev,hn.chunks,hn.cur,hn.bump,hn.things,hn.tags⟩
theorem Boc{n:As}(hn:Ap5 n){v:Int}(hv:wfi v):Ap5 (Bko n v):=⟨hn.st,hn.gen,hn.ep,hn.up,hn.upEp,hn.first,hn.next,hv,hn.chunks,hn.cur,hn.bump,hn.things,hn.tags⟩
theorem Bkr{n:As}(hn:Ap5 n){v:Int}(hv:wfi v):Ap5 (Bkp n v):=⟨hn.st,hn.gen,hn.ep,hn.up,hn.upEp,hv,hn.next,hn.prev,hn.chunks,hn.cur,hn.bump,hn.things,hn.tags⟩
theorem Bto{n:As}(hn:Ap5 n):Ap5 (Bkq n):=by
 have z:wfi 0:=⟨by decide,by decide⟩
 exact⟨hn.st,hn.gen,hn.ep,z,z,hn.first,z,z,hn.chunks,hn.cur,hn.bump,hn.things,hn.tags⟩
theorem A3k{l:List As}{k:Int}(hk:0≤k∧k<(l.length:Int)){x:As}(h:A0w x=A0w (gt l k)):((l.set k.toNat x).map A0w).sum=(l.map A0w).sum:=by
 have hlt:k.toNat<l.length:=by omega
 have:=Bep A0w l k.toNat hlt x
 have e:l[k.toNat]=gt l k:=by rw[←K1 hlt,show((k.toNat:Nat):Int)=k by omega]
 rw[e]at this;omega
theorem Btp{l:List As}(w:Aeo l){k:Int}(hk:0≤k∧k<(l.length:Int)):Aeo (A2z l k)∧((A2z l k).map A0w).sum=(l.map A0w).sum:=by
 have hn:=w.1 _ (Akr hk.1 hk.2);unfold A2z;cases hp:plB l (gt l k).Sm with
 |true=>
  have hi:=Aul hp;exact⟨Axd w _ (Bob (w.1 _ (Akr hi.1 hi.2)) hn.next),A3k hi rfl⟩
 |false=>
  rw[cond_false];cases hc:((gt l k).Sm==0&&(plB l (gt l k).fUp&&(gt l (An4 .i64 (gt l k).fUp 1)).Ee==An3 .i64 k 1))with
  |false=>exact⟨w,rfl⟩
  |true=>
   simp only[Z4]at hc
   have hi:=Aul hc.2.1;exact⟨Axd w _ (Bkr (w.1 _ (Akr hi.1 hi.2)) hn.next),A3k hi rfl⟩
theorem Btq{l0 l:List As}(w:Aeo l)(he:l.length=l0.length)(k nx:Int){pv:Int}(hv:wfi pv):Aeo (A4m l0 l k nx pv)∧((A4m l0 l k nx pv).map A0w).sum=(l.map A0w).sum:=by
 unfold A4m;cases hp:plB l0 nx with
 |true=>
  have hi:=Aul hp;rw[←he]at hi;exact⟨Axd w _ (Boc (w.1 _ (Akr hi.1 hi.2)) hv),A3k hi rfl⟩
 |false=>exact⟨w,rfl⟩
theorem A1s{l:List As}(w:Aeo l){k:Int}(hk:0≤k∧k<(l.length:Int)):Aeo (Ana l k)∧((Ana l k).map A0w).sum=(l.map A0w).sum∧(Ana l k).length=l.length:=by
 have hn:=w.1 _ (Akr hk.1 hk.2);obtain⟨h1,h2⟩:=Btp w hk
 have h3:=A1r l k;obtain⟨h4,h5⟩:=Btq h1 h3 k (gt l k).Sl hn.prev
 have h6:=A2y l (A2z l k) k (gt l k).Sl (gt l k).Sm
 have hk':0≤k∧k<((A4m l (A2z l k) k (gt l k).Sl (gt l k).Sm).length:Int):=by rw[h6,h3];exact hk
 unfold Ana A17;exact⟨Axd h4 _ (Bto (h4.1 _ (Akr hk'.1 hk'.2))),(A3k (x:=Bkq (gt (A4m l (A2z l k) k (gt l k).Sl (gt l k).Sm) k)) hk' rfl).trans (h5.trans h2),by rw[Z49,h6,h3]⟩
def Ar5 (w:C4)(k:Int):C4:=C4.mk w.fC (Aij w.fP (gt w.fL k).Ay) ((Ana w.fL k).set k.toNat (Beq (gt (Ana w.fL k) k))) (w.fQ++[Agm (gt w.fL k) (An3 .i64 k 1)]) w.Acw
section
variable {K:Nat} (hK:281474976710656≤K)
include hK
theorem A62 (w:C4)(hw:Am6 w)(hQ:w.fQ.length≤140737488355){k:Int}(hk:0≤k∧k<(w.fL.length:Int)):At0 K w k=some (Ar5 w k):=by
 have hm:=P2
 have hn:=hw.l.1 _ (Akr hk.1 hk.2)
 have hk':0≤k∧k<((Ana w.fL k).length:Int):=by rw[(A1s hw.l hk).2.2];exact hk
 unfold At0 Azg;simp only[if_pos hk,A15 K hn,Z0,A5s hK w hw _ (Ays hK hn.chunks),Bbn hK hw.l hk,if_pos hk'];rw[if_pos ⟨by simp;omega,by simp;omega⟩]
 rfl
theorem A63 (w:C4)(hw:Am6 w)(hQ:w.fQ.length≤140737488355){k:Int}(hk:0≤k∧k<(w.fL.length:Int))(hst:(gt w.fL k).Vg=1):Arx K w k=some (Ar5 w k):=by
 have hm:=P2
 have hn:=hw.l.1 _ (Akr hk.1 hk.2)
 have hk':0≤k∧k<((Ana w.fL k).length:Int):=by rw[(A1s hw.l hk).2.2];exact hk
 unfold Arx A2l;rw[Atg hK hw,Z0,Aui K (Abh hw.l),Z0,decide_eq_true hk,cond_true,if_pos hk,hst];simp only[bne_self_eq_false,cond_false,if_pos hk,A4i K hn,Z0]
 rw[if_pos ⟨by omega,by omega⟩,A6z hK,A5t hK (C4.mk w.fC w.fP w.fL (w.fQ++[Agm (gt w.fL k) (An3 .i64 k 1)]) w.Acw) hw.p hk (Ays hK hn.chunks),Z0]
 simp only;rw[Bbo hK hw.l hk];simp only[Z0,if_pos hk'];rfl
end
def Bzj (c:D9)(x:Az)(v:Int)(i:Nat):Int:=An3 .i64 v (bif ((i:Int)==0)then Atd (An4 .i64 c.G6 x.Wv) c.E6 else Atd c.G6 c.E6)
def Btr (c:D9)(x:Az):Int:=
 (List.range x.Ay.length).foldl (Bzj c x) (An3 .i64 (x.Fh.length:Int) 1)
section
variable {K:Nat} (hK:281474976710656≤K)
include hK
end
def Bts (w:C4)(k:Int):Int:=Btr w.fC (Agm (gt w.fL k) 0)
section
variable {K:Nat} (hK:562949953421312≤K)
include hK
end
structure Lk where
 lv:Bool
 gn:Bool
 ep:Int
 up:Int
 ue:Int
 fi:Int
 nx:Int
 pv:Int
section
variable (N:Int) (t:Int->Lk)
def Lv (k:Int):Prop:=(0≤k∧k<N)∧(t k).lv=true
def Cu (k:Int):Prop:=Lv N t ((t k).up - 1)∧(t ((t k).up - 1)).ep=(t k).ue
def Oo (k:Int):Prop:=Lv N t k∧(t k).up≠0∧ ¬Cu N t k
structure Bks (k:Int):Prop where
 first:(t k).fi≠0->Lv N t ((t k).fi - 1)∧(t ((t k).fi - 1)).pv=0∧(t ((t k).fi - 1)).up=k+1∧(t ((t k).fi - 1)).ue=(t k).ep
 next:(t k).nx≠0->Lv N t ((t k).nx - 1)∧(t ((t k).nx - 1)).pv=k+1∧(t ((t k).nx - 1)).up=(t k).up∧(t ((t k).nx - 1)).ue=(t k).ue
 prev:(t k).pv≠0->Lv N t ((t k).pv - 1)∧(t ((t k).pv - 1)).nx=k+1
 up:(t k).up≠0->0≤(t k).up - 1∧(t k).up - 1<N
 top:(t k).pv=0->Cu N t k->(t ((t k).up - 1)).fi=k+1
def kids:Nat->Int->List Int
 |0,_=>[]
 |n+1,k=>if 0≤k∧k<N then k::kids n ((t k).nx - 1)else []
def rise:Nat->Int->List Int
 |0,_=>[]
 |n+1,k=>if 0≤k∧k<N then k::rise n ((t k).up - 1)else []
structure Avh:Prop where
 link: ∀k,Lv N t k->Bks N t k
 rise: ∀k,Lv N t k->(rise N t N.toNat k).length≤4∧ ∀x,(rise N t N.toNat k).getLast? =some x-> ¬Cu N t x
 bare: ∀k,0≤k->k<N->(t k).lv=false->(t k).up=0∧(t k).fi=0∧(t k).nx=0∧(t k).pv=0
def Wf (r:Int->Nat):Prop:= ∀x,Lv N t x->(t x).pv≠0->r ((t x).pv - 1)<r x
end
section
variable {N:Int} {t:Int->Lk}
theorem A8k (n:Nat)(k:Int):kids N t (n+1) k=if 0≤k∧k<N then k::kids N t n ((t k).nx - 1)else []:=rfl
theorem A8l (n:Nat)(k:Int):rise N t (n+1) k=if 0≤k∧k<N then k::rise N t n ((t k).up - 1)else []:=rfl
theorem Oo.lv{k:Int}(h:Oo N t k):Lv N t k:=h.1
theorem A9r: ∀(n:Nat) (k x:Int),x∈kids N t n k->0≤x∧x<N:=by
 intro n
 induction n with
 |zero=>intro k x h;cases h
 |succ n ih=>
  intro k x h;unfold kids at h;split at h
  ·rename_i h1;rcases Ef.1 h with rfl|h
   ·exact h1
   ·exact ih _ x h
  ·cases h
theorem Axi (n:Nat):kids N t n (0 - 1)=[]:=by
 cases n with
 |zero=>rfl
 |succ n=>unfold kids;rw[if_neg (by omega)]
theorem Bgl: ∀(n:Nat) (k:Int),kids N t n k=(kids N t (n+1) k).take n:=by
 intro n
 induction n with
 |zero=>intro k;simp[kids]
 |succ n ih=>
  intro k;rw[A8k,A8k (n+1)];split
  ·rw[ih];simp
  ·simp
theorem Bkt (T:Avh N t){u e:Int}: ∀(n:Nat) (k:Int),Lv N t k->(t k).up=u->(t k).ue=e-> ∀x∈kids N t n k,Lv N t x∧(t x).up=u∧(t x).ue=e:=by
 intro n
 induction n with
 |zero=>intro k _ _ _ x h;cases h
 |succ n ih=>
  intro k h1 h2 h3 x h;unfold kids at h;split at h
  ·rcases Ef.1 h with rfl|h
   ·exact⟨h1,h2,h3⟩
   ·by_cases h4:(t k).nx=0
    ·rw[h4,Axi]at h;cases h
    ·obtain⟨a,_,b,c⟩:=(T.link k h1).next h4;exact ih _ a (b.trans h2) (c.trans h3) x h
  ·cases h
theorem A8m (T:Avh N t){r:Int->Nat}(W:Wf N t r): ∀(n:Nat) (k:Int),Lv N t k->(∀x∈kids N t n k,r k≤r x)∧(kids N t n k).Pairwise (fun a b=>r a<r b):=by
 intro n
 induction n with
 |zero=>intro k _;exact⟨fun x h=>(by cases h),.nil⟩
 |succ n ih=>
  intro k h1;unfold kids;split
  ·by_cases h4:(t k).nx=0
   ·rw[h4,Axi];exact⟨fun x h=>by rw[Px.1 h];exact Z9 _,List.pairwise_singleton ..⟩
   ·obtain⟨a,b,_⟩:=(T.link k h1).next h4;obtain⟨i1,i2⟩:=ih _ a
    have hr:=W _ a (by rw[b];have:=h1.1;omega)
    rw[b,Int.add_sub_cancel]at hr;refine⟨fun x h=> ?_,List.pairwise_cons.2 ⟨fun x h=> ?_,i2⟩⟩
    ·rcases Ef.1 h with rfl|h
     ·exact Z9 _
     ·have:=i1 x h;omega
    ·have:=i1 x h;omega
  ·exact⟨fun x h=>(by cases h),.nil⟩
theorem A30 (T:Avh N t){r:Int->Nat}(W:Wf N t r)(n:Nat){k:Int}(h:Lv N t k):(kids N t n k).Nodup:=
 (A8m T W n k h).2.imp fun h e=>by rw[e]at h;omega
theorem A9s{l:List Int}(hn:l.Nodup)(h: ∀x∈l,0≤x∧x<N):l.length≤N.toNat:=by
 have:=Ayv (l:=(List.range N.toNat).map (fun i:Nat=>(i:Int))) hn (fun x hx=>by
  have:=h x hx;rw[Ex];exact⟨x.toNat,by simp;omega,by omega⟩)
 simpa using this
theorem Bgm: ∀(n:Nat) (k y x:Int),y∈kids N t n k->(t y).nx=x+1->0≤x∧x<N->x∈kids N t n k∨(kids N t n k).length=n:=by
 intro n
 induction n with
 |zero=>intro k y x h;cases h
 |succ n ih=>
  intro k y x h h1 h2;unfold kids at h ⊢;split at h
  ·rename_i h3;rw[if_pos h3];rcases Ef.1 h with rfl|h
   ·rw[h1,Int.add_sub_cancel];cases n with
    |zero=>right;simp[kids]
    |succ n=>left;rw[kids,if_pos h2];simp
   ·rcases ih _ y x h h1 h2 with h|h
    ·exact .inl (Z56 _ h)
    ·exact .inr (by simp[h])
  ·cases h
theorem Bku (T:Avh N t){r:Int->Nat}(W:Wf N t r){k:Int}(hk:Lv N t k)(x:Int):
  x∈kids N t N.toNat ((t k).fi - 1) ↔ Lv N t x∧(t x).up=k+1∧(t x).ue=(t k).ep:=by
 constructor
 ·intro h
  by_cases h0:(t k).fi=0
  ·rw[h0,Axi]at h;cases h
  ·obtain⟨a,_,b,c⟩:=(T.link k hk).first h0;exact Bkt T _ _ a b c x h
 ·generalize hn:r x=n
  induction n using Nat.strongRecOn generalizing x with
  |_ n ih=>
   intro⟨h1,h2,h3⟩
   have hc:Cu N t x:=by unfold Cu;rw[h2,h3,Int.add_sub_cancel];exact⟨hk,rfl⟩
   by_cases hp:(t x).pv=0
   ·have:=(T.link x h1).top hp hc;rw[h2,Int.add_sub_cancel]at this;obtain⟨m,hm⟩: ∃m,N.toNat=m+1:=⟨N.toNat - 1,by have:=h1.1;omega⟩
    rw[this,Int.add_sub_cancel,hm,kids,if_pos h1.1];simp
   ·obtain⟨a,b⟩:=(T.link x h1).prev hp
    have hr:=W x h1 hp;obtain⟨_,_,c,d⟩:=(T.link _ a).next (by rw[b];have:=h1.1;omega)
    rw[b,Int.add_sub_cancel]at c d
    have hy:=ih _ (by omega) _ rfl ⟨a,c ▸ h2,d ▸ h3⟩
    rcases Bgm _ _ _ x hy b h1.1 with h|h
    ·exact h
    ·refine Classical.byContradiction fun hx=> ?_
     have h0:(t k).fi≠0:=fun e=>by rw[e,Axi]at hy;cases hy
     have hd:=A30 T W N.toNat ((T.link k hk).first h0).1
     have:=A9s (N:=N) (l:=x::kids N t N.toNat ((t k).fi - 1)) (List.nodup_cons.2 ⟨hx,hd⟩) (fun y hy=>by
      rcases Ef.1 hy with rfl|hy
      ·exact h1.1
      ·exact A9r _ _ y hy)
     simp only[Z28]at this;omega
theorem A20 (T:Avh N t){r:Int->Nat}(W:Wf N t r)(n:Nat){k:Int}(hk:Lv N t k):(kids N t n ((t k).fi - 1)).Nodup:=by
 by_cases h0:(t k).fi=0
 ·rw[h0,Axi];exact .nil
 ·exact A30 T W n ((T.link k hk).first h0).1
theorem A18{t':Int->Lk}: ∀(n:Nat) (k:Int),(∀x∈kids N t n k,(t' x).nx=(t x).nx)->kids N t' n k=kids N t n k:=by
 intro n
 induction n with
 |zero=>intro k _;rfl
 |succ n ih=>
  intro k h;rw[kids,kids];rw[kids]at h;split
  ·rename_i h1;rw[if_pos h1]at h;rw[h k (by simp),ih _ fun x hx=>h x (by simp[hx])]
  ·rfl
theorem A1d{t':Int->Lk}: ∀(n:Nat) (k:Int),(∀x∈rise N t n k,(t' x).up=(t x).up)->rise N t' n k=rise N t n k:=by
 intro n
 induction n with
 |zero=>intro k _;rfl
 |succ n ih=>
  intro k h;rw[rise,rise];rw[rise]at h;split
  ·rename_i h1;rw[if_pos h1]at h;rw[h k (by simp),ih _ fun x hx=>h x (by simp[hx])]
  ·rfl
theorem Bgn: ∀(n:Nat) (k:Int),rise N t n k=(rise N t (n+1) k).take n:=by
 intro n
 induction n with
 |zero=>intro k;simp[rise]
 |succ n ih=>
  intro k;rw[A8l,A8l (n+1)];split
  ·rw[ih];simp
  ·simp
theorem Azj: ∀(n:Nat) (k x:Int),x∈rise N t n k->0≤x∧x<N:=by
 intro n
 induction n with
 |zero=>intro k x h;cases h
 |succ n ih=>
  intro k x h;unfold rise at h;split at h
  ·rename_i h1;rcases Ef.1 h with rfl|h
   ·exact h1
   ·exact ih _ x h
  ·cases h
theorem Bkv{t':Int->Lk}{g:Int}(h: ∀x,x≠g->(t' x).up=(t x).up)(hg:(t' g).up=0): ∀(n:Nat) (k:Int),
  (rise N t' n k=[] ↔ rise N t n k=[])∧(rise N t' n k).length≤(rise N t n k).length∧((rise N t' n k).getLast? =some g∨(rise N t' n k).getLast? =(rise N t n k).getLast?):=by
 intro n
 induction n with
 |zero=>intro k;exact⟨Iff.rfl,Z9 _,.inr rfl⟩
 |succ n ih=>
  intro k;rw[rise,rise]
  by_cases h1:0≤k∧k<N
  ·rw[if_pos h1,if_pos h1]
   by_cases e:k=g
   ·subst e
    have:rise N t' n (0 - 1)=[]:=by cases n with|zero=>rfl|succ n=>rw[rise,if_neg (by omega)]
    rw[hg,this];exact⟨by simp,by simp,.inl rfl⟩
   ·rw[h k e];obtain⟨i1,i2,i3⟩:=ih ((t k).up - 1);refine⟨by simp,by simpa using i2,?_⟩
    cases ha:rise N t' n ((t k).up - 1)with
    |nil=>rw[i1.1 ha];exact .inr rfl
    |cons a l=>
     cases hb:rise N t n ((t k).up - 1)with
     |nil=>rw[i1.2 hb]at ha;cases ha
     |cons b m=>
      rw[ha,hb]at i3;simpa using i3
  ·rw[if_neg h1,if_neg h1];exact⟨Iff.rfl,Z9 _,.inr rfl⟩
theorem A3l (T:Avh N t){k:Int}(hk:Lv N t k)(hc:Cu N t k):(t k).up≠k+1:=by
 intro e;obtain⟨_,h⟩:=T.rise k hk
 have: ∀n,rise N t (n+1) k=List.replicate (n+1) k:=by
  intro n
  induction n with
  |zero=>rw[rise,if_pos hk.1];rfl
  |succ n ih=>rw[rise,if_pos hk.1,e,Int.add_sub_cancel,ih];rfl
 obtain⟨m,hm⟩: ∃m,N.toNat=m+1:=⟨N.toNat - 1,by have:=hk.1;omega⟩
 refine h k ?_ hc;rw[hm,this,List.getLast?_replicate,if_neg (by omega)]
def rem (t:Int->Lk)(g:Int)(x:Int):Lk:=
 if x=g then⟨false,true,0,0,0,0,0,0⟩else
  ⟨(t x).lv,(t x).gn,(t x).ep,(t x).up,(t x).ue,if(t g).pv=0∧x+1=(t g).up∧(t x).fi=g+1 then(t g).nx else(t x).fi,if x+1=(t g).pv then(t g).nx else(t x).nx,if x+1=(t g).nx then(t g).pv else(t x).pv⟩
theorem A4n{g:Int}:rem t g g=⟨false,true,0,0,0,0,0,0⟩:=if_pos rfl
theorem Ald{g x:Int}(h:x≠g):rem t g x=⟨(t x).lv,(t x).gn,(t x).ep,(t x).up,(t x).ue,if(t g).pv=0∧x+1=(t g).up∧(t x).fi=g+1 then(t g).nx else(t x).fi,if x+1=(t g).pv then(t g).nx else(t x).nx,if x+1=(t g).nx then(t g).pv else(t x).pv⟩:=if_neg h
theorem Apg{g x:Int}:Lv N (rem t g) x ↔ x≠g∧Lv N t x:=by
 unfold Lv
 by_cases h:x=g
 ·subst h;rw[A4n];simp
 ·rw[Ald h];simp[h]
theorem A0x{g x:Int}(hx:x≠g):Cu N (rem t g) x ↔ (t x).up≠g+1∧Cu N t x:=by
 unfold Cu;rw[Apg,Ald hx]
 by_cases h:(t x).up - 1=g
 ·simp[h];omega
 ·rw[Ald h];simp only[ne_eq,h,not_false_eq_true,true_and];exact⟨fun h1=>⟨by omega,h1⟩,fun h1=>h1.2⟩
theorem Bkw{g x:Int}(hg:0≤g):Oo N (rem t g) x ↔ x≠g∧(Oo N t x∨Lv N t x∧(t x).up=g+1):=by
 unfold Oo;rw[Apg]
 by_cases h:x=g
 ·simp[h]
 ·rw[A0x h,Ald h];simp only[ne_eq,h,not_false_eq_true,true_and];constructor
  ·rintro⟨a,b,c⟩
   by_cases e:(t x).up=g+1
   ·exact .inr ⟨a,e⟩
   ·exact .inl ⟨a,b,fun d=>c ⟨e,d⟩⟩
  ·rintro(⟨a,b,c⟩|⟨a,b⟩)
   ·exact⟨a,b,fun d=>c d.2⟩
   ·exact⟨a,by omega,fun d=>d.1 b⟩
theorem Bkx (T:Avh N t){g x:Int}(hg:Lv N t g)(hx:Lv N (rem t g) x):Bks N (rem t g) x:=by
 obtain⟨hne,hl⟩:=Apg.1 hx
 have G:=T.link g hg
 have X:=T.link x hl
 have g0:=hg.1
 have x0:=hl.1;refine⟨?_,?_,?_,?_,?_⟩
 ·rw[Ald hne];intro h;simp only at h ⊢
  by_cases hA:(t g).pv=0∧x+1=(t g).up∧(t x).fi=g+1
  ·rw[if_pos hA]at h ⊢;obtain⟨a,b,c,d⟩:=G.next h
   have hm:(t g).nx - 1≠g:=fun e=>by rw[e]at b;omega
   obtain⟨_,_,_,f4⟩:=X.first (by omega)
   rw[hA.2.2,Int.add_sub_cancel]at f4;rw[Ald hm];refine⟨Apg.2 ⟨hm,a⟩,?_,?_,?_⟩
   ·simp only;rw[if_pos (by omega)];exact hA.1
   ·simp only;omega
   ·simp only;omega
  ·rw[if_neg hA]at h ⊢;obtain⟨a,b,c,d⟩:=X.first h
   have hm:(t x).fi - 1≠g:=fun e=>by rw[e]at b c;exact hA ⟨b,c.symm,by omega⟩
   rw[Ald hm];refine⟨Apg.2 ⟨hm,a⟩,?_,c,d⟩;simp only;rw[if_neg]
   ·exact b
   ·intro e
    have:=(G.next (by omega)).2.1
    rw[←e,Int.add_sub_cancel]at this;omega
 ·rw[Ald hne];intro h;simp only at h ⊢
  by_cases hA:x+1=(t g).pv
  ·rw[if_pos hA]at h ⊢;obtain⟨a,b,c,d⟩:=G.next h
   have hm:(t g).nx - 1≠g:=fun e=>by rw[e]at b;omega
   obtain⟨_,p2⟩:=G.prev (by omega)
   rw[←hA,Int.add_sub_cancel]at p2;obtain⟨_,_,q3,q4⟩:=X.next (by omega)
   rw[p2,Int.add_sub_cancel]at q3 q4;rw[Ald hm];refine⟨Apg.2 ⟨hm,a⟩,?_,?_,?_⟩
   ·simp only;rw[if_pos (by omega)];omega
   ·simp only;omega
   ·simp only;omega
  ·rw[if_neg hA]at h ⊢;obtain⟨a,b,c,d⟩:=X.next h
   have hm:(t x).nx - 1≠g:=fun e=>by rw[e]at b;omega
   rw[Ald hm];refine⟨Apg.2 ⟨hm,a⟩,?_,c,d⟩;simp only;rw[if_neg]
   ·exact b
   ·intro e
    have:=(G.next (by omega)).2.1
    rw[←e,Int.add_sub_cancel]at this;omega
 ·rw[Ald hne];intro h;simp only at h ⊢
  by_cases hA:x+1=(t g).nx
  ·rw[if_pos hA]at h ⊢;obtain⟨a,b⟩:=G.prev h
   have hm:(t g).pv - 1≠g:=fun e=>by rw[e]at b;omega
   rw[Ald hm];refine⟨Apg.2 ⟨hm,a⟩,?_⟩;simp only;rw[if_pos (by omega)]
   omega
  ·rw[if_neg hA]at h ⊢;obtain⟨a,b⟩:=X.prev h
   have hm:(t x).pv - 1≠g:=fun e=>by rw[e]at b;omega
   rw[Ald hm];refine⟨Apg.2 ⟨hm,a⟩,?_⟩;simp only;rw[if_neg]
   ·exact b
   ·intro e
    have:=(G.prev (by omega)).2
    rw[←e,Int.add_sub_cancel]at this;omega
 ·rw[Ald hne];exact X.up
 ·intro h hc;obtain⟨c1,c2⟩:=(A0x hne).1 hc;rw[Ald hne]at h ⊢;simp only at h ⊢
  have hm:(t x).up - 1≠g:=by omega
  rw[Ald hm];simp only
  by_cases hA:x+1=(t g).nx
  ·rw[if_pos hA]at h;obtain⟨_,_,q3,q4⟩:=G.next (by omega)
   rw[←hA,Int.add_sub_cancel]at q3 q4
   have hcg:Cu N t g:=by unfold Cu at c2 ⊢;rw[←q3,←q4];exact c2
   have:=G.top h hcg;rw[if_pos ⟨h,by omega,by rw[q3];exact this⟩]
   omega
  ·rw[if_neg hA]at h
   have:=X.top h c2;rw[if_neg (fun e=>by omega)]
   exact this
theorem A64 (T:Avh N t){g:Int}(hg:Lv N t g):Avh N (rem t g):=by
 refine⟨fun k hk=>Bkx T hg hk,fun k hk=> ?_,fun k h0 h1 h=> ?_⟩
 ·obtain⟨hne,hl⟩:=Apg.1 hk;obtain⟨r1,r2⟩:=T.rise k hl;obtain⟨_,c1,c2⟩:=Bkv (t:=t) (t':=rem t g) (N:=N) (g:=g) (fun x hx=>by rw[Ald hx]) (by rw[A4n]) N.toNat k
  refine⟨by omega,fun x hx hc=> ?_⟩
  by_cases e:x=g
  ·subst e;unfold Cu at hc;rw[A4n]at hc
   have:=hc.1.1.1;simp at this
  ·rcases c2 with c2|c2
   ·rw[c2]at hx;exact e (Z32 hx).symm
   ·rw[c2]at hx;exact r2 x hx ((A0x e).1 hc).2
 ·by_cases e:k=g
  ·subst e;rw[A4n];exact⟨rfl,rfl,rfl,rfl⟩
  ·rw[Ald e]at h ⊢;simp only at h ⊢;obtain⟨a,b,c,d⟩:=T.bare k h0 h1 h
   have G:=T.link g hg;refine⟨a,?_,?_,?_⟩
   ·rw[if_neg (fun q=>by have:=hg.1;omega)];exact b
   ·rw[if_neg]
    ·exact c
    ·intro q
     have:=(G.prev (by omega)).1.2
     rw[←q,Int.add_sub_cancel,h]at this;cases this
   ·rw[if_neg]
    ·exact d
    ·intro q
     have:=(G.next (by omega)).1.2
     rw[←q,Int.add_sub_cancel,h]at this;cases this
theorem Btt (T:Avh N t){r:Int->Nat}(W:Wf N t r){g:Int}(hg:Lv N t g):Wf N (rem t g) r:=by
 intro x hx h;obtain⟨hne,hl⟩:=Apg.1 hx;rw[Ald hne]at h ⊢;simp only at h ⊢
 by_cases hA:x+1=(t g).nx
 ·rw[if_pos hA]at h ⊢
  have h1:=W g hg h
  have h2:=((T.link g hg).next (by have:=hl.1;omega)).2.1
  rw[←hA,Int.add_sub_cancel]at h2
  have h3:=W x hl (by have:=hg.1;omega)
  rw[h2,Int.add_sub_cancel]at h3;omega
 ·rw[if_neg hA]at h ⊢;exact W x hl h
end
section
variable (N:Int) (t:Int->Lk)
def kf (f:Int):List Int:=kids N t N.toNat (f - 1)
structure A9t (fs:List Int):Prop where
 nodup:(fs.flatMap (kf N t)).Nodup
 iff: ∀x,x∈fs.flatMap (kf N t) ↔ Oo N t x
 top: ∀f∈fs,f≠0->(0≤f - 1∧f - 1<N)∧(t (f - 1)).pv=0
inductive Dd (S:List Int):Int->Prop
 |base {y:Int}:y∈S->Dd S y
 |step {y:Int}:Lv N t y->Cu N t y->Dd S ((t y).up - 1)->Dd S y
inductive Al:Int->Prop
 |root {y:Int}:Lv N t y->(t y).up=0->Al y
 |step {y:Int}:Lv N t y->Cu N t y->Al ((t y).up - 1)->Al y
def Odr:List Int->List (Int×Int)->Prop
 |_,[]=>True
 |seen,e::q=>(∀y,Dd N t (kf N t e.2) y-> ∀x,Lv N t x->(t x).up=y+1-> ¬Cu N t x->x∈seen)∧(e.1≠0-> ∀x,Lv N t x->(t x).up=e.1->x∈seen++kf N t e.2)∧Odr (seen++kf N t e.2) q
structure Ai9 (qs:List (Int×Int)):Prop where
 tree:Avh N t
 wf: ∃r,Wf N t r
 uw: ∃d:Int->Nat,∀x,Lv N t x->Cu N t x->d ((t x).up - 1)<d x
 kid:A9t N t (qs.map (·.2))
 ord:Odr N t [] qs
 gone: ∀x,Lv N t x->(t x).up≠0->(t ((t x).up - 1)).lv=true∨(t ((t x).up - 1)).gn=true
 ep: ∀x,Lv N t x->Lv N t ((t x).up - 1)->(t x).ue≤(t ((t x).up - 1)).ep
 slot: ∀e∈qs,e.1≠0->(t (e.1 - 1)).lv=false∧(t (e.1 - 1)).gn=true
end
section
variable {N:Int} {t:Int->Lk}
theorem Al.lv{y:Int}(h:Al N t y):Lv N t y:=by cases h<;>assumption
theorem Al.noOr{y:Int}(h:Al N t y): ¬Oo N t y:=by
 intro g;cases h with
 |root a b=>exact g.2.1 b
 |step a b c=>exact g.2.2 b
theorem Al.noDd{S:List Int}(hS: ∀x∈S,Oo N t x){y:Int}(h:Al N t y): ¬Dd N t S y:=by
 induction h with
 |root a b=>
  intro g;cases g with
  |base g=>exact(hS _ g).2.1 b
  |step g1 g2 g3=>have:=g2.1.1.1;omega
 |step a b c ih=>
  intro g;cases g with
  |base g=>exact(hS _ g).2.2 b
  |step g1 g2 g3=>exact ih g3
theorem Dd.in{S:List Int}(hS: ∀x∈S,0≤x∧x<N){y:Int}(h:Dd N t S y):0≤y∧y<N:=by
 cases h with
 |base h=>exact hS _ h
 |step h _ _=>exact h.1
theorem Ber{f x:Int}(h:x∈kf N t f):0≤x∧x<N:=A9r _ _ _ h
theorem A9t.or{fs:List Int}(h:A9t N t fs){f:Int}(hf:f∈fs){x:Int}(hx:x∈kf N t f):Oo N t x:=
 (h.iff x).1 (List.mem_flatMap.2 ⟨f,hf,hx⟩)
theorem sib (T:Avh N t){g x:Int}(hg:Lv N t g)(h:x+1=(t g).pv)(hx:0≤x):Lv N t x∧(t g).up=(t x).up∧(t g).ue=(t x).ue:=by
 obtain⟨a,b⟩:=(T.link g hg).prev (by omega)
 rw[←h,Int.add_sub_cancel]at a b;obtain⟨_,_,c,d⟩:=(T.link x a).next (by rw[b];have:=hg.1;omega)
 rw[b,Int.add_sub_cancel]at c d;exact⟨a,c,d⟩
theorem Bky{g x:Int}(h1:(t g).up=(t x).up)(h2:(t g).ue=(t x).ue):Cu N t g ↔ Cu N t x:=by unfold Cu;rw[h1,h2]
theorem A1t (T:Avh N t){r:Int->Nat}(W:Wf N t r){g:Int}(hg:Lv N t g)(x:Int):x∈kf N t (t g).fi ↔ Lv N t x∧(t x).up=g+1∧Cu N t x:=by
 unfold kf;rw[Bku T W hg];constructor
 ·rintro⟨a,b,c⟩;refine⟨a,b,?_⟩;unfold Cu;rw[b,c,Int.add_sub_cancel];exact⟨hg,rfl⟩
 ·rintro⟨a,b,c⟩;refine⟨a,b,?_⟩
  have:=c.2;rw[b,Int.add_sub_cancel]at this;exact this.symm
theorem Bdf{g f:Int}(h: ∀x∈kf N t f,x≠g∧x+1≠(t g).pv):kf N (rem t g) f=kf N t f:=
 A18 _ _ fun x hx=>by
  obtain⟨a,b⟩:=h x hx;rw[Ald a];simp only;rw[if_neg b]
theorem A1e (T:Avh N t){r:Int->Nat}(W:Wf N t r){g:Int}(hg:Lv N t g):kf N (rem t g) (t g).fi=kf N t (t g).fi:=by
 refine Bdf fun x hx=> ?_;obtain⟨a,b,c⟩:=(A1t T W hg x).1 hx;constructor
 ·rintro rfl;exact A3l T hg c b
 ·intro e;obtain⟨_,h1,h2⟩:=sib T hg e a.1.1;exact A3l T hg ((Bky h1 h2).2 c) (h1.trans b)
theorem A9u (T:Avh N t){g f:Int}(hg:Lv N t g)(h:(0≤f - 1∧f - 1<N)∧(t (f - 1)).pv=0):(0≤f - 1∧f - 1<N)∧(rem t g (f - 1)).pv=0:=by
 refine⟨h.1,?_⟩
 by_cases e:f - 1=g
 ·rw[e,A4n]
 ·rw[Ald e];simp only;rw[if_neg]
  ·exact h.2
  ·intro q
   have:=((T.link g hg).next (by omega)).2.1
   rw[←q,Int.add_sub_cancel,h.2]at this
   have:=hg.1;omega
theorem A8n (T:Avh N t){g:Int}(hg:Lv N t g)(h:(t g).fi≠0):(0≤(t g).fi - 1∧(t g).fi - 1<N)∧(rem t g ((t g).fi - 1)).pv=0:=by
 obtain⟨a,b,_⟩:=(T.link g hg).first h;exact A9u T hg ⟨a.1,b⟩
theorem Aim{α:Type}{a b:List α}:(a++b).Nodup ↔ a.Nodup∧b.Nodup∧ ∀x∈a,x ∉ b:=by
 rw[List.nodup_append];exact⟨fun h=>⟨h.1,h.2.1,fun x h1 h2=>h.2.2 x h1 x h2 rfl⟩,fun h=>⟨h.1,h.2.1,fun x h1 y h2 e=>h.2.2 x h1 (e ▸ h2)⟩⟩
theorem Atu{α β:Type}{l:List α}{f g:α->List β}(h: ∀x∈l,f x=g x):l.flatMap f=l.flatMap g:=by
 induction l with
 |nil=>rfl
 |cons x l ih=>rw[List.flatMap_cons,List.flatMap_cons,h x (by simp),ih fun y hy=>h y (by simp[hy])]
theorem A49 (T:Avh N t){g:Int}(hg:Lv N t g)(ho: ¬Oo N t g){fs:List Int}(K:A9t N t fs){f:Int}(hf:f∈fs):kf N (rem t g) f=kf N t f:=by
 refine Bdf fun x hx=> ?_
 have hx:=K.or hf hx;constructor
 ·rintro rfl;exact ho hx
 ·intro e;obtain⟨_,h1,h2⟩:=sib T hg e hx.1.1.1;exact ho ⟨hg,h1 ▸ hx.2.1,fun c=>hx.2.2 ((Bky h1 h2).1 c)⟩
theorem Bgo (T:Avh N t){r:Int->Nat}(W:Wf N t r){g:Int}(hg:Lv N t g)(ho: ¬Oo N t g){fs:List Int}(K:A9t N t fs):A9t N (rem t g) (fs++[(t g).fi]):=by
 have e:(fs++[(t g).fi]).flatMap (kf N (rem t g))=fs.flatMap (kf N t)++kf N t (t g).fi:=by
  rw[List.flatMap_append,List.flatMap_cons,List.flatMap_nil,List.append_nil,A1e T W hg,Atu fun f hf=>A49 T hg ho K hf]
 refine⟨?_,fun x=> ?_,fun f hf h0=> ?_⟩
 ·rw[e,Aim];exact⟨K.nodup,A20 T W _ hg,fun x h1 h2=>((K.iff x).1 h1).2.2 ((A1t T W hg x).1 h2).2.2⟩
 ·rw[e,Mh,K.iff,A1t T W hg,Bkw hg.1.1];constructor
  ·rintro(h|⟨a,b,c⟩)
   ·exact⟨fun q=>ho (q ▸ h),.inl h⟩
   ·exact⟨fun q=>A3l T hg (q ▸ c) (q ▸ b),.inr ⟨a,b⟩⟩
  ·rintro⟨a,h|⟨b,c⟩⟩
   ·exact .inl h
   ·by_cases d:Cu N t x
    ·exact .inr ⟨b,c,d⟩
    ·exact .inl ⟨b,by have:=hg.1.1;omega,d⟩
 ·rw[Mh,Px]at hf;rcases hf with hf|rfl
  ·exact A9u T hg (K.top f hf h0)
  ·exact A8n T hg h0
theorem A4o{f:Int}(h:0≤f - 1∧f - 1<N):f - 1∈kf N t f:=by
 unfold kf;obtain⟨m,hm⟩: ∃m,N.toNat=m+1:=⟨N.toNat - 1,by omega⟩
 rw[hm,kids,if_pos h];simp
theorem A31 (T:Avh N t){r:Int->Nat}(W:Wf N t r){g:Int}(hg:Lv N t g):kf N t (g+1)=g::kf N t (t g).nx:=by
 unfold kf;obtain⟨m,hm⟩: ∃m,N.toNat=m+1:=⟨N.toNat - 1,by have:=hg.1;omega⟩
 rw[Int.add_sub_cancel,hm,kids,if_pos hg.1]
 congr 1
 rw[Bgl,List.take_of_length_le]
 by_cases h0:(t g).nx=0
 ·rw[h0,Axi];exact Z21 _
 ·obtain⟨a,b,_⟩:=(T.link g hg).next h0
  have hr:=W _ a (by rw[b];have:=hg.1;omega)
  rw[b,Int.add_sub_cancel]at hr
  have hn:g ∉ kids N t (m+1) ((t g).nx - 1):=fun h=>by
   have:=(A8m T W (m+1) _ a).1 g h;omega
  have:=A9s (N:=N) (List.nodup_cons.2 ⟨hn,A30 T W (m+1) a⟩) (fun y hy=>by
   rcases Ef.1 hy with rfl|hy
   ·exact hg.1
   ·exact A9r _ _ y hy)
  simp only[Z28]at this;omega
theorem Bkz (T:Avh N t){r:Int->Nat}(W:Wf N t r){g:Int}(hg:Lv N t g){fs:List Int}(K:A9t N t ((g+1)::fs)):
  (∀f∈(t g).nx::fs,kf N (rem t g) f=kf N t f)∧A9t N (rem t g) ((t g).fi::(t g).nx::fs):=by
 have h0:(t g).pv=0:=by have:=(K.top (g+1) (by simp) (by have:=hg.1;omega)).2;rwa[Int.add_sub_cancel]at this
 have ho:Oo N t g:=K.or (f:=g+1) (by simp) (by have:=A4o (N:=N) (t:=t) (f:=g+1) (by rw[Int.add_sub_cancel];exact hg.1);rwa[Int.add_sub_cancel]at this)
 have hnd:=K.nodup;rw[List.flatMap_cons,A31 T W hg]at hnd;rw[Z45,List.nodup_cons]at hnd
 have hold: ∀f∈(t g).nx::fs,kf N (rem t g) f=kf N t f:=fun f hf=>Bdf fun x hx=>by
  refine⟨?_,fun e=>by have:=Ber hx;omega⟩
  rintro rfl;refine hnd.1 ?_;rcases Ef.1 hf with rfl|hf
  ·exact List.mem_append_left _ hx
  ·exact List.mem_append_right _ (List.mem_flatMap.2 ⟨f,hf,hx⟩)
 have e:((t g).fi::(t g).nx::fs).flatMap (kf N (rem t g))=kf N t (t g).fi++((t g).nx::fs).flatMap (kf N t):=by
  rw[List.flatMap_cons,A1e T W hg,Atu hold]
 have hsub: ∀x,x∈((t g).nx::fs).flatMap (kf N t) ↔ Oo N t x∧x≠g:=by
  intro x
  have:=K.iff x;rw[List.flatMap_cons,A31 T W hg,Z45,Ef]at this;rw[List.flatMap_cons];constructor
  ·intro h;exact⟨this.1 (.inr h),fun q=>hnd.1 (q ▸ h)⟩
  ·rintro⟨h,hne⟩;rcases this.2 h with q|q
   ·exact absurd q hne
   ·exact q
 refine⟨hold,?_,fun x=> ?_,fun f hf h1=> ?_⟩
 ·rw[e,Aim];refine⟨A20 T W _ hg,by rw[List.flatMap_cons];exact hnd.2,fun x h1 h2=>((hsub x).1 h2).1.2.2 ((A1t T W hg x).1 h1).2.2⟩
 ·rw[e,Mh,hsub,A1t T W hg,Bkw hg.1.1];constructor
  ·rintro(⟨a,b,c⟩|⟨a,b⟩)
   ·exact⟨fun q=>A3l T hg (q ▸ c) (q ▸ b),.inr ⟨a,b⟩⟩
   ·exact⟨b,.inl a⟩
  ·rintro⟨a,h|⟨b,c⟩⟩
   ·exact .inr ⟨h,a⟩
   ·by_cases d:Cu N t x
    ·exact .inl ⟨b,c,d⟩
    ·exact .inr ⟨⟨b,by have:=hg.1.1;omega,d⟩,a⟩
 ·rcases Ef.1 hf with rfl|hf
  ·exact A8n T hg h1
  ·rcases Ef.1 hf with rfl|hf
   ·obtain⟨a,b,_⟩:=(T.link g hg).next h1
    have hm:(t g).nx - 1≠g:=fun q=>by rw[q]at b;have:=hg.1;omega
    refine⟨a.1,?_⟩;rw[Ald hm];simp only;rw[if_pos (by omega)]
    exact h0
   ·exact A9u T hg (K.top f (by simp[hf]) h1)
theorem A65{t':Int->Lk}: ∀(q:List (Int×Int)) (seen seen':List Int),(∀e∈q,kf N t' e.2=kf N t e.2)→
  (∀e∈q,∀y,Dd N t' (kf N t' e.2) y->Dd N t (kf N t e.2) y∧ ∀x,Lv N t' x->(t' x).up=y+1-> ¬Cu N t' x->x∈seen'∨Lv N t x∧(t x).up=y+1∧ ¬Cu N t x)→
  (∀e∈q,e.1≠0-> ∀x,Lv N t' x->(t' x).up=e.1->x∈seen'∨Lv N t x∧(t x).up=e.1)→
  (∀x∈seen,Lv N t' x->x∈seen')->Odr N t seen q->Odr N t' seen' q:=by
 intro q
 induction q with
 |nil=>intros;trivial
 |cons e q ih=>
  intro seen seen' hk hd hsl hs h;obtain⟨h1,h2,h3⟩:=h
  have hke:=hk e (by simp)
  refine⟨fun y hy x hx hu hc=> ?_,fun h0 x hx hu=> ?_,?_⟩
  ·obtain⟨a,b⟩:=hd e (by simp) y hy
   rcases b x hx hu hc with b|⟨b1,b2,b3⟩
   ·exact b
   ·exact hs x (h1 y a x b1 b2 b3) hx
  ·rw[hke,Mh];rcases hsl e (by simp) h0 x hx hu with b|⟨b1,b2⟩
   ·exact .inl b
   ·rcases Mh.1 (h2 h0 x b1 b2)with b|b
    ·exact .inl (hs x b hx)
    ·exact .inr b
  ·rw[hke];refine ih (seen++kf N t e.2) _ (fun f hf=>hk f (by simp[hf])) (fun f hf y hy=> ?_) (fun f hf h0 x hx hu=> ?_) (fun x hx hl=> ?_) h3
   ·obtain⟨a,b⟩:=hd f (by simp[hf]) y hy
    refine⟨a,fun x hx hu hc=> ?_⟩;rcases b x hx hu hc with b|b
    ·exact .inl (List.mem_append_left _ b)
    ·exact .inr b
   ·rcases hsl f (by simp[hf]) h0 x hx hu with b|b
    ·exact .inl (List.mem_append_left _ b)
    ·exact .inr b
   ·rcases Mh.1 hx with h|h
    ·exact List.mem_append_left _ (hs x h hl)
    ·exact List.mem_append_right _ h
theorem Bes: ∀(q:List (Int×Int)) (seen:List Int) (e:Int×Int),Odr N t seen q→
  (∀y,Dd N t (kf N t e.2) y-> ∀x,Lv N t x->(t x).up=y+1-> ¬Cu N t x->x∈seen++q.flatMap (fun e=>kf N t e.2))→
  (e.1≠0-> ∀x,Lv N t x->(t x).up=e.1->x∈(seen++q.flatMap (fun e=>kf N t e.2))++kf N t e.2)->Odr N t seen (q++[e]):=by
 intro q
 induction q with
 |nil=>intro seen e h h1 h2;rw[List.flatMap_nil,List.append_nil]at h1 h2;exact⟨h1,h2,trivial⟩
 |cons f q ih=>
  intro seen e h h1 h2;obtain⟨a,b,c⟩:=h;rw[List.flatMap_cons,←Z31]at h1 h2;exact⟨a,b,ih _ e c h1 h2⟩
theorem A9v{g:Int}{S:List Int}{y:Int}(h:Dd N (rem t g) S y):Dd N t S y:=by
 induction h with
 |base h=>exact .base h
 |step a b c ih=>
  obtain⟨h1,h2⟩:=Apg.1 a;rw[Ald h1]at ih;exact .step h2 ((A0x h1).1 b).2 ih
theorem A21{g:Int}{S:List Int}(hS:g ∉ S){y:Int}(h:Dd N (rem t g) S y):y≠g:=by
 cases h with
 |base h=>exact fun e=>hS (e ▸ h)
 |step a _ _=>exact(Apg.1 a).1
theorem A66{qs qs':List (Int×Int)}(F:Ai9 N t qs){g:Int}(hg:Lv N t g)(hK:A9t N (rem t g) (qs'.map (·.2)))(hO:Odr N (rem t g) [] qs')(hs: ∀e∈qs',e.1≠0->e.1=g+1∨e.1∈qs.map (·.1)):Ai9 N (rem t g) qs':=by
 obtain⟨r,W⟩:=F.wf;obtain⟨d,U⟩:=F.uw;refine⟨A64 F.tree hg,⟨r,Btt F.tree W hg⟩,⟨d,fun x hx hc=> ?_⟩,hK,hO,fun x hx h=> ?_,fun x hx h=> ?_,fun e he h0=> ?_⟩
 ·obtain⟨h1,h2⟩:=Apg.1 hx;rw[Ald h1];exact U x h2 ((A0x h1).1 hc).2
 ·obtain⟨h1,h2⟩:=Apg.1 hx;rw[Ald h1]at h ⊢;simp only at h ⊢
  by_cases e:(t x).up - 1=g
  ·rw[e,A4n];exact .inr rfl
  ·rw[Ald e];exact F.gone x h2 h
 ·obtain⟨h1,h2⟩:=Apg.1 hx;rw[Ald h1]at h ⊢;simp only at h ⊢;obtain⟨h3,h4⟩:=Apg.1 h;rw[Ald h3];exact F.ep x h2 h4
 ·by_cases e1:e.1 - 1=g
  ·rw[e1,A4n];exact⟨rfl,rfl⟩
  ·rw[Ald e1];rcases hs e he h0 with h|h
   ·omega
   ·obtain⟨a,ha,hb⟩:=Ex.1 h;simp only at hb ⊢;rw[←hb];exact F.slot a ha (by rw[hb];exact h0)
theorem A9w{qs:List (Int×Int)}(F:Ai9 N t qs){g:Int}(hg:Al N t g):Ai9 N (rem t g) (qs++[(g+1,(t g).fi)]):=by
 obtain⟨r,W⟩:=F.wf
 have hl:=hg.lv
 have T:=F.tree
 have K:=F.kid
 have hK:=Bgo T W hl hg.noOr K;rw[show qs.map (·.2)++[(t g).fi]=(qs++[(g+1,(t g).fi)]).map (·.2)by simp]at hK
 have hold: ∀e∈qs,kf N (rem t g) e.2=kf N t e.2:=fun e he=>A49 T hl hg.noOr K (Ex.2 ⟨e,he,rfl⟩)
 have hgn: ∀e∈qs,g ∉ kf N t e.2:=fun e he h=>hg.noOr (K.or (Ex.2 ⟨e,he,rfl⟩) h)
 have hflat:qs.flatMap (fun e=>kf N (rem t g) e.2)=(qs.map (·.2)).flatMap (kf N t):=by
  rw[List.flatMap_map];exact Atu hold
 refine A66 F hl hK (Bes _ _ _ (A65 qs [] [] hold (fun e he y hy=> ?_) (fun e he h0 x hx hu=> ?_) (fun x hx=>by cases hx) F.ord) (fun y hy x hx hu hc=> ?_) (fun _ x hx hu=> ?_)) (fun e he h0=> ?_)
 ·have hy2:=A21 (by rw[hold e he];exact hgn e he) hy
  refine⟨by rw[←hold e he];exact A9v hy,fun x hx hu hc=> .inr ?_⟩
  obtain⟨a,b⟩:=Apg.1 hx;rw[Ald a]at hu;simp only at hu;exact⟨b,hu,fun h=>hc ((A0x a).2 ⟨by omega,h⟩)⟩
 ·obtain⟨a,b⟩:=Apg.1 hx;rw[Ald a]at hu;exact .inr ⟨b,hu⟩
 ·rw[Z38,hflat,K.iff];obtain⟨a,b⟩:=Apg.1 hx;rw[Ald a]at hu;simp only at hu;rw[A1e T W hl]at hy
  have hgc:g ∉ kf N t (t g).fi:=fun h=>by obtain⟨_,h2,h3⟩:=(A1t T W hl g).1 h;exact A3l T hl h3 h2
  have hy2:=A21 hgc hy
  have hy0:=Dd.in (fun x hx=>Ber hx) hy;exact⟨b,by omega,fun h=>hc ((A0x a).2 ⟨by omega,h⟩)⟩
 ·rw[Z38,hflat,A1e T W hl,Mh,K.iff,A1t T W hl];obtain⟨a,b⟩:=Apg.1 hx;rw[Ald a]at hu;simp only at hu
  by_cases c:Cu N t x
  ·exact .inr ⟨b,hu,c⟩
  ·exact .inl ⟨b,by have:=hl.1;omega,c⟩
 ·rcases Mh.1 he with he|he
  ·exact .inr (Ex.2 ⟨e,he,rfl⟩)
  ·rw[Px]at he;rw[he];exact .inl rfl
theorem Bbp{qs:List (Int×Int)}{s g:Int}(F:Ai9 N t ((s,g+1)::qs))(h0:0≤g):Lv N t g∧(t g).pv=0∧Ai9 N (rem t g) ((g+1,(t g).fi)::(s,(t g).nx)::qs):=by
 obtain⟨r,W⟩:=F.wf
 have T:=F.tree
 have K:=F.kid;rw[Z8]at K;obtain⟨k1,k2⟩:=K.top (g+1) (by simp) (by omega)
 have hgm:g∈kf N t (g+1):=by have:=A4o (N:=N) (t:=t) k1;rwa[Int.add_sub_cancel]at this
 have ho:Oo N t g:=K.or (f:=g+1) (by simp) hgm
 have hl:=ho.1;rw[Int.add_sub_cancel]at k2;obtain⟨hold,hK⟩:=Bkz T W hl K;obtain⟨o1,o2,o3⟩:=F.ord;simp only[Z38]at o1 o2 o3
 have hsp:=A31 T W hl
 have hgc:g ∉ kf N t (t g).fi:=fun h=>by obtain⟨_,h2,h3⟩:=(A1t T W hl g).1 h;exact A3l T hl h3 h2
 have hchild: ∀y,Dd N t (kf N t (t g).fi) y->Dd N t (kf N t (g+1)) y:=by
  intro y hy
  induction hy with
  |base h=>
   obtain⟨a,b,c⟩:=(A1t T W hl _).1 h;exact .step a c (by rw[b,Int.add_sub_cancel];exact .base hgm)
  |step a b c ih=>exact .step a b ih
 have hnone: ∀y,Dd N t (kf N t (g+1)) y-> ∀x,Lv N t x->(t x).up=y+1->Cu N t x:=fun y hy x hx hu=>Classical.byContradiction fun h=>by have:=o1 y hy x hx hu h;cases this
 refine⟨hl,k2,A66 F hl hK ⟨fun y hy x hx hu hc=> ?_,fun _ x hx hu=> ?_,fun y hy x hx hu hc=> ?_,fun hs x hx hu=> ?_,?_⟩ (fun e he h1=> ?_)⟩
 ·exfalso;rw[A1e T W hl]at hy
  have hy2:=A21 hgc hy;obtain⟨a,b⟩:=Apg.1 hx;rw[Ald a]at hu;simp only at hu;exact hc ((A0x a).2 ⟨by omega,hnone y (hchild y (A9v hy)) x b hu⟩)
 ·rw[Z38,A1e T W hl,A1t T W hl];obtain⟨a,b⟩:=Apg.1 hx;rw[Ald a]at hu;simp only at hu;exact⟨b,hu,hnone g (.base hgm) x b hu⟩
 ·exfalso;rw[hold _ (by simp)]at hy
  have hgt:g ∉ kf N t (t g).nx:=by
   have:=K.nodup;rw[List.flatMap_cons,hsp,Z45,List.nodup_cons]at this;exact fun h=>this.1 (List.mem_append_left _ h)
  have hy2:=A21 hgt hy;obtain⟨a,b⟩:=Apg.1 hx;rw[Ald a]at hu;simp only at hu
  have hd:Dd N t (kf N t (g+1)) y:=by
   have:=A9v hy;rw[hsp];clear hy hu
   induction this with
   |base h=>exact .base (Z56 _ h)
   |step a b c ih=>
    exact .step a b (Classical.byCases (fun e:(t _).up - 1=g=>by rw[e];exact .base (by simp)) (fun e=>ih e))
  exact hc ((A0x a).2 ⟨by omega,hnone y hd x b hu⟩)
 ·rw[Z38,A1e T W hl,hold _ (by simp)]
  obtain⟨a,b⟩:=Apg.1 hx;rw[Ald a]at hu;simp only at hu
  have:=o2 hs x b hu;rw[hsp]at this;rcases Ef.1 this with h|h
  ·exact absurd h a
  ·exact List.mem_append_right _ h
 ·rw[Z38,A1e T W hl,hold _ (by simp)]
  have hq: ∀e∈qs,e.2∈(t g).nx::qs.map (·.2):=fun e he=>Z56 _ (Ex.2 ⟨e,he,rfl⟩)
  have hnd:=K.nodup;rw[List.flatMap_cons,hsp,Z45,List.nodup_cons]at hnd;refine A65 qs (kf N t (g+1)) _ (fun e he=>hold _ (hq e he)) (fun e he y hy=> ?_) (fun e he _ x hx hu=> ?_) (fun x hx hl'=> ?_) o3
  ·rw[hold _ (hq e he)]at hy
   have hy2:=A21 (fun h=>hnd.1 (List.mem_append_right _ (List.mem_flatMap.2 ⟨e.2,Ex.2 ⟨e,he,rfl⟩,h⟩))) hy;refine⟨A9v hy,fun x hx hu hc=> .inr ?_⟩;obtain⟨a,b⟩:=Apg.1 hx;rw[Ald a]at hu;simp only at hu;exact⟨b,hu,fun h=>hc ((A0x a).2 ⟨by omega,h⟩)⟩
  ·obtain⟨a,b⟩:=Apg.1 hx;rw[Ald a]at hu;exact .inr ⟨b,hu⟩
  ·rw[hsp]at hx;rcases Ef.1 hx with h|h
   ·exact absurd h (Apg.1 hl').1
   ·exact List.mem_append_right _ h
 ·rcases Ef.1 he with rfl|he
  ·exact .inl rfl
  ·rcases Ef.1 he with rfl|he
   ·exact .inr (by simp)
   ·exact .inr (Ex.2 ⟨e,Z56 _ he,rfl⟩)
end
section
variable {N:Int} {t:Int->Lk}
def emp (t:Int->Lk)(k x:Int):Lk:=if x=k then⟨(t k).lv,(t k).gn,(t k).ep+1,(t k).up,(t k).ue,0,(t k).nx,(t k).pv⟩else t x
theorem A8o{k:Int}:emp t k k=⟨(t k).lv,(t k).gn,(t k).ep+1,(t k).up,(t k).ue,0,(t k).nx,(t k).pv⟩:=if_pos rfl
theorem A5u{k x:Int}(h:x≠k):emp t k x=t x:=if_neg h
theorem Agq (k x:Int):(emp t k x).lv=(t x).lv∧(emp t k x).gn=(t x).gn∧(emp t k x).up=(t x).up∧(emp t k x).ue=(t x).ue∧(emp t k x).nx=(t x).nx∧(emp t k x).pv=(t x).pv:=by
 by_cases h:x=k
 ·subst h;rw[A8o];exact⟨rfl,rfl,rfl,rfl,rfl,rfl⟩
 ·rw[A5u h];exact⟨rfl,rfl,rfl,rfl,rfl,rfl⟩
theorem Arf{k x:Int}:Lv N (emp t k) x ↔ Lv N t x:=by unfold Lv;rw[(Agq k x).1]
theorem A32 (hE: ∀x,Lv N t x->Lv N t ((t x).up - 1)->(t x).ue≤(t ((t x).up - 1)).ep){k x:Int}(hx:Lv N t x):Cu N (emp t k) x ↔ (t x).up≠k+1∧Cu N t x:=by
 unfold Cu;rw[Arf,(Agq k x).2.2.1,(Agq k x).2.2.2.1]
 by_cases h:(t x).up - 1=k
 ·rw[h,A8o];simp only;constructor
  ·rintro⟨a,b⟩
   have:=hE x hx (by rw[h];exact a)
   rw[h]at this;omega
  ·rintro⟨a,_⟩;omega
 ·rw[A5u h];exact⟨fun a=>⟨by omega,a⟩,fun a=>a.2⟩
theorem A6d{k x:Int}(hx:(t x).up≠k+1):Cu N (emp t k) x ↔ Cu N t x:=by
 unfold Cu;rw[Arf,(Agq k x).2.2.1,(Agq k x).2.2.2.1,A5u (by omega)]
theorem A68 (k f:Int):kf N (emp t k) f=kf N t f:=A18 _ _ fun x _=>(Agq k x).2.2.2.2.1
theorem Bk0 (k:Int)(n:Nat)(x:Int):rise N (emp t k) n x=rise N t n x:=A1d _ _ fun x _=>(Agq k x).2.2.1
theorem Bk1 (T:Avh N t)(hE: ∀x,Lv N t x->Lv N t ((t x).up - 1)->(t x).ue≤(t ((t x).up - 1)).ep){k:Int}(hk:Lv N t k):Avh N (emp t k):=by
 refine⟨fun x hx=> ?_,fun x hx=> ?_,fun x h0 h1 h=> ?_⟩
 ·have hl:=Arf.1 hx
  have X:=T.link x hl;obtain⟨s1,s2,s3,s4,s5,s6⟩:=Agq (t:=t) k x;refine⟨fun h=> ?_,fun h=> ?_,fun h=> ?_,fun h=> ?_,fun h hc=> ?_⟩
  ·by_cases e:x=k
   ·subst e;rw[A8o]at h;exact absurd rfl h
   ·rw[A5u e]at h ⊢;obtain⟨a,b,c,d⟩:=X.first h;obtain⟨q1,q2,q3,q4,q5,q6⟩:=Agq (t:=t) k ((t x).fi - 1);rw[Arf,q6,q3,q4];exact⟨a,b,c,d⟩
  ·rw[s5]at h ⊢;obtain⟨q1,q2,q3,q4,q5,q6⟩:=Agq (t:=t) k ((t x).nx - 1);rw[Arf,q6,q3,q4,s3,s4];exact X.next h
  ·rw[s6]at h ⊢;rw[Arf,(Agq k _).2.2.2.2.1];exact X.prev h
  ·rw[s3]at h ⊢;exact X.up h
  ·rw[s6]at h;obtain⟨a,b⟩:=(A32 hE hl).1 hc;rw[s3,A5u (by omega)]
   exact X.top h b
 ·have hl:=Arf.1 hx;rw[Bk0];obtain⟨a,b⟩:=T.rise x hl;refine⟨a,fun y hy hc=> ?_⟩
  have hy2:=b y hy
  by_cases e:Lv N t y
  ·exact hy2 ((A32 hE e).1 hc).2
  ·have hin:=Azj _ _ y (List.mem_of_getLast? hy)
   have:=(T.bare y hin.1 hin.2 (by cases q:(t y).lv with|false=>rfl|true=>exact absurd ⟨hin,q⟩ e)).1
   unfold Cu at hc;rw[(Agq k y).2.2.1,this]at hc
   have:=hc.1.1.1;omega
 ·by_cases e:x=k
  ·subst e;rw[A8o]at h;have:=hk.2;simp only at h;rw[h]at this;cases this
  ·rw[A5u e]at h ⊢;exact T.bare x h0 h1 h
theorem Bk2 (hE: ∀x,Lv N t x->Lv N t ((t x).up - 1)->(t x).ue≤(t ((t x).up - 1)).ep){k x:Int}(hk:0≤k):Oo N (emp t k) x ↔ Oo N t x∨Lv N t x∧(t x).up=k+1:=by
 unfold Oo;rw[Arf,(Agq k x).2.2.1];constructor
 ·rintro⟨a,b,c⟩
  by_cases e:(t x).up=k+1
  ·exact .inr ⟨a,e⟩
  ·exact .inl ⟨a,b,fun d=>c ((A32 hE a).2 ⟨e,d⟩)⟩
 ·rintro(⟨a,b,c⟩|⟨a,b⟩)
  ·exact⟨a,b,fun d=>c ((A32 hE a).1 d).2⟩
  ·exact⟨a,by omega,fun d=>((A32 hE a).1 d).1 b⟩
theorem A9x{qs:List (Int×Int)}(F:Ai9 N t qs){k:Int}(hg:Al N t k):Ai9 N (emp t k) (qs++[(0,(t k).fi)]):=by
 obtain⟨r,W⟩:=F.wf;obtain⟨d,U⟩:=F.uw
 have hl:=hg.lv
 have T:=F.tree
 have K:=F.kid
 have hE:=F.ep
 have hflat:qs.flatMap (fun e=>kf N (emp t k) e.2)=(qs.map (·.2)).flatMap (kf N t):=by
  rw[List.flatMap_map];exact Atu fun e _=>A68 k e.2
 have hfl2:((qs++[((0:Int),(t k).fi)]).map (fun e:Int×Int=>e.2)).flatMap (kf N (emp t k))=(qs.map (·.2)).flatMap (kf N t)++kf N t (t k).fi:=by
  rw[Vs,List.flatMap_append,List.flatMap_map,hflat];simp[A68]
 refine⟨Bk1 T hE hl,⟨r,fun x hx h=> ?_⟩,⟨d,fun x hx hc=> ?_⟩,⟨?_,fun x=> ?_,fun f hf h0=> ?_⟩,Bes _ _ _ (A65 qs [] [] (fun e _=>A68 k e.2) (fun e he y hy=> ?_) (fun e he _ x hx hu=> ?_) (fun x hx=>by cases hx) F.ord) (fun y hy x hx hu hc=> ?_) (fun h=>absurd rfl h),fun x hx h=> ?_,fun x hx h=> ?_,fun e he h0=> ?_⟩
 ·rw[(Agq k x).2.2.2.2.2]at h ⊢;exact W x (Arf.1 hx) h
 ·rw[(Agq k x).2.2.1];exact U x (Arf.1 hx) ((A32 hE (Arf.1 hx)).1 hc).2
 ·rw[hfl2,Aim];exact⟨K.nodup,A20 T W _ hl,fun x h1 h2=>((K.iff x).1 h1).2.2 ((A1t T W hl x).1 h2).2.2⟩
 ·rw[hfl2,Mh,K.iff,A1t T W hl,Bk2 hE hl.1.1];constructor
  ·rintro(h|⟨a,b,c⟩)
   ·exact .inl h
   ·exact .inr ⟨a,b⟩
  ·rintro(h|⟨b,c⟩)
   ·exact .inl h
   ·by_cases d:Cu N t x
    ·exact .inr ⟨b,c,d⟩
    ·exact .inl ⟨b,by have:=hl.1.1;omega,d⟩
 ·rw[(Agq k _).2.2.2.2.2];rw[Vs,Mh]at hf;rcases hf with hf|hf
  ·exact K.top f hf h0
  ·simp only[Z8,Pz,Px]at hf;subst hf;obtain⟨a,b,_⟩:=(T.link k hl).first h0;exact⟨a.1,b⟩
 ·have hor: ∀x∈kf N t e.2,Oo N t x:=fun x hx=>K.or (Ex.2 ⟨e,he,rfl⟩) hx
  have hy2:Dd N t (kf N t e.2) y:=by
   rw[A68]at hy
   induction hy with
   |base h=>exact .base h
   |step a b c ih=>
    rw[(Agq k _).2.2.1]at ih;exact .step (Arf.1 a) ((A32 hE (Arf.1 a)).1 b).2 ih
  refine⟨hy2,fun x hx hu hc=> .inr ?_⟩;rw[(Agq k x).2.2.1]at hu
  have hne:y≠k:=fun q=>hg.noDd hor (q ▸ hy2);exact⟨Arf.1 hx,hu,fun h=>hc ((A6d (by omega)).2 h)⟩
 ·rw[(Agq k x).2.2.1]at hu;exact .inr ⟨Arf.1 hx,hu⟩
 ·rw[Z38,hflat,K.iff];rw[(Agq k x).2.2.1]at hu
  have hy0:=Dd.in (fun x hx=>Ber hx) hy
  have hal:Al N (emp t k) k:=by
   clear hy hu hc hx;cases hg with
   |root a b=>exact .root (Arf.2 a) (by rw[(Agq k _).2.2.1];exact b)
   |step a b c=>
    have key: ∀z,Al N t z->d z<d k->Al N (emp t k) z:=by
     intro z hz
     induction hz with
     |root a b=>intro _;exact .root (Arf.2 a) (by rw[(Agq k _).2.2.1];exact b)
     | @step z a b c ih=>
      intro h1
      have h2:=U z a b
      have hne:(t z).up≠k+1:=fun q=>by rw[q,Int.add_sub_cancel]at h2;omega
      exact .step (Arf.2 a) ((A6d hne).2 b) (by rw[(Agq k _).2.2.1];exact ih (by omega))
    have h2:=U k a b
    have hne:(t k).up≠k+1:=fun q=>by rw[q,Int.add_sub_cancel]at h2;omega
    exact .step (Arf.2 a) ((A6d hne).2 b) (by rw[(Agq k _).2.2.1];exact key _ c h2)
  have hne:y≠k:=fun q=>by
   refine hal.noDd (S:=kf N (emp t k) (t k).fi) (fun z hz=> ?_) (q ▸ hy);rw[A68,A1t T W hl]at hz;exact(Bk2 hE hl.1.1).2 (.inr ⟨hz.1,hz.2.1⟩)
  exact⟨Arf.1 hx,by omega,fun h=>hc ((A6d (by omega)).2 h)⟩
 ·rw[(Agq k x).2.2.1]at h ⊢;rw[(Agq k _).1,(Agq k _).2.1];exact F.gone x (Arf.1 hx) h
 ·rw[(Agq k x).2.2.1]at h ⊢;rw[(Agq k x).2.2.2.1]
  have:=hE x (Arf.1 hx) (Arf.1 h)
  by_cases e:(t x).up - 1=k
  ·rw[e]at this ⊢;rw[A8o];simp only;omega
  ·rw[A5u e];exact this
 ·rw[(Agq k _).1,(Agq k _).2.1];rcases Mh.1 he with he|he
  ·exact F.slot e he h0
  ·rw[Px]at he;rw[he]at h0;exact absurd rfl h0
def clr (t:Int->Lk)(k x:Int):Lk:=if x=k then⟨false,false,0,0,0,0,0,0⟩else t x
theorem A69{qs:List (Int×Int)}{s:Int}(F:Ai9 N t ((s,0)::qs)):Ai9 N t qs:=by
 obtain⟨o1,o2,o3⟩:=F.ord
 have h0:kf N t 0=[]:=Axi _
 have K:=F.kid;simp only[h0,List.append_nil]at o3;refine⟨F.tree,F.wf,F.uw,?_,o3,F.gone,F.ep,fun e he=>F.slot e (Z56 _ he)⟩;refine⟨?_,fun x=> ?_,fun f hf=>K.top f (Z56 _ hf)⟩
 ·have:=K.nodup;rw[Z8,List.flatMap_cons,h0,Z38]at this;exact this
 ·have:=K.iff x;rw[Z8,List.flatMap_cons,h0,Z38]at this;exact this
theorem Avi{k:Int}(h:(t k).lv=false){x:Int}:Lv N (clr t k) x ↔ Lv N t x:=by
 unfold Lv clr
 by_cases e:x=k
 ·subst e;rw[if_pos rfl,h]
 ·rw[if_neg e]
theorem Aik{k:Int}(h:(t k).lv=false){x:Int}(hx:Lv N t x):clr t k x=t x:=by
 unfold clr;rw[if_neg];intro e;subst e
 have:=hx.2;rw[h]at this;cases this
theorem A33{k:Int}(h:(t k).lv=false){x:Int}(hx:Lv N t x):Cu N (clr t k) x ↔ Cu N t x:=by
 unfold Cu;rw[Aik h hx,Avi h];constructor
 ·rintro⟨a,b⟩;rw[Aik h a]at b;exact⟨a,b⟩
 ·rintro⟨a,b⟩;rw[Aik h a];exact⟨a,b⟩
theorem A9y{qs:List (Int×Int)}{s:Int}(F:Ai9 N t ((s,0)::qs))(h0:s≠0)(hs: ∀e∈qs,e.1≠s):Ai9 N (clr t (s - 1)) qs:=by
 have F':=A69 F;obtain⟨r,W⟩:=F.wf;obtain⟨d,U⟩:=F.uw
 have T:=F.tree
 have K:=F'.kid;obtain⟨hlv,hgn⟩:=F.slot (s,0) (by simp) h0
 simp only at hlv hgn
 have hno: ∀x,Lv N t x->(t x).up≠s:=fun x hx e=>by
  have:=F.ord.2.1 h0 x hx e;rw[show kf N t ((s,(0:Int)).2)=[] from Axi _]at this
  cases this
 have hnl: ∀x,x≠s - 1->clr t (s - 1) x=t x:=fun x h=>if_neg h
 have hup: ∀x,(0≤x∧x<N)->(clr t (s - 1) x).up=(t x).up:=fun x h=>by
  by_cases e:x=s - 1
  ·subst e;rw[(T.bare _ h.1 h.2 hlv).1];unfold clr;rw[if_pos rfl]
  ·rw[hnl x e]
 have hri: ∀n x,rise N (clr t (s - 1)) n x=rise N t n x:=fun n x=>A1d n x fun y hy=>hup y (Azj _ _ y hy)
 have hkf: ∀f∈qs.map (·.2),kf N (clr t (s - 1)) f=kf N t f:=fun f hf=>A18 _ _ fun x hx=>by rw[Aik hlv (K.or hf hx).1]
 have hor: ∀x,Oo N (clr t (s - 1)) x ↔ Oo N t x:=fun x=>by
  unfold Oo;rw[Avi hlv];constructor
  ·rintro⟨a,b,c⟩;rw[Aik hlv a]at b;rw[A33 hlv a]at c;exact⟨a,b,c⟩
  ·rintro⟨a,b,c⟩;rw[Aik hlv a,A33 hlv a];exact⟨a,b,c⟩
 have hdd: ∀S y,Dd N (clr t (s - 1)) S y->Dd N t S y:=fun S y h=>by
  induction h with
  |base h=>exact .base h
  |step a b c ih=>
   have a:=(Avi hlv).1 a;rw[Aik hlv a]at ih;exact .step a ((A33 hlv a).1 b) ih
 refine⟨⟨fun x hx=> ?_,fun x hx=> ?_,fun x h0 h1 h=> ?_⟩,⟨r,fun x hx h=> ?_⟩,⟨d,fun x hx hc=> ?_⟩,⟨?_,fun x=> ?_,fun f hf h1=> ?_⟩,?_,fun x hx h=> ?_,fun x hx h=> ?_,fun e he h1=> ?_⟩
 ·have hl:=(Avi hlv).1 hx
  have X:=T.link x hl;refine⟨fun h=> ?_,fun h=> ?_,fun h=> ?_,fun h=> ?_,fun h hc=> ?_⟩
  ·rw[Aik hlv hl]at h ⊢
   have a:=(X.first h).1;rw[Avi hlv,Aik hlv a];exact X.first h
  ·rw[Aik hlv hl]at h ⊢
   have a:=(X.next h).1;rw[Avi hlv,Aik hlv a];exact X.next h
  ·rw[Aik hlv hl]at h ⊢
   have a:=(X.prev h).1;rw[Avi hlv,Aik hlv a];exact X.prev h
  ·rw[Aik hlv hl]at h ⊢;exact X.up h
  ·have hc:=(A33 hlv hl).1 hc;rw[Aik hlv hl]at h ⊢;rw[Aik hlv hc.1];exact X.top h hc
 ·have hl:=(Avi hlv).1 hx;rw[hri];obtain⟨a,b⟩:=T.rise x hl;refine⟨a,fun y hy hc=>b y hy ?_⟩;unfold Cu at hc ⊢;rw[hup y (Azj _ _ y (List.mem_of_getLast? hy)),Avi hlv]at hc;refine⟨hc.1,?_⟩;rw[←Aik hlv hc.1,hc.2]
  by_cases e:y=s - 1
  ·subst e
   have hin:=Azj _ _ _ (List.mem_of_getLast? hy)
   have:=(T.bare _ hin.1 hin.2 hlv).1;rw[this]at hc
   have:=hc.1.1.1;omega
  ·rw[hnl y e]
 ·by_cases e:x=s - 1
  ·subst e;unfold clr;rw[if_pos rfl];exact⟨rfl,rfl,rfl,rfl⟩
  ·rw[hnl x e]at h ⊢;exact T.bare x h0 h1 h
 ·have hl:=(Avi hlv).1 hx;rw[Aik hlv hl]at h ⊢;exact W x hl h
 ·have hl:=(Avi hlv).1 hx;rw[Aik hlv hl];exact U x hl ((A33 hlv hl).1 hc)
 ·rw[Atu hkf];exact K.nodup
 ·rw[Atu hkf,K.iff,hor]
 ·obtain⟨a,b⟩:=K.top f hf h1;refine⟨a,?_⟩;rw[Aik hlv (K.or hf (A4o a)).1];exact b
 ·have hk: ∀e∈qs,kf N (clr t (s - 1)) e.2=kf N t e.2:=fun e he=>hkf _ (Ex.2 ⟨e,he,rfl⟩);refine A65 qs [] [] hk (fun e he y hy=>⟨by rw[←hk e he];exact hdd _ _ hy,fun x hx hu hc=> ?_⟩) (fun e he h1 x hx hu=> ?_) (fun x hx=>by cases hx) F'.ord
  ·have hl:=(Avi hlv).1 hx;rw[Aik hlv hl]at hu;exact .inr ⟨hl,hu,fun h=>hc ((A33 hlv hl).2 h)⟩
  ·have hl:=(Avi hlv).1 hx;rw[Aik hlv hl]at hu;exact .inr ⟨hl,hu⟩
 ·have hl:=(Avi hlv).1 hx;rw[Aik hlv hl]at h ⊢;rw[hnl _ (by have:=hno x hl;omega)]
  exact F.gone x hl h
 ·have hl:=(Avi hlv).1 hx;rw[Aik hlv hl]at h ⊢
  have h2:=(Avi hlv).1 h;rw[Aik hlv h2];exact F.ep x hl h2
 ·rw[hnl _ (by have:=hs e he;omega)]
  exact F'.slot e he h1
end
section
variable {N:Int} {t:Int->Lk}
def ins (t:Int->Lk)(k p x:Int):Lk:=
 if x=k then⟨true,false,0,p+1,if p+1=0 then 0 else(t p).ep,0,if p+1=0 then 0 else(t p).fi,0⟩
 else⟨(t x).lv,(t x).gn,(t x).ep,(t x).up,(t x).ue,if x=p then k+1 else(t x).fi,(t x).nx,if p+1≠0∧x+1=(t p).fi then k+1 else(t x).pv⟩
theorem Av0{k p:Int}:ins t k p k=⟨true,false,0,p+1,if p+1=0 then 0 else(t p).ep,0,if p+1=0 then 0 else(t p).fi,0⟩:=if_pos rfl
theorem Atj{k p x:Int}(h:x≠k):ins t k p x=⟨(t x).lv,(t x).gn,(t x).ep,(t x).up,(t x).ue,if x=p then k+1 else(t x).fi,(t x).nx,if p+1≠0∧x+1=(t p).fi then k+1 else(t x).pv⟩:=if_neg h
theorem Bk3: ∀(n:Nat) (x y:Int),y∈rise N t n x->y=x∨ ∃z,z∈rise N t n x∧(t z).up - 1=y:=by
 intro n
 induction n with
 |zero=>intro x y h;cases h
 |succ n ih=>
  intro x y h;rw[rise]at h ⊢;split at h
  ·rename_i h1;rw[if_pos h1];rcases Ef.1 h with h|h
   ·exact .inl h
   ·rcases ih _ y h with h|⟨z,h2,h3⟩
    ·exact .inr ⟨x,by simp,h.symm⟩
    ·exact .inr ⟨z,by simp[h2],h3⟩
  ·cases h
theorem Bet{d:Int->Nat}(U: ∀x,Lv N t x->Cu N t x->d ((t x).up - 1)<d x): ∀(n:Nat) (x:Int),Al N t x->(∀y∈rise N t n x,d y≤d x∧Al N t y)∧(rise N t n x).Pairwise (fun a b=>d b<d a):=by
 intro n
 induction n with
 |zero=>intro x _;exact⟨fun y h=>(by cases h),.nil⟩
 |succ n ih=>
  intro x hx;rw[rise,if_pos hx.lv.1];cases hx with
  |root a b=>
   have:rise N t n ((t x).up - 1)=[]:=by rw[b];cases n with|zero=>rfl|succ n=>rw[rise,if_neg (by omega)]
   rw[this];exact⟨fun y h=>by rw[Px.1 h];exact⟨Z9 _,.root a b⟩,List.pairwise_singleton ..⟩
  |step a b c=>
   obtain⟨i1,i2⟩:=ih _ c
   have h2:=U x a b;refine⟨fun y h=> ?_,List.pairwise_cons.2 ⟨fun y h=> ?_,i2⟩⟩
   ·rcases Ef.1 h with rfl|h
    ·exact⟨Z9 _,.step a b c⟩
    ·obtain⟨j1,j2⟩:=i1 y h;exact⟨by omega,j2⟩
   ·have:=(i1 y h).1;omega
theorem Bbq{qs:List (Int×Int)}(F:Ai9 N t qs){k p:Int}(hk:0≤k∧k<N)(hlv:(t k).lv=false)(hgn:(t k).gn=false)(hp:p= -1∨Al N t p∧(rise N t N.toNat p).length<4):Ai9 N (ins t k p) qs:=by
 obtain⟨r,W⟩:=F.wf;obtain⟨d,U⟩:=F.uw
 have T:=F.tree
 have K:=F.kid
 have hne: ∀ {x},Lv N t x->x≠k:=fun {x} h e=>by subst e;rw[h.2]at hlv;cases hlv
 have hno: ∀x,Lv N t x->(t x).up≠k+1:=fun x hx e=>by
  rcases F.gone x hx (by omega)with h|h
  ·rw[e,Int.add_sub_cancel,hlv]at h;cases h
  ·rw[e,Int.add_sub_cancel,hgn]at h;cases h
 have hp0:p+1≠0->Al N t p:=fun h=>by
  rcases hp with rfl|hp
  ·exact absurd rfl h
  ·exact hp.1
 have hp1: ∀x,Lv N t x->x=p->p+1≠0:=fun x hx e=>by have:=hx.1.1;omega
 have L: ∀x,Lv N (ins t k p) x ↔ x=k∨Lv N t x:=fun x=>by
  unfold Lv
  by_cases e:x=k
  ·subst e;rw[Av0];simp[hk]
  ·rw[Atj e];simp[e]
 have hL: ∀ {x},Lv N t x->Lv N (ins t k p) x:=fun h=>(L _).2 (.inr h)
 have hup: ∀x,x≠k->(ins t k p x).up=(t x).up:=fun x h=>by rw[Atj h]
 have C: ∀x,x≠k->(t x).up≠k+1->(Cu N (ins t k p) x ↔ Cu N t x):=fun x h h1=>by
  unfold Cu;rw[L,hup x h,Atj (x:=(t x).up - 1) (by omega),Atj h]
  constructor
  ·rintro⟨a,b⟩;exact⟨a.resolve_left (by omega),b⟩
  ·rintro⟨a,b⟩;exact⟨.inr a,b⟩
 have Ck:p+1≠0->Cu N (ins t k p) k:=fun h=>by
  have:=(hp0 h).lv;unfold Cu;rw[Av0];simp only;rw[Int.add_sub_cancel,if_neg h,Atj (hne this)];exact⟨hL this,rfl⟩
 have Cn:p+1=0-> ¬Cu N (ins t k p) k:=fun h c=>by
  unfold Cu at c;rw[Av0]at c;simp only at c
  have:=c.1.1.1;omega
 have hkf: ∀f∈qs.map (·.2),kf N (ins t k p) f=kf N t f:=fun f hf=>A18 _ _ fun x hx=>by rw[Atj (hne (K.or hf hx).1)]
 have hor: ∀x,Oo N (ins t k p) x ↔ Oo N t x:=fun x=>by
  unfold Oo;rw[L]
  by_cases e:x=k
  ·subst e;constructor
   ·rintro⟨_,b,c⟩;rw[Av0]at b;exact absurd (Ck b) c
   ·rintro⟨a,_⟩;exact absurd rfl (hne a)
  ·rw[hup x e];constructor
   ·rintro⟨a,b,c⟩
    have a:=a.resolve_left e;exact⟨a,b,fun h=>c ((C x e (hno x a)).2 h)⟩
   ·rintro⟨a,b,c⟩;exact⟨.inr a,b,fun h=>c ((C x e (hno x a)).1 h)⟩
 have hrk: ∀x,Lv N t x-> ∀n,k ∉ rise N t n x:=fun x hx n h=>by
  rcases Bk3 _ _ _ h with h|⟨z,h1,h2⟩
  ·exact hne hx h.symm
  ·by_cases hz:(t z).lv=true
   ·exact hno z ⟨Azj _ _ _ h1,hz⟩ (by omega)
   ·have:=Azj _ _ _ h1
    have:=(T.bare z this.1 this.2 (by simpa using hz)).1
    omega
 have hri: ∀x,Lv N t x-> ∀n,rise N (ins t k p) n x=rise N t n x:=fun x hx n=>A1d n x fun y hy=>hup y fun e=>hrk x hx n (e ▸ hy)
 have hlast: ∀x,Lv N t x-> ∀y,(rise N t N.toNat x).getLast? =some y-> ¬Cu N (ins t k p) y:=fun x hx y hy hc=>by
  have hm:=List.mem_of_getLast? hy
  have hyk:y≠k:=fun e=>hrk x hx _ (e ▸ hm)
  have hin:=Azj _ _ _ hm
  by_cases hz:(t y).lv=true
  ·exact(T.rise x hx).2 y hy ((C y hyk (hno y ⟨hin,hz⟩)).1 hc)
  ·have:=(T.bare y hin.1 hin.2 (by simpa using hz)).1
   unfold Cu at hc;rw[hup y hyk,this]at hc
   have:=hc.1.1.1;omega
 obtain⟨m,hm⟩: ∃m,N.toNat=m+1:=⟨N.toNat - 1,by omega⟩
 have hpk:p+1≠0->rise N (ins t k p) N.toNat k=k::rise N t N.toNat p:=fun h=>by
  have ha:=hp0 h;rw[hm,rise,if_pos hk,Av0];simp only;rw[Int.add_sub_cancel,hri p ha.lv,←hm]
  congr 1
  rw[hm,Bgn,List.take_of_length_le];obtain⟨i1,i2⟩:=Bet U (m+1) p ha
  have:=A9s (N:=N) (List.nodup_cons.2 ⟨hrk p ha.lv (m+1),i2.imp fun h e=>by rw[e]at h;omega⟩) (fun y hy=>by
   rcases Ef.1 hy with rfl|hy
   ·exact hk
   ·exact Azj _ _ y hy)
  simp only[Z28]at this;omega
 refine⟨⟨fun x hx=> ?_,fun x hx=> ?_,fun x h0 h1 h=> ?_⟩,⟨fun x=>if x=k then 0 else r x+1,fun x hx h=> ?_⟩,⟨fun x=>if x=k then d p+1 else d x,fun x hx hc=> ?_⟩,⟨?_,fun x=> ?_,fun f hf h1=> ?_⟩,?_,fun x hx h=> ?_,fun x hx h=> ?_,fun e he h1=> ?_⟩
 ·by_cases e:x=k
  ·subst e;refine⟨fun h=> ?_,fun h=> ?_,fun h=> ?_,fun h=> ?_,fun h hc=> ?_⟩
   ·rw[Av0]at h;exact absurd rfl h
   ·rw[Av0]at h ⊢;simp only at h ⊢
    by_cases hq:p+1=0
    ·rw[if_pos hq]at h;exact absurd rfl h
    ·rw[if_neg hq]at h ⊢;rw[if_neg hq];obtain⟨a,b,c,e⟩:=(T.link p (hp0 hq).lv).first h;rw[Atj (hne a)];simp only;rw[if_pos ⟨hq,by omega⟩]
     exact⟨hL a,rfl,c,e⟩
   ·rw[Av0]at h;exact absurd rfl h
   ·rw[Av0]at h ⊢;simp only at h ⊢;rw[Int.add_sub_cancel];exact(hp0 h).lv.1
   ·by_cases hq:p+1=0
    ·exact absurd hc (Cn hq)
    ·rw[Av0];simp only;rw[Int.add_sub_cancel,Atj (hne (hp0 hq).lv)];simp
  ·have hl:=((L x).1 hx).resolve_left e
   have X:=T.link x hl;refine⟨fun h=> ?_,fun h=> ?_,fun h=> ?_,fun h=> ?_,fun h hc=> ?_⟩
   ·rw[Atj e]at h ⊢;simp only at h ⊢
    by_cases hq:x=p
    ·have hq1:=hp1 x hl hq;rw[if_pos hq,Int.add_sub_cancel,Av0];refine⟨(L k).2 (.inl rfl),rfl,?_,?_⟩
     ·show p+1=x+1;omega
     ·show(if p+1=0 then 0 else(t p).ep)=_;rw[if_neg hq1,hq]
    ·rw[if_neg hq]at h ⊢;obtain⟨a,b,c,f⟩:=X.first h;rw[Atj (hne a)];simp only;rw[if_neg]
     ·exact⟨hL a,b,c,f⟩
     ·rintro⟨g1,g2⟩
      have:=((T.link p (hp0 g1).lv).first (by have:=hl.1;omega)).2.2.1
      rw[←g2,Int.add_sub_cancel]at this;omega
   ·rw[Atj e]at h ⊢;simp only at h ⊢;obtain⟨a,b,c,f⟩:=X.next h;rw[Atj (hne a)];simp only;rw[if_neg]
    ·exact⟨hL a,b,c,f⟩
    ·rintro⟨g1,g2⟩
     have:=((T.link p (hp0 g1).lv).first (by have:=hl.1;omega)).2.1
     rw[←g2,Int.add_sub_cancel]at this
     have:=hl.1;omega
   ·rw[Atj e]at h ⊢;simp only at h ⊢
    by_cases hq:p+1≠0∧x+1=(t p).fi
    ·rw[if_pos hq,Int.add_sub_cancel,Av0];simp only;rw[if_neg hq.1];exact⟨(L k).2 (.inl rfl),hq.2.symm⟩
    ·rw[if_neg hq]at h ⊢;obtain⟨a,b⟩:=X.prev h;rw[Atj (hne a)];exact⟨hL a,b⟩
   ·rw[Atj e]at h ⊢;exact X.up h
   ·have hc:=(C x e (hno x hl)).1 hc;rw[Atj e]at h ⊢;simp only at h ⊢
    by_cases hq:p+1≠0∧x+1=(t p).fi
    ·rw[if_pos hq]at h;omega
    ·rw[if_neg hq]at h
     have:=X.top h hc;rw[Atj (hne hc.1)];simp only;rw[if_neg]
     ·exact this
     ·intro g;rw[g]at this;exact hq ⟨hp1 _ hc.1 g,by omega⟩
 ·by_cases e:x=k
  ·subst e
   by_cases hq:p+1=0
   ·have:rise N (ins t x p) N.toNat x=[x]:=by
     rw[hm,rise,if_pos hk,Av0];simp only;rw[hq];cases m with
     |zero=>rfl
     |succ m=>rw[rise,if_neg (by omega)]
    rw[this];refine⟨by simp,fun y hy=> ?_⟩
    rw[←Z32 (show some x=some y from hy)]
    exact Cn hq
   ·rw[hpk hq];rcases hp with rfl|hp
    ·exact absurd rfl hq
    ·refine⟨by simp only[Z28];omega,fun y hy=> ?_⟩
     have:rise N t N.toNat p≠[]:=by rw[hm,rise,if_pos hp.1.lv.1];simp
     rw[List.getLast?_cons]at hy;refine hlast p hp.1.lv y ?_;rw[←hy];cases ha:rise N t N.toNat p with
     |nil=>exact absurd ha this
     |cons a l=>rw[List.getLast?_cons];simp
  ·have hl:=((L x).1 hx).resolve_left e;rw[hri x hl];exact⟨(T.rise x hl).1,hlast x hl⟩
 ·by_cases e:x=k
  ·subst e;rw[Av0]at h;cases h
  ·rw[Atj e]at h ⊢;simp only at h ⊢;obtain⟨a,b,c,f⟩:=T.bare x h0 h1 h;refine⟨a,?_,c,?_⟩
   ·rw[if_neg]
    ·exact b
    ·intro g
     have:=(hp0 (by omega)).lv.2
     rw[←g,h]at this;cases this
   ·rw[if_neg]
    ·exact f
    ·rintro⟨g1,g2⟩
     have:=((T.link p (hp0 g1).lv).first (by omega)).1.2
     rw[←g2,Int.add_sub_cancel,h]at this;cases this
 ·by_cases e:x=k
  ·subst e;rw[Av0]at h;exact absurd rfl h
  ·have hl:=((L x).1 hx).resolve_left e;rw[Atj e]at h ⊢;simp only at h ⊢;simp only[if_neg e]
   by_cases hq:p+1≠0∧x+1=(t p).fi
   ·simp only[if_pos hq,Int.add_sub_cancel,↓reduceIte];omega
   ·rw[if_neg hq]at h ⊢;rw[if_neg (hne ((T.link x hl).prev h).1)]
    have:=W x hl h;omega
 ·by_cases e:x=k
  ·subst e
   by_cases hq:p+1=0
   ·exact absurd hc (Cn hq)
   ·simp only[Av0,Int.add_sub_cancel,if_neg (hne (hp0 hq).lv),↓reduceIte];omega
  ·have hl:=((L x).1 hx).resolve_left e
   have hc:=(C x e (hno x hl)).1 hc;rw[hup x e];simp only[if_neg e,if_neg (hne hc.1)];exact U x hl hc
 ·rw[Atu hkf];exact K.nodup
 ·rw[Atu hkf,K.iff,hor]
 ·obtain⟨a,b⟩:=K.top f hf h1
  have ho:=K.or hf (A4o (N:=N) (t:=t) a);refine⟨a,?_⟩;rw[Atj (hne ho.1)];simp only;rw[if_neg]
  ·exact b
  ·rintro⟨g1,g2⟩
   have hpl:=(hp0 g1).lv;obtain⟨_,_,c3,c4⟩:=(T.link p hpl).first (by omega)
   rw[←g2,Int.add_sub_cancel]at c3 c4;exact ho.2.2 (by unfold Cu;rw[c3,c4,Int.add_sub_cancel];exact⟨hpl,rfl⟩)
 ·have hk2: ∀e∈qs,kf N (ins t k p) e.2=kf N t e.2:=fun e he=>hkf _ (Ex.2 ⟨e,he,rfl⟩);refine A65 qs [] [] hk2 (fun e he y hy=> ?_) (fun e he h1 x hx hu=> ?_) (fun x hx=>by cases hx) F.ord
  ·have hS: ∀x∈kf N t e.2,Oo N t x:=fun x hx=>K.or (Ex.2 ⟨e,he,rfl⟩) hx;rw[hk2 e he]at hy
   have hy2:Dd N t (kf N t e.2) y:=by
    induction hy with
    |base h=>exact .base h
    | @step y a b c ih=>
     by_cases q:y=k
     ·subst q
      by_cases hq:p+1=0
      ·exact absurd b (Cn hq)
      ·rw[Av0]at ih;simp only at ih;rw[Int.add_sub_cancel]at ih;exact absurd ih ((hp0 hq).noDd hS)
     ·have hl:=((L y).1 a).resolve_left q;rw[hup y q]at ih;exact .step hl ((C y q (hno y hl)).1 b) ih
   refine⟨hy2,fun x hx hu hc=> .inr ?_⟩
   by_cases q:x=k
   ·subst q
    by_cases hq:p+1=0
    ·rw[Av0]at hu;simp only at hu
     have:=Dd.in (fun x hx=>Ber hx) hy2;omega
    ·exact absurd (Ck hq) hc
   ·have hl:=((L x).1 hx).resolve_left q;rw[hup x q]at hu;exact⟨hl,hu,fun h=>hc ((C x q (hno x hl)).2 h)⟩
  ·by_cases q:x=k
   ·subst q;rw[Av0]at hu;simp only at hu
    have:=(hp0 (by omega)).lv.2
    have h3:=(F.slot e he h1).1;rw[←hu,Int.add_sub_cancel,this]at h3;cases h3
   ·have hl:=((L x).1 hx).resolve_left q;rw[hup x q]at hu;exact .inr ⟨hl,hu⟩
 ·by_cases e:x=k
  ·subst e;rw[Av0]at h ⊢;simp only at h ⊢;rw[Int.add_sub_cancel,Atj (hne (hp0 h).lv)];exact .inl (hp0 h).lv.2
  ·have hl:=((L x).1 hx).resolve_left e;rw[hup x e]at h ⊢;rw[Atj (by have:=hno x hl;omega)]
   exact F.gone x hl h
 ·by_cases e:x=k
  ·subst e;rw[Av0]at h ⊢;simp only at h ⊢
   by_cases hq:p+1=0
   ·have:=h.1.1;omega
   ·rw[if_neg hq,Int.add_sub_cancel,Atj (hne (hp0 hq).lv)];exact Int.le_refl _
  ·have hl:=((L x).1 hx).resolve_left e;rw[hup x e]at h ⊢
   have hu:=hno x hl
   have h2:=((L _).1 h).resolve_left (by omega)
   rw[Atj e,Atj (hne h2)];exact F.ep x hl h2
 ·have:=F.slot e he h1
  have q:e.1 - 1≠k:=fun q=>by rw[q]at this;rw[this.2]at hgn;cases hgn
  rw[Atj q];exact this
end
theorem sb1{x:Int}(h0: -1000000000≤x)(h1:x≤1000000000):An4 .i64 x 1=x - 1:=by unfold An4;rw[Gy (by omega) (by omega)]
theorem ad1{x:Int}(h0: -1000000000≤x)(h1:x≤1000000000):An3 .i64 x 1=x+1:=by unfold An3;rw[Gy (by omega) (by omega)]
def A22 (n:As):Lk:=⟨n.Vg==1,n.Vg==2,n.Sj,n.fUp,n.Sk,n.Ee,n.Sl,n.Sm⟩
def AtT (l:List As)(t:Int->Lk):Prop:= ∀k,0≤k∧k<(l.length:Int)->t k=A22 (gt l k)
structure Rg (l:List As):Prop where
 len:l.length≤8
 rg: ∀k,0≤k∧k<(l.length:Int)->(0≤(gt l k).fUp∧(gt l k).fUp≤l.length)∧(0≤(gt l k).Ee∧(gt l k).Ee≤l.length)∧(0≤(gt l k).Sl∧(gt l k).Sl≤l.length)∧(0≤(gt l k).Sm∧(gt l k).Sm≤l.length)
theorem Av1{l:List As}{t:Int->Lk}(A:AtT l t){k:Int}:Lv l.length t k ↔ (0≤k∧k<(l.length:Int))∧(gt l k).Vg=1:=by
 unfold Lv;constructor
 ·rintro⟨a,b⟩;rw[A _ a]at b;exact⟨a,by simpa[A22]using b⟩
 ·rintro⟨a,b⟩;rw[A _ a];exact⟨a,by simpa[A22]using b⟩
theorem Bk4{l:List As}{t:Int->Lk}(A:AtT l t)(R:Rg l): ∀(n:Nat) (k:Int),Ayp l n k=kids l.length t n k:=by
 intro n
 induction n with
 |zero=>intro k;rfl
 |succ n ih=>
  intro k;rw[Ayp,kids];split
  ·rename_i h
   have:=(R.rg k h).2.2.1
   have:=R.len;rw[A _ h,sb1 (by omega) (by omega),ih];rfl
  ·rfl
theorem A4p{l:List As}{t:Int->Lk}(A:AtT l t)(R:Rg l): ∀(n:Nat) (k:Int),Aib l n k=rise l.length t n k:=by
 intro n
 induction n with
 |zero=>intro k;rfl
 |succ n ih=>
  intro k;rw[Aib,rise];split
  ·rename_i h
   have:=(R.rg k h).1
   have:=R.len;rw[A _ h,sb1 (by omega) (by omega),ih];rfl
  ·rfl
theorem A90{l:List As}{t:Int->Lk}(A:AtT l t)(R:Rg l){f:Int}(h0:0≤f)(h1:f≤1000):Akt l f=kf l.length t f:=by
 unfold Akt kf;rw[sb1 (by omega) (by omega),Bk4 A R,Int.toNat_natCast]
theorem A4q{l:List As}{n:Int}(h0:0≤n)(h1:n≤1000):plB l n=true ↔ 0≤n - 1∧n - 1<(l.length:Int):=by
 unfold plB;rw[sb1 (by omega) (by omega),decide_eq_true_iff]
theorem A4r{l:List As}{t:Int->Lk}(A:AtT l t)(R:Rg l){k:Int}(h:0≤k∧k<(l.length:Int)):A0t l k=true ↔ Cu l.length t k:=by
 have h1:=(R.rg k h).1
 have h2:=R.len;unfold A0t Cu;rw[Z4,Z4,A4q h1.1 (by omega),beq_iff_eq,beq_iff_eq,sb1 (by omega) (by omega),A _ h]
 show _ ↔ Lv _ _ ((gt l k).fUp - 1)∧(t ((gt l k).fUp - 1)).ep=(gt l k).Sk;rw[Av1 A];constructor
 ·rintro⟨a,b,c⟩;rw[A _ a];exact⟨⟨a,b⟩,c⟩
 ·rintro⟨⟨a,b⟩,c⟩;rw[A _ a]at c;exact⟨a,b,c⟩
theorem Bbs{l:List As}{t:Int->Lk}(A:AtT l t)(R:Rg l){k:Int}(h:0≤k∧k<(l.length:Int)):Axh l k=true ↔ Oo l.length t k:=by
 unfold Axh Oo;rw[Z4,Z4,beq_iff_eq,bne_iff_ne,Z44,Av1 A,←A4r A R h,A _ h,Bool.not_eq_true];exact⟨fun⟨a,b,c⟩=>⟨⟨h,a⟩,b,c⟩,fun⟨⟨_,a⟩,b,c⟩=>⟨a,b,c⟩⟩
theorem A7a{l:List As}{t:Int->Lk}(A:AtT l t){n:Int}(h0:0≤n)(h1:n≤1000):Ar2 l n=true ↔ (n≠0->Lv l.length t (n - 1)):=by
 unfold Ar2;rw[Bool.or_eq_true,beq_iff_eq,Z4,A4q h0 h1,beq_iff_eq,Av1 A,sb1 (by omega) (by omega)]
 constructor
 ·rintro(h|h) h2
  ·exact absurd h h2
  ·exact h
 ·intro h
  by_cases e:n=0
  ·exact .inl e
  ·exact .inr (h e)
theorem Bdg{a:Int}{b:Bool}{P:Prop}(h:b=true ↔ P):(a==0||b)=true ↔ (a≠0->P):=by
 rw[Bool.or_eq_true,beq_iff_eq,h];constructor
 ·rintro(h|h) h2
  ·exact absurd h h2
  ·exact h
 ·intro h
  by_cases e:a=0
  ·exact .inl e
  ·exact .inr (h e)
theorem A8p{l:List As}{t:Int->Lk}(A:AtT l t)(R:Rg l){k:Int}(h:0≤k∧k<(l.length:Int)):A0v l k=true ↔ Bks l.length t k:=by
 obtain⟨r1,r2,r3,r4⟩:=R.rg k h
 have h2:=R.len
 have eg: ∀n,Lv l.length t n->t n=A22 (gt l n):=fun n hn=>A _ hn.1
 have ek:=A _ h;unfold A0v A3i Bge Bbb A75 A54;rw[ad1 (by omega) (by omega),sb1 (x:=(gt l k).Ee) (by omega) (by omega),sb1 (x:=(gt l k).Sl) (by omega) (by omega),sb1 (x:=(gt l k).Sm) (by omega) (by omega),sb1 (x:=(gt l k).fUp) (by omega) (by omega)]
 simp only[Z4,A7a A r2.1 (by omega:(gt l k).Ee≤1000),A7a A r3.1 (by omega:(gt l k).Sl≤1000),A7a A r4.1 (by omega:(gt l k).Sm≤1000),Bdg (A4q r1.1 (by omega:(gt l k).fUp≤1000)),Bdg Bool.and_eq_true_iff,Bdg beq_iff_eq,beq_iff_eq]
 constructor
 ·rintro⟨⟨a1,a2,a3,a4⟩,a5,a6,a7,a8⟩;refine⟨?_,?_,?_,?_,?_⟩
  ·rw[ek];intro q;have:=a1 q;rw[show(A22 (gt l k)).fi=(gt l k).Ee from rfl,eg _ this];exact⟨this,a5 q⟩
  ·rw[ek];intro q;have:=a2 q;rw[show(A22 (gt l k)).nx=(gt l k).Sl from rfl,eg _ this];exact⟨this,a6 q⟩
  ·rw[ek];intro q;have:=a3 q;rw[show(A22 (gt l k)).pv=(gt l k).Sm from rfl,eg _ this];exact⟨this,a7 q⟩
  ·rw[ek];exact a4
  ·rw[ek];intro q c
   have hc:=(A4r A R h).2 c
   have hu:=c.1;rw[ek]at hu
   have hu:Lv l.length t ((gt l k).fUp - 1):=hu;rw[show(A22 (gt l k)).up=(gt l k).fUp from rfl,eg _ hu]
   rw[show(A22 (gt l k)).pv=(gt l k).Sm from rfl]at q
   rw[q,hc]at a8
   show(gt l ((gt l k).fUp - 1)).Ee=k+1;simpa using a8
 ·intro L;obtain⟨a1,a2,a3,a4,a5⟩:=L;rw[ek]at a1 a2 a3 a4 a5;refine⟨⟨fun q=>(a1 q).1,fun q=>(a2 q).1,fun q=>(a3 q).1,a4⟩,fun q=> ?_,fun q=> ?_,fun q=> ?_,?_⟩
  ·obtain⟨b1,b2,b3,b4⟩:=a1 q;rw[eg _ b1]at b2 b3 b4;exact⟨b2,b3,b4⟩
  ·obtain⟨b1,b2,b3,b4⟩:=a2 q;rw[eg _ b1]at b2 b3 b4;exact⟨b2,b3,b4⟩
  ·obtain⟨b1,b2⟩:=a3 q;rw[eg _ b1]at b2;exact b2
  ·by_cases q:(gt l k).Sm=0
   ·cases hc:A0t l k with
    |false=>simp
    |true=>
     have c:=(A4r A R h).1 hc
     have hu:=c.1;rw[ek]at hu
     have:=a5 q c;rw[eg _ hu]at this;simp only[Bool.or_eq_true,beq_iff_eq];exact .inr this
   ·rw[Ag6 q];rfl
theorem Bk5{r:List Int}(h:r≠[]):r.getLast? =some (A5m r):=by
 unfold A5m;rw[K1 (by have:=List.length_pos_iff.2 h;omega),List.getLast?_eq_getElem?]
 exact E9 _
theorem Bk6{l:List As}{t:Int->Lk}(A:AtT l t)(R:Rg l)(hb: ∀k,0≤k∧k<(l.length:Int)->(gt l k).Vg≠1->(gt l k).fUp=0∧(gt l k).Ee=0∧(gt l k).Sl=0∧(gt l k).Sm=0):A5n l=true ↔ Avh l.length t:=by
 have key: ∀k,0≤k∧k<(l.length:Int)->(A1q l k=true ↔ (rise l.length t (l.length:Int).toNat k).length≤4∧ ∀x,(rise l.length t (l.length:Int).toNat k).getLast? =some x-> ¬Cu l.length t x):=by
  intro k h;unfold A1q
  have hne:Aib l l.length k≠[]:=fun e=>by have:=A6u h;rw[e]at this;exact absurd this (Nat.lt_irrefl _)
  have hin:=A9h h;rw[Int.toNat_natCast,←A4p A R,Z4,decide_eq_true_iff,Z44,Bk5 hne];constructor
  ·rintro⟨a,b⟩;refine⟨by omega,fun x hx hc=> ?_⟩
   rw[←Z32 hx,←A4r A R hin,b]at hc;cases hc
  ·rintro⟨a,b⟩;refine⟨by omega,?_⟩
   have:=b _ rfl;rw[←A4r A R hin]at this;simpa using this
 unfold A5n;rw[Z1];constructor
 ·intro h
  have h2: ∀k,Lv l.length t k->A0v l k=true∧A1q l k=true:=by
   intro k hk;obtain⟨a,b⟩:=(Av1 A).1 hk
   have:=h k.toNat (by simp;omega)
   rw[show((k.toNat:Nat):Int)=k by omega,b]at this
   simpa using this
  exact⟨fun k hk=>(A8p A R hk.1).1 (h2 k hk).1,fun k hk=>(key k hk.1).1 (h2 k hk).2,fun k h0 h1 hl=>by
   rw[A _ ⟨h0,h1⟩]at hl ⊢;exact hb k ⟨h0,h1⟩ (by simpa[A22]using hl)⟩
 ·intro T k hk;rw[List.mem_range]at hk
  by_cases e:(gt l (k:Int)).Vg=1
  ·have hl:=(Av1 A).2 ⟨⟨by omega,by omega⟩,e⟩
   rw[(A8p A R hl.1).2 (T.link _ hl),(key _ hl.1).2 (T.rise _ hl)];simp
  ·simp[e]
def Aqc (st gen:Int):As:=As.mk st gen 0 0 0 0 0 0 [] 0 0 [] []
structure Auc (c:D9)(n:As):Prop where
 conf:Ahl c=true
 st:n.Vg=1
 gen:1≤n.C8∧n.C8≤c.G7
 up:0≤n.fUp∧n.fUp≤c.E5
 first:0≤n.Ee∧n.Ee≤c.E5
 next:0≤n.Sl∧n.Sl≤c.E5
 prev:0≤n.Sm∧n.Sm≤c.E5
 ep:0≤n.Sj
 ue:0≤n.Sk
 dist:Atm c n.Ay=true
 cur:A4b c n=true
 nth:n.F4.length≤12
 ntag:n.Fh.length≤6
 tags:n.Fh.all (fun x=>inB x 0 255)=true
 things:n.F4.all (App c)=true
theorem Aiq{c:D9}{n:As}:Aqm c n=true∧n.Vg=1 ↔ Auc c n:=by
 unfold Aqm A6o;constructor
 ·rintro⟨h,h1⟩;rw[h1]at h;simp only[Z4,Acx,bne_self_eq_false,cond_false,Z44,decide_eq_false_iff_not,decide_eq_true_eq]at h;obtain⟨a,_,b,⟨c1,c2,c3,c4⟩,⟨d1,d2⟩,⟨e1,e2⟩,⟨f1,f2⟩,g1,g2⟩:=h;exact⟨a,h1,b,c1,c2,c3,c4,by omega,by omega,e1,e2,by omega,by omega,g1,g2⟩
 ·intro h;refine⟨?_,h.st⟩;rw[h.st];simp only[Z4,Acx,bne_self_eq_false,cond_false,Z44,decide_eq_false_iff_not,decide_eq_true_eq];exact⟨h.conf,by omega,h.gen,⟨h.up,h.first,h.next,h.prev⟩,⟨by have:=h.ep;omega,by have:=h.ue;omega⟩,⟨h.dist,h.cur⟩,⟨by have:=h.nth;omega,by have:=h.ntag;omega⟩,h.tags,h.things⟩
theorem Ayj{c:D9}{n:As}(h:Aqm c n=true)(h1:n.Vg≠1):n=Aqc n.Vg n.C8:=by
 have:=A8i h h1;unfold A4a at this;simp only[Z4,beq_iff_eq]at this;obtain⟨a1,a2,a3,a4,a5,a6,a7,a8,a9,a10,a11⟩:=this;cases n;simp only at a1 a2 a3 a4 a5 a6 a7 a8 a9 a10 a11;unfold Aqc;simp only[a1,a2,a3,a4,a5,a6,a8,a9,Y6.1 (Int.ofNat_eq_zero.1 a7),Y6.1 (Int.ofNat_eq_zero.1 a10),Y6.1 (Int.ofNat_eq_zero.1 a11)]
theorem A3m{c:D9}(hc:Ahl c=true){st gen:Int}(h0:0≤st∧st≤3)(h1:st≠1)(h2:1≤gen∧gen≤c.G7):Aqm c (Aqc st gen)=true:=by
 unfold Aqm;rw[hc]
 show(true&&(inB st 0 3&&(inB gen 1 c.G7&&(bif st != 1 then A4a (Aqc st gen)else _))))=true
 rw[Aqv h1,Acx.2 h0,Acx.2 h2];rfl
theorem A0y{c:D9}{n:As}(h:Aqm c n=true):Ahl c=true∧(0≤n.Vg∧n.Vg≤3)∧1≤n.C8∧n.C8≤c.G7:=by
 unfold Aqm at h;simp only[Z4,Acx]at h;exact⟨h.1,h.2.1,h.2.2.1⟩
theorem A34{c:D9}{n:As}(h:Aqm c n=true):(0≤n.fUp∧n.fUp≤c.E5)∧(0≤n.Ee∧n.Ee≤c.E5)∧(0≤n.Sl∧n.Sl≤c.E5)∧(0≤n.Sm∧n.Sm≤c.E5):=by
 by_cases e:n.Vg=1
 ·have:=Aiq.1 ⟨h,e⟩;exact⟨this.up,this.first,this.next,this.prev⟩
 ·rw[Ayj h e];obtain⟨_,_,b,_⟩:=A1 (A0y h).1;exact⟨⟨Int.le_refl _,by simp[Aqc];omega⟩,⟨Int.le_refl _,by simp[Aqc];omega⟩,⟨Int.le_refl _,by simp[Aqc];omega⟩,⟨Int.le_refl _,by simp[Aqc];omega⟩⟩
theorem A5v{c:D9}{n:As}(h:Aqm c n=true):Atm c n.Ay=true:=by
 by_cases e:n.Vg=1
 ·exact(Aiq.1 ⟨h,e⟩).dist
 ·rw[Ayj h e];rfl
def Awf (q:List Az):List (Int×Int):=q.map (fun x=>(x.Bk,x.Ee))
structure Inv (w:C4):Prop where
 pool:Auu w.fC w.fP=true
 len:(w.fL.length:Int)=w.fC.E5
 node: ∀k,0≤k∧k<(w.fL.length:Int)->Aqm w.fC (gt w.fL k)=true
 own: ∀k,0≤k∧k<(w.fL.length:Int)-> ∀c,c∈(gt w.fL k).Ay ↔ (0≤c∧c<w.fC.Ay)∧gt w.fP.Vg c=1∧gt w.fP.N6 c=k
 thing: ∀k,0≤k∧k<(w.fL.length:Int)->(gt w.fL k).F4.all (Arh w.fC (gt w.fL k).Ay)=true∧Aod (gt w.fL k).F4=true∧Are w.fC w.fP.N5 (gt w.fL k)=true
 forest: ∃t,AtT w.fL t∧Ai9 w.fL.length t (Awf w.fQ)
 wrec: ∀x∈w.fQ,Ala w.fC x=true∧Aop w x=true
 chn:(chL w.fQ).Nodup
 chi: ∀c,c∈chL w.fQ ↔ (0≤c∧c<w.fC.Ay)∧gt w.fP.Vg c=2
 sln:(slL w.fQ).Nodup
 sli: ∀s,s∈slL w.fQ ↔ (0≤s∧s<(w.fL.length:Int))∧(gt w.fL s).Vg=2
 log:w.Acw.all (fun x=>inB x 0 255)=true
theorem Inv.conf{w:C4}(I:Inv w):Ahl w.fC=true:=(Ate I.pool).1
theorem Inv.rg{w:C4}(I:Inv w):Rg w.fL:=by
 obtain⟨_,_,b,_⟩:=A1 I.conf
 have:=I.len;refine⟨by omega,fun k hk=> ?_⟩
 rw[I.len];exact A34 (I.node k hk)
theorem Inv.live{w:C4}(I:Inv w){t:Int->Lk}(A:AtT w.fL t){k:Int}(h:Lv w.fL.length t k):Auc w.fC (gt w.fL k):=Aiq.1 ⟨I.node k ((Av1 A).1 h).1,((Av1 A).1 h).2⟩
theorem A91{N:Nat}{l:List Int}(hn:l.Nodup){k:Nat}(hk:k<N)(h:(k:Int)∈l):(gt (Aky N l) (k:Int)==1)=true:=by
 rw[A1b (by omega) (by omega),hn.count,if_pos h];rfl
theorem Inv.chunks{w:C4}(I:Inv w){k:Int}(hk:0≤k∧k<(w.fL.length:Int)):A1a w.fP k (gt w.fL k).Ay=true:=by
 obtain⟨_,_,hst,hown,_⟩:=Ate I.pool
 have hd:=Ayu (A5v (I.node k hk))
 have hs:=(A1i w.fP k).imp (fun {a b} (h:a<b)=>Int.ne_of_lt h)
 have hm: ∀x,x∈Atf w.fP k ↔ x∈(gt w.fL k).Ay:=by
  intro x;rw[I.own k hk x];unfold Atf;rw[Awe];simp only[Z4,beq_iff_eq];constructor
  ·rintro⟨⟨a,b⟩,c⟩;rw[show((x.toNat:Nat):Int)=x by omega]at c
   exact⟨⟨a,by omega⟩,c⟩
  ·rintro⟨⟨a,b⟩,c⟩;refine⟨⟨a,by omega⟩,?_⟩
   rw[show((x.toNat:Nat):Int)=x by omega]
   exact c
 unfold A1a;rw[Z4,Z1,beq_iff_eq];refine⟨fun x hx=>List.contains_iff_mem.2 ((hm x).1 hx),?_⟩
 have h1:=Ayv (o:=Atf w.fP k) (l:=(gt w.fL k).Ay) hs (fun x hx=>(hm x).1 hx)
 have h2:=Ayv (o:=(gt w.fL k).Ay) (l:=Atf w.fP k) hd (fun x hx=>(hm x).2 hx);omega
theorem A92{q:List Az}{x:Az}(hx:x∈q){c:Int}(h:c∈x.Ay):c∈chL q:=List.mem_flatMap.2 ⟨x,hx,h⟩
theorem Beu{q:List Az}{x:Az}(hx:x∈q)(h:x.Bk≠0):An4 .i64 x.Bk 1∈slL q:=List.mem_flatMap.2 ⟨x,hx,by rw[if_neg h];simp⟩
theorem Inv.first{w:C4}(I:Inv w){x:Az}(hx:x∈w.fQ):0≤x.Ee∧x.Ee≤8:=by
 obtain⟨_,_,b,_⟩:=A1 I.conf
 have:=(Aqq (I.wrec x hx).1).2.2.1;omega
theorem Inv.qs{w:C4}{x:Az}(hx:x∈w.fQ):x.Ee∈(Awf w.fQ).map (fun e:Int×Int=>e.2):=by
 unfold Awf;rw[Dq,Ex];exact⟨x,hx,rfl⟩
theorem Inv.waste{w:C4}(I:Inv w){x:Az}(hx:x∈w.fQ):Am4 w x=true:=by
 obtain⟨b1,_,b,_⟩:=A1 I.conf;obtain⟨h1,h2⟩:=I.wrec x hx;obtain⟨_,r1,r2,r3,_⟩:=Aqq h1
 have hf:=I.first hx;obtain⟨t,A,F⟩:=I.forest;unfold Am4;simp only[Z4];refine⟨h1,?_,h2,?_,?_,?_⟩
 ·unfold A13;rw[Z1];intro c hc;rw[beq_iff_eq];exact((I.chi c).1 (A92 hx hc)).2
 ·unfold Awd
  by_cases e:x.Bk=0
  ·rw[e];rfl
  ·rw[((I.sli _).1 (Beu hx e)).2];simp
 ·unfold Ayf
  by_cases e:x.Ee=0
  ·rw[e];rfl
  ·obtain⟨a,b⟩:=F.kid.top _ (Inv.qs hx) e;rw[sb1 (by omega) (by omega)]
   rw[A _ a]at b
   have b:(gt w.fL (x.Ee - 1)).Sm=0:=b;rw[b];simp
 ·unfold Ar9;rw[Z1];intro k hk
  have hin:=A4e _ _ k hk;rw[A90 A I.rg hf.1 (by omega)]at hk
  exact(Bbs A I.rg hin).2 (F.kid.or (Inv.qs hx) hk)
theorem Bev{w:C4}(I:Inv w){t:Int->Lk}(A:AtT w.fL t):kdL w.fL w.fQ=((Awf w.fQ).map (fun e:Int×Int=>e.2)).flatMap (kf w.fL.length t):=by
 unfold kdL Awf;rw[Dq,List.flatMap_map];exact Atu fun x hx=>by
  have hf:=I.first hx;exact A90 A I.rg hf.1 (by omega)
theorem Inv.fin{w:C4}(I:Inv w):Aw9 w w.fC.Ay.toNat=true:=by
 obtain⟨_,_,hst,hown,_⟩:=Ate I.pool;obtain⟨t,A,F⟩:=I.forest;unfold Aw9;rw[Z4,Z1,Z1];refine⟨fun k hk=> ?_,fun k hk=> ?_⟩
 ·rw[List.mem_range]at hk;cases e:(gt w.fP.Vg (k:Int)==2)with
  |false=>rfl
  |true=>exact A91 I.chn (by omega) ((I.chi _).2 ⟨⟨by omega,by omega⟩,by simpa using e⟩)
 ·rw[List.mem_range]at hk;rw[Z4];constructor
  ·cases e:((gt w.fL (k:Int)).Vg==2)with
   |false=>rfl
   |true=>exact A91 I.sln hk ((I.sli _).2 ⟨⟨by omega,by omega⟩,by simpa using e⟩)
  ·cases e:Axh w.fL (k:Int)with
   |false=>rfl
   |true=>
    refine A91 (by rw[Bev I A];exact F.kid.nodup) hk ?_
    rw[Bev I A,F.kid.iff];exact(Bbs A I.rg ⟨by omega,by omega⟩).1 e
theorem Inv.ok{w:C4}(I:Inv w):A48 w=true:=by
 obtain⟨t,A,F⟩:=I.forest;unfold A48;simp only[Z4,beq_iff_eq];refine⟨I.pool,I.len,?_,?_,⟨?_,I.fin⟩,I.log⟩
 ·rw[Z1];intro k hk;rw[List.mem_range]at hk
  have hk2:0≤(k:Int)∧(k:Int)<(w.fL.length:Int):=⟨by omega,by omega⟩
  obtain⟨t1,t2,t3⟩:=I.thing k hk2;unfold A5l;rw[I.node k hk2,I.chunks hk2,t1,t2,t3];rfl
 ·refine(Bk6 A I.rg fun k hk h=> ?_).2 F.tree;rw[Ayj (I.node k hk) h];exact⟨rfl,rfl,rfl,rfl⟩
 ·rw[Z1];exact fun x hx=>I.waste hx
end Go.Proofs.YtcdojenmonmcfaaGreat
