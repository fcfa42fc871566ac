/- The plain law for FnWorlds; no condition. -/
import Derived.Test.YtgcnddnmhllahaaGreatFFnWorldsTa
import Derived.Test.YtgcnddnmhllahaaGreatFFnWorldsW
set_option linter.all false
namespace Go.Proofs.YtgcnddnmhllahaaGreat
open Go.Eng Go.ChangeShapes Go.WideShapes Go.ChangeAt Go.RowKit
theorem Wx{i:Nat}(h:i≤140737488355328):Arj .i64 (i:Int) 1=((i+1:Nat):Int):=by
 grind [Arj,IntKind.wrap_i64]
theorem V2{α:Type}[Inhabited α]{l:List α}{i:Nat}(h:i<l.length):gt l (i:Int)=l[i]:=by
 grind [gt]
theorem Al6{α:Type}[Inhabited α]{l:List α}{i:Nat}(h:i<l.length):gt l (i:Int)∈l:=by
 grind [V2]
theorem Apa{α:Type}[Inhabited α]{l:List α}{i:Int}(h0:0≤i)(h:i<l.length):gt l i∈l:=by
 obtain⟨k,rfl⟩: ∃k:Nat,i=k:=⟨i.toNat,by omega⟩
 grind [Al6]
theorem Wy{i k:Nat}(h:i<k):decide ((i:Int)<(k:Int))=true:=by grind
theorem Aqt{i k:Nat}(h:k≤i):decide ((i:Int)<(k:Int))=false:=by grind
theorem Bo7 (a:List Int)(ha:a.length≤140737488355328)
  (L:Nat->Int->Option Bool) (hL: ∀n i,L (n+1) i=bif decide (i<(a.length:Int))then(if(0:Int)≤i∧i<(a.length:Int)then(if(0:Int)≤i∧i<(a.length:Int)then(bif (gt a i != gt a i)then some false else L n (Arj .i64 i 1))else none)else none)else some true):
  ∀(n i:Nat),i≤a.length->a.length - i<n->L n (i:Int)=some true:=by
 intro n
 induction n with
 |zero=>omega
 |succ n ih=>
  intro i hi hn;rw[hL];rcases Hw i a.length with h|h
  ·rw[Wy h];simp only[cond_true];rw[if_pos ⟨by omega,by omega⟩,if_pos ⟨by omega,by omega⟩,Wx (by omega)]
   simp only[bne_self_eq_false,cond_false];exact ih (i+1) h (by omega)
  ·rw[Aqt h];rfl
theorem Gy{n:Int}(h0: -9223372036854775808≤n)(h1:n≤9223372036854775807):IntKind.i64.wrap n=n:=by rw[IntKind.wrap_i64];omega
theorem Bo8 (n:Int): -9223372036854775808≤IntKind.i64.wrap n∧IntKind.i64.wrap n≤9223372036854775807:=by rw[IntKind.wrap_i64];omega
theorem A2d{a b:Int}(h: ¬a=b):(a != b)=true:=by simpa using h
theorem As5{a b:Int}(h: ¬a=b):(a==b)=false:=by simpa using h
def inB (x a b:Int):Bool:=decide (a≤x∧x≤b)
theorem Abx{x a b:Int}:inB x a b=true ↔ a≤x∧x≤b:=by unfold inB;exact decide_eq_true_iff
theorem Bcp{x a b:Int}:inB x a b=false ↔ ¬(a≤x∧x≤b):=by unfold inB;exact decide_eq_false_iff_not
theorem Axd (b:Bool)(x:Bool):(bif b then some x else some false)=some (b&&x):=by cases b<;>rfl
theorem Bo9 (b:Bool)(x:Bool):(bif b then some false else some x)=some (!b&&x):=by cases b<;>rfl
theorem A3z (b:Bool)(x:Bool):(bif b then some true else some x)=some (b||x):=by cases b<;>rfl
theorem Agx{α:Type}(b:Bool)(x y:α):(bif !b then x else y)=(bif b then y else x):=by cases b<;>rfl
theorem Agy{i n:Nat}(h:i<n):((0:Int)≤(i:Int)∧(i:Int)<(n:Int)):=⟨by omega,by omega⟩
theorem Bx5{α:Type}(l:List α)(q:α->Bool)(fin:Option Bool)(L:Nat->Int->Option Bool)
  (hs: ∀n (i:Nat) (h:i<l.length),L (n+1) (i:Int)=bif q l[i]then L n ((i+1:Nat):Int)else some false)
  (he: ∀n,L (n+1) (l.length:Int)=fin):
  ∀(n i:Nat),i≤l.length->l.length - i<n->L n (i:Int)=bif (l.drop i).all q then fin else some false:=by
 intro n
 induction n with
 |zero=>omega
 |succ n ih=>
  intro i hi hn;rcases Hw i l.length with h|h
  ·rw[hs n i h,Z47 h,Gp];cases q l[i]with
   |false=>rfl
   |true=>grind
  grind
theorem Av1{α:Type}{K:Nat}(hK:281474976710656≤K)(l:List α)(hl:l.length≤140737488355328)(q:α->Bool)(fin:Option Bool)(L:Nat->Int->Option Bool)
  (hs: ∀n (i:Nat) (h:i<l.length),L (n+1) (i:Int)=bif q l[i]then L n ((i+1:Nat):Int)else some false)
  (he: ∀n,L (n+1) (l.length:Int)=fin):L K 0=bif l.all q then fin else some false:=by
 have:=Bx5 l q fin L hs he K 0 (Z21 _) (by omega)
 simpa using this
theorem Ast{K:Nat}(hK:281474976710656≤K)(N:Nat)(hl:N≤140737488355328)(q:Nat->Bool)(fin:Option Bool)(L:Nat->Int->Option Bool)
  (hs: ∀n (i:Nat) (h:i<N),L (n+1) (i:Int)=bif q i then L n ((i+1:Nat):Int)else some false)
  (he: ∀n,L (n+1) (N:Int)=fin):L K 0=bif (List.range N).all q then fin else some false:=by
 refine Av1 hK (List.range N) (by simpa using hl) q fin L (fun n i h=> ?_) (fun n=> ?_)
 ·rw[List.getElem_range];exact hs n i (by simpa using h)
 ·rw[List.length_range];exact he n
theorem Bpa{α:Type}(l:List α)(q:α->Bool)(L:Nat->Int->Int->Option Int)
  (hs: ∀n (i:Nat) (h:i<l.length),L (n+1) (l.length:Int) (i:Int)=bif q l[i]then some (i:Int)else L n (l.length:Int) ((i+1:Nat):Int))
  (he: ∀n,L (n+1) (l.length:Int) (l.length:Int)=some (-1)):
  ∀(n i:Nat),i≤l.length->l.length - i<n-> ∃r,L n (l.length:Int) (i:Int)=some r∧decide (r≥0)=(l.drop i).any q:=by
 intro n
 induction n with
 |zero=>omega
 |succ n ih=>
  intro i hi hn;rcases Hw i l.length with h|h
  ·rw[hs n i h,Z47 h,List.any_cons]
   grind
  ·obtain rfl:i=l.length:=by omega
   exact⟨_,he n,by simp⟩
theorem A6o{α:Type}[Inhabited α]{K:Nat}(hK:281474976710656≤K)(l:List α)(hl:l.length≤140737488355328)(f:α->Option Bool)(q:α->Bool)(hf: ∀x∈l,f x=some (q x))(L:Nat->Int->Int->Option Int)
  (hL: ∀n N i,L (n+1) N i=bif decide (i<N)then(if(0:Int)≤i∧i<(l.length:Int)then(f (gt l i)).bind (fun r=>bif r then some i else L n N (Arj .i64 i 1))else none)else some (-1)):
  ((L K (l.length:Int) 0).bind fun r=>some (decide (r≥0)))=some (l.any q):=by
 obtain⟨r,h1,h2⟩:=Bpa l q L (fun n i h=>by
  rw[hL,Wy h,cond_true,if_pos (Agy h),hf _ (Al6 h),V2 h,Z0,Wx (by omega)]) (fun n=>by rw[hL,Aqt (Z9 _),cond_false]) K 0 (Z21 _) (by omega)
 rw[show((0:Nat):Int)=0 from rfl]at h1
 rw[h1,Z0,h2,Z55]
theorem A52{K:Nat}(hK:281474976710656≤K)(l:List Int)(x:Int)(hl:l.length≤140737488355328):Api K l x=some (l.contains x):=by
 unfold Api A0y;obtain⟨r,h1,h2⟩:=Bpa l (fun y=>x==y) (Aq5 K l x) (fun n i h=>by
  rw[Aq5,Wy h,cond_true,if_pos (Agy h),V2 h,Wx (by omega)]) (fun n=>by simp_all[Aq5]) K 0 (Z21 _) (by omega)
 grind
theorem A30{K:Nat}(hK:281474976710656≤K)(l:List Int)(x:Int)(hl:l.length≤140737488355328):Atg K l x=some (l.contains x):=by
 unfold Atg
 have h: ∀(n i:Nat),i≤l.length->l.length - i<n->Ayn K l x n (i:Int)=some ((l.drop i).contains x):=by
  intro n
  induction n with
  |zero=>omega
  |succ n ih=>
   intro i hi hn;rw[Ayn];rcases Hw i l.length with h|h
   ·rw[Wy h,cond_true,if_pos (Agy h),V2 h,Wx (by omega),ih (i+1) h (by omega),Z47 h,List.contains_cons,A3z,Bool.beq_comm]
   grind
 have:=h K 0 (Z21 _) (by omega)
 grind
theorem Aok (K:Nat)(x a b:Int):Bd K x a b=some (inB x a b):=by
 unfold Bd inB
 grind
theorem Azl (K:Nat)(x a b:Int):V1 K x a b=some (inB x a b):=Aok K x a b
def Agz (c:Fc):Bool:=inB c.Ad 2 12&&(inB c.Ds 8 16&&(inB c.B9 2 8&&(inB c.Eu 1 8&&(inB c.Ca 1 16&&inB c.Dt 1 4))))
theorem Atm (K:Nat)(c):Aql K c=some (Agz c):=by
 simp_all[Aql,Aok,Axd,Agz]
theorem Aw5 (K:Nat)(c):Aqk K c=some (Agz c):=Atm K c
theorem A1{c:Fc}(h:Agz c=true):(2≤c.Ad∧c.Ad≤12)∧(8≤c.Ds∧c.Ds≤16)∧(2≤c.B9∧c.B9≤8)∧(1≤c.Eu∧c.Eu≤8)∧(1≤c.Ca∧c.Ca≤16)∧(1≤c.Dt∧c.Dt≤4):=by
 simp_all[Agz,Abx]
def Alp (c:Fc):Int:=bif Agz c then c.Ad*c.Ds else 0
theorem Axe{a b m n:Int}(h1:0≤a)(h2:a≤m)(h3:0≤b)(h4:b≤n):0≤a*b∧a*b≤m*n:=
 ⟨Int.mul_nonneg h1 h3,Int.mul_le_mul h2 h4 h3 (by omega)⟩
theorem Axf (K:Nat)(c):Auu K c=some (Alp c):=by
 unfold Auu Alp;rw[Atm,Z0,Agx];cases h:Agz c with
 |false=>rfl
 |true=>
  obtain⟨h1,h2,_⟩:=A1 h
  have:=Axe (a:=c.Ad) (b:=c.Ds) (m:=12) (n:=16) (by omega) h1.2 (by omega) h2.2
  simp only[cond_true,Arl]
  grind [Gy]
theorem A3r (K:Nat)(c):Ayh K c=some (Alp c):=Axf K c
theorem A31 (c:Fc):0≤Alp c∧Alp c≤192:=by
 unfold Alp;cases h:Agz c with
 |false=>simp
 |true=>
  obtain⟨h1,h2,_⟩:=A1 h
  have:=Axe (a:=c.Ad) (b:=c.Ds) (m:=12) (n:=16) (by omega) h1.2 (by omega) h2.2
  grind
section
variable {K:Nat} (hK:281474976710656≤K)
include hK
def Atn (l:List Int):Bool:=l.all (fun x=>x==0)
theorem A20 (l:List Int)(hl:l.length≤140737488355328):Auk K l=some (Atn l):=by
 unfold Auk;rw[Av1 hK l hl (fun x=>x==0) (some true) (Avc K l) (fun n i h=>by
  rw[Avc,Wy h,cond_true,if_pos (Agy h),V2 h,Wx (by omega)]
  grind) (fun n=>by simp_all[Avc])]
 grind [Atn]
theorem A53 (l:List Int)(hl:l.length≤140737488355328):Ax2 K l=some (Atn l):=by
 unfold Ax2 Alo Aoh;rw[A6o hK l hl (A29 K) (fun x=>x != 0) (fun x _=>rfl) (Ahx K l) (fun n N i=>rfl)]
 simp_all[Atn,List.not_any_eq_all_not,bne]
end
def Aw6 (a b:Int):Int:=bif inB a 0 1000000000&&inB b 1 1000000000 then(a+b - 1) / b else 0
theorem A3s (K:Nat)(a b:Int):A1j K a b=some (Aw6 a b):=by
 unfold A1j Aw6;rw[Aok,Aok,Z0];cases h1:inB a 0 1000000000 with
 |false=>rfl
 |true=>
  cases h2:inB b 1 1000000000 with
  |false=>rfl
  |true=>
   rw[Abx]at h1 h2;simp only[Z0,cond_true,Bool.not_true,cond_false,Bool.and_self];rw[if_pos (by omega)]
   unfold Aow Ark Arj;rw[Gy (n:=a+b) (by omega) (by omega),Gy (n:=a+b - 1) (by omega) (by omega)]
   rw[Int.tdiv_eq_ediv_of_nonneg (by omega)]
   have h3:(a+b - 1) / b≤a+b - 1:=Int.ediv_le_self _ (by omega)
   have h4:0≤(a+b - 1) / b:=Int.ediv_nonneg (by omega) (by omega)
   grind [Gy]
def Ayx (c:Fc)(mem:List Int)(k:Int):List Int:=(mem.drop (k*c.Ds).toNat).take c.Ds.toNat
def A4i (c:Fc)(p:Ed)(k:Nat):Bool:=
 inB (gt p.Gt k) 0 2&&((bif gt p.Gt k==1 then inB (gt p.Fj k) 0 (c.B9 - 1)else gt p.Fj k== -1)&&(bif gt p.Gt k==0 then Atn (Ayx c p.Fi k)else true))
def Aw7 (c:Fc)(p:Ed):Bool:=
 Agz c&&((p.Fi.length:Int)==Alp c&&((p.Gt.length:Int)==c.Ad&&((p.Fj.length:Int)==c.Ad&&(List.range c.Ad.toNat).all (A4i c p))))
theorem Aut{c:Fc}{p:Ed}(h:Aw7 c p=true):Agz c=true∧(p.Fi.length:Int)=c.Ad*c.Ds∧(p.Gt.length:Int)=c.Ad∧(p.Fj.length:Int)=c.Ad∧ ∀k,k<c.Ad.toNat->A4i c p k=true:=by
 simp_all[Aw7,Alp]
theorem A32{c:Fc}(hc:Agz c=true){mem:List Int}(hm:(mem.length:Int)=c.Ad*c.Ds){k:Int}(h0:0≤k)(h1:k<c.Ad):
  Arl .i64 k c.Ds=k*c.Ds∧Arl .i64 (Arj .i64 k 1) c.Ds=k*c.Ds+c.Ds∧0≤k*c.Ds∧k*c.Ds+c.Ds≤(mem.length:Int):=by
 obtain⟨b1,b2,_⟩:=A1 hc
 have m1:=Axe (a:=k) (b:=c.Ds) (m:=12) (n:=16) h0 (by omega) (by omega) b2.2
 have e2:(k+1)*c.Ds=k*c.Ds+c.Ds:=by grind
 have m2:(k+1)*c.Ds≤c.Ad*c.Ds:=Int.mul_le_mul_of_nonneg_right (by omega) (by omega)
 rw[e2]at m2;refine⟨?_,?_,m1.1,by omega⟩
 all_goals grind [Arl,Gy,Arj]
section
variable {K:Nat} (hK:281474976710656≤K)
include hK
theorem A90{c:Fc}(hc:Agz c=true){p:Ed}(hm:(p.Fi.length:Int)=c.Ad*c.Ds){k:Int}(h0:0≤k)(h1:k<c.Ad):Avq K p c k=some (Ayx c p.Fi k):=by
 obtain⟨e1,e2,e3,e4⟩:=A32 hc hm h0 h1;obtain⟨b1,b2,_⟩:=A1 hc;unfold Avq;rw[e1,e2,if_pos ⟨e3,by omega,e4⟩]
 unfold Ayx
 grind
theorem A54 (c:Fc)(p:Ed):Azx K c p=some (Aw7 c p):=by
 unfold Azx;rw[Atm,Axf];simp only[Z0];cases hc:Agz c with
 |false=>simp[Aw7,hc]
 |true=>
 obtain⟨b1,b2,b3,_⟩:=A1 hc
 have hby:Alp c=c.Ad*c.Ds:=by rw[Alp,hc];rfl
 simp only[cond_true,Aw7,hc,Z30,bne];cases h1:(p.Fi.length:Int)==Alp c with
 |false=>rfl
 |true=>
 cases h2:(p.Gt.length:Int)==c.Ad with
 |false=>rfl
 |true=>
 cases h3:(p.Fj.length:Int)==c.Ad with
 |false=>rfl
 |true=>
 rw[beq_iff_eq]at h1 h2 h3
 have hN:((c.Ad.toNat:Nat):Int)=c.Ad:=by omega
 simp only[Bool.not_true,cond_false,Z30];rw[Ast hK c.Ad.toNat (by omega) (A4i c p) (some true) (fun n i=>Aoc K c n i p.Fi p.Gt p.Fj) (fun n i h=> ?_) (fun n=> ?_)]
 ·grind
 ·obtain⟨e1,e2,e3,e4⟩:=A32 hc (h1.trans hby) (k:=(i:Int)) (by omega) (by omega)
  have hl:(List.take (i*c.Ds+c.Ds - i*c.Ds).toNat (List.drop (i*c.Ds).toNat p.Fi)).length≤140737488355327:=by grind
  have hs:Ark .i64 c.B9 1=c.B9 - 1:=by grind [Ark,Gy]
  have hck:List.take (i*c.Ds+c.Ds - i*c.Ds).toNat (List.drop (i*c.Ds).toNat p.Fi)=Ayx c p.Fi i:=by
   unfold Ayx;grind
  simp only[Aoc,Avd,A0a];rw[e1,e2,Wx (by omega),decide_eq_true (show(i:Int)<c.Ad by omega),cond_true,if_pos ⟨by omega,by omega⟩,Aok,Aok,hs,A20 hK _ (by omega),hck]
  simp only[Z0,bne,show((0:Int)≤(i:Int)∧(i:Int)<(p.Gt.length:Int))=True from eq_true ⟨by omega,by omega⟩,show((0:Int)≤(i:Int)∧(i:Int)<(p.Fj.length:Int))=True from eq_true ⟨by omega,by omega⟩,if_true,if_pos (show(0:Int)≤i*c.Ds∧(i:Int)*c.Ds≤i*c.Ds+c.Ds∧(i:Int)*c.Ds+c.Ds≤(p.Fi.length:Int) from⟨e3,by omega,e4⟩)]
  unfold A4i
  grind
 ·show Aoc K c (n+1) _ _ _ _=_
  simp_all[Aoc]
theorem Bem (c:Fc)(p:Ed):A2v K c p=some (Aw7 c p):=by
 unfold A2v;rw[Aw5,A3r];simp only[Z0];cases hc:Agz c with
 |false=>simp[Aw7,hc]
 |true=>
 obtain⟨b1,b2,b3,_⟩:=A1 hc
 have hby:Alp c=c.Ad*c.Ds:=by rw[Alp,hc];rfl
 simp only[cond_true,Aw7,hc,Z30,bne];cases h1:(p.Fi.length:Int)==Alp c with
 |false=>rfl
 |true=>
 cases h2:(p.Gt.length:Int)==c.Ad with
 |false=>rfl
 |true=>
 cases h3:(p.Fj.length:Int)==c.Ad with
 |false=>rfl
 |true=>
 rw[beq_iff_eq]at h1 h2 h3
 have hN:((c.Ad.toNat:Nat):Int)=c.Ad:=by omega
 simp only[Bool.not_true,cond_false,Z30];rw[Ast hK c.Ad.toNat (by omega) (A4i c p) (some true) (fun n i=>Akm K c n p.Gt (p.Gt.length:Int) i p.Fi p.Gt p.Fj) (fun n i h=> ?_) (fun n=> ?_)]
 ·grind
 ·have hs:Ark .i64 c.B9 1=c.B9 - 1:=by grind [Ark,Gy]
  have hl:(Ayx c p.Fi i).length≤140737488355327:=by grind [Ayx]
  simp only[Akm,At6,A0m];rw[A90 hK hc (h1.trans hby) (by omega) (by omega),Wx (by omega),decide_eq_true (show(i:Int)<(p.Gt.length:Int)by omega),cond_true,if_pos ⟨by omega,by omega⟩,Azl,Azl,hs]
  simp only[Z0,A53 hK _ (show(Ayx c p.Fi i).length≤140737488355328 by omega),bne,show((0:Int)≤(i:Int)∧(i:Int)<(p.Fj.length:Int))=True from eq_true ⟨by omega,by omega⟩,if_true]
  unfold A4i
  grind
 ·show Akm K c (n+1) _ _ _ _ _ _=_
  simp_all[Akm]
end
def A0u (c:Fc)(t:Bl):Prop:=Agz c=true∧1≤t.Xu∧0≤t.fAt∧t.fAt+t.Xu≤Alp c
instance (c t):Decidable (A0u c t):=by unfold A0u;infer_instance
def As2 (c:Fc)(t:Bl):Bool:=
 decide (A0u c t)&&(bif t.Xv==0 then decide (t.Xu≤c.Ds)&&(t.fAt / c.Ds==(t.fAt+t.Xu - 1) / c.Ds)else decide (t.Xu>c.Ds)&&(t.Xv==Aw6 t.Xu c.Ds&&t.fAt % c.Ds==0))
theorem A91 (K:Nat){c:Fc}{t:Bl}(h:A0u c t):
  (bif (t.Xv==0)then(bif (decide (t.Xu≤c.Ds))then(if c.Ds≠(0:Int)then(if c.Ds≠(0:Int)then some ((Aow .i64 t.fAt c.Ds)==(Aow .i64 (Ark .i64 (Arj .i64 t.fAt t.Xu) 1) c.Ds))else none)else none)else some false)else((Arf K c t.Xu).bind fun r2=>(bif r2 then((Aof K c t.Xu).bind fun r3=>(bif (t.Xv==r3)then(if c.Ds≠(0:Int)then some ((Int.tmod t.fAt c.Ds)==0)else none)else some false))else some false)))=some (As2 c t):=by
 have hd:decide (A0u c t)=true:=decide_eq_true h;obtain⟨hc,h1,h2,h3⟩:=h
 have hb:=A31 c;obtain⟨b1,b2,_⟩:=A1 hc;unfold As2 Arf Aof;rw[hd,if_pos (by omega),if_pos (by omega),A3s]
 have e1:Ark .i64 (Arj .i64 t.fAt t.Xu) 1=t.fAt+t.Xu - 1:=by
  unfold Ark Arj;rw[Gy (n:=t.fAt+t.Xu) (by omega) (by omega),Gy (by omega) (by omega)]
 have e2: ∀x:Int,0≤x->x≤192->Aow .i64 x c.Ds=x / c.Ds:=by
  intro x h0 hx;unfold Aow;rw[Int.tdiv_eq_ediv_of_nonneg h0]
  have h3:x / c.Ds≤x:=Int.ediv_le_self _ h0
  have h4:0≤x / c.Ds:=Int.ediv_nonneg h0 (by omega)
  grind [Gy]
 grind
theorem Ben{c:Fc}{t:Bl}(h: ¬A0u c t):As2 c t=false:=by
 grind [As2]
theorem A7r (K:Nat)(c:Fc)(t:Bl):Awg K c t=some (As2 c t):=by
 have hb:=A31 c
 by_cases h:A0u c t
 ·rw[←A91 K h];obtain⟨hc,h1,h2,h3⟩:=h;unfold Awg;rw[Axf,Z0,As5 (by omega),decide_eq_false (by omega),decide_eq_false (by omega),decide_eq_false (by omega)]
  unfold Ark;rw[Gy (by omega) (by omega),decide_eq_false (show ¬t.Xu>Alp c - t.fAt by omega)]
  rfl
 ·rw[Ben h];unfold Awg;rw[Axf,Z0]
  by_cases g0:Alp c=0
  ·grind
  ·have hc:Agz c=true:=by
    grind [Alp]
   rw[As5 g0,cond_false]
   by_cases g1:t.Xu<1
   ·grind
   ·by_cases g2:t.fAt<0
    ·grind
    ·by_cases g3:t.fAt>Alp c
     ·grind
     ·rw[decide_eq_false g1,decide_eq_false g2,decide_eq_false g3];unfold Ark;rw[Gy (by omega) (by omega),decide_eq_true (show t.Xu>Alp c - t.fAt from ?_)]
      ·rfl
      ·refine Classical.byContradiction fun g4=>h ⟨hc,by omega,by omega,by omega⟩
theorem A7s (K:Nat)(c:Fc)(t:Bl):Awt K c t=some (As2 c t):=by
 have hb:=A31 c
 by_cases h:A0u c t
 ·rw[←A91 K h];obtain⟨hc,h1,h2,h3⟩:=h;unfold Awt;rw[A3r,Z0,decide_eq_false (by omega),decide_eq_false (by omega),decide_eq_false (by omega)]
  unfold Ark;rw[Gy (by omega) (by omega),decide_eq_false (show ¬t.fAt>Alp c - t.Xu by omega)]
  rfl
 ·rw[Ben h];unfold Awt;rw[A3r,Z0]
  by_cases g1:t.Xu≤0
  ·grind
  ·by_cases g2:t.fAt<0
   ·grind
   ·by_cases g3:t.Xu>Alp c
    ·grind
    ·rw[decide_eq_false g1,decide_eq_false g2,decide_eq_false g3]
     have hc:Agz c=true:=by
      cases hc:Agz c with
      |true=>rfl
      |false=>simp_all[Alp]
     unfold Ark;rw[Gy (by omega) (by omega),decide_eq_true (show t.fAt>Alp c - t.Xu from ?_)]
     ·rfl
     ·refine Classical.byContradiction fun g4=>h ⟨hc,by omega,by omega,by omega⟩
theorem A7b{α:Type}(l:List α)(i:Nat):(l.drop (0:Int).toNat).take ((i:Int) - 0).toNat=l.take i:=by simp
theorem Beo{i n:Nat}(h:i≤n):((0:Int)≤0∧(0:Int)≤(i:Int)∧(i:Int)≤(n:Int)):=by grind
def Axw (c:Fc)(l:List Int):Bool:=(List.range l.length).all (fun i=>inB (gt l i) 0 (c.Ad - 1)&& !(l.take i).contains (gt l i))
def A7t (n:Ax):Bool:=
 n.Mu==0&&(n.fUp==0&&(n.Gu==0&&(n.Bw==0&&(n.Gv==0&&(n.Gw==0&&((n.Ad.length:Int)==0&&(n.M7==0&&(n.Gz==0&&((n.D3.length:Int)==0&&(n.De.length:Int)==0)))))))))
theorem Bkf (K:Nat)(n):A4f K n=some (A7t n):=by
 grind [A4f,A7t]
theorem Bkg{K:Nat}(hK:1≤K)(l:List Int):Ab0 K l []=some ((l.length:Int)==0):=by
 obtain⟨k,rfl⟩: ∃k,K=k+1:=⟨K - 1,by omega⟩
 cases l with
 |nil=>rfl
 |cons x l=>rfl
theorem Bgz{K:Nat}(hK:1≤K)(l:List Bl):Aom K l []=some ((l.length:Int)==0):=by
 obtain⟨k,rfl⟩: ∃k,K=k+1:=⟨K - 1,by omega⟩
 cases l with
 |nil=>rfl
 |cons x l=>rfl
theorem Bkh{K:Nat}(hK:1≤K)(n):A4h K n=some (A7t n):=by
 simp_all[A4h,At7,Axd,A7t,Bkg,Bgz]
def A7u (c:Fc)(n:Ax):Bool:=bif n.M7==0 then n.Gz==0 else n.Ad.contains (Ark .i64 n.M7 1)&&inB n.Gz 0 c.Ds
def A92 (c:Fc)(n:Ax):Bool:=
 (inB n.fUp 0 c.B9&&(inB n.Bw 0 c.B9&&(inB n.Gv 0 c.B9&&inB n.Gw 0 c.B9)))&&((!decide (n.Mu<0)&& !decide (n.Gu<0))&&((Axw c n.Ad&&A7u c n)&&((decide ((n.D3.length:Int)≤12)&&decide ((n.De.length:Int)≤6))&&(n.De.all (fun x=>inB x 0 255)&&n.D3.all (As2 c)))))
def Aua (c:Fc)(n:Ax):Bool:=Agz c&&(inB n.Gt 0 3&&(inB n.C5 1 c.Dt&&(bif n.Gt != 1 then A7t n else A92 c n)))
section
variable {K:Nat} (hK:281474976710656≤K)
include hK
theorem A07{c:Fc}(hc:Agz c=true):Ark .i64 c.Ad 1=c.Ad - 1:=by
 obtain⟨b1,_⟩:=A1 hc
 grind [Ark,Gy]
theorem A64{c:Fc}(hc:Agz c=true)(l:List Int)(hl:l.length≤140737488355327):Axu K c l=some (Axw c l):=by
 unfold Axu;rw[Ast hK l.length (by omega) (fun i=>inB (gt l i) 0 (c.Ad - 1)&& !(l.take i).contains (gt l i)) (some true) (fun n i=>Asn K c l n l (l.length:Int) i) (fun n i h=> ?_) (fun n=> ?_)]
 ·grind [Axw]
 ·have hp:(l.take i).length≤140737488355328:=by grind
  simp only[Asn];rw[Wy h,cond_true,if_pos (Agy h),Azl,if_pos (Beo (by omega)),A7b,A52 hK _ _ hp,Wx (by omega),A07 hK hc]
  grind
 ·show Asn K c l (n+1) _ _ _=_
  simp_all[Asn]
theorem Bbc{c:Fc}(hc:Agz c=true)(n:Ax)(hl:n.Ad.length≤140737488355327):A0c K c n=some (Axw c n.Ad&&A7u c n):=by
 unfold A0c;rw[Ast hK n.Ad.length (by omega) (fun i=>inB (gt n.Ad i) 0 (c.Ad - 1)&& !(n.Ad.take i).contains (gt n.Ad i)) (some (A7u c n)) (fun k i=>Ard K c k i n.Gt n.C5 n.Mu n.fUp n.Gu n.Bw n.Gv n.Gw n.Ad n.M7 n.Gz n.D3 n.De) (fun k i h=> ?_) (fun k=> ?_)]
 ·rw[Axd];rfl
 ·have hp:(n.Ad.take i).length≤140737488355328:=by grind
  simp only[Ard];rw[Wy h,cond_true,if_pos (Agy h),Aok,if_pos (Beo (by omega)),A7b,A30 hK _ _ hp,Wx (by omega),A07 hK hc]
  grind
 ·show Ard K c (k+1) _ _ _ _ _ _ _ _ _ _ _ _ _ _=_;rw[Ard,Aqt (Z9 _),cond_false,A30 hK _ _ (by omega),Aok]
  unfold A7u
  grind
theorem A4u (l:List Int)(hl:l.length≤140737488355328):Avh K l=some (l.all (fun x=>inB x 0 255)):=by
 unfold Avh Akw An5;rw[A6o hK l hl (Ayd K) (fun x=> !inB x 0 255) (fun x _=>by simp[Ayd,Azl]) (Ahh K l) (fun n N i=>rfl)]
 grind
theorem Ayy (c:Fc)(n:Ax)(h1:n.Ad.length≤140737488355327)(h2:n.D3.length≤140737488355327)(h3:n.De.length≤140737488355327):Ath K c n=some (Aua c n):=by
 unfold Ath;rw[Atm,Bkf];simp only[Z0,Aok];cases hc:Agz c with
 |false=>simp[Aua,hc]
 |true=>
 rw[Bbc hK hc n h1]
 have hA:At1 K n.De K 0=some (n.De.all (fun x=>inB x 0 255)):=by
  rw[Av1 hK n.De (by omega) (fun x=>inB x 0 255) (some true) (At1 K n.De) (fun k i h=> ?_) (fun k=> ?_)]
  ·grind
  ·rw[At1,Wy h,cond_true,if_pos (Agy h),V2 h,Aok,Wx (by omega),Z0,Agx]
  simp_all[At1]
 have hB:Asx K c K 0 n.Gt n.C5 n.Mu n.fUp n.Gu n.Bw n.Gv n.Gw n.Ad n.M7 n.Gz n.D3 n.De=some (n.De.all (fun x=>inB x 0 255)&&n.D3.all (As2 c)):=by
  rw[Av1 hK n.D3 (by omega) (As2 c) (some (n.De.all (fun x=>inB x 0 255))) (fun k i=>Asx K c k i n.Gt n.C5 n.Mu n.fUp n.Gu n.Bw n.Gv n.Gw n.Ad n.M7 n.Gz n.D3 n.De) (fun k i h=> ?_) (fun k=> ?_)]
  ·grind
  ·simp only[Asx];rw[Wy h,cond_true,if_pos (Agy h),V2 h,A7r,Wx (by omega),Z0,Agx]
  ·show Asx K c (k+1) _ _ _ _ _ _ _ _ _ _ _ _ _ _=_
   simp_all[Asx]
 rw[hB]
 have e12:decide ((n.D3.length:Int)>12)= !decide ((n.D3.length:Int)≤12):=by grind
 have e6:decide ((n.De.length:Int)>6)= !decide ((n.De.length:Int)≤6):=by grind
 simp only[Z0,cond_true,e12,e6,Agx,Axd,Bo9];unfold Aua A92
 grind
theorem Bep (c:Fc)(n:Ax)(h1:n.Ad.length≤140737488355327)(h2:n.D3.length≤140737488355327)(h3:n.De.length≤140737488355327):A2w K c n=some (Aua c n):=by
 unfold A2w;rw[Aw5,Bkh (by omega)]
 simp only[Z0,Azl];cases hc:Agz c with
 |false=>simp[Aua,hc]
 |true=>
 have hT:Ajp K n.D3 c=some (n.D3.any (fun t=> !As2 c t)):=
  A6o hK n.D3 (by omega) (fun t=>A0n K t c) (fun t=> !As2 c t) (fun x _=>by simp[A0n,A7s]) (Adc K n.D3 c) (fun n N i=>rfl)
 have hJ:At8 K c n.D3 n.De=some ((decide ((n.D3.length:Int)≤12)&&decide ((n.De.length:Int)≤6))&&(n.De.all (fun x=>inB x 0 255)&&n.D3.all (As2 c))):=by
  unfold At8;rw[hT,A4u hK _ (by omega)]
  simp only[Z0,Axd,List.not_any_eq_all_not,Bool.not_not,Z7]
  ac_rfl
 obtain⟨_,b2,_⟩:=A1 hc
 have hB:As0 K c K ([n.fUp,n.Bw,n.Gv,n.Gw]:List Int) (([n.fUp,n.Bw,n.Gv,n.Gw]:List Int).length:Int) 0 n.Gt n.C5 n.Mu n.fUp n.Gu n.Bw n.Gv n.Gw n.Ad n.M7 n.Gz n.D3 n.De=some (A92 c n):=by
  rw[Av1 hK ([n.fUp,n.Bw,n.Gv,n.Gw]:List Int) (by simp) (fun x=>inB x 0 c.B9) (some ((!decide (n.Mu<0)&& !decide (n.Gu<0))&&((Axw c n.Ad&&A7u c n)&&((decide ((n.D3.length:Int)≤12)&&decide ((n.De.length:Int)≤6))&&(n.De.all (fun x=>inB x 0 255)&&n.D3.all (As2 c)))))) (fun k i=>As0 K c k ([n.fUp,n.Bw,n.Gv,n.Gw]:List Int) (([n.fUp,n.Bw,n.Gv,n.Gw]:List Int).length:Int) i n.Gt n.C5 n.Mu n.fUp n.Gu n.Bw n.Gv n.Gw n.Ad n.M7 n.Gz n.D3 n.De) (fun k i h=> ?_) (fun k=> ?_)]
  ·simp_all[A92,Axd]
  ·simp only[As0];rw[Wy h,cond_true,if_pos (Agy h),V2 h,Azl,Wx (by grind),Z0,Agx]
  ·show As0 K c (k+1) _ _ _ _ _ _ _ _ _ _ _ _ _ _ _ _=_;rw[As0,Aqt (Z9 _),cond_false,hJ,A64 hK hc _ h1,A52 hK _ _ (by omega),Azl]
   simp only[Z0,bne,Agx,Axd,Bo9];unfold A7u
   have hz:(n.Gz==0)=true->inB n.Gz 0 c.Ds=true:=by
    intro h;rw[beq_iff_eq]at h;rw[Abx];omega
   grind
 rw[hB];simp only[cond_true,Agx,Axd];unfold Aua
 grind
end
theorem Bis{α β:Type}(l:List α)(q:α->Bool)(fin bad:Option β)(L:Nat->Int->Option β)
  (hs: ∀n (i:Nat) (h:i<l.length),L (n+1) (i:Int)=bif q l[i]then L n ((i+1:Nat):Int)else bad)
  (he: ∀n,L (n+1) (l.length:Int)=fin):
  ∀(n i:Nat),i≤l.length->l.length - i<n->L n (i:Int)=bif (l.drop i).all q then fin else bad:=by
 intro n
 induction n with
 |zero=>omega
 |succ n ih=>
  intro i hi hn;rcases Hw i l.length with h|h
  ·rw[hs n i h,Z47 h,Gp];cases q l[i]with
   |false=>rfl
   |true=>grind
  grind
theorem Bki{β:Type}{K:Nat}(hK:281474976710656≤K)(N:Nat)(hl:N≤140737488355328)(q:Nat->Bool)(fin bad:Option β)(L:Nat->Int->Option β)
  (hs: ∀n (i:Nat) (h:i<N),L (n+1) (i:Int)=bif q i then L n ((i+1:Nat):Int)else bad)
  (he: ∀n,L (n+1) (N:Int)=fin):L K 0=bif (List.range N).all q then fin else bad:=by
 have:=Bis (List.range N) q fin bad L (fun n i h=>by grind) (fun n=>by grind) K 0 (Z21 _) (by grind)
 grind
def A33 (t:Bl):Prop:=0≤t.fAt∧t.fAt≤200∧0≤t.Xu∧t.Xu≤200
theorem A4z{c:Fc}{t:Bl}(h:As2 c t=true):A33 t∧A0u c t:=by
 have h1:A0u c t:=by
  unfold As2 at h
  grind
 have hb:=A31 c;obtain⟨h2,h3,h4,h5⟩:=h1;exact⟨⟨h4,by omega,by omega,by omega⟩,h2,h3,h4,h5⟩
def Aor (a b:Bl):Bool:=decide (a.Xu≤0∨b.Xu≤0∨a.fAt+a.Xu≤b.fAt∨b.fAt+b.Xu≤a.fAt)
theorem Beq (a b:Bl):Aor a b=Aor b a:=by
 unfold Aor
 grind
theorem Bg0 (K:Nat){a b:Bl}(ha:A33 a)(hb:A33 b):A3h K a b=some (Aor a b):=by
 obtain⟨a1,a2,a3,a4⟩:=ha;obtain⟨b1,b2,b3,b4⟩:=hb;unfold A3h Ark;rw[Gy (n:=b.fAt - a.fAt) (by omega) (by omega),Gy (n:=a.fAt - b.fAt) (by omega) (by omega)]
 simp only[A3z]
 have: ∀x:Bool,x=Aor a b->some x=some (Aor a b):=fun x h=>by rw[h]
 by_cases h:a.fAt≤b.fAt
 ·rw[decide_eq_true h,cond_true,A3z,A3z];refine this _ ?_;rw[Bool.eq_iff_iff];simp only[Aor,Bool.or_eq_true,decide_eq_true_eq];omega
 ·rw[decide_eq_false h,cond_false,A3z,A3z];refine this _ ?_;rw[Bool.eq_iff_iff];simp only[Aor,Bool.or_eq_true,decide_eq_true_eq];omega
theorem A93 (K:Nat){a b:Bl}(ha:A33 a)(hb:A33 b):A1y K a b=some (Aor a b):=by
 obtain⟨a1,a2,a3,a4⟩:=ha;obtain⟨b1,b2,b3,b4⟩:=hb;unfold A1y A1x Ark;simp only[IntKind.wrap_u64]
 have: ∀x:Bool,x=Aor a b->some x=some (Aor a b):=fun x h=>by rw[h]
 by_cases h:a.fAt>b.fAt
 ·rw[decide_eq_true h,cond_true,A3z,A3z];refine this _ ?_;rw[Bool.eq_iff_iff];simp only[Aor,Bool.or_eq_true,decide_eq_true_eq];omega
 ·rw[decide_eq_false h,cond_false,A3z,A3z];refine this _ ?_;rw[Bool.eq_iff_iff];simp only[Aor,Bool.or_eq_true,decide_eq_true_eq];omega
def Asw (l:List Bl):Bool:=(List.range l.length).all (fun i=>(l.take i).all (fun o=>Aor o (gt l i)))
def Au6 (c:Fc)(chunks:List Int)(t:Bl):Bool:=
 As2 c t&&(List.range ((t.fAt+t.Xu - 1) / c.Ds - t.fAt / c.Ds+1).toNat).all (fun j=>chunks.contains (t.fAt / c.Ds+(j:Int)))
theorem Bbw{c:Fc}{t:Bl}(h:As2 c t=true):
  c.Ds≠0∧Aow .i64 t.fAt c.Ds=t.fAt / c.Ds∧Aow .i64 (Ark .i64 (Arj .i64 t.fAt t.Xu) 1) c.Ds=(t.fAt+t.Xu - 1) / c.Ds∧0≤t.fAt / c.Ds∧t.fAt / c.Ds≤(t.fAt+t.Xu - 1) / c.Ds∧(t.fAt+t.Xu - 1) / c.Ds≤192:=by
 obtain⟨hs,hc,h1,h2,h3⟩:=A4z h
 have hb:=A31 c;obtain⟨b1,b2,_⟩:=A1 hc
 have e1:Ark .i64 (Arj .i64 t.fAt t.Xu) 1=t.fAt+t.Xu - 1:=by
  unfold Ark Arj;rw[Gy (n:=t.fAt+t.Xu) (by omega) (by omega),Gy (by omega) (by omega)]
 have e2: ∀x:Int,0≤x->x≤192->Aow .i64 x c.Ds=x / c.Ds∧0≤x / c.Ds∧x / c.Ds≤192:=by
  intro x h0 hx
  have h3:x / c.Ds≤x:=Int.ediv_le_self _ h0
  have h4:0≤x / c.Ds:=Int.ediv_nonneg h0 (by omega)
  grind [Aow,Gy]
 obtain⟨x1,x2,x3⟩:=e2 t.fAt h2 (by omega)
 obtain⟨y1,y2,y3⟩:=e2 (t.fAt+t.Xu - 1) (by omega) (by omega)
 refine⟨by omega,x1,by grind,x2,Int.ediv_le_ediv (by omega) (by omega),y3⟩
theorem Bus{a:Int}{j:Nat}(h0:0≤a)(h:a+j≤140737488355328):Arj .i64 (a+(j:Int)) 1=a+((j+1:Nat):Int):=by
 grind [Arj,Gy]
section
variable {K:Nat} (hK:281474976710656≤K)
include hK
theorem Bbd (l:List Bl)(hl:l.length≤140737488355327)(hs: ∀t∈l,A33 t):A0k K l=some (Asw l):=by
 unfold A0k Asw;rw[Ast hK l.length (by omega) (fun i=>(l.take i).all (fun o=>Aor o (gt l i))) (some true) (fun n i=>Alz K l n i) (fun n i h=> ?_) (fun n=> ?_)]
 ·grind
 ·simp only[Alz];rw[Wy h,cond_true]
  have hlen:(l.take i).length=i:=by grind
  rw[Av1 hK (l.take i) (by omega) (fun o=>Aor o (gt l i)) (Alz K l n (Arj .i64 i 1)) (fun m j=>Ar7 K l i (Alz K l n) m j) (fun m j hj=> ?_) (fun m=> ?_)]
  ·grind [Wx]
  ·have hj':j<i:=by omega
   simp only[Ar7];rw[Wy hj',cond_true,if_pos (Agy h),if_pos (Agy (show j<l.length by omega)),Bg0 K (hs _ (Al6 h)) (hs _ (Al6 (show j<l.length by omega))),Z0,Agx,Wx (by omega),Beq,List.getElem_take,V2 (show j<l.length by omega)]
  ·show Ar7 K l i _ (m+1) _=_
   simp_all[Ar7]
 ·show Alz K l (n+1) _=_
  simp_all[Alz]
theorem Bbe (l:List Bl)(hl:l.length≤140737488355327)(hs: ∀t∈l,A33 t):A0p K l=some (Asw l):=by
 unfold A0p Asw;rw[Ast hK l.length (by omega) (fun i=>(l.take i).all (fun o=>Aor o (gt l i))) (some true) (fun n i=>Aso K l n l (l.length:Int) i) (fun n i h=> ?_) (fun n=> ?_)]
 ·grind
 ·simp only[Aso]
  have hlen:(l.take i).length=i:=by grind
  have hC:Ajj K (l.take i) (gt l i)=some ((l.take i).any (fun o=> !Aor o (gt l i))):=
   A6o hK (l.take i) (by omega) (fun t=>Aye K t (gt l i)) (fun o=> !Aor o (gt l i)) (fun x hx=>by
    grind [Aye,A93,Al6]) (Abz K (l.take i) (gt l i)) (fun n N i=>rfl)
  rw[Wy h,cond_true,if_pos (Agy h),if_pos (Beo (by omega)),A7b,hC,Wx (by omega),Z0,List.any_eq_not_all_not,Agx]
  grind
 ·show Aso K l (n+1) _ _ _=_
  simp_all[Aso]
theorem Bbf (c:Fc)(n:Ax)(h1:n.Ad.length≤140737488355327)(h2:n.D3.length≤140737488355327):A0o K c n=some (n.D3.all (Au6 c n.Ad)):=by
 unfold A0o
 have h1t: ∀t,Avr K t c n=some (!Au6 c n.Ad t):=by
  intro t;unfold Avr Au6;rw[A7s,Z0,Agx];cases ht:As2 c t with
  |false=>rfl
  |true=>
   obtain⟨d0,d1,d2,d3,d4,d5⟩:=Bbw ht;rw[cond_true,if_pos d0,d1]
   have:=Bki hK ((t.fAt+t.Xu - 1) / c.Ds - t.fAt / c.Ds+1).toNat (by omega) (fun j=>n.Ad.contains (t.fAt / c.Ds+(j:Int))) (some false) (some true) (fun m j=>Aoo K t c n m (t.fAt / c.Ds+j)) (fun m j hj=> ?_) (fun m=> ?_)
   ·grind
   ·simp only[Aoo];rw[if_pos d0,d2,decide_eq_true (by omega),cond_true,A52 hK _ _ (by omega),Z0,Agx,Bus d3 (by omega)]
   ·show Aoo K t c n (m+1) _=_;rw[Aoo,if_pos d0,d2,decide_eq_false (by omega),cond_false]
 have hC:Aji K n.D3 c n=some (n.D3.any (fun t=> !Au6 c n.Ad t)):=
  A6o hK n.D3 (by omega) (fun t=>Avr K t c n) (fun t=> !Au6 c n.Ad t) (fun x _=>h1t x) (Aby K n.D3 c n) (fun n N i=>rfl)
 grind
theorem Bbg (c:Fc)(n:Ax)(h1:n.Ad.length≤140737488355327)(h2:n.D3.length≤140737488355327):A0j K c n=some (n.D3.all (Au6 c n.Ad)):=by
 unfold A0j;rw[Av1 hK n.D3 (by omega) (Au6 c n.Ad) (some true) (fun k i=>Aly K c k i n.Gt n.C5 n.Mu n.fUp n.Gu n.Bw n.Gv n.Gw n.Ad n.M7 n.Gz n.D3 n.De) (fun k i h=> ?_) (fun k=> ?_)]
 ·grind
 ·simp only[Aly];rw[Wy h,cond_true,if_pos (Agy h),V2 h,A7r,Z0,Agx];unfold Au6;generalize n.D3[i]=t;cases ht:As2 c t with
  |false=>rfl
  |true=>
   obtain⟨d0,d1,d2,d3,d4,d5⟩:=Bbw ht;rw[cond_true,if_pos d0,d1,Z30]
   have:=Ast hK ((t.fAt+t.Xu - 1) / c.Ds - t.fAt / c.Ds+1).toNat (by omega) (fun j=>n.Ad.contains (t.fAt / c.Ds+(j:Int))) (Aly K c k ((i+1:Nat):Int) n.Gt n.C5 n.Mu n.fUp n.Gu n.Bw n.Gv n.Gw n.Ad n.M7 n.Gz n.D3 n.De)
    (fun m j=>Ar6 K c i n.Gt n.C5 n.Mu n.fUp n.Gu n.Bw n.Gv n.Gw n.Ad n.M7 n.Gz n.D3 n.De (Aly K c k) m (t.fAt / c.Ds+j) t) (fun m j hj=> ?_) (fun m=> ?_)
   ·grind
   ·simp only[Ar6];rw[if_pos d0,d2,decide_eq_true (by omega),cond_true,A30 hK _ _ (by omega),Z0,Agx,Bus d3 (by omega)]
   ·show Ar6 K c i _ _ _ _ _ _ _ _ _ _ _ _ _ _ (m+1) _ _=_;rw[Ar6,if_pos d0,d2,decide_eq_false (by omega),cond_false,Wx (by omega)]
 ·show Aly K c (k+1) _ _ _ _ _ _ _ _ _ _ _ _ _ _=_
  simp_all[Aly]
end
def wfi (x:Int):Prop:= -9223372036854775808≤x∧x≤9223372036854775807
def A40 (l:List Int):Prop:=(∀x∈l,wfi x)∧l.length*8≤140737488355327
def Bpb (l:List Int):Prop:=(∀x∈l,0≤x∧x≤255)∧l.length≤140737488355327
def ThingW (t:Bl):Prop:=wfi t.fAt∧wfi t.Xu∧wfi t.Xv
def Bcq (l:List Bl):Prop:=(∀x∈l,ThingW x)∧l.length*24≤140737488355327
structure Atw (n:Ax):Prop where
 st:wfi n.Gt
 gen:wfi n.C5
 ep:wfi n.Mu
 up:wfi n.fUp
 upEp:wfi n.Gu
 first:wfi n.Bw
 next:wfi n.Gv
 prev:wfi n.Gw
 chunks:A40 n.Ad
 cur:wfi n.M7
 bump:wfi n.Gz
 things:Bcq n.D3
 tags:A40 n.De
def Adn (l:List Ax):Prop:=(∀x∈l,Atw x)∧l.length*152≤140737488355327
structure A3a (x:A7):Prop where
 slot:wfi x.A9
 first:wfi x.Bw
 tags:A40 x.De
 chunks:A40 x.Ad
 done:wfi x.Hp
def Bcr (l:List A7):Prop:=(∀x∈l,A3a x)∧l.length*72≤140737488355327
structure ConfW (c:Fc):Prop where
 chunks:wfi c.Ad
 size:wfi c.Ds
 slots:wfi c.B9
 tax:wfi c.Eu
 slice:wfi c.Ca
 gens:wfi c.Dt
structure A34 (p:Ed):Prop where
 mem:Bpb p.Fi
 st:A40 p.Gt
 own:A40 p.Fj
structure Alq (w:Bm):Prop where
 c:ConfW w.fC
 p:A34 w.fP
 l:Adn w.fL
 q:Bcr w.fQ
 log:A40 w.Jc
theorem P2:140737488355328≤maxLen:=by unfold maxLen;omega
theorem Bkj{α:Type}(x:Option α):Alm x x=x:=by simp[Alm]
theorem Bkk (K:Nat){l:List Int}(h:l.length*8≤140737488355327):Axc K l=some l:=by
 have hm:=P2;unfold Axc;rw[Z38,if_pos ⟨by omega,by omega⟩]
 grind [Bkj]
theorem Biu{α:Type}(N:Nat)(q:Nat->Bool)(g:Nat->α)(L:Nat->List α->Int->Option (List α))
  (hs: ∀n v (i:Nat),i<N->v.length≤i->L (n+1) v (i:Int)=bif q i then L n (v++[g i]) ((i+1:Nat):Int)else L n v ((i+1:Nat):Int))
  (he: ∀n v,L (n+1) v (N:Int)=some v):
  ∀(n i:Nat) (v:List α),i≤N->v.length≤i->N - i<n->L n v (i:Int)=some (v++(((List.range N).drop i).filter q).map g):=by
 intro n
 induction n with
 |zero=>omega
 |succ n ih=>
  intro i v hi hv hn;rcases Hw i N with h|h
  ·rw[hs n v i h hv,Z47 (by grind),List.getElem_range,List.filter_cons]
   grind
  grind [List.drop_eq_nil_of_le]
def Ato (p:Ed)(k:Int):List Int:=((List.range (min p.Gt.length p.Fj.length)).filter (fun i:Nat=>gt p.Gt i==1&&gt p.Fj i==k)).map (fun i:Nat=>(i:Int))
theorem A94 (p:Ed)(k:Int):(Ato p k).length≤min p.Gt.length p.Fj.length:=by
 grind [Ato]
theorem A4v (p:Ed)(k:Int):(Ato p k).Pairwise (fun a b=>a<b):=by
 grind [Ato,List.pairwise_lt_range]
theorem A8v{l:List Int}: ∀ {o:List Int},o.Nodup->(∀x∈o,x∈l)->o.length=l.length->o.Perm l:=by
 intro o
 induction o generalizing l with
 |nil=>grind
 |cons x o ih=>
  intro hn hs hl
  have hx:x∈l:=hs x (by simp)
  rw[List.nodup_cons]at hn
  have h2:o.Perm (l.erase x):=ih hn.2 (fun y hy=>by
   grind) (by grind)
  grind [List.perm_cons_erase]
def A3t (p:Ed)(k:Int)(l:List Int):Bool:=(Ato p k).all (fun x=>l.contains x)&&((Ato p k).length:Int)==(l.length:Int)
theorem Bsb (p:Ed)(k:Int)(l:List Int):decide (l.mergeSort (fun x y=>decide (x≤y))=Ato p k)=A3t p k l:=by
 rw[Bool.eq_iff_iff];unfold A3t;simp only[decide_eq_true_eq,Z4,Z1,List.contains_iff_mem,beq_iff_eq]
 have hp:=List.mergeSort_perm l (fun x y=>decide (x≤y));constructor
 ·intro e;rw[e]at hp;exact⟨fun x hx=>hp.mem_iff.1 hx,by have:=hp.length_eq;omega⟩
 ·rintro⟨h1,h2⟩
  have hn:(Ato p k).Nodup:=(A4v p k).imp fun h=>by omega
  have h3:=A8v hn h1 (by omega)
  refine List.Perm.eq_of_pairwise (le:=fun a b=>a≤b) (fun a b _ _ h1 h2=>by omega) ?_ ((A4v p k).imp fun h=>by omega) (hp.trans h3.symm)
  grind [List.pairwise_mergeSort]
theorem Bkl{a b:List Int}(h:a.length=b.length):(List.range a.length).all (fun i=>gt a i==gt b i)=decide (a=b):=by
 rw[Bool.eq_iff_iff];simp only[Z1,List.mem_range,beq_iff_eq,decide_eq_true_eq]
 grind [List.ext_getElem,V2]
section
variable {K:Nat} (hK:281474976710656≤K)
include hK
theorem Bbx (a b:List Int)(ha:a.length≤140737488355327):Ab0 K a b=some (decide (a=b)):=by
 unfold Ab0
 by_cases h:a.length=b.length
 ·rw[show((a.length:Int) != (b.length:Int))=false by simp[h],cond_false,←Bkl h]
  rw[Ast hK a.length (by omega) (fun i=>gt a i==gt b i) (some true) (fun n i=>An4 K a b n (a.length:Int) i) (fun n i hi=> ?_) (fun n=> ?_)]
  ·grind
  ·simp only[An4];rw[Wy hi,cond_true,if_pos (Agy hi),if_pos (Agy (show i<b.length by omega)),Wx (by omega),bne,Agx]
  ·show An4 K a b (n+1) _ _=_
   simp_all[An4.eq_2]
 ·rw[A2d (by omega),cond_true,decide_eq_false (fun e=>h (by rw[e]))]
theorem A5c (p:Ed)(k:Int)(h1:p.Gt.length*8≤140737488355327):Ayl K p k=some (Ato p k):=by
 have hm:=P2;unfold Ayl
 have:=Biu (min p.Gt.length p.Fj.length) (fun i:Nat=>gt p.Gt i==1&&gt p.Fj i==k) (fun i:Nat=>(i:Int)) (fun n v i=>Aoe K k n v i p.Fi p.Gt p.Fj) (fun n v i hi hv=> ?_) (fun n v=> ?_) K 0 [] (Z21 _) (Z9 _) (by omega)
 ·assumption
 ·have h2:(v++([(i:Int)]:List Int)).length=v.length+1:=by simp
  simp only[Aoe,Awb];rw[Wy (by omega),Wy (by omega),cond_true,cond_true,if_pos (Agy (by omega)),if_pos (Agy (by omega)),Wx (by omega),if_pos ⟨by omega,by omega⟩]
  grind
 ·show Aoe K k (n+1) v _ _ _ _=_;rw[Aoe]
  grind
theorem A7v (p:Ed)(k:Int)(h1:p.Gt.length*8≤140737488355327):Ayv K p k=some (Ato p k):=by
 have hm:=P2;unfold Ayv
 have e:Acm (p.Gt.length:Int) (p.Fj.length:Int)=((min p.Gt.length p.Fj.length:Nat):Int):=by grind [Acm]
 rw[e]
 have:=Biu (min p.Gt.length p.Fj.length) (fun i:Nat=>gt p.Gt i==1&&gt p.Fj i==k) (fun i:Nat=>(i:Int)) (fun n v i=>Aoi K k n v ((min p.Gt.length p.Fj.length:Nat):Int) i p.Fi p.Gt p.Fj) (fun n v i hi hv=> ?_) (fun n v=> ?_) K 0 [] (Z21 _) (Z9 _) (by omega)
 ·assumption
 ·have h2:(v++([(i:Int)]:List Int)).length=v.length+1:=by simp
  simp only[Aoi,Awu];rw[Wy hi,cond_true,if_pos (Agy (by omega)),if_pos (Agy (by omega)),Wx (by omega),if_pos ⟨by omega,by omega⟩]
  grind
 ·show Aoi K k (n+1) v _ _ _ _ _=_
  simp_all[Aoi]
theorem A95 (w:Bm)(k:Nat)(hk:k<w.fL.length)(h1:w.fP.Gt.length*8≤140737488355327)(h2:(gt w.fL k).Ad.length≤140737488355327):Azf K w k=some (A3t w.fP k (gt w.fL k).Ad):=by
 unfold Azf;rw[A5c hK _ _ h1,Z0]
 have hl:=A94 w.fP k;rw[Av1 hK (Ato w.fP k) (by omega) (fun x=>(gt w.fL k).Ad.contains x) (some (((Ato w.fP k).length:Int)==((gt w.fL k).Ad.length:Int))) (fun n i=>Aqv K k (Ato w.fP k) n i w.fC.Ad w.fC.Ds w.fC.B9 w.fC.Eu w.fC.Ca w.fC.Dt w.fP.Fi w.fP.Gt w.fP.Fj w.fL w.fQ w.Jc) (fun n i hi=> ?_) (fun n=> ?_)]
 ·rw[Axd];rfl
 ·simp only[Aqv];rw[Wy hi,cond_true,if_pos (Agy hk),if_pos (Agy hi),A30 hK _ _ (by omega),Z0,Agx,Wx (by omega),V2 hi]
 ·show Aqv K k (Ato w.fP k) (n+1) _ _ _ _ _ _ _ _ _ _ _ _ _=_
  simp_all[Aqv]
end
def Ayf (c:Fc)(n:Ax):Bl:=Bl.mk ((n.M7 - 1)*c.Ds+n.Gz) (c.Ds - n.Gz) 0
def Au8 (c:Fc)(mem:List Int)(n:Ax):Bool:=
 n.M7==0||(Atn ((mem.drop (Ayf c n).fAt.toNat).take (Ayf c n).Xu.toNat)&&n.D3.all (fun t=>Aor t (Ayf c n)))
theorem Bkm{c:Fc}{n:Ax}(h:Aua c n=true)(h1:n.Gt=1):Agz c=true∧A92 c n=true:=by
 simp_all[Aua]
theorem Bby{c:Fc}{n:Ax}(h:Aua c n=true)(h1:n.Gt≠1):A7t n=true:=by
 simp_all[Aua]
theorem Bx6{c:Fc}{n:Ax}(hw:Atw n)(h:Aua c n=true)(h1:n.M7≠0):n.Gt=1∧1≤n.M7∧n.M7≤c.Ad∧0≤n.Gz∧n.Gz≤c.Ds:=by
 by_cases h2:n.Gt=1
 ·refine⟨h2,?_⟩;obtain⟨hc,hl⟩:=Bkm h h2;obtain⟨b1,_⟩:=A1 hc;unfold A92 at hl;simp only[Z4]at hl
  have hd:=hl.2.2.1.1
  have hcu:=hl.2.2.1.2;unfold A7u at hcu;rw[As5 h1,cond_false,Z4,List.contains_iff_mem,Abx]at hcu;obtain⟨i,hi,e⟩:=List.mem_iff_getElem.1 hcu.1;unfold Axw at hd;rw[Z1]at hd
  have:=hd i (by grind)
  rw[Z4,V2 hi,e,Abx]at this
  have h3:=this.1;obtain⟨w1,w2⟩:=hw.cur;unfold Ark at h3;rw[IntKind.wrap_i64]at h3;omega
 ·have:=Bby h h2
  simp_all[A7t]
theorem Biv{c:Fc}{p:Ed}{n:Ax}(hp:Aw7 c p=true)(hw:Atw n)(h:Aua c n=true)(h1:n.M7≠0):
  Arj .i64 (Arl .i64 (Ark .i64 n.M7 1) c.Ds) n.Gz=(Ayf c n).fAt∧Ark .i64 c.Ds n.Gz=(Ayf c n).Xu∧Arl .i64 n.M7 c.Ds=(Ayf c n).fAt+(Ayf c n).Xu∧A33 (Ayf c n)∧(Ayf c n).fAt+(Ayf c n).Xu≤(p.Fi.length:Int):=by
 obtain⟨h2,c1,c2,c3,c4⟩:=Bx6 hw h h1;obtain⟨hc,hm,_⟩:=Aut hp;obtain⟨b1,b2,_⟩:=A1 hc
 have m1:=Axe (a:=n.M7 - 1) (b:=c.Ds) (m:=11) (n:=16) (by omega) (by omega) (by omega) b2.2
 have e2:n.M7*c.Ds=(n.M7 - 1)*c.Ds+c.Ds:=by grind
 have m2:n.M7*c.Ds≤c.Ad*c.Ds:=Int.mul_le_mul_of_nonneg_right (by omega) (by omega)
 unfold Ayf A33 Arj Ark Arl;simp only;rw[Gy (n:=n.M7 - 1) (by omega) (by omega),Gy (n:=(n.M7 - 1)*c.Ds) (by omega) (by omega),Gy (n:=(n.M7 - 1)*c.Ds+n.Gz) (by omega) (by omega),Gy (n:=c.Ds - n.Gz) (by omega) (by omega),Gy (n:=n.M7*c.Ds) (by omega) (by omega)]
 omega
theorem A96{c:Fc}{l:List Bl}{ch:List Int}(h:l.all (Au6 c ch)=true): ∀t∈l,A33 t∧1≤t.Xu:=by
 intro t ht;rw[Z1]at h
 have:=h t ht;unfold Au6 at this;rw[Z4]at this;obtain⟨h1,h2⟩:=A4z this.1;exact⟨h1,h2.2.1⟩
def A7w (w:Bm)(k:Nat):Bool:=
 Aua w.fC (gt w.fL k)&&(A3t w.fP k (gt w.fL k).Ad&&((gt w.fL k).D3.all (Au6 w.fC (gt w.fL k).Ad)&&(Asw (gt w.fL k).D3&&Au8 w.fC w.fP.Fi (gt w.fL k))))
section
variable {K:Nat} (hK:281474976710656≤K)
include hK
theorem Aw4{l:List Int}(h:A40 l):l.length≤140737488355327:=by have:=h.2;omega
theorem Biw{l:List Bl}(h:Bcq l):l.length≤140737488355327:=by have:=h.2;omega
theorem Bg1 (w:Bm)(k:Nat)(hk:k<w.fL.length)(hp:Aw7 w.fC w.fP=true)(hw:Atw (gt w.fL k))(hn:Aua w.fC (gt w.fL k)=true)(hs: ∀t∈(gt w.fL k).D3,A33 t∧1≤t.Xu):A0l K w k=some (Au8 w.fC w.fP.Fi (gt w.fL k)):=by
 unfold A0l;rw[if_pos (Agy hk)];unfold Au8
 by_cases h1:(gt w.fL k).M7=0
 ·grind
 ·rw[As5 h1,cond_false];obtain⟨e1,e2,e3,⟨s1,s2,s3,s4⟩,s5⟩:=Biv hp hw hn h1;rw[e1,e3];generalize hr:Ayf w.fC (gt w.fL k)=r at *;rcases (show r.Xu=0∨1≤r.Xu by omega)with h2|h2
  ·rw[decide_eq_true (show r.fAt≥r.fAt+r.Xu by omega),cond_true,h2]
   simp_all[Aor,Atn]
  ·rw[decide_eq_false (show ¬r.fAt≥r.fAt+r.Xu by omega),cond_false]
   have hlt:=Biw hK hw.things
   have hz:List.take (r.fAt+r.Xu - r.fAt).toNat (List.drop r.fAt.toNat w.fP.Fi)=List.take r.Xu.toNat (List.drop r.fAt.toNat w.fP.Fi):=by grind
   rw[Av1 hK (gt w.fL k).D3 (by omega) (fun t=>Aor t r) (some (Atn (List.take r.Xu.toNat (List.drop r.fAt.toNat w.fP.Fi)))) (fun m i=>Ao9 K m r.fAt (r.fAt+r.Xu) i (gt w.fL k).Gt (gt w.fL k).C5 (gt w.fL k).Mu (gt w.fL k).fUp (gt w.fL k).Gu (gt w.fL k).Bw (gt w.fL k).Gv (gt w.fL k).Gw (gt w.fL k).Ad (gt w.fL k).M7 (gt w.fL k).Gz (gt w.fL k).D3 (gt w.fL k).De w.fC.Ad w.fC.Ds w.fC.B9 w.fC.Eu w.fC.Ca w.fC.Dt w.fP.Fi w.fP.Gt w.fP.Fj w.fL w.fQ w.Jc) (fun m i hi=> ?_) (fun m=> ?_)]
   ·grind
   ·simp only[Ao9,Ayb];obtain⟨⟨t1,t2,t3,t4⟩,t5⟩:=hs _ (Al6 hi);rw[Wy hi,cond_true,if_pos (Agy hi),Wx (by omega),←V2 hi]
    generalize gt (gt w.fL k).D3 i=t at *;unfold Arj;rw[Gy (n:=t.fAt+t.Xu) (by omega) (by omega)]
    unfold Aor
    grind
   ·show Ao9 K (m+1) _ _ _ _ _ _ _ _ _ _ _ _ _ _ _ _ _ _ _ _ _ _ _ _ _ _ _ _=_;rw[Ao9,Aqt (Z9 _),cond_false,if_pos ⟨s1,by omega,s5⟩,A20 hK _ (by grind),hz,Z0]
theorem Bpc (l:List Int)(h:A40 l):Ff K l=some (l.mergeSort fun x y=>decide (x≤y)):=by
 have:=h.2;unfold Ff
 grind
theorem Bcs (w:Bm)(hw:Alq w)(hp:Aw7 w.fC w.fP=true):Avs K w=some ((List.range w.fL.length).all (A7w w)):=by
 unfold Avs
 have hlL:=hw.l.2;rw[Ast hK w.fL.length (by omega) (A7w w) (some true) (fun m i=>Ajl K m w.fL (w.fL.length:Int) i w.fC.Ad w.fC.Ds w.fC.B9 w.fC.Eu w.fC.Ca w.fC.Dt w.fP.Fi w.fP.Gt w.fP.Fj w.fL w.fQ w.Jc) (fun m k hk=> ?_) (fun m=> ?_)]
 ·grind
 ·simp only[Ajl,Aue];rw[show Fc.mk w.fC.Ad w.fC.Ds w.fC.B9 w.fC.Eu w.fC.Ca w.fC.Dt=w.fC from rfl,show Ed.mk w.fP.Fi w.fP.Gt w.fP.Fj=w.fP from rfl]
  have hn:=hw.l.1 _ (Al6 hk);unfold A7w;generalize hN:gt w.fL k=n at*
  have l1:=Aw4 hK hn.chunks
  have l2:=Biw hK hn.things
  have l3:=Aw4 hK hn.tags;rw[Wy hk,cond_true,if_pos (Agy hk),Bkk K hn.chunks.2,Z0,Bpc hK _ hn.chunks,Z0,if_pos (List.length_mergeSort _),Bep hK _ _ l1 l2 l3,Z0,A7v hK _ _ hw.p.st.2,Wx (by omega)]
  simp only[Z0];rw[Bbx hK _ _ (by simp_all),Bsb,Bbf hK _ _ l1 l2]
  simp only[Z0];cases hb:Aua w.fC n with
  |false=>rfl
  |true=>
  cases A3t w.fP k n.Ad with
  |false=>rfl
  |true=>
  cases hi:n.D3.all (Au6 w.fC n.Ad)with
  |false=>rfl
  |true=>
  have hs:=A96 hi;rw[Bbe hK _ l2 (fun t ht=>(hs t ht).1)];simp only[Z0,cond_true,Agx,Z30];cases Asw n.D3 with
  |false=>rfl
  |true=>
  simp only[cond_true,Z30];unfold Au8
  by_cases h1:n.M7=0
  ·grind
  ·rw[As5 h1,cond_false,Z52];obtain⟨e1,e2,e3,s,s5⟩:=Biv hp hn hb h1
   have hmk:Bl.mk (Ayf w.fC n).fAt (Ayf w.fC n).Xu 0=Ayf w.fC n:=rfl;rw[e1,e2];simp only[hmk];generalize hr:Ayf w.fC n=r at *;obtain⟨s1,s2,s3,s4⟩:=s
   have e4:Arj .i64 r.fAt r.Xu=r.fAt+r.Xu:=by grind [Arj,Gy]
   have hC:Afd K n.D3 r=some (n.D3.any (fun t=> !Aor t r)):=
    A6o hK n.D3 (by omega) (fun t=>Aud K t r) (fun t=> !Aor t r) (fun x hx=>by
     unfold Aud;rw[A93 K (hs _ hx).1 ⟨s1,s2,s3,s4⟩];rfl) (W2 K n.D3 r) (fun n N i=>rfl)
   rw[e4,if_pos ⟨s1,by omega,s5⟩,show r.fAt+r.Xu - r.fAt=r.Xu by omega,A53 hK _ (by grind),hC,List.any_eq_not_all_not]
   grind
 ·show Ajl K (m+1) _ _ _ _ _ _ _ _ _ _ _ _ _ _ _=_
  simp_all[Ajl]
end
section
variable {K:Nat} (hK:281474976710656≤K)
theorem Ahp{l:List Ax}(w:Adn l):l.length≤140737488355327:=by have:=w.2;omega
theorem A41 (K:Nat){α:Type}{l:List α}(hl:l.length≤140737488355327)(k:Int):Bd K k 0 (Ark .i64 (l.length:Int) 1)=some (decide (0≤k∧k<(l.length:Int))):=by
 unfold Bd Ark;rw[Gy (by omega) (by omega)]
 grind
theorem Bkn (K:Nat){α:Type}{l:List α}(hl:l.length≤140737488355327)(k:Int):V1 K k 0 (Ark .i64 (l.length:Int) 1)=some (decide (0≤k∧k<(l.length:Int))):=A41 K hl k
theorem A8h (K:Nat){l:List Ax}(hl:l.length≤140737488355327)(k:Int):Atj K l k=some (decide (0≤k∧k<(l.length:Int))):=by
 grind [Atj,Bkn]
theorem Ayz (K:Nat)(l:List Ax)(k:Int):Ab4 K l k=some (decide (1≤k∧k≤(l.length:Int))):=by
 unfold Ab4
 grind
def Ay0 (l:List Ax)(h:Ce):Int:=if(0≤h.A9∧h.A9<(l.length:Int))∧(gt l h.A9).Gt=1∧(gt l h.A9).C5=h.C5 then h.A9 else -1
theorem A7x (K:Nat){l:List Ax}(hl:l.length≤140737488355327)(h:Ce):Ayk K l h=some (Ay0 l h):=by
 unfold Ayk Ay0;rw[A41 K hl]
 grind
theorem A8i{l:List Ax}{h:Ce}(h0: ¬Ay0 l h<0):0≤Ay0 l h∧Ay0 l h<(l.length:Int):=by
 unfold Ay0 at *;omega
def Akf (l:List Ax):Nat->Int->List Int
 |0,_=>[]
 |n+1,k=>if 0≤k∧k<(l.length:Int)then k::Akf l n (Ark .i64 (gt l k).fUp 1)else []
theorem Bct{l:List Ax}: ∀(n:Nat) (k:Int),∀x∈Akf l n k,0≤x∧x<(l.length:Int):=by
 intro n
 induction n with
 |zero=>intro k x hx;cases hx
 |succ n ih=>
  intro k x hx;unfold Akf at hx
  grind
theorem A97{l:List Ax}: ∀(n:Nat) (k:Int),(Akf l n k).length≤n:=by
 intro n
 induction n with
 |zero=>intro k;exact Z9 _
 |succ n ih=>
  intro k;unfold Akf
  grind
def Bg2 (l:List Ax):List Int->Prop
 |x::y::r=>Ark .i64 (gt l x).fUp 1=y∧Bg2 l (y::r)
 |_=>True
theorem Bg3{l:List Ax}: ∀(n:Nat) (k:Int),Bg2 l (Akf l n k):=by
 intro n
 induction n with
 |zero=>intro k;trivial
 |succ n ih=>
  intro k;unfold Akf;split
  ·have h1:=ih (Ark .i64 (gt l k).fUp 1);cases n with
   |zero=>trivial
   |succ n=>
    rw[Akf]at h1 ⊢;split at h1
    ·rename_i h2;rw[if_pos h2];exact⟨rfl,h1⟩
    ·rename_i h2;rw[if_neg h2];trivial
  ·trivial
theorem Bko{l:List Ax}(w:Adn l): ∀(n:Nat) (k:Int) (v:List Int),-9223372036854775808≤k∧k≤9223372036854775807->v.length≤l.length->l.length - v.length<n->Azu K l n k v=some (v++Akf l (l.length - v.length) k):=by
 have hb:l.length*152≤140737488355327:=w.2;intro n
 induction n with
 |zero=>omega
 |succ n ih=>
  intro k v hk hv hn;rw[Azu,Ayz];simp only[Z0]
  have e:decide (1≤Arj .i64 k 1∧Arj .i64 k 1≤(l.length:Int))=decide (0≤k∧k<(l.length:Int)):=by
   rw[decide_eq_decide]
   grind [Arj,IntKind.wrap_i64]
  rw[e]
  by_cases hs:0≤k∧k<(l.length:Int)
  ·rw[decide_eq_true hs];simp only[cond_true];rcases Hw v.length l.length with h|h
   ·rw[Wy h];simp only[cond_true]
    have hl2:(v++[k]).length=v.length+1:=by simp
    rw[if_pos ⟨by omega,by grind [maxLen]⟩,if_pos hs,ih (Ark .i64 (gt l k).fUp 1) _ (Bo8 _) (by omega) (by omega),hl2]
    obtain⟨m,hm⟩: ∃m,l.length - v.length=m+1:=⟨l.length - v.length - 1,by omega⟩
    rw[hm,Akf,if_pos hs,show l.length - (v.length+1)=m from by omega]
    simp
   ·rw[Aqt h];rw[show l.length - v.length=0 from by omega]
    simp[Akf]
  ·rw[decide_eq_false hs]
   have:Akf l (l.length - v.length) k=[]:=by
    cases l.length - v.length with
    |zero=>rfl
    |succ m=>rw[Akf,if_neg hs]
   grind
theorem Bkp{l:List Ax}(w:Adn l): ∀(n:Nat) (k:Int) (v:List Int),v.length≤l.length->l.length - v.length<n->Az3 K l n k v=some (v++Akf l (l.length - v.length) k):=by
 have hb:l.length*152≤140737488355327:=w.2;intro n
 induction n with
 |zero=>omega
 |succ n ih=>
  intro k v hv hn;rw[Az3,A8h K (by omega)]
  simp only[Z0]
  by_cases hs:0≤k∧k<(l.length:Int)
  ·rw[decide_eq_true hs];simp only[cond_true];rcases Hw v.length l.length with h|h
   ·rw[Wy h];simp only[cond_true]
    have hl2:(v++[k]).length=v.length+1:=by simp
    rw[if_pos ⟨by omega,by grind [maxLen]⟩,if_pos hs,ih _ _ (by omega) (by omega),hl2]
    obtain⟨m,hm⟩: ∃m,l.length - v.length=m+1:=⟨l.length - v.length - 1,by omega⟩
    rw[hm,Akf,if_pos hs,show l.length - (v.length+1)=m from by omega]
    simp
   ·rw[Aqt h];rw[show l.length - v.length=0 from by omega]
    simp[Akf]
  ·rw[decide_eq_false hs]
   have:Akf l (l.length - v.length) k=[]:=by
    cases l.length - v.length with
    |zero=>rfl
    |succ m=>rw[Akf,if_neg hs]
   grind
include hK in
theorem A5d{l:List Ax}(w:Adn l)(k:Int)(hk: -9223372036854775808≤k∧k≤9223372036854775807):A03 K l k=some (Akf l l.length k):=by
 have hb:=Ahp w;unfold A03
 have:=Bko (K:=K) w K k [] hk (Z21 _) (by omega)
 grind
include hK in
theorem A98{l:List Ax}(w:Adn l)(k:Int):A2z K l k=some (Akf l l.length k):=by
 have hb:=Ahp w;unfold A2z
 have:=Bkp (K:=K) w K k [] (Z21 _) (by omega)
 grind
def Ax7 (l:List Ax):List Int->Bool
 |[]=>true
 |[x]=>(gt l x).Gt==1
 |x::y::r=>((gt l x).Gt==1)&&((gt l x).Gu==(gt l y).Mu)&&Ax7 l (y::r)
def A5e (l:List Ax)(way:List Int):Bool:=if 0<way.length then(gt l (gt way ((way.length - 1:Nat):Int))).fUp==0 else false
theorem Ber{l:List Ax}{way:List Int}(hin: ∀x∈way,0≤x∧x<(l.length:Int))(hlen:way.length≤140737488355327):
  (bif (decide ((way.length:Int)>0))then(if(0:Int)≤(Ark .i64 (way.length:Int) 1)∧(Ark .i64 (way.length:Int) 1)<(way.length:Int)then(if(0:Int)≤(gt way (Ark .i64 (way.length:Int) 1))∧(gt way (Ark .i64 (way.length:Int) 1))<(l.length:Int)then some (((gt l (gt way (Ark .i64 (way.length:Int) 1))).fUp)==0)else none)else none)else some false)=some (A5e l way):=by
 unfold A5e;rcases Sc way.length with h|h
 ·grind
 ·rw[if_pos h,decide_eq_true (by omega)]
  simp only[cond_true]
  have e:Ark .i64 (way.length:Int) 1=((way.length - 1:Nat):Int):=by grind [Ark,Gy]
  rw[e,if_pos ⟨by omega,by omega⟩,if_pos (hin _ (Al6 (by omega)))]
theorem A13{way:List Int}{i:Nat}(h:i<way.length):way.drop i=way[i]::way.drop (i+1):=by
 simp_all
theorem Bg4{l:List Ax}{way:List Int}(hin: ∀x∈way,0≤x∧x<(l.length:Int))(hlen:way.length≤140737488355327): ∀(n i:Nat),i≤way.length->way.length - i<n->Aw1 K l way n way (way.length:Int) (i:Int)=some (Ax7 l (way.drop i)&&A5e l way):=by
 intro n
 induction n with
 |zero=>omega
 |succ n ih=>
  intro i hi hn;rw[Aw1];unfold A11;rcases Hw i way.length with h|h
  ·rw[Wy h];simp only[cond_true];rw[if_pos ⟨by omega,by omega⟩,if_pos (hin _ (Al6 h)),A13 h,Wx (by omega),←V2 h]
   rcases Hw (i+1) way.length with h2|h2
   ·rw[Wy h2,A13 h2,←V2 h2];simp only[cond_true];rw[if_pos (hin _ (Al6 h)),if_pos ⟨by omega,by omega⟩,if_pos (hin _ (Al6 h2)),ih (i+1) h (by omega),A13 h2,←V2 h2,Ax7]
    generalize gt way ((i+1:Nat):Int)=y;generalize gt way (i:Int)=x
    by_cases c1:(gt l x).Gt=1
    ·by_cases c2:(gt l x).Gu=(gt l y).Mu
     all_goals grind
    grind
   ·rw[Aqt h2,ih (i+1) h (by omega),show way.drop (i+1)=[] from Z48 h2]
    simp only[cond_false,Ax7]
    grind
  ·rw[Aqt h,show way.drop i=[] from Z48 h]
   simp only[cond_false,Ax7,Z30];exact Ber hin hlen
theorem Bsc{l:List Ax}(w:Adn l){x y:Int}(hx:0≤x∧x<(l.length:Int))(hy:0≤y∧y<(l.length:Int))(h:Ark .i64 (gt l x).fUp 1=y):Avk K l x=some (((gt l y).Gt==1)&&((gt l y).Mu==(gt l x).Gu)):=by
 have hl:=Ahp w;unfold Avk;rw[if_pos hx,Ayz];simp only[Z0];obtain⟨hr1,hr2⟩:=(w.1 _ (Apa hx.1 hx.2)).up
 have hp:1≤(gt l x).fUp∧(gt l x).fUp≤(l.length:Int):=by
  grind [Ark,IntKind.wrap_i64]
 grind
theorem Bes{l:List Ax}{y:Int}{r:List Int}(h:(gt l y).Gt≠1):Ax7 l (y::r)=false:=by
 cases r with
 |nil=>simp[Ax7,h]
 |cons z r=>simp[Ax7,h]
theorem Bg5{l:List Ax}(w:Adn l){way:List Int}(hin: ∀x∈way,0≤x∧x<(l.length:Int))(hlen:way.length≤140737488355327): ∀(n i:Nat),Bg2 l (way.drop i)->i≤way.length->way.length - i<n->Av5 K l way n (i:Int)=some (Ax7 l (way.drop i)&&A5e l way):=by
 intro n
 induction n with
 |zero=>omega
 |succ n ih=>
  intro i hch hi hn;rw[Av5];unfold A1g;rcases Hw i way.length with h|h
  ·rw[Wy h];simp only[cond_true];rw[A13 h]at hch;rw[if_pos ⟨by omega,by omega⟩,if_pos (hin _ (Al6 h)),A13 h,Wx (by omega),←V2 h]
   rcases Hw (i+1) way.length with h2|h2
   ·rw[A13 h2]at hch
    have hc1:=hch.1;rw[←V2 h,←V2 h2]at hc1;rw[Wy h2,A13 h2,←V2 h2];simp only[cond_true];rw[if_pos ⟨by omega,by omega⟩,Bsc w (hin _ (Al6 h)) (hin _ (Al6 h2)) hc1,ih (i+1) (by rw[A13 h2];exact hch.2) h (by omega),A13 h2,←V2 h2,Ax7]
    generalize gt way ((i+1:Nat):Int)=y;generalize gt way (i:Int)=x
    by_cases c1:(gt l x).Gt=1
    ·by_cases c3:(gt l y).Gt=1
     ·by_cases c2:(gt l x).Gu=(gt l y).Mu
      all_goals grind
     simp_all[Bes]
    grind
   ·rw[Aqt h2,ih (i+1) (by rw[Z48 h2];trivial) h (by omega),show way.drop (i+1)=[] from Z48 h2]
    simp only[cond_false,Ax7]
    by_cases c1:(gt l (gt way (i:Int))).Gt=1
    all_goals grind
  ·rw[Aqt h,show way.drop i=[] from Z48 h]
   simp only[cond_false,Ax7,Z30];exact Ber hin hlen
def Azq (l:List Ax)(k:Int):Bool:=Ax7 l (Akf l l.length k)&&A5e l (Akf l l.length k)
include hK in
theorem A4j{l:List Ax}(w:Adn l)(k:Int)(hk: -9223372036854775808≤k∧k≤9223372036854775807):Ay9 K l k=some (Azq l k):=by
 have hb:=Ahp w
 have hr:=A97 (l:=l) l.length k;unfold Ay9;rw[A5d hK w k hk];exact Bg5 w (Bct _ _) (by omega) K 0 (Bg3 _ _) (Z21 _) (by omega)
include hK in
theorem Bet{l:List Ax}(w:Adn l)(k:Int):A3q K l k=some (Azq l k):=by
 have hb:=Ahp w
 have hr:=A97 (l:=l) l.length k;unfold A3q;rw[A98 hK w k];exact Bg4 (Bct _ _) (by omega) K 0 (Z21 _) (by omega)
def A35 (h:Ce):Bool:=bif decide (h.A9≥0)then decide (h.C5≥1)else false
theorem A65 (K:Nat)(h:Ce):Axj K h=some (A35 h):=by
 unfold Axj A35;grind
def Axx (l:List Ax)(h:Ce):Int×Int:=bif A35 h then(bif decide (Ay0 l h<0)then(-1,2)else(bif Azq l (Ay0 l h)then(Ay0 l h,0)else(-1,2)))else(-1,1)
include hK in
theorem Ax4{w:Bm}(hw:Adn w.fL)(h:Ce):Aqp K w h=some (Axx w.fL h):=by
 have hb:=Ahp hw;unfold Aqp Axx;rw[A65,A7x K hb];simp only[Z0];cases A35 h with
 |false=>rfl
 |true=>
  simp only[cond_true];cases e:decide (Ay0 w.fL h<0)with
  |true=>rfl
  |false=>
   have h1:=A8i (of_decide_eq_false e);simp only[cond_false];rw[A4j hK hw _ ⟨by omega,by omega⟩]
   grind
theorem Bpd{l:List Ax}{h:Ce}(h0:(Axx l h).2=0):0≤(Axx l h).1∧(Axx l h).1<(l.length:Int):=by
 unfold Axx at *;cases e1:A35 h with
 |false=>grind
 |true=>
  rw[e1]at h0;simp only[cond_true]at *;cases e:decide (Ay0 l h<0)with
  |true=>grind
  |false=>
   rw[e]at h0;simp only[cond_false]at*
   grind [A8i,of_decide_eq_false]
end
def plB (l:List Ax)(n:Int):Bool:=decide (0≤Ark .i64 n 1∧Ark .i64 n 1<(l.length:Int))
theorem A3b{l:List Ax}{n:Int}(h:plB l n=true):0≤Ark .i64 n 1∧Ark .i64 n 1<(l.length:Int):=of_decide_eq_true h
theorem A7c (K:Nat){l:List Ax}(hl:l.length≤140737488355327)(n:Int):Atj K l (Ark .i64 n 1)=some (plB l n):=A8h K hl _
theorem Ay1 (K:Nat){l:List Ax}(hl:l.length≤140737488355327){n:Int}(hn:wfi n):Ab4 K l n=some (plB l n):=by
 rw[Ayz];unfold plB;obtain⟨h1,h2⟩:=hn
 congr 1
 rw[decide_eq_decide]
 grind [Ark,IntKind.wrap_i64]
def A4k (l:List Ax)(k:Int):Bool:=plB l (gt l k).fUp&&((gt l (Ark .i64 (gt l k).fUp 1)).Gt==1&&(gt l (Ark .i64 (gt l k).fUp 1)).Mu==(gt l k).Gu)
theorem A8j (K:Nat){l:List Ax}(w:Adn l){k:Int}(h:0≤k∧k<(l.length:Int)):Avk K l k=some (A4k l k):=by
 unfold Avk A4k;rw[if_pos h,Ay1 K (Ahp w) (w.1 _ (Apa h.1 h.2)).up,Z0,if_pos h];cases hp:plB l (gt l k).fUp with
 |false=>rfl
 |true=>
  have:=A3b hp
  grind
theorem A36 (K:Nat){l:List Ax}(w:Adn l){k:Int}(h:0≤k∧k<(l.length:Int)):Aur K l k=some (A4k l k):=by
 unfold Aur A4k;rw[if_pos h,A7c K (Ahp w),Z0,if_pos h];cases hp:plB l (gt l k).fUp with
 |false=>rfl
 |true=>
  have:=A3b hp
  grind
def Avu (l:List Ax)(n:Int):Bool:=n==0||(plB l n&&(gt l (Ark .i64 n 1)).Gt==1)
theorem A42{l:List Ax}{n:Int}(h:Avu l n=true)(h0:n≠0):0≤Ark .i64 n 1∧Ark .i64 n 1<(l.length:Int):=by
 unfold Avu at h;rw[As5 h0,Z52,Z4]at h;exact A3b h.1
theorem A55 (K:Nat){l:List Ax}(w:Adn l){n:Int}(hn:wfi n):Ati K l n=some (Avu l n):=by
 unfold Ati Avu;rw[Ay1 K (Ahp w) hn,Z0];cases n==0 with
 |true=>rfl
 |false=>
  cases hp:plB l n with
  |false=>rfl
  |true=>rw[if_pos (A3b hp)];rfl
theorem A56 (K:Nat){l:List Ax}(w:Adn l)(n:Int):Ax3 K l n=some (Avu l n):=by
 unfold Ax3 Avu;rw[A7c K (Ahp w),Z0];cases n==0 with
 |true=>rfl
 |false=>
  cases hp:plB l n with
  |false=>rfl
  |true=>rw[if_pos (A3b hp)];rfl
def A8w (r:List Int):Int:=gt r ((r.length - 1:Nat):Int)
def A43 (l:List Ax)(k:Int):Bool:=decide (((Akf l l.length k).length:Int)≤4)&& !A4k l (A8w (Akf l l.length k))
def A9f (l:List Ax)(k:Int):Bool:= !((gt l k).Gw==0&&A4k l k)||(gt l (Ark .i64 (gt l k).fUp 1)).Bw==Arj .i64 k 1
def Bbh (l:List Ax)(k:Int):Bool:=(gt l k).Gw==0||(gt l (Ark .i64 (gt l k).Gw 1)).Gv==Arj .i64 k 1
def Beu (l:List Ax)(k:Int):Bool:=(gt l k).Gv==0||((gt l (Ark .i64 (gt l k).Gv 1)).Gw==Arj .i64 k 1&&((gt l (Ark .i64 (gt l k).Gv 1)).fUp==(gt l k).fUp&&(gt l (Ark .i64 (gt l k).Gv 1)).Gu==(gt l k).Gu))
def Bkq (l:List Ax)(k:Int):Bool:=(gt l k).Bw==0||((gt l (Ark .i64 (gt l k).Bw 1)).Gw==0&&((gt l (Ark .i64 (gt l k).Bw 1)).fUp==Arj .i64 k 1&&(gt l (Ark .i64 (gt l k).Bw 1)).Gu==(gt l k).Mu))
def A6p (l:List Ax)(k:Int):Bool:=Avu l (gt l k).Bw&&(Avu l (gt l k).Gv&&(Avu l (gt l k).Gw&&((gt l k).fUp==0||plB l (gt l k).fUp)))
def A4w (l:List Ax)(k:Int):Bool:=A6p l k&&(Bkq l k&&(Beu l k&&(Bbh l k&&A9f l k)))
def A99 (l:List Ax):Bool:=(List.range l.length).all (fun k=>(gt l (k:Int)).Gt != 1||(A4w l k&&A43 l k))
theorem Baa{l:List Ax}{k:Int}(h:0≤k∧k<(l.length:Int)):0<(Akf l l.length k).length:=by
 obtain⟨m,hm⟩: ∃m,l.length=m+1:=⟨l.length - 1,by omega⟩
 simp_all[Akf.eq_2]
theorem Bcu{l:List Ax}{k:Int}(h:0≤k∧k<(l.length:Int)):0≤A8w (Akf l l.length k)∧A8w (Akf l l.length k)<(l.length:Int):=by
 have:=Baa h;exact Bct _ _ _ (Al6 (by omega))
theorem Bix{l:List Ax}(w:Adn l){k:Int}(h:0≤k∧k<(l.length:Int)):Ark .i64 ((Akf l l.length k).length:Int) 1=(((Akf l l.length k).length - 1:Nat):Int)∧(0:Int)≤(((Akf l l.length k).length - 1:Nat):Int)∧(((Akf l l.length k).length - 1:Nat):Int)<((Akf l l.length k).length:Int):=by
 grind [Baa,A97,Ahp,Ark,Gy]
section
variable {K:Nat} (hK:281474976710656≤K)
include hK
theorem Bsd{l:List Ax}(w:Adn l){k:Int}(h:0≤k∧k<(l.length:Int)):Awk K l k=some (A43 l k):=by
 have h3:=Ahp w;obtain⟨e1,e2,e3⟩:=Bix w h;unfold Awk;rw[A5d hK w k ⟨by omega,by omega⟩,Z0,e1,if_pos ⟨e2,e3⟩]
 have:=A8j K w (Bcu h);unfold A8w at this;rw[this,Z0,Axd];rfl
theorem Bse{l:List Ax}(w:Adn l){k:Int}(h:0≤k∧k<(l.length:Int)):Ayp K l k (gt l k).fUp (gt l k).Gw=some (A9f l k&&A43 l k):=by
 unfold Ayp A9f;rw[A8j K w h,Bsd hK w h,Z0];cases (gt l k).Gw==0 with
 |false=>rfl
 |true=>
  cases hc:A4k l k with
  |false=>rfl
  |true=>
   have:plB l (gt l k).fUp=true:=by simp_all[A4k]
   rw[cond_true,cond_true,if_pos (A3b this),bne,Agx]
   grind
theorem Bsf{l:List Ax}(w:Adn l){k:Int}(h:0≤k∧k<(l.length:Int))(hp:Avu l (gt l k).Gw=true):Ayq K l k (gt l k).fUp (gt l k).Gw=some (Bbh l k&&(A9f l k&&A43 l k)):=by
 unfold Ayq Bbh;rw[Bse hK w h]
 by_cases h0:(gt l k).Gw=0
 ·grind
 ·rw[A2d h0,As5 h0,cond_true,if_pos (A42 hp h0),bne,Agx]
  grind
theorem Bsg{l:List Ax}(w:Adn l){k:Int}(h:0≤k∧k<(l.length:Int))(hp:Avu l (gt l k).Gw=true)(hn:Avu l (gt l k).Gv=true):Ayr K l k (gt l k).fUp (gt l k).Gu (gt l k).Gv (gt l k).Gw=some (Beu l k&&(Bbh l k&&(A9f l k&&A43 l k))):=by
 unfold Ayr Beu;rw[Bsf hK w h hp]
 by_cases h0:(gt l k).Gv=0
 ·grind
 ·have hi:=A42 hn h0
  grind
theorem Bsh{l:List Ax}(w:Adn l){k:Int}(h:0≤k∧k<(l.length:Int))(hf:Avu l (gt l k).Bw=true)(hp:Avu l (gt l k).Gw=true)(hn:Avu l (gt l k).Gv=true):Ays K l k (gt l k).Gt (gt l k).C5 (gt l k).Mu (gt l k).fUp (gt l k).Gu (gt l k).Bw (gt l k).Gv (gt l k).Gw (gt l k).Ad (gt l k).M7 (gt l k).Gz (gt l k).D3 (gt l k).De=some (Bkq l k&&(Beu l k&&(Bbh l k&&(A9f l k&&A43 l k)))):=by
 unfold Ays Bkq;rw[Bsg hK w h hp hn]
 by_cases h0:(gt l k).Bw=0
 ·grind
 ·have hi:=A42 hf h0
  grind
theorem Bg6{l:List Ax}(w:Adn l){k:Int}(h:0≤k∧k<(l.length:Int)):A3g K l k=some (A4w l k&&A43 l k):=by
 have hn:=w.1 _ (Apa h.1 h.2);unfold A3g A4w A6p;rw[if_pos h,Ay1 K (Ahp w) hn.up,A55 K w hn.first,A55 K w hn.next,A55 K w hn.prev];simp only[Z0,Agx];cases hf:Avu l (gt l k).Bw with
 |false=>grind
 |true=>
 cases hx:Avu l (gt l k).Gv with
 |false=>grind
 |true=>
 cases hp:Avu l (gt l k).Gw with
 |false=>grind
 |true=>
 rw[Bsh hK w h hf hp hx];simp only[bne];cases (gt l k).fUp==0<;>cases plB l (gt l k).fUp<;>simp only[Bool.not_true,Bool.not_false,cond_true,cond_false,Z30,Bool.false_and,Bool.true_or,Z52,Bool.and_assoc]
theorem Bev{l:List Ax}(w:Adn l):A2q K l=some (A99 l):=by
 have hl:=Ahp w;unfold A2q A99;rw[Ast hK l.length (by omega) (fun k=>(gt l (k:Int)).Gt != 1||(A4w l k&&A43 l k)) (some true) (fun n i=>Asy K l n i) (fun n i h=> ?_) (fun n=> ?_)]
 ·grind
 ·simp only[Asy,A0h];rw[Wy h,cond_true,if_pos (Agy h),Bg6 hK w (Agy h),Wx (by omega),Z0,Agx,bne]
  grind
 ·show Asy K l (n+1) _=_
  simp_all[Asy]
theorem Bsi{l:List Ax}(w:Adn l){k:Int}(h:0≤k∧k<(l.length:Int)):Awv K l k (gt l k).fUp (gt l k).Gw=some (A9f l k):=by
 unfold Awv A9f;rw[A36 K w h,Z0,bne];cases (gt l k).Gw==0 with
 |false=>rfl
 |true=>
  cases hc:A4k l k with
  |false=>rfl
  |true=>
   simp_all[plB,A4k]
theorem Bsj{l:List Ax}(w:Adn l){k:Int}(h:0≤k∧k<(l.length:Int))(hp:Avu l (gt l k).Gw=true):Aww K l k (gt l k).fUp (gt l k).Gw=some (Bbh l k&&A9f l k):=by
 unfold Aww Bbh;rw[Bsi hK w h]
 by_cases h0:(gt l k).Gw=0
 ·grind
 ·rw[A2d h0,As5 h0,cond_true,if_pos (A42 hp h0),bne,Agx]
  grind
theorem Bsk{l:List Ax}(w:Adn l){k:Int}(h:0≤k∧k<(l.length:Int))(hp:Avu l (gt l k).Gw=true)(hn:Avu l (gt l k).Gv=true):Awx K l k (gt l k).fUp (gt l k).Gu (gt l k).Gv (gt l k).Gw=some (Beu l k&&(Bbh l k&&A9f l k)):=by
 unfold Awx Beu;rw[Bsj hK w h hp]
 by_cases h0:(gt l k).Gv=0
 ·grind
 ·have hi:=A42 hn h0
  grind
theorem Bsl{l:List Ax}(w:Adn l){k:Int}(h:0≤k∧k<(l.length:Int))(hf:Avu l (gt l k).Bw=true)(hp:Avu l (gt l k).Gw=true)(hn:Avu l (gt l k).Gv=true):Awy K l k (gt l k).Gt (gt l k).C5 (gt l k).Mu (gt l k).fUp (gt l k).Gu (gt l k).Bw (gt l k).Gv (gt l k).Gw (gt l k).Ad (gt l k).M7 (gt l k).Gz (gt l k).D3 (gt l k).De=some (Bkq l k&&(Beu l k&&(Bbh l k&&A9f l k))):=by
 unfold Awy Bkq;rw[Bsk hK w h hp hn]
 by_cases h0:(gt l k).Bw=0
 ·grind
 ·have hi:=A42 hf h0
  grind
theorem Bcv{l:List Ax}(w:Adn l){k:Int}(h:0≤k∧k<(l.length:Int)):A1z K l k=some (A4w l k):=by
 unfold A1z A4w A6p;rw[if_pos h,A7c K (Ahp w),A56 K w,A56 K w,A56 K w];simp only[Z0,Agx];cases hf:Avu l (gt l k).Bw with
 |false=>rfl
 |true=>
 cases hx:Avu l (gt l k).Gv with
 |false=>rfl
 |true=>
 cases hp:Avu l (gt l k).Gw with
 |false=>rfl
 |true=>
 rw[Bsl hK w h hf hp hx]
 grind
theorem Bew{l:List Ax}(w:Adn l):A2x K l=some (A99 l):=by
 have hl:=Ahp w;unfold A2x A99;rw[Ast hK l.length (by omega) (fun k=>(gt l (k:Int)).Gt != 1||(A4w l k&&A43 l k)) (some true) (fun n i=>As1 K l n l (l.length:Int) i) (fun n i h=> ?_) (fun n=> ?_)]
 ·grind
 ·have hc:=Agy h;obtain⟨e1,e2,e3⟩:=Bix w hc
  have e4:=A36 K w (Bcu hc);unfold A8w at e4
  have e5:decide (((Akf l l.length i).length:Int)>4)= !decide (((Akf l l.length i).length:Int)≤4):=by grind
  simp only[As1,A0q];rw[Wy h,cond_true,if_pos hc,Bcv hK w hc,Wx (by omega),Z0,A98 hK w,Z0,e1,if_pos ⟨e2,e3⟩,e4,Z0,e5]
  unfold A43 A8w
  grind
 ·show As1 K l (n+1) _ _ _=_
  simp_all[As1]
end
theorem A6q{c:Fc}(hc:Agz c=true):Ark .i64 c.Ds 1=c.Ds - 1:=by
 obtain⟨_,b2,_⟩:=A1 hc
 grind [Ark,Gy]
def An8 (c:Fc)(x:A7):Bool:=
 Agz c&&(inB x.A9 0 c.B9&&(inB x.Bw 0 c.B9&&(decide ((x.De.length:Int)≤6)&&(x.De.all (fun y=>inB y 0 255)&&(Axw c x.Ad&&(inB x.Hp 0 (c.Ds - 1)&&(decide ((x.Ad.length:Int)>0)||x.Hp==0)))))))
section
variable {K:Nat} (hK:281474976710656≤K)
include hK
theorem Bbi (c:Fc)(x:A7)(hw:A3a x):A1p K c x=some (An8 c x):=by
 have h1:=Aw4 hK hw.tags
 have h2:=Aw4 hK hw.chunks;unfold A1p Aze;rw[Atm];simp only[Z0,Aok];cases hc:Agz c with
 |false=>simp[An8,hc]
 |true=>
 have hA:Aqz K c x.Ad K 0=some (Axw c x.Ad):=by
  rw[Ast hK x.Ad.length (by omega) (fun i=>inB (gt x.Ad i) 0 (c.Ad - 1)&& !(x.Ad.take i).contains (gt x.Ad i)) (some true) (fun k i=>Aqz K c x.Ad k i) (fun k i h=> ?_) (fun k=> ?_)]
  ·unfold Axw;grind
  ·have hp:(x.Ad.take i).length≤140737488355328:=by grind
   simp only[Aqz];rw[Wy h,cond_true,if_pos (Agy h),Aok,if_pos (Beo (by omega)),A7b,A30 hK _ _ hp,Wx (by omega),A07 hK hc]
   grind
  ·show Aqz K c x.Ad (k+1) _=_
   simp_all[Aqz]
 have hB:Ata K c x.De x.Ad K 0=some (x.De.all (fun y=>inB y 0 255)&&Axw c x.Ad):=by
  rw[Av1 hK x.De (by omega) (fun y=>inB y 0 255) (some (Axw c x.Ad)) (Ata K c x.De x.Ad) (fun k i h=> ?_) (fun k=> ?_)]
  ·grind
  ·rw[Ata,Wy h,cond_true,if_pos (Agy h),V2 h,Aok,Wx (by omega),Z0,Agx]
  simp_all[Ata]
 rw[hB,A6q hc]
 have e6:decide ((x.De.length:Int)>6)= !decide ((x.De.length:Int)≤6):=by grind
 have e0:decide ((x.Ad.length:Int)>0)= !((x.Ad.length:Int)==0):=by
  grind
 unfold An8
 grind
theorem Bbj (c:Fc)(x:A7)(hw:A3a x):A10 K c x=some (An8 c x):=by
 have h1:=Aw4 hK hw.tags
 have h2:=Aw4 hK hw.chunks;unfold A10;rw[Aw5];simp only[Z0,Azl];cases hc:Agz c with
 |false=>simp[An8,hc]
 |true=>
 rw[A4u hK _ (by omega),A64 hK hc _ h2,A6q hc]
 simp_all[An8,A3z,Axd]
end
theorem Aug{c:Fc}{x:A7}(h:An8 c x=true):Agz c=true∧(0≤x.A9∧x.A9≤c.B9)∧(0≤x.Bw∧x.Bw≤c.B9)∧Axw c x.Ad=true∧(0≤x.Hp∧x.Hp≤c.Ds - 1):=by
 unfold An8 at h;simp only[Z4,Abx]at h
 grind
theorem A0v{c:Fc}{l:List Int}(h:Axw c l=true): ∀x∈l,0≤x∧x<c.Ad:=by
 intro x hx;obtain⟨i,hi,e⟩:=List.mem_iff_getElem.1 hx;unfold Axw at h;rw[Z1]at h
 have:=h i (by grind)
 rw[Z4,V2 hi,e,Abx]at this;omega
theorem A7d{l:List Int}:l.Nodup ↔ ∀i,(h:i<l.length)->l[i] ∉ l.take i:=by
 unfold List.Nodup;rw[List.pairwise_iff_getElem];constructor
 ·intro h i hi hm;obtain⟨j,hj,e⟩:=List.mem_iff_getElem.1 hm
  grind
 ·intro h i j hi hj hij e;exact h j hj (List.mem_iff_getElem.2 ⟨i,by grind,by grind⟩)
theorem A0z{c:Fc}{l:List Int}(h:Axw c l=true):l.Nodup:=by
 rw[A7d];intro i hi hm;unfold Axw at h;rw[Z1]at h
 have:=h i (by grind)
 rw[Z4,V2 hi,Z44,List.contains_eq_mem]at this
 grind
theorem Ay2{l:List Int}: ∀ {o:List Int},o.Nodup->(∀x∈o,x∈l)->o.length≤l.length:=by
 intro o
 induction o generalizing l with
 |nil=>grind
 |cons x o ih=>
  intro hn hs
  have hx:x∈l:=hs x (by simp)
  rw[List.nodup_cons]at hn
  have h2:=ih (l:=l.erase x) hn.2 (fun y hy=>by
   grind)
  grind
theorem Aub{c:Fc}(hc:Agz c=true){l:List Int}(h:Axw c l=true):l.length≤12:=by
 obtain⟨b1,_⟩:=A1 hc
 have:=Ay2 (l:=(List.range 12).map (fun i:Nat=>(i:Int))) (A0z h) (fun x hx=>by
  have:=A0v h x hx;rw[F9];exact⟨x.toNat,by grind,by omega⟩)
 grind
def A2e (l:List Ax):Nat->Int->List Int
 |0,_=>[]
 |n+1,k=>if 0≤k∧k<(l.length:Int)then k::A2e l n (Ark .i64 (gt l k).Gv 1)else []
theorem A7y{l:List Ax}: ∀(n:Nat) (k:Int),∀x∈A2e l n k,0≤x∧x<(l.length:Int):=by
 intro n
 induction n with
 |zero=>intro k x hx;cases hx
 |succ n ih=>
  intro k x hx;unfold A2e at hx
  grind
theorem A6r{l:List Ax}: ∀(n:Nat) (k:Int),(A2e l n k).length≤n:=by
 intro n
 induction n with
 |zero=>intro k;exact Z9 _
 |succ n ih=>
  intro k;unfold A2e
  grind
def Ald (l:List Ax)(first:Int):List Int:=A2e l l.length (Ark .i64 first 1)
def A2f (l:List Ax)(k:Int):Bool:=(gt l k).Gt==1&&((gt l k).fUp != 0&& !A4k l k)
theorem A8x (K:Nat){l:List Ax}(w:Adn l){k:Int}(h:0≤k∧k<(l.length:Int)):Awl K l k=some (A2f l k):=by
 simp_all[Awl,A2f,A8j,Axd]
theorem A8y (K:Nat){l:List Ax}(w:Adn l){k:Int}(h:0≤k∧k<(l.length:Int)):Avi K l k=some (A2f l k):=by
 simp_all[Avi,A2f,A36,Axd]
section
variable {K:Nat} (hK:281474976710656≤K)
theorem Bkr{l:List Ax}(w:Adn l): ∀(n:Nat) (k:Int) (v:List Int),wfi k->v.length≤l.length->l.length - v.length<n->Axn K l n k v=some (v++A2e l (l.length - v.length) (Ark .i64 k 1)):=by
 have hm:=P2
 have hb:l.length*152≤140737488355327:=w.2;intro n
 induction n with
 |zero=>omega
 |succ n ih=>
  intro k v hk hv hn;rw[Axn,Ay1 K (Ahp w) hk];simp only[Z0]
  by_cases hs:0≤Ark .i64 k 1∧Ark .i64 k 1<(l.length:Int)
  ·rw[show plB l k=true from decide_eq_true hs]
   simp only[cond_true];rcases Hw v.length l.length with h|h
   ·rw[Wy h];simp only[cond_true]
    have hl2:(v++[Ark .i64 k 1]).length=v.length+1:=by simp
    rw[if_pos ⟨by omega,by omega⟩,if_pos hs,ih (gt l (Ark .i64 k 1)).Gv _ (w.1 _ (Apa hs.1 hs.2)).next (by omega) (by omega),hl2]
    obtain⟨m,hm⟩: ∃m,l.length - v.length=m+1:=⟨l.length - v.length - 1,by omega⟩
    rw[hm,A2e,if_pos hs,show l.length - (v.length+1)=m from by omega]
    simp
   ·rw[Aqt h];rw[show l.length - v.length=0 from by omega]
    simp[A2e]
  ·rw[show plB l k=false from decide_eq_false hs]
   have:A2e l (l.length - v.length) (Ark .i64 k 1)=[]:=by
    cases l.length - v.length with
    |zero=>rfl
    |succ m=>rw[A2e,if_neg hs]
   grind
theorem Bks{l:List Ax}(w:Adn l): ∀(n:Nat) (k:Int) (v:List Int),v.length≤l.length->l.length - v.length<n->Axv K l n v k=some (v++A2e l (l.length - v.length) k):=by
 have hm:=P2
 have hb:l.length*152≤140737488355327:=w.2;intro n
 induction n with
 |zero=>omega
 |succ n ih=>
  intro k v hv hn;rw[Axv,A8h K (by omega)]
  simp only[Z0]
  by_cases hs:0≤k∧k<(l.length:Int)
  ·rw[decide_eq_true hs];simp only[cond_true];rcases Hw v.length l.length with h|h
   ·rw[Wy h];simp only[cond_true]
    have hl2:(v++[k]).length=v.length+1:=by simp
    rw[if_pos ⟨by omega,by omega⟩,if_pos hs,ih _ _ (by omega) (by omega),hl2]
    obtain⟨m,hm⟩: ∃m,l.length - v.length=m+1:=⟨l.length - v.length - 1,by omega⟩
    rw[hm,A2e,if_pos hs,show l.length - (v.length+1)=m from by omega]
    simp
   ·rw[Aqt h];rw[show l.length - v.length=0 from by omega]
    simp[A2e]
  ·rw[decide_eq_false hs]
   have:A2e l (l.length - v.length) k=[]:=by
    cases l.length - v.length with
    |zero=>rfl
    |succ m=>rw[A2e,if_neg hs]
   grind
include hK
theorem A8z{l:List Ax}(w:Adn l){k:Int}(hk:wfi k):Az1 K l k=some (Ald l k):=by
 have hb:=Ahp w;unfold Az1 Ald
 have:=Bkr (K:=K) w K k [] hk (Z21 _) (by omega)
 grind
theorem Bex{l:List Ax}(w:Adn l)(k:Int):A2y K l k=some (Ald l k):=by
 have hb:=Ahp w;unfold A2y Ald
 have:=Bks (K:=K) w K (Ark .i64 k 1) [] (Z21 _) (by omega)
 grind
def Aq8 (w:Bm)(x:A7):Bool:= !decide ((x.Ad.length:Int)>0)||Atn ((w.fP.Fi.drop (gt x.Ad 0*w.fC.Ds).toNat).take x.Hp.toNat)
def Az4 (w:Bm)(x:A7):Bool:=x.A9==0||(gt w.fL (Ark .i64 x.A9 1)).Gt==2
def A14 (w:Bm)(x:A7):Bool:=x.Bw==0||(gt w.fL (Ark .i64 x.Bw 1)).Gw==0
def A5f (w:Bm)(x:A7):Bool:=x.Ad.all (fun k=>gt w.fP.Gt k==2)
def Av2 (w:Bm)(x:A7):Bool:=(Ald w.fL x.Bw).all (A2f w.fL)
def Aon (w:Bm)(x:A7):Bool:=An8 w.fC x&&(A5f w x&&(Aq8 w x&&(Az4 w x&&(A14 w x&&Av2 w x))))
theorem A7z{w:Bm}(hL:(w.fL.length:Int)=w.fC.B9)(hc:Agz w.fC=true){n:Int}(h0:n≠0)(h1:0≤n)(h2:n≤w.fC.B9):0≤Ark .i64 n 1∧Ark .i64 n 1<(w.fL.length:Int):=by
 obtain⟨_,_,b3,_⟩:=A1 hc
 grind [Ark,Gy]
theorem Bbk (w:Bm)(hw:Alq w)(hp:Aw7 w.fC w.fP=true)(hL:(w.fL.length:Int)=w.fC.B9)(i:Nat)(hi:i<w.fQ.length):A0i K w i=some (Aon w (gt w.fQ i)):=by
 have hx:=hw.q.1 _ (Al6 hi);unfold A0i;rw[if_pos (Agy hi)];generalize gt w.fQ i=x at *;rw[Bbi hK _ _ hx,Z0,Agx];unfold Aon;cases hr:An8 w.fC x with
 |false=>rfl
 |true=>
 rw[cond_true,Z30];obtain⟨hc,⟨s1,s2⟩,⟨f1,f2⟩,hd,d1,d2⟩:=Aug hr;obtain⟨_,hm,hst,_⟩:=Aut hp;obtain⟨b1,b2,b3,_⟩:=A1 hc
 have hch:=A0v hd
 have hl:=Aw4 hK hx.chunks
 have h3:Art K x.Bw w.fL=some (Av2 w x):=by
  unfold Art Av2
  have hk:=A6r (l:=w.fL) w.fL.length (Ark .i64 x.Bw 1)
  have hin:=A7y (l:=w.fL) w.fL.length (Ark .i64 x.Bw 1);rw[A8z hK hw.l hx.first,Z0];change (Ald w.fL x.Bw).length≤_ at hk;change ∀y∈Ald w.fL x.Bw,_ at hin;generalize Ald w.fL x.Bw=r at *;rw[Av1 hK r (by omega) (A2f w.fL) (some true) (Att K w.fL r) (fun n i h=> ?_) (fun n=> ?_)]
  ·grind
  ·rw[Att,Wy h,cond_true,if_pos (Agy h),A8x K hw.l (hin _ (Al6 h)),Wx (by omega),Z0,Agx,V2 h]
  simp_all[Att]
 have h2:Avo K x.A9 x.Bw w.fL=some (Az4 w x&&(A14 w x&&Av2 w x)):=by
  unfold Avo Az4 A14;rw[h3]
  by_cases g1:x.Bw=0
  ·rw[g1]
   by_cases g2:x.A9=0
   ·grind
   ·rw[A2d g2,As5 g2,cond_true,if_pos (A7z hK hL hc g2 s1 s2)]
    grind
  ·have hF:(bif (x.Bw != 0)then(if(0:Int)≤(Ark .i64 x.Bw 1)∧(Ark .i64 x.Bw 1)<(w.fL.length:Int)then(bif (((gt w.fL (Ark .i64 x.Bw 1)).Gw) != 0)then some false else some (Av2 w x))else none)else some (Av2 w x))=some ((x.Bw==0||(gt w.fL (Ark .i64 x.Bw 1)).Gw==0)&&Av2 w x):=by
    rw[A2d g1,As5 g1,cond_true,if_pos (A7z hK hL hc g1 f1 f2)]
    grind
   rw[hF]
   by_cases g2:x.A9=0
   ·grind
   ·rw[A2d g2,As5 g2,cond_true,if_pos (A7z hK hL hc g2 s1 s2)]
    grind
 rw[Av1 hK x.Ad (by omega) (fun k=>gt w.fP.Gt k==2) (some (Aq8 w x&&(Az4 w x&&(A14 w x&&Av2 w x)))) (fun n i=>Ar5 K n i x.A9 x.Bw x.De x.Ad x.Hp w.fC.Ad w.fC.Ds w.fC.B9 w.fC.Eu w.fC.Ca w.fC.Dt w.fP.Fi w.fP.Gt w.fP.Fj w.fL w.fQ w.Jc) (fun n i h=> ?_) (fun n=> ?_)]
 ·rw[Axd];rfl
 ·simp only[Ar5]
  have h5:=hch _ (Al6 h);rw[Wy h,cond_true,if_pos (Agy h),if_pos ⟨h5.1,by omega⟩,Wx (by omega),bne,Agx,V2 h]
 ·show Ar5 K (n+1) _ _ _ _ _ _ _ _ _ _ _ _ _ _ _ _ _ _=_;rw[Ar5,Aqt (Z9 _),cond_false,h2];unfold Aq8
  by_cases g:(x.Ad.length:Int)>0
  ·have h5:=hch _ (Apa (l:=x.Ad) (Int.le_refl 0) (by omega))
   obtain⟨e1,e2,e3,e4⟩:=A32 hc hm h5.1 h5.2
   have e5:Arj .i64 (gt x.Ad 0*w.fC.Ds) x.Hp=gt x.Ad 0*w.fC.Ds+x.Hp:=by
    have:=Axe (a:=gt x.Ad 0) (b:=w.fC.Ds) (m:=12) (n:=16) h5.1 (by omega) (by omega) b2.2
    grind [Arj,Gy]
   rw[decide_eq_true g,cond_true,if_pos ⟨by omega,by omega⟩,if_pos ⟨by omega,by omega⟩,e1,e5,if_pos ⟨e3,by omega,by omega⟩,A20 hK _ (by grind),show gt x.Ad 0*w.fC.Ds+x.Hp - gt x.Ad 0*w.fC.Ds=x.Hp by omega]
   grind
  grind
end
def Aol (N:Nat)(l:List Int):List Int:=(List.range N).map (fun k:Nat=>((l.count (k:Int):Nat):Int))
theorem A70 (N:Nat)(l:List Int):(Aol N l).length=N:=by simp[Aol]
theorem A4l{N:Nat}{l:List Int}{x:Int}(h0:0≤x)(h1:x<N):gt (Aol N l) x=((l.count x:Nat):Int):=by
 obtain⟨k,rfl⟩: ∃k:Nat,x=k:=⟨x.toNat,by omega⟩
 grind [V2,Aol]
theorem Bey (N:Nat):Aol N []=List.replicate N 0:=by
 refine List.ext_getElem (by simp[Aol]) fun i h1 h2=> ?_
 simp[Aol]
theorem Bez{N:Nat}{l:List Int}{x:Int}(h0:0≤x)(h1:x<N)(hl:l.length≤140737488355327):(Aol N l).set x.toNat (Arj .i64 (gt (Aol N l) x) 1)=Aol N (l++[x]):=by
 have hc:l.count x≤l.length:=List.count_le_length
 have e:Arj .i64 (gt (Aol N l) x) 1=((l.count x+1:Nat):Int):=by
  grind [A4l,Wx]
 rw[e];refine List.ext_getElem (by simp[Aol]) fun i h2 h3=> ?_
 rw[List.getElem_set];simp only[Aol,List.getElem_map,List.getElem_range,List.count_append,List.count_singleton]
 grind
theorem Bab{C P:List Int}(hs: ∀x∈C,x∈P)(hP:P.Nodup):(∀x∈P,C.count x=1) ↔ (C.Nodup∧C.length=P.length):=by
 constructor
 ·intro h
  have hn:C.Nodup:=by
   grind
  refine⟨hn,?_⟩
  have h1:=Ay2 hn hs
  have h2:=Ay2 hP (l:=C) (fun x hx=>List.count_pos_iff.1 (by grind))
  omega
 ·rintro⟨hn,hl⟩ x hx
  have hp:=A8v hn hs hl
  have:=hn.count (a:=x);rw[this,if_pos (hp.mem_iff.2 hx)]
def chL (q:List A7):List Int:=q.flatMap (fun x=>x.Ad)
def slL (q:List A7):List Int:=q.flatMap (fun x=>if x.A9=0 then []else [Ark .i64 x.A9 1])
def kdL (l:List Ax)(q:List A7):List Int:=q.flatMap (fun x=>Ald l x.Bw)
theorem Bbz{α β:Type}(q:List α)(f:α->List β)(i:Nat)(h:i<q.length):(q.take (i+1)).flatMap f=(q.take i).flatMap f++f q[i]:=by
 grind [List.take_append_getElem]
theorem A71{α β:Type}(q:List α)(f:α->List β)(m:Nat)(h: ∀x∈q,(f x).length≤m):(q.flatMap f).length≤q.length*m:=by
 induction q with
 |nil=>simp
 |cons x q ih=>
  have h1:=h x (by simp)
  have h2:=ih fun y hy=>h y (by simp[hy])
  simp only[List.flatMap_cons,Z23,Z28,Va,Nat.one_mul];omega
def A80 (w:Bm):List Int:=((List.range w.fP.Gt.length).filter (fun k:Nat=>gt w.fP.Gt k==2)).map (fun k:Nat=>(k:Int))
def A81 (w:Bm):List Int:=((List.range w.fL.length).filter (fun k:Nat=>(gt w.fL k).Gt==2)).map (fun k:Nat=>(k:Int))
def Be0 (w:Bm):List Int:=((List.range w.fL.length).filter (fun k:Nat=>A2f w.fL k)).map (fun k:Nat=>(k:Int))
theorem A7e (N:Nat)(p:Nat->Bool):(((List.range N).filter p).map (fun k:Nat=>(k:Int))).Nodup:=by
 grind [List.pairwise_lt_range,List.Pairwise.imp]
theorem Axy{N:Nat}{p:Nat->Bool}{x:Int}:x∈((List.range N).filter p).map (fun k:Nat=>(k:Int)) ↔ (0≤x∧x<(N:Int))∧p x.toNat=true:=by
 grind
def A0w (w:Bm)(N:Nat):Bool:=
 (List.range w.fP.Gt.length).all (fun k=> !(gt w.fP.Gt k==2)||gt (Aol N (chL w.fQ)) k==1)&&
 (List.range w.fL.length).all (fun k=>(!((gt w.fL k).Gt==2)||gt (Aol w.fL.length (slL w.fQ)) k==1)&&(!A2f w.fL k||gt (Aol w.fL.length (kdL w.fL w.fQ)) k==1))
def A7f (q:List A7)(i k:Nat):Bool:= !((gt q i).A9 != 0&&(gt q k).A9==(gt q i).A9)&&(gt q i).Ad.all (fun y=> !(gt q k).Ad.contains y)
def Bcw (q:List A7):Bool:=(List.range q.length).all (fun i=>(List.range i).all (fun k=>A7f q i k))
def A8k (l:List Int):Bool:=(List.range l.length).all (fun i=> !(l.take i).contains (gt l i))
def A9k (w:Bm):Bool:=
 Bcw w.fQ&&(A8k (kdL w.fL w.fQ)&&((((chL w.fQ).length:Int)==((A80 w).length:Int))&&((((slL w.fQ).length:Int)==((A81 w).length:Int))&&(((kdL w.fL w.fQ).length:Int)==((Be0 w).length:Int)))))
theorem Bg7 (l:List Int):A8k l=true ↔ l.Nodup:=by
 grind [A7d,A8k,V2]
theorem Be1{w:Bm}{q:List A7}(h1: ∀x∈q,x.Ad.Nodup)(h2: ∀x∈q,0≤x.A9∧x.A9≤8):Bcw q=true ↔ (chL q).Nodup∧(slL q).Nodup:=by
 unfold chL slL List.Nodup;rw[List.pairwise_flatMap,List.pairwise_flatMap,List.pairwise_iff_getElem,List.pairwise_iff_getElem]
 have hs: ∀x∈q,List.Pairwise (fun a b:Int=>a≠b) (if x.A9=0 then []else [Ark .i64 x.A9 1]):=by
  intro x _;split<;>simp
 have hsub: ∀x∈q,Ark .i64 x.A9 1=x.A9 - 1:=by
  grind [Ark,Gy]
 unfold Bcw A7f;simp only[Z1,List.mem_range,Z4,Z44,List.contains_eq_mem,decide_eq_false_iff_not];constructor
 ·intro h;refine⟨⟨h1,fun i j hi hj hij x hx y hy e=> ?_⟩,hs,fun i j hi hj hij x hx y hy e=> ?_⟩
  ·have:=(h j hj i hij).2
   grind [V2]
  ·have:=(h j hj i hij).1
   simp_all[V2]
 ·rintro⟨⟨_,h3⟩,_,h4⟩ i hi k hk
  have hk':k<q.length:=by omega
  rw[V2 hi,V2 hk'];refine⟨?_,fun x hx hy=>h3 k i hk' hi hk x hy x hx rfl⟩;rw[Bool.and_eq_false_iff]
  by_cases g:q[i].A9=0
  ·grind
  ·right;rw[beq_eq_false_iff_ne];intro e;refine h4 k i hk' hi hk (Ark .i64 q[k].A9 1) ?_ (Ark .i64 q[i].A9 1) ?_ (by rw[e])
   all_goals grind
theorem Bx7{w:Bm}(hp:Aw7 w.fC w.fP=true)(hL:(w.fL.length:Int)=w.fC.B9)(hq: ∀x∈w.fQ,Aon w x=true):A0w w w.fC.Ad.toNat=A9k w:=by
 obtain⟨hc,hm,hst,_⟩:=Aut hp;obtain⟨b1,b2,b3,_⟩:=A1 hc
 have hone: ∀x∈w.fQ,(0≤x.A9∧x.A9≤w.fC.B9)∧Axw w.fC x.Ad=true∧A5f w x=true∧Az4 w x=true∧Av2 w x=true:=by
  intro x hx
  have:=hq x hx;unfold Aon at this;simp only[Z4]at this;obtain⟨h1,h2,h3,h4,h5,h6⟩:=this;obtain⟨_,g1,_,g3,_⟩:=Aug h1
  grind
 have hC: ∀x∈chL w.fQ,x∈A80 w:=by
  intro y hy;unfold chL at hy;rw[List.mem_flatMap]at hy;obtain⟨x,hx,hy⟩:=hy;obtain⟨_,g2,g3,_⟩:=hone x hx
  have:=A0v g2 y hy;unfold A5f at g3;rw[Z1]at g3
  have g4:=g3 y hy;refine Axy.2 ⟨⟨this.1,by omega⟩,?_⟩
  grind
 have hS: ∀x∈slL w.fQ,x∈A81 w:=by
  intro y hy;unfold slL at hy;rw[List.mem_flatMap]at hy;obtain⟨x,hx,hy⟩:=hy;obtain⟨g1,g2,g3,g4,_⟩:=hone x hx;split at hy
  ·cases hy
  ·rename_i g;simp only[Sj]at hy;unfold Az4 at g4;rw[As5 g,Z52,←hy]at g4
   have:y=x.A9 - 1:=by grind [Ark,Gy]
   refine Axy.2 ⟨⟨by omega,by omega⟩,?_⟩
   grind
 have hK2: ∀x∈kdL w.fL w.fQ,x∈Be0 w:=by
  intro y hy;unfold kdL at hy;rw[List.mem_flatMap]at hy;obtain⟨x,hx,hy⟩:=hy;obtain⟨g1,g2,g3,g4,g5⟩:=hone x hx;unfold Av2 at g5;rw[Z1]at g5
  have:=A7y _ _ y hy;refine Axy.2 ⟨this,?_⟩
  grind
 have e1:=Bab hC (A7e _ _)
 have e2:=Bab hS (A7e _ _)
 have e3:=Bab hK2 (A7e _ _)
 have hp2:=Be1 (w:=w) (q:=w.fQ) (fun x hx=>A0z (hone x hx).2.1) (fun x hx=>by grind)
 rw[Bool.eq_iff_iff];unfold A0w A9k;simp only[Z4,Z1,List.mem_range,Bool.or_eq_true,Z44,beq_iff_eq,Bg7,hp2,beq_eq_false_iff_ne]
 have c1:(∀x∈A80 w,(chL w.fQ).count x=1) ↔ ∀k,k<w.fP.Gt.length->gt w.fP.Gt (k:Int)≠2∨gt (Aol w.fC.Ad.toNat (chL w.fQ)) (k:Int)=1:=by
  constructor
  ·intro h k hk
   by_cases g:gt w.fP.Gt (k:Int)=2
   ·right;rw[A4l (by omega) (by omega),h k (Axy.2 ⟨⟨by omega,by omega⟩,by grind⟩)];rfl
   omega
  ·intro h x hx;obtain⟨⟨h1,h2⟩,h3⟩:=Axy.1 hx;rw[beq_iff_eq,show((x.toNat:Nat):Int)=x by omega]at h3
   rcases h x.toNat (by omega)with h4|h4
   ·grind
   ·rw[show((x.toNat:Nat):Int)=x by omega,A4l h1 (by omega)]at h4;omega
 have c2:(∀x∈A81 w,(slL w.fQ).count x=1) ↔ ∀k,k<w.fL.length->(gt w.fL (k:Int)).Gt≠2∨gt (Aol w.fL.length (slL w.fQ)) (k:Int)=1:=by
  constructor
  ·intro h k hk
   by_cases g:(gt w.fL (k:Int)).Gt=2
   ·right;rw[A4l (by omega) (by omega),h k (Axy.2 ⟨⟨by omega,by omega⟩,by grind⟩)];rfl
   omega
  ·intro h x hx;obtain⟨⟨h1,h2⟩,h3⟩:=Axy.1 hx;rw[beq_iff_eq,show((x.toNat:Nat):Int)=x by omega]at h3
   rcases h x.toNat (by omega)with h4|h4
   ·grind
   ·rw[show((x.toNat:Nat):Int)=x by omega,A4l h1 (by omega)]at h4;omega
 have c3:(∀x∈Be0 w,(kdL w.fL w.fQ).count x=1) ↔ ∀k,k<w.fL.length->A2f w.fL (k:Int)=false∨gt (Aol w.fL.length (kdL w.fL w.fQ)) (k:Int)=1:=by
  constructor
  ·intro h k hk;cases g:A2f w.fL (k:Int)with
   |true=>
    right;rw[A4l (by omega) (by omega),h k (Axy.2 ⟨⟨by omega,by omega⟩,by grind⟩)];rfl
   |false=>left;rfl
  ·intro h x hx;obtain⟨⟨h1,h2⟩,h3⟩:=Axy.1 hx;rw[show((x.toNat:Nat):Int)=x by omega]at h3
   rcases h x.toNat (by omega)with h4|h4
   ·grind
   ·rw[show((x.toNat:Nat):Int)=x by omega,A4l h1 (by omega)]at h4;omega
 grind
theorem A9l{α β:Type}{K:Nat}(hK:281474976710656≤K)(l:List α)(hl:l.length≤140737488355328)(q:α->Bool)(fin bad:Option β)(L:Nat->Nat->Option β)
  (hs: ∀n (i:Nat) (h:i<l.length),L (n+1) i=bif q l[i]then L n (i+1)else bad)
  (he: ∀n,L (n+1) l.length=fin):L K 0=bif l.all q then fin else bad:=by
 have:=Bis l q fin bad (fun n i=>L n i.toNat) (fun n i h=>by grind) (fun n=>by simp_all) K 0 (Z21 _) (by omega)
 grind
section
variable {K:Nat} (hK:281474976710656≤K)
include hK
theorem Bkt (w:Bm)(hw:Alq w):Abw K (Aol w.fL.length (slL w.fQ)) (Aol w.fL.length (kdL w.fL w.fQ)) w.fL K (w.fL.length:Int) 0 w.fL=some ((List.range w.fL.length).all (fun k=>(!((gt w.fL (k:Int)).Gt==2)||gt (Aol w.fL.length (slL w.fQ)) k==1)&&(!A2f w.fL k||gt (Aol w.fL.length (kdL w.fL w.fQ)) k==1))):=by
 have hl:=Ahp hw.l
 rw[Ast hK w.fL.length (by omega) (fun k=>(!((gt w.fL (k:Int)).Gt==2)||gt (Aol w.fL.length (slL w.fQ)) k==1)&&(!A2f w.fL k||gt (Aol w.fL.length (kdL w.fL w.fQ)) k==1)) (some true) (fun n i=>Abw K (Aol w.fL.length (slL w.fQ)) (Aol w.fL.length (kdL w.fL w.fQ)) w.fL n (w.fL.length:Int) i w.fL) (fun n i h=> ?_) (fun n=> ?_)]
 ·grind
 ·simp only[Abw,Amd];rw[Wy h,cond_true,if_pos (Agy h),A8y K hw.l (Agy h),Wx (by omega)]
  simp only[Z0,A70,if_pos (Agy h),bne,Agx]
  grind
 ·show Abw K _ _ _ (n+1) _ _ _=_
  simp_all[Abw]
theorem Bku (w:Bm)(hw:Alq w)(hp:Aw7 w.fC w.fP=true):Agu K (Aol w.fC.Ad.toNat (chL w.fQ)) (Aol w.fL.length (slL w.fQ)) (Aol w.fL.length (kdL w.fL w.fQ)) w.fP.Gt w.fL K (w.fP.Gt.length:Int) 0 w.fP.Gt=some (A0w w w.fC.Ad.toNat):=by
 obtain⟨hc,hm,hst,_⟩:=Aut hp;obtain⟨b1,_⟩:=A1 hc
 rw[Ast hK w.fP.Gt.length (by omega) (fun k=> !(gt w.fP.Gt k==2)||gt (Aol w.fC.Ad.toNat (chL w.fQ)) k==1) (some ((List.range w.fL.length).all (fun k=>(!((gt w.fL (k:Int)).Gt==2)||gt (Aol w.fL.length (slL w.fQ)) k==1)&&(!A2f w.fL k||gt (Aol w.fL.length (kdL w.fL w.fQ)) k==1)))) (fun n i=>Agu K (Aol w.fC.Ad.toNat (chL w.fQ)) (Aol w.fL.length (slL w.fQ)) (Aol w.fL.length (kdL w.fL w.fQ)) w.fP.Gt w.fL n (w.fP.Gt.length:Int) i w.fP.Gt) (fun n i h=> ?_) (fun n=> ?_)]
 ·rw[Axd];rfl
 ·simp only[Agu,Auf];rw[Wy h,cond_true,if_pos (Agy h),Wx (by omega)]
  simp only[A70,if_pos (show(0:Int)≤(i:Int)∧(i:Int)<((w.fC.Ad.toNat:Nat):Int) from⟨by omega,by omega⟩),bne,Agx]
  grind
 ·show Agu K _ _ _ _ _ (n+1) _ _ _=_;rw[Agu,Aqt (Z9 _),cond_false,Bkt hK w hw]
theorem Be2{β:Type}(N:Nat)(base l:List Int)(hin: ∀x∈l,0≤x∧x<(N:Int))(hl:base.length+l.length≤140737488355327)(q:Int->Bool)(fin bad:Option β)(L:Nat->List Int->Int->Option β)
  (hs: ∀n v (i:Nat) (h:i<l.length),v.length=N->L (n+1) v (i:Int)=bif q l[i]then L n (v.set (l[i]).toNat (Arj .i64 (gt v l[i]) 1)) ((i+1:Nat):Int)else bad)
  (he: ∀n,L (n+1) (Aol N (base++l)) (l.length:Int)=fin):L K (Aol N base) 0=bif l.all q then fin else bad:=by
 have:=A9l hK l (by omega) q fin bad (fun n i=>L n (Aol N (base++l.take i)) (i:Int)) (fun n i h=> ?_) (fun n=> ?_)
 ·grind
 ·have hb:(base++l.take i).length≤140737488355327:=by grind
  simp_all[A70,Bez]
 grind
theorem Bg8 (w:Bm)(hw:Alq w)(hp:Aw7 w.fC w.fP=true)(hL:(w.fL.length:Int)=w.fC.B9)(x:A7)(hx:A3a x)(c s d:List Int)(i:Nat)(n:Nat)(hi:i<w.fQ.length)(he:gt w.fQ i=x)
  (hb1:c.length+12≤140737488355327) (hb2:s.length≤140737488355326) (hb3:d.length+8≤140737488355327):
  F2 K (n+1) (Aol w.fC.Ad.toNat c) (Aol w.fL.length s) (Aol w.fL.length d) w.fQ (w.fQ.length:Int) i w.fC.Ad w.fC.Ds w.fC.B9 w.fC.Eu w.fC.Ca w.fC.Dt w.fP.Fi w.fP.Gt w.fP.Fj w.fL w.fQ w.Jc
   =bif Aon w x then F2 K n (Aol w.fC.Ad.toNat (c++x.Ad)) (Aol w.fL.length (s++if x.A9=0 then []else [Ark .i64 x.A9 1])) (Aol w.fL.length (d++Ald w.fL x.Bw)) w.fQ (w.fQ.length:Int) ((i+1:Nat):Int) w.fC.Ad w.fC.Ds w.fC.B9 w.fC.Eu w.fC.Ca w.fC.Dt w.fP.Fi w.fP.Gt w.fP.Fj w.fL w.fQ w.Jc else some false:=by
 have hq:=hw.q.2;rw[F2];rw[show Fc.mk w.fC.Ad w.fC.Ds w.fC.B9 w.fC.Eu w.fC.Ca w.fC.Dt=w.fC from rfl,show Ed.mk w.fP.Fi w.fP.Gt w.fP.Fj=w.fP from rfl]
 rw[Wy hi,cond_true,if_pos (Agy hi),he,Bbj hK _ _ hx,Z0];unfold Aon;cases hr:An8 w.fC x with
 |false=>rfl
 |true=>
 rw[cond_true,Z30];obtain⟨hc,⟨s1,s2⟩,⟨f1,f2⟩,hd,d1,d2⟩:=Aug hr;obtain⟨_,hm,hst,_⟩:=Aut hp;obtain⟨b1,b2,b3,_⟩:=A1 hc
 have hch:=A0v hd
 have hcl:=Aub hc hd
 have h5: ∀s',Asp K (Aol w.fL.length d) w.fQ (w.fQ.length:Int) i w.fC.Ad w.fC.Ds w.fC.B9 w.fC.Eu w.fC.Ca w.fC.Dt w.fP.Fi w.fP.Gt w.fP.Fj w.fL w.fQ w.Jc x.Bw (Aol w.fC.Ad.toNat (c++x.Ad)) s' (F2 K n)
   =bif Av2 w x then F2 K n (Aol w.fC.Ad.toNat (c++x.Ad)) s' (Aol w.fL.length (d++Ald w.fL x.Bw)) w.fQ (w.fQ.length:Int) ((i+1:Nat):Int) w.fC.Ad w.fC.Ds w.fC.B9 w.fC.Eu w.fC.Ca w.fC.Dt w.fP.Fi w.fP.Gt w.fP.Fj w.fL w.fQ w.Jc else some false:=by
  intro s'
  have hk:=A6r (l:=w.fL) w.fL.length (Ark .i64 x.Bw 1)
  have hin:=A7y (l:=w.fL) w.fL.length (Ark .i64 x.Bw 1);unfold Asp Av2;rw[Bex hK hw.l,Z0];change (Ald w.fL x.Bw).length≤_ at hk;change ∀y∈Ald w.fL x.Bw,_ at hin;generalize Ald w.fL x.Bw=r at*
  refine Be2 hK w.fL.length d r hin (by omega) (A2f w.fL) _ _ (fun m v j=>Aj7 K w.fQ (w.fQ.length:Int) i w.fC.Ad w.fC.Ds w.fC.B9 w.fC.Eu w.fC.Ca w.fC.Dt w.fP.Fi w.fP.Gt w.fP.Fj w.fL w.fQ w.Jc (Aol w.fC.Ad.toNat (c++x.Ad)) s' r (F2 K n) m v (r.length:Int) j) (fun m v j hj hv=> ?_) (fun m=> ?_)
  ·have hr1:=hin _ (Al6 hj);simp only[Aj7];rw[Wy hj,cond_true,if_pos (Agy hj),if_pos (by omega),if_pos (by omega),A8y K hw.l hr1,Wx (by omega),Z0,Agx,V2 hj]
  ·show Aj7 K _ _ _ _ _ _ _ _ _ _ _ _ _ _ _ _ _ _ _ (m+1) _ _ _=_;rw[Aj7,Aqt (Z9 _),cond_false,Wx (by omega)]
 have h4: ∀s',Asq K (Aol w.fL.length d) w.fQ (w.fQ.length:Int) i w.fC.Ad w.fC.Ds w.fC.B9 w.fC.Eu w.fC.Ca w.fC.Dt w.fP.Fi w.fP.Gt w.fP.Fj w.fL w.fQ w.Jc x.Bw (Aol w.fC.Ad.toNat (c++x.Ad)) (F2 K n) s'
   =bif A14 w x&&Av2 w x then F2 K n (Aol w.fC.Ad.toNat (c++x.Ad)) s' (Aol w.fL.length (d++Ald w.fL x.Bw)) w.fQ (w.fQ.length:Int) ((i+1:Nat):Int) w.fC.Ad w.fC.Ds w.fC.B9 w.fC.Eu w.fC.Ca w.fC.Dt w.fP.Fi w.fP.Gt w.fP.Fj w.fL w.fQ w.Jc else some false:=by
  intro s';unfold Asq A14;rw[h5]
  by_cases g:x.Bw=0
  ·grind
  ·rw[decide_eq_true (by omega),cond_true,if_pos (A7z hK hL hc g f1 f2),As5 g]
   grind
 have h2:Asr K (Aol w.fC.Ad.toNat c) (Aol w.fL.length s) (Aol w.fL.length d) w.fQ (w.fQ.length:Int) i w.fC.Ad w.fC.Ds w.fC.B9 w.fC.Eu w.fC.Ca w.fC.Dt w.fP.Fi w.fP.Gt w.fP.Fj w.fL w.fQ w.Jc (F2 K n) x.A9 x.Bw x.De x.Ad x.Hp
   =bif A5f w x&&(Az4 w x&&(A14 w x&&Av2 w x))then F2 K n (Aol w.fC.Ad.toNat (c++x.Ad)) (Aol w.fL.length (s++if x.A9=0 then []else [Ark .i64 x.A9 1])) (Aol w.fL.length (d++Ald w.fL x.Bw)) w.fQ (w.fQ.length:Int) ((i+1:Nat):Int) w.fC.Ad w.fC.Ds w.fC.B9 w.fC.Eu w.fC.Ca w.fC.Dt w.fP.Fi w.fP.Gt w.fP.Fj w.fL w.fQ w.Jc else some false:=by
  unfold Asr;rw[Be2 hK w.fC.Ad.toNat c x.Ad (fun y hy=>by grind) (by omega) (fun k=>gt w.fP.Gt k==2)
   (bif Az4 w x&&(A14 w x&&Av2 w x)then F2 K n (Aol w.fC.Ad.toNat (c++x.Ad)) (Aol w.fL.length (s++if x.A9=0 then []else [Ark .i64 x.A9 1])) (Aol w.fL.length (d++Ald w.fL x.Bw)) w.fQ (w.fQ.length:Int) ((i+1:Nat):Int) w.fC.Ad w.fC.Ds w.fC.B9 w.fC.Eu w.fC.Ca w.fC.Dt w.fP.Fi w.fP.Gt w.fP.Fj w.fL w.fQ w.Jc else some false) (some false)
   (fun m v j=>Aj8 K (Aol w.fL.length s) (Aol w.fL.length d) w.fQ (w.fQ.length:Int) i w.fC.Ad w.fC.Ds w.fC.B9 w.fC.Eu w.fC.Ca w.fC.Dt w.fP.Fi w.fP.Gt w.fP.Fj w.fL w.fQ w.Jc x.A9 x.Bw x.Ad (F2 K n) m v (x.Ad.length:Int) j x.Ad) (fun m v j hj hv=> ?_) (fun m=> ?_)]
  ·unfold A5f
   grind
  ·have hr1:=hch _ (Al6 hj);simp only[Aj8];rw[Wy hj,cond_true,if_pos (Agy hj),if_pos (by omega),if_pos (by omega),if_pos ⟨hr1.1,by omega⟩,Wx (by omega),bne,Agx,V2 hj]
  ·show Aj8 K _ _ _ _ _ _ _ _ _ _ _ _ _ _ _ _ _ _ _ _ _ (m+1) _ _ _ _=_;rw[Aj8,Aqt (Z9 _),cond_false,h4,h4,A70];unfold Az4
   by_cases g:x.A9=0
   ·grind
   ·have hlk:=A7z hK hL hc g s1 s2;rw[decide_eq_true (by omega),cond_true,if_pos hlk,if_pos hlk,if_neg g,Bez hlk.1 hlk.2 (by omega),As5 g]
    grind
 rw[h2];unfold Aq8
 by_cases g:(x.Ad.length:Int)>0
 ·have h5:=hch _ (Apa (l:=x.Ad) (Int.le_refl 0) (by omega))
  obtain⟨e1,e2,e3,e4⟩:=A32 hc hm h5.1 h5.2
  have hlc:(Ayx w.fC w.fP.Fi (gt x.Ad 0)).length=w.fC.Ds.toNat:=by grind [Ayx]
  have htk:List.take (x.Hp - 0).toNat (List.drop (0:Int).toNat (Ayx w.fC w.fP.Fi (gt x.Ad 0)))=List.take x.Hp.toNat (List.drop (gt x.Ad 0*w.fC.Ds).toNat w.fP.Fi):=by
   unfold Ayx;simp only[Int.sub_zero,Int.toNat_zero,Z55,List.take_take];rw[Nat.min_eq_left (by omega)]
  rw[decide_eq_true g,cond_true,if_pos ⟨by omega,by omega⟩,A90 hK hc hm h5.1 h5.2,Z0,if_pos ⟨by omega,by omega,by rw[hlc];omega⟩,htk,A53 hK _ (by simp;omega)]
  simp only[Z0,Agx,Bool.not_true,Z52];cases Atn (List.take x.Hp.toNat (List.drop (gt x.Ad 0*w.fC.Ds).toNat w.fP.Fi))<;>cases A5f w x<;>rfl
 ·rw[decide_eq_false g];simp only[cond_false,Bool.not_false,Bool.true_or,Z30]
theorem Biy (q:List A7):(slL q).length≤q.length:=by
 have:=A71 q (fun x=>if x.A9=0 then []else [Ark .i64 x.A9 1]) 1 (fun x _=>by grind)
 grind [slL]
theorem Bcx (l:List Ax)(hl:l.length≤8)(q:List A7):(kdL l q).length≤q.length*8:=
 A71 _ _ 8 fun x _=>Vb (A6r _ _) hl
end
theorem Bcy{β:Type}(N:Nat)(hN:N≤140737488355327)(q:Nat->Bool)(fin:Int->Option β)(L:Nat->Int->Int->Option β)
  (hs: ∀n (v:Int) (i:Nat),i<N->0≤v->v≤i->L (n+1) v (i:Int)=bif q i then L n (v+1) ((i+1:Nat):Int)else L n v ((i+1:Nat):Int))
  (he: ∀n v,L (n+1) v (N:Int)=fin v):
  ∀(n i:Nat) (v:Int),0≤v->v≤i->i≤N->N - i<n->L n v (i:Int)=fin (v+((((List.range N).drop i).filter q).length:Int)):=by
 intro n
 induction n with
 |zero=>omega
 |succ n ih=>
  intro i v h0 hv hi hn;rcases Hw i N with h|h
  ·rw[hs n v i h h0 hv,Z47 (by grind),List.getElem_range,List.filter_cons]
   cases hq:q i with
   |true=>
    rw[cond_true,ih (i+1) _ (by omega) (by omega) (by omega) (by omega)]
    grind
   |false=>
    grind
  grind
theorem Bcz{v:Int}(h0:0≤v)(h:v≤140737488355328):Arj .i64 v 1=v+1:=by grind [Arj,Gy]
section
variable {K:Nat} (hK:281474976710656≤K)
include hK
theorem Bc0 (w:Bm)(hw:Alq w)(hp:Aw7 w.fC w.fP=true)(hL:(w.fL.length:Int)=w.fC.B9):Avt K w=some (w.fQ.all (Aon w)&&A0w w w.fC.Ad.toNat):=by
 obtain⟨hc,hm,hst,_⟩:=Aut hp;obtain⟨b1,b2,b3,_⟩:=A1 hc
 have hq:=hw.q.2
 have key: ∀(n i:Nat),(∀x∈w.fQ.take i,Aon w x=true)->i≤w.fQ.length->w.fQ.length - i<n→
   F2 K n (Aol w.fC.Ad.toNat (chL (w.fQ.take i))) (Aol w.fL.length (slL (w.fQ.take i))) (Aol w.fL.length (kdL w.fL (w.fQ.take i))) w.fQ (w.fQ.length:Int) i w.fC.Ad w.fC.Ds w.fC.B9 w.fC.Eu w.fC.Ca w.fC.Dt w.fP.Fi w.fP.Gt w.fP.Fj w.fL w.fQ w.Jc=some ((w.fQ.drop i).all (Aon w)&&A0w w w.fC.Ad.toNat):=by
  intro n
  induction n with
  |zero=>omega
  |succ n ih=>
   intro i hpre hi hn;rcases Hw i w.fQ.length with h|h
   ·have hb1:(chL (w.fQ.take i)).length≤(w.fQ.take i).length*12:=A71 _ _ 12 fun x hx=>by
     have:=hpre x hx;unfold Aon at this;simp only[Z4]at this;obtain⟨hc,_,_,hd,_⟩:=Aug this.1;exact Aub hc hd
    have hb2:=Biy hK (w.fQ.take i)
    have hb3:=Bcx hK w.fL (by omega) (w.fQ.take i)
    rw[List.length_take]at hb1 hb2 hb3;rw[Bg8 hK w hw hp hL w.fQ[i] (hw.q.1 _ (List.getElem_mem h)) _ _ _ i n h (V2 h) (by omega) (by omega) (by omega),Z47 h,Gp]
    cases hx:Aon w w.fQ[i]with
    |false=>rfl
    |true=>
     rw[cond_true,Z30,←ih (i+1) (fun x hx2=>by
      grind [List.take_append_getElem]) h (by omega)]
     simp_all[chL,slL,kdL,Bbz]
   ·obtain rfl:i=w.fQ.length:=by omega
    rw[F2,Aqt (Z9 _),cond_false,List.take_length,Bku hK w hw hp,List.drop_length];rfl
 unfold Avt;rw[if_pos ⟨by omega,by omega,by omega,by omega⟩,if_pos ⟨by omega,by omega,by omega,by omega⟩,if_pos ⟨by omega,by omega,by omega,by omega⟩]
 have:=key K 0 (fun x hx=>by simp at hx) (Z21 _) (by omega)
 rw[List.take_zero,Z55,show chL []=[] from rfl,show slL []=[] from rfl,show kdL w.fL []=[] from rfl,Bey,Bey]at this
 grind
theorem Bc1 (p:Ed)(st:Int)(hl:p.Gt.length≤140737488355327):A1o K p st=some ((((List.range p.Gt.length).filter (fun k:Nat=>gt p.Gt k==st)).length:Nat):Int):=by
 unfold A1o
 have:=Bcy p.Gt.length hl (fun k:Nat=>gt p.Gt k==st) some (fun n v i=>Aqy K st n v i p.Fi p.Gt p.Fj) (fun n v i hi h0 hv=> ?_) (fun n v=> ?_) K 0 0 (Int.le_refl _) (Int.le_refl _) (Z21 _) (by omega)
 ·grind
 ·simp only[Aqy,Azc];rw[Wy hi,cond_true,if_pos (Agy hi),Wx (by omega),Bcz h0 (by omega)]
 ·show Aqy K st (n+1) v _ _ _ _=_
  simp_all[Aqy]
theorem A5u (l:List Ax)(st:Int)(hl:l.length≤140737488355327):Atr K l st=some ((((List.range l.length).filter (fun k:Nat=>(gt l k).Gt==st)).length:Nat):Int):=by
 unfold Atr
 have:=Bcy l.length hl (fun k:Nat=>(gt l k).Gt==st) some (fun n v i=>Aln K l st n v i) (fun n v i hi h0 hv=> ?_) (fun n v=> ?_) K 0 0 (Int.le_refl _) (Int.le_refl _) (Z21 _) (by omega)
 ·grind
 ·simp only[Aln,Avy];rw[Wy hi,cond_true,if_pos (Agy hi),Wx (by omega),Bcz h0 (by omega)]
 ·show Aln K l st (n+1) v _=_
  simp_all[Aln]
theorem Bg9 (w:Bm)(hw:Alq w)(v1 v2:Int)(v3:List Int)(h3:v3.length≤140737488355327):
  Ajn K v1 v2 v3 w.fP.Fi w.fP.Gt w.fP.Fj w.fL K 0 0=some (A8k v3&&((v1==((A80 w).length:Int))&&((v2==((A81 w).length:Int))&&((v3.length:Int)==((Be0 w).length:Int))))):=by
 have hl:=Ahp hw.l
 have hs:=Aw4 hK hw.p.st
 have h8: ∀v24,An2 K v1 v2 v3 w.fP.Fi w.fP.Gt w.fP.Fj w.fL v24 K 0=some (A8k v3&&((v1==((A80 w).length:Int))&&((v2==((A81 w).length:Int))&&((v3.length:Int)==v24)))):=by
  intro v24;rw[Ast hK v3.length (by omega) (fun i=> !(v3.take i).contains (gt v3 i)) (some ((v1==((A80 w).length:Int))&&((v2==((A81 w).length:Int))&&((v3.length:Int)==v24)))) (fun n i=>An2 K v1 v2 v3 w.fP.Fi w.fP.Gt w.fP.Fj w.fL v24 n i) (fun n i h=> ?_) (fun n=> ?_)]
  ·rw[Axd];rfl
  ·have hp:(v3.take i).length≤140737488355328:=by grind
   simp only[An2];rw[Wy h,cond_true,if_pos (Beo (by omega)),if_pos (Agy h),A7b,A30 hK _ _ hp,Wx (by omega),Z0,Agx]
  ·show An2 K v1 v2 v3 _ _ _ _ v24 (n+1) _=_
   simp_all[An2,Bc1,A5u,Axd,A80,A81]
 have:=Bcy w.fL.length hl (fun k:Nat=>A2f w.fL k) (fun v=>some (A8k v3&&((v1==((A80 w).length:Int))&&((v2==((A81 w).length:Int))&&((v3.length:Int)==v))))) (fun n v i=>Ajn K v1 v2 v3 w.fP.Fi w.fP.Gt w.fP.Fj w.fL n v i) (fun n v i hi h0 hv=> ?_) (fun n v=> ?_) K 0 0 (Int.le_refl _) (Int.le_refl _) (Z21 _) (by omega)
 ·rw[show((0:Nat):Int)=0 from rfl]at this
  simp_all[Be0]
 ·simp only[Ajn,Axa];rw[Wy hi,cond_true,A8x K hw.l (Agy hi),Z0,Wx (by omega),Bcz h0 (by omega)]
 ·show Ajn K v1 v2 v3 _ _ _ _ (n+1) v _=_
  simp_all[Ajn]
theorem Be3 (w:Bm)(hw:Alq w)(i n:Nat)(hi:i<w.fQ.length)(v1 v2:Int)(v3:List Int)(h1:0≤v1∧v1≤70368744177664)(h2:0≤v2∧v2≤70368744177664)(h3:(v3.length+w.fL.length)*8≤140737488355327)(hcl:(gt w.fQ i).Ad.length≤12):
  Ad1 K (n+1) v1 v2 v3 i w.fC.Ad w.fC.Ds w.fC.B9 w.fC.Eu w.fC.Ca w.fC.Dt w.fP.Fi w.fP.Gt w.fP.Fj w.fL w.fQ w.Jc
   =bif (List.range i).all (fun k=>A7f w.fQ i k)then Ad1 K n (v1+((gt w.fQ i).Ad.length:Int)) (v2+((if(gt w.fQ i).A9=0 then([]:List Int)else [Ark .i64 (gt w.fQ i).A9 1]).length:Int)) (v3++Ald w.fL (gt w.fQ i).Bw) ((i+1:Nat):Int) w.fC.Ad w.fC.Ds w.fC.B9 w.fC.Eu w.fC.Ca w.fC.Dt w.fP.Fi w.fP.Gt w.fP.Fj w.fL w.fQ w.Jc else some false:=by
 have hq:=hw.q.2
 have hm:=P2
 have hx:=hw.q.1 _ (Al6 hi)
 have hkl:=A6r (l:=w.fL) w.fL.length (Ark .i64 (gt w.fQ i).Bw 1);change (Ald w.fL (gt w.fQ i).Bw).length≤_ at hkl
 have hJ: ∀v17 v18,Au1 K v3 i w.fC.Ad w.fC.Ds w.fC.B9 w.fC.Eu w.fC.Ca w.fC.Dt w.fP.Fi w.fP.Gt w.fP.Fj w.fL w.fQ w.Jc (Ad1 K n) v17 v18
   =bif (List.range i).all (fun k=>A7f w.fQ i k)then Ad1 K n v17 v18 (v3++Ald w.fL (gt w.fQ i).Bw) ((i+1:Nat):Int) w.fC.Ad w.fC.Ds w.fC.B9 w.fC.Eu w.fC.Ca w.fC.Dt w.fP.Fi w.fP.Gt w.fP.Fj w.fL w.fQ w.Jc else some false:=by
  intro v17 v18;unfold Au1
  have hlen:(v3++Ald w.fL (gt w.fQ i).Bw).length=v3.length+(Ald w.fL (gt w.fQ i).Bw).length:=by simp
  rw[if_pos (Agy hi),A8z hK hw.l hx.first,Z0,if_pos ⟨by omega,by omega⟩]
  rw[Ast hK i (by omega) (fun k=>A7f w.fQ i k) _ (fun m k=>An1 K i w.fC.Ad w.fC.Ds w.fC.B9 w.fC.Eu w.fC.Ca w.fC.Dt w.fP.Fi w.fP.Gt w.fP.Fj w.fL w.fQ w.Jc v17 v18 (Ad1 K n) m (v3++Ald w.fL (gt w.fQ i).Bw) k) (fun m k hk=> ?_) (fun m=> ?_)]
  ·have hk2:k<w.fQ.length:=by omega
   have hlk:=Aw4 hK (hw.q.1 _ (Al6 hk2)).chunks
   have h4: ∀C:List Int->Int->Option Bool,Au0 K i w.fQ (v3++Ald w.fL (gt w.fQ i).Bw) k C=bif (gt w.fQ i).Ad.all (fun y=> !(gt w.fQ k).Ad.contains y)then C (v3++Ald w.fL (gt w.fQ i).Bw) ((k+1:Nat):Int)else some false:=by
    intro C;unfold Au0;rw[Av1 hK (gt w.fQ i).Ad (by omega) (fun y=> !(gt w.fQ k).Ad.contains y) _ (fun m j=>Aqu K i w.fQ (v3++Ald w.fL (gt w.fQ i).Bw) k C m j) (fun m j hj=> ?_) (fun m=> ?_)]
    ·simp only[Aqu];rw[if_pos (Agy hi),Wy hj,cond_true,if_pos (Agy hk2),if_pos (Agy hj),A30 hK _ _ (by omega),Z0,Wx (by omega),Agx,V2 hj,if_pos (Agy hi)]
    ·show Aqu K i w.fQ _ k C (m+1) _=_;rw[Aqu,if_pos (Agy hi),Aqt (Z9 _),cond_false,Wx (by omega)]
   simp only[An1];rw[Wy hk,cond_true,if_pos (Agy hi),if_pos (Agy hk2),if_pos (Agy hi),h4];unfold A7f
   grind
  ·show An1 K i _ _ _ _ _ _ _ _ _ _ _ _ v17 v18 _ (m+1) _ _=_;rw[An1,Aqt (Z9 _),cond_false,Wx (by omega)]
 rw[Ad1,Wy hi,cond_true,if_pos (Agy hi),if_pos (Agy hi),hJ,hJ]
 have e1:Arj .i64 v1 ((gt w.fQ i).Ad.length:Int)=v1+((gt w.fQ i).Ad.length:Int):=by grind [Arj,Gy]
 rw[e1,Bcz h2.1 (by omega)]
 grind
theorem Be4 (w:Bm)(hw:Alq w)(hp:Aw7 w.fC w.fP=true)(hL:(w.fL.length:Int)=w.fC.B9)(hall: ∀x∈w.fQ,Aon w x=true):Azd K w=some (A9k w):=by
 obtain⟨hc,hm,hst,_⟩:=Aut hp;obtain⟨b1,b2,b3,_⟩:=A1 hc
 have hq:=hw.q.2
 have hc12: ∀x∈w.fQ,x.Ad.length≤12:=fun x hx=>by
  have:=hall x hx;unfold Aon at this;simp only[Z4]at this;obtain⟨hc,_,_,hd,_⟩:=Aug this.1;exact Aub hc hd
 have h3:=Bcx hK w.fL (by omega) w.fQ
 unfold Azd
 have:=A9l hK (List.range w.fQ.length) (by grind) (fun i=>(List.range i).all (fun k=>A7f w.fQ i k)) (Ajn K ((chL w.fQ).length:Int) ((slL w.fQ).length:Int) (kdL w.fL w.fQ) w.fP.Fi w.fP.Gt w.fP.Fj w.fL K 0 0) (some false)
  (fun n i=>Ad1 K n ((chL (w.fQ.take i)).length:Int) ((slL (w.fQ.take i)).length:Int) (kdL w.fL (w.fQ.take i)) (i:Int) w.fC.Ad w.fC.Ds w.fC.B9 w.fC.Eu w.fC.Ca w.fC.Dt w.fP.Fi w.fP.Gt w.fP.Fj w.fL w.fQ w.Jc) (fun n i h=> ?_) (fun n=> ?_)
 ·rw[List.take_zero,show chL []=[] from rfl,show slL []=[] from rfl,show kdL w.fL []=[] from rfl]at this
  refine Eq.trans this ?_;rw[Bg9 hK w hw _ _ _ (by omega),Axd]
  rfl
 ·have hi:i<w.fQ.length:=by grind
  have hb1:(chL (w.fQ.take i)).length≤(w.fQ.take i).length*12:=A71 _ _ 12 fun x hx=>hc12 x (Z42 hx)
  have hb2:=Biy hK (w.fQ.take i)
  have hb3:=Bcx hK w.fL (by omega) (w.fQ.take i)
  rw[List.length_take]at hb1 hb2 hb3;simp only[List.getElem_range];rw[Be3 hK w hw i n hi _ _ _ ⟨by omega,by omega⟩ ⟨by omega,by omega⟩ (by omega) (hc12 _ (Al6 hi))]
  simp_all[chL,slL,kdL,Bbz,V2]
 simp_all[Ad1.eq_2]
end
def A15 (w:Bm):Bool:=
 Aw7 w.fC w.fP&&(((w.fL.length:Int)==w.fC.B9)&&((List.range w.fL.length).all (A7w w)&&(A99 w.fL&&((w.fQ.all (Aon w)&&A0w w w.fC.Ad.toNat)&&w.Jc.all (fun x=>inB x 0 255)))))
section
variable {K:Nat} (hK:281474976710656≤K)
include hK
theorem A5g (w:Bm)(hw:Alq w):Au2 K w=some (A15 w):=by
 have hl:=Aw4 hK hw.log;unfold Au2 A15;rw[Bem hK,Z0];cases hp:Aw7 w.fC w.fP with
 |false=>rfl
 |true=>
 rw[cond_true,Z30];cases hL:(w.fL.length:Int)==w.fC.B9 with
 |false=>rfl
 |true=>
 rw[beq_iff_eq]at hL;rw[cond_true,Z30,Bcs hK w hw hp,Bew hK hw.l,Bc0 hK w hw hp hL,A4u hK _ (by omega)]
 simp_all[Axd]
theorem Azm (w:Bm)(hw:Alq w):Ar8 K w=some (A15 w):=by
 have hl:=Aw4 hK hw.log
 have hl2:=Ahp hw.l
 have hq:=hw.q.2;unfold Ar8 A15;rw[A54 hK,Z0];cases hp:Aw7 w.fC w.fP with
 |false=>rfl
 |true=>
 rw[cond_true,Z30];cases hL:(w.fL.length:Int)==w.fC.B9 with
 |false=>grind
 |true=>
 rw[bne,hL,Bool.not_true,cond_false,Z30,Bev hK hw.l,Z0,Agx];rw[beq_iff_eq]at hL
 have e1:Fc.mk w.fC.Ad w.fC.Ds w.fC.B9 w.fC.Eu w.fC.Ca w.fC.Dt=w.fC:=rfl
 have e2:Bm.mk (Fc.mk w.fC.Ad w.fC.Ds w.fC.B9 w.fC.Eu w.fC.Ca w.fC.Dt) (Ed.mk w.fP.Fi w.fP.Gt w.fP.Fj) w.fL w.fQ w.Jc=w:=rfl
 have h3:w.fQ.all (Aon w)=true->Aq0 K w.fC.Ad w.fC.Ds w.fC.B9 w.fC.Eu w.fC.Ca w.fC.Dt w.fP.Fi w.fP.Gt w.fP.Fj w.fL w.fQ w.Jc K 0=some (w.Jc.all (fun x=>inB x 0 255)&&A0w w w.fC.Ad.toNat):=by
  intro hall;rw[Z1]at hall;rw[Bx7 hp hL hall];rw[Av1 hK w.Jc (by omega) (fun x=>inB x 0 255) (some (A9k w)) (Aq0 K w.fC.Ad w.fC.Ds w.fC.B9 w.fC.Eu w.fC.Ca w.fC.Dt w.fP.Fi w.fP.Gt w.fP.Fj w.fL w.fQ w.Jc) (fun n i h=> ?_) (fun n=> ?_)]
  ·grind
  ·rw[Aq0,Wy h,cond_true,if_pos (Agy h),Aok,Wx (by omega),Z0,Agx,V2 h]
  simp_all[Aq0,Be4]
 have h2:Atb K w.fC.Ad w.fC.Ds w.fC.B9 w.fC.Eu w.fC.Ca w.fC.Dt w.fP.Fi w.fP.Gt w.fP.Fj w.fL w.fQ w.Jc K 0=some (w.fQ.all (Aon w)&&(w.Jc.all (fun x=>inB x 0 255)&&A0w w w.fC.Ad.toNat)):=by
  rw[Av1 hK w.fQ (by omega) (Aon w) (Aq0 K w.fC.Ad w.fC.Ds w.fC.B9 w.fC.Eu w.fC.Ca w.fC.Dt w.fP.Fi w.fP.Gt w.fP.Fj w.fL w.fQ w.Jc K 0) (Atb K w.fC.Ad w.fC.Ds w.fC.B9 w.fC.Eu w.fC.Ca w.fC.Dt w.fP.Fi w.fP.Gt w.fP.Fj w.fL w.fQ w.Jc) (fun n i h=> ?_) (fun n=> ?_)]
  ·grind
  ·rw[Atb,Wy h,cond_true,e2,Bbk hK w hw hp hL i h,Wx (by omega),Z0,Agx,V2 h]
  simp_all[Atb]
 have h1:Aq2 K K 0 w.fC.Ad w.fC.Ds w.fC.B9 w.fC.Eu w.fC.Ca w.fC.Dt w.fP.Fi w.fP.Gt w.fP.Fj w.fL w.fQ w.Jc=some ((List.range w.fL.length).all (A7w w)&&(w.fQ.all (Aon w)&&(w.Jc.all (fun x=>inB x 0 255)&&A0w w w.fC.Ad.toNat))):=by
  rw[Ast hK w.fL.length (by omega) (A7w w) (some (w.fQ.all (Aon w)&&(w.Jc.all (fun x=>inB x 0 255)&&A0w w w.fC.Ad.toNat))) (fun n i=>Aq2 K n i w.fC.Ad w.fC.Ds w.fC.B9 w.fC.Eu w.fC.Ca w.fC.Dt w.fP.Fi w.fP.Gt w.fP.Fj w.fL w.fQ w.Jc) (fun n k hk=> ?_) (fun n=> ?_)]
  ·grind
  ·simp only[Aq2];rw[e2,e1]
   have hn:=hw.l.1 _ (Al6 hk)
   have l1:=Aw4 hK hn.chunks
   have l2:=Biw hK hn.things
   have l3:=Aw4 hK hn.tags;rw[Wy hk,cond_true,if_pos (Agy hk),Ayy hK _ _ l1 l2 l3,Z0,A95 hK w k hk hw.p.st.2 l1,Wx (by omega),Bbg hK _ _ l1 l2]
   simp only[Z0];unfold A7w;cases hb:Aua w.fC (gt w.fL k)with
   |false=>rfl
   |true=>
   cases A3t w.fP k (gt w.fL k).Ad with
   |false=>rfl
   |true=>
   cases hi:(gt w.fL k).D3.all (Au6 w.fC (gt w.fL k).Ad)with
   |false=>grind
   |true=>
   have hs:=A96 hi;rw[Bbd hK _ l2 (fun t ht=>(hs t ht).1),Bg1 hK w k hk hp hn hb hs];simp only[Z0,cond_true,Agx,Z30,if_pos (Agy hk)]
   grind
  ·show Aq2 K (n+1) _ _ _ _ _ _ _ _ _ _ _ _ _=_
   simp_all[Aq2]
 grind
end
theorem Bpe{n:Nat}(h:n≤reachBytes):n≤140737488355327:=by simp only[reachBytes]at h;omega
section
variable {K:Nat} (hK:281474976710656≤K)
include hK
end
theorem B1n{x:Int}(h:Bel x):0≤x∧x≤255:=by
 grind [Bel,Lit.wf,IntKind.min,IntKind.max,IntKind.signed,IntKind.bits]
theorem Bkv{l:List Int}(h:Bco l):Bpb l:=⟨fun x hx=>B1n (h.1 x hx),by have:=Bpe h.2.1;omega⟩
theorem B36{α:Type}(l:List α)(i:Nat)(x y:α):(l.set i x).set i y=l.set i y:=List.set_set ..
section
variable {K:Nat} (hK:281474976710656≤K)
include hK
def one{α:Type}(_:α):Nat:=1
def A37 (x:Ax):Nat:=10+x.Ad.length+3*x.D3.length+x.De.length
def Bha (p:Ed):Nat:=p.Fi.length+p.Gt.length+p.Fj.length
end
section
variable {K:Nat} (hK:281474976710656≤K)
include hK
theorem Biz{α β:Type}(l:List α)(hl:l.length≤140737488355327)(fin:Option β)(L:Nat->List α->Int->Option β)
  (hs: ∀n v (i:Nat) (h:i<l.length),v.length=i->L (n+1) v (i:Int)=L n (v++[l[i]]) ((i+1:Nat):Int))
  (he: ∀n,L (n+1) l (l.length:Int)=fin):L K [] 0=fin:=by
 have:=A9l hK l (by omega) (fun _=>true) fin none (fun n i=>L n (l.take i) (i:Int)) (fun n i h=>by
  grind [List.take_append_getElem]) (fun n=>by grind)
 grind
omit hK in
theorem A21 (K:Nat){p:Ed}(w:A34 p):Auj K p=some p:=by
 have hm:=P2
 have h1:=w.mem.2
 have h2:=w.st.2
 have h3:=w.own.2;unfold Auj;simp only[Z38];rw[if_pos ⟨by omega,by omega⟩,if_pos ⟨by omega,by omega⟩,if_pos ⟨by omega,by omega⟩]
omit hK in
theorem Avv (K:Nat){n:Ax}(w:Atw n):Aqn K n=some n:=by
 have hm:=P2
 have h1:=w.chunks.2
 have h2:=w.things.2
 have h3:=w.tags.2;unfold Aqn;simp only[Z38];rw[if_pos ⟨by omega,by omega⟩,if_pos ⟨by omega,by omega⟩,if_pos ⟨by omega,by omega⟩]
theorem A5h{l:List Ax}(w:Adn l):Aw9 K l=some l:=by
 have hm:=P2
 have h2:=w.2;unfold Aw9;refine Biz hK l (Ahp w) (some l) (fun n v i=>Auv K l n v i) (fun n v i h hv=> ?_) (fun n=> ?_)
 ·have hl:(v++[l[i]]).length=i+1:=by simp[hv]
  simp only[Auv];rw[Wy h,cond_true,if_pos (Agy h),V2 h,Avv K (w.1 _ (List.getElem_mem h)),Z0,if_pos ⟨by omega,by omega⟩,Wx (by omega)]
 ·show Auv K l (n+1) _ _=_
  simp_all[Auv]
omit hK in
theorem Bc2 (K:Nat){x:A7}(w:A3a x):A1n K x=some x:=by
 have hm:=P2
 have h1:=w.tags.2
 have h2:=w.chunks.2;unfold A1n;simp only[Z38];rw[if_pos ⟨by omega,by omega⟩,if_pos ⟨by omega,by omega⟩]
theorem Axg{w:Bm}(hw:Alq w):Aqo K w=some w:=by
 have hm:=P2
 have h2:=hw.q.2
 have h3:=hw.log.2;unfold Aqo;rw[A21 K hw.p,Z0,A5h hK hw.l,Z0]
 refine Biz hK w.fQ (by omega) (some w) (fun n v i=>As9 K n i w.fC.Ad w.fC.Ds w.fC.B9 w.fC.Eu w.fC.Ca w.fC.Dt w.fP.Fi w.fP.Gt w.fP.Fj w.fL v w.Jc (Bm.mk (Fc.mk 0 0 0 0 0 0) (Ed.mk [] [] []) [] [] []) w.fC.Ad w.fC.Ds w.fC.B9 w.fC.Eu w.fC.Ca w.fC.Dt w.fP.Fi w.fP.Gt w.fP.Fj w.fL w.fQ w.Jc) (fun n v i h hv=> ?_) (fun n=> ?_)
 ·have hl:(v++[w.fQ[i]]).length=i+1:=by simp[hv]
  simp only[As9];rw[Wy h,cond_true,if_pos (Agy h),V2 h,Bc2 K (hw.q.1 _ (List.getElem_mem h)),Z0,if_pos ⟨by omega,by omega⟩,Wx (by omega)]
 ·show As9 K (n+1) _ _ _ _ _ _ _ _ _ _ _ _ _ _ _ _ _ _ _ _ _ _ _ _ _ _=_;rw[As9,Aqt (Z9 _),cond_false];simp only[Z38];rw[if_pos ⟨by omega,by omega⟩]
end
def Bpf (mem:List Int)(p n:Int):List Int×Bool:=if 0≤p∧0≤n∧p+n≤(mem.length:Int)then((mem.drop p.toNat).take n.toNat,true)else([],false)
theorem Bsm{mem:List Int}(a b:Nat):((mem.drop a).take b).length≤mem.length:=by grind
theorem Be5 (K:Nat){mem:List Int}(hl:mem.length≤140737488355327)(p n:Int):Ayt K mem p n=some (decide (0≤p∧0≤n∧p+n≤(mem.length:Int))):=by
 unfold Ayt
 by_cases h1:(0:Int)≤p
 ·rw[decide_eq_true (show p≥0 from h1)]
  by_cases h2:(0:Int)≤n
  ·rw[decide_eq_true (show n≥0 from h2)]
   by_cases h3:p≤(mem.length:Int)
   ·rw[decide_eq_true h3];simp only[cond_true,Z7,decide_eq_decide]
    grind [Ark,Gy]
   ·rw[decide_eq_false h3];simp only[cond_true,cond_false,Z7]
    grind
  grind
 grind
theorem Bhb (K:Nat){mem:List Int}(hl:mem.length≤140737488355327)(p n:Int):A3j K mem p n=some (Bpf mem p n):=by
 unfold A3j Bpf;rw[Be5 K hl];simp only[Z0]
 by_cases h:0≤p∧0≤n∧p+n≤(mem.length:Int)
 ·rw[decide_eq_true h,if_pos h]
  try simp only[cond_true]
  have e:Arj .i64 p n=p+n:=by grind [Arj,Gy]
  have hc:=Bsm (mem:=mem) p.toNat (p+n - p).toNat;rw[e,if_pos ⟨by omega,by omega,by omega⟩,if_pos ⟨by grind,by grind [maxLen]⟩]
  grind
 grind
def Bpg (mem:List Int)(t:Bl)(at_ n:Int):List Int×Bool:=if 0≤at_∧0≤n∧at_+n≤t.Xu then Bpf mem (Arj .i64 t.fAt at_) n else([],false)
theorem Bph{mem:List Int}{p n:Int}(h:p<0):Bpf mem p n=([],false):=by unfold Bpf;grind
theorem Bac (K:Nat){mem:List Int}(hl:mem.length≤140737488355327){t:Bl}(wt:ThingW t)(at_ n:Int):Azg K mem t at_ n=some (Bpg mem t at_ n):=by
 obtain⟨wl1,wl2⟩:=wt.2.1;unfold Azg A1r Bpg
 by_cases h1:(0:Int)≤at_
 ·rw[decide_eq_true (show at_≥0 from h1)]
  by_cases h2:(0:Int)≤n
  ·rw[decide_eq_true (show n≥0 from h2)]
   by_cases h3:at_≤t.Xu
   ·rw[decide_eq_true h3]
    have e:Ark .i64 t.Xu at_=t.Xu - at_:=by grind [Ark,Gy]
    rw[e]
    by_cases h4:n≤t.Xu - at_
    ·rw[decide_eq_true h4,if_pos ⟨h1,h2,by omega⟩]
     simp only[cond_true,Bhb K hl];cases decide (t.fAt<0)with
     |true=>rfl
     |false=>
      by_cases h5:(0:Int)≤Arj .i64 t.fAt at_
      ·grind
      ·rw[decide_eq_false (show ¬Arj .i64 t.fAt at_≥0 from h5),Bph (by omega)];rfl
    grind
   grind
  grind
 grind
def Be6 (w:Bm)(h:Ce):Int:=((Akf w.fL w.fL.length (Ay0 w.fL h)).length:Int)
theorem Bhc{l:List Ax}(hl:l.length≤140737488355327)(h:Ce):wfi (Ay0 l h):=by
 by_cases h0:Ay0 l h<0
 ·unfold Ay0 at *;split at h0
  ·omega
  ·rename_i h1;rw[if_neg h1];exact⟨by omega,by omega⟩
 ·have:=A8i h0;exact⟨by omega,by omega⟩
section
variable {K:Nat} (hK:281474976710656≤K)
include hK
theorem A2l (w:Bm)(hw:Adn w.fL)(h:Ce):Arb K w h=some (Be6 w h):=by
 have hl:=Ahp hw;unfold Arb Azv;rw[A7x K hl,Z0,A5d hK hw _ (Bhc hl h)];rfl
end
section
variable {β:Type} [Inhabited β]
end
section
variable {K:Nat} (hK:281474976710656≤K)
include hK
end
section
variable {K:Nat} (hK:281474976710656≤K)
include hK
end
theorem Bi0{β:Type}(f:β->Nat): ∀(l:List β) (i:Nat) (h:i<l.length) (x:β),((l.set i x).map f).sum+f l[i]=(l.map f).sum+f x
 |[],i,h,x=>by simp at h
 |y::l,0,h,x=>by grind
 |y::l,i+1,h,x=>by
  have:=Bi0 f l i (by grind) x
  grind
theorem A38{l:List Ax}(hl:Adn l)(i:Nat){x:Ax}(hx:Atw x):Adn (l.set i x):=
 ⟨fun y hy=>(Z54 hy).elim (hl.1 y) (fun e=>e ▸ hx),by rw[Z49];exact hl.2⟩
def A5i (p:Ed)(k:Int):Ed:=if(0≤k∧k<(p.Gt.length:Int)∧k<(p.Fj.length:Int))∧gt p.Gt k=1 then Ed.mk p.Fi (p.Gt.set k.toNat 2) (p.Fj.set k.toNat (-1))else p
theorem Bi1{p:Ed}(hp:A34 p)(k:Int):A34 (A5i p k)∧Bha (A5i p k)=Bha p:=by
 unfold A5i;split
 ·refine⟨⟨hp.mem,⟨fun x hx=> ?_,by rw[Z49];exact hp.st.2⟩,⟨fun x hx=> ?_,by rw[Z49];exact hp.own.2⟩⟩,by simp[Bha]⟩
  ·rcases Z54 hx with h|h
   ·exact hp.st.1 x h
   ·subst h;exact⟨by omega,by omega⟩
  ·rcases Z54 hx with h|h
   ·exact hp.own.1 x h
   ·subst h;exact⟨by omega,by omega⟩
 grind
theorem Bad (K:Nat){p:Ed}(hp:A34 p)(k:Int):A3e K p k=some (A5i p k):=by
 have h1:=hp.st.2;unfold A3e Awc A5i;rw[A21 K hp,Z0,A41 K (by omega),Z0]
 grind
def Als (p:Ed)(l:List Int):Ed:=l.foldl A5i p
theorem Bi2{α σ β:Type}{K:Nat}(hK:281474976710656≤K)(l:List α)(hl:l.length≤140737488355327)(f:σ->α->σ)(s0:σ)(I:σ->Prop)(hI:I s0)(hf: ∀s x,I s->I (f s x))(fin:Option β)(L:Nat->σ->Int->Option β)
  (hs: ∀n s (i:Nat) (h:i<l.length),I s->L (n+1) s (i:Int)=L n (f s l[i]) ((i+1:Nat):Int))
  (he: ∀n,L (n+1) (l.foldl f s0) (l.length:Int)=fin):L K s0 0=fin:=by
 have key: ∀(n i:Nat) (s:σ),I s->i≤l.length->l.length - i<n->(l.drop i).foldl f s=l.foldl f s0->L n s (i:Int)=fin:=by
  intro n
  induction n with
  |zero=>omega
  |succ n ih=>
   grind [List.drop_eq_getElem_cons]
 exact key K 0 s0 hI (Z21 _) (by omega) rfl
def Ajv (n:Ax)(slot:Int):A7:=A7.mk slot n.Bw n.De n.Ad 0
def A16 (n:Ax):Ax:=Ax.mk n.Gt n.C5 (Arj .i64 n.Mu 1) n.fUp n.Gu 0 n.Gv n.Gw [] 0 0 [] []
theorem A5j (K:Nat){n:Ax}(hn:Atw n)(s:Int):Awd K n s=some (Ajv n s):=by
 have hm:=P2
 have h1:=hn.tags.2
 have h2:=hn.chunks.2;unfold Awd;simp only[Z38];rw[if_pos ⟨by omega,by omega⟩,if_pos ⟨by omega,by omega⟩];rfl
theorem Bc3 (K:Nat){n:Ax}(hn:Atw n):A1m K n=some (A16 n):=by
 unfold A1m;rw[Avv K hn];rfl
theorem Azn:wfi 0:=⟨by decide,by decide⟩
theorem Ax5:A40 []:=⟨(fun x hx=>by cases hx),(by simp)⟩
theorem A57:Bcq []:=⟨(fun x hx=>by cases hx),(by simp)⟩
theorem Bhd{n:Ax}(hn:Atw n){s:Int}(hs:wfi s):A3a (Ajv n s):=⟨hs,hn.first,hn.tags,hn.chunks,Azn⟩
def A39 (w:Bm)(k:Int):Bm:=Bm.mk w.fC (Als w.fP (gt w.fL k).Ad) (w.fL.set k.toNat (A16 (gt w.fL k))) (w.fQ++[Ajv (gt w.fL k) 0]) w.Jc
section
variable {K:Nat} (hK:281474976710656≤K)
include hK
theorem A82 (w:Bm)(hw:Alq w)(l:List Int)(hl:l.length≤140737488355327):Aul K w l=some (Bm.mk w.fC (Als w.fP l) w.fL w.fQ w.Jc):=by
 unfold Aul;refine Bi2 hK l (by omega) A5i w.fP A34 hw.p (fun s x h=>(Bi1 h x).1) _ (fun n s i=>Akg K l n i w.fC.Ad w.fC.Ds w.fC.B9 w.fC.Eu w.fC.Ca w.fC.Dt s.Fi s.Gt s.Fj w.fL w.fQ w.Jc) (fun n s i h hs=> ?_) (fun n=> ?_)
 ·simp only[Akg];rw[Wy h,cond_true,if_pos (Agy h),V2 h,show Ed.mk s.Fi s.Gt s.Fj=s from rfl,Bad K hs,Z0,Wx (by omega)]
 ·show Akg K l (n+1) _ _ _ _ _ _ _ _ _ _ _ _ _=_;rw[Akg,Aqt (Z9 _),cond_false];rfl
theorem Bc4 (w:Bm)(hw:Alq w)(hQ:w.fQ.length≤140737488355){k:Int}(hk:0≤k∧k<(w.fL.length:Int)):Aya K w k=some (A39 w k):=by
 have hm:=P2
 have hn:=hw.l.1 _ (Apa hk.1 hk.2);unfold Aya;simp only[if_pos hk,A5j K hn,Z0,A82 hK w hw _ (Aw4 hK hn.chunks),Bc3 K hn];rw[if_pos ⟨by grind,by grind⟩]
 rfl
end
def But (n:Ax)(v:Int):Ax:=Ax.mk n.Gt n.C5 n.Mu n.fUp n.Gu n.Bw v n.Gw n.Ad n.M7 n.Gz n.D3 n.De
def Bpi (n:Ax)(v:Int):Ax:=Ax.mk n.Gt n.C5 n.Mu n.fUp n.Gu n.Bw n.Gv v n.Ad n.M7 n.Gz n.D3 n.De
def Bpj (n:Ax)(v:Int):Ax:=Ax.mk n.Gt n.C5 n.Mu n.fUp n.Gu v n.Gv n.Gw n.Ad n.M7 n.Gz n.D3 n.De
def Bsn (n:Ax):Ax:=Ax.mk n.Gt n.C5 n.Mu 0 0 n.Bw 0 0 n.Ad n.M7 n.Gz n.D3 n.De
theorem A3u{l:List Ax}{k:Int}(hk:0≤k∧k<(l.length:Int))(x:Ax):gt (l.set k.toNat x) k=x:=by
 have hlt:k.toNat<(l.set k.toNat x).length:=by grind
 simp_all[gt]
theorem A4m{l:List Ax}{j k:Int}(hj:0≤j)(hk:0≤k∧k<(l.length:Int))(h:j≠k)(x:Ax):gt (l.set j.toNat x) k=gt l k:=by
 have h1:k.toNat<(l.set j.toNat x).length:=by grind
 have h2:k.toNat<l.length:=by omega
 have e1:gt (l.set j.toNat x) ((k.toNat:Nat):Int)=gt l ((k.toNat:Nat):Int):=by
  rw[V2 h1,V2 h2,List.getElem_set,if_neg (by omega)]
 grind
theorem A72 (K:Nat){l:List Ax}{k:Int}(hk:0≤k∧k<(l.length:Int)):Axm K k l=some (l.set k.toNat (Bsn (gt l k))):=by
 unfold Axm;rw[if_pos hk];simp only[Aty,Z49,A3u hk,B36,if_pos hk];rfl
def A8l (l0 l:List Ax)(k nx pv:Int):List Ax:=bif plB l0 nx then l.set (Ark .i64 nx 1).toNat (Bpi (gt l (Ark .i64 nx 1)) pv)else l
def A7g (l0 l:List Ax)(k nx pv:Int):List Ax:=(A8l l0 l k nx pv).set k.toNat (Bsn (gt (A8l l0 l k nx pv) k))
theorem A58 (l0 l:List Ax)(k nx pv:Int):(A8l l0 l k nx pv).length=l.length:=by
 grind [A8l]
theorem A17 (K:Nat){l0 l:List Ax}(hl:l0.length≤140737488355327)(he:l.length=l0.length){k:Int}(hk:0≤k∧k<(l0.length:Int))(a b c d e f nx pv:Int)(g:List Int)(h i:Int)(t:List Bl)(u:List Int)(hx:wfi nx):Avf K l0 k l a b c d e f nx pv g h i t u=some (A7g l0 l k nx pv):=by
 unfold Avf A7g A8l;rw[Ay1 K hl hx,Z0];cases hp:plB l0 nx with
 |false=>simp_all[A72]
 |true=>
  have:=A3b hp;rw[cond_true,cond_true,if_pos (by omega)]
  simp only[Aty];rw[A72 K (by grind)]
  rfl
def A73 (l:List Ax)(k:Int):List Ax:=
 bif plB l (gt l k).Gw then l.set (Ark .i64 (gt l k).Gw 1).toNat (But (gt l (Ark .i64 (gt l k).Gw 1)) (gt l k).Gv)
 else bif (gt l k).Gw==0&&(plB l (gt l k).fUp&&(gt l (Ark .i64 (gt l k).fUp 1)).Bw==Arj .i64 k 1)then l.set (Ark .i64 (gt l k).fUp 1).toNat (Bpj (gt l (Ark .i64 (gt l k).fUp 1)) (gt l k).Gv)
 else l
def Atx (l:List Ax)(k:Int):List Ax:=A7g l (A73 l k) k (gt l k).Gv (gt l k).Gw
theorem A44 (l:List Ax)(k:Int):(A73 l k).length=l.length:=by
 unfold A73;grind
section
variable {K:Nat} (hK:281474976710656≤K)
include hK
theorem Be7{l:List Ax}(w:Adn l){k:Int}(hk:0≤k∧k<(l.length:Int)):A2p K l k=some (Atx l k):=by
 have hl:=Ahp w
 have hn:=w.1 _ (Apa hk.1 hk.2)
 have e1:Ark .i64 (Arj .i64 k 1) 1=k:=by grind [Ark,Arj,Gy]
 have hpk:plB l (Arj .i64 k 1)=true:=by grind [plB]
 have hwk:wfi (Arj .i64 k 1):=Bo8 _;unfold A2p Atx;rw[A5h hK w,Z0,Ay1 K hl hwk,Z0,hpk,Bool.not_true,cond_false,if_pos hk,Ay1 K hl hn.prev,Z0];unfold A73;cases hp:plB l (gt l k).Gw with
 |true=>
  have:=A3b hp;rw[cond_true,cond_true,if_pos this];simp only[Aty];rw[A17 K hl (by grind) hk _ _ _ _ _ _ _ _ _ _ _ _ _ hn.next]
  rfl
 |false=>
  rw[cond_false,cond_false];cases h0:(gt l k).Gw==0 with
  |false=>
   simp_all[At4,A17,Atw.next]
  |true=>
   rw[cond_true,Ay1 K hl hn.up,Z0];cases hu:plB l (gt l k).fUp with
   |false=>
    simp_all[At4,A17,Atw.next]
   |true=>
    have hui:=A3b hu;rw[cond_true,if_pos hui];simp only[Z30,At4];cases (gt l (Ark .i64 (gt l k).fUp 1)).Bw==Arj .i64 k 1 with
    |false=>
     simp_all[A17,Atw.next]
    |true=>
     simp only[cond_true,if_pos hui,Aty];rw[A17 K hl (by grind) hk _ _ _ _ _ _ _ _ _ _ _ _ _ hn.next]
     rfl
end
def B1o (n:Ax):Ax:=Ax.mk 2 n.C5 0 0 0 0 0 0 [] 0 0 [] []
theorem Bso{n:Ax}(hn:Atw n){v:Int}(hv:wfi v):Atw (But n v):=⟨hn.st,hn.gen,hn.ep,hn.up,hn.upEp,hn.first,hv,hn.prev,hn.chunks,hn.cur,hn.bump,hn.things,hn.tags⟩
theorem Bsp{n:Ax}(hn:Atw n){v:Int}(hv:wfi v):Atw (Bpi n v):=⟨hn.st,hn.gen,hn.ep,hn.up,hn.upEp,hn.first,hn.next,hv,hn.chunks,hn.cur,hn.bump,hn.things,hn.tags⟩
theorem Bpk{n:Ax}(hn:Atw n){v:Int}(hv:wfi v):Atw (Bpj n v):=⟨hn.st,hn.gen,hn.ep,hn.up,hn.upEp,hv,hn.next,hn.prev,hn.chunks,hn.cur,hn.bump,hn.things,hn.tags⟩
theorem Bx8{n:Ax}(hn:Atw n):Atw (Bsn n):=by
 have z:wfi 0:=⟨by decide,by decide⟩
 exact⟨hn.st,hn.gen,hn.ep,z,z,hn.first,z,z,hn.chunks,hn.cur,hn.bump,hn.things,hn.tags⟩
theorem A6s{l:List Ax}{k:Int}(hk:0≤k∧k<(l.length:Int)){x:Ax}(h:A37 x=A37 (gt l k)):((l.set k.toNat x).map A37).sum=(l.map A37).sum:=by
 have hlt:k.toNat<l.length:=by omega
 have:=Bi0 A37 l k.toNat hlt x
 have e:l[k.toNat]=gt l k:=by rw[←V2 hlt,show((k.toNat:Nat):Int)=k by omega]
 grind
theorem Bx9{l:List Ax}(w:Adn l){k:Int}(hk:0≤k∧k<(l.length:Int)):Adn (A73 l k)∧((A73 l k).map A37).sum=(l.map A37).sum:=by
 have hn:=w.1 _ (Apa hk.1 hk.2);unfold A73;cases hp:plB l (gt l k).Gw with
 |true=>
  have hi:=A3b hp;exact⟨A38 w _ (Bso (w.1 _ (Apa hi.1 hi.2)) hn.next),A6s hi rfl⟩
 |false=>
  rw[cond_false];cases hc:((gt l k).Gw==0&&(plB l (gt l k).fUp&&(gt l (Ark .i64 (gt l k).fUp 1)).Bw==Arj .i64 k 1))with
  |false=>grind
  |true=>
   simp only[Z4]at hc
   have hi:=A3b hc.2.1;exact⟨A38 w _ (Bpk (w.1 _ (Apa hi.1 hi.2)) hn.next),A6s hi rfl⟩
theorem Bya{l0 l:List Ax}(w:Adn l)(he:l.length=l0.length)(k nx:Int){pv:Int}(hv:wfi pv):Adn (A8l l0 l k nx pv)∧((A8l l0 l k nx pv).map A37).sum=(l.map A37).sum:=by
 unfold A8l;cases hp:plB l0 nx with
 |true=>
  have hi:=A3b hp;rw[←he]at hi;exact⟨A38 w _ (Bsp (w.1 _ (Apa hi.1 hi.2)) hv),A6s hi rfl⟩
 |false=>grind
theorem Bkw{l:List Ax}(w:Adn l){k:Int}(hk:0≤k∧k<(l.length:Int)):Adn (Atx l k)∧((Atx l k).map A37).sum=(l.map A37).sum∧(Atx l k).length=l.length:=by
 have hn:=w.1 _ (Apa hk.1 hk.2);obtain⟨h1,h2⟩:=Bx9 w hk
 have h3:=A44 l k;obtain⟨h4,h5⟩:=Bya h1 h3 k (gt l k).Gv hn.prev
 have h6:=A58 l (A73 l k) k (gt l k).Gv (gt l k).Gw
 have hk':0≤k∧k<((A8l l (A73 l k) k (gt l k).Gv (gt l k).Gw).length:Int):=by omega
 unfold Atx A7g;exact⟨A38 h4 _ (Bx8 (h4.1 _ (Apa hk'.1 hk'.2))),(A6s (x:=Bsn (gt (A8l l (A73 l k) k (gt l k).Gv (gt l k).Gw) k)) hk' rfl).trans (h5.trans h2),by grind⟩
def A2m (w:Bm)(k:Int):Bm:=Bm.mk w.fC (Als w.fP (gt w.fL k).Ad) ((Atx w.fL k).set k.toNat (B1o (gt (Atx w.fL k) k))) (w.fQ++[Ajv (gt w.fL k) (Arj .i64 k 1)]) w.Jc
section
variable {K:Nat} (hK:281474976710656≤K)
include hK
theorem Bhe (w:Bm)(hw:Alq w)(hQ:w.fQ.length≤140737488355){k:Int}(hk:0≤k∧k<(w.fL.length:Int)):A0g K w k=some (A2m w k):=by
 have hm:=P2
 have hn:=hw.l.1 _ (Apa hk.1 hk.2)
 have hk':0≤k∧k<((Atx w.fL k).length:Int):=by simp_all[Bkw,Alq.l]
 unfold A0g A04;simp only[if_pos hk,A5j K hn,Z0,A82 hK w hw _ (Aw4 hK hn.chunks),Be7 hK hw.l hk,if_pos hk'];rw[if_pos ⟨by grind,by grind⟩]
 rfl
end
def B37 (c:Fc)(x:A7)(v:Int)(i:Nat):Int:=Arj .i64 v (bif ((i:Int)==0)then Aw6 (Ark .i64 c.Ds x.Hp) c.Ca else Aw6 c.Ds c.Ca)
def Byb (c:Fc)(x:A7):Int:=
 (List.range x.Ad.length).foldl (B37 c x) (Arj .i64 (x.De.length:Int) 1)
section
variable {K:Nat} (hK:281474976710656≤K)
include hK
end
def Byc (w:Bm)(k:Int):Int:=Byb w.fC (Ajv (gt w.fL k) 0)
section
variable {K:Nat} (hK:562949953421312≤K)
include hK
end
structure Lk where
 lv:Bool
 gn:Bool
 ep:Int
 up:Int
 ue:Int
 fi:Int
 nx:Int
 pv:Int
section
variable (N:Int) (t:Int->Lk)
def Lv (k:Int):Prop:=(0≤k∧k<N)∧(t k).lv=true
def Cu (k:Int):Prop:=Lv N t ((t k).up - 1)∧(t ((t k).up - 1)).ep=(t k).ue
def Oo (k:Int):Prop:=Lv N t k∧(t k).up≠0∧ ¬Cu N t k
structure A66 (k:Int):Prop where
 first:(t k).fi≠0->Lv N t ((t k).fi - 1)∧(t ((t k).fi - 1)).pv=0∧(t ((t k).fi - 1)).up=k+1∧(t ((t k).fi - 1)).ue=(t k).ep
 next:(t k).nx≠0->Lv N t ((t k).nx - 1)∧(t ((t k).nx - 1)).pv=k+1∧(t ((t k).nx - 1)).up=(t k).up∧(t ((t k).nx - 1)).ue=(t k).ue
 prev:(t k).pv≠0->Lv N t ((t k).pv - 1)∧(t ((t k).pv - 1)).nx=k+1
 up:(t k).up≠0->0≤(t k).up - 1∧(t k).up - 1<N
 top:(t k).pv=0->Cu N t k->(t ((t k).up - 1)).fi=k+1
def kids:Nat->Int->List Int
 |0,_=>[]
 |n+1,k=>if 0≤k∧k<N then k::kids n ((t k).nx - 1)else []
def rise:Nat->Int->List Int
 |0,_=>[]
 |n+1,k=>if 0≤k∧k<N then k::rise n ((t k).up - 1)else []
structure Axz:Prop where
 link: ∀k,Lv N t k->A66 N t k
 rise: ∀k,Lv N t k->(rise N t N.toNat k).length≤4∧ ∀x,(rise N t N.toNat k).getLast? =some x-> ¬Cu N t x
 bare: ∀k,0≤k->k<N->(t k).lv=false->(t k).up=0∧(t k).fi=0∧(t k).nx=0∧(t k).pv=0
def Wf (r:Int->Nat):Prop:= ∀x,Lv N t x->(t x).pv≠0->r ((t x).pv - 1)<r x
end
section
variable {N:Int} {t:Int->Lk}
theorem Bkx (n:Nat)(k:Int):kids N t (n+1) k=if 0≤k∧k<N then k::kids N t n ((t k).nx - 1)else []:=rfl
theorem Bky (n:Nat)(k:Int):rise N t (n+1) k=if 0≤k∧k<N then k::rise N t n ((t k).up - 1)else []:=rfl
theorem Oo.lv{k:Int}(h:Oo N t k):Lv N t k:=h.1
theorem Bc5: ∀(n:Nat) (k x:Int),x∈kids N t n k->0≤x∧x<N:=by
 intro n
 induction n with
 |zero=>intro k x h;cases h
 |succ n ih=>
  intro k x h;unfold kids at h;split at h
  ·rename_i h1;rcases Fl.1 h with rfl|h
   ·exact h1
   ·exact ih _ x h
  ·cases h
theorem A08 (n:Nat):kids N t n (0 - 1)=[]:=by
 cases n with
 |zero=>rfl
 |succ n=>rfl
theorem Bkz: ∀(n:Nat) (k:Int),kids N t n k=(kids N t (n+1) k).take n:=by
 intro n
 induction n with
 |zero=>grind [kids]
 |succ n ih=>
  grind [Bkx]
theorem Bpl (T:Axz N t){u e:Int}: ∀(n:Nat) (k:Int),Lv N t k->(t k).up=u->(t k).ue=e-> ∀x∈kids N t n k,Lv N t x∧(t x).up=u∧(t x).ue=e:=by
 intro n
 induction n with
 |zero=>intro k _ _ _ x h;cases h
 |succ n ih=>
  intro k h1 h2 h3 x h;unfold kids at h;split at h
  ·rcases Fl.1 h with rfl|h
   ·grind
   ·by_cases h4:(t k).nx=0
    ·grind [A08]
    ·obtain⟨a,_,b,c⟩:=(T.link k h1).next h4
     grind
  ·cases h
theorem Bb0 (T:Axz N t){r:Int->Nat}(W:Wf N t r): ∀(n:Nat) (k:Int),Lv N t k->(∀x∈kids N t n k,r k≤r x)∧(kids N t n k).Pairwise (fun a b=>r a<r b):=by
 intro n
 induction n with
 |zero=>intro k _;exact⟨fun x h=>(by cases h),.nil⟩
 |succ n ih=>
  intro k h1;unfold kids;split
  ·by_cases h4:(t k).nx=0
   ·rw[h4,A08]
    grind
   ·obtain⟨a,b,_⟩:=(T.link k h1).next h4;obtain⟨i1,i2⟩:=ih _ a
    have hr:=W _ a (by omega)
    rw[b,Int.add_sub_cancel]at hr;refine⟨fun x h=> ?_,List.pairwise_cons.2 ⟨fun x h=> ?_,i2⟩⟩
    all_goals grind
  simp_all
theorem A7h (T:Axz N t){r:Int->Nat}(W:Wf N t r)(n:Nat){k:Int}(h:Lv N t k):(kids N t n k).Nodup:=
 (Bb0 T W n k h).2.imp fun h e=>by grind
theorem Bc6{l:List Int}(hn:l.Nodup)(h: ∀x∈l,0≤x∧x<N):l.length≤N.toNat:=by
 have:=Ay2 (l:=(List.range N.toNat).map (fun i:Nat=>(i:Int))) hn (fun x hx=>by
  have:=h x hx;rw[F9];exact⟨x.toNat,by grind,by omega⟩)
 grind
theorem Bk0: ∀(n:Nat) (k y x:Int),y∈kids N t n k->(t y).nx=x+1->0≤x∧x<N->x∈kids N t n k∨(kids N t n k).length=n:=by
 intro n
 induction n with
 |zero=>intro k y x h;cases h
 |succ n ih=>
  intro k y x h h1 h2;unfold kids at h ⊢;split at h
  ·rename_i h3;rw[if_pos h3];rcases Fl.1 h with rfl|h
   ·rw[h1,Int.add_sub_cancel];cases n with
    |zero=>grind [kids]
    |succ n=>simp_all[kids.eq_2]
   grind
  ·cases h
theorem Bpm (T:Axz N t){r:Int->Nat}(W:Wf N t r){k:Int}(hk:Lv N t k)(x:Int):
  x∈kids N t N.toNat ((t k).fi - 1) ↔ Lv N t x∧(t x).up=k+1∧(t x).ue=(t k).ep:=by
 constructor
 ·intro h
  by_cases h0:(t k).fi=0
  ·grind [A08]
  ·obtain⟨a,_,b,c⟩:=(T.link k hk).first h0;exact Bpl T _ _ a b c x h
 ·generalize hn:r x=n
  induction n using Nat.strongRecOn generalizing x with
  |_ n ih=>
   intro⟨h1,h2,h3⟩
   have hc:Cu N t x:=by simp_all[Cu]
   by_cases hp:(t x).pv=0
   ·have:=(T.link x h1).top hp hc;rw[h2,Int.add_sub_cancel]at this;obtain⟨m,hm⟩: ∃m,N.toNat=m+1:=⟨N.toNat - 1,by have:=h1.1;omega⟩
    rw[this,Int.add_sub_cancel,hm,kids,if_pos h1.1];simp
   ·obtain⟨a,b⟩:=(T.link x h1).prev hp
    have hr:=W x h1 hp;obtain⟨_,_,c,d⟩:=(T.link _ a).next (by rw[b];have:=h1.1;omega)
    rw[b,Int.add_sub_cancel]at c d
    have hy:=ih _ (by omega) _ rfl ⟨a,c ▸ h2,d ▸ h3⟩
    rcases Bk0 _ _ _ x hy b h1.1 with h|h
    ·exact h
    ·refine Classical.byContradiction fun hx=> ?_
     have h0:(t k).fi≠0:=fun e=>by grind [A08]
     have hd:=A7h T W N.toNat ((T.link k hk).first h0).1
     have:=Bc6 (N:=N) (l:=x::kids N t N.toNat ((t k).fi - 1)) (List.nodup_cons.2 ⟨hx,hd⟩) (fun y hy=>by
      rcases Fl.1 hy with rfl|hy
      ·exact h1.1
      ·exact Bc5 _ _ y hy)
     grind
theorem A59 (T:Axz N t){r:Int->Nat}(W:Wf N t r)(n:Nat){k:Int}(hk:Lv N t k):(kids N t n ((t k).fi - 1)).Nodup:=by
 by_cases h0:(t k).fi=0
 ·grind [A08]
 ·exact A7h T W n ((T.link k hk).first h0).1
theorem A5k{t':Int->Lk}: ∀(n:Nat) (k:Int),(∀x∈kids N t n k,(t' x).nx=(t x).nx)->kids N t' n k=kids N t n k:=by
 intro n
 induction n with
 |zero=>intro k _;rfl
 |succ n ih=>
  simp_all[kids.eq_2]
theorem A4n{t':Int->Lk}: ∀(n:Nat) (k:Int),(∀x∈rise N t n k,(t' x).up=(t x).up)->rise N t' n k=rise N t n k:=by
 intro n
 induction n with
 |zero=>intro k _;rfl
 |succ n ih=>
  simp_all[rise]
theorem Bk1: ∀(n:Nat) (k:Int),rise N t n k=(rise N t (n+1) k).take n:=by
 intro n
 induction n with
 |zero=>grind [rise]
 |succ n ih=>
  grind [Bky]
theorem A22: ∀(n:Nat) (k x:Int),x∈rise N t n k->0≤x∧x<N:=by
 intro n
 induction n with
 |zero=>intro k x h;cases h
 |succ n ih=>
  intro k x h;unfold rise at h;split at h
  ·rename_i h1;rcases Fl.1 h with rfl|h
   ·exact h1
   ·exact ih _ x h
  ·cases h
theorem Bpn{t':Int->Lk}{g:Int}(h: ∀x,x≠g->(t' x).up=(t x).up)(hg:(t' g).up=0): ∀(n:Nat) (k:Int),
  (rise N t' n k=[] ↔ rise N t n k=[])∧(rise N t' n k).length≤(rise N t n k).length∧((rise N t' n k).getLast? =some g∨(rise N t' n k).getLast? =(rise N t n k).getLast?):=by
 intro n
 induction n with
 |zero=>intro k;exact⟨Iff.rfl,Z9 _,.inr rfl⟩
 |succ n ih=>
  intro k;rw[rise,rise]
  by_cases h1:0≤k∧k<N
  ·rw[if_pos h1,if_pos h1]
   by_cases e:k=g
   ·subst e
    have:rise N t' n (0 - 1)=[]:=by cases n with|zero=>rfl|succ n=>rfl
    grind
   ·rw[h k e];obtain⟨i1,i2,i3⟩:=ih ((t k).up - 1);refine⟨by simp,by grind,?_⟩
    cases ha:rise N t' n ((t k).up - 1)with
    |nil=>grind
    |cons a l=>
     cases hb:rise N t n ((t k).up - 1)with
     |nil=>grind
     |cons b m=>
      simp_all
  simp_all[if_neg]
theorem A6t (T:Axz N t){k:Int}(hk:Lv N t k)(hc:Cu N t k):(t k).up≠k+1:=by
 intro e;obtain⟨_,h⟩:=T.rise k hk
 have: ∀n,rise N t (n+1) k=List.replicate (n+1) k:=by
  intro n
  induction n with
  |zero=>rw[rise,if_pos hk.1];rfl
  |succ n ih=>rw[rise,if_pos hk.1,e,Int.add_sub_cancel,ih];rfl
 obtain⟨m,hm⟩: ∃m,N.toNat=m+1:=⟨N.toNat - 1,by have:=hk.1;omega⟩
 refine h k ?_ hc;rw[hm,this,List.getLast?_replicate,if_neg (by omega)]
def rem (t:Int->Lk)(g:Int)(x:Int):Lk:=
 if x=g then⟨false,true,0,0,0,0,0,0⟩else
  ⟨(t x).lv,(t x).gn,(t x).ep,(t x).up,(t x).ue,if(t g).pv=0∧x+1=(t g).up∧(t x).fi=g+1 then(t g).nx else(t x).fi,if x+1=(t g).pv then(t g).nx else(t x).nx,if x+1=(t g).nx then(t g).pv else(t x).pv⟩
theorem A74{g:Int}:rem t g g=⟨false,true,0,0,0,0,0,0⟩:=if_pos rfl
theorem An9{g x:Int}(h:x≠g):rem t g x=⟨(t x).lv,(t x).gn,(t x).ep,(t x).up,(t x).ue,if(t g).pv=0∧x+1=(t g).up∧(t x).fi=g+1 then(t g).nx else(t x).fi,if x+1=(t g).pv then(t g).nx else(t x).nx,if x+1=(t g).nx then(t g).pv else(t x).pv⟩:=if_neg h
theorem Asu{g x:Int}:Lv N (rem t g) x ↔ x≠g∧Lv N t x:=by
 unfold Lv
 by_cases h:x=g
 all_goals grind [A74,An9]
theorem A4a{g x:Int}(hx:x≠g):Cu N (rem t g) x ↔ (t x).up≠g+1∧Cu N t x:=by
 unfold Cu;rw[Asu,An9 hx]
 by_cases h:(t x).up - 1=g
 ·grind
 ·rw[An9 h]
  grind
theorem Bpo{g x:Int}(hg:0≤g):Oo N (rem t g) x ↔ x≠g∧(Oo N t x∨Lv N t x∧(t x).up=g+1):=by
 unfold Oo;rw[Asu]
 by_cases h:x=g
 ·simp[h]
 ·rw[A4a h,An9 h]
  grind
theorem Bpp (T:Axz N t){g x:Int}(hg:Lv N t g)(hx:Lv N (rem t g) x):A66 N (rem t g) x:=by
 obtain⟨hne,hl⟩:=Asu.1 hx
 have G:=T.link g hg
 have X:=T.link x hl
 have g0:=hg.1
 have x0:=hl.1;refine⟨?_,?_,?_,?_,?_⟩
 ·rw[An9 hne];intro h;simp only at h ⊢
  by_cases hA:(t g).pv=0∧x+1=(t g).up∧(t x).fi=g+1
  ·rw[if_pos hA]at h ⊢;obtain⟨a,b,c,d⟩:=G.next h
   have hm:(t g).nx - 1≠g:=fun e=>by grind
   obtain⟨_,_,_,f4⟩:=X.first (by omega)
   simp_all[An9,Asu]
  ·rw[if_neg hA]at h ⊢;obtain⟨a,b,c,d⟩:=X.first h
   have hm:(t x).fi - 1≠g:=fun e=>by grind
   rw[An9 hm];refine⟨Asu.2 ⟨hm,a⟩,?_,c,d⟩;simp only;rw[if_neg]
   ·exact b
   ·intro e
    have:=(G.next (by omega)).2.1
    grind
 ·rw[An9 hne];intro h;simp only at h ⊢
  by_cases hA:x+1=(t g).pv
  ·rw[if_pos hA]at h ⊢;obtain⟨a,b,c,d⟩:=G.next h
   have hm:(t g).nx - 1≠g:=fun e=>by grind
   obtain⟨_,p2⟩:=G.prev (by omega)
   rw[←hA,Int.add_sub_cancel]at p2;obtain⟨_,_,q3,q4⟩:=X.next (by omega)
   simp_all[An9,Asu]
  ·rw[if_neg hA]at h ⊢;obtain⟨a,b,c,d⟩:=X.next h
   have hm:(t x).nx - 1≠g:=fun e=>by grind
   rw[An9 hm];refine⟨Asu.2 ⟨hm,a⟩,?_,c,d⟩;simp only;rw[if_neg]
   ·exact b
   ·intro e
    have:=(G.next (by omega)).2.1
    grind
 ·rw[An9 hne];intro h;simp only at h ⊢
  by_cases hA:x+1=(t g).nx
  ·rw[if_pos hA]at h ⊢;obtain⟨a,b⟩:=G.prev h
   have hm:(t g).pv - 1≠g:=fun e=>by grind
   simp_all[An9,Asu]
  ·rw[if_neg hA]at h ⊢;obtain⟨a,b⟩:=X.prev h
   have hm:(t x).pv - 1≠g:=fun e=>by grind
   rw[An9 hm];refine⟨Asu.2 ⟨hm,a⟩,?_⟩;simp only;rw[if_neg]
   ·exact b
   ·intro e
    have:=(G.prev (by omega)).2
    grind
 ·rw[An9 hne];exact X.up
 ·intro h hc;obtain⟨c1,c2⟩:=(A4a hne).1 hc;rw[An9 hne]at h ⊢;simp only at h ⊢
  have hm:(t x).up - 1≠g:=by omega
  rw[An9 hm];simp only
  by_cases hA:x+1=(t g).nx
  ·rw[if_pos hA]at h;obtain⟨_,_,q3,q4⟩:=G.next (by omega)
   rw[←hA,Int.add_sub_cancel]at q3 q4
   have hcg:Cu N t g:=by grind [Cu]
   have:=G.top h hcg
   grind
  ·rw[if_neg hA]at h
   have:=X.top h c2;omega
theorem Bae (T:Axz N t){g:Int}(hg:Lv N t g):Axz N (rem t g):=by
 refine⟨fun k hk=>Bpp T hg hk,fun k hk=> ?_,fun k h0 h1 h=> ?_⟩
 ·obtain⟨hne,hl⟩:=Asu.1 hk;obtain⟨r1,r2⟩:=T.rise k hl;obtain⟨_,c1,c2⟩:=Bpn (t:=t) (t':=rem t g) (N:=N) (g:=g) (fun x hx=>by rw[An9 hx]) (by rw[A74]) N.toNat k
  refine⟨by omega,fun x hx hc=> ?_⟩
  by_cases e:x=g
  ·subst e;unfold Cu at hc;rw[A74]at hc
   have:=hc.1.1.1
   grind
  ·rcases c2 with c2|c2
   ·grind
   simp_all[A4a]
 ·by_cases e:k=g
  ·simp_all[A74]
  ·rw[An9 e]at h ⊢;simp only at h ⊢;obtain⟨a,b,c,d⟩:=T.bare k h0 h1 h
   have G:=T.link g hg;refine⟨a,?_,?_,?_⟩
   ·rw[if_neg (fun q=>by have:=hg.1;omega)];exact b
   ·rw[if_neg]
    ·exact c
    ·intro q
     have:=(G.prev (by omega)).1.2
     grind
   ·rw[if_neg]
    ·exact d
    ·intro q
     have:=(G.next (by omega)).1.2
     grind
theorem Byd (T:Axz N t){r:Int->Nat}(W:Wf N t r){g:Int}(hg:Lv N t g):Wf N (rem t g) r:=by
 intro x hx h;obtain⟨hne,hl⟩:=Asu.1 hx;rw[An9 hne]at h ⊢;simp only at h ⊢
 by_cases hA:x+1=(t g).nx
 ·rw[if_pos hA]at h ⊢
  have h1:=W g hg h
  have h2:=((T.link g hg).next (by have:=hl.1;omega)).2.1
  rw[←hA,Int.add_sub_cancel]at h2
  have h3:=W x hl (by have:=hg.1;omega)
  grind
 ·rw[if_neg hA]at h ⊢;exact W x hl h
end
section
variable (N:Int) (t:Int->Lk)
def kf (f:Int):List Int:=kids N t N.toNat (f - 1)
structure Bc7 (fs:List Int):Prop where
 nodup:(fs.flatMap (kf N t)).Nodup
 iff: ∀x,x∈fs.flatMap (kf N t) ↔ Oo N t x
 top: ∀f∈fs,f≠0->(0≤f - 1∧f - 1<N)∧(t (f - 1)).pv=0
inductive Dd (S:List Int):Int->Prop
 |base {y:Int}:y∈S->Dd S y
 |step {y:Int}:Lv N t y->Cu N t y->Dd S ((t y).up - 1)->Dd S y
inductive Al:Int->Prop
 |root {y:Int}:Lv N t y->(t y).up=0->Al y
 |step {y:Int}:Lv N t y->Cu N t y->Al ((t y).up - 1)->Al y
def Odr:List Int->List (Int×Int)->Prop
 |_,[]=>True
 |seen,e::q=>(∀y,Dd N t (kf N t e.2) y-> ∀x,Lv N t x->(t x).up=y+1-> ¬Cu N t x->x∈seen)∧(e.1≠0-> ∀x,Lv N t x->(t x).up=e.1->x∈seen++kf N t e.2)∧Odr (seen++kf N t e.2) q
structure Ajm (qs:List (Int×Int)):Prop where
 tree:Axz N t
 wf: ∃r,Wf N t r
 uw: ∃d:Int->Nat,∀x,Lv N t x->Cu N t x->d ((t x).up - 1)<d x
 kid:Bc7 N t (qs.map (·.2))
 ord:Odr N t [] qs
 gone: ∀x,Lv N t x->(t x).up≠0->(t ((t x).up - 1)).lv=true∨(t ((t x).up - 1)).gn=true
 ep: ∀x,Lv N t x->Lv N t ((t x).up - 1)->(t x).ue≤(t ((t x).up - 1)).ep
 slot: ∀e∈qs,e.1≠0->(t (e.1 - 1)).lv=false∧(t (e.1 - 1)).gn=true
end
section
variable {N:Int} {t:Int->Lk}
theorem Al.lv{y:Int}(h:Al N t y):Lv N t y:=by cases h<;>assumption
theorem Al.noOr{y:Int}(h:Al N t y): ¬Oo N t y:=by
 intro g;cases h with
 |root a b=>exact g.2.1 b
 |step a b c=>exact g.2.2 b
theorem Al.noDd{S:List Int}(hS: ∀x∈S,Oo N t x){y:Int}(h:Al N t y): ¬Dd N t S y:=by
 induction h with
 |root a b=>
  intro g;cases g with
  |base g=>exact(hS _ g).2.1 b
  |step g1 g2 g3=>have:=g2.1.1.1;omega
 |step a b c ih=>
  intro g;cases g with
  |base g=>exact(hS _ g).2.2 b
  |step g1 g2 g3=>grind
theorem Dd.in{S:List Int}(hS: ∀x∈S,0≤x∧x<N){y:Int}(h:Dd N t S y):0≤y∧y<N:=by
 cases h with
 |base h=>grind
 |step h _ _=>exact h.1
theorem Bi3{f x:Int}(h:x∈kf N t f):0≤x∧x<N:=Bc5 _ _ _ h
theorem Bc7.or{fs:List Int}(h:Bc7 N t fs){f:Int}(hf:f∈fs){x:Int}(hx:x∈kf N t f):Oo N t x:=
 (h.iff x).1 (List.mem_flatMap.2 ⟨f,hf,hx⟩)
theorem sib (T:Axz N t){g x:Int}(hg:Lv N t g)(h:x+1=(t g).pv)(hx:0≤x):Lv N t x∧(t g).up=(t x).up∧(t g).ue=(t x).ue:=by
 obtain⟨a,b⟩:=(T.link g hg).prev (by omega)
 rw[←h,Int.add_sub_cancel]at a b;obtain⟨_,_,c,d⟩:=(T.link x a).next (by rw[b];have:=hg.1;omega)
 rw[b,Int.add_sub_cancel]at c d;exact⟨a,c,d⟩
theorem Bpq{g x:Int}(h1:(t g).up=(t x).up)(h2:(t g).ue=(t x).ue):Cu N t g ↔ Cu N t x:=by unfold Cu;rw[h1,h2]
theorem A45 (T:Axz N t){r:Int->Nat}(W:Wf N t r){g:Int}(hg:Lv N t g)(x:Int):x∈kf N t (t g).fi ↔ Lv N t x∧(t x).up=g+1∧Cu N t x:=by
 unfold kf;rw[Bpm T W hg];constructor
 ·simp_all[Cu]
 ·rintro⟨a,b,c⟩;refine⟨a,b,?_⟩
  have:=c.2
  grind
theorem Bhf{g f:Int}(h: ∀x∈kf N t f,x≠g∧x+1≠(t g).pv):kf N (rem t g) f=kf N t f:=
 A5k _ _ fun x hx=>by
  obtain⟨a,b⟩:=h x hx
  simp_all[An9]
theorem A4o (T:Axz N t){r:Int->Nat}(W:Wf N t r){g:Int}(hg:Lv N t g):kf N (rem t g) (t g).fi=kf N t (t g).fi:=by
 refine Bhf fun x hx=> ?_;obtain⟨a,b,c⟩:=(A45 T W hg x).1 hx;constructor
 ·grind [A6t]
 ·intro e;obtain⟨_,h1,h2⟩:=sib T hg e a.1.1;exact A6t T hg ((Bpq h1 h2).2 c) (h1.trans b)
theorem Bc8 (T:Axz N t){g f:Int}(hg:Lv N t g)(h:(0≤f - 1∧f - 1<N)∧(t (f - 1)).pv=0):(0≤f - 1∧f - 1<N)∧(rem t g (f - 1)).pv=0:=by
 refine⟨h.1,?_⟩
 by_cases e:f - 1=g
 ·rw[e,A74]
 ·rw[An9 e];simp only;rw[if_neg]
  ·exact h.2
  ·intro q
   have:=((T.link g hg).next (by omega)).2.1
   rw[←q,Int.add_sub_cancel,h.2]at this
   have:=hg.1;omega
theorem Bb1 (T:Axz N t){g:Int}(hg:Lv N t g)(h:(t g).fi≠0):(0≤(t g).fi - 1∧(t g).fi - 1<N)∧(rem t g ((t g).fi - 1)).pv=0:=by
 obtain⟨a,b,_⟩:=(T.link g hg).first h;exact Bc8 T hg ⟨a.1,b⟩
theorem Apb{α:Type}{a b:List α}:(a++b).Nodup ↔ a.Nodup∧b.Nodup∧ ∀x∈a,x ∉ b:=by
 grind
theorem Ay3{α β:Type}{l:List α}{f g:α->List β}(h: ∀x∈l,f x=g x):l.flatMap f=l.flatMap g:=by
 induction l with
 |nil=>rfl
 |cons x l ih=>rw[List.flatMap_cons,List.flatMap_cons,h x (by simp),ih fun y hy=>h y (by simp[hy])]
theorem A8m (T:Axz N t){g:Int}(hg:Lv N t g)(ho: ¬Oo N t g){fs:List Int}(K:Bc7 N t fs){f:Int}(hf:f∈fs):kf N (rem t g) f=kf N t f:=by
 refine Bhf fun x hx=> ?_
 have hx:=K.or hf hx;constructor
 ·grind
 ·intro e;obtain⟨_,h1,h2⟩:=sib T hg e hx.1.1.1;exact ho ⟨hg,h1 ▸ hx.2.1,fun c=>hx.2.2 ((Bpq h1 h2).1 c)⟩
theorem Bk2 (T:Axz N t){r:Int->Nat}(W:Wf N t r){g:Int}(hg:Lv N t g)(ho: ¬Oo N t g){fs:List Int}(K:Bc7 N t fs):Bc7 N (rem t g) (fs++[(t g).fi]):=by
 have e:(fs++[(t g).fi]).flatMap (kf N (rem t g))=fs.flatMap (kf N t)++kf N t (t g).fi:=by
  grind [A4o,Ay3,A8m]
 refine⟨?_,fun x=> ?_,fun f hf h0=> ?_⟩
 ·rw[e,Apb];exact⟨K.nodup,A59 T W _ hg,fun x h1 h2=>((K.iff x).1 h1).2.2 ((A45 T W hg x).1 h2).2.2⟩
 ·rw[e,Nj,K.iff,A45 T W hg,Bpo hg.1.1];constructor
  ·grind [A6t]
  ·rintro⟨a,h|⟨b,c⟩⟩
   ·grind
   ·by_cases d:Cu N t x
    ·grind
    ·exact .inl ⟨b,by have:=hg.1.1;omega,d⟩
 ·rw[Nj,Sj]at hf;rcases hf with hf|rfl
  ·exact Bc8 T hg (K.top f hf h0)
  ·exact Bb1 T hg h0
theorem A75{f:Int}(h:0≤f - 1∧f - 1<N):f - 1∈kf N t f:=by
 unfold kf;obtain⟨m,hm⟩: ∃m,N.toNat=m+1:=⟨N.toNat - 1,by omega⟩
 rw[hm,kids,if_pos h];simp
theorem A7i (T:Axz N t){r:Int->Nat}(W:Wf N t r){g:Int}(hg:Lv N t g):kf N t (g+1)=g::kf N t (t g).nx:=by
 unfold kf;obtain⟨m,hm⟩: ∃m,N.toNat=m+1:=⟨N.toNat - 1,by have:=hg.1;omega⟩
 rw[Int.add_sub_cancel,hm,kids,if_pos hg.1]
 congr 1
 rw[Bkz,List.take_of_length_le]
 by_cases h0:(t g).nx=0
 ·rw[h0,A08];grind
 ·obtain⟨a,b,_⟩:=(T.link g hg).next h0
  have hr:=W _ a (by rw[b];have:=hg.1;omega)
  rw[b,Int.add_sub_cancel]at hr
  have hn:g ∉ kids N t (m+1) ((t g).nx - 1):=fun h=>by
   have:=(Bb0 T W (m+1) _ a).1 g h;omega
  have:=Bc6 (N:=N) (List.nodup_cons.2 ⟨hn,A7h T W (m+1) a⟩) (fun y hy=>by
   rcases Fl.1 hy with rfl|hy
   ·exact hg.1
   ·exact Bc5 _ _ y hy)
  grind
theorem Bpr (T:Axz N t){r:Int->Nat}(W:Wf N t r){g:Int}(hg:Lv N t g){fs:List Int}(K:Bc7 N t ((g+1)::fs)):
  (∀f∈(t g).nx::fs,kf N (rem t g) f=kf N t f)∧Bc7 N (rem t g) ((t g).fi::(t g).nx::fs):=by
 have h0:(t g).pv=0:=by have:=(K.top (g+1) (by simp) (by have:=hg.1;omega)).2;grind
 have ho:Oo N t g:=K.or (f:=g+1) (by simp) (by have:=A75 (N:=N) (t:=t) (f:=g+1) (by rw[Int.add_sub_cancel];exact hg.1);grind)
 have hnd:=K.nodup;rw[List.flatMap_cons,A7i T W hg]at hnd;rw[Z45,List.nodup_cons]at hnd
 have hold: ∀f∈(t g).nx::fs,kf N (rem t g) f=kf N t f:=fun f hf=>Bhf fun x hx=>by
  refine⟨?_,fun e=>by have:=Bi3 hx;omega⟩
  grind
 have e:((t g).fi::(t g).nx::fs).flatMap (kf N (rem t g))=kf N t (t g).fi++((t g).nx::fs).flatMap (kf N t):=by
  grind [A4o,Ay3]
 have hsub: ∀x,x∈((t g).nx::fs).flatMap (kf N t) ↔ Oo N t x∧x≠g:=by
  intro x
  have:=K.iff x;rw[List.flatMap_cons,A7i T W hg,Z45,Fl]at this
  grind
 refine⟨hold,?_,fun x=> ?_,fun f hf h1=> ?_⟩
 ·rw[e,Apb];refine⟨A59 T W _ hg,by grind,fun x h1 h2=>((hsub x).1 h2).1.2.2 ((A45 T W hg x).1 h1).2.2⟩
 ·rw[e,Nj,hsub,A45 T W hg,Bpo hg.1.1];constructor
  ·grind [A6t]
  ·rintro⟨a,h|⟨b,c⟩⟩
   ·grind
   ·by_cases d:Cu N t x
    ·grind
    ·exact .inr ⟨⟨b,by have:=hg.1.1;omega,d⟩,a⟩
 ·rcases Fl.1 hf with rfl|hf
  ·exact Bb1 T hg h1
  ·rcases Fl.1 hf with rfl|hf
   ·obtain⟨a,b,_⟩:=(T.link g hg).next h1
    have hm:(t g).nx - 1≠g:=fun q=>by grind
    refine⟨a.1,?_⟩
    simp_all[An9]
   ·exact Bc8 T hg (K.top f (by simp[hf]) h1)
theorem Baf{t':Int->Lk}: ∀(q:List (Int×Int)) (seen seen':List Int),(∀e∈q,kf N t' e.2=kf N t e.2)→
  (∀e∈q,∀y,Dd N t' (kf N t' e.2) y->Dd N t (kf N t e.2) y∧ ∀x,Lv N t' x->(t' x).up=y+1-> ¬Cu N t' x->x∈seen'∨Lv N t x∧(t x).up=y+1∧ ¬Cu N t x)→
  (∀e∈q,e.1≠0-> ∀x,Lv N t' x->(t' x).up=e.1->x∈seen'∨Lv N t x∧(t x).up=e.1)→
  (∀x∈seen,Lv N t' x->x∈seen')->Odr N t seen q->Odr N t' seen' q:=by
 intro q
 induction q with
 |nil=>intros;trivial
 |cons e q ih=>
  intro seen seen' hk hd hsl hs h;obtain⟨h1,h2,h3⟩:=h
  have hke:=hk e (by simp)
  refine⟨fun y hy x hx hu hc=> ?_,fun h0 x hx hu=> ?_,?_⟩
  ·grind
  ·grind
  ·rw[hke];refine ih (seen++kf N t e.2) _ (fun f hf=>hk f (by simp[hf])) (fun f hf y hy=> ?_) (fun f hf h0 x hx hu=> ?_) (fun x hx hl=> ?_) h3
   all_goals grind
theorem Bi4: ∀(q:List (Int×Int)) (seen:List Int) (e:Int×Int),Odr N t seen q→
  (∀y,Dd N t (kf N t e.2) y-> ∀x,Lv N t x->(t x).up=y+1-> ¬Cu N t x->x∈seen++q.flatMap (fun e=>kf N t e.2))→
  (e.1≠0-> ∀x,Lv N t x->(t x).up=e.1->x∈(seen++q.flatMap (fun e=>kf N t e.2))++kf N t e.2)->Odr N t seen (q++[e]):=by
 intro q
 induction q with
 |nil=>intro seen e h h1 h2;rw[List.flatMap_nil,List.append_nil]at h1 h2;exact⟨h1,h2,trivial⟩
 |cons f q ih=>
  intro seen e h h1 h2;obtain⟨a,b,c⟩:=h;rw[List.flatMap_cons,←Z31]at h1 h2;exact⟨a,b,ih _ e c h1 h2⟩
theorem Bc9{g:Int}{S:List Int}{y:Int}(h:Dd N (rem t g) S y):Dd N t S y:=by
 induction h with
 |base h=>exact .base h
 |step a b c ih=>
  obtain⟨h1,h2⟩:=Asu.1 a;rw[An9 h1]at ih;exact .step h2 ((A4a h1).1 b).2 ih
theorem A6a{g:Int}{S:List Int}(hS:g ∉ S){y:Int}(h:Dd N (rem t g) S y):y≠g:=by
 cases h with
 |base h=>grind
 |step a _ _=>exact(Asu.1 a).1
theorem Bag{qs qs':List (Int×Int)}(F:Ajm N t qs){g:Int}(hg:Lv N t g)(hK:Bc7 N (rem t g) (qs'.map (·.2)))(hO:Odr N (rem t g) [] qs')(hs: ∀e∈qs',e.1≠0->e.1=g+1∨e.1∈qs.map (·.1)):Ajm N (rem t g) qs':=by
 obtain⟨r,W⟩:=F.wf;obtain⟨d,U⟩:=F.uw;refine⟨Bae F.tree hg,⟨r,Byd F.tree W hg⟩,⟨d,fun x hx hc=> ?_⟩,hK,hO,fun x hx h=> ?_,fun x hx h=> ?_,fun e he h0=> ?_⟩
 ·obtain⟨h1,h2⟩:=Asu.1 hx;rw[An9 h1];exact U x h2 ((A4a h1).1 hc).2
 ·obtain⟨h1,h2⟩:=Asu.1 hx;rw[An9 h1]at h ⊢;simp only at h ⊢
  by_cases e:(t x).up - 1=g
  ·simp_all[A74]
  grind [An9,Ajm.gone]
 ·obtain⟨h1,h2⟩:=Asu.1 hx;rw[An9 h1]at h ⊢;simp only at h ⊢;obtain⟨h3,h4⟩:=Asu.1 h
  grind [An9,Ajm.ep]
 ·by_cases e1:e.1 - 1=g
  ·simp_all[A74]
  ·rw[An9 e1];rcases hs e he h0 with h|h
   ·omega
   ·obtain⟨a,ha,hb⟩:=F9.1 h
    grind [Ajm.slot]
theorem Bda{qs:List (Int×Int)}(F:Ajm N t qs){g:Int}(hg:Al N t g):Ajm N (rem t g) (qs++[(g+1,(t g).fi)]):=by
 obtain⟨r,W⟩:=F.wf
 have hl:=hg.lv
 have T:=F.tree
 have K:=F.kid
 have hK:=Bk2 T W hl hg.noOr K;rw[show qs.map (·.2)++[(t g).fi]=(qs++[(g+1,(t g).fi)]).map (·.2)by simp]at hK
 have hold: ∀e∈qs,kf N (rem t g) e.2=kf N t e.2:=fun e he=>A8m T hl hg.noOr K (F9.2 ⟨e,he,rfl⟩)
 have hgn: ∀e∈qs,g ∉ kf N t e.2:=fun e he h=>hg.noOr (K.or (F9.2 ⟨e,he,rfl⟩) h)
 have hflat:qs.flatMap (fun e=>kf N (rem t g) e.2)=(qs.map (·.2)).flatMap (kf N t):=by
  grind [Ay3]
 refine Bag F hl hK (Bi4 _ _ _ (Baf qs [] [] hold (fun e he y hy=> ?_) (fun e he h0 x hx hu=> ?_) (fun x hx=>by cases hx) F.ord) (fun y hy x hx hu hc=> ?_) (fun _ x hx hu=> ?_)) (fun e he h0=> ?_)
 ·have hy2:=A6a (by grind) hy
  refine⟨by grind [Bc9],fun x hx hu hc=> .inr ?_⟩
  simp_all[Asu,An9,A4a]
 ·simp_all[Asu,An9]
 ·rw[Z38,hflat,K.iff];obtain⟨a,b⟩:=Asu.1 hx;rw[An9 a]at hu;simp only at hu;rw[A4o T W hl]at hy
  have hgc:g ∉ kf N t (t g).fi:=fun h=>by obtain⟨_,h2,h3⟩:=(A45 T W hl g).1 h;grind [A6t]
  have hy2:=A6a hgc hy
  have hy0:=Dd.in (fun x hx=>Bi3 hx) hy;exact⟨b,by omega,fun h=>hc ((A4a a).2 ⟨by omega,h⟩)⟩
 ·rw[Z38,hflat,A4o T W hl,Nj,K.iff,A45 T W hl];obtain⟨a,b⟩:=Asu.1 hx;rw[An9 a]at hu;simp only at hu
  by_cases c:Cu N t x
  ·grind
  ·exact .inl ⟨b,by omega,c⟩
 grind
theorem Be8{qs:List (Int×Int)}{s g:Int}(F:Ajm N t ((s,g+1)::qs))(h0:0≤g):Lv N t g∧(t g).pv=0∧Ajm N (rem t g) ((g+1,(t g).fi)::(s,(t g).nx)::qs):=by
 obtain⟨r,W⟩:=F.wf
 have T:=F.tree
 have K:=F.kid;rw[Z8]at K;obtain⟨k1,k2⟩:=K.top (g+1) (by simp) (by omega)
 have hgm:g∈kf N t (g+1):=by have:=A75 (N:=N) (t:=t) k1;grind
 have ho:Oo N t g:=K.or (f:=g+1) (by simp) hgm
 have hl:=ho.1;rw[Int.add_sub_cancel]at k2;obtain⟨hold,hK⟩:=Bpr T W hl K;obtain⟨o1,o2,o3⟩:=F.ord;simp only[Z38]at o1 o2 o3
 have hsp:=A7i T W hl
 have hgc:g ∉ kf N t (t g).fi:=fun h=>by obtain⟨_,h2,h3⟩:=(A45 T W hl g).1 h;grind [A6t]
 have hchild: ∀y,Dd N t (kf N t (t g).fi) y->Dd N t (kf N t (g+1)) y:=by
  intro y hy
  induction hy with
  |base h=>
   obtain⟨a,b,c⟩:=(A45 T W hl _).1 h;exact .step a c (by rw[b,Int.add_sub_cancel];exact .base hgm)
  |step a b c ih=>exact .step a b ih
 have hnone: ∀y,Dd N t (kf N t (g+1)) y-> ∀x,Lv N t x->(t x).up=y+1->Cu N t x:=fun y hy x hx hu=>Classical.byContradiction fun h=>by grind
 refine⟨hl,k2,Bag F hl hK ⟨fun y hy x hx hu hc=> ?_,fun _ x hx hu=> ?_,fun y hy x hx hu hc=> ?_,fun hs x hx hu=> ?_,?_⟩ (fun e he h1=> ?_)⟩
 ·exfalso;rw[A4o T W hl]at hy
  have hy2:=A6a hgc hy;obtain⟨a,b⟩:=Asu.1 hx;rw[An9 a]at hu;simp only at hu;exact hc ((A4a a).2 ⟨by omega,hnone y (hchild y (Bc9 hy)) x b hu⟩)
 ·rw[Z38,A4o T W hl,A45 T W hl];obtain⟨a,b⟩:=Asu.1 hx;rw[An9 a]at hu;simp only at hu;exact⟨b,hu,hnone g (.base hgm) x b hu⟩
 ·exfalso;rw[hold _ (by simp)]at hy
  have hgt:g ∉ kf N t (t g).nx:=by
   have:=K.nodup
   grind
  have hy2:=A6a hgt hy;obtain⟨a,b⟩:=Asu.1 hx;rw[An9 a]at hu;simp only at hu
  have hd:Dd N t (kf N t (g+1)) y:=by
   have:=Bc9 hy;rw[hsp];clear hy hu
   induction this with
   |base h=>exact .base (Z56 _ h)
   |step a b c ih=>
    exact .step a b (Classical.byCases (fun e:(t _).up - 1=g=>by rw[e];exact .base (by simp)) (fun e=>ih e))
  exact hc ((A4a a).2 ⟨by omega,hnone y hd x b hu⟩)
 ·rw[Z38,A4o T W hl,hold _ (by simp)]
  obtain⟨a,b⟩:=Asu.1 hx;rw[An9 a]at hu
  grind
 ·rw[Z38,A4o T W hl,hold _ (by simp)]
  have hq: ∀e∈qs,e.2∈(t g).nx::qs.map (·.2):=fun e he=>Z56 _ (F9.2 ⟨e,he,rfl⟩)
  have hnd:=K.nodup;rw[List.flatMap_cons,hsp,Z45,List.nodup_cons]at hnd;refine Baf qs (kf N t (g+1)) _ (fun e he=>hold _ (hq e he)) (fun e he y hy=> ?_) (fun e he _ x hx hu=> ?_) (fun x hx hl'=> ?_) o3
  ·rw[hold _ (hq e he)]at hy
   have hy2:=A6a (fun h=>hnd.1 (List.mem_append_right _ (List.mem_flatMap.2 ⟨e.2,F9.2 ⟨e,he,rfl⟩,h⟩))) hy;refine⟨Bc9 hy,fun x hx hu hc=> .inr ?_⟩;obtain⟨a,b⟩:=Asu.1 hx
   simp_all[An9,A4a]
  ·simp_all[Asu,An9]
  ·rw[hsp]at hx;rcases Fl.1 hx with h|h
   ·exact absurd h (Asu.1 hl').1
   grind
 grind
end
section
variable {N:Int} {t:Int->Lk}
def emp (t:Int->Lk)(k x:Int):Lk:=if x=k then⟨(t k).lv,(t k).gn,(t k).ep+1,(t k).up,(t k).ue,0,(t k).nx,(t k).pv⟩else t x
theorem Bb2{k:Int}:emp t k k=⟨(t k).lv,(t k).gn,(t k).ep+1,(t k).up,(t k).ue,0,(t k).nx,(t k).pv⟩:=if_pos rfl
theorem A83{k x:Int}(h:x≠k):emp t k x=t x:=if_neg h
theorem Ag0 (k x:Int):(emp t k x).lv=(t x).lv∧(emp t k x).gn=(t x).gn∧(emp t k x).up=(t x).up∧(emp t k x).ue=(t x).ue∧(emp t k x).nx=(t x).nx∧(emp t k x).pv=(t x).pv:=by
 by_cases h:x=k
 all_goals simp_all[Bb2,A83]
theorem Au9{k x:Int}:Lv N (emp t k) x ↔ Lv N t x:=by simp_all[Lv,Ag0]
theorem A7j (hE: ∀x,Lv N t x->Lv N t ((t x).up - 1)->(t x).ue≤(t ((t x).up - 1)).ep){k x:Int}(hx:Lv N t x):Cu N (emp t k) x ↔ (t x).up≠k+1∧Cu N t x:=by
 unfold Cu;rw[Au9,(Ag0 k x).2.2.1,(Ag0 k x).2.2.2.1]
 by_cases h:(t x).up - 1=k
 ·grind [Bb2]
 ·rw[A83 h]
  grind
theorem A9m{k x:Int}(hx:(t x).up≠k+1):Cu N (emp t k) x ↔ Cu N t x:=by
 unfold Cu;rw[Au9,(Ag0 k x).2.2.1,(Ag0 k x).2.2.2.1,A83 (by omega)]
theorem Bai (k f:Int):kf N (emp t k) f=kf N t f:=A5k _ _ fun x _=>(Ag0 k x).2.2.2.2.1
theorem Bps (k:Int)(n:Nat)(x:Int):rise N (emp t k) n x=rise N t n x:=A4n _ _ fun x _=>(Ag0 k x).2.2.1
theorem Bpt (T:Axz N t)(hE: ∀x,Lv N t x->Lv N t ((t x).up - 1)->(t x).ue≤(t ((t x).up - 1)).ep){k:Int}(hk:Lv N t k):Axz N (emp t k):=by
 refine⟨fun x hx=> ?_,fun x hx=> ?_,fun x h0 h1 h=> ?_⟩
 ·have hl:=Au9.1 hx
  have X:=T.link x hl;obtain⟨s1,s2,s3,s4,s5,s6⟩:=Ag0 (t:=t) k x;refine⟨fun h=> ?_,fun h=> ?_,fun h=> ?_,fun h=> ?_,fun h hc=> ?_⟩
  ·by_cases e:x=k
   ·simp_all[Bb2]
   ·rw[A83 e]at h ⊢;obtain⟨a,b,c,d⟩:=X.first h;obtain⟨q1,q2,q3,q4,q5,q6⟩:=Ag0 (t:=t) k ((t x).fi - 1)
    grind [Au9]
  ·rw[s5]at h ⊢;obtain⟨q1,q2,q3,q4,q5,q6⟩:=Ag0 (t:=t) k ((t x).nx - 1)
   grind [Au9,A66.next]
  ·rw[s6]at h ⊢;rw[Au9,(Ag0 k _).2.2.2.2.1];exact X.prev h
  ·rw[s3]at h ⊢;exact X.up h
  ·rw[s6]at h;obtain⟨a,b⟩:=(A7j hE hl).1 hc
   grind [A83,A66.top]
 ·have hl:=Au9.1 hx;rw[Bps];obtain⟨a,b⟩:=T.rise x hl;refine⟨a,fun y hy hc=> ?_⟩
  have hy2:=b y hy
  by_cases e:Lv N t y
  ·simp_all[A7j]
  ·have hin:=A22 _ _ y (List.mem_of_getLast? hy)
   have:=(T.bare y hin.1 hin.2 (by cases q:(t y).lv with|false=>rfl|true=>exact absurd ⟨hin,q⟩ e)).1
   unfold Cu at hc;rw[(Ag0 k y).2.2.1,this]at hc
   have:=hc.1.1.1;omega
 ·by_cases e:x=k
  ·subst e;rw[Bb2]at h;have:=hk.2;grind
  grind [A83,Axz.bare]
theorem Bpu (hE: ∀x,Lv N t x->Lv N t ((t x).up - 1)->(t x).ue≤(t ((t x).up - 1)).ep){k x:Int}(hk:0≤k):Oo N (emp t k) x ↔ Oo N t x∨Lv N t x∧(t x).up=k+1:=by
 unfold Oo;rw[Au9,(Ag0 k x).2.2.1];constructor
 ·rintro⟨a,b,c⟩
  by_cases e:(t x).up=k+1
  all_goals simp_all[A7j]
 ·rintro(⟨a,b,c⟩|⟨a,b⟩)
  ·simp_all[A7j]
  ·exact⟨a,by omega,fun d=>((A7j hE a).1 d).1 b⟩
theorem Bdb{qs:List (Int×Int)}(F:Ajm N t qs){k:Int}(hg:Al N t k):Ajm N (emp t k) (qs++[(0,(t k).fi)]):=by
 obtain⟨r,W⟩:=F.wf;obtain⟨d,U⟩:=F.uw
 have hl:=hg.lv
 have T:=F.tree
 have K:=F.kid
 have hE:=F.ep
 have hflat:qs.flatMap (fun e=>kf N (emp t k) e.2)=(qs.map (·.2)).flatMap (kf N t):=by
  simp_all[List.flatMap_map,Bai]
 have hfl2:((qs++[((0:Int),(t k).fi)]).map (fun e:Int×Int=>e.2)).flatMap (kf N (emp t k))=(qs.map (·.2)).flatMap (kf N t)++kf N t (t k).fi:=by
  grind [List.flatMap_map,Bai]
 refine⟨Bpt T hE hl,⟨r,fun x hx h=> ?_⟩,⟨d,fun x hx hc=> ?_⟩,⟨?_,fun x=> ?_,fun f hf h0=> ?_⟩,Bi4 _ _ _ (Baf qs [] [] (fun e _=>Bai k e.2) (fun e he y hy=> ?_) (fun e he _ x hx hu=> ?_) (fun x hx=>by cases hx) F.ord) (fun y hy x hx hu hc=> ?_) (fun h=>absurd rfl h),fun x hx h=> ?_,fun x hx h=> ?_,fun e he h0=> ?_⟩
 ·rw[(Ag0 k x).2.2.2.2.2]at h ⊢;exact W x (Au9.1 hx) h
 ·simp_all[Ag0,Au9,A7j]
 ·rw[hfl2,Apb];exact⟨K.nodup,A59 T W _ hl,fun x h1 h2=>((K.iff x).1 h1).2.2 ((A45 T W hl x).1 h2).2.2⟩
 ·rw[hfl2,Nj,K.iff,A45 T W hl,Bpu hE hl.1.1];constructor
  ·grind
  ·rintro(h|⟨b,c⟩)
   ·grind
   ·by_cases d:Cu N t x
    ·grind
    ·exact .inl ⟨b,by have:=hl.1.1;omega,d⟩
 ·rw[(Ag0 k _).2.2.2.2.2];rw[Yc,Nj]at hf;rcases hf with hf|hf
  ·exact K.top f hf h0
  ·simp only[Z8,Sd,Sj]at hf;subst hf;obtain⟨a,b,_⟩:=(T.link k hl).first h0;exact⟨a.1,b⟩
 ·have hor: ∀x∈kf N t e.2,Oo N t x:=fun x hx=>K.or (F9.2 ⟨e,he,rfl⟩) hx
  have hy2:Dd N t (kf N t e.2) y:=by
   rw[Bai]at hy
   induction hy with
   |base h=>exact .base h
   |step a b c ih=>
    rw[(Ag0 k _).2.2.1]at ih;exact .step (Au9.1 a) ((A7j hE (Au9.1 a)).1 b).2 ih
  refine⟨hy2,fun x hx hu hc=> .inr ?_⟩;rw[(Ag0 k x).2.2.1]at hu
  have hne:y≠k:=fun q=>hg.noDd hor (q ▸ hy2)
  simp_all[Au9,A9m]
 ·simp_all[Ag0,Au9]
 ·rw[Z38,hflat,K.iff];rw[(Ag0 k x).2.2.1]at hu
  have hy0:=Dd.in (fun x hx=>Bi3 hx) hy
  have hal:Al N (emp t k) k:=by
   clear hy hu hc hx;cases hg with
   |root a b=>exact .root (Au9.2 a) (by simp_all[Ag0])
   |step a b c=>
    have key: ∀z,Al N t z->d z<d k->Al N (emp t k) z:=by
     intro z hz
     induction hz with
     |root a b=>intro _;exact .root (Au9.2 a) (by simp_all[Ag0])
     | @step z a b c ih=>
      intro h1
      have h2:=U z a b
      have hne:(t z).up≠k+1:=fun q=>by grind
      exact .step (Au9.2 a) ((A9m hne).2 b) (by rw[(Ag0 k _).2.2.1];grind)
    have h2:=U k a b
    have hne:(t k).up≠k+1:=fun q=>by grind
    exact .step (Au9.2 a) ((A9m hne).2 b) (by simp_all[Ag0])
  have hne:y≠k:=fun q=>by
   refine hal.noDd (S:=kf N (emp t k) (t k).fi) (fun z hz=> ?_) (q ▸ hy);rw[Bai,A45 T W hl]at hz
   simp_all[Bpu]
  exact⟨Au9.1 hx,by omega,fun h=>hc ((A9m (by omega)).2 h)⟩
 ·rw[(Ag0 k x).2.2.1]at h ⊢;rw[(Ag0 k _).1,(Ag0 k _).2.1];exact F.gone x (Au9.1 hx) h
 ·rw[(Ag0 k x).2.2.1]at h ⊢;rw[(Ag0 k x).2.2.2.1]
  have:=hE x (Au9.1 hx) (Au9.1 h)
  by_cases e:(t x).up - 1=k
  all_goals grind [Bb2,A83]
 ·rw[(Ag0 k _).1,(Ag0 k _).2.1];rcases Nj.1 he with he|he
  ·exact F.slot e he h0
  ·rw[Sj]at he;rw[he]at h0;exact absurd rfl h0
def clr (t:Int->Lk)(k x:Int):Lk:=if x=k then⟨false,false,0,0,0,0,0,0⟩else t x
theorem Baj{qs:List (Int×Int)}{s:Int}(F:Ajm N t ((s,0)::qs)):Ajm N t qs:=by
 obtain⟨o1,o2,o3⟩:=F.ord
 have h0:kf N t 0=[]:=A08 _
 have K:=F.kid;simp only[h0,List.append_nil]at o3;refine⟨F.tree,F.wf,F.uw,?_,o3,F.gone,F.ep,fun e he=>F.slot e (Z56 _ he)⟩;refine⟨?_,fun x=> ?_,fun f hf=>K.top f (Z56 _ hf)⟩
 ·have:=K.nodup;grind
 ·have:=K.iff x;grind
theorem Ay4{k:Int}(h:(t k).lv=false){x:Int}:Lv N (clr t k) x ↔ Lv N t x:=by
 unfold Lv clr
 grind
theorem Aoa{k:Int}(h:(t k).lv=false){x:Int}(hx:Lv N t x):clr t k x=t x:=by
 unfold clr;rw[if_neg];intro e;subst e
 have:=hx.2
 grind
theorem A8n{k:Int}(h:(t k).lv=false){x:Int}(hx:Lv N t x):Cu N (clr t k) x ↔ Cu N t x:=by
 grind [Cu,Aoa,Ay4]
theorem Bdc{qs:List (Int×Int)}{s:Int}(F:Ajm N t ((s,0)::qs))(h0:s≠0)(hs: ∀e∈qs,e.1≠s):Ajm N (clr t (s - 1)) qs:=by
 have F':=Baj F;obtain⟨r,W⟩:=F.wf;obtain⟨d,U⟩:=F.uw
 have T:=F.tree
 have K:=F'.kid;obtain⟨hlv,hgn⟩:=F.slot (s,0) (by simp) h0
 simp only at hlv hgn
 have hno: ∀x,Lv N t x->(t x).up≠s:=fun x hx e=>by
  have:=F.ord.2.1 h0 x hx e;rw[show kf N t ((s,(0:Int)).2)=[] from A08 _]at this
  cases this
 have hnl: ∀x,x≠s - 1->clr t (s - 1) x=t x:=fun x h=>if_neg h
 have hup: ∀x,(0≤x∧x<N)->(clr t (s - 1) x).up=(t x).up:=fun x h=>by
  by_cases e:x=s - 1
  ·subst e;rw[(T.bare _ h.1 h.2 hlv).1];simp_all[clr]
  grind
 have hri: ∀n x,rise N (clr t (s - 1)) n x=rise N t n x:=fun n x=>A4n n x fun y hy=>hup y (A22 _ _ y hy)
 have hkf: ∀f∈qs.map (·.2),kf N (clr t (s - 1)) f=kf N t f:=fun f hf=>A5k _ _ fun x hx=>by rw[Aoa hlv (K.or hf hx).1]
 have hor: ∀x,Oo N (clr t (s - 1)) x ↔ Oo N t x:=fun x=>by
  grind [Oo,Ay4,Aoa,A8n]
 have hdd: ∀S y,Dd N (clr t (s - 1)) S y->Dd N t S y:=fun S y h=>by
  induction h with
  |base h=>exact .base h
  |step a b c ih=>
   have a:=(Ay4 hlv).1 a;rw[Aoa hlv a]at ih;exact .step a ((A8n hlv a).1 b) ih
 refine⟨⟨fun x hx=> ?_,fun x hx=> ?_,fun x h0 h1 h=> ?_⟩,⟨r,fun x hx h=> ?_⟩,⟨d,fun x hx hc=> ?_⟩,⟨?_,fun x=> ?_,fun f hf h1=> ?_⟩,?_,fun x hx h=> ?_,fun x hx h=> ?_,fun e he h1=> ?_⟩
 ·have hl:=(Ay4 hlv).1 hx
  have X:=T.link x hl;refine⟨fun h=> ?_,fun h=> ?_,fun h=> ?_,fun h=> ?_,fun h hc=> ?_⟩
  ·rw[Aoa hlv hl]at h ⊢
   have a:=(X.first h).1
   grind [Ay4,Aoa,A66.first]
  ·rw[Aoa hlv hl]at h ⊢
   have a:=(X.next h).1
   grind [Ay4,Aoa,A66.next]
  ·rw[Aoa hlv hl]at h ⊢
   have a:=(X.prev h).1
   grind [Ay4,Aoa,A66.prev]
  ·grind [Aoa,A66.up]
  ·have hc:=(A8n hlv hl).1 hc;rw[Aoa hlv hl]at h ⊢;rw[Aoa hlv hc.1];exact X.top h hc
 ·have hl:=(Ay4 hlv).1 hx;rw[hri];obtain⟨a,b⟩:=T.rise x hl;refine⟨a,fun y hy hc=>b y hy ?_⟩;unfold Cu at hc ⊢;rw[hup y (A22 _ _ y (List.mem_of_getLast? hy)),Ay4 hlv]at hc;refine⟨hc.1,?_⟩;rw[←Aoa hlv hc.1,hc.2]
  by_cases e:y=s - 1
  ·subst e
   have hin:=A22 _ _ _ (List.mem_of_getLast? hy)
   have:=(T.bare _ hin.1 hin.2 hlv).1;rw[this]at hc
   have:=hc.1.1.1;omega
  grind
 ·by_cases e:x=s - 1
  ·simp_all[clr]
  grind [Axz.bare]
 ·have hl:=(Ay4 hlv).1 hx;rw[Aoa hlv hl]at h ⊢;exact W x hl h
 ·have hl:=(Ay4 hlv).1 hx;rw[Aoa hlv hl];simp_all[A8n]
 ·rw[Ay3 hkf];exact K.nodup
 ·rw[Ay3 hkf,K.iff,hor]
 ·obtain⟨a,b⟩:=K.top f hf h1;refine⟨a,?_⟩;rw[Aoa hlv (K.or hf (A75 a)).1];exact b
 ·have hk: ∀e∈qs,kf N (clr t (s - 1)) e.2=kf N t e.2:=fun e he=>hkf _ (F9.2 ⟨e,he,rfl⟩);refine Baf qs [] [] hk (fun e he y hy=>⟨by grind,fun x hx hu hc=> ?_⟩) (fun e he h1 x hx hu=> ?_) (fun x hx=>by cases hx) F'.ord
  ·have hl:=(Ay4 hlv).1 hx;rw[Aoa hlv hl]at hu
   simp_all[A8n]
  ·have hl:=(Ay4 hlv).1 hx
   grind [Aoa]
 ·have hl:=(Ay4 hlv).1 hx
  grind [Aoa,Ajm.gone]
 ·have hl:=(Ay4 hlv).1 hx;rw[Aoa hlv hl]at h ⊢
  have h2:=(Ay4 hlv).1 h
  grind [Ajm.ep]
 grind [Ajm.slot]
end
section
variable {N:Int} {t:Int->Lk}
def ins (t:Int->Lk)(k p x:Int):Lk:=
 if x=k then⟨true,false,0,p+1,if p+1=0 then 0 else(t p).ep,0,if p+1=0 then 0 else(t p).fi,0⟩
 else⟨(t x).lv,(t x).gn,(t x).ep,(t x).up,(t x).ue,if x=p then k+1 else(t x).fi,(t x).nx,if p+1≠0∧x+1=(t p).fi then k+1 else(t x).pv⟩
theorem Azo{k p:Int}:ins t k p k=⟨true,false,0,p+1,if p+1=0 then 0 else(t p).ep,0,if p+1=0 then 0 else(t p).fi,0⟩:=if_pos rfl
theorem Aw8{k p x:Int}(h:x≠k):ins t k p x=⟨(t x).lv,(t x).gn,(t x).ep,(t x).up,(t x).ue,if x=p then k+1 else(t x).fi,(t x).nx,if p+1≠0∧x+1=(t p).fi then k+1 else(t x).pv⟩:=if_neg h
theorem Bpv: ∀(n:Nat) (x y:Int),y∈rise N t n x->y=x∨ ∃z,z∈rise N t n x∧(t z).up - 1=y:=by
 intro n
 induction n with
 |zero=>intro x y h;cases h
 |succ n ih=>
  intro x y h;rw[rise]at h ⊢
  grind
theorem Bi5{d:Int->Nat}(U: ∀x,Lv N t x->Cu N t x->d ((t x).up - 1)<d x): ∀(n:Nat) (x:Int),Al N t x->(∀y∈rise N t n x,d y≤d x∧Al N t y)∧(rise N t n x).Pairwise (fun a b=>d b<d a):=by
 intro n
 induction n with
 |zero=>intro x _;exact⟨fun y h=>(by cases h),.nil⟩
 |succ n ih=>
  intro x hx;rw[rise,if_pos hx.lv.1];cases hx with
  |root a b=>
   have:rise N t n ((t x).up - 1)=[]:=by rw[b];cases n with|zero=>rfl|succ n=>rfl
   rw[this];exact⟨fun y h=>by rw[Sj.1 h];exact⟨Z9 _,.root a b⟩,List.pairwise_singleton ..⟩
  |step a b c=>
   obtain⟨i1,i2⟩:=ih _ c
   have h2:=U x a b;refine⟨fun y h=> ?_,List.pairwise_cons.2 ⟨fun y h=> ?_,i2⟩⟩
   ·rcases Fl.1 h with rfl|h
    ·exact⟨Z9 _,.step a b c⟩
    grind
   grind
theorem Be9{qs:List (Int×Int)}(F:Ajm N t qs){k p:Int}(hk:0≤k∧k<N)(hlv:(t k).lv=false)(hgn:(t k).gn=false)(hp:p= -1∨Al N t p∧(rise N t N.toNat p).length<4):Ajm N (ins t k p) qs:=by
 obtain⟨r,W⟩:=F.wf;obtain⟨d,U⟩:=F.uw
 have T:=F.tree
 have K:=F.kid
 have hne: ∀ {x},Lv N t x->x≠k:=fun {x} h e=>by subst e;rw[h.2]at hlv;cases hlv
 have hno: ∀x,Lv N t x->(t x).up≠k+1:=fun x hx e=>by
  rcases F.gone x hx (by omega)with h|h
  all_goals grind
 have hp0:p+1≠0->Al N t p:=fun h=>by
  grind
 have hp1: ∀x,Lv N t x->x=p->p+1≠0:=fun x hx e=>by have:=hx.1.1;omega
 have L: ∀x,Lv N (ins t k p) x ↔ x=k∨Lv N t x:=fun x=>by
  unfold Lv
  by_cases e:x=k
  all_goals grind [Azo,Aw8]
 have hL: ∀ {x},Lv N t x->Lv N (ins t k p) x:=fun h=>(L _).2 (.inr h)
 have hup: ∀x,x≠k->(ins t k p x).up=(t x).up:=fun x h=>by rw[Aw8 h]
 have C: ∀x,x≠k->(t x).up≠k+1->(Cu N (ins t k p) x ↔ Cu N t x):=fun x h h1=>by
  unfold Cu;rw[L,hup x h,Aw8 (x:=(t x).up - 1) (by omega),Aw8 h]
  grind
 have Ck:p+1≠0->Cu N (ins t k p) k:=fun h=>by
  simp_all[Al.lv,Cu,Azo,Aw8]
 have Cn:p+1=0-> ¬Cu N (ins t k p) k:=fun h c=>by
  unfold Cu at c;rw[Azo]at c
  grind
 have hkf: ∀f∈qs.map (·.2),kf N (ins t k p) f=kf N t f:=fun f hf=>A5k _ _ fun x hx=>by rw[Aw8 (hne (K.or hf hx).1)]
 have hor: ∀x,Oo N (ins t k p) x ↔ Oo N t x:=fun x=>by
  unfold Oo;rw[L]
  by_cases e:x=k
  ·subst e;constructor
   ·grind [Azo]
   grind
  grind
 have hrk: ∀x,Lv N t x-> ∀n,k ∉ rise N t n x:=fun x hx n h=>by
  rcases Bpv _ _ _ h with h|⟨z,h1,h2⟩
  ·grind
  ·by_cases hz:(t z).lv=true
   ·exact hno z ⟨A22 _ _ _ h1,hz⟩ (by omega)
   ·have:=A22 _ _ _ h1
    have:=(T.bare z this.1 this.2 (by grind)).1
    omega
 have hri: ∀x,Lv N t x-> ∀n,rise N (ins t k p) n x=rise N t n x:=fun x hx n=>A4n n x fun y hy=>hup y fun e=>hrk x hx n (e ▸ hy)
 have hlast: ∀x,Lv N t x-> ∀y,(rise N t N.toNat x).getLast? =some y-> ¬Cu N (ins t k p) y:=fun x hx y hy hc=>by
  have hm:=List.mem_of_getLast? hy
  have hyk:y≠k:=fun e=>hrk x hx _ (e ▸ hm)
  have hin:=A22 _ _ _ hm
  by_cases hz:(t y).lv=true
  ·exact(T.rise x hx).2 y hy ((C y hyk (hno y ⟨hin,hz⟩)).1 hc)
  ·have:=(T.bare y hin.1 hin.2 (by grind)).1
   unfold Cu at hc;rw[hup y hyk,this]at hc
   have:=hc.1.1.1;omega
 obtain⟨m,hm⟩: ∃m,N.toNat=m+1:=⟨N.toNat - 1,by omega⟩
 have hpk:p+1≠0->rise N (ins t k p) N.toNat k=k::rise N t N.toNat p:=fun h=>by
  have ha:=hp0 h;rw[hm,rise,if_pos hk,Azo];simp only;rw[Int.add_sub_cancel,hri p ha.lv,←hm]
  congr 1
  rw[hm,Bk1,List.take_of_length_le];obtain⟨i1,i2⟩:=Bi5 U (m+1) p ha
  have:=Bc6 (N:=N) (List.nodup_cons.2 ⟨hrk p ha.lv (m+1),i2.imp fun h e=>by grind⟩) (fun y hy=>by
   rcases Fl.1 hy with rfl|hy
   ·exact hk
   ·exact A22 _ _ y hy)
  grind
 refine⟨⟨fun x hx=> ?_,fun x hx=> ?_,fun x h0 h1 h=> ?_⟩,⟨fun x=>if x=k then 0 else r x+1,fun x hx h=> ?_⟩,⟨fun x=>if x=k then d p+1 else d x,fun x hx hc=> ?_⟩,⟨?_,fun x=> ?_,fun f hf h1=> ?_⟩,?_,fun x hx h=> ?_,fun x hx h=> ?_,fun e he h1=> ?_⟩
 ·by_cases e:x=k
  ·subst e;refine⟨fun h=> ?_,fun h=> ?_,fun h=> ?_,fun h=> ?_,fun h hc=> ?_⟩
   ·simp_all[Azo]
   ·rw[Azo]at h ⊢;simp only at h ⊢
    by_cases hq:p+1=0
    ·omega
    ·rw[if_neg hq]at h ⊢;rw[if_neg hq];obtain⟨a,b,c,e⟩:=(T.link p (hp0 hq).lv).first h
     simp_all[Aw8]
   ·simp_all[Azo]
   ·rw[Azo]at h ⊢;simp only at h ⊢;rw[Int.add_sub_cancel];exact(hp0 h).lv.1
   ·by_cases hq:p+1=0
    ·grind
    ·rw[Azo];simp only;rw[Int.add_sub_cancel,Aw8 (hne (hp0 hq).lv)];simp
  ·have hl:=((L x).1 hx).resolve_left e
   have X:=T.link x hl;refine⟨fun h=> ?_,fun h=> ?_,fun h=> ?_,fun h=> ?_,fun h hc=> ?_⟩
   ·rw[Aw8 e]at h ⊢;simp only at h ⊢
    by_cases hq:x=p
    ·have hq1:=hp1 x hl hq;rw[if_pos hq,Int.add_sub_cancel,Azo]
     grind
    ·rw[if_neg hq]at h ⊢;obtain⟨a,b,c,f⟩:=X.first h;rw[Aw8 (hne a)];simp only;rw[if_neg]
     ·grind
     ·rintro⟨g1,g2⟩
      have:=((T.link p (hp0 g1).lv).first (by omega)).2.2.1
      grind
   ·rw[Aw8 e]at h ⊢;simp only at h ⊢;obtain⟨a,b,c,f⟩:=X.next h;rw[Aw8 (hne a)];simp only;rw[if_neg]
    ·grind
    ·rintro⟨g1,g2⟩
     have:=((T.link p (hp0 g1).lv).first (by omega)).2.1
     rw[←g2,Int.add_sub_cancel]at this
     have:=hl.1;omega
   ·rw[Aw8 e]at h ⊢;simp only at h ⊢
    by_cases hq:p+1≠0∧x+1=(t p).fi
    ·rw[if_pos hq,Int.add_sub_cancel,Azo]
     grind
    ·rw[if_neg hq]at h ⊢
     grind [A66.prev,Aw8]
   ·rw[Aw8 e]at h ⊢;exact X.up h
   ·have hc:=(C x e (hno x hl)).1 hc;rw[Aw8 e]at h ⊢;simp only at h ⊢
    by_cases hq:p+1≠0∧x+1=(t p).fi
    ·omega
    ·rw[if_neg hq]at h
     have:=X.top h hc;rw[Aw8 (hne hc.1)];simp only;rw[if_neg]
     ·exact this
     ·intro g;rw[g]at this;exact hq ⟨hp1 _ hc.1 g,by omega⟩
 ·by_cases e:x=k
  ·subst e
   by_cases hq:p+1=0
   ·have:rise N (ins t x p) N.toNat x=[x]:=by
     rw[hm,rise,if_pos hk,Azo];simp only;rw[hq];cases m with
     |zero=>rfl
     |succ m=>rfl
    simp_all
   ·rw[hpk hq];rcases hp with rfl|hp
    ·omega
    ·refine⟨by grind,fun y hy=> ?_⟩
     have:rise N t N.toNat p≠[]:=by rw[hm,rise,if_pos hp.1.lv.1];simp
     rw[List.getLast?_cons]at hy;refine hlast p hp.1.lv y ?_
     simp_all[rise,List.getLast?_cons]
  ·have hl:=((L x).1 hx).resolve_left e;rw[hri x hl];exact⟨(T.rise x hl).1,hlast x hl⟩
 ·by_cases e:x=k
  ·grind [Azo]
  ·rw[Aw8 e]at h ⊢;simp only at h ⊢;obtain⟨a,b,c,f⟩:=T.bare x h0 h1 h;refine⟨a,?_,c,?_⟩
   ·rw[if_neg]
    ·exact b
    ·intro g
     have:=(hp0 (by omega)).lv.2
     grind
   ·rw[if_neg]
    ·exact f
    ·rintro⟨g1,g2⟩
     have:=((T.link p (hp0 g1).lv).first (by omega)).1.2
     grind
 ·by_cases e:x=k
  ·simp_all[Azo]
  ·have hl:=((L x).1 hx).resolve_left e;rw[Aw8 e]at h ⊢;simp only at h ⊢;simp only[if_neg e]
   by_cases hq:p+1≠0∧x+1=(t p).fi
   ·grind
   ·rw[if_neg hq]at h ⊢;rw[if_neg (hne ((T.link x hl).prev h).1)]
    have:=W x hl h;omega
 ·by_cases e:x=k
  ·subst e
   by_cases hq:p+1=0
   all_goals simp_all[Azo,Al.lv]
  grind
 ·rw[Ay3 hkf];exact K.nodup
 ·rw[Ay3 hkf,K.iff,hor]
 ·obtain⟨a,b⟩:=K.top f hf h1
  have ho:=K.or hf (A75 (N:=N) (t:=t) a);refine⟨a,?_⟩;rw[Aw8 (hne ho.1)];simp only;rw[if_neg]
  ·exact b
  ·rintro⟨g1,g2⟩
   have hpl:=(hp0 g1).lv;obtain⟨_,_,c3,c4⟩:=(T.link p hpl).first (by omega)
   rw[←g2,Int.add_sub_cancel]at c3 c4;exact ho.2.2 (by simp_all[Cu])
 ·have hk2: ∀e∈qs,kf N (ins t k p) e.2=kf N t e.2:=fun e he=>hkf _ (F9.2 ⟨e,he,rfl⟩);refine Baf qs [] [] hk2 (fun e he y hy=> ?_) (fun e he h1 x hx hu=> ?_) (fun x hx=>by cases hx) F.ord
  ·have hS: ∀x∈kf N t e.2,Oo N t x:=fun x hx=>K.or (F9.2 ⟨e,he,rfl⟩) hx;rw[hk2 e he]at hy
   have hy2:Dd N t (kf N t e.2) y:=by
    induction hy with
    |base h=>exact .base h
    | @step y a b c ih=>
     by_cases q:y=k
     ·subst q
      by_cases hq:p+1=0
      all_goals simp_all[Azo,Al.noDd]
     ·have hl:=((L y).1 a).resolve_left q;rw[hup y q]at ih;exact .step hl ((C y q (hno y hl)).1 b) ih
   refine⟨hy2,fun x hx hu hc=> .inr ?_⟩
   by_cases q:x=k
   ·subst q
    by_cases hq:p+1=0
    ·rw[Azo]at hu;simp only at hu
     have:=Dd.in (fun x hx=>Bi3 hx) hy2;omega
    grind
   grind
  ·by_cases q:x=k
   ·subst q;rw[Azo]at hu;simp only at hu
    have:=(hp0 (by omega)).lv.2
    have h3:=(F.slot e he h1).1
    grind
   grind
 ·by_cases e:x=k
  ·subst e;rw[Azo]at h ⊢;simp only at h ⊢;rw[Int.add_sub_cancel,Aw8 (hne (hp0 h).lv)];exact .inl (hp0 h).lv.2
  ·have hl:=((L x).1 hx).resolve_left e
   grind [Aw8,Ajm.gone]
 ·by_cases e:x=k
  ·subst e;rw[Azo]at h ⊢;simp only at h ⊢
   by_cases hq:p+1=0
   ·grind
   ·rw[if_neg hq,Int.add_sub_cancel,Aw8 (hne (hp0 hq).lv)]
    grind
  ·have hl:=((L x).1 hx).resolve_left e;rw[hup x e]at h ⊢
   have hu:=hno x hl
   have h2:=((L _).1 h).resolve_left (by omega)
   grind [Aw8,Ajm.ep]
 ·have:=F.slot e he h1
  have q:e.1 - 1≠k:=fun q=>by grind
  grind [Aw8]
end
theorem sb1{x:Int}(h0: -1000000000≤x)(h1:x≤1000000000):Ark .i64 x 1=x - 1:=by unfold Ark;rw[Gy (by omega) (by omega)]
theorem ad1{x:Int}(h0: -1000000000≤x)(h1:x≤1000000000):Arj .i64 x 1=x+1:=by unfold Arj;rw[Gy (by omega) (by omega)]
def A6b (n:Ax):Lk:=⟨n.Gt==1,n.Gt==2,n.Mu,n.fUp,n.Gu,n.Bw,n.Gv,n.Gw⟩
def AtT (l:List Ax)(t:Int->Lk):Prop:= ∀k,0≤k∧k<(l.length:Int)->t k=A6b (gt l k)
structure Rg (l:List Ax):Prop where
 len:l.length≤8
 rg: ∀k,0≤k∧k<(l.length:Int)->(0≤(gt l k).fUp∧(gt l k).fUp≤l.length)∧(0≤(gt l k).Bw∧(gt l k).Bw≤l.length)∧(0≤(gt l k).Gv∧(gt l k).Gv≤l.length)∧(0≤(gt l k).Gw∧(gt l k).Gw≤l.length)
theorem A00{l:List Ax}{t:Int->Lk}(A:AtT l t){k:Int}:Lv l.length t k ↔ (0≤k∧k<(l.length:Int))∧(gt l k).Gt=1:=by
 unfold Lv;constructor
 ·rintro⟨a,b⟩;rw[A _ a]at b;grind [A6b]
 ·rintro⟨a,b⟩;rw[A _ a];grind [A6b]
theorem Bpw{l:List Ax}{t:Int->Lk}(A:AtT l t)(R:Rg l): ∀(n:Nat) (k:Int),A2e l n k=kids l.length t n k:=by
 intro n
 induction n with
 |zero=>intro k;rfl
 |succ n ih=>
  intro k;rw[A2e,kids];split
  ·rename_i h
   have:=(R.rg k h).2.2.1
   have:=R.len;rw[A _ h,sb1 (by omega) (by omega),ih];rfl
  ·rfl
theorem A76{l:List Ax}{t:Int->Lk}(A:AtT l t)(R:Rg l): ∀(n:Nat) (k:Int),Akf l n k=rise l.length t n k:=by
 intro n
 induction n with
 |zero=>intro k;rfl
 |succ n ih=>
  intro k;rw[Akf,rise];split
  ·rename_i h
   have:=(R.rg k h).1
   have:=R.len;rw[A _ h,sb1 (by omega) (by omega),ih];rfl
  ·rfl
theorem Bde{l:List Ax}{t:Int->Lk}(A:AtT l t)(R:Rg l){f:Int}(h0:0≤f)(h1:f≤1000):Ald l f=kf l.length t f:=by
 grind [Ald,kf,sb1,Bpw,Int.toNat_natCast]
theorem A6u{l:List Ax}{n:Int}(h0:0≤n)(h1:n≤1000):plB l n=true ↔ 0≤n - 1∧n - 1<(l.length:Int):=by
 unfold plB;rw[sb1 (by omega) (by omega),decide_eq_true_iff]
theorem A77{l:List Ax}{t:Int->Lk}(A:AtT l t)(R:Rg l){k:Int}(h:0≤k∧k<(l.length:Int)):A4k l k=true ↔ Cu l.length t k:=by
 have h1:=(R.rg k h).1
 have h2:=R.len;unfold A4k Cu;rw[Z4,Z4,A6u h1.1 (by omega),beq_iff_eq,beq_iff_eq,sb1 (by omega) (by omega),A _ h]
 show _ ↔ Lv _ _ ((gt l k).fUp - 1)∧(t ((gt l k).fUp - 1)).ep=(gt l k).Gu;rw[A00 A];constructor
 ·rintro⟨a,b,c⟩;rw[A _ a];exact⟨⟨a,b⟩,c⟩
 ·rintro⟨⟨a,b⟩,c⟩;rw[A _ a]at c;exact⟨a,b,c⟩
theorem Bfb{l:List Ax}{t:Int->Lk}(A:AtT l t)(R:Rg l){k:Int}(h:0≤k∧k<(l.length:Int)):A2f l k=true ↔ Oo l.length t k:=by
 unfold A2f Oo;rw[Z4,Z4,beq_iff_eq,bne_iff_ne,Z44,A00 A,←A77 A R h,A _ h,Bool.not_eq_true];exact⟨fun⟨a,b,c⟩=>⟨⟨h,a⟩,b,c⟩,fun⟨⟨_,a⟩,b,c⟩=>⟨a,b,c⟩⟩
theorem Bak{l:List Ax}{t:Int->Lk}(A:AtT l t){n:Int}(h0:0≤n)(h1:n≤1000):Avu l n=true ↔ (n≠0->Lv l.length t (n - 1)):=by
 unfold Avu;rw[Bool.or_eq_true,beq_iff_eq,Z4,A6u h0 h1,beq_iff_eq,A00 A,sb1 (by omega) (by omega)]
 omega
theorem Bhg{a:Int}{b:Bool}{P:Prop}(h:b=true ↔ P):(a==0||b)=true ↔ (a≠0->P):=by
 grind
theorem Bb3{l:List Ax}{t:Int->Lk}(A:AtT l t)(R:Rg l){k:Int}(h:0≤k∧k<(l.length:Int)):A4w l k=true ↔ A66 l.length t k:=by
 obtain⟨r1,r2,r3,r4⟩:=R.rg k h
 have h2:=R.len
 have eg: ∀n,Lv l.length t n->t n=A6b (gt l n):=fun n hn=>A _ hn.1
 have ek:=A _ h;unfold A4w A6p Bkq Beu Bbh A9f;rw[ad1 (by omega) (by omega),sb1 (x:=(gt l k).Bw) (by omega) (by omega),sb1 (x:=(gt l k).Gv) (by omega) (by omega),sb1 (x:=(gt l k).Gw) (by omega) (by omega),sb1 (x:=(gt l k).fUp) (by omega) (by omega)]
 simp only[Z4,Bak A r2.1 (by omega:(gt l k).Bw≤1000),Bak A r3.1 (by omega:(gt l k).Gv≤1000),Bak A r4.1 (by omega:(gt l k).Gw≤1000),Bhg (A6u r1.1 (by omega:(gt l k).fUp≤1000)),Bhg Bool.and_eq_true_iff,Bhg beq_iff_eq,beq_iff_eq]
 constructor
 ·rintro⟨⟨a1,a2,a3,a4⟩,a5,a6,a7,a8⟩;refine⟨?_,?_,?_,?_,?_⟩
  ·simp_all[A6b]
  ·simp_all[A6b]
  ·simp_all[A6b]
  ·rw[ek];exact a4
  ·rw[ek];intro q c
   have hc:=(A77 A R h).2 c
   have hu:=c.1;rw[ek]at hu
   have hu:Lv l.length t ((gt l k).fUp - 1):=hu;rw[show(A6b (gt l k)).up=(gt l k).fUp from rfl,eg _ hu]
   rw[show(A6b (gt l k)).pv=(gt l k).Gw from rfl]at q
   rw[q,hc]at a8
   show(gt l ((gt l k).fUp - 1)).Bw=k+1
   grind
 ·intro L;obtain⟨a1,a2,a3,a4,a5⟩:=L;rw[ek]at a1 a2 a3 a4 a5;refine⟨⟨fun q=>(a1 q).1,fun q=>(a2 q).1,fun q=>(a3 q).1,a4⟩,fun q=> ?_,fun q=> ?_,fun q=> ?_,?_⟩
  ·obtain⟨b1,b2,b3,b4⟩:=a1 q;rw[eg _ b1]at b2 b3 b4;exact⟨b2,b3,b4⟩
  ·obtain⟨b1,b2,b3,b4⟩:=a2 q;rw[eg _ b1]at b2 b3 b4;exact⟨b2,b3,b4⟩
  ·obtain⟨b1,b2⟩:=a3 q;rw[eg _ b1]at b2;exact b2
  ·by_cases q:(gt l k).Gw=0
   ·cases hc:A4k l k with
    |false=>simp
    |true=>
     have c:=(A77 A R h).1 hc
     have hu:=c.1;rw[ek]at hu
     have:=a5 q c;rw[eg _ hu]at this;simp only[Bool.or_eq_true,beq_iff_eq];exact .inr this
   grind
theorem Bpx{r:List Int}(h:r≠[]):r.getLast? =some (A8w r):=by
 unfold A8w;rw[V2 (by have:=List.length_pos_iff.2 h;omega),List.getLast?_eq_getElem?]
 grind
theorem Bpy{l:List Ax}{t:Int->Lk}(A:AtT l t)(R:Rg l)(hb: ∀k,0≤k∧k<(l.length:Int)->(gt l k).Gt≠1->(gt l k).fUp=0∧(gt l k).Bw=0∧(gt l k).Gv=0∧(gt l k).Gw=0):A99 l=true ↔ Axz l.length t:=by
 have key: ∀k,0≤k∧k<(l.length:Int)->(A43 l k=true ↔ (rise l.length t (l.length:Int).toNat k).length≤4∧ ∀x,(rise l.length t (l.length:Int).toNat k).getLast? =some x-> ¬Cu l.length t x):=by
  intro k h;unfold A43
  have hne:Akf l l.length k≠[]:=fun e=>by have:=Baa h;grind
  have hin:=Bcu h;rw[Int.toNat_natCast,←A76 A R,Z4,decide_eq_true_iff,Z44,Bpx hne];constructor
  ·grind [A77]
  ·rintro⟨a,b⟩;refine⟨by omega,?_⟩
   have:=b _ rfl
   grind [A77]
 unfold A99;rw[Z1];constructor
 ·intro h
  have h2: ∀k,Lv l.length t k->A4w l k=true∧A43 l k=true:=by
   intro k hk;obtain⟨a,b⟩:=(A00 A).1 hk
   have:=h k.toNat (by grind)
   grind
  exact⟨fun k hk=>(Bb3 A R hk.1).1 (h2 k hk).1,fun k hk=>(key k hk.1).1 (h2 k hk).2,fun k h0 h1 hl=>by
   rw[A _ ⟨h0,h1⟩]at hl ⊢
   grind [A6b]⟩
 ·intro T k hk;rw[List.mem_range]at hk
  by_cases e:(gt l (k:Int)).Gt=1
  ·have hl:=(A00 A).2 ⟨⟨by omega,by omega⟩,e⟩
   rw[(Bb3 A R hl.1).2 (T.link _ hl),(key _ hl.1).2 (T.rise _ hl)];simp
  grind
def Ate (st gen:Int):Ax:=Ax.mk st gen 0 0 0 0 0 0 [] 0 0 [] []
structure Aum (c:Fc)(n:Ax):Prop where
 conf:Agz c=true
 st:n.Gt=1
 gen:1≤n.C5∧n.C5≤c.Dt
 up:0≤n.fUp∧n.fUp≤c.B9
 first:0≤n.Bw∧n.Bw≤c.B9
 next:0≤n.Gv∧n.Gv≤c.B9
 prev:0≤n.Gw∧n.Gw≤c.B9
 ep:0≤n.Mu
 ue:0≤n.Gu
 dist:Axw c n.Ad=true
 cur:A7u c n=true
 nth:n.D3.length≤12
 ntag:n.De.length≤6
 tags:n.De.all (fun x=>inB x 0 255)=true
 things:n.D3.all (As2 c)=true
theorem Ajy{c:Fc}{n:Ax}:Aua c n=true∧n.Gt=1 ↔ Aum c n:=by
 unfold Aua A92;constructor
 ·rintro⟨h,h1⟩;rw[h1]at h;simp only[Z4,Abx,bne_self_eq_false,cond_false,Z44,decide_eq_false_iff_not,decide_eq_true_eq]at h;obtain⟨a,_,b,⟨c1,c2,c3,c4⟩,⟨d1,d2⟩,⟨e1,e2⟩,⟨f1,f2⟩,g1,g2⟩:=h;exact⟨a,h1,b,c1,c2,c3,c4,by omega,by omega,e1,e2,by omega,by omega,g1,g2⟩
 ·intro h;refine⟨?_,h.st⟩;rw[h.st];simp only[Z4,Abx,bne_self_eq_false,cond_false,Z44,decide_eq_false_iff_not,decide_eq_true_eq];exact⟨h.conf,by omega,h.gen,⟨h.up,h.first,h.next,h.prev⟩,⟨by have:=h.ep;omega,by have:=h.ue;omega⟩,⟨h.dist,h.cur⟩,⟨by have:=h.nth;omega,by have:=h.ntag;omega⟩,h.tags,h.things⟩
theorem A18{c:Fc}{n:Ax}(h:Aua c n=true)(h1:n.Gt≠1):n=Ate n.Gt n.C5:=by
 have:=Bby h h1;unfold A7t at this;simp only[Z4,beq_iff_eq]at this;obtain⟨a1,a2,a3,a4,a5,a6,a7,a8,a9,a10,a11⟩:=this;cases n
 simp_all[Ate]
theorem A6v{c:Fc}(hc:Agz c=true){st gen:Int}(h0:0≤st∧st≤3)(h1:st≠1)(h2:1≤gen∧gen≤c.Dt):Aua c (Ate st gen)=true:=by
 unfold Aua;rw[hc]
 show(true&&(inB st 0 3&&(inB gen 1 c.Dt&&(bif st != 1 then A7t (Ate st gen)else _))))=true
 rw[A2d h1,Abx.2 h0,Abx.2 h2];rfl
theorem A23{c:Fc}{n:Ax}(h:Aua c n=true):Agz c=true∧(0≤n.Gt∧n.Gt≤3)∧1≤n.C5∧n.C5≤c.Dt:=by
 simp_all[Aua,Abx]
theorem A5m{c:Fc}{n:Ax}(h:Aua c n=true):(0≤n.fUp∧n.fUp≤c.B9)∧(0≤n.Bw∧n.Bw≤c.B9)∧(0≤n.Gv∧n.Gv≤c.B9)∧(0≤n.Gw∧n.Gw≤c.B9):=by
 by_cases e:n.Gt=1
 ·have:=Ajy.1 ⟨h,e⟩;exact⟨this.up,this.first,this.next,this.prev⟩
 ·rw[A18 h e];obtain⟨_,_,b,_⟩:=A1 (A23 h).1;exact⟨⟨Int.le_refl _,by grind [Ate]⟩,⟨Int.le_refl _,by grind [Ate]⟩,⟨Int.le_refl _,by grind [Ate]⟩,⟨Int.le_refl _,by grind [Ate]⟩⟩
theorem A4p{c:Fc}{n:Ax}(h:Aua c n=true):Axw c n.Ad=true:=by
 by_cases e:n.Gt=1
 ·exact(Ajy.1 ⟨h,e⟩).dist
 ·rw[A18 h e];rfl
def A1c (q:List A7):List (Int×Int):=q.map (fun x=>(x.A9,x.Bw))
structure Inv (w:Bm):Prop where
 pool:Aw7 w.fC w.fP=true
 len:(w.fL.length:Int)=w.fC.B9
 node: ∀k,0≤k∧k<(w.fL.length:Int)->Aua w.fC (gt w.fL k)=true
 own: ∀k,0≤k∧k<(w.fL.length:Int)-> ∀c,c∈(gt w.fL k).Ad ↔ (0≤c∧c<w.fC.Ad)∧gt w.fP.Gt c=1∧gt w.fP.Fj c=k
 thing: ∀k,0≤k∧k<(w.fL.length:Int)->(gt w.fL k).D3.all (Au6 w.fC (gt w.fL k).Ad)=true∧Asw (gt w.fL k).D3=true∧Au8 w.fC w.fP.Fi (gt w.fL k)=true
 forest: ∃t,AtT w.fL t∧Ajm w.fL.length t (A1c w.fQ)
 wrec: ∀x∈w.fQ,An8 w.fC x=true∧Aq8 w x=true
 chn:(chL w.fQ).Nodup
 chi: ∀c,c∈chL w.fQ ↔ (0≤c∧c<w.fC.Ad)∧gt w.fP.Gt c=2
 sln:(slL w.fQ).Nodup
 sli: ∀s,s∈slL w.fQ ↔ (0≤s∧s<(w.fL.length:Int))∧(gt w.fL s).Gt=2
 log:w.Jc.all (fun x=>inB x 0 255)=true
theorem Inv.conf{w:Bm}(I:Inv w):Agz w.fC=true:=(Aut I.pool).1
theorem Inv.rg{w:Bm}(I:Inv w):Rg w.fL:=by
 obtain⟨_,_,b,_⟩:=A1 I.conf
 have:=I.len;refine⟨by omega,fun k hk=> ?_⟩
 rw[I.len];exact A5m (I.node k hk)
theorem Inv.live{w:Bm}(I:Inv w){t:Int->Lk}(A:AtT w.fL t){k:Int}(h:Lv w.fL.length t k):Aum w.fC (gt w.fL k):=Ajy.1 ⟨I.node k ((A00 A).1 h).1,((A00 A).1 h).2⟩
theorem Bdf{N:Nat}{l:List Int}(hn:l.Nodup){k:Nat}(hk:k<N)(h:(k:Int)∈l):(gt (Aol N l) (k:Int)==1)=true:=by
 simp_all[A4l,List.Nodup.count]
theorem Inv.chunks{w:Bm}(I:Inv w){k:Int}(hk:0≤k∧k<(w.fL.length:Int)):A3t w.fP k (gt w.fL k).Ad=true:=by
 obtain⟨_,_,hst,hown,_⟩:=Aut I.pool
 have hd:=A0z (A4p (I.node k hk))
 have hs:=(A4v w.fP k).imp (fun {a b} (h:a<b)=>Int.ne_of_lt h)
 have hm: ∀x,x∈Ato w.fP k ↔ x∈(gt w.fL k).Ad:=by
  intro x;rw[I.own k hk x];unfold Ato;rw[Axy]
  grind
 unfold A3t;rw[Z4,Z1,beq_iff_eq];refine⟨fun x hx=>List.contains_iff_mem.2 ((hm x).1 hx),?_⟩
 have h1:=Ay2 (o:=Ato w.fP k) (l:=(gt w.fL k).Ad) hs (fun x hx=>(hm x).1 hx)
 have h2:=Ay2 (o:=(gt w.fL k).Ad) (l:=Ato w.fP k) hd (fun x hx=>(hm x).2 hx);omega
theorem Bdg{q:List A7}{x:A7}(hx:x∈q){c:Int}(h:c∈x.Ad):c∈chL q:=List.mem_flatMap.2 ⟨x,hx,h⟩
theorem Bi6{q:List A7}{x:A7}(hx:x∈q)(h:x.A9≠0):Ark .i64 x.A9 1∈slL q:=List.mem_flatMap.2 ⟨x,hx,by grind⟩
theorem Inv.first{w:Bm}(I:Inv w){x:A7}(hx:x∈w.fQ):0≤x.Bw∧x.Bw≤8:=by
 obtain⟨_,_,b,_⟩:=A1 I.conf
 have:=(Aug (I.wrec x hx).1).2.2.1;omega
theorem Inv.qs{w:Bm}{x:A7}(hx:x∈w.fQ):x.Bw∈(A1c w.fQ).map (fun e:Int×Int=>e.2):=by
 unfold A1c
 grind
theorem Inv.waste{w:Bm}(I:Inv w){x:A7}(hx:x∈w.fQ):Aon w x=true:=by
 obtain⟨b1,_,b,_⟩:=A1 I.conf;obtain⟨h1,h2⟩:=I.wrec x hx;obtain⟨_,r1,r2,r3,_⟩:=Aug h1
 have hf:=I.first hx;obtain⟨t,A,F⟩:=I.forest;unfold Aon;simp only[Z4];refine⟨h1,?_,h2,?_,?_,?_⟩
 ·unfold A5f;rw[Z1];intro c hc;rw[beq_iff_eq];exact((I.chi c).1 (Bdg hx hc)).2
 ·unfold Az4
  by_cases e:x.A9=0
  ·grind
  ·rw[((I.sli _).1 (Bi6 hx e)).2];simp
 ·unfold A14
  by_cases e:x.Bw=0
  ·grind
  ·obtain⟨a,b⟩:=F.kid.top _ (Inv.qs hx) e;rw[sb1 (by omega) (by omega)]
   rw[A _ a]at b
   have b:(gt w.fL (x.Bw - 1)).Gw=0:=b
   grind
 ·unfold Av2;rw[Z1];intro k hk
  have hin:=A7y _ _ k hk;rw[Bde A I.rg hf.1 (by omega)]at hk
  exact(Bfb A I.rg hin).2 (F.kid.or (Inv.qs hx) hk)
theorem Bi7{w:Bm}(I:Inv w){t:Int->Lk}(A:AtT w.fL t):kdL w.fL w.fQ=((A1c w.fQ).map (fun e:Int×Int=>e.2)).flatMap (kf w.fL.length t):=by
 unfold kdL A1c;rw[D2,List.flatMap_map];exact Ay3 fun x hx=>by
  have hf:=I.first hx;exact Bde A I.rg hf.1 (by omega)
theorem Inv.fin{w:Bm}(I:Inv w):A0w w w.fC.Ad.toNat=true:=by
 obtain⟨_,_,hst,hown,_⟩:=Aut I.pool;obtain⟨t,A,F⟩:=I.forest;unfold A0w;rw[Z4,Z1,Z1];refine⟨fun k hk=> ?_,fun k hk=> ?_⟩
 ·rw[List.mem_range]at hk;cases e:(gt w.fP.Gt (k:Int)==2)with
  |false=>rfl
  |true=>exact Bdf I.chn (by omega) ((I.chi _).2 ⟨⟨by omega,by omega⟩,by grind⟩)
 ·rw[List.mem_range]at hk;rw[Z4];constructor
  ·cases e:((gt w.fL (k:Int)).Gt==2)with
   |false=>rfl
   |true=>simp_all[Bdf,sln,sli]
  ·cases e:A2f w.fL (k:Int)with
   |false=>rfl
   |true=>
    refine Bdf (by rw[Bi7 I A];exact F.kid.nodup) hk ?_
    rw[Bi7 I A,F.kid.iff];exact(Bfb A I.rg ⟨by omega,by omega⟩).1 e
theorem Inv.ok{w:Bm}(I:Inv w):A15 w=true:=by
 obtain⟨t,A,F⟩:=I.forest;unfold A15;simp only[Z4,beq_iff_eq];refine⟨I.pool,I.len,?_,?_,⟨?_,I.fin⟩,I.log⟩
 ·rw[Z1];intro k hk;rw[List.mem_range]at hk
  have hk2:0≤(k:Int)∧(k:Int)<(w.fL.length:Int):=⟨by omega,by omega⟩
  grind [thing,A7w,node,chunks]
 ·refine(Bpy A I.rg fun k hk h=> ?_).2 F.tree;rw[A18 (I.node k hk) h];exact⟨rfl,rfl,rfl,rfl⟩
 grind [waste]
def lnk (n:Ax)(fi nx pv:Int):Ax:=Ax.mk n.Gt n.C5 n.Mu n.fUp n.Gu fi nx pv n.Ad n.M7 n.Gz n.D3 n.De
theorem Atp{l:List Ax}{j x:Int}(hj:0≤j∧j<(l.length:Int))(hx:0≤x∧x<(l.length:Int))(v:Ax):gt (l.set j.toNat v) x=if x=j then v else gt l x:=by
 by_cases e:x=j
 all_goals simp_all[A3u,A4m,Ne.symm]
theorem Bfc{l:List Ax}{n:Int}(h0:0≤n)(h1:n≤l.length)(h2:l.length≤8):plB l n= !(n==0):=by
 have:=A6u (l:=l) h0 (by omega:n≤1000)
 grind
theorem A9n{l:List Ax}(R:Rg l){k x:Int}(hk:0≤k∧k<(l.length:Int))(hx:0≤x∧x<(l.length:Int)):
  gt (A73 l k) x=lnk (gt l x) (if(gt l k).Gw=0∧x+1=(gt l k).fUp∧(gt l x).Bw=k+1 then(gt l k).Gv else(gt l x).Bw) (if x+1=(gt l k).Gw then(gt l k).Gv else(gt l x).Gv) (gt l x).Gw:=by
 obtain⟨r1,r2,r3,r4⟩:=R.rg k hk
 have hl:=R.len;unfold A73;rw[Bfc r4.1 r4.2 hl,Bfc r1.1 r1.2 hl,sb1 (x:=(gt l k).Gw) (by omega) (by omega),sb1 (x:=(gt l k).fUp) (by omega) (by omega),ad1 (by omega) (by omega)]
 by_cases h:(gt l k).Gw=0
 ·rw[h];simp only[beq_self_eq_true,Bool.not_true,cond_false,Z30];rw[if_neg (by omega: ¬x+1=0)]
  by_cases h2:(gt l k).fUp=0
  ·rw[h2,if_neg (by omega)];rfl
  ·rw[As5 h2];simp only[Bool.not_false,Z30]
   by_cases h3:(gt l ((gt l k).fUp - 1)).Bw=k+1
   ·rw[h3,beq_self_eq_true,cond_true,Atp (by omega) hx]
    by_cases e:x=(gt l k).fUp - 1
    ·rw[if_pos e,e,h3,if_pos ⟨trivial,by omega,rfl⟩];rfl
    ·rw[if_neg e,if_neg (by omega)];rfl
   ·rw[As5 h3,cond_false,if_neg]
    ·rfl
    grind
 ·rw[As5 h];simp only[Bool.not_false,cond_true];rw[Atp (by omega) hx,if_neg (fun q:(gt l k).Gw=0∧x+1=(gt l k).fUp∧(gt l x).Bw=k+1=>h q.1)]
  by_cases e:x=(gt l k).Gw - 1
  ·have e2:x+1=(gt l k).Gw:=by omega
   rw[if_pos e,if_pos e2,←e];rfl
  ·have e2: ¬x+1=(gt l k).Gw:=by omega
   rw[if_neg e,if_neg e2];rfl
theorem A6c{l:List Ax}(R:Rg l){k x:Int}(hk:0≤k∧k<(l.length:Int))(hx:0≤x∧x<(l.length:Int))(hne:x≠k):
  gt (Atx l k) x=lnk (gt l x) (if(gt l k).Gw=0∧x+1=(gt l k).fUp∧(gt l x).Bw=k+1 then(gt l k).Gv else(gt l x).Bw) (if x+1=(gt l k).Gw then(gt l k).Gv else(gt l x).Gv) (if x+1=(gt l k).Gv then(gt l k).Gw else(gt l x).Gw):=by
 obtain⟨r1,r2,r3,r4⟩:=R.rg k hk
 have hl:=R.len
 have hl0:=A44 l k;unfold Atx A7g;rw[Atp (by grind [A58]) (by grind [A58]),if_neg hne]
 unfold A8l;rw[Bfc r3.1 r3.2 hl,sb1 (by omega) (by omega)]
 by_cases h:(gt l k).Gv=0
 ·rw[h];simp only[beq_self_eq_true,Bool.not_true,cond_false];rw[A9n R hk hx,h,if_neg (by omega: ¬x+1=0)]
 ·rw[As5 h];simp only[Bool.not_false,cond_true];rw[Atp (by omega) (by omega)]
  by_cases e:x=(gt l k).Gv - 1
  ·have e2:x+1=(gt l k).Gv:=by omega
   rw[if_pos e,if_pos e2,←e,A9n R hk hx];rfl
  ·have e2: ¬x+1=(gt l k).Gv:=by omega
   simp_all[A9n]
theorem A3v (l:List Ax)(k:Int):(Atx l k).length=l.length:=by grind [Atx,A7g,A58,A44]
theorem Bal{c:Fc}{n:Ax}(X:Aum c n){fi nx pv:Int}(h1:0≤fi∧fi≤c.B9)(h2:0≤nx∧nx≤c.B9)(h3:0≤pv∧pv≤c.B9):Aum c (lnk n fi nx pv):=
 ⟨X.conf,X.st,X.gen,X.up,h1,h2,h3,X.ep,X.ue,X.dist,X.cur,X.nth,X.ntag,X.tags,X.things⟩
theorem Byf{l:List Ax}{t:Int->Lk}(A:AtT l t)(R:Rg l){k:Int}(hk:0≤k∧k<(l.length:Int))(g:Int):AtT ((Atx l k).set k.toNat (Ate 2 g)) (rem t k):=by
 intro x hx;rw[Z49,A3v]at hx;rw[Atp (by grind [A3v]) (by grind [A3v])]
 by_cases e:x=k
 ·subst e;rw[A74,if_pos rfl];rfl
 ·rw[An9 e,if_neg e,A6c R hk hx e,A x hx,A k hk];rfl
theorem A46{l:List Int}{j x:Int}(hj:0≤j)(hx:0≤x∧x<(l.length:Int))(v:Int):gt (l.set j.toNat v) x=if x=j then v else gt l x:=by
 have h1:x.toNat<(l.set j.toNat v).length:=by grind
 have h2:x.toNat<l.length:=by omega
 have e1:gt (l.set j.toNat v) ((x.toNat:Nat):Int)=if x=j then v else gt l ((x.toNat:Nat):Int):=by
  rw[V2 h1,V2 h2,List.getElem_set];omega
 grind
structure A4q (c:Fc)(p:Ed):Prop where
 conf:Agz c=true
 mem:(p.Fi.length:Int)=c.Ad*c.Ds
 st:(p.Gt.length:Int)=c.Ad
 own:(p.Fj.length:Int)=c.Ad
 one: ∀k,0≤k∧k<c.Ad->(0≤gt p.Gt k∧gt p.Gt k≤2)∧(gt p.Gt k=1->0≤gt p.Fj k∧gt p.Fj k<c.B9)∧(gt p.Gt k≠1->gt p.Fj k= -1)∧(gt p.Gt k=0->Atn (Ayx c p.Fi k)=true)
theorem Bi8{c:Fc}{p:Ed}{k:Nat}:A4i c p k=true ↔ (0≤gt p.Gt (k:Int)∧gt p.Gt (k:Int)≤2)∧(gt p.Gt (k:Int)=1->0≤gt p.Fj (k:Int)∧gt p.Fj (k:Int)<c.B9)∧(gt p.Gt (k:Int)≠1->gt p.Fj (k:Int)= -1)∧(gt p.Gt (k:Int)=0->Atn (Ayx c p.Fi k)=true):=by
 unfold A4i;rw[Z4,Z4,Abx];refine and_congr Iff.rfl ?_
 by_cases e:gt p.Gt (k:Int)=1
 ·rw[e];simp only[beq_self_eq_true,cond_true,Abx]
  grind
 grind
theorem Ahs{c:Fc}{p:Ed}:Aw7 c p=true ↔ A4q c p:=by
 constructor
 ·intro h;obtain⟨h1,h2,h3,h4,h5⟩:=Aut h;refine⟨h1,h2,h3,h4,fun k hk=> ?_⟩
  have:=Bi8.1 (h5 k.toNat (by omega))
  grind
 ·intro h;obtain⟨b1,_⟩:=A1 h.conf;unfold Aw7;simp only[Z4,beq_iff_eq,Z1,List.mem_range];refine⟨h.conf,by grind [A4q.mem,Alp,A4q.conf],h.st,h.own,fun k hk=> ?_⟩
  exact Bi8.2 (h.one k (by omega))
theorem Bk3 (cs:List Int): ∀(p:Ed),p.Fj.length=p.Gt.length->(Als p cs).Fi=p.Fi∧(Als p cs).Gt.length=p.Gt.length∧(Als p cs).Fj.length=p.Fj.length∧ ∀c,0≤c∧c<(p.Gt.length:Int)→
  gt (Als p cs).Gt c=(if c∈cs∧gt p.Gt c=1 then 2 else gt p.Gt c)∧gt (Als p cs).Fj c=(if c∈cs∧gt p.Gt c=1 then -1 else gt p.Fj c):=by
 induction cs with
 |nil=>simp_all[Als]
 |cons k cs ih=>
  intro p hl
  have h1:(A5i p k).Fi=p.Fi∧(A5i p k).Gt.length=p.Gt.length∧(A5i p k).Fj.length=p.Fj.length:=by
   grind [A5i]
  obtain⟨a,b,c,d⟩:=ih (A5i p k) (by omega)
  refine⟨a.trans h1.1,b.trans h1.2.1,c.trans h1.2.2,fun x hx=> ?_⟩;obtain⟨d1,d2⟩:=d x (by omega)
  have e1:gt (A5i p k).Gt x=if x=k∧gt p.Gt x=1 then 2 else gt p.Gt x:=by
   unfold A5i
   by_cases q:(0≤k∧k<(p.Gt.length:Int)∧k<(p.Fj.length:Int))∧gt p.Gt k=1
   ·rw[if_pos q];simp only;rw[A46 q.1.1 hx]
    grind
   grind
  have e2:gt (A5i p k).Fj x=if x=k∧gt p.Gt x=1 then -1 else gt p.Fj x:=by
   unfold A5i
   by_cases q:(0≤k∧k<(p.Gt.length:Int)∧k<(p.Fj.length:Int))∧gt p.Gt k=1
   ·rw[if_pos q];simp only;rw[A46 q.1.1 (by omega)]
    grind
   grind
  show gt (Als (A5i p k) cs).Gt x=_∧gt (Als (A5i p k) cs).Fj x=_;rw[d1,d2,e1,e2]
  by_cases q:gt p.Gt x=1
  ·by_cases e:x=k
   ·subst e;simp[q]
   ·simp[q,e]
  ·simp[q]
theorem A4r{w:Bm}(I:Inv w){k:Int}(hk:0≤k∧k<(w.fL.length:Int)):
  A4q w.fC (Als w.fP (gt w.fL k).Ad)∧(Als w.fP (gt w.fL k).Ad).Fi=w.fP.Fi∧
  ∀c,0≤c∧c<w.fC.Ad->gt (Als w.fP (gt w.fL k).Ad).Gt c=(if c∈(gt w.fL k).Ad then 2 else gt w.fP.Gt c)∧gt (Als w.fP (gt w.fL k).Ad).Fj c=(if c∈(gt w.fL k).Ad then -1 else gt w.fP.Fj c):=by
 have P:=Ahs.1 I.pool;obtain⟨a,b,c,d⟩:=Bk3 (gt w.fL k).Ad w.fP (by have:=P.st;have:=P.own;omega)
 have key: ∀c,0≤c∧c<w.fC.Ad->gt (Als w.fP (gt w.fL k).Ad).Gt c=(if c∈(gt w.fL k).Ad then 2 else gt w.fP.Gt c)∧gt (Als w.fP (gt w.fL k).Ad).Fj c=(if c∈(gt w.fL k).Ad then -1 else gt w.fP.Fj c):=by
  intro x hx;obtain⟨d1,d2⟩:=d x (by rw[P.st];exact hx)
  rw[d1,d2]
  by_cases e:x∈(gt w.fL k).Ad
  ·have:=((I.own k hk x).1 e).2.1
   grind
  grind
 refine⟨⟨P.conf,by rw[a];exact P.mem,by rw[b];exact P.st,by rw[c];exact P.own,fun x hx=> ?_⟩,a,key⟩
 obtain⟨k1,k2⟩:=key x hx;obtain⟨p1,p2,p3,p4⟩:=P.one x hx
 grind
theorem A9o (q:List A7)(x:A7):chL (q++[x])=chL q++x.Ad:=by grind [chL]
theorem A9p (q:List A7)(x:A7):slL (q++[x])=slL q++(if x.A9=0 then []else [Ark .i64 x.A9 1]):=by grind [slL]
theorem Bfd (q:List A7)(x:A7):A1c (q++[x])=A1c q++[(x.A9,x.Bw)]:=by simp[A1c]
theorem A6d{c:Fc}{n:Ax}(h:Aum c n){s:Int}(hs:0≤s∧s≤c.B9):An8 c (Ajv n s)=true:=by
 obtain⟨_,b,_⟩:=A1 h.conf;unfold An8 Ajv;simp only[Z4,Abx,decide_eq_true_eq,Bool.or_eq_true,beq_iff_eq];exact⟨h.conf,hs,h.first,by have:=h.ntag;omega,h.tags,h.dist,by omega,.inr trivial⟩
theorem Bam (w:Bm)(n:Ax)(s:Int):Aq8 w (Ajv n s)=true:=by
 unfold Aq8 Ajv Atn;simp
theorem Bdh{w:Bm}(I:Inv w){k:Int}(hk:0≤k∧k<(w.fL.length:Int)):(chL w.fQ++(gt w.fL k).Ad).Nodup:=
 Apb.2 ⟨I.chn,A0z (A4p (I.node k hk)),fun x h1 h2=>by simp_all[Inv.chi,Inv.own]⟩
theorem Bdi{w:Bm}(I:Inv w){k:Int}(hk:0≤k∧k<(w.fL.length:Int))(c:Int):c∈chL w.fQ++(gt w.fL k).Ad ↔ (0≤c∧c<w.fC.Ad)∧gt (Als w.fP (gt w.fL k).Ad).Gt c=2:=by
 rw[Nj,I.chi];constructor
 ·rintro(⟨a,b⟩|h)
  all_goals simp_all[A4r,Inv.own]
 ·rintro⟨a,b⟩;rw[((A4r I hk).2.2 c a).1]at b
  grind
theorem Bk4{w:Bm}(I:Inv w){t:Int->Lk}(A:AtT w.fL t)(F:Ajm w.fL.length t (A1c w.fQ)){k:Int}(h:Al w.fL.length t k):Inv (A2m w k):=by
 have hl:=h.lv
 have hk:=hl.1
 have P:=I.live A hl
 have R:=I.rg;obtain⟨L1,L2,L3⟩:=A4r I hk;obtain⟨_,_,b3,_⟩:=A1 I.conf
 have hlen:=I.len
 have e1:Arj .i64 k 1=k+1:=ad1 (by omega) (by omega)
 have hN:(A2m w k).fL.length=w.fL.length:=by grind [A2m,A3v]
 have hg: ∀x,0≤x∧x<(w.fL.length:Int)->gt (A2m w k).fL x=if x=k then Ate 2 (gt (Atx w.fL k) k).C5 else gt (Atx w.fL k) x:=fun x hx=>by
  unfold A2m;simp only;rw[Atp (by grind [A3v]) (by grind [A3v])];rfl
 have hgen:(gt (Atx w.fL k) k).C5=(gt w.fL k).C5:=by
  unfold Atx A7g;rw[A3u (by grind [A58,A44])]
  show(gt (A8l w.fL (A73 w.fL k) k _ _) k).C5=_;unfold A8l
  have h0:(gt (A73 w.fL k) k).C5=(gt w.fL k).C5:=by rw[A9n R hk hk];rfl
  obtain⟨_,_,r3,_⟩:=R.rg k hk
  have hl8:=R.len;rw[Bfc r3.1 r3.2 hl8,sb1 (by omega) (by omega)]
  by_cases e:(gt w.fL k).Gv=0
  ·grind
  ·rw[As5 e];simp only[Bool.not_false,cond_true];rw[Atp (by rw[A44];omega) (by grind [A44])]
   split
   ·rename_i e2;rw[←e2];exact h0
   omega
 refine⟨Ahs.2 L1,by rw[hN];exact hlen,fun x hx=> ?_,fun x hx c=> ?_,fun x hx=> ?_,⟨rem t k,?_,?_⟩,fun x hx=> ?_,?_,fun c=> ?_,?_,fun s=> ?_,I.log⟩
 ·rw[hN]at hx;rw[hg x hx]
  by_cases e:x=k
  ·rw[if_pos e,hgen];exact A6v I.conf (by omega) (by omega) P.gen
  ·rw[if_neg e,A6c R hk hx e]
   by_cases hs:(gt w.fL x).Gt=1
   ·have X:=Ajy.1 ⟨I.node x hx,hs⟩;obtain⟨a1,a2,a3,a4⟩:=A5m (I.node k hk);refine(Ajy.2 (Bal X ?_ ?_ ?_)).1
    ·split
     ·exact a3
     ·exact X.first
    ·split
     ·exact a3
     ·exact X.next
    ·split
     ·exact a4
     ·exact X.prev
   ·have X:=A18 (I.node x hx) hs
    have B:=(Bae F.tree hl).bare x hx.1 hx.2 (by rw[An9 e,A x hx];grind [A6b])
    rw[An9 e,A x hx,A k hk]at B;obtain⟨_,B2,B3,B4⟩:=B
    have q1:(if(gt w.fL k).Gw=0∧x+1=(gt w.fL k).fUp∧(gt w.fL x).Bw=k+1 then(gt w.fL k).Gv else(gt w.fL x).Bw)=0:=B2
    have q2:(if x+1=(gt w.fL k).Gw then(gt w.fL k).Gv else(gt w.fL x).Gv)=0:=B3
    have q3:(if x+1=(gt w.fL k).Gv then(gt w.fL k).Gw else(gt w.fL x).Gw)=0:=B4
    have this:lnk (gt w.fL x) 0 0 0=gt w.fL x:=by rw[X];rfl
    rw[q1,q2,q3];rw[this];exact I.node x hx
 ·rw[hN]at hx;rw[hg x hx]
  show c∈_ ↔ (0≤c∧c<w.fC.Ad)∧gt (Als w.fP (gt w.fL k).Ad).Gt c=1∧gt (Als w.fP (gt w.fL k).Ad).Fj c=x
  by_cases e:x=k
  ·rw[if_pos e];constructor
   ·intro q;cases q
   ·rintro⟨a,b,d⟩;rw[(L3 c a).1]at b;rw[(L3 c a).2]at d;split at b
    all_goals simp_all[Inv.own]
  ·rw[if_neg e,A6c R hk hx e]
   show c∈(gt w.fL x).Ad ↔ _;rw[I.own x hx c];constructor
   ·rintro⟨a,b,d⟩
    have q:c ∉ (gt w.fL k).Ad:=fun q=>e (by have:=((I.own k hk c).1 q).2.2;omega)
    grind
   grind
 ·rw[hN]at hx;rw[hg x hx]
  by_cases e:x=k
  ·rw[if_pos e];exact⟨rfl,rfl,rfl⟩
  ·rw[if_neg e,A6c R hk hx e];obtain⟨t1,t2,t3⟩:=I.thing x hx;refine⟨t1,t2,?_⟩
   show Au8 w.fC (Als w.fP (gt w.fL k).Ad).Fi _=true;rw[L2];exact t3
 ·exact Byf A R hk _
 ·show Ajm ((A2m w k).fL.length:Int) _ (A1c (w.fQ++[_]));rw[hN,Bfd,e1]
  have:=Bda F h;rw[A k hk]at this;exact this
 ·have hx:x∈w.fQ++[Ajv (gt w.fL k) (Arj .i64 k 1)]:=hx
  show An8 w.fC x=true∧_;rcases Nj.1 hx with hx|hx
  ·obtain⟨a,b⟩:=I.wrec x hx;refine⟨a,?_⟩;unfold Aq8 at b ⊢
   show(_||Atn (((Als w.fP (gt w.fL k).Ad).Fi.drop (gt x.Ad 0*w.fC.Ds).toNat).take x.Hp.toNat))=true
   grind
  ·rw[Sj.1 hx,e1]
   grind [A6d,Bam]
 ·show(chL (w.fQ++[_])).Nodup;rw[A9o];exact Bdh I hk
 ·show c∈chL (w.fQ++[_]) ↔ _;rw[A9o];exact Bdi I hk c
 ·show(slL (w.fQ++[Ajv (gt w.fL k) (Arj .i64 k 1)])).Nodup;rw[A9p,e1]
  show(slL w.fQ++(if k+1=0 then []else [Ark .i64 (k+1) 1])).Nodup
  rw[if_neg (by omega),sb1 (by omega) (by omega),Int.add_sub_cancel]
  exact Apb.2 ⟨I.sln,by simp,fun x h1 h2=>by rw[Sj]at h2;subst h2;have:=((I.sli x).1 h1).2;have:=P.st;omega⟩
 ·show s∈slL (w.fQ++[Ajv (gt w.fL k) (Arj .i64 k 1)]) ↔ _;rw[A9p,e1,hN]
  show s∈slL w.fQ++(if k+1=0 then []else [Ark .i64 (k+1) 1]) ↔ _
  rw[if_neg (by omega),sb1 (by omega) (by omega),Int.add_sub_cancel,Nj,Sj,I.sli]
  constructor
  ·rintro(⟨a,b⟩|a)
   ·refine⟨a,?_⟩
    have e:s≠k:=fun e=>by grind [Aum.st]
    rw[hg s a,if_neg e,A6c R hk a e];exact b
   ·rw[a,hg k hk,if_pos rfl];exact⟨hk,rfl⟩
  ·rintro⟨a,b⟩
   by_cases e:s=k
   ·omega
   ·rw[hg s a,if_neg e,A6c R hk a e]at b;exact .inl ⟨a,b⟩
theorem Byg{l:List Ax}{t:Int->Lk}(A:AtT l t){k:Int}(hk:0≤k∧k<(l.length:Int))(h0:0≤(gt l k).Mu)(h1:(gt l k).Mu≤1000000000):AtT (l.set k.toNat (A16 (gt l k))) (emp t k):=by
 intro x hx;rw[Z49]at hx;rw[Atp hk hx]
 by_cases e:x=k
 ·subst e;rw[Bb2,if_pos rfl,A x hx]
  grind [A16,A6b,ad1]
 ·rw[A83 e,if_neg e,A x hx]
theorem Bk5{w:Bm}(I:Inv w){t:Int->Lk}(A:AtT w.fL t)(F:Ajm w.fL.length t (A1c w.fQ)){k:Int}(h:Al w.fL.length t k)(hE:(gt w.fL k).Mu≤1000000000):Inv (A39 w k):=by
 have hl:=h.lv
 have hk:=hl.1
 have P:=I.live A hl;obtain⟨L1,L2,L3⟩:=A4r I hk
 have hN:(A39 w k).fL.length=w.fL.length:=by grind [A39]
 have hg: ∀x,0≤x∧x<(w.fL.length:Int)->gt (A39 w k).fL x=if x=k then A16 (gt w.fL k)else gt w.fL x:=fun x hx=>Atp hk hx _
 obtain⟨_,b2,b3,_⟩:=A1 I.conf;refine⟨Ahs.2 L1,by rw[hN];exact I.len,fun x hx=> ?_,fun x hx c=> ?_,fun x hx=> ?_,⟨emp t k,?_,?_⟩,fun x hx=> ?_,?_,fun c=> ?_,?_,fun s=> ?_,I.log⟩
 ·rw[hN]at hx;rw[hg x hx]
  show Aua w.fC _=true
  by_cases e:x=k
  ·rw[if_pos e];exact((Ajy (n:=A16 (gt w.fL k))).2 ⟨P.conf,P.st,P.gen,P.up,⟨Int.le_refl _,by show(0:Int)≤_;omega⟩,P.next,P.prev,by show 0≤Arj .i64 _ 1;rw[ad1 (by have:=P.ep;omega) hE];have:=P.ep;omega,P.ue,rfl,rfl,Z21 _,Z21 _,rfl,rfl⟩).1
  simp_all[Inv.node]
 ·rw[hN]at hx;rw[hg x hx]
  show c∈_ ↔ (0≤c∧c<w.fC.Ad)∧gt (Als w.fP (gt w.fL k).Ad).Gt c=1∧gt (Als w.fP (gt w.fL k).Ad).Fj c=x
  by_cases e:x=k
  ·rw[if_pos e];constructor
   ·intro q;cases q
   ·rintro⟨a,b,d⟩;rw[(L3 c a).1]at b;rw[(L3 c a).2]at d;split at b
    all_goals simp_all[Inv.own]
  ·rw[if_neg e,I.own x hx c];constructor
   ·rintro⟨a,b,d⟩
    have q:c ∉ (gt w.fL k).Ad:=fun q=>e (by have:=((I.own k hk c).1 q).2.2;omega)
    grind
   grind
 ·rw[hN]at hx;rw[hg x hx]
  by_cases e:x=k
  ·rw[if_pos e];exact⟨rfl,rfl,rfl⟩
  ·rw[if_neg e];obtain⟨t1,t2,t3⟩:=I.thing x hx;refine⟨t1,t2,?_⟩
   show Au8 w.fC (Als w.fP (gt w.fL k).Ad).Fi _=true
   grind
 ·exact Byg A hk P.ep hE
 ·show Ajm ((A39 w k).fL.length:Int) _ (A1c (w.fQ++[_]));rw[hN,Bfd]
  have:=Bdb F h;rw[A k hk]at this;exact this
 ·have hx:x∈w.fQ++[Ajv (gt w.fL k) 0]:=hx
  show An8 w.fC x=true∧_;rcases Nj.1 hx with hx|hx
  ·obtain⟨a,b⟩:=I.wrec x hx;refine⟨a,?_⟩;unfold Aq8 at b ⊢
   show(_||Atn (((Als w.fP (gt w.fL k).Ad).Fi.drop (gt x.Ad 0*w.fC.Ds).toNat).take x.Hp.toNat))=true
   grind
  ·rw[Sj.1 hx]
   grind [A6d,Bam]
 ·show(chL (w.fQ++[_])).Nodup;rw[A9o];exact Bdh I hk
 ·show c∈chL (w.fQ++[_]) ↔ _;rw[A9o];exact Bdi I hk c
 ·show(slL (w.fQ++[Ajv (gt w.fL k) 0])).Nodup;rw[A9p]
  show(slL w.fQ++(if(0:Int)=0 then []else [Ark .i64 0 1])).Nodup
  simp_all[Inv.sln]
 ·show s∈slL (w.fQ++[Ajv (gt w.fL k) 0]) ↔ _;rw[A9p,hN]
  show s∈slL w.fQ++(if(0:Int)=0 then []else [Ark .i64 0 1]) ↔ _
  rw[if_pos rfl,List.append_nil,I.sli];refine and_congr_right fun a=> ?_;rw[hg s a]
  by_cases e:s=k
  ·rw[if_pos e,e,P.st]
   show _ ↔ (gt w.fL k).Gt=2;rw[P.st]
  grind
def wtN (c:Fc)(n:Ax):Nat:=if n.Gt=1 then 2+n.De.length+c.Ds.toNat*n.Ad.length else 0
def wtQ (c:Fc)(x:A7):Nat:=1+x.De.length+(c.Ds.toNat*x.Ad.length - x.Hp.toNat)
def pot (w:Bm):Nat:=(w.fL.map (wtN w.fC)).sum+(w.fQ.map (wtQ w.fC)).sum
def wt (w:Bm):Nat:=pot w+w.Jc.length
structure EpP (E:Int)(n:Ax):Prop where
 ep:n.Mu≤E
 ue:n.Gu≤E
 cur:0≤n.M7∧n.M7≤1000
structure Er (w:Bm)(E:Int)(n:Nat):Prop where
 inv:Inv w
 mem: ∀x∈w.fP.Fi,0≤x∧x≤255
 ep: ∀k,0≤k∧k<(w.fL.length:Int)->EpP E (gt w.fL k)
 wt:wt w≤n
theorem Byh{α:Type}(f:α->Nat)(l:List α)(h: ∀x∈l,1≤f x):l.length≤(l.map f).sum:=by
 induction l with
 |nil=>simp
 |cons x l ih=>
  grind
theorem Bpz (w:Bm):w.fQ.length≤wt w:=by
 have:=Byh (wtQ w.fC) w.fQ fun x _=>by grind [wtQ]
 unfold wt pot;omega
theorem Bhi (w:Bm):w.Jc.length≤wt w:=by grind [wt]
theorem Gx{x:Int}(h0: -1000000000≤x)(h1:x≤1000000000):wfi x:=⟨by omega,by omega⟩
theorem Bdj{c:Fc}{t:Bl}(h:As2 c t=true):ThingW t:=by
 have hs:=(A4z h).1
 have hin:=(A4z h).2;obtain⟨_,b2,_⟩:=A1 hin.1;obtain⟨s1,s2,s3,s4⟩:=hs;refine⟨Gx (by omega) (by omega),Gx (by omega) (by omega),?_⟩
 unfold As2 at h;rw[Z4]at h
 by_cases e:t.Xv=0
 ·grind [Gx]
 ·have h:=h.2;rw[As5 e]at h;simp only[cond_false,Z4,beq_iff_eq]at h;rw[h.2.1];unfold Aw6
  have h3:(t.Xu+c.Ds - 1) / c.Ds≤t.Xu+c.Ds - 1:=Int.ediv_le_self _ (by omega)
  have h4:0≤(t.Xu+c.Ds - 1) / c.Ds:=Int.ediv_nonneg (by omega) (by omega)
  cases (inB t.Xu 0 1000000000&&inB c.Ds 1 1000000000)with
  |false=>simp_all[Gx]
  |true=>exact Gx (by grind) (by grind)
theorem Ay5{l:List Int}(h: ∀x∈l,-1000000000≤x∧x≤1000000000)(hl:l.length≤1000000000):A40 l:=⟨fun x hx=>Gx (h x hx).1 (h x hx).2,by omega⟩
theorem Bp0{c:Fc}(h:Agz c=true):ConfW c:=by
 obtain⟨b1,b2,b3,b4,b5,b6⟩:=A1 h;exact⟨Gx (by omega) (by omega),Gx (by omega) (by omega),Gx (by omega) (by omega),Gx (by omega) (by omega),Gx (by omega) (by omega),Gx (by omega) (by omega)⟩
theorem Ban{l:List Int}(h:l.all (fun x=>inB x 0 255)=true): ∀x∈l,0≤x∧x≤255:=fun x hx=>Abx.1 (Z1.1 h x hx)
theorem A5n{c:Fc}{n:Ax}{E:Int}(h:Aua c n=true)(e:EpP E n)(hE:E≤1000000000):Atw n:=by
 obtain⟨b1,b2,b3,b4,b5,b6⟩:=A1 (A23 h).1
 by_cases s:n.Gt=1
 ·have X:=Ajy.1 ⟨h,s⟩
  have:=X.gen;have:=X.up;have:=X.first;have:=X.next;have:=X.prev;have:=X.ep;have:=X.ue;have:=X.nth;have:=X.ntag
  have:=e.ep;have:=e.ue;have:=e.cur;refine⟨Gx (by omega) (by omega),Gx (by omega) (by omega),Gx (by omega) (by omega),Gx (by omega) (by omega),Gx (by omega) (by omega),Gx (by omega) (by omega),Gx (by omega) (by omega),Gx (by omega) (by omega),?_,Gx (by omega) (by omega),?_,?_,?_⟩
  ·exact Ay5 (fun x hx=>by have:=A0v X.dist x hx;omega) (by have:=Aub X.conf X.dist;omega)
  ·have:=X.cur;unfold A7u at this
   by_cases q:n.M7=0
   ·simp_all[Gx]
   ·rw[As5 q]at this;simp only[cond_false,Z4,Abx]at this
    grind [Gx]
  ·exact⟨fun t ht=>Bdj (Z1.1 X.things t ht),by omega⟩
  ·exact Ay5 (fun x hx=>by have:=Ban X.tags x hx;omega) (by omega)
 ·have g:=A23 h;rw[A18 h s];exact⟨Gx (by show _≤n.Gt;omega) (by show n.Gt≤_;omega),Gx (by show _≤n.C5;omega) (by show n.C5≤_;omega),Azn,Azn,Azn,Azn,Azn,Azn,Ax5,Azn,Azn,A57,Ax5⟩
theorem Bsq{c:Fc}{x:A7}(h:An8 c x=true):A3a x:=by
 obtain⟨b1,b2,b3,b4,b5,b6⟩:=A1 (Aug h).1;obtain⟨h1,h2,h3,h4,h5⟩:=Aug h;unfold An8 at h;simp only[Z4,Abx,decide_eq_true_eq]at h;obtain⟨_,_,_,t1,t2,_⟩:=h;refine⟨Gx (by omega) (by omega),Gx (by omega) (by omega),?_,?_,Gx (by omega) (by omega)⟩
 ·exact Ay5 (fun y hy=>by have:=Ban t2 y hy;omega) (by omega)
 ·exact Ay5 (fun y hy=>by have:=A0v h4 y hy;omega) (by grind [Aub])
theorem A7k{α:Type}[Inhabited α]{l:List α}{P:α->Prop}(h: ∀k,0≤k∧k<(l.length:Int)->P (gt l k)): ∀x∈l,P x:=by
 intro x hx;obtain⟨i,hi,e⟩:=List.mem_iff_getElem.1 hx
 have:=h (i:Int) ⟨by omega,by omega⟩
 grind [V2]
theorem Er.ww{w:Bm}{E:Int}{n:Nat}(G:Er w E n)(hE:E≤1000000000)(hn:n≤1000000000):Alq w:=by
 have I:=G.inv
 have P:=Ahs.1 I.pool;obtain⟨b1,b2,b3,b4,b5,b6⟩:=A1 I.conf
 have h1:=Bpz w
 have h2:=Bhi w
 have h3:=G.wt
 have hm:=Axe (a:=w.fC.Ad) (b:=w.fC.Ds) (m:=12) (n:=16) (by omega) b1.2 (by omega) b2.2
 refine⟨Bp0 I.conf,⟨⟨G.mem,by have:=P.mem;omega⟩,?_,?_⟩,⟨A7k fun k hk=>A5n (I.node k hk) (G.ep k hk) hE,by have:=I.len;omega⟩,⟨fun x hx=>Bsq (I.wrec x hx).1,by omega⟩,?_⟩
 ·exact Ay5 (A7k fun k hk=>by have:=(P.one k (by grind [A4q.st])).1;omega) (by have:=P.st;omega)
 ·refine Ay5 (A7k fun k hk=> ?_) (by have:=P.own;omega)
  obtain⟨o1,o2,o3,o4⟩:=P.one k (by grind [A4q.own])
  omega
 ·exact Ay5 (fun x hx=>by have:=Ban I.log x hx;omega) (by omega)
theorem Bdk{w:Bm}(I:Inv w)(p:Ed)(q:List A7)(lg:List Int)(hp:A4q w.fC p)
  (ho: ∀c,0≤c∧c<w.fC.Ad->(gt p.Gt c=1 ↔ gt w.fP.Gt c=1)∧gt p.Fj c=gt w.fP.Fj c)
  (hl: ∀k,0≤k∧k<(w.fL.length:Int)->Au8 w.fC p.Fi (gt w.fL k)=true)
  (hq:A1c q=A1c w.fQ) (hs:slL q=slL w.fQ)
  (hr: ∀x∈q,An8 w.fC x=true∧Aq8 (Bm.mk w.fC p w.fL q lg) x=true)
  (hn:(chL q).Nodup) (hc: ∀c,c∈chL q ↔ (0≤c∧c<w.fC.Ad)∧gt p.Gt c=2)
  (hg:lg.all (fun x=>inB x 0 255)=true):Inv (Bm.mk w.fC p w.fL q lg):=by
 refine⟨Ahs.2 hp,I.len,I.node,fun k hk c=> ?_,fun k hk=> ?_,?_,hr,hn,hc,?_,?_,hg⟩
 ·rw[I.own k hk c]
  grind
 all_goals grind [Inv.thing,Inv.forest,Inv.sln,Inv.sli]
theorem gt0{α:Type}[Inhabited α](x:α)(l:List α):gt (x::l) 0=x:=rfl
theorem A6e{mem:List Int}{a n:Nat}:Atn ((mem.drop a).take n)=true ↔ ∀j:Nat,a≤j->j<a+n->j<mem.length->gt mem (j:Int)=0:=by
 unfold Atn;rw[Z1];constructor
 ·intro h j h1 h2 h3;rw[V2 h3]
  have:mem[j]∈(mem.drop a).take n:=by
   rw[List.mem_iff_getElem];refine⟨j - a,by grind,?_⟩
   grind
  grind
 ·intro h x hx;obtain⟨i,hi,e⟩:=List.mem_iff_getElem.1 hx;simp only[List.length_take,List.length_drop]at hi;simp only[List.getElem_take,List.getElem_drop]at e
  have:=h (a+i) (by omega) (by omega) (by omega)
  rw[V2 (by omega),e]at this
  grind
def A2h (mem:List Int)(a n:Nat):List Int:=(List.range mem.length).map fun(j:Nat)=>if a≤j∧j<a+n then(0:Int)else gt mem (j:Int)
theorem Ay6 (mem:List Int)(a n:Nat):(A2h mem a n).length=mem.length:=by simp[A2h]
theorem A6x{mem:List Int}{a n j:Nat}(h:j<mem.length):gt (A2h mem a n) (j:Int)=if a≤j∧j<a+n then 0 else gt mem (j:Int):=by
 grind [V2,A2h]
theorem Bp1 (mem:List Int)(a:Nat):A2h mem a 0=mem:=by
 refine List.ext_getElem (Ay6 _ _ _) fun j h1 h2=> ?_
 have:=A6x (mem:=mem) (a:=a) (n:=0) h2
 simp_all[if_neg,V2]
theorem Bp2{mem:List Int}{a i:Nat}:(A2h mem a i).set (a+i) 0=A2h mem a (i+1):=by
 refine List.ext_getElem (by grind [Ay6]) fun j h1 h2=> ?_
 rw[Z49,Ay6]at h1
 have e1:=A6x (mem:=mem) (a:=a) (n:=i) h1
 have e2:=A6x (mem:=mem) (a:=a) (n:=i+1) h1;rw[V2 (by grind)]at e1 e2
 grind
theorem Bk7{mem:List Int}{a n b m:Nat}(h:Atn ((mem.drop b).take m)=true):Atn (((A2h mem a n).drop b).take m)=true:=by
 grind [A6e,Ay6,A6x]
theorem Bfe{mem:List Int}{a d n m:Nat}(h:Atn ((mem.drop a).take d)=true)(hm:m≤d+n):Atn (((A2h mem (a+d) n).drop a).take m)=true:=by
 grind [A6e,Ay6,A6x]
section
variable {K:Nat} (hK:281474976710656≤K)
include hK
theorem Bb4{mem:List Int}(hl:mem.length≤1000000){a n:Int}(ha:0≤a∧a≤1000000)(hn:0≤n)(hs:a+n≤mem.length):A4e K mem a n=some (A2h mem a.toNat n.toNat):=by
 have hm:=P2;obtain⟨A,rfl⟩: ∃A:Nat,a=A:=⟨a.toNat,by omega⟩
 obtain⟨N,rfl⟩: ∃N:Nat,n=N:=⟨n.toNat,by omega⟩
 simp only[Int.toNat_natCast]
 have key: ∀(f i:Nat),i≤N->N - i<f->Azy K mem A N f (A2h mem A i) ((A+i:Nat):Int)=some (A2h mem A N):=by
  intro f
  induction f with
  |zero=>omega
  |succ f ih=>
   intro i hi hf;rw[Azy]
   have e:Ark .i64 ((A+i:Nat):Int) A=i:=by unfold Ark;grind [Gy]
   rw[e]
   by_cases q:i=N
   ·grind
   ·rw[Wy (by omega),Wy (by omega),cond_true,cond_true,Ay6,if_pos ⟨by omega,by omega⟩,Wx (by omega),Int.toNat_natCast,Bp2]
    grind
 unfold A4e;rw[Z38,if_pos ⟨by omega,by omega⟩,decide_eq_false (by omega),decide_eq_false (by omega)]
 simp only[cond_false]
 have:=key K 0 (by omega) (by omega)
 grind [Bp1]
end
theorem A24{w:Bm}(I:Inv w){x qs}(hq:w.fQ=x::qs):An8 w.fC x=true∧Aq8 w x=true:=by grind [Inv.wrec,List.mem_cons_self]
structure Bp3 (c:Fc)(x:A7):Prop where
 conf:Agz c=true
 slot:0≤x.A9∧x.A9≤c.B9
 first:0≤x.Bw∧x.Bw≤c.B9
 ntag:x.De.length≤6
 tags: ∀y∈x.De,0≤y∧y≤255
 dist:Axw c x.Ad=true
 done:0≤x.Hp∧x.Hp≤c.Ds - 1
 zero:x.Ad=[]->x.Hp=0
theorem A0x{c:Fc}{x:A7}:An8 c x=true ↔ Bp3 c x:=by
 unfold An8;simp only[Z4,Abx,decide_eq_true_eq,Bool.or_eq_true,beq_iff_eq,Z1];constructor
 ·rintro⟨a,b,c,d,e,f,g,h⟩;refine⟨a,b,c,by omega,e,f,g,fun q=> ?_⟩
  grind
 ·intro h;refine⟨h.conf,h.slot,h.first,by have:=h.ntag;omega,h.tags,h.dist,h.done,?_⟩
  by_cases q:x.Ad=[]
  ·exact .inr (h.zero q)
  simp_all[List.length_pos_iff]
def Bp4 (x:A7):A7:=A7.mk x.A9 x.Bw (x.De.take (x.De.length - 1)) x.Ad x.Hp
def A5o (w:Bm)(x:A7)(qs:List A7):Bm:=Bm.mk w.fC w.fP w.fL (Bp4 x::qs) (w.Jc++[gt x.De ((x.De.length - 1:Nat):Int)])
theorem Byi (K:Nat){w:Bm}{x:A7}{qs:List A7}(hq:w.fQ=x::qs)(h0:0<x.De.length)(h6:x.De.length≤6)(hl:w.Jc.length≤1000000000):Ax0 K w=some (A5o w x qs):=by
 have hm:=P2;unfold Ax0;rw[hq,gt0]
 have e:Ark .i64 (x.De.length:Int) 1=((x.De.length - 1:Nat):Int):=by grind [sb1]
 rw[e,if_pos ⟨by omega,by simp⟩,if_pos ⟨by omega,by omega⟩,if_pos ⟨by grind,by grind⟩,if_pos ⟨by omega,by omega,by omega⟩,A7b,Z38,if_pos ⟨by grind,by grind⟩]
 rfl
theorem Bp5{l:List Int}{n:Nat}{P:Int->Prop}(h: ∀y∈l,P y): ∀y∈l.take n,P y:=by grind
theorem Bsr{w:Bm}(I:Inv w){x:A7}{qs:List A7}(hq:w.fQ=x::qs)(h0:0<x.De.length):Inv (A5o w x qs):=by
 have R:=A0x.1 (A24 I hq).1
 have e1:chL (Bp4 x::qs)=chL w.fQ:=by rw[hq];rfl
 refine Bdk I w.fP _ _ (Ahs.1 I.pool) (fun c _=>⟨Iff.rfl,rfl⟩) (fun k hk=>(I.thing k hk).2.2) (by rw[hq];rfl) (by rw[hq];rfl) (fun y hy=> ?_) (by rw[e1];exact I.chn) (fun c=>by grind [Inv.chi]) ?_
 ·rcases Fl.1 hy with e|e
  ·subst e;refine⟨A0x.2 ⟨R.conf,R.slot,R.first,?_,Bp5 R.tags,R.dist,R.done,R.zero⟩,(A24 I hq).2⟩
   have:=R.ntag
   show(x.De.take _).length≤6
   grind
  ·exact I.wrec y (by grind)
 ·rw[List.all_append,I.log]
  have:=R.tags _ (Al6 (show x.De.length - 1<x.De.length by omega))
  simp[Abx,this]
def Auh (w:Bm)(x:A7):Int:=if w.fC.Ds<x.Hp+w.fC.Ca then w.fC.Ds else x.Hp+w.fC.Ca
def Bdl (w:Bm)(x:A7):List Int:=A2h w.fP.Fi (gt x.Ad 0*w.fC.Ds+x.Hp).toNat (Auh w x - x.Hp).toNat
def A84 (w:Bm)(x:A7):Ed:=Ed.mk (Bdl w x) (if Auh w x<w.fC.Ds then w.fP.Gt else w.fP.Gt.set (gt x.Ad 0).toNat 0) w.fP.Fj
def A5v (w:Bm)(x:A7):A7:=if Auh w x<w.fC.Ds then A7.mk x.A9 x.Bw x.De x.Ad (Auh w x)else A7.mk x.A9 x.Bw x.De (x.Ad.drop 1) 0
def A4b (w:Bm)(x:A7)(qs:List A7):Bm:=Bm.mk w.fC (A84 w x) w.fL (A5v w x::qs) w.Jc
structure Buv (w:Bm)(x:A7):Prop where
 rc:Bp3 w.fC x
 k:0≤gt x.Ad 0∧gt x.Ad 0<w.fC.Ad
 st:gt w.fP.Gt (gt x.Ad 0)=2
 at0:0≤gt x.Ad 0*w.fC.Ds
 at1:gt x.Ad 0*w.fC.Ds+w.fC.Ds≤(w.fP.Fi.length:Int)
 len:w.fP.Fi.length≤192
 to:x.Hp<Auh w x∧Auh w x≤w.fC.Ds
 zero:Atn ((w.fP.Fi.drop (gt x.Ad 0*w.fC.Ds).toNat).take x.Hp.toNat)=true
theorem A6y{c:Fc}{p:Ed}(P:A4q c p):p.Fi.length≤192:=by
 obtain⟨b1,b2,_⟩:=A1 P.conf
 have hm:=Axe (a:=c.Ad) (b:=c.Ds) (m:=12) (n:=16) (by omega) b1.2 (by omega) b2.2
 have:=P.mem;omega
theorem Bhj{w:Bm}(I:Inv w){x:A7}{qs:List A7}(hq:w.fQ=x::qs)(hc:0<x.Ad.length):Buv w x:=by
 have R:=A0x.1 (A24 I hq).1
 have P:=Ahs.1 I.pool
 have hx:x∈w.fQ:=by grind
 have hm:gt x.Ad 0∈x.Ad:=Al6 (i:=0) hc
 have h1:=(I.chi _).1 (Bdg hx hm);obtain⟨_,_,e3,e4⟩:=A32 I.conf P.mem h1.1.1 h1.1.2;obtain⟨b1,b2,b3,b4,b5,b6⟩:=A1 I.conf
 have hd:=R.done;refine⟨R,h1.1,h1.2,e3,e4,A6y P,?_,?_⟩
 ·grind [Auh]
 ·have:=(A24 I hq).2
  grind [Aq8]
section
variable {K:Nat} (hK:281474976710656≤K)
include hK
theorem Bff{w:Bm}(hw:A34 w.fP)(hp:Aw7 w.fC w.fP=true){x:A7}(X:Buv w x):Ave K w.fC w.fP (gt x.Ad 0) x.Hp=some (A84 w x,!decide (Auh w x<w.fC.Ds)):=by
 obtain⟨b1,b2,b3,b4,b5,b6⟩:=A1 X.rc.conf
 have P:=Ahs.1 hp;obtain⟨e1,e2,e3,e4⟩:=A32 X.rc.conf P.mem X.k.1 X.k.2
 have hd:=X.rc.done
 have ht:=X.to
 have hl:=X.len
 have hk:=X.k
 have es:Arj .i64 x.Hp w.fC.Ca=x.Hp+w.fC.Ca:=by grind [Arj,Gy]
 have el:Aza K (x.Hp+w.fC.Ca) w.fC.Ds=some (Auh w x):=by
  unfold Aza Auh
  grind
 have ea:Arj .i64 (gt x.Ad 0*w.fC.Ds) x.Hp=gt x.Ad 0*w.fC.Ds+x.Hp:=by grind [Arj,Gy]
 have en:Ark .i64 (Auh w x) x.Hp=Auh w x - x.Hp:=by grind [Ark,Gy]
 unfold Ave;rw[A21 K hw,A54 hK,hp,Aok,A07 hK X.rc.conf,Abx.2 ⟨by omega,by omega⟩,Aok,A6q X.rc.conf,Abx.2 hd,es,el,e1,ea]
 simp only[Z0,cond_true,Bool.not_true,cond_false];rw[en,Bb4 hK (by omega) ⟨by omega,by omega⟩ (by omega) (by omega)]
 simp only[Z0,e2];rw[if_pos ⟨hk.1,by rw[P.st];exact hk.2⟩,X.st]
 simp only[bne_self_eq_false,cond_false];unfold A84
 by_cases q:Auh w x<w.fC.Ds
 ·rw[decide_eq_true q,if_pos q];rfl
 ·rw[decide_eq_false q,if_neg q];simp only[cond_false,Bool.not_false];rw[if_pos ⟨by omega,by omega,by show _≤((A2h _ _ _).length:Int);grind [Ay6]⟩]
  have hz:Atn (((A2h w.fP.Fi (gt x.Ad 0*w.fC.Ds+x.Hp).toNat (Auh w x - x.Hp).toNat).drop (gt x.Ad 0*w.fC.Ds).toNat).take (gt x.Ad 0*w.fC.Ds+w.fC.Ds - gt x.Ad 0*w.fC.Ds).toNat)=true:=by
   rw[show(gt x.Ad 0*w.fC.Ds+x.Hp).toNat=(gt x.Ad 0*w.fC.Ds).toNat+x.Hp.toNat by omega]
   exact Bfe X.zero (by omega)
  rw[A20 hK _ (by grind),hz]
  simp only[Z0,Bool.not_true,cond_false];rw[if_pos ⟨hk.1,by rw[P.st];exact hk.2⟩]
  rfl
theorem Bss{w:Bm}(I:Inv w)(hw:A34 w.fP){x:A7}{qs:List A7}(hq:w.fQ=x::qs)(hc:0<x.Ad.length):Aym K w=some (A4b w x qs):=by
 have hm:=P2
 have X:=Bhj I hq hc
 have hlen:=Aub X.rc.conf X.rc.dist;obtain⟨b1,b2,b3,b4,b5,b6⟩:=A1 X.rc.conf
 have hd:=X.rc.done;unfold Aym;rw[hq,gt0,if_pos ⟨by omega,by simp⟩,if_pos ⟨by omega,by omega⟩,Bff hK hw I.pool X,Z0]
 simp only;unfold A4b A5v
 by_cases q:Auh w x<w.fC.Ds
 ·rw[decide_eq_true q,if_pos q]
  have es:Arj .i64 x.Hp w.fC.Ca=Auh w x:=by
   have ht:=X.to;unfold Auh at q ⊢;split at q
   ·omega
   ·rename_i r;rw[if_neg r];grind [Arj,Gy]
  grind
 grind
end
theorem A47{c:Fc}{l:List Int}:Axw c l=true ↔ l.Nodup∧ ∀x∈l,0≤x∧x<c.Ad:=by
 constructor
 ·intro h;exact⟨A0z h,A0v h⟩
 ·rintro⟨h1,h2⟩;unfold Axw;rw[Z1];intro i hi;rw[List.mem_range]at hi;rw[Z4,Abx,V2 hi]
  have:=h2 _ (List.getElem_mem hi);refine⟨by omega,?_⟩
  simp_all[A7d]
theorem Bk8{c:Fc}{l:List Int}{n:Nat}(h:Axw c l=true):Axw c (l.drop n)=true:=by
 rw[A47]at h ⊢
 grind
theorem Bp6{w:Bm}{x:A7}(h: ∀y∈w.fP.Fi,0≤y∧y≤255): ∀y∈Bdl w x,0≤y∧y≤255:=by
 refine A7k fun k hk=> ?_;unfold Bdl at hk ⊢;rw[Ay6]at hk;obtain⟨j,rfl⟩: ∃j:Nat,k=j:=⟨k.toNat,by omega⟩
 grind [A6x,Al6]
theorem Bp7{w:Bm}(I:Inv w){x:A7}{qs:List A7}(hq:w.fQ=x::qs)(hc:0<x.Ad.length):Inv (A4b w x qs):=by
 have X:=Bhj I hq hc
 have P:=Ahs.1 I.pool
 have hk:=X.k
 have hd:=X.rc.done
 have ht:=X.to
 have hxq:x∈w.fQ:=by grind
 have hst: ∀c,0≤c∧c<w.fC.Ad->gt (A84 w x).Gt c=if c=gt x.Ad 0∧ ¬Auh w x<w.fC.Ds then 0 else gt w.fP.Gt c:=by
  intro c h
  show gt (if Auh w x<w.fC.Ds then w.fP.Gt else w.fP.Gt.set (gt x.Ad 0).toNat 0) c=_
  by_cases q:Auh w x<w.fC.Ds
  ·grind
  ·rw[if_neg q,A46 hk.1 (by rw[P.st];exact h)]
   omega
 have hz: ∀b m,Atn ((w.fP.Fi.drop b).take m)=true->Atn (((A84 w x).Fi.drop b).take m)=true:=fun b m h=>Bk7 h
 have hN:(gt x.Ad 0*w.fC.Ds+x.Hp).toNat=(gt x.Ad 0*w.fC.Ds).toNat+x.Hp.toNat:=by have:=X.at0;omega
 have hall: ∀m:Nat,m≤(Auh w x).toNat->Atn (((A84 w x).Fi.drop (gt x.Ad 0*w.fC.Ds).toNat).take m)=true:=by
  intro m h
  show Atn (((A2h _ _ _).drop _).take m)=true;rw[hN];exact Bfe X.zero (by omega)
 have hlen:(A84 w x).Fi.length=w.fP.Fi.length:=Ay6 _ _ _
 have hcons:x.Ad=gt x.Ad 0::x.Ad.drop 1:=by
  cases h:x.Ad with
  |nil=>grind
  |cons a l=>rfl
 have hnd:=A0z X.rc.dist
 have hch:chL w.fQ=x.Ad++chL qs:=by rw[hq];rfl
 have hn:=I.chn;rw[hch]at hn
 have hchi:=I.chi;rw[hch]at hchi;unfold A4b;refine Bdk I (A84 w x) _ _ ⟨P.conf,by rw[hlen];exact P.mem,?_,P.own,fun c h=> ?_⟩ (fun c h=>⟨?_,rfl⟩) (fun k h=> ?_) ?_ ?_ (fun y hy=> ?_) ?_ (fun c=> ?_) I.log
 ·show((if Auh w x<w.fC.Ds then w.fP.Gt else w.fP.Gt.set (gt x.Ad 0).toNat 0).length:Int)=_
  grind [A4q.st]
 ·obtain⟨p1,p2,p3,p4⟩:=P.one c h;rw[hst c h]
  show _∧(_->0≤gt w.fP.Fj c∧_)∧(_->gt w.fP.Fj c= -1)∧_
  by_cases q:c=gt x.Ad 0∧ ¬Auh w x<w.fC.Ds
  ·rw[if_pos q];refine⟨by omega,fun f=>by omega,fun _=>p3 (by grind),fun _=> ?_⟩
   unfold Ayx
   grind
  ·rw[if_neg q];exact⟨p1,p2,p3,fun f=>hz _ _ (p4 f)⟩
 ·grind
 ·have:=(I.thing k h).2.2;unfold Au8 at this ⊢
  grind
 ·grind [A5v,A1c]
 ·grind [A5v,slL]
 ·rcases Fl.1 hy with e|e
  ·subst e;unfold A5v
   by_cases q:Auh w x<w.fC.Ds
   ·rw[if_pos q];refine⟨A0x.2 ⟨X.rc.conf,X.rc.slot,X.rc.first,X.rc.ntag,X.rc.tags,X.rc.dist,⟨by grind,by grind⟩,fun f=> ?_⟩,?_⟩
    ·grind
    ·unfold Aq8
     grind
   ·rw[if_neg q];refine⟨A0x.2 ⟨X.rc.conf,X.rc.slot,X.rc.first,X.rc.ntag,X.rc.tags,?_,⟨Int.le_refl _,by grind⟩,fun _=>rfl⟩,?_⟩
    ·exact Bk8 X.rc.dist
    ·unfold Aq8;rw[Bool.or_eq_true];exact .inr rfl
  ·obtain⟨a,b⟩:=I.wrec y (by grind)
   refine⟨a,?_⟩;unfold Aq8 at b ⊢
   grind
 ·show((A5v w x).Ad++chL qs).Nodup;unfold A5v
  grind
 ·show c∈(A5v w x).Ad++chL qs ↔ _;rw[hcons,Z45]at hn
  have hni:=(List.nodup_cons.1 hn).1
  have hci:=hchi c;rw[hcons,Z45,Fl]at hci;unfold A5v
  grind
def Bk9 (g n:Ax)(k x:Int):Ax:=lnk n (if g.Gw=0∧x+1=g.fUp∧n.Bw=k+1 then g.Gv else n.Bw) (if x+1=g.Gw then g.Gv else n.Gv) (if x+1=g.Gv then g.Gw else n.Gw)
theorem Bi9{l l':List Ax}{t:Int->Lk}(A:AtT l t){k:Int}(hk:0≤k∧k<(l.length:Int))(hN:l'.length=l.length)(hg: ∀x,0≤x∧x<(l.length:Int)->x≠k->gt l' x=Bk9 (gt l k) (gt l x) k x){gn:Int}(hb:gt l' k=Ate 2 gn):AtT l' (rem t k):=by
 intro x hx;rw[hN]at hx
 by_cases e:x=k
 ·subst e;rw[A74,hb];rfl
 ·rw[An9 e,hg x hx e,A x hx,A k hk];rfl
theorem Bp8{w:Bm}(I:Inv w){t:Int->Lk}(A:AtT w.fL t)(F:Ajm w.fL.length t (A1c w.fQ)){k:Int}(hl:Lv w.fL.length t k)(l':List Ax)(q':List A7)(hN:l'.length=w.fL.length)
  (hg: ∀x,0≤x∧x<(w.fL.length:Int)->x≠k->gt l' x=Bk9 (gt w.fL k) (gt w.fL x) k x) (hb:gt l' k=Ate 2 (gt w.fL k).C5)
  (F':Ajm w.fL.length (rem t k) (A1c q')) (hr: ∀x∈q',An8 w.fC x=true∧Aq8 w x=true)
  (hcn:(chL q').Nodup) (hci: ∀c,c∈chL q' ↔ c∈chL w.fQ++(gt w.fL k).Ad) (hsn:(slL q').Nodup) (hsi: ∀s,s∈slL q' ↔ s∈slL w.fQ∨s=k):
  Inv (Bm.mk w.fC (Als w.fP (gt w.fL k).Ad) l' q' w.Jc):=by
 have hk:=hl.1
 have P:=I.live A hl;obtain⟨L1,L2,L3⟩:=A4r I hk;refine⟨Ahs.2 L1,by simp_all[Inv.len],fun x hx=> ?_,fun x hx c=> ?_,fun x hx=> ?_,⟨rem t k,Bi9 A hk hN hg hb,?_⟩,fun x hx=> ?_,hcn,fun c=> ?_,hsn,fun s=> ?_,I.log⟩
 ·have hx:0≤x∧x<(l'.length:Int):=hx;rw[hN]at hx
  show Aua w.fC (gt l' x)=true
  by_cases e:x=k
  ·grind [A6v,Inv.conf,Aum.gen]
  ·rw[hg x hx e];obtain⟨a1,a2,a3,a4⟩:=A5m (I.node k hk)
   by_cases hs:(gt w.fL x).Gt=1
   ·have X:=Ajy.1 ⟨I.node x hx,hs⟩;refine(Ajy.2 (Bal X ?_ ?_ ?_)).1
    ·split
     ·exact a3
     ·exact X.first
    ·split
     ·exact a3
     ·exact X.next
    ·split
     ·exact a4
     ·exact X.prev
   ·have X:=A18 (I.node x hx) hs
    have B:=(Bae F.tree hl).bare x hx.1 hx.2 (by rw[An9 e,A x hx];grind [A6b])
    rw[An9 e,A x hx,A k hk]at B;obtain⟨_,B2,B3,B4⟩:=B
    have q1:(if(gt w.fL k).Gw=0∧x+1=(gt w.fL k).fUp∧(gt w.fL x).Bw=k+1 then(gt w.fL k).Gv else(gt w.fL x).Bw)=0:=B2
    have q2:(if x+1=(gt w.fL k).Gw then(gt w.fL k).Gv else(gt w.fL x).Gv)=0:=B3
    have q3:(if x+1=(gt w.fL k).Gv then(gt w.fL k).Gw else(gt w.fL x).Gw)=0:=B4
    have this:lnk (gt w.fL x) 0 0 0=gt w.fL x:=by rw[X];rfl
    grind [Bk9,Inv.node]
 ·have hx:0≤x∧x<(l'.length:Int):=hx;rw[hN]at hx
  show c∈(gt l' x).Ad ↔ (0≤c∧c<w.fC.Ad)∧gt (Als w.fP (gt w.fL k).Ad).Gt c=1∧gt (Als w.fP (gt w.fL k).Ad).Fj c=x
  by_cases e:x=k
  ·rw[e,hb];constructor
   ·intro q;cases q
   ·rintro⟨a,b,d⟩;rw[(L3 c a).1]at b;rw[(L3 c a).2]at d;split at b
    all_goals simp_all[Inv.own]
  ·rw[hg x hx e]
   show c∈(gt w.fL x).Ad ↔ _;rw[I.own x hx c];constructor
   ·rintro⟨a,b,d⟩
    have q:c ∉ (gt w.fL k).Ad:=fun q=>e (by have:=((I.own k hk c).1 q).2.2;omega)
    grind
   grind
 ·have hx:0≤x∧x<(l'.length:Int):=hx;rw[hN]at hx
  show(gt l' x).D3.all (Au6 w.fC (gt l' x).Ad)=true∧Asw (gt l' x).D3=true∧Au8 w.fC (Als w.fP (gt w.fL k).Ad).Fi (gt l' x)=true
  by_cases e:x=k
  ·rw[e,hb];exact⟨rfl,rfl,rfl⟩
  ·rw[hg x hx e];obtain⟨t1,t2,t3⟩:=I.thing x hx;refine⟨t1,t2,?_⟩;rw[L2];exact t3
 ·grind
 ·obtain⟨a,b⟩:=hr x hx;refine⟨a,?_⟩;unfold Aq8 at b ⊢
  grind
 ·grind [Bdi]
 ·show s∈slL q' ↔ (0≤s∧s<(l'.length:Int))∧(gt l' s).Gt=2;rw[hsi s,hN,I.sli];constructor
  ·rintro(⟨a,b⟩|a)
   ·refine⟨a,?_⟩
    have e:s≠k:=fun e=>by grind [Aum.st]
    rw[hg s a e];exact b
   ·rw[a,hb];exact⟨hk,rfl⟩
  ·rintro⟨a,b⟩
   by_cases e:s=k
   ·omega
   ·rw[hg s a e]at b;exact .inl ⟨a,b⟩
def A4s (l:List Ax)(g:Int):List Ax:=((bif plB l (gt l g).Gv then l.set ((gt l g).Gv - 1).toNat (Bpi (gt l ((gt l g).Gv - 1)) 0)else l).set g.toNat (Ate 2 (gt l g).C5))
def Bfg (l:List Ax)(x:A7):A7:=A7.mk x.A9 (gt l (x.Bw - 1)).Gv x.De x.Ad x.Hp
def Az5 (w:Bm)(x:A7)(qs:List A7):Bm:=
 Bm.mk w.fC (Als w.fP (gt w.fL (x.Bw - 1)).Ad) (A4s w.fL (x.Bw - 1)) (Ajv (gt w.fL (x.Bw - 1)) x.Bw::Bfg w.fL x::qs) w.Jc
theorem Bfh (l:List Ax)(g:Int):(A4s l g).length=l.length:=by
 unfold A4s;grind
theorem Bja{l:List Ax}(R:Rg l){g x:Int}(hg:0≤g∧g<(l.length:Int))(hx:0≤x∧x<(l.length:Int))(hne:x≠g)(hp:(gt l g).Gw=0)(hf: ¬(x+1=(gt l g).fUp∧(gt l x).Bw=g+1)):gt (A4s l g) x=Bk9 (gt l g) (gt l x) g x:=by
 obtain⟨r1,r2,r3,r4⟩:=R.rg g hg
 have hl:=R.len;unfold A4s Bk9;rw[Bfc r3.1 r3.2 hl,hp,if_neg (fun q=>hf q.2),if_neg (by omega: ¬x+1=0)]
 by_cases h:(gt l g).Gv=0
 ·rw[h];simp only[beq_self_eq_true,Bool.not_true,cond_false];rw[Atp hg hx,if_neg hne,if_neg (by omega)];rfl
 ·rw[As5 h];simp only[Bool.not_false,cond_true];rw[Atp (by grind) (by grind),if_neg hne,Atp (by omega) hx]
  by_cases e:x=(gt l g).Gv - 1
  ·rw[if_pos e,if_pos (by omega),←e];rfl
  ·rw[if_neg e,if_neg (by omega)];rfl
theorem Bjb{l:List Ax}{g:Int}(hg:0≤g∧g<(l.length:Int)):gt (A4s l g) g=Ate 2 (gt l g).C5:=by
 unfold A4s;rw[A3u]
 grind
structure B1p (w:Bm)(t:Int->Lk)(x:A7)(qs:List A7):Prop where
 rc:Bp3 w.fC x
 lv:Lv w.fL.length t (x.Bw - 1)
 or:Oo w.fL.length t (x.Bw - 1)
 pv:(gt w.fL (x.Bw - 1)).Gw=0
 fr:Ajm w.fL.length (rem t (x.Bw - 1)) (A1c (Ajv (gt w.fL (x.Bw - 1)) x.Bw::Bfg w.fL x::qs))
 nf: ∀y,0≤y∧y<(w.fL.length:Int)-> ¬(y+1=(gt w.fL (x.Bw - 1)).fUp∧(gt w.fL y).Bw=x.Bw - 1+1)
theorem Bdm{w:Bm}(I:Inv w){t:Int->Lk}(A:AtT w.fL t)(F:Ajm w.fL.length t (A1c w.fQ)){x:A7}{qs:List A7}(hq:w.fQ=x::qs)(hf:x.Bw≠0):B1p w t x qs:=by
 have R:=A0x.1 (A24 I hq).1
 have hx:x∈w.fQ:=by grind
 have hF:=R.first
 have e:x.Bw - 1+1=x.Bw:=by omega
 have F1:Ajm w.fL.length t ((x.A9,x.Bw - 1+1)::A1c qs):=by rw[e];rw[hq]at F;exact F
 obtain⟨h1,h2,h3⟩:=Be8 F1 (by omega)
 have hin:=h1.1
 have hor:Oo w.fL.length t (x.Bw - 1):=F.kid.or (Inv.qs hx) (A75 hin)
 have hpv:(gt w.fL (x.Bw - 1)).Gw=0:=by rw[A _ hin]at h2;exact h2
 refine⟨R,h1,hor,hpv,?_,?_⟩
 ·rw[A _ hin,e]at h3;exact h3
 ·rintro y hy ⟨a,b⟩
  have hup:(t (x.Bw - 1)).up=y+1:=by rw[A _ hin,a];rfl
  have hfi:(t y).fi=x.Bw:=by rw[A _ hy,←e,←b];rfl
  cases hlv:(t y).lv with
  |false=>
   have:=(F.tree.bare y hy.1 hy.2 hlv).2.1;omega
  |true=>
   have hY:Lv w.fL.length t y:=⟨hy,hlv⟩
   have:=(F.tree.link y hY).first (by omega)
   rw[hfi]at this;refine hor.2.2 ⟨?_,?_⟩
   all_goals grind
theorem Bp9{w:Bm}(I:Inv w){x:A7}{qs:List A7}(hq:w.fQ=x::qs)(hf:x.Bw≠0):Inv (Az5 w x qs):=by
 obtain⟨t,A,F⟩:=I.forest
 have X:=Bdm I A F hq hf
 have hk:=X.lv.1
 have hF:=X.rc.first
 have L:=I.live A X.lv;obtain⟨b1,b2,b3,b4,b5,b6⟩:=A1 I.conf
 have hch:chL w.fQ=x.Ad++chL qs:=by rw[hq];rfl
 have hcn:=Bdh I hk;rw[hch]at hcn
 have hsl:slL w.fQ=(if x.A9=0 then []else [Ark .i64 x.A9 1])++slL qs:=by rw[hq];rfl
 have hsn:=I.sln;rw[hsl]at hsn
 have e1:slL (Ajv (gt w.fL (x.Bw - 1)) x.Bw::Bfg w.fL x::qs)=(x.Bw - 1)::((if x.A9=0 then []else [Ark .i64 x.A9 1])++slL qs):=by
  show(if x.Bw=0 then []else [Ark .i64 x.Bw 1])++_=_
  rw[if_neg hf,sb1 (by omega) (by omega)];rfl
 have hns:x.Bw - 1 ∉ slL w.fQ:=fun h=>by
  have:=((I.sli _).1 h).2
  grind [Aum.st]
 unfold Az5;refine Bp8 I A F X.lv _ _ (Bfh _ _) (fun y hy hne=>Bja I.rg hk hy hne X.pv (X.nf y hy)) (Bjb hk) X.fr (fun y hy=> ?_) ?_ (fun c=> ?_) ?_ (fun s=> ?_)
 ·rcases Fl.1 hy with e|e
  ·grind [A6d,Bam]
  ·rcases Fl.1 e with e|e
   ·rw[e];exact⟨A0x.2 ⟨X.rc.conf,X.rc.slot,L.next,X.rc.ntag,X.rc.tags,X.rc.dist,X.rc.done,X.rc.zero⟩,(A24 I hq).2⟩
   grind [Inv.wrec]
 ·show((gt w.fL (x.Bw - 1)).Ad++(x.Ad++chL qs)).Nodup
  grind
 ·rw[hch]
  show c∈(gt w.fL (x.Bw - 1)).Ad++(x.Ad++chL qs) ↔ _
  grind
 all_goals grind
def AlW (l:List Ax)(k:Int):Prop:= ∃t,AtT l t∧Al l.length t k
structure A62 (w w':Bm):Prop where
 conf:w'.fC=w.fC
 len:w'.fL.length=w.fL.length
 node: ∀k,AlW w.fL k->AlW w'.fL k∧(∃a b c,gt w'.fL k=lnk (gt w.fL k) a b c)∧ ∀n,Akf w'.fL n k=Akf w.fL n k
theorem Bao (n:Ax):lnk n n.Bw n.Gv n.Gw=n:=rfl
theorem A62.refl (w:Bm):A62 w w:=⟨rfl,rfl,fun k h=>⟨h,⟨_,_,_,(Bao _).symm⟩,fun _=>rfl⟩⟩
theorem A62.trans{a b c:Bm}(h:A62 a b)(g:A62 b c):A62 a c:=by
 refine⟨g.conf.trans h.conf,g.len.trans h.len,fun k hk=> ?_⟩;obtain⟨h1,⟨x,y,z,h2⟩,h3⟩:=h.node k hk;obtain⟨g1,⟨u,v,w,g2⟩,g3⟩:=g.node k h1;exact⟨g1,⟨u,v,w,by rw[g2,h2];rfl⟩,fun n=>(g3 n).trans (h3 n)⟩
theorem Bb5{w w':Bm}(hc:w'.fC=w.fC)(hl:w'.fL=w.fL):A62 w w':=⟨hc,by rw[hl],fun k h=>by rw[hl];exact⟨h,⟨_,_,_,(Bao _).symm⟩,fun _=>rfl⟩⟩
theorem Bqa{N:Int}{t t':Int->Lk}(h: ∀y,Al N t y->Lv N t' y∧(t' y).up=(t y).up∧(Cu N t y->Al N t ((t y).up - 1)->Cu N t' y)){k:Int}(hk:Al N t k):Al N t' k:=by
 induction hk with
 |root a b=>
  obtain⟨h1,h2,h3⟩:=h _ (.root a b);exact .root h1 (by omega)
 |step a b c ih=>
  obtain⟨h1,h2,h3⟩:=h _ (.step a b c);exact .step h1 (h3 b c) (by grind)
theorem Byj{N:Int}{t:Int->Lk}{g:Int}(hg:Oo N t g){k:Int}(hk:Al N t k):Al N (rem t g) k:=by
 refine Bqa (fun y hy=> ?_) hk
 have hne:y≠g:=fun e=>hy.noOr (e ▸ hg);refine⟨Asu.2 ⟨hne,hy.lv⟩,by rw[An9 hne],fun hc hu=>(A4a hne).2 ⟨fun e=> ?_,hc⟩⟩
 simp_all[Al.noOr]
theorem Byk{N:Int}{t:Int->Lk}{g:Int}(hg:(t g).lv=false){k:Int}(hk:Al N t k):Al N (clr t g) k:=by
 refine Bqa (fun y hy=> ?_) hk;exact⟨(Ay4 hg).2 hy.lv,by rw[Aoa hg hy.lv],fun hc _=>(A8n hg hy.lv).2 hc⟩
theorem Bqb{N:Int}{t t':Int->Lk}(h: ∀x,0≤x∧x<N->t' x=t x){k:Int}(hk:Al N t k):Al N t' k:=by
 refine Bqa (fun y hy=> ?_) hk
 have hy1:=hy.lv
 simp_all[Cu,Lv]
theorem AlW.al{l:List Ax}{t:Int->Lk}(A:AtT l t){k:Int}(h:AlW l k):Al l.length t k:=by
 obtain⟨t',A',h'⟩:=h;exact Bqb (fun x hx=>by rw[A x hx,A' x hx]) h'
theorem Bfi{w w':Bm}{t t':Int->Lk}(R:Rg w.fL)(R':Rg w'.fL)(A:AtT w.fL t)(A':AtT w'.fL t')(F:Ajm w.fL.length t (A1c w.fQ))(hc:w'.fC=w.fC)(hl:w'.fL.length=w.fL.length)
  (hn: ∀k,Al w.fL.length t k->Al w.fL.length t' k∧(t' k).up=(t k).up∧ ∃a b c,gt w'.fL k=lnk (gt w.fL k) a b c):A62 w w':=by
 refine⟨hc,hl,fun k hk=> ?_⟩
 have h:=hk.al A;obtain⟨h1,h2,h3⟩:=hn k h;refine⟨⟨t',A',by grind⟩,h3,fun n=> ?_⟩
 rw[A76 A' R',A76 A R,hl];obtain⟨d,U⟩:=F.uw;exact A4n _ _ fun y hy=>(hn y ((Bi5 U n k h).1 y hy).2).2.1
theorem Bst{α:Type}[Inhabited α](a:α)(l:List α){i:Nat}(h:i<l.length):gt (a::l) ((i+1:Nat):Int)=gt l (i:Int):=by
 rfl
theorem Bqc{α:Type}[Inhabited α](f:α->Nat): ∀(l l':List α),l'.length=l.length->(∀x:Nat,x<l.length->f (gt l' (x:Int))=f (gt l (x:Int)))->(l'.map f).sum=(l.map f).sum:=by
 intro l
 induction l with
 |nil=>grind
 |cons a l ih=>
  intro l' h hx;cases l' with
  |nil=>simp at h
  |cons b l'=>
   have hl:l'.length=l.length:=by grind
   have h0:=hx 0 (by simp)
   have:=ih l' hl fun x h=>by
    have:=hx (x+1) (by grind)
    assumption
   simp only[Z8,List.sum_cons,this];rw[show f b=f a from h0]
theorem Bsu{α:Type}[Inhabited α](f:α->Nat): ∀(l l':List α) (g:Nat),l'.length=l.length->g<l.length->(∀x:Nat,x<l.length->x≠g->f (gt l' (x:Int))=f (gt l (x:Int)))->(l'.map f).sum+f (gt l (g:Int))=(l.map f).sum+f (gt l' (g:Int)):=by
 intro l
 induction l with
 |nil=>grind
 |cons a l ih=>
  intro l' g h hg hx;cases l' with
  |nil=>simp at h
  |cons b l'=>
   have hl:l'.length=l.length:=by grind
   simp only[Z8,List.sum_cons];cases g with
   |zero=>
    have:=Bqc f l l' hl fun x h=>by
     have:=hx (x+1) (by grind) (by omega)
     assumption
    rw[this]
    show f b+_+f a=f a+_+f b;omega
   |succ g=>
    have hg:g<l.length:=by grind
    have h0:f b=f a:=hx 0 (by simp) (by omega)
    have:=ih l' g hl hg fun x h hn=>by
     have:=hx (x+1) (by grind) (by omega)
     assumption
    grind [Bst]
theorem A6f{f:Ax->Nat}{l l':List Ax}{g:Int}(hl:l'.length=l.length)(hg:0≤g∧g<(l.length:Int))(hx: ∀x,0≤x∧x<(l.length:Int)->x≠g->f (gt l' x)=f (gt l x)):(l'.map f).sum+f (gt l g)=(l.map f).sum+f (gt l' g):=by
 have:=Bsu f l l' g.toNat hl (by omega) fun x h hn=>hx x ⟨by omega,by omega⟩ (by omega)
 rwa[show((g.toNat:Nat):Int)=g by omega]at this
theorem A6g (c:Fc){st:Int}(h:st≠1)(g:Int):wtN c (Ate st g)=0:=by unfold wtN Ate;rw[if_neg h]
structure Bhk (w w':Bm)(E:Int):Prop where
 inv:Inv w'
 mem: ∀x∈w'.fP.Fi,0≤x∧x≤255
 ep: ∀k,0≤k∧k<(w'.fL.length:Int)->EpP E (gt w'.fL k)
 pot:pot w'<pot w
 wt:wt w'≤wt w
 stay:A62 w w'
theorem Bhk.good{w w':Bm}{E:Int}(S:Bhk w w' E){n:Nat}(G:Er w E n):Er w' E n:=⟨S.inv,S.mem,S.ep,by have:=S.wt;have:=G.wt;omega⟩
theorem Bqd{w:Bm}{E:Int}{n:Nat}(G:Er w E n){x:A7}{qs:List A7}(hq:w.fQ=x::qs)(h0:0<x.De.length):Bhk w (A5o w x qs) E:=by
 have e:wtQ w.fC (Bp4 x)+1=wtQ w.fC x:=by
  grind [wtQ,Bp4]
 have ep:pot (A5o w x qs)+1=pot w:=by
  unfold pot;rw[hq]
  show(w.fL.map (wtN w.fC)).sum+((Bp4 x::qs).map (wtQ w.fC)).sum+1=_
  grind
 refine⟨Bsr G.inv hq h0,G.mem,G.ep,by omega,?_,Bb5 rfl rfl⟩
 unfold wt
 show pot (A5o w x qs)+(w.Jc++[_]).length≤_
 grind
theorem Bla{w:Bm}{E:Int}{n:Nat}(G:Er w E n){x:A7}{qs:List A7}(hq:w.fQ=x::qs)(hc:0<x.Ad.length):Bhk w (A4b w x qs) E:=by
 have X:=Bhj G.inv hq hc;obtain⟨b1,b2,b3,b4,b5,b6⟩:=A1 X.rc.conf
 have ht:=X.to
 have hd:=X.rc.done
 have e:wtQ w.fC (A5v w x)<wtQ w.fC x:=by
  have hm:w.fC.Ds.toNat*x.Ad.length=w.fC.Ds.toNat*(x.Ad.length - 1)+w.fC.Ds.toNat:=by
   conv=>lhs;rw[show x.Ad.length=x.Ad.length - 1+1 by omega]
   rfl
  grind [A5v,wtQ]
 have ep:pot (A4b w x qs)<pot w:=by
  unfold pot;rw[hq]
  show(w.fL.map (wtN w.fC)).sum+((A5v w x::qs).map (wtQ w.fC)).sum<_
  grind
 refine⟨Bp7 G.inv hq hc,Bp6 G.mem,G.ep,ep,?_,Bb5 rfl rfl⟩;unfold wt
 show pot (A4b w x qs)+w.Jc.length≤_;omega
theorem Bqe{w:Bm}(I:Inv w){t:Int->Lk}(A:AtT w.fL t)(F:Ajm w.fL.length t (A1c w.fQ)){x:A7}{qs:List A7}(hq:w.fQ=x::qs)(hf:x.Bw≠0):
  (∀y,0≤y∧y<(w.fL.length:Int)->y≠x.Bw - 1->gt (A4s w.fL (x.Bw - 1)) y=Bk9 (gt w.fL (x.Bw - 1)) (gt w.fL y) (x.Bw - 1) y)∧gt (A4s w.fL (x.Bw - 1)) (x.Bw - 1)=Ate 2 (gt w.fL (x.Bw - 1)).C5:=by
 have X:=Bdm I A F hq hf;exact⟨fun y hy hne=>Bja I.rg X.lv.1 hy hne X.pv (X.nf y hy),Bjb X.lv.1⟩
theorem Blb{w:Bm}{E:Int}{n:Nat}(G:Er w E n)(hE:0≤E){x:A7}{qs:List A7}(hq:w.fQ=x::qs)(hf:x.Bw≠0):Bhk w (Az5 w x qs) E:=by
 obtain⟨t,A,F⟩:=G.inv.forest
 have X:=Bdm G.inv A F hq hf;obtain⟨hg,hb⟩:=Bqe G.inv A F hq hf
 have hk:=X.lv.1
 have L:=G.inv.live A X.lv
 have I':=Bp9 G.inv hq hf
 have hN:=Bfh w.fL (x.Bw - 1)
 have hs:=A6f (f:=wtN w.fC) hN hk fun y hy hne=>by rw[hg y hy hne];rfl
 rw[hb,A6g _ (by decide)]at hs
 have e1:wtN w.fC (gt w.fL (x.Bw - 1))=2+(gt w.fL (x.Bw - 1)).De.length+w.fC.Ds.toNat*(gt w.fL (x.Bw - 1)).Ad.length:=by unfold wtN;rw[if_pos L.st]
 have e2:wtQ w.fC (Ajv (gt w.fL (x.Bw - 1)) x.Bw)=1+(gt w.fL (x.Bw - 1)).De.length+w.fC.Ds.toNat*(gt w.fL (x.Bw - 1)).Ad.length:=rfl
 have e3:wtQ w.fC (Bfg w.fL x)=wtQ w.fC x:=rfl
 have ep:pot (Az5 w x qs)<pot w:=by
  unfold pot;rw[hq]
  show((A4s w.fL (x.Bw - 1)).map (wtN w.fC)).sum+((Ajv (gt w.fL (x.Bw - 1)) x.Bw::Bfg w.fL x::qs).map (wtQ w.fC)).sum<_
  grind
 refine⟨I',?_,fun y hy=> ?_,ep,?_,?_⟩
 ·show ∀y∈(Als w.fP _).Fi,_;rw[(A4r G.inv hk).2.1];exact G.mem
 ·have hy:0≤y∧y<((A4s w.fL (x.Bw - 1)).length:Int):=hy;rw[hN]at hy
  show EpP E (gt (A4s w.fL (x.Bw - 1)) y)
  by_cases e:y=x.Bw - 1
  ·rw[e,hb];exact⟨hE,hE,⟨Int.le_refl 0,by show(0:Int)≤1000;omega⟩⟩
  ·rw[hg y hy e]
   have:=G.ep y hy;exact⟨this.ep,this.ue,this.cur⟩
 ·unfold wt
  show pot (Az5 w x qs)+w.Jc.length≤_;omega
 ·refine Bfi G.inv.rg I'.rg A (Bi9 A hk hN hg hb) F rfl hN fun y hy=> ?_
  have hne:y≠x.Bw - 1:=fun e=>hy.noOr (e ▸ X.or);exact⟨Byj X.or hy,by rw[An9 hne],_,_,_,hg y hy.lv.1 hne⟩
end Go.Proofs.YtgcnddnmhllahaaGreat
