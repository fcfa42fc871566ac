/- The plain law for FnExactDestroy; no condition. -/
import Derived.Test.YtjdblamhaljjbaaGreatFDestroyTb
import Derived.Test.YtjdblamhaljjbaaGreatFDestroyW
set_option linter.all false
namespace Go.Proofs.YtjdblamhaljjbaaGreat
open Go.Eng Go.ChangeShapes Go.WideShapes Go.ChangeAt Go.RowKit
theorem Ag7{i:Nat}(h:i≤140737488355328):Aoa .i64 (i:Int) 1=((i+1:Nat):Int):=by
 unfold Aoa;rw[IntKind.wrap_i64];omega
theorem Aeg{α:Type}[Inhabited α]{l:List α}{i:Nat}(h:i<l.length):gt l (i:Int)=l[i]:=by
 unfold gt;simp[h]
theorem Apl{α:Type}[Inhabited α]{l:List α}{i:Nat}(h:i<l.length):gt l (i:Int)∈l:=by
 rw[Aeg h];exact List.getElem_mem h
theorem Arc{α:Type}[Inhabited α]{l:List α}{i:Int}(h0:0≤i)(h:i<l.length):gt l i∈l:=by
 obtain⟨k,rfl⟩: ∃k:Nat,i=k:=⟨i.toNat,by omega⟩
 exact Apl (by omega)
theorem Afe{i k:Nat}(h:i<k):decide ((i:Int)<(k:Int))=true:=by simp;omega
theorem Agf{i k:Nat}(h:k≤i):decide ((i:Int)<(k:Int))=false:=by simp;omega
theorem A1w{α β:Type}[Inhabited α](a:List α)(f:α->Option β)(g:α->β)(hf: ∀x∈a,f x=some (g x))(ha:a.length≤140737488355328)
  (L:Nat->Int->List β->Option (List β)) (hL: ∀n i v,L (n+1) i v=bif decide (i<(a.length:Int))then(if(0:Int)≤i∧i<(a.length:Int)then(f (gt a i)).bind (fun r=>(if(0:Int)≤i∧i<(v.length:Int)then L n (Aoa .i64 i 1) (v.set i.toNat r)else none))else none)else some v):
  ∀(n i:Nat) (v:List β),i≤a.length->v.length=a.length->(∀j,j<i->v[j]? =(a.map g)[j]?)->a.length - i<n->L n (i:Int) v=some (a.map g):=by
 intro n
 induction n with
 |zero=>intro i v _ _ _ h;omega
 |succ n ih=>
  intro i v hi hv hj hn;rw[hL];rcases F9 i a.length with h|h
  ·rw[Afe h];simp only[cond_true];rw[if_pos ⟨by omega,by omega⟩,hf _ (Apl h)]
   simp only[Z0];rw[if_pos ⟨by omega,by omega⟩,Ag7 (by omega)]
   refine ih (i+1) _ h (by simpa using hv) (fun j hj2=> ?_) (by omega)
   rw[Int.toNat_natCast,V8]
   by_cases e:i=j
   ·subst e;rw[if_pos rfl,if_pos (by omega),Aeg h,Ca,Fa h];rfl
   ·rw[if_neg e];exact hj j (by omega)
  ·rw[Agf h];simp only[cond_false,Z7]
   have hia:i=a.length:=by omega
   refine List.ext_getElem? fun j=> ?_;rcases F9 j a.length with hja|hja
   ·exact hj j (by omega)
   ·rw[Z58 (by omega),Z58 (by simpa using hja)]
theorem Bmz{β:Type}[Inhabited β](a:List β)(e:β->β->Option Bool)(he: ∀x∈a,e x x=some true)(ha:a.length≤140737488355328)
  (L:Nat->Int->Option Bool) (hL: ∀n i,L (n+1) i=bif decide (i<(a.length:Int))then(if(0:Int)≤i∧i<(a.length:Int)then(if(0:Int)≤i∧i<(a.length:Int)then(e (gt a i) (gt a i)).bind (fun r=>bif r then L n (Aoa .i64 i 1)else some false)else none)else none)else some true):
  ∀(n i:Nat),i≤a.length->a.length - i<n->L n (i:Int)=some true:=by
 intro n
 induction n with
 |zero=>intro i _ h;omega
 |succ n ih=>
  intro i hi hn;rw[hL];rcases F9 i a.length with h|h
  ·rw[Afe h];simp only[cond_true];rw[if_pos ⟨by omega,by omega⟩,if_pos ⟨by omega,by omega⟩,he _ (Apl h),Ag7 (by omega)]
   simp only[Z0,cond_true];exact ih (i+1) h (by omega)
  ·rw[Agf h];rfl
theorem Bm0 (a:List Int)(ha:a.length≤140737488355328)
  (L:Nat->Int->Option Bool) (hL: ∀n i,L (n+1) i=bif decide (i<(a.length:Int))then(if(0:Int)≤i∧i<(a.length:Int)then(if(0:Int)≤i∧i<(a.length:Int)then(bif (gt a i != gt a i)then some false else L n (Aoa .i64 i 1))else none)else none)else some true):
  ∀(n i:Nat),i≤a.length->a.length - i<n->L n (i:Int)=some true:=by
 intro n
 induction n with
 |zero=>intro i _ h;omega
 |succ n ih=>
  intro i hi hn;rw[hL];rcases F9 i a.length with h|h
  ·rw[Afe h];simp only[cond_true];rw[if_pos ⟨by omega,by omega⟩,if_pos ⟨by omega,by omega⟩,Ag7 (by omega)]
   simp only[bne_self_eq_false,cond_false];exact ih (i+1) h (by omega)
  ·rw[Agf h];rfl
theorem Buy{α:Type}[Inhabited α](a:List α)(f:α->Int->Option Int)(hf: ∀x∈a,∀y,∃r,f x y=some r)(ha:a.length≤140737488355328)
  (L:Nat->Int->Int->Option Int) (hL: ∀n y i,L (n+1) y i=bif decide (i<(a.length:Int))then(if(0:Int)≤i∧i<(a.length:Int)then(f (gt a i) y).bind (fun r=>bif decide (r<0)then some (-1)else L n r (Aoa .i64 i 1))else none)else some y):
  ∀(n i:Nat) (y:Int),i≤a.length->a.length - i<n-> ∃r,L n y (i:Int)=some r:=by
 intro n
 induction n with
 |zero=>intro i _ _ h;omega
 |succ n ih=>
  intro i y hi hn;rw[hL];rcases F9 i a.length with h|h
  ·rw[Afe h];simp only[cond_true];obtain⟨r,hr⟩:=hf _ (Apl h) y;rw[if_pos ⟨by omega,by omega⟩,hr,Ag7 (by omega)]
   simp only[Z0];cases decide (r<0)with
   |true=>exact⟨_,rfl⟩
   |false=>exact ih (i+1) r h (by omega)
  ·rw[Agf h];exact⟨_,rfl⟩
theorem Ag4{n:Int}(h0: -9223372036854775808≤n)(h1:n≤9223372036854775807):IntKind.i64.wrap n=n:=by rw[IntKind.wrap_i64];omega
theorem Bdd (n:Int): -9223372036854775808≤IntKind.i64.wrap n∧IntKind.i64.wrap n≤9223372036854775807:=by rw[IntKind.wrap_i64];omega
theorem cc{α:Type}(b:Bool)(x:α):(bif b then x else x)=x:=by cases b<;>rfl
theorem Atg{a b:Int}(h: ¬a=b):(a != b)=true:=by simpa using h
theorem Aqr{a b:Int}(h: ¬a=b):(a==b)=false:=by simpa using h
def inB (x a b:Int):Bool:=decide (a≤x∧x≤b)
theorem Ayk{x a b:Int}:inB x a b=true ↔ a≤x∧x≤b:=by unfold inB;exact decide_eq_true_iff
theorem Bqe{x a b:Int}:inB x a b=false ↔ ¬(a≤x∧x≤b):=by unfold inB;exact decide_eq_false_iff_not
theorem Ajc (b:Bool)(x:Bool):(bif b then some x else some false)=some (b&&x):=by cases b<;>rfl
theorem Bag (b:Bool)(x:Bool):(bif b then some false else some x)=some (!b&&x):=by cases b<;>rfl
theorem Axx (b:Bool)(x:Bool):(bif b then some true else some x)=some (b||x):=by cases b<;>rfl
theorem Ac2{α:Type}(b:Bool)(x y:α):(bif !b then x else y)=(bif b then y else x):=by cases b<;>rfl
theorem Aje{i n:Nat}(h:i<n):((0:Int)≤(i:Int)∧(i:Int)<(n:Int)):=⟨by omega,by omega⟩
theorem Bx8{α:Type}(l:List α)(q:α->Bool)(fin:Option Bool)(L:Nat->Int->Option Bool)
  (hs: ∀n (i:Nat) (h:i<l.length),L (n+1) (i:Int)=bif q l[i]then L n ((i+1:Nat):Int)else some false)
  (he: ∀n,L (n+1) (l.length:Int)=fin):
  ∀(n i:Nat),i≤l.length->l.length - i<n->L n (i:Int)=bif (l.drop i).all q then fin else some false:=by
 intro n
 induction n with
 |zero=>intro i _ h;omega
 |succ n ih=>
  intro i hi hn;rcases F9 i l.length with h|h
  ·rw[hs n i h,Z47 h,F3];cases q l[i]with
   |false=>rfl
   |true=>rw[cond_true,ih (i+1) h (by omega)];rfl
  ·obtain rfl:i=l.length:=by omega
   rw[he,List.drop_length];rfl
theorem Ar8{α:Type}{K:Nat}(hK:281474976710656≤K)(l:List α)(hl:l.length≤140737488355328)(q:α->Bool)(fin:Option Bool)(L:Nat->Int->Option Bool)
  (hs: ∀n (i:Nat) (h:i<l.length),L (n+1) (i:Int)=bif q l[i]then L n ((i+1:Nat):Int)else some false)
  (he: ∀n,L (n+1) (l.length:Int)=fin):L K 0=bif l.all q then fin else some false:=by
 have:=Bx8 l q fin L hs he K 0 (Z21 _) (by omega)
 simpa using this
theorem Apw{K:Nat}(hK:281474976710656≤K)(N:Nat)(hl:N≤140737488355328)(q:Nat->Bool)(fin:Option Bool)(L:Nat->Int->Option Bool)
  (hs: ∀n (i:Nat) (h:i<N),L (n+1) (i:Int)=bif q i then L n ((i+1:Nat):Int)else some false)
  (he: ∀n,L (n+1) (N:Int)=fin):L K 0=bif (List.range N).all q then fin else some false:=by
 refine Ar8 hK (List.range N) (by simpa using hl) q fin L (fun n i h=> ?_) (fun n=> ?_)
 ·rw[List.getElem_range];exact hs n i (by simpa using h)
 ·rw[List.length_range];exact he n
theorem Bm1{α:Type}(l:List α)(q:α->Bool)(L:Nat->Int->Int->Option Int)
  (hs: ∀n (i:Nat) (h:i<l.length),L (n+1) (l.length:Int) (i:Int)=bif q l[i]then some (i:Int)else L n (l.length:Int) ((i+1:Nat):Int))
  (he: ∀n,L (n+1) (l.length:Int) (l.length:Int)=some (-1)):
  ∀(n i:Nat),i≤l.length->l.length - i<n-> ∃r,L n (l.length:Int) (i:Int)=some r∧decide (r≥0)=(l.drop i).any q:=by
 intro n
 induction n with
 |zero=>intro i _ h;omega
 |succ n ih=>
  intro i hi hn;rcases F9 i l.length with h|h
  ·rw[hs n i h,Z47 h,List.any_cons];cases q l[i]with
   |true=>exact⟨_,rfl,by simp⟩
   |false=>rw[cond_false,Z52];exact ih (i+1) h (by omega)
  ·obtain rfl:i=l.length:=by omega
   exact⟨_,he n,by simp⟩
theorem A0k{α:Type}[Inhabited α]{K:Nat}(hK:281474976710656≤K)(l:List α)(hl:l.length≤140737488355328)(f:α->Option Bool)(q:α->Bool)(hf: ∀x∈l,f x=some (q x))(L:Nat->Int->Int->Option Int)
  (hL: ∀n N i,L (n+1) N i=bif decide (i<N)then(if(0:Int)≤i∧i<(l.length:Int)then(f (gt l i)).bind (fun r=>bif r then some i else L n N (Aoa .i64 i 1))else none)else some (-1)):
  ((L K (l.length:Int) 0).bind fun r=>some (decide (r≥0)))=some (l.any q):=by
 obtain⟨r,h1,h2⟩:=Bm1 l q L (fun n i h=>by
  rw[hL,Afe h,cond_true,if_pos (Aje h),hf _ (Apl h),Aeg h,Z0,Ag7 (by omega)]) (fun n=>by rw[hL,Agf (Z9 _),cond_false]) K 0 (Z21 _) (by omega)
 rw[show((0:Nat):Int)=0 from rfl]at h1
 rw[h1,Z0,h2,Z55]
theorem Az9{K:Nat}(hK:281474976710656≤K)(l:List Int)(x:Int)(hl:l.length≤140737488355328):Ani K l x=some (l.contains x):=by
 unfold Ani Au2;obtain⟨r,h1,h2⟩:=Bm1 l (fun y=>x==y) (An2 K l x) (fun n i h=>by
  rw[An2,Afe h,cond_true,if_pos (Aje h),Aeg h,Ag7 (by omega)]) (fun n=>by rw[An2,Agf (Z9 _),cond_false]) K 0 (Z21 _) (by omega)
 rw[show((0:Nat):Int)=0 from rfl]at h1
 rw[h1,Z0,h2,Z55,List.contains_eq_any_beq]
theorem Axy{K:Nat}(hK:281474976710656≤K)(l:List Int)(x:Int)(hl:l.length≤140737488355328):Apu K l x=some (l.contains x):=by
 unfold Apu
 have h: ∀(n i:Nat),i≤l.length->l.length - i<n->As8 K l x n (i:Int)=some ((l.drop i).contains x):=by
  intro n
  induction n with
  |zero=>intro i _ h;omega
  |succ n ih=>
   intro i hi hn;rw[As8];rcases F9 i l.length with h|h
   ·rw[Afe h,cond_true,if_pos (Aje h),Aeg h,Ag7 (by omega),ih (i+1) h (by omega),Z47 h,List.contains_cons,Axx,Bool.beq_comm]
   ·rw[Agf h,cond_false,Z48 h];rfl
 have:=h K 0 (Z21 _) (by omega)
 simpa using this
theorem Asz (K:Nat)(x a b:Int):Abk K x a b=some (inB x a b):=by
 unfold Abk inB
 by_cases h:a≤x
 ·rw[decide_eq_true (show x≥a from h)];simp[h]
 ·rw[decide_eq_false (show ¬x≥a from h)];simp[h]
theorem Aty (K:Nat)(x a b:Int):Ac1 K x a b=some (inB x a b):=Asz K x a b
def Ap7 (c:Er):Bool:=inB c.Ae 2 12&&(inB c.Eg 8 16&&(inB c.C0 2 8&&(inB c.E9 1 8&&(inB c.C1 1 16&&inB c.Eh 1 4))))
theorem Aw9 (K:Nat)(c):Ard K c=some (Ap7 c):=by
 simp only[Ard,Asz,Z0,Ajc,Ap7]
theorem A0a (K:Nat)(c):Ask K c=some (Ap7 c):=Aw9 K c
theorem Ae1{c:Er}(h:Ap7 c=true):(2≤c.Ae∧c.Ae≤12)∧(8≤c.Eg∧c.Eg≤16)∧(2≤c.C0∧c.C0≤8)∧(1≤c.E9∧c.E9≤8)∧(1≤c.C1∧c.C1≤16)∧(1≤c.Eh∧c.Eh≤4):=by
 simpa only[Ap7,Z4,Ayk]using h
def Aqb (c:Er):Int:=bif Ap7 c then c.Ae*c.Eg else 0
theorem A1x{a b m n:Int}(h1:0≤a)(h2:a≤m)(h3:0≤b)(h4:b≤n):0≤a*b∧a*b≤m*n:=
 ⟨Int.mul_nonneg h1 h3,Int.mul_le_mul h2 h4 h3 (by omega)⟩
theorem Axq (K:Nat)(c):As3 K c=some (Aqb c):=by
 unfold As3 Aqb;rw[Aw9,Z0,Ac2];cases h:Ap7 c with
 |false=>rfl
 |true=>
  obtain⟨h1,h2,_⟩:=Ae1 h
  have:=A1x (a:=c.Ae) (b:=c.Eg) (m:=12) (n:=16) (by omega) h1.2 (by omega) h2.2
  simp only[cond_true,Aoc];rw[Ag4 (by omega) (by omega)]
theorem Azb (K:Nat)(c):Avp K c=some (Aqb c):=Axq K c
theorem Axz (c:Er):0≤Aqb c∧Aqb c≤192:=by
 unfold Aqb;cases h:Ap7 c with
 |false=>simp
 |true=>
  obtain⟨h1,h2,_⟩:=Ae1 h
  have:=A1x (a:=c.Ae) (b:=c.Eg) (m:=12) (n:=16) (by omega) h1.2 (by omega) h2.2
  simp only[cond_true];omega
section
variable {K:Nat} (hK:281474976710656≤K)
include hK
def Ay0 (l:List Int):Bool:=l.all (fun x=>x==0)
theorem A0b (l:List Int)(hl:l.length≤140737488355328):Asj K l=some (Ay0 l):=by
 unfold Asj;rw[Ar8 hK l hl (fun x=>x==0) (some true) (Aqw K l) (fun n i h=>by
  rw[Aqw,Afe h,cond_true,if_pos (Aje h),Aeg h,Ag7 (by omega)]
  cases e:l[i]==0<;>simp[bne,e]) (fun n=>by rw[Aqw,Agf (Z9 _),cond_false])]
 unfold Ay0;cases l.all (fun x=>x==0)<;>rfl
theorem A0c (l:List Int)(hl:l.length≤140737488355328):Asl K l=some (Ay0 l):=by
 unfold Asl Ak3 Alj;rw[A0k hK l hl (Axd K) (fun x=>x != 0) (fun x _=>rfl) (Ag9 K l) (fun n N i=>rfl)];simp only[Z0,Ay0,List.not_any_eq_all_not,Z7]
 congr 1
 funext x
 simp[bne]
end
def Ber (a b:Int):Int:=bif inB a 0 1000000000&&inB b 1 1000000000 then(a+b - 1) / b else 0
theorem Bah (K:Nat)(a b:Int):Avj K a b=some (Ber a b):=by
 unfold Avj Ber;rw[Asz,Asz,Z0];cases h1:inB a 0 1000000000 with
 |false=>rfl
 |true=>
  cases h2:inB b 1 1000000000 with
  |false=>rfl
  |true=>
   rw[Ayk]at h1 h2;simp only[Z0,cond_true,Bool.not_true,cond_false,Bool.and_self];rw[if_pos (by omega)]
   unfold Alr Aob Aoa;rw[Ag4 (n:=a+b) (by omega) (by omega),Ag4 (n:=a+b - 1) (by omega) (by omega)]
   rw[Int.tdiv_eq_ediv_of_nonneg (by omega)]
   have h3:(a+b - 1) / b≤a+b - 1:=Int.ediv_le_self _ (by omega)
   have h4:0≤(a+b - 1) / b:=Int.ediv_nonneg (by omega) (by omega)
   rw[Ag4 (by omega) (by omega)]
def Av3 (c:Er)(mem:List Int)(k:Int):List Int:=(mem.drop (k*c.Eg).toNat).take c.Eg.toNat
def Ayl (c:Er)(p:Dw)(k:Nat):Bool:=
 inB (gt p.Hh k) 0 2&&((bif gt p.Hh k==1 then inB (gt p.Fz k) 0 (c.C0 - 1)else gt p.Fz k== -1)&&(bif gt p.Hh k==0 then Ay0 (Av3 c p.Fy k)else true))
def Ava (c:Er)(p:Dw):Bool:=
 Ap7 c&&((p.Fy.length:Int)==Aqb c&&((p.Hh.length:Int)==c.Ae&&((p.Fz.length:Int)==c.Ae&&(List.range c.Ae.toNat).all (Ayl c p))))
theorem Awf{c:Er}{p:Dw}(h:Ava c p=true):Ap7 c=true∧(p.Fy.length:Int)=c.Ae*c.Eg∧(p.Hh.length:Int)=c.Ae∧(p.Fz.length:Int)=c.Ae∧ ∀k,k<c.Ae.toNat->Ayl c p k=true:=by
 simp only[Ava,Z4,beq_iff_eq,Z1,List.mem_range]at h;obtain⟨h1,h2,h3,h4,h5⟩:=h;refine⟨h1,?_,h3,h4,h5⟩;rw[h2,Aqb,h1];rfl
theorem A1y{c:Er}(hc:Ap7 c=true){mem:List Int}(hm:(mem.length:Int)=c.Ae*c.Eg){k:Int}(h0:0≤k)(h1:k<c.Ae):
  Aoc .i64 k c.Eg=k*c.Eg∧Aoc .i64 (Aoa .i64 k 1) c.Eg=k*c.Eg+c.Eg∧0≤k*c.Eg∧k*c.Eg+c.Eg≤(mem.length:Int):=by
 obtain⟨b1,b2,_⟩:=Ae1 hc
 have m1:=A1x (a:=k) (b:=c.Eg) (m:=12) (n:=16) h0 (by omega) (by omega) b2.2
 have e2:(k+1)*c.Eg=k*c.Eg+c.Eg:=by rw[Int.add_mul,Int.one_mul]
 have m2:(k+1)*c.Eg≤c.Ae*c.Eg:=Int.mul_le_mul_of_nonneg_right (by omega) (by omega)
 rw[e2]at m2;refine⟨?_,?_,m1.1,by omega⟩
 ·unfold Aoc;exact Ag4 (by omega) (by omega)
 ·unfold Aoc Aoa;rw[Ag4 (n:=k+1) (by omega) (by omega),e2,Ag4 (by omega) (by omega)]
section
variable {K:Nat} (hK:281474976710656≤K)
include hK
theorem A6g{c:Er}(hc:Ap7 c=true){p:Dw}(hm:(p.Fy.length:Int)=c.Ae*c.Eg){k:Int}(h0:0≤k)(h1:k<c.Ae):Aq4 K p c k=some (Av3 c p.Fy k):=by
 obtain⟨e1,e2,e3,e4⟩:=A1y hc hm h0 h1;obtain⟨b1,b2,_⟩:=Ae1 hc;unfold Aq4;rw[e1,e2,if_pos ⟨e3,by omega,e4⟩]
 unfold Av3;rw[show k*c.Eg+c.Eg - k*c.Eg=c.Eg by omega]
theorem Bbp (c:Er)(p:Dw):Awn K c p=some (Ava c p):=by
 unfold Awn;rw[Aw9,Axq];simp only[Z0];cases hc:Ap7 c with
 |false=>simp[Ava,hc]
 |true=>
 obtain⟨b1,b2,b3,_⟩:=Ae1 hc
 have hby:Aqb c=c.Ae*c.Eg:=by rw[Aqb,hc];rfl
 simp only[cond_true,Ava,hc,Z30,bne];cases h1:(p.Fy.length:Int)==Aqb c with
 |false=>rfl
 |true=>
 cases h2:(p.Hh.length:Int)==c.Ae with
 |false=>rfl
 |true=>
 cases h3:(p.Fz.length:Int)==c.Ae with
 |false=>rfl
 |true=>
 rw[beq_iff_eq]at h1 h2 h3
 have hN:((c.Ae.toNat:Nat):Int)=c.Ae:=by omega
 simp only[Bool.not_true,cond_false,Z30];rw[Apw hK c.Ae.toNat (by omega) (Ayl c p) (some true) (fun n i=>Alf K c n i p.Fy p.Hh p.Fz) (fun n i h=> ?_) (fun n=> ?_)]
 ·cases (List.range c.Ae.toNat).all (Ayl c p)<;>rfl
 ·obtain⟨e1,e2,e3,e4⟩:=A1y hc (h1.trans hby) (k:=(i:Int)) (by omega) (by omega)
  have hl:(List.take (i*c.Eg+c.Eg - i*c.Eg).toNat (List.drop (i*c.Eg).toNat p.Fy)).length≤140737488355327:=by simp;omega
  have hs:Aob .i64 c.C0 1=c.C0 - 1:=by unfold Aob;rw[Ag4 (by omega) (by omega)]
  have hck:List.take (i*c.Eg+c.Eg - i*c.Eg).toNat (List.drop (i*c.Eg).toNat p.Fy)=Av3 c p.Fy i:=by
   unfold Av3;rw[show(i:Int)*c.Eg+c.Eg - i*c.Eg=c.Eg by omega]
  simp only[Alf,Aqx,Aue];rw[e1,e2,Ag7 (by omega),decide_eq_true (show(i:Int)<c.Ae by omega),cond_true,if_pos ⟨by omega,by omega⟩,Asz,Asz,hs,A0b hK _ (by omega),hck]
  simp only[Z0,bne,show((0:Int)≤(i:Int)∧(i:Int)<(p.Hh.length:Int))=True from eq_true ⟨by omega,by omega⟩,show((0:Int)≤(i:Int)∧(i:Int)<(p.Fz.length:Int))=True from eq_true ⟨by omega,by omega⟩,if_true,if_pos (show(0:Int)≤i*c.Eg∧(i:Int)*c.Eg≤i*c.Eg+c.Eg∧(i:Int)*c.Eg+c.Eg≤(p.Fy.length:Int) from⟨e3,by omega,e4⟩)]
  unfold Ayl;cases inB (gt p.Hh i) 0 2<;>cases (gt p.Hh (i:Int)==1)<;>cases inB (gt p.Fz i) 0 (c.C0 - 1)<;>cases (gt p.Fz (i:Int)== -1)<;>cases (gt p.Hh (i:Int)==0)<;>cases Ay0 (Av3 c p.Fy i)<;>rfl
 ·show Alf K c (n+1) _ _ _ _=_;rw[Alf,hN,decide_eq_false (by omega),cond_false]
theorem Bbq (c:Er)(p:Dw):Aws K c p=some (Ava c p):=by
 unfold Aws;rw[A0a,Azb];simp only[Z0];cases hc:Ap7 c with
 |false=>simp[Ava,hc]
 |true=>
 obtain⟨b1,b2,b3,_⟩:=Ae1 hc
 have hby:Aqb c=c.Ae*c.Eg:=by rw[Aqb,hc];rfl
 simp only[cond_true,Ava,hc,Z30,bne];cases h1:(p.Fy.length:Int)==Aqb c with
 |false=>rfl
 |true=>
 cases h2:(p.Hh.length:Int)==c.Ae with
 |false=>rfl
 |true=>
 cases h3:(p.Fz.length:Int)==c.Ae with
 |false=>rfl
 |true=>
 rw[beq_iff_eq]at h1 h2 h3
 have hN:((c.Ae.toNat:Nat):Int)=c.Ae:=by omega
 simp only[Bool.not_true,cond_false,Z30];rw[Apw hK c.Ae.toNat (by omega) (Ayl c p) (some true) (fun n i=>Ai8 K c n p.Hh (p.Hh.length:Int) i p.Fy p.Hh p.Fz) (fun n i h=> ?_) (fun n=> ?_)]
 ·cases (List.range c.Ae.toNat).all (Ayl c p)<;>rfl
 ·have hs:Aob .i64 c.C0 1=c.C0 - 1:=by unfold Aob;rw[Ag4 (by omega) (by omega)]
  have hl:(Av3 c p.Fy i).length≤140737488355327:=by unfold Av3;simp;omega
  simp only[Ai8,Ap3,Auo];rw[A6g hK hc (h1.trans hby) (by omega) (by omega),Ag7 (by omega),decide_eq_true (show(i:Int)<(p.Hh.length:Int)by omega),cond_true,if_pos ⟨by omega,by omega⟩,Aty,Aty,hs]
  simp only[Z0,A0c hK _ (show(Av3 c p.Fy i).length≤140737488355328 by omega),bne,show((0:Int)≤(i:Int)∧(i:Int)<(p.Fz.length:Int))=True from eq_true ⟨by omega,by omega⟩,if_true]
  unfold Ayl;cases inB (gt p.Hh i) 0 2<;>cases (gt p.Hh (i:Int)==1)<;>cases inB (gt p.Fz i) 0 (c.C0 - 1)<;>cases (gt p.Fz (i:Int)== -1)<;>cases (gt p.Hh (i:Int)==0)<;>cases Ay0 (Av3 c p.Fy i)<;>rfl
 ·show Ai8 K c (n+1) _ _ _ _ _ _=_;rw[Ai8,hN,decide_eq_false (by omega),cond_false]
end
def Aw0 (c:Er)(t:A9):Prop:=Ap7 c=true∧1≤t.Vu∧0≤t.fAt∧t.fAt+t.Vu≤Aqb c
instance (c t):Decidable (Aw0 c t):=by unfold Aw0;infer_instance
def Ar9 (c:Er)(t:A9):Bool:=
 decide (Aw0 c t)&&(bif t.Vv==0 then decide (t.Vu≤c.Eg)&&(t.fAt / c.Eg==(t.fAt+t.Vu - 1) / c.Eg)else decide (t.Vu>c.Eg)&&(t.Vv==Ber t.Vu c.Eg&&t.fAt % c.Eg==0))
theorem A6h (K:Nat){c:Er}{t:A9}(h:Aw0 c t):
  (bif (t.Vv==0)then(bif (decide (t.Vu≤c.Eg))then(if c.Eg≠(0:Int)then(if c.Eg≠(0:Int)then some ((Alr .i64 t.fAt c.Eg)==(Alr .i64 (Aob .i64 (Aoa .i64 t.fAt t.Vu) 1) c.Eg))else none)else none)else some false)else((Avi K c t.Vu).bind fun r2=>(bif r2 then((Atq K c t.Vu).bind fun r3=>(bif (t.Vv==r3)then(if c.Eg≠(0:Int)then some ((Int.tmod t.fAt c.Eg)==0)else none)else some false))else some false)))=some (Ar9 c t):=by
 have hd:decide (Aw0 c t)=true:=decide_eq_true h;obtain⟨hc,h1,h2,h3⟩:=h
 have hb:=Axz c;obtain⟨b1,b2,_⟩:=Ae1 hc;unfold Ar9 Avi Atq;rw[hd,if_pos (by omega),if_pos (by omega),Bah]
 have e1:Aob .i64 (Aoa .i64 t.fAt t.Vu) 1=t.fAt+t.Vu - 1:=by
  unfold Aob Aoa;rw[Ag4 (n:=t.fAt+t.Vu) (by omega) (by omega),Ag4 (by omega) (by omega)]
 have e2: ∀x:Int,0≤x->x≤192->Alr .i64 x c.Eg=x / c.Eg:=by
  intro x h0 hx;unfold Alr;rw[Int.tdiv_eq_ediv_of_nonneg h0]
  have h3:x / c.Eg≤x:=Int.ediv_le_self _ h0
  have h4:0≤x / c.Eg:=Int.ediv_nonneg h0 (by omega)
  rw[Ag4 (by omega) (by omega)]
 rw[e1,e2 _ h2 (by omega),e2 _ (by omega) (by omega),Int.tmod_eq_emod_of_nonneg h2]
 simp only[Z0,if_pos (show c.Eg≠0 by omega)]
 cases t.Vv==0<;>cases decide (t.Vu≤c.Eg)<;>cases decide (t.Vu>c.Eg)<;>cases t.Vv==Ber t.Vu c.Eg<;>rfl
theorem Bbr{c:Er}{t:A9}(h: ¬Aw0 c t):Ar9 c t=false:=by
 unfold Ar9;rw[decide_eq_false h];rfl
theorem A1z (K:Nat)(c:Er)(t:A9):Arl K c t=some (Ar9 c t):=by
 have hb:=Axz c
 by_cases h:Aw0 c t
 ·rw[←A6h K h];obtain⟨hc,h1,h2,h3⟩:=h;unfold Arl;rw[Axq,Z0,Aqr (by omega),decide_eq_false (by omega),decide_eq_false (by omega),decide_eq_false (by omega)]
  unfold Aob;rw[Ag4 (by omega) (by omega),decide_eq_false (show ¬t.Vu>Aqb c - t.fAt by omega)]
  simp only[cond_false]
  try rfl
 ·rw[Bbr h];unfold Arl;rw[Axq,Z0]
  by_cases g0:Aqb c=0
  ·rw[g0];rfl
  ·have hc:Ap7 c=true:=by
    cases hc:Ap7 c with
    |true=>rfl
    |false=>exact absurd (by unfold Aqb;rw[hc];rfl) g0
   rw[Aqr g0,cond_false]
   by_cases g1:t.Vu<1
   ·rw[decide_eq_true g1];rfl
   ·by_cases g2:t.fAt<0
    ·rw[decide_eq_false g1,decide_eq_true g2];rfl
    ·by_cases g3:t.fAt>Aqb c
     ·rw[decide_eq_false g1,decide_eq_false g2,decide_eq_true g3];rfl
     ·rw[decide_eq_false g1,decide_eq_false g2,decide_eq_false g3];unfold Aob;rw[Ag4 (by omega) (by omega),decide_eq_true (show t.Vu>Aqb c - t.fAt from ?_)]
      ·rfl
      ·refine Classical.byContradiction fun g4=>h ⟨hc,by omega,by omega,by omega⟩
theorem A10 (K:Nat)(c:Er)(t:A9):Arq K c t=some (Ar9 c t):=by
 have hb:=Axz c
 by_cases h:Aw0 c t
 ·rw[←A6h K h];obtain⟨hc,h1,h2,h3⟩:=h;unfold Arq;rw[Azb,Z0,decide_eq_false (by omega),decide_eq_false (by omega),decide_eq_false (by omega)]
  unfold Aob;rw[Ag4 (by omega) (by omega),decide_eq_false (show ¬t.fAt>Aqb c - t.Vu by omega)]
  simp only[cond_false]
  try rfl
 ·rw[Bbr h];unfold Arq;rw[Azb,Z0]
  by_cases g1:t.Vu≤0
  ·rw[decide_eq_true g1];rfl
  ·by_cases g2:t.fAt<0
   ·rw[decide_eq_false g1,decide_eq_true g2];rfl
   ·by_cases g3:t.Vu>Aqb c
    ·rw[decide_eq_false g1,decide_eq_false g2,decide_eq_true g3];rfl
    ·rw[decide_eq_false g1,decide_eq_false g2,decide_eq_false g3]
     have hc:Ap7 c=true:=by
      cases hc:Ap7 c with
      |true=>rfl
      |false=>exfalso;unfold Aqb at g3;rw[hc]at g3;simp only[cond_false]at g3;omega
     unfold Aob;rw[Ag4 (by omega) (by omega),decide_eq_true (show t.fAt>Aqb c - t.Vu from ?_)]
     ·rfl
     ·refine Classical.byContradiction fun g4=>h ⟨hc,by omega,by omega,by omega⟩
theorem A6i{α:Type}(l:List α)(i:Nat):(l.drop (0:Int).toNat).take ((i:Int) - 0).toNat=l.take i:=by simp
theorem Bbs{i n:Nat}(h:i≤n):((0:Int)≤0∧(0:Int)≤(i:Int)∧(i:Int)≤(n:Int)):=⟨by omega,by omega,by omega⟩
def Av4 (c:Er)(l:List Int):Bool:=(List.range l.length).all (fun i=>inB (gt l i) 0 (c.Ae - 1)&& !(l.take i).contains (gt l i))
def A6j (n:Ba):Bool:=
 n.Ly==0&&(n.fUp==0&&(n.Gq==0&&(n.Bt==0&&(n.Gr==0&&(n.Gs==0&&((n.Ae.length:Int)==0&&(n.Pq==0&&(n.Gt==0&&((n.Ea.length:Int)==0&&(n.Dg.length:Int)==0)))))))))
theorem Bf5 (K:Nat)(n):Aye K n=some (A6j n):=by
 simp only[Aye,Ajc,A6j]
theorem Bf6{K:Nat}(hK:1≤K)(l:List Int):Ai3 K l []=some ((l.length:Int)==0):=by
 obtain⟨k,rfl⟩: ∃k,K=k+1:=⟨K - 1,by omega⟩
 cases l with
 |nil=>unfold Ai3;rw[Ai1];rfl
 |cons x l=>unfold Ai3;rw[Atg (by simp only[Y9,List.length_nil];omega),cond_true,Aqr (by simp only[Y9];omega)]
theorem Bde{K:Nat}(hK:1≤K)(l:List A9):Al3 K l []=some ((l.length:Int)==0):=by
 obtain⟨k,rfl⟩: ∃k,K=k+1:=⟨K - 1,by omega⟩
 cases l with
 |nil=>unfold Al3;rw[An6];rfl
 |cons x l=>unfold Al3;rw[Atg (by simp only[Y9,List.length_nil];omega),cond_true,Aqr (by simp only[Y9];omega)]
theorem Bf7{K:Nat}(hK:1≤K)(n):Ayj K n=some (A6j n):=by
 unfold Ayj Axe;simp only[beq_self_eq_true,cond_true,Bf6 hK,Bde hK,Z0,Ajc,A6j]
def Bdf (c:Er)(n:Ba):Bool:=bif n.Pq==0 then n.Gt==0 else n.Ae.contains (Aob .i64 n.Pq 1)&&inB n.Gt 0 c.Eg
def A7x (c:Er)(n:Ba):Bool:=
 (inB n.fUp 0 c.C0&&(inB n.Bt 0 c.C0&&(inB n.Gr 0 c.C0&&inB n.Gs 0 c.C0)))&&((!decide (n.Ly<0)&& !decide (n.Gq<0))&&((Av4 c n.Ae&&Bdf c n)&&((decide ((n.Ea.length:Int)≤12)&&decide ((n.Dg.length:Int)≤6))&&(n.Dg.all (fun x=>inB x 0 255)&&n.Ea.all (Ar9 c)))))
def Axg (c:Er)(n:Ba):Bool:=Ap7 c&&(inB n.Hh 0 3&&(inB n.C2 1 c.Eh&&(bif n.Hh != 1 then A6j n else A7x c n)))
section
variable {K:Nat} (hK:281474976710656≤K)
include hK
theorem A24{c:Er}(hc:Ap7 c=true):Aob .i64 c.Ae 1=c.Ae - 1:=by
 obtain⟨b1,_⟩:=Ae1 hc;unfold Aob;rw[Ag4 (by omega) (by omega)]
theorem A0s{c:Er}(hc:Ap7 c=true)(l:List Int)(hl:l.length≤140737488355327):Asg K c l=some (Av4 c l):=by
 unfold Asg;rw[Apw hK l.length (by omega) (fun i=>inB (gt l i) 0 (c.Ae - 1)&& !(l.take i).contains (gt l i)) (some true) (fun n i=>Apb K c l n l (l.length:Int) i) (fun n i h=> ?_) (fun n=> ?_)]
 ·unfold Av4;cases (List.range l.length).all _<;>rfl
 ·have hp:(l.take i).length≤140737488355328:=by simp;omega
  simp only[Apb];rw[Afe h,cond_true,if_pos (Aje h),Aty,if_pos (Bbs (by omega)),A6i,Az9 hK _ _ hp,Ag7 (by omega),A24 hK hc]
  simp only[Z0];cases inB (gt l i) 0 (c.Ae - 1)<;>cases (l.take i).contains (gt l i)<;>rfl
 ·show Apb K c l (n+1) _ _ _=_;rw[Apb,Agf (Z9 _),cond_false]
theorem A7e{c:Er}(hc:Ap7 c=true)(n:Ba)(hl:n.Ae.length≤140737488355327):Auh K c n=some (Av4 c n.Ae&&Bdf c n):=by
 unfold Auh;rw[Apw hK n.Ae.length (by omega) (fun i=>inB (gt n.Ae i) 0 (c.Ae - 1)&& !(n.Ae.take i).contains (gt n.Ae i)) (some (Bdf c n)) (fun k i=>Ao0 K c k i n.Hh n.C2 n.Ly n.fUp n.Gq n.Bt n.Gr n.Gs n.Ae n.Pq n.Gt n.Ea n.Dg) (fun k i h=> ?_) (fun k=> ?_)]
 ·rw[Ajc];rfl
 ·have hp:(n.Ae.take i).length≤140737488355328:=by simp;omega
  simp only[Ao0];rw[Afe h,cond_true,if_pos (Aje h),Asz,if_pos (Bbs (by omega)),A6i,Axy hK _ _ hp,Ag7 (by omega),A24 hK hc]
  simp only[Z0,if_pos (Aje h)];cases inB (gt n.Ae i) 0 (c.Ae - 1)<;>cases (n.Ae.take i).contains (gt n.Ae i)<;>rfl
 ·show Ao0 K c (k+1) _ _ _ _ _ _ _ _ _ _ _ _ _ _=_;rw[Ao0,Agf (Z9 _),cond_false,Axy hK _ _ (by omega),Asz]
  unfold Bdf;simp only[Z0,Ajc];cases n.Pq==0<;>rfl
theorem Ayu (l:List Int)(hl:l.length≤140737488355328):Aqz K l=some (l.all (fun x=>inB x 0 255)):=by
 unfold Aqz Ajb Alc;rw[A0k hK l hl (Ast K) (fun x=> !inB x 0 255) (fun x _=>by simp[Ast,Aty]) (Ag5 K l) (fun n N i=>rfl)]
 simp only[Z0,List.not_any_eq_all_not,Bool.not_not]
theorem Bbt (c:Er)(n:Ba)(h1:n.Ae.length≤140737488355327)(h2:n.Ea.length≤140737488355327)(h3:n.Dg.length≤140737488355327):Awp K c n=some (Axg c n):=by
 unfold Awp;rw[Aw9,Bf5];simp only[Z0,Asz];cases hc:Ap7 c with
 |false=>simp[Axg,hc]
 |true=>
 rw[A7e hK hc n h1]
 have hA:Ap0 K n.Dg K 0=some (n.Dg.all (fun x=>inB x 0 255)):=by
  rw[Ar8 hK n.Dg (by omega) (fun x=>inB x 0 255) (some true) (Ap0 K n.Dg) (fun k i h=> ?_) (fun k=> ?_)]
  ·cases n.Dg.all (fun x=>inB x 0 255)<;>rfl
  ·rw[Ap0,Afe h,cond_true,if_pos (Aje h),Aeg h,Asz,Ag7 (by omega),Z0,Ac2]
  ·rw[Ap0,Agf (Z9 _),cond_false]
 have hB:Api K c K 0 n.Hh n.C2 n.Ly n.fUp n.Gq n.Bt n.Gr n.Gs n.Ae n.Pq n.Gt n.Ea n.Dg=some (n.Dg.all (fun x=>inB x 0 255)&&n.Ea.all (Ar9 c)):=by
  rw[Ar8 hK n.Ea (by omega) (Ar9 c) (some (n.Dg.all (fun x=>inB x 0 255))) (fun k i=>Api K c k i n.Hh n.C2 n.Ly n.fUp n.Gq n.Bt n.Gr n.Gs n.Ae n.Pq n.Gt n.Ea n.Dg) (fun k i h=> ?_) (fun k=> ?_)]
  ·rw[Ajc,Bool.and_comm]
  ·simp only[Api];rw[Afe h,cond_true,if_pos (Aje h),Aeg h,A1z,Ag7 (by omega),Z0,Ac2]
  ·show Api K c (k+1) _ _ _ _ _ _ _ _ _ _ _ _ _ _=_;rw[Api,Agf (Z9 _),cond_false,hA]
 rw[hB]
 have e12:decide ((n.Ea.length:Int)>12)= !decide ((n.Ea.length:Int)≤12):=by rw[←decide_not];congr 1;simp
 have e6:decide ((n.Dg.length:Int)>6)= !decide ((n.Dg.length:Int)≤6):=by rw[←decide_not];congr 1;simp
 simp only[Z0,cond_true,e12,e6,Ac2,Ajc,Bag];unfold Axg A7x;rw[hc];cases n.Hh != 1 with
 |true=>simp only[cond_true,Ajc,Z30]
 |false=>
  simp only[cond_false,Ajc,Z30,Z7]
  ac_rfl
theorem Bbu (c:Er)(n:Ba)(h1:n.Ae.length≤140737488355327)(h2:n.Ea.length≤140737488355327)(h3:n.Dg.length≤140737488355327):Awt K c n=some (Axg c n):=by
 unfold Awt;rw[A0a,Bf7 (by omega)]
 simp only[Z0,Aty];cases hc:Ap7 c with
 |false=>simp[Axg,hc]
 |true=>
 have hT:Aiq K n.Ea c=some (n.Ea.any (fun t=> !Ar9 c t)):=
  A0k hK n.Ea (by omega) (fun t=>Aup K t c) (fun t=> !Ar9 c t) (fun x _=>by simp[Aup,A10]) (Ae9 K n.Ea c) (fun n N i=>rfl)
 have hJ:Ap4 K c n.Ea n.Dg=some ((decide ((n.Ea.length:Int)≤12)&&decide ((n.Dg.length:Int)≤6))&&(n.Dg.all (fun x=>inB x 0 255)&&n.Ea.all (Ar9 c))):=by
  unfold Ap4;rw[hT,Ayu hK _ (by omega)]
  simp only[Z0,Ajc,List.not_any_eq_all_not,Bool.not_not,Z7]
  ac_rfl
 obtain⟨_,b2,_⟩:=Ae1 hc
 have hB:Apj K c K ([n.fUp,n.Bt,n.Gr,n.Gs]:List Int) (([n.fUp,n.Bt,n.Gr,n.Gs]:List Int).length:Int) 0 n.Hh n.C2 n.Ly n.fUp n.Gq n.Bt n.Gr n.Gs n.Ae n.Pq n.Gt n.Ea n.Dg=some (A7x c n):=by
  rw[Ar8 hK ([n.fUp,n.Bt,n.Gr,n.Gs]:List Int) (by simp) (fun x=>inB x 0 c.C0) (some ((!decide (n.Ly<0)&& !decide (n.Gq<0))&&((Av4 c n.Ae&&Bdf c n)&&((decide ((n.Ea.length:Int)≤12)&&decide ((n.Dg.length:Int)≤6))&&(n.Dg.all (fun x=>inB x 0 255)&&n.Ea.all (Ar9 c)))))) (fun k i=>Apj K c k ([n.fUp,n.Bt,n.Gr,n.Gs]:List Int) (([n.fUp,n.Bt,n.Gr,n.Gs]:List Int).length:Int) i n.Hh n.C2 n.Ly n.fUp n.Gq n.Bt n.Gr n.Gs n.Ae n.Pq n.Gt n.Ea n.Dg) (fun k i h=> ?_) (fun k=> ?_)]
  ·unfold A7x;rw[Ajc];simp only[F3,List.all_nil,Bool.and_true]
  ·simp only[Apj];rw[Afe h,cond_true,if_pos (Aje h),Aeg h,Aty,Ag7 (by simp at h ⊢;omega),Z0,Ac2]
  ·show Apj K c (k+1) _ _ _ _ _ _ _ _ _ _ _ _ _ _ _ _=_;rw[Apj,Agf (Z9 _),cond_false,hJ,A0s hK hc _ h1,Az9 hK _ _ (by omega),Aty]
   simp only[Z0,bne,Ac2,Ajc,Bag];unfold Bdf
   have hz:(n.Gt==0)=true->inB n.Gt 0 c.Eg=true:=by
    intro h;rw[beq_iff_eq]at h;rw[Ayk];omega
   cases e0:n.Pq==0 with
   |true=>
    simp only[cond_true,Ajc,Bag,Bool.not_not,Ac2,cond_false];cases e1:n.Gt==0 with
    |true=>rw[hz e1];simp only[Z30,Bool.and_true];simp only[Z7];ac_rfl
    |false=>cases inB n.Gt 0 c.Eg<;>cases decide (n.Ly<0)<;>cases decide (n.Gq<0)<;>cases Av4 c n.Ae<;>rfl
   |false=>
    simp only[cond_false,Ajc,Bag,Z7]
    ac_rfl
 rw[hB];simp only[cond_true,Ac2,Ajc];unfold Axg;rw[hc];cases n.Hh != 1<;>simp only[cond_true,cond_false,Ajc,Z30]
end
theorem Bes{α β:Type}(l:List α)(q:α->Bool)(fin bad:Option β)(L:Nat->Int->Option β)
  (hs: ∀n (i:Nat) (h:i<l.length),L (n+1) (i:Int)=bif q l[i]then L n ((i+1:Nat):Int)else bad)
  (he: ∀n,L (n+1) (l.length:Int)=fin):
  ∀(n i:Nat),i≤l.length->l.length - i<n->L n (i:Int)=bif (l.drop i).all q then fin else bad:=by
 intro n
 induction n with
 |zero=>intro i _ h;omega
 |succ n ih=>
  intro i hi hn;rcases F9 i l.length with h|h
  ·rw[hs n i h,Z47 h,F3];cases q l[i]with
   |false=>rfl
   |true=>rw[cond_true,ih (i+1) h (by omega)];rfl
  ·obtain rfl:i=l.length:=by omega
   rw[he,List.drop_length];rfl
theorem Bf8{β:Type}{K:Nat}(hK:281474976710656≤K)(N:Nat)(hl:N≤140737488355328)(q:Nat->Bool)(fin bad:Option β)(L:Nat->Int->Option β)
  (hs: ∀n (i:Nat) (h:i<N),L (n+1) (i:Int)=bif q i then L n ((i+1:Nat):Int)else bad)
  (he: ∀n,L (n+1) (N:Int)=fin):L K 0=bif (List.range N).all q then fin else bad:=by
 have:=Bes (List.range N) q fin bad L (fun n i h=>by rw[List.getElem_range];exact hs n i (by simpa using h)) (fun n=>by rw[List.length_range];exact he n) K 0 (Z21 _) (by simp;omega)
 simpa using this
def Ax0 (t:A9):Prop:=0≤t.fAt∧t.fAt≤200∧0≤t.Vu∧t.Vu≤200
theorem Bbv{c:Er}{t:A9}(h:Ar9 c t=true):Ax0 t∧Aw0 c t:=by
 have h1:Aw0 c t:=by
  unfold Ar9 at h;rw[Z4]at h;exact of_decide_eq_true h.1
 have hb:=Axz c;obtain⟨h2,h3,h4,h5⟩:=h1;exact⟨⟨h4,by omega,by omega,by omega⟩,h2,h3,h4,h5⟩
def Apx (a b:A9):Bool:=decide (a.Vu≤0∨b.Vu≤0∨a.fAt+a.Vu≤b.fAt∨b.fAt+b.Vu≤a.fAt)
theorem Bbw (a b:A9):Apx a b=Apx b a:=by
 unfold Apx;rw[decide_eq_decide];omega
theorem Bdg (K:Nat){a b:A9}(ha:Ax0 a)(hb:Ax0 b):Axk K a b=some (Apx a b):=by
 obtain⟨a1,a2,a3,a4⟩:=ha;obtain⟨b1,b2,b3,b4⟩:=hb;unfold Axk Aob;rw[Ag4 (n:=b.fAt - a.fAt) (by omega) (by omega),Ag4 (n:=a.fAt - b.fAt) (by omega) (by omega)]
 simp only[Axx]
 have: ∀x:Bool,x=Apx a b->some x=some (Apx a b):=fun x h=>by rw[h]
 by_cases h:a.fAt≤b.fAt
 ·rw[decide_eq_true h,cond_true,Axx,Axx];refine this _ ?_;rw[Bool.eq_iff_iff];simp only[Apx,Bool.or_eq_true,decide_eq_true_eq];omega
 ·rw[decide_eq_false h,cond_false,Axx,Axx];refine this _ ?_;rw[Bool.eq_iff_iff];simp only[Apx,Bool.or_eq_true,decide_eq_true_eq];omega
theorem A6k (K:Nat){a b:A9}(ha:Ax0 a)(hb:Ax0 b):Avs K a b=some (Apx a b):=by
 obtain⟨a1,a2,a3,a4⟩:=ha;obtain⟨b1,b2,b3,b4⟩:=hb;unfold Avs Avr Aob;simp only[IntKind.wrap_u64]
 have: ∀x:Bool,x=Apx a b->some x=some (Apx a b):=fun x h=>by rw[h]
 by_cases h:a.fAt>b.fAt
 ·rw[decide_eq_true h,cond_true,Axx,Axx];refine this _ ?_;rw[Bool.eq_iff_iff];simp only[Apx,Bool.or_eq_true,decide_eq_true_eq];omega
 ·rw[decide_eq_false h,cond_false,Axx,Axx];refine this _ ?_;rw[Bool.eq_iff_iff];simp only[Apx,Bool.or_eq_true,decide_eq_true_eq];omega
def Awg (l:List A9):Bool:=(List.range l.length).all (fun i=>(l.take i).all (fun o=>Apx o (gt l i)))
def Ay1 (c:Er)(chunks:List Int)(t:A9):Bool:=
 Ar9 c t&&(List.range ((t.fAt+t.Vu - 1) / c.Eg - t.fAt / c.Eg+1).toNat).all (fun j=>chunks.contains (t.fAt / c.Eg+(j:Int)))
theorem A7y{c:Er}{t:A9}(h:Ar9 c t=true):
  c.Eg≠0∧Alr .i64 t.fAt c.Eg=t.fAt / c.Eg∧Alr .i64 (Aob .i64 (Aoa .i64 t.fAt t.Vu) 1) c.Eg=(t.fAt+t.Vu - 1) / c.Eg∧0≤t.fAt / c.Eg∧t.fAt / c.Eg≤(t.fAt+t.Vu - 1) / c.Eg∧(t.fAt+t.Vu - 1) / c.Eg≤192:=by
 obtain⟨hs,hc,h1,h2,h3⟩:=Bbv h
 have hb:=Axz c;obtain⟨b1,b2,_⟩:=Ae1 hc
 have e1:Aob .i64 (Aoa .i64 t.fAt t.Vu) 1=t.fAt+t.Vu - 1:=by
  unfold Aob Aoa;rw[Ag4 (n:=t.fAt+t.Vu) (by omega) (by omega),Ag4 (by omega) (by omega)]
 have e2: ∀x:Int,0≤x->x≤192->Alr .i64 x c.Eg=x / c.Eg∧0≤x / c.Eg∧x / c.Eg≤192:=by
  intro x h0 hx
  have h3:x / c.Eg≤x:=Int.ediv_le_self _ h0
  have h4:0≤x / c.Eg:=Int.ediv_nonneg h0 (by omega)
  refine⟨?_,h4,by omega⟩
  unfold Alr;rw[Int.tdiv_eq_ediv_of_nonneg h0,Ag4 (by omega) (by omega)]
 obtain⟨x1,x2,x3⟩:=e2 t.fAt h2 (by omega)
 obtain⟨y1,y2,y3⟩:=e2 (t.fAt+t.Vu - 1) (by omega) (by omega)
 refine⟨by omega,x1,by rw[e1,y1],x2,Int.ediv_le_ediv (by omega) (by omega),y3⟩
theorem Buz{a:Int}{j:Nat}(h0:0≤a)(h:a+j≤140737488355328):Aoa .i64 (a+(j:Int)) 1=a+((j+1:Nat):Int):=by
 unfold Aoa;rw[Ag4 (by omega) (by omega)];omega
section
variable {K:Nat} (hK:281474976710656≤K)
include hK
theorem A7f (l:List A9)(hl:l.length≤140737488355327)(hs: ∀t∈l,Ax0 t):Auj K l=some (Awg l):=by
 unfold Auj Awg;rw[Apw hK l.length (by omega) (fun i=>(l.take i).all (fun o=>Apx o (gt l i))) (some true) (fun n i=>Ak5 K l n i) (fun n i h=> ?_) (fun n=> ?_)]
 ·cases (List.range l.length).all _<;>rfl
 ·simp only[Ak5];rw[Afe h,cond_true]
  have hlen:(l.take i).length=i:=by simp;omega
  rw[Ar8 hK (l.take i) (by omega) (fun o=>Apx o (gt l i)) (Ak5 K l n (Aoa .i64 i 1)) (fun m j=>Apa K l i (Ak5 K l n) m j) (fun m j hj=> ?_) (fun m=> ?_)]
  ·rw[Ag7 (by omega)]
  ·have hj':j<i:=by omega
   simp only[Apa];rw[Afe hj',cond_true,if_pos (Aje h),if_pos (Aje (show j<l.length by omega)),Bdg K (hs _ (Apl h)) (hs _ (Apl (show j<l.length by omega))),Z0,Ac2,Ag7 (by omega),Bbw,List.getElem_take,Aeg (show j<l.length by omega)]
  ·show Apa K l i _ (m+1) _=_;rw[Apa,hlen,Agf (Z9 _),cond_false]
 ·show Ak5 K l (n+1) _=_;rw[Ak5,Agf (Z9 _),cond_false]
theorem A7g (l:List A9)(hl:l.length≤140737488355327)(hs: ∀t∈l,Ax0 t):Aur K l=some (Awg l):=by
 unfold Aur Awg;rw[Apw hK l.length (by omega) (fun i=>(l.take i).all (fun o=>Apx o (gt l i))) (some true) (fun n i=>Apc K l n l (l.length:Int) i) (fun n i h=> ?_) (fun n=> ?_)]
 ·cases (List.range l.length).all _<;>rfl
 ·simp only[Apc]
  have hlen:(l.take i).length=i:=by simp;omega
  have hC:Ahd K (l.take i) (gt l i)=some ((l.take i).any (fun o=> !Apx o (gt l i))):=
   A0k hK (l.take i) (by omega) (fun t=>Asu K t (gt l i)) (fun o=> !Apx o (gt l i)) (fun x hx=>by
    unfold Asu;rw[A6k K (hs _ (Za hx)) (hs _ (Apl h))];rfl) (Aem K (l.take i) (gt l i)) (fun n N i=>rfl)
  rw[Afe h,cond_true,if_pos (Aje h),if_pos (Bbs (by omega)),A6i,hC,Ag7 (by omega),Z0,List.any_eq_not_all_not,Ac2]
  simp only[Bool.not_not]
 ·show Apc K l (n+1) _ _ _=_;rw[Apc,Agf (Z9 _),cond_false]
theorem A7h (c:Er)(n:Ba)(h1:n.Ae.length≤140737488355327)(h2:n.Ea.length≤140737488355327):Auq K c n=some (n.Ea.all (Ay1 c n.Ae)):=by
 unfold Auq
 have h1t: ∀t,Aq5 K t c n=some (!Ay1 c n.Ae t):=by
  intro t;unfold Aq5 Ay1;rw[A10,Z0,Ac2];cases ht:Ar9 c t with
  |false=>rfl
  |true=>
   obtain⟨d0,d1,d2,d3,d4,d5⟩:=A7y ht;rw[cond_true,if_pos d0,d1]
   have:=Bf8 hK ((t.fAt+t.Vu - 1) / c.Eg - t.fAt / c.Eg+1).toNat (by omega) (fun j=>n.Ae.contains (t.fAt / c.Eg+(j:Int))) (some false) (some true) (fun m j=>Al4 K t c n m (t.fAt / c.Eg+j)) (fun m j hj=> ?_) (fun m=> ?_)
   ·simp only[Int.add_zero]at this;rw[this];cases (List.range _).all _<;>rfl
   ·simp only[Al4];rw[if_pos d0,d2,decide_eq_true (by omega),cond_true,Az9 hK _ _ (by omega),Z0,Ac2,Buz d3 (by omega)]
   ·show Al4 K t c n (m+1) _=_;rw[Al4,if_pos d0,d2,decide_eq_false (by omega),cond_false]
 have hC:Ahb K n.Ea c n=some (n.Ea.any (fun t=> !Ay1 c n.Ae t)):=
  A0k hK n.Ea (by omega) (fun t=>Aq5 K t c n) (fun t=> !Ay1 c n.Ae t) (fun x _=>h1t x) (Ael K n.Ea c n) (fun n N i=>rfl)
 rw[hC];simp only[Z0,List.not_any_eq_all_not,Bool.not_not]
theorem A7i (c:Er)(n:Ba)(h1:n.Ae.length≤140737488355327)(h2:n.Ea.length≤140737488355327):Aui K c n=some (n.Ea.all (Ay1 c n.Ae)):=by
 unfold Aui;rw[Ar8 hK n.Ea (by omega) (Ay1 c n.Ae) (some true) (fun k i=>Ak4 K c k i n.Hh n.C2 n.Ly n.fUp n.Gq n.Bt n.Gr n.Gs n.Ae n.Pq n.Gt n.Ea n.Dg) (fun k i h=> ?_) (fun k=> ?_)]
 ·cases n.Ea.all _<;>rfl
 ·simp only[Ak4];rw[Afe h,cond_true,if_pos (Aje h),Aeg h,A1z,Z0,Ac2];unfold Ay1;generalize n.Ea[i]=t;cases ht:Ar9 c t with
  |false=>rfl
  |true=>
   obtain⟨d0,d1,d2,d3,d4,d5⟩:=A7y ht;rw[cond_true,if_pos d0,d1,Z30]
   have:=Apw hK ((t.fAt+t.Vu - 1) / c.Eg - t.fAt / c.Eg+1).toNat (by omega) (fun j=>n.Ae.contains (t.fAt / c.Eg+(j:Int))) (Ak4 K c k ((i+1:Nat):Int) n.Hh n.C2 n.Ly n.fUp n.Gq n.Bt n.Gr n.Gs n.Ae n.Pq n.Gt n.Ea n.Dg)
    (fun m j=>Ao3 K c i n.Hh n.C2 n.Ly n.fUp n.Gq n.Bt n.Gr n.Gs n.Ae n.Pq n.Gt n.Ea n.Dg (Ak4 K c k) m (t.fAt / c.Eg+j) t) (fun m j hj=> ?_) (fun m=> ?_)
   ·simp only[Int.add_zero]at this;exact this
   ·simp only[Ao3];rw[if_pos d0,d2,decide_eq_true (by omega),cond_true,Axy hK _ _ (by omega),Z0,Ac2,Buz d3 (by omega)]
   ·show Ao3 K c i _ _ _ _ _ _ _ _ _ _ _ _ _ _ (m+1) _ _=_;rw[Ao3,if_pos d0,d2,decide_eq_false (by omega),cond_false,Ag7 (by omega)]
 ·show Ak4 K c (k+1) _ _ _ _ _ _ _ _ _ _ _ _ _ _=_;rw[Ak4,Agf (Z9 _),cond_false]
end
def wfi (x:Int):Prop:= -9223372036854775808≤x∧x≤9223372036854775807
def A0d (l:List Int):Prop:=(∀x∈l,wfi x)∧l.length*8≤140737488355327
def Bm2 (l:List Int):Prop:=(∀x∈l,0≤x∧x≤255)∧l.length≤140737488355327
def Bx9 (t:A9):Prop:=wfi t.fAt∧wfi t.Vu∧wfi t.Vv
def A11 (l:List A9):Prop:=(∀x∈l,Bx9 x)∧l.length*24≤140737488355327
structure Atz (n:Ba):Prop where
 st:wfi n.Hh
 gen:wfi n.C2
 ep:wfi n.Ly
 up:wfi n.fUp
 upEp:wfi n.Gq
 first:wfi n.Bt
 next:wfi n.Gr
 prev:wfi n.Gs
 chunks:A0d n.Ae
 cur:wfi n.Pq
 bump:wfi n.Gt
 things:A11 n.Ea
 tags:A0d n.Dg
def Ag1 (l:List Ba):Prop:=(∀x∈l,Atz x)∧l.length*152≤140737488355327
structure Azc (x:Ax):Prop where
 slot:wfi x.A5
 first:wfi x.Bt
 tags:A0d x.Dg
 chunks:A0d x.Ae
 done:wfi x.Gu
def Bet (l:List Ax):Prop:=(∀x∈l,Azc x)∧l.length*72≤140737488355327
structure B4s (c:Er):Prop where
 chunks:wfi c.Ae
 size:wfi c.Eg
 slots:wfi c.C0
 tax:wfi c.E9
 slice:wfi c.C1
 gens:wfi c.Eh
structure Azl (p:Dw):Prop where
 mem:Bm2 p.Fy
 st:A0d p.Hh
 own:A0d p.Fz
structure Aqs (w:Eb):Prop where
 c:B4s w.fC
 p:Azl w.fP
 l:Ag1 w.fL
 q:Bet w.fQ
 log:A0d w.Pr
theorem Anj:140737488355328≤maxLen:=by unfold maxLen;omega
theorem A25{α:Type}(x:Option α):Afd x x=x:=by simp[Afd]
theorem Asn (K:Nat){l:List Int}(h:l.length*8≤140737488355327):Aen K l=some l:=by
 have hm:=Anj;unfold Aen;rw[Zg,if_pos ⟨by omega,by omega⟩]
 cases l with
 |nil=>exact A25 _
 |cons x l=>rfl
theorem Bdh (K:Nat){l:List Int}(h:l.length≤140737488355327):Arg K l=some l:=by
 have hm:=Anj;unfold Arg;rw[Zg,if_pos ⟨by omega,by omega⟩]
 cases l with
 |nil=>exact A25 _
 |cons x l=>rfl
theorem Bbx (K:Nat){l:List A9}(h:l.length*24≤140737488355327):App K l=some l:=by
 have hm:=Anj;unfold App;rw[Zg,if_pos ⟨by omega,by omega⟩]
 cases l with
 |nil=>exact A25 _
 |cons x l=>rfl
theorem Beu{α:Type}(N:Nat)(q:Nat->Bool)(g:Nat->α)(L:Nat->List α->Int->Option (List α))
  (hs: ∀n v (i:Nat),i<N->v.length≤i->L (n+1) v (i:Int)=bif q i then L n (v++[g i]) ((i+1:Nat):Int)else L n v ((i+1:Nat):Int))
  (he: ∀n v,L (n+1) v (N:Int)=some v):
  ∀(n i:Nat) (v:List α),i≤N->v.length≤i->N - i<n->L n v (i:Int)=some (v++(((List.range N).drop i).filter q).map g):=by
 intro n
 induction n with
 |zero=>intro i v _ _ h;omega
 |succ n ih=>
  intro i v hi hv hn;rcases F9 i N with h|h
  ·rw[hs n v i h hv,Z47 (by simpa using h),List.getElem_range,List.filter_cons]
   cases hq:q i with
   |true=>
    rw[cond_true,ih (i+1) _ h (by simp;omega) (by omega)]
    simp
   |false=>
    rw[cond_false,ih (i+1) _ h (by omega) (by omega)]
    simp
  ·obtain rfl:i=N:=by omega
   rw[he,Z48 (by simp)];simp
def At1 (p:Dw)(k:Int):List Int:=((List.range (min p.Hh.length p.Fz.length)).filter (fun i:Nat=>gt p.Hh i==1&&gt p.Fz i==k)).map (fun i:Nat=>(i:Int))
theorem Bdi (p:Dw)(k:Int):(At1 p k).length≤min p.Hh.length p.Fz.length:=by
 unfold At1;rw[B8];exact To (List.length_filter_le _ _) (by simp)
theorem A0t (p:Dw)(k:Int):(At1 p k).Pairwise (fun a b=>a<b):=by
 unfold At1;rw[List.pairwise_map];exact(List.Pairwise.filter _ List.pairwise_lt_range).imp fun h=>by omega
theorem A3e{l:List Int}: ∀ {o:List Int},o.Nodup->(∀x∈o,x∈l)->o.length=l.length->o.Perm l:=by
 intro o
 induction o generalizing l with
 |nil=>intro _ _ h;cases l with
  |nil=>exact .nil
  |cons _ _=>simp at h
 |cons x o ih=>
  intro hn hs hl
  have hx:x∈l:=hs x (by simp)
  rw[List.nodup_cons]at hn
  have h2:o.Perm (l.erase x):=ih hn.2 (fun y hy=>by
   have hne:y≠x:=fun e=>hn.1 (e ▸ hy);exact(List.mem_erase_of_ne hne).2 (hs y (by simp[hy]))) (by rw[List.length_erase_of_mem hx];simp at hl;omega)
  exact(List.Perm.cons x h2).trans (List.perm_cons_erase hx).symm
def A0l (p:Dw)(k:Int)(l:List Int):Bool:=(At1 p k).all (fun x=>l.contains x)&&((At1 p k).length:Int)==(l.length:Int)
theorem Bqf (p:Dw)(k:Int)(l:List Int):decide (l.mergeSort (fun x y=>decide (x≤y))=At1 p k)=A0l p k l:=by
 rw[Bool.eq_iff_iff];unfold A0l;simp only[decide_eq_true_eq,Z4,Z1,List.contains_iff_mem,beq_iff_eq]
 have hp:=List.mergeSort_perm l (fun x y=>decide (x≤y));constructor
 ·intro e;rw[e]at hp;exact⟨fun x hx=>hp.mem_iff.1 hx,by have:=hp.length_eq;omega⟩
 ·rintro⟨h1,h2⟩
  have hn:(At1 p k).Nodup:=(A0t p k).imp fun h=>by omega
  have h3:=A3e hn h1 (by omega)
  refine List.Perm.eq_of_pairwise (le:=fun a b=>a≤b) (fun a b _ _ h1 h2=>by omega) ?_ ((A0t p k).imp fun h=>by omega) (hp.trans h3.symm)
  have:=List.pairwise_mergeSort (le:=fun x y:Int=>decide (x≤y)) (fun a b c h1 h2=>by simp at *;omega) (fun a b=>by simp;omega) l
  exact this.imp fun h=>by simpa using h
theorem Bf9{a b:List Int}(h:a.length=b.length):(List.range a.length).all (fun i=>gt a i==gt b i)=decide (a=b):=by
 rw[Bool.eq_iff_iff];simp only[Z1,List.mem_range,beq_iff_eq,decide_eq_true_eq];constructor
 ·intro h1;refine List.ext_getElem h fun i h2 h3=> ?_
  have:=h1 i h2
  rwa[Aeg h2,Aeg h3]at this
 ·rintro rfl _ _;rfl
section
variable {K:Nat} (hK:281474976710656≤K)
include hK
theorem Bga (a b:List Int)(ha:a.length≤140737488355327):Ai3 K a b=some (decide (a=b)):=by
 unfold Ai3
 by_cases h:a.length=b.length
 ·rw[show((a.length:Int) != (b.length:Int))=false by simp[h],cond_false,←Bf9 h]
  rw[Apw hK a.length (by omega) (fun i=>gt a i==gt b i) (some true) (fun n i=>Ai1 K a b n (a.length:Int) i) (fun n i hi=> ?_) (fun n=> ?_)]
  ·cases (List.range a.length).all _<;>rfl
  ·simp only[Ai1];rw[Afe hi,cond_true,if_pos (Aje hi),if_pos (Aje (show i<b.length by omega)),Ag7 (by omega),bne,Ac2]
  ·show Ai1 K a b (n+1) _ _=_;rw[Ai1,Agf (Z9 _),cond_false]
 ·rw[Atg (by omega),cond_true,decide_eq_false (fun e=>h (by rw[e]))]
theorem Bai (p:Dw)(k:Int)(h1:p.Hh.length*8≤140737488355327):Avk K p k=some (At1 p k):=by
 have hm:=Anj;unfold Avk
 have:=Beu (min p.Hh.length p.Fz.length) (fun i:Nat=>gt p.Hh i==1&&gt p.Fz i==k) (fun i:Nat=>(i:Int)) (fun n v i=>Ali K k n v i p.Fy p.Hh p.Fz) (fun n v i hi hv=> ?_) (fun n v=> ?_) K 0 [] (Z21 _) (Z9 _) (by omega)
 ·simpa[At1]using this
 ·have h2:(v++([(i:Int)]:List Int)).length=v.length+1:=by simp
  simp only[Ali,Arm];rw[Afe (by omega),Afe (by omega),cond_true,cond_true,if_pos (Aje (by omega)),if_pos (Aje (by omega)),Ag7 (by omega),if_pos ⟨by rw[h2];omega,by rw[h2];omega⟩]
  cases gt p.Hh (i:Int)==1<;>cases gt p.Fz (i:Int)==k<;>rfl
 ·show Ali K k (n+1) v _ _ _ _=_;rw[Ali];rcases Nat.le_total p.Hh.length p.Fz.length with h|h
  ·rw[Nat.min_eq_left h,Agf (Z9 _),cond_false]
  ·rw[Nat.min_eq_right h,Agf (Z9 p.Fz.length),cond_false,cc]
theorem Baj (p:Dw)(k:Int)(h1:p.Hh.length*8≤140737488355327):Avq K p k=some (At1 p k):=by
 have hm:=Anj;unfold Avq
 have e:Aaf (p.Hh.length:Int) (p.Fz.length:Int)=((min p.Hh.length p.Fz.length:Nat):Int):=by unfold Aaf;split<;>omega
 rw[e]
 have:=Beu (min p.Hh.length p.Fz.length) (fun i:Nat=>gt p.Hh i==1&&gt p.Fz i==k) (fun i:Nat=>(i:Int)) (fun n v i=>Alo K k n v ((min p.Hh.length p.Fz.length:Nat):Int) i p.Fy p.Hh p.Fz) (fun n v i hi hv=> ?_) (fun n v=> ?_) K 0 [] (Z21 _) (Z9 _) (by omega)
 ·simpa[At1]using this
 ·have h2:(v++([(i:Int)]:List Int)).length=v.length+1:=by simp
  simp only[Alo,Arr];rw[Afe hi,cond_true,if_pos (Aje (by omega)),if_pos (Aje (by omega)),Ag7 (by omega),if_pos ⟨by rw[h2];omega,by rw[h2];omega⟩]
  cases gt p.Hh (i:Int)==1<;>cases gt p.Fz (i:Int)==k<;>rfl
 ·show Alo K k (n+1) v _ _ _ _ _=_;rw[Alo,Agf (Z9 _),cond_false]
theorem A6l (w:Eb)(k:Nat)(hk:k<w.fL.length)(h1:w.fP.Hh.length*8≤140737488355327)(h2:(gt w.fL k).Ae.length≤140737488355327):Atr K w k=some (A0l w.fP k (gt w.fL k).Ae):=by
 unfold Atr;rw[Bai hK _ _ h1,Z0]
 have hl:=Bdi w.fP k;rw[Ar8 hK (At1 w.fP k) (by omega) (fun x=>(gt w.fL k).Ae.contains x) (some (((At1 w.fP k).length:Int)==((gt w.fL k).Ae.length:Int))) (fun n i=>Ano K k (At1 w.fP k) n i w.fC.Ae w.fC.Eg w.fC.C0 w.fC.E9 w.fC.C1 w.fC.Eh w.fP.Fy w.fP.Hh w.fP.Fz w.fL w.fQ w.Pr) (fun n i hi=> ?_) (fun n=> ?_)]
 ·rw[Ajc];rfl
 ·simp only[Ano];rw[Afe hi,cond_true,if_pos (Aje hk),if_pos (Aje hi),Axy hK _ _ (by omega),Z0,Ac2,Ag7 (by omega),Aeg hi]
 ·show Ano K k (At1 w.fP k) (n+1) _ _ _ _ _ _ _ _ _ _ _ _ _=_;rw[Ano,Agf (Z9 _),cond_false,if_pos (Aje hk)]
end
def Axh (c:Er)(n:Ba):A9:=A9.mk ((n.Pq - 1)*c.Eg+n.Gt) (c.Eg - n.Gt) 0
def A6m (c:Er)(mem:List Int)(n:Ba):Bool:=
 n.Pq==0||(Ay0 ((mem.drop (Axh c n).fAt.toNat).take (Axh c n).Vu.toNat)&&n.Ea.all (fun t=>Apx t (Axh c n)))
theorem Bgb{c:Er}{n:Ba}(h:Axg c n=true)(h1:n.Hh=1):Ap7 c=true∧A7x c n=true:=by
 unfold Axg at h;simp only[Z4]at h;refine⟨h.1,?_⟩
 have:=h.2.2.2;rw[h1]at this;exact this
theorem Bgc{c:Er}{n:Ba}(h:Axg c n=true)(h1:n.Hh≠1):A6j n=true:=by
 unfold Axg at h;simp only[Z4]at h
 have:=h.2.2.2;rw[Atg h1]at this;exact this
theorem Bya{c:Er}{n:Ba}(hw:Atz n)(h:Axg c n=true)(h1:n.Pq≠0):n.Hh=1∧1≤n.Pq∧n.Pq≤c.Ae∧0≤n.Gt∧n.Gt≤c.Eg:=by
 by_cases h2:n.Hh=1
 ·refine⟨h2,?_⟩;obtain⟨hc,hl⟩:=Bgb h h2;obtain⟨b1,_⟩:=Ae1 hc;unfold A7x at hl;simp only[Z4]at hl
  have hd:=hl.2.2.1.1
  have hcu:=hl.2.2.1.2;unfold Bdf at hcu;rw[Aqr h1,cond_false,Z4,List.contains_iff_mem,Ayk]at hcu;obtain⟨i,hi,e⟩:=List.mem_iff_getElem.1 hcu.1;unfold Av4 at hd;rw[Z1]at hd
  have:=hd i (by simpa using hi)
  rw[Z4,Aeg hi,e,Ayk]at this
  have h3:=this.1;obtain⟨w1,w2⟩:=hw.cur;unfold Aob at h3;rw[IntKind.wrap_i64]at h3;refine⟨by omega,by omega,hcu.2.1,hcu.2.2⟩
 ·have:=Bgc h h2;unfold A6j at this;simp only[Z4,beq_iff_eq]at this;exact absurd this.2.2.2.2.2.2.2.1 h1
theorem Bev{c:Er}{p:Dw}{n:Ba}(hp:Ava c p=true)(hw:Atz n)(h:Axg c n=true)(h1:n.Pq≠0):
  Aoa .i64 (Aoc .i64 (Aob .i64 n.Pq 1) c.Eg) n.Gt=(Axh c n).fAt∧Aob .i64 c.Eg n.Gt=(Axh c n).Vu∧Aoc .i64 n.Pq c.Eg=(Axh c n).fAt+(Axh c n).Vu∧Ax0 (Axh c n)∧(Axh c n).fAt+(Axh c n).Vu≤(p.Fy.length:Int):=by
 obtain⟨h2,c1,c2,c3,c4⟩:=Bya hw h h1;obtain⟨hc,hm,_⟩:=Awf hp;obtain⟨b1,b2,_⟩:=Ae1 hc
 have m1:=A1x (a:=n.Pq - 1) (b:=c.Eg) (m:=11) (n:=16) (by omega) (by omega) (by omega) b2.2
 have e2:n.Pq*c.Eg=(n.Pq - 1)*c.Eg+c.Eg:=by rw[Int.sub_mul,Int.one_mul];omega
 have m2:n.Pq*c.Eg≤c.Ae*c.Eg:=Int.mul_le_mul_of_nonneg_right (by omega) (by omega)
 unfold Axh Ax0 Aoa Aob Aoc;simp only;rw[Ag4 (n:=n.Pq - 1) (by omega) (by omega),Ag4 (n:=(n.Pq - 1)*c.Eg) (by omega) (by omega),Ag4 (n:=(n.Pq - 1)*c.Eg+n.Gt) (by omega) (by omega),Ag4 (n:=c.Eg - n.Gt) (by omega) (by omega),Ag4 (n:=n.Pq*c.Eg) (by omega) (by omega)]
 refine⟨rfl,rfl,by omega,⟨by omega,by omega,by omega,by omega⟩,by omega⟩
theorem A6n{c:Er}{l:List A9}{ch:List Int}(h:l.all (Ay1 c ch)=true): ∀t∈l,Ax0 t∧1≤t.Vu:=by
 intro t ht;rw[Z1]at h
 have:=h t ht;unfold Ay1 at this;rw[Z4]at this;obtain⟨h1,h2⟩:=Bbv this.1;exact⟨h1,h2.2.1⟩
def A6o (w:Eb)(k:Nat):Bool:=
 Axg w.fC (gt w.fL k)&&(A0l w.fP k (gt w.fL k).Ae&&((gt w.fL k).Ea.all (Ay1 w.fC (gt w.fL k).Ae)&&(Awg (gt w.fL k).Ea&&A6m w.fC w.fP.Fy (gt w.fL k))))
section
variable {K:Nat} (hK:281474976710656≤K)
include hK
theorem A03{l:List Int}(h:A0d l):l.length≤140737488355327:=by have:=h.2;omega
theorem Bm3{l:List A9}(h:A11 l):l.length≤140737488355327:=by have:=h.2;omega
theorem Bdj (w:Eb)(k:Nat)(hk:k<w.fL.length)(hp:Ava w.fC w.fP=true)(hw:Atz (gt w.fL k))(hn:Axg w.fC (gt w.fL k)=true)(hs: ∀t∈(gt w.fL k).Ea,Ax0 t∧1≤t.Vu):Auk K w k=some (A6m w.fC w.fP.Fy (gt w.fL k)):=by
 unfold Auk;rw[if_pos (Aje hk)];unfold A6m
 by_cases h1:(gt w.fL k).Pq=0
 ·rw[h1];rfl
 ·rw[Aqr h1,cond_false];obtain⟨e1,e2,e3,⟨s1,s2,s3,s4⟩,s5⟩:=Bev hp hw hn h1;rw[e1,e3];generalize hr:Axh w.fC (gt w.fL k)=r at *;rcases (show r.Vu=0∨1≤r.Vu by omega)with h2|h2
  ·rw[decide_eq_true (show r.fAt≥r.fAt+r.Vu by omega),cond_true,h2]
   have:(gt w.fL k).Ea.all (fun t=>Apx t r)=true:=by
    rw[Z1];intro t _;exact decide_eq_true (.inr (.inl (by omega)))
   rw[this];simp[Ay0]
  ·rw[decide_eq_false (show ¬r.fAt≥r.fAt+r.Vu by omega),cond_false]
   have hlt:=Bm3 hK hw.things
   have hz:List.take (r.fAt+r.Vu - r.fAt).toNat (List.drop r.fAt.toNat w.fP.Fy)=List.take r.Vu.toNat (List.drop r.fAt.toNat w.fP.Fy):=by rw[show r.fAt+r.Vu - r.fAt=r.Vu by omega]
   rw[Ar8 hK (gt w.fL k).Ea (by omega) (fun t=>Apx t r) (some (Ay0 (List.take r.Vu.toNat (List.drop r.fAt.toNat w.fP.Fy)))) (fun m i=>Ang K m r.fAt (r.fAt+r.Vu) i (gt w.fL k).Hh (gt w.fL k).C2 (gt w.fL k).Ly (gt w.fL k).fUp (gt w.fL k).Gq (gt w.fL k).Bt (gt w.fL k).Gr (gt w.fL k).Gs (gt w.fL k).Ae (gt w.fL k).Pq (gt w.fL k).Gt (gt w.fL k).Ea (gt w.fL k).Dg w.fC.Ae w.fC.Eg w.fC.C0 w.fC.E9 w.fC.C1 w.fC.Eh w.fP.Fy w.fP.Hh w.fP.Fz w.fL w.fQ w.Pr) (fun m i hi=> ?_) (fun m=> ?_)]
   ·rw[Ajc,Bool.and_comm];rfl
   ·simp only[Ang,Ass];obtain⟨⟨t1,t2,t3,t4⟩,t5⟩:=hs _ (Apl hi);rw[Afe hi,cond_true,if_pos (Aje hi),Ag7 (by omega),←Aeg hi]
    generalize gt (gt w.fL k).Ea i=t at *;unfold Aoa;rw[Ag4 (n:=t.fAt+t.Vu) (by omega) (by omega)]
    unfold Apx
    by_cases g1:t.fAt<r.fAt+r.Vu
    ·by_cases g2:t.fAt+t.Vu>r.fAt
     ·rw[decide_eq_true g1,decide_eq_true g2,decide_eq_false (by omega)];rfl
     ·rw[decide_eq_true g1,decide_eq_false g2,decide_eq_true (by omega)];rfl
    ·rw[decide_eq_false g1,decide_eq_true (show t.Vu≤0∨r.Vu≤0∨t.fAt+t.Vu≤r.fAt∨r.fAt+r.Vu≤t.fAt by omega)];rfl
   ·show Ang K (m+1) _ _ _ _ _ _ _ _ _ _ _ _ _ _ _ _ _ _ _ _ _ _ _ _ _ _ _ _=_;rw[Ang,Agf (Z9 _),cond_false,if_pos ⟨s1,by omega,s5⟩,A0b hK _ (by simp;omega),hz,Z0]
theorem Bm4 (l:List Int)(h:A0d l):Eu K l=some (l.mergeSort fun x y=>decide (x≤y)):=by
 have:=h.2;unfold Eu;rw[if_pos (by omega)]
theorem Bak (w:Eb)(hw:Aqs w)(hp:Ava w.fC w.fP=true):Aq6 K w=some ((List.range w.fL.length).all (A6o w)):=by
 unfold Aq6
 have hlL:=hw.l.2;rw[Apw hK w.fL.length (by omega) (A6o w) (some true) (fun m i=>Ahs K m w.fL (w.fL.length:Int) i w.fC.Ae w.fC.Eg w.fC.C0 w.fC.E9 w.fC.C1 w.fC.Eh w.fP.Fy w.fP.Hh w.fP.Fz w.fL w.fQ w.Pr) (fun m k hk=> ?_) (fun m=> ?_)]
 ·cases (List.range w.fL.length).all _<;>rfl
 ·simp only[Ahs,Ap9];rw[show Er.mk w.fC.Ae w.fC.Eg w.fC.C0 w.fC.E9 w.fC.C1 w.fC.Eh=w.fC from rfl,show Dw.mk w.fP.Fy w.fP.Hh w.fP.Fz=w.fP from rfl]
  have hn:=hw.l.1 _ (Apl hk);unfold A6o;generalize hN:gt w.fL k=n at*
  have l1:=A03 hK hn.chunks
  have l2:=Bm3 hK hn.things
  have l3:=A03 hK hn.tags;rw[Afe hk,cond_true,if_pos (Aje hk),Asn K hn.chunks.2,Z0,Bm4 hK _ hn.chunks,Z0,if_pos (List.length_mergeSort _),Bbu hK _ _ l1 l2 l3,Z0,Baj hK _ _ hw.p.st.2,Ag7 (by omega)]
  simp only[Z0];rw[Bga hK _ _ (by rw[List.length_mergeSort];exact l1),Bqf,A7h hK _ _ l1 l2]
  simp only[Z0];cases hb:Axg w.fC n with
  |false=>rfl
  |true=>
  cases A0l w.fP k n.Ae with
  |false=>rfl
  |true=>
  cases hi:n.Ea.all (Ay1 w.fC n.Ae)with
  |false=>rfl
  |true=>
  have hs:=A6n hi;rw[A7g hK _ l2 (fun t ht=>(hs t ht).1)];simp only[Z0,cond_true,Ac2,Z30];cases Awg n.Ea with
  |false=>rfl
  |true=>
  simp only[cond_true,Z30];unfold A6m
  by_cases h1:n.Pq=0
  ·rw[h1];rfl
  ·rw[Aqr h1,cond_false,Z52];obtain⟨e1,e2,e3,s,s5⟩:=Bev hp hn hb h1
   have hmk:A9.mk (Axh w.fC n).fAt (Axh w.fC n).Vu 0=Axh w.fC n:=rfl;rw[e1,e2];simp only[hmk];generalize hr:Axh w.fC n=r at *;obtain⟨s1,s2,s3,s4⟩:=s
   have e4:Aoa .i64 r.fAt r.Vu=r.fAt+r.Vu:=by unfold Aoa;rw[Ag4 (by omega) (by omega)]
   have hC:Ag2 K n.Ea r=some (n.Ea.any (fun t=> !Apx t r)):=
    A0k hK n.Ea (by omega) (fun t=>Ap8 K t r) (fun t=> !Apx t r) (fun x hx=>by
     unfold Ap8;rw[A6k K (hs _ hx).1 ⟨s1,s2,s3,s4⟩];rfl) (Aei K n.Ea r) (fun n N i=>rfl)
   rw[e4,if_pos ⟨s1,by omega,s5⟩,show r.fAt+r.Vu - r.fAt=r.Vu by omega,A0c hK _ (by simp;omega),hC,List.any_eq_not_all_not]
   simp only[Z0,Bool.not_not];cases Ay0 (List.take r.Vu.toNat (List.drop r.fAt.toNat w.fP.Fy))<;>cases n.Ea.all (fun t=>Apx t r)<;>rfl
 ·show Ahs K (m+1) _ _ _ _ _ _ _ _ _ _ _ _ _ _ _=_;rw[Ahs,Agf (Z9 _),cond_false]
end
section
variable {K:Nat} (hK:281474976710656≤K)
theorem Aej{l:List Ba}(w:Ag1 l):l.length≤140737488355327:=by have:=w.2;omega
theorem A12 (K:Nat){α:Type}{l:List α}(hl:l.length≤140737488355327)(k:Int):Abk K k 0 (Aob .i64 (l.length:Int) 1)=some (decide (0≤k∧k<(l.length:Int))):=by
 unfold Abk Aob;rw[Ag4 (by omega) (by omega)]
 by_cases h:(0:Int)≤k
 ·rw[decide_eq_true (show k≥0 from h)]
  simp only[cond_true,Z7,decide_eq_decide];omega
 ·rw[decide_eq_false (show ¬k≥0 from h)]
  simp only[cond_false,Z7];exact(decide_eq_false (by omega)).symm
theorem Bgd (K:Nat){α:Type}{l:List α}(hl:l.length≤140737488355327)(k:Int):Ac1 K k 0 (Aob .i64 (l.length:Int) 1)=some (decide (0≤k∧k<(l.length:Int))):=A12 K hl k
theorem Axr (K:Nat){l:List Ba}(hl:l.length≤140737488355327)(k:Int):Aix K l k=some (decide (0≤k∧k<(l.length:Int))):=by
 unfold Aix;rw[Bgd K hl];rfl
theorem A04 (K:Nat)(l:List Ba)(k:Int):Aiz K l k=some (decide (1≤k∧k≤(l.length:Int))):=by
 unfold Aiz
 by_cases h:(1:Int)≤k
 ·rw[decide_eq_true (show k≥1 from h)]
  simp only[cond_true,Z7,decide_eq_decide];omega
 ·rw[decide_eq_false (show ¬k≥1 from h)]
  simp only[cond_false,Z7];exact(decide_eq_false (by omega)).symm
def Aqt (l:List Ba)(h:Ct):Int:=if(0≤h.A5∧h.A5<(l.length:Int))∧(gt l h.A5).Hh=1∧(gt l h.A5).C2=h.C2 then h.A5 else -1
theorem Azd (K:Nat){l:List Ba}(hl:l.length≤140737488355327)(h:Ct):Arn K l h=some (Aqt l h):=by
 unfold Arn Aqt;rw[A12 K hl];simp only[Z0]
 by_cases hs:0≤h.A5∧h.A5<(l.length:Int)
 ·rw[decide_eq_true hs];simp only[cond_true,if_pos hs]
  by_cases h1:(gt l h.A5).Hh=1
  ·by_cases h2:(gt l h.A5).C2=h.C2
   ·rw[if_pos ⟨hs,h1,h2⟩];simp[h1,h2]
   ·rw[if_neg (fun h=>h2 h.2.2),Atg h2];simp[h1]
  ·rw[if_neg (fun h=>h1 h.2.1),Atg h1];rfl
 ·rw[decide_eq_false hs];simp only[cond_false];rw[if_neg (fun h=>hs h.1)]
theorem A13 (K:Nat){l:List Ba}(hl:l.length≤140737488355327)(h:Ct):As9 K l h=some (Aqt l h):=by
 rw[←Azd K hl];unfold Arn As9;rw[A12 K hl,Axr K hl]
theorem A26{l:List Ba}{h:Ct}(h0: ¬Aqt l h<0):0≤Aqt l h∧Aqt l h<(l.length:Int):=by
 unfold Aqt at *;split at h0
 ·rename_i h1;rw[if_pos h1];exact h1.1
 ·omega
def Apg (l:List Ba):Nat->Int->List Int
 |0,_=>[]
 |n+1,k=>if 0≤k∧k<(l.length:Int)then k::Apg l n (Aob .i64 (gt l k).fUp 1)else []
theorem Bal{l:List Ba}: ∀(n:Nat) (k:Int),∀x∈Apg l n k,0≤x∧x<(l.length:Int):=by
 intro n
 induction n with
 |zero=>intro k x hx;cases hx
 |succ n ih=>
  intro k x hx;unfold Apg at hx;split at hx
  ·rename_i h;rcases D6.1 hx with rfl|hx
   ·exact h
   ·exact ih _ x hx
  ·cases hx
theorem A6p{l:List Ba}: ∀(n:Nat) (k:Int),(Apg l n k).length≤n:=by
 intro n
 induction n with
 |zero=>intro k;exact Z9 _
 |succ n ih=>
  intro k;unfold Apg;split
  ·simp only[Y9];have:=ih (Aob .i64 (gt l k).fUp 1);omega
  ·exact Z21 _
def Bdk (l:List Ba):List Int->Prop
 |x::y::r=>Aob .i64 (gt l x).fUp 1=y∧Bdk l (y::r)
 |_=>True
theorem Bdl{l:List Ba}: ∀(n:Nat) (k:Int),Bdk l (Apg l n k):=by
 intro n
 induction n with
 |zero=>intro k;trivial
 |succ n ih=>
  intro k;unfold Apg;split
  ·have h1:=ih (Aob .i64 (gt l k).fUp 1);cases n with
   |zero=>trivial
   |succ n=>
    rw[Apg]at h1 ⊢;split at h1
    ·rename_i h2;rw[if_pos h2];exact⟨rfl,h1⟩
    ·rename_i h2;rw[if_neg h2];trivial
  ·trivial
theorem Bge{l:List Ba}(w:Ag1 l): ∀(n:Nat) (k:Int) (v:List Int),-9223372036854775808≤k∧k≤9223372036854775807->v.length≤l.length->l.length - v.length<n->At5 K l n k v=some (v++Apg l (l.length - v.length) k):=by
 have hb:l.length*152≤140737488355327:=w.2;intro n
 induction n with
 |zero=>intro k v _ _ h;omega
 |succ n ih=>
  intro k v hk hv hn;rw[At5,A04];simp only[Z0]
  have e:decide (1≤Aoa .i64 k 1∧Aoa .i64 k 1≤(l.length:Int))=decide (0≤k∧k<(l.length:Int)):=by
   rw[decide_eq_decide];unfold Aoa;rw[IntKind.wrap_i64];omega
  rw[e]
  by_cases hs:0≤k∧k<(l.length:Int)
  ·rw[decide_eq_true hs];simp only[cond_true];rcases F9 v.length l.length with h|h
   ·rw[Afe h];simp only[cond_true]
    have hl2:(v++[k]).length=v.length+1:=by simp
    rw[if_pos ⟨by rw[hl2];omega,by rw[hl2];unfold maxLen;omega⟩,if_pos hs,ih (Aob .i64 (gt l k).fUp 1) _ (Bdd _) (by rw[hl2];omega) (by rw[hl2];omega),hl2]
    obtain⟨m,hm⟩: ∃m,l.length - v.length=m+1:=⟨l.length - v.length - 1,by omega⟩
    rw[hm,Apg,if_pos hs,show l.length - (v.length+1)=m from by omega]
    simp
   ·rw[Agf h];rw[show l.length - v.length=0 from by omega]
    simp[Apg]
  ·rw[decide_eq_false hs]
   have:Apg l (l.length - v.length) k=[]:=by
    cases l.length - v.length with
    |zero=>rfl
    |succ m=>rw[Apg,if_neg hs]
   rw[this];simp
theorem Bgf{l:List Ba}(w:Ag1 l): ∀(n:Nat) (k:Int) (v:List Int),v.length≤l.length->l.length - v.length<n->At8 K l n k v=some (v++Apg l (l.length - v.length) k):=by
 have hb:l.length*152≤140737488355327:=w.2;intro n
 induction n with
 |zero=>intro k v _ h;omega
 |succ n ih=>
  intro k v hv hn;rw[At8,Axr K (by omega)]
  simp only[Z0]
  by_cases hs:0≤k∧k<(l.length:Int)
  ·rw[decide_eq_true hs];simp only[cond_true];rcases F9 v.length l.length with h|h
   ·rw[Afe h];simp only[cond_true]
    have hl2:(v++[k]).length=v.length+1:=by simp
    rw[if_pos ⟨by rw[hl2];omega,by rw[hl2];unfold maxLen;omega⟩,if_pos hs,ih _ _ (by rw[hl2];omega) (by rw[hl2];omega),hl2]
    obtain⟨m,hm⟩: ∃m,l.length - v.length=m+1:=⟨l.length - v.length - 1,by omega⟩
    rw[hm,Apg,if_pos hs,show l.length - (v.length+1)=m from by omega]
    simp
   ·rw[Agf h];rw[show l.length - v.length=0 from by omega]
    simp[Apg]
  ·rw[decide_eq_false hs]
   have:Apg l (l.length - v.length) k=[]:=by
    cases l.length - v.length with
    |zero=>rfl
    |succ m=>rw[Apg,if_neg hs]
   rw[this];simp
include hK in
theorem A05{l:List Ba}(w:Ag1 l)(k:Int)(hk: -9223372036854775808≤k∧k≤9223372036854775807):Au5 K l k=some (Apg l l.length k):=by
 have hb:=Aej w;unfold Au5
 have:=Bge (K:=K) w K k [] hk (Z21 _) (by simp;omega)
 simpa using this
include hK in
theorem A06{l:List Ba}(w:Ag1 l)(k:Int):Au7 K l k=some (Apg l l.length k):=by
 have hb:=Aej w;unfold Au7
 have:=Bgf (K:=K) w K k [] (Z21 _) (by simp;omega)
 simpa using this
def Awh (l:List Ba):List Int->Bool
 |[]=>true
 |[x]=>(gt l x).Hh==1
 |x::y::r=>((gt l x).Hh==1)&&((gt l x).Gq==(gt l y).Ly)&&Awh l (y::r)
def A6q (l:List Ba)(way:List Int):Bool:=if 0<way.length then(gt l (gt way ((way.length - 1:Nat):Int))).fUp==0 else false
theorem Bby{l:List Ba}{way:List Int}(hin: ∀x∈way,0≤x∧x<(l.length:Int))(hlen:way.length≤140737488355327):
  (bif (decide ((way.length:Int)>0))then(if(0:Int)≤(Aob .i64 (way.length:Int) 1)∧(Aob .i64 (way.length:Int) 1)<(way.length:Int)then(if(0:Int)≤(gt way (Aob .i64 (way.length:Int) 1))∧(gt way (Aob .i64 (way.length:Int) 1))<(l.length:Int)then some (((gt l (gt way (Aob .i64 (way.length:Int) 1))).fUp)==0)else none)else none)else some false)=some (A6q l way):=by
 unfold A6q;rcases Qs way.length with h|h
 ·rw[decide_eq_false (show ¬(way.length:Int)>0 by omega)]
  simp only[cond_false];rw[if_neg (show ¬0<way.length by omega)]
 ·rw[if_pos h,decide_eq_true (by omega)]
  simp only[cond_true]
  have e:Aob .i64 (way.length:Int) 1=((way.length - 1:Nat):Int):=by unfold Aob;rw[Ag4 (by omega) (by omega)];omega
  rw[e,if_pos ⟨by omega,by omega⟩,if_pos (hin _ (Apl (by omega)))]
theorem Av5{way:List Int}{i:Nat}(h:i<way.length):way.drop i=way[i]::way.drop (i+1):=by
 rw[Z47 h]
theorem Bdm{l:List Ba}{way:List Int}(hin: ∀x∈way,0≤x∧x<(l.length:Int))(hlen:way.length≤140737488355327): ∀(n i:Nat),i≤way.length->way.length - i<n->Arx K l way n way (way.length:Int) (i:Int)=some (Awh l (way.drop i)&&A6q l way):=by
 intro n
 induction n with
 |zero=>intro i _ h;omega
 |succ n ih=>
  intro i hi hn;rw[Arx];unfold Avw;rcases F9 i way.length with h|h
  ·rw[Afe h];simp only[cond_true];rw[if_pos ⟨by omega,by omega⟩,if_pos (hin _ (Apl h)),Av5 h,Ag7 (by omega),←Aeg h]
   rcases F9 (i+1) way.length with h2|h2
   ·rw[Afe h2,Av5 h2,←Aeg h2];simp only[cond_true];rw[if_pos (hin _ (Apl h)),if_pos ⟨by omega,by omega⟩,if_pos (hin _ (Apl h2)),ih (i+1) h (by omega),Av5 h2,←Aeg h2,Awh]
    generalize gt way ((i+1:Nat):Int)=y;generalize gt way (i:Int)=x
    by_cases c1:(gt l x).Hh=1
    ·by_cases c2:(gt l x).Gq=(gt l y).Ly
     ·simp[c1,c2]
     ·rw[Atg c2,Aqr c2];simp[c1]
    ·rw[Atg c1,Aqr c1];simp
   ·rw[Agf h2,ih (i+1) h (by omega),show way.drop (i+1)=[] from Z48 h2]
    simp only[cond_false,Awh]
    by_cases c1:(gt l (gt way (i:Int))).Hh=1
    ·simp[c1]
    ·rw[Atg c1,Aqr c1];simp
  ·rw[Agf h,show way.drop i=[] from Z48 h]
   simp only[cond_false,Awh,Z30];exact Bby hin hlen
theorem Bqg{l:List Ba}(w:Ag1 l){x y:Int}(hx:0≤x∧x<(l.length:Int))(hy:0≤y∧y<(l.length:Int))(h:Aob .i64 (gt l x).fUp 1=y):Aq2 K l x=some (((gt l y).Hh==1)&&((gt l y).Ly==(gt l x).Gq)):=by
 have hl:=Aej w;unfold Aq2;rw[if_pos hx,A04];simp only[Z0];obtain⟨hr1,hr2⟩:=(w.1 _ (Arc hx.1 hx.2)).up
 have hp:1≤(gt l x).fUp∧(gt l x).fUp≤(l.length:Int):=by
  unfold Aob at h;rw[IntKind.wrap_i64]at h;omega
 rw[decide_eq_true hp,h];simp only[cond_true];rw[if_pos hy,if_pos hy,if_pos hx];cases (gt l y).Hh==1<;>rfl
theorem Bbz{l:List Ba}{y:Int}{r:List Int}(h:(gt l y).Hh≠1):Awh l (y::r)=false:=by
 cases r with
 |nil=>simp[Awh,h]
 |cons z r=>simp[Awh,h]
theorem Bdn{l:List Ba}(w:Ag1 l){way:List Int}(hin: ∀x∈way,0≤x∧x<(l.length:Int))(hlen:way.length≤140737488355327): ∀(n i:Nat),Bdk l (way.drop i)->i≤way.length->way.length - i<n->Aro K l way n (i:Int)=some (Awh l (way.drop i)&&A6q l way):=by
 intro n
 induction n with
 |zero=>intro i _ _ h;omega
 |succ n ih=>
  intro i hch hi hn;rw[Aro];unfold Avm;rcases F9 i way.length with h|h
  ·rw[Afe h];simp only[cond_true];rw[Av5 h]at hch;rw[if_pos ⟨by omega,by omega⟩,if_pos (hin _ (Apl h)),Av5 h,Ag7 (by omega),←Aeg h]
   rcases F9 (i+1) way.length with h2|h2
   ·rw[Av5 h2]at hch
    have hc1:=hch.1;rw[←Aeg h,←Aeg h2]at hc1;rw[Afe h2,Av5 h2,←Aeg h2];simp only[cond_true];rw[if_pos ⟨by omega,by omega⟩,Bqg w (hin _ (Apl h)) (hin _ (Apl h2)) hc1,ih (i+1) (by rw[Av5 h2];exact hch.2) h (by omega),Av5 h2,←Aeg h2,Awh]
    generalize gt way ((i+1:Nat):Int)=y;generalize gt way (i:Int)=x
    by_cases c1:(gt l x).Hh=1
    ·by_cases c3:(gt l y).Hh=1
     ·by_cases c2:(gt l x).Gq=(gt l y).Ly
      ·simp[c1,c2,c3]
      ·have c2': ¬(gt l y).Ly=(gt l x).Gq:=fun e=>c2 e.symm;rw[Aqr c2,Aqr c2'];simp[c1]
     ·rw[Bbz c3,Aqr c3];simp[c1]
    ·rw[Atg c1,Aqr c1];simp
   ·rw[Agf h2,ih (i+1) (by rw[Z48 h2];trivial) h (by omega),show way.drop (i+1)=[] from Z48 h2]
    simp only[cond_false,Awh]
    by_cases c1:(gt l (gt way (i:Int))).Hh=1
    ·simp[c1]
    ·rw[Atg c1,Aqr c1];simp
  ·rw[Agf h,show way.drop i=[] from Z48 h]
   simp only[cond_false,Awh,Z30];exact Bby hin hlen
def A07 (l:List Ba)(k:Int):Bool:=Awh l (Apg l l.length k)&&A6q l (Apg l l.length k)
include hK in
theorem Bb0{l:List Ba}(w:Ag1 l)(k:Int)(hk: -9223372036854775808≤k∧k≤9223372036854775807):Axl K l k=some (A07 l k):=by
 have hb:=Aej w
 have hr:=A6p (l:=l) l.length k;unfold Axl;rw[A05 hK w k hk];exact Bdn w (Bal _ _) (by omega) K 0 (Bdl _ _) (Z21 _) (by omega)
include hK in
theorem Bb1{l:List Ba}(w:Ag1 l)(k:Int):Axn K l k=some (A07 l k):=by
 have hb:=Aej w
 have hr:=A6p (l:=l) l.length k;unfold Axn;rw[A06 hK w k];exact Bdm (Bal _ _) (by omega) K 0 (Z21 _) (by omega)
def Av6 (h:Ct):Bool:=bif decide (h.A5≥0)then decide (h.C2≥1)else false
theorem A7j (K:Nat)(h:Ct):Aul K h=some (Av6 h):=by
 unfold Aul Av6;cases decide (h.A5≥0)<;>rfl
theorem A7k (K:Nat)(h:Ct):Auu K h=some (Av6 h):=by
 unfold Auu Av6;cases decide (h.A5≥0)<;>rfl
def Aym (l:List Ba)(h:Ct):Int×Int:=bif Av6 h then(bif decide (Aqt l h<0)then(-1,2)else(bif A07 l (Aqt l h)then(Aqt l h,0)else(-1,2)))else(-1,1)
include hK in
theorem A7l{w:Eb}(hw:Ag1 w.fL)(h:Ct):Aum K w h=some (Aym w.fL h):=by
 have hb:=Aej hw;unfold Aum Aym;rw[A7j,Azd K hb];simp only[Z0];cases Av6 h with
 |false=>rfl
 |true=>
  simp only[cond_true];cases e:decide (Aqt w.fL h<0)with
  |true=>rfl
  |false=>
   have h1:=A26 (of_decide_eq_false e);simp only[cond_false];rw[Bb0 hK hw _ ⟨by omega,by omega⟩]
   simp only[Z0];cases A07 w.fL (Aqt w.fL h)<;>rfl
include hK in
theorem A7m{w:Eb}(hw:Ag1 w.fL)(h:Ct):Auv K w h=some (Aym w.fL h):=by
 have hb:=Aej hw;unfold Auv Aym;rw[A7k,A13 K hb];simp only[Z0];cases Av6 h with
 |false=>rfl
 |true=>
  simp only[cond_true];cases e:decide (Aqt w.fL h<0)with
  |true=>rfl
  |false=>
   simp only[cond_false];rw[Bb1 hK hw];simp only[Z0];cases A07 w.fL (Aqt w.fL h)<;>rfl
theorem Bm5{l:List Ba}{h:Ct}(h0:(Aym l h).2=0):0≤(Aym l h).1∧(Aym l h).1<(l.length:Int):=by
 unfold Aym at *;cases e1:Av6 h with
 |false=>rw[e1]at h0;simp at h0
 |true=>
  rw[e1]at h0;simp only[cond_true]at *;cases e:decide (Aqt l h<0)with
  |true=>rw[e]at h0;simp at h0
  |false=>
   rw[e]at h0;simp only[cond_false]at *;cases e2:A07 l (Aqt l h)with
   |false=>rw[e2]at h0;simp at h0
   |true=>exact A26 (of_decide_eq_false e)
end
def plB (l:List Ba)(n:Int):Bool:=decide (0≤Aob .i64 n 1∧Aob .i64 n 1<(l.length:Int))
theorem Aso{l:List Ba}{n:Int}(h:plB l n=true):0≤Aob .i64 n 1∧Aob .i64 n 1<(l.length:Int):=of_decide_eq_true h
theorem Awi (K:Nat){l:List Ba}(hl:l.length≤140737488355327)(n:Int):Aix K l (Aob .i64 n 1)=some (plB l n):=Axr K hl _
theorem Ath (K:Nat){l:List Ba}(hl:l.length≤140737488355327){n:Int}(hn:wfi n):Aiz K l n=some (plB l n):=by
 rw[A04];unfold plB;obtain⟨h1,h2⟩:=hn
 congr 1
 rw[decide_eq_decide];unfold Aob;rw[IntKind.wrap_i64];omega
def Azm (l:List Ba)(k:Int):Bool:=plB l (gt l k).fUp&&((gt l (Aob .i64 (gt l k).fUp 1)).Hh==1&&(gt l (Aob .i64 (gt l k).fUp 1)).Ly==(gt l k).Gq)
theorem A27 (K:Nat){l:List Ba}(w:Ag1 l){k:Int}(h:0≤k∧k<(l.length:Int)):Aq2 K l k=some (Azm l k):=by
 unfold Aq2 Azm;rw[if_pos h,Ath K (Aej w) (w.1 _ (Arc h.1 h.2)).up,Z0,if_pos h];cases hp:plB l (gt l k).fUp with
 |false=>rfl
 |true=>
  have:=Aso hp;rw[cond_true,if_pos this,if_pos this];cases (gt l (Aob .i64 (gt l k).fUp 1)).Hh==1<;>rfl
theorem Ax1 (K:Nat){l:List Ba}(w:Ag1 l){k:Int}(h:0≤k∧k<(l.length:Int)):Aqf K l k=some (Azm l k):=by
 unfold Aqf Azm;rw[if_pos h,Awi K (Aej w),Z0,if_pos h];cases hp:plB l (gt l k).fUp with
 |false=>rfl
 |true=>
  have:=Aso hp;rw[cond_true,if_pos this,if_pos this];cases (gt l (Aob .i64 (gt l k).fUp 1)).Hh==1<;>rfl
def Ar4 (l:List Ba)(n:Int):Bool:=n==0||(plB l n&&(gt l (Aob .i64 n 1)).Hh==1)
theorem Ay2{l:List Ba}{n:Int}(h:Ar4 l n=true)(h0:n≠0):0≤Aob .i64 n 1∧Aob .i64 n 1<(l.length:Int):=by
 unfold Ar4 at h;rw[Aqr h0,Z52,Z4]at h;exact Aso h.1
theorem A0e (K:Nat){l:List Ba}(w:Ag1 l){n:Int}(hn:wfi n):Apt K l n=some (Ar4 l n):=by
 unfold Apt Ar4;rw[Ath K (Aej w) hn,Z0];cases n==0 with
 |true=>rfl
 |false=>
  cases hp:plB l n with
  |false=>rfl
  |true=>rw[if_pos (Aso hp)];rfl
theorem A0f (K:Nat){l:List Ba}(w:Ag1 l)(n:Int):Asm K l n=some (Ar4 l n):=by
 unfold Asm Ar4;rw[Awi K (Aej w),Z0];cases n==0 with
 |true=>rfl
 |false=>
  cases hp:plB l n with
  |false=>rfl
  |true=>rw[if_pos (Aso hp)];rfl
def A7z (r:List Int):Int:=gt r ((r.length - 1:Nat):Int)
def A0u (l:List Ba)(k:Int):Bool:=decide (((Apg l l.length k).length:Int)≤4)&& !Azm l (A7z (Apg l l.length k))
def A6r (l:List Ba)(k:Int):Bool:= !((gt l k).Gs==0&&Azm l k)||(gt l (Aob .i64 (gt l k).fUp 1)).Bt==Aoa .i64 k 1
def Bam (l:List Ba)(k:Int):Bool:=(gt l k).Gs==0||(gt l (Aob .i64 (gt l k).Gs 1)).Gr==Aoa .i64 k 1
def Bdo (l:List Ba)(k:Int):Bool:=(gt l k).Gr==0||((gt l (Aob .i64 (gt l k).Gr 1)).Gs==Aoa .i64 k 1&&((gt l (Aob .i64 (gt l k).Gr 1)).fUp==(gt l k).fUp&&(gt l (Aob .i64 (gt l k).Gr 1)).Gq==(gt l k).Gq))
def Bm6 (l:List Ba)(k:Int):Bool:=(gt l k).Bt==0||((gt l (Aob .i64 (gt l k).Bt 1)).Gs==0&&((gt l (Aob .i64 (gt l k).Bt 1)).fUp==Aoa .i64 k 1&&(gt l (Aob .i64 (gt l k).Bt 1)).Gq==(gt l k).Ly))
def A28 (l:List Ba)(k:Int):Bool:=Ar4 l (gt l k).Bt&&(Ar4 l (gt l k).Gr&&(Ar4 l (gt l k).Gs&&((gt l k).fUp==0||plB l (gt l k).fUp)))
def A0g (l:List Ba)(k:Int):Bool:=A28 l k&&(Bm6 l k&&(Bdo l k&&(Bam l k&&A6r l k)))
def A70 (l:List Ba):Bool:=(List.range l.length).all (fun k=>(gt l (k:Int)).Hh != 1||(A0g l k&&A0u l k))
theorem Bb2{l:List Ba}{k:Int}(h:0≤k∧k<(l.length:Int)):0<(Apg l l.length k).length:=by
 obtain⟨m,hm⟩: ∃m,l.length=m+1:=⟨l.length - 1,by omega⟩
 rw[hm,Apg,if_pos h];simp
theorem Bew{l:List Ba}{k:Int}(h:0≤k∧k<(l.length:Int)):0≤A7z (Apg l l.length k)∧A7z (Apg l l.length k)<(l.length:Int):=by
 have:=Bb2 h;exact Bal _ _ _ (Apl (by omega))
theorem Bex{l:List Ba}(w:Ag1 l){k:Int}(h:0≤k∧k<(l.length:Int)):Aob .i64 ((Apg l l.length k).length:Int) 1=(((Apg l l.length k).length - 1:Nat):Int)∧(0:Int)≤(((Apg l l.length k).length - 1:Nat):Int)∧(((Apg l l.length k).length - 1:Nat):Int)<((Apg l l.length k).length:Int):=by
 have h1:=Bb2 h
 have h2:=A6p (l:=l) l.length k
 have h3:=Aej w;unfold Aob;rw[Ag4 (by omega) (by omega)]
 omega
section
variable {K:Nat} (hK:281474976710656≤K)
include hK
theorem Bqh{l:List Ba}(w:Ag1 l){k:Int}(h:0≤k∧k<(l.length:Int)):Arj K l k=some (A0u l k):=by
 have h3:=Aej w;obtain⟨e1,e2,e3⟩:=Bex w h;unfold Arj;rw[A05 hK w k ⟨by omega,by omega⟩,Z0,e1,if_pos ⟨e2,e3⟩]
 have:=A27 K w (Bew h);unfold A7z at this;rw[this,Z0,Ajc];rfl
theorem Bqi{l:List Ba}(w:Ag1 l){k:Int}(h:0≤k∧k<(l.length:Int)):As4 K l k (gt l k).fUp (gt l k).Gs=some (A6r l k&&A0u l k):=by
 unfold As4 A6r;rw[A27 K w h,Bqh hK w h,Z0];cases (gt l k).Gs==0 with
 |false=>rfl
 |true=>
  cases hc:Azm l k with
  |false=>rfl
  |true=>
   have:plB l (gt l k).fUp=true:=by unfold Azm at hc;rw[Z4]at hc;exact hc.1
   rw[cond_true,cond_true,if_pos (Aso this),bne,Ac2];cases (gt l (Aob .i64 (gt l k).fUp 1)).Bt==Aoa .i64 k 1<;>rfl
theorem Bqj{l:List Ba}(w:Ag1 l){k:Int}(h:0≤k∧k<(l.length:Int))(hp:Ar4 l (gt l k).Gs=true):As5 K l k (gt l k).fUp (gt l k).Gs=some (Bam l k&&(A6r l k&&A0u l k)):=by
 unfold As5 Bam;rw[Bqi hK w h]
 by_cases h0:(gt l k).Gs=0
 ·rw[h0];rfl
 ·rw[Atg h0,Aqr h0,cond_true,if_pos (Ay2 hp h0),bne,Ac2];cases (gt l (Aob .i64 (gt l k).Gs 1)).Gr==Aoa .i64 k 1<;>rfl
theorem Bqk{l:List Ba}(w:Ag1 l){k:Int}(h:0≤k∧k<(l.length:Int))(hp:Ar4 l (gt l k).Gs=true)(hn:Ar4 l (gt l k).Gr=true):As6 K l k (gt l k).fUp (gt l k).Gq (gt l k).Gr (gt l k).Gs=some (Bdo l k&&(Bam l k&&(A6r l k&&A0u l k))):=by
 unfold As6 Bdo;rw[Bqj hK w h hp]
 by_cases h0:(gt l k).Gr=0
 ·rw[h0];rfl
 ·have hi:=Ay2 hn h0;rw[Atg h0,Aqr h0,cond_true,if_pos hi];simp only[bne,Ac2,Z52];cases (gt l (Aob .i64 (gt l k).Gr 1)).Gs==Aoa .i64 k 1<;>cases (gt l (Aob .i64 (gt l k).Gr 1)).fUp==(gt l k).fUp<;>cases (gt l (Aob .i64 (gt l k).Gr 1)).Gq==(gt l k).Gq<;>rfl
theorem Bql{l:List Ba}(w:Ag1 l){k:Int}(h:0≤k∧k<(l.length:Int))(hf:Ar4 l (gt l k).Bt=true)(hp:Ar4 l (gt l k).Gs=true)(hn:Ar4 l (gt l k).Gr=true):As7 K l k (gt l k).Hh (gt l k).C2 (gt l k).Ly (gt l k).fUp (gt l k).Gq (gt l k).Bt (gt l k).Gr (gt l k).Gs (gt l k).Ae (gt l k).Pq (gt l k).Gt (gt l k).Ea (gt l k).Dg=some (Bm6 l k&&(Bdo l k&&(Bam l k&&(A6r l k&&A0u l k)))):=by
 unfold As7 Bm6;rw[Bqk hK w h hp hn]
 by_cases h0:(gt l k).Bt=0
 ·rw[h0];rfl
 ·have hi:=Ay2 hf h0;rw[Atg h0,Aqr h0,cond_true,if_pos hi];simp only[bne,Ac2,Z52];cases (gt l (Aob .i64 (gt l k).Bt 1)).Gs==0<;>cases (gt l (Aob .i64 (gt l k).Bt 1)).fUp==Aoa .i64 k 1<;>cases (gt l (Aob .i64 (gt l k).Bt 1)).Gq==(gt l k).Ly<;>rfl
theorem Bdp{l:List Ba}(w:Ag1 l){k:Int}(h:0≤k∧k<(l.length:Int)):Axj K l k=some (A0g l k&&A0u l k):=by
 have hn:=w.1 _ (Arc h.1 h.2);unfold Axj A0g A28;rw[if_pos h,Ath K (Aej w) hn.up,A0e K w hn.first,A0e K w hn.next,A0e K w hn.prev];simp only[Z0,Ac2];cases hf:Ar4 l (gt l k).Bt with
 |false=>cases (gt l k).fUp != 0<;>cases plB l (gt l k).fUp<;>rfl
 |true=>
 cases hx:Ar4 l (gt l k).Gr with
 |false=>cases (gt l k).fUp != 0<;>cases plB l (gt l k).fUp<;>rfl
 |true=>
 cases hp:Ar4 l (gt l k).Gs with
 |false=>cases (gt l k).fUp != 0<;>cases plB l (gt l k).fUp<;>rfl
 |true=>
 rw[Bql hK w h hf hp hx];simp only[bne];cases (gt l k).fUp==0<;>cases plB l (gt l k).fUp<;>simp only[Bool.not_true,Bool.not_false,cond_true,cond_false,Z30,Bool.false_and,Bool.true_or,Z52,Bool.and_assoc]
theorem Bb3{l:List Ba}(w:Ag1 l):Awo K l=some (A70 l):=by
 have hl:=Aej w;unfold Awo A70;rw[Apw hK l.length (by omega) (fun k=>(gt l (k:Int)).Hh != 1||(A0g l k&&A0u l k)) (some true) (fun n i=>Aph K l n i) (fun n i h=> ?_) (fun n=> ?_)]
 ·cases (List.range l.length).all _<;>rfl
 ·simp only[Aph,Auf];rw[Afe h,cond_true,if_pos (Aje h),Bdp hK w (Aje h),Ag7 (by omega),Z0,Ac2,bne]
  cases (gt l (i:Int)).Hh==1<;>rfl
 ·show Aph K l (n+1) _=_;rw[Aph,Agf (Z9 _),cond_false]
theorem Bqm{l:List Ba}(w:Ag1 l){k:Int}(h:0≤k∧k<(l.length:Int)):Ars K l k (gt l k).fUp (gt l k).Gs=some (A6r l k):=by
 unfold Ars A6r;rw[Ax1 K w h,Z0,bne];cases (gt l k).Gs==0 with
 |false=>rfl
 |true=>
  cases hc:Azm l k with
  |false=>rfl
  |true=>
   have:plB l (gt l k).fUp=true:=by unfold Azm at hc;rw[Z4]at hc;exact hc.1
   rw[if_pos (Aso this)];rfl
theorem Bqn{l:List Ba}(w:Ag1 l){k:Int}(h:0≤k∧k<(l.length:Int))(hp:Ar4 l (gt l k).Gs=true):Art K l k (gt l k).fUp (gt l k).Gs=some (Bam l k&&A6r l k):=by
 unfold Art Bam;rw[Bqm hK w h]
 by_cases h0:(gt l k).Gs=0
 ·rw[h0];rfl
 ·rw[Atg h0,Aqr h0,cond_true,if_pos (Ay2 hp h0),bne,Ac2];cases (gt l (Aob .i64 (gt l k).Gs 1)).Gr==Aoa .i64 k 1<;>rfl
theorem Bqo{l:List Ba}(w:Ag1 l){k:Int}(h:0≤k∧k<(l.length:Int))(hp:Ar4 l (gt l k).Gs=true)(hn:Ar4 l (gt l k).Gr=true):Aru K l k (gt l k).fUp (gt l k).Gq (gt l k).Gr (gt l k).Gs=some (Bdo l k&&(Bam l k&&A6r l k)):=by
 unfold Aru Bdo;rw[Bqn hK w h hp]
 by_cases h0:(gt l k).Gr=0
 ·rw[h0];rfl
 ·have hi:=Ay2 hn h0;rw[Atg h0,Aqr h0,cond_true,if_pos hi];simp only[bne,Ac2,Z52];cases (gt l (Aob .i64 (gt l k).Gr 1)).Gs==Aoa .i64 k 1<;>cases (gt l (Aob .i64 (gt l k).Gr 1)).fUp==(gt l k).fUp<;>cases (gt l (Aob .i64 (gt l k).Gr 1)).Gq==(gt l k).Gq<;>rfl
theorem Bqp{l:List Ba}(w:Ag1 l){k:Int}(h:0≤k∧k<(l.length:Int))(hf:Ar4 l (gt l k).Bt=true)(hp:Ar4 l (gt l k).Gs=true)(hn:Ar4 l (gt l k).Gr=true):Arv K l k (gt l k).Hh (gt l k).C2 (gt l k).Ly (gt l k).fUp (gt l k).Gq (gt l k).Bt (gt l k).Gr (gt l k).Gs (gt l k).Ae (gt l k).Pq (gt l k).Gt (gt l k).Ea (gt l k).Dg=some (Bm6 l k&&(Bdo l k&&(Bam l k&&A6r l k))):=by
 unfold Arv Bm6;rw[Bqo hK w h hp hn]
 by_cases h0:(gt l k).Bt=0
 ·rw[h0];rfl
 ·have hi:=Ay2 hf h0;rw[Atg h0,Aqr h0,cond_true,if_pos hi];simp only[bne,Ac2,Z52];cases (gt l (Aob .i64 (gt l k).Bt 1)).Gs==0<;>cases (gt l (Aob .i64 (gt l k).Bt 1)).fUp==Aoa .i64 k 1<;>cases (gt l (Aob .i64 (gt l k).Bt 1)).Gq==(gt l k).Ly<;>rfl
theorem Ban{l:List Ba}(w:Ag1 l){k:Int}(h:0≤k∧k<(l.length:Int)):Avt K l k=some (A0g l k):=by
 unfold Avt A0g A28;rw[if_pos h,Awi K (Aej w),A0f K w,A0f K w,A0f K w];simp only[Z0,Ac2];cases hf:Ar4 l (gt l k).Bt with
 |false=>rfl
 |true=>
 cases hx:Ar4 l (gt l k).Gr with
 |false=>rfl
 |true=>
 cases hp:Ar4 l (gt l k).Gs with
 |false=>rfl
 |true=>
 rw[Bqp hK w h hf hp hx];simp only[bne];cases (gt l k).fUp==0<;>cases plB l (gt l k).fUp<;>simp only[Bool.not_true,Bool.not_false,cond_true,cond_false,Z30,Bool.false_and,Bool.true_or,Z52,Bool.and_assoc]
theorem Bb4{l:List Ba}(w:Ag1 l):Awu K l=some (A70 l):=by
 have hl:=Aej w;unfold Awu A70;rw[Apw hK l.length (by omega) (fun k=>(gt l (k:Int)).Hh != 1||(A0g l k&&A0u l k)) (some true) (fun n i=>Apk K l n l (l.length:Int) i) (fun n i h=> ?_) (fun n=> ?_)]
 ·cases (List.range l.length).all _<;>rfl
 ·have hc:=Aje h;obtain⟨e1,e2,e3⟩:=Bex w hc
  have e4:=Ax1 K w (Bew hc);unfold A7z at e4
  have e5:decide (((Apg l l.length i).length:Int)>4)= !decide (((Apg l l.length i).length:Int)≤4):=by rw[←decide_not];congr 1;simp
  simp only[Apk,Aus];rw[Afe h,cond_true,if_pos hc,Ban hK w hc,Ag7 (by omega),Z0,A06 hK w,Z0,e1,if_pos ⟨e2,e3⟩,e4,Z0,e5]
  unfold A0u A7z;simp only[Ac2,bne];cases (gt l (i:Int)).Hh==1<;>cases A0g l i<;>cases decide (((Apg l l.length i).length:Int)≤4)<;>cases Azm l (gt (Apg l l.length i) (((Apg l l.length i).length - 1:Nat):Int))<;>rfl
 ·show Apk K l (n+1) _ _ _=_;rw[Apk,Agf (Z9 _),cond_false]
end
theorem A71{c:Er}(hc:Ap7 c=true):Aob .i64 c.Eg 1=c.Eg - 1:=by
 obtain⟨_,b2,_⟩:=Ae1 hc;unfold Aob;rw[Ag4 (by omega) (by omega)]
def Ati (c:Er)(x:Ax):Bool:=
 Ap7 c&&(inB x.A5 0 c.C0&&(inB x.Bt 0 c.C0&&(decide ((x.Dg.length:Int)≤6)&&(x.Dg.all (fun y=>inB y 0 255)&&(Av4 c x.Ae&&(inB x.Gu 0 (c.Eg - 1)&&(decide ((x.Ae.length:Int)>0)||x.Gu==0)))))))
section
variable {K:Nat} (hK:281474976710656≤K)
include hK
theorem A7n (c:Er)(x:Ax)(hw:Azc x):Avh K c x=some (Ati c x):=by
 have h1:=A03 hK hw.tags
 have h2:=A03 hK hw.chunks;unfold Avh Atp;rw[Aw9];simp only[Z0,Asz];cases hc:Ap7 c with
 |false=>simp[Ati,hc]
 |true=>
 have hA:Anz K c x.Ae K 0=some (Av4 c x.Ae):=by
  rw[Apw hK x.Ae.length (by omega) (fun i=>inB (gt x.Ae i) 0 (c.Ae - 1)&& !(x.Ae.take i).contains (gt x.Ae i)) (some true) (fun k i=>Anz K c x.Ae k i) (fun k i h=> ?_) (fun k=> ?_)]
  ·unfold Av4;cases (List.range x.Ae.length).all _<;>rfl
  ·have hp:(x.Ae.take i).length≤140737488355328:=by simp;omega
   simp only[Anz];rw[Afe h,cond_true,if_pos (Aje h),Asz,if_pos (Bbs (by omega)),A6i,Axy hK _ _ hp,Ag7 (by omega),A24 hK hc]
   simp only[Z0,if_pos (Aje h)];cases inB (gt x.Ae i) 0 (c.Ae - 1)<;>cases (x.Ae.take i).contains (gt x.Ae i)<;>rfl
  ·show Anz K c x.Ae (k+1) _=_;rw[Anz,Agf (Z9 _),cond_false]
 have hB:Apr K c x.Dg x.Ae K 0=some (x.Dg.all (fun y=>inB y 0 255)&&Av4 c x.Ae):=by
  rw[Ar8 hK x.Dg (by omega) (fun y=>inB y 0 255) (some (Av4 c x.Ae)) (Apr K c x.Dg x.Ae) (fun k i h=> ?_) (fun k=> ?_)]
  ·rw[Ajc]
  ·rw[Apr,Afe h,cond_true,if_pos (Aje h),Aeg h,Asz,Ag7 (by omega),Z0,Ac2]
  ·rw[Apr,Agf (Z9 _),cond_false,hA]
 rw[hB,A71 hc]
 have e6:decide ((x.Dg.length:Int)>6)= !decide ((x.Dg.length:Int)≤6):=by rw[←decide_not];congr 1;simp
 have e0:decide ((x.Ae.length:Int)>0)= !((x.Ae.length:Int)==0):=by
  rw[Bool.eq_iff_iff];simp only[decide_eq_true_eq,Zh,beq_eq_false_iff_ne];omega
 unfold Ati;simp only[cond_true,e6,e0,Ac2,bne,hc,Z30];cases (x.Ae.length:Int)==0 with
 |true=>
  simp only[cond_true,Bool.not_true,Z52,Ajc,Z7]
  ac_rfl
 |false=>
  simp only[cond_false,Bool.not_false,Bool.true_or,Ajc,Z7,Bool.and_true]
  ac_rfl
theorem A7o (c:Er)(x:Ax)(hw:Azc x):Avu K c x=some (Ati c x):=by
 have h1:=A03 hK hw.tags
 have h2:=A03 hK hw.chunks;unfold Avu;rw[A0a];simp only[Z0,Aty];cases hc:Ap7 c with
 |false=>simp[Ati,hc]
 |true=>
 rw[Ayu hK _ (by omega),A0s hK hc _ h2,A71 hc]
 unfold Ati;simp only[Z0,cond_true,hc,Z30,Axx,Ajc]
end
theorem Av7{c:Er}{x:Ax}(h:Ati c x=true):Ap7 c=true∧(0≤x.A5∧x.A5≤c.C0)∧(0≤x.Bt∧x.Bt≤c.C0)∧Av4 c x.Ae=true∧(0≤x.Gu∧x.Gu≤c.Eg - 1):=by
 unfold Ati at h;simp only[Z4,Ayk]at h;exact⟨h.1,h.2.1,h.2.2.1,h.2.2.2.2.2.1,h.2.2.2.2.2.2.1⟩
theorem A3o{c:Er}{l:List Int}(h:Av4 c l=true): ∀x∈l,0≤x∧x<c.Ae:=by
 intro x hx;obtain⟨i,hi,e⟩:=List.mem_iff_getElem.1 hx;unfold Av4 at h;rw[Z1]at h
 have:=h i (by simpa using hi)
 rw[Z4,Aeg hi,e,Ayk]at this;omega
theorem A6s{l:List Int}:l.Nodup ↔ ∀i,(h:i<l.length)->l[i] ∉ l.take i:=by
 unfold List.Nodup;rw[List.pairwise_iff_getElem];constructor
 ·intro h i hi hm;obtain⟨j,hj,e⟩:=List.mem_iff_getElem.1 hm;rw[List.getElem_take]at e;simp only[List.length_take]at hj;exact h j i (by omega) hi (by omega) e
 ·intro h i j hi hj hij e;exact h j hj (List.mem_iff_getElem.2 ⟨i,by simp;omega,by rw[List.getElem_take];exact e⟩)
theorem A6t{c:Er}{l:List Int}(h:Av4 c l=true):l.Nodup:=by
 rw[A6s];intro i hi hm;unfold Av4 at h;rw[Z1]at h
 have:=h i (by simpa using hi)
 rw[Z4,Aeg hi,Zh,List.contains_eq_mem]at this;exact absurd hm (of_decide_eq_false this.2)
theorem A08{l:List Int}: ∀ {o:List Int},o.Nodup->(∀x∈o,x∈l)->o.length≤l.length:=by
 intro o
 induction o generalizing l with
 |nil=>intro _ _;exact Z21 _
 |cons x o ih=>
  intro hn hs
  have hx:x∈l:=hs x (by simp)
  rw[List.nodup_cons]at hn
  have h2:=ih (l:=l.erase x) hn.2 (fun y hy=>by
   have hne:y≠x:=fun e=>hn.1 (e ▸ hy);exact(List.mem_erase_of_ne hne).2 (hs y (by simp[hy])))
  rw[List.length_erase_of_mem hx]at h2
  have:0<l.length:=List.length_pos_of_mem hx;simp only[Y9];omega
theorem A6u{c:Er}(hc:Ap7 c=true){l:List Int}(h:Av4 c l=true):l.length≤12:=by
 obtain⟨b1,_⟩:=Ae1 hc
 have:=A08 (l:=(List.range 12).map (fun i:Nat=>(i:Int))) (A6t h) (fun x hx=>by
  have:=A3o h x hx;rw[Eo];exact⟨x.toNat,by simp;omega,by omega⟩)
 simpa using this
def Axi (l:List Ba):Nat->Int->List Int
 |0,_=>[]
 |n+1,k=>if 0≤k∧k<(l.length:Int)then k::Axi l n (Aob .i64 (gt l k).Gr 1)else []
theorem A6v{l:List Ba}: ∀(n:Nat) (k:Int),∀x∈Axi l n k,0≤x∧x<(l.length:Int):=by
 intro n
 induction n with
 |zero=>intro k x hx;cases hx
 |succ n ih=>
  intro k x hx;unfold Axi at hx;split at hx
  ·rename_i h;rcases D6.1 hx with rfl|hx
   ·exact h
   ·exact ih _ x hx
  ·cases hx
theorem A0m{l:List Ba}: ∀(n:Nat) (k:Int),(Axi l n k).length≤n:=by
 intro n
 induction n with
 |zero=>intro k;exact Z9 _
 |succ n ih=>
  intro k;unfold Axi;split
  ·simp only[Y9];have:=ih (Aob .i64 (gt l k).Gr 1);omega
  ·exact Z21 _
def Anh (l:List Ba)(first:Int):List Int:=Axi l l.length (Aob .i64 first 1)
def Axa (l:List Ba)(k:Int):Bool:=(gt l k).Hh==1&&((gt l k).fUp != 0&& !Azm l k)
theorem A3f (K:Nat){l:List Ba}(w:Ag1 l){k:Int}(h:0≤k∧k<(l.length:Int)):Ark K l k=some (Axa l k):=by
 unfold Ark Axa;rw[if_pos h,if_pos h,A27 K w h,Z0,Ajc,Ajc]
theorem A3g (K:Nat){l:List Ba}(w:Ag1 l){k:Int}(h:0≤k∧k<(l.length:Int)):Aq0 K l k=some (Axa l k):=by
 unfold Aq0 Axa;rw[if_pos h,if_pos h,Ax1 K w h,Z0,Ajc,Ajc]
section
variable {K:Nat} (hK:281474976710656≤K)
theorem Bgg{l:List Ba}(w:Ag1 l): ∀(n:Nat) (k:Int) (v:List Int),wfi k->v.length≤l.length->l.length - v.length<n->Ase K l n k v=some (v++Axi l (l.length - v.length) (Aob .i64 k 1)):=by
 have hm:=Anj
 have hb:l.length*152≤140737488355327:=w.2;intro n
 induction n with
 |zero=>intro k v _ _ h;omega
 |succ n ih=>
  intro k v hk hv hn;rw[Ase,Ath K (Aej w) hk];simp only[Z0]
  by_cases hs:0≤Aob .i64 k 1∧Aob .i64 k 1<(l.length:Int)
  ·rw[show plB l k=true from decide_eq_true hs]
   simp only[cond_true];rcases F9 v.length l.length with h|h
   ·rw[Afe h];simp only[cond_true]
    have hl2:(v++[Aob .i64 k 1]).length=v.length+1:=by simp
    rw[if_pos ⟨by rw[hl2];omega,by rw[hl2];omega⟩,if_pos hs,ih (gt l (Aob .i64 k 1)).Gr _ (w.1 _ (Arc hs.1 hs.2)).next (by rw[hl2];omega) (by rw[hl2];omega),hl2]
    obtain⟨m,hm⟩: ∃m,l.length - v.length=m+1:=⟨l.length - v.length - 1,by omega⟩
    rw[hm,Axi,if_pos hs,show l.length - (v.length+1)=m from by omega]
    simp
   ·rw[Agf h];rw[show l.length - v.length=0 from by omega]
    simp[Axi]
  ·rw[show plB l k=false from decide_eq_false hs]
   have:Axi l (l.length - v.length) (Aob .i64 k 1)=[]:=by
    cases l.length - v.length with
    |zero=>rfl
    |succ m=>rw[Axi,if_neg hs]
   rw[this];simp
theorem Bgh{l:List Ba}(w:Ag1 l): ∀(n:Nat) (k:Int) (v:List Int),v.length≤l.length->l.length - v.length<n->Ash K l n v k=some (v++Axi l (l.length - v.length) k):=by
 have hm:=Anj
 have hb:l.length*152≤140737488355327:=w.2;intro n
 induction n with
 |zero=>intro k v _ h;omega
 |succ n ih=>
  intro k v hv hn;rw[Ash,Axr K (by omega)]
  simp only[Z0]
  by_cases hs:0≤k∧k<(l.length:Int)
  ·rw[decide_eq_true hs];simp only[cond_true];rcases F9 v.length l.length with h|h
   ·rw[Afe h];simp only[cond_true]
    have hl2:(v++[k]).length=v.length+1:=by simp
    rw[if_pos ⟨by rw[hl2];omega,by rw[hl2];omega⟩,if_pos hs,ih _ _ (by rw[hl2];omega) (by rw[hl2];omega),hl2]
    obtain⟨m,hm⟩: ∃m,l.length - v.length=m+1:=⟨l.length - v.length - 1,by omega⟩
    rw[hm,Axi,if_pos hs,show l.length - (v.length+1)=m from by omega]
    simp
   ·rw[Agf h];rw[show l.length - v.length=0 from by omega]
    simp[Axi]
  ·rw[decide_eq_false hs]
   have:Axi l (l.length - v.length) k=[]:=by
    cases l.length - v.length with
    |zero=>rfl
    |succ m=>rw[Axi,if_neg hs]
   rw[this];simp
include hK
theorem A3h{l:List Ba}(w:Ag1 l){k:Int}(hk:wfi k):At6 K l k=some (Anh l k):=by
 have hb:=Aej w;unfold At6 Anh
 have:=Bgg (K:=K) w K k [] hk (Z21 _) (by simp;omega)
 simpa using this
theorem Bb5{l:List Ba}(w:Ag1 l)(k:Int):Awv K l k=some (Anh l k):=by
 have hb:=Aej w;unfold Awv Anh
 have:=Bgh (K:=K) w K (Aob .i64 k 1) [] (Z21 _) (by simp;omega)
 simpa using this
def A14 (w:Eb)(x:Ax):Bool:= !decide ((x.Ae.length:Int)>0)||Ay0 ((w.fP.Fy.drop (gt x.Ae 0*w.fC.Eg).toNat).take x.Gu.toNat)
def Av8 (w:Eb)(x:Ax):Bool:=x.A5==0||(gt w.fL (Aob .i64 x.A5 1)).Hh==2
def Axb (w:Eb)(x:Ax):Bool:=x.Bt==0||(gt w.fL (Aob .i64 x.Bt 1)).Gs==0
def A0n (w:Eb)(x:Ax):Bool:=x.Ae.all (fun k=>gt w.fP.Hh k==2)
def Asa (w:Eb)(x:Ax):Bool:=(Anh w.fL x.Bt).all (Axa w.fL)
def An3 (w:Eb)(x:Ax):Bool:=Ati w.fC x&&(A0n w x&&(A14 w x&&(Av8 w x&&(Axb w x&&Asa w x))))
theorem A15{w:Eb}(hL:(w.fL.length:Int)=w.fC.C0)(hc:Ap7 w.fC=true){n:Int}(h0:n≠0)(h1:0≤n)(h2:n≤w.fC.C0):0≤Aob .i64 n 1∧Aob .i64 n 1<(w.fL.length:Int):=by
 obtain⟨_,_,b3,_⟩:=Ae1 hc;unfold Aob;rw[Ag4 (by omega) (by omega)]
 omega
theorem A7p (w:Eb)(hw:Aqs w)(hp:Ava w.fC w.fP=true)(hL:(w.fL.length:Int)=w.fC.C0)(i:Nat)(hi:i<w.fQ.length):Aug K w i=some (An3 w (gt w.fQ i)):=by
 have hx:=hw.q.1 _ (Apl hi);unfold Aug;rw[if_pos (Aje hi)];generalize gt w.fQ i=x at *;rw[A7n hK _ _ hx,Z0,Ac2];unfold An3;cases hr:Ati w.fC x with
 |false=>rfl
 |true=>
 rw[cond_true,Z30];obtain⟨hc,⟨s1,s2⟩,⟨f1,f2⟩,hd,d1,d2⟩:=Av7 hr;obtain⟨_,hm,hst,_⟩:=Awf hp;obtain⟨b1,b2,b3,_⟩:=Ae1 hc
 have hch:=A3o hd
 have hl:=A03 hK hx.chunks
 have h3:Aox K x.Bt w.fL=some (Asa w x):=by
  unfold Aox Asa
  have hk:=A0m (l:=w.fL) w.fL.length (Aob .i64 x.Bt 1)
  have hin:=A6v (l:=w.fL) w.fL.length (Aob .i64 x.Bt 1);rw[A3h hK hw.l hx.first,Z0];change (Anh w.fL x.Bt).length≤_ at hk;change ∀y∈Anh w.fL x.Bt,_ at hin;generalize Anh w.fL x.Bt=r at *;rw[Ar8 hK r (by omega) (Axa w.fL) (some true) (Apz K w.fL r) (fun n i h=> ?_) (fun n=> ?_)]
  ·cases r.all _<;>rfl
  ·rw[Apz,Afe h,cond_true,if_pos (Aje h),A3f K hw.l (hin _ (Apl h)),Ag7 (by omega),Z0,Ac2,Aeg h]
  ·rw[Apz,Agf (Z9 _),cond_false]
 have h2:Aq3 K x.A5 x.Bt w.fL=some (Av8 w x&&(Axb w x&&Asa w x)):=by
  unfold Aq3 Av8 Axb;rw[h3]
  by_cases g1:x.Bt=0
  ·rw[g1]
   by_cases g2:x.A5=0
   ·rw[g2];rfl
   ·rw[Atg g2,Aqr g2,cond_true,if_pos (A15 hK hL hc g2 s1 s2)];simp only[bne,Ac2,Z52];cases (gt w.fL (Aob .i64 x.A5 1)).Hh==2<;>rfl
  ·have hF:(bif (x.Bt != 0)then(if(0:Int)≤(Aob .i64 x.Bt 1)∧(Aob .i64 x.Bt 1)<(w.fL.length:Int)then(bif (((gt w.fL (Aob .i64 x.Bt 1)).Gs) != 0)then some false else some (Asa w x))else none)else some (Asa w x))=some ((x.Bt==0||(gt w.fL (Aob .i64 x.Bt 1)).Gs==0)&&Asa w x):=by
    rw[Atg g1,Aqr g1,cond_true,if_pos (A15 hK hL hc g1 f1 f2)];simp only[bne,Ac2,Z52,Ajc]
   rw[hF]
   by_cases g2:x.A5=0
   ·rw[g2];rfl
   ·rw[Atg g2,Aqr g2,cond_true,if_pos (A15 hK hL hc g2 s1 s2)];simp only[bne,Ac2,Z52,Ajc]
 rw[Ar8 hK x.Ae (by omega) (fun k=>gt w.fP.Hh k==2) (some (A14 w x&&(Av8 w x&&(Axb w x&&Asa w x)))) (fun n i=>Aoy K n i x.A5 x.Bt x.Dg x.Ae x.Gu w.fC.Ae w.fC.Eg w.fC.C0 w.fC.E9 w.fC.C1 w.fC.Eh w.fP.Fy w.fP.Hh w.fP.Fz w.fL w.fQ w.Pr) (fun n i h=> ?_) (fun n=> ?_)]
 ·rw[Ajc];rfl
 ·simp only[Aoy]
  have h5:=hch _ (Apl h);rw[Afe h,cond_true,if_pos (Aje h),if_pos ⟨h5.1,by omega⟩,Ag7 (by omega),bne,Ac2,Aeg h]
 ·show Aoy K (n+1) _ _ _ _ _ _ _ _ _ _ _ _ _ _ _ _ _ _=_;rw[Aoy,Agf (Z9 _),cond_false,h2];unfold A14
  by_cases g:(x.Ae.length:Int)>0
  ·have h5:=hch _ (Arc (l:=x.Ae) (Int.le_refl 0) (by omega))
   obtain⟨e1,e2,e3,e4⟩:=A1y hc hm h5.1 h5.2
   have e5:Aoa .i64 (gt x.Ae 0*w.fC.Eg) x.Gu=gt x.Ae 0*w.fC.Eg+x.Gu:=by
    have:=A1x (a:=gt x.Ae 0) (b:=w.fC.Eg) (m:=12) (n:=16) h5.1 (by omega) (by omega) b2.2
    unfold Aoa;rw[Ag4 (by omega) (by omega)]
   rw[decide_eq_true g,cond_true,if_pos ⟨by omega,by omega⟩,if_pos ⟨by omega,by omega⟩,e1,e5,if_pos ⟨e3,by omega,by omega⟩,A0b hK _ (by simp;omega),show gt x.Ae 0*w.fC.Eg+x.Gu - gt x.Ae 0*w.fC.Eg=x.Gu by omega]
   simp only[Z0,Ac2,Ajc,Bool.not_true,Z52]
  ·rw[decide_eq_false g];rfl
end
def Ak7 (N:Nat)(l:List Int):List Int:=(List.range N).map (fun k:Nat=>((l.count (k:Int):Nat):Int))
theorem A0h (N:Nat)(l:List Int):(Ak7 N l).length=N:=by simp[Ak7]
theorem Azf{N:Nat}{l:List Int}{x:Int}(h0:0≤x)(h1:x<N):gt (Ak7 N l) x=((l.count x:Nat):Int):=by
 obtain⟨k,rfl⟩: ∃k:Nat,x=k:=⟨x.toNat,by omega⟩
 rw[Aeg (by rw[A0h];omega)]
 simp[Ak7]
theorem Bb6 (N:Nat):Ak7 N []=List.replicate N 0:=by
 refine List.ext_getElem (by simp[Ak7]) fun i h1 h2=> ?_
 simp[Ak7]
theorem Bb7{N:Nat}{l:List Int}{x:Int}(h0:0≤x)(h1:x<N)(hl:l.length≤140737488355327):(Ak7 N l).set x.toNat (Aoa .i64 (gt (Ak7 N l) x) 1)=Ak7 N (l++[x]):=by
 have hc:l.count x≤l.length:=List.count_le_length
 have e:Aoa .i64 (gt (Ak7 N l) x) 1=((l.count x+1:Nat):Int):=by
  rw[Azf h0 h1,Ag7 (by omega)]
 rw[e];refine List.ext_getElem (by simp[Ak7]) fun i h2 h3=> ?_
 rw[List.getElem_set];simp only[Ak7,List.getElem_map,List.getElem_range,List.count_append,List.count_singleton]
 by_cases hi:x.toNat=i
 ·rw[if_pos hi]
  have:x=(i:Int):=by omega
  simp[this]
 ·rw[if_neg hi]
  have: ¬x=(i:Int):=by omega
  simp[this]
theorem A6w{C P:List Int}(hs: ∀x∈C,x∈P)(hP:P.Nodup):(∀x∈P,C.count x=1) ↔ (C.Nodup∧C.length=P.length):=by
 constructor
 ·intro h
  have hn:C.Nodup:=by
   rw[List.nodup_iff_count];intro a
   by_cases ha:a∈C
   ·rw[h a (hs a ha)];omega
   ·rw[List.count_eq_zero_of_not_mem ha];omega
  refine⟨hn,?_⟩
  have h1:=A08 hn hs
  have h2:=A08 hP (l:=C) (fun x hx=>List.count_pos_iff.1 (by rw[h x hx];omega))
  omega
 ·rintro⟨hn,hl⟩ x hx
  have hp:=A3e hn hs hl
  have:=hn.count (a:=x);rw[this,if_pos (hp.mem_iff.2 hx)]
def chL (q:List Ax):List Int:=q.flatMap (fun x=>x.Ae)
def slL (q:List Ax):List Int:=q.flatMap (fun x=>if x.A5=0 then []else [Aob .i64 x.A5 1])
def kdL (l:List Ba)(q:List Ax):List Int:=q.flatMap (fun x=>Anh l x.Bt)
theorem Axs{α β:Type}(q:List α)(f:α->List β)(i:Nat)(h:i<q.length):(q.take (i+1)).flatMap f=(q.take i).flatMap f++f q[i]:=by
 rw[←List.take_append_getElem h,List.flatMap_append];simp
theorem A16{α β:Type}(q:List α)(f:α->List β)(m:Nat)(h: ∀x∈q,(f x).length≤m):(q.flatMap f).length≤q.length*m:=by
 induction q with
 |nil=>simp
 |cons x q ih=>
  have h1:=h x (by simp)
  have h2:=ih fun y hy=>h y (by simp[hy])
  simp only[List.flatMap_cons,Ln,Y9,Hw,Nat.one_mul];omega
def A3i (w:Eb):List Int:=((List.range w.fP.Hh.length).filter (fun k:Nat=>gt w.fP.Hh k==2)).map (fun k:Nat=>(k:Int))
def A0v (w:Eb):List Int:=((List.range w.fL.length).filter (fun k:Nat=>(gt w.fL k).Hh==2)).map (fun k:Nat=>(k:Int))
def A6x (w:Eb):List Int:=((List.range w.fL.length).filter (fun k:Nat=>Axa w.fL k)).map (fun k:Nat=>(k:Int))
theorem A09 (N:Nat)(p:Nat->Bool):(((List.range N).filter p).map (fun k:Nat=>(k:Int))).Nodup:=by
 unfold List.Nodup;rw[List.pairwise_map];exact(List.Pairwise.filter _ List.pairwise_lt_range).imp fun h=>by omega
theorem Av9{N:Nat}{p:Nat->Bool}{x:Int}:x∈((List.range N).filter p).map (fun k:Nat=>(k:Int)) ↔ (0≤x∧x<(N:Int))∧p x.toNat=true:=by
 simp only[Eo,List.mem_filter,List.mem_range];constructor
 ·rintro⟨k,⟨h1,h2⟩,rfl⟩;exact⟨⟨by omega,by omega⟩,by simpa using h2⟩
 ·rintro⟨⟨h1,h2⟩,h3⟩;exact⟨x.toNat,⟨by omega,h3⟩,by omega⟩
def Aw1 (w:Eb)(N:Nat):Bool:=
 (List.range w.fP.Hh.length).all (fun k=> !(gt w.fP.Hh k==2)||gt (Ak7 N (chL w.fQ)) k==1)&&
 (List.range w.fL.length).all (fun k=>(!((gt w.fL k).Hh==2)||gt (Ak7 w.fL.length (slL w.fQ)) k==1)&&(!Axa w.fL k||gt (Ak7 w.fL.length (kdL w.fL w.fQ)) k==1))
def A1a (q:List Ax)(i k:Nat):Bool:= !((gt q i).A5 != 0&&(gt q k).A5==(gt q i).A5)&&(gt q i).Ae.all (fun y=> !(gt q k).Ae.contains y)
def Bao (q:List Ax):Bool:=(List.range q.length).all (fun i=>(List.range i).all (fun k=>A1a q i k))
def A29 (l:List Int):Bool:=(List.range l.length).all (fun i=> !(l.take i).contains (gt l i))
def A3p (w:Eb):Bool:=
 Bao w.fQ&&(A29 (kdL w.fL w.fQ)&&((((chL w.fQ).length:Int)==((A3i w).length:Int))&&((((slL w.fQ).length:Int)==((A0v w).length:Int))&&(((kdL w.fL w.fQ).length:Int)==((A6x w).length:Int)))))
theorem Bdq (l:List Int):A29 l=true ↔ l.Nodup:=by
 rw[A6s];unfold A29;simp only[Z1,List.mem_range,Zh,List.contains_eq_mem,decide_eq_false_iff_not];exact⟨fun h i hi=>by have:=h i hi;rwa[Aeg hi]at this,fun h i hi=>by rw[Aeg hi];exact h i hi⟩
theorem Bb8{w:Eb}{q:List Ax}(h1: ∀x∈q,x.Ae.Nodup)(h2: ∀x∈q,0≤x.A5∧x.A5≤8):Bao q=true ↔ (chL q).Nodup∧(slL q).Nodup:=by
 unfold chL slL List.Nodup;rw[List.pairwise_flatMap,List.pairwise_flatMap,List.pairwise_iff_getElem,List.pairwise_iff_getElem]
 have hs: ∀x∈q,List.Pairwise (fun a b:Int=>a≠b) (if x.A5=0 then []else [Aob .i64 x.A5 1]):=by
  intro x _;split<;>simp
 have hsub: ∀x∈q,Aob .i64 x.A5 1=x.A5 - 1:=by
  intro x hx;have:=h2 x hx;unfold Aob;rw[Ag4 (by omega) (by omega)]
 unfold Bao A1a;simp only[Z1,List.mem_range,Z4,Zh,List.contains_eq_mem,decide_eq_false_iff_not];constructor
 ·intro h;refine⟨⟨h1,fun i j hi hj hij x hx y hy e=> ?_⟩,hs,fun i j hi hj hij x hx y hy e=> ?_⟩
  ·have:=(h j hj i hij).2;rw[Aeg hi,Aeg hj]at this;subst e;exact this x hy hx
  ·have:=(h j hj i hij).1;rw[Aeg hi,Aeg hj]at this;split at hx
   ·cases hx
   ·split at hy
    ·cases hy
    ·rename_i g1 g2;simp only[Qo]at hx hy;subst hx;subst hy;rw[hsub _ (List.getElem_mem hi),hsub _ (List.getElem_mem hj)]at e;rw[Atg g2,Z30,beq_eq_false_iff_ne]at this;exact this (by omega)
 ·rintro⟨⟨_,h3⟩,_,h4⟩ i hi k hk
  have hk':k<q.length:=by omega
  rw[Aeg hi,Aeg hk'];refine⟨?_,fun x hx hy=>h3 k i hk' hi hk x hy x hx rfl⟩;rw[Bool.and_eq_false_iff]
  by_cases g:q[i].A5=0
  ·left;simp[g]
  ·right;rw[beq_eq_false_iff_ne];intro e;refine h4 k i hk' hi hk (Aob .i64 q[k].A5 1) ?_ (Aob .i64 q[i].A5 1) ?_ (by rw[e])
   ·rw[if_neg (by rw[e];exact g)];simp
   ·rw[if_neg g];simp
theorem Byb{w:Eb}(hp:Ava w.fC w.fP=true)(hL:(w.fL.length:Int)=w.fC.C0)(hq: ∀x∈w.fQ,An3 w x=true):Aw1 w w.fC.Ae.toNat=A3p w:=by
 obtain⟨hc,hm,hst,_⟩:=Awf hp;obtain⟨b1,b2,b3,_⟩:=Ae1 hc
 have hone: ∀x∈w.fQ,(0≤x.A5∧x.A5≤w.fC.C0)∧Av4 w.fC x.Ae=true∧A0n w x=true∧Av8 w x=true∧Asa w x=true:=by
  intro x hx
  have:=hq x hx;unfold An3 at this;simp only[Z4]at this;obtain⟨h1,h2,h3,h4,h5,h6⟩:=this;obtain⟨_,g1,_,g3,_⟩:=Av7 h1;exact⟨g1,g3,h2,h4,h6⟩
 have hC: ∀x∈chL w.fQ,x∈A3i w:=by
  intro y hy;unfold chL at hy;rw[List.mem_flatMap]at hy;obtain⟨x,hx,hy⟩:=hy;obtain⟨_,g2,g3,_⟩:=hone x hx
  have:=A3o g2 y hy;unfold A0n at g3;rw[Z1]at g3
  have g4:=g3 y hy;refine Av9.2 ⟨⟨this.1,by omega⟩,?_⟩
  rw[show((y.toNat:Nat):Int)=y by omega];exact g4
 have hS: ∀x∈slL w.fQ,x∈A0v w:=by
  intro y hy;unfold slL at hy;rw[List.mem_flatMap]at hy;obtain⟨x,hx,hy⟩:=hy;obtain⟨g1,g2,g3,g4,_⟩:=hone x hx;split at hy
  ·cases hy
  ·rename_i g;simp only[Qo]at hy;unfold Av8 at g4;rw[Aqr g,Z52,←hy]at g4
   have:y=x.A5 - 1:=by rw[hy];unfold Aob;rw[Ag4 (by omega) (by omega)]
   refine Av9.2 ⟨⟨by omega,by omega⟩,?_⟩
   rw[show((y.toNat:Nat):Int)=y by omega];exact g4
 have hK2: ∀x∈kdL w.fL w.fQ,x∈A6x w:=by
  intro y hy;unfold kdL at hy;rw[List.mem_flatMap]at hy;obtain⟨x,hx,hy⟩:=hy;obtain⟨g1,g2,g3,g4,g5⟩:=hone x hx;unfold Asa at g5;rw[Z1]at g5
  have:=A6v _ _ y hy;refine Av9.2 ⟨this,?_⟩;rw[show((y.toNat:Nat):Int)=y by omega];exact g5 y hy
 have e1:=A6w hC (A09 _ _)
 have e2:=A6w hS (A09 _ _)
 have e3:=A6w hK2 (A09 _ _)
 have hp2:=Bb8 (w:=w) (q:=w.fQ) (fun x hx=>A6t (hone x hx).2.1) (fun x hx=>by have:=(hone x hx).1;omega)
 rw[Bool.eq_iff_iff];unfold Aw1 A3p;simp only[Z4,Z1,List.mem_range,Bool.or_eq_true,Zh,beq_iff_eq,Bdq,hp2,beq_eq_false_iff_ne]
 have c1:(∀x∈A3i w,(chL w.fQ).count x=1) ↔ ∀k,k<w.fP.Hh.length->gt w.fP.Hh (k:Int)≠2∨gt (Ak7 w.fC.Ae.toNat (chL w.fQ)) (k:Int)=1:=by
  constructor
  ·intro h k hk
   by_cases g:gt w.fP.Hh (k:Int)=2
   ·right;rw[Azf (by omega) (by omega),h k (Av9.2 ⟨⟨by omega,by omega⟩,by simpa using g⟩)];rfl
   ·left;exact g
  ·intro h x hx;obtain⟨⟨h1,h2⟩,h3⟩:=Av9.1 hx;rw[beq_iff_eq,show((x.toNat:Nat):Int)=x by omega]at h3
   rcases h x.toNat (by omega)with h4|h4
   ·rw[show((x.toNat:Nat):Int)=x by omega]at h4;exact absurd h3 h4
   ·rw[show((x.toNat:Nat):Int)=x by omega,Azf h1 (by omega)]at h4;omega
 have c2:(∀x∈A0v w,(slL w.fQ).count x=1) ↔ ∀k,k<w.fL.length->(gt w.fL (k:Int)).Hh≠2∨gt (Ak7 w.fL.length (slL w.fQ)) (k:Int)=1:=by
  constructor
  ·intro h k hk
   by_cases g:(gt w.fL (k:Int)).Hh=2
   ·right;rw[Azf (by omega) (by omega),h k (Av9.2 ⟨⟨by omega,by omega⟩,by simpa using g⟩)];rfl
   ·left;exact g
  ·intro h x hx;obtain⟨⟨h1,h2⟩,h3⟩:=Av9.1 hx;rw[beq_iff_eq,show((x.toNat:Nat):Int)=x by omega]at h3
   rcases h x.toNat (by omega)with h4|h4
   ·rw[show((x.toNat:Nat):Int)=x by omega]at h4;exact absurd h3 h4
   ·rw[show((x.toNat:Nat):Int)=x by omega,Azf h1 (by omega)]at h4;omega
 have c3:(∀x∈A6x w,(kdL w.fL w.fQ).count x=1) ↔ ∀k,k<w.fL.length->Axa w.fL (k:Int)=false∨gt (Ak7 w.fL.length (kdL w.fL w.fQ)) (k:Int)=1:=by
  constructor
  ·intro h k hk;cases g:Axa w.fL (k:Int)with
   |true=>
    right;rw[Azf (by omega) (by omega),h k (Av9.2 ⟨⟨by omega,by omega⟩,by simpa using g⟩)];rfl
   |false=>left;rfl
  ·intro h x hx;obtain⟨⟨h1,h2⟩,h3⟩:=Av9.1 hx;rw[show((x.toNat:Nat):Int)=x by omega]at h3
   rcases h x.toNat (by omega)with h4|h4
   ·rw[show((x.toNat:Nat):Int)=x by omega,h3]at h4;cases h4
   ·rw[show((x.toNat:Nat):Int)=x by omega,Azf h1 (by omega)]at h4;omega
 rw[←c1,e1]
 have hsplit:(∀k,k<w.fL.length->((gt w.fL (k:Int)).Hh≠2∨gt (Ak7 w.fL.length (slL w.fQ)) (k:Int)=1)∧(Axa w.fL (k:Int)=false∨gt (Ak7 w.fL.length (kdL w.fL w.fQ)) (k:Int)=1)) ↔ (((slL w.fQ).Nodup∧(slL w.fQ).length=(A0v w).length)∧((kdL w.fL w.fQ).Nodup∧(kdL w.fL w.fQ).length=(A6x w).length)):=by
  rw[←show _ ↔ ((slL w.fQ).Nodup∧(slL w.fQ).length=(A0v w).length) from c2.symm.trans e2,←show _ ↔ ((kdL w.fL w.fQ).Nodup∧(kdL w.fL w.fQ).length=(A6x w).length) from c3.symm.trans e3]
  exact⟨fun h=>⟨fun k hk=>(h k hk).1,fun k hk=>(h k hk).2⟩,fun h k hk=>⟨h.1 k hk,h.2 k hk⟩⟩
 rw[hsplit];constructor
 ·rintro⟨⟨a1,a2⟩,⟨a3,a4⟩,a5,a6⟩;exact⟨⟨a1,a3⟩,a5,by omega,by omega,by omega⟩
 ·rintro⟨⟨a1,a3⟩,a5,a2,a4,a6⟩;exact⟨⟨a1,by omega⟩,⟨a3,by omega⟩,a5,by omega⟩
theorem Bap{α β:Type}{K:Nat}(hK:281474976710656≤K)(l:List α)(hl:l.length≤140737488355328)(q:α->Bool)(fin bad:Option β)(L:Nat->Nat->Option β)
  (hs: ∀n (i:Nat) (h:i<l.length),L (n+1) i=bif q l[i]then L n (i+1)else bad)
  (he: ∀n,L (n+1) l.length=fin):L K 0=bif l.all q then fin else bad:=by
 have:=Bes l q fin bad (fun n i=>L n i.toNat) (fun n i h=>by simpa using hs n i h) (fun n=>by simpa using he n) K 0 (Z21 _) (by omega)
 simpa using this
section
variable {K:Nat} (hK:281474976710656≤K)
include hK
theorem Bgi (w:Eb)(hw:Aqs w):Aek K (Ak7 w.fL.length (slL w.fQ)) (Ak7 w.fL.length (kdL w.fL w.fQ)) w.fL K (w.fL.length:Int) 0 w.fL=some ((List.range w.fL.length).all (fun k=>(!((gt w.fL (k:Int)).Hh==2)||gt (Ak7 w.fL.length (slL w.fQ)) k==1)&&(!Axa w.fL k||gt (Ak7 w.fL.length (kdL w.fL w.fQ)) k==1))):=by
 have hl:=Aej hw.l
 rw[Apw hK w.fL.length (by omega) (fun k=>(!((gt w.fL (k:Int)).Hh==2)||gt (Ak7 w.fL.length (slL w.fQ)) k==1)&&(!Axa w.fL k||gt (Ak7 w.fL.length (kdL w.fL w.fQ)) k==1)) (some true) (fun n i=>Aek K (Ak7 w.fL.length (slL w.fQ)) (Ak7 w.fL.length (kdL w.fL w.fQ)) w.fL n (w.fL.length:Int) i w.fL) (fun n i h=> ?_) (fun n=> ?_)]
 ·cases (List.range w.fL.length).all _<;>rfl
 ·simp only[Aek,Ak8];rw[Afe h,cond_true,if_pos (Aje h),A3g K hw.l (Aje h),Ag7 (by omega)]
  simp only[Z0,A0h,if_pos (Aje h),bne,Ac2];cases (gt w.fL (i:Int)).Hh==2<;>cases gt (Ak7 w.fL.length (slL w.fQ)) (i:Int)==1<;>cases Axa w.fL i<;>cases gt (Ak7 w.fL.length (kdL w.fL w.fQ)) (i:Int)==1<;>rfl
 ·show Aek K _ _ _ (n+1) _ _ _=_;rw[Aek,Agf (Z9 _),cond_false]
theorem Bgj (w:Eb)(hw:Aqs w)(hp:Ava w.fC w.fP=true):Ag3 K (Ak7 w.fC.Ae.toNat (chL w.fQ)) (Ak7 w.fL.length (slL w.fQ)) (Ak7 w.fL.length (kdL w.fL w.fQ)) w.fP.Hh w.fL K (w.fP.Hh.length:Int) 0 w.fP.Hh=some (Aw1 w w.fC.Ae.toNat):=by
 obtain⟨hc,hm,hst,_⟩:=Awf hp;obtain⟨b1,_⟩:=Ae1 hc
 rw[Apw hK w.fP.Hh.length (by omega) (fun k=> !(gt w.fP.Hh k==2)||gt (Ak7 w.fC.Ae.toNat (chL w.fQ)) k==1) (some ((List.range w.fL.length).all (fun k=>(!((gt w.fL (k:Int)).Hh==2)||gt (Ak7 w.fL.length (slL w.fQ)) k==1)&&(!Axa w.fL k||gt (Ak7 w.fL.length (kdL w.fL w.fQ)) k==1)))) (fun n i=>Ag3 K (Ak7 w.fC.Ae.toNat (chL w.fQ)) (Ak7 w.fL.length (slL w.fQ)) (Ak7 w.fL.length (kdL w.fL w.fQ)) w.fP.Hh w.fL n (w.fP.Hh.length:Int) i w.fP.Hh) (fun n i h=> ?_) (fun n=> ?_)]
 ·rw[Ajc];rfl
 ·simp only[Ag3,Aqa];rw[Afe h,cond_true,if_pos (Aje h),Ag7 (by omega)]
  simp only[A0h,if_pos (show(0:Int)≤(i:Int)∧(i:Int)<((w.fC.Ae.toNat:Nat):Int) from⟨by omega,by omega⟩),bne,Ac2]
  cases gt w.fP.Hh (i:Int)==2<;>cases gt (Ak7 w.fC.Ae.toNat (chL w.fQ)) (i:Int)==1<;>rfl
 ·show Ag3 K _ _ _ _ _ (n+1) _ _ _=_;rw[Ag3,Agf (Z9 _),cond_false,Bgi hK w hw]
theorem Bb9{β:Type}(N:Nat)(base l:List Int)(hin: ∀x∈l,0≤x∧x<(N:Int))(hl:base.length+l.length≤140737488355327)(q:Int->Bool)(fin bad:Option β)(L:Nat->List Int->Int->Option β)
  (hs: ∀n v (i:Nat) (h:i<l.length),v.length=N->L (n+1) v (i:Int)=bif q l[i]then L n (v.set (l[i]).toNat (Aoa .i64 (gt v l[i]) 1)) ((i+1:Nat):Int)else bad)
  (he: ∀n,L (n+1) (Ak7 N (base++l)) (l.length:Int)=fin):L K (Ak7 N base) 0=bif l.all q then fin else bad:=by
 have:=Bap hK l (by omega) q fin bad (fun n i=>L n (Ak7 N (base++l.take i)) (i:Int)) (fun n i h=> ?_) (fun n=> ?_)
 ·simpa using this
 ·have hb:(base++l.take i).length≤140737488355327:=by simp;omega
  have h1:=hin _ (List.getElem_mem h);rw[hs n _ i h (A0h _ _),Bb7 h1.1 h1.2 hb,Lo,List.take_append_getElem]
 ·simp only[List.take_length];exact he n
theorem Bdr (w:Eb)(hw:Aqs w)(hp:Ava w.fC w.fP=true)(hL:(w.fL.length:Int)=w.fC.C0)(x:Ax)(hx:Azc x)(c s d:List Int)(i:Nat)(n:Nat)(hi:i<w.fQ.length)(he:gt w.fQ i=x)
  (hb1:c.length+12≤140737488355327) (hb2:s.length≤140737488355326) (hb3:d.length+8≤140737488355327):
  Aa1 K (n+1) (Ak7 w.fC.Ae.toNat c) (Ak7 w.fL.length s) (Ak7 w.fL.length d) w.fQ (w.fQ.length:Int) i w.fC.Ae w.fC.Eg w.fC.C0 w.fC.E9 w.fC.C1 w.fC.Eh w.fP.Fy w.fP.Hh w.fP.Fz w.fL w.fQ w.Pr
   =bif An3 w x then Aa1 K n (Ak7 w.fC.Ae.toNat (c++x.Ae)) (Ak7 w.fL.length (s++if x.A5=0 then []else [Aob .i64 x.A5 1])) (Ak7 w.fL.length (d++Anh w.fL x.Bt)) w.fQ (w.fQ.length:Int) ((i+1:Nat):Int) w.fC.Ae w.fC.Eg w.fC.C0 w.fC.E9 w.fC.C1 w.fC.Eh w.fP.Fy w.fP.Hh w.fP.Fz w.fL w.fQ w.Pr else some false:=by
 have hq:=hw.q.2;rw[Aa1];rw[show Er.mk w.fC.Ae w.fC.Eg w.fC.C0 w.fC.E9 w.fC.C1 w.fC.Eh=w.fC from rfl,show Dw.mk w.fP.Fy w.fP.Hh w.fP.Fz=w.fP from rfl]
 rw[Afe hi,cond_true,if_pos (Aje hi),he,A7o hK _ _ hx,Z0];unfold An3;cases hr:Ati w.fC x with
 |false=>rfl
 |true=>
 rw[cond_true,Z30];obtain⟨hc,⟨s1,s2⟩,⟨f1,f2⟩,hd,d1,d2⟩:=Av7 hr;obtain⟨_,hm,hst,_⟩:=Awf hp;obtain⟨b1,b2,b3,_⟩:=Ae1 hc
 have hch:=A3o hd
 have hcl:=A6u hc hd
 have h5: ∀s',Apd K (Ak7 w.fL.length d) w.fQ (w.fQ.length:Int) i w.fC.Ae w.fC.Eg w.fC.C0 w.fC.E9 w.fC.C1 w.fC.Eh w.fP.Fy w.fP.Hh w.fP.Fz w.fL w.fQ w.Pr x.Bt (Ak7 w.fC.Ae.toNat (c++x.Ae)) s' (Aa1 K n)
   =bif Asa w x then Aa1 K n (Ak7 w.fC.Ae.toNat (c++x.Ae)) s' (Ak7 w.fL.length (d++Anh w.fL x.Bt)) w.fQ (w.fQ.length:Int) ((i+1:Nat):Int) w.fC.Ae w.fC.Eg w.fC.C0 w.fC.E9 w.fC.C1 w.fC.Eh w.fP.Fy w.fP.Hh w.fP.Fz w.fL w.fQ w.Pr else some false:=by
  intro s'
  have hk:=A0m (l:=w.fL) w.fL.length (Aob .i64 x.Bt 1)
  have hin:=A6v (l:=w.fL) w.fL.length (Aob .i64 x.Bt 1);unfold Apd Asa;rw[Bb5 hK hw.l,Z0];change (Anh w.fL x.Bt).length≤_ at hk;change ∀y∈Anh w.fL x.Bt,_ at hin;generalize Anh w.fL x.Bt=r at*
  refine Bb9 hK w.fL.length d r hin (by omega) (Axa w.fL) _ _ (fun m v j=>Ai4 K w.fQ (w.fQ.length:Int) i w.fC.Ae w.fC.Eg w.fC.C0 w.fC.E9 w.fC.C1 w.fC.Eh w.fP.Fy w.fP.Hh w.fP.Fz w.fL w.fQ w.Pr (Ak7 w.fC.Ae.toNat (c++x.Ae)) s' r (Aa1 K n) m v (r.length:Int) j) (fun m v j hj hv=> ?_) (fun m=> ?_)
  ·have hr1:=hin _ (Apl hj);simp only[Ai4];rw[Afe hj,cond_true,if_pos (Aje hj),if_pos (by rw[hv];exact hr1),if_pos (by rw[hv];exact hr1),A3g K hw.l hr1,Ag7 (by omega),Z0,Ac2,Aeg hj]
  ·show Ai4 K _ _ _ _ _ _ _ _ _ _ _ _ _ _ _ _ _ _ _ (m+1) _ _ _=_;rw[Ai4,Agf (Z9 _),cond_false,Ag7 (by omega)]
 have h4: ∀s',Ape K (Ak7 w.fL.length d) w.fQ (w.fQ.length:Int) i w.fC.Ae w.fC.Eg w.fC.C0 w.fC.E9 w.fC.C1 w.fC.Eh w.fP.Fy w.fP.Hh w.fP.Fz w.fL w.fQ w.Pr x.Bt (Ak7 w.fC.Ae.toNat (c++x.Ae)) (Aa1 K n) s'
   =bif Axb w x&&Asa w x then Aa1 K n (Ak7 w.fC.Ae.toNat (c++x.Ae)) s' (Ak7 w.fL.length (d++Anh w.fL x.Bt)) w.fQ (w.fQ.length:Int) ((i+1:Nat):Int) w.fC.Ae w.fC.Eg w.fC.C0 w.fC.E9 w.fC.C1 w.fC.Eh w.fP.Fy w.fP.Hh w.fP.Fz w.fL w.fQ w.Pr else some false:=by
  intro s';unfold Ape Axb;rw[h5]
  by_cases g:x.Bt=0
  ·rw[g];rfl
  ·rw[decide_eq_true (by omega),cond_true,if_pos (A15 hK hL hc g f1 f2),Aqr g]
   simp only[bne,Ac2,Z52];cases (gt w.fL (Aob .i64 x.Bt 1)).Gs==0<;>rfl
 have h2:Apf K (Ak7 w.fC.Ae.toNat c) (Ak7 w.fL.length s) (Ak7 w.fL.length d) w.fQ (w.fQ.length:Int) i w.fC.Ae w.fC.Eg w.fC.C0 w.fC.E9 w.fC.C1 w.fC.Eh w.fP.Fy w.fP.Hh w.fP.Fz w.fL w.fQ w.Pr (Aa1 K n) x.A5 x.Bt x.Dg x.Ae x.Gu
   =bif A0n w x&&(Av8 w x&&(Axb w x&&Asa w x))then Aa1 K n (Ak7 w.fC.Ae.toNat (c++x.Ae)) (Ak7 w.fL.length (s++if x.A5=0 then []else [Aob .i64 x.A5 1])) (Ak7 w.fL.length (d++Anh w.fL x.Bt)) w.fQ (w.fQ.length:Int) ((i+1:Nat):Int) w.fC.Ae w.fC.Eg w.fC.C0 w.fC.E9 w.fC.C1 w.fC.Eh w.fP.Fy w.fP.Hh w.fP.Fz w.fL w.fQ w.Pr else some false:=by
  unfold Apf;rw[Bb9 hK w.fC.Ae.toNat c x.Ae (fun y hy=>by have:=hch y hy;omega) (by omega) (fun k=>gt w.fP.Hh k==2)
   (bif Av8 w x&&(Axb w x&&Asa w x)then Aa1 K n (Ak7 w.fC.Ae.toNat (c++x.Ae)) (Ak7 w.fL.length (s++if x.A5=0 then []else [Aob .i64 x.A5 1])) (Ak7 w.fL.length (d++Anh w.fL x.Bt)) w.fQ (w.fQ.length:Int) ((i+1:Nat):Int) w.fC.Ae w.fC.Eg w.fC.C0 w.fC.E9 w.fC.C1 w.fC.Eh w.fP.Fy w.fP.Hh w.fP.Fz w.fL w.fQ w.Pr else some false) (some false)
   (fun m v j=>Ai5 K (Ak7 w.fL.length s) (Ak7 w.fL.length d) w.fQ (w.fQ.length:Int) i w.fC.Ae w.fC.Eg w.fC.C0 w.fC.E9 w.fC.C1 w.fC.Eh w.fP.Fy w.fP.Hh w.fP.Fz w.fL w.fQ w.Pr x.A5 x.Bt x.Ae (Aa1 K n) m v (x.Ae.length:Int) j x.Ae) (fun m v j hj hv=> ?_) (fun m=> ?_)]
  ·unfold A0n;cases x.Ae.all _<;>rfl
  ·have hr1:=hch _ (Apl hj);simp only[Ai5];rw[Afe hj,cond_true,if_pos (Aje hj),if_pos (by rw[hv];omega),if_pos (by rw[hv];omega),if_pos ⟨hr1.1,by omega⟩,Ag7 (by omega),bne,Ac2,Aeg hj]
  ·show Ai5 K _ _ _ _ _ _ _ _ _ _ _ _ _ _ _ _ _ _ _ _ _ (m+1) _ _ _ _=_;rw[Ai5,Agf (Z9 _),cond_false,h4,h4,A0h];unfold Av8
   by_cases g:x.A5=0
   ·rw[g,if_pos rfl,List.append_nil];rfl
   ·have hlk:=A15 hK hL hc g s1 s2;rw[decide_eq_true (by omega),cond_true,if_pos hlk,if_pos hlk,if_neg g,Bb7 hlk.1 hlk.2 (by omega),Aqr g]
    simp only[bne,Ac2,Z52,if_pos hlk];cases (gt w.fL (Aob .i64 x.A5 1)).Hh==2<;>rfl
 rw[h2];unfold A14
 by_cases g:(x.Ae.length:Int)>0
 ·have h5:=hch _ (Arc (l:=x.Ae) (Int.le_refl 0) (by omega))
  obtain⟨e1,e2,e3,e4⟩:=A1y hc hm h5.1 h5.2
  have hlc:(Av3 w.fC w.fP.Fy (gt x.Ae 0)).length=w.fC.Eg.toNat:=by unfold Av3;simp;omega
  have htk:List.take (x.Gu - 0).toNat (List.drop (0:Int).toNat (Av3 w.fC w.fP.Fy (gt x.Ae 0)))=List.take x.Gu.toNat (List.drop (gt x.Ae 0*w.fC.Eg).toNat w.fP.Fy):=by
   unfold Av3;simp only[Int.sub_zero,Int.toNat_zero,Z55,List.take_take];rw[Nat.min_eq_left (by omega)]
  rw[decide_eq_true g,cond_true,if_pos ⟨by omega,by omega⟩,A6g hK hc hm h5.1 h5.2,Z0,if_pos ⟨by omega,by omega,by rw[hlc];omega⟩,htk,A0c hK _ (by simp;omega)]
  simp only[Z0,Ac2,Bool.not_true,Z52];cases Ay0 (List.take x.Gu.toNat (List.drop (gt x.Ae 0*w.fC.Eg).toNat w.fP.Fy))<;>cases A0n w x<;>rfl
 ·rw[decide_eq_false g];simp only[cond_false,Bool.not_false,Bool.true_or,Z30]
theorem Bey (q:List Ax):(slL q).length≤q.length:=by
 have:=A16 q (fun x=>if x.A5=0 then []else [Aob .i64 x.A5 1]) 1 (fun x _=>by split<;>simp)
 simpa[slL]using this
theorem Baq (l:List Ba)(hl:l.length≤8)(q:List Ax):(kdL l q).length≤q.length*8:=
 A16 _ _ 8 fun x _=>To (A0m _ _) hl
end
theorem Bds{β:Type}(N:Nat)(hN:N≤140737488355327)(q:Nat->Bool)(fin:Int->Option β)(L:Nat->Int->Int->Option β)
  (hs: ∀n (v:Int) (i:Nat),i<N->0≤v->v≤i->L (n+1) v (i:Int)=bif q i then L n (v+1) ((i+1:Nat):Int)else L n v ((i+1:Nat):Int))
  (he: ∀n v,L (n+1) v (N:Int)=fin v):
  ∀(n i:Nat) (v:Int),0≤v->v≤i->i≤N->N - i<n->L n v (i:Int)=fin (v+((((List.range N).drop i).filter q).length:Int)):=by
 intro n
 induction n with
 |zero=>intro i v _ _ _ h;omega
 |succ n ih=>
  intro i v h0 hv hi hn;rcases F9 i N with h|h
  ·rw[hs n v i h h0 hv,Z47 (by simpa using h),List.getElem_range,List.filter_cons]
   cases hq:q i with
   |true=>
    rw[cond_true,ih (i+1) _ (by omega) (by omega) (by omega) (by omega)]
    simp only[if_true,Y9]
    congr 1
    omega
   |false=>
    rw[cond_false,ih (i+1) _ (by omega) (by omega) (by omega) (by omega)]
    simp
  ·obtain rfl:i=N:=by omega
   rw[he,Z48 (by simp)];simp
theorem Bar{v:Int}(h0:0≤v)(h:v≤140737488355328):Aoa .i64 v 1=v+1:=by unfold Aoa;rw[Ag4 (by omega) (by omega)]
section
variable {K:Nat} (hK:281474976710656≤K)
include hK
theorem Bas (w:Eb)(hw:Aqs w)(hp:Ava w.fC w.fP=true)(hL:(w.fL.length:Int)=w.fC.C0):Aq7 K w=some (w.fQ.all (An3 w)&&Aw1 w w.fC.Ae.toNat):=by
 obtain⟨hc,hm,hst,_⟩:=Awf hp;obtain⟨b1,b2,b3,_⟩:=Ae1 hc
 have hq:=hw.q.2
 have key: ∀(n i:Nat),(∀x∈w.fQ.take i,An3 w x=true)->i≤w.fQ.length->w.fQ.length - i<n→
   Aa1 K n (Ak7 w.fC.Ae.toNat (chL (w.fQ.take i))) (Ak7 w.fL.length (slL (w.fQ.take i))) (Ak7 w.fL.length (kdL w.fL (w.fQ.take i))) w.fQ (w.fQ.length:Int) i w.fC.Ae w.fC.Eg w.fC.C0 w.fC.E9 w.fC.C1 w.fC.Eh w.fP.Fy w.fP.Hh w.fP.Fz w.fL w.fQ w.Pr=some ((w.fQ.drop i).all (An3 w)&&Aw1 w w.fC.Ae.toNat):=by
  intro n
  induction n with
  |zero=>intro i _ _ h;omega
  |succ n ih=>
   intro i hpre hi hn;rcases F9 i w.fQ.length with h|h
   ·have hb1:(chL (w.fQ.take i)).length≤(w.fQ.take i).length*12:=A16 _ _ 12 fun x hx=>by
     have:=hpre x hx;unfold An3 at this;simp only[Z4]at this;obtain⟨hc,_,_,hd,_⟩:=Av7 this.1;exact A6u hc hd
    have hb2:=Bey hK (w.fQ.take i)
    have hb3:=Baq hK w.fL (by omega) (w.fQ.take i)
    rw[List.length_take]at hb1 hb2 hb3;rw[Bdr hK w hw hp hL w.fQ[i] (hw.q.1 _ (List.getElem_mem h)) _ _ _ i n h (Aeg h) (by omega) (by omega) (by omega),Z47 h,F3]
    cases hx:An3 w w.fQ[i]with
    |false=>rfl
    |true=>
     rw[cond_true,Z30,←ih (i+1) (fun x hx2=>by
      rw[←List.take_append_getElem h,Gy]at hx2;rcases hx2 with hx2|hx2
      ·exact hpre x hx2
      ·simp only[Qo]at hx2;rw[hx2];exact hx) h (by omega)]
     unfold chL slL kdL;rw[Axs _ _ _ h,Axs _ _ _ h,Axs _ _ _ h]
   ·obtain rfl:i=w.fQ.length:=by omega
    rw[Aa1,Agf (Z9 _),cond_false,List.take_length,Bgj hK w hw hp,List.drop_length];rfl
 unfold Aq7;rw[if_pos ⟨by omega,by omega,by omega,by omega⟩,if_pos ⟨by omega,by omega,by omega,by omega⟩,if_pos ⟨by omega,by omega,by omega,by omega⟩]
 have:=key K 0 (fun x hx=>by simp at hx) (Z21 _) (by omega)
 rw[List.take_zero,Z55,show chL []=[] from rfl,show slL []=[] from rfl,show kdL w.fL []=[] from rfl,Bb6,Bb6]at this
 rw[←this,show w.fL.length=w.fC.C0.toNat by omega]
 rfl
theorem Bat (p:Dw)(st:Int)(hl:p.Hh.length≤140737488355327):Avg K p st=some ((((List.range p.Hh.length).filter (fun k:Nat=>gt p.Hh k==st)).length:Nat):Int):=by
 unfold Avg
 have:=Bds p.Hh.length hl (fun k:Nat=>gt p.Hh k==st) some (fun n v i=>Ant K st n v i p.Fy p.Hh p.Fz) (fun n v i hi h0 hv=> ?_) (fun n v=> ?_) K 0 0 (Int.le_refl _) (Int.le_refl _) (Z21 _) (by omega)
 ·simpa using this
 ·simp only[Ant,Atn];rw[Afe hi,cond_true,if_pos (Aje hi),Ag7 (by omega),Bar h0 (by omega)]
 ·show Ant K st (n+1) v _ _ _ _=_;rw[Ant,Agf (Z9 _),cond_false]
theorem A3l (l:List Ba)(st:Int)(hl:l.length≤140737488355327):Asr K l st=some ((((List.range l.length).filter (fun k:Nat=>(gt l k).Hh==st)).length:Nat):Int):=by
 unfold Asr
 have:=Bds l.length hl (fun k:Nat=>(gt l k).Hh==st) some (fun n v i=>Ajz K l st n v i) (fun n v i hi h0 hv=> ?_) (fun n v=> ?_) K 0 0 (Int.le_refl _) (Int.le_refl _) (Z21 _) (by omega)
 ·simpa using this
 ·simp only[Ajz,Arf];rw[Afe hi,cond_true,if_pos (Aje hi),Ag7 (by omega),Bar h0 (by omega)]
 ·show Ajz K l st (n+1) v _=_;rw[Ajz,Agf (Z9 _),cond_false]
theorem Bdt (w:Eb)(hw:Aqs w)(v1 v2:Int)(v3:List Int)(h3:v3.length≤140737488355327):
  Ahy K v1 v2 v3 w.fP.Fy w.fP.Hh w.fP.Fz w.fL K 0 0=some (A29 v3&&((v1==((A3i w).length:Int))&&((v2==((A0v w).length:Int))&&((v3.length:Int)==((A6x w).length:Int))))):=by
 have hl:=Aej hw.l
 have hs:=A03 hK hw.p.st
 have h8: ∀v24,Ala K v1 v2 v3 w.fP.Fy w.fP.Hh w.fP.Fz w.fL v24 K 0=some (A29 v3&&((v1==((A3i w).length:Int))&&((v2==((A0v w).length:Int))&&((v3.length:Int)==v24)))):=by
  intro v24;rw[Apw hK v3.length (by omega) (fun i=> !(v3.take i).contains (gt v3 i)) (some ((v1==((A3i w).length:Int))&&((v2==((A0v w).length:Int))&&((v3.length:Int)==v24)))) (fun n i=>Ala K v1 v2 v3 w.fP.Fy w.fP.Hh w.fP.Fz w.fL v24 n i) (fun n i h=> ?_) (fun n=> ?_)]
  ·rw[Ajc];rfl
  ·have hp:(v3.take i).length≤140737488355328:=by simp;omega
   simp only[Ala];rw[Afe h,cond_true,if_pos (Bbs (by omega)),if_pos (Aje h),A6i,Axy hK _ _ hp,Ag7 (by omega),Z0,Ac2]
  ·show Ala K v1 v2 v3 _ _ _ _ v24 (n+1) _=_;rw[Ala,Agf (Z9 _),cond_false,Bat hK _ _ hs,A3l hK _ _ hl];simp only[Z0,Ajc];unfold A3i A0v;simp only[B8]
 have:=Bds w.fL.length hl (fun k:Nat=>Axa w.fL k) (fun v=>some (A29 v3&&((v1==((A3i w).length:Int))&&((v2==((A0v w).length:Int))&&((v3.length:Int)==v))))) (fun n v i=>Ahy K v1 v2 v3 w.fP.Fy w.fP.Hh w.fP.Fz w.fL n v i) (fun n v i hi h0 hv=> ?_) (fun n v=> ?_) K 0 0 (Int.le_refl _) (Int.le_refl _) (Z21 _) (by omega)
 ·rw[show((0:Nat):Int)=0 from rfl]at this
  rw[this];unfold A6x;simp only[B8,Z55,Int.zero_add]
 ·simp only[Ahy,Ar6];rw[Afe hi,cond_true,A3f K hw.l (Aje hi),Z0,Ag7 (by omega),Bar h0 (by omega)]
 ·show Ahy K v1 v2 v3 _ _ _ _ (n+1) v _=_;rw[Ahy,Agf (Z9 _),cond_false,h8]
theorem Bca (w:Eb)(hw:Aqs w)(i n:Nat)(hi:i<w.fQ.length)(v1 v2:Int)(v3:List Int)(h1:0≤v1∧v1≤70368744177664)(h2:0≤v2∧v2≤70368744177664)(h3:(v3.length+w.fL.length)*8≤140737488355327)(hcl:(gt w.fQ i).Ae.length≤12):
  Ag0 K (n+1) v1 v2 v3 i w.fC.Ae w.fC.Eg w.fC.C0 w.fC.E9 w.fC.C1 w.fC.Eh w.fP.Fy w.fP.Hh w.fP.Fz w.fL w.fQ w.Pr
   =bif (List.range i).all (fun k=>A1a w.fQ i k)then Ag0 K n (v1+((gt w.fQ i).Ae.length:Int)) (v2+((if(gt w.fQ i).A5=0 then([]:List Int)else [Aob .i64 (gt w.fQ i).A5 1]).length:Int)) (v3++Anh w.fL (gt w.fQ i).Bt) ((i+1:Nat):Int) w.fC.Ae w.fC.Eg w.fC.C0 w.fC.E9 w.fC.C1 w.fC.Eh w.fP.Fy w.fP.Hh w.fP.Fz w.fL w.fQ w.Pr else some false:=by
 have hq:=hw.q.2
 have hm:=Anj
 have hx:=hw.q.1 _ (Apl hi)
 have hkl:=A0m (l:=w.fL) w.fL.length (Aob .i64 (gt w.fQ i).Bt 1);change (Anh w.fL (gt w.fQ i).Bt).length≤_ at hkl
 have hJ: ∀v17 v18,Aqm K v3 i w.fC.Ae w.fC.Eg w.fC.C0 w.fC.E9 w.fC.C1 w.fC.Eh w.fP.Fy w.fP.Hh w.fP.Fz w.fL w.fQ w.Pr (Ag0 K n) v17 v18
   =bif (List.range i).all (fun k=>A1a w.fQ i k)then Ag0 K n v17 v18 (v3++Anh w.fL (gt w.fQ i).Bt) ((i+1:Nat):Int) w.fC.Ae w.fC.Eg w.fC.C0 w.fC.E9 w.fC.C1 w.fC.Eh w.fP.Fy w.fP.Hh w.fP.Fz w.fL w.fQ w.Pr else some false:=by
  intro v17 v18;unfold Aqm
  have hlen:(v3++Anh w.fL (gt w.fQ i).Bt).length=v3.length+(Anh w.fL (gt w.fQ i).Bt).length:=by simp
  rw[if_pos (Aje hi),A3h hK hw.l hx.first,Z0,if_pos ⟨by rw[hlen];omega,by rw[hlen];omega⟩]
  rw[Apw hK i (by omega) (fun k=>A1a w.fQ i k) _ (fun m k=>Ak9 K i w.fC.Ae w.fC.Eg w.fC.C0 w.fC.E9 w.fC.C1 w.fC.Eh w.fP.Fy w.fP.Hh w.fP.Fz w.fL w.fQ w.Pr v17 v18 (Ag0 K n) m (v3++Anh w.fL (gt w.fQ i).Bt) k) (fun m k hk=> ?_) (fun m=> ?_)]
  ·have hk2:k<w.fQ.length:=by omega
   have hlk:=A03 hK (hw.q.1 _ (Apl hk2)).chunks
   have h4: ∀C:List Int->Int->Option Bool,Aqk K i w.fQ (v3++Anh w.fL (gt w.fQ i).Bt) k C=bif (gt w.fQ i).Ae.all (fun y=> !(gt w.fQ k).Ae.contains y)then C (v3++Anh w.fL (gt w.fQ i).Bt) ((k+1:Nat):Int)else some false:=by
    intro C;unfold Aqk;rw[Ar8 hK (gt w.fQ i).Ae (by omega) (fun y=> !(gt w.fQ k).Ae.contains y) _ (fun m j=>Ann K i w.fQ (v3++Anh w.fL (gt w.fQ i).Bt) k C m j) (fun m j hj=> ?_) (fun m=> ?_)]
    ·simp only[Ann];rw[if_pos (Aje hi),Afe hj,cond_true,if_pos (Aje hk2),if_pos (Aje hj),Axy hK _ _ (by omega),Z0,Ag7 (by omega),Ac2,Aeg hj,if_pos (Aje hi)]
    ·show Ann K i w.fQ _ k C (m+1) _=_;rw[Ann,if_pos (Aje hi),Agf (Z9 _),cond_false,Ag7 (by omega)]
   simp only[Ak9];rw[Afe hk,cond_true,if_pos (Aje hi),if_pos (Aje hk2),if_pos (Aje hi),h4];unfold A1a;cases (gt w.fQ (i:Int)).A5 != 0<;>cases (gt w.fQ (k:Int)).A5==(gt w.fQ (i:Int)).A5<;>cases (gt w.fQ i).Ae.all _<;>rfl
  ·show Ak9 K i _ _ _ _ _ _ _ _ _ _ _ _ v17 v18 _ (m+1) _ _=_;rw[Ak9,Agf (Z9 _),cond_false,Ag7 (by omega)]
 rw[Ag0,Afe hi,cond_true,if_pos (Aje hi),if_pos (Aje hi),hJ,hJ]
 have e1:Aoa .i64 v1 ((gt w.fQ i).Ae.length:Int)=v1+((gt w.fQ i).Ae.length:Int):=by unfold Aoa;rw[Ag4 (by omega) (by omega)]
 rw[e1,Bar h2.1 (by omega)]
 by_cases g:(gt w.fQ i).A5=0
 ·rw[if_pos g,g];simp
 ·rw[if_neg g,Atg g];simp
theorem Bcb (w:Eb)(hw:Aqs w)(hp:Ava w.fC w.fP=true)(hL:(w.fL.length:Int)=w.fC.C0)(hall: ∀x∈w.fQ,An3 w x=true):Ato K w=some (A3p w):=by
 obtain⟨hc,hm,hst,_⟩:=Awf hp;obtain⟨b1,b2,b3,_⟩:=Ae1 hc
 have hq:=hw.q.2
 have hc12: ∀x∈w.fQ,x.Ae.length≤12:=fun x hx=>by
  have:=hall x hx;unfold An3 at this;simp only[Z4]at this;obtain⟨hc,_,_,hd,_⟩:=Av7 this.1;exact A6u hc hd
 have h3:=Baq hK w.fL (by omega) w.fQ
 unfold Ato
 have:=Bap hK (List.range w.fQ.length) (by simp;omega) (fun i=>(List.range i).all (fun k=>A1a w.fQ i k)) (Ahy K ((chL w.fQ).length:Int) ((slL w.fQ).length:Int) (kdL w.fL w.fQ) w.fP.Fy w.fP.Hh w.fP.Fz w.fL K 0 0) (some false)
  (fun n i=>Ag0 K n ((chL (w.fQ.take i)).length:Int) ((slL (w.fQ.take i)).length:Int) (kdL w.fL (w.fQ.take i)) (i:Int) w.fC.Ae w.fC.Eg w.fC.C0 w.fC.E9 w.fC.C1 w.fC.Eh w.fP.Fy w.fP.Hh w.fP.Fz w.fL w.fQ w.Pr) (fun n i h=> ?_) (fun n=> ?_)
 ·rw[List.take_zero,show chL []=[] from rfl,show slL []=[] from rfl,show kdL w.fL []=[] from rfl]at this
  refine Eq.trans this ?_;rw[Bdt hK w hw _ _ _ (by omega),Ajc]
  rfl
 ·have hi:i<w.fQ.length:=by simpa using h
  have hb1:(chL (w.fQ.take i)).length≤(w.fQ.take i).length*12:=A16 _ _ 12 fun x hx=>hc12 x (Za hx)
  have hb2:=Bey hK (w.fQ.take i)
  have hb3:=Baq hK w.fL (by omega) (w.fQ.take i)
  rw[List.length_take]at hb1 hb2 hb3;simp only[List.getElem_range];rw[Bca hK w hw i n hi _ _ _ ⟨by omega,by omega⟩ ⟨by omega,by omega⟩ (by omega) (hc12 _ (Apl hi))]
  unfold chL slL kdL;rw[Axs _ _ _ hi,Axs _ _ _ hi,Axs _ _ _ hi,Aeg hi,Ln,Ln];rfl
 ·rw[List.length_range,List.take_length,Ag0,Agf (Z9 _),cond_false]
end
def A6y (w:Eb):Bool:=
 Ava w.fC w.fP&&(((w.fL.length:Int)==w.fC.C0)&&((List.range w.fL.length).all (A6o w)&&(A70 w.fL&&((w.fQ.all (An3 w)&&Aw1 w w.fC.Ae.toNat)&&w.Pr.all (fun x=>inB x 0 255)))))
section
variable {K:Nat} (hK:281474976710656≤K)
include hK
theorem Bau (w:Eb)(hw:Aqs w):Avv K w=some (A6y w):=by
 have hl:=A03 hK hw.log;unfold Avv A6y;rw[Bbq hK,Z0];cases hp:Ava w.fC w.fP with
 |false=>rfl
 |true=>
 rw[cond_true,Z30];cases hL:(w.fL.length:Int)==w.fC.C0 with
 |false=>rfl
 |true=>
 rw[beq_iff_eq]at hL;rw[cond_true,Z30,Bak hK w hw hp,Bb4 hK hw.l,Bas hK w hw hp hL,Ayu hK _ (by omega)]
 simp only[Z0,Ajc]
theorem Bav (w:Eb)(hw:Aqs w):Avl K w=some (A6y w):=by
 have hl:=A03 hK hw.log
 have hl2:=Aej hw.l
 have hq:=hw.q.2;unfold Avl A6y;rw[Bbp hK,Z0];cases hp:Ava w.fC w.fP with
 |false=>rfl
 |true=>
 rw[cond_true,Z30];cases hL:(w.fL.length:Int)==w.fC.C0 with
 |false=>rw[bne,hL];rfl
 |true=>
 rw[bne,hL,Bool.not_true,cond_false,Z30,Bb3 hK hw.l,Z0,Ac2];rw[beq_iff_eq]at hL
 have e1:Er.mk w.fC.Ae w.fC.Eg w.fC.C0 w.fC.E9 w.fC.C1 w.fC.Eh=w.fC:=rfl
 have e2:Eb.mk (Er.mk w.fC.Ae w.fC.Eg w.fC.C0 w.fC.E9 w.fC.C1 w.fC.Eh) (Dw.mk w.fP.Fy w.fP.Hh w.fP.Fz) w.fL w.fQ w.Pr=w:=rfl
 have h3:w.fQ.all (An3 w)=true->An0 K w.fC.Ae w.fC.Eg w.fC.C0 w.fC.E9 w.fC.C1 w.fC.Eh w.fP.Fy w.fP.Hh w.fP.Fz w.fL w.fQ w.Pr K 0=some (w.Pr.all (fun x=>inB x 0 255)&&Aw1 w w.fC.Ae.toNat):=by
  intro hall;rw[Z1]at hall;rw[Byb hp hL hall];rw[Ar8 hK w.Pr (by omega) (fun x=>inB x 0 255) (some (A3p w)) (An0 K w.fC.Ae w.fC.Eg w.fC.C0 w.fC.E9 w.fC.C1 w.fC.Eh w.fP.Fy w.fP.Hh w.fP.Fz w.fL w.fQ w.Pr) (fun n i h=> ?_) (fun n=> ?_)]
  ·rw[Ajc]
  ·rw[An0,Afe h,cond_true,if_pos (Aje h),Asz,Ag7 (by omega),Z0,Ac2,Aeg h]
  ·rw[An0,Agf (Z9 _),cond_false,e2,Bcb hK w hw hp hL hall,Z0]
 have h2:Aps K w.fC.Ae w.fC.Eg w.fC.C0 w.fC.E9 w.fC.C1 w.fC.Eh w.fP.Fy w.fP.Hh w.fP.Fz w.fL w.fQ w.Pr K 0=some (w.fQ.all (An3 w)&&(w.Pr.all (fun x=>inB x 0 255)&&Aw1 w w.fC.Ae.toNat)):=by
  rw[Ar8 hK w.fQ (by omega) (An3 w) (An0 K w.fC.Ae w.fC.Eg w.fC.C0 w.fC.E9 w.fC.C1 w.fC.Eh w.fP.Fy w.fP.Hh w.fP.Fz w.fL w.fQ w.Pr K 0) (Aps K w.fC.Ae w.fC.Eg w.fC.C0 w.fC.E9 w.fC.C1 w.fC.Eh w.fP.Fy w.fP.Hh w.fP.Fz w.fL w.fQ w.Pr) (fun n i h=> ?_) (fun n=> ?_)]
  ·cases hall:w.fQ.all (An3 w)with
   |false=>rfl
   |true=>rw[cond_true,h3 hall];rfl
  ·rw[Aps,Afe h,cond_true,e2,A7p hK w hw hp hL i h,Ag7 (by omega),Z0,Ac2,Aeg h]
  ·rw[Aps,Agf (Z9 _),cond_false]
 have h1:An1 K K 0 w.fC.Ae w.fC.Eg w.fC.C0 w.fC.E9 w.fC.C1 w.fC.Eh w.fP.Fy w.fP.Hh w.fP.Fz w.fL w.fQ w.Pr=some ((List.range w.fL.length).all (A6o w)&&(w.fQ.all (An3 w)&&(w.Pr.all (fun x=>inB x 0 255)&&Aw1 w w.fC.Ae.toNat))):=by
  rw[Apw hK w.fL.length (by omega) (A6o w) (some (w.fQ.all (An3 w)&&(w.Pr.all (fun x=>inB x 0 255)&&Aw1 w w.fC.Ae.toNat))) (fun n i=>An1 K n i w.fC.Ae w.fC.Eg w.fC.C0 w.fC.E9 w.fC.C1 w.fC.Eh w.fP.Fy w.fP.Hh w.fP.Fz w.fL w.fQ w.Pr) (fun n k hk=> ?_) (fun n=> ?_)]
  ·rw[Ajc]
  ·simp only[An1];rw[e2,e1]
   have hn:=hw.l.1 _ (Apl hk)
   have l1:=A03 hK hn.chunks
   have l2:=Bm3 hK hn.things
   have l3:=A03 hK hn.tags;rw[Afe hk,cond_true,if_pos (Aje hk),Bbt hK _ _ l1 l2 l3,Z0,A6l hK w k hk hw.p.st.2 l1,Ag7 (by omega),A7i hK _ _ l1 l2]
   simp only[Z0];unfold A6o;cases hb:Axg w.fC (gt w.fL k)with
   |false=>rfl
   |true=>
   cases A0l w.fP k (gt w.fL k).Ae with
   |false=>rfl
   |true=>
   cases hi:(gt w.fL k).Ea.all (Ay1 w.fC (gt w.fL k).Ae)with
   |false=>simp only[cond_true,Z30,Bool.false_and,cond_false,if_pos (Aje hk)]
   |true=>
   have hs:=A6n hi;rw[A7f hK _ l2 (fun t ht=>(hs t ht).1),Bdj hK w k hk hp hn hb hs];simp only[Z0,cond_true,Ac2,Z30,if_pos (Aje hk)];cases Awg (gt w.fL k).Ea<;>cases A6m w.fC w.fP.Fy (gt w.fL k)<;>rfl
  ·show An1 K (n+1) _ _ _ _ _ _ _ _ _ _ _ _ _=_;rw[An1,Agf (Z9 _),cond_false,h2]
 rw[h1];cases A70 w.fL with
 |false=>rw[cond_false];simp
 |true=>
  simp only[cond_true,Z30,Z7]
  ac_rfl
end
theorem Byc{x:Int}:Aok x ↔ -9223372036854775808≤x∧x≤9223372036854775807:=by
 simp[Aok,Lit.wf,IntKind.min,IntKind.max,IntKind.signed,IntKind.bits]
theorem Awa{n:Nat}(h:n≤reachBytes):n≤140737488355327:=by simp only[reachBytes]at h;omega
theorem Ar5{n m:Nat}(h:n*m≤reachBytes)(hm:0<m):n≤140737488355327:=by
 have:n*1≤n*m:=Nat.mul_le_mul_left n hm;simp only[reachBytes]at h;omega
def Byd (a:Es):Er:=Er.mk a.Ae a.Eg a.C0 a.E9 a.C1 a.Eh
def Bye (a:Dx):Dw:=Dw.mk a.Fy a.Hh a.Fz
def A3q (a:Bb):A9:=A9.mk a.fAt a.Vu a.Vv
def Ayv (a:Bc):Ba:=Ba.mk a.Hh a.C2 a.Ly a.fUp a.Gq a.Bt a.Gr a.Gs a.Ae a.Pq a.Gt (a.Ea.map A3q) a.Dg
def Aw2 (a:Ay):Ax:=Ax.mk a.A5 a.Bt a.Dg a.Ae a.Gu
def Ayn (a:Ec):Eb:=Eb.mk (Byd a.fC) (Bye a.fP) (a.fL.map Ayv) (a.fQ.map Aw2) a.Pr
section
variable {K:Nat} (hK:281474976710656≤K)
include hK
theorem Bgk{a:List Int}(w:Bad a):Avc K a=some a:=by
 have hl:=Ar5 w.2.1 (by decide)
 unfold Avc;rw[if_pos ⟨by omega,by omega,by omega,by omega⟩]
 have:=A1w a some id (fun _ _=>rfl) (by omega) (fun n i v=>Atk K a n v i) (fun n i v=>rfl) K 0 (List.replicate (a.length:Int).toNat 0) (Z21 _) (by simp) (fun j hj=>by omega) (by omega)
 simpa using this
theorem Ax2{a:List Int}(w:Awy a):Ank K a=some a:=by
 have hl:=Ar5 w.2.1 (by decide)
 have hr:a.length*8≤140737488355327:=Awa w.2.1;unfold Ank;rw[if_pos ⟨by omega,by omega,by omega,by omega⟩]
 have:=A1w a some id (fun _ _=>rfl) (by omega) (fun n i v=>Auc K a n v i) (fun n i v=>rfl) K 0 (List.replicate (a.length:Int).toNat 0) (Z21 _) (by simp) (fun j hj=>by omega) (by omega)
 simpa using this
theorem Bdu{a:List Bb}(w:Av0 a):Aud K a=some (a.map A3q):=by
 have hl:=Ar5 w.2.1 (by decide)
 have hr:a.length*24≤140737488355327:=Awa w.2.1;unfold Aud;rw[if_pos ⟨by omega,by omega,by omega,by omega⟩]
 exact A1w a (Axt K) A3q (fun _ _=>rfl) (by omega) (fun n i v=>Asp K a n v i) (fun n i v=>rfl) K 0 _ (Z21 _) (by simp) (fun j hj=>by omega) (by omega)
theorem Bm7{a:Bc}(w:Av1 a):At3 K a=some (Ayv a):=by
 unfold At3;obtain⟨_,_,_,_,_,_,_,_,h1,_,_,h2,h3⟩:=w;rw[Ax2 hK h1,Bdu hK h2,Ax2 hK h3];rfl
theorem Bgl{a:List Bc}(w:Awz a):As1 K a=some (a.map Ayv):=by
 have hl:=Ar5 w.2.1 (by decide)
 have hr:a.length*152≤140737488355327:=Awa w.2.1;unfold As1;rw[if_pos ⟨by omega,by omega,by omega,by omega⟩]
 exact A1w a (At3 K) Ayv (fun x hx=>Bm7 hK (w.1 x hx)) (by omega) (fun n i v=>Atl K a n v i) (fun n i v=>rfl) K 0 _ (Z21 _) (by simp) (fun j hj=>by omega) (by omega)
theorem Bgm{a:Ay}(w:Aua a):As2 K a=some (Aw2 a):=by
 unfold As2;obtain⟨_,_,h1,h2,_⟩:=w;rw[Ax2 hK h1,Ax2 hK h2];rfl
theorem Bdv{a:List Ay}(w:Av2 a):Asc K a=some (a.map Aw2):=by
 have hl:=Ar5 w.2.1 (by decide)
 have hr:a.length*72≤140737488355327:=Awa w.2.1;unfold Asc;rw[if_pos ⟨by omega,by omega,by omega,by omega⟩]
 exact A1w a (As2 K) Aw2 (fun x hx=>Bgm hK (w.1 x hx)) (by omega) (fun n i v=>Asq K a n v i) (fun n i v=>rfl) K 0 _ (Z21 _) (by simp) (fun j hj=>by omega) (by omega)
theorem A72{a:Ec}(w:Aqd a):Ari K a=some (Ayn a):=by
 unfold Ari Awk Awl;obtain⟨_,⟨h1,h2,h3⟩,h4,h5,h6⟩:=w;rw[Bgk hK h1,Ax2 hK h2,Ax2 hK h3,Bgl hK h4,Bdv hK h5,Ax2 hK h6];rfl
theorem A73{a:List Int}(hl:a.length≤140737488355327):Atc K a a=some true:=by
 unfold Atc;simp only[bne_self_eq_false,cond_false];exact Bm0 a (by omega) (Atu K a a) (fun n i=>rfl) K 0 (Z21 _) (by omega)
theorem Ax3{a:List Int}(w:a.length*8≤140737488355327):Aow K a a=some true:=by
 have hl:a.length≤140737488355327:=by omega
 unfold Aow;simp only[bne_self_eq_false,cond_false];exact Bm0 a (by omega) (Aux K a a) (fun n i=>rfl) K 0 (Z21 _) (by omega)
omit hK in
theorem Bgn (a:A9):Atd K a a=some true:=by simp[Atd]
theorem Bdw{a:List A9}(w:A11 a):Auy K a a=some true:=by
 have hl:a.length≤140737488355327:=by have:=w.2;omega
 unfold Auy;simp only[bne_self_eq_false,cond_false];exact Bmz a (Atd K) (fun x _=>Bgn x) (by omega) (Aq8 K a a) (fun n i=>by rw[Aq8];simp only[Ac2]) K 0 (Z21 _) (by omega)
theorem Bm8{a:Ba}(w:Atz a):At9 K a a=some true:=by
 simp[At9,Ax3 hK w.chunks.2,Bdw hK w.things,Ax3 hK w.tags.2]
theorem Bgo{a:List Ba}(w:Ag1 a):Avy K a a=some true:=by
 have hl:=Aej w;unfold Avy;simp only[bne_self_eq_false,cond_false];exact Bmz a (At9 K) (fun x hx=>Bm8 hK (w.1 x hx)) (by omega) (Arz K a a) (fun n i=>by rw[Arz];simp only[Ac2]) K 0 (Z21 _) (by omega)
theorem Bgp{a:Ax}(w:Azc a):Ate K a a=some true:=by
 simp[Ate,Ax3 hK w.tags.2,Ax3 hK w.chunks.2]
theorem Bdx{a:List Ax}(w:Bet a):Auz K a a=some true:=by
 have hl:a.length≤140737488355327:=by have:=w.2;omega
 unfold Auz;simp only[bne_self_eq_false,cond_false];exact Bmz a (Ate K) (fun x hx=>Bgp hK (w.1 x hx)) (by omega) (Aq9 K a a) (fun n i=>by rw[Aq9];simp only[Ac2]) K 0 (Z21 _) (by omega)
theorem A74{a:Eb}(w:Aqs a):Aqn K a a=some true:=by
 simp[Aqn,Ays,Ayt,A73 hK w.p.mem.2,Ax3 hK w.p.st.2,Ax3 hK w.p.own.2,Bgo hK w.l,Bdx hK w.q,Ax3 hK w.log.2]
omit hK in
theorem Bgq (a:List Int)(y:Int): ∃r,Avb K a y=some r:=by
 unfold Avb;cases decide (Aob .i64 y (a.length:Int)<0)<;>exact⟨_,rfl⟩
omit hK in
theorem Ax4 (a:List Int)(y:Int): ∃r,Aov K a y=some r:=by
 unfold Aov;cases decide (Aob .i64 y (a.length:Int)<0)<;>exact⟨_,rfl⟩
omit hK in
theorem Bdy (a:List Bb)(y:Int): ∃r,Aub K a y=some r:=by
 unfold Aub;cases decide (Aob .i64 y (a.length:Int)<0)<;>exact⟨_,rfl⟩
omit hK in
theorem Bm9 (a:Bc)(y:Int): ∃r,Aqc K a y=some r:=by
 unfold Aqc;obtain⟨r1,h1⟩:=Ax4 (K:=K) a.Ae y;rw[h1];simp only[Z0];cases decide (r1<0)
 ·obtain⟨r2,h2⟩:=Bdy (K:=K) a.Ea r1;simp only[h2,Z0,cond_false];cases decide (r2<0)
  ·obtain⟨r3,h3⟩:=Ax4 (K:=K) a.Dg r2;simp only[h3,Z0,cond_false];cases decide (r3<0)<;>exact⟨_,rfl⟩
  ·exact⟨_,rfl⟩
 ·exact⟨_,rfl⟩
theorem Bgr{a:List Bc}(w:Awz a)(y:Int): ∃r,As0 K a y=some r:=by
 have hl:=Ar5 w.2.1 (by decide)
 unfold As0;cases decide (Aob .i64 y (a.length:Int)<0)
 ·exact Buy a (Aqc K) (fun x _ y=>Bm9 x y) (by omega) (Aqe K a) (fun n y i=>rfl) K 0 _ (Z21 _) (by omega)
 ·exact⟨_,rfl⟩
omit hK in
theorem Bgs (a:Ay)(y:Int): ∃r,Apv K a y=some r:=by
 unfold Apv;obtain⟨r1,h1⟩:=Ax4 (K:=K) a.Dg y;rw[h1];simp only[Z0];cases decide (r1<0)
 ·obtain⟨r2,h2⟩:=Ax4 (K:=K) a.Ae r1;simp only[h2,Z0,cond_false];cases decide (r2<0)<;>exact⟨_,rfl⟩
 ·exact⟨_,rfl⟩
theorem Bdz{a:List Ay}(w:Av2 a)(y:Int): ∃r,Asb K a y=some r:=by
 have hl:=Ar5 w.2.1 (by decide)
 unfold Asb;cases decide (Aob .i64 y (a.length:Int)<0)
 ·exact Buy a (Apv K) (fun x _ y=>Bgs x y) (by omega) (Apy K a) (fun n y i=>rfl) K 0 _ (Z21 _) (by omega)
 ·exact⟨_,rfl⟩
omit hK in
theorem Bna (a:Dx)(y:Int): ∃r,At2 K a y=some r:=by
 unfold At2;obtain⟨r1,h1⟩:=Bgq (K:=K) a.Fy y;rw[h1];simp only[Z0];cases decide (r1<0)
 ·obtain⟨r2,h2⟩:=Ax4 (K:=K) a.Hh r1;simp only[h2,Z0,cond_false];cases decide (r2<0)
  ·obtain⟨r3,h3⟩:=Ax4 (K:=K) a.Fz r2;simp only[h3,Z0,cond_false];cases decide (r3<0)<;>exact⟨_,rfl⟩
  ·exact⟨_,rfl⟩
 ·exact⟨_,rfl⟩
theorem Bgt{a:Ec}(w:Aqd a)(y:Int): ∃r,Aqi K a y=some r:=by
 obtain⟨_,_,h4,h5,_⟩:=w;unfold Aqi;obtain⟨r1,h1⟩:=Bna (K:=K) a.fP y;rw[h1];simp only[Z0];cases decide (r1<0)
 ·obtain⟨r2,h2⟩:=Bgr hK h4 r1;simp only[h2,Z0,cond_false];cases decide (r2<0)
  ·obtain⟨r3,h3⟩:=Bdz hK h5 r2;simp only[h3,Z0,cond_false];cases decide (r3<0)
   ·obtain⟨r4,h4⟩:=Ax4 (K:=K) a.Pr r3;simp only[h4,Z0,cond_false];cases decide (r4<0)<;>exact⟨_,rfl⟩
   ·exact⟨_,rfl⟩
  ·exact⟨_,rfl⟩
 ·exact⟨_,rfl⟩
end
theorem Aqu{x:Int}(h:Aok x):wfi x:=Byc.1 h
theorem Ax5{l:List Int}(h:Awy l):A0d l:=⟨fun x hx=>Aqu (h.1 x hx),Awa h.2.1⟩
theorem B4t{x:Int}(h:Bbo x):0≤x∧x≤255:=by
 simpa[Bbo,Lit.wf,IntKind.min,IntKind.max,IntKind.signed,IntKind.bits]using h
theorem Bgu{l:List Int}(h:Bad l):Bm2 l:=⟨fun x hx=>B4t (h.1 x hx),by have:=Awa h.2.1;omega⟩
theorem Bd0{l:List Bb}(h:Av0 l):A11 (l.map A3q):=by
 refine⟨fun x hx=> ?_,by rw[B8];exact Awa h.2.1⟩
 obtain⟨y,hy,rfl⟩:=Eo.1 hx;obtain⟨h1,h2,h3⟩:=h.1 y hy;exact⟨Aqu h1,Aqu h2,Aqu h3⟩
theorem Bnb{a:Bc}(w:Av1 a):Atz (Ayv a):=by
 obtain⟨h1,h2,h3,h4,h5,h6,h7,h8,h9,h10,h11,h12,h13⟩:=w;exact⟨Aqu h1,Aqu h2,Aqu h3,Aqu h4,Aqu h5,Aqu h6,Aqu h7,Aqu h8,Ax5 h9,Aqu h10,Aqu h11,Bd0 h12,Ax5 h13⟩
theorem Bgv{a:Ay}(w:Aua a):Azc (Aw2 a):=by
 obtain⟨h1,h2,h3,h4,h5⟩:=w;exact⟨Aqu h1,Aqu h2,Ax5 h3,Ax5 h4,Aqu h5⟩
theorem Bgw{a:Ec}(w:Aqd a):Aqs (Ayn a):=by
 obtain⟨⟨c1,c2,c3,c4,c5,c6⟩,⟨p1,p2,p3⟩,h3,h4,h5⟩:=w;refine⟨⟨Aqu c1,Aqu c2,Aqu c3,Aqu c4,Aqu c5,Aqu c6⟩,⟨Bgu p1,Ax5 p2,Ax5 p3⟩,⟨fun x hx=> ?_,?_⟩,⟨fun x hx=> ?_,?_⟩,Ax5 h5⟩
 ·obtain⟨y,hy,rfl⟩:=Eo.1 hx;exact Bnb (h3.1 y hy)
 ·show(a.fL.map Ayv).length*152≤_;rw[B8];exact Awa h3.2.1
 ·obtain⟨y,hy,rfl⟩:=Eo.1 hx;exact Bgv (h4.1 y hy)
 ·show(a.fQ.map Aw2).length*72≤_;rw[B8];exact Awa h4.2.1
def K0:Nat:=281474976710656
theorem Bd1{α:Type}[Inhabited α]{l:List α}{i:Nat}(h:i<l.length)(x:α):gt (l.set (i:Int).toNat x) (i:Int)=x:=by
 rw[Aeg (by simpa using h)];simp
theorem Bqq{α:Type}(l:List α)(i:Nat)(x y:α):(l.set i x).set i y=l.set i y:=List.set_set ..
theorem Ay3{k:Nat}(h:k≤140737488355328):Aoa .i64 (k:Int) 1=((k+1:Nat):Int):=Ag7 h
theorem Bqr{α:Type}[Inhabited α]{l:List α}{i:Nat}(h:i<l.length):l.drop i=gt l (i:Int)::l.drop (i+1):=by
 rw[Aeg h,Z47 h]
section
variable {K:Nat} (hK:281474976710656≤K)
include hK
def Awe (n:Nat)(k:Nat):List Int:=(List.range n).map fun i=>((k+i:Nat):Int)
omit hK in
theorem Aqh (n k:Nat):(Awe n k).length=n:=by simp[Awe]
omit hK in
theorem Bd2 (k:Nat): ∀(n i:Nat) (v:List Int),k+v.length≤140737488355327->i≤v.length->(∀j,j<i->v[j]? =(Awe v.length k)[j]?)->v.length - i<n→
  Ara K n v ((k+i:Nat):Int) (i:Int)=some (((k+v.length:Nat):Int),Awe v.length k):=by
 intro n
 induction n with
 |zero=>intro i v _ _ _ h;omega
 |succ n ih=>
  intro i v hl hi hj hn;rw[Ara];rcases F9 i v.length with h|h
  ·rw[Afe h];simp only[cond_true]
   have e:Aoa .i64 ((k+i:Nat):Int) 1=((k+(i+1):Nat):Int):=by unfold Aoa;rw[Ag4 (by omega) (by omega)];omega
   rw[if_pos ⟨by omega,by omega⟩,e,Ag7 (i:=i) (by omega)]
   have:=ih (i+1) (v.set (i:Int).toNat ((k+i:Nat):Int)) (by simpa using hl) (by simp only[Z49];omega) (fun j hj2=>by
    rw[Int.toNat_natCast,V8,Z49]
    by_cases e:i=j
    ·subst e;rw[if_pos rfl,if_pos h];simp[Awe,h]
    ·rw[if_neg e];exact hj j (by omega)) (by simp only[Z49];omega)
   rw[this];simp
  ·rw[Agf h]
   have hia:i=v.length:=by omega
   subst hia
   have e:v=Awe v.length k:=by
    refine List.ext_getElem? fun j=> ?_;rcases F9 j v.length with hja|hja
    ·exact hj j hja
    ·rw[Z58 (by omega),Z58 (by rw[Aqh];omega)]
   simp only[cond_false];rw[←e]
theorem Ax6 (a:List Int)(k:Nat)(hk:k+a.length≤140737488355327):Alg K a (k:Int)=some (((k+a.length:Nat):Int),Awe a.length k):=by
 unfold Alg;exact Bd2 k K 0 a hk (Z21 _) (fun j hj=>by omega) (by omega)
def Bcc{α:Type}(_:α):Nat:=3
omit hK in
theorem A0o{α:Type}(l:List α):(l.map Bcc).sum=3*l.length:=by
 induction l with
 |nil=>rfl
 |cons a l ih=>simp only[Z8,List.sum_cons,Y9,ih,Bcc];omega
def Ai0 (x:Ba):Nat:=10+x.Ae.length+3*x.Ea.length+x.Dg.length
def Apm (x:Ax):Nat:=3+x.Dg.length+x.Ae.length
def Atj (p:Dw):Nat:=p.Fy.length+p.Hh.length+p.Fz.length
def cells (w:Eb):Nat:=Atj w.fP+(w.fL.map Ai0).sum+(w.fQ.map Apm).sum+w.Pr.length
end
theorem Bu0{y:Int}{n:Nat}(h0:0≤y)(h1:y≤1048576)(hn:n≤140737488355327):Aob .i64 y (n:Int)=y - n:=by
 unfold Aob;exact Ag4 (by omega) (by omega)
theorem A17{n:Nat}{y r:Int}(hn:n≤140737488355327)(h0:0≤y)(h1:y≤1048576)(h:(bif (decide ((Aob .i64 y (n:Int))<0))then some (-1)else some (Aob .i64 y (n:Int)))=some r)(hr:0≤r):r+n=y:=by
 rw[Bu0 h0 h1 hn]at h;cases e:decide (y - (n:Int)<0)with
 |true=>rw[e]at h;simp at h;omega
 |false=>rw[e]at h;simp at h;omega
theorem Ay4{f:Option Int}{g:Int->Option Int}{r:Int}(h:f.bind (fun q=>bif decide (q<0)then some (-1)else g q)=some r)(hr:0≤r): ∃q,f=some q∧0≤q∧g q=some r:=by
 cases f with
 |none=>cases h
 |some q=>
  simp only[Z0]at h;cases e:decide (q<0)with
  |true=>rw[e]at h;simp at h;omega
  |false=>rw[e]at h;exact⟨q,rfl,by simpa using e,h⟩
theorem B4u{α:Type}[Inhabited α](a:List α)(f:α->Int->Option Int)(c:α->Nat)(hf: ∀x∈a,∀y r,0≤y->y≤1048576->f x y=some r->0≤r->r+c x=y)(ha:a.length≤140737488355327)
  (L:Nat->Int->Int->Option Int) (h00: ∀y i,L 0 y i=none) (hL: ∀n y i,L (n+1) y i=bif decide (i<(a.length:Int))then(if(0:Int)≤i∧i<(a.length:Int)then(f (gt a i) y).bind (fun r=>bif decide (r<0)then some (-1)else L n r (Aoa .i64 i 1))else none)else some y):
  ∀(n i:Nat) (y r:Int),i≤a.length->0≤y->y≤1048576->L n y (i:Int)=some r->0≤r->r+(((a.drop i).map c).sum:Nat)=y:=by
 intro n
 induction n with
 |zero=>intro i y r _ _ _ h;rw[h00]at h;cases h
 |succ n ih=>
  intro i y r hi h0 h1 h hr;rw[hL]at h;rcases F9 i a.length with hl|hl
  ·rw[Afe hl]at h;simp only[cond_true]at h;rw[if_pos ⟨by omega,by omega⟩,Ag7 (by omega)]at h
   obtain⟨q,q1,q2,q3⟩:=Ay4 h hr
   have e1:=hf _ (Apl hl) _ _ h0 h1 q1 q2
   have e2:=ih (i+1) q r hl q2 (by omega) q3 hr
   rw[Bqr hl,Z8,List.sum_cons];omega
  ·rw[Agf hl]at h;simp only[cond_false,Z7]at h;rw[Z48 hl];simp;omega
def szN (x:Bc):Nat:=x.Ae.length+x.Ea.length+x.Dg.length
def szW (x:Ay):Nat:=x.Dg.length+x.Ae.length
theorem Bnc{K:Nat}{a:Bc}(w:Av1 a){y r:Int}(h0:0≤y)(h1:y≤1048576)(h:Aqc K a y=some r)(hr:0≤r):r+szN a=y:=by
 obtain⟨_,_,_,_,_,_,_,_,w1,_,_,w2,w3⟩:=w;unfold Aqc at h;obtain⟨q,q1,q2,h⟩:=Ay4 h hr;obtain⟨p,p1,p2,h⟩:=Ay4 h hr;obtain⟨s,s1,s2,h⟩:=Ay4 h hr
 have e1:=A17 (Ar5 w1.2.1 (by decide)) h0 h1 q1 q2
 have e2:=A17 (Ar5 w2.2.1 (by decide)) q2 (by omega) p1 p2
 have e3:=A17 (Ar5 w3.2.1 (by decide)) p2 (by omega) s1 s2
 injection h with h
 unfold szN;omega
theorem Bgx{K:Nat}{a:Ay}(w:Aua a){y r:Int}(h0:0≤y)(h1:y≤1048576)(h:Apv K a y=some r)(hr:0≤r):r+szW a=y:=by
 obtain⟨_,_,w1,w2,_⟩:=w;unfold Apv at h;obtain⟨q,q1,q2,h⟩:=Ay4 h hr;obtain⟨p,p1,p2,h⟩:=Ay4 h hr
 have e1:=A17 (Ar5 w1.2.1 (by decide)) h0 h1 q1 q2
 have e2:=A17 (Ar5 w2.2.1 (by decide)) q2 (by omega) p1 p2
 injection h with h
 unfold szW;omega
theorem Bu1{n:Nat}{y r:Int}{o:Int->Option Int}(hn:n≤140737488355327)(h0:0≤y)(h1:y≤1048576)(h:(bif (decide ((Aob .i64 y (n:Int))<0))then some (-1)else o (Aob .i64 y (n:Int)))=some r)(hr:0≤r):0≤y - n∧o (y - n)=some r:=by
 rw[Bu0 h0 h1 hn]at h;cases e:decide (y - (n:Int)<0)with
 |true=>rw[e]at h;simp at h;omega
 |false=>rw[e]at h;exact⟨by simpa using e,h⟩
theorem Bgy{K:Nat}{a:Ec}(w:Aqd a){r:Int}(h:Aqi K a 1048576=some r)(hr:0≤r):a.fP.Fy.length+a.fP.Hh.length+a.fP.Fz.length+(a.fL.length+(a.fL.map szN).sum)+(a.fQ.length+(a.fQ.map szW).sum)+a.Pr.length≤1048576:=by
 obtain⟨_,⟨w1,w2,w3⟩,w4,w5,w6⟩:=w;unfold Aqi at h;obtain⟨q,q1,q2,h⟩:=Ay4 h hr;unfold At2 at q1;obtain⟨p1,a1,b1,q1⟩:=Ay4 q1 q2;obtain⟨p2,a2,b2,q1⟩:=Ay4 q1 q2;obtain⟨p3,a3,b3,q1⟩:=Ay4 q1 q2
 have e1:=A17 (Ar5 w1.2.1 (by decide)) (by omega) (by omega) a1 b1
 have e2:=A17 (Ar5 w2.2.1 (by decide)) b1 (by omega) a2 b2
 have e3:=A17 (Ar5 w3.2.1 (by decide)) b2 (by omega) a3 b3
 injection q1 with q1
 obtain⟨s,s1,s2,h⟩:=Ay4 h hr;obtain⟨t,t1,t2,h⟩:=Ay4 h hr;obtain⟨u,u1,u2,h⟩:=Ay4 h hr;injection h with h
 unfold As0 at s1;obtain⟨z1,s1⟩:=Bu1 (o:=fun z=>Aqe K a.fL K z 0) (Ar5 w4.2.1 (by decide)) q2 (by omega) s1 s2
 have e4:=B4u a.fL (Aqc K) szN (fun x hx y r h0 h1 h hr=>Bnc (w4.1 x hx) h0 h1 h hr) (Ar5 w4.2.1 (by decide)) (Aqe K a.fL) (fun _ _=>rfl) (fun _ _ _=>rfl) K 0 _ _ (Z21 _) z1 (by omega) s1 s2
 rw[Z55]at e4;unfold Asb at t1;obtain⟨z2,t1⟩:=Bu1 (o:=fun z=>Apy K a.fQ K z 0) (Ar5 w5.2.1 (by decide)) s2 (by omega) t1 t2
 have e5:=B4u a.fQ (Apv K) szW (fun x hx y r h0 h1 h hr=>Bgx (w5.1 x hx) h0 h1 h hr) (Ar5 w5.2.1 (by decide)) (Apy K a.fQ) (fun _ _=>rfl) (fun _ _ _=>rfl) K 0 _ _ (Z21 _) z2 (by omega) t1 t2
 rw[Z55]at e5
 have e6:=A17 (Ar5 w6.2.1 (by decide)) t2 (by omega) u1 u2
 omega
theorem Bgz (l:List Bc):((l.map Ayv).map Ai0).sum≤13*(l.length+(l.map szN).sum):=by
 induction l with
 |nil=>exact Z9 _
 |cons x l ih=>
  simp only[Z8,List.sum_cons,Y9]
  have:Ai0 (Ayv x)≤13*(1+szN x):=by simp only[Ai0,Ayv,szN,B8];omega
  omega
theorem Bg0 (l:List Ay):((l.map Aw2).map Apm).sum≤13*(l.length+(l.map szW).sum):=by
 induction l with
 |nil=>exact Z9 _
 |cons x l ih=>
  simp only[Z8,List.sum_cons,Y9]
  have:Apm (Aw2 x)≤13*(1+szW x):=by simp only[Apm,Aw2,szW];omega
  omega
theorem Bqs{K:Nat}{a:Ec}(w:Aqd a){r:Int}(h:Aqi K a 1048576=some r)(hr:0≤r):cells (Ayn a)≤13631488:=by
 have h1:=Bgy w h hr
 have h2:=Bgz a.fL
 have h3:=Bg0 a.fQ
 show a.fP.Fy.length+a.fP.Hh.length+a.fP.Fz.length+((a.fL.map Ayv).map Ai0).sum+((a.fQ.map Aw2).map Apm).sum+a.Pr.length≤_;omega
section
variable {K:Nat} (hK:281474976710656≤K)
include hK
theorem A3r{α β:Type}(l:List α)(hl:l.length≤140737488355327)(fin:Option β)(L:Nat->List α->Int->Option β)
  (hs: ∀n v (i:Nat) (h:i<l.length),v.length=i->L (n+1) v (i:Int)=L n (v++[l[i]]) ((i+1:Nat):Int))
  (he: ∀n,L (n+1) l (l.length:Int)=fin):L K [] 0=fin:=by
 have:=Bap hK l (by omega) (fun _=>true) fin none (fun n i=>L n (l.take i) (i:Int)) (fun n i h=>by
  rw[hs n _ i h (by simp;omega),List.take_append_getElem];rfl) (fun n=>by rw[List.take_length];exact he n)
 rw[Z1.2 (fun _ _=>rfl)]at this;simpa using this
omit hK in
theorem A3j (K:Nat){p:Dw}(w:Azl p):At4 K p=some p:=by
 have hm:=Anj
 have h1:=w.mem.2
 have h2:=w.st.2
 have h3:=w.own.2;unfold At4;simp only[Zg];rw[if_pos ⟨by omega,by omega⟩,if_pos ⟨by omega,by omega⟩,if_pos ⟨by omega,by omega⟩]
omit hK in
theorem Bcd (K:Nat){n:Ba}(w:Atz n):Awm K n=some n:=by
 have hm:=Anj
 have h1:=w.chunks.2
 have h2:=w.things.2
 have h3:=w.tags.2;unfold Awm;simp only[Zg];rw[if_pos ⟨by omega,by omega⟩,if_pos ⟨by omega,by omega⟩,if_pos ⟨by omega,by omega⟩]
theorem A6z{l:List Ba}(w:Ag1 l):Avd K l=some l:=by
 have hm:=Anj
 have h2:=w.2;unfold Avd;refine A3r hK l (Aej w) (some l) (fun n v i=>Aqj K l n v i) (fun n v i h hv=> ?_) (fun n=> ?_)
 ·have hl:(v++[l[i]]).length=i+1:=by simp[hv]
  simp only[Aqj];rw[Afe h,cond_true,if_pos (Aje h),Aeg h,Bcd K (w.1 _ (List.getElem_mem h)),Z0,if_pos ⟨by rw[hl];omega,by rw[hl];omega⟩,Ag7 (by omega)]
 ·show Aqj K l (n+1) _ _=_;rw[Aqj,Agf (Z9 _),cond_false]
omit hK in
theorem Baw (K:Nat){x:Ax}(w:Azc x):Ave K x=some x:=by
 have hm:=Anj
 have h1:=w.tags.2
 have h2:=w.chunks.2;unfold Ave;simp only[Zg];rw[if_pos ⟨by omega,by omega⟩,if_pos ⟨by omega,by omega⟩]
theorem Bax{w:Eb}(hw:Aqs w):Avf K w=some w:=by
 have hm:=Anj
 have h2:=hw.q.2
 have h3:=hw.log.2;unfold Avf;rw[A3j K hw.p,Z0,A6z hK hw.l,Z0]
 refine A3r hK w.fQ (by omega) (some w) (fun n v i=>Apq K n i w.fC.Ae w.fC.Eg w.fC.C0 w.fC.E9 w.fC.C1 w.fC.Eh w.fP.Fy w.fP.Hh w.fP.Fz w.fL v w.Pr (Eb.mk (Er.mk 0 0 0 0 0 0) (Dw.mk [] [] []) [] [] []) w.fC.Ae w.fC.Eg w.fC.C0 w.fC.E9 w.fC.C1 w.fC.Eh w.fP.Fy w.fP.Hh w.fP.Fz w.fL w.fQ w.Pr) (fun n v i h hv=> ?_) (fun n=> ?_)
 ·have hl:(v++[w.fQ[i]]).length=i+1:=by simp[hv]
  simp only[Apq];rw[Afe h,cond_true,if_pos (Aje h),Aeg h,Baw K (hw.q.1 _ (List.getElem_mem h)),Z0,if_pos ⟨by rw[hl];omega,by rw[hl];omega⟩,Ag7 (by omega)]
 ·show Apq K (n+1) _ _ _ _ _ _ _ _ _ _ _ _ _ _ _ _ _ _ _ _ _ _ _ _ _ _=_;rw[Apq,Agf (Z9 _),cond_false];simp only[Zg];rw[if_pos ⟨by omega,by omega⟩]
omit hK in
theorem A0w (K:Nat){p:Dw}(w:Azl p):Asi K p=some p:=by
 unfold Asi;rw[Bdh K w.mem.2,Asn K w.st.2,Asn K w.own.2];rfl
omit hK in
theorem A7r (K:Nat){n:Ba}(w:Atz n):Aut K n=some n:=by
 unfold Aut;rw[Asn K w.chunks.2,Bbx K w.things.2,Asn K w.tags.2];rfl
theorem A0i{l:List Ba}(w:Ag1 l):Arw K l=some l:=by
 have hm:=Anj
 have h2:=w.2;unfold Arw;refine A3r hK l (Aej w) (some l) (fun n v i=>Anp K l n v (l.length:Int) i) (fun n v i h hv=> ?_) (fun n=> ?_)
 ·have hl:(v++[l[i]]).length=i+1:=by simp[hv]
  simp only[Anp];rw[Afe h,cond_true,if_pos (Aje h),Aeg h,A7r K (w.1 _ (List.getElem_mem h)),Z0,if_pos ⟨by rw[hl];omega,by rw[hl];omega⟩,Ag7 (by omega)]
 ·show Anp K l (n+1) _ _ _=_;rw[Anp,Agf (Z9 _),cond_false]
omit hK in
theorem A60 (K:Nat){x:Ax}(w:Azc x):Att K x=some x:=by
 unfold Att;rw[Asn K w.tags.2,Asn K w.chunks.2];rfl
theorem Bce{α:Type}(v:List α)(d x:α):(v++[d]).set (v.length:Int).toNat x=v++[x]:=by
 rw[Int.toNat_natCast,List.set_append_right _ _ (Z9 _)];simp
theorem A0j{w:Eb}(hw:Aqs w):Aqg K w=some w:=by
 have hm:=Anj
 have h2:=hw.q.2;unfold Aqg;rw[A0w K hw.p,Z0,A0i hK hw.l,Z0,Asn K hw.log.2,Z0];refine A3r hK w.fQ (by omega) (some w) (fun n v i=>Anq K n w.fQ (w.fQ.length:Int) i (Eb.mk w.fC w.fP w.fL v w.Pr) (Eb.mk (Er.mk 0 0 0 0 0 0) (Dw.mk [] [] []) [] [] [])) (fun n v i h hv=> ?_) (fun n=> ?_)
 ·simp only[Anq];rw[Afe h,cond_true,if_pos (Aje h),Aeg h,A60 K (hw.q.1 _ (List.getElem_mem h)),Z0,if_pos ⟨by omega,by omega⟩,Ag7 (by omega),Bce hK]
 ·show Anq K (n+1) _ _ _ _ _=_;rw[Anq,Agf (Z9 _),cond_false]
end
def Awb (n:Nat)(k:Nat):List Int:=(List.range n).map fun i=>IntKind.u8.wrap ((k+i:Nat):Int)
theorem Au3 (n k:Nat):(Awb n k).length=n:=by simp[Awb]
theorem Bcf{K:Nat}(k:Nat): ∀(n i:Nat) (v:List Int),k+v.length≤140737488355327->i≤v.length->(∀j,j<i->v[j]? =(Awb v.length k)[j]?)->v.length - i<n→
  Aqo K n v ((k+i:Nat):Int) (i:Int)=some (((k+v.length:Nat):Int),Awb v.length k):=by
 intro n
 induction n with
 |zero=>intro i v _ _ _ h;omega
 |succ n ih=>
  intro i v hl hi hj hn;rw[Aqo];rcases F9 i v.length with h|h
  ·rw[Afe h];simp only[cond_true]
   have e:Aoa .i64 ((k+i:Nat):Int) 1=((k+(i+1):Nat):Int):=by unfold Aoa;rw[Ag4 (by omega) (by omega)];omega
   rw[if_pos ⟨by omega,by omega⟩,e,Ag7 (i:=i) (by omega)]
   have:=ih (i+1) (v.set (i:Int).toNat (IntKind.u8.wrap ((k+i:Nat):Int))) (by simpa using hl) (by simp only[Z49];omega) (fun j hj2=>by
    rw[Int.toNat_natCast,V8,Z49]
    by_cases e:i=j
    ·subst e;rw[if_pos rfl,if_pos h];simp[Awb,h]
    ·rw[if_neg e];exact hj j (by omega)) (by simp only[Z49];omega)
   rw[this];simp
  ·rw[Agf h]
   have hia:i=v.length:=by omega
   subst hia
   have e:v=Awb v.length k:=by
    refine List.ext_getElem? fun j=> ?_;rcases F9 j v.length with hja|hja
    ·exact hj j hja
    ·rw[Z58 (by omega),Z58 (by rw[Au3];omega)]
   simp only[cond_false];rw[←e]
theorem Bcg{K:Nat}(m k:Nat)(hl:k+m≤140737488355327): ∀(n i:Nat),i≤m->m - i<n->Aqq K (Awb m k) n ((k+i:Nat):Int) (i:Int)=some ((k+m:Nat):Int):=by
 intro n
 induction n with
 |zero=>intro i _ h;omega
 |succ n ih=>
  intro i hi hn;rw[Aqq];rcases F9 i m with h|h
  ·have hlt:i<(Awb m k).length:=by rw[Au3];exact h
   have e:Aoa .i64 ((k+i:Nat):Int) 1=((k+(i+1):Nat):Int):=by unfold Aoa;rw[Ag4 (by omega) (by omega)];omega
   rw[Afe hlt,if_pos ⟨by omega,by omega⟩,Aeg hlt,e,Ag7 (i:=i) (by omega),ih (i+1) h (by omega)]
   simp[Awb]
  ·have:i=m:=by omega
   subst this;rw[Agf (by rw[Au3];exact h)]
   rfl
def Bez (w:Eb)(h:Ct):Int:=((Apg w.fL w.fL.length (Aqt w.fL h)).length:Int)
theorem Bd3{l:List Ba}(hl:l.length≤140737488355327)(h:Ct):wfi (Aqt l h):=by
 by_cases h0:Aqt l h<0
 ·unfold Aqt at *;split at h0
  ·rename_i h1;rw[if_pos h1]at *;obtain⟨⟨a,b⟩,_⟩:=h1;exact⟨by omega,by omega⟩
  ·rename_i h1;rw[if_neg h1];exact⟨by omega,by omega⟩
 ·have:=A26 h0;exact⟨by omega,by omega⟩
section
variable {K:Nat} (hK:281474976710656≤K)
include hK
theorem A75 (a:List Int)(k:Nat)(hk:k+a.length≤140737488355327):Ar0 K a (k:Int)=some (((k+a.length:Nat):Int),Awb a.length k):=by
 unfold Ar0;exact Bcf k K 0 a hk (Z21 _) (fun j hj=>by omega) (by omega)
theorem A76 (m k:Nat)(hl:k+m≤140737488355327):Ar2 K (Awb m k) (k:Int)=some ((k+m:Nat):Int):=by
 unfold Ar2;exact Bcg m k hl K 0 (Z21 _) (by omega)
theorem Bg1 (w:Eb)(hw:Ag1 w.fL)(h:Ct):At7 K w h=some (Bez w h):=by
 have hl:=Aej hw;unfold At7 Ayq;rw[Azd K hl,Z0,A05 hK hw _ (Bd3 hl h)];rfl
theorem Bg2 (w:Eb)(hw:Ag1 w.fL)(h:Ct):Aww K w h=some (Bez w h):=by
 have hl:=Aej hw;unfold Aww Ayr;rw[A13 K hl,Z0,A06 hK hw];rfl
def A61 (code Fe:Int)(b:List Int):Fh:=Fh.mk code (Ct.mk 0 0) (Fg.mk (Ct.mk 0 0) 0 0) b Fe 0 0
end
section
variable {β:Type} [Inhabited β]
def At0 (c:β->Nat)(m:β->Nat->β):List β->Nat->List β
 |[],_=>[]
 |x::l,k=>m x k::At0 c m l (k+c x)
theorem Awj (c:β->Nat)(m:β->Nat->β): ∀(l:List β) (k:Nat),(At0 c m l k).length=l.length
 |[],_=>rfl
 |x::l,k=>by simp[At0,Awj c m l]
theorem A1b (c:β->Nat)(m:β->Nat->β)(L:Nat->Int->Int->List β->Option (Int×List β))
  (h0: ∀n k (v:List β),L (n+1) k (v.length:Int) v=some (k,v))
  (hL: ∀n (k i:Nat) (v:List β),i<v.length->v.length≤140737488355327->k+c (gt v (i:Int))≤140737488355327->L (n+1) (k:Int) (i:Int) v=L n ((k+c (gt v (i:Int)):Nat):Int) ((i+1:Nat):Int) (v.set (i:Int).toNat (m (gt v (i:Int)) k))):
  ∀(l pre:List β) (n k:Nat),(pre++l).length≤140737488355327->l.length<n->k+(l.map c).sum≤140737488355327→
   L n (k:Int) (pre.length:Int) (pre++l)=some (((k+(l.map c).sum:Nat):Int),pre++At0 c m l k):=by
 intro l
 induction l with
 |nil=>
  intro pre n k _ hn _;obtain⟨n,rfl⟩: ∃n',n=n'+1:=⟨n - 1,by simp at hn;omega⟩
  simp only[List.append_nil,Gz,List.sum_nil,Nat.add_zero,At0];exact h0 _ _ _
 |cons x l ih=>
  intro pre n k hl hn hk;obtain⟨n,rfl⟩: ∃n',n=n'+1:=⟨n - 1,by omega⟩
  have hlt:pre.length<(pre++x::l).length:=by simp
  have hg:gt (pre++x::l) (pre.length:Int)=x:=by rw[Aeg hlt];simp
  simp only[Z8,List.sum_cons]at hk ⊢;rw[hL n k pre.length _ hlt hl (by rw[hg];omega),hg]
  have e:(pre++x::l).set (pre.length:Int).toNat (m x k)=(pre++[m x k])++l:=by
   rw[Int.toNat_natCast,List.set_append_right _ _ (Z9 _)];simp
  rw[e]
  have:=ih (pre++[m x k]) n (k+c x) (by simp at hl ⊢;omega) (by simp at hn;omega) (by omega)
  rw[show(pre++[m x k]).length=pre.length+1 by simp]at this
  rw[this,Zb];simp[At0]
theorem A1c (c:β->Nat)(m:β->Nat->β)(l0:List β)(a:List β)(H:Nat->Int->Int->Option Int)
  (h0: ∀n k,H (n+1) k (a.length:Int)=some k)
  (hH: ∀n (k i:Nat) x,x∈l0->i<a.length->a.length≤140737488355327->k+c x≤140737488355327->gt a (i:Int)=m x k->H (n+1) (k:Int) (i:Int)=H n ((k+c x:Nat):Int) ((i+1:Nat):Int)):
  ∀(l pre:List β) (n k:Nat),(∀x∈l,x∈l0)->a=pre++At0 c m l k->a.length≤140737488355327->l.length<n->k+(l.map c).sum≤140737488355327→
   H n (k:Int) (pre.length:Int)=some ((k+(l.map c).sum:Nat):Int):=by
 intro l
 induction l with
 |nil=>
  intro pre n k _ ha _ hn _;obtain⟨n,rfl⟩: ∃n',n=n'+1:=⟨n - 1,by simp at hn;omega⟩
  simp only[At0,List.append_nil]at ha;simp only[Gz,List.sum_nil,Nat.add_zero];rw[←ha];exact h0 _ _
 |cons x l ih=>
  intro pre n k hm ha hl hn hk;obtain⟨n,rfl⟩: ∃n',n=n'+1:=⟨n - 1,by omega⟩
  simp only[At0]at ha
  have hlt:pre.length<a.length:=by rw[ha];simp
  have hg:gt a (pre.length:Int)=m x k:=by rw[Aeg hlt];simp[ha]
  simp only[Z8,List.sum_cons]at hk ⊢;rw[hH n k pre.length x (hm x (by simp)) hlt hl (by omega) hg]
  have:=ih (pre++[m x k]) n (k+c x) (fun y hy=>hm y (by simp[hy])) (by rw[ha];simp) hl (by simp at hn;omega) (by omega)
  rw[show(pre++[m x k]).length=pre.length+1 by simp]at this
  rw[this,Zb]
end
def Bay (_:A9)(k:Nat):A9:=A9.mk (k:Nat) ((k+1:Nat):Int) ((k+2:Nat):Int)
def A1d (l:List A9)(k:Nat):List A9:=At0 Bcc Bay l k
def Azg (x:Ba)(k:Nat):Ba:=Ba.mk (k:Nat) ((k+1:Nat):Int) ((k+2:Nat):Int) ((k+3:Nat):Int) ((k+4:Nat):Int) ((k+5:Nat):Int) ((k+6:Nat):Int) ((k+7:Nat):Int)
 (Awe x.Ae.length (k+8)) ((k+8+x.Ae.length:Nat):Int) ((k+8+x.Ae.length+1:Nat):Int) (A1d x.Ea (k+8+x.Ae.length+1+1)) (Awe x.Dg.length (k+8+x.Ae.length+1+1+3*x.Ea.length))
def Azh (x:Ax)(k:Nat):Ax:=Ax.mk (k:Nat) ((k+1:Nat):Int) (Awe x.Dg.length (k+2)) (Awe x.Ae.length (k+2+x.Dg.length)) ((k+2+x.Dg.length+x.Ae.length:Nat):Int)
section
variable {K:Nat} (hK:281474976710656≤K)
include hK
theorem Bg3 (a:List A9)(k:Nat)(hk:k+3*a.length≤140737488355327):Asv K a (k:Int)=some (((k+3*a.length:Nat):Int),A1d a k):=by
 unfold Asv
 have:=A1b Bcc Bay (fun n k i v=>Al5 K n v k i) (fun n k v=>by show Al5 K (n+1) v k _=_;rw[Al5,Agf (Z9 _)];rfl)
  (fun n k i v h hv hk=>by
   have hk2:k+3≤140737488355327:=hk;simp only[Al5];rw[Afe h,cond_true,if_pos (Aje h)];simp only[Aql,Z49,Bd1 h,Bqq,if_pos (Aje h)];simp (disch:=omega) only[Ay3];rfl) a [] K k (by simp;omega) (by omega) (by rw[A0o];exact hk)
 rw[A0o]at this;exact this
theorem Bg4 (a:List Ba)(k:Nat)(ha:a.length≤140737488355327)(hk:k+(a.map Ai0).sum≤140737488355327):Atw K a (k:Int)=some (((k+(a.map Ai0).sum:Nat):Int),At0 Ai0 Azg a k):=by
 unfold Atw;exact A1b Ai0 Azg (fun n k i v=>Anr K n v k i) (fun n k v=>by show Anr K (n+1) v k _=_;rw[Anr,Agf (Z9 _)];rfl)
  (fun n k i v h hv hk=>by
   have hk2:k+(10+(gt v (i:Int)).Ae.length+3*(gt v (i:Int)).Ea.length+(gt v (i:Int)).Dg.length)≤140737488355327:=hk
   have e8:(Aoa .i64 (Aoa .i64 (Aoa .i64 (Aoa .i64 (Aoa .i64 (Aoa .i64 (Aoa .i64 (Aoa .i64 (k:Int) 1) 1) 1) 1) 1) 1) 1) 1)=((k+8:Nat):Int):=by
    simp (disch:=omega) only[Ay3]
   simp only[Anr];rw[Afe h,cond_true,if_pos (Aje h)];simp only[Aql,Z49,Bd1 h,Bqq,if_pos (Aje h)];rw[e8,Ax6 hK _ _ (by omega)]
   simp only[Z0,Aqh,if_true];rw[Ay3 (k:=k+8+(gt v (i:Int)).Ae.length) (by omega),Ay3 (k:=k+8+(gt v (i:Int)).Ae.length+1) (by omega),Bg3 hK _ _ (by omega)]
   simp only[Z0,A1d,Awj,if_true];rw[Ax6 hK _ _ (by omega)]
   simp only[Z0,Aqh,if_true];simp (disch:=omega) only[Ay3]
   have e:k+8+(gt v (i:Int)).Ae.length+1+1+3*(gt v (i:Int)).Ea.length+(gt v (i:Int)).Dg.length=k+Ai0 (gt v (i:Int)):=by unfold Ai0;omega
   rw[e];rfl) a [] K k (by simpa using ha) (by omega) hk
theorem Bg5 (a:List Ax)(k:Nat)(ha:a.length≤140737488355327)(hk:k+(a.map Apm).sum≤140737488355327):Asw K a (k:Int)=some (((k+(a.map Apm).sum:Nat):Int),At0 Apm Azh a k):=by
 unfold Asw;exact A1b Apm Azh (fun n k i v=>Al6 K n v k i) (fun n k v=>by show Al6 K (n+1) v k _=_;rw[Al6,Agf (Z9 _)];rfl)
  (fun n k i v h hv hk=>by
   have hk2:k+(3+(gt v (i:Int)).Dg.length+(gt v (i:Int)).Ae.length)≤140737488355327:=hk
   have e8:Aoa .i64 (Aoa .i64 (k:Int) 1) 1=((k+2:Nat):Int):=by simp (disch:=omega) only[Ay3]
   simp only[Al6];rw[Afe h,cond_true,if_pos (Aje h)];simp only[Aql,Z49,Bd1 h,Bqq,if_pos (Aje h)];rw[e8,Ax6 hK _ _ (by omega)]
   simp only[Z0,Aqh,if_true];rw[Ax6 hK _ _ (by omega)]
   simp only[Z0,Aqh,if_true];simp (disch:=omega) only[Ay3]
   have e:k+2+(gt v (i:Int)).Dg.length+(gt v (i:Int)).Ae.length+1=k+Apm (gt v (i:Int)):=by unfold Apm;omega
   rw[e];rfl) a [] K k (by simpa using ha) (by omega) hk
theorem Bd4 (m k:Nat)(hl:k+m≤140737488355327): ∀(n i:Nat),i≤m->m - i<n->Arb K (Awe m k) n ((k+i:Nat):Int) (i:Int)=some ((k+m:Nat):Int):=by
 intro n
 induction n with
 |zero=>intro i _ h;omega
 |succ n ih=>
  intro i hi hn;rw[Arb];rcases F9 i m with h|h
  ·have hlt:i<(Awe m k).length:=by rw[Aqh];exact h
   have e:Aoa .i64 ((k+i:Nat):Int) 1=((k+(i+1):Nat):Int):=by unfold Aoa;rw[Ag4 (by omega) (by omega)];omega
   rw[Afe hlt,if_pos ⟨by omega,by omega⟩,Aeg hlt,e,Ag7 (i:=i) (by omega),ih (i+1) h (by omega)]
   simp[Awe]
  ·have:i=m:=by omega
   subst this;rw[Agf (by rw[Aqh];exact h)]
   rfl
theorem Ax7 (m k:Nat)(hl:k+m≤140737488355327):Alh K (Awe m k) (k:Int)=some ((k+m:Nat):Int):=by
 unfold Alh;exact Bd4 hK m k hl K 0 (Z21 _) (by omega)
omit hK in
theorem An4 (k:Nat):decide ((k:Int)<0)=false:=decide_eq_false (by omega)
theorem Bnd (a:List A9)(k:Nat)(hk:k+3*a.length≤140737488355327):Asx K (A1d a k) (k:Int)=some ((k+3*a.length:Nat):Int):=by
 unfold Asx
 have:=A1c Bcc Bay a (A1d a k) (fun n q i=>Al7 K (A1d a k) n q i) (fun n q=>by show Al7 K _ (n+1) q _=_;rw[Al7,Agf (Z9 _)];rfl)
  (fun n q i x _ h hv hq hg=>by
   have hk2:q+3≤140737488355327:=hq;simp only[Al7];rw[Afe h,cond_true];simp only[if_pos (Aje h),hg,Bay];simp (disch:=omega) only[Ay3];simp only[bne_self_eq_false,cond_false];rfl) a [] K k (fun x hx=>hx) rfl (by unfold A1d;rw[Awj];omega) (by omega) (by rw[A0o];exact hk)
 rw[A0o]at this;exact this
theorem Bne (a:List Ba)(k:Nat)(ha:a.length≤140737488355327)(hk:k+(a.map Ai0).sum≤140737488355327):Atx K (At0 Ai0 Azg a k) (k:Int)=some ((k+(a.map Ai0).sum:Nat):Int):=by
 unfold Atx;exact A1c Ai0 Azg a (At0 Ai0 Azg a k) (fun n q i=>Ans K (At0 Ai0 Azg a k) n q i) (fun n q=>by show Ans K _ (n+1) q _=_;rw[Ans,Agf (Z9 _)];rfl)
  (fun n q i x _ h hv hq hg=>by
   have hk2:q+(10+x.Ae.length+3*x.Ea.length+x.Dg.length)≤140737488355327:=hq;simp only[Ans];rw[Afe h,cond_true];simp only[if_pos (Aje h),hg,Azg];simp (disch:=omega) only[Ay3];simp only[bne_self_eq_false,cond_false];rw[Ax7 hK _ _ (by omega)]
   simp only[Z0,An4,cond_false,bne_self_eq_false];rw[Ay3 (k:=q+8+x.Ae.length) (by omega),Ay3 (k:=q+8+x.Ae.length+1) (by omega)]
   simp only[bne_self_eq_false,cond_false];rw[Bnd hK _ _ (by omega)]
   simp only[Z0,An4,cond_false];rw[Ax7 hK _ _ (by omega)]
   simp only[Z0,An4,cond_false];rw[show q+8+x.Ae.length+1+1+3*x.Ea.length+x.Dg.length=q+Ai0 x by unfold Ai0;omega]) a [] K k (fun x hx=>hx) rfl (by rw[Awj];exact ha) (by omega) hk
theorem Bnf (a:List Ax)(k:Nat)(ha:a.length≤140737488355327)(hk:k+(a.map Apm).sum≤140737488355327):Asy K (At0 Apm Azh a k) (k:Int)=some ((k+(a.map Apm).sum:Nat):Int):=by
 unfold Asy;exact A1c Apm Azh a (At0 Apm Azh a k) (fun n q i=>Amb K (At0 Apm Azh a k) n q i) (fun n q=>by show Amb K _ (n+1) q _=_;rw[Amb,Agf (Z9 _)];rfl)
  (fun n q i x _ h hv hq hg=>by
   have hk2:q+(3+x.Dg.length+x.Ae.length)≤140737488355327:=hq;simp only[Amb];rw[Afe h,cond_true];simp only[if_pos (Aje h),hg,Azh];simp (disch:=omega) only[Ay3];simp only[bne_self_eq_false,cond_false];rw[Ax7 hK _ _ (by omega)]
   simp only[Z0,An4,cond_false,bne_self_eq_false];rw[Ax7 hK _ _ (by omega)]
   simp only[Z0,An4,cond_false,bne_self_eq_false];rw[Ay3 (k:=q+2+x.Dg.length+x.Ae.length) (by omega)]
   rw[show q+2+x.Dg.length+x.Ae.length+1=q+Apm x by unfold Apm;omega]) a [] K k (fun x hx=>hx) rfl (by rw[Awj];exact ha) (by omega) hk
end
def A77 (w:Eb)(k:Nat):List Int:=Awb w.fP.Fy.length k
def Bg6 (w:Eb)(k:Nat):List Int:=Awe w.fP.Hh.length (k+w.fP.Fy.length)
def A78 (w:Eb)(k:Nat):List Int:=Awe w.fP.Fz.length (k+w.fP.Fy.length+w.fP.Hh.length)
def mkL (w:Eb)(k:Nat):List Ba:=At0 Ai0 Azg w.fL (k+Atj w.fP)
def mkQ (w:Eb)(k:Nat):List Ax:=At0 Apm Azh w.fQ (k+Atj w.fP+(w.fL.map Ai0).sum)
def Bch (w:Eb)(k:Nat):List Int:=Awe w.Pr.length (k+Atj w.fP+(w.fL.map Ai0).sum+(w.fQ.map Apm).sum)
theorem Baz (w:Eb)(k:Nat):(A77 w k).length=w.fP.Fy.length∧(Bg6 w k).length=w.fP.Hh.length∧(A78 w k).length=w.fP.Fz.length∧(mkL w k).length=w.fL.length∧(mkQ w k).length=w.fQ.length∧(Bch w k).length=w.Pr.length:=
 ⟨Au3 _ _,Aqh _ _,Aqh _ _,Awj _ _ _ _,Awj _ _ _ _,Aqh _ _⟩
section
variable {K:Nat} (hK:281474976710656≤K)
include hK
theorem Bg7 (w:Eb)(k:Nat)(hk:k+Atj w.fP≤140737488355327):Au1 K w.fP (k:Int)=some (((k+Atj w.fP:Nat):Int),A77 w k,Bg6 w k,A78 w k):=by
 unfold Atj at hk ⊢;unfold Au1;rw[A75 hK _ _ (by omega)]
 simp only[Z0];rw[if_pos (Au3 _ _),Ax6 hK _ _ (by omega)]
 simp only[Z0];rw[if_pos (Aqh _ _),Ax6 hK _ _ (by omega)]
 simp only[Z0];rw[if_pos (Aqh _ _)];simp only[Zb,A77,Bg6,A78]
theorem A3k (w:Eb)(hL:w.fL.length≤140737488355327)(hQ:w.fQ.length≤140737488355327)(k:Nat)(hk:k+cells w≤140737488355327):Ar1 K w (k:Int)=some (((k+cells w:Nat):Int),A77 w k,Bg6 w k,A78 w k,mkL w k,mkQ w k,Bch w k):=by
 obtain⟨l1,l2,l3,l4,l5,l6⟩:=Baz w k;unfold cells at hk ⊢;unfold Ar1;rw[Bg7 hK w k (by omega)]
 simp only[Z0];rw[if_pos ⟨l1,l2,l3⟩,Bg4 hK _ _ hL (by omega)]
 simp only[Z0];rw[if_pos (show(At0 Ai0 Azg w.fL (k+Atj w.fP)).length=w.fL.length from l4),Bg5 hK _ _ hQ (by omega)]
 simp only[Z0];rw[if_pos (show(At0 Apm Azh w.fQ (k+Atj w.fP+(w.fL.map Ai0).sum)).length=w.fQ.length from l5),Ax6 hK _ _ (by omega)]
 simp only[Z0];rw[if_pos (Aqh _ _)];simp only[Zb,mkL,mkQ,Bch]
theorem Bci (w:Eb)(hL:w.fL.length≤140737488355327)(hQ:w.fQ.length≤140737488355327)(k:Nat)(hk:k+cells w≤140737488355327)(c:Er):Ar3 K (Eb.mk c (Dw.mk (A77 w k) (Bg6 w k) (A78 w k)) (mkL w k) (mkQ w k) (Bch w k)) (k:Int)=some ((k+cells w:Nat):Int):=by
 unfold cells at hk ⊢;unfold Ar3 Axf;simp only[A77,Bg6,A78,mkL,mkQ,Bch]
 have hP:Atj w.fP=w.fP.Fy.length+w.fP.Hh.length+w.fP.Fz.length:=rfl;rw[A76 hK _ _ (by omega)]
 simp only[Z0,An4,cond_false];rw[Ax7 hK _ _ (by omega)]
 simp only[Z0,An4,cond_false];rw[Ax7 hK _ _ (by omega)]
 simp only[Z0,An4,cond_false];rw[show k+w.fP.Fy.length+w.fP.Hh.length+w.fP.Fz.length=k+Atj w.fP by omega,Bne hK _ _ hL (by omega)]
 simp only[Z0,An4,cond_false];rw[Bnf hK _ _ hQ (by omega)]
 simp only[Z0,An4,cond_false];rw[Ax7 hK _ _ (by omega)]
 simp only[Z0,An4,cond_false,Zb]
theorem Bqt{a:Fh}(h:a.fB.length≤140737488355327):Atv K a a=some true:=by
 simp[Atv,Ay9,Au0,A73 hK h]
theorem Bg8 (a:Fh)(k:Nat)(h:k+a.fB.length≤140737488355327):Avz K a (k:Int)=some (((k+a.fB.length:Nat):Int),Awb a.fB.length k):=by
 unfold Avz;rw[A75 hK _ _ h];simp only[Z0];rw[if_pos (Au3 _ _)]
theorem Bg9 (a:Fh)(m k:Nat)(h:k+m≤140737488355327):Atf K (Fh.mk a.W9 a.fH a.fR (Awb m k) a.Xa a.E9 a.Ps) (k:Int)=some ((k+m:Nat):Int):=by
 unfold Atf;rw[A76 hK _ _ h];simp only[Z0,An4,cond_false]
end
theorem A3s{β:Type}(f:β->Nat): ∀(l:List β) (i:Nat) (h:i<l.length) (x:β),((l.set i x).map f).sum+f l[i]=(l.map f).sum+f x
 |[],i,h,x=>by simp at h
 |y::l,0,h,x=>by simp;omega
 |y::l,i+1,h,x=>by
  have:=A3s f l i (by simpa using h) x
  simp only[List.set_cons_succ,Z8,List.sum_cons,List.getElem_cons_succ]at this ⊢;omega
theorem Ax8{l:List Ba}(hl:Ag1 l)(i:Nat){x:Ba}(hx:Atz x):Ag1 (l.set i x):=
 ⟨fun y hy=>(Z54 hy).elim (hl.1 y) (fun e=>e ▸ hx),by rw[Z49];exact hl.2⟩
def A7s (p:Dw)(k:Int):Dw:=if(0≤k∧k<(p.Hh.length:Int)∧k<(p.Fz.length:Int))∧gt p.Hh k=1 then Dw.mk p.Fy (p.Hh.set k.toNat 2) (p.Fz.set k.toNat (-1))else p
theorem Ba0{p:Dw}(hp:Azl p)(k:Int):Azl (A7s p k)∧Atj (A7s p k)=Atj p:=by
 unfold A7s;split
 ·refine⟨⟨hp.mem,⟨fun x hx=> ?_,by rw[Z49];exact hp.st.2⟩,⟨fun x hx=> ?_,by rw[Z49];exact hp.own.2⟩⟩,by simp[Atj]⟩
  ·rcases Z54 hx with h|h
   ·exact hp.st.1 x h
   ·subst h;exact⟨by omega,by omega⟩
  ·rcases Z54 hx with h|h
   ·exact hp.own.1 x h
   ·subst h;exact⟨by omega,by omega⟩
 ·exact⟨hp,rfl⟩
theorem Bd5 (K:Nat){p:Dw}(hp:Azl p)(k:Int):Axm K p k=some (A7s p k):=by
 have h1:=hp.st.2;unfold Axm Arp A7s;rw[A3j K hp,Z0,A12 K (by omega),Z0]
 by_cases hs:0≤k∧k<(p.Hh.length:Int)
 ·rw[decide_eq_true hs,cond_true]
  by_cases ho:k<(p.Fz.length:Int)
  ·rw[decide_eq_true ho,cond_true,if_pos hs,if_pos hs,if_pos ⟨hs.1,ho⟩]
   by_cases h:gt p.Hh k=1
   ·rw[if_pos ⟨⟨hs.1,hs.2,ho⟩,h⟩,h];rfl
   ·rw[if_neg (show ¬((0≤k∧k<(p.Hh.length:Int)∧k<(p.Fz.length:Int))∧gt p.Hh k=1) from fun x=>h x.2),Aqr h];rfl
  ·rw[decide_eq_false ho,if_neg (show ¬((0≤k∧k<(p.Hh.length:Int)∧k<(p.Fz.length:Int))∧gt p.Hh k=1) from fun x=>ho x.1.2.2)];rfl
 ·rw[decide_eq_false hs,if_neg (show ¬((0≤k∧k<(p.Hh.length:Int)∧k<(p.Fz.length:Int))∧gt p.Hh k=1) from fun x=>hs ⟨x.1.1,x.1.2.1⟩)];rfl
theorem Bd6 (K:Nat){p:Dw}(hp:Azl p)(k:Int):Axo K p k=some (A7s p k):=by
 have h1:=hp.st.2
 have h2:=hp.own.2;unfold Axo Ata A7s
 have e:Aob .i64 (Aaf (p.Hh.length:Int) (p.Fz.length:Int)) 1=Aaf (p.Hh.length:Int) (p.Fz.length:Int) - 1:=by
  unfold Aob Aaf;split<;>rw[Ag4 (by omega) (by omega)]
 rw[A0w K hp,Z0,Aty,Z0,e]
 by_cases hs:0≤k∧k<(p.Hh.length:Int)∧k<(p.Fz.length:Int)
 ·rw[Ayk.2 (by unfold Aaf;split<;>omega),cond_true,if_pos ⟨hs.1,hs.2.1⟩,if_pos ⟨hs.1,hs.2.1⟩,if_pos ⟨hs.1,hs.2.2⟩]
  by_cases h:gt p.Hh k=1
  ·rw[if_pos ⟨hs,h⟩,h];rfl
  ·rw[if_neg (show ¬((0≤k∧k<(p.Hh.length:Int)∧k<(p.Fz.length:Int))∧gt p.Hh k=1) from fun x=>h x.2),Aqr h];rfl
 ·rw[Bqe.2 (by unfold Aaf;split<;>omega),if_neg (show ¬((0≤k∧k<(p.Hh.length:Int)∧k<(p.Fz.length:Int))∧gt p.Hh k=1) from fun x=>hs x.1)];rfl
def A1e (p:Dw)(l:List Int):Dw:=l.foldl A7s p
theorem A79{p:Dw}(hp:Azl p)(l:List Int):Azl (A1e p l)∧Atj (A1e p l)=Atj p:=by
 unfold A1e
 induction l generalizing p with
 |nil=>exact⟨hp,rfl⟩
 |cons x l ih=>
  obtain⟨h1,h2⟩:=Ba0 hp x;obtain⟨h3,h4⟩:=ih h1;exact⟨h3,h4.trans h2⟩
theorem Be0{α σ β:Type}{K:Nat}(hK:281474976710656≤K)(l:List α)(hl:l.length≤140737488355327)(f:σ->α->σ)(s0:σ)(I:σ->Prop)(hI:I s0)(hf: ∀s x,I s->I (f s x))(fin:Option β)(L:Nat->σ->Int->Option β)
  (hs: ∀n s (i:Nat) (h:i<l.length),I s->L (n+1) s (i:Int)=L n (f s l[i]) ((i+1:Nat):Int))
  (he: ∀n,L (n+1) (l.foldl f s0) (l.length:Int)=fin):L K s0 0=fin:=by
 have key: ∀(n i:Nat) (s:σ),I s->i≤l.length->l.length - i<n->(l.drop i).foldl f s=l.foldl f s0->L n s (i:Int)=fin:=by
  intro n
  induction n with
  |zero=>intro i s _ _ h;omega
  |succ n ih=>
   intro i s hIs hi hn hd;rcases F9 i l.length with h|h
   ·rw[hs n s i h hIs];refine ih (i+1) _ (hf _ _ hIs) h (by omega) ?_
    rw[Z47 h,List.foldl_cons]at hd;exact hd
   ·obtain rfl:i=l.length:=by omega
    rw[List.drop_length]at hd;simp only[List.foldl_nil]at hd;rw[hd];exact he n
 exact key K 0 s0 hI (Z21 _) (by omega) rfl
def Ax9 (n:Ba)(slot:Int):Ax:=Ax.mk slot n.Bt n.Dg n.Ae 0
theorem Ba1 (K:Nat){n:Ba}(hn:Atz n)(s:Int):Avn K n s=some (Ax9 n s):=by
 have hm:=Anj
 have h1:=hn.tags.2
 have h2:=hn.chunks.2;unfold Avn;simp only[Zg];rw[if_pos ⟨by omega,by omega⟩,if_pos ⟨by omega,by omega⟩];rfl
theorem Ba2 (K:Nat){n:Ba}(hn:Atz n)(s:Int):Avx K n s=some (Ax9 n s):=by
 unfold Avx;rw[Asn K hn.tags.2,Asn K hn.chunks.2];rfl
theorem Ba3:wfi 0:=⟨by decide,by decide⟩
theorem A8a:A0d []:=⟨(fun x hx=>by cases hx),(by simp)⟩
theorem Bcj:A11 []:=⟨(fun x hx=>by cases hx),(by simp)⟩
theorem Bd7{n:Ba}(hn:Atz n){s:Int}(hs:wfi s):Azc (Ax9 n s):=⟨hs,hn.first,hn.tags,hn.chunks,Ba3⟩
theorem Bd8{l:List Ba}{h:Ct}(h0:(Aym l h).2=0):(gt l (Aym l h).1).Hh=1:=by
 unfold Aym at *;cases e1:Av6 h with
 |false=>rw[e1]at h0;simp at h0
 |true=>
  rw[e1]at h0;simp only[cond_true]at *;cases e:decide (Aqt l h<0)with
  |true=>rw[e]at h0;simp at h0
  |false=>
   rw[e]at h0;simp only[cond_false]at *;cases e2:A07 l (Aqt l h)with
   |false=>rw[e2]at h0;simp at h0
   |true=>
    simp only[cond_true]
    have h1:=of_decide_eq_false e;unfold Aqt at h1 ⊢;split at h1
    ·rename_i h2;rw[if_pos h2];exact h2.2.1
    ·omega
theorem Bng{l:List Ba}{k:Int}(hk:0≤k∧k<(l.length:Int)):l.set k.toNat (gt l k)=l:=by
 have hlt:k.toNat<l.length:=by omega
 have e:gt l k=l[k.toNat]:=by rw[←Aeg hlt,show((k.toNat:Nat):Int)=k by omega]
 rw[e];exact List.set_getElem_self hlt
section
variable {K:Nat} (hK:281474976710656≤K)
include hK
theorem Bck (w:Eb)(hw:Aqs w)(l:List Int)(hl:l.length≤140737488355327):Awq K w l=some (Eb.mk w.fC (A1e w.fP l) w.fL w.fQ w.Pr):=by
 unfold Awq;refine Be0 hK l (by omega) A7s w.fP Azl hw.p (fun s x h=>(Ba0 h x).1) _ (fun n s i=>Ap1 K l n i w.fC.Ae w.fC.Eg w.fC.C0 w.fC.E9 w.fC.C1 w.fC.Eh s.Fy s.Hh s.Fz w.fL w.fQ w.Pr) (fun n s i h hs=> ?_) (fun n=> ?_)
 ·simp only[Ap1];rw[Afe h,cond_true,if_pos (Aje h),Aeg h,show Dw.mk s.Fy s.Hh s.Fz=s from rfl,Bd5 K hs,Z0,Ag7 (by omega)]
 ·show Ap1 K l (n+1) _ _ _ _ _ _ _ _ _ _ _ _ _=_;rw[Ap1,Agf (Z9 _),cond_false];rfl
theorem Bcl (w:Eb)(hw:Azl w.fP){k:Int}(hk:0≤k∧k<(w.fL.length:Int))(hl:(gt w.fL k).Ae.length≤140737488355327):Ar7 K w k=some (Eb.mk w.fC (A1e w.fP (gt w.fL k).Ae) w.fL w.fQ w.Pr):=by
 unfold Ar7;rw[if_pos hk,if_pos hk]
 refine Be0 hK (gt w.fL k).Ae (by omega) A7s w.fP Azl hw (fun s x h=>(Ba0 h x).1) _ (fun n s i=>Ale K n (gt w.fL k).Ae ((gt w.fL k).Ae.length:Int) i w.fC.Ae w.fC.Eg w.fC.C0 w.fC.E9 w.fC.C1 w.fC.Eh s.Fy s.Hh s.Fz w.fL.length w.fQ w.Pr w.fL k.toNat (gt w.fL k).Hh (gt w.fL k).C2 (gt w.fL k).Ly (gt w.fL k).fUp (gt w.fL k).Gq (gt w.fL k).Bt (gt w.fL k).Gr (gt w.fL k).Gs (gt w.fL k).Ae.length (gt w.fL k).Pq (gt w.fL k).Gt (gt w.fL k).Ea (gt w.fL k).Dg) (fun n s i h hs=> ?_) (fun n=> ?_)
 ·simp only[Ale];rw[Afe h,cond_true,if_pos (Aje h),Aeg h,show Dw.mk s.Fy s.Hh s.Fz=s from rfl,Bd6 K hs,Z0,Ag7 (by omega),Int.toNat_natCast]
 ·show Ale K (n+1) _ _ _ _ _ _ _ _ _ _ _ _ _ _ _ _ _ _ _ _ _ _ _ _ _ _ _ _ _ _=_;rw[Ale,Agf (Z9 _),cond_false,Int.toNat_natCast]
  have:=Bng hk;exact congrArg (fun l=>some (Eb.mk w.fC (A1e w.fP (gt w.fL k).Ae) l w.fQ w.Pr)) this
end
def Bu2 (n:Ba)(v:Int):Ba:=Ba.mk n.Hh n.C2 n.Ly n.fUp n.Gq n.Bt v n.Gs n.Ae n.Pq n.Gt n.Ea n.Dg
def Bu3 (n:Ba)(v:Int):Ba:=Ba.mk n.Hh n.C2 n.Ly n.fUp n.Gq n.Bt n.Gr v n.Ae n.Pq n.Gt n.Ea n.Dg
def Bnh (n:Ba)(v:Int):Ba:=Ba.mk n.Hh n.C2 n.Ly n.fUp n.Gq v n.Gr n.Gs n.Ae n.Pq n.Gt n.Ea n.Dg
def Bni (n:Ba):Ba:=Ba.mk n.Hh n.C2 n.Ly 0 0 n.Bt 0 0 n.Ae n.Pq n.Gt n.Ea n.Dg
theorem Ba4{l:List Ba}{k:Int}(hk:0≤k∧k<(l.length:Int))(x:Ba):gt (l.set k.toNat x) k=x:=by
 have hlt:k.toNat<(l.set k.toNat x).length:=by simp;omega
 have e:gt (l.set k.toNat x) ((k.toNat:Nat):Int)=x:=by rw[Aeg hlt];simp
 rwa[show((k.toNat:Nat):Int)=k by omega]at e
theorem Be1{l:List Ba}{j k:Int}(hj:0≤j)(hk:0≤k∧k<(l.length:Int))(h:j≠k)(x:Ba):gt (l.set j.toNat x) k=gt l k:=by
 have h1:k.toNat<(l.set j.toNat x).length:=by simp;omega
 have h2:k.toNat<l.length:=by omega
 have e1:gt (l.set j.toNat x) ((k.toNat:Nat):Int)=gt l ((k.toNat:Nat):Int):=by
  rw[Aeg h1,Aeg h2,List.getElem_set,if_neg (by omega)]
 rwa[show((k.toNat:Nat):Int)=k by omega]at e1
theorem Azi (K:Nat){l:List Ba}{k:Int}(hk:0≤k∧k<(l.length:Int)):Asf K k l=some (l.set k.toNat (Bni (gt l k))):=by
 unfold Asf;rw[if_pos hk];simp only[Aql,Z49,Ba4 hk,Bqq,if_pos hk];rfl
theorem A18 (K:Nat){l:List Ba}{k:Int}(hk:0≤k∧k<(l.length:Int)):Auw K k l=some (l.set k.toNat (Bni (gt l k))):=Azi K hk
def A62 (l0 l:List Ba)(k nx pv:Int):List Ba:=bif plB l0 nx then l.set (Aob .i64 nx 1).toNat (Bu3 (gt l (Aob .i64 nx 1)) pv)else l
def A3a (l0 l:List Ba)(k nx pv:Int):List Ba:=(A62 l0 l k nx pv).set k.toNat (Bni (gt (A62 l0 l k nx pv) k))
theorem Bnj (l0 l:List Ba)(k nx pv:Int):(A62 l0 l k nx pv).length=l.length:=by
 unfold A62;cases plB l0 nx<;>simp
theorem Awc (K:Nat){l0 l:List Ba}(hl:l0.length≤140737488355327)(he:l.length=l0.length){k:Int}(hk:0≤k∧k<(l0.length:Int))(a b c d e f nx pv:Int)(g:List Int)(h i:Int)(t:List A9)(u:List Int)(hx:wfi nx):Aqy K l0 k l a b c d e f nx pv g h i t u=some (A3a l0 l k nx pv):=by
 unfold Aqy A3a A62;rw[Ath K hl hx,Z0];cases hp:plB l0 nx with
 |false=>rw[cond_false,cond_false,Azi K (by rw[he];exact hk)]
 |true=>
  have:=Aso hp;rw[cond_true,cond_true,if_pos (by rw[he];exact this)]
  simp only[Aql];rw[Azi K (by rw[Z49,he];exact hk)]
  rfl
theorem Awd (K:Nat){l0 l:List Ba}(hl:l0.length≤140737488355327)(he:l.length=l0.length){k:Int}(hk:0≤k∧k<(l0.length:Int))(nx pv:Int)(hv:(gt l k).Gs=pv):Aq1 K l0 k l (Aob .i64 nx 1)=some (A3a l0 l k nx pv):=by
 unfold Aq1 A3a A62;rw[Awi K hl,Z0];cases hp:plB l0 nx with
 |false=>rw[cond_false,cond_false,A18 K (by rw[he];exact hk)]
 |true=>
  have:=Aso hp;rw[cond_true,cond_true,if_pos (by rw[he];exact hk),if_pos (by rw[he];exact this),hv]
  simp only[Aql];rw[A18 K (by rw[Z49,he];exact hk)]
  rfl
def A3b (l:List Ba)(k:Int):List Ba:=
 bif plB l (gt l k).Gs then l.set (Aob .i64 (gt l k).Gs 1).toNat (Bu2 (gt l (Aob .i64 (gt l k).Gs 1)) (gt l k).Gr)
 else bif (gt l k).Gs==0&&(plB l (gt l k).fUp&&(gt l (Aob .i64 (gt l k).fUp 1)).Bt==Aoa .i64 k 1)then l.set (Aob .i64 (gt l k).fUp 1).toNat (Bnh (gt l (Aob .i64 (gt l k).fUp 1)) (gt l k).Gr)
 else l
def Arh (l:List Ba)(k:Int):List Ba:=A3a l (A3b l k) k (gt l k).Gr (gt l k).Gs
theorem Bnk (l:List Ba)(k:Int):(A3b l k).length=l.length:=by
 unfold A3b;cases plB l (gt l k).Gs<;>cases ((gt l k).Gs==0&&(plB l (gt l k).fUp&&(gt l (Aob .i64 (gt l k).fUp 1)).Bt==Aoa .i64 k 1))<;>simp
theorem Bha{l:List Ba}{k:Int}(hk:0≤k∧k<(l.length:Int)):(gt (A3b l k) k).Gs=(gt l k).Gs:=by
 unfold A3b;cases hp:plB l (gt l k).Gs with
 |true=>
  have:=Aso hp;rw[cond_true]
  by_cases e:Aob .i64 (gt l k).Gs 1=k
  ·rw[e,Ba4 hk];rfl
  ·rw[Be1 this.1 hk e]
 |false=>
  rw[cond_false];cases hc:((gt l k).Gs==0&&(plB l (gt l k).fUp&&(gt l (Aob .i64 (gt l k).fUp 1)).Bt==Aoa .i64 k 1))with
  |false=>rfl
  |true=>
   simp only[Z4]at hc
   have:=Aso hc.2.1;rw[cond_true]
   by_cases e:Aob .i64 (gt l k).fUp 1=k
   ·rw[e,Ba4 hk];rfl
   ·rw[Be1 this.1 hk e]
section
variable {K:Nat} (hK:281474976710656≤K)
include hK
theorem Bcm{l:List Ba}(w:Ag1 l){k:Int}(hk:0≤k∧k<(l.length:Int)):Awr K l k=some (Arh l k):=by
 have hl:=Aej w
 have hn:=w.1 _ (Arc hk.1 hk.2)
 have e1:Aob .i64 (Aoa .i64 k 1) 1=k:=by unfold Aob Aoa;rw[Ag4 (n:=k+1) (by omega) (by omega),Ag4 (by omega) (by omega)];omega
 have hpk:plB l (Aoa .i64 k 1)=true:=by unfold plB;rw[e1];exact decide_eq_true hk
 have hwk:wfi (Aoa .i64 k 1):=Bdd _;unfold Awr Arh;rw[A6z hK w,Z0,Ath K hl hwk,Z0,hpk,Bool.not_true,cond_false,if_pos hk,Ath K hl hn.prev,Z0];unfold A3b;cases hp:plB l (gt l k).Gs with
 |true=>
  have:=Aso hp;rw[cond_true,cond_true,if_pos this];simp only[Aql];rw[Awc K hl (by rw[Z49]) hk _ _ _ _ _ _ _ _ _ _ _ _ _ hn.next]
  rfl
 |false=>
  rw[cond_false,cond_false];cases h0:(gt l k).Gs==0 with
  |false=>
   simp only[cond_false,Bool.false_and,Ap2];rw[Awc K hl rfl hk _ _ _ _ _ _ _ _ _ _ _ _ _ hn.next]
  |true=>
   rw[cond_true,Ath K hl hn.up,Z0];cases hu:plB l (gt l k).fUp with
   |false=>
    simp only[cond_false,Bool.false_and,Bool.and_false,Ap2];rw[Awc K hl rfl hk _ _ _ _ _ _ _ _ _ _ _ _ _ hn.next]
   |true=>
    have hui:=Aso hu;rw[cond_true,if_pos hui];simp only[Z30,Ap2];cases (gt l (Aob .i64 (gt l k).fUp 1)).Bt==Aoa .i64 k 1 with
    |false=>
     simp only[cond_false];rw[Awc K hl rfl hk _ _ _ _ _ _ _ _ _ _ _ _ _ hn.next]
    |true=>
     simp only[cond_true,if_pos hui,Aql];rw[Awc K hl (by rw[Z49]) hk _ _ _ _ _ _ _ _ _ _ _ _ _ hn.next]
     rfl
theorem Bcn{l:List Ba}(w:Ag1 l){k:Int}(hk:0≤k∧k<(l.length:Int)):Awx K l k=some (Arh l k):=by
 have hl:=Aej w
 have h0p:=Bha hk;unfold Awx Arh;rw[A0i hK w,Z0,Axr K hl,Z0,decide_eq_true hk,Bool.not_true,cond_false,if_pos hk,if_pos hk,if_pos hk,Awi K hl,Z0];unfold A3b at h0p ⊢;cases hp:plB l (gt l k).Gs with
 |true=>
  rw[hp]at h0p
  have:=Aso hp;rw[cond_true]at h0p ⊢;rw[cond_true,if_pos hk,if_pos this];simp only[Aql];exact Awd K hl (by rw[Z49]) hk _ _ h0p
 |false=>
  rw[hp]at h0p;rw[cond_false]at h0p ⊢;rw[cond_false,if_pos hk];cases h0:(gt l k).Gs==0 with
  |false=>
   simp only[cond_false,Bool.false_and,Ap5];exact Awd K hl rfl hk _ _ rfl
  |true=>
   rw[h0]at h0p;rw[cond_true,Awi K hl,Z0];cases hu:plB l (gt l k).fUp with
   |false=>
    simp only[cond_false,Bool.false_and,Bool.and_false,Ap5];exact Awd K hl rfl hk _ _ rfl
   |true=>
    rw[hu]at h0p
    have hui:=Aso hu;rw[cond_true,if_pos hui];simp only[Z30,Ap5]at h0p ⊢;cases hf:(gt l (Aob .i64 (gt l k).fUp 1)).Bt==Aoa .i64 k 1 with
    |false=>
     simp only[cond_false];exact Awd K hl rfl hk _ _ rfl
    |true=>
     rw[hf]at h0p;simp only[cond_true,if_pos hui,if_pos hk,Aql]at h0p ⊢;exact Awd K hl (by rw[Z49]) hk _ _ h0p
end
def A8b (n:Ba):Ba:=Ba.mk 2 n.C2 0 0 0 0 0 0 [] 0 0 [] []
theorem Byh{n:Ba}(hn:Atz n):Atz (A8b n):=
 ⟨⟨by show _≤(2:Int);omega,by show(2:Int)≤_;omega⟩,hn.gen,Ba3,Ba3,Ba3,Ba3,Ba3,Ba3,A8a,Ba3,Ba3,Bcj,A8a⟩
theorem Bqu{n:Ba}(hn:Atz n){v:Int}(hv:wfi v):Atz (Bu2 n v):=⟨hn.st,hn.gen,hn.ep,hn.up,hn.upEp,hn.first,hv,hn.prev,hn.chunks,hn.cur,hn.bump,hn.things,hn.tags⟩
theorem Bqv{n:Ba}(hn:Atz n){v:Int}(hv:wfi v):Atz (Bu3 n v):=⟨hn.st,hn.gen,hn.ep,hn.up,hn.upEp,hn.first,hn.next,hv,hn.chunks,hn.cur,hn.bump,hn.things,hn.tags⟩
theorem Bnl{n:Ba}(hn:Atz n){v:Int}(hv:wfi v):Atz (Bnh n v):=⟨hn.st,hn.gen,hn.ep,hn.up,hn.upEp,hv,hn.next,hn.prev,hn.chunks,hn.cur,hn.bump,hn.things,hn.tags⟩
theorem Byi{n:Ba}(hn:Atz n):Atz (Bni n):=by
 have z:wfi 0:=⟨by decide,by decide⟩
 exact⟨hn.st,hn.gen,hn.ep,z,z,hn.first,z,z,hn.chunks,hn.cur,hn.bump,hn.things,hn.tags⟩
theorem A0p{l:List Ba}{k:Int}(hk:0≤k∧k<(l.length:Int)){x:Ba}(h:Ai0 x=Ai0 (gt l k)):((l.set k.toNat x).map Ai0).sum=(l.map Ai0).sum:=by
 have hlt:k.toNat<l.length:=by omega
 have:=A3s Ai0 l k.toNat hlt x
 have e:l[k.toNat]=gt l k:=by rw[←Aeg hlt,show((k.toNat:Nat):Int)=k by omega]
 rw[e]at this;omega
theorem Byj{l:List Ba}(w:Ag1 l){k:Int}(hk:0≤k∧k<(l.length:Int)):Ag1 (A3b l k)∧((A3b l k).map Ai0).sum=(l.map Ai0).sum:=by
 have hn:=w.1 _ (Arc hk.1 hk.2);unfold A3b;cases hp:plB l (gt l k).Gs with
 |true=>
  have hi:=Aso hp;exact⟨Ax8 w _ (Bqu (w.1 _ (Arc hi.1 hi.2)) hn.next),A0p hi rfl⟩
 |false=>
  rw[cond_false];cases hc:((gt l k).Gs==0&&(plB l (gt l k).fUp&&(gt l (Aob .i64 (gt l k).fUp 1)).Bt==Aoa .i64 k 1))with
  |false=>exact⟨w,rfl⟩
  |true=>
   simp only[Z4]at hc
   have hi:=Aso hc.2.1;exact⟨Ax8 w _ (Bnl (w.1 _ (Arc hi.1 hi.2)) hn.next),A0p hi rfl⟩
theorem Byk{l0 l:List Ba}(w:Ag1 l)(he:l.length=l0.length)(k nx:Int){pv:Int}(hv:wfi pv):Ag1 (A62 l0 l k nx pv)∧((A62 l0 l k nx pv).map Ai0).sum=(l.map Ai0).sum:=by
 unfold A62;cases hp:plB l0 nx with
 |true=>
  have hi:=Aso hp;rw[←he]at hi;exact⟨Ax8 w _ (Bqv (w.1 _ (Arc hi.1 hi.2)) hv),A0p hi rfl⟩
 |false=>exact⟨w,rfl⟩
theorem A3c{l:List Ba}(w:Ag1 l){k:Int}(hk:0≤k∧k<(l.length:Int)):Ag1 (Arh l k)∧((Arh l k).map Ai0).sum=(l.map Ai0).sum∧(Arh l k).length=l.length:=by
 have hn:=w.1 _ (Arc hk.1 hk.2);obtain⟨h1,h2⟩:=Byj w hk
 have h3:=Bnk l k;obtain⟨h4,h5⟩:=Byk h1 h3 k (gt l k).Gr hn.prev
 have h6:=Bnj l (A3b l k) k (gt l k).Gr (gt l k).Gs
 have hk':0≤k∧k<((A62 l (A3b l k) k (gt l k).Gr (gt l k).Gs).length:Int):=by rw[h6,h3];exact hk
 unfold Arh A3a;exact⟨Ax8 h4 _ (Byi (h4.1 _ (Arc hk'.1 hk'.2))),(A0p (x:=Bni (gt (A62 l (A3b l k) k (gt l k).Gr (gt l k).Gs) k)) hk' rfl).trans (h5.trans h2),by rw[Z49,h6,h3]⟩
def A3d (w:Eb)(k:Int):Eb:=Eb.mk w.fC (A1e w.fP (gt w.fL k).Ae) ((Arh w.fL k).set k.toNat (A8b (gt (Arh w.fL k) k))) (w.fQ++[Ax9 (gt w.fL k) (Aoa .i64 k 1)]) w.Pr
theorem A63 (w:Eb):w.fQ.length≤cells w:=by
 have hq:w.fQ.length≤(w.fQ.map Apm).sum:=by
  generalize w.fQ=q
  induction q with
  |nil=>simp
  |cons x q ih=>
   have:3≤Apm x:=by unfold Apm;omega
   simp only[Z8,List.sum_cons,Y9];omega
 have hq2:(w.fQ.map Apm).sum≤cells w:=by unfold cells;omega
 omega
theorem Bhb{w:Eb}(hw:Aqs w)(hc:cells w≤140737488355){k:Int}(hk:0≤k∧k<(w.fL.length:Int)):Aqs (A3d w k)∧cells (A3d w k)≤2*cells w+30:=by
 have hn:=hw.l.1 _ (Arc hk.1 hk.2)
 have hq:=A63 w;obtain⟨u1,u2,u3⟩:=A3c hw.l hk
 have hk':0≤k∧k<((Arh w.fL k).length:Int):=by rw[u3];exact hk
 constructor
 ·refine⟨hw.c,(A79 hw.p _).1,Ax8 u1 _ (Byh (u1.1 _ (Arc hk'.1 hk'.2))),⟨fun x hx=> ?_,?_⟩,hw.log⟩
  ·rcases Gy.1 hx with hx|hx
   ·exact hw.q.1 x hx
   ·simp only[Qo]at hx;subst hx;exact Bd7 hn (Bdd _)
  ·show(w.fQ++[Ax9 (gt w.fL k) (Aoa .i64 k 1)]).length*72≤_;simp;omega
 ·have hlt:k.toNat<w.fL.length:=by omega
  have hlt2:k.toNat<(Arh w.fL k).length:=by omega
  have h1:=A3s Ai0 (Arh w.fL k) k.toNat hlt2 (A8b (gt (Arh w.fL k) k))
  have h2:=A3s Ai0 w.fL k.toNat hlt (A8b (gt w.fL k))
  have e:w.fL[k.toNat]=gt w.fL k:=by rw[←Aeg hlt,show((k.toNat:Nat):Int)=k by omega]
  rw[e]at h2
  have e2: ∀n,Ai0 (A8b n)=10:=fun n=>by simp[Ai0,A8b]
  have e3:Ai0 (gt w.fL k)=10+(gt w.fL k).Ae.length+3*(gt w.fL k).Ea.length+(gt w.fL k).Dg.length:=rfl
  have e4:Apm (Ax9 (gt w.fL k) (Aoa .i64 k 1))=3+(gt w.fL k).Dg.length+(gt w.fL k).Ae.length:=rfl
  have e5:=(A79 hw.p (gt w.fL k).Ae).2;rw[e2]at h1 h2
  have hcw:cells w=Atj w.fP+(w.fL.map Ai0).sum+(w.fQ.map Apm).sum+w.Pr.length:=rfl;unfold cells A3d;simp only[Gg,Z8,Gz,List.sum_append,List.sum_cons,List.sum_nil,e5,e4];omega
section
variable {K:Nat} (hK:281474976710656≤K)
include hK
theorem Bd9 (w:Eb)(hw:Aqs w)(hQ:w.fQ.length≤140737488355){k:Int}(hk:0≤k∧k<(w.fL.length:Int)):Aun K w k=some (A3d w k):=by
 have hm:=Anj
 have hn:=hw.l.1 _ (Arc hk.1 hk.2)
 have hk':0≤k∧k<((Arh w.fL k).length:Int):=by rw[(A3c hw.l hk).2.2];exact hk
 unfold Aun Azr;rw[if_pos hk,Ba1 K hn,Z0,if_pos hk,Bck hK w hw _ (A03 hK hn.chunks),Z0];simp only;rw[Bcm hK hw.l hk];simp only[Z0,if_pos hk'];rw[if_pos ⟨by simp;omega,by simp;omega⟩]
 rfl
theorem Bea (w:Eb)(hw:Aqs w)(hQ:w.fQ.length≤140737488355){k:Int}(hk:0≤k∧k<(w.fL.length:Int))(hst:(gt w.fL k).Hh=1):Axp K w k=some (A3d w k):=by
 have hm:=Anj
 have hn:=hw.l.1 _ (Arc hk.1 hk.2)
 have hk':0≤k∧k<((Arh w.fL k).length:Int):=by rw[(A3c hw.l hk).2.2];exact hk
 unfold Axp Az8;rw[A0j hK hw,Z0,Axr K (Aej hw.l),Z0,decide_eq_true hk,cond_true,if_pos hk,hst];simp only[bne_self_eq_false,cond_false]
 rw[if_pos hk,Ba2 K hn,Z0,if_pos ⟨by omega,by omega⟩,Bce hK,Bcl hK (Eb.mk w.fC w.fP w.fL (w.fQ++[Ax9 (gt w.fL k) (Aoa .i64 k 1)]) w.Pr) hw.p hk (A03 hK hn.chunks),Z0]
 simp only;rw[Bcn hK hw.l hk];simp only[Z0,if_pos hk'];rfl
theorem Ba5 (w:Eb)(hw:Aqs w)(hc:cells w≤140737488355)(h:Ct): ∃w' code Fe,Avo K w h=some (w',A61 code Fe [])∧Atb K w h=some (w',A61 code Fe [])∧Aqs w'∧cells w'≤2*cells w+30:=by
 have hself:Aqs w∧cells w≤2*cells w+30:=⟨hw,by omega⟩
 have hQ:w.fQ.length≤140737488355:=To (A63 w) hc;unfold Avo Atb Ary Axv;rw[Bax hK hw,Bav hK w hw,Bau hK w hw,A0j hK hw,Bg1 hK w hw.l,Bg2 hK w hw.l,A7l hK hw.l,A7m hK hw.l];simp only[Z0,Ac2];cases A6y w with
 |false=>exact⟨w,1,0,rfl,rfl,hself⟩
 |true=>
 simp only[cond_true]
 by_cases h0:(Aym w.fL h).2=0
 ·have hi:=Bm5 h0;rw[Bd9 hK w hw hQ hi,Bea hK w hw hQ hi (Bd8 h0),h0];simp only[beq_self_eq_true,bne_self_eq_false,cond_true,cond_false,Z0];exact⟨A3d w (Aym w.fL h).1,0,Bez w h,rfl,rfl,Bhb hw hc hi⟩
 ·rw[Aqr h0,Atg h0];exact⟨w,(Aym w.fL h).2,Bez w h,rfl,rfl,hself⟩
end
theorem A0q (a:Ec)(h:Dn)(u:Aqd a)(_:Axw h): ∃K,Aqv K a h=some true:=by
 refine⟨K0,?_⟩
 have hK:=Z9 K0
 have hw:=Bgw u;obtain⟨q,hq⟩:=Bgt hK u 1048576
 have hQ:(Ayn a).fQ.length≤140737488355327:=by have:=hw.q.2;omega
 unfold Aqv Asd;rw[hq];simp only[Z0];cases e:decide (q<0)with
 |true=>rfl
 |false=>
  have hc:=Bqs u hq (by simpa using e)
  obtain⟨w',code,Fe,h1,h2,hw',hc'⟩:=Ba5 hK (Ayn a) hw (by omega) (Ct.mk h.A5 h.C2)
  have hQ':w'.fQ.length≤140737488355327:=by have:=hw'.q.2;omega
  have hb:(A61 code Fe []).fB.length=0:=rfl
  have hV:Axc K0 a=some (Ayn a):=A72 hK u
  have hmk0:=A3k hK (Ayn a) (Aej hw.l) hQ 1 (by omega)
  have hmk:=A3k hK w' (Aej hw'.l) hQ' 1 (by omega)
  have hhl:=Bci hK w' (Aej hw'.l) hQ' 1 (by omega) w'.fC
  have hma:=Bg8 hK (A61 code Fe []) (1+cells w') (by omega)
  have hha:=Bg9 hK (A61 code Fe []) (A61 code Fe []).fB.length (1+cells w') (by omega)
  simp only[show((1:Nat):Int)=1 from rfl]at hmk hhl hmk0
  simp only[cond_false,cond_true,Z0,A72 hK u,hV,h1,h2,Bqt hK (show(A61 code Fe []).fB.length≤140737488355327 by omega),A74 hK hw',A74 hK hw,hmk,hmk0,if_pos (Baz w' 1),if_pos (Baz (Ayn a) 1),An4,hma,Au3,if_true,hhl,hha,bne_self_eq_false,Bool.not_true]
end Go.Proofs.YtjdblamhaljjbaaGreat
