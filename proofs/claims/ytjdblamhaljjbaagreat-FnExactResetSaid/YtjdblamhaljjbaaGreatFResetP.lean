/- The plain law for FnExactReset; no condition. -/
import Derived.Test.YtjdblamhaljjbaaGreatFResetTa
import Derived.Test.YtjdblamhaljjbaaGreatFResetW
set_option linter.all false
namespace Go.Proofs.YtjdblamhaljjbaaGreat
open Go.Eng Go.ChangeShapes Go.WideShapes Go.ChangeAt Go.RowKit
theorem Ag5{i:Nat}(h:i≤140737488355328):Aoa .i64 (i:Int) 1=((i+1:Nat):Int):=by
 unfold Aoa;rw[IntKind.wrap_i64];omega
theorem Aej{α:Type}[Inhabited α]{l:List α}{i:Nat}(h:i<l.length):gt l (i:Int)=l[i]:=by
 unfold gt;simp[h]
theorem Apl{α:Type}[Inhabited α]{l:List α}{i:Nat}(h:i<l.length):gt l (i:Int)∈l:=by
 rw[Aej h];exact List.getElem_mem h
theorem Axb{α:Type}[Inhabited α]{l:List α}{i:Int}(h0:0≤i)(h:i<l.length):gt l i∈l:=by
 obtain⟨k,rfl⟩: ∃k:Nat,i=k:=⟨i.toNat,by omega⟩
 exact Apl (by omega)
theorem Afe{i k:Nat}(h:i<k):decide ((i:Int)<(k:Int))=true:=by simp;omega
theorem Agf{i k:Nat}(h:k≤i):decide ((i:Int)<(k:Int))=false:=by simp;omega
theorem A1c{α β:Type}[Inhabited α](a:List α)(f:α->Option β)(g:α->β)(hf: ∀x∈a,f x=some (g x))(ha:a.length≤140737488355328)
  (L:Nat->Int->List β->Option (List β)) (hL: ∀n i v,L (n+1) i v=bif decide (i<(a.length:Int))then(if(0:Int)≤i∧i<(a.length:Int)then(f (gt a i)).bind (fun r=>(if(0:Int)≤i∧i<(v.length:Int)then L n (Aoa .i64 i 1) (v.set i.toNat r)else none))else none)else some v):
  ∀(n i:Nat) (v:List β),i≤a.length->v.length=a.length->(∀j,j<i->v[j]? =(a.map g)[j]?)->a.length - i<n->L n (i:Int) v=some (a.map g):=by
 intro n
 induction n with
 |zero=>intro i v _ _ _ h;omega
 |succ n ih=>
  intro i v hi hv hj hn;rw[hL];rcases F9 i a.length with h|h
  ·rw[Afe h];simp only[cond_true];rw[if_pos ⟨by omega,by omega⟩,hf _ (Apl h)]
   simp only[Z0];rw[if_pos ⟨by omega,by omega⟩,Ag5 (by omega)]
   refine ih (i+1) _ h (by simpa using hv) (fun j hj2=> ?_) (by omega)
   rw[Int.toNat_natCast,V8]
   by_cases e:i=j
   ·subst e;rw[if_pos rfl,if_pos (by omega),Aej h,Ca,Fa h];rfl
   ·rw[if_neg e];exact hj j (by omega)
  ·rw[Agf h];simp only[cond_false,Z7]
   have hia:i=a.length:=by omega
   refine List.ext_getElem? fun j=> ?_;rcases F9 j a.length with hja|hja
   ·exact hj j (by omega)
   ·rw[Z58 (by omega),Z58 (by simpa using hja)]
theorem Blf{β:Type}[Inhabited β](a:List β)(e:β->β->Option Bool)(he: ∀x∈a,e x x=some true)(ha:a.length≤140737488355328)
  (L:Nat->Int->Option Bool) (hL: ∀n i,L (n+1) i=bif decide (i<(a.length:Int))then(if(0:Int)≤i∧i<(a.length:Int)then(if(0:Int)≤i∧i<(a.length:Int)then(e (gt a i) (gt a i)).bind (fun r=>bif r then L n (Aoa .i64 i 1)else some false)else none)else none)else some true):
  ∀(n i:Nat),i≤a.length->a.length - i<n->L n (i:Int)=some true:=by
 intro n
 induction n with
 |zero=>intro i _ h;omega
 |succ n ih=>
  intro i hi hn;rw[hL];rcases F9 i a.length with h|h
  ·rw[Afe h];simp only[cond_true];rw[if_pos ⟨by omega,by omega⟩,if_pos ⟨by omega,by omega⟩,he _ (Apl h),Ag5 (by omega)]
   simp only[Z0,cond_true];exact ih (i+1) h (by omega)
  ·rw[Agf h];rfl
theorem Blg (a:List Int)(ha:a.length≤140737488355328)
  (L:Nat->Int->Option Bool) (hL: ∀n i,L (n+1) i=bif decide (i<(a.length:Int))then(if(0:Int)≤i∧i<(a.length:Int)then(if(0:Int)≤i∧i<(a.length:Int)then(bif (gt a i != gt a i)then some false else L n (Aoa .i64 i 1))else none)else none)else some true):
  ∀(n i:Nat),i≤a.length->a.length - i<n->L n (i:Int)=some true:=by
 intro n
 induction n with
 |zero=>intro i _ h;omega
 |succ n ih=>
  intro i hi hn;rw[hL];rcases F9 i a.length with h|h
  ·rw[Afe h];simp only[cond_true];rw[if_pos ⟨by omega,by omega⟩,if_pos ⟨by omega,by omega⟩,Ag5 (by omega)]
   simp only[bne_self_eq_false,cond_false];exact ih (i+1) h (by omega)
  ·rw[Agf h];rfl
theorem Bs8{α:Type}[Inhabited α](a:List α)(f:α->Int->Option Int)(hf: ∀x∈a,∀y,∃r,f x y=some r)(ha:a.length≤140737488355328)
  (L:Nat->Int->Int->Option Int) (hL: ∀n y i,L (n+1) y i=bif decide (i<(a.length:Int))then(if(0:Int)≤i∧i<(a.length:Int)then(f (gt a i) y).bind (fun r=>bif decide (r<0)then some (-1)else L n r (Aoa .i64 i 1))else none)else some y):
  ∀(n i:Nat) (y:Int),i≤a.length->a.length - i<n-> ∃r,L n y (i:Int)=some r:=by
 intro n
 induction n with
 |zero=>intro i _ _ h;omega
 |succ n ih=>
  intro i y hi hn;rw[hL];rcases F9 i a.length with h|h
  ·rw[Afe h];simp only[cond_true];obtain⟨r,hr⟩:=hf _ (Apl h) y;rw[if_pos ⟨by omega,by omega⟩,hr,Ag5 (by omega)]
   simp only[Z0];cases decide (r<0)with
   |true=>exact⟨_,rfl⟩
   |false=>exact ih (i+1) r h (by omega)
  ·rw[Agf h];exact⟨_,rfl⟩
theorem Ag4{n:Int}(h0: -9223372036854775808≤n)(h1:n≤9223372036854775807):IntKind.i64.wrap n=n:=by rw[IntKind.wrap_i64];omega
theorem Blh (n:Int): -9223372036854775808≤IntKind.i64.wrap n∧IntKind.i64.wrap n≤9223372036854775807:=by rw[IntKind.wrap_i64];omega
theorem cc{α:Type}(b:Bool)(x:α):(bif b then x else x)=x:=by cases b<;>rfl
theorem As7{a b:Int}(h: ¬a=b):(a != b)=true:=by simpa using h
theorem Aqo{a b:Int}(h: ¬a=b):(a==b)=false:=by simpa using h
def inB (x a b:Int):Bool:=decide (a≤x∧x≤b)
theorem Ax5{x a b:Int}:inB x a b=true ↔ a≤x∧x≤b:=by unfold inB;exact decide_eq_true_iff
theorem Boq{x a b:Int}:inB x a b=false ↔ ¬(a≤x∧x≤b):=by unfold inB;exact decide_eq_false_iff_not
theorem Ai5 (b:Bool)(x:Bool):(bif b then some x else some false)=some (b&&x):=by cases b<;>rfl
theorem A9h (b:Bool)(x:Bool):(bif b then some false else some x)=some (!b&&x):=by cases b<;>rfl
theorem Axj (b:Bool)(x:Bool):(bif b then some true else some x)=some (b||x):=by cases b<;>rfl
theorem Ac2{α:Type}(b:Bool)(x y:α):(bif !b then x else y)=(bif b then y else x):=by cases b<;>rfl
theorem Ai8{i n:Nat}(h:i<n):((0:Int)≤(i:Int)∧(i:Int)<(n:Int)):=⟨by omega,by omega⟩
theorem Bwg{α:Type}(l:List α)(q:α->Bool)(fin:Option Bool)(L:Nat->Int->Option Bool)
  (hs: ∀n (i:Nat) (h:i<l.length),L (n+1) (i:Int)=bif q l[i]then L n ((i+1:Nat):Int)else some false)
  (he: ∀n,L (n+1) (l.length:Int)=fin):
  ∀(n i:Nat),i≤l.length->l.length - i<n->L n (i:Int)=bif (l.drop i).all q then fin else some false:=by
 intro n
 induction n with
 |zero=>intro i _ h;omega
 |succ n ih=>
  intro i hi hn;rcases F9 i l.length with h|h
  ·rw[hs n i h,Z47 h,F3];cases q l[i]with
   |false=>rfl
   |true=>rw[cond_true,ih (i+1) h (by omega)];rfl
  ·obtain rfl:i=l.length:=by omega
   rw[he,List.drop_length];rfl
theorem Ar1{α:Type}{K:Nat}(hK:281474976710656≤K)(l:List α)(hl:l.length≤140737488355328)(q:α->Bool)(fin:Option Bool)(L:Nat->Int->Option Bool)
  (hs: ∀n (i:Nat) (h:i<l.length),L (n+1) (i:Int)=bif q l[i]then L n ((i+1:Nat):Int)else some false)
  (he: ∀n,L (n+1) (l.length:Int)=fin):L K 0=bif l.all q then fin else some false:=by
 have:=Bwg l q fin L hs he K 0 (Z21 _) (by omega)
 simpa using this
theorem Apw{K:Nat}(hK:281474976710656≤K)(N:Nat)(hl:N≤140737488355328)(q:Nat->Bool)(fin:Option Bool)(L:Nat->Int->Option Bool)
  (hs: ∀n (i:Nat) (h:i<N),L (n+1) (i:Int)=bif q i then L n ((i+1:Nat):Int)else some false)
  (he: ∀n,L (n+1) (N:Int)=fin):L K 0=bif (List.range N).all q then fin else some false:=by
 refine Ar1 hK (List.range N) (by simpa using hl) q fin L (fun n i h=> ?_) (fun n=> ?_)
 ·rw[List.getElem_range];exact hs n i (by simpa using h)
 ·rw[List.length_range];exact he n
theorem Bli{α:Type}(l:List α)(q:α->Bool)(L:Nat->Int->Int->Option Int)
  (hs: ∀n (i:Nat) (h:i<l.length),L (n+1) (l.length:Int) (i:Int)=bif q l[i]then some (i:Int)else L n (l.length:Int) ((i+1:Nat):Int))
  (he: ∀n,L (n+1) (l.length:Int) (l.length:Int)=some (-1)):
  ∀(n i:Nat),i≤l.length->l.length - i<n-> ∃r,L n (l.length:Int) (i:Int)=some r∧decide (r≥0)=(l.drop i).any q:=by
 intro n
 induction n with
 |zero=>intro i _ h;omega
 |succ n ih=>
  intro i hi hn;rcases F9 i l.length with h|h
  ·rw[hs n i h,Z47 h,List.any_cons];cases q l[i]with
   |true=>exact⟨_,rfl,by simp⟩
   |false=>rw[cond_false,Z52];exact ih (i+1) h (by omega)
  ·obtain rfl:i=l.length:=by omega
   exact⟨_,he n,by simp⟩
theorem Az0{α:Type}[Inhabited α]{K:Nat}(hK:281474976710656≤K)(l:List α)(hl:l.length≤140737488355328)(f:α->Option Bool)(q:α->Bool)(hf: ∀x∈l,f x=some (q x))(L:Nat->Int->Int->Option Int)
  (hL: ∀n N i,L (n+1) N i=bif decide (i<N)then(if(0:Int)≤i∧i<(l.length:Int)then(f (gt l i)).bind (fun r=>bif r then some i else L n N (Aoa .i64 i 1))else none)else some (-1)):
  ((L K (l.length:Int) 0).bind fun r=>some (decide (r≥0)))=some (l.any q):=by
 obtain⟨r,h1,h2⟩:=Bli l q L (fun n i h=>by
  rw[hL,Afe h,cond_true,if_pos (Ai8 h),hf _ (Apl h),Aej h,Z0,Ag5 (by omega)]) (fun n=>by rw[hL,Agf (Z9 _),cond_false]) K 0 (Z21 _) (by omega)
 rw[show((0:Nat):Int)=0 from rfl]at h1
 rw[h1,Z0,h2,Z55]
theorem Azq{K:Nat}(hK:281474976710656≤K)(l:List Int)(x:Int)(hl:l.length≤140737488355328):Amb K l x=some (l.contains x):=by
 unfold Amb Aur;obtain⟨r,h1,h2⟩:=Bli l (fun y=>x==y) (An0 K l x) (fun n i h=>by
  rw[An0,Afe h,cond_true,if_pos (Ai8 h),Aej h,Ag5 (by omega)]) (fun n=>by rw[An0,Agf (Z9 _),cond_false]) K 0 (Z21 _) (by omega)
 rw[show((0:Nat):Int)=0 from rfl]at h1
 rw[h1,Z0,h2,Z55,List.contains_eq_any_beq]
theorem Axk{K:Nat}(hK:281474976710656≤K)(l:List Int)(x:Int)(hl:l.length≤140737488355328):Apu K l x=some (l.contains x):=by
 unfold Apu
 have h: ∀(n i:Nat),i≤l.length->l.length - i<n->As0 K l x n (i:Int)=some ((l.drop i).contains x):=by
  intro n
  induction n with
  |zero=>intro i _ h;omega
  |succ n ih=>
   intro i hi hn;rw[As0];rcases F9 i l.length with h|h
   ·rw[Afe h,cond_true,if_pos (Ai8 h),Aej h,Ag5 (by omega),ih (i+1) h (by omega),Z47 h,List.contains_cons,Axj,Bool.beq_comm]
   ·rw[Agf h,cond_false,Z48 h];rfl
 have:=h K 0 (Z21 _) (by omega)
 simpa using this
theorem Asr (K:Nat)(x a b:Int):Abk K x a b=some (inB x a b):=by
 unfold Abk inB
 by_cases h:a≤x
 ·rw[decide_eq_true (show x≥a from h)];simp[h]
 ·rw[decide_eq_false (show ¬x≥a from h)];simp[h]
theorem Ato (K:Nat)(x a b:Int):Ac1 K x a b=some (inB x a b):=Asr K x a b
def Ap5 (c:Er):Bool:=inB c.Ae 2 12&&(inB c.Eg 8 16&&(inB c.C0 2 8&&(inB c.E9 1 8&&(inB c.C1 1 16&&inB c.Eh 1 4))))
theorem Awt (K:Nat)(c):Aq8 K c=some (Ap5 c):=by
 simp only[Aq8,Asr,Z0,Ai5,Ap5]
theorem Azr (K:Nat)(c):Asc K c=some (Ap5 c):=Awt K c
theorem Ae1{c:Er}(h:Ap5 c=true):(2≤c.Ae∧c.Ae≤12)∧(8≤c.Eg∧c.Eg≤16)∧(2≤c.C0∧c.C0≤8)∧(1≤c.E9∧c.E9≤8)∧(1≤c.C1∧c.C1≤16)∧(1≤c.Eh∧c.Eh≤4):=by
 simpa only[Ap5,Z4,Ax5]using h
def Ap9 (c:Er):Int:=bif Ap5 c then c.Ae*c.Eg else 0
theorem A1d{a b m n:Int}(h1:0≤a)(h2:a≤m)(h3:0≤b)(h4:b≤n):0≤a*b∧a*b≤m*n:=
 ⟨Int.mul_nonneg h1 h3,Int.mul_le_mul h2 h4 h3 (by omega)⟩
theorem Axc (K:Nat)(c):Asv K c=some (Ap9 c):=by
 unfold Asv Ap9;rw[Awt,Z0,Ac2];cases h:Ap5 c with
 |false=>rfl
 |true=>
  obtain⟨h1,h2,_⟩:=Ae1 h
  have:=A1d (a:=c.Ae) (b:=c.Eg) (m:=12) (n:=16) (by omega) h1.2 (by omega) h2.2
  simp only[cond_true,Aoc];rw[Ag4 (by omega) (by omega)]
theorem Ayz (K:Nat)(c):Avd K c=some (Ap9 c):=Axc K c
theorem Axl (c:Er):0≤Ap9 c∧Ap9 c≤192:=by
 unfold Ap9;cases h:Ap5 c with
 |false=>simp
 |true=>
  obtain⟨h1,h2,_⟩:=Ae1 h
  have:=A1d (a:=c.Ae) (b:=c.Eg) (m:=12) (n:=16) (by omega) h1.2 (by omega) h2.2
  simp only[cond_true];omega
section
variable {K:Nat} (hK:281474976710656≤K)
include hK
def Ayl (l:List Int):Bool:=l.all (fun x=>x==0)
theorem Azs (l:List Int)(hl:l.length≤140737488355328):Asb K l=some (Ayl l):=by
 unfold Asb;rw[Ar1 hK l hl (fun x=>x==0) (some true) (Aqu K l) (fun n i h=>by
  rw[Aqu,Afe h,cond_true,if_pos (Ai8 h),Aej h,Ag5 (by omega)]
  cases e:l[i]==0<;>simp[bne,e]) (fun n=>by rw[Aqu,Agf (Z9 _),cond_false])]
 unfold Ayl;cases l.all (fun x=>x==0)<;>rfl
theorem Azt (l:List Int)(hl:l.length≤140737488355328):Asd K l=some (Ayl l):=by
 unfold Asd Ajc Alg;rw[Az0 hK l hl (Awx K) (fun x=>x != 0) (fun x _=>rfl) (Ag7 K l) (fun n N i=>rfl)];simp only[Z0,Ayl,List.not_any_eq_all_not,Z7]
 congr 1
 funext x
 simp[bne]
end
def Bdm (a b:Int):Int:=bif inB a 0 1000000000&&inB b 1 1000000000 then(a+b - 1) / b else 0
theorem A9i (K:Nat)(a b:Int):Au7 K a b=some (Bdm a b):=by
 unfold Au7 Bdm;rw[Asr,Asr,Z0];cases h1:inB a 0 1000000000 with
 |false=>rfl
 |true=>
  cases h2:inB b 1 1000000000 with
  |false=>rfl
  |true=>
   rw[Ax5]at h1 h2;simp only[Z0,cond_true,Bool.not_true,cond_false,Bool.and_self];rw[if_pos (by omega)]
   unfold Alr Aob Aoa;rw[Ag4 (n:=a+b) (by omega) (by omega),Ag4 (n:=a+b - 1) (by omega) (by omega)]
   rw[Int.tdiv_eq_ediv_of_nonneg (by omega)]
   have h3:(a+b - 1) / b≤a+b - 1:=Int.ediv_le_self _ (by omega)
   have h4:0≤(a+b - 1) / b:=Int.ediv_nonneg (by omega) (by omega)
   rw[Ag4 (by omega) (by omega)]
def Avt (c:Er)(mem:List Int)(k:Int):List Int:=(mem.drop (k*c.Eg).toNat).take c.Eg.toNat
def Ax6 (c:Er)(p:Dw)(k:Nat):Bool:=
 inB (gt p.Hh k) 0 2&&((bif gt p.Hh k==1 then inB (gt p.Fz k) 0 (c.C0 - 1)else gt p.Fz k== -1)&&(bif gt p.Hh k==0 then Ayl (Avt c p.Fy k)else true))
def Auz (c:Er)(p:Dw):Bool:=
 Ap5 c&&((p.Fy.length:Int)==Ap9 c&&((p.Hh.length:Int)==c.Ae&&((p.Fz.length:Int)==c.Ae&&(List.range c.Ae.toNat).all (Ax6 c p))))
theorem Av3{c:Er}{p:Dw}(h:Auz c p=true):Ap5 c=true∧(p.Fy.length:Int)=c.Ae*c.Eg∧(p.Hh.length:Int)=c.Ae∧(p.Fz.length:Int)=c.Ae∧ ∀k,k<c.Ae.toNat->Ax6 c p k=true:=by
 simp only[Auz,Z4,beq_iff_eq,Z1,List.mem_range]at h;obtain⟨h1,h2,h3,h4,h5⟩:=h;refine⟨h1,?_,h3,h4,h5⟩;rw[h2,Ap9,h1];rfl
theorem A1e{c:Er}(hc:Ap5 c=true){mem:List Int}(hm:(mem.length:Int)=c.Ae*c.Eg){k:Int}(h0:0≤k)(h1:k<c.Ae):
  Aoc .i64 k c.Eg=k*c.Eg∧Aoc .i64 (Aoa .i64 k 1) c.Eg=k*c.Eg+c.Eg∧0≤k*c.Eg∧k*c.Eg+c.Eg≤(mem.length:Int):=by
 obtain⟨b1,b2,_⟩:=Ae1 hc
 have m1:=A1d (a:=k) (b:=c.Eg) (m:=12) (n:=16) h0 (by omega) (by omega) b2.2
 have e2:(k+1)*c.Eg=k*c.Eg+c.Eg:=by rw[Int.add_mul,Int.one_mul]
 have m2:(k+1)*c.Eg≤c.Ae*c.Eg:=Int.mul_le_mul_of_nonneg_right (by omega) (by omega)
 rw[e2]at m2;refine⟨?_,?_,m1.1,by omega⟩
 ·unfold Aoc;exact Ag4 (by omega) (by omega)
 ·unfold Aoc Aoa;rw[Ag4 (n:=k+1) (by omega) (by omega),e2,Ag4 (by omega) (by omega)]
section
variable {K:Nat} (hK:281474976710656≤K)
include hK
theorem A5l{c:Er}(hc:Ap5 c=true){p:Dw}(hm:(p.Fy.length:Int)=c.Ae*c.Eg){k:Int}(h0:0≤k)(h1:k<c.Ae):Aq0 K p c k=some (Avt c p.Fy k):=by
 obtain⟨e1,e2,e3,e4⟩:=A1e hc hm h0 h1;obtain⟨b1,b2,_⟩:=Ae1 hc;unfold Aq0;rw[e1,e2,if_pos ⟨e3,by omega,e4⟩]
 unfold Avt;rw[show k*c.Eg+c.Eg - k*c.Eg=c.Eg by omega]
theorem Bap (c:Er)(p:Dw):Av9 K c p=some (Auz c p):=by
 unfold Av9;rw[Awt,Axc];simp only[Z0];cases hc:Ap5 c with
 |false=>simp[Auz,hc]
 |true=>
 obtain⟨b1,b2,b3,_⟩:=Ae1 hc
 have hby:Ap9 c=c.Ae*c.Eg:=by rw[Ap9,hc];rfl
 simp only[cond_true,Auz,hc,Z30,bne];cases h1:(p.Fy.length:Int)==Ap9 c with
 |false=>rfl
 |true=>
 cases h2:(p.Hh.length:Int)==c.Ae with
 |false=>rfl
 |true=>
 cases h3:(p.Fz.length:Int)==c.Ae with
 |false=>rfl
 |true=>
 rw[beq_iff_eq]at h1 h2 h3
 have hN:((c.Ae.toNat:Nat):Int)=c.Ae:=by omega
 simp only[Bool.not_true,cond_false,Z30];rw[Apw hK c.Ae.toNat (by omega) (Ax6 c p) (some true) (fun n i=>Alc K c n i p.Fy p.Hh p.Fz) (fun n i h=> ?_) (fun n=> ?_)]
 ·cases (List.range c.Ae.toNat).all (Ax6 c p)<;>rfl
 ·obtain⟨e1,e2,e3,e4⟩:=A1e hc (h1.trans hby) (k:=(i:Int)) (by omega) (by omega)
  have hl:(List.take (i*c.Eg+c.Eg - i*c.Eg).toNat (List.drop (i*c.Eg).toNat p.Fy)).length≤140737488355327:=by simp;omega
  have hs:Aob .i64 c.C0 1=c.C0 - 1:=by unfold Aob;rw[Ag4 (by omega) (by omega)]
  have hck:List.take (i*c.Eg+c.Eg - i*c.Eg).toNat (List.drop (i*c.Eg).toNat p.Fy)=Avt c p.Fy i:=by
   unfold Avt;rw[show(i:Int)*c.Eg+c.Eg - i*c.Eg=c.Eg by omega]
  simp only[Alc,Aqv,At5];rw[e1,e2,Ag5 (by omega),decide_eq_true (show(i:Int)<c.Ae by omega),cond_true,if_pos ⟨by omega,by omega⟩,Asr,Asr,hs,Azs hK _ (by omega),hck]
  simp only[Z0,bne,show((0:Int)≤(i:Int)∧(i:Int)<(p.Hh.length:Int))=True from eq_true ⟨by omega,by omega⟩,show((0:Int)≤(i:Int)∧(i:Int)<(p.Fz.length:Int))=True from eq_true ⟨by omega,by omega⟩,if_true,if_pos (show(0:Int)≤i*c.Eg∧(i:Int)*c.Eg≤i*c.Eg+c.Eg∧(i:Int)*c.Eg+c.Eg≤(p.Fy.length:Int) from⟨e3,by omega,e4⟩)]
  unfold Ax6;cases inB (gt p.Hh i) 0 2<;>cases (gt p.Hh (i:Int)==1)<;>cases inB (gt p.Fz i) 0 (c.C0 - 1)<;>cases (gt p.Fz (i:Int)== -1)<;>cases (gt p.Hh (i:Int)==0)<;>cases Ayl (Avt c p.Fy i)<;>rfl
 ·show Alc K c (n+1) _ _ _ _=_;rw[Alc,hN,decide_eq_false (by omega),cond_false]
theorem Baq (c:Er)(p:Dw):Awd K c p=some (Auz c p):=by
 unfold Awd;rw[Azr,Ayz];simp only[Z0];cases hc:Ap5 c with
 |false=>simp[Auz,hc]
 |true=>
 obtain⟨b1,b2,b3,_⟩:=Ae1 hc
 have hby:Ap9 c=c.Ae*c.Eg:=by rw[Ap9,hc];rfl
 simp only[cond_true,Auz,hc,Z30,bne];cases h1:(p.Fy.length:Int)==Ap9 c with
 |false=>rfl
 |true=>
 cases h2:(p.Hh.length:Int)==c.Ae with
 |false=>rfl
 |true=>
 cases h3:(p.Fz.length:Int)==c.Ae with
 |false=>rfl
 |true=>
 rw[beq_iff_eq]at h1 h2 h3
 have hN:((c.Ae.toNat:Nat):Int)=c.Ae:=by omega
 simp only[Bool.not_true,cond_false,Z30];rw[Apw hK c.Ae.toNat (by omega) (Ax6 c p) (some true) (fun n i=>Ai3 K c n p.Hh (p.Hh.length:Int) i p.Fy p.Hh p.Fz) (fun n i h=> ?_) (fun n=> ?_)]
 ·cases (List.range c.Ae.toNat).all (Ax6 c p)<;>rfl
 ·have hs:Aob .i64 c.C0 1=c.C0 - 1:=by unfold Aob;rw[Ag4 (by omega) (by omega)]
  have hl:(Avt c p.Fy i).length≤140737488355327:=by unfold Avt;simp;omega
  simp only[Ai3,Ap2,Aue];rw[A5l hK hc (h1.trans hby) (by omega) (by omega),Ag5 (by omega),decide_eq_true (show(i:Int)<(p.Hh.length:Int)by omega),cond_true,if_pos ⟨by omega,by omega⟩,Ato,Ato,hs]
  simp only[Z0,Azt hK _ (show(Avt c p.Fy i).length≤140737488355328 by omega),bne,show((0:Int)≤(i:Int)∧(i:Int)<(p.Fz.length:Int))=True from eq_true ⟨by omega,by omega⟩,if_true]
  unfold Ax6;cases inB (gt p.Hh i) 0 2<;>cases (gt p.Hh (i:Int)==1)<;>cases inB (gt p.Fz i) 0 (c.C0 - 1)<;>cases (gt p.Fz (i:Int)== -1)<;>cases (gt p.Hh (i:Int)==0)<;>cases Ayl (Avt c p.Fy i)<;>rfl
 ·show Ai3 K c (n+1) _ _ _ _ _ _=_;rw[Ai3,hN,decide_eq_false (by omega),cond_false]
end
def Awk (c:Er)(t:A9):Prop:=Ap5 c=true∧1≤t.Vu∧0≤t.fAt∧t.fAt+t.Vu≤Ap9 c
instance (c t):Decidable (Awk c t):=by unfold Awk;infer_instance
def Ar2 (c:Er)(t:A9):Bool:=
 decide (Awk c t)&&(bif t.Vv==0 then decide (t.Vu≤c.Eg)&&(t.fAt / c.Eg==(t.fAt+t.Vu - 1) / c.Eg)else decide (t.Vu>c.Eg)&&(t.Vv==Bdm t.Vu c.Eg&&t.fAt % c.Eg==0))
theorem A5m (K:Nat){c:Er}{t:A9}(h:Awk c t):
  (bif (t.Vv==0)then(bif (decide (t.Vu≤c.Eg))then(if c.Eg≠(0:Int)then(if c.Eg≠(0:Int)then some ((Alr .i64 t.fAt c.Eg)==(Alr .i64 (Aob .i64 (Aoa .i64 t.fAt t.Vu) 1) c.Eg))else none)else none)else some false)else((Au6 K c t.Vu).bind fun r2=>(bif r2 then((Atf K c t.Vu).bind fun r3=>(bif (t.Vv==r3)then(if c.Eg≠(0:Int)then some ((Int.tmod t.fAt c.Eg)==0)else none)else some false))else some false)))=some (Ar2 c t):=by
 have hd:decide (Awk c t)=true:=decide_eq_true h;obtain⟨hc,h1,h2,h3⟩:=h
 have hb:=Axl c;obtain⟨b1,b2,_⟩:=Ae1 hc;unfold Ar2 Au6 Atf;rw[hd,if_pos (by omega),if_pos (by omega),A9i]
 have e1:Aob .i64 (Aoa .i64 t.fAt t.Vu) 1=t.fAt+t.Vu - 1:=by
  unfold Aob Aoa;rw[Ag4 (n:=t.fAt+t.Vu) (by omega) (by omega),Ag4 (by omega) (by omega)]
 have e2: ∀x:Int,0≤x->x≤192->Alr .i64 x c.Eg=x / c.Eg:=by
  intro x h0 hx;unfold Alr;rw[Int.tdiv_eq_ediv_of_nonneg h0]
  have h3:x / c.Eg≤x:=Int.ediv_le_self _ h0
  have h4:0≤x / c.Eg:=Int.ediv_nonneg h0 (by omega)
  rw[Ag4 (by omega) (by omega)]
 rw[e1,e2 _ h2 (by omega),e2 _ (by omega) (by omega),Int.tmod_eq_emod_of_nonneg h2]
 simp only[Z0,if_pos (show c.Eg≠0 by omega)]
 cases t.Vv==0<;>cases decide (t.Vu≤c.Eg)<;>cases decide (t.Vu>c.Eg)<;>cases t.Vv==Bdm t.Vu c.Eg<;>rfl
theorem Bar{c:Er}{t:A9}(h: ¬Awk c t):Ar2 c t=false:=by
 unfold Ar2;rw[decide_eq_false h];rfl
theorem A1f (K:Nat)(c:Er)(t:A9):Arg K c t=some (Ar2 c t):=by
 have hb:=Axl c
 by_cases h:Awk c t
 ·rw[←A5m K h];obtain⟨hc,h1,h2,h3⟩:=h;unfold Arg;rw[Axc,Z0,Aqo (by omega),decide_eq_false (by omega),decide_eq_false (by omega),decide_eq_false (by omega)]
  unfold Aob;rw[Ag4 (by omega) (by omega),decide_eq_false (show ¬t.Vu>Ap9 c - t.fAt by omega)]
  simp only[cond_false]
  try rfl
 ·rw[Bar h];unfold Arg;rw[Axc,Z0]
  by_cases g0:Ap9 c=0
  ·rw[g0];rfl
  ·have hc:Ap5 c=true:=by
    cases hc:Ap5 c with
    |true=>rfl
    |false=>exact absurd (by unfold Ap9;rw[hc];rfl) g0
   rw[Aqo g0,cond_false]
   by_cases g1:t.Vu<1
   ·rw[decide_eq_true g1];rfl
   ·by_cases g2:t.fAt<0
    ·rw[decide_eq_false g1,decide_eq_true g2];rfl
    ·by_cases g3:t.fAt>Ap9 c
     ·rw[decide_eq_false g1,decide_eq_false g2,decide_eq_true g3];rfl
     ·rw[decide_eq_false g1,decide_eq_false g2,decide_eq_false g3];unfold Aob;rw[Ag4 (by omega) (by omega),decide_eq_true (show t.Vu>Ap9 c - t.fAt from ?_)]
      ·rfl
      ·refine Classical.byContradiction fun g4=>h ⟨hc,by omega,by omega,by omega⟩
theorem A1g (K:Nat)(c:Er)(t:A9):Arl K c t=some (Ar2 c t):=by
 have hb:=Axl c
 by_cases h:Awk c t
 ·rw[←A5m K h];obtain⟨hc,h1,h2,h3⟩:=h;unfold Arl;rw[Ayz,Z0,decide_eq_false (by omega),decide_eq_false (by omega),decide_eq_false (by omega)]
  unfold Aob;rw[Ag4 (by omega) (by omega),decide_eq_false (show ¬t.fAt>Ap9 c - t.Vu by omega)]
  simp only[cond_false]
  try rfl
 ·rw[Bar h];unfold Arl;rw[Ayz,Z0]
  by_cases g1:t.Vu≤0
  ·rw[decide_eq_true g1];rfl
  ·by_cases g2:t.fAt<0
   ·rw[decide_eq_false g1,decide_eq_true g2];rfl
   ·by_cases g3:t.Vu>Ap9 c
    ·rw[decide_eq_false g1,decide_eq_false g2,decide_eq_true g3];rfl
    ·rw[decide_eq_false g1,decide_eq_false g2,decide_eq_false g3]
     have hc:Ap5 c=true:=by
      cases hc:Ap5 c with
      |true=>rfl
      |false=>exfalso;unfold Ap9 at g3;rw[hc]at g3;simp only[cond_false]at g3;omega
     unfold Aob;rw[Ag4 (by omega) (by omega),decide_eq_true (show t.fAt>Ap9 c - t.Vu from ?_)]
     ·rfl
     ·refine Classical.byContradiction fun g4=>h ⟨hc,by omega,by omega,by omega⟩
theorem A5n{α:Type}(l:List α)(i:Nat):(l.drop (0:Int).toNat).take ((i:Int) - 0).toNat=l.take i:=by simp
theorem Bas{i n:Nat}(h:i≤n):((0:Int)≤0∧(0:Int)≤(i:Int)∧(i:Int)≤(n:Int)):=⟨by omega,by omega,by omega⟩
def Avu (c:Er)(l:List Int):Bool:=(List.range l.length).all (fun i=>inB (gt l i) 0 (c.Ae - 1)&& !(l.take i).contains (gt l i))
def A5o (n:Ba):Bool:=
 n.Ly==0&&(n.fUp==0&&(n.Gq==0&&(n.Bt==0&&(n.Gr==0&&(n.Gs==0&&((n.Ae.length:Int)==0&&(n.Pq==0&&(n.Gt==0&&((n.Ea.length:Int)==0&&(n.Dg.length:Int)==0)))))))))
theorem Bez (K:Nat)(n):Axz K n=some (A5o n):=by
 simp only[Axz,Ai5,A5o]
theorem Be0{K:Nat}(hK:1≤K)(l:List Int):Aiz K l []=some ((l.length:Int)==0):=by
 obtain⟨k,rfl⟩: ∃k,K=k+1:=⟨K - 1,by omega⟩
 cases l with
 |nil=>unfold Aiz;rw[Aiy];rfl
 |cons x l=>unfold Aiz;rw[As7 (by simp only[Y9,List.length_nil];omega),cond_true,Aqo (by simp only[Y9];omega)]
theorem Bb9{K:Nat}(hK:1≤K)(l:List A9):Ali K l []=some ((l.length:Int)==0):=by
 obtain⟨k,rfl⟩: ∃k,K=k+1:=⟨K - 1,by omega⟩
 cases l with
 |nil=>unfold Ali;rw[An3];rfl
 |cons x l=>unfold Ali;rw[As7 (by simp only[Y9,List.length_nil];omega),cond_true,Aqo (by simp only[Y9];omega)]
theorem Be1{K:Nat}(hK:1≤K)(n):Ax4 K n=some (A5o n):=by
 unfold Ax4 Awy;simp only[beq_self_eq_true,cond_true,Be0 hK,Bb9 hK,Z0,Ai5,A5o]
def Bca (c:Er)(n:Ba):Bool:=bif n.Pq==0 then n.Gt==0 else n.Ae.contains (Aob .i64 n.Pq 1)&&inB n.Gt 0 c.Eg
def A6z (c:Er)(n:Ba):Bool:=
 (inB n.fUp 0 c.C0&&(inB n.Bt 0 c.C0&&(inB n.Gr 0 c.C0&&inB n.Gs 0 c.C0)))&&((!decide (n.Ly<0)&& !decide (n.Gq<0))&&((Avu c n.Ae&&Bca c n)&&((decide ((n.Ea.length:Int)≤12)&&decide ((n.Dg.length:Int)≤6))&&(n.Dg.all (fun x=>inB x 0 255)&&n.Ea.all (Ar2 c)))))
def Aw0 (c:Er)(n:Ba):Bool:=Ap5 c&&(inB n.Hh 0 3&&(inB n.C2 1 c.Eh&&(bif n.Hh != 1 then A5o n else A6z c n)))
section
variable {K:Nat} (hK:281474976710656≤K)
include hK
theorem A2i{c:Er}(hc:Ap5 c=true):Aob .i64 c.Ae 1=c.Ae - 1:=by
 obtain⟨b1,_⟩:=Ae1 hc;unfold Aob;rw[Ag4 (by omega) (by omega)]
theorem Az8{c:Er}(hc:Ap5 c=true)(l:List Int)(hl:l.length≤140737488355327):Ar8 K c l=some (Avu c l):=by
 unfold Ar8;rw[Apw hK l.length (by omega) (fun i=>inB (gt l i) 0 (c.Ae - 1)&& !(l.take i).contains (gt l i)) (some true) (fun n i=>Apa K c l n l (l.length:Int) i) (fun n i h=> ?_) (fun n=> ?_)]
 ·unfold Avu;cases (List.range l.length).all _<;>rfl
 ·have hp:(l.take i).length≤140737488355328:=by simp;omega
  simp only[Apa];rw[Afe h,cond_true,if_pos (Ai8 h),Ato,if_pos (Bas (by omega)),A5n,Azq hK _ _ hp,Ag5 (by omega),A2i hK hc]
  simp only[Z0];cases inB (gt l i) 0 (c.Ae - 1)<;>cases (l.take i).contains (gt l i)<;>rfl
 ·show Apa K c l (n+1) _ _ _=_;rw[Apa,Agf (Z9 _),cond_false]
theorem A6h{c:Er}(hc:Ap5 c=true)(n:Ba)(hl:n.Ae.length≤140737488355327):At8 K c n=some (Avu c n.Ae&&Bca c n):=by
 unfold At8;rw[Apw hK n.Ae.length (by omega) (fun i=>inB (gt n.Ae i) 0 (c.Ae - 1)&& !(n.Ae.take i).contains (gt n.Ae i)) (some (Bca c n)) (fun k i=>Aoy K c k i n.Hh n.C2 n.Ly n.fUp n.Gq n.Bt n.Gr n.Gs n.Ae n.Pq n.Gt n.Ea n.Dg) (fun k i h=> ?_) (fun k=> ?_)]
 ·rw[Ai5];rfl
 ·have hp:(n.Ae.take i).length≤140737488355328:=by simp;omega
  simp only[Aoy];rw[Afe h,cond_true,if_pos (Ai8 h),Asr,if_pos (Bas (by omega)),A5n,Axk hK _ _ hp,Ag5 (by omega),A2i hK hc]
  simp only[Z0,if_pos (Ai8 h)];cases inB (gt n.Ae i) 0 (c.Ae - 1)<;>cases (n.Ae.take i).contains (gt n.Ae i)<;>rfl
 ·show Aoy K c (k+1) _ _ _ _ _ _ _ _ _ _ _ _ _ _=_;rw[Aoy,Agf (Z9 _),cond_false,Axk hK _ _ (by omega),Asr]
  unfold Bca;simp only[Z0,Ai5];cases n.Pq==0<;>rfl
theorem Ayf (l:List Int)(hl:l.length≤140737488355328):Aqw K l=some (l.all (fun x=>inB x 0 255)):=by
 unfold Aqw Ai4 Ak9;rw[Az0 hK l hl (Asl K) (fun x=> !inB x 0 255) (fun x _=>by simp[Asl,Ato]) (Ag3 K l) (fun n N i=>rfl)]
 simp only[Z0,List.not_any_eq_all_not,Bool.not_not]
theorem Bat (c:Er)(n:Ba)(h1:n.Ae.length≤140737488355327)(h2:n.Ea.length≤140737488355327)(h3:n.Dg.length≤140737488355327):Awb K c n=some (Aw0 c n):=by
 unfold Awb;rw[Awt,Bez];simp only[Z0,Asr];cases hc:Ap5 c with
 |false=>simp[Aw0,hc]
 |true=>
 rw[A6h hK hc n h1]
 have hA:Ap0 K n.Dg K 0=some (n.Dg.all (fun x=>inB x 0 255)):=by
  rw[Ar1 hK n.Dg (by omega) (fun x=>inB x 0 255) (some true) (Ap0 K n.Dg) (fun k i h=> ?_) (fun k=> ?_)]
  ·cases n.Dg.all (fun x=>inB x 0 255)<;>rfl
  ·rw[Ap0,Afe h,cond_true,if_pos (Ai8 h),Aej h,Asr,Ag5 (by omega),Z0,Ac2]
  ·rw[Ap0,Agf (Z9 _),cond_false]
 have hB:Api K c K 0 n.Hh n.C2 n.Ly n.fUp n.Gq n.Bt n.Gr n.Gs n.Ae n.Pq n.Gt n.Ea n.Dg=some (n.Dg.all (fun x=>inB x 0 255)&&n.Ea.all (Ar2 c)):=by
  rw[Ar1 hK n.Ea (by omega) (Ar2 c) (some (n.Dg.all (fun x=>inB x 0 255))) (fun k i=>Api K c k i n.Hh n.C2 n.Ly n.fUp n.Gq n.Bt n.Gr n.Gs n.Ae n.Pq n.Gt n.Ea n.Dg) (fun k i h=> ?_) (fun k=> ?_)]
  ·rw[Ai5,Bool.and_comm]
  ·simp only[Api];rw[Afe h,cond_true,if_pos (Ai8 h),Aej h,A1f,Ag5 (by omega),Z0,Ac2]
  ·show Api K c (k+1) _ _ _ _ _ _ _ _ _ _ _ _ _ _=_;rw[Api,Agf (Z9 _),cond_false,hA]
 rw[hB]
 have e12:decide ((n.Ea.length:Int)>12)= !decide ((n.Ea.length:Int)≤12):=by rw[←decide_not];congr 1;simp
 have e6:decide ((n.Dg.length:Int)>6)= !decide ((n.Dg.length:Int)≤6):=by rw[←decide_not];congr 1;simp
 simp only[Z0,cond_true,e12,e6,Ac2,Ai5,A9h];unfold Aw0 A6z;rw[hc];cases n.Hh != 1 with
 |true=>simp only[cond_true,Ai5,Z30]
 |false=>
  simp only[cond_false,Ai5,Z30,Z7]
  ac_rfl
theorem Bau (c:Er)(n:Ba)(h1:n.Ae.length≤140737488355327)(h2:n.Ea.length≤140737488355327)(h3:n.Dg.length≤140737488355327):Awe K c n=some (Aw0 c n):=by
 unfold Awe;rw[Azr,Be1 (by omega)]
 simp only[Z0,Ato];cases hc:Ap5 c with
 |false=>simp[Aw0,hc]
 |true=>
 have hT:Ahy K n.Ea c=some (n.Ea.any (fun t=> !Ar2 c t)):=
  Az0 hK n.Ea (by omega) (fun t=>Auf K t c) (fun t=> !Ar2 c t) (fun x _=>by simp[Auf,A1g]) (Ae9 K n.Ea c) (fun n N i=>rfl)
 have hJ:Ap3 K c n.Ea n.Dg=some ((decide ((n.Ea.length:Int)≤12)&&decide ((n.Dg.length:Int)≤6))&&(n.Dg.all (fun x=>inB x 0 255)&&n.Ea.all (Ar2 c))):=by
  unfold Ap3;rw[hT,Ayf hK _ (by omega)]
  simp only[Z0,Ai5,List.not_any_eq_all_not,Bool.not_not,Z7]
  ac_rfl
 obtain⟨_,b2,_⟩:=Ae1 hc
 have hB:Apj K c K ([n.fUp,n.Bt,n.Gr,n.Gs]:List Int) (([n.fUp,n.Bt,n.Gr,n.Gs]:List Int).length:Int) 0 n.Hh n.C2 n.Ly n.fUp n.Gq n.Bt n.Gr n.Gs n.Ae n.Pq n.Gt n.Ea n.Dg=some (A6z c n):=by
  rw[Ar1 hK ([n.fUp,n.Bt,n.Gr,n.Gs]:List Int) (by simp) (fun x=>inB x 0 c.C0) (some ((!decide (n.Ly<0)&& !decide (n.Gq<0))&&((Avu c n.Ae&&Bca c n)&&((decide ((n.Ea.length:Int)≤12)&&decide ((n.Dg.length:Int)≤6))&&(n.Dg.all (fun x=>inB x 0 255)&&n.Ea.all (Ar2 c)))))) (fun k i=>Apj K c k ([n.fUp,n.Bt,n.Gr,n.Gs]:List Int) (([n.fUp,n.Bt,n.Gr,n.Gs]:List Int).length:Int) i n.Hh n.C2 n.Ly n.fUp n.Gq n.Bt n.Gr n.Gs n.Ae n.Pq n.Gt n.Ea n.Dg) (fun k i h=> ?_) (fun k=> ?_)]
  ·unfold A6z;rw[Ai5];simp only[F3,List.all_nil,Bool.and_true]
  ·simp only[Apj];rw[Afe h,cond_true,if_pos (Ai8 h),Aej h,Ato,Ag5 (by simp at h ⊢;omega),Z0,Ac2]
  ·show Apj K c (k+1) _ _ _ _ _ _ _ _ _ _ _ _ _ _ _ _=_;rw[Apj,Agf (Z9 _),cond_false,hJ,Az8 hK hc _ h1,Azq hK _ _ (by omega),Ato]
   simp only[Z0,bne,Ac2,Ai5,A9h];unfold Bca
   have hz:(n.Gt==0)=true->inB n.Gt 0 c.Eg=true:=by
    intro h;rw[beq_iff_eq]at h;rw[Ax5];omega
   cases e0:n.Pq==0 with
   |true=>
    simp only[cond_true,Ai5,A9h,Bool.not_not,Ac2,cond_false];cases e1:n.Gt==0 with
    |true=>rw[hz e1];simp only[Z30,Bool.and_true];simp only[Z7];ac_rfl
    |false=>cases inB n.Gt 0 c.Eg<;>cases decide (n.Ly<0)<;>cases decide (n.Gq<0)<;>cases Avu c n.Ae<;>rfl
   |false=>
    simp only[cond_false,Ai5,A9h,Z7]
    ac_rfl
 rw[hB];simp only[cond_true,Ac2,Ai5];unfold Aw0;rw[hc];cases n.Hh != 1<;>simp only[cond_true,cond_false,Ai5,Z30]
end
theorem Bdn{α β:Type}(l:List α)(q:α->Bool)(fin bad:Option β)(L:Nat->Int->Option β)
  (hs: ∀n (i:Nat) (h:i<l.length),L (n+1) (i:Int)=bif q l[i]then L n ((i+1:Nat):Int)else bad)
  (he: ∀n,L (n+1) (l.length:Int)=fin):
  ∀(n i:Nat),i≤l.length->l.length - i<n->L n (i:Int)=bif (l.drop i).all q then fin else bad:=by
 intro n
 induction n with
 |zero=>intro i _ h;omega
 |succ n ih=>
  intro i hi hn;rcases F9 i l.length with h|h
  ·rw[hs n i h,Z47 h,F3];cases q l[i]with
   |false=>rfl
   |true=>rw[cond_true,ih (i+1) h (by omega)];rfl
  ·obtain rfl:i=l.length:=by omega
   rw[he,List.drop_length];rfl
theorem Be2{β:Type}{K:Nat}(hK:281474976710656≤K)(N:Nat)(hl:N≤140737488355328)(q:Nat->Bool)(fin bad:Option β)(L:Nat->Int->Option β)
  (hs: ∀n (i:Nat) (h:i<N),L (n+1) (i:Int)=bif q i then L n ((i+1:Nat):Int)else bad)
  (he: ∀n,L (n+1) (N:Int)=fin):L K 0=bif (List.range N).all q then fin else bad:=by
 have:=Bdn (List.range N) q fin bad L (fun n i h=>by rw[List.getElem_range];exact hs n i (by simpa using h)) (fun n=>by rw[List.length_range];exact he n) K 0 (Z21 _) (by simp;omega)
 simpa using this
def Axm (t:A9):Prop:=0≤t.fAt∧t.fAt≤200∧0≤t.Vu∧t.Vu≤200
theorem Bav{c:Er}{t:A9}(h:Ar2 c t=true):Axm t∧Awk c t:=by
 have h1:Awk c t:=by
  unfold Ar2 at h;rw[Z4]at h;exact of_decide_eq_true h.1
 have hb:=Axl c;obtain⟨h2,h3,h4,h5⟩:=h1;exact⟨⟨h4,by omega,by omega,by omega⟩,h2,h3,h4,h5⟩
def Apx (a b:A9):Bool:=decide (a.Vu≤0∨b.Vu≤0∨a.fAt+a.Vu≤b.fAt∨b.fAt+b.Vu≤a.fAt)
theorem Baw (a b:A9):Apx a b=Apx b a:=by
 unfold Apx;rw[decide_eq_decide];omega
theorem Bcb (K:Nat){a b:A9}(ha:Axm a)(hb:Axm b):Aw5 K a b=some (Apx a b):=by
 obtain⟨a1,a2,a3,a4⟩:=ha;obtain⟨b1,b2,b3,b4⟩:=hb;unfold Aw5 Aob;rw[Ag4 (n:=b.fAt - a.fAt) (by omega) (by omega),Ag4 (n:=a.fAt - b.fAt) (by omega) (by omega)]
 simp only[Axj]
 have: ∀x:Bool,x=Apx a b->some x=some (Apx a b):=fun x h=>by rw[h]
 by_cases h:a.fAt≤b.fAt
 ·rw[decide_eq_true h,cond_true,Axj,Axj];refine this _ ?_;rw[Bool.eq_iff_iff];simp only[Apx,Bool.or_eq_true,decide_eq_true_eq];omega
 ·rw[decide_eq_false h,cond_false,Axj,Axj];refine this _ ?_;rw[Bool.eq_iff_iff];simp only[Apx,Bool.or_eq_true,decide_eq_true_eq];omega
theorem A5p (K:Nat){a b:A9}(ha:Axm a)(hb:Axm b):Avg K a b=some (Apx a b):=by
 obtain⟨a1,a2,a3,a4⟩:=ha;obtain⟨b1,b2,b3,b4⟩:=hb;unfold Avg Avf Aob;simp only[IntKind.wrap_u64]
 have: ∀x:Bool,x=Apx a b->some x=some (Apx a b):=fun x h=>by rw[h]
 by_cases h:a.fAt>b.fAt
 ·rw[decide_eq_true h,cond_true,Axj,Axj];refine this _ ?_;rw[Bool.eq_iff_iff];simp only[Apx,Bool.or_eq_true,decide_eq_true_eq];omega
 ·rw[decide_eq_false h,cond_false,Axj,Axj];refine this _ ?_;rw[Bool.eq_iff_iff];simp only[Apx,Bool.or_eq_true,decide_eq_true_eq];omega
def Av4 (l:List A9):Bool:=(List.range l.length).all (fun i=>(l.take i).all (fun o=>Apx o (gt l i)))
def Aym (c:Er)(chunks:List Int)(t:A9):Bool:=
 Ar2 c t&&(List.range ((t.fAt+t.Vu - 1) / c.Eg - t.fAt / c.Eg+1).toNat).all (fun j=>chunks.contains (t.fAt / c.Eg+(j:Int)))
theorem A60{c:Er}{t:A9}(h:Ar2 c t=true):
  c.Eg≠0∧Alr .i64 t.fAt c.Eg=t.fAt / c.Eg∧Alr .i64 (Aob .i64 (Aoa .i64 t.fAt t.Vu) 1) c.Eg=(t.fAt+t.Vu - 1) / c.Eg∧0≤t.fAt / c.Eg∧t.fAt / c.Eg≤(t.fAt+t.Vu - 1) / c.Eg∧(t.fAt+t.Vu - 1) / c.Eg≤192:=by
 obtain⟨hs,hc,h1,h2,h3⟩:=Bav h
 have hb:=Axl c;obtain⟨b1,b2,_⟩:=Ae1 hc
 have e1:Aob .i64 (Aoa .i64 t.fAt t.Vu) 1=t.fAt+t.Vu - 1:=by
  unfold Aob Aoa;rw[Ag4 (n:=t.fAt+t.Vu) (by omega) (by omega),Ag4 (by omega) (by omega)]
 have e2: ∀x:Int,0≤x->x≤192->Alr .i64 x c.Eg=x / c.Eg∧0≤x / c.Eg∧x / c.Eg≤192:=by
  intro x h0 hx
  have h3:x / c.Eg≤x:=Int.ediv_le_self _ h0
  have h4:0≤x / c.Eg:=Int.ediv_nonneg h0 (by omega)
  refine⟨?_,h4,by omega⟩
  unfold Alr;rw[Int.tdiv_eq_ediv_of_nonneg h0,Ag4 (by omega) (by omega)]
 obtain⟨x1,x2,x3⟩:=e2 t.fAt h2 (by omega)
 obtain⟨y1,y2,y3⟩:=e2 (t.fAt+t.Vu - 1) (by omega) (by omega)
 refine⟨by omega,x1,by rw[e1,y1],x2,Int.ediv_le_ediv (by omega) (by omega),y3⟩
theorem Bs9{a:Int}{j:Nat}(h0:0≤a)(h:a+j≤140737488355328):Aoa .i64 (a+(j:Int)) 1=a+((j+1:Nat):Int):=by
 unfold Aoa;rw[Ag4 (by omega) (by omega)];omega
section
variable {K:Nat} (hK:281474976710656≤K)
include hK
theorem A6i (l:List A9)(hl:l.length≤140737488355327)(hs: ∀t∈l,Axm t):Aua K l=some (Av4 l):=by
 unfold Aua Av4;rw[Apw hK l.length (by omega) (fun i=>(l.take i).all (fun o=>Apx o (gt l i))) (some true) (fun n i=>Ajz K l n i) (fun n i h=> ?_) (fun n=> ?_)]
 ·cases (List.range l.length).all _<;>rfl
 ·simp only[Ajz];rw[Afe h,cond_true]
  have hlen:(l.take i).length=i:=by simp;omega
  rw[Ar1 hK (l.take i) (by omega) (fun o=>Apx o (gt l i)) (Ajz K l n (Aoa .i64 i 1)) (fun m j=>Ao3 K l i (Ajz K l n) m j) (fun m j hj=> ?_) (fun m=> ?_)]
  ·rw[Ag5 (by omega)]
  ·have hj':j<i:=by omega
   simp only[Ao3];rw[Afe hj',cond_true,if_pos (Ai8 h),if_pos (Ai8 (show j<l.length by omega)),Bcb K (hs _ (Apl h)) (hs _ (Apl (show j<l.length by omega))),Z0,Ac2,Ag5 (by omega),Baw,List.getElem_take,Aej (show j<l.length by omega)]
  ·show Ao3 K l i _ (m+1) _=_;rw[Ao3,hlen,Agf (Z9 _),cond_false]
 ·show Ajz K l (n+1) _=_;rw[Ajz,Agf (Z9 _),cond_false]
theorem A6j (l:List A9)(hl:l.length≤140737488355327)(hs: ∀t∈l,Axm t):Auh K l=some (Av4 l):=by
 unfold Auh Av4;rw[Apw hK l.length (by omega) (fun i=>(l.take i).all (fun o=>Apx o (gt l i))) (some true) (fun n i=>Apb K l n l (l.length:Int) i) (fun n i h=> ?_) (fun n=> ?_)]
 ·cases (List.range l.length).all _<;>rfl
 ·simp only[Apb]
  have hlen:(l.take i).length=i:=by simp;omega
  have hC:Ahb K (l.take i) (gt l i)=some ((l.take i).any (fun o=> !Apx o (gt l i))):=
   Az0 hK (l.take i) (by omega) (fun t=>Asm K t (gt l i)) (fun o=> !Apx o (gt l i)) (fun x hx=>by
    unfold Asm;rw[A5p K (hs _ (Za hx)) (hs _ (Apl h))];rfl) (Aem K (l.take i) (gt l i)) (fun n N i=>rfl)
  rw[Afe h,cond_true,if_pos (Ai8 h),if_pos (Bas (by omega)),A5n,hC,Ag5 (by omega),Z0,List.any_eq_not_all_not,Ac2]
  simp only[Bool.not_not]
 ·show Apb K l (n+1) _ _ _=_;rw[Apb,Agf (Z9 _),cond_false]
theorem A6k (c:Er)(n:Ba)(h1:n.Ae.length≤140737488355327)(h2:n.Ea.length≤140737488355327):Aug K c n=some (n.Ea.all (Aym c n.Ae)):=by
 unfold Aug
 have h1t: ∀t,Aq1 K t c n=some (!Aym c n.Ae t):=by
  intro t;unfold Aq1 Aym;rw[A1g,Z0,Ac2];cases ht:Ar2 c t with
  |false=>rfl
  |true=>
   obtain⟨d0,d1,d2,d3,d4,d5⟩:=A60 ht;rw[cond_true,if_pos d0,d1]
   have:=Be2 hK ((t.fAt+t.Vu - 1) / c.Eg - t.fAt / c.Eg+1).toNat (by omega) (fun j=>n.Ae.contains (t.fAt / c.Eg+(j:Int))) (some false) (some true) (fun m j=>Alj K t c n m (t.fAt / c.Eg+j)) (fun m j hj=> ?_) (fun m=> ?_)
   ·simp only[Int.add_zero]at this;rw[this];cases (List.range _).all _<;>rfl
   ·simp only[Alj];rw[if_pos d0,d2,decide_eq_true (by omega),cond_true,Azq hK _ _ (by omega),Z0,Ac2,Bs9 d3 (by omega)]
   ·show Alj K t c n (m+1) _=_;rw[Alj,if_pos d0,d2,decide_eq_false (by omega),cond_false]
 have hC:Ag9 K n.Ea c n=some (n.Ea.any (fun t=> !Aym c n.Ae t)):=
  Az0 hK n.Ea (by omega) (fun t=>Aq1 K t c n) (fun t=> !Aym c n.Ae t) (fun x _=>h1t x) (Ael K n.Ea c n) (fun n N i=>rfl)
 rw[hC];simp only[Z0,List.not_any_eq_all_not,Bool.not_not]
theorem A6l (c:Er)(n:Ba)(h1:n.Ae.length≤140737488355327)(h2:n.Ea.length≤140737488355327):At9 K c n=some (n.Ea.all (Aym c n.Ae)):=by
 unfold At9;rw[Ar1 hK n.Ea (by omega) (Aym c n.Ae) (some true) (fun k i=>Aje K c k i n.Hh n.C2 n.Ly n.fUp n.Gq n.Bt n.Gr n.Gs n.Ae n.Pq n.Gt n.Ea n.Dg) (fun k i h=> ?_) (fun k=> ?_)]
 ·cases n.Ea.all _<;>rfl
 ·simp only[Aje];rw[Afe h,cond_true,if_pos (Ai8 h),Aej h,A1f,Z0,Ac2];unfold Aym;generalize n.Ea[i]=t;cases ht:Ar2 c t with
  |false=>rfl
  |true=>
   obtain⟨d0,d1,d2,d3,d4,d5⟩:=A60 ht;rw[cond_true,if_pos d0,d1,Z30]
   have:=Apw hK ((t.fAt+t.Vu - 1) / c.Eg - t.fAt / c.Eg+1).toNat (by omega) (fun j=>n.Ae.contains (t.fAt / c.Eg+(j:Int))) (Aje K c k ((i+1:Nat):Int) n.Hh n.C2 n.Ly n.fUp n.Gq n.Bt n.Gr n.Gs n.Ae n.Pq n.Gt n.Ea n.Dg)
    (fun m j=>Ao0 K c i n.Hh n.C2 n.Ly n.fUp n.Gq n.Bt n.Gr n.Gs n.Ae n.Pq n.Gt n.Ea n.Dg (Aje K c k) m (t.fAt / c.Eg+j) t) (fun m j hj=> ?_) (fun m=> ?_)
   ·simp only[Int.add_zero]at this;exact this
   ·simp only[Ao0];rw[if_pos d0,d2,decide_eq_true (by omega),cond_true,Axk hK _ _ (by omega),Z0,Ac2,Bs9 d3 (by omega)]
   ·show Ao0 K c i _ _ _ _ _ _ _ _ _ _ _ _ _ _ (m+1) _ _=_;rw[Ao0,if_pos d0,d2,decide_eq_false (by omega),cond_false,Ag5 (by omega)]
 ·show Aje K c (k+1) _ _ _ _ _ _ _ _ _ _ _ _ _ _=_;rw[Aje,Agf (Z9 _),cond_false]
end
def wfi (x:Int):Prop:= -9223372036854775808≤x∧x≤9223372036854775807
def Azu (l:List Int):Prop:=(∀x∈l,wfi x)∧l.length*8≤140737488355327
def Blj (l:List Int):Prop:=(∀x∈l,0≤x∧x≤255)∧l.length≤140737488355327
def Bwh (t:A9):Prop:=wfi t.fAt∧wfi t.Vu∧wfi t.Vv
def A1h (l:List A9):Prop:=(∀x∈l,Bwh x)∧l.length*24≤140737488355327
structure Axn (n:Ba):Prop where
 st:wfi n.Hh
 gen:wfi n.C2
 ep:wfi n.Ly
 up:wfi n.fUp
 upEp:wfi n.Gq
 first:wfi n.Bt
 next:wfi n.Gr
 prev:wfi n.Gs
 chunks:Azu n.Ae
 cur:wfi n.Pq
 bump:wfi n.Gt
 things:A1h n.Ea
 tags:Azu n.Dg
def Aiq (l:List Ba):Prop:=(∀x∈l,Axn x)∧l.length*152≤140737488355327
structure Ay0 (x:Ax):Prop where
 slot:wfi x.A5
 first:wfi x.Bt
 tags:Azu x.Dg
 chunks:Azu x.Ae
 done:wfi x.Gu
def Bdo (l:List Ax):Prop:=(∀x∈l,Ay0 x)∧l.length*72≤140737488355327
structure B2x (c:Er):Prop where
 chunks:wfi c.Ae
 size:wfi c.Eg
 slots:wfi c.C0
 tax:wfi c.E9
 slice:wfi c.C1
 gens:wfi c.Eh
structure Ay7 (p:Dw):Prop where
 mem:Blj p.Fy
 st:Azu p.Hh
 own:Azu p.Fz
structure Aqq (w:Eb):Prop where
 c:B2x w.fC
 p:Ay7 w.fP
 l:Aiq w.fL
 q:Bdo w.fQ
 log:Azu w.Pr
theorem Amf:140737488355328≤maxLen:=by unfold maxLen;omega
theorem A2j{α:Type}(x:Option α):Afd x x=x:=by simp[Afd]
theorem Asf (K:Nat){l:List Int}(h:l.length*8≤140737488355327):Aen K l=some l:=by
 have hm:=Amf;unfold Aen;rw[Zg,if_pos ⟨by omega,by omega⟩]
 cases l with
 |nil=>exact A2j _
 |cons x l=>rfl
theorem Bcc (K:Nat){l:List Int}(h:l.length≤140737488355327):Arb K l=some l:=by
 have hm:=Amf;unfold Arb;rw[Zg,if_pos ⟨by omega,by omega⟩]
 cases l with
 |nil=>exact A2j _
 |cons x l=>rfl
theorem Bax (K:Nat){l:List A9}(h:l.length*24≤140737488355327):App K l=some l:=by
 have hm:=Amf;unfold App;rw[Zg,if_pos ⟨by omega,by omega⟩]
 cases l with
 |nil=>exact A2j _
 |cons x l=>rfl
theorem Bdp{α:Type}(N:Nat)(q:Nat->Bool)(g:Nat->α)(L:Nat->List α->Int->Option (List α))
  (hs: ∀n v (i:Nat),i<N->v.length≤i->L (n+1) v (i:Int)=bif q i then L n (v++[g i]) ((i+1:Nat):Int)else L n v ((i+1:Nat):Int))
  (he: ∀n v,L (n+1) v (N:Int)=some v):
  ∀(n i:Nat) (v:List α),i≤N->v.length≤i->N - i<n->L n v (i:Int)=some (v++(((List.range N).drop i).filter q).map g):=by
 intro n
 induction n with
 |zero=>intro i v _ _ h;omega
 |succ n ih=>
  intro i v hi hv hn;rcases F9 i N with h|h
  ·rw[hs n v i h hv,Z47 (by simpa using h),List.getElem_range,List.filter_cons]
   cases hq:q i with
   |true=>
    rw[cond_true,ih (i+1) _ h (by simp;omega) (by omega)]
    simp
   |false=>
    rw[cond_false,ih (i+1) _ h (by omega) (by omega)]
    simp
  ·obtain rfl:i=N:=by omega
   rw[he,Z48 (by simp)];simp
def Atq (p:Dw)(k:Int):List Int:=((List.range (min p.Hh.length p.Fz.length)).filter (fun i:Nat=>gt p.Hh i==1&&gt p.Fz i==k)).map (fun i:Nat=>(i:Int))
theorem Bcd (p:Dw)(k:Int):(Atq p k).length≤min p.Hh.length p.Fz.length:=by
 unfold Atq;rw[B8];exact To (List.length_filter_le _ _) (by simp)
theorem Az9 (p:Dw)(k:Int):(Atq p k).Pairwise (fun a b=>a<b):=by
 unfold Atq;rw[List.pairwise_map];exact(List.Pairwise.filter _ List.pairwise_lt_range).imp fun h=>by omega
theorem A2r{l:List Int}: ∀ {o:List Int},o.Nodup->(∀x∈o,x∈l)->o.length=l.length->o.Perm l:=by
 intro o
 induction o generalizing l with
 |nil=>intro _ _ h;cases l with
  |nil=>exact .nil
  |cons _ _=>simp at h
 |cons x o ih=>
  intro hn hs hl
  have hx:x∈l:=hs x (by simp)
  rw[List.nodup_cons]at hn
  have h2:o.Perm (l.erase x):=ih hn.2 (fun y hy=>by
   have hne:y≠x:=fun e=>hn.1 (e ▸ hy);exact(List.mem_erase_of_ne hne).2 (hs y (by simp[hy]))) (by rw[List.length_erase_of_mem hx];simp at hl;omega)
  exact(List.Perm.cons x h2).trans (List.perm_cons_erase hx).symm
def Az1 (p:Dw)(k:Int)(l:List Int):Bool:=(Atq p k).all (fun x=>l.contains x)&&((Atq p k).length:Int)==(l.length:Int)
theorem Bor (p:Dw)(k:Int)(l:List Int):decide (l.mergeSort (fun x y=>decide (x≤y))=Atq p k)=Az1 p k l:=by
 rw[Bool.eq_iff_iff];unfold Az1;simp only[decide_eq_true_eq,Z4,Z1,List.contains_iff_mem,beq_iff_eq]
 have hp:=List.mergeSort_perm l (fun x y=>decide (x≤y));constructor
 ·intro e;rw[e]at hp;exact⟨fun x hx=>hp.mem_iff.1 hx,by have:=hp.length_eq;omega⟩
 ·rintro⟨h1,h2⟩
  have hn:(Atq p k).Nodup:=(Az9 p k).imp fun h=>by omega
  have h3:=A2r hn h1 (by omega)
  refine List.Perm.eq_of_pairwise (le:=fun a b=>a≤b) (fun a b _ _ h1 h2=>by omega) ?_ ((Az9 p k).imp fun h=>by omega) (hp.trans h3.symm)
  have:=List.pairwise_mergeSort (le:=fun x y:Int=>decide (x≤y)) (fun a b c h1 h2=>by simp at *;omega) (fun a b=>by simp;omega) l
  exact this.imp fun h=>by simpa using h
theorem Be3{a b:List Int}(h:a.length=b.length):(List.range a.length).all (fun i=>gt a i==gt b i)=decide (a=b):=by
 rw[Bool.eq_iff_iff];simp only[Z1,List.mem_range,beq_iff_eq,decide_eq_true_eq];constructor
 ·intro h1;refine List.ext_getElem h fun i h2 h3=> ?_
  have:=h1 i h2
  rwa[Aej h2,Aej h3]at this
 ·rintro rfl _ _;rfl
section
variable {K:Nat} (hK:281474976710656≤K)
include hK
theorem Be4 (a b:List Int)(ha:a.length≤140737488355327):Aiz K a b=some (decide (a=b)):=by
 unfold Aiz
 by_cases h:a.length=b.length
 ·rw[show((a.length:Int) != (b.length:Int))=false by simp[h],cond_false,←Be3 h]
  rw[Apw hK a.length (by omega) (fun i=>gt a i==gt b i) (some true) (fun n i=>Aiy K a b n (a.length:Int) i) (fun n i hi=> ?_) (fun n=> ?_)]
  ·cases (List.range a.length).all _<;>rfl
  ·simp only[Aiy];rw[Afe hi,cond_true,if_pos (Ai8 hi),if_pos (Ai8 (show i<b.length by omega)),Ag5 (by omega),bne,Ac2]
  ·show Aiy K a b (n+1) _ _=_;rw[Aiy,Agf (Z9 _),cond_false]
 ·rw[As7 (by omega),cond_true,decide_eq_false (fun e=>h (by rw[e]))]
theorem A9j (p:Dw)(k:Int)(h1:p.Hh.length*8≤140737488355327):Au8 K p k=some (Atq p k):=by
 have hm:=Amf;unfold Au8
 have:=Bdp (min p.Hh.length p.Fz.length) (fun i:Nat=>gt p.Hh i==1&&gt p.Fz i==k) (fun i:Nat=>(i:Int)) (fun n v i=>Alf K k n v i p.Fy p.Hh p.Fz) (fun n v i hi hv=> ?_) (fun n v=> ?_) K 0 [] (Z21 _) (Z9 _) (by omega)
 ·simpa[Atq]using this
 ·have h2:(v++([(i:Int)]:List Int)).length=v.length+1:=by simp
  simp only[Alf,Arh];rw[Afe (by omega),Afe (by omega),cond_true,cond_true,if_pos (Ai8 (by omega)),if_pos (Ai8 (by omega)),Ag5 (by omega),if_pos ⟨by rw[h2];omega,by rw[h2];omega⟩]
  cases gt p.Hh (i:Int)==1<;>cases gt p.Fz (i:Int)==k<;>rfl
 ·show Alf K k (n+1) v _ _ _ _=_;rw[Alf];rcases Nat.le_total p.Hh.length p.Fz.length with h|h
  ·rw[Nat.min_eq_left h,Agf (Z9 _),cond_false]
  ·rw[Nat.min_eq_right h,Agf (Z9 p.Fz.length),cond_false,cc]
theorem A9k (p:Dw)(k:Int)(h1:p.Hh.length*8≤140737488355327):Ave K p k=some (Atq p k):=by
 have hm:=Amf;unfold Ave
 have e:Aaf (p.Hh.length:Int) (p.Fz.length:Int)=((min p.Hh.length p.Fz.length:Nat):Int):=by unfold Aaf;split<;>omega
 rw[e]
 have:=Bdp (min p.Hh.length p.Fz.length) (fun i:Nat=>gt p.Hh i==1&&gt p.Fz i==k) (fun i:Nat=>(i:Int)) (fun n v i=>Alh K k n v ((min p.Hh.length p.Fz.length:Nat):Int) i p.Fy p.Hh p.Fz) (fun n v i hi hv=> ?_) (fun n v=> ?_) K 0 [] (Z21 _) (Z9 _) (by omega)
 ·simpa[Atq]using this
 ·have h2:(v++([(i:Int)]:List Int)).length=v.length+1:=by simp
  simp only[Alh,Arm];rw[Afe hi,cond_true,if_pos (Ai8 (by omega)),if_pos (Ai8 (by omega)),Ag5 (by omega),if_pos ⟨by rw[h2];omega,by rw[h2];omega⟩]
  cases gt p.Hh (i:Int)==1<;>cases gt p.Fz (i:Int)==k<;>rfl
 ·show Alh K k (n+1) v _ _ _ _ _=_;rw[Alh,Agf (Z9 _),cond_false]
theorem A5q (w:Eb)(k:Nat)(hk:k<w.fL.length)(h1:w.fP.Hh.length*8≤140737488355327)(h2:(gt w.fL k).Ae.length≤140737488355327):Atg K w k=some (Az1 w.fP k (gt w.fL k).Ae):=by
 unfold Atg;rw[A9j hK _ _ h1,Z0]
 have hl:=Bcd w.fP k;rw[Ar1 hK (Atq w.fP k) (by omega) (fun x=>(gt w.fL k).Ae.contains x) (some (((Atq w.fP k).length:Int)==((gt w.fL k).Ae.length:Int))) (fun n i=>Anl K k (Atq w.fP k) n i w.fC.Ae w.fC.Eg w.fC.C0 w.fC.E9 w.fC.C1 w.fC.Eh w.fP.Fy w.fP.Hh w.fP.Fz w.fL w.fQ w.Pr) (fun n i hi=> ?_) (fun n=> ?_)]
 ·rw[Ai5];rfl
 ·simp only[Anl];rw[Afe hi,cond_true,if_pos (Ai8 hk),if_pos (Ai8 hi),Axk hK _ _ (by omega),Z0,Ac2,Ag5 (by omega),Aej hi]
 ·show Anl K k (Atq w.fP k) (n+1) _ _ _ _ _ _ _ _ _ _ _ _ _=_;rw[Anl,Agf (Z9 _),cond_false,if_pos (Ai8 hk)]
end
def Aw1 (c:Er)(n:Ba):A9:=A9.mk ((n.Pq - 1)*c.Eg+n.Gt) (c.Eg - n.Gt) 0
def A5r (c:Er)(mem:List Int)(n:Ba):Bool:=
 n.Pq==0||(Ayl ((mem.drop (Aw1 c n).fAt.toNat).take (Aw1 c n).Vu.toNat)&&n.Ea.all (fun t=>Apx t (Aw1 c n)))
theorem Be5{c:Er}{n:Ba}(h:Aw0 c n=true)(h1:n.Hh=1):Ap5 c=true∧A6z c n=true:=by
 unfold Aw0 at h;simp only[Z4]at h;refine⟨h.1,?_⟩
 have:=h.2.2.2;rw[h1]at this;exact this
theorem Be6{c:Er}{n:Ba}(h:Aw0 c n=true)(h1:n.Hh≠1):A5o n=true:=by
 unfold Aw0 at h;simp only[Z4]at h
 have:=h.2.2.2;rw[As7 h1]at this;exact this
theorem Bwi{c:Er}{n:Ba}(hw:Axn n)(h:Aw0 c n=true)(h1:n.Pq≠0):n.Hh=1∧1≤n.Pq∧n.Pq≤c.Ae∧0≤n.Gt∧n.Gt≤c.Eg:=by
 by_cases h2:n.Hh=1
 ·refine⟨h2,?_⟩;obtain⟨hc,hl⟩:=Be5 h h2;obtain⟨b1,_⟩:=Ae1 hc;unfold A6z at hl;simp only[Z4]at hl
  have hd:=hl.2.2.1.1
  have hcu:=hl.2.2.1.2;unfold Bca at hcu;rw[Aqo h1,cond_false,Z4,List.contains_iff_mem,Ax5]at hcu;obtain⟨i,hi,e⟩:=List.mem_iff_getElem.1 hcu.1;unfold Avu at hd;rw[Z1]at hd
  have:=hd i (by simpa using hi)
  rw[Z4,Aej hi,e,Ax5]at this
  have h3:=this.1;obtain⟨w1,w2⟩:=hw.cur;unfold Aob at h3;rw[IntKind.wrap_i64]at h3;refine⟨by omega,by omega,hcu.2.1,hcu.2.2⟩
 ·have:=Be6 h h2;unfold A5o at this;simp only[Z4,beq_iff_eq]at this;exact absurd this.2.2.2.2.2.2.2.1 h1
theorem Bdq{c:Er}{p:Dw}{n:Ba}(hp:Auz c p=true)(hw:Axn n)(h:Aw0 c n=true)(h1:n.Pq≠0):
  Aoa .i64 (Aoc .i64 (Aob .i64 n.Pq 1) c.Eg) n.Gt=(Aw1 c n).fAt∧Aob .i64 c.Eg n.Gt=(Aw1 c n).Vu∧Aoc .i64 n.Pq c.Eg=(Aw1 c n).fAt+(Aw1 c n).Vu∧Axm (Aw1 c n)∧(Aw1 c n).fAt+(Aw1 c n).Vu≤(p.Fy.length:Int):=by
 obtain⟨h2,c1,c2,c3,c4⟩:=Bwi hw h h1;obtain⟨hc,hm,_⟩:=Av3 hp;obtain⟨b1,b2,_⟩:=Ae1 hc
 have m1:=A1d (a:=n.Pq - 1) (b:=c.Eg) (m:=11) (n:=16) (by omega) (by omega) (by omega) b2.2
 have e2:n.Pq*c.Eg=(n.Pq - 1)*c.Eg+c.Eg:=by rw[Int.sub_mul,Int.one_mul];omega
 have m2:n.Pq*c.Eg≤c.Ae*c.Eg:=Int.mul_le_mul_of_nonneg_right (by omega) (by omega)
 unfold Aw1 Axm Aoa Aob Aoc;simp only;rw[Ag4 (n:=n.Pq - 1) (by omega) (by omega),Ag4 (n:=(n.Pq - 1)*c.Eg) (by omega) (by omega),Ag4 (n:=(n.Pq - 1)*c.Eg+n.Gt) (by omega) (by omega),Ag4 (n:=c.Eg - n.Gt) (by omega) (by omega),Ag4 (n:=n.Pq*c.Eg) (by omega) (by omega)]
 refine⟨rfl,rfl,by omega,⟨by omega,by omega,by omega,by omega⟩,by omega⟩
theorem A5s{c:Er}{l:List A9}{ch:List Int}(h:l.all (Aym c ch)=true): ∀t∈l,Axm t∧1≤t.Vu:=by
 intro t ht;rw[Z1]at h
 have:=h t ht;unfold Aym at this;rw[Z4]at this;obtain⟨h1,h2⟩:=Bav this.1;exact⟨h1,h2.2.1⟩
def A5t (w:Eb)(k:Nat):Bool:=
 Aw0 w.fC (gt w.fL k)&&(Az1 w.fP k (gt w.fL k).Ae&&((gt w.fL k).Ea.all (Aym w.fC (gt w.fL k).Ae)&&(Av4 (gt w.fL k).Ea&&A5r w.fC w.fP.Fy (gt w.fL k))))
section
variable {K:Nat} (hK:281474976710656≤K)
include hK
theorem A0l{l:List Int}(h:Azu l):l.length≤140737488355327:=by have:=h.2;omega
theorem Bll{l:List A9}(h:A1h l):l.length≤140737488355327:=by have:=h.2;omega
theorem Bce (w:Eb)(k:Nat)(hk:k<w.fL.length)(hp:Auz w.fC w.fP=true)(hw:Axn (gt w.fL k))(hn:Aw0 w.fC (gt w.fL k)=true)(hs: ∀t∈(gt w.fL k).Ea,Axm t∧1≤t.Vu):Aub K w k=some (A5r w.fC w.fP.Fy (gt w.fL k)):=by
 unfold Aub;rw[if_pos (Ai8 hk)];unfold A5r
 by_cases h1:(gt w.fL k).Pq=0
 ·rw[h1];rfl
 ·rw[Aqo h1,cond_false];obtain⟨e1,e2,e3,⟨s1,s2,s3,s4⟩,s5⟩:=Bdq hp hw hn h1;rw[e1,e3];generalize hr:Aw1 w.fC (gt w.fL k)=r at *;rcases (show r.Vu=0∨1≤r.Vu by omega)with h2|h2
  ·rw[decide_eq_true (show r.fAt≥r.fAt+r.Vu by omega),cond_true,h2]
   have:(gt w.fL k).Ea.all (fun t=>Apx t r)=true:=by
    rw[Z1];intro t _;exact decide_eq_true (.inr (.inl (by omega)))
   rw[this];simp[Ayl]
  ·rw[decide_eq_false (show ¬r.fAt≥r.fAt+r.Vu by omega),cond_false]
   have hlt:=Bll hK hw.things
   have hz:List.take (r.fAt+r.Vu - r.fAt).toNat (List.drop r.fAt.toNat w.fP.Fy)=List.take r.Vu.toNat (List.drop r.fAt.toNat w.fP.Fy):=by rw[show r.fAt+r.Vu - r.fAt=r.Vu by omega]
   rw[Ar1 hK (gt w.fL k).Ea (by omega) (fun t=>Apx t r) (some (Ayl (List.take r.Vu.toNat (List.drop r.fAt.toNat w.fP.Fy)))) (fun m i=>Al6 K m r.fAt (r.fAt+r.Vu) i (gt w.fL k).Hh (gt w.fL k).C2 (gt w.fL k).Ly (gt w.fL k).fUp (gt w.fL k).Gq (gt w.fL k).Bt (gt w.fL k).Gr (gt w.fL k).Gs (gt w.fL k).Ae (gt w.fL k).Pq (gt w.fL k).Gt (gt w.fL k).Ea (gt w.fL k).Dg w.fC.Ae w.fC.Eg w.fC.C0 w.fC.E9 w.fC.C1 w.fC.Eh w.fP.Fy w.fP.Hh w.fP.Fz w.fL w.fQ w.Pr) (fun m i hi=> ?_) (fun m=> ?_)]
   ·rw[Ai5,Bool.and_comm];rfl
   ·simp only[Al6,Asj];obtain⟨⟨t1,t2,t3,t4⟩,t5⟩:=hs _ (Apl hi);rw[Afe hi,cond_true,if_pos (Ai8 hi),Ag5 (by omega),←Aej hi]
    generalize gt (gt w.fL k).Ea i=t at *;unfold Aoa;rw[Ag4 (n:=t.fAt+t.Vu) (by omega) (by omega)]
    unfold Apx
    by_cases g1:t.fAt<r.fAt+r.Vu
    ·by_cases g2:t.fAt+t.Vu>r.fAt
     ·rw[decide_eq_true g1,decide_eq_true g2,decide_eq_false (by omega)];rfl
     ·rw[decide_eq_true g1,decide_eq_false g2,decide_eq_true (by omega)];rfl
    ·rw[decide_eq_false g1,decide_eq_true (show t.Vu≤0∨r.Vu≤0∨t.fAt+t.Vu≤r.fAt∨r.fAt+r.Vu≤t.fAt by omega)];rfl
   ·show Al6 K (m+1) _ _ _ _ _ _ _ _ _ _ _ _ _ _ _ _ _ _ _ _ _ _ _ _ _ _ _ _=_;rw[Al6,Agf (Z9 _),cond_false,if_pos ⟨s1,by omega,s5⟩,Azs hK _ (by simp;omega),hz,Z0]
theorem Blm (l:List Int)(h:Azu l):Eu K l=some (l.mergeSort fun x y=>decide (x≤y)):=by
 have:=h.2;unfold Eu;rw[if_pos (by omega)]
theorem A9l (w:Eb)(hw:Aqq w)(hp:Auz w.fC w.fP=true):Aq2 K w=some ((List.range w.fL.length).all (A5t w)):=by
 unfold Aq2
 have hlL:=hw.l.2;rw[Apw hK w.fL.length (by omega) (A5t w) (some true) (fun m i=>Ahe K m w.fL (w.fL.length:Int) i w.fC.Ae w.fC.Eg w.fC.C0 w.fC.E9 w.fC.C1 w.fC.Eh w.fP.Fy w.fP.Hh w.fP.Fz w.fL w.fQ w.Pr) (fun m k hk=> ?_) (fun m=> ?_)]
 ·cases (List.range w.fL.length).all _<;>rfl
 ·simp only[Ahe,Ap7];rw[show Er.mk w.fC.Ae w.fC.Eg w.fC.C0 w.fC.E9 w.fC.C1 w.fC.Eh=w.fC from rfl,show Dw.mk w.fP.Fy w.fP.Hh w.fP.Fz=w.fP from rfl]
  have hn:=hw.l.1 _ (Apl hk);unfold A5t;generalize hN:gt w.fL k=n at*
  have l1:=A0l hK hn.chunks
  have l2:=Bll hK hn.things
  have l3:=A0l hK hn.tags;rw[Afe hk,cond_true,if_pos (Ai8 hk),Asf K hn.chunks.2,Z0,Blm hK _ hn.chunks,Z0,if_pos (List.length_mergeSort _),Bau hK _ _ l1 l2 l3,Z0,A9k hK _ _ hw.p.st.2,Ag5 (by omega)]
  simp only[Z0];rw[Be4 hK _ _ (by rw[List.length_mergeSort];exact l1),Bor,A6k hK _ _ l1 l2]
  simp only[Z0];cases hb:Aw0 w.fC n with
  |false=>rfl
  |true=>
  cases Az1 w.fP k n.Ae with
  |false=>rfl
  |true=>
  cases hi:n.Ea.all (Aym w.fC n.Ae)with
  |false=>rfl
  |true=>
  have hs:=A5s hi;rw[A6j hK _ l2 (fun t ht=>(hs t ht).1)];simp only[Z0,cond_true,Ac2,Z30];cases Av4 n.Ea with
  |false=>rfl
  |true=>
  simp only[cond_true,Z30];unfold A5r
  by_cases h1:n.Pq=0
  ·rw[h1];rfl
  ·rw[Aqo h1,cond_false,Z52];obtain⟨e1,e2,e3,s,s5⟩:=Bdq hp hn hb h1
   have hmk:A9.mk (Aw1 w.fC n).fAt (Aw1 w.fC n).Vu 0=Aw1 w.fC n:=rfl;rw[e1,e2];simp only[hmk];generalize hr:Aw1 w.fC n=r at *;obtain⟨s1,s2,s3,s4⟩:=s
   have e4:Aoa .i64 r.fAt r.Vu=r.fAt+r.Vu:=by unfold Aoa;rw[Ag4 (by omega) (by omega)]
   have hC:Ag1 K n.Ea r=some (n.Ea.any (fun t=> !Apx t r)):=
    Az0 hK n.Ea (by omega) (fun t=>Ap6 K t r) (fun t=> !Apx t r) (fun x hx=>by
     unfold Ap6;rw[A5p K (hs _ hx).1 ⟨s1,s2,s3,s4⟩];rfl) (Aeh K n.Ea r) (fun n N i=>rfl)
   rw[e4,if_pos ⟨s1,by omega,s5⟩,show r.fAt+r.Vu - r.fAt=r.Vu by omega,Azt hK _ (by simp;omega),hC,List.any_eq_not_all_not]
   simp only[Z0,Bool.not_not];cases Ayl (List.take r.Vu.toNat (List.drop r.fAt.toNat w.fP.Fy))<;>cases n.Ea.all (fun t=>Apx t r)<;>rfl
 ·show Ahe K (m+1) _ _ _ _ _ _ _ _ _ _ _ _ _ _ _=_;rw[Ahe,Agf (Z9 _),cond_false]
end
section
variable {K:Nat} (hK:281474976710656≤K)
theorem Aek{l:List Ba}(w:Aiq l):l.length≤140737488355327:=by have:=w.2;omega
theorem A1i (K:Nat){α:Type}{l:List α}(hl:l.length≤140737488355327)(k:Int):Abk K k 0 (Aob .i64 (l.length:Int) 1)=some (decide (0≤k∧k<(l.length:Int))):=by
 unfold Abk Aob;rw[Ag4 (by omega) (by omega)]
 by_cases h:(0:Int)≤k
 ·rw[decide_eq_true (show k≥0 from h)]
  simp only[cond_true,Z7,decide_eq_decide];omega
 ·rw[decide_eq_false (show ¬k≥0 from h)]
  simp only[cond_false,Z7];exact(decide_eq_false (by omega)).symm
theorem Be7 (K:Nat){α:Type}{l:List α}(hl:l.length≤140737488355327)(k:Int):Ac1 K k 0 (Aob .i64 (l.length:Int) 1)=some (decide (0≤k∧k<(l.length:Int))):=A1i K hl k
theorem Ayn (K:Nat){l:List Ba}(hl:l.length≤140737488355327)(k:Int):Anh K l k=some (decide (0≤k∧k<(l.length:Int))):=by
 unfold Anh;rw[Be7 K hl];rfl
theorem A0m (K:Nat)(l:List Ba)(k:Int):Aov K l k=some (decide (1≤k∧k≤(l.length:Int))):=by
 unfold Aov
 by_cases h:(1:Int)≤k
 ·rw[decide_eq_true (show k≥1 from h)]
  simp only[cond_true,Z7,decide_eq_decide];omega
 ·rw[decide_eq_false (show ¬k≥1 from h)]
  simp only[cond_false,Z7];exact(decide_eq_false (by omega)).symm
def Aqr (l:List Ba)(h:Ct):Int:=if(0≤h.A5∧h.A5<(l.length:Int))∧(gt l h.A5).Hh=1∧(gt l h.A5).C2=h.C2 then h.A5 else -1
theorem Ay1 (K:Nat){l:List Ba}(hl:l.length≤140737488355327)(h:Ct):Ari K l h=some (Aqr l h):=by
 unfold Ari Aqr;rw[A1i K hl];simp only[Z0]
 by_cases hs:0≤h.A5∧h.A5<(l.length:Int)
 ·rw[decide_eq_true hs];simp only[cond_true,if_pos hs]
  by_cases h1:(gt l h.A5).Hh=1
  ·by_cases h2:(gt l h.A5).C2=h.C2
   ·rw[if_pos ⟨hs,h1,h2⟩];simp[h1,h2]
   ·rw[if_neg (fun h=>h2 h.2.2),As7 h2];simp[h1]
  ·rw[if_neg (fun h=>h1 h.2.1),As7 h1];rfl
 ·rw[decide_eq_false hs];simp only[cond_false];rw[if_neg (fun h=>hs h.1)]
theorem A1j (K:Nat){l:List Ba}(hl:l.length≤140737488355327)(h:Ct):As1 K l h=some (Aqr l h):=by
 rw[←Ay1 K hl];unfold Ari As1;rw[A1i K hl,Ayn K hl]
theorem A2k{l:List Ba}{h:Ct}(h0: ¬Aqr l h<0):0≤Aqr l h∧Aqr l h<(l.length:Int):=by
 unfold Aqr at *;split at h0
 ·rename_i h1;rw[if_pos h1];exact h1.1
 ·omega
def Apf (l:List Ba):Nat->Int->List Int
 |0,_=>[]
 |n+1,k=>if 0≤k∧k<(l.length:Int)then k::Apf l n (Aob .i64 (gt l k).fUp 1)else []
theorem A9m{l:List Ba}: ∀(n:Nat) (k:Int),∀x∈Apf l n k,0≤x∧x<(l.length:Int):=by
 intro n
 induction n with
 |zero=>intro k x hx;cases hx
 |succ n ih=>
  intro k x hx;unfold Apf at hx;split at hx
  ·rename_i h;rcases D6.1 hx with rfl|hx
   ·exact h
   ·exact ih _ x hx
  ·cases hx
theorem A5u{l:List Ba}: ∀(n:Nat) (k:Int),(Apf l n k).length≤n:=by
 intro n
 induction n with
 |zero=>intro k;exact Z9 _
 |succ n ih=>
  intro k;unfold Apf;split
  ·simp only[Y9];have:=ih (Aob .i64 (gt l k).fUp 1);omega
  ·exact Z21 _
def Bcf (l:List Ba):List Int->Prop
 |x::y::r=>Aob .i64 (gt l x).fUp 1=y∧Bcf l (y::r)
 |_=>True
theorem Bcg{l:List Ba}: ∀(n:Nat) (k:Int),Bcf l (Apf l n k):=by
 intro n
 induction n with
 |zero=>intro k;trivial
 |succ n ih=>
  intro k;unfold Apf;split
  ·have h1:=ih (Aob .i64 (gt l k).fUp 1);cases n with
   |zero=>trivial
   |succ n=>
    rw[Apf]at h1 ⊢;split at h1
    ·rename_i h2;rw[if_pos h2];exact⟨rfl,h1⟩
    ·rename_i h2;rw[if_neg h2];trivial
  ·trivial
theorem Be8{l:List Ba}(w:Aiq l): ∀(n:Nat) (k:Int) (v:List Int),-9223372036854775808≤k∧k≤9223372036854775807->v.length≤l.length->l.length - v.length<n->Atw K l n k v=some (v++Apf l (l.length - v.length) k):=by
 have hb:l.length*152≤140737488355327:=w.2;intro n
 induction n with
 |zero=>intro k v _ _ h;omega
 |succ n ih=>
  intro k v hk hv hn;rw[Atw,A0m];simp only[Z0]
  have e:decide (1≤Aoa .i64 k 1∧Aoa .i64 k 1≤(l.length:Int))=decide (0≤k∧k<(l.length:Int)):=by
   rw[decide_eq_decide];unfold Aoa;rw[IntKind.wrap_i64];omega
  rw[e]
  by_cases hs:0≤k∧k<(l.length:Int)
  ·rw[decide_eq_true hs];simp only[cond_true];rcases F9 v.length l.length with h|h
   ·rw[Afe h];simp only[cond_true]
    have hl2:(v++[k]).length=v.length+1:=by simp
    rw[if_pos ⟨by rw[hl2];omega,by rw[hl2];unfold maxLen;omega⟩,if_pos hs,ih (Aob .i64 (gt l k).fUp 1) _ (Blh _) (by rw[hl2];omega) (by rw[hl2];omega),hl2]
    obtain⟨m,hm⟩: ∃m,l.length - v.length=m+1:=⟨l.length - v.length - 1,by omega⟩
    rw[hm,Apf,if_pos hs,show l.length - (v.length+1)=m from by omega]
    simp
   ·rw[Agf h];rw[show l.length - v.length=0 from by omega]
    simp[Apf]
  ·rw[decide_eq_false hs]
   have:Apf l (l.length - v.length) k=[]:=by
    cases l.length - v.length with
    |zero=>rfl
    |succ m=>rw[Apf,if_neg hs]
   rw[this];simp
theorem Be9{l:List Ba}(w:Aiq l): ∀(n:Nat) (k:Int) (v:List Int),v.length≤l.length->l.length - v.length<n->Atz K l n k v=some (v++Apf l (l.length - v.length) k):=by
 have hb:l.length*152≤140737488355327:=w.2;intro n
 induction n with
 |zero=>intro k v _ h;omega
 |succ n ih=>
  intro k v hv hn;rw[Atz,Ayn K (by omega)]
  simp only[Z0]
  by_cases hs:0≤k∧k<(l.length:Int)
  ·rw[decide_eq_true hs];simp only[cond_true];rcases F9 v.length l.length with h|h
   ·rw[Afe h];simp only[cond_true]
    have hl2:(v++[k]).length=v.length+1:=by simp
    rw[if_pos ⟨by rw[hl2];omega,by rw[hl2];unfold maxLen;omega⟩,if_pos hs,ih _ _ (by rw[hl2];omega) (by rw[hl2];omega),hl2]
    obtain⟨m,hm⟩: ∃m,l.length - v.length=m+1:=⟨l.length - v.length - 1,by omega⟩
    rw[hm,Apf,if_pos hs,show l.length - (v.length+1)=m from by omega]
    simp
   ·rw[Agf h];rw[show l.length - v.length=0 from by omega]
    simp[Apf]
  ·rw[decide_eq_false hs]
   have:Apf l (l.length - v.length) k=[]:=by
    cases l.length - v.length with
    |zero=>rfl
    |succ m=>rw[Apf,if_neg hs]
   rw[this];simp
include hK in
theorem A0n{l:List Ba}(w:Aiq l)(k:Int)(hk: -9223372036854775808≤k∧k≤9223372036854775807):Auu K l k=some (Apf l l.length k):=by
 have hb:=Aek w;unfold Auu
 have:=Be8 (K:=K) w K k [] hk (Z21 _) (by simp;omega)
 simpa using this
include hK in
theorem A0o{l:List Ba}(w:Aiq l)(k:Int):Auw K l k=some (Apf l l.length k):=by
 have hb:=Aek w;unfold Auw
 have:=Be9 (K:=K) w K k [] (Z21 _) (by simp;omega)
 simpa using this
def Av5 (l:List Ba):List Int->Bool
 |[]=>true
 |[x]=>(gt l x).Hh==1
 |x::y::r=>((gt l x).Hh==1)&&((gt l x).Gq==(gt l y).Ly)&&Av5 l (y::r)
def A5v (l:List Ba)(way:List Int):Bool:=if 0<way.length then(gt l (gt way ((way.length - 1:Nat):Int))).fUp==0 else false
theorem Bay{l:List Ba}{way:List Int}(hin: ∀x∈way,0≤x∧x<(l.length:Int))(hlen:way.length≤140737488355327):
  (bif (decide ((way.length:Int)>0))then(if(0:Int)≤(Aob .i64 (way.length:Int) 1)∧(Aob .i64 (way.length:Int) 1)<(way.length:Int)then(if(0:Int)≤(gt way (Aob .i64 (way.length:Int) 1))∧(gt way (Aob .i64 (way.length:Int) 1))<(l.length:Int)then some (((gt l (gt way (Aob .i64 (way.length:Int) 1))).fUp)==0)else none)else none)else some false)=some (A5v l way):=by
 unfold A5v;rcases Qs way.length with h|h
 ·rw[decide_eq_false (show ¬(way.length:Int)>0 by omega)]
  simp only[cond_false];rw[if_neg (show ¬0<way.length by omega)]
 ·rw[if_pos h,decide_eq_true (by omega)]
  simp only[cond_true]
  have e:Aob .i64 (way.length:Int) 1=((way.length - 1:Nat):Int):=by unfold Aob;rw[Ag4 (by omega) (by omega)];omega
  rw[e,if_pos ⟨by omega,by omega⟩,if_pos (hin _ (Apl (by omega)))]
theorem Avv{way:List Int}{i:Nat}(h:i<way.length):way.drop i=way[i]::way.drop (i+1):=by
 rw[Z47 h]
theorem Bch{l:List Ba}{way:List Int}(hin: ∀x∈way,0≤x∧x<(l.length:Int))(hlen:way.length≤140737488355327): ∀(n i:Nat),i≤way.length->way.length - i<n->Arr K l way n way (way.length:Int) (i:Int)=some (Av5 l (way.drop i)&&A5v l way):=by
 intro n
 induction n with
 |zero=>intro i _ h;omega
 |succ n ih=>
  intro i hi hn;rw[Arr];unfold Avk;rcases F9 i way.length with h|h
  ·rw[Afe h];simp only[cond_true];rw[if_pos ⟨by omega,by omega⟩,if_pos (hin _ (Apl h)),Avv h,Ag5 (by omega),←Aej h]
   rcases F9 (i+1) way.length with h2|h2
   ·rw[Afe h2,Avv h2,←Aej h2];simp only[cond_true];rw[if_pos (hin _ (Apl h)),if_pos ⟨by omega,by omega⟩,if_pos (hin _ (Apl h2)),ih (i+1) h (by omega),Avv h2,←Aej h2,Av5]
    generalize gt way ((i+1:Nat):Int)=y;generalize gt way (i:Int)=x
    by_cases c1:(gt l x).Hh=1
    ·by_cases c2:(gt l x).Gq=(gt l y).Ly
     ·simp[c1,c2]
     ·rw[As7 c2,Aqo c2];simp[c1]
    ·rw[As7 c1,Aqo c1];simp
   ·rw[Agf h2,ih (i+1) h (by omega),show way.drop (i+1)=[] from Z48 h2]
    simp only[cond_false,Av5]
    by_cases c1:(gt l (gt way (i:Int))).Hh=1
    ·simp[c1]
    ·rw[As7 c1,Aqo c1];simp
  ·rw[Agf h,show way.drop i=[] from Z48 h]
   simp only[cond_false,Av5,Z30];exact Bay hin hlen
theorem Bos{l:List Ba}(w:Aiq l){x y:Int}(hx:0≤x∧x<(l.length:Int))(hy:0≤y∧y<(l.length:Int))(h:Aob .i64 (gt l x).fUp 1=y):Aqy K l x=some (((gt l y).Hh==1)&&((gt l y).Ly==(gt l x).Gq)):=by
 have hl:=Aek w;unfold Aqy;rw[if_pos hx,A0m];simp only[Z0];obtain⟨hr1,hr2⟩:=(w.1 _ (Axb hx.1 hx.2)).up
 have hp:1≤(gt l x).fUp∧(gt l x).fUp≤(l.length:Int):=by
  unfold Aob at h;rw[IntKind.wrap_i64]at h;omega
 rw[decide_eq_true hp,h];simp only[cond_true];rw[if_pos hy,if_pos hy,if_pos hx];cases (gt l y).Hh==1<;>rfl
theorem Baz{l:List Ba}{y:Int}{r:List Int}(h:(gt l y).Hh≠1):Av5 l (y::r)=false:=by
 cases r with
 |nil=>simp[Av5,h]
 |cons z r=>simp[Av5,h]
theorem Bci{l:List Ba}(w:Aiq l){way:List Int}(hin: ∀x∈way,0≤x∧x<(l.length:Int))(hlen:way.length≤140737488355327): ∀(n i:Nat),Bcf l (way.drop i)->i≤way.length->way.length - i<n->Arj K l way n (i:Int)=some (Av5 l (way.drop i)&&A5v l way):=by
 intro n
 induction n with
 |zero=>intro i _ _ h;omega
 |succ n ih=>
  intro i hch hi hn;rw[Arj];unfold Ava;rcases F9 i way.length with h|h
  ·rw[Afe h];simp only[cond_true];rw[Avv h]at hch;rw[if_pos ⟨by omega,by omega⟩,if_pos (hin _ (Apl h)),Avv h,Ag5 (by omega),←Aej h]
   rcases F9 (i+1) way.length with h2|h2
   ·rw[Avv h2]at hch
    have hc1:=hch.1;rw[←Aej h,←Aej h2]at hc1;rw[Afe h2,Avv h2,←Aej h2];simp only[cond_true];rw[if_pos ⟨by omega,by omega⟩,Bos w (hin _ (Apl h)) (hin _ (Apl h2)) hc1,ih (i+1) (by rw[Avv h2];exact hch.2) h (by omega),Avv h2,←Aej h2,Av5]
    generalize gt way ((i+1:Nat):Int)=y;generalize gt way (i:Int)=x
    by_cases c1:(gt l x).Hh=1
    ·by_cases c3:(gt l y).Hh=1
     ·by_cases c2:(gt l x).Gq=(gt l y).Ly
      ·simp[c1,c2,c3]
      ·have c2': ¬(gt l y).Ly=(gt l x).Gq:=fun e=>c2 e.symm;rw[Aqo c2,Aqo c2'];simp[c1]
     ·rw[Baz c3,Aqo c3];simp[c1]
    ·rw[As7 c1,Aqo c1];simp
   ·rw[Agf h2,ih (i+1) (by rw[Z48 h2];trivial) h (by omega),show way.drop (i+1)=[] from Z48 h2]
    simp only[cond_false,Av5]
    by_cases c1:(gt l (gt way (i:Int))).Hh=1
    ·simp[c1]
    ·rw[As7 c1,Aqo c1];simp
  ·rw[Agf h,show way.drop i=[] from Z48 h]
   simp only[cond_false,Av5,Z30];exact Bay hin hlen
def A0p (l:List Ba)(k:Int):Bool:=Av5 l (Apf l l.length k)&&A5v l (Apf l l.length k)
include hK in
theorem Ba0{l:List Ba}(w:Aiq l)(k:Int)(hk: -9223372036854775808≤k∧k≤9223372036854775807):Aw6 K l k=some (A0p l k):=by
 have hb:=Aek w
 have hr:=A5u (l:=l) l.length k;unfold Aw6;rw[A0n hK w k hk];exact Bci w (A9m _ _) (by omega) K 0 (Bcg _ _) (Z21 _) (by omega)
include hK in
theorem Ba1{l:List Ba}(w:Aiq l)(k:Int):Aw9 K l k=some (A0p l k):=by
 have hb:=Aek w
 have hr:=A5u (l:=l) l.length k;unfold Aw9;rw[A0o hK w k];exact Bch (A9m _ _) (by omega) K 0 (Z21 _) (by omega)
def Avw (h:Ct):Bool:=bif decide (h.A5≥0)then decide (h.C2≥1)else false
theorem A6m (K:Nat)(h:Ct):Auc K h=some (Avw h):=by
 unfold Auc Avw;cases decide (h.A5≥0)<;>rfl
theorem A6n (K:Nat)(h:Ct):Auk K h=some (Avw h):=by
 unfold Auk Avw;cases decide (h.A5≥0)<;>rfl
def Ax7 (l:List Ba)(h:Ct):Int×Int:=bif Avw h then(bif decide (Aqr l h<0)then(-1,2)else(bif A0p l (Aqr l h)then(Aqr l h,0)else(-1,2)))else(-1,1)
include hK in
theorem A6o{w:Eb}(hw:Aiq w.fL)(h:Ct):Aud K w h=some (Ax7 w.fL h):=by
 have hb:=Aek hw;unfold Aud Ax7;rw[A6m,Ay1 K hb];simp only[Z0];cases Avw h with
 |false=>rfl
 |true=>
  simp only[cond_true];cases e:decide (Aqr w.fL h<0)with
  |true=>rfl
  |false=>
   have h1:=A2k (of_decide_eq_false e);simp only[cond_false];rw[Ba0 hK hw _ ⟨by omega,by omega⟩]
   simp only[Z0];cases A0p w.fL (Aqr w.fL h)<;>rfl
include hK in
theorem A6p{w:Eb}(hw:Aiq w.fL)(h:Ct):Aul K w h=some (Ax7 w.fL h):=by
 have hb:=Aek hw;unfold Aul Ax7;rw[A6n,A1j K hb];simp only[Z0];cases Avw h with
 |false=>rfl
 |true=>
  simp only[cond_true];cases e:decide (Aqr w.fL h<0)with
  |true=>rfl
  |false=>
   simp only[cond_false];rw[Ba1 hK hw];simp only[Z0];cases A0p w.fL (Aqr w.fL h)<;>rfl
theorem Bln{l:List Ba}{h:Ct}(h0:(Ax7 l h).2=0):0≤(Ax7 l h).1∧(Ax7 l h).1<(l.length:Int):=by
 unfold Ax7 at *;cases e1:Avw h with
 |false=>rw[e1]at h0;simp at h0
 |true=>
  rw[e1]at h0;simp only[cond_true]at *;cases e:decide (Aqr l h<0)with
  |true=>rw[e]at h0;simp at h0
  |false=>
   rw[e]at h0;simp only[cond_false]at *;cases e2:A0p l (Aqr l h)with
   |false=>rw[e2]at h0;simp at h0
   |true=>exact A2k (of_decide_eq_false e)
end
def plB (l:List Ba)(n:Int):Bool:=decide (0≤Aob .i64 n 1∧Aob .i64 n 1<(l.length:Int))
theorem A0q{l:List Ba}{n:Int}(h:plB l n=true):0≤Aob .i64 n 1∧Aob .i64 n 1<(l.length:Int):=of_decide_eq_true h
theorem A0r (K:Nat){l:List Ba}(hl:l.length≤140737488355327)(n:Int):Anh K l (Aob .i64 n 1)=some (plB l n):=Ayn K hl _
theorem Ay2 (K:Nat){l:List Ba}(hl:l.length≤140737488355327){n:Int}(hn:wfi n):Aov K l n=some (plB l n):=by
 rw[A0m];unfold plB;obtain⟨h1,h2⟩:=hn
 congr 1
 rw[decide_eq_decide];unfold Aob;rw[IntKind.wrap_i64];omega
def Ay8 (l:List Ba)(k:Int):Bool:=plB l (gt l k).fUp&&((gt l (Aob .i64 (gt l k).fUp 1)).Hh==1&&(gt l (Aob .i64 (gt l k).fUp 1)).Ly==(gt l k).Gq)
theorem A2l (K:Nat){l:List Ba}(w:Aiq l){k:Int}(h:0≤k∧k<(l.length:Int)):Aqy K l k=some (Ay8 l k):=by
 unfold Aqy Ay8;rw[if_pos h,Ay2 K (Aek w) (w.1 _ (Axb h.1 h.2)).up,Z0,if_pos h];cases hp:plB l (gt l k).fUp with
 |false=>rfl
 |true=>
  have:=A0q hp;rw[cond_true,if_pos this,if_pos this];cases (gt l (Aob .i64 (gt l k).fUp 1)).Hh==1<;>rfl
theorem Axo (K:Nat){l:List Ba}(w:Aiq l){k:Int}(h:0≤k∧k<(l.length:Int)):Aqd K l k=some (Ay8 l k):=by
 unfold Aqd Ay8;rw[if_pos h,A0r K (Aek w),Z0,if_pos h];cases hp:plB l (gt l k).fUp with
 |false=>rfl
 |true=>
  have:=A0q hp;rw[cond_true,if_pos this,if_pos this];cases (gt l (Aob .i64 (gt l k).fUp 1)).Hh==1<;>rfl
def Arx (l:List Ba)(n:Int):Bool:=n==0||(plB l n&&(gt l (Aob .i64 n 1)).Hh==1)
theorem Ayo{l:List Ba}{n:Int}(h:Arx l n=true)(h0:n≠0):0≤Aob .i64 n 1∧Aob .i64 n 1<(l.length:Int):=by
 unfold Arx at h;rw[Aqo h0,Z52,Z4]at h;exact A0q h.1
theorem Azv (K:Nat){l:List Ba}(w:Aiq l){n:Int}(hn:wfi n):Apt K l n=some (Arx l n):=by
 unfold Apt Arx;rw[Ay2 K (Aek w) hn,Z0];cases n==0 with
 |true=>rfl
 |false=>
  cases hp:plB l n with
  |false=>rfl
  |true=>rw[if_pos (A0q hp)];rfl
theorem Azw (K:Nat){l:List Ba}(w:Aiq l)(n:Int):Ase K l n=some (Arx l n):=by
 unfold Ase Arx;rw[A0r K (Aek w),Z0];cases n==0 with
 |true=>rfl
 |false=>
  cases hp:plB l n with
  |false=>rfl
  |true=>rw[if_pos (A0q hp)];rfl
def A62 (r:List Int):Int:=gt r ((r.length - 1:Nat):Int)
def A0a (l:List Ba)(k:Int):Bool:=decide (((Apf l l.length k).length:Int)≤4)&& !Ay8 l (A62 (Apf l l.length k))
def A5w (l:List Ba)(k:Int):Bool:= !((gt l k).Gs==0&&Ay8 l k)||(gt l (Aob .i64 (gt l k).fUp 1)).Bt==Aoa .i64 k 1
def A9n (l:List Ba)(k:Int):Bool:=(gt l k).Gs==0||(gt l (Aob .i64 (gt l k).Gs 1)).Gr==Aoa .i64 k 1
def Bcj (l:List Ba)(k:Int):Bool:=(gt l k).Gr==0||((gt l (Aob .i64 (gt l k).Gr 1)).Gs==Aoa .i64 k 1&&((gt l (Aob .i64 (gt l k).Gr 1)).fUp==(gt l k).fUp&&(gt l (Aob .i64 (gt l k).Gr 1)).Gq==(gt l k).Gq))
def Blo (l:List Ba)(k:Int):Bool:=(gt l k).Bt==0||((gt l (Aob .i64 (gt l k).Bt 1)).Gs==0&&((gt l (Aob .i64 (gt l k).Bt 1)).fUp==Aoa .i64 k 1&&(gt l (Aob .i64 (gt l k).Bt 1)).Gq==(gt l k).Ly))
def A2m (l:List Ba)(k:Int):Bool:=Arx l (gt l k).Bt&&(Arx l (gt l k).Gr&&(Arx l (gt l k).Gs&&((gt l k).fUp==0||plB l (gt l k).fUp)))
def Azx (l:List Ba)(k:Int):Bool:=A2m l k&&(Blo l k&&(Bcj l k&&(A9n l k&&A5w l k)))
def A63 (l:List Ba):Bool:=(List.range l.length).all (fun k=>(gt l (k:Int)).Hh != 1||(Azx l k&&A0a l k))
theorem Ba2{l:List Ba}{k:Int}(h:0≤k∧k<(l.length:Int)):0<(Apf l l.length k).length:=by
 obtain⟨m,hm⟩: ∃m,l.length=m+1:=⟨l.length - 1,by omega⟩
 rw[hm,Apf,if_pos h];simp
theorem Bdr{l:List Ba}{k:Int}(h:0≤k∧k<(l.length:Int)):0≤A62 (Apf l l.length k)∧A62 (Apf l l.length k)<(l.length:Int):=by
 have:=Ba2 h;exact A9m _ _ _ (Apl (by omega))
theorem Bds{l:List Ba}(w:Aiq l){k:Int}(h:0≤k∧k<(l.length:Int)):Aob .i64 ((Apf l l.length k).length:Int) 1=(((Apf l l.length k).length - 1:Nat):Int)∧(0:Int)≤(((Apf l l.length k).length - 1:Nat):Int)∧(((Apf l l.length k).length - 1:Nat):Int)<((Apf l l.length k).length:Int):=by
 have h1:=Ba2 h
 have h2:=A5u (l:=l) l.length k
 have h3:=Aek w;unfold Aob;rw[Ag4 (by omega) (by omega)]
 omega
section
variable {K:Nat} (hK:281474976710656≤K)
include hK
theorem Bou{l:List Ba}(w:Aiq l){k:Int}(h:0≤k∧k<(l.length:Int)):Are K l k=some (A0a l k):=by
 have h3:=Aek w;obtain⟨e1,e2,e3⟩:=Bds w h;unfold Are;rw[A0n hK w k ⟨by omega,by omega⟩,Z0,e1,if_pos ⟨e2,e3⟩]
 have:=A2l K w (Bdr h);unfold A62 at this;rw[this,Z0,Ai5];rfl
theorem Bov{l:List Ba}(w:Aiq l){k:Int}(h:0≤k∧k<(l.length:Int)):Asw K l k (gt l k).fUp (gt l k).Gs=some (A5w l k&&A0a l k):=by
 unfold Asw A5w;rw[A2l K w h,Bou hK w h,Z0];cases (gt l k).Gs==0 with
 |false=>rfl
 |true=>
  cases hc:Ay8 l k with
  |false=>rfl
  |true=>
   have:plB l (gt l k).fUp=true:=by unfold Ay8 at hc;rw[Z4]at hc;exact hc.1
   rw[cond_true,cond_true,if_pos (A0q this),bne,Ac2];cases (gt l (Aob .i64 (gt l k).fUp 1)).Bt==Aoa .i64 k 1<;>rfl
theorem Bow{l:List Ba}(w:Aiq l){k:Int}(h:0≤k∧k<(l.length:Int))(hp:Arx l (gt l k).Gs=true):Asx K l k (gt l k).fUp (gt l k).Gs=some (A9n l k&&(A5w l k&&A0a l k)):=by
 unfold Asx A9n;rw[Bov hK w h]
 by_cases h0:(gt l k).Gs=0
 ·rw[h0];rfl
 ·rw[As7 h0,Aqo h0,cond_true,if_pos (Ayo hp h0),bne,Ac2];cases (gt l (Aob .i64 (gt l k).Gs 1)).Gr==Aoa .i64 k 1<;>rfl
theorem Box{l:List Ba}(w:Aiq l){k:Int}(h:0≤k∧k<(l.length:Int))(hp:Arx l (gt l k).Gs=true)(hn:Arx l (gt l k).Gr=true):Asy K l k (gt l k).fUp (gt l k).Gq (gt l k).Gr (gt l k).Gs=some (Bcj l k&&(A9n l k&&(A5w l k&&A0a l k))):=by
 unfold Asy Bcj;rw[Bow hK w h hp]
 by_cases h0:(gt l k).Gr=0
 ·rw[h0];rfl
 ·have hi:=Ayo hn h0;rw[As7 h0,Aqo h0,cond_true,if_pos hi];simp only[bne,Ac2,Z52];cases (gt l (Aob .i64 (gt l k).Gr 1)).Gs==Aoa .i64 k 1<;>cases (gt l (Aob .i64 (gt l k).Gr 1)).fUp==(gt l k).fUp<;>cases (gt l (Aob .i64 (gt l k).Gr 1)).Gq==(gt l k).Gq<;>rfl
theorem Boy{l:List Ba}(w:Aiq l){k:Int}(h:0≤k∧k<(l.length:Int))(hf:Arx l (gt l k).Bt=true)(hp:Arx l (gt l k).Gs=true)(hn:Arx l (gt l k).Gr=true):Asz K l k (gt l k).Hh (gt l k).C2 (gt l k).Ly (gt l k).fUp (gt l k).Gq (gt l k).Bt (gt l k).Gr (gt l k).Gs (gt l k).Ae (gt l k).Pq (gt l k).Gt (gt l k).Ea (gt l k).Dg=some (Blo l k&&(Bcj l k&&(A9n l k&&(A5w l k&&A0a l k)))):=by
 unfold Asz Blo;rw[Box hK w h hp hn]
 by_cases h0:(gt l k).Bt=0
 ·rw[h0];rfl
 ·have hi:=Ayo hf h0;rw[As7 h0,Aqo h0,cond_true,if_pos hi];simp only[bne,Ac2,Z52];cases (gt l (Aob .i64 (gt l k).Bt 1)).Gs==0<;>cases (gt l (Aob .i64 (gt l k).Bt 1)).fUp==Aoa .i64 k 1<;>cases (gt l (Aob .i64 (gt l k).Bt 1)).Gq==(gt l k).Ly<;>rfl
theorem Bck{l:List Ba}(w:Aiq l){k:Int}(h:0≤k∧k<(l.length:Int)):Aw4 K l k=some (Azx l k&&A0a l k):=by
 have hn:=w.1 _ (Axb h.1 h.2);unfold Aw4 Azx A2m;rw[if_pos h,Ay2 K (Aek w) hn.up,Azv K w hn.first,Azv K w hn.next,Azv K w hn.prev];simp only[Z0,Ac2];cases hf:Arx l (gt l k).Bt with
 |false=>cases (gt l k).fUp != 0<;>cases plB l (gt l k).fUp<;>rfl
 |true=>
 cases hx:Arx l (gt l k).Gr with
 |false=>cases (gt l k).fUp != 0<;>cases plB l (gt l k).fUp<;>rfl
 |true=>
 cases hp:Arx l (gt l k).Gs with
 |false=>cases (gt l k).fUp != 0<;>cases plB l (gt l k).fUp<;>rfl
 |true=>
 rw[Boy hK w h hf hp hx];simp only[bne];cases (gt l k).fUp==0<;>cases plB l (gt l k).fUp<;>simp only[Bool.not_true,Bool.not_false,cond_true,cond_false,Z30,Bool.false_and,Bool.true_or,Z52,Bool.and_assoc]
theorem Ba3{l:List Ba}(w:Aiq l):Awa K l=some (A63 l):=by
 have hl:=Aek w;unfold Awa A63;rw[Apw hK l.length (by omega) (fun k=>(gt l (k:Int)).Hh != 1||(Azx l k&&A0a l k)) (some true) (fun n i=>Aph K l n i) (fun n i h=> ?_) (fun n=> ?_)]
 ·cases (List.range l.length).all _<;>rfl
 ·simp only[Aph,At6];rw[Afe h,cond_true,if_pos (Ai8 h),Bck hK w (Ai8 h),Ag5 (by omega),Z0,Ac2,bne]
  cases (gt l (i:Int)).Hh==1<;>rfl
 ·show Aph K l (n+1) _=_;rw[Aph,Agf (Z9 _),cond_false]
theorem Boz{l:List Ba}(w:Aiq l){k:Int}(h:0≤k∧k<(l.length:Int)):Arn K l k (gt l k).fUp (gt l k).Gs=some (A5w l k):=by
 unfold Arn A5w;rw[Axo K w h,Z0,bne];cases (gt l k).Gs==0 with
 |false=>rfl
 |true=>
  cases hc:Ay8 l k with
  |false=>rfl
  |true=>
   have:plB l (gt l k).fUp=true:=by unfold Ay8 at hc;rw[Z4]at hc;exact hc.1
   rw[if_pos (A0q this)];rfl
theorem Bo0{l:List Ba}(w:Aiq l){k:Int}(h:0≤k∧k<(l.length:Int))(hp:Arx l (gt l k).Gs=true):Aro K l k (gt l k).fUp (gt l k).Gs=some (A9n l k&&A5w l k):=by
 unfold Aro A9n;rw[Boz hK w h]
 by_cases h0:(gt l k).Gs=0
 ·rw[h0];rfl
 ·rw[As7 h0,Aqo h0,cond_true,if_pos (Ayo hp h0),bne,Ac2];cases (gt l (Aob .i64 (gt l k).Gs 1)).Gr==Aoa .i64 k 1<;>rfl
theorem Bo1{l:List Ba}(w:Aiq l){k:Int}(h:0≤k∧k<(l.length:Int))(hp:Arx l (gt l k).Gs=true)(hn:Arx l (gt l k).Gr=true):Arp K l k (gt l k).fUp (gt l k).Gq (gt l k).Gr (gt l k).Gs=some (Bcj l k&&(A9n l k&&A5w l k)):=by
 unfold Arp Bcj;rw[Bo0 hK w h hp]
 by_cases h0:(gt l k).Gr=0
 ·rw[h0];rfl
 ·have hi:=Ayo hn h0;rw[As7 h0,Aqo h0,cond_true,if_pos hi];simp only[bne,Ac2,Z52];cases (gt l (Aob .i64 (gt l k).Gr 1)).Gs==Aoa .i64 k 1<;>cases (gt l (Aob .i64 (gt l k).Gr 1)).fUp==(gt l k).fUp<;>cases (gt l (Aob .i64 (gt l k).Gr 1)).Gq==(gt l k).Gq<;>rfl
theorem Bo2{l:List Ba}(w:Aiq l){k:Int}(h:0≤k∧k<(l.length:Int))(hf:Arx l (gt l k).Bt=true)(hp:Arx l (gt l k).Gs=true)(hn:Arx l (gt l k).Gr=true):Arq K l k (gt l k).Hh (gt l k).C2 (gt l k).Ly (gt l k).fUp (gt l k).Gq (gt l k).Bt (gt l k).Gr (gt l k).Gs (gt l k).Ae (gt l k).Pq (gt l k).Gt (gt l k).Ea (gt l k).Dg=some (Blo l k&&(Bcj l k&&(A9n l k&&A5w l k))):=by
 unfold Arq Blo;rw[Bo1 hK w h hp hn]
 by_cases h0:(gt l k).Bt=0
 ·rw[h0];rfl
 ·have hi:=Ayo hf h0;rw[As7 h0,Aqo h0,cond_true,if_pos hi];simp only[bne,Ac2,Z52];cases (gt l (Aob .i64 (gt l k).Bt 1)).Gs==0<;>cases (gt l (Aob .i64 (gt l k).Bt 1)).fUp==Aoa .i64 k 1<;>cases (gt l (Aob .i64 (gt l k).Bt 1)).Gq==(gt l k).Ly<;>rfl
theorem A9o{l:List Ba}(w:Aiq l){k:Int}(h:0≤k∧k<(l.length:Int)):Avh K l k=some (Azx l k):=by
 unfold Avh Azx A2m;rw[if_pos h,A0r K (Aek w),Azw K w,Azw K w,Azw K w];simp only[Z0,Ac2];cases hf:Arx l (gt l k).Bt with
 |false=>rfl
 |true=>
 cases hx:Arx l (gt l k).Gr with
 |false=>rfl
 |true=>
 cases hp:Arx l (gt l k).Gs with
 |false=>rfl
 |true=>
 rw[Bo2 hK w h hf hp hx];simp only[bne];cases (gt l k).fUp==0<;>cases plB l (gt l k).fUp<;>simp only[Bool.not_true,Bool.not_false,cond_true,cond_false,Z30,Bool.false_and,Bool.true_or,Z52,Bool.and_assoc]
theorem Ba4{l:List Ba}(w:Aiq l):Awf K l=some (A63 l):=by
 have hl:=Aek w;unfold Awf A63;rw[Apw hK l.length (by omega) (fun k=>(gt l (k:Int)).Hh != 1||(Azx l k&&A0a l k)) (some true) (fun n i=>Apk K l n l (l.length:Int) i) (fun n i h=> ?_) (fun n=> ?_)]
 ·cases (List.range l.length).all _<;>rfl
 ·have hc:=Ai8 h;obtain⟨e1,e2,e3⟩:=Bds w hc
  have e4:=Axo K w (Bdr hc);unfold A62 at e4
  have e5:decide (((Apf l l.length i).length:Int)>4)= !decide (((Apf l l.length i).length:Int)≤4):=by rw[←decide_not];congr 1;simp
  simp only[Apk,Aui];rw[Afe h,cond_true,if_pos hc,A9o hK w hc,Ag5 (by omega),Z0,A0o hK w,Z0,e1,if_pos ⟨e2,e3⟩,e4,Z0,e5]
  unfold A0a A62;simp only[Ac2,bne];cases (gt l (i:Int)).Hh==1<;>cases Azx l i<;>cases decide (((Apf l l.length i).length:Int)≤4)<;>cases Ay8 l (gt (Apf l l.length i) (((Apf l l.length i).length - 1:Nat):Int))<;>rfl
 ·show Apk K l (n+1) _ _ _=_;rw[Apk,Agf (Z9 _),cond_false]
end
theorem A64{c:Er}(hc:Ap5 c=true):Aob .i64 c.Eg 1=c.Eg - 1:=by
 obtain⟨_,b2,_⟩:=Ae1 hc;unfold Aob;rw[Ag4 (by omega) (by omega)]
def As8 (c:Er)(x:Ax):Bool:=
 Ap5 c&&(inB x.A5 0 c.C0&&(inB x.Bt 0 c.C0&&(decide ((x.Dg.length:Int)≤6)&&(x.Dg.all (fun y=>inB y 0 255)&&(Avu c x.Ae&&(inB x.Gu 0 (c.Eg - 1)&&(decide ((x.Ae.length:Int)>0)||x.Gu==0)))))))
section
variable {K:Nat} (hK:281474976710656≤K)
include hK
theorem A6q (c:Er)(x:Ax)(hw:Ay0 x):Au5 K c x=some (As8 c x):=by
 have h1:=A0l hK hw.tags
 have h2:=A0l hK hw.chunks;unfold Au5 Ate;rw[Awt];simp only[Z0,Asr];cases hc:Ap5 c with
 |false=>simp[As8,hc]
 |true=>
 have hA:Ant K c x.Ae K 0=some (Avu c x.Ae):=by
  rw[Apw hK x.Ae.length (by omega) (fun i=>inB (gt x.Ae i) 0 (c.Ae - 1)&& !(x.Ae.take i).contains (gt x.Ae i)) (some true) (fun k i=>Ant K c x.Ae k i) (fun k i h=> ?_) (fun k=> ?_)]
  ·unfold Avu;cases (List.range x.Ae.length).all _<;>rfl
  ·have hp:(x.Ae.take i).length≤140737488355328:=by simp;omega
   simp only[Ant];rw[Afe h,cond_true,if_pos (Ai8 h),Asr,if_pos (Bas (by omega)),A5n,Axk hK _ _ hp,Ag5 (by omega),A2i hK hc]
   simp only[Z0,if_pos (Ai8 h)];cases inB (gt x.Ae i) 0 (c.Ae - 1)<;>cases (x.Ae.take i).contains (gt x.Ae i)<;>rfl
  ·show Ant K c x.Ae (k+1) _=_;rw[Ant,Agf (Z9 _),cond_false]
 have hB:Apr K c x.Dg x.Ae K 0=some (x.Dg.all (fun y=>inB y 0 255)&&Avu c x.Ae):=by
  rw[Ar1 hK x.Dg (by omega) (fun y=>inB y 0 255) (some (Avu c x.Ae)) (Apr K c x.Dg x.Ae) (fun k i h=> ?_) (fun k=> ?_)]
  ·rw[Ai5]
  ·rw[Apr,Afe h,cond_true,if_pos (Ai8 h),Aej h,Asr,Ag5 (by omega),Z0,Ac2]
  ·rw[Apr,Agf (Z9 _),cond_false,hA]
 rw[hB,A64 hc]
 have e6:decide ((x.Dg.length:Int)>6)= !decide ((x.Dg.length:Int)≤6):=by rw[←decide_not];congr 1;simp
 have e0:decide ((x.Ae.length:Int)>0)= !((x.Ae.length:Int)==0):=by
  rw[Bool.eq_iff_iff];simp only[decide_eq_true_eq,Zh,beq_eq_false_iff_ne];omega
 unfold As8;simp only[cond_true,e6,e0,Ac2,bne,hc,Z30];cases (x.Ae.length:Int)==0 with
 |true=>
  simp only[cond_true,Bool.not_true,Z52,Ai5,Z7]
  ac_rfl
 |false=>
  simp only[cond_false,Bool.not_false,Bool.true_or,Ai5,Z7,Bool.and_true]
  ac_rfl
theorem A6r (c:Er)(x:Ax)(hw:Ay0 x):Avi K c x=some (As8 c x):=by
 have h1:=A0l hK hw.tags
 have h2:=A0l hK hw.chunks;unfold Avi;rw[Azr];simp only[Z0,Ato];cases hc:Ap5 c with
 |false=>simp[As8,hc]
 |true=>
 rw[Ayf hK _ (by omega),Az8 hK hc _ h2,A64 hc]
 unfold As8;simp only[Z0,cond_true,hc,Z30,Axj,Ai5]
end
theorem Avx{c:Er}{x:Ax}(h:As8 c x=true):Ap5 c=true∧(0≤x.A5∧x.A5≤c.C0)∧(0≤x.Bt∧x.Bt≤c.C0)∧Avu c x.Ae=true∧(0≤x.Gu∧x.Gu≤c.Eg - 1):=by
 unfold As8 at h;simp only[Z4,Ax5]at h;exact⟨h.1,h.2.1,h.2.2.1,h.2.2.2.2.2.1,h.2.2.2.2.2.2.1⟩
theorem A20{c:Er}{l:List Int}(h:Avu c l=true): ∀x∈l,0≤x∧x<c.Ae:=by
 intro x hx;obtain⟨i,hi,e⟩:=List.mem_iff_getElem.1 hx;unfold Avu at h;rw[Z1]at h
 have:=h i (by simpa using hi)
 rw[Z4,Aej hi,e,Ax5]at this;omega
theorem A5x{l:List Int}:l.Nodup ↔ ∀i,(h:i<l.length)->l[i] ∉ l.take i:=by
 unfold List.Nodup;rw[List.pairwise_iff_getElem];constructor
 ·intro h i hi hm;obtain⟨j,hj,e⟩:=List.mem_iff_getElem.1 hm;rw[List.getElem_take]at e;simp only[List.length_take]at hj;exact h j i (by omega) hi (by omega) e
 ·intro h i j hi hj hij e;exact h j hj (List.mem_iff_getElem.2 ⟨i,by simp;omega,by rw[List.getElem_take];exact e⟩)
theorem A5y{c:Er}{l:List Int}(h:Avu c l=true):l.Nodup:=by
 rw[A5x];intro i hi hm;unfold Avu at h;rw[Z1]at h
 have:=h i (by simpa using hi)
 rw[Z4,Aej hi,Zh,List.contains_eq_mem]at this;exact absurd hm (of_decide_eq_false this.2)
theorem A0s{l:List Int}: ∀ {o:List Int},o.Nodup->(∀x∈o,x∈l)->o.length≤l.length:=by
 intro o
 induction o generalizing l with
 |nil=>intro _ _;exact Z21 _
 |cons x o ih=>
  intro hn hs
  have hx:x∈l:=hs x (by simp)
  rw[List.nodup_cons]at hn
  have h2:=ih (l:=l.erase x) hn.2 (fun y hy=>by
   have hne:y≠x:=fun e=>hn.1 (e ▸ hy);exact(List.mem_erase_of_ne hne).2 (hs y (by simp[hy])))
  rw[List.length_erase_of_mem hx]at h2
  have:0<l.length:=List.length_pos_of_mem hx;simp only[Y9];omega
theorem A5z{c:Er}(hc:Ap5 c=true){l:List Int}(h:Avu c l=true):l.length≤12:=by
 obtain⟨b1,_⟩:=Ae1 hc
 have:=A0s (l:=(List.range 12).map (fun i:Nat=>(i:Int))) (A5y h) (fun x hx=>by
  have:=A20 h x hx;rw[Eo];exact⟨x.toNat,by simp;omega,by omega⟩)
 simpa using this
def Aw2 (l:List Ba):Nat->Int->List Int
 |0,_=>[]
 |n+1,k=>if 0≤k∧k<(l.length:Int)then k::Aw2 l n (Aob .i64 (gt l k).Gr 1)else []
theorem A50{l:List Ba}: ∀(n:Nat) (k:Int),∀x∈Aw2 l n k,0≤x∧x<(l.length:Int):=by
 intro n
 induction n with
 |zero=>intro k x hx;cases hx
 |succ n ih=>
  intro k x hx;unfold Aw2 at hx;split at hx
  ·rename_i h;rcases D6.1 hx with rfl|hx
   ·exact h
   ·exact ih _ x hx
  ·cases hx
theorem Az2{l:List Ba}: ∀(n:Nat) (k:Int),(Aw2 l n k).length≤n:=by
 intro n
 induction n with
 |zero=>intro k;exact Z9 _
 |succ n ih=>
  intro k;unfold Aw2;split
  ·simp only[Y9];have:=ih (Aob .i64 (gt l k).Gr 1);omega
  ·exact Z21 _
def Al7 (l:List Ba)(first:Int):List Int:=Aw2 l l.length (Aob .i64 first 1)
def Awu (l:List Ba)(k:Int):Bool:=(gt l k).Hh==1&&((gt l k).fUp != 0&& !Ay8 l k)
theorem A2s (K:Nat){l:List Ba}(w:Aiq l){k:Int}(h:0≤k∧k<(l.length:Int)):Arf K l k=some (Awu l k):=by
 unfold Arf Awu;rw[if_pos h,if_pos h,A2l K w h,Z0,Ai5,Ai5]
theorem A2t (K:Nat){l:List Ba}(w:Aiq l){k:Int}(h:0≤k∧k<(l.length:Int)):Aqx K l k=some (Awu l k):=by
 unfold Aqx Awu;rw[if_pos h,if_pos h,Axo K w h,Z0,Ai5,Ai5]
section
variable {K:Nat} (hK:281474976710656≤K)
theorem Bfa{l:List Ba}(w:Aiq l): ∀(n:Nat) (k:Int) (v:List Int),wfi k->v.length≤l.length->l.length - v.length<n->Ar7 K l n k v=some (v++Aw2 l (l.length - v.length) (Aob .i64 k 1)):=by
 have hm:=Amf
 have hb:l.length*152≤140737488355327:=w.2;intro n
 induction n with
 |zero=>intro k v _ _ h;omega
 |succ n ih=>
  intro k v hk hv hn;rw[Ar7,Ay2 K (Aek w) hk];simp only[Z0]
  by_cases hs:0≤Aob .i64 k 1∧Aob .i64 k 1<(l.length:Int)
  ·rw[show plB l k=true from decide_eq_true hs]
   simp only[cond_true];rcases F9 v.length l.length with h|h
   ·rw[Afe h];simp only[cond_true]
    have hl2:(v++[Aob .i64 k 1]).length=v.length+1:=by simp
    rw[if_pos ⟨by rw[hl2];omega,by rw[hl2];omega⟩,if_pos hs,ih (gt l (Aob .i64 k 1)).Gr _ (w.1 _ (Axb hs.1 hs.2)).next (by rw[hl2];omega) (by rw[hl2];omega),hl2]
    obtain⟨m,hm⟩: ∃m,l.length - v.length=m+1:=⟨l.length - v.length - 1,by omega⟩
    rw[hm,Aw2,if_pos hs,show l.length - (v.length+1)=m from by omega]
    simp
   ·rw[Agf h];rw[show l.length - v.length=0 from by omega]
    simp[Aw2]
  ·rw[show plB l k=false from decide_eq_false hs]
   have:Aw2 l (l.length - v.length) (Aob .i64 k 1)=[]:=by
    cases l.length - v.length with
    |zero=>rfl
    |succ m=>rw[Aw2,if_neg hs]
   rw[this];simp
theorem Bfb{l:List Ba}(w:Aiq l): ∀(n:Nat) (k:Int) (v:List Int),v.length≤l.length->l.length - v.length<n->Ar9 K l n v k=some (v++Aw2 l (l.length - v.length) k):=by
 have hm:=Amf
 have hb:l.length*152≤140737488355327:=w.2;intro n
 induction n with
 |zero=>intro k v _ h;omega
 |succ n ih=>
  intro k v hv hn;rw[Ar9,Ayn K (by omega)]
  simp only[Z0]
  by_cases hs:0≤k∧k<(l.length:Int)
  ·rw[decide_eq_true hs];simp only[cond_true];rcases F9 v.length l.length with h|h
   ·rw[Afe h];simp only[cond_true]
    have hl2:(v++[k]).length=v.length+1:=by simp
    rw[if_pos ⟨by rw[hl2];omega,by rw[hl2];omega⟩,if_pos hs,ih _ _ (by rw[hl2];omega) (by rw[hl2];omega),hl2]
    obtain⟨m,hm⟩: ∃m,l.length - v.length=m+1:=⟨l.length - v.length - 1,by omega⟩
    rw[hm,Aw2,if_pos hs,show l.length - (v.length+1)=m from by omega]
    simp
   ·rw[Agf h];rw[show l.length - v.length=0 from by omega]
    simp[Aw2]
  ·rw[decide_eq_false hs]
   have:Aw2 l (l.length - v.length) k=[]:=by
    cases l.length - v.length with
    |zero=>rfl
    |succ m=>rw[Aw2,if_neg hs]
   rw[this];simp
include hK
theorem A2u{l:List Ba}(w:Aiq l){k:Int}(hk:wfi k):Atx K l k=some (Al7 l k):=by
 have hb:=Aek w;unfold Atx Al7
 have:=Bfa (K:=K) w K k [] hk (Z21 _) (by simp;omega)
 simpa using this
theorem Ba5{l:List Ba}(w:Aiq l)(k:Int):Awg K l k=some (Al7 l k):=by
 have hb:=Aek w;unfold Awg Al7
 have:=Bfb (K:=K) w K (Aob .i64 k 1) [] (Z21 _) (by simp;omega)
 simpa using this
def A1k (w:Eb)(x:Ax):Bool:= !decide ((x.Ae.length:Int)>0)||Ayl ((w.fP.Fy.drop (gt x.Ae 0*w.fC.Eg).toNat).take x.Gu.toNat)
def Avy (w:Eb)(x:Ax):Bool:=x.A5==0||(gt w.fL (Aob .i64 x.A5 1)).Hh==2
def Awv (w:Eb)(x:Ax):Bool:=x.Bt==0||(gt w.fL (Aob .i64 x.Bt 1)).Gs==0
def Az3 (w:Eb)(x:Ax):Bool:=x.Ae.all (fun k=>gt w.fP.Hh k==2)
def Ar3 (w:Eb)(x:Ax):Bool:=(Al7 w.fL x.Bt).all (Awu w.fL)
def An1 (w:Eb)(x:Ax):Bool:=As8 w.fC x&&(Az3 w x&&(A1k w x&&(Avy w x&&(Awv w x&&Ar3 w x))))
theorem A1l{w:Eb}(hL:(w.fL.length:Int)=w.fC.C0)(hc:Ap5 w.fC=true){n:Int}(h0:n≠0)(h1:0≤n)(h2:n≤w.fC.C0):0≤Aob .i64 n 1∧Aob .i64 n 1<(w.fL.length:Int):=by
 obtain⟨_,_,b3,_⟩:=Ae1 hc;unfold Aob;rw[Ag4 (by omega) (by omega)]
 omega
theorem A6s (w:Eb)(hw:Aqq w)(hp:Auz w.fC w.fP=true)(hL:(w.fL.length:Int)=w.fC.C0)(i:Nat)(hi:i<w.fQ.length):At7 K w i=some (An1 w (gt w.fQ i)):=by
 have hx:=hw.q.1 _ (Apl hi);unfold At7;rw[if_pos (Ai8 hi)];generalize gt w.fQ i=x at *;rw[A6q hK _ _ hx,Z0,Ac2];unfold An1;cases hr:As8 w.fC x with
 |false=>rfl
 |true=>
 rw[cond_true,Z30];obtain⟨hc,⟨s1,s2⟩,⟨f1,f2⟩,hd,d1,d2⟩:=Avx hr;obtain⟨_,hm,hst,_⟩:=Av3 hp;obtain⟨b1,b2,b3,_⟩:=Ae1 hc
 have hch:=A20 hd
 have hl:=A0l hK hx.chunks
 have h3:Aow K x.Bt w.fL=some (Ar3 w x):=by
  unfold Aow Ar3
  have hk:=Az2 (l:=w.fL) w.fL.length (Aob .i64 x.Bt 1)
  have hin:=A50 (l:=w.fL) w.fL.length (Aob .i64 x.Bt 1);rw[A2u hK hw.l hx.first,Z0];change (Al7 w.fL x.Bt).length≤_ at hk;change ∀y∈Al7 w.fL x.Bt,_ at hin;generalize Al7 w.fL x.Bt=r at *;rw[Ar1 hK r (by omega) (Awu w.fL) (some true) (Apz K w.fL r) (fun n i h=> ?_) (fun n=> ?_)]
  ·cases r.all _<;>rfl
  ·rw[Apz,Afe h,cond_true,if_pos (Ai8 h),A2s K hw.l (hin _ (Apl h)),Ag5 (by omega),Z0,Ac2,Aej h]
  ·rw[Apz,Agf (Z9 _),cond_false]
 have h2:Aqz K x.A5 x.Bt w.fL=some (Avy w x&&(Awv w x&&Ar3 w x)):=by
  unfold Aqz Avy Awv;rw[h3]
  by_cases g1:x.Bt=0
  ·rw[g1]
   by_cases g2:x.A5=0
   ·rw[g2];rfl
   ·rw[As7 g2,Aqo g2,cond_true,if_pos (A1l hK hL hc g2 s1 s2)];simp only[bne,Ac2,Z52];cases (gt w.fL (Aob .i64 x.A5 1)).Hh==2<;>rfl
  ·have hF:(bif (x.Bt != 0)then(if(0:Int)≤(Aob .i64 x.Bt 1)∧(Aob .i64 x.Bt 1)<(w.fL.length:Int)then(bif (((gt w.fL (Aob .i64 x.Bt 1)).Gs) != 0)then some false else some (Ar3 w x))else none)else some (Ar3 w x))=some ((x.Bt==0||(gt w.fL (Aob .i64 x.Bt 1)).Gs==0)&&Ar3 w x):=by
    rw[As7 g1,Aqo g1,cond_true,if_pos (A1l hK hL hc g1 f1 f2)];simp only[bne,Ac2,Z52,Ai5]
   rw[hF]
   by_cases g2:x.A5=0
   ·rw[g2];rfl
   ·rw[As7 g2,Aqo g2,cond_true,if_pos (A1l hK hL hc g2 s1 s2)];simp only[bne,Ac2,Z52,Ai5]
 rw[Ar1 hK x.Ae (by omega) (fun k=>gt w.fP.Hh k==2) (some (A1k w x&&(Avy w x&&(Awv w x&&Ar3 w x)))) (fun n i=>Aox K n i x.A5 x.Bt x.Dg x.Ae x.Gu w.fC.Ae w.fC.Eg w.fC.C0 w.fC.E9 w.fC.C1 w.fC.Eh w.fP.Fy w.fP.Hh w.fP.Fz w.fL w.fQ w.Pr) (fun n i h=> ?_) (fun n=> ?_)]
 ·rw[Ai5];rfl
 ·simp only[Aox]
  have h5:=hch _ (Apl h);rw[Afe h,cond_true,if_pos (Ai8 h),if_pos ⟨h5.1,by omega⟩,Ag5 (by omega),bne,Ac2,Aej h]
 ·show Aox K (n+1) _ _ _ _ _ _ _ _ _ _ _ _ _ _ _ _ _ _=_;rw[Aox,Agf (Z9 _),cond_false,h2];unfold A1k
  by_cases g:(x.Ae.length:Int)>0
  ·have h5:=hch _ (Axb (l:=x.Ae) (Int.le_refl 0) (by omega))
   obtain⟨e1,e2,e3,e4⟩:=A1e hc hm h5.1 h5.2
   have e5:Aoa .i64 (gt x.Ae 0*w.fC.Eg) x.Gu=gt x.Ae 0*w.fC.Eg+x.Gu:=by
    have:=A1d (a:=gt x.Ae 0) (b:=w.fC.Eg) (m:=12) (n:=16) h5.1 (by omega) (by omega) b2.2
    unfold Aoa;rw[Ag4 (by omega) (by omega)]
   rw[decide_eq_true g,cond_true,if_pos ⟨by omega,by omega⟩,if_pos ⟨by omega,by omega⟩,e1,e5,if_pos ⟨e3,by omega,by omega⟩,Azs hK _ (by simp;omega),show gt x.Ae 0*w.fC.Eg+x.Gu - gt x.Ae 0*w.fC.Eg=x.Gu by omega]
   simp only[Z0,Ac2,Ai5,Bool.not_true,Z52]
  ·rw[decide_eq_false g];rfl
end
def Ak3 (N:Nat)(l:List Int):List Int:=(List.range N).map (fun k:Nat=>((l.count (k:Int):Nat):Int))
theorem Azy (N:Nat)(l:List Int):(Ak3 N l).length=N:=by simp[Ak3]
theorem Ay3{N:Nat}{l:List Int}{x:Int}(h0:0≤x)(h1:x<N):gt (Ak3 N l) x=((l.count x:Nat):Int):=by
 obtain⟨k,rfl⟩: ∃k:Nat,x=k:=⟨x.toNat,by omega⟩
 rw[Aej (by rw[Azy];omega)]
 simp[Ak3]
theorem Ba6 (N:Nat):Ak3 N []=List.replicate N 0:=by
 refine List.ext_getElem (by simp[Ak3]) fun i h1 h2=> ?_
 simp[Ak3]
theorem Ba7{N:Nat}{l:List Int}{x:Int}(h0:0≤x)(h1:x<N)(hl:l.length≤140737488355327):(Ak3 N l).set x.toNat (Aoa .i64 (gt (Ak3 N l) x) 1)=Ak3 N (l++[x]):=by
 have hc:l.count x≤l.length:=List.count_le_length
 have e:Aoa .i64 (gt (Ak3 N l) x) 1=((l.count x+1:Nat):Int):=by
  rw[Ay3 h0 h1,Ag5 (by omega)]
 rw[e];refine List.ext_getElem (by simp[Ak3]) fun i h2 h3=> ?_
 rw[List.getElem_set];simp only[Ak3,List.getElem_map,List.getElem_range,List.count_append,List.count_singleton]
 by_cases hi:x.toNat=i
 ·rw[if_pos hi]
  have:x=(i:Int):=by omega
  simp[this]
 ·rw[if_neg hi]
  have: ¬x=(i:Int):=by omega
  simp[this]
theorem A51{C P:List Int}(hs: ∀x∈C,x∈P)(hP:P.Nodup):(∀x∈P,C.count x=1) ↔ (C.Nodup∧C.length=P.length):=by
 constructor
 ·intro h
  have hn:C.Nodup:=by
   rw[List.nodup_iff_count];intro a
   by_cases ha:a∈C
   ·rw[h a (hs a ha)];omega
   ·rw[List.count_eq_zero_of_not_mem ha];omega
  refine⟨hn,?_⟩
  have h1:=A0s hn hs
  have h2:=A0s hP (l:=C) (fun x hx=>List.count_pos_iff.1 (by rw[h x hx];omega))
  omega
 ·rintro⟨hn,hl⟩ x hx
  have hp:=A2r hn hs hl
  have:=hn.count (a:=x);rw[this,if_pos (hp.mem_iff.2 hx)]
def chL (q:List Ax):List Int:=q.flatMap (fun x=>x.Ae)
def slL (q:List Ax):List Int:=q.flatMap (fun x=>if x.A5=0 then []else [Aob .i64 x.A5 1])
def kdL (l:List Ba)(q:List Ax):List Int:=q.flatMap (fun x=>Al7 l x.Bt)
theorem Axd{α β:Type}(q:List α)(f:α->List β)(i:Nat)(h:i<q.length):(q.take (i+1)).flatMap f=(q.take i).flatMap f++f q[i]:=by
 rw[←List.take_append_getElem h,List.flatMap_append];simp
theorem A1m{α β:Type}(q:List α)(f:α->List β)(m:Nat)(h: ∀x∈q,(f x).length≤m):(q.flatMap f).length≤q.length*m:=by
 induction q with
 |nil=>simp
 |cons x q ih=>
  have h1:=h x (by simp)
  have h2:=ih fun y hy=>h y (by simp[hy])
  simp only[List.flatMap_cons,Ln,Y9,Hw,Nat.one_mul];omega
def A2v (w:Eb):List Int:=((List.range w.fP.Hh.length).filter (fun k:Nat=>gt w.fP.Hh k==2)).map (fun k:Nat=>(k:Int))
def A0b (w:Eb):List Int:=((List.range w.fL.length).filter (fun k:Nat=>(gt w.fL k).Hh==2)).map (fun k:Nat=>(k:Int))
def A52 (w:Eb):List Int:=((List.range w.fL.length).filter (fun k:Nat=>Awu w.fL k)).map (fun k:Nat=>(k:Int))
theorem A0t (N:Nat)(p:Nat->Bool):(((List.range N).filter p).map (fun k:Nat=>(k:Int))).Nodup:=by
 unfold List.Nodup;rw[List.pairwise_map];exact(List.Pairwise.filter _ List.pairwise_lt_range).imp fun h=>by omega
theorem Avz{N:Nat}{p:Nat->Bool}{x:Int}:x∈((List.range N).filter p).map (fun k:Nat=>(k:Int)) ↔ (0≤x∧x<(N:Int))∧p x.toNat=true:=by
 simp only[Eo,List.mem_filter,List.mem_range];constructor
 ·rintro⟨k,⟨h1,h2⟩,rfl⟩;exact⟨⟨by omega,by omega⟩,by simpa using h2⟩
 ·rintro⟨⟨h1,h2⟩,h3⟩;exact⟨x.toNat,⟨by omega,h3⟩,by omega⟩
def Awl (w:Eb)(N:Nat):Bool:=
 (List.range w.fP.Hh.length).all (fun k=> !(gt w.fP.Hh k==2)||gt (Ak3 N (chL w.fQ)) k==1)&&
 (List.range w.fL.length).all (fun k=>(!((gt w.fL k).Hh==2)||gt (Ak3 w.fL.length (slL w.fQ)) k==1)&&(!Awu w.fL k||gt (Ak3 w.fL.length (kdL w.fL w.fQ)) k==1))
def A0u (q:List Ax)(i k:Nat):Bool:= !((gt q i).A5 != 0&&(gt q k).A5==(gt q i).A5)&&(gt q i).Ae.all (fun y=> !(gt q k).Ae.contains y)
def A9p (q:List Ax):Bool:=(List.range q.length).all (fun i=>(List.range i).all (fun k=>A0u q i k))
def A2n (l:List Int):Bool:=(List.range l.length).all (fun i=> !(l.take i).contains (gt l i))
def A21 (w:Eb):Bool:=
 A9p w.fQ&&(A2n (kdL w.fL w.fQ)&&((((chL w.fQ).length:Int)==((A2v w).length:Int))&&((((slL w.fQ).length:Int)==((A0b w).length:Int))&&(((kdL w.fL w.fQ).length:Int)==((A52 w).length:Int)))))
theorem Bcl (l:List Int):A2n l=true ↔ l.Nodup:=by
 rw[A5x];unfold A2n;simp only[Z1,List.mem_range,Zh,List.contains_eq_mem,decide_eq_false_iff_not];exact⟨fun h i hi=>by have:=h i hi;rwa[Aej hi]at this,fun h i hi=>by rw[Aej hi];exact h i hi⟩
theorem Ba8{w:Eb}{q:List Ax}(h1: ∀x∈q,x.Ae.Nodup)(h2: ∀x∈q,0≤x.A5∧x.A5≤8):A9p q=true ↔ (chL q).Nodup∧(slL q).Nodup:=by
 unfold chL slL List.Nodup;rw[List.pairwise_flatMap,List.pairwise_flatMap,List.pairwise_iff_getElem,List.pairwise_iff_getElem]
 have hs: ∀x∈q,List.Pairwise (fun a b:Int=>a≠b) (if x.A5=0 then []else [Aob .i64 x.A5 1]):=by
  intro x _;split<;>simp
 have hsub: ∀x∈q,Aob .i64 x.A5 1=x.A5 - 1:=by
  intro x hx;have:=h2 x hx;unfold Aob;rw[Ag4 (by omega) (by omega)]
 unfold A9p A0u;simp only[Z1,List.mem_range,Z4,Zh,List.contains_eq_mem,decide_eq_false_iff_not];constructor
 ·intro h;refine⟨⟨h1,fun i j hi hj hij x hx y hy e=> ?_⟩,hs,fun i j hi hj hij x hx y hy e=> ?_⟩
  ·have:=(h j hj i hij).2;rw[Aej hi,Aej hj]at this;subst e;exact this x hy hx
  ·have:=(h j hj i hij).1;rw[Aej hi,Aej hj]at this;split at hx
   ·cases hx
   ·split at hy
    ·cases hy
    ·rename_i g1 g2;simp only[Qo]at hx hy;subst hx;subst hy;rw[hsub _ (List.getElem_mem hi),hsub _ (List.getElem_mem hj)]at e;rw[As7 g2,Z30,beq_eq_false_iff_ne]at this;exact this (by omega)
 ·rintro⟨⟨_,h3⟩,_,h4⟩ i hi k hk
  have hk':k<q.length:=by omega
  rw[Aej hi,Aej hk'];refine⟨?_,fun x hx hy=>h3 k i hk' hi hk x hy x hx rfl⟩;rw[Bool.and_eq_false_iff]
  by_cases g:q[i].A5=0
  ·left;simp[g]
  ·right;rw[beq_eq_false_iff_ne];intro e;refine h4 k i hk' hi hk (Aob .i64 q[k].A5 1) ?_ (Aob .i64 q[i].A5 1) ?_ (by rw[e])
   ·rw[if_neg (by rw[e];exact g)];simp
   ·rw[if_neg g];simp
theorem Bwj{w:Eb}(hp:Auz w.fC w.fP=true)(hL:(w.fL.length:Int)=w.fC.C0)(hq: ∀x∈w.fQ,An1 w x=true):Awl w w.fC.Ae.toNat=A21 w:=by
 obtain⟨hc,hm,hst,_⟩:=Av3 hp;obtain⟨b1,b2,b3,_⟩:=Ae1 hc
 have hone: ∀x∈w.fQ,(0≤x.A5∧x.A5≤w.fC.C0)∧Avu w.fC x.Ae=true∧Az3 w x=true∧Avy w x=true∧Ar3 w x=true:=by
  intro x hx
  have:=hq x hx;unfold An1 at this;simp only[Z4]at this;obtain⟨h1,h2,h3,h4,h5,h6⟩:=this;obtain⟨_,g1,_,g3,_⟩:=Avx h1;exact⟨g1,g3,h2,h4,h6⟩
 have hC: ∀x∈chL w.fQ,x∈A2v w:=by
  intro y hy;unfold chL at hy;rw[List.mem_flatMap]at hy;obtain⟨x,hx,hy⟩:=hy;obtain⟨_,g2,g3,_⟩:=hone x hx
  have:=A20 g2 y hy;unfold Az3 at g3;rw[Z1]at g3
  have g4:=g3 y hy;refine Avz.2 ⟨⟨this.1,by omega⟩,?_⟩
  rw[show((y.toNat:Nat):Int)=y by omega];exact g4
 have hS: ∀x∈slL w.fQ,x∈A0b w:=by
  intro y hy;unfold slL at hy;rw[List.mem_flatMap]at hy;obtain⟨x,hx,hy⟩:=hy;obtain⟨g1,g2,g3,g4,_⟩:=hone x hx;split at hy
  ·cases hy
  ·rename_i g;simp only[Qo]at hy;unfold Avy at g4;rw[Aqo g,Z52,←hy]at g4
   have:y=x.A5 - 1:=by rw[hy];unfold Aob;rw[Ag4 (by omega) (by omega)]
   refine Avz.2 ⟨⟨by omega,by omega⟩,?_⟩
   rw[show((y.toNat:Nat):Int)=y by omega];exact g4
 have hK2: ∀x∈kdL w.fL w.fQ,x∈A52 w:=by
  intro y hy;unfold kdL at hy;rw[List.mem_flatMap]at hy;obtain⟨x,hx,hy⟩:=hy;obtain⟨g1,g2,g3,g4,g5⟩:=hone x hx;unfold Ar3 at g5;rw[Z1]at g5
  have:=A50 _ _ y hy;refine Avz.2 ⟨this,?_⟩;rw[show((y.toNat:Nat):Int)=y by omega];exact g5 y hy
 have e1:=A51 hC (A0t _ _)
 have e2:=A51 hS (A0t _ _)
 have e3:=A51 hK2 (A0t _ _)
 have hp2:=Ba8 (w:=w) (q:=w.fQ) (fun x hx=>A5y (hone x hx).2.1) (fun x hx=>by have:=(hone x hx).1;omega)
 rw[Bool.eq_iff_iff];unfold Awl A21;simp only[Z4,Z1,List.mem_range,Bool.or_eq_true,Zh,beq_iff_eq,Bcl,hp2,beq_eq_false_iff_ne]
 have c1:(∀x∈A2v w,(chL w.fQ).count x=1) ↔ ∀k,k<w.fP.Hh.length->gt w.fP.Hh (k:Int)≠2∨gt (Ak3 w.fC.Ae.toNat (chL w.fQ)) (k:Int)=1:=by
  constructor
  ·intro h k hk
   by_cases g:gt w.fP.Hh (k:Int)=2
   ·right;rw[Ay3 (by omega) (by omega),h k (Avz.2 ⟨⟨by omega,by omega⟩,by simpa using g⟩)];rfl
   ·left;exact g
  ·intro h x hx;obtain⟨⟨h1,h2⟩,h3⟩:=Avz.1 hx;rw[beq_iff_eq,show((x.toNat:Nat):Int)=x by omega]at h3
   rcases h x.toNat (by omega)with h4|h4
   ·rw[show((x.toNat:Nat):Int)=x by omega]at h4;exact absurd h3 h4
   ·rw[show((x.toNat:Nat):Int)=x by omega,Ay3 h1 (by omega)]at h4;omega
 have c2:(∀x∈A0b w,(slL w.fQ).count x=1) ↔ ∀k,k<w.fL.length->(gt w.fL (k:Int)).Hh≠2∨gt (Ak3 w.fL.length (slL w.fQ)) (k:Int)=1:=by
  constructor
  ·intro h k hk
   by_cases g:(gt w.fL (k:Int)).Hh=2
   ·right;rw[Ay3 (by omega) (by omega),h k (Avz.2 ⟨⟨by omega,by omega⟩,by simpa using g⟩)];rfl
   ·left;exact g
  ·intro h x hx;obtain⟨⟨h1,h2⟩,h3⟩:=Avz.1 hx;rw[beq_iff_eq,show((x.toNat:Nat):Int)=x by omega]at h3
   rcases h x.toNat (by omega)with h4|h4
   ·rw[show((x.toNat:Nat):Int)=x by omega]at h4;exact absurd h3 h4
   ·rw[show((x.toNat:Nat):Int)=x by omega,Ay3 h1 (by omega)]at h4;omega
 have c3:(∀x∈A52 w,(kdL w.fL w.fQ).count x=1) ↔ ∀k,k<w.fL.length->Awu w.fL (k:Int)=false∨gt (Ak3 w.fL.length (kdL w.fL w.fQ)) (k:Int)=1:=by
  constructor
  ·intro h k hk;cases g:Awu w.fL (k:Int)with
   |true=>
    right;rw[Ay3 (by omega) (by omega),h k (Avz.2 ⟨⟨by omega,by omega⟩,by simpa using g⟩)];rfl
   |false=>left;rfl
  ·intro h x hx;obtain⟨⟨h1,h2⟩,h3⟩:=Avz.1 hx;rw[show((x.toNat:Nat):Int)=x by omega]at h3
   rcases h x.toNat (by omega)with h4|h4
   ·rw[show((x.toNat:Nat):Int)=x by omega,h3]at h4;cases h4
   ·rw[show((x.toNat:Nat):Int)=x by omega,Ay3 h1 (by omega)]at h4;omega
 rw[←c1,e1]
 have hsplit:(∀k,k<w.fL.length->((gt w.fL (k:Int)).Hh≠2∨gt (Ak3 w.fL.length (slL w.fQ)) (k:Int)=1)∧(Awu w.fL (k:Int)=false∨gt (Ak3 w.fL.length (kdL w.fL w.fQ)) (k:Int)=1)) ↔ (((slL w.fQ).Nodup∧(slL w.fQ).length=(A0b w).length)∧((kdL w.fL w.fQ).Nodup∧(kdL w.fL w.fQ).length=(A52 w).length)):=by
  rw[←show _ ↔ ((slL w.fQ).Nodup∧(slL w.fQ).length=(A0b w).length) from c2.symm.trans e2,←show _ ↔ ((kdL w.fL w.fQ).Nodup∧(kdL w.fL w.fQ).length=(A52 w).length) from c3.symm.trans e3]
  exact⟨fun h=>⟨fun k hk=>(h k hk).1,fun k hk=>(h k hk).2⟩,fun h k hk=>⟨h.1 k hk,h.2 k hk⟩⟩
 rw[hsplit];constructor
 ·rintro⟨⟨a1,a2⟩,⟨a3,a4⟩,a5,a6⟩;exact⟨⟨a1,a3⟩,a5,by omega,by omega,by omega⟩
 ·rintro⟨⟨a1,a3⟩,a5,a2,a4,a6⟩;exact⟨⟨a1,by omega⟩,⟨a3,by omega⟩,a5,by omega⟩
theorem A9q{α β:Type}{K:Nat}(hK:281474976710656≤K)(l:List α)(hl:l.length≤140737488355328)(q:α->Bool)(fin bad:Option β)(L:Nat->Nat->Option β)
  (hs: ∀n (i:Nat) (h:i<l.length),L (n+1) i=bif q l[i]then L n (i+1)else bad)
  (he: ∀n,L (n+1) l.length=fin):L K 0=bif l.all q then fin else bad:=by
 have:=Bdn l q fin bad (fun n i=>L n i.toNat) (fun n i h=>by simpa using hs n i h) (fun n=>by simpa using he n) K 0 (Z21 _) (by omega)
 simpa using this
section
variable {K:Nat} (hK:281474976710656≤K)
include hK
theorem Bfc (w:Eb)(hw:Aqq w):Aei K (Ak3 w.fL.length (slL w.fQ)) (Ak3 w.fL.length (kdL w.fL w.fQ)) w.fL K (w.fL.length:Int) 0 w.fL=some ((List.range w.fL.length).all (fun k=>(!((gt w.fL (k:Int)).Hh==2)||gt (Ak3 w.fL.length (slL w.fQ)) k==1)&&(!Awu w.fL k||gt (Ak3 w.fL.length (kdL w.fL w.fQ)) k==1))):=by
 have hl:=Aek hw.l
 rw[Apw hK w.fL.length (by omega) (fun k=>(!((gt w.fL (k:Int)).Hh==2)||gt (Ak3 w.fL.length (slL w.fQ)) k==1)&&(!Awu w.fL k||gt (Ak3 w.fL.length (kdL w.fL w.fQ)) k==1)) (some true) (fun n i=>Aei K (Ak3 w.fL.length (slL w.fQ)) (Ak3 w.fL.length (kdL w.fL w.fQ)) w.fL n (w.fL.length:Int) i w.fL) (fun n i h=> ?_) (fun n=> ?_)]
 ·cases (List.range w.fL.length).all _<;>rfl
 ·simp only[Aei,Ak4];rw[Afe h,cond_true,if_pos (Ai8 h),A2t K hw.l (Ai8 h),Ag5 (by omega)]
  simp only[Z0,Azy,if_pos (Ai8 h),bne,Ac2];cases (gt w.fL (i:Int)).Hh==2<;>cases gt (Ak3 w.fL.length (slL w.fQ)) (i:Int)==1<;>cases Awu w.fL i<;>cases gt (Ak3 w.fL.length (kdL w.fL w.fQ)) (i:Int)==1<;>rfl
 ·show Aei K _ _ _ (n+1) _ _ _=_;rw[Aei,Agf (Z9 _),cond_false]
theorem Bfd (w:Eb)(hw:Aqq w)(hp:Auz w.fC w.fP=true):Ag2 K (Ak3 w.fC.Ae.toNat (chL w.fQ)) (Ak3 w.fL.length (slL w.fQ)) (Ak3 w.fL.length (kdL w.fL w.fQ)) w.fP.Hh w.fL K (w.fP.Hh.length:Int) 0 w.fP.Hh=some (Awl w w.fC.Ae.toNat):=by
 obtain⟨hc,hm,hst,_⟩:=Av3 hp;obtain⟨b1,_⟩:=Ae1 hc
 rw[Apw hK w.fP.Hh.length (by omega) (fun k=> !(gt w.fP.Hh k==2)||gt (Ak3 w.fC.Ae.toNat (chL w.fQ)) k==1) (some ((List.range w.fL.length).all (fun k=>(!((gt w.fL (k:Int)).Hh==2)||gt (Ak3 w.fL.length (slL w.fQ)) k==1)&&(!Awu w.fL k||gt (Ak3 w.fL.length (kdL w.fL w.fQ)) k==1)))) (fun n i=>Ag2 K (Ak3 w.fC.Ae.toNat (chL w.fQ)) (Ak3 w.fL.length (slL w.fQ)) (Ak3 w.fL.length (kdL w.fL w.fQ)) w.fP.Hh w.fL n (w.fP.Hh.length:Int) i w.fP.Hh) (fun n i h=> ?_) (fun n=> ?_)]
 ·rw[Ai5];rfl
 ·simp only[Ag2,Ap8];rw[Afe h,cond_true,if_pos (Ai8 h),Ag5 (by omega)]
  simp only[Azy,if_pos (show(0:Int)≤(i:Int)∧(i:Int)<((w.fC.Ae.toNat:Nat):Int) from⟨by omega,by omega⟩),bne,Ac2]
  cases gt w.fP.Hh (i:Int)==2<;>cases gt (Ak3 w.fC.Ae.toNat (chL w.fQ)) (i:Int)==1<;>rfl
 ·show Ag2 K _ _ _ _ _ (n+1) _ _ _=_;rw[Ag2,Agf (Z9 _),cond_false,Bfc hK w hw]
theorem Ba9{β:Type}(N:Nat)(base l:List Int)(hin: ∀x∈l,0≤x∧x<(N:Int))(hl:base.length+l.length≤140737488355327)(q:Int->Bool)(fin bad:Option β)(L:Nat->List Int->Int->Option β)
  (hs: ∀n v (i:Nat) (h:i<l.length),v.length=N->L (n+1) v (i:Int)=bif q l[i]then L n (v.set (l[i]).toNat (Aoa .i64 (gt v l[i]) 1)) ((i+1:Nat):Int)else bad)
  (he: ∀n,L (n+1) (Ak3 N (base++l)) (l.length:Int)=fin):L K (Ak3 N base) 0=bif l.all q then fin else bad:=by
 have:=A9q hK l (by omega) q fin bad (fun n i=>L n (Ak3 N (base++l.take i)) (i:Int)) (fun n i h=> ?_) (fun n=> ?_)
 ·simpa using this
 ·have hb:(base++l.take i).length≤140737488355327:=by simp;omega
  have h1:=hin _ (List.getElem_mem h);rw[hs n _ i h (Azy _ _),Ba7 h1.1 h1.2 hb,Lo,List.take_append_getElem]
 ·simp only[List.take_length];exact he n
theorem Bcm (w:Eb)(hw:Aqq w)(hp:Auz w.fC w.fP=true)(hL:(w.fL.length:Int)=w.fC.C0)(x:Ax)(hx:Ay0 x)(c s d:List Int)(i:Nat)(n:Nat)(hi:i<w.fQ.length)(he:gt w.fQ i=x)
  (hb1:c.length+12≤140737488355327) (hb2:s.length≤140737488355326) (hb3:d.length+8≤140737488355327):
  Aa1 K (n+1) (Ak3 w.fC.Ae.toNat c) (Ak3 w.fL.length s) (Ak3 w.fL.length d) w.fQ (w.fQ.length:Int) i w.fC.Ae w.fC.Eg w.fC.C0 w.fC.E9 w.fC.C1 w.fC.Eh w.fP.Fy w.fP.Hh w.fP.Fz w.fL w.fQ w.Pr
   =bif An1 w x then Aa1 K n (Ak3 w.fC.Ae.toNat (c++x.Ae)) (Ak3 w.fL.length (s++if x.A5=0 then []else [Aob .i64 x.A5 1])) (Ak3 w.fL.length (d++Al7 w.fL x.Bt)) w.fQ (w.fQ.length:Int) ((i+1:Nat):Int) w.fC.Ae w.fC.Eg w.fC.C0 w.fC.E9 w.fC.C1 w.fC.Eh w.fP.Fy w.fP.Hh w.fP.Fz w.fL w.fQ w.Pr else some false:=by
 have hq:=hw.q.2;rw[Aa1];rw[show Er.mk w.fC.Ae w.fC.Eg w.fC.C0 w.fC.E9 w.fC.C1 w.fC.Eh=w.fC from rfl,show Dw.mk w.fP.Fy w.fP.Hh w.fP.Fz=w.fP from rfl]
 rw[Afe hi,cond_true,if_pos (Ai8 hi),he,A6r hK _ _ hx,Z0];unfold An1;cases hr:As8 w.fC x with
 |false=>rfl
 |true=>
 rw[cond_true,Z30];obtain⟨hc,⟨s1,s2⟩,⟨f1,f2⟩,hd,d1,d2⟩:=Avx hr;obtain⟨_,hm,hst,_⟩:=Av3 hp;obtain⟨b1,b2,b3,_⟩:=Ae1 hc
 have hch:=A20 hd
 have hcl:=A5z hc hd
 have h5: ∀s',Apc K (Ak3 w.fL.length d) w.fQ (w.fQ.length:Int) i w.fC.Ae w.fC.Eg w.fC.C0 w.fC.E9 w.fC.C1 w.fC.Eh w.fP.Fy w.fP.Hh w.fP.Fz w.fL w.fQ w.Pr x.Bt (Ak3 w.fC.Ae.toNat (c++x.Ae)) s' (Aa1 K n)
   =bif Ar3 w x then Aa1 K n (Ak3 w.fC.Ae.toNat (c++x.Ae)) s' (Ak3 w.fL.length (d++Al7 w.fL x.Bt)) w.fQ (w.fQ.length:Int) ((i+1:Nat):Int) w.fC.Ae w.fC.Eg w.fC.C0 w.fC.E9 w.fC.C1 w.fC.Eh w.fP.Fy w.fP.Hh w.fP.Fz w.fL w.fQ w.Pr else some false:=by
  intro s'
  have hk:=Az2 (l:=w.fL) w.fL.length (Aob .i64 x.Bt 1)
  have hin:=A50 (l:=w.fL) w.fL.length (Aob .i64 x.Bt 1);unfold Apc Ar3;rw[Ba5 hK hw.l,Z0];change (Al7 w.fL x.Bt).length≤_ at hk;change ∀y∈Al7 w.fL x.Bt,_ at hin;generalize Al7 w.fL x.Bt=r at*
  refine Ba9 hK w.fL.length d r hin (by omega) (Awu w.fL) _ _ (fun m v j=>Ai0 K w.fQ (w.fQ.length:Int) i w.fC.Ae w.fC.Eg w.fC.C0 w.fC.E9 w.fC.C1 w.fC.Eh w.fP.Fy w.fP.Hh w.fP.Fz w.fL w.fQ w.Pr (Ak3 w.fC.Ae.toNat (c++x.Ae)) s' r (Aa1 K n) m v (r.length:Int) j) (fun m v j hj hv=> ?_) (fun m=> ?_)
  ·have hr1:=hin _ (Apl hj);simp only[Ai0];rw[Afe hj,cond_true,if_pos (Ai8 hj),if_pos (by rw[hv];exact hr1),if_pos (by rw[hv];exact hr1),A2t K hw.l hr1,Ag5 (by omega),Z0,Ac2,Aej hj]
  ·show Ai0 K _ _ _ _ _ _ _ _ _ _ _ _ _ _ _ _ _ _ _ (m+1) _ _ _=_;rw[Ai0,Agf (Z9 _),cond_false,Ag5 (by omega)]
 have h4: ∀s',Apd K (Ak3 w.fL.length d) w.fQ (w.fQ.length:Int) i w.fC.Ae w.fC.Eg w.fC.C0 w.fC.E9 w.fC.C1 w.fC.Eh w.fP.Fy w.fP.Hh w.fP.Fz w.fL w.fQ w.Pr x.Bt (Ak3 w.fC.Ae.toNat (c++x.Ae)) (Aa1 K n) s'
   =bif Awv w x&&Ar3 w x then Aa1 K n (Ak3 w.fC.Ae.toNat (c++x.Ae)) s' (Ak3 w.fL.length (d++Al7 w.fL x.Bt)) w.fQ (w.fQ.length:Int) ((i+1:Nat):Int) w.fC.Ae w.fC.Eg w.fC.C0 w.fC.E9 w.fC.C1 w.fC.Eh w.fP.Fy w.fP.Hh w.fP.Fz w.fL w.fQ w.Pr else some false:=by
  intro s';unfold Apd Awv;rw[h5]
  by_cases g:x.Bt=0
  ·rw[g];rfl
  ·rw[decide_eq_true (by omega),cond_true,if_pos (A1l hK hL hc g f1 f2),Aqo g]
   simp only[bne,Ac2,Z52];cases (gt w.fL (Aob .i64 x.Bt 1)).Gs==0<;>rfl
 have h2:Ape K (Ak3 w.fC.Ae.toNat c) (Ak3 w.fL.length s) (Ak3 w.fL.length d) w.fQ (w.fQ.length:Int) i w.fC.Ae w.fC.Eg w.fC.C0 w.fC.E9 w.fC.C1 w.fC.Eh w.fP.Fy w.fP.Hh w.fP.Fz w.fL w.fQ w.Pr (Aa1 K n) x.A5 x.Bt x.Dg x.Ae x.Gu
   =bif Az3 w x&&(Avy w x&&(Awv w x&&Ar3 w x))then Aa1 K n (Ak3 w.fC.Ae.toNat (c++x.Ae)) (Ak3 w.fL.length (s++if x.A5=0 then []else [Aob .i64 x.A5 1])) (Ak3 w.fL.length (d++Al7 w.fL x.Bt)) w.fQ (w.fQ.length:Int) ((i+1:Nat):Int) w.fC.Ae w.fC.Eg w.fC.C0 w.fC.E9 w.fC.C1 w.fC.Eh w.fP.Fy w.fP.Hh w.fP.Fz w.fL w.fQ w.Pr else some false:=by
  unfold Ape;rw[Ba9 hK w.fC.Ae.toNat c x.Ae (fun y hy=>by have:=hch y hy;omega) (by omega) (fun k=>gt w.fP.Hh k==2)
   (bif Avy w x&&(Awv w x&&Ar3 w x)then Aa1 K n (Ak3 w.fC.Ae.toNat (c++x.Ae)) (Ak3 w.fL.length (s++if x.A5=0 then []else [Aob .i64 x.A5 1])) (Ak3 w.fL.length (d++Al7 w.fL x.Bt)) w.fQ (w.fQ.length:Int) ((i+1:Nat):Int) w.fC.Ae w.fC.Eg w.fC.C0 w.fC.E9 w.fC.C1 w.fC.Eh w.fP.Fy w.fP.Hh w.fP.Fz w.fL w.fQ w.Pr else some false) (some false)
   (fun m v j=>Ai1 K (Ak3 w.fL.length s) (Ak3 w.fL.length d) w.fQ (w.fQ.length:Int) i w.fC.Ae w.fC.Eg w.fC.C0 w.fC.E9 w.fC.C1 w.fC.Eh w.fP.Fy w.fP.Hh w.fP.Fz w.fL w.fQ w.Pr x.A5 x.Bt x.Ae (Aa1 K n) m v (x.Ae.length:Int) j x.Ae) (fun m v j hj hv=> ?_) (fun m=> ?_)]
  ·unfold Az3;cases x.Ae.all _<;>rfl
  ·have hr1:=hch _ (Apl hj);simp only[Ai1];rw[Afe hj,cond_true,if_pos (Ai8 hj),if_pos (by rw[hv];omega),if_pos (by rw[hv];omega),if_pos ⟨hr1.1,by omega⟩,Ag5 (by omega),bne,Ac2,Aej hj]
  ·show Ai1 K _ _ _ _ _ _ _ _ _ _ _ _ _ _ _ _ _ _ _ _ _ (m+1) _ _ _ _=_;rw[Ai1,Agf (Z9 _),cond_false,h4,h4,Azy];unfold Avy
   by_cases g:x.A5=0
   ·rw[g,if_pos rfl,List.append_nil];rfl
   ·have hlk:=A1l hK hL hc g s1 s2;rw[decide_eq_true (by omega),cond_true,if_pos hlk,if_pos hlk,if_neg g,Ba7 hlk.1 hlk.2 (by omega),Aqo g]
    simp only[bne,Ac2,Z52,if_pos hlk];cases (gt w.fL (Aob .i64 x.A5 1)).Hh==2<;>rfl
 rw[h2];unfold A1k
 by_cases g:(x.Ae.length:Int)>0
 ·have h5:=hch _ (Axb (l:=x.Ae) (Int.le_refl 0) (by omega))
  obtain⟨e1,e2,e3,e4⟩:=A1e hc hm h5.1 h5.2
  have hlc:(Avt w.fC w.fP.Fy (gt x.Ae 0)).length=w.fC.Eg.toNat:=by unfold Avt;simp;omega
  have htk:List.take (x.Gu - 0).toNat (List.drop (0:Int).toNat (Avt w.fC w.fP.Fy (gt x.Ae 0)))=List.take x.Gu.toNat (List.drop (gt x.Ae 0*w.fC.Eg).toNat w.fP.Fy):=by
   unfold Avt;simp only[Int.sub_zero,Int.toNat_zero,Z55,List.take_take];rw[Nat.min_eq_left (by omega)]
  rw[decide_eq_true g,cond_true,if_pos ⟨by omega,by omega⟩,A5l hK hc hm h5.1 h5.2,Z0,if_pos ⟨by omega,by omega,by rw[hlc];omega⟩,htk,Azt hK _ (by simp;omega)]
  simp only[Z0,Ac2,Bool.not_true,Z52];cases Ayl (List.take x.Gu.toNat (List.drop (gt x.Ae 0*w.fC.Eg).toNat w.fP.Fy))<;>cases Az3 w x<;>rfl
 ·rw[decide_eq_false g];simp only[cond_false,Bool.not_false,Bool.true_or,Z30]
theorem Bdt (q:List Ax):(slL q).length≤q.length:=by
 have:=A1m q (fun x=>if x.A5=0 then []else [Aob .i64 x.A5 1]) 1 (fun x _=>by split<;>simp)
 simpa[slL]using this
theorem A9r (l:List Ba)(hl:l.length≤8)(q:List Ax):(kdL l q).length≤q.length*8:=
 A1m _ _ 8 fun x _=>To (Az2 _ _) hl
end
theorem Bcn{β:Type}(N:Nat)(hN:N≤140737488355327)(q:Nat->Bool)(fin:Int->Option β)(L:Nat->Int->Int->Option β)
  (hs: ∀n (v:Int) (i:Nat),i<N->0≤v->v≤i->L (n+1) v (i:Int)=bif q i then L n (v+1) ((i+1:Nat):Int)else L n v ((i+1:Nat):Int))
  (he: ∀n v,L (n+1) v (N:Int)=fin v):
  ∀(n i:Nat) (v:Int),0≤v->v≤i->i≤N->N - i<n->L n v (i:Int)=fin (v+((((List.range N).drop i).filter q).length:Int)):=by
 intro n
 induction n with
 |zero=>intro i v _ _ _ h;omega
 |succ n ih=>
  intro i v h0 hv hi hn;rcases F9 i N with h|h
  ·rw[hs n v i h h0 hv,Z47 (by simpa using h),List.getElem_range,List.filter_cons]
   cases hq:q i with
   |true=>
    rw[cond_true,ih (i+1) _ (by omega) (by omega) (by omega) (by omega)]
    simp only[if_true,Y9]
    congr 1
    omega
   |false=>
    rw[cond_false,ih (i+1) _ (by omega) (by omega) (by omega) (by omega)]
    simp
  ·obtain rfl:i=N:=by omega
   rw[he,Z48 (by simp)];simp
theorem A9s{v:Int}(h0:0≤v)(h:v≤140737488355328):Aoa .i64 v 1=v+1:=by unfold Aoa;rw[Ag4 (by omega) (by omega)]
section
variable {K:Nat} (hK:281474976710656≤K)
include hK
theorem A9t (w:Eb)(hw:Aqq w)(hp:Auz w.fC w.fP=true)(hL:(w.fL.length:Int)=w.fC.C0):Aq3 K w=some (w.fQ.all (An1 w)&&Awl w w.fC.Ae.toNat):=by
 obtain⟨hc,hm,hst,_⟩:=Av3 hp;obtain⟨b1,b2,b3,_⟩:=Ae1 hc
 have hq:=hw.q.2
 have key: ∀(n i:Nat),(∀x∈w.fQ.take i,An1 w x=true)->i≤w.fQ.length->w.fQ.length - i<n→
   Aa1 K n (Ak3 w.fC.Ae.toNat (chL (w.fQ.take i))) (Ak3 w.fL.length (slL (w.fQ.take i))) (Ak3 w.fL.length (kdL w.fL (w.fQ.take i))) w.fQ (w.fQ.length:Int) i w.fC.Ae w.fC.Eg w.fC.C0 w.fC.E9 w.fC.C1 w.fC.Eh w.fP.Fy w.fP.Hh w.fP.Fz w.fL w.fQ w.Pr=some ((w.fQ.drop i).all (An1 w)&&Awl w w.fC.Ae.toNat):=by
  intro n
  induction n with
  |zero=>intro i _ _ h;omega
  |succ n ih=>
   intro i hpre hi hn;rcases F9 i w.fQ.length with h|h
   ·have hb1:(chL (w.fQ.take i)).length≤(w.fQ.take i).length*12:=A1m _ _ 12 fun x hx=>by
     have:=hpre x hx;unfold An1 at this;simp only[Z4]at this;obtain⟨hc,_,_,hd,_⟩:=Avx this.1;exact A5z hc hd
    have hb2:=Bdt hK (w.fQ.take i)
    have hb3:=A9r hK w.fL (by omega) (w.fQ.take i)
    rw[List.length_take]at hb1 hb2 hb3;rw[Bcm hK w hw hp hL w.fQ[i] (hw.q.1 _ (List.getElem_mem h)) _ _ _ i n h (Aej h) (by omega) (by omega) (by omega),Z47 h,F3]
    cases hx:An1 w w.fQ[i]with
    |false=>rfl
    |true=>
     rw[cond_true,Z30,←ih (i+1) (fun x hx2=>by
      rw[←List.take_append_getElem h,Gy]at hx2;rcases hx2 with hx2|hx2
      ·exact hpre x hx2
      ·simp only[Qo]at hx2;rw[hx2];exact hx) h (by omega)]
     unfold chL slL kdL;rw[Axd _ _ _ h,Axd _ _ _ h,Axd _ _ _ h]
   ·obtain rfl:i=w.fQ.length:=by omega
    rw[Aa1,Agf (Z9 _),cond_false,List.take_length,Bfd hK w hw hp,List.drop_length];rfl
 unfold Aq3;rw[if_pos ⟨by omega,by omega,by omega,by omega⟩,if_pos ⟨by omega,by omega,by omega,by omega⟩,if_pos ⟨by omega,by omega,by omega,by omega⟩]
 have:=key K 0 (fun x hx=>by simp at hx) (Z21 _) (by omega)
 rw[List.take_zero,Z55,show chL []=[] from rfl,show slL []=[] from rfl,show kdL w.fL []=[] from rfl,Ba6,Ba6]at this
 rw[←this,show w.fL.length=w.fC.C0.toNat by omega]
 rfl
theorem A9u (p:Dw)(st:Int)(hl:p.Hh.length≤140737488355327):Au4 K p st=some ((((List.range p.Hh.length).filter (fun k:Nat=>gt p.Hh k==st)).length:Nat):Int):=by
 unfold Au4
 have:=Bcn p.Hh.length hl (fun k:Nat=>gt p.Hh k==st) some (fun n v i=>Anr K st n v i p.Fy p.Hh p.Fz) (fun n v i hi h0 hv=> ?_) (fun n v=> ?_) K 0 0 (Int.le_refl _) (Int.le_refl _) (Z21 _) (by omega)
 ·simpa using this
 ·simp only[Anr,Atc];rw[Afe hi,cond_true,if_pos (Ai8 hi),Ag5 (by omega),A9s h0 (by omega)]
 ·show Anr K st (n+1) v _ _ _ _=_;rw[Anr,Agf (Z9 _),cond_false]
theorem A2z (l:List Ba)(st:Int)(hl:l.length≤140737488355327):Asi K l st=some ((((List.range l.length).filter (fun k:Nat=>(gt l k).Hh==st)).length:Nat):Int):=by
 unfold Asi
 have:=Bcn l.length hl (fun k:Nat=>(gt l k).Hh==st) some (fun n v i=>Ajb K l st n v i) (fun n v i hi h0 hv=> ?_) (fun n v=> ?_) K 0 0 (Int.le_refl _) (Int.le_refl _) (Z21 _) (by omega)
 ·simpa using this
 ·simp only[Ajb,Ara];rw[Afe hi,cond_true,if_pos (Ai8 hi),Ag5 (by omega),A9s h0 (by omega)]
 ·show Ajb K l st (n+1) v _=_;rw[Ajb,Agf (Z9 _),cond_false]
theorem Bco (w:Eb)(hw:Aqq w)(v1 v2:Int)(v3:List Int)(h3:v3.length≤140737488355327):
  Ahs K v1 v2 v3 w.fP.Fy w.fP.Hh w.fP.Fz w.fL K 0 0=some (A2n v3&&((v1==((A2v w).length:Int))&&((v2==((A0b w).length:Int))&&((v3.length:Int)==((A52 w).length:Int))))):=by
 have hl:=Aek hw.l
 have hs:=A0l hK hw.p.st
 have h8: ∀v24,Ak7 K v1 v2 v3 w.fP.Fy w.fP.Hh w.fP.Fz w.fL v24 K 0=some (A2n v3&&((v1==((A2v w).length:Int))&&((v2==((A0b w).length:Int))&&((v3.length:Int)==v24)))):=by
  intro v24;rw[Apw hK v3.length (by omega) (fun i=> !(v3.take i).contains (gt v3 i)) (some ((v1==((A2v w).length:Int))&&((v2==((A0b w).length:Int))&&((v3.length:Int)==v24)))) (fun n i=>Ak7 K v1 v2 v3 w.fP.Fy w.fP.Hh w.fP.Fz w.fL v24 n i) (fun n i h=> ?_) (fun n=> ?_)]
  ·rw[Ai5];rfl
  ·have hp:(v3.take i).length≤140737488355328:=by simp;omega
   simp only[Ak7];rw[Afe h,cond_true,if_pos (Bas (by omega)),if_pos (Ai8 h),A5n,Axk hK _ _ hp,Ag5 (by omega),Z0,Ac2]
  ·show Ak7 K v1 v2 v3 _ _ _ _ v24 (n+1) _=_;rw[Ak7,Agf (Z9 _),cond_false,A9u hK _ _ hs,A2z hK _ _ hl];simp only[Z0,Ai5];unfold A2v A0b;simp only[B8]
 have:=Bcn w.fL.length hl (fun k:Nat=>Awu w.fL k) (fun v=>some (A2n v3&&((v1==((A2v w).length:Int))&&((v2==((A0b w).length:Int))&&((v3.length:Int)==v))))) (fun n v i=>Ahs K v1 v2 v3 w.fP.Fy w.fP.Hh w.fP.Fz w.fL n v i) (fun n v i hi h0 hv=> ?_) (fun n v=> ?_) K 0 0 (Int.le_refl _) (Int.le_refl _) (Z21 _) (by omega)
 ·rw[show((0:Nat):Int)=0 from rfl]at this
  rw[this];unfold A52;simp only[B8,Z55,Int.zero_add]
 ·simp only[Ahs,Arz];rw[Afe hi,cond_true,A2s K hw.l (Ai8 hi),Z0,Ag5 (by omega),A9s h0 (by omega)]
 ·show Ahs K v1 v2 v3 _ _ _ _ (n+1) v _=_;rw[Ahs,Agf (Z9 _),cond_false,h8]
theorem Bba (w:Eb)(hw:Aqq w)(i n:Nat)(hi:i<w.fQ.length)(v1 v2:Int)(v3:List Int)(h1:0≤v1∧v1≤70368744177664)(h2:0≤v2∧v2≤70368744177664)(h3:(v3.length+w.fL.length)*8≤140737488355327)(hcl:(gt w.fQ i).Ae.length≤12):
  Ag0 K (n+1) v1 v2 v3 i w.fC.Ae w.fC.Eg w.fC.C0 w.fC.E9 w.fC.C1 w.fC.Eh w.fP.Fy w.fP.Hh w.fP.Fz w.fL w.fQ w.Pr
   =bif (List.range i).all (fun k=>A0u w.fQ i k)then Ag0 K n (v1+((gt w.fQ i).Ae.length:Int)) (v2+((if(gt w.fQ i).A5=0 then([]:List Int)else [Aob .i64 (gt w.fQ i).A5 1]).length:Int)) (v3++Al7 w.fL (gt w.fQ i).Bt) ((i+1:Nat):Int) w.fC.Ae w.fC.Eg w.fC.C0 w.fC.E9 w.fC.C1 w.fC.Eh w.fP.Fy w.fP.Hh w.fP.Fz w.fL w.fQ w.Pr else some false:=by
 have hq:=hw.q.2
 have hm:=Amf
 have hx:=hw.q.1 _ (Apl hi)
 have hkl:=Az2 (l:=w.fL) w.fL.length (Aob .i64 (gt w.fQ i).Bt 1);change (Al7 w.fL (gt w.fQ i).Bt).length≤_ at hkl
 have hJ: ∀v17 v18,Aqj K v3 i w.fC.Ae w.fC.Eg w.fC.C0 w.fC.E9 w.fC.C1 w.fC.Eh w.fP.Fy w.fP.Hh w.fP.Fz w.fL w.fQ w.Pr (Ag0 K n) v17 v18
   =bif (List.range i).all (fun k=>A0u w.fQ i k)then Ag0 K n v17 v18 (v3++Al7 w.fL (gt w.fQ i).Bt) ((i+1:Nat):Int) w.fC.Ae w.fC.Eg w.fC.C0 w.fC.E9 w.fC.C1 w.fC.Eh w.fP.Fy w.fP.Hh w.fP.Fz w.fL w.fQ w.Pr else some false:=by
  intro v17 v18;unfold Aqj
  have hlen:(v3++Al7 w.fL (gt w.fQ i).Bt).length=v3.length+(Al7 w.fL (gt w.fQ i).Bt).length:=by simp
  rw[if_pos (Ai8 hi),A2u hK hw.l hx.first,Z0,if_pos ⟨by rw[hlen];omega,by rw[hlen];omega⟩]
  rw[Apw hK i (by omega) (fun k=>A0u w.fQ i k) _ (fun m k=>Ak5 K i w.fC.Ae w.fC.Eg w.fC.C0 w.fC.E9 w.fC.C1 w.fC.Eh w.fP.Fy w.fP.Hh w.fP.Fz w.fL w.fQ w.Pr v17 v18 (Ag0 K n) m (v3++Al7 w.fL (gt w.fQ i).Bt) k) (fun m k hk=> ?_) (fun m=> ?_)]
  ·have hk2:k<w.fQ.length:=by omega
   have hlk:=A0l hK (hw.q.1 _ (Apl hk2)).chunks
   have h4: ∀C:List Int->Int->Option Bool,Aqi K i w.fQ (v3++Al7 w.fL (gt w.fQ i).Bt) k C=bif (gt w.fQ i).Ae.all (fun y=> !(gt w.fQ k).Ae.contains y)then C (v3++Al7 w.fL (gt w.fQ i).Bt) ((k+1:Nat):Int)else some false:=by
    intro C;unfold Aqi;rw[Ar1 hK (gt w.fQ i).Ae (by omega) (fun y=> !(gt w.fQ k).Ae.contains y) _ (fun m j=>Ank K i w.fQ (v3++Al7 w.fL (gt w.fQ i).Bt) k C m j) (fun m j hj=> ?_) (fun m=> ?_)]
    ·simp only[Ank];rw[if_pos (Ai8 hi),Afe hj,cond_true,if_pos (Ai8 hk2),if_pos (Ai8 hj),Axk hK _ _ (by omega),Z0,Ag5 (by omega),Ac2,Aej hj,if_pos (Ai8 hi)]
    ·show Ank K i w.fQ _ k C (m+1) _=_;rw[Ank,if_pos (Ai8 hi),Agf (Z9 _),cond_false,Ag5 (by omega)]
   simp only[Ak5];rw[Afe hk,cond_true,if_pos (Ai8 hi),if_pos (Ai8 hk2),if_pos (Ai8 hi),h4];unfold A0u;cases (gt w.fQ (i:Int)).A5 != 0<;>cases (gt w.fQ (k:Int)).A5==(gt w.fQ (i:Int)).A5<;>cases (gt w.fQ i).Ae.all _<;>rfl
  ·show Ak5 K i _ _ _ _ _ _ _ _ _ _ _ _ v17 v18 _ (m+1) _ _=_;rw[Ak5,Agf (Z9 _),cond_false,Ag5 (by omega)]
 rw[Ag0,Afe hi,cond_true,if_pos (Ai8 hi),if_pos (Ai8 hi),hJ,hJ]
 have e1:Aoa .i64 v1 ((gt w.fQ i).Ae.length:Int)=v1+((gt w.fQ i).Ae.length:Int):=by unfold Aoa;rw[Ag4 (by omega) (by omega)]
 rw[e1,A9s h2.1 (by omega)]
 by_cases g:(gt w.fQ i).A5=0
 ·rw[if_pos g,g];simp
 ·rw[if_neg g,As7 g];simp
theorem Bbb (w:Eb)(hw:Aqq w)(hp:Auz w.fC w.fP=true)(hL:(w.fL.length:Int)=w.fC.C0)(hall: ∀x∈w.fQ,An1 w x=true):Atd K w=some (A21 w):=by
 obtain⟨hc,hm,hst,_⟩:=Av3 hp;obtain⟨b1,b2,b3,_⟩:=Ae1 hc
 have hq:=hw.q.2
 have hc12: ∀x∈w.fQ,x.Ae.length≤12:=fun x hx=>by
  have:=hall x hx;unfold An1 at this;simp only[Z4]at this;obtain⟨hc,_,_,hd,_⟩:=Avx this.1;exact A5z hc hd
 have h3:=A9r hK w.fL (by omega) w.fQ
 unfold Atd
 have:=A9q hK (List.range w.fQ.length) (by simp;omega) (fun i=>(List.range i).all (fun k=>A0u w.fQ i k)) (Ahs K ((chL w.fQ).length:Int) ((slL w.fQ).length:Int) (kdL w.fL w.fQ) w.fP.Fy w.fP.Hh w.fP.Fz w.fL K 0 0) (some false)
  (fun n i=>Ag0 K n ((chL (w.fQ.take i)).length:Int) ((slL (w.fQ.take i)).length:Int) (kdL w.fL (w.fQ.take i)) (i:Int) w.fC.Ae w.fC.Eg w.fC.C0 w.fC.E9 w.fC.C1 w.fC.Eh w.fP.Fy w.fP.Hh w.fP.Fz w.fL w.fQ w.Pr) (fun n i h=> ?_) (fun n=> ?_)
 ·rw[List.take_zero,show chL []=[] from rfl,show slL []=[] from rfl,show kdL w.fL []=[] from rfl]at this
  refine Eq.trans this ?_;rw[Bco hK w hw _ _ _ (by omega),Ai5]
  rfl
 ·have hi:i<w.fQ.length:=by simpa using h
  have hb1:(chL (w.fQ.take i)).length≤(w.fQ.take i).length*12:=A1m _ _ 12 fun x hx=>hc12 x (Za hx)
  have hb2:=Bdt hK (w.fQ.take i)
  have hb3:=A9r hK w.fL (by omega) (w.fQ.take i)
  rw[List.length_take]at hb1 hb2 hb3;simp only[List.getElem_range];rw[Bba hK w hw i n hi _ _ _ ⟨by omega,by omega⟩ ⟨by omega,by omega⟩ (by omega) (hc12 _ (Apl hi))]
  unfold chL slL kdL;rw[Axd _ _ _ hi,Axd _ _ _ hi,Axd _ _ _ hi,Aej hi,Ln,Ln];rfl
 ·rw[List.length_range,List.take_length,Ag0,Agf (Z9 _),cond_false]
end
def A53 (w:Eb):Bool:=
 Auz w.fC w.fP&&(((w.fL.length:Int)==w.fC.C0)&&((List.range w.fL.length).all (A5t w)&&(A63 w.fL&&((w.fQ.all (An1 w)&&Awl w w.fC.Ae.toNat)&&w.Pr.all (fun x=>inB x 0 255)))))
section
variable {K:Nat} (hK:281474976710656≤K)
include hK
theorem A9v (w:Eb)(hw:Aqq w):Avj K w=some (A53 w):=by
 have hl:=A0l hK hw.log;unfold Avj A53;rw[Baq hK,Z0];cases hp:Auz w.fC w.fP with
 |false=>rfl
 |true=>
 rw[cond_true,Z30];cases hL:(w.fL.length:Int)==w.fC.C0 with
 |false=>rfl
 |true=>
 rw[beq_iff_eq]at hL;rw[cond_true,Z30,A9l hK w hw hp,Ba4 hK hw.l,A9t hK w hw hp hL,Ayf hK _ (by omega)]
 simp only[Z0,Ai5]
theorem A9w (w:Eb)(hw:Aqq w):Au9 K w=some (A53 w):=by
 have hl:=A0l hK hw.log
 have hl2:=Aek hw.l
 have hq:=hw.q.2;unfold Au9 A53;rw[Bap hK,Z0];cases hp:Auz w.fC w.fP with
 |false=>rfl
 |true=>
 rw[cond_true,Z30];cases hL:(w.fL.length:Int)==w.fC.C0 with
 |false=>rw[bne,hL];rfl
 |true=>
 rw[bne,hL,Bool.not_true,cond_false,Z30,Ba3 hK hw.l,Z0,Ac2];rw[beq_iff_eq]at hL
 have e1:Er.mk w.fC.Ae w.fC.Eg w.fC.C0 w.fC.E9 w.fC.C1 w.fC.Eh=w.fC:=rfl
 have e2:Eb.mk (Er.mk w.fC.Ae w.fC.Eg w.fC.C0 w.fC.E9 w.fC.C1 w.fC.Eh) (Dw.mk w.fP.Fy w.fP.Hh w.fP.Fz) w.fL w.fQ w.Pr=w:=rfl
 have h3:w.fQ.all (An1 w)=true->Anv K w.fC.Ae w.fC.Eg w.fC.C0 w.fC.E9 w.fC.C1 w.fC.Eh w.fP.Fy w.fP.Hh w.fP.Fz w.fL w.fQ w.Pr K 0=some (w.Pr.all (fun x=>inB x 0 255)&&Awl w w.fC.Ae.toNat):=by
  intro hall;rw[Z1]at hall;rw[Bwj hp hL hall];rw[Ar1 hK w.Pr (by omega) (fun x=>inB x 0 255) (some (A21 w)) (Anv K w.fC.Ae w.fC.Eg w.fC.C0 w.fC.E9 w.fC.C1 w.fC.Eh w.fP.Fy w.fP.Hh w.fP.Fz w.fL w.fQ w.Pr) (fun n i h=> ?_) (fun n=> ?_)]
  ·rw[Ai5]
  ·rw[Anv,Afe h,cond_true,if_pos (Ai8 h),Asr,Ag5 (by omega),Z0,Ac2,Aej h]
  ·rw[Anv,Agf (Z9 _),cond_false,e2,Bbb hK w hw hp hL hall,Z0]
 have h2:Aps K w.fC.Ae w.fC.Eg w.fC.C0 w.fC.E9 w.fC.C1 w.fC.Eh w.fP.Fy w.fP.Hh w.fP.Fz w.fL w.fQ w.Pr K 0=some (w.fQ.all (An1 w)&&(w.Pr.all (fun x=>inB x 0 255)&&Awl w w.fC.Ae.toNat)):=by
  rw[Ar1 hK w.fQ (by omega) (An1 w) (Anv K w.fC.Ae w.fC.Eg w.fC.C0 w.fC.E9 w.fC.C1 w.fC.Eh w.fP.Fy w.fP.Hh w.fP.Fz w.fL w.fQ w.Pr K 0) (Aps K w.fC.Ae w.fC.Eg w.fC.C0 w.fC.E9 w.fC.C1 w.fC.Eh w.fP.Fy w.fP.Hh w.fP.Fz w.fL w.fQ w.Pr) (fun n i h=> ?_) (fun n=> ?_)]
  ·cases hall:w.fQ.all (An1 w)with
   |false=>rfl
   |true=>rw[cond_true,h3 hall];rfl
  ·rw[Aps,Afe h,cond_true,e2,A6s hK w hw hp hL i h,Ag5 (by omega),Z0,Ac2,Aej h]
  ·rw[Aps,Agf (Z9 _),cond_false]
 have h1:Anz K K 0 w.fC.Ae w.fC.Eg w.fC.C0 w.fC.E9 w.fC.C1 w.fC.Eh w.fP.Fy w.fP.Hh w.fP.Fz w.fL w.fQ w.Pr=some ((List.range w.fL.length).all (A5t w)&&(w.fQ.all (An1 w)&&(w.Pr.all (fun x=>inB x 0 255)&&Awl w w.fC.Ae.toNat))):=by
  rw[Apw hK w.fL.length (by omega) (A5t w) (some (w.fQ.all (An1 w)&&(w.Pr.all (fun x=>inB x 0 255)&&Awl w w.fC.Ae.toNat))) (fun n i=>Anz K n i w.fC.Ae w.fC.Eg w.fC.C0 w.fC.E9 w.fC.C1 w.fC.Eh w.fP.Fy w.fP.Hh w.fP.Fz w.fL w.fQ w.Pr) (fun n k hk=> ?_) (fun n=> ?_)]
  ·rw[Ai5]
  ·simp only[Anz];rw[e2,e1]
   have hn:=hw.l.1 _ (Apl hk)
   have l1:=A0l hK hn.chunks
   have l2:=Bll hK hn.things
   have l3:=A0l hK hn.tags;rw[Afe hk,cond_true,if_pos (Ai8 hk),Bat hK _ _ l1 l2 l3,Z0,A5q hK w k hk hw.p.st.2 l1,Ag5 (by omega),A6l hK _ _ l1 l2]
   simp only[Z0];unfold A5t;cases hb:Aw0 w.fC (gt w.fL k)with
   |false=>rfl
   |true=>
   cases Az1 w.fP k (gt w.fL k).Ae with
   |false=>rfl
   |true=>
   cases hi:(gt w.fL k).Ea.all (Aym w.fC (gt w.fL k).Ae)with
   |false=>simp only[cond_true,Z30,Bool.false_and,cond_false,if_pos (Ai8 hk)]
   |true=>
   have hs:=A5s hi;rw[A6i hK _ l2 (fun t ht=>(hs t ht).1),Bce hK w k hk hp hn hb hs];simp only[Z0,cond_true,Ac2,Z30,if_pos (Ai8 hk)];cases Av4 (gt w.fL k).Ea<;>cases A5r w.fC w.fP.Fy (gt w.fL k)<;>rfl
  ·show Anz K (n+1) _ _ _ _ _ _ _ _ _ _ _ _ _=_;rw[Anz,Agf (Z9 _),cond_false,h2]
 rw[h1];cases A63 w.fL with
 |false=>rw[cond_false];simp
 |true=>
  simp only[cond_true,Z30,Z7]
  ac_rfl
end
theorem Bwk{x:Int}:An4 x ↔ -9223372036854775808≤x∧x≤9223372036854775807:=by
 simp[An4,Lit.wf,IntKind.min,IntKind.max,IntKind.signed,IntKind.bits]
theorem Av0{n:Nat}(h:n≤reachBytes):n≤140737488355327:=by simp only[reachBytes]at h;omega
theorem Ary{n m:Nat}(h:n*m≤reachBytes)(hm:0<m):n≤140737488355327:=by
 have:n*1≤n*m:=Nat.mul_le_mul_left n hm;simp only[reachBytes]at h;omega
def Bwl (a:Es):Er:=Er.mk a.Ae a.Eg a.C0 a.E9 a.C1 a.Eh
def Bwm (a:Dx):Dw:=Dw.mk a.Fy a.Hh a.Fz
def A22 (a:Bb):A9:=A9.mk a.fAt a.Vu a.Vv
def Ayg (a:Bc):Ba:=Ba.mk a.Hh a.C2 a.Ly a.fUp a.Gq a.Bt a.Gr a.Gs a.Ae a.Pq a.Gt (a.Ea.map A22) a.Dg
def Awm (a:Ay):Ax:=Ax.mk a.A5 a.Bt a.Dg a.Ae a.Gu
def Ax8 (a:Ec):Eb:=Eb.mk (Bwl a.fC) (Bwm a.fP) (a.fL.map Ayg) (a.fQ.map Awm) a.Pr
section
variable {K:Nat} (hK:281474976710656≤K)
include hK
theorem Bfe{a:List Int}(w:A9e a):Au1 K a=some a:=by
 have hl:=Ary w.2.1 (by decide)
 unfold Au1;rw[if_pos ⟨by omega,by omega,by omega,by omega⟩]
 have:=A1c a some id (fun _ _=>rfl) (by omega) (fun n i v=>As9 K a n v i) (fun n i v=>rfl) K 0 (List.replicate (a.length:Int).toNat 0) (Z21 _) (by simp) (fun j hj=>by omega) (by omega)
 simpa using this
theorem Axp{a:List Int}(w:Awi a):Ang K a=some a:=by
 have hl:=Ary w.2.1 (by decide)
 have hr:a.length*8≤140737488355327:=Av0 w.2.1;unfold Ang;rw[if_pos ⟨by omega,by omega,by omega,by omega⟩]
 have:=A1c a some id (fun _ _=>rfl) (by omega) (fun n i v=>At3 K a n v i) (fun n i v=>rfl) K 0 (List.replicate (a.length:Int).toNat 0) (Z21 _) (by simp) (fun j hj=>by omega) (by omega)
 simpa using this
theorem Bcp{a:List Bb}(w:Avq a):At4 K a=some (a.map A22):=by
 have hl:=Ary w.2.1 (by decide)
 have hr:a.length*24≤140737488355327:=Av0 w.2.1;unfold At4;rw[if_pos ⟨by omega,by omega,by omega,by omega⟩]
 exact A1c a (Axe K) A22 (fun _ _=>rfl) (by omega) (fun n i v=>Asg K a n v i) (fun n i v=>rfl) K 0 _ (Z21 _) (by simp) (fun j hj=>by omega) (by omega)
theorem Blp{a:Bc}(w:Avr a):Att K a=some (Ayg a):=by
 unfold Att;obtain⟨_,_,_,_,_,_,_,_,h1,_,_,h2,h3⟩:=w;rw[Axp hK h1,Bcp hK h2,Axp hK h3];rfl
theorem Bff{a:List Bc}(w:Awj a):Ast K a=some (a.map Ayg):=by
 have hl:=Ary w.2.1 (by decide)
 have hr:a.length*152≤140737488355327:=Av0 w.2.1;unfold Ast;rw[if_pos ⟨by omega,by omega,by omega,by omega⟩]
 exact A1c a (Att K) Ayg (fun x hx=>Blp hK (w.1 x hx)) (by omega) (fun n i v=>Ata K a n v i) (fun n i v=>rfl) K 0 _ (Z21 _) (by simp) (fun j hj=>by omega) (by omega)
theorem Bfg{a:Ay}(w:At1 a):Asu K a=some (Awm a):=by
 unfold Asu;obtain⟨_,_,h1,h2,_⟩:=w;rw[Axp hK h1,Axp hK h2];rfl
theorem Bcq{a:List Ay}(w:Avs a):Ar5 K a=some (a.map Awm):=by
 have hl:=Ary w.2.1 (by decide)
 have hr:a.length*72≤140737488355327:=Av0 w.2.1;unfold Ar5;rw[if_pos ⟨by omega,by omega,by omega,by omega⟩]
 exact A1c a (Asu K) Awm (fun x hx=>Bfg hK (w.1 x hx)) (by omega) (fun n i v=>Ash K a n v i) (fun n i v=>rfl) K 0 _ (Z21 _) (by simp) (fun j hj=>by omega) (by omega)
theorem A65{a:Ec}(w:Aqb a):Ard K a=some (Ax8 a):=by
 unfold Ard Av7 Av8;obtain⟨_,⟨h1,h2,h3⟩,h4,h5,h6⟩:=w;rw[Bfe hK h1,Axp hK h2,Axp hK h3,Bff hK h4,Bcq hK h5,Axp hK h6];rfl
theorem A66{a:List Int}(hl:a.length≤140737488355327):As3 K a a=some true:=by
 unfold As3;simp only[bne_self_eq_false,cond_false];exact Blg a (by omega) (Atk K a a) (fun n i=>rfl) K 0 (Z21 _) (by omega)
theorem Axq{a:List Int}(w:a.length*8≤140737488355327):Aou K a a=some true:=by
 have hl:a.length≤140737488355327:=by omega
 unfold Aou;simp only[bne_self_eq_false,cond_false];exact Blg a (by omega) (Aum K a a) (fun n i=>rfl) K 0 (Z21 _) (by omega)
omit hK in
theorem Bfh (a:A9):As4 K a a=some true:=by simp[As4]
theorem Bcr{a:List A9}(w:A1h a):Aun K a a=some true:=by
 have hl:a.length≤140737488355327:=by have:=w.2;omega
 unfold Aun;simp only[bne_self_eq_false,cond_false];exact Blf a (As4 K) (fun x _=>Bfh x) (by omega) (Aq4 K a a) (fun n i=>by rw[Aq4];simp only[Ac2]) K 0 (Z21 _) (by omega)
theorem Blq{a:Ba}(w:Axn a):At0 K a a=some true:=by
 simp[At0,Axq hK w.chunks.2,Bcr hK w.things,Axq hK w.tags.2]
theorem Bfi{a:List Ba}(w:Aiq a):Avo K a a=some true:=by
 have hl:=Aek w;unfold Avo;simp only[bne_self_eq_false,cond_false];exact Blf a (At0 K) (fun x hx=>Blq hK (w.1 x hx)) (by omega) (Ars K a a) (fun n i=>by rw[Ars];simp only[Ac2]) K 0 (Z21 _) (by omega)
theorem Bfj{a:Ax}(w:Ay0 a):As5 K a a=some true:=by
 simp[As5,Axq hK w.tags.2,Axq hK w.chunks.2]
theorem Bcs{a:List Ax}(w:Bdo a):Auo K a a=some true:=by
 have hl:a.length≤140737488355327:=by have:=w.2;omega
 unfold Auo;simp only[bne_self_eq_false,cond_false];exact Blf a (As5 K) (fun x hx=>Bfj hK (w.1 x hx)) (by omega) (Aq5 K a a) (fun n i=>by rw[Aq5];simp only[Ac2]) K 0 (Z21 _) (by omega)
theorem A67{a:Eb}(w:Aqq a):Aqk K a a=some true:=by
 simp[Aqk,Ayd,Aye,A66 hK w.p.mem.2,Axq hK w.p.st.2,Axq hK w.p.own.2,Bfi hK w.l,Bcs hK w.q,Axq hK w.log.2]
omit hK in
theorem Bfk (a:List Int)(y:Int): ∃r,Au0 K a y=some r:=by
 unfold Au0;cases decide (Aob .i64 y (a.length:Int)<0)<;>exact⟨_,rfl⟩
omit hK in
theorem Axr (a:List Int)(y:Int): ∃r,Aok K a y=some r:=by
 unfold Aok;cases decide (Aob .i64 y (a.length:Int)<0)<;>exact⟨_,rfl⟩
omit hK in
theorem Bct (a:List Bb)(y:Int): ∃r,At2 K a y=some r:=by
 unfold At2;cases decide (Aob .i64 y (a.length:Int)<0)<;>exact⟨_,rfl⟩
omit hK in
theorem Blr (a:Bc)(y:Int): ∃r,Aqa K a y=some r:=by
 unfold Aqa;obtain⟨r1,h1⟩:=Axr (K:=K) a.Ae y;rw[h1];simp only[Z0];cases decide (r1<0)
 ·obtain⟨r2,h2⟩:=Bct (K:=K) a.Ea r1;simp only[h2,Z0,cond_false];cases decide (r2<0)
  ·obtain⟨r3,h3⟩:=Axr (K:=K) a.Dg r2;simp only[h3,Z0,cond_false];cases decide (r3<0)<;>exact⟨_,rfl⟩
  ·exact⟨_,rfl⟩
 ·exact⟨_,rfl⟩
theorem Bfl{a:List Bc}(w:Awj a)(y:Int): ∃r,Ass K a y=some r:=by
 have hl:=Ary w.2.1 (by decide)
 unfold Ass;cases decide (Aob .i64 y (a.length:Int)<0)
 ·exact Bs8 a (Aqa K) (fun x _ y=>Blr x y) (by omega) (Aqc K a) (fun n y i=>rfl) K 0 _ (Z21 _) (by omega)
 ·exact⟨_,rfl⟩
omit hK in
theorem Bfm (a:Ay)(y:Int): ∃r,Apv K a y=some r:=by
 unfold Apv;obtain⟨r1,h1⟩:=Axr (K:=K) a.Dg y;rw[h1];simp only[Z0];cases decide (r1<0)
 ·obtain⟨r2,h2⟩:=Axr (K:=K) a.Ae r1;simp only[h2,Z0,cond_false];cases decide (r2<0)<;>exact⟨_,rfl⟩
 ·exact⟨_,rfl⟩
theorem Bcu{a:List Ay}(w:Avs a)(y:Int): ∃r,Ar4 K a y=some r:=by
 have hl:=Ary w.2.1 (by decide)
 unfold Ar4;cases decide (Aob .i64 y (a.length:Int)<0)
 ·exact Bs8 a (Apv K) (fun x _ y=>Bfm x y) (by omega) (Apy K a) (fun n y i=>rfl) K 0 _ (Z21 _) (by omega)
 ·exact⟨_,rfl⟩
omit hK in
theorem Bls (a:Dx)(y:Int): ∃r,Ats K a y=some r:=by
 unfold Ats;obtain⟨r1,h1⟩:=Bfk (K:=K) a.Fy y;rw[h1];simp only[Z0];cases decide (r1<0)
 ·obtain⟨r2,h2⟩:=Axr (K:=K) a.Hh r1;simp only[h2,Z0,cond_false];cases decide (r2<0)
  ·obtain⟨r3,h3⟩:=Axr (K:=K) a.Fz r2;simp only[h3,Z0,cond_false];cases decide (r3<0)<;>exact⟨_,rfl⟩
  ·exact⟨_,rfl⟩
 ·exact⟨_,rfl⟩
theorem Bfn{a:Ec}(w:Aqb a)(y:Int): ∃r,Aqg K a y=some r:=by
 obtain⟨_,_,h4,h5,_⟩:=w;unfold Aqg;obtain⟨r1,h1⟩:=Bls (K:=K) a.fP y;rw[h1];simp only[Z0];cases decide (r1<0)
 ·obtain⟨r2,h2⟩:=Bfl hK h4 r1;simp only[h2,Z0,cond_false];cases decide (r2<0)
  ·obtain⟨r3,h3⟩:=Bcu hK h5 r2;simp only[h3,Z0,cond_false];cases decide (r3<0)
   ·obtain⟨r4,h4⟩:=Axr (K:=K) a.Pr r3;simp only[h4,Z0,cond_false];cases decide (r4<0)<;>exact⟨_,rfl⟩
   ·exact⟨_,rfl⟩
  ·exact⟨_,rfl⟩
 ·exact⟨_,rfl⟩
end
theorem Aqs{x:Int}(h:An4 x):wfi x:=Bwk.1 h
theorem Axs{l:List Int}(h:Awi l):Azu l:=⟨fun x hx=>Aqs (h.1 x hx),Av0 h.2.1⟩
theorem B2y{x:Int}(h:Bao x):0≤x∧x≤255:=by
 simpa[Bao,Lit.wf,IntKind.min,IntKind.max,IntKind.signed,IntKind.bits]using h
theorem Bfo{l:List Int}(h:A9e l):Blj l:=⟨fun x hx=>B2y (h.1 x hx),by have:=Av0 h.2.1;omega⟩
theorem Bcv{l:List Bb}(h:Avq l):A1h (l.map A22):=by
 refine⟨fun x hx=> ?_,by rw[B8];exact Av0 h.2.1⟩
 obtain⟨y,hy,rfl⟩:=Eo.1 hx;obtain⟨h1,h2,h3⟩:=h.1 y hy;exact⟨Aqs h1,Aqs h2,Aqs h3⟩
theorem Blt{a:Bc}(w:Avr a):Axn (Ayg a):=by
 obtain⟨h1,h2,h3,h4,h5,h6,h7,h8,h9,h10,h11,h12,h13⟩:=w;exact⟨Aqs h1,Aqs h2,Aqs h3,Aqs h4,Aqs h5,Aqs h6,Aqs h7,Aqs h8,Axs h9,Aqs h10,Aqs h11,Bcv h12,Axs h13⟩
theorem Bfp{a:Ay}(w:At1 a):Ay0 (Awm a):=by
 obtain⟨h1,h2,h3,h4,h5⟩:=w;exact⟨Aqs h1,Aqs h2,Axs h3,Axs h4,Aqs h5⟩
theorem Bfq{a:Ec}(w:Aqb a):Aqq (Ax8 a):=by
 obtain⟨⟨c1,c2,c3,c4,c5,c6⟩,⟨p1,p2,p3⟩,h3,h4,h5⟩:=w;refine⟨⟨Aqs c1,Aqs c2,Aqs c3,Aqs c4,Aqs c5,Aqs c6⟩,⟨Bfo p1,Axs p2,Axs p3⟩,⟨fun x hx=> ?_,?_⟩,⟨fun x hx=> ?_,?_⟩,Axs h5⟩
 ·obtain⟨y,hy,rfl⟩:=Eo.1 hx;exact Blt (h3.1 y hy)
 ·show(a.fL.map Ayg).length*152≤_;rw[B8];exact Av0 h3.2.1
 ·obtain⟨y,hy,rfl⟩:=Eo.1 hx;exact Bfp (h4.1 y hy)
 ·show(a.fQ.map Awm).length*72≤_;rw[B8];exact Av0 h4.2.1
def K0:Nat:=281474976710656
theorem Bcw{α:Type}[Inhabited α]{l:List α}{i:Nat}(h:i<l.length)(x:α):gt (l.set (i:Int).toNat x) (i:Int)=x:=by
 rw[Aej (by simpa using h)];simp
theorem Bwn{α:Type}(l:List α)(i:Nat)(x y:α):(l.set i x).set i y=l.set i y:=List.set_set ..
theorem Ayp{k:Nat}(h:k≤140737488355328):Aoa .i64 (k:Int) 1=((k+1:Nat):Int):=Ag5 h
theorem Bo3{α:Type}[Inhabited α]{l:List α}{i:Nat}(h:i<l.length):l.drop i=gt l (i:Int)::l.drop (i+1):=by
 rw[Aej h,Z47 h]
section
variable {K:Nat} (hK:281474976710656≤K)
include hK
def Av2 (n:Nat)(k:Nat):List Int:=(List.range n).map fun i=>((k+i:Nat):Int)
omit hK in
theorem Aqf (n k:Nat):(Av2 n k).length=n:=by simp[Av2]
omit hK in
theorem Bcx (k:Nat): ∀(n i:Nat) (v:List Int),k+v.length≤140737488355327->i≤v.length->(∀j,j<i->v[j]? =(Av2 v.length k)[j]?)->v.length - i<n→
  Aq6 K n v ((k+i:Nat):Int) (i:Int)=some (((k+v.length:Nat):Int),Av2 v.length k):=by
 intro n
 induction n with
 |zero=>intro i v _ _ _ h;omega
 |succ n ih=>
  intro i v hl hi hj hn;rw[Aq6];rcases F9 i v.length with h|h
  ·rw[Afe h];simp only[cond_true]
   have e:Aoa .i64 ((k+i:Nat):Int) 1=((k+(i+1):Nat):Int):=by unfold Aoa;rw[Ag4 (by omega) (by omega)];omega
   rw[if_pos ⟨by omega,by omega⟩,e,Ag5 (i:=i) (by omega)]
   have:=ih (i+1) (v.set (i:Int).toNat ((k+i:Nat):Int)) (by simpa using hl) (by simp only[Z49];omega) (fun j hj2=>by
    rw[Int.toNat_natCast,V8,Z49]
    by_cases e:i=j
    ·subst e;rw[if_pos rfl,if_pos h];simp[Av2,h]
    ·rw[if_neg e];exact hj j (by omega)) (by simp only[Z49];omega)
   rw[this];simp
  ·rw[Agf h]
   have hia:i=v.length:=by omega
   subst hia
   have e:v=Av2 v.length k:=by
    refine List.ext_getElem? fun j=> ?_;rcases F9 j v.length with hja|hja
    ·exact hj j hja
    ·rw[Z58 (by omega),Z58 (by rw[Aqf];omega)]
   simp only[cond_false];rw[←e]
theorem Axt (a:List Int)(k:Nat)(hk:k+a.length≤140737488355327):Ald K a (k:Int)=some (((k+a.length:Nat):Int),Av2 a.length k):=by
 unfold Ald;exact Bcx k K 0 a hk (Z21 _) (fun j hj=>by omega) (by omega)
def Bbc{α:Type}(_:α):Nat:=3
omit hK in
theorem Az4{α:Type}(l:List α):(l.map Bbc).sum=3*l.length:=by
 induction l with
 |nil=>rfl
 |cons a l ih=>simp only[Z8,List.sum_cons,Y9,ih,Bbc];omega
def Apm (x:Ba):Nat:=10+x.Ae.length+3*x.Ea.length+x.Dg.length
def Anq (x:Ax):Nat:=3+x.Dg.length+x.Ae.length
def Atr (p:Dw):Nat:=p.Fy.length+p.Hh.length+p.Fz.length
def cells (w:Eb):Nat:=Atr w.fP+(w.fL.map Apm).sum+(w.fQ.map Anq).sum+w.Pr.length
end
theorem Bta{y:Int}{n:Nat}(h0:0≤y)(h1:y≤1048576)(hn:n≤140737488355327):Aob .i64 y (n:Int)=y - n:=by
 unfold Aob;exact Ag4 (by omega) (by omega)
theorem A1n{n:Nat}{y r:Int}(hn:n≤140737488355327)(h0:0≤y)(h1:y≤1048576)(h:(bif (decide ((Aob .i64 y (n:Int))<0))then some (-1)else some (Aob .i64 y (n:Int)))=some r)(hr:0≤r):r+n=y:=by
 rw[Bta h0 h1 hn]at h;cases e:decide (y - (n:Int)<0)with
 |true=>rw[e]at h;simp at h;omega
 |false=>rw[e]at h;simp at h;omega
theorem Ayq{f:Option Int}{g:Int->Option Int}{r:Int}(h:f.bind (fun q=>bif decide (q<0)then some (-1)else g q)=some r)(hr:0≤r): ∃q,f=some q∧0≤q∧g q=some r:=by
 cases f with
 |none=>cases h
 |some q=>
  simp only[Z0]at h;cases e:decide (q<0)with
  |true=>rw[e]at h;simp at h;omega
  |false=>rw[e]at h;exact⟨q,rfl,by simpa using e,h⟩
theorem B2z{α:Type}[Inhabited α](a:List α)(f:α->Int->Option Int)(c:α->Nat)(hf: ∀x∈a,∀y r,0≤y->y≤1048576->f x y=some r->0≤r->r+c x=y)(ha:a.length≤140737488355327)
  (L:Nat->Int->Int->Option Int) (h00: ∀y i,L 0 y i=none) (hL: ∀n y i,L (n+1) y i=bif decide (i<(a.length:Int))then(if(0:Int)≤i∧i<(a.length:Int)then(f (gt a i) y).bind (fun r=>bif decide (r<0)then some (-1)else L n r (Aoa .i64 i 1))else none)else some y):
  ∀(n i:Nat) (y r:Int),i≤a.length->0≤y->y≤1048576->L n y (i:Int)=some r->0≤r->r+(((a.drop i).map c).sum:Nat)=y:=by
 intro n
 induction n with
 |zero=>intro i y r _ _ _ h;rw[h00]at h;cases h
 |succ n ih=>
  intro i y r hi h0 h1 h hr;rw[hL]at h;rcases F9 i a.length with hl|hl
  ·rw[Afe hl]at h;simp only[cond_true]at h;rw[if_pos ⟨by omega,by omega⟩,Ag5 (by omega)]at h
   obtain⟨q,q1,q2,q3⟩:=Ayq h hr
   have e1:=hf _ (Apl hl) _ _ h0 h1 q1 q2
   have e2:=ih (i+1) q r hl q2 (by omega) q3 hr
   rw[Bo3 hl,Z8,List.sum_cons];omega
  ·rw[Agf hl]at h;simp only[cond_false,Z7]at h;rw[Z48 hl];simp;omega
def szN (x:Bc):Nat:=x.Ae.length+x.Ea.length+x.Dg.length
def szW (x:Ay):Nat:=x.Dg.length+x.Ae.length
theorem Blu{K:Nat}{a:Bc}(w:Avr a){y r:Int}(h0:0≤y)(h1:y≤1048576)(h:Aqa K a y=some r)(hr:0≤r):r+szN a=y:=by
 obtain⟨_,_,_,_,_,_,_,_,w1,_,_,w2,w3⟩:=w;unfold Aqa at h;obtain⟨q,q1,q2,h⟩:=Ayq h hr;obtain⟨p,p1,p2,h⟩:=Ayq h hr;obtain⟨s,s1,s2,h⟩:=Ayq h hr
 have e1:=A1n (Ary w1.2.1 (by decide)) h0 h1 q1 q2
 have e2:=A1n (Ary w2.2.1 (by decide)) q2 (by omega) p1 p2
 have e3:=A1n (Ary w3.2.1 (by decide)) p2 (by omega) s1 s2
 injection h with h
 unfold szN;omega
theorem Bfr{K:Nat}{a:Ay}(w:At1 a){y r:Int}(h0:0≤y)(h1:y≤1048576)(h:Apv K a y=some r)(hr:0≤r):r+szW a=y:=by
 obtain⟨_,_,w1,w2,_⟩:=w;unfold Apv at h;obtain⟨q,q1,q2,h⟩:=Ayq h hr;obtain⟨p,p1,p2,h⟩:=Ayq h hr
 have e1:=A1n (Ary w1.2.1 (by decide)) h0 h1 q1 q2
 have e2:=A1n (Ary w2.2.1 (by decide)) q2 (by omega) p1 p2
 injection h with h
 unfold szW;omega
theorem Btb{n:Nat}{y r:Int}{o:Int->Option Int}(hn:n≤140737488355327)(h0:0≤y)(h1:y≤1048576)(h:(bif (decide ((Aob .i64 y (n:Int))<0))then some (-1)else o (Aob .i64 y (n:Int)))=some r)(hr:0≤r):0≤y - n∧o (y - n)=some r:=by
 rw[Bta h0 h1 hn]at h;cases e:decide (y - (n:Int)<0)with
 |true=>rw[e]at h;simp at h;omega
 |false=>rw[e]at h;exact⟨by simpa using e,h⟩
theorem Bfs{K:Nat}{a:Ec}(w:Aqb a){r:Int}(h:Aqg K a 1048576=some r)(hr:0≤r):a.fP.Fy.length+a.fP.Hh.length+a.fP.Fz.length+(a.fL.length+(a.fL.map szN).sum)+(a.fQ.length+(a.fQ.map szW).sum)+a.Pr.length≤1048576:=by
 obtain⟨_,⟨w1,w2,w3⟩,w4,w5,w6⟩:=w;unfold Aqg at h;obtain⟨q,q1,q2,h⟩:=Ayq h hr;unfold Ats at q1;obtain⟨p1,a1,b1,q1⟩:=Ayq q1 q2;obtain⟨p2,a2,b2,q1⟩:=Ayq q1 q2;obtain⟨p3,a3,b3,q1⟩:=Ayq q1 q2
 have e1:=A1n (Ary w1.2.1 (by decide)) (by omega) (by omega) a1 b1
 have e2:=A1n (Ary w2.2.1 (by decide)) b1 (by omega) a2 b2
 have e3:=A1n (Ary w3.2.1 (by decide)) b2 (by omega) a3 b3
 injection q1 with q1
 obtain⟨s,s1,s2,h⟩:=Ayq h hr;obtain⟨t,t1,t2,h⟩:=Ayq h hr;obtain⟨u,u1,u2,h⟩:=Ayq h hr;injection h with h
 unfold Ass at s1;obtain⟨z1,s1⟩:=Btb (o:=fun z=>Aqc K a.fL K z 0) (Ary w4.2.1 (by decide)) q2 (by omega) s1 s2
 have e4:=B2z a.fL (Aqa K) szN (fun x hx y r h0 h1 h hr=>Blu (w4.1 x hx) h0 h1 h hr) (Ary w4.2.1 (by decide)) (Aqc K a.fL) (fun _ _=>rfl) (fun _ _ _=>rfl) K 0 _ _ (Z21 _) z1 (by omega) s1 s2
 rw[Z55]at e4;unfold Ar4 at t1;obtain⟨z2,t1⟩:=Btb (o:=fun z=>Apy K a.fQ K z 0) (Ary w5.2.1 (by decide)) s2 (by omega) t1 t2
 have e5:=B2z a.fQ (Apv K) szW (fun x hx y r h0 h1 h hr=>Bfr (w5.1 x hx) h0 h1 h hr) (Ary w5.2.1 (by decide)) (Apy K a.fQ) (fun _ _=>rfl) (fun _ _ _=>rfl) K 0 _ _ (Z21 _) z2 (by omega) t1 t2
 rw[Z55]at e5
 have e6:=A1n (Ary w6.2.1 (by decide)) t2 (by omega) u1 u2
 omega
theorem Bft (l:List Bc):((l.map Ayg).map Apm).sum≤13*(l.length+(l.map szN).sum):=by
 induction l with
 |nil=>exact Z9 _
 |cons x l ih=>
  simp only[Z8,List.sum_cons,Y9]
  have:Apm (Ayg x)≤13*(1+szN x):=by simp only[Apm,Ayg,szN,B8];omega
  omega
theorem Bfu (l:List Ay):((l.map Awm).map Anq).sum≤13*(l.length+(l.map szW).sum):=by
 induction l with
 |nil=>exact Z9 _
 |cons x l ih=>
  simp only[Z8,List.sum_cons,Y9]
  have:Anq (Awm x)≤13*(1+szW x):=by simp only[Anq,Awm,szW];omega
  omega
theorem Bo4{K:Nat}{a:Ec}(w:Aqb a){r:Int}(h:Aqg K a 1048576=some r)(hr:0≤r):cells (Ax8 a)≤13631488:=by
 have h1:=Bfs w h hr
 have h2:=Bft a.fL
 have h3:=Bfu a.fQ
 show a.fP.Fy.length+a.fP.Hh.length+a.fP.Fz.length+((a.fL.map Ayg).map Apm).sum+((a.fQ.map Awm).map Anq).sum+a.Pr.length≤_;omega
section
variable {K:Nat} (hK:281474976710656≤K)
include hK
theorem A23{α β:Type}(l:List α)(hl:l.length≤140737488355327)(fin:Option β)(L:Nat->List α->Int->Option β)
  (hs: ∀n v (i:Nat) (h:i<l.length),v.length=i->L (n+1) v (i:Int)=L n (v++[l[i]]) ((i+1:Nat):Int))
  (he: ∀n,L (n+1) l (l.length:Int)=fin):L K [] 0=fin:=by
 have:=A9q hK l (by omega) (fun _=>true) fin none (fun n i=>L n (l.take i) (i:Int)) (fun n i h=>by
  rw[hs n _ i h (by simp;omega),List.take_append_getElem];rfl) (fun n=>by rw[List.take_length];exact he n)
 rw[Z1.2 (fun _ _=>rfl)]at this;simpa using this
omit hK in
theorem A2w (K:Nat){p:Dw}(w:Ay7 p):Atu K p=some p:=by
 have hm:=Amf
 have h1:=w.mem.2
 have h2:=w.st.2
 have h3:=w.own.2;unfold Atu;simp only[Zg];rw[if_pos ⟨by omega,by omega⟩,if_pos ⟨by omega,by omega⟩,if_pos ⟨by omega,by omega⟩]
omit hK in
theorem A2x (K:Nat){n:Ba}(w:Axn n):Atv K n=some n:=by
 have hm:=Amf
 have h1:=w.chunks.2
 have h2:=w.things.2
 have h3:=w.tags.2;unfold Atv;simp only[Zg];rw[if_pos ⟨by omega,by omega⟩,if_pos ⟨by omega,by omega⟩,if_pos ⟨by omega,by omega⟩]
theorem Bcy{l:List Ba}(w:Aiq l):Aw3 K l=some l:=by
 have hm:=Amf
 have h2:=w.2;unfold Aw3;refine A23 hK l (Aek w) (some l) (fun n v i=>Aqh K l n v i) (fun n v i h hv=> ?_) (fun n=> ?_)
 ·have hl:(v++[l[i]]).length=i+1:=by simp[hv]
  simp only[Aqh];rw[Afe h,cond_true,if_pos (Ai8 h),Aej h,A2x K (w.1 _ (List.getElem_mem h)),Z0,if_pos ⟨by rw[hl];omega,by rw[hl];omega⟩,Ag5 (by omega)]
 ·show Aqh K l (n+1) _ _=_;rw[Aqh,Agf (Z9 _),cond_false]
omit hK in
theorem A9x (K:Nat){x:Ax}(w:Ay0 x):Au2 K x=some x:=by
 have hm:=Amf
 have h1:=w.tags.2
 have h2:=w.chunks.2;unfold Au2;simp only[Zg];rw[if_pos ⟨by omega,by omega⟩,if_pos ⟨by omega,by omega⟩]
theorem A9y{w:Eb}(hw:Aqq w):Au3 K w=some w:=by
 have hm:=Amf
 have h2:=hw.q.2
 have h3:=hw.log.2;unfold Au3;rw[A2w K hw.p,Z0,Bcy hK hw.l,Z0]
 refine A23 hK w.fQ (by omega) (some w) (fun n v i=>Apq K n i w.fC.Ae w.fC.Eg w.fC.C0 w.fC.E9 w.fC.C1 w.fC.Eh w.fP.Fy w.fP.Hh w.fP.Fz w.fL v w.Pr (Eb.mk (Er.mk 0 0 0 0 0 0) (Dw.mk [] [] []) [] [] []) w.fC.Ae w.fC.Eg w.fC.C0 w.fC.E9 w.fC.C1 w.fC.Eh w.fP.Fy w.fP.Hh w.fP.Fz w.fL w.fQ w.Pr) (fun n v i h hv=> ?_) (fun n=> ?_)
 ·have hl:(v++[w.fQ[i]]).length=i+1:=by simp[hv]
  simp only[Apq];rw[Afe h,cond_true,if_pos (Ai8 h),Aej h,A9x K (hw.q.1 _ (List.getElem_mem h)),Z0,if_pos ⟨by rw[hl];omega,by rw[hl];omega⟩,Ag5 (by omega)]
 ·show Apq K (n+1) _ _ _ _ _ _ _ _ _ _ _ _ _ _ _ _ _ _ _ _ _ _ _ _ _ _=_;rw[Apq,Agf (Z9 _),cond_false];simp only[Zg];rw[if_pos ⟨by omega,by omega⟩]
omit hK in
theorem A0c (K:Nat){p:Dw}(w:Ay7 p):Asa K p=some p:=by
 unfold Asa;rw[Bcc K w.mem.2,Asf K w.st.2,Asf K w.own.2];rfl
omit hK in
theorem A6u (K:Nat){n:Ba}(w:Axn n):Auj K n=some n:=by
 unfold Auj;rw[Asf K w.chunks.2,Bax K w.things.2,Asf K w.tags.2];rfl
theorem A54{l:List Ba}(w:Aiq l):Ati K l=some l:=by
 have hm:=Amf
 have h2:=w.2;unfold Ati;refine A23 hK l (Aek w) (some l) (fun n v i=>Anm K l n v (l.length:Int) i) (fun n v i h hv=> ?_) (fun n=> ?_)
 ·have hl:(v++[l[i]]).length=i+1:=by simp[hv]
  simp only[Anm];rw[Afe h,cond_true,if_pos (Ai8 h),Aej h,A6u K (w.1 _ (List.getElem_mem h)),Z0,if_pos ⟨by rw[hl];omega,by rw[hl];omega⟩,Ag5 (by omega)]
 ·show Anm K l (n+1) _ _ _=_;rw[Anm,Agf (Z9 _),cond_false]
omit hK in
theorem A55 (K:Nat){x:Ax}(w:Ay0 x):Atj K x=some x:=by
 unfold Atj;rw[Asf K w.tags.2,Asf K w.chunks.2];rfl
theorem Bbd{α:Type}(v:List α)(d x:α):(v++[d]).set (v.length:Int).toNat x=v++[x]:=by
 rw[Int.toNat_natCast,List.set_append_right _ _ (Z9 _)];simp
theorem Azz{w:Eb}(hw:Aqq w):Aqe K w=some w:=by
 have hm:=Amf
 have h2:=hw.q.2;unfold Aqe;rw[A0c K hw.p,Z0,A54 hK hw.l,Z0,Asf K hw.log.2,Z0];refine A23 hK w.fQ (by omega) (some w) (fun n v i=>Ann K n w.fQ (w.fQ.length:Int) i (Eb.mk w.fC w.fP w.fL v w.Pr) (Eb.mk (Er.mk 0 0 0 0 0 0) (Dw.mk [] [] []) [] [] [])) (fun n v i h hv=> ?_) (fun n=> ?_)
 ·simp only[Ann];rw[Afe h,cond_true,if_pos (Ai8 h),Aej h,A55 K (hw.q.1 _ (List.getElem_mem h)),Z0,if_pos ⟨by omega,by omega⟩,Ag5 (by omega),Bbd hK]
 ·show Ann K (n+1) _ _ _ _ _=_;rw[Ann,Agf (Z9 _),cond_false]
end
def Av1 (n:Nat)(k:Nat):List Int:=(List.range n).map fun i=>IntKind.u8.wrap ((k+i:Nat):Int)
theorem Aus (n k:Nat):(Av1 n k).length=n:=by simp[Av1]
theorem Bbe{K:Nat}(k:Nat): ∀(n i:Nat) (v:List Int),k+v.length≤140737488355327->i≤v.length->(∀j,j<i->v[j]? =(Av1 v.length k)[j]?)->v.length - i<n→
  Aqm K n v ((k+i:Nat):Int) (i:Int)=some (((k+v.length:Nat):Int),Av1 v.length k):=by
 intro n
 induction n with
 |zero=>intro i v _ _ _ h;omega
 |succ n ih=>
  intro i v hl hi hj hn;rw[Aqm];rcases F9 i v.length with h|h
  ·rw[Afe h];simp only[cond_true]
   have e:Aoa .i64 ((k+i:Nat):Int) 1=((k+(i+1):Nat):Int):=by unfold Aoa;rw[Ag4 (by omega) (by omega)];omega
   rw[if_pos ⟨by omega,by omega⟩,e,Ag5 (i:=i) (by omega)]
   have:=ih (i+1) (v.set (i:Int).toNat (IntKind.u8.wrap ((k+i:Nat):Int))) (by simpa using hl) (by simp only[Z49];omega) (fun j hj2=>by
    rw[Int.toNat_natCast,V8,Z49]
    by_cases e:i=j
    ·subst e;rw[if_pos rfl,if_pos h];simp[Av1,h]
    ·rw[if_neg e];exact hj j (by omega)) (by simp only[Z49];omega)
   rw[this];simp
  ·rw[Agf h]
   have hia:i=v.length:=by omega
   subst hia
   have e:v=Av1 v.length k:=by
    refine List.ext_getElem? fun j=> ?_;rcases F9 j v.length with hja|hja
    ·exact hj j hja
    ·rw[Z58 (by omega),Z58 (by rw[Aus];omega)]
   simp only[cond_false];rw[←e]
theorem Bbf{K:Nat}(m k:Nat)(hl:k+m≤140737488355327): ∀(n i:Nat),i≤m->m - i<n->Aqn K (Av1 m k) n ((k+i:Nat):Int) (i:Int)=some ((k+m:Nat):Int):=by
 intro n
 induction n with
 |zero=>intro i _ h;omega
 |succ n ih=>
  intro i hi hn;rw[Aqn];rcases F9 i m with h|h
  ·have hlt:i<(Av1 m k).length:=by rw[Aus];exact h
   have e:Aoa .i64 ((k+i:Nat):Int) 1=((k+(i+1):Nat):Int):=by unfold Aoa;rw[Ag4 (by omega) (by omega)];omega
   rw[Afe hlt,if_pos ⟨by omega,by omega⟩,Aej hlt,e,Ag5 (i:=i) (by omega),ih (i+1) h (by omega)]
   simp[Av1]
  ·have:i=m:=by omega
   subst this;rw[Agf (by rw[Aus];exact h)]
   rfl
def Bdu (w:Eb)(h:Ct):Int:=((Apf w.fL w.fL.length (Aqr w.fL h)).length:Int)
theorem Bcz{l:List Ba}(hl:l.length≤140737488355327)(h:Ct):wfi (Aqr l h):=by
 by_cases h0:Aqr l h<0
 ·unfold Aqr at *;split at h0
  ·rename_i h1;rw[if_pos h1]at *;obtain⟨⟨a,b⟩,_⟩:=h1;exact⟨by omega,by omega⟩
  ·rename_i h1;rw[if_neg h1];exact⟨by omega,by omega⟩
 ·have:=A2k h0;exact⟨by omega,by omega⟩
section
variable {K:Nat} (hK:281474976710656≤K)
include hK
theorem A68 (a:List Int)(k:Nat)(hk:k+a.length≤140737488355327):Art K a (k:Int)=some (((k+a.length:Nat):Int),Av1 a.length k):=by
 unfold Art;exact Bbe k K 0 a hk (Z21 _) (fun j hj=>by omega) (by omega)
theorem A69 (m k:Nat)(hl:k+m≤140737488355327):Arv K (Av1 m k) (k:Int)=some ((k+m:Nat):Int):=by
 unfold Arv;exact Bbf m k hl K 0 (Z21 _) (by omega)
theorem Bfv (w:Eb)(hw:Aiq w.fL)(h:Ct):Aty K w h=some (Bdu w h):=by
 have hl:=Aek hw;unfold Aty Ayb;rw[Ay1 K hl,Z0,A0n hK hw _ (Bcz hl h)];rfl
theorem Bfw (w:Eb)(hw:Aiq w.fL)(h:Ct):Awh K w h=some (Bdu w h):=by
 have hl:=Aek hw;unfold Awh Ayc;rw[A1j K hl,Z0,A0o hK hw];rfl
def A56 (code Fe:Int)(b:List Int):Fh:=Fh.mk code (Ct.mk 0 0) (Fg.mk (Ct.mk 0 0) 0 0) b Fe 0 0
end
section
variable {β:Type} [Inhabited β]
def Atp (c:β->Nat)(m:β->Nat->β):List β->Nat->List β
 |[],_=>[]
 |x::l,k=>m x k::Atp c m l (k+c x)
theorem Av6 (c:β->Nat)(m:β->Nat->β): ∀(l:List β) (k:Nat),(Atp c m l k).length=l.length
 |[],_=>rfl
 |x::l,k=>by simp[Atp,Av6 c m l]
theorem A0v (c:β->Nat)(m:β->Nat->β)(L:Nat->Int->Int->List β->Option (Int×List β))
  (h0: ∀n k (v:List β),L (n+1) k (v.length:Int) v=some (k,v))
  (hL: ∀n (k i:Nat) (v:List β),i<v.length->v.length≤140737488355327->k+c (gt v (i:Int))≤140737488355327->L (n+1) (k:Int) (i:Int) v=L n ((k+c (gt v (i:Int)):Nat):Int) ((i+1:Nat):Int) (v.set (i:Int).toNat (m (gt v (i:Int)) k))):
  ∀(l pre:List β) (n k:Nat),(pre++l).length≤140737488355327->l.length<n->k+(l.map c).sum≤140737488355327→
   L n (k:Int) (pre.length:Int) (pre++l)=some (((k+(l.map c).sum:Nat):Int),pre++Atp c m l k):=by
 intro l
 induction l with
 |nil=>
  intro pre n k _ hn _;obtain⟨n,rfl⟩: ∃n',n=n'+1:=⟨n - 1,by simp at hn;omega⟩
  simp only[List.append_nil,Gz,List.sum_nil,Nat.add_zero,Atp];exact h0 _ _ _
 |cons x l ih=>
  intro pre n k hl hn hk;obtain⟨n,rfl⟩: ∃n',n=n'+1:=⟨n - 1,by omega⟩
  have hlt:pre.length<(pre++x::l).length:=by simp
  have hg:gt (pre++x::l) (pre.length:Int)=x:=by rw[Aej hlt];simp
  simp only[Z8,List.sum_cons]at hk ⊢;rw[hL n k pre.length _ hlt hl (by rw[hg];omega),hg]
  have e:(pre++x::l).set (pre.length:Int).toNat (m x k)=(pre++[m x k])++l:=by
   rw[Int.toNat_natCast,List.set_append_right _ _ (Z9 _)];simp
  rw[e]
  have:=ih (pre++[m x k]) n (k+c x) (by simp at hl ⊢;omega) (by simp at hn;omega) (by omega)
  rw[show(pre++[m x k]).length=pre.length+1 by simp]at this
  rw[this,Zb];simp[Atp]
theorem A0w (c:β->Nat)(m:β->Nat->β)(l0:List β)(a:List β)(H:Nat->Int->Int->Option Int)
  (h0: ∀n k,H (n+1) k (a.length:Int)=some k)
  (hH: ∀n (k i:Nat) x,x∈l0->i<a.length->a.length≤140737488355327->k+c x≤140737488355327->gt a (i:Int)=m x k->H (n+1) (k:Int) (i:Int)=H n ((k+c x:Nat):Int) ((i+1:Nat):Int)):
  ∀(l pre:List β) (n k:Nat),(∀x∈l,x∈l0)->a=pre++Atp c m l k->a.length≤140737488355327->l.length<n->k+(l.map c).sum≤140737488355327→
   H n (k:Int) (pre.length:Int)=some ((k+(l.map c).sum:Nat):Int):=by
 intro l
 induction l with
 |nil=>
  intro pre n k _ ha _ hn _;obtain⟨n,rfl⟩: ∃n',n=n'+1:=⟨n - 1,by simp at hn;omega⟩
  simp only[Atp,List.append_nil]at ha;simp only[Gz,List.sum_nil,Nat.add_zero];rw[←ha];exact h0 _ _
 |cons x l ih=>
  intro pre n k hm ha hl hn hk;obtain⟨n,rfl⟩: ∃n',n=n'+1:=⟨n - 1,by omega⟩
  simp only[Atp]at ha
  have hlt:pre.length<a.length:=by rw[ha];simp
  have hg:gt a (pre.length:Int)=m x k:=by rw[Aej hlt];simp[ha]
  simp only[Z8,List.sum_cons]at hk ⊢;rw[hH n k pre.length x (hm x (by simp)) hlt hl (by omega) hg]
  have:=ih (pre++[m x k]) n (k+c x) (fun y hy=>hm y (by simp[hy])) (by rw[ha];simp) hl (by simp at hn;omega) (by omega)
  rw[show(pre++[m x k]).length=pre.length+1 by simp]at this
  rw[this,Zb]
end
def A9z (_:A9)(k:Nat):A9:=A9.mk (k:Nat) ((k+1:Nat):Int) ((k+2:Nat):Int)
def A0x (l:List A9)(k:Nat):List A9:=Atp Bbc A9z l k
def Ay4 (x:Ba)(k:Nat):Ba:=Ba.mk (k:Nat) ((k+1:Nat):Int) ((k+2:Nat):Int) ((k+3:Nat):Int) ((k+4:Nat):Int) ((k+5:Nat):Int) ((k+6:Nat):Int) ((k+7:Nat):Int)
 (Av2 x.Ae.length (k+8)) ((k+8+x.Ae.length:Nat):Int) ((k+8+x.Ae.length+1:Nat):Int) (A0x x.Ea (k+8+x.Ae.length+1+1)) (Av2 x.Dg.length (k+8+x.Ae.length+1+1+3*x.Ea.length))
def Ay5 (x:Ax)(k:Nat):Ax:=Ax.mk (k:Nat) ((k+1:Nat):Int) (Av2 x.Dg.length (k+2)) (Av2 x.Ae.length (k+2+x.Dg.length)) ((k+2+x.Dg.length+x.Ae.length:Nat):Int)
section
variable {K:Nat} (hK:281474976710656≤K)
include hK
theorem Bfx (a:List A9)(k:Nat)(hk:k+3*a.length≤140737488355327):Asn K a (k:Int)=some (((k+3*a.length:Nat):Int),A0x a k):=by
 unfold Asn
 have:=A0v Bbc A9z (fun n k i v=>Alo K n v k i) (fun n k v=>by show Alo K (n+1) v k _=_;rw[Alo,Agf (Z9 _)];rfl)
  (fun n k i v h hv hk=>by
   have hk2:k+3≤140737488355327:=hk;simp only[Alo];rw[Afe h,cond_true,if_pos (Ai8 h)];simp only[Aql,Z49,Bcw h,Bwn,if_pos (Ai8 h)];simp (disch:=omega) only[Ayp];rfl) a [] K k (by simp;omega) (by omega) (by rw[Az4];exact hk)
 rw[Az4]at this;exact this
theorem Bfy (a:List Ba)(k:Nat)(ha:a.length≤140737488355327)(hk:k+(a.map Apm).sum≤140737488355327):Atm K a (k:Int)=some (((k+(a.map Apm).sum:Nat):Int),Atp Apm Ay4 a k):=by
 unfold Atm;exact A0v Apm Ay4 (fun n k i v=>Ano K n v k i) (fun n k v=>by show Ano K (n+1) v k _=_;rw[Ano,Agf (Z9 _)];rfl)
  (fun n k i v h hv hk=>by
   have hk2:k+(10+(gt v (i:Int)).Ae.length+3*(gt v (i:Int)).Ea.length+(gt v (i:Int)).Dg.length)≤140737488355327:=hk
   have e8:(Aoa .i64 (Aoa .i64 (Aoa .i64 (Aoa .i64 (Aoa .i64 (Aoa .i64 (Aoa .i64 (Aoa .i64 (k:Int) 1) 1) 1) 1) 1) 1) 1) 1)=((k+8:Nat):Int):=by
    simp (disch:=omega) only[Ayp]
   simp only[Ano];rw[Afe h,cond_true,if_pos (Ai8 h)];simp only[Aql,Z49,Bcw h,Bwn,if_pos (Ai8 h)];rw[e8,Axt hK _ _ (by omega)]
   simp only[Z0,Aqf,if_true];rw[Ayp (k:=k+8+(gt v (i:Int)).Ae.length) (by omega),Ayp (k:=k+8+(gt v (i:Int)).Ae.length+1) (by omega),Bfx hK _ _ (by omega)]
   simp only[Z0,A0x,Av6,if_true];rw[Axt hK _ _ (by omega)]
   simp only[Z0,Aqf,if_true];simp (disch:=omega) only[Ayp]
   have e:k+8+(gt v (i:Int)).Ae.length+1+1+3*(gt v (i:Int)).Ea.length+(gt v (i:Int)).Dg.length=k+Apm (gt v (i:Int)):=by unfold Apm;omega
   rw[e];rfl) a [] K k (by simpa using ha) (by omega) hk
theorem Bfz (a:List Ax)(k:Nat)(ha:a.length≤140737488355327)(hk:k+(a.map Anq).sum≤140737488355327):Aso K a (k:Int)=some (((k+(a.map Anq).sum:Nat):Int),Atp Anq Ay5 a k):=by
 unfold Aso;exact A0v Anq Ay5 (fun n k i v=>Al3 K n v k i) (fun n k v=>by show Al3 K (n+1) v k _=_;rw[Al3,Agf (Z9 _)];rfl)
  (fun n k i v h hv hk=>by
   have hk2:k+(3+(gt v (i:Int)).Dg.length+(gt v (i:Int)).Ae.length)≤140737488355327:=hk
   have e8:Aoa .i64 (Aoa .i64 (k:Int) 1) 1=((k+2:Nat):Int):=by simp (disch:=omega) only[Ayp]
   simp only[Al3];rw[Afe h,cond_true,if_pos (Ai8 h)];simp only[Aql,Z49,Bcw h,Bwn,if_pos (Ai8 h)];rw[e8,Axt hK _ _ (by omega)]
   simp only[Z0,Aqf,if_true];rw[Axt hK _ _ (by omega)]
   simp only[Z0,Aqf,if_true];simp (disch:=omega) only[Ayp]
   have e:k+2+(gt v (i:Int)).Dg.length+(gt v (i:Int)).Ae.length+1=k+Anq (gt v (i:Int)):=by unfold Anq;omega
   rw[e];rfl) a [] K k (by simpa using ha) (by omega) hk
theorem Bc0 (m k:Nat)(hl:k+m≤140737488355327): ∀(n i:Nat),i≤m->m - i<n->Aq7 K (Av2 m k) n ((k+i:Nat):Int) (i:Int)=some ((k+m:Nat):Int):=by
 intro n
 induction n with
 |zero=>intro i _ h;omega
 |succ n ih=>
  intro i hi hn;rw[Aq7];rcases F9 i m with h|h
  ·have hlt:i<(Av2 m k).length:=by rw[Aqf];exact h
   have e:Aoa .i64 ((k+i:Nat):Int) 1=((k+(i+1):Nat):Int):=by unfold Aoa;rw[Ag4 (by omega) (by omega)];omega
   rw[Afe hlt,if_pos ⟨by omega,by omega⟩,Aej hlt,e,Ag5 (i:=i) (by omega),ih (i+1) h (by omega)]
   simp[Av2]
  ·have:i=m:=by omega
   subst this;rw[Agf (by rw[Aqf];exact h)]
   rfl
theorem Axu (m k:Nat)(hl:k+m≤140737488355327):Ale K (Av2 m k) (k:Int)=some ((k+m:Nat):Int):=by
 unfold Ale;exact Bc0 hK m k hl K 0 (Z21 _) (by omega)
omit hK in
theorem An2 (k:Nat):decide ((k:Int)<0)=false:=decide_eq_false (by omega)
theorem Blv (a:List A9)(k:Nat)(hk:k+3*a.length≤140737488355327):Asp K (A0x a k) (k:Int)=some ((k+3*a.length:Nat):Int):=by
 unfold Asp
 have:=A0w Bbc A9z a (A0x a k) (fun n q i=>Al4 K (A0x a k) n q i) (fun n q=>by show Al4 K _ (n+1) q _=_;rw[Al4,Agf (Z9 _)];rfl)
  (fun n q i x _ h hv hq hg=>by
   have hk2:q+3≤140737488355327:=hq;simp only[Al4];rw[Afe h,cond_true];simp only[if_pos (Ai8 h),hg,A9z];simp (disch:=omega) only[Ayp];simp only[bne_self_eq_false,cond_false];rfl) a [] K k (fun x hx=>hx) rfl (by unfold A0x;rw[Av6];omega) (by omega) (by rw[Az4];exact hk)
 rw[Az4]at this;exact this
theorem Blw (a:List Ba)(k:Nat)(ha:a.length≤140737488355327)(hk:k+(a.map Apm).sum≤140737488355327):Atn K (Atp Apm Ay4 a k) (k:Int)=some ((k+(a.map Apm).sum:Nat):Int):=by
 unfold Atn;exact A0w Apm Ay4 a (Atp Apm Ay4 a k) (fun n q i=>Anp K (Atp Apm Ay4 a k) n q i) (fun n q=>by show Anp K _ (n+1) q _=_;rw[Anp,Agf (Z9 _)];rfl)
  (fun n q i x _ h hv hq hg=>by
   have hk2:q+(10+x.Ae.length+3*x.Ea.length+x.Dg.length)≤140737488355327:=hq;simp only[Anp];rw[Afe h,cond_true];simp only[if_pos (Ai8 h),hg,Ay4];simp (disch:=omega) only[Ayp];simp only[bne_self_eq_false,cond_false];rw[Axu hK _ _ (by omega)]
   simp only[Z0,An2,cond_false,bne_self_eq_false];rw[Ayp (k:=q+8+x.Ae.length) (by omega),Ayp (k:=q+8+x.Ae.length+1) (by omega)]
   simp only[bne_self_eq_false,cond_false];rw[Blv hK _ _ (by omega)]
   simp only[Z0,An2,cond_false];rw[Axu hK _ _ (by omega)]
   simp only[Z0,An2,cond_false];rw[show q+8+x.Ae.length+1+1+3*x.Ea.length+x.Dg.length=q+Apm x by unfold Apm;omega]) a [] K k (fun x hx=>hx) rfl (by rw[Av6];exact ha) (by omega) hk
theorem Blx (a:List Ax)(k:Nat)(ha:a.length≤140737488355327)(hk:k+(a.map Anq).sum≤140737488355327):Asq K (Atp Anq Ay5 a k) (k:Int)=some ((k+(a.map Anq).sum:Nat):Int):=by
 unfold Asq;exact A0w Anq Ay5 a (Atp Anq Ay5 a k) (fun n q i=>Al5 K (Atp Anq Ay5 a k) n q i) (fun n q=>by show Al5 K _ (n+1) q _=_;rw[Al5,Agf (Z9 _)];rfl)
  (fun n q i x _ h hv hq hg=>by
   have hk2:q+(3+x.Dg.length+x.Ae.length)≤140737488355327:=hq;simp only[Al5];rw[Afe h,cond_true];simp only[if_pos (Ai8 h),hg,Ay5];simp (disch:=omega) only[Ayp];simp only[bne_self_eq_false,cond_false];rw[Axu hK _ _ (by omega)]
   simp only[Z0,An2,cond_false,bne_self_eq_false];rw[Axu hK _ _ (by omega)]
   simp only[Z0,An2,cond_false,bne_self_eq_false];rw[Ayp (k:=q+2+x.Dg.length+x.Ae.length) (by omega)]
   rw[show q+2+x.Dg.length+x.Ae.length+1=q+Anq x by unfold Anq;omega]) a [] K k (fun x hx=>hx) rfl (by rw[Av6];exact ha) (by omega) hk
end
def A7a (w:Eb)(k:Nat):List Int:=Av1 w.fP.Fy.length k
def Bf0 (w:Eb)(k:Nat):List Int:=Av2 w.fP.Hh.length (k+w.fP.Fy.length)
def A7b (w:Eb)(k:Nat):List Int:=Av2 w.fP.Fz.length (k+w.fP.Fy.length+w.fP.Hh.length)
def mkL (w:Eb)(k:Nat):List Ba:=Atp Apm Ay4 w.fL (k+Atr w.fP)
def mkQ (w:Eb)(k:Nat):List Ax:=Atp Anq Ay5 w.fQ (k+Atr w.fP+(w.fL.map Apm).sum)
def Bbg (w:Eb)(k:Nat):List Int:=Av2 w.Pr.length (k+Atr w.fP+(w.fL.map Apm).sum+(w.fQ.map Anq).sum)
theorem A90 (w:Eb)(k:Nat):(A7a w k).length=w.fP.Fy.length∧(Bf0 w k).length=w.fP.Hh.length∧(A7b w k).length=w.fP.Fz.length∧(mkL w k).length=w.fL.length∧(mkQ w k).length=w.fQ.length∧(Bbg w k).length=w.Pr.length:=
 ⟨Aus _ _,Aqf _ _,Aqf _ _,Av6 _ _ _ _,Av6 _ _ _ _,Aqf _ _⟩
section
variable {K:Nat} (hK:281474976710656≤K)
include hK
theorem Bf1 (w:Eb)(k:Nat)(hk:k+Atr w.fP≤140737488355327):Auq K w.fP (k:Int)=some (((k+Atr w.fP:Nat):Int),A7a w k,Bf0 w k,A7b w k):=by
 unfold Atr at hk ⊢;unfold Auq;rw[A68 hK _ _ (by omega)]
 simp only[Z0];rw[if_pos (Aus _ _),Axt hK _ _ (by omega)]
 simp only[Z0];rw[if_pos (Aqf _ _),Axt hK _ _ (by omega)]
 simp only[Z0];rw[if_pos (Aqf _ _)];simp only[Zb,A7a,Bf0,A7b]
theorem A2y (w:Eb)(hL:w.fL.length≤140737488355327)(hQ:w.fQ.length≤140737488355327)(k:Nat)(hk:k+cells w≤140737488355327):Aru K w (k:Int)=some (((k+cells w:Nat):Int),A7a w k,Bf0 w k,A7b w k,mkL w k,mkQ w k,Bbg w k):=by
 obtain⟨l1,l2,l3,l4,l5,l6⟩:=A90 w k;unfold cells at hk ⊢;unfold Aru;rw[Bf1 hK w k (by omega)]
 simp only[Z0];rw[if_pos ⟨l1,l2,l3⟩,Bfy hK _ _ hL (by omega)]
 simp only[Z0];rw[if_pos (show(Atp Apm Ay4 w.fL (k+Atr w.fP)).length=w.fL.length from l4),Bfz hK _ _ hQ (by omega)]
 simp only[Z0];rw[if_pos (show(Atp Anq Ay5 w.fQ (k+Atr w.fP+(w.fL.map Apm).sum)).length=w.fQ.length from l5),Axt hK _ _ (by omega)]
 simp only[Z0];rw[if_pos (Aqf _ _)];simp only[Zb,mkL,mkQ,Bbg]
theorem Bbh (w:Eb)(hL:w.fL.length≤140737488355327)(hQ:w.fQ.length≤140737488355327)(k:Nat)(hk:k+cells w≤140737488355327)(c:Er):Arw K (Eb.mk c (Dw.mk (A7a w k) (Bf0 w k) (A7b w k)) (mkL w k) (mkQ w k) (Bbg w k)) (k:Int)=some ((k+cells w:Nat):Int):=by
 unfold cells at hk ⊢;unfold Arw Awz;simp only[A7a,Bf0,A7b,mkL,mkQ,Bbg]
 have hP:Atr w.fP=w.fP.Fy.length+w.fP.Hh.length+w.fP.Fz.length:=rfl;rw[A69 hK _ _ (by omega)]
 simp only[Z0,An2,cond_false];rw[Axu hK _ _ (by omega)]
 simp only[Z0,An2,cond_false];rw[Axu hK _ _ (by omega)]
 simp only[Z0,An2,cond_false];rw[show k+w.fP.Fy.length+w.fP.Hh.length+w.fP.Fz.length=k+Atr w.fP by omega,Blw hK _ _ hL (by omega)]
 simp only[Z0,An2,cond_false];rw[Blx hK _ _ hQ (by omega)]
 simp only[Z0,An2,cond_false];rw[Axu hK _ _ (by omega)]
 simp only[Z0,An2,cond_false,Zb]
theorem Bo5{a:Fh}(h:a.fB.length≤140737488355327):Atl K a a=some true:=by
 simp[Atl,Ayx,Aup,A66 hK h]
theorem Bf2 (a:Fh)(k:Nat)(h:k+a.fB.length≤140737488355327):Avp K a (k:Int)=some (((k+a.fB.length:Nat):Int),Av1 a.fB.length k):=by
 unfold Avp;rw[A68 hK _ _ h];simp only[Z0];rw[if_pos (Aus _ _)]
theorem Bf3 (a:Fh)(m k:Nat)(h:k+m≤140737488355327):As6 K (Fh.mk a.W9 a.fH a.fR (Av1 m k) a.Xa a.E9 a.Ps) (k:Int)=some ((k+m:Nat):Int):=by
 unfold As6;rw[A69 hK _ _ h];simp only[Z0,An2,cond_false]
end
theorem Bdv{β:Type}(f:β->Nat): ∀(l:List β) (i:Nat) (h:i<l.length) (x:β),((l.set i x).map f).sum+f l[i]=(l.map f).sum+f x
 |[],i,h,x=>by simp at h
 |y::l,0,h,x=>by simp;omega
 |y::l,i+1,h,x=>by
  have:=Bdv f l i (by simpa using h) x
  simp only[List.set_cons_succ,Z8,List.sum_cons,List.getElem_cons_succ]at this ⊢;omega
theorem Bc1{l:List Ba}(hl:Aiq l)(i:Nat){x:Ba}(hx:Axn x):Aiq (l.set i x):=
 ⟨fun y hy=>(Z54 hy).elim (hl.1 y) (fun e=>e ▸ hx),by rw[Z49];exact hl.2⟩
def A6v (p:Dw)(k:Int):Dw:=if(0≤k∧k<(p.Hh.length:Int)∧k<(p.Fz.length:Int))∧gt p.Hh k=1 then Dw.mk p.Fy (p.Hh.set k.toNat 2) (p.Fz.set k.toNat (-1))else p
theorem A91{p:Dw}(hp:Ay7 p)(k:Int):Ay7 (A6v p k)∧Atr (A6v p k)=Atr p:=by
 unfold A6v;split
 ·refine⟨⟨hp.mem,⟨fun x hx=> ?_,by rw[Z49];exact hp.st.2⟩,⟨fun x hx=> ?_,by rw[Z49];exact hp.own.2⟩⟩,by simp[Atr]⟩
  ·rcases Z54 hx with h|h
   ·exact hp.st.1 x h
   ·subst h;exact⟨by omega,by omega⟩
  ·rcases Z54 hx with h|h
   ·exact hp.own.1 x h
   ·subst h;exact⟨by omega,by omega⟩
 ·exact⟨hp,rfl⟩
theorem Bc2 (K:Nat){p:Dw}(hp:Ay7 p)(k:Int):Aw7 K p k=some (A6v p k):=by
 have h1:=hp.st.2;unfold Aw7 Ark A6v;rw[A2w K hp,Z0,A1i K (by omega),Z0]
 by_cases hs:0≤k∧k<(p.Hh.length:Int)
 ·rw[decide_eq_true hs,cond_true]
  by_cases ho:k<(p.Fz.length:Int)
  ·rw[decide_eq_true ho,cond_true,if_pos hs,if_pos hs,if_pos ⟨hs.1,ho⟩]
   by_cases h:gt p.Hh k=1
   ·rw[if_pos ⟨⟨hs.1,hs.2,ho⟩,h⟩,h];rfl
   ·rw[if_neg (show ¬((0≤k∧k<(p.Hh.length:Int)∧k<(p.Fz.length:Int))∧gt p.Hh k=1) from fun x=>h x.2),Aqo h];rfl
  ·rw[decide_eq_false ho,if_neg (show ¬((0≤k∧k<(p.Hh.length:Int)∧k<(p.Fz.length:Int))∧gt p.Hh k=1) from fun x=>ho x.1.2.2)];rfl
 ·rw[decide_eq_false hs,if_neg (show ¬((0≤k∧k<(p.Hh.length:Int)∧k<(p.Fz.length:Int))∧gt p.Hh k=1) from fun x=>hs ⟨x.1.1,x.1.2.1⟩)];rfl
theorem Bc3 (K:Nat){p:Dw}(hp:Ay7 p)(k:Int):Axa K p k=some (A6v p k):=by
 have h1:=hp.st.2
 have h2:=hp.own.2;unfold Axa As2 A6v
 have e:Aob .i64 (Aaf (p.Hh.length:Int) (p.Fz.length:Int)) 1=Aaf (p.Hh.length:Int) (p.Fz.length:Int) - 1:=by
  unfold Aob Aaf;split<;>rw[Ag4 (by omega) (by omega)]
 rw[A0c K hp,Z0,Ato,Z0,e]
 by_cases hs:0≤k∧k<(p.Hh.length:Int)∧k<(p.Fz.length:Int)
 ·rw[Ax5.2 (by unfold Aaf;split<;>omega),cond_true,if_pos ⟨hs.1,hs.2.1⟩,if_pos ⟨hs.1,hs.2.1⟩,if_pos ⟨hs.1,hs.2.2⟩]
  by_cases h:gt p.Hh k=1
  ·rw[if_pos ⟨hs,h⟩,h];rfl
  ·rw[if_neg (show ¬((0≤k∧k<(p.Hh.length:Int)∧k<(p.Fz.length:Int))∧gt p.Hh k=1) from fun x=>h x.2),Aqo h];rfl
 ·rw[Boq.2 (by unfold Aaf;split<;>omega),if_neg (show ¬((0≤k∧k<(p.Hh.length:Int)∧k<(p.Fz.length:Int))∧gt p.Hh k=1) from fun x=>hs x.1)];rfl
def A0y (p:Dw)(l:List Int):Dw:=l.foldl A6v p
theorem A7c{p:Dw}(hp:Ay7 p)(l:List Int):Ay7 (A0y p l)∧Atr (A0y p l)=Atr p:=by
 unfold A0y
 induction l generalizing p with
 |nil=>exact⟨hp,rfl⟩
 |cons x l ih=>
  obtain⟨h1,h2⟩:=A91 hp x;obtain⟨h3,h4⟩:=ih h1;exact⟨h3,h4.trans h2⟩
theorem Bdw{α σ β:Type}{K:Nat}(hK:281474976710656≤K)(l:List α)(hl:l.length≤140737488355327)(f:σ->α->σ)(s0:σ)(I:σ->Prop)(hI:I s0)(hf: ∀s x,I s->I (f s x))(fin:Option β)(L:Nat->σ->Int->Option β)
  (hs: ∀n s (i:Nat) (h:i<l.length),I s->L (n+1) s (i:Int)=L n (f s l[i]) ((i+1:Nat):Int))
  (he: ∀n,L (n+1) (l.foldl f s0) (l.length:Int)=fin):L K s0 0=fin:=by
 have key: ∀(n i:Nat) (s:σ),I s->i≤l.length->l.length - i<n->(l.drop i).foldl f s=l.foldl f s0->L n s (i:Int)=fin:=by
  intro n
  induction n with
  |zero=>intro i s _ _ h;omega
  |succ n ih=>
   intro i s hIs hi hn hd;rcases F9 i l.length with h|h
   ·rw[hs n s i h hIs];refine ih (i+1) _ (hf _ _ hIs) h (by omega) ?_
    rw[Z47 h,List.foldl_cons]at hd;exact hd
   ·obtain rfl:i=l.length:=by omega
    rw[List.drop_length]at hd;simp only[List.foldl_nil]at hd;rw[hd];exact he n
 exact key K 0 s0 hI (Z21 _) (by omega) rfl
def Axv (n:Ba)(slot:Int):Ax:=Ax.mk slot n.Bt n.Dg n.Ae 0
def Ayr (n:Ba):Ba:=Ba.mk n.Hh n.C2 (Aoa .i64 n.Ly 1) n.fUp n.Gq 0 n.Gr n.Gs [] 0 0 [] []
theorem A92 (K:Nat){n:Ba}(hn:Axn n)(s:Int):Avb K n s=some (Axv n s):=by
 have hm:=Amf
 have h1:=hn.tags.2
 have h2:=hn.chunks.2;unfold Avb;simp only[Zg];rw[if_pos ⟨by omega,by omega⟩,if_pos ⟨by omega,by omega⟩];rfl
theorem A93 (K:Nat){n:Ba}(hn:Axn n)(s:Int):Avl K n s=some (Axv n s):=by
 unfold Avl;rw[Asf K hn.tags.2,Asf K hn.chunks.2];rfl
theorem A94 (K:Nat){n:Ba}(hn:Axn n):Avc K n=some (Ayr n):=by
 unfold Avc;rw[A2x K hn];rfl
theorem Bly:wfi 0:=⟨by decide,by decide⟩
theorem A7d:Azu []:=⟨(fun x hx=>by cases hx),(by simp)⟩
theorem Bbi:A1h []:=⟨(fun x hx=>by cases hx),(by simp)⟩
theorem Bc4{n:Ba}(hn:Axn n):Axn (Ayr n):=
 ⟨hn.st,hn.gen,Blh _,hn.up,hn.upEp,Bly,hn.next,hn.prev,A7d,Bly,Bly,Bbi,A7d⟩
theorem Bc5{n:Ba}(hn:Axn n){s:Int}(hs:wfi s):Ay0 (Axv n s):=⟨hs,hn.first,hn.tags,hn.chunks,Bly⟩
def A2o (w:Eb)(k:Int):Eb:=Eb.mk w.fC (A0y w.fP (gt w.fL k).Ae) (w.fL.set k.toNat (Ayr (gt w.fL k))) (w.fQ++[Axv (gt w.fL k) 0]) w.Pr
theorem Bf4{w:Eb}(hw:Aqq w)(hc:cells w≤140737488355){k:Int}(hk:0≤k∧k<(w.fL.length:Int)):Aqq (A2o w k)∧cells (A2o w k)≤cells w+3:=by
 have hn:=hw.l.1 _ (Axb hk.1 hk.2)
 have hq:w.fQ.length≤(w.fQ.map Anq).sum:=by
  generalize w.fQ=q
  induction q with
  |nil=>simp
  |cons x q ih=>
   have:3≤Anq x:=by unfold Anq;omega
   simp only[Z8,List.sum_cons,Y9];omega
 have hq2:(w.fQ.map Anq).sum≤cells w:=by unfold cells;omega
 constructor
 ·refine⟨hw.c,(A7c hw.p _).1,Bc1 hw.l _ (Bc4 hn),⟨fun x hx=> ?_,?_⟩,hw.log⟩
  ·rcases Gy.1 hx with hx|hx
   ·exact hw.q.1 x hx
   ·simp only[Qo]at hx;subst hx;exact Bc5 hn Bly
  ·show(w.fQ++[Axv (gt w.fL k) 0]).length*72≤_;simp;omega
 ·have hlt:k.toNat<w.fL.length:=by omega
  have:=Bdv Apm w.fL k.toNat hlt (Ayr (gt w.fL k))
  have e:w.fL[k.toNat]=gt w.fL k:=by rw[←Aej hlt,show((k.toNat:Nat):Int)=k by omega]
  rw[e]at this
  have e2:Apm (Ayr (gt w.fL k))=10:=by simp[Apm,Ayr]
  have e3:Apm (gt w.fL k)=10+(gt w.fL k).Ae.length+3*(gt w.fL k).Ea.length+(gt w.fL k).Dg.length:=rfl
  have e4:Anq (Axv (gt w.fL k) 0)=3+(gt w.fL k).Dg.length+(gt w.fL k).Ae.length:=rfl
  have e5:=(A7c hw.p (gt w.fL k).Ae).2;unfold cells A2o;simp only[Gg,Z8,Gz,List.sum_append,List.sum_cons,List.sum_nil,e5,e4];omega
theorem Bc6{l:List Ba}{h:Ct}(h0:(Ax7 l h).2=0):(gt l (Ax7 l h).1).Hh=1:=by
 unfold Ax7 at *;cases e1:Avw h with
 |false=>rw[e1]at h0;simp at h0
 |true=>
  rw[e1]at h0;simp only[cond_true]at *;cases e:decide (Aqr l h<0)with
  |true=>rw[e]at h0;simp at h0
  |false=>
   rw[e]at h0;simp only[cond_false]at *;cases e2:A0p l (Aqr l h)with
   |false=>rw[e2]at h0;simp at h0
   |true=>
    simp only[cond_true]
    have h1:=of_decide_eq_false e;unfold Aqr at h1 ⊢;split at h1
    ·rename_i h2;rw[if_pos h2];exact h2.2.1
    ·omega
theorem Blz{l:List Ba}{k:Int}(hk:0≤k∧k<(l.length:Int)):l.set k.toNat (gt l k)=l:=by
 have hlt:k.toNat<l.length:=by omega
 have e:gt l k=l[k.toNat]:=by rw[←Aej hlt,show((k.toNat:Nat):Int)=k by omega]
 rw[e];exact List.set_getElem_self hlt
section
variable {K:Nat} (hK:281474976710656≤K)
include hK
theorem Bbj (w:Eb)(hw:Aqq w)(l:List Int)(hl:l.length≤140737488355327):Awc K w l=some (Eb.mk w.fC (A0y w.fP l) w.fL w.fQ w.Pr):=by
 unfold Awc;refine Bdw hK l (by omega) A6v w.fP Ay7 hw.p (fun s x h=>(A91 h x).1) _ (fun n s i=>Ap1 K l n i w.fC.Ae w.fC.Eg w.fC.C0 w.fC.E9 w.fC.C1 w.fC.Eh s.Fy s.Hh s.Fz w.fL w.fQ w.Pr) (fun n s i h hs=> ?_) (fun n=> ?_)
 ·simp only[Ap1];rw[Afe h,cond_true,if_pos (Ai8 h),Aej h,show Dw.mk s.Fy s.Hh s.Fz=s from rfl,Bc2 K hs,Z0,Ag5 (by omega)]
 ·show Ap1 K l (n+1) _ _ _ _ _ _ _ _ _ _ _ _ _=_;rw[Ap1,Agf (Z9 _),cond_false];rfl
theorem Bbk (w:Eb)(hw:Ay7 w.fP){k:Int}(hk:0≤k∧k<(w.fL.length:Int))(hl:(gt w.fL k).Ae.length≤140737488355327):Ar0 K w k=some (Eb.mk w.fC (A0y w.fP (gt w.fL k).Ae) w.fL w.fQ w.Pr):=by
 unfold Ar0;rw[if_pos hk,if_pos hk]
 refine Bdw hK (gt w.fL k).Ae (by omega) A6v w.fP Ay7 hw (fun s x h=>(A91 h x).1) _ (fun n s i=>Alb K n (gt w.fL k).Ae ((gt w.fL k).Ae.length:Int) i w.fC.Ae w.fC.Eg w.fC.C0 w.fC.E9 w.fC.C1 w.fC.Eh s.Fy s.Hh s.Fz w.fL.length w.fQ w.Pr w.fL k.toNat (gt w.fL k).Hh (gt w.fL k).C2 (gt w.fL k).Ly (gt w.fL k).fUp (gt w.fL k).Gq (gt w.fL k).Bt (gt w.fL k).Gr (gt w.fL k).Gs (gt w.fL k).Ae.length (gt w.fL k).Pq (gt w.fL k).Gt (gt w.fL k).Ea (gt w.fL k).Dg) (fun n s i h hs=> ?_) (fun n=> ?_)
 ·simp only[Alb];rw[Afe h,cond_true,if_pos (Ai8 h),Aej h,show Dw.mk s.Fy s.Hh s.Fz=s from rfl,Bc3 K hs,Z0,Ag5 (by omega),Int.toNat_natCast]
 ·show Alb K (n+1) _ _ _ _ _ _ _ _ _ _ _ _ _ _ _ _ _ _ _ _ _ _ _ _ _ _ _ _ _ _=_;rw[Alb,Agf (Z9 _),cond_false,Int.toNat_natCast]
  have:=Blz hk;exact congrArg (fun l=>some (Eb.mk w.fC (A0y w.fP (gt w.fL k).Ae) l w.fQ w.Pr)) this
theorem A95 (w:Eb)(hw:Aqq w)(hQ:w.fQ.length≤140737488355){k:Int}(hk:0≤k∧k<(w.fL.length:Int)):Ask K w k=some (A2o w k):=by
 have hm:=Amf
 have hn:=hw.l.1 _ (Axb hk.1 hk.2);unfold Ask;rw[if_pos hk,A92 K hn,Z0,if_pos hk,Bbj hK w hw _ (A0l hK hn.chunks),Z0];simp only;rw[if_pos hk,A94 K hn,Z0,if_pos hk,if_pos ⟨by simp;omega,by simp;omega⟩]
 rfl
theorem A96 (w:Eb)(hw:Aqq w)(hQ:w.fQ.length≤140737488355){k:Int}(hk:0≤k∧k<(w.fL.length:Int))(hst:(gt w.fL k).Hh=1):Avm K w k=some (A2o w k):=by
 have hm:=Amf
 have hn:=hw.l.1 _ (Axb hk.1 hk.2);unfold Avm Axh;rw[Azz hK hw,Z0,Ayn K (Aek hw.l),Z0,decide_eq_true hk,cond_true,if_pos hk,hst];simp only[bne_self_eq_false,cond_false]
 rw[if_pos hk,A93 K hn,Z0,if_pos ⟨by omega,by omega⟩,Bbd hK,Bbk hK (Eb.mk w.fC w.fP w.fL (w.fQ++[Axv (gt w.fL k) 0]) w.Pr) hw.p hk (A0l hK hn.chunks),Z0]
 simp only[if_pos hk,Z0];rfl
theorem Bc7 (w:Eb)(hw:Aqq w)(hc:cells w≤140737488355)(h:Ct): ∃w' code Fe,Aw8 K w h=some (w',A56 code Fe [])∧Avn K w h=some (w',A56 code Fe [])∧Aqq w'∧cells w'≤cells w+3:=by
 have hself:Aqq w∧cells w≤cells w+3:=⟨hw,by omega⟩
 have hQ:w.fQ.length≤140737488355:=by
  have hq:w.fQ.length≤(w.fQ.map Anq).sum:=by
   generalize w.fQ=q
   induction q with
   |nil=>simp
   |cons x q ih=>
    have:3≤Anq x:=by unfold Anq;omega
    simp only[Z8,List.sum_cons,Y9];omega
  have hq2:(w.fQ.map Anq).sum≤cells w:=by unfold cells;omega
  omega
 unfold Aw8 Avn Aqt Axg;rw[A9y hK hw,A9w hK w hw,A9v hK w hw,Azz hK hw,Bfv hK w hw.l,Bfw hK w hw.l,A6o hK hw.l,A6p hK hw.l];simp only[Z0,Ac2];cases A53 w with
 |false=>exact⟨w,1,0,rfl,rfl,hself⟩
 |true=>
 simp only[cond_true]
 by_cases h0:(Ax7 w.fL h).2=0
 ·have hi:=Bln h0;rw[A95 hK w hw hQ hi,A96 hK w hw hQ hi (Bc6 h0),h0];simp only[beq_self_eq_true,bne_self_eq_false,cond_true,cond_false,Z0];exact⟨A2o w (Ax7 w.fL h).1,0,Bdu w h,rfl,rfl,Bf4 hw hc hi⟩
 ·rw[Aqo h0,As7 h0];exact⟨w,(Ax7 w.fL h).2,Bdu w h,rfl,rfl,hself⟩
end
theorem A1o (a:Ec)(h:Dn)(u:Aqb a)(_:Axi h): ∃K,Arc K a h=some true:=by
 refine⟨K0,?_⟩
 have hK:=Z9 K0
 have hw:=Bfq u;obtain⟨q,hq⟩:=Bfn hK u 1048576
 have hQ:(Ax8 a).fQ.length≤140737488355327:=by have:=hw.q.2;omega
 unfold Arc Ar6;rw[hq];simp only[Z0];cases e:decide (q<0)with
 |true=>rfl
 |false=>
  have hc:=Bo4 u hq (by simpa using e)
  obtain⟨w',code,Fe,h1,h2,hw',hc'⟩:=Bc7 hK (Ax8 a) hw (by omega) (Ct.mk h.A5 h.C2)
  have hQ':w'.fQ.length≤140737488355327:=by have:=hw'.q.2;omega
  have hb:(A56 code Fe []).fB.length=0:=rfl
  have hV:Aww K0 a=some (Ax8 a):=A65 hK u
  have hmk0:=A2y hK (Ax8 a) (Aek hw.l) hQ 1 (by omega)
  have hmk:=A2y hK w' (Aek hw'.l) hQ' 1 (by omega)
  have hhl:=Bbh hK w' (Aek hw'.l) hQ' 1 (by omega) w'.fC
  have hma:=Bf2 hK (A56 code Fe []) (1+cells w') (by omega)
  have hha:=Bf3 hK (A56 code Fe []) (A56 code Fe []).fB.length (1+cells w') (by omega)
  simp only[show((1:Nat):Int)=1 from rfl]at hmk hhl hmk0
  simp only[cond_false,cond_true,Z0,A65 hK u,hV,h1,h2,Bo5 hK (show(A56 code Fe []).fB.length≤140737488355327 by omega),A67 hK hw',A67 hK hw,hmk,hmk0,if_pos (A90 w' 1),if_pos (A90 (Ax8 a) 1),An2,hma,Aus,if_true,hhl,hha,bne_self_eq_false,Bool.not_true]
end Go.Proofs.YtjdblamhaljjbaaGreat
