/- The plain law for FnExactOwedIf; no condition. -/
import Derived.Test.YtjdblamhaljjbaaGreatFOwedIfTb
import Derived.Test.YtjdblamhaljjbaaGreatFOwedIfW
set_option linter.all false
namespace Go.Proofs.YtjdblamhaljjbaaGreat
open Go.Eng Go.ChangeShapes Go.WideShapes Go.ChangeAt Go.RowKit
theorem Ag4{i:Nat}(h:i≤140737488355328):Aoa .i64 (i:Int) 1=((i+1:Nat):Int):=by
 unfold Aoa;rw[IntKind.wrap_i64];omega
theorem Aeg{α:Type}[Inhabited α]{l:List α}{i:Nat}(h:i<l.length):gt l (i:Int)=l[i]:=by
 unfold gt;simp[h]
theorem An0{α:Type}[Inhabited α]{l:List α}{i:Nat}(h:i<l.length):gt l (i:Int)∈l:=by
 rw[Aeg h];exact List.getElem_mem h
theorem Apk{α:Type}[Inhabited α]{l:List α}{i:Int}(h0:0≤i)(h:i<l.length):gt l i∈l:=by
 obtain⟨k,rfl⟩: ∃k:Nat,i=k:=⟨i.toNat,by omega⟩
 exact An0 (by omega)
theorem Ag0{i k:Nat}(h:i<k):decide ((i:Int)<(k:Int))=true:=by simp;omega
theorem Ag1{i k:Nat}(h:k≤i):decide ((i:Int)<(k:Int))=false:=by simp;omega
theorem A1v{α β:Type}[Inhabited α](a:List α)(f:α->Option β)(g:α->β)(hf: ∀x∈a,f x=some (g x))(ha:a.length≤140737488355328)
  (L:Nat->Int->List β->Option (List β)) (hL: ∀n i v,L (n+1) i v=bif decide (i<(a.length:Int))then(if(0:Int)≤i∧i<(a.length:Int)then(f (gt a i)).bind (fun r=>(if(0:Int)≤i∧i<(v.length:Int)then L n (Aoa .i64 i 1) (v.set i.toNat r)else none))else none)else some v):
  ∀(n i:Nat) (v:List β),i≤a.length->v.length=a.length->(∀j,j<i->v[j]? =(a.map g)[j]?)->a.length - i<n->L n (i:Int) v=some (a.map g):=by
 intro n
 induction n with
 |zero=>intro i v _ _ _ h;omega
 |succ n ih=>
  intro i v hi hv hj hn;rw[hL];rcases F9 i a.length with h|h
  ·rw[Ag0 h];simp only[cond_true];rw[if_pos ⟨by omega,by omega⟩,hf _ (An0 h)]
   simp only[Z0];rw[if_pos ⟨by omega,by omega⟩,Ag4 (by omega)]
   refine ih (i+1) _ h (by simpa using hv) (fun j hj2=> ?_) (by omega)
   rw[Int.toNat_natCast,V8]
   by_cases e:i=j
   ·subst e;rw[if_pos rfl,if_pos (by omega),Aeg h,Ca,Fa h];rfl
   ·rw[if_neg e];exact hj j (by omega)
  ·rw[Ag1 h];simp only[cond_false,Z7]
   have hia:i=a.length:=by omega
   refine List.ext_getElem? fun j=> ?_;rcases F9 j a.length with hja|hja
   ·exact hj j (by omega)
   ·rw[Z58 (by omega),Z58 (by simpa using hja)]
theorem Bml{β:Type}[Inhabited β](a:List β)(e:β->β->Option Bool)(he: ∀x∈a,e x x=some true)(ha:a.length≤140737488355328)
  (L:Nat->Int->Option Bool) (hL: ∀n i,L (n+1) i=bif decide (i<(a.length:Int))then(if(0:Int)≤i∧i<(a.length:Int)then(if(0:Int)≤i∧i<(a.length:Int)then(e (gt a i) (gt a i)).bind (fun r=>bif r then L n (Aoa .i64 i 1)else some false)else none)else none)else some true):
  ∀(n i:Nat),i≤a.length->a.length - i<n->L n (i:Int)=some true:=by
 intro n
 induction n with
 |zero=>intro i _ h;omega
 |succ n ih=>
  intro i hi hn;rw[hL];rcases F9 i a.length with h|h
  ·rw[Ag0 h];simp only[cond_true];rw[if_pos ⟨by omega,by omega⟩,if_pos ⟨by omega,by omega⟩,he _ (An0 h),Ag4 (by omega)]
   simp only[Z0,cond_true];exact ih (i+1) h (by omega)
  ·rw[Ag1 h];rfl
theorem Bmm (a:List Int)(ha:a.length≤140737488355328)
  (L:Nat->Int->Option Bool) (hL: ∀n i,L (n+1) i=bif decide (i<(a.length:Int))then(if(0:Int)≤i∧i<(a.length:Int)then(if(0:Int)≤i∧i<(a.length:Int)then(bif (gt a i != gt a i)then some false else L n (Aoa .i64 i 1))else none)else none)else some true):
  ∀(n i:Nat),i≤a.length->a.length - i<n->L n (i:Int)=some true:=by
 intro n
 induction n with
 |zero=>intro i _ h;omega
 |succ n ih=>
  intro i hi hn;rw[hL];rcases F9 i a.length with h|h
  ·rw[Ag0 h];simp only[cond_true];rw[if_pos ⟨by omega,by omega⟩,if_pos ⟨by omega,by omega⟩,Ag4 (by omega)]
   simp only[bne_self_eq_false,cond_false];exact ih (i+1) h (by omega)
  ·rw[Ag1 h];rfl
theorem Buj{α:Type}[Inhabited α](a:List α)(f:α->Int->Option Int)(hf: ∀x∈a,∀y,∃r,f x y=some r)(ha:a.length≤140737488355328)
  (L:Nat->Int->Int->Option Int) (hL: ∀n y i,L (n+1) y i=bif decide (i<(a.length:Int))then(if(0:Int)≤i∧i<(a.length:Int)then(f (gt a i) y).bind (fun r=>bif decide (r<0)then some (-1)else L n r (Aoa .i64 i 1))else none)else some y):
  ∀(n i:Nat) (y:Int),i≤a.length->a.length - i<n-> ∃r,L n y (i:Int)=some r:=by
 intro n
 induction n with
 |zero=>intro i _ _ h;omega
 |succ n ih=>
  intro i y hi hn;rw[hL];rcases F9 i a.length with h|h
  ·rw[Ag0 h];simp only[cond_true];obtain⟨r,hr⟩:=hf _ (An0 h) y;rw[if_pos ⟨by omega,by omega⟩,hr,Ag4 (by omega)]
   simp only[Z0];cases decide (r<0)with
   |true=>exact⟨_,rfl⟩
   |false=>exact ih (i+1) r h (by omega)
  ·rw[Ag1 h];exact⟨_,rfl⟩
theorem Ahs{n:Int}(h0: -9223372036854775808≤n)(h1:n≤9223372036854775807):IntKind.i64.wrap n=n:=by rw[IntKind.wrap_i64];omega
theorem Bc8 (n:Int): -9223372036854775808≤IntKind.i64.wrap n∧IntKind.i64.wrap n≤9223372036854775807:=by rw[IntKind.wrap_i64];omega
theorem cc{α:Type}(b:Bool)(x:α):(bif b then x else x)=x:=by cases b<;>rfl
theorem As7{a b:Int}(h: ¬a=b):(a != b)=true:=by simpa using h
theorem Aqi{a b:Int}(h: ¬a=b):(a==b)=false:=by simpa using h
def inB (x a b:Int):Bool:=decide (a≤x∧x≤b)
theorem Ayc{x a b:Int}:inB x a b=true ↔ a≤x∧x≤b:=by unfold inB;exact decide_eq_true_iff
theorem Bp3{x a b:Int}:inB x a b=false ↔ ¬(a≤x∧x≤b):=by unfold inB;exact decide_eq_false_iff_not
theorem Ajc (b:Bool)(x:Bool):(bif b then some x else some false)=some (b&&x):=by cases b<;>rfl
theorem Bae (b:Bool)(x:Bool):(bif b then some false else some x)=some (!b&&x):=by cases b<;>rfl
theorem Axo (b:Bool)(x:Bool):(bif b then some true else some x)=some (b||x):=by cases b<;>rfl
theorem Ac2{α:Type}(b:Bool)(x y:α):(bif !b then x else y)=(bif b then y else x):=by cases b<;>rfl
theorem Aje{i n:Nat}(h:i<n):((0:Int)≤(i:Int)∧(i:Int)<(n:Int)):=⟨by omega,by omega⟩
theorem Bxp{α:Type}(l:List α)(q:α->Bool)(fin:Option Bool)(L:Nat->Int->Option Bool)
  (hs: ∀n (i:Nat) (h:i<l.length),L (n+1) (i:Int)=bif q l[i]then L n ((i+1:Nat):Int)else some false)
  (he: ∀n,L (n+1) (l.length:Int)=fin):
  ∀(n i:Nat),i≤l.length->l.length - i<n->L n (i:Int)=bif (l.drop i).all q then fin else some false:=by
 intro n
 induction n with
 |zero=>intro i _ h;omega
 |succ n ih=>
  intro i hi hn;rcases F9 i l.length with h|h
  ·rw[hs n i h,Z47 h,F3];cases q l[i]with
   |false=>rfl
   |true=>rw[cond_true,ih (i+1) h (by omega)];rfl
  ·obtain rfl:i=l.length:=by omega
   rw[he,List.drop_length];rfl
theorem Ar1{α:Type}{K:Nat}(hK:281474976710656≤K)(l:List α)(hl:l.length≤140737488355328)(q:α->Bool)(fin:Option Bool)(L:Nat->Int->Option Bool)
  (hs: ∀n (i:Nat) (h:i<l.length),L (n+1) (i:Int)=bif q l[i]then L n ((i+1:Nat):Int)else some false)
  (he: ∀n,L (n+1) (l.length:Int)=fin):L K 0=bif l.all q then fin else some false:=by
 have:=Bxp l q fin L hs he K 0 (Z21 _) (by omega)
 simpa using this
theorem Apt{K:Nat}(hK:281474976710656≤K)(N:Nat)(hl:N≤140737488355328)(q:Nat->Bool)(fin:Option Bool)(L:Nat->Int->Option Bool)
  (hs: ∀n (i:Nat) (h:i<N),L (n+1) (i:Int)=bif q i then L n ((i+1:Nat):Int)else some false)
  (he: ∀n,L (n+1) (N:Int)=fin):L K 0=bif (List.range N).all q then fin else some false:=by
 refine Ar1 hK (List.range N) (by simpa using hl) q fin L (fun n i h=> ?_) (fun n=> ?_)
 ·rw[List.getElem_range];exact hs n i (by simpa using h)
 ·rw[List.length_range];exact he n
theorem Bmn{α:Type}(l:List α)(q:α->Bool)(L:Nat->Int->Int->Option Int)
  (hs: ∀n (i:Nat) (h:i<l.length),L (n+1) (l.length:Int) (i:Int)=bif q l[i]then some (i:Int)else L n (l.length:Int) ((i+1:Nat):Int))
  (he: ∀n,L (n+1) (l.length:Int) (l.length:Int)=some (-1)):
  ∀(n i:Nat),i≤l.length->l.length - i<n-> ∃r,L n (l.length:Int) (i:Int)=some r∧decide (r≥0)=(l.drop i).any q:=by
 intro n
 induction n with
 |zero=>intro i _ h;omega
 |succ n ih=>
  intro i hi hn;rcases F9 i l.length with h|h
  ·rw[hs n i h,Z47 h,List.any_cons];cases q l[i]with
   |true=>exact⟨_,rfl,by simp⟩
   |false=>rw[cond_false,Z52];exact ih (i+1) h (by omega)
  ·obtain rfl:i=l.length:=by omega
   exact⟨_,he n,by simp⟩
theorem A0n{α:Type}[Inhabited α]{K:Nat}(hK:281474976710656≤K)(l:List α)(hl:l.length≤140737488355328)(f:α->Option Bool)(q:α->Bool)(hf: ∀x∈l,f x=some (q x))(L:Nat->Int->Int->Option Int)
  (hL: ∀n N i,L (n+1) N i=bif decide (i<N)then(if(0:Int)≤i∧i<(l.length:Int)then(f (gt l i)).bind (fun r=>bif r then some i else L n N (Aoa .i64 i 1))else none)else some (-1)):
  ((L K (l.length:Int) 0).bind fun r=>some (decide (r≥0)))=some (l.any q):=by
 obtain⟨r,h1,h2⟩:=Bmn l q L (fun n i h=>by
  rw[hL,Ag0 h,cond_true,if_pos (Aje h),hf _ (An0 h),Aeg h,Z0,Ag4 (by omega)]) (fun n=>by rw[hL,Ag1 (Z9 _),cond_false]) K 0 (Z21 _) (by omega)
 rw[show((0:Nat):Int)=0 from rfl]at h1
 rw[h1,Z0,h2,Z55]
theorem Az8{K:Nat}(hK:281474976710656≤K)(l:List Int)(x:Int)(hl:l.length≤140737488355328):Ang K l x=some (l.contains x):=by
 unfold Ang Aup;obtain⟨r,h1,h2⟩:=Bmn l (fun y=>x==y) (Ans K l x) (fun n i h=>by
  rw[Ans,Ag0 h,cond_true,if_pos (Aje h),Aeg h,Ag4 (by omega)]) (fun n=>by rw[Ans,Ag1 (Z9 _),cond_false]) K 0 (Z21 _) (by omega)
 rw[show((0:Nat):Int)=0 from rfl]at h1
 rw[h1,Z0,h2,Z55,List.contains_eq_any_beq]
theorem Awz{K:Nat}(hK:281474976710656≤K)(l:List Int)(x:Int)(hl:l.length≤140737488355328):An6 K l x=some (l.contains x):=by
 unfold An6
 have h: ∀(n i:Nat),i≤l.length->l.length - i<n->As1 K l x n (i:Int)=some ((l.drop i).contains x):=by
  intro n
  induction n with
  |zero=>intro i _ h;omega
  |succ n ih=>
   intro i hi hn;rw[As1];rcases F9 i l.length with h|h
   ·rw[Ag0 h,cond_true,if_pos (Aje h),Aeg h,Ag4 (by omega),ih (i+1) h (by omega),Z47 h,List.contains_cons,Axo,Bool.beq_comm]
   ·rw[Ag1 h,cond_false,Z48 h];rfl
 have:=h K 0 (Z21 _) (by omega)
 simpa using this
theorem Ast (K:Nat)(x a b:Int):Abk K x a b=some (inB x a b):=by
 unfold Abk inB
 by_cases h:a≤x
 ·rw[decide_eq_true (show x≥a from h)];simp[h]
 ·rw[decide_eq_false (show ¬x≥a from h)];simp[h]
theorem Atl (K:Nat)(x a b:Int):Ac1 K x a b=some (inB x a b):=Ast K x a b
def Ap4 (c:Er):Bool:=inB c.Ae 2 12&&(inB c.Eg 8 16&&(inB c.C0 2 8&&(inB c.E9 1 8&&(inB c.C1 1 16&&inB c.Eh 1 4))))
theorem Aw0 (K:Nat)(c):Aq6 K c=some (Ap4 c):=by
 simp only[Aq6,Ast,Z0,Ajc,Ap4]
theorem Az9 (K:Nat)(c):Ase K c=some (Ap4 c):=Aw0 K c
theorem Ae1{c:Er}(h:Ap4 c=true):(2≤c.Ae∧c.Ae≤12)∧(8≤c.Eg∧c.Eg≤16)∧(2≤c.C0∧c.C0≤8)∧(1≤c.E9∧c.E9≤8)∧(1≤c.C1∧c.C1≤16)∧(1≤c.Eh∧c.Eh≤4):=by
 simpa only[Ap4,Z4,Ayc]using h
def Ap8 (c:Er):Int:=bif Ap4 c then c.Ae*c.Eg else 0
theorem A1w{a b m n:Int}(h1:0≤a)(h2:a≤m)(h3:0≤b)(h4:b≤n):0≤a*b∧a*b≤m*n:=
 ⟨Int.mul_nonneg h1 h3,Int.mul_le_mul h2 h4 h3 (by omega)⟩
theorem Axg (K:Nat)(c):Asw K c=some (Ap8 c):=by
 unfold Asw Ap8;rw[Aw0,Z0,Ac2];cases h:Ap4 c with
 |false=>rfl
 |true=>
  obtain⟨h1,h2,_⟩:=Ae1 h
  have:=A1w (a:=c.Ae) (b:=c.Eg) (m:=12) (n:=16) (by omega) h1.2 (by omega) h2.2
  simp only[cond_true,Aoc];rw[Ahs (by omega) (by omega)]
theorem Ay9 (K:Nat)(c):Avb K c=some (Ap8 c):=Axg K c
theorem Axp (c:Er):0≤Ap8 c∧Ap8 c≤192:=by
 unfold Ap8;cases h:Ap4 c with
 |false=>simp
 |true=>
  obtain⟨h1,h2,_⟩:=Ae1 h
  have:=A1w (a:=c.Ae) (b:=c.Eg) (m:=12) (n:=16) (by omega) h1.2 (by omega) h2.2
  simp only[cond_true];omega
section
variable {K:Nat} (hK:281474976710656≤K)
include hK
def Ayz (l:List Int):Bool:=l.all (fun x=>x==0)
theorem A0a (l:List Int)(hl:l.length≤140737488355328):Asc K l=some (Ayz l):=by
 unfold Asc;rw[Ar1 hK l hl (fun x=>x==0) (some true) (Aqo K l) (fun n i h=>by
  rw[Aqo,Ag0 h,cond_true,if_pos (Aje h),Aeg h,Ag4 (by omega)]
  cases e:l[i]==0<;>simp[bne,e]) (fun n=>by rw[Aqo,Ag1 (Z9 _),cond_false])]
 unfold Ayz;cases l.all (fun x=>x==0)<;>rfl
theorem A0b (l:List Int)(hl:l.length≤140737488355328):Asf K l=some (Ayz l):=by
 unfold Asf Ak3 Alo;rw[A0n hK l hl (Aw3 K) (fun x=>x != 0) (fun x _=>rfl) (Ahb K l) (fun n N i=>rfl)];simp only[Z0,Ayz,List.not_any_eq_all_not,Z7]
 congr 1
 funext x
 simp[bne]
end
def A6h (a b:Int):Int:=bif inB a 0 1000000000&&inB b 1 1000000000 then(a+b - 1) / b else 0
theorem Aza (K:Nat)(a b:Int):As2 K a b=some (A6h a b):=by
 unfold As2 A6h;rw[Ast,Ast,Z0];cases h1:inB a 0 1000000000 with
 |false=>rfl
 |true=>
  cases h2:inB b 1 1000000000 with
  |false=>rfl
  |true=>
   rw[Ayc]at h1 h2;simp only[Z0,cond_true,Bool.not_true,cond_false,Bool.and_self];rw[if_pos (by omega)]
   unfold Alr Aob Aoa;rw[Ahs (n:=a+b) (by omega) (by omega),Ahs (n:=a+b - 1) (by omega) (by omega)]
   rw[Int.tdiv_eq_ediv_of_nonneg (by omega)]
   have h3:(a+b - 1) / b≤a+b - 1:=Int.ediv_le_self _ (by omega)
   have h4:0≤(a+b - 1) / b:=Int.ediv_nonneg (by omega) (by omega)
   rw[Ahs (by omega) (by omega)]
def Avs (c:Er)(mem:List Int)(k:Int):List Int:=(mem.drop (k*c.Eg).toNat).take c.Eg.toNat
def Ayd (c:Er)(p:Dw)(k:Nat):Bool:=
 inB (gt p.Hh k) 0 2&&((bif gt p.Hh k==1 then inB (gt p.Fz k) 0 (c.C0 - 1)else gt p.Fz k== -1)&&(bif gt p.Hh k==0 then Ayz (Avs c p.Fy k)else true))
def Auw (c:Er)(p:Dw):Bool:=
 Ap4 c&&((p.Fy.length:Int)==Ap8 c&&((p.Hh.length:Int)==c.Ae&&((p.Fz.length:Int)==c.Ae&&(List.range c.Ae.toNat).all (Ayd c p))))
theorem Av2{c:Er}{p:Dw}(h:Auw c p=true):Ap4 c=true∧(p.Fy.length:Int)=c.Ae*c.Eg∧(p.Hh.length:Int)=c.Ae∧(p.Fz.length:Int)=c.Ae∧ ∀k,k<c.Ae.toNat->Ayd c p k=true:=by
 simp only[Auw,Z4,beq_iff_eq,Z1,List.mem_range]at h;obtain⟨h1,h2,h3,h4,h5⟩:=h;refine⟨h1,?_,h3,h4,h5⟩;rw[h2,Ap8,h1];rfl
theorem A1x{c:Er}(hc:Ap4 c=true){mem:List Int}(hm:(mem.length:Int)=c.Ae*c.Eg){k:Int}(h0:0≤k)(h1:k<c.Ae):
  Aoc .i64 k c.Eg=k*c.Eg∧Aoc .i64 (Aoa .i64 k 1) c.Eg=k*c.Eg+c.Eg∧0≤k*c.Eg∧k*c.Eg+c.Eg≤(mem.length:Int):=by
 obtain⟨b1,b2,_⟩:=Ae1 hc
 have m1:=A1w (a:=k) (b:=c.Eg) (m:=12) (n:=16) h0 (by omega) (by omega) b2.2
 have e2:(k+1)*c.Eg=k*c.Eg+c.Eg:=by rw[Int.add_mul,Int.one_mul]
 have m2:(k+1)*c.Eg≤c.Ae*c.Eg:=Int.mul_le_mul_of_nonneg_right (by omega) (by omega)
 rw[e2]at m2;refine⟨?_,?_,m1.1,by omega⟩
 ·unfold Aoc;exact Ahs (by omega) (by omega)
 ·unfold Aoc Aoa;rw[Ahs (n:=k+1) (by omega) (by omega),e2,Ahs (by omega) (by omega)]
section
variable {K:Nat} (hK:281474976710656≤K)
include hK
theorem A6i{c:Er}(hc:Ap4 c=true){p:Dw}(hm:(p.Fy.length:Int)=c.Ae*c.Eg){k:Int}(h0:0≤k)(h1:k<c.Ae):Aqz K p c k=some (Avs c p.Fy k):=by
 obtain⟨e1,e2,e3,e4⟩:=A1x hc hm h0 h1;obtain⟨b1,b2,_⟩:=Ae1 hc;unfold Aqz;rw[e1,e2,if_pos ⟨e3,by omega,e4⟩]
 unfold Avs;rw[show k*c.Eg+c.Eg - k*c.Eg=c.Eg by omega]
theorem Bbf (c:Er)(p:Dw):Av8 K c p=some (Auw c p):=by
 unfold Av8;rw[Aw0,Axg];simp only[Z0];cases hc:Ap4 c with
 |false=>simp[Auw,hc]
 |true=>
 obtain⟨b1,b2,b3,_⟩:=Ae1 hc
 have hby:Ap8 c=c.Ae*c.Eg:=by rw[Ap8,hc];rfl
 simp only[cond_true,Auw,hc,Z30,bne];cases h1:(p.Fy.length:Int)==Ap8 c with
 |false=>rfl
 |true=>
 cases h2:(p.Hh.length:Int)==c.Ae with
 |false=>rfl
 |true=>
 cases h3:(p.Fz.length:Int)==c.Ae with
 |false=>rfl
 |true=>
 rw[beq_iff_eq]at h1 h2 h3
 have hN:((c.Ae.toNat:Nat):Int)=c.Ae:=by omega
 simp only[Bool.not_true,cond_false,Z30];rw[Apt hK c.Ae.toNat (by omega) (Ayd c p) (some true) (fun n i=>Ali K c n i p.Fy p.Hh p.Fz) (fun n i h=> ?_) (fun n=> ?_)]
 ·cases (List.range c.Ae.toNat).all (Ayd c p)<;>rfl
 ·obtain⟨e1,e2,e3,e4⟩:=A1x hc (h1.trans hby) (k:=(i:Int)) (by omega) (by omega)
  have hl:(List.take (i*c.Eg+c.Eg - i*c.Eg).toNat (List.drop (i*c.Eg).toNat p.Fy)).length≤140737488355327:=by simp;omega
  have hs:Aob .i64 c.C0 1=c.C0 - 1:=by unfold Aob;rw[Ahs (by omega) (by omega)]
  have hck:List.take (i*c.Eg+c.Eg - i*c.Eg).toNat (List.drop (i*c.Eg).toNat p.Fy)=Avs c p.Fy i:=by
   unfold Avs;rw[show(i:Int)*c.Eg+c.Eg - i*c.Eg=c.Eg by omega]
  simp only[Ali,Aqq,At1];rw[e1,e2,Ag4 (by omega),decide_eq_true (show(i:Int)<c.Ae by omega),cond_true,if_pos ⟨by omega,by omega⟩,Ast,Ast,hs,A0a hK _ (by omega),hck]
  simp only[Z0,bne,show((0:Int)≤(i:Int)∧(i:Int)<(p.Hh.length:Int))=True from eq_true ⟨by omega,by omega⟩,show((0:Int)≤(i:Int)∧(i:Int)<(p.Fz.length:Int))=True from eq_true ⟨by omega,by omega⟩,if_true,if_pos (show(0:Int)≤i*c.Eg∧(i:Int)*c.Eg≤i*c.Eg+c.Eg∧(i:Int)*c.Eg+c.Eg≤(p.Fy.length:Int) from⟨e3,by omega,e4⟩)]
  unfold Ayd;cases inB (gt p.Hh i) 0 2<;>cases (gt p.Hh (i:Int)==1)<;>cases inB (gt p.Fz i) 0 (c.C0 - 1)<;>cases (gt p.Fz (i:Int)== -1)<;>cases (gt p.Hh (i:Int)==0)<;>cases Ayz (Avs c p.Fy i)<;>rfl
 ·show Ali K c (n+1) _ _ _ _=_;rw[Ali,hN,decide_eq_false (by omega),cond_false]
theorem Bbg (c:Er)(p:Dw):Awf K c p=some (Auw c p):=by
 unfold Awf;rw[Az9,Ay9];simp only[Z0];cases hc:Ap4 c with
 |false=>simp[Auw,hc]
 |true=>
 obtain⟨b1,b2,b3,_⟩:=Ae1 hc
 have hby:Ap8 c=c.Ae*c.Eg:=by rw[Ap8,hc];rfl
 simp only[cond_true,Auw,hc,Z30,bne];cases h1:(p.Fy.length:Int)==Ap8 c with
 |false=>rfl
 |true=>
 cases h2:(p.Hh.length:Int)==c.Ae with
 |false=>rfl
 |true=>
 cases h3:(p.Fz.length:Int)==c.Ae with
 |false=>rfl
 |true=>
 rw[beq_iff_eq]at h1 h2 h3
 have hN:((c.Ae.toNat:Nat):Int)=c.Ae:=by omega
 simp only[Bool.not_true,cond_false,Z30];rw[Apt hK c.Ae.toNat (by omega) (Ayd c p) (some true) (fun n i=>Ai8 K c n p.Hh (p.Hh.length:Int) i p.Fy p.Hh p.Fz) (fun n i h=> ?_) (fun n=> ?_)]
 ·cases (List.range c.Ae.toNat).all (Ayd c p)<;>rfl
 ·have hs:Aob .i64 c.C0 1=c.C0 - 1:=by unfold Aob;rw[Ahs (by omega) (by omega)]
  have hl:(Avs c p.Fy i).length≤140737488355327:=by unfold Avs;simp;omega
  simp only[Ai8,Ap0,Auc];rw[A6i hK hc (h1.trans hby) (by omega) (by omega),Ag4 (by omega),decide_eq_true (show(i:Int)<(p.Hh.length:Int)by omega),cond_true,if_pos ⟨by omega,by omega⟩,Atl,Atl,hs]
  simp only[Z0,A0b hK _ (show(Avs c p.Fy i).length≤140737488355328 by omega),bne,show((0:Int)≤(i:Int)∧(i:Int)<(p.Fz.length:Int))=True from eq_true ⟨by omega,by omega⟩,if_true]
  unfold Ayd;cases inB (gt p.Hh i) 0 2<;>cases (gt p.Hh (i:Int)==1)<;>cases inB (gt p.Fz i) 0 (c.C0 - 1)<;>cases (gt p.Fz (i:Int)== -1)<;>cases (gt p.Hh (i:Int)==0)<;>cases Ayz (Avs c p.Fy i)<;>rfl
 ·show Ai8 K c (n+1) _ _ _ _ _ _=_;rw[Ai8,hN,decide_eq_false (by omega),cond_false]
end
def Awo (c:Er)(t:A9):Prop:=Ap4 c=true∧1≤t.Vu∧0≤t.fAt∧t.fAt+t.Vu≤Ap8 c
instance (c t):Decidable (Awo c t):=by unfold Awo;infer_instance
def Ar2 (c:Er)(t:A9):Bool:=
 decide (Awo c t)&&(bif t.Vv==0 then decide (t.Vu≤c.Eg)&&(t.fAt / c.Eg==(t.fAt+t.Vu - 1) / c.Eg)else decide (t.Vu>c.Eg)&&(t.Vv==A6h t.Vu c.Eg&&t.fAt % c.Eg==0))
theorem A6j (K:Nat){c:Er}{t:A9}(h:Awo c t):
  (bif (t.Vv==0)then(bif (decide (t.Vu≤c.Eg))then(if c.Eg≠(0:Int)then(if c.Eg≠(0:Int)then some ((Alr .i64 t.fAt c.Eg)==(Alr .i64 (Aob .i64 (Aoa .i64 t.fAt t.Vu) 1) c.Eg))else none)else none)else some false)else((Au5 K c t.Vu).bind fun r2=>(bif r2 then((Atg K c t.Vu).bind fun r3=>(bif (t.Vv==r3)then(if c.Eg≠(0:Int)then some ((Int.tmod t.fAt c.Eg)==0)else none)else some false))else some false)))=some (Ar2 c t):=by
 have hd:decide (Awo c t)=true:=decide_eq_true h;obtain⟨hc,h1,h2,h3⟩:=h
 have hb:=Axp c;obtain⟨b1,b2,_⟩:=Ae1 hc;unfold Ar2 Au5 Atg;rw[hd,if_pos (by omega),if_pos (by omega),Aza]
 have e1:Aob .i64 (Aoa .i64 t.fAt t.Vu) 1=t.fAt+t.Vu - 1:=by
  unfold Aob Aoa;rw[Ahs (n:=t.fAt+t.Vu) (by omega) (by omega),Ahs (by omega) (by omega)]
 have e2: ∀x:Int,0≤x->x≤192->Alr .i64 x c.Eg=x / c.Eg:=by
  intro x h0 hx;unfold Alr;rw[Int.tdiv_eq_ediv_of_nonneg h0]
  have h3:x / c.Eg≤x:=Int.ediv_le_self _ h0
  have h4:0≤x / c.Eg:=Int.ediv_nonneg h0 (by omega)
  rw[Ahs (by omega) (by omega)]
 rw[e1,e2 _ h2 (by omega),e2 _ (by omega) (by omega),Int.tmod_eq_emod_of_nonneg h2]
 simp only[Z0,if_pos (show c.Eg≠0 by omega)]
 cases t.Vv==0<;>cases decide (t.Vu≤c.Eg)<;>cases decide (t.Vu>c.Eg)<;>cases t.Vv==A6h t.Vu c.Eg<;>rfl
theorem Bbh{c:Er}{t:A9}(h: ¬Awo c t):Ar2 c t=false:=by
 unfold Ar2;rw[decide_eq_false h];rfl
theorem A1y (K:Nat)(c:Er)(t:A9):Arg K c t=some (Ar2 c t):=by
 have hb:=Axp c
 by_cases h:Awo c t
 ·rw[←A6j K h];obtain⟨hc,h1,h2,h3⟩:=h;unfold Arg;rw[Axg,Z0,Aqi (by omega),decide_eq_false (by omega),decide_eq_false (by omega),decide_eq_false (by omega)]
  unfold Aob;rw[Ahs (by omega) (by omega),decide_eq_false (show ¬t.Vu>Ap8 c - t.fAt by omega)]
  simp only[cond_false]
  try rfl
 ·rw[Bbh h];unfold Arg;rw[Axg,Z0]
  by_cases g0:Ap8 c=0
  ·rw[g0];rfl
  ·have hc:Ap4 c=true:=by
    cases hc:Ap4 c with
    |true=>rfl
    |false=>exact absurd (by unfold Ap8;rw[hc];rfl) g0
   rw[Aqi g0,cond_false]
   by_cases g1:t.Vu<1
   ·rw[decide_eq_true g1];rfl
   ·by_cases g2:t.fAt<0
    ·rw[decide_eq_false g1,decide_eq_true g2];rfl
    ·by_cases g3:t.fAt>Ap8 c
     ·rw[decide_eq_false g1,decide_eq_false g2,decide_eq_true g3];rfl
     ·rw[decide_eq_false g1,decide_eq_false g2,decide_eq_false g3];unfold Aob;rw[Ahs (by omega) (by omega),decide_eq_true (show t.Vu>Ap8 c - t.fAt from ?_)]
      ·rfl
      ·refine Classical.byContradiction fun g4=>h ⟨hc,by omega,by omega,by omega⟩
theorem A1z (K:Nat)(c:Er)(t:A9):Arm K c t=some (Ar2 c t):=by
 have hb:=Axp c
 by_cases h:Awo c t
 ·rw[←A6j K h];obtain⟨hc,h1,h2,h3⟩:=h;unfold Arm;rw[Ay9,Z0,decide_eq_false (by omega),decide_eq_false (by omega),decide_eq_false (by omega)]
  unfold Aob;rw[Ahs (by omega) (by omega),decide_eq_false (show ¬t.fAt>Ap8 c - t.Vu by omega)]
  simp only[cond_false]
  try rfl
 ·rw[Bbh h];unfold Arm;rw[Ay9,Z0]
  by_cases g1:t.Vu≤0
  ·rw[decide_eq_true g1];rfl
  ·by_cases g2:t.fAt<0
   ·rw[decide_eq_false g1,decide_eq_true g2];rfl
   ·by_cases g3:t.Vu>Ap8 c
    ·rw[decide_eq_false g1,decide_eq_false g2,decide_eq_true g3];rfl
    ·rw[decide_eq_false g1,decide_eq_false g2,decide_eq_false g3]
     have hc:Ap4 c=true:=by
      cases hc:Ap4 c with
      |true=>rfl
      |false=>exfalso;unfold Ap8 at g3;rw[hc]at g3;simp only[cond_false]at g3;omega
     unfold Aob;rw[Ahs (by omega) (by omega),decide_eq_true (show t.fAt>Ap8 c - t.Vu from ?_)]
     ·rfl
     ·refine Classical.byContradiction fun g4=>h ⟨hc,by omega,by omega,by omega⟩
theorem A6k{α:Type}(l:List α)(i:Nat):(l.drop (0:Int).toNat).take ((i:Int) - 0).toNat=l.take i:=by simp
theorem Bbi{i n:Nat}(h:i≤n):((0:Int)≤0∧(0:Int)≤(i:Int)∧(i:Int)≤(n:Int)):=⟨by omega,by omega,by omega⟩
def Avt (c:Er)(l:List Int):Bool:=(List.range l.length).all (fun i=>inB (gt l i) 0 (c.Ae - 1)&& !(l.take i).contains (gt l i))
def A6l (n:Ba):Bool:=
 n.Ly==0&&(n.fUp==0&&(n.Gq==0&&(n.Bt==0&&(n.Gr==0&&(n.Gs==0&&((n.Ae.length:Int)==0&&(n.Pq==0&&(n.Gt==0&&((n.Ea.length:Int)==0&&(n.Dg.length:Int)==0)))))))))
theorem Bgd (K:Nat)(n):Ax3 K n=some (A6l n):=by
 simp only[Ax3,Ajc,A6l]
theorem Bge{K:Nat}(hK:1≤K)(l:List Int):Ai3 K l []=some ((l.length:Int)==0):=by
 obtain⟨k,rfl⟩: ∃k,K=k+1:=⟨K - 1,by omega⟩
 cases l with
 |nil=>unfold Ai3;rw[Ai1];rfl
 |cons x l=>unfold Ai3;rw[As7 (by simp only[Y9,List.length_nil];omega),cond_true,Aqi (by simp only[Y9];omega)]
theorem Bc9{K:Nat}(hK:1≤K)(l:List A9):Al6 K l []=some ((l.length:Int)==0):=by
 obtain⟨k,rfl⟩: ∃k,K=k+1:=⟨K - 1,by omega⟩
 cases l with
 |nil=>unfold Al6;rw[Anv];rfl
 |cons x l=>unfold Al6;rw[As7 (by simp only[Y9,List.length_nil];omega),cond_true,Aqi (by simp only[Y9];omega)]
theorem Bgf{K:Nat}(hK:1≤K)(n):Aya K n=some (A6l n):=by
 unfold Aya Aw4;simp only[beq_self_eq_true,cond_true,Bge hK,Bc9 hK,Z0,Ajc,A6l]
def Bda (c:Er)(n:Ba):Bool:=bif n.Pq==0 then n.Gt==0 else n.Ae.contains (Aob .i64 n.Pq 1)&&inB n.Gt 0 c.Eg
def A7z (c:Er)(n:Ba):Bool:=
 (inB n.fUp 0 c.C0&&(inB n.Bt 0 c.C0&&(inB n.Gr 0 c.C0&&inB n.Gs 0 c.C0)))&&((!decide (n.Ly<0)&& !decide (n.Gq<0))&&((Avt c n.Ae&&Bda c n)&&((decide ((n.Ea.length:Int)≤12)&&decide ((n.Dg.length:Int)≤6))&&(n.Dg.all (fun x=>inB x 0 255)&&n.Ea.all (Ar2 c)))))
def Aw5 (c:Er)(n:Ba):Bool:=Ap4 c&&(inB n.Hh 0 3&&(inB n.C2 1 c.Eh&&(bif n.Hh != 1 then A6l n else A7z c n)))
section
variable {K:Nat} (hK:281474976710656≤K)
include hK
theorem A3e{c:Er}(hc:Ap4 c=true):Aob .i64 c.Ae 1=c.Ae - 1:=by
 obtain⟨b1,_⟩:=Ae1 hc;unfold Aob;rw[Ahs (by omega) (by omega)]
theorem A0u{c:Er}(hc:Ap4 c=true)(l:List Int)(hl:l.length≤140737488355327):Ar8 K c l=some (Avt c l):=by
 unfold Ar8;rw[Apt hK l.length (by omega) (fun i=>inB (gt l i) 0 (c.Ae - 1)&& !(l.take i).contains (gt l i)) (some true) (fun n i=>Ao0 K c l n l (l.length:Int) i) (fun n i h=> ?_) (fun n=> ?_)]
 ·unfold Avt;cases (List.range l.length).all _<;>rfl
 ·have hp:(l.take i).length≤140737488355328:=by simp;omega
  simp only[Ao0];rw[Ag0 h,cond_true,if_pos (Aje h),Atl,if_pos (Bbi (by omega)),A6k,Az8 hK _ _ hp,Ag4 (by omega),A3e hK hc]
  simp only[Z0];cases inB (gt l i) 0 (c.Ae - 1)<;>cases (l.take i).contains (gt l i)<;>rfl
 ·show Ao0 K c l (n+1) _ _ _=_;rw[Ao0,Ag1 (Z9 _),cond_false]
theorem A7f{c:Er}(hc:Ap4 c=true)(n:Ba)(hl:n.Ae.length≤140737488355327):At4 K c n=some (Avt c n.Ae&&Bda c n):=by
 unfold At4;rw[Apt hK n.Ae.length (by omega) (fun i=>inB (gt n.Ae i) 0 (c.Ae - 1)&& !(n.Ae.take i).contains (gt n.Ae i)) (some (Bda c n)) (fun k i=>Aov K c k i n.Hh n.C2 n.Ly n.fUp n.Gq n.Bt n.Gr n.Gs n.Ae n.Pq n.Gt n.Ea n.Dg) (fun k i h=> ?_) (fun k=> ?_)]
 ·rw[Ajc];rfl
 ·have hp:(n.Ae.take i).length≤140737488355328:=by simp;omega
  simp only[Aov];rw[Ag0 h,cond_true,if_pos (Aje h),Ast,if_pos (Bbi (by omega)),A6k,Awz hK _ _ hp,Ag4 (by omega),A3e hK hc]
  simp only[Z0,if_pos (Aje h)];cases inB (gt n.Ae i) 0 (c.Ae - 1)<;>cases (n.Ae.take i).contains (gt n.Ae i)<;>rfl
 ·show Aov K c (k+1) _ _ _ _ _ _ _ _ _ _ _ _ _ _=_;rw[Aov,Ag1 (Z9 _),cond_false,Awz hK _ _ (by omega),Ast]
  unfold Bda;simp only[Z0,Ajc];cases n.Pq==0<;>rfl
theorem Ayt (l:List Int)(hl:l.length≤140737488355328):Aqt K l=some (l.all (fun x=>inB x 0 255)):=by
 unfold Aqt Ajb Alf;rw[A0n hK l hl (Asq K) (fun x=> !inB x 0 255) (fun x _=>by simp[Asq,Atl]) (Ag7 K l) (fun n N i=>rfl)]
 simp only[Z0,List.not_any_eq_all_not,Bool.not_not]
theorem Bbj (c:Er)(n:Ba)(h1:n.Ae.length≤140737488355327)(h2:n.Ea.length≤140737488355327)(h3:n.Dg.length≤140737488355327):Awa K c n=some (Aw5 c n):=by
 unfold Awa;rw[Aw0,Bgd];simp only[Z0,Ast];cases hc:Ap4 c with
 |false=>simp[Aw5,hc]
 |true=>
 rw[A7f hK hc n h1]
 have hA:Apx K n.Dg K 0=some (n.Dg.all (fun x=>inB x 0 255)):=by
  rw[Ar1 hK n.Dg (by omega) (fun x=>inB x 0 255) (some true) (Apx K n.Dg) (fun k i h=> ?_) (fun k=> ?_)]
  ·cases n.Dg.all (fun x=>inB x 0 255)<;>rfl
  ·rw[Apx,Ag0 h,cond_true,if_pos (Aje h),Aeg h,Ast,Ag4 (by omega),Z0,Ac2]
  ·rw[Apx,Ag1 (Z9 _),cond_false]
 have hB:Apg K c K 0 n.Hh n.C2 n.Ly n.fUp n.Gq n.Bt n.Gr n.Gs n.Ae n.Pq n.Gt n.Ea n.Dg=some (n.Dg.all (fun x=>inB x 0 255)&&n.Ea.all (Ar2 c)):=by
  rw[Ar1 hK n.Ea (by omega) (Ar2 c) (some (n.Dg.all (fun x=>inB x 0 255))) (fun k i=>Apg K c k i n.Hh n.C2 n.Ly n.fUp n.Gq n.Bt n.Gr n.Gs n.Ae n.Pq n.Gt n.Ea n.Dg) (fun k i h=> ?_) (fun k=> ?_)]
  ·rw[Ajc,Bool.and_comm]
  ·simp only[Apg];rw[Ag0 h,cond_true,if_pos (Aje h),Aeg h,A1y,Ag4 (by omega),Z0,Ac2]
  ·show Apg K c (k+1) _ _ _ _ _ _ _ _ _ _ _ _ _ _=_;rw[Apg,Ag1 (Z9 _),cond_false,hA]
 rw[hB]
 have e12:decide ((n.Ea.length:Int)>12)= !decide ((n.Ea.length:Int)≤12):=by rw[←decide_not];congr 1;simp
 have e6:decide ((n.Dg.length:Int)>6)= !decide ((n.Dg.length:Int)≤6):=by rw[←decide_not];congr 1;simp
 simp only[Z0,cond_true,e12,e6,Ac2,Ajc,Bae];unfold Aw5 A7z;rw[hc];cases n.Hh != 1 with
 |true=>simp only[cond_true,Ajc,Z30]
 |false=>
  simp only[cond_false,Ajc,Z30,Z7]
  ac_rfl
theorem Bbk (c:Er)(n:Ba)(h1:n.Ae.length≤140737488355327)(h2:n.Ea.length≤140737488355327)(h3:n.Dg.length≤140737488355327):Awg K c n=some (Aw5 c n):=by
 unfold Awg;rw[Az9,Bgf (by omega)]
 simp only[Z0,Atl];cases hc:Ap4 c with
 |false=>simp[Aw5,hc]
 |true=>
 have hT:Aiq K n.Ea c=some (n.Ea.any (fun t=> !Ar2 c t)):=
  A0n hK n.Ea (by omega) (fun t=>Aud K t c) (fun t=> !Ar2 c t) (fun x _=>by simp[Aud,A1z]) (Ae9 K n.Ea c) (fun n N i=>rfl)
 have hJ:Ap1 K c n.Ea n.Dg=some ((decide ((n.Ea.length:Int)≤12)&&decide ((n.Dg.length:Int)≤6))&&(n.Dg.all (fun x=>inB x 0 255)&&n.Ea.all (Ar2 c))):=by
  unfold Ap1;rw[hT,Ayt hK _ (by omega)]
  simp only[Z0,Ajc,List.not_any_eq_all_not,Bool.not_not,Z7]
  ac_rfl
 obtain⟨_,b2,_⟩:=Ae1 hc
 have hB:Aph K c K ([n.fUp,n.Bt,n.Gr,n.Gs]:List Int) (([n.fUp,n.Bt,n.Gr,n.Gs]:List Int).length:Int) 0 n.Hh n.C2 n.Ly n.fUp n.Gq n.Bt n.Gr n.Gs n.Ae n.Pq n.Gt n.Ea n.Dg=some (A7z c n):=by
  rw[Ar1 hK ([n.fUp,n.Bt,n.Gr,n.Gs]:List Int) (by simp) (fun x=>inB x 0 c.C0) (some ((!decide (n.Ly<0)&& !decide (n.Gq<0))&&((Avt c n.Ae&&Bda c n)&&((decide ((n.Ea.length:Int)≤12)&&decide ((n.Dg.length:Int)≤6))&&(n.Dg.all (fun x=>inB x 0 255)&&n.Ea.all (Ar2 c)))))) (fun k i=>Aph K c k ([n.fUp,n.Bt,n.Gr,n.Gs]:List Int) (([n.fUp,n.Bt,n.Gr,n.Gs]:List Int).length:Int) i n.Hh n.C2 n.Ly n.fUp n.Gq n.Bt n.Gr n.Gs n.Ae n.Pq n.Gt n.Ea n.Dg) (fun k i h=> ?_) (fun k=> ?_)]
  ·unfold A7z;rw[Ajc];simp only[F3,List.all_nil,Bool.and_true]
  ·simp only[Aph];rw[Ag0 h,cond_true,if_pos (Aje h),Aeg h,Atl,Ag4 (by simp at h ⊢;omega),Z0,Ac2]
  ·show Aph K c (k+1) _ _ _ _ _ _ _ _ _ _ _ _ _ _ _ _=_;rw[Aph,Ag1 (Z9 _),cond_false,hJ,A0u hK hc _ h1,Az8 hK _ _ (by omega),Atl]
   simp only[Z0,bne,Ac2,Ajc,Bae];unfold Bda
   have hz:(n.Gt==0)=true->inB n.Gt 0 c.Eg=true:=by
    intro h;rw[beq_iff_eq]at h;rw[Ayc];omega
   cases e0:n.Pq==0 with
   |true=>
    simp only[cond_true,Ajc,Bae,Bool.not_not,Ac2,cond_false];cases e1:n.Gt==0 with
    |true=>rw[hz e1];simp only[Z30,Bool.and_true];simp only[Z7];ac_rfl
    |false=>cases inB n.Gt 0 c.Eg<;>cases decide (n.Ly<0)<;>cases decide (n.Gq<0)<;>cases Avt c n.Ae<;>rfl
   |false=>
    simp only[cond_false,Ajc,Bae,Z7]
    ac_rfl
 rw[hB];simp only[cond_true,Ac2,Ajc];unfold Aw5;rw[hc];cases n.Hh != 1<;>simp only[cond_true,cond_false,Ajc,Z30]
end
theorem Bes{α β:Type}(l:List α)(q:α->Bool)(fin bad:Option β)(L:Nat->Int->Option β)
  (hs: ∀n (i:Nat) (h:i<l.length),L (n+1) (i:Int)=bif q l[i]then L n ((i+1:Nat):Int)else bad)
  (he: ∀n,L (n+1) (l.length:Int)=fin):
  ∀(n i:Nat),i≤l.length->l.length - i<n->L n (i:Int)=bif (l.drop i).all q then fin else bad:=by
 intro n
 induction n with
 |zero=>intro i _ h;omega
 |succ n ih=>
  intro i hi hn;rcases F9 i l.length with h|h
  ·rw[hs n i h,Z47 h,F3];cases q l[i]with
   |false=>rfl
   |true=>rw[cond_true,ih (i+1) h (by omega)];rfl
  ·obtain rfl:i=l.length:=by omega
   rw[he,List.drop_length];rfl
theorem Bgg{β:Type}{K:Nat}(hK:281474976710656≤K)(N:Nat)(hl:N≤140737488355328)(q:Nat->Bool)(fin bad:Option β)(L:Nat->Int->Option β)
  (hs: ∀n (i:Nat) (h:i<N),L (n+1) (i:Int)=bif q i then L n ((i+1:Nat):Int)else bad)
  (he: ∀n,L (n+1) (N:Int)=fin):L K 0=bif (List.range N).all q then fin else bad:=by
 have:=Bes (List.range N) q fin bad L (fun n i h=>by rw[List.getElem_range];exact hs n i (by simpa using h)) (fun n=>by rw[List.length_range];exact he n) K 0 (Z21 _) (by simp;omega)
 simpa using this
def Axq (t:A9):Prop:=0≤t.fAt∧t.fAt≤200∧0≤t.Vu∧t.Vu≤200
theorem Bbl{c:Er}{t:A9}(h:Ar2 c t=true):Axq t∧Awo c t:=by
 have h1:Awo c t:=by
  unfold Ar2 at h;rw[Z4]at h;exact of_decide_eq_true h.1
 have hb:=Axp c;obtain⟨h2,h3,h4,h5⟩:=h1;exact⟨⟨h4,by omega,by omega,by omega⟩,h2,h3,h4,h5⟩
def Apu (a b:A9):Bool:=decide (a.Vu≤0∨b.Vu≤0∨a.fAt+a.Vu≤b.fAt∨b.fAt+b.Vu≤a.fAt)
theorem Bbm (a b:A9):Apu a b=Apu b a:=by
 unfold Apu;rw[decide_eq_decide];omega
theorem Bdb (K:Nat){a b:A9}(ha:Axq a)(hb:Axq b):Axa K a b=some (Apu a b):=by
 obtain⟨a1,a2,a3,a4⟩:=ha;obtain⟨b1,b2,b3,b4⟩:=hb;unfold Axa Aob;rw[Ahs (n:=b.fAt - a.fAt) (by omega) (by omega),Ahs (n:=a.fAt - b.fAt) (by omega) (by omega)]
 simp only[Axo]
 have: ∀x:Bool,x=Apu a b->some x=some (Apu a b):=fun x h=>by rw[h]
 by_cases h:a.fAt≤b.fAt
 ·rw[decide_eq_true h,cond_true,Axo,Axo];refine this _ ?_;rw[Bool.eq_iff_iff];simp only[Apu,Bool.or_eq_true,decide_eq_true_eq];omega
 ·rw[decide_eq_false h,cond_false,Axo,Axo];refine this _ ?_;rw[Bool.eq_iff_iff];simp only[Apu,Bool.or_eq_true,decide_eq_true_eq];omega
theorem A6m (K:Nat){a b:A9}(ha:Axq a)(hb:Axq b):Avf K a b=some (Apu a b):=by
 obtain⟨a1,a2,a3,a4⟩:=ha;obtain⟨b1,b2,b3,b4⟩:=hb;unfold Avf Ave Aob;simp only[IntKind.wrap_u64]
 have: ∀x:Bool,x=Apu a b->some x=some (Apu a b):=fun x h=>by rw[h]
 by_cases h:a.fAt>b.fAt
 ·rw[decide_eq_true h,cond_true,Axo,Axo];refine this _ ?_;rw[Bool.eq_iff_iff];simp only[Apu,Bool.or_eq_true,decide_eq_true_eq];omega
 ·rw[decide_eq_false h,cond_false,Axo,Axo];refine this _ ?_;rw[Bool.eq_iff_iff];simp only[Apu,Bool.or_eq_true,decide_eq_true_eq];omega
def Av3 (l:List A9):Bool:=(List.range l.length).all (fun i=>(l.take i).all (fun o=>Apu o (gt l i)))
def Ay0 (c:Er)(chunks:List Int)(t:A9):Bool:=
 Ar2 c t&&(List.range ((t.fAt+t.Vu - 1) / c.Eg - t.fAt / c.Eg+1).toNat).all (fun j=>chunks.contains (t.fAt / c.Eg+(j:Int)))
theorem A70{c:Er}{t:A9}(h:Ar2 c t=true):
  c.Eg≠0∧Alr .i64 t.fAt c.Eg=t.fAt / c.Eg∧Alr .i64 (Aob .i64 (Aoa .i64 t.fAt t.Vu) 1) c.Eg=(t.fAt+t.Vu - 1) / c.Eg∧0≤t.fAt / c.Eg∧t.fAt / c.Eg≤(t.fAt+t.Vu - 1) / c.Eg∧(t.fAt+t.Vu - 1) / c.Eg≤192:=by
 obtain⟨hs,hc,h1,h2,h3⟩:=Bbl h
 have hb:=Axp c;obtain⟨b1,b2,_⟩:=Ae1 hc
 have e1:Aob .i64 (Aoa .i64 t.fAt t.Vu) 1=t.fAt+t.Vu - 1:=by
  unfold Aob Aoa;rw[Ahs (n:=t.fAt+t.Vu) (by omega) (by omega),Ahs (by omega) (by omega)]
 have e2: ∀x:Int,0≤x->x≤192->Alr .i64 x c.Eg=x / c.Eg∧0≤x / c.Eg∧x / c.Eg≤192:=by
  intro x h0 hx
  have h3:x / c.Eg≤x:=Int.ediv_le_self _ h0
  have h4:0≤x / c.Eg:=Int.ediv_nonneg h0 (by omega)
  refine⟨?_,h4,by omega⟩
  unfold Alr;rw[Int.tdiv_eq_ediv_of_nonneg h0,Ahs (by omega) (by omega)]
 obtain⟨x1,x2,x3⟩:=e2 t.fAt h2 (by omega)
 obtain⟨y1,y2,y3⟩:=e2 (t.fAt+t.Vu - 1) (by omega) (by omega)
 refine⟨by omega,x1,by rw[e1,y1],x2,Int.ediv_le_ediv (by omega) (by omega),y3⟩
theorem Buk{a:Int}{j:Nat}(h0:0≤a)(h:a+j≤140737488355328):Aoa .i64 (a+(j:Int)) 1=a+((j+1:Nat):Int):=by
 unfold Aoa;rw[Ahs (by omega) (by omega)];omega
section
variable {K:Nat} (hK:281474976710656≤K)
include hK
theorem A7g (l:List A9)(hl:l.length≤140737488355327)(hs: ∀t∈l,Axq t):At6 K l=some (Av3 l):=by
 unfold At6 Av3;rw[Apt hK l.length (by omega) (fun i=>(l.take i).all (fun o=>Apu o (gt l i))) (some true) (fun n i=>Ak5 K l n i) (fun n i h=> ?_) (fun n=> ?_)]
 ·cases (List.range l.length).all _<;>rfl
 ·simp only[Ak5];rw[Ag0 h,cond_true]
  have hlen:(l.take i).length=i:=by simp;omega
  rw[Ar1 hK (l.take i) (by omega) (fun o=>Apu o (gt l i)) (Ak5 K l n (Aoa .i64 i 1)) (fun m j=>Aox K l i (Ak5 K l n) m j) (fun m j hj=> ?_) (fun m=> ?_)]
  ·rw[Ag4 (by omega)]
  ·have hj':j<i:=by omega
   simp only[Aox];rw[Ag0 hj',cond_true,if_pos (Aje h),if_pos (Aje (show j<l.length by omega)),Bdb K (hs _ (An0 h)) (hs _ (An0 (show j<l.length by omega))),Z0,Ac2,Ag4 (by omega),Bbm,List.getElem_take,Aeg (show j<l.length by omega)]
  ·show Aox K l i _ (m+1) _=_;rw[Aox,hlen,Ag1 (Z9 _),cond_false]
 ·show Ak5 K l (n+1) _=_;rw[Ak5,Ag1 (Z9 _),cond_false]
theorem A7h (l:List A9)(hl:l.length≤140737488355327)(hs: ∀t∈l,Axq t):Auf K l=some (Av3 l):=by
 unfold Auf Av3;rw[Apt hK l.length (by omega) (fun i=>(l.take i).all (fun o=>Apu o (gt l i))) (some true) (fun n i=>Ao3 K l n l (l.length:Int) i) (fun n i h=> ?_) (fun n=> ?_)]
 ·cases (List.range l.length).all _<;>rfl
 ·simp only[Ao3]
  have hlen:(l.take i).length=i:=by simp;omega
  have hC:Ahe K (l.take i) (gt l i)=some ((l.take i).any (fun o=> !Apu o (gt l i))):=
   A0n hK (l.take i) (by omega) (fun t=>Asr K t (gt l i)) (fun o=> !Apu o (gt l i)) (fun x hx=>by
    unfold Asr;rw[A6m K (hs _ (Za hx)) (hs _ (An0 h))];rfl) (Aem K (l.take i) (gt l i)) (fun n N i=>rfl)
  rw[Ag0 h,cond_true,if_pos (Aje h),if_pos (Bbi (by omega)),A6k,hC,Ag4 (by omega),Z0,List.any_eq_not_all_not,Ac2]
  simp only[Bool.not_not]
 ·show Ao3 K l (n+1) _ _ _=_;rw[Ao3,Ag1 (Z9 _),cond_false]
theorem A7i (c:Er)(n:Ba)(h1:n.Ae.length≤140737488355327)(h2:n.Ea.length≤140737488355327):Aue K c n=some (n.Ea.all (Ay0 c n.Ae)):=by
 unfold Aue
 have h1t: ∀t,Aq0 K t c n=some (!Ay0 c n.Ae t):=by
  intro t;unfold Aq0 Ay0;rw[A1z,Z0,Ac2];cases ht:Ar2 c t with
  |false=>rfl
  |true=>
   obtain⟨d0,d1,d2,d3,d4,d5⟩:=A70 ht;rw[cond_true,if_pos d0,d1]
   have:=Bgg hK ((t.fAt+t.Vu - 1) / c.Eg - t.fAt / c.Eg+1).toNat (by omega) (fun j=>n.Ae.contains (t.fAt / c.Eg+(j:Int))) (some false) (some true) (fun m j=>Al7 K t c n m (t.fAt / c.Eg+j)) (fun m j hj=> ?_) (fun m=> ?_)
   ·simp only[Int.add_zero]at this;rw[this];cases (List.range _).all _<;>rfl
   ·simp only[Al7];rw[if_pos d0,d2,decide_eq_true (by omega),cond_true,Az8 hK _ _ (by omega),Z0,Ac2,Buk d3 (by omega)]
   ·show Al7 K t c n (m+1) _=_;rw[Al7,if_pos d0,d2,decide_eq_false (by omega),cond_false]
 have hC:Ahd K n.Ea c n=some (n.Ea.any (fun t=> !Ay0 c n.Ae t)):=
  A0n hK n.Ea (by omega) (fun t=>Aq0 K t c n) (fun t=> !Ay0 c n.Ae t) (fun x _=>h1t x) (Ael K n.Ea c n) (fun n N i=>rfl)
 rw[hC];simp only[Z0,List.not_any_eq_all_not,Bool.not_not]
theorem A7j (c:Er)(n:Ba)(h1:n.Ae.length≤140737488355327)(h2:n.Ea.length≤140737488355327):At5 K c n=some (n.Ea.all (Ay0 c n.Ae)):=by
 unfold At5;rw[Ar1 hK n.Ea (by omega) (Ay0 c n.Ae) (some true) (fun k i=>Ak4 K c k i n.Hh n.C2 n.Ly n.fUp n.Gq n.Bt n.Gr n.Gs n.Ae n.Pq n.Gt n.Ea n.Dg) (fun k i h=> ?_) (fun k=> ?_)]
 ·cases n.Ea.all _<;>rfl
 ·simp only[Ak4];rw[Ag0 h,cond_true,if_pos (Aje h),Aeg h,A1y,Z0,Ac2];unfold Ay0;generalize n.Ea[i]=t;cases ht:Ar2 c t with
  |false=>rfl
  |true=>
   obtain⟨d0,d1,d2,d3,d4,d5⟩:=A70 ht;rw[cond_true,if_pos d0,d1,Z30]
   have:=Apt hK ((t.fAt+t.Vu - 1) / c.Eg - t.fAt / c.Eg+1).toNat (by omega) (fun j=>n.Ae.contains (t.fAt / c.Eg+(j:Int))) (Ak4 K c k ((i+1:Nat):Int) n.Hh n.C2 n.Ly n.fUp n.Gq n.Bt n.Gr n.Gs n.Ae n.Pq n.Gt n.Ea n.Dg)
    (fun m j=>Aow K c i n.Hh n.C2 n.Ly n.fUp n.Gq n.Bt n.Gr n.Gs n.Ae n.Pq n.Gt n.Ea n.Dg (Ak4 K c k) m (t.fAt / c.Eg+j) t) (fun m j hj=> ?_) (fun m=> ?_)
   ·simp only[Int.add_zero]at this;exact this
   ·simp only[Aow];rw[if_pos d0,d2,decide_eq_true (by omega),cond_true,Awz hK _ _ (by omega),Z0,Ac2,Buk d3 (by omega)]
   ·show Aow K c i _ _ _ _ _ _ _ _ _ _ _ _ _ _ (m+1) _ _=_;rw[Aow,if_pos d0,d2,decide_eq_false (by omega),cond_false,Ag4 (by omega)]
 ·show Ak4 K c (k+1) _ _ _ _ _ _ _ _ _ _ _ _ _ _=_;rw[Ak4,Ag1 (Z9 _),cond_false]
end
def wfi (x:Int):Prop:= -9223372036854775808≤x∧x≤9223372036854775807
def A0c (l:List Int):Prop:=(∀x∈l,wfi x)∧l.length*8≤140737488355327
def Bmo (l:List Int):Prop:=(∀x∈l,0≤x∧x≤255)∧l.length≤140737488355327
def Bxq (t:A9):Prop:=wfi t.fAt∧wfi t.Vu∧wfi t.Vv
def A10 (l:List A9):Prop:=(∀x∈l,Bxq x)∧l.length*24≤140737488355327
structure Atm (n:Ba):Prop where
 st:wfi n.Hh
 gen:wfi n.C2
 ep:wfi n.Ly
 up:wfi n.fUp
 upEp:wfi n.Gq
 first:wfi n.Bt
 next:wfi n.Gr
 prev:wfi n.Gs
 chunks:A0c n.Ae
 cur:wfi n.Pq
 bump:wfi n.Gt
 things:A10 n.Ea
 tags:A0c n.Dg
def Agf (l:List Ba):Prop:=(∀x∈l,Atm x)∧l.length*152≤140737488355327
structure Azb (x:Ax):Prop where
 slot:wfi x.A5
 first:wfi x.Bt
 tags:A0c x.Dg
 chunks:A0c x.Ae
 done:wfi x.Gu
def Bet (l:List Ax):Prop:=(∀x∈l,Azb x)∧l.length*72≤140737488355327
structure B4b (c:Er):Prop where
 chunks:wfi c.Ae
 size:wfi c.Eg
 slots:wfi c.C0
 tax:wfi c.E9
 slice:wfi c.C1
 gens:wfi c.Eh
structure Azl (p:Dw):Prop where
 mem:Bmo p.Fy
 st:A0c p.Hh
 own:A0c p.Fz
structure Al4 (w:Eb):Prop where
 c:B4b w.fC
 p:Azl w.fP
 l:Agf w.fL
 q:Bet w.fQ
 log:A0c w.Pr
theorem Al5:140737488355328≤maxLen:=by unfold maxLen;omega
theorem A3f{α:Type}(x:Option α):Afd x x=x:=by simp[Afd]
theorem Asj (K:Nat){l:List Int}(h:l.length*8≤140737488355327):Aen K l=some l:=by
 have hm:=Al5;unfold Aen;rw[Zg,if_pos ⟨by omega,by omega⟩]
 cases l with
 |nil=>exact A3f _
 |cons x l=>rfl
theorem Bdc (K:Nat){l:List Int}(h:l.length≤140737488355327):Aq9 K l=some l:=by
 have hm:=Al5;unfold Aq9;rw[Zg,if_pos ⟨by omega,by omega⟩]
 cases l with
 |nil=>exact A3f _
 |cons x l=>rfl
theorem Bbn (K:Nat){l:List A9}(h:l.length*24≤140737488355327):Apj K l=some l:=by
 have hm:=Al5;unfold Apj;rw[Zg,if_pos ⟨by omega,by omega⟩]
 cases l with
 |nil=>exact A3f _
 |cons x l=>rfl
theorem Beu{α:Type}(N:Nat)(q:Nat->Bool)(g:Nat->α)(L:Nat->List α->Int->Option (List α))
  (hs: ∀n v (i:Nat),i<N->v.length≤i->L (n+1) v (i:Int)=bif q i then L n (v++[g i]) ((i+1:Nat):Int)else L n v ((i+1:Nat):Int))
  (he: ∀n v,L (n+1) v (N:Int)=some v):
  ∀(n i:Nat) (v:List α),i≤N->v.length≤i->N - i<n->L n v (i:Int)=some (v++(((List.range N).drop i).filter q).map g):=by
 intro n
 induction n with
 |zero=>intro i v _ _ h;omega
 |succ n ih=>
  intro i v hi hv hn;rcases F9 i N with h|h
  ·rw[hs n v i h hv,Z47 (by simpa using h),List.getElem_range,List.filter_cons]
   cases hq:q i with
   |true=>
    rw[cond_true,ih (i+1) _ h (by simp;omega) (by omega)]
    simp
   |false=>
    rw[cond_false,ih (i+1) _ h (by omega) (by omega)]
    simp
  ·obtain rfl:i=N:=by omega
   rw[he,Z48 (by simp)];simp
def Atn (p:Dw)(k:Int):List Int:=((List.range (min p.Hh.length p.Fz.length)).filter (fun i:Nat=>gt p.Hh i==1&&gt p.Fz i==k)).map (fun i:Nat=>(i:Int))
theorem Bdd (p:Dw)(k:Int):(Atn p k).length≤min p.Hh.length p.Fz.length:=by
 unfold Atn;rw[B8];exact To (List.length_filter_le _ _) (by simp)
theorem A0v (p:Dw)(k:Int):(Atn p k).Pairwise (fun a b=>a<b):=by
 unfold Atn;rw[List.pairwise_map];exact(List.Pairwise.filter _ List.pairwise_lt_range).imp fun h=>by omega
theorem A3p{l:List Int}: ∀ {o:List Int},o.Nodup->(∀x∈o,x∈l)->o.length=l.length->o.Perm l:=by
 intro o
 induction o generalizing l with
 |nil=>intro _ _ h;cases l with
  |nil=>exact .nil
  |cons _ _=>simp at h
 |cons x o ih=>
  intro hn hs hl
  have hx:x∈l:=hs x (by simp)
  rw[List.nodup_cons]at hn
  have h2:o.Perm (l.erase x):=ih hn.2 (fun y hy=>by
   have hne:y≠x:=fun e=>hn.1 (e ▸ hy);exact(List.mem_erase_of_ne hne).2 (hs y (by simp[hy]))) (by rw[List.length_erase_of_mem hx];simp at hl;omega)
  exact(List.Perm.cons x h2).trans (List.perm_cons_erase hx).symm
def A0o (p:Dw)(k:Int)(l:List Int):Bool:=(Atn p k).all (fun x=>l.contains x)&&((Atn p k).length:Int)==(l.length:Int)
theorem Bp4 (p:Dw)(k:Int)(l:List Int):decide (l.mergeSort (fun x y=>decide (x≤y))=Atn p k)=A0o p k l:=by
 rw[Bool.eq_iff_iff];unfold A0o;simp only[decide_eq_true_eq,Z4,Z1,List.contains_iff_mem,beq_iff_eq]
 have hp:=List.mergeSort_perm l (fun x y=>decide (x≤y));constructor
 ·intro e;rw[e]at hp;exact⟨fun x hx=>hp.mem_iff.1 hx,by have:=hp.length_eq;omega⟩
 ·rintro⟨h1,h2⟩
  have hn:(Atn p k).Nodup:=(A0v p k).imp fun h=>by omega
  have h3:=A3p hn h1 (by omega)
  refine List.Perm.eq_of_pairwise (le:=fun a b=>a≤b) (fun a b _ _ h1 h2=>by omega) ?_ ((A0v p k).imp fun h=>by omega) (hp.trans h3.symm)
  have:=List.pairwise_mergeSort (le:=fun x y:Int=>decide (x≤y)) (fun a b c h1 h2=>by simp at *;omega) (fun a b=>by simp;omega) l
  exact this.imp fun h=>by simpa using h
theorem Bgh{a b:List Int}(h:a.length=b.length):(List.range a.length).all (fun i=>gt a i==gt b i)=decide (a=b):=by
 rw[Bool.eq_iff_iff];simp only[Z1,List.mem_range,beq_iff_eq,decide_eq_true_eq];constructor
 ·intro h1;refine List.ext_getElem h fun i h2 h3=> ?_
  have:=h1 i h2
  rwa[Aeg h2,Aeg h3]at this
 ·rintro rfl _ _;rfl
section
variable {K:Nat} (hK:281474976710656≤K)
include hK
theorem Bgi (a b:List Int)(ha:a.length≤140737488355327):Ai3 K a b=some (decide (a=b)):=by
 unfold Ai3
 by_cases h:a.length=b.length
 ·rw[show((a.length:Int) != (b.length:Int))=false by simp[h],cond_false,←Bgh h]
  rw[Apt hK a.length (by omega) (fun i=>gt a i==gt b i) (some true) (fun n i=>Ai1 K a b n (a.length:Int) i) (fun n i hi=> ?_) (fun n=> ?_)]
  ·cases (List.range a.length).all _<;>rfl
  ·simp only[Ai1];rw[Ag0 hi,cond_true,if_pos (Aje hi),if_pos (Aje (show i<b.length by omega)),Ag4 (by omega),bne,Ac2]
  ·show Ai1 K a b (n+1) _ _=_;rw[Ai1,Ag1 (Z9 _),cond_false]
 ·rw[As7 (by omega),cond_true,decide_eq_false (fun e=>h (by rw[e]))]
theorem Baf (p:Dw)(k:Int)(h1:p.Hh.length*8≤140737488355327):Au6 K p k=some (Atn p k):=by
 have hm:=Al5;unfold Au6
 have:=Beu (min p.Hh.length p.Fz.length) (fun i:Nat=>gt p.Hh i==1&&gt p.Fz i==k) (fun i:Nat=>(i:Int)) (fun n v i=>Alj K k n v i p.Fy p.Hh p.Fz) (fun n v i hi hv=> ?_) (fun n v=> ?_) K 0 [] (Z21 _) (Z9 _) (by omega)
 ·simpa[Atn]using this
 ·have h2:(v++([(i:Int)]:List Int)).length=v.length+1:=by simp
  simp only[Alj,Arh];rw[Ag0 (by omega),Ag0 (by omega),cond_true,cond_true,if_pos (Aje (by omega)),if_pos (Aje (by omega)),Ag4 (by omega),if_pos ⟨by rw[h2];omega,by rw[h2];omega⟩]
  cases gt p.Hh (i:Int)==1<;>cases gt p.Fz (i:Int)==k<;>rfl
 ·show Alj K k (n+1) v _ _ _ _=_;rw[Alj];rcases Nat.le_total p.Hh.length p.Fz.length with h|h
  ·rw[Nat.min_eq_left h,Ag1 (Z9 _),cond_false]
  ·rw[Nat.min_eq_right h,Ag1 (Z9 p.Fz.length),cond_false,cc]
theorem Bag (p:Dw)(k:Int)(h1:p.Hh.length*8≤140737488355327):Avd K p k=some (Atn p k):=by
 have hm:=Al5;unfold Avd
 have e:Aaf (p.Hh.length:Int) (p.Fz.length:Int)=((min p.Hh.length p.Fz.length:Nat):Int):=by unfold Aaf;split<;>omega
 rw[e]
 have:=Beu (min p.Hh.length p.Fz.length) (fun i:Nat=>gt p.Hh i==1&&gt p.Fz i==k) (fun i:Nat=>(i:Int)) (fun n v i=>Al3 K k n v ((min p.Hh.length p.Fz.length:Nat):Int) i p.Fy p.Hh p.Fz) (fun n v i hi hv=> ?_) (fun n v=> ?_) K 0 [] (Z21 _) (Z9 _) (by omega)
 ·simpa[Atn]using this
 ·have h2:(v++([(i:Int)]:List Int)).length=v.length+1:=by simp
  simp only[Al3,Arn];rw[Ag0 hi,cond_true,if_pos (Aje (by omega)),if_pos (Aje (by omega)),Ag4 (by omega),if_pos ⟨by rw[h2];omega,by rw[h2];omega⟩]
  cases gt p.Hh (i:Int)==1<;>cases gt p.Fz (i:Int)==k<;>rfl
 ·show Al3 K k (n+1) v _ _ _ _ _=_;rw[Al3,Ag1 (Z9 _),cond_false]
theorem A6n (w:Eb)(k:Nat)(hk:k<w.fL.length)(h1:w.fP.Hh.length*8≤140737488355327)(h2:(gt w.fL k).Ae.length≤140737488355327):Ath K w k=some (A0o w.fP k (gt w.fL k).Ae):=by
 unfold Ath;rw[Baf hK _ _ h1,Z0]
 have hl:=Bdd w.fP k;rw[Ar1 hK (Atn w.fP k) (by omega) (fun x=>(gt w.fL k).Ae.contains x) (some (((Atn w.fP k).length:Int)==((gt w.fL k).Ae.length:Int))) (fun n i=>Ank K k (Atn w.fP k) n i w.fC.Ae w.fC.Eg w.fC.C0 w.fC.E9 w.fC.C1 w.fC.Eh w.fP.Fy w.fP.Hh w.fP.Fz w.fL w.fQ w.Pr) (fun n i hi=> ?_) (fun n=> ?_)]
 ·rw[Ajc];rfl
 ·simp only[Ank];rw[Ag0 hi,cond_true,if_pos (Aje hk),if_pos (Aje hi),Awz hK _ _ (by omega),Z0,Ac2,Ag4 (by omega),Aeg hi]
 ·show Ank K k (Atn w.fP k) (n+1) _ _ _ _ _ _ _ _ _ _ _ _ _=_;rw[Ank,Ag1 (Z9 _),cond_false,if_pos (Aje hk)]
end
def Aw6 (c:Er)(n:Ba):A9:=A9.mk ((n.Pq - 1)*c.Eg+n.Gt) (c.Eg - n.Gt) 0
def A6o (c:Er)(mem:List Int)(n:Ba):Bool:=
 n.Pq==0||(Ayz ((mem.drop (Aw6 c n).fAt.toNat).take (Aw6 c n).Vu.toNat)&&n.Ea.all (fun t=>Apu t (Aw6 c n)))
theorem Bgj{c:Er}{n:Ba}(h:Aw5 c n=true)(h1:n.Hh=1):Ap4 c=true∧A7z c n=true:=by
 unfold Aw5 at h;simp only[Z4]at h;refine⟨h.1,?_⟩
 have:=h.2.2.2;rw[h1]at this;exact this
theorem Bgk{c:Er}{n:Ba}(h:Aw5 c n=true)(h1:n.Hh≠1):A6l n=true:=by
 unfold Aw5 at h;simp only[Z4]at h
 have:=h.2.2.2;rw[As7 h1]at this;exact this
theorem Bxr{c:Er}{n:Ba}(hw:Atm n)(h:Aw5 c n=true)(h1:n.Pq≠0):n.Hh=1∧1≤n.Pq∧n.Pq≤c.Ae∧0≤n.Gt∧n.Gt≤c.Eg:=by
 by_cases h2:n.Hh=1
 ·refine⟨h2,?_⟩;obtain⟨hc,hl⟩:=Bgj h h2;obtain⟨b1,_⟩:=Ae1 hc;unfold A7z at hl;simp only[Z4]at hl
  have hd:=hl.2.2.1.1
  have hcu:=hl.2.2.1.2;unfold Bda at hcu;rw[Aqi h1,cond_false,Z4,List.contains_iff_mem,Ayc]at hcu;obtain⟨i,hi,e⟩:=List.mem_iff_getElem.1 hcu.1;unfold Avt at hd;rw[Z1]at hd
  have:=hd i (by simpa using hi)
  rw[Z4,Aeg hi,e,Ayc]at this
  have h3:=this.1;obtain⟨w1,w2⟩:=hw.cur;unfold Aob at h3;rw[IntKind.wrap_i64]at h3;refine⟨by omega,by omega,hcu.2.1,hcu.2.2⟩
 ·have:=Bgk h h2;unfold A6l at this;simp only[Z4,beq_iff_eq]at this;exact absurd this.2.2.2.2.2.2.2.1 h1
theorem Bev{c:Er}{p:Dw}{n:Ba}(hp:Auw c p=true)(hw:Atm n)(h:Aw5 c n=true)(h1:n.Pq≠0):
  Aoa .i64 (Aoc .i64 (Aob .i64 n.Pq 1) c.Eg) n.Gt=(Aw6 c n).fAt∧Aob .i64 c.Eg n.Gt=(Aw6 c n).Vu∧Aoc .i64 n.Pq c.Eg=(Aw6 c n).fAt+(Aw6 c n).Vu∧Axq (Aw6 c n)∧(Aw6 c n).fAt+(Aw6 c n).Vu≤(p.Fy.length:Int):=by
 obtain⟨h2,c1,c2,c3,c4⟩:=Bxr hw h h1;obtain⟨hc,hm,_⟩:=Av2 hp;obtain⟨b1,b2,_⟩:=Ae1 hc
 have m1:=A1w (a:=n.Pq - 1) (b:=c.Eg) (m:=11) (n:=16) (by omega) (by omega) (by omega) b2.2
 have e2:n.Pq*c.Eg=(n.Pq - 1)*c.Eg+c.Eg:=by rw[Int.sub_mul,Int.one_mul];omega
 have m2:n.Pq*c.Eg≤c.Ae*c.Eg:=Int.mul_le_mul_of_nonneg_right (by omega) (by omega)
 unfold Aw6 Axq Aoa Aob Aoc;simp only;rw[Ahs (n:=n.Pq - 1) (by omega) (by omega),Ahs (n:=(n.Pq - 1)*c.Eg) (by omega) (by omega),Ahs (n:=(n.Pq - 1)*c.Eg+n.Gt) (by omega) (by omega),Ahs (n:=c.Eg - n.Gt) (by omega) (by omega),Ahs (n:=n.Pq*c.Eg) (by omega) (by omega)]
 refine⟨rfl,rfl,by omega,⟨by omega,by omega,by omega,by omega⟩,by omega⟩
theorem A6p{c:Er}{l:List A9}{ch:List Int}(h:l.all (Ay0 c ch)=true): ∀t∈l,Axq t∧1≤t.Vu:=by
 intro t ht;rw[Z1]at h
 have:=h t ht;unfold Ay0 at this;rw[Z4]at this;obtain⟨h1,h2⟩:=Bbl this.1;exact⟨h1,h2.2.1⟩
def A6q (w:Eb)(k:Nat):Bool:=
 Aw5 w.fC (gt w.fL k)&&(A0o w.fP k (gt w.fL k).Ae&&((gt w.fL k).Ea.all (Ay0 w.fC (gt w.fL k).Ae)&&(Av3 (gt w.fL k).Ea&&A6o w.fC w.fP.Fy (gt w.fL k))))
section
variable {K:Nat} (hK:281474976710656≤K)
include hK
theorem A07{l:List Int}(h:A0c l):l.length≤140737488355327:=by have:=h.2;omega
theorem Bmp{l:List A9}(h:A10 l):l.length≤140737488355327:=by have:=h.2;omega
theorem Bde (w:Eb)(k:Nat)(hk:k<w.fL.length)(hp:Auw w.fC w.fP=true)(hw:Atm (gt w.fL k))(hn:Aw5 w.fC (gt w.fL k)=true)(hs: ∀t∈(gt w.fL k).Ea,Axq t∧1≤t.Vu):At7 K w k=some (A6o w.fC w.fP.Fy (gt w.fL k)):=by
 unfold At7;rw[if_pos (Aje hk)];unfold A6o
 by_cases h1:(gt w.fL k).Pq=0
 ·rw[h1];rfl
 ·rw[Aqi h1,cond_false];obtain⟨e1,e2,e3,⟨s1,s2,s3,s4⟩,s5⟩:=Bev hp hw hn h1;rw[e1,e3];generalize hr:Aw6 w.fC (gt w.fL k)=r at *;rcases (show r.Vu=0∨1≤r.Vu by omega)with h2|h2
  ·rw[decide_eq_true (show r.fAt≥r.fAt+r.Vu by omega),cond_true,h2]
   have:(gt w.fL k).Ea.all (fun t=>Apu t r)=true:=by
    rw[Z1];intro t _;exact decide_eq_true (.inr (.inl (by omega)))
   rw[this];simp[Ayz]
  ·rw[decide_eq_false (show ¬r.fAt≥r.fAt+r.Vu by omega),cond_false]
   have hlt:=Bmp hK hw.things
   have hz:List.take (r.fAt+r.Vu - r.fAt).toNat (List.drop r.fAt.toNat w.fP.Fy)=List.take r.Vu.toNat (List.drop r.fAt.toNat w.fP.Fy):=by rw[show r.fAt+r.Vu - r.fAt=r.Vu by omega]
   rw[Ar1 hK (gt w.fL k).Ea (by omega) (fun t=>Apu t r) (some (Ayz (List.take r.Vu.toNat (List.drop r.fAt.toNat w.fP.Fy)))) (fun m i=>Amf K m r.fAt (r.fAt+r.Vu) i (gt w.fL k).Hh (gt w.fL k).C2 (gt w.fL k).Ly (gt w.fL k).fUp (gt w.fL k).Gq (gt w.fL k).Bt (gt w.fL k).Gr (gt w.fL k).Gs (gt w.fL k).Ae (gt w.fL k).Pq (gt w.fL k).Gt (gt w.fL k).Ea (gt w.fL k).Dg w.fC.Ae w.fC.Eg w.fC.C0 w.fC.E9 w.fC.C1 w.fC.Eh w.fP.Fy w.fP.Hh w.fP.Fz w.fL w.fQ w.Pr) (fun m i hi=> ?_) (fun m=> ?_)]
   ·rw[Ajc,Bool.and_comm];rfl
   ·simp only[Amf,Aso];obtain⟨⟨t1,t2,t3,t4⟩,t5⟩:=hs _ (An0 hi);rw[Ag0 hi,cond_true,if_pos (Aje hi),Ag4 (by omega),←Aeg hi]
    generalize gt (gt w.fL k).Ea i=t at *;unfold Aoa;rw[Ahs (n:=t.fAt+t.Vu) (by omega) (by omega)]
    unfold Apu
    by_cases g1:t.fAt<r.fAt+r.Vu
    ·by_cases g2:t.fAt+t.Vu>r.fAt
     ·rw[decide_eq_true g1,decide_eq_true g2,decide_eq_false (by omega)];rfl
     ·rw[decide_eq_true g1,decide_eq_false g2,decide_eq_true (by omega)];rfl
    ·rw[decide_eq_false g1,decide_eq_true (show t.Vu≤0∨r.Vu≤0∨t.fAt+t.Vu≤r.fAt∨r.fAt+r.Vu≤t.fAt by omega)];rfl
   ·show Amf K (m+1) _ _ _ _ _ _ _ _ _ _ _ _ _ _ _ _ _ _ _ _ _ _ _ _ _ _ _ _=_;rw[Amf,Ag1 (Z9 _),cond_false,if_pos ⟨s1,by omega,s5⟩,A0a hK _ (by simp;omega),hz,Z0]
theorem Bmq (l:List Int)(h:A0c l):Eu K l=some (l.mergeSort fun x y=>decide (x≤y)):=by
 have:=h.2;unfold Eu;rw[if_pos (by omega)]
theorem Bah (w:Eb)(hw:Al4 w)(hp:Auw w.fC w.fP=true):Aq1 K w=some ((List.range w.fL.length).all (A6q w)):=by
 unfold Aq1
 have hlL:=hw.l.2;rw[Apt hK w.fL.length (by omega) (A6q w) (some true) (fun m i=>Ahl K m w.fL (w.fL.length:Int) i w.fC.Ae w.fC.Eg w.fC.C0 w.fC.E9 w.fC.C1 w.fC.Eh w.fP.Fy w.fP.Hh w.fP.Fz w.fL w.fQ w.Pr) (fun m k hk=> ?_) (fun m=> ?_)]
 ·cases (List.range w.fL.length).all _<;>rfl
 ·simp only[Ahl,Ap6];rw[show Er.mk w.fC.Ae w.fC.Eg w.fC.C0 w.fC.E9 w.fC.C1 w.fC.Eh=w.fC from rfl,show Dw.mk w.fP.Fy w.fP.Hh w.fP.Fz=w.fP from rfl]
  have hn:=hw.l.1 _ (An0 hk);unfold A6q;generalize hN:gt w.fL k=n at*
  have l1:=A07 hK hn.chunks
  have l2:=Bmp hK hn.things
  have l3:=A07 hK hn.tags;rw[Ag0 hk,cond_true,if_pos (Aje hk),Asj K hn.chunks.2,Z0,Bmq hK _ hn.chunks,Z0,if_pos (List.length_mergeSort _),Bbk hK _ _ l1 l2 l3,Z0,Bag hK _ _ hw.p.st.2,Ag4 (by omega)]
  simp only[Z0];rw[Bgi hK _ _ (by rw[List.length_mergeSort];exact l1),Bp4,A7i hK _ _ l1 l2]
  simp only[Z0];cases hb:Aw5 w.fC n with
  |false=>rfl
  |true=>
  cases A0o w.fP k n.Ae with
  |false=>rfl
  |true=>
  cases hi:n.Ea.all (Ay0 w.fC n.Ae)with
  |false=>rfl
  |true=>
  have hs:=A6p hi;rw[A7h hK _ l2 (fun t ht=>(hs t ht).1)];simp only[Z0,cond_true,Ac2,Z30];cases Av3 n.Ea with
  |false=>rfl
  |true=>
  simp only[cond_true,Z30];unfold A6o
  by_cases h1:n.Pq=0
  ·rw[h1];rfl
  ·rw[Aqi h1,cond_false,Z52];obtain⟨e1,e2,e3,s,s5⟩:=Bev hp hn hb h1
   have hmk:A9.mk (Aw6 w.fC n).fAt (Aw6 w.fC n).Vu 0=Aw6 w.fC n:=rfl;rw[e1,e2];simp only[hmk];generalize hr:Aw6 w.fC n=r at *;obtain⟨s1,s2,s3,s4⟩:=s
   have e4:Aoa .i64 r.fAt r.Vu=r.fAt+r.Vu:=by unfold Aoa;rw[Ahs (by omega) (by omega)]
   have hC:Ag2 K n.Ea r=some (n.Ea.any (fun t=> !Apu t r)):=
    A0n hK n.Ea (by omega) (fun t=>Ap5 K t r) (fun t=> !Apu t r) (fun x hx=>by
     unfold Ap5;rw[A6m K (hs _ hx).1 ⟨s1,s2,s3,s4⟩];rfl) (Aeh K n.Ea r) (fun n N i=>rfl)
   rw[e4,if_pos ⟨s1,by omega,s5⟩,show r.fAt+r.Vu - r.fAt=r.Vu by omega,A0b hK _ (by simp;omega),hC,List.any_eq_not_all_not]
   simp only[Z0,Bool.not_not];cases Ayz (List.take r.Vu.toNat (List.drop r.fAt.toNat w.fP.Fy))<;>cases n.Ea.all (fun t=>Apu t r)<;>rfl
 ·show Ahl K (m+1) _ _ _ _ _ _ _ _ _ _ _ _ _ _ _=_;rw[Ahl,Ag1 (Z9 _),cond_false]
end
section
variable {K:Nat} (hK:281474976710656≤K)
theorem Aej{l:List Ba}(w:Agf l):l.length≤140737488355327:=by have:=w.2;omega
theorem Axr (K:Nat){α:Type}{l:List α}(hl:l.length≤140737488355327)(k:Int):Abk K k 0 (Aob .i64 (l.length:Int) 1)=some (decide (0≤k∧k<(l.length:Int))):=by
 unfold Abk Aob;rw[Ahs (by omega) (by omega)]
 by_cases h:(0:Int)≤k
 ·rw[decide_eq_true (show k≥0 from h)]
  simp only[cond_true,Z7,decide_eq_decide];omega
 ·rw[decide_eq_false (show ¬k≥0 from h)]
  simp only[cond_false,Z7];exact(decide_eq_false (by omega)).symm
theorem A71 (K:Nat){α:Type}{l:List α}(hl:l.length≤140737488355327)(k:Int):Ac1 K k 0 (Aob .i64 (l.length:Int) 1)=some (decide (0≤k∧k<(l.length:Int))):=Axr K hl k
theorem Av4 (K:Nat){l:List Ba}(hl:l.length≤140737488355327)(k:Int):Ag9 K l k=some (decide (0≤k∧k<(l.length:Int))):=by
 unfold Ag9;rw[A71 K hl];rfl
theorem A08 (K:Nat)(l:List Ba)(k:Int):Ai0 K l k=some (decide (1≤k∧k≤(l.length:Int))):=by
 unfold Ai0
 by_cases h:(1:Int)≤k
 ·rw[decide_eq_true (show k≥1 from h)]
  simp only[cond_true,Z7,decide_eq_decide];omega
 ·rw[decide_eq_false (show ¬k≥1 from h)]
  simp only[cond_false,Z7];exact(decide_eq_false (by omega)).symm
def Aqj (l:List Ba)(h:Ct):Int:=if(0≤h.A5∧h.A5<(l.length:Int))∧(gt l h.A5).Hh=1∧(gt l h.A5).C2=h.C2 then h.A5 else -1
theorem Azc (K:Nat){l:List Ba}(hl:l.length≤140737488355327)(h:Ct):Ari K l h=some (Aqj l h):=by
 unfold Ari Aqj;rw[Axr K hl];simp only[Z0]
 by_cases hs:0≤h.A5∧h.A5<(l.length:Int)
 ·rw[decide_eq_true hs];simp only[cond_true,if_pos hs]
  by_cases h1:(gt l h.A5).Hh=1
  ·by_cases h2:(gt l h.A5).C2=h.C2
   ·rw[if_pos ⟨hs,h1,h2⟩];simp[h1,h2]
   ·rw[if_neg (fun h=>h2 h.2.2),As7 h2];simp[h1]
  ·rw[if_neg (fun h=>h1 h.2.1),As7 h1];rfl
 ·rw[decide_eq_false hs];simp only[cond_false];rw[if_neg (fun h=>hs h.1)]
theorem A11 (K:Nat){l:List Ba}(hl:l.length≤140737488355327)(h:Ct):As3 K l h=some (Aqj l h):=by
 rw[←Azc K hl];unfold Ari As3;rw[Axr K hl,Av4 K hl]
theorem A3g{l:List Ba}{h:Ct}(h0: ¬Aqj l h<0):0≤Aqj l h∧Aqj l h<(l.length:Int):=by
 unfold Aqj at *;split at h0
 ·rename_i h1;rw[if_pos h1];exact h1.1
 ·omega
def Ape (l:List Ba):Nat->Int->List Int
 |0,_=>[]
 |n+1,k=>if 0≤k∧k<(l.length:Int)then k::Ape l n (Aob .i64 (gt l k).fUp 1)else []
theorem Bai{l:List Ba}: ∀(n:Nat) (k:Int),∀x∈Ape l n k,0≤x∧x<(l.length:Int):=by
 intro n
 induction n with
 |zero=>intro k x hx;cases hx
 |succ n ih=>
  intro k x hx;unfold Ape at hx;split at hx
  ·rename_i h;rcases D6.1 hx with rfl|hx
   ·exact h
   ·exact ih _ x hx
  ·cases hx
theorem A6r{l:List Ba}: ∀(n:Nat) (k:Int),(Ape l n k).length≤n:=by
 intro n
 induction n with
 |zero=>intro k;exact Z9 _
 |succ n ih=>
  intro k;unfold Ape;split
  ·simp only[Y9];have:=ih (Aob .i64 (gt l k).fUp 1);omega
  ·exact Z21 _
def Bdf (l:List Ba):List Int->Prop
 |x::y::r=>Aob .i64 (gt l x).fUp 1=y∧Bdf l (y::r)
 |_=>True
theorem Bdg{l:List Ba}: ∀(n:Nat) (k:Int),Bdf l (Ape l n k):=by
 intro n
 induction n with
 |zero=>intro k;trivial
 |succ n ih=>
  intro k;unfold Ape;split
  ·have h1:=ih (Aob .i64 (gt l k).fUp 1);cases n with
   |zero=>trivial
   |succ n=>
    rw[Ape]at h1 ⊢;split at h1
    ·rename_i h2;rw[if_pos h2];exact⟨rfl,h1⟩
    ·rename_i h2;rw[if_neg h2];trivial
  ·trivial
theorem Bgl{l:List Ba}(w:Agf l): ∀(n:Nat) (k:Int) (v:List Int),-9223372036854775808≤k∧k≤9223372036854775807->v.length≤l.length->l.length - v.length<n->Atr K l n k v=some (v++Ape l (l.length - v.length) k):=by
 have hb:l.length*152≤140737488355327:=w.2;intro n
 induction n with
 |zero=>intro k v _ _ h;omega
 |succ n ih=>
  intro k v hk hv hn;rw[Atr,A08];simp only[Z0]
  have e:decide (1≤Aoa .i64 k 1∧Aoa .i64 k 1≤(l.length:Int))=decide (0≤k∧k<(l.length:Int)):=by
   rw[decide_eq_decide];unfold Aoa;rw[IntKind.wrap_i64];omega
  rw[e]
  by_cases hs:0≤k∧k<(l.length:Int)
  ·rw[decide_eq_true hs];simp only[cond_true];rcases F9 v.length l.length with h|h
   ·rw[Ag0 h];simp only[cond_true]
    have hl2:(v++[k]).length=v.length+1:=by simp
    rw[if_pos ⟨by rw[hl2];omega,by rw[hl2];unfold maxLen;omega⟩,if_pos hs,ih (Aob .i64 (gt l k).fUp 1) _ (Bc8 _) (by rw[hl2];omega) (by rw[hl2];omega),hl2]
    obtain⟨m,hm⟩: ∃m,l.length - v.length=m+1:=⟨l.length - v.length - 1,by omega⟩
    rw[hm,Ape,if_pos hs,show l.length - (v.length+1)=m from by omega]
    simp
   ·rw[Ag1 h];rw[show l.length - v.length=0 from by omega]
    simp[Ape]
  ·rw[decide_eq_false hs]
   have:Ape l (l.length - v.length) k=[]:=by
    cases l.length - v.length with
    |zero=>rfl
    |succ m=>rw[Ape,if_neg hs]
   rw[this];simp
theorem Bgm{l:List Ba}(w:Agf l): ∀(n:Nat) (k:Int) (v:List Int),v.length≤l.length->l.length - v.length<n->Att K l n k v=some (v++Ape l (l.length - v.length) k):=by
 have hb:l.length*152≤140737488355327:=w.2;intro n
 induction n with
 |zero=>intro k v _ h;omega
 |succ n ih=>
  intro k v hv hn;rw[Att,Av4 K (by omega)]
  simp only[Z0]
  by_cases hs:0≤k∧k<(l.length:Int)
  ·rw[decide_eq_true hs];simp only[cond_true];rcases F9 v.length l.length with h|h
   ·rw[Ag0 h];simp only[cond_true]
    have hl2:(v++[k]).length=v.length+1:=by simp
    rw[if_pos ⟨by rw[hl2];omega,by rw[hl2];unfold maxLen;omega⟩,if_pos hs,ih _ _ (by rw[hl2];omega) (by rw[hl2];omega),hl2]
    obtain⟨m,hm⟩: ∃m,l.length - v.length=m+1:=⟨l.length - v.length - 1,by omega⟩
    rw[hm,Ape,if_pos hs,show l.length - (v.length+1)=m from by omega]
    simp
   ·rw[Ag1 h];rw[show l.length - v.length=0 from by omega]
    simp[Ape]
  ·rw[decide_eq_false hs]
   have:Ape l (l.length - v.length) k=[]:=by
    cases l.length - v.length with
    |zero=>rfl
    |succ m=>rw[Ape,if_neg hs]
   rw[this];simp
include hK in
theorem A09{l:List Ba}(w:Agf l)(k:Int)(hk: -9223372036854775808≤k∧k≤9223372036854775807):Aur K l k=some (Ape l l.length k):=by
 have hb:=Aej w;unfold Aur
 have:=Bgl (K:=K) w K k [] hk (Z21 _) (by simp;omega)
 simpa using this
include hK in
theorem A1a{l:List Ba}(w:Agf l)(k:Int):Aut K l k=some (Ape l l.length k):=by
 have hb:=Aej w;unfold Aut
 have:=Bgm (K:=K) w K k [] (Z21 _) (by simp;omega)
 simpa using this
def Av5 (l:List Ba):List Int->Bool
 |[]=>true
 |[x]=>(gt l x).Hh==1
 |x::y::r=>((gt l x).Hh==1)&&((gt l x).Gq==(gt l y).Ly)&&Av5 l (y::r)
def A6s (l:List Ba)(way:List Int):Bool:=if 0<way.length then(gt l (gt way ((way.length - 1:Nat):Int))).fUp==0 else false
theorem Bbo{l:List Ba}{way:List Int}(hin: ∀x∈way,0≤x∧x<(l.length:Int))(hlen:way.length≤140737488355327):
  (bif (decide ((way.length:Int)>0))then(if(0:Int)≤(Aob .i64 (way.length:Int) 1)∧(Aob .i64 (way.length:Int) 1)<(way.length:Int)then(if(0:Int)≤(gt way (Aob .i64 (way.length:Int) 1))∧(gt way (Aob .i64 (way.length:Int) 1))<(l.length:Int)then some (((gt l (gt way (Aob .i64 (way.length:Int) 1))).fUp)==0)else none)else none)else some false)=some (A6s l way):=by
 unfold A6s;rcases Qs way.length with h|h
 ·rw[decide_eq_false (show ¬(way.length:Int)>0 by omega)]
  simp only[cond_false];rw[if_neg (show ¬0<way.length by omega)]
 ·rw[if_pos h,decide_eq_true (by omega)]
  simp only[cond_true]
  have e:Aob .i64 (way.length:Int) 1=((way.length - 1:Nat):Int):=by unfold Aob;rw[Ahs (by omega) (by omega)];omega
  rw[e,if_pos ⟨by omega,by omega⟩,if_pos (hin _ (An0 (by omega)))]
theorem Avu{way:List Int}{i:Nat}(h:i<way.length):way.drop i=way[i]::way.drop (i+1):=by
 rw[Z47 h]
theorem Bdh{l:List Ba}{way:List Int}(hin: ∀x∈way,0≤x∧x<(l.length:Int))(hlen:way.length≤140737488355327): ∀(n i:Nat),i≤way.length->way.length - i<n->Art K l way n way (way.length:Int) (i:Int)=some (Av5 l (way.drop i)&&A6s l way):=by
 intro n
 induction n with
 |zero=>intro i _ h;omega
 |succ n ih=>
  intro i hi hn;rw[Art];unfold Avj;rcases F9 i way.length with h|h
  ·rw[Ag0 h];simp only[cond_true];rw[if_pos ⟨by omega,by omega⟩,if_pos (hin _ (An0 h)),Avu h,Ag4 (by omega),←Aeg h]
   rcases F9 (i+1) way.length with h2|h2
   ·rw[Ag0 h2,Avu h2,←Aeg h2];simp only[cond_true];rw[if_pos (hin _ (An0 h)),if_pos ⟨by omega,by omega⟩,if_pos (hin _ (An0 h2)),ih (i+1) h (by omega),Avu h2,←Aeg h2,Av5]
    generalize gt way ((i+1:Nat):Int)=y;generalize gt way (i:Int)=x
    by_cases c1:(gt l x).Hh=1
    ·by_cases c2:(gt l x).Gq=(gt l y).Ly
     ·simp[c1,c2]
     ·rw[As7 c2,Aqi c2];simp[c1]
    ·rw[As7 c1,Aqi c1];simp
   ·rw[Ag1 h2,ih (i+1) h (by omega),show way.drop (i+1)=[] from Z48 h2]
    simp only[cond_false,Av5]
    by_cases c1:(gt l (gt way (i:Int))).Hh=1
    ·simp[c1]
    ·rw[As7 c1,Aqi c1];simp
  ·rw[Ag1 h,show way.drop i=[] from Z48 h]
   simp only[cond_false,Av5,Z30];exact Bbo hin hlen
theorem Bp5{l:List Ba}(w:Agf l){x y:Int}(hx:0≤x∧x<(l.length:Int))(hy:0≤y∧y<(l.length:Int))(h:Aob .i64 (gt l x).fUp 1=y):Aqx K l x=some (((gt l y).Hh==1)&&((gt l y).Ly==(gt l x).Gq)):=by
 have hl:=Aej w;unfold Aqx;rw[if_pos hx,A08];simp only[Z0];obtain⟨hr1,hr2⟩:=(w.1 _ (Apk hx.1 hx.2)).up
 have hp:1≤(gt l x).fUp∧(gt l x).fUp≤(l.length:Int):=by
  unfold Aob at h;rw[IntKind.wrap_i64]at h;omega
 rw[decide_eq_true hp,h];simp only[cond_true];rw[if_pos hy,if_pos hy,if_pos hx];cases (gt l y).Hh==1<;>rfl
theorem Bbp{l:List Ba}{y:Int}{r:List Int}(h:(gt l y).Hh≠1):Av5 l (y::r)=false:=by
 cases r with
 |nil=>simp[Av5,h]
 |cons z r=>simp[Av5,h]
theorem Bdi{l:List Ba}(w:Agf l){way:List Int}(hin: ∀x∈way,0≤x∧x<(l.length:Int))(hlen:way.length≤140737488355327): ∀(n i:Nat),Bdf l (way.drop i)->i≤way.length->way.length - i<n->Arj K l way n (i:Int)=some (Av5 l (way.drop i)&&A6s l way):=by
 intro n
 induction n with
 |zero=>intro i _ _ h;omega
 |succ n ih=>
  intro i hch hi hn;rw[Arj];unfold Au8;rcases F9 i way.length with h|h
  ·rw[Ag0 h];simp only[cond_true];rw[Avu h]at hch;rw[if_pos ⟨by omega,by omega⟩,if_pos (hin _ (An0 h)),Avu h,Ag4 (by omega),←Aeg h]
   rcases F9 (i+1) way.length with h2|h2
   ·rw[Avu h2]at hch
    have hc1:=hch.1;rw[←Aeg h,←Aeg h2]at hc1;rw[Ag0 h2,Avu h2,←Aeg h2];simp only[cond_true];rw[if_pos ⟨by omega,by omega⟩,Bp5 w (hin _ (An0 h)) (hin _ (An0 h2)) hc1,ih (i+1) (by rw[Avu h2];exact hch.2) h (by omega),Avu h2,←Aeg h2,Av5]
    generalize gt way ((i+1:Nat):Int)=y;generalize gt way (i:Int)=x
    by_cases c1:(gt l x).Hh=1
    ·by_cases c3:(gt l y).Hh=1
     ·by_cases c2:(gt l x).Gq=(gt l y).Ly
      ·simp[c1,c2,c3]
      ·have c2': ¬(gt l y).Ly=(gt l x).Gq:=fun e=>c2 e.symm;rw[Aqi c2,Aqi c2'];simp[c1]
     ·rw[Bbp c3,Aqi c3];simp[c1]
    ·rw[As7 c1,Aqi c1];simp
   ·rw[Ag1 h2,ih (i+1) (by rw[Z48 h2];trivial) h (by omega),show way.drop (i+1)=[] from Z48 h2]
    simp only[cond_false,Av5]
    by_cases c1:(gt l (gt way (i:Int))).Hh=1
    ·simp[c1]
    ·rw[As7 c1,Aqi c1];simp
  ·rw[Ag1 h,show way.drop i=[] from Z48 h]
   simp only[cond_false,Av5,Z30];exact Bbo hin hlen
def A1b (l:List Ba)(k:Int):Bool:=Av5 l (Ape l l.length k)&&A6s l (Ape l l.length k)
include hK in
theorem Bbq{l:List Ba}(w:Agf l)(k:Int)(hk: -9223372036854775808≤k∧k≤9223372036854775807):Axb K l k=some (A1b l k):=by
 have hb:=Aej w
 have hr:=A6r (l:=l) l.length k;unfold Axb;rw[A09 hK w k hk];exact Bdi w (Bai _ _) (by omega) K 0 (Bdg _ _) (Z21 _) (by omega)
include hK in
theorem Bbr{l:List Ba}(w:Agf l)(k:Int):Axd K l k=some (A1b l k):=by
 have hb:=Aej w
 have hr:=A6r (l:=l) l.length k;unfold Axd;rw[A1a hK w k];exact Bdh (Bai _ _) (by omega) K 0 (Z21 _) (by omega)
def Avv (h:Ct):Bool:=bif decide (h.A5≥0)then decide (h.C2≥1)else false
theorem A7k (K:Nat)(h:Ct):At8 K h=some (Avv h):=by
 unfold At8 Avv;cases decide (h.A5≥0)<;>rfl
theorem A7l (K:Nat)(h:Ct):Aui K h=some (Avv h):=by
 unfold Aui Avv;cases decide (h.A5≥0)<;>rfl
def Aye (l:List Ba)(h:Ct):Int×Int:=bif Avv h then(bif decide (Aqj l h<0)then(-1,2)else(bif A1b l (Aqj l h)then(Aqj l h,0)else(-1,2)))else(-1,1)
include hK in
theorem A7m{w:Eb}(hw:Agf w.fL)(h:Ct):At9 K w h=some (Aye w.fL h):=by
 have hb:=Aej hw;unfold At9 Aye;rw[A7k,Azc K hb];simp only[Z0];cases Avv h with
 |false=>rfl
 |true=>
  simp only[cond_true];cases e:decide (Aqj w.fL h<0)with
  |true=>rfl
  |false=>
   have h1:=A3g (of_decide_eq_false e);simp only[cond_false];rw[Bbq hK hw _ ⟨by omega,by omega⟩]
   simp only[Z0];cases A1b w.fL (Aqj w.fL h)<;>rfl
include hK in
theorem A7n{w:Eb}(hw:Agf w.fL)(h:Ct):Auj K w h=some (Aye w.fL h):=by
 have hb:=Aej hw;unfold Auj Aye;rw[A7l,A11 K hb];simp only[Z0];cases Avv h with
 |false=>rfl
 |true=>
  simp only[cond_true];cases e:decide (Aqj w.fL h<0)with
  |true=>rfl
  |false=>
   simp only[cond_false];rw[Bbr hK hw];simp only[Z0];cases A1b w.fL (Aqj w.fL h)<;>rfl
theorem Bmr{l:List Ba}{h:Ct}(h0:(Aye l h).2=0):0≤(Aye l h).1∧(Aye l h).1<(l.length:Int):=by
 unfold Aye at *;cases e1:Avv h with
 |false=>rw[e1]at h0;simp at h0
 |true=>
  rw[e1]at h0;simp only[cond_true]at *;cases e:decide (Aqj l h<0)with
  |true=>rw[e]at h0;simp at h0
  |false=>
   rw[e]at h0;simp only[cond_false]at *;cases e2:A1b l (Aqj l h)with
   |false=>rw[e2]at h0;simp at h0
   |true=>exact A3g (of_decide_eq_false e)
end
def plB (l:List Ba)(n:Int):Bool:=decide (0≤Aob .i64 n 1∧Aob .i64 n 1<(l.length:Int))
theorem Ask{l:List Ba}{n:Int}(h:plB l n=true):0≤Aob .i64 n 1∧Aob .i64 n 1<(l.length:Int):=of_decide_eq_true h
theorem Av6 (K:Nat){l:List Ba}(hl:l.length≤140737488355327)(n:Int):Ag9 K l (Aob .i64 n 1)=some (plB l n):=Av4 K hl _
theorem As8 (K:Nat){l:List Ba}(hl:l.length≤140737488355327){n:Int}(hn:wfi n):Ai0 K l n=some (plB l n):=by
 rw[A08];unfold plB;obtain⟨h1,h2⟩:=hn
 congr 1
 rw[decide_eq_decide];unfold Aob;rw[IntKind.wrap_i64];omega
def Azm (l:List Ba)(k:Int):Bool:=plB l (gt l k).fUp&&((gt l (Aob .i64 (gt l k).fUp 1)).Hh==1&&(gt l (Aob .i64 (gt l k).fUp 1)).Ly==(gt l k).Gq)
theorem A3h (K:Nat){l:List Ba}(w:Agf l){k:Int}(h:0≤k∧k<(l.length:Int)):Aqx K l k=some (Azm l k):=by
 unfold Aqx Azm;rw[if_pos h,As8 K (Aej w) (w.1 _ (Apk h.1 h.2)).up,Z0,if_pos h];cases hp:plB l (gt l k).fUp with
 |false=>rfl
 |true=>
  have:=Ask hp;rw[cond_true,if_pos this,if_pos this];cases (gt l (Aob .i64 (gt l k).fUp 1)).Hh==1<;>rfl
theorem Axs (K:Nat){l:List Ba}(w:Agf l){k:Int}(h:0≤k∧k<(l.length:Int)):Aqc K l k=some (Azm l k):=by
 unfold Aqc Azm;rw[if_pos h,Av6 K (Aej w),Z0,if_pos h];cases hp:plB l (gt l k).fUp with
 |false=>rfl
 |true=>
  have:=Ask hp;rw[cond_true,if_pos this,if_pos this];cases (gt l (Aob .i64 (gt l k).fUp 1)).Hh==1<;>rfl
def Arx (l:List Ba)(n:Int):Bool:=n==0||(plB l n&&(gt l (Aob .i64 n 1)).Hh==1)
theorem Ay1{l:List Ba}{n:Int}(h:Arx l n=true)(h0:n≠0):0≤Aob .i64 n 1∧Aob .i64 n 1<(l.length:Int):=by
 unfold Arx at h;rw[Aqi h0,Z52,Z4]at h;exact Ask h.1
theorem A0d (K:Nat){l:List Ba}(w:Agf l){n:Int}(hn:wfi n):Apr K l n=some (Arx l n):=by
 unfold Apr Arx;rw[As8 K (Aej w) hn,Z0];cases n==0 with
 |true=>rfl
 |false=>
  cases hp:plB l n with
  |false=>rfl
  |true=>rw[if_pos (Ask hp)];rfl
theorem A0e (K:Nat){l:List Ba}(w:Agf l)(n:Int):Asg K l n=some (Arx l n):=by
 unfold Asg Arx;rw[Av6 K (Aej w),Z0];cases n==0 with
 |true=>rfl
 |false=>
  cases hp:plB l n with
  |false=>rfl
  |true=>rw[if_pos (Ask hp)];rfl
def A72 (r:List Int):Int:=gt r ((r.length - 1:Nat):Int)
def A0w (l:List Ba)(k:Int):Bool:=decide (((Ape l l.length k).length:Int)≤4)&& !Azm l (A72 (Ape l l.length k))
def A6t (l:List Ba)(k:Int):Bool:= !((gt l k).Gs==0&&Azm l k)||(gt l (Aob .i64 (gt l k).fUp 1)).Bt==Aoa .i64 k 1
def Baj (l:List Ba)(k:Int):Bool:=(gt l k).Gs==0||(gt l (Aob .i64 (gt l k).Gs 1)).Gr==Aoa .i64 k 1
def Bdj (l:List Ba)(k:Int):Bool:=(gt l k).Gr==0||((gt l (Aob .i64 (gt l k).Gr 1)).Gs==Aoa .i64 k 1&&((gt l (Aob .i64 (gt l k).Gr 1)).fUp==(gt l k).fUp&&(gt l (Aob .i64 (gt l k).Gr 1)).Gq==(gt l k).Gq))
def Bms (l:List Ba)(k:Int):Bool:=(gt l k).Bt==0||((gt l (Aob .i64 (gt l k).Bt 1)).Gs==0&&((gt l (Aob .i64 (gt l k).Bt 1)).fUp==Aoa .i64 k 1&&(gt l (Aob .i64 (gt l k).Bt 1)).Gq==(gt l k).Ly))
def A3i (l:List Ba)(k:Int):Bool:=Arx l (gt l k).Bt&&(Arx l (gt l k).Gr&&(Arx l (gt l k).Gs&&((gt l k).fUp==0||plB l (gt l k).fUp)))
def A0f (l:List Ba)(k:Int):Bool:=A3i l k&&(Bms l k&&(Bdj l k&&(Baj l k&&A6t l k)))
def A73 (l:List Ba):Bool:=(List.range l.length).all (fun k=>(gt l (k:Int)).Hh != 1||(A0f l k&&A0w l k))
theorem Bbs{l:List Ba}{k:Int}(h:0≤k∧k<(l.length:Int)):0<(Ape l l.length k).length:=by
 obtain⟨m,hm⟩: ∃m,l.length=m+1:=⟨l.length - 1,by omega⟩
 rw[hm,Ape,if_pos h];simp
theorem Bew{l:List Ba}{k:Int}(h:0≤k∧k<(l.length:Int)):0≤A72 (Ape l l.length k)∧A72 (Ape l l.length k)<(l.length:Int):=by
 have:=Bbs h;exact Bai _ _ _ (An0 (by omega))
theorem Bex{l:List Ba}(w:Agf l){k:Int}(h:0≤k∧k<(l.length:Int)):Aob .i64 ((Ape l l.length k).length:Int) 1=(((Ape l l.length k).length - 1:Nat):Int)∧(0:Int)≤(((Ape l l.length k).length - 1:Nat):Int)∧(((Ape l l.length k).length - 1:Nat):Int)<((Ape l l.length k).length:Int):=by
 have h1:=Bbs h
 have h2:=A6r (l:=l) l.length k
 have h3:=Aej w;unfold Aob;rw[Ahs (by omega) (by omega)]
 omega
section
variable {K:Nat} (hK:281474976710656≤K)
include hK
theorem Bp6{l:List Ba}(w:Agf l){k:Int}(h:0≤k∧k<(l.length:Int)):Are K l k=some (A0w l k):=by
 have h3:=Aej w;obtain⟨e1,e2,e3⟩:=Bex w h;unfold Are;rw[A09 hK w k ⟨by omega,by omega⟩,Z0,e1,if_pos ⟨e2,e3⟩]
 have:=A3h K w (Bew h);unfold A72 at this;rw[this,Z0,Ajc];rfl
theorem Bp7{l:List Ba}(w:Agf l){k:Int}(h:0≤k∧k<(l.length:Int)):Asx K l k (gt l k).fUp (gt l k).Gs=some (A6t l k&&A0w l k):=by
 unfold Asx A6t;rw[A3h K w h,Bp6 hK w h,Z0];cases (gt l k).Gs==0 with
 |false=>rfl
 |true=>
  cases hc:Azm l k with
  |false=>rfl
  |true=>
   have:plB l (gt l k).fUp=true:=by unfold Azm at hc;rw[Z4]at hc;exact hc.1
   rw[cond_true,cond_true,if_pos (Ask this),bne,Ac2];cases (gt l (Aob .i64 (gt l k).fUp 1)).Bt==Aoa .i64 k 1<;>rfl
theorem Bp8{l:List Ba}(w:Agf l){k:Int}(h:0≤k∧k<(l.length:Int))(hp:Arx l (gt l k).Gs=true):Asy K l k (gt l k).fUp (gt l k).Gs=some (Baj l k&&(A6t l k&&A0w l k)):=by
 unfold Asy Baj;rw[Bp7 hK w h]
 by_cases h0:(gt l k).Gs=0
 ·rw[h0];rfl
 ·rw[As7 h0,Aqi h0,cond_true,if_pos (Ay1 hp h0),bne,Ac2];cases (gt l (Aob .i64 (gt l k).Gs 1)).Gr==Aoa .i64 k 1<;>rfl
theorem Bp9{l:List Ba}(w:Agf l){k:Int}(h:0≤k∧k<(l.length:Int))(hp:Arx l (gt l k).Gs=true)(hn:Arx l (gt l k).Gr=true):Asz K l k (gt l k).fUp (gt l k).Gq (gt l k).Gr (gt l k).Gs=some (Bdj l k&&(Baj l k&&(A6t l k&&A0w l k))):=by
 unfold Asz Bdj;rw[Bp8 hK w h hp]
 by_cases h0:(gt l k).Gr=0
 ·rw[h0];rfl
 ·have hi:=Ay1 hn h0;rw[As7 h0,Aqi h0,cond_true,if_pos hi];simp only[bne,Ac2,Z52];cases (gt l (Aob .i64 (gt l k).Gr 1)).Gs==Aoa .i64 k 1<;>cases (gt l (Aob .i64 (gt l k).Gr 1)).fUp==(gt l k).fUp<;>cases (gt l (Aob .i64 (gt l k).Gr 1)).Gq==(gt l k).Gq<;>rfl
theorem Bqa{l:List Ba}(w:Agf l){k:Int}(h:0≤k∧k<(l.length:Int))(hf:Arx l (gt l k).Bt=true)(hp:Arx l (gt l k).Gs=true)(hn:Arx l (gt l k).Gr=true):As0 K l k (gt l k).Hh (gt l k).C2 (gt l k).Ly (gt l k).fUp (gt l k).Gq (gt l k).Bt (gt l k).Gr (gt l k).Gs (gt l k).Ae (gt l k).Pq (gt l k).Gt (gt l k).Ea (gt l k).Dg=some (Bms l k&&(Bdj l k&&(Baj l k&&(A6t l k&&A0w l k)))):=by
 unfold As0 Bms;rw[Bp9 hK w h hp hn]
 by_cases h0:(gt l k).Bt=0
 ·rw[h0];rfl
 ·have hi:=Ay1 hf h0;rw[As7 h0,Aqi h0,cond_true,if_pos hi];simp only[bne,Ac2,Z52];cases (gt l (Aob .i64 (gt l k).Bt 1)).Gs==0<;>cases (gt l (Aob .i64 (gt l k).Bt 1)).fUp==Aoa .i64 k 1<;>cases (gt l (Aob .i64 (gt l k).Bt 1)).Gq==(gt l k).Ly<;>rfl
theorem Bdk{l:List Ba}(w:Agf l){k:Int}(h:0≤k∧k<(l.length:Int)):Aw9 K l k=some (A0f l k&&A0w l k):=by
 have hn:=w.1 _ (Apk h.1 h.2);unfold Aw9 A0f A3i;rw[if_pos h,As8 K (Aej w) hn.up,A0d K w hn.first,A0d K w hn.next,A0d K w hn.prev];simp only[Z0,Ac2];cases hf:Arx l (gt l k).Bt with
 |false=>cases (gt l k).fUp != 0<;>cases plB l (gt l k).fUp<;>rfl
 |true=>
 cases hx:Arx l (gt l k).Gr with
 |false=>cases (gt l k).fUp != 0<;>cases plB l (gt l k).fUp<;>rfl
 |true=>
 cases hp:Arx l (gt l k).Gs with
 |false=>cases (gt l k).fUp != 0<;>cases plB l (gt l k).fUp<;>rfl
 |true=>
 rw[Bqa hK w h hf hp hx];simp only[bne];cases (gt l k).fUp==0<;>cases plB l (gt l k).fUp<;>simp only[Bool.not_true,Bool.not_false,cond_true,cond_false,Z30,Bool.false_and,Bool.true_or,Z52,Bool.and_assoc]
theorem Bbt{l:List Ba}(w:Agf l):Av9 K l=some (A73 l):=by
 have hl:=Aej w;unfold Av9 A73;rw[Apt hK l.length (by omega) (fun k=>(gt l (k:Int)).Hh != 1||(A0f l k&&A0w l k)) (some true) (fun n i=>Apf K l n i) (fun n i h=> ?_) (fun n=> ?_)]
 ·cases (List.range l.length).all _<;>rfl
 ·simp only[Apf,At2];rw[Ag0 h,cond_true,if_pos (Aje h),Bdk hK w (Aje h),Ag4 (by omega),Z0,Ac2,bne]
  cases (gt l (i:Int)).Hh==1<;>rfl
 ·show Apf K l (n+1) _=_;rw[Apf,Ag1 (Z9 _),cond_false]
theorem Bqb{l:List Ba}(w:Agf l){k:Int}(h:0≤k∧k<(l.length:Int)):Aro K l k (gt l k).fUp (gt l k).Gs=some (A6t l k):=by
 unfold Aro A6t;rw[Axs K w h,Z0,bne];cases (gt l k).Gs==0 with
 |false=>rfl
 |true=>
  cases hc:Azm l k with
  |false=>rfl
  |true=>
   have:plB l (gt l k).fUp=true:=by unfold Azm at hc;rw[Z4]at hc;exact hc.1
   rw[if_pos (Ask this)];rfl
theorem Bqc{l:List Ba}(w:Agf l){k:Int}(h:0≤k∧k<(l.length:Int))(hp:Arx l (gt l k).Gs=true):Arp K l k (gt l k).fUp (gt l k).Gs=some (Baj l k&&A6t l k):=by
 unfold Arp Baj;rw[Bqb hK w h]
 by_cases h0:(gt l k).Gs=0
 ·rw[h0];rfl
 ·rw[As7 h0,Aqi h0,cond_true,if_pos (Ay1 hp h0),bne,Ac2];cases (gt l (Aob .i64 (gt l k).Gs 1)).Gr==Aoa .i64 k 1<;>rfl
theorem Bqd{l:List Ba}(w:Agf l){k:Int}(h:0≤k∧k<(l.length:Int))(hp:Arx l (gt l k).Gs=true)(hn:Arx l (gt l k).Gr=true):Arq K l k (gt l k).fUp (gt l k).Gq (gt l k).Gr (gt l k).Gs=some (Bdj l k&&(Baj l k&&A6t l k)):=by
 unfold Arq Bdj;rw[Bqc hK w h hp]
 by_cases h0:(gt l k).Gr=0
 ·rw[h0];rfl
 ·have hi:=Ay1 hn h0;rw[As7 h0,Aqi h0,cond_true,if_pos hi];simp only[bne,Ac2,Z52];cases (gt l (Aob .i64 (gt l k).Gr 1)).Gs==Aoa .i64 k 1<;>cases (gt l (Aob .i64 (gt l k).Gr 1)).fUp==(gt l k).fUp<;>cases (gt l (Aob .i64 (gt l k).Gr 1)).Gq==(gt l k).Gq<;>rfl
theorem Bqe{l:List Ba}(w:Agf l){k:Int}(h:0≤k∧k<(l.length:Int))(hf:Arx l (gt l k).Bt=true)(hp:Arx l (gt l k).Gs=true)(hn:Arx l (gt l k).Gr=true):Arr K l k (gt l k).Hh (gt l k).C2 (gt l k).Ly (gt l k).fUp (gt l k).Gq (gt l k).Bt (gt l k).Gr (gt l k).Gs (gt l k).Ae (gt l k).Pq (gt l k).Gt (gt l k).Ea (gt l k).Dg=some (Bms l k&&(Bdj l k&&(Baj l k&&A6t l k))):=by
 unfold Arr Bms;rw[Bqd hK w h hp hn]
 by_cases h0:(gt l k).Bt=0
 ·rw[h0];rfl
 ·have hi:=Ay1 hf h0;rw[As7 h0,Aqi h0,cond_true,if_pos hi];simp only[bne,Ac2,Z52];cases (gt l (Aob .i64 (gt l k).Bt 1)).Gs==0<;>cases (gt l (Aob .i64 (gt l k).Bt 1)).fUp==Aoa .i64 k 1<;>cases (gt l (Aob .i64 (gt l k).Bt 1)).Gq==(gt l k).Ly<;>rfl
theorem Bak{l:List Ba}(w:Agf l){k:Int}(h:0≤k∧k<(l.length:Int)):Avg K l k=some (A0f l k):=by
 unfold Avg A0f A3i;rw[if_pos h,Av6 K (Aej w),A0e K w,A0e K w,A0e K w];simp only[Z0,Ac2];cases hf:Arx l (gt l k).Bt with
 |false=>rfl
 |true=>
 cases hx:Arx l (gt l k).Gr with
 |false=>rfl
 |true=>
 cases hp:Arx l (gt l k).Gs with
 |false=>rfl
 |true=>
 rw[Bqe hK w h hf hp hx];simp only[bne];cases (gt l k).fUp==0<;>cases plB l (gt l k).fUp<;>simp only[Bool.not_true,Bool.not_false,cond_true,cond_false,Z30,Bool.false_and,Bool.true_or,Z52,Bool.and_assoc]
theorem Bbu{l:List Ba}(w:Agf l):Awh K l=some (A73 l):=by
 have hl:=Aej w;unfold Awh A73;rw[Apt hK l.length (by omega) (fun k=>(gt l (k:Int)).Hh != 1||(A0f l k&&A0w l k)) (some true) (fun n i=>Api K l n l (l.length:Int) i) (fun n i h=> ?_) (fun n=> ?_)]
 ·cases (List.range l.length).all _<;>rfl
 ·have hc:=Aje h;obtain⟨e1,e2,e3⟩:=Bex w hc
  have e4:=Axs K w (Bew hc);unfold A72 at e4
  have e5:decide (((Ape l l.length i).length:Int)>4)= !decide (((Ape l l.length i).length:Int)≤4):=by rw[←decide_not];congr 1;simp
  simp only[Api,Aug];rw[Ag0 h,cond_true,if_pos hc,Bak hK w hc,Ag4 (by omega),Z0,A1a hK w,Z0,e1,if_pos ⟨e2,e3⟩,e4,Z0,e5]
  unfold A0w A72;simp only[Ac2,bne];cases (gt l (i:Int)).Hh==1<;>cases A0f l i<;>cases decide (((Ape l l.length i).length:Int)≤4)<;>cases Azm l (gt (Ape l l.length i) (((Ape l l.length i).length - 1:Nat):Int))<;>rfl
 ·show Api K l (n+1) _ _ _=_;rw[Api,Ag1 (Z9 _),cond_false]
end
theorem A74{c:Er}(hc:Ap4 c=true):Aob .i64 c.Eg 1=c.Eg - 1:=by
 obtain⟨_,b2,_⟩:=Ae1 hc;unfold Aob;rw[Ahs (by omega) (by omega)]
def As9 (c:Er)(x:Ax):Bool:=
 Ap4 c&&(inB x.A5 0 c.C0&&(inB x.Bt 0 c.C0&&(decide ((x.Dg.length:Int)≤6)&&(x.Dg.all (fun y=>inB y 0 255)&&(Avt c x.Ae&&(inB x.Gu 0 (c.Eg - 1)&&(decide ((x.Ae.length:Int)>0)||x.Gu==0)))))))
section
variable {K:Nat} (hK:281474976710656≤K)
include hK
theorem A7o (c:Er)(x:Ax)(hw:Azb x):Au4 K c x=some (As9 c x):=by
 have h1:=A07 hK hw.tags
 have h2:=A07 hK hw.chunks;unfold Au4 Atf;rw[Aw0];simp only[Z0,Ast];cases hc:Ap4 c with
 |false=>simp[As9,hc]
 |true=>
 have hA:Anp K c x.Ae K 0=some (Avt c x.Ae):=by
  rw[Apt hK x.Ae.length (by omega) (fun i=>inB (gt x.Ae i) 0 (c.Ae - 1)&& !(x.Ae.take i).contains (gt x.Ae i)) (some true) (fun k i=>Anp K c x.Ae k i) (fun k i h=> ?_) (fun k=> ?_)]
  ·unfold Avt;cases (List.range x.Ae.length).all _<;>rfl
  ·have hp:(x.Ae.take i).length≤140737488355328:=by simp;omega
   simp only[Anp];rw[Ag0 h,cond_true,if_pos (Aje h),Ast,if_pos (Bbi (by omega)),A6k,Awz hK _ _ hp,Ag4 (by omega),A3e hK hc]
   simp only[Z0,if_pos (Aje h)];cases inB (gt x.Ae i) 0 (c.Ae - 1)<;>cases (x.Ae.take i).contains (gt x.Ae i)<;>rfl
  ·show Anp K c x.Ae (k+1) _=_;rw[Anp,Ag1 (Z9 _),cond_false]
 have hB:Apm K c x.Dg x.Ae K 0=some (x.Dg.all (fun y=>inB y 0 255)&&Avt c x.Ae):=by
  rw[Ar1 hK x.Dg (by omega) (fun y=>inB y 0 255) (some (Avt c x.Ae)) (Apm K c x.Dg x.Ae) (fun k i h=> ?_) (fun k=> ?_)]
  ·rw[Ajc]
  ·rw[Apm,Ag0 h,cond_true,if_pos (Aje h),Aeg h,Ast,Ag4 (by omega),Z0,Ac2]
  ·rw[Apm,Ag1 (Z9 _),cond_false,hA]
 rw[hB,A74 hc]
 have e6:decide ((x.Dg.length:Int)>6)= !decide ((x.Dg.length:Int)≤6):=by rw[←decide_not];congr 1;simp
 have e0:decide ((x.Ae.length:Int)>0)= !((x.Ae.length:Int)==0):=by
  rw[Bool.eq_iff_iff];simp only[decide_eq_true_eq,Zh,beq_eq_false_iff_ne];omega
 unfold As9;simp only[cond_true,e6,e0,Ac2,bne,hc,Z30];cases (x.Ae.length:Int)==0 with
 |true=>
  simp only[cond_true,Bool.not_true,Z52,Ajc,Z7]
  ac_rfl
 |false=>
  simp only[cond_false,Bool.not_false,Bool.true_or,Ajc,Z7,Bool.and_true]
  ac_rfl
theorem A7p (c:Er)(x:Ax)(hw:Azb x):Avh K c x=some (As9 c x):=by
 have h1:=A07 hK hw.tags
 have h2:=A07 hK hw.chunks;unfold Avh;rw[Az9];simp only[Z0,Atl];cases hc:Ap4 c with
 |false=>simp[As9,hc]
 |true=>
 rw[Ayt hK _ (by omega),A0u hK hc _ h2,A74 hc]
 unfold As9;simp only[Z0,cond_true,hc,Z30,Axo,Ajc]
end
theorem Avw{c:Er}{x:Ax}(h:As9 c x=true):Ap4 c=true∧(0≤x.A5∧x.A5≤c.C0)∧(0≤x.Bt∧x.Bt≤c.C0)∧Avt c x.Ae=true∧(0≤x.Gu∧x.Gu≤c.Eg - 1):=by
 unfold As9 at h;simp only[Z4,Ayc]at h;exact⟨h.1,h.2.1,h.2.2.1,h.2.2.2.2.2.1,h.2.2.2.2.2.2.1⟩
theorem A3y{c:Er}{l:List Int}(h:Avt c l=true): ∀x∈l,0≤x∧x<c.Ae:=by
 intro x hx;obtain⟨i,hi,e⟩:=List.mem_iff_getElem.1 hx;unfold Avt at h;rw[Z1]at h
 have:=h i (by simpa using hi)
 rw[Z4,Aeg hi,e,Ayc]at this;omega
theorem A6u{l:List Int}:l.Nodup ↔ ∀i,(h:i<l.length)->l[i] ∉ l.take i:=by
 unfold List.Nodup;rw[List.pairwise_iff_getElem];constructor
 ·intro h i hi hm;obtain⟨j,hj,e⟩:=List.mem_iff_getElem.1 hm;rw[List.getElem_take]at e;simp only[List.length_take]at hj;exact h j i (by omega) hi (by omega) e
 ·intro h i j hi hj hij e;exact h j hj (List.mem_iff_getElem.2 ⟨i,by simp;omega,by rw[List.getElem_take];exact e⟩)
theorem A6v{c:Er}{l:List Int}(h:Avt c l=true):l.Nodup:=by
 rw[A6u];intro i hi hm;unfold Avt at h;rw[Z1]at h
 have:=h i (by simpa using hi)
 rw[Z4,Aeg hi,Zh,List.contains_eq_mem]at this;exact absurd hm (of_decide_eq_false this.2)
theorem Aze{l:List Int}: ∀ {o:List Int},o.Nodup->(∀x∈o,x∈l)->o.length≤l.length:=by
 intro o
 induction o generalizing l with
 |nil=>intro _ _;exact Z21 _
 |cons x o ih=>
  intro hn hs
  have hx:x∈l:=hs x (by simp)
  rw[List.nodup_cons]at hn
  have h2:=ih (l:=l.erase x) hn.2 (fun y hy=>by
   have hne:y≠x:=fun e=>hn.1 (e ▸ hy);exact(List.mem_erase_of_ne hne).2 (hs y (by simp[hy])))
  rw[List.length_erase_of_mem hx]at h2
  have:0<l.length:=List.length_pos_of_mem hx;simp only[Y9];omega
theorem A6w{c:Er}(hc:Ap4 c=true){l:List Int}(h:Avt c l=true):l.length≤12:=by
 obtain⟨b1,_⟩:=Ae1 hc
 have:=Aze (l:=(List.range 12).map (fun i:Nat=>(i:Int))) (A6v h) (fun x hx=>by
  have:=A3y h x hx;rw[Eo];exact⟨x.toNat,by simp;omega,by omega⟩)
 simpa using this
def Aw7 (l:List Ba):Nat->Int->List Int
 |0,_=>[]
 |n+1,k=>if 0≤k∧k<(l.length:Int)then k::Aw7 l n (Aob .i64 (gt l k).Gr 1)else []
theorem A12{l:List Ba}: ∀(n:Nat) (k:Int),∀x∈Aw7 l n k,0≤x∧x<(l.length:Int):=by
 intro n
 induction n with
 |zero=>intro k x hx;cases hx
 |succ n ih=>
  intro k x hx;unfold Aw7 at hx;split at hx
  ·rename_i h;rcases D6.1 hx with rfl|hx
   ·exact h
   ·exact ih _ x hx
  ·cases hx
theorem Axi{l:List Ba}: ∀(n:Nat) (k:Int),(Aw7 l n k).length≤n:=by
 intro n
 induction n with
 |zero=>intro k;exact Z9 _
 |succ n ih=>
  intro k;unfold Aw7;split
  ·simp only[Y9];have:=ih (Aob .i64 (gt l k).Gr 1);omega
  ·exact Z21 _
def Ag5 (l:List Ba)(first:Int):List Int:=Aw7 l l.length (Aob .i64 first 1)
def Aw1 (l:List Ba)(k:Int):Bool:=(gt l k).Hh==1&&((gt l k).fUp != 0&& !Azm l k)
theorem A3q (K:Nat){l:List Ba}(w:Agf l){k:Int}(h:0≤k∧k<(l.length:Int)):Arf K l k=some (Aw1 l k):=by
 unfold Arf Aw1;rw[if_pos h,if_pos h,A3h K w h,Z0,Ajc,Ajc]
theorem A3r (K:Nat){l:List Ba}(w:Agf l){k:Int}(h:0≤k∧k<(l.length:Int)):Aqu K l k=some (Aw1 l k):=by
 unfold Aqu Aw1;rw[if_pos h,if_pos h,Axs K w h,Z0,Ajc,Ajc]
section
variable {K:Nat} (hK:281474976710656≤K)
theorem Bgn{l:List Ba}(w:Agf l): ∀(n:Nat) (k:Int) (v:List Int),wfi k->v.length≤l.length->l.length - v.length<n->Ar5 K l n k v=some (v++Aw7 l (l.length - v.length) (Aob .i64 k 1)):=by
 have hm:=Al5
 have hb:l.length*152≤140737488355327:=w.2;intro n
 induction n with
 |zero=>intro k v _ _ h;omega
 |succ n ih=>
  intro k v hk hv hn;rw[Ar5,As8 K (Aej w) hk];simp only[Z0]
  by_cases hs:0≤Aob .i64 k 1∧Aob .i64 k 1<(l.length:Int)
  ·rw[show plB l k=true from decide_eq_true hs]
   simp only[cond_true];rcases F9 v.length l.length with h|h
   ·rw[Ag0 h];simp only[cond_true]
    have hl2:(v++[Aob .i64 k 1]).length=v.length+1:=by simp
    rw[if_pos ⟨by rw[hl2];omega,by rw[hl2];omega⟩,if_pos hs,ih (gt l (Aob .i64 k 1)).Gr _ (w.1 _ (Apk hs.1 hs.2)).next (by rw[hl2];omega) (by rw[hl2];omega),hl2]
    obtain⟨m,hm⟩: ∃m,l.length - v.length=m+1:=⟨l.length - v.length - 1,by omega⟩
    rw[hm,Aw7,if_pos hs,show l.length - (v.length+1)=m from by omega]
    simp
   ·rw[Ag1 h];rw[show l.length - v.length=0 from by omega]
    simp[Aw7]
  ·rw[show plB l k=false from decide_eq_false hs]
   have:Aw7 l (l.length - v.length) (Aob .i64 k 1)=[]:=by
    cases l.length - v.length with
    |zero=>rfl
    |succ m=>rw[Aw7,if_neg hs]
   rw[this];simp
theorem Bgo{l:List Ba}(w:Agf l): ∀(n:Nat) (k:Int) (v:List Int),v.length≤l.length->l.length - v.length<n->Ar9 K l n v k=some (v++Aw7 l (l.length - v.length) k):=by
 have hm:=Al5
 have hb:l.length*152≤140737488355327:=w.2;intro n
 induction n with
 |zero=>intro k v _ h;omega
 |succ n ih=>
  intro k v hv hn;rw[Ar9,Av4 K (by omega)]
  simp only[Z0]
  by_cases hs:0≤k∧k<(l.length:Int)
  ·rw[decide_eq_true hs];simp only[cond_true];rcases F9 v.length l.length with h|h
   ·rw[Ag0 h];simp only[cond_true]
    have hl2:(v++[k]).length=v.length+1:=by simp
    rw[if_pos ⟨by rw[hl2];omega,by rw[hl2];omega⟩,if_pos hs,ih _ _ (by rw[hl2];omega) (by rw[hl2];omega),hl2]
    obtain⟨m,hm⟩: ∃m,l.length - v.length=m+1:=⟨l.length - v.length - 1,by omega⟩
    rw[hm,Aw7,if_pos hs,show l.length - (v.length+1)=m from by omega]
    simp
   ·rw[Ag1 h];rw[show l.length - v.length=0 from by omega]
    simp[Aw7]
  ·rw[decide_eq_false hs]
   have:Aw7 l (l.length - v.length) k=[]:=by
    cases l.length - v.length with
    |zero=>rfl
    |succ m=>rw[Aw7,if_neg hs]
   rw[this];simp
include hK
theorem Ayf{l:List Ba}(w:Agf l){k:Int}(hk:wfi k):Aq7 K l k=some (Ag5 l k):=by
 have hb:=Aej w;unfold Aq7 Ag5
 have:=Bgn (K:=K) w K k [] hk (Z21 _) (by simp;omega)
 simpa using this
theorem A0g{l:List Ba}(w:Agf l)(k:Int):Ash K l k=some (Ag5 l k):=by
 have hb:=Aej w;unfold Ash Ag5
 have:=Bgo (K:=K) w K (Aob .i64 k 1) [] (Z21 _) (by simp;omega)
 simpa using this
def A13 (w:Eb)(x:Ax):Bool:= !decide ((x.Ae.length:Int)>0)||Ayz ((w.fP.Fy.drop (gt x.Ae 0*w.fC.Eg).toNat).take x.Gu.toNat)
def Avx (w:Eb)(x:Ax):Bool:=x.A5==0||(gt w.fL (Aob .i64 x.A5 1)).Hh==2
def Aw2 (w:Eb)(x:Ax):Bool:=x.Bt==0||(gt w.fL (Aob .i64 x.Bt 1)).Gs==0
def A0p (w:Eb)(x:Ax):Bool:=x.Ae.all (fun k=>gt w.fP.Hh k==2)
def Ar3 (w:Eb)(x:Ax):Bool:=(Ag5 w.fL x.Bt).all (Aw1 w.fL)
def Ant (w:Eb)(x:Ax):Bool:=As9 w.fC x&&(A0p w x&&(A13 w x&&(Avx w x&&(Aw2 w x&&Ar3 w x))))
theorem A14{w:Eb}(hL:(w.fL.length:Int)=w.fC.C0)(hc:Ap4 w.fC=true){n:Int}(h0:n≠0)(h1:0≤n)(h2:n≤w.fC.C0):0≤Aob .i64 n 1∧Aob .i64 n 1<(w.fL.length:Int):=by
 obtain⟨_,_,b3,_⟩:=Ae1 hc;unfold Aob;rw[Ahs (by omega) (by omega)]
 omega
theorem A7q (w:Eb)(hw:Al4 w)(hp:Auw w.fC w.fP=true)(hL:(w.fL.length:Int)=w.fC.C0)(i:Nat)(hi:i<w.fQ.length):At3 K w i=some (Ant w (gt w.fQ i)):=by
 have hx:=hw.q.1 _ (An0 hi);unfold At3;rw[if_pos (Aje hi)];generalize gt w.fQ i=x at *;rw[A7o hK _ _ hx,Z0,Ac2];unfold Ant;cases hr:As9 w.fC x with
 |false=>rfl
 |true=>
 rw[cond_true,Z30];obtain⟨hc,⟨s1,s2⟩,⟨f1,f2⟩,hd,d1,d2⟩:=Avw hr;obtain⟨_,hm,hst,_⟩:=Av2 hp;obtain⟨b1,b2,b3,_⟩:=Ae1 hc
 have hch:=A3y hd
 have hl:=A07 hK hx.chunks
 have h3:Aok K x.Bt w.fL=some (Ar3 w x):=by
  unfold Aok Ar3
  have hk:=Axi (l:=w.fL) w.fL.length (Aob .i64 x.Bt 1)
  have hin:=A12 (l:=w.fL) w.fL.length (Aob .i64 x.Bt 1);rw[Ayf hK hw.l hx.first,Z0];change (Ag5 w.fL x.Bt).length≤_ at hk;change ∀y∈Ag5 w.fL x.Bt,_ at hin;generalize Ag5 w.fL x.Bt=r at *;rw[Ar1 hK r (by omega) (Aw1 w.fL) (some true) (Apw K w.fL r) (fun n i h=> ?_) (fun n=> ?_)]
  ·cases r.all _<;>rfl
  ·rw[Apw,Ag0 h,cond_true,if_pos (Aje h),A3q K hw.l (hin _ (An0 h)),Ag4 (by omega),Z0,Ac2,Aeg h]
  ·rw[Apw,Ag1 (Z9 _),cond_false]
 have h2:Aqy K x.A5 x.Bt w.fL=some (Avx w x&&(Aw2 w x&&Ar3 w x)):=by
  unfold Aqy Avx Aw2;rw[h3]
  by_cases g1:x.Bt=0
  ·rw[g1]
   by_cases g2:x.A5=0
   ·rw[g2];rfl
   ·rw[As7 g2,Aqi g2,cond_true,if_pos (A14 hK hL hc g2 s1 s2)];simp only[bne,Ac2,Z52];cases (gt w.fL (Aob .i64 x.A5 1)).Hh==2<;>rfl
  ·have hF:(bif (x.Bt != 0)then(if(0:Int)≤(Aob .i64 x.Bt 1)∧(Aob .i64 x.Bt 1)<(w.fL.length:Int)then(bif (((gt w.fL (Aob .i64 x.Bt 1)).Gs) != 0)then some false else some (Ar3 w x))else none)else some (Ar3 w x))=some ((x.Bt==0||(gt w.fL (Aob .i64 x.Bt 1)).Gs==0)&&Ar3 w x):=by
    rw[As7 g1,Aqi g1,cond_true,if_pos (A14 hK hL hc g1 f1 f2)];simp only[bne,Ac2,Z52,Ajc]
   rw[hF]
   by_cases g2:x.A5=0
   ·rw[g2];rfl
   ·rw[As7 g2,Aqi g2,cond_true,if_pos (A14 hK hL hc g2 s1 s2)];simp only[bne,Ac2,Z52,Ajc]
 rw[Ar1 hK x.Ae (by omega) (fun k=>gt w.fP.Hh k==2) (some (A13 w x&&(Avx w x&&(Aw2 w x&&Ar3 w x)))) (fun n i=>Aou K n i x.A5 x.Bt x.Dg x.Ae x.Gu w.fC.Ae w.fC.Eg w.fC.C0 w.fC.E9 w.fC.C1 w.fC.Eh w.fP.Fy w.fP.Hh w.fP.Fz w.fL w.fQ w.Pr) (fun n i h=> ?_) (fun n=> ?_)]
 ·rw[Ajc];rfl
 ·simp only[Aou]
  have h5:=hch _ (An0 h);rw[Ag0 h,cond_true,if_pos (Aje h),if_pos ⟨h5.1,by omega⟩,Ag4 (by omega),bne,Ac2,Aeg h]
 ·show Aou K (n+1) _ _ _ _ _ _ _ _ _ _ _ _ _ _ _ _ _ _=_;rw[Aou,Ag1 (Z9 _),cond_false,h2];unfold A13
  by_cases g:(x.Ae.length:Int)>0
  ·have h5:=hch _ (Apk (l:=x.Ae) (Int.le_refl 0) (by omega))
   obtain⟨e1,e2,e3,e4⟩:=A1x hc hm h5.1 h5.2
   have e5:Aoa .i64 (gt x.Ae 0*w.fC.Eg) x.Gu=gt x.Ae 0*w.fC.Eg+x.Gu:=by
    have:=A1w (a:=gt x.Ae 0) (b:=w.fC.Eg) (m:=12) (n:=16) h5.1 (by omega) (by omega) b2.2
    unfold Aoa;rw[Ahs (by omega) (by omega)]
   rw[decide_eq_true g,cond_true,if_pos ⟨by omega,by omega⟩,if_pos ⟨by omega,by omega⟩,e1,e5,if_pos ⟨e3,by omega,by omega⟩,A0a hK _ (by simp;omega),show gt x.Ae 0*w.fC.Eg+x.Gu - gt x.Ae 0*w.fC.Eg=x.Gu by omega]
   simp only[Z0,Ac2,Ajc,Bool.not_true,Z52]
  ·rw[decide_eq_false g];rfl
end
def Ak8 (N:Nat)(l:List Int):List Int:=(List.range N).map (fun k:Nat=>((l.count (k:Int):Nat):Int))
theorem A0h (N:Nat)(l:List Int):(Ak8 N l).length=N:=by simp[Ak8]
theorem Azf{N:Nat}{l:List Int}{x:Int}(h0:0≤x)(h1:x<N):gt (Ak8 N l) x=((l.count x:Nat):Int):=by
 obtain⟨k,rfl⟩: ∃k:Nat,x=k:=⟨x.toNat,by omega⟩
 rw[Aeg (by rw[A0h];omega)]
 simp[Ak8]
theorem Bbv (N:Nat):Ak8 N []=List.replicate N 0:=by
 refine List.ext_getElem (by simp[Ak8]) fun i h1 h2=> ?_
 simp[Ak8]
theorem Bbw{N:Nat}{l:List Int}{x:Int}(h0:0≤x)(h1:x<N)(hl:l.length≤140737488355327):(Ak8 N l).set x.toNat (Aoa .i64 (gt (Ak8 N l) x) 1)=Ak8 N (l++[x]):=by
 have hc:l.count x≤l.length:=List.count_le_length
 have e:Aoa .i64 (gt (Ak8 N l) x) 1=((l.count x+1:Nat):Int):=by
  rw[Azf h0 h1,Ag4 (by omega)]
 rw[e];refine List.ext_getElem (by simp[Ak8]) fun i h2 h3=> ?_
 rw[List.getElem_set];simp only[Ak8,List.getElem_map,List.getElem_range,List.count_append,List.count_singleton]
 by_cases hi:x.toNat=i
 ·rw[if_pos hi]
  have:x=(i:Int):=by omega
  simp[this]
 ·rw[if_neg hi]
  have: ¬x=(i:Int):=by omega
  simp[this]
theorem A6x{C P:List Int}(hs: ∀x∈C,x∈P)(hP:P.Nodup):(∀x∈P,C.count x=1) ↔ (C.Nodup∧C.length=P.length):=by
 constructor
 ·intro h
  have hn:C.Nodup:=by
   rw[List.nodup_iff_count];intro a
   by_cases ha:a∈C
   ·rw[h a (hs a ha)];omega
   ·rw[List.count_eq_zero_of_not_mem ha];omega
  refine⟨hn,?_⟩
  have h1:=Aze hn hs
  have h2:=Aze hP (l:=C) (fun x hx=>List.count_pos_iff.1 (by rw[h x hx];omega))
  omega
 ·rintro⟨hn,hl⟩ x hx
  have hp:=A3p hn hs hl
  have:=hn.count (a:=x);rw[this,if_pos (hp.mem_iff.2 hx)]
def chL (q:List Ax):List Int:=q.flatMap (fun x=>x.Ae)
def slL (q:List Ax):List Int:=q.flatMap (fun x=>if x.A5=0 then []else [Aob .i64 x.A5 1])
def kdL (l:List Ba)(q:List Ax):List Int:=q.flatMap (fun x=>Ag5 l x.Bt)
theorem Axj{α β:Type}(q:List α)(f:α->List β)(i:Nat)(h:i<q.length):(q.take (i+1)).flatMap f=(q.take i).flatMap f++f q[i]:=by
 rw[←List.take_append_getElem h,List.flatMap_append];simp
theorem A15{α β:Type}(q:List α)(f:α->List β)(m:Nat)(h: ∀x∈q,(f x).length≤m):(q.flatMap f).length≤q.length*m:=by
 induction q with
 |nil=>simp
 |cons x q ih=>
  have h1:=h x (by simp)
  have h2:=ih fun y hy=>h y (by simp[hy])
  simp only[List.flatMap_cons,Ln,Y9,Hw,Nat.one_mul];omega
def A3s (w:Eb):List Int:=((List.range w.fP.Hh.length).filter (fun k:Nat=>gt w.fP.Hh k==2)).map (fun k:Nat=>(k:Int))
def A0x (w:Eb):List Int:=((List.range w.fL.length).filter (fun k:Nat=>(gt w.fL k).Hh==2)).map (fun k:Nat=>(k:Int))
def A6y (w:Eb):List Int:=((List.range w.fL.length).filter (fun k:Nat=>Aw1 w.fL k)).map (fun k:Nat=>(k:Int))
theorem A1c (N:Nat)(p:Nat->Bool):(((List.range N).filter p).map (fun k:Nat=>(k:Int))).Nodup:=by
 unfold List.Nodup;rw[List.pairwise_map];exact(List.Pairwise.filter _ List.pairwise_lt_range).imp fun h=>by omega
theorem Avy{N:Nat}{p:Nat->Bool}{x:Int}:x∈((List.range N).filter p).map (fun k:Nat=>(k:Int)) ↔ (0≤x∧x<(N:Int))∧p x.toNat=true:=by
 simp only[Eo,List.mem_filter,List.mem_range];constructor
 ·rintro⟨k,⟨h1,h2⟩,rfl⟩;exact⟨⟨by omega,by omega⟩,by simpa using h2⟩
 ·rintro⟨⟨h1,h2⟩,h3⟩;exact⟨x.toNat,⟨by omega,h3⟩,by omega⟩
def Awp (w:Eb)(N:Nat):Bool:=
 (List.range w.fP.Hh.length).all (fun k=> !(gt w.fP.Hh k==2)||gt (Ak8 N (chL w.fQ)) k==1)&&
 (List.range w.fL.length).all (fun k=>(!((gt w.fL k).Hh==2)||gt (Ak8 w.fL.length (slL w.fQ)) k==1)&&(!Aw1 w.fL k||gt (Ak8 w.fL.length (kdL w.fL w.fQ)) k==1))
def A1d (q:List Ax)(i k:Nat):Bool:= !((gt q i).A5 != 0&&(gt q k).A5==(gt q i).A5)&&(gt q i).Ae.all (fun y=> !(gt q k).Ae.contains y)
def Bal (q:List Ax):Bool:=(List.range q.length).all (fun i=>(List.range i).all (fun k=>A1d q i k))
def A3j (l:List Int):Bool:=(List.range l.length).all (fun i=> !(l.take i).contains (gt l i))
def A3z (w:Eb):Bool:=
 Bal w.fQ&&(A3j (kdL w.fL w.fQ)&&((((chL w.fQ).length:Int)==((A3s w).length:Int))&&((((slL w.fQ).length:Int)==((A0x w).length:Int))&&(((kdL w.fL w.fQ).length:Int)==((A6y w).length:Int)))))
theorem Bdl (l:List Int):A3j l=true ↔ l.Nodup:=by
 rw[A6u];unfold A3j;simp only[Z1,List.mem_range,Zh,List.contains_eq_mem,decide_eq_false_iff_not];exact⟨fun h i hi=>by have:=h i hi;rwa[Aeg hi]at this,fun h i hi=>by rw[Aeg hi];exact h i hi⟩
theorem Bbx{w:Eb}{q:List Ax}(h1: ∀x∈q,x.Ae.Nodup)(h2: ∀x∈q,0≤x.A5∧x.A5≤8):Bal q=true ↔ (chL q).Nodup∧(slL q).Nodup:=by
 unfold chL slL List.Nodup;rw[List.pairwise_flatMap,List.pairwise_flatMap,List.pairwise_iff_getElem,List.pairwise_iff_getElem]
 have hs: ∀x∈q,List.Pairwise (fun a b:Int=>a≠b) (if x.A5=0 then []else [Aob .i64 x.A5 1]):=by
  intro x _;split<;>simp
 have hsub: ∀x∈q,Aob .i64 x.A5 1=x.A5 - 1:=by
  intro x hx;have:=h2 x hx;unfold Aob;rw[Ahs (by omega) (by omega)]
 unfold Bal A1d;simp only[Z1,List.mem_range,Z4,Zh,List.contains_eq_mem,decide_eq_false_iff_not];constructor
 ·intro h;refine⟨⟨h1,fun i j hi hj hij x hx y hy e=> ?_⟩,hs,fun i j hi hj hij x hx y hy e=> ?_⟩
  ·have:=(h j hj i hij).2;rw[Aeg hi,Aeg hj]at this;subst e;exact this x hy hx
  ·have:=(h j hj i hij).1;rw[Aeg hi,Aeg hj]at this;split at hx
   ·cases hx
   ·split at hy
    ·cases hy
    ·rename_i g1 g2;simp only[Qo]at hx hy;subst hx;subst hy;rw[hsub _ (List.getElem_mem hi),hsub _ (List.getElem_mem hj)]at e;rw[As7 g2,Z30,beq_eq_false_iff_ne]at this;exact this (by omega)
 ·rintro⟨⟨_,h3⟩,_,h4⟩ i hi k hk
  have hk':k<q.length:=by omega
  rw[Aeg hi,Aeg hk'];refine⟨?_,fun x hx hy=>h3 k i hk' hi hk x hy x hx rfl⟩;rw[Bool.and_eq_false_iff]
  by_cases g:q[i].A5=0
  ·left;simp[g]
  ·right;rw[beq_eq_false_iff_ne];intro e;refine h4 k i hk' hi hk (Aob .i64 q[k].A5 1) ?_ (Aob .i64 q[i].A5 1) ?_ (by rw[e])
   ·rw[if_neg (by rw[e];exact g)];simp
   ·rw[if_neg g];simp
theorem Bxs{w:Eb}(hp:Auw w.fC w.fP=true)(hL:(w.fL.length:Int)=w.fC.C0)(hq: ∀x∈w.fQ,Ant w x=true):Awp w w.fC.Ae.toNat=A3z w:=by
 obtain⟨hc,hm,hst,_⟩:=Av2 hp;obtain⟨b1,b2,b3,_⟩:=Ae1 hc
 have hone: ∀x∈w.fQ,(0≤x.A5∧x.A5≤w.fC.C0)∧Avt w.fC x.Ae=true∧A0p w x=true∧Avx w x=true∧Ar3 w x=true:=by
  intro x hx
  have:=hq x hx;unfold Ant at this;simp only[Z4]at this;obtain⟨h1,h2,h3,h4,h5,h6⟩:=this;obtain⟨_,g1,_,g3,_⟩:=Avw h1;exact⟨g1,g3,h2,h4,h6⟩
 have hC: ∀x∈chL w.fQ,x∈A3s w:=by
  intro y hy;unfold chL at hy;rw[List.mem_flatMap]at hy;obtain⟨x,hx,hy⟩:=hy;obtain⟨_,g2,g3,_⟩:=hone x hx
  have:=A3y g2 y hy;unfold A0p at g3;rw[Z1]at g3
  have g4:=g3 y hy;refine Avy.2 ⟨⟨this.1,by omega⟩,?_⟩
  rw[show((y.toNat:Nat):Int)=y by omega];exact g4
 have hS: ∀x∈slL w.fQ,x∈A0x w:=by
  intro y hy;unfold slL at hy;rw[List.mem_flatMap]at hy;obtain⟨x,hx,hy⟩:=hy;obtain⟨g1,g2,g3,g4,_⟩:=hone x hx;split at hy
  ·cases hy
  ·rename_i g;simp only[Qo]at hy;unfold Avx at g4;rw[Aqi g,Z52,←hy]at g4
   have:y=x.A5 - 1:=by rw[hy];unfold Aob;rw[Ahs (by omega) (by omega)]
   refine Avy.2 ⟨⟨by omega,by omega⟩,?_⟩
   rw[show((y.toNat:Nat):Int)=y by omega];exact g4
 have hK2: ∀x∈kdL w.fL w.fQ,x∈A6y w:=by
  intro y hy;unfold kdL at hy;rw[List.mem_flatMap]at hy;obtain⟨x,hx,hy⟩:=hy;obtain⟨g1,g2,g3,g4,g5⟩:=hone x hx;unfold Ar3 at g5;rw[Z1]at g5
  have:=A12 _ _ y hy;refine Avy.2 ⟨this,?_⟩;rw[show((y.toNat:Nat):Int)=y by omega];exact g5 y hy
 have e1:=A6x hC (A1c _ _)
 have e2:=A6x hS (A1c _ _)
 have e3:=A6x hK2 (A1c _ _)
 have hp2:=Bbx (w:=w) (q:=w.fQ) (fun x hx=>A6v (hone x hx).2.1) (fun x hx=>by have:=(hone x hx).1;omega)
 rw[Bool.eq_iff_iff];unfold Awp A3z;simp only[Z4,Z1,List.mem_range,Bool.or_eq_true,Zh,beq_iff_eq,Bdl,hp2,beq_eq_false_iff_ne]
 have c1:(∀x∈A3s w,(chL w.fQ).count x=1) ↔ ∀k,k<w.fP.Hh.length->gt w.fP.Hh (k:Int)≠2∨gt (Ak8 w.fC.Ae.toNat (chL w.fQ)) (k:Int)=1:=by
  constructor
  ·intro h k hk
   by_cases g:gt w.fP.Hh (k:Int)=2
   ·right;rw[Azf (by omega) (by omega),h k (Avy.2 ⟨⟨by omega,by omega⟩,by simpa using g⟩)];rfl
   ·left;exact g
  ·intro h x hx;obtain⟨⟨h1,h2⟩,h3⟩:=Avy.1 hx;rw[beq_iff_eq,show((x.toNat:Nat):Int)=x by omega]at h3
   rcases h x.toNat (by omega)with h4|h4
   ·rw[show((x.toNat:Nat):Int)=x by omega]at h4;exact absurd h3 h4
   ·rw[show((x.toNat:Nat):Int)=x by omega,Azf h1 (by omega)]at h4;omega
 have c2:(∀x∈A0x w,(slL w.fQ).count x=1) ↔ ∀k,k<w.fL.length->(gt w.fL (k:Int)).Hh≠2∨gt (Ak8 w.fL.length (slL w.fQ)) (k:Int)=1:=by
  constructor
  ·intro h k hk
   by_cases g:(gt w.fL (k:Int)).Hh=2
   ·right;rw[Azf (by omega) (by omega),h k (Avy.2 ⟨⟨by omega,by omega⟩,by simpa using g⟩)];rfl
   ·left;exact g
  ·intro h x hx;obtain⟨⟨h1,h2⟩,h3⟩:=Avy.1 hx;rw[beq_iff_eq,show((x.toNat:Nat):Int)=x by omega]at h3
   rcases h x.toNat (by omega)with h4|h4
   ·rw[show((x.toNat:Nat):Int)=x by omega]at h4;exact absurd h3 h4
   ·rw[show((x.toNat:Nat):Int)=x by omega,Azf h1 (by omega)]at h4;omega
 have c3:(∀x∈A6y w,(kdL w.fL w.fQ).count x=1) ↔ ∀k,k<w.fL.length->Aw1 w.fL (k:Int)=false∨gt (Ak8 w.fL.length (kdL w.fL w.fQ)) (k:Int)=1:=by
  constructor
  ·intro h k hk;cases g:Aw1 w.fL (k:Int)with
   |true=>
    right;rw[Azf (by omega) (by omega),h k (Avy.2 ⟨⟨by omega,by omega⟩,by simpa using g⟩)];rfl
   |false=>left;rfl
  ·intro h x hx;obtain⟨⟨h1,h2⟩,h3⟩:=Avy.1 hx;rw[show((x.toNat:Nat):Int)=x by omega]at h3
   rcases h x.toNat (by omega)with h4|h4
   ·rw[show((x.toNat:Nat):Int)=x by omega,h3]at h4;cases h4
   ·rw[show((x.toNat:Nat):Int)=x by omega,Azf h1 (by omega)]at h4;omega
 rw[←c1,e1]
 have hsplit:(∀k,k<w.fL.length->((gt w.fL (k:Int)).Hh≠2∨gt (Ak8 w.fL.length (slL w.fQ)) (k:Int)=1)∧(Aw1 w.fL (k:Int)=false∨gt (Ak8 w.fL.length (kdL w.fL w.fQ)) (k:Int)=1)) ↔ (((slL w.fQ).Nodup∧(slL w.fQ).length=(A0x w).length)∧((kdL w.fL w.fQ).Nodup∧(kdL w.fL w.fQ).length=(A6y w).length)):=by
  rw[←show _ ↔ ((slL w.fQ).Nodup∧(slL w.fQ).length=(A0x w).length) from c2.symm.trans e2,←show _ ↔ ((kdL w.fL w.fQ).Nodup∧(kdL w.fL w.fQ).length=(A6y w).length) from c3.symm.trans e3]
  exact⟨fun h=>⟨fun k hk=>(h k hk).1,fun k hk=>(h k hk).2⟩,fun h k hk=>⟨h.1 k hk,h.2 k hk⟩⟩
 rw[hsplit];constructor
 ·rintro⟨⟨a1,a2⟩,⟨a3,a4⟩,a5,a6⟩;exact⟨⟨a1,a3⟩,a5,by omega,by omega,by omega⟩
 ·rintro⟨⟨a1,a3⟩,a5,a2,a4,a6⟩;exact⟨⟨a1,by omega⟩,⟨a3,by omega⟩,a5,by omega⟩
theorem Bam{α β:Type}{K:Nat}(hK:281474976710656≤K)(l:List α)(hl:l.length≤140737488355328)(q:α->Bool)(fin bad:Option β)(L:Nat->Nat->Option β)
  (hs: ∀n (i:Nat) (h:i<l.length),L (n+1) i=bif q l[i]then L n (i+1)else bad)
  (he: ∀n,L (n+1) l.length=fin):L K 0=bif l.all q then fin else bad:=by
 have:=Bes l q fin bad (fun n i=>L n i.toNat) (fun n i h=>by simpa using hs n i h) (fun n=>by simpa using he n) K 0 (Z21 _) (by omega)
 simpa using this
section
variable {K:Nat} (hK:281474976710656≤K)
include hK
theorem Bgp (w:Eb)(hw:Al4 w):Aek K (Ak8 w.fL.length (slL w.fQ)) (Ak8 w.fL.length (kdL w.fL w.fQ)) w.fL K (w.fL.length:Int) 0 w.fL=some ((List.range w.fL.length).all (fun k=>(!((gt w.fL (k:Int)).Hh==2)||gt (Ak8 w.fL.length (slL w.fQ)) k==1)&&(!Aw1 w.fL k||gt (Ak8 w.fL.length (kdL w.fL w.fQ)) k==1))):=by
 have hl:=Aej hw.l
 rw[Apt hK w.fL.length (by omega) (fun k=>(!((gt w.fL (k:Int)).Hh==2)||gt (Ak8 w.fL.length (slL w.fQ)) k==1)&&(!Aw1 w.fL k||gt (Ak8 w.fL.length (kdL w.fL w.fQ)) k==1)) (some true) (fun n i=>Aek K (Ak8 w.fL.length (slL w.fQ)) (Ak8 w.fL.length (kdL w.fL w.fQ)) w.fL n (w.fL.length:Int) i w.fL) (fun n i h=> ?_) (fun n=> ?_)]
 ·cases (List.range w.fL.length).all _<;>rfl
 ·simp only[Aek,Ak9];rw[Ag0 h,cond_true,if_pos (Aje h),A3r K hw.l (Aje h),Ag4 (by omega)]
  simp only[Z0,A0h,if_pos (Aje h),bne,Ac2];cases (gt w.fL (i:Int)).Hh==2<;>cases gt (Ak8 w.fL.length (slL w.fQ)) (i:Int)==1<;>cases Aw1 w.fL i<;>cases gt (Ak8 w.fL.length (kdL w.fL w.fQ)) (i:Int)==1<;>rfl
 ·show Aek K _ _ _ (n+1) _ _ _=_;rw[Aek,Ag1 (Z9 _),cond_false]
theorem Bgq (w:Eb)(hw:Al4 w)(hp:Auw w.fC w.fP=true):Ag3 K (Ak8 w.fC.Ae.toNat (chL w.fQ)) (Ak8 w.fL.length (slL w.fQ)) (Ak8 w.fL.length (kdL w.fL w.fQ)) w.fP.Hh w.fL K (w.fP.Hh.length:Int) 0 w.fP.Hh=some (Awp w w.fC.Ae.toNat):=by
 obtain⟨hc,hm,hst,_⟩:=Av2 hp;obtain⟨b1,_⟩:=Ae1 hc
 rw[Apt hK w.fP.Hh.length (by omega) (fun k=> !(gt w.fP.Hh k==2)||gt (Ak8 w.fC.Ae.toNat (chL w.fQ)) k==1) (some ((List.range w.fL.length).all (fun k=>(!((gt w.fL (k:Int)).Hh==2)||gt (Ak8 w.fL.length (slL w.fQ)) k==1)&&(!Aw1 w.fL k||gt (Ak8 w.fL.length (kdL w.fL w.fQ)) k==1)))) (fun n i=>Ag3 K (Ak8 w.fC.Ae.toNat (chL w.fQ)) (Ak8 w.fL.length (slL w.fQ)) (Ak8 w.fL.length (kdL w.fL w.fQ)) w.fP.Hh w.fL n (w.fP.Hh.length:Int) i w.fP.Hh) (fun n i h=> ?_) (fun n=> ?_)]
 ·rw[Ajc];rfl
 ·simp only[Ag3,Ap7];rw[Ag0 h,cond_true,if_pos (Aje h),Ag4 (by omega)]
  simp only[A0h,if_pos (show(0:Int)≤(i:Int)∧(i:Int)<((w.fC.Ae.toNat:Nat):Int) from⟨by omega,by omega⟩),bne,Ac2]
  cases gt w.fP.Hh (i:Int)==2<;>cases gt (Ak8 w.fC.Ae.toNat (chL w.fQ)) (i:Int)==1<;>rfl
 ·show Ag3 K _ _ _ _ _ (n+1) _ _ _=_;rw[Ag3,Ag1 (Z9 _),cond_false,Bgp hK w hw]
theorem Bby{β:Type}(N:Nat)(base l:List Int)(hin: ∀x∈l,0≤x∧x<(N:Int))(hl:base.length+l.length≤140737488355327)(q:Int->Bool)(fin bad:Option β)(L:Nat->List Int->Int->Option β)
  (hs: ∀n v (i:Nat) (h:i<l.length),v.length=N->L (n+1) v (i:Int)=bif q l[i]then L n (v.set (l[i]).toNat (Aoa .i64 (gt v l[i]) 1)) ((i+1:Nat):Int)else bad)
  (he: ∀n,L (n+1) (Ak8 N (base++l)) (l.length:Int)=fin):L K (Ak8 N base) 0=bif l.all q then fin else bad:=by
 have:=Bam hK l (by omega) q fin bad (fun n i=>L n (Ak8 N (base++l.take i)) (i:Int)) (fun n i h=> ?_) (fun n=> ?_)
 ·simpa using this
 ·have hb:(base++l.take i).length≤140737488355327:=by simp;omega
  have h1:=hin _ (List.getElem_mem h);rw[hs n _ i h (A0h _ _),Bbw h1.1 h1.2 hb,Lo,List.take_append_getElem]
 ·simp only[List.take_length];exact he n
theorem Bdm (w:Eb)(hw:Al4 w)(hp:Auw w.fC w.fP=true)(hL:(w.fL.length:Int)=w.fC.C0)(x:Ax)(hx:Azb x)(c s d:List Int)(i:Nat)(n:Nat)(hi:i<w.fQ.length)(he:gt w.fQ i=x)
  (hb1:c.length+12≤140737488355327) (hb2:s.length≤140737488355326) (hb3:d.length+8≤140737488355327):
  Aa1 K (n+1) (Ak8 w.fC.Ae.toNat c) (Ak8 w.fL.length s) (Ak8 w.fL.length d) w.fQ (w.fQ.length:Int) i w.fC.Ae w.fC.Eg w.fC.C0 w.fC.E9 w.fC.C1 w.fC.Eh w.fP.Fy w.fP.Hh w.fP.Fz w.fL w.fQ w.Pr
   =bif Ant w x then Aa1 K n (Ak8 w.fC.Ae.toNat (c++x.Ae)) (Ak8 w.fL.length (s++if x.A5=0 then []else [Aob .i64 x.A5 1])) (Ak8 w.fL.length (d++Ag5 w.fL x.Bt)) w.fQ (w.fQ.length:Int) ((i+1:Nat):Int) w.fC.Ae w.fC.Eg w.fC.C0 w.fC.E9 w.fC.C1 w.fC.Eh w.fP.Fy w.fP.Hh w.fP.Fz w.fL w.fQ w.Pr else some false:=by
 have hq:=hw.q.2;rw[Aa1];rw[show Er.mk w.fC.Ae w.fC.Eg w.fC.C0 w.fC.E9 w.fC.C1 w.fC.Eh=w.fC from rfl,show Dw.mk w.fP.Fy w.fP.Hh w.fP.Fz=w.fP from rfl]
 rw[Ag0 hi,cond_true,if_pos (Aje hi),he,A7p hK _ _ hx,Z0];unfold Ant;cases hr:As9 w.fC x with
 |false=>rfl
 |true=>
 rw[cond_true,Z30];obtain⟨hc,⟨s1,s2⟩,⟨f1,f2⟩,hd,d1,d2⟩:=Avw hr;obtain⟨_,hm,hst,_⟩:=Av2 hp;obtain⟨b1,b2,b3,_⟩:=Ae1 hc
 have hch:=A3y hd
 have hcl:=A6w hc hd
 have h5: ∀s',Apa K (Ak8 w.fL.length d) w.fQ (w.fQ.length:Int) i w.fC.Ae w.fC.Eg w.fC.C0 w.fC.E9 w.fC.C1 w.fC.Eh w.fP.Fy w.fP.Hh w.fP.Fz w.fL w.fQ w.Pr x.Bt (Ak8 w.fC.Ae.toNat (c++x.Ae)) s' (Aa1 K n)
   =bif Ar3 w x then Aa1 K n (Ak8 w.fC.Ae.toNat (c++x.Ae)) s' (Ak8 w.fL.length (d++Ag5 w.fL x.Bt)) w.fQ (w.fQ.length:Int) ((i+1:Nat):Int) w.fC.Ae w.fC.Eg w.fC.C0 w.fC.E9 w.fC.C1 w.fC.Eh w.fP.Fy w.fP.Hh w.fP.Fz w.fL w.fQ w.Pr else some false:=by
  intro s'
  have hk:=Axi (l:=w.fL) w.fL.length (Aob .i64 x.Bt 1)
  have hin:=A12 (l:=w.fL) w.fL.length (Aob .i64 x.Bt 1);unfold Apa Ar3;rw[A0g hK hw.l,Z0];change (Ag5 w.fL x.Bt).length≤_ at hk;change ∀y∈Ag5 w.fL x.Bt,_ at hin;generalize Ag5 w.fL x.Bt=r at*
  refine Bby hK w.fL.length d r hin (by omega) (Aw1 w.fL) _ _ (fun m v j=>Ai4 K w.fQ (w.fQ.length:Int) i w.fC.Ae w.fC.Eg w.fC.C0 w.fC.E9 w.fC.C1 w.fC.Eh w.fP.Fy w.fP.Hh w.fP.Fz w.fL w.fQ w.Pr (Ak8 w.fC.Ae.toNat (c++x.Ae)) s' r (Aa1 K n) m v (r.length:Int) j) (fun m v j hj hv=> ?_) (fun m=> ?_)
  ·have hr1:=hin _ (An0 hj);simp only[Ai4];rw[Ag0 hj,cond_true,if_pos (Aje hj),if_pos (by rw[hv];exact hr1),if_pos (by rw[hv];exact hr1),A3r K hw.l hr1,Ag4 (by omega),Z0,Ac2,Aeg hj]
  ·show Ai4 K _ _ _ _ _ _ _ _ _ _ _ _ _ _ _ _ _ _ _ (m+1) _ _ _=_;rw[Ai4,Ag1 (Z9 _),cond_false,Ag4 (by omega)]
 have h4: ∀s',Apb K (Ak8 w.fL.length d) w.fQ (w.fQ.length:Int) i w.fC.Ae w.fC.Eg w.fC.C0 w.fC.E9 w.fC.C1 w.fC.Eh w.fP.Fy w.fP.Hh w.fP.Fz w.fL w.fQ w.Pr x.Bt (Ak8 w.fC.Ae.toNat (c++x.Ae)) (Aa1 K n) s'
   =bif Aw2 w x&&Ar3 w x then Aa1 K n (Ak8 w.fC.Ae.toNat (c++x.Ae)) s' (Ak8 w.fL.length (d++Ag5 w.fL x.Bt)) w.fQ (w.fQ.length:Int) ((i+1:Nat):Int) w.fC.Ae w.fC.Eg w.fC.C0 w.fC.E9 w.fC.C1 w.fC.Eh w.fP.Fy w.fP.Hh w.fP.Fz w.fL w.fQ w.Pr else some false:=by
  intro s';unfold Apb Aw2;rw[h5]
  by_cases g:x.Bt=0
  ·rw[g];rfl
  ·rw[decide_eq_true (by omega),cond_true,if_pos (A14 hK hL hc g f1 f2),Aqi g]
   simp only[bne,Ac2,Z52];cases (gt w.fL (Aob .i64 x.Bt 1)).Gs==0<;>rfl
 have h2:Apc K (Ak8 w.fC.Ae.toNat c) (Ak8 w.fL.length s) (Ak8 w.fL.length d) w.fQ (w.fQ.length:Int) i w.fC.Ae w.fC.Eg w.fC.C0 w.fC.E9 w.fC.C1 w.fC.Eh w.fP.Fy w.fP.Hh w.fP.Fz w.fL w.fQ w.Pr (Aa1 K n) x.A5 x.Bt x.Dg x.Ae x.Gu
   =bif A0p w x&&(Avx w x&&(Aw2 w x&&Ar3 w x))then Aa1 K n (Ak8 w.fC.Ae.toNat (c++x.Ae)) (Ak8 w.fL.length (s++if x.A5=0 then []else [Aob .i64 x.A5 1])) (Ak8 w.fL.length (d++Ag5 w.fL x.Bt)) w.fQ (w.fQ.length:Int) ((i+1:Nat):Int) w.fC.Ae w.fC.Eg w.fC.C0 w.fC.E9 w.fC.C1 w.fC.Eh w.fP.Fy w.fP.Hh w.fP.Fz w.fL w.fQ w.Pr else some false:=by
  unfold Apc;rw[Bby hK w.fC.Ae.toNat c x.Ae (fun y hy=>by have:=hch y hy;omega) (by omega) (fun k=>gt w.fP.Hh k==2)
   (bif Avx w x&&(Aw2 w x&&Ar3 w x)then Aa1 K n (Ak8 w.fC.Ae.toNat (c++x.Ae)) (Ak8 w.fL.length (s++if x.A5=0 then []else [Aob .i64 x.A5 1])) (Ak8 w.fL.length (d++Ag5 w.fL x.Bt)) w.fQ (w.fQ.length:Int) ((i+1:Nat):Int) w.fC.Ae w.fC.Eg w.fC.C0 w.fC.E9 w.fC.C1 w.fC.Eh w.fP.Fy w.fP.Hh w.fP.Fz w.fL w.fQ w.Pr else some false) (some false)
   (fun m v j=>Ai5 K (Ak8 w.fL.length s) (Ak8 w.fL.length d) w.fQ (w.fQ.length:Int) i w.fC.Ae w.fC.Eg w.fC.C0 w.fC.E9 w.fC.C1 w.fC.Eh w.fP.Fy w.fP.Hh w.fP.Fz w.fL w.fQ w.Pr x.A5 x.Bt x.Ae (Aa1 K n) m v (x.Ae.length:Int) j x.Ae) (fun m v j hj hv=> ?_) (fun m=> ?_)]
  ·unfold A0p;cases x.Ae.all _<;>rfl
  ·have hr1:=hch _ (An0 hj);simp only[Ai5];rw[Ag0 hj,cond_true,if_pos (Aje hj),if_pos (by rw[hv];omega),if_pos (by rw[hv];omega),if_pos ⟨hr1.1,by omega⟩,Ag4 (by omega),bne,Ac2,Aeg hj]
  ·show Ai5 K _ _ _ _ _ _ _ _ _ _ _ _ _ _ _ _ _ _ _ _ _ (m+1) _ _ _ _=_;rw[Ai5,Ag1 (Z9 _),cond_false,h4,h4,A0h];unfold Avx
   by_cases g:x.A5=0
   ·rw[g,if_pos rfl,List.append_nil];rfl
   ·have hlk:=A14 hK hL hc g s1 s2;rw[decide_eq_true (by omega),cond_true,if_pos hlk,if_pos hlk,if_neg g,Bbw hlk.1 hlk.2 (by omega),Aqi g]
    simp only[bne,Ac2,Z52,if_pos hlk];cases (gt w.fL (Aob .i64 x.A5 1)).Hh==2<;>rfl
 rw[h2];unfold A13
 by_cases g:(x.Ae.length:Int)>0
 ·have h5:=hch _ (Apk (l:=x.Ae) (Int.le_refl 0) (by omega))
  obtain⟨e1,e2,e3,e4⟩:=A1x hc hm h5.1 h5.2
  have hlc:(Avs w.fC w.fP.Fy (gt x.Ae 0)).length=w.fC.Eg.toNat:=by unfold Avs;simp;omega
  have htk:List.take (x.Gu - 0).toNat (List.drop (0:Int).toNat (Avs w.fC w.fP.Fy (gt x.Ae 0)))=List.take x.Gu.toNat (List.drop (gt x.Ae 0*w.fC.Eg).toNat w.fP.Fy):=by
   unfold Avs;simp only[Int.sub_zero,Int.toNat_zero,Z55,List.take_take];rw[Nat.min_eq_left (by omega)]
  rw[decide_eq_true g,cond_true,if_pos ⟨by omega,by omega⟩,A6i hK hc hm h5.1 h5.2,Z0,if_pos ⟨by omega,by omega,by rw[hlc];omega⟩,htk,A0b hK _ (by simp;omega)]
  simp only[Z0,Ac2,Bool.not_true,Z52];cases Ayz (List.take x.Gu.toNat (List.drop (gt x.Ae 0*w.fC.Eg).toNat w.fP.Fy))<;>cases A0p w x<;>rfl
 ·rw[decide_eq_false g];simp only[cond_false,Bool.not_false,Bool.true_or,Z30]
theorem Bey (q:List Ax):(slL q).length≤q.length:=by
 have:=A15 q (fun x=>if x.A5=0 then []else [Aob .i64 x.A5 1]) 1 (fun x _=>by split<;>simp)
 simpa[slL]using this
theorem Ban (l:List Ba)(hl:l.length≤8)(q:List Ax):(kdL l q).length≤q.length*8:=
 A15 _ _ 8 fun x _=>To (Axi _ _) hl
end
theorem Bdn{β:Type}(N:Nat)(hN:N≤140737488355327)(q:Nat->Bool)(fin:Int->Option β)(L:Nat->Int->Int->Option β)
  (hs: ∀n (v:Int) (i:Nat),i<N->0≤v->v≤i->L (n+1) v (i:Int)=bif q i then L n (v+1) ((i+1:Nat):Int)else L n v ((i+1:Nat):Int))
  (he: ∀n v,L (n+1) v (N:Int)=fin v):
  ∀(n i:Nat) (v:Int),0≤v->v≤i->i≤N->N - i<n->L n v (i:Int)=fin (v+((((List.range N).drop i).filter q).length:Int)):=by
 intro n
 induction n with
 |zero=>intro i v _ _ _ h;omega
 |succ n ih=>
  intro i v h0 hv hi hn;rcases F9 i N with h|h
  ·rw[hs n v i h h0 hv,Z47 (by simpa using h),List.getElem_range,List.filter_cons]
   cases hq:q i with
   |true=>
    rw[cond_true,ih (i+1) _ (by omega) (by omega) (by omega) (by omega)]
    simp only[if_true,Y9]
    congr 1
    omega
   |false=>
    rw[cond_false,ih (i+1) _ (by omega) (by omega) (by omega) (by omega)]
    simp
  ·obtain rfl:i=N:=by omega
   rw[he,Z48 (by simp)];simp
theorem Bao{v:Int}(h0:0≤v)(h:v≤140737488355328):Aoa .i64 v 1=v+1:=by unfold Aoa;rw[Ahs (by omega) (by omega)]
section
variable {K:Nat} (hK:281474976710656≤K)
include hK
theorem Bap (w:Eb)(hw:Al4 w)(hp:Auw w.fC w.fP=true)(hL:(w.fL.length:Int)=w.fC.C0):Aq2 K w=some (w.fQ.all (Ant w)&&Awp w w.fC.Ae.toNat):=by
 obtain⟨hc,hm,hst,_⟩:=Av2 hp;obtain⟨b1,b2,b3,_⟩:=Ae1 hc
 have hq:=hw.q.2
 have key: ∀(n i:Nat),(∀x∈w.fQ.take i,Ant w x=true)->i≤w.fQ.length->w.fQ.length - i<n→
   Aa1 K n (Ak8 w.fC.Ae.toNat (chL (w.fQ.take i))) (Ak8 w.fL.length (slL (w.fQ.take i))) (Ak8 w.fL.length (kdL w.fL (w.fQ.take i))) w.fQ (w.fQ.length:Int) i w.fC.Ae w.fC.Eg w.fC.C0 w.fC.E9 w.fC.C1 w.fC.Eh w.fP.Fy w.fP.Hh w.fP.Fz w.fL w.fQ w.Pr=some ((w.fQ.drop i).all (Ant w)&&Awp w w.fC.Ae.toNat):=by
  intro n
  induction n with
  |zero=>intro i _ _ h;omega
  |succ n ih=>
   intro i hpre hi hn;rcases F9 i w.fQ.length with h|h
   ·have hb1:(chL (w.fQ.take i)).length≤(w.fQ.take i).length*12:=A15 _ _ 12 fun x hx=>by
     have:=hpre x hx;unfold Ant at this;simp only[Z4]at this;obtain⟨hc,_,_,hd,_⟩:=Avw this.1;exact A6w hc hd
    have hb2:=Bey hK (w.fQ.take i)
    have hb3:=Ban hK w.fL (by omega) (w.fQ.take i)
    rw[List.length_take]at hb1 hb2 hb3;rw[Bdm hK w hw hp hL w.fQ[i] (hw.q.1 _ (List.getElem_mem h)) _ _ _ i n h (Aeg h) (by omega) (by omega) (by omega),Z47 h,F3]
    cases hx:Ant w w.fQ[i]with
    |false=>rfl
    |true=>
     rw[cond_true,Z30,←ih (i+1) (fun x hx2=>by
      rw[←List.take_append_getElem h,Gy]at hx2;rcases hx2 with hx2|hx2
      ·exact hpre x hx2
      ·simp only[Qo]at hx2;rw[hx2];exact hx) h (by omega)]
     unfold chL slL kdL;rw[Axj _ _ _ h,Axj _ _ _ h,Axj _ _ _ h]
   ·obtain rfl:i=w.fQ.length:=by omega
    rw[Aa1,Ag1 (Z9 _),cond_false,List.take_length,Bgq hK w hw hp,List.drop_length];rfl
 unfold Aq2;rw[if_pos ⟨by omega,by omega,by omega,by omega⟩,if_pos ⟨by omega,by omega,by omega,by omega⟩,if_pos ⟨by omega,by omega,by omega,by omega⟩]
 have:=key K 0 (fun x hx=>by simp at hx) (Z21 _) (by omega)
 rw[List.take_zero,Z55,show chL []=[] from rfl,show slL []=[] from rfl,show kdL w.fL []=[] from rfl,Bbv,Bbv]at this
 rw[←this,show w.fL.length=w.fC.C0.toNat by omega]
 rfl
theorem Baq (p:Dw)(st:Int)(hl:p.Hh.length≤140737488355327):Au3 K p st=some ((((List.range p.Hh.length).filter (fun k:Nat=>gt p.Hh k==st)).length:Nat):Int):=by
 unfold Au3
 have:=Bdn p.Hh.length hl (fun k:Nat=>gt p.Hh k==st) some (fun n v i=>Ann K st n v i p.Fy p.Hh p.Fz) (fun n v i hi h0 hv=> ?_) (fun n v=> ?_) K 0 0 (Int.le_refl _) (Int.le_refl _) (Z21 _) (by omega)
 ·simpa using this
 ·simp only[Ann,Atd];rw[Ag0 hi,cond_true,if_pos (Aje hi),Ag4 (by omega),Bao h0 (by omega)]
 ·show Ann K st (n+1) v _ _ _ _=_;rw[Ann,Ag1 (Z9 _),cond_false]
theorem A3v (l:List Ba)(st:Int)(hl:l.length≤140737488355327):Asn K l st=some ((((List.range l.length).filter (fun k:Nat=>(gt l k).Hh==st)).length:Nat):Int):=by
 unfold Asn
 have:=Bdn l.length hl (fun k:Nat=>(gt l k).Hh==st) some (fun n v i=>Ajz K l st n v i) (fun n v i hi h0 hv=> ?_) (fun n v=> ?_) K 0 0 (Int.le_refl _) (Int.le_refl _) (Z21 _) (by omega)
 ·simpa using this
 ·simp only[Ajz,Aq8];rw[Ag0 hi,cond_true,if_pos (Aje hi),Ag4 (by omega),Bao h0 (by omega)]
 ·show Ajz K l st (n+1) v _=_;rw[Ajz,Ag1 (Z9 _),cond_false]
theorem Bdo (w:Eb)(hw:Al4 w)(v1 v2:Int)(v3:List Int)(h3:v3.length≤140737488355327):
  Ahy K v1 v2 v3 w.fP.Fy w.fP.Hh w.fP.Fz w.fL K 0 0=some (A3j v3&&((v1==((A3s w).length:Int))&&((v2==((A0x w).length:Int))&&((v3.length:Int)==((A6y w).length:Int))))):=by
 have hl:=Aej hw.l
 have hs:=A07 hK hw.p.st
 have h8: ∀v24,Alc K v1 v2 v3 w.fP.Fy w.fP.Hh w.fP.Fz w.fL v24 K 0=some (A3j v3&&((v1==((A3s w).length:Int))&&((v2==((A0x w).length:Int))&&((v3.length:Int)==v24)))):=by
  intro v24;rw[Apt hK v3.length (by omega) (fun i=> !(v3.take i).contains (gt v3 i)) (some ((v1==((A3s w).length:Int))&&((v2==((A0x w).length:Int))&&((v3.length:Int)==v24)))) (fun n i=>Alc K v1 v2 v3 w.fP.Fy w.fP.Hh w.fP.Fz w.fL v24 n i) (fun n i h=> ?_) (fun n=> ?_)]
  ·rw[Ajc];rfl
  ·have hp:(v3.take i).length≤140737488355328:=by simp;omega
   simp only[Alc];rw[Ag0 h,cond_true,if_pos (Bbi (by omega)),if_pos (Aje h),A6k,Awz hK _ _ hp,Ag4 (by omega),Z0,Ac2]
  ·show Alc K v1 v2 v3 _ _ _ _ v24 (n+1) _=_;rw[Alc,Ag1 (Z9 _),cond_false,Baq hK _ _ hs,A3v hK _ _ hl];simp only[Z0,Ajc];unfold A3s A0x;simp only[B8]
 have:=Bdn w.fL.length hl (fun k:Nat=>Aw1 w.fL k) (fun v=>some (A3j v3&&((v1==((A3s w).length:Int))&&((v2==((A0x w).length:Int))&&((v3.length:Int)==v))))) (fun n v i=>Ahy K v1 v2 v3 w.fP.Fy w.fP.Hh w.fP.Fz w.fL n v i) (fun n v i hi h0 hv=> ?_) (fun n v=> ?_) K 0 0 (Int.le_refl _) (Int.le_refl _) (Z21 _) (by omega)
 ·rw[show((0:Nat):Int)=0 from rfl]at this
  rw[this];unfold A6y;simp only[B8,Z55,Int.zero_add]
 ·simp only[Ahy,Arz];rw[Ag0 hi,cond_true,A3q K hw.l (Aje hi),Z0,Ag4 (by omega),Bao h0 (by omega)]
 ·show Ahy K v1 v2 v3 _ _ _ _ (n+1) v _=_;rw[Ahy,Ag1 (Z9 _),cond_false,h8]
theorem Bbz (w:Eb)(hw:Al4 w)(i n:Nat)(hi:i<w.fQ.length)(v1 v2:Int)(v3:List Int)(h1:0≤v1∧v1≤70368744177664)(h2:0≤v2∧v2≤70368744177664)(h3:(v3.length+w.fL.length)*8≤140737488355327)(hcl:(gt w.fQ i).Ae.length≤12):
  Afe K (n+1) v1 v2 v3 i w.fC.Ae w.fC.Eg w.fC.C0 w.fC.E9 w.fC.C1 w.fC.Eh w.fP.Fy w.fP.Hh w.fP.Fz w.fL w.fQ w.Pr
   =bif (List.range i).all (fun k=>A1d w.fQ i k)then Afe K n (v1+((gt w.fQ i).Ae.length:Int)) (v2+((if(gt w.fQ i).A5=0 then([]:List Int)else [Aob .i64 (gt w.fQ i).A5 1]).length:Int)) (v3++Ag5 w.fL (gt w.fQ i).Bt) ((i+1:Nat):Int) w.fC.Ae w.fC.Eg w.fC.C0 w.fC.E9 w.fC.C1 w.fC.Eh w.fP.Fy w.fP.Hh w.fP.Fz w.fL w.fQ w.Pr else some false:=by
 have hq:=hw.q.2
 have hm:=Al5
 have hx:=hw.q.1 _ (An0 hi)
 have hkl:=Axi (l:=w.fL) w.fL.length (Aob .i64 (gt w.fQ i).Bt 1);change (Ag5 w.fL (gt w.fQ i).Bt).length≤_ at hkl
 have hJ: ∀v17 v18,Aqh K v3 i w.fC.Ae w.fC.Eg w.fC.C0 w.fC.E9 w.fC.C1 w.fC.Eh w.fP.Fy w.fP.Hh w.fP.Fz w.fL w.fQ w.Pr (Afe K n) v17 v18
   =bif (List.range i).all (fun k=>A1d w.fQ i k)then Afe K n v17 v18 (v3++Ag5 w.fL (gt w.fQ i).Bt) ((i+1:Nat):Int) w.fC.Ae w.fC.Eg w.fC.C0 w.fC.E9 w.fC.C1 w.fC.Eh w.fP.Fy w.fP.Hh w.fP.Fz w.fL w.fQ w.Pr else some false:=by
  intro v17 v18;unfold Aqh
  have hlen:(v3++Ag5 w.fL (gt w.fQ i).Bt).length=v3.length+(Ag5 w.fL (gt w.fQ i).Bt).length:=by simp
  rw[if_pos (Aje hi),Ayf hK hw.l hx.first,Z0,if_pos ⟨by rw[hlen];omega,by rw[hlen];omega⟩]
  rw[Apt hK i (by omega) (fun k=>A1d w.fQ i k) _ (fun m k=>Alb K i w.fC.Ae w.fC.Eg w.fC.C0 w.fC.E9 w.fC.C1 w.fC.Eh w.fP.Fy w.fP.Hh w.fP.Fz w.fL w.fQ w.Pr v17 v18 (Afe K n) m (v3++Ag5 w.fL (gt w.fQ i).Bt) k) (fun m k hk=> ?_) (fun m=> ?_)]
  ·have hk2:k<w.fQ.length:=by omega
   have hlk:=A07 hK (hw.q.1 _ (An0 hk2)).chunks
   have h4: ∀C:List Int->Int->Option Bool,Aqg K i w.fQ (v3++Ag5 w.fL (gt w.fQ i).Bt) k C=bif (gt w.fQ i).Ae.all (fun y=> !(gt w.fQ k).Ae.contains y)then C (v3++Ag5 w.fL (gt w.fQ i).Bt) ((k+1:Nat):Int)else some false:=by
    intro C;unfold Aqg;rw[Ar1 hK (gt w.fQ i).Ae (by omega) (fun y=> !(gt w.fQ k).Ae.contains y) _ (fun m j=>Anj K i w.fQ (v3++Ag5 w.fL (gt w.fQ i).Bt) k C m j) (fun m j hj=> ?_) (fun m=> ?_)]
    ·simp only[Anj];rw[if_pos (Aje hi),Ag0 hj,cond_true,if_pos (Aje hk2),if_pos (Aje hj),Awz hK _ _ (by omega),Z0,Ag4 (by omega),Ac2,Aeg hj,if_pos (Aje hi)]
    ·show Anj K i w.fQ _ k C (m+1) _=_;rw[Anj,if_pos (Aje hi),Ag1 (Z9 _),cond_false,Ag4 (by omega)]
   simp only[Alb];rw[Ag0 hk,cond_true,if_pos (Aje hi),if_pos (Aje hk2),if_pos (Aje hi),h4];unfold A1d;cases (gt w.fQ (i:Int)).A5 != 0<;>cases (gt w.fQ (k:Int)).A5==(gt w.fQ (i:Int)).A5<;>cases (gt w.fQ i).Ae.all _<;>rfl
  ·show Alb K i _ _ _ _ _ _ _ _ _ _ _ _ v17 v18 _ (m+1) _ _=_;rw[Alb,Ag1 (Z9 _),cond_false,Ag4 (by omega)]
 rw[Afe,Ag0 hi,cond_true,if_pos (Aje hi),if_pos (Aje hi),hJ,hJ]
 have e1:Aoa .i64 v1 ((gt w.fQ i).Ae.length:Int)=v1+((gt w.fQ i).Ae.length:Int):=by unfold Aoa;rw[Ahs (by omega) (by omega)]
 rw[e1,Bao h2.1 (by omega)]
 by_cases g:(gt w.fQ i).A5=0
 ·rw[if_pos g,g];simp
 ·rw[if_neg g,As7 g];simp
theorem Bb0 (w:Eb)(hw:Al4 w)(hp:Auw w.fC w.fP=true)(hL:(w.fL.length:Int)=w.fC.C0)(hall: ∀x∈w.fQ,Ant w x=true):Ate K w=some (A3z w):=by
 obtain⟨hc,hm,hst,_⟩:=Av2 hp;obtain⟨b1,b2,b3,_⟩:=Ae1 hc
 have hq:=hw.q.2
 have hc12: ∀x∈w.fQ,x.Ae.length≤12:=fun x hx=>by
  have:=hall x hx;unfold Ant at this;simp only[Z4]at this;obtain⟨hc,_,_,hd,_⟩:=Avw this.1;exact A6w hc hd
 have h3:=Ban hK w.fL (by omega) w.fQ
 unfold Ate
 have:=Bam hK (List.range w.fQ.length) (by simp;omega) (fun i=>(List.range i).all (fun k=>A1d w.fQ i k)) (Ahy K ((chL w.fQ).length:Int) ((slL w.fQ).length:Int) (kdL w.fL w.fQ) w.fP.Fy w.fP.Hh w.fP.Fz w.fL K 0 0) (some false)
  (fun n i=>Afe K n ((chL (w.fQ.take i)).length:Int) ((slL (w.fQ.take i)).length:Int) (kdL w.fL (w.fQ.take i)) (i:Int) w.fC.Ae w.fC.Eg w.fC.C0 w.fC.E9 w.fC.C1 w.fC.Eh w.fP.Fy w.fP.Hh w.fP.Fz w.fL w.fQ w.Pr) (fun n i h=> ?_) (fun n=> ?_)
 ·rw[List.take_zero,show chL []=[] from rfl,show slL []=[] from rfl,show kdL w.fL []=[] from rfl]at this
  refine Eq.trans this ?_;rw[Bdo hK w hw _ _ _ (by omega),Ajc]
  rfl
 ·have hi:i<w.fQ.length:=by simpa using h
  have hb1:(chL (w.fQ.take i)).length≤(w.fQ.take i).length*12:=A15 _ _ 12 fun x hx=>hc12 x (Za hx)
  have hb2:=Bey hK (w.fQ.take i)
  have hb3:=Ban hK w.fL (by omega) (w.fQ.take i)
  rw[List.length_take]at hb1 hb2 hb3;simp only[List.getElem_range];rw[Bbz hK w hw i n hi _ _ _ ⟨by omega,by omega⟩ ⟨by omega,by omega⟩ (by omega) (hc12 _ (An0 hi))]
  unfold chL slL kdL;rw[Axj _ _ _ hi,Axj _ _ _ hi,Axj _ _ _ hi,Aeg hi,Ln,Ln];rfl
 ·rw[List.length_range,List.take_length,Afe,Ag1 (Z9 _),cond_false]
end
def A6z (w:Eb):Bool:=
 Auw w.fC w.fP&&(((w.fL.length:Int)==w.fC.C0)&&((List.range w.fL.length).all (A6q w)&&(A73 w.fL&&((w.fQ.all (Ant w)&&Awp w w.fC.Ae.toNat)&&w.Pr.all (fun x=>inB x 0 255)))))
section
variable {K:Nat} (hK:281474976710656≤K)
include hK
theorem Bar (w:Eb)(hw:Al4 w):Avi K w=some (A6z w):=by
 have hl:=A07 hK hw.log;unfold Avi A6z;rw[Bbg hK,Z0];cases hp:Auw w.fC w.fP with
 |false=>rfl
 |true=>
 rw[cond_true,Z30];cases hL:(w.fL.length:Int)==w.fC.C0 with
 |false=>rfl
 |true=>
 rw[beq_iff_eq]at hL;rw[cond_true,Z30,Bah hK w hw hp,Bbu hK hw.l,Bap hK w hw hp hL,Ayt hK _ (by omega)]
 simp only[Z0,Ajc]
theorem Bas (w:Eb)(hw:Al4 w):Au7 K w=some (A6z w):=by
 have hl:=A07 hK hw.log
 have hl2:=Aej hw.l
 have hq:=hw.q.2;unfold Au7 A6z;rw[Bbf hK,Z0];cases hp:Auw w.fC w.fP with
 |false=>rfl
 |true=>
 rw[cond_true,Z30];cases hL:(w.fL.length:Int)==w.fC.C0 with
 |false=>rw[bne,hL];rfl
 |true=>
 rw[bne,hL,Bool.not_true,cond_false,Z30,Bbt hK hw.l,Z0,Ac2];rw[beq_iff_eq]at hL
 have e1:Er.mk w.fC.Ae w.fC.Eg w.fC.C0 w.fC.E9 w.fC.C1 w.fC.Eh=w.fC:=rfl
 have e2:Eb.mk (Er.mk w.fC.Ae w.fC.Eg w.fC.C0 w.fC.E9 w.fC.C1 w.fC.Eh) (Dw.mk w.fP.Fy w.fP.Hh w.fP.Fz) w.fL w.fQ w.Pr=w:=rfl
 have h3:w.fQ.all (Ant w)=true->Anq K w.fC.Ae w.fC.Eg w.fC.C0 w.fC.E9 w.fC.C1 w.fC.Eh w.fP.Fy w.fP.Hh w.fP.Fz w.fL w.fQ w.Pr K 0=some (w.Pr.all (fun x=>inB x 0 255)&&Awp w w.fC.Ae.toNat):=by
  intro hall;rw[Z1]at hall;rw[Bxs hp hL hall];rw[Ar1 hK w.Pr (by omega) (fun x=>inB x 0 255) (some (A3z w)) (Anq K w.fC.Ae w.fC.Eg w.fC.C0 w.fC.E9 w.fC.C1 w.fC.Eh w.fP.Fy w.fP.Hh w.fP.Fz w.fL w.fQ w.Pr) (fun n i h=> ?_) (fun n=> ?_)]
  ·rw[Ajc]
  ·rw[Anq,Ag0 h,cond_true,if_pos (Aje h),Ast,Ag4 (by omega),Z0,Ac2,Aeg h]
  ·rw[Anq,Ag1 (Z9 _),cond_false,e2,Bb0 hK w hw hp hL hall,Z0]
 have h2:App K w.fC.Ae w.fC.Eg w.fC.C0 w.fC.E9 w.fC.C1 w.fC.Eh w.fP.Fy w.fP.Hh w.fP.Fz w.fL w.fQ w.Pr K 0=some (w.fQ.all (Ant w)&&(w.Pr.all (fun x=>inB x 0 255)&&Awp w w.fC.Ae.toNat)):=by
  rw[Ar1 hK w.fQ (by omega) (Ant w) (Anq K w.fC.Ae w.fC.Eg w.fC.C0 w.fC.E9 w.fC.C1 w.fC.Eh w.fP.Fy w.fP.Hh w.fP.Fz w.fL w.fQ w.Pr K 0) (App K w.fC.Ae w.fC.Eg w.fC.C0 w.fC.E9 w.fC.C1 w.fC.Eh w.fP.Fy w.fP.Hh w.fP.Fz w.fL w.fQ w.Pr) (fun n i h=> ?_) (fun n=> ?_)]
  ·cases hall:w.fQ.all (Ant w)with
   |false=>rfl
   |true=>rw[cond_true,h3 hall];rfl
  ·rw[App,Ag0 h,cond_true,e2,A7q hK w hw hp hL i h,Ag4 (by omega),Z0,Ac2,Aeg h]
  ·rw[App,Ag1 (Z9 _),cond_false]
 have h1:Anr K K 0 w.fC.Ae w.fC.Eg w.fC.C0 w.fC.E9 w.fC.C1 w.fC.Eh w.fP.Fy w.fP.Hh w.fP.Fz w.fL w.fQ w.Pr=some ((List.range w.fL.length).all (A6q w)&&(w.fQ.all (Ant w)&&(w.Pr.all (fun x=>inB x 0 255)&&Awp w w.fC.Ae.toNat))):=by
  rw[Apt hK w.fL.length (by omega) (A6q w) (some (w.fQ.all (Ant w)&&(w.Pr.all (fun x=>inB x 0 255)&&Awp w w.fC.Ae.toNat))) (fun n i=>Anr K n i w.fC.Ae w.fC.Eg w.fC.C0 w.fC.E9 w.fC.C1 w.fC.Eh w.fP.Fy w.fP.Hh w.fP.Fz w.fL w.fQ w.Pr) (fun n k hk=> ?_) (fun n=> ?_)]
  ·rw[Ajc]
  ·simp only[Anr];rw[e2,e1]
   have hn:=hw.l.1 _ (An0 hk)
   have l1:=A07 hK hn.chunks
   have l2:=Bmp hK hn.things
   have l3:=A07 hK hn.tags;rw[Ag0 hk,cond_true,if_pos (Aje hk),Bbj hK _ _ l1 l2 l3,Z0,A6n hK w k hk hw.p.st.2 l1,Ag4 (by omega),A7j hK _ _ l1 l2]
   simp only[Z0];unfold A6q;cases hb:Aw5 w.fC (gt w.fL k)with
   |false=>rfl
   |true=>
   cases A0o w.fP k (gt w.fL k).Ae with
   |false=>rfl
   |true=>
   cases hi:(gt w.fL k).Ea.all (Ay0 w.fC (gt w.fL k).Ae)with
   |false=>simp only[cond_true,Z30,Bool.false_and,cond_false,if_pos (Aje hk)]
   |true=>
   have hs:=A6p hi;rw[A7g hK _ l2 (fun t ht=>(hs t ht).1),Bde hK w k hk hp hn hb hs];simp only[Z0,cond_true,Ac2,Z30,if_pos (Aje hk)];cases Av3 (gt w.fL k).Ea<;>cases A6o w.fC w.fP.Fy (gt w.fL k)<;>rfl
  ·show Anr K (n+1) _ _ _ _ _ _ _ _ _ _ _ _ _=_;rw[Anr,Ag1 (Z9 _),cond_false,h2]
 rw[h1];cases A73 w.fL with
 |false=>rw[cond_false];simp
 |true=>
  simp only[cond_true,Z30,Z7]
  ac_rfl
end
theorem Bxt{x:Int}:Anz x ↔ -9223372036854775808≤x∧x≤9223372036854775807:=by
 simp[Anz,Lit.wf,IntKind.min,IntKind.max,IntKind.signed,IntKind.bits]
theorem Avz{n:Nat}(h:n≤reachBytes):n≤140737488355327:=by simp only[reachBytes]at h;omega
theorem Ary{n m:Nat}(h:n*m≤reachBytes)(hm:0<m):n≤140737488355327:=by
 have:n*1≤n*m:=Nat.mul_le_mul_left n hm;simp only[reachBytes]at h;omega
def Bxu (a:Es):Er:=Er.mk a.Ae a.Eg a.C0 a.E9 a.C1 a.Eh
def Bxv (a:Dx):Dw:=Dw.mk a.Fy a.Hh a.Fz
def A30 (a:Bb):A9:=A9.mk a.fAt a.Vu a.Vv
def Ayu (a:Bc):Ba:=Ba.mk a.Hh a.C2 a.Ly a.fUp a.Gq a.Bt a.Gr a.Gs a.Ae a.Pq a.Gt (a.Ea.map A30) a.Dg
def Awq (a:Ay):Ax:=Ax.mk a.A5 a.Bt a.Dg a.Ae a.Gu
def A31 (a:Ec):Eb:=Eb.mk (Bxu a.fC) (Bxv a.fP) (a.fL.map Ayu) (a.fQ.map Awq) a.Pr
section
variable {K:Nat} (hK:281474976710656≤K)
include hK
theorem Bgr{a:List Int}(w:Bab a):Auy K a=some a:=by
 have hl:=Ary w.2.1 (by decide)
 unfold Auy;rw[if_pos ⟨by omega,by omega,by omega,by omega⟩]
 have:=A1v a some id (fun _ _=>rfl) (by omega) (fun n i v=>Ata K a n v i) (fun n i v=>rfl) K 0 (List.replicate (a.length:Int).toNat 0) (Z21 _) (by simp) (fun j hj=>by omega) (by omega)
 simpa using this
theorem Axt{a:List Int}(w:Awm a):An3 K a=some a:=by
 have hl:=Ary w.2.1 (by decide)
 have hr:a.length*8≤140737488355327:=Avz w.2.1;unfold An3;rw[if_pos ⟨by omega,by omega,by omega,by omega⟩]
 have:=A1v a some id (fun _ _=>rfl) (by omega) (fun n i v=>Atx K a n v i) (fun n i v=>rfl) K 0 (List.replicate (a.length:Int).toNat 0) (Z21 _) (by simp) (fun j hj=>by omega) (by omega)
 simpa using this
theorem Bdp{a:List Bb}(w:Avp a):Aty K a=some (a.map A30):=by
 have hl:=Ary w.2.1 (by decide)
 have hr:a.length*24≤140737488355327:=Avz w.2.1;unfold Aty;rw[if_pos ⟨by omega,by omega,by omega,by omega⟩]
 exact A1v a (Axk K) A30 (fun _ _=>rfl) (by omega) (fun n i v=>Asl K a n v i) (fun n i v=>rfl) K 0 _ (Z21 _) (by simp) (fun j hj=>by omega) (by omega)
theorem Bmt{a:Bc}(w:Avq a):Atp K a=some (Ayu a):=by
 unfold Atp;obtain⟨_,_,_,_,_,_,_,_,h1,_,_,h2,h3⟩:=w;rw[Axt hK h1,Bdp hK h2,Axt hK h3];rfl
theorem Bgs{a:List Bc}(w:Awn a):Auz K a=some (a.map Ayu):=by
 have hl:=Ary w.2.1 (by decide)
 have hr:a.length*152≤140737488355327:=Avz w.2.1;unfold Auz;rw[if_pos ⟨by omega,by omega,by omega,by omega⟩]
 exact A1v a (Atp K) Ayu (fun x hx=>Bmt hK (w.1 x hx)) (by omega) (fun n i v=>Atb K a n v i) (fun n i v=>rfl) K 0 _ (Z21 _) (by simp) (fun j hj=>by omega) (by omega)
theorem Bgt{a:Ay}(w:Atv a):Asv K a=some (Awq a):=by
 unfold Asv;obtain⟨_,_,h1,h2,_⟩:=w;rw[Axt hK h1,Axt hK h2];rfl
theorem Bdq{a:List Ay}(w:Avr a):Atz K a=some (a.map Awq):=by
 have hl:=Ary w.2.1 (by decide)
 have hr:a.length*72≤140737488355327:=Avz w.2.1;unfold Atz;rw[if_pos ⟨by omega,by omega,by omega,by omega⟩]
 exact A1v a (Asv K) Awq (fun x hx=>Bgt hK (w.1 x hx)) (by omega) (fun n i v=>Asm K a n v i) (fun n i v=>rfl) K 0 _ (Z21 _) (by simp) (fun j hj=>by omega) (by omega)
theorem Bgu{a:Ec}(w:Aqa a):Ard K a=some (A31 a):=by
 unfold Ard Ayj Ayk;obtain⟨_,⟨h1,h2,h3⟩,h4,h5,h6⟩:=w;rw[Bgr hK h1,Axt hK h2,Axt hK h3,Bgs hK h4,Bdq hK h5,Axt hK h6];rfl
theorem Bgv{a:List Int}(hl:a.length≤140737488355327):Avm K a a=some true:=by
 unfold Avm;simp only[bne_self_eq_false,cond_false];exact Bmm a (by omega) (Atk K a a) (fun n i=>rfl) K 0 (Z21 _) (by omega)
theorem Axu{a:List Int}(w:a.length*8≤140737488355327):An4 K a a=some true:=by
 have hl:a.length≤140737488355327:=by omega
 unfold An4;simp only[bne_self_eq_false,cond_false];exact Bmm a (by omega) (Aum K a a) (fun n i=>rfl) K 0 (Z21 _) (by omega)
omit hK in
theorem Bgw (a:A9):As5 K a a=some true:=by simp[As5]
theorem Bdr{a:List A9}(w:A10 a):Aun K a a=some true:=by
 have hl:a.length≤140737488355327:=by have:=w.2;omega
 unfold Aun;simp only[bne_self_eq_false,cond_false];exact Bml a (As5 K) (fun x _=>Bgw x) (by omega) (Aq3 K a a) (fun n i=>by rw[Aq3];simp only[Ac2]) K 0 (Z21 _) (by omega)
theorem Bmu{a:Ba}(w:Atm a):Atu K a a=some true:=by
 simp[Atu,Axu hK w.chunks.2,Bdr hK w.things,Axu hK w.tags.2]
theorem Bgx{a:List Ba}(w:Agf a):Avn K a a=some true:=by
 have hl:=Aej w;unfold Avn;simp only[bne_self_eq_false,cond_false];exact Bml a (Atu K) (fun x hx=>Bmu hK (w.1 x hx)) (by omega) (Arw K a a) (fun n i=>by rw[Arw];simp only[Ac2]) K 0 (Z21 _) (by omega)
theorem Bgy{a:Ax}(w:Azb a):As6 K a a=some true:=by
 simp[As6,Axu hK w.tags.2,Axu hK w.chunks.2]
theorem Bds{a:List Ax}(w:Bet a):Auo K a a=some true:=by
 have hl:a.length≤140737488355327:=by have:=w.2;omega
 unfold Auo;simp only[bne_self_eq_false,cond_false];exact Bml a (As6 K) (fun x hx=>Bgy hK (w.1 x hx)) (by omega) (Aq4 K a a) (fun n i=>by rw[Aq4];simp only[Ac2]) K 0 (Z21 _) (by omega)
theorem Bgz{a:Eb}(w:Al4 a):Avo K a a=some true:=by
 simp[Avo,Ayr,Ays,Bgv hK w.p.mem.2,Axu hK w.p.st.2,Axu hK w.p.own.2,Bgx hK w.l,Bds hK w.q,Axu hK w.log.2]
omit hK in
theorem Bg0 (a:List Int)(y:Int): ∃r,Aux K a y=some r:=by
 unfold Aux;cases decide (Aob .i64 y (a.length:Int)<0)<;>exact⟨_,rfl⟩
omit hK in
theorem Axv (a:List Int)(y:Int): ∃r,An2 K a y=some r:=by
 unfold An2;cases decide (Aob .i64 y (a.length:Int)<0)<;>exact⟨_,rfl⟩
omit hK in
theorem Bdt (a:List Bb)(y:Int): ∃r,Atw K a y=some r:=by
 unfold Atw;cases decide (Aob .i64 y (a.length:Int)<0)<;>exact⟨_,rfl⟩
omit hK in
theorem Bmv (a:Bc)(y:Int): ∃r,Ap9 K a y=some r:=by
 unfold Ap9;obtain⟨r1,h1⟩:=Axv (K:=K) a.Ae y;rw[h1];simp only[Z0];cases decide (r1<0)
 ·obtain⟨r2,h2⟩:=Bdt (K:=K) a.Ea r1;simp only[h2,Z0,cond_false];cases decide (r2<0)
  ·obtain⟨r3,h3⟩:=Axv (K:=K) a.Dg r2;simp only[h3,Z0,cond_false];cases decide (r3<0)<;>exact⟨_,rfl⟩
  ·exact⟨_,rfl⟩
 ·exact⟨_,rfl⟩
theorem Bg1{a:List Bc}(w:Awn a)(y:Int): ∃r,Asu K a y=some r:=by
 have hl:=Ary w.2.1 (by decide)
 unfold Asu;cases decide (Aob .i64 y (a.length:Int)<0)
 ·exact Buj a (Ap9 K) (fun x _ y=>Bmv x y) (by omega) (Aqb K a) (fun n y i=>rfl) K 0 _ (Z21 _) (by omega)
 ·exact⟨_,rfl⟩
omit hK in
theorem Bg2 (a:Ay)(y:Int): ∃r,Aps K a y=some r:=by
 unfold Aps;obtain⟨r1,h1⟩:=Axv (K:=K) a.Dg y;rw[h1];simp only[Z0];cases decide (r1<0)
 ·obtain⟨r2,h2⟩:=Axv (K:=K) a.Ae r1;simp only[h2,Z0,cond_false];cases decide (r2<0)<;>exact⟨_,rfl⟩
 ·exact⟨_,rfl⟩
theorem Bdu{a:List Ay}(w:Avr a)(y:Int): ∃r,Ar4 K a y=some r:=by
 have hl:=Ary w.2.1 (by decide)
 unfold Ar4;cases decide (Aob .i64 y (a.length:Int)<0)
 ·exact Buj a (Aps K) (fun x _ y=>Bg2 x y) (by omega) (Apv K a) (fun n y i=>rfl) K 0 _ (Z21 _) (by omega)
 ·exact⟨_,rfl⟩
omit hK in
theorem Bmw (a:Dx)(y:Int): ∃r,Ato K a y=some r:=by
 unfold Ato;obtain⟨r1,h1⟩:=Bg0 (K:=K) a.Fy y;rw[h1];simp only[Z0];cases decide (r1<0)
 ·obtain⟨r2,h2⟩:=Axv (K:=K) a.Hh r1;simp only[h2,Z0,cond_false];cases decide (r2<0)
  ·obtain⟨r3,h3⟩:=Axv (K:=K) a.Fz r2;simp only[h3,Z0,cond_false];cases decide (r3<0)<;>exact⟨_,rfl⟩
  ·exact⟨_,rfl⟩
 ·exact⟨_,rfl⟩
theorem Bg3{a:Ec}(w:Aqa a)(y:Int): ∃r,Aqe K a y=some r:=by
 obtain⟨_,_,h4,h5,_⟩:=w;unfold Aqe;obtain⟨r1,h1⟩:=Bmw (K:=K) a.fP y;rw[h1];simp only[Z0];cases decide (r1<0)
 ·obtain⟨r2,h2⟩:=Bg1 hK h4 r1;simp only[h2,Z0,cond_false];cases decide (r2<0)
  ·obtain⟨r3,h3⟩:=Bdu hK h5 r2;simp only[h3,Z0,cond_false];cases decide (r3<0)
   ·obtain⟨r4,h4⟩:=Axv (K:=K) a.Pr r3;simp only[h4,Z0,cond_false];cases decide (r4<0)<;>exact⟨_,rfl⟩
   ·exact⟨_,rfl⟩
  ·exact⟨_,rfl⟩
 ·exact⟨_,rfl⟩
end
theorem Aqk{x:Int}(h:Anz x):wfi x:=Bxt.1 h
theorem Axw{l:List Int}(h:Awm l):A0c l:=⟨fun x hx=>Aqk (h.1 x hx),Avz h.2.1⟩
theorem B4c{x:Int}(h:Bbe x):0≤x∧x≤255:=by
 simpa[Bbe,Lit.wf,IntKind.min,IntKind.max,IntKind.signed,IntKind.bits]using h
theorem Bg4{l:List Int}(h:Bab l):Bmo l:=⟨fun x hx=>B4c (h.1 x hx),by have:=Avz h.2.1;omega⟩
theorem Bdv{l:List Bb}(h:Avp l):A10 (l.map A30):=by
 refine⟨fun x hx=> ?_,by rw[B8];exact Avz h.2.1⟩
 obtain⟨y,hy,rfl⟩:=Eo.1 hx;obtain⟨h1,h2,h3⟩:=h.1 y hy;exact⟨Aqk h1,Aqk h2,Aqk h3⟩
theorem Bmx{a:Bc}(w:Avq a):Atm (Ayu a):=by
 obtain⟨h1,h2,h3,h4,h5,h6,h7,h8,h9,h10,h11,h12,h13⟩:=w;exact⟨Aqk h1,Aqk h2,Aqk h3,Aqk h4,Aqk h5,Aqk h6,Aqk h7,Aqk h8,Axw h9,Aqk h10,Aqk h11,Bdv h12,Axw h13⟩
theorem Bg5{a:Ay}(w:Atv a):Azb (Awq a):=by
 obtain⟨h1,h2,h3,h4,h5⟩:=w;exact⟨Aqk h1,Aqk h2,Axw h3,Axw h4,Aqk h5⟩
theorem Bg6{a:Ec}(w:Aqa a):Al4 (A31 a):=by
 obtain⟨⟨c1,c2,c3,c4,c5,c6⟩,⟨p1,p2,p3⟩,h3,h4,h5⟩:=w;refine⟨⟨Aqk c1,Aqk c2,Aqk c3,Aqk c4,Aqk c5,Aqk c6⟩,⟨Bg4 p1,Axw p2,Axw p3⟩,⟨fun x hx=> ?_,?_⟩,⟨fun x hx=> ?_,?_⟩,Axw h5⟩
 ·obtain⟨y,hy,rfl⟩:=Eo.1 hx;exact Bmx (h3.1 y hy)
 ·show(a.fL.map Ayu).length*152≤_;rw[B8];exact Avz h3.2.1
 ·obtain⟨y,hy,rfl⟩:=Eo.1 hx;exact Bg5 (h4.1 y hy)
 ·show(a.fQ.map Awq).length*72≤_;rw[B8];exact Avz h4.2.1
theorem B53{α:Type}(l:List α)(i:Nat)(x y:α):(l.set i x).set i y=l.set i y:=List.set_set ..
theorem Bqf{α:Type}[Inhabited α]{l:List α}{i:Nat}(h:i<l.length):l.drop i=gt l (i:Int)::l.drop (i+1):=by
 rw[Aeg h,Z47 h]
section
variable {K:Nat} (hK:281474976710656≤K)
include hK
def Aqn (x:Ba):Nat:=10+x.Ae.length+3*x.Ea.length+x.Dg.length
def Axx (x:Ax):Nat:=3+x.Dg.length+x.Ae.length
def A1e (p:Dw):Nat:=p.Fy.length+p.Hh.length+p.Fz.length
def cells (w:Eb):Nat:=A1e w.fP+(w.fL.map Aqn).sum+(w.fQ.map Axx).sum+w.Pr.length
end
theorem Bul{y:Int}{n:Nat}(h0:0≤y)(h1:y≤1048576)(hn:n≤140737488355327):Aob .i64 y (n:Int)=y - n:=by
 unfold Aob;exact Ahs (by omega) (by omega)
theorem A16{n:Nat}{y r:Int}(hn:n≤140737488355327)(h0:0≤y)(h1:y≤1048576)(h:(bif (decide ((Aob .i64 y (n:Int))<0))then some (-1)else some (Aob .i64 y (n:Int)))=some r)(hr:0≤r):r+n=y:=by
 rw[Bul h0 h1 hn]at h;cases e:decide (y - (n:Int)<0)with
 |true=>rw[e]at h;simp at h;omega
 |false=>rw[e]at h;simp at h;omega
theorem Ay2{f:Option Int}{g:Int->Option Int}{r:Int}(h:f.bind (fun q=>bif decide (q<0)then some (-1)else g q)=some r)(hr:0≤r): ∃q,f=some q∧0≤q∧g q=some r:=by
 cases f with
 |none=>cases h
 |some q=>
  simp only[Z0]at h;cases e:decide (q<0)with
  |true=>rw[e]at h;simp at h;omega
  |false=>rw[e]at h;exact⟨q,rfl,by simpa using e,h⟩
theorem B4d{α:Type}[Inhabited α](a:List α)(f:α->Int->Option Int)(c:α->Nat)(hf: ∀x∈a,∀y r,0≤y->y≤1048576->f x y=some r->0≤r->r+c x=y)(ha:a.length≤140737488355327)
  (L:Nat->Int->Int->Option Int) (h00: ∀y i,L 0 y i=none) (hL: ∀n y i,L (n+1) y i=bif decide (i<(a.length:Int))then(if(0:Int)≤i∧i<(a.length:Int)then(f (gt a i) y).bind (fun r=>bif decide (r<0)then some (-1)else L n r (Aoa .i64 i 1))else none)else some y):
  ∀(n i:Nat) (y r:Int),i≤a.length->0≤y->y≤1048576->L n y (i:Int)=some r->0≤r->r+(((a.drop i).map c).sum:Nat)=y:=by
 intro n
 induction n with
 |zero=>intro i y r _ _ _ h;rw[h00]at h;cases h
 |succ n ih=>
  intro i y r hi h0 h1 h hr;rw[hL]at h;rcases F9 i a.length with hl|hl
  ·rw[Ag0 hl]at h;simp only[cond_true]at h;rw[if_pos ⟨by omega,by omega⟩,Ag4 (by omega)]at h
   obtain⟨q,q1,q2,q3⟩:=Ay2 h hr
   have e1:=hf _ (An0 hl) _ _ h0 h1 q1 q2
   have e2:=ih (i+1) q r hl q2 (by omega) q3 hr
   rw[Bqf hl,Z8,List.sum_cons];omega
  ·rw[Ag1 hl]at h;simp only[cond_false,Z7]at h;rw[Z48 hl];simp;omega
def szN (x:Bc):Nat:=x.Ae.length+x.Ea.length+x.Dg.length
def szW (x:Ay):Nat:=x.Dg.length+x.Ae.length
theorem Bmy{K:Nat}{a:Bc}(w:Avq a){y r:Int}(h0:0≤y)(h1:y≤1048576)(h:Ap9 K a y=some r)(hr:0≤r):r+szN a=y:=by
 obtain⟨_,_,_,_,_,_,_,_,w1,_,_,w2,w3⟩:=w;unfold Ap9 at h;obtain⟨q,q1,q2,h⟩:=Ay2 h hr;obtain⟨p,p1,p2,h⟩:=Ay2 h hr;obtain⟨s,s1,s2,h⟩:=Ay2 h hr
 have e1:=A16 (Ary w1.2.1 (by decide)) h0 h1 q1 q2
 have e2:=A16 (Ary w2.2.1 (by decide)) q2 (by omega) p1 p2
 have e3:=A16 (Ary w3.2.1 (by decide)) p2 (by omega) s1 s2
 injection h with h
 unfold szN;omega
theorem Bg7{K:Nat}{a:Ay}(w:Atv a){y r:Int}(h0:0≤y)(h1:y≤1048576)(h:Aps K a y=some r)(hr:0≤r):r+szW a=y:=by
 obtain⟨_,_,w1,w2,_⟩:=w;unfold Aps at h;obtain⟨q,q1,q2,h⟩:=Ay2 h hr;obtain⟨p,p1,p2,h⟩:=Ay2 h hr
 have e1:=A16 (Ary w1.2.1 (by decide)) h0 h1 q1 q2
 have e2:=A16 (Ary w2.2.1 (by decide)) q2 (by omega) p1 p2
 injection h with h
 unfold szW;omega
theorem Bum{n:Nat}{y r:Int}{o:Int->Option Int}(hn:n≤140737488355327)(h0:0≤y)(h1:y≤1048576)(h:(bif (decide ((Aob .i64 y (n:Int))<0))then some (-1)else o (Aob .i64 y (n:Int)))=some r)(hr:0≤r):0≤y - n∧o (y - n)=some r:=by
 rw[Bul h0 h1 hn]at h;cases e:decide (y - (n:Int)<0)with
 |true=>rw[e]at h;simp at h;omega
 |false=>rw[e]at h;exact⟨by simpa using e,h⟩
theorem Bg8{K:Nat}{a:Ec}(w:Aqa a){r:Int}(h:Aqe K a 1048576=some r)(hr:0≤r):a.fP.Fy.length+a.fP.Hh.length+a.fP.Fz.length+(a.fL.length+(a.fL.map szN).sum)+(a.fQ.length+(a.fQ.map szW).sum)+a.Pr.length≤1048576:=by
 obtain⟨_,⟨w1,w2,w3⟩,w4,w5,w6⟩:=w;unfold Aqe at h;obtain⟨q,q1,q2,h⟩:=Ay2 h hr;unfold Ato at q1;obtain⟨p1,a1,b1,q1⟩:=Ay2 q1 q2;obtain⟨p2,a2,b2,q1⟩:=Ay2 q1 q2;obtain⟨p3,a3,b3,q1⟩:=Ay2 q1 q2
 have e1:=A16 (Ary w1.2.1 (by decide)) (by omega) (by omega) a1 b1
 have e2:=A16 (Ary w2.2.1 (by decide)) b1 (by omega) a2 b2
 have e3:=A16 (Ary w3.2.1 (by decide)) b2 (by omega) a3 b3
 injection q1 with q1
 obtain⟨s,s1,s2,h⟩:=Ay2 h hr;obtain⟨t,t1,t2,h⟩:=Ay2 h hr;obtain⟨u,u1,u2,h⟩:=Ay2 h hr;injection h with h
 unfold Asu at s1;obtain⟨z1,s1⟩:=Bum (o:=fun z=>Aqb K a.fL K z 0) (Ary w4.2.1 (by decide)) q2 (by omega) s1 s2
 have e4:=B4d a.fL (Ap9 K) szN (fun x hx y r h0 h1 h hr=>Bmy (w4.1 x hx) h0 h1 h hr) (Ary w4.2.1 (by decide)) (Aqb K a.fL) (fun _ _=>rfl) (fun _ _ _=>rfl) K 0 _ _ (Z21 _) z1 (by omega) s1 s2
 rw[Z55]at e4;unfold Ar4 at t1;obtain⟨z2,t1⟩:=Bum (o:=fun z=>Apv K a.fQ K z 0) (Ary w5.2.1 (by decide)) s2 (by omega) t1 t2
 have e5:=B4d a.fQ (Aps K) szW (fun x hx y r h0 h1 h hr=>Bg7 (w5.1 x hx) h0 h1 h hr) (Ary w5.2.1 (by decide)) (Apv K a.fQ) (fun _ _=>rfl) (fun _ _ _=>rfl) K 0 _ _ (Z21 _) z2 (by omega) t1 t2
 rw[Z55]at e5
 have e6:=A16 (Ary w6.2.1 (by decide)) t2 (by omega) u1 u2
 omega
theorem Bg9 (l:List Bc):((l.map Ayu).map Aqn).sum≤13*(l.length+(l.map szN).sum):=by
 induction l with
 |nil=>exact Z9 _
 |cons x l ih=>
  simp only[Z8,List.sum_cons,Y9]
  have:Aqn (Ayu x)≤13*(1+szN x):=by simp only[Aqn,Ayu,szN,B8];omega
  omega
theorem Bha (l:List Ay):((l.map Awq).map Axx).sum≤13*(l.length+(l.map szW).sum):=by
 induction l with
 |nil=>exact Z9 _
 |cons x l ih=>
  simp only[Z8,List.sum_cons,Y9]
  have:Axx (Awq x)≤13*(1+szW x):=by simp only[Axx,Awq,szW];omega
  omega
theorem Bqg{K:Nat}{a:Ec}(w:Aqa a){r:Int}(h:Aqe K a 1048576=some r)(hr:0≤r):cells (A31 a)≤13631488:=by
 have h1:=Bg8 w h hr
 have h2:=Bg9 a.fL
 have h3:=Bha a.fQ
 show a.fP.Fy.length+a.fP.Hh.length+a.fP.Fz.length+((a.fL.map Ayu).map Aqn).sum+((a.fQ.map Awq).map Axx).sum+a.Pr.length≤_;omega
section
variable {K:Nat} (hK:281474976710656≤K)
include hK
theorem A32{α β:Type}(l:List α)(hl:l.length≤140737488355327)(fin:Option β)(L:Nat->List α->Int->Option β)
  (hs: ∀n v (i:Nat) (h:i<l.length),v.length=i->L (n+1) v (i:Int)=L n (v++[l[i]]) ((i+1:Nat):Int))
  (he: ∀n,L (n+1) l (l.length:Int)=fin):L K [] 0=fin:=by
 have:=Bam hK l (by omega) (fun _=>true) fin none (fun n i=>L n (l.take i) (i:Int)) (fun n i h=>by
  rw[hs n _ i h (by simp;omega),List.take_append_getElem];rfl) (fun n=>by rw[List.take_length];exact he n)
 rw[Z1.2 (fun _ _=>rfl)]at this;simpa using this
omit hK in
theorem A3t (K:Nat){p:Dw}(w:Azl p):Atq K p=some p:=by
 have hm:=Al5
 have h1:=w.mem.2
 have h2:=w.st.2
 have h3:=w.own.2;unfold Atq;simp only[Zg];rw[if_pos ⟨by omega,by omega⟩,if_pos ⟨by omega,by omega⟩,if_pos ⟨by omega,by omega⟩]
omit hK in
theorem Bb1 (K:Nat){n:Ba}(w:Atm n):Av7 K n=some n:=by
 have hm:=Al5
 have h1:=w.chunks.2
 have h2:=w.things.2
 have h3:=w.tags.2;unfold Av7;simp only[Zg];rw[if_pos ⟨by omega,by omega⟩,if_pos ⟨by omega,by omega⟩,if_pos ⟨by omega,by omega⟩]
theorem A60{l:List Ba}(w:Agf l):Au0 K l=some l:=by
 have hm:=Al5
 have h2:=w.2;unfold Au0;refine A32 hK l (Aej w) (some l) (fun n v i=>Aqf K l n v i) (fun n v i h hv=> ?_) (fun n=> ?_)
 ·have hl:(v++[l[i]]).length=i+1:=by simp[hv]
  simp only[Aqf];rw[Ag0 h,cond_true,if_pos (Aje h),Aeg h,Bb1 K (w.1 _ (List.getElem_mem h)),Z0,if_pos ⟨by rw[hl];omega,by rw[hl];omega⟩,Ag4 (by omega)]
 ·show Aqf K l (n+1) _ _=_;rw[Aqf,Ag1 (Z9 _),cond_false]
omit hK in
theorem Bat (K:Nat){x:Ax}(w:Azb x):Au1 K x=some x:=by
 have hm:=Al5
 have h1:=w.tags.2
 have h2:=w.chunks.2;unfold Au1;simp only[Zg];rw[if_pos ⟨by omega,by omega⟩,if_pos ⟨by omega,by omega⟩]
theorem Bau{w:Eb}(hw:Al4 w):Au2 K w=some w:=by
 have hm:=Al5
 have h2:=hw.q.2
 have h3:=hw.log.2;unfold Au2;rw[A3t K hw.p,Z0,A60 hK hw.l,Z0]
 refine A32 hK w.fQ (by omega) (some w) (fun n v i=>Apl K n i w.fC.Ae w.fC.Eg w.fC.C0 w.fC.E9 w.fC.C1 w.fC.Eh w.fP.Fy w.fP.Hh w.fP.Fz w.fL v w.Pr (Eb.mk (Er.mk 0 0 0 0 0 0) (Dw.mk [] [] []) [] [] []) w.fC.Ae w.fC.Eg w.fC.C0 w.fC.E9 w.fC.C1 w.fC.Eh w.fP.Fy w.fP.Hh w.fP.Fz w.fL w.fQ w.Pr) (fun n v i h hv=> ?_) (fun n=> ?_)
 ·have hl:(v++[w.fQ[i]]).length=i+1:=by simp[hv]
  simp only[Apl];rw[Ag0 h,cond_true,if_pos (Aje h),Aeg h,Bat K (hw.q.1 _ (List.getElem_mem h)),Z0,if_pos ⟨by rw[hl];omega,by rw[hl];omega⟩,Ag4 (by omega)]
 ·show Apl K (n+1) _ _ _ _ _ _ _ _ _ _ _ _ _ _ _ _ _ _ _ _ _ _ _ _ _ _=_;rw[Apl,Ag1 (Z9 _),cond_false];simp only[Zg];rw[if_pos ⟨by omega,by omega⟩]
omit hK in
theorem A0y (K:Nat){p:Dw}(w:Azl p):Asa K p=some p:=by
 unfold Asa;rw[Bdc K w.mem.2,Asj K w.st.2,Asj K w.own.2];rfl
omit hK in
theorem A7s (K:Nat){n:Ba}(w:Atm n):Auh K n=some n:=by
 unfold Auh;rw[Asj K w.chunks.2,Bbn K w.things.2,Asj K w.tags.2];rfl
theorem A0i{l:List Ba}(w:Agf l):Ars K l=some l:=by
 have hm:=Al5
 have h2:=w.2;unfold Ars;refine A32 hK l (Aej w) (some l) (fun n v i=>Anl K l n v (l.length:Int) i) (fun n v i h hv=> ?_) (fun n=> ?_)
 ·have hl:(v++[l[i]]).length=i+1:=by simp[hv]
  simp only[Anl];rw[Ag0 h,cond_true,if_pos (Aje h),Aeg h,A7s K (w.1 _ (List.getElem_mem h)),Z0,if_pos ⟨by rw[hl];omega,by rw[hl];omega⟩,Ag4 (by omega)]
 ·show Anl K l (n+1) _ _ _=_;rw[Anl,Ag1 (Z9 _),cond_false]
omit hK in
theorem A61 (K:Nat){x:Ax}(w:Azb x):Atj K x=some x:=by
 unfold Atj;rw[Asj K w.tags.2,Asj K w.chunks.2];rfl
theorem Bb2{α:Type}(v:List α)(d x:α):(v++[d]).set (v.length:Int).toNat x=v++[x]:=by
 rw[Int.toNat_natCast,List.set_append_right _ _ (Z9 _)];simp
theorem A0j{w:Eb}(hw:Al4 w):Aqd K w=some w:=by
 have hm:=Al5
 have h2:=hw.q.2;unfold Aqd;rw[A0y K hw.p,Z0,A0i hK hw.l,Z0,Asj K hw.log.2,Z0];refine A32 hK w.fQ (by omega) (some w) (fun n v i=>Anm K n w.fQ (w.fQ.length:Int) i (Eb.mk w.fC w.fP w.fL v w.Pr) (Eb.mk (Er.mk 0 0 0 0 0 0) (Dw.mk [] [] []) [] [] [])) (fun n v i h hv=> ?_) (fun n=> ?_)
 ·simp only[Anm];rw[Ag0 h,cond_true,if_pos (Aje h),Aeg h,A61 K (hw.q.1 _ (List.getElem_mem h)),Z0,if_pos ⟨by omega,by omega⟩,Ag4 (by omega),Bb2 hK]
 ·show Anm K (n+1) _ _ _ _ _=_;rw[Anm,Ag1 (Z9 _),cond_false]
end
def Bez (w:Eb)(h:Ct):Int:=((Ape w.fL w.fL.length (Aqj w.fL h)).length:Int)
theorem Bdw{l:List Ba}(hl:l.length≤140737488355327)(h:Ct):wfi (Aqj l h):=by
 by_cases h0:Aqj l h<0
 ·unfold Aqj at *;split at h0
  ·rename_i h1;rw[if_pos h1]at *;obtain⟨⟨a,b⟩,_⟩:=h1;exact⟨by omega,by omega⟩
  ·rename_i h1;rw[if_neg h1];exact⟨by omega,by omega⟩
 ·have:=A3g h0;exact⟨by omega,by omega⟩
section
variable {K:Nat} (hK:281474976710656≤K)
include hK
theorem Bhb (w:Eb)(hw:Agf w.fL)(h:Ct):Ats K w h=some (Bez w h):=by
 have hl:=Aej hw;unfold Ats Ayn;rw[Azc K hl,Z0,A09 hK hw _ (Bdw hl h)];rfl
theorem Bhc (w:Eb)(hw:Agf w.fL)(h:Ct):Awi K w h=some (Bez w h):=by
 have hl:=Aej hw;unfold Awi Ayp;rw[A11 K hl,Z0,A1a hK hw];rfl
def Bun (code Fe:Int)(b:List Int):Fh:=Fh.mk code (Ct.mk 0 0) (Fg.mk (Ct.mk 0 0) 0 0) b Fe 0 0
end
section
variable {β:Type} [Inhabited β]
end
section
variable {K:Nat} (hK:281474976710656≤K)
include hK
end
section
variable {K:Nat} (hK:281474976710656≤K)
include hK
end
theorem A33{β:Type}(f:β->Nat): ∀(l:List β) (i:Nat) (h:i<l.length) (x:β),((l.set i x).map f).sum+f l[i]=(l.map f).sum+f x
 |[],i,h,x=>by simp at h
 |y::l,0,h,x=>by simp;omega
 |y::l,i+1,h,x=>by
  have:=A33 f l i (by simpa using h) x
  simp only[List.set_cons_succ,Z8,List.sum_cons,List.getElem_cons_succ]at this ⊢;omega
theorem Axy{l:List Ba}(hl:Agf l)(i:Nat){x:Ba}(hx:Atm x):Agf (l.set i x):=
 ⟨fun y hy=>(Z54 hy).elim (hl.1 y) (fun e=>e ▸ hx),by rw[Z49];exact hl.2⟩
def A7t (p:Dw)(k:Int):Dw:=if(0≤k∧k<(p.Hh.length:Int)∧k<(p.Fz.length:Int))∧gt p.Hh k=1 then Dw.mk p.Fy (p.Hh.set k.toNat 2) (p.Fz.set k.toNat (-1))else p
theorem Bav{p:Dw}(hp:Azl p)(k:Int):Azl (A7t p k)∧A1e (A7t p k)=A1e p:=by
 unfold A7t;split
 ·refine⟨⟨hp.mem,⟨fun x hx=> ?_,by rw[Z49];exact hp.st.2⟩,⟨fun x hx=> ?_,by rw[Z49];exact hp.own.2⟩⟩,by simp[A1e]⟩
  ·rcases Z54 hx with h|h
   ·exact hp.st.1 x h
   ·subst h;exact⟨by omega,by omega⟩
  ·rcases Z54 hx with h|h
   ·exact hp.own.1 x h
   ·subst h;exact⟨by omega,by omega⟩
 ·exact⟨hp,rfl⟩
theorem Bdx (K:Nat){p:Dw}(hp:Azl p)(k:Int):Axc K p k=some (A7t p k):=by
 have h1:=hp.st.2;unfold Axc Arl A7t;rw[A3t K hp,Z0,Axr K (by omega),Z0]
 by_cases hs:0≤k∧k<(p.Hh.length:Int)
 ·rw[decide_eq_true hs,cond_true]
  by_cases ho:k<(p.Fz.length:Int)
  ·rw[decide_eq_true ho,cond_true,if_pos hs,if_pos hs,if_pos ⟨hs.1,ho⟩]
   by_cases h:gt p.Hh k=1
   ·rw[if_pos ⟨⟨hs.1,hs.2,ho⟩,h⟩,h];rfl
   ·rw[if_neg (show ¬((0≤k∧k<(p.Hh.length:Int)∧k<(p.Fz.length:Int))∧gt p.Hh k=1) from fun x=>h x.2),Aqi h];rfl
  ·rw[decide_eq_false ho,if_neg (show ¬((0≤k∧k<(p.Hh.length:Int)∧k<(p.Fz.length:Int))∧gt p.Hh k=1) from fun x=>ho x.1.2.2)];rfl
 ·rw[decide_eq_false hs,if_neg (show ¬((0≤k∧k<(p.Hh.length:Int)∧k<(p.Fz.length:Int))∧gt p.Hh k=1) from fun x=>hs ⟨x.1.1,x.1.2.1⟩)];rfl
theorem Bdy (K:Nat){p:Dw}(hp:Azl p)(k:Int):Axe K p k=some (A7t p k):=by
 have h1:=hp.st.2
 have h2:=hp.own.2;unfold Axe As4 A7t
 have e:Aob .i64 (Aaf (p.Hh.length:Int) (p.Fz.length:Int)) 1=Aaf (p.Hh.length:Int) (p.Fz.length:Int) - 1:=by
  unfold Aob Aaf;split<;>rw[Ahs (by omega) (by omega)]
 rw[A0y K hp,Z0,Atl,Z0,e]
 by_cases hs:0≤k∧k<(p.Hh.length:Int)∧k<(p.Fz.length:Int)
 ·rw[Ayc.2 (by unfold Aaf;split<;>omega),cond_true,if_pos ⟨hs.1,hs.2.1⟩,if_pos ⟨hs.1,hs.2.1⟩,if_pos ⟨hs.1,hs.2.2⟩]
  by_cases h:gt p.Hh k=1
  ·rw[if_pos ⟨hs,h⟩,h];rfl
  ·rw[if_neg (show ¬((0≤k∧k<(p.Hh.length:Int)∧k<(p.Fz.length:Int))∧gt p.Hh k=1) from fun x=>h x.2),Aqi h];rfl
 ·rw[Bp3.2 (by unfold Aaf;split<;>omega),if_neg (show ¬((0≤k∧k<(p.Hh.length:Int)∧k<(p.Fz.length:Int))∧gt p.Hh k=1) from fun x=>hs x.1)];rfl
def A1f (p:Dw)(l:List Int):Dw:=l.foldl A7t p
theorem A75{p:Dw}(hp:Azl p)(l:List Int):Azl (A1f p l)∧A1e (A1f p l)=A1e p:=by
 unfold A1f
 induction l generalizing p with
 |nil=>exact⟨hp,rfl⟩
 |cons x l ih=>
  obtain⟨h1,h2⟩:=Bav hp x;obtain⟨h3,h4⟩:=ih h1;exact⟨h3,h4.trans h2⟩
theorem Ayg{α σ β:Type}{K:Nat}(hK:281474976710656≤K)(l:List α)(hl:l.length≤140737488355327)(f:σ->α->σ)(s0:σ)(I:σ->Prop)(hI:I s0)(hf: ∀s x,I s->I (f s x))(fin:Option β)(L:Nat->σ->Int->Option β)
  (hs: ∀n s (i:Nat) (h:i<l.length),I s->L (n+1) s (i:Int)=L n (f s l[i]) ((i+1:Nat):Int))
  (he: ∀n,L (n+1) (l.foldl f s0) (l.length:Int)=fin):L K s0 0=fin:=by
 have key: ∀(n i:Nat) (s:σ),I s->i≤l.length->l.length - i<n->(l.drop i).foldl f s=l.foldl f s0->L n s (i:Int)=fin:=by
  intro n
  induction n with
  |zero=>intro i s _ _ h;omega
  |succ n ih=>
   intro i s hIs hi hn hd;rcases F9 i l.length with h|h
   ·rw[hs n s i h hIs];refine ih (i+1) _ (hf _ _ hIs) h (by omega) ?_
    rw[Z47 h,List.foldl_cons]at hd;exact hd
   ·obtain rfl:i=l.length:=by omega
    rw[List.drop_length]at hd;simp only[List.foldl_nil]at hd;rw[hd];exact he n
 exact key K 0 s0 hI (Z21 _) (by omega) rfl
def Aqm (n:Ba)(slot:Int):Ax:=Ax.mk slot n.Bt n.Dg n.Ae 0
theorem A17 (K:Nat){n:Ba}(hn:Atm n)(s:Int):Ark K n s=some (Aqm n s):=by
 have hm:=Al5
 have h1:=hn.tags.2
 have h2:=hn.chunks.2;unfold Ark;simp only[Zg];rw[if_pos ⟨by omega,by omega⟩,if_pos ⟨by omega,by omega⟩];rfl
theorem A18 (K:Nat){n:Ba}(hn:Atm n)(s:Int):Aru K n s=some (Aqm n s):=by
 unfold Aru;rw[Asj K hn.tags.2,Asj K hn.chunks.2];rfl
theorem Baw:wfi 0:=⟨by decide,by decide⟩
theorem A76:A0c []:=⟨(fun x hx=>by cases hx),(by simp)⟩
theorem Bb3:A10 []:=⟨(fun x hx=>by cases hx),(by simp)⟩
theorem Bdz{n:Ba}(hn:Atm n){s:Int}(hs:wfi s):Azb (Aqm n s):=⟨hs,hn.first,hn.tags,hn.chunks,Baw⟩
theorem Bd0{l:List Ba}{h:Ct}(h0:(Aye l h).2=0):(gt l (Aye l h).1).Hh=1:=by
 unfold Aye at *;cases e1:Avv h with
 |false=>rw[e1]at h0;simp at h0
 |true=>
  rw[e1]at h0;simp only[cond_true]at *;cases e:decide (Aqj l h<0)with
  |true=>rw[e]at h0;simp at h0
  |false=>
   rw[e]at h0;simp only[cond_false]at *;cases e2:A1b l (Aqj l h)with
   |false=>rw[e2]at h0;simp at h0
   |true=>
    simp only[cond_true]
    have h1:=of_decide_eq_false e;unfold Aqj at h1 ⊢;split at h1
    ·rename_i h2;rw[if_pos h2];exact h2.2.1
    ·omega
theorem Bmz{l:List Ba}{k:Int}(hk:0≤k∧k<(l.length:Int)):l.set k.toNat (gt l k)=l:=by
 have hlt:k.toNat<l.length:=by omega
 have e:gt l k=l[k.toNat]:=by rw[←Aeg hlt,show((k.toNat:Nat):Int)=k by omega]
 rw[e];exact List.set_getElem_self hlt
section
variable {K:Nat} (hK:281474976710656≤K)
include hK
theorem Bb4 (w:Eb)(hw:Al4 w)(l:List Int)(hl:l.length≤140737488355327):Awb K w l=some (Eb.mk w.fC (A1f w.fP l) w.fL w.fQ w.Pr):=by
 unfold Awb;refine Ayg hK l (by omega) A7t w.fP Azl hw.p (fun s x h=>(Bav h x).1) _ (fun n s i=>Apy K l n i w.fC.Ae w.fC.Eg w.fC.C0 w.fC.E9 w.fC.C1 w.fC.Eh s.Fy s.Hh s.Fz w.fL w.fQ w.Pr) (fun n s i h hs=> ?_) (fun n=> ?_)
 ·simp only[Apy];rw[Ag0 h,cond_true,if_pos (Aje h),Aeg h,show Dw.mk s.Fy s.Hh s.Fz=s from rfl,Bdx K hs,Z0,Ag4 (by omega)]
 ·show Apy K l (n+1) _ _ _ _ _ _ _ _ _ _ _ _ _=_;rw[Apy,Ag1 (Z9 _),cond_false];rfl
theorem Bb5 (w:Eb)(hw:Azl w.fP){k:Int}(hk:0≤k∧k<(w.fL.length:Int))(hl:(gt w.fL k).Ae.length≤140737488355327):Ar0 K w k=some (Eb.mk w.fC (A1f w.fP (gt w.fL k).Ae) w.fL w.fQ w.Pr):=by
 unfold Ar0;rw[if_pos hk,if_pos hk]
 refine Ayg hK (gt w.fL k).Ae (by omega) A7t w.fP Azl hw (fun s x h=>(Bav h x).1) _ (fun n s i=>Alh K n (gt w.fL k).Ae ((gt w.fL k).Ae.length:Int) i w.fC.Ae w.fC.Eg w.fC.C0 w.fC.E9 w.fC.C1 w.fC.Eh s.Fy s.Hh s.Fz w.fL.length w.fQ w.Pr w.fL k.toNat (gt w.fL k).Hh (gt w.fL k).C2 (gt w.fL k).Ly (gt w.fL k).fUp (gt w.fL k).Gq (gt w.fL k).Bt (gt w.fL k).Gr (gt w.fL k).Gs (gt w.fL k).Ae.length (gt w.fL k).Pq (gt w.fL k).Gt (gt w.fL k).Ea (gt w.fL k).Dg) (fun n s i h hs=> ?_) (fun n=> ?_)
 ·simp only[Alh];rw[Ag0 h,cond_true,if_pos (Aje h),Aeg h,show Dw.mk s.Fy s.Hh s.Fz=s from rfl,Bdy K hs,Z0,Ag4 (by omega),Int.toNat_natCast]
 ·show Alh K (n+1) _ _ _ _ _ _ _ _ _ _ _ _ _ _ _ _ _ _ _ _ _ _ _ _ _ _ _ _ _ _=_;rw[Alh,Ag1 (Z9 _),cond_false,Int.toNat_natCast]
  have:=Bmz hk;exact congrArg (fun l=>some (Eb.mk w.fC (A1f w.fP (gt w.fL k).Ae) l w.fQ w.Pr)) this
end
def Buo (n:Ba)(v:Int):Ba:=Ba.mk n.Hh n.C2 n.Ly n.fUp n.Gq n.Bt v n.Gs n.Ae n.Pq n.Gt n.Ea n.Dg
def Bup (n:Ba)(v:Int):Ba:=Ba.mk n.Hh n.C2 n.Ly n.fUp n.Gq n.Bt n.Gr v n.Ae n.Pq n.Gt n.Ea n.Dg
def Bm0 (n:Ba)(v:Int):Ba:=Ba.mk n.Hh n.C2 n.Ly n.fUp n.Gq v n.Gr n.Gs n.Ae n.Pq n.Gt n.Ea n.Dg
def Bm1 (n:Ba):Ba:=Ba.mk n.Hh n.C2 n.Ly 0 0 n.Bt 0 0 n.Ae n.Pq n.Gt n.Ea n.Dg
theorem Bax{l:List Ba}{k:Int}(hk:0≤k∧k<(l.length:Int))(x:Ba):gt (l.set k.toNat x) k=x:=by
 have hlt:k.toNat<(l.set k.toNat x).length:=by simp;omega
 have e:gt (l.set k.toNat x) ((k.toNat:Nat):Int)=x:=by rw[Aeg hlt];simp
 rwa[show((k.toNat:Nat):Int)=k by omega]at e
theorem Be0{l:List Ba}{j k:Int}(hj:0≤j)(hk:0≤k∧k<(l.length:Int))(h:j≠k)(x:Ba):gt (l.set j.toNat x) k=gt l k:=by
 have h1:k.toNat<(l.set j.toNat x).length:=by simp;omega
 have h2:k.toNat<l.length:=by omega
 have e1:gt (l.set j.toNat x) ((k.toNat:Nat):Int)=gt l ((k.toNat:Nat):Int):=by
  rw[Aeg h1,Aeg h2,List.getElem_set,if_neg (by omega)]
 rwa[show((k.toNat:Nat):Int)=k by omega]at e1
theorem Azg (K:Nat){l:List Ba}{k:Int}(hk:0≤k∧k<(l.length:Int)):Ar6 K k l=some (l.set k.toNat (Bm1 (gt l k))):=by
 unfold Ar6;rw[if_pos hk];simp only[Aql,Z49,Bax hk,B53,if_pos hk];rfl
theorem A19 (K:Nat){l:List Ba}{k:Int}(hk:0≤k∧k<(l.length:Int)):Auk K k l=some (l.set k.toNat (Bm1 (gt l k))):=Azg K hk
def A62 (l0 l:List Ba)(k nx pv:Int):List Ba:=bif plB l0 nx then l.set (Aob .i64 nx 1).toNat (Bup (gt l (Aob .i64 nx 1)) pv)else l
def A3k (l0 l:List Ba)(k nx pv:Int):List Ba:=(A62 l0 l k nx pv).set k.toNat (Bm1 (gt (A62 l0 l k nx pv) k))
theorem Bm2 (l0 l:List Ba)(k nx pv:Int):(A62 l0 l k nx pv).length=l.length:=by
 unfold A62;cases plB l0 nx<;>simp
theorem Av0 (K:Nat){l0 l:List Ba}(hl:l0.length≤140737488355327)(he:l.length=l0.length){k:Int}(hk:0≤k∧k<(l0.length:Int))(a b c d e f nx pv:Int)(g:List Int)(h i:Int)(t:List A9)(u:List Int)(hx:wfi nx):Aqr K l0 k l a b c d e f nx pv g h i t u=some (A3k l0 l k nx pv):=by
 unfold Aqr A3k A62;rw[As8 K hl hx,Z0];cases hp:plB l0 nx with
 |false=>rw[cond_false,cond_false,Azg K (by rw[he];exact hk)]
 |true=>
  have:=Ask hp;rw[cond_true,cond_true,if_pos (by rw[he];exact this)]
  simp only[Aql];rw[Azg K (by rw[Z49,he];exact hk)]
  rfl
theorem Av1 (K:Nat){l0 l:List Ba}(hl:l0.length≤140737488355327)(he:l.length=l0.length){k:Int}(hk:0≤k∧k<(l0.length:Int))(nx pv:Int)(hv:(gt l k).Gs=pv):Aqv K l0 k l (Aob .i64 nx 1)=some (A3k l0 l k nx pv):=by
 unfold Aqv A3k A62;rw[Av6 K hl,Z0];cases hp:plB l0 nx with
 |false=>rw[cond_false,cond_false,A19 K (by rw[he];exact hk)]
 |true=>
  have:=Ask hp;rw[cond_true,cond_true,if_pos (by rw[he];exact hk),if_pos (by rw[he];exact this),hv]
  simp only[Aql];rw[A19 K (by rw[Z49,he];exact hk)]
  rfl
def A3l (l:List Ba)(k:Int):List Ba:=
 bif plB l (gt l k).Gs then l.set (Aob .i64 (gt l k).Gs 1).toNat (Buo (gt l (Aob .i64 (gt l k).Gs 1)) (gt l k).Gr)
 else bif (gt l k).Gs==0&&(plB l (gt l k).fUp&&(gt l (Aob .i64 (gt l k).fUp 1)).Bt==Aoa .i64 k 1)then l.set (Aob .i64 (gt l k).fUp 1).toNat (Bm0 (gt l (Aob .i64 (gt l k).fUp 1)) (gt l k).Gr)
 else l
def Arb (l:List Ba)(k:Int):List Ba:=A3k l (A3l l k) k (gt l k).Gr (gt l k).Gs
theorem Bm3 (l:List Ba)(k:Int):(A3l l k).length=l.length:=by
 unfold A3l;cases plB l (gt l k).Gs<;>cases ((gt l k).Gs==0&&(plB l (gt l k).fUp&&(gt l (Aob .i64 (gt l k).fUp 1)).Bt==Aoa .i64 k 1))<;>simp
theorem Bhd{l:List Ba}{k:Int}(hk:0≤k∧k<(l.length:Int)):(gt (A3l l k) k).Gs=(gt l k).Gs:=by
 unfold A3l;cases hp:plB l (gt l k).Gs with
 |true=>
  have:=Ask hp;rw[cond_true]
  by_cases e:Aob .i64 (gt l k).Gs 1=k
  ·rw[e,Bax hk];rfl
  ·rw[Be0 this.1 hk e]
 |false=>
  rw[cond_false];cases hc:((gt l k).Gs==0&&(plB l (gt l k).fUp&&(gt l (Aob .i64 (gt l k).fUp 1)).Bt==Aoa .i64 k 1))with
  |false=>rfl
  |true=>
   simp only[Z4]at hc
   have:=Ask hc.2.1;rw[cond_true]
   by_cases e:Aob .i64 (gt l k).fUp 1=k
   ·rw[e,Bax hk];rfl
   ·rw[Be0 this.1 hk e]
section
variable {K:Nat} (hK:281474976710656≤K)
include hK
theorem Bb6{l:List Ba}(w:Agf l){k:Int}(hk:0≤k∧k<(l.length:Int)):Awc K l k=some (Arb l k):=by
 have hl:=Aej w
 have hn:=w.1 _ (Apk hk.1 hk.2)
 have e1:Aob .i64 (Aoa .i64 k 1) 1=k:=by unfold Aob Aoa;rw[Ahs (n:=k+1) (by omega) (by omega),Ahs (by omega) (by omega)];omega
 have hpk:plB l (Aoa .i64 k 1)=true:=by unfold plB;rw[e1];exact decide_eq_true hk
 have hwk:wfi (Aoa .i64 k 1):=Bc8 _;unfold Awc Arb;rw[A60 hK w,Z0,As8 K hl hwk,Z0,hpk,Bool.not_true,cond_false,if_pos hk,As8 K hl hn.prev,Z0];unfold A3l;cases hp:plB l (gt l k).Gs with
 |true=>
  have:=Ask hp;rw[cond_true,cond_true,if_pos this];simp only[Aql];rw[Av0 K hl (by rw[Z49]) hk _ _ _ _ _ _ _ _ _ _ _ _ _ hn.next]
  rfl
 |false=>
  rw[cond_false,cond_false];cases h0:(gt l k).Gs==0 with
  |false=>
   simp only[cond_false,Bool.false_and,Apz];rw[Av0 K hl rfl hk _ _ _ _ _ _ _ _ _ _ _ _ _ hn.next]
  |true=>
   rw[cond_true,As8 K hl hn.up,Z0];cases hu:plB l (gt l k).fUp with
   |false=>
    simp only[cond_false,Bool.false_and,Bool.and_false,Apz];rw[Av0 K hl rfl hk _ _ _ _ _ _ _ _ _ _ _ _ _ hn.next]
   |true=>
    have hui:=Ask hu;rw[cond_true,if_pos hui];simp only[Z30,Apz];cases (gt l (Aob .i64 (gt l k).fUp 1)).Bt==Aoa .i64 k 1 with
    |false=>
     simp only[cond_false];rw[Av0 K hl rfl hk _ _ _ _ _ _ _ _ _ _ _ _ _ hn.next]
    |true=>
     simp only[cond_true,if_pos hui,Aql];rw[Av0 K hl (by rw[Z49]) hk _ _ _ _ _ _ _ _ _ _ _ _ _ hn.next]
     rfl
theorem Bb7{l:List Ba}(w:Agf l){k:Int}(hk:0≤k∧k<(l.length:Int)):Awj K l k=some (Arb l k):=by
 have hl:=Aej w
 have h0p:=Bhd hk;unfold Awj Arb;rw[A0i hK w,Z0,Av4 K hl,Z0,decide_eq_true hk,Bool.not_true,cond_false,if_pos hk,if_pos hk,if_pos hk,Av6 K hl,Z0];unfold A3l at h0p ⊢;cases hp:plB l (gt l k).Gs with
 |true=>
  rw[hp]at h0p
  have:=Ask hp;rw[cond_true]at h0p ⊢;rw[cond_true,if_pos hk,if_pos this];simp only[Aql];exact Av1 K hl (by rw[Z49]) hk _ _ h0p
 |false=>
  rw[hp]at h0p;rw[cond_false]at h0p ⊢;rw[cond_false,if_pos hk];cases h0:(gt l k).Gs==0 with
  |false=>
   simp only[cond_false,Bool.false_and,Ap2];exact Av1 K hl rfl hk _ _ rfl
  |true=>
   rw[h0]at h0p;rw[cond_true,Av6 K hl,Z0];cases hu:plB l (gt l k).fUp with
   |false=>
    simp only[cond_false,Bool.false_and,Bool.and_false,Ap2];exact Av1 K hl rfl hk _ _ rfl
   |true=>
    rw[hu]at h0p
    have hui:=Ask hu;rw[cond_true,if_pos hui];simp only[Z30,Ap2]at h0p ⊢;cases hf:(gt l (Aob .i64 (gt l k).fUp 1)).Bt==Aoa .i64 k 1 with
    |false=>
     simp only[cond_false];exact Av1 K hl rfl hk _ _ rfl
    |true=>
     rw[hf]at h0p;simp only[cond_true,if_pos hui,if_pos hk,Aql]at h0p ⊢;exact Av1 K hl (by rw[Z49]) hk _ _ h0p
end
def A77 (n:Ba):Ba:=Ba.mk 2 n.C2 0 0 0 0 0 0 [] 0 0 [] []
theorem Bxy{n:Ba}(hn:Atm n):Atm (A77 n):=
 ⟨⟨by show _≤(2:Int);omega,by show(2:Int)≤_;omega⟩,hn.gen,Baw,Baw,Baw,Baw,Baw,Baw,A76,Baw,Baw,Bb3,A76⟩
theorem Bqh{n:Ba}(hn:Atm n){v:Int}(hv:wfi v):Atm (Buo n v):=⟨hn.st,hn.gen,hn.ep,hn.up,hn.upEp,hn.first,hv,hn.prev,hn.chunks,hn.cur,hn.bump,hn.things,hn.tags⟩
theorem Bqi{n:Ba}(hn:Atm n){v:Int}(hv:wfi v):Atm (Bup n v):=⟨hn.st,hn.gen,hn.ep,hn.up,hn.upEp,hn.first,hn.next,hv,hn.chunks,hn.cur,hn.bump,hn.things,hn.tags⟩
theorem Bm4{n:Ba}(hn:Atm n){v:Int}(hv:wfi v):Atm (Bm0 n v):=⟨hn.st,hn.gen,hn.ep,hn.up,hn.upEp,hv,hn.next,hn.prev,hn.chunks,hn.cur,hn.bump,hn.things,hn.tags⟩
theorem Bxz{n:Ba}(hn:Atm n):Atm (Bm1 n):=by
 have z:wfi 0:=⟨by decide,by decide⟩
 exact⟨hn.st,hn.gen,hn.ep,z,z,hn.first,z,z,hn.chunks,hn.cur,hn.bump,hn.things,hn.tags⟩
theorem A0q{l:List Ba}{k:Int}(hk:0≤k∧k<(l.length:Int)){x:Ba}(h:Aqn x=Aqn (gt l k)):((l.set k.toNat x).map Aqn).sum=(l.map Aqn).sum:=by
 have hlt:k.toNat<l.length:=by omega
 have:=A33 Aqn l k.toNat hlt x
 have e:l[k.toNat]=gt l k:=by rw[←Aeg hlt,show((k.toNat:Nat):Int)=k by omega]
 rw[e]at this;omega
theorem Bx0{l:List Ba}(w:Agf l){k:Int}(hk:0≤k∧k<(l.length:Int)):Agf (A3l l k)∧((A3l l k).map Aqn).sum=(l.map Aqn).sum:=by
 have hn:=w.1 _ (Apk hk.1 hk.2);unfold A3l;cases hp:plB l (gt l k).Gs with
 |true=>
  have hi:=Ask hp;exact⟨Axy w _ (Bqh (w.1 _ (Apk hi.1 hi.2)) hn.next),A0q hi rfl⟩
 |false=>
  rw[cond_false];cases hc:((gt l k).Gs==0&&(plB l (gt l k).fUp&&(gt l (Aob .i64 (gt l k).fUp 1)).Bt==Aoa .i64 k 1))with
  |false=>exact⟨w,rfl⟩
  |true=>
   simp only[Z4]at hc
   have hi:=Ask hc.2.1;exact⟨Axy w _ (Bm4 (w.1 _ (Apk hi.1 hi.2)) hn.next),A0q hi rfl⟩
theorem Bx1{l0 l:List Ba}(w:Agf l)(he:l.length=l0.length)(k nx:Int){pv:Int}(hv:wfi pv):Agf (A62 l0 l k nx pv)∧((A62 l0 l k nx pv).map Aqn).sum=(l.map Aqn).sum:=by
 unfold A62;cases hp:plB l0 nx with
 |true=>
  have hi:=Ask hp;rw[←he]at hi;exact⟨Axy w _ (Bqi (w.1 _ (Apk hi.1 hi.2)) hv),A0q hi rfl⟩
 |false=>exact⟨w,rfl⟩
theorem A3m{l:List Ba}(w:Agf l){k:Int}(hk:0≤k∧k<(l.length:Int)):Agf (Arb l k)∧((Arb l k).map Aqn).sum=(l.map Aqn).sum∧(Arb l k).length=l.length:=by
 have hn:=w.1 _ (Apk hk.1 hk.2);obtain⟨h1,h2⟩:=Bx0 w hk
 have h3:=Bm3 l k;obtain⟨h4,h5⟩:=Bx1 h1 h3 k (gt l k).Gr hn.prev
 have h6:=Bm2 l (A3l l k) k (gt l k).Gr (gt l k).Gs
 have hk':0≤k∧k<((A62 l (A3l l k) k (gt l k).Gr (gt l k).Gs).length:Int):=by rw[h6,h3];exact hk
 unfold Arb A3k;exact⟨Axy h4 _ (Bxz (h4.1 _ (Apk hk'.1 hk'.2))),(A0q (x:=Bm1 (gt (A62 l (A3l l k) k (gt l k).Gr (gt l k).Gs) k)) hk' rfl).trans (h5.trans h2),by rw[Z49,h6,h3]⟩
def A3n (w:Eb)(k:Int):Eb:=Eb.mk w.fC (A1f w.fP (gt w.fL k).Ae) ((Arb w.fL k).set k.toNat (A77 (gt (Arb w.fL k) k))) (w.fQ++[Aqm (gt w.fL k) (Aoa .i64 k 1)]) w.Pr
theorem A63 (w:Eb):w.fQ.length≤cells w:=by
 have hq:w.fQ.length≤(w.fQ.map Axx).sum:=by
  generalize w.fQ=q
  induction q with
  |nil=>simp
  |cons x q ih=>
   have:3≤Axx x:=by unfold Axx;omega
   simp only[Z8,List.sum_cons,Y9];omega
 have hq2:(w.fQ.map Axx).sum≤cells w:=by unfold cells;omega
 omega
theorem Bhe{w:Eb}(hw:Al4 w)(hc:cells w≤140737488355){k:Int}(hk:0≤k∧k<(w.fL.length:Int)):Al4 (A3n w k)∧cells (A3n w k)≤2*cells w+30:=by
 have hn:=hw.l.1 _ (Apk hk.1 hk.2)
 have hq:=A63 w;obtain⟨u1,u2,u3⟩:=A3m hw.l hk
 have hk':0≤k∧k<((Arb w.fL k).length:Int):=by rw[u3];exact hk
 constructor
 ·refine⟨hw.c,(A75 hw.p _).1,Axy u1 _ (Bxy (u1.1 _ (Apk hk'.1 hk'.2))),⟨fun x hx=> ?_,?_⟩,hw.log⟩
  ·rcases Gy.1 hx with hx|hx
   ·exact hw.q.1 x hx
   ·simp only[Qo]at hx;subst hx;exact Bdz hn (Bc8 _)
  ·show(w.fQ++[Aqm (gt w.fL k) (Aoa .i64 k 1)]).length*72≤_;simp;omega
 ·have hlt:k.toNat<w.fL.length:=by omega
  have hlt2:k.toNat<(Arb w.fL k).length:=by omega
  have h1:=A33 Aqn (Arb w.fL k) k.toNat hlt2 (A77 (gt (Arb w.fL k) k))
  have h2:=A33 Aqn w.fL k.toNat hlt (A77 (gt w.fL k))
  have e:w.fL[k.toNat]=gt w.fL k:=by rw[←Aeg hlt,show((k.toNat:Nat):Int)=k by omega]
  rw[e]at h2
  have e2: ∀n,Aqn (A77 n)=10:=fun n=>by simp[Aqn,A77]
  have e3:Aqn (gt w.fL k)=10+(gt w.fL k).Ae.length+3*(gt w.fL k).Ea.length+(gt w.fL k).Dg.length:=rfl
  have e4:Axx (Aqm (gt w.fL k) (Aoa .i64 k 1))=3+(gt w.fL k).Dg.length+(gt w.fL k).Ae.length:=rfl
  have e5:=(A75 hw.p (gt w.fL k).Ae).2;rw[e2]at h1 h2
  have hcw:cells w=A1e w.fP+(w.fL.map Aqn).sum+(w.fQ.map Axx).sum+w.Pr.length:=rfl;unfold cells A3n;simp only[Gg,Z8,Gz,List.sum_append,List.sum_cons,List.sum_nil,e5,e4];omega
section
variable {K:Nat} (hK:281474976710656≤K)
include hK
theorem Bd1 (w:Eb)(hw:Al4 w)(hQ:w.fQ.length≤140737488355){k:Int}(hk:0≤k∧k<(w.fL.length:Int)):Aua K w k=some (A3n w k):=by
 have hm:=Al5
 have hn:=hw.l.1 _ (Apk hk.1 hk.2)
 have hk':0≤k∧k<((Arb w.fL k).length:Int):=by rw[(A3m hw.l hk).2.2];exact hk
 unfold Aua Azq;rw[if_pos hk,A17 K hn,Z0,if_pos hk,Bb4 hK w hw _ (A07 hK hn.chunks),Z0];simp only;rw[Bb6 hK hw.l hk];simp only[Z0,if_pos hk'];rw[if_pos ⟨by simp;omega,by simp;omega⟩]
 rfl
theorem Bd2 (w:Eb)(hw:Al4 w)(hQ:w.fQ.length≤140737488355){k:Int}(hk:0≤k∧k<(w.fL.length:Int))(hst:(gt w.fL k).Hh=1):Axf K w k=some (A3n w k):=by
 have hm:=Al5
 have hn:=hw.l.1 _ (Apk hk.1 hk.2)
 have hk':0≤k∧k<((Arb w.fL k).length:Int):=by rw[(A3m hw.l hk).2.2];exact hk
 unfold Axf Az5;rw[A0j hK hw,Z0,Av4 K (Aej hw.l),Z0,decide_eq_true hk,cond_true,if_pos hk,hst];simp only[bne_self_eq_false,cond_false]
 rw[if_pos hk,A18 K hn,Z0,if_pos ⟨by omega,by omega⟩,Bb2 hK,Bb5 hK (Eb.mk w.fC w.fP w.fL (w.fQ++[Aqm (gt w.fL k) (Aoa .i64 k 1)]) w.Pr) hw.p hk (A07 hK hn.chunks),Z0]
 simp only;rw[Bb7 hK hw.l hk];simp only[Z0,if_pos hk'];rfl
theorem Bay (w:Eb)(hw:Al4 w)(hc:cells w≤140737488355)(h:Ct): ∃w' code Fe,Au9 K w h=some (w',Bun code Fe [])∧Avk K w h=some (w',Bun code Fe [])∧Al4 w'∧cells w'≤2*cells w+30:=by
 have hself:Al4 w∧cells w≤2*cells w+30:=⟨hw,by omega⟩
 have hQ:w.fQ.length≤140737488355:=To (A63 w) hc;unfold Au9 Avk Arv Axm;rw[Bau hK hw,Bas hK w hw,Bar hK w hw,A0j hK hw,Bhb hK w hw.l,Bhc hK w hw.l,A7m hK hw.l,A7n hK hw.l];simp only[Z0,Ac2];cases A6z w with
 |false=>exact⟨w,1,0,rfl,rfl,hself⟩
 |true=>
 simp only[cond_true]
 by_cases h0:(Aye w.fL h).2=0
 ·have hi:=Bmr h0;rw[Bd1 hK w hw hQ hi,Bd2 hK w hw hQ hi (Bd0 h0),h0];simp only[beq_self_eq_true,bne_self_eq_false,cond_true,cond_false,Z0];exact⟨A3n w (Aye w.fL h).1,0,Bez w h,rfl,rfl,Bhe hw hc hi⟩
 ·rw[Aqi h0,As7 h0];exact⟨w,(Aye w.fL h).2,Bez w h,rfl,rfl,hself⟩
end
def W64 (x:Int):Int:=IntKind.i64.wrap x
theorem Bx2 (a b:Int):Aoa .i64 (W64 a) b=W64 (a+b):=by unfold Aoa W64;rw[IntKind.wrap_i64,IntKind.wrap_i64,IntKind.wrap_i64];omega
theorem Bx3 (a b:Int):Aoa .i64 a (W64 b)=W64 (a+b):=by unfold Aoa W64;rw[IntKind.wrap_i64,IntKind.wrap_i64,IntKind.wrap_i64];omega
def Bm5 (c:Er)(x:Ax)(v:Int)(i:Nat):Int:=Aoa .i64 v (bif ((i:Int)==0)then A6h (Aob .i64 c.Eg x.Gu) c.C1 else A6h c.Eg c.C1)
def A64 (c:Er)(x:Ax):Int:=
 (List.range x.Ae.length).foldl (Bm5 c x) (Aoa .i64 (x.Dg.length:Int) 1)
section
variable {K:Nat} (hK:281474976710656≤K)
include hK
omit hK in
theorem Baz (K:Nat)(a b:Int):Avc K a b=some (A6h a b):=Aza K a b
theorem A0z (c:Er)(x:Ax)(hl:x.Ae.length≤140737488355327):Ar7 K c x=some (A64 c x):=by
 unfold Ar7 A64;refine Ayg hK (List.range x.Ae.length) (by simp;omega) (Bm5 c x) (Aoa .i64 (x.Dg.length:Int) 1) (fun _=>True) trivial (fun _ _ _=>trivial) _ (fun n s i=>Aoy K c n s i x.A5 x.Bt x.Dg x.Ae x.Gu) (fun n s i h _=> ?_) (fun n=> ?_)
 ·rw[List.length_range]at h;simp only[Aoy,Asp,Aub,Aza,Z0,List.getElem_range];rw[Ag0 h,cond_true,Ag4 (by omega)]
  unfold Bm5;cases ((i:Int)==0)<;>rfl
 ·simp only[Aoy,List.length_range];rw[Ag1 (Z9 _),cond_false]
theorem A00 (c:Er)(x:Ax)(hl:x.Ae.length≤140737488355327):Asb K c x=some (A64 c x):=by
 unfold Asb A64;refine Ayg hK (List.range x.Ae.length) (by simp;omega) (Bm5 c x) (Aoa .i64 (x.Dg.length:Int) 1) (fun _=>True) trivial (fun _ _ _=>trivial) _ (fun n s i=>Apd K c n s (x.Ae.length:Int) i x.A5 x.Bt x.Dg x.Ae x.Gu) (fun n s i h _=> ?_) (fun n=> ?_)
 ·rw[List.length_range]at h;simp only[Apd,Ass,Aul,Baz,Z0,List.getElem_range];rw[Ag0 h,cond_true,Ag4 (by omega)]
  unfold Bm5;cases ((i:Int)==0)<;>rfl
 ·simp only[Apd,List.length_range];rw[Ag1 (Z9 _),cond_false]
end
def Bb8 (w:Eb)(k:Int):Int:=A64 w.fC (Aqm (gt w.fL k) 0)
def Axz (w:Eb)(k:Int):List Int:=Ag5 w.fL (gt w.fL k).Bt
def Ayh (w:Eb)(D:List Int->List Int->Int×List Int)(s:Int×List Int)(k:Int):Int×List Int:=
 if k∈s.2 then s else(s.1+(1+Bb8 w k+(D (Axz w k) (s.2++[k])).1),(D (Axz w k) (s.2++[k])).2)
def A0k (w:Eb):Nat->List Int->List Int->Int×List Int
 |0,ks,met=>ks.foldl (Ayh w fun _ m=>(0,m)) (0,met)
 |u+1,ks,met=>ks.foldl (Ayh w (A0k w u)) (0,met)
def Aw8 (w:Eb)(met:List Int):Prop:=met.Nodup∧ ∀x∈met,0≤x∧x<(w.fL.length:Int)
theorem Be1{w:Eb}{met:List Int}(h:Aw8 w met):met.length≤w.fL.length:=by
 have:=Aze (l:=(List.range w.fL.length).map (fun i:Nat=>(i:Int))) h.1 (fun x hx=>by
  have:=h.2 x hx;rw[Eo];exact⟨x.toNat,by simp;omega,by omega⟩)
 simpa using this
theorem A34{w:Eb}{met:List Int}(h:Aw8 w met){k:Int}(hk:0≤k∧k<(w.fL.length:Int))(hn:k ∉ met):Aw8 w (met++[k]):=by
 refine⟨List.nodup_append.2 ⟨h.1,by simp,fun a ha b hb e=>hn (by rw[Qo]at hb;rw[←hb,←e];exact ha)⟩,fun x hx=> ?_⟩
 rcases Gy.1 hx with hx|hx
 ·exact h.2 x hx
 ·rw[Qo.1 hx];exact hk
theorem A2a (w:Eb)(k:Int): ∀x∈Axz w k,0≤x∧x<(w.fL.length:Int):=fun x hx=>A12 _ _ x hx
theorem Bhf (w:Eb)(k:Int):(Axz w k).length≤w.fL.length:=Axi _ _
def DOk (w:Eb)(D:List Int->List Int->Int×List Int):Prop:= ∀ks met,(∀x∈ks,0≤x∧x<(w.fL.length:Int))->Aw8 w met->Aw8 w (D ks met).2∧met.length≤(D ks met).2.length
theorem A65{w:Eb}{D:List Int->List Int->Int×List Int}(hD:DOk w D){s:Int×List Int}(hs:Aw8 w s.2){k:Int}(hk:0≤k∧k<(w.fL.length:Int)):Aw8 w (Ayh w D s k).2∧s.2.length≤(Ayh w D s k).2.length:=by
 unfold Ayh
 by_cases h:k∈s.2
 ·rw[if_pos h];exact⟨hs,Z9 _⟩
 ·rw[if_neg h];obtain⟨a,b⟩:=hD (Axz w k) (s.2++[k]) (A2a w k) (A34 hs hk h);rw[Ln,List.length_singleton]at b;exact⟨a,by simp only;omega⟩
theorem Bm6{w:Eb}{D:List Int->List Int->Int×List Int}(hD:DOk w D): ∀(ks:List Int) (s:Int×List Int),(∀x∈ks,0≤x∧x<(w.fL.length:Int))->Aw8 w s.2->Aw8 w (ks.foldl (Ayh w D) s).2∧s.2.length≤(ks.foldl (Ayh w D) s).2.length:=by
 intro ks
 induction ks with
 |nil=>intro s _ h;exact⟨h,Z9 _⟩
 |cons k ks ih=>
  intro s h hs;obtain⟨a,b⟩:=A65 hD hs (h k (by simp))
  obtain⟨c,d⟩:=ih _ (fun x hx=>h x (by simp[hx])) a
  rw[List.foldl_cons];exact⟨c,by omega⟩
def Bd3 (w:Eb):Nat->List Int->List Int->Int×List Int
 |0=>fun _ m=>(0,m)
 |u+1=>A0k w u
theorem A2b (w:Eb)(u:Nat)(ks met:List Int):A0k w u ks met=ks.foldl (Ayh w (Bd3 w u)) (0,met):=by cases u<;>rfl
theorem Be2 (w:Eb): ∀u,DOk w (Bd3 w u):=by
 intro u
 induction u with
 |zero=>exact fun _ _ _ h=>⟨h,Z9 _⟩
 |succ u ih=>
  intro ks met h hm
  show Aw8 w (A0k w u ks met).2∧_≤(A0k w u ks met).2.length;rw[A2b];exact Bm6 ih ks (0,met) h hm
def mof (w:Eb)(met:List Int):List Bool:=(List.range w.fL.length).map (fun i:Nat=>met.contains (i:Int))
theorem Ayi (w:Eb)(met:List Int):(mof w met).length=w.fL.length:=by simp[mof]
theorem Bx4{w:Eb}{met:List Int}{k:Int}(h:0≤k∧k<(w.fL.length:Int)):gt (mof w met) k=met.contains k:=by
 obtain⟨i,rfl⟩: ∃i:Nat,k=i:=⟨k.toNat,by omega⟩
 rw[Aeg (by rw[Ayi];omega)]
 simp[mof]
theorem Bqj{w:Eb}{met:List Int}{k:Int}(h:0≤k∧k<(w.fL.length:Int)):(mof w met).set k.toNat true=mof w (met++[k]):=by
 refine List.ext_getElem (by rw[Z49,Ayi,Ayi]) fun i h1 h2=> ?_
 rw[List.getElem_set]
 by_cases e:k.toNat=i
 ·rw[if_pos e];simp only[mof,List.getElem_map,List.getElem_range];rw[List.contains_iff_mem.2 (by rw[Gy];right;rw[Qo];omega)]
 ·rw[if_neg e];simp only[mof,List.getElem_map,List.getElem_range];rw[Bool.eq_iff_iff,List.contains_iff_mem,List.contains_iff_mem,Gy,Qo];exact⟨.inl,fun q=>q.resolve_right (by omega)⟩
theorem Bqk (w:Eb):List.replicate w.fL.length false=mof w []:=by
 refine List.ext_getElem (by simp[mof]) fun i h1 h2=> ?_
 simp[mof]
theorem Bb9{α σ β:Type}{K:Nat}(hK:281474976710656≤K)(l:List α)(hl:l.length≤140737488355328)(f:σ->α->σ)(s0:σ)(I:σ->Prop)(hI:I s0)(hf: ∀s x,x∈l->I s->I (f s x))(fin:Option β)(L:Nat->σ->Int->Option β)
  (hs: ∀n s (i:Nat) (h:i<l.length),I s->L (n+1) s (i:Int)=L n (f s l[i]) ((i+1:Nat):Int))
  (he: ∀n,L (n+1) (l.foldl f s0) (l.length:Int)=fin):L K s0 0=fin:=by
 have key: ∀(n i:Nat) (s:σ),I s->i≤l.length->l.length - i<n->(l.drop i).foldl f s=l.foldl f s0->L n s (i:Int)=fin:=by
  intro n
  induction n with
  |zero=>intro i s _ _ h;omega
  |succ n ih=>
   intro i s hIs hi hn hd;rcases F9 i l.length with h|h
   ·rw[hs n s i h hIs];refine ih (i+1) _ (hf _ _ (List.getElem_mem h) hIs) h (by omega) ?_
    rw[Z47 h,List.foldl_cons]at hd;exact hd
   ·obtain rfl:i=l.length:=by omega
    rw[List.drop_length]at hd;simp only[List.foldl_nil]at hd;rw[hd];exact he n
 exact key K 0 s0 hI (Z21 _) (by omega) rfl
theorem Buq{w:Eb}{met met0:List Int}{u:Nat}(h:Aw8 w met)(h0:met0.length≤met.length)(hu:w.fL.length≤met0.length+u){k:Int}(hk:0≤k∧k<(w.fL.length:Int))(hn:k ∉ met): ∃v,u=v+1∧w.fL.length≤(met++[k]).length+v:=by
 have:=Be1 (A34 h hk hn);rw[Ln,List.length_singleton]at this ⊢;exact⟨u - 1,by omega,by omega⟩
theorem A3o{w:Eb}(hw:Al4 w)(k:Int):(Axz w k).length≤140737488355327:=by
 have:=Bhf w k
 have:=hw.l.2;omega
theorem A78 (K:Nat){w:Eb}(hw:Al4 w){k:Int}(hk:0≤k∧k<(w.fL.length:Int)):Ark K (gt w.fL k) 0=some (Aqm (gt w.fL k) 0)∧Aru K (gt w.fL k) 0=some (Aqm (gt w.fL k) 0):=
 ⟨A17 K (hw.l.1 _ (Apk hk.1 hk.2)) 0,A18 K (hw.l.1 _ (Apk hk.1 hk.2)) 0⟩
theorem Bhg (w:Eb)(hw:Al4 w): ∀(u K:Nat) (ks met:List Int),281474976710656+u<K->ks.length≤140737488355327->(∀x∈ks,0≤x∧x<(w.fL.length:Int))->Aw8 w met->w.fL.length≤met.length+u→
  Ak7 K w ks (mof w met)=some (W64 (A0k w u ks met).1,mof w (A0k w u ks met).2):=by
 intro u
 induction u using Nat.strongRecOn with
 |_ u ih=>
  intro K ks met hKu hlen hin hm hu;obtain⟨J,rfl⟩: ∃J,K=J+1:=⟨K - 1,by omega⟩
  have hJ:281474976710656≤J:=by omega
  rw[Ak7,Avl,A2b]
  refine Bb9 (K:=J) hJ ks (by omega) (Ayh w (Bd3 w u)) (0,met) (fun s=>Aw8 w s.2∧met.length≤s.2.length) ⟨hm,Z9 _⟩ (fun s x hx hs=> ?_) _ (fun n s i=>Amb J (Ak7 J) ks n (mof w s.2) (W64 s.1) (ks.length:Int) i w.fC.Ae w.fC.Eg w.fC.C0 w.fC.E9 w.fC.C1 w.fC.Eh w.fP.Fy w.fP.Hh w.fP.Fz w.fL w.fQ w.Pr) (fun n s i h hs=> ?_) (fun n=> ?_)
  ·obtain⟨a,b⟩:=A65 (Be2 w u) hs.1 (hin x hx);exact⟨a,by omega⟩
  ·have hk:=hin _ (List.getElem_mem h);simp only[Amb,Ara];rw[Ag0 h,cond_true,if_pos (Aje h),Aeg h,Ayi,if_pos hk,Bx4 hk,Ag4 (by omega)]
   unfold Ayh
   by_cases hc:ks[i]∈s.2
   ·rw[if_pos hc,List.contains_iff_mem.2 hc,cond_true]
   ·obtain⟨v,rfl,hv⟩:=Buq hs.1 hs.2 hu hk hc
    have hcf:s.2.contains ks[i]=false:=by rw[List.contains_eq_mem];exact decide_eq_false hc
    rw[if_neg hc,hcf,cond_false,if_pos hk,if_pos hk,(A78 J hw hk).2,Bqj hk];simp only[Z0];rw[A00 hJ _ _ (by have:=(hw.l.1 _ (Apk hk.1 hk.2)).chunks.2;simp only[Aqm];omega)]
    simp only[Z0];rw[if_pos hk,A0g hJ hw.l];simp only[Z0]
    have:=ih v (by omega) J (Axz w ks[i]) (s.2++[ks[i]]) (by omega) (A3o hw _) (A2a w _) (A34 hs.1 hk hc) hv
    unfold Axz at this;rw[this];simp only[Z0];rw[if_pos (by rw[Ayi,Ayi])]
    have e:Aoa .i64 (W64 s.1) (Aoa .i64 (Aoa .i64 1 (A64 w.fC (Aqm (gt w.fL ks[i]) 0))) (W64 (A0k w v (Ag5 w.fL (gt w.fL ks[i]).Bt) (s.2++[ks[i]])).1))=W64 (s.1+(1+Bb8 w ks[i]+(Bd3 w (v+1) (Axz w ks[i]) (s.2++[ks[i]])).1)):=by
     show _=W64 (s.1+(1+A64 w.fC (Aqm (gt w.fL ks[i]) 0)+(A0k w v (Ag5 w.fL (gt w.fL ks[i]).Bt) (s.2++[ks[i]])).1));generalize A64 w.fC (Aqm (gt w.fL ks[i]) 0)=A;generalize (A0k w v (Ag5 w.fL (gt w.fL ks[i]).Bt) (s.2++[ks[i]])).1=B;simp only[Aoa,W64,IntKind.wrap_i64];omega
    rw[e];rfl
  ·simp only[Amb];rw[Ag1 (Z9 _),cond_false]
theorem Bhh (w:Eb)(u:Nat)(s:Int×List Int)(k:Int):Ayh w (Bd3 w u) s k=(s.1+(A0k w u [k] s.2).1,(A0k w u [k] s.2).2):=by
 rw[A2b,List.foldl_cons,List.foldl_nil];unfold Ayh
 by_cases h:k∈s.2
 ·rw[if_pos h,if_pos h];simp
 ·rw[if_neg h,if_neg h];simp
theorem Bhi (w:Eb)(hw:Al4 w): ∀(u K:Nat) (k:Int) (met:List Int),281474976710656+u<K->(0≤k∧k<(w.fL.length:Int))->Aw8 w met->w.fL.length≤met.length+u→
  Ale K w k met=some (W64 (A0k w u [k] met).1,(A0k w u [k] met).2):=by
 intro u
 induction u using Nat.strongRecOn with
 |_ u ih=>
  intro K k met hKu hk hm hu;obtain⟨J,rfl⟩: ∃J,K=J+1:=⟨K - 1,by omega⟩
  have hJ:281474976710656≤J:=by omega
  have hml:=Be1 hm
  have hL:=hw.l.2;rw[Ale,Ava,Axr J (Aej hw.l),decide_eq_true hk];simp only[Z0,cond_true];rw[Awz hJ _ _ (by omega),Z0,A2b,List.foldl_cons,List.foldl_nil]
  unfold Ayh
  by_cases hc:k∈met
  ·rw[if_pos hc,List.contains_iff_mem.2 hc,cond_true];rfl
  ·obtain⟨v,rfl,hv⟩:=Buq hm (Z9 _) hu hk hc
   have hcf:met.contains k=false:=by rw[List.contains_eq_mem];exact decide_eq_false hc
   have hx:=Al5;rw[if_neg hc,hcf,cond_false,Zg,if_pos ⟨by omega,by omega⟩,if_pos ⟨by simp;omega,by simp;omega⟩,if_pos hk,(A78 J hw hk).1]
   simp only[Z0];rw[A0z hJ _ _ (by have:=(hw.l.1 _ (Apk hk.1 hk.2)).chunks.2;simp only[Aqm];omega)]
   simp only[Z0];rw[if_pos hk,Ayf hJ hw.l (hw.l.1 _ (Apk hk.1 hk.2)).first];simp only[Z0]
   show Apq J (Ale J) (Axz w k) J (met++[k]) (W64 (1+Bb8 w k)) 0 _ _ _ _ _ _ _ _ _ _ _ _=_
   have hm2:=A34 hm hk hc
   have hstart:W64 (1+Bb8 w k)=W64 (1+Bb8 w k+((0,met++[k]):Int×List Int).1):=by simp
   rw[hstart]
   refine Bb9 (K:=J) hJ (Axz w k) (by have:=A3o hw k;omega) (Ayh w (Bd3 w v)) (0,met++[k]) (fun s=>Aw8 w s.2∧(met++[k]).length≤s.2.length) ⟨hm2,Z9 _⟩ (fun s x hx hs=> ?_) _ (fun n s i=>Apq J (Ale J) (Axz w k) n s.2 (W64 (1+Bb8 w k+s.1)) i w.fC.Ae w.fC.Eg w.fC.C0 w.fC.E9 w.fC.C1 w.fC.Eh w.fP.Fy w.fP.Hh w.fP.Fz w.fL w.fQ w.Pr) (fun n s i h hs=> ?_) (fun n=> ?_)
   ·obtain⟨a,b⟩:=A65 (Be2 w v) hs.1 (A2a w k x hx);exact⟨a,by omega⟩
   ·have hki:=A2a w k _ (List.getElem_mem h)
    have hf:=A3o hw k;simp only[Apq];rw[Ag0 h,cond_true,if_pos (Aje h),Aeg h,Ag4 (by omega)]
    have:=ih v (by omega) J (Axz w k)[i] s.2 (by omega) hki hs.1 (by omega)
    rw[show Eb.mk (Er.mk w.fC.Ae w.fC.Eg w.fC.C0 w.fC.E9 w.fC.C1 w.fC.Eh) (Dw.mk w.fP.Fy w.fP.Hh w.fP.Fz) w.fL w.fQ w.Pr=w from rfl,this,Bhh]
    simp only[Z0]
    have e:Aoa .i64 (W64 (1+Bb8 w k+s.1)) (W64 (A0k w v [(Axz w k)[i]] s.2).1)=W64 (1+Bb8 w k+(s.1+(A0k w v [(Axz w k)[i]] s.2).1)):=by
     rw[Bx2,←Int.add_assoc];exact Bx3 _ _
    rw[e]
   ·simp only[Apq];rw[Ag1 (Z9 _),cond_false];simp only[Bd3,A2b,Int.zero_add]
def Azh (w:Eb)(k:Int):Int:=if 0≤k∧k<(w.fL.length:Int)then W64 (A0k w w.fL.length [k] []).1 else 0
theorem Be4 (w:Eb):Aw8 w []:=⟨.nil,fun x h=>(by cases h)⟩
section
variable {K:Nat} (hK:562949953421312≤K)
include hK
theorem Bca (w:Eb)(hw:Al4 w)(k:Int):Awd K w k=some (Azh w k):=by
 have hL:=hw.l.2;unfold Awd Azh
 by_cases h:0≤k∧k<(w.fL.length:Int)
 ·rw[if_pos h,Bhi w hw w.fL.length K k [] (by omega) h (Be4 w) (by simp)];rfl
 ·obtain⟨J,rfl⟩: ∃J,K=J+1:=⟨K - 1,by omega⟩
  rw[if_neg h,Ale,Ava,Axr J (Aej hw.l),decide_eq_false h];rfl
theorem Bcb (w:Eb)(hw:Al4 w)(k:Int):Awk K w k=some (Azh w k):=by
 have hL:=hw.l.2;unfold Awk Azh;rw[Av4 K (Aej hw.l)]
 by_cases h:0≤k∧k<(w.fL.length:Int)
 ·rw[if_pos h,decide_eq_true h,Int.toNat_natCast,Bqk];simp only[Z0,Bool.not_true,cond_false];rw[if_pos ⟨by omega,by omega,by omega,by omega⟩,Bhg w hw w.fL.length K [k] [] (by omega) (by simp) (fun x hx=>by rw[Qo.1 hx];exact h) (Be4 w) (by simp)]
  simp only[Z0];rw[if_pos (by rw[Ayi,Ayi])]
 ·rw[if_neg h,decide_eq_false h];rfl
def Azi (w:Eb)(x:Ax):Int:=(Ag5 w.fL x.Bt).foldl (fun v k=>Aoa .i64 v (Azh w k)) (A64 w.fC x)
omit hK in
theorem A79 (w:Eb)(hw:Al4 w)(f:Int):(Ag5 w.fL f).length≤140737488355327:=by
 have:=Axi (l:=w.fL) w.fL.length (Aob .i64 f 1)
 have:=hw.l.2;unfold Ag5;omega
theorem Bcc (w:Eb)(hw:Al4 w)(i:Nat)(hi:i<w.fQ.length):Awe K w (i:Int)=some (Azi w (gt w.fQ i)):=by
 have hQ:=hw.q.2
 have hx:=hw.q.1 _ (An0 hi)
 have hc:=hx.chunks.2
 have hl:=A79 w hw (gt w.fQ i).Bt;unfold Awe Azi;rw[Axr K (by omega),decide_eq_true (Aje hi)]
 simp only[Z0,Bool.not_true,cond_false];rw[if_pos (Aje hi),A0z (by omega) _ _ (by omega)]
 simp only[Z0];rw[if_pos (Aje hi),Ayf (by omega) hw.l hx.first]
 simp only[Z0]
 refine Ayg (K:=K) (by omega) (Ag5 w.fL (gt w.fQ i).Bt) (by omega) (fun v k=>Aoa .i64 v (Azh w k)) (A64 w.fC (gt w.fQ i)) (fun _=>True) trivial (fun _ _ _=>trivial) _ (fun n s j=>Aqs K (Ag5 w.fL (gt w.fQ i).Bt) n s j w.fC.Ae w.fC.Eg w.fC.C0 w.fC.E9 w.fC.C1 w.fC.Eh w.fP.Fy w.fP.Hh w.fP.Fz w.fL w.fQ w.Pr) (fun n s j h _=> ?_) (fun n=> ?_)
 ·simp only[Aqs];rw[Ag0 h,cond_true,if_pos (Aje h),Aeg h,Ag4 (by omega)]
  rw[show Eb.mk (Er.mk w.fC.Ae w.fC.Eg w.fC.C0 w.fC.E9 w.fC.C1 w.fC.Eh) (Dw.mk w.fP.Fy w.fP.Hh w.fP.Fz) w.fL w.fQ w.Pr=w from rfl,Bca hK w hw]
  rfl
 ·simp only[Aqs];rw[Ag1 (Z9 _),cond_false]
theorem Bcd (w:Eb)(hw:Al4 w)(i:Nat)(hi:i<w.fQ.length):Awl K w (i:Int)=some (Azi w (gt w.fQ i)):=by
 have hQ:=hw.q.2
 have hx:=hw.q.1 _ (An0 hi)
 have hc:=hx.chunks.2
 have hl:=A79 w hw (gt w.fQ i).Bt;unfold Awl Azi;rw[A71 K (by omega),decide_eq_true (Aje hi)]
 simp only[Z0,Bool.not_true,cond_false];rw[if_pos (Aje hi),A00 (by omega) _ _ (by omega)]
 simp only[Z0];rw[if_pos (Aje hi),A0g (by omega) hw.l]
 simp only[Z0]
 refine Ayg (K:=K) (by omega) (Ag5 w.fL (gt w.fQ i).Bt) (by omega) (fun v k=>Aoa .i64 v (Azh w k)) (A64 w.fC (gt w.fQ i)) (fun _=>True) trivial (fun _ _ _=>trivial) _ (fun n s j=>Aqw K (Ag5 w.fL (gt w.fQ i).Bt) n s ((Ag5 w.fL (gt w.fQ i).Bt).length:Int) j w.fC.Ae w.fC.Eg w.fC.C0 w.fC.E9 w.fC.C1 w.fC.Eh w.fP.Fy w.fP.Hh w.fP.Fz w.fL w.fQ w.Pr) (fun n s j h _=> ?_) (fun n=> ?_)
 ·simp only[Aqw];rw[Ag0 h,cond_true,if_pos (Aje h),Aeg h,Ag4 (by omega)]
  rw[show Eb.mk (Er.mk w.fC.Ae w.fC.Eg w.fC.C0 w.fC.E9 w.fC.C1 w.fC.Eh) (Dw.mk w.fP.Fy w.fP.Hh w.fP.Fz) w.fL w.fQ w.Pr=w from rfl,Bcb hK w hw]
  rfl
 ·simp only[Aqw];rw[Ag1 (Z9 _),cond_false]
def Be5 (w:Eb):Int:=w.fQ.foldl (fun v x=>Aoa .i64 v (Azi w x)) 0
theorem Bd4 (w:Eb)(hw:Al4 w):Ax9 K w=some (Be5 w):=by
 have hQ:=hw.q.2;unfold Ax9 Be5;refine Ayg (K:=K) (by omega) w.fQ (by omega) (fun v x=>Aoa .i64 v (Azi w x)) 0 (fun _=>True) trivial (fun _ _ _=>trivial) _ (fun n s j=>Asd K n s j w.fC.Ae w.fC.Eg w.fC.C0 w.fC.E9 w.fC.C1 w.fC.Eh w.fP.Fy w.fP.Hh w.fP.Fz w.fL w.fQ w.Pr) (fun n s j h _=> ?_) (fun n=> ?_)
 ·simp only[Asd];rw[Ag0 h,cond_true,Ag4 (by omega)]
  rw[show Eb.mk (Er.mk w.fC.Ae w.fC.Eg w.fC.C0 w.fC.E9 w.fC.C1 w.fC.Eh) (Dw.mk w.fP.Fy w.fP.Hh w.fP.Fz) w.fL w.fQ w.Pr=w from rfl,Bcc hK w hw j h,Aeg h]
  rfl
 ·simp only[Asd];rw[Ag1 (Z9 _),cond_false]
theorem Bd5 (w:Eb)(hw:Al4 w):Ayb K w=some (Be5 w):=by
 have hQ:=hw.q.2;unfold Ayb Be5;refine Ayg (K:=K) (by omega) w.fQ (by omega) (fun v x=>Aoa .i64 v (Azi w x)) 0 (fun _=>True) trivial (fun _ _ _=>trivial) _ (fun n s j=>Asi K n s (w.fQ.length:Int) j w.fC.Ae w.fC.Eg w.fC.C0 w.fC.E9 w.fC.C1 w.fC.Eh w.fP.Fy w.fP.Hh w.fP.Fz w.fL w.fQ w.Pr) (fun n s j h _=> ?_) (fun n=> ?_)
 ·simp only[Asi];rw[Ag0 h,cond_true,Ag4 (by omega)]
  rw[show Eb.mk (Er.mk w.fC.Ae w.fC.Eg w.fC.C0 w.fC.E9 w.fC.C1 w.fC.Eh) (Dw.mk w.fP.Fy w.fP.Hh w.fP.Fz) w.fL w.fQ w.Pr=w from rfl,Bcd hK w hw j h,Aeg h]
  rfl
 ·simp only[Asi];rw[Ag1 (Z9 _),cond_false]
end
theorem A1g (a:Ec)(h:Dn)(u:Aqa a)(_:Axn h): ∃K,Aq5 K a h=some true:=by
 refine⟨562949953421312,?_⟩
 have hK:(281474976710656:Nat)≤562949953421312:=by omega
 have hw:=Bg6 u;obtain⟨q,hq⟩:=Bg3 hK u 1048576;unfold Aq5 At0 Ayo Ayq;rw[hq];simp only[Z0];cases e:decide (q<0)with
 |true=>rfl
 |false=>
  have hc:=Bqg u hq (by simpa using e)
  obtain⟨w',code,Fe,h1,h2,hw',hc'⟩:=Bay hK (A31 a) hw (by omega) (Ct.mk h.A5 h.C2)
  simp only[cond_false,cond_true,Z0,Bgu hK u,h1,h2,Bd4 (Z9 _) w' hw',Bd5 (Z9 _) w' hw',Bgz hK hw,bne_self_eq_false,Bool.not_true]
end Go.Proofs.YtjdblamhaljjbaaGreat
