/- The plain law for FnExactRead; no condition. -/
import Derived.Test.YtjdblamhaljjbaaGreatFReadTa
import Derived.Test.YtjdblamhaljjbaaGreatFReadW
set_option linter.all false
namespace Go.Proofs.YtjdblamhaljjbaaGreat
open Go.Eng Go.ChangeShapes Go.WideShapes Go.ChangeAt Go.RowKit
theorem Ahl{i:Nat}(h:i≤140737488355328):Aoa .i64 (i:Int) 1=((i+1:Nat):Int):=by
 unfold Aoa;rw[IntKind.wrap_i64];omega
theorem Ael{α:Type}[Inhabited α]{l:List α}{i:Nat}(h:i<l.length):gt l (i:Int)=l[i]:=by
 unfold gt;simp[h]
theorem Api{α:Type}[Inhabited α]{l:List α}{i:Nat}(h:i<l.length):gt l (i:Int)∈l:=by
 rw[Ael h];exact List.getElem_mem h
theorem Axz{α:Type}[Inhabited α]{l:List α}{i:Int}(h0:0≤i)(h:i<l.length):gt l i∈l:=by
 obtain⟨k,rfl⟩: ∃k:Nat,i=k:=⟨i.toNat,by omega⟩
 exact Api (by omega)
theorem Agf{i k:Nat}(h:i<k):decide ((i:Int)<(k:Int))=true:=by simp;omega
theorem Ag0{i k:Nat}(h:k≤i):decide ((i:Int)<(k:Int))=false:=by simp;omega
theorem A06{α β:Type}[Inhabited α](a:List α)(f:α->Option β)(g:α->β)(hf: ∀x∈a,f x=some (g x))(ha:a.length≤140737488355328)
  (L:Nat->Int->List β->Option (List β)) (hL: ∀n i v,L (n+1) i v=bif decide (i<(a.length:Int))then(if(0:Int)≤i∧i<(a.length:Int)then(f (gt a i)).bind (fun r=>(if(0:Int)≤i∧i<(v.length:Int)then L n (Aoa .i64 i 1) (v.set i.toNat r)else none))else none)else some v):
  ∀(n i:Nat) (v:List β),i≤a.length->v.length=a.length->(∀j,j<i->v[j]? =(a.map g)[j]?)->a.length - i<n->L n (i:Int) v=some (a.map g):=by
 intro n
 induction n with
 |zero=>intro i v _ _ _ h;omega
 |succ n ih=>
  intro i v hi hv hj hn;rw[hL];rcases F9 i a.length with h|h
  ·rw[Agf h];simp only[cond_true];rw[if_pos ⟨by omega,by omega⟩,hf _ (Api h)]
   simp only[Z0];rw[if_pos ⟨by omega,by omega⟩,Ahl (by omega)]
   refine ih (i+1) _ h (by simpa using hv) (fun j hj2=> ?_) (by omega)
   rw[Int.toNat_natCast,V8]
   by_cases e:i=j
   ·subst e;rw[if_pos rfl,if_pos (by omega),Ael h,Ca,Fa h];rfl
   ·rw[if_neg e];exact hj j (by omega)
  ·rw[Ag0 h];simp only[cond_false,Z7]
   have hia:i=a.length:=by omega
   refine List.ext_getElem? fun j=> ?_;rcases F9 j a.length with hja|hja
   ·exact hj j (by omega)
   ·rw[Z58 (by omega),Z58 (by simpa using hja)]
theorem Bk7{β:Type}[Inhabited β](a:List β)(e:β->β->Option Bool)(he: ∀x∈a,e x x=some true)(ha:a.length≤140737488355328)
  (L:Nat->Int->Option Bool) (hL: ∀n i,L (n+1) i=bif decide (i<(a.length:Int))then(if(0:Int)≤i∧i<(a.length:Int)then(if(0:Int)≤i∧i<(a.length:Int)then(e (gt a i) (gt a i)).bind (fun r=>bif r then L n (Aoa .i64 i 1)else some false)else none)else none)else some true):
  ∀(n i:Nat),i≤a.length->a.length - i<n->L n (i:Int)=some true:=by
 intro n
 induction n with
 |zero=>intro i _ h;omega
 |succ n ih=>
  intro i hi hn;rw[hL];rcases F9 i a.length with h|h
  ·rw[Agf h];simp only[cond_true];rw[if_pos ⟨by omega,by omega⟩,if_pos ⟨by omega,by omega⟩,he _ (Api h),Ahl (by omega)]
   simp only[Z0,cond_true];exact ih (i+1) h (by omega)
  ·rw[Ag0 h];rfl
theorem Bk8 (a:List Int)(ha:a.length≤140737488355328)
  (L:Nat->Int->Option Bool) (hL: ∀n i,L (n+1) i=bif decide (i<(a.length:Int))then(if(0:Int)≤i∧i<(a.length:Int)then(if(0:Int)≤i∧i<(a.length:Int)then(bif (gt a i != gt a i)then some false else L n (Aoa .i64 i 1))else none)else none)else some true):
  ∀(n i:Nat),i≤a.length->a.length - i<n->L n (i:Int)=some true:=by
 intro n
 induction n with
 |zero=>intro i _ h;omega
 |succ n ih=>
  intro i hi hn;rw[hL];rcases F9 i a.length with h|h
  ·rw[Agf h];simp only[cond_true];rw[if_pos ⟨by omega,by omega⟩,if_pos ⟨by omega,by omega⟩,Ahl (by omega)]
   simp only[bne_self_eq_false,cond_false];exact ih (i+1) h (by omega)
  ·rw[Ag0 h];rfl
theorem Bss{α:Type}[Inhabited α](a:List α)(f:α->Int->Option Int)(hf: ∀x∈a,∀y,∃r,f x y=some r)(ha:a.length≤140737488355328)
  (L:Nat->Int->Int->Option Int) (hL: ∀n y i,L (n+1) y i=bif decide (i<(a.length:Int))then(if(0:Int)≤i∧i<(a.length:Int)then(f (gt a i) y).bind (fun r=>bif decide (r<0)then some (-1)else L n r (Aoa .i64 i 1))else none)else some y):
  ∀(n i:Nat) (y:Int),i≤a.length->a.length - i<n-> ∃r,L n y (i:Int)=some r:=by
 intro n
 induction n with
 |zero=>intro i _ _ h;omega
 |succ n ih=>
  intro i y hi hn;rw[hL];rcases F9 i a.length with h|h
  ·rw[Agf h];simp only[cond_true];obtain⟨r,hr⟩:=hf _ (Api h) y;rw[if_pos ⟨by omega,by omega⟩,hr,Ahl (by omega)]
   simp only[Z0];cases decide (r<0)with
   |true=>exact⟨_,rfl⟩
   |false=>exact ih (i+1) r h (by omega)
  ·rw[Ag0 h];exact⟨_,rfl⟩
theorem Afe{n:Int}(h0: -9223372036854775808≤n)(h1:n≤9223372036854775807):IntKind.i64.wrap n=n:=by rw[IntKind.wrap_i64];omega
theorem Bvq (n:Int): -9223372036854775808≤IntKind.i64.wrap n∧IntKind.i64.wrap n≤9223372036854775807:=by rw[IntKind.wrap_i64];omega
theorem cc{α:Type}(b:Bool)(x:α):(bif b then x else x)=x:=by cases b<;>rfl
theorem Ath{a b:Int}(h: ¬a=b):(a != b)=true:=by simpa using h
theorem Aq4{a b:Int}(h: ¬a=b):(a==b)=false:=by simpa using h
def inB (x a b:Int):Bool:=decide (a≤x∧x≤b)
theorem Ayr{x a b:Int}:inB x a b=true ↔ a≤x∧x≤b:=by unfold inB;exact decide_eq_true_iff
theorem Ai5 (b:Bool)(x:Bool):(bif b then some x else some false)=some (b&&x):=by cases b<;>rfl
theorem A88 (b:Bool)(x:Bool):(bif b then some false else some x)=some (!b&&x):=by cases b<;>rfl
theorem Axe (b:Bool)(x:Bool):(bif b then some true else some x)=some (b||x):=by cases b<;>rfl
theorem Ac2{α:Type}(b:Bool)(x y:α):(bif !b then x else y)=(bif b then y else x):=by cases b<;>rfl
theorem Ajz{i n:Nat}(h:i<n):((0:Int)≤(i:Int)∧(i:Int)<(n:Int)):=⟨by omega,by omega⟩
theorem Bvr{α:Type}(l:List α)(q:α->Bool)(fin:Option Bool)(L:Nat->Int->Option Bool)
  (hs: ∀n (i:Nat) (h:i<l.length),L (n+1) (i:Int)=bif q l[i]then L n ((i+1:Nat):Int)else some false)
  (he: ∀n,L (n+1) (l.length:Int)=fin):
  ∀(n i:Nat),i≤l.length->l.length - i<n->L n (i:Int)=bif (l.drop i).all q then fin else some false:=by
 intro n
 induction n with
 |zero=>intro i _ h;omega
 |succ n ih=>
  intro i hi hn;rcases F9 i l.length with h|h
  ·rw[hs n i h,Z47 h,F3];cases q l[i]with
   |false=>rfl
   |true=>rw[cond_true,ih (i+1) h (by omega)];rfl
  ·obtain rfl:i=l.length:=by omega
   rw[he,List.drop_length];rfl
theorem Arv{α:Type}{K:Nat}(hK:281474976710656≤K)(l:List α)(hl:l.length≤140737488355328)(q:α->Bool)(fin:Option Bool)(L:Nat->Int->Option Bool)
  (hs: ∀n (i:Nat) (h:i<l.length),L (n+1) (i:Int)=bif q l[i]then L n ((i+1:Nat):Int)else some false)
  (he: ∀n,L (n+1) (l.length:Int)=fin):L K 0=bif l.all q then fin else some false:=by
 have:=Bvr l q fin L hs he K 0 (Z21 _) (by omega)
 simpa using this
theorem Apu{K:Nat}(hK:281474976710656≤K)(N:Nat)(hl:N≤140737488355328)(q:Nat->Bool)(fin:Option Bool)(L:Nat->Int->Option Bool)
  (hs: ∀n (i:Nat) (h:i<N),L (n+1) (i:Int)=bif q i then L n ((i+1:Nat):Int)else some false)
  (he: ∀n,L (n+1) (N:Int)=fin):L K 0=bif (List.range N).all q then fin else some false:=by
 refine Arv hK (List.range N) (by simpa using hl) q fin L (fun n i h=> ?_) (fun n=> ?_)
 ·rw[List.getElem_range];exact hs n i (by simpa using h)
 ·rw[List.length_range];exact he n
theorem Bk9{α:Type}(l:List α)(q:α->Bool)(L:Nat->Int->Int->Option Int)
  (hs: ∀n (i:Nat) (h:i<l.length),L (n+1) (l.length:Int) (i:Int)=bif q l[i]then some (i:Int)else L n (l.length:Int) ((i+1:Nat):Int))
  (he: ∀n,L (n+1) (l.length:Int) (l.length:Int)=some (-1)):
  ∀(n i:Nat),i≤l.length->l.length - i<n-> ∃r,L n (l.length:Int) (i:Int)=some r∧decide (r≥0)=(l.drop i).any q:=by
 intro n
 induction n with
 |zero=>intro i _ h;omega
 |succ n ih=>
  intro i hi hn;rcases F9 i l.length with h|h
  ·rw[hs n i h,Z47 h,List.any_cons];cases q l[i]with
   |true=>exact⟨_,rfl,by simp⟩
   |false=>rw[cond_false,Z52];exact ih (i+1) h (by omega)
  ·obtain rfl:i=l.length:=by omega
   exact⟨_,he n,by simp⟩
theorem Azu{α:Type}[Inhabited α]{K:Nat}(hK:281474976710656≤K)(l:List α)(hl:l.length≤140737488355328)(f:α->Option Bool)(q:α->Bool)(hf: ∀x∈l,f x=some (q x))(L:Nat->Int->Int->Option Int)
  (hL: ∀n N i,L (n+1) N i=bif decide (i<N)then(if(0:Int)≤i∧i<(l.length:Int)then(f (gt l i)).bind (fun r=>bif r then some i else L n N (Aoa .i64 i 1))else none)else some (-1)):
  ((L K (l.length:Int) 0).bind fun r=>some (decide (r≥0)))=some (l.any q):=by
 obtain⟨r,h1,h2⟩:=Bk9 l q L (fun n i h=>by
  rw[hL,Agf h,cond_true,if_pos (Ajz h),hf _ (Api h),Ael h,Z0,Ahl (by omega)]) (fun n=>by rw[hL,Ag0 (Z9 _),cond_false]) K 0 (Z21 _) (by omega)
 rw[show((0:Nat):Int)=0 from rfl]at h1
 rw[h1,Z0,h2,Z55]
theorem Azj{K:Nat}(hK:281474976710656≤K)(l:List Int)(x:Int)(hl:l.length≤140737488355328):Amb K l x=some (l.contains x):=by
 unfold Amb Aui;obtain⟨r,h1,h2⟩:=Bk9 l (fun y=>x==y) (Ans K l x) (fun n i h=>by
  rw[Ans,Agf h,cond_true,if_pos (Ajz h),Ael h,Ahl (by omega)]) (fun n=>by rw[Ans,Ag0 (Z9 _),cond_false]) K 0 (Z21 _) (by omega)
 rw[show((0:Nat):Int)=0 from rfl]at h1
 rw[h1,Z0,h2,Z55,List.contains_eq_any_beq]
theorem Axf{K:Nat}(hK:281474976710656≤K)(l:List Int)(x:Int)(hl:l.length≤140737488355328):Aps K l x=some (l.contains x):=by
 unfold Aps
 have h: ∀(n i:Nat),i≤l.length->l.length - i<n->Asq K l x n (i:Int)=some ((l.drop i).contains x):=by
  intro n
  induction n with
  |zero=>intro i _ h;omega
  |succ n ih=>
   intro i hi hn;rw[Asq];rcases F9 i l.length with h|h
   ·rw[Agf h,cond_true,if_pos (Ajz h),Ael h,Ahl (by omega),ih (i+1) h (by omega),Z47 h,List.contains_cons,Axe,Bool.beq_comm]
   ·rw[Ag0 h,cond_false,Z48 h];rfl
 have:=h K 0 (Z21 _) (by omega)
 simpa using this
theorem Asi (K:Nat)(x a b:Int):Ac1 K x a b=some (inB x a b):=by
 unfold Ac1 inB
 by_cases h:a≤x
 ·rw[decide_eq_true (show x≥a from h)];simp[h]
 ·rw[decide_eq_false (show ¬x≥a from h)];simp[h]
theorem Auq (K:Nat)(x a b:Int):Abk K x a b=some (inB x a b):=Asi K x a b
def Ap2 (c:Er):Bool:=inB c.Ae 2 12&&(inB c.Eg 8 16&&(inB c.C0 2 8&&(inB c.E9 1 8&&(inB c.C1 1 16&&inB c.Eh 1 4))))
theorem Awo (K:Nat)(c):Aq3 K c=some (Ap2 c):=by
 simp only[Aq3,Asi,Z0,Ai5,Ap2]
theorem Azk (K:Nat)(c):Ar5 K c=some (Ap2 c):=Awo K c
theorem Aem{c:Er}(h:Ap2 c=true):(2≤c.Ae∧c.Ae≤12)∧(8≤c.Eg∧c.Eg≤16)∧(2≤c.C0∧c.C0≤8)∧(1≤c.E9∧c.E9≤8)∧(1≤c.C1∧c.C1≤16)∧(1≤c.Eh∧c.Eh≤4):=by
 simpa only[Ap2,Z4,Ayr]using h
def Ap6 (c:Er):Int:=bif Ap2 c then c.Ae*c.Eg else 0
theorem A07{a b m n:Int}(h1:0≤a)(h2:a≤m)(h3:0≤b)(h4:b≤n):0≤a*b∧a*b≤m*n:=
 ⟨Int.mul_nonneg h1 h3,Int.mul_le_mul h2 h4 h3 (by omega)⟩
theorem Aw8 (K:Nat)(c):Asl K c=some (Ap6 c):=by
 unfold Asl Ap6;rw[Awo,Z0,Ac2];cases h:Ap2 c with
 |false=>rfl
 |true=>
  obtain⟨h1,h2,_⟩:=Aem h
  have:=A07 (a:=c.Ae) (b:=c.Eg) (m:=12) (n:=16) (by omega) h1.2 (by omega) h2.2
  simp only[cond_true,Aoc];rw[Afe (by omega) (by omega)]
theorem Ays (K:Nat)(c):Au8 K c=some (Ap6 c):=Aw8 K c
theorem Axg (c:Er):0≤Ap6 c∧Ap6 c≤192:=by
 unfold Ap6;cases h:Ap2 c with
 |false=>simp
 |true=>
  obtain⟨h1,h2,_⟩:=Aem h
  have:=A07 (a:=c.Ae) (b:=c.Eg) (m:=12) (n:=16) (by omega) h1.2 (by omega) h2.2
  simp only[cond_true];omega
section
variable {K:Nat} (hK:281474976710656≤K)
include hK
def Ayf (l:List Int):Bool:=l.all (fun x=>x==0)
theorem Azl (l:List Int)(hl:l.length≤140737488355328):Ar4 K l=some (Ayf l):=by
 unfold Ar4;rw[Arv hK l hl (fun x=>x==0) (some true) (Aqo K l) (fun n i h=>by
  rw[Aqo,Agf h,cond_true,if_pos (Ajz h),Ael h,Ahl (by omega)]
  cases e:l[i]==0<;>simp[bne,e]) (fun n=>by rw[Aqo,Ag0 (Z9 _),cond_false])]
 unfold Ayf;cases l.all (fun x=>x==0)<;>rfl
theorem Azm (l:List Int)(hl:l.length≤140737488355328):Ar6 K l=some (Ayf l):=by
 unfold Ar6 Ajb Alg;rw[Azu hK l hl (Aws K) (fun x=>x != 0) (fun x _=>rfl) (Ag5 K l) (fun n N i=>rfl)];simp only[Z0,Ayf,List.not_any_eq_all_not,Z7]
 congr 1
 funext x
 simp[bne]
end
def Bc2 (a b:Int):Int:=bif inB a 0 1000000000&&inB b 1 1000000000 then(a+b - 1) / b else 0
theorem A89 (K:Nat)(a b:Int):Au2 K a b=some (Bc2 a b):=by
 unfold Au2 Bc2;rw[Asi,Asi,Z0];cases h1:inB a 0 1000000000 with
 |false=>rfl
 |true=>
  cases h2:inB b 1 1000000000 with
  |false=>rfl
  |true=>
   rw[Ayr]at h1 h2;simp only[Z0,cond_true,Bool.not_true,cond_false,Bool.and_self];rw[if_pos (by omega)]
   unfold Alr Aob Aoa;rw[Afe (n:=a+b) (by omega) (by omega),Afe (n:=a+b - 1) (by omega) (by omega)]
   rw[Int.tdiv_eq_ediv_of_nonneg (by omega)]
   have h3:(a+b - 1) / b≤a+b - 1:=Int.ediv_le_self _ (by omega)
   have h4:0≤(a+b - 1) / b:=Int.ediv_nonneg (by omega) (by omega)
   rw[Afe (by omega) (by omega)]
def Avn (c:Er)(mem:List Int)(k:Int):List Int:=(mem.drop (k*c.Eg).toNat).take c.Eg.toNat
def Ax0 (c:Er)(p:Dw)(k:Nat):Bool:=
 inB (gt p.Hh k) 0 2&&((bif gt p.Hh k==1 then inB (gt p.Fz k) 0 (c.C0 - 1)else gt p.Fz k== -1)&&(bif gt p.Hh k==0 then Ayf (Avn c p.Fy k)else true))
def Aur (c:Er)(p:Dw):Bool:=
 Ap2 c&&((p.Fy.length:Int)==Ap6 c&&((p.Hh.length:Int)==c.Ae&&((p.Fz.length:Int)==c.Ae&&(List.range c.Ae.toNat).all (Ax0 c p))))
theorem Avx{c:Er}{p:Dw}(h:Aur c p=true):Ap2 c=true∧(p.Fy.length:Int)=c.Ae*c.Eg∧(p.Hh.length:Int)=c.Ae∧(p.Fz.length:Int)=c.Ae∧ ∀k,k<c.Ae.toNat->Ax0 c p k=true:=by
 simp only[Aur,Z4,beq_iff_eq,Z1,List.mem_range]at h;obtain⟨h1,h2,h3,h4,h5⟩:=h;refine⟨h1,?_,h3,h4,h5⟩;rw[h2,Ap6,h1];rfl
theorem A08{c:Er}(hc:Ap2 c=true){mem:List Int}(hm:(mem.length:Int)=c.Ae*c.Eg){k:Int}(h0:0≤k)(h1:k<c.Ae):
  Aoc .i64 k c.Eg=k*c.Eg∧Aoc .i64 (Aoa .i64 k 1) c.Eg=k*c.Eg+c.Eg∧0≤k*c.Eg∧k*c.Eg+c.Eg≤(mem.length:Int):=by
 obtain⟨b1,b2,_⟩:=Aem hc
 have m1:=A07 (a:=k) (b:=c.Eg) (m:=12) (n:=16) h0 (by omega) (by omega) b2.2
 have e2:(k+1)*c.Eg=k*c.Eg+c.Eg:=by rw[Int.add_mul,Int.one_mul]
 have m2:(k+1)*c.Eg≤c.Ae*c.Eg:=Int.mul_le_mul_of_nonneg_right (by omega) (by omega)
 rw[e2]at m2;refine⟨?_,?_,m1.1,by omega⟩
 ·unfold Aoc;exact Afe (by omega) (by omega)
 ·unfold Aoc Aoa;rw[Afe (n:=k+1) (by omega) (by omega),e2,Afe (by omega) (by omega)]
section
variable {K:Nat} (hK:281474976710656≤K)
include hK
theorem A5l{c:Er}(hc:Ap2 c=true){p:Dw}(hm:(p.Fy.length:Int)=c.Ae*c.Eg){k:Int}(h0:0≤k)(h1:k<c.Ae):Aqv K p c k=some (Avn c p.Fy k):=by
 obtain⟨e1,e2,e3,e4⟩:=A08 hc hm h0 h1;obtain⟨b1,b2,_⟩:=Aem hc;unfold Aqv;rw[e1,e2,if_pos ⟨e3,by omega,e4⟩]
 unfold Avn;rw[show k*c.Eg+c.Eg - k*c.Eg=c.Eg by omega]
theorem Bad (c:Er)(p:Dw):Av3 K c p=some (Aur c p):=by
 unfold Av3;rw[Awo,Aw8];simp only[Z0];cases hc:Ap2 c with
 |false=>simp[Aur,hc]
 |true=>
 obtain⟨b1,b2,b3,_⟩:=Aem hc
 have hby:Ap6 c=c.Ae*c.Eg:=by rw[Ap6,hc];rfl
 simp only[cond_true,Aur,hc,Z30,bne];cases h1:(p.Fy.length:Int)==Ap6 c with
 |false=>rfl
 |true=>
 cases h2:(p.Hh.length:Int)==c.Ae with
 |false=>rfl
 |true=>
 cases h3:(p.Fz.length:Int)==c.Ae with
 |false=>rfl
 |true=>
 rw[beq_iff_eq]at h1 h2 h3
 have hN:((c.Ae.toNat:Nat):Int)=c.Ae:=by omega
 simp only[Bool.not_true,cond_false,Z30];rw[Apu hK c.Ae.toNat (by omega) (Ax0 c p) (some true) (fun n i=>Alc K c n i p.Fy p.Hh p.Fz) (fun n i h=> ?_) (fun n=> ?_)]
 ·cases (List.range c.Ae.toNat).all (Ax0 c p)<;>rfl
 ·obtain⟨e1,e2,e3,e4⟩:=A08 hc (h1.trans hby) (k:=(i:Int)) (by omega) (by omega)
  have hl:(List.take (i*c.Eg+c.Eg - i*c.Eg).toNat (List.drop (i*c.Eg).toNat p.Fy)).length≤140737488355327:=by simp;omega
  have hs:Aob .i64 c.C0 1=c.C0 - 1:=by unfold Aob;rw[Afe (by omega) (by omega)]
  have hck:List.take (i*c.Eg+c.Eg - i*c.Eg).toNat (List.drop (i*c.Eg).toNat p.Fy)=Avn c p.Fy i:=by
   unfold Avn;rw[show(i:Int)*c.Eg+c.Eg - i*c.Eg=c.Eg by omega]
  simp only[Alc,Aqq,Atx];rw[e1,e2,Ahl (by omega),decide_eq_true (show(i:Int)<c.Ae by omega),cond_true,if_pos ⟨by omega,by omega⟩,Asi,Asi,hs,Azl hK _ (by omega),hck]
  simp only[Z0,bne,show((0:Int)≤(i:Int)∧(i:Int)<(p.Hh.length:Int))=True from eq_true ⟨by omega,by omega⟩,show((0:Int)≤(i:Int)∧(i:Int)<(p.Fz.length:Int))=True from eq_true ⟨by omega,by omega⟩,if_true,if_pos (show(0:Int)≤i*c.Eg∧(i:Int)*c.Eg≤i*c.Eg+c.Eg∧(i:Int)*c.Eg+c.Eg≤(p.Fy.length:Int) from⟨e3,by omega,e4⟩)]
  unfold Ax0;cases inB (gt p.Hh i) 0 2<;>cases (gt p.Hh (i:Int)==1)<;>cases inB (gt p.Fz i) 0 (c.C0 - 1)<;>cases (gt p.Fz (i:Int)== -1)<;>cases (gt p.Hh (i:Int)==0)<;>cases Ayf (Avn c p.Fy i)<;>rfl
 ·show Alc K c (n+1) _ _ _ _=_;rw[Alc,hN,decide_eq_false (by omega),cond_false]
theorem Bae (c:Er)(p:Dw):Av7 K c p=some (Aur c p):=by
 unfold Av7;rw[Azk,Ays];simp only[Z0];cases hc:Ap2 c with
 |false=>simp[Aur,hc]
 |true=>
 obtain⟨b1,b2,b3,_⟩:=Aem hc
 have hby:Ap6 c=c.Ae*c.Eg:=by rw[Ap6,hc];rfl
 simp only[cond_true,Aur,hc,Z30,bne];cases h1:(p.Fy.length:Int)==Ap6 c with
 |false=>rfl
 |true=>
 cases h2:(p.Hh.length:Int)==c.Ae with
 |false=>rfl
 |true=>
 cases h3:(p.Fz.length:Int)==c.Ae with
 |false=>rfl
 |true=>
 rw[beq_iff_eq]at h1 h2 h3
 have hN:((c.Ae.toNat:Nat):Int)=c.Ae:=by omega
 simp only[Bool.not_true,cond_false,Z30];rw[Apu hK c.Ae.toNat (by omega) (Ax0 c p) (some true) (fun n i=>Ai3 K c n p.Hh (p.Hh.length:Int) i p.Fy p.Hh p.Fz) (fun n i h=> ?_) (fun n=> ?_)]
 ·cases (List.range c.Ae.toNat).all (Ax0 c p)<;>rfl
 ·have hs:Aob .i64 c.C0 1=c.C0 - 1:=by unfold Aob;rw[Afe (by omega) (by omega)]
  have hl:(Avn c p.Fy i).length≤140737488355327:=by unfold Avn;simp;omega
  simp only[Ai3,Apz,At5];rw[A5l hK hc (h1.trans hby) (by omega) (by omega),Ahl (by omega),decide_eq_true (show(i:Int)<(p.Hh.length:Int)by omega),cond_true,if_pos ⟨by omega,by omega⟩,Auq,Auq,hs]
  simp only[Z0,Azm hK _ (show(Avn c p.Fy i).length≤140737488355328 by omega),bne,show((0:Int)≤(i:Int)∧(i:Int)<(p.Fz.length:Int))=True from eq_true ⟨by omega,by omega⟩,if_true]
  unfold Ax0;cases inB (gt p.Hh i) 0 2<;>cases (gt p.Hh (i:Int)==1)<;>cases inB (gt p.Fz i) 0 (c.C0 - 1)<;>cases (gt p.Fz (i:Int)== -1)<;>cases (gt p.Hh (i:Int)==0)<;>cases Ayf (Avn c p.Fy i)<;>rfl
 ·show Ai3 K c (n+1) _ _ _ _ _ _=_;rw[Ai3,hN,decide_eq_false (by omega),cond_false]
end
def Awe (c:Er)(t:A9):Prop:=Ap2 c=true∧1≤t.Vu∧0≤t.fAt∧t.fAt+t.Vu≤Ap6 c
instance (c t):Decidable (Awe c t):=by unfold Awe;infer_instance
def Arw (c:Er)(t:A9):Bool:=
 decide (Awe c t)&&(bif t.Vv==0 then decide (t.Vu≤c.Eg)&&(t.fAt / c.Eg==(t.fAt+t.Vu - 1) / c.Eg)else decide (t.Vu>c.Eg)&&(t.Vv==Bc2 t.Vu c.Eg&&t.fAt % c.Eg==0))
theorem A5m (K:Nat){c:Er}{t:A9}(h:Awe c t):
  (bif (t.Vv==0)then(bif (decide (t.Vu≤c.Eg))then(if c.Eg≠(0:Int)then(if c.Eg≠(0:Int)then some ((Alr .i64 t.fAt c.Eg)==(Alr .i64 (Aob .i64 (Aoa .i64 t.fAt t.Vu) 1) c.Eg))else none)else none)else some false)else((Au1 K c t.Vu).bind fun r2=>(bif r2 then((As3 K c t.Vu).bind fun r3=>(bif (t.Vv==r3)then(if c.Eg≠(0:Int)then some ((Int.tmod t.fAt c.Eg)==0)else none)else some false))else some false)))=some (Arw c t):=by
 have hd:decide (Awe c t)=true:=decide_eq_true h;obtain⟨hc,h1,h2,h3⟩:=h
 have hb:=Axg c;obtain⟨b1,b2,_⟩:=Aem hc;unfold Arw Au1 As3;rw[hd,if_pos (by omega),if_pos (by omega),A89]
 have e1:Aob .i64 (Aoa .i64 t.fAt t.Vu) 1=t.fAt+t.Vu - 1:=by
  unfold Aob Aoa;rw[Afe (n:=t.fAt+t.Vu) (by omega) (by omega),Afe (by omega) (by omega)]
 have e2: ∀x:Int,0≤x->x≤192->Alr .i64 x c.Eg=x / c.Eg:=by
  intro x h0 hx;unfold Alr;rw[Int.tdiv_eq_ediv_of_nonneg h0]
  have h3:x / c.Eg≤x:=Int.ediv_le_self _ h0
  have h4:0≤x / c.Eg:=Int.ediv_nonneg h0 (by omega)
  rw[Afe (by omega) (by omega)]
 rw[e1,e2 _ h2 (by omega),e2 _ (by omega) (by omega),Int.tmod_eq_emod_of_nonneg h2]
 simp only[Z0,if_pos (show c.Eg≠0 by omega)]
 cases t.Vv==0<;>cases decide (t.Vu≤c.Eg)<;>cases decide (t.Vu>c.Eg)<;>cases t.Vv==Bc2 t.Vu c.Eg<;>rfl
theorem Baf{c:Er}{t:A9}(h: ¬Awe c t):Arw c t=false:=by
 unfold Arw;rw[decide_eq_false h];rfl
theorem A09 (K:Nat)(c:Er)(t:A9):Aq9 K c t=some (Arw c t):=by
 have hb:=Axg c
 by_cases h:Awe c t
 ·rw[←A5m K h];obtain⟨hc,h1,h2,h3⟩:=h;unfold Aq9;rw[Aw8,Z0,Aq4 (by omega),decide_eq_false (by omega),decide_eq_false (by omega),decide_eq_false (by omega)]
  unfold Aob;rw[Afe (by omega) (by omega),decide_eq_false (show ¬t.Vu>Ap6 c - t.fAt by omega)]
  simp only[cond_false]
  try rfl
 ·rw[Baf h];unfold Aq9;rw[Aw8,Z0]
  by_cases g0:Ap6 c=0
  ·rw[g0];rfl
  ·have hc:Ap2 c=true:=by
    cases hc:Ap2 c with
    |true=>rfl
    |false=>exact absurd (by unfold Ap6;rw[hc];rfl) g0
   rw[Aq4 g0,cond_false]
   by_cases g1:t.Vu<1
   ·rw[decide_eq_true g1];rfl
   ·by_cases g2:t.fAt<0
    ·rw[decide_eq_false g1,decide_eq_true g2];rfl
    ·by_cases g3:t.fAt>Ap6 c
     ·rw[decide_eq_false g1,decide_eq_false g2,decide_eq_true g3];rfl
     ·rw[decide_eq_false g1,decide_eq_false g2,decide_eq_false g3];unfold Aob;rw[Afe (by omega) (by omega),decide_eq_true (show t.Vu>Ap6 c - t.fAt from ?_)]
      ·rfl
      ·refine Classical.byContradiction fun g4=>h ⟨hc,by omega,by omega,by omega⟩
theorem A1a (K:Nat)(c:Er)(t:A9):Ard K c t=some (Arw c t):=by
 have hb:=Axg c
 by_cases h:Awe c t
 ·rw[←A5m K h];obtain⟨hc,h1,h2,h3⟩:=h;unfold Ard;rw[Ays,Z0,decide_eq_false (by omega),decide_eq_false (by omega),decide_eq_false (by omega)]
  unfold Aob;rw[Afe (by omega) (by omega),decide_eq_false (show ¬t.fAt>Ap6 c - t.Vu by omega)]
  simp only[cond_false]
  try rfl
 ·rw[Baf h];unfold Ard;rw[Ays,Z0]
  by_cases g1:t.Vu≤0
  ·rw[decide_eq_true g1];rfl
  ·by_cases g2:t.fAt<0
   ·rw[decide_eq_false g1,decide_eq_true g2];rfl
   ·by_cases g3:t.Vu>Ap6 c
    ·rw[decide_eq_false g1,decide_eq_false g2,decide_eq_true g3];rfl
    ·rw[decide_eq_false g1,decide_eq_false g2,decide_eq_false g3]
     have hc:Ap2 c=true:=by
      cases hc:Ap2 c with
      |true=>rfl
      |false=>exfalso;unfold Ap6 at g3;rw[hc]at g3;simp only[cond_false]at g3;omega
     unfold Aob;rw[Afe (by omega) (by omega),decide_eq_true (show t.fAt>Ap6 c - t.Vu from ?_)]
     ·rfl
     ·refine Classical.byContradiction fun g4=>h ⟨hc,by omega,by omega,by omega⟩
theorem A5n{α:Type}(l:List α)(i:Nat):(l.drop (0:Int).toNat).take ((i:Int) - 0).toNat=l.take i:=by simp
theorem Bag{i n:Nat}(h:i≤n):((0:Int)≤0∧(0:Int)≤(i:Int)∧(i:Int)≤(n:Int)):=⟨by omega,by omega,by omega⟩
def Avo (c:Er)(l:List Int):Bool:=(List.range l.length).all (fun i=>inB (gt l i) 0 (c.Ae - 1)&& !(l.take i).contains (gt l i))
def A5o (n:Ba):Bool:=
 n.Ly==0&&(n.fUp==0&&(n.Gq==0&&(n.Bt==0&&(n.Gr==0&&(n.Gs==0&&((n.Ae.length:Int)==0&&(n.Pq==0&&(n.Gt==0&&((n.Ea.length:Int)==0&&(n.Dg.length:Int)==0)))))))))
theorem Bed (K:Nat)(n):Axs K n=some (A5o n):=by
 simp only[Axs,Ai5,A5o]
theorem Bee{K:Nat}(hK:1≤K)(l:List Int):Aiz K l []=some ((l.length:Int)==0):=by
 obtain⟨k,rfl⟩: ∃k,K=k+1:=⟨K - 1,by omega⟩
 cases l with
 |nil=>unfold Aiz;rw[Aiy];rfl
 |cons x l=>unfold Aiz;rw[Ath (by simp only[Y9,List.length_nil];omega),cond_true,Aq4 (by simp only[Y9];omega)]
theorem Bbs{K:Nat}(hK:1≤K)(l:List A9):Ali K l []=some ((l.length:Int)==0):=by
 obtain⟨k,rfl⟩: ∃k,K=k+1:=⟨K - 1,by omega⟩
 cases l with
 |nil=>unfold Ali;rw[Anz];rfl
 |cons x l=>unfold Ali;rw[Ath (by simp only[Y9,List.length_nil];omega),cond_true,Aq4 (by simp only[Y9];omega)]
theorem Bef{K:Nat}(hK:1≤K)(n):Axy K n=some (A5o n):=by
 unfold Axy Awt;simp only[beq_self_eq_true,cond_true,Bee hK,Bbs hK,Z0,Ai5,A5o]
def Bbt (c:Er)(n:Ba):Bool:=bif n.Pq==0 then n.Gt==0 else n.Ae.contains (Aob .i64 n.Pq 1)&&inB n.Gt 0 c.Eg
def A6z (c:Er)(n:Ba):Bool:=
 (inB n.fUp 0 c.C0&&(inB n.Bt 0 c.C0&&(inB n.Gr 0 c.C0&&inB n.Gs 0 c.C0)))&&((!decide (n.Ly<0)&& !decide (n.Gq<0))&&((Avo c n.Ae&&Bbt c n)&&((decide ((n.Ea.length:Int)≤12)&&decide ((n.Dg.length:Int)≤6))&&(n.Dg.all (fun x=>inB x 0 255)&&n.Ea.all (Arw c)))))
def Aww (c:Er)(n:Ba):Bool:=Ap2 c&&(inB n.Hh 0 3&&(inB n.C2 1 c.Eh&&(bif n.Hh != 1 then A5o n else A6z c n)))
section
variable {K:Nat} (hK:281474976710656≤K)
include hK
theorem A2d{c:Er}(hc:Ap2 c=true):Aob .i64 c.Ae 1=c.Ae - 1:=by
 obtain⟨b1,_⟩:=Aem hc;unfold Aob;rw[Afe (by omega) (by omega)]
theorem Az2{c:Er}(hc:Ap2 c=true)(l:List Int)(hl:l.length≤140737488355327):Ar1 K c l=some (Avo c l):=by
 unfold Ar1;rw[Apu hK l.length (by omega) (fun i=>inB (gt l i) 0 (c.Ae - 1)&& !(l.take i).contains (gt l i)) (some true) (fun n i=>Aoy K c l n l (l.length:Int) i) (fun n i h=> ?_) (fun n=> ?_)]
 ·unfold Avo;cases (List.range l.length).all _<;>rfl
 ·have hp:(l.take i).length≤140737488355328:=by simp;omega
  simp only[Aoy];rw[Agf h,cond_true,if_pos (Ajz h),Auq,if_pos (Bag (by omega)),A5n,Azj hK _ _ hp,Ahl (by omega),A2d hK hc]
  simp only[Z0];cases inB (gt l i) 0 (c.Ae - 1)<;>cases (l.take i).contains (gt l i)<;>rfl
 ·show Aoy K c l (n+1) _ _ _=_;rw[Aoy,Ag0 (Z9 _),cond_false]
theorem A6k{c:Er}(hc:Ap2 c=true)(n:Ba)(hl:n.Ae.length≤140737488355327):At0 K c n=some (Avo c n.Ae&&Bbt c n):=by
 unfold At0;rw[Apu hK n.Ae.length (by omega) (fun i=>inB (gt n.Ae i) 0 (c.Ae - 1)&& !(n.Ae.take i).contains (gt n.Ae i)) (some (Bbt c n)) (fun k i=>Aov K c k i n.Hh n.C2 n.Ly n.fUp n.Gq n.Bt n.Gr n.Gs n.Ae n.Pq n.Gt n.Ea n.Dg) (fun k i h=> ?_) (fun k=> ?_)]
 ·rw[Ai5];rfl
 ·have hp:(n.Ae.take i).length≤140737488355328:=by simp;omega
  simp only[Aov];rw[Agf h,cond_true,if_pos (Ajz h),Asi,if_pos (Bag (by omega)),A5n,Axf hK _ _ hp,Ahl (by omega),A2d hK hc]
  simp only[Z0,if_pos (Ajz h)];cases inB (gt n.Ae i) 0 (c.Ae - 1)<;>cases (n.Ae.take i).contains (gt n.Ae i)<;>rfl
 ·show Aov K c (k+1) _ _ _ _ _ _ _ _ _ _ _ _ _ _=_;rw[Aov,Ag0 (Z9 _),cond_false,Axf hK _ _ (by omega),Asi]
  unfold Bbt;simp only[Z0,Ai5];cases n.Pq==0<;>rfl
theorem Ax9 (l:List Int)(hl:l.length≤140737488355328):Aqr K l=some (l.all (fun x=>inB x 0 255)):=by
 unfold Aqr Ai4 Ak9;rw[Azu hK l hl (Asc K) (fun x=> !inB x 0 255) (fun x _=>by simp[Asc,Auq]) (Ag4 K l) (fun n N i=>rfl)]
 simp only[Z0,List.not_any_eq_all_not,Bool.not_not]
theorem Bah (c:Er)(n:Ba)(h1:n.Ae.length≤140737488355327)(h2:n.Ea.length≤140737488355327)(h3:n.Dg.length≤140737488355327):Av5 K c n=some (Aww c n):=by
 unfold Av5;rw[Awo,Bed];simp only[Z0,Asi];cases hc:Ap2 c with
 |false=>simp[Aww,hc]
 |true=>
 rw[A6k hK hc n h1]
 have hA:Apy K n.Dg K 0=some (n.Dg.all (fun x=>inB x 0 255)):=by
  rw[Arv hK n.Dg (by omega) (fun x=>inB x 0 255) (some true) (Apy K n.Dg) (fun k i h=> ?_) (fun k=> ?_)]
  ·cases n.Dg.all (fun x=>inB x 0 255)<;>rfl
  ·rw[Apy,Agf h,cond_true,if_pos (Ajz h),Ael h,Asi,Ahl (by omega),Z0,Ac2]
  ·rw[Apy,Ag0 (Z9 _),cond_false]
 have hB:Ape K c K 0 n.Hh n.C2 n.Ly n.fUp n.Gq n.Bt n.Gr n.Gs n.Ae n.Pq n.Gt n.Ea n.Dg=some (n.Dg.all (fun x=>inB x 0 255)&&n.Ea.all (Arw c)):=by
  rw[Arv hK n.Ea (by omega) (Arw c) (some (n.Dg.all (fun x=>inB x 0 255))) (fun k i=>Ape K c k i n.Hh n.C2 n.Ly n.fUp n.Gq n.Bt n.Gr n.Gs n.Ae n.Pq n.Gt n.Ea n.Dg) (fun k i h=> ?_) (fun k=> ?_)]
  ·rw[Ai5,Bool.and_comm]
  ·simp only[Ape];rw[Agf h,cond_true,if_pos (Ajz h),Ael h,A09,Ahl (by omega),Z0,Ac2]
  ·show Ape K c (k+1) _ _ _ _ _ _ _ _ _ _ _ _ _ _=_;rw[Ape,Ag0 (Z9 _),cond_false,hA]
 rw[hB]
 have e12:decide ((n.Ea.length:Int)>12)= !decide ((n.Ea.length:Int)≤12):=by rw[←decide_not];congr 1;simp
 have e6:decide ((n.Dg.length:Int)>6)= !decide ((n.Dg.length:Int)≤6):=by rw[←decide_not];congr 1;simp
 simp only[Z0,cond_true,e12,e6,Ac2,Ai5,A88];unfold Aww A6z;rw[hc];cases n.Hh != 1 with
 |true=>simp only[cond_true,Ai5,Z30]
 |false=>
  simp only[cond_false,Ai5,Z30,Z7]
  ac_rfl
theorem Bai (c:Er)(n:Ba)(h1:n.Ae.length≤140737488355327)(h2:n.Ea.length≤140737488355327)(h3:n.Dg.length≤140737488355327):Av8 K c n=some (Aww c n):=by
 unfold Av8;rw[Azk,Bef (by omega)]
 simp only[Z0,Auq];cases hc:Ap2 c with
 |false=>simp[Aww,hc]
 |true=>
 have hT:Ahy K n.Ea c=some (n.Ea.any (fun t=> !Arw c t)):=
  Azu hK n.Ea (by omega) (fun t=>At6 K t c) (fun t=> !Arw c t) (fun x _=>by simp[At6,A1a]) (Ae1 K n.Ea c) (fun n N i=>rfl)
 have hJ:Ap0 K c n.Ea n.Dg=some ((decide ((n.Ea.length:Int)≤12)&&decide ((n.Dg.length:Int)≤6))&&(n.Dg.all (fun x=>inB x 0 255)&&n.Ea.all (Arw c))):=by
  unfold Ap0;rw[hT,Ax9 hK _ (by omega)]
  simp only[Z0,Ai5,List.not_any_eq_all_not,Bool.not_not,Z7]
  ac_rfl
 obtain⟨_,b2,_⟩:=Aem hc
 have hB:Apf K c K ([n.fUp,n.Bt,n.Gr,n.Gs]:List Int) (([n.fUp,n.Bt,n.Gr,n.Gs]:List Int).length:Int) 0 n.Hh n.C2 n.Ly n.fUp n.Gq n.Bt n.Gr n.Gs n.Ae n.Pq n.Gt n.Ea n.Dg=some (A6z c n):=by
  rw[Arv hK ([n.fUp,n.Bt,n.Gr,n.Gs]:List Int) (by simp) (fun x=>inB x 0 c.C0) (some ((!decide (n.Ly<0)&& !decide (n.Gq<0))&&((Avo c n.Ae&&Bbt c n)&&((decide ((n.Ea.length:Int)≤12)&&decide ((n.Dg.length:Int)≤6))&&(n.Dg.all (fun x=>inB x 0 255)&&n.Ea.all (Arw c)))))) (fun k i=>Apf K c k ([n.fUp,n.Bt,n.Gr,n.Gs]:List Int) (([n.fUp,n.Bt,n.Gr,n.Gs]:List Int).length:Int) i n.Hh n.C2 n.Ly n.fUp n.Gq n.Bt n.Gr n.Gs n.Ae n.Pq n.Gt n.Ea n.Dg) (fun k i h=> ?_) (fun k=> ?_)]
  ·unfold A6z;rw[Ai5];simp only[F3,List.all_nil,Bool.and_true]
  ·simp only[Apf];rw[Agf h,cond_true,if_pos (Ajz h),Ael h,Auq,Ahl (by simp at h ⊢;omega),Z0,Ac2]
  ·show Apf K c (k+1) _ _ _ _ _ _ _ _ _ _ _ _ _ _ _ _=_;rw[Apf,Ag0 (Z9 _),cond_false,hJ,Az2 hK hc _ h1,Azj hK _ _ (by omega),Auq]
   simp only[Z0,bne,Ac2,Ai5,A88];unfold Bbt
   have hz:(n.Gt==0)=true->inB n.Gt 0 c.Eg=true:=by
    intro h;rw[beq_iff_eq]at h;rw[Ayr];omega
   cases e0:n.Pq==0 with
   |true=>
    simp only[cond_true,Ai5,A88,Bool.not_not,Ac2,cond_false];cases e1:n.Gt==0 with
    |true=>rw[hz e1];simp only[Z30,Bool.and_true];simp only[Z7];ac_rfl
    |false=>cases inB n.Gt 0 c.Eg<;>cases decide (n.Ly<0)<;>cases decide (n.Gq<0)<;>cases Avo c n.Ae<;>rfl
   |false=>
    simp only[cond_false,Ai5,A88,Z7]
    ac_rfl
 rw[hB];simp only[cond_true,Ac2,Ai5];unfold Aww;rw[hc];cases n.Hh != 1<;>simp only[cond_true,cond_false,Ai5,Z30]
end
theorem Bc3{α β:Type}(l:List α)(q:α->Bool)(fin bad:Option β)(L:Nat->Int->Option β)
  (hs: ∀n (i:Nat) (h:i<l.length),L (n+1) (i:Int)=bif q l[i]then L n ((i+1:Nat):Int)else bad)
  (he: ∀n,L (n+1) (l.length:Int)=fin):
  ∀(n i:Nat),i≤l.length->l.length - i<n->L n (i:Int)=bif (l.drop i).all q then fin else bad:=by
 intro n
 induction n with
 |zero=>intro i _ h;omega
 |succ n ih=>
  intro i hi hn;rcases F9 i l.length with h|h
  ·rw[hs n i h,Z47 h,F3];cases q l[i]with
   |false=>rfl
   |true=>rw[cond_true,ih (i+1) h (by omega)];rfl
  ·obtain rfl:i=l.length:=by omega
   rw[he,List.drop_length];rfl
theorem Beg{β:Type}{K:Nat}(hK:281474976710656≤K)(N:Nat)(hl:N≤140737488355328)(q:Nat->Bool)(fin bad:Option β)(L:Nat->Int->Option β)
  (hs: ∀n (i:Nat) (h:i<N),L (n+1) (i:Int)=bif q i then L n ((i+1:Nat):Int)else bad)
  (he: ∀n,L (n+1) (N:Int)=fin):L K 0=bif (List.range N).all q then fin else bad:=by
 have:=Bc3 (List.range N) q fin bad L (fun n i h=>by rw[List.getElem_range];exact hs n i (by simpa using h)) (fun n=>by rw[List.length_range];exact he n) K 0 (Z21 _) (by simp;omega)
 simpa using this
def Axh (t:A9):Prop:=0≤t.fAt∧t.fAt≤200∧0≤t.Vu∧t.Vu≤200
theorem Baj{c:Er}{t:A9}(h:Arw c t=true):Axh t∧Awe c t:=by
 have h1:Awe c t:=by
  unfold Arw at h;rw[Z4]at h;exact of_decide_eq_true h.1
 have hb:=Axg c;obtain⟨h2,h3,h4,h5⟩:=h1;exact⟨⟨h4,by omega,by omega,by omega⟩,h2,h3,h4,h5⟩
def Apv (a b:A9):Bool:=decide (a.Vu≤0∨b.Vu≤0∨a.fAt+a.Vu≤b.fAt∨b.fAt+b.Vu≤a.fAt)
theorem Bak (a b:A9):Apv a b=Apv b a:=by
 unfold Apv;rw[decide_eq_decide];omega
theorem Bbu (K:Nat){a b:A9}(ha:Axh a)(hb:Axh b):Aw1 K a b=some (Apv a b):=by
 obtain⟨a1,a2,a3,a4⟩:=ha;obtain⟨b1,b2,b3,b4⟩:=hb;unfold Aw1 Aob;rw[Afe (n:=b.fAt - a.fAt) (by omega) (by omega),Afe (n:=a.fAt - b.fAt) (by omega) (by omega)]
 simp only[Axe]
 have: ∀x:Bool,x=Apv a b->some x=some (Apv a b):=fun x h=>by rw[h]
 by_cases h:a.fAt≤b.fAt
 ·rw[decide_eq_true h,cond_true,Axe,Axe];refine this _ ?_;rw[Bool.eq_iff_iff];simp only[Apv,Bool.or_eq_true,decide_eq_true_eq];omega
 ·rw[decide_eq_false h,cond_false,Axe,Axe];refine this _ ?_;rw[Bool.eq_iff_iff];simp only[Apv,Bool.or_eq_true,decide_eq_true_eq];omega
theorem A5p (K:Nat){a b:A9}(ha:Axh a)(hb:Axh b):Avb K a b=some (Apv a b):=by
 obtain⟨a1,a2,a3,a4⟩:=ha;obtain⟨b1,b2,b3,b4⟩:=hb;unfold Avb Ava Aob;simp only[IntKind.wrap_u64]
 have: ∀x:Bool,x=Apv a b->some x=some (Apv a b):=fun x h=>by rw[h]
 by_cases h:a.fAt>b.fAt
 ·rw[decide_eq_true h,cond_true,Axe,Axe];refine this _ ?_;rw[Bool.eq_iff_iff];simp only[Apv,Bool.or_eq_true,decide_eq_true_eq];omega
 ·rw[decide_eq_false h,cond_false,Axe,Axe];refine this _ ?_;rw[Bool.eq_iff_iff];simp only[Apv,Bool.or_eq_true,decide_eq_true_eq];omega
def Avy (l:List A9):Bool:=(List.range l.length).all (fun i=>(l.take i).all (fun o=>Apv o (gt l i)))
def Ayg (c:Er)(chunks:List Int)(t:A9):Bool:=
 Arw c t&&(List.range ((t.fAt+t.Vu - 1) / c.Eg - t.fAt / c.Eg+1).toNat).all (fun j=>chunks.contains (t.fAt / c.Eg+(j:Int)))
theorem A60{c:Er}{t:A9}(h:Arw c t=true):
  c.Eg≠0∧Alr .i64 t.fAt c.Eg=t.fAt / c.Eg∧Alr .i64 (Aob .i64 (Aoa .i64 t.fAt t.Vu) 1) c.Eg=(t.fAt+t.Vu - 1) / c.Eg∧0≤t.fAt / c.Eg∧t.fAt / c.Eg≤(t.fAt+t.Vu - 1) / c.Eg∧(t.fAt+t.Vu - 1) / c.Eg≤192:=by
 obtain⟨hs,hc,h1,h2,h3⟩:=Baj h
 have hb:=Axg c;obtain⟨b1,b2,_⟩:=Aem hc
 have e1:Aob .i64 (Aoa .i64 t.fAt t.Vu) 1=t.fAt+t.Vu - 1:=by
  unfold Aob Aoa;rw[Afe (n:=t.fAt+t.Vu) (by omega) (by omega),Afe (by omega) (by omega)]
 have e2: ∀x:Int,0≤x->x≤192->Alr .i64 x c.Eg=x / c.Eg∧0≤x / c.Eg∧x / c.Eg≤192:=by
  intro x h0 hx
  have h3:x / c.Eg≤x:=Int.ediv_le_self _ h0
  have h4:0≤x / c.Eg:=Int.ediv_nonneg h0 (by omega)
  refine⟨?_,h4,by omega⟩
  unfold Alr;rw[Int.tdiv_eq_ediv_of_nonneg h0,Afe (by omega) (by omega)]
 obtain⟨x1,x2,x3⟩:=e2 t.fAt h2 (by omega)
 obtain⟨y1,y2,y3⟩:=e2 (t.fAt+t.Vu - 1) (by omega) (by omega)
 refine⟨by omega,x1,by rw[e1,y1],x2,Int.ediv_le_ediv (by omega) (by omega),y3⟩
theorem Bst{a:Int}{j:Nat}(h0:0≤a)(h:a+j≤140737488355328):Aoa .i64 (a+(j:Int)) 1=a+((j+1:Nat):Int):=by
 unfold Aoa;rw[Afe (by omega) (by omega)];omega
section
variable {K:Nat} (hK:281474976710656≤K)
include hK
theorem A6l (l:List A9)(hl:l.length≤140737488355327)(hs: ∀t∈l,Axh t):At2 K l=some (Avy l):=by
 unfold At2 Avy;rw[Apu hK l.length (by omega) (fun i=>(l.take i).all (fun o=>Apv o (gt l i))) (some true) (fun n i=>Aje K l n i) (fun n i h=> ?_) (fun n=> ?_)]
 ·cases (List.range l.length).all _<;>rfl
 ·simp only[Aje];rw[Agf h,cond_true]
  have hlen:(l.take i).length=i:=by simp;omega
  rw[Arv hK (l.take i) (by omega) (fun o=>Apv o (gt l i)) (Aje K l n (Aoa .i64 i 1)) (fun m j=>Aox K l i (Aje K l n) m j) (fun m j hj=> ?_) (fun m=> ?_)]
  ·rw[Ahl (by omega)]
  ·have hj':j<i:=by omega
   simp only[Aox];rw[Agf hj',cond_true,if_pos (Ajz h),if_pos (Ajz (show j<l.length by omega)),Bbu K (hs _ (Api h)) (hs _ (Api (show j<l.length by omega))),Z0,Ac2,Ahl (by omega),Bak,List.getElem_take,Ael (show j<l.length by omega)]
  ·show Aox K l i _ (m+1) _=_;rw[Aox,hlen,Ag0 (Z9 _),cond_false]
 ·show Aje K l (n+1) _=_;rw[Aje,Ag0 (Z9 _),cond_false]
theorem A6m (l:List A9)(hl:l.length≤140737488355327)(hs: ∀t∈l,Axh t):At8 K l=some (Avy l):=by
 unfold At8 Avy;rw[Apu hK l.length (by omega) (fun i=>(l.take i).all (fun o=>Apv o (gt l i))) (some true) (fun n i=>Ao0 K l n l (l.length:Int) i) (fun n i h=> ?_) (fun n=> ?_)]
 ·cases (List.range l.length).all _<;>rfl
 ·simp only[Ao0]
  have hlen:(l.take i).length=i:=by simp;omega
  have hC:Ag9 K (l.take i) (gt l i)=some ((l.take i).any (fun o=> !Apv o (gt l i))):=
   Azu hK (l.take i) (by omega) (fun t=>Asd K t (gt l i)) (fun o=> !Apv o (gt l i)) (fun x hx=>by
    unfold Asd;rw[A5p K (hs _ (Za hx)) (hs _ (Api h))];rfl) (Aek K (l.take i) (gt l i)) (fun n N i=>rfl)
  rw[Agf h,cond_true,if_pos (Ajz h),if_pos (Bag (by omega)),A5n,hC,Ahl (by omega),Z0,List.any_eq_not_all_not,Ac2]
  simp only[Bool.not_not]
 ·show Ao0 K l (n+1) _ _ _=_;rw[Ao0,Ag0 (Z9 _),cond_false]
theorem A6n (c:Er)(n:Ba)(h1:n.Ae.length≤140737488355327)(h2:n.Ea.length≤140737488355327):At7 K c n=some (n.Ea.all (Ayg c n.Ae)):=by
 unfold At7
 have h1t: ∀t,Aqw K t c n=some (!Ayg c n.Ae t):=by
  intro t;unfold Aqw Ayg;rw[A1a,Z0,Ac2];cases ht:Arw c t with
  |false=>rfl
  |true=>
   obtain⟨d0,d1,d2,d3,d4,d5⟩:=A60 ht;rw[cond_true,if_pos d0,d1]
   have:=Beg hK ((t.fAt+t.Vu - 1) / c.Eg - t.fAt / c.Eg+1).toNat (by omega) (fun j=>n.Ae.contains (t.fAt / c.Eg+(j:Int))) (some false) (some true) (fun m j=>Alj K t c n m (t.fAt / c.Eg+j)) (fun m j hj=> ?_) (fun m=> ?_)
   ·simp only[Int.add_zero]at this;rw[this];cases (List.range _).all _<;>rfl
   ·simp only[Alj];rw[if_pos d0,d2,decide_eq_true (by omega),cond_true,Azj hK _ _ (by omega),Z0,Ac2,Bst d3 (by omega)]
   ·show Alj K t c n (m+1) _=_;rw[Alj,if_pos d0,d2,decide_eq_false (by omega),cond_false]
 have hC:Ag7 K n.Ea c n=some (n.Ea.any (fun t=> !Ayg c n.Ae t)):=
  Azu hK n.Ea (by omega) (fun t=>Aqw K t c n) (fun t=> !Ayg c n.Ae t) (fun x _=>h1t x) (Aej K n.Ea c n) (fun n N i=>rfl)
 rw[hC];simp only[Z0,List.not_any_eq_all_not,Bool.not_not]
theorem A6o (c:Er)(n:Ba)(h1:n.Ae.length≤140737488355327)(h2:n.Ea.length≤140737488355327):At1 K c n=some (n.Ea.all (Ayg c n.Ae)):=by
 unfold At1;rw[Arv hK n.Ea (by omega) (Ayg c n.Ae) (some true) (fun k i=>Ajc K c k i n.Hh n.C2 n.Ly n.fUp n.Gq n.Bt n.Gr n.Gs n.Ae n.Pq n.Gt n.Ea n.Dg) (fun k i h=> ?_) (fun k=> ?_)]
 ·cases n.Ea.all _<;>rfl
 ·simp only[Ajc];rw[Agf h,cond_true,if_pos (Ajz h),Ael h,A09,Z0,Ac2];unfold Ayg;generalize n.Ea[i]=t;cases ht:Arw c t with
  |false=>rfl
  |true=>
   obtain⟨d0,d1,d2,d3,d4,d5⟩:=A60 ht;rw[cond_true,if_pos d0,d1,Z30]
   have:=Apu hK ((t.fAt+t.Vu - 1) / c.Eg - t.fAt / c.Eg+1).toNat (by omega) (fun j=>n.Ae.contains (t.fAt / c.Eg+(j:Int))) (Ajc K c k ((i+1:Nat):Int) n.Hh n.C2 n.Ly n.fUp n.Gq n.Bt n.Gr n.Gs n.Ae n.Pq n.Gt n.Ea n.Dg)
    (fun m j=>Aow K c i n.Hh n.C2 n.Ly n.fUp n.Gq n.Bt n.Gr n.Gs n.Ae n.Pq n.Gt n.Ea n.Dg (Ajc K c k) m (t.fAt / c.Eg+j) t) (fun m j hj=> ?_) (fun m=> ?_)
   ·simp only[Int.add_zero]at this;exact this
   ·simp only[Aow];rw[if_pos d0,d2,decide_eq_true (by omega),cond_true,Axf hK _ _ (by omega),Z0,Ac2,Bst d3 (by omega)]
   ·show Aow K c i _ _ _ _ _ _ _ _ _ _ _ _ _ _ (m+1) _ _=_;rw[Aow,if_pos d0,d2,decide_eq_false (by omega),cond_false,Ahl (by omega)]
 ·show Ajc K c (k+1) _ _ _ _ _ _ _ _ _ _ _ _ _ _=_;rw[Ajc,Ag0 (Z9 _),cond_false]
end
def wfi (x:Int):Prop:= -9223372036854775808≤x∧x≤9223372036854775807
def Az3 (l:List Int):Prop:=(∀x∈l,wfi x)∧l.length*8≤140737488355327
def Bla (l:List Int):Prop:=(∀x∈l,0≤x∧x≤255)∧l.length≤140737488355327
def Azn (t:A9):Prop:=wfi t.fAt∧wfi t.Vu∧wfi t.Vv
def A2u (l:List A9):Prop:=(∀x∈l,Azn x)∧l.length*24≤140737488355327
structure A1c (n:Ba):Prop where
 st:wfi n.Hh
 gen:wfi n.C2
 ep:wfi n.Ly
 up:wfi n.fUp
 upEp:wfi n.Gq
 first:wfi n.Bt
 next:wfi n.Gr
 prev:wfi n.Gs
 chunks:Az3 n.Ae
 cur:wfi n.Pq
 bump:wfi n.Gt
 things:A2u n.Ea
 tags:Az3 n.Dg
def Aix (l:List Ba):Prop:=(∀x∈l,A1c x)∧l.length*152≤140737488355327
structure Azo (x:Ax):Prop where
 slot:wfi x.A5
 first:wfi x.Bt
 tags:Az3 x.Dg
 chunks:Az3 x.Ae
 done:wfi x.Gu
def Bc4 (l:List Ax):Prop:=(∀x∈l,Azo x)∧l.length*72≤140737488355327
structure B2k (c:Er):Prop where
 chunks:wfi c.Ae
 size:wfi c.Eg
 slots:wfi c.C0
 tax:wfi c.E9
 slice:wfi c.C1
 gens:wfi c.Eh
structure Blb (p:Dw):Prop where
 mem:Bla p.Fy
 st:Az3 p.Hh
 own:Az3 p.Fz
structure Atj (w:Eb):Prop where
 c:B2k w.fC
 p:Blb w.fP
 l:Aix w.fL
 q:Bc4 w.fQ
 log:Az3 w.Pr
theorem Apq:140737488355328≤maxLen:=by unfold maxLen;omega
theorem A2e{α:Type}(x:Option α):Afd x x=x:=by simp[Afd]
theorem Aus (K:Nat){l:List Int}(h:l.length*8≤140737488355327):Ag3 K l=some l:=by
 have hm:=Apq;unfold Ag3;rw[Zg,if_pos ⟨by omega,by omega⟩]
 cases l with
 |nil=>exact A2e _
 |cons x l=>rfl
theorem A5q (K:Nat){l:List Int}(h:l.length≤140737488355327):Ap1 K l=some l:=by
 have hm:=Apq;unfold Ap1;rw[Zg,if_pos ⟨by omega,by omega⟩]
 cases l with
 |nil=>exact A2e _
 |cons x l=>rfl
theorem Bal (K:Nat){l:List A9}(h:l.length*24≤140737488355327):Apj K l=some l:=by
 have hm:=Apq;unfold Apj;rw[Zg,if_pos ⟨by omega,by omega⟩]
 cases l with
 |nil=>exact A2e _
 |cons x l=>rfl
theorem Bc5{α:Type}(N:Nat)(q:Nat->Bool)(g:Nat->α)(L:Nat->List α->Int->Option (List α))
  (hs: ∀n v (i:Nat),i<N->v.length≤i->L (n+1) v (i:Int)=bif q i then L n (v++[g i]) ((i+1:Nat):Int)else L n v ((i+1:Nat):Int))
  (he: ∀n v,L (n+1) v (N:Int)=some v):
  ∀(n i:Nat) (v:List α),i≤N->v.length≤i->N - i<n->L n v (i:Int)=some (v++(((List.range N).drop i).filter q).map g):=by
 intro n
 induction n with
 |zero=>intro i v _ _ h;omega
 |succ n ih=>
  intro i v hi hv hn;rcases F9 i N with h|h
  ·rw[hs n v i h hv,Z47 (by simpa using h),List.getElem_range,List.filter_cons]
   cases hq:q i with
   |true=>
    rw[cond_true,ih (i+1) _ h (by simp;omega) (by omega)]
    simp
   |false=>
    rw[cond_false,ih (i+1) _ h (by omega) (by omega)]
    simp
  ·obtain rfl:i=N:=by omega
   rw[he,Z48 (by simp)];simp
def Atk (p:Dw)(k:Int):List Int:=((List.range (min p.Hh.length p.Fz.length)).filter (fun i:Nat=>gt p.Hh i==1&&gt p.Fz i==k)).map (fun i:Nat=>(i:Int))
theorem Bbv (p:Dw)(k:Int):(Atk p k).length≤min p.Hh.length p.Fz.length:=by
 unfold Atk;rw[B8];exact To (List.length_filter_le _ _) (by simp)
theorem Az4 (p:Dw)(k:Int):(Atk p k).Pairwise (fun a b=>a<b):=by
 unfold Atk;rw[List.pairwise_map];exact(List.Pairwise.filter _ List.pairwise_lt_range).imp fun h=>by omega
theorem A2m{l:List Int}: ∀ {o:List Int},o.Nodup->(∀x∈o,x∈l)->o.length=l.length->o.Perm l:=by
 intro o
 induction o generalizing l with
 |nil=>intro _ _ h;cases l with
  |nil=>exact .nil
  |cons _ _=>simp at h
 |cons x o ih=>
  intro hn hs hl
  have hx:x∈l:=hs x (by simp)
  rw[List.nodup_cons]at hn
  have h2:o.Perm (l.erase x):=ih hn.2 (fun y hy=>by
   have hne:y≠x:=fun e=>hn.1 (e ▸ hy);exact(List.mem_erase_of_ne hne).2 (hs y (by simp[hy]))) (by rw[List.length_erase_of_mem hx];simp at hl;omega)
  exact(List.Perm.cons x h2).trans (List.perm_cons_erase hx).symm
def Azv (p:Dw)(k:Int)(l:List Int):Bool:=(Atk p k).all (fun x=>l.contains x)&&((Atk p k).length:Int)==(l.length:Int)
theorem Boe (p:Dw)(k:Int)(l:List Int):decide (l.mergeSort (fun x y=>decide (x≤y))=Atk p k)=Azv p k l:=by
 rw[Bool.eq_iff_iff];unfold Azv;simp only[decide_eq_true_eq,Z4,Z1,List.contains_iff_mem,beq_iff_eq]
 have hp:=List.mergeSort_perm l (fun x y=>decide (x≤y));constructor
 ·intro e;rw[e]at hp;exact⟨fun x hx=>hp.mem_iff.1 hx,by have:=hp.length_eq;omega⟩
 ·rintro⟨h1,h2⟩
  have hn:(Atk p k).Nodup:=(Az4 p k).imp fun h=>by omega
  have h3:=A2m hn h1 (by omega)
  refine List.Perm.eq_of_pairwise (le:=fun a b=>a≤b) (fun a b _ _ h1 h2=>by omega) ?_ ((Az4 p k).imp fun h=>by omega) (hp.trans h3.symm)
  have:=List.pairwise_mergeSort (le:=fun x y:Int=>decide (x≤y)) (fun a b c h1 h2=>by simp at *;omega) (fun a b=>by simp;omega) l
  exact this.imp fun h=>by simpa using h
theorem Beh{a b:List Int}(h:a.length=b.length):(List.range a.length).all (fun i=>gt a i==gt b i)=decide (a=b):=by
 rw[Bool.eq_iff_iff];simp only[Z1,List.mem_range,beq_iff_eq,decide_eq_true_eq];constructor
 ·intro h1;refine List.ext_getElem h fun i h2 h3=> ?_
  have:=h1 i h2
  rwa[Ael h2,Ael h3]at this
 ·rintro rfl _ _;rfl
section
variable {K:Nat} (hK:281474976710656≤K)
include hK
theorem Bei (a b:List Int)(ha:a.length≤140737488355327):Aiz K a b=some (decide (a=b)):=by
 unfold Aiz
 by_cases h:a.length=b.length
 ·rw[show((a.length:Int) != (b.length:Int))=false by simp[h],cond_false,←Beh h]
  rw[Apu hK a.length (by omega) (fun i=>gt a i==gt b i) (some true) (fun n i=>Aiy K a b n (a.length:Int) i) (fun n i hi=> ?_) (fun n=> ?_)]
  ·cases (List.range a.length).all _<;>rfl
  ·simp only[Aiy];rw[Agf hi,cond_true,if_pos (Ajz hi),if_pos (Ajz (show i<b.length by omega)),Ahl (by omega),bne,Ac2]
  ·show Aiy K a b (n+1) _ _=_;rw[Aiy,Ag0 (Z9 _),cond_false]
 ·rw[Ath (by omega),cond_true,decide_eq_false (fun e=>h (by rw[e]))]
theorem A9a (p:Dw)(k:Int)(h1:p.Hh.length*8≤140737488355327):Au3 K p k=some (Atk p k):=by
 have hm:=Apq;unfold Au3
 have:=Bc5 (min p.Hh.length p.Fz.length) (fun i:Nat=>gt p.Hh i==1&&gt p.Fz i==k) (fun i:Nat=>(i:Int)) (fun n v i=>Alf K k n v i p.Fy p.Hh p.Fz) (fun n v i hi hv=> ?_) (fun n v=> ?_) K 0 [] (Z21 _) (Z9 _) (by omega)
 ·simpa[Atk]using this
 ·have h2:(v++([(i:Int)]:List Int)).length=v.length+1:=by simp
  simp only[Alf,Ara];rw[Agf (by omega),Agf (by omega),cond_true,cond_true,if_pos (Ajz (by omega)),if_pos (Ajz (by omega)),Ahl (by omega),if_pos ⟨by rw[h2];omega,by rw[h2];omega⟩]
  cases gt p.Hh (i:Int)==1<;>cases gt p.Fz (i:Int)==k<;>rfl
 ·show Alf K k (n+1) v _ _ _ _=_;rw[Alf];rcases Nat.le_total p.Hh.length p.Fz.length with h|h
  ·rw[Nat.min_eq_left h,Ag0 (Z9 _),cond_false]
  ·rw[Nat.min_eq_right h,Ag0 (Z9 p.Fz.length),cond_false,cc]
theorem A9b (p:Dw)(k:Int)(h1:p.Hh.length*8≤140737488355327):Au9 K p k=some (Atk p k):=by
 have hm:=Apq;unfold Au9
 have e:Aaf (p.Hh.length:Int) (p.Fz.length:Int)=((min p.Hh.length p.Fz.length:Nat):Int):=by unfold Aaf;split<;>omega
 rw[e]
 have:=Bc5 (min p.Hh.length p.Fz.length) (fun i:Nat=>gt p.Hh i==1&&gt p.Fz i==k) (fun i:Nat=>(i:Int)) (fun n v i=>Alh K k n v ((min p.Hh.length p.Fz.length:Nat):Int) i p.Fy p.Hh p.Fz) (fun n v i hi hv=> ?_) (fun n v=> ?_) K 0 [] (Z21 _) (Z9 _) (by omega)
 ·simpa[Atk]using this
 ·have h2:(v++([(i:Int)]:List Int)).length=v.length+1:=by simp
  simp only[Alh,Are];rw[Agf hi,cond_true,if_pos (Ajz (by omega)),if_pos (Ajz (by omega)),Ahl (by omega),if_pos ⟨by rw[h2];omega,by rw[h2];omega⟩]
  cases gt p.Hh (i:Int)==1<;>cases gt p.Fz (i:Int)==k<;>rfl
 ·show Alh K k (n+1) v _ _ _ _ _=_;rw[Alh,Ag0 (Z9 _),cond_false]
theorem A5r (w:Eb)(k:Nat)(hk:k<w.fL.length)(h1:w.fP.Hh.length*8≤140737488355327)(h2:(gt w.fL k).Ae.length≤140737488355327):As4 K w k=some (Azv w.fP k (gt w.fL k).Ae):=by
 unfold As4;rw[A9a hK _ _ h1,Z0]
 have hl:=Bbv w.fP k;rw[Arv hK (Atk w.fP k) (by omega) (fun x=>(gt w.fL k).Ae.contains x) (some (((Atk w.fP k).length:Int)==((gt w.fL k).Ae.length:Int))) (fun n i=>Ani K k (Atk w.fP k) n i w.fC.Ae w.fC.Eg w.fC.C0 w.fC.E9 w.fC.C1 w.fC.Eh w.fP.Fy w.fP.Hh w.fP.Fz w.fL w.fQ w.Pr) (fun n i hi=> ?_) (fun n=> ?_)]
 ·rw[Ai5];rfl
 ·simp only[Ani];rw[Agf hi,cond_true,if_pos (Ajz hk),if_pos (Ajz hi),Axf hK _ _ (by omega),Z0,Ac2,Ahl (by omega),Ael hi]
 ·show Ani K k (Atk w.fP k) (n+1) _ _ _ _ _ _ _ _ _ _ _ _ _=_;rw[Ani,Ag0 (Z9 _),cond_false,if_pos (Ajz hk)]
end
def Awx (c:Er)(n:Ba):A9:=A9.mk ((n.Pq - 1)*c.Eg+n.Gt) (c.Eg - n.Gt) 0
def A5s (c:Er)(mem:List Int)(n:Ba):Bool:=
 n.Pq==0||(Ayf ((mem.drop (Awx c n).fAt.toNat).take (Awx c n).Vu.toNat)&&n.Ea.all (fun t=>Apv t (Awx c n)))
theorem Bej{c:Er}{n:Ba}(h:Aww c n=true)(h1:n.Hh=1):Ap2 c=true∧A6z c n=true:=by
 unfold Aww at h;simp only[Z4]at h;refine⟨h.1,?_⟩
 have:=h.2.2.2;rw[h1]at this;exact this
theorem Bek{c:Er}{n:Ba}(h:Aww c n=true)(h1:n.Hh≠1):A5o n=true:=by
 unfold Aww at h;simp only[Z4]at h
 have:=h.2.2.2;rw[Ath h1]at this;exact this
theorem Bvs{c:Er}{n:Ba}(hw:A1c n)(h:Aww c n=true)(h1:n.Pq≠0):n.Hh=1∧1≤n.Pq∧n.Pq≤c.Ae∧0≤n.Gt∧n.Gt≤c.Eg:=by
 by_cases h2:n.Hh=1
 ·refine⟨h2,?_⟩;obtain⟨hc,hl⟩:=Bej h h2;obtain⟨b1,_⟩:=Aem hc;unfold A6z at hl;simp only[Z4]at hl
  have hd:=hl.2.2.1.1
  have hcu:=hl.2.2.1.2;unfold Bbt at hcu;rw[Aq4 h1,cond_false,Z4,List.contains_iff_mem,Ayr]at hcu;obtain⟨i,hi,e⟩:=List.mem_iff_getElem.1 hcu.1;unfold Avo at hd;rw[Z1]at hd
  have:=hd i (by simpa using hi)
  rw[Z4,Ael hi,e,Ayr]at this
  have h3:=this.1;obtain⟨w1,w2⟩:=hw.cur;unfold Aob at h3;rw[IntKind.wrap_i64]at h3;refine⟨by omega,by omega,hcu.2.1,hcu.2.2⟩
 ·have:=Bek h h2;unfold A5o at this;simp only[Z4,beq_iff_eq]at this;exact absurd this.2.2.2.2.2.2.2.1 h1
theorem Bc6{c:Er}{p:Dw}{n:Ba}(hp:Aur c p=true)(hw:A1c n)(h:Aww c n=true)(h1:n.Pq≠0):
  Aoa .i64 (Aoc .i64 (Aob .i64 n.Pq 1) c.Eg) n.Gt=(Awx c n).fAt∧Aob .i64 c.Eg n.Gt=(Awx c n).Vu∧Aoc .i64 n.Pq c.Eg=(Awx c n).fAt+(Awx c n).Vu∧Axh (Awx c n)∧(Awx c n).fAt+(Awx c n).Vu≤(p.Fy.length:Int):=by
 obtain⟨h2,c1,c2,c3,c4⟩:=Bvs hw h h1;obtain⟨hc,hm,_⟩:=Avx hp;obtain⟨b1,b2,_⟩:=Aem hc
 have m1:=A07 (a:=n.Pq - 1) (b:=c.Eg) (m:=11) (n:=16) (by omega) (by omega) (by omega) b2.2
 have e2:n.Pq*c.Eg=(n.Pq - 1)*c.Eg+c.Eg:=by rw[Int.sub_mul,Int.one_mul];omega
 have m2:n.Pq*c.Eg≤c.Ae*c.Eg:=Int.mul_le_mul_of_nonneg_right (by omega) (by omega)
 unfold Awx Axh Aoa Aob Aoc;simp only;rw[Afe (n:=n.Pq - 1) (by omega) (by omega),Afe (n:=(n.Pq - 1)*c.Eg) (by omega) (by omega),Afe (n:=(n.Pq - 1)*c.Eg+n.Gt) (by omega) (by omega),Afe (n:=c.Eg - n.Gt) (by omega) (by omega),Afe (n:=n.Pq*c.Eg) (by omega) (by omega)]
 refine⟨rfl,rfl,by omega,⟨by omega,by omega,by omega,by omega⟩,by omega⟩
theorem A5t{c:Er}{l:List A9}{ch:List Int}(h:l.all (Ayg c ch)=true): ∀t∈l,Axh t∧1≤t.Vu:=by
 intro t ht;rw[Z1]at h
 have:=h t ht;unfold Ayg at this;rw[Z4]at this;obtain⟨h1,h2⟩:=Baj this.1;exact⟨h1,h2.2.1⟩
def A5u (w:Eb)(k:Nat):Bool:=
 Aww w.fC (gt w.fL k)&&(Azv w.fP k (gt w.fL k).Ae&&((gt w.fL k).Ea.all (Ayg w.fC (gt w.fL k).Ae)&&(Avy (gt w.fL k).Ea&&A5s w.fC w.fP.Fy (gt w.fL k))))
section
variable {K:Nat} (hK:281474976710656≤K)
include hK
theorem A2f{l:List Int}(h:Az3 l):l.length≤140737488355327:=by have:=h.2;omega
theorem Blc{l:List A9}(h:A2u l):l.length≤140737488355327:=by have:=h.2;omega
theorem Bbw (w:Eb)(k:Nat)(hk:k<w.fL.length)(hp:Aur w.fC w.fP=true)(hw:A1c (gt w.fL k))(hn:Aww w.fC (gt w.fL k)=true)(hs: ∀t∈(gt w.fL k).Ea,Axh t∧1≤t.Vu):At3 K w k=some (A5s w.fC w.fP.Fy (gt w.fL k)):=by
 unfold At3;rw[if_pos (Ajz hk)];unfold A5s
 by_cases h1:(gt w.fL k).Pq=0
 ·rw[h1];rfl
 ·rw[Aq4 h1,cond_false];obtain⟨e1,e2,e3,⟨s1,s2,s3,s4⟩,s5⟩:=Bc6 hp hw hn h1;rw[e1,e3];generalize hr:Awx w.fC (gt w.fL k)=r at *;rcases (show r.Vu=0∨1≤r.Vu by omega)with h2|h2
  ·rw[decide_eq_true (show r.fAt≥r.fAt+r.Vu by omega),cond_true,h2]
   have:(gt w.fL k).Ea.all (fun t=>Apv t r)=true:=by
    rw[Z1];intro t _;exact decide_eq_true (.inr (.inl (by omega)))
   rw[this];simp[Ayf]
  ·rw[decide_eq_false (show ¬r.fAt≥r.fAt+r.Vu by omega),cond_false]
   have hlt:=Blc hK hw.things
   have hz:List.take (r.fAt+r.Vu - r.fAt).toNat (List.drop r.fAt.toNat w.fP.Fy)=List.take r.Vu.toNat (List.drop r.fAt.toNat w.fP.Fy):=by rw[show r.fAt+r.Vu - r.fAt=r.Vu by omega]
   rw[Arv hK (gt w.fL k).Ea (by omega) (fun t=>Apv t r) (some (Ayf (List.take r.Vu.toNat (List.drop r.fAt.toNat w.fP.Fy)))) (fun m i=>Al6 K m r.fAt (r.fAt+r.Vu) i (gt w.fL k).Hh (gt w.fL k).C2 (gt w.fL k).Ly (gt w.fL k).fUp (gt w.fL k).Gq (gt w.fL k).Bt (gt w.fL k).Gr (gt w.fL k).Gs (gt w.fL k).Ae (gt w.fL k).Pq (gt w.fL k).Gt (gt w.fL k).Ea (gt w.fL k).Dg w.fC.Ae w.fC.Eg w.fC.C0 w.fC.E9 w.fC.C1 w.fC.Eh w.fP.Fy w.fP.Hh w.fP.Fz w.fL w.fQ w.Pr) (fun m i hi=> ?_) (fun m=> ?_)]
   ·rw[Ai5,Bool.and_comm];rfl
   ·simp only[Al6,Asb];obtain⟨⟨t1,t2,t3,t4⟩,t5⟩:=hs _ (Api hi);rw[Agf hi,cond_true,if_pos (Ajz hi),Ahl (by omega),←Ael hi]
    generalize gt (gt w.fL k).Ea i=t at *;unfold Aoa;rw[Afe (n:=t.fAt+t.Vu) (by omega) (by omega)]
    unfold Apv
    by_cases g1:t.fAt<r.fAt+r.Vu
    ·by_cases g2:t.fAt+t.Vu>r.fAt
     ·rw[decide_eq_true g1,decide_eq_true g2,decide_eq_false (by omega)];rfl
     ·rw[decide_eq_true g1,decide_eq_false g2,decide_eq_true (by omega)];rfl
    ·rw[decide_eq_false g1,decide_eq_true (show t.Vu≤0∨r.Vu≤0∨t.fAt+t.Vu≤r.fAt∨r.fAt+r.Vu≤t.fAt by omega)];rfl
   ·show Al6 K (m+1) _ _ _ _ _ _ _ _ _ _ _ _ _ _ _ _ _ _ _ _ _ _ _ _ _ _ _ _=_;rw[Al6,Ag0 (Z9 _),cond_false,if_pos ⟨s1,by omega,s5⟩,Azl hK _ (by simp;omega),hz,Z0]
theorem Bld (l:List Int)(h:Az3 l):Eu K l=some (l.mergeSort fun x y=>decide (x≤y)):=by
 have:=h.2;unfold Eu;rw[if_pos (by omega)]
theorem A9c (w:Eb)(hw:Atj w)(hp:Aur w.fC w.fP=true):Aqx K w=some ((List.range w.fL.length).all (A5u w)):=by
 unfold Aqx
 have hlL:=hw.l.2;rw[Apu hK w.fL.length (by omega) (A5u w) (some true) (fun m i=>Ahe K m w.fL (w.fL.length:Int) i w.fC.Ae w.fC.Eg w.fC.C0 w.fC.E9 w.fC.C1 w.fC.Eh w.fP.Fy w.fP.Hh w.fP.Fz w.fL w.fQ w.Pr) (fun m k hk=> ?_) (fun m=> ?_)]
 ·cases (List.range w.fL.length).all _<;>rfl
 ·simp only[Ahe,Ap4];rw[show Er.mk w.fC.Ae w.fC.Eg w.fC.C0 w.fC.E9 w.fC.C1 w.fC.Eh=w.fC from rfl,show Dw.mk w.fP.Fy w.fP.Hh w.fP.Fz=w.fP from rfl]
  have hn:=hw.l.1 _ (Api hk);unfold A5u;generalize hN:gt w.fL k=n at*
  have l1:=A2f hK hn.chunks
  have l2:=Blc hK hn.things
  have l3:=A2f hK hn.tags;rw[Agf hk,cond_true,if_pos (Ajz hk),Aus K hn.chunks.2,Z0,Bld hK _ hn.chunks,Z0,if_pos (List.length_mergeSort _),Bai hK _ _ l1 l2 l3,Z0,A9b hK _ _ hw.p.st.2,Ahl (by omega)]
  simp only[Z0];rw[Bei hK _ _ (by rw[List.length_mergeSort];exact l1),Boe,A6n hK _ _ l1 l2]
  simp only[Z0];cases hb:Aww w.fC n with
  |false=>rfl
  |true=>
  cases Azv w.fP k n.Ae with
  |false=>rfl
  |true=>
  cases hi:n.Ea.all (Ayg w.fC n.Ae)with
  |false=>rfl
  |true=>
  have hs:=A5t hi;rw[A6m hK _ l2 (fun t ht=>(hs t ht).1)];simp only[Z0,cond_true,Ac2,Z30];cases Avy n.Ea with
  |false=>rfl
  |true=>
  simp only[cond_true,Z30];unfold A5s
  by_cases h1:n.Pq=0
  ·rw[h1];rfl
  ·rw[Aq4 h1,cond_false,Z52];obtain⟨e1,e2,e3,s,s5⟩:=Bc6 hp hn hb h1
   have hmk:A9.mk (Awx w.fC n).fAt (Awx w.fC n).Vu 0=Awx w.fC n:=rfl;rw[e1,e2];simp only[hmk];generalize hr:Awx w.fC n=r at *;obtain⟨s1,s2,s3,s4⟩:=s
   have e4:Aoa .i64 r.fAt r.Vu=r.fAt+r.Vu:=by unfold Aoa;rw[Afe (by omega) (by omega)]
   have hC:Ag1 K n.Ea r=some (n.Ea.any (fun t=> !Apv t r)):=
    Azu hK n.Ea (by omega) (fun t=>Ap3 K t r) (fun t=> !Apv t r) (fun x hx=>by
     unfold Ap3;rw[A5p K (hs _ hx).1 ⟨s1,s2,s3,s4⟩];rfl) (Aeg K n.Ea r) (fun n N i=>rfl)
   rw[e4,if_pos ⟨s1,by omega,s5⟩,show r.fAt+r.Vu - r.fAt=r.Vu by omega,Azm hK _ (by simp;omega),hC,List.any_eq_not_all_not]
   simp only[Z0,Bool.not_not];cases Ayf (List.take r.Vu.toNat (List.drop r.fAt.toNat w.fP.Fy))<;>cases n.Ea.all (fun t=>Apv t r)<;>rfl
 ·show Ahe K (m+1) _ _ _ _ _ _ _ _ _ _ _ _ _ _ _=_;rw[Ahe,Ag0 (Z9 _),cond_false]
end
section
variable {K:Nat} (hK:281474976710656≤K)
theorem Aen{l:List Ba}(w:Aix l):l.length≤140737488355327:=by have:=w.2;omega
theorem A1d (K:Nat){α:Type}{l:List α}(hl:l.length≤140737488355327)(k:Int):Ac1 K k 0 (Aob .i64 (l.length:Int) 1)=some (decide (0≤k∧k<(l.length:Int))):=by
 unfold Ac1 Aob;rw[Afe (by omega) (by omega)]
 by_cases h:(0:Int)≤k
 ·rw[decide_eq_true (show k≥0 from h)]
  simp only[cond_true,Z7,decide_eq_decide];omega
 ·rw[decide_eq_false (show ¬k≥0 from h)]
  simp only[cond_false,Z7];exact(decide_eq_false (by omega)).symm
theorem A61 (K:Nat){α:Type}{l:List α}(hl:l.length≤140737488355327)(k:Int):Abk K k 0 (Aob .i64 (l.length:Int) 1)=some (decide (0≤k∧k<(l.length:Int))):=A1d K hl k
theorem Azw (K:Nat){l:List Ba}(hl:l.length≤140737488355327)(k:Int):An3 K l k=some (decide (0≤k∧k<(l.length:Int))):=by
 unfold An3;rw[A61 K hl];rfl
theorem A0h (K:Nat)(l:List Ba)(k:Int):An6 K l k=some (decide (1≤k∧k≤(l.length:Int))):=by
 unfold An6
 by_cases h:(1:Int)≤k
 ·rw[decide_eq_true (show k≥1 from h)]
  simp only[cond_true,Z7,decide_eq_decide];omega
 ·rw[decide_eq_false (show ¬k≥1 from h)]
  simp only[cond_false,Z7];exact(decide_eq_false (by omega)).symm
def Arq (l:List Ba)(h:Ct):Int:=if(0≤h.A5∧h.A5<(l.length:Int))∧(gt l h.A5).Hh=1∧(gt l h.A5).C2=h.C2 then h.A5 else -1
theorem Ayt (K:Nat){l:List Ba}(hl:l.length≤140737488355327)(h:Ct):Arb K l h=some (Arq l h):=by
 unfold Arb Arq;rw[A1d K hl];simp only[Z0]
 by_cases hs:0≤h.A5∧h.A5<(l.length:Int)
 ·rw[decide_eq_true hs];simp only[cond_true,if_pos hs]
  by_cases h1:(gt l h.A5).Hh=1
  ·by_cases h2:(gt l h.A5).C2=h.C2
   ·rw[if_pos ⟨hs,h1,h2⟩];simp[h1,h2]
   ·rw[if_neg (fun h=>h2 h.2.2),Ath h2];simp[h1]
  ·rw[if_neg (fun h=>h1 h.2.1),Ath h1];rfl
 ·rw[decide_eq_false hs];simp only[cond_false];rw[if_neg (fun h=>hs h.1)]
theorem A1e (K:Nat){l:List Ba}(hl:l.length≤140737488355327)(h:Ct):Asr K l h=some (Arq l h):=by
 rw[←Ayt K hl];unfold Arb Asr;rw[A1d K hl,Azw K hl]
theorem A2g{l:List Ba}{h:Ct}(h0: ¬Arq l h<0):0≤Arq l h∧Arq l h<(l.length:Int):=by
 unfold Arq at *;split at h0
 ·rename_i h1;rw[if_pos h1];exact h1.1
 ·omega
def Apc (l:List Ba):Nat->Int->List Int
 |0,_=>[]
 |n+1,k=>if 0≤k∧k<(l.length:Int)then k::Apc l n (Aob .i64 (gt l k).fUp 1)else []
theorem A9d{l:List Ba}: ∀(n:Nat) (k:Int),∀x∈Apc l n k,0≤x∧x<(l.length:Int):=by
 intro n
 induction n with
 |zero=>intro k x hx;cases hx
 |succ n ih=>
  intro k x hx;unfold Apc at hx;split at hx
  ·rename_i h;rcases D6.1 hx with rfl|hx
   ·exact h
   ·exact ih _ x hx
  ·cases hx
theorem A5v{l:List Ba}: ∀(n:Nat) (k:Int),(Apc l n k).length≤n:=by
 intro n
 induction n with
 |zero=>intro k;exact Z9 _
 |succ n ih=>
  intro k;unfold Apc;split
  ·simp only[Y9];have:=ih (Aob .i64 (gt l k).fUp 1);omega
  ·exact Z21 _
def Bbx (l:List Ba):List Int->Prop
 |x::y::r=>Aob .i64 (gt l x).fUp 1=y∧Bbx l (y::r)
 |_=>True
theorem Bby{l:List Ba}: ∀(n:Nat) (k:Int),Bbx l (Apc l n k):=by
 intro n
 induction n with
 |zero=>intro k;trivial
 |succ n ih=>
  intro k;unfold Apc;split
  ·have h1:=ih (Aob .i64 (gt l k).fUp 1);cases n with
   |zero=>trivial
   |succ n=>
    rw[Apc]at h1 ⊢;split at h1
    ·rename_i h2;rw[if_pos h2];exact⟨rfl,h1⟩
    ·rename_i h2;rw[if_neg h2];trivial
  ·trivial
theorem Bel{l:List Ba}(w:Aix l): ∀(n:Nat) (k:Int) (v:List Int),-9223372036854775808≤k∧k≤9223372036854775807->v.length≤l.length->l.length - v.length<n->Atn K l n k v=some (v++Apc l (l.length - v.length) k):=by
 have hb:l.length*152≤140737488355327:=w.2;intro n
 induction n with
 |zero=>intro k v _ _ h;omega
 |succ n ih=>
  intro k v hk hv hn;rw[Atn,A0h];simp only[Z0]
  have e:decide (1≤Aoa .i64 k 1∧Aoa .i64 k 1≤(l.length:Int))=decide (0≤k∧k<(l.length:Int)):=by
   rw[decide_eq_decide];unfold Aoa;rw[IntKind.wrap_i64];omega
  rw[e]
  by_cases hs:0≤k∧k<(l.length:Int)
  ·rw[decide_eq_true hs];simp only[cond_true];rcases F9 v.length l.length with h|h
   ·rw[Agf h];simp only[cond_true]
    have hl2:(v++[k]).length=v.length+1:=by simp
    rw[if_pos ⟨by rw[hl2];omega,by rw[hl2];unfold maxLen;omega⟩,if_pos hs,ih (Aob .i64 (gt l k).fUp 1) _ (Bvq _) (by rw[hl2];omega) (by rw[hl2];omega),hl2]
    obtain⟨m,hm⟩: ∃m,l.length - v.length=m+1:=⟨l.length - v.length - 1,by omega⟩
    rw[hm,Apc,if_pos hs,show l.length - (v.length+1)=m from by omega]
    simp
   ·rw[Ag0 h];rw[show l.length - v.length=0 from by omega]
    simp[Apc]
  ·rw[decide_eq_false hs]
   have:Apc l (l.length - v.length) k=[]:=by
    cases l.length - v.length with
    |zero=>rfl
    |succ m=>rw[Apc,if_neg hs]
   rw[this];simp
theorem Bem{l:List Ba}(w:Aix l): ∀(n:Nat) (k:Int) (v:List Int),v.length≤l.length->l.length - v.length<n->Atp K l n k v=some (v++Apc l (l.length - v.length) k):=by
 have hb:l.length*152≤140737488355327:=w.2;intro n
 induction n with
 |zero=>intro k v _ h;omega
 |succ n ih=>
  intro k v hv hn;rw[Atp,Azw K (by omega)]
  simp only[Z0]
  by_cases hs:0≤k∧k<(l.length:Int)
  ·rw[decide_eq_true hs];simp only[cond_true];rcases F9 v.length l.length with h|h
   ·rw[Agf h];simp only[cond_true]
    have hl2:(v++[k]).length=v.length+1:=by simp
    rw[if_pos ⟨by rw[hl2];omega,by rw[hl2];unfold maxLen;omega⟩,if_pos hs,ih _ _ (by rw[hl2];omega) (by rw[hl2];omega),hl2]
    obtain⟨m,hm⟩: ∃m,l.length - v.length=m+1:=⟨l.length - v.length - 1,by omega⟩
    rw[hm,Apc,if_pos hs,show l.length - (v.length+1)=m from by omega]
    simp
   ·rw[Ag0 h];rw[show l.length - v.length=0 from by omega]
    simp[Apc]
  ·rw[decide_eq_false hs]
   have:Apc l (l.length - v.length) k=[]:=by
    cases l.length - v.length with
    |zero=>rfl
    |succ m=>rw[Apc,if_neg hs]
   rw[this];simp
include hK in
theorem A0i{l:List Ba}(w:Aix l)(k:Int)(hk: -9223372036854775808≤k∧k≤9223372036854775807):Aul K l k=some (Apc l l.length k):=by
 have hb:=Aen w;unfold Aul
 have:=Bel (K:=K) w K k [] hk (Z21 _) (by simp;omega)
 simpa using this
include hK in
theorem A0j{l:List Ba}(w:Aix l)(k:Int):Aun K l k=some (Apc l l.length k):=by
 have hb:=Aen w;unfold Aun
 have:=Bem (K:=K) w K k [] (Z21 _) (by simp;omega)
 simpa using this
def Avz (l:List Ba):List Int->Bool
 |[]=>true
 |[x]=>(gt l x).Hh==1
 |x::y::r=>((gt l x).Hh==1)&&((gt l x).Gq==(gt l y).Ly)&&Avz l (y::r)
def A5w (l:List Ba)(way:List Int):Bool:=if 0<way.length then(gt l (gt way ((way.length - 1:Nat):Int))).fUp==0 else false
theorem Bam{l:List Ba}{way:List Int}(hin: ∀x∈way,0≤x∧x<(l.length:Int))(hlen:way.length≤140737488355327):
  (bif (decide ((way.length:Int)>0))then(if(0:Int)≤(Aob .i64 (way.length:Int) 1)∧(Aob .i64 (way.length:Int) 1)<(way.length:Int)then(if(0:Int)≤(gt way (Aob .i64 (way.length:Int) 1))∧(gt way (Aob .i64 (way.length:Int) 1))<(l.length:Int)then some (((gt l (gt way (Aob .i64 (way.length:Int) 1))).fUp)==0)else none)else none)else some false)=some (A5w l way):=by
 unfold A5w;rcases Qs way.length with h|h
 ·rw[decide_eq_false (show ¬(way.length:Int)>0 by omega)]
  simp only[cond_false];rw[if_neg (show ¬0<way.length by omega)]
 ·rw[if_pos h,decide_eq_true (by omega)]
  simp only[cond_true]
  have e:Aob .i64 (way.length:Int) 1=((way.length - 1:Nat):Int):=by unfold Aob;rw[Afe (by omega) (by omega)];omega
  rw[e,if_pos ⟨by omega,by omega⟩,if_pos (hin _ (Api (by omega)))]
theorem Avp{way:List Int}{i:Nat}(h:i<way.length):way.drop i=way[i]::way.drop (i+1):=by
 rw[Z47 h]
theorem Bbz{l:List Ba}{way:List Int}(hin: ∀x∈way,0≤x∧x<(l.length:Int))(hlen:way.length≤140737488355327): ∀(n i:Nat),i≤way.length->way.length - i<n->Ark K l way n way (way.length:Int) (i:Int)=some (Avz l (way.drop i)&&A5w l way):=by
 intro n
 induction n with
 |zero=>intro i _ h;omega
 |succ n ih=>
  intro i hi hn;rw[Ark];unfold Avf;rcases F9 i way.length with h|h
  ·rw[Agf h];simp only[cond_true];rw[if_pos ⟨by omega,by omega⟩,if_pos (hin _ (Api h)),Avp h,Ahl (by omega),←Ael h]
   rcases F9 (i+1) way.length with h2|h2
   ·rw[Agf h2,Avp h2,←Ael h2];simp only[cond_true];rw[if_pos (hin _ (Api h)),if_pos ⟨by omega,by omega⟩,if_pos (hin _ (Api h2)),ih (i+1) h (by omega),Avp h2,←Ael h2,Avz]
    generalize gt way ((i+1:Nat):Int)=y;generalize gt way (i:Int)=x
    by_cases c1:(gt l x).Hh=1
    ·by_cases c2:(gt l x).Gq=(gt l y).Ly
     ·simp[c1,c2]
     ·rw[Ath c2,Aq4 c2];simp[c1]
    ·rw[Ath c1,Aq4 c1];simp
   ·rw[Ag0 h2,ih (i+1) h (by omega),show way.drop (i+1)=[] from Z48 h2]
    simp only[cond_false,Avz]
    by_cases c1:(gt l (gt way (i:Int))).Hh=1
    ·simp[c1]
    ·rw[Ath c1,Aq4 c1];simp
  ·rw[Ag0 h,show way.drop i=[] from Z48 h]
   simp only[cond_false,Avz,Z30];exact Bam hin hlen
theorem Bof{l:List Ba}(w:Aix l){x y:Int}(hx:0≤x∧x<(l.length:Int))(hy:0≤y∧y<(l.length:Int))(h:Aob .i64 (gt l x).fUp 1=y):Aqt K l x=some (((gt l y).Hh==1)&&((gt l y).Ly==(gt l x).Gq)):=by
 have hl:=Aen w;unfold Aqt;rw[if_pos hx,A0h];simp only[Z0];obtain⟨hr1,hr2⟩:=(w.1 _ (Axz hx.1 hx.2)).up
 have hp:1≤(gt l x).fUp∧(gt l x).fUp≤(l.length:Int):=by
  unfold Aob at h;rw[IntKind.wrap_i64]at h;omega
 rw[decide_eq_true hp,h];simp only[cond_true];rw[if_pos hy,if_pos hy,if_pos hx];cases (gt l y).Hh==1<;>rfl
theorem Ban{l:List Ba}{y:Int}{r:List Int}(h:(gt l y).Hh≠1):Avz l (y::r)=false:=by
 cases r with
 |nil=>simp[Avz,h]
 |cons z r=>simp[Avz,h]
theorem Bb0{l:List Ba}(w:Aix l){way:List Int}(hin: ∀x∈way,0≤x∧x<(l.length:Int))(hlen:way.length≤140737488355327): ∀(n i:Nat),Bbx l (way.drop i)->i≤way.length->way.length - i<n->Arc K l way n (i:Int)=some (Avz l (way.drop i)&&A5w l way):=by
 intro n
 induction n with
 |zero=>intro i _ _ h;omega
 |succ n ih=>
  intro i hch hi hn;rw[Arc];unfold Au5;rcases F9 i way.length with h|h
  ·rw[Agf h];simp only[cond_true];rw[Avp h]at hch;rw[if_pos ⟨by omega,by omega⟩,if_pos (hin _ (Api h)),Avp h,Ahl (by omega),←Ael h]
   rcases F9 (i+1) way.length with h2|h2
   ·rw[Avp h2]at hch
    have hc1:=hch.1;rw[←Ael h,←Ael h2]at hc1;rw[Agf h2,Avp h2,←Ael h2];simp only[cond_true];rw[if_pos ⟨by omega,by omega⟩,Bof w (hin _ (Api h)) (hin _ (Api h2)) hc1,ih (i+1) (by rw[Avp h2];exact hch.2) h (by omega),Avp h2,←Ael h2,Avz]
    generalize gt way ((i+1:Nat):Int)=y;generalize gt way (i:Int)=x
    by_cases c1:(gt l x).Hh=1
    ·by_cases c3:(gt l y).Hh=1
     ·by_cases c2:(gt l x).Gq=(gt l y).Ly
      ·simp[c1,c2,c3]
      ·have c2': ¬(gt l y).Ly=(gt l x).Gq:=fun e=>c2 e.symm;rw[Aq4 c2,Aq4 c2'];simp[c1]
     ·rw[Ban c3,Aq4 c3];simp[c1]
    ·rw[Ath c1,Aq4 c1];simp
   ·rw[Ag0 h2,ih (i+1) (by rw[Z48 h2];trivial) h (by omega),show way.drop (i+1)=[] from Z48 h2]
    simp only[cond_false,Avz]
    by_cases c1:(gt l (gt way (i:Int))).Hh=1
    ·simp[c1]
    ·rw[Ath c1,Aq4 c1];simp
  ·rw[Ag0 h,show way.drop i=[] from Z48 h]
   simp only[cond_false,Avz,Z30];exact Bam hin hlen
def A2h (l:List Ba)(k:Int):Bool:=Avz l (Apc l l.length k)&&A5w l (Apc l l.length k)
include hK in
theorem Bao{l:List Ba}(w:Aix l)(k:Int)(hk: -9223372036854775808≤k∧k≤9223372036854775807):Aw3 K l k=some (A2h l k):=by
 have hb:=Aen w
 have hr:=A5v (l:=l) l.length k;unfold Aw3;rw[A0i hK w k hk];exact Bb0 w (A9d _ _) (by omega) K 0 (Bby _ _) (Z21 _) (by omega)
include hK in
theorem Bap{l:List Ba}(w:Aix l)(k:Int):Aw6 K l k=some (A2h l k):=by
 have hb:=Aen w
 have hr:=A5v (l:=l) l.length k;unfold Aw6;rw[A0j hK w k];exact Bbz (A9d _ _) (by omega) K 0 (Z21 _) (by omega)
def Avq (h:Ct):Bool:=bif decide (h.A5≥0)then decide (h.C2≥1)else false
theorem Az5 (K:Nat)(h:Ct):Ar0 K h=some (Avq h):=by
 unfold Ar0 Avq;cases decide (h.A5≥0)<;>rfl
theorem Az6 (K:Nat)(h:Ct):Ar3 K h=some (Avq h):=by
 unfold Ar3 Avq;cases decide (h.A5≥0)<;>rfl
def Az7 (l:List Ba)(h:Ct):Int×Int:=bif Avq h then(bif decide (Arq l h<0)then(-1,2)else(bif A2h l (Arq l h)then(Arq l h,0)else(-1,2)))else(-1,1)
include hK in
theorem A6p{w:Eb}(hw:Aix w.fL)(h:Ct):At4 K w h=some (Az7 w.fL h):=by
 have hb:=Aen hw;unfold At4 Az7;rw[Az5,Ayt K hb];simp only[Z0];cases Avq h with
 |false=>rfl
 |true=>
  simp only[cond_true];cases e:decide (Arq w.fL h<0)with
  |true=>rfl
  |false=>
   have h1:=A2g (of_decide_eq_false e);simp only[cond_false];rw[Bao hK hw _ ⟨by omega,by omega⟩]
   simp only[Z0];cases A2h w.fL (Arq w.fL h)<;>rfl
include hK in
theorem A6q{w:Eb}(hw:Aix w.fL)(h:Ct):Auc K w h=some (Az7 w.fL h):=by
 have hb:=Aen hw;unfold Auc Az7;rw[Az6,A1e K hb];simp only[Z0];cases Avq h with
 |false=>rfl
 |true=>
  simp only[cond_true];cases e:decide (Arq w.fL h<0)with
  |true=>rfl
  |false=>
   simp only[cond_false];rw[Bap hK hw];simp only[Z0];cases A2h w.fL (Arq w.fL h)<;>rfl
theorem Ble{l:List Ba}{h:Ct}(h0:(Az7 l h).2=0):0≤(Az7 l h).1∧(Az7 l h).1<(l.length:Int):=by
 unfold Az7 at *;cases e1:Avq h with
 |false=>rw[e1]at h0;simp at h0
 |true=>
  rw[e1]at h0;simp only[cond_true]at *;cases e:decide (Arq l h<0)with
  |true=>rw[e]at h0;simp at h0
  |false=>
   rw[e]at h0;simp only[cond_false]at *;cases e2:A2h l (Arq l h)with
   |false=>rw[e2]at h0;simp at h0
   |true=>exact A2g (of_decide_eq_false e)
end
def plB (l:List Ba)(n:Int):Bool:=decide (0≤Aob .i64 n 1∧Aob .i64 n 1<(l.length:Int))
theorem A0k{l:List Ba}{n:Int}(h:plB l n=true):0≤Aob .i64 n 1∧Aob .i64 n 1<(l.length:Int):=of_decide_eq_true h
theorem A0l (K:Nat){l:List Ba}(hl:l.length≤140737488355327)(n:Int):An3 K l (Aob .i64 n 1)=some (plB l n):=Azw K hl _
theorem Ayu (K:Nat){l:List Ba}(hl:l.length≤140737488355327){n:Int}(hn:wfi n):An6 K l n=some (plB l n):=by
 rw[A0h];unfold plB;obtain⟨h1,h2⟩:=hn
 congr 1
 rw[decide_eq_decide];unfold Aob;rw[IntKind.wrap_i64];omega
def Ay0 (l:List Ba)(k:Int):Bool:=plB l (gt l k).fUp&&((gt l (Aob .i64 (gt l k).fUp 1)).Hh==1&&(gt l (Aob .i64 (gt l k).fUp 1)).Ly==(gt l k).Gq)
theorem A2i (K:Nat){l:List Ba}(w:Aix l){k:Int}(h:0≤k∧k<(l.length:Int)):Aqt K l k=some (Ay0 l k):=by
 unfold Aqt Ay0;rw[if_pos h,Ayu K (Aen w) (w.1 _ (Axz h.1 h.2)).up,Z0,if_pos h];cases hp:plB l (gt l k).fUp with
 |false=>rfl
 |true=>
  have:=A0k hp;rw[cond_true,if_pos this,if_pos this];cases (gt l (Aob .i64 (gt l k).fUp 1)).Hh==1<;>rfl
theorem Axi (K:Nat){l:List Ba}(w:Aix l){k:Int}(h:0≤k∧k<(l.length:Int)):Aqb K l k=some (Ay0 l k):=by
 unfold Aqb Ay0;rw[if_pos h,A0l K (Aen w),Z0,if_pos h];cases hp:plB l (gt l k).fUp with
 |false=>rfl
 |true=>
  have:=A0k hp;rw[cond_true,if_pos this,if_pos this];cases (gt l (Aob .i64 (gt l k).fUp 1)).Hh==1<;>rfl
def Arr (l:List Ba)(n:Int):Bool:=n==0||(plB l n&&(gt l (Aob .i64 n 1)).Hh==1)
theorem Ayh{l:List Ba}{n:Int}(h:Arr l n=true)(h0:n≠0):0≤Aob .i64 n 1∧Aob .i64 n 1<(l.length:Int):=by
 unfold Arr at h;rw[Aq4 h0,Z52,Z4]at h;exact A0k h.1
theorem Azp (K:Nat){l:List Ba}(w:Aix l){n:Int}(hn:wfi n):Apr K l n=some (Arr l n):=by
 unfold Apr Arr;rw[Ayu K (Aen w) hn,Z0];cases n==0 with
 |true=>rfl
 |false=>
  cases hp:plB l n with
  |false=>rfl
  |true=>rw[if_pos (A0k hp)];rfl
theorem Azq (K:Nat){l:List Ba}(w:Aix l)(n:Int):Ar7 K l n=some (Arr l n):=by
 unfold Ar7 Arr;rw[A0l K (Aen w),Z0];cases n==0 with
 |true=>rfl
 |false=>
  cases hp:plB l n with
  |false=>rfl
  |true=>rw[if_pos (A0k hp)];rfl
def A63 (r:List Int):Int:=gt r ((r.length - 1:Nat):Int)
def Az8 (l:List Ba)(k:Int):Bool:=decide (((Apc l l.length k).length:Int)≤4)&& !Ay0 l (A63 (Apc l l.length k))
def A5x (l:List Ba)(k:Int):Bool:= !((gt l k).Gs==0&&Ay0 l k)||(gt l (Aob .i64 (gt l k).fUp 1)).Bt==Aoa .i64 k 1
def A9e (l:List Ba)(k:Int):Bool:=(gt l k).Gs==0||(gt l (Aob .i64 (gt l k).Gs 1)).Gr==Aoa .i64 k 1
def Bb1 (l:List Ba)(k:Int):Bool:=(gt l k).Gr==0||((gt l (Aob .i64 (gt l k).Gr 1)).Gs==Aoa .i64 k 1&&((gt l (Aob .i64 (gt l k).Gr 1)).fUp==(gt l k).fUp&&(gt l (Aob .i64 (gt l k).Gr 1)).Gq==(gt l k).Gq))
def Blf (l:List Ba)(k:Int):Bool:=(gt l k).Bt==0||((gt l (Aob .i64 (gt l k).Bt 1)).Gs==0&&((gt l (Aob .i64 (gt l k).Bt 1)).fUp==Aoa .i64 k 1&&(gt l (Aob .i64 (gt l k).Bt 1)).Gq==(gt l k).Ly))
def A2j (l:List Ba)(k:Int):Bool:=Arr l (gt l k).Bt&&(Arr l (gt l k).Gr&&(Arr l (gt l k).Gs&&((gt l k).fUp==0||plB l (gt l k).fUp)))
def Azr (l:List Ba)(k:Int):Bool:=A2j l k&&(Blf l k&&(Bb1 l k&&(A9e l k&&A5x l k)))
def A64 (l:List Ba):Bool:=(List.range l.length).all (fun k=>(gt l (k:Int)).Hh != 1||(Azr l k&&Az8 l k))
theorem Baq{l:List Ba}{k:Int}(h:0≤k∧k<(l.length:Int)):0<(Apc l l.length k).length:=by
 obtain⟨m,hm⟩: ∃m,l.length=m+1:=⟨l.length - 1,by omega⟩
 rw[hm,Apc,if_pos h];simp
theorem Bc7{l:List Ba}{k:Int}(h:0≤k∧k<(l.length:Int)):0≤A63 (Apc l l.length k)∧A63 (Apc l l.length k)<(l.length:Int):=by
 have:=Baq h;exact A9d _ _ _ (Api (by omega))
theorem Bc8{l:List Ba}(w:Aix l){k:Int}(h:0≤k∧k<(l.length:Int)):Aob .i64 ((Apc l l.length k).length:Int) 1=(((Apc l l.length k).length - 1:Nat):Int)∧(0:Int)≤(((Apc l l.length k).length - 1:Nat):Int)∧(((Apc l l.length k).length - 1:Nat):Int)<((Apc l l.length k).length:Int):=by
 have h1:=Baq h
 have h2:=A5v (l:=l) l.length k
 have h3:=Aen w;unfold Aob;rw[Afe (by omega) (by omega)]
 omega
section
variable {K:Nat} (hK:281474976710656≤K)
include hK
theorem Bog{l:List Ba}(w:Aix l){k:Int}(h:0≤k∧k<(l.length:Int)):Aq7 K l k=some (Az8 l k):=by
 have h3:=Aen w;obtain⟨e1,e2,e3⟩:=Bc8 w h;unfold Aq7;rw[A0i hK w k ⟨by omega,by omega⟩,Z0,e1,if_pos ⟨e2,e3⟩]
 have:=A2i K w (Bc7 h);unfold A63 at this;rw[this,Z0,Ai5];rfl
theorem Boh{l:List Ba}(w:Aix l){k:Int}(h:0≤k∧k<(l.length:Int)):Asm K l k (gt l k).fUp (gt l k).Gs=some (A5x l k&&Az8 l k):=by
 unfold Asm A5x;rw[A2i K w h,Bog hK w h,Z0];cases (gt l k).Gs==0 with
 |false=>rfl
 |true=>
  cases hc:Ay0 l k with
  |false=>rfl
  |true=>
   have:plB l (gt l k).fUp=true:=by unfold Ay0 at hc;rw[Z4]at hc;exact hc.1
   rw[cond_true,cond_true,if_pos (A0k this),bne,Ac2];cases (gt l (Aob .i64 (gt l k).fUp 1)).Bt==Aoa .i64 k 1<;>rfl
theorem Boi{l:List Ba}(w:Aix l){k:Int}(h:0≤k∧k<(l.length:Int))(hp:Arr l (gt l k).Gs=true):Asn K l k (gt l k).fUp (gt l k).Gs=some (A9e l k&&(A5x l k&&Az8 l k)):=by
 unfold Asn A9e;rw[Boh hK w h]
 by_cases h0:(gt l k).Gs=0
 ·rw[h0];rfl
 ·rw[Ath h0,Aq4 h0,cond_true,if_pos (Ayh hp h0),bne,Ac2];cases (gt l (Aob .i64 (gt l k).Gs 1)).Gr==Aoa .i64 k 1<;>rfl
theorem Boj{l:List Ba}(w:Aix l){k:Int}(h:0≤k∧k<(l.length:Int))(hp:Arr l (gt l k).Gs=true)(hn:Arr l (gt l k).Gr=true):Aso K l k (gt l k).fUp (gt l k).Gq (gt l k).Gr (gt l k).Gs=some (Bb1 l k&&(A9e l k&&(A5x l k&&Az8 l k))):=by
 unfold Aso Bb1;rw[Boi hK w h hp]
 by_cases h0:(gt l k).Gr=0
 ·rw[h0];rfl
 ·have hi:=Ayh hn h0;rw[Ath h0,Aq4 h0,cond_true,if_pos hi];simp only[bne,Ac2,Z52];cases (gt l (Aob .i64 (gt l k).Gr 1)).Gs==Aoa .i64 k 1<;>cases (gt l (Aob .i64 (gt l k).Gr 1)).fUp==(gt l k).fUp<;>cases (gt l (Aob .i64 (gt l k).Gr 1)).Gq==(gt l k).Gq<;>rfl
theorem Bok{l:List Ba}(w:Aix l){k:Int}(h:0≤k∧k<(l.length:Int))(hf:Arr l (gt l k).Bt=true)(hp:Arr l (gt l k).Gs=true)(hn:Arr l (gt l k).Gr=true):Asp K l k (gt l k).Hh (gt l k).C2 (gt l k).Ly (gt l k).fUp (gt l k).Gq (gt l k).Bt (gt l k).Gr (gt l k).Gs (gt l k).Ae (gt l k).Pq (gt l k).Gt (gt l k).Ea (gt l k).Dg=some (Blf l k&&(Bb1 l k&&(A9e l k&&(A5x l k&&Az8 l k)))):=by
 unfold Asp Blf;rw[Boj hK w h hp hn]
 by_cases h0:(gt l k).Bt=0
 ·rw[h0];rfl
 ·have hi:=Ayh hf h0;rw[Ath h0,Aq4 h0,cond_true,if_pos hi];simp only[bne,Ac2,Z52];cases (gt l (Aob .i64 (gt l k).Bt 1)).Gs==0<;>cases (gt l (Aob .i64 (gt l k).Bt 1)).fUp==Aoa .i64 k 1<;>cases (gt l (Aob .i64 (gt l k).Bt 1)).Gq==(gt l k).Ly<;>rfl
theorem Bb2{l:List Ba}(w:Aix l){k:Int}(h:0≤k∧k<(l.length:Int)):Aw0 K l k=some (Azr l k&&Az8 l k):=by
 have hn:=w.1 _ (Axz h.1 h.2);unfold Aw0 Azr A2j;rw[if_pos h,Ayu K (Aen w) hn.up,Azp K w hn.first,Azp K w hn.next,Azp K w hn.prev];simp only[Z0,Ac2];cases hf:Arr l (gt l k).Bt with
 |false=>cases (gt l k).fUp != 0<;>cases plB l (gt l k).fUp<;>rfl
 |true=>
 cases hx:Arr l (gt l k).Gr with
 |false=>cases (gt l k).fUp != 0<;>cases plB l (gt l k).fUp<;>rfl
 |true=>
 cases hp:Arr l (gt l k).Gs with
 |false=>cases (gt l k).fUp != 0<;>cases plB l (gt l k).fUp<;>rfl
 |true=>
 rw[Bok hK w h hf hp hx];simp only[bne];cases (gt l k).fUp==0<;>cases plB l (gt l k).fUp<;>simp only[Bool.not_true,Bool.not_false,cond_true,cond_false,Z30,Bool.false_and,Bool.true_or,Z52,Bool.and_assoc]
theorem Bar{l:List Ba}(w:Aix l):Av4 K l=some (A64 l):=by
 have hl:=Aen w;unfold Av4 A64;rw[Apu hK l.length (by omega) (fun k=>(gt l (k:Int)).Hh != 1||(Azr l k&&Az8 l k)) (some true) (fun n i=>Apd K l n i) (fun n i h=> ?_) (fun n=> ?_)]
 ·cases (List.range l.length).all _<;>rfl
 ·simp only[Apd,Aty];rw[Agf h,cond_true,if_pos (Ajz h),Bb2 hK w (Ajz h),Ahl (by omega),Z0,Ac2,bne]
  cases (gt l (i:Int)).Hh==1<;>rfl
 ·show Apd K l (n+1) _=_;rw[Apd,Ag0 (Z9 _),cond_false]
theorem Bol{l:List Ba}(w:Aix l){k:Int}(h:0≤k∧k<(l.length:Int)):Arf K l k (gt l k).fUp (gt l k).Gs=some (A5x l k):=by
 unfold Arf A5x;rw[Axi K w h,Z0,bne];cases (gt l k).Gs==0 with
 |false=>rfl
 |true=>
  cases hc:Ay0 l k with
  |false=>rfl
  |true=>
   have:plB l (gt l k).fUp=true:=by unfold Ay0 at hc;rw[Z4]at hc;exact hc.1
   rw[if_pos (A0k this)];rfl
theorem Bom{l:List Ba}(w:Aix l){k:Int}(h:0≤k∧k<(l.length:Int))(hp:Arr l (gt l k).Gs=true):Arg K l k (gt l k).fUp (gt l k).Gs=some (A9e l k&&A5x l k):=by
 unfold Arg A9e;rw[Bol hK w h]
 by_cases h0:(gt l k).Gs=0
 ·rw[h0];rfl
 ·rw[Ath h0,Aq4 h0,cond_true,if_pos (Ayh hp h0),bne,Ac2];cases (gt l (Aob .i64 (gt l k).Gs 1)).Gr==Aoa .i64 k 1<;>rfl
theorem Bon{l:List Ba}(w:Aix l){k:Int}(h:0≤k∧k<(l.length:Int))(hp:Arr l (gt l k).Gs=true)(hn:Arr l (gt l k).Gr=true):Arh K l k (gt l k).fUp (gt l k).Gq (gt l k).Gr (gt l k).Gs=some (Bb1 l k&&(A9e l k&&A5x l k)):=by
 unfold Arh Bb1;rw[Bom hK w h hp]
 by_cases h0:(gt l k).Gr=0
 ·rw[h0];rfl
 ·have hi:=Ayh hn h0;rw[Ath h0,Aq4 h0,cond_true,if_pos hi];simp only[bne,Ac2,Z52];cases (gt l (Aob .i64 (gt l k).Gr 1)).Gs==Aoa .i64 k 1<;>cases (gt l (Aob .i64 (gt l k).Gr 1)).fUp==(gt l k).fUp<;>cases (gt l (Aob .i64 (gt l k).Gr 1)).Gq==(gt l k).Gq<;>rfl
theorem Boo{l:List Ba}(w:Aix l){k:Int}(h:0≤k∧k<(l.length:Int))(hf:Arr l (gt l k).Bt=true)(hp:Arr l (gt l k).Gs=true)(hn:Arr l (gt l k).Gr=true):Ari K l k (gt l k).Hh (gt l k).C2 (gt l k).Ly (gt l k).fUp (gt l k).Gq (gt l k).Bt (gt l k).Gr (gt l k).Gs (gt l k).Ae (gt l k).Pq (gt l k).Gt (gt l k).Ea (gt l k).Dg=some (Blf l k&&(Bb1 l k&&(A9e l k&&A5x l k))):=by
 unfold Ari Blf;rw[Bon hK w h hp hn]
 by_cases h0:(gt l k).Bt=0
 ·rw[h0];rfl
 ·have hi:=Ayh hf h0;rw[Ath h0,Aq4 h0,cond_true,if_pos hi];simp only[bne,Ac2,Z52];cases (gt l (Aob .i64 (gt l k).Bt 1)).Gs==0<;>cases (gt l (Aob .i64 (gt l k).Bt 1)).fUp==Aoa .i64 k 1<;>cases (gt l (Aob .i64 (gt l k).Bt 1)).Gq==(gt l k).Ly<;>rfl
theorem A9f{l:List Ba}(w:Aix l){k:Int}(h:0≤k∧k<(l.length:Int)):Avc K l k=some (Azr l k):=by
 unfold Avc Azr A2j;rw[if_pos h,A0l K (Aen w),Azq K w,Azq K w,Azq K w];simp only[Z0,Ac2];cases hf:Arr l (gt l k).Bt with
 |false=>rfl
 |true=>
 cases hx:Arr l (gt l k).Gr with
 |false=>rfl
 |true=>
 cases hp:Arr l (gt l k).Gs with
 |false=>rfl
 |true=>
 rw[Boo hK w h hf hp hx];simp only[bne];cases (gt l k).fUp==0<;>cases plB l (gt l k).fUp<;>simp only[Bool.not_true,Bool.not_false,cond_true,cond_false,Z30,Bool.false_and,Bool.true_or,Z52,Bool.and_assoc]
theorem Bas{l:List Ba}(w:Aix l):Av9 K l=some (A64 l):=by
 have hl:=Aen w;unfold Av9 A64;rw[Apu hK l.length (by omega) (fun k=>(gt l (k:Int)).Hh != 1||(Azr l k&&Az8 l k)) (some true) (fun n i=>Apg K l n l (l.length:Int) i) (fun n i h=> ?_) (fun n=> ?_)]
 ·cases (List.range l.length).all _<;>rfl
 ·have hc:=Ajz h;obtain⟨e1,e2,e3⟩:=Bc8 w hc
  have e4:=Axi K w (Bc7 hc);unfold A63 at e4
  have e5:decide (((Apc l l.length i).length:Int)>4)= !decide (((Apc l l.length i).length:Int)≤4):=by rw[←decide_not];congr 1;simp
  simp only[Apg,At9];rw[Agf h,cond_true,if_pos hc,A9f hK w hc,Ahl (by omega),Z0,A0j hK w,Z0,e1,if_pos ⟨e2,e3⟩,e4,Z0,e5]
  unfold Az8 A63;simp only[Ac2,bne];cases (gt l (i:Int)).Hh==1<;>cases Azr l i<;>cases decide (((Apc l l.length i).length:Int)≤4)<;>cases Ay0 l (gt (Apc l l.length i) (((Apc l l.length i).length - 1:Nat):Int))<;>rfl
 ·show Apg K l (n+1) _ _ _=_;rw[Apg,Ag0 (Z9 _),cond_false]
end
theorem A65{c:Er}(hc:Ap2 c=true):Aob .i64 c.Eg 1=c.Eg - 1:=by
 obtain⟨_,b2,_⟩:=Aem hc;unfold Aob;rw[Afe (by omega) (by omega)]
def Asw (c:Er)(x:Ax):Bool:=
 Ap2 c&&(inB x.A5 0 c.C0&&(inB x.Bt 0 c.C0&&(decide ((x.Dg.length:Int)≤6)&&(x.Dg.all (fun y=>inB y 0 255)&&(Avo c x.Ae&&(inB x.Gu 0 (c.Eg - 1)&&(decide ((x.Ae.length:Int)>0)||x.Gu==0)))))))
section
variable {K:Nat} (hK:281474976710656≤K)
include hK
theorem A6r (c:Er)(x:Ax)(hw:Azo x):Au0 K c x=some (Asw c x):=by
 have h1:=A2f hK hw.tags
 have h2:=A2f hK hw.chunks;unfold Au0 As2;rw[Awo];simp only[Z0,Asi];cases hc:Ap2 c with
 |false=>simp[Asw,hc]
 |true=>
 have hA:Anp K c x.Ae K 0=some (Avo c x.Ae):=by
  rw[Apu hK x.Ae.length (by omega) (fun i=>inB (gt x.Ae i) 0 (c.Ae - 1)&& !(x.Ae.take i).contains (gt x.Ae i)) (some true) (fun k i=>Anp K c x.Ae k i) (fun k i h=> ?_) (fun k=> ?_)]
  ·unfold Avo;cases (List.range x.Ae.length).all _<;>rfl
  ·have hp:(x.Ae.take i).length≤140737488355328:=by simp;omega
   simp only[Anp];rw[Agf h,cond_true,if_pos (Ajz h),Asi,if_pos (Bag (by omega)),A5n,Axf hK _ _ hp,Ahl (by omega),A2d hK hc]
   simp only[Z0,if_pos (Ajz h)];cases inB (gt x.Ae i) 0 (c.Ae - 1)<;>cases (x.Ae.take i).contains (gt x.Ae i)<;>rfl
  ·show Anp K c x.Ae (k+1) _=_;rw[Anp,Ag0 (Z9 _),cond_false]
 have hB:Apm K c x.Dg x.Ae K 0=some (x.Dg.all (fun y=>inB y 0 255)&&Avo c x.Ae):=by
  rw[Arv hK x.Dg (by omega) (fun y=>inB y 0 255) (some (Avo c x.Ae)) (Apm K c x.Dg x.Ae) (fun k i h=> ?_) (fun k=> ?_)]
  ·rw[Ai5]
  ·rw[Apm,Agf h,cond_true,if_pos (Ajz h),Ael h,Asi,Ahl (by omega),Z0,Ac2]
  ·rw[Apm,Ag0 (Z9 _),cond_false,hA]
 rw[hB,A65 hc]
 have e6:decide ((x.Dg.length:Int)>6)= !decide ((x.Dg.length:Int)≤6):=by rw[←decide_not];congr 1;simp
 have e0:decide ((x.Ae.length:Int)>0)= !((x.Ae.length:Int)==0):=by
  rw[Bool.eq_iff_iff];simp only[decide_eq_true_eq,Zh,beq_eq_false_iff_ne];omega
 unfold Asw;simp only[cond_true,e6,e0,Ac2,bne,hc,Z30];cases (x.Ae.length:Int)==0 with
 |true=>
  simp only[cond_true,Bool.not_true,Z52,Ai5,Z7]
  ac_rfl
 |false=>
  simp only[cond_false,Bool.not_false,Bool.true_or,Ai5,Z7,Bool.and_true]
  ac_rfl
theorem A6s (c:Er)(x:Ax)(hw:Azo x):Avd K c x=some (Asw c x):=by
 have h1:=A2f hK hw.tags
 have h2:=A2f hK hw.chunks;unfold Avd;rw[Azk];simp only[Z0,Auq];cases hc:Ap2 c with
 |false=>simp[Asw,hc]
 |true=>
 rw[Ax9 hK _ (by omega),Az2 hK hc _ h2,A65 hc]
 unfold Asw;simp only[Z0,cond_true,hc,Z30,Axe,Ai5]
end
theorem Avr{c:Er}{x:Ax}(h:Asw c x=true):Ap2 c=true∧(0≤x.A5∧x.A5≤c.C0)∧(0≤x.Bt∧x.Bt≤c.C0)∧Avo c x.Ae=true∧(0≤x.Gu∧x.Gu≤c.Eg - 1):=by
 unfold Asw at h;simp only[Z4,Ayr]at h;exact⟨h.1,h.2.1,h.2.2.1,h.2.2.2.2.2.1,h.2.2.2.2.2.2.1⟩
theorem A2v{c:Er}{l:List Int}(h:Avo c l=true): ∀x∈l,0≤x∧x<c.Ae:=by
 intro x hx;obtain⟨i,hi,e⟩:=List.mem_iff_getElem.1 hx;unfold Avo at h;rw[Z1]at h
 have:=h i (by simpa using hi)
 rw[Z4,Ael hi,e,Ayr]at this;omega
theorem A5y{l:List Int}:l.Nodup ↔ ∀i,(h:i<l.length)->l[i] ∉ l.take i:=by
 unfold List.Nodup;rw[List.pairwise_iff_getElem];constructor
 ·intro h i hi hm;obtain⟨j,hj,e⟩:=List.mem_iff_getElem.1 hm;rw[List.getElem_take]at e;simp only[List.length_take]at hj;exact h j i (by omega) hi (by omega) e
 ·intro h i j hi hj hij e;exact h j hj (List.mem_iff_getElem.2 ⟨i,by simp;omega,by rw[List.getElem_take];exact e⟩)
theorem A5z{c:Er}{l:List Int}(h:Avo c l=true):l.Nodup:=by
 rw[A5y];intro i hi hm;unfold Avo at h;rw[Z1]at h
 have:=h i (by simpa using hi)
 rw[Z4,Ael hi,Zh,List.contains_eq_mem]at this;exact absurd hm (of_decide_eq_false this.2)
theorem A0m{l:List Int}: ∀ {o:List Int},o.Nodup->(∀x∈o,x∈l)->o.length≤l.length:=by
 intro o
 induction o generalizing l with
 |nil=>intro _ _;exact Z21 _
 |cons x o ih=>
  intro hn hs
  have hx:x∈l:=hs x (by simp)
  rw[List.nodup_cons]at hn
  have h2:=ih (l:=l.erase x) hn.2 (fun y hy=>by
   have hne:y≠x:=fun e=>hn.1 (e ▸ hy);exact(List.mem_erase_of_ne hne).2 (hs y (by simp[hy])))
  rw[List.length_erase_of_mem hx]at h2
  have:0<l.length:=List.length_pos_of_mem hx;simp only[Y9];omega
theorem A50{c:Er}(hc:Ap2 c=true){l:List Int}(h:Avo c l=true):l.length≤12:=by
 obtain⟨b1,_⟩:=Aem hc
 have:=A0m (l:=(List.range 12).map (fun i:Nat=>(i:Int))) (A5z h) (fun x hx=>by
  have:=A2v h x hx;rw[Eo];exact⟨x.toNat,by simp;omega,by omega⟩)
 simpa using this
def Awy (l:List Ba):Nat->Int->List Int
 |0,_=>[]
 |n+1,k=>if 0≤k∧k<(l.length:Int)then k::Awy l n (Aob .i64 (gt l k).Gr 1)else []
theorem A51{l:List Ba}: ∀(n:Nat) (k:Int),∀x∈Awy l n k,0≤x∧x<(l.length:Int):=by
 intro n
 induction n with
 |zero=>intro k x hx;cases hx
 |succ n ih=>
  intro k x hx;unfold Awy at hx;split at hx
  ·rename_i h;rcases D6.1 hx with rfl|hx
   ·exact h
   ·exact ih _ x hx
  ·cases hx
theorem Azx{l:List Ba}: ∀(n:Nat) (k:Int),(Awy l n k).length≤n:=by
 intro n
 induction n with
 |zero=>intro k;exact Z9 _
 |succ n ih=>
  intro k;unfold Awy;split
  ·simp only[Y9];have:=ih (Aob .i64 (gt l k).Gr 1);omega
  ·exact Z21 _
def Al7 (l:List Ba)(first:Int):List Int:=Awy l l.length (Aob .i64 first 1)
def Awp (l:List Ba)(k:Int):Bool:=(gt l k).Hh==1&&((gt l k).fUp != 0&& !Ay0 l k)
theorem A2n (K:Nat){l:List Ba}(w:Aix l){k:Int}(h:0≤k∧k<(l.length:Int)):Aq8 K l k=some (Awp l k):=by
 unfold Aq8 Awp;rw[if_pos h,if_pos h,A2i K w h,Z0,Ai5,Ai5]
theorem A2o (K:Nat){l:List Ba}(w:Aix l){k:Int}(h:0≤k∧k<(l.length:Int)):Aqs K l k=some (Awp l k):=by
 unfold Aqs Awp;rw[if_pos h,if_pos h,Axi K w h,Z0,Ai5,Ai5]
section
variable {K:Nat} (hK:281474976710656≤K)
theorem Ben{l:List Ba}(w:Aix l): ∀(n:Nat) (k:Int) (v:List Int),wfi k->v.length≤l.length->l.length - v.length<n->Arz K l n k v=some (v++Awy l (l.length - v.length) (Aob .i64 k 1)):=by
 have hm:=Apq
 have hb:l.length*152≤140737488355327:=w.2;intro n
 induction n with
 |zero=>intro k v _ _ h;omega
 |succ n ih=>
  intro k v hk hv hn;rw[Arz,Ayu K (Aen w) hk];simp only[Z0]
  by_cases hs:0≤Aob .i64 k 1∧Aob .i64 k 1<(l.length:Int)
  ·rw[show plB l k=true from decide_eq_true hs]
   simp only[cond_true];rcases F9 v.length l.length with h|h
   ·rw[Agf h];simp only[cond_true]
    have hl2:(v++[Aob .i64 k 1]).length=v.length+1:=by simp
    rw[if_pos ⟨by rw[hl2];omega,by rw[hl2];omega⟩,if_pos hs,ih (gt l (Aob .i64 k 1)).Gr _ (w.1 _ (Axz hs.1 hs.2)).next (by rw[hl2];omega) (by rw[hl2];omega),hl2]
    obtain⟨m,hm⟩: ∃m,l.length - v.length=m+1:=⟨l.length - v.length - 1,by omega⟩
    rw[hm,Awy,if_pos hs,show l.length - (v.length+1)=m from by omega]
    simp
   ·rw[Ag0 h];rw[show l.length - v.length=0 from by omega]
    simp[Awy]
  ·rw[show plB l k=false from decide_eq_false hs]
   have:Awy l (l.length - v.length) (Aob .i64 k 1)=[]:=by
    cases l.length - v.length with
    |zero=>rfl
    |succ m=>rw[Awy,if_neg hs]
   rw[this];simp
theorem Beo{l:List Ba}(w:Aix l): ∀(n:Nat) (k:Int) (v:List Int),v.length≤l.length->l.length - v.length<n->Ar2 K l n v k=some (v++Awy l (l.length - v.length) k):=by
 have hm:=Apq
 have hb:l.length*152≤140737488355327:=w.2;intro n
 induction n with
 |zero=>intro k v _ h;omega
 |succ n ih=>
  intro k v hv hn;rw[Ar2,Azw K (by omega)]
  simp only[Z0]
  by_cases hs:0≤k∧k<(l.length:Int)
  ·rw[decide_eq_true hs];simp only[cond_true];rcases F9 v.length l.length with h|h
   ·rw[Agf h];simp only[cond_true]
    have hl2:(v++[k]).length=v.length+1:=by simp
    rw[if_pos ⟨by rw[hl2];omega,by rw[hl2];omega⟩,if_pos hs,ih _ _ (by rw[hl2];omega) (by rw[hl2];omega),hl2]
    obtain⟨m,hm⟩: ∃m,l.length - v.length=m+1:=⟨l.length - v.length - 1,by omega⟩
    rw[hm,Awy,if_pos hs,show l.length - (v.length+1)=m from by omega]
    simp
   ·rw[Ag0 h];rw[show l.length - v.length=0 from by omega]
    simp[Awy]
  ·rw[decide_eq_false hs]
   have:Awy l (l.length - v.length) k=[]:=by
    cases l.length - v.length with
    |zero=>rfl
    |succ m=>rw[Awy,if_neg hs]
   rw[this];simp
include hK
theorem A2p{l:List Ba}(w:Aix l){k:Int}(hk:wfi k):Ato K l k=some (Al7 l k):=by
 have hb:=Aen w;unfold Ato Al7
 have:=Ben (K:=K) w K k [] hk (Z21 _) (by simp;omega)
 simpa using this
theorem Bat{l:List Ba}(w:Aix l)(k:Int):Awa K l k=some (Al7 l k):=by
 have hb:=Aen w;unfold Awa Al7
 have:=Beo (K:=K) w K (Aob .i64 k 1) [] (Z21 _) (by simp;omega)
 simpa using this
def A1f (w:Eb)(x:Ax):Bool:= !decide ((x.Ae.length:Int)>0)||Ayf ((w.fP.Fy.drop (gt x.Ae 0*w.fC.Eg).toNat).take x.Gu.toNat)
def Avs (w:Eb)(x:Ax):Bool:=x.A5==0||(gt w.fL (Aob .i64 x.A5 1)).Hh==2
def Awq (w:Eb)(x:Ax):Bool:=x.Bt==0||(gt w.fL (Aob .i64 x.Bt 1)).Gs==0
def Azy (w:Eb)(x:Ax):Bool:=x.Ae.all (fun k=>gt w.fP.Hh k==2)
def Arx (w:Eb)(x:Ax):Bool:=(Al7 w.fL x.Bt).all (Awp w.fL)
def Ant (w:Eb)(x:Ax):Bool:=Asw w.fC x&&(Azy w x&&(A1f w x&&(Avs w x&&(Awq w x&&Arx w x))))
theorem A1g{w:Eb}(hL:(w.fL.length:Int)=w.fC.C0)(hc:Ap2 w.fC=true){n:Int}(h0:n≠0)(h1:0≤n)(h2:n≤w.fC.C0):0≤Aob .i64 n 1∧Aob .i64 n 1<(w.fL.length:Int):=by
 obtain⟨_,_,b3,_⟩:=Aem hc;unfold Aob;rw[Afe (by omega) (by omega)]
 omega
theorem A6t (w:Eb)(hw:Atj w)(hp:Aur w.fC w.fP=true)(hL:(w.fL.length:Int)=w.fC.C0)(i:Nat)(hi:i<w.fQ.length):Atz K w i=some (Ant w (gt w.fQ i)):=by
 have hx:=hw.q.1 _ (Api hi);unfold Atz;rw[if_pos (Ajz hi)];generalize gt w.fQ i=x at *;rw[A6r hK _ _ hx,Z0,Ac2];unfold Ant;cases hr:Asw w.fC x with
 |false=>rfl
 |true=>
 rw[cond_true,Z30];obtain⟨hc,⟨s1,s2⟩,⟨f1,f2⟩,hd,d1,d2⟩:=Avr hr;obtain⟨_,hm,hst,_⟩:=Avx hp;obtain⟨b1,b2,b3,_⟩:=Aem hc
 have hch:=A2v hd
 have hl:=A2f hK hx.chunks
 have h3:Aok K x.Bt w.fL=some (Arx w x):=by
  unfold Aok Arx
  have hk:=Azx (l:=w.fL) w.fL.length (Aob .i64 x.Bt 1)
  have hin:=A51 (l:=w.fL) w.fL.length (Aob .i64 x.Bt 1);rw[A2p hK hw.l hx.first,Z0];change (Al7 w.fL x.Bt).length≤_ at hk;change ∀y∈Al7 w.fL x.Bt,_ at hin;generalize Al7 w.fL x.Bt=r at *;rw[Arv hK r (by omega) (Awp w.fL) (some true) (Apx K w.fL r) (fun n i h=> ?_) (fun n=> ?_)]
  ·cases r.all _<;>rfl
  ·rw[Apx,Agf h,cond_true,if_pos (Ajz h),A2n K hw.l (hin _ (Api h)),Ahl (by omega),Z0,Ac2,Ael h]
  ·rw[Apx,Ag0 (Z9 _),cond_false]
 have h2:Aqu K x.A5 x.Bt w.fL=some (Avs w x&&(Awq w x&&Arx w x)):=by
  unfold Aqu Avs Awq;rw[h3]
  by_cases g1:x.Bt=0
  ·rw[g1]
   by_cases g2:x.A5=0
   ·rw[g2];rfl
   ·rw[Ath g2,Aq4 g2,cond_true,if_pos (A1g hK hL hc g2 s1 s2)];simp only[bne,Ac2,Z52];cases (gt w.fL (Aob .i64 x.A5 1)).Hh==2<;>rfl
  ·have hF:(bif (x.Bt != 0)then(if(0:Int)≤(Aob .i64 x.Bt 1)∧(Aob .i64 x.Bt 1)<(w.fL.length:Int)then(bif (((gt w.fL (Aob .i64 x.Bt 1)).Gs) != 0)then some false else some (Arx w x))else none)else some (Arx w x))=some ((x.Bt==0||(gt w.fL (Aob .i64 x.Bt 1)).Gs==0)&&Arx w x):=by
    rw[Ath g1,Aq4 g1,cond_true,if_pos (A1g hK hL hc g1 f1 f2)];simp only[bne,Ac2,Z52,Ai5]
   rw[hF]
   by_cases g2:x.A5=0
   ·rw[g2];rfl
   ·rw[Ath g2,Aq4 g2,cond_true,if_pos (A1g hK hL hc g2 s1 s2)];simp only[bne,Ac2,Z52,Ai5]
 rw[Arv hK x.Ae (by omega) (fun k=>gt w.fP.Hh k==2) (some (A1f w x&&(Avs w x&&(Awq w x&&Arx w x)))) (fun n i=>Aou K n i x.A5 x.Bt x.Dg x.Ae x.Gu w.fC.Ae w.fC.Eg w.fC.C0 w.fC.E9 w.fC.C1 w.fC.Eh w.fP.Fy w.fP.Hh w.fP.Fz w.fL w.fQ w.Pr) (fun n i h=> ?_) (fun n=> ?_)]
 ·rw[Ai5];rfl
 ·simp only[Aou]
  have h5:=hch _ (Api h);rw[Agf h,cond_true,if_pos (Ajz h),if_pos ⟨h5.1,by omega⟩,Ahl (by omega),bne,Ac2,Ael h]
 ·show Aou K (n+1) _ _ _ _ _ _ _ _ _ _ _ _ _ _ _ _ _ _=_;rw[Aou,Ag0 (Z9 _),cond_false,h2];unfold A1f
  by_cases g:(x.Ae.length:Int)>0
  ·have h5:=hch _ (Axz (l:=x.Ae) (Int.le_refl 0) (by omega))
   obtain⟨e1,e2,e3,e4⟩:=A08 hc hm h5.1 h5.2
   have e5:Aoa .i64 (gt x.Ae 0*w.fC.Eg) x.Gu=gt x.Ae 0*w.fC.Eg+x.Gu:=by
    have:=A07 (a:=gt x.Ae 0) (b:=w.fC.Eg) (m:=12) (n:=16) h5.1 (by omega) (by omega) b2.2
    unfold Aoa;rw[Afe (by omega) (by omega)]
   rw[decide_eq_true g,cond_true,if_pos ⟨by omega,by omega⟩,if_pos ⟨by omega,by omega⟩,e1,e5,if_pos ⟨e3,by omega,by omega⟩,Azl hK _ (by simp;omega),show gt x.Ae 0*w.fC.Eg+x.Gu - gt x.Ae 0*w.fC.Eg=x.Gu by omega]
   simp only[Z0,Ac2,Ai5,Bool.not_true,Z52]
  ·rw[decide_eq_false g];rfl
end
def Ak3 (N:Nat)(l:List Int):List Int:=(List.range N).map (fun k:Nat=>((l.count (k:Int):Nat):Int))
theorem Azs (N:Nat)(l:List Int):(Ak3 N l).length=N:=by simp[Ak3]
theorem Ayv{N:Nat}{l:List Int}{x:Int}(h0:0≤x)(h1:x<N):gt (Ak3 N l) x=((l.count x:Nat):Int):=by
 obtain⟨k,rfl⟩: ∃k:Nat,x=k:=⟨x.toNat,by omega⟩
 rw[Ael (by rw[Azs];omega)]
 simp[Ak3]
theorem Bau (N:Nat):Ak3 N []=List.replicate N 0:=by
 refine List.ext_getElem (by simp[Ak3]) fun i h1 h2=> ?_
 simp[Ak3]
theorem Bav{N:Nat}{l:List Int}{x:Int}(h0:0≤x)(h1:x<N)(hl:l.length≤140737488355327):(Ak3 N l).set x.toNat (Aoa .i64 (gt (Ak3 N l) x) 1)=Ak3 N (l++[x]):=by
 have hc:l.count x≤l.length:=List.count_le_length
 have e:Aoa .i64 (gt (Ak3 N l) x) 1=((l.count x+1:Nat):Int):=by
  rw[Ayv h0 h1,Ahl (by omega)]
 rw[e];refine List.ext_getElem (by simp[Ak3]) fun i h2 h3=> ?_
 rw[List.getElem_set];simp only[Ak3,List.getElem_map,List.getElem_range,List.count_append,List.count_singleton]
 by_cases hi:x.toNat=i
 ·rw[if_pos hi]
  have:x=(i:Int):=by omega
  simp[this]
 ·rw[if_neg hi]
  have: ¬x=(i:Int):=by omega
  simp[this]
theorem A52{C P:List Int}(hs: ∀x∈C,x∈P)(hP:P.Nodup):(∀x∈P,C.count x=1) ↔ (C.Nodup∧C.length=P.length):=by
 constructor
 ·intro h
  have hn:C.Nodup:=by
   rw[List.nodup_iff_count];intro a
   by_cases ha:a∈C
   ·rw[h a (hs a ha)];omega
   ·rw[List.count_eq_zero_of_not_mem ha];omega
  refine⟨hn,?_⟩
  have h1:=A0m hn hs
  have h2:=A0m hP (l:=C) (fun x hx=>List.count_pos_iff.1 (by rw[h x hx];omega))
  omega
 ·rintro⟨hn,hl⟩ x hx
  have hp:=A2m hn hs hl
  have:=hn.count (a:=x);rw[this,if_pos (hp.mem_iff.2 hx)]
def chL (q:List Ax):List Int:=q.flatMap (fun x=>x.Ae)
def slL (q:List Ax):List Int:=q.flatMap (fun x=>if x.A5=0 then []else [Aob .i64 x.A5 1])
def kdL (l:List Ba)(q:List Ax):List Int:=q.flatMap (fun x=>Al7 l x.Bt)
theorem Aw9{α β:Type}(q:List α)(f:α->List β)(i:Nat)(h:i<q.length):(q.take (i+1)).flatMap f=(q.take i).flatMap f++f q[i]:=by
 rw[←List.take_append_getElem h,List.flatMap_append];simp
theorem A1h{α β:Type}(q:List α)(f:α->List β)(m:Nat)(h: ∀x∈q,(f x).length≤m):(q.flatMap f).length≤q.length*m:=by
 induction q with
 |nil=>simp
 |cons x q ih=>
  have h1:=h x (by simp)
  have h2:=ih fun y hy=>h y (by simp[hy])
  simp only[List.flatMap_cons,Ln,Y9,Hw,Nat.one_mul];omega
def A2q (w:Eb):List Int:=((List.range w.fP.Hh.length).filter (fun k:Nat=>gt w.fP.Hh k==2)).map (fun k:Nat=>(k:Int))
def Az9 (w:Eb):List Int:=((List.range w.fL.length).filter (fun k:Nat=>(gt w.fL k).Hh==2)).map (fun k:Nat=>(k:Int))
def A53 (w:Eb):List Int:=((List.range w.fL.length).filter (fun k:Nat=>Awp w.fL k)).map (fun k:Nat=>(k:Int))
theorem A0n (N:Nat)(p:Nat->Bool):(((List.range N).filter p).map (fun k:Nat=>(k:Int))).Nodup:=by
 unfold List.Nodup;rw[List.pairwise_map];exact(List.Pairwise.filter _ List.pairwise_lt_range).imp fun h=>by omega
theorem Avt{N:Nat}{p:Nat->Bool}{x:Int}:x∈((List.range N).filter p).map (fun k:Nat=>(k:Int)) ↔ (0≤x∧x<(N:Int))∧p x.toNat=true:=by
 simp only[Eo,List.mem_filter,List.mem_range];constructor
 ·rintro⟨k,⟨h1,h2⟩,rfl⟩;exact⟨⟨by omega,by omega⟩,by simpa using h2⟩
 ·rintro⟨⟨h1,h2⟩,h3⟩;exact⟨x.toNat,⟨by omega,h3⟩,by omega⟩
def Awf (w:Eb)(N:Nat):Bool:=
 (List.range w.fP.Hh.length).all (fun k=> !(gt w.fP.Hh k==2)||gt (Ak3 N (chL w.fQ)) k==1)&&
 (List.range w.fL.length).all (fun k=>(!((gt w.fL k).Hh==2)||gt (Ak3 w.fL.length (slL w.fQ)) k==1)&&(!Awp w.fL k||gt (Ak3 w.fL.length (kdL w.fL w.fQ)) k==1))
def A0o (q:List Ax)(i k:Nat):Bool:= !((gt q i).A5 != 0&&(gt q k).A5==(gt q i).A5)&&(gt q i).Ae.all (fun y=> !(gt q k).Ae.contains y)
def A9g (q:List Ax):Bool:=(List.range q.length).all (fun i=>(List.range i).all (fun k=>A0o q i k))
def A2k (l:List Int):Bool:=(List.range l.length).all (fun i=> !(l.take i).contains (gt l i))
def A2w (w:Eb):Bool:=
 A9g w.fQ&&(A2k (kdL w.fL w.fQ)&&((((chL w.fQ).length:Int)==((A2q w).length:Int))&&((((slL w.fQ).length:Int)==((Az9 w).length:Int))&&(((kdL w.fL w.fQ).length:Int)==((A53 w).length:Int)))))
theorem Bb3 (l:List Int):A2k l=true ↔ l.Nodup:=by
 rw[A5y];unfold A2k;simp only[Z1,List.mem_range,Zh,List.contains_eq_mem,decide_eq_false_iff_not];exact⟨fun h i hi=>by have:=h i hi;rwa[Ael hi]at this,fun h i hi=>by rw[Ael hi];exact h i hi⟩
theorem Baw{w:Eb}{q:List Ax}(h1: ∀x∈q,x.Ae.Nodup)(h2: ∀x∈q,0≤x.A5∧x.A5≤8):A9g q=true ↔ (chL q).Nodup∧(slL q).Nodup:=by
 unfold chL slL List.Nodup;rw[List.pairwise_flatMap,List.pairwise_flatMap,List.pairwise_iff_getElem,List.pairwise_iff_getElem]
 have hs: ∀x∈q,List.Pairwise (fun a b:Int=>a≠b) (if x.A5=0 then []else [Aob .i64 x.A5 1]):=by
  intro x _;split<;>simp
 have hsub: ∀x∈q,Aob .i64 x.A5 1=x.A5 - 1:=by
  intro x hx;have:=h2 x hx;unfold Aob;rw[Afe (by omega) (by omega)]
 unfold A9g A0o;simp only[Z1,List.mem_range,Z4,Zh,List.contains_eq_mem,decide_eq_false_iff_not];constructor
 ·intro h;refine⟨⟨h1,fun i j hi hj hij x hx y hy e=> ?_⟩,hs,fun i j hi hj hij x hx y hy e=> ?_⟩
  ·have:=(h j hj i hij).2;rw[Ael hi,Ael hj]at this;subst e;exact this x hy hx
  ·have:=(h j hj i hij).1;rw[Ael hi,Ael hj]at this;split at hx
   ·cases hx
   ·split at hy
    ·cases hy
    ·rename_i g1 g2;simp only[Qo]at hx hy;subst hx;subst hy;rw[hsub _ (List.getElem_mem hi),hsub _ (List.getElem_mem hj)]at e;rw[Ath g2,Z30,beq_eq_false_iff_ne]at this;exact this (by omega)
 ·rintro⟨⟨_,h3⟩,_,h4⟩ i hi k hk
  have hk':k<q.length:=by omega
  rw[Ael hi,Ael hk'];refine⟨?_,fun x hx hy=>h3 k i hk' hi hk x hy x hx rfl⟩;rw[Bool.and_eq_false_iff]
  by_cases g:q[i].A5=0
  ·left;simp[g]
  ·right;rw[beq_eq_false_iff_ne];intro e;refine h4 k i hk' hi hk (Aob .i64 q[k].A5 1) ?_ (Aob .i64 q[i].A5 1) ?_ (by rw[e])
   ·rw[if_neg (by rw[e];exact g)];simp
   ·rw[if_neg g];simp
theorem Bvt{w:Eb}(hp:Aur w.fC w.fP=true)(hL:(w.fL.length:Int)=w.fC.C0)(hq: ∀x∈w.fQ,Ant w x=true):Awf w w.fC.Ae.toNat=A2w w:=by
 obtain⟨hc,hm,hst,_⟩:=Avx hp;obtain⟨b1,b2,b3,_⟩:=Aem hc
 have hone: ∀x∈w.fQ,(0≤x.A5∧x.A5≤w.fC.C0)∧Avo w.fC x.Ae=true∧Azy w x=true∧Avs w x=true∧Arx w x=true:=by
  intro x hx
  have:=hq x hx;unfold Ant at this;simp only[Z4]at this;obtain⟨h1,h2,h3,h4,h5,h6⟩:=this;obtain⟨_,g1,_,g3,_⟩:=Avr h1;exact⟨g1,g3,h2,h4,h6⟩
 have hC: ∀x∈chL w.fQ,x∈A2q w:=by
  intro y hy;unfold chL at hy;rw[List.mem_flatMap]at hy;obtain⟨x,hx,hy⟩:=hy;obtain⟨_,g2,g3,_⟩:=hone x hx
  have:=A2v g2 y hy;unfold Azy at g3;rw[Z1]at g3
  have g4:=g3 y hy;refine Avt.2 ⟨⟨this.1,by omega⟩,?_⟩
  rw[show((y.toNat:Nat):Int)=y by omega];exact g4
 have hS: ∀x∈slL w.fQ,x∈Az9 w:=by
  intro y hy;unfold slL at hy;rw[List.mem_flatMap]at hy;obtain⟨x,hx,hy⟩:=hy;obtain⟨g1,g2,g3,g4,_⟩:=hone x hx;split at hy
  ·cases hy
  ·rename_i g;simp only[Qo]at hy;unfold Avs at g4;rw[Aq4 g,Z52,←hy]at g4
   have:y=x.A5 - 1:=by rw[hy];unfold Aob;rw[Afe (by omega) (by omega)]
   refine Avt.2 ⟨⟨by omega,by omega⟩,?_⟩
   rw[show((y.toNat:Nat):Int)=y by omega];exact g4
 have hK2: ∀x∈kdL w.fL w.fQ,x∈A53 w:=by
  intro y hy;unfold kdL at hy;rw[List.mem_flatMap]at hy;obtain⟨x,hx,hy⟩:=hy;obtain⟨g1,g2,g3,g4,g5⟩:=hone x hx;unfold Arx at g5;rw[Z1]at g5
  have:=A51 _ _ y hy;refine Avt.2 ⟨this,?_⟩;rw[show((y.toNat:Nat):Int)=y by omega];exact g5 y hy
 have e1:=A52 hC (A0n _ _)
 have e2:=A52 hS (A0n _ _)
 have e3:=A52 hK2 (A0n _ _)
 have hp2:=Baw (w:=w) (q:=w.fQ) (fun x hx=>A5z (hone x hx).2.1) (fun x hx=>by have:=(hone x hx).1;omega)
 rw[Bool.eq_iff_iff];unfold Awf A2w;simp only[Z4,Z1,List.mem_range,Bool.or_eq_true,Zh,beq_iff_eq,Bb3,hp2,beq_eq_false_iff_ne]
 have c1:(∀x∈A2q w,(chL w.fQ).count x=1) ↔ ∀k,k<w.fP.Hh.length->gt w.fP.Hh (k:Int)≠2∨gt (Ak3 w.fC.Ae.toNat (chL w.fQ)) (k:Int)=1:=by
  constructor
  ·intro h k hk
   by_cases g:gt w.fP.Hh (k:Int)=2
   ·right;rw[Ayv (by omega) (by omega),h k (Avt.2 ⟨⟨by omega,by omega⟩,by simpa using g⟩)];rfl
   ·left;exact g
  ·intro h x hx;obtain⟨⟨h1,h2⟩,h3⟩:=Avt.1 hx;rw[beq_iff_eq,show((x.toNat:Nat):Int)=x by omega]at h3
   rcases h x.toNat (by omega)with h4|h4
   ·rw[show((x.toNat:Nat):Int)=x by omega]at h4;exact absurd h3 h4
   ·rw[show((x.toNat:Nat):Int)=x by omega,Ayv h1 (by omega)]at h4;omega
 have c2:(∀x∈Az9 w,(slL w.fQ).count x=1) ↔ ∀k,k<w.fL.length->(gt w.fL (k:Int)).Hh≠2∨gt (Ak3 w.fL.length (slL w.fQ)) (k:Int)=1:=by
  constructor
  ·intro h k hk
   by_cases g:(gt w.fL (k:Int)).Hh=2
   ·right;rw[Ayv (by omega) (by omega),h k (Avt.2 ⟨⟨by omega,by omega⟩,by simpa using g⟩)];rfl
   ·left;exact g
  ·intro h x hx;obtain⟨⟨h1,h2⟩,h3⟩:=Avt.1 hx;rw[beq_iff_eq,show((x.toNat:Nat):Int)=x by omega]at h3
   rcases h x.toNat (by omega)with h4|h4
   ·rw[show((x.toNat:Nat):Int)=x by omega]at h4;exact absurd h3 h4
   ·rw[show((x.toNat:Nat):Int)=x by omega,Ayv h1 (by omega)]at h4;omega
 have c3:(∀x∈A53 w,(kdL w.fL w.fQ).count x=1) ↔ ∀k,k<w.fL.length->Awp w.fL (k:Int)=false∨gt (Ak3 w.fL.length (kdL w.fL w.fQ)) (k:Int)=1:=by
  constructor
  ·intro h k hk;cases g:Awp w.fL (k:Int)with
   |true=>
    right;rw[Ayv (by omega) (by omega),h k (Avt.2 ⟨⟨by omega,by omega⟩,by simpa using g⟩)];rfl
   |false=>left;rfl
  ·intro h x hx;obtain⟨⟨h1,h2⟩,h3⟩:=Avt.1 hx;rw[show((x.toNat:Nat):Int)=x by omega]at h3
   rcases h x.toNat (by omega)with h4|h4
   ·rw[show((x.toNat:Nat):Int)=x by omega,h3]at h4;cases h4
   ·rw[show((x.toNat:Nat):Int)=x by omega,Ayv h1 (by omega)]at h4;omega
 rw[←c1,e1]
 have hsplit:(∀k,k<w.fL.length->((gt w.fL (k:Int)).Hh≠2∨gt (Ak3 w.fL.length (slL w.fQ)) (k:Int)=1)∧(Awp w.fL (k:Int)=false∨gt (Ak3 w.fL.length (kdL w.fL w.fQ)) (k:Int)=1)) ↔ (((slL w.fQ).Nodup∧(slL w.fQ).length=(Az9 w).length)∧((kdL w.fL w.fQ).Nodup∧(kdL w.fL w.fQ).length=(A53 w).length)):=by
  rw[←show _ ↔ ((slL w.fQ).Nodup∧(slL w.fQ).length=(Az9 w).length) from c2.symm.trans e2,←show _ ↔ ((kdL w.fL w.fQ).Nodup∧(kdL w.fL w.fQ).length=(A53 w).length) from c3.symm.trans e3]
  exact⟨fun h=>⟨fun k hk=>(h k hk).1,fun k hk=>(h k hk).2⟩,fun h k hk=>⟨h.1 k hk,h.2 k hk⟩⟩
 rw[hsplit];constructor
 ·rintro⟨⟨a1,a2⟩,⟨a3,a4⟩,a5,a6⟩;exact⟨⟨a1,a3⟩,a5,by omega,by omega,by omega⟩
 ·rintro⟨⟨a1,a3⟩,a5,a2,a4,a6⟩;exact⟨⟨a1,by omega⟩,⟨a3,by omega⟩,a5,by omega⟩
theorem A9h{α β:Type}{K:Nat}(hK:281474976710656≤K)(l:List α)(hl:l.length≤140737488355328)(q:α->Bool)(fin bad:Option β)(L:Nat->Nat->Option β)
  (hs: ∀n (i:Nat) (h:i<l.length),L (n+1) i=bif q l[i]then L n (i+1)else bad)
  (he: ∀n,L (n+1) l.length=fin):L K 0=bif l.all q then fin else bad:=by
 have:=Bc3 l q fin bad (fun n i=>L n i.toNat) (fun n i h=>by simpa using hs n i h) (fun n=>by simpa using he n) K 0 (Z21 _) (by omega)
 simpa using this
section
variable {K:Nat} (hK:281474976710656≤K)
include hK
theorem Bep (w:Eb)(hw:Atj w):Aei K (Ak3 w.fL.length (slL w.fQ)) (Ak3 w.fL.length (kdL w.fL w.fQ)) w.fL K (w.fL.length:Int) 0 w.fL=some ((List.range w.fL.length).all (fun k=>(!((gt w.fL (k:Int)).Hh==2)||gt (Ak3 w.fL.length (slL w.fQ)) k==1)&&(!Awp w.fL k||gt (Ak3 w.fL.length (kdL w.fL w.fQ)) k==1))):=by
 have hl:=Aen hw.l
 rw[Apu hK w.fL.length (by omega) (fun k=>(!((gt w.fL (k:Int)).Hh==2)||gt (Ak3 w.fL.length (slL w.fQ)) k==1)&&(!Awp w.fL k||gt (Ak3 w.fL.length (kdL w.fL w.fQ)) k==1)) (some true) (fun n i=>Aei K (Ak3 w.fL.length (slL w.fQ)) (Ak3 w.fL.length (kdL w.fL w.fQ)) w.fL n (w.fL.length:Int) i w.fL) (fun n i h=> ?_) (fun n=> ?_)]
 ·cases (List.range w.fL.length).all _<;>rfl
 ·simp only[Aei,Ak4];rw[Agf h,cond_true,if_pos (Ajz h),A2o K hw.l (Ajz h),Ahl (by omega)]
  simp only[Z0,Azs,if_pos (Ajz h),bne,Ac2];cases (gt w.fL (i:Int)).Hh==2<;>cases gt (Ak3 w.fL.length (slL w.fQ)) (i:Int)==1<;>cases Awp w.fL i<;>cases gt (Ak3 w.fL.length (kdL w.fL w.fQ)) (i:Int)==1<;>rfl
 ·show Aei K _ _ _ (n+1) _ _ _=_;rw[Aei,Ag0 (Z9 _),cond_false]
theorem Beq (w:Eb)(hw:Atj w)(hp:Aur w.fC w.fP=true):Ag2 K (Ak3 w.fC.Ae.toNat (chL w.fQ)) (Ak3 w.fL.length (slL w.fQ)) (Ak3 w.fL.length (kdL w.fL w.fQ)) w.fP.Hh w.fL K (w.fP.Hh.length:Int) 0 w.fP.Hh=some (Awf w w.fC.Ae.toNat):=by
 obtain⟨hc,hm,hst,_⟩:=Avx hp;obtain⟨b1,_⟩:=Aem hc
 rw[Apu hK w.fP.Hh.length (by omega) (fun k=> !(gt w.fP.Hh k==2)||gt (Ak3 w.fC.Ae.toNat (chL w.fQ)) k==1) (some ((List.range w.fL.length).all (fun k=>(!((gt w.fL (k:Int)).Hh==2)||gt (Ak3 w.fL.length (slL w.fQ)) k==1)&&(!Awp w.fL k||gt (Ak3 w.fL.length (kdL w.fL w.fQ)) k==1)))) (fun n i=>Ag2 K (Ak3 w.fC.Ae.toNat (chL w.fQ)) (Ak3 w.fL.length (slL w.fQ)) (Ak3 w.fL.length (kdL w.fL w.fQ)) w.fP.Hh w.fL n (w.fP.Hh.length:Int) i w.fP.Hh) (fun n i h=> ?_) (fun n=> ?_)]
 ·rw[Ai5];rfl
 ·simp only[Ag2,Ap5];rw[Agf h,cond_true,if_pos (Ajz h),Ahl (by omega)]
  simp only[Azs,if_pos (show(0:Int)≤(i:Int)∧(i:Int)<((w.fC.Ae.toNat:Nat):Int) from⟨by omega,by omega⟩),bne,Ac2]
  cases gt w.fP.Hh (i:Int)==2<;>cases gt (Ak3 w.fC.Ae.toNat (chL w.fQ)) (i:Int)==1<;>rfl
 ·show Ag2 K _ _ _ _ _ (n+1) _ _ _=_;rw[Ag2,Ag0 (Z9 _),cond_false,Bep hK w hw]
theorem Bax{β:Type}(N:Nat)(base l:List Int)(hin: ∀x∈l,0≤x∧x<(N:Int))(hl:base.length+l.length≤140737488355327)(q:Int->Bool)(fin bad:Option β)(L:Nat->List Int->Int->Option β)
  (hs: ∀n v (i:Nat) (h:i<l.length),v.length=N->L (n+1) v (i:Int)=bif q l[i]then L n (v.set (l[i]).toNat (Aoa .i64 (gt v l[i]) 1)) ((i+1:Nat):Int)else bad)
  (he: ∀n,L (n+1) (Ak3 N (base++l)) (l.length:Int)=fin):L K (Ak3 N base) 0=bif l.all q then fin else bad:=by
 have:=A9h hK l (by omega) q fin bad (fun n i=>L n (Ak3 N (base++l.take i)) (i:Int)) (fun n i h=> ?_) (fun n=> ?_)
 ·simpa using this
 ·have hb:(base++l.take i).length≤140737488355327:=by simp;omega
  have h1:=hin _ (List.getElem_mem h);rw[hs n _ i h (Azs _ _),Bav h1.1 h1.2 hb,Lo,List.take_append_getElem]
 ·simp only[List.take_length];exact he n
theorem Bb4 (w:Eb)(hw:Atj w)(hp:Aur w.fC w.fP=true)(hL:(w.fL.length:Int)=w.fC.C0)(x:Ax)(hx:Azo x)(c s d:List Int)(i:Nat)(n:Nat)(hi:i<w.fQ.length)(he:gt w.fQ i=x)
  (hb1:c.length+12≤140737488355327) (hb2:s.length≤140737488355326) (hb3:d.length+8≤140737488355327):
  Aa1 K (n+1) (Ak3 w.fC.Ae.toNat c) (Ak3 w.fL.length s) (Ak3 w.fL.length d) w.fQ (w.fQ.length:Int) i w.fC.Ae w.fC.Eg w.fC.C0 w.fC.E9 w.fC.C1 w.fC.Eh w.fP.Fy w.fP.Hh w.fP.Fz w.fL w.fQ w.Pr
   =bif Ant w x then Aa1 K n (Ak3 w.fC.Ae.toNat (c++x.Ae)) (Ak3 w.fL.length (s++if x.A5=0 then []else [Aob .i64 x.A5 1])) (Ak3 w.fL.length (d++Al7 w.fL x.Bt)) w.fQ (w.fQ.length:Int) ((i+1:Nat):Int) w.fC.Ae w.fC.Eg w.fC.C0 w.fC.E9 w.fC.C1 w.fC.Eh w.fP.Fy w.fP.Hh w.fP.Fz w.fL w.fQ w.Pr else some false:=by
 have hq:=hw.q.2;rw[Aa1];rw[show Er.mk w.fC.Ae w.fC.Eg w.fC.C0 w.fC.E9 w.fC.C1 w.fC.Eh=w.fC from rfl,show Dw.mk w.fP.Fy w.fP.Hh w.fP.Fz=w.fP from rfl]
 rw[Agf hi,cond_true,if_pos (Ajz hi),he,A6s hK _ _ hx,Z0];unfold Ant;cases hr:Asw w.fC x with
 |false=>rfl
 |true=>
 rw[cond_true,Z30];obtain⟨hc,⟨s1,s2⟩,⟨f1,f2⟩,hd,d1,d2⟩:=Avr hr;obtain⟨_,hm,hst,_⟩:=Avx hp;obtain⟨b1,b2,b3,_⟩:=Aem hc
 have hch:=A2v hd
 have hcl:=A50 hc hd
 have h5: ∀s',Ao3 K (Ak3 w.fL.length d) w.fQ (w.fQ.length:Int) i w.fC.Ae w.fC.Eg w.fC.C0 w.fC.E9 w.fC.C1 w.fC.Eh w.fP.Fy w.fP.Hh w.fP.Fz w.fL w.fQ w.Pr x.Bt (Ak3 w.fC.Ae.toNat (c++x.Ae)) s' (Aa1 K n)
   =bif Arx w x then Aa1 K n (Ak3 w.fC.Ae.toNat (c++x.Ae)) s' (Ak3 w.fL.length (d++Al7 w.fL x.Bt)) w.fQ (w.fQ.length:Int) ((i+1:Nat):Int) w.fC.Ae w.fC.Eg w.fC.C0 w.fC.E9 w.fC.C1 w.fC.Eh w.fP.Fy w.fP.Hh w.fP.Fz w.fL w.fQ w.Pr else some false:=by
  intro s'
  have hk:=Azx (l:=w.fL) w.fL.length (Aob .i64 x.Bt 1)
  have hin:=A51 (l:=w.fL) w.fL.length (Aob .i64 x.Bt 1);unfold Ao3 Arx;rw[Bat hK hw.l,Z0];change (Al7 w.fL x.Bt).length≤_ at hk;change ∀y∈Al7 w.fL x.Bt,_ at hin;generalize Al7 w.fL x.Bt=r at*
  refine Bax hK w.fL.length d r hin (by omega) (Awp w.fL) _ _ (fun m v j=>Ai0 K w.fQ (w.fQ.length:Int) i w.fC.Ae w.fC.Eg w.fC.C0 w.fC.E9 w.fC.C1 w.fC.Eh w.fP.Fy w.fP.Hh w.fP.Fz w.fL w.fQ w.Pr (Ak3 w.fC.Ae.toNat (c++x.Ae)) s' r (Aa1 K n) m v (r.length:Int) j) (fun m v j hj hv=> ?_) (fun m=> ?_)
  ·have hr1:=hin _ (Api hj);simp only[Ai0];rw[Agf hj,cond_true,if_pos (Ajz hj),if_pos (by rw[hv];exact hr1),if_pos (by rw[hv];exact hr1),A2o K hw.l hr1,Ahl (by omega),Z0,Ac2,Ael hj]
  ·show Ai0 K _ _ _ _ _ _ _ _ _ _ _ _ _ _ _ _ _ _ _ (m+1) _ _ _=_;rw[Ai0,Ag0 (Z9 _),cond_false,Ahl (by omega)]
 have h4: ∀s',Apa K (Ak3 w.fL.length d) w.fQ (w.fQ.length:Int) i w.fC.Ae w.fC.Eg w.fC.C0 w.fC.E9 w.fC.C1 w.fC.Eh w.fP.Fy w.fP.Hh w.fP.Fz w.fL w.fQ w.Pr x.Bt (Ak3 w.fC.Ae.toNat (c++x.Ae)) (Aa1 K n) s'
   =bif Awq w x&&Arx w x then Aa1 K n (Ak3 w.fC.Ae.toNat (c++x.Ae)) s' (Ak3 w.fL.length (d++Al7 w.fL x.Bt)) w.fQ (w.fQ.length:Int) ((i+1:Nat):Int) w.fC.Ae w.fC.Eg w.fC.C0 w.fC.E9 w.fC.C1 w.fC.Eh w.fP.Fy w.fP.Hh w.fP.Fz w.fL w.fQ w.Pr else some false:=by
  intro s';unfold Apa Awq;rw[h5]
  by_cases g:x.Bt=0
  ·rw[g];rfl
  ·rw[decide_eq_true (by omega),cond_true,if_pos (A1g hK hL hc g f1 f2),Aq4 g]
   simp only[bne,Ac2,Z52];cases (gt w.fL (Aob .i64 x.Bt 1)).Gs==0<;>rfl
 have h2:Apb K (Ak3 w.fC.Ae.toNat c) (Ak3 w.fL.length s) (Ak3 w.fL.length d) w.fQ (w.fQ.length:Int) i w.fC.Ae w.fC.Eg w.fC.C0 w.fC.E9 w.fC.C1 w.fC.Eh w.fP.Fy w.fP.Hh w.fP.Fz w.fL w.fQ w.Pr (Aa1 K n) x.A5 x.Bt x.Dg x.Ae x.Gu
   =bif Azy w x&&(Avs w x&&(Awq w x&&Arx w x))then Aa1 K n (Ak3 w.fC.Ae.toNat (c++x.Ae)) (Ak3 w.fL.length (s++if x.A5=0 then []else [Aob .i64 x.A5 1])) (Ak3 w.fL.length (d++Al7 w.fL x.Bt)) w.fQ (w.fQ.length:Int) ((i+1:Nat):Int) w.fC.Ae w.fC.Eg w.fC.C0 w.fC.E9 w.fC.C1 w.fC.Eh w.fP.Fy w.fP.Hh w.fP.Fz w.fL w.fQ w.Pr else some false:=by
  unfold Apb;rw[Bax hK w.fC.Ae.toNat c x.Ae (fun y hy=>by have:=hch y hy;omega) (by omega) (fun k=>gt w.fP.Hh k==2)
   (bif Avs w x&&(Awq w x&&Arx w x)then Aa1 K n (Ak3 w.fC.Ae.toNat (c++x.Ae)) (Ak3 w.fL.length (s++if x.A5=0 then []else [Aob .i64 x.A5 1])) (Ak3 w.fL.length (d++Al7 w.fL x.Bt)) w.fQ (w.fQ.length:Int) ((i+1:Nat):Int) w.fC.Ae w.fC.Eg w.fC.C0 w.fC.E9 w.fC.C1 w.fC.Eh w.fP.Fy w.fP.Hh w.fP.Fz w.fL w.fQ w.Pr else some false) (some false)
   (fun m v j=>Ai1 K (Ak3 w.fL.length s) (Ak3 w.fL.length d) w.fQ (w.fQ.length:Int) i w.fC.Ae w.fC.Eg w.fC.C0 w.fC.E9 w.fC.C1 w.fC.Eh w.fP.Fy w.fP.Hh w.fP.Fz w.fL w.fQ w.Pr x.A5 x.Bt x.Ae (Aa1 K n) m v (x.Ae.length:Int) j x.Ae) (fun m v j hj hv=> ?_) (fun m=> ?_)]
  ·unfold Azy;cases x.Ae.all _<;>rfl
  ·have hr1:=hch _ (Api hj);simp only[Ai1];rw[Agf hj,cond_true,if_pos (Ajz hj),if_pos (by rw[hv];omega),if_pos (by rw[hv];omega),if_pos ⟨hr1.1,by omega⟩,Ahl (by omega),bne,Ac2,Ael hj]
  ·show Ai1 K _ _ _ _ _ _ _ _ _ _ _ _ _ _ _ _ _ _ _ _ _ (m+1) _ _ _ _=_;rw[Ai1,Ag0 (Z9 _),cond_false,h4,h4,Azs];unfold Avs
   by_cases g:x.A5=0
   ·rw[g,if_pos rfl,List.append_nil];rfl
   ·have hlk:=A1g hK hL hc g s1 s2;rw[decide_eq_true (by omega),cond_true,if_pos hlk,if_pos hlk,if_neg g,Bav hlk.1 hlk.2 (by omega),Aq4 g]
    simp only[bne,Ac2,Z52,if_pos hlk];cases (gt w.fL (Aob .i64 x.A5 1)).Hh==2<;>rfl
 rw[h2];unfold A1f
 by_cases g:(x.Ae.length:Int)>0
 ·have h5:=hch _ (Axz (l:=x.Ae) (Int.le_refl 0) (by omega))
  obtain⟨e1,e2,e3,e4⟩:=A08 hc hm h5.1 h5.2
  have hlc:(Avn w.fC w.fP.Fy (gt x.Ae 0)).length=w.fC.Eg.toNat:=by unfold Avn;simp;omega
  have htk:List.take (x.Gu - 0).toNat (List.drop (0:Int).toNat (Avn w.fC w.fP.Fy (gt x.Ae 0)))=List.take x.Gu.toNat (List.drop (gt x.Ae 0*w.fC.Eg).toNat w.fP.Fy):=by
   unfold Avn;simp only[Int.sub_zero,Int.toNat_zero,Z55,List.take_take];rw[Nat.min_eq_left (by omega)]
  rw[decide_eq_true g,cond_true,if_pos ⟨by omega,by omega⟩,A5l hK hc hm h5.1 h5.2,Z0,if_pos ⟨by omega,by omega,by rw[hlc];omega⟩,htk,Azm hK _ (by simp;omega)]
  simp only[Z0,Ac2,Bool.not_true,Z52];cases Ayf (List.take x.Gu.toNat (List.drop (gt x.Ae 0*w.fC.Eg).toNat w.fP.Fy))<;>cases Azy w x<;>rfl
 ·rw[decide_eq_false g];simp only[cond_false,Bool.not_false,Bool.true_or,Z30]
theorem Bc9 (q:List Ax):(slL q).length≤q.length:=by
 have:=A1h q (fun x=>if x.A5=0 then []else [Aob .i64 x.A5 1]) 1 (fun x _=>by split<;>simp)
 simpa[slL]using this
theorem A9i (l:List Ba)(hl:l.length≤8)(q:List Ax):(kdL l q).length≤q.length*8:=
 A1h _ _ 8 fun x _=>To (Azx _ _) hl
end
theorem Bb5{β:Type}(N:Nat)(hN:N≤140737488355327)(q:Nat->Bool)(fin:Int->Option β)(L:Nat->Int->Int->Option β)
  (hs: ∀n (v:Int) (i:Nat),i<N->0≤v->v≤i->L (n+1) v (i:Int)=bif q i then L n (v+1) ((i+1:Nat):Int)else L n v ((i+1:Nat):Int))
  (he: ∀n v,L (n+1) v (N:Int)=fin v):
  ∀(n i:Nat) (v:Int),0≤v->v≤i->i≤N->N - i<n->L n v (i:Int)=fin (v+((((List.range N).drop i).filter q).length:Int)):=by
 intro n
 induction n with
 |zero=>intro i v _ _ _ h;omega
 |succ n ih=>
  intro i v h0 hv hi hn;rcases F9 i N with h|h
  ·rw[hs n v i h h0 hv,Z47 (by simpa using h),List.getElem_range,List.filter_cons]
   cases hq:q i with
   |true=>
    rw[cond_true,ih (i+1) _ (by omega) (by omega) (by omega) (by omega)]
    simp only[if_true,Y9]
    congr 1
    omega
   |false=>
    rw[cond_false,ih (i+1) _ (by omega) (by omega) (by omega) (by omega)]
    simp
  ·obtain rfl:i=N:=by omega
   rw[he,Z48 (by simp)];simp
theorem A9j{v:Int}(h0:0≤v)(h:v≤140737488355328):Aoa .i64 v 1=v+1:=by unfold Aoa;rw[Afe (by omega) (by omega)]
section
variable {K:Nat} (hK:281474976710656≤K)
include hK
theorem A9k (w:Eb)(hw:Atj w)(hp:Aur w.fC w.fP=true)(hL:(w.fL.length:Int)=w.fC.C0):Aqy K w=some (w.fQ.all (Ant w)&&Awf w w.fC.Ae.toNat):=by
 obtain⟨hc,hm,hst,_⟩:=Avx hp;obtain⟨b1,b2,b3,_⟩:=Aem hc
 have hq:=hw.q.2
 have key: ∀(n i:Nat),(∀x∈w.fQ.take i,Ant w x=true)->i≤w.fQ.length->w.fQ.length - i<n→
   Aa1 K n (Ak3 w.fC.Ae.toNat (chL (w.fQ.take i))) (Ak3 w.fL.length (slL (w.fQ.take i))) (Ak3 w.fL.length (kdL w.fL (w.fQ.take i))) w.fQ (w.fQ.length:Int) i w.fC.Ae w.fC.Eg w.fC.C0 w.fC.E9 w.fC.C1 w.fC.Eh w.fP.Fy w.fP.Hh w.fP.Fz w.fL w.fQ w.Pr=some ((w.fQ.drop i).all (Ant w)&&Awf w w.fC.Ae.toNat):=by
  intro n
  induction n with
  |zero=>intro i _ _ h;omega
  |succ n ih=>
   intro i hpre hi hn;rcases F9 i w.fQ.length with h|h
   ·have hb1:(chL (w.fQ.take i)).length≤(w.fQ.take i).length*12:=A1h _ _ 12 fun x hx=>by
     have:=hpre x hx;unfold Ant at this;simp only[Z4]at this;obtain⟨hc,_,_,hd,_⟩:=Avr this.1;exact A50 hc hd
    have hb2:=Bc9 hK (w.fQ.take i)
    have hb3:=A9i hK w.fL (by omega) (w.fQ.take i)
    rw[List.length_take]at hb1 hb2 hb3;rw[Bb4 hK w hw hp hL w.fQ[i] (hw.q.1 _ (List.getElem_mem h)) _ _ _ i n h (Ael h) (by omega) (by omega) (by omega),Z47 h,F3]
    cases hx:Ant w w.fQ[i]with
    |false=>rfl
    |true=>
     rw[cond_true,Z30,←ih (i+1) (fun x hx2=>by
      rw[←List.take_append_getElem h,Gy]at hx2;rcases hx2 with hx2|hx2
      ·exact hpre x hx2
      ·simp only[Qo]at hx2;rw[hx2];exact hx) h (by omega)]
     unfold chL slL kdL;rw[Aw9 _ _ _ h,Aw9 _ _ _ h,Aw9 _ _ _ h]
   ·obtain rfl:i=w.fQ.length:=by omega
    rw[Aa1,Ag0 (Z9 _),cond_false,List.take_length,Beq hK w hw hp,List.drop_length];rfl
 unfold Aqy;rw[if_pos ⟨by omega,by omega,by omega,by omega⟩,if_pos ⟨by omega,by omega,by omega,by omega⟩,if_pos ⟨by omega,by omega,by omega,by omega⟩]
 have:=key K 0 (fun x hx=>by simp at hx) (Z21 _) (by omega)
 rw[List.take_zero,Z55,show chL []=[] from rfl,show slL []=[] from rfl,show kdL w.fL []=[] from rfl,Bau,Bau]at this
 rw[←this,show w.fL.length=w.fC.C0.toNat by omega]
 rfl
theorem A9l (p:Dw)(st:Int)(hl:p.Hh.length≤140737488355327):Auz K p st=some ((((List.range p.Hh.length).filter (fun k:Nat=>gt p.Hh k==st)).length:Nat):Int):=by
 unfold Auz
 have:=Bb5 p.Hh.length hl (fun k:Nat=>gt p.Hh k==st) some (fun n v i=>Ann K st n v i p.Fy p.Hh p.Fz) (fun n v i hi h0 hv=> ?_) (fun n v=> ?_) K 0 0 (Int.le_refl _) (Int.le_refl _) (Z21 _) (by omega)
 ·simpa using this
 ·simp only[Ann,As0];rw[Agf hi,cond_true,if_pos (Ajz hi),Ahl (by omega),A9j h0 (by omega)]
 ·show Ann K st (n+1) v _ _ _ _=_;rw[Ann,Ag0 (Z9 _),cond_false]
theorem A2r (l:List Ba)(st:Int)(hl:l.length≤140737488355327):Asa K l st=some ((((List.range l.length).filter (fun k:Nat=>(gt l k).Hh==st)).length:Nat):Int):=by
 unfold Asa
 have:=Bb5 l.length hl (fun k:Nat=>(gt l k).Hh==st) some (fun n v i=>Ai8 K l st n v i) (fun n v i hi h0 hv=> ?_) (fun n v=> ?_) K 0 0 (Int.le_refl _) (Int.le_refl _) (Z21 _) (by omega)
 ·simpa using this
 ·simp only[Ai8,Aq5];rw[Agf hi,cond_true,if_pos (Ajz hi),Ahl (by omega),A9j h0 (by omega)]
 ·show Ai8 K l st (n+1) v _=_;rw[Ai8,Ag0 (Z9 _),cond_false]
theorem Bb6 (w:Eb)(hw:Atj w)(v1 v2:Int)(v3:List Int)(h3:v3.length≤140737488355327):
  Ahs K v1 v2 v3 w.fP.Fy w.fP.Hh w.fP.Fz w.fL K 0 0=some (A2k v3&&((v1==((A2q w).length:Int))&&((v2==((Az9 w).length:Int))&&((v3.length:Int)==((A53 w).length:Int))))):=by
 have hl:=Aen hw.l
 have hs:=A2f hK hw.p.st
 have h8: ∀v24,Ak7 K v1 v2 v3 w.fP.Fy w.fP.Hh w.fP.Fz w.fL v24 K 0=some (A2k v3&&((v1==((A2q w).length:Int))&&((v2==((Az9 w).length:Int))&&((v3.length:Int)==v24)))):=by
  intro v24;rw[Apu hK v3.length (by omega) (fun i=> !(v3.take i).contains (gt v3 i)) (some ((v1==((A2q w).length:Int))&&((v2==((Az9 w).length:Int))&&((v3.length:Int)==v24)))) (fun n i=>Ak7 K v1 v2 v3 w.fP.Fy w.fP.Hh w.fP.Fz w.fL v24 n i) (fun n i h=> ?_) (fun n=> ?_)]
  ·rw[Ai5];rfl
  ·have hp:(v3.take i).length≤140737488355328:=by simp;omega
   simp only[Ak7];rw[Agf h,cond_true,if_pos (Bag (by omega)),if_pos (Ajz h),A5n,Axf hK _ _ hp,Ahl (by omega),Z0,Ac2]
  ·show Ak7 K v1 v2 v3 _ _ _ _ v24 (n+1) _=_;rw[Ak7,Ag0 (Z9 _),cond_false,A9l hK _ _ hs,A2r hK _ _ hl];simp only[Z0,Ai5];unfold A2q Az9;simp only[B8]
 have:=Bb5 w.fL.length hl (fun k:Nat=>Awp w.fL k) (fun v=>some (A2k v3&&((v1==((A2q w).length:Int))&&((v2==((Az9 w).length:Int))&&((v3.length:Int)==v))))) (fun n v i=>Ahs K v1 v2 v3 w.fP.Fy w.fP.Hh w.fP.Fz w.fL n v i) (fun n v i hi h0 hv=> ?_) (fun n v=> ?_) K 0 0 (Int.le_refl _) (Int.le_refl _) (Z21 _) (by omega)
 ·rw[show((0:Nat):Int)=0 from rfl]at this
  rw[this];unfold A53;simp only[B8,Z55,Int.zero_add]
 ·simp only[Ahs,Art];rw[Agf hi,cond_true,A2n K hw.l (Ajz hi),Z0,Ahl (by omega),A9j h0 (by omega)]
 ·show Ahs K v1 v2 v3 _ _ _ _ (n+1) v _=_;rw[Ahs,Ag0 (Z9 _),cond_false,h8]
theorem Bay (w:Eb)(hw:Atj w)(i n:Nat)(hi:i<w.fQ.length)(v1 v2:Int)(v3:List Int)(h1:0≤v1∧v1≤70368744177664)(h2:0≤v2∧v2≤70368744177664)(h3:(v3.length+w.fL.length)*8≤140737488355327)(hcl:(gt w.fQ i).Ae.length≤12):
  Ae9 K (n+1) v1 v2 v3 i w.fC.Ae w.fC.Eg w.fC.C0 w.fC.E9 w.fC.C1 w.fC.Eh w.fP.Fy w.fP.Hh w.fP.Fz w.fL w.fQ w.Pr
   =bif (List.range i).all (fun k=>A0o w.fQ i k)then Ae9 K n (v1+((gt w.fQ i).Ae.length:Int)) (v2+((if(gt w.fQ i).A5=0 then([]:List Int)else [Aob .i64 (gt w.fQ i).A5 1]).length:Int)) (v3++Al7 w.fL (gt w.fQ i).Bt) ((i+1:Nat):Int) w.fC.Ae w.fC.Eg w.fC.C0 w.fC.E9 w.fC.C1 w.fC.Eh w.fP.Fy w.fP.Hh w.fP.Fz w.fL w.fQ w.Pr else some false:=by
 have hq:=hw.q.2
 have hm:=Apq
 have hx:=hw.q.1 _ (Api hi)
 have hkl:=Azx (l:=w.fL) w.fL.length (Aob .i64 (gt w.fQ i).Bt 1);change (Al7 w.fL (gt w.fQ i).Bt).length≤_ at hkl
 have hJ: ∀v17 v18,Aqh K v3 i w.fC.Ae w.fC.Eg w.fC.C0 w.fC.E9 w.fC.C1 w.fC.Eh w.fP.Fy w.fP.Hh w.fP.Fz w.fL w.fQ w.Pr (Ae9 K n) v17 v18
   =bif (List.range i).all (fun k=>A0o w.fQ i k)then Ae9 K n v17 v18 (v3++Al7 w.fL (gt w.fQ i).Bt) ((i+1:Nat):Int) w.fC.Ae w.fC.Eg w.fC.C0 w.fC.E9 w.fC.C1 w.fC.Eh w.fP.Fy w.fP.Hh w.fP.Fz w.fL w.fQ w.Pr else some false:=by
  intro v17 v18;unfold Aqh
  have hlen:(v3++Al7 w.fL (gt w.fQ i).Bt).length=v3.length+(Al7 w.fL (gt w.fQ i).Bt).length:=by simp
  rw[if_pos (Ajz hi),A2p hK hw.l hx.first,Z0,if_pos ⟨by rw[hlen];omega,by rw[hlen];omega⟩]
  rw[Apu hK i (by omega) (fun k=>A0o w.fQ i k) _ (fun m k=>Ak5 K i w.fC.Ae w.fC.Eg w.fC.C0 w.fC.E9 w.fC.C1 w.fC.Eh w.fP.Fy w.fP.Hh w.fP.Fz w.fL w.fQ w.Pr v17 v18 (Ae9 K n) m (v3++Al7 w.fL (gt w.fQ i).Bt) k) (fun m k hk=> ?_) (fun m=> ?_)]
  ·have hk2:k<w.fQ.length:=by omega
   have hlk:=A2f hK (hw.q.1 _ (Api hk2)).chunks
   have h4: ∀C:List Int->Int->Option Bool,Aqg K i w.fQ (v3++Al7 w.fL (gt w.fQ i).Bt) k C=bif (gt w.fQ i).Ae.all (fun y=> !(gt w.fQ k).Ae.contains y)then C (v3++Al7 w.fL (gt w.fQ i).Bt) ((k+1:Nat):Int)else some false:=by
    intro C;unfold Aqg;rw[Arv hK (gt w.fQ i).Ae (by omega) (fun y=> !(gt w.fQ k).Ae.contains y) _ (fun m j=>Anh K i w.fQ (v3++Al7 w.fL (gt w.fQ i).Bt) k C m j) (fun m j hj=> ?_) (fun m=> ?_)]
    ·simp only[Anh];rw[if_pos (Ajz hi),Agf hj,cond_true,if_pos (Ajz hk2),if_pos (Ajz hj),Axf hK _ _ (by omega),Z0,Ahl (by omega),Ac2,Ael hj,if_pos (Ajz hi)]
    ·show Anh K i w.fQ _ k C (m+1) _=_;rw[Anh,if_pos (Ajz hi),Ag0 (Z9 _),cond_false,Ahl (by omega)]
   simp only[Ak5];rw[Agf hk,cond_true,if_pos (Ajz hi),if_pos (Ajz hk2),if_pos (Ajz hi),h4];unfold A0o;cases (gt w.fQ (i:Int)).A5 != 0<;>cases (gt w.fQ (k:Int)).A5==(gt w.fQ (i:Int)).A5<;>cases (gt w.fQ i).Ae.all _<;>rfl
  ·show Ak5 K i _ _ _ _ _ _ _ _ _ _ _ _ v17 v18 _ (m+1) _ _=_;rw[Ak5,Ag0 (Z9 _),cond_false,Ahl (by omega)]
 rw[Ae9,Agf hi,cond_true,if_pos (Ajz hi),if_pos (Ajz hi),hJ,hJ]
 have e1:Aoa .i64 v1 ((gt w.fQ i).Ae.length:Int)=v1+((gt w.fQ i).Ae.length:Int):=by unfold Aoa;rw[Afe (by omega) (by omega)]
 rw[e1,A9j h2.1 (by omega)]
 by_cases g:(gt w.fQ i).A5=0
 ·rw[if_pos g,g];simp
 ·rw[if_neg g,Ath g];simp
theorem Baz (w:Eb)(hw:Atj w)(hp:Aur w.fC w.fP=true)(hL:(w.fL.length:Int)=w.fC.C0)(hall: ∀x∈w.fQ,Ant w x=true):As1 K w=some (A2w w):=by
 obtain⟨hc,hm,hst,_⟩:=Avx hp;obtain⟨b1,b2,b3,_⟩:=Aem hc
 have hq:=hw.q.2
 have hc12: ∀x∈w.fQ,x.Ae.length≤12:=fun x hx=>by
  have:=hall x hx;unfold Ant at this;simp only[Z4]at this;obtain⟨hc,_,_,hd,_⟩:=Avr this.1;exact A50 hc hd
 have h3:=A9i hK w.fL (by omega) w.fQ
 unfold As1
 have:=A9h hK (List.range w.fQ.length) (by simp;omega) (fun i=>(List.range i).all (fun k=>A0o w.fQ i k)) (Ahs K ((chL w.fQ).length:Int) ((slL w.fQ).length:Int) (kdL w.fL w.fQ) w.fP.Fy w.fP.Hh w.fP.Fz w.fL K 0 0) (some false)
  (fun n i=>Ae9 K n ((chL (w.fQ.take i)).length:Int) ((slL (w.fQ.take i)).length:Int) (kdL w.fL (w.fQ.take i)) (i:Int) w.fC.Ae w.fC.Eg w.fC.C0 w.fC.E9 w.fC.C1 w.fC.Eh w.fP.Fy w.fP.Hh w.fP.Fz w.fL w.fQ w.Pr) (fun n i h=> ?_) (fun n=> ?_)
 ·rw[List.take_zero,show chL []=[] from rfl,show slL []=[] from rfl,show kdL w.fL []=[] from rfl]at this
  refine Eq.trans this ?_;rw[Bb6 hK w hw _ _ _ (by omega),Ai5]
  rfl
 ·have hi:i<w.fQ.length:=by simpa using h
  have hb1:(chL (w.fQ.take i)).length≤(w.fQ.take i).length*12:=A1h _ _ 12 fun x hx=>hc12 x (Za hx)
  have hb2:=Bc9 hK (w.fQ.take i)
  have hb3:=A9i hK w.fL (by omega) (w.fQ.take i)
  rw[List.length_take]at hb1 hb2 hb3;simp only[List.getElem_range];rw[Bay hK w hw i n hi _ _ _ ⟨by omega,by omega⟩ ⟨by omega,by omega⟩ (by omega) (hc12 _ (Api hi))]
  unfold chL slL kdL;rw[Aw9 _ _ _ hi,Aw9 _ _ _ hi,Aw9 _ _ _ hi,Ael hi,Ln,Ln];rfl
 ·rw[List.length_range,List.take_length,Ae9,Ag0 (Z9 _),cond_false]
end
def A54 (w:Eb):Bool:=
 Aur w.fC w.fP&&(((w.fL.length:Int)==w.fC.C0)&&((List.range w.fL.length).all (A5u w)&&(A64 w.fL&&((w.fQ.all (Ant w)&&Awf w w.fC.Ae.toNat)&&w.Pr.all (fun x=>inB x 0 255)))))
section
variable {K:Nat} (hK:281474976710656≤K)
include hK
theorem A9m (w:Eb)(hw:Atj w):Ave K w=some (A54 w):=by
 have hl:=A2f hK hw.log;unfold Ave A54;rw[Bae hK,Z0];cases hp:Aur w.fC w.fP with
 |false=>rfl
 |true=>
 rw[cond_true,Z30];cases hL:(w.fL.length:Int)==w.fC.C0 with
 |false=>rfl
 |true=>
 rw[beq_iff_eq]at hL;rw[cond_true,Z30,A9c hK w hw hp,Bas hK hw.l,A9k hK w hw hp hL,Ax9 hK _ (by omega)]
 simp only[Z0,Ai5]
theorem A9n (w:Eb)(hw:Atj w):Au4 K w=some (A54 w):=by
 have hl:=A2f hK hw.log
 have hl2:=Aen hw.l
 have hq:=hw.q.2;unfold Au4 A54;rw[Bad hK,Z0];cases hp:Aur w.fC w.fP with
 |false=>rfl
 |true=>
 rw[cond_true,Z30];cases hL:(w.fL.length:Int)==w.fC.C0 with
 |false=>rw[bne,hL];rfl
 |true=>
 rw[bne,hL,Bool.not_true,cond_false,Z30,Bar hK hw.l,Z0,Ac2];rw[beq_iff_eq]at hL
 have e1:Er.mk w.fC.Ae w.fC.Eg w.fC.C0 w.fC.E9 w.fC.C1 w.fC.Eh=w.fC:=rfl
 have e2:Eb.mk (Er.mk w.fC.Ae w.fC.Eg w.fC.C0 w.fC.E9 w.fC.C1 w.fC.Eh) (Dw.mk w.fP.Fy w.fP.Hh w.fP.Fz) w.fL w.fQ w.Pr=w:=rfl
 have h3:w.fQ.all (Ant w)=true->Anq K w.fC.Ae w.fC.Eg w.fC.C0 w.fC.E9 w.fC.C1 w.fC.Eh w.fP.Fy w.fP.Hh w.fP.Fz w.fL w.fQ w.Pr K 0=some (w.Pr.all (fun x=>inB x 0 255)&&Awf w w.fC.Ae.toNat):=by
  intro hall;rw[Z1]at hall;rw[Bvt hp hL hall];rw[Arv hK w.Pr (by omega) (fun x=>inB x 0 255) (some (A2w w)) (Anq K w.fC.Ae w.fC.Eg w.fC.C0 w.fC.E9 w.fC.C1 w.fC.Eh w.fP.Fy w.fP.Hh w.fP.Fz w.fL w.fQ w.Pr) (fun n i h=> ?_) (fun n=> ?_)]
  ·rw[Ai5]
  ·rw[Anq,Agf h,cond_true,if_pos (Ajz h),Asi,Ahl (by omega),Z0,Ac2,Ael h]
  ·rw[Anq,Ag0 (Z9 _),cond_false,e2,Baz hK w hw hp hL hall,Z0]
 have h2:App K w.fC.Ae w.fC.Eg w.fC.C0 w.fC.E9 w.fC.C1 w.fC.Eh w.fP.Fy w.fP.Hh w.fP.Fz w.fL w.fQ w.Pr K 0=some (w.fQ.all (Ant w)&&(w.Pr.all (fun x=>inB x 0 255)&&Awf w w.fC.Ae.toNat)):=by
  rw[Arv hK w.fQ (by omega) (Ant w) (Anq K w.fC.Ae w.fC.Eg w.fC.C0 w.fC.E9 w.fC.C1 w.fC.Eh w.fP.Fy w.fP.Hh w.fP.Fz w.fL w.fQ w.Pr K 0) (App K w.fC.Ae w.fC.Eg w.fC.C0 w.fC.E9 w.fC.C1 w.fC.Eh w.fP.Fy w.fP.Hh w.fP.Fz w.fL w.fQ w.Pr) (fun n i h=> ?_) (fun n=> ?_)]
  ·cases hall:w.fQ.all (Ant w)with
   |false=>rfl
   |true=>rw[cond_true,h3 hall];rfl
  ·rw[App,Agf h,cond_true,e2,A6t hK w hw hp hL i h,Ahl (by omega),Z0,Ac2,Ael h]
  ·rw[App,Ag0 (Z9 _),cond_false]
 have h1:Anr K K 0 w.fC.Ae w.fC.Eg w.fC.C0 w.fC.E9 w.fC.C1 w.fC.Eh w.fP.Fy w.fP.Hh w.fP.Fz w.fL w.fQ w.Pr=some ((List.range w.fL.length).all (A5u w)&&(w.fQ.all (Ant w)&&(w.Pr.all (fun x=>inB x 0 255)&&Awf w w.fC.Ae.toNat))):=by
  rw[Apu hK w.fL.length (by omega) (A5u w) (some (w.fQ.all (Ant w)&&(w.Pr.all (fun x=>inB x 0 255)&&Awf w w.fC.Ae.toNat))) (fun n i=>Anr K n i w.fC.Ae w.fC.Eg w.fC.C0 w.fC.E9 w.fC.C1 w.fC.Eh w.fP.Fy w.fP.Hh w.fP.Fz w.fL w.fQ w.Pr) (fun n k hk=> ?_) (fun n=> ?_)]
  ·rw[Ai5]
  ·simp only[Anr];rw[e2,e1]
   have hn:=hw.l.1 _ (Api hk)
   have l1:=A2f hK hn.chunks
   have l2:=Blc hK hn.things
   have l3:=A2f hK hn.tags;rw[Agf hk,cond_true,if_pos (Ajz hk),Bah hK _ _ l1 l2 l3,Z0,A5r hK w k hk hw.p.st.2 l1,Ahl (by omega),A6o hK _ _ l1 l2]
   simp only[Z0];unfold A5u;cases hb:Aww w.fC (gt w.fL k)with
   |false=>rfl
   |true=>
   cases Azv w.fP k (gt w.fL k).Ae with
   |false=>rfl
   |true=>
   cases hi:(gt w.fL k).Ea.all (Ayg w.fC (gt w.fL k).Ae)with
   |false=>simp only[cond_true,Z30,Bool.false_and,cond_false,if_pos (Ajz hk)]
   |true=>
   have hs:=A5t hi;rw[A6l hK _ l2 (fun t ht=>(hs t ht).1),Bbw hK w k hk hp hn hb hs];simp only[Z0,cond_true,Ac2,Z30,if_pos (Ajz hk)];cases Avy (gt w.fL k).Ea<;>cases A5s w.fC w.fP.Fy (gt w.fL k)<;>rfl
  ·show Anr K (n+1) _ _ _ _ _ _ _ _ _ _ _ _ _=_;rw[Anr,Ag0 (Z9 _),cond_false,h2]
 rw[h1];cases A64 w.fL with
 |false=>rw[cond_false];simp
 |true=>
  simp only[cond_true,Z30,Z7]
  ac_rfl
end
theorem Bvu{x:Int}:Alb x ↔ -9223372036854775808≤x∧x≤9223372036854775807:=by
 simp[Alb,Lit.wf,IntKind.min,IntKind.max,IntKind.signed,IntKind.bits]
theorem Avu{n:Nat}(h:n≤reachBytes):n≤140737488355327:=by simp only[reachBytes]at h;omega
theorem Ars{n m:Nat}(h:n*m≤reachBytes)(hm:0<m):n≤140737488355327:=by
 have:n*1≤n*m:=Nat.mul_le_mul_left n hm;simp only[reachBytes]at h;omega
def Bvv (a:Es):Er:=Er.mk a.Ae a.Eg a.C0 a.E9 a.C1 a.Eh
def Bvw (a:Dx):Dw:=Dw.mk a.Fy a.Hh a.Fz
def A2x (a:Bb):A9:=A9.mk a.fAt a.Vu a.Vv
def Aya (a:Bc):Ba:=Ba.mk a.Hh a.C2 a.Ly a.fUp a.Gq a.Bt a.Gr a.Gs a.Ae a.Pq a.Gt (a.Ea.map A2x) a.Dg
def Awg (a:Ay):Ax:=Ax.mk a.A5 a.Bt a.Dg a.Ae a.Gu
def Atg (a:Ec):Eb:=Eb.mk (Bvv a.fC) (Bvw a.fP) (a.fL.map Aya) (a.fQ.map Awg) a.Pr
section
variable {K:Nat} (hK:281474976710656≤K)
include hK
theorem Ber{a:List Int}(w:A85 a):Auu K a=some a:=by
 have hl:=Ars w.2.1 (by decide)
 unfold Auu;rw[if_pos ⟨by omega,by omega,by omega,by omega⟩]
 have:=A06 a some id (fun _ _=>rfl) (by omega) (fun n i v=>Asx K a n v i) (fun n i v=>rfl) K 0 (List.replicate (a.length:Int).toNat 0) (Z21 _) (by simp) (fun j hj=>by omega) (by omega)
 simpa using this
theorem Axj{a:List Int}(w:Awc a):An2 K a=some a:=by
 have hl:=Ars w.2.1 (by decide)
 have hr:a.length*8≤140737488355327:=Avu w.2.1;unfold An2;rw[if_pos ⟨by omega,by omega,by omega,by omega⟩]
 have:=A06 a some id (fun _ _=>rfl) (by omega) (fun n i v=>Atu K a n v i) (fun n i v=>rfl) K 0 (List.replicate (a.length:Int).toNat 0) (Z21 _) (by simp) (fun j hj=>by omega) (by omega)
 simpa using this
theorem Bb7{a:List Bb}(w:Avk a):Atv K a=some (a.map A2x):=by
 have hl:=Ars w.2.1 (by decide)
 have hr:a.length*24≤140737488355327:=Avu w.2.1;unfold Atv;rw[if_pos ⟨by omega,by omega,by omega,by omega⟩]
 exact A06 a (Axa K) A2x (fun _ _=>rfl) (by omega) (fun n i v=>Ar8 K a n v i) (fun n i v=>rfl) K 0 _ (Z21 _) (by simp) (fun j hj=>by omega) (by omega)
theorem Blg{a:Bc}(w:Avl a):Atm K a=some (Aya a):=by
 unfold Atm;obtain⟨_,_,_,_,_,_,_,_,h1,_,_,h2,h3⟩:=w;rw[Axj hK h1,Bb7 hK h2,Axj hK h3];rfl
theorem Bes{a:List Bc}(w:Awd a):Auv K a=some (a.map Aya):=by
 have hl:=Ars w.2.1 (by decide)
 have hr:a.length*152≤140737488355327:=Avu w.2.1;unfold Auv;rw[if_pos ⟨by omega,by omega,by omega,by omega⟩]
 exact A06 a (Atm K) Aya (fun x hx=>Blg hK (w.1 x hx)) (by omega) (fun n i v=>Asy K a n v i) (fun n i v=>rfl) K 0 _ (Z21 _) (by simp) (fun j hj=>by omega) (by omega)
theorem Bet{a:Ay}(w:Ats a):Ask K a=some (Awg a):=by
 unfold Ask;obtain⟨_,_,h1,h2,_⟩:=w;rw[Axj hK h1,Axj hK h2];rfl
theorem Bb8{a:List Ay}(w:Avm a):Atw K a=some (a.map Awg):=by
 have hl:=Ars w.2.1 (by decide)
 have hr:a.length*72≤140737488355327:=Avu w.2.1;unfold Atw;rw[if_pos ⟨by omega,by omega,by omega,by omega⟩]
 exact A06 a (Ask K) Awg (fun x hx=>Bet hK (w.1 x hx)) (by omega) (fun n i v=>Ar9 K a n v i) (fun n i v=>rfl) K 0 _ (Z21 _) (by simp) (fun j hj=>by omega) (by omega)
theorem Beu{a:Ec}(w:Ap9 a):Aqe K a=some (Atg a):=by
 unfold Aqe Ax1 Ax2;obtain⟨_,⟨h1,h2,h3⟩,h4,h5,h6⟩:=w;rw[Ber hK h1,Axj hK h2,Axj hK h3,Bes hK h4,Bb8 hK h5,Axj hK h6];rfl
theorem A66{a:List Int}(hl:a.length≤140737488355327):Ass K a a=some true:=by
 unfold Ass;simp only[bne_self_eq_false,cond_false];exact Bk8 a (by omega) (Atc K a a) (fun n i=>rfl) K 0 (Z21 _) (by omega)
theorem Axk{a:List Int}(w:a.length*8≤140737488355327):An4 K a a=some true:=by
 have hl:a.length≤140737488355327:=by omega
 unfold An4;simp only[bne_self_eq_false,cond_false];exact Bk8 a (by omega) (Aud K a a) (fun n i=>rfl) K 0 (Z21 _) (by omega)
omit hK in
theorem Bev (a:A9):Ast K a a=some true:=by simp[Ast]
theorem Bb9{a:List A9}(w:A2u a):Aue K a a=some true:=by
 have hl:a.length≤140737488355327:=by have:=w.2;omega
 unfold Aue;simp only[bne_self_eq_false,cond_false];exact Bk7 a (Ast K) (fun x _=>Bev x) (by omega) (Aqz K a a) (fun n i=>by rw[Aqz];simp only[Ac2]) K 0 (Z21 _) (by omega)
theorem Blh{a:Ba}(w:A1c a):Atr K a a=some true:=by
 simp[Atr,Axk hK w.chunks.2,Bb9 hK w.things,Axk hK w.tags.2]
theorem Bew{a:List Ba}(w:Aix a):Avi K a a=some true:=by
 have hl:=Aen w;unfold Avi;simp only[bne_self_eq_false,cond_false];exact Bk7 a (Atr K) (fun x hx=>Blh hK (w.1 x hx)) (by omega) (Arl K a a) (fun n i=>by rw[Arl];simp only[Ac2]) K 0 (Z21 _) (by omega)
theorem Bex{a:Ax}(w:Azo a):Asu K a a=some true:=by
 simp[Asu,Axk hK w.tags.2,Axk hK w.chunks.2]
theorem Bca{a:List Ax}(w:Bc4 a):Auf K a a=some true:=by
 have hl:a.length≤140737488355327:=by have:=w.2;omega
 unfold Auf;simp only[bne_self_eq_false,cond_false];exact Bk7 a (Asu K) (fun x hx=>Bex hK (w.1 x hx)) (by omega) (Aq0 K a a) (fun n i=>by rw[Aq0];simp only[Ac2]) K 0 (Z21 _) (by omega)
theorem Bey{a:Eb}(w:Atj a):Aqi K a a=some true:=by
 simp[Aqi,Ax7,Ax8,A66 hK w.p.mem.2,Axk hK w.p.st.2,Axk hK w.p.own.2,Bew hK w.l,Bca hK w.q,Axk hK w.log.2]
omit hK in
theorem Bez (a:List Int)(y:Int): ∃r,Aut K a y=some r:=by
 unfold Aut;cases decide (Aob .i64 y (a.length:Int)<0)<;>exact⟨_,rfl⟩
omit hK in
theorem Axl (a:List Int)(y:Int): ∃r,An1 K a y=some r:=by
 unfold An1;cases decide (Aob .i64 y (a.length:Int)<0)<;>exact⟨_,rfl⟩
omit hK in
theorem Bcb (a:List Bb)(y:Int): ∃r,Att K a y=some r:=by
 unfold Att;cases decide (Aob .i64 y (a.length:Int)<0)<;>exact⟨_,rfl⟩
omit hK in
theorem Bli (a:Bc)(y:Int): ∃r,Ap8 K a y=some r:=by
 unfold Ap8;obtain⟨r1,h1⟩:=Axl (K:=K) a.Ae y;rw[h1];simp only[Z0];cases decide (r1<0)
 ·obtain⟨r2,h2⟩:=Bcb (K:=K) a.Ea r1;simp only[h2,Z0,cond_false];cases decide (r2<0)
  ·obtain⟨r3,h3⟩:=Axl (K:=K) a.Dg r2;simp only[h3,Z0,cond_false];cases decide (r3<0)<;>exact⟨_,rfl⟩
  ·exact⟨_,rfl⟩
 ·exact⟨_,rfl⟩
theorem Be0{a:List Bc}(w:Awd a)(y:Int): ∃r,Asj K a y=some r:=by
 have hl:=Ars w.2.1 (by decide)
 unfold Asj;cases decide (Aob .i64 y (a.length:Int)<0)
 ·exact Bss a (Ap8 K) (fun x _ y=>Bli x y) (by omega) (Aqa K a) (fun n y i=>rfl) K 0 _ (Z21 _) (by omega)
 ·exact⟨_,rfl⟩
omit hK in
theorem Be1 (a:Ay)(y:Int): ∃r,Apt K a y=some r:=by
 unfold Apt;obtain⟨r1,h1⟩:=Axl (K:=K) a.Dg y;rw[h1];simp only[Z0];cases decide (r1<0)
 ·obtain⟨r2,h2⟩:=Axl (K:=K) a.Ae r1;simp only[h2,Z0,cond_false];cases decide (r2<0)<;>exact⟨_,rfl⟩
 ·exact⟨_,rfl⟩
theorem Bcc{a:List Ay}(w:Avm a)(y:Int): ∃r,Ary K a y=some r:=by
 have hl:=Ars w.2.1 (by decide)
 unfold Ary;cases decide (Aob .i64 y (a.length:Int)<0)
 ·exact Bss a (Apt K) (fun x _ y=>Be1 x y) (by omega) (Apw K a) (fun n y i=>rfl) K 0 _ (Z21 _) (by omega)
 ·exact⟨_,rfl⟩
omit hK in
theorem Blj (a:Dx)(y:Int): ∃r,Atl K a y=some r:=by
 unfold Atl;obtain⟨r1,h1⟩:=Bez (K:=K) a.Fy y;rw[h1];simp only[Z0];cases decide (r1<0)
 ·obtain⟨r2,h2⟩:=Axl (K:=K) a.Hh r1;simp only[h2,Z0,cond_false];cases decide (r2<0)
  ·obtain⟨r3,h3⟩:=Axl (K:=K) a.Fz r2;simp only[h3,Z0,cond_false];cases decide (r3<0)<;>exact⟨_,rfl⟩
  ·exact⟨_,rfl⟩
 ·exact⟨_,rfl⟩
theorem Be2{a:Ec}(w:Ap9 a)(y:Int): ∃r,Aqd K a y=some r:=by
 obtain⟨_,_,h4,h5,_⟩:=w;unfold Aqd;obtain⟨r1,h1⟩:=Blj (K:=K) a.fP y;rw[h1];simp only[Z0];cases decide (r1<0)
 ·obtain⟨r2,h2⟩:=Be0 hK h4 r1;simp only[h2,Z0,cond_false];cases decide (r2<0)
  ·obtain⟨r3,h3⟩:=Bcc hK h5 r2;simp only[h3,Z0,cond_false];cases decide (r3<0)
   ·obtain⟨r4,h4⟩:=Axl (K:=K) a.Pr r3;simp only[h4,Z0,cond_false];cases decide (r4<0)<;>exact⟨_,rfl⟩
   ·exact⟨_,rfl⟩
  ·exact⟨_,rfl⟩
 ·exact⟨_,rfl⟩
end
theorem Aqm{x:Int}(h:Alb x):wfi x:=Bvu.1 h
theorem Axm{l:List Int}(h:Awc l):Az3 l:=⟨fun x hx=>Aqm (h.1 x hx),Avu h.2.1⟩
theorem B2l{x:Int}(h:Baa x):0≤x∧x≤255:=by
 simpa[Baa,Lit.wf,IntKind.min,IntKind.max,IntKind.signed,IntKind.bits]using h
theorem Be3{l:List Int}(h:A85 l):Bla l:=⟨fun x hx=>B2l (h.1 x hx),by have:=Avu h.2.1;omega⟩
theorem Bcd{l:List Bb}(h:Avk l):A2u (l.map A2x):=by
 refine⟨fun x hx=> ?_,by rw[B8];exact Avu h.2.1⟩
 obtain⟨y,hy,rfl⟩:=Eo.1 hx;obtain⟨h1,h2,h3⟩:=h.1 y hy;exact⟨Aqm h1,Aqm h2,Aqm h3⟩
theorem Bll{a:Bc}(w:Avl a):A1c (Aya a):=by
 obtain⟨h1,h2,h3,h4,h5,h6,h7,h8,h9,h10,h11,h12,h13⟩:=w;exact⟨Aqm h1,Aqm h2,Aqm h3,Aqm h4,Aqm h5,Aqm h6,Aqm h7,Aqm h8,Axm h9,Aqm h10,Aqm h11,Bcd h12,Axm h13⟩
theorem Be4{a:Ay}(w:Ats a):Azo (Awg a):=by
 obtain⟨h1,h2,h3,h4,h5⟩:=w;exact⟨Aqm h1,Aqm h2,Axm h3,Axm h4,Aqm h5⟩
theorem Be5{a:Ec}(w:Ap9 a):Atj (Atg a):=by
 obtain⟨⟨c1,c2,c3,c4,c5,c6⟩,⟨p1,p2,p3⟩,h3,h4,h5⟩:=w;refine⟨⟨Aqm c1,Aqm c2,Aqm c3,Aqm c4,Aqm c5,Aqm c6⟩,⟨Be3 p1,Axm p2,Axm p3⟩,⟨fun x hx=> ?_,?_⟩,⟨fun x hx=> ?_,?_⟩,Axm h5⟩
 ·obtain⟨y,hy,rfl⟩:=Eo.1 hx;exact Bll (h3.1 y hy)
 ·show(a.fL.map Aya).length*152≤_;rw[B8];exact Avu h3.2.1
 ·obtain⟨y,hy,rfl⟩:=Eo.1 hx;exact Be4 (h4.1 y hy)
 ·show(a.fQ.map Awg).length*72≤_;rw[B8];exact Avu h4.2.1
def K0:Nat:=281474976710656
theorem Bce{α:Type}[Inhabited α]{l:List α}{i:Nat}(h:i<l.length)(x:α):gt (l.set (i:Int).toNat x) (i:Int)=x:=by
 rw[Ael (by simpa using h)];simp
theorem Bvx{α:Type}(l:List α)(i:Nat)(x y:α):(l.set i x).set i y=l.set i y:=List.set_set ..
theorem Ayi{k:Nat}(h:k≤140737488355328):Aoa .i64 (k:Int) 1=((k+1:Nat):Int):=Ahl h
theorem Bop{α:Type}[Inhabited α]{l:List α}{i:Nat}(h:i<l.length):l.drop i=gt l (i:Int)::l.drop (i+1):=by
 rw[Ael h,Z47 h]
section
variable {K:Nat} (hK:281474976710656≤K)
include hK
def Avw (n:Nat)(k:Nat):List Int:=(List.range n).map fun i=>((k+i:Nat):Int)
omit hK in
theorem Aqc (n k:Nat):(Avw n k).length=n:=by simp[Avw]
omit hK in
theorem Bcf (k:Nat): ∀(n i:Nat) (v:List Int),k+v.length≤140737488355327->i≤v.length->(∀j,j<i->v[j]? =(Avw v.length k)[j]?)->v.length - i<n→
  Aq1 K n v ((k+i:Nat):Int) (i:Int)=some (((k+v.length:Nat):Int),Avw v.length k):=by
 intro n
 induction n with
 |zero=>intro i v _ _ _ h;omega
 |succ n ih=>
  intro i v hl hi hj hn;rw[Aq1];rcases F9 i v.length with h|h
  ·rw[Agf h];simp only[cond_true]
   have e:Aoa .i64 ((k+i:Nat):Int) 1=((k+(i+1):Nat):Int):=by unfold Aoa;rw[Afe (by omega) (by omega)];omega
   rw[if_pos ⟨by omega,by omega⟩,e,Ahl (i:=i) (by omega)]
   have:=ih (i+1) (v.set (i:Int).toNat ((k+i:Nat):Int)) (by simpa using hl) (by simp only[Z49];omega) (fun j hj2=>by
    rw[Int.toNat_natCast,V8,Z49]
    by_cases e:i=j
    ·subst e;rw[if_pos rfl,if_pos h];simp[Avw,h]
    ·rw[if_neg e];exact hj j (by omega)) (by simp only[Z49];omega)
   rw[this];simp
  ·rw[Ag0 h]
   have hia:i=v.length:=by omega
   subst hia
   have e:v=Avw v.length k:=by
    refine List.ext_getElem? fun j=> ?_;rcases F9 j v.length with hja|hja
    ·exact hj j hja
    ·rw[Z58 (by omega),Z58 (by rw[Aqc];omega)]
   simp only[cond_false];rw[←e]
theorem Axn (a:List Int)(k:Nat)(hk:k+a.length≤140737488355327):Ald K a (k:Int)=some (((k+a.length:Nat):Int),Avw a.length k):=by
 unfold Ald;exact Bcf k K 0 a hk (Z21 _) (fun j hj=>by omega) (by omega)
def Ba0{α:Type}(_:α):Nat:=3
omit hK in
theorem Azz{α:Type}(l:List α):(l.map Ba0).sum=3*l.length:=by
 induction l with
 |nil=>rfl
 |cons a l ih=>simp only[Z8,List.sum_cons,Y9,ih,Ba0];omega
def Ap7 (x:Ba):Nat:=10+x.Ae.length+3*x.Ea.length+x.Dg.length
def Aqn (x:Ax):Nat:=3+x.Dg.length+x.Ae.length
def Awv (p:Dw):Nat:=p.Fy.length+p.Hh.length+p.Fz.length
def cells (w:Eb):Nat:=Awv w.fP+(w.fL.map Ap7).sum+(w.fQ.map Aqn).sum+w.Pr.length
end
theorem Bsu{y:Int}{n:Nat}(h0:0≤y)(h1:y≤1048576)(hn:n≤140737488355327):Aob .i64 y (n:Int)=y - n:=by
 unfold Aob;exact Afe (by omega) (by omega)
theorem A1i{n:Nat}{y r:Int}(hn:n≤140737488355327)(h0:0≤y)(h1:y≤1048576)(h:(bif (decide ((Aob .i64 y (n:Int))<0))then some (-1)else some (Aob .i64 y (n:Int)))=some r)(hr:0≤r):r+n=y:=by
 rw[Bsu h0 h1 hn]at h;cases e:decide (y - (n:Int)<0)with
 |true=>rw[e]at h;simp at h;omega
 |false=>rw[e]at h;simp at h;omega
theorem Ayj{f:Option Int}{g:Int->Option Int}{r:Int}(h:f.bind (fun q=>bif decide (q<0)then some (-1)else g q)=some r)(hr:0≤r): ∃q,f=some q∧0≤q∧g q=some r:=by
 cases f with
 |none=>cases h
 |some q=>
  simp only[Z0]at h;cases e:decide (q<0)with
  |true=>rw[e]at h;simp at h;omega
  |false=>rw[e]at h;exact⟨q,rfl,by simpa using e,h⟩
theorem B2m{α:Type}[Inhabited α](a:List α)(f:α->Int->Option Int)(c:α->Nat)(hf: ∀x∈a,∀y r,0≤y->y≤1048576->f x y=some r->0≤r->r+c x=y)(ha:a.length≤140737488355327)
  (L:Nat->Int->Int->Option Int) (h00: ∀y i,L 0 y i=none) (hL: ∀n y i,L (n+1) y i=bif decide (i<(a.length:Int))then(if(0:Int)≤i∧i<(a.length:Int)then(f (gt a i) y).bind (fun r=>bif decide (r<0)then some (-1)else L n r (Aoa .i64 i 1))else none)else some y):
  ∀(n i:Nat) (y r:Int),i≤a.length->0≤y->y≤1048576->L n y (i:Int)=some r->0≤r->r+(((a.drop i).map c).sum:Nat)=y:=by
 intro n
 induction n with
 |zero=>intro i y r _ _ _ h;rw[h00]at h;cases h
 |succ n ih=>
  intro i y r hi h0 h1 h hr;rw[hL]at h;rcases F9 i a.length with hl|hl
  ·rw[Agf hl]at h;simp only[cond_true]at h;rw[if_pos ⟨by omega,by omega⟩,Ahl (by omega)]at h
   obtain⟨q,q1,q2,q3⟩:=Ayj h hr
   have e1:=hf _ (Api hl) _ _ h0 h1 q1 q2
   have e2:=ih (i+1) q r hl q2 (by omega) q3 hr
   rw[Bop hl,Z8,List.sum_cons];omega
  ·rw[Ag0 hl]at h;simp only[cond_false,Z7]at h;rw[Z48 hl];simp;omega
def szN (x:Bc):Nat:=x.Ae.length+x.Ea.length+x.Dg.length
def szW (x:Ay):Nat:=x.Dg.length+x.Ae.length
theorem Blm{K:Nat}{a:Bc}(w:Avl a){y r:Int}(h0:0≤y)(h1:y≤1048576)(h:Ap8 K a y=some r)(hr:0≤r):r+szN a=y:=by
 obtain⟨_,_,_,_,_,_,_,_,w1,_,_,w2,w3⟩:=w;unfold Ap8 at h;obtain⟨q,q1,q2,h⟩:=Ayj h hr;obtain⟨p,p1,p2,h⟩:=Ayj h hr;obtain⟨s,s1,s2,h⟩:=Ayj h hr
 have e1:=A1i (Ars w1.2.1 (by decide)) h0 h1 q1 q2
 have e2:=A1i (Ars w2.2.1 (by decide)) q2 (by omega) p1 p2
 have e3:=A1i (Ars w3.2.1 (by decide)) p2 (by omega) s1 s2
 injection h with h
 unfold szN;omega
theorem Be6{K:Nat}{a:Ay}(w:Ats a){y r:Int}(h0:0≤y)(h1:y≤1048576)(h:Apt K a y=some r)(hr:0≤r):r+szW a=y:=by
 obtain⟨_,_,w1,w2,_⟩:=w;unfold Apt at h;obtain⟨q,q1,q2,h⟩:=Ayj h hr;obtain⟨p,p1,p2,h⟩:=Ayj h hr
 have e1:=A1i (Ars w1.2.1 (by decide)) h0 h1 q1 q2
 have e2:=A1i (Ars w2.2.1 (by decide)) q2 (by omega) p1 p2
 injection h with h
 unfold szW;omega
theorem Bsv{n:Nat}{y r:Int}{o:Int->Option Int}(hn:n≤140737488355327)(h0:0≤y)(h1:y≤1048576)(h:(bif (decide ((Aob .i64 y (n:Int))<0))then some (-1)else o (Aob .i64 y (n:Int)))=some r)(hr:0≤r):0≤y - n∧o (y - n)=some r:=by
 rw[Bsu h0 h1 hn]at h;cases e:decide (y - (n:Int)<0)with
 |true=>rw[e]at h;simp at h;omega
 |false=>rw[e]at h;exact⟨by simpa using e,h⟩
theorem Be7{K:Nat}{a:Ec}(w:Ap9 a){r:Int}(h:Aqd K a 1048576=some r)(hr:0≤r):a.fP.Fy.length+a.fP.Hh.length+a.fP.Fz.length+(a.fL.length+(a.fL.map szN).sum)+(a.fQ.length+(a.fQ.map szW).sum)+a.Pr.length≤1048576:=by
 obtain⟨_,⟨w1,w2,w3⟩,w4,w5,w6⟩:=w;unfold Aqd at h;obtain⟨q,q1,q2,h⟩:=Ayj h hr;unfold Atl at q1;obtain⟨p1,a1,b1,q1⟩:=Ayj q1 q2;obtain⟨p2,a2,b2,q1⟩:=Ayj q1 q2;obtain⟨p3,a3,b3,q1⟩:=Ayj q1 q2
 have e1:=A1i (Ars w1.2.1 (by decide)) (by omega) (by omega) a1 b1
 have e2:=A1i (Ars w2.2.1 (by decide)) b1 (by omega) a2 b2
 have e3:=A1i (Ars w3.2.1 (by decide)) b2 (by omega) a3 b3
 injection q1 with q1
 obtain⟨s,s1,s2,h⟩:=Ayj h hr;obtain⟨t,t1,t2,h⟩:=Ayj h hr;obtain⟨u,u1,u2,h⟩:=Ayj h hr;injection h with h
 unfold Asj at s1;obtain⟨z1,s1⟩:=Bsv (o:=fun z=>Aqa K a.fL K z 0) (Ars w4.2.1 (by decide)) q2 (by omega) s1 s2
 have e4:=B2m a.fL (Ap8 K) szN (fun x hx y r h0 h1 h hr=>Blm (w4.1 x hx) h0 h1 h hr) (Ars w4.2.1 (by decide)) (Aqa K a.fL) (fun _ _=>rfl) (fun _ _ _=>rfl) K 0 _ _ (Z21 _) z1 (by omega) s1 s2
 rw[Z55]at e4;unfold Ary at t1;obtain⟨z2,t1⟩:=Bsv (o:=fun z=>Apw K a.fQ K z 0) (Ars w5.2.1 (by decide)) s2 (by omega) t1 t2
 have e5:=B2m a.fQ (Apt K) szW (fun x hx y r h0 h1 h hr=>Be6 (w5.1 x hx) h0 h1 h hr) (Ars w5.2.1 (by decide)) (Apw K a.fQ) (fun _ _=>rfl) (fun _ _ _=>rfl) K 0 _ _ (Z21 _) z2 (by omega) t1 t2
 rw[Z55]at e5
 have e6:=A1i (Ars w6.2.1 (by decide)) t2 (by omega) u1 u2
 omega
theorem Be8 (l:List Bc):((l.map Aya).map Ap7).sum≤13*(l.length+(l.map szN).sum):=by
 induction l with
 |nil=>exact Z9 _
 |cons x l ih=>
  simp only[Z8,List.sum_cons,Y9]
  have:Ap7 (Aya x)≤13*(1+szN x):=by simp only[Ap7,Aya,szN,B8];omega
  omega
theorem Be9 (l:List Ay):((l.map Awg).map Aqn).sum≤13*(l.length+(l.map szW).sum):=by
 induction l with
 |nil=>exact Z9 _
 |cons x l ih=>
  simp only[Z8,List.sum_cons,Y9]
  have:Aqn (Awg x)≤13*(1+szW x):=by simp only[Aqn,Awg,szW];omega
  omega
theorem Boq{K:Nat}{a:Ec}(w:Ap9 a){r:Int}(h:Aqd K a 1048576=some r)(hr:0≤r):cells (Atg a)≤13631488:=by
 have h1:=Be7 w h hr
 have h2:=Be8 a.fL
 have h3:=Be9 a.fQ
 show a.fP.Fy.length+a.fP.Hh.length+a.fP.Fz.length+((a.fL.map Aya).map Ap7).sum+((a.fQ.map Awg).map Aqn).sum+a.Pr.length≤_;omega
section
variable {K:Nat} (hK:281474976710656≤K)
include hK
theorem A2y{α β:Type}(l:List α)(hl:l.length≤140737488355327)(fin:Option β)(L:Nat->List α->Int->Option β)
  (hs: ∀n v (i:Nat) (h:i<l.length),v.length=i->L (n+1) v (i:Int)=L n (v++[l[i]]) ((i+1:Nat):Int))
  (he: ∀n,L (n+1) l (l.length:Int)=fin):L K [] 0=fin:=by
 have:=A9h hK l (by omega) (fun _=>true) fin none (fun n i=>L n (l.take i) (i:Int)) (fun n i h=>by
  rw[hs n _ i h (by simp;omega),List.take_append_getElem];rfl) (fun n=>by rw[List.take_length];exact he n)
 rw[Z1.2 (fun _ _=>rfl)]at this;simpa using this
omit hK in
theorem Ba1 (K:Nat){p:Dw}(w:Blb p):Av1 K p=some p:=by
 have hm:=Apq
 have h1:=w.mem.2
 have h2:=w.st.2
 have h3:=w.own.2;unfold Av1;simp only[Zg];rw[if_pos ⟨by omega,by omega⟩,if_pos ⟨by omega,by omega⟩,if_pos ⟨by omega,by omega⟩]
omit hK in
theorem Ba2 (K:Nat){n:Ba}(w:A1c n):Av2 K n=some n:=by
 have hm:=Apq
 have h1:=w.chunks.2
 have h2:=w.things.2
 have h3:=w.tags.2;unfold Av2;simp only[Zg];rw[if_pos ⟨by omega,by omega⟩,if_pos ⟨by omega,by omega⟩,if_pos ⟨by omega,by omega⟩]
theorem Bcg{l:List Ba}(w:Aix l):Awz K l=some l:=by
 have hm:=Apq
 have h2:=w.2;unfold Awz;refine A2y hK l (Aen w) (some l) (fun n v i=>Aqf K l n v i) (fun n v i h hv=> ?_) (fun n=> ?_)
 ·have hl:(v++[l[i]]).length=i+1:=by simp[hv]
  simp only[Aqf];rw[Agf h,cond_true,if_pos (Ajz h),Ael h,Ba2 K (w.1 _ (List.getElem_mem h)),Z0,if_pos ⟨by rw[hl];omega,by rw[hl];omega⟩,Ahl (by omega)]
 ·show Aqf K l (n+1) _ _=_;rw[Aqf,Ag0 (Z9 _),cond_false]
omit hK in
theorem A9o (K:Nat){x:Ax}(w:Azo x):Aux K x=some x:=by
 have hm:=Apq
 have h1:=w.tags.2
 have h2:=w.chunks.2;unfold Aux;simp only[Zg];rw[if_pos ⟨by omega,by omega⟩,if_pos ⟨by omega,by omega⟩]
theorem A9p{w:Eb}(hw:Atj w):Auy K w=some w:=by
 have hm:=Apq
 have h2:=hw.q.2
 have h3:=hw.log.2;unfold Auy;rw[Ba1 K hw.p,Z0,Bcg hK hw.l,Z0]
 refine A2y hK w.fQ (by omega) (some w) (fun n v i=>Apl K n i w.fC.Ae w.fC.Eg w.fC.C0 w.fC.E9 w.fC.C1 w.fC.Eh w.fP.Fy w.fP.Hh w.fP.Fz w.fL v w.Pr (Eb.mk (Er.mk 0 0 0 0 0 0) (Dw.mk [] [] []) [] [] []) w.fC.Ae w.fC.Eg w.fC.C0 w.fC.E9 w.fC.C1 w.fC.Eh w.fP.Fy w.fP.Hh w.fP.Fz w.fL w.fQ w.Pr) (fun n v i h hv=> ?_) (fun n=> ?_)
 ·have hl:(v++[w.fQ[i]]).length=i+1:=by simp[hv]
  simp only[Apl];rw[Agf h,cond_true,if_pos (Ajz h),Ael h,A9o K (hw.q.1 _ (List.getElem_mem h)),Z0,if_pos ⟨by rw[hl];omega,by rw[hl];omega⟩,Ahl (by omega)]
 ·show Apl K (n+1) _ _ _ _ _ _ _ _ _ _ _ _ _ _ _ _ _ _ _ _ _ _ _ _ _ _=_;rw[Apl,Ag0 (Z9 _),cond_false];simp only[Zg];rw[if_pos ⟨by omega,by omega⟩]
omit hK in
theorem A6v (K:Nat){p:Dw}(w:Blb p):Aua K p=some p:=by
 unfold Aua;rw[A5q K w.mem.2,Aus K w.st.2,Aus K w.own.2];rfl
omit hK in
theorem A6w (K:Nat){n:Ba}(w:A1c n):Aub K n=some n:=by
 unfold Aub;rw[Aus K w.chunks.2,Bal K w.things.2,Aus K w.tags.2];rfl
theorem A55{l:List Ba}(w:Aix l):As8 K l=some l:=by
 have hm:=Apq
 have h2:=w.2;unfold As8;refine A2y hK l (Aen w) (some l) (fun n v i=>Anj K l n v (l.length:Int) i) (fun n v i h hv=> ?_) (fun n=> ?_)
 ·have hl:(v++[l[i]]).length=i+1:=by simp[hv]
  simp only[Anj];rw[Agf h,cond_true,if_pos (Ajz h),Ael h,A6w K (w.1 _ (List.getElem_mem h)),Z0,if_pos ⟨by rw[hl];omega,by rw[hl];omega⟩,Ahl (by omega)]
 ·show Anj K l (n+1) _ _ _=_;rw[Anj,Ag0 (Z9 _),cond_false]
omit hK in
theorem A56 (K:Nat){x:Ax}(w:Azo x):As9 K x=some x:=by
 unfold As9;rw[Aus K w.tags.2,Aus K w.chunks.2];rfl
theorem Bln{α:Type}(v:List α)(d x:α):(v++[d]).set (v.length:Int).toNat x=v++[x]:=by
 rw[Int.toNat_natCast,List.set_append_right _ _ (Z9 _)];simp
theorem Azt{w:Eb}(hw:Atj w):Arj K w=some w:=by
 have hm:=Apq
 have h2:=hw.q.2;unfold Arj;rw[A6v K hw.p,Z0,A55 hK hw.l,Z0,Aus K hw.log.2,Z0];refine A2y hK w.fQ (by omega) (some w) (fun n v i=>Ank K n w.fQ (w.fQ.length:Int) i (Eb.mk w.fC w.fP w.fL v w.Pr) (Eb.mk (Er.mk 0 0 0 0 0 0) (Dw.mk [] [] []) [] [] [])) (fun n v i h hv=> ?_) (fun n=> ?_)
 ·simp only[Ank];rw[Agf h,cond_true,if_pos (Ajz h),Ael h,A56 K (hw.q.1 _ (List.getElem_mem h)),Z0,if_pos ⟨by omega,by omega⟩,Ahl (by omega),Bln hK]
 ·show Ank K (n+1) _ _ _ _ _=_;rw[Ank,Ag0 (Z9 _),cond_false]
end
theorem Bch (K:Nat)(r:Fg): ∃t,Aw2 K r=some t∧Aw5 K r=some t:=by
 unfold Aw2 Aw5;rw[Az5,Az6];simp only[Z0];cases Avq r.fH<;>cases decide (r.Ly≥0)<;>exact⟨_,rfl,rfl⟩
theorem A9q (K:Nat){n:Ba}(hn:A1c n)(r:Fg): ∃t,Au6 K n r=some t∧Avg K n r=some t∧Azn t.1:=by
 have wz:Azn (A9.mk 0 0 0):=⟨⟨by decide,by decide⟩,⟨by decide,by decide⟩,⟨by decide,by decide⟩⟩
 have h2:=hn.things
 have hl:n.Ea.length≤140737488355327:=by have:=h2.2;omega
 unfold Au6 Avg;rw[A1d K hl,A61 K hl];simp only[Z0]
 by_cases hs:0≤r.fNo∧r.fNo<(n.Ea.length:Int)
 ·rw[decide_eq_true hs,if_pos hs]
  have wt:=h2.1 _ (Axz hs.1 hs.2);cases n.Hh != 1<;>cases n.Ly != r.Ly<;>first|exact⟨_,rfl,rfl,wz⟩|exact⟨_,rfl,rfl,wt⟩
 ·rw[decide_eq_false hs];cases n.Hh != 1<;>cases n.Ly != r.Ly<;>exact⟨_,rfl,rfl,wz⟩
theorem A57{K:Nat}(hK:281474976710656≤K){w:Eb}(hw:Aix w.fL)(r:Fg): ∃t,As5 K w r=some t∧Ata K w r=some t∧Azn t.2.1:=by
 have wz:Azn (A9.mk 0 0 0):=⟨⟨by decide,by decide⟩,⟨by decide,by decide⟩,⟨by decide,by decide⟩⟩
 unfold As5 Ata;obtain⟨t,h1,h2⟩:=Bch K r;rw[h1,h2,A6p hK hw,A6q hK hw];simp only[Z0];cases t with
 |false=>exact⟨_,rfl,rfl,wz⟩
 |true=>
  try simp only[cond_true]
  by_cases h0:(Az7 w.fL r.fH).2=0
  ·have hi:=Ble h0;rw[if_pos hi,if_pos hi,h0];obtain⟨q,h3,h4,h5⟩:=A9q K (hw.1 _ (Axz hi.1 hi.2)) r;rw[h3,h4];simp only[Z0];cases q.2<;>first|exact⟨_,rfl,rfl,wz⟩|exact⟨_,rfl,rfl,h5⟩
  ·have:((Az7 w.fL r.fH).2 != 0)=true:=by simpa using h0
   rw[this];exact⟨_,rfl,rfl,wz⟩
def A2s (mem:List Int)(p n:Int):List Int×Bool:=if 0≤p∧0≤n∧p+n≤(mem.length:Int)then((mem.drop p.toNat).take n.toNat,true)else([],false)
theorem A9r{mem:List Int}(a b:Nat):((mem.drop a).take b).length≤mem.length:=by simp;omega
theorem Blo (K:Nat){mem:List Int}(hl:mem.length≤140737488355327)(p n:Int):Au7 K mem p n=some (decide (0≤p∧0≤n∧p+n≤(mem.length:Int))):=by
 unfold Au7
 by_cases h1:(0:Int)≤p
 ·rw[decide_eq_true (show p≥0 from h1)]
  by_cases h2:(0:Int)≤n
  ·rw[decide_eq_true (show n≥0 from h2)]
   by_cases h3:p≤(mem.length:Int)
   ·rw[decide_eq_true h3];simp only[cond_true,Z7,decide_eq_decide];unfold Aob;rw[Afe (by omega) (by omega)]
    omega
   ·rw[decide_eq_false h3];simp only[cond_true,cond_false,Z7];exact(decide_eq_false (by omega)).symm
  ·rw[decide_eq_false (show ¬n≥0 from h2)]
   simp only[cond_true,cond_false,Z7];exact(decide_eq_false (by omega)).symm
 ·rw[decide_eq_false (show ¬p≥0 from h1)]
  simp only[cond_false,Z7];exact(decide_eq_false (by omega)).symm
theorem Blp (K:Nat){m:Nat}(hl:m≤140737488355327)(p n:Int):Axd K (m:Int) p n=some (decide (0≤p∧0≤n∧p+n≤(m:Int))):=by
 unfold Axd Abk
 by_cases h2:(0:Int)≤n
 ·rw[decide_eq_true (show n≥0 from h2)]
  by_cases h3:n≤(m:Int)
  ·rw[decide_eq_true h3]
   by_cases h1:(0:Int)≤p
   ·rw[decide_eq_true (show p≥0 from h1)]
    simp only[cond_true,Z0,Z7,decide_eq_decide];unfold Aob;rw[Afe (by omega) (by omega)]
    omega
   ·rw[decide_eq_false (show ¬p≥0 from h1)]
    simp only[cond_true,cond_false,Z0,Z7];exact(decide_eq_false (by omega)).symm
  ·rw[decide_eq_false h3];simp only[cond_true,cond_false,Z7];exact(decide_eq_false (by omega)).symm
 ·rw[decide_eq_false (show ¬n≥0 from h2)]
  simp only[cond_false,Z7];exact(decide_eq_false (by omega)).symm
theorem Bci (K:Nat){mem:List Int}(hl:mem.length≤140737488355327)(p n:Int):Aw4 K mem p n=some (A2s mem p n):=by
 unfold Aw4 A2s;rw[Blo K hl];simp only[Z0]
 by_cases h:0≤p∧0≤n∧p+n≤(mem.length:Int)
 ·rw[decide_eq_true h,if_pos h]
  try simp only[cond_true]
  have e:Aoa .i64 p n=p+n:=by unfold Aoa;rw[Afe (by omega) (by omega)]
  have hc:=A9r (mem:=mem) p.toNat (p+n - p).toNat;rw[e,if_pos ⟨by omega,by omega,by omega⟩,if_pos ⟨by simp only[Zg,Nat.mul_one];omega,by simp only[Zg,maxLen];omega⟩]
  rw[show p+n - p=n from by omega]
  rfl
 ·rw[decide_eq_false h,if_neg h];rfl
theorem Bcj (K:Nat){mem:List Int}(hl:mem.length≤140737488355327)(p n:Int):Aw7 K mem p n=some (A2s mem p n):=by
 unfold Aw7 A2s;rw[Blp K hl];simp only[Z0]
 by_cases h:0≤p∧0≤n∧p+n≤(mem.length:Int)
 ·rw[decide_eq_true h,if_pos h]
  try simp only[cond_true]
  have e:Aoa .i64 p n=p+n:=by unfold Aoa;rw[Afe (by omega) (by omega)]
  have hc:=A9r (mem:=mem) p.toNat (p+n - p).toNat;rw[e,if_pos ⟨by omega,by omega,by omega⟩,A5q K (by omega)]
  rw[show p+n - p=n from by omega]
  rfl
 ·rw[decide_eq_false h,if_neg h];rfl
def A0a (mem:List Int)(t:A9)(at_ n:Int):List Int×Bool:=if 0≤at_∧0≤n∧at_+n≤t.Vu then A2s mem (Aoa .i64 t.fAt at_) n else([],false)
theorem Blq{mem:List Int}{p n:Int}(h:p<0):A2s mem p n=([],false):=by unfold A2s;rw[if_neg (by omega)]
theorem A58 (K:Nat){mem:List Int}(hl:mem.length≤140737488355327){t:A9}(wt:Azn t)(at_ n:Int):As6 K mem t at_ n=some (A0a mem t at_ n):=by
 obtain⟨wl1,wl2⟩:=wt.2.1;unfold As6 Aym A0a
 by_cases h1:(0:Int)≤at_
 ·rw[decide_eq_true (show at_≥0 from h1)]
  by_cases h2:(0:Int)≤n
  ·rw[decide_eq_true (show n≥0 from h2)]
   by_cases h3:at_≤t.Vu
   ·rw[decide_eq_true h3]
    have e:Aob .i64 t.Vu at_=t.Vu - at_:=by unfold Aob;rw[Afe (by omega) (by omega)]
    rw[e]
    by_cases h4:n≤t.Vu - at_
    ·rw[decide_eq_true h4,if_pos ⟨h1,h2,by omega⟩]
     simp only[cond_true,Bci K hl];cases decide (t.fAt<0)with
     |true=>rfl
     |false=>
      by_cases h5:(0:Int)≤Aoa .i64 t.fAt at_
      ·rw[decide_eq_true (show Aoa .i64 t.fAt at_≥0 from h5)];rfl
      ·rw[decide_eq_false (show ¬Aoa .i64 t.fAt at_≥0 from h5),Blq (by omega)];rfl
    ·rw[decide_eq_false h4,if_neg (by omega)];rfl
   ·rw[decide_eq_false h3,if_neg (by omega)];rfl
  ·rw[decide_eq_false (show ¬n≥0 from h2),if_neg (by omega)];rfl
 ·rw[decide_eq_false (show ¬at_≥0 from h1),if_neg (by omega)];rfl
theorem Bck (K:Nat){mem:List Int}(hl:mem.length≤140737488355327){t:A9}(wt:Azn t)(at_ n:Int):
  ∃r,Avh K mem t at_ n=some r∧r.2=decide ((0≤at_∧0≤n∧at_+n≤t.Vu)∧0≤Aoa .i64 t.fAt at_∧Aoa .i64 t.fAt at_+n≤(mem.length:Int))∧(r.2=true->r.1=Aoa .i64 t.fAt at_):=by
 obtain⟨wl1,wl2⟩:=wt.2.1;unfold Avh
 by_cases h1:at_<0
 ·rw[decide_eq_true h1];exact⟨_,rfl,(decide_eq_false (by omega)).symm,fun h=>by cases h⟩
 ·rw[decide_eq_false h1]
  by_cases h2:n<0
  ·rw[decide_eq_true h2];exact⟨_,rfl,(decide_eq_false (by omega)).symm,fun h=>by cases h⟩
  ·rw[decide_eq_false h2]
   by_cases h3:n>t.Vu
   ·rw[decide_eq_true h3];exact⟨_,rfl,(decide_eq_false (by omega)).symm,fun h=>by cases h⟩
   ·rw[decide_eq_false h3]
    have e:Aob .i64 t.Vu n=t.Vu - n:=by unfold Aob;rw[Afe (by omega) (by omega)]
    rw[e]
    by_cases h4:at_>t.Vu - n
    ·rw[decide_eq_true h4];exact⟨_,rfl,(decide_eq_false (by omega)).symm,fun h=>by cases h⟩
    ·rw[decide_eq_false h4]
     by_cases h5:Aoa .i64 t.fAt at_<0
     ·rw[decide_eq_true h5];exact⟨_,rfl,(decide_eq_false (by omega)).symm,fun h=>by cases h⟩
     ·rw[decide_eq_false h5,Blp K hl];refine⟨_,rfl,?_,fun _=>rfl⟩;simp only[decide_eq_decide];omega
theorem A59 (K:Nat){mem:List Int}(hl:mem.length≤140737488355327){t:A9}(wt:Azn t)(at_ n:Int):Atb K mem t at_ n=some (A0a mem t at_ n):=by
 obtain⟨r,h1,h2,h3⟩:=Bck K hl wt at_ n;unfold Atb A0a;rw[h1];simp only[Z0]
 by_cases hc:0≤at_∧0≤n∧at_+n≤t.Vu
 ·rw[if_pos hc]
  by_cases hd:0≤Aoa .i64 t.fAt at_∧Aoa .i64 t.fAt at_+n≤(mem.length:Int)
  ·have e:r.2=true:=by rw[h2];exact decide_eq_true ⟨hc,hd⟩
   rw[e,h3 e,Bcj K hl];rfl
  ·have e:r.2=false:=by rw[h2];exact decide_eq_false (fun h=>hd h.2)
   rw[e];unfold A2s;rw[if_neg (by omega)];rfl
 ·have e:r.2=false:=by rw[h2];exact decide_eq_false (fun h=>hc h.1)
  rw[e,if_neg hc];rfl
theorem Bfa{mem:List Int}{t:A9}{at_ n:Int}:(A0a mem t at_ n).1.length≤mem.length:=by
 unfold A0a A2s;split
 ·split
  ·exact A9r _ _
  ·exact Z21 _
 ·exact Z21 _
def Avv (n:Nat)(k:Nat):List Int:=(List.range n).map fun i=>IntKind.u8.wrap ((k+i:Nat):Int)
theorem Auj (n k:Nat):(Avv n k).length=n:=by simp[Avv]
theorem Ba3{K:Nat}(k:Nat): ∀(n i:Nat) (v:List Int),k+v.length≤140737488355327->i≤v.length->(∀j,j<i->v[j]? =(Avv v.length k)[j]?)->v.length - i<n→
  Aqj K n v ((k+i:Nat):Int) (i:Int)=some (((k+v.length:Nat):Int),Avv v.length k):=by
 intro n
 induction n with
 |zero=>intro i v _ _ _ h;omega
 |succ n ih=>
  intro i v hl hi hj hn;rw[Aqj];rcases F9 i v.length with h|h
  ·rw[Agf h];simp only[cond_true]
   have e:Aoa .i64 ((k+i:Nat):Int) 1=((k+(i+1):Nat):Int):=by unfold Aoa;rw[Afe (by omega) (by omega)];omega
   rw[if_pos ⟨by omega,by omega⟩,e,Ahl (i:=i) (by omega)]
   have:=ih (i+1) (v.set (i:Int).toNat (IntKind.u8.wrap ((k+i:Nat):Int))) (by simpa using hl) (by simp only[Z49];omega) (fun j hj2=>by
    rw[Int.toNat_natCast,V8,Z49]
    by_cases e:i=j
    ·subst e;rw[if_pos rfl,if_pos h];simp[Avv,h]
    ·rw[if_neg e];exact hj j (by omega)) (by simp only[Z49];omega)
   rw[this];simp
  ·rw[Ag0 h]
   have hia:i=v.length:=by omega
   subst hia
   have e:v=Avv v.length k:=by
    refine List.ext_getElem? fun j=> ?_;rcases F9 j v.length with hja|hja
    ·exact hj j hja
    ·rw[Z58 (by omega),Z58 (by rw[Auj];omega)]
   simp only[cond_false];rw[←e]
theorem Ba4{K:Nat}(m k:Nat)(hl:k+m≤140737488355327): ∀(n i:Nat),i≤m->m - i<n->Aqk K (Avv m k) n ((k+i:Nat):Int) (i:Int)=some ((k+m:Nat):Int):=by
 intro n
 induction n with
 |zero=>intro i _ h;omega
 |succ n ih=>
  intro i hi hn;rw[Aqk];rcases F9 i m with h|h
  ·have hlt:i<(Avv m k).length:=by rw[Auj];exact h
   have e:Aoa .i64 ((k+i:Nat):Int) 1=((k+(i+1):Nat):Int):=by unfold Aoa;rw[Afe (by omega) (by omega)];omega
   rw[Agf hlt,if_pos ⟨by omega,by omega⟩,Ael hlt,e,Ahl (i:=i) (by omega),ih (i+1) h (by omega)]
   simp[Avv]
  ·have:i=m:=by omega
   subst this;rw[Ag0 (by rw[Auj];exact h)]
   rfl
def Ba5 (w:Eb)(h:Ct):Int:=((Apc w.fL w.fL.length (Arq w.fL h)).length:Int)
theorem Bcl{l:List Ba}(hl:l.length≤140737488355327)(h:Ct):wfi (Arq l h):=by
 by_cases h0:Arq l h<0
 ·unfold Arq at *;split at h0
  ·rename_i h1;rw[if_pos h1]at *;obtain⟨⟨a,b⟩,_⟩:=h1;exact⟨by omega,by omega⟩
  ·rename_i h1;rw[if_neg h1];exact⟨by omega,by omega⟩
 ·have:=A2g h0;exact⟨by omega,by omega⟩
section
variable {K:Nat} (hK:281474976710656≤K)
include hK
theorem A67 (a:List Int)(k:Nat)(hk:k+a.length≤140737488355327):Arm K a (k:Int)=some (((k+a.length:Nat):Int),Avv a.length k):=by
 unfold Arm;exact Ba3 k K 0 a hk (Z21 _) (fun j hj=>by omega) (by omega)
theorem A68 (m k:Nat)(hl:k+m≤140737488355327):Aro K (Avv m k) (k:Int)=some ((k+m:Nat):Int):=by
 unfold Aro;exact Ba4 m k hl K 0 (Z21 _) (by omega)
theorem Bfb (w:Eb)(hw:Aix w.fL)(h:Ct):Av6 K w h=some (Ba5 w h):=by
 have hl:=Aen hw;unfold Av6 Ax5;rw[Ayt K hl,Z0,A0i hK hw _ (Bcl hl h)];rfl
theorem Bfc (w:Eb)(hw:Aix w.fL)(h:Ct):Awb K w h=some (Ba5 w h):=by
 have hl:=Aen hw;unfold Awb Ax6;rw[A1e K hl,Z0,A0j hK hw];rfl
def A6a (code Fe:Int)(b:List Int):Fh:=Fh.mk code (Ct.mk 0 0) (Fg.mk (Ct.mk 0 0) 0 0) b Fe 0 0
omit hK in
theorem Bcm{mem:List Int}{p n:Int}(h:(A2s mem p n).2=false):(A2s mem p n).1=[]:=by
 unfold A2s at *;split at h
 ·cases h
 ·rename_i h1;rw[if_neg h1]
omit hK in
theorem Ba6{mem:List Int}{t:A9}{p n:Int}(h:(A0a mem t p n).2=false):(A0a mem t p n).1=[]:=by
 unfold A0a at *;split at h
 ·rename_i h1;rw[if_pos h1];exact Bcm h
 ·rename_i h1;rw[if_neg h1]
theorem Bfd (w:Eb)(hw:Atj w)(r:Fg)(off n:Int): ∃code Fe b,Axx K w r off n=some (w,A6a code Fe b)∧Awn K w r off n=some (w,A6a code Fe b)∧b.length≤w.fP.Fy.length:=by
 obtain⟨t,t1,t2,t3⟩:=A57 hK hw.l r
 have hm:=hw.p.mem.2;unfold Axx Awn Axc Atq;rw[A9p hK hw,A9n hK w hw,A9m hK w hw,Azt hK hw,Bfb hK w hw.l,Bfc hK w hw.l,t1,t2]
 have e2:Eb.mk (Er.mk w.fC.Ae w.fC.Eg w.fC.C0 w.fC.E9 w.fC.C1 w.fC.Eh) (Dw.mk w.fP.Fy w.fP.Hh w.fP.Fz) w.fL w.fQ w.Pr=w:=rfl;simp only[Z0,e2,Azt hK hw,Ac2];cases A54 w with
 |false=>exact⟨1,0,[],rfl,rfl,Z21 _⟩
 |true=>
  simp only[cond_true];rw[A58 K hm t3,A59 K hm t3];simp only[Z0,bne,Ac2];cases hc:t.2.2==0 with
  |false=>exact⟨t.2.2,Ba5 w r.fH,[],rfl,rfl,Z21 _⟩
  |true=>
   simp only[cond_true];cases hq:(A0a w.fP.Fy t.2.1 off n).2 with
   |false=>
    rw[Ba6 hq];exact⟨7,Ba5 w r.fH,[],rfl,rfl,Z21 _⟩
   |true=>exact⟨t.2.2,Ba5 w r.fH,_,rfl,rfl,Bfa⟩
end
section
variable {β:Type} [Inhabited β]
def Ati (c:β->Nat)(m:β->Nat->β):List β->Nat->List β
 |[],_=>[]
 |x::l,k=>m x k::Ati c m l (k+c x)
theorem Av0 (c:β->Nat)(m:β->Nat->β): ∀(l:List β) (k:Nat),(Ati c m l k).length=l.length
 |[],_=>rfl
 |x::l,k=>by simp[Ati,Av0 c m l]
theorem A0p (c:β->Nat)(m:β->Nat->β)(L:Nat->Int->Int->List β->Option (Int×List β))
  (h0: ∀n k (v:List β),L (n+1) k (v.length:Int) v=some (k,v))
  (hL: ∀n (k i:Nat) (v:List β),i<v.length->v.length≤140737488355327->k+c (gt v (i:Int))≤140737488355327->L (n+1) (k:Int) (i:Int) v=L n ((k+c (gt v (i:Int)):Nat):Int) ((i+1:Nat):Int) (v.set (i:Int).toNat (m (gt v (i:Int)) k))):
  ∀(l pre:List β) (n k:Nat),(pre++l).length≤140737488355327->l.length<n->k+(l.map c).sum≤140737488355327→
   L n (k:Int) (pre.length:Int) (pre++l)=some (((k+(l.map c).sum:Nat):Int),pre++Ati c m l k):=by
 intro l
 induction l with
 |nil=>
  intro pre n k _ hn _;obtain⟨n,rfl⟩: ∃n',n=n'+1:=⟨n - 1,by simp at hn;omega⟩
  simp only[List.append_nil,Gz,List.sum_nil,Nat.add_zero,Ati];exact h0 _ _ _
 |cons x l ih=>
  intro pre n k hl hn hk;obtain⟨n,rfl⟩: ∃n',n=n'+1:=⟨n - 1,by omega⟩
  have hlt:pre.length<(pre++x::l).length:=by simp
  have hg:gt (pre++x::l) (pre.length:Int)=x:=by rw[Ael hlt];simp
  simp only[Z8,List.sum_cons]at hk ⊢;rw[hL n k pre.length _ hlt hl (by rw[hg];omega),hg]
  have e:(pre++x::l).set (pre.length:Int).toNat (m x k)=(pre++[m x k])++l:=by
   rw[Int.toNat_natCast,List.set_append_right _ _ (Z9 _)];simp
  rw[e]
  have:=ih (pre++[m x k]) n (k+c x) (by simp at hl ⊢;omega) (by simp at hn;omega) (by omega)
  rw[show(pre++[m x k]).length=pre.length+1 by simp]at this
  rw[this,Zb];simp[Ati]
theorem A0q (c:β->Nat)(m:β->Nat->β)(l0:List β)(a:List β)(H:Nat->Int->Int->Option Int)
  (h0: ∀n k,H (n+1) k (a.length:Int)=some k)
  (hH: ∀n (k i:Nat) x,x∈l0->i<a.length->a.length≤140737488355327->k+c x≤140737488355327->gt a (i:Int)=m x k->H (n+1) (k:Int) (i:Int)=H n ((k+c x:Nat):Int) ((i+1:Nat):Int)):
  ∀(l pre:List β) (n k:Nat),(∀x∈l,x∈l0)->a=pre++Ati c m l k->a.length≤140737488355327->l.length<n->k+(l.map c).sum≤140737488355327→
   H n (k:Int) (pre.length:Int)=some ((k+(l.map c).sum:Nat):Int):=by
 intro l
 induction l with
 |nil=>
  intro pre n k _ ha _ hn _;obtain⟨n,rfl⟩: ∃n',n=n'+1:=⟨n - 1,by simp at hn;omega⟩
  simp only[Ati,List.append_nil]at ha;simp only[Gz,List.sum_nil,Nat.add_zero];rw[←ha];exact h0 _ _
 |cons x l ih=>
  intro pre n k hm ha hl hn hk;obtain⟨n,rfl⟩: ∃n',n=n'+1:=⟨n - 1,by omega⟩
  simp only[Ati]at ha
  have hlt:pre.length<a.length:=by rw[ha];simp
  have hg:gt a (pre.length:Int)=m x k:=by rw[Ael hlt];simp[ha]
  simp only[Z8,List.sum_cons]at hk ⊢;rw[hH n k pre.length x (hm x (by simp)) hlt hl (by omega) hg]
  have:=ih (pre++[m x k]) n (k+c x) (fun y hy=>hm y (by simp[hy])) (by rw[ha];simp) hl (by simp at hn;omega) (by omega)
  rw[show(pre++[m x k]).length=pre.length+1 by simp]at this
  rw[this,Zb]
end
def A9s (_:A9)(k:Nat):A9:=A9.mk (k:Nat) ((k+1:Nat):Int) ((k+2:Nat):Int)
def A0r (l:List A9)(k:Nat):List A9:=Ati Ba0 A9s l k
def Ayw (x:Ba)(k:Nat):Ba:=Ba.mk (k:Nat) ((k+1:Nat):Int) ((k+2:Nat):Int) ((k+3:Nat):Int) ((k+4:Nat):Int) ((k+5:Nat):Int) ((k+6:Nat):Int) ((k+7:Nat):Int)
 (Avw x.Ae.length (k+8)) ((k+8+x.Ae.length:Nat):Int) ((k+8+x.Ae.length+1:Nat):Int) (A0r x.Ea (k+8+x.Ae.length+1+1)) (Avw x.Dg.length (k+8+x.Ae.length+1+1+3*x.Ea.length))
def Ayx (x:Ax)(k:Nat):Ax:=Ax.mk (k:Nat) ((k+1:Nat):Int) (Avw x.Dg.length (k+2)) (Avw x.Ae.length (k+2+x.Dg.length)) ((k+2+x.Dg.length+x.Ae.length:Nat):Int)
section
variable {K:Nat} (hK:281474976710656≤K)
include hK
theorem Bfe (a:List A9)(k:Nat)(hk:k+3*a.length≤140737488355327):Ase K a (k:Int)=some (((k+3*a.length:Nat):Int),A0r a k):=by
 unfold Ase
 have:=A0p Ba0 A9s (fun n k i v=>Alo K n v k i) (fun n k v=>by show Alo K (n+1) v k _=_;rw[Alo,Ag0 (Z9 _)];rfl)
  (fun n k i v h hv hk=>by
   have hk2:k+3≤140737488355327:=hk;simp only[Alo];rw[Agf h,cond_true,if_pos (Ajz h)];simp only[Aql,Z49,Bce h,Bvx,if_pos (Ajz h)];simp (disch:=omega) only[Ayi];rfl) a [] K k (by simp;omega) (by omega) (by rw[Azz];exact hk)
 rw[Azz]at this;exact this
theorem Bff (a:List Ba)(k:Nat)(ha:a.length≤140737488355327)(hk:k+(a.map Ap7).sum≤140737488355327):Ate K a (k:Int)=some (((k+(a.map Ap7).sum:Nat):Int),Ati Ap7 Ayw a k):=by
 unfold Ate;exact A0p Ap7 Ayw (fun n k i v=>Anl K n v k i) (fun n k v=>by show Anl K (n+1) v k _=_;rw[Anl,Ag0 (Z9 _)];rfl)
  (fun n k i v h hv hk=>by
   have hk2:k+(10+(gt v (i:Int)).Ae.length+3*(gt v (i:Int)).Ea.length+(gt v (i:Int)).Dg.length)≤140737488355327:=hk
   have e8:(Aoa .i64 (Aoa .i64 (Aoa .i64 (Aoa .i64 (Aoa .i64 (Aoa .i64 (Aoa .i64 (Aoa .i64 (k:Int) 1) 1) 1) 1) 1) 1) 1) 1)=((k+8:Nat):Int):=by
    simp (disch:=omega) only[Ayi]
   simp only[Anl];rw[Agf h,cond_true,if_pos (Ajz h)];simp only[Aql,Z49,Bce h,Bvx,if_pos (Ajz h)];rw[e8,Axn hK _ _ (by omega)]
   simp only[Z0,Aqc,if_true];rw[Ayi (k:=k+8+(gt v (i:Int)).Ae.length) (by omega),Ayi (k:=k+8+(gt v (i:Int)).Ae.length+1) (by omega),Bfe hK _ _ (by omega)]
   simp only[Z0,A0r,Av0,if_true];rw[Axn hK _ _ (by omega)]
   simp only[Z0,Aqc,if_true];simp (disch:=omega) only[Ayi]
   have e:k+8+(gt v (i:Int)).Ae.length+1+1+3*(gt v (i:Int)).Ea.length+(gt v (i:Int)).Dg.length=k+Ap7 (gt v (i:Int)):=by unfold Ap7;omega
   rw[e];rfl) a [] K k (by simpa using ha) (by omega) hk
theorem Bfg (a:List Ax)(k:Nat)(ha:a.length≤140737488355327)(hk:k+(a.map Aqn).sum≤140737488355327):Asf K a (k:Int)=some (((k+(a.map Aqn).sum:Nat):Int),Ati Aqn Ayx a k):=by
 unfold Asf;exact A0p Aqn Ayx (fun n k i v=>Al3 K n v k i) (fun n k v=>by show Al3 K (n+1) v k _=_;rw[Al3,Ag0 (Z9 _)];rfl)
  (fun n k i v h hv hk=>by
   have hk2:k+(3+(gt v (i:Int)).Dg.length+(gt v (i:Int)).Ae.length)≤140737488355327:=hk
   have e8:Aoa .i64 (Aoa .i64 (k:Int) 1) 1=((k+2:Nat):Int):=by simp (disch:=omega) only[Ayi]
   simp only[Al3];rw[Agf h,cond_true,if_pos (Ajz h)];simp only[Aql,Z49,Bce h,Bvx,if_pos (Ajz h)];rw[e8,Axn hK _ _ (by omega)]
   simp only[Z0,Aqc,if_true];rw[Axn hK _ _ (by omega)]
   simp only[Z0,Aqc,if_true];simp (disch:=omega) only[Ayi]
   have e:k+2+(gt v (i:Int)).Dg.length+(gt v (i:Int)).Ae.length+1=k+Aqn (gt v (i:Int)):=by unfold Aqn;omega
   rw[e];rfl) a [] K k (by simpa using ha) (by omega) hk
theorem Bcn (m k:Nat)(hl:k+m≤140737488355327): ∀(n i:Nat),i≤m->m - i<n->Aq2 K (Avw m k) n ((k+i:Nat):Int) (i:Int)=some ((k+m:Nat):Int):=by
 intro n
 induction n with
 |zero=>intro i _ h;omega
 |succ n ih=>
  intro i hi hn;rw[Aq2];rcases F9 i m with h|h
  ·have hlt:i<(Avw m k).length:=by rw[Aqc];exact h
   have e:Aoa .i64 ((k+i:Nat):Int) 1=((k+(i+1):Nat):Int):=by unfold Aoa;rw[Afe (by omega) (by omega)];omega
   rw[Agf hlt,if_pos ⟨by omega,by omega⟩,Ael hlt,e,Ahl (i:=i) (by omega),ih (i+1) h (by omega)]
   simp[Avw]
  ·have:i=m:=by omega
   subst this;rw[Ag0 (by rw[Aqc];exact h)]
   rfl
theorem Axo (m k:Nat)(hl:k+m≤140737488355327):Ale K (Avw m k) (k:Int)=some ((k+m:Nat):Int):=by
 unfold Ale;exact Bcn hK m k hl K 0 (Z21 _) (by omega)
omit hK in
theorem Anv (k:Nat):decide ((k:Int)<0)=false:=decide_eq_false (by omega)
theorem Blr (a:List A9)(k:Nat)(hk:k+3*a.length≤140737488355327):Asg K (A0r a k) (k:Int)=some ((k+3*a.length:Nat):Int):=by
 unfold Asg
 have:=A0q Ba0 A9s a (A0r a k) (fun n q i=>Al4 K (A0r a k) n q i) (fun n q=>by show Al4 K _ (n+1) q _=_;rw[Al4,Ag0 (Z9 _)];rfl)
  (fun n q i x _ h hv hq hg=>by
   have hk2:q+3≤140737488355327:=hq;simp only[Al4];rw[Agf h,cond_true];simp only[if_pos (Ajz h),hg,A9s];simp (disch:=omega) only[Ayi];simp only[bne_self_eq_false,cond_false];rfl) a [] K k (fun x hx=>hx) rfl (by unfold A0r;rw[Av0];omega) (by omega) (by rw[Azz];exact hk)
 rw[Azz]at this;exact this
theorem Bls (a:List Ba)(k:Nat)(ha:a.length≤140737488355327)(hk:k+(a.map Ap7).sum≤140737488355327):Atf K (Ati Ap7 Ayw a k) (k:Int)=some ((k+(a.map Ap7).sum:Nat):Int):=by
 unfold Atf;exact A0q Ap7 Ayw a (Ati Ap7 Ayw a k) (fun n q i=>Anm K (Ati Ap7 Ayw a k) n q i) (fun n q=>by show Anm K _ (n+1) q _=_;rw[Anm,Ag0 (Z9 _)];rfl)
  (fun n q i x _ h hv hq hg=>by
   have hk2:q+(10+x.Ae.length+3*x.Ea.length+x.Dg.length)≤140737488355327:=hq;simp only[Anm];rw[Agf h,cond_true];simp only[if_pos (Ajz h),hg,Ayw];simp (disch:=omega) only[Ayi];simp only[bne_self_eq_false,cond_false];rw[Axo hK _ _ (by omega)]
   simp only[Z0,Anv,cond_false,bne_self_eq_false];rw[Ayi (k:=q+8+x.Ae.length) (by omega),Ayi (k:=q+8+x.Ae.length+1) (by omega)]
   simp only[bne_self_eq_false,cond_false];rw[Blr hK _ _ (by omega)]
   simp only[Z0,Anv,cond_false];rw[Axo hK _ _ (by omega)]
   simp only[Z0,Anv,cond_false];rw[show q+8+x.Ae.length+1+1+3*x.Ea.length+x.Dg.length=q+Ap7 x by unfold Ap7;omega]) a [] K k (fun x hx=>hx) rfl (by rw[Av0];exact ha) (by omega) hk
theorem Blt (a:List Ax)(k:Nat)(ha:a.length≤140737488355327)(hk:k+(a.map Aqn).sum≤140737488355327):Ash K (Ati Aqn Ayx a k) (k:Int)=some ((k+(a.map Aqn).sum:Nat):Int):=by
 unfold Ash;exact A0q Aqn Ayx a (Ati Aqn Ayx a k) (fun n q i=>Al5 K (Ati Aqn Ayx a k) n q i) (fun n q=>by show Al5 K _ (n+1) q _=_;rw[Al5,Ag0 (Z9 _)];rfl)
  (fun n q i x _ h hv hq hg=>by
   have hk2:q+(3+x.Dg.length+x.Ae.length)≤140737488355327:=hq;simp only[Al5];rw[Agf h,cond_true];simp only[if_pos (Ajz h),hg,Ayx];simp (disch:=omega) only[Ayi];simp only[bne_self_eq_false,cond_false];rw[Axo hK _ _ (by omega)]
   simp only[Z0,Anv,cond_false,bne_self_eq_false];rw[Axo hK _ _ (by omega)]
   simp only[Z0,Anv,cond_false,bne_self_eq_false];rw[Ayi (k:=q+2+x.Dg.length+x.Ae.length) (by omega)]
   rw[show q+2+x.Dg.length+x.Ae.length+1=q+Aqn x by unfold Aqn;omega]) a [] K k (fun x hx=>hx) rfl (by rw[Av0];exact ha) (by omega) hk
end
def A69 (w:Eb)(k:Nat):List Int:=Avv w.fP.Fy.length k
def Bfh (w:Eb)(k:Nat):List Int:=Avw w.fP.Hh.length (k+w.fP.Fy.length)
def A7a (w:Eb)(k:Nat):List Int:=Avw w.fP.Fz.length (k+w.fP.Fy.length+w.fP.Hh.length)
def mkL (w:Eb)(k:Nat):List Ba:=Ati Ap7 Ayw w.fL (k+Awv w.fP)
def mkQ (w:Eb)(k:Nat):List Ax:=Ati Aqn Ayx w.fQ (k+Awv w.fP+(w.fL.map Ap7).sum)
def Ba7 (w:Eb)(k:Nat):List Int:=Avw w.Pr.length (k+Awv w.fP+(w.fL.map Ap7).sum+(w.fQ.map Aqn).sum)
theorem Bda (w:Eb)(k:Nat):(A69 w k).length=w.fP.Fy.length∧(Bfh w k).length=w.fP.Hh.length∧(A7a w k).length=w.fP.Fz.length∧(mkL w k).length=w.fL.length∧(mkQ w k).length=w.fQ.length∧(Ba7 w k).length=w.Pr.length:=
 ⟨Auj _ _,Aqc _ _,Aqc _ _,Av0 _ _ _ _,Av0 _ _ _ _,Aqc _ _⟩
section
variable {K:Nat} (hK:281474976710656≤K)
include hK
theorem Bfi (w:Eb)(k:Nat)(hk:k+Awv w.fP≤140737488355327):Auh K w.fP (k:Int)=some (((k+Awv w.fP:Nat):Int),A69 w k,Bfh w k,A7a w k):=by
 unfold Awv at hk ⊢;unfold Auh;rw[A67 hK _ _ (by omega)]
 simp only[Z0];rw[if_pos (Auj _ _),Axn hK _ _ (by omega)]
 simp only[Z0];rw[if_pos (Aqc _ _),Axn hK _ _ (by omega)]
 simp only[Z0];rw[if_pos (Aqc _ _)];simp only[Zb,A69,Bfh,A7a]
theorem Ba8 (w:Eb)(hL:w.fL.length≤140737488355327)(hQ:w.fQ.length≤140737488355327)(k:Nat)(hk:k+cells w≤140737488355327):Arn K w (k:Int)=some (((k+cells w:Nat):Int),A69 w k,Bfh w k,A7a w k,mkL w k,mkQ w k,Ba7 w k):=by
 obtain⟨l1,l2,l3,l4,l5,l6⟩:=Bda w k;unfold cells at hk ⊢;unfold Arn;rw[Bfi hK w k (by omega)]
 simp only[Z0];rw[if_pos ⟨l1,l2,l3⟩,Bff hK _ _ hL (by omega)]
 simp only[Z0];rw[if_pos (show(Ati Ap7 Ayw w.fL (k+Awv w.fP)).length=w.fL.length from l4),Bfg hK _ _ hQ (by omega)]
 simp only[Z0];rw[if_pos (show(Ati Aqn Ayx w.fQ (k+Awv w.fP+(w.fL.map Ap7).sum)).length=w.fQ.length from l5),Axn hK _ _ (by omega)]
 simp only[Z0];rw[if_pos (Aqc _ _)];simp only[Zb,mkL,mkQ,Ba7]
theorem Ba9 (w:Eb)(hL:w.fL.length≤140737488355327)(hQ:w.fQ.length≤140737488355327)(k:Nat)(hk:k+cells w≤140737488355327)(c:Er):Arp K (Eb.mk c (Dw.mk (A69 w k) (Bfh w k) (A7a w k)) (mkL w k) (mkQ w k) (Ba7 w k)) (k:Int)=some ((k+cells w:Nat):Int):=by
 unfold cells at hk ⊢;unfold Arp Awu;simp only[A69,Bfh,A7a,mkL,mkQ,Ba7]
 have hP:Awv w.fP=w.fP.Fy.length+w.fP.Hh.length+w.fP.Fz.length:=rfl;rw[A68 hK _ _ (by omega)]
 simp only[Z0,Anv,cond_false];rw[Axo hK _ _ (by omega)]
 simp only[Z0,Anv,cond_false];rw[Axo hK _ _ (by omega)]
 simp only[Z0,Anv,cond_false];rw[show k+w.fP.Fy.length+w.fP.Hh.length+w.fP.Fz.length=k+Awv w.fP by omega,Bls hK _ _ hL (by omega)]
 simp only[Z0,Anv,cond_false];rw[Blt hK _ _ hQ (by omega)]
 simp only[Z0,Anv,cond_false];rw[Axo hK _ _ (by omega)]
 simp only[Z0,Anv,cond_false,Zb]
theorem Bor{a:Fh}(h:a.fB.length≤140737488355327):Atd K a a=some true:=by
 simp[Atd,Ayp,Aug,A66 hK h]
theorem Bfj (a:Fh)(k:Nat)(h:k+a.fB.length≤140737488355327):Avj K a (k:Int)=some (((k+a.fB.length:Nat):Int),Avv a.fB.length k):=by
 unfold Avj;rw[A67 hK _ _ h];simp only[Z0];rw[if_pos (Auj _ _)]
theorem Bfk (a:Fh)(m k:Nat)(h:k+m≤140737488355327):Asv K (Fh.mk a.W9 a.fH a.fR (Avv m k) a.Xa a.E9 a.Ps) (k:Int)=some ((k+m:Nat):Int):=by
 unfold Asv;rw[A68 hK _ _ h];simp only[Z0,Anv,cond_false]
end
theorem A2l (a:Ec)(r:Ge)(off n:Int)(u:Ap9 a)(_:Azi r)(_:Alb off)(_:Alb n): ∃K,Aru K a r off n=some true:=by
 refine⟨K0,?_⟩
 have hK:=Z9 K0
 have hw:=Be5 u;obtain⟨q,hq⟩:=Be2 hK u 1048576;obtain⟨code,Fe,b,h1,h2,h3⟩:=Bfd hK (Atg a) hw (Fg.mk (Ct.mk r.fH.A5 r.fH.C2) r.Ly r.fNo) off n
 have hm:=hw.p.mem.2
 have hQ:(Atg a).fQ.length≤140737488355327:=by have:=hw.q.2;omega
 unfold Aru Auw Awr;rw[hq];simp only[Z0];cases e:decide (q<0)with
 |true=>rfl
 |false=>
  have hc:=Boq u hq (by simpa using e)
  have hmc:(Atg a).fP.Fy.length≤cells (Atg a):=by unfold cells Awv;omega
  have hb:(A6a code Fe b).fB.length≤13631488:=by show b.length≤_;omega
  have hmk:=Ba8 hK (Atg a) (Aen hw.l) hQ 1 (by omega)
  have hhl:=Ba9 hK (Atg a) (Aen hw.l) hQ 1 (by omega) (Atg a).fC
  have hma:=Bfj hK (A6a code Fe b) (1+cells (Atg a)) (by omega)
  have hha:=Bfk hK (A6a code Fe b) (A6a code Fe b).fB.length (1+cells (Atg a)) (by omega)
  simp only[show((1:Nat):Int)=1 from rfl]at hmk hhl
  simp only[cond_false,cond_true,Z0,Beu hK u,h1,h2,Bor hK (show(A6a code Fe b).fB.length≤140737488355327 by omega),Bey hK hw,hmk,if_pos (Bda (Atg a) 1),Anv,hma,Auj,if_true,hhl,hha,bne_self_eq_false,Bool.not_true]
end Go.Proofs.YtjdblamhaljjbaaGreat
