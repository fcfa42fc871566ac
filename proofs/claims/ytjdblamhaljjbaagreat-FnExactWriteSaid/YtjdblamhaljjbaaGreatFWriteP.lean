/- The plain law for FnExactWrite; no condition. -/
import Derived.Test.YtjdblamhaljjbaaGreatFWriteTa
import Derived.Test.YtjdblamhaljjbaaGreatFWriteW
set_option linter.all false
namespace Go.Proofs.YtjdblamhaljjbaaGreat
open Go.Eng Go.ChangeShapes Go.WideShapes Go.ChangeAt Go.RowKit
theorem Ahd{i:Nat}(h:i≤140737488355328):Aoa .i64 (i:Int) 1=((i+1:Nat):Int):=by
 unfold Aoa;rw[IntKind.wrap_i64];omega
theorem Aej{α:Type}[Inhabited α]{l:List α}{i:Nat}(h:i<l.length):gt l (i:Int)=l[i]:=by
 unfold gt;simp[h]
theorem Apk{α:Type}[Inhabited α]{l:List α}{i:Nat}(h:i<l.length):gt l (i:Int)∈l:=by
 rw[Aej h];exact List.getElem_mem h
theorem Ax0{α:Type}[Inhabited α]{l:List α}{i:Int}(h0:0≤i)(h:i<l.length):gt l i∈l:=by
 obtain⟨k,rfl⟩: ∃k:Nat,i=k:=⟨i.toNat,by omega⟩
 exact Apk (by omega)
theorem Ae9{i k:Nat}(h:i<k):decide ((i:Int)<(k:Int))=true:=by simp;omega
theorem Afe{i k:Nat}(h:k≤i):decide ((i:Int)<(k:Int))=false:=by simp;omega
theorem A08{α β:Type}[Inhabited α](a:List α)(f:α->Option β)(g:α->β)(hf: ∀x∈a,f x=some (g x))(ha:a.length≤140737488355328)
  (L:Nat->Int->List β->Option (List β)) (hL: ∀n i v,L (n+1) i v=bif decide (i<(a.length:Int))then(if(0:Int)≤i∧i<(a.length:Int)then(f (gt a i)).bind (fun r=>(if(0:Int)≤i∧i<(v.length:Int)then L n (Aoa .i64 i 1) (v.set i.toNat r)else none))else none)else some v):
  ∀(n i:Nat) (v:List β),i≤a.length->v.length=a.length->(∀j,j<i->v[j]? =(a.map g)[j]?)->a.length - i<n->L n (i:Int) v=some (a.map g):=by
 intro n
 induction n with
 |zero=>intro i v _ _ _ h;omega
 |succ n ih=>
  intro i v hi hv hj hn;rw[hL];rcases F9 i a.length with h|h
  ·rw[Ae9 h];simp only[cond_true];rw[if_pos ⟨by omega,by omega⟩,hf _ (Apk h)]
   simp only[Z0];rw[if_pos ⟨by omega,by omega⟩,Ahd (by omega)]
   refine ih (i+1) _ h (by simpa using hv) (fun j hj2=> ?_) (by omega)
   rw[Int.toNat_natCast,V8]
   by_cases e:i=j
   ·subst e;rw[if_pos rfl,if_pos (by omega),Aej h,Ca,Fa h];rfl
   ·rw[if_neg e];exact hj j (by omega)
  ·rw[Afe h];simp only[cond_false,Z7]
   have hia:i=a.length:=by omega
   refine List.ext_getElem? fun j=> ?_;rcases F9 j a.length with hja|hja
   ·exact hj j (by omega)
   ·rw[Z58 (by omega),Z58 (by simpa using hja)]
theorem Bla{β:Type}[Inhabited β](a:List β)(e:β->β->Option Bool)(he: ∀x∈a,e x x=some true)(ha:a.length≤140737488355328)
  (L:Nat->Int->Option Bool) (hL: ∀n i,L (n+1) i=bif decide (i<(a.length:Int))then(if(0:Int)≤i∧i<(a.length:Int)then(if(0:Int)≤i∧i<(a.length:Int)then(e (gt a i) (gt a i)).bind (fun r=>bif r then L n (Aoa .i64 i 1)else some false)else none)else none)else some true):
  ∀(n i:Nat),i≤a.length->a.length - i<n->L n (i:Int)=some true:=by
 intro n
 induction n with
 |zero=>intro i _ h;omega
 |succ n ih=>
  intro i hi hn;rw[hL];rcases F9 i a.length with h|h
  ·rw[Ae9 h];simp only[cond_true];rw[if_pos ⟨by omega,by omega⟩,if_pos ⟨by omega,by omega⟩,he _ (Apk h),Ahd (by omega)]
   simp only[Z0,cond_true];exact ih (i+1) h (by omega)
  ·rw[Afe h];rfl
theorem Blb (a:List Int)(ha:a.length≤140737488355328)
  (L:Nat->Int->Option Bool) (hL: ∀n i,L (n+1) i=bif decide (i<(a.length:Int))then(if(0:Int)≤i∧i<(a.length:Int)then(if(0:Int)≤i∧i<(a.length:Int)then(bif (gt a i != gt a i)then some false else L n (Aoa .i64 i 1))else none)else none)else some true):
  ∀(n i:Nat),i≤a.length->a.length - i<n->L n (i:Int)=some true:=by
 intro n
 induction n with
 |zero=>intro i _ h;omega
 |succ n ih=>
  intro i hi hn;rw[hL];rcases F9 i a.length with h|h
  ·rw[Ae9 h];simp only[cond_true];rw[if_pos ⟨by omega,by omega⟩,if_pos ⟨by omega,by omega⟩,Ahd (by omega)]
   simp only[bne_self_eq_false,cond_false];exact ih (i+1) h (by omega)
  ·rw[Afe h];rfl
theorem Bsx{α:Type}[Inhabited α](a:List α)(f:α->Int->Option Int)(hf: ∀x∈a,∀y,∃r,f x y=some r)(ha:a.length≤140737488355328)
  (L:Nat->Int->Int->Option Int) (hL: ∀n y i,L (n+1) y i=bif decide (i<(a.length:Int))then(if(0:Int)≤i∧i<(a.length:Int)then(f (gt a i) y).bind (fun r=>bif decide (r<0)then some (-1)else L n r (Aoa .i64 i 1))else none)else some y):
  ∀(n i:Nat) (y:Int),i≤a.length->a.length - i<n-> ∃r,L n y (i:Int)=some r:=by
 intro n
 induction n with
 |zero=>intro i _ _ h;omega
 |succ n ih=>
  intro i y hi hn;rw[hL];rcases F9 i a.length with h|h
  ·rw[Ae9 h];simp only[cond_true];obtain⟨r,hr⟩:=hf _ (Apk h) y;rw[if_pos ⟨by omega,by omega⟩,hr,Ahd (by omega)]
   simp only[Z0];cases decide (r<0)with
   |true=>exact⟨_,rfl⟩
   |false=>exact ih (i+1) r h (by omega)
  ·rw[Afe h];exact⟨_,rfl⟩
theorem Ag1{n:Int}(h0: -9223372036854775808≤n)(h1:n≤9223372036854775807):IntKind.i64.wrap n=n:=by rw[IntKind.wrap_i64];omega
theorem Bvy (n:Int): -9223372036854775808≤IntKind.i64.wrap n∧IntKind.i64.wrap n≤9223372036854775807:=by rw[IntKind.wrap_i64];omega
theorem cc{α:Type}(b:Bool)(x:α):(bif b then x else x)=x:=by cases b<;>rfl
theorem Atk{a b:Int}(h: ¬a=b):(a != b)=true:=by simpa using h
theorem Aq7{a b:Int}(h: ¬a=b):(a==b)=false:=by simpa using h
def inB (x a b:Int):Bool:=decide (a≤x∧x≤b)
theorem Ayt{x a b:Int}:inB x a b=true ↔ a≤x∧x≤b:=by unfold inB;exact decide_eq_true_iff
theorem Ai5 (b:Bool)(x:Bool):(bif b then some x else some false)=some (b&&x):=by cases b<;>rfl
theorem A9g (b:Bool)(x:Bool):(bif b then some false else some x)=some (!b&&x):=by cases b<;>rfl
theorem Axg (b:Bool)(x:Bool):(bif b then some true else some x)=some (b||x):=by cases b<;>rfl
theorem Ac2{α:Type}(b:Bool)(x y:α):(bif !b then x else y)=(bif b then y else x):=by cases b<;>rfl
theorem Ajc{i n:Nat}(h:i<n):((0:Int)≤(i:Int)∧(i:Int)<(n:Int)):=⟨by omega,by omega⟩
theorem Bvz{α:Type}(l:List α)(q:α->Bool)(fin:Option Bool)(L:Nat->Int->Option Bool)
  (hs: ∀n (i:Nat) (h:i<l.length),L (n+1) (i:Int)=bif q l[i]then L n ((i+1:Nat):Int)else some false)
  (he: ∀n,L (n+1) (l.length:Int)=fin):
  ∀(n i:Nat),i≤l.length->l.length - i<n->L n (i:Int)=bif (l.drop i).all q then fin else some false:=by
 intro n
 induction n with
 |zero=>intro i _ h;omega
 |succ n ih=>
  intro i hi hn;rcases F9 i l.length with h|h
  ·rw[hs n i h,Z47 h,F3];cases q l[i]with
   |false=>rfl
   |true=>rw[cond_true,ih (i+1) h (by omega)];rfl
  ·obtain rfl:i=l.length:=by omega
   rw[he,List.drop_length];rfl
theorem Arz{α:Type}{K:Nat}(hK:281474976710656≤K)(l:List α)(hl:l.length≤140737488355328)(q:α->Bool)(fin:Option Bool)(L:Nat->Int->Option Bool)
  (hs: ∀n (i:Nat) (h:i<l.length),L (n+1) (i:Int)=bif q l[i]then L n ((i+1:Nat):Int)else some false)
  (he: ∀n,L (n+1) (l.length:Int)=fin):L K 0=bif l.all q then fin else some false:=by
 have:=Bvz l q fin L hs he K 0 (Z21 _) (by omega)
 simpa using this
theorem Apx{K:Nat}(hK:281474976710656≤K)(N:Nat)(hl:N≤140737488355328)(q:Nat->Bool)(fin:Option Bool)(L:Nat->Int->Option Bool)
  (hs: ∀n (i:Nat) (h:i<N),L (n+1) (i:Int)=bif q i then L n ((i+1:Nat):Int)else some false)
  (he: ∀n,L (n+1) (N:Int)=fin):L K 0=bif (List.range N).all q then fin else some false:=by
 refine Arz hK (List.range N) (by simpa using hl) q fin L (fun n i h=> ?_) (fun n=> ?_)
 ·rw[List.getElem_range];exact hs n i (by simpa using h)
 ·rw[List.length_range];exact he n
theorem Blc{α:Type}(l:List α)(q:α->Bool)(L:Nat->Int->Int->Option Int)
  (hs: ∀n (i:Nat) (h:i<l.length),L (n+1) (l.length:Int) (i:Int)=bif q l[i]then some (i:Int)else L n (l.length:Int) ((i+1:Nat):Int))
  (he: ∀n,L (n+1) (l.length:Int) (l.length:Int)=some (-1)):
  ∀(n i:Nat),i≤l.length->l.length - i<n-> ∃r,L n (l.length:Int) (i:Int)=some r∧decide (r≥0)=(l.drop i).any q:=by
 intro n
 induction n with
 |zero=>intro i _ h;omega
 |succ n ih=>
  intro i hi hn;rcases F9 i l.length with h|h
  ·rw[hs n i h,Z47 h,List.any_cons];cases q l[i]with
   |true=>exact⟨_,rfl,by simp⟩
   |false=>rw[cond_false,Z52];exact ih (i+1) h (by omega)
  ·obtain rfl:i=l.length:=by omega
   exact⟨_,he n,by simp⟩
theorem Azw{α:Type}[Inhabited α]{K:Nat}(hK:281474976710656≤K)(l:List α)(hl:l.length≤140737488355328)(f:α->Option Bool)(q:α->Bool)(hf: ∀x∈l,f x=some (q x))(L:Nat->Int->Int->Option Int)
  (hL: ∀n N i,L (n+1) N i=bif decide (i<N)then(if(0:Int)≤i∧i<(l.length:Int)then(f (gt l i)).bind (fun r=>bif r then some i else L n N (Aoa .i64 i 1))else none)else some (-1)):
  ((L K (l.length:Int) 0).bind fun r=>some (decide (r≥0)))=some (l.any q):=by
 obtain⟨r,h1,h2⟩:=Blc l q L (fun n i h=>by
  rw[hL,Ae9 h,cond_true,if_pos (Ajc h),hf _ (Apk h),Aej h,Z0,Ahd (by omega)]) (fun n=>by rw[hL,Afe (Z9 _),cond_false]) K 0 (Z21 _) (by omega)
 rw[show((0:Nat):Int)=0 from rfl]at h1
 rw[h1,Z0,h2,Z55]
theorem Azm{K:Nat}(hK:281474976710656≤K)(l:List Int)(x:Int)(hl:l.length≤140737488355328):Amb K l x=some (l.contains x):=by
 unfold Amb Auj;obtain⟨r,h1,h2⟩:=Blc l (fun y=>x==y) (Ans K l x) (fun n i h=>by
  rw[Ans,Ae9 h,cond_true,if_pos (Ajc h),Aej h,Ahd (by omega)]) (fun n=>by rw[Ans,Afe (Z9 _),cond_false]) K 0 (Z21 _) (by omega)
 rw[show((0:Nat):Int)=0 from rfl]at h1
 rw[h1,Z0,h2,Z55,List.contains_eq_any_beq]
theorem Axh{K:Nat}(hK:281474976710656≤K)(l:List Int)(x:Int)(hl:l.length≤140737488355328):Apt K l x=some (l.contains x):=by
 unfold Apt
 have h: ∀(n i:Nat),i≤l.length->l.length - i<n->Asw K l x n (i:Int)=some ((l.drop i).contains x):=by
  intro n
  induction n with
  |zero=>intro i _ h;omega
  |succ n ih=>
   intro i hi hn;rw[Asw];rcases F9 i l.length with h|h
   ·rw[Ae9 h,cond_true,if_pos (Ajc h),Aej h,Ahd (by omega),ih (i+1) h (by omega),Z47 h,List.contains_cons,Axg,Bool.beq_comm]
   ·rw[Afe h,cond_false,Z48 h];rfl
 have:=h K 0 (Z21 _) (by omega)
 simpa using this
theorem Aso (K:Nat)(x a b:Int):Ac1 K x a b=some (inB x a b):=by
 unfold Ac1 inB
 by_cases h:a≤x
 ·rw[decide_eq_true (show x≥a from h)];simp[h]
 ·rw[decide_eq_false (show ¬x≥a from h)];simp[h]
theorem Aus (K:Nat)(x a b:Int):Abk K x a b=some (inB x a b):=Aso K x a b
def Ap4 (c:Er):Bool:=inB c.Ae 2 12&&(inB c.Eg 8 16&&(inB c.C0 2 8&&(inB c.E9 1 8&&(inB c.C1 1 16&&inB c.Eh 1 4))))
theorem Awp (K:Nat)(c):Aq6 K c=some (Ap4 c):=by
 simp only[Aq6,Aso,Z0,Ai5,Ap4]
theorem Azn (K:Nat)(c):Ar9 K c=some (Ap4 c):=Awp K c
theorem Aen{c:Er}(h:Ap4 c=true):(2≤c.Ae∧c.Ae≤12)∧(8≤c.Eg∧c.Eg≤16)∧(2≤c.C0∧c.C0≤8)∧(1≤c.E9∧c.E9≤8)∧(1≤c.C1∧c.C1≤16)∧(1≤c.Eh∧c.Eh≤4):=by
 simpa only[Ap4,Z4,Ayt]using h
def Ap8 (c:Er):Int:=bif Ap4 c then c.Ae*c.Eg else 0
theorem A09{a b m n:Int}(h1:0≤a)(h2:a≤m)(h3:0≤b)(h4:b≤n):0≤a*b∧a*b≤m*n:=
 ⟨Int.mul_nonneg h1 h3,Int.mul_le_mul h2 h4 h3 (by omega)⟩
theorem Axa (K:Nat)(c):Asr K c=some (Ap8 c):=by
 unfold Asr Ap8;rw[Awp,Z0,Ac2];cases h:Ap4 c with
 |false=>rfl
 |true=>
  obtain⟨h1,h2,_⟩:=Aen h
  have:=A09 (a:=c.Ae) (b:=c.Eg) (m:=12) (n:=16) (by omega) h1.2 (by omega) h2.2
  simp only[cond_true,Aoc];rw[Ag1 (by omega) (by omega)]
theorem Ayu (K:Nat)(c):Au9 K c=some (Ap8 c):=Axa K c
theorem Axi (c:Er):0≤Ap8 c∧Ap8 c≤192:=by
 unfold Ap8;cases h:Ap4 c with
 |false=>simp
 |true=>
  obtain⟨h1,h2,_⟩:=Aen h
  have:=A09 (a:=c.Ae) (b:=c.Eg) (m:=12) (n:=16) (by omega) h1.2 (by omega) h2.2
  simp only[cond_true];omega
section
variable {K:Nat} (hK:281474976710656≤K)
include hK
def Ayh (l:List Int):Bool:=l.all (fun x=>x==0)
theorem Azo (l:List Int)(hl:l.length≤140737488355328):Ar8 K l=some (Ayh l):=by
 unfold Ar8;rw[Arz hK l hl (fun x=>x==0) (some true) (Aqs K l) (fun n i h=>by
  rw[Aqs,Ae9 h,cond_true,if_pos (Ajc h),Aej h,Ahd (by omega)]
  cases e:l[i]==0<;>simp[bne,e]) (fun n=>by rw[Aqs,Afe (Z9 _),cond_false])]
 unfold Ayh;cases l.all (fun x=>x==0)<;>rfl
theorem Azp (l:List Int)(hl:l.length≤140737488355328):Asa K l=some (Ayh l):=by
 unfold Asa Ajb Alf;rw[Azw hK l hl (Awt K) (fun x=>x != 0) (fun x _=>rfl) (Ag5 K l) (fun n N i=>rfl)];simp only[Z0,Ayh,List.not_any_eq_all_not,Z7]
 congr 1
 funext x
 simp[bne]
end
def Bde (a b:Int):Int:=bif inB a 0 1000000000&&inB b 1 1000000000 then(a+b - 1) / b else 0
theorem A9h (K:Nat)(a b:Int):Au3 K a b=some (Bde a b):=by
 unfold Au3 Bde;rw[Aso,Aso,Z0];cases h1:inB a 0 1000000000 with
 |false=>rfl
 |true=>
  cases h2:inB b 1 1000000000 with
  |false=>rfl
  |true=>
   rw[Ayt]at h1 h2;simp only[Z0,cond_true,Bool.not_true,cond_false,Bool.and_self];rw[if_pos (by omega)]
   unfold Alr Aob Aoa;rw[Ag1 (n:=a+b) (by omega) (by omega),Ag1 (n:=a+b - 1) (by omega) (by omega)]
   rw[Int.tdiv_eq_ediv_of_nonneg (by omega)]
   have h3:(a+b - 1) / b≤a+b - 1:=Int.ediv_le_self _ (by omega)
   have h4:0≤(a+b - 1) / b:=Int.ediv_nonneg (by omega) (by omega)
   rw[Ag1 (by omega) (by omega)]
def Avp (c:Er)(mem:List Int)(k:Int):List Int:=(mem.drop (k*c.Eg).toNat).take c.Eg.toNat
def Ax1 (c:Er)(p:Dw)(k:Nat):Bool:=
 inB (gt p.Hh k) 0 2&&((bif gt p.Hh k==1 then inB (gt p.Fz k) 0 (c.C0 - 1)else gt p.Fz k== -1)&&(bif gt p.Hh k==0 then Ayh (Avp c p.Fy k)else true))
def Aut (c:Er)(p:Dw):Bool:=
 Ap4 c&&((p.Fy.length:Int)==Ap8 c&&((p.Hh.length:Int)==c.Ae&&((p.Fz.length:Int)==c.Ae&&(List.range c.Ae.toNat).all (Ax1 c p))))
theorem Avz{c:Er}{p:Dw}(h:Aut c p=true):Ap4 c=true∧(p.Fy.length:Int)=c.Ae*c.Eg∧(p.Hh.length:Int)=c.Ae∧(p.Fz.length:Int)=c.Ae∧ ∀k,k<c.Ae.toNat->Ax1 c p k=true:=by
 simp only[Aut,Z4,beq_iff_eq,Z1,List.mem_range]at h;obtain⟨h1,h2,h3,h4,h5⟩:=h;refine⟨h1,?_,h3,h4,h5⟩;rw[h2,Ap8,h1];rfl
theorem A1a{c:Er}(hc:Ap4 c=true){mem:List Int}(hm:(mem.length:Int)=c.Ae*c.Eg){k:Int}(h0:0≤k)(h1:k<c.Ae):
  Aoc .i64 k c.Eg=k*c.Eg∧Aoc .i64 (Aoa .i64 k 1) c.Eg=k*c.Eg+c.Eg∧0≤k*c.Eg∧k*c.Eg+c.Eg≤(mem.length:Int):=by
 obtain⟨b1,b2,_⟩:=Aen hc
 have m1:=A09 (a:=k) (b:=c.Eg) (m:=12) (n:=16) h0 (by omega) (by omega) b2.2
 have e2:(k+1)*c.Eg=k*c.Eg+c.Eg:=by rw[Int.add_mul,Int.one_mul]
 have m2:(k+1)*c.Eg≤c.Ae*c.Eg:=Int.mul_le_mul_of_nonneg_right (by omega) (by omega)
 rw[e2]at m2;refine⟨?_,?_,m1.1,by omega⟩
 ·unfold Aoc;exact Ag1 (by omega) (by omega)
 ·unfold Aoc Aoa;rw[Ag1 (n:=k+1) (by omega) (by omega),e2,Ag1 (by omega) (by omega)]
section
variable {K:Nat} (hK:281474976710656≤K)
include hK
theorem A5w{c:Er}(hc:Ap4 c=true){p:Dw}(hm:(p.Fy.length:Int)=c.Ae*c.Eg){k:Int}(h0:0≤k)(h1:k<c.Ae):Aqy K p c k=some (Avp c p.Fy k):=by
 obtain⟨e1,e2,e3,e4⟩:=A1a hc hm h0 h1;obtain⟨b1,b2,_⟩:=Aen hc;unfold Aqy;rw[e1,e2,if_pos ⟨e3,by omega,e4⟩]
 unfold Avp;rw[show k*c.Eg+c.Eg - k*c.Eg=c.Eg by omega]
theorem Bal (c:Er)(p:Dw):Av5 K c p=some (Aut c p):=by
 unfold Av5;rw[Awp,Axa];simp only[Z0];cases hc:Ap4 c with
 |false=>simp[Aut,hc]
 |true=>
 obtain⟨b1,b2,b3,_⟩:=Aen hc
 have hby:Ap8 c=c.Ae*c.Eg:=by rw[Ap8,hc];rfl
 simp only[cond_true,Aut,hc,Z30,bne];cases h1:(p.Fy.length:Int)==Ap8 c with
 |false=>rfl
 |true=>
 cases h2:(p.Hh.length:Int)==c.Ae with
 |false=>rfl
 |true=>
 cases h3:(p.Fz.length:Int)==c.Ae with
 |false=>rfl
 |true=>
 rw[beq_iff_eq]at h1 h2 h3
 have hN:((c.Ae.toNat:Nat):Int)=c.Ae:=by omega
 simp only[Bool.not_true,cond_false,Z30];rw[Apx hK c.Ae.toNat (by omega) (Ax1 c p) (some true) (fun n i=>Alb K c n i p.Fy p.Hh p.Fz) (fun n i h=> ?_) (fun n=> ?_)]
 ·cases (List.range c.Ae.toNat).all (Ax1 c p)<;>rfl
 ·obtain⟨e1,e2,e3,e4⟩:=A1a hc (h1.trans hby) (k:=(i:Int)) (by omega) (by omega)
  have hl:(List.take (i*c.Eg+c.Eg - i*c.Eg).toNat (List.drop (i*c.Eg).toNat p.Fy)).length≤140737488355327:=by simp;omega
  have hs:Aob .i64 c.C0 1=c.C0 - 1:=by unfold Aob;rw[Ag1 (by omega) (by omega)]
  have hck:List.take (i*c.Eg+c.Eg - i*c.Eg).toNat (List.drop (i*c.Eg).toNat p.Fy)=Avp c p.Fy i:=by
   unfold Avp;rw[show(i:Int)*c.Eg+c.Eg - i*c.Eg=c.Eg by omega]
  simp only[Alb,Aqt,Aty];rw[e1,e2,Ahd (by omega),decide_eq_true (show(i:Int)<c.Ae by omega),cond_true,if_pos ⟨by omega,by omega⟩,Aso,Aso,hs,Azo hK _ (by omega),hck]
  simp only[Z0,bne,show((0:Int)≤(i:Int)∧(i:Int)<(p.Hh.length:Int))=True from eq_true ⟨by omega,by omega⟩,show((0:Int)≤(i:Int)∧(i:Int)<(p.Fz.length:Int))=True from eq_true ⟨by omega,by omega⟩,if_true,if_pos (show(0:Int)≤i*c.Eg∧(i:Int)*c.Eg≤i*c.Eg+c.Eg∧(i:Int)*c.Eg+c.Eg≤(p.Fy.length:Int) from⟨e3,by omega,e4⟩)]
  unfold Ax1;cases inB (gt p.Hh i) 0 2<;>cases (gt p.Hh (i:Int)==1)<;>cases inB (gt p.Fz i) 0 (c.C0 - 1)<;>cases (gt p.Fz (i:Int)== -1)<;>cases (gt p.Hh (i:Int)==0)<;>cases Ayh (Avp c p.Fy i)<;>rfl
 ·show Alb K c (n+1) _ _ _ _=_;rw[Alb,hN,decide_eq_false (by omega),cond_false]
theorem Bam (c:Er)(p:Dw):Av9 K c p=some (Aut c p):=by
 unfold Av9;rw[Azn,Ayu];simp only[Z0];cases hc:Ap4 c with
 |false=>simp[Aut,hc]
 |true=>
 obtain⟨b1,b2,b3,_⟩:=Aen hc
 have hby:Ap8 c=c.Ae*c.Eg:=by rw[Ap8,hc];rfl
 simp only[cond_true,Aut,hc,Z30,bne];cases h1:(p.Fy.length:Int)==Ap8 c with
 |false=>rfl
 |true=>
 cases h2:(p.Hh.length:Int)==c.Ae with
 |false=>rfl
 |true=>
 cases h3:(p.Fz.length:Int)==c.Ae with
 |false=>rfl
 |true=>
 rw[beq_iff_eq]at h1 h2 h3
 have hN:((c.Ae.toNat:Nat):Int)=c.Ae:=by omega
 simp only[Bool.not_true,cond_false,Z30];rw[Apx hK c.Ae.toNat (by omega) (Ax1 c p) (some true) (fun n i=>Ai3 K c n p.Hh (p.Hh.length:Int) i p.Fy p.Hh p.Fz) (fun n i h=> ?_) (fun n=> ?_)]
 ·cases (List.range c.Ae.toNat).all (Ax1 c p)<;>rfl
 ·have hs:Aob .i64 c.C0 1=c.C0 - 1:=by unfold Aob;rw[Ag1 (by omega) (by omega)]
  have hl:(Avp c p.Fy i).length≤140737488355327:=by unfold Avp;simp;omega
  simp only[Ai3,Ap2,At6];rw[A5w hK hc (h1.trans hby) (by omega) (by omega),Ahd (by omega),decide_eq_true (show(i:Int)<(p.Hh.length:Int)by omega),cond_true,if_pos ⟨by omega,by omega⟩,Aus,Aus,hs]
  simp only[Z0,Azp hK _ (show(Avp c p.Fy i).length≤140737488355328 by omega),bne,show((0:Int)≤(i:Int)∧(i:Int)<(p.Fz.length:Int))=True from eq_true ⟨by omega,by omega⟩,if_true]
  unfold Ax1;cases inB (gt p.Hh i) 0 2<;>cases (gt p.Hh (i:Int)==1)<;>cases inB (gt p.Fz i) 0 (c.C0 - 1)<;>cases (gt p.Fz (i:Int)== -1)<;>cases (gt p.Hh (i:Int)==0)<;>cases Ayh (Avp c p.Fy i)<;>rfl
 ·show Ai3 K c (n+1) _ _ _ _ _ _=_;rw[Ai3,hN,decide_eq_false (by omega),cond_false]
end
def Awg (c:Er)(t:A9):Prop:=Ap4 c=true∧1≤t.Vu∧0≤t.fAt∧t.fAt+t.Vu≤Ap8 c
instance (c t):Decidable (Awg c t):=by unfold Awg;infer_instance
def Ar0 (c:Er)(t:A9):Bool:=
 decide (Awg c t)&&(bif t.Vv==0 then decide (t.Vu≤c.Eg)&&(t.fAt / c.Eg==(t.fAt+t.Vu - 1) / c.Eg)else decide (t.Vu>c.Eg)&&(t.Vv==Bde t.Vu c.Eg&&t.fAt % c.Eg==0))
theorem A5x (K:Nat){c:Er}{t:A9}(h:Awg c t):
  (bif (t.Vv==0)then(bif (decide (t.Vu≤c.Eg))then(if c.Eg≠(0:Int)then(if c.Eg≠(0:Int)then some ((Alr .i64 t.fAt c.Eg)==(Alr .i64 (Aob .i64 (Aoa .i64 t.fAt t.Vu) 1) c.Eg))else none)else none)else some false)else((Au2 K c t.Vu).bind fun r2=>(bif r2 then((As9 K c t.Vu).bind fun r3=>(bif (t.Vv==r3)then(if c.Eg≠(0:Int)then some ((Int.tmod t.fAt c.Eg)==0)else none)else some false))else some false)))=some (Ar0 c t):=by
 have hd:decide (Awg c t)=true:=decide_eq_true h;obtain⟨hc,h1,h2,h3⟩:=h
 have hb:=Axi c;obtain⟨b1,b2,_⟩:=Aen hc;unfold Ar0 Au2 As9;rw[hd,if_pos (by omega),if_pos (by omega),A9h]
 have e1:Aob .i64 (Aoa .i64 t.fAt t.Vu) 1=t.fAt+t.Vu - 1:=by
  unfold Aob Aoa;rw[Ag1 (n:=t.fAt+t.Vu) (by omega) (by omega),Ag1 (by omega) (by omega)]
 have e2: ∀x:Int,0≤x->x≤192->Alr .i64 x c.Eg=x / c.Eg:=by
  intro x h0 hx;unfold Alr;rw[Int.tdiv_eq_ediv_of_nonneg h0]
  have h3:x / c.Eg≤x:=Int.ediv_le_self _ h0
  have h4:0≤x / c.Eg:=Int.ediv_nonneg h0 (by omega)
  rw[Ag1 (by omega) (by omega)]
 rw[e1,e2 _ h2 (by omega),e2 _ (by omega) (by omega),Int.tmod_eq_emod_of_nonneg h2]
 simp only[Z0,if_pos (show c.Eg≠0 by omega)]
 cases t.Vv==0<;>cases decide (t.Vu≤c.Eg)<;>cases decide (t.Vu>c.Eg)<;>cases t.Vv==Bde t.Vu c.Eg<;>rfl
theorem Ban{c:Er}{t:A9}(h: ¬Awg c t):Ar0 c t=false:=by
 unfold Ar0;rw[decide_eq_false h];rfl
theorem A1b (K:Nat)(c:Er)(t:A9):Ard K c t=some (Ar0 c t):=by
 have hb:=Axi c
 by_cases h:Awg c t
 ·rw[←A5x K h];obtain⟨hc,h1,h2,h3⟩:=h;unfold Ard;rw[Axa,Z0,Aq7 (by omega),decide_eq_false (by omega),decide_eq_false (by omega),decide_eq_false (by omega)]
  unfold Aob;rw[Ag1 (by omega) (by omega),decide_eq_false (show ¬t.Vu>Ap8 c - t.fAt by omega)]
  simp only[cond_false]
  try rfl
 ·rw[Ban h];unfold Ard;rw[Axa,Z0]
  by_cases g0:Ap8 c=0
  ·rw[g0];rfl
  ·have hc:Ap4 c=true:=by
    cases hc:Ap4 c with
    |true=>rfl
    |false=>exact absurd (by unfold Ap8;rw[hc];rfl) g0
   rw[Aq7 g0,cond_false]
   by_cases g1:t.Vu<1
   ·rw[decide_eq_true g1];rfl
   ·by_cases g2:t.fAt<0
    ·rw[decide_eq_false g1,decide_eq_true g2];rfl
    ·by_cases g3:t.fAt>Ap8 c
     ·rw[decide_eq_false g1,decide_eq_false g2,decide_eq_true g3];rfl
     ·rw[decide_eq_false g1,decide_eq_false g2,decide_eq_false g3];unfold Aob;rw[Ag1 (by omega) (by omega),decide_eq_true (show t.Vu>Ap8 c - t.fAt from ?_)]
      ·rfl
      ·refine Classical.byContradiction fun g4=>h ⟨hc,by omega,by omega,by omega⟩
theorem A1c (K:Nat)(c:Er)(t:A9):Arh K c t=some (Ar0 c t):=by
 have hb:=Axi c
 by_cases h:Awg c t
 ·rw[←A5x K h];obtain⟨hc,h1,h2,h3⟩:=h;unfold Arh;rw[Ayu,Z0,decide_eq_false (by omega),decide_eq_false (by omega),decide_eq_false (by omega)]
  unfold Aob;rw[Ag1 (by omega) (by omega),decide_eq_false (show ¬t.fAt>Ap8 c - t.Vu by omega)]
  simp only[cond_false]
  try rfl
 ·rw[Ban h];unfold Arh;rw[Ayu,Z0]
  by_cases g1:t.Vu≤0
  ·rw[decide_eq_true g1];rfl
  ·by_cases g2:t.fAt<0
   ·rw[decide_eq_false g1,decide_eq_true g2];rfl
   ·by_cases g3:t.Vu>Ap8 c
    ·rw[decide_eq_false g1,decide_eq_false g2,decide_eq_true g3];rfl
    ·rw[decide_eq_false g1,decide_eq_false g2,decide_eq_false g3]
     have hc:Ap4 c=true:=by
      cases hc:Ap4 c with
      |true=>rfl
      |false=>exfalso;unfold Ap8 at g3;rw[hc]at g3;simp only[cond_false]at g3;omega
     unfold Aob;rw[Ag1 (by omega) (by omega),decide_eq_true (show t.fAt>Ap8 c - t.Vu from ?_)]
     ·rfl
     ·refine Classical.byContradiction fun g4=>h ⟨hc,by omega,by omega,by omega⟩
theorem A5y{α:Type}(l:List α)(i:Nat):(l.drop (0:Int).toNat).take ((i:Int) - 0).toNat=l.take i:=by simp
theorem Bao{i n:Nat}(h:i≤n):((0:Int)≤0∧(0:Int)≤(i:Int)∧(i:Int)≤(n:Int)):=⟨by omega,by omega,by omega⟩
def Avq (c:Er)(l:List Int):Bool:=(List.range l.length).all (fun i=>inB (gt l i) 0 (c.Ae - 1)&& !(l.take i).contains (gt l i))
def A5z (n:Ba):Bool:=
 n.Ly==0&&(n.fUp==0&&(n.Gq==0&&(n.Bt==0&&(n.Gr==0&&(n.Gs==0&&((n.Ae.length:Int)==0&&(n.Pq==0&&(n.Gt==0&&((n.Ea.length:Int)==0&&(n.Dg.length:Int)==0)))))))))
theorem Beo (K:Nat)(n):Axu K n=some (A5z n):=by
 simp only[Axu,Ai5,A5z]
theorem Bep{K:Nat}(hK:1≤K)(l:List Int):Aiz K l []=some ((l.length:Int)==0):=by
 obtain⟨k,rfl⟩: ∃k,K=k+1:=⟨K - 1,by omega⟩
 cases l with
 |nil=>unfold Aiz;rw[Aiy];rfl
 |cons x l=>unfold Aiz;rw[Atk (by simp only[Y9,List.length_nil];omega),cond_true,Aq7 (by simp only[Y9];omega)]
theorem Bb1{K:Nat}(hK:1≤K)(l:List A9):Ali K l []=some ((l.length:Int)==0):=by
 obtain⟨k,rfl⟩: ∃k,K=k+1:=⟨K - 1,by omega⟩
 cases l with
 |nil=>unfold Ali;rw[An0];rfl
 |cons x l=>unfold Ali;rw[Atk (by simp only[Y9,List.length_nil];omega),cond_true,Aq7 (by simp only[Y9];omega)]
theorem Beq{K:Nat}(hK:1≤K)(n):Axz K n=some (A5z n):=by
 unfold Axz Awu;simp only[beq_self_eq_true,cond_true,Bep hK,Bb1 hK,Z0,Ai5,A5z]
def Bb2 (c:Er)(n:Ba):Bool:=bif n.Pq==0 then n.Gt==0 else n.Ae.contains (Aob .i64 n.Pq 1)&&inB n.Gt 0 c.Eg
def A68 (c:Er)(n:Ba):Bool:=
 (inB n.fUp 0 c.C0&&(inB n.Bt 0 c.C0&&(inB n.Gr 0 c.C0&&inB n.Gs 0 c.C0)))&&((!decide (n.Ly<0)&& !decide (n.Gq<0))&&((Avq c n.Ae&&Bb2 c n)&&((decide ((n.Ea.length:Int)≤12)&&decide ((n.Dg.length:Int)≤6))&&(n.Dg.all (fun x=>inB x 0 255)&&n.Ea.all (Ar0 c)))))
def Awx (c:Er)(n:Ba):Bool:=Ap4 c&&(inB n.Hh 0 3&&(inB n.C2 1 c.Eh&&(bif n.Hh != 1 then A5z n else A68 c n)))
section
variable {K:Nat} (hK:281474976710656≤K)
include hK
theorem A2h{c:Er}(hc:Ap4 c=true):Aob .i64 c.Ae 1=c.Ae - 1:=by
 obtain⟨b1,_⟩:=Aen hc;unfold Aob;rw[Ag1 (by omega) (by omega)]
theorem Az6{c:Er}(hc:Ap4 c=true)(l:List Int)(hl:l.length≤140737488355327):Ar5 K c l=some (Avq c l):=by
 unfold Ar5;rw[Apx hK l.length (by omega) (fun i=>inB (gt l i) 0 (c.Ae - 1)&& !(l.take i).contains (gt l i)) (some true) (fun n i=>Ao0 K c l n l (l.length:Int) i) (fun n i h=> ?_) (fun n=> ?_)]
 ·unfold Avq;cases (List.range l.length).all _<;>rfl
 ·have hp:(l.take i).length≤140737488355328:=by simp;omega
  simp only[Ao0];rw[Ae9 h,cond_true,if_pos (Ajc h),Aus,if_pos (Bao (by omega)),A5y,Azm hK _ _ hp,Ahd (by omega),A2h hK hc]
  simp only[Z0];cases inB (gt l i) 0 (c.Ae - 1)<;>cases (l.take i).contains (gt l i)<;>rfl
 ·show Ao0 K c l (n+1) _ _ _=_;rw[Ao0,Afe (Z9 _),cond_false]
theorem A6t{c:Er}(hc:Ap4 c=true)(n:Ba)(hl:n.Ae.length≤140737488355327):At1 K c n=some (Avq c n.Ae&&Bb2 c n):=by
 unfold At1;rw[Apx hK n.Ae.length (by omega) (fun i=>inB (gt n.Ae i) 0 (c.Ae - 1)&& !(n.Ae.take i).contains (gt n.Ae i)) (some (Bb2 c n)) (fun k i=>Aow K c k i n.Hh n.C2 n.Ly n.fUp n.Gq n.Bt n.Gr n.Gs n.Ae n.Pq n.Gt n.Ea n.Dg) (fun k i h=> ?_) (fun k=> ?_)]
 ·rw[Ai5];rfl
 ·have hp:(n.Ae.take i).length≤140737488355328:=by simp;omega
  simp only[Aow];rw[Ae9 h,cond_true,if_pos (Ajc h),Aso,if_pos (Bao (by omega)),A5y,Axh hK _ _ hp,Ahd (by omega),A2h hK hc]
  simp only[Z0,if_pos (Ajc h)];cases inB (gt n.Ae i) 0 (c.Ae - 1)<;>cases (n.Ae.take i).contains (gt n.Ae i)<;>rfl
 ·show Aow K c (k+1) _ _ _ _ _ _ _ _ _ _ _ _ _ _=_;rw[Aow,Afe (Z9 _),cond_false,Axh hK _ _ (by omega),Aso]
  unfold Bb2;simp only[Z0,Ai5];cases n.Pq==0<;>rfl
theorem Ayb (l:List Int)(hl:l.length≤140737488355328):Aqu K l=some (l.all (fun x=>inB x 0 255)):=by
 unfold Aqu Ai4 Ak9;rw[Azw hK l hl (Ash K) (fun x=> !inB x 0 255) (fun x _=>by simp[Ash,Aus]) (Ag4 K l) (fun n N i=>rfl)]
 simp only[Z0,List.not_any_eq_all_not,Bool.not_not]
theorem Bap (c:Er)(n:Ba)(h1:n.Ae.length≤140737488355327)(h2:n.Ea.length≤140737488355327)(h3:n.Dg.length≤140737488355327):Av7 K c n=some (Awx c n):=by
 unfold Av7;rw[Awp,Beo];simp only[Z0,Aso];cases hc:Ap4 c with
 |false=>simp[Awx,hc]
 |true=>
 rw[A6t hK hc n h1]
 have hA:Ap1 K n.Dg K 0=some (n.Dg.all (fun x=>inB x 0 255)):=by
  rw[Arz hK n.Dg (by omega) (fun x=>inB x 0 255) (some true) (Ap1 K n.Dg) (fun k i h=> ?_) (fun k=> ?_)]
  ·cases n.Dg.all (fun x=>inB x 0 255)<;>rfl
  ·rw[Ap1,Ae9 h,cond_true,if_pos (Ajc h),Aej h,Aso,Ahd (by omega),Z0,Ac2]
  ·rw[Ap1,Afe (Z9 _),cond_false]
 have hB:Apg K c K 0 n.Hh n.C2 n.Ly n.fUp n.Gq n.Bt n.Gr n.Gs n.Ae n.Pq n.Gt n.Ea n.Dg=some (n.Dg.all (fun x=>inB x 0 255)&&n.Ea.all (Ar0 c)):=by
  rw[Arz hK n.Ea (by omega) (Ar0 c) (some (n.Dg.all (fun x=>inB x 0 255))) (fun k i=>Apg K c k i n.Hh n.C2 n.Ly n.fUp n.Gq n.Bt n.Gr n.Gs n.Ae n.Pq n.Gt n.Ea n.Dg) (fun k i h=> ?_) (fun k=> ?_)]
  ·rw[Ai5,Bool.and_comm]
  ·simp only[Apg];rw[Ae9 h,cond_true,if_pos (Ajc h),Aej h,A1b,Ahd (by omega),Z0,Ac2]
  ·show Apg K c (k+1) _ _ _ _ _ _ _ _ _ _ _ _ _ _=_;rw[Apg,Afe (Z9 _),cond_false,hA]
 rw[hB]
 have e12:decide ((n.Ea.length:Int)>12)= !decide ((n.Ea.length:Int)≤12):=by rw[←decide_not];congr 1;simp
 have e6:decide ((n.Dg.length:Int)>6)= !decide ((n.Dg.length:Int)≤6):=by rw[←decide_not];congr 1;simp
 simp only[Z0,cond_true,e12,e6,Ac2,Ai5,A9g];unfold Awx A68;rw[hc];cases n.Hh != 1 with
 |true=>simp only[cond_true,Ai5,Z30]
 |false=>
  simp only[cond_false,Ai5,Z30,Z7]
  ac_rfl
theorem Baq (c:Er)(n:Ba)(h1:n.Ae.length≤140737488355327)(h2:n.Ea.length≤140737488355327)(h3:n.Dg.length≤140737488355327):Awa K c n=some (Awx c n):=by
 unfold Awa;rw[Azn,Beq (by omega)]
 simp only[Z0,Aus];cases hc:Ap4 c with
 |false=>simp[Awx,hc]
 |true=>
 have hT:Ahy K n.Ea c=some (n.Ea.any (fun t=> !Ar0 c t)):=
  Azw hK n.Ea (by omega) (fun t=>At7 K t c) (fun t=> !Ar0 c t) (fun x _=>by simp[At7,A1c]) (Ae1 K n.Ea c) (fun n N i=>rfl)
 have hJ:Ap3 K c n.Ea n.Dg=some ((decide ((n.Ea.length:Int)≤12)&&decide ((n.Dg.length:Int)≤6))&&(n.Dg.all (fun x=>inB x 0 255)&&n.Ea.all (Ar0 c))):=by
  unfold Ap3;rw[hT,Ayb hK _ (by omega)]
  simp only[Z0,Ai5,List.not_any_eq_all_not,Bool.not_not,Z7]
  ac_rfl
 obtain⟨_,b2,_⟩:=Aen hc
 have hB:Aph K c K ([n.fUp,n.Bt,n.Gr,n.Gs]:List Int) (([n.fUp,n.Bt,n.Gr,n.Gs]:List Int).length:Int) 0 n.Hh n.C2 n.Ly n.fUp n.Gq n.Bt n.Gr n.Gs n.Ae n.Pq n.Gt n.Ea n.Dg=some (A68 c n):=by
  rw[Arz hK ([n.fUp,n.Bt,n.Gr,n.Gs]:List Int) (by simp) (fun x=>inB x 0 c.C0) (some ((!decide (n.Ly<0)&& !decide (n.Gq<0))&&((Avq c n.Ae&&Bb2 c n)&&((decide ((n.Ea.length:Int)≤12)&&decide ((n.Dg.length:Int)≤6))&&(n.Dg.all (fun x=>inB x 0 255)&&n.Ea.all (Ar0 c)))))) (fun k i=>Aph K c k ([n.fUp,n.Bt,n.Gr,n.Gs]:List Int) (([n.fUp,n.Bt,n.Gr,n.Gs]:List Int).length:Int) i n.Hh n.C2 n.Ly n.fUp n.Gq n.Bt n.Gr n.Gs n.Ae n.Pq n.Gt n.Ea n.Dg) (fun k i h=> ?_) (fun k=> ?_)]
  ·unfold A68;rw[Ai5];simp only[F3,List.all_nil,Bool.and_true]
  ·simp only[Aph];rw[Ae9 h,cond_true,if_pos (Ajc h),Aej h,Aus,Ahd (by simp at h ⊢;omega),Z0,Ac2]
  ·show Aph K c (k+1) _ _ _ _ _ _ _ _ _ _ _ _ _ _ _ _=_;rw[Aph,Afe (Z9 _),cond_false,hJ,Az6 hK hc _ h1,Azm hK _ _ (by omega),Aus]
   simp only[Z0,bne,Ac2,Ai5,A9g];unfold Bb2
   have hz:(n.Gt==0)=true->inB n.Gt 0 c.Eg=true:=by
    intro h;rw[beq_iff_eq]at h;rw[Ayt];omega
   cases e0:n.Pq==0 with
   |true=>
    simp only[cond_true,Ai5,A9g,Bool.not_not,Ac2,cond_false];cases e1:n.Gt==0 with
    |true=>rw[hz e1];simp only[Z30,Bool.and_true];simp only[Z7];ac_rfl
    |false=>cases inB n.Gt 0 c.Eg<;>cases decide (n.Ly<0)<;>cases decide (n.Gq<0)<;>cases Avq c n.Ae<;>rfl
   |false=>
    simp only[cond_false,Ai5,A9g,Z7]
    ac_rfl
 rw[hB];simp only[cond_true,Ac2,Ai5];unfold Awx;rw[hc];cases n.Hh != 1<;>simp only[cond_true,cond_false,Ai5,Z30]
end
theorem Bdf{α β:Type}(l:List α)(q:α->Bool)(fin bad:Option β)(L:Nat->Int->Option β)
  (hs: ∀n (i:Nat) (h:i<l.length),L (n+1) (i:Int)=bif q l[i]then L n ((i+1:Nat):Int)else bad)
  (he: ∀n,L (n+1) (l.length:Int)=fin):
  ∀(n i:Nat),i≤l.length->l.length - i<n->L n (i:Int)=bif (l.drop i).all q then fin else bad:=by
 intro n
 induction n with
 |zero=>intro i _ h;omega
 |succ n ih=>
  intro i hi hn;rcases F9 i l.length with h|h
  ·rw[hs n i h,Z47 h,F3];cases q l[i]with
   |false=>rfl
   |true=>rw[cond_true,ih (i+1) h (by omega)];rfl
  ·obtain rfl:i=l.length:=by omega
   rw[he,List.drop_length];rfl
theorem Ber{β:Type}{K:Nat}(hK:281474976710656≤K)(N:Nat)(hl:N≤140737488355328)(q:Nat->Bool)(fin bad:Option β)(L:Nat->Int->Option β)
  (hs: ∀n (i:Nat) (h:i<N),L (n+1) (i:Int)=bif q i then L n ((i+1:Nat):Int)else bad)
  (he: ∀n,L (n+1) (N:Int)=fin):L K 0=bif (List.range N).all q then fin else bad:=by
 have:=Bdf (List.range N) q fin bad L (fun n i h=>by rw[List.getElem_range];exact hs n i (by simpa using h)) (fun n=>by rw[List.length_range];exact he n) K 0 (Z21 _) (by simp;omega)
 simpa using this
def Axj (t:A9):Prop:=0≤t.fAt∧t.fAt≤200∧0≤t.Vu∧t.Vu≤200
theorem Bar{c:Er}{t:A9}(h:Ar0 c t=true):Axj t∧Awg c t:=by
 have h1:Awg c t:=by
  unfold Ar0 at h;rw[Z4]at h;exact of_decide_eq_true h.1
 have hb:=Axi c;obtain⟨h2,h3,h4,h5⟩:=h1;exact⟨⟨h4,by omega,by omega,by omega⟩,h2,h3,h4,h5⟩
def Apy (a b:A9):Bool:=decide (a.Vu≤0∨b.Vu≤0∨a.fAt+a.Vu≤b.fAt∨b.fAt+b.Vu≤a.fAt)
theorem Bas (a b:A9):Apy a b=Apy b a:=by
 unfold Apy;rw[decide_eq_decide];omega
theorem Bb3 (K:Nat){a b:A9}(ha:Axj a)(hb:Axj b):Aw2 K a b=some (Apy a b):=by
 obtain⟨a1,a2,a3,a4⟩:=ha;obtain⟨b1,b2,b3,b4⟩:=hb;unfold Aw2 Aob;rw[Ag1 (n:=b.fAt - a.fAt) (by omega) (by omega),Ag1 (n:=a.fAt - b.fAt) (by omega) (by omega)]
 simp only[Axg]
 have: ∀x:Bool,x=Apy a b->some x=some (Apy a b):=fun x h=>by rw[h]
 by_cases h:a.fAt≤b.fAt
 ·rw[decide_eq_true h,cond_true,Axg,Axg];refine this _ ?_;rw[Bool.eq_iff_iff];simp only[Apy,Bool.or_eq_true,decide_eq_true_eq];omega
 ·rw[decide_eq_false h,cond_false,Axg,Axg];refine this _ ?_;rw[Bool.eq_iff_iff];simp only[Apy,Bool.or_eq_true,decide_eq_true_eq];omega
theorem A50 (K:Nat){a b:A9}(ha:Axj a)(hb:Axj b):Avc K a b=some (Apy a b):=by
 obtain⟨a1,a2,a3,a4⟩:=ha;obtain⟨b1,b2,b3,b4⟩:=hb;unfold Avc Avb Aob;simp only[IntKind.wrap_u64]
 have: ∀x:Bool,x=Apy a b->some x=some (Apy a b):=fun x h=>by rw[h]
 by_cases h:a.fAt>b.fAt
 ·rw[decide_eq_true h,cond_true,Axg,Axg];refine this _ ?_;rw[Bool.eq_iff_iff];simp only[Apy,Bool.or_eq_true,decide_eq_true_eq];omega
 ·rw[decide_eq_false h,cond_false,Axg,Axg];refine this _ ?_;rw[Bool.eq_iff_iff];simp only[Apy,Bool.or_eq_true,decide_eq_true_eq];omega
def Av0 (l:List A9):Bool:=(List.range l.length).all (fun i=>(l.take i).all (fun o=>Apy o (gt l i)))
def Ayi (c:Er)(chunks:List Int)(t:A9):Bool:=
 Ar0 c t&&(List.range ((t.fAt+t.Vu - 1) / c.Eg - t.fAt / c.Eg+1).toNat).all (fun j=>chunks.contains (t.fAt / c.Eg+(j:Int)))
theorem A69{c:Er}{t:A9}(h:Ar0 c t=true):
  c.Eg≠0∧Alr .i64 t.fAt c.Eg=t.fAt / c.Eg∧Alr .i64 (Aob .i64 (Aoa .i64 t.fAt t.Vu) 1) c.Eg=(t.fAt+t.Vu - 1) / c.Eg∧0≤t.fAt / c.Eg∧t.fAt / c.Eg≤(t.fAt+t.Vu - 1) / c.Eg∧(t.fAt+t.Vu - 1) / c.Eg≤192:=by
 obtain⟨hs,hc,h1,h2,h3⟩:=Bar h
 have hb:=Axi c;obtain⟨b1,b2,_⟩:=Aen hc
 have e1:Aob .i64 (Aoa .i64 t.fAt t.Vu) 1=t.fAt+t.Vu - 1:=by
  unfold Aob Aoa;rw[Ag1 (n:=t.fAt+t.Vu) (by omega) (by omega),Ag1 (by omega) (by omega)]
 have e2: ∀x:Int,0≤x->x≤192->Alr .i64 x c.Eg=x / c.Eg∧0≤x / c.Eg∧x / c.Eg≤192:=by
  intro x h0 hx
  have h3:x / c.Eg≤x:=Int.ediv_le_self _ h0
  have h4:0≤x / c.Eg:=Int.ediv_nonneg h0 (by omega)
  refine⟨?_,h4,by omega⟩
  unfold Alr;rw[Int.tdiv_eq_ediv_of_nonneg h0,Ag1 (by omega) (by omega)]
 obtain⟨x1,x2,x3⟩:=e2 t.fAt h2 (by omega)
 obtain⟨y1,y2,y3⟩:=e2 (t.fAt+t.Vu - 1) (by omega) (by omega)
 refine⟨by omega,x1,by rw[e1,y1],x2,Int.ediv_le_ediv (by omega) (by omega),y3⟩
theorem Bsy{a:Int}{j:Nat}(h0:0≤a)(h:a+j≤140737488355328):Aoa .i64 (a+(j:Int)) 1=a+((j+1:Nat):Int):=by
 unfold Aoa;rw[Ag1 (by omega) (by omega)];omega
section
variable {K:Nat} (hK:281474976710656≤K)
include hK
theorem A6u (l:List A9)(hl:l.length≤140737488355327)(hs: ∀t∈l,Axj t):At3 K l=some (Av0 l):=by
 unfold At3 Av0;rw[Apx hK l.length (by omega) (fun i=>(l.take i).all (fun o=>Apy o (gt l i))) (some true) (fun n i=>Ajz K l n i) (fun n i h=> ?_) (fun n=> ?_)]
 ·cases (List.range l.length).all _<;>rfl
 ·simp only[Ajz];rw[Ae9 h,cond_true]
  have hlen:(l.take i).length=i:=by simp;omega
  rw[Arz hK (l.take i) (by omega) (fun o=>Apy o (gt l i)) (Ajz K l n (Aoa .i64 i 1)) (fun m j=>Aoy K l i (Ajz K l n) m j) (fun m j hj=> ?_) (fun m=> ?_)]
  ·rw[Ahd (by omega)]
  ·have hj':j<i:=by omega
   simp only[Aoy];rw[Ae9 hj',cond_true,if_pos (Ajc h),if_pos (Ajc (show j<l.length by omega)),Bb3 K (hs _ (Apk h)) (hs _ (Apk (show j<l.length by omega))),Z0,Ac2,Ahd (by omega),Bas,List.getElem_take,Aej (show j<l.length by omega)]
  ·show Aoy K l i _ (m+1) _=_;rw[Aoy,hlen,Afe (Z9 _),cond_false]
 ·show Ajz K l (n+1) _=_;rw[Ajz,Afe (Z9 _),cond_false]
theorem A6v (l:List A9)(hl:l.length≤140737488355327)(hs: ∀t∈l,Axj t):At9 K l=some (Av0 l):=by
 unfold At9 Av0;rw[Apx hK l.length (by omega) (fun i=>(l.take i).all (fun o=>Apy o (gt l i))) (some true) (fun n i=>Ao3 K l n l (l.length:Int) i) (fun n i h=> ?_) (fun n=> ?_)]
 ·cases (List.range l.length).all _<;>rfl
 ·simp only[Ao3]
  have hlen:(l.take i).length=i:=by simp;omega
  have hC:Ag9 K (l.take i) (gt l i)=some ((l.take i).any (fun o=> !Apy o (gt l i))):=
   Azw hK (l.take i) (by omega) (fun t=>Asi K t (gt l i)) (fun o=> !Apy o (gt l i)) (fun x hx=>by
    unfold Asi;rw[A50 K (hs _ (Za hx)) (hs _ (Apk h))];rfl) (Ael K (l.take i) (gt l i)) (fun n N i=>rfl)
  rw[Ae9 h,cond_true,if_pos (Ajc h),if_pos (Bao (by omega)),A5y,hC,Ahd (by omega),Z0,List.any_eq_not_all_not,Ac2]
  simp only[Bool.not_not]
 ·show Ao3 K l (n+1) _ _ _=_;rw[Ao3,Afe (Z9 _),cond_false]
theorem A6w (c:Er)(n:Ba)(h1:n.Ae.length≤140737488355327)(h2:n.Ea.length≤140737488355327):At8 K c n=some (n.Ea.all (Ayi c n.Ae)):=by
 unfold At8
 have h1t: ∀t,Aqz K t c n=some (!Ayi c n.Ae t):=by
  intro t;unfold Aqz Ayi;rw[A1c,Z0,Ac2];cases ht:Ar0 c t with
  |false=>rfl
  |true=>
   obtain⟨d0,d1,d2,d3,d4,d5⟩:=A69 ht;rw[cond_true,if_pos d0,d1]
   have:=Ber hK ((t.fAt+t.Vu - 1) / c.Eg - t.fAt / c.Eg+1).toNat (by omega) (fun j=>n.Ae.contains (t.fAt / c.Eg+(j:Int))) (some false) (some true) (fun m j=>Alj K t c n m (t.fAt / c.Eg+j)) (fun m j hj=> ?_) (fun m=> ?_)
   ·simp only[Int.add_zero]at this;rw[this];cases (List.range _).all _<;>rfl
   ·simp only[Alj];rw[if_pos d0,d2,decide_eq_true (by omega),cond_true,Azm hK _ _ (by omega),Z0,Ac2,Bsy d3 (by omega)]
   ·show Alj K t c n (m+1) _=_;rw[Alj,if_pos d0,d2,decide_eq_false (by omega),cond_false]
 have hC:Ag7 K n.Ea c n=some (n.Ea.any (fun t=> !Ayi c n.Ae t)):=
  Azw hK n.Ea (by omega) (fun t=>Aqz K t c n) (fun t=> !Ayi c n.Ae t) (fun x _=>h1t x) (Aek K n.Ea c n) (fun n N i=>rfl)
 rw[hC];simp only[Z0,List.not_any_eq_all_not,Bool.not_not]
theorem A6x (c:Er)(n:Ba)(h1:n.Ae.length≤140737488355327)(h2:n.Ea.length≤140737488355327):At2 K c n=some (n.Ea.all (Ayi c n.Ae)):=by
 unfold At2;rw[Arz hK n.Ea (by omega) (Ayi c n.Ae) (some true) (fun k i=>Aje K c k i n.Hh n.C2 n.Ly n.fUp n.Gq n.Bt n.Gr n.Gs n.Ae n.Pq n.Gt n.Ea n.Dg) (fun k i h=> ?_) (fun k=> ?_)]
 ·cases n.Ea.all _<;>rfl
 ·simp only[Aje];rw[Ae9 h,cond_true,if_pos (Ajc h),Aej h,A1b,Z0,Ac2];unfold Ayi;generalize n.Ea[i]=t;cases ht:Ar0 c t with
  |false=>rfl
  |true=>
   obtain⟨d0,d1,d2,d3,d4,d5⟩:=A69 ht;rw[cond_true,if_pos d0,d1,Z30]
   have:=Apx hK ((t.fAt+t.Vu - 1) / c.Eg - t.fAt / c.Eg+1).toNat (by omega) (fun j=>n.Ae.contains (t.fAt / c.Eg+(j:Int))) (Aje K c k ((i+1:Nat):Int) n.Hh n.C2 n.Ly n.fUp n.Gq n.Bt n.Gr n.Gs n.Ae n.Pq n.Gt n.Ea n.Dg)
    (fun m j=>Aox K c i n.Hh n.C2 n.Ly n.fUp n.Gq n.Bt n.Gr n.Gs n.Ae n.Pq n.Gt n.Ea n.Dg (Aje K c k) m (t.fAt / c.Eg+j) t) (fun m j hj=> ?_) (fun m=> ?_)
   ·simp only[Int.add_zero]at this;exact this
   ·simp only[Aox];rw[if_pos d0,d2,decide_eq_true (by omega),cond_true,Axh hK _ _ (by omega),Z0,Ac2,Bsy d3 (by omega)]
   ·show Aox K c i _ _ _ _ _ _ _ _ _ _ _ _ _ _ (m+1) _ _=_;rw[Aox,if_pos d0,d2,decide_eq_false (by omega),cond_false,Ahd (by omega)]
 ·show Aje K c (k+1) _ _ _ _ _ _ _ _ _ _ _ _ _ _=_;rw[Aje,Afe (Z9 _),cond_false]
end
def wfi (x:Int):Prop:= -9223372036854775808≤x∧x≤9223372036854775807
def Az7 (l:List Int):Prop:=(∀x∈l,wfi x)∧l.length*8≤140737488355327
def A9i (l:List Int):Prop:=(∀x∈l,0≤x∧x≤255)∧l.length≤140737488355327
def Azq (t:A9):Prop:=wfi t.fAt∧wfi t.Vu∧wfi t.Vv
def A22 (l:List A9):Prop:=(∀x∈l,Azq x)∧l.length*24≤140737488355327
structure A1e (n:Ba):Prop where
 st:wfi n.Hh
 gen:wfi n.C2
 ep:wfi n.Ly
 up:wfi n.fUp
 upEp:wfi n.Gq
 first:wfi n.Bt
 next:wfi n.Gr
 prev:wfi n.Gs
 chunks:Az7 n.Ae
 cur:wfi n.Pq
 bump:wfi n.Gt
 things:A22 n.Ea
 tags:Az7 n.Dg
def Aix (l:List Ba):Prop:=(∀x∈l,A1e x)∧l.length*152≤140737488355327
structure Azr (x:Ax):Prop where
 slot:wfi x.A5
 first:wfi x.Bt
 tags:Az7 x.Dg
 chunks:Az7 x.Ae
 done:wfi x.Gu
def Bdg (l:List Ax):Prop:=(∀x∈l,Azr x)∧l.length*72≤140737488355327
structure B2p (c:Er):Prop where
 chunks:wfi c.Ae
 size:wfi c.Eg
 slots:wfi c.C0
 tax:wfi c.E9
 slice:wfi c.C1
 gens:wfi c.Eh
structure Bld (p:Dw):Prop where
 mem:A9i p.Fy
 st:Az7 p.Hh
 own:Az7 p.Fz
structure Aru (w:Eb):Prop where
 c:B2p w.fC
 p:Bld w.fP
 l:Aix w.fL
 q:Bdg w.fQ
 log:Az7 w.Pr
theorem Ant:140737488355328≤maxLen:=by unfold maxLen;omega
theorem A2i{α:Type}(x:Option α):Afd x x=x:=by simp[Afd]
theorem Auu (K:Nat){l:List Int}(h:l.length*8≤140737488355327):Ag3 K l=some l:=by
 have hm:=Ant;unfold Ag3;rw[Zg,if_pos ⟨by omega,by omega⟩]
 cases l with
 |nil=>exact A2i _
 |cons x l=>rfl
theorem A0k (K:Nat){l:List Int}(h:l.length≤140737488355327):Ape K l=some l:=by
 have hm:=Ant;unfold Ape;rw[Zg,if_pos ⟨by omega,by omega⟩]
 cases l with
 |nil=>exact A2i _
 |cons x l=>rfl
theorem Bat (K:Nat){l:List A9}(h:l.length*24≤140737488355327):Apl K l=some l:=by
 have hm:=Ant;unfold Apl;rw[Zg,if_pos ⟨by omega,by omega⟩]
 cases l with
 |nil=>exact A2i _
 |cons x l=>rfl
theorem Bdh{α:Type}(N:Nat)(q:Nat->Bool)(g:Nat->α)(L:Nat->List α->Int->Option (List α))
  (hs: ∀n v (i:Nat),i<N->v.length≤i->L (n+1) v (i:Int)=bif q i then L n (v++[g i]) ((i+1:Nat):Int)else L n v ((i+1:Nat):Int))
  (he: ∀n v,L (n+1) v (N:Int)=some v):
  ∀(n i:Nat) (v:List α),i≤N->v.length≤i->N - i<n->L n v (i:Int)=some (v++(((List.range N).drop i).filter q).map g):=by
 intro n
 induction n with
 |zero=>intro i v _ _ h;omega
 |succ n ih=>
  intro i v hi hv hn;rcases F9 i N with h|h
  ·rw[hs n v i h hv,Z47 (by simpa using h),List.getElem_range,List.filter_cons]
   cases hq:q i with
   |true=>
    rw[cond_true,ih (i+1) _ h (by simp;omega) (by omega)]
    simp
   |false=>
    rw[cond_false,ih (i+1) _ h (by omega) (by omega)]
    simp
  ·obtain rfl:i=N:=by omega
   rw[he,Z48 (by simp)];simp
def Atm (p:Dw)(k:Int):List Int:=((List.range (min p.Hh.length p.Fz.length)).filter (fun i:Nat=>gt p.Hh i==1&&gt p.Fz i==k)).map (fun i:Nat=>(i:Int))
theorem Bb4 (p:Dw)(k:Int):(Atm p k).length≤min p.Hh.length p.Fz.length:=by
 unfold Atm;rw[B8];exact To (List.length_filter_le _ _) (by simp)
theorem Az8 (p:Dw)(k:Int):(Atm p k).Pairwise (fun a b=>a<b):=by
 unfold Atm;rw[List.pairwise_map];exact(List.Pairwise.filter _ List.pairwise_lt_range).imp fun h=>by omega
theorem A2t{l:List Int}: ∀ {o:List Int},o.Nodup->(∀x∈o,x∈l)->o.length=l.length->o.Perm l:=by
 intro o
 induction o generalizing l with
 |nil=>intro _ _ h;cases l with
  |nil=>exact .nil
  |cons _ _=>simp at h
 |cons x o ih=>
  intro hn hs hl
  have hx:x∈l:=hs x (by simp)
  rw[List.nodup_cons]at hn
  have h2:o.Perm (l.erase x):=ih hn.2 (fun y hy=>by
   have hne:y≠x:=fun e=>hn.1 (e ▸ hy);exact(List.mem_erase_of_ne hne).2 (hs y (by simp[hy]))) (by rw[List.length_erase_of_mem hx];simp at hl;omega)
  exact(List.Perm.cons x h2).trans (List.perm_cons_erase hx).symm
def Azx (p:Dw)(k:Int)(l:List Int):Bool:=(Atm p k).all (fun x=>l.contains x)&&((Atm p k).length:Int)==(l.length:Int)
theorem Bog (p:Dw)(k:Int)(l:List Int):decide (l.mergeSort (fun x y=>decide (x≤y))=Atm p k)=Azx p k l:=by
 rw[Bool.eq_iff_iff];unfold Azx;simp only[decide_eq_true_eq,Z4,Z1,List.contains_iff_mem,beq_iff_eq]
 have hp:=List.mergeSort_perm l (fun x y=>decide (x≤y));constructor
 ·intro e;rw[e]at hp;exact⟨fun x hx=>hp.mem_iff.1 hx,by have:=hp.length_eq;omega⟩
 ·rintro⟨h1,h2⟩
  have hn:(Atm p k).Nodup:=(Az8 p k).imp fun h=>by omega
  have h3:=A2t hn h1 (by omega)
  refine List.Perm.eq_of_pairwise (le:=fun a b=>a≤b) (fun a b _ _ h1 h2=>by omega) ?_ ((Az8 p k).imp fun h=>by omega) (hp.trans h3.symm)
  have:=List.pairwise_mergeSort (le:=fun x y:Int=>decide (x≤y)) (fun a b c h1 h2=>by simp at *;omega) (fun a b=>by simp;omega) l
  exact this.imp fun h=>by simpa using h
theorem Bes{a b:List Int}(h:a.length=b.length):(List.range a.length).all (fun i=>gt a i==gt b i)=decide (a=b):=by
 rw[Bool.eq_iff_iff];simp only[Z1,List.mem_range,beq_iff_eq,decide_eq_true_eq];constructor
 ·intro h1;refine List.ext_getElem h fun i h2 h3=> ?_
  have:=h1 i h2
  rwa[Aej h2,Aej h3]at this
 ·rintro rfl _ _;rfl
section
variable {K:Nat} (hK:281474976710656≤K)
include hK
theorem Bet (a b:List Int)(ha:a.length≤140737488355327):Aiz K a b=some (decide (a=b)):=by
 unfold Aiz
 by_cases h:a.length=b.length
 ·rw[show((a.length:Int) != (b.length:Int))=false by simp[h],cond_false,←Bes h]
  rw[Apx hK a.length (by omega) (fun i=>gt a i==gt b i) (some true) (fun n i=>Aiy K a b n (a.length:Int) i) (fun n i hi=> ?_) (fun n=> ?_)]
  ·cases (List.range a.length).all _<;>rfl
  ·simp only[Aiy];rw[Ae9 hi,cond_true,if_pos (Ajc hi),if_pos (Ajc (show i<b.length by omega)),Ahd (by omega),bne,Ac2]
  ·show Aiy K a b (n+1) _ _=_;rw[Aiy,Afe (Z9 _),cond_false]
 ·rw[Atk (by omega),cond_true,decide_eq_false (fun e=>h (by rw[e]))]
theorem A9j (p:Dw)(k:Int)(h1:p.Hh.length*8≤140737488355327):Au4 K p k=some (Atm p k):=by
 have hm:=Ant;unfold Au4
 have:=Bdh (min p.Hh.length p.Fz.length) (fun i:Nat=>gt p.Hh i==1&&gt p.Fz i==k) (fun i:Nat=>(i:Int)) (fun n v i=>Ale K k n v i p.Fy p.Hh p.Fz) (fun n v i hi hv=> ?_) (fun n v=> ?_) K 0 [] (Z21 _) (Z9 _) (by omega)
 ·simpa[Atm]using this
 ·have h2:(v++([(i:Int)]:List Int)).length=v.length+1:=by simp
  simp only[Ale,Are];rw[Ae9 (by omega),Ae9 (by omega),cond_true,cond_true,if_pos (Ajc (by omega)),if_pos (Ajc (by omega)),Ahd (by omega),if_pos ⟨by rw[h2];omega,by rw[h2];omega⟩]
  cases gt p.Hh (i:Int)==1<;>cases gt p.Fz (i:Int)==k<;>rfl
 ·show Ale K k (n+1) v _ _ _ _=_;rw[Ale];rcases Nat.le_total p.Hh.length p.Fz.length with h|h
  ·rw[Nat.min_eq_left h,Afe (Z9 _),cond_false]
  ·rw[Nat.min_eq_right h,Afe (Z9 p.Fz.length),cond_false,cc]
theorem A9k (p:Dw)(k:Int)(h1:p.Hh.length*8≤140737488355327):Ava K p k=some (Atm p k):=by
 have hm:=Ant;unfold Ava
 have e:Aaf (p.Hh.length:Int) (p.Fz.length:Int)=((min p.Hh.length p.Fz.length:Nat):Int):=by unfold Aaf;split<;>omega
 rw[e]
 have:=Bdh (min p.Hh.length p.Fz.length) (fun i:Nat=>gt p.Hh i==1&&gt p.Fz i==k) (fun i:Nat=>(i:Int)) (fun n v i=>Alg K k n v ((min p.Hh.length p.Fz.length:Nat):Int) i p.Fy p.Hh p.Fz) (fun n v i hi hv=> ?_) (fun n v=> ?_) K 0 [] (Z21 _) (Z9 _) (by omega)
 ·simpa[Atm]using this
 ·have h2:(v++([(i:Int)]:List Int)).length=v.length+1:=by simp
  simp only[Alg,Ari];rw[Ae9 hi,cond_true,if_pos (Ajc (by omega)),if_pos (Ajc (by omega)),Ahd (by omega),if_pos ⟨by rw[h2];omega,by rw[h2];omega⟩]
  cases gt p.Hh (i:Int)==1<;>cases gt p.Fz (i:Int)==k<;>rfl
 ·show Alg K k (n+1) v _ _ _ _ _=_;rw[Alg,Afe (Z9 _),cond_false]
theorem A51 (w:Eb)(k:Nat)(hk:k<w.fL.length)(h1:w.fP.Hh.length*8≤140737488355327)(h2:(gt w.fL k).Ae.length≤140737488355327):Ata K w k=some (Azx w.fP k (gt w.fL k).Ae):=by
 unfold Ata;rw[A9j hK _ _ h1,Z0]
 have hl:=Bb4 w.fP k;rw[Arz hK (Atm w.fP k) (by omega) (fun x=>(gt w.fL k).Ae.contains x) (some (((Atm w.fP k).length:Int)==((gt w.fL k).Ae.length:Int))) (fun n i=>Ani K k (Atm w.fP k) n i w.fC.Ae w.fC.Eg w.fC.C0 w.fC.E9 w.fC.C1 w.fC.Eh w.fP.Fy w.fP.Hh w.fP.Fz w.fL w.fQ w.Pr) (fun n i hi=> ?_) (fun n=> ?_)]
 ·rw[Ai5];rfl
 ·simp only[Ani];rw[Ae9 hi,cond_true,if_pos (Ajc hk),if_pos (Ajc hi),Axh hK _ _ (by omega),Z0,Ac2,Ahd (by omega),Aej hi]
 ·show Ani K k (Atm w.fP k) (n+1) _ _ _ _ _ _ _ _ _ _ _ _ _=_;rw[Ani,Afe (Z9 _),cond_false,if_pos (Ajc hk)]
end
def Awy (c:Er)(n:Ba):A9:=A9.mk ((n.Pq - 1)*c.Eg+n.Gt) (c.Eg - n.Gt) 0
def A52 (c:Er)(mem:List Int)(n:Ba):Bool:=
 n.Pq==0||(Ayh ((mem.drop (Awy c n).fAt.toNat).take (Awy c n).Vu.toNat)&&n.Ea.all (fun t=>Apy t (Awy c n)))
theorem Beu{c:Er}{n:Ba}(h:Awx c n=true)(h1:n.Hh=1):Ap4 c=true∧A68 c n=true:=by
 unfold Awx at h;simp only[Z4]at h;refine⟨h.1,?_⟩
 have:=h.2.2.2;rw[h1]at this;exact this
theorem Bev{c:Er}{n:Ba}(h:Awx c n=true)(h1:n.Hh≠1):A5z n=true:=by
 unfold Awx at h;simp only[Z4]at h
 have:=h.2.2.2;rw[Atk h1]at this;exact this
theorem Bv0{c:Er}{n:Ba}(hw:A1e n)(h:Awx c n=true)(h1:n.Pq≠0):n.Hh=1∧1≤n.Pq∧n.Pq≤c.Ae∧0≤n.Gt∧n.Gt≤c.Eg:=by
 by_cases h2:n.Hh=1
 ·refine⟨h2,?_⟩;obtain⟨hc,hl⟩:=Beu h h2;obtain⟨b1,_⟩:=Aen hc;unfold A68 at hl;simp only[Z4]at hl
  have hd:=hl.2.2.1.1
  have hcu:=hl.2.2.1.2;unfold Bb2 at hcu;rw[Aq7 h1,cond_false,Z4,List.contains_iff_mem,Ayt]at hcu;obtain⟨i,hi,e⟩:=List.mem_iff_getElem.1 hcu.1;unfold Avq at hd;rw[Z1]at hd
  have:=hd i (by simpa using hi)
  rw[Z4,Aej hi,e,Ayt]at this
  have h3:=this.1;obtain⟨w1,w2⟩:=hw.cur;unfold Aob at h3;rw[IntKind.wrap_i64]at h3;refine⟨by omega,by omega,hcu.2.1,hcu.2.2⟩
 ·have:=Bev h h2;unfold A5z at this;simp only[Z4,beq_iff_eq]at this;exact absurd this.2.2.2.2.2.2.2.1 h1
theorem Bdi{c:Er}{p:Dw}{n:Ba}(hp:Aut c p=true)(hw:A1e n)(h:Awx c n=true)(h1:n.Pq≠0):
  Aoa .i64 (Aoc .i64 (Aob .i64 n.Pq 1) c.Eg) n.Gt=(Awy c n).fAt∧Aob .i64 c.Eg n.Gt=(Awy c n).Vu∧Aoc .i64 n.Pq c.Eg=(Awy c n).fAt+(Awy c n).Vu∧Axj (Awy c n)∧(Awy c n).fAt+(Awy c n).Vu≤(p.Fy.length:Int):=by
 obtain⟨h2,c1,c2,c3,c4⟩:=Bv0 hw h h1;obtain⟨hc,hm,_⟩:=Avz hp;obtain⟨b1,b2,_⟩:=Aen hc
 have m1:=A09 (a:=n.Pq - 1) (b:=c.Eg) (m:=11) (n:=16) (by omega) (by omega) (by omega) b2.2
 have e2:n.Pq*c.Eg=(n.Pq - 1)*c.Eg+c.Eg:=by rw[Int.sub_mul,Int.one_mul];omega
 have m2:n.Pq*c.Eg≤c.Ae*c.Eg:=Int.mul_le_mul_of_nonneg_right (by omega) (by omega)
 unfold Awy Axj Aoa Aob Aoc;simp only;rw[Ag1 (n:=n.Pq - 1) (by omega) (by omega),Ag1 (n:=(n.Pq - 1)*c.Eg) (by omega) (by omega),Ag1 (n:=(n.Pq - 1)*c.Eg+n.Gt) (by omega) (by omega),Ag1 (n:=c.Eg - n.Gt) (by omega) (by omega),Ag1 (n:=n.Pq*c.Eg) (by omega) (by omega)]
 refine⟨rfl,rfl,by omega,⟨by omega,by omega,by omega,by omega⟩,by omega⟩
theorem A53{c:Er}{l:List A9}{ch:List Int}(h:l.all (Ayi c ch)=true): ∀t∈l,Axj t∧1≤t.Vu:=by
 intro t ht;rw[Z1]at h
 have:=h t ht;unfold Ayi at this;rw[Z4]at this;obtain⟨h1,h2⟩:=Bar this.1;exact⟨h1,h2.2.1⟩
def A54 (w:Eb)(k:Nat):Bool:=
 Awx w.fC (gt w.fL k)&&(Azx w.fP k (gt w.fL k).Ae&&((gt w.fL k).Ea.all (Ayi w.fC (gt w.fL k).Ae)&&(Av0 (gt w.fL k).Ea&&A52 w.fC w.fP.Fy (gt w.fL k))))
section
variable {K:Nat} (hK:281474976710656≤K)
include hK
theorem A2j{l:List Int}(h:Az7 l):l.length≤140737488355327:=by have:=h.2;omega
theorem Ble{l:List A9}(h:A22 l):l.length≤140737488355327:=by have:=h.2;omega
theorem Bb5 (w:Eb)(k:Nat)(hk:k<w.fL.length)(hp:Aut w.fC w.fP=true)(hw:A1e (gt w.fL k))(hn:Awx w.fC (gt w.fL k)=true)(hs: ∀t∈(gt w.fL k).Ea,Axj t∧1≤t.Vu):At4 K w k=some (A52 w.fC w.fP.Fy (gt w.fL k)):=by
 unfold At4;rw[if_pos (Ajc hk)];unfold A52
 by_cases h1:(gt w.fL k).Pq=0
 ·rw[h1];rfl
 ·rw[Aq7 h1,cond_false];obtain⟨e1,e2,e3,⟨s1,s2,s3,s4⟩,s5⟩:=Bdi hp hw hn h1;rw[e1,e3];generalize hr:Awy w.fC (gt w.fL k)=r at *;rcases (show r.Vu=0∨1≤r.Vu by omega)with h2|h2
  ·rw[decide_eq_true (show r.fAt≥r.fAt+r.Vu by omega),cond_true,h2]
   have:(gt w.fL k).Ea.all (fun t=>Apy t r)=true:=by
    rw[Z1];intro t _;exact decide_eq_true (.inr (.inl (by omega)))
   rw[this];simp[Ayh]
  ·rw[decide_eq_false (show ¬r.fAt≥r.fAt+r.Vu by omega),cond_false]
   have hlt:=Ble hK hw.things
   have hz:List.take (r.fAt+r.Vu - r.fAt).toNat (List.drop r.fAt.toNat w.fP.Fy)=List.take r.Vu.toNat (List.drop r.fAt.toNat w.fP.Fy):=by rw[show r.fAt+r.Vu - r.fAt=r.Vu by omega]
   rw[Arz hK (gt w.fL k).Ea (by omega) (fun t=>Apy t r) (some (Ayh (List.take r.Vu.toNat (List.drop r.fAt.toNat w.fP.Fy)))) (fun m i=>Al6 K m r.fAt (r.fAt+r.Vu) i (gt w.fL k).Hh (gt w.fL k).C2 (gt w.fL k).Ly (gt w.fL k).fUp (gt w.fL k).Gq (gt w.fL k).Bt (gt w.fL k).Gr (gt w.fL k).Gs (gt w.fL k).Ae (gt w.fL k).Pq (gt w.fL k).Gt (gt w.fL k).Ea (gt w.fL k).Dg w.fC.Ae w.fC.Eg w.fC.C0 w.fC.E9 w.fC.C1 w.fC.Eh w.fP.Fy w.fP.Hh w.fP.Fz w.fL w.fQ w.Pr) (fun m i hi=> ?_) (fun m=> ?_)]
   ·rw[Ai5,Bool.and_comm];rfl
   ·simp only[Al6,Asf];obtain⟨⟨t1,t2,t3,t4⟩,t5⟩:=hs _ (Apk hi);rw[Ae9 hi,cond_true,if_pos (Ajc hi),Ahd (by omega),←Aej hi]
    generalize gt (gt w.fL k).Ea i=t at *;unfold Aoa;rw[Ag1 (n:=t.fAt+t.Vu) (by omega) (by omega)]
    unfold Apy
    by_cases g1:t.fAt<r.fAt+r.Vu
    ·by_cases g2:t.fAt+t.Vu>r.fAt
     ·rw[decide_eq_true g1,decide_eq_true g2,decide_eq_false (by omega)];rfl
     ·rw[decide_eq_true g1,decide_eq_false g2,decide_eq_true (by omega)];rfl
    ·rw[decide_eq_false g1,decide_eq_true (show t.Vu≤0∨r.Vu≤0∨t.fAt+t.Vu≤r.fAt∨r.fAt+r.Vu≤t.fAt by omega)];rfl
   ·show Al6 K (m+1) _ _ _ _ _ _ _ _ _ _ _ _ _ _ _ _ _ _ _ _ _ _ _ _ _ _ _ _=_;rw[Al6,Afe (Z9 _),cond_false,if_pos ⟨s1,by omega,s5⟩,Azo hK _ (by simp;omega),hz,Z0]
theorem Blf (l:List Int)(h:Az7 l):Eu K l=some (l.mergeSort fun x y=>decide (x≤y)):=by
 have:=h.2;unfold Eu;rw[if_pos (by omega)]
theorem A9l (w:Eb)(hw:Aru w)(hp:Aut w.fC w.fP=true):Aq0 K w=some ((List.range w.fL.length).all (A54 w)):=by
 unfold Aq0
 have hlL:=hw.l.2;rw[Apx hK w.fL.length (by omega) (A54 w) (some true) (fun m i=>Ahl K m w.fL (w.fL.length:Int) i w.fC.Ae w.fC.Eg w.fC.C0 w.fC.E9 w.fC.C1 w.fC.Eh w.fP.Fy w.fP.Hh w.fP.Fz w.fL w.fQ w.Pr) (fun m k hk=> ?_) (fun m=> ?_)]
 ·cases (List.range w.fL.length).all _<;>rfl
 ·simp only[Ahl,Ap6];rw[show Er.mk w.fC.Ae w.fC.Eg w.fC.C0 w.fC.E9 w.fC.C1 w.fC.Eh=w.fC from rfl,show Dw.mk w.fP.Fy w.fP.Hh w.fP.Fz=w.fP from rfl]
  have hn:=hw.l.1 _ (Apk hk);unfold A54;generalize hN:gt w.fL k=n at*
  have l1:=A2j hK hn.chunks
  have l2:=Ble hK hn.things
  have l3:=A2j hK hn.tags;rw[Ae9 hk,cond_true,if_pos (Ajc hk),Auu K hn.chunks.2,Z0,Blf hK _ hn.chunks,Z0,if_pos (List.length_mergeSort _),Baq hK _ _ l1 l2 l3,Z0,A9k hK _ _ hw.p.st.2,Ahd (by omega)]
  simp only[Z0];rw[Bet hK _ _ (by rw[List.length_mergeSort];exact l1),Bog,A6w hK _ _ l1 l2]
  simp only[Z0];cases hb:Awx w.fC n with
  |false=>rfl
  |true=>
  cases Azx w.fP k n.Ae with
  |false=>rfl
  |true=>
  cases hi:n.Ea.all (Ayi w.fC n.Ae)with
  |false=>rfl
  |true=>
  have hs:=A53 hi;rw[A6v hK _ l2 (fun t ht=>(hs t ht).1)];simp only[Z0,cond_true,Ac2,Z30];cases Av0 n.Ea with
  |false=>rfl
  |true=>
  simp only[cond_true,Z30];unfold A52
  by_cases h1:n.Pq=0
  ·rw[h1];rfl
  ·rw[Aq7 h1,cond_false,Z52];obtain⟨e1,e2,e3,s,s5⟩:=Bdi hp hn hb h1
   have hmk:A9.mk (Awy w.fC n).fAt (Awy w.fC n).Vu 0=Awy w.fC n:=rfl;rw[e1,e2];simp only[hmk];generalize hr:Awy w.fC n=r at *;obtain⟨s1,s2,s3,s4⟩:=s
   have e4:Aoa .i64 r.fAt r.Vu=r.fAt+r.Vu:=by unfold Aoa;rw[Ag1 (by omega) (by omega)]
   have hC:Ag0 K n.Ea r=some (n.Ea.any (fun t=> !Apy t r)):=
    Azw hK n.Ea (by omega) (fun t=>Ap5 K t r) (fun t=> !Apy t r) (fun x hx=>by
     unfold Ap5;rw[A50 K (hs _ hx).1 ⟨s1,s2,s3,s4⟩];rfl) (Aeh K n.Ea r) (fun n N i=>rfl)
   rw[e4,if_pos ⟨s1,by omega,s5⟩,show r.fAt+r.Vu - r.fAt=r.Vu by omega,Azp hK _ (by simp;omega),hC,List.any_eq_not_all_not]
   simp only[Z0,Bool.not_not];cases Ayh (List.take r.Vu.toNat (List.drop r.fAt.toNat w.fP.Fy))<;>cases n.Ea.all (fun t=>Apy t r)<;>rfl
 ·show Ahl K (m+1) _ _ _ _ _ _ _ _ _ _ _ _ _ _ _=_;rw[Ahl,Afe (Z9 _),cond_false]
end
section
variable {K:Nat} (hK:281474976710656≤K)
theorem Aem{l:List Ba}(w:Aix l):l.length≤140737488355327:=by have:=w.2;omega
theorem A1f (K:Nat){α:Type}{l:List α}(hl:l.length≤140737488355327)(k:Int):Ac1 K k 0 (Aob .i64 (l.length:Int) 1)=some (decide (0≤k∧k<(l.length:Int))):=by
 unfold Ac1 Aob;rw[Ag1 (by omega) (by omega)]
 by_cases h:(0:Int)≤k
 ·rw[decide_eq_true (show k≥0 from h)]
  simp only[cond_true,Z7,decide_eq_decide];omega
 ·rw[decide_eq_false (show ¬k≥0 from h)]
  simp only[cond_false,Z7];exact(decide_eq_false (by omega)).symm
theorem A7a (K:Nat){α:Type}{l:List α}(hl:l.length≤140737488355327)(k:Int):Abk K k 0 (Aob .i64 (l.length:Int) 1)=some (decide (0≤k∧k<(l.length:Int))):=A1f K hl k
theorem Azy (K:Nat){l:List Ba}(hl:l.length≤140737488355327)(k:Int):An4 K l k=some (decide (0≤k∧k<(l.length:Int))):=by
 unfold An4;rw[A7a K hl];rfl
theorem A0l (K:Nat)(l:List Ba)(k:Int):Aok K l k=some (decide (1≤k∧k≤(l.length:Int))):=by
 unfold Aok
 by_cases h:(1:Int)≤k
 ·rw[decide_eq_true (show k≥1 from h)]
  simp only[cond_true,Z7,decide_eq_decide];omega
 ·rw[decide_eq_false (show ¬k≥1 from h)]
  simp only[cond_false,Z7];exact(decide_eq_false (by omega)).symm
def Arv (l:List Ba)(h:Ct):Int:=if(0≤h.A5∧h.A5<(l.length:Int))∧(gt l h.A5).Hh=1∧(gt l h.A5).C2=h.C2 then h.A5 else -1
theorem Ayv (K:Nat){l:List Ba}(hl:l.length≤140737488355327)(h:Ct):Arf K l h=some (Arv l h):=by
 unfold Arf Arv;rw[A1f K hl];simp only[Z0]
 by_cases hs:0≤h.A5∧h.A5<(l.length:Int)
 ·rw[decide_eq_true hs];simp only[cond_true,if_pos hs]
  by_cases h1:(gt l h.A5).Hh=1
  ·by_cases h2:(gt l h.A5).C2=h.C2
   ·rw[if_pos ⟨hs,h1,h2⟩];simp[h1,h2]
   ·rw[if_neg (fun h=>h2 h.2.2),Atk h2];simp[h1]
  ·rw[if_neg (fun h=>h1 h.2.1),Atk h1];rfl
 ·rw[decide_eq_false hs];simp only[cond_false];rw[if_neg (fun h=>hs h.1)]
theorem A1g (K:Nat){l:List Ba}(hl:l.length≤140737488355327)(h:Ct):Asx K l h=some (Arv l h):=by
 rw[←Ayv K hl];unfold Arf Asx;rw[A1f K hl,Azy K hl]
theorem A2k{l:List Ba}{h:Ct}(h0: ¬Arv l h<0):0≤Arv l h∧Arv l h<(l.length:Int):=by
 unfold Arv at *;split at h0
 ·rename_i h1;rw[if_pos h1];exact h1.1
 ·omega
def Apd (l:List Ba):Nat->Int->List Int
 |0,_=>[]
 |n+1,k=>if 0≤k∧k<(l.length:Int)then k::Apd l n (Aob .i64 (gt l k).fUp 1)else []
theorem A9m{l:List Ba}: ∀(n:Nat) (k:Int),∀x∈Apd l n k,0≤x∧x<(l.length:Int):=by
 intro n
 induction n with
 |zero=>intro k x hx;cases hx
 |succ n ih=>
  intro k x hx;unfold Apd at hx;split at hx
  ·rename_i h;rcases D6.1 hx with rfl|hx
   ·exact h
   ·exact ih _ x hx
  ·cases hx
theorem A55{l:List Ba}: ∀(n:Nat) (k:Int),(Apd l n k).length≤n:=by
 intro n
 induction n with
 |zero=>intro k;exact Z9 _
 |succ n ih=>
  intro k;unfold Apd;split
  ·simp only[Y9];have:=ih (Aob .i64 (gt l k).fUp 1);omega
  ·exact Z21 _
def Bb6 (l:List Ba):List Int->Prop
 |x::y::r=>Aob .i64 (gt l x).fUp 1=y∧Bb6 l (y::r)
 |_=>True
theorem Bb7{l:List Ba}: ∀(n:Nat) (k:Int),Bb6 l (Apd l n k):=by
 intro n
 induction n with
 |zero=>intro k;trivial
 |succ n ih=>
  intro k;unfold Apd;split
  ·have h1:=ih (Aob .i64 (gt l k).fUp 1);cases n with
   |zero=>trivial
   |succ n=>
    rw[Apd]at h1 ⊢;split at h1
    ·rename_i h2;rw[if_pos h2];exact⟨rfl,h1⟩
    ·rename_i h2;rw[if_neg h2];trivial
  ·trivial
theorem Bew{l:List Ba}(w:Aix l): ∀(n:Nat) (k:Int) (v:List Int),-9223372036854775808≤k∧k≤9223372036854775807->v.length≤l.length->l.length - v.length<n->Atp K l n k v=some (v++Apd l (l.length - v.length) k):=by
 have hb:l.length*152≤140737488355327:=w.2;intro n
 induction n with
 |zero=>intro k v _ _ h;omega
 |succ n ih=>
  intro k v hk hv hn;rw[Atp,A0l];simp only[Z0]
  have e:decide (1≤Aoa .i64 k 1∧Aoa .i64 k 1≤(l.length:Int))=decide (0≤k∧k<(l.length:Int)):=by
   rw[decide_eq_decide];unfold Aoa;rw[IntKind.wrap_i64];omega
  rw[e]
  by_cases hs:0≤k∧k<(l.length:Int)
  ·rw[decide_eq_true hs];simp only[cond_true];rcases F9 v.length l.length with h|h
   ·rw[Ae9 h];simp only[cond_true]
    have hl2:(v++[k]).length=v.length+1:=by simp
    rw[if_pos ⟨by rw[hl2];omega,by rw[hl2];unfold maxLen;omega⟩,if_pos hs,ih (Aob .i64 (gt l k).fUp 1) _ (Bvy _) (by rw[hl2];omega) (by rw[hl2];omega),hl2]
    obtain⟨m,hm⟩: ∃m,l.length - v.length=m+1:=⟨l.length - v.length - 1,by omega⟩
    rw[hm,Apd,if_pos hs,show l.length - (v.length+1)=m from by omega]
    simp
   ·rw[Afe h];rw[show l.length - v.length=0 from by omega]
    simp[Apd]
  ·rw[decide_eq_false hs]
   have:Apd l (l.length - v.length) k=[]:=by
    cases l.length - v.length with
    |zero=>rfl
    |succ m=>rw[Apd,if_neg hs]
   rw[this];simp
theorem Bex{l:List Ba}(w:Aix l): ∀(n:Nat) (k:Int) (v:List Int),v.length≤l.length->l.length - v.length<n->Atr K l n k v=some (v++Apd l (l.length - v.length) k):=by
 have hb:l.length*152≤140737488355327:=w.2;intro n
 induction n with
 |zero=>intro k v _ h;omega
 |succ n ih=>
  intro k v hv hn;rw[Atr,Azy K (by omega)]
  simp only[Z0]
  by_cases hs:0≤k∧k<(l.length:Int)
  ·rw[decide_eq_true hs];simp only[cond_true];rcases F9 v.length l.length with h|h
   ·rw[Ae9 h];simp only[cond_true]
    have hl2:(v++[k]).length=v.length+1:=by simp
    rw[if_pos ⟨by rw[hl2];omega,by rw[hl2];unfold maxLen;omega⟩,if_pos hs,ih _ _ (by rw[hl2];omega) (by rw[hl2];omega),hl2]
    obtain⟨m,hm⟩: ∃m,l.length - v.length=m+1:=⟨l.length - v.length - 1,by omega⟩
    rw[hm,Apd,if_pos hs,show l.length - (v.length+1)=m from by omega]
    simp
   ·rw[Afe h];rw[show l.length - v.length=0 from by omega]
    simp[Apd]
  ·rw[decide_eq_false hs]
   have:Apd l (l.length - v.length) k=[]:=by
    cases l.length - v.length with
    |zero=>rfl
    |succ m=>rw[Apd,if_neg hs]
   rw[this];simp
include hK in
theorem A0m{l:List Ba}(w:Aix l)(k:Int)(hk: -9223372036854775808≤k∧k≤9223372036854775807):Aun K l k=some (Apd l l.length k):=by
 have hb:=Aem w;unfold Aun
 have:=Bew (K:=K) w K k [] hk (Z21 _) (by simp;omega)
 simpa using this
include hK in
theorem A0n{l:List Ba}(w:Aix l)(k:Int):Aup K l k=some (Apd l l.length k):=by
 have hb:=Aem w;unfold Aup
 have:=Bex (K:=K) w K k [] (Z21 _) (by simp;omega)
 simpa using this
def Av1 (l:List Ba):List Int->Bool
 |[]=>true
 |[x]=>(gt l x).Hh==1
 |x::y::r=>((gt l x).Hh==1)&&((gt l x).Gq==(gt l y).Ly)&&Av1 l (y::r)
def A56 (l:List Ba)(way:List Int):Bool:=if 0<way.length then(gt l (gt way ((way.length - 1:Nat):Int))).fUp==0 else false
theorem Bau{l:List Ba}{way:List Int}(hin: ∀x∈way,0≤x∧x<(l.length:Int))(hlen:way.length≤140737488355327):
  (bif (decide ((way.length:Int)>0))then(if(0:Int)≤(Aob .i64 (way.length:Int) 1)∧(Aob .i64 (way.length:Int) 1)<(way.length:Int)then(if(0:Int)≤(gt way (Aob .i64 (way.length:Int) 1))∧(gt way (Aob .i64 (way.length:Int) 1))<(l.length:Int)then some (((gt l (gt way (Aob .i64 (way.length:Int) 1))).fUp)==0)else none)else none)else some false)=some (A56 l way):=by
 unfold A56;rcases Qs way.length with h|h
 ·rw[decide_eq_false (show ¬(way.length:Int)>0 by omega)]
  simp only[cond_false];rw[if_neg (show ¬0<way.length by omega)]
 ·rw[if_pos h,decide_eq_true (by omega)]
  simp only[cond_true]
  have e:Aob .i64 (way.length:Int) 1=((way.length - 1:Nat):Int):=by unfold Aob;rw[Ag1 (by omega) (by omega)];omega
  rw[e,if_pos ⟨by omega,by omega⟩,if_pos (hin _ (Apk (by omega)))]
theorem Avr{way:List Int}{i:Nat}(h:i<way.length):way.drop i=way[i]::way.drop (i+1):=by
 rw[Z47 h]
theorem Bb8{l:List Ba}{way:List Int}(hin: ∀x∈way,0≤x∧x<(l.length:Int))(hlen:way.length≤140737488355327): ∀(n i:Nat),i≤way.length->way.length - i<n->Aro K l way n way (way.length:Int) (i:Int)=some (Av1 l (way.drop i)&&A56 l way):=by
 intro n
 induction n with
 |zero=>intro i _ h;omega
 |succ n ih=>
  intro i hi hn;rw[Aro];unfold Avg;rcases F9 i way.length with h|h
  ·rw[Ae9 h];simp only[cond_true];rw[if_pos ⟨by omega,by omega⟩,if_pos (hin _ (Apk h)),Avr h,Ahd (by omega),←Aej h]
   rcases F9 (i+1) way.length with h2|h2
   ·rw[Ae9 h2,Avr h2,←Aej h2];simp only[cond_true];rw[if_pos (hin _ (Apk h)),if_pos ⟨by omega,by omega⟩,if_pos (hin _ (Apk h2)),ih (i+1) h (by omega),Avr h2,←Aej h2,Av1]
    generalize gt way ((i+1:Nat):Int)=y;generalize gt way (i:Int)=x
    by_cases c1:(gt l x).Hh=1
    ·by_cases c2:(gt l x).Gq=(gt l y).Ly
     ·simp[c1,c2]
     ·rw[Atk c2,Aq7 c2];simp[c1]
    ·rw[Atk c1,Aq7 c1];simp
   ·rw[Afe h2,ih (i+1) h (by omega),show way.drop (i+1)=[] from Z48 h2]
    simp only[cond_false,Av1]
    by_cases c1:(gt l (gt way (i:Int))).Hh=1
    ·simp[c1]
    ·rw[Atk c1,Aq7 c1];simp
  ·rw[Afe h,show way.drop i=[] from Z48 h]
   simp only[cond_false,Av1,Z30];exact Bau hin hlen
theorem Boh{l:List Ba}(w:Aix l){x y:Int}(hx:0≤x∧x<(l.length:Int))(hy:0≤y∧y<(l.length:Int))(h:Aob .i64 (gt l x).fUp 1=y):Aqw K l x=some (((gt l y).Hh==1)&&((gt l y).Ly==(gt l x).Gq)):=by
 have hl:=Aem w;unfold Aqw;rw[if_pos hx,A0l];simp only[Z0];obtain⟨hr1,hr2⟩:=(w.1 _ (Ax0 hx.1 hx.2)).up
 have hp:1≤(gt l x).fUp∧(gt l x).fUp≤(l.length:Int):=by
  unfold Aob at h;rw[IntKind.wrap_i64]at h;omega
 rw[decide_eq_true hp,h];simp only[cond_true];rw[if_pos hy,if_pos hy,if_pos hx];cases (gt l y).Hh==1<;>rfl
theorem Bav{l:List Ba}{y:Int}{r:List Int}(h:(gt l y).Hh≠1):Av1 l (y::r)=false:=by
 cases r with
 |nil=>simp[Av1,h]
 |cons z r=>simp[Av1,h]
theorem Bb9{l:List Ba}(w:Aix l){way:List Int}(hin: ∀x∈way,0≤x∧x<(l.length:Int))(hlen:way.length≤140737488355327): ∀(n i:Nat),Bb6 l (way.drop i)->i≤way.length->way.length - i<n->Arg K l way n (i:Int)=some (Av1 l (way.drop i)&&A56 l way):=by
 intro n
 induction n with
 |zero=>intro i _ _ h;omega
 |succ n ih=>
  intro i hch hi hn;rw[Arg];unfold Au6;rcases F9 i way.length with h|h
  ·rw[Ae9 h];simp only[cond_true];rw[Avr h]at hch;rw[if_pos ⟨by omega,by omega⟩,if_pos (hin _ (Apk h)),Avr h,Ahd (by omega),←Aej h]
   rcases F9 (i+1) way.length with h2|h2
   ·rw[Avr h2]at hch
    have hc1:=hch.1;rw[←Aej h,←Aej h2]at hc1;rw[Ae9 h2,Avr h2,←Aej h2];simp only[cond_true];rw[if_pos ⟨by omega,by omega⟩,Boh w (hin _ (Apk h)) (hin _ (Apk h2)) hc1,ih (i+1) (by rw[Avr h2];exact hch.2) h (by omega),Avr h2,←Aej h2,Av1]
    generalize gt way ((i+1:Nat):Int)=y;generalize gt way (i:Int)=x
    by_cases c1:(gt l x).Hh=1
    ·by_cases c3:(gt l y).Hh=1
     ·by_cases c2:(gt l x).Gq=(gt l y).Ly
      ·simp[c1,c2,c3]
      ·have c2': ¬(gt l y).Ly=(gt l x).Gq:=fun e=>c2 e.symm;rw[Aq7 c2,Aq7 c2'];simp[c1]
     ·rw[Bav c3,Aq7 c3];simp[c1]
    ·rw[Atk c1,Aq7 c1];simp
   ·rw[Afe h2,ih (i+1) (by rw[Z48 h2];trivial) h (by omega),show way.drop (i+1)=[] from Z48 h2]
    simp only[cond_false,Av1]
    by_cases c1:(gt l (gt way (i:Int))).Hh=1
    ·simp[c1]
    ·rw[Atk c1,Aq7 c1];simp
  ·rw[Afe h,show way.drop i=[] from Z48 h]
   simp only[cond_false,Av1,Z30];exact Bau hin hlen
def A2l (l:List Ba)(k:Int):Bool:=Av1 l (Apd l l.length k)&&A56 l (Apd l l.length k)
include hK in
theorem Baw{l:List Ba}(w:Aix l)(k:Int)(hk: -9223372036854775808≤k∧k≤9223372036854775807):Aw4 K l k=some (A2l l k):=by
 have hb:=Aem w
 have hr:=A55 (l:=l) l.length k;unfold Aw4;rw[A0m hK w k hk];exact Bb9 w (A9m _ _) (by omega) K 0 (Bb7 _ _) (Z21 _) (by omega)
include hK in
theorem Bax{l:List Ba}(w:Aix l)(k:Int):Aw8 K l k=some (A2l l k):=by
 have hb:=Aem w
 have hr:=A55 (l:=l) l.length k;unfold Aw8;rw[A0n hK w k];exact Bb8 (A9m _ _) (by omega) K 0 (Z21 _) (by omega)
def Avs (h:Ct):Bool:=bif decide (h.A5≥0)then decide (h.C2≥1)else false
theorem Az9 (K:Nat)(h:Ct):Ar4 K h=some (Avs h):=by
 unfold Ar4 Avs;cases decide (h.A5≥0)<;>rfl
theorem A0a (K:Nat)(h:Ct):Ar7 K h=some (Avs h):=by
 unfold Ar7 Avs;cases decide (h.A5≥0)<;>rfl
def A0b (l:List Ba)(h:Ct):Int×Int:=bif Avs h then(bif decide (Arv l h<0)then(-1,2)else(bif A2l l (Arv l h)then(Arv l h,0)else(-1,2)))else(-1,1)
include hK in
theorem A6y{w:Eb}(hw:Aix w.fL)(h:Ct):At5 K w h=some (A0b w.fL h):=by
 have hb:=Aem hw;unfold At5 A0b;rw[Az9,Ayv K hb];simp only[Z0];cases Avs h with
 |false=>rfl
 |true=>
  simp only[cond_true];cases e:decide (Arv w.fL h<0)with
  |true=>rfl
  |false=>
   have h1:=A2k (of_decide_eq_false e);simp only[cond_false];rw[Baw hK hw _ ⟨by omega,by omega⟩]
   simp only[Z0];cases A2l w.fL (Arv w.fL h)<;>rfl
include hK in
theorem A6z{w:Eb}(hw:Aix w.fL)(h:Ct):Aud K w h=some (A0b w.fL h):=by
 have hb:=Aem hw;unfold Aud A0b;rw[A0a,A1g K hb];simp only[Z0];cases Avs h with
 |false=>rfl
 |true=>
  simp only[cond_true];cases e:decide (Arv w.fL h<0)with
  |true=>rfl
  |false=>
   simp only[cond_false];rw[Bax hK hw];simp only[Z0];cases A2l w.fL (Arv w.fL h)<;>rfl
theorem Blg{l:List Ba}{h:Ct}(h0:(A0b l h).2=0):0≤(A0b l h).1∧(A0b l h).1<(l.length:Int):=by
 unfold A0b at *;cases e1:Avs h with
 |false=>rw[e1]at h0;simp at h0
 |true=>
  rw[e1]at h0;simp only[cond_true]at *;cases e:decide (Arv l h<0)with
  |true=>rw[e]at h0;simp at h0
  |false=>
   rw[e]at h0;simp only[cond_false]at *;cases e2:A2l l (Arv l h)with
   |false=>rw[e2]at h0;simp at h0
   |true=>exact A2k (of_decide_eq_false e)
end
def plB (l:List Ba)(n:Int):Bool:=decide (0≤Aob .i64 n 1∧Aob .i64 n 1<(l.length:Int))
theorem A0o{l:List Ba}{n:Int}(h:plB l n=true):0≤Aob .i64 n 1∧Aob .i64 n 1<(l.length:Int):=of_decide_eq_true h
theorem A0p (K:Nat){l:List Ba}(hl:l.length≤140737488355327)(n:Int):An4 K l (Aob .i64 n 1)=some (plB l n):=Azy K hl _
theorem Ayw (K:Nat){l:List Ba}(hl:l.length≤140737488355327){n:Int}(hn:wfi n):Aok K l n=some (plB l n):=by
 rw[A0l];unfold plB;obtain⟨h1,h2⟩:=hn
 congr 1
 rw[decide_eq_decide];unfold Aob;rw[IntKind.wrap_i64];omega
def Ay3 (l:List Ba)(k:Int):Bool:=plB l (gt l k).fUp&&((gt l (Aob .i64 (gt l k).fUp 1)).Hh==1&&(gt l (Aob .i64 (gt l k).fUp 1)).Ly==(gt l k).Gq)
theorem A2m (K:Nat){l:List Ba}(w:Aix l){k:Int}(h:0≤k∧k<(l.length:Int)):Aqw K l k=some (Ay3 l k):=by
 unfold Aqw Ay3;rw[if_pos h,Ayw K (Aem w) (w.1 _ (Ax0 h.1 h.2)).up,Z0,if_pos h];cases hp:plB l (gt l k).fUp with
 |false=>rfl
 |true=>
  have:=A0o hp;rw[cond_true,if_pos this,if_pos this];cases (gt l (Aob .i64 (gt l k).fUp 1)).Hh==1<;>rfl
theorem Axk (K:Nat){l:List Ba}(w:Aix l){k:Int}(h:0≤k∧k<(l.length:Int)):Aqd K l k=some (Ay3 l k):=by
 unfold Aqd Ay3;rw[if_pos h,A0p K (Aem w),Z0,if_pos h];cases hp:plB l (gt l k).fUp with
 |false=>rfl
 |true=>
  have:=A0o hp;rw[cond_true,if_pos this,if_pos this];cases (gt l (Aob .i64 (gt l k).fUp 1)).Hh==1<;>rfl
def Arw (l:List Ba)(n:Int):Bool:=n==0||(plB l n&&(gt l (Aob .i64 n 1)).Hh==1)
theorem Ayj{l:List Ba}{n:Int}(h:Arw l n=true)(h0:n≠0):0≤Aob .i64 n 1∧Aob .i64 n 1<(l.length:Int):=by
 unfold Arw at h;rw[Aq7 h0,Z52,Z4]at h;exact A0o h.1
theorem Azs (K:Nat){l:List Ba}(w:Aix l){n:Int}(hn:wfi n):Aps K l n=some (Arw l n):=by
 unfold Aps Arw;rw[Ayw K (Aem w) hn,Z0];cases n==0 with
 |true=>rfl
 |false=>
  cases hp:plB l n with
  |false=>rfl
  |true=>rw[if_pos (A0o hp)];rfl
theorem Azt (K:Nat){l:List Ba}(w:Aix l)(n:Int):Asb K l n=some (Arw l n):=by
 unfold Asb Arw;rw[A0p K (Aem w),Z0];cases n==0 with
 |true=>rfl
 |false=>
  cases hp:plB l n with
  |false=>rfl
  |true=>rw[if_pos (A0o hp)];rfl
def A7c (r:List Int):Int:=gt r ((r.length - 1:Nat):Int)
def A0c (l:List Ba)(k:Int):Bool:=decide (((Apd l l.length k).length:Int)≤4)&& !Ay3 l (A7c (Apd l l.length k))
def A57 (l:List Ba)(k:Int):Bool:= !((gt l k).Gs==0&&Ay3 l k)||(gt l (Aob .i64 (gt l k).fUp 1)).Bt==Aoa .i64 k 1
def A9n (l:List Ba)(k:Int):Bool:=(gt l k).Gs==0||(gt l (Aob .i64 (gt l k).Gs 1)).Gr==Aoa .i64 k 1
def Bca (l:List Ba)(k:Int):Bool:=(gt l k).Gr==0||((gt l (Aob .i64 (gt l k).Gr 1)).Gs==Aoa .i64 k 1&&((gt l (Aob .i64 (gt l k).Gr 1)).fUp==(gt l k).fUp&&(gt l (Aob .i64 (gt l k).Gr 1)).Gq==(gt l k).Gq))
def Blh (l:List Ba)(k:Int):Bool:=(gt l k).Bt==0||((gt l (Aob .i64 (gt l k).Bt 1)).Gs==0&&((gt l (Aob .i64 (gt l k).Bt 1)).fUp==Aoa .i64 k 1&&(gt l (Aob .i64 (gt l k).Bt 1)).Gq==(gt l k).Ly))
def A2n (l:List Ba)(k:Int):Bool:=Arw l (gt l k).Bt&&(Arw l (gt l k).Gr&&(Arw l (gt l k).Gs&&((gt l k).fUp==0||plB l (gt l k).fUp)))
def Azu (l:List Ba)(k:Int):Bool:=A2n l k&&(Blh l k&&(Bca l k&&(A9n l k&&A57 l k)))
def A7d (l:List Ba):Bool:=(List.range l.length).all (fun k=>(gt l (k:Int)).Hh != 1||(Azu l k&&A0c l k))
theorem Bay{l:List Ba}{k:Int}(h:0≤k∧k<(l.length:Int)):0<(Apd l l.length k).length:=by
 obtain⟨m,hm⟩: ∃m,l.length=m+1:=⟨l.length - 1,by omega⟩
 rw[hm,Apd,if_pos h];simp
theorem Bdj{l:List Ba}{k:Int}(h:0≤k∧k<(l.length:Int)):0≤A7c (Apd l l.length k)∧A7c (Apd l l.length k)<(l.length:Int):=by
 have:=Bay h;exact A9m _ _ _ (Apk (by omega))
theorem Bdk{l:List Ba}(w:Aix l){k:Int}(h:0≤k∧k<(l.length:Int)):Aob .i64 ((Apd l l.length k).length:Int) 1=(((Apd l l.length k).length - 1:Nat):Int)∧(0:Int)≤(((Apd l l.length k).length - 1:Nat):Int)∧(((Apd l l.length k).length - 1:Nat):Int)<((Apd l l.length k).length:Int):=by
 have h1:=Bay h
 have h2:=A55 (l:=l) l.length k
 have h3:=Aem w;unfold Aob;rw[Ag1 (by omega) (by omega)]
 omega
section
variable {K:Nat} (hK:281474976710656≤K)
include hK
theorem Boi{l:List Ba}(w:Aix l){k:Int}(h:0≤k∧k<(l.length:Int)):Arb K l k=some (A0c l k):=by
 have h3:=Aem w;obtain⟨e1,e2,e3⟩:=Bdk w h;unfold Arb;rw[A0m hK w k ⟨by omega,by omega⟩,Z0,e1,if_pos ⟨e2,e3⟩]
 have:=A2m K w (Bdj h);unfold A7c at this;rw[this,Z0,Ai5];rfl
theorem Boj{l:List Ba}(w:Aix l){k:Int}(h:0≤k∧k<(l.length:Int)):Ass K l k (gt l k).fUp (gt l k).Gs=some (A57 l k&&A0c l k):=by
 unfold Ass A57;rw[A2m K w h,Boi hK w h,Z0];cases (gt l k).Gs==0 with
 |false=>rfl
 |true=>
  cases hc:Ay3 l k with
  |false=>rfl
  |true=>
   have:plB l (gt l k).fUp=true:=by unfold Ay3 at hc;rw[Z4]at hc;exact hc.1
   rw[cond_true,cond_true,if_pos (A0o this),bne,Ac2];cases (gt l (Aob .i64 (gt l k).fUp 1)).Bt==Aoa .i64 k 1<;>rfl
theorem Bok{l:List Ba}(w:Aix l){k:Int}(h:0≤k∧k<(l.length:Int))(hp:Arw l (gt l k).Gs=true):Ast K l k (gt l k).fUp (gt l k).Gs=some (A9n l k&&(A57 l k&&A0c l k)):=by
 unfold Ast A9n;rw[Boj hK w h]
 by_cases h0:(gt l k).Gs=0
 ·rw[h0];rfl
 ·rw[Atk h0,Aq7 h0,cond_true,if_pos (Ayj hp h0),bne,Ac2];cases (gt l (Aob .i64 (gt l k).Gs 1)).Gr==Aoa .i64 k 1<;>rfl
theorem Bol{l:List Ba}(w:Aix l){k:Int}(h:0≤k∧k<(l.length:Int))(hp:Arw l (gt l k).Gs=true)(hn:Arw l (gt l k).Gr=true):Asu K l k (gt l k).fUp (gt l k).Gq (gt l k).Gr (gt l k).Gs=some (Bca l k&&(A9n l k&&(A57 l k&&A0c l k))):=by
 unfold Asu Bca;rw[Bok hK w h hp]
 by_cases h0:(gt l k).Gr=0
 ·rw[h0];rfl
 ·have hi:=Ayj hn h0;rw[Atk h0,Aq7 h0,cond_true,if_pos hi];simp only[bne,Ac2,Z52];cases (gt l (Aob .i64 (gt l k).Gr 1)).Gs==Aoa .i64 k 1<;>cases (gt l (Aob .i64 (gt l k).Gr 1)).fUp==(gt l k).fUp<;>cases (gt l (Aob .i64 (gt l k).Gr 1)).Gq==(gt l k).Gq<;>rfl
theorem Bom{l:List Ba}(w:Aix l){k:Int}(h:0≤k∧k<(l.length:Int))(hf:Arw l (gt l k).Bt=true)(hp:Arw l (gt l k).Gs=true)(hn:Arw l (gt l k).Gr=true):Asv K l k (gt l k).Hh (gt l k).C2 (gt l k).Ly (gt l k).fUp (gt l k).Gq (gt l k).Bt (gt l k).Gr (gt l k).Gs (gt l k).Ae (gt l k).Pq (gt l k).Gt (gt l k).Ea (gt l k).Dg=some (Blh l k&&(Bca l k&&(A9n l k&&(A57 l k&&A0c l k)))):=by
 unfold Asv Blh;rw[Bol hK w h hp hn]
 by_cases h0:(gt l k).Bt=0
 ·rw[h0];rfl
 ·have hi:=Ayj hf h0;rw[Atk h0,Aq7 h0,cond_true,if_pos hi];simp only[bne,Ac2,Z52];cases (gt l (Aob .i64 (gt l k).Bt 1)).Gs==0<;>cases (gt l (Aob .i64 (gt l k).Bt 1)).fUp==Aoa .i64 k 1<;>cases (gt l (Aob .i64 (gt l k).Bt 1)).Gq==(gt l k).Ly<;>rfl
theorem Bcb{l:List Ba}(w:Aix l){k:Int}(h:0≤k∧k<(l.length:Int)):Aw1 K l k=some (Azu l k&&A0c l k):=by
 have hn:=w.1 _ (Ax0 h.1 h.2);unfold Aw1 Azu A2n;rw[if_pos h,Ayw K (Aem w) hn.up,Azs K w hn.first,Azs K w hn.next,Azs K w hn.prev];simp only[Z0,Ac2];cases hf:Arw l (gt l k).Bt with
 |false=>cases (gt l k).fUp != 0<;>cases plB l (gt l k).fUp<;>rfl
 |true=>
 cases hx:Arw l (gt l k).Gr with
 |false=>cases (gt l k).fUp != 0<;>cases plB l (gt l k).fUp<;>rfl
 |true=>
 cases hp:Arw l (gt l k).Gs with
 |false=>cases (gt l k).fUp != 0<;>cases plB l (gt l k).fUp<;>rfl
 |true=>
 rw[Bom hK w h hf hp hx];simp only[bne];cases (gt l k).fUp==0<;>cases plB l (gt l k).fUp<;>simp only[Bool.not_true,Bool.not_false,cond_true,cond_false,Z30,Bool.false_and,Bool.true_or,Z52,Bool.and_assoc]
theorem Baz{l:List Ba}(w:Aix l):Av6 K l=some (A7d l):=by
 have hl:=Aem w;unfold Av6 A7d;rw[Apx hK l.length (by omega) (fun k=>(gt l (k:Int)).Hh != 1||(Azu l k&&A0c l k)) (some true) (fun n i=>Apf K l n i) (fun n i h=> ?_) (fun n=> ?_)]
 ·cases (List.range l.length).all _<;>rfl
 ·simp only[Apf,Atz];rw[Ae9 h,cond_true,if_pos (Ajc h),Bcb hK w (Ajc h),Ahd (by omega),Z0,Ac2,bne]
  cases (gt l (i:Int)).Hh==1<;>rfl
 ·show Apf K l (n+1) _=_;rw[Apf,Afe (Z9 _),cond_false]
theorem Bon{l:List Ba}(w:Aix l){k:Int}(h:0≤k∧k<(l.length:Int)):Arj K l k (gt l k).fUp (gt l k).Gs=some (A57 l k):=by
 unfold Arj A57;rw[Axk K w h,Z0,bne];cases (gt l k).Gs==0 with
 |false=>rfl
 |true=>
  cases hc:Ay3 l k with
  |false=>rfl
  |true=>
   have:plB l (gt l k).fUp=true:=by unfold Ay3 at hc;rw[Z4]at hc;exact hc.1
   rw[if_pos (A0o this)];rfl
theorem Boo{l:List Ba}(w:Aix l){k:Int}(h:0≤k∧k<(l.length:Int))(hp:Arw l (gt l k).Gs=true):Ark K l k (gt l k).fUp (gt l k).Gs=some (A9n l k&&A57 l k):=by
 unfold Ark A9n;rw[Bon hK w h]
 by_cases h0:(gt l k).Gs=0
 ·rw[h0];rfl
 ·rw[Atk h0,Aq7 h0,cond_true,if_pos (Ayj hp h0),bne,Ac2];cases (gt l (Aob .i64 (gt l k).Gs 1)).Gr==Aoa .i64 k 1<;>rfl
theorem Bop{l:List Ba}(w:Aix l){k:Int}(h:0≤k∧k<(l.length:Int))(hp:Arw l (gt l k).Gs=true)(hn:Arw l (gt l k).Gr=true):Arl K l k (gt l k).fUp (gt l k).Gq (gt l k).Gr (gt l k).Gs=some (Bca l k&&(A9n l k&&A57 l k)):=by
 unfold Arl Bca;rw[Boo hK w h hp]
 by_cases h0:(gt l k).Gr=0
 ·rw[h0];rfl
 ·have hi:=Ayj hn h0;rw[Atk h0,Aq7 h0,cond_true,if_pos hi];simp only[bne,Ac2,Z52];cases (gt l (Aob .i64 (gt l k).Gr 1)).Gs==Aoa .i64 k 1<;>cases (gt l (Aob .i64 (gt l k).Gr 1)).fUp==(gt l k).fUp<;>cases (gt l (Aob .i64 (gt l k).Gr 1)).Gq==(gt l k).Gq<;>rfl
theorem Boq{l:List Ba}(w:Aix l){k:Int}(h:0≤k∧k<(l.length:Int))(hf:Arw l (gt l k).Bt=true)(hp:Arw l (gt l k).Gs=true)(hn:Arw l (gt l k).Gr=true):Arm K l k (gt l k).Hh (gt l k).C2 (gt l k).Ly (gt l k).fUp (gt l k).Gq (gt l k).Bt (gt l k).Gr (gt l k).Gs (gt l k).Ae (gt l k).Pq (gt l k).Gt (gt l k).Ea (gt l k).Dg=some (Blh l k&&(Bca l k&&(A9n l k&&A57 l k))):=by
 unfold Arm Blh;rw[Bop hK w h hp hn]
 by_cases h0:(gt l k).Bt=0
 ·rw[h0];rfl
 ·have hi:=Ayj hf h0;rw[Atk h0,Aq7 h0,cond_true,if_pos hi];simp only[bne,Ac2,Z52];cases (gt l (Aob .i64 (gt l k).Bt 1)).Gs==0<;>cases (gt l (Aob .i64 (gt l k).Bt 1)).fUp==Aoa .i64 k 1<;>cases (gt l (Aob .i64 (gt l k).Bt 1)).Gq==(gt l k).Ly<;>rfl
theorem A9o{l:List Ba}(w:Aix l){k:Int}(h:0≤k∧k<(l.length:Int)):Avd K l k=some (Azu l k):=by
 unfold Avd Azu A2n;rw[if_pos h,A0p K (Aem w),Azt K w,Azt K w,Azt K w];simp only[Z0,Ac2];cases hf:Arw l (gt l k).Bt with
 |false=>rfl
 |true=>
 cases hx:Arw l (gt l k).Gr with
 |false=>rfl
 |true=>
 cases hp:Arw l (gt l k).Gs with
 |false=>rfl
 |true=>
 rw[Boq hK w h hf hp hx];simp only[bne];cases (gt l k).fUp==0<;>cases plB l (gt l k).fUp<;>simp only[Bool.not_true,Bool.not_false,cond_true,cond_false,Z30,Bool.false_and,Bool.true_or,Z52,Bool.and_assoc]
theorem Ba0{l:List Ba}(w:Aix l):Awb K l=some (A7d l):=by
 have hl:=Aem w;unfold Awb A7d;rw[Apx hK l.length (by omega) (fun k=>(gt l (k:Int)).Hh != 1||(Azu l k&&A0c l k)) (some true) (fun n i=>Api K l n l (l.length:Int) i) (fun n i h=> ?_) (fun n=> ?_)]
 ·cases (List.range l.length).all _<;>rfl
 ·have hc:=Ajc h;obtain⟨e1,e2,e3⟩:=Bdk w hc
  have e4:=Axk K w (Bdj hc);unfold A7c at e4
  have e5:decide (((Apd l l.length i).length:Int)>4)= !decide (((Apd l l.length i).length:Int)≤4):=by rw[←decide_not];congr 1;simp
  simp only[Api,Aua];rw[Ae9 h,cond_true,if_pos hc,A9o hK w hc,Ahd (by omega),Z0,A0n hK w,Z0,e1,if_pos ⟨e2,e3⟩,e4,Z0,e5]
  unfold A0c A7c;simp only[Ac2,bne];cases (gt l (i:Int)).Hh==1<;>cases Azu l i<;>cases decide (((Apd l l.length i).length:Int)≤4)<;>cases Ay3 l (gt (Apd l l.length i) (((Apd l l.length i).length - 1:Nat):Int))<;>rfl
 ·show Api K l (n+1) _ _ _=_;rw[Api,Afe (Z9 _),cond_false]
end
theorem A7e{c:Er}(hc:Ap4 c=true):Aob .i64 c.Eg 1=c.Eg - 1:=by
 obtain⟨_,b2,_⟩:=Aen hc;unfold Aob;rw[Ag1 (by omega) (by omega)]
def As2 (c:Er)(x:Ax):Bool:=
 Ap4 c&&(inB x.A5 0 c.C0&&(inB x.Bt 0 c.C0&&(decide ((x.Dg.length:Int)≤6)&&(x.Dg.all (fun y=>inB y 0 255)&&(Avq c x.Ae&&(inB x.Gu 0 (c.Eg - 1)&&(decide ((x.Ae.length:Int)>0)||x.Gu==0)))))))
section
variable {K:Nat} (hK:281474976710656≤K)
include hK
theorem A60 (c:Er)(x:Ax)(hw:Azr x):Au1 K c x=some (As2 c x):=by
 have h1:=A2j hK hw.tags
 have h2:=A2j hK hw.chunks;unfold Au1 As8;rw[Awp];simp only[Z0,Aso];cases hc:Ap4 c with
 |false=>simp[As2,hc]
 |true=>
 have hA:Anp K c x.Ae K 0=some (Avq c x.Ae):=by
  rw[Apx hK x.Ae.length (by omega) (fun i=>inB (gt x.Ae i) 0 (c.Ae - 1)&& !(x.Ae.take i).contains (gt x.Ae i)) (some true) (fun k i=>Anp K c x.Ae k i) (fun k i h=> ?_) (fun k=> ?_)]
  ·unfold Avq;cases (List.range x.Ae.length).all _<;>rfl
  ·have hp:(x.Ae.take i).length≤140737488355328:=by simp;omega
   simp only[Anp];rw[Ae9 h,cond_true,if_pos (Ajc h),Aso,if_pos (Bao (by omega)),A5y,Axh hK _ _ hp,Ahd (by omega),A2h hK hc]
   simp only[Z0,if_pos (Ajc h)];cases inB (gt x.Ae i) 0 (c.Ae - 1)<;>cases (x.Ae.take i).contains (gt x.Ae i)<;>rfl
  ·show Anp K c x.Ae (k+1) _=_;rw[Anp,Afe (Z9 _),cond_false]
 have hB:Apq K c x.Dg x.Ae K 0=some (x.Dg.all (fun y=>inB y 0 255)&&Avq c x.Ae):=by
  rw[Arz hK x.Dg (by omega) (fun y=>inB y 0 255) (some (Avq c x.Ae)) (Apq K c x.Dg x.Ae) (fun k i h=> ?_) (fun k=> ?_)]
  ·rw[Ai5]
  ·rw[Apq,Ae9 h,cond_true,if_pos (Ajc h),Aej h,Aso,Ahd (by omega),Z0,Ac2]
  ·rw[Apq,Afe (Z9 _),cond_false,hA]
 rw[hB,A7e hc]
 have e6:decide ((x.Dg.length:Int)>6)= !decide ((x.Dg.length:Int)≤6):=by rw[←decide_not];congr 1;simp
 have e0:decide ((x.Ae.length:Int)>0)= !((x.Ae.length:Int)==0):=by
  rw[Bool.eq_iff_iff];simp only[decide_eq_true_eq,Zh,beq_eq_false_iff_ne];omega
 unfold As2;simp only[cond_true,e6,e0,Ac2,bne,hc,Z30];cases (x.Ae.length:Int)==0 with
 |true=>
  simp only[cond_true,Bool.not_true,Z52,Ai5,Z7]
  ac_rfl
 |false=>
  simp only[cond_false,Bool.not_false,Bool.true_or,Ai5,Z7,Bool.and_true]
  ac_rfl
theorem A61 (c:Er)(x:Ax)(hw:Azr x):Ave K c x=some (As2 c x):=by
 have h1:=A2j hK hw.tags
 have h2:=A2j hK hw.chunks;unfold Ave;rw[Azn];simp only[Z0,Aus];cases hc:Ap4 c with
 |false=>simp[As2,hc]
 |true=>
 rw[Ayb hK _ (by omega),Az6 hK hc _ h2,A7e hc]
 unfold As2;simp only[Z0,cond_true,hc,Z30,Axg,Ai5]
end
theorem Avt{c:Er}{x:Ax}(h:As2 c x=true):Ap4 c=true∧(0≤x.A5∧x.A5≤c.C0)∧(0≤x.Bt∧x.Bt≤c.C0)∧Avq c x.Ae=true∧(0≤x.Gu∧x.Gu≤c.Eg - 1):=by
 unfold As2 at h;simp only[Z4,Ayt]at h;exact⟨h.1,h.2.1,h.2.2.1,h.2.2.2.2.2.1,h.2.2.2.2.2.2.1⟩
theorem A23{c:Er}{l:List Int}(h:Avq c l=true): ∀x∈l,0≤x∧x<c.Ae:=by
 intro x hx;obtain⟨i,hi,e⟩:=List.mem_iff_getElem.1 hx;unfold Avq at h;rw[Z1]at h
 have:=h i (by simpa using hi)
 rw[Z4,Aej hi,e,Ayt]at this;omega
theorem A58{l:List Int}:l.Nodup ↔ ∀i,(h:i<l.length)->l[i] ∉ l.take i:=by
 unfold List.Nodup;rw[List.pairwise_iff_getElem];constructor
 ·intro h i hi hm;obtain⟨j,hj,e⟩:=List.mem_iff_getElem.1 hm;rw[List.getElem_take]at e;simp only[List.length_take]at hj;exact h j i (by omega) hi (by omega) e
 ·intro h i j hi hj hij e;exact h j hj (List.mem_iff_getElem.2 ⟨i,by simp;omega,by rw[List.getElem_take];exact e⟩)
theorem A59{c:Er}{l:List Int}(h:Avq c l=true):l.Nodup:=by
 rw[A58];intro i hi hm;unfold Avq at h;rw[Z1]at h
 have:=h i (by simpa using hi)
 rw[Z4,Aej hi,Zh,List.contains_eq_mem]at this;exact absurd hm (of_decide_eq_false this.2)
theorem A0q{l:List Int}: ∀ {o:List Int},o.Nodup->(∀x∈o,x∈l)->o.length≤l.length:=by
 intro o
 induction o generalizing l with
 |nil=>intro _ _;exact Z21 _
 |cons x o ih=>
  intro hn hs
  have hx:x∈l:=hs x (by simp)
  rw[List.nodup_cons]at hn
  have h2:=ih (l:=l.erase x) hn.2 (fun y hy=>by
   have hne:y≠x:=fun e=>hn.1 (e ▸ hy);exact(List.mem_erase_of_ne hne).2 (hs y (by simp[hy])))
  rw[List.length_erase_of_mem hx]at h2
  have:0<l.length:=List.length_pos_of_mem hx;simp only[Y9];omega
theorem A6a{c:Er}(hc:Ap4 c=true){l:List Int}(h:Avq c l=true):l.length≤12:=by
 obtain⟨b1,_⟩:=Aen hc
 have:=A0q (l:=(List.range 12).map (fun i:Nat=>(i:Int))) (A59 h) (fun x hx=>by
  have:=A23 h x hx;rw[Eo];exact⟨x.toNat,by simp;omega,by omega⟩)
 simpa using this
def Awz (l:List Ba):Nat->Int->List Int
 |0,_=>[]
 |n+1,k=>if 0≤k∧k<(l.length:Int)then k::Awz l n (Aob .i64 (gt l k).Gr 1)else []
theorem A6b{l:List Ba}: ∀(n:Nat) (k:Int),∀x∈Awz l n k,0≤x∧x<(l.length:Int):=by
 intro n
 induction n with
 |zero=>intro k x hx;cases hx
 |succ n ih=>
  intro k x hx;unfold Awz at hx;split at hx
  ·rename_i h;rcases D6.1 hx with rfl|hx
   ·exact h
   ·exact ih _ x hx
  ·cases hx
theorem Azz{l:List Ba}: ∀(n:Nat) (k:Int),(Awz l n k).length≤n:=by
 intro n
 induction n with
 |zero=>intro k;exact Z9 _
 |succ n ih=>
  intro k;unfold Awz;split
  ·simp only[Y9];have:=ih (Aob .i64 (gt l k).Gr 1);omega
  ·exact Z21 _
def Al7 (l:List Ba)(first:Int):List Int:=Awz l l.length (Aob .i64 first 1)
def Awq (l:List Ba)(k:Int):Bool:=(gt l k).Hh==1&&((gt l k).fUp != 0&& !Ay3 l k)
theorem A2u (K:Nat){l:List Ba}(w:Aix l){k:Int}(h:0≤k∧k<(l.length:Int)):Arc K l k=some (Awq l k):=by
 unfold Arc Awq;rw[if_pos h,if_pos h,A2m K w h,Z0,Ai5,Ai5]
theorem A2v (K:Nat){l:List Ba}(w:Aix l){k:Int}(h:0≤k∧k<(l.length:Int)):Aqv K l k=some (Awq l k):=by
 unfold Aqv Awq;rw[if_pos h,if_pos h,Axk K w h,Z0,Ai5,Ai5]
section
variable {K:Nat} (hK:281474976710656≤K)
theorem Bey{l:List Ba}(w:Aix l): ∀(n:Nat) (k:Int) (v:List Int),wfi k->v.length≤l.length->l.length - v.length<n->Ar3 K l n k v=some (v++Awz l (l.length - v.length) (Aob .i64 k 1)):=by
 have hm:=Ant
 have hb:l.length*152≤140737488355327:=w.2;intro n
 induction n with
 |zero=>intro k v _ _ h;omega
 |succ n ih=>
  intro k v hk hv hn;rw[Ar3,Ayw K (Aem w) hk];simp only[Z0]
  by_cases hs:0≤Aob .i64 k 1∧Aob .i64 k 1<(l.length:Int)
  ·rw[show plB l k=true from decide_eq_true hs]
   simp only[cond_true];rcases F9 v.length l.length with h|h
   ·rw[Ae9 h];simp only[cond_true]
    have hl2:(v++[Aob .i64 k 1]).length=v.length+1:=by simp
    rw[if_pos ⟨by rw[hl2];omega,by rw[hl2];omega⟩,if_pos hs,ih (gt l (Aob .i64 k 1)).Gr _ (w.1 _ (Ax0 hs.1 hs.2)).next (by rw[hl2];omega) (by rw[hl2];omega),hl2]
    obtain⟨m,hm⟩: ∃m,l.length - v.length=m+1:=⟨l.length - v.length - 1,by omega⟩
    rw[hm,Awz,if_pos hs,show l.length - (v.length+1)=m from by omega]
    simp
   ·rw[Afe h];rw[show l.length - v.length=0 from by omega]
    simp[Awz]
  ·rw[show plB l k=false from decide_eq_false hs]
   have:Awz l (l.length - v.length) (Aob .i64 k 1)=[]:=by
    cases l.length - v.length with
    |zero=>rfl
    |succ m=>rw[Awz,if_neg hs]
   rw[this];simp
theorem Bez{l:List Ba}(w:Aix l): ∀(n:Nat) (k:Int) (v:List Int),v.length≤l.length->l.length - v.length<n->Ar6 K l n v k=some (v++Awz l (l.length - v.length) k):=by
 have hm:=Ant
 have hb:l.length*152≤140737488355327:=w.2;intro n
 induction n with
 |zero=>intro k v _ h;omega
 |succ n ih=>
  intro k v hv hn;rw[Ar6,Azy K (by omega)]
  simp only[Z0]
  by_cases hs:0≤k∧k<(l.length:Int)
  ·rw[decide_eq_true hs];simp only[cond_true];rcases F9 v.length l.length with h|h
   ·rw[Ae9 h];simp only[cond_true]
    have hl2:(v++[k]).length=v.length+1:=by simp
    rw[if_pos ⟨by rw[hl2];omega,by rw[hl2];omega⟩,if_pos hs,ih _ _ (by rw[hl2];omega) (by rw[hl2];omega),hl2]
    obtain⟨m,hm⟩: ∃m,l.length - v.length=m+1:=⟨l.length - v.length - 1,by omega⟩
    rw[hm,Awz,if_pos hs,show l.length - (v.length+1)=m from by omega]
    simp
   ·rw[Afe h];rw[show l.length - v.length=0 from by omega]
    simp[Awz]
  ·rw[decide_eq_false hs]
   have:Awz l (l.length - v.length) k=[]:=by
    cases l.length - v.length with
    |zero=>rfl
    |succ m=>rw[Awz,if_neg hs]
   rw[this];simp
include hK
theorem A2w{l:List Ba}(w:Aix l){k:Int}(hk:wfi k):Atq K l k=some (Al7 l k):=by
 have hb:=Aem w;unfold Atq Al7
 have:=Bey (K:=K) w K k [] hk (Z21 _) (by simp;omega)
 simpa using this
theorem Ba1{l:List Ba}(w:Aix l)(k:Int):Awc K l k=some (Al7 l k):=by
 have hb:=Aem w;unfold Awc Al7
 have:=Bez (K:=K) w K (Aob .i64 k 1) [] (Z21 _) (by simp;omega)
 simpa using this
def A1h (w:Eb)(x:Ax):Bool:= !decide ((x.Ae.length:Int)>0)||Ayh ((w.fP.Fy.drop (gt x.Ae 0*w.fC.Eg).toNat).take x.Gu.toNat)
def Avu (w:Eb)(x:Ax):Bool:=x.A5==0||(gt w.fL (Aob .i64 x.A5 1)).Hh==2
def Awr (w:Eb)(x:Ax):Bool:=x.Bt==0||(gt w.fL (Aob .i64 x.Bt 1)).Gs==0
def Az0 (w:Eb)(x:Ax):Bool:=x.Ae.all (fun k=>gt w.fP.Hh k==2)
def Ar1 (w:Eb)(x:Ax):Bool:=(Al7 w.fL x.Bt).all (Awq w.fL)
def Anv (w:Eb)(x:Ax):Bool:=As2 w.fC x&&(Az0 w x&&(A1h w x&&(Avu w x&&(Awr w x&&Ar1 w x))))
theorem A1i{w:Eb}(hL:(w.fL.length:Int)=w.fC.C0)(hc:Ap4 w.fC=true){n:Int}(h0:n≠0)(h1:0≤n)(h2:n≤w.fC.C0):0≤Aob .i64 n 1∧Aob .i64 n 1<(w.fL.length:Int):=by
 obtain⟨_,_,b3,_⟩:=Aen hc;unfold Aob;rw[Ag1 (by omega) (by omega)]
 omega
theorem A62 (w:Eb)(hw:Aru w)(hp:Aut w.fC w.fP=true)(hL:(w.fL.length:Int)=w.fC.C0)(i:Nat)(hi:i<w.fQ.length):At0 K w i=some (Anv w (gt w.fQ i)):=by
 have hx:=hw.q.1 _ (Apk hi);unfold At0;rw[if_pos (Ajc hi)];generalize gt w.fQ i=x at *;rw[A60 hK _ _ hx,Z0,Ac2];unfold Anv;cases hr:As2 w.fC x with
 |false=>rfl
 |true=>
 rw[cond_true,Z30];obtain⟨hc,⟨s1,s2⟩,⟨f1,f2⟩,hd,d1,d2⟩:=Avt hr;obtain⟨_,hm,hst,_⟩:=Avz hp;obtain⟨b1,b2,b3,_⟩:=Aen hc
 have hch:=A23 hd
 have hl:=A2j hK hx.chunks
 have h3:Aou K x.Bt w.fL=some (Ar1 w x):=by
  unfold Aou Ar1
  have hk:=Azz (l:=w.fL) w.fL.length (Aob .i64 x.Bt 1)
  have hin:=A6b (l:=w.fL) w.fL.length (Aob .i64 x.Bt 1);rw[A2w hK hw.l hx.first,Z0];change (Al7 w.fL x.Bt).length≤_ at hk;change ∀y∈Al7 w.fL x.Bt,_ at hin;generalize Al7 w.fL x.Bt=r at *;rw[Arz hK r (by omega) (Awq w.fL) (some true) (Ap0 K w.fL r) (fun n i h=> ?_) (fun n=> ?_)]
  ·cases r.all _<;>rfl
  ·rw[Ap0,Ae9 h,cond_true,if_pos (Ajc h),A2u K hw.l (hin _ (Apk h)),Ahd (by omega),Z0,Ac2,Aej h]
  ·rw[Ap0,Afe (Z9 _),cond_false]
 have h2:Aqx K x.A5 x.Bt w.fL=some (Avu w x&&(Awr w x&&Ar1 w x)):=by
  unfold Aqx Avu Awr;rw[h3]
  by_cases g1:x.Bt=0
  ·rw[g1]
   by_cases g2:x.A5=0
   ·rw[g2];rfl
   ·rw[Atk g2,Aq7 g2,cond_true,if_pos (A1i hK hL hc g2 s1 s2)];simp only[bne,Ac2,Z52];cases (gt w.fL (Aob .i64 x.A5 1)).Hh==2<;>rfl
  ·have hF:(bif (x.Bt != 0)then(if(0:Int)≤(Aob .i64 x.Bt 1)∧(Aob .i64 x.Bt 1)<(w.fL.length:Int)then(bif (((gt w.fL (Aob .i64 x.Bt 1)).Gs) != 0)then some false else some (Ar1 w x))else none)else some (Ar1 w x))=some ((x.Bt==0||(gt w.fL (Aob .i64 x.Bt 1)).Gs==0)&&Ar1 w x):=by
    rw[Atk g1,Aq7 g1,cond_true,if_pos (A1i hK hL hc g1 f1 f2)];simp only[bne,Ac2,Z52,Ai5]
   rw[hF]
   by_cases g2:x.A5=0
   ·rw[g2];rfl
   ·rw[Atk g2,Aq7 g2,cond_true,if_pos (A1i hK hL hc g2 s1 s2)];simp only[bne,Ac2,Z52,Ai5]
 rw[Arz hK x.Ae (by omega) (fun k=>gt w.fP.Hh k==2) (some (A1h w x&&(Avu w x&&(Awr w x&&Ar1 w x)))) (fun n i=>Aov K n i x.A5 x.Bt x.Dg x.Ae x.Gu w.fC.Ae w.fC.Eg w.fC.C0 w.fC.E9 w.fC.C1 w.fC.Eh w.fP.Fy w.fP.Hh w.fP.Fz w.fL w.fQ w.Pr) (fun n i h=> ?_) (fun n=> ?_)]
 ·rw[Ai5];rfl
 ·simp only[Aov]
  have h5:=hch _ (Apk h);rw[Ae9 h,cond_true,if_pos (Ajc h),if_pos ⟨h5.1,by omega⟩,Ahd (by omega),bne,Ac2,Aej h]
 ·show Aov K (n+1) _ _ _ _ _ _ _ _ _ _ _ _ _ _ _ _ _ _=_;rw[Aov,Afe (Z9 _),cond_false,h2];unfold A1h
  by_cases g:(x.Ae.length:Int)>0
  ·have h5:=hch _ (Ax0 (l:=x.Ae) (Int.le_refl 0) (by omega))
   obtain⟨e1,e2,e3,e4⟩:=A1a hc hm h5.1 h5.2
   have e5:Aoa .i64 (gt x.Ae 0*w.fC.Eg) x.Gu=gt x.Ae 0*w.fC.Eg+x.Gu:=by
    have:=A09 (a:=gt x.Ae 0) (b:=w.fC.Eg) (m:=12) (n:=16) h5.1 (by omega) (by omega) b2.2
    unfold Aoa;rw[Ag1 (by omega) (by omega)]
   rw[decide_eq_true g,cond_true,if_pos ⟨by omega,by omega⟩,if_pos ⟨by omega,by omega⟩,e1,e5,if_pos ⟨e3,by omega,by omega⟩,Azo hK _ (by simp;omega),show gt x.Ae 0*w.fC.Eg+x.Gu - gt x.Ae 0*w.fC.Eg=x.Gu by omega]
   simp only[Z0,Ac2,Ai5,Bool.not_true,Z52]
  ·rw[decide_eq_false g];rfl
end
def Ak3 (N:Nat)(l:List Int):List Int:=(List.range N).map (fun k:Nat=>((l.count (k:Int):Nat):Int))
theorem Azv (N:Nat)(l:List Int):(Ak3 N l).length=N:=by simp[Ak3]
theorem Ayx{N:Nat}{l:List Int}{x:Int}(h0:0≤x)(h1:x<N):gt (Ak3 N l) x=((l.count x:Nat):Int):=by
 obtain⟨k,rfl⟩: ∃k:Nat,x=k:=⟨x.toNat,by omega⟩
 rw[Aej (by rw[Azv];omega)]
 simp[Ak3]
theorem Ba2 (N:Nat):Ak3 N []=List.replicate N 0:=by
 refine List.ext_getElem (by simp[Ak3]) fun i h1 h2=> ?_
 simp[Ak3]
theorem Ba3{N:Nat}{l:List Int}{x:Int}(h0:0≤x)(h1:x<N)(hl:l.length≤140737488355327):(Ak3 N l).set x.toNat (Aoa .i64 (gt (Ak3 N l) x) 1)=Ak3 N (l++[x]):=by
 have hc:l.count x≤l.length:=List.count_le_length
 have e:Aoa .i64 (gt (Ak3 N l) x) 1=((l.count x+1:Nat):Int):=by
  rw[Ayx h0 h1,Ahd (by omega)]
 rw[e];refine List.ext_getElem (by simp[Ak3]) fun i h2 h3=> ?_
 rw[List.getElem_set];simp only[Ak3,List.getElem_map,List.getElem_range,List.count_append,List.count_singleton]
 by_cases hi:x.toNat=i
 ·rw[if_pos hi]
  have:x=(i:Int):=by omega
  simp[this]
 ·rw[if_neg hi]
  have: ¬x=(i:Int):=by omega
  simp[this]
theorem A6c{C P:List Int}(hs: ∀x∈C,x∈P)(hP:P.Nodup):(∀x∈P,C.count x=1) ↔ (C.Nodup∧C.length=P.length):=by
 constructor
 ·intro h
  have hn:C.Nodup:=by
   rw[List.nodup_iff_count];intro a
   by_cases ha:a∈C
   ·rw[h a (hs a ha)];omega
   ·rw[List.count_eq_zero_of_not_mem ha];omega
  refine⟨hn,?_⟩
  have h1:=A0q hn hs
  have h2:=A0q hP (l:=C) (fun x hx=>List.count_pos_iff.1 (by rw[h x hx];omega))
  omega
 ·rintro⟨hn,hl⟩ x hx
  have hp:=A2t hn hs hl
  have:=hn.count (a:=x);rw[this,if_pos (hp.mem_iff.2 hx)]
def chL (q:List Ax):List Int:=q.flatMap (fun x=>x.Ae)
def slL (q:List Ax):List Int:=q.flatMap (fun x=>if x.A5=0 then []else [Aob .i64 x.A5 1])
def kdL (l:List Ba)(q:List Ax):List Int:=q.flatMap (fun x=>Al7 l x.Bt)
theorem Axb{α β:Type}(q:List α)(f:α->List β)(i:Nat)(h:i<q.length):(q.take (i+1)).flatMap f=(q.take i).flatMap f++f q[i]:=by
 rw[←List.take_append_getElem h,List.flatMap_append];simp
theorem A1j{α β:Type}(q:List α)(f:α->List β)(m:Nat)(h: ∀x∈q,(f x).length≤m):(q.flatMap f).length≤q.length*m:=by
 induction q with
 |nil=>simp
 |cons x q ih=>
  have h1:=h x (by simp)
  have h2:=ih fun y hy=>h y (by simp[hy])
  simp only[List.flatMap_cons,Ln,Y9,Hw,Nat.one_mul];omega
def A2x (w:Eb):List Int:=((List.range w.fP.Hh.length).filter (fun k:Nat=>gt w.fP.Hh k==2)).map (fun k:Nat=>(k:Int))
def A0d (w:Eb):List Int:=((List.range w.fL.length).filter (fun k:Nat=>(gt w.fL k).Hh==2)).map (fun k:Nat=>(k:Int))
def A6d (w:Eb):List Int:=((List.range w.fL.length).filter (fun k:Nat=>Awq w.fL k)).map (fun k:Nat=>(k:Int))
theorem A0r (N:Nat)(p:Nat->Bool):(((List.range N).filter p).map (fun k:Nat=>(k:Int))).Nodup:=by
 unfold List.Nodup;rw[List.pairwise_map];exact(List.Pairwise.filter _ List.pairwise_lt_range).imp fun h=>by omega
theorem Avv{N:Nat}{p:Nat->Bool}{x:Int}:x∈((List.range N).filter p).map (fun k:Nat=>(k:Int)) ↔ (0≤x∧x<(N:Int))∧p x.toNat=true:=by
 simp only[Eo,List.mem_filter,List.mem_range];constructor
 ·rintro⟨k,⟨h1,h2⟩,rfl⟩;exact⟨⟨by omega,by omega⟩,by simpa using h2⟩
 ·rintro⟨⟨h1,h2⟩,h3⟩;exact⟨x.toNat,⟨by omega,h3⟩,by omega⟩
def Awh (w:Eb)(N:Nat):Bool:=
 (List.range w.fP.Hh.length).all (fun k=> !(gt w.fP.Hh k==2)||gt (Ak3 N (chL w.fQ)) k==1)&&
 (List.range w.fL.length).all (fun k=>(!((gt w.fL k).Hh==2)||gt (Ak3 w.fL.length (slL w.fQ)) k==1)&&(!Awq w.fL k||gt (Ak3 w.fL.length (kdL w.fL w.fQ)) k==1))
def A0s (q:List Ax)(i k:Nat):Bool:= !((gt q i).A5 != 0&&(gt q k).A5==(gt q i).A5)&&(gt q i).Ae.all (fun y=> !(gt q k).Ae.contains y)
def A9p (q:List Ax):Bool:=(List.range q.length).all (fun i=>(List.range i).all (fun k=>A0s q i k))
def A2o (l:List Int):Bool:=(List.range l.length).all (fun i=> !(l.take i).contains (gt l i))
def A24 (w:Eb):Bool:=
 A9p w.fQ&&(A2o (kdL w.fL w.fQ)&&((((chL w.fQ).length:Int)==((A2x w).length:Int))&&((((slL w.fQ).length:Int)==((A0d w).length:Int))&&(((kdL w.fL w.fQ).length:Int)==((A6d w).length:Int)))))
theorem Bcc (l:List Int):A2o l=true ↔ l.Nodup:=by
 rw[A58];unfold A2o;simp only[Z1,List.mem_range,Zh,List.contains_eq_mem,decide_eq_false_iff_not];exact⟨fun h i hi=>by have:=h i hi;rwa[Aej hi]at this,fun h i hi=>by rw[Aej hi];exact h i hi⟩
theorem Ba4{w:Eb}{q:List Ax}(h1: ∀x∈q,x.Ae.Nodup)(h2: ∀x∈q,0≤x.A5∧x.A5≤8):A9p q=true ↔ (chL q).Nodup∧(slL q).Nodup:=by
 unfold chL slL List.Nodup;rw[List.pairwise_flatMap,List.pairwise_flatMap,List.pairwise_iff_getElem,List.pairwise_iff_getElem]
 have hs: ∀x∈q,List.Pairwise (fun a b:Int=>a≠b) (if x.A5=0 then []else [Aob .i64 x.A5 1]):=by
  intro x _;split<;>simp
 have hsub: ∀x∈q,Aob .i64 x.A5 1=x.A5 - 1:=by
  intro x hx;have:=h2 x hx;unfold Aob;rw[Ag1 (by omega) (by omega)]
 unfold A9p A0s;simp only[Z1,List.mem_range,Z4,Zh,List.contains_eq_mem,decide_eq_false_iff_not];constructor
 ·intro h;refine⟨⟨h1,fun i j hi hj hij x hx y hy e=> ?_⟩,hs,fun i j hi hj hij x hx y hy e=> ?_⟩
  ·have:=(h j hj i hij).2;rw[Aej hi,Aej hj]at this;subst e;exact this x hy hx
  ·have:=(h j hj i hij).1;rw[Aej hi,Aej hj]at this;split at hx
   ·cases hx
   ·split at hy
    ·cases hy
    ·rename_i g1 g2;simp only[Qo]at hx hy;subst hx;subst hy;rw[hsub _ (List.getElem_mem hi),hsub _ (List.getElem_mem hj)]at e;rw[Atk g2,Z30,beq_eq_false_iff_ne]at this;exact this (by omega)
 ·rintro⟨⟨_,h3⟩,_,h4⟩ i hi k hk
  have hk':k<q.length:=by omega
  rw[Aej hi,Aej hk'];refine⟨?_,fun x hx hy=>h3 k i hk' hi hk x hy x hx rfl⟩;rw[Bool.and_eq_false_iff]
  by_cases g:q[i].A5=0
  ·left;simp[g]
  ·right;rw[beq_eq_false_iff_ne];intro e;refine h4 k i hk' hi hk (Aob .i64 q[k].A5 1) ?_ (Aob .i64 q[i].A5 1) ?_ (by rw[e])
   ·rw[if_neg (by rw[e];exact g)];simp
   ·rw[if_neg g];simp
theorem Bv1{w:Eb}(hp:Aut w.fC w.fP=true)(hL:(w.fL.length:Int)=w.fC.C0)(hq: ∀x∈w.fQ,Anv w x=true):Awh w w.fC.Ae.toNat=A24 w:=by
 obtain⟨hc,hm,hst,_⟩:=Avz hp;obtain⟨b1,b2,b3,_⟩:=Aen hc
 have hone: ∀x∈w.fQ,(0≤x.A5∧x.A5≤w.fC.C0)∧Avq w.fC x.Ae=true∧Az0 w x=true∧Avu w x=true∧Ar1 w x=true:=by
  intro x hx
  have:=hq x hx;unfold Anv at this;simp only[Z4]at this;obtain⟨h1,h2,h3,h4,h5,h6⟩:=this;obtain⟨_,g1,_,g3,_⟩:=Avt h1;exact⟨g1,g3,h2,h4,h6⟩
 have hC: ∀x∈chL w.fQ,x∈A2x w:=by
  intro y hy;unfold chL at hy;rw[List.mem_flatMap]at hy;obtain⟨x,hx,hy⟩:=hy;obtain⟨_,g2,g3,_⟩:=hone x hx
  have:=A23 g2 y hy;unfold Az0 at g3;rw[Z1]at g3
  have g4:=g3 y hy;refine Avv.2 ⟨⟨this.1,by omega⟩,?_⟩
  rw[show((y.toNat:Nat):Int)=y by omega];exact g4
 have hS: ∀x∈slL w.fQ,x∈A0d w:=by
  intro y hy;unfold slL at hy;rw[List.mem_flatMap]at hy;obtain⟨x,hx,hy⟩:=hy;obtain⟨g1,g2,g3,g4,_⟩:=hone x hx;split at hy
  ·cases hy
  ·rename_i g;simp only[Qo]at hy;unfold Avu at g4;rw[Aq7 g,Z52,←hy]at g4
   have:y=x.A5 - 1:=by rw[hy];unfold Aob;rw[Ag1 (by omega) (by omega)]
   refine Avv.2 ⟨⟨by omega,by omega⟩,?_⟩
   rw[show((y.toNat:Nat):Int)=y by omega];exact g4
 have hK2: ∀x∈kdL w.fL w.fQ,x∈A6d w:=by
  intro y hy;unfold kdL at hy;rw[List.mem_flatMap]at hy;obtain⟨x,hx,hy⟩:=hy;obtain⟨g1,g2,g3,g4,g5⟩:=hone x hx;unfold Ar1 at g5;rw[Z1]at g5
  have:=A6b _ _ y hy;refine Avv.2 ⟨this,?_⟩;rw[show((y.toNat:Nat):Int)=y by omega];exact g5 y hy
 have e1:=A6c hC (A0r _ _)
 have e2:=A6c hS (A0r _ _)
 have e3:=A6c hK2 (A0r _ _)
 have hp2:=Ba4 (w:=w) (q:=w.fQ) (fun x hx=>A59 (hone x hx).2.1) (fun x hx=>by have:=(hone x hx).1;omega)
 rw[Bool.eq_iff_iff];unfold Awh A24;simp only[Z4,Z1,List.mem_range,Bool.or_eq_true,Zh,beq_iff_eq,Bcc,hp2,beq_eq_false_iff_ne]
 have c1:(∀x∈A2x w,(chL w.fQ).count x=1) ↔ ∀k,k<w.fP.Hh.length->gt w.fP.Hh (k:Int)≠2∨gt (Ak3 w.fC.Ae.toNat (chL w.fQ)) (k:Int)=1:=by
  constructor
  ·intro h k hk
   by_cases g:gt w.fP.Hh (k:Int)=2
   ·right;rw[Ayx (by omega) (by omega),h k (Avv.2 ⟨⟨by omega,by omega⟩,by simpa using g⟩)];rfl
   ·left;exact g
  ·intro h x hx;obtain⟨⟨h1,h2⟩,h3⟩:=Avv.1 hx;rw[beq_iff_eq,show((x.toNat:Nat):Int)=x by omega]at h3
   rcases h x.toNat (by omega)with h4|h4
   ·rw[show((x.toNat:Nat):Int)=x by omega]at h4;exact absurd h3 h4
   ·rw[show((x.toNat:Nat):Int)=x by omega,Ayx h1 (by omega)]at h4;omega
 have c2:(∀x∈A0d w,(slL w.fQ).count x=1) ↔ ∀k,k<w.fL.length->(gt w.fL (k:Int)).Hh≠2∨gt (Ak3 w.fL.length (slL w.fQ)) (k:Int)=1:=by
  constructor
  ·intro h k hk
   by_cases g:(gt w.fL (k:Int)).Hh=2
   ·right;rw[Ayx (by omega) (by omega),h k (Avv.2 ⟨⟨by omega,by omega⟩,by simpa using g⟩)];rfl
   ·left;exact g
  ·intro h x hx;obtain⟨⟨h1,h2⟩,h3⟩:=Avv.1 hx;rw[beq_iff_eq,show((x.toNat:Nat):Int)=x by omega]at h3
   rcases h x.toNat (by omega)with h4|h4
   ·rw[show((x.toNat:Nat):Int)=x by omega]at h4;exact absurd h3 h4
   ·rw[show((x.toNat:Nat):Int)=x by omega,Ayx h1 (by omega)]at h4;omega
 have c3:(∀x∈A6d w,(kdL w.fL w.fQ).count x=1) ↔ ∀k,k<w.fL.length->Awq w.fL (k:Int)=false∨gt (Ak3 w.fL.length (kdL w.fL w.fQ)) (k:Int)=1:=by
  constructor
  ·intro h k hk;cases g:Awq w.fL (k:Int)with
   |true=>
    right;rw[Ayx (by omega) (by omega),h k (Avv.2 ⟨⟨by omega,by omega⟩,by simpa using g⟩)];rfl
   |false=>left;rfl
  ·intro h x hx;obtain⟨⟨h1,h2⟩,h3⟩:=Avv.1 hx;rw[show((x.toNat:Nat):Int)=x by omega]at h3
   rcases h x.toNat (by omega)with h4|h4
   ·rw[show((x.toNat:Nat):Int)=x by omega,h3]at h4;cases h4
   ·rw[show((x.toNat:Nat):Int)=x by omega,Ayx h1 (by omega)]at h4;omega
 rw[←c1,e1]
 have hsplit:(∀k,k<w.fL.length->((gt w.fL (k:Int)).Hh≠2∨gt (Ak3 w.fL.length (slL w.fQ)) (k:Int)=1)∧(Awq w.fL (k:Int)=false∨gt (Ak3 w.fL.length (kdL w.fL w.fQ)) (k:Int)=1)) ↔ (((slL w.fQ).Nodup∧(slL w.fQ).length=(A0d w).length)∧((kdL w.fL w.fQ).Nodup∧(kdL w.fL w.fQ).length=(A6d w).length)):=by
  rw[←show _ ↔ ((slL w.fQ).Nodup∧(slL w.fQ).length=(A0d w).length) from c2.symm.trans e2,←show _ ↔ ((kdL w.fL w.fQ).Nodup∧(kdL w.fL w.fQ).length=(A6d w).length) from c3.symm.trans e3]
  exact⟨fun h=>⟨fun k hk=>(h k hk).1,fun k hk=>(h k hk).2⟩,fun h k hk=>⟨h.1 k hk,h.2 k hk⟩⟩
 rw[hsplit];constructor
 ·rintro⟨⟨a1,a2⟩,⟨a3,a4⟩,a5,a6⟩;exact⟨⟨a1,a3⟩,a5,by omega,by omega,by omega⟩
 ·rintro⟨⟨a1,a3⟩,a5,a2,a4,a6⟩;exact⟨⟨a1,by omega⟩,⟨a3,by omega⟩,a5,by omega⟩
theorem A25{α β:Type}{K:Nat}(hK:281474976710656≤K)(l:List α)(hl:l.length≤140737488355328)(q:α->Bool)(fin bad:Option β)(L:Nat->Nat->Option β)
  (hs: ∀n (i:Nat) (h:i<l.length),L (n+1) i=bif q l[i]then L n (i+1)else bad)
  (he: ∀n,L (n+1) l.length=fin):L K 0=bif l.all q then fin else bad:=by
 have:=Bdf l q fin bad (fun n i=>L n i.toNat) (fun n i h=>by simpa using hs n i h) (fun n=>by simpa using he n) K 0 (Z21 _) (by omega)
 simpa using this
section
variable {K:Nat} (hK:281474976710656≤K)
include hK
theorem Be0 (w:Eb)(hw:Aru w):Aei K (Ak3 w.fL.length (slL w.fQ)) (Ak3 w.fL.length (kdL w.fL w.fQ)) w.fL K (w.fL.length:Int) 0 w.fL=some ((List.range w.fL.length).all (fun k=>(!((gt w.fL (k:Int)).Hh==2)||gt (Ak3 w.fL.length (slL w.fQ)) k==1)&&(!Awq w.fL k||gt (Ak3 w.fL.length (kdL w.fL w.fQ)) k==1))):=by
 have hl:=Aem hw.l
 rw[Apx hK w.fL.length (by omega) (fun k=>(!((gt w.fL (k:Int)).Hh==2)||gt (Ak3 w.fL.length (slL w.fQ)) k==1)&&(!Awq w.fL k||gt (Ak3 w.fL.length (kdL w.fL w.fQ)) k==1)) (some true) (fun n i=>Aei K (Ak3 w.fL.length (slL w.fQ)) (Ak3 w.fL.length (kdL w.fL w.fQ)) w.fL n (w.fL.length:Int) i w.fL) (fun n i h=> ?_) (fun n=> ?_)]
 ·cases (List.range w.fL.length).all _<;>rfl
 ·simp only[Aei,Ak4];rw[Ae9 h,cond_true,if_pos (Ajc h),A2v K hw.l (Ajc h),Ahd (by omega)]
  simp only[Z0,Azv,if_pos (Ajc h),bne,Ac2];cases (gt w.fL (i:Int)).Hh==2<;>cases gt (Ak3 w.fL.length (slL w.fQ)) (i:Int)==1<;>cases Awq w.fL i<;>cases gt (Ak3 w.fL.length (kdL w.fL w.fQ)) (i:Int)==1<;>rfl
 ·show Aei K _ _ _ (n+1) _ _ _=_;rw[Aei,Afe (Z9 _),cond_false]
theorem Be1 (w:Eb)(hw:Aru w)(hp:Aut w.fC w.fP=true):Ag2 K (Ak3 w.fC.Ae.toNat (chL w.fQ)) (Ak3 w.fL.length (slL w.fQ)) (Ak3 w.fL.length (kdL w.fL w.fQ)) w.fP.Hh w.fL K (w.fP.Hh.length:Int) 0 w.fP.Hh=some (Awh w w.fC.Ae.toNat):=by
 obtain⟨hc,hm,hst,_⟩:=Avz hp;obtain⟨b1,_⟩:=Aen hc
 rw[Apx hK w.fP.Hh.length (by omega) (fun k=> !(gt w.fP.Hh k==2)||gt (Ak3 w.fC.Ae.toNat (chL w.fQ)) k==1) (some ((List.range w.fL.length).all (fun k=>(!((gt w.fL (k:Int)).Hh==2)||gt (Ak3 w.fL.length (slL w.fQ)) k==1)&&(!Awq w.fL k||gt (Ak3 w.fL.length (kdL w.fL w.fQ)) k==1)))) (fun n i=>Ag2 K (Ak3 w.fC.Ae.toNat (chL w.fQ)) (Ak3 w.fL.length (slL w.fQ)) (Ak3 w.fL.length (kdL w.fL w.fQ)) w.fP.Hh w.fL n (w.fP.Hh.length:Int) i w.fP.Hh) (fun n i h=> ?_) (fun n=> ?_)]
 ·rw[Ai5];rfl
 ·simp only[Ag2,Ap7];rw[Ae9 h,cond_true,if_pos (Ajc h),Ahd (by omega)]
  simp only[Azv,if_pos (show(0:Int)≤(i:Int)∧(i:Int)<((w.fC.Ae.toNat:Nat):Int) from⟨by omega,by omega⟩),bne,Ac2]
  cases gt w.fP.Hh (i:Int)==2<;>cases gt (Ak3 w.fC.Ae.toNat (chL w.fQ)) (i:Int)==1<;>rfl
 ·show Ag2 K _ _ _ _ _ (n+1) _ _ _=_;rw[Ag2,Afe (Z9 _),cond_false,Be0 hK w hw]
theorem Ba5{β:Type}(N:Nat)(base l:List Int)(hin: ∀x∈l,0≤x∧x<(N:Int))(hl:base.length+l.length≤140737488355327)(q:Int->Bool)(fin bad:Option β)(L:Nat->List Int->Int->Option β)
  (hs: ∀n v (i:Nat) (h:i<l.length),v.length=N->L (n+1) v (i:Int)=bif q l[i]then L n (v.set (l[i]).toNat (Aoa .i64 (gt v l[i]) 1)) ((i+1:Nat):Int)else bad)
  (he: ∀n,L (n+1) (Ak3 N (base++l)) (l.length:Int)=fin):L K (Ak3 N base) 0=bif l.all q then fin else bad:=by
 have:=A25 hK l (by omega) q fin bad (fun n i=>L n (Ak3 N (base++l.take i)) (i:Int)) (fun n i h=> ?_) (fun n=> ?_)
 ·simpa using this
 ·have hb:(base++l.take i).length≤140737488355327:=by simp;omega
  have h1:=hin _ (List.getElem_mem h);rw[hs n _ i h (Azv _ _),Ba3 h1.1 h1.2 hb,Lo,List.take_append_getElem]
 ·simp only[List.take_length];exact he n
theorem Bcd (w:Eb)(hw:Aru w)(hp:Aut w.fC w.fP=true)(hL:(w.fL.length:Int)=w.fC.C0)(x:Ax)(hx:Azr x)(c s d:List Int)(i:Nat)(n:Nat)(hi:i<w.fQ.length)(he:gt w.fQ i=x)
  (hb1:c.length+12≤140737488355327) (hb2:s.length≤140737488355326) (hb3:d.length+8≤140737488355327):
  Aa1 K (n+1) (Ak3 w.fC.Ae.toNat c) (Ak3 w.fL.length s) (Ak3 w.fL.length d) w.fQ (w.fQ.length:Int) i w.fC.Ae w.fC.Eg w.fC.C0 w.fC.E9 w.fC.C1 w.fC.Eh w.fP.Fy w.fP.Hh w.fP.Fz w.fL w.fQ w.Pr
   =bif Anv w x then Aa1 K n (Ak3 w.fC.Ae.toNat (c++x.Ae)) (Ak3 w.fL.length (s++if x.A5=0 then []else [Aob .i64 x.A5 1])) (Ak3 w.fL.length (d++Al7 w.fL x.Bt)) w.fQ (w.fQ.length:Int) ((i+1:Nat):Int) w.fC.Ae w.fC.Eg w.fC.C0 w.fC.E9 w.fC.C1 w.fC.Eh w.fP.Fy w.fP.Hh w.fP.Fz w.fL w.fQ w.Pr else some false:=by
 have hq:=hw.q.2;rw[Aa1];rw[show Er.mk w.fC.Ae w.fC.Eg w.fC.C0 w.fC.E9 w.fC.C1 w.fC.Eh=w.fC from rfl,show Dw.mk w.fP.Fy w.fP.Hh w.fP.Fz=w.fP from rfl]
 rw[Ae9 hi,cond_true,if_pos (Ajc hi),he,A61 hK _ _ hx,Z0];unfold Anv;cases hr:As2 w.fC x with
 |false=>rfl
 |true=>
 rw[cond_true,Z30];obtain⟨hc,⟨s1,s2⟩,⟨f1,f2⟩,hd,d1,d2⟩:=Avt hr;obtain⟨_,hm,hst,_⟩:=Avz hp;obtain⟨b1,b2,b3,_⟩:=Aen hc
 have hch:=A23 hd
 have hcl:=A6a hc hd
 have h5: ∀s',Apa K (Ak3 w.fL.length d) w.fQ (w.fQ.length:Int) i w.fC.Ae w.fC.Eg w.fC.C0 w.fC.E9 w.fC.C1 w.fC.Eh w.fP.Fy w.fP.Hh w.fP.Fz w.fL w.fQ w.Pr x.Bt (Ak3 w.fC.Ae.toNat (c++x.Ae)) s' (Aa1 K n)
   =bif Ar1 w x then Aa1 K n (Ak3 w.fC.Ae.toNat (c++x.Ae)) s' (Ak3 w.fL.length (d++Al7 w.fL x.Bt)) w.fQ (w.fQ.length:Int) ((i+1:Nat):Int) w.fC.Ae w.fC.Eg w.fC.C0 w.fC.E9 w.fC.C1 w.fC.Eh w.fP.Fy w.fP.Hh w.fP.Fz w.fL w.fQ w.Pr else some false:=by
  intro s'
  have hk:=Azz (l:=w.fL) w.fL.length (Aob .i64 x.Bt 1)
  have hin:=A6b (l:=w.fL) w.fL.length (Aob .i64 x.Bt 1);unfold Apa Ar1;rw[Ba1 hK hw.l,Z0];change (Al7 w.fL x.Bt).length≤_ at hk;change ∀y∈Al7 w.fL x.Bt,_ at hin;generalize Al7 w.fL x.Bt=r at*
  refine Ba5 hK w.fL.length d r hin (by omega) (Awq w.fL) _ _ (fun m v j=>Ai0 K w.fQ (w.fQ.length:Int) i w.fC.Ae w.fC.Eg w.fC.C0 w.fC.E9 w.fC.C1 w.fC.Eh w.fP.Fy w.fP.Hh w.fP.Fz w.fL w.fQ w.Pr (Ak3 w.fC.Ae.toNat (c++x.Ae)) s' r (Aa1 K n) m v (r.length:Int) j) (fun m v j hj hv=> ?_) (fun m=> ?_)
  ·have hr1:=hin _ (Apk hj);simp only[Ai0];rw[Ae9 hj,cond_true,if_pos (Ajc hj),if_pos (by rw[hv];exact hr1),if_pos (by rw[hv];exact hr1),A2v K hw.l hr1,Ahd (by omega),Z0,Ac2,Aej hj]
  ·show Ai0 K _ _ _ _ _ _ _ _ _ _ _ _ _ _ _ _ _ _ _ (m+1) _ _ _=_;rw[Ai0,Afe (Z9 _),cond_false,Ahd (by omega)]
 have h4: ∀s',Apb K (Ak3 w.fL.length d) w.fQ (w.fQ.length:Int) i w.fC.Ae w.fC.Eg w.fC.C0 w.fC.E9 w.fC.C1 w.fC.Eh w.fP.Fy w.fP.Hh w.fP.Fz w.fL w.fQ w.Pr x.Bt (Ak3 w.fC.Ae.toNat (c++x.Ae)) (Aa1 K n) s'
   =bif Awr w x&&Ar1 w x then Aa1 K n (Ak3 w.fC.Ae.toNat (c++x.Ae)) s' (Ak3 w.fL.length (d++Al7 w.fL x.Bt)) w.fQ (w.fQ.length:Int) ((i+1:Nat):Int) w.fC.Ae w.fC.Eg w.fC.C0 w.fC.E9 w.fC.C1 w.fC.Eh w.fP.Fy w.fP.Hh w.fP.Fz w.fL w.fQ w.Pr else some false:=by
  intro s';unfold Apb Awr;rw[h5]
  by_cases g:x.Bt=0
  ·rw[g];rfl
  ·rw[decide_eq_true (by omega),cond_true,if_pos (A1i hK hL hc g f1 f2),Aq7 g]
   simp only[bne,Ac2,Z52];cases (gt w.fL (Aob .i64 x.Bt 1)).Gs==0<;>rfl
 have h2:Apc K (Ak3 w.fC.Ae.toNat c) (Ak3 w.fL.length s) (Ak3 w.fL.length d) w.fQ (w.fQ.length:Int) i w.fC.Ae w.fC.Eg w.fC.C0 w.fC.E9 w.fC.C1 w.fC.Eh w.fP.Fy w.fP.Hh w.fP.Fz w.fL w.fQ w.Pr (Aa1 K n) x.A5 x.Bt x.Dg x.Ae x.Gu
   =bif Az0 w x&&(Avu w x&&(Awr w x&&Ar1 w x))then Aa1 K n (Ak3 w.fC.Ae.toNat (c++x.Ae)) (Ak3 w.fL.length (s++if x.A5=0 then []else [Aob .i64 x.A5 1])) (Ak3 w.fL.length (d++Al7 w.fL x.Bt)) w.fQ (w.fQ.length:Int) ((i+1:Nat):Int) w.fC.Ae w.fC.Eg w.fC.C0 w.fC.E9 w.fC.C1 w.fC.Eh w.fP.Fy w.fP.Hh w.fP.Fz w.fL w.fQ w.Pr else some false:=by
  unfold Apc;rw[Ba5 hK w.fC.Ae.toNat c x.Ae (fun y hy=>by have:=hch y hy;omega) (by omega) (fun k=>gt w.fP.Hh k==2)
   (bif Avu w x&&(Awr w x&&Ar1 w x)then Aa1 K n (Ak3 w.fC.Ae.toNat (c++x.Ae)) (Ak3 w.fL.length (s++if x.A5=0 then []else [Aob .i64 x.A5 1])) (Ak3 w.fL.length (d++Al7 w.fL x.Bt)) w.fQ (w.fQ.length:Int) ((i+1:Nat):Int) w.fC.Ae w.fC.Eg w.fC.C0 w.fC.E9 w.fC.C1 w.fC.Eh w.fP.Fy w.fP.Hh w.fP.Fz w.fL w.fQ w.Pr else some false) (some false)
   (fun m v j=>Ai1 K (Ak3 w.fL.length s) (Ak3 w.fL.length d) w.fQ (w.fQ.length:Int) i w.fC.Ae w.fC.Eg w.fC.C0 w.fC.E9 w.fC.C1 w.fC.Eh w.fP.Fy w.fP.Hh w.fP.Fz w.fL w.fQ w.Pr x.A5 x.Bt x.Ae (Aa1 K n) m v (x.Ae.length:Int) j x.Ae) (fun m v j hj hv=> ?_) (fun m=> ?_)]
  ·unfold Az0;cases x.Ae.all _<;>rfl
  ·have hr1:=hch _ (Apk hj);simp only[Ai1];rw[Ae9 hj,cond_true,if_pos (Ajc hj),if_pos (by rw[hv];omega),if_pos (by rw[hv];omega),if_pos ⟨hr1.1,by omega⟩,Ahd (by omega),bne,Ac2,Aej hj]
  ·show Ai1 K _ _ _ _ _ _ _ _ _ _ _ _ _ _ _ _ _ _ _ _ _ (m+1) _ _ _ _=_;rw[Ai1,Afe (Z9 _),cond_false,h4,h4,Azv];unfold Avu
   by_cases g:x.A5=0
   ·rw[g,if_pos rfl,List.append_nil];rfl
   ·have hlk:=A1i hK hL hc g s1 s2;rw[decide_eq_true (by omega),cond_true,if_pos hlk,if_pos hlk,if_neg g,Ba3 hlk.1 hlk.2 (by omega),Aq7 g]
    simp only[bne,Ac2,Z52,if_pos hlk];cases (gt w.fL (Aob .i64 x.A5 1)).Hh==2<;>rfl
 rw[h2];unfold A1h
 by_cases g:(x.Ae.length:Int)>0
 ·have h5:=hch _ (Ax0 (l:=x.Ae) (Int.le_refl 0) (by omega))
  obtain⟨e1,e2,e3,e4⟩:=A1a hc hm h5.1 h5.2
  have hlc:(Avp w.fC w.fP.Fy (gt x.Ae 0)).length=w.fC.Eg.toNat:=by unfold Avp;simp;omega
  have htk:List.take (x.Gu - 0).toNat (List.drop (0:Int).toNat (Avp w.fC w.fP.Fy (gt x.Ae 0)))=List.take x.Gu.toNat (List.drop (gt x.Ae 0*w.fC.Eg).toNat w.fP.Fy):=by
   unfold Avp;simp only[Int.sub_zero,Int.toNat_zero,Z55,List.take_take];rw[Nat.min_eq_left (by omega)]
  rw[decide_eq_true g,cond_true,if_pos ⟨by omega,by omega⟩,A5w hK hc hm h5.1 h5.2,Z0,if_pos ⟨by omega,by omega,by rw[hlc];omega⟩,htk,Azp hK _ (by simp;omega)]
  simp only[Z0,Ac2,Bool.not_true,Z52];cases Ayh (List.take x.Gu.toNat (List.drop (gt x.Ae 0*w.fC.Eg).toNat w.fP.Fy))<;>cases Az0 w x<;>rfl
 ·rw[decide_eq_false g];simp only[cond_false,Bool.not_false,Bool.true_or,Z30]
theorem Bdl (q:List Ax):(slL q).length≤q.length:=by
 have:=A1j q (fun x=>if x.A5=0 then []else [Aob .i64 x.A5 1]) 1 (fun x _=>by split<;>simp)
 simpa[slL]using this
theorem A9q (l:List Ba)(hl:l.length≤8)(q:List Ax):(kdL l q).length≤q.length*8:=
 A1j _ _ 8 fun x _=>To (Azz _ _) hl
end
theorem Bce{β:Type}(N:Nat)(hN:N≤140737488355327)(q:Nat->Bool)(fin:Int->Option β)(L:Nat->Int->Int->Option β)
  (hs: ∀n (v:Int) (i:Nat),i<N->0≤v->v≤i->L (n+1) v (i:Int)=bif q i then L n (v+1) ((i+1:Nat):Int)else L n v ((i+1:Nat):Int))
  (he: ∀n v,L (n+1) v (N:Int)=fin v):
  ∀(n i:Nat) (v:Int),0≤v->v≤i->i≤N->N - i<n->L n v (i:Int)=fin (v+((((List.range N).drop i).filter q).length:Int)):=by
 intro n
 induction n with
 |zero=>intro i v _ _ _ h;omega
 |succ n ih=>
  intro i v h0 hv hi hn;rcases F9 i N with h|h
  ·rw[hs n v i h h0 hv,Z47 (by simpa using h),List.getElem_range,List.filter_cons]
   cases hq:q i with
   |true=>
    rw[cond_true,ih (i+1) _ (by omega) (by omega) (by omega) (by omega)]
    simp only[if_true,Y9]
    congr 1
    omega
   |false=>
    rw[cond_false,ih (i+1) _ (by omega) (by omega) (by omega) (by omega)]
    simp
  ·obtain rfl:i=N:=by omega
   rw[he,Z48 (by simp)];simp
theorem A9r{v:Int}(h0:0≤v)(h:v≤140737488355328):Aoa .i64 v 1=v+1:=by unfold Aoa;rw[Ag1 (by omega) (by omega)]
section
variable {K:Nat} (hK:281474976710656≤K)
include hK
theorem A9s (w:Eb)(hw:Aru w)(hp:Aut w.fC w.fP=true)(hL:(w.fL.length:Int)=w.fC.C0):Aq1 K w=some (w.fQ.all (Anv w)&&Awh w w.fC.Ae.toNat):=by
 obtain⟨hc,hm,hst,_⟩:=Avz hp;obtain⟨b1,b2,b3,_⟩:=Aen hc
 have hq:=hw.q.2
 have key: ∀(n i:Nat),(∀x∈w.fQ.take i,Anv w x=true)->i≤w.fQ.length->w.fQ.length - i<n→
   Aa1 K n (Ak3 w.fC.Ae.toNat (chL (w.fQ.take i))) (Ak3 w.fL.length (slL (w.fQ.take i))) (Ak3 w.fL.length (kdL w.fL (w.fQ.take i))) w.fQ (w.fQ.length:Int) i w.fC.Ae w.fC.Eg w.fC.C0 w.fC.E9 w.fC.C1 w.fC.Eh w.fP.Fy w.fP.Hh w.fP.Fz w.fL w.fQ w.Pr=some ((w.fQ.drop i).all (Anv w)&&Awh w w.fC.Ae.toNat):=by
  intro n
  induction n with
  |zero=>intro i _ _ h;omega
  |succ n ih=>
   intro i hpre hi hn;rcases F9 i w.fQ.length with h|h
   ·have hb1:(chL (w.fQ.take i)).length≤(w.fQ.take i).length*12:=A1j _ _ 12 fun x hx=>by
     have:=hpre x hx;unfold Anv at this;simp only[Z4]at this;obtain⟨hc,_,_,hd,_⟩:=Avt this.1;exact A6a hc hd
    have hb2:=Bdl hK (w.fQ.take i)
    have hb3:=A9q hK w.fL (by omega) (w.fQ.take i)
    rw[List.length_take]at hb1 hb2 hb3;rw[Bcd hK w hw hp hL w.fQ[i] (hw.q.1 _ (List.getElem_mem h)) _ _ _ i n h (Aej h) (by omega) (by omega) (by omega),Z47 h,F3]
    cases hx:Anv w w.fQ[i]with
    |false=>rfl
    |true=>
     rw[cond_true,Z30,←ih (i+1) (fun x hx2=>by
      rw[←List.take_append_getElem h,Gy]at hx2;rcases hx2 with hx2|hx2
      ·exact hpre x hx2
      ·simp only[Qo]at hx2;rw[hx2];exact hx) h (by omega)]
     unfold chL slL kdL;rw[Axb _ _ _ h,Axb _ _ _ h,Axb _ _ _ h]
   ·obtain rfl:i=w.fQ.length:=by omega
    rw[Aa1,Afe (Z9 _),cond_false,List.take_length,Be1 hK w hw hp,List.drop_length];rfl
 unfold Aq1;rw[if_pos ⟨by omega,by omega,by omega,by omega⟩,if_pos ⟨by omega,by omega,by omega,by omega⟩,if_pos ⟨by omega,by omega,by omega,by omega⟩]
 have:=key K 0 (fun x hx=>by simp at hx) (Z21 _) (by omega)
 rw[List.take_zero,Z55,show chL []=[] from rfl,show slL []=[] from rfl,show kdL w.fL []=[] from rfl,Ba2,Ba2]at this
 rw[←this,show w.fL.length=w.fC.C0.toNat by omega]
 rfl
theorem A9t (p:Dw)(st:Int)(hl:p.Hh.length≤140737488355327):Au0 K p st=some ((((List.range p.Hh.length).filter (fun k:Nat=>gt p.Hh k==st)).length:Nat):Int):=by
 unfold Au0
 have:=Bce p.Hh.length hl (fun k:Nat=>gt p.Hh k==st) some (fun n v i=>Ann K st n v i p.Fy p.Hh p.Fz) (fun n v i hi h0 hv=> ?_) (fun n v=> ?_) K 0 0 (Int.le_refl _) (Int.le_refl _) (Z21 _) (by omega)
 ·simpa using this
 ·simp only[Ann,As6];rw[Ae9 hi,cond_true,if_pos (Ajc hi),Ahd (by omega),A9r h0 (by omega)]
 ·show Ann K st (n+1) v _ _ _ _=_;rw[Ann,Afe (Z9 _),cond_false]
theorem A2z (l:List Ba)(st:Int)(hl:l.length≤140737488355327):Ase K l st=some ((((List.range l.length).filter (fun k:Nat=>(gt l k).Hh==st)).length:Nat):Int):=by
 unfold Ase
 have:=Bce l.length hl (fun k:Nat=>(gt l k).Hh==st) some (fun n v i=>Ai8 K l st n v i) (fun n v i hi h0 hv=> ?_) (fun n v=> ?_) K 0 0 (Int.le_refl _) (Int.le_refl _) (Z21 _) (by omega)
 ·simpa using this
 ·simp only[Ai8,Aq9];rw[Ae9 hi,cond_true,if_pos (Ajc hi),Ahd (by omega),A9r h0 (by omega)]
 ·show Ai8 K l st (n+1) v _=_;rw[Ai8,Afe (Z9 _),cond_false]
theorem Bcf (w:Eb)(hw:Aru w)(v1 v2:Int)(v3:List Int)(h3:v3.length≤140737488355327):
  Ahs K v1 v2 v3 w.fP.Fy w.fP.Hh w.fP.Fz w.fL K 0 0=some (A2o v3&&((v1==((A2x w).length:Int))&&((v2==((A0d w).length:Int))&&((v3.length:Int)==((A6d w).length:Int))))):=by
 have hl:=Aem hw.l
 have hs:=A2j hK hw.p.st
 have h8: ∀v24,Ak7 K v1 v2 v3 w.fP.Fy w.fP.Hh w.fP.Fz w.fL v24 K 0=some (A2o v3&&((v1==((A2x w).length:Int))&&((v2==((A0d w).length:Int))&&((v3.length:Int)==v24)))):=by
  intro v24;rw[Apx hK v3.length (by omega) (fun i=> !(v3.take i).contains (gt v3 i)) (some ((v1==((A2x w).length:Int))&&((v2==((A0d w).length:Int))&&((v3.length:Int)==v24)))) (fun n i=>Ak7 K v1 v2 v3 w.fP.Fy w.fP.Hh w.fP.Fz w.fL v24 n i) (fun n i h=> ?_) (fun n=> ?_)]
  ·rw[Ai5];rfl
  ·have hp:(v3.take i).length≤140737488355328:=by simp;omega
   simp only[Ak7];rw[Ae9 h,cond_true,if_pos (Bao (by omega)),if_pos (Ajc h),A5y,Axh hK _ _ hp,Ahd (by omega),Z0,Ac2]
  ·show Ak7 K v1 v2 v3 _ _ _ _ v24 (n+1) _=_;rw[Ak7,Afe (Z9 _),cond_false,A9t hK _ _ hs,A2z hK _ _ hl];simp only[Z0,Ai5];unfold A2x A0d;simp only[B8]
 have:=Bce w.fL.length hl (fun k:Nat=>Awq w.fL k) (fun v=>some (A2o v3&&((v1==((A2x w).length:Int))&&((v2==((A0d w).length:Int))&&((v3.length:Int)==v))))) (fun n v i=>Ahs K v1 v2 v3 w.fP.Fy w.fP.Hh w.fP.Fz w.fL n v i) (fun n v i hi h0 hv=> ?_) (fun n v=> ?_) K 0 0 (Int.le_refl _) (Int.le_refl _) (Z21 _) (by omega)
 ·rw[show((0:Nat):Int)=0 from rfl]at this
  rw[this];unfold A6d;simp only[B8,Z55,Int.zero_add]
 ·simp only[Ahs,Ary];rw[Ae9 hi,cond_true,A2u K hw.l (Ajc hi),Z0,Ahd (by omega),A9r h0 (by omega)]
 ·show Ahs K v1 v2 v3 _ _ _ _ (n+1) v _=_;rw[Ahs,Afe (Z9 _),cond_false,h8]
theorem Ba6 (w:Eb)(hw:Aru w)(i n:Nat)(hi:i<w.fQ.length)(v1 v2:Int)(v3:List Int)(h1:0≤v1∧v1≤70368744177664)(h2:0≤v2∧v2≤70368744177664)(h3:(v3.length+w.fL.length)*8≤140737488355327)(hcl:(gt w.fQ i).Ae.length≤12):
  Agf K (n+1) v1 v2 v3 i w.fC.Ae w.fC.Eg w.fC.C0 w.fC.E9 w.fC.C1 w.fC.Eh w.fP.Fy w.fP.Hh w.fP.Fz w.fL w.fQ w.Pr
   =bif (List.range i).all (fun k=>A0s w.fQ i k)then Agf K n (v1+((gt w.fQ i).Ae.length:Int)) (v2+((if(gt w.fQ i).A5=0 then([]:List Int)else [Aob .i64 (gt w.fQ i).A5 1]).length:Int)) (v3++Al7 w.fL (gt w.fQ i).Bt) ((i+1:Nat):Int) w.fC.Ae w.fC.Eg w.fC.C0 w.fC.E9 w.fC.C1 w.fC.Eh w.fP.Fy w.fP.Hh w.fP.Fz w.fL w.fQ w.Pr else some false:=by
 have hq:=hw.q.2
 have hm:=Ant
 have hx:=hw.q.1 _ (Apk hi)
 have hkl:=Azz (l:=w.fL) w.fL.length (Aob .i64 (gt w.fQ i).Bt 1);change (Al7 w.fL (gt w.fQ i).Bt).length≤_ at hkl
 have hJ: ∀v17 v18,Aqk K v3 i w.fC.Ae w.fC.Eg w.fC.C0 w.fC.E9 w.fC.C1 w.fC.Eh w.fP.Fy w.fP.Hh w.fP.Fz w.fL w.fQ w.Pr (Agf K n) v17 v18
   =bif (List.range i).all (fun k=>A0s w.fQ i k)then Agf K n v17 v18 (v3++Al7 w.fL (gt w.fQ i).Bt) ((i+1:Nat):Int) w.fC.Ae w.fC.Eg w.fC.C0 w.fC.E9 w.fC.C1 w.fC.Eh w.fP.Fy w.fP.Hh w.fP.Fz w.fL w.fQ w.Pr else some false:=by
  intro v17 v18;unfold Aqk
  have hlen:(v3++Al7 w.fL (gt w.fQ i).Bt).length=v3.length+(Al7 w.fL (gt w.fQ i).Bt).length:=by simp
  rw[if_pos (Ajc hi),A2w hK hw.l hx.first,Z0,if_pos ⟨by rw[hlen];omega,by rw[hlen];omega⟩]
  rw[Apx hK i (by omega) (fun k=>A0s w.fQ i k) _ (fun m k=>Ak5 K i w.fC.Ae w.fC.Eg w.fC.C0 w.fC.E9 w.fC.C1 w.fC.Eh w.fP.Fy w.fP.Hh w.fP.Fz w.fL w.fQ w.Pr v17 v18 (Agf K n) m (v3++Al7 w.fL (gt w.fQ i).Bt) k) (fun m k hk=> ?_) (fun m=> ?_)]
  ·have hk2:k<w.fQ.length:=by omega
   have hlk:=A2j hK (hw.q.1 _ (Apk hk2)).chunks
   have h4: ∀C:List Int->Int->Option Bool,Aqj K i w.fQ (v3++Al7 w.fL (gt w.fQ i).Bt) k C=bif (gt w.fQ i).Ae.all (fun y=> !(gt w.fQ k).Ae.contains y)then C (v3++Al7 w.fL (gt w.fQ i).Bt) ((k+1:Nat):Int)else some false:=by
    intro C;unfold Aqj;rw[Arz hK (gt w.fQ i).Ae (by omega) (fun y=> !(gt w.fQ k).Ae.contains y) _ (fun m j=>Anh K i w.fQ (v3++Al7 w.fL (gt w.fQ i).Bt) k C m j) (fun m j hj=> ?_) (fun m=> ?_)]
    ·simp only[Anh];rw[if_pos (Ajc hi),Ae9 hj,cond_true,if_pos (Ajc hk2),if_pos (Ajc hj),Axh hK _ _ (by omega),Z0,Ahd (by omega),Ac2,Aej hj,if_pos (Ajc hi)]
    ·show Anh K i w.fQ _ k C (m+1) _=_;rw[Anh,if_pos (Ajc hi),Afe (Z9 _),cond_false,Ahd (by omega)]
   simp only[Ak5];rw[Ae9 hk,cond_true,if_pos (Ajc hi),if_pos (Ajc hk2),if_pos (Ajc hi),h4];unfold A0s;cases (gt w.fQ (i:Int)).A5 != 0<;>cases (gt w.fQ (k:Int)).A5==(gt w.fQ (i:Int)).A5<;>cases (gt w.fQ i).Ae.all _<;>rfl
  ·show Ak5 K i _ _ _ _ _ _ _ _ _ _ _ _ v17 v18 _ (m+1) _ _=_;rw[Ak5,Afe (Z9 _),cond_false,Ahd (by omega)]
 rw[Agf,Ae9 hi,cond_true,if_pos (Ajc hi),if_pos (Ajc hi),hJ,hJ]
 have e1:Aoa .i64 v1 ((gt w.fQ i).Ae.length:Int)=v1+((gt w.fQ i).Ae.length:Int):=by unfold Aoa;rw[Ag1 (by omega) (by omega)]
 rw[e1,A9r h2.1 (by omega)]
 by_cases g:(gt w.fQ i).A5=0
 ·rw[if_pos g,g];simp
 ·rw[if_neg g,Atk g];simp
theorem Ba7 (w:Eb)(hw:Aru w)(hp:Aut w.fC w.fP=true)(hL:(w.fL.length:Int)=w.fC.C0)(hall: ∀x∈w.fQ,Anv w x=true):As7 K w=some (A24 w):=by
 obtain⟨hc,hm,hst,_⟩:=Avz hp;obtain⟨b1,b2,b3,_⟩:=Aen hc
 have hq:=hw.q.2
 have hc12: ∀x∈w.fQ,x.Ae.length≤12:=fun x hx=>by
  have:=hall x hx;unfold Anv at this;simp only[Z4]at this;obtain⟨hc,_,_,hd,_⟩:=Avt this.1;exact A6a hc hd
 have h3:=A9q hK w.fL (by omega) w.fQ
 unfold As7
 have:=A25 hK (List.range w.fQ.length) (by simp;omega) (fun i=>(List.range i).all (fun k=>A0s w.fQ i k)) (Ahs K ((chL w.fQ).length:Int) ((slL w.fQ).length:Int) (kdL w.fL w.fQ) w.fP.Fy w.fP.Hh w.fP.Fz w.fL K 0 0) (some false)
  (fun n i=>Agf K n ((chL (w.fQ.take i)).length:Int) ((slL (w.fQ.take i)).length:Int) (kdL w.fL (w.fQ.take i)) (i:Int) w.fC.Ae w.fC.Eg w.fC.C0 w.fC.E9 w.fC.C1 w.fC.Eh w.fP.Fy w.fP.Hh w.fP.Fz w.fL w.fQ w.Pr) (fun n i h=> ?_) (fun n=> ?_)
 ·rw[List.take_zero,show chL []=[] from rfl,show slL []=[] from rfl,show kdL w.fL []=[] from rfl]at this
  refine Eq.trans this ?_;rw[Bcf hK w hw _ _ _ (by omega),Ai5]
  rfl
 ·have hi:i<w.fQ.length:=by simpa using h
  have hb1:(chL (w.fQ.take i)).length≤(w.fQ.take i).length*12:=A1j _ _ 12 fun x hx=>hc12 x (Za hx)
  have hb2:=Bdl hK (w.fQ.take i)
  have hb3:=A9q hK w.fL (by omega) (w.fQ.take i)
  rw[List.length_take]at hb1 hb2 hb3;simp only[List.getElem_range];rw[Ba6 hK w hw i n hi _ _ _ ⟨by omega,by omega⟩ ⟨by omega,by omega⟩ (by omega) (hc12 _ (Apk hi))]
  unfold chL slL kdL;rw[Axb _ _ _ hi,Axb _ _ _ hi,Axb _ _ _ hi,Aej hi,Ln,Ln];rfl
 ·rw[List.length_range,List.take_length,Agf,Afe (Z9 _),cond_false]
end
def A6e (w:Eb):Bool:=
 Aut w.fC w.fP&&(((w.fL.length:Int)==w.fC.C0)&&((List.range w.fL.length).all (A54 w)&&(A7d w.fL&&((w.fQ.all (Anv w)&&Awh w w.fC.Ae.toNat)&&w.Pr.all (fun x=>inB x 0 255)))))
section
variable {K:Nat} (hK:281474976710656≤K)
include hK
theorem A9u (w:Eb)(hw:Aru w):Avf K w=some (A6e w):=by
 have hl:=A2j hK hw.log;unfold Avf A6e;rw[Bam hK,Z0];cases hp:Aut w.fC w.fP with
 |false=>rfl
 |true=>
 rw[cond_true,Z30];cases hL:(w.fL.length:Int)==w.fC.C0 with
 |false=>rfl
 |true=>
 rw[beq_iff_eq]at hL;rw[cond_true,Z30,A9l hK w hw hp,Ba0 hK hw.l,A9s hK w hw hp hL,Ayb hK _ (by omega)]
 simp only[Z0,Ai5]
theorem A9v (w:Eb)(hw:Aru w):Au5 K w=some (A6e w):=by
 have hl:=A2j hK hw.log
 have hl2:=Aem hw.l
 have hq:=hw.q.2;unfold Au5 A6e;rw[Bal hK,Z0];cases hp:Aut w.fC w.fP with
 |false=>rfl
 |true=>
 rw[cond_true,Z30];cases hL:(w.fL.length:Int)==w.fC.C0 with
 |false=>rw[bne,hL];rfl
 |true=>
 rw[bne,hL,Bool.not_true,cond_false,Z30,Baz hK hw.l,Z0,Ac2];rw[beq_iff_eq]at hL
 have e1:Er.mk w.fC.Ae w.fC.Eg w.fC.C0 w.fC.E9 w.fC.C1 w.fC.Eh=w.fC:=rfl
 have e2:Eb.mk (Er.mk w.fC.Ae w.fC.Eg w.fC.C0 w.fC.E9 w.fC.C1 w.fC.Eh) (Dw.mk w.fP.Fy w.fP.Hh w.fP.Fz) w.fL w.fQ w.Pr=w:=rfl
 have h3:w.fQ.all (Anv w)=true->Anq K w.fC.Ae w.fC.Eg w.fC.C0 w.fC.E9 w.fC.C1 w.fC.Eh w.fP.Fy w.fP.Hh w.fP.Fz w.fL w.fQ w.Pr K 0=some (w.Pr.all (fun x=>inB x 0 255)&&Awh w w.fC.Ae.toNat):=by
  intro hall;rw[Z1]at hall;rw[Bv1 hp hL hall];rw[Arz hK w.Pr (by omega) (fun x=>inB x 0 255) (some (A24 w)) (Anq K w.fC.Ae w.fC.Eg w.fC.C0 w.fC.E9 w.fC.C1 w.fC.Eh w.fP.Fy w.fP.Hh w.fP.Fz w.fL w.fQ w.Pr) (fun n i h=> ?_) (fun n=> ?_)]
  ·rw[Ai5]
  ·rw[Anq,Ae9 h,cond_true,if_pos (Ajc h),Aso,Ahd (by omega),Z0,Ac2,Aej h]
  ·rw[Anq,Afe (Z9 _),cond_false,e2,Ba7 hK w hw hp hL hall,Z0]
 have h2:Apr K w.fC.Ae w.fC.Eg w.fC.C0 w.fC.E9 w.fC.C1 w.fC.Eh w.fP.Fy w.fP.Hh w.fP.Fz w.fL w.fQ w.Pr K 0=some (w.fQ.all (Anv w)&&(w.Pr.all (fun x=>inB x 0 255)&&Awh w w.fC.Ae.toNat)):=by
  rw[Arz hK w.fQ (by omega) (Anv w) (Anq K w.fC.Ae w.fC.Eg w.fC.C0 w.fC.E9 w.fC.C1 w.fC.Eh w.fP.Fy w.fP.Hh w.fP.Fz w.fL w.fQ w.Pr K 0) (Apr K w.fC.Ae w.fC.Eg w.fC.C0 w.fC.E9 w.fC.C1 w.fC.Eh w.fP.Fy w.fP.Hh w.fP.Fz w.fL w.fQ w.Pr) (fun n i h=> ?_) (fun n=> ?_)]
  ·cases hall:w.fQ.all (Anv w)with
   |false=>rfl
   |true=>rw[cond_true,h3 hall];rfl
  ·rw[Apr,Ae9 h,cond_true,e2,A62 hK w hw hp hL i h,Ahd (by omega),Z0,Ac2,Aej h]
  ·rw[Apr,Afe (Z9 _),cond_false]
 have h1:Anr K K 0 w.fC.Ae w.fC.Eg w.fC.C0 w.fC.E9 w.fC.C1 w.fC.Eh w.fP.Fy w.fP.Hh w.fP.Fz w.fL w.fQ w.Pr=some ((List.range w.fL.length).all (A54 w)&&(w.fQ.all (Anv w)&&(w.Pr.all (fun x=>inB x 0 255)&&Awh w w.fC.Ae.toNat))):=by
  rw[Apx hK w.fL.length (by omega) (A54 w) (some (w.fQ.all (Anv w)&&(w.Pr.all (fun x=>inB x 0 255)&&Awh w w.fC.Ae.toNat))) (fun n i=>Anr K n i w.fC.Ae w.fC.Eg w.fC.C0 w.fC.E9 w.fC.C1 w.fC.Eh w.fP.Fy w.fP.Hh w.fP.Fz w.fL w.fQ w.Pr) (fun n k hk=> ?_) (fun n=> ?_)]
  ·rw[Ai5]
  ·simp only[Anr];rw[e2,e1]
   have hn:=hw.l.1 _ (Apk hk)
   have l1:=A2j hK hn.chunks
   have l2:=Ble hK hn.things
   have l3:=A2j hK hn.tags;rw[Ae9 hk,cond_true,if_pos (Ajc hk),Bap hK _ _ l1 l2 l3,Z0,A51 hK w k hk hw.p.st.2 l1,Ahd (by omega),A6x hK _ _ l1 l2]
   simp only[Z0];unfold A54;cases hb:Awx w.fC (gt w.fL k)with
   |false=>rfl
   |true=>
   cases Azx w.fP k (gt w.fL k).Ae with
   |false=>rfl
   |true=>
   cases hi:(gt w.fL k).Ea.all (Ayi w.fC (gt w.fL k).Ae)with
   |false=>simp only[cond_true,Z30,Bool.false_and,cond_false,if_pos (Ajc hk)]
   |true=>
   have hs:=A53 hi;rw[A6u hK _ l2 (fun t ht=>(hs t ht).1),Bb5 hK w k hk hp hn hb hs];simp only[Z0,cond_true,Ac2,Z30,if_pos (Ajc hk)];cases Av0 (gt w.fL k).Ea<;>cases A52 w.fC w.fP.Fy (gt w.fL k)<;>rfl
  ·show Anr K (n+1) _ _ _ _ _ _ _ _ _ _ _ _ _=_;rw[Anr,Afe (Z9 _),cond_false,h2]
 rw[h1];cases A7d w.fL with
 |false=>rw[cond_false];simp
 |true=>
  simp only[cond_true,Z30,Z7]
  ac_rfl
end
theorem Bv2{x:Int}:Alh x ↔ -9223372036854775808≤x∧x≤9223372036854775807:=by
 simp[Alh,Lit.wf,IntKind.min,IntKind.max,IntKind.signed,IntKind.bits]
theorem Avw{n:Nat}(h:n≤reachBytes):n≤140737488355327:=by simp only[reachBytes]at h;omega
theorem Arx{n m:Nat}(h:n*m≤reachBytes)(hm:0<m):n≤140737488355327:=by
 have:n*1≤n*m:=Nat.mul_le_mul_left n hm;simp only[reachBytes]at h;omega
def Bv3 (a:Es):Er:=Er.mk a.Ae a.Eg a.C0 a.E9 a.C1 a.Eh
def Bv4 (a:Dx):Dw:=Dw.mk a.Fy a.Hh a.Fz
def A26 (a:Bb):A9:=A9.mk a.fAt a.Vu a.Vv
def Ayc (a:Bc):Ba:=Ba.mk a.Hh a.C2 a.Ly a.fUp a.Gq a.Bt a.Gr a.Gs a.Ae a.Pq a.Gt (a.Ea.map A26) a.Dg
def Awi (a:Ay):Ax:=Ax.mk a.A5 a.Bt a.Dg a.Ae a.Gu
def Ax2 (a:Ec):Eb:=Eb.mk (Bv3 a.fC) (Bv4 a.fP) (a.fL.map Ayc) (a.fQ.map Awi) a.Pr
section
variable {K:Nat} (hK:281474976710656≤K)
include hK
theorem A7f{a:List Int}(w:A2g a):Apv K a=some a:=by
 have hl:=Arx w.2.1 (by decide)
 unfold Apv;rw[if_pos ⟨by omega,by omega,by omega,by omega⟩]
 have:=A08 a some id (fun _ _=>rfl) (by omega) (fun n i v=>As3 K a n v i) (fun n i v=>rfl) K 0 (List.replicate (a.length:Int).toNat 0) (Z21 _) (by simp) (fun j hj=>by omega) (by omega)
 simpa using this
theorem Axl{a:List Int}(w:Awe a):An3 K a=some a:=by
 have hl:=Arx w.2.1 (by decide)
 have hr:a.length*8≤140737488355327:=Avw w.2.1;unfold An3;rw[if_pos ⟨by omega,by omega,by omega,by omega⟩]
 have:=A08 a some id (fun _ _=>rfl) (by omega) (fun n i v=>Atv K a n v i) (fun n i v=>rfl) K 0 (List.replicate (a.length:Int).toNat 0) (Z21 _) (by simp) (fun j hj=>by omega) (by omega)
 simpa using this
theorem Bcg{a:List Bb}(w:Avm a):Atw K a=some (a.map A26):=by
 have hl:=Arx w.2.1 (by decide)
 have hr:a.length*24≤140737488355327:=Avw w.2.1;unfold Atw;rw[if_pos ⟨by omega,by omega,by omega,by omega⟩]
 exact A08 a (Axc K) A26 (fun _ _=>rfl) (by omega) (fun n i v=>Asc K a n v i) (fun n i v=>rfl) K 0 _ (Z21 _) (by simp) (fun j hj=>by omega) (by omega)
theorem Bli{a:Bc}(w:Avn a):Ato K a=some (Ayc a):=by
 unfold Ato;obtain⟨_,_,_,_,_,_,_,_,h1,_,_,h2,h3⟩:=w;rw[Axl hK h1,Bcg hK h2,Axl hK h3];rfl
theorem Be2{a:List Bc}(w:Awf a):Auw K a=some (a.map Ayc):=by
 have hl:=Arx w.2.1 (by decide)
 have hr:a.length*152≤140737488355327:=Avw w.2.1;unfold Auw;rw[if_pos ⟨by omega,by omega,by omega,by omega⟩]
 exact A08 a (Ato K) Ayc (fun x hx=>Bli hK (w.1 x hx)) (by omega) (fun n i v=>As4 K a n v i) (fun n i v=>rfl) K 0 _ (Z21 _) (by simp) (fun j hj=>by omega) (by omega)
theorem Be3{a:Ay}(w:Att a):Asq K a=some (Awi a):=by
 unfold Asq;obtain⟨_,_,h1,h2,_⟩:=w;rw[Axl hK h1,Axl hK h2];rfl
theorem Bch{a:List Ay}(w:Avo a):Atx K a=some (a.map Awi):=by
 have hl:=Arx w.2.1 (by decide)
 have hr:a.length*72≤140737488355327:=Avw w.2.1;unfold Atx;rw[if_pos ⟨by omega,by omega,by omega,by omega⟩]
 exact A08 a (Asq K) Awi (fun x hx=>Be3 hK (w.1 x hx)) (by omega) (fun n i v=>Asd K a n v i) (fun n i v=>rfl) K 0 _ (Z21 _) (by simp) (fun j hj=>by omega) (by omega)
theorem Be4{a:Ec}(w:Aqb a):Aqh K a=some (Ax2 a):=by
 unfold Aqh Ax3 Ax4;obtain⟨_,⟨h1,h2,h3⟩,h4,h5,h6⟩:=w;rw[A7f hK h1,Axl hK h2,Axl hK h3,Be2 hK h4,Bch hK h5,Axl hK h6];rfl
theorem A2p{a:List Int}(hl:a.length≤140737488355327):Arp K a a=some true:=by
 unfold Arp;simp only[bne_self_eq_false,cond_false];exact Blb a (by omega) (Atg K a a) (fun n i=>rfl) K 0 (Z21 _) (by omega)
theorem Axm{a:List Int}(w:a.length*8≤140737488355327):An6 K a a=some true:=by
 have hl:a.length≤140737488355327:=by omega
 unfold An6;simp only[bne_self_eq_false,cond_false];exact Blb a (by omega) (Aue K a a) (fun n i=>rfl) K 0 (Z21 _) (by omega)
omit hK in
theorem Be5 (a:A9):Asz K a a=some true:=by simp[Asz]
theorem Bci{a:List A9}(w:A22 a):Auf K a a=some true:=by
 have hl:a.length≤140737488355327:=by have:=w.2;omega
 unfold Auf;simp only[bne_self_eq_false,cond_false];exact Bla a (Asz K) (fun x _=>Be5 x) (by omega) (Aq2 K a a) (fun n i=>by rw[Aq2];simp only[Ac2]) K 0 (Z21 _) (by omega)
theorem Blj{a:Ba}(w:A1e a):Ats K a a=some true:=by
 simp[Ats,Axm hK w.chunks.2,Bci hK w.things,Axm hK w.tags.2]
theorem Be6{a:List Ba}(w:Aix a):Avk K a a=some true:=by
 have hl:=Aem w;unfold Avk;simp only[bne_self_eq_false,cond_false];exact Bla a (Ats K) (fun x hx=>Blj hK (w.1 x hx)) (by omega) (Arq K a a) (fun n i=>by rw[Arq];simp only[Ac2]) K 0 (Z21 _) (by omega)
theorem Be7{a:Ax}(w:Azr a):As0 K a a=some true:=by
 simp[As0,Axm hK w.tags.2,Axm hK w.chunks.2]
theorem Bcj{a:List Ax}(w:Bdg a):Aug K a a=some true:=by
 have hl:a.length≤140737488355327:=by have:=w.2;omega
 unfold Aug;simp only[bne_self_eq_false,cond_false];exact Bla a (As0 K) (fun x hx=>Be7 hK (w.1 x hx)) (by omega) (Aq3 K a a) (fun n i=>by rw[Aq3];simp only[Ac2]) K 0 (Z21 _) (by omega)
theorem A7g{a:Eb}(w:Aru a):Aqm K a a=some true:=by
 simp[Aqm,Ax9,Aya,A2p hK w.p.mem.2,Axm hK w.p.st.2,Axm hK w.p.own.2,Be6 hK w.l,Bcj hK w.q,Axm hK w.log.2]
omit hK in
theorem Be8 (a:List Int)(y:Int): ∃r,Auv K a y=some r:=by
 unfold Auv;cases decide (Aob .i64 y (a.length:Int)<0)<;>exact⟨_,rfl⟩
omit hK in
theorem Axn (a:List Int)(y:Int): ∃r,An2 K a y=some r:=by
 unfold An2;cases decide (Aob .i64 y (a.length:Int)<0)<;>exact⟨_,rfl⟩
omit hK in
theorem Bck (a:List Bb)(y:Int): ∃r,Atu K a y=some r:=by
 unfold Atu;cases decide (Aob .i64 y (a.length:Int)<0)<;>exact⟨_,rfl⟩
omit hK in
theorem Bll (a:Bc)(y:Int): ∃r,Aqa K a y=some r:=by
 unfold Aqa;obtain⟨r1,h1⟩:=Axn (K:=K) a.Ae y;rw[h1];simp only[Z0];cases decide (r1<0)
 ·obtain⟨r2,h2⟩:=Bck (K:=K) a.Ea r1;simp only[h2,Z0,cond_false];cases decide (r2<0)
  ·obtain⟨r3,h3⟩:=Axn (K:=K) a.Dg r2;simp only[h3,Z0,cond_false];cases decide (r3<0)<;>exact⟨_,rfl⟩
  ·exact⟨_,rfl⟩
 ·exact⟨_,rfl⟩
theorem Be9{a:List Bc}(w:Awf a)(y:Int): ∃r,Asp K a y=some r:=by
 have hl:=Arx w.2.1 (by decide)
 unfold Asp;cases decide (Aob .i64 y (a.length:Int)<0)
 ·exact Bsx a (Aqa K) (fun x _ y=>Bll x y) (by omega) (Aqc K a) (fun n y i=>rfl) K 0 _ (Z21 _) (by omega)
 ·exact⟨_,rfl⟩
omit hK in
theorem Bfa (a:Ay)(y:Int): ∃r,Apu K a y=some r:=by
 unfold Apu;obtain⟨r1,h1⟩:=Axn (K:=K) a.Dg y;rw[h1];simp only[Z0];cases decide (r1<0)
 ·obtain⟨r2,h2⟩:=Axn (K:=K) a.Ae r1;simp only[h2,Z0,cond_false];cases decide (r2<0)<;>exact⟨_,rfl⟩
 ·exact⟨_,rfl⟩
theorem Bcl{a:List Ay}(w:Avo a)(y:Int): ∃r,Ar2 K a y=some r:=by
 have hl:=Arx w.2.1 (by decide)
 unfold Ar2;cases decide (Aob .i64 y (a.length:Int)<0)
 ·exact Bsx a (Apu K) (fun x _ y=>Bfa x y) (by omega) (Apz K a) (fun n y i=>rfl) K 0 _ (Z21 _) (by omega)
 ·exact⟨_,rfl⟩
omit hK in
theorem Blm (a:Dx)(y:Int): ∃r,Atn K a y=some r:=by
 unfold Atn;obtain⟨r1,h1⟩:=Be8 (K:=K) a.Fy y;rw[h1];simp only[Z0];cases decide (r1<0)
 ·obtain⟨r2,h2⟩:=Axn (K:=K) a.Hh r1;simp only[h2,Z0,cond_false];cases decide (r2<0)
  ·obtain⟨r3,h3⟩:=Axn (K:=K) a.Fz r2;simp only[h3,Z0,cond_false];cases decide (r3<0)<;>exact⟨_,rfl⟩
  ·exact⟨_,rfl⟩
 ·exact⟨_,rfl⟩
theorem Bfb{a:Ec}(w:Aqb a)(y:Int): ∃r,Aqg K a y=some r:=by
 obtain⟨_,_,h4,h5,_⟩:=w;unfold Aqg;obtain⟨r1,h1⟩:=Blm (K:=K) a.fP y;rw[h1];simp only[Z0];cases decide (r1<0)
 ·obtain⟨r2,h2⟩:=Be9 hK h4 r1;simp only[h2,Z0,cond_false];cases decide (r2<0)
  ·obtain⟨r3,h3⟩:=Bcl hK h5 r2;simp only[h3,Z0,cond_false];cases decide (r3<0)
   ·obtain⟨r4,h4⟩:=Axn (K:=K) a.Pr r3;simp only[h4,Z0,cond_false];cases decide (r4<0)<;>exact⟨_,rfl⟩
   ·exact⟨_,rfl⟩
  ·exact⟨_,rfl⟩
 ·exact⟨_,rfl⟩
end
theorem Aqq{x:Int}(h:Alh x):wfi x:=Bv2.1 h
theorem Axo{l:List Int}(h:Awe l):Az7 l:=⟨fun x hx=>Aqq (h.1 x hx),Avw h.2.1⟩
theorem B2q{x:Int}(h:Bai x):0≤x∧x≤255:=by
 simpa[Bai,Lit.wf,IntKind.min,IntKind.max,IntKind.signed,IntKind.bits]using h
theorem A2q{l:List Int}(h:A2g l):A9i l:=⟨fun x hx=>B2q (h.1 x hx),by have:=Avw h.2.1;omega⟩
theorem Bcm{l:List Bb}(h:Avm l):A22 (l.map A26):=by
 refine⟨fun x hx=> ?_,by rw[B8];exact Avw h.2.1⟩
 obtain⟨y,hy,rfl⟩:=Eo.1 hx;obtain⟨h1,h2,h3⟩:=h.1 y hy;exact⟨Aqq h1,Aqq h2,Aqq h3⟩
theorem Bln{a:Bc}(w:Avn a):A1e (Ayc a):=by
 obtain⟨h1,h2,h3,h4,h5,h6,h7,h8,h9,h10,h11,h12,h13⟩:=w;exact⟨Aqq h1,Aqq h2,Aqq h3,Aqq h4,Aqq h5,Aqq h6,Aqq h7,Aqq h8,Axo h9,Aqq h10,Aqq h11,Bcm h12,Axo h13⟩
theorem Bfc{a:Ay}(w:Att a):Azr (Awi a):=by
 obtain⟨h1,h2,h3,h4,h5⟩:=w;exact⟨Aqq h1,Aqq h2,Axo h3,Axo h4,Aqq h5⟩
theorem Bfd{a:Ec}(w:Aqb a):Aru (Ax2 a):=by
 obtain⟨⟨c1,c2,c3,c4,c5,c6⟩,⟨p1,p2,p3⟩,h3,h4,h5⟩:=w;refine⟨⟨Aqq c1,Aqq c2,Aqq c3,Aqq c4,Aqq c5,Aqq c6⟩,⟨A2q p1,Axo p2,Axo p3⟩,⟨fun x hx=> ?_,?_⟩,⟨fun x hx=> ?_,?_⟩,Axo h5⟩
 ·obtain⟨y,hy,rfl⟩:=Eo.1 hx;exact Bln (h3.1 y hy)
 ·show(a.fL.map Ayc).length*152≤_;rw[B8];exact Avw h3.2.1
 ·obtain⟨y,hy,rfl⟩:=Eo.1 hx;exact Bfc (h4.1 y hy)
 ·show(a.fQ.map Awi).length*72≤_;rw[B8];exact Avw h4.2.1
def K0:Nat:=281474976710656
theorem Bcn{α:Type}[Inhabited α]{l:List α}{i:Nat}(h:i<l.length)(x:α):gt (l.set (i:Int).toNat x) (i:Int)=x:=by
 rw[Aej (by simpa using h)];simp
theorem Bv5{α:Type}(l:List α)(i:Nat)(x y:α):(l.set i x).set i y=l.set i y:=List.set_set ..
theorem Ayk{k:Nat}(h:k≤140737488355328):Aoa .i64 (k:Int) 1=((k+1:Nat):Int):=Ahd h
theorem Bor{α:Type}[Inhabited α]{l:List α}{i:Nat}(h:i<l.length):l.drop i=gt l (i:Int)::l.drop (i+1):=by
 rw[Aej h,Z47 h]
section
variable {K:Nat} (hK:281474976710656≤K)
include hK
def Avy (n:Nat)(k:Nat):List Int:=(List.range n).map fun i=>((k+i:Nat):Int)
omit hK in
theorem Aqf (n k:Nat):(Avy n k).length=n:=by simp[Avy]
omit hK in
theorem Bco (k:Nat): ∀(n i:Nat) (v:List Int),k+v.length≤140737488355327->i≤v.length->(∀j,j<i->v[j]? =(Avy v.length k)[j]?)->v.length - i<n→
  Aq4 K n v ((k+i:Nat):Int) (i:Int)=some (((k+v.length:Nat):Int),Avy v.length k):=by
 intro n
 induction n with
 |zero=>intro i v _ _ _ h;omega
 |succ n ih=>
  intro i v hl hi hj hn;rw[Aq4];rcases F9 i v.length with h|h
  ·rw[Ae9 h];simp only[cond_true]
   have e:Aoa .i64 ((k+i:Nat):Int) 1=((k+(i+1):Nat):Int):=by unfold Aoa;rw[Ag1 (by omega) (by omega)];omega
   rw[if_pos ⟨by omega,by omega⟩,e,Ahd (i:=i) (by omega)]
   have:=ih (i+1) (v.set (i:Int).toNat ((k+i:Nat):Int)) (by simpa using hl) (by simp only[Z49];omega) (fun j hj2=>by
    rw[Int.toNat_natCast,V8,Z49]
    by_cases e:i=j
    ·subst e;rw[if_pos rfl,if_pos h];simp[Avy,h]
    ·rw[if_neg e];exact hj j (by omega)) (by simp only[Z49];omega)
   rw[this];simp
  ·rw[Afe h]
   have hia:i=v.length:=by omega
   subst hia
   have e:v=Avy v.length k:=by
    refine List.ext_getElem? fun j=> ?_;rcases F9 j v.length with hja|hja
    ·exact hj j hja
    ·rw[Z58 (by omega),Z58 (by rw[Aqf];omega)]
   simp only[cond_false];rw[←e]
theorem Axp (a:List Int)(k:Nat)(hk:k+a.length≤140737488355327):Alc K a (k:Int)=some (((k+a.length:Nat):Int),Avy a.length k):=by
 unfold Alc;exact Bco k K 0 a hk (Z21 _) (fun j hj=>by omega) (by omega)
def Ba8{α:Type}(_:α):Nat:=3
omit hK in
theorem Az1{α:Type}(l:List α):(l.map Ba8).sum=3*l.length:=by
 induction l with
 |nil=>rfl
 |cons a l ih=>simp only[Z8,List.sum_cons,Y9,ih,Ba8];omega
def Ap9 (x:Ba):Nat:=10+x.Ae.length+3*x.Ea.length+x.Dg.length
def Aqr (x:Ax):Nat:=3+x.Dg.length+x.Ae.length
def Aww (p:Dw):Nat:=p.Fy.length+p.Hh.length+p.Fz.length
def cells (w:Eb):Nat:=Aww w.fP+(w.fL.map Ap9).sum+(w.fQ.map Aqr).sum+w.Pr.length
end
theorem Bsz{y:Int}{n:Nat}(h0:0≤y)(h1:y≤1048576)(hn:n≤140737488355327):Aob .i64 y (n:Int)=y - n:=by
 unfold Aob;exact Ag1 (by omega) (by omega)
theorem A1k{n:Nat}{y r:Int}(hn:n≤140737488355327)(h0:0≤y)(h1:y≤1048576)(h:(bif (decide ((Aob .i64 y (n:Int))<0))then some (-1)else some (Aob .i64 y (n:Int)))=some r)(hr:0≤r):r+n=y:=by
 rw[Bsz h0 h1 hn]at h;cases e:decide (y - (n:Int)<0)with
 |true=>rw[e]at h;simp at h;omega
 |false=>rw[e]at h;simp at h;omega
theorem Ayl{f:Option Int}{g:Int->Option Int}{r:Int}(h:f.bind (fun q=>bif decide (q<0)then some (-1)else g q)=some r)(hr:0≤r): ∃q,f=some q∧0≤q∧g q=some r:=by
 cases f with
 |none=>cases h
 |some q=>
  simp only[Z0]at h;cases e:decide (q<0)with
  |true=>rw[e]at h;simp at h;omega
  |false=>rw[e]at h;exact⟨q,rfl,by simpa using e,h⟩
theorem B2r{α:Type}[Inhabited α](a:List α)(f:α->Int->Option Int)(c:α->Nat)(hf: ∀x∈a,∀y r,0≤y->y≤1048576->f x y=some r->0≤r->r+c x=y)(ha:a.length≤140737488355327)
  (L:Nat->Int->Int->Option Int) (h00: ∀y i,L 0 y i=none) (hL: ∀n y i,L (n+1) y i=bif decide (i<(a.length:Int))then(if(0:Int)≤i∧i<(a.length:Int)then(f (gt a i) y).bind (fun r=>bif decide (r<0)then some (-1)else L n r (Aoa .i64 i 1))else none)else some y):
  ∀(n i:Nat) (y r:Int),i≤a.length->0≤y->y≤1048576->L n y (i:Int)=some r->0≤r->r+(((a.drop i).map c).sum:Nat)=y:=by
 intro n
 induction n with
 |zero=>intro i y r _ _ _ h;rw[h00]at h;cases h
 |succ n ih=>
  intro i y r hi h0 h1 h hr;rw[hL]at h;rcases F9 i a.length with hl|hl
  ·rw[Ae9 hl]at h;simp only[cond_true]at h;rw[if_pos ⟨by omega,by omega⟩,Ahd (by omega)]at h
   obtain⟨q,q1,q2,q3⟩:=Ayl h hr
   have e1:=hf _ (Apk hl) _ _ h0 h1 q1 q2
   have e2:=ih (i+1) q r hl q2 (by omega) q3 hr
   rw[Bor hl,Z8,List.sum_cons];omega
  ·rw[Afe hl]at h;simp only[cond_false,Z7]at h;rw[Z48 hl];simp;omega
def szN (x:Bc):Nat:=x.Ae.length+x.Ea.length+x.Dg.length
def szW (x:Ay):Nat:=x.Dg.length+x.Ae.length
theorem Blo{K:Nat}{a:Bc}(w:Avn a){y r:Int}(h0:0≤y)(h1:y≤1048576)(h:Aqa K a y=some r)(hr:0≤r):r+szN a=y:=by
 obtain⟨_,_,_,_,_,_,_,_,w1,_,_,w2,w3⟩:=w;unfold Aqa at h;obtain⟨q,q1,q2,h⟩:=Ayl h hr;obtain⟨p,p1,p2,h⟩:=Ayl h hr;obtain⟨s,s1,s2,h⟩:=Ayl h hr
 have e1:=A1k (Arx w1.2.1 (by decide)) h0 h1 q1 q2
 have e2:=A1k (Arx w2.2.1 (by decide)) q2 (by omega) p1 p2
 have e3:=A1k (Arx w3.2.1 (by decide)) p2 (by omega) s1 s2
 injection h with h
 unfold szN;omega
theorem Bfe{K:Nat}{a:Ay}(w:Att a){y r:Int}(h0:0≤y)(h1:y≤1048576)(h:Apu K a y=some r)(hr:0≤r):r+szW a=y:=by
 obtain⟨_,_,w1,w2,_⟩:=w;unfold Apu at h;obtain⟨q,q1,q2,h⟩:=Ayl h hr;obtain⟨p,p1,p2,h⟩:=Ayl h hr
 have e1:=A1k (Arx w1.2.1 (by decide)) h0 h1 q1 q2
 have e2:=A1k (Arx w2.2.1 (by decide)) q2 (by omega) p1 p2
 injection h with h
 unfold szW;omega
theorem Bs0{n:Nat}{y r:Int}{o:Int->Option Int}(hn:n≤140737488355327)(h0:0≤y)(h1:y≤1048576)(h:(bif (decide ((Aob .i64 y (n:Int))<0))then some (-1)else o (Aob .i64 y (n:Int)))=some r)(hr:0≤r):0≤y - n∧o (y - n)=some r:=by
 rw[Bsz h0 h1 hn]at h;cases e:decide (y - (n:Int)<0)with
 |true=>rw[e]at h;simp at h;omega
 |false=>rw[e]at h;exact⟨by simpa using e,h⟩
theorem Bff{K:Nat}{a:Ec}(w:Aqb a){r:Int}(h:Aqg K a 1048576=some r)(hr:0≤r):a.fP.Fy.length+a.fP.Hh.length+a.fP.Fz.length+(a.fL.length+(a.fL.map szN).sum)+(a.fQ.length+(a.fQ.map szW).sum)+a.Pr.length≤1048576:=by
 obtain⟨_,⟨w1,w2,w3⟩,w4,w5,w6⟩:=w;unfold Aqg at h;obtain⟨q,q1,q2,h⟩:=Ayl h hr;unfold Atn at q1;obtain⟨p1,a1,b1,q1⟩:=Ayl q1 q2;obtain⟨p2,a2,b2,q1⟩:=Ayl q1 q2;obtain⟨p3,a3,b3,q1⟩:=Ayl q1 q2
 have e1:=A1k (Arx w1.2.1 (by decide)) (by omega) (by omega) a1 b1
 have e2:=A1k (Arx w2.2.1 (by decide)) b1 (by omega) a2 b2
 have e3:=A1k (Arx w3.2.1 (by decide)) b2 (by omega) a3 b3
 injection q1 with q1
 obtain⟨s,s1,s2,h⟩:=Ayl h hr;obtain⟨t,t1,t2,h⟩:=Ayl h hr;obtain⟨u,u1,u2,h⟩:=Ayl h hr;injection h with h
 unfold Asp at s1;obtain⟨z1,s1⟩:=Bs0 (o:=fun z=>Aqc K a.fL K z 0) (Arx w4.2.1 (by decide)) q2 (by omega) s1 s2
 have e4:=B2r a.fL (Aqa K) szN (fun x hx y r h0 h1 h hr=>Blo (w4.1 x hx) h0 h1 h hr) (Arx w4.2.1 (by decide)) (Aqc K a.fL) (fun _ _=>rfl) (fun _ _ _=>rfl) K 0 _ _ (Z21 _) z1 (by omega) s1 s2
 rw[Z55]at e4;unfold Ar2 at t1;obtain⟨z2,t1⟩:=Bs0 (o:=fun z=>Apz K a.fQ K z 0) (Arx w5.2.1 (by decide)) s2 (by omega) t1 t2
 have e5:=B2r a.fQ (Apu K) szW (fun x hx y r h0 h1 h hr=>Bfe (w5.1 x hx) h0 h1 h hr) (Arx w5.2.1 (by decide)) (Apz K a.fQ) (fun _ _=>rfl) (fun _ _ _=>rfl) K 0 _ _ (Z21 _) z2 (by omega) t1 t2
 rw[Z55]at e5
 have e6:=A1k (Arx w6.2.1 (by decide)) t2 (by omega) u1 u2
 omega
theorem Bfg (l:List Bc):((l.map Ayc).map Ap9).sum≤13*(l.length+(l.map szN).sum):=by
 induction l with
 |nil=>exact Z9 _
 |cons x l ih=>
  simp only[Z8,List.sum_cons,Y9]
  have:Ap9 (Ayc x)≤13*(1+szN x):=by simp only[Ap9,Ayc,szN,B8];omega
  omega
theorem Bfh (l:List Ay):((l.map Awi).map Aqr).sum≤13*(l.length+(l.map szW).sum):=by
 induction l with
 |nil=>exact Z9 _
 |cons x l ih=>
  simp only[Z8,List.sum_cons,Y9]
  have:Aqr (Awi x)≤13*(1+szW x):=by simp only[Aqr,Awi,szW];omega
  omega
theorem Bos{K:Nat}{a:Ec}(w:Aqb a){r:Int}(h:Aqg K a 1048576=some r)(hr:0≤r):cells (Ax2 a)≤13631488:=by
 have h1:=Bff w h hr
 have h2:=Bfg a.fL
 have h3:=Bfh a.fQ
 show a.fP.Fy.length+a.fP.Hh.length+a.fP.Fz.length+((a.fL.map Ayc).map Ap9).sum+((a.fQ.map Awi).map Aqr).sum+a.Pr.length≤_;omega
section
variable {K:Nat} (hK:281474976710656≤K)
include hK
theorem A27{α β:Type}(l:List α)(hl:l.length≤140737488355327)(fin:Option β)(L:Nat->List α->Int->Option β)
  (hs: ∀n v (i:Nat) (h:i<l.length),v.length=i->L (n+1) v (i:Int)=L n (v++[l[i]]) ((i+1:Nat):Int))
  (he: ∀n,L (n+1) l (l.length:Int)=fin):L K [] 0=fin:=by
 have:=A25 hK l (by omega) (fun _=>true) fin none (fun n i=>L n (l.take i) (i:Int)) (fun n i h=>by
  rw[hs n _ i h (by simp;omega),List.take_append_getElem];rfl) (fun n=>by rw[List.take_length];exact he n)
 rw[Z1.2 (fun _ _=>rfl)]at this;simpa using this
omit hK in
theorem Ba9 (K:Nat){p:Dw}(w:Bld p):Av3 K p=some p:=by
 have hm:=Ant
 have h1:=w.mem.2
 have h2:=w.st.2
 have h3:=w.own.2;unfold Av3;simp only[Zg];rw[if_pos ⟨by omega,by omega⟩,if_pos ⟨by omega,by omega⟩,if_pos ⟨by omega,by omega⟩]
omit hK in
theorem Bba (K:Nat){n:Ba}(w:A1e n):Av4 K n=some n:=by
 have hm:=Ant
 have h1:=w.chunks.2
 have h2:=w.things.2
 have h3:=w.tags.2;unfold Av4;simp only[Zg];rw[if_pos ⟨by omega,by omega⟩,if_pos ⟨by omega,by omega⟩,if_pos ⟨by omega,by omega⟩]
theorem Bcp{l:List Ba}(w:Aix l):Aw0 K l=some l:=by
 have hm:=Ant
 have h2:=w.2;unfold Aw0;refine A27 hK l (Aem w) (some l) (fun n v i=>Aqi K l n v i) (fun n v i h hv=> ?_) (fun n=> ?_)
 ·have hl:(v++[l[i]]).length=i+1:=by simp[hv]
  simp only[Aqi];rw[Ae9 h,cond_true,if_pos (Ajc h),Aej h,Bba K (w.1 _ (List.getElem_mem h)),Z0,if_pos ⟨by rw[hl];omega,by rw[hl];omega⟩,Ahd (by omega)]
 ·show Aqi K l (n+1) _ _=_;rw[Aqi,Afe (Z9 _),cond_false]
omit hK in
theorem A9w (K:Nat){x:Ax}(w:Azr x):Auy K x=some x:=by
 have hm:=Ant
 have h1:=w.tags.2
 have h2:=w.chunks.2;unfold Auy;simp only[Zg];rw[if_pos ⟨by omega,by omega⟩,if_pos ⟨by omega,by omega⟩]
theorem A9x{w:Eb}(hw:Aru w):Auz K w=some w:=by
 have hm:=Ant
 have h2:=hw.q.2
 have h3:=hw.log.2;unfold Auz;rw[Ba9 K hw.p,Z0,Bcp hK hw.l,Z0]
 refine A27 hK w.fQ (by omega) (some w) (fun n v i=>App K n i w.fC.Ae w.fC.Eg w.fC.C0 w.fC.E9 w.fC.C1 w.fC.Eh w.fP.Fy w.fP.Hh w.fP.Fz w.fL v w.Pr (Eb.mk (Er.mk 0 0 0 0 0 0) (Dw.mk [] [] []) [] [] []) w.fC.Ae w.fC.Eg w.fC.C0 w.fC.E9 w.fC.C1 w.fC.Eh w.fP.Fy w.fP.Hh w.fP.Fz w.fL w.fQ w.Pr) (fun n v i h hv=> ?_) (fun n=> ?_)
 ·have hl:(v++[w.fQ[i]]).length=i+1:=by simp[hv]
  simp only[App];rw[Ae9 h,cond_true,if_pos (Ajc h),Aej h,A9w K (hw.q.1 _ (List.getElem_mem h)),Z0,if_pos ⟨by rw[hl];omega,by rw[hl];omega⟩,Ahd (by omega)]
 ·show App K (n+1) _ _ _ _ _ _ _ _ _ _ _ _ _ _ _ _ _ _ _ _ _ _ _ _ _ _=_;rw[App,Afe (Z9 _),cond_false];simp only[Zg];rw[if_pos ⟨by omega,by omega⟩]
omit hK in
theorem A64 (K:Nat){p:Dw}(w:Bld p):Aub K p=some p:=by
 unfold Aub;rw[A0k K w.mem.2,Auu K w.st.2,Auu K w.own.2];rfl
omit hK in
theorem A65 (K:Nat){n:Ba}(w:A1e n):Auc K n=some n:=by
 unfold Auc;rw[Auu K w.chunks.2,Bat K w.things.2,Auu K w.tags.2];rfl
theorem A6f{l:List Ba}(w:Aix l):Atd K l=some l:=by
 have hm:=Ant
 have h2:=w.2;unfold Atd;refine A27 hK l (Aem w) (some l) (fun n v i=>Anj K l n v (l.length:Int) i) (fun n v i h hv=> ?_) (fun n=> ?_)
 ·have hl:(v++[l[i]]).length=i+1:=by simp[hv]
  simp only[Anj];rw[Ae9 h,cond_true,if_pos (Ajc h),Aej h,A65 K (w.1 _ (List.getElem_mem h)),Z0,if_pos ⟨by rw[hl];omega,by rw[hl];omega⟩,Ahd (by omega)]
 ·show Anj K l (n+1) _ _ _=_;rw[Anj,Afe (Z9 _),cond_false]
omit hK in
theorem A6g (K:Nat){x:Ax}(w:Azr x):Ate K x=some x:=by
 unfold Ate;rw[Auu K w.tags.2,Auu K w.chunks.2];rfl
theorem Blp{α:Type}(v:List α)(d x:α):(v++[d]).set (v.length:Int).toNat x=v++[x]:=by
 rw[Int.toNat_natCast,List.set_append_right _ _ (Z9 _)];simp
theorem A6h{w:Eb}(hw:Aru w):Arn K w=some w:=by
 have hm:=Ant
 have h2:=hw.q.2;unfold Arn;rw[A64 K hw.p,Z0,A6f hK hw.l,Z0,Auu K hw.log.2,Z0];refine A27 hK w.fQ (by omega) (some w) (fun n v i=>Ank K n w.fQ (w.fQ.length:Int) i (Eb.mk w.fC w.fP w.fL v w.Pr) (Eb.mk (Er.mk 0 0 0 0 0 0) (Dw.mk [] [] []) [] [] [])) (fun n v i h hv=> ?_) (fun n=> ?_)
 ·simp only[Ank];rw[Ae9 h,cond_true,if_pos (Ajc h),Aej h,A6g K (hw.q.1 _ (List.getElem_mem h)),Z0,if_pos ⟨by omega,by omega⟩,Ahd (by omega),Blp hK]
 ·show Ank K (n+1) _ _ _ _ _=_;rw[Ank,Afe (Z9 _),cond_false]
end
theorem Bcq (K:Nat)(r:Fg): ∃t,Aw3 K r=some t∧Aw7 K r=some t:=by
 unfold Aw3 Aw7;rw[Az9,A0a];simp only[Z0];cases Avs r.fH<;>cases decide (r.Ly≥0)<;>exact⟨_,rfl,rfl⟩
theorem A9y (K:Nat){n:Ba}(hn:A1e n)(r:Fg): ∃t,Au7 K n r=some t∧Avh K n r=some t∧Azq t.1:=by
 have wz:Azq (A9.mk 0 0 0):=⟨⟨by decide,by decide⟩,⟨by decide,by decide⟩,⟨by decide,by decide⟩⟩
 have h2:=hn.things
 have hl:n.Ea.length≤140737488355327:=by have:=h2.2;omega
 unfold Au7 Avh;rw[A1f K hl,A7a K hl];simp only[Z0]
 by_cases hs:0≤r.fNo∧r.fNo<(n.Ea.length:Int)
 ·rw[decide_eq_true hs,if_pos hs]
  have wt:=h2.1 _ (Ax0 hs.1 hs.2);cases n.Hh != 1<;>cases n.Ly != r.Ly<;>first|exact⟨_,rfl,rfl,wz⟩|exact⟨_,rfl,rfl,wt⟩
 ·rw[decide_eq_false hs];cases n.Hh != 1<;>cases n.Ly != r.Ly<;>exact⟨_,rfl,rfl,wz⟩
theorem A6i{K:Nat}(hK:281474976710656≤K){w:Eb}(hw:Aix w.fL)(r:Fg): ∃t,Atb K w r=some t∧Atf K w r=some t∧Azq t.2.1:=by
 have wz:Azq (A9.mk 0 0 0):=⟨⟨by decide,by decide⟩,⟨by decide,by decide⟩,⟨by decide,by decide⟩⟩
 unfold Atb Atf;obtain⟨t,h1,h2⟩:=Bcq K r;rw[h1,h2,A6y hK hw,A6z hK hw];simp only[Z0];cases t with
 |false=>exact⟨_,rfl,rfl,wz⟩
 |true=>
  try simp only[cond_true]
  by_cases h0:(A0b w.fL r.fH).2=0
  ·have hi:=Blg h0;rw[if_pos hi,if_pos hi,h0];obtain⟨q,h3,h4,h5⟩:=A9y K (hw.1 _ (Ax0 hi.1 hi.2)) r;rw[h3,h4];simp only[Z0];cases q.2<;>first|exact⟨_,rfl,rfl,wz⟩|exact⟨_,rfl,rfl,h5⟩
  ·have:((A0b w.fL r.fH).2 != 0)=true:=by simpa using h0
   rw[this];exact⟨_,rfl,rfl,wz⟩
theorem Blq (K:Nat){mem:List Int}(hl:mem.length≤140737488355327)(p n:Int):Au8 K mem p n=some (decide (0≤p∧0≤n∧p+n≤(mem.length:Int))):=by
 unfold Au8
 by_cases h1:(0:Int)≤p
 ·rw[decide_eq_true (show p≥0 from h1)]
  by_cases h2:(0:Int)≤n
  ·rw[decide_eq_true (show n≥0 from h2)]
   by_cases h3:p≤(mem.length:Int)
   ·rw[decide_eq_true h3];simp only[cond_true,Z7,decide_eq_decide];unfold Aob;rw[Ag1 (by omega) (by omega)]
    omega
   ·rw[decide_eq_false h3];simp only[cond_true,cond_false,Z7];exact(decide_eq_false (by omega)).symm
  ·rw[decide_eq_false (show ¬n≥0 from h2)]
   simp only[cond_true,cond_false,Z7];exact(decide_eq_false (by omega)).symm
 ·rw[decide_eq_false (show ¬p≥0 from h1)]
  simp only[cond_false,Z7];exact(decide_eq_false (by omega)).symm
theorem Blr (K:Nat){m:Nat}(hl:m≤140737488355327)(p n:Int):Axf K (m:Int) p n=some (decide (0≤p∧0≤n∧p+n≤(m:Int))):=by
 unfold Axf Abk
 by_cases h2:(0:Int)≤n
 ·rw[decide_eq_true (show n≥0 from h2)]
  by_cases h3:n≤(m:Int)
  ·rw[decide_eq_true h3]
   by_cases h1:(0:Int)≤p
   ·rw[decide_eq_true (show p≥0 from h1)]
    simp only[cond_true,Z0,Z7,decide_eq_decide];unfold Aob;rw[Ag1 (by omega) (by omega)]
    omega
   ·rw[decide_eq_false (show ¬p≥0 from h1)]
    simp only[cond_true,cond_false,Z0,Z7];exact(decide_eq_false (by omega)).symm
  ·rw[decide_eq_false h3];simp only[cond_true,cond_false,Z7];exact(decide_eq_false (by omega)).symm
 ·rw[decide_eq_false (show ¬n≥0 from h2)]
  simp only[cond_false,Z7];exact(decide_eq_false (by omega)).symm
theorem Bcr (K:Nat){mem:List Int}(hl:mem.length≤140737488355327){t:A9}(wt:Azq t)(at_ n:Int):
  ∃r,Avi K mem t at_ n=some r∧r.2=decide ((0≤at_∧0≤n∧at_+n≤t.Vu)∧0≤Aoa .i64 t.fAt at_∧Aoa .i64 t.fAt at_+n≤(mem.length:Int))∧(r.2=true->r.1=Aoa .i64 t.fAt at_):=by
 obtain⟨wl1,wl2⟩:=wt.2.1;unfold Avi
 by_cases h1:at_<0
 ·rw[decide_eq_true h1];exact⟨_,rfl,(decide_eq_false (by omega)).symm,fun h=>by cases h⟩
 ·rw[decide_eq_false h1]
  by_cases h2:n<0
  ·rw[decide_eq_true h2];exact⟨_,rfl,(decide_eq_false (by omega)).symm,fun h=>by cases h⟩
  ·rw[decide_eq_false h2]
   by_cases h3:n>t.Vu
   ·rw[decide_eq_true h3];exact⟨_,rfl,(decide_eq_false (by omega)).symm,fun h=>by cases h⟩
   ·rw[decide_eq_false h3]
    have e:Aob .i64 t.Vu n=t.Vu - n:=by unfold Aob;rw[Ag1 (by omega) (by omega)]
    rw[e]
    by_cases h4:at_>t.Vu - n
    ·rw[decide_eq_true h4];exact⟨_,rfl,(decide_eq_false (by omega)).symm,fun h=>by cases h⟩
    ·rw[decide_eq_false h4]
     by_cases h5:Aoa .i64 t.fAt at_<0
     ·rw[decide_eq_true h5];exact⟨_,rfl,(decide_eq_false (by omega)).symm,fun h=>by cases h⟩
     ·rw[decide_eq_false h5,Blr K hl];refine⟨_,rfl,?_,fun _=>rfl⟩;simp only[decide_eq_decide];omega
def Avx (n:Nat)(k:Nat):List Int:=(List.range n).map fun i=>IntKind.u8.wrap ((k+i:Nat):Int)
theorem Auk (n k:Nat):(Avx n k).length=n:=by simp[Avx]
theorem Bbb{K:Nat}(k:Nat): ∀(n i:Nat) (v:List Int),k+v.length≤140737488355327->i≤v.length->(∀j,j<i->v[j]? =(Avx v.length k)[j]?)->v.length - i<n→
  Aqn K n v ((k+i:Nat):Int) (i:Int)=some (((k+v.length:Nat):Int),Avx v.length k):=by
 intro n
 induction n with
 |zero=>intro i v _ _ _ h;omega
 |succ n ih=>
  intro i v hl hi hj hn;rw[Aqn];rcases F9 i v.length with h|h
  ·rw[Ae9 h];simp only[cond_true]
   have e:Aoa .i64 ((k+i:Nat):Int) 1=((k+(i+1):Nat):Int):=by unfold Aoa;rw[Ag1 (by omega) (by omega)];omega
   rw[if_pos ⟨by omega,by omega⟩,e,Ahd (i:=i) (by omega)]
   have:=ih (i+1) (v.set (i:Int).toNat (IntKind.u8.wrap ((k+i:Nat):Int))) (by simpa using hl) (by simp only[Z49];omega) (fun j hj2=>by
    rw[Int.toNat_natCast,V8,Z49]
    by_cases e:i=j
    ·subst e;rw[if_pos rfl,if_pos h];simp[Avx,h]
    ·rw[if_neg e];exact hj j (by omega)) (by simp only[Z49];omega)
   rw[this];simp
  ·rw[Afe h]
   have hia:i=v.length:=by omega
   subst hia
   have e:v=Avx v.length k:=by
    refine List.ext_getElem? fun j=> ?_;rcases F9 j v.length with hja|hja
    ·exact hj j hja
    ·rw[Z58 (by omega),Z58 (by rw[Auk];omega)]
   simp only[cond_false];rw[←e]
theorem Bbc{K:Nat}(m k:Nat)(hl:k+m≤140737488355327): ∀(n i:Nat),i≤m->m - i<n->Aqo K (Avx m k) n ((k+i:Nat):Int) (i:Int)=some ((k+m:Nat):Int):=by
 intro n
 induction n with
 |zero=>intro i _ h;omega
 |succ n ih=>
  intro i hi hn;rw[Aqo];rcases F9 i m with h|h
  ·have hlt:i<(Avx m k).length:=by rw[Auk];exact h
   have e:Aoa .i64 ((k+i:Nat):Int) 1=((k+(i+1):Nat):Int):=by unfold Aoa;rw[Ag1 (by omega) (by omega)];omega
   rw[Ae9 hlt,if_pos ⟨by omega,by omega⟩,Aej hlt,e,Ahd (i:=i) (by omega),ih (i+1) h (by omega)]
   simp[Avx]
  ·have:i=m:=by omega
   subst this;rw[Afe (by rw[Auk];exact h)]
   rfl
def Bbd (w:Eb)(h:Ct):Int:=((Apd w.fL w.fL.length (Arv w.fL h)).length:Int)
theorem Bcs{l:List Ba}(hl:l.length≤140737488355327)(h:Ct):wfi (Arv l h):=by
 by_cases h0:Arv l h<0
 ·unfold Arv at *;split at h0
  ·rename_i h1;rw[if_pos h1]at *;obtain⟨⟨a,b⟩,_⟩:=h1;exact⟨by omega,by omega⟩
  ·rename_i h1;rw[if_neg h1];exact⟨by omega,by omega⟩
 ·have:=A2k h0;exact⟨by omega,by omega⟩
section
variable {K:Nat} (hK:281474976710656≤K)
include hK
theorem A2r (a:List Int)(k:Nat)(hk:k+a.length≤140737488355327):Aqe K a (k:Int)=some (((k+a.length:Nat):Int),Avx a.length k):=by
 unfold Aqe;exact Bbb k K 0 a hk (Z21 _) (fun j hj=>by omega) (by omega)
theorem A7h (m k:Nat)(hl:k+m≤140737488355327):Ars K (Avx m k) (k:Int)=some ((k+m:Nat):Int):=by
 unfold Ars;exact Bbc m k hl K 0 (Z21 _) (by omega)
theorem Bfi (w:Eb)(hw:Aix w.fL)(h:Ct):Av8 K w h=some (Bbd w h):=by
 have hl:=Aem hw;unfold Av8 Ax7;rw[Ayv K hl,Z0,A0m hK hw _ (Bcs hl h)];rfl
theorem Bfj (w:Eb)(hw:Aix w.fL)(h:Ct):Awd K w h=some (Bbd w h):=by
 have hl:=Aem hw;unfold Awd Ax8;rw[A1g K hl,Z0,A0n hK hw];rfl
def A6j (code Fe:Int)(b:List Int):Fh:=Fh.mk code (Ct.mk 0 0) (Fg.mk (Ct.mk 0 0) 0 0) b Fe 0 0
end
section
variable {β:Type} [Inhabited β]
def Atl (c:β->Nat)(m:β->Nat->β):List β->Nat->List β
 |[],_=>[]
 |x::l,k=>m x k::Atl c m l (k+c x)
theorem Av2 (c:β->Nat)(m:β->Nat->β): ∀(l:List β) (k:Nat),(Atl c m l k).length=l.length
 |[],_=>rfl
 |x::l,k=>by simp[Atl,Av2 c m l]
theorem A0t (c:β->Nat)(m:β->Nat->β)(L:Nat->Int->Int->List β->Option (Int×List β))
  (h0: ∀n k (v:List β),L (n+1) k (v.length:Int) v=some (k,v))
  (hL: ∀n (k i:Nat) (v:List β),i<v.length->v.length≤140737488355327->k+c (gt v (i:Int))≤140737488355327->L (n+1) (k:Int) (i:Int) v=L n ((k+c (gt v (i:Int)):Nat):Int) ((i+1:Nat):Int) (v.set (i:Int).toNat (m (gt v (i:Int)) k))):
  ∀(l pre:List β) (n k:Nat),(pre++l).length≤140737488355327->l.length<n->k+(l.map c).sum≤140737488355327→
   L n (k:Int) (pre.length:Int) (pre++l)=some (((k+(l.map c).sum:Nat):Int),pre++Atl c m l k):=by
 intro l
 induction l with
 |nil=>
  intro pre n k _ hn _;obtain⟨n,rfl⟩: ∃n',n=n'+1:=⟨n - 1,by simp at hn;omega⟩
  simp only[List.append_nil,Gz,List.sum_nil,Nat.add_zero,Atl];exact h0 _ _ _
 |cons x l ih=>
  intro pre n k hl hn hk;obtain⟨n,rfl⟩: ∃n',n=n'+1:=⟨n - 1,by omega⟩
  have hlt:pre.length<(pre++x::l).length:=by simp
  have hg:gt (pre++x::l) (pre.length:Int)=x:=by rw[Aej hlt];simp
  simp only[Z8,List.sum_cons]at hk ⊢;rw[hL n k pre.length _ hlt hl (by rw[hg];omega),hg]
  have e:(pre++x::l).set (pre.length:Int).toNat (m x k)=(pre++[m x k])++l:=by
   rw[Int.toNat_natCast,List.set_append_right _ _ (Z9 _)];simp
  rw[e]
  have:=ih (pre++[m x k]) n (k+c x) (by simp at hl ⊢;omega) (by simp at hn;omega) (by omega)
  rw[show(pre++[m x k]).length=pre.length+1 by simp]at this
  rw[this,Zb];simp[Atl]
theorem A0u (c:β->Nat)(m:β->Nat->β)(l0:List β)(a:List β)(H:Nat->Int->Int->Option Int)
  (h0: ∀n k,H (n+1) k (a.length:Int)=some k)
  (hH: ∀n (k i:Nat) x,x∈l0->i<a.length->a.length≤140737488355327->k+c x≤140737488355327->gt a (i:Int)=m x k->H (n+1) (k:Int) (i:Int)=H n ((k+c x:Nat):Int) ((i+1:Nat):Int)):
  ∀(l pre:List β) (n k:Nat),(∀x∈l,x∈l0)->a=pre++Atl c m l k->a.length≤140737488355327->l.length<n->k+(l.map c).sum≤140737488355327→
   H n (k:Int) (pre.length:Int)=some ((k+(l.map c).sum:Nat):Int):=by
 intro l
 induction l with
 |nil=>
  intro pre n k _ ha _ hn _;obtain⟨n,rfl⟩: ∃n',n=n'+1:=⟨n - 1,by simp at hn;omega⟩
  simp only[Atl,List.append_nil]at ha;simp only[Gz,List.sum_nil,Nat.add_zero];rw[←ha];exact h0 _ _
 |cons x l ih=>
  intro pre n k hm ha hl hn hk;obtain⟨n,rfl⟩: ∃n',n=n'+1:=⟨n - 1,by omega⟩
  simp only[Atl]at ha
  have hlt:pre.length<a.length:=by rw[ha];simp
  have hg:gt a (pre.length:Int)=m x k:=by rw[Aej hlt];simp[ha]
  simp only[Z8,List.sum_cons]at hk ⊢;rw[hH n k pre.length x (hm x (by simp)) hlt hl (by omega) hg]
  have:=ih (pre++[m x k]) n (k+c x) (fun y hy=>hm y (by simp[hy])) (by rw[ha];simp) hl (by simp at hn;omega) (by omega)
  rw[show(pre++[m x k]).length=pre.length+1 by simp]at this
  rw[this,Zb]
end
def A9z (_:A9)(k:Nat):A9:=A9.mk (k:Nat) ((k+1:Nat):Int) ((k+2:Nat):Int)
def A0v (l:List A9)(k:Nat):List A9:=Atl Ba8 A9z l k
def Ayy (x:Ba)(k:Nat):Ba:=Ba.mk (k:Nat) ((k+1:Nat):Int) ((k+2:Nat):Int) ((k+3:Nat):Int) ((k+4:Nat):Int) ((k+5:Nat):Int) ((k+6:Nat):Int) ((k+7:Nat):Int)
 (Avy x.Ae.length (k+8)) ((k+8+x.Ae.length:Nat):Int) ((k+8+x.Ae.length+1:Nat):Int) (A0v x.Ea (k+8+x.Ae.length+1+1)) (Avy x.Dg.length (k+8+x.Ae.length+1+1+3*x.Ea.length))
def Ayz (x:Ax)(k:Nat):Ax:=Ax.mk (k:Nat) ((k+1:Nat):Int) (Avy x.Dg.length (k+2)) (Avy x.Ae.length (k+2+x.Dg.length)) ((k+2+x.Dg.length+x.Ae.length:Nat):Int)
section
variable {K:Nat} (hK:281474976710656≤K)
include hK
theorem Bfk (a:List A9)(k:Nat)(hk:k+3*a.length≤140737488355327):Ask K a (k:Int)=some (((k+3*a.length:Nat):Int),A0v a k):=by
 unfold Ask
 have:=A0t Ba8 A9z (fun n k i v=>Alo K n v k i) (fun n k v=>by show Alo K (n+1) v k _=_;rw[Alo,Afe (Z9 _)];rfl)
  (fun n k i v h hv hk=>by
   have hk2:k+3≤140737488355327:=hk;simp only[Alo];rw[Ae9 h,cond_true,if_pos (Ajc h)];simp only[Aql,Z49,Bcn h,Bv5,if_pos (Ajc h)];simp (disch:=omega) only[Ayk];rfl) a [] K k (by simp;omega) (by omega) (by rw[Az1];exact hk)
 rw[Az1]at this;exact this
theorem Bfl (a:List Ba)(k:Nat)(ha:a.length≤140737488355327)(hk:k+(a.map Ap9).sum≤140737488355327):Ati K a (k:Int)=some (((k+(a.map Ap9).sum:Nat):Int),Atl Ap9 Ayy a k):=by
 unfold Ati;exact A0t Ap9 Ayy (fun n k i v=>Anl K n v k i) (fun n k v=>by show Anl K (n+1) v k _=_;rw[Anl,Afe (Z9 _)];rfl)
  (fun n k i v h hv hk=>by
   have hk2:k+(10+(gt v (i:Int)).Ae.length+3*(gt v (i:Int)).Ea.length+(gt v (i:Int)).Dg.length)≤140737488355327:=hk
   have e8:(Aoa .i64 (Aoa .i64 (Aoa .i64 (Aoa .i64 (Aoa .i64 (Aoa .i64 (Aoa .i64 (Aoa .i64 (k:Int) 1) 1) 1) 1) 1) 1) 1) 1)=((k+8:Nat):Int):=by
    simp (disch:=omega) only[Ayk]
   simp only[Anl];rw[Ae9 h,cond_true,if_pos (Ajc h)];simp only[Aql,Z49,Bcn h,Bv5,if_pos (Ajc h)];rw[e8,Axp hK _ _ (by omega)]
   simp only[Z0,Aqf,if_true];rw[Ayk (k:=k+8+(gt v (i:Int)).Ae.length) (by omega),Ayk (k:=k+8+(gt v (i:Int)).Ae.length+1) (by omega),Bfk hK _ _ (by omega)]
   simp only[Z0,A0v,Av2,if_true];rw[Axp hK _ _ (by omega)]
   simp only[Z0,Aqf,if_true];simp (disch:=omega) only[Ayk]
   have e:k+8+(gt v (i:Int)).Ae.length+1+1+3*(gt v (i:Int)).Ea.length+(gt v (i:Int)).Dg.length=k+Ap9 (gt v (i:Int)):=by unfold Ap9;omega
   rw[e];rfl) a [] K k (by simpa using ha) (by omega) hk
theorem Bfm (a:List Ax)(k:Nat)(ha:a.length≤140737488355327)(hk:k+(a.map Aqr).sum≤140737488355327):Asl K a (k:Int)=some (((k+(a.map Aqr).sum:Nat):Int),Atl Aqr Ayz a k):=by
 unfold Asl;exact A0t Aqr Ayz (fun n k i v=>Al3 K n v k i) (fun n k v=>by show Al3 K (n+1) v k _=_;rw[Al3,Afe (Z9 _)];rfl)
  (fun n k i v h hv hk=>by
   have hk2:k+(3+(gt v (i:Int)).Dg.length+(gt v (i:Int)).Ae.length)≤140737488355327:=hk
   have e8:Aoa .i64 (Aoa .i64 (k:Int) 1) 1=((k+2:Nat):Int):=by simp (disch:=omega) only[Ayk]
   simp only[Al3];rw[Ae9 h,cond_true,if_pos (Ajc h)];simp only[Aql,Z49,Bcn h,Bv5,if_pos (Ajc h)];rw[e8,Axp hK _ _ (by omega)]
   simp only[Z0,Aqf,if_true];rw[Axp hK _ _ (by omega)]
   simp only[Z0,Aqf,if_true];simp (disch:=omega) only[Ayk]
   have e:k+2+(gt v (i:Int)).Dg.length+(gt v (i:Int)).Ae.length+1=k+Aqr (gt v (i:Int)):=by unfold Aqr;omega
   rw[e];rfl) a [] K k (by simpa using ha) (by omega) hk
theorem Bct (m k:Nat)(hl:k+m≤140737488355327): ∀(n i:Nat),i≤m->m - i<n->Aq5 K (Avy m k) n ((k+i:Nat):Int) (i:Int)=some ((k+m:Nat):Int):=by
 intro n
 induction n with
 |zero=>intro i _ h;omega
 |succ n ih=>
  intro i hi hn;rw[Aq5];rcases F9 i m with h|h
  ·have hlt:i<(Avy m k).length:=by rw[Aqf];exact h
   have e:Aoa .i64 ((k+i:Nat):Int) 1=((k+(i+1):Nat):Int):=by unfold Aoa;rw[Ag1 (by omega) (by omega)];omega
   rw[Ae9 hlt,if_pos ⟨by omega,by omega⟩,Aej hlt,e,Ahd (i:=i) (by omega),ih (i+1) h (by omega)]
   simp[Avy]
  ·have:i=m:=by omega
   subst this;rw[Afe (by rw[Aqf];exact h)]
   rfl
theorem Axq (m k:Nat)(hl:k+m≤140737488355327):Ald K (Avy m k) (k:Int)=some ((k+m:Nat):Int):=by
 unfold Ald;exact Bct hK m k hl K 0 (Z21 _) (by omega)
omit hK in
theorem Anz (k:Nat):decide ((k:Int)<0)=false:=decide_eq_false (by omega)
theorem Bls (a:List A9)(k:Nat)(hk:k+3*a.length≤140737488355327):Asm K (A0v a k) (k:Int)=some ((k+3*a.length:Nat):Int):=by
 unfold Asm
 have:=A0u Ba8 A9z a (A0v a k) (fun n q i=>Al4 K (A0v a k) n q i) (fun n q=>by show Al4 K _ (n+1) q _=_;rw[Al4,Afe (Z9 _)];rfl)
  (fun n q i x _ h hv hq hg=>by
   have hk2:q+3≤140737488355327:=hq;simp only[Al4];rw[Ae9 h,cond_true];simp only[if_pos (Ajc h),hg,A9z];simp (disch:=omega) only[Ayk];simp only[bne_self_eq_false,cond_false];rfl) a [] K k (fun x hx=>hx) rfl (by unfold A0v;rw[Av2];omega) (by omega) (by rw[Az1];exact hk)
 rw[Az1]at this;exact this
theorem Blt (a:List Ba)(k:Nat)(ha:a.length≤140737488355327)(hk:k+(a.map Ap9).sum≤140737488355327):Atj K (Atl Ap9 Ayy a k) (k:Int)=some ((k+(a.map Ap9).sum:Nat):Int):=by
 unfold Atj;exact A0u Ap9 Ayy a (Atl Ap9 Ayy a k) (fun n q i=>Anm K (Atl Ap9 Ayy a k) n q i) (fun n q=>by show Anm K _ (n+1) q _=_;rw[Anm,Afe (Z9 _)];rfl)
  (fun n q i x _ h hv hq hg=>by
   have hk2:q+(10+x.Ae.length+3*x.Ea.length+x.Dg.length)≤140737488355327:=hq;simp only[Anm];rw[Ae9 h,cond_true];simp only[if_pos (Ajc h),hg,Ayy];simp (disch:=omega) only[Ayk];simp only[bne_self_eq_false,cond_false];rw[Axq hK _ _ (by omega)]
   simp only[Z0,Anz,cond_false,bne_self_eq_false];rw[Ayk (k:=q+8+x.Ae.length) (by omega),Ayk (k:=q+8+x.Ae.length+1) (by omega)]
   simp only[bne_self_eq_false,cond_false];rw[Bls hK _ _ (by omega)]
   simp only[Z0,Anz,cond_false];rw[Axq hK _ _ (by omega)]
   simp only[Z0,Anz,cond_false];rw[show q+8+x.Ae.length+1+1+3*x.Ea.length+x.Dg.length=q+Ap9 x by unfold Ap9;omega]) a [] K k (fun x hx=>hx) rfl (by rw[Av2];exact ha) (by omega) hk
theorem Blu (a:List Ax)(k:Nat)(ha:a.length≤140737488355327)(hk:k+(a.map Aqr).sum≤140737488355327):Asn K (Atl Aqr Ayz a k) (k:Int)=some ((k+(a.map Aqr).sum:Nat):Int):=by
 unfold Asn;exact A0u Aqr Ayz a (Atl Aqr Ayz a k) (fun n q i=>Al5 K (Atl Aqr Ayz a k) n q i) (fun n q=>by show Al5 K _ (n+1) q _=_;rw[Al5,Afe (Z9 _)];rfl)
  (fun n q i x _ h hv hq hg=>by
   have hk2:q+(3+x.Dg.length+x.Ae.length)≤140737488355327:=hq;simp only[Al5];rw[Ae9 h,cond_true];simp only[if_pos (Ajc h),hg,Ayz];simp (disch:=omega) only[Ayk];simp only[bne_self_eq_false,cond_false];rw[Axq hK _ _ (by omega)]
   simp only[Z0,Anz,cond_false,bne_self_eq_false];rw[Axq hK _ _ (by omega)]
   simp only[Z0,Anz,cond_false,bne_self_eq_false];rw[Ayk (k:=q+2+x.Dg.length+x.Ae.length) (by omega)]
   rw[show q+2+x.Dg.length+x.Ae.length+1=q+Aqr x by unfold Aqr;omega]) a [] K k (fun x hx=>hx) rfl (by rw[Av2];exact ha) (by omega) hk
end
def A7i (w:Eb)(k:Nat):List Int:=Avx w.fP.Fy.length k
def Bfn (w:Eb)(k:Nat):List Int:=Avy w.fP.Hh.length (k+w.fP.Fy.length)
def A7j (w:Eb)(k:Nat):List Int:=Avy w.fP.Fz.length (k+w.fP.Fy.length+w.fP.Hh.length)
def mkL (w:Eb)(k:Nat):List Ba:=Atl Ap9 Ayy w.fL (k+Aww w.fP)
def mkQ (w:Eb)(k:Nat):List Ax:=Atl Aqr Ayz w.fQ (k+Aww w.fP+(w.fL.map Ap9).sum)
def Bbe (w:Eb)(k:Nat):List Int:=Avy w.Pr.length (k+Aww w.fP+(w.fL.map Ap9).sum+(w.fQ.map Aqr).sum)
theorem A90 (w:Eb)(k:Nat):(A7i w k).length=w.fP.Fy.length∧(Bfn w k).length=w.fP.Hh.length∧(A7j w k).length=w.fP.Fz.length∧(mkL w k).length=w.fL.length∧(mkQ w k).length=w.fQ.length∧(Bbe w k).length=w.Pr.length:=
 ⟨Auk _ _,Aqf _ _,Aqf _ _,Av2 _ _ _ _,Av2 _ _ _ _,Aqf _ _⟩
section
variable {K:Nat} (hK:281474976710656≤K)
include hK
theorem Bfo (w:Eb)(k:Nat)(hk:k+Aww w.fP≤140737488355327):Aui K w.fP (k:Int)=some (((k+Aww w.fP:Nat):Int),A7i w k,Bfn w k,A7j w k):=by
 unfold Aww at hk ⊢;unfold Aui;rw[A2r hK _ _ (by omega)]
 simp only[Z0];rw[if_pos (Auk _ _),Axp hK _ _ (by omega)]
 simp only[Z0];rw[if_pos (Aqf _ _),Axp hK _ _ (by omega)]
 simp only[Z0];rw[if_pos (Aqf _ _)];simp only[Zb,A7i,Bfn,A7j]
theorem A2y (w:Eb)(hL:w.fL.length≤140737488355327)(hQ:w.fQ.length≤140737488355327)(k:Nat)(hk:k+cells w≤140737488355327):Arr K w (k:Int)=some (((k+cells w:Nat):Int),A7i w k,Bfn w k,A7j w k,mkL w k,mkQ w k,Bbe w k):=by
 obtain⟨l1,l2,l3,l4,l5,l6⟩:=A90 w k;unfold cells at hk ⊢;unfold Arr;rw[Bfo hK w k (by omega)]
 simp only[Z0];rw[if_pos ⟨l1,l2,l3⟩,Bfl hK _ _ hL (by omega)]
 simp only[Z0];rw[if_pos (show(Atl Ap9 Ayy w.fL (k+Aww w.fP)).length=w.fL.length from l4),Bfm hK _ _ hQ (by omega)]
 simp only[Z0];rw[if_pos (show(Atl Aqr Ayz w.fQ (k+Aww w.fP+(w.fL.map Ap9).sum)).length=w.fQ.length from l5),Axp hK _ _ (by omega)]
 simp only[Z0];rw[if_pos (Aqf _ _)];simp only[Zb,mkL,mkQ,Bbe]
theorem Bbf (w:Eb)(hL:w.fL.length≤140737488355327)(hQ:w.fQ.length≤140737488355327)(k:Nat)(hk:k+cells w≤140737488355327)(c:Er):Art K (Eb.mk c (Dw.mk (A7i w k) (Bfn w k) (A7j w k)) (mkL w k) (mkQ w k) (Bbe w k)) (k:Int)=some ((k+cells w:Nat):Int):=by
 unfold cells at hk ⊢;unfold Art Awv;simp only[A7i,Bfn,A7j,mkL,mkQ,Bbe]
 have hP:Aww w.fP=w.fP.Fy.length+w.fP.Hh.length+w.fP.Fz.length:=rfl;rw[A7h hK _ _ (by omega)]
 simp only[Z0,Anz,cond_false];rw[Axq hK _ _ (by omega)]
 simp only[Z0,Anz,cond_false];rw[Axq hK _ _ (by omega)]
 simp only[Z0,Anz,cond_false];rw[show k+w.fP.Fy.length+w.fP.Hh.length+w.fP.Fz.length=k+Aww w.fP by omega,Blt hK _ _ hL (by omega)]
 simp only[Z0,Anz,cond_false];rw[Blu hK _ _ hQ (by omega)]
 simp only[Z0,Anz,cond_false];rw[Axq hK _ _ (by omega)]
 simp only[Z0,Anz,cond_false,Zb]
theorem Bou{a:Fh}(h:a.fB.length≤140737488355327):Ath K a a=some true:=by
 simp[Ath,Ayr,Auh,A2p hK h]
theorem Bfp (a:Fh)(k:Nat)(h:k+a.fB.length≤140737488355327):Avl K a (k:Int)=some (((k+a.fB.length:Nat):Int),Avx a.fB.length k):=by
 unfold Avl;rw[A2r hK _ _ h];simp only[Z0];rw[if_pos (Auk _ _)]
theorem Bfq (a:Fh)(m k:Nat)(h:k+m≤140737488355327):As1 K (Fh.mk a.W9 a.fH a.fR (Avx m k) a.Xa a.E9 a.Ps) (k:Int)=some ((k+m:Nat):Int):=by
 unfold As1;rw[A7h hK _ _ h];simp only[Z0,Anz,cond_false]
end
def Fb (mem:List Int)(p:Int)(s:List Int):List Int:=mem.take p.toNat++s++mem.drop (p.toNat+s.length)
def Ay0 (mem:List Int)(t:A9)(off:Int)(s:List Int):Bool:=decide ((0≤off∧(0:Int)≤(s.length:Int)∧off+(s.length:Int)≤t.Vu)∧0≤Aoa .i64 t.fAt off∧Aoa .i64 t.fAt off+(s.length:Int)≤(mem.length:Int))
def Aul (mem:List Int)(t:A9)(off:Int)(s:List Int):List Int×Bool:=bif Ay0 mem t off s then(Fb mem (Aoa .i64 t.fAt off) s,true)else(mem,false)
theorem Ft{mem:List Int}{p:Int}{s:List Int}(h0:0≤p)(h1:p+(s.length:Int)≤(mem.length:Int)):(Fb mem p s).length=mem.length:=by
 unfold Fb;simp;omega
theorem Blv{mem s:List Int}{p j:Nat}(hj:j<s.length)(hp:p+s.length≤mem.length):(mem.take p++s.take j++mem.drop (p+j)).set (p+j) s[j]=mem.take p++s.take (j+1)++mem.drop (p+(j+1)):=by
 have hl:(mem.take p++s.take j).length=p+j:=by simp;omega
 rw[List.set_append_right _ _ (by omega),hl,Nat.sub_self,Z47 (by omega:p+j<mem.length),List.set_cons_zero,←List.take_append_getElem hj]
 simp only[Zb,Lo,Qt,Zg]
section
variable {K:Nat} (hK:281474976710656≤K)
include hK
theorem Bcu{mem s:List Int}(hm:mem.length≤140737488355327)(p:Int)(hs:s.length≤140737488355327):Aw5 K mem p s=some (bif decide (0≤p∧(0:Int)≤(s.length:Int)∧p+(s.length:Int)≤(mem.length:Int))then(Fb mem p s,true)else(mem,false)):=by
 have hx:=Ant;unfold Aw5;simp only[Zg];rw[if_pos ⟨by omega,by omega⟩,Blq K hm,Z0,Ac2]
 by_cases h:0≤p∧(0:Int)≤(s.length:Int)∧p+(s.length:Int)≤(mem.length:Int)
 ·rw[decide_eq_true h,cond_true,cond_true];obtain⟨q,rfl⟩: ∃q:Nat,p=q:=⟨p.toNat,by omega⟩
  have:=A25 hK s (by omega) (fun _=>true) (some (Fb mem (q:Int) s,true)) none (fun n j=>Apw K (q:Int) s n (mem.take q++s.take j++mem.drop (q+j)) (j:Int)) (fun n j hj=> ?_) (fun n=> ?_)
  ·rw[Z1.2 (fun _ _=>rfl)]at this;simpa using this
  ·have hl:(mem.take q++s.take j++mem.drop (q+j)).length=mem.length:=by simp;omega
   have e:Aoa .i64 (q:Int) (j:Int)=((q+j:Nat):Int):=by unfold Aoa;rw[Ag1 (by omega) (by omega)];omega
   show Apw K (q:Int) s (n+1) _ _=_;rw[Apw,Ae9 hj,cond_true,if_pos (Ajc hj),e,hl,if_pos ⟨by omega,by omega⟩,Ahd (by omega),Aej hj,Int.toNat_natCast,Blv hj (by omega)]
   rfl
  ·show Apw K (q:Int) s (n+1) _ _=_;rw[Apw,Afe (Z9 _),cond_false,List.take_length];simp[Fb]
 ·rw[decide_eq_false h];rfl
theorem Bcv{mem s:List Int}(hm:mem.length≤140737488355327)(p:Int):Aw9 K mem p s=some (bif decide (0≤p∧(0:Int)≤(s.length:Int)∧p+(s.length:Int)≤(mem.length:Int))then(Fb mem p s,true)else(mem,false)):=by
 unfold Aw9;rw[A0k K hm,Blr K hm];simp only[Z0,Ac2]
 by_cases h:0≤p∧(0:Int)≤(s.length:Int)∧p+(s.length:Int)≤(mem.length:Int)
 ·rw[decide_eq_true h,cond_true,cond_true,if_pos ⟨h.1,by omega,Int.le_refl _⟩]
  have e:Nat.min s.length (((mem.length:Int) - p).toNat)=s.length:=Nat.min_eq_left (by omega)
  rw[e,List.take_length];rfl
 ·rw[decide_eq_false h];rfl
theorem A20{mem s:List Int}(hm:mem.length≤140737488355327)(hs:s.length≤140737488355327){t:A9}(wt:Azq t)(off:Int):Asg K mem t off s=some (Aul mem t off s):=by
 have hx:=Ant;obtain⟨wl1,wl2⟩:=wt.2.1;unfold Asg Ayo Aul Ay0;simp only[Zg];rw[if_pos ⟨by omega,by omega⟩,Bcu hK hm _ hs]
 simp only[Z0];rw[decide_eq_true (show(s.length:Int)≥0 by omega)]
 by_cases h1:(0:Int)≤off
 ·rw[decide_eq_true (show off≥0 from h1)]
  by_cases h3:off≤t.Vu
  ·rw[decide_eq_true h3]
   have e:Aob .i64 t.Vu off=t.Vu - off:=by unfold Aob;rw[Ag1 (by omega) (by omega)]
   rw[e]
   by_cases h4:(s.length:Int)≤t.Vu - off
   ·rw[decide_eq_true h4];simp only[cond_true]
    by_cases h5:0≤Aoa .i64 t.fAt off∧Aoa .i64 t.fAt off+(s.length:Int)≤(mem.length:Int)
    ·rw[decide_eq_true (show 0≤Aoa .i64 t.fAt off∧(0:Int)≤(s.length:Int)∧Aoa .i64 t.fAt off+(s.length:Int)≤(mem.length:Int) from⟨h5.1,by omega,h5.2⟩),decide_eq_true (show(0≤off∧(0:Int)≤(s.length:Int)∧off+(s.length:Int)≤t.Vu)∧0≤Aoa .i64 t.fAt off∧Aoa .i64 t.fAt off+(s.length:Int)≤(mem.length:Int) from⟨⟨h1,by omega,by omega⟩,h5⟩),decide_eq_true (show Aoa .i64 t.fAt off≥0 from h5.1)]
     cases decide (t.fAt<0)<;>rfl
    ·rw[decide_eq_false (show ¬(0≤Aoa .i64 t.fAt off∧(0:Int)≤(s.length:Int)∧Aoa .i64 t.fAt off+(s.length:Int)≤(mem.length:Int))by omega),decide_eq_false (show ¬((0≤off∧(0:Int)≤(s.length:Int)∧off+(s.length:Int)≤t.Vu)∧0≤Aoa .i64 t.fAt off∧Aoa .i64 t.fAt off+(s.length:Int)≤(mem.length:Int))by omega)]
     cases decide (t.fAt<0)<;>cases decide (Aoa .i64 t.fAt off≥0)<;>rfl
   ·rw[decide_eq_false h4,decide_eq_false (show ¬((0≤off∧(0:Int)≤(s.length:Int)∧off+(s.length:Int)≤t.Vu)∧0≤Aoa .i64 t.fAt off∧Aoa .i64 t.fAt off+(s.length:Int)≤(mem.length:Int))by omega)];rfl
  ·rw[decide_eq_false h3,decide_eq_false (show ¬((0≤off∧(0:Int)≤(s.length:Int)∧off+(s.length:Int)≤t.Vu)∧0≤Aoa .i64 t.fAt off∧Aoa .i64 t.fAt off+(s.length:Int)≤(mem.length:Int))by omega)];rfl
 ·rw[decide_eq_false (show ¬off≥0 from h1),decide_eq_false (show ¬((0≤off∧(0:Int)≤(s.length:Int)∧off+(s.length:Int)≤t.Vu)∧0≤Aoa .i64 t.fAt off∧Aoa .i64 t.fAt off+(s.length:Int)≤(mem.length:Int))by omega)];rfl
theorem A21{mem s:List Int}(hm:mem.length≤140737488355327){t:A9}(wt:Azq t)(off:Int):Asj K mem t off s=some (Aul mem t off s):=by
 obtain⟨r,h1,h2,h3⟩:=Bcr K hm wt off (s.length:Int);unfold Asj Aul Ay0;rw[h1,Z0,h2,Ac2]
 by_cases h:(0≤off∧(0:Int)≤(s.length:Int)∧off+(s.length:Int)≤t.Vu)∧0≤Aoa .i64 t.fAt off∧Aoa .i64 t.fAt off+(s.length:Int)≤(mem.length:Int)
 ·rw[decide_eq_true h,cond_true,cond_true,h3 (by rw[h2];exact decide_eq_true h),Bcv hK hm,decide_eq_true ⟨h.2.1,by omega,h.2.2⟩]
  rfl
 ·rw[decide_eq_false h,cond_false,cond_false,A0k K hm];rfl
def Bov (w:Eb)(mem:List Int):Eb:=Eb.mk w.fC (Dw.mk mem w.fP.Hh w.fP.Fz) w.fL w.fQ w.Pr
theorem Bfr{w:Eb}(hw:Aru w)(t:A9)(off:Int){s:List Int}(hs:A9i s):Aru (Bov w (Aul w.fP.Fy t off s).1)∧cells (Bov w (Aul w.fP.Fy t off s).1)=cells w:=by
 have hl:(Aul w.fP.Fy t off s).1.length=w.fP.Fy.length:=by
  unfold Aul;cases h:Ay0 w.fP.Fy t off s with
  |false=>rfl
  |true=>
   unfold Ay0 at h
   have:=of_decide_eq_true h;exact Ft this.2.1 this.2.2
 refine⟨⟨hw.c,⟨⟨fun x hx=> ?_,by show(Aul w.fP.Fy t off s).1.length≤_;rw[hl];exact hw.p.mem.2⟩,hw.p.st,hw.p.own⟩,hw.l,hw.q,hw.log⟩,?_⟩
 ·have hx:x∈(Aul w.fP.Fy t off s).1:=hx;unfold Aul at hx;cases h:Ay0 w.fP.Fy t off s with
  |false=>rw[h]at hx;exact hw.p.mem.1 x hx
  |true=>
   rw[h]at hx;simp only[cond_true,Fb,Gy]at hx;rcases hx with (hx|hx)|hx
   ·exact hw.p.mem.1 x (Za hx)
   ·exact hs.1 x hx
   ·exact hw.p.mem.1 x (List.mem_of_mem_drop hx)
 ·unfold cells Aww Bov;simp only[hl]
theorem Bcw (w:Eb)(hw:Aru w)(r:Fg)(off:Int)(s:List Int)(hs:A9i s): ∃w' code Fe,Aw6 K w r off s=some (w',A6j code Fe [])∧Avj K w r off s=some (w',A6j code Fe [])∧Aru w'∧cells w'≤cells w:=by
 obtain⟨t,t1,t2,t3⟩:=A6i hK hw.l r
 have hm:=hw.p.mem.2
 have hself:Aru w∧cells w≤cells w:=⟨hw,Z9 _⟩;unfold Aw6 Avj Axe Asy;rw[A9x hK hw,A9v hK w hw,A9u hK w hw,A6h hK hw,Bfi hK w hw.l,Bfj hK w hw.l,t1,t2];simp only[Z0,Ac2];cases A6e w with
 |false=>exact⟨w,1,0,rfl,rfl,hself⟩
 |true=>
  simp only[cond_true];rw[A20 hK hm hs.2 t3,A21 hK hm t3];simp only[Z0,bne,Ac2];cases hc:t.2.2==0 with
  |false=>exact⟨w,t.2.2,Bbd w r.fH,rfl,rfl,hself⟩
  |true=>
   obtain⟨g1,g2⟩:=Bfr hK hw t.2.1 off hs;cases hq:(Aul w.fP.Fy t.2.1 off s).2 with
   |false=>
    have e:(Aul w.fP.Fy t.2.1 off s).1=w.fP.Fy:=by
     unfold Aul at hq ⊢;cases hwo:Ay0 w.fP.Fy t.2.1 off s with
     |false=>rfl
     |true=>rw[hwo]at hq;cases hq
    rw[e];exact⟨w,7,Bbd w r.fH,rfl,rfl,hself⟩
   |true=>exact⟨Bov w (Aul w.fP.Fy t.2.1 off s).1,t.2.2,Bbd w r.fH,rfl,rfl,g1,Nat.le_of_eq g2⟩
end
theorem A1l (a:Ec)(r:Ge)(off:Int)(s:List Int)(u:Aqb a)(_:Azl r)(_:Alh off)(us:A2g s): ∃K,Ara K a r off s=some true:=by
 refine⟨K0,?_⟩
 have hK:=Z9 K0
 have hw:=Bfd u;obtain⟨q,hq⟩:=Bfb hK u 1048576;obtain⟨w',code,Fe,h1,h2,hw',hc'⟩:=Bcw hK (Ax2 a) hw (Fg.mk (Ct.mk r.fH.A5 r.fH.C2) r.Ly r.fNo) off s (A2q us)
 have hsl:=(A2q us).2
 have hQ:(Ax2 a).fQ.length≤140737488355327:=by have:=hw.q.2;omega
 have hQ':w'.fQ.length≤140737488355327:=by have:=hw'.q.2;omega
 unfold Ara Aux Aws;rw[hq];simp only[Z0]
 by_cases hbig:(s.length:Int)>1048576
 ·rw[decide_eq_true hbig];rfl
 rw[decide_eq_false hbig,cond_false];cases e:decide (q<0)with
 |true=>rfl
 |false=>
  have hc:=Bos u hq (by simpa using e)
  have hb:(A6j code Fe []).fB.length=0:=rfl
  have hmk0:=A2y hK (Ax2 a) (Aem hw.l) hQ 1 (by omega)
  have hms:=A2r hK s (1+cells (Ax2 a)) (by omega)
  have hmk:=A2y hK w' (Aem hw'.l) hQ' 1 (by omega)
  have hhl:=Bbf hK w' (Aem hw'.l) hQ' 1 (by omega) w'.fC
  have hma:=Bfp hK (A6j code Fe []) (1+cells w') (by omega)
  have hha:=Bfq hK (A6j code Fe []) (A6j code Fe []).fB.length (1+cells w') (by omega)
  simp only[show((1:Nat):Int)=1 from rfl]at hmk hhl hmk0
  simp only[cond_false,cond_true,Z0,Be4 hK u,A7f hK us,h1,h2,A2p hK hsl,Bou hK (show(A6j code Fe []).fB.length≤140737488355327 by omega),A7g hK hw',A7g hK hw,hmk,hmk0,hms,if_pos (A90 w' 1),if_pos (A90 (Ax2 a) 1),Anz,hma,Auk,if_true,hhl,hha,bne_self_eq_false,Bool.not_true]
end Go.Proofs.YtjdblamhaljjbaaGreat
