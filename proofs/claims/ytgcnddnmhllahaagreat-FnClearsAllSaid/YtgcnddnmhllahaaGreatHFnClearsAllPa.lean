/- The plain law for FnClearsAll; no condition. -/
import Derived.Test.YtgcnddnmhllahaaGreatHFnClearsAllTa
import Derived.Test.YtgcnddnmhllahaaGreatHFnClearsAllW
set_option linter.all false
namespace Go.Proofs.YtgcnddnmhllahaaGreat
open Go.Eng Go.ChangeShapes Go.WideShapes Go.ChangeAt Go.RowKit
theorem Acm{i:Nat}(h:i<=140737488355328):A1 (i:Int) 1=((i+1:Nat):Int):=by
 grind [A1,Lc,IntKind.wrap_i64]
theorem V2{α:Type}[Inhabited α]{l:List α}{i:Nat}(h:i<l.length):gt l (i:Int)=l[i]:=by
 grind [gt]
theorem Aqd{α:Type}[Inhabited α]{l:List α}{i:Nat}(h:i<l.length):gt l (i:Int)∈l:=by
 grind [V2]
theorem Akk{α:Type}[Inhabited α]{l:List α}{i:Int}(h0:0<=i)(h:i<l.length):gt l i∈l:=by
 obtain⟨k,rfl⟩: ∃k:Nat,i=k:=⟨i.toNat,by omega⟩
 grind [Aqd]
theorem Acn{i k:Nat}(h:i<k):decide ((i:Int)<(k:Int))=true:=by grind
theorem Avr{i k:Nat}(h:k<=i):decide ((i:Int)<(k:Int))=false:=by grind
theorem Bqw (a:List Int)(ha:a.length<=140737488355328)
  (L:Nat->Int->Option Bool) (hL: ∀n i,L (n+1) i=bif decide (i<(a.length:Int))then(if(0:Int)<=i/\i<(a.length:Int)then(if(0:Int)<=i/\i<(a.length:Int)then(bif (gt a i != gt a i)then some false else L n (A1 i 1))else none)else none)else some true):
  ∀(n i:Nat),i<=a.length->a.length - i<n->L n (i:Int)=some true:=by
 intro n;induction n with
 |zero=>omega
 |succ n ih=>
  intro i hi hn;rw[hL];rcases Hi i a.length with h|h
  ·rw[Acn h];simp only[cond_true];rw[if_pos ⟨by omega,by omega⟩,if_pos ⟨by omega,by omega⟩,Acm (by omega)];simp only[bne_self_eq_false,cond_false];exact ih (i+1) h (by omega)
  ·rw[Avr h];rfl
theorem Ht{n:Int}(h0: -9223372036854775808<=n)(h1:n<=9223372036854775807):IntKind.i64.wrap n=n:=by rw[IntKind.wrap_i64];omega
theorem Bqx (n:Int): -9223372036854775808<=IntKind.i64.wrap n/\IntKind.i64.wrap n<=9223372036854775807:=by rw[IntKind.wrap_i64];omega
theorem A3h{a b:Int}(h: ¬a=b):(a != b)=true:=by simpa using h
theorem Aul{a b:Int}(h: ¬a=b):(a==b)=false:=by simpa using h
def inB (x a b:Int):Bool:=decide (a<=x/\x<=b)
theorem Wy{x a b:Int}:inB x a b=true ↔ a<=x/\x<=b:=by unfold inB;exact decide_eq_true_iff
theorem Bbf{x a b:Int}:inB x a b=false ↔ ¬(a<=x/\x<=b):=by unfold inB;exact decide_eq_false_iff_not
theorem Ayk (b:Bool)(x:Bool):(bif b then some x else some false)=some (b&&x):=by cases b<;>rfl
theorem Bqy (b:Bool)(x:Bool):(bif b then some false else some x)=some (!b&&x):=by cases b<;>rfl
theorem A5l (b:Bool)(x:Bool):(bif b then some true else some x)=some (b||x):=by cases b<;>rfl
theorem Ahu{α:Type}(b:Bool)(x y:α):(bif !b then x else y)=(bif b then y else x):=by cases b<;>rfl
theorem Akv{i n:Nat}(h:i<n):((0:Int)<=(i:Int)/\(i:Int)<(n:Int)):=⟨by omega,by omega⟩
theorem B0i{α:Type}(l:List α)(q:α->Bool)(fin:Option Bool)(L:Nat->Int->Option Bool)
  (hs: ∀n (i:Nat) (h:i<l.length),L (n+1) (i:Int)=bif q l[i]then L n ((i+1:Nat):Int)else some false)
  (he: ∀n,L (n+1) (l.length:Int)=fin):
  ∀(n i:Nat),i<=l.length->l.length - i<n->L n (i:Int)=bif (l.drop i).all q then fin else some false:=by
 intro n;induction n with
 |zero=>omega
 |succ n ih=>
  intro i hi hn;rcases Hi i l.length with h|h
  ·rw[hs n i h,Z47 h,Gv];cases q l[i]with
   |false=>rfl
   |true=>grind
  grind
theorem Axc{α:Type}{K:Nat}(hK:281474976710656<=K)(l:List α)(hl:l.length<=140737488355328)(q:α->Bool)(fin:Option Bool)(L:Nat->Int->Option Bool)
  (hs: ∀n (i:Nat) (h:i<l.length),L (n+1) (i:Int)=bif q l[i]then L n ((i+1:Nat):Int)else some false)
  (he: ∀n,L (n+1) (l.length:Int)=fin):L K 0=bif l.all q then fin else some false:=by
 have:=B0i l q fin L hs he K 0 (Z21 _) (by omega);simpa using this
theorem At9{K:Nat}(hK:281474976710656<=K)(N:Nat)(hl:N<=140737488355328)(q:Nat->Bool)(fin:Option Bool)(L:Nat->Int->Option Bool)
  (hs: ∀n (i:Nat) (h:i<N),L (n+1) (i:Int)=bif q i then L n ((i+1:Nat):Int)else some false)
  (he: ∀n,L (n+1) (N:Int)=fin):L K 0=bif (List.range N).all q then fin else some false:=by
 refine Axc hK (List.range N) (by simpa using hl) q fin L (fun n i h=> ?_) (fun n=> ?_)
 ·rw[List.getElem_range];exact hs n i (by simpa using h)
 ·rw[List.length_range];exact he n
theorem Bqz{α:Type}(l:List α)(q:α->Bool)(L:Nat->Int->Int->Option Int)
  (hs: ∀n (i:Nat) (h:i<l.length),L (n+1) (l.length:Int) (i:Int)=bif q l[i]then some (i:Int)else L n (l.length:Int) ((i+1:Nat):Int))
  (he: ∀n,L (n+1) (l.length:Int) (l.length:Int)=some (-1)):
  ∀(n i:Nat),i<=l.length->l.length - i<n-> ∃r,L n (l.length:Int) (i:Int)=some r/\decide (r>=0)=(l.drop i).any q:=by
 intro n;induction n with
 |zero=>omega
 |succ n ih=>
  intro i hi hn;rcases Hi i l.length with h|h
  ·rw[hs n i h,Z47 h,List.any_cons]
   grind
  ·obtain rfl:i=l.length:=by omega
   exact⟨_,he n,by simp⟩
theorem A8j{α:Type}[Inhabited α]{K:Nat}(hK:281474976710656<=K)(l:List α)(hl:l.length<=140737488355328)(f:α->Option Bool)(q:α->Bool)(hf: ∀x∈l,f x=some (q x))(L:Nat->Int->Int->Option Int)
  (hL: ∀n N i,L (n+1) N i=bif decide (i<N)then(if(0:Int)<=i/\i<(l.length:Int)then(f (gt l i)).bind (fun r=>bif r then some i else L n N (A1 i 1))else none)else some (-1)):
  ((L K (l.length:Int) 0).bind fun r=>some (decide (r>=0)))=some (l.any q):=by
 obtain⟨r,h1,h2⟩:=Bqz l q L (fun n i h=>by
  rw[hL,Acn h,cond_true,if_pos (Akv h),hf _ (Aqd h),V2 h,Z0,Acm (by omega)]) (fun n=>by rw[hL,Avr (Z9 _),cond_false]) K 0 (Z21 _) (by omega)
 rw[show((0:Nat):Int)=0 from rfl]at h1;rw[h1,Z0,h2,Z55]
theorem A7v{K:Nat}(hK:281474976710656<=K)(l:List Int)(x:Int)(hl:l.length<=140737488355328):Ap2 K l x=some (l.contains x):=by
 unfold Ap2 A2f;obtain⟨r,h1,h2⟩:=Bqz l (fun y=>x==y) (Ary K l x) (fun n i h=>by
  rw[Ary,Acn h,cond_true,if_pos (Akv h),V2 h,Acm (by omega)]) (fun n=>by simp_all[Ary]) K 0 (Z21 _) (by omega)
 grind
theorem A5m{K:Nat}(hK:281474976710656<=K)(l:List Int)(x:Int)(hl:l.length<=140737488355328):Aun K l x=some (l.contains x):=by
 unfold Aun;have h: ∀(n i:Nat),i<=l.length->l.length - i<n->Azt K l x n (i:Int)=some ((l.drop i).contains x):=by
  intro n;induction n with
  |zero=>omega
  |succ n ih=>
   intro i hi hn;rw[Azt];rcases Hi i l.length with h|h
   ·rw[Acn h,cond_true,if_pos (Akv h),V2 h,Acm (by omega),ih (i+1) h (by omega),Z47 h,List.contains_cons,A5l,Bool.beq_comm]
   grind
 have:=h K 0 (Z21 _) (by omega)
 grind
theorem Amo (K:Nat)(x a b:Int):F2 K x a b=some (inB x a b):=by
 unfold F2 inB
 grind
theorem Au3 (K:Nat)(x a b:Int):K0 K x a b=some (inB x a b):=Amo K x a b
def Akj (c:Fi):Bool:=inB c.Ad 2 12&&(inB c.Du 8 16&&(inB c.Cd 2 8&&(inB c.Ez 1 8&&(inB c.Ce 1 16&&inB c.Dv 1 4))))
theorem Avs (K:Nat)(c):Ap3 K c=some (Akj c):=by
 simp_all[Ap3,Amo,Ayk,Akj]
theorem A7w (K:Nat)(c):Ay6 K c=some (Akj c):=Avs K c
theorem Bd{c:Fi}(h:Akj c=true):(2<=c.Ad/\c.Ad<=12)/\(8<=c.Du/\c.Du<=16)/\(2<=c.Cd/\c.Cd<=8)/\(1<=c.Ez/\c.Ez<=8)/\(1<=c.Ce/\c.Ce<=16)/\(1<=c.Dv/\c.Dv<=4):=by
 simp_all[Akj,Wy]
def Ao0 (c:Fi):Int:=bif Akj c then c.Ad*c.Du else 0
theorem Azl{a b m n:Int}(h1:0<=a)(h2:a<=m)(h3:0<=b)(h4:b<=n):0<=a*b/\a*b<=m*n:=
 ⟨Int.mul_nonneg h1 h3,Int.mul_le_mul h2 h4 h3 (by omega)⟩
theorem Ayl (K:Nat)(c):Av0 K c=some (Ao0 c):=by
 unfold Av0 Ao0;rw[Avs,Z0,Ahu];cases h:Akj c with
 |false=>rfl
 |true=>
  obtain⟨h1,h2,_⟩:=Bd h;have:=Azl (a:=c.Ad) (b:=c.Du) (m:=12) (n:=16) (by omega) h1.2 (by omega) h2.2;simp only[cond_true,P2,Ew]
  grind [Ht]
theorem A63 (K:Nat)(c):A3a K c=some (Ao0 c):=Ayl K c
theorem A5n (c:Fi):0<=Ao0 c/\Ao0 c<=192:=by
 unfold Ao0;cases h:Akj c with
 |false=>simp
 |true=>
  obtain⟨h1,h2,_⟩:=Bd h;have:=Azl (a:=c.Ad) (b:=c.Du) (m:=12) (n:=16) (by omega) h1.2 (by omega) h2.2
  grind
section
variable {K:Nat} (hK:281474976710656<=K)
include hK
def Arz (l:List Int):Bool:=l.all (fun x=>x==0)
theorem A4a (l:List Int)(hl:l.length<=140737488355328):Avp K l=some (Arz l):=by
 unfold Avp;rw[Axc hK l hl (fun x=>x==0) (some true) (Awh K l) (fun n i h=>by
  rw[Awh,Acn h,cond_true,if_pos (Akv h),V2 h,Acm (by omega)]
  grind) (fun n=>by simp_all[Awh])]
 grind [Arz]
theorem A54 (l:List Int)(hl:l.length<=140737488355328):Aw3 K l=some (Arz l):=by
 unfold Aw3 Al9 Ao8;rw[A8j hK l hl (A4l K) (fun x=>x != 0) (fun x _=>rfl) (Ahy K l) (fun n N i=>rfl)];simp_all[Arz,List.not_any_eq_all_not,bne]
end
def Ayd (a b:Int):Int:=bif inB a 0 1000000000&&inB b 1 1000000000 then(a+b - 1) / b else 0
theorem A5a (K:Nat)(a b:Int):A2v K a b=some (Ayd a b):=by
 unfold A2v Ayd;rw[Amo,Amo,Z0];cases h1:inB a 0 1000000000 with
 |false=>rfl
 |true=>
  cases h2:inB b 1 1000000000 with
  |false=>rfl
  |true=>
   rw[Wy]at h1 h2;simp only[Z0,cond_true,Bool.not_true,cond_false,Bool.and_self];rw[if_pos (by omega)];unfold Apq Ap Asu A1 Lc;rw[Ht (n:=a+b) (by omega) (by omega),Ht (n:=a+b - 1) (by omega) (by omega)];rw[Int.tdiv_eq_ediv_of_nonneg (by omega)];have h3:(a+b - 1) / b<=a+b - 1:=Int.ediv_le_self _ (by omega);have h4:0<=(a+b - 1) / b:=Int.ediv_nonneg (by omega) (by omega)
   grind [Ht]
def Aw4 (c:Fi)(mem:List Int)(k:Int):List Int:=(mem.drop (k*c.Du).toNat).take c.Du.toNat
def A55 (c:Fi)(p:Ef)(k:Nat):Bool:=
 inB (gt p.G4 k) 0 2&&((bif gt p.G4 k==1 then inB (gt p.Fq k) 0 (c.Cd - 1)else gt p.Fq k== -1)&&(bif gt p.G4 k==0 then Arz (Aw4 c p.Fp k)else true))
def Aw7 (c:Fi)(p:Ef):Bool:=
 Akj c&&((p.Fp.length:Int)==Ao0 c&&((p.G4.length:Int)==c.Ad&&((p.Fq.length:Int)==c.Ad&&(List.range c.Ad.toNat).all (A55 c p))))
theorem Au4{c:Fi}{p:Ef}(h:Aw7 c p=true):Akj c=true/\(p.Fp.length:Int)=c.Ad*c.Du/\(p.G4.length:Int)=c.Ad/\(p.Fq.length:Int)=c.Ad/\ ∀k,k<c.Ad.toNat->A55 c p k=true:=by
 simp_all[Aw7,Ao0]
theorem A4b{c:Fi}(hc:Akj c=true){mem:List Int}(hm:(mem.length:Int)=c.Ad*c.Du){k:Int}(h0:0<=k)(h1:k<c.Ad):
  P2 k c.Du=k*c.Du/\P2 (A1 k 1) c.Du=k*c.Du+c.Du/\0<=k*c.Du/\k*c.Du+c.Du<=(mem.length:Int):=by
 obtain⟨b1,b2,_⟩:=Bd hc;have m1:=Azl (a:=k) (b:=c.Du) (m:=12) (n:=16) h0 (by omega) (by omega) b2.2;have e2:(k+1)*c.Du=k*c.Du+c.Du:=by grind
 have m2:(k+1)*c.Du<=c.Ad*c.Du:=Int.mul_le_mul_of_nonneg_right (by omega) (by omega);rw[e2]at m2;refine⟨?_,?_,m1.1,by omega⟩
 all_goals grind [P2,Ew,Ht,A1,Lc]
section
variable {K:Nat} (hK:281474976710656<=K)
include hK
theorem A84{c:Fi}(hc:Akj c=true){p:Ef}(hm:(p.Fp.length:Int)=c.Ad*c.Du){k:Int}(h0:0<=k)(h1:k<c.Ad):Au0 K p c k=some (Aw4 c p.Fp k):=by
 obtain⟨e1,e2,e3,e4⟩:=A4b hc hm h0 h1;obtain⟨b1,b2,_⟩:=Bd hc;unfold Au0;rw[e1,e2,if_pos ⟨e3,by omega,e4⟩];unfold Aw4
 grind
theorem A7x (c:Fi)(p:Ef):A09 K c p=some (Aw7 c p):=by
 unfold A09;rw[Avs,Ayl];simp only[Z0];cases hc:Akj c with
 |false=>simp[Aw7,hc]
 |true=>
 obtain⟨b1,b2,b3,_⟩:=Bd hc;have hby:Ao0 c=c.Ad*c.Du:=by rw[Ao0,hc];rfl
 simp only[cond_true,Aw7,hc,Z30,bne];cases h1:(p.Fp.length:Int)==Ao0 c with
 |false=>rfl
 |true=>
 cases h2:(p.G4.length:Int)==c.Ad with
 |false=>rfl
 |true=>
 cases h3:(p.Fq.length:Int)==c.Ad with
 |false=>rfl
 |true=>
 rw[beq_iff_eq]at h1 h2 h3;have hN:((c.Ad.toNat:Nat):Int)=c.Ad:=by omega
 simp only[Bool.not_true,cond_false,Z30];rw[At9 hK c.Ad.toNat (by omega) (A55 c p) (some true) (fun n i=>Ao3 K c n i p.Fp p.G4 p.Fq) (fun n i h=> ?_) (fun n=> ?_)]
 ·grind
 ·obtain⟨e1,e2,e3,e4⟩:=A4b hc (h1.trans hby) (k:=(i:Int)) (by omega) (by omega);have hl:(List.take (i*c.Du+c.Du - i*c.Du).toNat (List.drop (i*c.Du).toNat p.Fp)).length<=140737488355327:=by grind
  have hs:Ap c.Cd 1=c.Cd - 1:=by grind [Ap,Asu,Ht]
  have hck:List.take (i*c.Du+c.Du - i*c.Du).toNat (List.drop (i*c.Du).toNat p.Fp)=Aw4 c p.Fp i:=by
   unfold Aw4;grind
  simp only[Ao3,Awi,A1o];rw[e1,e2,Acm (by omega),decide_eq_true (show(i:Int)<c.Ad by omega),cond_true,if_pos ⟨by omega,by omega⟩,Amo,Amo,hs,A4a hK _ (by omega),hck];simp only[Z0,bne,show((0:Int)<=(i:Int)/\(i:Int)<(p.G4.length:Int))=True from eq_true ⟨by omega,by omega⟩,show((0:Int)<=(i:Int)/\(i:Int)<(p.Fq.length:Int))=True from eq_true ⟨by omega,by omega⟩,if_true,if_pos (show(0:Int)<=i*c.Du/\(i:Int)*c.Du<=i*c.Du+c.Du/\(i:Int)*c.Du+c.Du<=(p.Fp.length:Int) from⟨e3,by omega,e4⟩)];unfold A55
  grind
 ·show Ao3 K c (n+1) _ _ _ _=_;simp_all[Ao3]
theorem Bar (c:Fi)(p:Ef):A1e K c p=some (Aw7 c p):=by
 unfold A1e;rw[A7w,A63];simp only[Z0];cases hc:Akj c with
 |false=>simp[Aw7,hc]
 |true=>
 obtain⟨b1,b2,b3,_⟩:=Bd hc;have hby:Ao0 c=c.Ad*c.Du:=by rw[Ao0,hc];rfl
 simp only[cond_true,Aw7,hc,Z30,bne];cases h1:(p.Fp.length:Int)==Ao0 c with
 |false=>rfl
 |true=>
 cases h2:(p.G4.length:Int)==c.Ad with
 |false=>rfl
 |true=>
 cases h3:(p.Fq.length:Int)==c.Ad with
 |false=>rfl
 |true=>
 rw[beq_iff_eq]at h1 h2 h3;have hN:((c.Ad.toNat:Nat):Int)=c.Ad:=by omega
 simp only[Bool.not_true,cond_false,Z30];rw[At9 hK c.Ad.toNat (by omega) (A55 c p) (some true) (fun n i=>Ak5 K c n p.G4 (p.G4.length:Int) i p.Fp p.G4 p.Fq) (fun n i h=> ?_) (fun n=> ?_)]
 ·grind
 ·have hs:Ap c.Cd 1=c.Cd - 1:=by grind [Ap,Asu,Ht]
  have hl:(Aw4 c p.Fp i).length<=140737488355327:=by grind [Aw4]
  simp only[Ak5,Ava,A11];rw[A84 hK hc (h1.trans hby) (by omega) (by omega),Acm (by omega),decide_eq_true (show(i:Int)<(p.G4.length:Int)by omega),cond_true,if_pos ⟨by omega,by omega⟩,Au3,Au3,hs];simp only[Z0,A54 hK _ (show(Aw4 c p.Fp i).length<=140737488355328 by omega),bne,show((0:Int)<=(i:Int)/\(i:Int)<(p.Fq.length:Int))=True from eq_true ⟨by omega,by omega⟩,if_true];unfold A55
  grind
 ·show Ak5 K c (n+1) _ _ _ _ _ _=_;simp_all[Ak5]
end
def A2a (c:Fi)(t:Bn):Prop:=Akj c=true/\1<=t.Yg/\0<=t.fAt/\t.fAt+t.Yg<=Ao0 c
instance (c t):Decidable (A2a c t):=by unfold A2a;infer_instance
def At7 (c:Fi)(t:Bn):Bool:=
 decide (A2a c t)&&(bif t.Yh==0 then decide (t.Yg<=c.Du)&&(t.fAt / c.Du==(t.fAt+t.Yg - 1) / c.Du)else decide (t.Yg>c.Du)&&(t.Yh==Ayd t.Yg c.Du&&t.fAt % c.Du==0))
theorem Bby (K:Nat){c:Fi}{t:Bn}(h:A2a c t):
  (bif (t.Yh==0)then(bif (decide (t.Yg<=c.Du))then(if c.Du≠(0:Int)then(if c.Du≠(0:Int)then some ((Apq .i64 t.fAt c.Du)==(Apq .i64 (Ap (A1 t.fAt t.Yg) 1) c.Du))else none)else none)else some false)else((Asl K c t.Yg).bind fun r2=>(bif r2 then((Ao7 K c t.Yg).bind fun r3=>(bif (t.Yh==r3)then(if c.Du≠(0:Int)then some ((Int.tmod t.fAt c.Du)==0)else none)else some false))else some false)))=some (At7 c t):=by
 have hd:decide (A2a c t)=true:=decide_eq_true h;obtain⟨hc,h1,h2,h3⟩:=h;have hb:=A5n c;obtain⟨b1,b2,_⟩:=Bd hc;unfold At7 Asl Ao7;rw[hd,if_pos (by omega),if_pos (by omega),A5a];have e1:Ap (A1 t.fAt t.Yg) 1=t.fAt+t.Yg - 1:=by
  unfold Ap Asu A1 Lc;rw[Ht (n:=t.fAt+t.Yg) (by omega) (by omega),Ht (by omega) (by omega)]
 have e2: ∀x:Int,0<=x->x<=192->Apq .i64 x c.Du=x / c.Du:=by
  intro x h0 hx;unfold Apq;rw[Int.tdiv_eq_ediv_of_nonneg h0];have h3:x / c.Du<=x:=Int.ediv_le_self _ h0;have h4:0<=x / c.Du:=Int.ediv_nonneg h0 (by omega)
  grind [Ht]
 grind
theorem Bgj{c:Fi}{t:Bn}(h: ¬A2a c t):At7 c t=false:=by
 grind [At7]
theorem A9l (K:Nat)(c:Fi)(t:Bn):Axq K c t=some (At7 c t):=by
 have hb:=A5n c;by_cases h:A2a c t
 ·rw[<-Bby K h];obtain⟨hc,h1,h2,h3⟩:=h;unfold Axq;rw[Ayl,Z0,Aul (by omega),decide_eq_false (by omega),decide_eq_false (by omega),decide_eq_false (by omega)];unfold Ap Asu;rw[Ht (by omega) (by omega),decide_eq_false (show ¬t.Yg>Ao0 c - t.fAt by omega)];rfl
 ·rw[Bgj h];unfold Axq;rw[Ayl,Z0];by_cases g0:Ao0 c=0
  ·grind
  ·have hc:Akj c=true:=by
    grind [Ao0]
   rw[Aul g0,cond_false];by_cases g1:t.Yg<1
   ·grind
   ·by_cases g2:t.fAt<0
    ·grind
    ·by_cases g3:t.fAt>Ao0 c
     ·grind
     ·rw[decide_eq_false g1,decide_eq_false g2,decide_eq_false g3];unfold Ap Asu;rw[Ht (by omega) (by omega),decide_eq_true (show t.Yg>Ao0 c - t.fAt from ?_)]
      ·rfl
      ·refine Classical.byContradiction fun g4=>h ⟨hc,by omega,by omega,by omega⟩
theorem A9m (K:Nat)(c:Fi)(t:Bn):Ax2 K c t=some (At7 c t):=by
 have hb:=A5n c;by_cases h:A2a c t
 ·rw[<-Bby K h];obtain⟨hc,h1,h2,h3⟩:=h;unfold Ax2;rw[A63,Z0,decide_eq_false (by omega),decide_eq_false (by omega),decide_eq_false (by omega)];unfold Ap Asu;rw[Ht (by omega) (by omega),decide_eq_false (show ¬t.fAt>Ao0 c - t.Yg by omega)];rfl
 ·rw[Bgj h];unfold Ax2;rw[A63,Z0];by_cases g1:t.Yg<=0
  ·grind
  ·by_cases g2:t.fAt<0
   ·grind
   ·by_cases g3:t.Yg>Ao0 c
    ·grind
    ·rw[decide_eq_false g1,decide_eq_false g2,decide_eq_false g3];have hc:Akj c=true:=by
      cases hc:Akj c with
      |true=>rfl
      |false=>simp_all[Ao0]
     unfold Ap Asu;rw[Ht (by omega) (by omega),decide_eq_true (show t.fAt>Ao0 c - t.Yg from ?_)]
     ·rfl
     ·refine Classical.byContradiction fun g4=>h ⟨hc,by omega,by omega,by omega⟩
theorem A85{α:Type}(l:List α)(i:Nat):(l.drop (0:Int).toNat).take ((i:Int) - 0).toNat=l.take i:=by simp
theorem Bgk{i n:Nat}(h:i<=n):((0:Int)<=0/\(0:Int)<=(i:Int)/\(i:Int)<=(n:Int)):=by grind
def Ay0 (c:Fi)(l:List Int):Bool:=(List.range l.length).all (fun i=>inB (gt l i) 0 (c.Ad - 1)&& !(l.take i).contains (gt l i))
def A9n (n:Az):Bool:=
 n.Nb==0&&(n.fUp==0&&(n.G5==0&&(n.Bz==0&&(n.G6==0&&(n.G7==0&&((n.Ad.length:Int)==0&&(n.No==0&&(n.G8==0&&((n.D5.length:Int)==0&&(n.Dh.length:Int)==0)))))))))
theorem Bl5 (K:Nat)(n):A50 K n=some (A9n n):=by
 grind [A50,A9n]
theorem Bl6{K:Nat}(hK:1<=K)(l:List Int):Ars K l []=some ((l.length:Int)==0):=by
 obtain⟨k,rfl⟩: ∃k,K=k+1:=⟨K - 1,by omega⟩;cases l with
 |nil=>rfl
 |cons x l=>rfl
theorem Bik{K:Nat}(hK:1<=K)(l:List Bn):Awc K l []=some ((l.length:Int)==0):=by
 obtain⟨k,rfl⟩: ∃k,K=k+1:=⟨K - 1,by omega⟩;cases l with
 |nil=>rfl
 |cons x l=>rfl
theorem Bl7{K:Nat}(hK:1<=K)(n):A52 K n=some (A9n n):=by
 simp_all[A52,A4m,Ayk,A9n,Bl6,Bik]
def A9o (c:Fi)(n:Az):Bool:=bif n.No==0 then n.G8==0 else n.Ad.contains (Ap n.No 1)&&inB n.G8 0 c.Du
def Bbz (c:Fi)(n:Az):Bool:=
 (inB n.fUp 0 c.Cd&&(inB n.Bz 0 c.Cd&&(inB n.G6 0 c.Cd&&inB n.G7 0 c.Cd)))&&((!decide (n.Nb<0)&& !decide (n.G5<0))&&((Ay0 c n.Ad&&A9o c n)&&((decide ((n.D5.length:Int)<=12)&&decide ((n.Dh.length:Int)<=6))&&(n.Dh.all (fun x=>inB x 0 255)&&n.D5.all (At7 c)))))
def Avg (c:Fi)(n:Az):Bool:=Akj c&&(inB n.G4 0 3&&(inB n.C7 1 c.Dv&&(bif n.G4 != 1 then A9n n else Bbz c n)))
section
variable {K:Nat} (hK:281474976710656<=K)
include hK
theorem A0x{c:Fi}(hc:Akj c=true):Ap c.Ad 1=c.Ad - 1:=by
 obtain⟨b1,_⟩:=Bd hc
 grind [Ap,Asu,Ht]
theorem A8w{c:Fi}(hc:Akj c=true)(l:List Int)(hl:l.length<=140737488355327):Ayy K c l=some (Ay0 c l):=by
 unfold Ayy;rw[At9 hK l.length (by omega) (fun i=>inB (gt l i) 0 (c.Ad - 1)&& !(l.take i).contains (gt l i)) (some true) (fun n i=>Atf K c l n l (l.length:Int) i) (fun n i h=> ?_) (fun n=> ?_)]
 ·grind [Ay0]
 ·have hp:(l.take i).length<=140737488355328:=by grind
  simp only[Atf];rw[Acn h,cond_true,if_pos (Akv h),Au3,if_pos (Bgk (by omega)),A85,A7v hK _ _ hp,Acm (by omega),A0x hK hc]
  grind
 ·show Atf K c l (n+1) _ _ _=_;simp_all[Atf]
theorem Bdg{c:Fi}(hc:Akj c=true)(n:Az)(hl:n.Ad.length<=140737488355327):A1q K c n=some (Ay0 c n.Ad&&A9o c n):=by
 unfold A1q;rw[At9 hK n.Ad.length (by omega) (fun i=>inB (gt n.Ad i) 0 (c.Ad - 1)&& !(n.Ad.take i).contains (gt n.Ad i)) (some (A9o c n)) (fun k i=>Asj K c k i n.G4 n.C7 n.Nb n.fUp n.G5 n.Bz n.G6 n.G7 n.Ad n.No n.G8 n.D5 n.Dh) (fun k i h=> ?_) (fun k=> ?_)]
 ·rw[Ayk];rfl
 ·have hp:(n.Ad.take i).length<=140737488355328:=by grind
  simp only[Asj];rw[Acn h,cond_true,if_pos (Akv h),Amo,if_pos (Bgk (by omega)),A85,A5m hK _ _ hp,Acm (by omega),A0x hK hc]
  grind
 ·show Asj K c (k+1) _ _ _ _ _ _ _ _ _ _ _ _ _ _=_;rw[Asj,Avr (Z9 _),cond_false,A5m hK _ _ (by omega),Amo];unfold A9o
  grind
theorem A6i (l:List Int)(hl:l.length<=140737488355328):Awm K l=some (l.all (fun x=>inB x 0 255)):=by
 unfold Awm Alc Ank;rw[A8j hK l hl (Azf K) (fun x=> !inB x 0 255) (fun x _=>by simp[Azf,Au3]) (Ahx K l) (fun n N i=>rfl)]
 grind
theorem Az6 (c:Fi)(n:Az)(h1:n.Ad.length<=140737488355327)(h2:n.D5.length<=140737488355327)(h3:n.Dh.length<=140737488355327):Auo K c n=some (Avg c n):=by
 unfold Auo;rw[Avs,Bl5];simp only[Z0,Amo];cases hc:Akj c with
 |false=>simp[Avg,hc]
 |true=>
 rw[Bdg hK hc n h1];have hA:Au6 K n.Dh K 0=some (n.Dh.all (fun x=>inB x 0 255)):=by
  rw[Axc hK n.Dh (by omega) (fun x=>inB x 0 255) (some true) (Au6 K n.Dh) (fun k i h=> ?_) (fun k=> ?_)]
  ·grind
  ·rw[Au6,Acn h,cond_true,if_pos (Akv h),V2 h,Amo,Acm (by omega),Z0,Ahu]
  simp_all[Au6]
 have hB:At1 K c K 0 n.G4 n.C7 n.Nb n.fUp n.G5 n.Bz n.G6 n.G7 n.Ad n.No n.G8 n.D5 n.Dh=some (n.Dh.all (fun x=>inB x 0 255)&&n.D5.all (At7 c)):=by
  rw[Axc hK n.D5 (by omega) (At7 c) (some (n.Dh.all (fun x=>inB x 0 255))) (fun k i=>At1 K c k i n.G4 n.C7 n.Nb n.fUp n.G5 n.Bz n.G6 n.G7 n.Ad n.No n.G8 n.D5 n.Dh) (fun k i h=> ?_) (fun k=> ?_)]
  ·grind
  ·simp only[At1];rw[Acn h,cond_true,if_pos (Akv h),V2 h,A9l,Acm (by omega),Z0,Ahu]
  ·show At1 K c (k+1) _ _ _ _ _ _ _ _ _ _ _ _ _ _=_;simp_all[At1]
 rw[hB];have e12:decide ((n.D5.length:Int)>12)= !decide ((n.D5.length:Int)<=12):=by grind
 have e6:decide ((n.Dh.length:Int)>6)= !decide ((n.Dh.length:Int)<=6):=by grind
 simp only[Z0,cond_true,e12,e6,Ahu,Ayk,Bqy];unfold Avg Bbz
 grind
theorem Bgl (c:Fi)(n:Az)(h1:n.Ad.length<=140737488355327)(h2:n.D5.length<=140737488355327)(h3:n.Dh.length<=140737488355327):A34 K c n=some (Avg c n):=by
 unfold A34;rw[A7w,Bl7 (by omega)];simp only[Z0,Au3];cases hc:Akj c with
 |false=>simp[Avg,hc]
 |true=>
 have hT:Aki K n.D5 c=some (n.D5.any (fun t=> !At7 c t)):=
  A8j hK n.D5 (by omega) (fun t=>A12 K t c) (fun t=> !At7 c t) (fun x _=>by simp[A12,A9m]) (Aen K n.D5 c) (fun n N i=>rfl)
 have hJ:Avc K c n.D5 n.Dh=some ((decide ((n.D5.length:Int)<=12)&&decide ((n.Dh.length:Int)<=6))&&(n.Dh.all (fun x=>inB x 0 255)&&n.D5.all (At7 c))):=by
  unfold Avc;rw[hT,A6i hK _ (by omega)];simp only[Z0,Ayk,List.not_any_eq_all_not,Bool.not_not,Z7]
  ac_rfl
 obtain⟨_,b2,_⟩:=Bd hc;have hB:At4 K c K ([n.fUp,n.Bz,n.G6,n.G7]:List Int) (([n.fUp,n.Bz,n.G6,n.G7]:List Int).length:Int) 0 n.G4 n.C7 n.Nb n.fUp n.G5 n.Bz n.G6 n.G7 n.Ad n.No n.G8 n.D5 n.Dh=some (Bbz c n):=by
  rw[Axc hK ([n.fUp,n.Bz,n.G6,n.G7]:List Int) (by simp) (fun x=>inB x 0 c.Cd) (some ((!decide (n.Nb<0)&& !decide (n.G5<0))&&((Ay0 c n.Ad&&A9o c n)&&((decide ((n.D5.length:Int)<=12)&&decide ((n.Dh.length:Int)<=6))&&(n.Dh.all (fun x=>inB x 0 255)&&n.D5.all (At7 c)))))) (fun k i=>At4 K c k ([n.fUp,n.Bz,n.G6,n.G7]:List Int) (([n.fUp,n.Bz,n.G6,n.G7]:List Int).length:Int) i n.G4 n.C7 n.Nb n.fUp n.G5 n.Bz n.G6 n.G7 n.Ad n.No n.G8 n.D5 n.Dh) (fun k i h=> ?_) (fun k=> ?_)]
  ·simp_all[Bbz,Ayk]
  ·simp only[At4];rw[Acn h,cond_true,if_pos (Akv h),V2 h,Au3,Acm (by grind),Z0,Ahu]
  ·show At4 K c (k+1) _ _ _ _ _ _ _ _ _ _ _ _ _ _ _ _=_;rw[At4,Avr (Z9 _),cond_false,hJ,A8w hK hc _ h1,A7v hK _ _ (by omega),Au3];simp only[Z0,bne,Ahu,Ayk,Bqy];unfold A9o;have hz:(n.G8==0)=true->inB n.G8 0 c.Du=true:=by
    intro h;rw[beq_iff_eq]at h;rw[Wy];omega
   grind
 rw[hB];simp only[cond_true,Ahu,Ayk];unfold Avg
 grind
end
theorem Bki{α β:Type}(l:List α)(q:α->Bool)(fin bad:Option β)(L:Nat->Int->Option β)
  (hs: ∀n (i:Nat) (h:i<l.length),L (n+1) (i:Int)=bif q l[i]then L n ((i+1:Nat):Int)else bad)
  (he: ∀n,L (n+1) (l.length:Int)=fin):
  ∀(n i:Nat),i<=l.length->l.length - i<n->L n (i:Int)=bif (l.drop i).all q then fin else bad:=by
 intro n;induction n with
 |zero=>omega
 |succ n ih=>
  intro i hi hn;rcases Hi i l.length with h|h
  ·rw[hs n i h,Z47 h,Gv];cases q l[i]with
   |false=>rfl
   |true=>grind
  grind
theorem Bl8{β:Type}{K:Nat}(hK:281474976710656<=K)(N:Nat)(hl:N<=140737488355328)(q:Nat->Bool)(fin bad:Option β)(L:Nat->Int->Option β)
  (hs: ∀n (i:Nat) (h:i<N),L (n+1) (i:Int)=bif q i then L n ((i+1:Nat):Int)else bad)
  (he: ∀n,L (n+1) (N:Int)=fin):L K 0=bif (List.range N).all q then fin else bad:=by
 have:=Bki (List.range N) q fin bad L (fun n i h=>by grind) (fun n=>by grind) K 0 (Z21 _) (by grind)
 grind
def A5o (t:Bn):Prop:=0<=t.fAt/\t.fAt<=200/\0<=t.Yg/\t.Yg<=200
theorem A6p{c:Fi}{t:Bn}(h:At7 c t=true):A5o t/\A2a c t:=by
 have h1:A2a c t:=by
  unfold At7 at h
  grind
 have hb:=A5n c;obtain⟨h2,h3,h4,h5⟩:=h1;exact⟨⟨h4,by omega,by omega,by omega⟩,h2,h3,h4,h5⟩
def Apg (a b:Bn):Bool:=decide (a.Yg<=0\/b.Yg<=0\/a.fAt+a.Yg<=b.fAt\/b.fAt+b.Yg<=a.fAt)
theorem Bgm (a b:Bn):Apg a b=Apg b a:=by
 unfold Apg
 grind
theorem Bil (K:Nat){a b:Bn}(ha:A5o a)(hb:A5o b):A4x K a b=some (Apg a b):=by
 obtain⟨a1,a2,a3,a4⟩:=ha;obtain⟨b1,b2,b3,b4⟩:=hb;unfold A4x Ap Asu;rw[Ht (n:=b.fAt - a.fAt) (by omega) (by omega),Ht (n:=a.fAt - b.fAt) (by omega) (by omega)];simp only[A5l];have: ∀x:Bool,x=Apg a b->some x=some (Apg a b):=fun x h=>by rw[h]
 by_cases h:a.fAt<=b.fAt
 ·rw[decide_eq_true h,cond_true,A5l,A5l];refine this _ ?_;rw[Bool.eq_iff_iff];simp only[Apg,Bool.or_eq_true,decide_eq_true_eq];omega
 ·rw[decide_eq_false h,cond_false,A5l,A5l];refine this _ ?_;rw[Bool.eq_iff_iff];simp only[Apg,Bool.or_eq_true,decide_eq_true_eq];omega
theorem Bb0 (K:Nat){a b:Bn}(ha:A5o a)(hb:A5o b):A3c K a b=some (Apg a b):=by
 obtain⟨a1,a2,a3,a4⟩:=ha;obtain⟨b1,b2,b3,b4⟩:=hb;unfold A3c A3b Asu;simp only[IntKind.wrap_u64];have: ∀x:Bool,x=Apg a b->some x=some (Apg a b):=fun x h=>by rw[h]
 by_cases h:a.fAt>b.fAt
 ·rw[decide_eq_true h,cond_true,A5l,A5l];refine this _ ?_;rw[Bool.eq_iff_iff];simp only[Apg,Bool.or_eq_true,decide_eq_true_eq];omega
 ·rw[decide_eq_false h,cond_false,A5l,A5l];refine this _ ?_;rw[Bool.eq_iff_iff];simp only[Apg,Bool.or_eq_true,decide_eq_true_eq];omega
def At0 (l:List Bn):Bool:=(List.range l.length).all (fun i=>(l.take i).all (fun o=>Apg o (gt l i)))
def Awb (c:Fi)(chunks:List Int)(t:Bn):Bool:=
 At7 c t&&(List.range ((t.fAt+t.Yg - 1) / c.Du - t.fAt / c.Du+1).toNat).all (fun j=>chunks.contains (t.fAt / c.Du+(j:Int)))
theorem Bdz{c:Fi}{t:Bn}(h:At7 c t=true):
  c.Du≠0/\Apq .i64 t.fAt c.Du=t.fAt / c.Du/\Apq .i64 (Ap (A1 t.fAt t.Yg) 1) c.Du=(t.fAt+t.Yg - 1) / c.Du/\0<=t.fAt / c.Du/\t.fAt / c.Du<=(t.fAt+t.Yg - 1) / c.Du/\(t.fAt+t.Yg - 1) / c.Du<=192:=by
 obtain⟨hs,hc,h1,h2,h3⟩:=A6p h;have hb:=A5n c;obtain⟨b1,b2,_⟩:=Bd hc;have e1:Ap (A1 t.fAt t.Yg) 1=t.fAt+t.Yg - 1:=by
  unfold Ap Asu A1 Lc;rw[Ht (n:=t.fAt+t.Yg) (by omega) (by omega),Ht (by omega) (by omega)]
 have e2: ∀x:Int,0<=x->x<=192->Apq .i64 x c.Du=x / c.Du/\0<=x / c.Du/\x / c.Du<=192:=by
  intro x h0 hx;have h3:x / c.Du<=x:=Int.ediv_le_self _ h0;have h4:0<=x / c.Du:=Int.ediv_nonneg h0 (by omega)
  grind [Apq,Ht]
 obtain⟨x1,x2,x3⟩:=e2 t.fAt h2 (by omega);obtain⟨y1,y2,y3⟩:=e2 (t.fAt+t.Yg - 1) (by omega) (by omega);refine⟨by omega,x1,by grind,x2,Int.ediv_le_ediv (by omega) (by omega),y3⟩
theorem Bw3{a:Int}{j:Nat}(h0:0<=a)(h:a+j<=140737488355328):A1 (a+(j:Int)) 1=a+((j+1:Nat):Int):=by
 grind [A1,Lc,Ht]
section
variable {K:Nat} (hK:281474976710656<=K)
include hK
theorem Bdh (l:List Bn)(hl:l.length<=140737488355327)(hs: ∀t∈l,A5o t):A1y K l=some (At0 l):=by
 unfold A1y At0;rw[At9 hK l.length (by omega) (fun i=>(l.take i).all (fun o=>Apg o (gt l i))) (some true) (fun n i=>Amj K l n i) (fun n i h=> ?_) (fun n=> ?_)]
 ·grind
 ·simp only[Amj];rw[Acn h,cond_true];have hlen:(l.take i).length=i:=by grind
  rw[Axc hK (l.take i) (by omega) (fun o=>Apg o (gt l i)) (Amj K l n (A1 i 1)) (fun m j=>As2 K l i (Amj K l n) m j) (fun m j hj=> ?_) (fun m=> ?_)]
  ·grind [Acm]
  ·have hj':j<i:=by omega
   simp only[As2];rw[Acn hj',cond_true,if_pos (Akv h),if_pos (Akv (show j<l.length by omega)),Bil K (hs _ (Aqd h)) (hs _ (Aqd (show j<l.length by omega))),Z0,Ahu,Acm (by omega),Bgm,List.getElem_take,V2 (show j<l.length by omega)]
  ·show As2 K l i _ (m+1) _=_;simp_all[As2]
 ·show Amj K l (n+1) _=_;simp_all[Amj]
theorem Bdi (l:List Bn)(hl:l.length<=140737488355327)(hs: ∀t∈l,A5o t):A14 K l=some (At0 l):=by
 unfold A14 At0;rw[At9 hK l.length (by omega) (fun i=>(l.take i).all (fun o=>Apg o (gt l i))) (some true) (fun n i=>Atg K l n l (l.length:Int) i) (fun n i h=> ?_) (fun n=> ?_)]
 ·grind
 ·simp only[Atg];have hlen:(l.take i).length=i:=by grind
  have hC:Ah0 K (l.take i) (gt l i)=some ((l.take i).any (fun o=> !Apg o (gt l i))):=
   A8j hK (l.take i) (by omega) (fun t=>Azg K t (gt l i)) (fun o=> !Apg o (gt l i)) (fun x hx=>by
    grind [Azg,Bb0,Aqd]) (Acp K (l.take i) (gt l i)) (fun n N i=>rfl)
  rw[Acn h,cond_true,if_pos (Akv h),if_pos (Bgk (by omega)),A85,hC,Acm (by omega),Z0,List.any_eq_not_all_not,Ahu]
  grind
 ·show Atg K l (n+1) _ _ _=_;simp_all[Atg]
theorem Bdj (c:Fi)(n:Az)(h1:n.Ad.length<=140737488355327)(h2:n.D5.length<=140737488355327):A13 K c n=some (n.D5.all (Awb c n.Ad)):=by
 unfold A13;have h1t: ∀t,Awv K t c n=some (!Awb c n.Ad t):=by
  intro t;unfold Awv Awb;rw[A9m,Z0,Ahu];cases ht:At7 c t with
  |false=>rfl
  |true=>
   obtain⟨d0,d1,d2,d3,d4,d5⟩:=Bdz ht;rw[cond_true,if_pos d0,d1];have:=Bl8 hK ((t.fAt+t.Yg - 1) / c.Du - t.fAt / c.Du+1).toNat (by omega) (fun j=>n.Ad.contains (t.fAt / c.Du+(j:Int))) (some false) (some true) (fun m j=>Ape K t c n m (t.fAt / c.Du+j)) (fun m j hj=> ?_) (fun m=> ?_)
   ·grind
   ·simp only[Ape];rw[if_pos d0,d2,decide_eq_true (by omega),cond_true,A7v hK _ _ (by omega),Z0,Ahu,Bw3 d3 (by omega)]
   ·show Ape K t c n (m+1) _=_;rw[Ape,if_pos d0,d2,decide_eq_false (by omega),cond_false]
 have hC:Ahz K n.D5 c n=some (n.D5.any (fun t=> !Awb c n.Ad t)):=
  A8j hK n.D5 (by omega) (fun t=>Awv K t c n) (fun t=> !Awb c n.Ad t) (fun x _=>h1t x) (Aco K n.D5 c n) (fun n N i=>rfl)
 grind
theorem Bdk (c:Fi)(n:Az)(h1:n.Ad.length<=140737488355327)(h2:n.D5.length<=140737488355327):A1x K c n=some (n.D5.all (Awb c n.Ad)):=by
 unfold A1x;rw[Axc hK n.D5 (by omega) (Awb c n.Ad) (some true) (fun k i=>Ami K c k i n.G4 n.C7 n.Nb n.fUp n.G5 n.Bz n.G6 n.G7 n.Ad n.No n.G8 n.D5 n.Dh) (fun k i h=> ?_) (fun k=> ?_)]
 ·grind
 ·simp only[Ami];rw[Acn h,cond_true,if_pos (Akv h),V2 h,A9l,Z0,Ahu];unfold Awb;generalize n.D5[i]=t;cases ht:At7 c t with
  |false=>rfl
  |true=>
   obtain⟨d0,d1,d2,d3,d4,d5⟩:=Bdz ht;rw[cond_true,if_pos d0,d1,Z30];have:=At9 hK ((t.fAt+t.Yg - 1) / c.Du - t.fAt / c.Du+1).toNat (by omega) (fun j=>n.Ad.contains (t.fAt / c.Du+(j:Int))) (Ami K c k ((i+1:Nat):Int) n.G4 n.C7 n.Nb n.fUp n.G5 n.Bz n.G6 n.G7 n.Ad n.No n.G8 n.D5 n.Dh)
    (fun m j=>Asq K c i n.G4 n.C7 n.Nb n.fUp n.G5 n.Bz n.G6 n.G7 n.Ad n.No n.G8 n.D5 n.Dh (Ami K c k) m (t.fAt / c.Du+j) t) (fun m j hj=> ?_) (fun m=> ?_)
   ·grind
   ·simp only[Asq];rw[if_pos d0,d2,decide_eq_true (by omega),cond_true,A5m hK _ _ (by omega),Z0,Ahu,Bw3 d3 (by omega)]
   ·show Asq K c i _ _ _ _ _ _ _ _ _ _ _ _ _ _ (m+1) _ _=_;rw[Asq,if_pos d0,d2,decide_eq_false (by omega),cond_false,Acm (by omega)]
 ·show Ami K c (k+1) _ _ _ _ _ _ _ _ _ _ _ _ _ _=_;simp_all[Ami]
end
def wfi (x:Int):Prop:= -9223372036854775808<=x/\x<=9223372036854775807
def A4c (l:List Int):Prop:=(∀x∈l,wfi x)/\l.length*8<=140737488355327
def Bim (l:List Int):Prop:=(∀x∈l,0<=x/\x<=255)/\l.length<=140737488355327
def ThingW (t:Bn):Prop:=wfi t.fAt/\wfi t.Yg/\wfi t.Yh
def Bev (l:List Bn):Prop:=(∀x∈l,ThingW x)/\l.length*24<=140737488355327
structure At6 (n:Az):Prop where
 st:wfi n.G4
 gen:wfi n.C7
 ep:wfi n.Nb
 up:wfi n.fUp
 upEp:wfi n.G5
 first:wfi n.Bz
 next:wfi n.G6
 prev:wfi n.G7
 chunks:A4c n.Ad
 cur:wfi n.No
 bump:wfi n.G8
 things:Bev n.D5
 tags:A4c n.Dh
def Aeh (l:List Az):Prop:=(∀x∈l,At6 x)/\l.length*152<=140737488355327
structure A03 (x:Bb):Prop where
 slot:wfi x.Be
 first:wfi x.Bz
 tags:A4c x.Dh
 chunks:A4c x.Ad
 done:wfi x.H2
def Bbg (l:List Bb):Prop:=(∀x∈l,A03 x)/\l.length*72<=140737488355327
structure ConfW (c:Fi):Prop where
 chunks:wfi c.Ad
 size:wfi c.Du
 slots:wfi c.Cd
 tax:wfi c.Ez
 slice:wfi c.Ce
 gens:wfi c.Dv
structure A01 (p:Ef):Prop where
 mem:Bim p.Fp
 st:A4c p.G4
 own:A4c p.Fq
structure Ark (w:Bo):Prop where
 c:ConfW w.fC
 p:A01 w.fP
 l:Aeh w.fL
 q:Bbg w.fQ
 log:A4c w.Jp
theorem K1:140737488355328<=maxLen:=by unfold maxLen;omega
theorem Bad{α:Type}(x:Option α):Amh x x=x:=by simp[Amh]
theorem Ay8 (K:Nat){l:List Int}(h:l.length*8<=140737488355327):Acs K l=some l:=by
 have hm:=K1;unfold Acs;rw[Z38,if_pos ⟨by omega,by omega⟩]
 grind [Bad]
theorem Bin (K:Nat){l:List Int}(h:l.length<=140737488355327):Axa K l=some l:=by
 have hm:=K1;unfold Axa;rw[Z38,if_pos ⟨by omega,by omega⟩]
 grind [Bad]
theorem Bgn (K:Nat){l:List Bn}(h:l.length*24<=140737488355327):At8 K l=some l:=by
 have hm:=K1;unfold At8;rw[Z38,if_pos ⟨by omega,by omega⟩]
 grind [Bad]
theorem Bkj{α:Type}(N:Nat)(q:Nat->Bool)(g:Nat->α)(L:Nat->List α->Int->Option (List α))
  (hs: ∀n v (i:Nat),i<N->v.length<=i->L (n+1) v (i:Int)=bif q i then L n (v++[g i]) ((i+1:Nat):Int)else L n v ((i+1:Nat):Int))
  (he: ∀n v,L (n+1) v (N:Int)=some v):
  ∀(n i:Nat) (v:List α),i<=N->v.length<=i->N - i<n->L n v (i:Int)=some (v++(((List.range N).drop i).filter q).map g):=by
 intro n;induction n with
 |zero=>omega
 |succ n ih=>
  intro i v hi hv hn;rcases Hi i N with h|h
  ·rw[hs n v i h hv,Z47 (by grind),List.getElem_range,List.filter_cons]
   grind
  grind [List.drop_eq_nil_of_le]
def Avd (p:Ef)(k:Int):List Int:=((List.range (min p.G4.length p.Fq.length)).filter (fun i:Nat=>gt p.G4 i==1&&gt p.Fq i==k)).map (fun i:Nat=>(i:Int))
theorem Bb1 (p:Ef)(k:Int):(Avd p k).length<=min p.G4.length p.Fq.length:=by
 grind [Avd]
theorem A6j (p:Ef)(k:Int):(Avd p k).Pairwise (fun a b=>a<b):=by
 grind [Avd,List.pairwise_lt_range]
theorem Bas{l:List Int}: ∀ {o:List Int},o.Nodup->(∀x∈o,x∈l)->o.length=l.length->o.Perm l:=by
 intro o;induction o generalizing l with
 |nil=>grind
 |cons x o ih=>
  intro hn hs hl;have hx:x∈l:=hs x (by simp);rw[List.nodup_cons]at hn;have h2:o.Perm (l.erase x):=ih hn.2 (fun y hy=>by
   grind) (by grind)
  grind [List.perm_cons_erase]
def A5b (p:Ef)(k:Int)(l:List Int):Bool:=(Avd p k).all (fun x=>l.contains x)&&((Avd p k).length:Int)==(l.length:Int)
theorem Bui (p:Ef)(k:Int)(l:List Int):decide (l.mergeSort (fun x y=>decide (x<=y))=Avd p k)=A5b p k l:=by
 rw[Bool.eq_iff_iff];unfold A5b;simp only[decide_eq_true_eq,Z4,Z1,List.contains_iff_mem,beq_iff_eq];have hp:=List.mergeSort_perm l (fun x y=>decide (x<=y));constructor
 ·intro e;rw[e]at hp;exact⟨fun x hx=>hp.mem_iff.1 hx,by have:=hp.length_eq;omega⟩
 ·rintro⟨h1,h2⟩
  have hn:(Avd p k).Nodup:=(A6j p k).imp fun h=>by omega
  have h3:=Bas hn h1 (by omega);refine List.Perm.eq_of_pairwise (le:=fun a b=>a<=b) (fun a b _ _ h1 h2=>by omega) ?_ ((A6j p k).imp fun h=>by omega) (hp.trans h3.symm)
  grind [List.pairwise_mergeSort]
theorem Bl9{a b:List Int}(h:a.length=b.length):(List.range a.length).all (fun i=>gt a i==gt b i)=decide (a=b):=by
 rw[Bool.eq_iff_iff];simp only[Z1,List.mem_range,beq_iff_eq,decide_eq_true_eq]
 grind [List.ext_getElem,V2]
section
variable {K:Nat} (hK:281474976710656<=K)
include hK
theorem Bma (a b:List Int)(ha:a.length<=140737488355327):Ars K a b=some (decide (a=b)):=by
 unfold Ars;by_cases h:a.length=b.length
 ·rw[show((a.length:Int) != (b.length:Int))=false by simp[h],cond_false,<-Bl9 h];rw[At9 hK a.length (by omega) (fun i=>gt a i==gt b i) (some true) (fun n i=>Am8 K a b n (a.length:Int) i) (fun n i hi=> ?_) (fun n=> ?_)]
  ·grind
  ·simp only[Am8];rw[Acn hi,cond_true,if_pos (Akv hi),if_pos (Akv (show i<b.length by omega)),Acm (by omega),bne,Ahu]
  ·show Am8 K a b (n+1) _ _=_;simp_all[Am8.eq_2]
 ·rw[A3h (by omega),cond_true,decide_eq_false (fun e=>h (by rw[e]))]
theorem A9p (p:Ef)(k:Int)(h1:p.G4.length*8<=140737488355327):Azr K p k=some (Avd p k):=by
 have hm:=K1;unfold Azr;have:=Bkj (min p.G4.length p.Fq.length) (fun i:Nat=>gt p.G4 i==1&&gt p.Fq i==k) (fun i:Nat=>(i:Int)) (fun n v i=>Ao6 K k n v i p.Fp p.G4 p.Fq) (fun n v i hi hv=> ?_) (fun n v=> ?_) K 0 [] (Z21 _) (Z9 _) (by omega)
 ·assumption
 ·have h2:(v++([(i:Int)]:List Int)).length=v.length+1:=by simp
  simp only[Ao6,Axl];rw[Acn (by omega),Acn (by omega),cond_true,cond_true,if_pos (Akv (by omega)),if_pos (Akv (by omega)),Acm (by omega),if_pos ⟨by omega,by omega⟩]
  grind
 ·show Ao6 K k (n+1) v _ _ _ _=_;rw[Ao6]
  grind
theorem A9q (p:Ef)(k:Int)(h1:p.G4.length*8<=140737488355327):Az0 K p k=some (Avd p k):=by
 have hm:=K1;unfold Az0;have e:Ada (p.G4.length:Int) (p.Fq.length:Int)=((min p.G4.length p.Fq.length:Nat):Int):=by grind [Ada]
 rw[e];have:=Bkj (min p.G4.length p.Fq.length) (fun i:Nat=>gt p.G4 i==1&&gt p.Fq i==k) (fun i:Nat=>(i:Int)) (fun n v i=>Ao9 K k n v ((min p.G4.length p.Fq.length:Nat):Int) i p.Fp p.G4 p.Fq) (fun n v i hi hv=> ?_) (fun n v=> ?_) K 0 [] (Z21 _) (Z9 _) (by omega)
 ·assumption
 ·have h2:(v++([(i:Int)]:List Int)).length=v.length+1:=by simp
  simp only[Ao9,Ax3];rw[Acn hi,cond_true,if_pos (Akv (by omega)),if_pos (Akv (by omega)),Acm (by omega),if_pos ⟨by omega,by omega⟩]
  grind
 ·show Ao9 K k (n+1) v _ _ _ _ _=_;simp_all[Ao9]
theorem Bb2 (w:Bo)(k:Nat)(hk:k<w.fL.length)(h1:w.fP.G4.length*8<=140737488355327)(h2:(gt w.fL k).Ad.length<=140737488355327):A0n K w k=some (A5b w.fP k (gt w.fL k).Ad):=by
 unfold A0n;rw[A9p hK _ _ h1,Z0];have hl:=Bb1 w.fP k;rw[Axc hK (Avd w.fP k) (by omega) (fun x=>(gt w.fL k).Ad.contains x) (some (((Avd w.fP k).length:Int)==((gt w.fL k).Ad.length:Int))) (fun n i=>Arp K k (Avd w.fP k) n i w.fC.Ad w.fC.Du w.fC.Cd w.fC.Ez w.fC.Ce w.fC.Dv w.fP.Fp w.fP.G4 w.fP.Fq w.fL w.fQ w.Jp) (fun n i hi=> ?_) (fun n=> ?_)]
 ·rw[Ayk];rfl
 ·simp only[Arp];rw[Acn hi,cond_true,if_pos (Akv hk),if_pos (Akv hi),A5m hK _ _ (by omega),Z0,Ahu,Acm (by omega),V2 hi]
 ·show Arp K k (Avd w.fP k) (n+1) _ _ _ _ _ _ _ _ _ _ _ _ _=_;simp_all[Arp]
end
def Azm (c:Fi)(n:Az):Bn:=Bn.mk ((n.No - 1)*c.Du+n.G8) (c.Du - n.G8) 0
def Awd (c:Fi)(mem:List Int)(n:Az):Bool:=
 n.No==0||(Arz ((mem.drop (Azm c n).fAt.toNat).take (Azm c n).Yg.toNat)&&n.D5.all (fun t=>Apg t (Azm c n)))
theorem Bmb{c:Fi}{n:Az}(h:Avg c n=true)(h1:n.G4=1):Akj c=true/\Bbz c n=true:=by
 simp_all[Avg]
theorem Bd0{c:Fi}{n:Az}(h:Avg c n=true)(h1:n.G4≠1):A9n n=true:=by
 simp_all[Avg]
theorem B0j{c:Fi}{n:Az}(hw:At6 n)(h:Avg c n=true)(h1:n.No≠0):n.G4=1/\1<=n.No/\n.No<=c.Ad/\0<=n.G8/\n.G8<=c.Du:=by
 by_cases h2:n.G4=1
 ·refine⟨h2,?_⟩;obtain⟨hc,hl⟩:=Bmb h h2;obtain⟨b1,_⟩:=Bd hc;unfold Bbz at hl;simp only[Z4]at hl;have hd:=hl.2.2.1.1;have hcu:=hl.2.2.1.2;unfold A9o at hcu;rw[Aul h1,cond_false,Z4,List.contains_iff_mem,Wy]at hcu;obtain⟨i,hi,e⟩:=List.mem_iff_getElem.1 hcu.1;unfold Ay0 at hd;rw[Z1]at hd;have:=hd i (by grind);rw[Z4,V2 hi,e,Wy]at this;have h3:=this.1;obtain⟨w1,w2⟩:=hw.cur;unfold Ap Asu at h3;rw[IntKind.wrap_i64]at h3;omega
 ·have:=Bd0 h h2;simp_all[A9n]
theorem Bkk{c:Fi}{p:Ef}{n:Az}(hp:Aw7 c p=true)(hw:At6 n)(h:Avg c n=true)(h1:n.No≠0):
  A1 (P2 (Ap n.No 1) c.Du) n.G8=(Azm c n).fAt/\Ap c.Du n.G8=(Azm c n).Yg/\P2 n.No c.Du=(Azm c n).fAt+(Azm c n).Yg/\A5o (Azm c n)/\(Azm c n).fAt+(Azm c n).Yg<=(p.Fp.length:Int):=by
 obtain⟨h2,c1,c2,c3,c4⟩:=B0j hw h h1;obtain⟨hc,hm,_⟩:=Au4 hp;obtain⟨b1,b2,_⟩:=Bd hc;have m1:=Azl (a:=n.No - 1) (b:=c.Du) (m:=11) (n:=16) (by omega) (by omega) (by omega) b2.2;have e2:n.No*c.Du=(n.No - 1)*c.Du+c.Du:=by grind
 have m2:n.No*c.Du<=c.Ad*c.Du:=Int.mul_le_mul_of_nonneg_right (by omega) (by omega);unfold Azm A5o A1 Lc Ap Asu P2 Ew;simp only;rw[Ht (n:=n.No - 1) (by omega) (by omega),Ht (n:=(n.No - 1)*c.Du) (by omega) (by omega),Ht (n:=(n.No - 1)*c.Du+n.G8) (by omega) (by omega),Ht (n:=c.Du - n.G8) (by omega) (by omega),Ht (n:=n.No*c.Du) (by omega) (by omega)];omega
theorem Bb3{c:Fi}{l:List Bn}{ch:List Int}(h:l.all (Awb c ch)=true): ∀t∈l,A5o t/\1<=t.Yg:=by
 intro t ht;rw[Z1]at h;have:=h t ht;unfold Awb at this;rw[Z4]at this;obtain⟨h1,h2⟩:=A6p this.1;exact⟨h1,h2.2.1⟩
def A9r (w:Bo)(k:Nat):Bool:=
 Avg w.fC (gt w.fL k)&&(A5b w.fP k (gt w.fL k).Ad&&((gt w.fL k).D5.all (Awb w.fC (gt w.fL k).Ad)&&(At0 (gt w.fL k).D5&&Awd w.fC w.fP.Fp (gt w.fL k))))
section
variable {K:Nat} (hK:281474976710656<=K)
include hK
theorem A3n{l:List Int}(h:A4c l):l.length<=140737488355327:=by have:=h.2;omega
theorem Bkl{l:List Bn}(h:Bev l):l.length<=140737488355327:=by have:=h.2;omega
theorem Bio (w:Bo)(k:Nat)(hk:k<w.fL.length)(hp:Aw7 w.fC w.fP=true)(hw:At6 (gt w.fL k))(hn:Avg w.fC (gt w.fL k)=true)(hs: ∀t∈(gt w.fL k).D5,A5o t/\1<=t.Yg):A1z K w k=some (Awd w.fC w.fP.Fp (gt w.fL k)):=by
 unfold A1z;rw[if_pos (Akv hk)];unfold Awd;by_cases h1:(gt w.fL k).No=0
 ·grind
 ·rw[Aul h1,cond_false];obtain⟨e1,e2,e3,⟨s1,s2,s3,s4⟩,s5⟩:=Bkk hp hw hn h1;rw[e1,e3];generalize hr:Azm w.fC (gt w.fL k)=r at *;rcases (show r.Yg=0\/1<=r.Yg by omega)with h2|h2
  ·rw[decide_eq_true (show r.fAt>=r.fAt+r.Yg by omega),cond_true,h2];simp_all[Apg,Arz]
  ·rw[decide_eq_false (show ¬r.fAt>=r.fAt+r.Yg by omega),cond_false];have hlt:=Bkl hK hw.things;have hz:List.take (r.fAt+r.Yg - r.fAt).toNat (List.drop r.fAt.toNat w.fP.Fp)=List.take r.Yg.toNat (List.drop r.fAt.toNat w.fP.Fp):=by grind
   rw[Axc hK (gt w.fL k).D5 (by omega) (fun t=>Apg t r) (some (Arz (List.take r.Yg.toNat (List.drop r.fAt.toNat w.fP.Fp)))) (fun m i=>Apl K m r.fAt (r.fAt+r.Yg) i (gt w.fL k).G4 (gt w.fL k).C7 (gt w.fL k).Nb (gt w.fL k).fUp (gt w.fL k).G5 (gt w.fL k).Bz (gt w.fL k).G6 (gt w.fL k).G7 (gt w.fL k).Ad (gt w.fL k).No (gt w.fL k).G8 (gt w.fL k).D5 (gt w.fL k).Dh w.fC.Ad w.fC.Du w.fC.Cd w.fC.Ez w.fC.Ce w.fC.Dv w.fP.Fp w.fP.G4 w.fP.Fq w.fL w.fQ w.Jp) (fun m i hi=> ?_) (fun m=> ?_)]
   ·grind
   ·simp only[Apl,Azd];obtain⟨⟨t1,t2,t3,t4⟩,t5⟩:=hs _ (Aqd hi);rw[Acn hi,cond_true,if_pos (Akv hi),Acm (by omega),<-V2 hi];generalize gt (gt w.fL k).D5 i=t at *;unfold A1 Lc;rw[Ht (n:=t.fAt+t.Yg) (by omega) (by omega)];unfold Apg
    grind
   ·show Apl K (m+1) _ _ _ _ _ _ _ _ _ _ _ _ _ _ _ _ _ _ _ _ _ _ _ _ _ _ _ _=_;rw[Apl,Avr (Z9 _),cond_false,if_pos ⟨s1,by omega,s5⟩,A4a hK _ (by grind),hz,Z0]
theorem Bq0 (l:List Int)(h:A4c l):Fk K l=some (l.mergeSort fun x y=>decide (x<=y)):=by
 have:=h.2;unfold Fk
 grind
theorem Bew (w:Bo)(hw:Ark w)(hp:Aw7 w.fC w.fP=true):Aww K w=some ((List.range w.fL.length).all (A9r w)):=by
 unfold Aww;have hlL:=hw.l.2;rw[At9 hK w.fL.length (by omega) (A9r w) (some true) (fun m i=>Aio K m w.fL (w.fL.length:Int) i w.fC.Ad w.fC.Du w.fC.Cd w.fC.Ez w.fC.Ce w.fC.Dv w.fP.Fp w.fP.G4 w.fP.Fq w.fL w.fQ w.Jp) (fun m k hk=> ?_) (fun m=> ?_)]
 ·grind
 ·simp only[Aio,Avj];rw[show Fi.mk w.fC.Ad w.fC.Du w.fC.Cd w.fC.Ez w.fC.Ce w.fC.Dv=w.fC from rfl,show Ef.mk w.fP.Fp w.fP.G4 w.fP.Fq=w.fP from rfl];have hn:=hw.l.1 _ (Aqd hk);unfold A9r;generalize hN:gt w.fL k=n at*;have l1:=A3n hK hn.chunks;have l2:=Bkl hK hn.things;have l3:=A3n hK hn.tags;rw[Acn hk,cond_true,if_pos (Akv hk),Ay8 K hn.chunks.2,Z0,Bq0 hK _ hn.chunks,Z0,if_pos (List.length_mergeSort _),Bgl hK _ _ l1 l2 l3,Z0,A9q hK _ _ hw.p.st.2,Acm (by omega)];simp only[Z0];rw[Bma hK _ _ (by simp_all),Bui,Bdj hK _ _ l1 l2];simp only[Z0];cases hb:Avg w.fC n with
  |false=>rfl
  |true=>
  cases A5b w.fP k n.Ad with
  |false=>rfl
  |true=>
  cases hi:n.D5.all (Awb w.fC n.Ad)with
  |false=>rfl
  |true=>
  have hs:=Bb3 hi;rw[Bdi hK _ l2 (fun t ht=>(hs t ht).1)];simp only[Z0,cond_true,Ahu,Z30];cases At0 n.D5 with
  |false=>rfl
  |true=>
  simp only[cond_true,Z30];unfold Awd;by_cases h1:n.No=0
  ·grind
  ·rw[Aul h1,cond_false,Z52];obtain⟨e1,e2,e3,s,s5⟩:=Bkk hp hn hb h1;have hmk:Bn.mk (Azm w.fC n).fAt (Azm w.fC n).Yg 0=Azm w.fC n:=rfl;rw[e1,e2];simp only[hmk];generalize hr:Azm w.fC n=r at *;obtain⟨s1,s2,s3,s4⟩:=s;have e4:A1 r.fAt r.Yg=r.fAt+r.Yg:=by grind [A1,Lc,Ht]
   have hC:Af6 K n.D5 r=some (n.D5.any (fun t=> !Apg t r)):=
    A8j hK n.D5 (by omega) (fun t=>Avi K t r) (fun t=> !Apg t r) (fun x hx=>by
     unfold Avi;rw[Bb0 K (hs _ hx).1 ⟨s1,s2,s3,s4⟩];rfl) (W2 K n.D5 r) (fun n N i=>rfl)
   rw[e4,if_pos ⟨s1,by omega,s5⟩,show r.fAt+r.Yg - r.fAt=r.Yg by omega,A54 hK _ (by grind),hC,List.any_eq_not_all_not]
   grind
 ·show Aio K (m+1) _ _ _ _ _ _ _ _ _ _ _ _ _ _ _=_;simp_all[Aio]
end
section
variable {K:Nat} (hK:281474976710656<=K)
theorem Afb{l:List Az}(w:Aeh l):l.length<=140737488355327:=by have:=w.2;omega
theorem A6q (K:Nat){α:Type}{l:List α}(hl:l.length<=140737488355327)(k:Int):F2 K k 0 (Ap (l.length:Int) 1)=some (decide (0<=k/\k<(l.length:Int))):=by
 unfold F2 Ap Asu;rw[Ht (by omega) (by omega)]
 grind
theorem Bmc (K:Nat){α:Type}{l:List α}(hl:l.length<=140737488355327)(k:Int):K0 K k 0 (Ap (l.length:Int) 1)=some (decide (0<=k/\k<(l.length:Int))):=A6q K hl k
theorem A6r (K:Nat){l:List Az}(hl:l.length<=140737488355327)(k:Int):Ap6 K l k=some (decide (0<=k/\k<(l.length:Int))):=by
 grind [Ap6,Bmc]
theorem Az7 (K:Nat)(l:List Az)(k:Int):Ad9 K l k=some (decide (1<=k/\k<=(l.length:Int))):=by
 unfold Ad9
 grind
def Az8 (l:List Az)(h:Ch):Int:=if(0<=h.Be/\h.Be<(l.length:Int))/\(gt l h.Be).G4=1/\(gt l h.Be).C7=h.C7 then h.Be else -1
theorem A9s (K:Nat){l:List Az}(hl:l.length<=140737488355327)(h:Ch):Azq K l h=some (Az8 l h):=by
 unfold Azq Az8;rw[A6q K hl]
 grind
theorem Bae{l:List Az}{h:Ch}(h0: ¬Az8 l h<0):0<=Az8 l h/\Az8 l h<(l.length:Int):=by
 unfold Az8 at *;omega
def Akg (l:List Az):Nat->Int->List Int
 |0,_=>[]
 |n+1,k=>if 0<=k/\k<(l.length:Int)then k::Akg l n (Ap (gt l k).fUp 1)else []
theorem Bex{l:List Az}: ∀(n:Nat) (k:Int),∀x∈Akg l n k,0<=x/\x<(l.length:Int):=by
 intro n;induction n with
 |zero=>intro k x hx;cases hx
 |succ n ih=>
  intro k x hx;unfold Akg at hx
  grind
theorem Bb4{l:List Az}: ∀(n:Nat) (k:Int),(Akg l n k).length<=n:=by
 intro n;induction n with
 |zero=>intro k;exact Z9 _
 |succ n ih=>
  intro k;unfold Akg
  grind
def Bip (l:List Az):List Int->Prop
 |x::y::r=>Ap (gt l x).fUp 1=y/\Bip l (y::r)
 |_=>True
theorem Biq{l:List Az}: ∀(n:Nat) (k:Int),Bip l (Akg l n k):=by
 intro n;induction n with
 |zero=>intro k;trivial
 |succ n ih=>
  intro k;unfold Akg;split
  ·have h1:=ih (Ap (gt l k).fUp 1);cases n with
   |zero=>trivial
   |succ n=>
    rw[Akg]at h1 ⊢;split at h1
    ·rename_i h2;rw[if_pos h2];exact⟨rfl,h1⟩
    ·rename_i h2;rw[if_neg h2];trivial
  ·trivial
theorem Bmd{l:List Az}(w:Aeh l): ∀(n:Nat) (k:Int) (v:List Int),-9223372036854775808<=k/\k<=9223372036854775807->v.length<=l.length->l.length - v.length<n->A06 K l n k v=some (v++Akg l (l.length - v.length) k):=by
 have hb:l.length*152<=140737488355327:=w.2;intro n;induction n with
 |zero=>omega
 |succ n ih=>
  intro k v hk hv hn;rw[A06,Az7];simp only[Z0];have e:decide (1<=A1 k 1/\A1 k 1<=(l.length:Int))=decide (0<=k/\k<(l.length:Int)):=by
   rw[decide_eq_decide]
   grind [A1,Lc,IntKind.wrap_i64]
  rw[e];by_cases hs:0<=k/\k<(l.length:Int)
  ·rw[decide_eq_true hs];simp only[cond_true];rcases Hi v.length l.length with h|h
   ·rw[Acn h];simp only[cond_true];have hl2:(v++[k]).length=v.length+1:=by simp
    rw[if_pos ⟨by omega,by grind [maxLen]⟩,if_pos hs,ih (Ap (gt l k).fUp 1) _ (Bqx _) (by omega) (by omega),hl2];obtain⟨m,hm⟩: ∃m,l.length - v.length=m+1:=⟨l.length - v.length - 1,by omega⟩;rw[hm,Akg,if_pos hs,show l.length - (v.length+1)=m from by omega];simp
   ·rw[Avr h];rw[show l.length - v.length=0 from by omega];simp[Akg]
  ·rw[decide_eq_false hs];have:Akg l (l.length - v.length) k=[]:=by
    cases l.length - v.length with
    |zero=>rfl
    |succ m=>rw[Akg,if_neg hs]
   grind
theorem Bme{l:List Az}(w:Aeh l): ∀(n:Nat) (k:Int) (v:List Int),v.length<=l.length->l.length - v.length<n->A1f K l n k v=some (v++Akg l (l.length - v.length) k):=by
 have hb:l.length*152<=140737488355327:=w.2;intro n;induction n with
 |zero=>omega
 |succ n ih=>
  intro k v hv hn;rw[A1f,A6r K (by omega)];simp only[Z0];by_cases hs:0<=k/\k<(l.length:Int)
  ·rw[decide_eq_true hs];simp only[cond_true];rcases Hi v.length l.length with h|h
   ·rw[Acn h];simp only[cond_true];have hl2:(v++[k]).length=v.length+1:=by simp
    rw[if_pos ⟨by omega,by grind [maxLen]⟩,if_pos hs,ih _ _ (by omega) (by omega),hl2];obtain⟨m,hm⟩: ∃m,l.length - v.length=m+1:=⟨l.length - v.length - 1,by omega⟩;rw[hm,Akg,if_pos hs,show l.length - (v.length+1)=m from by omega];simp
   ·rw[Avr h];rw[show l.length - v.length=0 from by omega];simp[Akg]
  ·rw[decide_eq_false hs];have:Akg l (l.length - v.length) k=[]:=by
    cases l.length - v.length with
    |zero=>rfl
    |succ m=>rw[Akg,if_neg hs]
   grind
include hK in
theorem A64{l:List Az}(w:Aeh l)(k:Int)(hk: -9223372036854775808<=k/\k<=9223372036854775807):A2j K l k=some (Akg l l.length k):=by
 have hb:=Afb w;unfold A2j;have:=Bmd (K:=K) w K k [] hk (Z21 _) (by omega)
 grind
include hK in
theorem Bb5{l:List Az}(w:Aeh l)(k:Int):A39 K l k=some (Akg l l.length k):=by
 have hb:=Afb w;unfold A39;have:=Bme (K:=K) w K k [] (Z21 _) (by omega)
 grind
def Aw5 (l:List Az):List Int->Bool
 |[]=>true
 |[x]=>(gt l x).G4==1
 |x::y::r=>((gt l x).G4==1)&&((gt l x).G5==(gt l y).Nb)&&Aw5 l (y::r)
def A6k (l:List Az)(way:List Int):Bool:=if 0<way.length then(gt l (gt way ((way.length - 1:Nat):Int))).fUp==0 else false
theorem Bgo{l:List Az}{way:List Int}(hin: ∀x∈way,0<=x/\x<(l.length:Int))(hlen:way.length<=140737488355327):
  (bif (decide ((way.length:Int)>0))then(if(0:Int)<=(Ap (way.length:Int) 1)/\(Ap (way.length:Int) 1)<(way.length:Int)then(if(0:Int)<=(gt way (Ap (way.length:Int) 1))/\(gt way (Ap (way.length:Int) 1))<(l.length:Int)then some (((gt l (gt way (Ap (way.length:Int) 1))).fUp)==0)else none)else none)else some false)=some (A6k l way):=by
 unfold A6k;rcases Nc way.length with h|h
 ·grind
 ·rw[if_pos h,decide_eq_true (by omega)];simp only[cond_true];have e:Ap (way.length:Int) 1=((way.length - 1:Nat):Int):=by grind [Ap,Asu,Ht]
  rw[e,if_pos ⟨by omega,by omega⟩,if_pos (hin _ (Aqd (by omega)))]
theorem A3i{way:List Int}{i:Nat}(h:i<way.length):way.drop i=way[i]::way.drop (i+1):=by
 simp_all
theorem Bir{l:List Az}{way:List Int}(hin: ∀x∈way,0<=x/\x<(l.length:Int))(hlen:way.length<=140737488355327): ∀(n i:Nat),i<=way.length->way.length - i<n->Ax9 K l way n way (way.length:Int) (i:Int)=some (Aw5 l (way.drop i)&&A6k l way):=by
 intro n;induction n with
 |zero=>omega
 |succ n ih=>
  intro i hi hn;rw[Ax9];unfold A3g;rcases Hi i way.length with h|h
  ·rw[Acn h];simp only[cond_true];rw[if_pos ⟨by omega,by omega⟩,if_pos (hin _ (Aqd h)),A3i h,Acm (by omega),<-V2 h];rcases Hi (i+1) way.length with h2|h2
   ·rw[Acn h2,A3i h2,<-V2 h2];simp only[cond_true];rw[if_pos (hin _ (Aqd h)),if_pos ⟨by omega,by omega⟩,if_pos (hin _ (Aqd h2)),ih (i+1) h (by omega),A3i h2,<-V2 h2,Aw5];generalize gt way ((i+1:Nat):Int)=y;generalize gt way (i:Int)=x;by_cases c1:(gt l x).G4=1
    ·by_cases c2:(gt l x).G5=(gt l y).Nb
     all_goals grind
    grind
   ·rw[Avr h2,ih (i+1) h (by omega),show way.drop (i+1)=[] from Z48 h2];simp only[cond_false,Aw5]
    grind
  ·rw[Avr h,show way.drop i=[] from Z48 h];simp only[cond_false,Aw5,Z30];exact Bgo hin hlen
theorem Buj{l:List Az}(w:Aeh l){x y:Int}(hx:0<=x/\x<(l.length:Int))(hy:0<=y/\y<(l.length:Int))(h:Ap (gt l x).fUp 1=y):Awq K l x=some (((gt l y).G4==1)&&((gt l y).Nb==(gt l x).G5)):=by
 have hl:=Afb w;unfold Awq;rw[if_pos hx,Az7];simp only[Z0];obtain⟨hr1,hr2⟩:=(w.1 _ (Akk hx.1 hx.2)).up;have hp:1<=(gt l x).fUp/\(gt l x).fUp<=(l.length:Int):=by
  grind [Ap,Asu,IntKind.wrap_i64]
 grind
theorem Bgp{l:List Az}{y:Int}{r:List Int}(h:(gt l y).G4≠1):Aw5 l (y::r)=false:=by
 cases r with
 |nil=>simp[Aw5,h]
 |cons z r=>simp[Aw5,h]
theorem Bis{l:List Az}(w:Aeh l){way:List Int}(hin: ∀x∈way,0<=x/\x<(l.length:Int))(hlen:way.length<=140737488355327): ∀(n i:Nat),Bip l (way.drop i)->i<=way.length->way.length - i<n->Axf K l way n (i:Int)=some (Aw5 l (way.drop i)&&A6k l way):=by
 intro n;induction n with
 |zero=>omega
 |succ n ih=>
  intro i hch hi hn;rw[Axf];unfold A2r;rcases Hi i way.length with h|h
  ·rw[Acn h];simp only[cond_true];rw[A3i h]at hch;rw[if_pos ⟨by omega,by omega⟩,if_pos (hin _ (Aqd h)),A3i h,Acm (by omega),<-V2 h];rcases Hi (i+1) way.length with h2|h2
   ·rw[A3i h2]at hch;have hc1:=hch.1;rw[<-V2 h,<-V2 h2]at hc1;rw[Acn h2,A3i h2,<-V2 h2];simp only[cond_true];rw[if_pos ⟨by omega,by omega⟩,Buj w (hin _ (Aqd h)) (hin _ (Aqd h2)) hc1,ih (i+1) (by rw[A3i h2];exact hch.2) h (by omega),A3i h2,<-V2 h2,Aw5];generalize gt way ((i+1:Nat):Int)=y;generalize gt way (i:Int)=x;by_cases c1:(gt l x).G4=1
    ·by_cases c3:(gt l y).G4=1
     ·by_cases c2:(gt l x).G5=(gt l y).Nb
      all_goals grind
     simp_all[Bgp]
    grind
   ·rw[Avr h2,ih (i+1) (by rw[Z48 h2];trivial) h (by omega),show way.drop (i+1)=[] from Z48 h2];simp only[cond_false,Aw5];by_cases c1:(gt l (gt way (i:Int))).G4=1
    all_goals grind
  ·rw[Avr h,show way.drop i=[] from Z48 h];simp only[cond_false,Aw5,Z30];exact Bgo hin hlen
def Ayb (l:List Az)(k:Int):Bool:=Aw5 l (Akg l l.length k)&&A6k l (Akg l l.length k)
include hK in
theorem A7y{l:List Az}(w:Aeh l)(k:Int)(hk: -9223372036854775808<=k/\k<=9223372036854775807):A0h K l k=some (Ayb l k):=by
 have hb:=Afb w;have hr:=Bb4 (l:=l) l.length k;unfold A0h;rw[A64 hK w k hk];exact Bis w (Bex _ _) (by omega) K 0 (Biq _ _) (Z21 _) (by omega)
include hK in
theorem Bgq{l:List Az}(w:Aeh l)(k:Int):A49 K l k=some (Ayb l k):=by
 have hb:=Afb w;have hr:=Bb4 (l:=l) l.length k;unfold A49;rw[Bb5 hK w k];exact Bir (Bex _ _) (by omega) K 0 (Z21 _) (by omega)
def A5p (h:Ch):Bool:=bif decide (h.Be>=0)then decide (h.C7>=1)else false
theorem A8x (K:Nat)(h:Ch):Ayn K h=some (A5p h):=by
 unfold Ayn A5p;grind
def Ay1 (l:List Az)(h:Ch):Int×Int:=bif A5p h then(bif decide (Az8 l h<0)then(-1,2)else(bif Ayb l (Az8 l h)then(Az8 l h,0)else(-1,2)))else(-1,1)
include hK in
theorem Ay9{w:Bo}(hw:Aeh w.fL)(h:Ch):Arl K w h=some (Ay1 w.fL h):=by
 have hb:=Afb hw;unfold Arl Ay1;rw[A8x,A9s K hb];simp only[Z0];cases A5p h with
 |false=>rfl
 |true=>
  simp only[cond_true];cases e:decide (Az8 w.fL h<0)with
  |true=>rfl
  |false=>
   have h1:=Bae (of_decide_eq_false e);simp only[cond_false];rw[A7y hK hw _ ⟨by omega,by omega⟩]
   grind
theorem Bq1{l:List Az}{h:Ch}(h0:(Ay1 l h).2=0):0<=(Ay1 l h).1/\(Ay1 l h).1<(l.length:Int):=by
 unfold Ay1 at *;cases e1:A5p h with
 |false=>grind
 |true=>
  rw[e1]at h0;simp only[cond_true]at *;cases e:decide (Az8 l h<0)with
  |true=>grind
  |false=>
   rw[e]at h0;simp only[cond_false]at*
   grind [Bae,of_decide_eq_false]
end
def plB (l:List Az)(n:Int):Bool:=decide (0<=Ap n 1/\Ap n 1<(l.length:Int))
theorem A4n{l:List Az}{n:Int}(h:plB l n=true):0<=Ap n 1/\Ap n 1<(l.length:Int):=of_decide_eq_true h
theorem A86 (K:Nat){l:List Az}(hl:l.length<=140737488355327)(n:Int):Ap6 K l (Ap n 1)=some (plB l n):=A6r K hl _
theorem Az9 (K:Nat){l:List Az}(hl:l.length<=140737488355327){n:Int}(hn:wfi n):Ad9 K l n=some (plB l n):=by
 rw[Az7];unfold plB;obtain⟨h1,h2⟩:=hn;congr 1;rw[decide_eq_decide]
 grind [Ap,Asu,IntKind.wrap_i64]
def A56 (l:List Az)(k:Int):Bool:=plB l (gt l k).fUp&&((gt l (Ap (gt l k).fUp 1)).G4==1&&(gt l (Ap (gt l k).fUp 1)).Nb==(gt l k).G5)
theorem Baf (K:Nat){l:List Az}(w:Aeh l){k:Int}(h:0<=k/\k<(l.length:Int)):Awq K l k=some (A56 l k):=by
 unfold Awq A56;rw[if_pos h,Az9 K (Afb w) (w.1 _ (Akk h.1 h.2)).up,Z0,if_pos h];cases hp:plB l (gt l k).fUp with
 |false=>rfl
 |true=>
  have:=A4n hp
  grind
theorem A5q (K:Nat){l:List Az}(w:Aeh l){k:Int}(h:0<=k/\k<(l.length:Int)):Avy K l k=some (A56 l k):=by
 unfold Avy A56;rw[if_pos h,A86 K (Afb w),Z0,if_pos h];cases hp:plB l (gt l k).fUp with
 |false=>rfl
 |true=>
  have:=A4n hp
  grind
def Awz (l:List Az)(n:Int):Bool:=n==0||(plB l n&&(gt l (Ap n 1)).G4==1)
theorem A6s{l:List Az}{n:Int}(h:Awz l n=true)(h0:n≠0):0<=Ap n 1/\Ap n 1<(l.length:Int):=by
 unfold Awz at h;rw[Aul h0,Z52,Z4]at h;exact A4n h.1
theorem A7z (K:Nat){l:List Az}(w:Aeh l){n:Int}(hn:wfi n):Aup K l n=some (Awz l n):=by
 unfold Aup Awz;rw[Az9 K (Afb w) hn,Z0];cases n==0 with
 |true=>rfl
 |false=>
  cases hp:plB l n with
  |false=>rfl
  |true=>rw[if_pos (A4n hp)];rfl
theorem A70 (K:Nat){l:List Az}(w:Aeh l)(n:Int):Ay7 K l n=some (Awz l n):=by
 unfold Ay7 Awz;rw[A86 K (Afb w),Z0];cases n==0 with
 |true=>rfl
 |false=>
  cases hp:plB l n with
  |false=>rfl
  |true=>rw[if_pos (A4n hp)];rfl
def Bat (r:List Int):Int:=gt r ((r.length - 1:Nat):Int)
def A6t (l:List Az)(k:Int):Bool:=decide (((Akg l l.length k).length:Int)<=4)&& !A56 l (Bat (Akg l l.length k))
def Bba (l:List Az)(k:Int):Bool:= !((gt l k).G7==0&&A56 l k)||(gt l (Ap (gt l k).fUp 1)).Bz==A1 k 1
def Bdl (l:List Az)(k:Int):Bool:=(gt l k).G7==0||(gt l (Ap (gt l k).G7 1)).G6==A1 k 1
def Bgr (l:List Az)(k:Int):Bool:=(gt l k).G6==0||((gt l (Ap (gt l k).G6 1)).G7==A1 k 1&&((gt l (Ap (gt l k).G6 1)).fUp==(gt l k).fUp&&(gt l (Ap (gt l k).G6 1)).G5==(gt l k).G5))
def Bmf (l:List Az)(k:Int):Bool:=(gt l k).Bz==0||((gt l (Ap (gt l k).Bz 1)).G7==0&&((gt l (Ap (gt l k).Bz 1)).fUp==A1 k 1&&(gt l (Ap (gt l k).Bz 1)).G5==(gt l k).Nb))
def A8k (l:List Az)(k:Int):Bool:=Awz l (gt l k).Bz&&(Awz l (gt l k).G6&&(Awz l (gt l k).G7&&((gt l k).fUp==0||plB l (gt l k).fUp)))
def A6l (l:List Az)(k:Int):Bool:=A8k l k&&(Bmf l k&&(Bgr l k&&(Bdl l k&&Bba l k)))
def Bb6 (l:List Az):Bool:=(List.range l.length).all (fun k=>(gt l (k:Int)).G4 != 1||(A6l l k&&A6t l k))
theorem Bb7{l:List Az}{k:Int}(h:0<=k/\k<(l.length:Int)):0<(Akg l l.length k).length:=by
 obtain⟨m,hm⟩: ∃m,l.length=m+1:=⟨l.length - 1,by omega⟩;simp_all[Akg.eq_2]
theorem Bey{l:List Az}{k:Int}(h:0<=k/\k<(l.length:Int)):0<=Bat (Akg l l.length k)/\Bat (Akg l l.length k)<(l.length:Int):=by
 have:=Bb7 h;exact Bex _ _ _ (Aqd (by omega))
theorem Bkm{l:List Az}(w:Aeh l){k:Int}(h:0<=k/\k<(l.length:Int)):Ap ((Akg l l.length k).length:Int) 1=(((Akg l l.length k).length - 1:Nat):Int)/\(0:Int)<=(((Akg l l.length k).length - 1:Nat):Int)/\(((Akg l l.length k).length - 1:Nat):Int)<((Akg l l.length k).length:Int):=by
 grind [Bb7,Bb4,Afb,Ap,Asu,Ht]
section
variable {K:Nat} (hK:281474976710656<=K)
include hK
theorem Buk{l:List Az}(w:Aeh l){k:Int}(h:0<=k/\k<(l.length:Int)):Axt K l k=some (A6t l k):=by
 have h3:=Afb w;obtain⟨e1,e2,e3⟩:=Bkm w h;unfold Axt;rw[A64 hK w k ⟨by omega,by omega⟩,Z0,e1,if_pos ⟨e2,e3⟩];have:=Baf K w (Bey h);unfold Bat at this;rw[this,Z0,Ayk];rfl
theorem Bul{l:List Az}(w:Aeh l){k:Int}(h:0<=k/\k<(l.length:Int)):Azu K l k (gt l k).fUp (gt l k).G7=some (Bba l k&&A6t l k):=by
 unfold Azu Bba;rw[Baf K w h,Buk hK w h,Z0];cases (gt l k).G7==0 with
 |false=>rfl
 |true=>
  cases hc:A56 l k with
  |false=>rfl
  |true=>
   have:plB l (gt l k).fUp=true:=by simp_all[A56]
   rw[cond_true,cond_true,if_pos (A4n this),bne,Ahu]
   grind
theorem Bum{l:List Az}(w:Aeh l){k:Int}(h:0<=k/\k<(l.length:Int))(hp:Awz l (gt l k).G7=true):Azv K l k (gt l k).fUp (gt l k).G7=some (Bdl l k&&(Bba l k&&A6t l k)):=by
 unfold Azv Bdl;rw[Bul hK w h];by_cases h0:(gt l k).G7=0
 ·grind
 ·rw[A3h h0,Aul h0,cond_true,if_pos (A6s hp h0),bne,Ahu]
  grind
theorem Bun{l:List Az}(w:Aeh l){k:Int}(h:0<=k/\k<(l.length:Int))(hp:Awz l (gt l k).G7=true)(hn:Awz l (gt l k).G6=true):Azw K l k (gt l k).fUp (gt l k).G5 (gt l k).G6 (gt l k).G7=some (Bgr l k&&(Bdl l k&&(Bba l k&&A6t l k))):=by
 unfold Azw Bgr;rw[Bum hK w h hp];by_cases h0:(gt l k).G6=0
 ·grind
 ·have hi:=A6s hn h0
  grind
theorem Buo{l:List Az}(w:Aeh l){k:Int}(h:0<=k/\k<(l.length:Int))(hf:Awz l (gt l k).Bz=true)(hp:Awz l (gt l k).G7=true)(hn:Awz l (gt l k).G6=true):Azx K l k (gt l k).G4 (gt l k).C7 (gt l k).Nb (gt l k).fUp (gt l k).G5 (gt l k).Bz (gt l k).G6 (gt l k).G7 (gt l k).Ad (gt l k).No (gt l k).G8 (gt l k).D5 (gt l k).Dh=some (Bmf l k&&(Bgr l k&&(Bdl l k&&(Bba l k&&A6t l k)))):=by
 unfold Azx Bmf;rw[Bun hK w h hp hn];by_cases h0:(gt l k).Bz=0
 ·grind
 ·have hi:=A6s hf h0
  grind
theorem Biu{l:List Az}(w:Aeh l){k:Int}(h:0<=k/\k<(l.length:Int)):A4w K l k=some (A6l l k&&A6t l k):=by
 have hn:=w.1 _ (Akk h.1 h.2);unfold A4w A6l A8k;rw[if_pos h,Az9 K (Afb w) hn.up,A7z K w hn.first,A7z K w hn.next,A7z K w hn.prev];simp only[Z0,Ahu];cases hf:Awz l (gt l k).Bz with
 |false=>grind
 |true=>
 cases hx:Awz l (gt l k).G6 with
 |false=>grind
 |true=>
 cases hp:Awz l (gt l k).G7 with
 |false=>grind
 |true=>
 rw[Buo hK w h hf hp hx];simp only[bne];cases (gt l k).fUp==0<;>cases plB l (gt l k).fUp<;>simp only[Bool.not_true,Bool.not_false,cond_true,cond_false,Z30,Bool.false_and,Bool.true_or,Z52,Bool.and_assoc]
theorem Bgs{l:List Az}(w:Aeh l):A3y K l=some (Bb6 l):=by
 have hl:=Afb w;unfold A3y Bb6;rw[At9 hK l.length (by omega) (fun k=>(gt l (k:Int)).G4 != 1||(A6l l k&&A6t l k)) (some true) (fun n i=>At2 K l n i) (fun n i h=> ?_) (fun n=> ?_)]
 ·grind
 ·simp only[At2,A1v];rw[Acn h,cond_true,if_pos (Akv h),Biu hK w (Akv h),Acm (by omega),Z0,Ahu,bne]
  grind
 ·show At2 K l (n+1) _=_;simp_all[At2]
theorem Bup{l:List Az}(w:Aeh l){k:Int}(h:0<=k/\k<(l.length:Int)):Ax4 K l k (gt l k).fUp (gt l k).G7=some (Bba l k):=by
 unfold Ax4 Bba;rw[A5q K w h,Z0,bne];cases (gt l k).G7==0 with
 |false=>rfl
 |true=>
  cases hc:A56 l k with
  |false=>rfl
  |true=>
   simp_all[plB,A56]
theorem Buq{l:List Az}(w:Aeh l){k:Int}(h:0<=k/\k<(l.length:Int))(hp:Awz l (gt l k).G7=true):Ax5 K l k (gt l k).fUp (gt l k).G7=some (Bdl l k&&Bba l k):=by
 unfold Ax5 Bdl;rw[Bup hK w h];by_cases h0:(gt l k).G7=0
 ·grind
 ·rw[A3h h0,Aul h0,cond_true,if_pos (A6s hp h0),bne,Ahu]
  grind
theorem Bur{l:List Az}(w:Aeh l){k:Int}(h:0<=k/\k<(l.length:Int))(hp:Awz l (gt l k).G7=true)(hn:Awz l (gt l k).G6=true):Ax6 K l k (gt l k).fUp (gt l k).G5 (gt l k).G6 (gt l k).G7=some (Bgr l k&&(Bdl l k&&Bba l k)):=by
 unfold Ax6 Bgr;rw[Buq hK w h hp];by_cases h0:(gt l k).G6=0
 ·grind
 ·have hi:=A6s hn h0
  grind
theorem Bus{l:List Az}(w:Aeh l){k:Int}(h:0<=k/\k<(l.length:Int))(hf:Awz l (gt l k).Bz=true)(hp:Awz l (gt l k).G7=true)(hn:Awz l (gt l k).G6=true):Ax7 K l k (gt l k).G4 (gt l k).C7 (gt l k).Nb (gt l k).fUp (gt l k).G5 (gt l k).Bz (gt l k).G6 (gt l k).G7 (gt l k).Ad (gt l k).No (gt l k).G8 (gt l k).D5 (gt l k).Dh=some (Bmf l k&&(Bgr l k&&(Bdl l k&&Bba l k))):=by
 unfold Ax7 Bmf;rw[Bur hK w h hp hn];by_cases h0:(gt l k).Bz=0
 ·grind
 ·have hi:=A6s hf h0
  grind
theorem Bez{l:List Az}(w:Aeh l){k:Int}(h:0<=k/\k<(l.length:Int)):A3d K l k=some (A6l l k):=by
 unfold A3d A6l A8k;rw[if_pos h,A86 K (Afb w),A70 K w,A70 K w,A70 K w];simp only[Z0,Ahu];cases hf:Awz l (gt l k).Bz with
 |false=>rfl
 |true=>
 cases hx:Awz l (gt l k).G6 with
 |false=>rfl
 |true=>
 cases hp:Awz l (gt l k).G7 with
 |false=>rfl
 |true=>
 rw[Bus hK w h hf hp hx]
 grind
theorem Bgt{l:List Az}(w:Aeh l):A35 K l=some (Bb6 l):=by
 have hl:=Afb w;unfold A35 Bb6;rw[At9 hK l.length (by omega) (fun k=>(gt l (k:Int)).G4 != 1||(A6l l k&&A6t l k)) (some true) (fun n i=>At5 K l n l (l.length:Int) i) (fun n i h=> ?_) (fun n=> ?_)]
 ·grind
 ·have hc:=Akv h;obtain⟨e1,e2,e3⟩:=Bkm w hc;have e4:=A5q K w (Bey hc);unfold Bat at e4;have e5:decide (((Akg l l.length i).length:Int)>4)= !decide (((Akg l l.length i).length:Int)<=4):=by grind
  simp only[At5,A15];rw[Acn h,cond_true,if_pos hc,Bez hK w hc,Acm (by omega),Z0,Bb5 hK w,Z0,e1,if_pos ⟨e2,e3⟩,e4,Z0,e5];unfold A6t Bat
  grind
 ·show At5 K l (n+1) _ _ _=_;simp_all[At5]
end
theorem A6u{c:Fi}(hc:Akj c=true):Ap c.Du 1=c.Du - 1:=by
 obtain⟨_,b2,_⟩:=Bd hc
 grind [Ap,Asu,Ht]
def Ao1 (c:Fi)(x:Bb):Bool:=
 Akj c&&(inB x.Be 0 c.Cd&&(inB x.Bz 0 c.Cd&&(decide ((x.Dh.length:Int)<=6)&&(x.Dh.all (fun y=>inB y 0 255)&&(Ay0 c x.Ad&&(inB x.H2 0 (c.Du - 1)&&(decide ((x.Ad.length:Int)>0)||x.H2==0)))))))
section
variable {K:Nat} (hK:281474976710656<=K)
include hK
theorem Bdm (c:Fi)(x:Bb)(hw:A03 x):A21 K c x=some (Ao1 c x):=by
 have h1:=A3n hK hw.tags;have h2:=A3n hK hw.chunks;unfold A21 A0m;rw[Avs];simp only[Z0,Amo];cases hc:Akj c with
 |false=>simp[Ao1,hc]
 |true=>
 have hA:Arv K c x.Ad K 0=some (Ay0 c x.Ad):=by
  rw[At9 hK x.Ad.length (by omega) (fun i=>inB (gt x.Ad i) 0 (c.Ad - 1)&& !(x.Ad.take i).contains (gt x.Ad i)) (some true) (fun k i=>Arv K c x.Ad k i) (fun k i h=> ?_) (fun k=> ?_)]
  ·unfold Ay0;grind
  ·have hp:(x.Ad.take i).length<=140737488355328:=by grind
   simp only[Arv];rw[Acn h,cond_true,if_pos (Akv h),Amo,if_pos (Bgk (by omega)),A85,A5m hK _ _ hp,Acm (by omega),A0x hK hc]
   grind
  ·show Arv K c x.Ad (k+1) _=_;simp_all[Arv]
 have hB:Auf K c x.Dh x.Ad K 0=some (x.Dh.all (fun y=>inB y 0 255)&&Ay0 c x.Ad):=by
  rw[Axc hK x.Dh (by omega) (fun y=>inB y 0 255) (some (Ay0 c x.Ad)) (Auf K c x.Dh x.Ad) (fun k i h=> ?_) (fun k=> ?_)]
  ·grind
  ·rw[Auf,Acn h,cond_true,if_pos (Akv h),V2 h,Amo,Acm (by omega),Z0,Ahu]
  simp_all[Auf]
 rw[hB,A6u hc];have e6:decide ((x.Dh.length:Int)>6)= !decide ((x.Dh.length:Int)<=6):=by grind
 have e0:decide ((x.Ad.length:Int)>0)= !((x.Ad.length:Int)==0):=by
  grind
 unfold Ao1
 grind
theorem Bdn (c:Fi)(x:Bb)(hw:A03 x):A3e K c x=some (Ao1 c x):=by
 have h1:=A3n hK hw.tags;have h2:=A3n hK hw.chunks;unfold A3e;rw[A7w];simp only[Z0,Au3];cases hc:Akj c with
 |false=>simp[Ao1,hc]
 |true=>
 rw[A6i hK _ (by omega),A8w hK hc _ h2,A6u hc];simp_all[Ao1,A5l,Ayk]
end
theorem Avl{c:Fi}{x:Bb}(h:Ao1 c x=true):Akj c=true/\(0<=x.Be/\x.Be<=c.Cd)/\(0<=x.Bz/\x.Bz<=c.Cd)/\Ay0 c x.Ad=true/\(0<=x.H2/\x.H2<=c.Du - 1):=by
 unfold Ao1 at h;simp only[Z4,Wy]at h
 grind
theorem A2b{c:Fi}{l:List Int}(h:Ay0 c l=true): ∀x∈l,0<=x/\x<c.Ad:=by
 intro x hx;obtain⟨i,hi,e⟩:=List.mem_iff_getElem.1 hx;unfold Ay0 at h;rw[Z1]at h;have:=h i (by grind);rw[Z4,V2 hi,e,Wy]at this;omega
theorem A87{l:List Int}:l.Nodup ↔ ∀i,(h:i<l.length)->l[i] ∉ l.take i:=by
 unfold List.Nodup;rw[List.pairwise_iff_getElem];constructor
 ·intro h i hi hm;obtain⟨j,hj,e⟩:=List.mem_iff_getElem.1 hm
  grind
 ·intro h i j hi hj hij e;exact h j hj (List.mem_iff_getElem.2 ⟨i,by grind,by grind⟩)
theorem A2g{c:Fi}{l:List Int}(h:Ay0 c l=true):l.Nodup:=by
 rw[A87];intro i hi hm;unfold Ay0 at h;rw[Z1]at h;have:=h i (by grind);rw[Z4,V2 hi,Z44,List.contains_eq_mem]at this
 grind
theorem A0a{l:List Int}: ∀ {o:List Int},o.Nodup->(∀x∈o,x∈l)->o.length<=l.length:=by
 intro o;induction o generalizing l with
 |nil=>grind
 |cons x o ih=>
  intro hn hs;have hx:x∈l:=hs x (by simp);rw[List.nodup_cons]at hn;have h2:=ih (l:=l.erase x) hn.2 (fun y hy=>by
   grind)
  grind
theorem Aw0{c:Fi}(hc:Akj c=true){l:List Int}(h:Ay0 c l=true):l.length<=12:=by
 obtain⟨b1,_⟩:=Bd hc;have:=A0a (l:=(List.range 12).map (fun i:Nat=>(i:Int))) (A2g h) (fun x hx=>by
  have:=A2b h x hx;rw[Gh];exact⟨x.toNat,by grind,by omega⟩)
 grind
def A3o (l:List Az):Nat->Int->List Int
 |0,_=>[]
 |n+1,k=>if 0<=k/\k<(l.length:Int)then k::A3o l n (Ap (gt l k).G6 1)else []
theorem A9t{l:List Az}: ∀(n:Nat) (k:Int),∀x∈A3o l n k,0<=x/\x<(l.length:Int):=by
 intro n;induction n with
 |zero=>intro k x hx;cases hx
 |succ n ih=>
  intro k x hx;unfold A3o at hx
  grind
theorem A8l{l:List Az}: ∀(n:Nat) (k:Int),(A3o l n k).length<=n:=by
 intro n;induction n with
 |zero=>intro k;exact Z9 _
 |succ n ih=>
  intro k;unfold A3o
  grind
def Ald (l:List Az)(first:Int):List Int:=A3o l l.length (Ap first 1)
def A3p (l:List Az)(k:Int):Bool:=(gt l k).G4==1&&((gt l k).fUp != 0&& !A56 l k)
theorem Bau (K:Nat){l:List Az}(w:Aeh l){k:Int}(h:0<=k/\k<(l.length:Int)):Axu K l k=some (A3p l k):=by
 simp_all[Axu,A3p,Baf,Ayk]
theorem Bav (K:Nat){l:List Az}(w:Aeh l){k:Int}(h:0<=k/\k<(l.length:Int)):Awn K l k=some (A3p l k):=by
 simp_all[Awn,A3p,A5q,Ayk]
section
variable {K:Nat} (hK:281474976710656<=K)
theorem Bmg{l:List Az}(w:Aeh l): ∀(n:Nat) (k:Int) (v:List Int),wfi k->v.length<=l.length->l.length - v.length<n->Ayr K l n k v=some (v++A3o l (l.length - v.length) (Ap k 1)):=by
 have hm:=K1;have hb:l.length*152<=140737488355327:=w.2;intro n;induction n with
 |zero=>omega
 |succ n ih=>
  intro k v hk hv hn;rw[Ayr,Az9 K (Afb w) hk];simp only[Z0];by_cases hs:0<=Ap k 1/\Ap k 1<(l.length:Int)
  ·rw[show plB l k=true from decide_eq_true hs];simp only[cond_true];rcases Hi v.length l.length with h|h
   ·rw[Acn h];simp only[cond_true];have hl2:(v++[Ap k 1]).length=v.length+1:=by simp
    rw[if_pos ⟨by omega,by omega⟩,if_pos hs,ih (gt l (Ap k 1)).G6 _ (w.1 _ (Akk hs.1 hs.2)).next (by omega) (by omega),hl2];obtain⟨m,hm⟩: ∃m,l.length - v.length=m+1:=⟨l.length - v.length - 1,by omega⟩;rw[hm,A3o,if_pos hs,show l.length - (v.length+1)=m from by omega];simp
   ·rw[Avr h];rw[show l.length - v.length=0 from by omega];simp[A3o]
  ·rw[show plB l k=false from decide_eq_false hs];have:A3o l (l.length - v.length) (Ap k 1)=[]:=by
    cases l.length - v.length with
    |zero=>rfl
    |succ m=>rw[A3o,if_neg hs]
   grind
theorem Bmh{l:List Az}(w:Aeh l): ∀(n:Nat) (k:Int) (v:List Int),v.length<=l.length->l.length - v.length<n->Ayz K l n v k=some (v++A3o l (l.length - v.length) k):=by
 have hm:=K1;have hb:l.length*152<=140737488355327:=w.2;intro n;induction n with
 |zero=>omega
 |succ n ih=>
  intro k v hv hn;rw[Ayz,A6r K (by omega)];simp only[Z0];by_cases hs:0<=k/\k<(l.length:Int)
  ·rw[decide_eq_true hs];simp only[cond_true];rcases Hi v.length l.length with h|h
   ·rw[Acn h];simp only[cond_true];have hl2:(v++[k]).length=v.length+1:=by simp
    rw[if_pos ⟨by omega,by omega⟩,if_pos hs,ih _ _ (by omega) (by omega),hl2];obtain⟨m,hm⟩: ∃m,l.length - v.length=m+1:=⟨l.length - v.length - 1,by omega⟩;rw[hm,A3o,if_pos hs,show l.length - (v.length+1)=m from by omega];simp
   ·rw[Avr h];rw[show l.length - v.length=0 from by omega];simp[A3o]
  ·rw[decide_eq_false hs];have:A3o l (l.length - v.length) k=[]:=by
    cases l.length - v.length with
    |zero=>rfl
    |succ m=>rw[A3o,if_neg hs]
   grind
include hK
theorem Baw{l:List Az}(w:Aeh l){k:Int}(hk:wfi k):A1d K l k=some (Ald l k):=by
 have hb:=Afb w;unfold A1d Ald;have:=Bmg (K:=K) w K k [] hk (Z21 _) (by omega)
 grind
theorem Bgu{l:List Az}(w:Aeh l)(k:Int):A36 K l k=some (Ald l k):=by
 have hb:=Afb w;unfold A36 Ald;have:=Bmh (K:=K) w K (Ap k 1) [] (Z21 _) (by omega)
 grind
def Ar0 (w:Bo)(x:Bb):Bool:= !decide ((x.Ad.length:Int)>0)||Arz ((w.fP.Fp.drop (gt x.Ad 0*w.fC.Du).toNat).take x.H2.toNat)
def A1g (w:Bo)(x:Bb):Bool:=x.Be==0||(gt w.fL (Ap x.Be 1)).G4==2
def A3j (w:Bo)(x:Bb):Bool:=x.Bz==0||(gt w.fL (Ap x.Bz 1)).G7==0
def A65 (w:Bo)(x:Bb):Bool:=x.Ad.all (fun k=>gt w.fP.G4 k==2)
def Axd (w:Bo)(x:Bb):Bool:=(Ald w.fL x.Bz).all (A3p w.fL)
def Apc (w:Bo)(x:Bb):Bool:=Ao1 w.fC x&&(A65 w x&&(Ar0 w x&&(A1g w x&&(A3j w x&&Axd w x))))
theorem A9u{w:Bo}(hL:(w.fL.length:Int)=w.fC.Cd)(hc:Akj w.fC=true){n:Int}(h0:n≠0)(h1:0<=n)(h2:n<=w.fC.Cd):0<=Ap n 1/\Ap n 1<(w.fL.length:Int):=by
 obtain⟨_,_,b3,_⟩:=Bd hc
 grind [Ap,Asu,Ht]
theorem Bdo (w:Bo)(hw:Ark w)(hp:Aw7 w.fC w.fP=true)(hL:(w.fL.length:Int)=w.fC.Cd)(i:Nat)(hi:i<w.fQ.length):A1w K w i=some (Apc w (gt w.fQ i)):=by
 have hx:=hw.q.1 _ (Aqd hi);unfold A1w;rw[if_pos (Akv hi)];generalize gt w.fQ i=x at *;rw[Bdm hK _ _ hx,Z0,Ahu];unfold Apc;cases hr:Ao1 w.fC x with
 |false=>rfl
 |true=>
 rw[cond_true,Z30];obtain⟨hc,⟨s1,s2⟩,⟨f1,f2⟩,hd,d1,d2⟩:=Avl hr;obtain⟨_,hm,hst,_⟩:=Au4 hp;obtain⟨b1,b2,b3,_⟩:=Bd hc;have hch:=A2b hd;have hl:=A3n hK hx.chunks;have h3:Asn K x.Bz w.fL=some (Axd w x):=by
  unfold Asn Axd;have hk:=A8l (l:=w.fL) w.fL.length (Ap x.Bz 1);have hin:=A9t (l:=w.fL) w.fL.length (Ap x.Bz 1);rw[Baw hK hw.l hx.first,Z0];change (Ald w.fL x.Bz).length<=_ at hk;change ∀y∈Ald w.fL x.Bz,_ at hin;generalize Ald w.fL x.Bz=r at *;rw[Axc hK r (by omega) (A3p w.fL) (some true) (Auz K w.fL r) (fun n i h=> ?_) (fun n=> ?_)]
  ·grind
  ·rw[Auz,Acn h,cond_true,if_pos (Akv h),Bau K hw.l (hin _ (Aqd h)),Acm (by omega),Z0,Ahu,V2 h]
  simp_all[Auz]
 have h2:Awu K x.Be x.Bz w.fL=some (A1g w x&&(A3j w x&&Axd w x)):=by
  unfold Awu A1g A3j;rw[h3];by_cases g1:x.Bz=0
  ·rw[g1];by_cases g2:x.Be=0
   ·grind
   ·rw[A3h g2,Aul g2,cond_true,if_pos (A9u hK hL hc g2 s1 s2)]
    grind
  ·have hF:(bif (x.Bz != 0)then(if(0:Int)<=(Ap x.Bz 1)/\(Ap x.Bz 1)<(w.fL.length:Int)then(bif (((gt w.fL (Ap x.Bz 1)).G7) != 0)then some false else some (Axd w x))else none)else some (Axd w x))=some ((x.Bz==0||(gt w.fL (Ap x.Bz 1)).G7==0)&&Axd w x):=by
    rw[A3h g1,Aul g1,cond_true,if_pos (A9u hK hL hc g1 f1 f2)]
    grind
   rw[hF];by_cases g2:x.Be=0
   ·grind
   ·rw[A3h g2,Aul g2,cond_true,if_pos (A9u hK hL hc g2 s1 s2)]
    grind
 rw[Axc hK x.Ad (by omega) (fun k=>gt w.fP.G4 k==2) (some (Ar0 w x&&(A1g w x&&(A3j w x&&Axd w x)))) (fun n i=>Aso K n i x.Be x.Bz x.Dh x.Ad x.H2 w.fC.Ad w.fC.Du w.fC.Cd w.fC.Ez w.fC.Ce w.fC.Dv w.fP.Fp w.fP.G4 w.fP.Fq w.fL w.fQ w.Jp) (fun n i h=> ?_) (fun n=> ?_)]
 ·rw[Ayk];rfl
 ·simp only[Aso];have h5:=hch _ (Aqd h);rw[Acn h,cond_true,if_pos (Akv h),if_pos ⟨h5.1,by omega⟩,Acm (by omega),bne,Ahu,V2 h]
 ·show Aso K (n+1) _ _ _ _ _ _ _ _ _ _ _ _ _ _ _ _ _ _=_;rw[Aso,Avr (Z9 _),cond_false,h2];unfold Ar0;by_cases g:(x.Ad.length:Int)>0
  ·have h5:=hch _ (Akk (l:=x.Ad) (Int.le_refl 0) (by omega));obtain⟨e1,e2,e3,e4⟩:=A4b hc hm h5.1 h5.2;have e5:A1 (gt x.Ad 0*w.fC.Du) x.H2=gt x.Ad 0*w.fC.Du+x.H2:=by
    have:=Azl (a:=gt x.Ad 0) (b:=w.fC.Du) (m:=12) (n:=16) h5.1 (by omega) (by omega) b2.2
    grind [A1,Lc,Ht]
   rw[decide_eq_true g,cond_true,if_pos ⟨by omega,by omega⟩,if_pos ⟨by omega,by omega⟩,e1,e5,if_pos ⟨e3,by omega,by omega⟩,A4a hK _ (by grind),show gt x.Ad 0*w.fC.Du+x.H2 - gt x.Ad 0*w.fC.Du=x.H2 by omega]
   grind
  grind
end
def Apb (N:Nat)(l:List Int):List Int:=(List.range N).map (fun k:Nat=>((l.count (k:Int):Nat):Int))
theorem A9v (N:Nat)(l:List Int):(Apb N l).length=N:=by simp[Apb]
theorem A57{N:Nat}{l:List Int}{x:Int}(h0:0<=x)(h1:x<N):gt (Apb N l) x=((l.count x:Nat):Int):=by
 obtain⟨k,rfl⟩: ∃k:Nat,x=k:=⟨x.toNat,by omega⟩
 grind [V2,Apb]
theorem Bgv (N:Nat):Apb N []=List.replicate N 0:=by
 refine List.ext_getElem (by simp[Apb]) fun i h1 h2=> ?_
 simp[Apb]
theorem Bgw{N:Nat}{l:List Int}{x:Int}(h0:0<=x)(h1:x<N)(hl:l.length<=140737488355327):(Apb N l).set x.toNat (A1 (gt (Apb N l) x) 1)=Apb N (l++[x]):=by
 have hc:l.count x<=l.length:=List.count_le_length;have e:A1 (gt (Apb N l) x) 1=((l.count x+1:Nat):Int):=by
  grind [A57,Acm]
 rw[e];refine List.ext_getElem (by simp[Apb]) fun i h2 h3=> ?_
 rw[List.getElem_set];simp only[Apb,List.getElem_map,List.getElem_range,List.count_append,List.count_singleton]
 grind
theorem Bb8{C P:List Int}(hs: ∀x∈C,x∈P)(hP:P.Nodup):(∀x∈P,C.count x=1) ↔ (C.Nodup/\C.length=P.length):=by
 constructor
 ·intro h;have hn:C.Nodup:=by
   grind
  refine⟨hn,?_⟩;have h1:=A0a hn hs;have h2:=A0a hP (l:=C) (fun x hx=>List.count_pos_iff.1 (by grind));omega
 ·rintro⟨hn,hl⟩ x hx
  have hp:=Bas hn hs hl;have:=hn.count (a:=x);rw[this,if_pos (hp.mem_iff.2 hx)]
def chL (q:List Bb):List Int:=q.flatMap (fun x=>x.Ad)
def slL (q:List Bb):List Int:=q.flatMap (fun x=>if x.Be=0 then []else [Ap x.Be 1])
def kdL (l:List Az)(q:List Bb):List Int:=q.flatMap (fun x=>Ald l x.Bz)
theorem Bd1{α β:Type}(q:List α)(f:α->List β)(i:Nat)(h:i<q.length):(q.take (i+1)).flatMap f=(q.take i).flatMap f++f q[i]:=by
 grind [List.take_append_getElem]
theorem A9w{α β:Type}(q:List α)(f:α->List β)(m:Nat)(h: ∀x∈q,(f x).length<=m):(q.flatMap f).length<=q.length*m:=by
 induction q with
 |nil=>simp
 |cons x q ih=>
  have h1:=h x (by simp);have h2:=ih fun y hy=>h y (by simp[hy])
  simp only[List.flatMap_cons,Z23,Z28,Vw,Nat.one_mul];omega
def Bax (w:Bo):List Int:=((List.range w.fP.G4.length).filter (fun k:Nat=>gt w.fP.G4 k==2)).map (fun k:Nat=>(k:Int))
def Bay (w:Bo):List Int:=((List.range w.fL.length).filter (fun k:Nat=>(gt w.fL k).G4==2)).map (fun k:Nat=>(k:Int))
def Bgx (w:Bo):List Int:=((List.range w.fL.length).filter (fun k:Nat=>A3p w.fL k)).map (fun k:Nat=>(k:Int))
theorem A88 (N:Nat)(p:Nat->Bool):(((List.range N).filter p).map (fun k:Nat=>(k:Int))).Nodup:=by
 grind [List.pairwise_lt_range,List.Pairwise.imp]
theorem Ay2{N:Nat}{p:Nat->Bool}{x:Int}:x∈((List.range N).filter p).map (fun k:Nat=>(k:Int)) ↔ (0<=x/\x<(N:Int))/\p x.toNat=true:=by
 grind
def A2c (w:Bo)(N:Nat):Bool:=
 (List.range w.fP.G4.length).all (fun k=> !(gt w.fP.G4 k==2)||gt (Apb N (chL w.fQ)) k==1)&&
 (List.range w.fL.length).all (fun k=>(!((gt w.fL k).G4==2)||gt (Apb w.fL.length (slL w.fQ)) k==1)&&(!A3p w.fL k||gt (Apb w.fL.length (kdL w.fL w.fQ)) k==1))
def A89 (q:List Bb)(i k:Nat):Bool:= !((gt q i).Be != 0&&(gt q k).Be==(gt q i).Be)&&(gt q i).Ad.all (fun y=> !(gt q k).Ad.contains y)
def Be0 (q:List Bb):Bool:=(List.range q.length).all (fun i=>(List.range i).all (fun k=>A89 q i k))
def Bag (l:List Int):Bool:=(List.range l.length).all (fun i=> !(l.take i).contains (gt l i))
def Bbi (w:Bo):Bool:=
 Be0 w.fQ&&(Bag (kdL w.fL w.fQ)&&((((chL w.fQ).length:Int)==((Bax w).length:Int))&&((((slL w.fQ).length:Int)==((Bay w).length:Int))&&(((kdL w.fL w.fQ).length:Int)==((Bgx w).length:Int)))))
theorem Biv (l:List Int):Bag l=true ↔ l.Nodup:=by
 grind [A87,Bag,V2]
theorem Bgy{w:Bo}{q:List Bb}(h1: ∀x∈q,x.Ad.Nodup)(h2: ∀x∈q,0<=x.Be/\x.Be<=8):Be0 q=true ↔ (chL q).Nodup/\(slL q).Nodup:=by
 unfold chL slL List.Nodup;rw[List.pairwise_flatMap,List.pairwise_flatMap,List.pairwise_iff_getElem,List.pairwise_iff_getElem];have hs: ∀x∈q,List.Pairwise (fun a b:Int=>a≠b) (if x.Be=0 then []else [Ap x.Be 1]):=by
  intro x _;split<;>simp
 have hsub: ∀x∈q,Ap x.Be 1=x.Be - 1:=by
  grind [Ap,Asu,Ht]
 unfold Be0 A89;simp only[Z1,List.mem_range,Z4,Z44,List.contains_eq_mem,decide_eq_false_iff_not];constructor
 ·intro h;refine⟨⟨h1,fun i j hi hj hij x hx y hy e=> ?_⟩,hs,fun i j hi hj hij x hx y hy e=> ?_⟩
  ·have:=(h j hj i hij).2
   grind [V2]
  ·have:=(h j hj i hij).1;simp_all[V2]
 ·rintro⟨⟨_,h3⟩,_,h4⟩ i hi k hk
  have hk':k<q.length:=by omega
  rw[V2 hi,V2 hk'];refine⟨?_,fun x hx hy=>h3 k i hk' hi hk x hy x hx rfl⟩;rw[Bool.and_eq_false_iff];by_cases g:q[i].Be=0
  ·grind
  ·right;rw[beq_eq_false_iff_ne];intro e;refine h4 k i hk' hi hk (Ap q[k].Be 1) ?_ (Ap q[i].Be 1) ?_ (by rw[e])
   all_goals grind
theorem B0k{w:Bo}(hp:Aw7 w.fC w.fP=true)(hL:(w.fL.length:Int)=w.fC.Cd)(hq: ∀x∈w.fQ,Apc w x=true):A2c w w.fC.Ad.toNat=Bbi w:=by
 obtain⟨hc,hm,hst,_⟩:=Au4 hp;obtain⟨b1,b2,b3,_⟩:=Bd hc;have hone: ∀x∈w.fQ,(0<=x.Be/\x.Be<=w.fC.Cd)/\Ay0 w.fC x.Ad=true/\A65 w x=true/\A1g w x=true/\Axd w x=true:=by
  intro x hx;have:=hq x hx;unfold Apc at this;simp only[Z4]at this;obtain⟨h1,h2,h3,h4,h5,h6⟩:=this;obtain⟨_,g1,_,g3,_⟩:=Avl h1
  grind
 have hC: ∀x∈chL w.fQ,x∈Bax w:=by
  intro y hy;unfold chL at hy;rw[List.mem_flatMap]at hy;obtain⟨x,hx,hy⟩:=hy;obtain⟨_,g2,g3,_⟩:=hone x hx;have:=A2b g2 y hy;unfold A65 at g3;rw[Z1]at g3;have g4:=g3 y hy;refine Ay2.2 ⟨⟨this.1,by omega⟩,?_⟩
  grind
 have hS: ∀x∈slL w.fQ,x∈Bay w:=by
  intro y hy;unfold slL at hy;rw[List.mem_flatMap]at hy;obtain⟨x,hx,hy⟩:=hy;obtain⟨g1,g2,g3,g4,_⟩:=hone x hx;split at hy
  ·cases hy
  ·rename_i g;simp only[S9]at hy;unfold A1g at g4;rw[Aul g,Z52,<-hy]at g4;have:y=x.Be - 1:=by grind [Ap,Asu,Ht]
   refine Ay2.2 ⟨⟨by omega,by omega⟩,?_⟩
   grind
 have hK2: ∀x∈kdL w.fL w.fQ,x∈Bgx w:=by
  intro y hy;unfold kdL at hy;rw[List.mem_flatMap]at hy;obtain⟨x,hx,hy⟩:=hy;obtain⟨g1,g2,g3,g4,g5⟩:=hone x hx;unfold Axd at g5;rw[Z1]at g5;have:=A9t _ _ y hy;refine Ay2.2 ⟨this,?_⟩
  grind
 have e1:=Bb8 hC (A88 _ _);have e2:=Bb8 hS (A88 _ _);have e3:=Bb8 hK2 (A88 _ _);have hp2:=Bgy (w:=w) (q:=w.fQ) (fun x hx=>A2g (hone x hx).2.1) (fun x hx=>by grind);rw[Bool.eq_iff_iff];unfold A2c Bbi;simp only[Z4,Z1,List.mem_range,Bool.or_eq_true,Z44,beq_iff_eq,Biv,hp2,beq_eq_false_iff_ne];have c1:(∀x∈Bax w,(chL w.fQ).count x=1) ↔ ∀k,k<w.fP.G4.length->gt w.fP.G4 (k:Int)≠2\/gt (Apb w.fC.Ad.toNat (chL w.fQ)) (k:Int)=1:=by
  constructor
  ·intro h k hk;by_cases g:gt w.fP.G4 (k:Int)=2
   ·right;rw[A57 (by omega) (by omega),h k (Ay2.2 ⟨⟨by omega,by omega⟩,by grind⟩)];rfl
   omega
  ·intro h x hx;obtain⟨⟨h1,h2⟩,h3⟩:=Ay2.1 hx;rw[beq_iff_eq,show((x.toNat:Nat):Int)=x by omega]at h3;rcases h x.toNat (by omega)with h4|h4
   ·grind
   ·rw[show((x.toNat:Nat):Int)=x by omega,A57 h1 (by omega)]at h4;omega
 have c2:(∀x∈Bay w,(slL w.fQ).count x=1) ↔ ∀k,k<w.fL.length->(gt w.fL (k:Int)).G4≠2\/gt (Apb w.fL.length (slL w.fQ)) (k:Int)=1:=by
  constructor
  ·intro h k hk;by_cases g:(gt w.fL (k:Int)).G4=2
   ·right;rw[A57 (by omega) (by omega),h k (Ay2.2 ⟨⟨by omega,by omega⟩,by grind⟩)];rfl
   omega
  ·intro h x hx;obtain⟨⟨h1,h2⟩,h3⟩:=Ay2.1 hx;rw[beq_iff_eq,show((x.toNat:Nat):Int)=x by omega]at h3;rcases h x.toNat (by omega)with h4|h4
   ·grind
   ·rw[show((x.toNat:Nat):Int)=x by omega,A57 h1 (by omega)]at h4;omega
 have c3:(∀x∈Bgx w,(kdL w.fL w.fQ).count x=1) ↔ ∀k,k<w.fL.length->A3p w.fL (k:Int)=false\/gt (Apb w.fL.length (kdL w.fL w.fQ)) (k:Int)=1:=by
  constructor
  ·intro h k hk;cases g:A3p w.fL (k:Int)with
   |true=>
    right;rw[A57 (by omega) (by omega),h k (Ay2.2 ⟨⟨by omega,by omega⟩,by grind⟩)];rfl
   |false=>left;rfl
  ·intro h x hx;obtain⟨⟨h1,h2⟩,h3⟩:=Ay2.1 hx;rw[show((x.toNat:Nat):Int)=x by omega]at h3;rcases h x.toNat (by omega)with h4|h4
   ·grind
   ·rw[show((x.toNat:Nat):Int)=x by omega,A57 h1 (by omega)]at h4;omega
 grind
theorem Bbj{α β:Type}{K:Nat}(hK:281474976710656<=K)(l:List α)(hl:l.length<=140737488355328)(q:α->Bool)(fin bad:Option β)(L:Nat->Nat->Option β)
  (hs: ∀n (i:Nat) (h:i<l.length),L (n+1) i=bif q l[i]then L n (i+1)else bad)
  (he: ∀n,L (n+1) l.length=fin):L K 0=bif l.all q then fin else bad:=by
 have:=Bki l q fin bad (fun n i=>L n i.toNat) (fun n i h=>by grind) (fun n=>by simp_all) K 0 (Z21 _) (by omega)
 grind
section
variable {K:Nat} (hK:281474976710656<=K)
include hK
theorem Bmi (w:Bo)(hw:Ark w):Aa1 K (Apb w.fL.length (slL w.fQ)) (Apb w.fL.length (kdL w.fL w.fQ)) w.fL K (w.fL.length:Int) 0 w.fL=some ((List.range w.fL.length).all (fun k=>(!((gt w.fL (k:Int)).G4==2)||gt (Apb w.fL.length (slL w.fQ)) k==1)&&(!A3p w.fL k||gt (Apb w.fL.length (kdL w.fL w.fQ)) k==1))):=by
 have hl:=Afb hw.l;rw[At9 hK w.fL.length (by omega) (fun k=>(!((gt w.fL (k:Int)).G4==2)||gt (Apb w.fL.length (slL w.fQ)) k==1)&&(!A3p w.fL k||gt (Apb w.fL.length (kdL w.fL w.fQ)) k==1)) (some true) (fun n i=>Aa1 K (Apb w.fL.length (slL w.fQ)) (Apb w.fL.length (kdL w.fL w.fQ)) w.fL n (w.fL.length:Int) i w.fL) (fun n i h=> ?_) (fun n=> ?_)]
 ·grind
 ·simp only[Aa1,Aml];rw[Acn h,cond_true,if_pos (Akv h),Bav K hw.l (Akv h),Acm (by omega)];simp only[Z0,A9v,if_pos (Akv h),bne,Ahu]
  grind
 ·show Aa1 K _ _ _ (n+1) _ _ _=_;simp_all[Aa1]
theorem Bmj (w:Bo)(hw:Ark w)(hp:Aw7 w.fC w.fP=true):Ahs K (Apb w.fC.Ad.toNat (chL w.fQ)) (Apb w.fL.length (slL w.fQ)) (Apb w.fL.length (kdL w.fL w.fQ)) w.fP.G4 w.fL K (w.fP.G4.length:Int) 0 w.fP.G4=some (A2c w w.fC.Ad.toNat):=by
 obtain⟨hc,hm,hst,_⟩:=Au4 hp;obtain⟨b1,_⟩:=Bd hc;rw[At9 hK w.fP.G4.length (by omega) (fun k=> !(gt w.fP.G4 k==2)||gt (Apb w.fC.Ad.toNat (chL w.fQ)) k==1) (some ((List.range w.fL.length).all (fun k=>(!((gt w.fL (k:Int)).G4==2)||gt (Apb w.fL.length (slL w.fQ)) k==1)&&(!A3p w.fL k||gt (Apb w.fL.length (kdL w.fL w.fQ)) k==1)))) (fun n i=>Ahs K (Apb w.fC.Ad.toNat (chL w.fQ)) (Apb w.fL.length (slL w.fQ)) (Apb w.fL.length (kdL w.fL w.fQ)) w.fP.G4 w.fL n (w.fP.G4.length:Int) i w.fP.G4) (fun n i h=> ?_) (fun n=> ?_)]
 ·rw[Ayk];rfl
 ·simp only[Ahs,Avk];rw[Acn h,cond_true,if_pos (Akv h),Acm (by omega)];simp only[A9v,if_pos (show(0:Int)<=(i:Int)/\(i:Int)<((w.fC.Ad.toNat:Nat):Int) from⟨by omega,by omega⟩),bne,Ahu]
  grind
 ·show Ahs K _ _ _ _ _ (n+1) _ _ _=_;rw[Ahs,Avr (Z9 _),cond_false,Bmi hK w hw]
theorem Bgz{β:Type}(N:Nat)(base l:List Int)(hin: ∀x∈l,0<=x/\x<(N:Int))(hl:base.length+l.length<=140737488355327)(q:Int->Bool)(fin bad:Option β)(L:Nat->List Int->Int->Option β)
  (hs: ∀n v (i:Nat) (h:i<l.length),v.length=N->L (n+1) v (i:Int)=bif q l[i]then L n (v.set (l[i]).toNat (A1 (gt v l[i]) 1)) ((i+1:Nat):Int)else bad)
  (he: ∀n,L (n+1) (Apb N (base++l)) (l.length:Int)=fin):L K (Apb N base) 0=bif l.all q then fin else bad:=by
 have:=Bbj hK l (by omega) q fin bad (fun n i=>L n (Apb N (base++l.take i)) (i:Int)) (fun n i h=> ?_) (fun n=> ?_)
 ·grind
 ·have hb:(base++l.take i).length<=140737488355327:=by grind
  simp_all[A9v,Bgw]
 grind
theorem Biw (w:Bo)(hw:Ark w)(hp:Aw7 w.fC w.fP=true)(hL:(w.fL.length:Int)=w.fC.Cd)(x:Bb)(hx:A03 x)(c s d:List Int)(i:Nat)(n:Nat)(hi:i<w.fQ.length)(he:gt w.fQ i=x)
  (hb1:c.length+12<=140737488355327) (hb2:s.length<=140737488355326) (hb3:d.length+8<=140737488355327):
  Gy K (n+1) (Apb w.fC.Ad.toNat c) (Apb w.fL.length s) (Apb w.fL.length d) w.fQ (w.fQ.length:Int) i w.fC.Ad w.fC.Du w.fC.Cd w.fC.Ez w.fC.Ce w.fC.Dv w.fP.Fp w.fP.G4 w.fP.Fq w.fL w.fQ w.Jp
   =bif Apc w x then Gy K n (Apb w.fC.Ad.toNat (c++x.Ad)) (Apb w.fL.length (s++if x.Be=0 then []else [Ap x.Be 1])) (Apb w.fL.length (d++Ald w.fL x.Bz)) w.fQ (w.fQ.length:Int) ((i+1:Nat):Int) w.fC.Ad w.fC.Du w.fC.Cd w.fC.Ez w.fC.Ce w.fC.Dv w.fP.Fp w.fP.G4 w.fP.Fq w.fL w.fQ w.Jp else some false:=by
 have hq:=hw.q.2;rw[Gy];rw[show Fi.mk w.fC.Ad w.fC.Du w.fC.Cd w.fC.Ez w.fC.Ce w.fC.Dv=w.fC from rfl,show Ef.mk w.fP.Fp w.fP.G4 w.fP.Fq=w.fP from rfl];rw[Acn hi,cond_true,if_pos (Akv hi),he,Bdn hK _ _ hx,Z0];unfold Apc;cases hr:Ao1 w.fC x with
 |false=>rfl
 |true=>
 rw[cond_true,Z30];obtain⟨hc,⟨s1,s2⟩,⟨f1,f2⟩,hd,d1,d2⟩:=Avl hr;obtain⟨_,hm,hst,_⟩:=Au4 hp;obtain⟨b1,b2,b3,_⟩:=Bd hc;have hch:=A2b hd;have hcl:=Aw0 hc hd;have h5: ∀s',Ath K (Apb w.fL.length d) w.fQ (w.fQ.length:Int) i w.fC.Ad w.fC.Du w.fC.Cd w.fC.Ez w.fC.Ce w.fC.Dv w.fP.Fp w.fP.G4 w.fP.Fq w.fL w.fQ w.Jp x.Bz (Apb w.fC.Ad.toNat (c++x.Ad)) s' (Gy K n)
   =bif Axd w x then Gy K n (Apb w.fC.Ad.toNat (c++x.Ad)) s' (Apb w.fL.length (d++Ald w.fL x.Bz)) w.fQ (w.fQ.length:Int) ((i+1:Nat):Int) w.fC.Ad w.fC.Du w.fC.Cd w.fC.Ez w.fC.Ce w.fC.Dv w.fP.Fp w.fP.G4 w.fP.Fq w.fL w.fQ w.Jp else some false:=by
  intro s';have hk:=A8l (l:=w.fL) w.fL.length (Ap x.Bz 1);have hin:=A9t (l:=w.fL) w.fL.length (Ap x.Bz 1);unfold Ath Axd;rw[Bgu hK hw.l,Z0];change (Ald w.fL x.Bz).length<=_ at hk;change ∀y∈Ald w.fL x.Bz,_ at hin;generalize Ald w.fL x.Bz=r at*;refine Bgz hK w.fL.length d r hin (by omega) (A3p w.fL) _ _ (fun m v j=>Akw K w.fQ (w.fQ.length:Int) i w.fC.Ad w.fC.Du w.fC.Cd w.fC.Ez w.fC.Ce w.fC.Dv w.fP.Fp w.fP.G4 w.fP.Fq w.fL w.fQ w.Jp (Apb w.fC.Ad.toNat (c++x.Ad)) s' r (Gy K n) m v (r.length:Int) j) (fun m v j hj hv=> ?_) (fun m=> ?_)
  ·have hr1:=hin _ (Aqd hj);simp only[Akw];rw[Acn hj,cond_true,if_pos (Akv hj),if_pos (by omega),if_pos (by omega),Bav K hw.l hr1,Acm (by omega),Z0,Ahu,V2 hj]
  ·show Akw K _ _ _ _ _ _ _ _ _ _ _ _ _ _ _ _ _ _ _ (m+1) _ _ _=_;rw[Akw,Avr (Z9 _),cond_false,Acm (by omega)]
 have h4: ∀s',Atm K (Apb w.fL.length d) w.fQ (w.fQ.length:Int) i w.fC.Ad w.fC.Du w.fC.Cd w.fC.Ez w.fC.Ce w.fC.Dv w.fP.Fp w.fP.G4 w.fP.Fq w.fL w.fQ w.Jp x.Bz (Apb w.fC.Ad.toNat (c++x.Ad)) (Gy K n) s'
   =bif A3j w x&&Axd w x then Gy K n (Apb w.fC.Ad.toNat (c++x.Ad)) s' (Apb w.fL.length (d++Ald w.fL x.Bz)) w.fQ (w.fQ.length:Int) ((i+1:Nat):Int) w.fC.Ad w.fC.Du w.fC.Cd w.fC.Ez w.fC.Ce w.fC.Dv w.fP.Fp w.fP.G4 w.fP.Fq w.fL w.fQ w.Jp else some false:=by
  intro s';unfold Atm A3j;rw[h5];by_cases g:x.Bz=0
  ·grind
  ·rw[decide_eq_true (by omega),cond_true,if_pos (A9u hK hL hc g f1 f2),Aul g]
   grind
 have h2:Aty K (Apb w.fC.Ad.toNat c) (Apb w.fL.length s) (Apb w.fL.length d) w.fQ (w.fQ.length:Int) i w.fC.Ad w.fC.Du w.fC.Cd w.fC.Ez w.fC.Ce w.fC.Dv w.fP.Fp w.fP.G4 w.fP.Fq w.fL w.fQ w.Jp (Gy K n) x.Be x.Bz x.Dh x.Ad x.H2
   =bif A65 w x&&(A1g w x&&(A3j w x&&Axd w x))then Gy K n (Apb w.fC.Ad.toNat (c++x.Ad)) (Apb w.fL.length (s++if x.Be=0 then []else [Ap x.Be 1])) (Apb w.fL.length (d++Ald w.fL x.Bz)) w.fQ (w.fQ.length:Int) ((i+1:Nat):Int) w.fC.Ad w.fC.Du w.fC.Cd w.fC.Ez w.fC.Ce w.fC.Dv w.fP.Fp w.fP.G4 w.fP.Fq w.fL w.fQ w.Jp else some false:=by
  unfold Aty;rw[Bgz hK w.fC.Ad.toNat c x.Ad (fun y hy=>by grind) (by omega) (fun k=>gt w.fP.G4 k==2)
   (bif A1g w x&&(A3j w x&&Axd w x)then Gy K n (Apb w.fC.Ad.toNat (c++x.Ad)) (Apb w.fL.length (s++if x.Be=0 then []else [Ap x.Be 1])) (Apb w.fL.length (d++Ald w.fL x.Bz)) w.fQ (w.fQ.length:Int) ((i+1:Nat):Int) w.fC.Ad w.fC.Du w.fC.Cd w.fC.Ez w.fC.Ce w.fC.Dv w.fP.Fp w.fP.G4 w.fP.Fq w.fL w.fQ w.Jp else some false) (some false)
   (fun m v j=>Ak3 K (Apb w.fL.length s) (Apb w.fL.length d) w.fQ (w.fQ.length:Int) i w.fC.Ad w.fC.Du w.fC.Cd w.fC.Ez w.fC.Ce w.fC.Dv w.fP.Fp w.fP.G4 w.fP.Fq w.fL w.fQ w.Jp x.Be x.Bz x.Ad (Gy K n) m v (x.Ad.length:Int) j x.Ad) (fun m v j hj hv=> ?_) (fun m=> ?_)]
  ·unfold A65
   grind
  ·have hr1:=hch _ (Aqd hj);simp only[Ak3];rw[Acn hj,cond_true,if_pos (Akv hj),if_pos (by omega),if_pos (by omega),if_pos ⟨hr1.1,by omega⟩,Acm (by omega),bne,Ahu,V2 hj]
  ·show Ak3 K _ _ _ _ _ _ _ _ _ _ _ _ _ _ _ _ _ _ _ _ _ (m+1) _ _ _ _=_;rw[Ak3,Avr (Z9 _),cond_false,h4,h4,A9v];unfold A1g;by_cases g:x.Be=0
   ·grind
   ·have hlk:=A9u hK hL hc g s1 s2;rw[decide_eq_true (by omega),cond_true,if_pos hlk,if_pos hlk,if_neg g,Bgw hlk.1 hlk.2 (by omega),Aul g]
    grind
 rw[h2];unfold Ar0;by_cases g:(x.Ad.length:Int)>0
 ·have h5:=hch _ (Akk (l:=x.Ad) (Int.le_refl 0) (by omega));obtain⟨e1,e2,e3,e4⟩:=A4b hc hm h5.1 h5.2;have hlc:(Aw4 w.fC w.fP.Fp (gt x.Ad 0)).length=w.fC.Du.toNat:=by grind [Aw4]
  have htk:List.take (x.H2 - 0).toNat (List.drop (0:Int).toNat (Aw4 w.fC w.fP.Fp (gt x.Ad 0)))=List.take x.H2.toNat (List.drop (gt x.Ad 0*w.fC.Du).toNat w.fP.Fp):=by
   unfold Aw4;simp only[Int.sub_zero,Int.toNat_zero,Z55,List.take_take];rw[Nat.min_eq_left (by omega)]
  rw[decide_eq_true g,cond_true,if_pos ⟨by omega,by omega⟩,A84 hK hc hm h5.1 h5.2,Z0,if_pos ⟨by omega,by omega,by rw[hlc];omega⟩,htk,A54 hK _ (by simp;omega)];simp only[Z0,Ahu,Bool.not_true,Z52];cases Arz (List.take x.H2.toNat (List.drop (gt x.Ad 0*w.fC.Du).toNat w.fP.Fp))<;>cases A65 w x<;>rfl
 ·rw[decide_eq_false g];simp only[cond_false,Bool.not_false,Bool.true_or,Z30]
theorem Bkn (q:List Bb):(slL q).length<=q.length:=by
 have:=A9w q (fun x=>if x.Be=0 then []else [Ap x.Be 1]) 1 (fun x _=>by grind)
 grind [slL]
theorem Be1 (l:List Az)(hl:l.length<=8)(q:List Bb):(kdL l q).length<=q.length*8:=
 A9w _ _ 8 fun x _=>S5 (A8l _ _) hl
end
theorem Bb9{β:Type}(N:Nat)(hN:N<=140737488355327)(q:Nat->Bool)(fin:Int->Option β)(L:Nat->Int->Int->Option β)
  (hs: ∀n (v:Int) (i:Nat),i<N->0<=v->v<=i->L (n+1) v (i:Int)=bif q i then L n (v+1) ((i+1:Nat):Int)else L n v ((i+1:Nat):Int))
  (he: ∀n v,L (n+1) v (N:Int)=fin v):
  ∀(n i:Nat) (v:Int),0<=v->v<=i->i<=N->N - i<n->L n v (i:Int)=fin (v+((((List.range N).drop i).filter q).length:Int)):=by
 intro n;induction n with
 |zero=>omega
 |succ n ih=>
  intro i v h0 hv hi hn;rcases Hi i N with h|h
  ·rw[hs n v i h h0 hv,Z47 (by grind),List.getElem_range,List.filter_cons];cases hq:q i with
   |true=>
    rw[cond_true,ih (i+1) _ (by omega) (by omega) (by omega) (by omega)]
    grind
   |false=>
    grind
  grind
theorem Be2{v:Int}(h0:0<=v)(h:v<=140737488355328):A1 v 1=v+1:=by grind [A1,Lc,Ht]
section
variable {K:Nat} (hK:281474976710656<=K)
include hK
theorem Be3 (w:Bo)(hw:Ark w)(hp:Aw7 w.fC w.fP=true)(hL:(w.fL.length:Int)=w.fC.Cd):Awx K w=some (w.fQ.all (Apc w)&&A2c w w.fC.Ad.toNat):=by
 obtain⟨hc,hm,hst,_⟩:=Au4 hp;obtain⟨b1,b2,b3,_⟩:=Bd hc;have hq:=hw.q.2;have key: ∀(n i:Nat),(∀x∈w.fQ.take i,Apc w x=true)->i<=w.fQ.length->w.fQ.length - i<n->
   Gy K n (Apb w.fC.Ad.toNat (chL (w.fQ.take i))) (Apb w.fL.length (slL (w.fQ.take i))) (Apb w.fL.length (kdL w.fL (w.fQ.take i))) w.fQ (w.fQ.length:Int) i w.fC.Ad w.fC.Du w.fC.Cd w.fC.Ez w.fC.Ce w.fC.Dv w.fP.Fp w.fP.G4 w.fP.Fq w.fL w.fQ w.Jp=some ((w.fQ.drop i).all (Apc w)&&A2c w w.fC.Ad.toNat):=by
  intro n;induction n with
  |zero=>omega
  |succ n ih=>
   intro i hpre hi hn;rcases Hi i w.fQ.length with h|h
   ·have hb1:(chL (w.fQ.take i)).length<=(w.fQ.take i).length*12:=A9w _ _ 12 fun x hx=>by
     have:=hpre x hx;unfold Apc at this;simp only[Z4]at this;obtain⟨hc,_,_,hd,_⟩:=Avl this.1;exact Aw0 hc hd
    have hb2:=Bkn hK (w.fQ.take i);have hb3:=Be1 hK w.fL (by omega) (w.fQ.take i);rw[List.length_take]at hb1 hb2 hb3;rw[Biw hK w hw hp hL w.fQ[i] (hw.q.1 _ (List.getElem_mem h)) _ _ _ i n h (V2 h) (by omega) (by omega) (by omega),Z47 h,Gv];cases hx:Apc w w.fQ[i]with
    |false=>rfl
    |true=>
     rw[cond_true,Z30,<-ih (i+1) (fun x hx2=>by
      grind [List.take_append_getElem]) h (by omega)]
     simp_all[chL,slL,kdL,Bd1]
   ·obtain rfl:i=w.fQ.length:=by omega
    rw[Gy,Avr (Z9 _),cond_false,List.take_length,Bmj hK w hw hp,List.drop_length];rfl
 unfold Awx;rw[if_pos ⟨by omega,by omega,by omega,by omega⟩,if_pos ⟨by omega,by omega,by omega,by omega⟩,if_pos ⟨by omega,by omega,by omega,by omega⟩];have:=key K 0 (fun x hx=>by simp at hx) (Z21 _) (by omega);rw[List.take_zero,Z55,show chL []=[] from rfl,show slL []=[] from rfl,show kdL w.fL []=[] from rfl,Bgv,Bgv]at this
 grind
theorem Be4 (p:Ef)(st:Int)(hl:p.G4.length<=140737488355327):A20 K p st=some ((((List.range p.G4.length).filter (fun k:Nat=>gt p.G4 k==st)).length:Nat):Int):=by
 unfold A20;have:=Bb9 p.G4.length hl (fun k:Nat=>gt p.G4 k==st) some (fun n v i=>Aru K st n v i p.Fp p.G4 p.Fq) (fun n v i hi h0 hv=> ?_) (fun n v=> ?_) K 0 0 (Int.le_refl _) (Int.le_refl _) (Z21 _) (by omega)
 ·grind
 ·simp only[Aru,A0k];rw[Acn hi,cond_true,if_pos (Akv hi),Acm (by omega),Be2 h0 (by omega)]
 ·show Aru K st (n+1) v _ _ _ _=_;simp_all[Aru]
theorem A7l (l:List Az)(st:Int)(hl:l.length<=140737488355327):Aux K l st=some ((((List.range l.length).filter (fun k:Nat=>(gt l k).G4==st)).length:Nat):Int):=by
 unfold Aux;have:=Bb9 l.length hl (fun k:Nat=>(gt l k).G4==st) some (fun n v i=>Alj K l st n v i) (fun n v i hi h0 hv=> ?_) (fun n v=> ?_) K 0 0 (Int.le_refl _) (Int.le_refl _) (Z21 _) (by omega)
 ·grind
 ·simp only[Alj,Aw8];rw[Acn hi,cond_true,if_pos (Akv hi),Acm (by omega),Be2 h0 (by omega)]
 ·show Alj K l st (n+1) v _=_;simp_all[Alj]
theorem Bix (w:Bo)(hw:Ark w)(v1 v2:Int)(v3:List Int)(h3:v3.length<=140737488355327):
  Akh K v1 v2 v3 w.fP.Fp w.fP.G4 w.fP.Fq w.fL K 0 0=some (Bag v3&&((v1==((Bax w).length:Int))&&((v2==((Bay w).length:Int))&&((v3.length:Int)==((Bgx w).length:Int))))):=by
 have hl:=Afb hw.l;have hs:=A3n hK hw.p.st;have h8: ∀v24,Amv K v1 v2 v3 w.fP.Fp w.fP.G4 w.fP.Fq w.fL v24 K 0=some (Bag v3&&((v1==((Bax w).length:Int))&&((v2==((Bay w).length:Int))&&((v3.length:Int)==v24)))):=by
  intro v24;rw[At9 hK v3.length (by omega) (fun i=> !(v3.take i).contains (gt v3 i)) (some ((v1==((Bax w).length:Int))&&((v2==((Bay w).length:Int))&&((v3.length:Int)==v24)))) (fun n i=>Amv K v1 v2 v3 w.fP.Fp w.fP.G4 w.fP.Fq w.fL v24 n i) (fun n i h=> ?_) (fun n=> ?_)]
  ·rw[Ayk];rfl
  ·have hp:(v3.take i).length<=140737488355328:=by grind
   simp only[Amv];rw[Acn h,cond_true,if_pos (Bgk (by omega)),if_pos (Akv h),A85,A5m hK _ _ hp,Acm (by omega),Z0,Ahu]
  ·show Amv K v1 v2 v3 _ _ _ _ v24 (n+1) _=_;simp_all[Amv,Be4,A7l,Ayk,Bax,Bay]
 have:=Bb9 w.fL.length hl (fun k:Nat=>A3p w.fL k) (fun v=>some (Bag v3&&((v1==((Bax w).length:Int))&&((v2==((Bay w).length:Int))&&((v3.length:Int)==v))))) (fun n v i=>Akh K v1 v2 v3 w.fP.Fp w.fP.G4 w.fP.Fq w.fL n v i) (fun n v i hi h0 hv=> ?_) (fun n v=> ?_) K 0 0 (Int.le_refl _) (Int.le_refl _) (Z21 _) (by omega)
 ·rw[show((0:Nat):Int)=0 from rfl]at this;simp_all[Bgx]
 ·simp only[Akh,Ayh];rw[Acn hi,cond_true,Bau K hw.l (Akv hi),Z0,Acm (by omega),Be2 h0 (by omega)]
 ·show Akh K v1 v2 v3 _ _ _ _ (n+1) v _=_;simp_all[Akh]
theorem Bg0 (w:Bo)(hw:Ark w)(i n:Nat)(hi:i<w.fQ.length)(v1 v2:Int)(v3:List Int)(h1:0<=v1/\v1<=70368744177664)(h2:0<=v2/\v2<=70368744177664)(h3:(v3.length+w.fL.length)*8<=140737488355327)(hcl:(gt w.fQ i).Ad.length<=12):
  Af0 K (n+1) v1 v2 v3 i w.fC.Ad w.fC.Du w.fC.Cd w.fC.Ez w.fC.Ce w.fC.Dv w.fP.Fp w.fP.G4 w.fP.Fq w.fL w.fQ w.Jp
   =bif (List.range i).all (fun k=>A89 w.fQ i k)then Af0 K n (v1+((gt w.fQ i).Ad.length:Int)) (v2+((if(gt w.fQ i).Be=0 then([]:List Int)else [Ap (gt w.fQ i).Be 1]).length:Int)) (v3++Ald w.fL (gt w.fQ i).Bz) ((i+1:Nat):Int) w.fC.Ad w.fC.Du w.fC.Cd w.fC.Ez w.fC.Ce w.fC.Dv w.fP.Fp w.fP.G4 w.fP.Fq w.fL w.fQ w.Jp else some false:=by
 have hq:=hw.q.2;have hm:=K1;have hx:=hw.q.1 _ (Aqd hi);have hkl:=A8l (l:=w.fL) w.fL.length (Ap (gt w.fQ i).Bz 1);change (Ald w.fL (gt w.fQ i).Bz).length<=_ at hkl;have hJ: ∀v17 v18,Av9 K v3 i w.fC.Ad w.fC.Du w.fC.Cd w.fC.Ez w.fC.Ce w.fC.Dv w.fP.Fp w.fP.G4 w.fP.Fq w.fL w.fQ w.Jp (Af0 K n) v17 v18
   =bif (List.range i).all (fun k=>A89 w.fQ i k)then Af0 K n v17 v18 (v3++Ald w.fL (gt w.fQ i).Bz) ((i+1:Nat):Int) w.fC.Ad w.fC.Du w.fC.Cd w.fC.Ez w.fC.Ce w.fC.Dv w.fP.Fp w.fP.G4 w.fP.Fq w.fL w.fQ w.Jp else some false:=by
  intro v17 v18;unfold Av9;have hlen:(v3++Ald w.fL (gt w.fQ i).Bz).length=v3.length+(Ald w.fL (gt w.fQ i).Bz).length:=by simp
  rw[if_pos (Akv hi),Baw hK hw.l hx.first,Z0,if_pos ⟨by omega,by omega⟩];rw[At9 hK i (by omega) (fun k=>A89 w.fQ i k) _ (fun m k=>Amu K i w.fC.Ad w.fC.Du w.fC.Cd w.fC.Ez w.fC.Ce w.fC.Dv w.fP.Fp w.fP.G4 w.fP.Fq w.fL w.fQ w.Jp v17 v18 (Af0 K n) m (v3++Ald w.fL (gt w.fQ i).Bz) k) (fun m k hk=> ?_) (fun m=> ?_)]
  ·have hk2:k<w.fQ.length:=by omega
   have hlk:=A3n hK (hw.q.1 _ (Aqd hk2)).chunks;have h4: ∀C:List Int->Int->Option Bool,Av8 K i w.fQ (v3++Ald w.fL (gt w.fQ i).Bz) k C=bif (gt w.fQ i).Ad.all (fun y=> !(gt w.fQ k).Ad.contains y)then C (v3++Ald w.fL (gt w.fQ i).Bz) ((k+1:Nat):Int)else some false:=by
    intro C;unfold Av8;rw[Axc hK (gt w.fQ i).Ad (by omega) (fun y=> !(gt w.fQ k).Ad.contains y) _ (fun m j=>Aro K i w.fQ (v3++Ald w.fL (gt w.fQ i).Bz) k C m j) (fun m j hj=> ?_) (fun m=> ?_)]
    ·simp only[Aro];rw[if_pos (Akv hi),Acn hj,cond_true,if_pos (Akv hk2),if_pos (Akv hj),A5m hK _ _ (by omega),Z0,Acm (by omega),Ahu,V2 hj,if_pos (Akv hi)]
    ·show Aro K i w.fQ _ k C (m+1) _=_;rw[Aro,if_pos (Akv hi),Avr (Z9 _),cond_false,Acm (by omega)]
   simp only[Amu];rw[Acn hk,cond_true,if_pos (Akv hi),if_pos (Akv hk2),if_pos (Akv hi),h4];unfold A89
   grind
  ·show Amu K i _ _ _ _ _ _ _ _ _ _ _ _ v17 v18 _ (m+1) _ _=_;rw[Amu,Avr (Z9 _),cond_false,Acm (by omega)]
 rw[Af0,Acn hi,cond_true,if_pos (Akv hi),if_pos (Akv hi),hJ,hJ];have e1:A1 v1 ((gt w.fQ i).Ad.length:Int)=v1+((gt w.fQ i).Ad.length:Int):=by grind [A1,Lc,Ht]
 rw[e1,Be2 h2.1 (by omega)]
 grind
theorem Bg1 (w:Bo)(hw:Ark w)(hp:Aw7 w.fC w.fP=true)(hL:(w.fL.length:Int)=w.fC.Cd)(hall: ∀x∈w.fQ,Apc w x=true):A0l K w=some (Bbi w):=by
 obtain⟨hc,hm,hst,_⟩:=Au4 hp;obtain⟨b1,b2,b3,_⟩:=Bd hc;have hq:=hw.q.2;have hc12: ∀x∈w.fQ,x.Ad.length<=12:=fun x hx=>by
  have:=hall x hx;unfold Apc at this;simp only[Z4]at this;obtain⟨hc,_,_,hd,_⟩:=Avl this.1;exact Aw0 hc hd
 have h3:=Be1 hK w.fL (by omega) w.fQ;unfold A0l;have:=Bbj hK (List.range w.fQ.length) (by grind) (fun i=>(List.range i).all (fun k=>A89 w.fQ i k)) (Akh K ((chL w.fQ).length:Int) ((slL w.fQ).length:Int) (kdL w.fL w.fQ) w.fP.Fp w.fP.G4 w.fP.Fq w.fL K 0 0) (some false)
  (fun n i=>Af0 K n ((chL (w.fQ.take i)).length:Int) ((slL (w.fQ.take i)).length:Int) (kdL w.fL (w.fQ.take i)) (i:Int) w.fC.Ad w.fC.Du w.fC.Cd w.fC.Ez w.fC.Ce w.fC.Dv w.fP.Fp w.fP.G4 w.fP.Fq w.fL w.fQ w.Jp) (fun n i h=> ?_) (fun n=> ?_)
 ·rw[List.take_zero,show chL []=[] from rfl,show slL []=[] from rfl,show kdL w.fL []=[] from rfl]at this;refine Eq.trans this ?_;rw[Bix hK w hw _ _ _ (by omega),Ayk];rfl
 ·have hi:i<w.fQ.length:=by grind
  have hb1:(chL (w.fQ.take i)).length<=(w.fQ.take i).length*12:=A9w _ _ 12 fun x hx=>hc12 x (Z42 hx)
  have hb2:=Bkn hK (w.fQ.take i);have hb3:=Be1 hK w.fL (by omega) (w.fQ.take i);rw[List.length_take]at hb1 hb2 hb3;simp only[List.getElem_range];rw[Bg0 hK w hw i n hi _ _ _ ⟨by omega,by omega⟩ ⟨by omega,by omega⟩ (by omega) (hc12 _ (Aqd hi))];simp_all[chL,slL,kdL,Bd1,V2]
 simp_all[Af0.eq_2]
end
def A4o (w:Bo):Bool:=
 Aw7 w.fC w.fP&&(((w.fL.length:Int)==w.fC.Cd)&&((List.range w.fL.length).all (A9r w)&&(Bb6 w.fL&&((w.fQ.all (Apc w)&&A2c w w.fC.Ad.toNat)&&w.Jp.all (fun x=>inB x 0 255)))))
section
variable {K:Nat} (hK:281474976710656<=K)
include hK
theorem A5c (w:Bo)(hw:Ark w):Az1 K w=some (A4o w):=by
 have hl:=A3n hK hw.log;unfold Az1 A4o;rw[Bar hK,Z0];cases hp:Aw7 w.fC w.fP with
 |false=>rfl
 |true=>
 rw[cond_true,Z30];cases hL:(w.fL.length:Int)==w.fC.Cd with
 |false=>rfl
 |true=>
 rw[beq_iff_eq]at hL;rw[cond_true,Z30,Bew hK w hw hp,Bgt hK hw.l,Be3 hK w hw hp hL,A6i hK _ (by omega)];simp_all[Ayk]
theorem A3k (w:Bo)(hw:Ark w):Aur K w=some (A4o w):=by
 have hl:=A3n hK hw.log;have hl2:=Afb hw.l;have hq:=hw.q.2;unfold Aur A4o;rw[A7x hK,Z0];cases hp:Aw7 w.fC w.fP with
 |false=>rfl
 |true=>
 rw[cond_true,Z30];cases hL:(w.fL.length:Int)==w.fC.Cd with
 |false=>grind
 |true=>
 rw[bne,hL,Bool.not_true,cond_false,Z30,Bgs hK hw.l,Z0,Ahu];rw[beq_iff_eq]at hL;have e1:Fi.mk w.fC.Ad w.fC.Du w.fC.Cd w.fC.Ez w.fC.Ce w.fC.Dv=w.fC:=rfl;have e2:Bo.mk (Fi.mk w.fC.Ad w.fC.Du w.fC.Cd w.fC.Ez w.fC.Ce w.fC.Dv) (Ef.mk w.fP.Fp w.fP.G4 w.fP.Fq) w.fL w.fQ w.Jp=w:=rfl;have h3:w.fQ.all (Apc w)=true->Arw K w.fC.Ad w.fC.Du w.fC.Cd w.fC.Ez w.fC.Ce w.fC.Dv w.fP.Fp w.fP.G4 w.fP.Fq w.fL w.fQ w.Jp K 0=some (w.Jp.all (fun x=>inB x 0 255)&&A2c w w.fC.Ad.toNat):=by
  intro hall;rw[Z1]at hall;rw[B0k hp hL hall];rw[Axc hK w.Jp (by omega) (fun x=>inB x 0 255) (some (Bbi w)) (Arw K w.fC.Ad w.fC.Du w.fC.Cd w.fC.Ez w.fC.Ce w.fC.Dv w.fP.Fp w.fP.G4 w.fP.Fq w.fL w.fQ w.Jp) (fun n i h=> ?_) (fun n=> ?_)]
  ·grind
  ·rw[Arw,Acn h,cond_true,if_pos (Akv h),Amo,Acm (by omega),Z0,Ahu,V2 h]
  simp_all[Arw,Bg1]
 have h2:Aug K w.fC.Ad w.fC.Du w.fC.Cd w.fC.Ez w.fC.Ce w.fC.Dv w.fP.Fp w.fP.G4 w.fP.Fq w.fL w.fQ w.Jp K 0=some (w.fQ.all (Apc w)&&(w.Jp.all (fun x=>inB x 0 255)&&A2c w w.fC.Ad.toNat)):=by
  rw[Axc hK w.fQ (by omega) (Apc w) (Arw K w.fC.Ad w.fC.Du w.fC.Cd w.fC.Ez w.fC.Ce w.fC.Dv w.fP.Fp w.fP.G4 w.fP.Fq w.fL w.fQ w.Jp K 0) (Aug K w.fC.Ad w.fC.Du w.fC.Cd w.fC.Ez w.fC.Ce w.fC.Dv w.fP.Fp w.fP.G4 w.fP.Fq w.fL w.fQ w.Jp) (fun n i h=> ?_) (fun n=> ?_)]
  ·grind
  ·rw[Aug,Acn h,cond_true,e2,Bdo hK w hw hp hL i h,Acm (by omega),Z0,Ahu,V2 h]
  simp_all[Aug]
 have h1:Arx K K 0 w.fC.Ad w.fC.Du w.fC.Cd w.fC.Ez w.fC.Ce w.fC.Dv w.fP.Fp w.fP.G4 w.fP.Fq w.fL w.fQ w.Jp=some ((List.range w.fL.length).all (A9r w)&&(w.fQ.all (Apc w)&&(w.Jp.all (fun x=>inB x 0 255)&&A2c w w.fC.Ad.toNat))):=by
  rw[At9 hK w.fL.length (by omega) (A9r w) (some (w.fQ.all (Apc w)&&(w.Jp.all (fun x=>inB x 0 255)&&A2c w w.fC.Ad.toNat))) (fun n i=>Arx K n i w.fC.Ad w.fC.Du w.fC.Cd w.fC.Ez w.fC.Ce w.fC.Dv w.fP.Fp w.fP.G4 w.fP.Fq w.fL w.fQ w.Jp) (fun n k hk=> ?_) (fun n=> ?_)]
  ·grind
  ·simp only[Arx];rw[e2,e1];have hn:=hw.l.1 _ (Aqd hk);have l1:=A3n hK hn.chunks;have l2:=Bkl hK hn.things;have l3:=A3n hK hn.tags;rw[Acn hk,cond_true,if_pos (Akv hk),Az6 hK _ _ l1 l2 l3,Z0,Bb2 hK w k hk hw.p.st.2 l1,Acm (by omega),Bdk hK _ _ l1 l2];simp only[Z0];unfold A9r;cases hb:Avg w.fC (gt w.fL k)with
   |false=>rfl
   |true=>
   cases A5b w.fP k (gt w.fL k).Ad with
   |false=>rfl
   |true=>
   cases hi:(gt w.fL k).D5.all (Awb w.fC (gt w.fL k).Ad)with
   |false=>grind
   |true=>
   have hs:=Bb3 hi;rw[Bdh hK _ l2 (fun t ht=>(hs t ht).1),Bio hK w k hk hp hn hb hs];simp only[Z0,cond_true,Ahu,Z30,if_pos (Akv hk)]
   grind
  ·show Arx K (n+1) _ _ _ _ _ _ _ _ _ _ _ _ _=_;simp_all[Arx]
 grind
end
theorem Bq2{n:Nat}(h:n<=reachBytes):n<=140737488355327:=by simp only[reachBytes]at h;omega
section
variable {K:Nat} (hK:281474976710656<=K)
include hK
end
theorem B33{x:Int}(h:Bgi x):0<=x/\x<=255:=by
 grind [Bgi,Lit.wf,IntKind.min,IntKind.max,IntKind.signed,IntKind.bits]
theorem Bmk{l:List Int}(h:Beu l):Bim l:=⟨fun x hx=>B33 (h.1 x hx),by have:=Bq2 h.2.1;omega⟩
theorem B6l{α:Type}(l:List α)(i:Nat)(x y:α):(l.set i x).set i y=l.set i y:=List.set_set ..
section
variable {K:Nat} (hK:281474976710656<=K)
include hK
def one{α:Type}(_:α):Nat:=1
def A5r (x:Az):Nat:=10+x.Ad.length+3*x.D5.length+x.Dh.length
def Bca (p:Ef):Nat:=p.Fp.length+p.G4.length+p.Fq.length
end
section
variable {K:Nat} (hK:281474976710656<=K)
include hK
theorem Bbk{α β:Type}(l:List α)(hl:l.length<=140737488355327)(fin:Option β)(L:Nat->List α->Int->Option β)
  (hs: ∀n v (i:Nat) (h:i<l.length),v.length=i->L (n+1) v (i:Int)=L n (v++[l[i]]) ((i+1:Nat):Int))
  (he: ∀n,L (n+1) l (l.length:Int)=fin):L K [] 0=fin:=by
 have:=Bbj hK l (by omega) (fun _=>true) fin none (fun n i=>L n (l.take i) (i:Int)) (fun n i h=>by
  grind [List.take_append_getElem]) (fun n=>by grind)
 grind
omit hK in
theorem A4d (K:Nat){p:Ef}(w:A01 p):Avo K p=some p:=by
 have hm:=K1;have h1:=w.mem.2;have h2:=w.st.2;have h3:=w.own.2;unfold Avo;simp only[Z38];rw[if_pos ⟨by omega,by omega⟩,if_pos ⟨by omega,by omega⟩,if_pos ⟨by omega,by omega⟩]
omit hK in
theorem Aw1 (K:Nat){n:Az}(w:At6 n):Ap5 K n=some n:=by
 have hm:=K1;have h1:=w.chunks.2;have h2:=w.things.2;have h3:=w.tags.2;unfold Ap5;simp only[Z38];rw[if_pos ⟨by omega,by omega⟩,if_pos ⟨by omega,by omega⟩,if_pos ⟨by omega,by omega⟩]
theorem A66{l:List Az}(w:Aeh l):Ayg K l=some l:=by
 have hm:=K1;have h2:=w.2;unfold Ayg;refine Bbk hK l (Afb w) (some l) (fun n v i=>Av1 K l n v i) (fun n v i h hv=> ?_) (fun n=> ?_)
 ·have hl:(v++[l[i]]).length=i+1:=by simp[hv]
  simp only[Av1];rw[Acn h,cond_true,if_pos (Akv h),V2 h,Aw1 K (w.1 _ (List.getElem_mem h)),Z0,if_pos ⟨by omega,by omega⟩,Acm (by omega)]
 ·show Av1 K l (n+1) _ _=_;simp_all[Av1]
omit hK in
theorem Be5 (K:Nat){x:Bb}(w:A03 x):A2z K x=some x:=by
 have hm:=K1;have h1:=w.tags.2;have h2:=w.chunks.2;unfold A2z;simp only[Z38];rw[if_pos ⟨by omega,by omega⟩,if_pos ⟨by omega,by omega⟩]
theorem A0y{w:Bo}(hw:Ark w):Asm K w=some w:=by
 have hm:=K1;have h2:=hw.q.2;have h3:=hw.log.2;unfold Asm;rw[A4d K hw.p,Z0,A66 hK hw.l,Z0];refine Bbk hK w.fQ (by omega) (some w) (fun n v i=>Aue K n i w.fC.Ad w.fC.Du w.fC.Cd w.fC.Ez w.fC.Ce w.fC.Dv w.fP.Fp w.fP.G4 w.fP.Fq w.fL v w.Jp (Bo.mk (Fi.mk 0 0 0 0 0 0) (Ef.mk [] [] []) [] [] []) w.fC.Ad w.fC.Du w.fC.Cd w.fC.Ez w.fC.Ce w.fC.Dv w.fP.Fp w.fP.G4 w.fP.Fq w.fL w.fQ w.Jp) (fun n v i h hv=> ?_) (fun n=> ?_)
 ·have hl:(v++[w.fQ[i]]).length=i+1:=by simp[hv]
  simp only[Aue];rw[Acn h,cond_true,if_pos (Akv h),V2 h,Be5 K (hw.q.1 _ (List.getElem_mem h)),Z0,if_pos ⟨by omega,by omega⟩,Acm (by omega)]
 ·show Aue K (n+1) _ _ _ _ _ _ _ _ _ _ _ _ _ _ _ _ _ _ _ _ _ _ _ _ _ _=_;rw[Aue,Avr (Z9 _),cond_false];simp only[Z38];rw[if_pos ⟨by omega,by omega⟩]
omit hK in
theorem A6m (K:Nat){p:Ef}(w:A01 p):Awl K p=some p:=by
 unfold Awl;rw[Bin K w.mem.2,Ay8 K w.st.2,Ay8 K w.own.2];rfl
omit hK in
theorem Bdp (K:Nat){n:Az}(w:At6 n):A10 K n=some n:=by
 unfold A10;rw[Ay8 K w.chunks.2,Bgn K w.things.2,Ay8 K w.tags.2];rfl
theorem A71{l:List Az}(w:Aeh l):Ax1 K l=some l:=by
 have hm:=K1;have h2:=w.2;unfold Ax1;refine Bbk hK l (Afb w) (some l) (fun n v i=>Arq K l n v (l.length:Int) i) (fun n v i h hv=> ?_) (fun n=> ?_)
 ·have hl:(v++[l[i]]).length=i+1:=by simp[hv]
  simp only[Arq];rw[Acn h,cond_true,if_pos (Akv h),V2 h,Bdp K (w.1 _ (List.getElem_mem h)),Z0,if_pos ⟨by omega,by omega⟩,Acm (by omega)]
 ·show Arq K l (n+1) _ _ _=_;simp_all[Arq]
omit hK in
theorem Bcb (K:Nat){x:Bb}(w:A03 x):A0r K x=some x:=by
 unfold A0r;rw[Ay8 K w.tags.2,Ay8 K w.chunks.2];rfl
theorem Bq3{α:Type}(v:List α)(d x:α):(v++[d]).set (v.length:Int).toNat x=v++[x]:=by
 simp_all
theorem A5s{w:Bo}(hw:Ark w):A0s K w=some w:=by
 have hm:=K1;have h2:=hw.q.2;unfold A0s;rw[A6m K hw.p,Z0,A71 hK hw.l,Z0,Ay8 K hw.log.2,Z0];refine Bbk hK w.fQ (by omega) (some w) (fun n v i=>Arr K n w.fQ (w.fQ.length:Int) i (Bo.mk w.fC w.fP w.fL v w.Jp) (Bo.mk (Fi.mk 0 0 0 0 0 0) (Ef.mk [] [] []) [] [] [])) (fun n v i h hv=> ?_) (fun n=> ?_)
 ·simp only[Arr];rw[Acn h,cond_true,if_pos (Akv h),V2 h,Bcb K (hw.q.1 _ (List.getElem_mem h)),Z0,if_pos ⟨by omega,by omega⟩,Acm (by omega),Bq3 hK]
 ·show Arr K (n+1) _ _ _ _ _=_;simp_all[Arr]
end
def Bq4 (mem:List Int)(p n:Int):List Int×Bool:=if 0<=p/\0<=n/\p+n<=(mem.length:Int)then((mem.drop p.toNat).take n.toNat,true)else([],false)
theorem But{mem:List Int}(a b:Nat):((mem.drop a).take b).length<=mem.length:=by grind
theorem Bg2 (K:Nat){mem:List Int}(hl:mem.length<=140737488355327)(p n:Int):Azy K mem p n=some (decide (0<=p/\0<=n/\p+n<=(mem.length:Int))):=by
 unfold Azy;by_cases h1:(0:Int)<=p
 ·rw[decide_eq_true (show p>=0 from h1)];by_cases h2:(0:Int)<=n
  ·rw[decide_eq_true (show n>=0 from h2)];by_cases h3:p<=(mem.length:Int)
   ·rw[decide_eq_true h3];simp only[cond_true,Z7,decide_eq_decide]
    grind [Ap,Asu,Ht]
   ·rw[decide_eq_false h3];simp only[cond_true,cond_false,Z7]
    grind
  grind
 grind
theorem Biy (K:Nat){mem:List Int}(hl:mem.length<=140737488355327)(p n:Int):A4z K mem p n=some (Bq4 mem p n):=by
 unfold A4z Bq4;rw[Bg2 K hl];simp only[Z0];by_cases h:0<=p/\0<=n/\p+n<=(mem.length:Int)
 ·rw[decide_eq_true h,if_pos h]
  try simp only[cond_true]
  have e:A1 p n=p+n:=by grind [A1,Lc,Ht]
  have hc:=But (mem:=mem) p.toNat (p+n - p).toNat;rw[e,if_pos ⟨by omega,by omega,by omega⟩,if_pos ⟨by grind,by grind [maxLen]⟩]
  grind
 grind
def Bq5 (mem:List Int)(t:Bn)(at_ n:Int):List Int×Bool:=if 0<=at_/\0<=n/\at_+n<=t.Yg then Bq4 mem (A1 t.fAt at_) n else([],false)
theorem Bq6{mem:List Int}{p n:Int}(h:p<0):Bq4 mem p n=([],false):=by unfold Bq4;grind
theorem Bcc (K:Nat){mem:List Int}(hl:mem.length<=140737488355327){t:Bn}(wt:ThingW t)(at_ n:Int):A0o K mem t at_ n=some (Bq5 mem t at_ n):=by
 obtain⟨wl1,wl2⟩:=wt.2.1;unfold A0o A23 Bq5;by_cases h1:(0:Int)<=at_
 ·rw[decide_eq_true (show at_>=0 from h1)];by_cases h2:(0:Int)<=n
  ·rw[decide_eq_true (show n>=0 from h2)];by_cases h3:at_<=t.Yg
   ·rw[decide_eq_true h3];have e:Ap t.Yg at_=t.Yg - at_:=by grind [Ap,Asu,Ht]
    rw[e];by_cases h4:n<=t.Yg - at_
    ·rw[decide_eq_true h4,if_pos ⟨h1,h2,by omega⟩];simp only[cond_true,Biy K hl];cases decide (t.fAt<0)with
     |true=>rfl
     |false=>
      by_cases h5:(0:Int)<=A1 t.fAt at_
      ·grind
      ·rw[decide_eq_false (show ¬A1 t.fAt at_>=0 from h5),Bq6 (by omega)];rfl
    grind
   grind
  grind
 grind
def Bg3 (w:Bo)(h:Ch):Int:=((Akg w.fL w.fL.length (Az8 w.fL h)).length:Int)
theorem Biz{l:List Az}(hl:l.length<=140737488355327)(h:Ch):wfi (Az8 l h):=by
 by_cases h0:Az8 l h<0
 ·unfold Az8 at *;split at h0
  ·omega
  ·rename_i h1;rw[if_neg h1];exact⟨by omega,by omega⟩
 ·have:=Bae h0;exact⟨by omega,by omega⟩
section
variable {K:Nat} (hK:281474976710656<=K)
include hK
theorem A3t (w:Bo)(hw:Aeh w.fL)(h:Ch):Asi K w h=some (Bg3 w h):=by
 have hl:=Afb hw;unfold Asi A07;rw[A9s K hl,Z0,A64 hK hw _ (Biz hl h)];rfl
end
section
variable {β:Type} [Inhabited β]
end
section
variable {K:Nat} (hK:281474976710656<=K)
include hK
end
section
variable {K:Nat} (hK:281474976710656<=K)
include hK
end
theorem Bko{β:Type}(f:β->Nat): ∀(l:List β) (i:Nat) (h:i<l.length) (x:β),((l.set i x).map f).sum+f l[i]=(l.map f).sum+f x
 |[],i,h,x=>by simp at h
 |y::l,0,h,x=>by grind
 |y::l,i+1,h,x=>by
  have:=Bko f l i (by grind) x
  grind
theorem A5t{l:List Az}(hl:Aeh l)(i:Nat){x:Az}(hx:At6 x):Aeh (l.set i x):=
 ⟨fun y hy=>(Z54 hy).elim (hl.1 y) (fun e=>e ▸ hx),by rw[Z49];exact hl.2⟩
def A5y (p:Ef)(k:Int):Ef:=if(0<=k/\k<(p.G4.length:Int)/\k<(p.Fq.length:Int))/\gt p.G4 k=1 then Ef.mk p.Fp (p.G4.set k.toNat 2) (p.Fq.set k.toNat (-1))else p
theorem Bbl{p:Ef}(hp:A01 p)(k:Int):A01 (A5y p k)/\Bca (A5y p k)=Bca p:=by
 unfold A5y;split
 ·refine⟨⟨hp.mem,⟨fun x hx=> ?_,by rw[Z49];exact hp.st.2⟩,⟨fun x hx=> ?_,by rw[Z49];exact hp.own.2⟩⟩,by simp[Bca]⟩
  ·rcases Z54 hx with h|h
   ·exact hp.st.1 x h
   ·subst h;exact⟨by omega,by omega⟩
  ·rcases Z54 hx with h|h
   ·exact hp.own.1 x h
   ·subst h;exact⟨by omega,by omega⟩
 grind
theorem Bcd (K:Nat){p:Ef}(hp:A01 p)(k:Int):A4u K p k=some (A5y p k):=by
 have h1:=hp.st.2;unfold A4u Axm A5y;rw[A4d K hp,Z0,A6q K (by omega),Z0]
 grind
theorem Bi0 (K:Nat){p:Ef}(hp:A01 p)(k:Int):A47 K p k=some (A5y p k):=by
 have h1:=hp.st.2;have h2:=hp.own.2;unfold A47 Az2 A5y;have e:Ap (Ada (p.G4.length:Int) (p.Fq.length:Int)) 1=Ada (p.G4.length:Int) (p.Fq.length:Int) - 1:=by
  grind [Ap,Asu,Ada,Ht]
 rw[A6m K hp,Z0,Au3,Z0,e];by_cases hs:0<=k/\k<(p.G4.length:Int)/\k<(p.Fq.length:Int)
 ·rw[Wy.2 (by grind [Ada]),cond_true,if_pos ⟨hs.1,hs.2.1⟩,if_pos ⟨hs.1,hs.2.1⟩,if_pos ⟨hs.1,hs.2.2⟩]
  grind
 ·rw[Bbf.2 (by grind [Ada]),if_neg (show ¬((0<=k/\k<(p.G4.length:Int)/\k<(p.Fq.length:Int))/\gt p.G4 k=1) from fun x=>hs x.1)];rfl
def Ah1 (p:Ef)(l:List Int):Ef:=l.foldl A5y p
theorem Bml{p:Ef}(hp:A01 p)(l:List Int):A01 (Ah1 p l)/\Bca (Ah1 p l)=Bca p:=by
 unfold Ah1;induction l generalizing p with
 |nil=>grind
 |cons x l ih=>
  obtain⟨h1,h2⟩:=Bbl hp x;obtain⟨h3,h4⟩:=ih h1;exact⟨h3,h4.trans h2⟩
theorem Be6{α σ β:Type}{K:Nat}(hK:281474976710656<=K)(l:List α)(hl:l.length<=140737488355327)(f:σ->α->σ)(s0:σ)(I:σ->Prop)(hI:I s0)(hf: ∀s x,I s->I (f s x))(fin:Option β)(L:Nat->σ->Int->Option β)
  (hs: ∀n s (i:Nat) (h:i<l.length),I s->L (n+1) s (i:Int)=L n (f s l[i]) ((i+1:Nat):Int))
  (he: ∀n,L (n+1) (l.foldl f s0) (l.length:Int)=fin):L K s0 0=fin:=by
 have key: ∀(n i:Nat) (s:σ),I s->i<=l.length->l.length - i<n->(l.drop i).foldl f s=l.foldl f s0->L n s (i:Int)=fin:=by
  intro n;induction n with
  |zero=>omega
  |succ n ih=>
   grind [List.drop_eq_getElem_cons]
 exact key K 0 s0 hI (Z21 _) (by omega) rfl
def Air (n:Az)(slot:Int):Bb:=Bb.mk slot n.Bz n.Dh n.Ad 0
def A0b (n:Az):Az:=Az.mk n.G4 n.C7 (A1 n.Nb 1) n.fUp n.G5 0 n.G6 n.G7 [] 0 0 [] []
theorem A67 (K:Nat){n:Az}(hn:At6 n)(s:Int):Axn K n s=some (Air n s):=by
 have hm:=K1;have h1:=hn.tags.2;have h2:=hn.chunks.2;unfold Axn;simp only[Z38];rw[if_pos ⟨by omega,by omega⟩,if_pos ⟨by omega,by omega⟩];rfl
theorem Be7 (K:Nat){n:Az}(hn:At6 n)(s:Int):A3f K n s=some (Air n s):=by
 unfold A3f;rw[Ay8 K hn.tags.2,Ay8 K hn.chunks.2];rfl
theorem Be8 (K:Nat){n:Az}(hn:At6 n):A2y K n=some (A0b n):=by
 unfold A2y;rw[Aw1 K hn];rfl
theorem Ayc:wfi 0:=⟨by decide,by decide⟩
theorem A0z:A4c []:=⟨(fun x hx=>by cases hx),(by simp)⟩
theorem A58:Bev []:=⟨(fun x hx=>by cases hx),(by simp)⟩
theorem Bce{n:Az}(hn:At6 n){s:Int}(hs:wfi s):A03 (Air n s):=⟨hs,hn.first,hn.tags,hn.chunks,Ayc⟩
def A4p (w:Bo)(k:Int):Bo:=Bo.mk w.fC (Ah1 w.fP (gt w.fL k).Ad) (w.fL.set k.toNat (A0b (gt w.fL k))) (w.fQ++[Air (gt w.fL k) 0]) w.Jp
section
variable {K:Nat} (hK:281474976710656<=K)
include hK
theorem Baz (w:Bo)(hw:Ark w)(l:List Int)(hl:l.length<=140737488355327):Avq K w l=some (Bo.mk w.fC (Ah1 w.fP l) w.fL w.fQ w.Jp):=by
 unfold Avq;refine Be6 hK l (by omega) A5y w.fP A01 hw.p (fun s x h=>(Bbl h x).1) _ (fun n s i=>Ak4 K l n i w.fC.Ad w.fC.Du w.fC.Cd w.fC.Ez w.fC.Ce w.fC.Dv s.Fp s.G4 s.Fq w.fL w.fQ w.Jp) (fun n s i h hs=> ?_) (fun n=> ?_)
 ·simp only[Ak4];rw[Acn h,cond_true,if_pos (Akv h),V2 h,show Ef.mk s.Fp s.G4 s.Fq=s from rfl,Bcd K hs,Z0,Acm (by omega)]
 ·show Ak4 K l (n+1) _ _ _ _ _ _ _ _ _ _ _ _ _=_;rw[Ak4,Avr (Z9 _),cond_false];rfl
theorem Bg4 (w:Bo)(hw:A01 w.fP){k:Int}(hk:0<=k/\k<(w.fL.length:Int))(hl:(gt w.fL k).Ad.length<=140737488355327):Ayi K w k=some (Bo.mk w.fC (Ah1 w.fP (gt w.fL k).Ad) w.fL w.fQ w.Jp):=by
 unfold Ayi;simp only[if_pos hk];refine Be6 hK (gt w.fL k).Ad (by omega) A5y w.fP A01 hw (fun s x h=>(Bbl h x).1) _ (fun n s i=>Aoz K n (gt w.fL k).Ad ((gt w.fL k).Ad.length:Int) i w.fC.Ad w.fC.Du w.fC.Cd w.fC.Ez w.fC.Ce w.fC.Dv s.Fp s.G4 s.Fq w.fL w.fQ w.Jp) (fun n s i h hs=> ?_) (fun n=> ?_)
 ·simp only[Aoz];rw[Acn h,cond_true,if_pos (Akv h),V2 h,show Ef.mk s.Fp s.G4 s.Fq=s from rfl,Bi0 K hs,Z0,Acm (by omega)]
 ·show Aoz K (n+1) _ _ _ _ _ _ _ _ _ _ _ _ _ _ _=_;rw[Aoz,Avr (Z9 _),cond_false];rfl
theorem Be9 (w:Bo)(hw:Ark w)(hQ:w.fQ.length<=140737488355){k:Int}(hk:0<=k/\k<(w.fL.length:Int)):Azc K w k=some (A4p w k):=by
 have hm:=K1;have hn:=hw.l.1 _ (Akk hk.1 hk.2);unfold Azc;simp only[if_pos hk,A67 K hn,Z0,Baz hK w hw _ (A3n hK hn.chunks),Be8 K hn];rw[if_pos ⟨by grind,by grind⟩];rfl
end
def Bw4 (n:Az)(v:Int):Az:=Az.mk n.G4 n.C7 n.Nb n.fUp n.G5 n.Bz v n.G7 n.Ad n.No n.G8 n.D5 n.Dh
def Bkp (n:Az)(v:Int):Az:=Az.mk n.G4 n.C7 n.Nb n.fUp n.G5 n.Bz n.G6 v n.Ad n.No n.G8 n.D5 n.Dh
def Bq7 (n:Az)(v:Int):Az:=Az.mk n.G4 n.C7 n.Nb n.fUp n.G5 v n.G6 n.G7 n.Ad n.No n.G8 n.D5 n.Dh
def Buu (n:Az):Az:=Az.mk n.G4 n.C7 n.Nb 0 0 n.Bz 0 0 n.Ad n.No n.G8 n.D5 n.Dh
theorem A5d{l:List Az}{k:Int}(hk:0<=k/\k<(l.length:Int))(x:Az):gt (l.set k.toNat x) k=x:=by
 have hlt:k.toNat<(l.set k.toNat x).length:=by grind
 simp_all[gt]
theorem A59{l:List Az}{j k:Int}(hj:0<=j)(hk:0<=k/\k<(l.length:Int))(h:j≠k)(x:Az):gt (l.set j.toNat x) k=gt l k:=by
 have h1:k.toNat<(l.set j.toNat x).length:=by grind
 have h2:k.toNat<l.length:=by omega
 have e1:gt (l.set j.toNat x) ((k.toNat:Nat):Int)=gt l ((k.toNat:Nat):Int):=by
  rw[V2 h1,V2 h2,List.getElem_set,if_neg (by omega)]
 grind
theorem A9x (K:Nat){l:List Az}{k:Int}(hk:0<=k/\k<(l.length:Int)):Ayq K k l=some (l.set k.toNat (Buu (gt l k))):=by
 unfold Ayq;rw[if_pos hk];simp only[Au7,Z49,A5d hk,B6l,if_pos hk];rfl
def Bah (l0 l:List Az)(k nx pv:Int):List Az:=bif plB l0 nx then l.set (Ap nx 1).toNat (Bkp (gt l (Ap nx 1)) pv)else l
def A9a (l0 l:List Az)(k nx pv:Int):List Az:=(Bah l0 l k nx pv).set k.toNat (Buu (gt (Bah l0 l k nx pv) k))
theorem A72 (l0 l:List Az)(k nx pv:Int):(Bah l0 l k nx pv).length=l.length:=by
 grind [Bah]
theorem A3l (K:Nat){l0 l:List Az}(hl:l0.length<=140737488355327)(he:l.length=l0.length){k:Int}(hk:0<=k/\k<(l0.length:Int))(a b c d e f nx pv:Int)(g:List Int)(h i:Int)(t:List Bn)(u:List Int)(hx:wfi nx):Awk K l0 k l a b c d e f nx pv g h i t u=some (A9a l0 l k nx pv):=by
 unfold Awk A9a Bah;rw[Az9 K hl hx,Z0];cases hp:plB l0 nx with
 |false=>simp_all[A9x]
 |true=>
  have:=A4n hp;rw[cond_true,cond_true,if_pos (by omega)];simp only[Au7];rw[A9x K (by grind)];rfl
def A9y (l:List Az)(k:Int):List Az:=
 bif plB l (gt l k).G7 then l.set (Ap (gt l k).G7 1).toNat (Bw4 (gt l (Ap (gt l k).G7 1)) (gt l k).G6)
 else bif (gt l k).G7==0&&(plB l (gt l k).fUp&&(gt l (Ap (gt l k).fUp 1)).Bz==A1 k 1)then l.set (Ap (gt l k).fUp 1).toNat (Bq7 (gt l (Ap (gt l k).fUp 1)) (gt l k).G6)
 else l
def Auq (l:List Az)(k:Int):List Az:=A9a l (A9y l k) k (gt l k).G6 (gt l k).G7
theorem A6v (l:List Az)(k:Int):(A9y l k).length=l.length:=by
 unfold A9y;grind
section
variable {K:Nat} (hK:281474976710656<=K)
include hK
theorem Bg5{l:List Az}(w:Aeh l){k:Int}(hk:0<=k/\k<(l.length:Int)):A3x K l k=some (Auq l k):=by
 have hl:=Afb w;have hn:=w.1 _ (Akk hk.1 hk.2);have e1:Ap (A1 k 1) 1=k:=by grind [Ap,Asu,A1,Lc,Ht]
 have hpk:plB l (A1 k 1)=true:=by grind [plB]
 have hwk:wfi (A1 k 1):=Bqx _;unfold A3x Auq;rw[A66 hK w,Z0,Az9 K hl hwk,Z0,hpk,Bool.not_true,cond_false,if_pos hk,Az9 K hl hn.prev,Z0];unfold A9y;cases hp:plB l (gt l k).G7 with
 |true=>
  have:=A4n hp;rw[cond_true,cond_true,if_pos this];simp only[Au7];rw[A3l K hl (by grind) hk _ _ _ _ _ _ _ _ _ _ _ _ _ hn.next];rfl
 |false=>
  rw[cond_false,cond_false];cases h0:(gt l k).G7==0 with
  |false=>
   simp_all[Au9,A3l,At6.next]
  |true=>
   rw[cond_true,Az9 K hl hn.up,Z0];cases hu:plB l (gt l k).fUp with
   |false=>
    simp_all[Au9,A3l,At6.next]
   |true=>
    have hui:=A4n hu;rw[cond_true,if_pos hui];simp only[Z30,Au9];cases (gt l (Ap (gt l k).fUp 1)).Bz==A1 k 1 with
    |false=>
     simp_all[A3l,At6.next]
    |true=>
     simp only[cond_true,if_pos hui,Au7];rw[A3l K hl (by grind) hk _ _ _ _ _ _ _ _ _ _ _ _ _ hn.next];rfl
end
def B34 (n:Az):Az:=Az.mk 2 n.C7 0 0 0 0 0 0 [] 0 0 [] []
theorem Buv{n:Az}(hn:At6 n){v:Int}(hv:wfi v):At6 (Bw4 n v):=⟨hn.st,hn.gen,hn.ep,hn.up,hn.upEp,hn.first,hv,hn.prev,hn.chunks,hn.cur,hn.bump,hn.things,hn.tags⟩
theorem Bkq{n:Az}(hn:At6 n){v:Int}(hv:wfi v):At6 (Bkp n v):=⟨hn.st,hn.gen,hn.ep,hn.up,hn.upEp,hn.first,hn.next,hv,hn.chunks,hn.cur,hn.bump,hn.things,hn.tags⟩
theorem Bq8{n:Az}(hn:At6 n){v:Int}(hv:wfi v):At6 (Bq7 n v):=⟨hn.st,hn.gen,hn.ep,hn.up,hn.upEp,hv,hn.next,hn.prev,hn.chunks,hn.cur,hn.bump,hn.things,hn.tags⟩
theorem B0l{n:Az}(hn:At6 n):At6 (Buu n):=by
 have z:wfi 0:=⟨by decide,by decide⟩;exact⟨hn.st,hn.gen,hn.ep,z,z,hn.first,z,z,hn.chunks,hn.cur,hn.bump,hn.things,hn.tags⟩
theorem A8m{l:List Az}{k:Int}(hk:0<=k/\k<(l.length:Int)){x:Az}(h:A5r x=A5r (gt l k)):((l.set k.toNat x).map A5r).sum=(l.map A5r).sum:=by
 have hlt:k.toNat<l.length:=by omega
 have:=Bko A5r l k.toNat hlt x;have e:l[k.toNat]=gt l k:=by rw[<-V2 hlt,show((k.toNat:Nat):Int)=k by omega]
 grind
theorem B0m{l:List Az}(w:Aeh l){k:Int}(hk:0<=k/\k<(l.length:Int)):Aeh (A9y l k)/\((A9y l k).map A5r).sum=(l.map A5r).sum:=by
 have hn:=w.1 _ (Akk hk.1 hk.2);unfold A9y;cases hp:plB l (gt l k).G7 with
 |true=>
  have hi:=A4n hp;exact⟨A5t w _ (Buv (w.1 _ (Akk hi.1 hi.2)) hn.next),A8m hi rfl⟩
 |false=>
  rw[cond_false];cases hc:((gt l k).G7==0&&(plB l (gt l k).fUp&&(gt l (Ap (gt l k).fUp 1)).Bz==A1 k 1))with
  |false=>grind
  |true=>
   simp only[Z4]at hc;have hi:=A4n hc.2.1;exact⟨A5t w _ (Bq8 (w.1 _ (Akk hi.1 hi.2)) hn.next),A8m hi rfl⟩
theorem B0n{l0 l:List Az}(w:Aeh l)(he:l.length=l0.length)(k nx:Int){pv:Int}(hv:wfi pv):Aeh (Bah l0 l k nx pv)/\((Bah l0 l k nx pv).map A5r).sum=(l.map A5r).sum:=by
 unfold Bah;cases hp:plB l0 nx with
 |true=>
  have hi:=A4n hp;rw[<-he]at hi;exact⟨A5t w _ (Bkq (w.1 _ (Akk hi.1 hi.2)) hv),A8m hi rfl⟩
 |false=>grind
theorem Bmm{l:List Az}(w:Aeh l){k:Int}(hk:0<=k/\k<(l.length:Int)):Aeh (Auq l k)/\((Auq l k).map A5r).sum=(l.map A5r).sum/\(Auq l k).length=l.length:=by
 have hn:=w.1 _ (Akk hk.1 hk.2);obtain⟨h1,h2⟩:=B0m w hk;have h3:=A6v l k;obtain⟨h4,h5⟩:=B0n h1 h3 k (gt l k).G6 hn.prev;have h6:=A72 l (A9y l k) k (gt l k).G6 (gt l k).G7;have hk':0<=k/\k<((Bah l (A9y l k) k (gt l k).G6 (gt l k).G7).length:Int):=by omega
 unfold Auq A9a;exact⟨A5t h4 _ (B0l (h4.1 _ (Akk hk'.1 hk'.2))),(A8m (x:=Buu (gt (Bah l (A9y l k) k (gt l k).G6 (gt l k).G7) k)) hk' rfl).trans (h5.trans h2),by grind⟩
def A3m (w:Bo)(k:Int):Bo:=Bo.mk w.fC (Ah1 w.fP (gt w.fL k).Ad) ((Auq w.fL k).set k.toNat (B34 (gt (Auq w.fL k) k))) (w.fQ++[Air (gt w.fL k) (A1 k 1)]) w.Jp
section
variable {K:Nat} (hK:281474976710656<=K)
include hK
theorem Bi1 (w:Bo)(hw:Ark w)(hQ:w.fQ.length<=140737488355){k:Int}(hk:0<=k/\k<(w.fL.length:Int)):A1u K w k=some (A3m w k):=by
 have hm:=K1;have hn:=hw.l.1 _ (Akk hk.1 hk.2);have hk':0<=k/\k<((Auq w.fL k).length:Int):=by simp_all[Bmm,Ark.l]
 unfold A1u A2k;simp only[if_pos hk,A67 K hn,Z0,Baz hK w hw _ (A3n hK hn.chunks),Bg5 hK hw.l hk,if_pos hk'];rw[if_pos ⟨by grind,by grind⟩];rfl
end
def B6m (c:Fi)(x:Bb)(v:Int)(i:Nat):Int:=A1 v (bif ((i:Int)==0)then Ayd (Ap c.Du x.H2) c.Ce else Ayd c.Du c.Ce)
def B0o (c:Fi)(x:Bb):Int:=
 (List.range x.Ad.length).foldl (B6m c x) (A1 (x.Dh.length:Int) 1)
section
variable {K:Nat} (hK:281474976710656<=K)
include hK
end
def B0p (w:Bo)(k:Int):Int:=B0o w.fC (Air (gt w.fL k) 0)
section
variable {K:Nat} (hK:562949953421312<=K)
include hK
end
structure Lk where
 lv:Bool
 gn:Bool
 ep:Int
 up:Int
 ue:Int
 fi:Int
 nx:Int
 pv:Int
section
variable (N:Int) (t:Int->Lk)
def Lv (k:Int):Prop:=(0<=k/\k<N)/\(t k).lv=true
def Cu (k:Int):Prop:=Lv N t ((t k).up - 1)/\(t ((t k).up - 1)).ep=(t k).ue
def Oo (k:Int):Prop:=Lv N t k/\(t k).up≠0/\ ¬Cu N t k
structure A8y (k:Int):Prop where
 first:(t k).fi≠0->Lv N t ((t k).fi - 1)/\(t ((t k).fi - 1)).pv=0/\(t ((t k).fi - 1)).up=k+1/\(t ((t k).fi - 1)).ue=(t k).ep
 next:(t k).nx≠0->Lv N t ((t k).nx - 1)/\(t ((t k).nx - 1)).pv=k+1/\(t ((t k).nx - 1)).up=(t k).up/\(t ((t k).nx - 1)).ue=(t k).ue
 prev:(t k).pv≠0->Lv N t ((t k).pv - 1)/\(t ((t k).pv - 1)).nx=k+1
 up:(t k).up≠0->0<=(t k).up - 1/\(t k).up - 1<N
 top:(t k).pv=0->Cu N t k->(t ((t k).up - 1)).fi=k+1
def kids:Nat->Int->List Int
 |0,_=>[]
 |n+1,k=>if 0<=k/\k<N then k::kids n ((t k).nx - 1)else []
def rise:Nat->Int->List Int
 |0,_=>[]
 |n+1,k=>if 0<=k/\k<N then k::rise n ((t k).up - 1)else []
structure Ay3:Prop where
 link: ∀k,Lv N t k->A8y N t k
 rise: ∀k,Lv N t k->(rise N t N.toNat k).length<=4/\ ∀x,(rise N t N.toNat k).getLast? =some x-> ¬Cu N t x
 bare: ∀k,0<=k->k<N->(t k).lv=false->(t k).up=0/\(t k).fi=0/\(t k).nx=0/\(t k).pv=0
def Wf (r:Int->Nat):Prop:= ∀x,Lv N t x->(t x).pv≠0->r ((t x).pv - 1)<r x
end
section
variable {N:Int} {t:Int->Lk}
theorem Bmn (n:Nat)(k:Int):kids N t (n+1) k=if 0<=k/\k<N then k::kids N t n ((t k).nx - 1)else []:=rfl
theorem Bmo (n:Nat)(k:Int):rise N t (n+1) k=if 0<=k/\k<N then k::rise N t n ((t k).up - 1)else []:=rfl
theorem Oo.lv{k:Int}(h:Oo N t k):Lv N t k:=h.1
theorem Bfa: ∀(n:Nat) (k x:Int),x∈kids N t n k->0<=x/\x<N:=by
 intro n;induction n with
 |zero=>intro k x h;cases h
 |succ n ih=>
  intro k x h;unfold kids at h;split at h
  ·rename_i h1;rcases Ft.1 h with rfl|h
   ·exact h1
   ·exact ih _ x h
  ·cases h
theorem A2m (n:Nat):kids N t n (0 - 1)=[]:=by
 cases n with
 |zero=>rfl
 |succ n=>rfl
theorem Bmp: ∀(n:Nat) (k:Int),kids N t n k=(kids N t (n+1) k).take n:=by
 intro n;induction n with
 |zero=>grind [kids]
 |succ n ih=>
  grind [Bmn]
theorem Bq9 (T:Ay3 N t){u e:Int}: ∀(n:Nat) (k:Int),Lv N t k->(t k).up=u->(t k).ue=e-> ∀x∈kids N t n k,Lv N t x/\(t x).up=u/\(t x).ue=e:=by
 intro n;induction n with
 |zero=>intro k _ _ _ x h;cases h
 |succ n ih=>
  intro k h1 h2 h3 x h;unfold kids at h;split at h
  ·rcases Ft.1 h with rfl|h
   ·grind
   ·by_cases h4:(t k).nx=0
    ·grind [A2m]
    ·obtain⟨a,_,b,c⟩:=(T.link k h1).next h4
     grind
  ·cases h
theorem Bd2 (T:Ay3 N t){r:Int->Nat}(W:Wf N t r): ∀(n:Nat) (k:Int),Lv N t k->(∀x∈kids N t n k,r k<=r x)/\(kids N t n k).Pairwise (fun a b=>r a<r b):=by
 intro n;induction n with
 |zero=>intro k _;exact⟨fun x h=>(by cases h),.nil⟩
 |succ n ih=>
  intro k h1;unfold kids;split
  ·by_cases h4:(t k).nx=0
   ·rw[h4,A2m]
    grind
   ·obtain⟨a,b,_⟩:=(T.link k h1).next h4;obtain⟨i1,i2⟩:=ih _ a;have hr:=W _ a (by omega);rw[b,Int.add_sub_cancel]at hr;refine⟨fun x h=> ?_,List.pairwise_cons.2 ⟨fun x h=> ?_,i2⟩⟩
    all_goals grind
  simp_all
theorem A9b (T:Ay3 N t){r:Int->Nat}(W:Wf N t r)(n:Nat){k:Int}(h:Lv N t k):(kids N t n k).Nodup:=
 (Bd2 T W n k h).2.imp fun h e=>by grind
theorem Bbm{l:List Int}(hn:l.Nodup)(h: ∀x∈l,0<=x/\x<N):l.length<=N.toNat:=by
 have:=A0a (l:=(List.range N.toNat).map (fun i:Nat=>(i:Int))) hn (fun x hx=>by
  have:=h x hx;rw[Gh];exact⟨x.toNat,by grind,by omega⟩)
 grind
theorem Bmq: ∀(n:Nat) (k y x:Int),y∈kids N t n k->(t y).nx=x+1->0<=x/\x<N->x∈kids N t n k\/(kids N t n k).length=n:=by
 intro n;induction n with
 |zero=>intro k y x h;cases h
 |succ n ih=>
  intro k y x h h1 h2;unfold kids at h ⊢;split at h
  ·rename_i h3;rw[if_pos h3];rcases Ft.1 h with rfl|h
   ·rw[h1,Int.add_sub_cancel];cases n with
    |zero=>grind [kids]
    |succ n=>simp_all[kids.eq_2]
   grind
  ·cases h
theorem Bra (T:Ay3 N t){r:Int->Nat}(W:Wf N t r){k:Int}(hk:Lv N t k)(x:Int):
  x∈kids N t N.toNat ((t k).fi - 1) ↔ Lv N t x/\(t x).up=k+1/\(t x).ue=(t k).ep:=by
 constructor
 ·intro h;by_cases h0:(t k).fi=0
  ·grind [A2m]
  ·obtain⟨a,_,b,c⟩:=(T.link k hk).first h0;exact Bq9 T _ _ a b c x h
 ·generalize hn:r x=n;induction n using Nat.strongRecOn generalizing x with
  |_ n ih=>
   intro⟨h1,h2,h3⟩;have hc:Cu N t x:=by simp_all[Cu]
   by_cases hp:(t x).pv=0
   ·have:=(T.link x h1).top hp hc;rw[h2,Int.add_sub_cancel]at this;obtain⟨m,hm⟩: ∃m,N.toNat=m+1:=⟨N.toNat - 1,by have:=h1.1;omega⟩;rw[this,Int.add_sub_cancel,hm,kids,if_pos h1.1];simp
   ·obtain⟨a,b⟩:=(T.link x h1).prev hp;have hr:=W x h1 hp;obtain⟨_,_,c,d⟩:=(T.link _ a).next (by rw[b];have:=h1.1;omega);rw[b,Int.add_sub_cancel]at c d;have hy:=ih _ (by omega) _ rfl ⟨a,c ▸ h2,d ▸ h3⟩;rcases Bmq _ _ _ x hy b h1.1 with h|h
    ·exact h
    ·refine Classical.byContradiction fun hx=> ?_
     have h0:(t k).fi≠0:=fun e=>by grind [A2m]
     have hd:=A9b T W N.toNat ((T.link k hk).first h0).1;have:=Bbm (N:=N) (l:=x::kids N t N.toNat ((t k).fi - 1)) (List.nodup_cons.2 ⟨hx,hd⟩) (fun y hy=>by
      rcases Ft.1 hy with rfl|hy
      ·exact h1.1
      ·exact Bfa _ _ y hy)
     grind
theorem A73 (T:Ay3 N t){r:Int->Nat}(W:Wf N t r)(n:Nat){k:Int}(hk:Lv N t k):(kids N t n ((t k).fi - 1)).Nodup:=by
 by_cases h0:(t k).fi=0
 ·grind [A2m]
 ·exact A9b T W n ((T.link k hk).first h0).1
theorem A68{t':Int->Lk}: ∀(n:Nat) (k:Int),(∀x∈kids N t n k,(t' x).nx=(t x).nx)->kids N t' n k=kids N t n k:=by
 intro n;induction n with
 |zero=>intro k _;rfl
 |succ n ih=>
  simp_all[kids.eq_2]
theorem A6a{t':Int->Lk}: ∀(n:Nat) (k:Int),(∀x∈rise N t n k,(t' x).up=(t x).up)->rise N t' n k=rise N t n k:=by
 intro n;induction n with
 |zero=>intro k _;rfl
 |succ n ih=>
  simp_all[rise]
theorem Bmr: ∀(n:Nat) (k:Int),rise N t n k=(rise N t (n+1) k).take n:=by
 intro n;induction n with
 |zero=>grind [rise]
 |succ n ih=>
  grind [Bmo]
theorem A4e: ∀(n:Nat) (k x:Int),x∈rise N t n k->0<=x/\x<N:=by
 intro n;induction n with
 |zero=>intro k x h;cases h
 |succ n ih=>
  intro k x h;unfold rise at h;split at h
  ·rename_i h1;rcases Ft.1 h with rfl|h
   ·exact h1
   ·exact ih _ x h
  ·cases h
theorem Brb{t':Int->Lk}{g:Int}(h: ∀x,x≠g->(t' x).up=(t x).up)(hg:(t' g).up=0): ∀(n:Nat) (k:Int),
  (rise N t' n k=[] ↔ rise N t n k=[])/\(rise N t' n k).length<=(rise N t n k).length/\((rise N t' n k).getLast? =some g\/(rise N t' n k).getLast? =(rise N t n k).getLast?):=by
 intro n;induction n with
 |zero=>intro k;exact⟨Iff.rfl,Z9 _,.inr rfl⟩
 |succ n ih=>
  intro k;rw[rise,rise];by_cases h1:0<=k/\k<N
  ·rw[if_pos h1,if_pos h1];by_cases e:k=g
   ·subst e;have:rise N t' n (0 - 1)=[]:=by cases n with|zero=>rfl|succ n=>rfl
    grind
   ·rw[h k e];obtain⟨i1,i2,i3⟩:=ih ((t k).up - 1);refine⟨by simp,by grind,?_⟩;cases ha:rise N t' n ((t k).up - 1)with
    |nil=>grind
    |cons a l=>
     cases hb:rise N t n ((t k).up - 1)with
     |nil=>grind
     |cons b m=>
      simp_all
  simp_all[if_neg]
theorem A8n (T:Ay3 N t){k:Int}(hk:Lv N t k)(hc:Cu N t k):(t k).up≠k+1:=by
 intro e;obtain⟨_,h⟩:=T.rise k hk;have: ∀n,rise N t (n+1) k=List.replicate (n+1) k:=by
  intro n;induction n with
  |zero=>rw[rise,if_pos hk.1];rfl
  |succ n ih=>rw[rise,if_pos hk.1,e,Int.add_sub_cancel,ih];rfl
 obtain⟨m,hm⟩: ∃m,N.toNat=m+1:=⟨N.toNat - 1,by have:=hk.1;omega⟩;refine h k ?_ hc;rw[hm,this,List.getLast?_replicate,if_neg (by omega)]
def rem (t:Int->Lk)(g:Int)(x:Int):Lk:=
 if x=g then⟨false,true,0,0,0,0,0,0⟩else
  ⟨(t x).lv,(t x).gn,(t x).ep,(t x).up,(t x).ue,if(t g).pv=0/\x+1=(t g).up/\(t x).fi=g+1 then(t g).nx else(t x).fi,if x+1=(t g).pv then(t g).nx else(t x).nx,if x+1=(t g).nx then(t g).pv else(t x).pv⟩
theorem A9z{g:Int}:rem t g g=⟨false,true,0,0,0,0,0,0⟩:=if_pos rfl
theorem Amn{g x:Int}(h:x≠g):rem t g x=⟨(t x).lv,(t x).gn,(t x).ep,(t x).up,(t x).ue,if(t g).pv=0/\x+1=(t g).up/\(t x).fi=g+1 then(t g).nx else(t x).fi,if x+1=(t g).pv then(t g).nx else(t x).nx,if x+1=(t g).nx then(t g).pv else(t x).pv⟩:=if_neg h
theorem Ar2{g x:Int}:Lv N (rem t g) x ↔ x≠g/\Lv N t x:=by
 unfold Lv;by_cases h:x=g
 all_goals grind [A9z,Amn]
theorem A4q{g x:Int}(hx:x≠g):Cu N (rem t g) x ↔ (t x).up≠g+1/\Cu N t x:=by
 unfold Cu;rw[Ar2,Amn hx];by_cases h:(t x).up - 1=g
 ·grind
 ·rw[Amn h]
  grind
theorem Brc{g x:Int}(hg:0<=g):Oo N (rem t g) x ↔ x≠g/\(Oo N t x\/Lv N t x/\(t x).up=g+1):=by
 unfold Oo;rw[Ar2];by_cases h:x=g
 ·simp[h]
 ·rw[A4q h,Amn h]
  grind
theorem Brd (T:Ay3 N t){g x:Int}(hg:Lv N t g)(hx:Lv N (rem t g) x):A8y N (rem t g) x:=by
 obtain⟨hne,hl⟩:=Ar2.1 hx;have G:=T.link g hg;have X:=T.link x hl;have g0:=hg.1;have x0:=hl.1;refine⟨?_,?_,?_,?_,?_⟩
 ·rw[Amn hne];intro h;simp only at h ⊢;by_cases hA:(t g).pv=0/\x+1=(t g).up/\(t x).fi=g+1
  ·rw[if_pos hA]at h ⊢;obtain⟨a,b,c,d⟩:=G.next h;have hm:(t g).nx - 1≠g:=fun e=>by grind
   obtain⟨_,_,_,f4⟩:=X.first (by omega);simp_all[Amn,Ar2]
  ·rw[if_neg hA]at h ⊢;obtain⟨a,b,c,d⟩:=X.first h;have hm:(t x).fi - 1≠g:=fun e=>by grind
   rw[Amn hm];refine⟨Ar2.2 ⟨hm,a⟩,?_,c,d⟩;simp only;rw[if_neg]
   ·exact b
   ·intro e;have:=(G.next (by omega)).2.1
    grind
 ·rw[Amn hne];intro h;simp only at h ⊢;by_cases hA:x+1=(t g).pv
  ·rw[if_pos hA]at h ⊢;obtain⟨a,b,c,d⟩:=G.next h;have hm:(t g).nx - 1≠g:=fun e=>by grind
   obtain⟨_,p2⟩:=G.prev (by omega);rw[<-hA,Int.add_sub_cancel]at p2;obtain⟨_,_,q3,q4⟩:=X.next (by omega);simp_all[Amn,Ar2]
  ·rw[if_neg hA]at h ⊢;obtain⟨a,b,c,d⟩:=X.next h;have hm:(t x).nx - 1≠g:=fun e=>by grind
   rw[Amn hm];refine⟨Ar2.2 ⟨hm,a⟩,?_,c,d⟩;simp only;rw[if_neg]
   ·exact b
   ·intro e;have:=(G.next (by omega)).2.1
    grind
 ·rw[Amn hne];intro h;simp only at h ⊢;by_cases hA:x+1=(t g).nx
  ·rw[if_pos hA]at h ⊢;obtain⟨a,b⟩:=G.prev h;have hm:(t g).pv - 1≠g:=fun e=>by grind
   simp_all[Amn,Ar2]
  ·rw[if_neg hA]at h ⊢;obtain⟨a,b⟩:=X.prev h;have hm:(t x).pv - 1≠g:=fun e=>by grind
   rw[Amn hm];refine⟨Ar2.2 ⟨hm,a⟩,?_⟩;simp only;rw[if_neg]
   ·exact b
   ·intro e;have:=(G.prev (by omega)).2
    grind
 ·rw[Amn hne];exact X.up
 ·intro h hc;obtain⟨c1,c2⟩:=(A4q hne).1 hc;rw[Amn hne]at h ⊢;simp only at h ⊢;have hm:(t x).up - 1≠g:=by omega
  rw[Amn hm];simp only;by_cases hA:x+1=(t g).nx
  ·rw[if_pos hA]at h;obtain⟨_,_,q3,q4⟩:=G.next (by omega);rw[<-hA,Int.add_sub_cancel]at q3 q4;have hcg:Cu N t g:=by grind [Cu]
   have:=G.top h hcg
   grind
  ·rw[if_neg hA]at h;have:=X.top h c2;omega
theorem Bcf (T:Ay3 N t){g:Int}(hg:Lv N t g):Ay3 N (rem t g):=by
 refine⟨fun k hk=>Brd T hg hk,fun k hk=> ?_,fun k h0 h1 h=> ?_⟩
 ·obtain⟨hne,hl⟩:=Ar2.1 hk;obtain⟨r1,r2⟩:=T.rise k hl;obtain⟨_,c1,c2⟩:=Brb (t:=t) (t':=rem t g) (N:=N) (g:=g) (fun x hx=>by rw[Amn hx]) (by rw[A9z]) N.toNat k;refine⟨by omega,fun x hx hc=> ?_⟩;by_cases e:x=g
  ·subst e;unfold Cu at hc;rw[A9z]at hc;have:=hc.1.1.1
   grind
  ·rcases c2 with c2|c2
   ·grind
   simp_all[A4q]
 ·by_cases e:k=g
  ·simp_all[A9z]
  ·rw[Amn e]at h ⊢;simp only at h ⊢;obtain⟨a,b,c,d⟩:=T.bare k h0 h1 h;have G:=T.link g hg;refine⟨a,?_,?_,?_⟩
   ·rw[if_neg (fun q=>by have:=hg.1;omega)];exact b
   ·rw[if_neg]
    ·exact c
    ·intro q;have:=(G.prev (by omega)).1.2
     grind
   ·rw[if_neg]
    ·exact d
    ·intro q;have:=(G.next (by omega)).1.2
     grind
theorem B0q (T:Ay3 N t){r:Int->Nat}(W:Wf N t r){g:Int}(hg:Lv N t g):Wf N (rem t g) r:=by
 intro x hx h;obtain⟨hne,hl⟩:=Ar2.1 hx;rw[Amn hne]at h ⊢;simp only at h ⊢;by_cases hA:x+1=(t g).nx
 ·rw[if_pos hA]at h ⊢;have h1:=W g hg h;have h2:=((T.link g hg).next (by have:=hl.1;omega)).2.1;rw[<-hA,Int.add_sub_cancel]at h2;have h3:=W x hl (by have:=hg.1;omega)
  grind
 ·rw[if_neg hA]at h ⊢;exact W x hl h
end
section
variable (N:Int) (t:Int->Lk)
def kf (f:Int):List Int:=kids N t N.toNat (f - 1)
structure Bfb (fs:List Int):Prop where
 nodup:(fs.flatMap (kf N t)).Nodup
 iff: ∀x,x∈fs.flatMap (kf N t) ↔ Oo N t x
 top: ∀f∈fs,f≠0->(0<=f - 1/\f - 1<N)/\(t (f - 1)).pv=0
inductive Dd (S:List Int):Int->Prop
 |base {y:Int}:y∈S->Dd S y
 |step {y:Int}:Lv N t y->Cu N t y->Dd S ((t y).up - 1)->Dd S y
inductive Al:Int->Prop
 |root {y:Int}:Lv N t y->(t y).up=0->Al y
 |step {y:Int}:Lv N t y->Cu N t y->Al ((t y).up - 1)->Al y
def Odr:List Int->List (Int×Int)->Prop
 |_,[]=>True
 |seen,e::q=>(∀y,Dd N t (kf N t e.2) y-> ∀x,Lv N t x->(t x).up=y+1-> ¬Cu N t x->x∈seen)/\(e.1≠0-> ∀x,Lv N t x->(t x).up=e.1->x∈seen++kf N t e.2)/\Odr (seen++kf N t e.2) q
structure Aig (qs:List (Int×Int)):Prop where
 tree:Ay3 N t
 wf: ∃r,Wf N t r
 uw: ∃d:Int->Nat,∀x,Lv N t x->Cu N t x->d ((t x).up - 1)<d x
 kid:Bfb N t (qs.map (·.2))
 ord:Odr N t [] qs
 gone: ∀x,Lv N t x->(t x).up≠0->(t ((t x).up - 1)).lv=true\/(t ((t x).up - 1)).gn=true
 ep: ∀x,Lv N t x->Lv N t ((t x).up - 1)->(t x).ue<=(t ((t x).up - 1)).ep
 slot: ∀e∈qs,e.1≠0->(t (e.1 - 1)).lv=false/\(t (e.1 - 1)).gn=true
end
section
variable {N:Int} {t:Int->Lk}
theorem Al.lv{y:Int}(h:Al N t y):Lv N t y:=by cases h<;>assumption
theorem Al.noOr{y:Int}(h:Al N t y): ¬Oo N t y:=by
 intro g;cases h with
 |root a b=>exact g.2.1 b
 |step a b c=>exact g.2.2 b
theorem Al.noDd{S:List Int}(hS: ∀x∈S,Oo N t x){y:Int}(h:Al N t y): ¬Dd N t S y:=by
 induction h with
 |root a b=>
  intro g;cases g with
  |base g=>exact(hS _ g).2.1 b
  |step g1 g2 g3=>have:=g2.1.1.1;omega
 |step a b c ih=>
  intro g;cases g with
  |base g=>exact(hS _ g).2.2 b
  |step g1 g2 g3=>grind
theorem Dd.in{S:List Int}(hS: ∀x∈S,0<=x/\x<N){y:Int}(h:Dd N t S y):0<=y/\y<N:=by
 cases h with
 |base h=>grind
 |step h _ _=>exact h.1
theorem Bkr{f x:Int}(h:x∈kf N t f):0<=x/\x<N:=Bfa _ _ _ h
theorem Bfb.or{fs:List Int}(h:Bfb N t fs){f:Int}(hf:f∈fs){x:Int}(hx:x∈kf N t f):Oo N t x:=
 (h.iff x).1 (List.mem_flatMap.2 ⟨f,hf,hx⟩)
theorem sib (T:Ay3 N t){g x:Int}(hg:Lv N t g)(h:x+1=(t g).pv)(hx:0<=x):Lv N t x/\(t g).up=(t x).up/\(t g).ue=(t x).ue:=by
 obtain⟨a,b⟩:=(T.link g hg).prev (by omega);rw[<-h,Int.add_sub_cancel]at a b;obtain⟨_,_,c,d⟩:=(T.link x a).next (by rw[b];have:=hg.1;omega);rw[b,Int.add_sub_cancel]at c d;exact⟨a,c,d⟩
theorem Bre{g x:Int}(h1:(t g).up=(t x).up)(h2:(t g).ue=(t x).ue):Cu N t g ↔ Cu N t x:=by unfold Cu;rw[h1,h2]
theorem A6w (T:Ay3 N t){r:Int->Nat}(W:Wf N t r){g:Int}(hg:Lv N t g)(x:Int):x∈kf N t (t g).fi ↔ Lv N t x/\(t x).up=g+1/\Cu N t x:=by
 unfold kf;rw[Bra T W hg];constructor
 ·simp_all[Cu]
 ·rintro⟨a,b,c⟩;refine⟨a,b,?_⟩
  have:=c.2
  grind
theorem Bi2{g f:Int}(h: ∀x∈kf N t f,x≠g/\x+1≠(t g).pv):kf N (rem t g) f=kf N t f:=
 A68 _ _ fun x hx=>by
  obtain⟨a,b⟩:=h x hx;simp_all[Amn]
theorem A6b (T:Ay3 N t){r:Int->Nat}(W:Wf N t r){g:Int}(hg:Lv N t g):kf N (rem t g) (t g).fi=kf N t (t g).fi:=by
 refine Bi2 fun x hx=> ?_;obtain⟨a,b,c⟩:=(A6w T W hg x).1 hx;constructor
 ·grind [A8n]
 ·intro e;obtain⟨_,h1,h2⟩:=sib T hg e a.1.1;exact A8n T hg ((Bre h1 h2).2 c) (h1.trans b)
theorem Bfc (T:Ay3 N t){g f:Int}(hg:Lv N t g)(h:(0<=f - 1/\f - 1<N)/\(t (f - 1)).pv=0):(0<=f - 1/\f - 1<N)/\(rem t g (f - 1)).pv=0:=by
 refine⟨h.1,?_⟩;by_cases e:f - 1=g
 ·rw[e,A9z]
 ·rw[Amn e];simp only;rw[if_neg]
  ·exact h.2
  ·intro q;have:=((T.link g hg).next (by omega)).2.1;rw[<-q,Int.add_sub_cancel,h.2]at this;have:=hg.1;omega
theorem Bd3 (T:Ay3 N t){g:Int}(hg:Lv N t g)(h:(t g).fi≠0):(0<=(t g).fi - 1/\(t g).fi - 1<N)/\(rem t g ((t g).fi - 1)).pv=0:=by
 obtain⟨a,b,_⟩:=(T.link g hg).first h;exact Bfc T hg ⟨a.1,b⟩
theorem Akt{α:Type}{a b:List α}:(a++b).Nodup ↔ a.Nodup/\b.Nodup/\ ∀x∈a,x ∉ b:=by
 grind
theorem A0c{α β:Type}{l:List α}{f g:α->List β}(h: ∀x∈l,f x=g x):l.flatMap f=l.flatMap g:=by
 induction l with
 |nil=>rfl
 |cons x l ih=>rw[List.flatMap_cons,List.flatMap_cons,h x (by simp),ih fun y hy=>h y (by simp[hy])]
theorem Bai (T:Ay3 N t){g:Int}(hg:Lv N t g)(ho: ¬Oo N t g){fs:List Int}(K:Bfb N t fs){f:Int}(hf:f∈fs):kf N (rem t g) f=kf N t f:=by
 refine Bi2 fun x hx=> ?_
 have hx:=K.or hf hx;constructor
 ·grind
 ·intro e;obtain⟨_,h1,h2⟩:=sib T hg e hx.1.1.1;exact ho ⟨hg,h1 ▸ hx.2.1,fun c=>hx.2.2 ((Bre h1 h2).1 c)⟩
theorem Bms (T:Ay3 N t){r:Int->Nat}(W:Wf N t r){g:Int}(hg:Lv N t g)(ho: ¬Oo N t g){fs:List Int}(K:Bfb N t fs):Bfb N (rem t g) (fs++[(t g).fi]):=by
 have e:(fs++[(t g).fi]).flatMap (kf N (rem t g))=fs.flatMap (kf N t)++kf N t (t g).fi:=by
  grind [A6b,A0c,Bai]
 refine⟨?_,fun x=> ?_,fun f hf h0=> ?_⟩
 ·rw[e,Akt];exact⟨K.nodup,A73 T W _ hg,fun x h1 h2=>((K.iff x).1 h1).2.2 ((A6w T W hg x).1 h2).2.2⟩
 ·rw[e,N0,K.iff,A6w T W hg,Brc hg.1.1];constructor
  ·grind [A8n]
  ·rintro⟨a,h|⟨b,c⟩⟩
   ·grind
   ·by_cases d:Cu N t x
    ·grind
    ·exact .inl ⟨b,by have:=hg.1.1;omega,d⟩
 ·rw[N0,S9]at hf;rcases hf with hf|rfl
  ·exact Bfc T hg (K.top f hf h0)
  ·exact Bd3 T hg h0
theorem A90{f:Int}(h:0<=f - 1/\f - 1<N):f - 1∈kf N t f:=by
 unfold kf;obtain⟨m,hm⟩: ∃m,N.toNat=m+1:=⟨N.toNat - 1,by omega⟩;rw[hm,kids,if_pos h];simp
theorem A9c (T:Ay3 N t){r:Int->Nat}(W:Wf N t r){g:Int}(hg:Lv N t g):kf N t (g+1)=g::kf N t (t g).nx:=by
 unfold kf;obtain⟨m,hm⟩: ∃m,N.toNat=m+1:=⟨N.toNat - 1,by have:=hg.1;omega⟩;rw[Int.add_sub_cancel,hm,kids,if_pos hg.1];congr 1;rw[Bmp,List.take_of_length_le];by_cases h0:(t g).nx=0
 ·rw[h0,A2m];grind
 ·obtain⟨a,b,_⟩:=(T.link g hg).next h0;have hr:=W _ a (by rw[b];have:=hg.1;omega);rw[b,Int.add_sub_cancel]at hr;have hn:g ∉ kids N t (m+1) ((t g).nx - 1):=fun h=>by
   have:=(Bd2 T W (m+1) _ a).1 g h;omega
  have:=Bbm (N:=N) (List.nodup_cons.2 ⟨hn,A9b T W (m+1) a⟩) (fun y hy=>by
   rcases Ft.1 hy with rfl|hy
   ·exact hg.1
   ·exact Bfa _ _ y hy)
  grind
theorem Brf (T:Ay3 N t){r:Int->Nat}(W:Wf N t r){g:Int}(hg:Lv N t g){fs:List Int}(K:Bfb N t ((g+1)::fs)):
  (∀f∈(t g).nx::fs,kf N (rem t g) f=kf N t f)/\Bfb N (rem t g) ((t g).fi::(t g).nx::fs):=by
 have h0:(t g).pv=0:=by have:=(K.top (g+1) (by simp) (by have:=hg.1;omega)).2;grind
 have ho:Oo N t g:=K.or (f:=g+1) (by simp) (by have:=A90 (N:=N) (t:=t) (f:=g+1) (by rw[Int.add_sub_cancel];exact hg.1);grind);have hnd:=K.nodup;rw[List.flatMap_cons,A9c T W hg]at hnd;rw[Z45,List.nodup_cons]at hnd;have hold: ∀f∈(t g).nx::fs,kf N (rem t g) f=kf N t f:=fun f hf=>Bi2 fun x hx=>by
  refine⟨?_,fun e=>by have:=Bkr hx;omega⟩
  grind
 have e:((t g).fi::(t g).nx::fs).flatMap (kf N (rem t g))=kf N t (t g).fi++((t g).nx::fs).flatMap (kf N t):=by
  grind [A6b,A0c]
 have hsub: ∀x,x∈((t g).nx::fs).flatMap (kf N t) ↔ Oo N t x/\x≠g:=by
  intro x;have:=K.iff x;rw[List.flatMap_cons,A9c T W hg,Z45,Ft]at this
  grind
 refine⟨hold,?_,fun x=> ?_,fun f hf h1=> ?_⟩
 ·rw[e,Akt];refine⟨A73 T W _ hg,by grind,fun x h1 h2=>((hsub x).1 h2).1.2.2 ((A6w T W hg x).1 h1).2.2⟩
 ·rw[e,N0,hsub,A6w T W hg,Brc hg.1.1];constructor
  ·grind [A8n]
  ·rintro⟨a,h|⟨b,c⟩⟩
   ·grind
   ·by_cases d:Cu N t x
    ·grind
    ·exact .inr ⟨⟨b,by have:=hg.1.1;omega,d⟩,a⟩
 ·rcases Ft.1 hf with rfl|hf
  ·exact Bd3 T hg h1
  ·rcases Ft.1 hf with rfl|hf
   ·obtain⟨a,b,_⟩:=(T.link g hg).next h1;have hm:(t g).nx - 1≠g:=fun q=>by grind
    refine⟨a.1,?_⟩;simp_all[Amn]
   ·exact Bfc T hg (K.top f (by simp[hf]) h1)
theorem Bcg{t':Int->Lk}: ∀(q:List (Int×Int)) (seen seen':List Int),(∀e∈q,kf N t' e.2=kf N t e.2)->
  (∀e∈q,∀y,Dd N t' (kf N t' e.2) y->Dd N t (kf N t e.2) y/\ ∀x,Lv N t' x->(t' x).up=y+1-> ¬Cu N t' x->x∈seen'\/Lv N t x/\(t x).up=y+1/\ ¬Cu N t x)->
  (∀e∈q,e.1≠0-> ∀x,Lv N t' x->(t' x).up=e.1->x∈seen'\/Lv N t x/\(t x).up=e.1)->
  (∀x∈seen,Lv N t' x->x∈seen')->Odr N t seen q->Odr N t' seen' q:=by
 intro q;induction q with
 |nil=>intros;trivial
 |cons e q ih=>
  intro seen seen' hk hd hsl hs h;obtain⟨h1,h2,h3⟩:=h;have hke:=hk e (by simp);refine⟨fun y hy x hx hu hc=> ?_,fun h0 x hx hu=> ?_,?_⟩
  ·grind
  ·grind
  ·rw[hke];refine ih (seen++kf N t e.2) _ (fun f hf=>hk f (by simp[hf])) (fun f hf y hy=> ?_) (fun f hf h0 x hx hu=> ?_) (fun x hx hl=> ?_) h3
   all_goals grind
theorem Bks: ∀(q:List (Int×Int)) (seen:List Int) (e:Int×Int),Odr N t seen q->
  (∀y,Dd N t (kf N t e.2) y-> ∀x,Lv N t x->(t x).up=y+1-> ¬Cu N t x->x∈seen++q.flatMap (fun e=>kf N t e.2))->
  (e.1≠0-> ∀x,Lv N t x->(t x).up=e.1->x∈(seen++q.flatMap (fun e=>kf N t e.2))++kf N t e.2)->Odr N t seen (q++[e]):=by
 intro q;induction q with
 |nil=>intro seen e h h1 h2;rw[List.flatMap_nil,List.append_nil]at h1 h2;exact⟨h1,h2,trivial⟩
 |cons f q ih=>
  intro seen e h h1 h2;obtain⟨a,b,c⟩:=h;rw[List.flatMap_cons,<-Z31]at h1 h2;exact⟨a,b,ih _ e c h1 h2⟩
theorem Bfd{g:Int}{S:List Int}{y:Int}(h:Dd N (rem t g) S y):Dd N t S y:=by
 induction h with
 |base h=>exact .base h
 |step a b c ih=>
  obtain⟨h1,h2⟩:=Ar2.1 a;rw[Amn h1]at ih;exact .step h2 ((A4q h1).1 b).2 ih
theorem A74{g:Int}{S:List Int}(hS:g ∉ S){y:Int}(h:Dd N (rem t g) S y):y≠g:=by
 cases h with
 |base h=>grind
 |step a _ _=>exact(Ar2.1 a).1
theorem Bch{qs qs':List (Int×Int)}(F:Aig N t qs){g:Int}(hg:Lv N t g)(hK:Bfb N (rem t g) (qs'.map (·.2)))(hO:Odr N (rem t g) [] qs')(hs: ∀e∈qs',e.1≠0->e.1=g+1\/e.1∈qs.map (·.1)):Aig N (rem t g) qs':=by
 obtain⟨r,W⟩:=F.wf;obtain⟨d,U⟩:=F.uw;refine⟨Bcf F.tree hg,⟨r,B0q F.tree W hg⟩,⟨d,fun x hx hc=> ?_⟩,hK,hO,fun x hx h=> ?_,fun x hx h=> ?_,fun e he h0=> ?_⟩
 ·obtain⟨h1,h2⟩:=Ar2.1 hx;rw[Amn h1];exact U x h2 ((A4q h1).1 hc).2
 ·obtain⟨h1,h2⟩:=Ar2.1 hx;rw[Amn h1]at h ⊢;simp only at h ⊢;by_cases e:(t x).up - 1=g
  ·simp_all[A9z]
  grind [Amn,Aig.gone]
 ·obtain⟨h1,h2⟩:=Ar2.1 hx;rw[Amn h1]at h ⊢;simp only at h ⊢;obtain⟨h3,h4⟩:=Ar2.1 h
  grind [Amn,Aig.ep]
 ·by_cases e1:e.1 - 1=g
  ·simp_all[A9z]
  ·rw[Amn e1];rcases hs e he h0 with h|h
   ·omega
   ·obtain⟨a,ha,hb⟩:=Gh.1 h
    grind [Aig.slot]
theorem Bfe{qs:List (Int×Int)}(F:Aig N t qs){g:Int}(hg:Al N t g):Aig N (rem t g) (qs++[(g+1,(t g).fi)]):=by
 obtain⟨r,W⟩:=F.wf;have hl:=hg.lv;have T:=F.tree;have K:=F.kid;have hK:=Bms T W hl hg.noOr K;rw[show qs.map (·.2)++[(t g).fi]=(qs++[(g+1,(t g).fi)]).map (·.2)by simp]at hK;have hold: ∀e∈qs,kf N (rem t g) e.2=kf N t e.2:=fun e he=>Bai T hl hg.noOr K (Gh.2 ⟨e,he,rfl⟩)
 have hgn: ∀e∈qs,g ∉ kf N t e.2:=fun e he h=>hg.noOr (K.or (Gh.2 ⟨e,he,rfl⟩) h)
 have hflat:qs.flatMap (fun e=>kf N (rem t g) e.2)=(qs.map (·.2)).flatMap (kf N t):=by
  grind [A0c]
 refine Bch F hl hK (Bks _ _ _ (Bcg qs [] [] hold (fun e he y hy=> ?_) (fun e he h0 x hx hu=> ?_) (fun x hx=>by cases hx) F.ord) (fun y hy x hx hu hc=> ?_) (fun _ x hx hu=> ?_)) (fun e he h0=> ?_)
 ·have hy2:=A74 (by grind) hy;refine⟨by grind [Bfd],fun x hx hu hc=> .inr ?_⟩;simp_all[Ar2,Amn,A4q]
 ·simp_all[Ar2,Amn]
 ·rw[Z38,hflat,K.iff];obtain⟨a,b⟩:=Ar2.1 hx;rw[Amn a]at hu;simp only at hu;rw[A6b T W hl]at hy;have hgc:g ∉ kf N t (t g).fi:=fun h=>by obtain⟨_,h2,h3⟩:=(A6w T W hl g).1 h;grind [A8n]
  have hy2:=A74 hgc hy;have hy0:=Dd.in (fun x hx=>Bkr hx) hy;exact⟨b,by omega,fun h=>hc ((A4q a).2 ⟨by omega,h⟩)⟩
 ·rw[Z38,hflat,A6b T W hl,N0,K.iff,A6w T W hl];obtain⟨a,b⟩:=Ar2.1 hx;rw[Amn a]at hu;simp only at hu;by_cases c:Cu N t x
  ·grind
  ·exact .inl ⟨b,by omega,c⟩
 grind
theorem Bg6{qs:List (Int×Int)}{s g:Int}(F:Aig N t ((s,g+1)::qs))(h0:0<=g):Lv N t g/\(t g).pv=0/\Aig N (rem t g) ((g+1,(t g).fi)::(s,(t g).nx)::qs):=by
 obtain⟨r,W⟩:=F.wf;have T:=F.tree;have K:=F.kid;rw[Z8]at K;obtain⟨k1,k2⟩:=K.top (g+1) (by simp) (by omega);have hgm:g∈kf N t (g+1):=by have:=A90 (N:=N) (t:=t) k1;grind
 have ho:Oo N t g:=K.or (f:=g+1) (by simp) hgm;have hl:=ho.1;rw[Int.add_sub_cancel]at k2;obtain⟨hold,hK⟩:=Brf T W hl K;obtain⟨o1,o2,o3⟩:=F.ord;simp only[Z38]at o1 o2 o3;have hsp:=A9c T W hl;have hgc:g ∉ kf N t (t g).fi:=fun h=>by obtain⟨_,h2,h3⟩:=(A6w T W hl g).1 h;grind [A8n]
 have hchild: ∀y,Dd N t (kf N t (t g).fi) y->Dd N t (kf N t (g+1)) y:=by
  intro y hy;induction hy with
  |base h=>
   obtain⟨a,b,c⟩:=(A6w T W hl _).1 h;exact .step a c (by rw[b,Int.add_sub_cancel];exact .base hgm)
  |step a b c ih=>exact .step a b ih
 have hnone: ∀y,Dd N t (kf N t (g+1)) y-> ∀x,Lv N t x->(t x).up=y+1->Cu N t x:=fun y hy x hx hu=>Classical.byContradiction fun h=>by grind
 refine⟨hl,k2,Bch F hl hK ⟨fun y hy x hx hu hc=> ?_,fun _ x hx hu=> ?_,fun y hy x hx hu hc=> ?_,fun hs x hx hu=> ?_,?_⟩ (fun e he h1=> ?_)⟩
 ·exfalso;rw[A6b T W hl]at hy;have hy2:=A74 hgc hy;obtain⟨a,b⟩:=Ar2.1 hx;rw[Amn a]at hu;simp only at hu;exact hc ((A4q a).2 ⟨by omega,hnone y (hchild y (Bfd hy)) x b hu⟩)
 ·rw[Z38,A6b T W hl,A6w T W hl];obtain⟨a,b⟩:=Ar2.1 hx;rw[Amn a]at hu;simp only at hu;exact⟨b,hu,hnone g (.base hgm) x b hu⟩
 ·exfalso;rw[hold _ (by simp)]at hy;have hgt:g ∉ kf N t (t g).nx:=by
   have:=K.nodup
   grind
  have hy2:=A74 hgt hy;obtain⟨a,b⟩:=Ar2.1 hx;rw[Amn a]at hu;simp only at hu;have hd:Dd N t (kf N t (g+1)) y:=by
   have:=Bfd hy;rw[hsp];clear hy hu;induction this with
   |base h=>exact .base (Z56 _ h)
   |step a b c ih=>
    exact .step a b (Classical.byCases (fun e:(t _).up - 1=g=>by rw[e];exact .base (by simp)) (fun e=>ih e))
  exact hc ((A4q a).2 ⟨by omega,hnone y hd x b hu⟩)
 ·rw[Z38,A6b T W hl,hold _ (by simp)];obtain⟨a,b⟩:=Ar2.1 hx;rw[Amn a]at hu
  grind
 ·rw[Z38,A6b T W hl,hold _ (by simp)];have hq: ∀e∈qs,e.2∈(t g).nx::qs.map (·.2):=fun e he=>Z56 _ (Gh.2 ⟨e,he,rfl⟩)
  have hnd:=K.nodup;rw[List.flatMap_cons,hsp,Z45,List.nodup_cons]at hnd;refine Bcg qs (kf N t (g+1)) _ (fun e he=>hold _ (hq e he)) (fun e he y hy=> ?_) (fun e he _ x hx hu=> ?_) (fun x hx hl'=> ?_) o3
  ·rw[hold _ (hq e he)]at hy;have hy2:=A74 (fun h=>hnd.1 (List.mem_append_right _ (List.mem_flatMap.2 ⟨e.2,Gh.2 ⟨e,he,rfl⟩,h⟩))) hy;refine⟨Bfd hy,fun x hx hu hc=> .inr ?_⟩;obtain⟨a,b⟩:=Ar2.1 hx;simp_all[Amn,A4q]
  ·simp_all[Ar2,Amn]
  ·rw[hsp]at hx;rcases Ft.1 hx with h|h
   ·exact absurd h (Ar2.1 hl').1
   grind
 grind
end
section
variable {N:Int} {t:Int->Lk}
def emp (t:Int->Lk)(k x:Int):Lk:=if x=k then⟨(t k).lv,(t k).gn,(t k).ep+1,(t k).up,(t k).ue,0,(t k).nx,(t k).pv⟩else t x
theorem Bd4{k:Int}:emp t k k=⟨(t k).lv,(t k).gn,(t k).ep+1,(t k).up,(t k).ue,0,(t k).nx,(t k).pv⟩:=if_pos rfl
theorem Ba0{k x:Int}(h:x≠k):emp t k x=t x:=if_neg h
theorem Ahv (k x:Int):(emp t k x).lv=(t x).lv/\(emp t k x).gn=(t x).gn/\(emp t k x).up=(t x).up/\(emp t k x).ue=(t x).ue/\(emp t k x).nx=(t x).nx/\(emp t k x).pv=(t x).pv:=by
 by_cases h:x=k
 all_goals simp_all[Bd4,Ba0]
theorem Awe{k x:Int}:Lv N (emp t k) x ↔ Lv N t x:=by simp_all[Lv,Ahv]
theorem A9d (hE: ∀x,Lv N t x->Lv N t ((t x).up - 1)->(t x).ue<=(t ((t x).up - 1)).ep){k x:Int}(hx:Lv N t x):Cu N (emp t k) x ↔ (t x).up≠k+1/\Cu N t x:=by
 unfold Cu;rw[Awe,(Ahv k x).2.2.1,(Ahv k x).2.2.2.1];by_cases h:(t x).up - 1=k
 ·grind [Bd4]
 ·rw[Ba0 h]
  grind
theorem Bbn{k x:Int}(hx:(t x).up≠k+1):Cu N (emp t k) x ↔ Cu N t x:=by
 unfold Cu;rw[Awe,(Ahv k x).2.2.1,(Ahv k x).2.2.2.1,Ba0 (by omega)]
theorem Bcj (k f:Int):kf N (emp t k) f=kf N t f:=A68 _ _ fun x _=>(Ahv k x).2.2.2.2.1
theorem Brg (k:Int)(n:Nat)(x:Int):rise N (emp t k) n x=rise N t n x:=A6a _ _ fun x _=>(Ahv k x).2.2.1
theorem Brh (T:Ay3 N t)(hE: ∀x,Lv N t x->Lv N t ((t x).up - 1)->(t x).ue<=(t ((t x).up - 1)).ep){k:Int}(hk:Lv N t k):Ay3 N (emp t k):=by
 refine⟨fun x hx=> ?_,fun x hx=> ?_,fun x h0 h1 h=> ?_⟩
 ·have hl:=Awe.1 hx;have X:=T.link x hl;obtain⟨s1,s2,s3,s4,s5,s6⟩:=Ahv (t:=t) k x;refine⟨fun h=> ?_,fun h=> ?_,fun h=> ?_,fun h=> ?_,fun h hc=> ?_⟩
  ·by_cases e:x=k
   ·simp_all[Bd4]
   ·rw[Ba0 e]at h ⊢;obtain⟨a,b,c,d⟩:=X.first h;obtain⟨q1,q2,q3,q4,q5,q6⟩:=Ahv (t:=t) k ((t x).fi - 1)
    grind [Awe]
  ·rw[s5]at h ⊢;obtain⟨q1,q2,q3,q4,q5,q6⟩:=Ahv (t:=t) k ((t x).nx - 1)
   grind [Awe,A8y.next]
  ·rw[s6]at h ⊢;rw[Awe,(Ahv k _).2.2.2.2.1];exact X.prev h
  ·rw[s3]at h ⊢;exact X.up h
  ·rw[s6]at h;obtain⟨a,b⟩:=(A9d hE hl).1 hc
   grind [Ba0,A8y.top]
 ·have hl:=Awe.1 hx;rw[Brg];obtain⟨a,b⟩:=T.rise x hl;refine⟨a,fun y hy hc=> ?_⟩;have hy2:=b y hy;by_cases e:Lv N t y
  ·simp_all[A9d]
  ·have hin:=A4e _ _ y (List.mem_of_getLast? hy);have:=(T.bare y hin.1 hin.2 (by cases q:(t y).lv with|false=>rfl|true=>exact absurd ⟨hin,q⟩ e)).1
   unfold Cu at hc;rw[(Ahv k y).2.2.1,this]at hc;have:=hc.1.1.1;omega
 ·by_cases e:x=k
  ·subst e;rw[Bd4]at h;have:=hk.2;grind
  grind [Ba0,Ay3.bare]
theorem Bri (hE: ∀x,Lv N t x->Lv N t ((t x).up - 1)->(t x).ue<=(t ((t x).up - 1)).ep){k x:Int}(hk:0<=k):Oo N (emp t k) x ↔ Oo N t x\/Lv N t x/\(t x).up=k+1:=by
 unfold Oo;rw[Awe,(Ahv k x).2.2.1];constructor
 ·rintro⟨a,b,c⟩
  by_cases e:(t x).up=k+1
  all_goals simp_all[A9d]
 ·rintro(⟨a,b,c⟩|⟨a,b⟩)
  ·simp_all[A9d]
  ·exact⟨a,by omega,fun d=>((A9d hE a).1 d).1 b⟩
theorem Bff{qs:List (Int×Int)}(F:Aig N t qs){k:Int}(hg:Al N t k):Aig N (emp t k) (qs++[(0,(t k).fi)]):=by
 obtain⟨r,W⟩:=F.wf;obtain⟨d,U⟩:=F.uw;have hl:=hg.lv;have T:=F.tree;have K:=F.kid;have hE:=F.ep;have hflat:qs.flatMap (fun e=>kf N (emp t k) e.2)=(qs.map (·.2)).flatMap (kf N t):=by
  simp_all[List.flatMap_map,Bcj]
 have hfl2:((qs++[((0:Int),(t k).fi)]).map (fun e:Int×Int=>e.2)).flatMap (kf N (emp t k))=(qs.map (·.2)).flatMap (kf N t)++kf N t (t k).fi:=by
  grind [List.flatMap_map,Bcj]
 refine⟨Brh T hE hl,⟨r,fun x hx h=> ?_⟩,⟨d,fun x hx hc=> ?_⟩,⟨?_,fun x=> ?_,fun f hf h0=> ?_⟩,Bks _ _ _ (Bcg qs [] [] (fun e _=>Bcj k e.2) (fun e he y hy=> ?_) (fun e he _ x hx hu=> ?_) (fun x hx=>by cases hx) F.ord) (fun y hy x hx hu hc=> ?_) (fun h=>absurd rfl h),fun x hx h=> ?_,fun x hx h=> ?_,fun e he h0=> ?_⟩
 ·rw[(Ahv k x).2.2.2.2.2]at h ⊢;exact W x (Awe.1 hx) h
 ·simp_all[Ahv,Awe,A9d]
 ·rw[hfl2,Akt];exact⟨K.nodup,A73 T W _ hl,fun x h1 h2=>((K.iff x).1 h1).2.2 ((A6w T W hl x).1 h2).2.2⟩
 ·rw[hfl2,N0,K.iff,A6w T W hl,Bri hE hl.1.1];constructor
  ·grind
  ·rintro(h|⟨b,c⟩)
   ·grind
   ·by_cases d:Cu N t x
    ·grind
    ·exact .inl ⟨b,by have:=hl.1.1;omega,d⟩
 ·rw[(Ahv k _).2.2.2.2.2];rw[Yy,N0]at hf;rcases hf with hf|hf
  ·exact K.top f hf h0
  ·simp only[Z8,Py,S9]at hf;subst hf;obtain⟨a,b,_⟩:=(T.link k hl).first h0;exact⟨a.1,b⟩
 ·have hor: ∀x∈kf N t e.2,Oo N t x:=fun x hx=>K.or (Gh.2 ⟨e,he,rfl⟩) hx
  have hy2:Dd N t (kf N t e.2) y:=by
   rw[Bcj]at hy;induction hy with
   |base h=>exact .base h
   |step a b c ih=>
    rw[(Ahv k _).2.2.1]at ih;exact .step (Awe.1 a) ((A9d hE (Awe.1 a)).1 b).2 ih
  refine⟨hy2,fun x hx hu hc=> .inr ?_⟩;rw[(Ahv k x).2.2.1]at hu;have hne:y≠k:=fun q=>hg.noDd hor (q ▸ hy2)
  simp_all[Awe,Bbn]
 ·simp_all[Ahv,Awe]
 ·rw[Z38,hflat,K.iff];rw[(Ahv k x).2.2.1]at hu;have hy0:=Dd.in (fun x hx=>Bkr hx) hy;have hal:Al N (emp t k) k:=by
   clear hy hu hc hx;cases hg with
   |root a b=>exact .root (Awe.2 a) (by simp_all[Ahv])
   |step a b c=>
    have key: ∀z,Al N t z->d z<d k->Al N (emp t k) z:=by
     intro z hz;induction hz with
     |root a b=>intro _;exact .root (Awe.2 a) (by simp_all[Ahv])
     | @step z a b c ih=>
      intro h1;have h2:=U z a b;have hne:(t z).up≠k+1:=fun q=>by grind
      exact .step (Awe.2 a) ((Bbn hne).2 b) (by rw[(Ahv k _).2.2.1];grind)
    have h2:=U k a b;have hne:(t k).up≠k+1:=fun q=>by grind
    exact .step (Awe.2 a) ((Bbn hne).2 b) (by simp_all[Ahv])
  have hne:y≠k:=fun q=>by
   refine hal.noDd (S:=kf N (emp t k) (t k).fi) (fun z hz=> ?_) (q ▸ hy);rw[Bcj,A6w T W hl]at hz;simp_all[Bri]
  exact⟨Awe.1 hx,by omega,fun h=>hc ((Bbn (by omega)).2 h)⟩
 ·rw[(Ahv k x).2.2.1]at h ⊢;rw[(Ahv k _).1,(Ahv k _).2.1];exact F.gone x (Awe.1 hx) h
 ·rw[(Ahv k x).2.2.1]at h ⊢;rw[(Ahv k x).2.2.2.1];have:=hE x (Awe.1 hx) (Awe.1 h);by_cases e:(t x).up - 1=k
  all_goals grind [Bd4,Ba0]
 ·rw[(Ahv k _).1,(Ahv k _).2.1];rcases N0.1 he with he|he
  ·exact F.slot e he h0
  ·rw[S9]at he;rw[he]at h0;exact absurd rfl h0
def clr (t:Int->Lk)(k x:Int):Lk:=if x=k then⟨false,false,0,0,0,0,0,0⟩else t x
theorem Bck{qs:List (Int×Int)}{s:Int}(F:Aig N t ((s,0)::qs)):Aig N t qs:=by
 obtain⟨o1,o2,o3⟩:=F.ord;have h0:kf N t 0=[]:=A2m _;have K:=F.kid;simp only[h0,List.append_nil]at o3;refine⟨F.tree,F.wf,F.uw,?_,o3,F.gone,F.ep,fun e he=>F.slot e (Z56 _ he)⟩;refine⟨?_,fun x=> ?_,fun f hf=>K.top f (Z56 _ hf)⟩
 ·have:=K.nodup;grind
 ·have:=K.iff x;grind
theorem Aza{k:Int}(h:(t k).lv=false){x:Int}:Lv N (clr t k) x ↔ Lv N t x:=by
 unfold Lv clr
 grind
theorem Amk{k:Int}(h:(t k).lv=false){x:Int}(hx:Lv N t x):clr t k x=t x:=by
 unfold clr;rw[if_neg];intro e;subst e;have:=hx.2
 grind
theorem A9e{k:Int}(h:(t k).lv=false){x:Int}(hx:Lv N t x):Cu N (clr t k) x ↔ Cu N t x:=by
 grind [Cu,Amk,Aza]
theorem Bfg{qs:List (Int×Int)}{s:Int}(F:Aig N t ((s,0)::qs))(h0:s≠0)(hs: ∀e∈qs,e.1≠s):Aig N (clr t (s - 1)) qs:=by
 have F':=Bck F;obtain⟨r,W⟩:=F.wf;obtain⟨d,U⟩:=F.uw;have T:=F.tree;have K:=F'.kid;obtain⟨hlv,hgn⟩:=F.slot (s,0) (by simp) h0;simp only at hlv hgn;have hno: ∀x,Lv N t x->(t x).up≠s:=fun x hx e=>by
  have:=F.ord.2.1 h0 x hx e;rw[show kf N t ((s,(0:Int)).2)=[] from A2m _]at this;cases this
 have hnl: ∀x,x≠s - 1->clr t (s - 1) x=t x:=fun x h=>if_neg h
 have hup: ∀x,(0<=x/\x<N)->(clr t (s - 1) x).up=(t x).up:=fun x h=>by
  by_cases e:x=s - 1
  ·subst e;rw[(T.bare _ h.1 h.2 hlv).1];simp_all[clr]
  grind
 have hri: ∀n x,rise N (clr t (s - 1)) n x=rise N t n x:=fun n x=>A6a n x fun y hy=>hup y (A4e _ _ y hy)
 have hkf: ∀f∈qs.map (·.2),kf N (clr t (s - 1)) f=kf N t f:=fun f hf=>A68 _ _ fun x hx=>by rw[Amk hlv (K.or hf hx).1]
 have hor: ∀x,Oo N (clr t (s - 1)) x ↔ Oo N t x:=fun x=>by
  grind [Oo,Aza,Amk,A9e]
 have hdd: ∀S y,Dd N (clr t (s - 1)) S y->Dd N t S y:=fun S y h=>by
  induction h with
  |base h=>exact .base h
  |step a b c ih=>
   have a:=(Aza hlv).1 a;rw[Amk hlv a]at ih;exact .step a ((A9e hlv a).1 b) ih
 refine⟨⟨fun x hx=> ?_,fun x hx=> ?_,fun x h0 h1 h=> ?_⟩,⟨r,fun x hx h=> ?_⟩,⟨d,fun x hx hc=> ?_⟩,⟨?_,fun x=> ?_,fun f hf h1=> ?_⟩,?_,fun x hx h=> ?_,fun x hx h=> ?_,fun e he h1=> ?_⟩
 ·have hl:=(Aza hlv).1 hx;have X:=T.link x hl;refine⟨fun h=> ?_,fun h=> ?_,fun h=> ?_,fun h=> ?_,fun h hc=> ?_⟩
  ·rw[Amk hlv hl]at h ⊢;have a:=(X.first h).1
   grind [Aza,Amk,A8y.first]
  ·rw[Amk hlv hl]at h ⊢;have a:=(X.next h).1
   grind [Aza,Amk,A8y.next]
  ·rw[Amk hlv hl]at h ⊢;have a:=(X.prev h).1
   grind [Aza,Amk,A8y.prev]
  ·grind [Amk,A8y.up]
  ·have hc:=(A9e hlv hl).1 hc;rw[Amk hlv hl]at h ⊢;rw[Amk hlv hc.1];exact X.top h hc
 ·have hl:=(Aza hlv).1 hx;rw[hri];obtain⟨a,b⟩:=T.rise x hl;refine⟨a,fun y hy hc=>b y hy ?_⟩;unfold Cu at hc ⊢;rw[hup y (A4e _ _ y (List.mem_of_getLast? hy)),Aza hlv]at hc;refine⟨hc.1,?_⟩;rw[<-Amk hlv hc.1,hc.2];by_cases e:y=s - 1
  ·subst e;have hin:=A4e _ _ _ (List.mem_of_getLast? hy);have:=(T.bare _ hin.1 hin.2 hlv).1;rw[this]at hc;have:=hc.1.1.1;omega
  grind
 ·by_cases e:x=s - 1
  ·simp_all[clr]
  grind [Ay3.bare]
 ·have hl:=(Aza hlv).1 hx;rw[Amk hlv hl]at h ⊢;exact W x hl h
 ·have hl:=(Aza hlv).1 hx;rw[Amk hlv hl];simp_all[A9e]
 ·rw[A0c hkf];exact K.nodup
 ·rw[A0c hkf,K.iff,hor]
 ·obtain⟨a,b⟩:=K.top f hf h1;refine⟨a,?_⟩;rw[Amk hlv (K.or hf (A90 a)).1];exact b
 ·have hk: ∀e∈qs,kf N (clr t (s - 1)) e.2=kf N t e.2:=fun e he=>hkf _ (Gh.2 ⟨e,he,rfl⟩);refine Bcg qs [] [] hk (fun e he y hy=>⟨by grind,fun x hx hu hc=> ?_⟩) (fun e he h1 x hx hu=> ?_) (fun x hx=>by cases hx) F'.ord
  ·have hl:=(Aza hlv).1 hx;rw[Amk hlv hl]at hu;simp_all[A9e]
  ·have hl:=(Aza hlv).1 hx
   grind [Amk]
 ·have hl:=(Aza hlv).1 hx
  grind [Amk,Aig.gone]
 ·have hl:=(Aza hlv).1 hx;rw[Amk hlv hl]at h ⊢;have h2:=(Aza hlv).1 h
  grind [Aig.ep]
 grind [Aig.slot]
end
section
variable {N:Int} {t:Int->Lk}
def ins (t:Int->Lk)(k p x:Int):Lk:=
 if x=k then⟨true,false,0,p+1,if p+1=0 then 0 else(t p).ep,0,if p+1=0 then 0 else(t p).fi,0⟩
 else⟨(t x).lv,(t x).gn,(t x).ep,(t x).up,(t x).ue,if x=p then k+1 else(t x).fi,(t x).nx,if p+1≠0/\x+1=(t p).fi then k+1 else(t x).pv⟩
theorem A02{k p:Int}:ins t k p k=⟨true,false,0,p+1,if p+1=0 then 0 else(t p).ep,0,if p+1=0 then 0 else(t p).fi,0⟩:=if_pos rfl
theorem Aye{k p x:Int}(h:x≠k):ins t k p x=⟨(t x).lv,(t x).gn,(t x).ep,(t x).up,(t x).ue,if x=p then k+1 else(t x).fi,(t x).nx,if p+1≠0/\x+1=(t p).fi then k+1 else(t x).pv⟩:=if_neg h
theorem Brj: ∀(n:Nat) (x y:Int),y∈rise N t n x->y=x\/ ∃z,z∈rise N t n x/\(t z).up - 1=y:=by
 intro n;induction n with
 |zero=>intro x y h;cases h
 |succ n ih=>
  intro x y h;rw[rise]at h ⊢
  grind
theorem Bkt{d:Int->Nat}(U: ∀x,Lv N t x->Cu N t x->d ((t x).up - 1)<d x): ∀(n:Nat) (x:Int),Al N t x->(∀y∈rise N t n x,d y<=d x/\Al N t y)/\(rise N t n x).Pairwise (fun a b=>d b<d a):=by
 intro n;induction n with
 |zero=>intro x _;exact⟨fun y h=>(by cases h),.nil⟩
 |succ n ih=>
  intro x hx;rw[rise,if_pos hx.lv.1];cases hx with
  |root a b=>
   have:rise N t n ((t x).up - 1)=[]:=by rw[b];cases n with|zero=>rfl|succ n=>rfl
   rw[this];exact⟨fun y h=>by rw[S9.1 h];exact⟨Z9 _,.root a b⟩,List.pairwise_singleton ..⟩
  |step a b c=>
   obtain⟨i1,i2⟩:=ih _ c;have h2:=U x a b;refine⟨fun y h=> ?_,List.pairwise_cons.2 ⟨fun y h=> ?_,i2⟩⟩
   ·rcases Ft.1 h with rfl|h
    ·exact⟨Z9 _,.step a b c⟩
    grind
   grind
theorem Bg7{qs:List (Int×Int)}(F:Aig N t qs){k p:Int}(hk:0<=k/\k<N)(hlv:(t k).lv=false)(hgn:(t k).gn=false)(hp:p= -1\/Al N t p/\(rise N t N.toNat p).length<4):Aig N (ins t k p) qs:=by
 obtain⟨r,W⟩:=F.wf;obtain⟨d,U⟩:=F.uw;have T:=F.tree;have K:=F.kid;have hne: ∀ {x},Lv N t x->x≠k:=fun {x} h e=>by subst e;rw[h.2]at hlv;cases hlv
 have hno: ∀x,Lv N t x->(t x).up≠k+1:=fun x hx e=>by
  rcases F.gone x hx (by omega)with h|h
  all_goals grind
 have hp0:p+1≠0->Al N t p:=fun h=>by
  grind
 have hp1: ∀x,Lv N t x->x=p->p+1≠0:=fun x hx e=>by have:=hx.1.1;omega
 have L: ∀x,Lv N (ins t k p) x ↔ x=k\/Lv N t x:=fun x=>by
  unfold Lv;by_cases e:x=k
  all_goals grind [A02,Aye]
 have hL: ∀ {x},Lv N t x->Lv N (ins t k p) x:=fun h=>(L _).2 (.inr h)
 have hup: ∀x,x≠k->(ins t k p x).up=(t x).up:=fun x h=>by rw[Aye h]
 have C: ∀x,x≠k->(t x).up≠k+1->(Cu N (ins t k p) x ↔ Cu N t x):=fun x h h1=>by
  unfold Cu;rw[L,hup x h,Aye (x:=(t x).up - 1) (by omega),Aye h]
  grind
 have Ck:p+1≠0->Cu N (ins t k p) k:=fun h=>by
  simp_all[Al.lv,Cu,A02,Aye]
 have Cn:p+1=0-> ¬Cu N (ins t k p) k:=fun h c=>by
  unfold Cu at c;rw[A02]at c
  grind
 have hkf: ∀f∈qs.map (·.2),kf N (ins t k p) f=kf N t f:=fun f hf=>A68 _ _ fun x hx=>by rw[Aye (hne (K.or hf hx).1)]
 have hor: ∀x,Oo N (ins t k p) x ↔ Oo N t x:=fun x=>by
  unfold Oo;rw[L];by_cases e:x=k
  ·subst e;constructor
   ·grind [A02]
   grind
  grind
 have hrk: ∀x,Lv N t x-> ∀n,k ∉ rise N t n x:=fun x hx n h=>by
  rcases Brj _ _ _ h with h|⟨z,h1,h2⟩
  ·grind
  ·by_cases hz:(t z).lv=true
   ·exact hno z ⟨A4e _ _ _ h1,hz⟩ (by omega)
   ·have:=A4e _ _ _ h1;have:=(T.bare z this.1 this.2 (by grind)).1;omega
 have hri: ∀x,Lv N t x-> ∀n,rise N (ins t k p) n x=rise N t n x:=fun x hx n=>A6a n x fun y hy=>hup y fun e=>hrk x hx n (e ▸ hy)
 have hlast: ∀x,Lv N t x-> ∀y,(rise N t N.toNat x).getLast? =some y-> ¬Cu N (ins t k p) y:=fun x hx y hy hc=>by
  have hm:=List.mem_of_getLast? hy;have hyk:y≠k:=fun e=>hrk x hx _ (e ▸ hm)
  have hin:=A4e _ _ _ hm;by_cases hz:(t y).lv=true
  ·exact(T.rise x hx).2 y hy ((C y hyk (hno y ⟨hin,hz⟩)).1 hc)
  ·have:=(T.bare y hin.1 hin.2 (by grind)).1;unfold Cu at hc;rw[hup y hyk,this]at hc;have:=hc.1.1.1;omega
 obtain⟨m,hm⟩: ∃m,N.toNat=m+1:=⟨N.toNat - 1,by omega⟩;have hpk:p+1≠0->rise N (ins t k p) N.toNat k=k::rise N t N.toNat p:=fun h=>by
  have ha:=hp0 h;rw[hm,rise,if_pos hk,A02];simp only;rw[Int.add_sub_cancel,hri p ha.lv,<-hm];congr 1;rw[hm,Bmr,List.take_of_length_le];obtain⟨i1,i2⟩:=Bkt U (m+1) p ha;have:=Bbm (N:=N) (List.nodup_cons.2 ⟨hrk p ha.lv (m+1),i2.imp fun h e=>by grind⟩) (fun y hy=>by
   rcases Ft.1 hy with rfl|hy
   ·exact hk
   ·exact A4e _ _ y hy)
  grind
 refine⟨⟨fun x hx=> ?_,fun x hx=> ?_,fun x h0 h1 h=> ?_⟩,⟨fun x=>if x=k then 0 else r x+1,fun x hx h=> ?_⟩,⟨fun x=>if x=k then d p+1 else d x,fun x hx hc=> ?_⟩,⟨?_,fun x=> ?_,fun f hf h1=> ?_⟩,?_,fun x hx h=> ?_,fun x hx h=> ?_,fun e he h1=> ?_⟩
 ·by_cases e:x=k
  ·subst e;refine⟨fun h=> ?_,fun h=> ?_,fun h=> ?_,fun h=> ?_,fun h hc=> ?_⟩
   ·simp_all[A02]
   ·rw[A02]at h ⊢;simp only at h ⊢;by_cases hq:p+1=0
    ·omega
    ·rw[if_neg hq]at h ⊢;rw[if_neg hq];obtain⟨a,b,c,e⟩:=(T.link p (hp0 hq).lv).first h;simp_all[Aye]
   ·simp_all[A02]
   ·rw[A02]at h ⊢;simp only at h ⊢;rw[Int.add_sub_cancel];exact(hp0 h).lv.1
   ·by_cases hq:p+1=0
    ·grind
    ·rw[A02];simp only;rw[Int.add_sub_cancel,Aye (hne (hp0 hq).lv)];simp
  ·have hl:=((L x).1 hx).resolve_left e;have X:=T.link x hl;refine⟨fun h=> ?_,fun h=> ?_,fun h=> ?_,fun h=> ?_,fun h hc=> ?_⟩
   ·rw[Aye e]at h ⊢;simp only at h ⊢;by_cases hq:x=p
    ·have hq1:=hp1 x hl hq;rw[if_pos hq,Int.add_sub_cancel,A02]
     grind
    ·rw[if_neg hq]at h ⊢;obtain⟨a,b,c,f⟩:=X.first h;rw[Aye (hne a)];simp only;rw[if_neg]
     ·grind
     ·rintro⟨g1,g2⟩
      have:=((T.link p (hp0 g1).lv).first (by omega)).2.2.1
      grind
   ·rw[Aye e]at h ⊢;simp only at h ⊢;obtain⟨a,b,c,f⟩:=X.next h;rw[Aye (hne a)];simp only;rw[if_neg]
    ·grind
    ·rintro⟨g1,g2⟩
     have:=((T.link p (hp0 g1).lv).first (by omega)).2.1;rw[<-g2,Int.add_sub_cancel]at this;have:=hl.1;omega
   ·rw[Aye e]at h ⊢;simp only at h ⊢;by_cases hq:p+1≠0/\x+1=(t p).fi
    ·rw[if_pos hq,Int.add_sub_cancel,A02]
     grind
    ·rw[if_neg hq]at h ⊢
     grind [A8y.prev,Aye]
   ·rw[Aye e]at h ⊢;exact X.up h
   ·have hc:=(C x e (hno x hl)).1 hc;rw[Aye e]at h ⊢;simp only at h ⊢;by_cases hq:p+1≠0/\x+1=(t p).fi
    ·omega
    ·rw[if_neg hq]at h;have:=X.top h hc;rw[Aye (hne hc.1)];simp only;rw[if_neg]
     ·exact this
     ·intro g;rw[g]at this;exact hq ⟨hp1 _ hc.1 g,by omega⟩
 ·by_cases e:x=k
  ·subst e;by_cases hq:p+1=0
   ·have:rise N (ins t x p) N.toNat x=[x]:=by
     rw[hm,rise,if_pos hk,A02];simp only;rw[hq];cases m with
     |zero=>rfl
     |succ m=>rfl
    simp_all
   ·rw[hpk hq];rcases hp with rfl|hp
    ·omega
    ·refine⟨by grind,fun y hy=> ?_⟩;have:rise N t N.toNat p≠[]:=by rw[hm,rise,if_pos hp.1.lv.1];simp
     rw[List.getLast?_cons]at hy;refine hlast p hp.1.lv y ?_;simp_all[rise,List.getLast?_cons]
  ·have hl:=((L x).1 hx).resolve_left e;rw[hri x hl];exact⟨(T.rise x hl).1,hlast x hl⟩
 ·by_cases e:x=k
  ·grind [A02]
  ·rw[Aye e]at h ⊢;simp only at h ⊢;obtain⟨a,b,c,f⟩:=T.bare x h0 h1 h;refine⟨a,?_,c,?_⟩
   ·rw[if_neg]
    ·exact b
    ·intro g;have:=(hp0 (by omega)).lv.2
     grind
   ·rw[if_neg]
    ·exact f
    ·rintro⟨g1,g2⟩
     have:=((T.link p (hp0 g1).lv).first (by omega)).1.2
     grind
 ·by_cases e:x=k
  ·simp_all[A02]
  ·have hl:=((L x).1 hx).resolve_left e;rw[Aye e]at h ⊢;simp only at h ⊢;simp only[if_neg e];by_cases hq:p+1≠0/\x+1=(t p).fi
   ·grind
   ·rw[if_neg hq]at h ⊢;rw[if_neg (hne ((T.link x hl).prev h).1)];have:=W x hl h;omega
 ·by_cases e:x=k
  ·subst e;by_cases hq:p+1=0
   all_goals simp_all[A02,Al.lv]
  grind
 ·rw[A0c hkf];exact K.nodup
 ·rw[A0c hkf,K.iff,hor]
 ·obtain⟨a,b⟩:=K.top f hf h1;have ho:=K.or hf (A90 (N:=N) (t:=t) a);refine⟨a,?_⟩;rw[Aye (hne ho.1)];simp only;rw[if_neg]
  ·exact b
  ·rintro⟨g1,g2⟩
   have hpl:=(hp0 g1).lv;obtain⟨_,_,c3,c4⟩:=(T.link p hpl).first (by omega);rw[<-g2,Int.add_sub_cancel]at c3 c4;exact ho.2.2 (by simp_all[Cu])
 ·have hk2: ∀e∈qs,kf N (ins t k p) e.2=kf N t e.2:=fun e he=>hkf _ (Gh.2 ⟨e,he,rfl⟩);refine Bcg qs [] [] hk2 (fun e he y hy=> ?_) (fun e he h1 x hx hu=> ?_) (fun x hx=>by cases hx) F.ord
  ·have hS: ∀x∈kf N t e.2,Oo N t x:=fun x hx=>K.or (Gh.2 ⟨e,he,rfl⟩) hx;rw[hk2 e he]at hy
   have hy2:Dd N t (kf N t e.2) y:=by
    induction hy with
    |base h=>exact .base h
    | @step y a b c ih=>
     by_cases q:y=k
     ·subst q;by_cases hq:p+1=0
      all_goals simp_all[A02,Al.noDd]
     ·have hl:=((L y).1 a).resolve_left q;rw[hup y q]at ih;exact .step hl ((C y q (hno y hl)).1 b) ih
   refine⟨hy2,fun x hx hu hc=> .inr ?_⟩;by_cases q:x=k
   ·subst q;by_cases hq:p+1=0
    ·rw[A02]at hu;simp only at hu;have:=Dd.in (fun x hx=>Bkr hx) hy2;omega
    grind
   grind
  ·by_cases q:x=k
   ·subst q;rw[A02]at hu;simp only at hu;have:=(hp0 (by omega)).lv.2;have h3:=(F.slot e he h1).1
    grind
   grind
 ·by_cases e:x=k
  ·subst e;rw[A02]at h ⊢;simp only at h ⊢;rw[Int.add_sub_cancel,Aye (hne (hp0 h).lv)];exact .inl (hp0 h).lv.2
  ·have hl:=((L x).1 hx).resolve_left e
   grind [Aye,Aig.gone]
 ·by_cases e:x=k
  ·subst e;rw[A02]at h ⊢;simp only at h ⊢;by_cases hq:p+1=0
   ·grind
   ·rw[if_neg hq,Int.add_sub_cancel,Aye (hne (hp0 hq).lv)]
    grind
  ·have hl:=((L x).1 hx).resolve_left e;rw[hup x e]at h ⊢;have hu:=hno x hl;have h2:=((L _).1 h).resolve_left (by omega)
   grind [Aye,Aig.ep]
 ·have:=F.slot e he h1;have q:e.1 - 1≠k:=fun q=>by grind
  grind [Aye]
end
theorem sb1{x:Int}(h0: -1000000000<=x)(h1:x<=1000000000):Ap x 1=x - 1:=by unfold Ap Asu;rw[Ht (by omega) (by omega)]
theorem ad1{x:Int}(h0: -1000000000<=x)(h1:x<=1000000000):A1 x 1=x+1:=by unfold A1 Lc;rw[Ht (by omega) (by omega)]
def A75 (n:Az):Lk:=⟨n.G4==1,n.G4==2,n.Nb,n.fUp,n.G5,n.Bz,n.G6,n.G7⟩
def AtT (l:List Az)(t:Int->Lk):Prop:= ∀k,0<=k/\k<(l.length:Int)->t k=A75 (gt l k)
structure Rg (l:List Az):Prop where
 len:l.length<=8
 rg: ∀k,0<=k/\k<(l.length:Int)->(0<=(gt l k).fUp/\(gt l k).fUp<=l.length)/\(0<=(gt l k).Bz/\(gt l k).Bz<=l.length)/\(0<=(gt l k).G6/\(gt l k).G6<=l.length)/\(0<=(gt l k).G7/\(gt l k).G7<=l.length)
theorem A0d{l:List Az}{t:Int->Lk}(A:AtT l t){k:Int}:Lv l.length t k ↔ (0<=k/\k<(l.length:Int))/\(gt l k).G4=1:=by
 unfold Lv;constructor
 ·rintro⟨a,b⟩;rw[A _ a]at b;grind [A75]
 ·rintro⟨a,b⟩;rw[A _ a];grind [A75]
theorem Brk{l:List Az}{t:Int->Lk}(A:AtT l t)(R:Rg l): ∀(n:Nat) (k:Int),A3o l n k=kids l.length t n k:=by
 intro n;induction n with
 |zero=>intro k;rfl
 |succ n ih=>
  intro k;rw[A3o,kids];split
  ·rename_i h;have:=(R.rg k h).2.2.1;have:=R.len;rw[A _ h,sb1 (by omega) (by omega),ih];rfl
  ·rfl
theorem A91{l:List Az}{t:Int->Lk}(A:AtT l t)(R:Rg l): ∀(n:Nat) (k:Int),Akg l n k=rise l.length t n k:=by
 intro n;induction n with
 |zero=>intro k;rfl
 |succ n ih=>
  intro k;rw[Akg,rise];split
  ·rename_i h;have:=(R.rg k h).1;have:=R.len;rw[A _ h,sb1 (by omega) (by omega),ih];rfl
  ·rfl
theorem Bfj{l:List Az}{t:Int->Lk}(A:AtT l t)(R:Rg l){f:Int}(h0:0<=f)(h1:f<=1000):Ald l f=kf l.length t f:=by
 grind [Ald,kf,sb1,Brk,Int.toNat_natCast]
theorem A7a{l:List Az}{n:Int}(h0:0<=n)(h1:n<=1000):plB l n=true ↔ 0<=n - 1/\n - 1<(l.length:Int):=by
 unfold plB;rw[sb1 (by omega) (by omega),decide_eq_true_iff]
theorem A92{l:List Az}{t:Int->Lk}(A:AtT l t)(R:Rg l){k:Int}(h:0<=k/\k<(l.length:Int)):A56 l k=true ↔ Cu l.length t k:=by
 have h1:=(R.rg k h).1;have h2:=R.len;unfold A56 Cu;rw[Z4,Z4,A7a h1.1 (by omega),beq_iff_eq,beq_iff_eq,sb1 (by omega) (by omega),A _ h];show _ ↔ Lv _ _ ((gt l k).fUp - 1)/\(t ((gt l k).fUp - 1)).ep=(gt l k).G5;rw[A0d A];constructor
 ·rintro⟨a,b,c⟩;rw[A _ a];exact⟨⟨a,b⟩,c⟩
 ·rintro⟨⟨a,b⟩,c⟩;rw[A _ a]at c;exact⟨a,b,c⟩
theorem Bg8{l:List Az}{t:Int->Lk}(A:AtT l t)(R:Rg l){k:Int}(h:0<=k/\k<(l.length:Int)):A3p l k=true ↔ Oo l.length t k:=by
 unfold A3p Oo;rw[Z4,Z4,beq_iff_eq,bne_iff_ne,Z44,A0d A,<-A92 A R h,A _ h,Bool.not_eq_true];exact⟨fun⟨a,b,c⟩=>⟨⟨h,a⟩,b,c⟩,fun⟨⟨_,a⟩,b,c⟩=>⟨a,b,c⟩⟩
theorem Bcl{l:List Az}{t:Int->Lk}(A:AtT l t){n:Int}(h0:0<=n)(h1:n<=1000):Awz l n=true ↔ (n≠0->Lv l.length t (n - 1)):=by
 unfold Awz;rw[Bool.or_eq_true,beq_iff_eq,Z4,A7a h0 h1,beq_iff_eq,A0d A,sb1 (by omega) (by omega)];omega
theorem Bi3{a:Int}{b:Bool}{P:Prop}(h:b=true ↔ P):(a==0||b)=true ↔ (a≠0->P):=by
 grind
theorem Bd5{l:List Az}{t:Int->Lk}(A:AtT l t)(R:Rg l){k:Int}(h:0<=k/\k<(l.length:Int)):A6l l k=true ↔ A8y l.length t k:=by
 obtain⟨r1,r2,r3,r4⟩:=R.rg k h;have h2:=R.len;have eg: ∀n,Lv l.length t n->t n=A75 (gt l n):=fun n hn=>A _ hn.1
 have ek:=A _ h;unfold A6l A8k Bmf Bgr Bdl Bba;rw[ad1 (by omega) (by omega),sb1 (x:=(gt l k).Bz) (by omega) (by omega),sb1 (x:=(gt l k).G6) (by omega) (by omega),sb1 (x:=(gt l k).G7) (by omega) (by omega),sb1 (x:=(gt l k).fUp) (by omega) (by omega)];simp only[Z4,Bcl A r2.1 (by omega:(gt l k).Bz<=1000),Bcl A r3.1 (by omega:(gt l k).G6<=1000),Bcl A r4.1 (by omega:(gt l k).G7<=1000),Bi3 (A7a r1.1 (by omega:(gt l k).fUp<=1000)),Bi3 Bool.and_eq_true_iff,Bi3 beq_iff_eq,beq_iff_eq];constructor
 ·rintro⟨⟨a1,a2,a3,a4⟩,a5,a6,a7,a8⟩;refine⟨?_,?_,?_,?_,?_⟩
  ·simp_all[A75]
  ·simp_all[A75]
  ·simp_all[A75]
  ·rw[ek];exact a4
  ·rw[ek];intro q c;have hc:=(A92 A R h).2 c;have hu:=c.1;rw[ek]at hu;have hu:Lv l.length t ((gt l k).fUp - 1):=hu;rw[show(A75 (gt l k)).up=(gt l k).fUp from rfl,eg _ hu];rw[show(A75 (gt l k)).pv=(gt l k).G7 from rfl]at q;rw[q,hc]at a8;show(gt l ((gt l k).fUp - 1)).Bz=k+1
   grind
 ·intro L;obtain⟨a1,a2,a3,a4,a5⟩:=L;rw[ek]at a1 a2 a3 a4 a5;refine⟨⟨fun q=>(a1 q).1,fun q=>(a2 q).1,fun q=>(a3 q).1,a4⟩,fun q=> ?_,fun q=> ?_,fun q=> ?_,?_⟩
  ·obtain⟨b1,b2,b3,b4⟩:=a1 q;rw[eg _ b1]at b2 b3 b4;exact⟨b2,b3,b4⟩
  ·obtain⟨b1,b2,b3,b4⟩:=a2 q;rw[eg _ b1]at b2 b3 b4;exact⟨b2,b3,b4⟩
  ·obtain⟨b1,b2⟩:=a3 q;rw[eg _ b1]at b2;exact b2
  ·by_cases q:(gt l k).G7=0
   ·cases hc:A56 l k with
    |false=>simp
    |true=>
     have c:=(A92 A R h).1 hc;have hu:=c.1;rw[ek]at hu;have:=a5 q c;rw[eg _ hu]at this;simp only[Bool.or_eq_true,beq_iff_eq];exact .inr this
   grind
theorem Brl{r:List Int}(h:r≠[]):r.getLast? =some (Bat r):=by
 unfold Bat;rw[V2 (by have:=List.length_pos_iff.2 h;omega),List.getLast?_eq_getElem?]
 grind
theorem Brm{l:List Az}{t:Int->Lk}(A:AtT l t)(R:Rg l)(hb: ∀k,0<=k/\k<(l.length:Int)->(gt l k).G4≠1->(gt l k).fUp=0/\(gt l k).Bz=0/\(gt l k).G6=0/\(gt l k).G7=0):Bb6 l=true ↔ Ay3 l.length t:=by
 have key: ∀k,0<=k/\k<(l.length:Int)->(A6t l k=true ↔ (rise l.length t (l.length:Int).toNat k).length<=4/\ ∀x,(rise l.length t (l.length:Int).toNat k).getLast? =some x-> ¬Cu l.length t x):=by
  intro k h;unfold A6t;have hne:Akg l l.length k≠[]:=fun e=>by have:=Bb7 h;grind
  have hin:=Bey h;rw[Int.toNat_natCast,<-A91 A R,Z4,decide_eq_true_iff,Z44,Brl hne];constructor
  ·grind [A92]
  ·rintro⟨a,b⟩;refine⟨by omega,?_⟩
   have:=b _ rfl
   grind [A92]
 unfold Bb6;rw[Z1];constructor
 ·intro h;have h2: ∀k,Lv l.length t k->A6l l k=true/\A6t l k=true:=by
   intro k hk;obtain⟨a,b⟩:=(A0d A).1 hk;have:=h k.toNat (by grind)
   grind
  exact⟨fun k hk=>(Bd5 A R hk.1).1 (h2 k hk).1,fun k hk=>(key k hk.1).1 (h2 k hk).2,fun k h0 h1 hl=>by
   rw[A _ ⟨h0,h1⟩]at hl ⊢
   grind [A75]⟩
 ·intro T k hk;rw[List.mem_range]at hk;by_cases e:(gt l (k:Int)).G4=1
  ·have hl:=(A0d A).2 ⟨⟨by omega,by omega⟩,e⟩;rw[(Bd5 A R hl.1).2 (T.link _ hl),(key _ hl.1).2 (T.rise _ hl)];simp
  grind
def Ar1 (st gen:Int):Az:=Az.mk st gen 0 0 0 0 0 0 [] 0 0 [] []
structure Avt (c:Fi)(n:Az):Prop where
 conf:Akj c=true
 st:n.G4=1
 gen:1<=n.C7/\n.C7<=c.Dv
 up:0<=n.fUp/\n.fUp<=c.Cd
 first:0<=n.Bz/\n.Bz<=c.Cd
 next:0<=n.G6/\n.G6<=c.Cd
 prev:0<=n.G7/\n.G7<=c.Cd
 ep:0<=n.Nb
 ue:0<=n.G5
 dist:Ay0 c n.Ad=true
 cur:A9o c n=true
 nth:n.D5.length<=12
 ntag:n.Dh.length<=6
 tags:n.Dh.all (fun x=>inB x 0 255)=true
 things:n.D5.all (At7 c)=true
theorem Akp{c:Fi}{n:Az}:Avg c n=true/\n.G4=1 ↔ Avt c n:=by
 unfold Avg Bbz;constructor
 ·rintro⟨h,h1⟩;rw[h1]at h;simp only[Z4,Wy,bne_self_eq_false,cond_false,Z44,decide_eq_false_iff_not,decide_eq_true_eq]at h;obtain⟨a,_,b,⟨c1,c2,c3,c4⟩,⟨d1,d2⟩,⟨e1,e2⟩,⟨f1,f2⟩,g1,g2⟩:=h;exact⟨a,h1,b,c1,c2,c3,c4,by omega,by omega,e1,e2,by omega,by omega,g1,g2⟩
 ·intro h;refine⟨?_,h.st⟩;rw[h.st];simp only[Z4,Wy,bne_self_eq_false,cond_false,Z44,decide_eq_false_iff_not,decide_eq_true_eq];exact⟨h.conf,by omega,h.gen,⟨h.up,h.first,h.next,h.prev⟩,⟨by have:=h.ep;omega,by have:=h.ue;omega⟩,⟨h.dist,h.cur⟩,⟨by have:=h.nth;omega,by have:=h.ntag;omega⟩,h.tags,h.things⟩
theorem A2d{c:Fi}{n:Az}(h:Avg c n=true)(h1:n.G4≠1):n=Ar1 n.G4 n.C7:=by
 have:=Bd0 h h1;unfold A9n at this;simp only[Z4,beq_iff_eq]at this;obtain⟨a1,a2,a3,a4,a5,a6,a7,a8,a9,a10,a11⟩:=this;cases n;simp_all[Ar1]
theorem A8o{c:Fi}(hc:Akj c=true){st gen:Int}(h0:0<=st/\st<=3)(h1:st≠1)(h2:1<=gen/\gen<=c.Dv):Avg c (Ar1 st gen)=true:=by
 unfold Avg;rw[hc];show(true&&(inB st 0 3&&(inB gen 1 c.Dv&&(bif st != 1 then A9n (Ar1 st gen)else _))))=true;rw[A3h h1,Wy.2 h0,Wy.2 h2];rfl
theorem A4f{c:Fi}{n:Az}(h:Avg c n=true):Akj c=true/\(0<=n.G4/\n.G4<=3)/\1<=n.C7/\n.C7<=c.Dv:=by
 simp_all[Avg,Wy]
theorem A7b{c:Fi}{n:Az}(h:Avg c n=true):(0<=n.fUp/\n.fUp<=c.Cd)/\(0<=n.Bz/\n.Bz<=c.Cd)/\(0<=n.G6/\n.G6<=c.Cd)/\(0<=n.G7/\n.G7<=c.Cd):=by
 by_cases e:n.G4=1
 ·have:=Akp.1 ⟨h,e⟩;exact⟨this.up,this.first,this.next,this.prev⟩
 ·rw[A2d h e];obtain⟨_,_,b,_⟩:=Bd (A4f h).1;exact⟨⟨Int.le_refl _,by grind [Ar1]⟩,⟨Int.le_refl _,by grind [Ar1]⟩,⟨Int.le_refl _,by grind [Ar1]⟩,⟨Int.le_refl _,by grind [Ar1]⟩⟩
theorem A76{c:Fi}{n:Az}(h:Avg c n=true):Ay0 c n.Ad=true:=by
 by_cases e:n.G4=1
 ·exact(Akp.1 ⟨h,e⟩).dist
 ·rw[A2d h e];rfl
def A2h (q:List Bb):List (Int×Int):=q.map (fun x=>(x.Be,x.Bz))
structure Inv (w:Bo):Prop where
 pool:Aw7 w.fC w.fP=true
 len:(w.fL.length:Int)=w.fC.Cd
 node: ∀k,0<=k/\k<(w.fL.length:Int)->Avg w.fC (gt w.fL k)=true
 own: ∀k,0<=k/\k<(w.fL.length:Int)-> ∀c,c∈(gt w.fL k).Ad ↔ (0<=c/\c<w.fC.Ad)/\gt w.fP.G4 c=1/\gt w.fP.Fq c=k
 thing: ∀k,0<=k/\k<(w.fL.length:Int)->(gt w.fL k).D5.all (Awb w.fC (gt w.fL k).Ad)=true/\At0 (gt w.fL k).D5=true/\Awd w.fC w.fP.Fp (gt w.fL k)=true
 forest: ∃t,AtT w.fL t/\Aig w.fL.length t (A2h w.fQ)
 wrec: ∀x∈w.fQ,Ao1 w.fC x=true/\Ar0 w x=true
 chn:(chL w.fQ).Nodup
 chi: ∀c,c∈chL w.fQ ↔ (0<=c/\c<w.fC.Ad)/\gt w.fP.G4 c=2
 sln:(slL w.fQ).Nodup
 sli: ∀s,s∈slL w.fQ ↔ (0<=s/\s<(w.fL.length:Int))/\(gt w.fL s).G4=2
 log:w.Jp.all (fun x=>inB x 0 255)=true
theorem Inv.conf{w:Bo}(I:Inv w):Akj w.fC=true:=(Au4 I.pool).1
theorem Inv.rg{w:Bo}(I:Inv w):Rg w.fL:=by
 obtain⟨_,_,b,_⟩:=Bd I.conf;have:=I.len;refine⟨by omega,fun k hk=> ?_⟩;rw[I.len];exact A7b (I.node k hk)
theorem Inv.live{w:Bo}(I:Inv w){t:Int->Lk}(A:AtT w.fL t){k:Int}(h:Lv w.fL.length t k):Avt w.fC (gt w.fL k):=Akp.1 ⟨I.node k ((A0d A).1 h).1,((A0d A).1 h).2⟩
theorem Bfk{N:Nat}{l:List Int}(hn:l.Nodup){k:Nat}(hk:k<N)(h:(k:Int)∈l):(gt (Apb N l) (k:Int)==1)=true:=by
 simp_all[A57,List.Nodup.count]
theorem Inv.chunks{w:Bo}(I:Inv w){k:Int}(hk:0<=k/\k<(w.fL.length:Int)):A5b w.fP k (gt w.fL k).Ad=true:=by
 obtain⟨_,_,hst,hown,_⟩:=Au4 I.pool;have hd:=A2g (A76 (I.node k hk));have hs:=(A6j w.fP k).imp (fun {a b} (h:a<b)=>Int.ne_of_lt h);have hm: ∀x,x∈Avd w.fP k ↔ x∈(gt w.fL k).Ad:=by
  intro x;rw[I.own k hk x];unfold Avd;rw[Ay2]
  grind
 unfold A5b;rw[Z4,Z1,beq_iff_eq];refine⟨fun x hx=>List.contains_iff_mem.2 ((hm x).1 hx),?_⟩;have h1:=A0a (o:=Avd w.fP k) (l:=(gt w.fL k).Ad) hs (fun x hx=>(hm x).1 hx);have h2:=A0a (o:=(gt w.fL k).Ad) (l:=Avd w.fP k) hd (fun x hx=>(hm x).2 hx);omega
theorem Bfl{q:List Bb}{x:Bb}(hx:x∈q){c:Int}(h:c∈x.Ad):c∈chL q:=List.mem_flatMap.2 ⟨x,hx,h⟩
theorem Bku{q:List Bb}{x:Bb}(hx:x∈q)(h:x.Be≠0):Ap x.Be 1∈slL q:=List.mem_flatMap.2 ⟨x,hx,by grind⟩
theorem Inv.first{w:Bo}(I:Inv w){x:Bb}(hx:x∈w.fQ):0<=x.Bz/\x.Bz<=8:=by
 obtain⟨_,_,b,_⟩:=Bd I.conf;have:=(Avl (I.wrec x hx).1).2.2.1;omega
theorem Inv.qs{w:Bo}{x:Bb}(hx:x∈w.fQ):x.Bz∈(A2h w.fQ).map (fun e:Int×Int=>e.2):=by
 unfold A2h
 grind
theorem Inv.waste{w:Bo}(I:Inv w){x:Bb}(hx:x∈w.fQ):Apc w x=true:=by
 obtain⟨b1,_,b,_⟩:=Bd I.conf;obtain⟨h1,h2⟩:=I.wrec x hx;obtain⟨_,r1,r2,r3,_⟩:=Avl h1;have hf:=I.first hx;obtain⟨t,A,F⟩:=I.forest;unfold Apc;simp only[Z4];refine⟨h1,?_,h2,?_,?_,?_⟩
 ·unfold A65;rw[Z1];intro c hc;rw[beq_iff_eq];exact((I.chi c).1 (Bfl hx hc)).2
 ·unfold A1g;by_cases e:x.Be=0
  ·grind
  ·rw[((I.sli _).1 (Bku hx e)).2];simp
 ·unfold A3j;by_cases e:x.Bz=0
  ·grind
  ·obtain⟨a,b⟩:=F.kid.top _ (Inv.qs hx) e;rw[sb1 (by omega) (by omega)];rw[A _ a]at b;have b:(gt w.fL (x.Bz - 1)).G7=0:=b
   grind
 ·unfold Axd;rw[Z1];intro k hk;have hin:=A9t _ _ k hk;rw[Bfj A I.rg hf.1 (by omega)]at hk;exact(Bg8 A I.rg hin).2 (F.kid.or (Inv.qs hx) hk)
theorem Bkv{w:Bo}(I:Inv w){t:Int->Lk}(A:AtT w.fL t):kdL w.fL w.fQ=((A2h w.fQ).map (fun e:Int×Int=>e.2)).flatMap (kf w.fL.length t):=by
 unfold kdL A2h;rw[Ej,List.flatMap_map];exact A0c fun x hx=>by
  have hf:=I.first hx;exact Bfj A I.rg hf.1 (by omega)
theorem Inv.fin{w:Bo}(I:Inv w):A2c w w.fC.Ad.toNat=true:=by
 obtain⟨_,_,hst,hown,_⟩:=Au4 I.pool;obtain⟨t,A,F⟩:=I.forest;unfold A2c;rw[Z4,Z1,Z1];refine⟨fun k hk=> ?_,fun k hk=> ?_⟩
 ·rw[List.mem_range]at hk;cases e:(gt w.fP.G4 (k:Int)==2)with
  |false=>rfl
  |true=>exact Bfk I.chn (by omega) ((I.chi _).2 ⟨⟨by omega,by omega⟩,by grind⟩)
 ·rw[List.mem_range]at hk;rw[Z4];constructor
  ·cases e:((gt w.fL (k:Int)).G4==2)with
   |false=>rfl
   |true=>simp_all[Bfk,sln,sli]
  ·cases e:A3p w.fL (k:Int)with
   |false=>rfl
   |true=>
    refine Bfk (by rw[Bkv I A];exact F.kid.nodup) hk ?_;rw[Bkv I A,F.kid.iff];exact(Bg8 A I.rg ⟨by omega,by omega⟩).1 e
theorem Inv.ok{w:Bo}(I:Inv w):A4o w=true:=by
 obtain⟨t,A,F⟩:=I.forest;unfold A4o;simp only[Z4,beq_iff_eq];refine⟨I.pool,I.len,?_,?_,⟨?_,I.fin⟩,I.log⟩
 ·rw[Z1];intro k hk;rw[List.mem_range]at hk;have hk2:0<=(k:Int)/\(k:Int)<(w.fL.length:Int):=⟨by omega,by omega⟩
  grind [thing,A9r,node,chunks]
 ·refine(Brm A I.rg fun k hk h=> ?_).2 F.tree;rw[A2d (I.node k hk) h];exact⟨rfl,rfl,rfl,rfl⟩
 grind [waste]
def lnk (n:Az)(fi nx pv:Int):Az:=Az.mk n.G4 n.C7 n.Nb n.fUp n.G5 fi nx pv n.Ad n.No n.G8 n.D5 n.Dh
theorem Auu{l:List Az}{j x:Int}(hj:0<=j/\j<(l.length:Int))(hx:0<=x/\x<(l.length:Int))(v:Az):gt (l.set j.toNat v) x=if x=j then v else gt l x:=by
 by_cases e:x=j
 all_goals simp_all[A5d,A59,Ne.symm]
theorem Bg9{l:List Az}{n:Int}(h0:0<=n)(h1:n<=l.length)(h2:l.length<=8):plB l n= !(n==0):=by
 have:=A7a (l:=l) h0 (by omega:n<=1000)
 grind
theorem Bbo{l:List Az}(R:Rg l){k x:Int}(hk:0<=k/\k<(l.length:Int))(hx:0<=x/\x<(l.length:Int)):
  gt (A9y l k) x=lnk (gt l x) (if(gt l k).G7=0/\x+1=(gt l k).fUp/\(gt l x).Bz=k+1 then(gt l k).G6 else(gt l x).Bz) (if x+1=(gt l k).G7 then(gt l k).G6 else(gt l x).G6) (gt l x).G7:=by
 obtain⟨r1,r2,r3,r4⟩:=R.rg k hk;have hl:=R.len;unfold A9y;rw[Bg9 r4.1 r4.2 hl,Bg9 r1.1 r1.2 hl,sb1 (x:=(gt l k).G7) (by omega) (by omega),sb1 (x:=(gt l k).fUp) (by omega) (by omega),ad1 (by omega) (by omega)];by_cases h:(gt l k).G7=0
 ·rw[h];simp only[beq_self_eq_true,Bool.not_true,cond_false,Z30];rw[if_neg (by omega: ¬x+1=0)];by_cases h2:(gt l k).fUp=0
  ·rw[h2,if_neg (by omega)];rfl
  ·rw[Aul h2];simp only[Bool.not_false,Z30];by_cases h3:(gt l ((gt l k).fUp - 1)).Bz=k+1
   ·rw[h3,beq_self_eq_true,cond_true,Auu (by omega) hx];by_cases e:x=(gt l k).fUp - 1
    ·rw[if_pos e,e,h3,if_pos ⟨trivial,by omega,rfl⟩];rfl
    ·rw[if_neg e,if_neg (by omega)];rfl
   ·rw[Aul h3,cond_false,if_neg]
    ·rfl
    grind
 ·rw[Aul h];simp only[Bool.not_false,cond_true];rw[Auu (by omega) hx,if_neg (fun q:(gt l k).G7=0/\x+1=(gt l k).fUp/\(gt l x).Bz=k+1=>h q.1)];by_cases e:x=(gt l k).G7 - 1
  ·have e2:x+1=(gt l k).G7:=by omega
   rw[if_pos e,if_pos e2,<-e];rfl
  ·have e2: ¬x+1=(gt l k).G7:=by omega
   rw[if_neg e,if_neg e2];rfl
theorem A7c{l:List Az}(R:Rg l){k x:Int}(hk:0<=k/\k<(l.length:Int))(hx:0<=x/\x<(l.length:Int))(hne:x≠k):
  gt (Auq l k) x=lnk (gt l x) (if(gt l k).G7=0/\x+1=(gt l k).fUp/\(gt l x).Bz=k+1 then(gt l k).G6 else(gt l x).Bz) (if x+1=(gt l k).G7 then(gt l k).G6 else(gt l x).G6) (if x+1=(gt l k).G6 then(gt l k).G7 else(gt l x).G7):=by
 obtain⟨r1,r2,r3,r4⟩:=R.rg k hk;have hl:=R.len;have hl0:=A6v l k;unfold Auq A9a;rw[Auu (by grind [A72]) (by grind [A72]),if_neg hne];unfold Bah;rw[Bg9 r3.1 r3.2 hl,sb1 (by omega) (by omega)];by_cases h:(gt l k).G6=0
 ·rw[h];simp only[beq_self_eq_true,Bool.not_true,cond_false];rw[Bbo R hk hx,h,if_neg (by omega: ¬x+1=0)]
 ·rw[Aul h];simp only[Bool.not_false,cond_true];rw[Auu (by omega) (by omega)];by_cases e:x=(gt l k).G6 - 1
  ·have e2:x+1=(gt l k).G6:=by omega
   rw[if_pos e,if_pos e2,<-e,Bbo R hk hx];rfl
  ·have e2: ¬x+1=(gt l k).G6:=by omega
   simp_all[Bbo]
theorem A5e (l:List Az)(k:Int):(Auq l k).length=l.length:=by grind [Auq,A9a,A72,A6v]
theorem Bcm{c:Fi}{n:Az}(X:Avt c n){fi nx pv:Int}(h1:0<=fi/\fi<=c.Cd)(h2:0<=nx/\nx<=c.Cd)(h3:0<=pv/\pv<=c.Cd):Avt c (lnk n fi nx pv):=
 ⟨X.conf,X.st,X.gen,X.up,h1,h2,h3,X.ep,X.ue,X.dist,X.cur,X.nth,X.ntag,X.tags,X.things⟩
theorem B0s{l:List Az}{t:Int->Lk}(A:AtT l t)(R:Rg l){k:Int}(hk:0<=k/\k<(l.length:Int))(g:Int):AtT ((Auq l k).set k.toNat (Ar1 2 g)) (rem t k):=by
 intro x hx;rw[Z49,A5e]at hx;rw[Auu (by grind [A5e]) (by grind [A5e])];by_cases e:x=k
 ·subst e;rw[A9z,if_pos rfl];rfl
 ·rw[Amn e,if_neg e,A7c R hk hx e,A x hx,A k hk];rfl
theorem A6x{l:List Int}{j x:Int}(hj:0<=j)(hx:0<=x/\x<(l.length:Int))(v:Int):gt (l.set j.toNat v) x=if x=j then v else gt l x:=by
 have h1:x.toNat<(l.set j.toNat v).length:=by grind
 have h2:x.toNat<l.length:=by omega
 have e1:gt (l.set j.toNat v) ((x.toNat:Nat):Int)=if x=j then v else gt l ((x.toNat:Nat):Int):=by
  rw[V2 h1,V2 h2,List.getElem_set];omega
 grind
structure A6d (c:Fi)(p:Ef):Prop where
 conf:Akj c=true
 mem:(p.Fp.length:Int)=c.Ad*c.Du
 st:(p.G4.length:Int)=c.Ad
 own:(p.Fq.length:Int)=c.Ad
 one: ∀k,0<=k/\k<c.Ad->(0<=gt p.G4 k/\gt p.G4 k<=2)/\(gt p.G4 k=1->0<=gt p.Fq k/\gt p.Fq k<c.Cd)/\(gt p.G4 k≠1->gt p.Fq k= -1)/\(gt p.G4 k=0->Arz (Aw4 c p.Fp k)=true)
theorem Bkw{c:Fi}{p:Ef}{k:Nat}:A55 c p k=true ↔ (0<=gt p.G4 (k:Int)/\gt p.G4 (k:Int)<=2)/\(gt p.G4 (k:Int)=1->0<=gt p.Fq (k:Int)/\gt p.Fq (k:Int)<c.Cd)/\(gt p.G4 (k:Int)≠1->gt p.Fq (k:Int)= -1)/\(gt p.G4 (k:Int)=0->Arz (Aw4 c p.Fp k)=true):=by
 unfold A55;rw[Z4,Z4,Wy];refine and_congr Iff.rfl ?_;by_cases e:gt p.G4 (k:Int)=1
 ·rw[e];simp only[beq_self_eq_true,cond_true,Wy]
  grind
 grind
theorem Ahr{c:Fi}{p:Ef}:Aw7 c p=true ↔ A6d c p:=by
 constructor
 ·intro h;obtain⟨h1,h2,h3,h4,h5⟩:=Au4 h;refine⟨h1,h2,h3,h4,fun k hk=> ?_⟩;have:=Bkw.1 (h5 k.toNat (by omega))
  grind
 ·intro h;obtain⟨b1,_⟩:=Bd h.conf;unfold Aw7;simp only[Z4,beq_iff_eq,Z1,List.mem_range];refine⟨h.conf,by grind [A6d.mem,Ao0,A6d.conf],h.st,h.own,fun k hk=> ?_⟩;exact Bkw.2 (h.one k (by omega))
theorem Bmt (cs:List Int): ∀(p:Ef),p.Fq.length=p.G4.length->(Ah1 p cs).Fp=p.Fp/\(Ah1 p cs).G4.length=p.G4.length/\(Ah1 p cs).Fq.length=p.Fq.length/\ ∀c,0<=c/\c<(p.G4.length:Int)->
  gt (Ah1 p cs).G4 c=(if c∈cs/\gt p.G4 c=1 then 2 else gt p.G4 c)/\gt (Ah1 p cs).Fq c=(if c∈cs/\gt p.G4 c=1 then -1 else gt p.Fq c):=by
 induction cs with
 |nil=>simp_all[Ah1]
 |cons k cs ih=>
  intro p hl;have h1:(A5y p k).Fp=p.Fp/\(A5y p k).G4.length=p.G4.length/\(A5y p k).Fq.length=p.Fq.length:=by
   grind [A5y]
  obtain⟨a,b,c,d⟩:=ih (A5y p k) (by omega);refine⟨a.trans h1.1,b.trans h1.2.1,c.trans h1.2.2,fun x hx=> ?_⟩;obtain⟨d1,d2⟩:=d x (by omega);have e1:gt (A5y p k).G4 x=if x=k/\gt p.G4 x=1 then 2 else gt p.G4 x:=by
   unfold A5y;by_cases q:(0<=k/\k<(p.G4.length:Int)/\k<(p.Fq.length:Int))/\gt p.G4 k=1
   ·rw[if_pos q];simp only;rw[A6x q.1.1 hx]
    grind
   grind
  have e2:gt (A5y p k).Fq x=if x=k/\gt p.G4 x=1 then -1 else gt p.Fq x:=by
   unfold A5y;by_cases q:(0<=k/\k<(p.G4.length:Int)/\k<(p.Fq.length:Int))/\gt p.G4 k=1
   ·rw[if_pos q];simp only;rw[A6x q.1.1 (by omega)]
    grind
   grind
  show gt (Ah1 (A5y p k) cs).G4 x=_/\gt (Ah1 (A5y p k) cs).Fq x=_;rw[d1,d2,e1,e2];by_cases q:gt p.G4 x=1
  ·by_cases e:x=k
   ·subst e;simp[q]
   ·simp[q,e]
  ·simp[q]
theorem A6e{w:Bo}(I:Inv w){k:Int}(hk:0<=k/\k<(w.fL.length:Int)):
  A6d w.fC (Ah1 w.fP (gt w.fL k).Ad)/\(Ah1 w.fP (gt w.fL k).Ad).Fp=w.fP.Fp/\
  ∀c,0<=c/\c<w.fC.Ad->gt (Ah1 w.fP (gt w.fL k).Ad).G4 c=(if c∈(gt w.fL k).Ad then 2 else gt w.fP.G4 c)/\gt (Ah1 w.fP (gt w.fL k).Ad).Fq c=(if c∈(gt w.fL k).Ad then -1 else gt w.fP.Fq c):=by
 have P:=Ahr.1 I.pool;obtain⟨a,b,c,d⟩:=Bmt (gt w.fL k).Ad w.fP (by have:=P.st;have:=P.own;omega);have key: ∀c,0<=c/\c<w.fC.Ad->gt (Ah1 w.fP (gt w.fL k).Ad).G4 c=(if c∈(gt w.fL k).Ad then 2 else gt w.fP.G4 c)/\gt (Ah1 w.fP (gt w.fL k).Ad).Fq c=(if c∈(gt w.fL k).Ad then -1 else gt w.fP.Fq c):=by
  intro x hx;obtain⟨d1,d2⟩:=d x (by rw[P.st];exact hx);rw[d1,d2];by_cases e:x∈(gt w.fL k).Ad
  ·have:=((I.own k hk x).1 e).2.1
   grind
  grind
 refine⟨⟨P.conf,by rw[a];exact P.mem,by rw[b];exact P.st,by rw[c];exact P.own,fun x hx=> ?_⟩,a,key⟩;obtain⟨k1,k2⟩:=key x hx;obtain⟨p1,p2,p3,p4⟩:=P.one x hx
 grind
theorem Bbp (q:List Bb)(x:Bb):chL (q++[x])=chL q++x.Ad:=by grind [chL]
theorem Bbq (q:List Bb)(x:Bb):slL (q++[x])=slL q++(if x.Be=0 then []else [Ap x.Be 1]):=by grind [slL]
theorem Bha (q:List Bb)(x:Bb):A2h (q++[x])=A2h q++[(x.Be,x.Bz)]:=by simp[A2h]
theorem A77{c:Fi}{n:Az}(h:Avt c n){s:Int}(hs:0<=s/\s<=c.Cd):Ao1 c (Air n s)=true:=by
 obtain⟨_,b,_⟩:=Bd h.conf;unfold Ao1 Air;simp only[Z4,Wy,decide_eq_true_eq,Bool.or_eq_true,beq_iff_eq];exact⟨h.conf,hs,h.first,by have:=h.ntag;omega,h.tags,h.dist,by omega,.inr trivial⟩
theorem Bcn (w:Bo)(n:Az)(s:Int):Ar0 w (Air n s)=true:=by
 unfold Ar0 Air Arz;simp
theorem Bfm{w:Bo}(I:Inv w){k:Int}(hk:0<=k/\k<(w.fL.length:Int)):(chL w.fQ++(gt w.fL k).Ad).Nodup:=
 Akt.2 ⟨I.chn,A2g (A76 (I.node k hk)),fun x h1 h2=>by simp_all[Inv.chi,Inv.own]⟩
theorem Bfn{w:Bo}(I:Inv w){k:Int}(hk:0<=k/\k<(w.fL.length:Int))(c:Int):c∈chL w.fQ++(gt w.fL k).Ad ↔ (0<=c/\c<w.fC.Ad)/\gt (Ah1 w.fP (gt w.fL k).Ad).G4 c=2:=by
 rw[N0,I.chi];constructor
 ·rintro(⟨a,b⟩|h)
  all_goals simp_all[A6e,Inv.own]
 ·rintro⟨a,b⟩;rw[((A6e I hk).2.2 c a).1]at b
  grind
theorem Bmu{w:Bo}(I:Inv w){t:Int->Lk}(A:AtT w.fL t)(F:Aig w.fL.length t (A2h w.fQ)){k:Int}(h:Al w.fL.length t k):Inv (A3m w k):=by
 have hl:=h.lv;have hk:=hl.1;have P:=I.live A hl;have R:=I.rg;obtain⟨L1,L2,L3⟩:=A6e I hk;obtain⟨_,_,b3,_⟩:=Bd I.conf;have hlen:=I.len;have e1:A1 k 1=k+1:=ad1 (by omega) (by omega);have hN:(A3m w k).fL.length=w.fL.length:=by grind [A3m,A5e]
 have hg: ∀x,0<=x/\x<(w.fL.length:Int)->gt (A3m w k).fL x=if x=k then Ar1 2 (gt (Auq w.fL k) k).C7 else gt (Auq w.fL k) x:=fun x hx=>by
  unfold A3m;simp only;rw[Auu (by grind [A5e]) (by grind [A5e])];rfl
 have hgen:(gt (Auq w.fL k) k).C7=(gt w.fL k).C7:=by
  unfold Auq A9a;rw[A5d (by grind [A72,A6v])];show(gt (Bah w.fL (A9y w.fL k) k _ _) k).C7=_;unfold Bah;have h0:(gt (A9y w.fL k) k).C7=(gt w.fL k).C7:=by rw[Bbo R hk hk];rfl
  obtain⟨_,_,r3,_⟩:=R.rg k hk;have hl8:=R.len;rw[Bg9 r3.1 r3.2 hl8,sb1 (by omega) (by omega)];by_cases e:(gt w.fL k).G6=0
  ·grind
  ·rw[Aul e];simp only[Bool.not_false,cond_true];rw[Auu (by rw[A6v];omega) (by grind [A6v])];split
   ·rename_i e2;rw[<-e2];exact h0
   omega
 refine⟨Ahr.2 L1,by rw[hN];exact hlen,fun x hx=> ?_,fun x hx c=> ?_,fun x hx=> ?_,⟨rem t k,?_,?_⟩,fun x hx=> ?_,?_,fun c=> ?_,?_,fun s=> ?_,I.log⟩
 ·rw[hN]at hx;rw[hg x hx];by_cases e:x=k
  ·rw[if_pos e,hgen];exact A8o I.conf (by omega) (by omega) P.gen
  ·rw[if_neg e,A7c R hk hx e];by_cases hs:(gt w.fL x).G4=1
   ·have X:=Akp.1 ⟨I.node x hx,hs⟩;obtain⟨a1,a2,a3,a4⟩:=A7b (I.node k hk);refine(Akp.2 (Bcm X ?_ ?_ ?_)).1
    ·split
     ·exact a3
     ·exact X.first
    ·split
     ·exact a3
     ·exact X.next
    ·split
     ·exact a4
     ·exact X.prev
   ·have X:=A2d (I.node x hx) hs;have B:=(Bcf F.tree hl).bare x hx.1 hx.2 (by rw[Amn e,A x hx];grind [A75]);rw[Amn e,A x hx,A k hk]at B;obtain⟨_,B2,B3,B4⟩:=B;have q1:(if(gt w.fL k).G7=0/\x+1=(gt w.fL k).fUp/\(gt w.fL x).Bz=k+1 then(gt w.fL k).G6 else(gt w.fL x).Bz)=0:=B2;have q2:(if x+1=(gt w.fL k).G7 then(gt w.fL k).G6 else(gt w.fL x).G6)=0:=B3;have q3:(if x+1=(gt w.fL k).G6 then(gt w.fL k).G7 else(gt w.fL x).G7)=0:=B4;have this:lnk (gt w.fL x) 0 0 0=gt w.fL x:=by rw[X];rfl
    rw[q1,q2,q3];rw[this];exact I.node x hx
 ·rw[hN]at hx;rw[hg x hx];show c∈_ ↔ (0<=c/\c<w.fC.Ad)/\gt (Ah1 w.fP (gt w.fL k).Ad).G4 c=1/\gt (Ah1 w.fP (gt w.fL k).Ad).Fq c=x;by_cases e:x=k
  ·rw[if_pos e];constructor
   ·intro q;cases q
   ·rintro⟨a,b,d⟩;rw[(L3 c a).1]at b;rw[(L3 c a).2]at d;split at b
    all_goals simp_all[Inv.own]
  ·rw[if_neg e,A7c R hk hx e];show c∈(gt w.fL x).Ad ↔ _;rw[I.own x hx c];constructor
   ·rintro⟨a,b,d⟩
    have q:c ∉ (gt w.fL k).Ad:=fun q=>e (by have:=((I.own k hk c).1 q).2.2;omega)
    grind
   grind
 ·rw[hN]at hx;rw[hg x hx];by_cases e:x=k
  ·rw[if_pos e];exact⟨rfl,rfl,rfl⟩
  ·rw[if_neg e,A7c R hk hx e];obtain⟨t1,t2,t3⟩:=I.thing x hx;refine⟨t1,t2,?_⟩;show Awd w.fC (Ah1 w.fP (gt w.fL k).Ad).Fp _=true;rw[L2];exact t3
 ·exact B0s A R hk _
 ·show Aig ((A3m w k).fL.length:Int) _ (A2h (w.fQ++[_]));rw[hN,Bha,e1];have:=Bfe F h;rw[A k hk]at this;exact this
 ·have hx:x∈w.fQ++[Air (gt w.fL k) (A1 k 1)]:=hx;show Ao1 w.fC x=true/\_;rcases N0.1 hx with hx|hx
  ·obtain⟨a,b⟩:=I.wrec x hx;refine⟨a,?_⟩;unfold Ar0 at b ⊢;show(_||Arz (((Ah1 w.fP (gt w.fL k).Ad).Fp.drop (gt x.Ad 0*w.fC.Du).toNat).take x.H2.toNat))=true
   grind
  ·rw[S9.1 hx,e1]
   grind [A77,Bcn]
 ·show(chL (w.fQ++[_])).Nodup;rw[Bbp];exact Bfm I hk
 ·show c∈chL (w.fQ++[_]) ↔ _;rw[Bbp];exact Bfn I hk c
 ·show(slL (w.fQ++[Air (gt w.fL k) (A1 k 1)])).Nodup;rw[Bbq,e1];show(slL w.fQ++(if k+1=0 then []else [Ap (k+1) 1])).Nodup;rw[if_neg (by omega),sb1 (by omega) (by omega),Int.add_sub_cancel];exact Akt.2 ⟨I.sln,by simp,fun x h1 h2=>by rw[S9]at h2;subst h2;have:=((I.sli x).1 h1).2;have:=P.st;omega⟩
 ·show s∈slL (w.fQ++[Air (gt w.fL k) (A1 k 1)]) ↔ _;rw[Bbq,e1,hN];show s∈slL w.fQ++(if k+1=0 then []else [Ap (k+1) 1]) ↔ _;rw[if_neg (by omega),sb1 (by omega) (by omega),Int.add_sub_cancel,N0,S9,I.sli];constructor
  ·rintro(⟨a,b⟩|a)
   ·refine⟨a,?_⟩;have e:s≠k:=fun e=>by grind [Avt.st]
    rw[hg s a,if_neg e,A7c R hk a e];exact b
   ·rw[a,hg k hk,if_pos rfl];exact⟨hk,rfl⟩
  ·rintro⟨a,b⟩
   by_cases e:s=k
   ·omega
   ·rw[hg s a,if_neg e,A7c R hk a e]at b;exact .inl ⟨a,b⟩
theorem B0t{l:List Az}{t:Int->Lk}(A:AtT l t){k:Int}(hk:0<=k/\k<(l.length:Int))(h0:0<=(gt l k).Nb)(h1:(gt l k).Nb<=1000000000):AtT (l.set k.toNat (A0b (gt l k))) (emp t k):=by
 intro x hx;rw[Z49]at hx;rw[Auu hk hx];by_cases e:x=k
 ·subst e;rw[Bd4,if_pos rfl,A x hx]
  grind [A0b,A75,ad1]
 ·rw[Ba0 e,if_neg e,A x hx]
theorem Bmv{w:Bo}(I:Inv w){t:Int->Lk}(A:AtT w.fL t)(F:Aig w.fL.length t (A2h w.fQ)){k:Int}(h:Al w.fL.length t k)(hE:(gt w.fL k).Nb<=1000000000):Inv (A4p w k):=by
 have hl:=h.lv;have hk:=hl.1;have P:=I.live A hl;obtain⟨L1,L2,L3⟩:=A6e I hk;have hN:(A4p w k).fL.length=w.fL.length:=by grind [A4p]
 have hg: ∀x,0<=x/\x<(w.fL.length:Int)->gt (A4p w k).fL x=if x=k then A0b (gt w.fL k)else gt w.fL x:=fun x hx=>Auu hk hx _
 obtain⟨_,b2,b3,_⟩:=Bd I.conf;refine⟨Ahr.2 L1,by rw[hN];exact I.len,fun x hx=> ?_,fun x hx c=> ?_,fun x hx=> ?_,⟨emp t k,?_,?_⟩,fun x hx=> ?_,?_,fun c=> ?_,?_,fun s=> ?_,I.log⟩
 ·rw[hN]at hx;rw[hg x hx];show Avg w.fC _=true;by_cases e:x=k
  ·rw[if_pos e];exact((Akp (n:=A0b (gt w.fL k))).2 ⟨P.conf,P.st,P.gen,P.up,⟨Int.le_refl _,by show(0:Int)<=_;omega⟩,P.next,P.prev,by show 0<=A1 _ 1;rw[ad1 (by have:=P.ep;omega) hE];have:=P.ep;omega,P.ue,rfl,rfl,Z21 _,Z21 _,rfl,rfl⟩).1
  simp_all[Inv.node]
 ·rw[hN]at hx;rw[hg x hx];show c∈_ ↔ (0<=c/\c<w.fC.Ad)/\gt (Ah1 w.fP (gt w.fL k).Ad).G4 c=1/\gt (Ah1 w.fP (gt w.fL k).Ad).Fq c=x;by_cases e:x=k
  ·rw[if_pos e];constructor
   ·intro q;cases q
   ·rintro⟨a,b,d⟩;rw[(L3 c a).1]at b;rw[(L3 c a).2]at d;split at b
    all_goals simp_all[Inv.own]
  ·rw[if_neg e,I.own x hx c];constructor
   ·rintro⟨a,b,d⟩
    have q:c ∉ (gt w.fL k).Ad:=fun q=>e (by have:=((I.own k hk c).1 q).2.2;omega)
    grind
   grind
 ·rw[hN]at hx;rw[hg x hx];by_cases e:x=k
  ·rw[if_pos e];exact⟨rfl,rfl,rfl⟩
  ·rw[if_neg e];obtain⟨t1,t2,t3⟩:=I.thing x hx;refine⟨t1,t2,?_⟩;show Awd w.fC (Ah1 w.fP (gt w.fL k).Ad).Fp _=true
   grind
 ·exact B0t A hk P.ep hE
 ·show Aig ((A4p w k).fL.length:Int) _ (A2h (w.fQ++[_]));rw[hN,Bha];have:=Bff F h;rw[A k hk]at this;exact this
 ·have hx:x∈w.fQ++[Air (gt w.fL k) 0]:=hx;show Ao1 w.fC x=true/\_;rcases N0.1 hx with hx|hx
  ·obtain⟨a,b⟩:=I.wrec x hx;refine⟨a,?_⟩;unfold Ar0 at b ⊢;show(_||Arz (((Ah1 w.fP (gt w.fL k).Ad).Fp.drop (gt x.Ad 0*w.fC.Du).toNat).take x.H2.toNat))=true
   grind
  ·rw[S9.1 hx]
   grind [A77,Bcn]
 ·show(chL (w.fQ++[_])).Nodup;rw[Bbp];exact Bfm I hk
 ·show c∈chL (w.fQ++[_]) ↔ _;rw[Bbp];exact Bfn I hk c
 ·show(slL (w.fQ++[Air (gt w.fL k) 0])).Nodup;rw[Bbq];show(slL w.fQ++(if(0:Int)=0 then []else [Ap 0 1])).Nodup;simp_all[Inv.sln]
 ·show s∈slL (w.fQ++[Air (gt w.fL k) 0]) ↔ _;rw[Bbq,hN];show s∈slL w.fQ++(if(0:Int)=0 then []else [Ap 0 1]) ↔ _;rw[if_pos rfl,List.append_nil,I.sli];refine and_congr_right fun a=> ?_;rw[hg s a]
  by_cases e:s=k
  ·rw[if_pos e,e,P.st];show _ ↔ (gt w.fL k).G4=2;rw[P.st]
  grind
def wtN (c:Fi)(n:Az):Nat:=if n.G4=1 then 2+n.Dh.length+c.Du.toNat*n.Ad.length else 0
def wtQ (c:Fi)(x:Bb):Nat:=1+x.Dh.length+(c.Du.toNat*x.Ad.length - x.H2.toNat)
def pot (w:Bo):Nat:=(w.fL.map (wtN w.fC)).sum+(w.fQ.map (wtQ w.fC)).sum
def wt (w:Bo):Nat:=pot w+w.Jp.length
def lvN (n:Az):Nat:=if n.G4=1 then 1 else 0
def cnt (w:Bo):Nat:=(w.fL.map lvN).sum+w.fQ.length
structure EpP (E:Int)(n:Az):Prop where
 ep:n.Nb<=E
 ue:n.G5<=E
 cur:0<=n.No/\n.No<=1000
structure Ev (w:Bo)(E:Int)(n:Nat):Prop where
 inv:Inv w
 mem: ∀x∈w.fP.Fp,0<=x/\x<=255
 ep: ∀k,0<=k/\k<(w.fL.length:Int)->EpP E (gt w.fL k)
 wt:wt w<=n
 cn:(cnt w:Int)<=E
theorem Brn{α:Type}(f:α->Nat)(l:List α)(h: ∀x∈l,1<=f x):l.length<=(l.map f).sum:=by
 induction l with
 |nil=>simp
 |cons x l ih=>
  grind
theorem Bmx (w:Bo):w.fQ.length<=wt w:=by
 have:=Brn (wtQ w.fC) w.fQ fun x _=>by grind [wtQ]
 unfold wt pot;omega
theorem Bco (w:Bo):w.Jp.length<=wt w:=by grind [wt]
theorem Gx{x:Int}(h0: -1000000000<=x)(h1:x<=1000000000):wfi x:=⟨by omega,by omega⟩
theorem Bfo{c:Fi}{t:Bn}(h:At7 c t=true):ThingW t:=by
 have hs:=(A6p h).1;have hin:=(A6p h).2;obtain⟨_,b2,_⟩:=Bd hin.1;obtain⟨s1,s2,s3,s4⟩:=hs;refine⟨Gx (by omega) (by omega),Gx (by omega) (by omega),?_⟩;unfold At7 at h;rw[Z4]at h;by_cases e:t.Yh=0
 ·grind [Gx]
 ·have h:=h.2;rw[Aul e]at h;simp only[cond_false,Z4,beq_iff_eq]at h;rw[h.2.1];unfold Ayd;have h3:(t.Yg+c.Du - 1) / c.Du<=t.Yg+c.Du - 1:=Int.ediv_le_self _ (by omega);have h4:0<=(t.Yg+c.Du - 1) / c.Du:=Int.ediv_nonneg (by omega) (by omega);cases (inB t.Yg 0 1000000000&&inB c.Du 1 1000000000)with
  |false=>simp_all[Gx]
  |true=>exact Gx (by grind) (by grind)
theorem A0e{l:List Int}(h: ∀x∈l,-1000000000<=x/\x<=1000000000)(hl:l.length<=1000000000):A4c l:=⟨fun x hx=>Gx (h x hx).1 (h x hx).2,by omega⟩
theorem Bro{c:Fi}(h:Akj c=true):ConfW c:=by
 obtain⟨b1,b2,b3,b4,b5,b6⟩:=Bd h;exact⟨Gx (by omega) (by omega),Gx (by omega) (by omega),Gx (by omega) (by omega),Gx (by omega) (by omega),Gx (by omega) (by omega),Gx (by omega) (by omega)⟩
theorem Bcp{l:List Int}(h:l.all (fun x=>inB x 0 255)=true): ∀x∈l,0<=x/\x<=255:=fun x hx=>Wy.1 (Z1.1 h x hx)
theorem A7d{c:Fi}{n:Az}{E:Int}(h:Avg c n=true)(e:EpP E n)(hE:E<=1000000000):At6 n:=by
 obtain⟨b1,b2,b3,b4,b5,b6⟩:=Bd (A4f h).1;by_cases s:n.G4=1
 ·have X:=Akp.1 ⟨h,s⟩;have:=X.gen;have:=X.up;have:=X.first;have:=X.next;have:=X.prev;have:=X.ep;have:=X.ue;have:=X.nth;have:=X.ntag;have:=e.ep;have:=e.ue;have:=e.cur;refine⟨Gx (by omega) (by omega),Gx (by omega) (by omega),Gx (by omega) (by omega),Gx (by omega) (by omega),Gx (by omega) (by omega),Gx (by omega) (by omega),Gx (by omega) (by omega),Gx (by omega) (by omega),?_,Gx (by omega) (by omega),?_,?_,?_⟩
  ·exact A0e (fun x hx=>by have:=A2b X.dist x hx;omega) (by have:=Aw0 X.conf X.dist;omega)
  ·have:=X.cur;unfold A9o at this;by_cases q:n.No=0
   ·simp_all[Gx]
   ·rw[Aul q]at this;simp only[cond_false,Z4,Wy]at this
    grind [Gx]
  ·exact⟨fun t ht=>Bfo (Z1.1 X.things t ht),by omega⟩
  ·exact A0e (fun x hx=>by have:=Bcp X.tags x hx;omega) (by omega)
 ·have g:=A4f h;rw[A2d h s];exact⟨Gx (by show _<=n.G4;omega) (by show n.G4<=_;omega),Gx (by show _<=n.C7;omega) (by show n.C7<=_;omega),Ayc,Ayc,Ayc,Ayc,Ayc,Ayc,A0z,Ayc,Ayc,A58,A0z⟩
theorem Buw{c:Fi}{x:Bb}(h:Ao1 c x=true):A03 x:=by
 obtain⟨b1,b2,b3,b4,b5,b6⟩:=Bd (Avl h).1;obtain⟨h1,h2,h3,h4,h5⟩:=Avl h;unfold Ao1 at h;simp only[Z4,Wy,decide_eq_true_eq]at h;obtain⟨_,_,_,t1,t2,_⟩:=h;refine⟨Gx (by omega) (by omega),Gx (by omega) (by omega),?_,?_,Gx (by omega) (by omega)⟩
 ·exact A0e (fun y hy=>by have:=Bcp t2 y hy;omega) (by omega)
 ·exact A0e (fun y hy=>by have:=A2b h4 y hy;omega) (by grind [Aw0])
theorem A78{α:Type}[Inhabited α]{l:List α}{P:α->Prop}(h: ∀k,0<=k/\k<(l.length:Int)->P (gt l k)): ∀x∈l,P x:=by
 intro x hx;obtain⟨i,hi,e⟩:=List.mem_iff_getElem.1 hx;have:=h (i:Int) ⟨by omega,by omega⟩
 grind [V2]
theorem Ev.ww{w:Bo}{E:Int}{n:Nat}(G:Ev w E n)(hE:E<=1000000000)(hn:n<=1000000000):Ark w:=by
 have I:=G.inv;have P:=Ahr.1 I.pool;obtain⟨b1,b2,b3,b4,b5,b6⟩:=Bd I.conf;have h1:=Bmx w;have h2:=Bco w;have h3:=G.wt;have hm:=Azl (a:=w.fC.Ad) (b:=w.fC.Du) (m:=12) (n:=16) (by omega) b1.2 (by omega) b2.2;refine⟨Bro I.conf,⟨⟨G.mem,by have:=P.mem;omega⟩,?_,?_⟩,⟨A78 fun k hk=>A7d (I.node k hk) (G.ep k hk) hE,by have:=I.len;omega⟩,⟨fun x hx=>Buw (I.wrec x hx).1,by omega⟩,?_⟩
 ·exact A0e (A78 fun k hk=>by have:=(P.one k (by grind [A6d.st])).1;omega) (by have:=P.st;omega)
 ·refine A0e (A78 fun k hk=> ?_) (by have:=P.own;omega);obtain⟨o1,o2,o3,o4⟩:=P.one k (by grind [A6d.own]);omega
 ·exact A0e (fun x hx=>by have:=Bcp I.log x hx;omega) (by omega)
theorem Bfp{w:Bo}(I:Inv w)(p:Ef)(q:List Bb)(lg:List Int)(hp:A6d w.fC p)
  (ho: ∀c,0<=c/\c<w.fC.Ad->(gt p.G4 c=1 ↔ gt w.fP.G4 c=1)/\gt p.Fq c=gt w.fP.Fq c)
  (hl: ∀k,0<=k/\k<(w.fL.length:Int)->Awd w.fC p.Fp (gt w.fL k)=true)
  (hq:A2h q=A2h w.fQ) (hs:slL q=slL w.fQ)
  (hr: ∀x∈q,Ao1 w.fC x=true/\Ar0 (Bo.mk w.fC p w.fL q lg) x=true)
  (hn:(chL q).Nodup) (hc: ∀c,c∈chL q ↔ (0<=c/\c<w.fC.Ad)/\gt p.G4 c=2)
  (hg:lg.all (fun x=>inB x 0 255)=true):Inv (Bo.mk w.fC p w.fL q lg):=by
 refine⟨Ahr.2 hp,I.len,I.node,fun k hk c=> ?_,fun k hk=> ?_,?_,hr,hn,hc,?_,?_,hg⟩
 ·rw[I.own k hk c]
  grind
 all_goals grind [Inv.thing,Inv.forest,Inv.sln,Inv.sli]
theorem gt0{α:Type}[Inhabited α](x:α)(l:List α):gt (x::l) 0=x:=rfl
theorem A5u{mem:List Int}{a n:Nat}:Arz ((mem.drop a).take n)=true ↔ ∀j:Nat,a<=j->j<a+n->j<mem.length->gt mem (j:Int)=0:=by
 unfold Arz;rw[Z1];constructor
 ·intro h j h1 h2 h3;rw[V2 h3];have:mem[j]∈(mem.drop a).take n:=by
   rw[List.mem_iff_getElem];refine⟨j - a,by grind,?_⟩
   grind
  grind
 ·intro h x hx;obtain⟨i,hi,e⟩:=List.mem_iff_getElem.1 hx;simp only[List.length_take,List.length_drop]at hi;simp only[List.getElem_take,List.getElem_drop]at e;have:=h (a+i) (by omega) (by omega) (by omega);rw[V2 (by omega),e]at this
  grind
def A1h (mem:List Int)(a n:Nat):List Int:=(List.range mem.length).map fun(j:Nat)=>if a<=j/\j<a+n then(0:Int)else gt mem (j:Int)
theorem Aw2 (mem:List Int)(a n:Nat):(A1h mem a n).length=mem.length:=by simp[A1h]
theorem A5f{mem:List Int}{a n j:Nat}(h:j<mem.length):gt (A1h mem a n) (j:Int)=if a<=j/\j<a+n then 0 else gt mem (j:Int):=by
 grind [V2,A1h]
theorem Brp (mem:List Int)(a:Nat):A1h mem a 0=mem:=by
 refine List.ext_getElem (Aw2 _ _ _) fun j h1 h2=> ?_
 have:=A5f (mem:=mem) (a:=a) (n:=0) h2;simp_all[if_neg,V2]
theorem Brq{mem:List Int}{a i:Nat}:(A1h mem a i).set (a+i) 0=A1h mem a (i+1):=by
 refine List.ext_getElem (by grind [Aw2]) fun j h1 h2=> ?_
 rw[Z49,Aw2]at h1;have e1:=A5f (mem:=mem) (a:=a) (n:=i) h1;have e2:=A5f (mem:=mem) (a:=a) (n:=i+1) h1;rw[V2 (by grind)]at e1 e2
 grind
theorem Bmy{mem:List Int}{a n b m:Nat}(h:Arz ((mem.drop b).take m)=true):Arz (((A1h mem a n).drop b).take m)=true:=by
 grind [A5u,Aw2,A5f]
theorem Bhb{mem:List Int}{a d n m:Nat}(h:Arz ((mem.drop a).take d)=true)(hm:m<=d+n):Arz (((A1h mem (a+d) n).drop a).take m)=true:=by
 grind [A5u,Aw2,A5f]
section
variable {K:Nat} (hK:281474976710656<=K)
include hK
theorem Bd6{mem:List Int}(hl:mem.length<=1000000){a n:Int}(ha:0<=a/\a<=1000000)(hn:0<=n)(hs:a+n<=mem.length):A5z K mem a n=some (A1h mem a.toNat n.toNat):=by
 have hm:=K1;obtain⟨A,rfl⟩: ∃A:Nat,a=A:=⟨a.toNat,by omega⟩;obtain⟨N,rfl⟩: ∃N:Nat,n=N:=⟨n.toNat,by omega⟩;simp only[Int.toNat_natCast];have key: ∀(f i:Nat),i<=N->N - i<f->A1a K mem A N f (A1h mem A i) ((A+i:Nat):Int)=some (A1h mem A N):=by
  intro f;induction f with
  |zero=>omega
  |succ f ih=>
   intro i hi hf;rw[A1a];have e:Ap ((A+i:Nat):Int) A=i:=by unfold Ap Asu;grind [Ht]
   rw[e];by_cases q:i=N
   ·grind
   ·rw[Acn (by omega),Acn (by omega),cond_true,cond_true,Aw2,if_pos ⟨by omega,by omega⟩,Acm (by omega),Int.toNat_natCast,Brq]
    grind
 unfold A5z;rw[Z38,if_pos ⟨by omega,by omega⟩,decide_eq_false (by omega),decide_eq_false (by omega)];simp only[cond_false];have:=key K 0 (by omega) (by omega)
 grind [Brp]
end
theorem A4g{w:Bo}(I:Inv w){x qs}(hq:w.fQ=x::qs):Ao1 w.fC x=true/\Ar0 w x=true:=by grind [Inv.wrec,List.mem_cons_self]
structure Brr (c:Fi)(x:Bb):Prop where
 conf:Akj c=true
 slot:0<=x.Be/\x.Be<=c.Cd
 first:0<=x.Bz/\x.Bz<=c.Cd
 ntag:x.Dh.length<=6
 tags: ∀y∈x.Dh,0<=y/\y<=255
 dist:Ay0 c x.Ad=true
 done:0<=x.H2/\x.H2<=c.Du - 1
 zero:x.Ad=[]->x.H2=0
theorem A2e{c:Fi}{x:Bb}:Ao1 c x=true ↔ Brr c x:=by
 unfold Ao1;simp only[Z4,Wy,decide_eq_true_eq,Bool.or_eq_true,beq_iff_eq,Z1];constructor
 ·rintro⟨a,b,c,d,e,f,g,h⟩;refine⟨a,b,c,by omega,e,f,g,fun q=> ?_⟩
  grind
 ·intro h;refine⟨h.conf,h.slot,h.first,by have:=h.ntag;omega,h.tags,h.dist,h.done,?_⟩;by_cases q:x.Ad=[]
  ·exact .inr (h.zero q)
  simp_all[List.length_pos_iff]
def Bmz (x:Bb):Bb:=Bb.mk x.Be x.Bz (x.Dh.take (x.Dh.length - 1)) x.Ad x.H2
def A7e (w:Bo)(x:Bb)(qs:List Bb):Bo:=Bo.mk w.fC w.fP w.fL (Bmz x::qs) (w.Jp++[gt x.Dh ((x.Dh.length - 1:Nat):Int)])
theorem B0u (K:Nat){w:Bo}{x:Bb}{qs:List Bb}(hq:w.fQ=x::qs)(h0:0<x.Dh.length)(h6:x.Dh.length<=6)(hl:w.Jp.length<=1000000000):Ay4 K w=some (A7e w x qs):=by
 have hm:=K1;unfold Ay4;rw[hq,gt0];have e:Ap (x.Dh.length:Int) 1=((x.Dh.length - 1:Nat):Int):=by grind [sb1]
 rw[e,if_pos ⟨by omega,by simp⟩,if_pos ⟨by omega,by omega⟩,if_pos ⟨by grind,by grind⟩,if_pos ⟨by omega,by omega,by omega⟩,A85,Z38,if_pos ⟨by grind,by grind⟩];rfl
theorem Brs{l:List Int}{n:Nat}{P:Int->Prop}(h: ∀y∈l,P y): ∀y∈l.take n,P y:=by grind
theorem Buy{w:Bo}(I:Inv w){x:Bb}{qs:List Bb}(hq:w.fQ=x::qs)(h0:0<x.Dh.length):Inv (A7e w x qs):=by
 have R:=A2e.1 (A4g I hq).1;have e1:chL (Bmz x::qs)=chL w.fQ:=by rw[hq];rfl
 refine Bfp I w.fP _ _ (Ahr.1 I.pool) (fun c _=>⟨Iff.rfl,rfl⟩) (fun k hk=>(I.thing k hk).2.2) (by rw[hq];rfl) (by rw[hq];rfl) (fun y hy=> ?_) (by rw[e1];exact I.chn) (fun c=>by grind [Inv.chi]) ?_
 ·rcases Ft.1 hy with e|e
  ·subst e;refine⟨A2e.2 ⟨R.conf,R.slot,R.first,?_,Brs R.tags,R.dist,R.done,R.zero⟩,(A4g I hq).2⟩;have:=R.ntag;show(x.Dh.take _).length<=6
   grind
  ·exact I.wrec y (by grind)
 ·rw[List.all_append,I.log];have:=R.tags _ (Aqd (show x.Dh.length - 1<x.Dh.length by omega));simp[Wy,this]
def Avm (w:Bo)(x:Bb):Int:=if w.fC.Du<x.H2+w.fC.Ce then w.fC.Du else x.H2+w.fC.Ce
def Bfq (w:Bo)(x:Bb):List Int:=A1h w.fP.Fp (gt x.Ad 0*w.fC.Du+x.H2).toNat (Avm w x - x.H2).toNat
def Ba2 (w:Bo)(x:Bb):Ef:=Ef.mk (Bfq w x) (if Avm w x<w.fC.Du then w.fP.G4 else w.fP.G4.set (gt x.Ad 0).toNat 0) w.fP.Fq
def A7m (w:Bo)(x:Bb):Bb:=if Avm w x<w.fC.Du then Bb.mk x.Be x.Bz x.Dh x.Ad (Avm w x)else Bb.mk x.Be x.Bz x.Dh (x.Ad.drop 1) 0
def A5v (w:Bo)(x:Bb)(qs:List Bb):Bo:=Bo.mk w.fC (Ba2 w x) w.fL (A7m w x::qs) w.Jp
structure Bw5 (w:Bo)(x:Bb):Prop where
 rc:Brr w.fC x
 k:0<=gt x.Ad 0/\gt x.Ad 0<w.fC.Ad
 st:gt w.fP.G4 (gt x.Ad 0)=2
 at0:0<=gt x.Ad 0*w.fC.Du
 at1:gt x.Ad 0*w.fC.Du+w.fC.Du<=(w.fP.Fp.length:Int)
 len:w.fP.Fp.length<=192
 to:x.H2<Avm w x/\Avm w x<=w.fC.Du
 zero:Arz ((w.fP.Fp.drop (gt x.Ad 0*w.fC.Du).toNat).take x.H2.toNat)=true
theorem A6y{c:Fi}{p:Ef}(P:A6d c p):p.Fp.length<=192:=by
 obtain⟨b1,b2,_⟩:=Bd P.conf;have hm:=Azl (a:=c.Ad) (b:=c.Du) (m:=12) (n:=16) (by omega) b1.2 (by omega) b2.2;have:=P.mem;omega
theorem Bi4{w:Bo}(I:Inv w){x:Bb}{qs:List Bb}(hq:w.fQ=x::qs)(hc:0<x.Ad.length):Bw5 w x:=by
 have R:=A2e.1 (A4g I hq).1;have P:=Ahr.1 I.pool;have hx:x∈w.fQ:=by grind
 have hm:gt x.Ad 0∈x.Ad:=Aqd (i:=0) hc;have h1:=(I.chi _).1 (Bfl hx hm);obtain⟨_,_,e3,e4⟩:=A4b I.conf P.mem h1.1.1 h1.1.2;obtain⟨b1,b2,b3,b4,b5,b6⟩:=Bd I.conf;have hd:=R.done;refine⟨R,h1.1,h1.2,e3,e4,A6y P,?_,?_⟩
 ·grind [Avm]
 ·have:=(A4g I hq).2
  grind [Ar0]
section
variable {K:Nat} (hK:281474976710656<=K)
include hK
theorem Bhc{w:Bo}(hw:A01 w.fP)(hp:Aw7 w.fC w.fP=true){x:Bb}(X:Bw5 w x):Awj K w.fC w.fP (gt x.Ad 0) x.H2=some (Ba2 w x,!decide (Avm w x<w.fC.Du)):=by
 obtain⟨b1,b2,b3,b4,b5,b6⟩:=Bd X.rc.conf;have P:=Ahr.1 hp;obtain⟨e1,e2,e3,e4⟩:=A4b X.rc.conf P.mem X.k.1 X.k.2;have hd:=X.rc.done;have ht:=X.to;have hl:=X.len;have hk:=X.k;have es:A1 x.H2 w.fC.Ce=x.H2+w.fC.Ce:=by grind [A1,Lc,Ht]
 have el:A0i K (x.H2+w.fC.Ce) w.fC.Du=some (Avm w x):=by
  unfold A0i Avm
  grind
 have ea:A1 (gt x.Ad 0*w.fC.Du) x.H2=gt x.Ad 0*w.fC.Du+x.H2:=by grind [A1,Lc,Ht]
 have en:Ap (Avm w x) x.H2=Avm w x - x.H2:=by grind [Ap,Asu,Ht]
 unfold Awj;rw[A4d K hw,A7x hK,hp,Amo,A0x hK X.rc.conf,Wy.2 ⟨by omega,by omega⟩,Amo,A6u X.rc.conf,Wy.2 hd,es,el,e1,ea];simp only[Z0,cond_true,Bool.not_true,cond_false];rw[en,Bd6 hK (by omega) ⟨by omega,by omega⟩ (by omega) (by omega)];simp only[Z0,e2];rw[if_pos ⟨hk.1,by rw[P.st];exact hk.2⟩,X.st];simp only[bne_self_eq_false,cond_false];unfold Ba2;by_cases q:Avm w x<w.fC.Du
 ·rw[decide_eq_true q,if_pos q];rfl
 ·rw[decide_eq_false q,if_neg q];simp only[cond_false,Bool.not_false];rw[if_pos ⟨by omega,by omega,by show _<=((A1h _ _ _).length:Int);grind [Aw2]⟩];have hz:Arz (((A1h w.fP.Fp (gt x.Ad 0*w.fC.Du+x.H2).toNat (Avm w x - x.H2).toNat).drop (gt x.Ad 0*w.fC.Du).toNat).take (gt x.Ad 0*w.fC.Du+w.fC.Du - gt x.Ad 0*w.fC.Du).toNat)=true:=by
   rw[show(gt x.Ad 0*w.fC.Du+x.H2).toNat=(gt x.Ad 0*w.fC.Du).toNat+x.H2.toNat by omega];exact Bhb X.zero (by omega)
  rw[A4a hK _ (by grind),hz];simp only[Z0,Bool.not_true,cond_false];rw[if_pos ⟨hk.1,by rw[P.st];exact hk.2⟩];rfl
theorem Buz{w:Bo}(I:Inv w)(hw:A01 w.fP){x:Bb}{qs:List Bb}(hq:w.fQ=x::qs)(hc:0<x.Ad.length):Azs K w=some (A5v w x qs):=by
 have hm:=K1;have X:=Bi4 I hq hc;have hlen:=Aw0 X.rc.conf X.rc.dist;obtain⟨b1,b2,b3,b4,b5,b6⟩:=Bd X.rc.conf;have hd:=X.rc.done;unfold Azs;rw[hq,gt0,if_pos ⟨by omega,by simp⟩,if_pos ⟨by omega,by omega⟩,Bhc hK hw I.pool X,Z0];simp only;unfold A5v A7m;by_cases q:Avm w x<w.fC.Du
 ·rw[decide_eq_true q,if_pos q];have es:A1 x.H2 w.fC.Ce=Avm w x:=by
   have ht:=X.to;unfold Avm at q ⊢;split at q
   ·omega
   ·rename_i r;rw[if_neg r];grind [A1,Lc,Ht]
  grind
 grind
end
theorem A6z{c:Fi}{l:List Int}:Ay0 c l=true ↔ l.Nodup/\ ∀x∈l,0<=x/\x<c.Ad:=by
 constructor
 ·intro h;exact⟨A2g h,A2b h⟩
 ·rintro⟨h1,h2⟩;unfold Ay0;rw[Z1];intro i hi;rw[List.mem_range]at hi;rw[Z4,Wy,V2 hi]
  have:=h2 _ (List.getElem_mem hi);refine⟨by omega,?_⟩;simp_all[A87]
theorem Bm0{c:Fi}{l:List Int}{n:Nat}(h:Ay0 c l=true):Ay0 c (l.drop n)=true:=by
 rw[A6z]at h ⊢
 grind
theorem Brt{w:Bo}{x:Bb}(h: ∀y∈w.fP.Fp,0<=y/\y<=255): ∀y∈Bfq w x,0<=y/\y<=255:=by
 refine A78 fun k hk=> ?_;unfold Bfq at hk ⊢;rw[Aw2]at hk;obtain⟨j,rfl⟩: ∃j:Nat,k=j:=⟨k.toNat,by omega⟩
 grind [A5f,Aqd]
theorem Bru{w:Bo}(I:Inv w){x:Bb}{qs:List Bb}(hq:w.fQ=x::qs)(hc:0<x.Ad.length):Inv (A5v w x qs):=by
 have X:=Bi4 I hq hc;have P:=Ahr.1 I.pool;have hk:=X.k;have hd:=X.rc.done;have ht:=X.to;have hxq:x∈w.fQ:=by grind
 have hst: ∀c,0<=c/\c<w.fC.Ad->gt (Ba2 w x).G4 c=if c=gt x.Ad 0/\ ¬Avm w x<w.fC.Du then 0 else gt w.fP.G4 c:=by
  intro c h;show gt (if Avm w x<w.fC.Du then w.fP.G4 else w.fP.G4.set (gt x.Ad 0).toNat 0) c=_;by_cases q:Avm w x<w.fC.Du
  ·grind
  ·rw[if_neg q,A6x hk.1 (by rw[P.st];exact h)];omega
 have hz: ∀b m,Arz ((w.fP.Fp.drop b).take m)=true->Arz (((Ba2 w x).Fp.drop b).take m)=true:=fun b m h=>Bmy h
 have hN:(gt x.Ad 0*w.fC.Du+x.H2).toNat=(gt x.Ad 0*w.fC.Du).toNat+x.H2.toNat:=by have:=X.at0;omega
 have hall: ∀m:Nat,m<=(Avm w x).toNat->Arz (((Ba2 w x).Fp.drop (gt x.Ad 0*w.fC.Du).toNat).take m)=true:=by
  intro m h;show Arz (((A1h _ _ _).drop _).take m)=true;rw[hN];exact Bhb X.zero (by omega)
 have hlen:(Ba2 w x).Fp.length=w.fP.Fp.length:=Aw2 _ _ _;have hcons:x.Ad=gt x.Ad 0::x.Ad.drop 1:=by
  cases h:x.Ad with
  |nil=>grind
  |cons a l=>rfl
 have hnd:=A2g X.rc.dist;have hch:chL w.fQ=x.Ad++chL qs:=by rw[hq];rfl
 have hn:=I.chn;rw[hch]at hn;have hchi:=I.chi;rw[hch]at hchi;unfold A5v;refine Bfp I (Ba2 w x) _ _ ⟨P.conf,by rw[hlen];exact P.mem,?_,P.own,fun c h=> ?_⟩ (fun c h=>⟨?_,rfl⟩) (fun k h=> ?_) ?_ ?_ (fun y hy=> ?_) ?_ (fun c=> ?_) I.log
 ·show((if Avm w x<w.fC.Du then w.fP.G4 else w.fP.G4.set (gt x.Ad 0).toNat 0).length:Int)=_
  grind [A6d.st]
 ·obtain⟨p1,p2,p3,p4⟩:=P.one c h;rw[hst c h];show _/\(_->0<=gt w.fP.Fq c/\_)/\(_->gt w.fP.Fq c= -1)/\_;by_cases q:c=gt x.Ad 0/\ ¬Avm w x<w.fC.Du
  ·rw[if_pos q];refine⟨by omega,fun f=>by omega,fun _=>p3 (by grind),fun _=> ?_⟩;unfold Aw4
   grind
  ·rw[if_neg q];exact⟨p1,p2,p3,fun f=>hz _ _ (p4 f)⟩
 ·grind
 ·have:=(I.thing k h).2.2;unfold Awd at this ⊢
  grind
 ·grind [A7m,A2h]
 ·grind [A7m,slL]
 ·rcases Ft.1 hy with e|e
  ·subst e;unfold A7m;by_cases q:Avm w x<w.fC.Du
   ·rw[if_pos q];refine⟨A2e.2 ⟨X.rc.conf,X.rc.slot,X.rc.first,X.rc.ntag,X.rc.tags,X.rc.dist,⟨by grind,by grind⟩,fun f=> ?_⟩,?_⟩
    ·grind
    ·unfold Ar0
     grind
   ·rw[if_neg q];refine⟨A2e.2 ⟨X.rc.conf,X.rc.slot,X.rc.first,X.rc.ntag,X.rc.tags,?_,⟨Int.le_refl _,by grind⟩,fun _=>rfl⟩,?_⟩
    ·exact Bm0 X.rc.dist
    ·unfold Ar0;rw[Bool.or_eq_true];exact .inr rfl
  ·obtain⟨a,b⟩:=I.wrec y (by grind);refine⟨a,?_⟩;unfold Ar0 at b ⊢
   grind
 ·show((A7m w x).Ad++chL qs).Nodup;unfold A7m
  grind
 ·show c∈(A7m w x).Ad++chL qs ↔ _;rw[hcons,Z45]at hn;have hni:=(List.nodup_cons.1 hn).1;have hci:=hchi c;rw[hcons,Z45,Ft]at hci;unfold A7m
  grind
def Bm1 (g n:Az)(k x:Int):Az:=lnk n (if g.G7=0/\x+1=g.fUp/\n.Bz=k+1 then g.G6 else n.Bz) (if x+1=g.G7 then g.G6 else n.G6) (if x+1=g.G6 then g.G7 else n.G7)
theorem Bfr{l l':List Az}{t:Int->Lk}(A:AtT l t){k:Int}(hk:0<=k/\k<(l.length:Int))(hN:l'.length=l.length)(hg: ∀x,0<=x/\x<(l.length:Int)->x≠k->gt l' x=Bm1 (gt l k) (gt l x) k x){gn:Int}(hb:gt l' k=Ar1 2 gn):AtT l' (rem t k):=by
 intro x hx;rw[hN]at hx;by_cases e:x=k
 ·subst e;rw[A9z,hb];rfl
 ·rw[Amn e,hg x hx e,A x hx,A k hk];rfl
theorem Brv{w:Bo}(I:Inv w){t:Int->Lk}(A:AtT w.fL t)(F:Aig w.fL.length t (A2h w.fQ)){k:Int}(hl:Lv w.fL.length t k)(l':List Az)(q':List Bb)(hN:l'.length=w.fL.length)
  (hg: ∀x,0<=x/\x<(w.fL.length:Int)->x≠k->gt l' x=Bm1 (gt w.fL k) (gt w.fL x) k x) (hb:gt l' k=Ar1 2 (gt w.fL k).C7)
  (F':Aig w.fL.length (rem t k) (A2h q')) (hr: ∀x∈q',Ao1 w.fC x=true/\Ar0 w x=true)
  (hcn:(chL q').Nodup) (hci: ∀c,c∈chL q' ↔ c∈chL w.fQ++(gt w.fL k).Ad) (hsn:(slL q').Nodup) (hsi: ∀s,s∈slL q' ↔ s∈slL w.fQ\/s=k):
  Inv (Bo.mk w.fC (Ah1 w.fP (gt w.fL k).Ad) l' q' w.Jp):=by
 have hk:=hl.1;have P:=I.live A hl;obtain⟨L1,L2,L3⟩:=A6e I hk;refine⟨Ahr.2 L1,by simp_all[Inv.len],fun x hx=> ?_,fun x hx c=> ?_,fun x hx=> ?_,⟨rem t k,Bfr A hk hN hg hb,?_⟩,fun x hx=> ?_,hcn,fun c=> ?_,hsn,fun s=> ?_,I.log⟩
 ·have hx:0<=x/\x<(l'.length:Int):=hx;rw[hN]at hx;show Avg w.fC (gt l' x)=true;by_cases e:x=k
  ·grind [A8o,Inv.conf,Avt.gen]
  ·rw[hg x hx e];obtain⟨a1,a2,a3,a4⟩:=A7b (I.node k hk);by_cases hs:(gt w.fL x).G4=1
   ·have X:=Akp.1 ⟨I.node x hx,hs⟩;refine(Akp.2 (Bcm X ?_ ?_ ?_)).1
    ·split
     ·exact a3
     ·exact X.first
    ·split
     ·exact a3
     ·exact X.next
    ·split
     ·exact a4
     ·exact X.prev
   ·have X:=A2d (I.node x hx) hs;have B:=(Bcf F.tree hl).bare x hx.1 hx.2 (by rw[Amn e,A x hx];grind [A75]);rw[Amn e,A x hx,A k hk]at B;obtain⟨_,B2,B3,B4⟩:=B;have q1:(if(gt w.fL k).G7=0/\x+1=(gt w.fL k).fUp/\(gt w.fL x).Bz=k+1 then(gt w.fL k).G6 else(gt w.fL x).Bz)=0:=B2;have q2:(if x+1=(gt w.fL k).G7 then(gt w.fL k).G6 else(gt w.fL x).G6)=0:=B3;have q3:(if x+1=(gt w.fL k).G6 then(gt w.fL k).G7 else(gt w.fL x).G7)=0:=B4;have this:lnk (gt w.fL x) 0 0 0=gt w.fL x:=by rw[X];rfl
    grind [Bm1,Inv.node]
 ·have hx:0<=x/\x<(l'.length:Int):=hx;rw[hN]at hx;show c∈(gt l' x).Ad ↔ (0<=c/\c<w.fC.Ad)/\gt (Ah1 w.fP (gt w.fL k).Ad).G4 c=1/\gt (Ah1 w.fP (gt w.fL k).Ad).Fq c=x;by_cases e:x=k
  ·rw[e,hb];constructor
   ·intro q;cases q
   ·rintro⟨a,b,d⟩;rw[(L3 c a).1]at b;rw[(L3 c a).2]at d;split at b
    all_goals simp_all[Inv.own]
  ·rw[hg x hx e];show c∈(gt w.fL x).Ad ↔ _;rw[I.own x hx c];constructor
   ·rintro⟨a,b,d⟩
    have q:c ∉ (gt w.fL k).Ad:=fun q=>e (by have:=((I.own k hk c).1 q).2.2;omega)
    grind
   grind
 ·have hx:0<=x/\x<(l'.length:Int):=hx;rw[hN]at hx;show(gt l' x).D5.all (Awb w.fC (gt l' x).Ad)=true/\At0 (gt l' x).D5=true/\Awd w.fC (Ah1 w.fP (gt w.fL k).Ad).Fp (gt l' x)=true;by_cases e:x=k
  ·rw[e,hb];exact⟨rfl,rfl,rfl⟩
  ·rw[hg x hx e];obtain⟨t1,t2,t3⟩:=I.thing x hx;refine⟨t1,t2,?_⟩;rw[L2];exact t3
 ·grind
 ·obtain⟨a,b⟩:=hr x hx;refine⟨a,?_⟩;unfold Ar0 at b ⊢
  grind
 ·grind [Bfn]
 ·show s∈slL q' ↔ (0<=s/\s<(l'.length:Int))/\(gt l' s).G4=2;rw[hsi s,hN,I.sli];constructor
  ·rintro(⟨a,b⟩|a)
   ·refine⟨a,?_⟩;have e:s≠k:=fun e=>by grind [Avt.st]
    rw[hg s a e];exact b
   ·rw[a,hb];exact⟨hk,rfl⟩
  ·rintro⟨a,b⟩
   by_cases e:s=k
   ·omega
   ·rw[hg s a e]at b;exact .inl ⟨a,b⟩
def Ayf (l:List Az)(g:Int):List Az:=((bif plB l (gt l g).G6 then l.set ((gt l g).G6 - 1).toNat (Bkp (gt l ((gt l g).G6 - 1)) 0)else l).set g.toNat (Ar1 2 (gt l g).C7))
def Bcq (l:List Az)(x:Bb):Bb:=Bb.mk x.Be (gt l (x.Bz - 1)).G6 x.Dh x.Ad x.H2
def A0f (w:Bo)(x:Bb)(qs:List Bb):Bo:=
 Bo.mk w.fC (Ah1 w.fP (gt w.fL (x.Bz - 1)).Ad) (Ayf w.fL (x.Bz - 1)) (Air (gt w.fL (x.Bz - 1)) x.Bz::Bcq w.fL x::qs) w.Jp
theorem A93 (l:List Az)(g:Int):(Ayf l g).length=l.length:=by
 unfold Ayf;grind
theorem Bkx{l:List Az}(R:Rg l){g x:Int}(hg:0<=g/\g<(l.length:Int))(hx:0<=x/\x<(l.length:Int))(hne:x≠g)(hp:(gt l g).G7=0)(hf: ¬(x+1=(gt l g).fUp/\(gt l x).Bz=g+1)):gt (Ayf l g) x=Bm1 (gt l g) (gt l x) g x:=by
 obtain⟨r1,r2,r3,r4⟩:=R.rg g hg;have hl:=R.len;unfold Ayf Bm1;rw[Bg9 r3.1 r3.2 hl,hp,if_neg (fun q=>hf q.2),if_neg (by omega: ¬x+1=0)];by_cases h:(gt l g).G6=0
 ·rw[h];simp only[beq_self_eq_true,Bool.not_true,cond_false];rw[Auu hg hx,if_neg hne,if_neg (by omega)];rfl
 ·rw[Aul h];simp only[Bool.not_false,cond_true];rw[Auu (by grind) (by grind),if_neg hne,Auu (by omega) hx];by_cases e:x=(gt l g).G6 - 1
  ·rw[if_pos e,if_pos (by omega),<-e];rfl
  ·rw[if_neg e,if_neg (by omega)];rfl
theorem Bky{l:List Az}{g:Int}(hg:0<=g/\g<(l.length:Int)):gt (Ayf l g) g=Ar1 2 (gt l g).C7:=by
 unfold Ayf;rw[A5d]
 grind
structure B35 (w:Bo)(t:Int->Lk)(x:Bb)(qs:List Bb):Prop where
 rc:Brr w.fC x
 lv:Lv w.fL.length t (x.Bz - 1)
 or:Oo w.fL.length t (x.Bz - 1)
 pv:(gt w.fL (x.Bz - 1)).G7=0
 fr:Aig w.fL.length (rem t (x.Bz - 1)) (A2h (Air (gt w.fL (x.Bz - 1)) x.Bz::Bcq w.fL x::qs))
 nf: ∀y,0<=y/\y<(w.fL.length:Int)-> ¬(y+1=(gt w.fL (x.Bz - 1)).fUp/\(gt w.fL y).Bz=x.Bz - 1+1)
theorem Bcr{w:Bo}(I:Inv w){t:Int->Lk}(A:AtT w.fL t)(F:Aig w.fL.length t (A2h w.fQ)){x:Bb}{qs:List Bb}(hq:w.fQ=x::qs)(hf:x.Bz≠0):B35 w t x qs:=by
 have R:=A2e.1 (A4g I hq).1;have hx:x∈w.fQ:=by grind
 have hF:=R.first;have e:x.Bz - 1+1=x.Bz:=by omega
 have F1:Aig w.fL.length t ((x.Be,x.Bz - 1+1)::A2h qs):=by rw[e];rw[hq]at F;exact F
 obtain⟨h1,h2,h3⟩:=Bg6 F1 (by omega);have hin:=h1.1;have hor:Oo w.fL.length t (x.Bz - 1):=F.kid.or (Inv.qs hx) (A90 hin);have hpv:(gt w.fL (x.Bz - 1)).G7=0:=by rw[A _ hin]at h2;exact h2
 refine⟨R,h1,hor,hpv,?_,?_⟩
 ·rw[A _ hin,e]at h3;exact h3
 ·rintro y hy ⟨a,b⟩
  have hup:(t (x.Bz - 1)).up=y+1:=by rw[A _ hin,a];rfl
  have hfi:(t y).fi=x.Bz:=by rw[A _ hy,<-e,<-b];rfl
  cases hlv:(t y).lv with
  |false=>
   have:=(F.tree.bare y hy.1 hy.2 hlv).2.1;omega
  |true=>
   have hY:Lv w.fL.length t y:=⟨hy,hlv⟩;have:=(F.tree.link y hY).first (by omega);rw[hfi]at this;refine hor.2.2 ⟨?_,?_⟩
   all_goals grind
theorem Brw{w:Bo}(I:Inv w){x:Bb}{qs:List Bb}(hq:w.fQ=x::qs)(hf:x.Bz≠0):Inv (A0f w x qs):=by
 obtain⟨t,A,F⟩:=I.forest;have X:=Bcr I A F hq hf;have hk:=X.lv.1;have hF:=X.rc.first;have L:=I.live A X.lv;obtain⟨b1,b2,b3,b4,b5,b6⟩:=Bd I.conf;have hch:chL w.fQ=x.Ad++chL qs:=by rw[hq];rfl
 have hcn:=Bfm I hk;rw[hch]at hcn;have hsl:slL w.fQ=(if x.Be=0 then []else [Ap x.Be 1])++slL qs:=by rw[hq];rfl
 have hsn:=I.sln;rw[hsl]at hsn;have e1:slL (Air (gt w.fL (x.Bz - 1)) x.Bz::Bcq w.fL x::qs)=(x.Bz - 1)::((if x.Be=0 then []else [Ap x.Be 1])++slL qs):=by
  show(if x.Bz=0 then []else [Ap x.Bz 1])++_=_;rw[if_neg hf,sb1 (by omega) (by omega)];rfl
 have hns:x.Bz - 1 ∉ slL w.fQ:=fun h=>by
  have:=((I.sli _).1 h).2
  grind [Avt.st]
 unfold A0f;refine Brv I A F X.lv _ _ (A93 _ _) (fun y hy hne=>Bkx I.rg hk hy hne X.pv (X.nf y hy)) (Bky hk) X.fr (fun y hy=> ?_) ?_ (fun c=> ?_) ?_ (fun s=> ?_)
 ·rcases Ft.1 hy with e|e
  ·grind [A77,Bcn]
  ·rcases Ft.1 e with e|e
   ·rw[e];exact⟨A2e.2 ⟨X.rc.conf,X.rc.slot,L.next,X.rc.ntag,X.rc.tags,X.rc.dist,X.rc.done,X.rc.zero⟩,(A4g I hq).2⟩
   grind [Inv.wrec]
 ·show((gt w.fL (x.Bz - 1)).Ad++(x.Ad++chL qs)).Nodup
  grind
 ·rw[hch];show c∈(gt w.fL (x.Bz - 1)).Ad++(x.Ad++chL qs) ↔ _
  grind
 all_goals grind
end Go.Proofs.YtgcnddnmhllahaaGreat
