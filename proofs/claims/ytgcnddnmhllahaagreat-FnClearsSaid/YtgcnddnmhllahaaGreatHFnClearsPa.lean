/- The plain law for FnClears; no condition. -/
import Derived.Test.YtgcnddnmhllahaaGreatHFnClearsTa
import Derived.Test.YtgcnddnmhllahaaGreatHFnClearsW
set_option linter.all false
namespace Go.Proofs.YtgcnddnmhllahaaGreat
open Go.Eng Go.ChangeShapes Go.WideShapes Go.ChangeAt Go.RowKit
theorem Ad9{i:Nat}(h:i<=140737488355328):A1 (i:Int) 1=((i+1:Nat):Int):=by
 grind [A1,Lc,IntKind.wrap_i64]
theorem Wx{α:Type}[Inhabited α]{l:List α}{i:Nat}(h:i<l.length):gt l (i:Int)=l[i]:=by
 grind [gt]
theorem Aty{α:Type}[Inhabited α]{l:List α}{i:Nat}(h:i<l.length):gt l (i:Int)∈l:=by
 grind [Wx]
theorem Akl{α:Type}[Inhabited α]{l:List α}{i:Int}(h0:0<=i)(h:i<l.length):gt l i∈l:=by
 obtain⟨k,rfl⟩: ∃k:Nat,i=k:=⟨i.toNat,by omega⟩
 grind [Aty]
theorem Afb{i k:Nat}(h:i<k):decide ((i:Int)<(k:Int))=true:=by grind
theorem Ayt{i k:Nat}(h:k<=i):decide ((i:Int)<(k:Int))=false:=by grind
theorem Bo5 (a:List Int)(ha:a.length<=140737488355328)
  (L:Nat->Int->Option Bool) (hL: ∀n i,L (n+1) i=bif decide (i<(a.length:Int))then(if(0:Int)<=i/\i<(a.length:Int)then(if(0:Int)<=i/\i<(a.length:Int)then(bif (gt a i != gt a i)then some false else L n (A1 i 1))else none)else none)else some true):
  ∀(n i:Nat),i<=a.length->a.length - i<n->L n (i:Int)=some true:=by
 intro n;induction n with
 |zero=>omega
 |succ n ih=>
  intro i hi hn;rw[hL];rcases Hi i a.length with h|h
  ·rw[Afb h];simp only[cond_true];rw[if_pos ⟨by omega,by omega⟩,if_pos ⟨by omega,by omega⟩,Ad9 (by omega)];simp only[bne_self_eq_false,cond_false];exact ih (i+1) h (by omega)
  ·rw[Ayt h];rfl
theorem Ht{n:Int}(h0: -9223372036854775808<=n)(h1:n<=9223372036854775807):IntKind.i64.wrap n=n:=by rw[IntKind.wrap_i64];omega
theorem Bo6 (n:Int): -9223372036854775808<=IntKind.i64.wrap n/\IntKind.i64.wrap n<=9223372036854775807:=by rw[IntKind.wrap_i64];omega
theorem A20{a b:Int}(h: ¬a=b):(a != b)=true:=by simpa using h
theorem At6{a b:Int}(h: ¬a=b):(a==b)=false:=by simpa using h
def inB (x a b:Int):Bool:=decide (a<=x/\x<=b)
theorem Wy{x a b:Int}:inB x a b=true ↔ a<=x/\x<=b:=by unfold inB;exact decide_eq_true_iff
theorem Bao{x a b:Int}:inB x a b=false ↔ ¬(a<=x/\x<=b):=by unfold inB;exact decide_eq_false_iff_not
theorem Ayc (b:Bool)(x:Bool):(bif b then some x else some false)=some (b&&x):=by cases b<;>rfl
theorem Bo7 (b:Bool)(x:Bool):(bif b then some false else some x)=some (!b&&x):=by cases b<;>rfl
theorem A42 (b:Bool)(x:Bool):(bif b then some true else some x)=some (b||x):=by cases b<;>rfl
theorem Aht{α:Type}(b:Bool)(x y:α):(bif !b then x else y)=(bif b then y else x):=by cases b<;>rfl
theorem Ald{i n:Nat}(h:i<n):((0:Int)<=(i:Int)/\(i:Int)<(n:Int)):=⟨by omega,by omega⟩
theorem Bye{α:Type}(l:List α)(q:α->Bool)(fin:Option Bool)(L:Nat->Int->Option Bool)
  (hs: ∀n (i:Nat) (h:i<l.length),L (n+1) (i:Int)=bif q l[i]then L n ((i+1:Nat):Int)else some false)
  (he: ∀n,L (n+1) (l.length:Int)=fin):
  ∀(n i:Nat),i<=l.length->l.length - i<n->L n (i:Int)=bif (l.drop i).all q then fin else some false:=by
 intro n;induction n with
 |zero=>omega
 |succ n ih=>
  intro i hi hn;rcases Hi i l.length with h|h
  ·rw[hs n i h,Z47 h,Gv];cases q l[i]with
   |false=>rfl
   |true=>grind
  grind
theorem Aw5{α:Type}{K:Nat}(hK:281474976710656<=K)(l:List α)(hl:l.length<=140737488355328)(q:α->Bool)(fin:Option Bool)(L:Nat->Int->Option Bool)
  (hs: ∀n (i:Nat) (h:i<l.length),L (n+1) (i:Int)=bif q l[i]then L n ((i+1:Nat):Int)else some false)
  (he: ∀n,L (n+1) (l.length:Int)=fin):L K 0=bif l.all q then fin else some false:=by
 have:=Bye l q fin L hs he K 0 (Z21 _) (by omega);simpa using this
theorem Aua{K:Nat}(hK:281474976710656<=K)(N:Nat)(hl:N<=140737488355328)(q:Nat->Bool)(fin:Option Bool)(L:Nat->Int->Option Bool)
  (hs: ∀n (i:Nat) (h:i<N),L (n+1) (i:Int)=bif q i then L n ((i+1:Nat):Int)else some false)
  (he: ∀n,L (n+1) (N:Int)=fin):L K 0=bif (List.range N).all q then fin else some false:=by
 refine Aw5 hK (List.range N) (by simpa using hl) q fin L (fun n i h=> ?_) (fun n=> ?_)
 ·rw[List.getElem_range];exact hs n i (by simpa using h)
 ·rw[List.length_range];exact he n
theorem Bo8{α:Type}(l:List α)(q:α->Bool)(L:Nat->Int->Int->Option Int)
  (hs: ∀n (i:Nat) (h:i<l.length),L (n+1) (l.length:Int) (i:Int)=bif q l[i]then some (i:Int)else L n (l.length:Int) ((i+1:Nat):Int))
  (he: ∀n,L (n+1) (l.length:Int) (l.length:Int)=some (-1)):
  ∀(n i:Nat),i<=l.length->l.length - i<n-> ∃r,L n (l.length:Int) (i:Int)=some r/\decide (r>=0)=(l.drop i).any q:=by
 intro n;induction n with
 |zero=>omega
 |succ n ih=>
  intro i hi hn;rcases Hi i l.length with h|h
  ·rw[hs n i h,Z47 h,List.any_cons]
   grind
  ·obtain rfl:i=l.length:=by omega
   exact⟨_,he n,by simp⟩
theorem A7z{α:Type}[Inhabited α]{K:Nat}(hK:281474976710656<=K)(l:List α)(hl:l.length<=140737488355328)(f:α->Option Bool)(q:α->Bool)(hf: ∀x∈l,f x=some (q x))(L:Nat->Int->Int->Option Int)
  (hL: ∀n N i,L (n+1) N i=bif decide (i<N)then(if(0:Int)<=i/\i<(l.length:Int)then(f (gt l i)).bind (fun r=>bif r then some i else L n N (A1 i 1))else none)else some (-1)):
  ((L K (l.length:Int) 0).bind fun r=>some (decide (r>=0)))=some (l.any q):=by
 obtain⟨r,h1,h2⟩:=Bo8 l q L (fun n i h=>by
  rw[hL,Afb h,cond_true,if_pos (Ald h),hf _ (Aty h),Wx h,Z0,Ad9 (by omega)]) (fun n=>by rw[hL,Ayt (Z9 _),cond_false]) K 0 (Z21 _) (by omega)
 rw[show((0:Nat):Int)=0 from rfl]at h1;rw[h1,Z0,h2,Z55]
theorem A7e{K:Nat}(hK:281474976710656<=K)(l:List Int)(x:Int)(hl:l.length<=140737488355328):Ap2 K l x=some (l.contains x):=by
 unfold Ap2 A1y;obtain⟨r,h1,h2⟩:=Bo8 l (fun y=>x==y) (Arx K l x) (fun n i h=>by
  rw[Arx,Afb h,cond_true,if_pos (Ald h),Wx h,Ad9 (by omega)]) (fun n=>by simp_all[Arx]) K 0 (Z21 _) (by omega)
 grind
theorem A43{K:Nat}(hK:281474976710656<=K)(l:List Int)(x:Int)(hl:l.length<=140737488355328):Aum K l x=some (l.contains x):=by
 unfold Aum;have h: ∀(n i:Nat),i<=l.length->l.length - i<n->Azl K l x n (i:Int)=some ((l.drop i).contains x):=by
  intro n;induction n with
  |zero=>omega
  |succ n ih=>
   intro i hi hn;rw[Azl];rcases Hi i l.length with h|h
   ·rw[Afb h,cond_true,if_pos (Ald h),Wx h,Ad9 (by omega),ih (i+1) h (by omega),Z47 h,List.contains_cons,A42,Bool.beq_comm]
   grind
 have:=h K 0 (Z21 _) (by omega)
 grind
theorem Aml (K:Nat)(x a b:Int):F2 K x a b=some (inB x a b):=by
 unfold F2 inB
 grind
theorem Awh (K:Nat)(x a b:Int):K0 K x a b=some (inB x a b):=Aml K x a b
def Aki (c:Fi):Bool:=inB c.Ad 2 12&&(inB c.Du 8 16&&(inB c.Cd 2 8&&(inB c.Ez 1 8&&(inB c.Ce 1 16&&inB c.Dv 1 4))))
theorem Avm (K:Nat)(c):Ap3 K c=some (Aki c):=by
 simp_all[Ap3,Aml,Ayc,Aki]
theorem A7f (K:Nat)(c):Ay0 K c=some (Aki c):=Avm K c
theorem Bd{c:Fi}(h:Aki c=true):(2<=c.Ad/\c.Ad<=12)/\(8<=c.Du/\c.Du<=16)/\(2<=c.Cd/\c.Cd<=8)/\(1<=c.Ez/\c.Ez<=8)/\(1<=c.Ce/\c.Ce<=16)/\(1<=c.Dv/\c.Dv<=4):=by
 simp_all[Aki,Wy]
def Aoy (c:Fi):Int:=bif Aki c then c.Ad*c.Du else 0
theorem Azd{a b m n:Int}(h1:0<=a)(h2:a<=m)(h3:0<=b)(h4:b<=n):0<=a*b/\a*b<=m*n:=
 ⟨Int.mul_nonneg h1 h3,Int.mul_le_mul h2 h4 h3 (by omega)⟩
theorem Ayd (K:Nat)(c):Avu K c=some (Aoy c):=by
 unfold Avu Aoy;rw[Avm,Z0,Aht];cases h:Aki c with
 |false=>rfl
 |true=>
  obtain⟨h1,h2,_⟩:=Bd h;have:=Azd (a:=c.Ad) (b:=c.Du) (m:=12) (n:=16) (by omega) h1.2 (by omega) h2.2;simp only[cond_true,K1,Ew]
  grind [Ht]
theorem A6p (K:Nat)(c):A2s K c=some (Aoy c):=Ayd K c
theorem A44 (c:Fi):0<=Aoy c/\Aoy c<=192:=by
 unfold Aoy;cases h:Aki c with
 |false=>simp
 |true=>
  obtain⟨h1,h2,_⟩:=Bd h;have:=Azd (a:=c.Ad) (b:=c.Du) (m:=12) (n:=16) (by omega) h1.2 (by omega) h2.2
  grind
section
variable {K:Nat} (hK:281474976710656<=K)
include hK
def Ary (l:List Int):Bool:=l.all (fun x=>x==0)
theorem A3y (l:List Int)(hl:l.length<=140737488355328):Avk K l=some (Ary l):=by
 unfold Avk;rw[Aw5 hK l hl (fun x=>x==0) (some true) (Awa K l) (fun n i h=>by
  rw[Awa,Afb h,cond_true,if_pos (Ald h),Wx h,Ad9 (by omega)]
  grind) (fun n=>by simp_all[Awa])]
 grind [Ary]
theorem A5n (l:List Int)(hl:l.length<=140737488355328):Aw0 K l=some (Ary l):=by
 unfold Aw0 Al9 Ao8;rw[A7z hK l hl (A39 K) (fun x=>x != 0) (fun x _=>rfl) (Ahx K l) (fun n N i=>rfl)];simp_all[Ary,List.not_any_eq_all_not,bne]
end
def Ax7 (a b:Int):Int:=bif inB a 0 1000000000&&inB b 1 1000000000 then(a+b - 1) / b else 0
theorem A4u (K:Nat)(a b:Int):A2e K a b=some (Ax7 a b):=by
 unfold A2e Ax7;rw[Aml,Aml,Z0];cases h1:inB a 0 1000000000 with
 |false=>rfl
 |true=>
  cases h2:inB b 1 1000000000 with
  |false=>rfl
  |true=>
   rw[Wy]at h1 h2;simp only[Z0,cond_true,Bool.not_true,cond_false,Bool.and_self];rw[if_pos (by omega)];unfold Apq Ap Asu A1 Lc;rw[Ht (n:=a+b) (by omega) (by omega),Ht (n:=a+b - 1) (by omega) (by omega)];rw[Int.tdiv_eq_ediv_of_nonneg (by omega)];have h3:(a+b - 1) / b<=a+b - 1:=Int.ediv_le_self _ (by omega);have h4:0<=(a+b - 1) / b:=Int.ediv_nonneg (by omega) (by omega)
   grind [Ht]
def Aw1 (c:Fi)(mem:List Int)(k:Int):List Int:=(mem.drop (k*c.Du).toNat).take c.Du.toNat
def A5o (c:Fi)(p:Ef)(k:Nat):Bool:=
 inB (gt p.G4 k) 0 2&&((bif gt p.G4 k==1 then inB (gt p.Fq k) 0 (c.Cd - 1)else gt p.Fq k== -1)&&(bif gt p.G4 k==0 then Ary (Aw1 c p.Fp k)else true))
def Aw2 (c:Fi)(p:Ef):Bool:=
 Aki c&&((p.Fp.length:Int)==Aoy c&&((p.G4.length:Int)==c.Ad&&((p.Fq.length:Int)==c.Ad&&(List.range c.Ad.toNat).all (A5o c p))))
theorem Avt{c:Fi}{p:Ef}(h:Aw2 c p=true):Aki c=true/\(p.Fp.length:Int)=c.Ad*c.Du/\(p.G4.length:Int)=c.Ad/\(p.Fq.length:Int)=c.Ad/\ ∀k,k<c.Ad.toNat->A5o c p k=true:=by
 simp_all[Aw2,Aoy]
theorem A3z{c:Fi}(hc:Aki c=true){mem:List Int}(hm:(mem.length:Int)=c.Ad*c.Du){k:Int}(h0:0<=k)(h1:k<c.Ad):
  K1 k c.Du=k*c.Du/\K1 (A1 k 1) c.Du=k*c.Du+c.Du/\0<=k*c.Du/\k*c.Du+c.Du<=(mem.length:Int):=by
 obtain⟨b1,b2,_⟩:=Bd hc;have m1:=Azd (a:=k) (b:=c.Du) (m:=12) (n:=16) h0 (by omega) (by omega) b2.2;have e2:(k+1)*c.Du=k*c.Du+c.Du:=by grind
 have m2:(k+1)*c.Du<=c.Ad*c.Du:=Int.mul_le_mul_of_nonneg_right (by omega) (by omega);rw[e2]at m2;refine⟨?_,?_,m1.1,by omega⟩
 all_goals grind [K1,Ew,Ht,A1,Lc]
section
variable {K:Nat} (hK:281474976710656<=K)
include hK
theorem A8i{c:Fi}(hc:Aki c=true){p:Ef}(hm:(p.Fp.length:Int)=c.Ad*c.Du){k:Int}(h0:0<=k)(h1:k<c.Ad):Au0 K p c k=some (Aw1 c p.Fp k):=by
 obtain⟨e1,e2,e3,e4⟩:=A3z hc hm h0 h1;obtain⟨b1,b2,_⟩:=Bd hc;unfold Au0;rw[e1,e2,if_pos ⟨e3,by omega,e4⟩];unfold Aw1
 grind
theorem A7g (c:Fi)(p:Ef):A0s K c p=some (Aw2 c p):=by
 unfold A0s;rw[Avm,Ayd];simp only[Z0];cases hc:Aki c with
 |false=>simp[Aw2,hc]
 |true=>
 obtain⟨b1,b2,b3,_⟩:=Bd hc;have hby:Aoy c=c.Ad*c.Du:=by rw[Aoy,hc];rfl
 simp only[cond_true,Aw2,hc,Z30,bne];cases h1:(p.Fp.length:Int)==Aoy c with
 |false=>rfl
 |true=>
 cases h2:(p.G4.length:Int)==c.Ad with
 |false=>rfl
 |true=>
 cases h3:(p.Fq.length:Int)==c.Ad with
 |false=>rfl
 |true=>
 rw[beq_iff_eq]at h1 h2 h3;have hN:((c.Ad.toNat:Nat):Int)=c.Ad:=by omega
 simp only[Bool.not_true,cond_false,Z30];rw[Aua hK c.Ad.toNat (by omega) (A5o c p) (some true) (fun n i=>Ao3 K c n i p.Fp p.G4 p.Fq) (fun n i h=> ?_) (fun n=> ?_)]
 ·grind
 ·obtain⟨e1,e2,e3,e4⟩:=A3z hc (h1.trans hby) (k:=(i:Int)) (by omega) (by omega);have hl:(List.take (i*c.Du+c.Du - i*c.Du).toNat (List.drop (i*c.Du).toNat p.Fp)).length<=140737488355327:=by grind
  have hs:Ap c.Cd 1=c.Cd - 1:=by grind [Ap,Asu,Ht]
  have hck:List.take (i*c.Du+c.Du - i*c.Du).toNat (List.drop (i*c.Du).toNat p.Fp)=Aw1 c p.Fp i:=by
   unfold Aw1;grind
  simp only[Ao3,Awb,A09];rw[e1,e2,Ad9 (by omega),decide_eq_true (show(i:Int)<c.Ad by omega),cond_true,if_pos ⟨by omega,by omega⟩,Aml,Aml,hs,A3y hK _ (by omega),hck];simp only[Z0,bne,show((0:Int)<=(i:Int)/\(i:Int)<(p.G4.length:Int))=True from eq_true ⟨by omega,by omega⟩,show((0:Int)<=(i:Int)/\(i:Int)<(p.Fq.length:Int))=True from eq_true ⟨by omega,by omega⟩,if_true,if_pos (show(0:Int)<=i*c.Du/\(i:Int)*c.Du<=i*c.Du+c.Du/\(i:Int)*c.Du+c.Du<=(p.Fp.length:Int) from⟨e3,by omega,e4⟩)];unfold A5o
  grind
 ·show Ao3 K c (n+1) _ _ _ _=_;simp_all[Ao3]
theorem A90 (c:Fi)(p:Ef):A0x K c p=some (Aw2 c p):=by
 unfold A0x;rw[A7f,A6p];simp only[Z0];cases hc:Aki c with
 |false=>simp[Aw2,hc]
 |true=>
 obtain⟨b1,b2,b3,_⟩:=Bd hc;have hby:Aoy c=c.Ad*c.Du:=by rw[Aoy,hc];rfl
 simp only[cond_true,Aw2,hc,Z30,bne];cases h1:(p.Fp.length:Int)==Aoy c with
 |false=>rfl
 |true=>
 cases h2:(p.G4.length:Int)==c.Ad with
 |false=>rfl
 |true=>
 cases h3:(p.Fq.length:Int)==c.Ad with
 |false=>rfl
 |true=>
 rw[beq_iff_eq]at h1 h2 h3;have hN:((c.Ad.toNat:Nat):Int)=c.Ad:=by omega
 simp only[Bool.not_true,cond_false,Z30];rw[Aua hK c.Ad.toNat (by omega) (A5o c p) (some true) (fun n i=>Akw K c n p.G4 (p.G4.length:Int) i p.Fp p.G4 p.Fq) (fun n i h=> ?_) (fun n=> ?_)]
 ·grind
 ·have hs:Ap c.Cd 1=c.Cd - 1:=by grind [Ap,Asu,Ht]
  have hl:(Aw1 c p.Fp i).length<=140737488355327:=by grind [Aw1]
  simp only[Akw,Au6,A1m];rw[A8i hK hc (h1.trans hby) (by omega) (by omega),Ad9 (by omega),decide_eq_true (show(i:Int)<(p.G4.length:Int)by omega),cond_true,if_pos ⟨by omega,by omega⟩,Awh,Awh,hs];simp only[Z0,A5n hK _ (show(Aw1 c p.Fp i).length<=140737488355328 by omega),bne,show((0:Int)<=(i:Int)/\(i:Int)<(p.Fq.length:Int))=True from eq_true ⟨by omega,by omega⟩,if_true];unfold A5o
  grind
 ·show Akw K c (n+1) _ _ _ _ _ _=_;simp_all[Akw]
end
def A1v (c:Fi)(t:Bn):Prop:=Aki c=true/\1<=t.Yg/\0<=t.fAt/\t.fAt+t.Yg<=Aoy c
instance (c t):Decidable (A1v c t):=by unfold A1v;infer_instance
def At8 (c:Fi)(t:Bn):Bool:=
 decide (A1v c t)&&(bif t.Yh==0 then decide (t.Yg<=c.Du)&&(t.fAt / c.Du==(t.fAt+t.Yg - 1) / c.Du)else decide (t.Yg>c.Du)&&(t.Yh==Ax7 t.Yg c.Du&&t.fAt % c.Du==0))
theorem Ba4 (K:Nat){c:Fi}{t:Bn}(h:A1v c t):
  (bif (t.Yh==0)then(bif (decide (t.Yg<=c.Du))then(if c.Du≠(0:Int)then(if c.Du≠(0:Int)then some ((Apq .i64 t.fAt c.Du)==(Apq .i64 (Ap (A1 t.fAt t.Yg) 1) c.Du))else none)else none)else some false)else((Asj K c t.Yg).bind fun r2=>(bif r2 then((Ao7 K c t.Yg).bind fun r3=>(bif (t.Yh==r3)then(if c.Du≠(0:Int)then some ((Int.tmod t.fAt c.Du)==0)else none)else some false))else some false)))=some (At8 c t):=by
 have hd:decide (A1v c t)=true:=decide_eq_true h;obtain⟨hc,h1,h2,h3⟩:=h;have hb:=A44 c;obtain⟨b1,b2,_⟩:=Bd hc;unfold At8 Asj Ao7;rw[hd,if_pos (by omega),if_pos (by omega),A4u];have e1:Ap (A1 t.fAt t.Yg) 1=t.fAt+t.Yg - 1:=by
  unfold Ap Asu A1 Lc;rw[Ht (n:=t.fAt+t.Yg) (by omega) (by omega),Ht (by omega) (by omega)]
 have e2: ∀x:Int,0<=x->x<=192->Apq .i64 x c.Du=x / c.Du:=by
  intro x h0 hx;unfold Apq;rw[Int.tdiv_eq_ediv_of_nonneg h0];have h3:x / c.Du<=x:=Int.ediv_le_self _ h0;have h4:0<=x / c.Du:=Int.ediv_nonneg h0 (by omega)
  grind [Ht]
 grind
theorem Bfh{c:Fi}{t:Bn}(h: ¬A1v c t):At8 c t=false:=by
 grind [At8]
theorem A8w (K:Nat)(c:Fi)(t:Bn):Axj K c t=some (At8 c t):=by
 have hb:=A44 c;by_cases h:A1v c t
 ·rw[<-Ba4 K h];obtain⟨hc,h1,h2,h3⟩:=h;unfold Axj;rw[Ayd,Z0,At6 (by omega),decide_eq_false (by omega),decide_eq_false (by omega),decide_eq_false (by omega)];unfold Ap Asu;rw[Ht (by omega) (by omega),decide_eq_false (show ¬t.Yg>Aoy c - t.fAt by omega)];rfl
 ·rw[Bfh h];unfold Axj;rw[Ayd,Z0];by_cases g0:Aoy c=0
  ·grind
  ·have hc:Aki c=true:=by
    grind [Aoy]
   rw[At6 g0,cond_false];by_cases g1:t.Yg<1
   ·grind
   ·by_cases g2:t.fAt<0
    ·grind
    ·by_cases g3:t.fAt>Aoy c
     ·grind
     ·rw[decide_eq_false g1,decide_eq_false g2,decide_eq_false g3];unfold Ap Asu;rw[Ht (by omega) (by omega),decide_eq_true (show t.Yg>Aoy c - t.fAt from ?_)]
      ·rfl
      ·refine Classical.byContradiction fun g4=>h ⟨hc,by omega,by omega,by omega⟩
theorem A8x (K:Nat)(c:Fi)(t:Bn):Axw K c t=some (At8 c t):=by
 have hb:=A44 c;by_cases h:A1v c t
 ·rw[<-Ba4 K h];obtain⟨hc,h1,h2,h3⟩:=h;unfold Axw;rw[A6p,Z0,decide_eq_false (by omega),decide_eq_false (by omega),decide_eq_false (by omega)];unfold Ap Asu;rw[Ht (by omega) (by omega),decide_eq_false (show ¬t.fAt>Aoy c - t.Yg by omega)];rfl
 ·rw[Bfh h];unfold Axw;rw[A6p,Z0];by_cases g1:t.Yg<=0
  ·grind
  ·by_cases g2:t.fAt<0
   ·grind
   ·by_cases g3:t.Yg>Aoy c
    ·grind
    ·rw[decide_eq_false g1,decide_eq_false g2,decide_eq_false g3];have hc:Aki c=true:=by
      cases hc:Aki c with
      |true=>rfl
      |false=>simp_all[Aoy]
     unfold Ap Asu;rw[Ht (by omega) (by omega),decide_eq_true (show t.fAt>Aoy c - t.Yg from ?_)]
     ·rfl
     ·refine Classical.byContradiction fun g4=>h ⟨hc,by omega,by omega,by omega⟩
theorem A8j{α:Type}(l:List α)(i:Nat):(l.drop (0:Int).toNat).take ((i:Int) - 0).toNat=l.take i:=by simp
theorem Bfi{i n:Nat}(h:i<=n):((0:Int)<=0/\(0:Int)<=(i:Int)/\(i:Int)<=(n:Int)):=by grind
def Ayu (c:Fi)(l:List Int):Bool:=(List.range l.length).all (fun i=>inB (gt l i) 0 (c.Ad - 1)&& !(l.take i).contains (gt l i))
def A8y (n:Az):Bool:=
 n.Nb==0&&(n.fUp==0&&(n.G5==0&&(n.Bz==0&&(n.G6==0&&(n.G7==0&&((n.Ad.length:Int)==0&&(n.No==0&&(n.G8==0&&((n.D5.length:Int)==0&&(n.Dh.length:Int)==0)))))))))
theorem Bks (K:Nat)(n):A5i K n=some (A8y n):=by
 grind [A5i,A8y]
theorem Bkt{K:Nat}(hK:1<=K)(l:List Int):Arr K l []=some ((l.length:Int)==0):=by
 obtain⟨k,rfl⟩: ∃k,K=k+1:=⟨K - 1,by omega⟩;cases l with
 |nil=>rfl
 |cons x l=>rfl
theorem Bhc{K:Nat}(hK:1<=K)(l:List Bn):Av5 K l []=some ((l.length:Int)==0):=by
 obtain⟨k,rfl⟩: ∃k,K=k+1:=⟨K - 1,by omega⟩;cases l with
 |nil=>rfl
 |cons x l=>rfl
theorem Bku{K:Nat}(hK:1<=K)(n):A5k K n=some (A8y n):=by
 simp_all[A5k,A4a,Ayc,A8y,Bkt,Bhc]
def A8z (c:Fi)(n:Az):Bool:=bif n.No==0 then n.G8==0 else n.Ad.contains (Ap n.No 1)&&inB n.G8 0 c.Du
def Ba5 (c:Fi)(n:Az):Bool:=
 (inB n.fUp 0 c.Cd&&(inB n.Bz 0 c.Cd&&(inB n.G6 0 c.Cd&&inB n.G7 0 c.Cd)))&&((!decide (n.Nb<0)&& !decide (n.G5<0))&&((Ayu c n.Ad&&A8z c n)&&((decide ((n.D5.length:Int)<=12)&&decide ((n.Dh.length:Int)<=6))&&(n.Dh.all (fun x=>inB x 0 255)&&n.D5.all (At8 c)))))
def Ava (c:Fi)(n:Az):Bool:=Aki c&&(inB n.G4 0 3&&(inB n.C7 1 c.Dv&&(bif n.G4 != 1 then A8y n else Ba5 c n)))
section
variable {K:Nat} (hK:281474976710656<=K)
include hK
theorem A0h{c:Fi}(hc:Aki c=true):Ap c.Ad 1=c.Ad - 1:=by
 obtain⟨b1,_⟩:=Bd hc
 grind [Ap,Asu,Ht]
theorem A8b{c:Fi}(hc:Aki c=true)(l:List Int)(hl:l.length<=140737488355327):Ayr K c l=some (Ayu c l):=by
 unfold Ayr;rw[Aua hK l.length (by omega) (fun i=>inB (gt l i) 0 (c.Ad - 1)&& !(l.take i).contains (gt l i)) (some true) (fun n i=>Ate K c l n l (l.length:Int) i) (fun n i h=> ?_) (fun n=> ?_)]
 ·grind [Ayu]
 ·have hp:(l.take i).length<=140737488355328:=by grind
  simp only[Ate];rw[Afb h,cond_true,if_pos (Ald h),Awh,if_pos (Bfi (by omega)),A8j,A7e hK _ _ hp,Ad9 (by omega),A0h hK hc]
  grind
 ·show Ate K c l (n+1) _ _ _=_;simp_all[Ate]
theorem Bch{c:Fi}(hc:Aki c=true)(n:Az)(hl:n.Ad.length<=140737488355327):A1b K c n=some (Ayu c n.Ad&&A8z c n):=by
 unfold A1b;rw[Aua hK n.Ad.length (by omega) (fun i=>inB (gt n.Ad i) 0 (c.Ad - 1)&& !(n.Ad.take i).contains (gt n.Ad i)) (some (A8z c n)) (fun k i=>Asi K c k i n.G4 n.C7 n.Nb n.fUp n.G5 n.Bz n.G6 n.G7 n.Ad n.No n.G8 n.D5 n.Dh) (fun k i h=> ?_) (fun k=> ?_)]
 ·rw[Ayc];rfl
 ·have hp:(n.Ad.take i).length<=140737488355328:=by grind
  simp only[Asi];rw[Afb h,cond_true,if_pos (Ald h),Aml,if_pos (Bfi (by omega)),A8j,A43 hK _ _ hp,Ad9 (by omega),A0h hK hc]
  grind
 ·show Asi K c (k+1) _ _ _ _ _ _ _ _ _ _ _ _ _ _=_;rw[Asi,Ayt (Z9 _),cond_false,A43 hK _ _ (by omega),Aml];unfold A8z
  grind
theorem A52 (l:List Int)(hl:l.length<=140737488355328):Awf K l=some (l.all (fun x=>inB x 0 255)):=by
 unfold Awf Ak3 Amx;rw[A7z hK l hl (Ay9 K) (fun x=> !inB x 0 255) (fun x _=>by simp[Ay9,Awh]) (Ahw K l) (fun n N i=>rfl)]
 grind
theorem Azv (c:Fi)(n:Az)(h1:n.Ad.length<=140737488355327)(h2:n.D5.length<=140737488355327)(h3:n.Dh.length<=140737488355327):Aun K c n=some (Ava c n):=by
 unfold Aun;rw[Avm,Bks];simp only[Z0,Aml];cases hc:Aki c with
 |false=>simp[Ava,hc]
 |true=>
 rw[Bch hK hc n h1];have hA:Au3 K n.Dh K 0=some (n.Dh.all (fun x=>inB x 0 255)):=by
  rw[Aw5 hK n.Dh (by omega) (fun x=>inB x 0 255) (some true) (Au3 K n.Dh) (fun k i h=> ?_) (fun k=> ?_)]
  ·grind
  ·rw[Au3,Afb h,cond_true,if_pos (Ald h),Wx h,Aml,Ad9 (by omega),Z0,Aht]
  simp_all[Au3]
 have hB:At1 K c K 0 n.G4 n.C7 n.Nb n.fUp n.G5 n.Bz n.G6 n.G7 n.Ad n.No n.G8 n.D5 n.Dh=some (n.Dh.all (fun x=>inB x 0 255)&&n.D5.all (At8 c)):=by
  rw[Aw5 hK n.D5 (by omega) (At8 c) (some (n.Dh.all (fun x=>inB x 0 255))) (fun k i=>At1 K c k i n.G4 n.C7 n.Nb n.fUp n.G5 n.Bz n.G6 n.G7 n.Ad n.No n.G8 n.D5 n.Dh) (fun k i h=> ?_) (fun k=> ?_)]
  ·grind
  ·simp only[At1];rw[Afb h,cond_true,if_pos (Ald h),Wx h,A8w,Ad9 (by omega),Z0,Aht]
  ·show At1 K c (k+1) _ _ _ _ _ _ _ _ _ _ _ _ _ _=_;simp_all[At1]
 rw[hB];have e12:decide ((n.D5.length:Int)>12)= !decide ((n.D5.length:Int)<=12):=by grind
 have e6:decide ((n.Dh.length:Int)>6)= !decide ((n.Dh.length:Int)<=6):=by grind
 simp only[Z0,cond_true,e12,e6,Aht,Ayc,Bo7];unfold Ava Ba5
 grind
theorem Bfj (c:Fi)(n:Az)(h1:n.Ad.length<=140737488355327)(h2:n.D5.length<=140737488355327)(h3:n.Dh.length<=140737488355327):A3u K c n=some (Ava c n):=by
 unfold A3u;rw[A7f,Bku (by omega)];simp only[Z0,Awh];cases hc:Aki c with
 |false=>simp[Ava,hc]
 |true=>
 have hT:Akh K n.D5 c=some (n.D5.any (fun t=> !At8 c t)):=
  A7z hK n.D5 (by omega) (fun t=>A1n K t c) (fun t=> !At8 c t) (fun x _=>by simp[A1n,A8x]) (Adz K n.D5 c) (fun n N i=>rfl)
 have hJ:Au8 K c n.D5 n.Dh=some ((decide ((n.D5.length:Int)<=12)&&decide ((n.Dh.length:Int)<=6))&&(n.Dh.all (fun x=>inB x 0 255)&&n.D5.all (At8 c))):=by
  unfold Au8;rw[hT,A52 hK _ (by omega)];simp only[Z0,Ayc,List.not_any_eq_all_not,Bool.not_not,Z7]
  ac_rfl
 obtain⟨_,b2,_⟩:=Bd hc;have hB:At4 K c K ([n.fUp,n.Bz,n.G6,n.G7]:List Int) (([n.fUp,n.Bz,n.G6,n.G7]:List Int).length:Int) 0 n.G4 n.C7 n.Nb n.fUp n.G5 n.Bz n.G6 n.G7 n.Ad n.No n.G8 n.D5 n.Dh=some (Ba5 c n):=by
  rw[Aw5 hK ([n.fUp,n.Bz,n.G6,n.G7]:List Int) (by simp) (fun x=>inB x 0 c.Cd) (some ((!decide (n.Nb<0)&& !decide (n.G5<0))&&((Ayu c n.Ad&&A8z c n)&&((decide ((n.D5.length:Int)<=12)&&decide ((n.Dh.length:Int)<=6))&&(n.Dh.all (fun x=>inB x 0 255)&&n.D5.all (At8 c)))))) (fun k i=>At4 K c k ([n.fUp,n.Bz,n.G6,n.G7]:List Int) (([n.fUp,n.Bz,n.G6,n.G7]:List Int).length:Int) i n.G4 n.C7 n.Nb n.fUp n.G5 n.Bz n.G6 n.G7 n.Ad n.No n.G8 n.D5 n.Dh) (fun k i h=> ?_) (fun k=> ?_)]
  ·simp_all[Ba5,Ayc]
  ·simp only[At4];rw[Afb h,cond_true,if_pos (Ald h),Wx h,Awh,Ad9 (by grind),Z0,Aht]
  ·show At4 K c (k+1) _ _ _ _ _ _ _ _ _ _ _ _ _ _ _ _=_;rw[At4,Ayt (Z9 _),cond_false,hJ,A8b hK hc _ h1,A7e hK _ _ (by omega),Awh];simp only[Z0,bne,Aht,Ayc,Bo7];unfold A8z;have hz:(n.G8==0)=true->inB n.G8 0 c.Du=true:=by
    intro h;rw[beq_iff_eq]at h;rw[Wy];omega
   grind
 rw[hB];simp only[cond_true,Aht,Ayc];unfold Ava
 grind
end
theorem Bi7{α β:Type}(l:List α)(q:α->Bool)(fin bad:Option β)(L:Nat->Int->Option β)
  (hs: ∀n (i:Nat) (h:i<l.length),L (n+1) (i:Int)=bif q l[i]then L n ((i+1:Nat):Int)else bad)
  (he: ∀n,L (n+1) (l.length:Int)=fin):
  ∀(n i:Nat),i<=l.length->l.length - i<n->L n (i:Int)=bif (l.drop i).all q then fin else bad:=by
 intro n;induction n with
 |zero=>omega
 |succ n ih=>
  intro i hi hn;rcases Hi i l.length with h|h
  ·rw[hs n i h,Z47 h,Gv];cases q l[i]with
   |false=>rfl
   |true=>grind
  grind
theorem Bkv{β:Type}{K:Nat}(hK:281474976710656<=K)(N:Nat)(hl:N<=140737488355328)(q:Nat->Bool)(fin bad:Option β)(L:Nat->Int->Option β)
  (hs: ∀n (i:Nat) (h:i<N),L (n+1) (i:Int)=bif q i then L n ((i+1:Nat):Int)else bad)
  (he: ∀n,L (n+1) (N:Int)=fin):L K 0=bif (List.range N).all q then fin else bad:=by
 have:=Bi7 (List.range N) q fin bad L (fun n i h=>by grind) (fun n=>by grind) K 0 (Z21 _) (by grind)
 grind
def A45 (t:Bn):Prop:=0<=t.fAt/\t.fAt<=200/\0<=t.Yg/\t.Yg<=200
theorem A6a{c:Fi}{t:Bn}(h:At8 c t=true):A45 t/\A1v c t:=by
 have h1:A1v c t:=by
  unfold At8 at h
  grind
 have hb:=A44 c;obtain⟨h2,h3,h4,h5⟩:=h1;exact⟨⟨h4,by omega,by omega,by omega⟩,h2,h3,h4,h5⟩
def Apf (a b:Bn):Bool:=decide (a.Yg<=0\/b.Yg<=0\/a.fAt+a.Yg<=b.fAt\/b.fAt+b.Yg<=a.fAt)
theorem Bfk (a b:Bn):Apf a b=Apf b a:=by
 unfold Apf
 grind
theorem Bhd (K:Nat){a b:Bn}(ha:A45 a)(hb:A45 b):A4i K a b=some (Apf a b):=by
 obtain⟨a1,a2,a3,a4⟩:=ha;obtain⟨b1,b2,b3,b4⟩:=hb;unfold A4i Ap Asu;rw[Ht (n:=b.fAt - a.fAt) (by omega) (by omega),Ht (n:=a.fAt - b.fAt) (by omega) (by omega)];simp only[A42];have: ∀x:Bool,x=Apf a b->some x=some (Apf a b):=fun x h=>by rw[h]
 by_cases h:a.fAt<=b.fAt
 ·rw[decide_eq_true h,cond_true,A42,A42];refine this _ ?_;rw[Bool.eq_iff_iff];simp only[Apf,Bool.or_eq_true,decide_eq_true_eq];omega
 ·rw[decide_eq_false h,cond_false,A42,A42];refine this _ ?_;rw[Bool.eq_iff_iff];simp only[Apf,Bool.or_eq_true,decide_eq_true_eq];omega
theorem Ba6 (K:Nat){a b:Bn}(ha:A45 a)(hb:A45 b):A2v K a b=some (Apf a b):=by
 obtain⟨a1,a2,a3,a4⟩:=ha;obtain⟨b1,b2,b3,b4⟩:=hb;unfold A2v A2u Asu;simp only[IntKind.wrap_u64];have: ∀x:Bool,x=Apf a b->some x=some (Apf a b):=fun x h=>by rw[h]
 by_cases h:a.fAt>b.fAt
 ·rw[decide_eq_true h,cond_true,A42,A42];refine this _ ?_;rw[Bool.eq_iff_iff];simp only[Apf,Bool.or_eq_true,decide_eq_true_eq];omega
 ·rw[decide_eq_false h,cond_false,A42,A42];refine this _ ?_;rw[Bool.eq_iff_iff];simp only[Apf,Bool.or_eq_true,decide_eq_true_eq];omega
def At0 (l:List Bn):Bool:=(List.range l.length).all (fun i=>(l.take i).all (fun o=>Apf o (gt l i)))
def Av4 (c:Fi)(chunks:List Int)(t:Bn):Bool:=
 At8 c t&&(List.range ((t.fAt+t.Yg - 1) / c.Du - t.fAt / c.Du+1).toNat).all (fun j=>chunks.contains (t.fAt / c.Du+(j:Int)))
theorem Bcx{c:Fi}{t:Bn}(h:At8 c t=true):
  c.Du≠0/\Apq .i64 t.fAt c.Du=t.fAt / c.Du/\Apq .i64 (Ap (A1 t.fAt t.Yg) 1) c.Du=(t.fAt+t.Yg - 1) / c.Du/\0<=t.fAt / c.Du/\t.fAt / c.Du<=(t.fAt+t.Yg - 1) / c.Du/\(t.fAt+t.Yg - 1) / c.Du<=192:=by
 obtain⟨hs,hc,h1,h2,h3⟩:=A6a h;have hb:=A44 c;obtain⟨b1,b2,_⟩:=Bd hc;have e1:Ap (A1 t.fAt t.Yg) 1=t.fAt+t.Yg - 1:=by
  unfold Ap Asu A1 Lc;rw[Ht (n:=t.fAt+t.Yg) (by omega) (by omega),Ht (by omega) (by omega)]
 have e2: ∀x:Int,0<=x->x<=192->Apq .i64 x c.Du=x / c.Du/\0<=x / c.Du/\x / c.Du<=192:=by
  intro x h0 hx;have h3:x / c.Du<=x:=Int.ediv_le_self _ h0;have h4:0<=x / c.Du:=Int.ediv_nonneg h0 (by omega)
  grind [Apq,Ht]
 obtain⟨x1,x2,x3⟩:=e2 t.fAt h2 (by omega);obtain⟨y1,y2,y3⟩:=e2 (t.fAt+t.Yg - 1) (by omega) (by omega);refine⟨by omega,x1,by grind,x2,Int.ediv_le_ediv (by omega) (by omega),y3⟩
theorem Bu2{a:Int}{j:Nat}(h0:0<=a)(h:a+j<=140737488355328):A1 (a+(j:Int)) 1=a+((j+1:Nat):Int):=by
 grind [A1,Lc,Ht]
section
variable {K:Nat} (hK:281474976710656<=K)
include hK
theorem Bci (l:List Bn)(hl:l.length<=140737488355327)(hs: ∀t∈l,A45 t):A1j K l=some (At0 l):=by
 unfold A1j At0;rw[Aua hK l.length (by omega) (fun i=>(l.take i).all (fun o=>Apf o (gt l i))) (some true) (fun n i=>Amj K l n i) (fun n i h=> ?_) (fun n=> ?_)]
 ·grind
 ·simp only[Amj];rw[Afb h,cond_true];have hlen:(l.take i).length=i:=by grind
  rw[Aw5 hK (l.take i) (by omega) (fun o=>Apf o (gt l i)) (Amj K l n (A1 i 1)) (fun m j=>Aso K l i (Amj K l n) m j) (fun m j hj=> ?_) (fun m=> ?_)]
  ·grind [Ad9]
  ·have hj':j<i:=by omega
   simp only[Aso];rw[Afb hj',cond_true,if_pos (Ald h),if_pos (Ald (show j<l.length by omega)),Bhd K (hs _ (Aty h)) (hs _ (Aty (show j<l.length by omega))),Z0,Aht,Ad9 (by omega),Bfk,List.getElem_take,Wx (show j<l.length by omega)]
  ·show Aso K l i _ (m+1) _=_;simp_all[Aso]
 ·show Amj K l (n+1) _=_;simp_all[Amj]
theorem Bcj (l:List Bn)(hl:l.length<=140737488355327)(hs: ∀t∈l,A45 t):A1p K l=some (At0 l):=by
 unfold A1p At0;rw[Aua hK l.length (by omega) (fun i=>(l.take i).all (fun o=>Apf o (gt l i))) (some true) (fun n i=>Atf K l n l (l.length:Int) i) (fun n i h=> ?_) (fun n=> ?_)]
 ·grind
 ·simp only[Atf];have hlen:(l.take i).length=i:=by grind
  have hC:Ahz K (l.take i) (gt l i)=some ((l.take i).any (fun o=> !Apf o (gt l i))):=
   A7z hK (l.take i) (by omega) (fun t=>Aza K t (gt l i)) (fun o=> !Apf o (gt l i)) (fun x hx=>by
    grind [Aza,Ba6,Aty]) (Acn K (l.take i) (gt l i)) (fun n N i=>rfl)
  rw[Afb h,cond_true,if_pos (Ald h),if_pos (Bfi (by omega)),A8j,hC,Ad9 (by omega),Z0,List.any_eq_not_all_not,Aht]
  grind
 ·show Atf K l (n+1) _ _ _=_;simp_all[Atf]
theorem Bck (c:Fi)(n:Az)(h1:n.Ad.length<=140737488355327)(h2:n.D5.length<=140737488355327):A1o K c n=some (n.D5.all (Av4 c n.Ad)):=by
 unfold A1o;have h1t: ∀t,Awr K t c n=some (!Av4 c n.Ad t):=by
  intro t;unfold Awr Av4;rw[A8x,Z0,Aht];cases ht:At8 c t with
  |false=>rfl
  |true=>
   obtain⟨d0,d1,d2,d3,d4,d5⟩:=Bcx ht;rw[cond_true,if_pos d0,d1];have:=Bkv hK ((t.fAt+t.Yg - 1) / c.Du - t.fAt / c.Du+1).toNat (by omega) (fun j=>n.Ad.contains (t.fAt / c.Du+(j:Int))) (some false) (some true) (fun m j=>Ape K t c n m (t.fAt / c.Du+j)) (fun m j hj=> ?_) (fun m=> ?_)
   ·grind
   ·simp only[Ape];rw[if_pos d0,d2,decide_eq_true (by omega),cond_true,A7e hK _ _ (by omega),Z0,Aht,Bu2 d3 (by omega)]
   ·show Ape K t c n (m+1) _=_;rw[Ape,if_pos d0,d2,decide_eq_false (by omega),cond_false]
 have hC:Ahy K n.D5 c n=some (n.D5.any (fun t=> !Av4 c n.Ad t)):=
  A7z hK n.D5 (by omega) (fun t=>Awr K t c n) (fun t=> !Av4 c n.Ad t) (fun x _=>h1t x) (Acm K n.D5 c n) (fun n N i=>rfl)
 grind
theorem Bcl (c:Fi)(n:Az)(h1:n.Ad.length<=140737488355327)(h2:n.D5.length<=140737488355327):A1i K c n=some (n.D5.all (Av4 c n.Ad)):=by
 unfold A1i;rw[Aw5 hK n.D5 (by omega) (Av4 c n.Ad) (some true) (fun k i=>Ami K c k i n.G4 n.C7 n.Nb n.fUp n.G5 n.Bz n.G6 n.G7 n.Ad n.No n.G8 n.D5 n.Dh) (fun k i h=> ?_) (fun k=> ?_)]
 ·grind
 ·simp only[Ami];rw[Afb h,cond_true,if_pos (Ald h),Wx h,A8w,Z0,Aht];unfold Av4;generalize n.D5[i]=t;cases ht:At8 c t with
  |false=>rfl
  |true=>
   obtain⟨d0,d1,d2,d3,d4,d5⟩:=Bcx ht;rw[cond_true,if_pos d0,d1,Z30];have:=Aua hK ((t.fAt+t.Yg - 1) / c.Du - t.fAt / c.Du+1).toNat (by omega) (fun j=>n.Ad.contains (t.fAt / c.Du+(j:Int))) (Ami K c k ((i+1:Nat):Int) n.G4 n.C7 n.Nb n.fUp n.G5 n.Bz n.G6 n.G7 n.Ad n.No n.G8 n.D5 n.Dh)
    (fun m j=>Asn K c i n.G4 n.C7 n.Nb n.fUp n.G5 n.Bz n.G6 n.G7 n.Ad n.No n.G8 n.D5 n.Dh (Ami K c k) m (t.fAt / c.Du+j) t) (fun m j hj=> ?_) (fun m=> ?_)
   ·grind
   ·simp only[Asn];rw[if_pos d0,d2,decide_eq_true (by omega),cond_true,A43 hK _ _ (by omega),Z0,Aht,Bu2 d3 (by omega)]
   ·show Asn K c i _ _ _ _ _ _ _ _ _ _ _ _ _ _ (m+1) _ _=_;rw[Asn,if_pos d0,d2,decide_eq_false (by omega),cond_false,Ad9 (by omega)]
 ·show Ami K c (k+1) _ _ _ _ _ _ _ _ _ _ _ _ _ _=_;simp_all[Ami]
end
def wfi (x:Int):Prop:= -9223372036854775808<=x/\x<=9223372036854775807
def A30 (l:List Int):Prop:=(∀x∈l,wfi x)/\l.length*8<=140737488355327
def Bhe (l:List Int):Prop:=(∀x∈l,0<=x/\x<=255)/\l.length<=140737488355327
def ThingW (t:Bn):Prop:=wfi t.fAt/\wfi t.Yg/\wfi t.Yh
def Bdq (l:List Bn):Prop:=(∀x∈l,ThingW x)/\l.length*24<=140737488355327
structure At7 (n:Az):Prop where
 st:wfi n.G4
 gen:wfi n.C7
 ep:wfi n.Nb
 up:wfi n.fUp
 upEp:wfi n.G5
 first:wfi n.Bz
 next:wfi n.G6
 prev:wfi n.G7
 chunks:A30 n.Ad
 cur:wfi n.No
 bump:wfi n.G8
 things:Bdq n.D5
 tags:A30 n.Dh
def Aeh (l:List Az):Prop:=(∀x∈l,At7 x)/\l.length*152<=140737488355327
structure A0m (x:Bb):Prop where
 slot:wfi x.Be
 first:wfi x.Bz
 tags:A30 x.Dh
 chunks:A30 x.Ad
 done:wfi x.H2
def Bap (l:List Bb):Prop:=(∀x∈l,A0m x)/\l.length*72<=140737488355327
structure ConfW (c:Fi):Prop where
 chunks:wfi c.Ad
 size:wfi c.Du
 slots:wfi c.Cd
 tax:wfi c.Ez
 slice:wfi c.Ce
 gens:wfi c.Dv
structure A0k (p:Ef):Prop where
 mem:Bhe p.Fp
 st:A30 p.G4
 own:A30 p.Fq
structure Ar0 (w:Bo):Prop where
 c:ConfW w.fC
 p:A0k w.fP
 l:Aeh w.fL
 q:Bap w.fQ
 log:A30 w.Jp
theorem V1:140737488355328<=maxLen:=by unfold maxLen;omega
theorem A9m{α:Type}(x:Option α):Amh x x=x:=by simp[Amh]
theorem Ay2 (K:Nat){l:List Int}(h:l.length*8<=140737488355327):Aco K l=some l:=by
 have hm:=V1;unfold Aco;rw[Z38,if_pos ⟨by omega,by omega⟩]
 grind [A9m]
theorem Bhf (K:Nat){l:List Int}(h:l.length<=140737488355327):Aw4 K l=some l:=by
 have hm:=V1;unfold Aw4;rw[Z38,if_pos ⟨by omega,by omega⟩]
 grind [A9m]
theorem Bfl (K:Nat){l:List Bn}(h:l.length*24<=140737488355327):At9 K l=some l:=by
 have hm:=V1;unfold At9;rw[Z38,if_pos ⟨by omega,by omega⟩]
 grind [A9m]
theorem Bi8{α:Type}(N:Nat)(q:Nat->Bool)(g:Nat->α)(L:Nat->List α->Int->Option (List α))
  (hs: ∀n v (i:Nat),i<N->v.length<=i->L (n+1) v (i:Int)=bif q i then L n (v++[g i]) ((i+1:Nat):Int)else L n v ((i+1:Nat):Int))
  (he: ∀n v,L (n+1) v (N:Int)=some v):
  ∀(n i:Nat) (v:List α),i<=N->v.length<=i->N - i<n->L n v (i:Int)=some (v++(((List.range N).drop i).filter q).map g):=by
 intro n;induction n with
 |zero=>omega
 |succ n ih=>
  intro i v hi hv hn;rcases Hi i N with h|h
  ·rw[hs n v i h hv,Z47 (by grind),List.getElem_range,List.filter_cons]
   grind
  grind [List.drop_eq_nil_of_le]
def Ay4 (p:Ef)(k:Int):List Int:=((List.range (min p.G4.length p.Fq.length)).filter (fun i:Nat=>gt p.G4 i==1&&gt p.Fq i==k)).map (fun i:Nat=>(i:Int))
theorem Bhg (p:Ef)(k:Int):(Ay4 p k).length<=min p.G4.length p.Fq.length:=by
 grind [Ay4]
theorem A53 (p:Ef)(k:Int):(Ay4 p k).Pairwise (fun a b=>a<b):=by
 grind [Ay4,List.pairwise_lt_range]
theorem A91{l:List Int}: ∀ {o:List Int},o.Nodup->(∀x∈o,x∈l)->o.length=l.length->o.Perm l:=by
 intro o;induction o generalizing l with
 |nil=>grind
 |cons x o ih=>
  intro hn hs hl;have hx:x∈l:=hs x (by simp);rw[List.nodup_cons]at hn;have h2:o.Perm (l.erase x):=ih hn.2 (fun y hy=>by
   grind) (by grind)
  grind [List.perm_cons_erase]
def A5p (p:Ef)(k:Int)(l:List Int):Bool:=(Ay4 p k).all (fun x=>l.contains x)&&((Ay4 p k).length:Int)==(l.length:Int)
theorem Bso (p:Ef)(k:Int)(l:List Int):decide (l.mergeSort (fun x y=>decide (x<=y))=Ay4 p k)=A5p p k l:=by
 rw[Bool.eq_iff_iff];unfold A5p;simp only[decide_eq_true_eq,Z4,Z1,List.contains_iff_mem,beq_iff_eq];have hp:=List.mergeSort_perm l (fun x y=>decide (x<=y));constructor
 ·intro e;rw[e]at hp;exact⟨fun x hx=>hp.mem_iff.1 hx,by have:=hp.length_eq;omega⟩
 ·rintro⟨h1,h2⟩
  have hn:(Ay4 p k).Nodup:=(A53 p k).imp fun h=>by omega
  have h3:=A91 hn h1 (by omega);refine List.Perm.eq_of_pairwise (le:=fun a b=>a<=b) (fun a b _ _ h1 h2=>by omega) ?_ ((A53 p k).imp fun h=>by omega) (hp.trans h3.symm)
  grind [List.pairwise_mergeSort]
theorem Bkw{a b:List Int}(h:a.length=b.length):(List.range a.length).all (fun i=>gt a i==gt b i)=decide (a=b):=by
 rw[Bool.eq_iff_iff];simp only[Z1,List.mem_range,beq_iff_eq,decide_eq_true_eq]
 grind [List.ext_getElem,Wx]
section
variable {K:Nat} (hK:281474976710656<=K)
include hK
theorem Bkx (a b:List Int)(ha:a.length<=140737488355327):Arr K a b=some (decide (a=b)):=by
 unfold Arr;by_cases h:a.length=b.length
 ·rw[show((a.length:Int) != (b.length:Int))=false by simp[h],cond_false,<-Bkw h];rw[Aua hK a.length (by omega) (fun i=>gt a i==gt b i) (some true) (fun n i=>Amv K a b n (a.length:Int) i) (fun n i hi=> ?_) (fun n=> ?_)]
  ·grind
  ·simp only[Amv];rw[Afb hi,cond_true,if_pos (Ald hi),if_pos (Ald (show i<b.length by omega)),Ad9 (by omega),bne,Aht]
  ·show Amv K a b (n+1) _ _=_;simp_all[Amv.eq_2]
 ·rw[A20 (by omega),cond_true,decide_eq_false (fun e=>h (by rw[e]))]
theorem A80 (p:Ef)(k:Int)(h1:p.G4.length*8<=140737488355327):Azj K p k=some (Ay4 p k):=by
 have hm:=V1;unfold Azj;have:=Bi8 (min p.G4.length p.Fq.length) (fun i:Nat=>gt p.G4 i==1&&gt p.Fq i==k) (fun i:Nat=>(i:Int)) (fun n v i=>Ao6 K k n v i p.Fp p.G4 p.Fq) (fun n v i hi hv=> ?_) (fun n v=> ?_) K 0 [] (Z21 _) (Z9 _) (by omega)
 ·assumption
 ·have h2:(v++([(i:Int)]:List Int)).length=v.length+1:=by simp
  simp only[Ao6,Axe];rw[Afb (by omega),Afb (by omega),cond_true,cond_true,if_pos (Ald (by omega)),if_pos (Ald (by omega)),Ad9 (by omega),if_pos ⟨by omega,by omega⟩]
  grind
 ·show Ao6 K k (n+1) v _ _ _ _=_;rw[Ao6]
  grind
theorem Bdr (p:Ef)(k:Int)(h1:p.G4.length*8<=140737488355327):A2t K p k=some (Ay4 p k):=by
 have hm:=V1;unfold A2t;have e:Ada (p.G4.length:Int) (p.Fq.length:Int)=((min p.G4.length p.Fq.length:Nat):Int):=by grind [Ada]
 rw[e];have:=Bi8 (min p.G4.length p.Fq.length) (fun i:Nat=>gt p.G4 i==1&&gt p.Fq i==k) (fun i:Nat=>(i:Int)) (fun n v i=>Ao9 K k n v ((min p.G4.length p.Fq.length:Nat):Int) i p.Fp p.G4 p.Fq) (fun n v i hi hv=> ?_) (fun n v=> ?_) K 0 [] (Z21 _) (Z9 _) (by omega)
 ·assumption
 ·have h2:(v++([(i:Int)]:List Int)).length=v.length+1:=by simp
  simp only[Ao9,Axx];rw[Afb hi,cond_true,if_pos (Ald (by omega)),if_pos (Ald (by omega)),Ad9 (by omega),if_pos ⟨by omega,by omega⟩]
  grind
 ·show Ao9 K k (n+1) v _ _ _ _ _=_;simp_all[Ao9]
theorem Ba7 (w:Bo)(k:Nat)(hk:k<w.fL.length)(h1:w.fP.G4.length*8<=140737488355327)(h2:(gt w.fL k).Ad.length<=140737488355327):A0a K w k=some (A5p w.fP k (gt w.fL k).Ad):=by
 unfold A0a;rw[A80 hK _ _ h1,Z0];have hl:=Bhg w.fP k;rw[Aw5 hK (Ay4 w.fP k) (by omega) (fun x=>(gt w.fL k).Ad.contains x) (some (((Ay4 w.fP k).length:Int)==((gt w.fL k).Ad.length:Int))) (fun n i=>Aro K k (Ay4 w.fP k) n i w.fC.Ad w.fC.Du w.fC.Cd w.fC.Ez w.fC.Ce w.fC.Dv w.fP.Fp w.fP.G4 w.fP.Fq w.fL w.fQ w.Jp) (fun n i hi=> ?_) (fun n=> ?_)]
 ·rw[Ayc];rfl
 ·simp only[Aro];rw[Afb hi,cond_true,if_pos (Ald hk),if_pos (Ald hi),A43 hK _ _ (by omega),Z0,Aht,Ad9 (by omega),Wx hi]
 ·show Aro K k (Ay4 w.fP k) (n+1) _ _ _ _ _ _ _ _ _ _ _ _ _=_;simp_all[Aro]
end
def Aze (c:Fi)(n:Az):Bn:=Bn.mk ((n.No - 1)*c.Du+n.G8) (c.Du - n.G8) 0
def Av6 (c:Fi)(mem:List Int)(n:Az):Bool:=
 n.No==0||(Ary ((mem.drop (Aze c n).fAt.toNat).take (Aze c n).Yg.toNat)&&n.D5.all (fun t=>Apf t (Aze c n)))
theorem Bky{c:Fi}{n:Az}(h:Ava c n=true)(h1:n.G4=1):Aki c=true/\Ba5 c n=true:=by
 simp_all[Ava]
theorem Bcy{c:Fi}{n:Az}(h:Ava c n=true)(h1:n.G4≠1):A8y n=true:=by
 simp_all[Ava]
theorem Byf{c:Fi}{n:Az}(hw:At7 n)(h:Ava c n=true)(h1:n.No≠0):n.G4=1/\1<=n.No/\n.No<=c.Ad/\0<=n.G8/\n.G8<=c.Du:=by
 by_cases h2:n.G4=1
 ·refine⟨h2,?_⟩;obtain⟨hc,hl⟩:=Bky h h2;obtain⟨b1,_⟩:=Bd hc;unfold Ba5 at hl;simp only[Z4]at hl;have hd:=hl.2.2.1.1;have hcu:=hl.2.2.1.2;unfold A8z at hcu;rw[At6 h1,cond_false,Z4,List.contains_iff_mem,Wy]at hcu;obtain⟨i,hi,e⟩:=List.mem_iff_getElem.1 hcu.1;unfold Ayu at hd;rw[Z1]at hd;have:=hd i (by grind);rw[Z4,Wx hi,e,Wy]at this;have h3:=this.1;obtain⟨w1,w2⟩:=hw.cur;unfold Ap Asu at h3;rw[IntKind.wrap_i64]at h3;omega
 ·have:=Bcy h h2;simp_all[A8y]
theorem Bi9{c:Fi}{p:Ef}{n:Az}(hp:Aw2 c p=true)(hw:At7 n)(h:Ava c n=true)(h1:n.No≠0):
  A1 (K1 (Ap n.No 1) c.Du) n.G8=(Aze c n).fAt/\Ap c.Du n.G8=(Aze c n).Yg/\K1 n.No c.Du=(Aze c n).fAt+(Aze c n).Yg/\A45 (Aze c n)/\(Aze c n).fAt+(Aze c n).Yg<=(p.Fp.length:Int):=by
 obtain⟨h2,c1,c2,c3,c4⟩:=Byf hw h h1;obtain⟨hc,hm,_⟩:=Avt hp;obtain⟨b1,b2,_⟩:=Bd hc;have m1:=Azd (a:=n.No - 1) (b:=c.Du) (m:=11) (n:=16) (by omega) (by omega) (by omega) b2.2;have e2:n.No*c.Du=(n.No - 1)*c.Du+c.Du:=by grind
 have m2:n.No*c.Du<=c.Ad*c.Du:=Int.mul_le_mul_of_nonneg_right (by omega) (by omega);unfold Aze A45 A1 Lc Ap Asu K1 Ew;simp only;rw[Ht (n:=n.No - 1) (by omega) (by omega),Ht (n:=(n.No - 1)*c.Du) (by omega) (by omega),Ht (n:=(n.No - 1)*c.Du+n.G8) (by omega) (by omega),Ht (n:=c.Du - n.G8) (by omega) (by omega),Ht (n:=n.No*c.Du) (by omega) (by omega)];omega
theorem Ba8{c:Fi}{l:List Bn}{ch:List Int}(h:l.all (Av4 c ch)=true): ∀t∈l,A45 t/\1<=t.Yg:=by
 intro t ht;rw[Z1]at h;have:=h t ht;unfold Av4 at this;rw[Z4]at this;obtain⟨h1,h2⟩:=A6a this.1;exact⟨h1,h2.2.1⟩
def A81 (w:Bo)(k:Nat):Bool:=
 Ava w.fC (gt w.fL k)&&(A5p w.fP k (gt w.fL k).Ad&&((gt w.fL k).D5.all (Av4 w.fC (gt w.fL k).Ad)&&(At0 (gt w.fL k).D5&&Av6 w.fC w.fP.Fp (gt w.fL k))))
section
variable {K:Nat} (hK:281474976710656<=K)
include hK
theorem A3e{l:List Int}(h:A30 l):l.length<=140737488355327:=by have:=h.2;omega
theorem Bja{l:List Bn}(h:Bdq l):l.length<=140737488355327:=by have:=h.2;omega
theorem Bhh (w:Bo)(k:Nat)(hk:k<w.fL.length)(hp:Aw2 w.fC w.fP=true)(hw:At7 (gt w.fL k))(hn:Ava w.fC (gt w.fL k)=true)(hs: ∀t∈(gt w.fL k).D5,A45 t/\1<=t.Yg):A1k K w k=some (Av6 w.fC w.fP.Fp (gt w.fL k)):=by
 unfold A1k;rw[if_pos (Ald hk)];unfold Av6;by_cases h1:(gt w.fL k).No=0
 ·grind
 ·rw[At6 h1,cond_false];obtain⟨e1,e2,e3,⟨s1,s2,s3,s4⟩,s5⟩:=Bi9 hp hw hn h1;rw[e1,e3];generalize hr:Aze w.fC (gt w.fL k)=r at *;rcases (show r.Yg=0\/1<=r.Yg by omega)with h2|h2
  ·rw[decide_eq_true (show r.fAt>=r.fAt+r.Yg by omega),cond_true,h2];simp_all[Apf,Ary]
  ·rw[decide_eq_false (show ¬r.fAt>=r.fAt+r.Yg by omega),cond_false];have hlt:=Bja hK hw.things;have hz:List.take (r.fAt+r.Yg - r.fAt).toNat (List.drop r.fAt.toNat w.fP.Fp)=List.take r.Yg.toNat (List.drop r.fAt.toNat w.fP.Fp):=by grind
   rw[Aw5 hK (gt w.fL k).D5 (by omega) (fun t=>Apf t r) (some (Ary (List.take r.Yg.toNat (List.drop r.fAt.toNat w.fP.Fp)))) (fun m i=>Api K m r.fAt (r.fAt+r.Yg) i (gt w.fL k).G4 (gt w.fL k).C7 (gt w.fL k).Nb (gt w.fL k).fUp (gt w.fL k).G5 (gt w.fL k).Bz (gt w.fL k).G6 (gt w.fL k).G7 (gt w.fL k).Ad (gt w.fL k).No (gt w.fL k).G8 (gt w.fL k).D5 (gt w.fL k).Dh w.fC.Ad w.fC.Du w.fC.Cd w.fC.Ez w.fC.Ce w.fC.Dv w.fP.Fp w.fP.G4 w.fP.Fq w.fL w.fQ w.Jp) (fun m i hi=> ?_) (fun m=> ?_)]
   ·grind
   ·simp only[Api,Ay7];obtain⟨⟨t1,t2,t3,t4⟩,t5⟩:=hs _ (Aty hi);rw[Afb hi,cond_true,if_pos (Ald hi),Ad9 (by omega),<-Wx hi];generalize gt (gt w.fL k).D5 i=t at *;unfold A1 Lc;rw[Ht (n:=t.fAt+t.Yg) (by omega) (by omega)];unfold Apf
    grind
   ·show Api K (m+1) _ _ _ _ _ _ _ _ _ _ _ _ _ _ _ _ _ _ _ _ _ _ _ _ _ _ _ _=_;rw[Api,Ayt (Z9 _),cond_false,if_pos ⟨s1,by omega,s5⟩,A3y hK _ (by grind),hz,Z0]
theorem Bo9 (l:List Int)(h:A30 l):Fk K l=some (l.mergeSort fun x y=>decide (x<=y)):=by
 have:=h.2;unfold Fk
 grind
theorem Bds (w:Bo)(hw:Ar0 w)(hp:Aw2 w.fC w.fP=true):Aws K w=some ((List.range w.fL.length).all (A81 w)):=by
 unfold Aws;have hlL:=hw.l.2;rw[Aua hK w.fL.length (by omega) (A81 w) (some true) (fun m i=>Ah1 K m w.fL (w.fL.length:Int) i w.fC.Ad w.fC.Du w.fC.Cd w.fC.Ez w.fC.Ce w.fC.Dv w.fP.Fp w.fP.G4 w.fP.Fq w.fL w.fQ w.Jp) (fun m k hk=> ?_) (fun m=> ?_)]
 ·grind
 ·simp only[Ah1,Ave];rw[show Fi.mk w.fC.Ad w.fC.Du w.fC.Cd w.fC.Ez w.fC.Ce w.fC.Dv=w.fC from rfl,show Ef.mk w.fP.Fp w.fP.G4 w.fP.Fq=w.fP from rfl];have hn:=hw.l.1 _ (Aty hk);unfold A81;generalize hN:gt w.fL k=n at*;have l1:=A3e hK hn.chunks;have l2:=Bja hK hn.things;have l3:=A3e hK hn.tags;rw[Afb hk,cond_true,if_pos (Ald hk),Ay2 K hn.chunks.2,Z0,Bo9 hK _ hn.chunks,Z0,if_pos (List.length_mergeSort _),Bfj hK _ _ l1 l2 l3,Z0,Bdr hK _ _ hw.p.st.2,Ad9 (by omega)];simp only[Z0];rw[Bkx hK _ _ (by simp_all),Bso,Bck hK _ _ l1 l2];simp only[Z0];cases hb:Ava w.fC n with
  |false=>rfl
  |true=>
  cases A5p w.fP k n.Ad with
  |false=>rfl
  |true=>
  cases hi:n.D5.all (Av4 w.fC n.Ad)with
  |false=>rfl
  |true=>
  have hs:=Ba8 hi;rw[Bcj hK _ l2 (fun t ht=>(hs t ht).1)];simp only[Z0,cond_true,Aht,Z30];cases At0 n.D5 with
  |false=>rfl
  |true=>
  simp only[cond_true,Z30];unfold Av6;by_cases h1:n.No=0
  ·grind
  ·rw[At6 h1,cond_false,Z52];obtain⟨e1,e2,e3,s,s5⟩:=Bi9 hp hn hb h1;have hmk:Bn.mk (Aze w.fC n).fAt (Aze w.fC n).Yg 0=Aze w.fC n:=rfl;rw[e1,e2];simp only[hmk];generalize hr:Aze w.fC n=r at *;obtain⟨s1,s2,s3,s4⟩:=s;have e4:A1 r.fAt r.Yg=r.fAt+r.Yg:=by grind [A1,Lc,Ht]
   have hC:Af0 K n.D5 r=some (n.D5.any (fun t=> !Apf t r)):=
    A7z hK n.D5 (by omega) (fun t=>Avd K t r) (fun t=> !Apf t r) (fun x hx=>by
     unfold Avd;rw[Ba6 K (hs _ hx).1 ⟨s1,s2,s3,s4⟩];rfl) (W2 K n.D5 r) (fun n N i=>rfl)
   rw[e4,if_pos ⟨s1,by omega,s5⟩,show r.fAt+r.Yg - r.fAt=r.Yg by omega,A5n hK _ (by grind),hC,List.any_eq_not_all_not]
   grind
 ·show Ah1 K (m+1) _ _ _ _ _ _ _ _ _ _ _ _ _ _ _=_;simp_all[Ah1]
end
section
variable {K:Nat} (hK:281474976710656<=K)
theorem Af6{l:List Az}(w:Aeh l):l.length<=140737488355327:=by have:=w.2;omega
theorem A6b (K:Nat){α:Type}{l:List α}(hl:l.length<=140737488355327)(k:Int):F2 K k 0 (Ap (l.length:Int) 1)=some (decide (0<=k/\k<(l.length:Int))):=by
 unfold F2 Ap Asu;rw[Ht (by omega) (by omega)]
 grind
theorem Bkz (K:Nat){α:Type}{l:List α}(hl:l.length<=140737488355327)(k:Int):K0 K k 0 (Ap (l.length:Int) 1)=some (decide (0<=k/\k<(l.length:Int))):=A6b K hl k
theorem A6c (K:Nat){l:List Az}(hl:l.length<=140737488355327)(k:Int):Aqd K l k=some (decide (0<=k/\k<(l.length:Int))):=by
 grind [Aqd,Bkz]
theorem Azw (K:Nat)(l:List Az)(k:Int):Acs K l k=some (decide (1<=k/\k<=(l.length:Int))):=by
 unfold Acs
 grind
def Azx (l:List Az)(h:Ch):Int:=if(0<=h.Be/\h.Be<(l.length:Int))/\(gt l h.Be).G4=1/\(gt l h.Be).C7=h.C7 then h.Be else -1
theorem A82 (K:Nat){l:List Az}(hl:l.length<=140737488355327)(h:Ch):Azi K l h=some (Azx l h):=by
 unfold Azi Azx;rw[A6b K hl]
 grind
theorem A9n{l:List Az}{h:Ch}(h0: ¬Azx l h<0):0<=Azx l h/\Azx l h<(l.length:Int):=by
 unfold Azx at *;omega
def Akt (l:List Az):Nat->Int->List Int
 |0,_=>[]
 |n+1,k=>if 0<=k/\k<(l.length:Int)then k::Akt l n (Ap (gt l k).fUp 1)else []
theorem Bjb{l:List Az}: ∀(n:Nat) (k:Int),∀x∈Akt l n k,0<=x/\x<(l.length:Int):=by
 intro n;induction n with
 |zero=>intro k x hx;cases hx
 |succ n ih=>
  intro k x hx;unfold Akt at hx
  grind
theorem Bfm{l:List Az}: ∀(n:Nat) (k:Int),(Akt l n k).length<=n:=by
 intro n;induction n with
 |zero=>intro k;exact Z9 _
 |succ n ih=>
  intro k;unfold Akt
  grind
def Bhi (l:List Az):List Int->Prop
 |x::y::r=>Ap (gt l x).fUp 1=y/\Bhi l (y::r)
 |_=>True
theorem Bhj{l:List Az}: ∀(n:Nat) (k:Int),Bhi l (Akt l n k):=by
 intro n;induction n with
 |zero=>intro k;trivial
 |succ n ih=>
  intro k;unfold Akt;split
  ·have h1:=ih (Ap (gt l k).fUp 1);cases n with
   |zero=>trivial
   |succ n=>
    rw[Akt]at h1 ⊢;split at h1
    ·rename_i h2;rw[if_pos h2];exact⟨rfl,h1⟩
    ·rename_i h2;rw[if_neg h2];trivial
  ·trivial
theorem Bk0{l:List Az}(w:Aeh l): ∀(n:Nat) (k:Int) (v:List Int),-9223372036854775808<=k/\k<=9223372036854775807->v.length<=l.length->l.length - v.length<n->A0p K l n k v=some (v++Akt l (l.length - v.length) k):=by
 have hb:l.length*152<=140737488355327:=w.2;intro n;induction n with
 |zero=>omega
 |succ n ih=>
  intro k v hk hv hn;rw[A0p,Azw];simp only[Z0];have e:decide (1<=A1 k 1/\A1 k 1<=(l.length:Int))=decide (0<=k/\k<(l.length:Int)):=by
   rw[decide_eq_decide]
   grind [A1,Lc,IntKind.wrap_i64]
  rw[e];by_cases hs:0<=k/\k<(l.length:Int)
  ·rw[decide_eq_true hs];simp only[cond_true];rcases Hi v.length l.length with h|h
   ·rw[Afb h];simp only[cond_true];have hl2:(v++[k]).length=v.length+1:=by simp
    rw[if_pos ⟨by omega,by grind [maxLen]⟩,if_pos hs,ih (Ap (gt l k).fUp 1) _ (Bo6 _) (by omega) (by omega),hl2];obtain⟨m,hm⟩: ∃m,l.length - v.length=m+1:=⟨l.length - v.length - 1,by omega⟩;rw[hm,Akt,if_pos hs,show l.length - (v.length+1)=m from by omega];simp
   ·rw[Ayt h];rw[show l.length - v.length=0 from by omega];simp[Akt]
  ·rw[decide_eq_false hs];have:Akt l (l.length - v.length) k=[]:=by
    cases l.length - v.length with
    |zero=>rfl
    |succ m=>rw[Akt,if_neg hs]
   grind
theorem Bk1{l:List Az}(w:Aeh l): ∀(n:Nat) (k:Int) (v:List Int),v.length<=l.length->l.length - v.length<n->A0y K l n k v=some (v++Akt l (l.length - v.length) k):=by
 have hb:l.length*152<=140737488355327:=w.2;intro n;induction n with
 |zero=>omega
 |succ n ih=>
  intro k v hv hn;rw[A0y,A6c K (by omega)];simp only[Z0];by_cases hs:0<=k/\k<(l.length:Int)
  ·rw[decide_eq_true hs];simp only[cond_true];rcases Hi v.length l.length with h|h
   ·rw[Afb h];simp only[cond_true];have hl2:(v++[k]).length=v.length+1:=by simp
    rw[if_pos ⟨by omega,by grind [maxLen]⟩,if_pos hs,ih _ _ (by omega) (by omega),hl2];obtain⟨m,hm⟩: ∃m,l.length - v.length=m+1:=⟨l.length - v.length - 1,by omega⟩;rw[hm,Akt,if_pos hs,show l.length - (v.length+1)=m from by omega];simp
   ·rw[Ayt h];rw[show l.length - v.length=0 from by omega];simp[Akt]
  ·rw[decide_eq_false hs];have:Akt l (l.length - v.length) k=[]:=by
    cases l.length - v.length with
    |zero=>rfl
    |succ m=>rw[Akt,if_neg hs]
   grind
include hK in
theorem A6q{l:List Az}(w:Aeh l)(k:Int)(hk: -9223372036854775808<=k/\k<=9223372036854775807):A11 K l k=some (Akt l l.length k):=by
 have hb:=Af6 w;unfold A11;have:=Bk0 (K:=K) w K k [] hk (Z21 _) (by omega)
 grind
include hK in
theorem Bhk{l:List Az}(w:Aeh l)(k:Int):A5l K l k=some (Akt l l.length k):=by
 have hb:=Af6 w;unfold A5l;have:=Bk1 (K:=K) w K k [] (Z21 _) (by omega)
 grind
def A21 (l:List Az):List Int->Bool
 |[]=>true
 |[x]=>(gt l x).G4==1
 |x::y::r=>((gt l x).G4==1)&&((gt l x).G5==(gt l y).Nb)&&A21 l (y::r)
def A7h (l:List Az)(way:List Int):Bool:=if 0<way.length then(gt l (gt way ((way.length - 1:Nat):Int))).fUp==0 else false
theorem Bpa{l:List Az}{way:List Int}(hin: ∀x∈way,0<=x/\x<(l.length:Int))(hlen:way.length<=140737488355327):
  (bif (decide ((way.length:Int)>0))then(if(0:Int)<=(Ap (way.length:Int) 1)/\(Ap (way.length:Int) 1)<(way.length:Int)then(if(0:Int)<=(gt way (Ap (way.length:Int) 1))/\(gt way (Ap (way.length:Int) 1))<(l.length:Int)then some (((gt l (gt way (Ap (way.length:Int) 1))).fUp)==0)else none)else none)else some false)=some (A7h l way):=by
 unfold A7h;rcases Nc way.length with h|h
 ·grind
 ·rw[if_pos h,decide_eq_true (by omega)];simp only[cond_true];have e:Ap (way.length:Int) 1=((way.length - 1:Nat):Int):=by grind [Ap,Asu,Ht]
  rw[e,if_pos ⟨by omega,by omega⟩,if_pos (hin _ (Aty (by omega)))]
theorem A6d{way:List Int}{i:Nat}(h:i<way.length):way.drop i=way[i]::way.drop (i+1):=by
 simp_all
theorem Bsp{l:List Az}(w:Aeh l){x y:Int}(hx:0<=x/\x<(l.length:Int))(hy:0<=y/\y<(l.length:Int))(h:Ap (gt l x).fUp 1=y):Awk K l x=some (((gt l y).G4==1)&&((gt l y).Nb==(gt l x).G5)):=by
 have hl:=Af6 w;unfold Awk;rw[if_pos hx,Azw];simp only[Z0];obtain⟨hr1,hr2⟩:=(w.1 _ (Akl hx.1 hx.2)).up;have hp:1<=(gt l x).fUp/\(gt l x).fUp<=(l.length:Int):=by
  grind [Ap,Asu,IntKind.wrap_i64]
 grind
theorem Bfn{l:List Az}{y:Int}{r:List Int}(h:(gt l y).G4≠1):A21 l (y::r)=false:=by
 cases r with
 |nil=>simp[A21,h]
 |cons z r=>simp[A21,h]
theorem Bhl{l:List Az}(w:Aeh l){way:List Int}(hin: ∀x∈way,0<=x/\x<(l.length:Int))(hlen:way.length<=140737488355327): ∀(n i:Nat),Bhi l (way.drop i)->i<=way.length->way.length - i<n->Aw8 K l way n (i:Int)=some (A21 l (way.drop i)&&A7h l way):=by
 intro n;induction n with
 |zero=>omega
 |succ n ih=>
  intro i hch hi hn;rw[Aw8];unfold A2a;rcases Hi i way.length with h|h
  ·rw[Afb h];simp only[cond_true];rw[A6d h]at hch;rw[if_pos ⟨by omega,by omega⟩,if_pos (hin _ (Aty h)),A6d h,Ad9 (by omega),<-Wx h];rcases Hi (i+1) way.length with h2|h2
   ·rw[A6d h2]at hch;have hc1:=hch.1;rw[<-Wx h,<-Wx h2]at hc1;rw[Afb h2,A6d h2,<-Wx h2];simp only[cond_true];rw[if_pos ⟨by omega,by omega⟩,Bsp w (hin _ (Aty h)) (hin _ (Aty h2)) hc1,ih (i+1) (by rw[A6d h2];exact hch.2) h (by omega),A6d h2,<-Wx h2,A21];generalize gt way ((i+1:Nat):Int)=y;generalize gt way (i:Int)=x;by_cases c1:(gt l x).G4=1
    ·by_cases c3:(gt l y).G4=1
     ·by_cases c2:(gt l x).G5=(gt l y).Nb
      all_goals grind
     simp_all[Bfn]
    grind
   ·rw[Ayt h2,ih (i+1) (by rw[Z48 h2];trivial) h (by omega),show way.drop (i+1)=[] from Z48 h2];simp only[cond_false,A21];by_cases c1:(gt l (gt way (i:Int))).G4=1
    all_goals grind
  ·rw[Ayt h,show way.drop i=[] from Z48 h];simp only[cond_false,A21,Z30];exact Bpa hin hlen
def A54 (l:List Az)(k:Int):Bool:=A21 l (Akt l l.length k)&&A7h l (Akt l l.length k)
include hK in
theorem A7i{l:List Az}(w:Aeh l)(k:Int)(hk: -9223372036854775808<=k/\k<=9223372036854775807):Az4 K l k=some (A54 l k):=by
 have hb:=Af6 w;have hr:=Bfm (l:=l) l.length k;unfold Az4;rw[A6q hK w k hk];exact Bhl w (Bjb _ _) (by omega) K 0 (Bhj _ _) (Z21 _) (by omega)
def A46 (h:Ch):Bool:=bif decide (h.Be>=0)then decide (h.C7>=1)else false
theorem A8c (K:Nat)(h:Ch):Ayg K h=some (A46 h):=by
 unfold Ayg A46;grind
def Ayv (l:List Az)(h:Ch):Int×Int:=bif A46 h then(bif decide (Azx l h<0)then(-1,2)else(bif A54 l (Azx l h)then(Azx l h,0)else(-1,2)))else(-1,1)
include hK in
theorem Ay3{w:Bo}(hw:Aeh w.fL)(h:Ch):Ark K w h=some (Ayv w.fL h):=by
 have hb:=Af6 hw;unfold Ark Ayv;rw[A8c,A82 K hb];simp only[Z0];cases A46 h with
 |false=>rfl
 |true=>
  simp only[cond_true];cases e:decide (Azx w.fL h<0)with
  |true=>rfl
  |false=>
   have h1:=A9n (of_decide_eq_false e);simp only[cond_false];rw[A7i hK hw _ ⟨by omega,by omega⟩]
   grind
theorem Bpb{l:List Az}{h:Ch}(h0:(Ayv l h).2=0):0<=(Ayv l h).1/\(Ayv l h).1<(l.length:Int):=by
 unfold Ayv at *;cases e1:A46 h with
 |false=>grind
 |true=>
  rw[e1]at h0;simp only[cond_true]at *;cases e:decide (Azx l h<0)with
  |true=>grind
  |false=>
   rw[e]at h0;simp only[cond_false]at*
   grind [A9n,of_decide_eq_false]
end
def plB (l:List Az)(n:Int):Bool:=decide (0<=Ap n 1/\Ap n 1<(l.length:Int))
theorem A4b{l:List Az}{n:Int}(h:plB l n=true):0<=Ap n 1/\Ap n 1<(l.length:Int):=of_decide_eq_true h
theorem A8k (K:Nat){l:List Az}(hl:l.length<=140737488355327)(n:Int):Aqd K l (Ap n 1)=some (plB l n):=A6c K hl _
theorem Azy (K:Nat){l:List Az}(hl:l.length<=140737488355327){n:Int}(hn:wfi n):Acs K l n=some (plB l n):=by
 rw[Azw];unfold plB;obtain⟨h1,h2⟩:=hn;congr 1;rw[decide_eq_decide]
 grind [Ap,Asu,IntKind.wrap_i64]
def A5q (l:List Az)(k:Int):Bool:=plB l (gt l k).fUp&&((gt l (Ap (gt l k).fUp 1)).G4==1&&(gt l (Ap (gt l k).fUp 1)).Nb==(gt l k).G5)
theorem A9o (K:Nat){l:List Az}(w:Aeh l){k:Int}(h:0<=k/\k<(l.length:Int)):Awk K l k=some (A5q l k):=by
 unfold Awk A5q;rw[if_pos h,Azy K (Af6 w) (w.1 _ (Akl h.1 h.2)).up,Z0,if_pos h];cases hp:plB l (gt l k).fUp with
 |false=>rfl
 |true=>
  have:=A4b hp
  grind
theorem A47 (K:Nat){l:List Az}(w:Aeh l){k:Int}(h:0<=k/\k<(l.length:Int)):Avs K l k=some (A5q l k):=by
 unfold Avs A5q;rw[if_pos h,A8k K (Af6 w),Z0,if_pos h];cases hp:plB l (gt l k).fUp with
 |false=>rfl
 |true=>
  have:=A4b hp
  grind
def Aww (l:List Az)(n:Int):Bool:=n==0||(plB l n&&(gt l (Ap n 1)).G4==1)
theorem A6e{l:List Az}{n:Int}(h:Aww l n=true)(h0:n≠0):0<=Ap n 1/\Ap n 1<(l.length:Int):=by
 unfold Aww at h;rw[At6 h0,Z52,Z4]at h;exact A4b h.1
theorem A7j (K:Nat){l:List Az}(w:Aeh l){n:Int}(hn:wfi n):Auo K l n=some (Aww l n):=by
 unfold Auo Aww;rw[Azy K (Af6 w) hn,Z0];cases n==0 with
 |true=>rfl
 |false=>
  cases hp:plB l n with
  |false=>rfl
  |true=>rw[if_pos (A4b hp)];rfl
theorem A7k (K:Nat){l:List Az}(w:Aeh l)(n:Int):Ay1 K l n=some (Aww l n):=by
 unfold Ay1 Aww;rw[A8k K (Af6 w),Z0];cases n==0 with
 |true=>rfl
 |false=>
  cases hp:plB l n with
  |false=>rfl
  |true=>rw[if_pos (A4b hp)];rfl
def A92 (r:List Int):Int:=gt r ((r.length - 1:Nat):Int)
def A6f (l:List Az)(k:Int):Bool:=decide (((Akt l l.length k).length:Int)<=4)&& !A5q l (A92 (Akt l l.length k))
def Baj (l:List Az)(k:Int):Bool:= !((gt l k).G7==0&&A5q l k)||(gt l (Ap (gt l k).fUp 1)).Bz==A1 k 1
def Bcm (l:List Az)(k:Int):Bool:=(gt l k).G7==0||(gt l (Ap (gt l k).G7 1)).G6==A1 k 1
def Bfo (l:List Az)(k:Int):Bool:=(gt l k).G6==0||((gt l (Ap (gt l k).G6 1)).G7==A1 k 1&&((gt l (Ap (gt l k).G6 1)).fUp==(gt l k).fUp&&(gt l (Ap (gt l k).G6 1)).G5==(gt l k).G5))
def Bk2 (l:List Az)(k:Int):Bool:=(gt l k).Bz==0||((gt l (Ap (gt l k).Bz 1)).G7==0&&((gt l (Ap (gt l k).Bz 1)).fUp==A1 k 1&&(gt l (Ap (gt l k).Bz 1)).G5==(gt l k).Nb))
def A70 (l:List Az)(k:Int):Bool:=Aww l (gt l k).Bz&&(Aww l (gt l k).G6&&(Aww l (gt l k).G7&&((gt l k).fUp==0||plB l (gt l k).fUp)))
def A55 (l:List Az)(k:Int):Bool:=A70 l k&&(Bk2 l k&&(Bfo l k&&(Bcm l k&&Baj l k)))
def Ba9 (l:List Az):Bool:=(List.range l.length).all (fun k=>(gt l (k:Int)).G4 != 1||(A55 l k&&A6f l k))
theorem Bba{l:List Az}{k:Int}(h:0<=k/\k<(l.length:Int)):0<(Akt l l.length k).length:=by
 obtain⟨m,hm⟩: ∃m,l.length=m+1:=⟨l.length - 1,by omega⟩;simp_all[Akt.eq_2]
theorem Bdt{l:List Az}{k:Int}(h:0<=k/\k<(l.length:Int)):0<=A92 (Akt l l.length k)/\A92 (Akt l l.length k)<(l.length:Int):=by
 have:=Bba h;exact Bjb _ _ _ (Aty (by omega))
theorem Bjc{l:List Az}(w:Aeh l){k:Int}(h:0<=k/\k<(l.length:Int)):Ap ((Akt l l.length k).length:Int) 1=(((Akt l l.length k).length - 1:Nat):Int)/\(0:Int)<=(((Akt l l.length k).length - 1:Nat):Int)/\(((Akt l l.length k).length - 1:Nat):Int)<((Akt l l.length k).length:Int):=by
 grind [Bba,Bfm,Af6,Ap,Asu,Ht]
section
variable {K:Nat} (hK:281474976710656<=K)
include hK
theorem Bsq{l:List Az}(w:Aeh l){k:Int}(h:0<=k/\k<(l.length:Int)):Axm K l k=some (A6f l k):=by
 have h3:=Af6 w;obtain⟨e1,e2,e3⟩:=Bjc w h;unfold Axm;rw[A6q hK w k ⟨by omega,by omega⟩,Z0,e1,if_pos ⟨e2,e3⟩];have:=A9o K w (Bdt h);unfold A92 at this;rw[this,Z0,Ayc];rfl
theorem Bsr{l:List Az}(w:Aeh l){k:Int}(h:0<=k/\k<(l.length:Int)):Azm K l k (gt l k).fUp (gt l k).G7=some (Baj l k&&A6f l k):=by
 unfold Azm Baj;rw[A9o K w h,Bsq hK w h,Z0];cases (gt l k).G7==0 with
 |false=>rfl
 |true=>
  cases hc:A5q l k with
  |false=>rfl
  |true=>
   have:plB l (gt l k).fUp=true:=by simp_all[A5q]
   rw[cond_true,cond_true,if_pos (A4b this),bne,Aht]
   grind
theorem Bss{l:List Az}(w:Aeh l){k:Int}(h:0<=k/\k<(l.length:Int))(hp:Aww l (gt l k).G7=true):Azn K l k (gt l k).fUp (gt l k).G7=some (Bcm l k&&(Baj l k&&A6f l k)):=by
 unfold Azn Bcm;rw[Bsr hK w h];by_cases h0:(gt l k).G7=0
 ·grind
 ·rw[A20 h0,At6 h0,cond_true,if_pos (A6e hp h0),bne,Aht]
  grind
theorem Bst{l:List Az}(w:Aeh l){k:Int}(h:0<=k/\k<(l.length:Int))(hp:Aww l (gt l k).G7=true)(hn:Aww l (gt l k).G6=true):Azo K l k (gt l k).fUp (gt l k).G5 (gt l k).G6 (gt l k).G7=some (Bfo l k&&(Bcm l k&&(Baj l k&&A6f l k))):=by
 unfold Azo Bfo;rw[Bss hK w h hp];by_cases h0:(gt l k).G6=0
 ·grind
 ·have hi:=A6e hn h0
  grind
theorem Bsu{l:List Az}(w:Aeh l){k:Int}(h:0<=k/\k<(l.length:Int))(hf:Aww l (gt l k).Bz=true)(hp:Aww l (gt l k).G7=true)(hn:Aww l (gt l k).G6=true):Azp K l k (gt l k).G4 (gt l k).C7 (gt l k).Nb (gt l k).fUp (gt l k).G5 (gt l k).Bz (gt l k).G6 (gt l k).G7 (gt l k).Ad (gt l k).No (gt l k).G8 (gt l k).D5 (gt l k).Dh=some (Bk2 l k&&(Bfo l k&&(Bcm l k&&(Baj l k&&A6f l k)))):=by
 unfold Azp Bk2;rw[Bst hK w h hp hn];by_cases h0:(gt l k).Bz=0
 ·grind
 ·have hi:=A6e hf h0
  grind
theorem Bhm{l:List Az}(w:Aeh l){k:Int}(h:0<=k/\k<(l.length:Int)):A4h K l k=some (A55 l k&&A6f l k):=by
 have hn:=w.1 _ (Akl h.1 h.2);unfold A4h A55 A70;rw[if_pos h,Azy K (Af6 w) hn.up,A7j K w hn.first,A7j K w hn.next,A7j K w hn.prev];simp only[Z0,Aht];cases hf:Aww l (gt l k).Bz with
 |false=>grind
 |true=>
 cases hx:Aww l (gt l k).G6 with
 |false=>grind
 |true=>
 cases hp:Aww l (gt l k).G7 with
 |false=>grind
 |true=>
 rw[Bsu hK w h hf hp hx];simp only[bne];cases (gt l k).fUp==0<;>cases plB l (gt l k).fUp<;>simp only[Bool.not_true,Bool.not_false,cond_true,cond_false,Z30,Bool.false_and,Bool.true_or,Z52,Bool.and_assoc]
theorem Bfp{l:List Az}(w:Aeh l):A3o K l=some (Ba9 l):=by
 have hl:=Af6 w;unfold A3o Ba9;rw[Aua hK l.length (by omega) (fun k=>(gt l (k:Int)).G4 != 1||(A55 l k&&A6f l k)) (some true) (fun n i=>At2 K l n i) (fun n i h=> ?_) (fun n=> ?_)]
 ·grind
 ·simp only[At2,A1g];rw[Afb h,cond_true,if_pos (Ald h),Bhm hK w (Ald h),Ad9 (by omega),Z0,Aht,bne]
  grind
 ·show At2 K l (n+1) _=_;simp_all[At2]
theorem Bsv{l:List Az}(w:Aeh l){k:Int}(h:0<=k/\k<(l.length:Int)):Axy K l k (gt l k).fUp (gt l k).G7=some (Baj l k):=by
 unfold Axy Baj;rw[A47 K w h,Z0,bne];cases (gt l k).G7==0 with
 |false=>rfl
 |true=>
  cases hc:A5q l k with
  |false=>rfl
  |true=>
   simp_all[plB,A5q]
theorem Bsw{l:List Az}(w:Aeh l){k:Int}(h:0<=k/\k<(l.length:Int))(hp:Aww l (gt l k).G7=true):Axz K l k (gt l k).fUp (gt l k).G7=some (Bcm l k&&Baj l k):=by
 unfold Axz Bcm;rw[Bsv hK w h];by_cases h0:(gt l k).G7=0
 ·grind
 ·rw[A20 h0,At6 h0,cond_true,if_pos (A6e hp h0),bne,Aht]
  grind
theorem Bsx{l:List Az}(w:Aeh l){k:Int}(h:0<=k/\k<(l.length:Int))(hp:Aww l (gt l k).G7=true)(hn:Aww l (gt l k).G6=true):Ax0 K l k (gt l k).fUp (gt l k).G5 (gt l k).G6 (gt l k).G7=some (Bfo l k&&(Bcm l k&&Baj l k)):=by
 unfold Ax0 Bfo;rw[Bsw hK w h hp];by_cases h0:(gt l k).G6=0
 ·grind
 ·have hi:=A6e hn h0
  grind
theorem Bsy{l:List Az}(w:Aeh l){k:Int}(h:0<=k/\k<(l.length:Int))(hf:Aww l (gt l k).Bz=true)(hp:Aww l (gt l k).G7=true)(hn:Aww l (gt l k).G6=true):Ax1 K l k (gt l k).G4 (gt l k).C7 (gt l k).Nb (gt l k).fUp (gt l k).G5 (gt l k).Bz (gt l k).G6 (gt l k).G7 (gt l k).Ad (gt l k).No (gt l k).G8 (gt l k).D5 (gt l k).Dh=some (Bk2 l k&&(Bfo l k&&(Bcm l k&&Baj l k))):=by
 unfold Ax1 Bk2;rw[Bsx hK w h hp hn];by_cases h0:(gt l k).Bz=0
 ·grind
 ·have hi:=A6e hf h0
  grind
theorem Bdu{l:List Az}(w:Aeh l){k:Int}(h:0<=k/\k<(l.length:Int)):A2w K l k=some (A55 l k):=by
 unfold A2w A55 A70;rw[if_pos h,A8k K (Af6 w),A7k K w,A7k K w,A7k K w];simp only[Z0,Aht];cases hf:Aww l (gt l k).Bz with
 |false=>rfl
 |true=>
 cases hx:Aww l (gt l k).G6 with
 |false=>rfl
 |true=>
 cases hp:Aww l (gt l k).G7 with
 |false=>rfl
 |true=>
 rw[Bsy hK w h hf hp hx]
 grind
theorem Bfq{l:List Az}(w:Aeh l):A3v K l=some (Ba9 l):=by
 have hl:=Af6 w;unfold A3v Ba9;rw[Aua hK l.length (by omega) (fun k=>(gt l (k:Int)).G4 != 1||(A55 l k&&A6f l k)) (some true) (fun n i=>At5 K l n l (l.length:Int) i) (fun n i h=> ?_) (fun n=> ?_)]
 ·grind
 ·have hc:=Ald h;obtain⟨e1,e2,e3⟩:=Bjc w hc;have e4:=A47 K w (Bdt hc);unfold A92 at e4;have e5:decide (((Akt l l.length i).length:Int)>4)= !decide (((Akt l l.length i).length:Int)<=4):=by grind
  simp only[At5,A1q];rw[Afb h,cond_true,if_pos hc,Bdu hK w hc,Ad9 (by omega),Z0,Bhk hK w,Z0,e1,if_pos ⟨e2,e3⟩,e4,Z0,e5];unfold A6f A92
  grind
 ·show At5 K l (n+1) _ _ _=_;simp_all[At5]
end
theorem A6g{c:Fi}(hc:Aki c=true):Ap c.Du 1=c.Du - 1:=by
 obtain⟨_,b2,_⟩:=Bd hc
 grind [Ap,Asu,Ht]
def Aoz (c:Fi)(x:Bb):Bool:=
 Aki c&&(inB x.Be 0 c.Cd&&(inB x.Bz 0 c.Cd&&(decide ((x.Dh.length:Int)<=6)&&(x.Dh.all (fun y=>inB y 0 255)&&(Ayu c x.Ad&&(inB x.H2 0 (c.Du - 1)&&(decide ((x.Ad.length:Int)>0)||x.H2==0)))))))
section
variable {K:Nat} (hK:281474976710656<=K)
include hK
theorem Bcn (c:Fi)(x:Bb)(hw:A0m x):A2k K c x=some (Aoz c x):=by
 have h1:=A3e hK hw.tags;have h2:=A3e hK hw.chunks;unfold A2k Az9;rw[Avm];simp only[Z0,Aml];cases hc:Aki c with
 |false=>simp[Aoz,hc]
 |true=>
 have hA:Aru K c x.Ad K 0=some (Ayu c x.Ad):=by
  rw[Aua hK x.Ad.length (by omega) (fun i=>inB (gt x.Ad i) 0 (c.Ad - 1)&& !(x.Ad.take i).contains (gt x.Ad i)) (some true) (fun k i=>Aru K c x.Ad k i) (fun k i h=> ?_) (fun k=> ?_)]
  ·unfold Ayu;grind
  ·have hp:(x.Ad.take i).length<=140737488355328:=by grind
   simp only[Aru];rw[Afb h,cond_true,if_pos (Ald h),Aml,if_pos (Bfi (by omega)),A8j,A43 hK _ _ hp,Ad9 (by omega),A0h hK hc]
   grind
  ·show Aru K c x.Ad (k+1) _=_;simp_all[Aru]
 have hB:Aug K c x.Dh x.Ad K 0=some (x.Dh.all (fun y=>inB y 0 255)&&Ayu c x.Ad):=by
  rw[Aw5 hK x.Dh (by omega) (fun y=>inB y 0 255) (some (Ayu c x.Ad)) (Aug K c x.Dh x.Ad) (fun k i h=> ?_) (fun k=> ?_)]
  ·grind
  ·rw[Aug,Afb h,cond_true,if_pos (Ald h),Wx h,Aml,Ad9 (by omega),Z0,Aht]
  simp_all[Aug]
 rw[hB,A6g hc];have e6:decide ((x.Dh.length:Int)>6)= !decide ((x.Dh.length:Int)<=6):=by grind
 have e0:decide ((x.Ad.length:Int)>0)= !((x.Ad.length:Int)==0):=by
  grind
 unfold Aoz
 grind
theorem Bco (c:Fi)(x:Bb)(hw:A0m x):A2x K c x=some (Aoz c x):=by
 have h1:=A3e hK hw.tags;have h2:=A3e hK hw.chunks;unfold A2x;rw[A7f];simp only[Z0,Awh];cases hc:Aki c with
 |false=>simp[Aoz,hc]
 |true=>
 rw[A52 hK _ (by omega),A8b hK hc _ h2,A6g hc];simp_all[Aoz,A42,Ayc]
end
theorem Avg{c:Fi}{x:Bb}(h:Aoz c x=true):Aki c=true/\(0<=x.Be/\x.Be<=c.Cd)/\(0<=x.Bz/\x.Bz<=c.Cd)/\Ayu c x.Ad=true/\(0<=x.H2/\x.H2<=c.Du - 1):=by
 unfold Aoz at h;simp only[Z4,Wy]at h
 grind
theorem A1w{c:Fi}{l:List Int}(h:Ayu c l=true): ∀x∈l,0<=x/\x<c.Ad:=by
 intro x hx;obtain⟨i,hi,e⟩:=List.mem_iff_getElem.1 hx;unfold Ayu at h;rw[Z1]at h;have:=h i (by grind);rw[Z4,Wx hi,e,Wy]at this;omega
theorem A8l{l:List Int}:l.Nodup ↔ ∀i,(h:i<l.length)->l[i] ∉ l.take i:=by
 unfold List.Nodup;rw[List.pairwise_iff_getElem];constructor
 ·intro h i hi hm;obtain⟨j,hj,e⟩:=List.mem_iff_getElem.1 hm
  grind
 ·intro h i j hi hj hij e;exact h j hj (List.mem_iff_getElem.2 ⟨i,by grind,by grind⟩)
theorem A3f{c:Fi}{l:List Int}(h:Ayu c l=true):l.Nodup:=by
 rw[A8l];intro i hi hm;unfold Ayu at h;rw[Z1]at h;have:=h i (by grind);rw[Z4,Wx hi,Z44,List.contains_eq_mem]at this
 grind
theorem A3g{l:List Int}: ∀ {o:List Int},o.Nodup->(∀x∈o,x∈l)->o.length<=l.length:=by
 intro o;induction o generalizing l with
 |nil=>grind
 |cons x o ih=>
  intro hn hs;have hx:x∈l:=hs x (by simp);rw[List.nodup_cons]at hn;have h2:=ih (l:=l.erase x) hn.2 (fun y hy=>by
   grind)
  grind
theorem Awx{c:Fi}(hc:Aki c=true){l:List Int}(h:Ayu c l=true):l.length<=12:=by
 obtain⟨b1,_⟩:=Bd hc;have:=A3g (l:=(List.range 12).map (fun i:Nat=>(i:Int))) (A3f h) (fun x hx=>by
  have:=A1w h x hx;rw[Gh];exact⟨x.toNat,by grind,by omega⟩)
 grind
def A3a (l:List Az):Nat->Int->List Int
 |0,_=>[]
 |n+1,k=>if 0<=k/\k<(l.length:Int)then k::A3a l n (Ap (gt l k).G6 1)else []
theorem A83{l:List Az}: ∀(n:Nat) (k:Int),∀x∈A3a l n k,0<=x/\x<(l.length:Int):=by
 intro n;induction n with
 |zero=>intro k x hx;cases hx
 |succ n ih=>
  intro k x hx;unfold A3a at hx
  grind
theorem A71{l:List Az}: ∀(n:Nat) (k:Int),(A3a l n k).length<=n:=by
 intro n;induction n with
 |zero=>intro k;exact Z9 _
 |succ n ih=>
  intro k;unfold A3a
  grind
def Ak4 (l:List Az)(first:Int):List Int:=A3a l l.length (Ap first 1)
def A3b (l:List Az)(k:Int):Bool:=(gt l k).G4==1&&((gt l k).fUp != 0&& !A5q l k)
theorem A93 (K:Nat){l:List Az}(w:Aeh l){k:Int}(h:0<=k/\k<(l.length:Int)):Axn K l k=some (A3b l k):=by
 simp_all[Axn,A3b,A9o,Ayc]
theorem A94 (K:Nat){l:List Az}(w:Aeh l){k:Int}(h:0<=k/\k<(l.length:Int)):Awg K l k=some (A3b l k):=by
 simp_all[Awg,A3b,A47,Ayc]
section
variable {K:Nat} (hK:281474976710656<=K)
theorem Bk3{l:List Az}(w:Aeh l): ∀(n:Nat) (k:Int) (v:List Int),wfi k->v.length<=l.length->l.length - v.length<n->Ayk K l n k v=some (v++A3a l (l.length - v.length) (Ap k 1)):=by
 have hm:=V1;have hb:l.length*152<=140737488355327:=w.2;intro n;induction n with
 |zero=>omega
 |succ n ih=>
  intro k v hk hv hn;rw[Ayk,Azy K (Af6 w) hk];simp only[Z0];by_cases hs:0<=Ap k 1/\Ap k 1<(l.length:Int)
  ·rw[show plB l k=true from decide_eq_true hs];simp only[cond_true];rcases Hi v.length l.length with h|h
   ·rw[Afb h];simp only[cond_true];have hl2:(v++[Ap k 1]).length=v.length+1:=by simp
    rw[if_pos ⟨by omega,by omega⟩,if_pos hs,ih (gt l (Ap k 1)).G6 _ (w.1 _ (Akl hs.1 hs.2)).next (by omega) (by omega),hl2];obtain⟨m,hm⟩: ∃m,l.length - v.length=m+1:=⟨l.length - v.length - 1,by omega⟩;rw[hm,A3a,if_pos hs,show l.length - (v.length+1)=m from by omega];simp
   ·rw[Ayt h];rw[show l.length - v.length=0 from by omega];simp[A3a]
  ·rw[show plB l k=false from decide_eq_false hs];have:A3a l (l.length - v.length) (Ap k 1)=[]:=by
    cases l.length - v.length with
    |zero=>rfl
    |succ m=>rw[A3a,if_neg hs]
   grind
theorem Bk4{l:List Az}(w:Aeh l): ∀(n:Nat) (k:Int) (v:List Int),v.length<=l.length->l.length - v.length<n->Ays K l n v k=some (v++A3a l (l.length - v.length) k):=by
 have hm:=V1;have hb:l.length*152<=140737488355327:=w.2;intro n;induction n with
 |zero=>omega
 |succ n ih=>
  intro k v hv hn;rw[Ays,A6c K (by omega)];simp only[Z0];by_cases hs:0<=k/\k<(l.length:Int)
  ·rw[decide_eq_true hs];simp only[cond_true];rcases Hi v.length l.length with h|h
   ·rw[Afb h];simp only[cond_true];have hl2:(v++[k]).length=v.length+1:=by simp
    rw[if_pos ⟨by omega,by omega⟩,if_pos hs,ih _ _ (by omega) (by omega),hl2];obtain⟨m,hm⟩: ∃m,l.length - v.length=m+1:=⟨l.length - v.length - 1,by omega⟩;rw[hm,A3a,if_pos hs,show l.length - (v.length+1)=m from by omega];simp
   ·rw[Ayt h];rw[show l.length - v.length=0 from by omega];simp[A3a]
  ·rw[decide_eq_false hs];have:A3a l (l.length - v.length) k=[]:=by
    cases l.length - v.length with
    |zero=>rfl
    |succ m=>rw[A3a,if_neg hs]
   grind
include hK
theorem A95{l:List Az}(w:Aeh l){k:Int}(hk:wfi k):A0w K l k=some (Ak4 l k):=by
 have hb:=Af6 w;unfold A0w Ak4;have:=Bk3 (K:=K) w K k [] hk (Z21 _) (by omega)
 grind
theorem Bfr{l:List Az}(w:Aeh l)(k:Int):A3w K l k=some (Ak4 l k):=by
 have hb:=Af6 w;unfold A3w Ak4;have:=Bk4 (K:=K) w K (Ap k 1) [] (Z21 _) (by omega)
 grind
def Arz (w:Bo)(x:Bb):Bool:= !decide ((x.Ad.length:Int)>0)||Ary ((w.fP.Fp.drop (gt x.Ad 0*w.fC.Du).toNat).take x.H2.toNat)
def A0z (w:Bo)(x:Bb):Bool:=x.Be==0||(gt w.fL (Ap x.Be 1)).G4==2
def A22 (w:Bo)(x:Bb):Bool:=x.Bz==0||(gt w.fL (Ap x.Bz 1)).G7==0
def A6r (w:Bo)(x:Bb):Bool:=x.Ad.all (fun k=>gt w.fP.G4 k==2)
def Aw6 (w:Bo)(x:Bb):Bool:=(Ak4 w.fL x.Bz).all (A3b w.fL)
def Apc (w:Bo)(x:Bb):Bool:=Aoz w.fC x&&(A6r w x&&(Arz w x&&(A0z w x&&(A22 w x&&Aw6 w x))))
theorem A84{w:Bo}(hL:(w.fL.length:Int)=w.fC.Cd)(hc:Aki w.fC=true){n:Int}(h0:n≠0)(h1:0<=n)(h2:n<=w.fC.Cd):0<=Ap n 1/\Ap n 1<(w.fL.length:Int):=by
 obtain⟨_,_,b3,_⟩:=Bd hc
 grind [Ap,Asu,Ht]
theorem Bcp (w:Bo)(hw:Ar0 w)(hp:Aw2 w.fC w.fP=true)(hL:(w.fL.length:Int)=w.fC.Cd)(i:Nat)(hi:i<w.fQ.length):A1h K w i=some (Apc w (gt w.fQ i)):=by
 have hx:=hw.q.1 _ (Aty hi);unfold A1h;rw[if_pos (Ald hi)];generalize gt w.fQ i=x at *;rw[Bcn hK _ _ hx,Z0,Aht];unfold Apc;cases hr:Aoz w.fC x with
 |false=>rfl
 |true=>
 rw[cond_true,Z30];obtain⟨hc,⟨s1,s2⟩,⟨f1,f2⟩,hd,d1,d2⟩:=Avg hr;obtain⟨_,hm,hst,_⟩:=Avt hp;obtain⟨b1,b2,b3,_⟩:=Bd hc;have hch:=A1w hd;have hl:=A3e hK hx.chunks;have h3:Asl K x.Bz w.fL=some (Aw6 w x):=by
  unfold Asl Aw6;have hk:=A71 (l:=w.fL) w.fL.length (Ap x.Bz 1);have hin:=A83 (l:=w.fL) w.fL.length (Ap x.Bz 1);rw[A95 hK hw.l hx.first,Z0];change (Ak4 w.fL x.Bz).length<=_ at hk;change ∀y∈Ak4 w.fL x.Bz,_ at hin;generalize Ak4 w.fL x.Bz=r at *;rw[Aw5 hK r (by omega) (A3b w.fL) (some true) (Auz K w.fL r) (fun n i h=> ?_) (fun n=> ?_)]
  ·grind
  ·rw[Auz,Afb h,cond_true,if_pos (Ald h),A93 K hw.l (hin _ (Aty h)),Ad9 (by omega),Z0,Aht,Wx h]
  simp_all[Auz]
 have h2:Awo K x.Be x.Bz w.fL=some (A0z w x&&(A22 w x&&Aw6 w x)):=by
  unfold Awo A0z A22;rw[h3];by_cases g1:x.Bz=0
  ·rw[g1];by_cases g2:x.Be=0
   ·grind
   ·rw[A20 g2,At6 g2,cond_true,if_pos (A84 hK hL hc g2 s1 s2)]
    grind
  ·have hF:(bif (x.Bz != 0)then(if(0:Int)<=(Ap x.Bz 1)/\(Ap x.Bz 1)<(w.fL.length:Int)then(bif (((gt w.fL (Ap x.Bz 1)).G7) != 0)then some false else some (Aw6 w x))else none)else some (Aw6 w x))=some ((x.Bz==0||(gt w.fL (Ap x.Bz 1)).G7==0)&&Aw6 w x):=by
    rw[A20 g1,At6 g1,cond_true,if_pos (A84 hK hL hc g1 f1 f2)]
    grind
   rw[hF];by_cases g2:x.Be=0
   ·grind
   ·rw[A20 g2,At6 g2,cond_true,if_pos (A84 hK hL hc g2 s1 s2)]
    grind
 rw[Aw5 hK x.Ad (by omega) (fun k=>gt w.fP.G4 k==2) (some (Arz w x&&(A0z w x&&(A22 w x&&Aw6 w x)))) (fun n i=>Asm K n i x.Be x.Bz x.Dh x.Ad x.H2 w.fC.Ad w.fC.Du w.fC.Cd w.fC.Ez w.fC.Ce w.fC.Dv w.fP.Fp w.fP.G4 w.fP.Fq w.fL w.fQ w.Jp) (fun n i h=> ?_) (fun n=> ?_)]
 ·rw[Ayc];rfl
 ·simp only[Asm];have h5:=hch _ (Aty h);rw[Afb h,cond_true,if_pos (Ald h),if_pos ⟨h5.1,by omega⟩,Ad9 (by omega),bne,Aht,Wx h]
 ·show Asm K (n+1) _ _ _ _ _ _ _ _ _ _ _ _ _ _ _ _ _ _=_;rw[Asm,Ayt (Z9 _),cond_false,h2];unfold Arz;by_cases g:(x.Ad.length:Int)>0
  ·have h5:=hch _ (Akl (l:=x.Ad) (Int.le_refl 0) (by omega));obtain⟨e1,e2,e3,e4⟩:=A3z hc hm h5.1 h5.2;have e5:A1 (gt x.Ad 0*w.fC.Du) x.H2=gt x.Ad 0*w.fC.Du+x.H2:=by
    have:=Azd (a:=gt x.Ad 0) (b:=w.fC.Du) (m:=12) (n:=16) h5.1 (by omega) (by omega) b2.2
    grind [A1,Lc,Ht]
   rw[decide_eq_true g,cond_true,if_pos ⟨by omega,by omega⟩,if_pos ⟨by omega,by omega⟩,e1,e5,if_pos ⟨e3,by omega,by omega⟩,A3y hK _ (by grind),show gt x.Ad 0*w.fC.Du+x.H2 - gt x.Ad 0*w.fC.Du=x.H2 by omega]
   grind
  grind
end
def Apb (N:Nat)(l:List Int):List Int:=(List.range N).map (fun k:Nat=>((l.count (k:Int):Nat):Int))
theorem A85 (N:Nat)(l:List Int):(Apb N l).length=N:=by simp[Apb]
theorem A5r{N:Nat}{l:List Int}{x:Int}(h0:0<=x)(h1:x<N):gt (Apb N l) x=((l.count x:Nat):Int):=by
 obtain⟨k,rfl⟩: ∃k:Nat,x=k:=⟨x.toNat,by omega⟩
 grind [Wx,Apb]
theorem Bfs (N:Nat):Apb N []=List.replicate N 0:=by
 refine List.ext_getElem (by simp[Apb]) fun i h1 h2=> ?_
 simp[Apb]
theorem Bft{N:Nat}{l:List Int}{x:Int}(h0:0<=x)(h1:x<N)(hl:l.length<=140737488355327):(Apb N l).set x.toNat (A1 (gt (Apb N l) x) 1)=Apb N (l++[x]):=by
 have hc:l.count x<=l.length:=List.count_le_length;have e:A1 (gt (Apb N l) x) 1=((l.count x+1:Nat):Int):=by
  grind [A5r,Ad9]
 rw[e];refine List.ext_getElem (by simp[Apb]) fun i h2 h3=> ?_
 rw[List.getElem_set];simp only[Apb,List.getElem_map,List.getElem_range,List.count_append,List.count_singleton]
 grind
theorem Bbb{C P:List Int}(hs: ∀x∈C,x∈P)(hP:P.Nodup):(∀x∈P,C.count x=1) ↔ (C.Nodup/\C.length=P.length):=by
 constructor
 ·intro h;have hn:C.Nodup:=by
   grind
  refine⟨hn,?_⟩;have h1:=A3g hn hs;have h2:=A3g hP (l:=C) (fun x hx=>List.count_pos_iff.1 (by grind));omega
 ·rintro⟨hn,hl⟩ x hx
  have hp:=A91 hn hs hl;have:=hn.count (a:=x);rw[this,if_pos (hp.mem_iff.2 hx)]
def chL (q:List Bb):List Int:=q.flatMap (fun x=>x.Ad)
def slL (q:List Bb):List Int:=q.flatMap (fun x=>if x.Be=0 then []else [Ap x.Be 1])
def kdL (l:List Az)(q:List Bb):List Int:=q.flatMap (fun x=>Ak4 l x.Bz)
theorem Bcz{α β:Type}(q:List α)(f:α->List β)(i:Nat)(h:i<q.length):(q.take (i+1)).flatMap f=(q.take i).flatMap f++f q[i]:=by
 grind [List.take_append_getElem]
theorem A86{α β:Type}(q:List α)(f:α->List β)(m:Nat)(h: ∀x∈q,(f x).length<=m):(q.flatMap f).length<=q.length*m:=by
 induction q with
 |nil=>simp
 |cons x q ih=>
  have h1:=h x (by simp);have h2:=ih fun y hy=>h y (by simp[hy])
  simp only[List.flatMap_cons,Z23,Z28,Vw,Nat.one_mul];omega
def A96 (w:Bo):List Int:=((List.range w.fP.G4.length).filter (fun k:Nat=>gt w.fP.G4 k==2)).map (fun k:Nat=>(k:Int))
def A97 (w:Bo):List Int:=((List.range w.fL.length).filter (fun k:Nat=>(gt w.fL k).G4==2)).map (fun k:Nat=>(k:Int))
def Bfu (w:Bo):List Int:=((List.range w.fL.length).filter (fun k:Nat=>A3b w.fL k)).map (fun k:Nat=>(k:Int))
theorem A8m (N:Nat)(p:Nat->Bool):(((List.range N).filter p).map (fun k:Nat=>(k:Int))).Nodup:=by
 grind [List.pairwise_lt_range,List.Pairwise.imp]
theorem A00{N:Nat}{p:Nat->Bool}{x:Int}:x∈((List.range N).filter p).map (fun k:Nat=>(k:Int)) ↔ (0<=x/\x<(N:Int))/\p x.toNat=true:=by
 grind
def A1x (w:Bo)(N:Nat):Bool:=
 (List.range w.fP.G4.length).all (fun k=> !(gt w.fP.G4 k==2)||gt (Apb N (chL w.fQ)) k==1)&&
 (List.range w.fL.length).all (fun k=>(!((gt w.fL k).G4==2)||gt (Apb w.fL.length (slL w.fQ)) k==1)&&(!A3b w.fL k||gt (Apb w.fL.length (kdL w.fL w.fQ)) k==1))
def A8n (q:List Bb)(i k:Nat):Bool:= !((gt q i).Be != 0&&(gt q k).Be==(gt q i).Be)&&(gt q i).Ad.all (fun y=> !(gt q k).Ad.contains y)
def Bdv (q:List Bb):Bool:=(List.range q.length).all (fun i=>(List.range i).all (fun k=>A8n q i k))
def A9p (l:List Int):Bool:=(List.range l.length).all (fun i=> !(l.take i).contains (gt l i))
def Bar (w:Bo):Bool:=
 Bdv w.fQ&&(A9p (kdL w.fL w.fQ)&&((((chL w.fQ).length:Int)==((A96 w).length:Int))&&((((slL w.fQ).length:Int)==((A97 w).length:Int))&&(((kdL w.fL w.fQ).length:Int)==((Bfu w).length:Int)))))
theorem Bhn (l:List Int):A9p l=true ↔ l.Nodup:=by
 grind [A8l,A9p,Wx]
theorem Bfv{w:Bo}{q:List Bb}(h1: ∀x∈q,x.Ad.Nodup)(h2: ∀x∈q,0<=x.Be/\x.Be<=8):Bdv q=true ↔ (chL q).Nodup/\(slL q).Nodup:=by
 unfold chL slL List.Nodup;rw[List.pairwise_flatMap,List.pairwise_flatMap,List.pairwise_iff_getElem,List.pairwise_iff_getElem];have hs: ∀x∈q,List.Pairwise (fun a b:Int=>a≠b) (if x.Be=0 then []else [Ap x.Be 1]):=by
  intro x _;split<;>simp
 have hsub: ∀x∈q,Ap x.Be 1=x.Be - 1:=by
  grind [Ap,Asu,Ht]
 unfold Bdv A8n;simp only[Z1,List.mem_range,Z4,Z44,List.contains_eq_mem,decide_eq_false_iff_not];constructor
 ·intro h;refine⟨⟨h1,fun i j hi hj hij x hx y hy e=> ?_⟩,hs,fun i j hi hj hij x hx y hy e=> ?_⟩
  ·have:=(h j hj i hij).2
   grind [Wx]
  ·have:=(h j hj i hij).1;simp_all[Wx]
 ·rintro⟨⟨_,h3⟩,_,h4⟩ i hi k hk
  have hk':k<q.length:=by omega
  rw[Wx hi,Wx hk'];refine⟨?_,fun x hx hy=>h3 k i hk' hi hk x hy x hx rfl⟩;rw[Bool.and_eq_false_iff];by_cases g:q[i].Be=0
  ·grind
  ·right;rw[beq_eq_false_iff_ne];intro e;refine h4 k i hk' hi hk (Ap q[k].Be 1) ?_ (Ap q[i].Be 1) ?_ (by rw[e])
   all_goals grind
theorem Byg{w:Bo}(hp:Aw2 w.fC w.fP=true)(hL:(w.fL.length:Int)=w.fC.Cd)(hq: ∀x∈w.fQ,Apc w x=true):A1x w w.fC.Ad.toNat=Bar w:=by
 obtain⟨hc,hm,hst,_⟩:=Avt hp;obtain⟨b1,b2,b3,_⟩:=Bd hc;have hone: ∀x∈w.fQ,(0<=x.Be/\x.Be<=w.fC.Cd)/\Ayu w.fC x.Ad=true/\A6r w x=true/\A0z w x=true/\Aw6 w x=true:=by
  intro x hx;have:=hq x hx;unfold Apc at this;simp only[Z4]at this;obtain⟨h1,h2,h3,h4,h5,h6⟩:=this;obtain⟨_,g1,_,g3,_⟩:=Avg h1
  grind
 have hC: ∀x∈chL w.fQ,x∈A96 w:=by
  intro y hy;unfold chL at hy;rw[List.mem_flatMap]at hy;obtain⟨x,hx,hy⟩:=hy;obtain⟨_,g2,g3,_⟩:=hone x hx;have:=A1w g2 y hy;unfold A6r at g3;rw[Z1]at g3;have g4:=g3 y hy;refine A00.2 ⟨⟨this.1,by omega⟩,?_⟩
  grind
 have hS: ∀x∈slL w.fQ,x∈A97 w:=by
  intro y hy;unfold slL at hy;rw[List.mem_flatMap]at hy;obtain⟨x,hx,hy⟩:=hy;obtain⟨g1,g2,g3,g4,_⟩:=hone x hx;split at hy
  ·cases hy
  ·rename_i g;simp only[S9]at hy;unfold A0z at g4;rw[At6 g,Z52,<-hy]at g4;have:y=x.Be - 1:=by grind [Ap,Asu,Ht]
   refine A00.2 ⟨⟨by omega,by omega⟩,?_⟩
   grind
 have hK2: ∀x∈kdL w.fL w.fQ,x∈Bfu w:=by
  intro y hy;unfold kdL at hy;rw[List.mem_flatMap]at hy;obtain⟨x,hx,hy⟩:=hy;obtain⟨g1,g2,g3,g4,g5⟩:=hone x hx;unfold Aw6 at g5;rw[Z1]at g5;have:=A83 _ _ y hy;refine A00.2 ⟨this,?_⟩
  grind
 have e1:=Bbb hC (A8m _ _);have e2:=Bbb hS (A8m _ _);have e3:=Bbb hK2 (A8m _ _);have hp2:=Bfv (w:=w) (q:=w.fQ) (fun x hx=>A3f (hone x hx).2.1) (fun x hx=>by grind);rw[Bool.eq_iff_iff];unfold A1x Bar;simp only[Z4,Z1,List.mem_range,Bool.or_eq_true,Z44,beq_iff_eq,Bhn,hp2,beq_eq_false_iff_ne];have c1:(∀x∈A96 w,(chL w.fQ).count x=1) ↔ ∀k,k<w.fP.G4.length->gt w.fP.G4 (k:Int)≠2\/gt (Apb w.fC.Ad.toNat (chL w.fQ)) (k:Int)=1:=by
  constructor
  ·intro h k hk;by_cases g:gt w.fP.G4 (k:Int)=2
   ·right;rw[A5r (by omega) (by omega),h k (A00.2 ⟨⟨by omega,by omega⟩,by grind⟩)];rfl
   omega
  ·intro h x hx;obtain⟨⟨h1,h2⟩,h3⟩:=A00.1 hx;rw[beq_iff_eq,show((x.toNat:Nat):Int)=x by omega]at h3;rcases h x.toNat (by omega)with h4|h4
   ·grind
   ·rw[show((x.toNat:Nat):Int)=x by omega,A5r h1 (by omega)]at h4;omega
 have c2:(∀x∈A97 w,(slL w.fQ).count x=1) ↔ ∀k,k<w.fL.length->(gt w.fL (k:Int)).G4≠2\/gt (Apb w.fL.length (slL w.fQ)) (k:Int)=1:=by
  constructor
  ·intro h k hk;by_cases g:(gt w.fL (k:Int)).G4=2
   ·right;rw[A5r (by omega) (by omega),h k (A00.2 ⟨⟨by omega,by omega⟩,by grind⟩)];rfl
   omega
  ·intro h x hx;obtain⟨⟨h1,h2⟩,h3⟩:=A00.1 hx;rw[beq_iff_eq,show((x.toNat:Nat):Int)=x by omega]at h3;rcases h x.toNat (by omega)with h4|h4
   ·grind
   ·rw[show((x.toNat:Nat):Int)=x by omega,A5r h1 (by omega)]at h4;omega
 have c3:(∀x∈Bfu w,(kdL w.fL w.fQ).count x=1) ↔ ∀k,k<w.fL.length->A3b w.fL (k:Int)=false\/gt (Apb w.fL.length (kdL w.fL w.fQ)) (k:Int)=1:=by
  constructor
  ·intro h k hk;cases g:A3b w.fL (k:Int)with
   |true=>
    right;rw[A5r (by omega) (by omega),h k (A00.2 ⟨⟨by omega,by omega⟩,by grind⟩)];rfl
   |false=>left;rfl
  ·intro h x hx;obtain⟨⟨h1,h2⟩,h3⟩:=A00.1 hx;rw[show((x.toNat:Nat):Int)=x by omega]at h3;rcases h x.toNat (by omega)with h4|h4
   ·grind
   ·rw[show((x.toNat:Nat):Int)=x by omega,A5r h1 (by omega)]at h4;omega
 grind
theorem Bas{α β:Type}{K:Nat}(hK:281474976710656<=K)(l:List α)(hl:l.length<=140737488355328)(q:α->Bool)(fin bad:Option β)(L:Nat->Nat->Option β)
  (hs: ∀n (i:Nat) (h:i<l.length),L (n+1) i=bif q l[i]then L n (i+1)else bad)
  (he: ∀n,L (n+1) l.length=fin):L K 0=bif l.all q then fin else bad:=by
 have:=Bi7 l q fin bad (fun n i=>L n i.toNat) (fun n i h=>by grind) (fun n=>by simp_all) K 0 (Z21 _) (by omega)
 grind
section
variable {K:Nat} (hK:281474976710656<=K)
include hK
theorem Bk5 (w:Bo)(hw:Ar0 w):Aa1 K (Apb w.fL.length (slL w.fQ)) (Apb w.fL.length (kdL w.fL w.fQ)) w.fL K (w.fL.length:Int) 0 w.fL=some ((List.range w.fL.length).all (fun k=>(!((gt w.fL (k:Int)).G4==2)||gt (Apb w.fL.length (slL w.fQ)) k==1)&&(!A3b w.fL k||gt (Apb w.fL.length (kdL w.fL w.fQ)) k==1))):=by
 have hl:=Af6 hw.l;rw[Aua hK w.fL.length (by omega) (fun k=>(!((gt w.fL (k:Int)).G4==2)||gt (Apb w.fL.length (slL w.fQ)) k==1)&&(!A3b w.fL k||gt (Apb w.fL.length (kdL w.fL w.fQ)) k==1)) (some true) (fun n i=>Aa1 K (Apb w.fL.length (slL w.fQ)) (Apb w.fL.length (kdL w.fL w.fQ)) w.fL n (w.fL.length:Int) i w.fL) (fun n i h=> ?_) (fun n=> ?_)]
 ·grind
 ·simp only[Aa1,Amk];rw[Afb h,cond_true,if_pos (Ald h),A94 K hw.l (Ald h),Ad9 (by omega)];simp only[Z0,A85,if_pos (Ald h),bne,Aht]
  grind
 ·show Aa1 K _ _ _ (n+1) _ _ _=_;simp_all[Aa1]
theorem Bk6 (w:Bo)(hw:Ar0 w)(hp:Aw2 w.fC w.fP=true):Ahr K (Apb w.fC.Ad.toNat (chL w.fQ)) (Apb w.fL.length (slL w.fQ)) (Apb w.fL.length (kdL w.fL w.fQ)) w.fP.G4 w.fL K (w.fP.G4.length:Int) 0 w.fP.G4=some (A1x w w.fC.Ad.toNat):=by
 obtain⟨hc,hm,hst,_⟩:=Avt hp;obtain⟨b1,_⟩:=Bd hc;rw[Aua hK w.fP.G4.length (by omega) (fun k=> !(gt w.fP.G4 k==2)||gt (Apb w.fC.Ad.toNat (chL w.fQ)) k==1) (some ((List.range w.fL.length).all (fun k=>(!((gt w.fL (k:Int)).G4==2)||gt (Apb w.fL.length (slL w.fQ)) k==1)&&(!A3b w.fL k||gt (Apb w.fL.length (kdL w.fL w.fQ)) k==1)))) (fun n i=>Ahr K (Apb w.fC.Ad.toNat (chL w.fQ)) (Apb w.fL.length (slL w.fQ)) (Apb w.fL.length (kdL w.fL w.fQ)) w.fP.G4 w.fL n (w.fP.G4.length:Int) i w.fP.G4) (fun n i h=> ?_) (fun n=> ?_)]
 ·rw[Ayc];rfl
 ·simp only[Ahr,Avf];rw[Afb h,cond_true,if_pos (Ald h),Ad9 (by omega)];simp only[A85,if_pos (show(0:Int)<=(i:Int)/\(i:Int)<((w.fC.Ad.toNat:Nat):Int) from⟨by omega,by omega⟩),bne,Aht]
  grind
 ·show Ahr K _ _ _ _ _ (n+1) _ _ _=_;rw[Ahr,Ayt (Z9 _),cond_false,Bk5 hK w hw]
theorem Bfw{β:Type}(N:Nat)(base l:List Int)(hin: ∀x∈l,0<=x/\x<(N:Int))(hl:base.length+l.length<=140737488355327)(q:Int->Bool)(fin bad:Option β)(L:Nat->List Int->Int->Option β)
  (hs: ∀n v (i:Nat) (h:i<l.length),v.length=N->L (n+1) v (i:Int)=bif q l[i]then L n (v.set (l[i]).toNat (A1 (gt v l[i]) 1)) ((i+1:Nat):Int)else bad)
  (he: ∀n,L (n+1) (Apb N (base++l)) (l.length:Int)=fin):L K (Apb N base) 0=bif l.all q then fin else bad:=by
 have:=Bas hK l (by omega) q fin bad (fun n i=>L n (Apb N (base++l.take i)) (i:Int)) (fun n i h=> ?_) (fun n=> ?_)
 ·grind
 ·have hb:(base++l.take i).length<=140737488355327:=by grind
  simp_all[A85,Bft]
 grind
theorem Bho (w:Bo)(hw:Ar0 w)(hp:Aw2 w.fC w.fP=true)(hL:(w.fL.length:Int)=w.fC.Cd)(x:Bb)(hx:A0m x)(c s d:List Int)(i:Nat)(n:Nat)(hi:i<w.fQ.length)(he:gt w.fQ i=x)
  (hb1:c.length+12<=140737488355327) (hb2:s.length<=140737488355326) (hb3:d.length+8<=140737488355327):
  Gy K (n+1) (Apb w.fC.Ad.toNat c) (Apb w.fL.length s) (Apb w.fL.length d) w.fQ (w.fQ.length:Int) i w.fC.Ad w.fC.Du w.fC.Cd w.fC.Ez w.fC.Ce w.fC.Dv w.fP.Fp w.fP.G4 w.fP.Fq w.fL w.fQ w.Jp
   =bif Apc w x then Gy K n (Apb w.fC.Ad.toNat (c++x.Ad)) (Apb w.fL.length (s++if x.Be=0 then []else [Ap x.Be 1])) (Apb w.fL.length (d++Ak4 w.fL x.Bz)) w.fQ (w.fQ.length:Int) ((i+1:Nat):Int) w.fC.Ad w.fC.Du w.fC.Cd w.fC.Ez w.fC.Ce w.fC.Dv w.fP.Fp w.fP.G4 w.fP.Fq w.fL w.fQ w.Jp else some false:=by
 have hq:=hw.q.2;rw[Gy];rw[show Fi.mk w.fC.Ad w.fC.Du w.fC.Cd w.fC.Ez w.fC.Ce w.fC.Dv=w.fC from rfl,show Ef.mk w.fP.Fp w.fP.G4 w.fP.Fq=w.fP from rfl];rw[Afb hi,cond_true,if_pos (Ald hi),he,Bco hK _ _ hx,Z0];unfold Apc;cases hr:Aoz w.fC x with
 |false=>rfl
 |true=>
 rw[cond_true,Z30];obtain⟨hc,⟨s1,s2⟩,⟨f1,f2⟩,hd,d1,d2⟩:=Avg hr;obtain⟨_,hm,hst,_⟩:=Avt hp;obtain⟨b1,b2,b3,_⟩:=Bd hc;have hch:=A1w hd;have hcl:=Awx hc hd;have h5: ∀s',Atg K (Apb w.fL.length d) w.fQ (w.fQ.length:Int) i w.fC.Ad w.fC.Du w.fC.Cd w.fC.Ez w.fC.Ce w.fC.Dv w.fP.Fp w.fP.G4 w.fP.Fq w.fL w.fQ w.Jp x.Bz (Apb w.fC.Ad.toNat (c++x.Ad)) s' (Gy K n)
   =bif Aw6 w x then Gy K n (Apb w.fC.Ad.toNat (c++x.Ad)) s' (Apb w.fL.length (d++Ak4 w.fL x.Bz)) w.fQ (w.fQ.length:Int) ((i+1:Nat):Int) w.fC.Ad w.fC.Du w.fC.Cd w.fC.Ez w.fC.Ce w.fC.Dv w.fP.Fp w.fP.G4 w.fP.Fq w.fL w.fQ w.Jp else some false:=by
  intro s';have hk:=A71 (l:=w.fL) w.fL.length (Ap x.Bz 1);have hin:=A83 (l:=w.fL) w.fL.length (Ap x.Bz 1);unfold Atg Aw6;rw[Bfr hK hw.l,Z0];change (Ak4 w.fL x.Bz).length<=_ at hk;change ∀y∈Ak4 w.fL x.Bz,_ at hin;generalize Ak4 w.fL x.Bz=r at*;refine Bfw hK w.fL.length d r hin (by omega) (A3b w.fL) _ _ (fun m v j=>Akp K w.fQ (w.fQ.length:Int) i w.fC.Ad w.fC.Du w.fC.Cd w.fC.Ez w.fC.Ce w.fC.Dv w.fP.Fp w.fP.G4 w.fP.Fq w.fL w.fQ w.Jp (Apb w.fC.Ad.toNat (c++x.Ad)) s' r (Gy K n) m v (r.length:Int) j) (fun m v j hj hv=> ?_) (fun m=> ?_)
  ·have hr1:=hin _ (Aty hj);simp only[Akp];rw[Afb hj,cond_true,if_pos (Ald hj),if_pos (by omega),if_pos (by omega),A94 K hw.l hr1,Ad9 (by omega),Z0,Aht,Wx hj]
  ·show Akp K _ _ _ _ _ _ _ _ _ _ _ _ _ _ _ _ _ _ _ (m+1) _ _ _=_;rw[Akp,Ayt (Z9 _),cond_false,Ad9 (by omega)]
 have h4: ∀s',Ath K (Apb w.fL.length d) w.fQ (w.fQ.length:Int) i w.fC.Ad w.fC.Du w.fC.Cd w.fC.Ez w.fC.Ce w.fC.Dv w.fP.Fp w.fP.G4 w.fP.Fq w.fL w.fQ w.Jp x.Bz (Apb w.fC.Ad.toNat (c++x.Ad)) (Gy K n) s'
   =bif A22 w x&&Aw6 w x then Gy K n (Apb w.fC.Ad.toNat (c++x.Ad)) s' (Apb w.fL.length (d++Ak4 w.fL x.Bz)) w.fQ (w.fQ.length:Int) ((i+1:Nat):Int) w.fC.Ad w.fC.Du w.fC.Cd w.fC.Ez w.fC.Ce w.fC.Dv w.fP.Fp w.fP.G4 w.fP.Fq w.fL w.fQ w.Jp else some false:=by
  intro s';unfold Ath A22;rw[h5];by_cases g:x.Bz=0
  ·grind
  ·rw[decide_eq_true (by omega),cond_true,if_pos (A84 hK hL hc g f1 f2),At6 g]
   grind
 have h2:Atm K (Apb w.fC.Ad.toNat c) (Apb w.fL.length s) (Apb w.fL.length d) w.fQ (w.fQ.length:Int) i w.fC.Ad w.fC.Du w.fC.Cd w.fC.Ez w.fC.Ce w.fC.Dv w.fP.Fp w.fP.G4 w.fP.Fq w.fL w.fQ w.Jp (Gy K n) x.Be x.Bz x.Dh x.Ad x.H2
   =bif A6r w x&&(A0z w x&&(A22 w x&&Aw6 w x))then Gy K n (Apb w.fC.Ad.toNat (c++x.Ad)) (Apb w.fL.length (s++if x.Be=0 then []else [Ap x.Be 1])) (Apb w.fL.length (d++Ak4 w.fL x.Bz)) w.fQ (w.fQ.length:Int) ((i+1:Nat):Int) w.fC.Ad w.fC.Du w.fC.Cd w.fC.Ez w.fC.Ce w.fC.Dv w.fP.Fp w.fP.G4 w.fP.Fq w.fL w.fQ w.Jp else some false:=by
  unfold Atm;rw[Bfw hK w.fC.Ad.toNat c x.Ad (fun y hy=>by grind) (by omega) (fun k=>gt w.fP.G4 k==2)
   (bif A0z w x&&(A22 w x&&Aw6 w x)then Gy K n (Apb w.fC.Ad.toNat (c++x.Ad)) (Apb w.fL.length (s++if x.Be=0 then []else [Ap x.Be 1])) (Apb w.fL.length (d++Ak4 w.fL x.Bz)) w.fQ (w.fQ.length:Int) ((i+1:Nat):Int) w.fC.Ad w.fC.Du w.fC.Cd w.fC.Ez w.fC.Ce w.fC.Dv w.fP.Fp w.fP.G4 w.fP.Fq w.fL w.fQ w.Jp else some false) (some false)
   (fun m v j=>Aks K (Apb w.fL.length s) (Apb w.fL.length d) w.fQ (w.fQ.length:Int) i w.fC.Ad w.fC.Du w.fC.Cd w.fC.Ez w.fC.Ce w.fC.Dv w.fP.Fp w.fP.G4 w.fP.Fq w.fL w.fQ w.Jp x.Be x.Bz x.Ad (Gy K n) m v (x.Ad.length:Int) j x.Ad) (fun m v j hj hv=> ?_) (fun m=> ?_)]
  ·unfold A6r
   grind
  ·have hr1:=hch _ (Aty hj);simp only[Aks];rw[Afb hj,cond_true,if_pos (Ald hj),if_pos (by omega),if_pos (by omega),if_pos ⟨hr1.1,by omega⟩,Ad9 (by omega),bne,Aht,Wx hj]
  ·show Aks K _ _ _ _ _ _ _ _ _ _ _ _ _ _ _ _ _ _ _ _ _ (m+1) _ _ _ _=_;rw[Aks,Ayt (Z9 _),cond_false,h4,h4,A85];unfold A0z;by_cases g:x.Be=0
   ·grind
   ·have hlk:=A84 hK hL hc g s1 s2;rw[decide_eq_true (by omega),cond_true,if_pos hlk,if_pos hlk,if_neg g,Bft hlk.1 hlk.2 (by omega),At6 g]
    grind
 rw[h2];unfold Arz;by_cases g:(x.Ad.length:Int)>0
 ·have h5:=hch _ (Akl (l:=x.Ad) (Int.le_refl 0) (by omega));obtain⟨e1,e2,e3,e4⟩:=A3z hc hm h5.1 h5.2;have hlc:(Aw1 w.fC w.fP.Fp (gt x.Ad 0)).length=w.fC.Du.toNat:=by grind [Aw1]
  have htk:List.take (x.H2 - 0).toNat (List.drop (0:Int).toNat (Aw1 w.fC w.fP.Fp (gt x.Ad 0)))=List.take x.H2.toNat (List.drop (gt x.Ad 0*w.fC.Du).toNat w.fP.Fp):=by
   unfold Aw1;simp only[Int.sub_zero,Int.toNat_zero,Z55,List.take_take];rw[Nat.min_eq_left (by omega)]
  rw[decide_eq_true g,cond_true,if_pos ⟨by omega,by omega⟩,A8i hK hc hm h5.1 h5.2,Z0,if_pos ⟨by omega,by omega,by rw[hlc];omega⟩,htk,A5n hK _ (by simp;omega)];simp only[Z0,Aht,Bool.not_true,Z52];cases Ary (List.take x.H2.toNat (List.drop (gt x.Ad 0*w.fC.Du).toNat w.fP.Fp))<;>cases A6r w x<;>rfl
 ·rw[decide_eq_false g];simp only[cond_false,Bool.not_false,Bool.true_or,Z30]
theorem Bjd (q:List Bb):(slL q).length<=q.length:=by
 have:=A86 q (fun x=>if x.Be=0 then []else [Ap x.Be 1]) 1 (fun x _=>by grind)
 grind [slL]
theorem Bdw (l:List Az)(hl:l.length<=8)(q:List Bb):(kdL l q).length<=q.length*8:=
 A86 _ _ 8 fun x _=>S5 (A71 _ _) hl
end
theorem Bhp{β:Type}(N:Nat)(hN:N<=140737488355327)(q:Nat->Bool)(fin:Int->Option β)(L:Nat->Int->Int->Option β)
  (hs: ∀n (v:Int) (i:Nat),i<N->0<=v->v<=i->L (n+1) v (i:Int)=bif q i then L n (v+1) ((i+1:Nat):Int)else L n v ((i+1:Nat):Int))
  (he: ∀n v,L (n+1) v (N:Int)=fin v):
  ∀(n i:Nat) (v:Int),0<=v->v<=i->i<=N->N - i<n->L n v (i:Int)=fin (v+((((List.range N).drop i).filter q).length:Int)):=by
 intro n;induction n with
 |zero=>omega
 |succ n ih=>
  intro i v h0 hv hi hn;rcases Hi i N with h|h
  ·rw[hs n v i h h0 hv,Z47 (by grind),List.getElem_range,List.filter_cons];cases hq:q i with
   |true=>
    rw[cond_true,ih (i+1) _ (by omega) (by omega) (by omega) (by omega)]
    grind
   |false=>
    grind
  grind
theorem Bdx{v:Int}(h0:0<=v)(h:v<=140737488355328):A1 v 1=v+1:=by grind [A1,Lc,Ht]
section
variable {K:Nat} (hK:281474976710656<=K)
include hK
theorem Bdy (w:Bo)(hw:Ar0 w)(hp:Aw2 w.fC w.fP=true)(hL:(w.fL.length:Int)=w.fC.Cd):Awt K w=some (w.fQ.all (Apc w)&&A1x w w.fC.Ad.toNat):=by
 obtain⟨hc,hm,hst,_⟩:=Avt hp;obtain⟨b1,b2,b3,_⟩:=Bd hc;have hq:=hw.q.2;have key: ∀(n i:Nat),(∀x∈w.fQ.take i,Apc w x=true)->i<=w.fQ.length->w.fQ.length - i<n->
   Gy K n (Apb w.fC.Ad.toNat (chL (w.fQ.take i))) (Apb w.fL.length (slL (w.fQ.take i))) (Apb w.fL.length (kdL w.fL (w.fQ.take i))) w.fQ (w.fQ.length:Int) i w.fC.Ad w.fC.Du w.fC.Cd w.fC.Ez w.fC.Ce w.fC.Dv w.fP.Fp w.fP.G4 w.fP.Fq w.fL w.fQ w.Jp=some ((w.fQ.drop i).all (Apc w)&&A1x w w.fC.Ad.toNat):=by
  intro n;induction n with
  |zero=>omega
  |succ n ih=>
   intro i hpre hi hn;rcases Hi i w.fQ.length with h|h
   ·have hb1:(chL (w.fQ.take i)).length<=(w.fQ.take i).length*12:=A86 _ _ 12 fun x hx=>by
     have:=hpre x hx;unfold Apc at this;simp only[Z4]at this;obtain⟨hc,_,_,hd,_⟩:=Avg this.1;exact Awx hc hd
    have hb2:=Bjd hK (w.fQ.take i);have hb3:=Bdw hK w.fL (by omega) (w.fQ.take i);rw[List.length_take]at hb1 hb2 hb3;rw[Bho hK w hw hp hL w.fQ[i] (hw.q.1 _ (List.getElem_mem h)) _ _ _ i n h (Wx h) (by omega) (by omega) (by omega),Z47 h,Gv];cases hx:Apc w w.fQ[i]with
    |false=>rfl
    |true=>
     rw[cond_true,Z30,<-ih (i+1) (fun x hx2=>by
      grind [List.take_append_getElem]) h (by omega)]
     simp_all[chL,slL,kdL,Bcz]
   ·obtain rfl:i=w.fQ.length:=by omega
    rw[Gy,Ayt (Z9 _),cond_false,List.take_length,Bk6 hK w hw hp,List.drop_length];rfl
 unfold Awt;rw[if_pos ⟨by omega,by omega,by omega,by omega⟩,if_pos ⟨by omega,by omega,by omega,by omega⟩,if_pos ⟨by omega,by omega,by omega,by omega⟩];have:=key K 0 (fun x hx=>by simp at hx) (Z21 _) (by omega);rw[List.take_zero,Z55,show chL []=[] from rfl,show slL []=[] from rfl,show kdL w.fL []=[] from rfl,Bfs,Bfs]at this
 grind
theorem Bdz (p:Ef)(st:Int)(hl:p.G4.length<=140737488355327):A2j K p st=some ((((List.range p.G4.length).filter (fun k:Nat=>gt p.G4 k==st)).length:Nat):Int):=by
 unfold A2j;have:=Bhp p.G4.length hl (fun k:Nat=>gt p.G4 k==st) some (fun n v i=>Art K st n v i p.Fp p.G4 p.Fq) (fun n v i hi h0 hv=> ?_) (fun n v=> ?_) K 0 0 (Int.le_refl _) (Int.le_refl _) (Z21 _) (by omega)
 ·grind
 ·simp only[Art,Az7];rw[Afb hi,cond_true,if_pos (Ald hi),Ad9 (by omega),Bdx h0 (by omega)]
 ·show Art K st (n+1) v _ _ _ _=_;simp_all[Art]
theorem A65 (l:List Az)(st:Int)(hl:l.length<=140737488355327):Aux K l st=some ((((List.range l.length).filter (fun k:Nat=>(gt l k).G4==st)).length:Nat):Int):=by
 unfold Aux;have:=Bhp l.length hl (fun k:Nat=>(gt l k).G4==st) some (fun n v i=>Alj K l st n v i) (fun n v i hi h0 hv=> ?_) (fun n v=> ?_) K 0 0 (Int.le_refl _) (Int.le_refl _) (Z21 _) (by omega)
 ·grind
 ·simp only[Alj,Aw3];rw[Afb hi,cond_true,if_pos (Ald hi),Ad9 (by omega),Bdx h0 (by omega)]
 ·show Alj K l st (n+1) v _=_;simp_all[Alj]
theorem Bhq (w:Bo)(hw:Ar0 w)(v1 v2:Int)(v3:List Int)(h3:v3.length<=140737488355327):
  Akg K v1 v2 v3 w.fP.Fp w.fP.G4 w.fP.Fq w.fL K 0 0=some (A9p v3&&((v1==((A96 w).length:Int))&&((v2==((A97 w).length:Int))&&((v3.length:Int)==((Bfu w).length:Int))))):=by
 have hl:=Af6 hw.l;have hs:=A3e hK hw.p.st;have h8: ∀v24,Amp K v1 v2 v3 w.fP.Fp w.fP.G4 w.fP.Fq w.fL v24 K 0=some (A9p v3&&((v1==((A96 w).length:Int))&&((v2==((A97 w).length:Int))&&((v3.length:Int)==v24)))):=by
  intro v24;rw[Aua hK v3.length (by omega) (fun i=> !(v3.take i).contains (gt v3 i)) (some ((v1==((A96 w).length:Int))&&((v2==((A97 w).length:Int))&&((v3.length:Int)==v24)))) (fun n i=>Amp K v1 v2 v3 w.fP.Fp w.fP.G4 w.fP.Fq w.fL v24 n i) (fun n i h=> ?_) (fun n=> ?_)]
  ·rw[Ayc];rfl
  ·have hp:(v3.take i).length<=140737488355328:=by grind
   simp only[Amp];rw[Afb h,cond_true,if_pos (Bfi (by omega)),if_pos (Ald h),A8j,A43 hK _ _ hp,Ad9 (by omega),Z0,Aht]
  ·show Amp K v1 v2 v3 _ _ _ _ v24 (n+1) _=_;simp_all[Amp,Bdz,A65,Ayc,A96,A97]
 have:=Bhp w.fL.length hl (fun k:Nat=>A3b w.fL k) (fun v=>some (A9p v3&&((v1==((A96 w).length:Int))&&((v2==((A97 w).length:Int))&&((v3.length:Int)==v))))) (fun n v i=>Akg K v1 v2 v3 w.fP.Fp w.fP.G4 w.fP.Fq w.fL n v i) (fun n v i hi h0 hv=> ?_) (fun n v=> ?_) K 0 0 (Int.le_refl _) (Int.le_refl _) (Z21 _) (by omega)
 ·rw[show((0:Nat):Int)=0 from rfl]at this;simp_all[Bfu]
 ·simp only[Akg,Aya];rw[Afb hi,cond_true,A93 K hw.l (Ald hi),Z0,Ad9 (by omega),Bdx h0 (by omega)]
 ·show Akg K v1 v2 v3 _ _ _ _ (n+1) v _=_;simp_all[Akg]
theorem Bfx (w:Bo)(hw:Ar0 w)(i n:Nat)(hi:i<w.fQ.length)(v1 v2:Int)(v3:List Int)(h1:0<=v1/\v1<=70368744177664)(h2:0<=v2/\v2<=70368744177664)(h3:(v3.length+w.fL.length)*8<=140737488355327)(hcl:(gt w.fQ i).Ad.length<=12):
  Aen K (n+1) v1 v2 v3 i w.fC.Ad w.fC.Du w.fC.Cd w.fC.Ez w.fC.Ce w.fC.Dv w.fP.Fp w.fP.G4 w.fP.Fq w.fL w.fQ w.Jp
   =bif (List.range i).all (fun k=>A8n w.fQ i k)then Aen K n (v1+((gt w.fQ i).Ad.length:Int)) (v2+((if(gt w.fQ i).Be=0 then([]:List Int)else [Ap (gt w.fQ i).Be 1]).length:Int)) (v3++Ak4 w.fL (gt w.fQ i).Bz) ((i+1:Nat):Int) w.fC.Ad w.fC.Du w.fC.Cd w.fC.Ez w.fC.Ce w.fC.Dv w.fP.Fp w.fP.G4 w.fP.Fq w.fL w.fQ w.Jp else some false:=by
 have hq:=hw.q.2;have hm:=V1;have hx:=hw.q.1 _ (Aty hi);have hkl:=A71 (l:=w.fL) w.fL.length (Ap (gt w.fQ i).Bz 1);change (Ak4 w.fL (gt w.fQ i).Bz).length<=_ at hkl;have hJ: ∀v17 v18,Av2 K v3 i w.fC.Ad w.fC.Du w.fC.Cd w.fC.Ez w.fC.Ce w.fC.Dv w.fP.Fp w.fP.G4 w.fP.Fq w.fL w.fQ w.Jp (Aen K n) v17 v18
   =bif (List.range i).all (fun k=>A8n w.fQ i k)then Aen K n v17 v18 (v3++Ak4 w.fL (gt w.fQ i).Bz) ((i+1:Nat):Int) w.fC.Ad w.fC.Du w.fC.Cd w.fC.Ez w.fC.Ce w.fC.Dv w.fP.Fp w.fP.G4 w.fP.Fq w.fL w.fQ w.Jp else some false:=by
  intro v17 v18;unfold Av2;have hlen:(v3++Ak4 w.fL (gt w.fQ i).Bz).length=v3.length+(Ak4 w.fL (gt w.fQ i).Bz).length:=by simp
  rw[if_pos (Ald hi),A95 hK hw.l hx.first,Z0,if_pos ⟨by omega,by omega⟩];rw[Aua hK i (by omega) (fun k=>A8n w.fQ i k) _ (fun m k=>Amo K i w.fC.Ad w.fC.Du w.fC.Cd w.fC.Ez w.fC.Ce w.fC.Dv w.fP.Fp w.fP.G4 w.fP.Fq w.fL w.fQ w.Jp v17 v18 (Aen K n) m (v3++Ak4 w.fL (gt w.fQ i).Bz) k) (fun m k hk=> ?_) (fun m=> ?_)]
  ·have hk2:k<w.fQ.length:=by omega
   have hlk:=A3e hK (hw.q.1 _ (Aty hk2)).chunks;have h4: ∀C:List Int->Int->Option Bool,Av1 K i w.fQ (v3++Ak4 w.fL (gt w.fQ i).Bz) k C=bif (gt w.fQ i).Ad.all (fun y=> !(gt w.fQ k).Ad.contains y)then C (v3++Ak4 w.fL (gt w.fQ i).Bz) ((k+1:Nat):Int)else some false:=by
    intro C;unfold Av1;rw[Aw5 hK (gt w.fQ i).Ad (by omega) (fun y=> !(gt w.fQ k).Ad.contains y) _ (fun m j=>Arn K i w.fQ (v3++Ak4 w.fL (gt w.fQ i).Bz) k C m j) (fun m j hj=> ?_) (fun m=> ?_)]
    ·simp only[Arn];rw[if_pos (Ald hi),Afb hj,cond_true,if_pos (Ald hk2),if_pos (Ald hj),A43 hK _ _ (by omega),Z0,Ad9 (by omega),Aht,Wx hj,if_pos (Ald hi)]
    ·show Arn K i w.fQ _ k C (m+1) _=_;rw[Arn,if_pos (Ald hi),Ayt (Z9 _),cond_false,Ad9 (by omega)]
   simp only[Amo];rw[Afb hk,cond_true,if_pos (Ald hi),if_pos (Ald hk2),if_pos (Ald hi),h4];unfold A8n
   grind
  ·show Amo K i _ _ _ _ _ _ _ _ _ _ _ _ v17 v18 _ (m+1) _ _=_;rw[Amo,Ayt (Z9 _),cond_false,Ad9 (by omega)]
 rw[Aen,Afb hi,cond_true,if_pos (Ald hi),if_pos (Ald hi),hJ,hJ];have e1:A1 v1 ((gt w.fQ i).Ad.length:Int)=v1+((gt w.fQ i).Ad.length:Int):=by grind [A1,Lc,Ht]
 rw[e1,Bdx h2.1 (by omega)]
 grind
theorem Bfy (w:Bo)(hw:Ar0 w)(hp:Aw2 w.fC w.fP=true)(hL:(w.fL.length:Int)=w.fC.Cd)(hall: ∀x∈w.fQ,Apc w x=true):Az8 K w=some (Bar w):=by
 obtain⟨hc,hm,hst,_⟩:=Avt hp;obtain⟨b1,b2,b3,_⟩:=Bd hc;have hq:=hw.q.2;have hc12: ∀x∈w.fQ,x.Ad.length<=12:=fun x hx=>by
  have:=hall x hx;unfold Apc at this;simp only[Z4]at this;obtain⟨hc,_,_,hd,_⟩:=Avg this.1;exact Awx hc hd
 have h3:=Bdw hK w.fL (by omega) w.fQ;unfold Az8;have:=Bas hK (List.range w.fQ.length) (by grind) (fun i=>(List.range i).all (fun k=>A8n w.fQ i k)) (Akg K ((chL w.fQ).length:Int) ((slL w.fQ).length:Int) (kdL w.fL w.fQ) w.fP.Fp w.fP.G4 w.fP.Fq w.fL K 0 0) (some false)
  (fun n i=>Aen K n ((chL (w.fQ.take i)).length:Int) ((slL (w.fQ.take i)).length:Int) (kdL w.fL (w.fQ.take i)) (i:Int) w.fC.Ad w.fC.Du w.fC.Cd w.fC.Ez w.fC.Ce w.fC.Dv w.fP.Fp w.fP.G4 w.fP.Fq w.fL w.fQ w.Jp) (fun n i h=> ?_) (fun n=> ?_)
 ·rw[List.take_zero,show chL []=[] from rfl,show slL []=[] from rfl,show kdL w.fL []=[] from rfl]at this;refine Eq.trans this ?_;rw[Bhq hK w hw _ _ _ (by omega),Ayc];rfl
 ·have hi:i<w.fQ.length:=by grind
  have hb1:(chL (w.fQ.take i)).length<=(w.fQ.take i).length*12:=A86 _ _ 12 fun x hx=>hc12 x (Z42 hx)
  have hb2:=Bjd hK (w.fQ.take i);have hb3:=Bdw hK w.fL (by omega) (w.fQ.take i);rw[List.length_take]at hb1 hb2 hb3;simp only[List.getElem_range];rw[Bfx hK w hw i n hi _ _ _ ⟨by omega,by omega⟩ ⟨by omega,by omega⟩ (by omega) (hc12 _ (Aty hi))];simp_all[chL,slL,kdL,Bcz,Wx]
 simp_all[Aen.eq_2]
end
def A3h (w:Bo):Bool:=
 Aw2 w.fC w.fP&&(((w.fL.length:Int)==w.fC.Cd)&&((List.range w.fL.length).all (A81 w)&&(Ba9 w.fL&&((w.fQ.all (Apc w)&&A1x w w.fC.Ad.toNat)&&w.Jp.all (fun x=>inB x 0 255)))))
section
variable {K:Nat} (hK:281474976710656<=K)
include hK
theorem A23 (w:Bo)(hw:Ar0 w):Aus K w=some (A3h w):=by
 have hl:=A3e hK hw.log;unfold Aus A3h;rw[A90 hK,Z0];cases hp:Aw2 w.fC w.fP with
 |false=>rfl
 |true=>
 rw[cond_true,Z30];cases hL:(w.fL.length:Int)==w.fC.Cd with
 |false=>rfl
 |true=>
 rw[beq_iff_eq]at hL;rw[cond_true,Z30,Bds hK w hw hp,Bfq hK hw.l,Bdy hK w hw hp hL,A52 hK _ (by omega)];simp_all[Ayc]
theorem A0i (w:Bo)(hw:Ar0 w):Asq K w=some (A3h w):=by
 have hl:=A3e hK hw.log;have hl2:=Af6 hw.l;have hq:=hw.q.2;unfold Asq A3h;rw[A7g hK,Z0];cases hp:Aw2 w.fC w.fP with
 |false=>rfl
 |true=>
 rw[cond_true,Z30];cases hL:(w.fL.length:Int)==w.fC.Cd with
 |false=>grind
 |true=>
 rw[bne,hL,Bool.not_true,cond_false,Z30,Bfp hK hw.l,Z0,Aht];rw[beq_iff_eq]at hL;have e1:Fi.mk w.fC.Ad w.fC.Du w.fC.Cd w.fC.Ez w.fC.Ce w.fC.Dv=w.fC:=rfl;have e2:Bo.mk (Fi.mk w.fC.Ad w.fC.Du w.fC.Cd w.fC.Ez w.fC.Ce w.fC.Dv) (Ef.mk w.fP.Fp w.fP.G4 w.fP.Fq) w.fL w.fQ w.Jp=w:=rfl;have h3:w.fQ.all (Apc w)=true->Arv K w.fC.Ad w.fC.Du w.fC.Cd w.fC.Ez w.fC.Ce w.fC.Dv w.fP.Fp w.fP.G4 w.fP.Fq w.fL w.fQ w.Jp K 0=some (w.Jp.all (fun x=>inB x 0 255)&&A1x w w.fC.Ad.toNat):=by
  intro hall;rw[Z1]at hall;rw[Byg hp hL hall];rw[Aw5 hK w.Jp (by omega) (fun x=>inB x 0 255) (some (Bar w)) (Arv K w.fC.Ad w.fC.Du w.fC.Cd w.fC.Ez w.fC.Ce w.fC.Dv w.fP.Fp w.fP.G4 w.fP.Fq w.fL w.fQ w.Jp) (fun n i h=> ?_) (fun n=> ?_)]
  ·grind
  ·rw[Arv,Afb h,cond_true,if_pos (Ald h),Aml,Ad9 (by omega),Z0,Aht,Wx h]
  simp_all[Arv,Bfy]
 have h2:Auh K w.fC.Ad w.fC.Du w.fC.Cd w.fC.Ez w.fC.Ce w.fC.Dv w.fP.Fp w.fP.G4 w.fP.Fq w.fL w.fQ w.Jp K 0=some (w.fQ.all (Apc w)&&(w.Jp.all (fun x=>inB x 0 255)&&A1x w w.fC.Ad.toNat)):=by
  rw[Aw5 hK w.fQ (by omega) (Apc w) (Arv K w.fC.Ad w.fC.Du w.fC.Cd w.fC.Ez w.fC.Ce w.fC.Dv w.fP.Fp w.fP.G4 w.fP.Fq w.fL w.fQ w.Jp K 0) (Auh K w.fC.Ad w.fC.Du w.fC.Cd w.fC.Ez w.fC.Ce w.fC.Dv w.fP.Fp w.fP.G4 w.fP.Fq w.fL w.fQ w.Jp) (fun n i h=> ?_) (fun n=> ?_)]
  ·grind
  ·rw[Auh,Afb h,cond_true,e2,Bcp hK w hw hp hL i h,Ad9 (by omega),Z0,Aht,Wx h]
  simp_all[Auh]
 have h1:Arw K K 0 w.fC.Ad w.fC.Du w.fC.Cd w.fC.Ez w.fC.Ce w.fC.Dv w.fP.Fp w.fP.G4 w.fP.Fq w.fL w.fQ w.Jp=some ((List.range w.fL.length).all (A81 w)&&(w.fQ.all (Apc w)&&(w.Jp.all (fun x=>inB x 0 255)&&A1x w w.fC.Ad.toNat))):=by
  rw[Aua hK w.fL.length (by omega) (A81 w) (some (w.fQ.all (Apc w)&&(w.Jp.all (fun x=>inB x 0 255)&&A1x w w.fC.Ad.toNat))) (fun n i=>Arw K n i w.fC.Ad w.fC.Du w.fC.Cd w.fC.Ez w.fC.Ce w.fC.Dv w.fP.Fp w.fP.G4 w.fP.Fq w.fL w.fQ w.Jp) (fun n k hk=> ?_) (fun n=> ?_)]
  ·grind
  ·simp only[Arw];rw[e2,e1];have hn:=hw.l.1 _ (Aty hk);have l1:=A3e hK hn.chunks;have l2:=Bja hK hn.things;have l3:=A3e hK hn.tags;rw[Afb hk,cond_true,if_pos (Ald hk),Azv hK _ _ l1 l2 l3,Z0,Ba7 hK w k hk hw.p.st.2 l1,Ad9 (by omega),Bcl hK _ _ l1 l2];simp only[Z0];unfold A81;cases hb:Ava w.fC (gt w.fL k)with
   |false=>rfl
   |true=>
   cases A5p w.fP k (gt w.fL k).Ad with
   |false=>rfl
   |true=>
   cases hi:(gt w.fL k).D5.all (Av4 w.fC (gt w.fL k).Ad)with
   |false=>grind
   |true=>
   have hs:=Ba8 hi;rw[Bci hK _ l2 (fun t ht=>(hs t ht).1),Bhh hK w k hk hp hn hb hs];simp only[Z0,cond_true,Aht,Z30,if_pos (Ald hk)]
   grind
  ·show Arw K (n+1) _ _ _ _ _ _ _ _ _ _ _ _ _=_;simp_all[Arw]
 grind
end
theorem Bpc{n:Nat}(h:n<=reachBytes):n<=140737488355327:=by simp only[reachBytes]at h;omega
section
variable {K:Nat} (hK:281474976710656<=K)
include hK
end
theorem B1x{x:Int}(h:Bfg x):0<=x/\x<=255:=by
 grind [Bfg,Lit.wf,IntKind.min,IntKind.max,IntKind.signed,IntKind.bits]
theorem Bk7{l:List Int}(h:Bdp l):Bhe l:=⟨fun x hx=>B1x (h.1 x hx),by have:=Bpc h.2.1;omega⟩
theorem B4d{α:Type}(l:List α)(i:Nat)(x y:α):(l.set i x).set i y=l.set i y:=List.set_set ..
section
variable {K:Nat} (hK:281474976710656<=K)
include hK
def one{α:Type}(_:α):Nat:=1
def A48 (x:Az):Nat:=10+x.Ad.length+3*x.D5.length+x.Dh.length
def Bbc (p:Ef):Nat:=p.Fp.length+p.G4.length+p.Fq.length
end
section
variable {K:Nat} (hK:281474976710656<=K)
include hK
theorem Bat{α β:Type}(l:List α)(hl:l.length<=140737488355327)(fin:Option β)(L:Nat->List α->Int->Option β)
  (hs: ∀n v (i:Nat) (h:i<l.length),v.length=i->L (n+1) v (i:Int)=L n (v++[l[i]]) ((i+1:Nat):Int))
  (he: ∀n,L (n+1) l (l.length:Int)=fin):L K [] 0=fin:=by
 have:=Bas hK l (by omega) (fun _=>true) fin none (fun n i=>L n (l.take i) (i:Int)) (fun n i h=>by
  grind [List.take_append_getElem]) (fun n=>by grind)
 grind
omit hK in
theorem A31 (K:Nat){p:Ef}(w:A0k p):Avj K p=some p:=by
 have hm:=V1;have h1:=w.mem.2;have h2:=w.st.2;have h3:=w.own.2;unfold Avj;simp only[Z38];rw[if_pos ⟨by omega,by omega⟩,if_pos ⟨by omega,by omega⟩,if_pos ⟨by omega,by omega⟩]
omit hK in
theorem Awy (K:Nat){n:Az}(w:At7 n):Ap5 K n=some n:=by
 have hm:=V1;have h1:=w.chunks.2;have h2:=w.things.2;have h3:=w.tags.2;unfold Ap5;simp only[Z38];rw[if_pos ⟨by omega,by omega⟩,if_pos ⟨by omega,by omega⟩,if_pos ⟨by omega,by omega⟩]
theorem A6s{l:List Az}(w:Aeh l):Ax9 K l=some l:=by
 have hm:=V1;have h2:=w.2;unfold Ax9;refine Bat hK l (Af6 w) (some l) (fun n v i=>Avv K l n v i) (fun n v i h hv=> ?_) (fun n=> ?_)
 ·have hl:(v++[l[i]]).length=i+1:=by simp[hv]
  simp only[Avv];rw[Afb h,cond_true,if_pos (Ald h),Wx h,Awy K (w.1 _ (List.getElem_mem h)),Z0,if_pos ⟨by omega,by omega⟩,Ad9 (by omega)]
 ·show Avv K l (n+1) _ _=_;simp_all[Avv]
omit hK in
theorem Bd0 (K:Nat){x:Bb}(w:A0m x):A2i K x=some x:=by
 have hm:=V1;have h1:=w.tags.2;have h2:=w.chunks.2;unfold A2i;simp only[Z38];rw[if_pos ⟨by omega,by omega⟩,if_pos ⟨by omega,by omega⟩]
theorem Aye{w:Bo}(hw:Ar0 w):Ap6 K w=some w:=by
 have hm:=V1;have h2:=hw.q.2;have h3:=hw.log.2;unfold Ap6;rw[A31 K hw.p,Z0,A6s hK hw.l,Z0];refine Bat hK w.fQ (by omega) (some w) (fun n v i=>Auf K n i w.fC.Ad w.fC.Du w.fC.Cd w.fC.Ez w.fC.Ce w.fC.Dv w.fP.Fp w.fP.G4 w.fP.Fq w.fL v w.Jp (Bo.mk (Fi.mk 0 0 0 0 0 0) (Ef.mk [] [] []) [] [] []) w.fC.Ad w.fC.Du w.fC.Cd w.fC.Ez w.fC.Ce w.fC.Dv w.fP.Fp w.fP.G4 w.fP.Fq w.fL w.fQ w.Jp) (fun n v i h hv=> ?_) (fun n=> ?_)
 ·have hl:(v++[w.fQ[i]]).length=i+1:=by simp[hv]
  simp only[Auf];rw[Afb h,cond_true,if_pos (Ald h),Wx h,Bd0 K (hw.q.1 _ (List.getElem_mem h)),Z0,if_pos ⟨by omega,by omega⟩,Ad9 (by omega)]
 ·show Auf K (n+1) _ _ _ _ _ _ _ _ _ _ _ _ _ _ _ _ _ _ _ _ _ _ _ _ _ _=_;rw[Auf,Ayt (Z9 _),cond_false];simp only[Z38];rw[if_pos ⟨by omega,by omega⟩]
omit hK in
theorem A56 (K:Nat){p:Ef}(w:A0k p):Awe K p=some p:=by
 unfold Awe;rw[Bhf K w.mem.2,Ay2 K w.st.2,Ay2 K w.own.2];rfl
omit hK in
theorem Bcq (K:Nat){n:Az}(w:At7 n):A1l K n=some n:=by
 unfold A1l;rw[Ay2 K w.chunks.2,Bfl K w.things.2,Ay2 K w.tags.2];rfl
theorem A7l{l:List Az}(w:Aeh l):Axu K l=some l:=by
 have hm:=V1;have h2:=w.2;unfold Axu;refine Bat hK l (Af6 w) (some l) (fun n v i=>Arp K l n v (l.length:Int) i) (fun n v i h hv=> ?_) (fun n=> ?_)
 ·have hl:(v++[l[i]]).length=i+1:=by simp[hv]
  simp only[Arp];rw[Afb h,cond_true,if_pos (Ald h),Wx h,Bcq K (w.1 _ (List.getElem_mem h)),Z0,if_pos ⟨by omega,by omega⟩,Ad9 (by omega)]
 ·show Arp K l (n+1) _ _ _=_;simp_all[Arp]
omit hK in
theorem Bbd (K:Nat){x:Bb}(w:A0m x):A0e K x=some x:=by
 unfold A0e;rw[Ay2 K w.tags.2,Ay2 K w.chunks.2];rfl
theorem Bpd{α:Type}(v:List α)(d x:α):(v++[d]).set (v.length:Int).toNat x=v++[x]:=by
 simp_all
theorem A24{w:Bo}(hw:Ar0 w):Axv K w=some w:=by
 have hm:=V1;have h2:=hw.q.2;unfold Axv;rw[A56 K hw.p,Z0,A7l hK hw.l,Z0,Ay2 K hw.log.2,Z0];refine Bat hK w.fQ (by omega) (some w) (fun n v i=>Arq K n w.fQ (w.fQ.length:Int) i (Bo.mk w.fC w.fP w.fL v w.Jp) (Bo.mk (Fi.mk 0 0 0 0 0 0) (Ef.mk [] [] []) [] [] [])) (fun n v i h hv=> ?_) (fun n=> ?_)
 ·simp only[Arq];rw[Afb h,cond_true,if_pos (Ald h),Wx h,Bbd K (hw.q.1 _ (List.getElem_mem h)),Z0,if_pos ⟨by omega,by omega⟩,Ad9 (by omega),Bpd hK]
 ·show Arq K (n+1) _ _ _ _ _=_;simp_all[Arq]
end
def Bpe (mem:List Int)(p n:Int):List Int×Bool:=if 0<=p/\0<=n/\p+n<=(mem.length:Int)then((mem.drop p.toNat).take n.toNat,true)else([],false)
theorem Bsz{mem:List Int}(a b:Nat):((mem.drop a).take b).length<=mem.length:=by grind
theorem Bfz (K:Nat){mem:List Int}(hl:mem.length<=140737488355327)(p n:Int):Azq K mem p n=some (decide (0<=p/\0<=n/\p+n<=(mem.length:Int))):=by
 unfold Azq;by_cases h1:(0:Int)<=p
 ·rw[decide_eq_true (show p>=0 from h1)];by_cases h2:(0:Int)<=n
  ·rw[decide_eq_true (show n>=0 from h2)];by_cases h3:p<=(mem.length:Int)
   ·rw[decide_eq_true h3];simp only[cond_true,Z7,decide_eq_decide]
    grind [Ap,Asu,Ht]
   ·rw[decide_eq_false h3];simp only[cond_true,cond_false,Z7]
    grind
  grind
 grind
theorem Bhr (K:Nat){mem:List Int}(hl:mem.length<=140737488355327)(p n:Int):A4k K mem p n=some (Bpe mem p n):=by
 unfold A4k Bpe;rw[Bfz K hl];simp only[Z0];by_cases h:0<=p/\0<=n/\p+n<=(mem.length:Int)
 ·rw[decide_eq_true h,if_pos h]
  try simp only[cond_true]
  have e:A1 p n=p+n:=by grind [A1,Lc,Ht]
  have hc:=Bsz (mem:=mem) p.toNat (p+n - p).toNat;rw[e,if_pos ⟨by omega,by omega,by omega⟩,if_pos ⟨by grind,by grind [maxLen]⟩]
  grind
 grind
def Bpf (mem:List Int)(t:Bn)(at_ n:Int):List Int×Bool:=if 0<=at_/\0<=n/\at_+n<=t.Yg then Bpe mem (A1 t.fAt at_) n else([],false)
theorem Bpg{mem:List Int}{p n:Int}(h:p<0):Bpe mem p n=([],false):=by unfold Bpe;grind
theorem Bbe (K:Nat){mem:List Int}(hl:mem.length<=140737488355327){t:Bn}(wt:ThingW t)(at_ n:Int):A0b K mem t at_ n=some (Bpf mem t at_ n):=by
 obtain⟨wl1,wl2⟩:=wt.2.1;unfold A0b A2m Bpf;by_cases h1:(0:Int)<=at_
 ·rw[decide_eq_true (show at_>=0 from h1)];by_cases h2:(0:Int)<=n
  ·rw[decide_eq_true (show n>=0 from h2)];by_cases h3:at_<=t.Yg
   ·rw[decide_eq_true h3];have e:Ap t.Yg at_=t.Yg - at_:=by grind [Ap,Asu,Ht]
    rw[e];by_cases h4:n<=t.Yg - at_
    ·rw[decide_eq_true h4,if_pos ⟨h1,h2,by omega⟩];simp only[cond_true,Bhr K hl];cases decide (t.fAt<0)with
     |true=>rfl
     |false=>
      by_cases h5:(0:Int)<=A1 t.fAt at_
      ·grind
      ·rw[decide_eq_false (show ¬A1 t.fAt at_>=0 from h5),Bpg (by omega)];rfl
    grind
   grind
  grind
 grind
def Bf0 (w:Bo)(h:Ch):Int:=((Akt w.fL w.fL.length (Azx w.fL h)).length:Int)
theorem Bhs{l:List Az}(hl:l.length<=140737488355327)(h:Ch):wfi (Azx l h):=by
 by_cases h0:Azx l h<0
 ·unfold Azx at *;split at h0
  ·omega
  ·rename_i h1;rw[if_neg h1];exact⟨by omega,by omega⟩
 ·have:=A9n h0;exact⟨by omega,by omega⟩
section
variable {K:Nat} (hK:281474976710656<=K)
include hK
theorem A3i (w:Bo)(hw:Aeh w.fL)(h:Ch):Asf K w h=some (Bf0 w h):=by
 have hl:=Af6 hw;unfold Asf A0q;rw[A82 K hl,Z0,A6q hK hw _ (Bhs hl h)];rfl
end
section
variable {β:Type} [Inhabited β]
end
section
variable {K:Nat} (hK:281474976710656<=K)
include hK
end
section
variable {K:Nat} (hK:281474976710656<=K)
include hK
end
theorem Bje{β:Type}(f:β->Nat): ∀(l:List β) (i:Nat) (h:i<l.length) (x:β),((l.set i x).map f).sum+f l[i]=(l.map f).sum+f x
 |[],i,h,x=>by simp at h
 |y::l,0,h,x=>by grind
 |y::l,i+1,h,x=>by
  have:=Bje f l i (by grind) x
  grind
theorem A49{l:List Az}(hl:Aeh l)(i:Nat){x:Az}(hx:At7 x):Aeh (l.set i x):=
 ⟨fun y hy=>(Z54 hy).elim (hl.1 y) (fun e=>e ▸ hx),by rw[Z49];exact hl.2⟩
def A5g (p:Ef)(k:Int):Ef:=if(0<=k/\k<(p.G4.length:Int)/\k<(p.Fq.length:Int))/\gt p.G4 k=1 then Ef.mk p.Fp (p.G4.set k.toNat 2) (p.Fq.set k.toNat (-1))else p
theorem Bau{p:Ef}(hp:A0k p)(k:Int):A0k (A5g p k)/\Bbc (A5g p k)=Bbc p:=by
 unfold A5g;split
 ·refine⟨⟨hp.mem,⟨fun x hx=> ?_,by rw[Z49];exact hp.st.2⟩,⟨fun x hx=> ?_,by rw[Z49];exact hp.own.2⟩⟩,by simp[Bbc]⟩
  ·rcases Z54 hx with h|h
   ·exact hp.st.1 x h
   ·subst h;exact⟨by omega,by omega⟩
  ·rcases Z54 hx with h|h
   ·exact hp.own.1 x h
   ·subst h;exact⟨by omega,by omega⟩
 grind
theorem Bbf (K:Nat){p:Ef}(hp:A0k p)(k:Int):A4f K p k=some (A5g p k):=by
 have h1:=hp.st.2;unfold A4f Axf A5g;rw[A31 K hp,Z0,A6b K (by omega),Z0]
 grind
theorem Bht (K:Nat){p:Ef}(hp:A0k p)(k:Int):A4s K p k=some (A5g p k):=by
 have h1:=hp.st.2;have h2:=hp.own.2;unfold A4s Azt A5g;have e:Ap (Ada (p.G4.length:Int) (p.Fq.length:Int)) 1=Ada (p.G4.length:Int) (p.Fq.length:Int) - 1:=by
  grind [Ap,Asu,Ada,Ht]
 rw[A56 K hp,Z0,Awh,Z0,e];by_cases hs:0<=k/\k<(p.G4.length:Int)/\k<(p.Fq.length:Int)
 ·rw[Wy.2 (by grind [Ada]),cond_true,if_pos ⟨hs.1,hs.2.1⟩,if_pos ⟨hs.1,hs.2.1⟩,if_pos ⟨hs.1,hs.2.2⟩]
  grind
 ·rw[Bao.2 (by grind [Ada]),if_neg (show ¬((0<=k/\k<(p.G4.length:Int)/\k<(p.Fq.length:Int))/\gt p.G4 k=1) from fun x=>hs x.1)];rfl
def Ah0 (p:Ef)(l:List Int):Ef:=l.foldl A5g p
theorem Bk8{p:Ef}(hp:A0k p)(l:List Int):A0k (Ah0 p l)/\Bbc (Ah0 p l)=Bbc p:=by
 unfold Ah0;induction l generalizing p with
 |nil=>grind
 |cons x l ih=>
  obtain⟨h1,h2⟩:=Bau hp x;obtain⟨h3,h4⟩:=ih h1;exact⟨h3,h4.trans h2⟩
theorem Bd1{α σ β:Type}{K:Nat}(hK:281474976710656<=K)(l:List α)(hl:l.length<=140737488355327)(f:σ->α->σ)(s0:σ)(I:σ->Prop)(hI:I s0)(hf: ∀s x,I s->I (f s x))(fin:Option β)(L:Nat->σ->Int->Option β)
  (hs: ∀n s (i:Nat) (h:i<l.length),I s->L (n+1) s (i:Int)=L n (f s l[i]) ((i+1:Nat):Int))
  (he: ∀n,L (n+1) (l.foldl f s0) (l.length:Int)=fin):L K s0 0=fin:=by
 have key: ∀(n i:Nat) (s:σ),I s->i<=l.length->l.length - i<n->(l.drop i).foldl f s=l.foldl f s0->L n s (i:Int)=fin:=by
  intro n;induction n with
  |zero=>omega
  |succ n ih=>
   grind [List.drop_eq_getElem_cons]
 exact key K 0 s0 hI (Z21 _) (by omega) rfl
def Aio (n:Az)(slot:Int):Bb:=Bb.mk slot n.Bz n.Dh n.Ad 0
def Azz (n:Az):Az:=Az.mk n.G4 n.C7 (A1 n.Nb 1) n.fUp n.G5 0 n.G6 n.G7 [] 0 0 [] []
theorem A6t (K:Nat){n:Az}(hn:At7 n)(s:Int):Axg K n s=some (Aio n s):=by
 have hm:=V1;have h1:=hn.tags.2;have h2:=hn.chunks.2;unfold Axg;simp only[Z38];rw[if_pos ⟨by omega,by omega⟩,if_pos ⟨by omega,by omega⟩];rfl
theorem Bd2 (K:Nat){n:Az}(hn:At7 n)(s:Int):A2y K n s=some (Aio n s):=by
 unfold A2y;rw[Ay2 K hn.tags.2,Ay2 K hn.chunks.2];rfl
theorem Bd3 (K:Nat){n:Az}(hn:At7 n):A2h K n=some (Azz n):=by
 unfold A2h;rw[Awy K hn];rfl
theorem Ax5:wfi 0:=⟨by decide,by decide⟩
theorem A0j:A30 []:=⟨(fun x hx=>by cases hx),(by simp)⟩
theorem A5s:Bdq []:=⟨(fun x hx=>by cases hx),(by simp)⟩
theorem Bbg{n:Az}(hn:At7 n){s:Int}(hs:wfi s):A0m (Aio n s):=⟨hs,hn.first,hn.tags,hn.chunks,Ax5⟩
def A4c (w:Bo)(k:Int):Bo:=Bo.mk w.fC (Ah0 w.fP (gt w.fL k).Ad) (w.fL.set k.toNat (Azz (gt w.fL k))) (w.fQ++[Aio (gt w.fL k) 0]) w.Jp
section
variable {K:Nat} (hK:281474976710656<=K)
include hK
theorem A98 (w:Bo)(hw:Ar0 w)(l:List Int)(hl:l.length<=140737488355327):Avl K w l=some (Bo.mk w.fC (Ah0 w.fP l) w.fL w.fQ w.Jp):=by
 unfold Avl;refine Bd1 hK l (by omega) A5g w.fP A0k hw.p (fun s x h=>(Bau h x).1) _ (fun n s i=>Akv K l n i w.fC.Ad w.fC.Du w.fC.Cd w.fC.Ez w.fC.Ce w.fC.Dv s.Fp s.G4 s.Fq w.fL w.fQ w.Jp) (fun n s i h hs=> ?_) (fun n=> ?_)
 ·simp only[Akv];rw[Afb h,cond_true,if_pos (Ald h),Wx h,show Ef.mk s.Fp s.G4 s.Fq=s from rfl,Bbf K hs,Z0,Ad9 (by omega)]
 ·show Akv K l (n+1) _ _ _ _ _ _ _ _ _ _ _ _ _=_;rw[Akv,Ayt (Z9 _),cond_false];rfl
theorem Bf1 (w:Bo)(hw:A0k w.fP){k:Int}(hk:0<=k/\k<(w.fL.length:Int))(hl:(gt w.fL k).Ad.length<=140737488355327):Ayb K w k=some (Bo.mk w.fC (Ah0 w.fP (gt w.fL k).Ad) w.fL w.fQ w.Jp):=by
 unfold Ayb;simp only[if_pos hk];refine Bd1 hK (gt w.fL k).Ad (by omega) A5g w.fP A0k hw (fun s x h=>(Bau h x).1) _ (fun n s i=>Ank K n (gt w.fL k).Ad ((gt w.fL k).Ad.length:Int) i w.fC.Ad w.fC.Du w.fC.Cd w.fC.Ez w.fC.Ce w.fC.Dv s.Fp s.G4 s.Fq w.fL w.fQ w.Jp) (fun n s i h hs=> ?_) (fun n=> ?_)
 ·simp only[Ank];rw[Afb h,cond_true,if_pos (Ald h),Wx h,show Ef.mk s.Fp s.G4 s.Fq=s from rfl,Bht K hs,Z0,Ad9 (by omega)]
 ·show Ank K (n+1) _ _ _ _ _ _ _ _ _ _ _ _ _ _ _=_;rw[Ank,Ayt (Z9 _),cond_false];rfl
theorem Bd4 (w:Bo)(hw:Ar0 w)(hQ:w.fQ.length<=140737488355){k:Int}(hk:0<=k/\k<(w.fL.length:Int)):Ay6 K w k=some (A4c w k):=by
 have hm:=V1;have hn:=hw.l.1 _ (Akl hk.1 hk.2);unfold Ay6;simp only[if_pos hk,A6t K hn,Z0,A98 hK w hw _ (A3e hK hn.chunks),Bd3 K hn];rw[if_pos ⟨by grind,by grind⟩];rfl
end
def Bu3 (n:Az)(v:Int):Az:=Az.mk n.G4 n.C7 n.Nb n.fUp n.G5 n.Bz v n.G7 n.Ad n.No n.G8 n.D5 n.Dh
def Bjf (n:Az)(v:Int):Az:=Az.mk n.G4 n.C7 n.Nb n.fUp n.G5 n.Bz n.G6 v n.Ad n.No n.G8 n.D5 n.Dh
def Bph (n:Az)(v:Int):Az:=Az.mk n.G4 n.C7 n.Nb n.fUp n.G5 v n.G6 n.G7 n.Ad n.No n.G8 n.D5 n.Dh
def Bs0 (n:Az):Az:=Az.mk n.G4 n.C7 n.Nb 0 0 n.Bz 0 0 n.Ad n.No n.G8 n.D5 n.Dh
theorem A4v{l:List Az}{k:Int}(hk:0<=k/\k<(l.length:Int))(x:Az):gt (l.set k.toNat x) k=x:=by
 have hlt:k.toNat<(l.set k.toNat x).length:=by grind
 simp_all[gt]
theorem A5t{l:List Az}{j k:Int}(hj:0<=j)(hk:0<=k/\k<(l.length:Int))(h:j≠k)(x:Az):gt (l.set j.toNat x) k=gt l k:=by
 have h1:k.toNat<(l.set j.toNat x).length:=by grind
 have h2:k.toNat<l.length:=by omega
 have e1:gt (l.set j.toNat x) ((k.toNat:Nat):Int)=gt l ((k.toNat:Nat):Int):=by
  rw[Wx h1,Wx h2,List.getElem_set,if_neg (by omega)]
 grind
theorem A87 (K:Nat){l:List Az}{k:Int}(hk:0<=k/\k<(l.length:Int)):Ayj K k l=some (l.set k.toNat (Bs0 (gt l k))):=by
 unfold Ayj;rw[if_pos hk];simp only[Au7,Z49,A4v hk,B4d,if_pos hk];rfl
def A9q (l0 l:List Az)(k nx pv:Int):List Az:=bif plB l0 nx then l.set (Ap nx 1).toNat (Bjf (gt l (Ap nx 1)) pv)else l
def A8o (l0 l:List Az)(k nx pv:Int):List Az:=(A9q l0 l k nx pv).set k.toNat (Bs0 (gt (A9q l0 l k nx pv) k))
theorem A7m (l0 l:List Az)(k nx pv:Int):(A9q l0 l k nx pv).length=l.length:=by
 grind [A9q]
theorem A25 (K:Nat){l0 l:List Az}(hl:l0.length<=140737488355327)(he:l.length=l0.length){k:Int}(hk:0<=k/\k<(l0.length:Int))(a b c d e f nx pv:Int)(g:List Int)(h i:Int)(t:List Bn)(u:List Int)(hx:wfi nx):Awd K l0 k l a b c d e f nx pv g h i t u=some (A8o l0 l k nx pv):=by
 unfold Awd A8o A9q;rw[Azy K hl hx,Z0];cases hp:plB l0 nx with
 |false=>simp_all[A87]
 |true=>
  have:=A4b hp;rw[cond_true,cond_true,if_pos (by omega)];simp only[Au7];rw[A87 K (by grind)];rfl
def A88 (l:List Az)(k:Int):List Az:=
 bif plB l (gt l k).G7 then l.set (Ap (gt l k).G7 1).toNat (Bu3 (gt l (Ap (gt l k).G7 1)) (gt l k).G6)
 else bif (gt l k).G7==0&&(plB l (gt l k).fUp&&(gt l (Ap (gt l k).fUp 1)).Bz==A1 k 1)then l.set (Ap (gt l k).fUp 1).toNat (Bph (gt l (Ap (gt l k).fUp 1)) (gt l k).G6)
 else l
def Aup (l:List Az)(k:Int):List Az:=A8o l (A88 l k) k (gt l k).G6 (gt l k).G7
theorem A6h (l:List Az)(k:Int):(A88 l k).length=l.length:=by
 unfold A88;grind
section
variable {K:Nat} (hK:281474976710656<=K)
include hK
theorem Bf2{l:List Az}(w:Aeh l){k:Int}(hk:0<=k/\k<(l.length:Int)):A3n K l k=some (Aup l k):=by
 have hl:=Af6 w;have hn:=w.1 _ (Akl hk.1 hk.2);have e1:Ap (A1 k 1) 1=k:=by grind [Ap,Asu,A1,Lc,Ht]
 have hpk:plB l (A1 k 1)=true:=by grind [plB]
 have hwk:wfi (A1 k 1):=Bo6 _;unfold A3n Aup;rw[A6s hK w,Z0,Azy K hl hwk,Z0,hpk,Bool.not_true,cond_false,if_pos hk,Azy K hl hn.prev,Z0];unfold A88;cases hp:plB l (gt l k).G7 with
 |true=>
  have:=A4b hp;rw[cond_true,cond_true,if_pos this];simp only[Au7];rw[A25 K hl (by grind) hk _ _ _ _ _ _ _ _ _ _ _ _ _ hn.next];rfl
 |false=>
  rw[cond_false,cond_false];cases h0:(gt l k).G7==0 with
  |false=>
   simp_all[Au5,A25,At7.next]
  |true=>
   rw[cond_true,Azy K hl hn.up,Z0];cases hu:plB l (gt l k).fUp with
   |false=>
    simp_all[Au5,A25,At7.next]
   |true=>
    have hui:=A4b hu;rw[cond_true,if_pos hui];simp only[Z30,Au5];cases (gt l (Ap (gt l k).fUp 1)).Bz==A1 k 1 with
    |false=>
     simp_all[A25,At7.next]
    |true=>
     simp only[cond_true,if_pos hui,Au7];rw[A25 K hl (by grind) hk _ _ _ _ _ _ _ _ _ _ _ _ _ hn.next];rfl
end
def B1y (n:Az):Az:=Az.mk 2 n.C7 0 0 0 0 0 0 [] 0 0 [] []
theorem Bs1{n:Az}(hn:At7 n){v:Int}(hv:wfi v):At7 (Bu3 n v):=⟨hn.st,hn.gen,hn.ep,hn.up,hn.upEp,hn.first,hv,hn.prev,hn.chunks,hn.cur,hn.bump,hn.things,hn.tags⟩
theorem Bjg{n:Az}(hn:At7 n){v:Int}(hv:wfi v):At7 (Bjf n v):=⟨hn.st,hn.gen,hn.ep,hn.up,hn.upEp,hn.first,hn.next,hv,hn.chunks,hn.cur,hn.bump,hn.things,hn.tags⟩
theorem Bpi{n:Az}(hn:At7 n){v:Int}(hv:wfi v):At7 (Bph n v):=⟨hn.st,hn.gen,hn.ep,hn.up,hn.upEp,hv,hn.next,hn.prev,hn.chunks,hn.cur,hn.bump,hn.things,hn.tags⟩
theorem Byh{n:Az}(hn:At7 n):At7 (Bs0 n):=by
 have z:wfi 0:=⟨by decide,by decide⟩;exact⟨hn.st,hn.gen,hn.ep,z,z,hn.first,z,z,hn.chunks,hn.cur,hn.bump,hn.things,hn.tags⟩
theorem A72{l:List Az}{k:Int}(hk:0<=k/\k<(l.length:Int)){x:Az}(h:A48 x=A48 (gt l k)):((l.set k.toNat x).map A48).sum=(l.map A48).sum:=by
 have hlt:k.toNat<l.length:=by omega
 have:=Bje A48 l k.toNat hlt x;have e:l[k.toNat]=gt l k:=by rw[<-Wx hlt,show((k.toNat:Nat):Int)=k by omega]
 grind
theorem Byi{l:List Az}(w:Aeh l){k:Int}(hk:0<=k/\k<(l.length:Int)):Aeh (A88 l k)/\((A88 l k).map A48).sum=(l.map A48).sum:=by
 have hn:=w.1 _ (Akl hk.1 hk.2);unfold A88;cases hp:plB l (gt l k).G7 with
 |true=>
  have hi:=A4b hp;exact⟨A49 w _ (Bs1 (w.1 _ (Akl hi.1 hi.2)) hn.next),A72 hi rfl⟩
 |false=>
  rw[cond_false];cases hc:((gt l k).G7==0&&(plB l (gt l k).fUp&&(gt l (Ap (gt l k).fUp 1)).Bz==A1 k 1))with
  |false=>grind
  |true=>
   simp only[Z4]at hc;have hi:=A4b hc.2.1;exact⟨A49 w _ (Bpi (w.1 _ (Akl hi.1 hi.2)) hn.next),A72 hi rfl⟩
theorem Byj{l0 l:List Az}(w:Aeh l)(he:l.length=l0.length)(k nx:Int){pv:Int}(hv:wfi pv):Aeh (A9q l0 l k nx pv)/\((A9q l0 l k nx pv).map A48).sum=(l.map A48).sum:=by
 unfold A9q;cases hp:plB l0 nx with
 |true=>
  have hi:=A4b hp;rw[<-he]at hi;exact⟨A49 w _ (Bjg (w.1 _ (Akl hi.1 hi.2)) hv),A72 hi rfl⟩
 |false=>grind
theorem Bk9{l:List Az}(w:Aeh l){k:Int}(hk:0<=k/\k<(l.length:Int)):Aeh (Aup l k)/\((Aup l k).map A48).sum=(l.map A48).sum/\(Aup l k).length=l.length:=by
 have hn:=w.1 _ (Akl hk.1 hk.2);obtain⟨h1,h2⟩:=Byi w hk;have h3:=A6h l k;obtain⟨h4,h5⟩:=Byj h1 h3 k (gt l k).G6 hn.prev;have h6:=A7m l (A88 l k) k (gt l k).G6 (gt l k).G7;have hk':0<=k/\k<((A9q l (A88 l k) k (gt l k).G6 (gt l k).G7).length:Int):=by omega
 unfold Aup A8o;exact⟨A49 h4 _ (Byh (h4.1 _ (Akl hk'.1 hk'.2))),(A72 (x:=Bs0 (gt (A9q l (A88 l k) k (gt l k).G6 (gt l k).G7) k)) hk' rfl).trans (h5.trans h2),by grind⟩
def A26 (w:Bo)(k:Int):Bo:=Bo.mk w.fC (Ah0 w.fP (gt w.fL k).Ad) ((Aup w.fL k).set k.toNat (B1y (gt (Aup w.fL k) k))) (w.fQ++[Aio (gt w.fL k) (A1 k 1)]) w.Jp
section
variable {K:Nat} (hK:281474976710656<=K)
include hK
theorem Bhu (w:Bo)(hw:Ar0 w)(hQ:w.fQ.length<=140737488355){k:Int}(hk:0<=k/\k<(w.fL.length:Int)):A1f K w k=some (A26 w k):=by
 have hm:=V1;have hn:=hw.l.1 _ (Akl hk.1 hk.2);have hk':0<=k/\k<((Aup w.fL k).length:Int):=by simp_all[Bk9,Ar0.l]
 unfold A1f A12;simp only[if_pos hk,A6t K hn,Z0,A98 hK w hw _ (A3e hK hn.chunks),Bf2 hK hw.l hk,if_pos hk'];rw[if_pos ⟨by grind,by grind⟩];rfl
end
def B4e (c:Fi)(x:Bb)(v:Int)(i:Nat):Int:=A1 v (bif ((i:Int)==0)then Ax7 (Ap c.Du x.H2) c.Ce else Ax7 c.Du c.Ce)
def Byk (c:Fi)(x:Bb):Int:=
 (List.range x.Ad.length).foldl (B4e c x) (A1 (x.Dh.length:Int) 1)
section
variable {K:Nat} (hK:281474976710656<=K)
include hK
end
def Byl (w:Bo)(k:Int):Int:=Byk w.fC (Aio (gt w.fL k) 0)
section
variable {K:Nat} (hK:562949953421312<=K)
include hK
end
structure Lk where
 lv:Bool
 gn:Bool
 ep:Int
 up:Int
 ue:Int
 fi:Int
 nx:Int
 pv:Int
section
variable (N:Int) (t:Int->Lk)
def Lv (k:Int):Prop:=(0<=k/\k<N)/\(t k).lv=true
def Cu (k:Int):Prop:=Lv N t ((t k).up - 1)/\(t ((t k).up - 1)).ep=(t k).ue
def Oo (k:Int):Prop:=Lv N t k/\(t k).up≠0/\ ¬Cu N t k
structure A8d (k:Int):Prop where
 first:(t k).fi≠0->Lv N t ((t k).fi - 1)/\(t ((t k).fi - 1)).pv=0/\(t ((t k).fi - 1)).up=k+1/\(t ((t k).fi - 1)).ue=(t k).ep
 next:(t k).nx≠0->Lv N t ((t k).nx - 1)/\(t ((t k).nx - 1)).pv=k+1/\(t ((t k).nx - 1)).up=(t k).up/\(t ((t k).nx - 1)).ue=(t k).ue
 prev:(t k).pv≠0->Lv N t ((t k).pv - 1)/\(t ((t k).pv - 1)).nx=k+1
 up:(t k).up≠0->0<=(t k).up - 1/\(t k).up - 1<N
 top:(t k).pv=0->Cu N t k->(t ((t k).up - 1)).fi=k+1
def kids:Nat->Int->List Int
 |0,_=>[]
 |n+1,k=>if 0<=k/\k<N then k::kids n ((t k).nx - 1)else []
def rise:Nat->Int->List Int
 |0,_=>[]
 |n+1,k=>if 0<=k/\k<N then k::rise n ((t k).up - 1)else []
structure Ayw:Prop where
 link: ∀k,Lv N t k->A8d N t k
 rise: ∀k,Lv N t k->(rise N t N.toNat k).length<=4/\ ∀x,(rise N t N.toNat k).getLast? =some x-> ¬Cu N t x
 bare: ∀k,0<=k->k<N->(t k).lv=false->(t k).up=0/\(t k).fi=0/\(t k).nx=0/\(t k).pv=0
def Wf (r:Int->Nat):Prop:= ∀x,Lv N t x->(t x).pv≠0->r ((t x).pv - 1)<r x
end
section
variable {N:Int} {t:Int->Lk}
theorem Bla (n:Nat)(k:Int):kids N t (n+1) k=if 0<=k/\k<N then k::kids N t n ((t k).nx - 1)else []:=rfl
theorem Blb (n:Nat)(k:Int):rise N t (n+1) k=if 0<=k/\k<N then k::rise N t n ((t k).up - 1)else []:=rfl
theorem Oo.lv{k:Int}(h:Oo N t k):Lv N t k:=h.1
theorem Bd5: ∀(n:Nat) (k x:Int),x∈kids N t n k->0<=x/\x<N:=by
 intro n;induction n with
 |zero=>intro k x h;cases h
 |succ n ih=>
  intro k x h;unfold kids at h;split at h
  ·rename_i h1;rcases Ft.1 h with rfl|h
   ·exact h1
   ·exact ih _ x h
  ·cases h
theorem A14 (n:Nat):kids N t n (0 - 1)=[]:=by
 cases n with
 |zero=>rfl
 |succ n=>rfl
theorem Blc: ∀(n:Nat) (k:Int),kids N t n k=(kids N t (n+1) k).take n:=by
 intro n;induction n with
 |zero=>grind [kids]
 |succ n ih=>
  grind [Bla]
theorem Bpj (T:Ayw N t){u e:Int}: ∀(n:Nat) (k:Int),Lv N t k->(t k).up=u->(t k).ue=e-> ∀x∈kids N t n k,Lv N t x/\(t x).up=u/\(t x).ue=e:=by
 intro n;induction n with
 |zero=>intro k _ _ _ x h;cases h
 |succ n ih=>
  intro k h1 h2 h3 x h;unfold kids at h;split at h
  ·rcases Ft.1 h with rfl|h
   ·grind
   ·by_cases h4:(t k).nx=0
    ·grind [A14]
    ·obtain⟨a,_,b,c⟩:=(T.link k h1).next h4
     grind
  ·cases h
theorem Bc0 (T:Ayw N t){r:Int->Nat}(W:Wf N t r): ∀(n:Nat) (k:Int),Lv N t k->(∀x∈kids N t n k,r k<=r x)/\(kids N t n k).Pairwise (fun a b=>r a<r b):=by
 intro n;induction n with
 |zero=>intro k _;exact⟨fun x h=>(by cases h),.nil⟩
 |succ n ih=>
  intro k h1;unfold kids;split
  ·by_cases h4:(t k).nx=0
   ·rw[h4,A14]
    grind
   ·obtain⟨a,b,_⟩:=(T.link k h1).next h4;obtain⟨i1,i2⟩:=ih _ a;have hr:=W _ a (by omega);rw[b,Int.add_sub_cancel]at hr;refine⟨fun x h=> ?_,List.pairwise_cons.2 ⟨fun x h=> ?_,i2⟩⟩
    all_goals grind
  simp_all
theorem A8p (T:Ayw N t){r:Int->Nat}(W:Wf N t r)(n:Nat){k:Int}(h:Lv N t k):(kids N t n k).Nodup:=
 (Bc0 T W n k h).2.imp fun h e=>by grind
theorem Bd6{l:List Int}(hn:l.Nodup)(h: ∀x∈l,0<=x/\x<N):l.length<=N.toNat:=by
 have:=A3g (l:=(List.range N.toNat).map (fun i:Nat=>(i:Int))) hn (fun x hx=>by
  have:=h x hx;rw[Gh];exact⟨x.toNat,by grind,by omega⟩)
 grind
theorem Bld: ∀(n:Nat) (k y x:Int),y∈kids N t n k->(t y).nx=x+1->0<=x/\x<N->x∈kids N t n k\/(kids N t n k).length=n:=by
 intro n;induction n with
 |zero=>intro k y x h;cases h
 |succ n ih=>
  intro k y x h h1 h2;unfold kids at h ⊢;split at h
  ·rename_i h3;rw[if_pos h3];rcases Ft.1 h with rfl|h
   ·rw[h1,Int.add_sub_cancel];cases n with
    |zero=>grind [kids]
    |succ n=>simp_all[kids.eq_2]
   grind
  ·cases h
theorem Bpk (T:Ayw N t){r:Int->Nat}(W:Wf N t r){k:Int}(hk:Lv N t k)(x:Int):
  x∈kids N t N.toNat ((t k).fi - 1) ↔ Lv N t x/\(t x).up=k+1/\(t x).ue=(t k).ep:=by
 constructor
 ·intro h;by_cases h0:(t k).fi=0
  ·grind [A14]
  ·obtain⟨a,_,b,c⟩:=(T.link k hk).first h0;exact Bpj T _ _ a b c x h
 ·generalize hn:r x=n;induction n using Nat.strongRecOn generalizing x with
  |_ n ih=>
   intro⟨h1,h2,h3⟩;have hc:Cu N t x:=by simp_all[Cu]
   by_cases hp:(t x).pv=0
   ·have:=(T.link x h1).top hp hc;rw[h2,Int.add_sub_cancel]at this;obtain⟨m,hm⟩: ∃m,N.toNat=m+1:=⟨N.toNat - 1,by have:=h1.1;omega⟩;rw[this,Int.add_sub_cancel,hm,kids,if_pos h1.1];simp
   ·obtain⟨a,b⟩:=(T.link x h1).prev hp;have hr:=W x h1 hp;obtain⟨_,_,c,d⟩:=(T.link _ a).next (by rw[b];have:=h1.1;omega);rw[b,Int.add_sub_cancel]at c d;have hy:=ih _ (by omega) _ rfl ⟨a,c ▸ h2,d ▸ h3⟩;rcases Bld _ _ _ x hy b h1.1 with h|h
    ·exact h
    ·refine Classical.byContradiction fun hx=> ?_
     have h0:(t k).fi≠0:=fun e=>by grind [A14]
     have hd:=A8p T W N.toNat ((T.link k hk).first h0).1;have:=Bd6 (N:=N) (l:=x::kids N t N.toNat ((t k).fi - 1)) (List.nodup_cons.2 ⟨hx,hd⟩) (fun y hy=>by
      rcases Ft.1 hy with rfl|hy
      ·exact h1.1
      ·exact Bd5 _ _ y hy)
     grind
theorem A7n (T:Ayw N t){r:Int->Nat}(W:Wf N t r)(n:Nat){k:Int}(hk:Lv N t k):(kids N t n ((t k).fi - 1)).Nodup:=by
 by_cases h0:(t k).fi=0
 ·grind [A14]
 ·exact A8p T W n ((T.link k hk).first h0).1
theorem A6u{t':Int->Lk}: ∀(n:Nat) (k:Int),(∀x∈kids N t n k,(t' x).nx=(t x).nx)->kids N t' n k=kids N t n k:=by
 intro n;induction n with
 |zero=>intro k _;rfl
 |succ n ih=>
  simp_all[kids.eq_2]
theorem A5u{t':Int->Lk}: ∀(n:Nat) (k:Int),(∀x∈rise N t n k,(t' x).up=(t x).up)->rise N t' n k=rise N t n k:=by
 intro n;induction n with
 |zero=>intro k _;rfl
 |succ n ih=>
  simp_all[rise]
theorem Ble: ∀(n:Nat) (k:Int),rise N t n k=(rise N t (n+1) k).take n:=by
 intro n;induction n with
 |zero=>grind [rise]
 |succ n ih=>
  grind [Blb]
theorem A32: ∀(n:Nat) (k x:Int),x∈rise N t n k->0<=x/\x<N:=by
 intro n;induction n with
 |zero=>intro k x h;cases h
 |succ n ih=>
  intro k x h;unfold rise at h;split at h
  ·rename_i h1;rcases Ft.1 h with rfl|h
   ·exact h1
   ·exact ih _ x h
  ·cases h
theorem Bpl{t':Int->Lk}{g:Int}(h: ∀x,x≠g->(t' x).up=(t x).up)(hg:(t' g).up=0): ∀(n:Nat) (k:Int),
  (rise N t' n k=[] ↔ rise N t n k=[])/\(rise N t' n k).length<=(rise N t n k).length/\((rise N t' n k).getLast? =some g\/(rise N t' n k).getLast? =(rise N t n k).getLast?):=by
 intro n;induction n with
 |zero=>intro k;exact⟨Iff.rfl,Z9 _,.inr rfl⟩
 |succ n ih=>
  intro k;rw[rise,rise];by_cases h1:0<=k/\k<N
  ·rw[if_pos h1,if_pos h1];by_cases e:k=g
   ·subst e;have:rise N t' n (0 - 1)=[]:=by cases n with|zero=>rfl|succ n=>rfl
    grind
   ·rw[h k e];obtain⟨i1,i2,i3⟩:=ih ((t k).up - 1);refine⟨by simp,by grind,?_⟩;cases ha:rise N t' n ((t k).up - 1)with
    |nil=>grind
    |cons a l=>
     cases hb:rise N t n ((t k).up - 1)with
     |nil=>grind
     |cons b m=>
      simp_all
  simp_all[if_neg]
theorem A73 (T:Ayw N t){k:Int}(hk:Lv N t k)(hc:Cu N t k):(t k).up≠k+1:=by
 intro e;obtain⟨_,h⟩:=T.rise k hk;have: ∀n,rise N t (n+1) k=List.replicate (n+1) k:=by
  intro n;induction n with
  |zero=>rw[rise,if_pos hk.1];rfl
  |succ n ih=>rw[rise,if_pos hk.1,e,Int.add_sub_cancel,ih];rfl
 obtain⟨m,hm⟩: ∃m,N.toNat=m+1:=⟨N.toNat - 1,by have:=hk.1;omega⟩;refine h k ?_ hc;rw[hm,this,List.getLast?_replicate,if_neg (by omega)]
def rem (t:Int->Lk)(g:Int)(x:Int):Lk:=
 if x=g then⟨false,true,0,0,0,0,0,0⟩else
  ⟨(t x).lv,(t x).gn,(t x).ep,(t x).up,(t x).ue,if(t g).pv=0/\x+1=(t g).up/\(t x).fi=g+1 then(t g).nx else(t x).fi,if x+1=(t g).pv then(t g).nx else(t x).nx,if x+1=(t g).nx then(t g).pv else(t x).pv⟩
theorem A89{g:Int}:rem t g g=⟨false,true,0,0,0,0,0,0⟩:=if_pos rfl
theorem Ao0{g x:Int}(h:x≠g):rem t g x=⟨(t x).lv,(t x).gn,(t x).ep,(t x).up,(t x).ue,if(t g).pv=0/\x+1=(t g).up/\(t x).fi=g+1 then(t g).nx else(t x).fi,if x+1=(t g).pv then(t g).nx else(t x).nx,if x+1=(t g).nx then(t g).pv else(t x).pv⟩:=if_neg h
theorem Atz{g x:Int}:Lv N (rem t g) x ↔ x≠g/\Lv N t x:=by
 unfold Lv;by_cases h:x=g
 all_goals grind [A89,Ao0]
theorem A5a{g x:Int}(hx:x≠g):Cu N (rem t g) x ↔ (t x).up≠g+1/\Cu N t x:=by
 unfold Cu;rw[Atz,Ao0 hx];by_cases h:(t x).up - 1=g
 ·grind
 ·rw[Ao0 h]
  grind
theorem Bpm{g x:Int}(hg:0<=g):Oo N (rem t g) x ↔ x≠g/\(Oo N t x\/Lv N t x/\(t x).up=g+1):=by
 unfold Oo;rw[Atz];by_cases h:x=g
 ·simp[h]
 ·rw[A5a h,Ao0 h]
  grind
theorem Bpn (T:Ayw N t){g x:Int}(hg:Lv N t g)(hx:Lv N (rem t g) x):A8d N (rem t g) x:=by
 obtain⟨hne,hl⟩:=Atz.1 hx;have G:=T.link g hg;have X:=T.link x hl;have g0:=hg.1;have x0:=hl.1;refine⟨?_,?_,?_,?_,?_⟩
 ·rw[Ao0 hne];intro h;simp only at h ⊢;by_cases hA:(t g).pv=0/\x+1=(t g).up/\(t x).fi=g+1
  ·rw[if_pos hA]at h ⊢;obtain⟨a,b,c,d⟩:=G.next h;have hm:(t g).nx - 1≠g:=fun e=>by grind
   obtain⟨_,_,_,f4⟩:=X.first (by omega);simp_all[Ao0,Atz]
  ·rw[if_neg hA]at h ⊢;obtain⟨a,b,c,d⟩:=X.first h;have hm:(t x).fi - 1≠g:=fun e=>by grind
   rw[Ao0 hm];refine⟨Atz.2 ⟨hm,a⟩,?_,c,d⟩;simp only;rw[if_neg]
   ·exact b
   ·intro e;have:=(G.next (by omega)).2.1
    grind
 ·rw[Ao0 hne];intro h;simp only at h ⊢;by_cases hA:x+1=(t g).pv
  ·rw[if_pos hA]at h ⊢;obtain⟨a,b,c,d⟩:=G.next h;have hm:(t g).nx - 1≠g:=fun e=>by grind
   obtain⟨_,p2⟩:=G.prev (by omega);rw[<-hA,Int.add_sub_cancel]at p2;obtain⟨_,_,q3,q4⟩:=X.next (by omega);simp_all[Ao0,Atz]
  ·rw[if_neg hA]at h ⊢;obtain⟨a,b,c,d⟩:=X.next h;have hm:(t x).nx - 1≠g:=fun e=>by grind
   rw[Ao0 hm];refine⟨Atz.2 ⟨hm,a⟩,?_,c,d⟩;simp only;rw[if_neg]
   ·exact b
   ·intro e;have:=(G.next (by omega)).2.1
    grind
 ·rw[Ao0 hne];intro h;simp only at h ⊢;by_cases hA:x+1=(t g).nx
  ·rw[if_pos hA]at h ⊢;obtain⟨a,b⟩:=G.prev h;have hm:(t g).pv - 1≠g:=fun e=>by grind
   simp_all[Ao0,Atz]
  ·rw[if_neg hA]at h ⊢;obtain⟨a,b⟩:=X.prev h;have hm:(t x).pv - 1≠g:=fun e=>by grind
   rw[Ao0 hm];refine⟨Atz.2 ⟨hm,a⟩,?_⟩;simp only;rw[if_neg]
   ·exact b
   ·intro e;have:=(G.prev (by omega)).2
    grind
 ·rw[Ao0 hne];exact X.up
 ·intro h hc;obtain⟨c1,c2⟩:=(A5a hne).1 hc;rw[Ao0 hne]at h ⊢;simp only at h ⊢;have hm:(t x).up - 1≠g:=by omega
  rw[Ao0 hm];simp only;by_cases hA:x+1=(t g).nx
  ·rw[if_pos hA]at h;obtain⟨_,_,q3,q4⟩:=G.next (by omega);rw[<-hA,Int.add_sub_cancel]at q3 q4;have hcg:Cu N t g:=by grind [Cu]
   have:=G.top h hcg
   grind
  ·rw[if_neg hA]at h;have:=X.top h c2;omega
theorem Bbh (T:Ayw N t){g:Int}(hg:Lv N t g):Ayw N (rem t g):=by
 refine⟨fun k hk=>Bpn T hg hk,fun k hk=> ?_,fun k h0 h1 h=> ?_⟩
 ·obtain⟨hne,hl⟩:=Atz.1 hk;obtain⟨r1,r2⟩:=T.rise k hl;obtain⟨_,c1,c2⟩:=Bpl (t:=t) (t':=rem t g) (N:=N) (g:=g) (fun x hx=>by rw[Ao0 hx]) (by rw[A89]) N.toNat k;refine⟨by omega,fun x hx hc=> ?_⟩;by_cases e:x=g
  ·subst e;unfold Cu at hc;rw[A89]at hc;have:=hc.1.1.1
   grind
  ·rcases c2 with c2|c2
   ·grind
   simp_all[A5a]
 ·by_cases e:k=g
  ·simp_all[A89]
  ·rw[Ao0 e]at h ⊢;simp only at h ⊢;obtain⟨a,b,c,d⟩:=T.bare k h0 h1 h;have G:=T.link g hg;refine⟨a,?_,?_,?_⟩
   ·rw[if_neg (fun q=>by have:=hg.1;omega)];exact b
   ·rw[if_neg]
    ·exact c
    ·intro q;have:=(G.prev (by omega)).1.2
     grind
   ·rw[if_neg]
    ·exact d
    ·intro q;have:=(G.next (by omega)).1.2
     grind
theorem Bym (T:Ayw N t){r:Int->Nat}(W:Wf N t r){g:Int}(hg:Lv N t g):Wf N (rem t g) r:=by
 intro x hx h;obtain⟨hne,hl⟩:=Atz.1 hx;rw[Ao0 hne]at h ⊢;simp only at h ⊢;by_cases hA:x+1=(t g).nx
 ·rw[if_pos hA]at h ⊢;have h1:=W g hg h;have h2:=((T.link g hg).next (by have:=hl.1;omega)).2.1;rw[<-hA,Int.add_sub_cancel]at h2;have h3:=W x hl (by have:=hg.1;omega)
  grind
 ·rw[if_neg hA]at h ⊢;exact W x hl h
end
section
variable (N:Int) (t:Int->Lk)
def kf (f:Int):List Int:=kids N t N.toNat (f - 1)
structure Bd7 (fs:List Int):Prop where
 nodup:(fs.flatMap (kf N t)).Nodup
 iff: ∀x,x∈fs.flatMap (kf N t) ↔ Oo N t x
 top: ∀f∈fs,f≠0->(0<=f - 1/\f - 1<N)/\(t (f - 1)).pv=0
inductive Dd (S:List Int):Int->Prop
 |base {y:Int}:y∈S->Dd S y
 |step {y:Int}:Lv N t y->Cu N t y->Dd S ((t y).up - 1)->Dd S y
inductive Al:Int->Prop
 |root {y:Int}:Lv N t y->(t y).up=0->Al y
 |step {y:Int}:Lv N t y->Cu N t y->Al ((t y).up - 1)->Al y
def Odr:List Int->List (Int×Int)->Prop
 |_,[]=>True
 |seen,e::q=>(∀y,Dd N t (kf N t e.2) y-> ∀x,Lv N t x->(t x).up=y+1-> ¬Cu N t x->x∈seen)/\(e.1≠0-> ∀x,Lv N t x->(t x).up=e.1->x∈seen++kf N t e.2)/\Odr (seen++kf N t e.2) q
structure Air (qs:List (Int×Int)):Prop where
 tree:Ayw N t
 wf: ∃r,Wf N t r
 uw: ∃d:Int->Nat,∀x,Lv N t x->Cu N t x->d ((t x).up - 1)<d x
 kid:Bd7 N t (qs.map (·.2))
 ord:Odr N t [] qs
 gone: ∀x,Lv N t x->(t x).up≠0->(t ((t x).up - 1)).lv=true\/(t ((t x).up - 1)).gn=true
 ep: ∀x,Lv N t x->Lv N t ((t x).up - 1)->(t x).ue<=(t ((t x).up - 1)).ep
 slot: ∀e∈qs,e.1≠0->(t (e.1 - 1)).lv=false/\(t (e.1 - 1)).gn=true
end
section
variable {N:Int} {t:Int->Lk}
theorem Al.lv{y:Int}(h:Al N t y):Lv N t y:=by cases h<;>assumption
theorem Al.noOr{y:Int}(h:Al N t y): ¬Oo N t y:=by
 intro g;cases h with
 |root a b=>exact g.2.1 b
 |step a b c=>exact g.2.2 b
theorem Al.noDd{S:List Int}(hS: ∀x∈S,Oo N t x){y:Int}(h:Al N t y): ¬Dd N t S y:=by
 induction h with
 |root a b=>
  intro g;cases g with
  |base g=>exact(hS _ g).2.1 b
  |step g1 g2 g3=>have:=g2.1.1.1;omega
 |step a b c ih=>
  intro g;cases g with
  |base g=>exact(hS _ g).2.2 b
  |step g1 g2 g3=>grind
theorem Dd.in{S:List Int}(hS: ∀x∈S,0<=x/\x<N){y:Int}(h:Dd N t S y):0<=y/\y<N:=by
 cases h with
 |base h=>grind
 |step h _ _=>exact h.1
theorem Bjh{f x:Int}(h:x∈kf N t f):0<=x/\x<N:=Bd5 _ _ _ h
theorem Bd7.or{fs:List Int}(h:Bd7 N t fs){f:Int}(hf:f∈fs){x:Int}(hx:x∈kf N t f):Oo N t x:=
 (h.iff x).1 (List.mem_flatMap.2 ⟨f,hf,hx⟩)
theorem sib (T:Ayw N t){g x:Int}(hg:Lv N t g)(h:x+1=(t g).pv)(hx:0<=x):Lv N t x/\(t g).up=(t x).up/\(t g).ue=(t x).ue:=by
 obtain⟨a,b⟩:=(T.link g hg).prev (by omega);rw[<-h,Int.add_sub_cancel]at a b;obtain⟨_,_,c,d⟩:=(T.link x a).next (by rw[b];have:=hg.1;omega);rw[b,Int.add_sub_cancel]at c d;exact⟨a,c,d⟩
theorem Bpo{g x:Int}(h1:(t g).up=(t x).up)(h2:(t g).ue=(t x).ue):Cu N t g ↔ Cu N t x:=by unfold Cu;rw[h1,h2]
theorem A6i (T:Ayw N t){r:Int->Nat}(W:Wf N t r){g:Int}(hg:Lv N t g)(x:Int):x∈kf N t (t g).fi ↔ Lv N t x/\(t x).up=g+1/\Cu N t x:=by
 unfold kf;rw[Bpk T W hg];constructor
 ·simp_all[Cu]
 ·rintro⟨a,b,c⟩;refine⟨a,b,?_⟩
  have:=c.2
  grind
theorem Bhv{g f:Int}(h: ∀x∈kf N t f,x≠g/\x+1≠(t g).pv):kf N (rem t g) f=kf N t f:=
 A6u _ _ fun x hx=>by
  obtain⟨a,b⟩:=h x hx;simp_all[Ao0]
theorem A5v (T:Ayw N t){r:Int->Nat}(W:Wf N t r){g:Int}(hg:Lv N t g):kf N (rem t g) (t g).fi=kf N t (t g).fi:=by
 refine Bhv fun x hx=> ?_;obtain⟨a,b,c⟩:=(A6i T W hg x).1 hx;constructor
 ·grind [A73]
 ·intro e;obtain⟨_,h1,h2⟩:=sib T hg e a.1.1;exact A73 T hg ((Bpo h1 h2).2 c) (h1.trans b)
theorem Bd8 (T:Ayw N t){g f:Int}(hg:Lv N t g)(h:(0<=f - 1/\f - 1<N)/\(t (f - 1)).pv=0):(0<=f - 1/\f - 1<N)/\(rem t g (f - 1)).pv=0:=by
 refine⟨h.1,?_⟩;by_cases e:f - 1=g
 ·rw[e,A89]
 ·rw[Ao0 e];simp only;rw[if_neg]
  ·exact h.2
  ·intro q;have:=((T.link g hg).next (by omega)).2.1;rw[<-q,Int.add_sub_cancel,h.2]at this;have:=hg.1;omega
theorem Bc1 (T:Ayw N t){g:Int}(hg:Lv N t g)(h:(t g).fi≠0):(0<=(t g).fi - 1/\(t g).fi - 1<N)/\(rem t g ((t g).fi - 1)).pv=0:=by
 obtain⟨a,b,_⟩:=(T.link g hg).first h;exact Bd8 T hg ⟨a.1,b⟩
theorem Apl{α:Type}{a b:List α}:(a++b).Nodup ↔ a.Nodup/\b.Nodup/\ ∀x∈a,x ∉ b:=by
 grind
theorem Az0{α β:Type}{l:List α}{f g:α->List β}(h: ∀x∈l,f x=g x):l.flatMap f=l.flatMap g:=by
 induction l with
 |nil=>rfl
 |cons x l ih=>rw[List.flatMap_cons,List.flatMap_cons,h x (by simp),ih fun y hy=>h y (by simp[hy])]
theorem A9r (T:Ayw N t){g:Int}(hg:Lv N t g)(ho: ¬Oo N t g){fs:List Int}(K:Bd7 N t fs){f:Int}(hf:f∈fs):kf N (rem t g) f=kf N t f:=by
 refine Bhv fun x hx=> ?_
 have hx:=K.or hf hx;constructor
 ·grind
 ·intro e;obtain⟨_,h1,h2⟩:=sib T hg e hx.1.1.1;exact ho ⟨hg,h1 ▸ hx.2.1,fun c=>hx.2.2 ((Bpo h1 h2).1 c)⟩
theorem Blf (T:Ayw N t){r:Int->Nat}(W:Wf N t r){g:Int}(hg:Lv N t g)(ho: ¬Oo N t g){fs:List Int}(K:Bd7 N t fs):Bd7 N (rem t g) (fs++[(t g).fi]):=by
 have e:(fs++[(t g).fi]).flatMap (kf N (rem t g))=fs.flatMap (kf N t)++kf N t (t g).fi:=by
  grind [A5v,Az0,A9r]
 refine⟨?_,fun x=> ?_,fun f hf h0=> ?_⟩
 ·rw[e,Apl];exact⟨K.nodup,A7n T W _ hg,fun x h1 h2=>((K.iff x).1 h1).2.2 ((A6i T W hg x).1 h2).2.2⟩
 ·rw[e,N0,K.iff,A6i T W hg,Bpm hg.1.1];constructor
  ·grind [A73]
  ·rintro⟨a,h|⟨b,c⟩⟩
   ·grind
   ·by_cases d:Cu N t x
    ·grind
    ·exact .inl ⟨b,by have:=hg.1.1;omega,d⟩
 ·rw[N0,S9]at hf;rcases hf with hf|rfl
  ·exact Bd8 T hg (K.top f hf h0)
  ·exact Bc1 T hg h0
theorem A9a{f:Int}(h:0<=f - 1/\f - 1<N):f - 1∈kf N t f:=by
 unfold kf;obtain⟨m,hm⟩: ∃m,N.toNat=m+1:=⟨N.toNat - 1,by omega⟩;rw[hm,kids,if_pos h];simp
theorem A8q (T:Ayw N t){r:Int->Nat}(W:Wf N t r){g:Int}(hg:Lv N t g):kf N t (g+1)=g::kf N t (t g).nx:=by
 unfold kf;obtain⟨m,hm⟩: ∃m,N.toNat=m+1:=⟨N.toNat - 1,by have:=hg.1;omega⟩;rw[Int.add_sub_cancel,hm,kids,if_pos hg.1];congr 1;rw[Blc,List.take_of_length_le];by_cases h0:(t g).nx=0
 ·rw[h0,A14];grind
 ·obtain⟨a,b,_⟩:=(T.link g hg).next h0;have hr:=W _ a (by rw[b];have:=hg.1;omega);rw[b,Int.add_sub_cancel]at hr;have hn:g ∉ kids N t (m+1) ((t g).nx - 1):=fun h=>by
   have:=(Bc0 T W (m+1) _ a).1 g h;omega
  have:=Bd6 (N:=N) (List.nodup_cons.2 ⟨hn,A8p T W (m+1) a⟩) (fun y hy=>by
   rcases Ft.1 hy with rfl|hy
   ·exact hg.1
   ·exact Bd5 _ _ y hy)
  grind
theorem Bpp (T:Ayw N t){r:Int->Nat}(W:Wf N t r){g:Int}(hg:Lv N t g){fs:List Int}(K:Bd7 N t ((g+1)::fs)):
  (∀f∈(t g).nx::fs,kf N (rem t g) f=kf N t f)/\Bd7 N (rem t g) ((t g).fi::(t g).nx::fs):=by
 have h0:(t g).pv=0:=by have:=(K.top (g+1) (by simp) (by have:=hg.1;omega)).2;grind
 have ho:Oo N t g:=K.or (f:=g+1) (by simp) (by have:=A9a (N:=N) (t:=t) (f:=g+1) (by rw[Int.add_sub_cancel];exact hg.1);grind);have hnd:=K.nodup;rw[List.flatMap_cons,A8q T W hg]at hnd;rw[Z45,List.nodup_cons]at hnd;have hold: ∀f∈(t g).nx::fs,kf N (rem t g) f=kf N t f:=fun f hf=>Bhv fun x hx=>by
  refine⟨?_,fun e=>by have:=Bjh hx;omega⟩
  grind
 have e:((t g).fi::(t g).nx::fs).flatMap (kf N (rem t g))=kf N t (t g).fi++((t g).nx::fs).flatMap (kf N t):=by
  grind [A5v,Az0]
 have hsub: ∀x,x∈((t g).nx::fs).flatMap (kf N t) ↔ Oo N t x/\x≠g:=by
  intro x;have:=K.iff x;rw[List.flatMap_cons,A8q T W hg,Z45,Ft]at this
  grind
 refine⟨hold,?_,fun x=> ?_,fun f hf h1=> ?_⟩
 ·rw[e,Apl];refine⟨A7n T W _ hg,by grind,fun x h1 h2=>((hsub x).1 h2).1.2.2 ((A6i T W hg x).1 h1).2.2⟩
 ·rw[e,N0,hsub,A6i T W hg,Bpm hg.1.1];constructor
  ·grind [A73]
  ·rintro⟨a,h|⟨b,c⟩⟩
   ·grind
   ·by_cases d:Cu N t x
    ·grind
    ·exact .inr ⟨⟨b,by have:=hg.1.1;omega,d⟩,a⟩
 ·rcases Ft.1 hf with rfl|hf
  ·exact Bc1 T hg h1
  ·rcases Ft.1 hf with rfl|hf
   ·obtain⟨a,b,_⟩:=(T.link g hg).next h1;have hm:(t g).nx - 1≠g:=fun q=>by grind
    refine⟨a.1,?_⟩;simp_all[Ao0]
   ·exact Bd8 T hg (K.top f (by simp[hf]) h1)
theorem Bbi{t':Int->Lk}: ∀(q:List (Int×Int)) (seen seen':List Int),(∀e∈q,kf N t' e.2=kf N t e.2)->
  (∀e∈q,∀y,Dd N t' (kf N t' e.2) y->Dd N t (kf N t e.2) y/\ ∀x,Lv N t' x->(t' x).up=y+1-> ¬Cu N t' x->x∈seen'\/Lv N t x/\(t x).up=y+1/\ ¬Cu N t x)->
  (∀e∈q,e.1≠0-> ∀x,Lv N t' x->(t' x).up=e.1->x∈seen'\/Lv N t x/\(t x).up=e.1)->
  (∀x∈seen,Lv N t' x->x∈seen')->Odr N t seen q->Odr N t' seen' q:=by
 intro q;induction q with
 |nil=>intros;trivial
 |cons e q ih=>
  intro seen seen' hk hd hsl hs h;obtain⟨h1,h2,h3⟩:=h;have hke:=hk e (by simp);refine⟨fun y hy x hx hu hc=> ?_,fun h0 x hx hu=> ?_,?_⟩
  ·grind
  ·grind
  ·rw[hke];refine ih (seen++kf N t e.2) _ (fun f hf=>hk f (by simp[hf])) (fun f hf y hy=> ?_) (fun f hf h0 x hx hu=> ?_) (fun x hx hl=> ?_) h3
   all_goals grind
theorem Bji: ∀(q:List (Int×Int)) (seen:List Int) (e:Int×Int),Odr N t seen q->
  (∀y,Dd N t (kf N t e.2) y-> ∀x,Lv N t x->(t x).up=y+1-> ¬Cu N t x->x∈seen++q.flatMap (fun e=>kf N t e.2))->
  (e.1≠0-> ∀x,Lv N t x->(t x).up=e.1->x∈(seen++q.flatMap (fun e=>kf N t e.2))++kf N t e.2)->Odr N t seen (q++[e]):=by
 intro q;induction q with
 |nil=>intro seen e h h1 h2;rw[List.flatMap_nil,List.append_nil]at h1 h2;exact⟨h1,h2,trivial⟩
 |cons f q ih=>
  intro seen e h h1 h2;obtain⟨a,b,c⟩:=h;rw[List.flatMap_cons,<-Z31]at h1 h2;exact⟨a,b,ih _ e c h1 h2⟩
theorem Bd9{g:Int}{S:List Int}{y:Int}(h:Dd N (rem t g) S y):Dd N t S y:=by
 induction h with
 |base h=>exact .base h
 |step a b c ih=>
  obtain⟨h1,h2⟩:=Atz.1 a;rw[Ao0 h1]at ih;exact .step h2 ((A5a h1).1 b).2 ih
theorem A7o{g:Int}{S:List Int}(hS:g ∉ S){y:Int}(h:Dd N (rem t g) S y):y≠g:=by
 cases h with
 |base h=>grind
 |step a _ _=>exact(Atz.1 a).1
theorem Bbj{qs qs':List (Int×Int)}(F:Air N t qs){g:Int}(hg:Lv N t g)(hK:Bd7 N (rem t g) (qs'.map (·.2)))(hO:Odr N (rem t g) [] qs')(hs: ∀e∈qs',e.1≠0->e.1=g+1\/e.1∈qs.map (·.1)):Air N (rem t g) qs':=by
 obtain⟨r,W⟩:=F.wf;obtain⟨d,U⟩:=F.uw;refine⟨Bbh F.tree hg,⟨r,Bym F.tree W hg⟩,⟨d,fun x hx hc=> ?_⟩,hK,hO,fun x hx h=> ?_,fun x hx h=> ?_,fun e he h0=> ?_⟩
 ·obtain⟨h1,h2⟩:=Atz.1 hx;rw[Ao0 h1];exact U x h2 ((A5a h1).1 hc).2
 ·obtain⟨h1,h2⟩:=Atz.1 hx;rw[Ao0 h1]at h ⊢;simp only at h ⊢;by_cases e:(t x).up - 1=g
  ·simp_all[A89]
  grind [Ao0,Air.gone]
 ·obtain⟨h1,h2⟩:=Atz.1 hx;rw[Ao0 h1]at h ⊢;simp only at h ⊢;obtain⟨h3,h4⟩:=Atz.1 h
  grind [Ao0,Air.ep]
 ·by_cases e1:e.1 - 1=g
  ·simp_all[A89]
  ·rw[Ao0 e1];rcases hs e he h0 with h|h
   ·omega
   ·obtain⟨a,ha,hb⟩:=Gh.1 h
    grind [Air.slot]
theorem Bea{qs:List (Int×Int)}(F:Air N t qs){g:Int}(hg:Al N t g):Air N (rem t g) (qs++[(g+1,(t g).fi)]):=by
 obtain⟨r,W⟩:=F.wf;have hl:=hg.lv;have T:=F.tree;have K:=F.kid;have hK:=Blf T W hl hg.noOr K;rw[show qs.map (·.2)++[(t g).fi]=(qs++[(g+1,(t g).fi)]).map (·.2)by simp]at hK;have hold: ∀e∈qs,kf N (rem t g) e.2=kf N t e.2:=fun e he=>A9r T hl hg.noOr K (Gh.2 ⟨e,he,rfl⟩)
 have hgn: ∀e∈qs,g ∉ kf N t e.2:=fun e he h=>hg.noOr (K.or (Gh.2 ⟨e,he,rfl⟩) h)
 have hflat:qs.flatMap (fun e=>kf N (rem t g) e.2)=(qs.map (·.2)).flatMap (kf N t):=by
  grind [Az0]
 refine Bbj F hl hK (Bji _ _ _ (Bbi qs [] [] hold (fun e he y hy=> ?_) (fun e he h0 x hx hu=> ?_) (fun x hx=>by cases hx) F.ord) (fun y hy x hx hu hc=> ?_) (fun _ x hx hu=> ?_)) (fun e he h0=> ?_)
 ·have hy2:=A7o (by grind) hy;refine⟨by grind [Bd9],fun x hx hu hc=> .inr ?_⟩;simp_all[Atz,Ao0,A5a]
 ·simp_all[Atz,Ao0]
 ·rw[Z38,hflat,K.iff];obtain⟨a,b⟩:=Atz.1 hx;rw[Ao0 a]at hu;simp only at hu;rw[A5v T W hl]at hy;have hgc:g ∉ kf N t (t g).fi:=fun h=>by obtain⟨_,h2,h3⟩:=(A6i T W hl g).1 h;grind [A73]
  have hy2:=A7o hgc hy;have hy0:=Dd.in (fun x hx=>Bjh hx) hy;exact⟨b,by omega,fun h=>hc ((A5a a).2 ⟨by omega,h⟩)⟩
 ·rw[Z38,hflat,A5v T W hl,N0,K.iff,A6i T W hl];obtain⟨a,b⟩:=Atz.1 hx;rw[Ao0 a]at hu;simp only at hu;by_cases c:Cu N t x
  ·grind
  ·exact .inl ⟨b,by omega,c⟩
 grind
theorem Bf3{qs:List (Int×Int)}{s g:Int}(F:Air N t ((s,g+1)::qs))(h0:0<=g):Lv N t g/\(t g).pv=0/\Air N (rem t g) ((g+1,(t g).fi)::(s,(t g).nx)::qs):=by
 obtain⟨r,W⟩:=F.wf;have T:=F.tree;have K:=F.kid;rw[Z8]at K;obtain⟨k1,k2⟩:=K.top (g+1) (by simp) (by omega);have hgm:g∈kf N t (g+1):=by have:=A9a (N:=N) (t:=t) k1;grind
 have ho:Oo N t g:=K.or (f:=g+1) (by simp) hgm;have hl:=ho.1;rw[Int.add_sub_cancel]at k2;obtain⟨hold,hK⟩:=Bpp T W hl K;obtain⟨o1,o2,o3⟩:=F.ord;simp only[Z38]at o1 o2 o3;have hsp:=A8q T W hl;have hgc:g ∉ kf N t (t g).fi:=fun h=>by obtain⟨_,h2,h3⟩:=(A6i T W hl g).1 h;grind [A73]
 have hchild: ∀y,Dd N t (kf N t (t g).fi) y->Dd N t (kf N t (g+1)) y:=by
  intro y hy;induction hy with
  |base h=>
   obtain⟨a,b,c⟩:=(A6i T W hl _).1 h;exact .step a c (by rw[b,Int.add_sub_cancel];exact .base hgm)
  |step a b c ih=>exact .step a b ih
 have hnone: ∀y,Dd N t (kf N t (g+1)) y-> ∀x,Lv N t x->(t x).up=y+1->Cu N t x:=fun y hy x hx hu=>Classical.byContradiction fun h=>by grind
 refine⟨hl,k2,Bbj F hl hK ⟨fun y hy x hx hu hc=> ?_,fun _ x hx hu=> ?_,fun y hy x hx hu hc=> ?_,fun hs x hx hu=> ?_,?_⟩ (fun e he h1=> ?_)⟩
 ·exfalso;rw[A5v T W hl]at hy;have hy2:=A7o hgc hy;obtain⟨a,b⟩:=Atz.1 hx;rw[Ao0 a]at hu;simp only at hu;exact hc ((A5a a).2 ⟨by omega,hnone y (hchild y (Bd9 hy)) x b hu⟩)
 ·rw[Z38,A5v T W hl,A6i T W hl];obtain⟨a,b⟩:=Atz.1 hx;rw[Ao0 a]at hu;simp only at hu;exact⟨b,hu,hnone g (.base hgm) x b hu⟩
 ·exfalso;rw[hold _ (by simp)]at hy;have hgt:g ∉ kf N t (t g).nx:=by
   have:=K.nodup
   grind
  have hy2:=A7o hgt hy;obtain⟨a,b⟩:=Atz.1 hx;rw[Ao0 a]at hu;simp only at hu;have hd:Dd N t (kf N t (g+1)) y:=by
   have:=Bd9 hy;rw[hsp];clear hy hu;induction this with
   |base h=>exact .base (Z56 _ h)
   |step a b c ih=>
    exact .step a b (Classical.byCases (fun e:(t _).up - 1=g=>by rw[e];exact .base (by simp)) (fun e=>ih e))
  exact hc ((A5a a).2 ⟨by omega,hnone y hd x b hu⟩)
 ·rw[Z38,A5v T W hl,hold _ (by simp)];obtain⟨a,b⟩:=Atz.1 hx;rw[Ao0 a]at hu
  grind
 ·rw[Z38,A5v T W hl,hold _ (by simp)];have hq: ∀e∈qs,e.2∈(t g).nx::qs.map (·.2):=fun e he=>Z56 _ (Gh.2 ⟨e,he,rfl⟩)
  have hnd:=K.nodup;rw[List.flatMap_cons,hsp,Z45,List.nodup_cons]at hnd;refine Bbi qs (kf N t (g+1)) _ (fun e he=>hold _ (hq e he)) (fun e he y hy=> ?_) (fun e he _ x hx hu=> ?_) (fun x hx hl'=> ?_) o3
  ·rw[hold _ (hq e he)]at hy;have hy2:=A7o (fun h=>hnd.1 (List.mem_append_right _ (List.mem_flatMap.2 ⟨e.2,Gh.2 ⟨e,he,rfl⟩,h⟩))) hy;refine⟨Bd9 hy,fun x hx hu hc=> .inr ?_⟩;obtain⟨a,b⟩:=Atz.1 hx;simp_all[Ao0,A5a]
  ·simp_all[Atz,Ao0]
  ·rw[hsp]at hx;rcases Ft.1 hx with h|h
   ·exact absurd h (Atz.1 hl').1
   grind
 grind
end
section
variable {N:Int} {t:Int->Lk}
def emp (t:Int->Lk)(k x:Int):Lk:=if x=k then⟨(t k).lv,(t k).gn,(t k).ep+1,(t k).up,(t k).ue,0,(t k).nx,(t k).pv⟩else t x
theorem Bc2{k:Int}:emp t k k=⟨(t k).lv,(t k).gn,(t k).ep+1,(t k).up,(t k).ue,0,(t k).nx,(t k).pv⟩:=if_pos rfl
theorem A99{k x:Int}(h:x≠k):emp t k x=t x:=if_neg h
theorem Ahu (k x:Int):(emp t k x).lv=(t x).lv/\(emp t k x).gn=(t x).gn/\(emp t k x).up=(t x).up/\(emp t k x).ue=(t x).ue/\(emp t k x).nx=(t x).nx/\(emp t k x).pv=(t x).pv:=by
 by_cases h:x=k
 all_goals simp_all[Bc2,A99]
theorem Av7{k x:Int}:Lv N (emp t k) x ↔ Lv N t x:=by simp_all[Lv,Ahu]
theorem A8r (hE: ∀x,Lv N t x->Lv N t ((t x).up - 1)->(t x).ue<=(t ((t x).up - 1)).ep){k x:Int}(hx:Lv N t x):Cu N (emp t k) x ↔ (t x).up≠k+1/\Cu N t x:=by
 unfold Cu;rw[Av7,(Ahu k x).2.2.1,(Ahu k x).2.2.2.1];by_cases h:(t x).up - 1=k
 ·grind [Bc2]
 ·rw[A99 h]
  grind
theorem Bav{k x:Int}(hx:(t x).up≠k+1):Cu N (emp t k) x ↔ Cu N t x:=by
 unfold Cu;rw[Av7,(Ahu k x).2.2.1,(Ahu k x).2.2.2.1,A99 (by omega)]
theorem Bbl (k f:Int):kf N (emp t k) f=kf N t f:=A6u _ _ fun x _=>(Ahu k x).2.2.2.2.1
theorem Bpq (k:Int)(n:Nat)(x:Int):rise N (emp t k) n x=rise N t n x:=A5u _ _ fun x _=>(Ahu k x).2.2.1
theorem Bpr (T:Ayw N t)(hE: ∀x,Lv N t x->Lv N t ((t x).up - 1)->(t x).ue<=(t ((t x).up - 1)).ep){k:Int}(hk:Lv N t k):Ayw N (emp t k):=by
 refine⟨fun x hx=> ?_,fun x hx=> ?_,fun x h0 h1 h=> ?_⟩
 ·have hl:=Av7.1 hx;have X:=T.link x hl;obtain⟨s1,s2,s3,s4,s5,s6⟩:=Ahu (t:=t) k x;refine⟨fun h=> ?_,fun h=> ?_,fun h=> ?_,fun h=> ?_,fun h hc=> ?_⟩
  ·by_cases e:x=k
   ·simp_all[Bc2]
   ·rw[A99 e]at h ⊢;obtain⟨a,b,c,d⟩:=X.first h;obtain⟨q1,q2,q3,q4,q5,q6⟩:=Ahu (t:=t) k ((t x).fi - 1)
    grind [Av7]
  ·rw[s5]at h ⊢;obtain⟨q1,q2,q3,q4,q5,q6⟩:=Ahu (t:=t) k ((t x).nx - 1)
   grind [Av7,A8d.next]
  ·rw[s6]at h ⊢;rw[Av7,(Ahu k _).2.2.2.2.1];exact X.prev h
  ·rw[s3]at h ⊢;exact X.up h
  ·rw[s6]at h;obtain⟨a,b⟩:=(A8r hE hl).1 hc
   grind [A99,A8d.top]
 ·have hl:=Av7.1 hx;rw[Bpq];obtain⟨a,b⟩:=T.rise x hl;refine⟨a,fun y hy hc=> ?_⟩;have hy2:=b y hy;by_cases e:Lv N t y
  ·simp_all[A8r]
  ·have hin:=A32 _ _ y (List.mem_of_getLast? hy);have:=(T.bare y hin.1 hin.2 (by cases q:(t y).lv with|false=>rfl|true=>exact absurd ⟨hin,q⟩ e)).1
   unfold Cu at hc;rw[(Ahu k y).2.2.1,this]at hc;have:=hc.1.1.1;omega
 ·by_cases e:x=k
  ·subst e;rw[Bc2]at h;have:=hk.2;grind
  grind [A99,Ayw.bare]
theorem Bps (hE: ∀x,Lv N t x->Lv N t ((t x).up - 1)->(t x).ue<=(t ((t x).up - 1)).ep){k x:Int}(hk:0<=k):Oo N (emp t k) x ↔ Oo N t x\/Lv N t x/\(t x).up=k+1:=by
 unfold Oo;rw[Av7,(Ahu k x).2.2.1];constructor
 ·rintro⟨a,b,c⟩
  by_cases e:(t x).up=k+1
  all_goals simp_all[A8r]
 ·rintro(⟨a,b,c⟩|⟨a,b⟩)
  ·simp_all[A8r]
  ·exact⟨a,by omega,fun d=>((A8r hE a).1 d).1 b⟩
theorem Beb{qs:List (Int×Int)}(F:Air N t qs){k:Int}(hg:Al N t k):Air N (emp t k) (qs++[(0,(t k).fi)]):=by
 obtain⟨r,W⟩:=F.wf;obtain⟨d,U⟩:=F.uw;have hl:=hg.lv;have T:=F.tree;have K:=F.kid;have hE:=F.ep;have hflat:qs.flatMap (fun e=>kf N (emp t k) e.2)=(qs.map (·.2)).flatMap (kf N t):=by
  simp_all[List.flatMap_map,Bbl]
 have hfl2:((qs++[((0:Int),(t k).fi)]).map (fun e:Int×Int=>e.2)).flatMap (kf N (emp t k))=(qs.map (·.2)).flatMap (kf N t)++kf N t (t k).fi:=by
  grind [List.flatMap_map,Bbl]
 refine⟨Bpr T hE hl,⟨r,fun x hx h=> ?_⟩,⟨d,fun x hx hc=> ?_⟩,⟨?_,fun x=> ?_,fun f hf h0=> ?_⟩,Bji _ _ _ (Bbi qs [] [] (fun e _=>Bbl k e.2) (fun e he y hy=> ?_) (fun e he _ x hx hu=> ?_) (fun x hx=>by cases hx) F.ord) (fun y hy x hx hu hc=> ?_) (fun h=>absurd rfl h),fun x hx h=> ?_,fun x hx h=> ?_,fun e he h0=> ?_⟩
 ·rw[(Ahu k x).2.2.2.2.2]at h ⊢;exact W x (Av7.1 hx) h
 ·simp_all[Ahu,Av7,A8r]
 ·rw[hfl2,Apl];exact⟨K.nodup,A7n T W _ hl,fun x h1 h2=>((K.iff x).1 h1).2.2 ((A6i T W hl x).1 h2).2.2⟩
 ·rw[hfl2,N0,K.iff,A6i T W hl,Bps hE hl.1.1];constructor
  ·grind
  ·rintro(h|⟨b,c⟩)
   ·grind
   ·by_cases d:Cu N t x
    ·grind
    ·exact .inl ⟨b,by have:=hl.1.1;omega,d⟩
 ·rw[(Ahu k _).2.2.2.2.2];rw[Yy,N0]at hf;rcases hf with hf|hf
  ·exact K.top f hf h0
  ·simp only[Z8,Py,S9]at hf;subst hf;obtain⟨a,b,_⟩:=(T.link k hl).first h0;exact⟨a.1,b⟩
 ·have hor: ∀x∈kf N t e.2,Oo N t x:=fun x hx=>K.or (Gh.2 ⟨e,he,rfl⟩) hx
  have hy2:Dd N t (kf N t e.2) y:=by
   rw[Bbl]at hy;induction hy with
   |base h=>exact .base h
   |step a b c ih=>
    rw[(Ahu k _).2.2.1]at ih;exact .step (Av7.1 a) ((A8r hE (Av7.1 a)).1 b).2 ih
  refine⟨hy2,fun x hx hu hc=> .inr ?_⟩;rw[(Ahu k x).2.2.1]at hu;have hne:y≠k:=fun q=>hg.noDd hor (q ▸ hy2)
  simp_all[Av7,Bav]
 ·simp_all[Ahu,Av7]
 ·rw[Z38,hflat,K.iff];rw[(Ahu k x).2.2.1]at hu;have hy0:=Dd.in (fun x hx=>Bjh hx) hy;have hal:Al N (emp t k) k:=by
   clear hy hu hc hx;cases hg with
   |root a b=>exact .root (Av7.2 a) (by simp_all[Ahu])
   |step a b c=>
    have key: ∀z,Al N t z->d z<d k->Al N (emp t k) z:=by
     intro z hz;induction hz with
     |root a b=>intro _;exact .root (Av7.2 a) (by simp_all[Ahu])
     | @step z a b c ih=>
      intro h1;have h2:=U z a b;have hne:(t z).up≠k+1:=fun q=>by grind
      exact .step (Av7.2 a) ((Bav hne).2 b) (by rw[(Ahu k _).2.2.1];grind)
    have h2:=U k a b;have hne:(t k).up≠k+1:=fun q=>by grind
    exact .step (Av7.2 a) ((Bav hne).2 b) (by simp_all[Ahu])
  have hne:y≠k:=fun q=>by
   refine hal.noDd (S:=kf N (emp t k) (t k).fi) (fun z hz=> ?_) (q ▸ hy);rw[Bbl,A6i T W hl]at hz;simp_all[Bps]
  exact⟨Av7.1 hx,by omega,fun h=>hc ((Bav (by omega)).2 h)⟩
 ·rw[(Ahu k x).2.2.1]at h ⊢;rw[(Ahu k _).1,(Ahu k _).2.1];exact F.gone x (Av7.1 hx) h
 ·rw[(Ahu k x).2.2.1]at h ⊢;rw[(Ahu k x).2.2.2.1];have:=hE x (Av7.1 hx) (Av7.1 h);by_cases e:(t x).up - 1=k
  all_goals grind [Bc2,A99]
 ·rw[(Ahu k _).1,(Ahu k _).2.1];rcases N0.1 he with he|he
  ·exact F.slot e he h0
  ·rw[S9]at he;rw[he]at h0;exact absurd rfl h0
def clr (t:Int->Lk)(k x:Int):Lk:=if x=k then⟨false,false,0,0,0,0,0,0⟩else t x
theorem Bbm{qs:List (Int×Int)}{s:Int}(F:Air N t ((s,0)::qs)):Air N t qs:=by
 obtain⟨o1,o2,o3⟩:=F.ord;have h0:kf N t 0=[]:=A14 _;have K:=F.kid;simp only[h0,List.append_nil]at o3;refine⟨F.tree,F.wf,F.uw,?_,o3,F.gone,F.ep,fun e he=>F.slot e (Z56 _ he)⟩;refine⟨?_,fun x=> ?_,fun f hf=>K.top f (Z56 _ hf)⟩
 ·have:=K.nodup;grind
 ·have:=K.iff x;grind
theorem Az1{k:Int}(h:(t k).lv=false){x:Int}:Lv N (clr t k) x ↔ Lv N t x:=by
 unfold Lv clr
 grind
theorem Ao1{k:Int}(h:(t k).lv=false){x:Int}(hx:Lv N t x):clr t k x=t x:=by
 unfold clr;rw[if_neg];intro e;subst e;have:=hx.2
 grind
theorem A9s{k:Int}(h:(t k).lv=false){x:Int}(hx:Lv N t x):Cu N (clr t k) x ↔ Cu N t x:=by
 grind [Cu,Ao1,Az1]
theorem Bec{qs:List (Int×Int)}{s:Int}(F:Air N t ((s,0)::qs))(h0:s≠0)(hs: ∀e∈qs,e.1≠s):Air N (clr t (s - 1)) qs:=by
 have F':=Bbm F;obtain⟨r,W⟩:=F.wf;obtain⟨d,U⟩:=F.uw;have T:=F.tree;have K:=F'.kid;obtain⟨hlv,hgn⟩:=F.slot (s,0) (by simp) h0;simp only at hlv hgn;have hno: ∀x,Lv N t x->(t x).up≠s:=fun x hx e=>by
  have:=F.ord.2.1 h0 x hx e;rw[show kf N t ((s,(0:Int)).2)=[] from A14 _]at this;cases this
 have hnl: ∀x,x≠s - 1->clr t (s - 1) x=t x:=fun x h=>if_neg h
 have hup: ∀x,(0<=x/\x<N)->(clr t (s - 1) x).up=(t x).up:=fun x h=>by
  by_cases e:x=s - 1
  ·subst e;rw[(T.bare _ h.1 h.2 hlv).1];simp_all[clr]
  grind
 have hri: ∀n x,rise N (clr t (s - 1)) n x=rise N t n x:=fun n x=>A5u n x fun y hy=>hup y (A32 _ _ y hy)
 have hkf: ∀f∈qs.map (·.2),kf N (clr t (s - 1)) f=kf N t f:=fun f hf=>A6u _ _ fun x hx=>by rw[Ao1 hlv (K.or hf hx).1]
 have hor: ∀x,Oo N (clr t (s - 1)) x ↔ Oo N t x:=fun x=>by
  grind [Oo,Az1,Ao1,A9s]
 have hdd: ∀S y,Dd N (clr t (s - 1)) S y->Dd N t S y:=fun S y h=>by
  induction h with
  |base h=>exact .base h
  |step a b c ih=>
   have a:=(Az1 hlv).1 a;rw[Ao1 hlv a]at ih;exact .step a ((A9s hlv a).1 b) ih
 refine⟨⟨fun x hx=> ?_,fun x hx=> ?_,fun x h0 h1 h=> ?_⟩,⟨r,fun x hx h=> ?_⟩,⟨d,fun x hx hc=> ?_⟩,⟨?_,fun x=> ?_,fun f hf h1=> ?_⟩,?_,fun x hx h=> ?_,fun x hx h=> ?_,fun e he h1=> ?_⟩
 ·have hl:=(Az1 hlv).1 hx;have X:=T.link x hl;refine⟨fun h=> ?_,fun h=> ?_,fun h=> ?_,fun h=> ?_,fun h hc=> ?_⟩
  ·rw[Ao1 hlv hl]at h ⊢;have a:=(X.first h).1
   grind [Az1,Ao1,A8d.first]
  ·rw[Ao1 hlv hl]at h ⊢;have a:=(X.next h).1
   grind [Az1,Ao1,A8d.next]
  ·rw[Ao1 hlv hl]at h ⊢;have a:=(X.prev h).1
   grind [Az1,Ao1,A8d.prev]
  ·grind [Ao1,A8d.up]
  ·have hc:=(A9s hlv hl).1 hc;rw[Ao1 hlv hl]at h ⊢;rw[Ao1 hlv hc.1];exact X.top h hc
 ·have hl:=(Az1 hlv).1 hx;rw[hri];obtain⟨a,b⟩:=T.rise x hl;refine⟨a,fun y hy hc=>b y hy ?_⟩;unfold Cu at hc ⊢;rw[hup y (A32 _ _ y (List.mem_of_getLast? hy)),Az1 hlv]at hc;refine⟨hc.1,?_⟩;rw[<-Ao1 hlv hc.1,hc.2];by_cases e:y=s - 1
  ·subst e;have hin:=A32 _ _ _ (List.mem_of_getLast? hy);have:=(T.bare _ hin.1 hin.2 hlv).1;rw[this]at hc;have:=hc.1.1.1;omega
  grind
 ·by_cases e:x=s - 1
  ·simp_all[clr]
  grind [Ayw.bare]
 ·have hl:=(Az1 hlv).1 hx;rw[Ao1 hlv hl]at h ⊢;exact W x hl h
 ·have hl:=(Az1 hlv).1 hx;rw[Ao1 hlv hl];simp_all[A9s]
 ·rw[Az0 hkf];exact K.nodup
 ·rw[Az0 hkf,K.iff,hor]
 ·obtain⟨a,b⟩:=K.top f hf h1;refine⟨a,?_⟩;rw[Ao1 hlv (K.or hf (A9a a)).1];exact b
 ·have hk: ∀e∈qs,kf N (clr t (s - 1)) e.2=kf N t e.2:=fun e he=>hkf _ (Gh.2 ⟨e,he,rfl⟩);refine Bbi qs [] [] hk (fun e he y hy=>⟨by grind,fun x hx hu hc=> ?_⟩) (fun e he h1 x hx hu=> ?_) (fun x hx=>by cases hx) F'.ord
  ·have hl:=(Az1 hlv).1 hx;rw[Ao1 hlv hl]at hu;simp_all[A9s]
  ·have hl:=(Az1 hlv).1 hx
   grind [Ao1]
 ·have hl:=(Az1 hlv).1 hx
  grind [Ao1,Air.gone]
 ·have hl:=(Az1 hlv).1 hx;rw[Ao1 hlv hl]at h ⊢;have h2:=(Az1 hlv).1 h
  grind [Air.ep]
 grind [Air.slot]
end
section
variable {N:Int} {t:Int->Lk}
def ins (t:Int->Lk)(k p x:Int):Lk:=
 if x=k then⟨true,false,0,p+1,if p+1=0 then 0 else(t p).ep,0,if p+1=0 then 0 else(t p).fi,0⟩
 else⟨(t x).lv,(t x).gn,(t x).ep,(t x).up,(t x).ue,if x=p then k+1 else(t x).fi,(t x).nx,if p+1≠0/\x+1=(t p).fi then k+1 else(t x).pv⟩
theorem A0l{k p:Int}:ins t k p k=⟨true,false,0,p+1,if p+1=0 then 0 else(t p).ep,0,if p+1=0 then 0 else(t p).fi,0⟩:=if_pos rfl
theorem Ax8{k p x:Int}(h:x≠k):ins t k p x=⟨(t x).lv,(t x).gn,(t x).ep,(t x).up,(t x).ue,if x=p then k+1 else(t x).fi,(t x).nx,if p+1≠0/\x+1=(t p).fi then k+1 else(t x).pv⟩:=if_neg h
theorem Bpt: ∀(n:Nat) (x y:Int),y∈rise N t n x->y=x\/ ∃z,z∈rise N t n x/\(t z).up - 1=y:=by
 intro n;induction n with
 |zero=>intro x y h;cases h
 |succ n ih=>
  intro x y h;rw[rise]at h ⊢
  grind
theorem Bjj{d:Int->Nat}(U: ∀x,Lv N t x->Cu N t x->d ((t x).up - 1)<d x): ∀(n:Nat) (x:Int),Al N t x->(∀y∈rise N t n x,d y<=d x/\Al N t y)/\(rise N t n x).Pairwise (fun a b=>d b<d a):=by
 intro n;induction n with
 |zero=>intro x _;exact⟨fun y h=>(by cases h),.nil⟩
 |succ n ih=>
  intro x hx;rw[rise,if_pos hx.lv.1];cases hx with
  |root a b=>
   have:rise N t n ((t x).up - 1)=[]:=by rw[b];cases n with|zero=>rfl|succ n=>rfl
   rw[this];exact⟨fun y h=>by rw[S9.1 h];exact⟨Z9 _,.root a b⟩,List.pairwise_singleton ..⟩
  |step a b c=>
   obtain⟨i1,i2⟩:=ih _ c;have h2:=U x a b;refine⟨fun y h=> ?_,List.pairwise_cons.2 ⟨fun y h=> ?_,i2⟩⟩
   ·rcases Ft.1 h with rfl|h
    ·exact⟨Z9 _,.step a b c⟩
    grind
   grind
theorem Bf4{qs:List (Int×Int)}(F:Air N t qs){k p:Int}(hk:0<=k/\k<N)(hlv:(t k).lv=false)(hgn:(t k).gn=false)(hp:p= -1\/Al N t p/\(rise N t N.toNat p).length<4):Air N (ins t k p) qs:=by
 obtain⟨r,W⟩:=F.wf;obtain⟨d,U⟩:=F.uw;have T:=F.tree;have K:=F.kid;have hne: ∀ {x},Lv N t x->x≠k:=fun {x} h e=>by subst e;rw[h.2]at hlv;cases hlv
 have hno: ∀x,Lv N t x->(t x).up≠k+1:=fun x hx e=>by
  rcases F.gone x hx (by omega)with h|h
  all_goals grind
 have hp0:p+1≠0->Al N t p:=fun h=>by
  grind
 have hp1: ∀x,Lv N t x->x=p->p+1≠0:=fun x hx e=>by have:=hx.1.1;omega
 have L: ∀x,Lv N (ins t k p) x ↔ x=k\/Lv N t x:=fun x=>by
  unfold Lv;by_cases e:x=k
  all_goals grind [A0l,Ax8]
 have hL: ∀ {x},Lv N t x->Lv N (ins t k p) x:=fun h=>(L _).2 (.inr h)
 have hup: ∀x,x≠k->(ins t k p x).up=(t x).up:=fun x h=>by rw[Ax8 h]
 have C: ∀x,x≠k->(t x).up≠k+1->(Cu N (ins t k p) x ↔ Cu N t x):=fun x h h1=>by
  unfold Cu;rw[L,hup x h,Ax8 (x:=(t x).up - 1) (by omega),Ax8 h]
  grind
 have Ck:p+1≠0->Cu N (ins t k p) k:=fun h=>by
  simp_all[Al.lv,Cu,A0l,Ax8]
 have Cn:p+1=0-> ¬Cu N (ins t k p) k:=fun h c=>by
  unfold Cu at c;rw[A0l]at c
  grind
 have hkf: ∀f∈qs.map (·.2),kf N (ins t k p) f=kf N t f:=fun f hf=>A6u _ _ fun x hx=>by rw[Ax8 (hne (K.or hf hx).1)]
 have hor: ∀x,Oo N (ins t k p) x ↔ Oo N t x:=fun x=>by
  unfold Oo;rw[L];by_cases e:x=k
  ·subst e;constructor
   ·grind [A0l]
   grind
  grind
 have hrk: ∀x,Lv N t x-> ∀n,k ∉ rise N t n x:=fun x hx n h=>by
  rcases Bpt _ _ _ h with h|⟨z,h1,h2⟩
  ·grind
  ·by_cases hz:(t z).lv=true
   ·exact hno z ⟨A32 _ _ _ h1,hz⟩ (by omega)
   ·have:=A32 _ _ _ h1;have:=(T.bare z this.1 this.2 (by grind)).1;omega
 have hri: ∀x,Lv N t x-> ∀n,rise N (ins t k p) n x=rise N t n x:=fun x hx n=>A5u n x fun y hy=>hup y fun e=>hrk x hx n (e ▸ hy)
 have hlast: ∀x,Lv N t x-> ∀y,(rise N t N.toNat x).getLast? =some y-> ¬Cu N (ins t k p) y:=fun x hx y hy hc=>by
  have hm:=List.mem_of_getLast? hy;have hyk:y≠k:=fun e=>hrk x hx _ (e ▸ hm)
  have hin:=A32 _ _ _ hm;by_cases hz:(t y).lv=true
  ·exact(T.rise x hx).2 y hy ((C y hyk (hno y ⟨hin,hz⟩)).1 hc)
  ·have:=(T.bare y hin.1 hin.2 (by grind)).1;unfold Cu at hc;rw[hup y hyk,this]at hc;have:=hc.1.1.1;omega
 obtain⟨m,hm⟩: ∃m,N.toNat=m+1:=⟨N.toNat - 1,by omega⟩;have hpk:p+1≠0->rise N (ins t k p) N.toNat k=k::rise N t N.toNat p:=fun h=>by
  have ha:=hp0 h;rw[hm,rise,if_pos hk,A0l];simp only;rw[Int.add_sub_cancel,hri p ha.lv,<-hm];congr 1;rw[hm,Ble,List.take_of_length_le];obtain⟨i1,i2⟩:=Bjj U (m+1) p ha;have:=Bd6 (N:=N) (List.nodup_cons.2 ⟨hrk p ha.lv (m+1),i2.imp fun h e=>by grind⟩) (fun y hy=>by
   rcases Ft.1 hy with rfl|hy
   ·exact hk
   ·exact A32 _ _ y hy)
  grind
 refine⟨⟨fun x hx=> ?_,fun x hx=> ?_,fun x h0 h1 h=> ?_⟩,⟨fun x=>if x=k then 0 else r x+1,fun x hx h=> ?_⟩,⟨fun x=>if x=k then d p+1 else d x,fun x hx hc=> ?_⟩,⟨?_,fun x=> ?_,fun f hf h1=> ?_⟩,?_,fun x hx h=> ?_,fun x hx h=> ?_,fun e he h1=> ?_⟩
 ·by_cases e:x=k
  ·subst e;refine⟨fun h=> ?_,fun h=> ?_,fun h=> ?_,fun h=> ?_,fun h hc=> ?_⟩
   ·simp_all[A0l]
   ·rw[A0l]at h ⊢;simp only at h ⊢;by_cases hq:p+1=0
    ·omega
    ·rw[if_neg hq]at h ⊢;rw[if_neg hq];obtain⟨a,b,c,e⟩:=(T.link p (hp0 hq).lv).first h;simp_all[Ax8]
   ·simp_all[A0l]
   ·rw[A0l]at h ⊢;simp only at h ⊢;rw[Int.add_sub_cancel];exact(hp0 h).lv.1
   ·by_cases hq:p+1=0
    ·grind
    ·rw[A0l];simp only;rw[Int.add_sub_cancel,Ax8 (hne (hp0 hq).lv)];simp
  ·have hl:=((L x).1 hx).resolve_left e;have X:=T.link x hl;refine⟨fun h=> ?_,fun h=> ?_,fun h=> ?_,fun h=> ?_,fun h hc=> ?_⟩
   ·rw[Ax8 e]at h ⊢;simp only at h ⊢;by_cases hq:x=p
    ·have hq1:=hp1 x hl hq;rw[if_pos hq,Int.add_sub_cancel,A0l]
     grind
    ·rw[if_neg hq]at h ⊢;obtain⟨a,b,c,f⟩:=X.first h;rw[Ax8 (hne a)];simp only;rw[if_neg]
     ·grind
     ·rintro⟨g1,g2⟩
      have:=((T.link p (hp0 g1).lv).first (by omega)).2.2.1
      grind
   ·rw[Ax8 e]at h ⊢;simp only at h ⊢;obtain⟨a,b,c,f⟩:=X.next h;rw[Ax8 (hne a)];simp only;rw[if_neg]
    ·grind
    ·rintro⟨g1,g2⟩
     have:=((T.link p (hp0 g1).lv).first (by omega)).2.1;rw[<-g2,Int.add_sub_cancel]at this;have:=hl.1;omega
   ·rw[Ax8 e]at h ⊢;simp only at h ⊢;by_cases hq:p+1≠0/\x+1=(t p).fi
    ·rw[if_pos hq,Int.add_sub_cancel,A0l]
     grind
    ·rw[if_neg hq]at h ⊢
     grind [A8d.prev,Ax8]
   ·rw[Ax8 e]at h ⊢;exact X.up h
   ·have hc:=(C x e (hno x hl)).1 hc;rw[Ax8 e]at h ⊢;simp only at h ⊢;by_cases hq:p+1≠0/\x+1=(t p).fi
    ·omega
    ·rw[if_neg hq]at h;have:=X.top h hc;rw[Ax8 (hne hc.1)];simp only;rw[if_neg]
     ·exact this
     ·intro g;rw[g]at this;exact hq ⟨hp1 _ hc.1 g,by omega⟩
 ·by_cases e:x=k
  ·subst e;by_cases hq:p+1=0
   ·have:rise N (ins t x p) N.toNat x=[x]:=by
     rw[hm,rise,if_pos hk,A0l];simp only;rw[hq];cases m with
     |zero=>rfl
     |succ m=>rfl
    simp_all
   ·rw[hpk hq];rcases hp with rfl|hp
    ·omega
    ·refine⟨by grind,fun y hy=> ?_⟩;have:rise N t N.toNat p≠[]:=by rw[hm,rise,if_pos hp.1.lv.1];simp
     rw[List.getLast?_cons]at hy;refine hlast p hp.1.lv y ?_;simp_all[rise,List.getLast?_cons]
  ·have hl:=((L x).1 hx).resolve_left e;rw[hri x hl];exact⟨(T.rise x hl).1,hlast x hl⟩
 ·by_cases e:x=k
  ·grind [A0l]
  ·rw[Ax8 e]at h ⊢;simp only at h ⊢;obtain⟨a,b,c,f⟩:=T.bare x h0 h1 h;refine⟨a,?_,c,?_⟩
   ·rw[if_neg]
    ·exact b
    ·intro g;have:=(hp0 (by omega)).lv.2
     grind
   ·rw[if_neg]
    ·exact f
    ·rintro⟨g1,g2⟩
     have:=((T.link p (hp0 g1).lv).first (by omega)).1.2
     grind
 ·by_cases e:x=k
  ·simp_all[A0l]
  ·have hl:=((L x).1 hx).resolve_left e;rw[Ax8 e]at h ⊢;simp only at h ⊢;simp only[if_neg e];by_cases hq:p+1≠0/\x+1=(t p).fi
   ·grind
   ·rw[if_neg hq]at h ⊢;rw[if_neg (hne ((T.link x hl).prev h).1)];have:=W x hl h;omega
 ·by_cases e:x=k
  ·subst e;by_cases hq:p+1=0
   all_goals simp_all[A0l,Al.lv]
  grind
 ·rw[Az0 hkf];exact K.nodup
 ·rw[Az0 hkf,K.iff,hor]
 ·obtain⟨a,b⟩:=K.top f hf h1;have ho:=K.or hf (A9a (N:=N) (t:=t) a);refine⟨a,?_⟩;rw[Ax8 (hne ho.1)];simp only;rw[if_neg]
  ·exact b
  ·rintro⟨g1,g2⟩
   have hpl:=(hp0 g1).lv;obtain⟨_,_,c3,c4⟩:=(T.link p hpl).first (by omega);rw[<-g2,Int.add_sub_cancel]at c3 c4;exact ho.2.2 (by simp_all[Cu])
 ·have hk2: ∀e∈qs,kf N (ins t k p) e.2=kf N t e.2:=fun e he=>hkf _ (Gh.2 ⟨e,he,rfl⟩);refine Bbi qs [] [] hk2 (fun e he y hy=> ?_) (fun e he h1 x hx hu=> ?_) (fun x hx=>by cases hx) F.ord
  ·have hS: ∀x∈kf N t e.2,Oo N t x:=fun x hx=>K.or (Gh.2 ⟨e,he,rfl⟩) hx;rw[hk2 e he]at hy
   have hy2:Dd N t (kf N t e.2) y:=by
    induction hy with
    |base h=>exact .base h
    | @step y a b c ih=>
     by_cases q:y=k
     ·subst q;by_cases hq:p+1=0
      all_goals simp_all[A0l,Al.noDd]
     ·have hl:=((L y).1 a).resolve_left q;rw[hup y q]at ih;exact .step hl ((C y q (hno y hl)).1 b) ih
   refine⟨hy2,fun x hx hu hc=> .inr ?_⟩;by_cases q:x=k
   ·subst q;by_cases hq:p+1=0
    ·rw[A0l]at hu;simp only at hu;have:=Dd.in (fun x hx=>Bjh hx) hy2;omega
    grind
   grind
  ·by_cases q:x=k
   ·subst q;rw[A0l]at hu;simp only at hu;have:=(hp0 (by omega)).lv.2;have h3:=(F.slot e he h1).1
    grind
   grind
 ·by_cases e:x=k
  ·subst e;rw[A0l]at h ⊢;simp only at h ⊢;rw[Int.add_sub_cancel,Ax8 (hne (hp0 h).lv)];exact .inl (hp0 h).lv.2
  ·have hl:=((L x).1 hx).resolve_left e
   grind [Ax8,Air.gone]
 ·by_cases e:x=k
  ·subst e;rw[A0l]at h ⊢;simp only at h ⊢;by_cases hq:p+1=0
   ·grind
   ·rw[if_neg hq,Int.add_sub_cancel,Ax8 (hne (hp0 hq).lv)]
    grind
  ·have hl:=((L x).1 hx).resolve_left e;rw[hup x e]at h ⊢;have hu:=hno x hl;have h2:=((L _).1 h).resolve_left (by omega)
   grind [Ax8,Air.ep]
 ·have:=F.slot e he h1;have q:e.1 - 1≠k:=fun q=>by grind
  grind [Ax8]
end
theorem sb1{x:Int}(h0: -1000000000<=x)(h1:x<=1000000000):Ap x 1=x - 1:=by unfold Ap Asu;rw[Ht (by omega) (by omega)]
theorem ad1{x:Int}(h0: -1000000000<=x)(h1:x<=1000000000):A1 x 1=x+1:=by unfold A1 Lc;rw[Ht (by omega) (by omega)]
def A7p (n:Az):Lk:=⟨n.G4==1,n.G4==2,n.Nb,n.fUp,n.G5,n.Bz,n.G6,n.G7⟩
def AtT (l:List Az)(t:Int->Lk):Prop:= ∀k,0<=k/\k<(l.length:Int)->t k=A7p (gt l k)
structure Rg (l:List Az):Prop where
 len:l.length<=8
 rg: ∀k,0<=k/\k<(l.length:Int)->(0<=(gt l k).fUp/\(gt l k).fUp<=l.length)/\(0<=(gt l k).Bz/\(gt l k).Bz<=l.length)/\(0<=(gt l k).G6/\(gt l k).G6<=l.length)/\(0<=(gt l k).G7/\(gt l k).G7<=l.length)
theorem A1z{l:List Az}{t:Int->Lk}(A:AtT l t){k:Int}:Lv l.length t k ↔ (0<=k/\k<(l.length:Int))/\(gt l k).G4=1:=by
 unfold Lv;constructor
 ·rintro⟨a,b⟩;rw[A _ a]at b;grind [A7p]
 ·rintro⟨a,b⟩;rw[A _ a];grind [A7p]
theorem Bpu{l:List Az}{t:Int->Lk}(A:AtT l t)(R:Rg l): ∀(n:Nat) (k:Int),A3a l n k=kids l.length t n k:=by
 intro n;induction n with
 |zero=>intro k;rfl
 |succ n ih=>
  intro k;rw[A3a,kids];split
  ·rename_i h;have:=(R.rg k h).2.2.1;have:=R.len;rw[A _ h,sb1 (by omega) (by omega),ih];rfl
  ·rfl
theorem A9b{l:List Az}{t:Int->Lk}(A:AtT l t)(R:Rg l): ∀(n:Nat) (k:Int),Akt l n k=rise l.length t n k:=by
 intro n;induction n with
 |zero=>intro k;rfl
 |succ n ih=>
  intro k;rw[Akt,rise];split
  ·rename_i h;have:=(R.rg k h).1;have:=R.len;rw[A _ h,sb1 (by omega) (by omega),ih];rfl
  ·rfl
theorem Bef{l:List Az}{t:Int->Lk}(A:AtT l t)(R:Rg l){f:Int}(h0:0<=f)(h1:f<=1000):Ak4 l f=kf l.length t f:=by
 grind [Ak4,kf,sb1,Bpu,Int.toNat_natCast]
theorem A6v{l:List Az}{n:Int}(h0:0<=n)(h1:n<=1000):plB l n=true ↔ 0<=n - 1/\n - 1<(l.length:Int):=by
 unfold plB;rw[sb1 (by omega) (by omega),decide_eq_true_iff]
theorem A9c{l:List Az}{t:Int->Lk}(A:AtT l t)(R:Rg l){k:Int}(h:0<=k/\k<(l.length:Int)):A5q l k=true ↔ Cu l.length t k:=by
 have h1:=(R.rg k h).1;have h2:=R.len;unfold A5q Cu;rw[Z4,Z4,A6v h1.1 (by omega),beq_iff_eq,beq_iff_eq,sb1 (by omega) (by omega),A _ h];show _ ↔ Lv _ _ ((gt l k).fUp - 1)/\(t ((gt l k).fUp - 1)).ep=(gt l k).G5;rw[A1z A];constructor
 ·rintro⟨a,b,c⟩;rw[A _ a];exact⟨⟨a,b⟩,c⟩
 ·rintro⟨⟨a,b⟩,c⟩;rw[A _ a]at c;exact⟨a,b,c⟩
theorem Bf5{l:List Az}{t:Int->Lk}(A:AtT l t)(R:Rg l){k:Int}(h:0<=k/\k<(l.length:Int)):A3b l k=true ↔ Oo l.length t k:=by
 unfold A3b Oo;rw[Z4,Z4,beq_iff_eq,bne_iff_ne,Z44,A1z A,<-A9c A R h,A _ h,Bool.not_eq_true];exact⟨fun⟨a,b,c⟩=>⟨⟨h,a⟩,b,c⟩,fun⟨⟨_,a⟩,b,c⟩=>⟨a,b,c⟩⟩
theorem Bbn{l:List Az}{t:Int->Lk}(A:AtT l t){n:Int}(h0:0<=n)(h1:n<=1000):Aww l n=true ↔ (n≠0->Lv l.length t (n - 1)):=by
 unfold Aww;rw[Bool.or_eq_true,beq_iff_eq,Z4,A6v h0 h1,beq_iff_eq,A1z A,sb1 (by omega) (by omega)];omega
theorem Bhw{a:Int}{b:Bool}{P:Prop}(h:b=true ↔ P):(a==0||b)=true ↔ (a≠0->P):=by
 grind
theorem Bc3{l:List Az}{t:Int->Lk}(A:AtT l t)(R:Rg l){k:Int}(h:0<=k/\k<(l.length:Int)):A55 l k=true ↔ A8d l.length t k:=by
 obtain⟨r1,r2,r3,r4⟩:=R.rg k h;have h2:=R.len;have eg: ∀n,Lv l.length t n->t n=A7p (gt l n):=fun n hn=>A _ hn.1
 have ek:=A _ h;unfold A55 A70 Bk2 Bfo Bcm Baj;rw[ad1 (by omega) (by omega),sb1 (x:=(gt l k).Bz) (by omega) (by omega),sb1 (x:=(gt l k).G6) (by omega) (by omega),sb1 (x:=(gt l k).G7) (by omega) (by omega),sb1 (x:=(gt l k).fUp) (by omega) (by omega)];simp only[Z4,Bbn A r2.1 (by omega:(gt l k).Bz<=1000),Bbn A r3.1 (by omega:(gt l k).G6<=1000),Bbn A r4.1 (by omega:(gt l k).G7<=1000),Bhw (A6v r1.1 (by omega:(gt l k).fUp<=1000)),Bhw Bool.and_eq_true_iff,Bhw beq_iff_eq,beq_iff_eq];constructor
 ·rintro⟨⟨a1,a2,a3,a4⟩,a5,a6,a7,a8⟩;refine⟨?_,?_,?_,?_,?_⟩
  ·simp_all[A7p]
  ·simp_all[A7p]
  ·simp_all[A7p]
  ·rw[ek];exact a4
  ·rw[ek];intro q c;have hc:=(A9c A R h).2 c;have hu:=c.1;rw[ek]at hu;have hu:Lv l.length t ((gt l k).fUp - 1):=hu;rw[show(A7p (gt l k)).up=(gt l k).fUp from rfl,eg _ hu];rw[show(A7p (gt l k)).pv=(gt l k).G7 from rfl]at q;rw[q,hc]at a8;show(gt l ((gt l k).fUp - 1)).Bz=k+1
   grind
 ·intro L;obtain⟨a1,a2,a3,a4,a5⟩:=L;rw[ek]at a1 a2 a3 a4 a5;refine⟨⟨fun q=>(a1 q).1,fun q=>(a2 q).1,fun q=>(a3 q).1,a4⟩,fun q=> ?_,fun q=> ?_,fun q=> ?_,?_⟩
  ·obtain⟨b1,b2,b3,b4⟩:=a1 q;rw[eg _ b1]at b2 b3 b4;exact⟨b2,b3,b4⟩
  ·obtain⟨b1,b2,b3,b4⟩:=a2 q;rw[eg _ b1]at b2 b3 b4;exact⟨b2,b3,b4⟩
  ·obtain⟨b1,b2⟩:=a3 q;rw[eg _ b1]at b2;exact b2
  ·by_cases q:(gt l k).G7=0
   ·cases hc:A5q l k with
    |false=>simp
    |true=>
     have c:=(A9c A R h).1 hc;have hu:=c.1;rw[ek]at hu;have:=a5 q c;rw[eg _ hu]at this;simp only[Bool.or_eq_true,beq_iff_eq];exact .inr this
   grind
theorem Bpv{r:List Int}(h:r≠[]):r.getLast? =some (A92 r):=by
 unfold A92;rw[Wx (by have:=List.length_pos_iff.2 h;omega),List.getLast?_eq_getElem?]
 grind
theorem Bpw{l:List Az}{t:Int->Lk}(A:AtT l t)(R:Rg l)(hb: ∀k,0<=k/\k<(l.length:Int)->(gt l k).G4≠1->(gt l k).fUp=0/\(gt l k).Bz=0/\(gt l k).G6=0/\(gt l k).G7=0):Ba9 l=true ↔ Ayw l.length t:=by
 have key: ∀k,0<=k/\k<(l.length:Int)->(A6f l k=true ↔ (rise l.length t (l.length:Int).toNat k).length<=4/\ ∀x,(rise l.length t (l.length:Int).toNat k).getLast? =some x-> ¬Cu l.length t x):=by
  intro k h;unfold A6f;have hne:Akt l l.length k≠[]:=fun e=>by have:=Bba h;grind
  have hin:=Bdt h;rw[Int.toNat_natCast,<-A9b A R,Z4,decide_eq_true_iff,Z44,Bpv hne];constructor
  ·grind [A9c]
  ·rintro⟨a,b⟩;refine⟨by omega,?_⟩
   have:=b _ rfl
   grind [A9c]
 unfold Ba9;rw[Z1];constructor
 ·intro h;have h2: ∀k,Lv l.length t k->A55 l k=true/\A6f l k=true:=by
   intro k hk;obtain⟨a,b⟩:=(A1z A).1 hk;have:=h k.toNat (by grind)
   grind
  exact⟨fun k hk=>(Bc3 A R hk.1).1 (h2 k hk).1,fun k hk=>(key k hk.1).1 (h2 k hk).2,fun k h0 h1 hl=>by
   rw[A _ ⟨h0,h1⟩]at hl ⊢
   grind [A7p]⟩
 ·intro T k hk;rw[List.mem_range]at hk;by_cases e:(gt l (k:Int)).G4=1
  ·have hl:=(A1z A).2 ⟨⟨by omega,by omega⟩,e⟩;rw[(Bc3 A R hl.1).2 (T.link _ hl),(key _ hl.1).2 (T.rise _ hl)];simp
  grind
def Asd (st gen:Int):Az:=Az.mk st gen 0 0 0 0 0 0 [] 0 0 [] []
structure Avn (c:Fi)(n:Az):Prop where
 conf:Aki c=true
 st:n.G4=1
 gen:1<=n.C7/\n.C7<=c.Dv
 up:0<=n.fUp/\n.fUp<=c.Cd
 first:0<=n.Bz/\n.Bz<=c.Cd
 next:0<=n.G6/\n.G6<=c.Cd
 prev:0<=n.G7/\n.G7<=c.Cd
 ep:0<=n.Nb
 ue:0<=n.G5
 dist:Ayu c n.Ad=true
 cur:A8z c n=true
 nth:n.D5.length<=12
 ntag:n.Dh.length<=6
 tags:n.Dh.all (fun x=>inB x 0 255)=true
 things:n.D5.all (At8 c)=true
theorem Akn{c:Fi}{n:Az}:Ava c n=true/\n.G4=1 ↔ Avn c n:=by
 unfold Ava Ba5;constructor
 ·rintro⟨h,h1⟩;rw[h1]at h;simp only[Z4,Wy,bne_self_eq_false,cond_false,Z44,decide_eq_false_iff_not,decide_eq_true_eq]at h;obtain⟨a,_,b,⟨c1,c2,c3,c4⟩,⟨d1,d2⟩,⟨e1,e2⟩,⟨f1,f2⟩,g1,g2⟩:=h;exact⟨a,h1,b,c1,c2,c3,c4,by omega,by omega,e1,e2,by omega,by omega,g1,g2⟩
 ·intro h;refine⟨?_,h.st⟩;rw[h.st];simp only[Z4,Wy,bne_self_eq_false,cond_false,Z44,decide_eq_false_iff_not,decide_eq_true_eq];exact⟨h.conf,by omega,h.gen,⟨h.up,h.first,h.next,h.prev⟩,⟨by have:=h.ep;omega,by have:=h.ue;omega⟩,⟨h.dist,h.cur⟩,⟨by have:=h.nth;omega,by have:=h.ntag;omega⟩,h.tags,h.things⟩
theorem A27{c:Fi}{n:Az}(h:Ava c n=true)(h1:n.G4≠1):n=Asd n.G4 n.C7:=by
 have:=Bcy h h1;unfold A8y at this;simp only[Z4,beq_iff_eq]at this;obtain⟨a1,a2,a3,a4,a5,a6,a7,a8,a9,a10,a11⟩:=this;cases n;simp_all[Asd]
theorem A74{c:Fi}(hc:Aki c=true){st gen:Int}(h0:0<=st/\st<=3)(h1:st≠1)(h2:1<=gen/\gen<=c.Dv):Ava c (Asd st gen)=true:=by
 unfold Ava;rw[hc];show(true&&(inB st 0 3&&(inB gen 1 c.Dv&&(bif st != 1 then A8y (Asd st gen)else _))))=true;rw[A20 h1,Wy.2 h0,Wy.2 h2];rfl
theorem A33{c:Fi}{n:Az}(h:Ava c n=true):Aki c=true/\(0<=n.G4/\n.G4<=3)/\1<=n.C7/\n.C7<=c.Dv:=by
 simp_all[Ava,Wy]
theorem A6w{c:Fi}{n:Az}(h:Ava c n=true):(0<=n.fUp/\n.fUp<=c.Cd)/\(0<=n.Bz/\n.Bz<=c.Cd)/\(0<=n.G6/\n.G6<=c.Cd)/\(0<=n.G7/\n.G7<=c.Cd):=by
 by_cases e:n.G4=1
 ·have:=Akn.1 ⟨h,e⟩;exact⟨this.up,this.first,this.next,this.prev⟩
 ·rw[A27 h e];obtain⟨_,_,b,_⟩:=Bd (A33 h).1;exact⟨⟨Int.le_refl _,by grind [Asd]⟩,⟨Int.le_refl _,by grind [Asd]⟩,⟨Int.le_refl _,by grind [Asd]⟩,⟨Int.le_refl _,by grind [Asd]⟩⟩
theorem Baa{c:Fi}{n:Az}(h:Ava c n=true):Ayu c n.Ad=true:=by
 by_cases e:n.G4=1
 ·exact(Akn.1 ⟨h,e⟩).dist
 ·rw[A27 h e];rfl
def A17 (q:List Bb):List (Int×Int):=q.map (fun x=>(x.Be,x.Bz))
structure Inv (w:Bo):Prop where
 pool:Aw2 w.fC w.fP=true
 len:(w.fL.length:Int)=w.fC.Cd
 node: ∀k,0<=k/\k<(w.fL.length:Int)->Ava w.fC (gt w.fL k)=true
 own: ∀k,0<=k/\k<(w.fL.length:Int)-> ∀c,c∈(gt w.fL k).Ad ↔ (0<=c/\c<w.fC.Ad)/\gt w.fP.G4 c=1/\gt w.fP.Fq c=k
 thing: ∀k,0<=k/\k<(w.fL.length:Int)->(gt w.fL k).D5.all (Av4 w.fC (gt w.fL k).Ad)=true/\At0 (gt w.fL k).D5=true/\Av6 w.fC w.fP.Fp (gt w.fL k)=true
 forest: ∃t,AtT w.fL t/\Air w.fL.length t (A17 w.fQ)
 wrec: ∀x∈w.fQ,Aoz w.fC x=true/\Arz w x=true
 chn:(chL w.fQ).Nodup
 chi: ∀c,c∈chL w.fQ ↔ (0<=c/\c<w.fC.Ad)/\gt w.fP.G4 c=2
 sln:(slL w.fQ).Nodup
 sli: ∀s,s∈slL w.fQ ↔ (0<=s/\s<(w.fL.length:Int))/\(gt w.fL s).G4=2
 log:w.Jp.all (fun x=>inB x 0 255)=true
theorem Inv.conf{w:Bo}(I:Inv w):Aki w.fC=true:=(Avt I.pool).1
theorem Inv.rg{w:Bo}(I:Inv w):Rg w.fL:=by
 obtain⟨_,_,b,_⟩:=Bd I.conf;have:=I.len;refine⟨by omega,fun k hk=> ?_⟩;rw[I.len];exact A6w (I.node k hk)
theorem Inv.live{w:Bo}(I:Inv w){t:Int->Lk}(A:AtT w.fL t){k:Int}(h:Lv w.fL.length t k):Avn w.fC (gt w.fL k):=Akn.1 ⟨I.node k ((A1z A).1 h).1,((A1z A).1 h).2⟩
theorem Beg{N:Nat}{l:List Int}(hn:l.Nodup){k:Nat}(hk:k<N)(h:(k:Int)∈l):(gt (Apb N l) (k:Int)==1)=true:=by
 simp_all[A5r,List.Nodup.count]
theorem Inv.chunks{w:Bo}(I:Inv w){k:Int}(hk:0<=k/\k<(w.fL.length:Int)):A5p w.fP k (gt w.fL k).Ad=true:=by
 obtain⟨_,_,hst,hown,_⟩:=Avt I.pool;have hd:=A3f (Baa (I.node k hk));have hs:=(A53 w.fP k).imp (fun {a b} (h:a<b)=>Int.ne_of_lt h);have hm: ∀x,x∈Ay4 w.fP k ↔ x∈(gt w.fL k).Ad:=by
  intro x;rw[I.own k hk x];unfold Ay4;rw[A00]
  grind
 unfold A5p;rw[Z4,Z1,beq_iff_eq];refine⟨fun x hx=>List.contains_iff_mem.2 ((hm x).1 hx),?_⟩;have h1:=A3g (o:=Ay4 w.fP k) (l:=(gt w.fL k).Ad) hs (fun x hx=>(hm x).1 hx);have h2:=A3g (o:=(gt w.fL k).Ad) (l:=Ay4 w.fP k) hd (fun x hx=>(hm x).2 hx);omega
theorem Beh{q:List Bb}{x:Bb}(hx:x∈q){c:Int}(h:c∈x.Ad):c∈chL q:=List.mem_flatMap.2 ⟨x,hx,h⟩
theorem Bjk{q:List Bb}{x:Bb}(hx:x∈q)(h:x.Be≠0):Ap x.Be 1∈slL q:=List.mem_flatMap.2 ⟨x,hx,by grind⟩
theorem Inv.first{w:Bo}(I:Inv w){x:Bb}(hx:x∈w.fQ):0<=x.Bz/\x.Bz<=8:=by
 obtain⟨_,_,b,_⟩:=Bd I.conf;have:=(Avg (I.wrec x hx).1).2.2.1;omega
theorem Inv.qs{w:Bo}{x:Bb}(hx:x∈w.fQ):x.Bz∈(A17 w.fQ).map (fun e:Int×Int=>e.2):=by
 unfold A17
 grind
theorem Inv.waste{w:Bo}(I:Inv w){x:Bb}(hx:x∈w.fQ):Apc w x=true:=by
 obtain⟨b1,_,b,_⟩:=Bd I.conf;obtain⟨h1,h2⟩:=I.wrec x hx;obtain⟨_,r1,r2,r3,_⟩:=Avg h1;have hf:=I.first hx;obtain⟨t,A,F⟩:=I.forest;unfold Apc;simp only[Z4];refine⟨h1,?_,h2,?_,?_,?_⟩
 ·unfold A6r;rw[Z1];intro c hc;rw[beq_iff_eq];exact((I.chi c).1 (Beh hx hc)).2
 ·unfold A0z;by_cases e:x.Be=0
  ·grind
  ·rw[((I.sli _).1 (Bjk hx e)).2];simp
 ·unfold A22;by_cases e:x.Bz=0
  ·grind
  ·obtain⟨a,b⟩:=F.kid.top _ (Inv.qs hx) e;rw[sb1 (by omega) (by omega)];rw[A _ a]at b;have b:(gt w.fL (x.Bz - 1)).G7=0:=b
   grind
 ·unfold Aw6;rw[Z1];intro k hk;have hin:=A83 _ _ k hk;rw[Bef A I.rg hf.1 (by omega)]at hk;exact(Bf5 A I.rg hin).2 (F.kid.or (Inv.qs hx) hk)
theorem Bjl{w:Bo}(I:Inv w){t:Int->Lk}(A:AtT w.fL t):kdL w.fL w.fQ=((A17 w.fQ).map (fun e:Int×Int=>e.2)).flatMap (kf w.fL.length t):=by
 unfold kdL A17;rw[Ej,List.flatMap_map];exact Az0 fun x hx=>by
  have hf:=I.first hx;exact Bef A I.rg hf.1 (by omega)
theorem Inv.fin{w:Bo}(I:Inv w):A1x w w.fC.Ad.toNat=true:=by
 obtain⟨_,_,hst,hown,_⟩:=Avt I.pool;obtain⟨t,A,F⟩:=I.forest;unfold A1x;rw[Z4,Z1,Z1];refine⟨fun k hk=> ?_,fun k hk=> ?_⟩
 ·rw[List.mem_range]at hk;cases e:(gt w.fP.G4 (k:Int)==2)with
  |false=>rfl
  |true=>exact Beg I.chn (by omega) ((I.chi _).2 ⟨⟨by omega,by omega⟩,by grind⟩)
 ·rw[List.mem_range]at hk;rw[Z4];constructor
  ·cases e:((gt w.fL (k:Int)).G4==2)with
   |false=>rfl
   |true=>simp_all[Beg,sln,sli]
  ·cases e:A3b w.fL (k:Int)with
   |false=>rfl
   |true=>
    refine Beg (by rw[Bjl I A];exact F.kid.nodup) hk ?_;rw[Bjl I A,F.kid.iff];exact(Bf5 A I.rg ⟨by omega,by omega⟩).1 e
theorem Inv.ok{w:Bo}(I:Inv w):A3h w=true:=by
 obtain⟨t,A,F⟩:=I.forest;unfold A3h;simp only[Z4,beq_iff_eq];refine⟨I.pool,I.len,?_,?_,⟨?_,I.fin⟩,I.log⟩
 ·rw[Z1];intro k hk;rw[List.mem_range]at hk;have hk2:0<=(k:Int)/\(k:Int)<(w.fL.length:Int):=⟨by omega,by omega⟩
  grind [thing,A81,node,chunks]
 ·refine(Bpw A I.rg fun k hk h=> ?_).2 F.tree;rw[A27 (I.node k hk) h];exact⟨rfl,rfl,rfl,rfl⟩
 grind [waste]
def lnk (n:Az)(fi nx pv:Int):Az:=Az.mk n.G4 n.C7 n.Nb n.fUp n.G5 fi nx pv n.Ad n.No n.G8 n.D5 n.Dh
theorem Auu{l:List Az}{j x:Int}(hj:0<=j/\j<(l.length:Int))(hx:0<=x/\x<(l.length:Int))(v:Az):gt (l.set j.toNat v) x=if x=j then v else gt l x:=by
 by_cases e:x=j
 all_goals simp_all[A4v,A5t,Ne.symm]
theorem Bf6{l:List Az}{n:Int}(h0:0<=n)(h1:n<=l.length)(h2:l.length<=8):plB l n= !(n==0):=by
 have:=A6v (l:=l) h0 (by omega:n<=1000)
 grind
theorem Baw{l:List Az}(R:Rg l){k x:Int}(hk:0<=k/\k<(l.length:Int))(hx:0<=x/\x<(l.length:Int)):
  gt (A88 l k) x=lnk (gt l x) (if(gt l k).G7=0/\x+1=(gt l k).fUp/\(gt l x).Bz=k+1 then(gt l k).G6 else(gt l x).Bz) (if x+1=(gt l k).G7 then(gt l k).G6 else(gt l x).G6) (gt l x).G7:=by
 obtain⟨r1,r2,r3,r4⟩:=R.rg k hk;have hl:=R.len;unfold A88;rw[Bf6 r4.1 r4.2 hl,Bf6 r1.1 r1.2 hl,sb1 (x:=(gt l k).G7) (by omega) (by omega),sb1 (x:=(gt l k).fUp) (by omega) (by omega),ad1 (by omega) (by omega)];by_cases h:(gt l k).G7=0
 ·rw[h];simp only[beq_self_eq_true,Bool.not_true,cond_false,Z30];rw[if_neg (by omega: ¬x+1=0)];by_cases h2:(gt l k).fUp=0
  ·rw[h2,if_neg (by omega)];rfl
  ·rw[At6 h2];simp only[Bool.not_false,Z30];by_cases h3:(gt l ((gt l k).fUp - 1)).Bz=k+1
   ·rw[h3,beq_self_eq_true,cond_true,Auu (by omega) hx];by_cases e:x=(gt l k).fUp - 1
    ·rw[if_pos e,e,h3,if_pos ⟨trivial,by omega,rfl⟩];rfl
    ·rw[if_neg e,if_neg (by omega)];rfl
   ·rw[At6 h3,cond_false,if_neg]
    ·rfl
    grind
 ·rw[At6 h];simp only[Bool.not_false,cond_true];rw[Auu (by omega) hx,if_neg (fun q:(gt l k).G7=0/\x+1=(gt l k).fUp/\(gt l x).Bz=k+1=>h q.1)];by_cases e:x=(gt l k).G7 - 1
  ·have e2:x+1=(gt l k).G7:=by omega
   rw[if_pos e,if_pos e2,<-e];rfl
  ·have e2: ¬x+1=(gt l k).G7:=by omega
   rw[if_neg e,if_neg e2];rfl
theorem A6x{l:List Az}(R:Rg l){k x:Int}(hk:0<=k/\k<(l.length:Int))(hx:0<=x/\x<(l.length:Int))(hne:x≠k):
  gt (Aup l k) x=lnk (gt l x) (if(gt l k).G7=0/\x+1=(gt l k).fUp/\(gt l x).Bz=k+1 then(gt l k).G6 else(gt l x).Bz) (if x+1=(gt l k).G7 then(gt l k).G6 else(gt l x).G6) (if x+1=(gt l k).G6 then(gt l k).G7 else(gt l x).G7):=by
 obtain⟨r1,r2,r3,r4⟩:=R.rg k hk;have hl:=R.len;have hl0:=A6h l k;unfold Aup A8o;rw[Auu (by grind [A7m]) (by grind [A7m]),if_neg hne];unfold A9q;rw[Bf6 r3.1 r3.2 hl,sb1 (by omega) (by omega)];by_cases h:(gt l k).G6=0
 ·rw[h];simp only[beq_self_eq_true,Bool.not_true,cond_false];rw[Baw R hk hx,h,if_neg (by omega: ¬x+1=0)]
 ·rw[At6 h];simp only[Bool.not_false,cond_true];rw[Auu (by omega) (by omega)];by_cases e:x=(gt l k).G6 - 1
  ·have e2:x+1=(gt l k).G6:=by omega
   rw[if_pos e,if_pos e2,<-e,Baw R hk hx];rfl
  ·have e2: ¬x+1=(gt l k).G6:=by omega
   simp_all[Baw]
theorem A4w (l:List Az)(k:Int):(Aup l k).length=l.length:=by grind [Aup,A8o,A7m,A6h]
theorem Bbo{c:Fi}{n:Az}(X:Avn c n){fi nx pv:Int}(h1:0<=fi/\fi<=c.Cd)(h2:0<=nx/\nx<=c.Cd)(h3:0<=pv/\pv<=c.Cd):Avn c (lnk n fi nx pv):=
 ⟨X.conf,X.st,X.gen,X.up,h1,h2,h3,X.ep,X.ue,X.dist,X.cur,X.nth,X.ntag,X.tags,X.things⟩
theorem Byo{l:List Az}{t:Int->Lk}(A:AtT l t)(R:Rg l){k:Int}(hk:0<=k/\k<(l.length:Int))(g:Int):AtT ((Aup l k).set k.toNat (Asd 2 g)) (rem t k):=by
 intro x hx;rw[Z49,A4w]at hx;rw[Auu (by grind [A4w]) (by grind [A4w])];by_cases e:x=k
 ·subst e;rw[A89,if_pos rfl];rfl
 ·rw[Ao0 e,if_neg e,A6x R hk hx e,A x hx,A k hk];rfl
theorem A6j{l:List Int}{j x:Int}(hj:0<=j)(hx:0<=x/\x<(l.length:Int))(v:Int):gt (l.set j.toNat v) x=if x=j then v else gt l x:=by
 have h1:x.toNat<(l.set j.toNat v).length:=by grind
 have h2:x.toNat<l.length:=by omega
 have e1:gt (l.set j.toNat v) ((x.toNat:Nat):Int)=if x=j then v else gt l ((x.toNat:Nat):Int):=by
  rw[Wx h1,Wx h2,List.getElem_set];omega
 grind
structure A5w (c:Fi)(p:Ef):Prop where
 conf:Aki c=true
 mem:(p.Fp.length:Int)=c.Ad*c.Du
 st:(p.G4.length:Int)=c.Ad
 own:(p.Fq.length:Int)=c.Ad
 one: ∀k,0<=k/\k<c.Ad->(0<=gt p.G4 k/\gt p.G4 k<=2)/\(gt p.G4 k=1->0<=gt p.Fq k/\gt p.Fq k<c.Cd)/\(gt p.G4 k≠1->gt p.Fq k= -1)/\(gt p.G4 k=0->Ary (Aw1 c p.Fp k)=true)
theorem Bjm{c:Fi}{p:Ef}{k:Nat}:A5o c p k=true ↔ (0<=gt p.G4 (k:Int)/\gt p.G4 (k:Int)<=2)/\(gt p.G4 (k:Int)=1->0<=gt p.Fq (k:Int)/\gt p.Fq (k:Int)<c.Cd)/\(gt p.G4 (k:Int)≠1->gt p.Fq (k:Int)= -1)/\(gt p.G4 (k:Int)=0->Ary (Aw1 c p.Fp k)=true):=by
 unfold A5o;rw[Z4,Z4,Wy];refine and_congr Iff.rfl ?_;by_cases e:gt p.G4 (k:Int)=1
 ·rw[e];simp only[beq_self_eq_true,cond_true,Wy]
  grind
 grind
theorem Akj{c:Fi}{p:Ef}:Aw2 c p=true ↔ A5w c p:=by
 constructor
 ·intro h;obtain⟨h1,h2,h3,h4,h5⟩:=Avt h;refine⟨h1,h2,h3,h4,fun k hk=> ?_⟩;have:=Bjm.1 (h5 k.toNat (by omega))
  grind
 ·intro h;obtain⟨b1,_⟩:=Bd h.conf;unfold Aw2;simp only[Z4,beq_iff_eq,Z1,List.mem_range];refine⟨h.conf,by grind [A5w.mem,Aoy,A5w.conf],h.st,h.own,fun k hk=> ?_⟩;exact Bjm.2 (h.one k (by omega))
theorem Blg (cs:List Int): ∀(p:Ef),p.Fq.length=p.G4.length->(Ah0 p cs).Fp=p.Fp/\(Ah0 p cs).G4.length=p.G4.length/\(Ah0 p cs).Fq.length=p.Fq.length/\ ∀c,0<=c/\c<(p.G4.length:Int)->
  gt (Ah0 p cs).G4 c=(if c∈cs/\gt p.G4 c=1 then 2 else gt p.G4 c)/\gt (Ah0 p cs).Fq c=(if c∈cs/\gt p.G4 c=1 then -1 else gt p.Fq c):=by
 induction cs with
 |nil=>simp_all[Ah0]
 |cons k cs ih=>
  intro p hl;have h1:(A5g p k).Fp=p.Fp/\(A5g p k).G4.length=p.G4.length/\(A5g p k).Fq.length=p.Fq.length:=by
   grind [A5g]
  obtain⟨a,b,c,d⟩:=ih (A5g p k) (by omega);refine⟨a.trans h1.1,b.trans h1.2.1,c.trans h1.2.2,fun x hx=> ?_⟩;obtain⟨d1,d2⟩:=d x (by omega);have e1:gt (A5g p k).G4 x=if x=k/\gt p.G4 x=1 then 2 else gt p.G4 x:=by
   unfold A5g;by_cases q:(0<=k/\k<(p.G4.length:Int)/\k<(p.Fq.length:Int))/\gt p.G4 k=1
   ·rw[if_pos q];simp only;rw[A6j q.1.1 hx]
    grind
   grind
  have e2:gt (A5g p k).Fq x=if x=k/\gt p.G4 x=1 then -1 else gt p.Fq x:=by
   unfold A5g;by_cases q:(0<=k/\k<(p.G4.length:Int)/\k<(p.Fq.length:Int))/\gt p.G4 k=1
   ·rw[if_pos q];simp only;rw[A6j q.1.1 (by omega)]
    grind
   grind
  show gt (Ah0 (A5g p k) cs).G4 x=_/\gt (Ah0 (A5g p k) cs).Fq x=_;rw[d1,d2,e1,e2];by_cases q:gt p.G4 x=1
  ·by_cases e:x=k
   ·subst e;simp[q]
   ·simp[q,e]
  ·simp[q]
theorem A5x{w:Bo}(I:Inv w){k:Int}(hk:0<=k/\k<(w.fL.length:Int)):
  A5w w.fC (Ah0 w.fP (gt w.fL k).Ad)/\(Ah0 w.fP (gt w.fL k).Ad).Fp=w.fP.Fp/\
  ∀c,0<=c/\c<w.fC.Ad->gt (Ah0 w.fP (gt w.fL k).Ad).G4 c=(if c∈(gt w.fL k).Ad then 2 else gt w.fP.G4 c)/\gt (Ah0 w.fP (gt w.fL k).Ad).Fq c=(if c∈(gt w.fL k).Ad then -1 else gt w.fP.Fq c):=by
 have P:=Akj.1 I.pool;obtain⟨a,b,c,d⟩:=Blg (gt w.fL k).Ad w.fP (by have:=P.st;have:=P.own;omega);have key: ∀c,0<=c/\c<w.fC.Ad->gt (Ah0 w.fP (gt w.fL k).Ad).G4 c=(if c∈(gt w.fL k).Ad then 2 else gt w.fP.G4 c)/\gt (Ah0 w.fP (gt w.fL k).Ad).Fq c=(if c∈(gt w.fL k).Ad then -1 else gt w.fP.Fq c):=by
  intro x hx;obtain⟨d1,d2⟩:=d x (by rw[P.st];exact hx);rw[d1,d2];by_cases e:x∈(gt w.fL k).Ad
  ·have:=((I.own k hk x).1 e).2.1
   grind
  grind
 refine⟨⟨P.conf,by rw[a];exact P.mem,by rw[b];exact P.st,by rw[c];exact P.own,fun x hx=> ?_⟩,a,key⟩;obtain⟨k1,k2⟩:=key x hx;obtain⟨p1,p2,p3,p4⟩:=P.one x hx
 grind
theorem Bax (q:List Bb)(x:Bb):chL (q++[x])=chL q++x.Ad:=by grind [chL]
theorem Bay (q:List Bb)(x:Bb):slL (q++[x])=slL q++(if x.Be=0 then []else [Ap x.Be 1]):=by grind [slL]
theorem Bf7 (q:List Bb)(x:Bb):A17 (q++[x])=A17 q++[(x.Be,x.Bz)]:=by simp[A17]
theorem A7q{c:Fi}{n:Az}(h:Avn c n){s:Int}(hs:0<=s/\s<=c.Cd):Aoz c (Aio n s)=true:=by
 obtain⟨_,b,_⟩:=Bd h.conf;unfold Aoz Aio;simp only[Z4,Wy,decide_eq_true_eq,Bool.or_eq_true,beq_iff_eq];exact⟨h.conf,hs,h.first,by have:=h.ntag;omega,h.tags,h.dist,by omega,.inr trivial⟩
theorem Bbp (w:Bo)(n:Az)(s:Int):Arz w (Aio n s)=true:=by
 unfold Arz Aio Ary;simp
theorem Bei{w:Bo}(I:Inv w){k:Int}(hk:0<=k/\k<(w.fL.length:Int)):(chL w.fQ++(gt w.fL k).Ad).Nodup:=
 Apl.2 ⟨I.chn,A3f (Baa (I.node k hk)),fun x h1 h2=>by simp_all[Inv.chi,Inv.own]⟩
theorem Bej{w:Bo}(I:Inv w){k:Int}(hk:0<=k/\k<(w.fL.length:Int))(c:Int):c∈chL w.fQ++(gt w.fL k).Ad ↔ (0<=c/\c<w.fC.Ad)/\gt (Ah0 w.fP (gt w.fL k).Ad).G4 c=2:=by
 rw[N0,I.chi];constructor
 ·rintro(⟨a,b⟩|h)
  all_goals simp_all[A5x,Inv.own]
 ·rintro⟨a,b⟩;rw[((A5x I hk).2.2 c a).1]at b
  grind
theorem Blh{w:Bo}(I:Inv w){t:Int->Lk}(A:AtT w.fL t)(F:Air w.fL.length t (A17 w.fQ)){k:Int}(h:Al w.fL.length t k):Inv (A26 w k):=by
 have hl:=h.lv;have hk:=hl.1;have P:=I.live A hl;have R:=I.rg;obtain⟨L1,L2,L3⟩:=A5x I hk;obtain⟨_,_,b3,_⟩:=Bd I.conf;have hlen:=I.len;have e1:A1 k 1=k+1:=ad1 (by omega) (by omega);have hN:(A26 w k).fL.length=w.fL.length:=by grind [A26,A4w]
 have hg: ∀x,0<=x/\x<(w.fL.length:Int)->gt (A26 w k).fL x=if x=k then Asd 2 (gt (Aup w.fL k) k).C7 else gt (Aup w.fL k) x:=fun x hx=>by
  unfold A26;simp only;rw[Auu (by grind [A4w]) (by grind [A4w])];rfl
 have hgen:(gt (Aup w.fL k) k).C7=(gt w.fL k).C7:=by
  unfold Aup A8o;rw[A4v (by grind [A7m,A6h])];show(gt (A9q w.fL (A88 w.fL k) k _ _) k).C7=_;unfold A9q;have h0:(gt (A88 w.fL k) k).C7=(gt w.fL k).C7:=by rw[Baw R hk hk];rfl
  obtain⟨_,_,r3,_⟩:=R.rg k hk;have hl8:=R.len;rw[Bf6 r3.1 r3.2 hl8,sb1 (by omega) (by omega)];by_cases e:(gt w.fL k).G6=0
  ·grind
  ·rw[At6 e];simp only[Bool.not_false,cond_true];rw[Auu (by rw[A6h];omega) (by grind [A6h])];split
   ·rename_i e2;rw[<-e2];exact h0
   omega
 refine⟨Akj.2 L1,by rw[hN];exact hlen,fun x hx=> ?_,fun x hx c=> ?_,fun x hx=> ?_,⟨rem t k,?_,?_⟩,fun x hx=> ?_,?_,fun c=> ?_,?_,fun s=> ?_,I.log⟩
 ·rw[hN]at hx;rw[hg x hx];by_cases e:x=k
  ·rw[if_pos e,hgen];exact A74 I.conf (by omega) (by omega) P.gen
  ·rw[if_neg e,A6x R hk hx e];by_cases hs:(gt w.fL x).G4=1
   ·have X:=Akn.1 ⟨I.node x hx,hs⟩;obtain⟨a1,a2,a3,a4⟩:=A6w (I.node k hk);refine(Akn.2 (Bbo X ?_ ?_ ?_)).1
    ·split
     ·exact a3
     ·exact X.first
    ·split
     ·exact a3
     ·exact X.next
    ·split
     ·exact a4
     ·exact X.prev
   ·have X:=A27 (I.node x hx) hs;have B:=(Bbh F.tree hl).bare x hx.1 hx.2 (by rw[Ao0 e,A x hx];grind [A7p]);rw[Ao0 e,A x hx,A k hk]at B;obtain⟨_,B2,B3,B4⟩:=B;have q1:(if(gt w.fL k).G7=0/\x+1=(gt w.fL k).fUp/\(gt w.fL x).Bz=k+1 then(gt w.fL k).G6 else(gt w.fL x).Bz)=0:=B2;have q2:(if x+1=(gt w.fL k).G7 then(gt w.fL k).G6 else(gt w.fL x).G6)=0:=B3;have q3:(if x+1=(gt w.fL k).G6 then(gt w.fL k).G7 else(gt w.fL x).G7)=0:=B4;have this:lnk (gt w.fL x) 0 0 0=gt w.fL x:=by rw[X];rfl
    rw[q1,q2,q3];rw[this];exact I.node x hx
 ·rw[hN]at hx;rw[hg x hx];show c∈_ ↔ (0<=c/\c<w.fC.Ad)/\gt (Ah0 w.fP (gt w.fL k).Ad).G4 c=1/\gt (Ah0 w.fP (gt w.fL k).Ad).Fq c=x;by_cases e:x=k
  ·rw[if_pos e];constructor
   ·intro q;cases q
   ·rintro⟨a,b,d⟩;rw[(L3 c a).1]at b;rw[(L3 c a).2]at d;split at b
    all_goals simp_all[Inv.own]
  ·rw[if_neg e,A6x R hk hx e];show c∈(gt w.fL x).Ad ↔ _;rw[I.own x hx c];constructor
   ·rintro⟨a,b,d⟩
    have q:c ∉ (gt w.fL k).Ad:=fun q=>e (by have:=((I.own k hk c).1 q).2.2;omega)
    grind
   grind
 ·rw[hN]at hx;rw[hg x hx];by_cases e:x=k
  ·rw[if_pos e];exact⟨rfl,rfl,rfl⟩
  ·rw[if_neg e,A6x R hk hx e];obtain⟨t1,t2,t3⟩:=I.thing x hx;refine⟨t1,t2,?_⟩;show Av6 w.fC (Ah0 w.fP (gt w.fL k).Ad).Fp _=true;rw[L2];exact t3
 ·exact Byo A R hk _
 ·show Air ((A26 w k).fL.length:Int) _ (A17 (w.fQ++[_]));rw[hN,Bf7,e1];have:=Bea F h;rw[A k hk]at this;exact this
 ·have hx:x∈w.fQ++[Aio (gt w.fL k) (A1 k 1)]:=hx;show Aoz w.fC x=true/\_;rcases N0.1 hx with hx|hx
  ·obtain⟨a,b⟩:=I.wrec x hx;refine⟨a,?_⟩;unfold Arz at b ⊢;show(_||Ary (((Ah0 w.fP (gt w.fL k).Ad).Fp.drop (gt x.Ad 0*w.fC.Du).toNat).take x.H2.toNat))=true
   grind
  ·rw[S9.1 hx,e1]
   grind [A7q,Bbp]
 ·show(chL (w.fQ++[_])).Nodup;rw[Bax];exact Bei I hk
 ·show c∈chL (w.fQ++[_]) ↔ _;rw[Bax];exact Bej I hk c
 ·show(slL (w.fQ++[Aio (gt w.fL k) (A1 k 1)])).Nodup;rw[Bay,e1];show(slL w.fQ++(if k+1=0 then []else [Ap (k+1) 1])).Nodup;rw[if_neg (by omega),sb1 (by omega) (by omega),Int.add_sub_cancel];exact Apl.2 ⟨I.sln,by simp,fun x h1 h2=>by rw[S9]at h2;subst h2;have:=((I.sli x).1 h1).2;have:=P.st;omega⟩
 ·show s∈slL (w.fQ++[Aio (gt w.fL k) (A1 k 1)]) ↔ _;rw[Bay,e1,hN];show s∈slL w.fQ++(if k+1=0 then []else [Ap (k+1) 1]) ↔ _;rw[if_neg (by omega),sb1 (by omega) (by omega),Int.add_sub_cancel,N0,S9,I.sli];constructor
  ·rintro(⟨a,b⟩|a)
   ·refine⟨a,?_⟩;have e:s≠k:=fun e=>by grind [Avn.st]
    rw[hg s a,if_neg e,A6x R hk a e];exact b
   ·rw[a,hg k hk,if_pos rfl];exact⟨hk,rfl⟩
  ·rintro⟨a,b⟩
   by_cases e:s=k
   ·omega
   ·rw[hg s a,if_neg e,A6x R hk a e]at b;exact .inl ⟨a,b⟩
theorem Byp{l:List Az}{t:Int->Lk}(A:AtT l t){k:Int}(hk:0<=k/\k<(l.length:Int))(h0:0<=(gt l k).Nb)(h1:(gt l k).Nb<=1000000000):AtT (l.set k.toNat (Azz (gt l k))) (emp t k):=by
 intro x hx;rw[Z49]at hx;rw[Auu hk hx];by_cases e:x=k
 ·subst e;rw[Bc2,if_pos rfl,A x hx]
  grind [Azz,A7p,ad1]
 ·rw[A99 e,if_neg e,A x hx]
theorem Bli{w:Bo}(I:Inv w){t:Int->Lk}(A:AtT w.fL t)(F:Air w.fL.length t (A17 w.fQ)){k:Int}(h:Al w.fL.length t k)(hE:(gt w.fL k).Nb<=1000000000):Inv (A4c w k):=by
 have hl:=h.lv;have hk:=hl.1;have P:=I.live A hl;obtain⟨L1,L2,L3⟩:=A5x I hk;have hN:(A4c w k).fL.length=w.fL.length:=by grind [A4c]
 have hg: ∀x,0<=x/\x<(w.fL.length:Int)->gt (A4c w k).fL x=if x=k then Azz (gt w.fL k)else gt w.fL x:=fun x hx=>Auu hk hx _
 obtain⟨_,b2,b3,_⟩:=Bd I.conf;refine⟨Akj.2 L1,by rw[hN];exact I.len,fun x hx=> ?_,fun x hx c=> ?_,fun x hx=> ?_,⟨emp t k,?_,?_⟩,fun x hx=> ?_,?_,fun c=> ?_,?_,fun s=> ?_,I.log⟩
 ·rw[hN]at hx;rw[hg x hx];show Ava w.fC _=true;by_cases e:x=k
  ·rw[if_pos e];exact((Akn (n:=Azz (gt w.fL k))).2 ⟨P.conf,P.st,P.gen,P.up,⟨Int.le_refl _,by show(0:Int)<=_;omega⟩,P.next,P.prev,by show 0<=A1 _ 1;rw[ad1 (by have:=P.ep;omega) hE];have:=P.ep;omega,P.ue,rfl,rfl,Z21 _,Z21 _,rfl,rfl⟩).1
  simp_all[Inv.node]
 ·rw[hN]at hx;rw[hg x hx];show c∈_ ↔ (0<=c/\c<w.fC.Ad)/\gt (Ah0 w.fP (gt w.fL k).Ad).G4 c=1/\gt (Ah0 w.fP (gt w.fL k).Ad).Fq c=x;by_cases e:x=k
  ·rw[if_pos e];constructor
   ·intro q;cases q
   ·rintro⟨a,b,d⟩;rw[(L3 c a).1]at b;rw[(L3 c a).2]at d;split at b
    all_goals simp_all[Inv.own]
  ·rw[if_neg e,I.own x hx c];constructor
   ·rintro⟨a,b,d⟩
    have q:c ∉ (gt w.fL k).Ad:=fun q=>e (by have:=((I.own k hk c).1 q).2.2;omega)
    grind
   grind
 ·rw[hN]at hx;rw[hg x hx];by_cases e:x=k
  ·rw[if_pos e];exact⟨rfl,rfl,rfl⟩
  ·rw[if_neg e];obtain⟨t1,t2,t3⟩:=I.thing x hx;refine⟨t1,t2,?_⟩;show Av6 w.fC (Ah0 w.fP (gt w.fL k).Ad).Fp _=true
   grind
 ·exact Byp A hk P.ep hE
 ·show Air ((A4c w k).fL.length:Int) _ (A17 (w.fQ++[_]));rw[hN,Bf7];have:=Beb F h;rw[A k hk]at this;exact this
 ·have hx:x∈w.fQ++[Aio (gt w.fL k) 0]:=hx;show Aoz w.fC x=true/\_;rcases N0.1 hx with hx|hx
  ·obtain⟨a,b⟩:=I.wrec x hx;refine⟨a,?_⟩;unfold Arz at b ⊢;show(_||Ary (((Ah0 w.fP (gt w.fL k).Ad).Fp.drop (gt x.Ad 0*w.fC.Du).toNat).take x.H2.toNat))=true
   grind
  ·rw[S9.1 hx]
   grind [A7q,Bbp]
 ·show(chL (w.fQ++[_])).Nodup;rw[Bax];exact Bei I hk
 ·show c∈chL (w.fQ++[_]) ↔ _;rw[Bax];exact Bej I hk c
 ·show(slL (w.fQ++[Aio (gt w.fL k) 0])).Nodup;rw[Bay];show(slL w.fQ++(if(0:Int)=0 then []else [Ap 0 1])).Nodup;simp_all[Inv.sln]
 ·show s∈slL (w.fQ++[Aio (gt w.fL k) 0]) ↔ _;rw[Bay,hN];show s∈slL w.fQ++(if(0:Int)=0 then []else [Ap 0 1]) ↔ _;rw[if_pos rfl,List.append_nil,I.sli];refine and_congr_right fun a=> ?_;rw[hg s a]
  by_cases e:s=k
  ·rw[if_pos e,e,P.st];show _ ↔ (gt w.fL k).G4=2;rw[P.st]
  grind
def wtN (c:Fi)(n:Az):Nat:=if n.G4=1 then 2+n.Dh.length+c.Du.toNat*n.Ad.length else 0
def wtQ (c:Fi)(x:Bb):Nat:=1+x.Dh.length+(c.Du.toNat*x.Ad.length - x.H2.toNat)
def pot (w:Bo):Nat:=(w.fL.map (wtN w.fC)).sum+(w.fQ.map (wtQ w.fC)).sum
def wt (w:Bo):Nat:=pot w+w.Jp.length
def lvN (n:Az):Nat:=if n.G4=1 then 1 else 0
def cnt (w:Bo):Nat:=(w.fL.map lvN).sum+w.fQ.length
structure EpP (E:Int)(n:Az):Prop where
 ep:n.Nb<=E
 ue:n.G5<=E
 cur:0<=n.No/\n.No<=1000
structure Ev (w:Bo)(E:Int)(n:Nat):Prop where
 inv:Inv w
 mem: ∀x∈w.fP.Fp,0<=x/\x<=255
 ep: ∀k,0<=k/\k<(w.fL.length:Int)->EpP E (gt w.fL k)
 wt:wt w<=n
 cn:(cnt w:Int)<=E
theorem Byq{α:Type}(f:α->Nat)(l:List α)(h: ∀x∈l,1<=f x):l.length<=(l.map f).sum:=by
 induction l with
 |nil=>simp
 |cons x l ih=>
  grind
theorem Bpx (w:Bo):w.fQ.length<=wt w:=by
 have:=Byq (wtQ w.fC) w.fQ fun x _=>by grind [wtQ]
 unfold wt pot;omega
theorem Bek (w:Bo):w.Jp.length<=wt w:=by grind [wt]
theorem Gx{x:Int}(h0: -1000000000<=x)(h1:x<=1000000000):wfi x:=⟨by omega,by omega⟩
theorem Bel{c:Fi}{t:Bn}(h:At8 c t=true):ThingW t:=by
 have hs:=(A6a h).1;have hin:=(A6a h).2;obtain⟨_,b2,_⟩:=Bd hin.1;obtain⟨s1,s2,s3,s4⟩:=hs;refine⟨Gx (by omega) (by omega),Gx (by omega) (by omega),?_⟩;unfold At8 at h;rw[Z4]at h;by_cases e:t.Yh=0
 ·grind [Gx]
 ·have h:=h.2;rw[At6 e]at h;simp only[cond_false,Z4,beq_iff_eq]at h;rw[h.2.1];unfold Ax7;have h3:(t.Yg+c.Du - 1) / c.Du<=t.Yg+c.Du - 1:=Int.ediv_le_self _ (by omega);have h4:0<=(t.Yg+c.Du - 1) / c.Du:=Int.ediv_nonneg (by omega) (by omega);cases (inB t.Yg 0 1000000000&&inB c.Du 1 1000000000)with
  |false=>simp_all[Gx]
  |true=>exact Gx (by grind) (by grind)
theorem Az2{l:List Int}(h: ∀x∈l,-1000000000<=x/\x<=1000000000)(hl:l.length<=1000000000):A30 l:=⟨fun x hx=>Gx (h x hx).1 (h x hx).2,by omega⟩
theorem Bpy{c:Fi}(h:Aki c=true):ConfW c:=by
 obtain⟨b1,b2,b3,b4,b5,b6⟩:=Bd h;exact⟨Gx (by omega) (by omega),Gx (by omega) (by omega),Gx (by omega) (by omega),Gx (by omega) (by omega),Gx (by omega) (by omega),Gx (by omega) (by omega)⟩
theorem Bbq{l:List Int}(h:l.all (fun x=>inB x 0 255)=true): ∀x∈l,0<=x/\x<=255:=fun x hx=>Wy.1 (Z1.1 h x hx)
theorem A6y{c:Fi}{n:Az}{E:Int}(h:Ava c n=true)(e:EpP E n)(hE:E<=1000000000):At7 n:=by
 obtain⟨b1,b2,b3,b4,b5,b6⟩:=Bd (A33 h).1;by_cases s:n.G4=1
 ·have X:=Akn.1 ⟨h,s⟩;have:=X.gen;have:=X.up;have:=X.first;have:=X.next;have:=X.prev;have:=X.ep;have:=X.ue;have:=X.nth;have:=X.ntag;have:=e.ep;have:=e.ue;have:=e.cur;refine⟨Gx (by omega) (by omega),Gx (by omega) (by omega),Gx (by omega) (by omega),Gx (by omega) (by omega),Gx (by omega) (by omega),Gx (by omega) (by omega),Gx (by omega) (by omega),Gx (by omega) (by omega),?_,Gx (by omega) (by omega),?_,?_,?_⟩
  ·exact Az2 (fun x hx=>by have:=A1w X.dist x hx;omega) (by have:=Awx X.conf X.dist;omega)
  ·have:=X.cur;unfold A8z at this;by_cases q:n.No=0
   ·simp_all[Gx]
   ·rw[At6 q]at this;simp only[cond_false,Z4,Wy]at this
    grind [Gx]
  ·exact⟨fun t ht=>Bel (Z1.1 X.things t ht),by omega⟩
  ·exact Az2 (fun x hx=>by have:=Bbq X.tags x hx;omega) (by omega)
 ·have g:=A33 h;rw[A27 h s];exact⟨Gx (by show _<=n.G4;omega) (by show n.G4<=_;omega),Gx (by show _<=n.C7;omega) (by show n.C7<=_;omega),Ax5,Ax5,Ax5,Ax5,Ax5,Ax5,A0j,Ax5,Ax5,A5s,A0j⟩
theorem Bs2{c:Fi}{x:Bb}(h:Aoz c x=true):A0m x:=by
 obtain⟨b1,b2,b3,b4,b5,b6⟩:=Bd (Avg h).1;obtain⟨h1,h2,h3,h4,h5⟩:=Avg h;unfold Aoz at h;simp only[Z4,Wy,decide_eq_true_eq]at h;obtain⟨_,_,_,t1,t2,_⟩:=h;refine⟨Gx (by omega) (by omega),Gx (by omega) (by omega),?_,?_,Gx (by omega) (by omega)⟩
 ·exact Az2 (fun y hy=>by have:=Bbq t2 y hy;omega) (by omega)
 ·exact Az2 (fun y hy=>by have:=A1w h4 y hy;omega) (by grind [Awx])
theorem A8t{α:Type}[Inhabited α]{l:List α}{P:α->Prop}(h: ∀k,0<=k/\k<(l.length:Int)->P (gt l k)): ∀x∈l,P x:=by
 intro x hx;obtain⟨i,hi,e⟩:=List.mem_iff_getElem.1 hx;have:=h (i:Int) ⟨by omega,by omega⟩
 grind [Wx]
theorem Ev.ww{w:Bo}{E:Int}{n:Nat}(G:Ev w E n)(hE:E<=1000000000)(hn:n<=1000000000):Ar0 w:=by
 have I:=G.inv;have P:=Akj.1 I.pool;obtain⟨b1,b2,b3,b4,b5,b6⟩:=Bd I.conf;have h1:=Bpx w;have h2:=Bek w;have h3:=G.wt;have hm:=Azd (a:=w.fC.Ad) (b:=w.fC.Du) (m:=12) (n:=16) (by omega) b1.2 (by omega) b2.2;refine⟨Bpy I.conf,⟨⟨G.mem,by have:=P.mem;omega⟩,?_,?_⟩,⟨A8t fun k hk=>A6y (I.node k hk) (G.ep k hk) hE,by have:=I.len;omega⟩,⟨fun x hx=>Bs2 (I.wrec x hx).1,by omega⟩,?_⟩
 ·exact Az2 (A8t fun k hk=>by have:=(P.one k (by grind [A5w.st])).1;omega) (by have:=P.st;omega)
 ·refine Az2 (A8t fun k hk=> ?_) (by have:=P.own;omega);obtain⟨o1,o2,o3,o4⟩:=P.one k (by grind [A5w.own]);omega
 ·exact Az2 (fun x hx=>by have:=Bbq I.log x hx;omega) (by omega)
theorem Bem{w:Bo}(I:Inv w)(p:Ef)(q:List Bb)(lg:List Int)(hp:A5w w.fC p)
  (ho: ∀c,0<=c/\c<w.fC.Ad->(gt p.G4 c=1 ↔ gt w.fP.G4 c=1)/\gt p.Fq c=gt w.fP.Fq c)
  (hl: ∀k,0<=k/\k<(w.fL.length:Int)->Av6 w.fC p.Fp (gt w.fL k)=true)
  (hq:A17 q=A17 w.fQ) (hs:slL q=slL w.fQ)
  (hr: ∀x∈q,Aoz w.fC x=true/\Arz (Bo.mk w.fC p w.fL q lg) x=true)
  (hn:(chL q).Nodup) (hc: ∀c,c∈chL q ↔ (0<=c/\c<w.fC.Ad)/\gt p.G4 c=2)
  (hg:lg.all (fun x=>inB x 0 255)=true):Inv (Bo.mk w.fC p w.fL q lg):=by
 refine⟨Akj.2 hp,I.len,I.node,fun k hk c=> ?_,fun k hk=> ?_,?_,hr,hn,hc,?_,?_,hg⟩
 ·rw[I.own k hk c]
  grind
 all_goals grind [Inv.thing,Inv.forest,Inv.sln,Inv.sli]
theorem gt0{α:Type}[Inhabited α](x:α)(l:List α):gt (x::l) 0=x:=rfl
theorem A5b{mem:List Int}{a n:Nat}:Ary ((mem.drop a).take n)=true ↔ ∀j:Nat,a<=j->j<a+n->j<mem.length->gt mem (j:Int)=0:=by
 unfold Ary;rw[Z1];constructor
 ·intro h j h1 h2 h3;rw[Wx h3];have:mem[j]∈(mem.drop a).take n:=by
   rw[List.mem_iff_getElem];refine⟨j - a,by grind,?_⟩
   grind
  grind
 ·intro h x hx;obtain⟨i,hi,e⟩:=List.mem_iff_getElem.1 hx;simp only[List.length_take,List.length_drop]at hi;simp only[List.getElem_take,List.getElem_drop]at e;have:=h (a+i) (by omega) (by omega) (by omega);rw[Wx (by omega),e]at this
  grind
def A01 (mem:List Int)(a n:Nat):List Int:=(List.range mem.length).map fun(j:Nat)=>if a<=j/\j<a+n then(0:Int)else gt mem (j:Int)
theorem Awz (mem:List Int)(a n:Nat):(A01 mem a n).length=mem.length:=by simp[A01]
theorem A4x{mem:List Int}{a n j:Nat}(h:j<mem.length):gt (A01 mem a n) (j:Int)=if a<=j/\j<a+n then 0 else gt mem (j:Int):=by
 grind [Wx,A01]
theorem Bpz (mem:List Int)(a:Nat):A01 mem a 0=mem:=by
 refine List.ext_getElem (Awz _ _ _) fun j h1 h2=> ?_
 have:=A4x (mem:=mem) (a:=a) (n:=0) h2;simp_all[if_neg,Wx]
theorem Bp0{mem:List Int}{a i:Nat}:(A01 mem a i).set (a+i) 0=A01 mem a (i+1):=by
 refine List.ext_getElem (by grind [Awz]) fun j h1 h2=> ?_
 rw[Z49,Awz]at h1;have e1:=A4x (mem:=mem) (a:=a) (n:=i) h1;have e2:=A4x (mem:=mem) (a:=a) (n:=i+1) h1;rw[Wx (by grind)]at e1 e2
 grind
theorem Bll{mem:List Int}{a n b m:Nat}(h:Ary ((mem.drop b).take m)=true):Ary (((A01 mem a n).drop b).take m)=true:=by
 grind [A5b,Awz,A4x]
theorem Bf8{mem:List Int}{a d n m:Nat}(h:Ary ((mem.drop a).take d)=true)(hm:m<=d+n):Ary (((A01 mem (a+d) n).drop a).take m)=true:=by
 grind [A5b,Awz,A4x]
section
variable {K:Nat} (hK:281474976710656<=K)
include hK
theorem Bc4{mem:List Int}(hl:mem.length<=1000000){a n:Int}(ha:0<=a/\a<=1000000)(hn:0<=n)(hs:a+n<=mem.length):A5h K mem a n=some (A01 mem a.toNat n.toNat):=by
 have hm:=V1;obtain⟨A,rfl⟩: ∃A:Nat,a=A:=⟨a.toNat,by omega⟩;obtain⟨N,rfl⟩: ∃N:Nat,n=N:=⟨n.toNat,by omega⟩;simp only[Int.toNat_natCast];have key: ∀(f i:Nat),i<=N->N - i<f->A0t K mem A N f (A01 mem A i) ((A+i:Nat):Int)=some (A01 mem A N):=by
  intro f;induction f with
  |zero=>omega
  |succ f ih=>
   intro i hi hf;rw[A0t];have e:Ap ((A+i:Nat):Int) A=i:=by unfold Ap Asu;grind [Ht]
   rw[e];by_cases q:i=N
   ·grind
   ·rw[Afb (by omega),Afb (by omega),cond_true,cond_true,Awz,if_pos ⟨by omega,by omega⟩,Ad9 (by omega),Int.toNat_natCast,Bp0]
    grind
 unfold A5h;rw[Z38,if_pos ⟨by omega,by omega⟩,decide_eq_false (by omega),decide_eq_false (by omega)];simp only[cond_false];have:=key K 0 (by omega) (by omega)
 grind [Bpz]
end
theorem A34{w:Bo}(I:Inv w){x qs}(hq:w.fQ=x::qs):Aoz w.fC x=true/\Arz w x=true:=by grind [Inv.wrec,List.mem_cons_self]
structure Bp1 (c:Fi)(x:Bb):Prop where
 conf:Aki c=true
 slot:0<=x.Be/\x.Be<=c.Cd
 first:0<=x.Bz/\x.Bz<=c.Cd
 ntag:x.Dh.length<=6
 tags: ∀y∈x.Dh,0<=y/\y<=255
 dist:Ayu c x.Ad=true
 done:0<=x.H2/\x.H2<=c.Du - 1
 zero:x.Ad=[]->x.H2=0
theorem A28{c:Fi}{x:Bb}:Aoz c x=true ↔ Bp1 c x:=by
 unfold Aoz;simp only[Z4,Wy,decide_eq_true_eq,Bool.or_eq_true,beq_iff_eq,Z1];constructor
 ·rintro⟨a,b,c,d,e,f,g,h⟩;refine⟨a,b,c,by omega,e,f,g,fun q=> ?_⟩
  grind
 ·intro h;refine⟨h.conf,h.slot,h.first,by have:=h.ntag;omega,h.tags,h.dist,h.done,?_⟩;by_cases q:x.Ad=[]
  ·exact .inr (h.zero q)
  simp_all[List.length_pos_iff]
def Blm (x:Bb):Bb:=Bb.mk x.Be x.Bz (x.Dh.take (x.Dh.length - 1)) x.Ad x.H2
def A6z (w:Bo)(x:Bb)(qs:List Bb):Bo:=Bo.mk w.fC w.fP w.fL (Blm x::qs) (w.Jp++[gt x.Dh ((x.Dh.length - 1:Nat):Int)])
theorem Byr (K:Nat){w:Bo}{x:Bb}{qs:List Bb}(hq:w.fQ=x::qs)(h0:0<x.Dh.length)(h6:x.Dh.length<=6)(hl:w.Jp.length<=1000000000):Ayy K w=some (A6z w x qs):=by
 have hm:=V1;unfold Ayy;rw[hq,gt0];have e:Ap (x.Dh.length:Int) 1=((x.Dh.length - 1:Nat):Int):=by grind [sb1]
 rw[e,if_pos ⟨by omega,by simp⟩,if_pos ⟨by omega,by omega⟩,if_pos ⟨by grind,by grind⟩,if_pos ⟨by omega,by omega,by omega⟩,A8j,Z38,if_pos ⟨by grind,by grind⟩];rfl
theorem Bp2{l:List Int}{n:Nat}{P:Int->Prop}(h: ∀y∈l,P y): ∀y∈l.take n,P y:=by grind
theorem Bs4{w:Bo}(I:Inv w){x:Bb}{qs:List Bb}(hq:w.fQ=x::qs)(h0:0<x.Dh.length):Inv (A6z w x qs):=by
 have R:=A28.1 (A34 I hq).1;have e1:chL (Blm x::qs)=chL w.fQ:=by rw[hq];rfl
 refine Bem I w.fP _ _ (Akj.1 I.pool) (fun c _=>⟨Iff.rfl,rfl⟩) (fun k hk=>(I.thing k hk).2.2) (by rw[hq];rfl) (by rw[hq];rfl) (fun y hy=> ?_) (by rw[e1];exact I.chn) (fun c=>by grind [Inv.chi]) ?_
 ·rcases Ft.1 hy with e|e
  ·subst e;refine⟨A28.2 ⟨R.conf,R.slot,R.first,?_,Bp2 R.tags,R.dist,R.done,R.zero⟩,(A34 I hq).2⟩;have:=R.ntag;show(x.Dh.take _).length<=6
   grind
  ·exact I.wrec y (by grind)
 ·rw[List.all_append,I.log];have:=R.tags _ (Aty (show x.Dh.length - 1<x.Dh.length by omega));simp[Wy,this]
def Avh (w:Bo)(x:Bb):Int:=if w.fC.Du<x.H2+w.fC.Ce then w.fC.Du else x.H2+w.fC.Ce
def Ben (w:Bo)(x:Bb):List Int:=A01 w.fP.Fp (gt x.Ad 0*w.fC.Du+x.H2).toNat (Avh w x - x.H2).toNat
def Bab (w:Bo)(x:Bb):Ef:=Ef.mk (Ben w x) (if Avh w x<w.fC.Du then w.fP.G4 else w.fP.G4.set (gt x.Ad 0).toNat 0) w.fP.Fq
def A66 (w:Bo)(x:Bb):Bb:=if Avh w x<w.fC.Du then Bb.mk x.Be x.Bz x.Dh x.Ad (Avh w x)else Bb.mk x.Be x.Bz x.Dh (x.Ad.drop 1) 0
def A5c (w:Bo)(x:Bb)(qs:List Bb):Bo:=Bo.mk w.fC (Bab w x) w.fL (A66 w x::qs) w.Jp
structure Bu4 (w:Bo)(x:Bb):Prop where
 rc:Bp1 w.fC x
 k:0<=gt x.Ad 0/\gt x.Ad 0<w.fC.Ad
 st:gt w.fP.G4 (gt x.Ad 0)=2
 at0:0<=gt x.Ad 0*w.fC.Du
 at1:gt x.Ad 0*w.fC.Du+w.fC.Du<=(w.fP.Fp.length:Int)
 len:w.fP.Fp.length<=192
 to:x.H2<Avh w x/\Avh w x<=w.fC.Du
 zero:Ary ((w.fP.Fp.drop (gt x.Ad 0*w.fC.Du).toNat).take x.H2.toNat)=true
theorem A6k{c:Fi}{p:Ef}(P:A5w c p):p.Fp.length<=192:=by
 obtain⟨b1,b2,_⟩:=Bd P.conf;have hm:=Azd (a:=c.Ad) (b:=c.Du) (m:=12) (n:=16) (by omega) b1.2 (by omega) b2.2;have:=P.mem;omega
theorem Bhy{w:Bo}(I:Inv w){x:Bb}{qs:List Bb}(hq:w.fQ=x::qs)(hc:0<x.Ad.length):Bu4 w x:=by
 have R:=A28.1 (A34 I hq).1;have P:=Akj.1 I.pool;have hx:x∈w.fQ:=by grind
 have hm:gt x.Ad 0∈x.Ad:=Aty (i:=0) hc;have h1:=(I.chi _).1 (Beh hx hm);obtain⟨_,_,e3,e4⟩:=A3z I.conf P.mem h1.1.1 h1.1.2;obtain⟨b1,b2,b3,b4,b5,b6⟩:=Bd I.conf;have hd:=R.done;refine⟨R,h1.1,h1.2,e3,e4,A6k P,?_,?_⟩
 ·grind [Avh]
 ·have:=(A34 I hq).2
  grind [Arz]
section
variable {K:Nat} (hK:281474976710656<=K)
include hK
theorem Bf9{w:Bo}(hw:A0k w.fP)(hp:Aw2 w.fC w.fP=true){x:Bb}(X:Bu4 w x):Awc K w.fC w.fP (gt x.Ad 0) x.H2=some (Bab w x,!decide (Avh w x<w.fC.Du)):=by
 obtain⟨b1,b2,b3,b4,b5,b6⟩:=Bd X.rc.conf;have P:=Akj.1 hp;obtain⟨e1,e2,e3,e4⟩:=A3z X.rc.conf P.mem X.k.1 X.k.2;have hd:=X.rc.done;have ht:=X.to;have hl:=X.len;have hk:=X.k;have es:A1 x.H2 w.fC.Ce=x.H2+w.fC.Ce:=by grind [A1,Lc,Ht]
 have el:Az5 K (x.H2+w.fC.Ce) w.fC.Du=some (Avh w x):=by
  unfold Az5 Avh
  grind
 have ea:A1 (gt x.Ad 0*w.fC.Du) x.H2=gt x.Ad 0*w.fC.Du+x.H2:=by grind [A1,Lc,Ht]
 have en:Ap (Avh w x) x.H2=Avh w x - x.H2:=by grind [Ap,Asu,Ht]
 unfold Awc;rw[A31 K hw,A7g hK,hp,Aml,A0h hK X.rc.conf,Wy.2 ⟨by omega,by omega⟩,Aml,A6g X.rc.conf,Wy.2 hd,es,el,e1,ea];simp only[Z0,cond_true,Bool.not_true,cond_false];rw[en,Bc4 hK (by omega) ⟨by omega,by omega⟩ (by omega) (by omega)];simp only[Z0,e2];rw[if_pos ⟨hk.1,by rw[P.st];exact hk.2⟩,X.st];simp only[bne_self_eq_false,cond_false];unfold Bab;by_cases q:Avh w x<w.fC.Du
 ·rw[decide_eq_true q,if_pos q];rfl
 ·rw[decide_eq_false q,if_neg q];simp only[cond_false,Bool.not_false];rw[if_pos ⟨by omega,by omega,by show _<=((A01 _ _ _).length:Int);grind [Awz]⟩];have hz:Ary (((A01 w.fP.Fp (gt x.Ad 0*w.fC.Du+x.H2).toNat (Avh w x - x.H2).toNat).drop (gt x.Ad 0*w.fC.Du).toNat).take (gt x.Ad 0*w.fC.Du+w.fC.Du - gt x.Ad 0*w.fC.Du).toNat)=true:=by
   rw[show(gt x.Ad 0*w.fC.Du+x.H2).toNat=(gt x.Ad 0*w.fC.Du).toNat+x.H2.toNat by omega];exact Bf8 X.zero (by omega)
  rw[A3y hK _ (by grind),hz];simp only[Z0,Bool.not_true,cond_false];rw[if_pos ⟨hk.1,by rw[P.st];exact hk.2⟩];rfl
theorem Bs5{w:Bo}(I:Inv w)(hw:A0k w.fP){x:Bb}{qs:List Bb}(hq:w.fQ=x::qs)(hc:0<x.Ad.length):Azk K w=some (A5c w x qs):=by
 have hm:=V1;have X:=Bhy I hq hc;have hlen:=Awx X.rc.conf X.rc.dist;obtain⟨b1,b2,b3,b4,b5,b6⟩:=Bd X.rc.conf;have hd:=X.rc.done;unfold Azk;rw[hq,gt0,if_pos ⟨by omega,by simp⟩,if_pos ⟨by omega,by omega⟩,Bf9 hK hw I.pool X,Z0];simp only;unfold A5c A66;by_cases q:Avh w x<w.fC.Du
 ·rw[decide_eq_true q,if_pos q];have es:A1 x.H2 w.fC.Ce=Avh w x:=by
   have ht:=X.to;unfold Avh at q ⊢;split at q
   ·omega
   ·rename_i r;rw[if_neg r];grind [A1,Lc,Ht]
  grind
 grind
end
theorem A6l{c:Fi}{l:List Int}:Ayu c l=true ↔ l.Nodup/\ ∀x∈l,0<=x/\x<c.Ad:=by
 constructor
 ·intro h;exact⟨A3f h,A1w h⟩
 ·rintro⟨h1,h2⟩;unfold Ayu;rw[Z1];intro i hi;rw[List.mem_range]at hi;rw[Z4,Wy,Wx hi]
  have:=h2 _ (List.getElem_mem hi);refine⟨by omega,?_⟩;simp_all[A8l]
theorem Bln{c:Fi}{l:List Int}{n:Nat}(h:Ayu c l=true):Ayu c (l.drop n)=true:=by
 rw[A6l]at h ⊢
 grind
theorem Bp3{w:Bo}{x:Bb}(h: ∀y∈w.fP.Fp,0<=y/\y<=255): ∀y∈Ben w x,0<=y/\y<=255:=by
 refine A8t fun k hk=> ?_;unfold Ben at hk ⊢;rw[Awz]at hk;obtain⟨j,rfl⟩: ∃j:Nat,k=j:=⟨k.toNat,by omega⟩
 grind [A4x,Aty]
theorem Bp4{w:Bo}(I:Inv w){x:Bb}{qs:List Bb}(hq:w.fQ=x::qs)(hc:0<x.Ad.length):Inv (A5c w x qs):=by
 have X:=Bhy I hq hc;have P:=Akj.1 I.pool;have hk:=X.k;have hd:=X.rc.done;have ht:=X.to;have hxq:x∈w.fQ:=by grind
 have hst: ∀c,0<=c/\c<w.fC.Ad->gt (Bab w x).G4 c=if c=gt x.Ad 0/\ ¬Avh w x<w.fC.Du then 0 else gt w.fP.G4 c:=by
  intro c h;show gt (if Avh w x<w.fC.Du then w.fP.G4 else w.fP.G4.set (gt x.Ad 0).toNat 0) c=_;by_cases q:Avh w x<w.fC.Du
  ·grind
  ·rw[if_neg q,A6j hk.1 (by rw[P.st];exact h)];omega
 have hz: ∀b m,Ary ((w.fP.Fp.drop b).take m)=true->Ary (((Bab w x).Fp.drop b).take m)=true:=fun b m h=>Bll h
 have hN:(gt x.Ad 0*w.fC.Du+x.H2).toNat=(gt x.Ad 0*w.fC.Du).toNat+x.H2.toNat:=by have:=X.at0;omega
 have hall: ∀m:Nat,m<=(Avh w x).toNat->Ary (((Bab w x).Fp.drop (gt x.Ad 0*w.fC.Du).toNat).take m)=true:=by
  intro m h;show Ary (((A01 _ _ _).drop _).take m)=true;rw[hN];exact Bf8 X.zero (by omega)
 have hlen:(Bab w x).Fp.length=w.fP.Fp.length:=Awz _ _ _;have hcons:x.Ad=gt x.Ad 0::x.Ad.drop 1:=by
  cases h:x.Ad with
  |nil=>grind
  |cons a l=>rfl
 have hnd:=A3f X.rc.dist;have hch:chL w.fQ=x.Ad++chL qs:=by rw[hq];rfl
 have hn:=I.chn;rw[hch]at hn;have hchi:=I.chi;rw[hch]at hchi;unfold A5c;refine Bem I (Bab w x) _ _ ⟨P.conf,by rw[hlen];exact P.mem,?_,P.own,fun c h=> ?_⟩ (fun c h=>⟨?_,rfl⟩) (fun k h=> ?_) ?_ ?_ (fun y hy=> ?_) ?_ (fun c=> ?_) I.log
 ·show((if Avh w x<w.fC.Du then w.fP.G4 else w.fP.G4.set (gt x.Ad 0).toNat 0).length:Int)=_
  grind [A5w.st]
 ·obtain⟨p1,p2,p3,p4⟩:=P.one c h;rw[hst c h];show _/\(_->0<=gt w.fP.Fq c/\_)/\(_->gt w.fP.Fq c= -1)/\_;by_cases q:c=gt x.Ad 0/\ ¬Avh w x<w.fC.Du
  ·rw[if_pos q];refine⟨by omega,fun f=>by omega,fun _=>p3 (by grind),fun _=> ?_⟩;unfold Aw1
   grind
  ·rw[if_neg q];exact⟨p1,p2,p3,fun f=>hz _ _ (p4 f)⟩
 ·grind
 ·have:=(I.thing k h).2.2;unfold Av6 at this ⊢
  grind
 ·grind [A66,A17]
 ·grind [A66,slL]
 ·rcases Ft.1 hy with e|e
  ·subst e;unfold A66;by_cases q:Avh w x<w.fC.Du
   ·rw[if_pos q];refine⟨A28.2 ⟨X.rc.conf,X.rc.slot,X.rc.first,X.rc.ntag,X.rc.tags,X.rc.dist,⟨by grind,by grind⟩,fun f=> ?_⟩,?_⟩
    ·grind
    ·unfold Arz
     grind
   ·rw[if_neg q];refine⟨A28.2 ⟨X.rc.conf,X.rc.slot,X.rc.first,X.rc.ntag,X.rc.tags,?_,⟨Int.le_refl _,by grind⟩,fun _=>rfl⟩,?_⟩
    ·exact Bln X.rc.dist
    ·unfold Arz;rw[Bool.or_eq_true];exact .inr rfl
  ·obtain⟨a,b⟩:=I.wrec y (by grind);refine⟨a,?_⟩;unfold Arz at b ⊢
   grind
 ·show((A66 w x).Ad++chL qs).Nodup;unfold A66
  grind
 ·show c∈(A66 w x).Ad++chL qs ↔ _;rw[hcons,Z45]at hn;have hni:=(List.nodup_cons.1 hn).1;have hci:=hchi c;rw[hcons,Z45,Ft]at hci;unfold A66
  grind
def Blo (g n:Az)(k x:Int):Az:=lnk n (if g.G7=0/\x+1=g.fUp/\n.Bz=k+1 then g.G6 else n.Bz) (if x+1=g.G7 then g.G6 else n.G6) (if x+1=g.G6 then g.G7 else n.G7)
theorem Bjn{l l':List Az}{t:Int->Lk}(A:AtT l t){k:Int}(hk:0<=k/\k<(l.length:Int))(hN:l'.length=l.length)(hg: ∀x,0<=x/\x<(l.length:Int)->x≠k->gt l' x=Blo (gt l k) (gt l x) k x){gn:Int}(hb:gt l' k=Asd 2 gn):AtT l' (rem t k):=by
 intro x hx;rw[hN]at hx;by_cases e:x=k
 ·subst e;rw[A89,hb];rfl
 ·rw[Ao0 e,hg x hx e,A x hx,A k hk];rfl
theorem Bp5{w:Bo}(I:Inv w){t:Int->Lk}(A:AtT w.fL t)(F:Air w.fL.length t (A17 w.fQ)){k:Int}(hl:Lv w.fL.length t k)(l':List Az)(q':List Bb)(hN:l'.length=w.fL.length)
  (hg: ∀x,0<=x/\x<(w.fL.length:Int)->x≠k->gt l' x=Blo (gt w.fL k) (gt w.fL x) k x) (hb:gt l' k=Asd 2 (gt w.fL k).C7)
  (F':Air w.fL.length (rem t k) (A17 q')) (hr: ∀x∈q',Aoz w.fC x=true/\Arz w x=true)
  (hcn:(chL q').Nodup) (hci: ∀c,c∈chL q' ↔ c∈chL w.fQ++(gt w.fL k).Ad) (hsn:(slL q').Nodup) (hsi: ∀s,s∈slL q' ↔ s∈slL w.fQ\/s=k):
  Inv (Bo.mk w.fC (Ah0 w.fP (gt w.fL k).Ad) l' q' w.Jp):=by
 have hk:=hl.1;have P:=I.live A hl;obtain⟨L1,L2,L3⟩:=A5x I hk;refine⟨Akj.2 L1,by simp_all[Inv.len],fun x hx=> ?_,fun x hx c=> ?_,fun x hx=> ?_,⟨rem t k,Bjn A hk hN hg hb,?_⟩,fun x hx=> ?_,hcn,fun c=> ?_,hsn,fun s=> ?_,I.log⟩
 ·have hx:0<=x/\x<(l'.length:Int):=hx;rw[hN]at hx;show Ava w.fC (gt l' x)=true;by_cases e:x=k
  ·grind [A74,Inv.conf,Avn.gen]
  ·rw[hg x hx e];obtain⟨a1,a2,a3,a4⟩:=A6w (I.node k hk);by_cases hs:(gt w.fL x).G4=1
   ·have X:=Akn.1 ⟨I.node x hx,hs⟩;refine(Akn.2 (Bbo X ?_ ?_ ?_)).1
    ·split
     ·exact a3
     ·exact X.first
    ·split
     ·exact a3
     ·exact X.next
    ·split
     ·exact a4
     ·exact X.prev
   ·have X:=A27 (I.node x hx) hs;have B:=(Bbh F.tree hl).bare x hx.1 hx.2 (by rw[Ao0 e,A x hx];grind [A7p]);rw[Ao0 e,A x hx,A k hk]at B;obtain⟨_,B2,B3,B4⟩:=B;have q1:(if(gt w.fL k).G7=0/\x+1=(gt w.fL k).fUp/\(gt w.fL x).Bz=k+1 then(gt w.fL k).G6 else(gt w.fL x).Bz)=0:=B2;have q2:(if x+1=(gt w.fL k).G7 then(gt w.fL k).G6 else(gt w.fL x).G6)=0:=B3;have q3:(if x+1=(gt w.fL k).G6 then(gt w.fL k).G7 else(gt w.fL x).G7)=0:=B4;have this:lnk (gt w.fL x) 0 0 0=gt w.fL x:=by rw[X];rfl
    grind [Blo,Inv.node]
 ·have hx:0<=x/\x<(l'.length:Int):=hx;rw[hN]at hx;show c∈(gt l' x).Ad ↔ (0<=c/\c<w.fC.Ad)/\gt (Ah0 w.fP (gt w.fL k).Ad).G4 c=1/\gt (Ah0 w.fP (gt w.fL k).Ad).Fq c=x;by_cases e:x=k
  ·rw[e,hb];constructor
   ·intro q;cases q
   ·rintro⟨a,b,d⟩;rw[(L3 c a).1]at b;rw[(L3 c a).2]at d;split at b
    all_goals simp_all[Inv.own]
  ·rw[hg x hx e];show c∈(gt w.fL x).Ad ↔ _;rw[I.own x hx c];constructor
   ·rintro⟨a,b,d⟩
    have q:c ∉ (gt w.fL k).Ad:=fun q=>e (by have:=((I.own k hk c).1 q).2.2;omega)
    grind
   grind
 ·have hx:0<=x/\x<(l'.length:Int):=hx;rw[hN]at hx;show(gt l' x).D5.all (Av4 w.fC (gt l' x).Ad)=true/\At0 (gt l' x).D5=true/\Av6 w.fC (Ah0 w.fP (gt w.fL k).Ad).Fp (gt l' x)=true;by_cases e:x=k
  ·rw[e,hb];exact⟨rfl,rfl,rfl⟩
  ·rw[hg x hx e];obtain⟨t1,t2,t3⟩:=I.thing x hx;refine⟨t1,t2,?_⟩;rw[L2];exact t3
 ·grind
 ·obtain⟨a,b⟩:=hr x hx;refine⟨a,?_⟩;unfold Arz at b ⊢
  grind
 ·grind [Bej]
 ·show s∈slL q' ↔ (0<=s/\s<(l'.length:Int))/\(gt l' s).G4=2;rw[hsi s,hN,I.sli];constructor
  ·rintro(⟨a,b⟩|a)
   ·refine⟨a,?_⟩;have e:s≠k:=fun e=>by grind [Avn.st]
    rw[hg s a e];exact b
   ·rw[a,hb];exact⟨hk,rfl⟩
  ·rintro⟨a,b⟩
   by_cases e:s=k
   ·omega
   ·rw[hg s a e]at b;exact .inl ⟨a,b⟩
def Ayx (l:List Az)(g:Int):List Az:=((bif plB l (gt l g).G6 then l.set ((gt l g).G6 - 1).toNat (Bjf (gt l ((gt l g).G6 - 1)) 0)else l).set g.toNat (Asd 2 (gt l g).C7))
def Bbr (l:List Az)(x:Bb):Bb:=Bb.mk x.Be (gt l (x.Bz - 1)).G6 x.Dh x.Ad x.H2
def Az3 (w:Bo)(x:Bb)(qs:List Bb):Bo:=
 Bo.mk w.fC (Ah0 w.fP (gt w.fL (x.Bz - 1)).Ad) (Ayx w.fL (x.Bz - 1)) (Aio (gt w.fL (x.Bz - 1)) x.Bz::Bbr w.fL x::qs) w.Jp
theorem Bbs (l:List Az)(g:Int):(Ayx l g).length=l.length:=by
 unfold Ayx;grind
theorem Bjo{l:List Az}(R:Rg l){g x:Int}(hg:0<=g/\g<(l.length:Int))(hx:0<=x/\x<(l.length:Int))(hne:x≠g)(hp:(gt l g).G7=0)(hf: ¬(x+1=(gt l g).fUp/\(gt l x).Bz=g+1)):gt (Ayx l g) x=Blo (gt l g) (gt l x) g x:=by
 obtain⟨r1,r2,r3,r4⟩:=R.rg g hg;have hl:=R.len;unfold Ayx Blo;rw[Bf6 r3.1 r3.2 hl,hp,if_neg (fun q=>hf q.2),if_neg (by omega: ¬x+1=0)];by_cases h:(gt l g).G6=0
 ·rw[h];simp only[beq_self_eq_true,Bool.not_true,cond_false];rw[Auu hg hx,if_neg hne,if_neg (by omega)];rfl
 ·rw[At6 h];simp only[Bool.not_false,cond_true];rw[Auu (by grind) (by grind),if_neg hne,Auu (by omega) hx];by_cases e:x=(gt l g).G6 - 1
  ·rw[if_pos e,if_pos (by omega),<-e];rfl
  ·rw[if_neg e,if_neg (by omega)];rfl
theorem Bjp{l:List Az}{g:Int}(hg:0<=g/\g<(l.length:Int)):gt (Ayx l g) g=Asd 2 (gt l g).C7:=by
 unfold Ayx;rw[A4v]
 grind
structure B1z (w:Bo)(t:Int->Lk)(x:Bb)(qs:List Bb):Prop where
 rc:Bp1 w.fC x
 lv:Lv w.fL.length t (x.Bz - 1)
 or:Oo w.fL.length t (x.Bz - 1)
 pv:(gt w.fL (x.Bz - 1)).G7=0
 fr:Air w.fL.length (rem t (x.Bz - 1)) (A17 (Aio (gt w.fL (x.Bz - 1)) x.Bz::Bbr w.fL x::qs))
 nf: ∀y,0<=y/\y<(w.fL.length:Int)-> ¬(y+1=(gt w.fL (x.Bz - 1)).fUp/\(gt w.fL y).Bz=x.Bz - 1+1)
theorem Beo{w:Bo}(I:Inv w){t:Int->Lk}(A:AtT w.fL t)(F:Air w.fL.length t (A17 w.fQ)){x:Bb}{qs:List Bb}(hq:w.fQ=x::qs)(hf:x.Bz≠0):B1z w t x qs:=by
 have R:=A28.1 (A34 I hq).1;have hx:x∈w.fQ:=by grind
 have hF:=R.first;have e:x.Bz - 1+1=x.Bz:=by omega
 have F1:Air w.fL.length t ((x.Be,x.Bz - 1+1)::A17 qs):=by rw[e];rw[hq]at F;exact F
 obtain⟨h1,h2,h3⟩:=Bf3 F1 (by omega);have hin:=h1.1;have hor:Oo w.fL.length t (x.Bz - 1):=F.kid.or (Inv.qs hx) (A9a hin);have hpv:(gt w.fL (x.Bz - 1)).G7=0:=by rw[A _ hin]at h2;exact h2
 refine⟨R,h1,hor,hpv,?_,?_⟩
 ·rw[A _ hin,e]at h3;exact h3
 ·rintro y hy ⟨a,b⟩
  have hup:(t (x.Bz - 1)).up=y+1:=by rw[A _ hin,a];rfl
  have hfi:(t y).fi=x.Bz:=by rw[A _ hy,<-e,<-b];rfl
  cases hlv:(t y).lv with
  |false=>
   have:=(F.tree.bare y hy.1 hy.2 hlv).2.1;omega
  |true=>
   have hY:Lv w.fL.length t y:=⟨hy,hlv⟩;have:=(F.tree.link y hY).first (by omega);rw[hfi]at this;refine hor.2.2 ⟨?_,?_⟩
   all_goals grind
theorem Bp6{w:Bo}(I:Inv w){x:Bb}{qs:List Bb}(hq:w.fQ=x::qs)(hf:x.Bz≠0):Inv (Az3 w x qs):=by
 obtain⟨t,A,F⟩:=I.forest;have X:=Beo I A F hq hf;have hk:=X.lv.1;have hF:=X.rc.first;have L:=I.live A X.lv;obtain⟨b1,b2,b3,b4,b5,b6⟩:=Bd I.conf;have hch:chL w.fQ=x.Ad++chL qs:=by rw[hq];rfl
 have hcn:=Bei I hk;rw[hch]at hcn;have hsl:slL w.fQ=(if x.Be=0 then []else [Ap x.Be 1])++slL qs:=by rw[hq];rfl
 have hsn:=I.sln;rw[hsl]at hsn;have e1:slL (Aio (gt w.fL (x.Bz - 1)) x.Bz::Bbr w.fL x::qs)=(x.Bz - 1)::((if x.Be=0 then []else [Ap x.Be 1])++slL qs):=by
  show(if x.Bz=0 then []else [Ap x.Bz 1])++_=_;rw[if_neg hf,sb1 (by omega) (by omega)];rfl
 have hns:x.Bz - 1 ∉ slL w.fQ:=fun h=>by
  have:=((I.sli _).1 h).2
  grind [Avn.st]
 unfold Az3;refine Bp5 I A F X.lv _ _ (Bbs _ _) (fun y hy hne=>Bjo I.rg hk hy hne X.pv (X.nf y hy)) (Bjp hk) X.fr (fun y hy=> ?_) ?_ (fun c=> ?_) ?_ (fun s=> ?_)
 ·rcases Ft.1 hy with e|e
  ·grind [A7q,Bbp]
  ·rcases Ft.1 e with e|e
   ·rw[e];exact⟨A28.2 ⟨X.rc.conf,X.rc.slot,L.next,X.rc.ntag,X.rc.tags,X.rc.dist,X.rc.done,X.rc.zero⟩,(A34 I hq).2⟩
   grind [Inv.wrec]
 ·show((gt w.fL (x.Bz - 1)).Ad++(x.Ad++chL qs)).Nodup
  grind
 ·rw[hch];show c∈(gt w.fL (x.Bz - 1)).Ad++(x.Ad++chL qs) ↔ _
  grind
 all_goals grind
end Go.Proofs.YtgcnddnmhllahaaGreat
