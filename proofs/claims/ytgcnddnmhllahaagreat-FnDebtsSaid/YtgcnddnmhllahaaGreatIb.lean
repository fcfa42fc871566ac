/- The engine, part 2: what is proved of the model, for any program; no condition. -/
import Derived.Test.YtgcnddnmhllahaaGreatIa
set_option linter.all false
namespace Go.Eng
section
variable {F:Fr} {T:Tab} {S:St} {o:Oper}
end
theorem Ac.cut{F:Fr}{S:St}{a:Act}{w:World}{σ:Nat->List Nat}{β:Nat->Option (Nat×Nat×Nat)}(hs:Ac F S a w σ β){t id ver es k:Nat}{xs:List (List V)}(ht:S.env t= .c (.own id ver 0 k))(hB:S.H id=some ⟨ver,es,xs⟩)(hk:k<=xs.length):
  Ac F ⟨Aa S.env t (.c (.own id (S.nv id) 0 k)),Aa S.H id (some ⟨S.nv id,es,xs.take k⟩),Aa S.nv id (S.nv id+1)⟩ a w σ β:=by
 have hid0:id≠0:=by rintro rfl;have h0:S.H 0=none:=hs.hr.far;grind
 let S':St:=⟨S.env,Aa S.H id (some ⟨S.nv id,es,xs.take k⟩),Aa S.nv id (S.nv id+1)⟩
 have hext:Cq (S.cx w σ β) (S'.cx w σ β):=⟨fun i=>by
  show S.nv i<=Aa S.nv id (S.nv id+1) i;by_cases e:i=id
  all_goals simp_all[Q1,Q0],fun i B' h hv=>by
  have h':Aa S.H id (some ⟨S.nv id,es,xs.take k⟩) i=some B':=h;by_cases e:i=id
  ·subst e;rw[Q1]at h';cases h';exact absurd hv (Nat.lt_irrefl _)
  ·rw[Q0 _ _ e]at h';exact⟨B',h',rfl,rfl,rfl,rfl⟩⟩
 have hn: ∀p,Bg w σ w σ p:=fun p b _ _=>⟨rfl,rfl⟩;refine⟨⟨(Q0 _ _ (fun h=>hid0 h.symm)).trans hs.hr.far,fun i B' h=> ?_,hs.hr.new⟩,hs.mpos,hs.kp,hs.inn,fun t'=> ?_⟩
 ·have h':Aa S.H id (some ⟨S.nv id,es,xs.take k⟩) i=some B':=h;by_cases e:i=id
  ·subst e;rw[Q1]at h';cases h';obtain⟨h1,h2⟩:=hs.hr.blk i _ hB;refine⟨by show S.nv i<Aa S.nv i (S.nv i+1) i;rw[Q1];omega,?_⟩;cases eb:β i with
   |none=>exact .mk_void eb (by have:=h2.void eb;grind)
   |some q=>
    obtain⟨b,o',n⟩:=q;obtain⟨q1,q2,q3,arr,T',q4,q5,q6⟩:=h2.some eb;refine .mk eb ⟨q1,fun x hx=>q2 x (Kk hx),by grind,arr,T',q4,q5,fun k' j x v hk' hj=> ?_⟩;have hk2:(xs.take k)[k']? =some x:=hk';rw[Jf]at hk2;split at hk2
    ·obtain⟨c,g3,g4⟩:=q6 k' j x v hk2 hj;exact⟨c,g3,g4.mono hext (hn _)⟩
    grind
  ·rw[Q0 _ _ e]at h';obtain⟨h1,h2⟩:=hs.hr.blk i B' h';exact⟨by show B'.ver<Aa S.nv id (S.nv id+1) i;rw[Q0 _ _ e];exact h1,h2.mono hext rfl (hn [i])⟩
 ·show RA _ (Aa S.env t (.c (.own id (S.nv id) 0 k)) t') _;by_cases e:t'=t
  ·subst e;rw[Q1];have h1:=hs.env t';rw[ht]at h1;obtain⟨A,cap,e1,hv,hcap,hmax,hb⟩:=Mz h1;rw[e1];refine .c (.own _ _ _ _ _ _ _ _ rfl (by show S.nv id<Aa S.nv id (S.nv id+1) id;rw[Q1];omega) hcap hmax fun B hB' hver=> ?_);have h':Aa S.H id (some ⟨S.nv id,es,xs.take k⟩) id=some B:=hB';rw[Q1]at h';cases h';obtain⟨g1,g2⟩:=hb _ hB rfl;exact⟨by grind,g2⟩
  ·rw[Q0 _ _ e];exact(hs.env t').mono hext (hn [])
def Kw:List Nat->List Nat->Bool
 |[],_=>true
 |_::_,[]=>false
 |a::r,b::s=>Nat.beq a b&&Kw r s
theorem Afq{p q:List Nat}:Kw p q=true ↔ ∃r,q=p++r:=by
 induction p generalizing q with
 |nil=>simp[Kw]
 |cons a r ih=>
  cases q with
  |nil=>simp[Kw]
  |cons b s=>
   simp only[Kw,Z4,ih,Gh,Ed];constructor
   all_goals simp_all
def Dy (p q:List Nat)(s:List Nat):List Nat:=if Kw p s=true then q++s.drop p.length else s
theorem Qr{p q r:List Nat}:Dy p q (p++r)=q++r:=by
 simp_all[Dy,Afq]
theorem Kx{p q s:List Nat}(h: ∀r,s≠p++r):Dy p q s=s:=by
 simp_all[Dy,Afq]
theorem Qs{p q:List Nat}(hp:p≠[]):Dy p q []=[]:=Kx fun r h=>by
 cases p with
 |nil=>grind
 |cons a s=>cases h
theorem Afr{p q:List Nat}(hp:p≠[])(hp0:p.head? ≠some 0):Dy p q [0]=[0]:=Kx fun r h=>by
 cases p with
 |nil=>grind
 |cons a s=>grind
section
variable {F:Fr} {S:St} {a:Act} {w:World} {σ:Nat->List Nat} {β:Nat->Option (Nat×Nat×Nat)}
theorem Ac.takeN (hs:Ac F S a w σ β){id nid ver es k j e:Nat}{xs:List (List V)}{x:List V}{ys:List (List V)}(hB:S.H id=some ⟨ver,es,xs⟩)(hk:xs[k]? =some x)(hj:x[j]? =some (.row true e ys))(hnid:F.m<=nid)(hne:id≠nid):
  ∃σ' β',Ac F ⟨S.env,Aa (Aa S.H nid (some ⟨S.nv nid,e,ys⟩)) id (some ⟨ver,es,xs.set k (x.set j (.own nid (S.nv nid) 0 ys.length))⟩),Aa S.nv nid (S.nv nid+1)⟩ a w σ' β':=by
 have hid0:id≠0:=by rintro rfl;have h0:S.H 0=none:=hs.hr.far;grind
 have hnid0:nid≠0:=by grind [mpos]
 obtain⟨hver,hbr⟩:=hs.hr.blk id _ hB;have hcell: ∃c,RV (S.cx w σ β) [id,k,j] (.row true e ys) c/\ ∀b o n,β id=some (b,o,n)-> ∃arr T,w.heap[b]? =some (.cells arr T (0,0))/\arr[o+k*es+j]? =some c:=by
  cases eb:β id with
  |none=>have:=hbr.void eb;grind
  |some q=>
   obtain⟨b,o,n⟩:=q;obtain⟨q1,q2,q3,arr,T,q4,q5,q6⟩:=hbr.some eb;obtain⟨c,g1,g2⟩:=q6 k j x _ hk hj;exact⟨c,g2,fun b' o' n' h=>by cases h;exact⟨arr,T,q4,g1⟩⟩
 obtain⟨c,hc,hcm⟩:=hcell;cases hc with
 |c hc=>
 cases hc with
 |row p o' es' xs' A n cap b off cs hn hcap hmax hA hT hx hcc hr=>
 let p:List Nat:=[id,k,j]
 let σ':Nat->List Nat:=fun b=>Dy p [nid] (σ b)
 let β':Nat->Option (Nat×Nat×Nat):=Aa β nid (if cap=0 then none else some (b,off,cap))
 let S':St:=⟨S.env,Aa (Aa S.H nid (some ⟨S.nv nid,e,ys⟩)) id (some ⟨ver,es,xs.set k (x.set j (.own nid (S.nv nid) 0 ys.length))⟩),Aa S.nv nid (S.nv nid+1)⟩
 have hHid:S'.H id=some ⟨ver,es,xs.set k (x.set j (.own nid (S.nv nid) 0 ys.length))⟩:=Q1 _ _ _;have hHn:S'.H nid=some ⟨S.nv nid,e,ys⟩:=(Q0 _ _ (Ne.symm hne)).trans (Q1 _ _ _);have hHo: ∀i,i≠id->i≠nid->S'.H i=S.H i:=fun i h1 h2=>(Q0 _ _ h1).trans (Q0 _ _ h2)
 have hβo: ∀i,i≠nid->β' i=β i:=fun i h=>Q0 _ _ h
 have hσnil: ∀b,σ b=[]->σ' b=[]:=fun b h=>by grind [Qs]
 have hnear: ∀q,(∀r s,q≠[]->q++r≠p++s)->Bg w σ w σ' q:=by
  intro q hq b' _ hc';refine⟨rfl,?_⟩;show Dy p [nid] (σ b')=σ b';rcases hc' with h|⟨hq0,r,hr'⟩
  all_goals grind [Kx]
 have hext:Cq (S.cx w σ β) (S'.cx w σ' β'):=by
  refine⟨fun i=> ?_,fun i B' h hv=> ?_⟩
  ·show S.nv i<=Aa S.nv nid (S.nv nid+1) i;by_cases e2:i=nid
   all_goals simp_all[Q1,Q0]
  ·have h':S'.H i=some B':=h;by_cases e2:i=id
   ·subst e2;rw[hHid]at h';cases h';exact⟨_,hB,rfl,rfl,by simp,hβo _ hne⟩
   ·by_cases e3:i=nid
    ·subst e3;rw[hHn]at h';cases h';exact absurd hv (Nat.lt_irrefl _)
    ·rw[hHo i e2 e3]at h';exact⟨B',h',rfl,rfl,rfl,hβo i e3⟩
 refine⟨σ',β',⟨⟨?_,fun i B' h=> ?_,fun b' hb'=>hσnil b' (hs.hr.new b' hb')⟩,hs.mpos,⟨hs.kp.os,hs.kp.tape,hs.kp.output,hs.kp.size,hs.kp.heap,fun b' hb' h0=> ?_⟩,fun i hi=> ?_,fun t=>(hs.env t).mono hext (hnear [] (fun r s h=>absurd rfl h))⟩⟩
 ·show S'.H 0=none;rw[hHo 0 (Ne.symm hid0) (Ne.symm hnid0)];exact hs.hr.far
 ·have h':S'.H i=some B':=h;by_cases e2:i=id
  ·subst e2;rw[hHid]at h';cases h';refine⟨by show ver<Aa S.nv nid (S.nv nid+1) i;rw[Q0 _ _ hne];exact hver,?_⟩;cases eb:β i with
   |none=>have:=hbr.void eb;grind
   |some q=>
    obtain⟨b1,o1,n1⟩:=q;obtain⟨q1,q2,q3,arr,T,q4,q5,q6⟩:=hbr.some eb;refine .mk ((hβo i hne).trans eb) ⟨?_,?_,by grind,arr,T,q4,q5,fun k' j' x' v hk' hj'=> ?_⟩
    ·show Dy p [nid] (σ b1)=[i];rw[show σ b1=[i] from q1]
     grind [Kx]
    ·grind
    ·have hk2:(xs.set k (x.set j (.own nid (S.nv nid) 0 ys.length)))[k']? =some x':=hk';have near2: ∀(k2 j2:Nat),(k2≠k\/j2≠j)->Bg w σ w σ' [i,k2,j2]:=fun k2 j2 hne2=>hnear _ fun r s _ h=>by
      grind
     rw[He]at hk2;by_cases ek:k=k'
     ·subst ek;rw[if_pos rfl,if_pos (Z3.1 hk).1]at hk2;cases hk2;rw[He]at hj';by_cases ej:j=j'
      ·subst ej;rw[if_pos rfl,if_pos (Z3.1 hj).1]at hj';cases hj';obtain⟨arr2,T2,g1,g2⟩:=hcm b1 o1 n1 eb;have:w.heap[b1]? =some (.cells arr T (0,0)):=q4;rw[this]at g1;cases g1;refine⟨_,g2,.own _ _ _ _ _ _ _ _ hn (by show S.nv nid<Aa S.nv nid (S.nv nid+1) nid;rw[Q1];omega) (by omega) hmax fun B hB' hv'=> ?_⟩;have h3:S'.H nid=some B:=hB';rw[hHn]at h3;cases h3;refine⟨by simp,?_⟩;by_cases h0:cap=0
       ·exact .inl h0
       ·obtain⟨hA1,_⟩:=hT rfl (by omega);refine .inr ⟨b,off,cap,?_,by grind,by omega⟩;show Aa β nid _ nid=_;rw[Q1,if_neg h0]
      ·rw[if_neg ej]at hj';obtain⟨c2,g3,g4⟩:=q6 k j' x v hk hj';exact⟨c2,g3,g4.mono hext (near2 k j' (.inr (Ne.symm ej)))⟩
     ·rw[if_neg ek]at hk2;obtain⟨c2,g3,g4⟩:=q6 k' j' x' v hk2 hj';exact⟨c2,g3,g4.mono hext (near2 k' j' (.inl (Ne.symm ek)))⟩
  ·by_cases e3:i=nid
   ·subst e3;rw[hHn]at h';cases h';refine⟨by show S.nv i<Aa S.nv i (S.nv i+1) i;rw[Q1];omega,?_⟩;by_cases h0:cap=0
    ·have hy:ys=[]:=Ec.1 (by omega);exact .mk_void (by show Aa β i _ i=none;rw[Q1,if_pos h0]) hy
    ·obtain⟨hA1,hp,hσb,arr,T,hh,hsz⟩:=hT rfl (by omega);refine .mk (by show Aa β i _ i=some (b,off,cap);rw[Q1,if_neg h0]) ⟨?_,hx,by grind,arr,T,hh,hsz,fun k' j' x' v hk' hj'=> ?_⟩
     ·show Dy p [i] (σ b)=[i];rw[show σ b=p++[] from by assumption,Qr];rfl
     ·obtain⟨h1,_⟩:=hcc k' j' x' v hk' hj';have h2:=hr k' j' x' v hk' hj';rw[if_pos rfl]at h2;refine⟨cs k' j',by grind [Cb],.c (h2.move hσnil (fun b2 r hp2 hσ2=> ?_) (fun _=>by simp))⟩;show Dy p [i] (σ b2)=[i,k',j']++r;rw[show σ b2=p++([k',j']++r) from by assumption,Qr];rfl
   ·rw[hHo i e2 e3]at h';obtain⟨h1,h2⟩:=hs.hr.blk i B' h';exact⟨by show B'.ver<Aa S.nv nid (S.nv nid+1) i;rw[Q0 _ _ e3];exact h1,h2.mono hext (hβo i e3) (hnear [i] fun r s _ h=>by
     grind)⟩
 ·show Dy p [nid] (σ b')=F.σ0 b';rw[hs.kp.free b' hb' h0]
  grind [Qs,Afr]
 ·show β' i=F.β0 i
  grind [inn]
theorem Ac.putN (hs:Ac F S a w σ β){id nid ver es k j e nver:Nat}{xs:List (List V)}{x:List V}{ys:List (List V)}(hB:S.H id=some ⟨ver,es,xs⟩)(hk:xs[k]? =some x)(hj:x[j]? =some (.own nid nver 0 ys.length))(hN:S.H nid=some ⟨nver,e,ys⟩)(hcl:allClosed ⟨nver,e,ys⟩=true)(hne:id≠nid)(hnm:F.m<=nid):
  ∃σ',Ac F ⟨S.env,Aa (Aa S.H nid none) id (some ⟨ver,es,xs.set k (x.set j (.row true e ys))⟩),S.nv⟩ a w σ' β:=by
 have hid0:id≠0:=by rintro rfl;have h0:S.H 0=none:=hs.hr.far;grind
 have hnid0:nid≠0:=by rintro rfl;have h0:S.H 0=none:=hs.hr.far;grind
 obtain⟨hver,hbr⟩:=hs.hr.blk id _ hB;obtain⟨hnver,hnbr⟩:=hs.hr.blk nid _ hN
 let p:List Nat:=[id,k,j]
 let σ':Nat->List Nat:=fun b=>Dy [nid] p (σ b)
 let S':St:=⟨S.env,Aa (Aa S.H nid none) id (some ⟨ver,es,xs.set k (x.set j (.row true e ys))⟩),S.nv⟩
 have hHid:S'.H id=some ⟨ver,es,xs.set k (x.set j (.row true e ys))⟩:=Q1 _ _ _;have hHn:S'.H nid=none:=(Q0 _ _ (Ne.symm hne)).trans (Q1 _ _ _);have hHo: ∀i,i≠id->i≠nid->S'.H i=S.H i:=fun i h1 h2=>(Q0 _ _ h1).trans (Q0 _ _ h2)
 have hσnil: ∀b,σ b=[]->σ' b=[]:=fun b h=>by grind [Qs]
 have hnear: ∀q,(∀r s,q≠[]->q++r≠nid::s)->Bg w σ w σ' q:=by
  intro q hq b' _ hc';refine⟨rfl,?_⟩;show Dy [nid] p (σ b')=σ b';rcases hc' with h|⟨hq0,r,hr'⟩
  all_goals grind [Kx]
 have hext:Cq (S.cx w σ β) (S'.cx w σ' β):=by
  refine⟨fun i=>Z9 _,fun i B' h hv=> ?_⟩;have h':S'.H i=some B':=h;by_cases e2:i=id
  ·subst e2;rw[hHid]at h';cases h';exact⟨_,hB,rfl,rfl,by simp,rfl⟩
  ·by_cases e3:i=nid
   ·grind
   ·rw[hHo i e2 e3]at h';exact⟨B',h',rfl,rfl,rfl,rfl⟩
 refine⟨σ',⟨⟨?_,fun i B' h=> ?_,fun b' hb'=>hσnil b' (hs.hr.new b' hb')⟩,hs.mpos,⟨hs.kp.os,hs.kp.tape,hs.kp.output,hs.kp.size,hs.kp.heap,fun b' hb' h0=> ?_⟩,hs.inn,fun t=>(hs.env t).mono hext (hnear [] (fun r s h=>absurd rfl h))⟩⟩
 ·show S'.H 0=none;rw[hHo 0 (Ne.symm hid0) (Ne.symm hnid0)];exact hs.hr.far
 ·have h':S'.H i=some B':=h;by_cases e2:i=id
  ·subst e2;rw[hHid]at h';cases h';refine⟨hver,?_⟩;cases eb:β i with
   |none=>have:=hbr.void eb;grind
   |some q=>
    obtain⟨b1,o1,n1⟩:=q;obtain⟨q1,q2,q3,arr,T,q4,q5,q6⟩:=hbr.some eb;have near2: ∀r:List Nat,Bg w σ w σ' (i::r):=fun r=>hnear _ fun r' s _ h=>by
     grind
    refine .mk eb ⟨?_,?_,by grind,arr,T,q4,q5,fun k' j' x' v hk' hj'=> ?_⟩
    ·show Dy [nid] p (σ b1)=[i];rw[show σ b1=[i] from q1];simp_all[Kx]
    ·grind
    ·have hk2:(xs.set k (x.set j (.row true e ys)))[k']? =some x':=hk';rw[He]at hk2;by_cases ek:k=k'
     ·subst ek;rw[if_pos rfl,if_pos (Z3.1 hk).1]at hk2;cases hk2;rw[He]at hj';by_cases ej:j=j'
      ·subst ej;rw[if_pos rfl,if_pos (Z3.1 hj).1]at hj';cases hj';obtain⟨c,g3,g4⟩:=q6 k j x _ hk hj;refine⟨c,g3,.c ?_⟩;cases g4 with
       |c h=>cases h
       |own _ _ _ _ _ A n cap hn hv hcap hmax hb=>
        obtain⟨f1,f2⟩:=hb _ hN rfl;have f2:Jg (S.cx w σ β) nid 0 cap e A:=f2;rcases f2 with h0|⟨b,o,m,hb1,hb2,hb3⟩
        ·have hy:ys=[]:=Ec.1 (by omega);subst hy;exact .row _ true e [] A n cap 0 0 (fun _ _=>default) hn (by omega) hmax (by omega) (fun _ h=>by omega) (by simp) (by simp) (by simp)
        ·obtain⟨m1,m2,m3,arr2,T2,m4,m5,m6⟩:=hnbr.some hb1;have hmul:o+cap*e<=arr2.size:=Dn (Nat.add_le_add_left (Bx e (by omega)) o) m5;have hA:A=some ⟨b,o,none⟩:=by grind
         have hcl2: ∀(k' j':Nat) (x':List V) (v:V),ys[k']? =some x'->x'[j']? =some v->v.closed=true:=fun k' j' x' v hk' hj'=>
          Z1.1 (Z1.1 hcl x' (Z6 hk')) v (Z6 hj')
         refine .row _ true e ys A n cap b o (fun k' j'=>(arr2[o+k'*e+j']?).getD default) hn (by omega) hmax (fun _=>hA) (fun _ _=>⟨hA,by simp,?_,arr2,T2,m4,hmul⟩) m2 (fun k' j' x' v hk' hj'=> ?_) (fun k' j' x' v hk' hj'=> ?_)
         ·show Dy [nid] p (σ b)=[i,k,j];rw[show σ b=[nid]++[] from m1,Qr];rfl
         ·obtain⟨c2,g5,g6⟩:=m6 k' j' x' v hk' hj';refine⟨?_,fun h=>by cases h⟩;show w.cell? ⟨b,o+k'*e+j',none⟩=_;have m4':w.heap[b]? =some (.cells arr2 T2 (0,0)):=m4
          grind [Cb]
         ·obtain⟨c2,g5,g6⟩:=m6 k' j' x' v hk' hj';rw[if_pos rfl];show RC w σ' ([i,k,j]++[k',j']) v ((arr2[o+k'*e+j']?).getD default);rw[g5];have g7:RC w σ [nid,k',j'] v c2:=g6.rc (hcl2 k' j' x' v hk' hj')
          grind [RC.move,Qr]
      ·rw[if_neg ej]at hj';obtain⟨c2,g3,g4⟩:=q6 k j' x v hk hj';exact⟨c2,g3,g4.mono hext (near2 _)⟩
     ·rw[if_neg ek]at hk2;obtain⟨c2,g3,g4⟩:=q6 k' j' x' v hk2 hj';exact⟨c2,g3,g4.mono hext (near2 _)⟩
  ·by_cases e3:i=nid
   ·grind
   ·rw[hHo i e2 e3]at h';obtain⟨h1,h2⟩:=hs.hr.blk i B' h';exact⟨h1,h2.mono hext rfl (hnear [i] fun r s _ h=>by
     grind)⟩
 ·show Dy [nid] p (σ b')=F.σ0 b';rw[hs.kp.free b' hb' h0]
  grind [Qs,Afr]
end
structure Ay{α:Type}(fd f:α->List V)(es:Nat):Prop where
 len: ∀a,(fd a).length=es
 closed: ∀a,(fd a).all V.closed=true
 share: ∀a,Au (fd a)=f a
section
variable {α:Type} {fd f:α->List V} {es:Nat}
theorem Ay.allClosed (h:Ay fd f es)(ver e:Nat)(l:List α):Go.Eng.allClosed ⟨ver,e,l.map fd⟩=true:=by
 simp only[Go.Eng.allClosed,List.all_map,Z1];intro a _;exact h.closed a
theorem Ay.shareLL (h:Ay fd f es)(l:List α):Go.Eng.shareLL (l.map fd)=l.map f:=by
 rw[F3,Ar];refine Bf fun a _=> ?_
 show List.map V.share (fd a)=f a;rw[<-Tc];exact h.share a
theorem Afs{l:List V}(h:l.all V.closed=true)(lent:Bool)(io:List Nat)(H:Nat->Option Blk):l.map (V.low lent io H)=l:=by
 refine Afo fun v hv=> ?_
 have h2:=Z1.1 h v hv;cases v<;>first|rfl|grind [V.closed]
theorem Ay.lowB_at (h:Ay fd f es)(lent:Bool)(io:List Nat)(H:Nat->Option Blk)(ver:Nat)(l:List α):Et lent io H ⟨ver,es,l.map fd⟩=⟨0,es,l.map fd⟩:=by
 unfold Et;congr 1;rw[Ar];exact Bf fun a _=>Afs (h.closed a) _ _ _
end
section
variable {F:Fr} {T:Tab} {S:St} {o:Oper}
theorem Amk{t:Nat}{x y:Operand}(h:o.op= .makeSlice t x y)(id:Nat){ti te:TI}{e:Nat}{kl kc:IntKind}{l c:Int}(hx:S.val [] x= .c (.int kl l))(hy:S.val [] y= .c (.int kc c))(ht:tg T t=some ti)(hk:ti.k= .slice e)(he:tg T e=some te)(hid:Nat.ble 100 id=true)(hpos:Nat.blt 0 te.size=true)(hzl:te.zero.length=te.size)
  (hb:0<=l/\l<=c/\(te.bytes:Int)*c<=281474976710656/\c<=9223372036854775807):
  Ai F T o S {v:= .c (.own id (S.nv id) 0 l.toNat),upd:=[(id,some ⟨S.nv id,te.size,List.replicate l.toNat te.zero⟩)],bump:=[id],use:=Q2 [x,y],ids:=[id]}:=by
 intro henv hd S' h1 h2 a w hs;obtain⟨hdf,hsz,σ,β,hs⟩:=hs;obtain⟨b1,b2,b3,b4⟩:=hb;have hpos':0<te.size:=Az hpos;have hnv:S'.nv id=S.nv id:=(h2 id (by simp)).2;have g1:=Q4 hs [] x;have g2:=Q4 hs [] y;rw[vc h1 (by simp) hx]at g1;rw[vc h1 (by simp) hy]at g2;have e1:=Bo g1;have e2:=Bo g2;have hT:=henv.tab;obtain⟨inf,i1,i2,i3,z,i4,i5,_⟩:=(hT.ty he).inf;obtain⟨c1,c2⟩:=Ks (E:=S'.cx w σ β) i5;have hcz:B8 (S'.cx w σ β) te.zero z.cells:=⟨by grind,fun i v hi=>by grind⟩;have hzs:z.cells.size=te.size:=by grind
 have u1:=(hT.ty ht).slice hk;have hrun:=run_make (P:=F.P) w t e inf z u1 i1 i4 kl kc l c b1 b2 (by grind) b4;have hlaid:Hh (S'.cx w σ β) te.size (List.replicate l.toNat te.zero) (madeCells z.cells (c.toNat*inf.size)):=by
  refine⟨fun x hx=>by grind,fun k j x v hk hj=> ?_⟩;have hkl:k<l.toNat:=by grind
  have hxz:x=te.zero:=by
   grind
  subst hxz;have hjl:j<te.size:=by grind
  obtain⟨cc,q1,q2⟩:=hcz.2 j v hj;refine⟨cc,?_,q2⟩;have hlt:k*te.size+j<c.toNat*inf.size:=by
   rw[i2];have h3:(k+1)*te.size<=c.toNat*te.size:=Bx _ (by omega)
   grind
  have hmod:(k*te.size+j) % te.size=j:=by grind [Nat.add_mul_mod_self_right,Nat.mod_eq_of_lt]
  simp_all[madeCells]
 have hmax:c.toNat<=maxLen:=by grind [maxLen]
 have:=hs.alloc (Dn henv.m (Az hid)) (es:=te.size) (n:=c.toNat) (xs:=List.replicate l.toNat te.zero) e hlaid (by grind) (by simp[madeCells,i2]);refine .inl ⟨.slice (some ⟨w.heap.size,0,none⟩) l.toNat c.toNat,World.push w (madeCells z.cells (c.toNat*inf.size)) e,?_,by grind [Df],by grind [Q7],Aa σ w.heap.size [id],Aa β id (some (w.heap.size,0,c.toNat)),?_⟩
 ·simp only[execOp,h,e1,e2,Sem.run_bind,hrun,Result.andThen_ok,Sem.run_pure];rfl
 ·rw[P9,<-hnv];have hov:=Jm (S:=S') id te.size c.toNat (List.replicate l.toNat te.zero) (World.push w (madeCells z.cells (c.toNat*inf.size)) e) (Aa σ w.heap.size [id]) β w.heap.size (by grind) hmax;rw[List.length_replicate]at hov;exact this.putT hsz hd (.c hov)
theorem Aml{α:Type}{t:Nat}{x y:Operand}(h:o.op= .makeSlice t x y)(id:Nat){f:α->List V}(z:α){ti te:TI}{e:Nat}{kl kc:IntKind}{l c:Int}(hx:S.val [] x= .c (.int kl l))(hy:S.val [] y= .c (.int kc c))(ht:tg T t=some ti)(hk:ti.k= .slice e)(he:tg T e=some te)(hz:te.zero=f z)(hid:Nat.ble 100 id=true)(hpos:Nat.blt 0 te.size=true)(hzl:te.zero.length=te.size)
  (hb:0<=l/\l<=c/\(te.bytes:Int)*c<=281474976710656/\c<=9223372036854775807):
  Ai F T o S {v:= .c (.own id (S.nv id) 0 (List.replicate l.toNat z).length),upd:=[(id,some ⟨S.nv id,te.size,(List.replicate l.toNat z).map f⟩)],bump:=[id],use:=Q2 [x,y],ids:=[id]}:=by
 grind [Amk,List.map_replicate]
theorem Amm{α:Type}[Inhabited α]{t:TypeId}{x y:Operand}(h:o.op= .store t x y)(hd0:o.dst=none)(sh:List Nat){f:α->List V}(l:List α)(a:α){ti:TI}{id ver j:Nat}{i:Int}(hi:0<=i/\i<l.length){es:Nat}{u:A}(hy:S.val sh y=u)(hx:S.val [] x= .c (.ptr id ver i.toNat j))(hB:S.H id=some ⟨ver,es,l.map f⟩)(ht:tg T t=some ti)(hu:Cr u=true)(huc:Fl u.cells=true)(hul:u.cells.length=ti.size)
  (hfl:Nat.ble (j+ti.size) (f (gt l i)).length=true) (hv:Dg (f (gt l i)) j u.cells=f a):Ai F T o S {v:= .c .undef,upd:=[(id,some ⟨ver,es,(l.set i.toNat a).map f⟩)],use:=Q2 [x,y],ids:=[id]}:=by
 have:=T7 (F:=F) h hd0 sh hy hx (f (gt l i)) hB (M5 f hi) rfl ht hu huc hul hfl;simp_all
theorem Amn{α:Type}[Inhabited α]{t:TypeId}{x:Operand}(h:o.op= .load t x){f:α->List V}(l:List α){ti:TI}{id ver:Nat}{i:Int}(hi:0<=i/\i<l.length){j es:Nat}{y:List V}{u:A}(hx:S.val [] x= .c (.ptr id ver i.toNat j))(hB:S.H id=some ⟨ver,es,(l.map f).set i.toNat y⟩)(ht:tg T t=some ti)
  (hj:Nat.ble (j+ti.size) y.length=true) (hw:Dw ti.k.agg ((y.drop j).take ti.size)=some u) (hn:((y.drop j).take ti.size).all (fun v=> !D7 v)=true):Ai F T o S {v:=u,use:=Q2 [x],ids:=[id]}:=
 sLk h hx ht hB rfl (by
  grind) hj hw hn
end
section
variable {F:Fr} {T:Tab} {ops:Array Oper} {q:Nat} {S:St} {lo:List Oper} {Q:Exit->St->Prop}
end
def Eu (lent:Bool)(io:List Nat)(H:Nat->Option Blk)(id:Nat):Blk:=match H id with|some B=>Et lent io H B|none=>default
def Jp (S:St):List Nat->List Blk->Prop
 |id::r,B'::Bs=>(∀B,S.H id=some B->B.es=B'.es/\B.xs.length=B'.xs.length)/\Jp S r Bs
 |[],_=>True
 |_::_,[]=>False
theorem Amo{S:St}{Bs:List Blk}:Jp S [] Bs:=by cases Bs<;>trivial
theorem Jp.at_{S:St}{io:List Nat}{Bs:List Blk}(h:Jp S io Bs): ∀(i id:Nat) B B',io[i]? =some id->S.H id=some B->Bs[i]? =some B'->B.es=B'.es/\B.xs.length=B'.xs.length:=by
 induction io generalizing Bs with
 |nil=>grind
 |cons x r ih=>
  cases Bs with
  |nil=>cases h
  |cons C Cs=>
   intro i id B B' h1 h2 h3;cases i with
   |zero=>simp at h1 h3;subst h1;subst h3;exact h.1 B h2
   |succ i=>exact ih h.2 i id B B' (by grind) h2 (by grind)
def E4 (io news:List Nat):List Bool:=io.map (fun _=>true)++news.map (fun _=>false)
theorem sCg{F:Fr}{T:Tab}{S:St}{o:Oper}{x:Operand}{xs:Array Operand}{ats:Array TypeId}{f:FuncId}{args:List A}{res:A}{H0 H1:List Blk}(hsp:Sp F.P f args H0 res H1)(hf:Cg F.P f)(lent:Bool)(io news L:List Nat){U:List (Nat×Option Blk)}{bm:List Nat}{caps:List V}{v:A}(h:o.op= .call ⟨.value x,xs,ats⟩)(hx:S.val [] x= .c (.fn f caps))(hargs:(Ga S xs caps).map (A.low lent io (Cw L S.H))=args)(hH0:io.map (Eu lent io (Cw L S.H))=H0)
  (hnd:(io++news).Nodup) (hlive:io.all (fun id=>(Cw L S.H id).isSome)=true) (hL:(io++news).all (fun id=>L.contains id)=true) (hnew:news.all (fun id=>Nat.ble 100 id)=true) (hlen:(io++news).length=H1.length) (hsl:Jp S io H1)
  (hu:Fb lent (io++news) (Cf S (io++news) (E4 io news)) (io++news) H1=U) (hb:F9 (io++news) (E4 io news)=bm) (hv:res.backT lent (io++news) (Cf S (io++news) (E4 io news))=v):
  Ai F T o S {v,upd:=U,bump:=bm,use:=Q2 (x::xs.toList),ids:=L}:=fun he hd=>by
 have:=Akt h hd hx hf lent io news L (E4 io news) hsp hargs hH0 hnd (fun id hi=>Z1.1 hlive id hi) (fun id hi=>by grind) (fun id hi=>by have:=Az (Z1.1 hnew id hi);grind [Bh.m]) hlen (by simp[E4]) (fun i hi=>by
  have hlt:i<io.length:=by
   grind [E4]
  refine⟨hlt,fun id B B' h1 h2 h3=> ?_⟩
  grind [Jp.at_])
 grind
theorem Amq{S:St}{T:Tab}{rl:List ResultVar}{u res:A}{H1:List Blk}(n0:Nat)(outs:List Nat)(hnd:outs.Nodup)(hpre:(List.range n0).all (fun i=>outs[i]? ==some (i+1))=true)(hsome:outs.all (fun id=>(S.H id).isSome)=true)(h:Hm T S rl=some u)(hu:u.lowT false outs S.H=res)(hB:outs.map (Eu false outs S.H)=H1):Qg T rl n0 res H1 .ret S:=
 ⟨.inr rfl,outs,u,hnd,fun i hi=>by grind,fun id hi=>Z1.1 hsome id hi,h,hu,hB⟩
def Ax5{α β:Type}(x:α)(k:α->Option β):Option β:=k x
section
variable {F:Fr} {S:St} {Q:Exit->St->Prop} {c:Code}
end
section
variable {F:Fr} {T:Tab} {ops:Array Oper} {i:Nat} {S:St} {o:Oper} {r:Rec} {l:List Oper} {Q:Exit->St->Prop} {K:List Rec->St->Prop} {α:Type} {x y z:α}
end
theorem SpW{P:Program}{T:Tab}(hT:Av P T){f:FuncId}{fn:Func}{c:Code}{args:List A}{H0:List Blk}{res:A}{H1:List Blk}{l:List ResultVar}(hf:P.funcs[f]? =some fn)(hb:fn.body=some c)(hl:fn.results=l.toArray)(N m:Nat)(hlen:Nat.ble l.length 4=true)(hn:fn.ntmps=N)(hN:Nat.ble args.length N=true)(hm:H0.length+1=m)(hm2:Nat.ble m 100=true)
  (h: ∀w0 σ0 β0,Bh ⟨P,N,w0,σ0,β0,m⟩ T->W ⟨P,N,w0,σ0,β0,m⟩ c (Qe args H0) (Qg T l H0.length res H1)):Sp P f args H0 res H1:=by
 refine Sp.of_W hT hf hb hl (Az hlen) (by simp_all) fun F hP hN' hm'=> ?_
 obtain⟨P',N',w0,σ0,β0,m'⟩:=F;obtain rfl:P'=P:=hP;obtain rfl:N'=N:=hN'.trans hn;obtain rfl:m'=m:=hm'.trans hm;exact h w0 σ0 β0 ⟨Az hm2,hT⟩
section
variable {T:Tab} {F:Fr} {S:St} {a:Act} {w:World} {σ:Nat->List Nat} {β:Nat->Option (Nat×Nat×Nat)}
theorem Ac.reσ (hs:Ac F S a w σ β)(f:List Nat->List Nat)(h0:f []=[])(h00:f [0]=[0])(hi: ∀i B,S.H i=some B-> ∀r,f (i::r)=i::r):Ac F S a w (fun b=>f (σ b)) β:=by
 have hext:Cq (S.cx w σ β) (S.cx w (fun b=>f (σ b)) β):=⟨fun _=>Z9 _,fun id B h _=>⟨B,h,rfl,rfl,rfl,rfl⟩⟩;refine⟨⟨hs.hr.far,fun i B hB=> ?_,fun b hb=> ?_⟩,hs.mpos,⟨hs.kp.os,hs.kp.tape,hs.kp.output,hs.kp.size,hs.kp.heap,fun b hb h=> ?_⟩,hs.inn,fun t=>(hs.env t).mono hext fun b _ hc=>⟨rfl,?_⟩⟩
 ·obtain⟨h1,h2⟩:=hs.hr.blk i B hB;refine⟨h1,h2.mono hext rfl fun b _ hc=>⟨rfl,?_⟩⟩;show f (σ b)=σ b;rcases hc with hc|⟨_,hc⟩
  ·rw[show σ b=[] from hc,h0]
  ·obtain⟨r,hr⟩:=hc;rw[show σ b=i::r from hr.symm,hi i B hB]
 ·show f (σ b)=[];rw[show σ b=[] from hs.hr.new b hb,h0]
 ·show f (σ b)=F.σ0 b;have e:=hs.kp.free b hb h
  grind
 ·show f (σ b)=σ b;have hc:σ b=[]:=hc.resolve_right (by simp)
  grind
theorem Ac.allocP (hs:Ac F S a w σ β){id:Nat}(hid:F.m<=id){es n:Nat}{xs:List (List V)}{arr:Array Value}(T:TypeId)(hx: ∀x∈xs,x.length=es)(hl: ∀(k j:Nat) x v,xs[k]? =some x->x[j]? =some v-> ∃c,arr[k*es+j]? =some c/\RV (S.cx w σ β) [id,k,j] v c)(hn:xs.length<=n)(hsz:n*es<=arr.size):
  Ac F (S.set id ⟨S.nv id,es,xs⟩) a (World.push w arr T) (Aa σ w.heap.size [id]) (Aa β id (some (w.heap.size,0,n))):=by
 have hold: ∀b,b<w.heap.size->(World.push w arr T).heap[b]? =w.heap[b]? /\Aa σ w.heap.size [id] b=σ b:=fun b hb=>⟨P7 w arr T hb,Q0 _ _ (by omega)⟩
 have hnear: ∀p,Bg w σ (World.push w arr T) (Aa σ w.heap.size [id]) p:=fun p b hb _=>hold b hb
 have hext:=To (S:=S) (w:=w) (σ:=σ) (β:=β) id es xs (World.push w arr T) (Aa σ w.heap.size [id]) (β':=Aa β id (some (w.heap.size,0,n))) (fun i hi=>Q0 _ _ hi);have hid0:id≠0:=by grind [mpos]
 refine⟨⟨(Q0 _ _ (fun h=>hid0 h.symm)).trans hs.hr.far,fun i B hB=> ?_,fun b hb=> ?_⟩,hs.mpos,⟨hs.kp.os,hs.kp.tape,hs.kp.output,?_,fun b hb h0=> ?_,fun b hb h0=> ?_⟩,fun i hi=> ?_,fun t=>(hs.env t).mono hext (hnear [])⟩
 ·have h':Aa S.H id (some ⟨S.nv id,es,xs⟩) i=some B:=hB;by_cases e:i=id
  ·subst e;rw[Q1]at h';cases h';refine⟨by show S.nv i<Aa S.nv i (S.nv i+1) i;rw[Q1];omega,?_⟩;refine BR.mk (b:=w.heap.size) (o:=0) (n:=n) (Q1 _ _ _) ⟨Q1 _ _ _,hx,hn,arr,T,Aes w arr T,by grind,fun k j x v hk hj=> ?_⟩;obtain⟨c,h1,h2⟩:=hl k j x v hk hj;exact⟨c,by grind,h2.mono hext (hnear _)⟩
  ·rw[Q0 _ _ e]at h';obtain⟨h1,h2⟩:=hs.hr.blk i B h';refine⟨by show B.ver<Aa S.nv id (S.nv id+1) i;rw[Q0 _ _ e];exact h1,h2.mono hext (Q0 _ _ e) (hnear [i])⟩
 ·have hb':w.heap.size+1<=b:=by rw[<-P8 w arr T];exact hb
  show Aa σ w.heap.size [id] b=[];rw[Q0 _ _ (by omega)];exact hs.hr.new b (by show w.heap.size<=b;omega)
 ·rw[P8];exact Nat.le_succ_of_le hs.kp.size
 ·rw[P7 w arr T (Ee hb hs.kp.size)];exact hs.kp.heap b hb h0
 ·rw[Q0 _ _ (by have:=hs.kp.size;omega)];exact hs.kp.free b hb h0
 grind [Q0,inn]
theorem Ac.retakeP (hs:Ac F S a w σ β){id:Nat}(hdead:S.H id=none)(hid0:id≠0){b:Nat}(hσ:σ b=[id]){nid:Nat}(hnid:F.m<=nid){arr arr':Array Value}{T:TypeId}(hh:w.heap[b]? =some (.cells arr T (0,0)))(hsz:arr'.size=arr.size)
  {o' n' es:Nat} {xs':List (List V)} (hfit:o'+n'*es<=arr.size) (hlen:xs'.length<=n') (hes: ∀x∈xs',x.length=es) (hl: ∀(k j:Nat) x v,xs'[k]? =some x->x[j]? =some v-> ∃c,arr'[o'+k*es+j]? =some c/\RV (S.cx w σ β) [nid,k,j] v c):
  Ac F ⟨S.env,Aa S.H nid (some ⟨S.nv nid,es,xs'⟩),Aa S.nv nid (S.nv nid+1)⟩ a (w.setRow b arr') (Aa σ b [nid]) (Aa β nid (some (b,o',n'))):=by
 have hn0:nid≠0:=by grind [mpos]
 have hother: ∀b',b'≠b->(w.setRow b arr').heap[b']? =w.heap[b']? /\Aa σ b [nid] b'=σ b':=fun b' h=>⟨setRow_other w b b' arr' h,Q0 _ _ h⟩
 have hnear: ∀p,¬(p≠[]/\p <+: [id])->Bg w σ (w.setRow b arr') (Aa σ b [nid]) p:=by
  intro p hp b' _ hc
  grind
 have hext:Cq (S.cx w σ β) ((⟨S.env,Aa S.H nid (some ⟨S.nv nid,es,xs'⟩),Aa S.nv nid (S.nv nid+1)⟩:St).cx (w.setRow b arr') (Aa σ b [nid]) (Aa β nid (some (b,o',n')))):=by
  refine⟨fun i=> ?_,fun i B' h hv=> ?_⟩
  ·show S.nv i<=Aa S.nv nid (S.nv nid+1) i;by_cases e:i=nid
   all_goals simp_all[Q1,Q0]
  ·have h':Aa S.H nid (some ⟨S.nv nid,es,xs'⟩) i=some B':=h;by_cases e:i=nid
   ·subst e;rw[Q1]at h';cases h';exact absurd hv (Nat.lt_irrefl _)
   ·rw[Q0 _ _ e]at h';exact⟨B',h',rfl,rfl,rfl,Q0 _ _ e⟩
 refine⟨⟨?_,fun i B' h=> ?_,fun b' hb'=> ?_⟩,hs.mpos,⟨hs.kp.os,hs.kp.tape,hs.kp.output,?_,fun b' hb' h0=> ?_,fun b' hb' h0=> ?_⟩,fun i hi=> ?_,fun t=>(hs.env t).mono hext (hnear [] (by simp))⟩
 ·show Aa S.H nid _ 0=none;rw[Q0 _ _ (fun h=>hn0 h.symm)];exact hs.hr.far
 ·have h':Aa S.H nid (some ⟨S.nv nid,es,xs'⟩) i=some B':=h;by_cases e:i=nid
  ·subst e;rw[Q1]at h';cases h';refine⟨by show S.nv i<Aa S.nv i (S.nv i+1) i;rw[Q1];omega,BR.mk (Q1 _ _ _) ⟨Q1 _ _ _,hes,hlen,arr',T,setRow_heap w b arr arr' T (0,0) hh,by grind,fun k j x v hk hj=> ?_⟩⟩;obtain⟨c,h1,h2⟩:=hl k j x v hk hj;exact⟨c,h1,h2.mono hext (hnear _ (fun hp=>by grind))⟩
  ·rw[Q0 _ _ e]at h';obtain⟨h1,h2⟩:=hs.hr.blk i B' h';refine⟨by show B'.ver<Aa S.nv nid (S.nv nid+1) i;rw[Q0 _ _ e];exact h1,h2.mono hext (Q0 _ _ e) (hnear [i] (fun hp=> ?_))⟩
   grind
 ·have hb2:w.heap.size<=b':=by have:(w.setRow b arr').heap.size<=b':=hb';simp_all
  show Aa σ b [nid] b'=[];rw[Q0 _ _ (by grind)];exact hs.hr.new b' hb2
 ·rw[setRow_size];exact hs.kp.size
 ·rw[(hother b' (fun e=> ?_)).1]
  ·exact hs.kp.heap b' hb' h0
  ·subst e;have:=hs.kp.free b' hb' h0
   grind
 ·rw[(hother b' (fun e=> ?_)).2]
  ·exact hs.kp.free b' hb' h0
  ·subst e;have:=hs.kp.free b' hb' h0
   grind
 grind [Q0,inn]
theorem Jq{w:World}{es b o:Nat}(hpos:0<es)(xs:List (List V))(Q:Nat->Nat->V->Value->Prop)(hx: ∀x∈xs,x.length=es)(h: ∀(k j:Nat) x v,xs[k]? =some x->x[j]? =some v-> ∃u,w.cell? ⟨b,o+k*es+j,none⟩=some u/\Q k j v u):
  ∃us:List Value,us.length=xs.length*es/\(∀(j:Nat) u,us[j]? =some u->w.cell? ⟨b,o+j,none⟩=some u)/\ ∀(k j:Nat) x v,xs[k]? =some x->x[j]? =some v-> ∃u,us[k*es+j]? =some u/\Q k j v u:=by
 refine⟨(List.range (xs.length*es)).map fun i=>(w.cell? ⟨b,o+i,none⟩).getD undef,by simp,fun i u hi=> ?_,fun k j x v hk hj=> ?_⟩
 ·rw[As]at hi;have hlt:i<xs.length*es:=by
   grind
  rw[List.getElem?_range hlt]at hi;have hk:i / es<xs.length:=Nat.div_lt_of_lt_mul (by grind);have hj:i % es<(xs[i / es]).length:=by simp_all[Nat.mod_lt]
  obtain⟨u0,h1,_⟩:=h (i / es) (i % es) _ _ (A3 hk) (A3 hj)
  grind [Nat.div_add_mod]
 ·obtain⟨u,h1,h2⟩:=h k j x v hk hj;refine⟨u,?_,h2⟩;obtain⟨hkl,hjl⟩:=Jo hx hk hj;have hlt:k*es+j<xs.length*es:=by
   have:(k+1)*es<=xs.length*es:=Bx _ hkl
   grind
  grind
theorem Ky (hs:Ac F S a w σ β){id ver es:Nat}{xs:List (List V)}{c:Value}(h:RV (S.cx w σ β) [] (.own id ver 0 xs.length) c)(hB:S.H id=some ⟨ver,es,xs⟩)(hcl:allClosed ⟨ver,es,xs⟩=true):
  ∃A cap,c= .slice A xs.length cap/\xs.length<=cap/\cap<=maxLen/\(∀x∈xs,x.length=es)/\
   (0<cap-> ∃b o n arr T,β id=some (b,o,n)/\A=some ⟨b,o,none⟩/\cap<=n/\σ b=[id]/\w.heap[b]? =some (.cells arr T (0,0))/\o+n*es<=arr.size/\ ∀(k j:Nat) x v,xs[k]? =some x->x[j]? =some v-> ∃u,arr[o+k*es+j]? =some u/\RC w σ [id,k,j] v u):=by
 cases h with
 |c h=>cases h
 |own _ _ _ _ _ A n cap hn hv hcap hmax h=>
  subst hn;obtain⟨_,h2⟩:=h _ hB rfl;have hbr:=(hs.hr.blk id _ hB).2;have hes: ∀x∈xs,x.length=es:=by
   intro x hx;cases e:β id with
   |none=>have:xs=[]:=hbr.void e;grind
   |some q=>obtain⟨b,o,n⟩:=q;exact(hbr.some e).2.1 x hx
  refine⟨A,cap,rfl,hcap,hmax,hes,fun h0=> ?_⟩;obtain⟨b,o,n,h3,rfl,h5⟩:=h2.at_ h0;obtain⟨q1,q2,q3,arr,T,q4,q5,q6⟩:=hbr.some h3;refine⟨b,o,n,arr,T,h3,by simp,by omega,q1,q4,q5,fun k j x v hk hj=> ?_⟩;obtain⟨u,g1,g2⟩:=q6 k j x v hk hj;exact⟨u,g1,g2.rc (Z1.1 (Z1.1 hcl x (Z6 hk)) v (Z6 hj))⟩
theorem Aft (hs:Ac F S a w σ β){id ver es:Nat}{xs:List (List V)}{c:Value}(h:RV (S.cx w σ β) [] (.own id ver 0 xs.length) c)(hB:S.H id=some ⟨ver,es,xs⟩)(hcl:noT xs=true):
  ∃A cap,c= .slice A xs.length cap/\xs.length<=cap/\cap<=maxLen/\(∀x∈xs,x.length=es)/\
   (0<cap-> ∃b o n arr T,β id=some (b,o,n)/\A=some ⟨b,o,none⟩/\cap<=n/\σ b=[id]/\w.heap[b]? =some (.cells arr T (0,0))/\o+n*es<=arr.size/\ ∀(k j:Nat) x v,xs[k]? =some x->x[j]? =some v-> ∃u,arr[o+k*es+j]? =some u/\RV (S.cx w σ β) [] v u):=by
 cases h with
 |c h=>cases h
 |own _ _ _ _ _ A n cap hn hv hcap hmax h=>
  subst hn;obtain⟨_,h2⟩:=h _ hB rfl;have hbr:=(hs.hr.blk id _ hB).2;have hes: ∀x∈xs,x.length=es:=by
   intro x hx;cases e:β id with
   |none=>have:xs=[]:=hbr.void e;grind
   |some q=>obtain⟨b,o,n⟩:=q;exact(hbr.some e).2.1 x hx
  refine⟨A,cap,rfl,hcap,hmax,hes,fun h0=> ?_⟩;obtain⟨b,o,n,h3,rfl,h5⟩:=h2.at_ h0;obtain⟨q1,q2,q3,arr,T,q4,q5,q6⟩:=hbr.some h3;refine⟨b,o,n,arr,T,h3,by simp,by omega,q1,q4,q5,fun k j x v hk hj=> ?_⟩
  grind [M1,Ue]
def A5 (idx idy nid n:Nat):List Nat->List Nat
 |i::k::r=>if i=idx then nid::k::r else if i=idy then nid::(n+k)::r else i::k::r
 |s=>s
theorem Ams (hT:Av F.P T)(hs:Ac F S a w σ β){t ty e:Nat}{ti te:TI}(ht:tg T t=some ti)(hk:ti.k= .slice e)(he:tg T e=some te)(hpos:0<te.size)(hzl:te.zero.length=te.size)
  {u:V} {cu cv:Value} {idx vx idy vy:Nat} {xs ys:List (List V)} (hu:RV (S.cx w σ β) [] u cu) (hv:RV (S.cx w σ β) [] (.own idy vy 0 ys.length) cv)
  (hY:S.H idy=some ⟨vy,te.size,ys⟩) (hcy:allClosed ⟨vy,te.size,ys⟩=true)
  (hbase:(u= .own idx vx 0 xs.length/\S.H idx=some ⟨vx,te.size,xs⟩/\allClosed ⟨vx,te.size,xs⟩=true/\idx≠idy)\/(u= .row true te.size []/\xs=[]/\S.H idx=none))
  (hb:(xs.length+ys.length)*te.bytes<=140737488355328) (hm:xs.length+ys.length<=maxLen) (nid:Nat) (hnid:F.m<=nid):
  ∃c w' σ' β',(Builtin.append_ #[t,t] ty #[cu,cv]).run F.P w= .ok c w'/\
   Ac F ⟨S.env,Aa (Aa (Aa S.H idy none) idx none) nid (some ⟨S.nv nid,te.size,xs++ys⟩),Aa S.nv nid (S.nv nid+1)⟩ a w' σ' β'/\
   RV ((⟨S.env,Aa (Aa (Aa S.H idy none) idx none) nid (some ⟨S.nv nid,te.size,xs++ys⟩),Aa S.nv nid (S.nv nid+1)⟩:St).cx w' σ' β') [] (.own nid (S.nv nid) 0 (xs.length+ys.length)) c:=by
 have hidy0:idy≠0:=by rintro rfl;have h0:S.H 0=none:=hs.hr.far;grind
 obtain⟨A,cap,rfl,hc1,hc2,hxes,hxc,hidx0⟩: ∃A cap,cu= .slice A xs.length cap/\xs.length<=cap/\cap<=maxLen/\(∀x∈xs,x.length=te.size)/\
   (0<cap-> ∃b o n arr T',β idx=some (b,o,n)/\A=some ⟨b,o,none⟩/\cap<=n/\σ b=[idx]/\w.heap[b]? =some (.cells arr T' (0,0))/\o+n*te.size<=arr.size/\ ∀(k j:Nat) x v,xs[k]? =some x->x[j]? =some v-> ∃u,arr[o+k*te.size+j]? =some u/\RC w σ [idx,k,j] v u)/\(0<cap->idx≠0/\idx≠idy):=by
  rcases hbase with ⟨rfl,hX,hcx,hne⟩|⟨rfl,rfl,hX⟩
  ·obtain⟨A,cap,q1,q2,q3,q4,q5⟩:=Ky hs hu hX hcx;exact⟨A,cap,q1,q2,q3,q4,q5,fun _=>⟨(by rintro rfl;have h0:S.H 0=none:=hs.hr.far;grind),hne⟩⟩
  ·cases hu with
   |c hu=>
    cases hu with
    |row p o es xs0 A0 n0 cap0 b off cs hn hcap hmax hA hT0 hx0 hcc hrr=>
     have h0: ¬0<cap0:=fun h=>by
      grind
     refine⟨A0,cap0,by rw[hn],by simp,hmax,by simp,fun h=>absurd h h0,fun h=>absurd h h0⟩
 obtain⟨A2,cap2,rfl,hd1,hd2,hyes,hyc⟩:=Ky hs hv hY hcy;obtain⟨news,hnl,hnc,hnv⟩: ∃news:List Value,news.length=ys.length*te.size/\(0<ys.length-> ∃x,A2=some x/\ ∀(j:Nat) u,news[j]? =some u->w.cell? (x.add j)=some u)/\ ∀(k j:Nat) x v,ys[k]? =some x->x[j]? =some v-> ∃u,news[k*te.size+j]? =some u/\RC w σ [idy,k,j] v u:=by
  rcases Cz ys.length with h0|h0
  ·simp_all
  ·obtain⟨b,o2,n,arr,T',g0,rfl,_,_,g1,_,g2⟩:=hyc (by omega);obtain⟨us,p1,p2,p3⟩:=Jq (w:=w) (b:=b) (o:=o2) hpos ys (fun k j v u=>RC w σ [idy,k,j] v u) hyes (fun k j x v hk hj=>by
    obtain⟨u,q1,q2⟩:=g2 k j x v hk hj;exact⟨u,(Cb g1).trans q1,q2⟩)
   exact⟨us,p1,fun _=>⟨_,rfl,fun j u hj=>by grind [Cv]⟩,p3⟩
 obtain⟨olds,hol,hoc,hov⟩: ∃olds:List Value,olds.length=xs.length*te.size/\(0<xs.length-> ∃x,A=some x/\ ∀(j:Nat) u,olds[j]? =some u->w.cell? (x.add j)=some u)/\ ∀(k j:Nat) x v,xs[k]? =some x->x[j]? =some v-> ∃u,olds[k*te.size+j]? =some u/\RC w σ [idx,k,j] v u:=by
  rcases Cz xs.length with h0|h0
  ·simp_all
  ·obtain⟨b,o2,n,arr,T',g0,rfl,_,_,g1,_,g2⟩:=hxc (by omega);obtain⟨us,p1,p2,p3⟩:=Jq (w:=w) (b:=b) (o:=o2) hpos xs (fun k j v u=>RC w σ [idx,k,j] v u) hxes (fun k j x v hk hj=>by
    obtain⟨u,q1,q2⟩:=g2 k j x v hk hj;exact⟨u,(Cb g1).trans q1,q2⟩)
   exact⟨us,p1,fun _=>⟨_,rfl,fun j u hj=>by grind [Cv]⟩,p3⟩
 have hall: ∀x∈xs++ys,x.length=te.size:=fun x hx=>(C5.1 hx).elim (hxes x) (hyes x)
 have hd0:Ac F ⟨S.env,Aa (Aa S.H idy none) idx none,S.nv⟩ a w σ β:=(hs.dropH idy).dropH idx;have hd3:=hd0.reσ (A5 idx idy nid xs.length) rfl rfl (fun i B hB r=>by
  have hB:Aa (Aa S.H idy none) idx none i=some B:=hB;have h1:i≠idx:=by grind [Q1]
  rw[Q0 _ _ h1]at hB;have h2:i≠idy:=by grind [Q1]
  cases r with
  |nil=>rfl
  |cons k r=>simp_all[A5])
 have hmx: ∀(k j:Nat) (v:V) (u:Value),0<cap->RC w σ [idx,k,j] v u->RC w (fun b=>A5 idx idy nid xs.length (σ b)) [nid,k,j] v u:=fun k j v u _ h=>h.move (fun b hb=>by simp only[hb];rfl) (fun b r _ hb=>by simp_all[A5]) (fun _=>by simp)
 have hmy: ∀(k j:Nat) (v:V) (u:Value),(idx≠idy\/xs=[])->RC w σ [idy,k,j] v u->RC w (fun b=>A5 idx idy nid xs.length (σ b)) [nid,xs.length+k,j] v u:=fun k j v u hne h=>h.move (fun b hb=>by simp only[hb];rfl) (fun b r _ hb=>by
  simp only[hb,Gh,Hd,A5]
  grind) (fun _=>by simp)
 have hnexy:idx≠idy\/xs=[]:=by
  grind
 have hcapx: ∀ {k:Nat} {x:List V},xs[k]? =some x->0<cap:=fun h=>by grind
 rcases Bj cap (xs.length+ys.length)with hg|hroom
 ·
  obtain⟨arr,hrun,hasz,hac,hge,hcm⟩:=M4 (ty:=ty) hT ht hk he hzl w A xs.length cap A2 ys.length cap2 olds news hol hoc hnl hnc hg hm hb;have hs2:=Ac.drawn' hd3;have hcell: ∀(k j:Nat) x v,(xs++ys)[k]? =some x->x[j]? =some v-> ∃c,arr[k*te.size+j]? =some c/\RV ((⟨S.env,Aa (Aa S.H idy none) idx none,S.nv⟩:St).cx w.drew (fun b=>A5 idx idy nid xs.length (σ b)) β) [nid,k,j] v c:=by
   intro k j x v hk hj;rcases Bj k xs.length with hk2|hk2
   ·rw[D5 hk2]at hk;obtain⟨uu,q1,q2⟩:=hov k j x v hk hj;refine⟨uu,hac _ _ ?_,.c ((hmx k j v uu (hcapx hk) q2).mono fun b _ _=>⟨rfl,rfl⟩)⟩
    grind
   ·rw[C4 hk2]at hk;obtain⟨uu,q1,q2⟩:=hnv (k - xs.length) j x v hk hj;have e0:xs.length+(k - xs.length)=k:=by omega
    have:=hmy (k - xs.length) j v uu hnexy q2;rw[e0]at this;refine⟨uu,hac _ _ ?_,.c (this.mono fun b _ _=>⟨rfl,rfl⟩)⟩;have e:k*te.size+j=olds.length+((k - xs.length)*te.size+j):=by
     grind
    simp_all[C4]
  have hal:=hs2.allocP hnid (es:=te.size) (n:=grownCap w (xs.length+ys.length) cap e) (xs:=xs++ys) (arr:=arr) e hall hcell (by grind) (by omega);refine⟨_,World.push w.drew arr e,_,_,hrun,hal,?_⟩;have:=Jm (S:=⟨S.env,Aa (Aa S.H idy none) idx none,S.nv⟩) nid te.size (grownCap w (xs.length+ys.length) cap e) (xs++ys) (World.push w.drew arr e) (Aa (fun b=>A5 idx idy nid xs.length (σ b)) w.drew.heap.size [nid]) β w.drew.heap.size (by grind) hcm;rw[Jd]at this;exact this
 ·
  have hrun:=M3 (ty:=ty) hT ht hk he w A xs.length cap A2 ys.length cap2 news hnl hnc hroom;have hnews1: ∀x∈news,x.oneCell'=true:=by
   intro x hx;obtain⟨j,hj⟩:=C6.1 hx;have hjl:j<ys.length*te.size:=by grind
   have hq:j / te.size<ys.length:=Nat.div_lt_of_lt_mul (by grind);have hyk:ys[j / te.size]? =some ys[j / te.size]:=A3 hq;have hyl:ys[j / te.size].length=te.size:=hyes _ (Z6 hyk);have hmod:j % te.size<ys[j / te.size].length:=by simp_all[Nat.mod_lt]
   obtain⟨uu,q1,q2⟩:=hnv (j / te.size) (j % te.size) _ _ hyk (A3 hmod);have e:j / te.size*te.size+j % te.size=j:=by simp_all[Nat.mul_comm,Nat.div_add_mod]
   rw[e,hj]at q1;cases q1;generalize ys[j / te.size][j % te.size]=v0 at q2;cases q2<;>rfl
  rcases Cz cap with h0|h0
  ·
   have hx0:xs=[]:=Ec.1 (by omega);have hy0:ys=[]:=Ec.1 (by omega);subst hx0;subst hy0;have hn0:news=[]:=by simp_all
   subst hn0;have hfin:Ac F ⟨S.env,Aa (Aa (Aa S.H idy none) idx none) nid (some ⟨S.nv nid,te.size,[]⟩),Aa S.nv nid (S.nv nid+1)⟩ a w σ (Aa β nid none):=hd0.void hnid te.size;refine⟨.slice A 0 cap,w,σ,Aa β nid none,?_,hfin,?_⟩
   ·rw[hrun];cases A with
    |none=>simp
    |some b=>rfl
   ·refine .own _ _ _ _ _ _ _ _ rfl (by show S.nv nid<Aa S.nv nid (S.nv nid+1) nid;rw[Q1];omega) (Hc _) hc2 fun B hB _=> ?_
    have h':Aa (Aa (Aa S.H idy none) idx none) nid (some ⟨S.nv nid,te.size,[]⟩) nid=some B:=hB;rw[Q1]at h';cases h';exact⟨by simp,.inl h0⟩
  ·
   obtain⟨b,o',n',arr,T',h3,rfl,h5,q1,q4,q5,q6⟩:=hxc h0;obtain⟨hi0,hne⟩:=hidx0 h0;have hroom2:xs.length*te.size+ys.length*te.size<=n'*te.size:=by
    rw[<-D6];exact Bx _ (by omega)
   have hfit:(o'+xs.length*te.size)+0+news.length<=arr.size:=by omega
   have hst:=run_storeCells_at F.P b (o'+xs.length*te.size) T' news 0 arr w q4 hfit hnews1;simp only[Nat.add_zero]at hst;have hov2: ∀i,(An arr (o'+xs.length*te.size) news)[i]? =if o'+xs.length*te.size<=i/\i<o'+xs.length*te.size+news.length then news[i - (o'+xs.length*te.size)]? else arr[i]? :=Eh (by omega)
   have hfin:=hd3.retakeP (id:=idx) (Q1 _ _ _) hi0 (b:=b) (by grind [A5]) hnid (arr':=An arr (o'+xs.length*te.size) news) q4 (Dx (by omega)) (o':=o') (n':=n') (es:=te.size) (xs':=xs++ys) q5 (by grind) hall (fun k j x v hk hj=>by
    obtain⟨hkl,hjl⟩:=Jo hall hk hj;rcases Bj k xs.length with hk2|hk2
    ·rw[D5 hk2]at hk;obtain⟨c,g1,g2⟩:=q6 k j x v hk hj;have hlt:k*te.size+j<xs.length*te.size:=by
      grind
     refine⟨c,?_,.c (hmx k j v c h0 g2)⟩
     grind
    ·rw[C4 hk2]at hk;obtain⟨c,g1,g2⟩:=hnv (k - xs.length) j x v hk hj;have e0:xs.length+(k - xs.length)=k:=by omega
     have:=hmy (k - xs.length) j v c hnexy g2;rw[e0]at this;have e:o'+k*te.size+j=o'+xs.length*te.size+((k - xs.length)*te.size+j):=by
      grind
     have hgl:=(Z3.1 g1).1;refine⟨c,?_,.c this⟩;simp_all)
   refine⟨.slice (some ⟨b,o',none⟩) (xs.length+ys.length) cap,_,_,_,?_,hfin,?_⟩
   ·rw[hrun];simp only;rw[Cv];simp only[Sem.run_bind,hst,Result.andThen_ok,Sem.run_pure];rfl
   ·refine .own _ _ _ _ _ _ _ _ rfl (by show S.nv nid<Aa S.nv nid (S.nv nid+1) nid;rw[Q1];omega) hroom hc2 fun B2 hB2 _=> ?_
    have h':Aa (Aa (Aa S.H idy none) idx none) nid (some ⟨S.nv nid,te.size,xs++ys⟩) nid=some B2:=hB2;rw[Q1]at h';cases h';exact⟨by simp,.inr ⟨b,o',n',Q1 _ _ _,by simp,by omega⟩⟩
theorem Amt (hT:Av F.P T)(hs:Ac F S a w σ β){t ty e:Nat}{ti te:TI}(ht:tg T t=some ti)(hk:ti.k= .slice e)(he:tg T e=some te)(hpos:0<te.size)(hzl:te.zero.length=te.size)
  {cu cv:Value} {idx vx idy vy:Nat} {xs ys:List (List V)} (hu:RV (S.cx w σ β) [] (.own idx vx 0 xs.length) cu) (hv:RV (S.cx w σ β) [] (.own idy vy 0 ys.length) cv)
  (hY:S.H idy=some ⟨vy,te.size,ys⟩) (hcy:allClosed ⟨vy,te.size,ys⟩=true)
  (hX:S.H idx=some ⟨vx,te.size,xs⟩) (hxt:noT xs=true) (hne:idx≠idy)
  (hb:(xs.length+ys.length)*te.bytes<=140737488355328) (hm:xs.length+ys.length<=maxLen) (nid:Nat) (hnid:F.m<=nid):
  ∃c w' σ' β',(Builtin.append_ #[t,t] ty #[cu,cv]).run F.P w= .ok c w'/\
   Ac F ⟨S.env,Aa (Aa (Aa S.H idy none) idx none) nid (some ⟨S.nv nid,te.size,xs++ys⟩),Aa S.nv nid (S.nv nid+1)⟩ a w' σ' β'/\
   RV ((⟨S.env,Aa (Aa (Aa S.H idy none) idx none) nid (some ⟨S.nv nid,te.size,xs++ys⟩),Aa S.nv nid (S.nv nid+1)⟩:St).cx w' σ' β') [] (.own nid (S.nv nid) 0 (xs.length+ys.length)) c:=by
 have hidy0:idy≠0:=by rintro rfl;have h0:S.H 0=none:=hs.hr.far;grind
 have hidx1:idx≠0:=by rintro rfl;have h0:S.H 0=none:=hs.hr.far;grind
 obtain⟨A,cap,rfl,hc1,hc2,hxes,hxc⟩:=Aft hs hu hX hxt;obtain⟨A2,cap2,rfl,hd1,hd2,hyes,hyc⟩:=Ky hs hv hY hcy;obtain⟨news,hnl,hnc,hnv⟩: ∃news:List Value,news.length=ys.length*te.size/\(0<ys.length-> ∃x,A2=some x/\ ∀(j:Nat) u,news[j]? =some u->w.cell? (x.add j)=some u)/\ ∀(k j:Nat) x v,ys[k]? =some x->x[j]? =some v-> ∃u,news[k*te.size+j]? =some u/\RC w σ [idy,k,j] v u:=by
  rcases Cz ys.length with h0|h0
  ·simp_all
  ·obtain⟨b,o2,n,arr,T',g0,rfl,_,_,g1,_,g2⟩:=hyc (by omega);obtain⟨us,p1,p2,p3⟩:=Jq (w:=w) (b:=b) (o:=o2) hpos ys (fun k j v u=>RC w σ [idy,k,j] v u) hyes (fun k j x v hk hj=>by
    obtain⟨u,q1,q2⟩:=g2 k j x v hk hj;exact⟨u,(Cb g1).trans q1,q2⟩)
   exact⟨us,p1,fun _=>⟨_,rfl,fun j u hj=>by grind [Cv]⟩,p3⟩
 obtain⟨olds,hol,hoc,hov⟩: ∃olds:List Value,olds.length=xs.length*te.size/\(0<xs.length-> ∃x,A=some x/\ ∀(j:Nat) u,olds[j]? =some u->w.cell? (x.add j)=some u)/\ ∀(k j:Nat) x v,xs[k]? =some x->x[j]? =some v-> ∃u,olds[k*te.size+j]? =some u/\RV (S.cx w σ β) [] v u:=by
  rcases Cz xs.length with h0|h0
  ·simp_all
  ·obtain⟨b,o2,n,arr,T',g0,rfl,_,_,g1,_,g2⟩:=hxc (by omega);obtain⟨us,p1,p2,p3⟩:=Jq (w:=w) (b:=b) (o:=o2) hpos xs (fun _ _ v u=>RV (S.cx w σ β) [] v u) hxes (fun k j x v hk hj=>by
    obtain⟨u,q1,q2⟩:=g2 k j x v hk hj;exact⟨u,(Cb g1).trans q1,q2⟩)
   exact⟨us,p1,fun _=>⟨_,rfl,fun j u hj=>by grind [Cv]⟩,p3⟩
 have hall: ∀x∈xs++ys,x.length=te.size:=fun x hx=>(C5.1 hx).elim (hxes x) (hyes x)
 have hd0:Ac F ⟨S.env,Aa (Aa S.H idy none) idx none,S.nv⟩ a w σ β:=(hs.dropH idy).dropH idx;have hd3:=hd0.reσ (A5 idx idy nid xs.length) rfl rfl (fun i B hB r=>by
  have hB:Aa (Aa S.H idy none) idx none i=some B:=hB;have h1:i≠idx:=by grind [Q1]
  rw[Q0 _ _ h1]at hB;have h2:i≠idy:=by grind [Q1]
  cases r with
  |nil=>rfl
  |cons k r=>simp_all[A5])
 have hmx: ∀(w':World) (v:V) (u:Value),w'.heap=w.heap->RV (S.cx w σ β) [] v u-> ∀q,RV ((⟨S.env,Aa (Aa S.H idy none) idx none,S.nv⟩:St).cx w' (fun b=>A5 idx idy nid xs.length (σ b)) β) q v u:=fun w' v u hw h q=>by
  refine(h.mono (E':=((⟨S.env,Aa (Aa S.H idy none) idx none,S.nv⟩:St).cx w' (fun b=>A5 idx idy nid xs.length (σ b)) β)) ⟨fun _=>Z9 _,fun i B' hB _=> ?_⟩ fun b _ hc=>⟨by show w'.heap[b]? =w.heap[b]?;rw[hw],?_⟩).any q
  ·have hB:Aa (Aa S.H idy none) idx none i=some B':=hB;have h1:i≠idx:=by grind [Q1]
   rw[Q0 _ _ h1]at hB;have h2:i≠idy:=by grind [Q1]
   rw[Q0 _ _ h2]at hB;exact⟨B',hB,rfl,rfl,rfl,rfl⟩
  ·show A5 idx idy nid xs.length (σ b)=σ b;have hc:σ b=[]:=hc.resolve_right (by simp);rw[hc];rfl
 have hmy: ∀(k j:Nat) (v:V) (u:Value),(idx≠idy\/xs=[])->RC w σ [idy,k,j] v u->RC w (fun b=>A5 idx idy nid xs.length (σ b)) [nid,xs.length+k,j] v u:=fun k j v u hne h=>h.move (fun b hb=>by simp only[hb];rfl) (fun b r _ hb=>by
  simp only[hb,Gh,Hd,A5]
  grind) (fun _=>by simp)
 have hnexy:idx≠idy\/xs=[]:= .inl hne;have hcapx: ∀ {k:Nat} {x:List V},xs[k]? =some x->0<cap:=fun h=>by grind
 rcases Bj cap (xs.length+ys.length)with hg|hroom
 ·
  obtain⟨arr,hrun,hasz,hac,hge,hcm⟩:=M4 (ty:=ty) hT ht hk he hzl w A xs.length cap A2 ys.length cap2 olds news hol hoc hnl hnc hg hm hb;have hs2:=Ac.drawn' hd3;have hcell: ∀(k j:Nat) x v,(xs++ys)[k]? =some x->x[j]? =some v-> ∃c,arr[k*te.size+j]? =some c/\RV ((⟨S.env,Aa (Aa S.H idy none) idx none,S.nv⟩:St).cx w.drew (fun b=>A5 idx idy nid xs.length (σ b)) β) [nid,k,j] v c:=by
   intro k j x v hk hj;rcases Bj k xs.length with hk2|hk2
   ·rw[D5 hk2]at hk;obtain⟨uu,q1,q2⟩:=hov k j x v hk hj;refine⟨uu,hac _ _ ?_,hmx w.drew v uu rfl q2 _⟩
    grind
   ·rw[C4 hk2]at hk;obtain⟨uu,q1,q2⟩:=hnv (k - xs.length) j x v hk hj;have e0:xs.length+(k - xs.length)=k:=by omega
    have:=hmy (k - xs.length) j v uu hnexy q2;rw[e0]at this;refine⟨uu,hac _ _ ?_,.c (this.mono fun b _ _=>⟨rfl,rfl⟩)⟩;have e:k*te.size+j=olds.length+((k - xs.length)*te.size+j):=by
     grind
    grind
  have hal:=hs2.allocP hnid (es:=te.size) (n:=grownCap w (xs.length+ys.length) cap e) (xs:=xs++ys) (arr:=arr) e hall hcell (by grind) (by omega);refine⟨_,World.push w.drew arr e,_,_,hrun,hal,?_⟩;have:=Jm (S:=⟨S.env,Aa (Aa S.H idy none) idx none,S.nv⟩) nid te.size (grownCap w (xs.length+ys.length) cap e) (xs++ys) (World.push w.drew arr e) (Aa (fun b=>A5 idx idy nid xs.length (σ b)) w.drew.heap.size [nid]) β w.drew.heap.size (by grind) hcm;rw[Jd]at this;exact this
 ·
  have hrun:=M3 (ty:=ty) hT ht hk he w A xs.length cap A2 ys.length cap2 news hnl hnc hroom;have hnews1: ∀x∈news,x.oneCell'=true:=by
   intro x hx;obtain⟨j,hj⟩:=C6.1 hx;have hjl:j<ys.length*te.size:=by grind
   have hq:j / te.size<ys.length:=Nat.div_lt_of_lt_mul (by grind);have hyk:ys[j / te.size]? =some ys[j / te.size]:=A3 hq;have hyl:ys[j / te.size].length=te.size:=hyes _ (Z6 hyk);have hmod:j % te.size<ys[j / te.size].length:=by simp_all[Nat.mod_lt]
   obtain⟨uu,q1,q2⟩:=hnv (j / te.size) (j % te.size) _ _ hyk (A3 hmod);have e:j / te.size*te.size+j % te.size=j:=by simp_all[Nat.mul_comm,Nat.div_add_mod]
   rw[e,hj]at q1;cases q1;generalize ys[j / te.size][j % te.size]=v0 at q2;cases q2<;>rfl
  rcases Cz cap with h0|h0
  ·
   have hx0:xs=[]:=Ec.1 (by omega);have hy0:ys=[]:=Ec.1 (by omega);subst hx0;subst hy0;have hn0:news=[]:=by simp_all
   subst hn0;have hfin:Ac F ⟨S.env,Aa (Aa (Aa S.H idy none) idx none) nid (some ⟨S.nv nid,te.size,[]⟩),Aa S.nv nid (S.nv nid+1)⟩ a w σ (Aa β nid none):=hd0.void hnid te.size;refine⟨.slice A 0 cap,w,σ,Aa β nid none,?_,hfin,?_⟩
   ·rw[hrun];cases A with
    |none=>simp
    |some b=>rfl
   ·refine .own _ _ _ _ _ _ _ _ rfl (by show S.nv nid<Aa S.nv nid (S.nv nid+1) nid;rw[Q1];omega) (Hc _) hc2 fun B hB _=> ?_
    have h':Aa (Aa (Aa S.H idy none) idx none) nid (some ⟨S.nv nid,te.size,[]⟩) nid=some B:=hB;rw[Q1]at h';cases h';exact⟨by simp,.inl h0⟩
  ·
   obtain⟨b,o',n',arr,T',h3,rfl,h5,q1,q4,q5,q6⟩:=hxc h0;have hi0:=hidx1;have hroom2:xs.length*te.size+ys.length*te.size<=n'*te.size:=by
    rw[<-D6];exact Bx _ (by omega)
   have hfit:(o'+xs.length*te.size)+0+news.length<=arr.size:=by omega
   have hst:=run_storeCells_at F.P b (o'+xs.length*te.size) T' news 0 arr w q4 hfit hnews1;simp only[Nat.add_zero]at hst;have hov2: ∀i,(An arr (o'+xs.length*te.size) news)[i]? =if o'+xs.length*te.size<=i/\i<o'+xs.length*te.size+news.length then news[i - (o'+xs.length*te.size)]? else arr[i]? :=Eh (by omega)
   have hfin:=hd3.retakeP (id:=idx) (Q1 _ _ _) hi0 (b:=b) (by grind [A5]) hnid (arr':=An arr (o'+xs.length*te.size) news) q4 (Dx (by omega)) (o':=o') (n':=n') (es:=te.size) (xs':=xs++ys) q5 (by grind) hall (fun k j x v hk hj=>by
    obtain⟨hkl,hjl⟩:=Jo hall hk hj;rcases Bj k xs.length with hk2|hk2
    ·grind
    ·rw[C4 hk2]at hk;obtain⟨c,g1,g2⟩:=hnv (k - xs.length) j x v hk hj;have e0:xs.length+(k - xs.length)=k:=by omega
     have:=hmy (k - xs.length) j v c hnexy g2;rw[e0]at this;have e:o'+k*te.size+j=o'+xs.length*te.size+((k - xs.length)*te.size+j):=by
      grind
     have hgl:=(Z3.1 g1).1;refine⟨c,?_,.c this⟩;simp_all)
   refine⟨.slice (some ⟨b,o',none⟩) (xs.length+ys.length) cap,_,_,_,?_,hfin,?_⟩
   ·rw[hrun];simp only;rw[Cv];simp only[Sem.run_bind,hst,Result.andThen_ok,Sem.run_pure];rfl
   ·refine .own _ _ _ _ _ _ _ _ rfl (by show S.nv nid<Aa S.nv nid (S.nv nid+1) nid;rw[Q1];omega) hroom hc2 fun B2 hB2 _=> ?_
    have h':Aa (Aa (Aa S.H idy none) idx none) nid (some ⟨S.nv nid,te.size,xs++ys⟩) nid=some B2:=hB2;rw[Q1]at h';cases h';exact⟨by simp,.inr ⟨b,o',n',Q1 _ _ _,by simp,by omega⟩⟩
theorem Amu (hT:Av F.P T)(hs:Ac F S a w σ β){t ty e:Nat}{ti te:TI}(ht:tg T t=some ti)(hk:ti.k= .slice e)(he:tg T e=some te)(hpos:0<te.size)(hzl:te.zero.length=te.size)
  {u:V} {cu cv:Value} {idx vx idy vy:Nat} {xs ys:List (List V)} (hu:RV (S.cx w σ β) [] u cu) (hv:RV (S.cx w σ β) [] (.own idy vy 0 ys.length) cv)
  (hY:S.H idy=some ⟨vy,te.size,ys⟩) (hyt:noT ys=true)
  (hbase:(u= .own idx vx 0 xs.length/\S.H idx=some ⟨vx,te.size,xs⟩/\allClosed ⟨vx,te.size,xs⟩=true/\idx≠idy)\/(u= .row true te.size []/\xs=[]/\S.H idx=none))
  (hb:(xs.length+ys.length)*te.bytes<=140737488355328) (hm:xs.length+ys.length<=maxLen) (nid:Nat) (hnid:F.m<=nid):
  ∃c w' σ' β',(Builtin.append_ #[t,t] ty #[cu,cv]).run F.P w= .ok c w'/\
   Ac F ⟨S.env,Aa (Aa (Aa S.H idy none) idx none) nid (some ⟨S.nv nid,te.size,xs++ys⟩),Aa S.nv nid (S.nv nid+1)⟩ a w' σ' β'/\
   RV ((⟨S.env,Aa (Aa (Aa S.H idy none) idx none) nid (some ⟨S.nv nid,te.size,xs++ys⟩),Aa S.nv nid (S.nv nid+1)⟩:St).cx w' σ' β') [] (.own nid (S.nv nid) 0 (xs.length+ys.length)) c:=by
 have hidy0:idy≠0:=by rintro rfl;have h0:S.H 0=none:=hs.hr.far;grind
 obtain⟨A,cap,rfl,hc1,hc2,hxes,hxc,hidx0⟩: ∃A cap,cu= .slice A xs.length cap/\xs.length<=cap/\cap<=maxLen/\(∀x∈xs,x.length=te.size)/\
   (0<cap-> ∃b o n arr T',β idx=some (b,o,n)/\A=some ⟨b,o,none⟩/\cap<=n/\σ b=[idx]/\w.heap[b]? =some (.cells arr T' (0,0))/\o+n*te.size<=arr.size/\ ∀(k j:Nat) x v,xs[k]? =some x->x[j]? =some v-> ∃u,arr[o+k*te.size+j]? =some u/\RC w σ [idx,k,j] v u)/\(0<cap->idx≠0/\idx≠idy):=by
  rcases hbase with ⟨rfl,hX,hcx,hne⟩|⟨rfl,rfl,hX⟩
  ·obtain⟨A,cap,q1,q2,q3,q4,q5⟩:=Ky hs hu hX hcx;exact⟨A,cap,q1,q2,q3,q4,q5,fun _=>⟨(by rintro rfl;have h0:S.H 0=none:=hs.hr.far;grind),hne⟩⟩
  ·cases hu with
   |c hu=>
    cases hu with
    |row p o es xs0 A0 n0 cap0 b off cs hn hcap hmax hA hT0 hx0 hcc hrr=>
     have h0: ¬0<cap0:=fun h=>by
      grind
     refine⟨A0,cap0,by rw[hn],by simp,hmax,by simp,fun h=>absurd h h0,fun h=>absurd h h0⟩
 obtain⟨A2,cap2,rfl,hd1,hd2,hyes,hyc⟩:=Qo hs hv (xs:=ys) (by simp only[Cc,hY,Hf,List.take_length];cases e:Nat.decEq vy vy with|isTrue _=>rfl|isFalse h=>omega) (fun B hB=>by grind) hyt hpos
 obtain⟨news,hnl,hnc,hnv⟩: ∃news:List Value,news.length=ys.length*te.size/\(0<ys.length-> ∃x,A2=some x/\ ∀(j:Nat) u,news[j]? =some u->w.cell? (x.add j)=some u)/\ ∀(k j:Nat) x v,ys[k]? =some x->x[j]? =some v-> ∃u,news[k*te.size+j]? =some u/\RV (S.cx w σ β) [] v u:=by
  rcases Cz ys.length with h0|h0
  ·simp_all
  ·obtain⟨b,o2,rfl,h⟩:=hyc h0;simp_all[Qp,Cv]
 obtain⟨olds,hol,hoc,hov⟩: ∃olds:List Value,olds.length=xs.length*te.size/\(0<xs.length-> ∃x,A=some x/\ ∀(j:Nat) u,olds[j]? =some u->w.cell? (x.add j)=some u)/\ ∀(k j:Nat) x v,xs[k]? =some x->x[j]? =some v-> ∃u,olds[k*te.size+j]? =some u/\RC w σ [idx,k,j] v u:=by
  rcases Cz xs.length with h0|h0
  ·simp_all
  ·obtain⟨b,o2,n,arr,T',g0,rfl,_,_,g1,_,g2⟩:=hxc (by omega);obtain⟨us,p1,p2,p3⟩:=Jq (w:=w) (b:=b) (o:=o2) hpos xs (fun k j v u=>RC w σ [idx,k,j] v u) hxes (fun k j x v hk hj=>by
    obtain⟨u,q1,q2⟩:=g2 k j x v hk hj;exact⟨u,(Cb g1).trans q1,q2⟩)
   exact⟨us,p1,fun _=>⟨_,rfl,fun j u hj=>by grind [Cv]⟩,p3⟩
 have hall: ∀x∈xs++ys,x.length=te.size:=fun x hx=>(C5.1 hx).elim (hxes x) (hyes x)
 have hd0:Ac F ⟨S.env,Aa (Aa S.H idy none) idx none,S.nv⟩ a w σ β:=(hs.dropH idy).dropH idx;have hd3:=hd0.reσ (A5 idx idy nid xs.length) rfl rfl (fun i B hB r=>by
  have hB:Aa (Aa S.H idy none) idx none i=some B:=hB;have h1:i≠idx:=by grind [Q1]
  rw[Q0 _ _ h1]at hB;have h2:i≠idy:=by grind [Q1]
  cases r with
  |nil=>rfl
  |cons k r=>simp_all[A5])
 have hmx: ∀(k j:Nat) (v:V) (u:Value),0<cap->RC w σ [idx,k,j] v u->RC w (fun b=>A5 idx idy nid xs.length (σ b)) [nid,k,j] v u:=fun k j v u _ h=>h.move (fun b hb=>by simp only[hb];rfl) (fun b r _ hb=>by simp_all[A5]) (fun _=>by simp)
 have hmy: ∀(w':World) (v:V) (u:Value),w'.heap=w.heap->RV (S.cx w σ β) [] v u-> ∀q,RV ((⟨S.env,Aa (Aa S.H idy none) idx none,S.nv⟩:St).cx w' (fun b=>A5 idx idy nid xs.length (σ b)) β) q v u:=fun w' v u hw h q=>by
  refine(h.mono (E':=((⟨S.env,Aa (Aa S.H idy none) idx none,S.nv⟩:St).cx w' (fun b=>A5 idx idy nid xs.length (σ b)) β)) ⟨fun _=>Z9 _,fun i B' hB _=> ?_⟩ fun b _ hc=>⟨by show w'.heap[b]? =w.heap[b]?;rw[hw],?_⟩).any q
  ·have hB:Aa (Aa S.H idy none) idx none i=some B':=hB;have h1:i≠idx:=by grind [Q1]
   rw[Q0 _ _ h1]at hB;have h2:i≠idy:=by grind [Q1]
   rw[Q0 _ _ h2]at hB;exact⟨B',hB,rfl,rfl,rfl,rfl⟩
  ·show A5 idx idy nid xs.length (σ b)=σ b;have hc:σ b=[]:=hc.resolve_right (by simp);rw[hc];rfl
 have hcapx: ∀ {k:Nat} {x:List V},xs[k]? =some x->0<cap:=fun h=>by grind
 rcases Bj cap (xs.length+ys.length)with hg|hroom
 ·
  obtain⟨arr,hrun,hasz,hac,hge,hcm⟩:=M4 (ty:=ty) hT ht hk he hzl w A xs.length cap A2 ys.length cap2 olds news hol hoc hnl hnc hg hm hb;have hs2:=Ac.drawn' hd3;have hcell: ∀(k j:Nat) x v,(xs++ys)[k]? =some x->x[j]? =some v-> ∃c,arr[k*te.size+j]? =some c/\RV ((⟨S.env,Aa (Aa S.H idy none) idx none,S.nv⟩:St).cx w.drew (fun b=>A5 idx idy nid xs.length (σ b)) β) [nid,k,j] v c:=by
   intro k j x v hk hj;rcases Bj k xs.length with hk2|hk2
   ·rw[D5 hk2]at hk;obtain⟨uu,q1,q2⟩:=hov k j x v hk hj;refine⟨uu,hac _ _ ?_,.c ((hmx k j v uu (hcapx hk) q2).mono fun b _ _=>⟨rfl,rfl⟩)⟩
    grind
   ·rw[C4 hk2]at hk;obtain⟨uu,q1,q2⟩:=hnv (k - xs.length) j x v hk hj;refine⟨uu,hac _ _ ?_,hmy w.drew v uu rfl q2 _⟩;have e:k*te.size+j=olds.length+((k - xs.length)*te.size+j):=by
     rw[hol,Nat.sub_mul];have:xs.length*te.size<=k*te.size:=Bx _ hk2;omega
    simp_all[C4]
  have hal:=hs2.allocP hnid (es:=te.size) (n:=grownCap w (xs.length+ys.length) cap e) (xs:=xs++ys) (arr:=arr) e hall hcell (by grind) (by omega);refine⟨_,World.push w.drew arr e,_,_,hrun,hal,?_⟩;have:=Jm (S:=⟨S.env,Aa (Aa S.H idy none) idx none,S.nv⟩) nid te.size (grownCap w (xs.length+ys.length) cap e) (xs++ys) (World.push w.drew arr e) (Aa (fun b=>A5 idx idy nid xs.length (σ b)) w.drew.heap.size [nid]) β w.drew.heap.size (by grind) hcm;rw[Jd]at this;exact this
 ·
  have hrun:=M3 (ty:=ty) hT ht hk he w A xs.length cap A2 ys.length cap2 news hnl hnc hroom;have hnews1: ∀x∈news,x.oneCell'=true:=by
   intro x hx;obtain⟨j,hj⟩:=C6.1 hx;have hjl:j<ys.length*te.size:=by grind
   have hq:j / te.size<ys.length:=Nat.div_lt_of_lt_mul (by grind);have hyk:ys[j / te.size]? =some ys[j / te.size]:=A3 hq;have hyl:ys[j / te.size].length=te.size:=hyes _ (Z6 hyk);have hmod:j % te.size<ys[j / te.size].length:=by simp_all[Nat.mod_lt]
   obtain⟨uu,q1,q2⟩:=hnv (j / te.size) (j % te.size) _ _ hyk (A3 hmod);have e:j / te.size*te.size+j % te.size=j:=by simp_all[Nat.mul_comm,Nat.div_add_mod]
   rw[e,hj]at q1;cases q1;obtain⟨p1,p2⟩:=Qn hyt hyk (A3 hmod);exact q2.one p1 p2
  rcases Cz cap with h0|h0
  ·
   have hx0:xs=[]:=Ec.1 (by omega);have hy0:ys=[]:=Ec.1 (by omega);subst hx0;subst hy0;have hn0:news=[]:=by simp_all
   subst hn0;have hfin:Ac F ⟨S.env,Aa (Aa (Aa S.H idy none) idx none) nid (some ⟨S.nv nid,te.size,[]⟩),Aa S.nv nid (S.nv nid+1)⟩ a w σ (Aa β nid none):=hd0.void hnid te.size;refine⟨.slice A 0 cap,w,σ,Aa β nid none,?_,hfin,?_⟩
   ·rw[hrun];cases A with
    |none=>simp
    |some b=>rfl
   ·refine .own _ _ _ _ _ _ _ _ rfl (by show S.nv nid<Aa S.nv nid (S.nv nid+1) nid;rw[Q1];omega) (Hc _) hc2 fun B hB _=> ?_
    have h':Aa (Aa (Aa S.H idy none) idx none) nid (some ⟨S.nv nid,te.size,[]⟩) nid=some B:=hB;rw[Q1]at h';cases h';exact⟨by simp,.inl h0⟩
  ·
   obtain⟨b,o',n',arr,T',h3,rfl,h5,q1,q4,q5,q6⟩:=hxc h0;obtain⟨hi0,hne⟩:=hidx0 h0;have hroom2:xs.length*te.size+ys.length*te.size<=n'*te.size:=by
    rw[<-D6];exact Bx _ (by omega)
   have hfit:(o'+xs.length*te.size)+0+news.length<=arr.size:=by omega
   have hst:=run_storeCells_at F.P b (o'+xs.length*te.size) T' news 0 arr w q4 hfit hnews1;simp only[Nat.add_zero]at hst;have hov2: ∀i,(An arr (o'+xs.length*te.size) news)[i]? =if o'+xs.length*te.size<=i/\i<o'+xs.length*te.size+news.length then news[i - (o'+xs.length*te.size)]? else arr[i]? :=Eh (by omega)
   have hfin:=hd3.retakeP (id:=idx) (Q1 _ _ _) hi0 (b:=b) (by grind [A5]) hnid (arr':=An arr (o'+xs.length*te.size) news) q4 (Dx (by omega)) (o':=o') (n':=n') (es:=te.size) (xs':=xs++ys) q5 (by grind) hall (fun k j x v hk hj=>by
    obtain⟨hkl,hjl⟩:=Jo hall hk hj;rcases Bj k xs.length with hk2|hk2
    ·rw[D5 hk2]at hk;obtain⟨c,g1,g2⟩:=q6 k j x v hk hj;have hlt:k*te.size+j<xs.length*te.size:=by
      grind
     refine⟨c,?_,.c (hmx k j v c h0 g2)⟩
     grind
    ·rw[C4 hk2]at hk;obtain⟨c,g1,g2⟩:=hnv (k - xs.length) j x v hk hj;have e:o'+k*te.size+j=o'+xs.length*te.size+((k - xs.length)*te.size+j):=by
      rw[Nat.sub_mul];have:xs.length*te.size<=k*te.size:=Bx _ hk2;omega
     have hgl:=(Z3.1 g1).1;simp_all)
   refine⟨.slice (some ⟨b,o',none⟩) (xs.length+ys.length) cap,_,_,_,?_,hfin,?_⟩
   ·rw[hrun];simp only;rw[Cv];simp only[Sem.run_bind,hst,Result.andThen_ok,Sem.run_pure];rfl
   ·refine .own _ _ _ _ _ _ _ _ rfl (by show S.nv nid<Aa S.nv nid (S.nv nid+1) nid;rw[Q1];omega) hroom hc2 fun B2 hB2 _=> ?_
    have h':Aa (Aa (Aa S.H idy none) idx none) nid (some ⟨S.nv nid,te.size,xs++ys⟩) nid=some B2:=hB2;rw[Q1]at h';cases h';exact⟨by simp,.inr ⟨b,o',n',Q1 _ _ _,by simp,by omega⟩⟩
theorem Amv{o:Oper}{x y:Operand}{t e:Nat}(h:o.op= .call {callee:= .builtin .append,args:= #[x,y],argTypes:= #[t,t]})(nid:Nat)(shx:List Nat){ti te:TI}{u:V}{idx vx idy vy:Nat}{xs ys:List (List V)}(hx:S.val shx x= .c u)(hy:S.val [] y= .c (.own idy vy 0 ys.length))(ht:tg T t=some ti)(hk:ti.k= .slice e)(he:tg T e=some te)
  (hY:S.H idy=some ⟨vy,te.size,ys⟩) (hcy:allClosed ⟨vy,te.size,ys⟩=true)
  (hbase:(u= .own idx vx 0 xs.length/\S.H idx=some ⟨vx,te.size,xs⟩/\allClosed ⟨vx,te.size,xs⟩=true/\idx≠idy)\/(u= .row true te.size []/\xs=[]/\idx=0))
  (hn:Nat.ble 100 nid=true) (hpos:Nat.blt 0 te.size=true) (hzl:te.zero.length=te.size) (hb:(xs.length+ys.length)*te.bytes<=140737488355328/\xs.length+ys.length<=maxLen):
  Ai F T o S {v:= .c (.own nid (S.nv nid) 0 (xs.length+ys.length)),upd:=[(idy,none),(idx,none),(nid,some ⟨S.nv nid,te.size,xs++ys⟩)],bump:=[nid],use:=Q2 [x,y],ids:=[nid,idx,idy]}:=by
 intro henv hd S' h1 h2 a w hs;obtain⟨hdf,hsz,σ,β,hs⟩:=hs;have hnv:S'.nv nid=S.nv nid:=(h2 nid (by simp)).2;have hHx:S'.H idx=S.H idx:=(h2 idx (by simp)).1;have hHy:S'.H idy=S.H idy:=(h2 idy (by simp)).1;have hx':S'.val shx x= .c u:=by rw[By (l:=[x,y]) (by simp) (fun t ht=>h1 t ht),hx]
 have hy':S'.val [] y= .c (.own idy vy 0 ys.length):=by rw[By (l:=[x,y]) (by simp) (fun t ht=>h1 t ht),hy]
 have g1:=Q4 hs shx x;have g2:=Q4 hs [] y;rw[hx']at g1;rw[hy']at g2;have h00:S'.H 0=none:=hs.hr.far;obtain⟨c,w',σ',β',hrun,hfin,hres⟩:=Ams (ty:=o.type) henv.tab hs ht hk he (Az hpos) hzl (B7 g1) (B7 g2) (hHy.trans hY) hcy (by
  rcases hbase with ⟨k1,k2,k3,k4⟩|⟨k1,k2,k3⟩
  ·exact .inl ⟨k1,hHx.trans k2,k3,k4⟩
  grind) hb.1 hb.2 nid (Dn henv.m (Az hn))
 refine .inl ⟨c,w',?_,by grind [Df],by grind [Q7],σ',β',?_⟩
 ·simp_all[execOp,resolve,invoke,builtin]
 ·have:=hfin.putT hsz hd (.c hres);have e:S'.app o.dst {v:= .c (.own nid (S.nv nid) 0 (xs.length+ys.length)),upd:=[(idy,none),(idx,none),(nid,some ⟨S.nv nid,te.size,xs++ys⟩)],bump:=[nid],use:=Q2 [x,y],ids:=[nid,idx,idy]}=
    (⟨S'.env,Aa (Aa (Aa S'.H idy none) idx none) nid (some ⟨S'.nv nid,te.size,xs++ys⟩),Aa S'.nv nid (S'.nv nid+1)⟩:St).put o.dst (.c (.own nid (S'.nv nid) 0 (xs.length+ys.length))):=by
   unfold St.app St.put;simp only[<-hnv];rfl
  grind
theorem Amw{o:Oper}{x y:Operand}{t e:Nat}(h:o.op= .call {callee:= .builtin .append,args:= #[x,y],argTypes:= #[t,t]})(nid:Nat)(shx:List Nat){ti te:TI}{u:V}{idx vx idy vy:Nat}{xs ys:List (List V)}(hx:S.val shx x= .c u)(hy:S.val [] y= .c (.own idy vy 0 ys.length))(ht:tg T t=some ti)(hk:ti.k= .slice e)(he:tg T e=some te)
  (hY:S.H idy=some ⟨vy,te.size,ys⟩) (hyt:noT ys=true)
  (hbase:(u= .own idx vx 0 xs.length/\S.H idx=some ⟨vx,te.size,xs⟩/\allClosed ⟨vx,te.size,xs⟩=true/\idx≠idy)\/(u= .row true te.size []/\xs=[]/\idx=0))
  (hn:Nat.ble 100 nid=true) (hpos:Nat.blt 0 te.size=true) (hzl:te.zero.length=te.size) (hb:(xs.length+ys.length)*te.bytes<=140737488355328/\xs.length+ys.length<=maxLen):
  Ai F T o S {v:= .c (.own nid (S.nv nid) 0 (xs.length+ys.length)),upd:=[(idy,none),(idx,none),(nid,some ⟨S.nv nid,te.size,xs++ys⟩)],bump:=[nid],use:=Q2 [x,y],ids:=[nid,idx,idy]}:=by
 intro henv hd S' h1 h2 a w hs;obtain⟨hdf,hsz,σ,β,hs⟩:=hs;have hnv:S'.nv nid=S.nv nid:=(h2 nid (by simp)).2;have hHx:S'.H idx=S.H idx:=(h2 idx (by simp)).1;have hHy:S'.H idy=S.H idy:=(h2 idy (by simp)).1;have hx':S'.val shx x= .c u:=by rw[By (l:=[x,y]) (by simp) (fun t ht=>h1 t ht),hx]
 have hy':S'.val [] y= .c (.own idy vy 0 ys.length):=by rw[By (l:=[x,y]) (by simp) (fun t ht=>h1 t ht),hy]
 have g1:=Q4 hs shx x;have g2:=Q4 hs [] y;rw[hx']at g1;rw[hy']at g2;have h00:S'.H 0=none:=hs.hr.far;obtain⟨c,w',σ',β',hrun,hfin,hres⟩:=Amu (ty:=o.type) henv.tab hs ht hk he (Az hpos) hzl (B7 g1) (B7 g2) (hHy.trans hY) hyt (by
  rcases hbase with ⟨k1,k2,k3,k4⟩|⟨k1,k2,k3⟩
  ·exact .inl ⟨k1,hHx.trans k2,k3,k4⟩
  grind) hb.1 hb.2 nid (Dn henv.m (Az hn))
 refine .inl ⟨c,w',?_,by grind [Df],by grind [Q7],σ',β',?_⟩
 ·simp_all[execOp,resolve,invoke,builtin]
 ·have:=hfin.putT hsz hd (.c hres);have e:S'.app o.dst {v:= .c (.own nid (S.nv nid) 0 (xs.length+ys.length)),upd:=[(idy,none),(idx,none),(nid,some ⟨S.nv nid,te.size,xs++ys⟩)],bump:=[nid],use:=Q2 [x,y],ids:=[nid,idx,idy]}=
    (⟨S'.env,Aa (Aa (Aa S'.H idy none) idx none) nid (some ⟨S'.nv nid,te.size,xs++ys⟩),Aa S'.nv nid (S'.nv nid+1)⟩:St).put o.dst (.c (.own nid (S'.nv nid) 0 (xs.length+ys.length))):=by
   unfold St.app St.put;simp only[<-hnv];rfl
  grind
theorem Amx{o:Oper}{x y:Operand}{t e:Nat}(h:o.op= .call {callee:= .builtin .append,args:= #[x,y],argTypes:= #[t,t]})(nid:Nat){ti te:TI}{idx vx idy vy:Nat}{xs ys:List (List V)}(hx:S.val [] x= .c (.own idx vx 0 xs.length))(hy:S.val [] y= .c (.own idy vy 0 ys.length))(ht:tg T t=some ti)(hk:ti.k= .slice e)(he:tg T e=some te)
  (hY:S.H idy=some ⟨vy,te.size,ys⟩) (hcy:allClosed ⟨vy,te.size,ys⟩=true) (hX:S.H idx=some ⟨vx,te.size,xs⟩) (hxt:noT xs=true) (hne:idx≠idy)
  (hn:Nat.ble 100 nid=true) (hpos:Nat.blt 0 te.size=true) (hzl:te.zero.length=te.size) (hb:(xs.length+ys.length)*te.bytes<=140737488355328/\xs.length+ys.length<=maxLen):
  Ai F T o S {v:= .c (.own nid (S.nv nid) 0 (xs.length+ys.length)),upd:=[(idy,none),(idx,none),(nid,some ⟨S.nv nid,te.size,xs++ys⟩)],bump:=[nid],use:=Q2 [x,y],ids:=[nid,idx,idy]}:=by
 intro henv hd S' h1 h2 a w hs;obtain⟨hdf,hsz,σ,β,hs⟩:=hs;have hnv:S'.nv nid=S.nv nid:=(h2 nid (by simp)).2;have hHx:S'.H idx=S.H idx:=(h2 idx (by simp)).1;have hHy:S'.H idy=S.H idy:=(h2 idy (by simp)).1;have hx':S'.val [] x= .c (.own idx vx 0 xs.length):=by rw[By (l:=[x,y]) (by simp) (fun t ht=>h1 t ht),hx]
 have hy':S'.val [] y= .c (.own idy vy 0 ys.length):=by rw[By (l:=[x,y]) (by simp) (fun t ht=>h1 t ht),hy]
 have g1:=Q4 hs [] x;have g2:=Q4 hs [] y;rw[hx']at g1;rw[hy']at g2;obtain⟨c,w',σ',β',hrun,hfin,hres⟩:=Amt (ty:=o.type) henv.tab hs ht hk he (Az hpos) hzl (B7 g1) (B7 g2) (hHy.trans hY) hcy (hHx.trans hX) hxt hne hb.1 hb.2 nid (Dn henv.m (Az hn));refine .inl ⟨c,w',?_,by grind [Df],by grind [Q7],σ',β',?_⟩
 ·simp_all[execOp,resolve,invoke,builtin]
 ·have:=hfin.putT hsz hd (.c hres);have e:S'.app o.dst {v:= .c (.own nid (S.nv nid) 0 (xs.length+ys.length)),upd:=[(idy,none),(idx,none),(nid,some ⟨S.nv nid,te.size,xs++ys⟩)],bump:=[nid],use:=Q2 [x,y],ids:=[nid,idx,idy]}=
    (⟨S'.env,Aa (Aa (Aa S'.H idy none) idx none) nid (some ⟨S'.nv nid,te.size,xs++ys⟩),Aa S'.nv nid (S'.nv nid+1)⟩:St).put o.dst (.c (.own nid (S'.nv nid) 0 (xs.length+ys.length))):=by
   unfold St.app St.put;simp only[<-hnv];rfl
  grind
theorem Afu{P:Program}{T:Tab}(hT:Av P T){t t' ty e:Nat}{ti te:TI}(ht:tg T t=some ti)(hk:ti.k= .slice e)(he:tg T e=some te)(w:World)(A:Option Addr)(n cap:Nat)(A2:Option Addr)(m cap2:Nat)(news:List Value)(hl:news.length=Nat.min m n*te.size)(hnews:0<Nat.min m n-> ∃x,A2=some x/\ ∀(j:Nat) u,news[j]? =some u->w.cell? (x.add j)=some u):
  (Builtin.copy_ #[t,t'] ty #[.slice A n cap,.slice A2 m cap2]).run P w=match A with
   |none=> .ok (goInt (Nat.min m n)) w
   |some b=>((storeCells b news)>>=fun _=>(pure (goInt (Nat.min m n)):Sem Value)).run P w:=by
 have hu:=(hT.ty ht).slice hk;have hsz:=(hT.ty he).sizeOf w;have hfc:=Uf (P:=P) w te.size (Nat.min m n) A2 m cap2 news hl hnews;cases A with
 |none=>simp_all[Builtin.copy_,Builtin.lenOf,run_underlying]
 |some b=>simp_all[Builtin.copy_,Builtin.lenOf,run_underlying]
theorem sCp{o:Oper}{x y:Operand}{t t' e:Nat}(h:o.op= .call {callee:= .builtin .copy,args:= #[x,y],argTypes:= #[t,t']}){ti te:TI}{id ver off len:Nat}{v:V}{xs ys:List (List V)}(hx:S.val [] x= .c (.own id ver off len))(hy:S.val [] y= .c v)(ht:tg T t=some ti)(hk:ti.k= .slice e)(he:tg T e=some te)(hes:0<te.size)
  (hB:S.H id=some ⟨ver,te.size,xs⟩) (hyr:Cc S v=some ys) (hye:Da S te.size v=true) (hyt:noT ys=true):
  Ai F T o S {v:= .c (.int .i64 ((Nat.min ys.length len:Nat):Int)),upd:=[(id,some ⟨ver,te.size,xs.take off++ys.take (Nat.min ys.length len)++xs.drop (off+Nat.min ys.length len)⟩)],use:=Q2 [x,y],ids:=id::B9 v}:=by
 intro henv hd S' h1 h2 a w hs;obtain⟨hdf,hsz,σ,β,hs⟩:=hs;have hB':S'.H id=some ⟨ver,te.size,xs⟩:=by grind
 have hx':S'.val [] x= .c (.own id ver off len):=by rw[By (l:=[x,y]) (by simp) (fun t ht=>h1 t ht),hx]
 have hy':S'.val [] y= .c v:=by rw[By (l:=[x,y]) (by simp) (fun t ht=>h1 t ht),hy]
 have g1:=Q4 hs [] x;have g2:=Q4 hs [] y;rw[hx']at g1;rw[hy']at g2;have hr:Cc S' v=Cc S v/\Da S' te.size v=Da S te.size v:=by
  cases v with
  |own i vv o' l'=>
   simp_all[B9,Cc,Da]
  |_=>exact⟨rfl,rfl⟩
 obtain⟨A2,cap2,ey,hd1,hd2,hyes,hyc⟩:=Qo hs (B7 g2) (hr.1.trans hyr) (Ug (hr.2.trans hye)) hyt hes;generalize hts:te.size=es at*;obtain⟨news,hnl,hnc,hnv⟩: ∃news:List Value,news.length=ys.length*es/\(0<ys.length-> ∃x,A2=some x/\ ∀(j:Nat) u,news[j]? =some u->w.cell? (x.add j)=some u)/\ ∀(k j:Nat) x v,ys[k]? =some x->x[j]? =some v-> ∃u,news[k*es+j]? =some u/\RV (S'.cx w σ β) [] v u:=by
  rcases Cz ys.length with h0|h0
  ·refine⟨[],by rw[h0];simp,fun h=>by omega,fun k j x v hk=> ?_⟩;have:=(Z3.1 hk).1;omega
  ·obtain⟨b,o2,rfl,h⟩:=hyc h0;obtain⟨us,q1,q2,q3⟩:=Qp (w:=w) hes ys hyes h;exact⟨us,q1,fun _=>⟨_,rfl,fun j u hj=>by grind [Cv]⟩,q3⟩
 have g1':=B7 g1;generalize ec:a.eval x=cx at g1';cases g1' with
 |c h=>cases h
 |own _ _ _ _ _ A n cap hn hver hcap hmax hh=>
  subst hn;obtain⟨q1,q2⟩:=hh _ hB' rfl;have q1:off+n<=xs.length:=q1;generalize hm:Nat.min ys.length n=m;have hm1:m<=ys.length:=by grind
  have hm2:m<=n:=by grind
  have hmes:m*es<=ys.length*es:=Bx _ hm1;have htl:(news.take (m*es)).length=m*es:=by rw[List.length_take,hnl];omega
  have hrun:=Afu (ty:=o.type) (t':=t') henv.tab ht hk he w A n cap A2 ys.length cap2 (news.take (m*es)) (by rw[hts,hm];exact htl) (fun h0=>by
   obtain⟨x,e1,e2⟩:=hnc (by omega);refine⟨x,e1,fun j u hj=>e2 j u ?_⟩;rw[Jf]at hj;split at hj
   ·exact hj
   ·cases hj)
  rw[hm]at hrun;have hop:(execOp a.eval o)=(do let d <-resolve a.eval ⟨.builtin .copy,#[x,y],#[t,t']⟩ o.type;invoke d.target d.args):=by grind [execOp]
  have e2:(Array.map a.eval #[x,y])= #[.slice A n cap,.slice A2 ys.length cap2]:=by grind
  have hexec: ∀(c:Value) (w':World),(Builtin.copy_ #[t,t'] o.type #[.slice A n cap,.slice A2 ys.length cap2]).run F.P w= .ok c w'->(execOp a.eval o).run F.P w= .ok (.value c) w':=by
   grind [resolve,Sem.run_bind,Sem.run_pure,Result.andThen_ok,invoke,builtin]
  have hfinal: ∀(w':World) (σ':Nat->List Nat) (β':Nat->Option (Nat×Nat×Nat)),Ac F (S'.upd id ⟨ver,es,xs.take off++ys.take m++xs.drop (off+m)⟩) a w' σ' β'->
    Ac F (S'.app o.dst {v:= .c (.int .i64 (m:Int)),upd:=[(id,some ⟨ver,es,xs.take off++ys.take m++xs.drop (off+m)⟩)],use:=Q2 [x,y],ids:=id::B9 v}) (a.put o.dst (goInt m)) w' σ' β':=by
   intro w' σ' β' hf;have:=hf.putT (dst:=o.dst) (x:= .c (.int .i64 (m:Int))) (v:=goInt m) hsz hd (.c (.c (.int _ _ _)));exact this
  rcases Cz m with h0|h0
  ·subst h0;have hsame:xs.take off++ys.take 0++xs.drop (off+0)=xs:=by simp
   have hu:S'.upd id ⟨ver,es,xs⟩=S':=by
    unfold St.upd;have:Aa S'.H id (some ⟨ver,es,xs⟩)=S'.H:=by
     funext i;by_cases e:i=id
     all_goals grind [Q1,Q0]
    rw[this]
   refine .inl ⟨goInt 0,w,hexec _ _ ?_,by grind [Df],by grind [Q7],σ,β,hfinal _ _ _ (by grind)⟩;rw[hrun];cases A with
   |none=>rfl
   |some b=>rw[Nat.zero_mul];rfl
  ·obtain⟨b,o',n',h3,rfl,h5⟩:=q2.at_ (by omega);obtain⟨r1,r2,r3,arr,T',r4,r5,r6⟩:=(hs.hr.blk id _ hB').2.some h3;have r5:o'+n'*es<=arr.size:=r5;have r3:xs.length<=n':=r3;have k1:(off+m)*es<=n'*es:=Bx _ (by omega);rw[D6]at k1;have hfit:(o'+off*es)+0+(news.take (m*es)).length<=arr.size:=by omega
   have hone: ∀z∈news.take (m*es),z.oneCell'=true:=by
    intro z hz;obtain⟨j,hj⟩:=C6.1 (Kk hz);have hjl:j<ys.length*es:=by rw[<-hnl];exact(Z3.1 hj).1
    have hd:j / es<ys.length:=Nat.div_lt_of_lt_mul (by rw[Nat.mul_comm];exact hjl);have hmod:j % es<es:=Nat.mod_lt _ hes;have hyk:ys[j / es]? =some ys[j / es]:=A3 hd;have hyl:ys[j / es].length=es:=hyes _ (Z6 hyk);have hz0:ys[j / es][j % es]? =some ys[j / es][j % es]:=A3 (by omega);obtain⟨u,e1,e2⟩:=hnv _ _ _ _ hyk hz0;rw[show j / es*es+j % es=j by rw[Nat.mul_comm];exact Nat.div_add_mod j es,hj]at e1;cases e1
    grind [Qn,RV.one]
   have hst:=run_storeCells_at F.P b (o'+off*es) T' (news.take (m*es)) 0 arr w r4 hfit hone;simp only[Nat.add_zero]at hst;have hov: ∀i,(An arr (o'+off*es) (news.take (m*es)))[i]? =if o'+off*es<=i/\i<o'+off*es+(news.take (m*es)).length then(news.take (m*es))[i - (o'+off*es)]? else arr[i]? :=Eh (by omega)
   have hlen:(xs.take off++ys.take m++xs.drop (off+m)).length=xs.length:=by grind
   have hxes: ∀z∈xs,z.length=es:=r2;have hw:=hs.write hB' h3 r4 (Dx (by omega)) (xs':=xs.take off++ys.take m++xs.drop (off+m)) hlen (fun z hz=>by
    grind) (fun k j z vv hk hj=>by
    have hkl:=(Z3.1 hk).1;rw[hlen]at hkl;have hzl:z.length=es:=by
     grind
    have hjl:j<es:=by rw[<-hzl];exact(Z3.1 hj).1
    show ∃c,(An arr (o'+off*es) (news.take (m*es)))[o'+k*es+j]? =some c/\_;rw[hov,htl];by_cases hin:off<=k/\k<off+m
    ·have k2:off*es<=k*es:=Bx _ hin.1;have k3:(k+1)*es<=(off+m)*es:=Bx _ (by omega);rw[D6,D6,Nat.one_mul]at k3;rw[if_pos ⟨by omega,by omega⟩];have hk2:ys[k - off]? =some z:=by
      grind
     obtain⟨uu,k4,k5⟩:=hnv (k - off) j z vv hk2 hj;refine⟨uu,?_,k5.any _⟩;have e1:o'+k*es+j - (o'+off*es)=(k - off)*es+j:=by
      rw[Nat.sub_mul];omega
     rw[e1,Jf,if_pos,k4];rw[Nat.sub_mul];omega
    ·have hout: ¬(o'+off*es<=o'+k*es+j/\o'+k*es+j<o'+off*es+m*es):=by
      rintro⟨g1,g2⟩;rcases Bj k off with q|q
      ·have:=Bx es (show k+1<=off by omega);rw[D6,Nat.one_mul]at this;omega
      ·have:=Bx es (show off+m<=k by omega);rw[D6]at this;omega
     rw[if_neg hout];have hla:(xs.take off++ys.take m).length=off+m:=by rw[Jd,List.length_take,List.length_take];omega
     have hk3:xs[k]? =some z:=by
      rcases Bj k off with q|q
      ·rw[Je,D5 (by rw[List.length_take];omega),Jf,if_pos q]at hk;exact hk
      ·rw[C4 (by omega),Mu,hla,show off+m+(k - (off+m))=k by omega]at hk;exact hk
     exact r6 k j z vv hk3 hj)
   refine .inl ⟨goInt m,_,hexec _ _ ?_,by grind [Df],by grind [Q7],σ,β,hfinal _ _ _ hw⟩;rw[hrun];simp only[Sem.run_bind,hst,Result.andThen_ok,Sem.run_pure];rfl
end
section
variable {F:Fr} {S:St} {a:Act} {w:World} {σ:Nat->List Nat} {β:Nat->Option (Nat×Nat×Nat)} {id:Nat} {B:Blk}
def St.lose (S:St)(id:Nat):St:=⟨S.env,Aa S.H id none,S.nv⟩
theorem Um{E:Cx}(hE:E=S.cx w σ β){p:List Nat}{v:V}{c:Value}(h:RV E p v c):(p=[]\/ ∃i r,p=i::r/\i≠id)->RV ((S.lose id).cx w (fun b=>Bw id (σ b)) β) p v c:=by
 subst hE;have hH: ∀i B',(S.lose id).H i=some B'->S.H i=some B':=by
  intro i B' h;by_cases hi:i=id
  ·subst hi;have h':Aa S.H i none i=some B':=h;rw[Q1]at h';cases h'
  ·have h':Aa S.H id none i=some B':=h;rw[Q0 _ _ hi]at h';exact h'
 induction h with
 | @c p v c h=>
  intro hp;refine .c (h.mono fun b hb hc=>⟨rfl,?_⟩);show Bw id (σ b)=σ b;rcases hc with hc|⟨hne,hc⟩
  ·rw[show σ b=[] from hc];rfl
  ·rcases hp with rfl|⟨i,r,rfl,hi⟩
   ·grind
   ·obtain⟨r',hr'⟩:=hc;rw[show σ b=i::(r++r') from hr'.symm];simp[Bw,hi]
 |own p i ver off len A n cap hn hver hcap hmax h=>
  exact fun _=> .own _ _ _ _ _ _ _ _ hn hver hcap hmax fun B' hB' ev=>h B' (hH i B' hB') ev
 |ptr p i ver k j ad hver h=>
  exact fun _=> .ptr _ _ _ _ _ _ hver fun B' hB' ev=>h B' (hH i B' hB') ev
 |ip p es xs k j b off n cap h=>
  intro _;refine .ip _ _ _ _ _ _ _ _ _ (h.mono fun b hb hc=>⟨rfl,?_⟩);have hc':σ b=[]:=hc.resolve_right (by simp);show Bw id (σ b)=σ b;rw[hc'];rfl
 |fn p f caps cs cv hsz h1 h2 ih=>
  exact fun _=> .fn _ _ _ _ cv hsz h1 fun i v hi=>ih i v hi (.inl rfl)
 |skip p=>exact fun _=> .skip _
 |undef p v=>exact fun _=> .undef _ _
theorem Amz{E:Cx}(hE:E=S.cx w σ β){x:A}{c:Value}(h:RA E x c):RA ((S.lose id).cx w (fun b=>Bw id (σ b)) β) x c:=by
 induction h with
 |c h=>exact .c (Um hE h (.inl rfl))
 |g cs arr hs h=>exact .g cs arr hs fun i v hi=>let ⟨c,h1,h2⟩:=h i v hi;⟨c,h1,Um hE h2 (.inl rfl)⟩
 |t xs arr cv hs h1 h2 ih=>exact .t xs arr cv hs h1 fun i v hi=>ih i v hi
theorem Am0 (hs:Ac F S a w σ β)(hB:S.H id=some B)(hcl:allClosed B=true){off len:Nat}{c:Value}(h:RV (S.cx w σ β) [] (.own id B.ver off len) c):RV ((S.lose id).cx w (fun b=>Bw id (σ b)) β) [] (C1 B off len) c:=by
 have:=Kv hs hB hcl (.inl rfl) h;rw[show(V.own id B.ver off len).frz1 id B=C1 B off len by simp[V.frz1]]at this;cases this with
 |c h=>exact .c h
theorem Ac.lose (hs:Ac F S a w σ β)(hB:S.H id=some B):Ac F (S.lose id) a w (fun b=>Bw id (σ b)) β:=by
 have hid0:id≠0:=by rintro rfl;have h0:S.H 0=none:=hs.hr.far;grind
 have hH: ∀i,i≠id->(S.lose id).H i=S.H i:=fun i hi=>Q0 _ _ hi;refine⟨⟨?_,fun i B' hB'=> ?_,fun b hb=> ?_⟩,hs.mpos,⟨hs.kp.os,hs.kp.tape,hs.kp.output,hs.kp.size,hs.kp.heap,fun b hb hc=> ?_⟩,hs.inn,fun t=> ?_⟩
 ·show(S.lose id).H 0=none;rw[hH 0 (fun h=>hid0 h.symm),show S.H 0=none from hs.hr.far]
 ·by_cases hi:i=id
  ·have:(S.lose id).H i=none:=by rw[hi];exact Q1 _ _ _
   rw[show(S.lose id).H i=some B' from hB']at this;cases this
  ·have h1:(S.lose id).H i=some B':=hB';rw[hH i hi]at h1;obtain⟨h3,h4⟩:=hs.hr.blk i B' h1;refine⟨h3,?_⟩;cases e:β i with
   |none=>exact .mk_void e (h4.void e)
   |some q=>
    obtain⟨b,o,n⟩:=q;obtain⟨q1,q2,q3,arr,T,q4,q5,q6⟩:=h4.some e;refine .mk e ⟨by show Bw id (σ b)=[i];rw[show σ b=[i] from q1];simp[Bw,hi],q2,q3,arr,T,q4,q5,fun k j x v hk hj=> ?_⟩;obtain⟨c,g3,g4⟩:=q6 k j x v hk hj;exact⟨c,g3,Um rfl g4 (.inr ⟨i,[k,j],rfl,hi⟩)⟩
 ·show Bw id (σ b)=[];rw[show σ b=[] from hs.hr.new b hb];rfl
 ·show Bw id (σ b)=F.σ0 b;rw[hs.kp.free b hb hc];rcases hc with hc|hc
  ·rw[hc];rfl
  ·rw[hc];show(if 0=id then []else [0])=[0]
   grind
 ·exact Amz rfl (hs.env t)
theorem Ai.rowL{T:Tab}{o:Oper}{r:Rec}{id n:Nat}{B:Blk}(h:Ai F T o S r)(hr:r={v:= .c (.own id B.ver 0 n),upd:=[(id,some B)],bump:=[id],use:=r.use,ids:=r.ids})(hcl:allClosed B=true):Ai F T o S {v:= .c (C1 B 0 n),upd:=[(id,none)],bump:=[id],use:=r.use,ids:=r.ids}:=by
 intro he hd S' h1 h2 a w hs;have hweak: ∀a' w',RS F (S'.app o.dst r) a' w'->RS F (S'.app o.dst {v:= .c (C1 B 0 n),upd:=[(id,none)],bump:=[id],use:=r.use,ids:=r.ids}) a' w':=by
  rintro a' w' ⟨q1,q2,σ,β,q3⟩;refine⟨q1,q2,fun b=>Bw id (σ b),β,?_⟩;rw[hr]at q3
  have hB:(S'.app o.dst {v:= .c (.own id B.ver 0 n),upd:=[(id,some B)],bump:=[id],use:=r.use,ids:=r.ids}).H id=some B:=Q1 _ _ _;have hl:=q3.lose hB;have eH:Aa (Aa S'.H id (some B)) id none=Aa S'.H id none:=by
   funext i;by_cases ei:i=id<;>grind [Q1,Q0]
  cases hd2:o.dst with
  |none=>
   rw[hd2]at hl;have e:(S'.app none {v:= .c (C1 B 0 n),upd:=[(id,none)],bump:=[id],use:=r.use,ids:=r.ids})=(S'.app none {v:= .c (.own id B.ver 0 n),upd:=[(id,some B)],bump:=[id],use:=r.use,ids:=r.ids}).lose id:=by
    show St.mk _ _ _=St.mk _ _ _;congr 1;exact eH.symm
   rw[e];exact hl
  |some d=>
   rw[hd2]at hl q3 hB;have eHH:(S'.app (some d) {v:= .c (C1 B 0 n),upd:=[(id,none)],bump:=[id],use:=r.use,ids:=r.ids}).H=((S'.app (some d) {v:= .c (.own id B.ver 0 n),upd:=[(id,some B)],bump:=[id],use:=r.use,ids:=r.ids}).lose id).H:=eH.symm;have ecx:(S'.app (some d) {v:= .c (C1 B 0 n),upd:=[(id,none)],bump:=[id],use:=r.use,ids:=r.ids}).cx w' (fun b=>Bw id (σ b)) β=((S'.app (some d) {v:= .c (.own id B.ver 0 n),upd:=[(id,some B)],bump:=[id],use:=r.use,ids:=r.ids}).lose id).cx w' (fun b=>Bw id (σ b)) β:=by
    unfold St.cx;rw[eHH];rfl
   refine⟨by rw[ecx];exact hl.hr,hl.mpos,hl.kp,hl.inn,fun t=> ?_⟩;rw[ecx];by_cases e:t=d
   ·subst e;have h0:=q3.env t;rw[show(S'.app (some t) {v:= .c (.own id B.ver 0 n),upd:=[(id,some B)],bump:=[id],use:=r.use,ids:=r.ids}).env t= .c (.own id B.ver 0 n) from Q1 _ _ _]at h0;rw[show(S'.app (some t) {v:= .c (C1 B 0 n),upd:=[(id,none)],bump:=[id],use:=r.use,ids:=r.ids}).env t= .c (C1 B 0 n) from Q1 _ _ _];exact .c (Am0 q3 hB hcl (B7 h0))
   ·have h0:=hl.env t;rw[show(S'.app (some d) {v:= .c (C1 B 0 n),upd:=[(id,none)],bump:=[id],use:=r.use,ids:=r.ids}).env t=S'.env t from Q0 _ _ e];rw[show((S'.app (some d) {v:= .c (.own id B.ver 0 n),upd:=[(id,some B)],bump:=[id],use:=r.use,ids:=r.ids}).lose id).env t=S'.env t from Q0 _ _ e]at h0;exact h0
 rcases h he hd S' h1 h2 a w hs with ⟨v,w',r1,r2⟩|⟨w',r1,r2⟩|⟨f,args,w',r1,r2⟩
 all_goals grind [Calls.mono]
end
inductive SV (D:Nat->Type) where
 |int (k:IntKind) (n:Int) (g:Nat)
 |bool (b:Bool)
 |str (s:ByteArray)
 |row (t:Nat) (l:List (D t))
 |rowT (t:Nat) (d:Bool) (l:List (D t))
 |own (id ver n:Nat)
 |part (id ver:Nat) (lo hi:Int)
 |ptr (id ver j:Nat)
 |ptrE (id ver g:Nat) (i:Int) (j:Nat)
 |ptrA (id ver:Nat) (i:Int)
 |ptrR (t:Nat) (l:List (D t)) (i:Int) (j:Nat)
 |ptrB (t:Nat) (x:D t) (j:Nat)
 |fn (f:FuncId) (caps:List (Nat×Nat)) (rs:List (Σ t,D t))
 |nilp
 |skip
 |undef
inductive SA (D:Nat->Type) where
 |c (v:SV D)
 |g (cs:List (SV D))
 |t (xs:List (Bool×List (SV D)))
inductive SB (D:Nat->Type) where
 |rows (ver t:Nat) (d cl:Bool) (l:List (D t))
 |box (ver:Nat) (cs:List (SV D))
 |arr (ver n t:Nat) (l:List (D t))
 |opn (ver t:Nat) (d dirty:Bool) (l:List (D t)) (g:Nat) (i:Int) (cs:List (SV D))
structure Un where
 D:Nat->Type
 inh: ∀t,Inhabited (D t)
 sz:Nat->Nat
 flat:Nat->Bool
 ag:Nat->Bool
 en:(t:Nat)->D t->List V
 eF:(t:Nat)->D t->List V
 cs:(t:Nat)->D t->List (SV D)
 cO:(t:Nat)->Bool->D t->List (SV D)
 fS:(t:Nat)->List (SV D)->Option (D t)
 fO:(t:Nat)->Bool->List (SV D)->Option (D t)
 far:Nat->Nat->Bool
structure SS (D:Nat->Type) where
 env:List (Nat×SA D)
 H:List (Nat×Option (SB D))
 nv:List (Nat×Nat)
 ctr:Nat
structure Aj (D:Nat->Type) where
 v:SA D
 upd:List (Nat×Option (SB D)):=[]
 bump:List Nat:=[]
 use:List Tmp:=[]
 ids:List Nat:=[]
def lk{α:Type}:List (Nat×α)->Nat->Option α
 |[],_=>none
 |(k,v)::r,n=>match Nat.beq k n with
  |true=>some v
  |false=>lk r n
section
variable {D:Nat->Type}
def SS.get (S:SS D)(t:Nat):SA D:=match lk S.env t with|some v=>v|none=> .c .undef
def SS.blk (S:SS D)(id:Nat):Option (SB D):=match lk S.H id with|some b=>b|none=>none
def SS.ver (S:SS D)(id:Nat):Nat:=match lk S.nv id with|some n=>n|none=>1
def Jr (nv:List (Nat×Nat))(id:Nat):Nat:=match lk nv id with|some n=>n|none=>1
def Qt (nv:List (Nat×Nat)):List Nat->List (Nat×Nat)
 |[]=>nv
 |i::r=>Qt ((i,Jr nv i+1)::nv) r
def SS.bumps (S:SS D)(l:List Nat):List (Nat×Nat):=Qt S.nv l
def Uo (e:List (Nat×SA D))(d:Option Tmp)(v:SA D):List (Nat×SA D):=match d with|some d=>(d,v)::e|none=>e
def SS.app (S:SS D)(dst:Option Tmp)(r:Aj D):SS D:=⟨Uo S.env dst r.v,r.upd.reverse++S.H,S.bumps r.bump,S.ctr⟩
def Kz:Int->Nat
 | .ofNat n=>2*n+2
 | .negSucc _=>0
def Db (T:Tab)(t:Nat):Value->SV D
 | .bool b=> .bool b
 | .int k n=> .int k n (Kz n)
 | .string s=> .str s
 | .pointer none=> .nilp
 | .slice none 0 0=>match tg T t with
  |some ti=>match ti.k with
   | .slice e=> .rowT e true []
   |_=> .undef
  |none=> .undef
 |_=> .undef
def Ho (T:Tab):List Nat->List Value->List (SV D)
 |t::ts,v::vs=>Db T t v::Ho T ts vs
 |_,_=>[]
def Ea (T:Tab)(t:Nat):Value->SA D
 | .agg cs=>match Bv T 50 t with
  |some ls=>match Nat.beq ls.length cs.toList.length with
   |true=> .g (Ho T ls cs.toList)
   |false=> .c .undef
  |none=> .c .undef
 |v=> .c (Db T t v)
def SS.val (T:Tab)(S:SS D)(t:Nat):Operand->SA D
 | .tmp x=>S.get x
 | .const v=>Ea T t v
 | .func f=> .c (.fn f [] [])
 | .global _=> .c .undef
def SA.cells:SA D->List (SV D)
 | .c v=>[v]
 | .g cs=>cs
 | .t _=>[]
def Uq (agg:Bool)(cs:List (SV D)):Option (SA D):=
 match agg with
 |true=>some (.g cs)
 |false=>match cs with|[v]=>some (.c v)|_=>none
def Fc:SV D->Bool
 | .int _ _ g=>Nat.beq g 0
 |_=>true
def isT:SV D->Bool
 | .rowT .. =>true
 |_=>false
def SV.solid:SV D->Bool
 | .undef| .skip=>false
 | .ptrE .. | .ptrA .. | .ptrR .. | .ptrB .. | .fn .. | .part .. =>false
 |_=>true
def Q6 (l:List (SV D)):Bool:=l.all SV.solid
def Gc{α:Type}(l:List α)(j n:Nat):List α:=(l.drop j).take n
def Fe{α:Type}(x:List α)(j:Nat)(cs:List α):List α:=x.take j++cs++x.drop (j+cs.length)
def C2 (l:List (SV D)):Bool:=l.all fun v=> !isT v
def Js (T:Tab)(t:Nat):Option (Nat×Bool):=match tg T t with|some ti=>some (ti.size,ti.k.agg)|none=>none
def Afv (op:BinOp)(k:IntKind)(a b:Int):Option (SV D):=
 match op with
 | .add=>some (.int k (Fp k a b) 0)
 | .sub=>some (.int k (Aly k a b) 0)
 | .mul=>some (.int k (Ci k a b) 0)
 | .and=>some (.int k (Alz k a b) 0)
 | .or=>some (.int k (iOr k a b) 0)
 | .xor=>some (.int k (Al1 k a b) 0)
 | .eql=>some (.bool (a==b))
 | .neq=>some (.bool (a != b))
 | .lss=>some (.bool (decide (a<b)))
 | .leq=>some (.bool (decide (a<=b)))
 | .gtr=>some (.bool (decide (a>b)))
 | .geq=>some (.bool (decide (a>=b)))
 |_=>none
end
section
variable (U:Un)
def Un.eT (d:Bool)(t:Nat):U.D t->List V:=match d with|true=>U.eF t|false=>U.en t
def SV.toV:SV U.D->V
 | .int k n _=> .int k n
 | .bool b=> .bool b
 | .str s=> .str s
 | .row t l=> .row false (U.sz t) (l.map (U.en t))
 | .rowT t d l=> .row true (U.sz t) (l.map (U.eT d t))
 | .own id ver n=> .own id ver 0 n
 | .part id ver lo hi=> .own id ver lo.toNat (hi - lo).toNat
 | .ptr id ver j=> .ptr id ver 0 j
 | .ptrE id ver _ i j=> .ptr id ver i.toNat j
 | .ptrA id ver i=> .ptr id ver 0 i.toNat
 | .ptrR t l i j=> .ip (U.sz t) (l.map (U.en t)) i.toNat j
 | .ptrB t x j=> .ip (U.sz t) [U.en t x] 0 j
 | .fn f caps rs=> .fn f ((caps.map fun c=> .ptr c.1 c.2 0 0)++rs.map fun q=> .ip (U.sz q.1) [U.en q.1 q.2] 0 0)
 | .nilp=> .nilp
 | .skip=> .skip
 | .undef=> .undef
def SA.toA:SA U.D->A
 | .c v=> .c (v.toV U)
 | .g cs=> .g (cs.map (SV.toV U))
 | .t xs=> .t (xs.map fun x=>match x.1 with|true=> .g (x.2.map (SV.toV U))|false=> .c ((x.2.map (SV.toV U)).headD .undef))
def SB.toB:SB U.D->Blk
 | .rows ver t d _ l=>⟨ver,U.sz t,l.map (U.eT d t)⟩
 | .box ver cs=>⟨ver,cs.length,[cs.map (SV.toV U)]⟩
 | .arr ver n t l=>⟨ver,n,[(l.map (U.en t)).flatten]⟩
 | .opn ver t d _ l _ i cs=>⟨ver,U.sz t,(l.map (U.eT d t)).set i.toNat (cs.map (SV.toV U))⟩
def SS.toSt (S:SS U.D):St:=⟨fun t=>(S.get t).toA U,fun i=>(S.blk i).map (SB.toB U),fun i=>S.ver i⟩
def Aj.toRec (r:Aj U.D):Rec:={v:=r.v.toA U,upd:=r.upd.map fun p=>(p.1,p.2.map (SB.toB U)),bump:=r.bump,use:=r.use,ids:=r.ids}
end
section
variable (U:Un) (T:Tab) {α:Type}
def Gr (x:Operand)(u:SA U.D):Bool:=match x with
 | .const _=>Q6 u.cells
 |_=>true
def Qu (S:SS U.D)(ty:Nat)(x:Operand)(k:Aj U.D->Option α):Option α:=match Gr U x (S.val T ty x)with
 |true=>k {v:=S.val T ty x,use:=Q2 [x]}
 |false=>none
def Ur (S:SS U.D)(ty:Nat)(c x y:Operand)(k:Aj U.D->Option α):Option α:=
 match S.val T 0 c with
 | .c (.bool b)=>match Gr U (bif b then x else y) (S.val T ty (bif b then x else y))with
  |true=>k {v:=S.val T ty (bif b then x else y),use:=Q2 [c,x,y]}
  |false=>none
 |_=>none
def Afw (op:BinOp)(k1 k2:IntKind)(a b:Int)(k:SV U.D->Option α):Option α:=
 match op with
 | .shl=>if(0:Int)<=b then k (.int k1 (Afe k1 a b) 0)else none
 | .shr=>if(0:Int)<=b then k (.int k1 (Aff k1 a b) 0)else none
 | .quo=>match decide (k1=k2)with
  |true=>if b≠(0:Int)then k (.int k1 (Afg k1 a b) 0)else none
  |false=>none
 | .rem=>match decide (k1=k2)with
  |true=>if b≠(0:Int)then k (.int k1 (Int.tmod a b) 0)else none
  |false=>none
 |_=>none
def M9:BinOp->Option Bool
 | .eql=>some true
 | .neq=>some false
 |_=>none
def Us (S:SS U.D)(op:BinOp)(t:Nat)(x y:Operand)(ty:Nat)(k:Aj U.D->Option α):Option α:=
 match S.val T t x,S.val T ty y with
 | .c (.int k1 a _),.c (.int k2 b _)=>match (Afv op k1 a b:Option (SV U.D))with
  |some v=>match decide (k1=k2)with
   |true=>k {v:= .c v,use:=Q2 [x,y]}
   |false=>none
  |none=>Afw U op k1 k2 a b fun v=>k {v:= .c v,use:=Q2 [x,y]}
 | .c (.str a),.c (.str b)=>match M9 op with
  |some true=>k {v:= .c (.bool (a.toList==b.toList)),use:=Q2 [x,y]}
  |some false=>k {v:= .c (.bool (!(a.toList==b.toList))),use:=Q2 [x,y]}
  |none=>none
 | .c (.bool a),.c (.bool b)=>match tg T t with
  |some ti=>match ti.k with
   | .bool=>match M9 op with
    |some true=>k {v:= .c (.bool (a==b)),use:=Q2 [x,y]}
    |some false=>k {v:= .c (.bool (!(a==b))),use:=Q2 [x,y]}
    |none=>none
   |_=>none
  |none=>none
 |_,_=>none
def Ut (ok:Nat->Bool)(S:SS U.D)(op:BinOp)(t:Nat)(x y:Operand)(ty:Nat)(k:Aj U.D->Option α):Option α:=
 match S.val T t x,S.val T ty y with
 | .g us,.g vs=>match tg T t,Hn T 20 t (us.map (SV.toV U)) (vs.map (SV.toV U)),M9 op with
  |some ti,some b,some e=>match ti.k.agg&&ok t&&Nat.beq us.length ti.size&&Nat.beq vs.length ti.size&&(Gr U x (.g us)&&C2 us)&&(Gr U y (.g vs)&&C2 vs)with
   |true=>k {v:= .c (.bool (match e with|true=>b|false=> !b)),use:=Q2 [x,y]}
   |false=>none
  |_,_,_=>none
 |_,_=>none
def Uu (S:SS U.D)(op:UnOp)(t:Nat)(x:Operand)(k:Aj U.D->Option α):Option α:=
 match op,S.val T t x with
 | .not,.c (.bool b)=>k {v:= .c (.bool (!b)),use:=Q2 [x]}
 | .neg,.c (.int k1 n _)=>k {v:= .c (.int k1 (Afh k1 n) 0),use:=Q2 [x]}
 |_,_=>none
def Uv (S:SS U.D)(s t:Nat)(x:Operand)(k:Aj U.D->Option α):Option α:=
 match S.val T s x,tg T s,tg T t with
 | .c (.int k1 n _),some i,some j=>match i.k,j.k with
  | .int k2,.int k3=>match decide (k1=k2)with
   |true=>k {v:= .c (.int k3 (k3.wrap n) 0),use:=Q2 [x]}
   |false=>none
  |_,_=>none
 |_,_,_=>none
def Uw (S:SS U.D)(s:Nat)(x:Operand)(f:Nat)(k:Aj U.D->Option α):Option α:=
 match Jl T s f,S.val T 0 x with
 |some off,.c (.ptr id ver j)=>k {v:= .c (.ptr id ver (j+off)),use:=Q2 [x]}
 |some off,.c (.ptrE id ver g i j)=>k {v:= .c (.ptrE id ver g i (j+off)),use:=Q2 [x]}
 |some off,.c (.ptrR t l i j)=>k {v:= .c (.ptrR t l i (j+off)),use:=Q2 [x]}
 |some off,.c (.ptrB t y j)=>k {v:= .c (.ptrB t y (j+off)),use:=Q2 [x]}
 |_,_=>none
def Ux (S:SS U.D)(x:Operand)(k:Aj U.D->Option α):Option α:=
 match S.val T 0 x with
 | .c (.ptr id ver j)=>k {v:= .c (.ptr id ver j),use:=Q2 [x]}
 | .c (.ptrE id ver g i j)=>k {v:= .c (.ptrE id ver g i j),use:=Q2 [x]}
 | .c (.ptrB t y j)=>k {v:= .c (.ptrB t y j),use:=Q2 [x]}
 |_=>none
def SB.list{D:Nat->Type}:SB D->Option (Nat×Nat×Σ t,List (D t))
 | .rows ver t _ _ l=>some (ver,t,⟨t,l⟩)
 | .opn ver t _ _ l _ _ _=>some (ver,t,⟨t,l⟩)
 |_=>none
def Uy (S:SS U.D)(t:Nat)(x ix:Operand)(k:Aj U.D->Option α):Option α:=
 match S.val T t x,S.val T 0 ix with
 | .c (.row e l),.c (.int _ i _)=>match C0 T t with
  |some es=>match Nat.beq es (U.sz e)with
   |true=>if(0:Int)<=i/\i<(l.length:Int)then k {v:= .c (.ptrR e l i 0),use:=Q2 [x,ix]}else none
   |false=>none
  |none=>none
 | .c (.own id ver n),.c (.int _ i g)=>match S.blk id,C0 T t with
  |some B,some es=>match B.list with
   |some (ver',e,⟨_,l⟩)=>match Nat.beq ver' ver&&Nat.beq es (U.sz e)with
    |true=>if(0:Int)<=i/\i<(l.length:Int)then k {v:= .c (.ptrE id ver g i 0),use:=Q2 [x,ix],ids:=[id]}else none
    |false=>none
   |none=>none
  |_,_=>none
 | .c (.ptr id ver 0),.c (.int _ i _)=>match tg T t with
  |some ti=>match ti.k with
   | .array n e=>match tg T e with
    |some te=>match Nat.beq te.size 1 with
     |true=>if(0:Int)<=i/\i<(n:Int)then k {v:= .c (.ptrA id ver i),use:=Q2 [x,ix]}else none
     |false=>none
    |none=>none
   |_=>none
  |none=>none
 |_,_=>none
def Un.cells (d:Bool)(t:Nat)(x:U.D t):List (SV U.D):=match d with|true=>U.cO t true x|false=>U.cs t x
def Un.gt{t:Nat}(l:List (U.D t))(i:Int):U.D t:= @Go.Eng.gt (U.D t) (U.inh t) l i
def Gs (S:SS U.D)(use:List Tmp)(ids:List Nat)(agg:Bool)(sz j:Nat)(cs:List (SV U.D))(k:Aj U.D->Option α):Option α:=
 match Nat.ble (j+sz) cs.length&&C2 (Gc cs j sz),Uq agg (Gc cs j sz)with
 |true,some v=>k {v,use,ids}
 |_,_=>none
def Uz (S:SS U.D)(t:Nat)(x:Operand)(k:Aj U.D->Option α):Option α:=
 match S.val T 0 x,Js T t with
 | .c (.ptr id ver j),some (sz,agg)=>match S.blk id with
  |some (.box ver' cs)=>match Nat.beq ver' ver with
   |true=>Gs U S (Q2 [x]) [id] agg sz j cs k
   |false=>none
  |_=>none
 | .c (.ptrE id ver g i j),some (sz,agg)=>match S.blk id with
  |some (.rows ver' e d _ l)=>match Nat.beq ver' ver with
   |true=>Gs U S (Q2 [x]) [id] agg sz j (U.cells d e (U.gt l i)) k
   |false=>none
  |some (.opn ver' e d _ l g' i' cs)=>match Nat.beq ver' ver&&Nat.beq g g'&&Nat.blt 0 g with
   |true=>Gs U S (Q2 [x]) [id] agg sz j cs k
   |false=>none
  |_=>none
 | .c (.ptrA id ver i),some (1,false)=>match S.blk id with
  |some (.arr ver' n e l)=>match Nat.beq ver' ver&&Nat.beq (U.sz e) 1 with
   |true=>if(0:Int)<=i/\i<(l.length:Int)then Gs U S (Q2 [x]) [id] false 1 0 (U.cs e (U.gt l i)) k else none
   |false=>none
  |_=>none
 | .c (.ptrR e l i j),some (sz,agg)=>Gs U S (Q2 [x]) [] agg sz j (U.cs e (U.gt l i)) k
 | .c (.ptrB e y j),some (sz,agg)=>Gs U S (Q2 [x]) [] agg sz j (U.cs e y) k
 |_,_=>none
def SV.shut{D:Nat->Type}:SV D->Bool
 | .int .. | .bool .. | .str .. | .row .. | .rowT .. | .nilp=>true
 |_=>false
def Un.fold (d:Bool)(t:Nat)(cs:List (SV U.D)):Option (U.D t):=match d with|true=>U.fO t true cs|false=>U.fS t cs
def U0 (id ver e:Nat)(d:Bool)(l:List (U.D e))(g:Nat)(i:Int)(cs:List (SV U.D))(use:List Tmp)(k:Aj U.D->Option α):Option α:=
 match cs.all SV.shut with
 |true=>match U.fold d e cs with
  |some a=>k {v:= .c .undef,upd:=[(id,some (.rows ver e d false (l.set i.toNat a)))],use,ids:=[id]}
  |none=>none
 |false=>k {v:= .c .undef,upd:=[(id,some (.opn ver e d true l g i cs))],use,ids:=[id]}
def U1 (S:SS U.D)(dst:Option Tmp)(t:Nat)(x y:Operand)(k:Aj U.D->Option α):Option α:=
 match dst,Js T t,S.val T t y with
 |none,some (sz,agg),u=>match Q6 u.cells&&Nat.beq u.cells.length sz&&Nat.blt 0 sz,S.val T 0 x with
  |true,.c (.ptr id ver j)=>match S.blk id with
   |some (.box ver' cs)=>match Nat.beq ver' ver&&Nat.ble (j+sz) cs.length with
    |true=>k {v:= .c .undef,upd:=[(id,some (.box ver' (Fe cs j u.cells)))],use:=Q2 [x,y],ids:=[id]}
    |false=>none
   |_=>none
  |true,.c (.ptrE id ver g i j)=>match S.blk id with
   |some (.rows ver' e d _ l)=>match Nat.beq ver' ver&&Nat.ble (j+sz) (U.cells d e (U.gt l i)).length with
    |true=>U0 U id ver e d l g i (Fe (U.cells d e (U.gt l i)) j u.cells) (Q2 [x,y]) k
    |false=>none
   |some (.opn ver' e d _ l g' i' cs)=>match Nat.beq ver' ver&&Nat.beq g g'&&Nat.blt 0 g&&Nat.ble (j+sz) cs.length with
    |true=>k {v:= .c .undef,upd:=[(id,some (.opn ver e d true l g i' (Fe cs j u.cells)))],use:=Q2 [x,y],ids:=[id]}
    |false=>none
   |_=>none
  |true,.c (.ptrA id ver i)=>match S.blk id,u with
   |some (.arr ver' n e l),.c w=>match Nat.beq ver' ver&&Nat.beq sz 1&&Nat.beq (U.sz e) 1,U.fS e [w]with
    |true,some a=>if(0:Int)<=i/\i<(l.length:Int)then k {v:= .c .undef,upd:=[(id,some (.arr ver n e (l.set i.toNat a)))],use:=Q2 [x,y],ids:=[id]}else none
    |_,_=>none
   |_,_=>none
  |_,_=>none
 |_,_,_=>none
def K2 (t:Nat):V->SV U.D
 | .int k n=> .int k n (Kz n)
 | .bool b=> .bool b
 | .str s=> .str s
 | .nilp=> .nilp
 | .row true es []=>match tg T t with
  |some ti=>match ti.k with
   | .slice e=>match Nat.beq es (U.sz e)with
    |true=> .rowT e true []
    |false=> .undef
   |_=> .undef
  |none=> .undef
 |_=> .undef
def Hp:List Nat->List V->List (SV U.D)
 |t::ts,v::vs=>K2 U T t v::Hp ts vs
 |_,_=>[]
def K3 (t:Nat)(ti:TI):Option (List (SV U.D)):=
 match Bv T 50 t with
 |some ls=>match Nat.beq ls.length ti.zero.length&&(Hp U T ls ti.zero).all SV.shut with
  |true=>some (Hp U T ls ti.zero)
  |false=>none
 |none=>none
def Na (e:Nat):List (SV U.D)->Option (List (U.D e))
 |[]=>some []
 |c::r=>match U.fS e [c],Na e r with
  |some a,some l=>some (a::l)
  |_,_=>none
def Cj (d:Nat):Nat:=100+d
def U2 (S:SS U.D)(dst:Option Tmp)(t:Nat)(k:Aj U.D->Option α):Option α:=
 match dst,tg T t with
 |some d,some ti=>match K3 U T t ti with
  |some z=>match ti.k with
   | .array n e=>match Nat.beq (U.sz e) 1,Na U e z with
    |true,some l=>k {v:= .c (.ptr (Cj d) (S.ver (Cj d)) 0),upd:=[(Cj d,some (.arr (S.ver (Cj d)) z.length e l))],bump:=[Cj d],use:=[],ids:=[Cj d]}
    |_,_=>none
   |_=>k {v:= .c (.ptr (Cj d) (S.ver (Cj d)) 0),upd:=[(Cj d,some (.box (S.ver (Cj d)) z))],bump:=[Cj d],use:=[],ids:=[Cj d]}
  |none=>none
 |_,_=>none
def U3 (S:SS U.D)(dst:Option Tmp)(t:Nat)(x:Operand)(k:Aj U.D->Option α):Option α:=
 match dst,S.val T t x with
 |some d,u=>match Q6 u.cells&&Nat.blt 0 u.cells.length with
  |true=>k {v:= .c (.ptr (Cj d) (S.ver (Cj d)) 0),upd:=[(Cj d,some (.box (S.ver (Cj d)) u.cells))],bump:=[Cj d],use:=Q2 [x],ids:=[Cj d]}
  |false=>none
 |_,_=>none
def U4 (S:SS U.D)(x:Operand)(n:Nat)(k:Aj U.D->Option α):Option α:=
 match S.val T 0 x with
 | .t xs=>match xs[n]? with
  |some (true,cs)=>k {v:= .g cs,use:=Q2 [x]}
  |some (false,[v])=>k {v:= .c v,use:=Q2 [x]}
  |_=>none
 |_=>none
def Nb (pl:Nat->Option (Nat×Nat))(cs:List (SV U.D)):List (Nat×List (SV U.D))->Option (List (SV U.D))
 |[]=>some cs
 |(i,x)::r=>match pl i with
  |none=>none
  |some (off,n)=>match Nat.beq x.length n&&Nat.ble (off+n) cs.length&&Q6 x&&Nat.blt 0 n with
   |true=>Nb pl (Fe cs off x) r
   |false=>none
def Qv (S:SS U.D)(ft:Nat->Nat)(parts:List (Nat×Operand)):List (Nat×List (SV U.D)):=parts.map fun p=>(p.1,(S.val T (ft p.1) p.2).cells)
def Qw (gs:List (Nat×Nat))(i:Nat):Nat:=match gs[i]? with|some g=>g.2|none=>0
def U5 (S:SS U.D)(t:Nat)(parts:Array (Nat×Operand))(k:Aj U.D->Option α):Option α:=
 match tg T t with
 |some ti=>match K3 U T t ti,ti.k with
  |some z,.struct gs=>match P6 T t with
   |some pl=>match Nb U (pl[·]?) z (Qv U T S (Qw gs) parts.toList)with
    |some out=>k {v:= .g out,use:=Q2 (parts.toList.map (·.2))}
    |none=>none
   |none=>none
  |some z,.array n e=>match tg T e with
   |some te=>match Nb U (fun i=>some (i*te.size,te.size)) z (Qv U T S (fun _=>e) parts.toList)with
    |some out=>k {v:= .g out,use:=Q2 (parts.toList.map (·.2))}
    |none=>none
   |none=>none
  |_,_=>none
 |none=>none
def U6 (S:SS U.D)(t:Nat)(x ix:Operand)(k:Aj U.D->Option α):Option α:=
 match S.val T t x,S.val T 0 ix,tg T t with
 | .g cs,.c (.int _ j _),some ti=>match ti.k with
  | .array n e=>match tg T e,Na U e cs with
   |some te,some l=>match Nat.beq te.size 1&&Nat.beq cs.length n&& !te.k.agg&&Gr U x (.g cs)&&C2 cs&&Nat.beq (U.sz e) 1 with
    |true=>if(0:Int)<=j/\j<(n:Int)then Gs U S (Q2 [x,ix]) [] false 1 0 (U.cs e (U.gt l j)) k else none
    |false=>none
   |_,_=>none
  |_=>none
 |_,_,_=>none
def Ag (d:Nat):List Oper->Nat
 |[]=>3000+d
 |o::r=>match o.op,o.dst with
  | .assign (.tmp d'),some t=>match Nat.beq d d' with
   |true=>1000+t
   |false=>Ag d r
  |_,_=>Ag d r
def Qx (e:Nat):List (List (SV U.D))->Option (List (U.D e))
 |[]=>some []
 |c::r=>match U.fS e c,Qx e r with
  |some a,some l=>some (a::l)
  |_,_=>none
def Nc (x:Operand)(u:SA U.D):Bool:=match x with
 | .const _=>C2 u.cells
 |_=>true
def Nd (n:Nat):List (Nat×Operand)->Bool
 |[]=>true
 |p::r=>Nat.beq p.1 n&&Nd (n+1) r
def Ek:SV U.D->SV U.D
 | .rowT t _ []=> .row t []
 |v=>v
def Am1 (d:Tmp)(rest:List Oper):Bool:=rest.any fun o=>match o.op with
 | .call c=>(match c.callee with| .value _=>true|_=>false)&&c.args.toList.any fun x=>match x with| .tmp y=>Nat.beq y d|_=>false
 |_=>false
def Qy (S:SS U.D)(dst:Option Tmp)(rest:List Oper)(t n:Nat)(parts:Array (Nat×Operand))(k:Aj U.D->Option α):Option α:=
 match dst,tg T t with
 |some d,some ti=>match ti.k with
  | .slice e=>match tg T e with
   |some te=>match Nd 0 parts.toList&&Nat.beq parts.toList.length n&&Nat.ble (n*te.size) 16777216&&Nat.beq te.size (U.sz e)&&Nat.beq te.zero.length te.size&&Nat.blt 0 te.size&&
      parts.toList.all (fun p=>Q6 (S.val T e p.2).cells&&Nat.beq (S.val T e p.2).cells.length te.size&&Nc U p.2 (S.val T e p.2))with
    |true=>match (parts.toList.map fun p=>(S.val T e p.2).cells.map (Ek U)).all (fun c=>c.all SV.shut)with
     |true=>match Qx U e (parts.toList.map fun p=>(S.val T e p.2).cells.map (Ek U))with
      |some l=>match (l.isEmpty|| !U.flat e)&&Am1 d rest with
       |true=>k {v:= .c (.row e l),upd:=[(Ag d rest,none)],bump:=[Ag d rest],use:=Q2 (parts.toList.map (·.2)),ids:=[Ag d rest]}
       |false=>k {v:= .c (.own (Ag d rest) (S.ver (Ag d rest)) l.length),upd:=[(Ag d rest,some (.rows (S.ver (Ag d rest)) e (U.flat e||l.isEmpty) false l))],bump:=[Ag d rest],use:=Q2 (parts.toList.map (·.2)),ids:=[Ag d rest]}
      |none=>none
     |false=>match parts.toList with
      |[p]=>k {v:= .c (.own (Ag d rest) (S.ver (Ag d rest)) 1),upd:=[(Ag d rest,some (.opn (S.ver (Ag d rest)) e true true [@default _ (U.inh e)] 2 0 ((S.val T e p.2).cells.map (Ek U))))],bump:=[Ag d rest],use:=Q2 (parts.toList.map (·.2)),ids:=[Ag d rest]}
      |_=>none
    |false=>none
   |none=>none
  |_=>none
 |_,_=>none
def U7 (S:SS U.D)(dst:Option Tmp)(rest:List Oper)(t:Nat)(x y:Operand)(k:Aj U.D->Option α):Option α:=
 match dst,tg T t,S.val T 0 x,S.val T 0 y with
 |some d,some ti,.c (.int _ l _),.c (.int _ c _)=>match ti.k with
  | .slice e=>match tg T e with
   |some te=>match K3 U T e te with
    |some z=>match (match Nat.beq te.zero.length te.size&&Nat.blt 0 te.size&&Nat.beq te.size (U.sz e)with|true=>U.fO e true z|false=>none)with
     |some a=>if(0:Int)<=l/\l<=c/\(te.bytes:Int)*c<=281474976710656/\c<=9223372036854775807 then
       k {v:= .c (.own (Ag d rest) (S.ver (Ag d rest)) (List.replicate l.toNat a).length),upd:=[(Ag d rest,some (.rows (S.ver (Ag d rest)) e true false (List.replicate l.toNat a)))],bump:=[Ag d rest],use:=Q2 [x,y],ids:=[Ag d rest]}else none
     |none=>none
    |none=>none
   |none=>none
  |_=>none
 |_,_,_,_=>none
def Hq (S:SS U.D)(d:Int):Option Operand->Option Int
 |none=>some d
 |some x=>match S.val T 0 x with| .c (.int _ n _)=>some n|_=>none
def U8 (S:SS U.D)(t:Nat)(x:Operand)(lo hi:Option Operand)(k:Aj U.D->Option α):Option α:=
 match S.val T t x with
 | .c (.row e l)=>match C0 T t,Hq U T S 0 lo,Hq U T S (l.length:Int) hi with
  |some es,some a,some b=>match Nat.beq es (U.sz e)with
   |true=>if(0:Int)<=a/\a<=b/\b<=(l.length:Int)then k {v:= .c (.row e ((l.drop a.toNat).take (b - a).toNat)),use:=Q2 ([x]++lo.toList++hi.toList)}else none
   |false=>none
  |_,_,_=>none
 | .c (.own id ver n)=>match S.blk id,C0 T t with
  |some B,some es=>match B.list with
   |some (ver',e,⟨_,l⟩)=>match Nat.beq ver' ver&&Nat.beq es (U.sz e),Hq U T S 0 lo,Hq U T S (l.length:Int) hi with
    |true,some a,some b=>if(0:Int)<=a/\a<=b/\b<=(l.length:Int)then k {v:= .c (.part id ver a b),use:=Q2 ([x]++lo.toList++hi.toList),ids:=[id]}else none
    |_,_,_=>none
   |none=>none
  |_,_=>none
 |_=>none
def Hr (S:SS U.D):SV U.D->Option (List Nat×Bool×Σ t,List (U.D t))
 | .row t l=>some ([],false,⟨t,l⟩)
 | .rowT t d []=>some ([],d,⟨t,[]⟩)
 | .own id ver n=>match S.blk id with
  |some (.rows ver' t d _ l)=>match Nat.beq ver' ver with
   |true=>some ([id],d,⟨t,l⟩)
   |false=>none
  |_=>none
 | .part id ver lo hi=>match S.blk id with
  |some (.rows ver' t d _ l)=>match Nat.beq ver' ver with
   |true=>some ([id],d,⟨t,(l.drop lo.toNat).take (hi - lo).toNat⟩)
   |false=>none
  |_=>none
 |_=>none
def Qz (t:Nat):Bool:=match tg T t with|some ti=>(match ti.k with| .slice _=>true|_=>false)|none=>false
def Afx (t:Nat):Bool:=match tg T t with|some ti=>(match ti.k with| .str=>true|_=>false)|none=>false
def U9 (S:SS U.D)(t:Nat)(x:Operand)(k:Aj U.D->Option α):Option α:=
 match S.val T t x with
 | .c (.row e l)=>match Qz T t with
  |true=>k {v:= .c (.int .i64 (l.length:Int) 0),use:=Q2 [x]}
  |false=>none
 | .c (.own id ver n)=>match S.blk id,Qz T t with
  |some B,true=>match B.list with
   |some (ver',e,⟨_,l⟩)=>match Nat.beq ver' ver with
    |true=>k {v:= .c (.int .i64 (l.length:Int) 0),use:=Q2 [x]}
    |false=>none
   |none=>none
  |_,_=>none
 | .c (.str s)=>match Afx T t with
  |true=>k {v:= .c (.int .i64 (s.size:Int) 0),use:=Q2 [x]}
  |false=>none
 |_=>none
def Ra (S:SS U.D)(mx:Bool)(x y:Operand)(k:Aj U.D->Option α):Option α:=
 match S.val T 0 x,S.val T 0 y with
 | .c (.int k1 a _),.c (.int k2 b _)=>match decide (k1=k2)with
  |true=>k {v:= .c (.int k1 (match mx with|true=>M7 a b|false=>M6 a b) 0),use:=Q2 [x,y]}
  |false=>none
 |_,_=>none
def Nf (S:SS U.D)(d:Nat)(rest:List Oper)(e:Nat)(te:TI)(id:Nat)(ok:Bool)(w:SV U.D)(l l2:List (U.D e))(use:List Tmp)(k:Aj U.D->Option α):Option α:=
 match ok,w with
 |true,.own idw _ _=>match Nat.beq id idw with
  |false=>if(l++l2).length*te.bytes<=140737488355328/\(l++l2).length<=maxLen then
    k {v:= .c (.own (Ag d rest) (S.ver (Ag d rest)) (l++l2).length),upd:=[(idw,none),(id,none),(Ag d rest,some (.rows (S.ver (Ag d rest)) e true false (l++l2)))],bump:=[Ag d rest],use,ids:=[Ag d rest,id,idw]}else none
  |true=>none
 |_,_=>none
def Rb (S:SS U.D)(d:Nat)(rest:List Oper)(e:Nat)(te:TI)(id idw:Nat)(l:List (U.D e))(cs:List (SV U.D))(use:List Tmp)(k:Aj U.D->Option α):Option α:=
 if(l.length+1)*te.bytes<=140737488355328/\l.length+1<=maxLen then
  k {v:= .c (.own (Ag d rest) (S.ver (Ag d rest)) (l.length+1)),upd:=[(idw,none),(id,none),(Ag d rest,some (.opn (S.ver (Ag d rest)) e true true (l++[@default _ (U.inh e)]) 0 (l.length:Int) cs))],bump:=[Ag d rest],use,ids:=[Ag d rest,id,idw]}else none
def K4:SV U.D->Bool
 | .rowT .. | .undef| .skip=>false
 |_=>true
def Va (S:SS U.D)(d:Nat)(rest:List Oper)(e:Nat)(te:TI)(u w:SV U.D)(use:List Tmp)(k:Aj U.D->Option α):Option α:=
 match w with
 | .own idw vw _=>match S.blk idw with
  |some (.opn vw' ew _ _ [_] _ _ cs)=>match Nat.beq vw' vw&&cs.all (K4 U),decEq ew e with
   |true,.isTrue _=>match u with
    | .own id ver _=>match S.blk id with
     |some (.rows ver' eu du _ l)=>match Nat.beq ver' ver&&du&& !Nat.beq id idw,decEq eu e with
      |true,.isTrue h=>Rb U S d rest e te id idw (h ▸ l) cs use k
      |_,_=>none
     |_=>none
    | .rowT eu _ []=>match decEq eu e with
     | .isTrue _=>Rb U S d rest e te 0 idw [] cs use k
     |_=>none
    |_=>none
   |_,_=>none
  |_=>none
 |_=>none
def Vb (S:SS U.D)(d:Nat)(rest:List Oper)(e:Nat)(te:TI)(id idw:Nat)(l2:List (U.D e))(cs:List (SV U.D))(use:List Tmp)(k:Aj U.D->Option α):Option α:=
 match Nat.beq id idw with
 |false=>if(l2.length+1)*te.bytes<=140737488355328/\l2.length+1<=maxLen then
   k {v:= .c (.own (Ag d rest) (S.ver (Ag d rest)) (l2.length+1)),upd:=[(idw,none),(id,none),(Ag d rest,some (.opn (S.ver (Ag d rest)) e true true (@default _ (U.inh e)::l2) 0 0 cs))],bump:=[Ag d rest],use,ids:=[Ag d rest,id,idw]}else none
 |true=>none
def Vc (S:SS U.D)(dst:Option Tmp)(rest:List Oper)(t:Nat)(x y:Operand)(k:Aj U.D->Option α):Option α:=
 match dst,tg T t,S.val T t x,S.val T t y with
 |some d,some ti,.c u,.c w=>match ti.k,Hr U S w with
  | .slice e,some (idw,dw,⟨ew,l2⟩)=>match tg T e,decEq ew e with
   |some te,.isTrue h2=>match Nat.blt 0 te.size&&Nat.beq te.size (U.sz e)&&Nat.beq te.zero.length te.size with
    |true=>match u with
     | .own id ver n=>match S.blk id with
      |some (.rows ver' eu du _ l)=>match Nat.beq ver' ver,decEq eu e with
       |true,.isTrue h1=>match U.flat e||(!du&& !dw)with
        |true=>if((h1 ▸ l)++(h2 ▸ l2:List (U.D e))).length*te.bytes<=140737488355328/\((h1 ▸ l)++(h2 ▸ l2:List (U.D e))).length<=maxLen then
          k {v:= .c (.own (Ag d rest) (S.ver (Ag d rest)) ((h1 ▸ l)++(h2 ▸ l2:List (U.D e))).length),upd:=[(id,none),(Ag d rest,some (.rows (S.ver (Ag d rest)) e (U.flat e) false ((h1 ▸ l)++(h2 ▸ l2:List (U.D e)))))],bump:=[Ag d rest],use:=Q2 [x,y],ids:=Ag d rest::([id]++idw)}else none
        |false=>Nf U S d rest e te id (du&&dw) w (h1 ▸ l) (h2 ▸ l2) (Q2 [x,y]) k
       |_,_=>none
      |some (.opn ver' eu _ _ [_] _ _ cs)=>match Nat.beq ver' ver&&cs.all (K4 U)&&dw,decEq eu e,w with
       |true,.isTrue _,.own idw' _ _=>Vb U S d rest e te id idw' (h2 ▸ l2) cs (Q2 [x,y]) k
       |_,_,_=>none
      |_=>none
     | .rowT eu du []=>match U.flat e|| !dw,decEq eu e with
      |true,.isTrue _=>if(h2 ▸ l2:List (U.D e)).length*te.bytes<=140737488355328/\(h2 ▸ l2:List (U.D e)).length<=maxLen then
        k {v:= .c (.own (Ag d rest) (S.ver (Ag d rest)) (h2 ▸ l2:List (U.D e)).length),upd:=[(Ag d rest,some (.rows (S.ver (Ag d rest)) e (U.flat e) false (h2 ▸ l2:List (U.D e))))],bump:=[Ag d rest],use:=Q2 [x,y],ids:=Ag d rest::idw}else none
      |false,.isTrue _=>Nf U S d rest e te 0 dw w [] (h2 ▸ l2) (Q2 [x,y]) k
      |_,_=>none
     |_=>none
    |false=>none
   |_,_=>none
  | .slice e,none=>match tg T e with
   |some te=>match Nat.blt 0 te.size&&Nat.beq te.size (U.sz e)&&Nat.beq te.zero.length te.size with
    |true=>Va U S d rest e te u w (Q2 [x,y]) k
    |false=>none
   |none=>none
  |_,_=>none
 |_,_,_,_=>none
def Ng (S:SS U.D):SV U.D->Option (Nat×Nat×Nat×Nat×Bool×Σ t,List (U.D t))
 | .own id ver _=>match S.blk id with
  |some (.rows ver' t d _ l)=>match Nat.beq ver' ver with
   |true=>some (id,ver,0,l.length,d,⟨t,l⟩)
   |false=>none
  |_=>none
 | .part id ver lo hi=>match S.blk id with
  |some (.rows ver' t d _ l)=>match Nat.beq ver' ver with
   |true=>some (id,ver,lo.toNat,(hi - lo).toNat,d,⟨t,l⟩)
   |false=>none
  |_=>none
 |_=>none
def Vd (S:SS U.D)(t:Nat)(x y:Operand)(k:Aj U.D->Option α):Option α:=
 match tg T t,S.val T t x,S.val T t y with
 |some ti,.c u,.c w=>match ti.k,Ng U S u,Hr U S w with
  | .slice e,some (id,ver,off,len,d,⟨e',l⟩),some (idw,dw,⟨ew,l2⟩)=>match tg T e,decEq e' e,decEq ew e with
   |some te,.isTrue h1,.isTrue h2=>match Nat.beq te.size (U.sz e)&&Nat.blt 0 te.size&&(U.flat e|| !d&& !dw)&&Nc U y (.c w)with
    |true=>k {v:= .c (.int .i64 ((Nat.min (h2 ▸ l2:List (U.D e)).length len:Nat):Int) 0),upd:=[(id,some (.rows ver e d false ((h1 ▸ l:List (U.D e)).take off++(h2 ▸ l2:List (U.D e)).take (Nat.min (h2 ▸ l2:List (U.D e)).length len)++(h1 ▸ l:List (U.D e)).drop (off+Nat.min (h2 ▸ l2:List (U.D e)).length len))))],use:=Q2 [x,y],ids:=id::idw}
    |false=>none
   |_,_,_=>none
  |_,_,_=>none
 |_,_,_=>none
def Ve (S:SS U.D)(t:Nat)(x:Operand)(k:Aj U.D->Option α):Option α:=
 match tg T t,S.val T t x with
 |some ti,.c u=>match ti.k,Ng U S u with
  | .slice e,some (id,ver,off,len,d,⟨e',l⟩)=>match tg T e,decEq e' e with
   |some te,.isTrue h=>match K3 U T e te with
    |some z=>match te.zero,Nat.beq (U.sz e) 1&&U.flat e,U.fO e true z with
     |[.int _ _],true,some a=>if 0<len then k {v:= .t [],upd:=[(id,some (.rows ver e d false ((h ▸ l:List (U.D e)).take off++List.replicate len a++(h ▸ l:List (U.D e)).drop (off+len))))],use:=Q2 [x],ids:=[id]}else none
     |_,_,_=>none
    |none=>none
   |_,_=>none
  |_,_=>none
 |_,_=>none
def Rc:List (SA U.D)->Option (List (Σ t,U.D t))
 |[]=>some []
 | .c (.ptrB t x 0)::r=>match Rc r with
  |some l=>some (⟨t,x⟩::l)
  |none=>none
 |_=>none
def Rd:List (SA U.D)->Option (List (Nat×Nat)×List (Σ t,U.D t))
 | .c (.ptr id ver 0)::r=>match Rd r with
  |some (l,q)=>some ((id,ver)::l,q)
  |none=>none
 |l=>match Rc U l with
  |some q=>some ([],q)
  |none=>none
def Vf (S:SS U.D)(fn:Fn)(first caps:Array Operand)(k:Aj U.D->Option α):Option α:=
 match fn,first.toList,Rd U (caps.toList.map (S.val T 0))with
 | .func f,[],some (l,q)=>k {v:= .c (.fn f l q),use:=Q2 caps.toList}
 |_,_,_=>none
end
inductive PM where
 |v (t:Nat)
 |b (t:Nat) (m:Bool)
 |w (t:Nat) (m:Bool) (es:List (Nat×Bool))
 |r (t:Nat)
 |f (fid:FuncId) (caps:List Nat) (ts:List Nat)
inductive RM where
 |v (t:Nat)
 |n (t:Nat) (m:Bool)
 |p (t:Nat) (m:Bool)
inductive TC where
 |d (t:Nat)
 |l (e:Nat)
 |n
def RM.code:RM->TC
 | .v t=> .d t
 | .n t _=> .d t
 | .p t _=> .d t
def Dh:List PM->List TC
 |[]=>[]
 | .v _::r=>Dh r
 | .b t _::r=> .d t::Dh r
 | .w _ _ es::r=>es.map (fun e=>TC.l e.1)++Dh r
 | .r _::r=>Dh r
 | .f _ _ _::r=>Dh r
structure Sig where
 ps:List PM
 rs:List RM
 lend:Bool
def Sig.codes (s:Sig):List TC:=s.rs.map RM.code++Dh s.ps
section
variable (U:Un)
def TC.T:TC->Type
 | .d t=>U.D t
 | .l e=>List (U.D e)
 | .n=>Nat
def Af:List TC->Type
 |[]=>Unit
 |[c]=>c.T U
 |c::c'::r=>c.T U×Af (c'::r)
def Af.hd:{c:TC}->{r:List TC}->Af U (c::r)->c.T U
 |_,[],x=>x
 |_,_::_,x=>x.1
def Af.tl:{c:TC}->{r:List TC}->Af U (c::r)->Af U r
 |_,[],_=>()
 |_,_::_,x=>x.2
def Af.mk:{c:TC}->{r:List TC}->c.T U->Af U r->Af U (c::r)
 |_,[],x,_=>x
 |_,_::_,x,y=>(x,y)
def K5:List Nat->Type->Type
 |[],R=>R
 |t::r,R=>U.D t->K5 r R
def Ev:List PM->Type->Type
 |[],R=>R
 | .v t::r,R=>U.D t->Ev r R
 | .b t _::r,R=>U.D t->Ev r R
 | .w t _ _::r,R=>U.D t->Ev r R
 | .r t::r,R=>U.D t->Ev r R
 | .f _ _ ts::r,R=>K5 U ts (Ev r R)
def El (t:Nat)(x:U.D t):SA U.D:=match U.ag t with
 |true=> .g (U.cs t x)
 |false=>match U.cs t x with
  |[v]=> .c v
  |_=> .c .undef
def K6 (t:Nat):SA U.D->Option (U.D t)
 | .c v=>match U.ag t with
  |false=>U.fS t [v]
  |true=>none
 | .g cs=>match U.ag t with
  |true=>U.fS t cs
  |false=>none
 | .t _=>none
def SA.isG{D:Nat->Type}(ag:Bool):SA D->Bool
 | .c _=> !ag
 | .g _=>ag
 | .t _=>false
def Gd (H:List (SB U.D)):Nat->List (SV U.D)->Option (Nat×List (SV U.D))
 |n,[]=>some (n,[])
 |n,.own id 0 len::r=>match Nat.beq id (n+1),H[n]? with
  |true,some (.rows 0 t d _ l)=>match Gd H (n+1) r with
   |some (n',cs)=>some (n',.rowT t d l::cs)
   |none=>none
  |_,_=>none
 |n,v::r=>match v.shut&& !isT v with
  |true=>match Gd H n r with
   |some (n',cs)=>some (n',v::cs)
   |none=>none
  |false=>none
def Q9:Nat->List (SV U.D)->List (SV U.D)×List (SB U.D)
 |n,[]=>([],[])
 |n,.rowT t d l::r=>(.own (n+1) 0 l.length::(Q9 (n+1) r).1,.rows 0 t d false l::(Q9 (n+1) r).2)
 |n,v::r=>(v::(Q9 n r).1,(Q9 n r).2)
def Re{X:Type}:(ts:List Nat)->List (Σ t,U.D t)->K5 U ts X->Option X
 |[],[],m=>some m
 |t::ts,⟨t',x⟩::r,m=>match decEq t' t with
  | .isTrue h=>Re ts r (m (h ▸ x))
  |_=>none
 |_,_,_=>none
def E5{R α:Type}:(ps:List PM)->List (SA U.D)->List (SB U.D)->Nat->Ev U ps (Option R)->(Option R->Option α)->Option α
 |[],[],H,n,m,k=>match Nat.beq H.length n with
  |true=>k m
  |false=>none
 | .v t::ps,a::as,H,n,m,k=>match K6 U t a with
  |some x=>E5 ps as H n (m x) k
  |none=>none
 | .b t md::ps,.c (.ptr i 0 0)::as,H,n,m,k=>match Nat.beq i (n+1),H[n]? with
  |true,some (.box 0 cs)=>match U.fO t md cs with
   |some x=>E5 ps as H (n+1) (m x) k
   |none=>none
  |_,_=>none
 | .w t md es::ps,a::as,H,n,m,k=>match Gd U H n a.cells with
  |some (n',cs)=>match U.fO t md cs,Nat.beq n' (n+es.length)&&a.isG (U.ag t)with
   |some x,true=>E5 ps as H n' (m x) k
   |_,_=>none
  |none=>none
 | .r t::ps,.c (.ptrB t' x 0)::as,H,n,m,k=>match decEq t' t with
  | .isTrue h=>E5 ps as H n (m (h ▸ x)) k
  |_=>none
 | .f fid caps ts::ps,.c (.fn fid' caps' rs)::as,H,n,m,k=>match Nat.beq fid fid'&&decide (caps'=caps.map fun i=>(i,0)),Re U ts rs m with
  |true,some m'=>E5 ps as H n m' k
  |_,_=>none
 |_,_,_,_,_,_=>none
def Gt:(es:List (Nat×Bool))->(W:List TC)->Af U (es.map (fun e=>TC.l e.1)++W)->List (SB U.D)×Af U W
 |[],_,r=>([],r)
 |(e,d)::es,W,r=>
  let l:List (U.D e):=Af.hd U r
  let q:=Gt es W (Af.tl U r)
  (.rows 0 e d false l::q.1,q.2)
def E6:(ps:List PM)->Af U (Dh ps)->List (SB U.D)
 |[],_=>[]
 | .v _::ps,r=>E6 ps r
 | .b t m::ps,r=> .box 0 (U.cO t m (Af.hd U r))::E6 ps (Af.tl U r)
 | .w _ _ es::ps,r=>(Gt U es (Dh ps) r).1++E6 ps (Gt U es (Dh ps) r).2
 | .r _::ps,r=>E6 ps r
 | .f _ _ _::ps,r=>E6 ps r
def Cl (W:List TC):(rs:List RM)->Nat->Af U (rs.map RM.code++W)->List (Bool×List (SV U.D))×List (SB U.D)×Af U W
 |[],_,r=>([],[],r)
 | .v t::rs,n,r=>
  let q:=Cl W rs n (Af.tl U r)
  ((U.ag t,U.cs t (Af.hd U r))::q.1,q.2.1,q.2.2)
 | .n t m::rs,n,r=>
  let p:=Q9 U n (U.cO t m (Af.hd U r))
  let q:=Cl W rs (n+p.2.length) (Af.tl U r)
  ((U.ag t,p.1)::q.1,p.2++q.2.1,q.2.2)
 | .p t m::rs,n,r=>
  let q:=Cl W rs (n+1) (Af.tl U r)
  ((false,[.ptr (n+1) 0 0])::q.1,.box 0 (U.cO t m (Af.hd U r))::q.2.1,q.2.2)
def Rf:List (Bool×List (SV U.D))->SA U.D
 |[(true,cs)]=> .g cs
 |[(false,[v])]=> .c v
 |l=> .t l
def Aw:List PM->Nat
 |[]=>0
 | .v _::r=>Aw r
 | .b _ _::r=>Aw r+1
 | .w _ _ es::r=>Aw r+es.length
 | .r _::r=>Aw r
 | .f _ _ _::r=>Aw r
def Sig.res (s:Sig)(r:Af U s.codes):SA U.D:=Rf U (Cl U (Dh s.ps) s.rs (Aw s.ps) r).1
def Sig.blks (s:Sig)(r:Af U s.codes):List (SB U.D):=
 E6 U s.ps (Cl U (Dh s.ps) s.rs (Aw s.ps) r).2.2++(Cl U (Dh s.ps) s.rs (Aw s.ps) r).2.1
structure Bc where
 sg:Sig
 m:Ev U sg.ps (Option (Af U sg.codes))
def SB.ver{D:Nat->Type}:SB D->Nat
 | .rows v _ _ _ _=>v
 | .box v _=>v
 | .arr v _ _ _=>v
 | .opn v _ _ _ _ _ _ _=>v
def SB.upV{D:Nat->Type}(v:Nat):SB D->SB D
 | .rows _ t d _ l=> .rows v t d false l
 | .box _ cs=> .box v cs
 | .arr _ n t l=> .arr v n t l
 | .opn _ t d _ l g i cs=> .opn v t d true l g i cs
def Rh (io:List Nat)(S:SS U.D):List (Nat×Nat)->Option (List (Nat×Nat))
 |[]=>some []
 |c::r=>match S.blk c.1,A7 io c.1,Rh io S r with
  |some B,some i,some cs=>match Nat.beq B.ver c.2 with
   |true=>some ((i+1,0)::cs)
   |false=>none
  |_,_,_=>none
def Vg (lent:Bool):SB U.D->SV U.D
 | .rows _ t _ _ l=>match lent with
  |true=> .row t l
  |false=> .undef
 |_=> .undef
def Vh (lent:Bool)(lo hi:Int):SB U.D->SV U.D
 | .rows _ t _ _ l=>match lent with
  |true=> .row t ((l.drop lo.toNat).take (hi - lo).toNat)
  |false=> .undef
 |_=> .undef
def SV.low (lent:Bool)(io:List Nat)(S:SS U.D):SV U.D->SV U.D
 | .own id ver n=>match S.blk id with
  |some B=>match Nat.beq B.ver ver with
   |true=>match A7 io id with
    |some i=> .own (i+1) 0 n
    |none=>Vg U lent B
   |false=> .undef
  |none=> .undef
 | .part id ver lo hi=>match S.blk id with
  |some B=>match Nat.beq B.ver ver with
   |true=>match A7 io id with
    |some _=> .undef
    |none=>Vh U lent lo hi B
   |false=> .undef
  |none=> .undef
 | .ptr id ver j=>match S.blk id with
  |some B=>match Nat.beq B.ver ver with
   |true=>match A7 io id with
    |some i=> .ptr (i+1) 0 j
    |none=> .undef
   |false=> .undef
  |none=> .undef
 | .rowT t d []=> .row t []
 | .ptrB t x j=> .ptrB t x j
 | .fn f caps rs=>match Rh U io S caps with
  |some cs=> .fn f cs rs
  |none=> .undef
 | .int k n _=> .int k n 0
 | .bool b=> .bool b
 | .str s=> .str s
 | .row t l=> .row t l
 | .nilp=> .nilp
 |_=> .undef
def SA.low (lent:Bool)(io:List Nat)(S:SS U.D):SA U.D->SA U.D
 | .c v=> .c (v.low U lent io S)
 | .g cs=> .g (cs.map (SV.low U lent io S))
 | .t _=> .c .undef
def SV.isU{D:Nat->Type}:SV D->Bool
 | .undef=>true
 |_=>false
def Ri (a:SA U.D):Bool:=a.cells.all fun v=> !v.isU
def Vi (S:SS U.D)(id:Nat):Option (SB U.D):=
 match S.blk id with
 |some (.rows _ t d _ l)=>some (.rows 0 t d false l)
 |some (.box _ cs)=>match cs.all SV.shut with
  |true=>some (.box 0 cs)
  |false=>none
 |_=>none
def Nh (S:SS U.D):List Nat->Option (List (SB U.D))
 |[]=>some []
 |id::r=>match Vi U S id,Nh S r with
  |some b,some l=>some (b::l)
  |_,_=>none
def K7:List (SV U.D)->List Nat
 |[]=>[]
 | .own id _ _::r=>id::K7 r
 |_::r=>K7 r
def Rj:List Nat->List Nat->List Nat
 |acc,[]=>acc
 |acc,x::r=>match acc.contains x with
  |true=>Rj acc r
  |false=>Rj (acc++[x]) r
def K8:List PM->List (SA U.D)->List Nat
 | .b _ _::ps,.c (.ptr id _ _)::as=>id::K8 ps as
 | .w _ _ _::ps,a::as=>K7 U a.cells++K8 ps as
 | .f _ _ _::ps,.c (.fn _ caps _)::as=>caps.map (·.1)++K8 ps as
 |_::ps,_::as=>K8 ps as
 |_,_=>[]
def Ge (io:List Nat):List (SA U.D)->List Nat
 |[]=>[]
 |a::as=>(a.cells.flatMap fun v=>match v with
  | .own id _ _=>if io.contains id then []else [id]
  | .part id _ _ _=>if io.contains id then []else [id]
  |_=>[])++Ge io as
def Vj (d:Nat)(rest:List Oper):Nat->List Nat
 |0=>[]
 |1=>[Ag d rest]
 |n=>(List.range n).map fun i=>20000+32*d+i
def SV.up (outs:List Nat)(ver:Nat->Nat):SV U.D->SV U.D
 | .own (i+1) _ n=>match outs[i]? with
  |some id=> .own id (ver id) n
  |none=> .undef
 | .ptr (i+1) _ j=>match outs[i]? with
  |some id=> .ptr id (ver id) j
  |none=> .undef
 | .int k n _=> .int k n 0
 | .ptr .. | .ptrE .. | .ptrA .. | .ptrR .. | .ptrB .. | .part .. | .own .. | .fn .. => .undef
 |v=>v
def Ni (outs:List Nat)(ver:Nat->Nat)(cs:List (SV U.D)):List (SV U.D):=cs.map (SV.up U outs ver)
def SA.up (outs:List Nat)(ver:Nat->Nat):SA U.D->SA U.D
 | .c v=> .c (v.up U outs ver)
 | .g cs=> .g (Ni U outs ver cs)
 | .t xs=> .t (xs.map fun x=>(x.1,Ni U outs ver x.2))
def Fq (ver:Nat->Nat):List Nat->List (SB U.D)->List (Nat×Option (SB U.D))
 |id::r,B::Bs=>(id,some (B.upV (ver id)))::Fq ver r Bs
 |_,_=>[]
def Jt (S:SS U.D):List Nat->List (SB U.D)->List (Nat×Nat)
 |id::r,.rows _ _ _ _ l'::Bs=>match S.blk id with
  |some (.rows _ _ _ _ l)=>(l'.length,l.length)::Jt S r Bs
  |_=>Jt S r Bs
 |_::r,_::Bs=>Jt S r Bs
 |_,_=>[]
def Rk (S:SS U.D):List Nat->List (SB U.D)->Bool
 |id::r,B::Bs=>(match B,S.blk id with
  | .rows _ t _ _ _,some (.rows _ t' _ _ _)=>Nat.beq t t'
  | .box _ cs,some (.box _ cs')=>Nat.beq cs.length cs'.length
  |_,_=>false)&&Rk S r Bs
 |[],_=>true
 |_,[]=>false
def Nj{α:Type}(x:Option α):List (Nat×Nat)->Option α
 |[]=>x
 |[(a,b)]=>if a=b then x else none
 |[(a,b),(c,d)]=>if a=b/\c=d then x else none
 |[(a,b),(c,d),(e,f)]=>if a=b/\c=d/\e=f then x else none
 |[(a,b),(c,d),(e,f),(g,h),(i,j),(k,l)]=>if a=b/\c=d/\e=f/\g=h/\i=j/\k=l then x else none
 |(a,b)::r=>if a=b then Nj x r else none
def Dz (S:SS U.D)(io:List Nat)(id:Nat):Nat:=match io.contains id,S.blk id with
 |true,some B=>B.ver
 |_,_=>S.ver id
def Ju (lent:Bool):SV U.D->Bool
 | .own _ _ _=>true
 | .ptr _ _ _=>true
 | .row _ l=> !lent||l.isEmpty
 | .rowT t d _=> !lent||(d&& !U.far t 1000||U.flat t)
 | .int .. | .bool .. | .str .. | .nilp=>true
 |_=>false
def Afy (lent:Bool):SA U.D->Bool
 | .c v=>Ju U lent v
 | .g cs=>cs.all (Ju U lent)
 | .t xs=>xs.all fun x=>x.2.all (Ju U lent)
def Vk (lent:Bool):SB U.D->Bool
 | .rows _ t d _ _=> !lent||(d&& !U.far t 1000||U.flat t)
 | .box _ cs=>cs.all fun c=>c.shut&&Fc c&&Ju U lent c
 |_=>false
def Vl (x:Operand)(a:SA U.D):Bool:=match x with
 | .const _=>Q6 a.cells&&C2 a.cells
 |_=>true
def Vm{α:Type}(S:SS U.D)(lent:Bool)(io lids news:List Nat)(use:List Tmp)(k:Aj U.D->Option α)(H1:List (SB U.D))(res:SA U.D):Option α:=
 match Rk U S io H1&&Afy U lent res&&H1.all (Vk U lent)&&Nat.ble io.length H1.length&&decide (io++news).Nodup&&news.all (Nat.ble 100)with
 |true=>Nj (k {v:=res.up U (io++news) (Dz U S io),upd:=Fq U (Dz U S io) (io++news) H1,bump:=news,use,ids:=io++news++lids}) (Jt U S io H1)
 |false=>none
variable (T:Tab)
def callArgs (S:SS U.D)(caps:List (Nat×Nat))(rs:List (Σ t,U.D t))(l:List (Operand×TypeId)):List (SA U.D):=(l.map fun p=>S.val T p.2 p.1)++((caps.map fun c=>SA.c (.ptr c.1 c.2 0))++rs.map fun q=>SA.c (.ptrB q.1 q.2 0))
def Afz{α:Type}(S:SS U.D)(dst:Option Tmp)(rest:List Oper)(sg:Sig)(m:Ev U sg.ps (Option (Af U sg.codes)))(args:List (SA U.D))(io:List Nat)(use:List Tmp)(k:Aj U.D->Option α):Option α:=
 match Nh U S io,(args.map (SA.low U sg.lend io S)).all (Ri U)with
 |some H0,true=>E5 U sg.ps (args.map (SA.low U sg.lend io S)) H0 0 m fun o=>o.bind fun r=>
   Vm U S sg.lend io (Ge U io args) (Vj (match dst with|some d=>d|none=>9000) rest ((sg.blks U r).length - io.length)) use k (sg.blks U r) (sg.res U r)
 |_,_=>none
def Vn{α:Type}(Γ:List (Nat×Bc U))(S:SS U.D)(dst:Option Tmp)(rest:List Oper)(x:Operand)(xs:Array Operand)(ats:Array TypeId)(k:Aj U.D->Option α):Option α:=
 match S.val T 0 x with
 | .c (.fn f caps rs)=>match lk Γ f with
  |some ⟨sg,m⟩=>match Nat.beq xs.size ats.size&&(xs.toList.zip ats.toList).all (fun p=>Vl U p.1 (S.val T p.2 p.1))with
   |true=>Afz U S dst rest sg m (callArgs U T S caps rs (xs.toList.zip ats.toList)) (Rj [] (K8 U sg.ps (callArgs U T S caps rs (xs.toList.zip ats.toList)))) (Q2 (x::xs.toList)) k
   |false=>none
  |none=>none
 |_=>none
end
inductive Cmd where
 |take (id j nid:Nat)
 |opn (id:Nat) (ix:Operand)
 |opp (id t:Nat)
 |takeE (id j nid:Nat)
 |put (id:Nat)
 |frz (id:Nat)
 |shal (id:Nat)
 |nilO (t nid:Nat)
 |cold (t:Nat)
 |cut (t:Nat)
 |len (t:Nat)
 |share (id:Nat)
 |nilG (t j nid:Nat)
 |frzT (t:Nat)
 |frzB (id t:Nat)
 |putc (id j:Nat)
section
variable (U:Un) (T:Tab) {α:Type}
def Bz (S:SS U.D)(l:List (Nat×Option (SB U.D))):SS U.D:=⟨S.env,l++S.H,S.nv,S.ctr⟩
def upE (S:SS U.D)(t:Nat)(v:SA U.D):SS U.D:=⟨(t,v)::S.env,S.H,S.nv,S.ctr⟩
def Rl (S:SS U.D)(v:SV U.D):Option (SV U.D×List Nat×Bool):=
 match v with
 | .own nid ver n=>match S.blk nid with
  |some (.rows ver' t d cl l)=>match Nat.beq ver' ver with
   |true=>some (.rowT t d l,[nid],!cl)
   |false=>none
  |_=>none
 |v=>some (v,[],false)
def putCells (S:SS U.D):List (SV U.D)->Option (List (SV U.D)×List Nat×Bool)
 |[]=>some ([],[],false)
 |v::r=>match Rl U S v,putCells S r with
  |some (w,i,b),some (ws,is,c)=>some (w::ws,i++is,b||c)
  |_,_=>none
def K9 (id:Nat)(ids:List Nat):Bool:=decide ids.Nodup&&ids.all (Nat.ble 100)&& !(ids.contains id)
def Jv:SV U.D->SV U.D
 | .rowT t _ l=> .row t l
 |v=>v
def Un.farP (d:Bool)(t j:Nat):Bool:=match d with
 |true=>U.far t j
 |false=>true
def Nk (d:Bool)(t:Nat):Nat->List (SV U.D)->List (SV U.D)
 |_,[]=>[]
 |j,c::r=>(bif U.farP d t j then Jv U c else c)::Nk d t (j+1) r
def Rm (S:SS U.D)(id:Nat):Option (SS U.D):=
 match S.blk id with
 |some (.opn ver t d dirty l g i cs)=>match putCells U S cs with
  |some (cs',ids,ch)=>match cs'.all SV.shut&&K9 id ids,dirty||ch with
   |true,false=>some (Bz U S (ids.map (fun i=>(i,none))++[(id,some (.rows ver t d false l))]))
   |true,true=>match U.fold d t (Nk U d t 0 cs')with
    |some a=>some (Bz U S (ids.map (fun i=>(i,none))++[(id,some (.rows ver t d false (l.set i.toNat a)))]))
    |none=>none
   |_,_=>none
  |none=>none
 |some _=>some S
 |none=>none
def Nl (S:SS U.D):List (SV U.D)->Option (SS U.D)
 |[]=>some S
 | .own nid _ _::r=>match Rm U S nid with
  |some S'=>Nl S' r
  |none=>none
 |_::r=>Nl S r
def Vo (S:SS U.D)(id:Nat):Option (SS U.D):=
 match S.blk id with
 |some (.box ver cs)=>match Nl U S cs with
  |some S'=>match putCells U S' cs with
   |some (cs',ids,_)=>match K9 id ids with
    |true=>some (Bz U S' (ids.map (fun i=>(i,none))++[(id,some (.box ver cs'))]))
    |false=>none
   |none=>none
  |none=>none
 |some (.opn ..)=>Rm U S id
 |some _=>some S
 |none=>some S
def Di (id ver t:Nat)(l:List (U.D t)):SV U.D->SV U.D
 | .own i v n=>match Nat.beq i id with
  |true=>match Nat.beq v ver with
   |true=> .row t l
   |false=> .undef
  |false=> .own i v n
 | .part i v lo hi=>match Nat.beq i id with
  |true=>match Nat.beq v ver with
   |true=> .row t ((l.drop lo.toNat).take (hi - lo).toNat)
   |false=> .undef
  |false=> .part i v lo hi
 | .ptrE i v g k j=>match Nat.beq i id with
  |true=> .undef
  |false=> .ptrE i v g k j
 | .ptr i v j=>match Nat.beq i id with
  |true=> .undef
  |false=> .ptr i v j
 | .ptrA i v k=>match Nat.beq i id with
  |true=> .undef
  |false=> .ptrA i v k
 | .fn f caps rs=>match caps.any fun c=>Nat.beq c.1 id with
  |true=> .undef
  |false=> .fn f caps rs
 |v=>v
def La (id ver t:Nat)(l:List (U.D t)):SA U.D->SA U.D
 | .c v=> .c (Di U id ver t l v)
 | .g cs=> .g (cs.map (Di U id ver t l))
 | .t _=> .c .undef
def frzB (id ver t:Nat)(l:List (U.D t)):SB U.D->SB U.D
 | .box v cs=> .box v (cs.map (Di U id ver t l))
 | .opn v t' d q l' g i cs=> .opn v t' d true l' g i (cs.map (Di U id ver t l))
 |b=>b
def Rn (S:SS U.D)(id:Nat):Option (SS U.D):=
 match S.blk id with
 |some (.rows ver t d _ l)=>some ⟨S.env.map fun p=>(p.1,La U id ver t l p.2),(id,none)::S.H.map fun p=>(p.1,p.2.map (frzB U id ver t l)),S.nv,S.ctr⟩
 |some _=>none
 |none=>some S
def Ro (S:SS U.D):List Nat->Option (SS U.D)
 |[]=>some S
 |id::r=>match Rn U S id with
  |some S'=>Ro S' r
  |none=>none
def Vp:List (SV U.D)->List Nat
 |[]=>[]
 | .part id _ _ _::r=>id::Vp r
 |_::r=>Vp r
def Dp (id ver t:Nat)(x:U.D t):SV U.D->SV U.D
 | .ptr i v j=>match Nat.beq i id with
  |true=>match Nat.beq v ver with
   |true=> .ptrB t x j
   |false=> .undef
  |false=> .ptr i v j
 | .own i v n=>match Nat.beq i id with
  |true=>match Nat.beq v ver with
   |true=> .row t []
   |false=> .undef
  |false=> .own i v n
 | .part i v lo hi=>match Nat.beq i id with
  |true=>match Nat.beq v ver with
   |true=> .row t []
   |false=> .undef
  |false=> .part i v lo hi
 | .ptrE i v g k j=>match Nat.beq i id with
  |true=> .undef
  |false=> .ptrE i v g k j
 | .ptrA i v k=>match Nat.beq i id with
  |true=>match Nat.beq v ver with
   |true=> .ptrB t x k.toNat
   |false=> .undef
  |false=> .ptrA i v k
 |v=>v
def Nm (id:Nat):SV U.D->Bool
 | .fn _ caps _=> !caps.any fun c=>Nat.beq c.1 id
 |_=>true
def Aaa (id:Nat)(a:SA U.D):Bool:=a.cells.all (Nm U id)
def Aab (id:Nat):Option (SB U.D)->Bool
 |some (.box _ cs)=>cs.all (Nm U id)
 |some (.opn _ _ _ _ _ _ _ cs)=>cs.all (Nm U id)
 |_=>true
def Lb (id ver t:Nat)(x:U.D t):SA U.D->SA U.D
 | .c v=> .c (Dp U id ver t x v)
 | .g cs=> .g (cs.map (Dp U id ver t x))
 | .t _=> .c .undef
def Ew (id ver t:Nat)(x:U.D t):SB U.D->SB U.D
 | .box v cs=> .box v (cs.map (Dp U id ver t x))
 | .opn v t' d q l' g i cs=> .opn v t' d true l' g i (cs.map (Dp U id ver t x))
 |b=>b
def Aac (S:SS U.D)(id t:Nat):Option (SS U.D):=
 match S.blk id with
 |some (.box ver cs)=>match cs.all SV.shut&&S.env.all (fun p=>Aaa U id p.2)&&S.H.all (fun p=>Aab U id p.2),U.fS t (cs.map (Jv U))with
  |true,some x=>some ⟨S.env.map fun p=>(p.1,Lb U id ver t x p.2),(id,none)::S.H.map fun p=>(p.1,p.2.map (Ew U id ver t x)),S.nv,S.ctr⟩
  |_,_=>none
 |_=>none
def Cmd.run (S:SS U.D)(k:SS U.D->Option α):Cmd->Option α
 | .take id j nid=>match S.blk id with
  |some (.box ver cs)=>match cs[j]? with
   |some (.rowT t d l)=>match Nat.ble 100 nid&& !Nat.beq id nid with
    |true=>k ⟨S.env,(id,some (.box ver (cs.set j (.own nid (S.ver nid) l.length))))::(nid,some (.rows (S.ver nid) t d true l))::S.H,S.bumps [nid],S.ctr⟩
    |false=>none
   |some (.own ..)=>k S
   |_=>none
  |_=>none
 | .opn id ix=>match S.blk id,S.val T 0 ix with
  |some (.rows ver t d _ l),.c (.int kd i g)=>if(0:Int)<=i/\i<(l.length:Int)then
    (match g,ix with
    |0,.tmp x=>k ⟨(x,.c (.int kd i (2*S.ctr+1)))::S.env,(id,some (.opn ver t d false l (2*S.ctr+1) i (U.cells d t (U.gt l i))))::S.H,S.nv,S.ctr+1⟩
    |0,_=>none
    |g+1,_=>k (Bz U S [(id,some (.opn ver t d false l (g+1) i (U.cells d t (U.gt l i))))]))
   else none
  |some (.opn ..),_=>k S
  |_,_=>none
 | .opp id x=>match S.get x with
  | .c (.ptrE id' ver g i j)=>match S.blk id with
   |some (.rows ver' t d _ l)=>match Nat.beq id id'&&Nat.beq ver ver' with
    |true=>match g with
     |0=>k ⟨(x,.c (.ptrE id ver (2*S.ctr+1) i j))::S.env,(id,some (.opn ver t d false l (2*S.ctr+1) i (U.cells d t (U.gt l i))))::S.H,S.nv,S.ctr+1⟩
     |g+1=>k (Bz U S [(id,some (.opn ver t d false l (g+1) i (U.cells d t (U.gt l i))))])
    |false=>none
   |some (.opn ..)=>k S
   |_=>none
  |_=>none
 | .takeE id j nid=>match S.blk id with
  |some (.opn ver t d dirty l g i cs)=>match cs[j]? with
   |some (.rowT t' d' l')=>match Nat.ble 100 nid&& !Nat.beq id nid with
    |true=>k ⟨S.env,(id,some (.opn ver t d dirty l g i (cs.set j (.own nid (S.ver nid) l'.length))))::(nid,some (.rows (S.ver nid) t' d' true l'))::S.H,S.bumps [nid],S.ctr⟩
    |false=>none
   |some (.own ..)=>k S
   |_=>none
  |_=>none
 | .put id=>match Vo U S id with
  |some S'=>k S'
  |none=>none
 | .frz id=>match Rn U S id with
  |some S'=>k S'
  |none=>none
 | .frzT x=>match Ro U S (K7 U (S.get x).cells++Vp U (S.get x).cells)with
  |some S'=>k S'
  |none=>none
 | .putc id j=>match S.blk id with
  |some (.box ver cs)=>match cs[j]? with
   |some (.own nid nver _)=>match S.blk nid with
    |some (.rows nver' t d _ l)=>match Nat.beq nver' nver&&Nat.ble 100 nid&& !Nat.beq id nid with
     |true=>k (Bz U S (([nid].map fun i=>(i,none))++[(id,some (.box ver (cs.set j (.rowT t d l))))]))
     |false=>none
    |_=>none
   |some _=>k S
   |none=>none
  |_=>none
 | .frzB id t=>match Aac U S id t with
  |some S'=>k S'
  |none=>none
 | .shal id=>match S.blk id with
  |some (.rows ver t true _ l)=>match U.flat t with
   |true=>k S
   |false=>k (Bz U S [(id,some (.rows ver t false false l))])
  |some (.rows _ _ false _ _)=>k S
  |_=>none
 | .nilO x nid=>match S.get x with
  | .c (.rowT t d [])=>match Nat.ble 100 nid with
   |true=>k ⟨(x,.c (.own nid (S.ver nid) 0))::S.env,(nid,some (.rows (S.ver nid) t d false []))::S.H,S.bumps [nid],S.ctr⟩
   |false=>none
  | .c (.own ..)=>k S
  |_=>none
 | .cold x=>match S.get x with
  | .c v=>k (upE U S x (.c (Ek U v)))
  | .g cs=>k (upE U S x (.g (cs.map (Ek U))))
  |_=>k S
 | .cut x=>match S.get x with
  | .c (.part id ver lo hi)=>match S.blk id,lo with
   |some (.rows ver' t d _ l),0=>match Nat.beq ver ver' with
    |true=>k ⟨(x,.c (.own id (S.ver id) (l.take hi.toNat).length))::S.env,(id,some (.rows (S.ver id) t d false (l.take hi.toNat)))::S.H,S.bumps [id],S.ctr⟩
    |false=>none
   |_,_=>none
  | .c (.own ..)=>k S
  |_=>none
 | .len x=>match S.get x with
  | .c (.own id ver n)=>match S.blk id with
   |some (.rows ver' t d _ l)=>match Nat.beq ver ver' with
    |true=>k (upE U S x (.c (.own id ver l.length)))
    |false=>none
   |_=>none
  |_=>k S
 | .share id=>match S.blk id with
  |some (.box ver cs)=>match cs.all SV.shut with
   |true=>k (Bz U S [(id,some (.box ver (cs.map (Jv U))))])
   |false=>none
  |_=>none
 | .nilG x j nid=>match S.get x with
  | .g cs=>match cs[j]? with
   |some (.rowT t d [])=>match Nat.ble 100 nid with
    |true=>k ⟨(x,.g (cs.set j (.own nid (S.ver nid) 0)))::S.env,(nid,some (.rows (S.ver nid) t d false []))::S.H,S.bumps [nid],S.ctr⟩
    |false=>none
   |_=>none
  |_=>none
def Hs (S:SS U.D)(k:SS U.D->Option α):List Cmd->Option α
 |[]=>k S
 |c::r=>c.run U T S fun S'=>Hs S' k r
abbrev FP:=List Nat×List Nat×List Nat
def Aj.fp{D:Nat->Type}(r:Aj D):FP:=(r.use,r.ids,r.upd.map (·.1)++r.bump)
def Am2 (d1:Option Tmp)(r1:FP)(d2:Option Tmp)(r2:FP):Bool:=
 (match d1 with|some d=> !(r2.1.contains d)&&d2 != some d|none=>true)&&
 (match d2 with|some d=> !(r1.1.contains d)|none=>true)&&
 r1.2.2.all (fun i=> !(r2.2.1.contains i)&& !(r2.2.2.contains i))&&
 r2.2.2.all (fun i=> !(r1.2.1.contains i))
def Jw (ops:Array Oper)(rs:List FP):Bool:=
 (List.range ops.size).all fun j=>(List.range j).all fun i=>
  match rs[i]?,rs[j]? with
  |some r1,some r2=>Am2 (Bk ops i) r1 (Bk ops j) r2||reach ops ops.size j i
  |_,_=>false
structure Ox (α:Type) where
 Γ:List (Nat×Bc U)
 ov:List (Nat×List (Nat×Bc U))
 eqOk:Nat->Bool
 N:Nat
 spl:List Nat
 pre:List (Nat×List Cmd)
 post:List (Nat×List Cmd)
 js:List Nat
 Λ:List (Nat×(SS U.D->Option α))
 Λb:List (Nat×(SS U.D->Option α))
 fin:SS U.D->Option α
 kop:List (Nat×(SS U.D->List Oper->Oper->(Aj U.D->Option α)->Option α))
def ovG (X:Ox U α)(dst:Option Tmp):List (Nat×Bc U):=match dst with
 |some d=>match lk X.ov d with
  |some l=>l++X.Γ
  |none=>X.Γ
 |none=>X.Γ
def Aae (X:Ox U α)(S:SS U.D)(rest:List Oper)(o:Oper)(k:Aj U.D->Option α):Option α:=
 match o.op with
 | .move x=>Qu U T S o.type x k
 | .assign x=>Qu U T S o.type x k
 | .pick c x y=>Ur U T S o.type c x y k
 | .binOp op t x y ty=>match S.val T t x with
  | .g _=>Ut U T X.eqOk S op t x y ty k
  |_=>Us U T S op t x y ty k
 | .unOp op t x=>Uu U T S op t x k
 | .convert s t x=>Uv U T S s t x k
 | .fieldAddr s x f=>Uw U T S s x f k
 | .nilCheck x=>Ux U T S x k
 | .indexAddr t x ix=>Uy U T S t x ix k
 | .load t x=>Uz U T S t x k
 | .store t x y=>U1 U T S o.dst t x y k
 | .alloc t=>U2 U T S o.dst t k
 | .box t x=>U3 U T S o.dst t x k
 | .extract x n=>U4 U T S x n k
 | .build t parts=>U5 U T S t parts k
 | .index t x ix=>U6 U T S t x ix k
 | .buildSlice t n parts=>Qy U T S o.dst rest t n parts k
 | .makeSlice t x y=>U7 U T S o.dst rest t x y k
 | .slice t x lo hi none=>U8 U T S t x lo hi k
 | .makeFunc f first caps=>Vf U T S f first caps k
 | .call c=>match c.callee,c.args.toList,c.argTypes.toList with
  | .builtin .len,[x],[t]=>U9 U T S t x k
  | .builtin .append,[x,y],[t,t']=>match Nat.beq t t' with
   |true=>Vc U T S o.dst rest t x y k
   |false=>none
  | .builtin .copy,[x,y],[t,t']=>Vd U T S t x y k
  | .builtin .clear,[x],[t]=>Ve U T S t x k
  | .builtin .min,[x,y],_=>Ra U T S false x y k
  | .builtin .max,[x,y],_=>Ra U T S true x y k
  | .value x,_,_=>Vn U T (ovG U X o.dst) S o.dst rest x c.args c.argTypes k
  |_,_,_=>none
 |_=>none
def Af0 (X:Ox U α)(dst:Option Tmp):Option (SS U.D->List Oper->Oper->(Aj U.D->Option α)->Option α):=match dst with
 |some d=>lk X.kop d
 |none=>none
def Rp (X:Ox U α)(S:SS U.D)(rest:List Oper)(o:Oper)(k:Aj U.D->Option α):Option α:=
 match Af0 U X o.dst with
 |some q=>q S rest o k
 |none=>Aae U T X S rest o k
def Rq (spl:List Nat)(dst:Option Tmp)(r:Aj U.D)(k:Aj U.D->Option α):Option α:=
 match dst,r.v with
 |some d,.c (.bool e)=>match spl.contains d with
  |true=>bif e then k {r with v:= .c (.bool true)}else k {r with v:= .c (.bool false)}
  |false=>k r
 |_,_=>k r
def lkD{β:Type}(l:List (Nat×List β))(n:Nat):List β:=match lk l n with|some x=>x|none=>[]
def Rr (X:Ox U α)(draw:Bool)(dst:Option Tmp)(S:SS U.D)(k:SS U.D->Option α):Option α:=
 match draw,dst with
 |false,some d=>Hs U T S k (lkD X.post d)
 |_,_=>k S
noncomputable def Aag (a b:Option α):Option α:= @ite _ (a=b) (Classical.propDecidable _) a none
def Lc (draw:Bool)(S:SS U.D)(o:Oper):Option Bool:=
 match draw,o.guard,o.op with
 |false,none,.binOp .eql t x (.const (.slice none 0 0)) _=>match S.val T 0 x,tg T t with
  | .c (.row _ l),some ti=>match ti.k with
   | .slice _=>some l.isEmpty
   |_=>none
  |_,_=>none
 |_,_,_=>none
noncomputable def Dj (X:Ox U α)(draw:Bool)(ops:Array Oper):List Oper->SS U.D->List FP->(SS U.D->Option α)->Option α
 |[],S,fps,k=>match draw with
  |true=>match Jw ops fps.reverse with
   |true=>k S
   |false=>none
  |false=>k S
 |o::rest,S,fps,k=>match (match o.dst with|some d=>Nat.blt d X.N|none=>true)with
  |true=>match Lc U T draw S o with
   |some e=>bif e then Aag (Dj X draw ops rest (S.app o.dst {v:= .c (.bool true)}) (([],[],[])::fps) k) (Dj X draw ops rest (S.app o.dst {v:= .c (.bool false)}) (([],[],[])::fps) k)
    else Dj X draw ops rest (S.app o.dst {v:= .c (.bool false)}) (([],[],[])::fps) k
   |none=>match o.guard with
   |none=>Rp U T X S rest o fun r=>Rq U X.spl o.dst r fun r=>Rr U T X draw o.dst (S.app o.dst r) fun S'=>Dj X draw ops rest S' (r.fp::fps) k
   |some (j,b)=>match Eg ops j with
    |some d=>match S.get d with
     | .c (.bool c)=>match c==b with
      |true=>Rp U T X S rest o fun r=>Rq U X.spl o.dst r fun r=>Rr U T X draw o.dst (S.app o.dst r) fun S'=>Dj X draw ops rest S' ((d::r.use,r.fp.2)::fps) k
      |false=>Dj X draw ops rest (S.app o.dst {v:= .c .skip,use:=[d]}) (([d],[],[])::fps) k
     | .c .skip=>Dj X draw ops rest (S.app o.dst {v:= .c .skip,use:=[d]}) (([d],[],[])::fps) k
     |_=>none
    |none=>none
  |false=>none
inductive Ctl where
 |code (c:Code) (p:Nat)
 |nrm
 |ex (id:Nat)
inductive Fm where
 |th (c:Code) (p:Nat)
 |bl (id:Nat)
 |lp (p:Nat)
 |jn (p:Nat)
def Gu (l:List (Nat×(SS U.D->Option α)))(p:Nat)(S:SS U.D):Option α:=match lk l p with
 |some f=>f S
 |none=>none
noncomputable def go (X:Ox U α):Nat->Ctl->SS U.D->List Fm->Option α
 |0,_,_,_=>none
 |n+1,.code c p,S,fr=>match c with
  | .skip=>go X n .nrm S fr
  | .label _=>go X n .nrm S fr
  | .region id ops draw=>match !draw||Ko ops with
   |true=>Hs U T S (fun S=>Dj U T X draw ops ops.toList S [] fun S'=>go X n .nrm S' fr) (lkD X.pre id)
   |false=>none
  | .seq a b=>match X.js.contains p with
   |true=>go X n (.code a (2*p)) S (.jn p::fr)
   |false=>go X n (.code a (2*p)) S (.th b (2*p+1)::fr)
  | .cond x a b=>match S.val T 0 x with
   | .c (.bool e)=>bif e then go X n (.code a (2*p)) S fr else go X n (.code b (2*p+1)) S fr
   |_=>none
  | .block id c=>go X n (.code c (2*p)) S (.bl id::fr)
  | .loop _=>Gu U X.Λ p S
  | .exit id=>go X n (.ex id) S fr
  | .ret=>X.fin S
  |_=>none
 |n+1,.nrm,S,fr=>match fr with
  |[]=>X.fin S
  | .th c p::r=>go X n (.code c p) S r
  | .bl _::r=>go X n .nrm S r
  | .lp p::_=>Gu U X.Λb p S
  | .jn p::_=>Gu U X.Λ p S
 |n+1,.ex id,S,fr=>match fr with
  |[]=>none
  | .bl id'::r=>match Nat.beq id id' with
   |true=>go X n .nrm S r
   |false=>go X n (.ex id) S r
  |_::r=>go X n (.ex id) S r
def Dk (js:List Nat):List Bool->Nat->Code->List Fm->Option (Code×List Fm)
 |[],_,c,fr=>some (c,fr)
 |b::r,p,c,fr=>match c,b with
  | .seq x y,false=>match js.contains p with
   |true=>Dk js r (2*p) x (.jn p::fr)
   |false=>Dk js r (2*p) x (.th y (2*p+1)::fr)
  | .seq x y,true=>Dk js r (2*p+1) y fr
  | .cond _ x y,false=>Dk js r (2*p) x fr
  | .cond _ x y,true=>Dk js r (2*p+1) y fr
  | .block id x,false=>Dk js r (2*p) x (.bl id::fr)
  | .loop x,false=>Dk js r (2*p) x (.lp p::fr)
  |_,_=>none
def Em:Nat->Nat->List Bool->List Bool
 |0,_,acc=>acc
 |n+1,p,acc=>match Nat.ble p 1 with
  |true=>acc
  |false=>Em n (p / 2) (Nat.beq (p % 2) 1::acc)
def C3 (js:List Nat)(c:Code)(p:Nat):Option (Code×List Fm):=Dk js (Em p p []) 1 c []
noncomputable def Rs (X:Ox U α)(c:Code)(p:Nat)(S:SS U.D):Option α:=match C3 X.js c p with
 |some (c',fr)=>go U T X 1000 (.code c' p) S fr
 |none=>none
inductive Sh where
 |v (t:Nat)
 |o (id e:Nat) (d:Bool)
 |p (id:Nat)
 |r (t:Nat)
 |f (fid:FuncId) (caps:List Nat) (ts:List Nat)
 |b (x:Bool)
inductive D0 where
 |v (t:Nat)
 |T (e:Nat) (d:Bool)
 |O (id:Nat)
inductive Ff where
 |box (l:List D0)
 |st (t:Nat) (m:Bool)
 |arr (n e:Nat)
 |ob (l:List D0)
 |opn (e:Nat) (d:Bool) (l:List D0)
 |rws (e:Nat) (d:Bool)
def Ak:List TC->Type
 |[]=>Unit
 |c::r=>c.T U×Ak r
def Jx:List Nat->List TC->List TC
 |[],W=>W
 |t::ts,W=> .d t::Jx ts W
def Q8 (W:List TC):List (Nat×Sh)->List TC
 |[]=>W
 |(_,.v t)::r=> .d t::Q8 W r
 |(_,.o _ e _)::r=> .l e::Q8 W r
 |(_,.r t)::r=> .d t::Q8 W r
 |(_,.f _ _ ts)::r=>Jx ts (Q8 W r)
 |_::r=>Q8 W r
def Dl:List D0->List TC
 |[]=>[]
 | .v t::r=> .d t::Dl r
 | .T e _::r=> .l e::Dl r
 | .O _::r=> .n::Dl r
def Q3:List (Nat×Ff)->List TC
 |[]=>[]
 |(_,.box l)::r=>Dl l++Q3 r
 |(_,.st t _)::r=> .d t::Q3 r
 |(_,.arr _ e)::r=> .l e::Q3 r
 |(_,.rws e _)::r=> .l e::Q3 r
 |(_,.ob l)::r=>Dl l++Q3 r
 |(_,.opn e _ l)::r=> .l e:: .n::(Dl l++Q3 r)
structure E7 where
 e:List (Nat×Sh)
 b:List (Nat×Ff)
def E7.codes (s:E7):List TC:=Q8 (Q3 s.b) s.e
def Nn{W:List TC}(w:Option (Ak U W)):(ts:List Nat)->List (Σ t,U.D t)->Option (Ak U (Jx ts W))
 |[],[]=>w
 |t::ts,⟨t',x⟩::r=>match decEq t' t,Nn w ts r with
  | .isTrue h,some q=>some ((h ▸ x:U.D t),q)
  |_,_=>none
 |_,_=>none
def B5 (S:SS U.D){W:List TC}(w:Option (Ak U W)):(l:List (Nat×Sh))->Option (Ak U (Q8 W l))
 |[]=>w
 |(x,.v t)::r=>match K6 U t (S.get x),B5 S w r with
  |some a,some q=>some (a,q)
  |_,_=>none
 |(x,.o id0 e d)::r=>match S.get x with
  | .c (.own id ver n)=>match S.blk id with
   |some (.rows ver' e' d' _ l)=>match Nat.beq ver ver'&&Nat.beq id id0&&(d'==d),decEq e' e,B5 S w r with
    |true,.isTrue h,some q=>some ((h ▸ l:List (U.D e)),q)
    |_,_,_=>none
   |_=>none
  |_=>none
 |(x,.p id)::r=>match S.get x with
  | .c (.ptr id' ver 0)=>match S.blk id with
   |some B=>match Nat.beq id id'&&Nat.beq ver B.ver,B5 S w r with
    |true,some q=>some q
    |_,_=>none
   |none=>none
  |_=>none
 |(x,.r t)::r=>match S.get x with
  | .c (.ptrB t' a 0)=>match decEq t' t,B5 S w r with
   | .isTrue h,some q=>some ((h ▸ a:U.D t),q)
   |_,_=>none
  |_=>none
 |(x,.f fid caps ts)::r=>match S.get x with
  | .c (.fn f cs rs)=>match Nat.beq f fid&&decide (cs=caps.map fun i=>(i,match S.blk i with|some B=>B.ver|none=>0))&&caps.all (fun i=>(S.blk i).isSome)with
   |true=>Nn U (B5 S w r) ts rs
   |false=>none
  |_=>none
 |(x,.b v)::r=>match S.get x with
  | .c (.bool v')=>match v==v',B5 S w r with
   |true,some q=>some q
   |_,_=>none
  |_=>none
def Cm (S:SS U.D){W:List TC}(w:Option (Ak U W)):(l:List D0)->List (SV U.D)->Option (Ak U (Dl l++W))
 |[],[]=>w
 | .v t::r,c::cs=>match U.fS t [c],Cm S w r cs with
  |some a,some q=>some (a,q)
  |_,_=>none
 | .T e d::r,.rowT e' d' l::cs=>match d'==d,decEq e' e,Cm S w r cs with
  |true,.isTrue h,some q=>some ((h ▸ l:List (U.D e)),q)
  |_,_,_=>none
 | .O id::r,.own id' ver n::cs=>match S.blk id' with
  |some B=>match Nat.beq id id'&&Nat.beq ver B.ver,Cm S w r cs with
   |true,some q=>some (n,q)
   |_,_=>none
  |none=>none
 |_,_=>none
def Bq (S:SS U.D):(l:List (Nat×Ff))->Option (Ak U (Q3 l))
 |[]=>some ()
 |(id,.box l)::r=>match S.blk id with
  |some (.box _ cs)=>Cm U S (Bq S r) l cs
  |_=>none
 |(id,.st t m)::r=>match S.blk id with
  |some (.box _ cs)=>match U.fO t m cs,Bq S r with
   |some a,some q=>some (a,q)
   |_,_=>none
  |_=>none
 |(id,.arr n e)::r=>match S.blk id with
  |some (.arr _ n' e' l)=>match Nat.beq n n',decEq e' e,Bq S r with
   |true,.isTrue h,some q=>some ((h ▸ l:List (U.D e)),q)
   |_,_,_=>none
  |_=>none
 |(id,.ob l)::r=>match S.blk id with
  |some (.box _ cs)=>Cm U S (Bq S r) l cs
  |_=>none
 |(id,.rws e d)::r=>match S.blk id with
  |some (.rows _ e' d' _ l)=>match d'==d,decEq e' e,Bq S r with
   |true,.isTrue h,some q=>some ((h ▸ l:List (U.D e)),q)
   |_,_,_=>none
  |_=>none
 |(id,.opn e d l)::r=>match S.blk id with
  |some (.opn _ e' d' _ l0 _ i cs)=>match d'==d,decEq e' e,Cm U S (Bq S r) l cs with
   |true,.isTrue h,some q=>some ((h ▸ l0:List (U.D e)),(i.toNat,q))
   |_,_,_=>none
  |_=>none
def No:List (Nat×Sh)->List Cmd
 |[]=>[]
 |(x,.v _)::r=> .frzT x:: .cold x::No r
 |(x,.o id _ d)::r=> .put id:: .nilO x id::(match d with|true=>No r|false=> .shal id::No r)
 |_::r=>No r
def Aah (id:Nat):Nat->List D0->List Cmd
 |_,[]=>[]
 |j,.T _ _::r=> .putc id j::Aah id (j+1) r
 |j,_::r=>Aah id (j+1) r
def D0.isT:D0->Bool
 | .T _ _=>true
 |_=>false
def Ld:List (Nat×Ff)->List Cmd
 |[]=>[]
 |(id,.box l)::r=>match l.any D0.isT with
  |true=> .put id::Ld r
  |false=> .put id:: .share id::Ld r
 |(id,.ob l)::r=>Aah id 0 l++Ld r
 |(_,.opn _ _ _)::r=>Ld r
 |(id,_)::r=> .put id::Ld r
def E7.cmds (s:E7):List Cmd:=Ld s.b++No s.e
def E7.ext (s:E7)(S:SS U.D):Option (Ak U s.codes):=B5 U S (Bq U S s.b) s.e
def Eb (W:List TC):(ts:List Nat)->Ak U (Jx ts W)->List (Σ t,U.D t)×Ak U W
 |[],q=>([],q)
 |t::ts,q=>let p:=Eb W ts q.2;(⟨t,q.1⟩::p.1,p.2)
def Ba (W:List TC):(l:List (Nat×Sh))->Ak U (Q8 W l)->List (Nat×SA U.D)×List (Nat×Option (SB U.D))×Ak U W
 |[],q=>([],[],q)
 |(x,.v t)::r,q=>let p:=Ba W r q.2;((x,El U t q.1)::p.1,p.2.1,p.2.2)
 |(x,.o id e d)::r,q=>
  let l:List (U.D e):=q.1
  let p:=Ba W r q.2;((x,.c (.own id 0 l.length))::p.1,(id,some (.rows 0 e d false l))::p.2.1,p.2.2)
 |(x,.p id)::r,q=>let p:=Ba W r q;((x,.c (.ptr id 0 0))::p.1,p.2.1,p.2.2)
 |(x,.r t)::r,q=>
  let a:U.D t:=q.1
  let p:=Ba W r q.2;((x,.c (.ptrB t a 0))::p.1,p.2.1,p.2.2)
 |(x,.f fid caps ts)::r,q=>
  let c:=Eb U (Q8 W r) ts q
  let p:=Ba W r c.2;((x,.c (.fn fid (caps.map fun i=>(i,0)) c.1))::p.1,p.2.1,p.2.2)
 |(x,.b v)::r,q=>let p:=Ba W r q;((x,.c (.bool v))::p.1,p.2.1,p.2.2)
def Jy (t:Nat)(x:U.D t):SV U.D:=match U.cs t x with|[v]=>v|_=> .undef
def Ca (W:List TC):(l:List D0)->Ak U (Dl l++W)->List (SV U.D)×Ak U W
 |[],q=>([],q)
 | .v t::r,q=>let p:=Ca W r q.2;(Jy U t q.1::p.1,p.2)
 | .T e d::r,q=>
  let l:List (U.D e):=q.1
  let p:=Ca W r q.2;(.rowT e d l::p.1,p.2)
 | .O id::r,q=>
  let n:Nat:=q.1
  let p:=Ca W r q.2;(.own id 0 n::p.1,p.2)
def Ct:(l:List (Nat×Ff))->Ak U (Q3 l)->List (Nat×Option (SB U.D))
 |[],_=>[]
 |(id,.box l)::r,q=>let p:=Ca U (Q3 r) l q;(id,some (.box 0 p.1))::Ct r p.2
 |(id,.st t m)::r,q=>(id,some (.box 0 (U.cO t m q.1)))::Ct r q.2
 |(id,.arr n e)::r,q=>
  let l:List (U.D e):=q.1
  (id,some (.arr 0 n e l))::Ct r q.2
 |(id,.rws e d)::r,q=>
  let l:List (U.D e):=q.1
  (id,some (.rows 0 e d false l))::Ct r q.2
 |(id,.ob l)::r,q=>let p:=Ca U (Q3 r) l q;(id,some (.box 0 p.1))::Ct r p.2
 |(id,.opn e d l)::r,q=>
  let l0:List (U.D e):=q.1
  let i:Nat:=q.2.1
  let p:=Ca U (Q3 r) l q.2.2;(id,some (.opn 0 e d true l0 0 (i:Int) p.1))::Ct r p.2
def E7.emb (s:E7)(q:Ak U s.codes):SS U.D:=
 let p:=Ba U (Q3 s.b) s.e q
 ⟨p.1,p.2.1++Ct U s.b p.2.2,[],200⟩
def arr (s:E7)(f:Ak U s.codes->Option α)(S:SS U.D):Option α:=Hs U T S (fun S'=>(s.ext U S').bind f) s.cmds
end
section
variable (U:Un) (T:Tab) {α:Type}
def Le (n:Nat):List (SA U.D)->List (Nat×SA U.D)
 |[]=>[]
 |a::r=>(n,a)::Le (n+1) r
def Np (n:Nat):List (SB U.D)->List (Nat×Option (SB U.D))
 |[]=>[]
 |b::r=>(n,some b)::Np (n+1) r
def Ex (as:List (SA U.D))(H:List (SB U.D)):SS U.D:=⟨Le U 0 as,Np U 1 H,[],200⟩
def Lg (m:Bool)(id:Nat):List Cmd:=match m with|true=>[]|false=>[.shal id]
def Nq (t:Nat)(m:Bool)(j:Nat):Bool:=match (U.cO t m (@default _ (U.inh t)))[j]? with
 |some (.rowT _ d _)=>d
 |_=>true
def Ru (t:Nat)(m:Bool)(id nid:Nat)(j:Nat):List (SV U.D)->List Cmd
 |[]=>[]
 | .rowT .. ::r=> .take id j nid::(Lg (Nq U t m j) nid++Ru t m id (nid+1) (j+1) r)
 | .own .. ::r=> .take id j nid::(Lg (Nq U t m j) nid++Ru t m id (nid+1) (j+1) r)
 |_::r=>Ru t m id (nid+1) (j+1) r
def Rv (t:Nat)(m:Bool)(x nid:Nat)(j:Nat):List (SV U.D)->List Cmd
 |[]=>[]
 | .rowT _ _ []::r=> .nilG x j nid::(Lg (Nq U t m j) nid++Rv t m x (nid+1) (j+1) r)
 | .own i _ _::r=> .put i::(Lg (Nq U t m j) i++Rv t m x (nid+1) (j+1) r)
 |_::r=>Rv t m x (nid+1) (j+1) r
def Am4 (S:SS U.D)(b:Nat):ResultVar->RM->List Cmd
 | .tmp x,.v _=>(K7 U (S.get x).cells).map Cmd.frz
 | .tmp x,.n t m=>match S.get x with
  | .c (.rowT _ _ [])=> .nilO x b::Lg m b
  | .c (.own i _ _)=> .put i::Lg m i
  | .g cs=>Rv U t m x b 0 cs
  |_=>[]
 | .tmp x,.p _ _=>match S.get x with
  | .c (.ptr id _ _)=>[.put id]
  |_=>[]
 | .cell _ _,.p _ _=>[]
 | .cell a _,.v _=>match S.get a with
  | .c (.ptr id _ _)=>match S.blk id with
   |some (.box _ cs)=>(K7 U cs).map Cmd.frz++[.share id]
   |_=>[]
  |_=>[]
 | .cell a _,.n t m=>match S.get a with
  | .c (.ptr id _ _)=>match S.blk id with
   |some (.box _ cs)=> .put id::Ru U t m id b 0 cs
   |_=>[]
  |_=>[]
def Af1 (S:SS U.D):Nat->List ResultVar->List RM->List Cmd
 |b,x::xs,r::rs=>Am4 U S b x r++Af1 S (b+100) xs rs
 |_,_,_=>[]
def Rw (t:Nat)(id nid j:Nat):List (SV U.D)->List Cmd
 |[]=>[]
 | .own .. ::r| .rowT .. ::r=>match Nq U t false j with
  |true=>Rw t id (nid+1) (j+1) r
  |false=> .take id j nid:: .shal nid::Rw t id (nid+1) (j+1) r
 |_::r=>Rw t id (nid+1) (j+1) r
def Am5 (S:SS U.D)(t id:Nat):List Cmd:=match S.blk id with
 |some (.box _ cs)=>Rw U t id (60000+64*id) 0 cs++[.put id]
 |_=>[]
def Af2:Nat->List (Nat×Bool)->List Cmd
 |_,[]=>[]
 |n,_::r=> .put (n+1)::Af2 (n+1) r
def Lh (S:SS U.D):Nat->List PM->List Cmd
 |_,[]=>[]
 |n,.v _::r=>Lh S n r
 |n,.b t m::r=> .put (n+1)::((match m with|true=>[]|false=>Am5 U S t (n+1))++Lh S (n+1) r)
 |n,.w _ _ es::r=>Af2 n es++Lh S (n+es.length) r
 |n,.r _::r=>Lh S n r
 |n,.f _ _ _::r=>Lh S n r
def Jz (S:SS U.D):ResultVar->Option (Bool×List (SV U.D))
 | .tmp x=>match S.get x with
  | .c v=>some (false,[v])
  | .g cs=>some (true,cs)
  | .t _=>none
 | .cell a t=>match S.get a,Js T t with
  | .c (.ptr id ver j),some (sz,agg)=>match S.blk id with
   |some (.box ver' cs)=>match Nat.beq ver ver'&&Nat.ble (j+sz) cs.length&&C2 (Gc cs j sz)&&(agg||Nat.beq sz 1)with
    |true=>some (agg,Gc cs j sz)
    |false=>none
   |_=>none
  |_,_=>none
def Fs (S:SS U.D):List (SV U.D)->Option (List (SV U.D)×List Nat)
 |[]=>some ([],[])
 | .own id ver n::r=>match S.blk id,Fs S r with
  |some (.rows ver' t d _ l),some (cs,ids)=>match Nat.beq ver ver' with
   |true=>some (.rowT t d l::cs,id::ids)
   |false=>none
  |_,_=>none
 |v::r=>match v.shut&& !isT v,Fs S r with
  |true,some (cs,ids)=>some (v::cs,ids)
  |_,_=>none
def Am6{e' e:Nat}(h:e'=e)(l:List (U.D e')):List (U.D e):=h ▸ l
def Nr (S:SS U.D):(es:List (Nat×Bool))->(W:List TC)->Nat->Option (Af U W)->Option (Af U (es.map (fun e=>TC.l e.1)++W))
 |[],_,_,w=>w
 |(e,d)::es,W,n,w=>match S.blk (n+1),Nr S es W (n+1) w with
  |some (.rows _ e' d' _ l),some q=>match d'==d,decEq e' e with
   |true,.isTrue h=>some (Af.mk U (c:= .l e) (Am6 U h l) q)
   |_,_=>none
  |_,_=>none
def Gv (S:SS U.D):(ps:List PM)->Nat->Option (Af U (Dh ps))
 |[],_=>some ()
 | .v _::ps,n=>Gv S ps n
 | .b t m::ps,n=>match S.blk (n+1),Gv S ps (n+1)with
  |some (.box _ cs),some q=>match U.fO t m cs with
   |some x=>some (Af.mk U (c:= .d t) x q)
   |none=>none
  |_,_=>none
 | .w _ _ es::ps,n=>Nr U S es (Dh ps) n (Gv S ps (n+es.length))
 | .r _::ps,n=>Gv S ps n
 | .f _ _ _::ps,n=>Gv S ps n
def Rx (S:SS U.D):ResultVar->Option (Nat×List (SV U.D))
 | .tmp x=>match S.get x with
  | .c (.ptr id ver 0)=>match S.blk id with
   |some (.box ver' cs)=>match Nat.beq ver ver' with
    |true=>some (id,cs)
    |false=>none
   |_=>none
  |_=>none
 | .cell _ _=>none
def Gw (S:SS U.D){W:List TC}(w:Option (Af U W)):(xs:List ResultVar)->(rs:List RM)->Option (Af U (rs.map RM.code++W)×List Nat)
 |[],[]=>match w with
  |some q=>some (q,[])
  |none=>none
 |x::xs,.v t::rs=>match Jz U T S x,Gw S w xs rs with
  |some (agg,cs),some (q,ids)=>match agg==U.ag t,U.fS t (cs.map (Ek U))with
   |true,some a=>some (Af.mk U (c:= .d t) a q,ids)
   |_,_=>none
  |_,_=>none
 |x::xs,.n t m::rs=>match Jz U T S x,Gw S w xs rs with
  |some (agg,cs),some (q,ids)=>match Fs U S cs with
   |some (cs',is)=>match agg==U.ag t,U.fO t m cs' with
    |true,some a=>some (Af.mk U (c:= .d t) a q,is++ids)
    |_,_=>none
   |none=>none
  |_,_=>none
 |x::xs,.p t m::rs=>match Rx U S x,Gw S w xs rs with
  |some (id,cs),some (q,ids)=>match U.fO t m cs with
   |some a=>some (Af.mk U (c:= .d t) a q,id::ids)
   |none=>none
  |_,_=>none
 |_,_=>none
def Af3 (sg:Sig)(rl:List ResultVar)(S:SS U.D):Option (Af U sg.codes):=
 match Gw U T S (Gv U S sg.ps 0) rl sg.rs with
 |some (r,ids)=>match decide ids.Nodup&&ids.all (fun i=>Nat.ble 100 i)&&Nat.ble rl.length 4 with
  |true=>some r
  |false=>none
 |none=>none
def Ry (sg:Sig)(rl:List ResultVar)(S:SS U.D):Option (Af U sg.codes):=
 Hs U T S (Af3 U T sg rl) (Lh U S 0 sg.ps++Af1 U S 30000 rl sg.rs)
def Ns (ag:Bool)(cs:List (SV U.D)):SA U.D:=match ag with
 |true=> .g cs
 |false=> .c (cs.headD .undef)
def Li{X:Type}:(ts:List Nat)->(List (Σ t,U.D t)->X->Prop)->K5 U ts X->Prop
 |[],p,m=>p [] m
 |t::ts,p,m=> ∀x:U.D t,Li ts (fun l=>p (⟨t,x⟩::l)) (m x)
def J0{R:Type}(X:Ox U R)(c:Code):(ps:List PM)->Nat->List (SA U.D)->List (SB U.D)->Ev U ps (Option R)->Prop
 |[],_,as,H,m=>m=go U T X 1000 (.code c 1) (Ex U as H) []
 | .v t::ps,n,as,H,m=> ∀x:U.D t,J0 X c ps n (as++[El U t x]) H (m x)
 | .b t md::ps,n,as,H,m=> ∀x:U.D t,J0 X c ps (n+1) (as++[.c (.ptr (n+1) 0 0)]) (H++[.box 0 (U.cO t md x)]) (m x)
 | .w t md es::ps,n,as,H,m=> ∀x:U.D t,J0 X c ps (n+es.length) (as++[Ns U (U.ag t) (Q9 U n (U.cO t md x)).1]) (H++(Q9 U n (U.cO t md x)).2) (m x)
 | .r t::ps,n,as,H,m=> ∀x:U.D t,J0 X c ps n (as++[.c (.ptrB t x 0)]) H (m x)
 | .f fid caps ts::ps,n,as,H,m=>Li U ts (fun rs m=>J0 X c ps n (as++[.c (.fn fid (caps.map fun i=>(i,0)) rs)]) H m) m
def Hu (P:Program)(f:FuncId)(sg:Sig):(ps:List PM)->Nat->List (SA U.D)->List (SB U.D)->Ev U ps (Option (Af U sg.codes))->Prop
 |[],_,as,H,m=> ∀r,m=some r->Sp P f (as.map (SA.toA U)) (H.map (SB.toB U)) ((sg.res U r).toA U) ((sg.blks U r).map (SB.toB U))
 | .v t::ps,n,as,H,m=> ∀x:U.D t,Hu P f sg ps n (as++[El U t x]) H (m x)
 | .b t md::ps,n,as,H,m=> ∀x:U.D t,Hu P f sg ps (n+1) (as++[.c (.ptr (n+1) 0 0)]) (H++[.box 0 (U.cO t md x)]) (m x)
 | .w t md es::ps,n,as,H,m=> ∀x:U.D t,Hu P f sg ps (n+es.length) (as++[Ns U (U.ag t) (Q9 U n (U.cO t md x)).1]) (H++(Q9 U n (U.cO t md x)).2) (m x)
 | .r t::ps,n,as,H,m=> ∀x:U.D t,Hu P f sg ps n (as++[.c (.ptrB t x 0)]) H (m x)
 | .f fid caps ts::ps,n,as,H,m=>Li U ts (fun rs m=>Hu P f sg ps n (as++[.c (.fn fid (caps.map fun i=>(i,0)) rs)]) H m) m
def Bc.Ok (P:Program)(f:FuncId)(c:Bc U):Prop:=Hu U P f c.sg c.sg.ps 0 [] [] c.m
end
structure Ad (U:Un):Prop where
 en: ∀t,En (U.en t) (U.sz t)
 eF: ∀t,Ay (U.eF t) (U.en t) (U.sz t)
 cs: ∀t x,(U.cs t x).map (SV.toV U)=U.en t x
 cO: ∀t x,(U.cO t true x).map (SV.toV U)=U.eF t x
 shut: ∀t m x,(U.cO t m x).all SV.shut=true
 fS: ∀t c x,U.fS t c=some x->c.map (SV.toV U)=U.en t x
 fO: ∀t m c x,U.fO t m c=some x->c.map (SV.toV U)=(U.cO t m x).map (SV.toV U)
 flat: ∀t,U.flat t=true->U.eF t=U.en t
 csSh: ∀t x,(U.cs t x).all SV.shut=true
 tagO: ∀t m x,(U.cO t m x).all Fc=true
 fresh: ∀t x,(!U.far t 1000||U.flat t)=true->(U.eF t x).all V.fresh=true
 cellsTag: ∀d t x,∀c∈U.cells d t x,Fc c=true
 far: ∀t x j v,(U.eF t x)[j]? =some v->U.far t j=true->v.share=v
section
variable {U:Un}
theorem Af4{α:Type}(k:Nat)(v:α)(r:List (Nat×α)):lk ((k,v)::r) k=some v:=by
 simp_all[lk]
theorem Q68{α:Type}{k n:Nat}(v:α)(r:List (Nat×α))(h:n≠k):lk ((k,v)::r) n=lk r n:=by
 have:Nat.beq k n=false:=by
  cases e:Nat.beq k n with
  |false=>rfl
  |true=>simp_all
 grind [lk]
theorem D1{α:Type}(k n:Nat)(v:α)(r:List (Nat×α)):lk ((k,v)::r) n=if n=k then some v else lk r n:=by
 by_cases h:n=k
 all_goals simp_all[Af4,Q68]
theorem Am7 (e:List (Nat×SA U.D))(H:List (Nat×Option (SB U.D)))(nv:List (Nat×Nat))(c:Nat)(dst:Option Tmp)(v:SA U.D)(t:Nat):
  (SS.get ⟨Uo e dst v,H,nv,c⟩ t).toA U=E2 (fun t=>(SS.get (⟨e,H,nv,c⟩:SS U.D) t).toA U) dst (v.toA U) t:=by
 cases dst with
 |none=>rfl
 |some d=>
  simp only[Uo,E2,Aa,SS.get,D1]
  grind
theorem D2 (e:List (Nat×SA U.D))(H:List (Nat×Option (SB U.D)))(nv:List (Nat×Nat))(c k:Nat)(b:Option (SB U.D))(i:Nat):
  (⟨e,(k,b)::H,nv,c⟩:SS U.D).blk i=if i=k then b else(⟨e,H,nv,c⟩:SS U.D).blk i:=by
 simp only[SS.blk,D1]
 grind
theorem Am8 (e:List (Nat×SA U.D))(nv:List (Nat×Nat))(c:Nat): ∀(l:List (Nat×Option (SB U.D))) (H:List (Nat×Option (SB U.D))) (i:Nat),
  ((⟨e,l.reverse++H,nv,c⟩:SS U.D).blk i).map (SB.toB U)=Bn (fun i=>((⟨e,H,nv,c⟩:SS U.D).blk i).map (SB.toB U)) (l.map fun p=>(p.1,p.2.map (SB.toB U))) i:=by
 intro l;induction l with
 |nil=>intro H i;rfl
 |cons x r ih=>
  intro H i;obtain⟨k,b⟩:=x;rw[List.reverse_cons,Je,ih];simp only[Z8,Bn,List.singleton_append];congr 1;funext j;rw[D2];simp only[Aa]
  grind
theorem Af5: ∀(l:List Nat) (nv:List (Nat×Nat)) (i:Nat),Jr (Qt nv l) i=Do (Jr nv) l i:=by
 intro l;induction l with
 |nil=>intro nv i;rfl
 |cons x r ih=>
  intro nv i;rw[Qt,ih,Do];congr 1;funext j;simp only[Jr,D1,Aa]
  grind
theorem Lj (S:SS U.D)(dst:Option Tmp)(r:Aj U.D):(S.app dst r).toSt U=(S.toSt U).app dst (r.toRec U):=by
 refine St.Sim.eq ⟨fun t=> ?_,fun i=> ?_,fun i=> ?_⟩
 ·exact Am7 _ _ _ _ dst r.v t
 ·exact Am8 _ _ _ r.upd S.H i
 ·exact Af5 r.bump S.nv i
def SB.len:SB U.D->Nat
 | .rows _ _ _ _ l=>l.length
 | .opn _ _ _ _ l _ _ _=>l.length
 |_=>0
def SB.clean:SB U.D->Bool
 | .rows _ _ _ cl _=>cl
 |_=>false
def D3 (ctr:Nat)(τ:Nat->Int)(g:Nat)(n:Int):Prop:=g≠0->n=τ g/\(g % 2=0\/g<2*ctr+1)
def SV.ok (S:SS U.D)(τ:Nat->Int):SV U.D->Prop
 | .int _ n g=>D3 S.ctr τ g n
 | .own id ver n=>ver<S.ver id/\ ∀B,S.blk id=some B->B.ver=ver->n=B.len
 | .part id ver lo hi=>ver<S.ver id/\ ∀B,S.blk id=some B->B.ver=ver->0<=lo/\lo<=hi/\hi<=B.len
 | .ptrE id ver g i j=>D3 S.ctr τ g i/\ver<S.ver id/\ ∀B,S.blk id=some B->B.ver=ver->0<=i/\i<B.len
 | .ptrR t l i j=>0<=i/\i<l.length
 |_=>True
def Un.orig (S:SS U.D)(o:Option (SV U.D))(c:SV U.D):Prop:=
 o=some c\/ ∃nid ver n,c= .own nid ver n/\ ∀t' d' l',S.blk nid=some (.rows ver t' d' true l')->o=some (.rowT t' d' l')
def SB.ok (S:SS U.D)(τ:Nat->Int):SB U.D->Prop
 | .box _ cs=> ∀c∈cs,c.ok S τ
 | .opn _ t d dirty l g i cs=>(0<=i/\i<l.length)/\D3 S.ctr τ g i/\(∀c∈cs,c.ok S τ)/\cs.length=U.sz t/\
   (dirty=false-> ∀(j:Nat) c,cs[j]? =some c->Un.orig S ((U.cells d t (U.gt l i))[j]?) c)
 |_=>True
def SA.ok (S:SS U.D)(τ:Nat->Int):SA U.D->Prop
 | .c v=>v.ok S τ
 | .g cs=> ∀c∈cs,c.ok S τ
 | .t xs=> ∀x∈xs,∀c∈x.2,c.ok S τ
def Ae (S:SS U.D)(τ:Nat->Int):Prop:=
 (∀n:Nat,τ (2*n+2)=n)/\(∀t v,lk S.env t=some v->v.ok S τ)/\ ∀id B,S.blk id=some B->B.ver<S.ver id/\B.ok S τ
def WF (S:SS U.D):Prop:= ∃τ,Ae S τ
structure Br (S S':SS U.D):Prop where
 ctr:S.ctr<=S'.ctr
 ver: ∀id,S.ver id<=S'.ver id
 old: ∀id B',S'.blk id=some B'->B'.ver<S.ver id-> ∃B,S.blk id=some B/\B.ver=B'.ver/\B.len=B'.len/\(B'.clean=true->B=B')
theorem Br.refl (S:SS U.D):Br S S:=⟨Z9 _,fun _=>Z9 _,fun _ B h _=>⟨B,h,rfl,rfl,fun _=>rfl⟩⟩
theorem D3.mono{a b:Nat}{τ:Nat->Int}{g:Nat}{n:Int}(h:D3 a τ g n)(hab:a<=b):D3 b τ g n:=fun hg=>⟨(h hg).1,(h hg).2.imp id fun h=>by omega⟩
theorem SV.ok.mono{S S':SS U.D}{τ:Nat->Int}{v:SV U.D}(h:v.ok S τ)(e:Br S S'):v.ok S' τ:=by
 cases v with
 |int k n g=>exact D3.mono h e.ctr
 |own id ver n=>
  refine⟨Ee h.1 (e.ver id),fun B hB hv=> ?_⟩;obtain⟨B0,h1,h2,h3,_⟩:=e.old id B hB (by have:=h.1;omega);rw[<-h3];exact h.2 B0 h1 (by omega)
 |part id ver lo hi=>
  refine⟨Ee h.1 (e.ver id),fun B hB hv=> ?_⟩;obtain⟨B0,h1,h2,h3,_⟩:=e.old id B hB (by have:=h.1;omega);rw[<-h3];exact h.2 B0 h1 (by omega)
 |ptrE id ver g i j=>
  refine⟨h.1.mono e.ctr,Ee h.2.1 (e.ver id),fun B hB hv=> ?_⟩;obtain⟨B0,h1,h2,h3,_⟩:=e.old id B hB (by have:=h.2.1;omega);rw[<-h3];exact h.2.2 B0 h1 (by omega)
 |ptrR=>exact h
 |_=>trivial
theorem Un.orig.mono{S S':SS U.D}{τ:Nat->Int}{o:Option (SV U.D)}{c:SV U.D}(h:Un.orig S o c)(hc:c.ok S τ)(e:Br S S'):Un.orig S' o c:=by
 rcases h with h|⟨nid,ver,n,rfl,h⟩
 ·exact .inl h
 ·refine .inr ⟨nid,ver,n,rfl,fun t' d' l' hB=> ?_⟩;obtain⟨B0,h1,h2,h3,h4⟩:=e.old nid _ hB (by have:=hc.1;assumption);have:=h4 rfl
  grind
theorem SB.ok.mono{S S':SS U.D}{τ:Nat->Int}{B:SB U.D}(h:B.ok S τ)(e:Br S S'):B.ok S' τ:=by
 cases B with
 |box v cs=>exact fun c hc=>(h c hc).mono e
 |opn v t d q l g i cs=>exact⟨h.1,h.2.1.mono e.ctr,fun c hc=>(h.2.2.1 c hc).mono e,h.2.2.2.1,fun hq j c hj=>(h.2.2.2.2 hq j c hj).mono (h.2.2.1 c (Z6 hj)) e⟩
 |_=>trivial
theorem SA.ok.mono{S S':SS U.D}{τ:Nat->Int}{x:SA U.D}(h:x.ok S τ)(e:Br S S'):x.ok S' τ:=by
 cases x with
 |c v=>exact SV.ok.mono h e
 |g cs=>exact fun c hc=>(h c hc).mono e
 |t xs=>exact fun x hx c hc=>(h x hx c hc).mono e
theorem Ae.get{S:SS U.D}{τ:Nat->Int}(h:Ae S τ)(t:Nat):(S.get t).ok S τ:=by
 unfold SS.get;cases e:lk S.env t with
 |none=>exact trivial
 |some v=>exact h.2.1 t v e
theorem Ae.app{S:SS U.D}{τ:Nat->Int}(h:Ae S τ){dst:Option Tmp}{r:Aj U.D}(e:Br S (S.app dst r))(hv:r.v.ok (S.app dst r) τ)
  (hb: ∀id B,(S.app dst r).blk id=some B->S.blk id=some B\/(B.ver<(S.app dst r).ver id/\B.ok (S.app dst r) τ)):Ae (S.app dst r) τ:=by
 refine⟨h.1,fun t v ht=> ?_,fun id B hB=> ?_⟩
 ·cases dst with
  |none=>exact(h.2.1 t v ht).mono e
  |some d=>
   have ht:lk ((d,r.v)::S.env) t=some v:=ht;rw[D1]at ht;split at ht
   ·grind
   ·exact(h.2.1 t v ht).mono e
 ·rcases hb id B hB with h1|h1
  ·exact⟨Ee (h.2.2 id B h1).1 (e.ver id),(h.2.2 id B h1).2.mono e⟩
  omega
theorem Af6{S:SS U.D}{dst:Option Tmp}{v:SA U.D}{use ids:List Nat}:Br S (S.app dst {v,use,ids}):=⟨Z9 _,fun _=>Z9 _,fun _ B h _=>⟨B,h,rfl,rfl,fun _=>rfl⟩⟩
theorem Ae.pure{S:SS U.D}{τ:Nat->Int}(h:Ae S τ){dst:Option Tmp}{v:SA U.D}{use ids:List Nat}(hv:v.ok S τ):Ae (S.app dst {v,use,ids}) τ:=
 h.app Af6 (hv.mono Af6) fun id B hB=> .inl hB
end
section
variable {U:Un} {T:Tab} {F:Fr} {S:SS U.D} {τ:Nat->Int}
def Dm (U:Un):SV U.D->Nat
 | .rowT e _ _=>U.sz e
 |_=>0
theorem Af7 (t:Nat)(v:Value)(h:(Db (D:=U.D) T t v).solid=true):(Db (D:=U.D) T t v).toV U=Kq (Dm U (Db (D:=U.D) T t v)) v:=by
 unfold Db at h ⊢;split
 ·rfl
 ·rfl
 ·rfl
 ·rfl
 ·split
  ·rename_i ti h1;split
   ·rfl
   ·rename_i h2;simp only[h1,h2]at h;cases h
  ·rename_i h1;simp only[h1]at h;cases h
 ·rename_i h1 h2 h3 h4 h5;simp only[h1,h2,h3,h4,h5]at h;cases h
theorem Q71 (t:Nat)(v:Value)(hτ: ∀n:Nat,τ (2*n+2)=n):(Db (D:=U.D) T t v).ok S τ:=by
 unfold Db;split
 ·trivial
 ·rename_i k n;show D3 S.ctr τ (Kz n) n;intro hg;cases n with
  |ofNat n=>simp_all[Kz]
  |negSucc n=>exact absurd rfl hg
 ·trivial
 ·trivial
 ·split
  ·split<;>trivial
  ·trivial
 ·trivial
theorem Am9: ∀(ls:List Nat) (vs:List Value),ls.length=vs.length->Q6 (Ho (D:=U.D) T ls vs)=true->(Ho (D:=U.D) T ls vs).map (SV.toV U)=Cd ((Ho (D:=U.D) T ls vs).map (Dm U)) vs:=by
 intro ls;induction ls with
 |nil=>intro vs hl h;cases vs with|nil=>rfl|cons v r=>cases hl
 |cons t r ih=>
  intro vs hl h;cases vs with
  |nil=>cases hl
  |cons v s=>
   simp only[Ho,Q6,Bb,Z4]at h;simp only[Ho,Z8,Cd,List.headD_cons,List.tail_cons];rw[Af7 t v h.1,ih s (by grind) h.2]
theorem Ana (hτ: ∀n:Nat,τ (2*n+2)=n): ∀(ls:List Nat) (vs:List Value),∀c∈Ho (D:=U.D) T ls vs,c.ok S τ:=by
 intro ls;induction ls with
 |nil=>intro vs c hc;cases vs<;>cases hc
 |cons t r ih=>
  intro vs c hc;cases vs with
  |nil=>cases hc
  |cons v s=>
   rcases Ax.1 hc with rfl|h
   all_goals grind [Q71]
theorem J1 (t:Nat)(v:Value)(h: ∀cs,v≠ .agg cs):Ea (D:=U.D) T t v= .c (Db T t v):=by
 cases v<;>first|rfl|grind
theorem Ll (sh:List Nat)(v:Value)(h: ∀cs,v≠ .agg cs):Gk sh v= .c (Kq (sh.headD 0) v):=by
 cases v<;>first|rfl|grind
theorem Af9 (t:Nat)(v:Value)(h:Q6 (Ea (D:=U.D) T t v).cells=true):(Ea (D:=U.D) T t v).toA U=Gk ((Ea (D:=U.D) T t v).cells.map (Dm U)) v:=by
 by_cases hv: ∃cs,v= .agg cs
 ·obtain⟨cs,rfl⟩:=hv;unfold Ea at h ⊢;simp only at h ⊢;cases e:Bv T 50 t with
  |none=>rw[e]at h;cases h
  |some ls=>
   simp only[e]at h ⊢;cases e2:Nat.beq ls.length cs.toList.length with
   |false=>rw[e2]at h;cases h
   |true=>
    simp only[e2]at h ⊢;show A.g _=A.g _;rw[Am9 ls cs.toList (Z2 e2) h];rfl
 ·have hv': ∀cs,v≠ .agg cs:=fun cs e=>hv ⟨cs,e⟩;rw[J1 t v hv']at h ⊢;rw[Ll _ v hv']
  show A.c _=A.c _;have h:(Db (D:=U.D) T t v).solid=true:=by grind [Q6,SA.cells]
  rw[Af7 t v h];rfl
theorem Anb (hτ: ∀n:Nat,τ (2*n+2)=n)(t:Nat)(v:Value):(Ea (D:=U.D) T t v).ok S τ:=by
 by_cases hv: ∃cs,v= .agg cs
 ·obtain⟨cs,rfl⟩:=hv;unfold Ea;simp only;split
  ·split
   ·exact Ana hτ _ _
   ·trivial
  ·trivial
 ·rw[J1 t v fun cs e=>hv ⟨cs,e⟩];exact Q71 t v hτ
theorem Ft{ty:Nat}{x:Operand}(h:Gr U x (S.val T ty x)=true):(S.toSt U).val ((S.val T ty x).cells.map (Dm U)) x=(S.val T ty x).toA U:=by
 cases x with
 |tmp t=>rfl
 |const v=>exact(Af9 ty v h).symm
 |func f=>rfl
 |global g=>rfl
theorem Ae.val (h:Ae S τ)(ty:Nat)(x:Operand):(S.val T ty x).ok S τ:=by
 cases x with
 |tmp t=>exact h.get t
 |const v=>exact Anb h.1 ty v
 |func f=>trivial
 |global g=>trivial
theorem Anc (sh sh':List Nat)(v:Value)(h: ∀n c,v≠ .slice none n c)(h2: ∀cs,v≠ .agg cs):Gk sh v=Gk sh' v:=by
 rw[Ll sh v h2,Ll sh' v h2];cases v with
 |slice a n c=>cases a with|none=>grind|some a=>rfl
 |pointer a=>cases a<;>rfl
 |_=>rfl
theorem Ane (t n c:Nat):Db (D:=U.D) T t (.slice none n c)= .undef\/ ∃e,Db (D:=U.D) T t (.slice none n c)= .rowT e true []:=by
 generalize hv:Value.slice none n c=v;unfold Db
 grind
theorem Aga{ty:Nat}{x:Operand}{v:SV U.D}(h:S.val T ty x= .c v)(hs:v.solid=true)(ht:isT v=false):(S.toSt U).val [] x= .c (v.toV U):=by
 cases x with
 |tmp t=>show(S.get t).toA U=_;have h:S.get t= .c v:=h;rw[h];rfl
 |const w=>
  have h:Ea T ty w= .c v:=h;have hw: ∀cs,w≠ .agg cs:=by
   rintro cs rfl;unfold Ea at h;simp only at h;split at h
   ·split at h
    ·cases h
    ·cases h;cases hs
   ·cases h;cases hs
  have hk:(S.toSt U).val (([v]:List (SV U.D)).map (Dm U)) (.const w)= .c (v.toV U):=by
   have:=Af9 (U:=U) (T:=T) ty w (by grind [Q6,SA.cells]);rw[h]at this;exact this.symm
  refine Eq.trans ?_ hk;refine Anc _ _ w (fun n c e=> ?_) hw;subst e;rw[J1 ty _ hw]at h;cases h;rcases Ane (U:=U) (T:=T) ty n c with e|⟨e',e⟩
  ·rw[e]at hs;cases hs
  ·rw[e]at ht;cases ht
 |func f=>cases h;rfl
 |global g=>cases h;rfl
theorem Agb (t:Nat)(v:Value):(Db (D:=U.D) T t v)= .undef\/(Db (D:=U.D) T t v).solid=true:=by
 unfold Db;split
 ·exact .inr rfl
 ·exact .inr rfl
 ·exact .inr rfl
 ·exact .inr rfl
 ·split
  ·split
   ·exact .inr rfl
   grind
  grind
 grind
theorem Eo{ty:Nat}{x:Operand}{v:SV U.D}(h:S.val T ty x= .c v)(hs:v≠ .undef)(ht:isT v=false):(S.toSt U).val [] x= .c (v.toV U):=by
 cases x with
 |tmp t=>show(S.get t).toA U=_;have h:S.get t= .c v:=h;rw[h];rfl
 |const w=>
  refine Aga h ?_ ht;have h:Ea T ty w= .c v:=h;by_cases hw: ∃cs,w= .agg cs
  ·obtain⟨cs,rfl⟩:=hw;unfold Ea at h
   grind
  ·rw[J1 ty w fun cs e=>hw ⟨cs,e⟩]at h;cases h;exact(Agb ty w).resolve_left hs
 |func f=>cases h;rfl
 |global g=>cases h;rfl
theorem B6{ty:Nat}{x:Operand}{k:IntKind}{n:Int}{g:Nat}(h:S.val T ty x= .c (.int k n g)):(S.toSt U).val [] x= .c (.int k n):=Eo h (by simp) rfl
theorem J2{ty:Nat}{x:Operand}{b:Bool}(h:S.val T ty x= .c (.bool b)):(S.toSt U).val [] x= .c (.bool b):=Eo h (by simp) rfl
theorem Nt{ty:Nat}{x:Operand}{b:ByteArray}(h:S.val T ty x= .c (.str b)):(S.toSt U).val [] x= .c (.str b):=Eo h (by simp) rfl
theorem Rz{ty:Nat}{x:Operand}{t:Nat}{l:List (U.D t)}(h:S.val T ty x= .c (.row t l)):(S.toSt U).val [] x= .c (.row false (U.sz t) (l.map (U.en t))):=Eo h (by simp) rfl
theorem Fg{ty:Nat}{x:Operand}{id ver n:Nat}(h:S.val T ty x= .c (.own id ver n)):(S.toSt U).val [] x= .c (.own id ver 0 n):=Eo h (by simp) rfl
theorem Lm{ty:Nat}{x:Operand}{id ver j:Nat}(h:S.val T ty x= .c (.ptr id ver j)):(S.toSt U).val [] x= .c (.ptr id ver 0 j):=Eo h (by simp) rfl
theorem J3{ty:Nat}{x:Operand}{id ver g j:Nat}{i:Int}(h:S.val T ty x= .c (.ptrE id ver g i j)):(S.toSt U).val [] x= .c (.ptr id ver i.toNat j):=Eo h (by simp) rfl
theorem Agc{ty:Nat}{x:Operand}{id ver:Nat}{i:Int}(h:S.val T ty x= .c (.ptrA id ver i)):(S.toSt U).val [] x= .c (.ptr id ver 0 i.toNat):=Eo h (by simp) rfl
theorem R1{ty:Nat}{x:Operand}{t:Nat}{y:U.D t}{j:Nat}(h:S.val T ty x= .c (.ptrB t y j)):(S.toSt U).val [] x= .c (.ip (U.sz t) [U.en t y] 0 j):=Eo h (by simp) rfl
theorem Agd{ty:Nat}{x:Operand}{t:Nat}{l:List (U.D t)}{i:Int}{j:Nat}(h:S.val T ty x= .c (.ptrR t l i j)):(S.toSt U).val [] x= .c (.ip (U.sz t) (l.map (U.en t)) i.toNat j):=Eo h (by simp) rfl
theorem Anf{ty:Nat}{x:Operand}{cs:List (SV U.D)}(h:S.val T ty x= .g cs)(hc:Gr U x (.g cs)=true):(S.toSt U).val (cs.map (Dm U)) x= .g (cs.map (SV.toV U)):=by
 have:=Ft (U:=U) (T:=T) (S:=S) (ty:=ty) (x:=x) (by grind);rwa[h]at this
theorem Ang (cs:List (SV U.D)): ∀(vs:List Value),cs.map (SV.toV U)=Cd (cs.map (Dm U)) vs->C2 cs=true->cs.map (SV.toV U)=Cd [] vs:=by
 induction cs with
 |nil=>grind
 |cons c r ih=>
  intro vs h hn;cases vs with
  |nil=>cases h
  |cons v s=>
   simp only[C2,Bb,Z4]at hn;simp only[Z8,Cd,List.headD_cons,List.tail_cons,Ed]at h;simp only[Z8,Cd,List.headD_nil,List.tail_nil];rw[<-ih s h.2 hn.2];congr 1;have:Dm U c=0:=by cases c<;>first|rfl|grind [isT]
   grind
theorem R2{ty:Nat}{x:Operand}{cs:List (SV U.D)}(h:S.val T ty x= .g cs)(hc:Gr U x (.g cs)=true)(hn:C2 cs=true):(S.toSt U).val [] x= .g (cs.map (SV.toV U)):=by
 have:=Anf h hc;cases x with
 |const v=>
  have this:Gk (cs.map (Dm U)) v= .g (cs.map (SV.toV U)):=this;by_cases hv: ∃vs,v= .agg vs
  ·obtain⟨vs,rfl⟩:=hv;show A.g (Cd [] vs.toList)=_;have this:A.g (Cd (cs.map (Dm U)) vs.toList)= .g (cs.map (SV.toV U)):=this;rw[<-Ang cs vs.toList (by grind) hn]
  grind [Ll]
 |tmp t=>exact this
 |func f=>exact this
 |global g=>exact this
theorem Aaj{ty:Nat}{x:Operand}{xs:List (Bool×List (SV U.D))}(h:S.val T ty x= .t xs):(S.toSt U).val [] x=(SA.t xs).toA U:=by
 cases x with
 |tmp t=>show(S.get t).toA U=_;have h:S.get t= .t xs:=h;rw[h]
 |const w=>
  have h:Ea T ty w= .t xs:=h;by_cases hw: ∃cs,w= .agg cs
  ·grind [Ea]
  simp_all[J1]
 |func f=>cases h
 |global g=>cases h
def Ah (U:Un)(F:Fr)(T:Tab)(S:SS U.D)(τ:Nat->Int)(o:Oper){α:Type}(k:Aj U.D->Option α)(r:α):Prop:=
 ∃rec:Aj U.D,k rec=some r/\Ai F T o (S.toSt U) (rec.toRec U)/\Ae (S.app o.dst rec) τ
theorem Ah.pure{o:Oper}{α:Type}{k:Aj U.D->Option α}{r:α}{v:SA U.D}{use ids:List Nat}(h:Ae S τ)(hv:v.ok S τ)(hs:Ai F T o (S.toSt U) {v:=v.toA U,use,ids})(hk:k {v,use,ids}=some r):Ah U F T S τ o k r:=
 ⟨_,hk,hs,h.pure hv⟩
end
section
variable {U:Un} {T:Tab} {F:Fr} {S:SS U.D} {τ:Nat->Int} {o:Oper} {α:Type} {k:Aj U.D->Option α} {r:α}
theorem Ep{ctr:Nat}{n:Int}:D3 ctr τ 0 n:=fun h=>absurd rfl h
theorem Age (hw:Ae S τ){ty:Nat}{x:Operand}(ho:o.op= .move x\/o.op= .assign x)(h:Qu U T S ty x k=some r):Ah U F T S τ o k r:=by
 unfold Qu at h;split at h
 ·rename_i hc;refine Ah.pure hw (hw.val ty x) ?_ h
  grind [sM,Ft,sA]
 ·cases h
theorem Anh (hw:Ae S τ){ty:Nat}{c x y:Operand}(ho:o.op= .pick c x y)(h:Ur U T S ty c x y k=some r):Ah U F T S τ o k r:=by
 unfold Ur at h;split at h
 ·rename_i b hb;split at h
  ·rename_i hc;refine Ah.pure hw (hw.val ty _) ?_ h;refine sPk ho ((S.val T ty (bif b then x else y)).cells.map (Dm U)) (J2 hb) ?_
   grind [Ft]
  ·cases h
 ·cases h
theorem Ani{op:BinOp}{k:IntKind}{a b:Int}{v:SV U.D}(h:Afv op k a b=some v):P4 op k a b=some (v.toV U)/\v.ok S τ:=by
 cases op<;>first|(cases h;exact⟨rfl,Ep⟩)|(cases h;exact⟨rfl,trivial⟩)|cases h
theorem Nu{op:BinOp}{e:Bool}(h:M9 op=some e):(op= .eql/\e=true)\/(op= .neq/\e=false):=by
 grind [M9]
theorem Anj (hw:Ae S τ){op:BinOp}{t ty:Nat}{x y:Operand}(ho:o.op= .binOp op t x y ty)(h:Us U T S op t x y ty k=some r):Ah U F T S τ o k r:=by
 unfold Us at h;split at h
 ·rename_i k1 a g1 k2 b g2 hx hy;split at h
  ·rename_i v hv;split at h
   ·rename_i hk;have hk:k1=k2:=of_decide_eq_true hk;subst hk;obtain⟨e,hok⟩:=Ani (S:=S) (τ:=τ) hv;exact Ah.pure hw (v:= .c v) hok (sBi ho (B6 hx) (B6 hy) e) h
   ·cases h
  ·unfold Afw at h;split at h
   ·split at h
    ·rename_i hb;exact Ah.pure hw (v:= .c (.int k1 (Afe k1 a b) 0)) Ep (sSh ho (B6 hx) (B6 hy) hb) h
    ·cases h
   ·split at h
    ·rename_i hb;exact Ah.pure hw (v:= .c (.int k1 (Aff k1 a b) 0)) Ep (sSr ho (B6 hx) (B6 hy) hb) h
    ·cases h
   ·split at h
    ·rename_i hk;have hk:k1=k2:=of_decide_eq_true hk;subst hk;split at h
     ·rename_i hb;exact Ah.pure hw (v:= .c (.int k1 (Afg k1 a b) 0)) Ep (sQu ho (B6 hx) (B6 hy) hb) h
     ·cases h
    ·cases h
   ·split at h
    ·rename_i hk;have hk:k1=k2:=of_decide_eq_true hk;subst hk;split at h
     ·rename_i hb;exact Ah.pure hw (v:= .c (.int k1 (Int.tmod a b) 0)) Ep (sRe ho (B6 hx) (B6 hy) hb) h
     ·cases h
    ·cases h
   ·cases h
 ·rename_i a b hx hy;split at h
  ·rename_i he;rcases Nu he with ⟨rfl,_⟩|⟨_,h2⟩
   ·exact Ah.pure hw (v:= .c (.bool (a.toList==b.toList))) trivial (by have:=Ae1 (F:=F) (T:=T) ho (.inl rfl) (Nt hx) (Nt hy);assumption) h
   grind
  ·rename_i he;rcases Nu he with ⟨_,h2⟩|⟨rfl,_⟩
   ·cases h2
   ·exact Ah.pure hw (v:= .c (.bool (!(a.toList==b.toList)))) trivial (by have:=Ae1 (F:=F) (T:=T) ho (.inr rfl) (Nt hx) (Nt hy);assumption) h
  ·cases h
 ·rename_i a b hx hy;split at h
  ·rename_i ti ht;split at h
   ·rename_i hk;split at h
    ·rename_i he;rcases Nu he with ⟨rfl,_⟩|⟨_,h2⟩
     ·exact Ah.pure hw (v:= .c (.bool (a==b))) trivial (by have:=sBe (F:=F) (T:=T) ho (.inl rfl) (J2 hx) (J2 hy) ht hk;assumption) h
     grind
    ·rename_i he;rcases Nu he with ⟨_,h2⟩|⟨rfl,_⟩
     ·cases h2
     ·exact Ah.pure hw (v:= .c (.bool (!(a==b)))) trivial (by have:=sBe (F:=F) (T:=T) ho (.inr rfl) (J2 hx) (J2 hy) ht hk;assumption) h
    ·cases h
   ·cases h
  ·cases h
 ·cases h
def Nv (P:Program)(T:Tab)(ok:Nat->Bool):Prop:= ∀t,ok t=true->P.eqGuardType P.depth t=false/\Gq P T 20 t=true
theorem Ank (hw:Ae S τ){ok:Nat->Bool}(he:Nv F.P T ok){op:BinOp}{t ty:Nat}{x y:Operand}(ho:o.op= .binOp op t x y ty)(h:Ut U T ok S op t x y ty k=some r):Ah U F T S τ o k r:=by
 unfold Ut at h;split at h
 ·rename_i us vs hx hy;split at h
  ·rename_i ti b e ht hv hop;split at h
   ·rename_i hc;simp only[Z4]at hc;obtain⟨⟨⟨⟨⟨hag,hok⟩,h1⟩,h2⟩,hcx⟩,hcy⟩:=hc;obtain⟨hg,hok2⟩:=he t hok;have vx:=R2 hx hcx.1 hcx.2;have vy:=R2 hy hcy.1 hcy.2;have key: ∀q:op= .eql\/op= .neq,Ai F T o (S.toSt U) {v:= .c (.bool (if op= .eql then b else !b)),use:=Q2 [x,y]}:=fun q=>by
     grind [sEs,Nat.eq_of_beq_eq_true]
    rcases Nu hop with ⟨rfl,rfl⟩|⟨rfl,rfl⟩
    ·exact Ah.pure hw (v:= .c (.bool b)) trivial (by have:=key (.inl rfl);assumption) h
    ·exact Ah.pure hw (v:= .c (.bool (!b))) trivial (by have:=key (.inr rfl);assumption) h
   ·cases h
  ·cases h
 ·cases h
theorem Anl (hw:Ae S τ){op:UnOp}{t:Nat}{x:Operand}(ho:o.op= .unOp op t x)(h:Uu U T S op t x k=some r):Ah U F T S τ o k r:=by
 unfold Uu at h;split at h
 ·rename_i b hx;exact Ah.pure hw (v:= .c (.bool (!b))) trivial (sNt ho (J2 hx)) h
 ·rename_i k1 n g hx;exact Ah.pure hw (v:= .c (.int k1 (Afh k1 n) 0)) Ep (sNg ho (B6 hx)) h
 ·cases h
theorem Anm (hw:Ae S τ){s t:Nat}{x:Operand}(ho:o.op= .convert s t x)(h:Uv U T S s t x k=some r):Ah U F T S τ o k r:=by
 unfold Uv at h;split at h
 ·rename_i k1 n g i j hx hi hj;split at h
  ·rename_i k2 k3 h2 h3;split at h
   ·rename_i hk;have hk:k1=k2:=of_decide_eq_true hk;subst hk;exact Ah.pure hw (v:= .c (.int k3 (k3.wrap n) 0)) Ep (sCv ho hi hj h2 h3 (B6 hx)) h
   ·cases h
  ·cases h
 ·cases h
theorem Ann (hw:Ae S τ){s f:Nat}{x:Operand}(ho:o.op= .fieldAddr s x f)(h:Uw U T S s x f k=some r):Ah U F T S τ o k r:=by
 unfold Uw at h;have hx0:=hw.val (T:=T) 0 x;split at h
 ·rename_i off id ver j hf hx;exact Ah.pure hw (v:= .c (.ptr id ver (j+off))) trivial (sFP ho (Lm hx) hf) h
 ·rename_i off id ver g i j hf hx;rw[hx]at hx0;exact Ah.pure hw (v:= .c (.ptrE id ver g i (j+off))) hx0 (sFP ho (J3 hx) hf) h
 ·rename_i off t l i j hf hx;rw[hx]at hx0;exact Ah.pure hw (v:= .c (.ptrR t l i (j+off))) hx0 (sFI ho (Agd hx) hf) h
 ·rename_i off t y j hf hx;exact Ah.pure hw (v:= .c (.ptrB t y (j+off))) trivial (sFI ho (R1 hx) hf) h
 ·cases h
theorem Ano (hw:Ae S τ){x:Operand}(ho:o.op= .nilCheck x)(h:Ux U T S x k=some r):Ah U F T S τ o k r:=by
 unfold Ux at h;have hx0:=hw.val (T:=T) 0 x;split at h
 ·rename_i id ver j hx;exact Ah.pure hw (v:= .c (.ptr id ver j)) trivial (sNc ho (Lm hx)) h
 ·rename_i id ver g i j hx;rw[hx]at hx0;exact Ah.pure hw (v:= .c (.ptrE id ver g i j)) hx0 (sNc ho (J3 hx)) h
 ·rename_i t y j hx;exact Ah.pure hw (v:= .c (.ptrB t y j)) trivial (A9 _ _ fun he S' h1 h2=>Ael ho [] (vc h1 (by simp) (R1 hx)) rfl) h
 ·cases h
theorem Anp (hw:Ae S τ){x:Operand}{n:Nat}(ho:o.op= .extract x n)(h:U4 U T S x n k=some r):Ah U F T S τ o k r:=by
 unfold U4 at h;have hx0:=hw.val (T:=T) 0 x;split at h
 ·rename_i xs hx;rw[hx]at hx0;split at h
  ·rename_i cs hn;refine Ah.pure hw (v:= .g cs) (fun c hc=>hx0 _ (Z6 hn) c hc) (sEx ho (Aaj hx) ?_) h;rw[As,hn];rfl
  ·rename_i v hn;refine Ah.pure hw (v:= .c v) (hx0 _ (Z6 hn) v (by simp)) (sEx ho (Aaj hx) ?_) h;rw[As,hn];rfl
  ·cases h
 ·cases h
theorem Agf (hw:Ae S τ){mx:Bool}{x y:Operand}{ats:Array TypeId}(ho:o.op= .call {callee:= .builtin (match mx with|true=> .max|false=> .min),args:= #[x,y],argTypes:=ats})(h:Ra U T S mx x y k=some r):Ah U F T S τ o k r:=by
 unfold Ra at h;split at h
 ·rename_i k1 a g1 k2 b g2 hx hy;split at h
  ·rename_i hk;cases mx with
   |true=>exact Ah.pure hw (v:= .c (.int k1 (M7 a b) 0)) Ep (sMx ho (B6 hx) (B6 hy)) h
   |false=>exact Ah.pure hw (v:= .c (.int k1 (M6 a b) 0)) Ep (sMn ho (B6 hx) (B6 hy)) h
  ·cases h
 ·cases h
end
section
variable {U:Un} {T:Tab} {F:Fr} {S:SS U.D} {τ:Nat->Int} {o:Oper} {α:Type} {k:Aj U.D->Option α} {r:α}
theorem Ad.eT (hU:Ad U)(d:Bool)(t:Nat):(∀a,(U.eT d t a).length=U.sz t)/\ ∀a,(U.eT d t a).all V.closed=true:=by
 cases d with
 |true=>exact⟨(hU.eF t).len,(hU.eF t).closed⟩
 |false=>exact⟨(hU.en t).len,(hU.en t).closed⟩
theorem Ad.cells (hU:Ad U)(d:Bool)(t:Nat)(a:U.D t):(U.cells d t a).map (SV.toV U)=U.eT d t a:=by
 cases d with
 |true=>exact hU.cO t a
 |false=>exact hU.cs t a
theorem Ad.cellsShut (hU:Ad U)(d:Bool)(t:Nat)(a:U.D t):(U.cells d t a).all SV.shut=true:=by
 cases d with
 |true=>exact hU.shut t true a
 |false=>exact hU.csSh t a
theorem Ad.cellsLen (hU:Ad U)(d:Bool)(t:Nat)(a:U.D t):(U.cells d t a).length=U.sz t:=by
 have:=congrArg List.length (hU.cells d t a);simp_all[eT]
theorem Fu{c:SV U.D}(h:c.shut=true)(ht:Fc c=true):c.ok S τ:=by
 cases c<;>first|trivial|(cases h)|skip
 rename_i k n g;have:g=0:=Z2 ht;subst this;exact Ep
theorem R3{α β:Type}(f:α->β)(l:List α)(j n:Nat):(Gc l j n).map f=((l.map f).drop j).take n:=by
 simp_all[Gc]
theorem Nw (c:SV U.D):D7 (c.toV U)=isT c:=by cases c<;>rfl
theorem Agg{l:List (SV U.D)}(h:C2 l=true):(l.map (SV.toV U)).all (fun v=> !D7 v)=true:=by
 simp_all[C2.eq_1,Nw]
theorem Anq{agg:Bool}{cs:List (SV U.D)}{v:SA U.D}(h:Uq agg cs=some v):Dw agg (cs.map (SV.toV U))=some (v.toA U)/\v.cells=cs:=by
 cases agg with
 |true=>cases h;exact⟨rfl,rfl⟩
 |false=>
  cases cs with
  |nil=>cases h
  |cons c r=>cases r with
   |nil=>cases h;exact⟨rfl,rfl⟩
   |cons d r=>cases h
theorem Anr{agg:Bool}{cs:List (SV U.D)}{v:SA U.D}(h:Uq agg cs=some v)(xs:List (Bool×List (SV U.D))):v≠ .t xs:=by
 rintro rfl;cases agg with
 |true=>cases h
 |false=>cases cs with
  |nil=>cases h
  |cons c r=>cases r<;>cases h
theorem Ans{v:SA U.D}(h: ∀c∈v.cells,c.ok S τ)(hn: ∀xs,v≠ .t xs):v.ok S τ:=by
 cases v with
 |c v=>exact h v (by simp[SA.cells])
 |g cs=>exact h
 |t xs=>grind
theorem J4{use:List Tmp}{ids:List Nat}{agg:Bool}{sz j:Nat}{cs:List (SV U.D)}(h:Gs U S use ids agg sz j cs k=some r)(hc: ∀c∈cs,c.ok S τ):
  ∃v:SA U.D,k {v,use,ids}=some r/\Nat.ble (j+sz) (cs.map (SV.toV U)).length=true/\Dw agg (((cs.map (SV.toV U)).drop j).take sz)=some (v.toA U)/\(((cs.map (SV.toV U)).drop j).take sz).all (fun v=> !D7 v)=true/\v.ok S τ:=by
 unfold Gs at h;split at h
 ·rename_i v hb hv;simp only[Z4]at hb;obtain⟨h1,h2⟩:=Anq hv;refine⟨v,h,by grind,by grind [R3],by rw[<-R3];exact Agg hb.2,Ans (fun c hcm=> ?_) ?_⟩
  ·rw[h2]at hcm;exact hc c (List.mem_of_mem_drop (Kk hcm))
  ·exact Anr hv
 ·cases h
theorem Am{id:Nat}{B:SB U.D}(h:S.blk id=some B):(S.toSt U).H id=some (B.toB U):=by
 show(S.blk id).map _=_
 grind
theorem Aak{B:SB U.D}{ver e t:Nat}{l:List (U.D t)}(h:B.list=some (ver,e,⟨t,l⟩)):B.ver=ver/\t=e/\(B.toB U).ver=ver/\(B.toB U).es=U.sz e/\B.len=l.length:=by
 cases B with
 |rows v t d c l=>cases h;exact⟨rfl,rfl,rfl,rfl,rfl⟩
 |opn v t d q l g i cs=>cases h;exact⟨rfl,rfl,rfl,rfl,rfl⟩
 |box=>cases h
 |arr=>cases h
theorem Nx{a:Nat}:Nat.decEq a a= .isTrue rfl:=by
 grind
theorem Ant (hU:Ad U)(hw:Ae S τ){t:Nat}{x ix:Operand}(ho:o.op= .indexAddr t x ix)(h:Uy U T S t x ix k=some r):Ah U F T S τ o k r:=by
 unfold Uy at h;have hx0:=hw.val (T:=T) t x;have hi0:=hw.val (T:=T) 0 ix;split at h
 ·rename_i e l kd i g hx hi;split at h
  ·rename_i es hes;split at h
   ·rename_i hse;have hse:=Z2 hse;subst hse;split at h
    ·rename_i hb;exact Ah.pure hw (v:= .c (.ptrR e l i 0)) hb (Als ho (Rz hx) (B6 hi) hes hb) h
    ·cases h
   ·cases h
  ·cases h
 ·rename_i id ver n kd i g hx hi;rw[hx]at hx0;rw[hi]at hi0;split at h
  ·rename_i B es hB hes;split at h
   ·rename_i ver' e t' l hl;split at h
    ·rename_i hc;simp only[Z4]at hc;have h1:=Z2 hc.1;have h2:=Z2 hc.2;subst h1;subst h2;obtain⟨e1,e2,e3,e4,e5⟩:=Aak hl;split at h
     ·rename_i hb;have hn:n=l.length:=by rw[<-e5];exact hx0.2 B hB e1
      refine Ah.pure hw (v:= .c (.ptrE id ver' g i 0)) ⟨hi0,hx0.1,fun B' hB' _=> ?_⟩ (Alt ho (n:=n) (B6 hi) ?_ (by omega)) h
      ·grind
      ·unfold Ui;simp only[Fg hx,Am hB,hes];generalize SB.toB U B=B' at e3 e4;obtain⟨bv,be,bx⟩:=B';have e3:bv=ver':=e3;have e4:be=U.sz e:=e4;subst e3;subst e4;simp only[Nx]
     ·cases h
    ·cases h
   ·cases h
  ·cases h
 ·rename_i id ver kd i g hx hi;split at h
  ·rename_i ti ht;split at h
   ·rename_i n e hk;split at h
    ·rename_i te he;split at h
     ·rename_i hs;split at h
      ·rename_i hb;exact Ah.pure hw (v:= .c (.ptrA id ver i)) trivial (sIA ho (Lm hx) (B6 hi) ht hk he (Z2 hs) hb) h
      ·cases h
     ·cases h
    ·cases h
   ·cases h
  ·cases h
 ·cases h
theorem Ln{t sz:Nat}{agg:Bool}(h:Js T t=some (sz,agg)): ∃ti,tg T t=some ti/\ti.size=sz/\ti.k.agg=agg:=by
 unfold Js at h
 grind
theorem Agh{ctr g:Nat}{a b:Int}(h1:D3 ctr τ g a)(h2:D3 ctr τ g b)(hg:0<g):a=b:=by
 rw[(h1 (by omega)).1,(h2 (by omega)).1]
theorem Ny (hU:Ad U){e:Nat}(d:Bool)(l:List (U.D e))(i:Int):(U.cells d e (U.gt l i)).map (SV.toV U)=U.eT d e (@Go.Eng.gt _ (U.inh e) l i):=hU.cells d e _
theorem Nz (hU:Ad U){e:Nat}(h:U.sz e=1)(l:List (U.D e)):(l.map (U.en e)).flatten=l.map fun a=>(U.en e a).headD .undef:=by
 induction l with
 |nil=>rfl
 |cons a r ih=>
  simp only[Z8,List.flatten_cons,ih];have:=(hU.en e).len a;rw[h]at this
  match e2:U.en e a,this with
  |[v],_=>rfl
theorem Anu (hU:Ad U)(hw:Ae S τ){t:Nat}{x:Operand}(ho:o.op= .load t x)(h:Uz U T S t x k=some r):Ah U F T S τ o k r:=by
 unfold Uz at h;have hx0:=hw.val (T:=T) 0 x;split at h
 ·rename_i id ver j sz agg hx hsz;obtain⟨ti,ht,rfl,rfl⟩:=Ln hsz;split at h
  ·rename_i ver' cs hB;split at h
   ·rename_i hv;have hv:=Z2 hv;subst hv;obtain⟨v,hk,h1,h2,h3,h4⟩:=J4 h (hw.2.2 id _ hB).2;refine Ah.pure hw h4 (sLd ho ?_) hk;unfold T5;simp only[Lm hx,ht,Am hB,SB.toB,E9,Nx,h1,h2,h3]
   ·cases h
  ·cases h
 ·rename_i id ver g i j sz agg hx hsz;rw[hx]at hx0;obtain⟨ti,ht,rfl,rfl⟩:=Ln hsz;split at h
  ·rename_i ver' e d cl l hB;split at h
   ·rename_i hv;have hv:=Z2 hv;subst hv;have hb:=hx0.2.2 _ hB rfl;obtain⟨v,hk,h1,h2,h3,h4⟩:=J4 (τ:=τ) h (fun c hc=>Fu (Z1.1 (hU.cellsShut d e _) c hc) (hU.cellsTag d e _ c hc));rw[Ny hU]at h1 h2 h3
    letI:=U.inh e
    exact Ah.pure hw h4 (Alu ho l hb (J3 hx) (Am hB) ht h1 h2 h3) hk
   ·cases h
  ·rename_i ver' e d q l g' i' cs hB;split at h
   ·rename_i hc;simp only[Z4]at hc;have hv:=Z2 hc.1.1;have hg:=Z2 hc.1.2;subst hv;subst hg;obtain⟨hbi,hti,hcs,hlen,_⟩:=(hw.2.2 id _ hB).2;have hi:i=i':=Agh hx0.1 hti (by simp_all);subst hi;obtain⟨v,hk,h1,h2,h3,h4⟩:=J4 (τ:=τ) h hcs
    letI:=U.inh e
    exact Ah.pure hw h4 (Amn ho l hbi (J3 hx) (Am hB) ht h1 h2 h3) hk
   ·cases h
  ·cases h
 ·rename_i id ver i hx hsz;obtain⟨ti,ht,hs1,ha⟩:=Ln hsz;split at h
  ·rename_i ver' n e l hB;split at h
   ·rename_i hc;simp only[Z4]at hc;have hv:=Z2 hc.1;have hse:=Z2 hc.2;subst hv;split at h
    ·rename_i hb;obtain⟨v,hk,h1,h2,h3,h4⟩:=J4 (τ:=τ) h (fun c hc=>Fu (Z1.1 (hU.csSh e _) c hc) (hU.cellsTag false e _ c hc))
     letI:=U.inh e
     refine Ah.pure hw h4 ?_ hk;have key:=Ami (F:=F) ho (f:=fun a=>(U.en e a).headD .undef) (L:=l) (Agc hx) (by rw[Am hB];simp only[SB.toB];rw[Nz hU hse]) ht hs1 ha (fun a=> ?_) hb
     ·have e1:=hU.cs e (U.gt l i);rw[e1]at h2;have e2:=(hU.en e).len (U.gt l i);rw[hse]at e2;have:v.toA U=A.c ((U.en e (@gt _ (U.inh e) l i)).headD .undef):=by
       have e3:U.gt l i= @gt _ (U.inh e) l i:=rfl;rw[e3]at h2 e2
       match hh:U.en e (@gt _ (U.inh e) l i),e2 with
       |[w],_=>rw[hh]at h2;simp only[Hf,List.take_succ_cons,List.take_zero]at h2;exact(F0 h2).symm
      grind
     ·have:=(hU.en e).clean a;have e2:=(hU.en e).len a;rw[hse]at e2
      match hh:U.en e a,e2 with
      |[w],_=>
       rw[hh]at this;simp only[Bb,List.all_nil,Bool.and_true]at this;show D7 w=false;cases w with
       |row o es xs=>cases o with|true=>cases this|false=>rfl
       |_=>rfl
    ·cases h
   ·cases h
  ·cases h
 ·rename_i e l i j sz agg hx hsz;rw[hx]at hx0;obtain⟨ti,ht,rfl,rfl⟩:=Ln hsz;obtain⟨v,hk,h1,h2,h3,h4⟩:=J4 (τ:=τ) h (fun c hc=>Fu (Z1.1 (hU.csSh e _) c hc) (hU.cellsTag false e _ c hc));rw[hU.cs]at h1 h2 h3
  letI:=U.inh e
  exact Ah.pure hw h4 (sLI ho (Agd hx) (U.en e (U.gt l i)) (M5 _ hx0) ht h1 h2) hk
 ·rename_i e y j sz agg hx hsz;obtain⟨ti,ht,rfl,rfl⟩:=Ln hsz;obtain⟨v,hk,h1,h2,h3,h4⟩:=J4 (τ:=τ) h (fun c hc=>Fu (Z1.1 (hU.csSh e _) c hc) (hU.cellsTag false e _ c hc));rw[hU.cs]at h1 h2 h3;exact Ah.pure hw h4 (sLI ho (R1 hx) (U.en e y) rfl ht h1 h2) hk
 ·cases h
end
section
variable {U:Un} {T:Tab} {F:Fr} {S:SS U.D} {τ:Nat->Int} {o:Oper} {α:Type} {k:Aj U.D->Option α} {r:α}
theorem J5{dst:Option Tmp}{v:SA U.D}{id:Nat}{b:Option (SB U.D)}{bump:List Nat}{use ids:List Nat}(i:Nat):(S.app dst {v,upd:=[(id,b)],bump,use,ids}).blk i=if i=id then b else S.blk i:=D2 _ _ _ _ id b i
theorem Anv{dst:Option Tmp}{v:SA U.D}{upd:List (Nat×Option (SB U.D))}{use ids:List Nat}(i:Nat):(S.app dst {v,upd,use,ids}).ver i=S.ver i:=rfl
theorem Ey{dst:Option Tmp}{v:SA U.D}{upd:List (Nat×Option (SB U.D))}{id:Nat}{use ids:List Nat}(i:Nat):(S.app dst {v,upd,bump:=[id],use,ids}).ver i=if i=id then S.ver id+1 else S.ver i:=by
 show Jr ((id,Jr S.nv id+1)::S.nv) i=_;simp only[Jr,D1];by_cases h:i=id
 ·rw[if_pos h,if_pos h];rfl
 ·rw[if_neg h,if_neg h];rfl
theorem Anw{dst:Option Tmp}{v:SA U.D}{id:Nat}{B B':SB U.D}{use ids:List Nat}(hB:S.blk id=some B)(h1:B'.ver=B.ver)(h2:B'.len=B.len)(h3:B'.clean=false):Br S (S.app dst {v,upd:=[(id,some B')],use,ids}):=by
 refine⟨Z9 _,fun _=>Z9 _,fun i C hC _=> ?_⟩;rw[J5]at hC
 grind
theorem Ae.chg (hw:Ae S τ){dst:Option Tmp}{v:SA U.D}{id:Nat}{B B':SB U.D}{use ids:List Nat}(hB:S.blk id=some B)(h1:B'.ver=B.ver)(h2:B'.len=B.len)(h3:B'.clean=false)(hv:v.ok S τ)(hB':B'.ok S τ):Ae (S.app dst {v,upd:=[(id,some B')],use,ids}) τ:=by
 have e:=Anw (dst:=dst) (v:=v) (use:=use) (ids:=ids) hB h1 h2 h3;refine hw.app e (hv.mono e) fun i C hC=> ?_;rw[J5]at hC;split at hC
 ·rename_i e2;cases hC;subst e2;refine .inr ⟨?_,hB'.mono e⟩;rw[Anv,h1];exact(hw.2.2 _ B hB).1
 grind
theorem Agi{dst:Option Tmp}{v:SA U.D}{id:Nat}{B:SB U.D}{use ids:List Nat}(h1:B.ver=S.ver id):Br S (S.app dst {v,upd:=[(id,some B)],bump:=[id],use,ids}):=by
 refine⟨Z9 _,fun i=> ?_,fun i C hC hlt=> ?_⟩
 ·rw[Ey];grind
 ·rw[J5]at hC
  grind
theorem Ae.new (hw:Ae S τ){dst:Option Tmp}{v:SA U.D}{id:Nat}{B:SB U.D}{use ids:List Nat}(h1:B.ver=S.ver id)(hv:v.ok (S.app dst {v,upd:=[(id,some B)],bump:=[id],use,ids}) τ)(hB:B.ok S τ):Ae (S.app dst {v,upd:=[(id,some B)],bump:=[id],use,ids}) τ:=by
 have e:=Agi (dst:=dst) (v:=v) (use:=use) (ids:=ids) h1;refine hw.app e hv fun i C hC=> ?_;rw[J5]at hC;split at hC
 ·rename_i e2;cases hC;subst e2;refine .inr ⟨?_,hB.mono e⟩;simp_all[Ey]
 grind
theorem J6{dst:Option Tmp}{v:SA U.D}{id n:Nat}{B:SB U.D}{use ids:List Nat}(hn:n=B.len):(SA.c (.own id (S.ver id) n):SA U.D).ok (S.app dst {v,upd:=[(id,some B)],bump:=[id],use,ids}) τ:=by
 refine⟨by simp_all[Ey],fun C hC _=> ?_⟩;simp_all[J5]
theorem Anx{β γ:Type}(f:β->γ)(x cs:List β)(j:Nat):(Fe x j cs).map f=(x.map f).take j++cs.map f++(x.map f).drop (j+cs.length):=by
 grind [Fe,List.map_take,List.map_drop]
theorem N0 (x cs:List (SV U.D))(j:Nat):(Fe x j cs).map (SV.toV U)=Dg (x.map (SV.toV U)) j (cs.map (SV.toV U)):=by
 grind [Anx,Dg.eq_1]
theorem Aal{β:Type}{x cs:List β}{j:Nat}(h:j+cs.length<=x.length):(Fe x j cs).length=x.length:=by
 grind [Fe]
theorem R4{β:Type}{x cs:List β}{j:Nat}{c:β}(h:c∈Fe x j cs):c∈x\/c∈cs:=by
 grind [Fe]
theorem Fv (u:SA U.D):(u.toA U).cells=u.cells.map (SV.toV U):=by
 cases u<;>rfl
theorem Anz{c:SV U.D}(h:c.solid=true):(match c.toV U with| .undef=>false| .skip=>false|_=>true)=true:=by
 cases c<;>first|rfl|cases h
theorem N1{u:SA U.D}(h:Q6 u.cells=true):Fl (u.toA U).cells=true:=by
 rw[Fv,Fl,List.all_map];exact Z1.2 fun c hc=>Anz (Z1.1 h c hc)
theorem Hv{u:SA U.D}(h:Q6 u.cells=true)(hne:0<u.cells.length):Cr (u.toA U)=true:=by
 cases u with
 |c v=>
  have:v.solid=true:=by grind [Q6,SA.cells]
  cases v<;>first|rfl|cases this
 |g cs=>rfl
 |t xs=>grind [SA.cells]
theorem J7{x:Operand}{u:SA U.D}(h:Q6 u.cells=true):Gr U x u=true:=by
 cases x<;>first|rfl|exact h
theorem Agj (hU:Ad U){d:Bool}{t:Nat}{cs:List (SV U.D)}{a:U.D t}(h:U.fold d t cs=some a):cs.map (SV.toV U)=U.eT d t a:=by
 cases d with
 |true=>exact(hU.fO t true cs a h).trans (hU.cO t a)
 |false=>exact hU.fS t cs a h
theorem J8{u:SA U.D}(h:u.ok S τ): ∀c∈u.cells,c.ok S τ:=by
 cases u with
 |c v=>intro c hc;simp only[SA.cells,Dt]at hc;subst hc;exact h
 |g cs=>exact h
 |t xs=>intro c hc;cases hc
theorem Aam (hU:Ad U){d:Bool}{e:Nat}{a:U.D e}: ∀c∈U.cells d e a,c.ok S τ:=fun c hc=>Fu (Z1.1 (hU.cellsShut d e a) c hc) (hU.cellsTag d e a c hc)
theorem An0 (hU:Ad U)(hw:Ae S τ){t:Nat}{x y:Operand}(ho:o.op= .store t x y)(hd:o.dst=none){ti:TI}(ht:tg T t=some ti){u:SA U.D}(hy:S.val T t y=u)(hs:Q6 u.cells=true)(hlen:u.cells.length=ti.size)(hpos:0<ti.size)
  {id ver e g j:Nat} {d cl:Bool} {l:List (U.D e)} {i:Int} (hx:S.val T 0 x= .c (.ptrE id ver g i j)) (hB:S.blk id=some (.rows ver e d cl l)) (hj:j+ti.size<=(U.cells d e (U.gt l i)).length)
  (h:U0 U id ver e d l g i (Fe (U.cells d e (U.gt l i)) j u.cells) (Q2 [x,y]) k=some r):Ah U F T S τ o k r:=by
 have hx0:=hw.val (T:=T) 0 x;rw[hx]at hx0;have hu0:=hw.val (T:=T) t y;rw[hy]at hu0;have hb:0<=i/\i<(l.length:Int):=hx0.2.2 _ hB rfl;have hval:=Ft (U:=U) (T:=T) (S:=S) (ty:=t) (x:=y) (J7 (by grind));rw[hy]at hval
 letI:=U.inh e
 have hbl:Nat.ble (j+ti.size) (U.eT d e (gt l i)).length=true:=by
  rw[<-Ny hU d l i,Bi];simp_all
 have hcl:(u.toA U).cells.length=ti.size:=by grind [Fv]
 unfold U0 at h;split at h
 ·split at h
  ·rename_i a ha;have hf:=Agj hU ha;rw[N0,Ny hU d l i]at hf;refine⟨_,h,?_,hw.chg hB rfl (by simp[SB.len]) rfl trivial trivial⟩;have:=Amm (F:=F) ho hd _ l a hb hval (J3 hx) (Am hB) ht (Hv hs (by omega)) (N1 hs) hcl hbl (by grind [Fv]);exact this
  ·cases h
 ·refine⟨_,h,?_,hw.chg hB rfl rfl rfl trivial ?_⟩
  ·have:=T7 (F:=F) ho hd _ hval (J3 hx) (U.eT d e (gt l i)) (Am hB) (M5 _ hb) rfl ht (Hv hs (by omega)) (N1 hs) hcl hbl;rw[Fv,<-Ny hU d l i,<-N0]at this;exact this
  ·refine⟨hb,hx0.1,fun c hc=> ?_,?_,fun h=>by cases h⟩
   all_goals grind [R4,Aam,J8,Aal,Ad.cellsLen]
theorem An1 (hU:Ad U)(hw:Ae S τ){t:Nat}{x y:Operand}(ho:o.op= .store t x y)(h:U1 U T S o.dst t x y k=some r):Ah U F T S τ o k r:=by
 unfold U1 at h;have hx0:=hw.val (T:=T) 0 x;have hy0:=hw.val (T:=T) t y;split at h
 ·rename_i sz agg u hd hsz;obtain⟨ti,ht,hsz1,hag⟩:=Ln hsz;subst hsz1;subst hag;split at h
  ·rename_i id ver j hc hx;simp only[Z4]at hc;obtain⟨⟨hs,hl⟩,hp⟩:=hc;have hl:=Z2 hl;have hp:0<ti.size:=by simp_all
   split at h
   ·rename_i ver' cs hB;split at h
    ·rename_i hc2;simp only[Z4]at hc2;have hv:=Z2 hc2.1;subst hv;have hj:=Az hc2.2;have hval:=Ft (U:=U) (T:=T) (S:=S) (ty:=t) (x:=y) (J7 hs);refine⟨_,h,?_,hw.chg hB rfl rfl rfl trivial fun c hc=> ?_⟩
     ·refine sSt ho hd _ hval ?_;have e1:Nat.ble (j+ti.size) (cs.map (SV.toV U)).length=true:=by grind
      have e2:((S.val T t y).toA U).cells.length=ti.size:=by grind [Fv]
      have e3:Nat.decEq ((S.val T t y).toA U).cells.length ti.size= .isTrue e2:=by
       grind
      unfold T6;simp only[Lm hx,ht,Am hB,SB.toB,E9,Nx,e1,Hv hs (by omega),N1 hs,e3]
      grind [N0,Fv,Aal]
     ·rcases R4 hc with h1|h1
      ·exact(hw.2.2 _ _ hB).2 c h1
      grind [J8]
    ·cases h
   ·cases h
  ·rename_i id ver g i j hc hx;simp only[Z4]at hc;obtain⟨⟨hs,hl⟩,hp⟩:=hc;have hl:=Z2 hl;have hp:0<ti.size:=by simp_all
   rw[hx]at hx0;split at h
   ·rename_i ver' e d cl l hB;split at h
    ·rename_i hc2;simp only[Z4]at hc2;have hv:=Z2 hc2.1;subst hv;exact An0 hU hw ho hd ht rfl hs hl hp hx hB (Az hc2.2) h
    ·cases h
   ·rename_i ver' e d q l g' i' cs hB;split at h
    ·rename_i hc2;simp only[Z4]at hc2;have hv:=Z2 hc2.1.1.1;have hg:=Z2 hc2.1.1.2;subst hv;subst hg;have hj:=Az hc2.2;obtain⟨hbi,hti,hcs,hlen,_⟩:=(hw.2.2 id _ hB).2;have hi:i=i':=Agh hx0.1 hti (by simp_all);subst hi;have hval:=Ft (U:=U) (T:=T) (S:=S) (ty:=t) (x:=y) (J7 hs)
     letI:=U.inh e
     refine⟨_,h,?_,hw.chg hB rfl rfl rfl trivial ⟨hbi,hti,fun c hc=> ?_,?_,fun h=>by cases h⟩⟩
     ·have hlt:i.toNat<((l.map (U.eT d e)).set i.toNat (cs.map (SV.toV U))).length:=by grind
      have:=T7 (F:=F) ho hd _ hval (J3 hx) (cs.map (SV.toV U)) (Am hB) (by grind [SB.toB]) rfl ht (Hv hs (by omega)) (N1 hs) (by grind [Fv]) (by grind);simp only[SB.toB,List.set_set,Fv,<-N0]at this;exact this
     all_goals grind [R4,J8,Aal]
    ·cases h
   ·cases h
  ·rename_i id ver i hc hx;simp only[Z4]at hc;obtain⟨⟨hs,hl⟩,hp⟩:=hc;split at h
   ·rename_i ver' n e l w hB hu;split at h
    ·rename_i a hc2 ha;simp only[Z4]at hc2;have hv:=Z2 hc2.1.1;have hs1:=Z2 hc2.1.2;have hse:=Z2 hc2.2;subst hv;split at h
     ·rename_i hb;have hf:=hU.fS e [w] a ha;have hval:=Ft (U:=U) (T:=T) (S:=S) (ty:=t) (x:=y) (J7 hs);rw[hu]at hval;have hw1:(U.en e a).headD .undef=w.toV U:=by grind
      have hsol:(SV.solid w)=true:=by grind [Q6,SA.cells]
      refine⟨_,h,?_,hw.chg hB rfl rfl rfl trivial trivial⟩;have:=Amj (F:=F) ho hd (f:=fun a=>(U.en e a).headD .undef) (L:=l) (a:=a) _ (Agc hx) (by rw[hw1];exact hval) (by rw[Am hB];simp only[SB.toB];rw[Nz hU hse]) ht hs1
       (by rw[hw1];exact Hv (u:= .c w) (by grind) (by simp_all)) (by rw[hw1];exact N1 (u:= .c w) (by grind)) hb
      rw[<-Nz hU hse]at this;exact this
     ·cases h
    ·cases h
   ·cases h
  ·cases h
 ·cases h
end
section
variable {U:Un} {T:Tab} {F:Fr} {S:SS U.D} {τ:Nat->Int} {o:Oper} {α:Type} {k:Aj U.D->Option α} {r:α}
theorem An2{t:Nat}{v:V}(h:(K2 U T t v).shut=true):(K2 U T t v).toV U=v:=by
 unfold K2 at h ⊢;split
 ·rfl
 ·rfl
 ·rfl
 ·rfl
 ·split
  ·rename_i ti h1;split
   ·rename_i e h2;split
    ·rename_i h3;have:=Z2 h3;subst this;rfl
    ·rename_i h3;simp only[h1,h2,h3]at h;cases h
   ·simp only[h1]at h;first|(cases h;done)|(split at h<;>first|cases h|(rename_i hk _;simp_all))
  ·rename_i h1;simp only[h1]at h;cases h
 grind [SV.shut]
theorem An3 (hτ: ∀n:Nat,τ (2*n+2)=n){t:Nat}{v:V}:(K2 U T t v).ok S τ:=by
 unfold K2;split
 ·rename_i k n;show D3 S.ctr τ (Kz n) n;intro hg;cases n with
  |ofNat n=>simp_all[Kz]
  |negSucc n=>exact absurd rfl hg
 ·trivial
 ·trivial
 ·trivial
 ·split
  ·split
   ·split<;>trivial
   ·trivial
  ·trivial
 ·trivial
theorem An4: ∀(ts:List Nat) (vs:List V),ts.length=vs.length->(Hp U T ts vs).all SV.shut=true->(Hp U T ts vs).map (SV.toV U)=vs:=by
 intro ts;induction ts with
 |nil=>intro vs hl h;cases vs with|nil=>rfl|cons v r=>cases hl
 |cons t r ih=>
  intro vs hl h;cases vs with
  |nil=>cases hl
  |cons v s=>
   simp only[Hp,Bb,Z4]at h;simp only[Hp,Z8,An2 h.1,ih s (by grind) h.2]
theorem An5 (hτ: ∀n:Nat,τ (2*n+2)=n): ∀(ts:List Nat) (vs:List V),∀c∈Hp U T ts vs,c.ok S τ:=by
 intro ts;induction ts with
 |nil=>intro vs c hc;cases vs<;>cases hc
 |cons t r ih=>
  intro vs c hc;cases vs with
  |nil=>cases hc
  |cons v s=>
   rcases Ax.1 hc with rfl|h
   all_goals grind [An3]
theorem N2 (hτ: ∀n:Nat,τ (2*n+2)=n){t:Nat}{ti:TI}{z:List (SV U.D)}(h:K3 U T t ti=some z):z.map (SV.toV U)=ti.zero/\(∀c∈z,c.ok S τ)/\z.all SV.shut=true:=by
 unfold K3 at h;split at h
 ·rename_i ls hl;split at h
  ·rename_i hc;simp only[Z4]at hc;cases h;exact⟨An4 ls ti.zero (Z2 hc.1) hc.2,An5 hτ ls ti.zero,hc.2⟩
  ·cases h
 ·cases h
theorem Aan (hU:Ad U){e:Nat}: ∀(cs:List (SV U.D)) (l:List (U.D e)),Na U e cs=some l->cs.map (SV.toV U)=(l.map (U.en e)).flatten:=by
 intro cs;induction cs with
 |nil=>intro l h;cases h;rfl
 |cons c r ih=>
  intro l h;unfold Na at h;split at h
  ·rename_i a l' ha hl';cases h;have:=hU.fS e [c] a ha
   grind
  ·cases h
theorem Agk (d:Nat):Nat.ble 100 (Cj d)=true:=by rw[Nat.ble_eq];exact Nat.le_add_right _ _
theorem An6 (hU:Ad U)(hw:Ae S τ){t:Nat}(ho:o.op= .alloc t)(h:U2 U T S o.dst t k=some r):Ah U F T S τ o k r:=by
 unfold U2 at h;split at h
 ·rename_i d ti hd ht;split at h
  ·rename_i z hz;obtain⟨h1,h2,h3⟩:=N2 (S:=S) (τ:=τ) hw.1 hz;have hl:ti.zero.length=z.length:=by grind
   have key:=sAl (F:=F) (S:=S.toSt U) ho ht (Cj d) (Agk d);split at h
   ·rename_i n e hk;split at h
    ·rename_i l hse hl';refine⟨_,h,?_,hw.new (B:= .arr (S.ver (Cj d)) z.length e l) rfl trivial trivial⟩;have e1:=Aan hU z l hl';rw[hl,<-h1,e1]at key;exact key
    ·cases h
   ·refine⟨_,h,?_,hw.new (B:= .box (S.ver (Cj d)) z) rfl trivial h2⟩;rw[hl,<-h1]at key;exact key
  ·cases h
 ·cases h
theorem An7 (hw:Ae S τ){t:Nat}{x:Operand}(ho:o.op= .box t x)(h:U3 U T S o.dst t x k=some r):Ah U F T S τ o k r:=by
 unfold U3 at h;have hx0:=hw.val (T:=T) t x;split at h
 ·rename_i d hd;split at h
  ·rename_i hc;simp only[Z4]at hc;have hp:0<(S.val T t x).cells.length:=by simp_all
   refine⟨_,h,?_,hw.new (B:= .box (S.ver (Cj d)) (S.val T t x).cells) rfl trivial (J8 hx0)⟩;have:=sBx (F:=F) (T:=T) (S:=S.toSt U) ho _ (Ft (J7 hc.1)) (Hv hc.1 hp) (Cj d) (Agk d);rw[Fv,Bi]at this;exact this
  ·cases h
 ·cases h
def Fh (U:Un)(T:Tab)(S:SS U.D)(ft:Nat->Nat)(parts:List (Nat×Operand)):List (List Nat):=parts.map fun p=>(S.val T (ft p.1) p.2).cells.map (Dm U)
theorem Agl{ft:Nat->Nat}{pl:Nat->Option (Nat×Nat)}: ∀(parts:List (Nat×Operand)) (z out:List (SV U.D)),Nb U pl z (Qv U T S ft parts)=some out->
  ((parts.zip (Fh U T S ft parts)).all (fun p=>Cr ((S.toSt U).val p.2 p.1.2))=true)/\
  Dv pl (z.map (SV.toV U)) ((parts.zip (Fh U T S ft parts)).map fun p=>(p.1.1,(S.toSt U).val p.2 p.1.2))=some (out.map (SV.toV U))/\(∀τ,Ae S τ->(∀c∈z,c.ok S τ)-> ∀c∈out,c.ok S τ):=by
 intro parts;induction parts with
 |nil=>intro z out h;cases h;exact⟨rfl,rfl,fun _ _ h=>h⟩
 |cons p ps ih=>
  intro z out h;simp only[Qv,Z8]at h;unfold Nb at h;split at h
  ·cases h
  ·rename_i off n hp;split at h
   ·rename_i hc;simp only[Z4]at hc;obtain⟨⟨⟨h1,h2⟩,h3⟩,h4⟩:=hc;have h1:=Z2 h1;have h2:=Az h2;have h4:0<n:=by simp_all
    have hv:=Ft (U:=U) (T:=T) (S:=S) (ty:=ft p.1) (x:=p.2) (J7 h3);obtain⟨g1,g2,g3⟩:=ih _ out h;refine⟨?_,?_,fun τ hw hz=>g3 τ hw fun c hc=> ?_⟩
    ·simp only[Fh,Z8,List.zip_cons_cons,Bb,Z4];refine⟨?_,g1⟩
     grind [Hv]
    ·simp_all[Fh,Dv,Fv,N0]
    ·rcases R4 hc with h5|h5
     ·grind
     ·exact J8 (hw.val _ _) c h5
   ·cases h
theorem An8 (hU:Ad U)(hw:Ae S τ){t:Nat}{parts:Array (Nat×Operand)}(ho:o.op= .build t parts)(h:U5 U T S t parts k=some r):Ah U F T S τ o k r:=by
 unfold U5 at h;split at h
 ·rename_i ti ht;split at h
  ·rename_i z gs hz hk;obtain⟨h1,h2,h3⟩:=N2 (S:=S) (τ:=τ) hw.1 hz;split at h
   ·rename_i pl hpl;split at h
    ·rename_i out hf;obtain⟨g1,g2,g3⟩:=Agl (T:=T) parts.toList z out hf;refine Ah.pure hw (v:= .g out) (g3 τ hw h2) ?_ h;have hlen:(Fh U T S (Qw gs) parts.toList).length=parts.size:=by simp[Fh]
     refine sBd ho (Fh U T S (Qw gs) parts.toList) ht ?_;have e3:Nat.decEq (Fh U T S (Qw gs) parts.toList).length parts.size= .isTrue hlen:=by
      grind
     unfold Uh;simp only[hpl,g1,e3]
     grind
    ·cases h
   ·cases h
  ·rename_i z n e hz hk;obtain⟨h1,h2,h3⟩:=N2 (S:=S) (τ:=τ) hw.1 hz;split at h
   ·rename_i te he;split at h
    ·rename_i out hf;obtain⟨g1,g2,g3⟩:=Agl (T:=T) parts.toList z out hf;refine Ah.pure hw (v:= .g out) (g3 τ hw h2) ?_ h;have hlen:(Fh U T S (fun _=>e) parts.toList).length=parts.size:=by simp[Fh]
     refine Amf ho (Fh U T S (fun _=>e) parts.toList) ht hk he ?_;have e3:Nat.decEq (Fh U T S (fun _=>e) parts.toList).length parts.size= .isTrue hlen:=by
      grind
     unfold Ul;simp only[g1,e3]
     grind
    ·cases h
   ·cases h
  ·cases h
 ·cases h
theorem An9{e:Nat}(hU:Ad U)(hse:U.sz e=1){x:U.D e}{v:SA U.D}(h:Dw false (((U.en e x).drop 0).take 1)=some (v.toA U)):v.toA U= .c ((U.en e x).headD .undef):=by
 have e2:=(hU.en e).len x;rw[hse]at e2
 match hh:U.en e x,e2 with
 |[w],_=>
  rw[hh]at h;simp only[Hf,List.take_succ_cons,List.take_zero]at h;exact(F0 h).symm
theorem Aoa (hU:Ad U)(hw:Ae S τ){t:Nat}{x ix:Operand}(ho:o.op= .index t x ix)(h:U6 U T S t x ix k=some r):Ah U F T S τ o k r:=by
 unfold U6 at h;split at h
 ·rename_i cs kd j g ti hx hi ht;split at h
  ·rename_i n e hk;split at h
   ·rename_i te l he hl;split at h
    ·rename_i hc;simp only[Z4]at hc;obtain⟨⟨⟨⟨⟨c1,c2⟩,c3⟩,c4⟩,c5⟩,c6⟩:=hc;have c1:=Z2 c1;have c2:=Z2 c2;have hse:=Z2 c6;split at h
     ·rename_i hb;have hv:=R2 hx c4 c5;rw[Aan hU cs l hl,Nz hU hse]at hv;have hln:l.length=n:=by
       have:=congrArg List.length (Aan hU cs l hl)
       grind [Nz]
      letI:=U.inh e
      obtain⟨v,hk2,h1,h2,h3,h4⟩:=J4 (τ:=τ) h (Aam (d:=false) hU);refine Ah.pure hw h4 ?_ hk2;have key:=Ame (F:=F) ho (f:=fun a=>(U.en e a).headD .undef) hv (B6 hi) ht hk he c1 (by grind) hln (by omega);rw[hU.cs]at h2;rw[An9 hU hse h2];exact key
     ·cases h
    ·cases h
   ·cases h
  ·cases h
 ·cases h
theorem Lo{d n:Int}{x:Option Operand}(h:Hq U T S d x=some n):Bp (S.toSt U) d x=some n:=by
 unfold Hq at h;split at h
 ·exact h
 ·rename_i y;split at h
  ·rename_i k n' g hy;simp only[Bp,B6 hy];exact h
  ·cases h
theorem Aob{S:St}{t:Nat}{x:Operand}{lo hi:Option Operand}(h:o.op= .slice t x lo hi none){id ver n:Nat}(hx:S.val [] x= .c (.own id ver 0 n)){B:Blk}(hB:S.H id=some B)(hver:B.ver=ver)(hes:C0 T t=some B.es)
  {l hh:Int} (hl:Bp S 0 lo=some l) (hr:Bp S n hi=some hh) (hb:0<=l/\l<=hh/\hh<=n):Ai F T o S {v:= .c (.own id ver l.toNat (hh - l).toNat),use:=Q2 ([x]++lo.toList++hi.toList),ids:=[id]}:=A9 _ _ fun he S' h1 h2=>by
 have key: ∀(d:Int) (y:Option Operand) (m:Int),(∀z∈y.toList,z∈[x]++lo.toList++hi.toList)->Bp S d y=some m->Bp S' d y=some m:=by
  intro d y m hy hn;cases y with
  |none=>exact hn
  |some z=>
   unfold Bp at hn ⊢;simp only at hn ⊢;rw[By (hy z (by simp)) h1];exact hn
 have:=Aeq he.tab h (vc h1 (by simp) hx) (by grind) hver hes (key _ _ _ (fun z hz=>by grind) hl) (key _ _ _ (fun z hz=>by grind) hr) hb.1 hb.2.1 hb.2.2
 grind
theorem Aoc (hU:Ad U)(hw:Ae S τ){t:Nat}{x:Operand}{lo hi:Option Operand}(ho:o.op= .slice t x lo hi none)(h:U8 U T S t x lo hi k=some r):Ah U F T S τ o k r:=by
 unfold U8 at h;have hx0:=hw.val (T:=T) t x;split at h
 ·rename_i e l hx;split at h
  ·rename_i es a b hes ha hb;split at h
   ·rename_i hse;have hse:=Z2 hse;subst hse;split at h
    ·rename_i hc;exact Ah.pure hw (v:= .c (.row e ((l.drop a.toNat).take (b - a).toNat))) trivial (Alx ho (Rz hx) hes (Lo ha) (Lo hb) hc) h
    ·cases h
   ·cases h
  ·cases h
 ·rename_i id ver n hx;rw[hx]at hx0;split at h
  ·rename_i B es hB hes;split at h
   ·rename_i ver' e t' l hl;split at h
    ·rename_i a b hc ha hb;simp only[Z4]at hc;have h1:=Z2 hc.1;have h2:=Z2 hc.2;subst h1;subst h2;obtain⟨e1,e2,e3,e4,e5⟩:=Aak hl;split at h
     ·rename_i hr;have hn:n=l.length:=by rw[<-e5];exact hx0.2 B hB e1
      refine Ah.pure hw (v:= .c (.part id ver' a b)) ⟨hx0.1,fun B' hB' _=> ?_⟩ ?_ h
      ·grind
      ·have hb':Bp (S.toSt U) (n:Int) hi=some b:=by grind [Lo]
       exact Aob ho (Fg hx) (Am hB) e3 (by grind) (Lo ha) hb' (by omega)
     ·cases h
    ·cases h
   ·cases h
  ·cases h
 ·cases h
theorem Agm{t:Nat}(h:Qz T t=true): ∃ti e,tg T t=some ti/\ti.k= .slice e:=by
 grind [Qz]
theorem Aod (hw:Ae S τ){t:Nat}{x:Operand}(ho:o.op= .call {callee:= .builtin .len,args:= #[x],argTypes:= #[t]})(h:U9 U T S t x k=some r):Ah U F T S τ o k r:=by
 unfold U9 at h;have hx0:=hw.val (T:=T) t x;split at h
 ·rename_i e l hx;split at h
  ·rename_i hs;obtain⟨ti,e',ht,hk⟩:=Agm hs;exact Ah.pure hw (v:= .c (.int .i64 (l.length:Int) 0)) Ep (sLm ho ht hk (Rz hx)) h
  ·cases h
 ·rename_i id ver n hx;rw[hx]at hx0;split at h
  ·rename_i B hB hs;obtain⟨ti,e',ht,hk⟩:=Agm hs;split at h
   ·rename_i ver' e t' l hl;split at h
    ·rename_i hv;have hv:=Z2 hv;subst hv;obtain⟨e1,e2,e3,e4,e5⟩:=Aak hl;have hn:n=l.length:=by rw[<-e5];exact hx0.2 B hB e1
     refine Ah.pure hw (v:= .c (.int .i64 (l.length:Int) 0)) Ep ?_ h;have:=sLo (F:=F) ho ht hk (Fg hx);rw[hn]at this;exact this
    ·cases h
   ·cases h
  ·cases h
 ·rename_i s hx;split at h
  ·rename_i hs;unfold Afx at hs;split at hs
   ·rename_i ti ht;split at hs
    ·rename_i hk;exact Ah.pure hw (v:= .c (.int .i64 (s.size:Int) 0)) Ep (sLs ho ht hk (Nt hx)) h
    grind
   grind
  ·cases h
 ·cases h
theorem Aoe: ∀(as:List (SA U.D)) (l:List (Σ t,U.D t)),Rc U as=some l->as=l.map fun q=>SA.c (.ptrB q.1 q.2 0):=by
 intro as;induction as with
 |nil=>intro l h;cases h;rfl
 |cons a r ih=>
  intro l h;unfold Rc at h
  grind
def Lp (l:List (Nat×Nat))(q:List (Σ t,U.D t)):List (SV U.D):=(l.map fun c=> .ptr c.1 c.2 0)++q.map fun z=> .ptrB z.1 z.2 0
theorem Aof: ∀(as:List (SA U.D)) (l:List (Nat×Nat)) (q:List (Σ t,U.D t)),Rd U as=some (l,q)->as=(Lp l q).map SA.c:=by
 intro as;induction as with
 |nil=>intro l q h;cases h;rfl
 |cons a r ih=>
  intro l q h;unfold Rd at h;split at h
  ·grind [Lp]
  ·split at h
   ·rename_i q' hq;cases h;rw[Aoe _ _ hq];simp[Lp]
   ·cases h
theorem Aog (hw:Ae S τ){fn:Fn}{first caps:Array Operand}(ho:o.op= .makeFunc fn first caps)(h:Vf U T S fn first caps k=some r):Ah U F T S τ o k r:=by
 unfold Vf at h;split at h
 ·rename_i f l q hf hl;have hfirst:first= #[]:=by
   grind
  subst hfirst;have hc:=Aof _ l q hl;refine Ah.pure hw (v:= .c (.fn f l q)) trivial ?_ h;have hm:(l.map fun c=>V.ptr c.1 c.2 0 0)++(q.map fun z=>V.ip (U.sz z.1) [U.en z.1 z.2] 0 0)=(Lp l q).map (SV.toV U):=by
   rw[Lp,Er,Ar,Ar];rfl
  refine A9 _ _ fun he S' h1 h2=>Aj8 ho ?_ fun i x v hi hv=> ?_
  ·have:=congrArg List.length hc
   grind
  ·have e1:(caps.toList.map (S.val T 0))[i]? =some (S.val T 0 x):=by
    grind
   rw[hc]at e1;rw[hm]at hv;rw[As]at e1 hv;cases hli:(Lp l q)[i]? with
   |none=>grind
   |some c=>
    rw[hli]at e1 hv;simp only[Du,Z7]at e1 hv;subst hv;refine vc h1 (Z6 (by rw[Array.getElem?_toList];exact hi)) ?_;rcases C5.1 (Z6 hli)with hm|hm
    ·obtain⟨z,_,rfl⟩:=A8.1 hm;exact Lm e1.symm
    ·obtain⟨z,_,rfl⟩:=A8.1 hm;exact R1 e1.symm
 ·cases h
end
section
variable {U:Un} {T:Tab} {F:Fr} {S:SS U.D} {τ:Nat->Int} {o:Oper} {α:Type} {k:Aj U.D->Option α} {r:α}
theorem Agn (cs:List (SV U.D)): ∀(vs:List Value) (sh:List Nat),cs.map (SV.toV U)=Cd (cs.map (Dm U)) vs->C2 cs=true->Q6 cs=true->Cd sh vs=cs.map (SV.toV U):=by
 induction cs with
 |nil=>intro vs sh h _ _;cases vs with|nil=>rfl|cons v r=>cases h
 |cons c r ih=>
  intro vs sh h hn hs;cases vs with
  |nil=>cases h
  |cons v s=>
   simp only[C2,Bb,Z4]at hn;simp only[Q6,Bb,Z4]at hs;simp only[Z8,Cd,List.headD_cons,List.tail_cons,Ed]at h;simp only[Z8,Cd];rw[ih s sh.tail h.2 hn.2 hs.2];congr 1;have h1:=h.1;cases v with
   |slice a n cp=>
    cases a with
    |some a=>rw[h1];rfl
    |none=>
     exfalso;have h1:c.toV U=(if n=0/\cp=0 then V.row true (Dm U c) []else V.undef):=h1;split at h1
     ·cases c<;>first|(cases h1;done)|grind [isT]|skip
     ·cases c<;>first|(cases h1;done)|grind [SV.solid]|skip
   |pointer a=>cases a<;>(rw[h1];rfl)
   |_=>rw[h1];rfl
theorem Ago{ty:Nat}{x:Operand}(hs:Q6 (S.val T ty x).cells=true)(hp:0<(S.val T ty x).cells.length)(hn:Nc U x (S.val T ty x)=true)(sh:List Nat):(S.toSt U).val sh x=(S.val T ty x).toA U:=by
 cases x with
 |tmp t=>rfl
 |func f=>rfl
 |global g=>rfl
 |const v=>
  have hn:C2 (S.val T ty (.const v)).cells=true:=hn;have h:=Ft (U:=U) (T:=T) (S:=S) (ty:=ty) (x:= .const v) hs;by_cases hv: ∃vs,v= .agg vs
  ·obtain⟨vs,rfl⟩:=hv;have hc: ∃cs,S.val T ty (.const (.agg vs))= .g cs:=by
    have h:A.g _=_:=h;cases hh:S.val T ty (.const (.agg vs))with
    |g cs=>grind
    |c v=>rw[hh]at h;cases h
    |t xs=>rw[hh]at h;cases h
   obtain⟨cs,hc⟩:=hc;rw[hc]at h hn hs ⊢;have h:A.g (Cd (cs.map (Dm U)) vs.toList)=A.g (cs.map (SV.toV U)):=h;show A.g (Cd sh vs.toList)=A.g (cs.map (SV.toV U));rw[Agn cs vs.toList sh (by grind) hn hs]
  ·have hv': ∀cs,v≠ .agg cs:=fun cs e=>hv ⟨cs,e⟩
   have hc:S.val T ty (.const v)= .c (Db T ty v):=J1 ty v hv';rw[hc]at h hn hs ⊢;have h:Gk (([Db T ty v]:List (SV U.D)).map (Dm U)) v= .c ((Db T ty v).toV U):=h;rw[Ll _ v hv']at h;show Gk sh v=_;rw[Ll sh v hv'];have:=Agn [Db T ty v] [v] [sh.headD 0] (by grind [Cd]) hn hs;simp only[Cd,Z8,De,List.headD_cons,Ed,and_true]at this;show A.c _=A.c _;rw[this]
theorem Aoh (c:SV U.D):(Ek U c).toV U=(c.toV U).cold:=by
 cases c with
 |rowT t d l=>cases l<;>rfl
 |_=>rfl
theorem Aoi{A B c:List V}(hc:c.length<=B.length):Dg (A++B) A.length c=A++c++B.drop c.length:=by
 simp_all[Dg]
theorem Aoj{sz:Nat}: ∀(xs:List (List V×A)) (q:Nat) (L B:List V) (ps:List (Nat×A)),L.length=q*sz->B.length=xs.length*sz->
  (∀p∈xs,p.2.cells=p.1/\p.1.length=sz)->ps=(xs.mapIdx fun i p=>(q+i,p.2))->
  Dv (fun i=>some (i*sz,sz)) (L++B) ps=some (L++(xs.map (·.1)).flatten):=by
 intro xs;induction xs with
 |nil=>simp_all[Dv]
 |cons p r ih=>
  intro q L B ps hL hB hx hp;subst hp;obtain⟨h1,h2⟩:=hx p (by simp);have hlB:p.1.length<=B.length:=by simp_all[Nat.succ_mul]
  simp only[List.mapIdx_cons,Dv,Nat.add_zero];rw[if_pos ⟨by grind,by grind⟩,h1,<-hL,Aoi hlB];have:=ih (q+1) (L++p.1) (B.drop p.1.length) (r.mapIdx fun i p=>(q+1+i,p.2)) (by grind) (by grind [Nat.succ_mul]) (fun p hp=>hx p (Pv _ hp)) rfl
  grind
theorem Aok{sz:Nat}: ∀(xs:List (List V)),(∀x∈xs,x.length=sz)->Ce sz xs.length xs.flatten=xs:=by
 intro xs;induction xs with
 |nil=>intro _;rfl
 |cons x r ih=>
  grind [Ce]
theorem Aol: ∀(ps:List (Nat×Operand)) (n:Nat),Nd n ps=true-> ∀(f:Operand->A),ps.map (fun p=>(p.1,f p.2))=ps.mapIdx fun i p=>(n+i,f p.2):=by
 intro ps;induction ps with
 |nil=>grind
 |cons p r ih=>
  intro n h f;simp only[Nd,Z4]at h;have h1:=Z2 h.1;rw[Z8,ih (n+1) h.2 f,List.mapIdx_cons,h1,Nat.add_zero]
  grind
theorem Aom{β γ δ:Type}(g:β->γ): ∀(l:List β) (f:Nat->γ->δ),(l.map g).mapIdx f=l.mapIdx fun i a=>f i (g a):=by
 intro l;induction l with
 |nil=>grind
 |cons a r ih=>grind
theorem Aon{e n:Nat}{te:TI}{parts:Array (Nat×Operand)}(hseq:Nd 0 parts.toList=true)(hn:parts.toList.length=n)(hz:te.zero.length=te.size)(hpos:0<te.size)
  (h: ∀p∈parts.toList,Q6 (S.val T e p.2).cells=true/\(S.val T e p.2).cells.length=te.size/\Nc U p.2 (S.val T e p.2)=true):
  Qq (S.toSt U) te n parts=some ((parts.toList.map fun p=>(S.val T e p.2).cells.map (Ek U)).map fun c=>c.map (SV.toV U)):=by
 have hv: ∀p∈parts.toList,(S.toSt U).val te.sh p.2=(S.val T e p.2).toA U:=fun p hp=>Ago (h p hp).1 (by grind) (h p hp).2.2 te.sh
 have h1:parts.toList.all (fun p=>Cr ((S.toSt U).val te.sh p.2))=true:=Z1.2 fun p hp=>by
  rw[hv p hp];exact Hv (h p hp).1 (by grind)
 unfold Qq;simp only[h1];have h2:=Aoj (sz:=te.size) (parts.toList.map fun p=>(((S.val T e p.2).cells.map (SV.toV U)),(S.toSt U).val te.sh p.2)) 0 [] (Hi n te.zero) (parts.toList.map fun p=>(p.1,(S.toSt U).val te.sh p.2)) (by simp) (by grind [Qa])
  (fun q hq=>by
   obtain⟨p,hp,rfl⟩:=A8.1 hq;exact⟨by grind [Fv],by grind⟩)
  (by rw[Aol _ 0 hseq (fun q=>(S.toSt U).val te.sh q),Aom])
 simp only[Hd,Ar]at h2;rw[h2];simp only[Z7];have h3:=Aok (sz:=te.size) (parts.toList.map fun p=>(S.val T e p.2).cells.map (SV.toV U)) (fun x hx=>by
  grind)
 rw[Bi,hn]at h3;have e1:(Prod.fst ∘ fun(p:Nat×Operand)=>(((S.val T e p.2).cells.map (SV.toV U)),(S.toSt U).val te.sh p.2))=fun p=>(S.val T e p.2).cells.map (SV.toV U):=rfl;rw[e1,h3,Ei,Ar,Ar];refine Bf fun p hp=> ?_;simp only[Function.comp,Ar];refine Bf fun c hc=>(Aoh c).symm
theorem Aoo (hU:Ad U){e:Nat}: ∀(css:List (List (SV U.D))) (l:List (U.D e)),Qx U e css=some l->css.map (fun c=>c.map (SV.toV U))=l.map (U.en e)/\l.length=css.length:=by
 intro css;induction css with
 |nil=>intro l h;cases h;grind
 |cons c r ih=>
  grind [Qx,Ad.fS]
theorem Aao (hU:Ad U)(e:Nat):U.eT (U.flat e) e=U.en e:=by
 cases h:U.flat e with
 |true=>exact hU.flat e h
 |false=>rfl
theorem G3 (d:Nat): ∀(l:List Oper),Nat.ble 100 (Ag d l)=true:=by
 intro l;induction l with
 |nil=>rw[Nat.ble_eq,Ag];omega
 |cons o r ih=>
  grind [Ag,Nat.ble_eq]
theorem Hw (hU:Ad U)(d:Bool)(t ver:Nat)(l:List (U.D t)):allClosed ⟨ver,U.sz t,l.map (U.eT d t)⟩=true:=by
 cases d with
 |true=>exact(hU.eF t).allClosed _ _ l
 |false=>exact(hU.en t).allClosed _ _ l
theorem Aap (hU:Ad U)(d:Bool)(t:Nat)(l:List (U.D t)):shareLL (l.map (U.eT d t))=l.map (U.en t):=by
 cases d with
 |true=>exact(hU.eF t).shareLL l
 |false=>exact(hU.en t).shareLL l
theorem R5 (hU:Ad U)(d:Bool)(t ver off len:Nat)(l:List (U.D t)):C1 ⟨ver,U.sz t,l.map (U.eT d t)⟩ off len= .row false (U.sz t) (((l.drop off).take len).map (U.en t)):=by
 show V.row false (U.sz t) (shareLL (((l.map (U.eT d t)).drop off).take len))=_;rw[<-List.map_drop,<-List.map_take,Aap hU]
theorem Ae.newN (hw:Ae S τ){dst:Option Tmp}{v:SA U.D}{id:Nat}{use ids:List Nat}(hv:v.ok (S.app dst {v,upd:=[(id,none)],bump:=[id],use,ids}) τ):Ae (S.app dst {v,upd:=[(id,none)],bump:=[id],use,ids}) τ:=by
 have e:Br S (S.app dst {v,upd:=[(id,none)],bump:=[id],use,ids}):=by
  refine⟨Z9 _,fun i=> ?_,fun i C hC hlt=> ?_⟩
  ·rw[Ey];grind
  ·rw[J5]at hC
   grind
 refine hw.app e hv fun i C hC=> ?_;rw[J5]at hC
 grind
theorem Agp (hU:Ad U)(hw:Ae S τ){rest:List Oper}{t n:Nat}{parts:Array (Nat×Operand)}(ho:o.op= .buildSlice t n parts)(h:Qy U T S o.dst rest t n parts k=some r):Ah U F T S τ o k r:=by
 unfold Qy at h;split at h
 ·rename_i d ti hd ht;split at h
  ·rename_i e hk;split at h
   ·rename_i te he;split at h
    ·rename_i hc;simp only[Z4]at hc;obtain⟨⟨⟨⟨⟨⟨c1,c2⟩,c3⟩,c4⟩,c5⟩,c6⟩,c7⟩:=hc;have c2:=Z2 c2;have c4:=Z2 c4;have c5:=Z2 c5;have hp:0<te.size:=by simp_all
     have hparts: ∀p∈parts.toList,Q6 (S.val T e p.2).cells=true/\(S.val T e p.2).cells.length=te.size/\Nc U p.2 (S.val T e p.2)=true:=fun p hpm=>by
      have:=Z1.1 c7 p hpm;simp_all
     have key:=sBS (F:=F) (T:=T) ho (Ag d rest) ht hk he (Aon c1 c2 c5 hp hparts) (G3 d rest) c6 c5 c3;split at h
     ·split at h
      ·rename_i l hl;obtain⟨e1,e2⟩:=Aoo hU _ l hl;have hln:l.length=n:=by grind
       have hm:l.map (U.eT (U.flat e||l.isEmpty) e)=l.map (U.en e):=by
        cases l with
        |nil=>rfl
        |cons a r=>simp_all[Aao]
       rw[e1,c4,<-hln,<-hm]at key;split at h
       ·have k2:=Ai.rowL (n:=l.length) (B:=⟨S.ver (Ag d rest),U.sz e,l.map (U.eT (U.flat e||l.isEmpty) e)⟩) key rfl (Hw hU _ _ _ _)
        refine⟨_,h,?_,hw.newN trivial⟩;rw[R5 hU,Hf,List.take_length]at k2;exact k2
       ·exact⟨_,h,key,hw.new (B:= .rows (S.ver (Ag d rest)) e (U.flat e||l.isEmpty) false l) rfl (J6 rfl) trivial⟩
      ·cases h
     ·split at h
      ·rename_i p hps;have hn1:n=1:=by grind
       refine⟨_,h,?_,hw.new (B:= .opn (S.ver (Ag d rest)) e true true [@default _ (U.inh e)] 2 0 ((S.val T e p.2).cells.map (Ek U))) rfl (J6 rfl) ⟨⟨by decide,by simp⟩,fun _=>⟨(hw.1 0).symm,.inl rfl⟩,fun c hc=> ?_,?_,fun h=>by cases h⟩⟩
       ·rw[hn1,c4]at key;rw[hps]at key ⊢;exact key
       ·obtain⟨c',hc',rfl⟩:=A8.1 hc;have:=J8 (hw.val (T:=T) e p.2) c' hc';cases c' with
        |rowT t d l=>cases l<;>trivial
        |_=>exact this
       grind
      ·cases h
    ·cases h
   ·cases h
  ·cases h
 ·cases h
theorem Aop (hU:Ad U)(hw:Ae S τ){rest:List Oper}{t:Nat}{x y:Operand}(ho:o.op= .makeSlice t x y)(h:U7 U T S o.dst rest t x y k=some r):Ah U F T S τ o k r:=by
 unfold U7 at h;split at h
 ·rename_i d ti kl l gl kc c gc hd ht hx hy;split at h
  ·rename_i e hk;split at h
   ·rename_i te he;split at h
    ·rename_i z hz;obtain⟨z1,z2,z3⟩:=N2 (S:=S) (τ:=τ) hw.1 hz;split at h
     ·rename_i a ha;split at ha
      ·rename_i hc;simp only[Z4]at hc;obtain⟨⟨c1,c2⟩,c3⟩:=hc;have c1:=Z2 c1;have c3:=Z2 c3;have hza:te.zero=U.eF e a:=by rw[<-z1,hU.fO e true z a ha,hU.cO]
       split at h
       ·rename_i hb;refine⟨_,h,?_,hw.new (B:= .rows (S.ver (Ag d rest)) e true false (List.replicate l.toNat a)) rfl (J6 rfl) trivial⟩;have:=Aml (F:=F) ho (Ag d rest) (f:=U.eF e) a (B6 hx) (B6 hy) ht hk he hza (G3 d rest) c2 c1 hb;rw[c3]at this;exact this
       ·cases h
      grind
     ·cases h
    ·cases h
   ·cases h
  ·cases h
 ·cases h
theorem Aaq (hU:Ad U){w:SV U.D}{ids:List Nat}{d:Bool}{t:Nat}{l:List (U.D t)}(h:Hr U S w=some (ids,d,⟨t,l⟩))(hw:w.ok S τ)(hf:(U.flat t|| !d)=true):
  Cc (S.toSt U) (w.toV U)=some (l.map (U.en t))/\B9 (w.toV U)=ids/\Da (S.toSt U) (U.sz t) (w.toV U)=true:=by
 have hen:U.eT d t=U.en t:=by
  cases d with
  |false=>rfl
  |true=>exact hU.flat t (by grind)
 cases w with
 |row t' l'=>cases h;exact⟨rfl,rfl,by simp[SV.toV,Da]⟩
 |rowT t' d' l'=>
  cases l' with
  |nil=>cases h;exact⟨rfl,rfl,by simp[SV.toV,Da]⟩
  |cons a b=>cases h
 |own id ver n=>
  simp only[Hr]at h;split at h
  ·rename_i ver' t' d' cl l' hB;split at h
   ·rename_i hv;have hv:=Z2 hv;subst hv;cases h;have hn:n=l.length:=hw.2 _ hB rfl;refine⟨?_,rfl,?_⟩
    ·simp only[SV.toV,Cc,Am hB,SB.toB,Nx,Hf]
     grind [List.length_map]
    simp_all[SV.toV,Da,SB.toB,Am]
   ·cases h
  ·cases h
 |part id ver lo hi=>
  simp only[Hr]at h;split at h
  ·rename_i ver' t' d' cl l' hB;split at h
   ·rename_i hv;have hv:=Z2 hv;subst hv;cases h;refine⟨?_,rfl,?_⟩
    all_goals simp_all[SV.toV,Cc,SB.toB,Nx,Am,Da]
   ·cases h
  ·cases h
 |_=>cases h
theorem Aar{dst:Option Tmp}{v:SA U.D}{id nid:Nat}{b:Option (SB U.D)}{bump:List Nat}{use ids:List Nat}(i:Nat):(S.app dst {v,upd:=[(id,none),(nid,b)],bump,use,ids}).blk i=if i=nid then b else if i=id then none else S.blk i:=by
 show(⟨_,(nid,b)::(id,none)::S.H,_,_⟩:SS U.D).blk i=_;rw[D2,D2];rfl
theorem Ae.app2 (hw:Ae S τ){dst:Option Tmp}{v:SA U.D}{id nid:Nat}{B:SB U.D}{use ids:List Nat}(h1:B.ver=S.ver nid)(hv:v.ok (S.app dst {v,upd:=[(id,none),(nid,some B)],bump:=[nid],use,ids}) τ)(hB:B.ok S τ):Ae (S.app dst {v,upd:=[(id,none),(nid,some B)],bump:=[nid],use,ids}) τ:=by
 have e:Br S (S.app dst {v,upd:=[(id,none),(nid,some B)],bump:=[nid],use,ids}):=by
  refine⟨Z9 _,fun i=> ?_,fun i C hC hlt=> ?_⟩
  ·rw[Ey];grind
  ·rw[Aar]at hC
   grind
 refine hw.app e hv fun i C hC=> ?_;rw[Aar]at hC;split at hC
 ·rename_i e2;cases hC;subst e2;refine .inr ⟨?_,hB.mono e⟩;simp_all[Ey]
 grind
theorem Agq{dst:Option Tmp}{v:SA U.D}{id nid n:Nat}{B:SB U.D}{use ids:List Nat}(hn:n=B.len):(SA.c (.own nid (S.ver nid) n):SA U.D).ok (S.app dst {v,upd:=[(id,none),(nid,some B)],bump:=[nid],use,ids}) τ:=by
 refine⟨by simp_all[Ey],fun C hC _=> ?_⟩;simp_all[Aar]
theorem N3{ty:Nat}{x:Operand}{v:SV U.D}{e n:Nat}(h:S.val T ty x= .c v)(hs:v≠ .undef)(hk:isT v=true->Dm U v=n):(S.toSt U).val [n] x= .c (v.toV U):=by
 cases x with
 |tmp t=>show(S.get t).toA U=_;have h:S.get t= .c v:=h;rw[h];rfl
 |const w=>
  by_cases ht:isT v=true
  ·have hsol:v.solid=true:=by cases v<;>first|rfl|cases ht
   have:=Ft (U:=U) (T:=T) (S:=S) (ty:=ty) (x:= .const w) (by rw[h];show Q6 [v]=true;grind [Q6]);rw[h]at this;have this:(S.toSt U).val [Dm U v] (.const w)= .c (v.toV U):=this
   grind
  ·have hsol:v.solid=true:=by
    have h':Ea T ty w= .c v:=h;by_cases hw: ∃cs,w= .agg cs
    ·obtain⟨cs,rfl⟩:=hw;unfold Ea at h'
     grind
    ·rw[J1 ty w fun cs e=>hw ⟨cs,e⟩]at h';cases h';exact(Agb ty w).resolve_left hs
   have:=Ago (U:=U) (T:=T) (S:=S) (ty:=ty) (x:= .const w) (by rw[h];show Q6 [v]=true;grind [Q6]) (by rw[h];exact Nat.one_pos) (by rw[h];show C2 [v]=true;grind [C2]) [n];rw[h]at this;exact this
 |func f=>cases h;rfl
 |global g=>cases h;rfl
theorem Aas{dst:Option Tmp}{v:SA U.D}{id id2 nid:Nat}{b:Option (SB U.D)}{bump:List Nat}{use ids:List Nat}(i:Nat):(S.app dst {v,upd:=[(id,none),(id2,none),(nid,b)],bump,use,ids}).blk i=if i=nid then b else if i=id2 then none else if i=id then none else S.blk i:=by
 show(⟨_,(nid,b)::(id2,none)::(id,none)::S.H,_,_⟩:SS U.D).blk i=_;rw[D2,D2,D2];rfl
theorem Ae.app3 (hw:Ae S τ){dst:Option Tmp}{v:SA U.D}{id id2 nid:Nat}{B:SB U.D}{use ids:List Nat}(h1:B.ver=S.ver nid)(hv:v.ok (S.app dst {v,upd:=[(id,none),(id2,none),(nid,some B)],bump:=[nid],use,ids}) τ)(hB:B.ok S τ):Ae (S.app dst {v,upd:=[(id,none),(id2,none),(nid,some B)],bump:=[nid],use,ids}) τ:=by
 have e:Br S (S.app dst {v,upd:=[(id,none),(id2,none),(nid,some B)],bump:=[nid],use,ids}):=by
  refine⟨Z9 _,fun i=> ?_,fun i C hC hlt=> ?_⟩
  ·rw[Ey];grind
  ·rw[Aas]at hC
   grind
 refine hw.app e hv fun i C hC=> ?_;rw[Aas]at hC;split at hC
 ·rename_i e2;cases hC;subst e2;refine .inr ⟨?_,hB.mono e⟩;simp_all[Ey]
 grind
theorem R6{dst:Option Tmp}{v:SA U.D}{id id2 nid n:Nat}{B:SB U.D}{use ids:List Nat}(hn:n=B.len):(SA.c (.own nid (S.ver nid) n):SA U.D).ok (S.app dst {v,upd:=[(id,none),(id2,none),(nid,some B)],bump:=[nid],use,ids}) τ:=by
 refine⟨by simp_all[Ey],fun C hC _=> ?_⟩;simp_all[Aas]
theorem Agr{idw vw n:Nat}{ids:List Nat}{d:Bool}{t:Nat}{l:List (U.D t)}(h:Hr U S (.own idw vw n)=some (ids,d,⟨t,l⟩)): ∃c,S.blk idw=some (.rows vw t d c l):=by
 grind [Hr,Nat.eq_of_beq_eq_true]
theorem R7 (hU:Ad U)(t ver:Nat)(l:List (U.D t)):allClosed ⟨ver,U.sz t,l.map (U.eT true t)⟩=true:=by
 refine Z1.2 fun x hx=> ?_;obtain⟨a,_,rfl⟩:=A8.1 hx;exact(hU.eF t).closed a
theorem Ags (hU:Ad U)(hw:Ae S τ){rest:List Oper}{d t e:Nat}{x y:Operand}{ti te:TI}{u w:SV U.D}{id:Nat}{idw:List Nat}{ok dw:Bool}{l l2:List (U.D e)}(ho:o.op= .call {callee:= .builtin .append,args:= #[x,y],argTypes:= #[t,t]})
  (hx:S.val T t x= .c u) (hbase:(∃ver n c,u= .own id ver n/\S.blk id=some (.rows ver e true c l))\/(∃d',u= .rowT e d' []/\l=[]/\id=0)) (hy:S.val T t y= .c w) (hl:Hr U S w=some (idw,dw,⟨e,l2⟩)) (hok:ok=true->dw=true)
  (ht:tg T t=some ti) (hk:ti.k= .slice e) (he:tg T e=some te) (c1:Nat.blt 0 te.size=true) (c2:te.size=U.sz e) (c3:te.zero.length=te.size)
  (h:Nf U S d rest e te id ok w l l2 (Q2 [x,y]) k=some r):Ah U F T S τ o k r:=by
 have hx0:=hw.val (T:=T) t x;have hy0:=hw.val (T:=T) t y;rw[hx]at hx0;rw[hy]at hy0;unfold Nf at h;split at h
 ·rename_i idw' vw nw;have hdw:=hok rfl;subst hdw;obtain⟨cw,hBw⟩:=Agr hl;have hnw:nw=l2.length:=hy0.2 _ hBw rfl;split at h
  ·rename_i hne;have hne:id≠idw':=fun e=>by simp_all
   split at h
   ·rename_i hb;have hvy:=Fg hy;rw[hnw]at hvy;refine⟨_,h,?_,hw.app3 (B:= .rows (S.ver (Ag d rest)) e true false (l++l2)) rfl (R6 rfl) trivial⟩;have key: ∀(uu:V) (vx:Nat) (shx:List Nat),(S.toSt U).val shx x= .c uu->((uu= .own id vx 0 (l.map (U.eT true e)).length/\(S.toSt U).H id=some ⟨vx,te.size,l.map (U.eT true e)⟩/\allClosed ⟨vx,te.size,l.map (U.eT true e)⟩=true/\id≠idw')\/(uu= .row true te.size []/\l.map (U.eT true e)=[]/\id=0))->
      Ai F T o (S.toSt U) (Aj.toRec U {v:= .c (.own (Ag d rest) (S.ver (Ag d rest)) (l++l2).length),upd:=[(idw',none),(id,none),(Ag d rest,some (.rows (S.ver (Ag d rest)) e true false (l++l2)))],bump:=[Ag d rest],use:=Q2 [x,y],ids:=[Ag d rest,id,idw']}):=fun uu vx shx q1 q2=>by
     have:=Amv (F:=F) ho (Ag d rest) shx (vx:=vx) (vy:=vw) (xs:=l.map (U.eT true e)) (ys:=l2.map (U.eT true e)) q1 (by grind) ht hk he (by rw[c2];exact Am hBw) (by grind [R7]) q2 (G3 d rest) c1 c3 (by grind);rw[Bi,Bi,<-Jd,c2,<-Er]at this;exact this
    rcases hbase with ⟨ver,n,c,rfl,hB⟩|⟨d',rfl,rfl,rfl⟩
    ·have hn:n=l.length:=hx0.2 _ hB rfl;refine key _ ver [] (Fg hx) (.inl ⟨by grind,by rw[c2];exact Am hB,by grind [R7],hne⟩)
    ·refine key _ 0 [te.size] (N3 (e:=e) hx (by simp) (fun _=>c2.symm)) (.inr ⟨by rw[c2];rfl,rfl,rfl⟩)
   ·cases h
  ·cases h
 ·cases h
theorem Aat{cs:List (SV U.D)}(h:cs.all (K4 U)=true):noT [cs.map (SV.toV U)]=true:=by
 simp only[noT,Bb,List.all_nil,Bool.and_true,List.all_map];refine Z1.2 fun c hc=> ?_
 have:=Z1.1 h c hc;show Ud (c.toV U)=true;cases c<;>first|rfl|cases this
theorem Agt (hU:Ad U)(hw:Ae S τ){rest:List Oper}{d t e:Nat}{x y:Operand}{ti te:TI}{u:SV U.D}{id idw vw nw:Nat}{l:List (U.D e)}{cs:List (SV U.D)}{dw q:Bool}{a:U.D e}{gw:Nat}{iw:Int}(ho:o.op= .call {callee:= .builtin .append,args:= #[x,y],argTypes:= #[t,t]})
  (hx:S.val T t x= .c u) (hbase:(∃ver n c,u= .own id ver n/\S.blk id=some (.rows ver e true c l)/\id≠idw)\/(∃d',u= .rowT e d' []/\l=[]/\id=0)) (hy:S.val T t y= .c (.own idw vw nw)) (hB:S.blk idw=some (.opn vw e dw q [a] gw iw cs)) (hcl:cs.all (K4 U)=true)
  (ht:tg T t=some ti) (hk:ti.k= .slice e) (he:tg T e=some te) (c1:Nat.blt 0 te.size=true) (c2:te.size=U.sz e) (c3:te.zero.length=te.size)
  (h:Rb U S d rest e te id idw l cs (Q2 [x,y]) k=some r):Ah U F T S τ o k r:=by
 have hx0:=hw.val (T:=T) t x;have hy0:=hw.val (T:=T) t y;rw[hx]at hx0;rw[hy]at hy0;have hbo:=(hw.2.2 idw _ hB).2;have hiw:iw=0:=by
  obtain⟨⟨g1,g2⟩,_⟩:=hbo
  grind
 subst hiw;have hnw:nw=1:=hy0.2 _ hB rfl;subst hnw;unfold Rb at h;split at h
 ·rename_i hb;refine⟨_,h,?_,hw.app3 (B:= .opn (S.ver (Ag d rest)) e true true (l++[@default _ (U.inh e)]) 0 (l.length:Int) cs) rfl (R6 (by simp[SB.len])) ⟨⟨by omega,by grind⟩,fun h=>absurd rfl h,hbo.2.2.1,hbo.2.2.2.1,fun h=>by cases h⟩⟩;have hset:((l++[@default _ (U.inh e)]).map (U.eT true e)).set ((l.length:Int)).toNat (cs.map (SV.toV U))=l.map (U.eT true e)++[cs.map (SV.toV U)]:=by
   simp_all
  have key: ∀(uu:V) (vx:Nat) (shx:List Nat),(S.toSt U).val shx x= .c uu->((uu= .own id vx 0 (l.map (U.eT true e)).length/\(S.toSt U).H id=some ⟨vx,te.size,l.map (U.eT true e)⟩/\allClosed ⟨vx,te.size,l.map (U.eT true e)⟩=true/\id≠idw)\/(uu= .row true te.size []/\l.map (U.eT true e)=[]/\id=0))->
    Ai F T o (S.toSt U) (Aj.toRec U {v:= .c (.own (Ag d rest) (S.ver (Ag d rest)) (l.length+1)),upd:=[(idw,none),(id,none),(Ag d rest,some (.opn (S.ver (Ag d rest)) e true true (l++[@default _ (U.inh e)]) 0 (l.length:Int) cs))],bump:=[Ag d rest],use:=Q2 [x,y],ids:=[Ag d rest,id,idw]}):=fun uu vx shx q1 q2=>by
   have:=Amw (F:=F) ho (Ag d rest) shx (vx:=vx) (vy:=vw) (xs:=l.map (U.eT true e)) (ys:=[cs.map (SV.toV U)]) q1 (Fg hy) ht hk he (by rw[c2];exact Am hB) (Aat hcl) q2 (G3 d rest) c1 c3 (by grind);rw[Bi,c2,<-hset]at this;exact this
  rcases hbase with ⟨ver,n,c,rfl,hB,hne⟩|⟨d',rfl,rfl,rfl⟩
  ·have hn:n=l.length:=hx0.2 _ hB rfl;refine key _ ver [] (Fg hx) (.inl ⟨by grind,by rw[c2];exact Am hB,by grind [R7],hne⟩)
  ·refine key _ 0 [te.size] (N3 (e:=e) hx (by simp) (fun _=>c2.symm)) (.inr ⟨by rw[c2];rfl,rfl,rfl⟩)
 ·cases h
theorem Aoq (hU:Ad U)(hw:Ae S τ){rest:List Oper}{d t e:Nat}{x y:Operand}{ti te:TI}{u w:SV U.D}(ho:o.op= .call {callee:= .builtin .append,args:= #[x,y],argTypes:= #[t,t]})
  (hx:S.val T t x= .c u) (hy:S.val T t y= .c w) (ht:tg T t=some ti) (hk:ti.k= .slice e) (he:tg T e=some te) (c1:Nat.blt 0 te.size=true) (c2:te.size=U.sz e) (c3:te.zero.length=te.size)
  (h:Va U S d rest e te u w (Q2 [x,y]) k=some r):Ah U F T S τ o k r:=by
 unfold Va at h;split at h
 ·rename_i idw vw nw;split at h
  ·rename_i vw' ew dw q a gw iw cs hB;split at h
   ·rename_i he2 hc _;subst he2;simp only[Z4]at hc;have e1:=Z2 hc.1;subst e1;split at h
    ·rename_i id ver n;split at h
     ·rename_i ver' eu du c l hB2;split at h
      ·rename_i h1 hc2 _;subst h1;simp only[Z4,Gg]at hc2;obtain⟨⟨k1,k2⟩,k3⟩:=hc2;have k1:=Z2 k1;subst k1;subst k2;exact Agt hU hw ho hx (.inl ⟨_,_,_,rfl,hB2,fun e=>by grind⟩) hy hB hc.2 ht hk he c1 c2 c3 h
      ·cases h
     ·cases h
    ·split at h
     ·rename_i h1 _;subst h1;exact Agt hU hw ho hx (.inr ⟨_,rfl,rfl,rfl⟩) hy hB hc.2 ht hk he c1 c2 c3 h
     ·cases h
    ·cases h
   ·cases h
  ·cases h
 ·cases h
theorem Aor (hU:Ad U)(hw:Ae S τ){rest:List Oper}{d t e:Nat}{x y:Operand}{ti te:TI}{id ver n idw vw nw:Nat}{l2:List (U.D e)}{cs:List (SV U.D)}{dw q cw:Bool}{a:U.D e}{gw:Nat}{iw:Int}(ho:o.op= .call {callee:= .builtin .append,args:= #[x,y],argTypes:= #[t,t]})
  (hx:S.val T t x= .c (.own id ver n)) (hB:S.blk id=some (.opn ver e dw q [a] gw iw cs)) (hcl:cs.all (K4 U)=true) (hy:S.val T t y= .c (.own idw vw nw)) (hBw:S.blk idw=some (.rows vw e true cw l2))
  (ht:tg T t=some ti) (hk:ti.k= .slice e) (he:tg T e=some te) (c1:Nat.blt 0 te.size=true) (c2:te.size=U.sz e) (c3:te.zero.length=te.size)
  (h:Vb U S d rest e te id idw l2 cs (Q2 [x,y]) k=some r):Ah U F T S τ o k r:=by
 have hx0:=hw.val (T:=T) t x;have hy0:=hw.val (T:=T) t y;rw[hx]at hx0;rw[hy]at hy0;have hbo:=(hw.2.2 id _ hB).2;have hiw:iw=0:=by
  obtain⟨⟨g1,g2⟩,_⟩:=hbo
  grind
 subst hiw;have hn:n=1:=hx0.2 _ hB rfl;subst hn;have hnw:nw=l2.length:=hy0.2 _ hBw rfl;subst hnw;unfold Vb at h;split at h
 ·rename_i hne;have hne:id≠idw:=fun e=>by grind
  split at h
  ·rename_i hb;refine⟨_,h,?_,hw.app3 (B:= .opn (S.ver (Ag d rest)) e true true (@default _ (U.inh e)::l2) 0 0 cs) rfl (R6 (by rfl)) ⟨⟨by omega,by grind⟩,fun h=>absurd rfl h,hbo.2.2.1,hbo.2.2.2.1,fun h=>by cases h⟩⟩;have hvy:=Fg hy;have:=Amx (F:=F) ho (Ag d rest) (vx:=ver) (vy:=vw) (xs:=[cs.map (SV.toV U)]) (ys:=l2.map (U.eT true e)) (Fg hx) (by grind) ht hk he (by rw[c2];exact Am hBw) (by grind [R7]) (by rw[c2];exact Am hB) (Aat hcl) hne (G3 d rest) c1 c3 (by grind);rw[Bi,List.length_singleton,Nat.add_comm,c2]at this;exact this
  ·cases h
 ·cases h
theorem Aos (hU:Ad U)(hw:Ae S τ){rest:List Oper}{t:Nat}{x y:Operand}(ho:o.op= .call {callee:= .builtin .append,args:= #[x,y],argTypes:= #[t,t]})(h:Vc U T S o.dst rest t x y k=some r):Ah U F T S τ o k r:=by
 unfold Vc at h;have hx0:=hw.val (T:=T) t x;have hy0:=hw.val (T:=T) t y;split at h
 ·rename_i d ti u w hd ht hx hy;rw[hx]at hx0;rw[hy]at hy0;split at h
  ·rename_i e idw dw ew l2 hk hl;split at h
   ·rename_i te h2 he _;subst h2;split at h
    ·rename_i hc;simp only[Z4]at hc;obtain⟨⟨c1,c2⟩,c3⟩:=hc;have c2:=Z2 c2;have c3:=Z2 c3;have hne:w≠ .undef:=by rintro rfl;cases hl
     have hTw:isT w=true->Dm U w=te.size:=fun hT=>by
      cases w with
      |rowT t' d' l'=>cases l' with
       |nil=>cases hl;exact c2.symm
       |cons a b=>cases hl
      |_=>cases hT
     have hvy:=N3 (e:=ew) hy hne hTw;split at h
     ·rename_i id ver n;have hvx:=N3 (e:=ew) (n:=te.size) hx (by simp) (by simp[isT]);split at h
      ·rename_i ver' eu du cl l hB;split at h
       ·rename_i h1 hv _;have hv:=Z2 hv;subst hv;subst h1;split at h
        ·rename_i hf;have hf1:(U.flat eu|| !dw)=true:=by
          grind
         have hf2:U.eT du eu=U.en eu:=by
          cases hfl:U.flat eu with
          |true=>cases du with
           |true=>exact hU.flat eu hfl
           |false=>rfl
          |false=>rw[hfl]at hf;simp at hf;rw[hf.1];rfl
         obtain⟨r1,r2,r3⟩:=Aaq hU hl hy0 hf1;have hn:n=l.length:=hx0.2 _ hB rfl;split at h
         ·rename_i hb;refine⟨_,h,?_,hw.app2 (B:= .rows (S.ver (Ag d rest)) eu (U.flat eu) false (l++l2)) rfl (Agq rfl) trivial⟩;have:=sAo (F:=F) ho (Ag d rest) (f:=U.en eu) l l2 (by grind [Ad.en]) (by rw[<-hn];exact hvx) (by simp_all[Am,SB.toB]) hvy r1 (by grind) ht hk he (G3 d rest) c1 c3 hb;rw[r2,c2,<-Aao hU eu]at this;exact this
         ·cases h
        ·rename_i hf;cases du with
         |true=>exact Ags hU hw ho hx (.inl ⟨_,_,_,rfl,hB⟩) hy hl (fun h=>by grind) ht hk he c1 c2 c3 h
         |false=>grind [Nf]
       ·cases h
      ·rename_i ver' eu d' q' a' g' i' cs' hB;split at h
       ·rename_i h1 idw' vw' nw' hv _;simp only[Z4]at hv
        grind [Nat.eq_of_beq_eq_true,Agr,Aor]
       ·cases h
      ·cases h
     ·rename_i eu du;split at h
      ·rename_i h1 hf _;subst h1;obtain⟨r1,r2,r3⟩:=Aaq hU hl hy0 hf;have hvx:=N3 (e:=eu) (n:=te.size) hx (by simp) (fun _=>c2.symm);split at h
       ·rename_i hb;refine⟨_,h,?_,hw.new (B:= .rows (S.ver (Ag d rest)) eu (U.flat eu) false l2) rfl (J6 rfl) trivial⟩;have:=sAn (F:=F) ho (Ag d rest) (f:=U.en eu) l2 (es0:=U.sz eu) (by grind [Ad.en]) hvx (by grind) hvy r1 (by grind) ht hk he (G3 d rest) c1 c3 hb;rw[r2,c2,<-Aao hU eu]at this;exact this
       ·cases h
      ·rename_i h1 hf _;subst h1;exact Ags hU hw ho hx (.inr ⟨_,rfl,rfl,rfl⟩) hy hl (fun h=>h) ht hk he c1 c2 c3 h
      ·cases h
     ·cases h
    ·cases h
   ·cases h
  ·rename_i e hk hl;split at h
   ·rename_i te he;split at h
    ·rename_i hc;simp only[Z4]at hc
     grind [Aoq,Nat.eq_of_beq_eq_true]
    ·cases h
   ·cases h
  ·cases h
 ·cases h
theorem Agu{u:SV U.D}{id ver off len t:Nat}{d:Bool}{l:List (U.D t)}(h:Ng U S u=some (id,ver,off,len,d,⟨t,l⟩))(hu:u.ok S τ):(∃c,S.blk id=some (.rows ver t d c l))/\u.toV U= .own id ver off len/\isT u=false/\u≠ .undef/\off+len<=l.length:=by
 cases u with
 |own i v n=>
  simp only[Ng]at h;split at h
  ·rename_i ver' t' d' cl l' hB;split at h
   ·rename_i hv;have hv:=Z2 hv;subst hv;cases h;have hn:n=l.length:=hu.2 _ hB rfl;exact⟨⟨cl,hB⟩,by rw[SV.toV,hn],rfl,by simp,by omega⟩
   ·cases h
  ·cases h
 |part i v lo hi=>
  simp only[Ng]at h;split at h
  ·rename_i ver' t' d' cl l' hB;split at h
   ·rename_i hv;have hv:=Z2 hv;subst hv;cases h;obtain⟨q1,q2,q3⟩:=hu.2 _ hB rfl;have q3:hi<=(l.length:Int):=q3;exact⟨⟨cl,hB⟩,rfl,rfl,by simp,by omega⟩
   ·cases h
  ·cases h
 |_=>cases h
theorem Aot (hU:Ad U)(hw:Ae S τ){t t':Nat}{x y:Operand}(ho:o.op= .call {callee:= .builtin .copy,args:= #[x,y],argTypes:= #[t,t']})(h:Vd U T S t x y k=some r):Ah U F T S τ o k r:=by
 unfold Vd at h;have hx0:=hw.val (T:=T) t x;have hy0:=hw.val (T:=T) t y;split at h
 ·rename_i ti u w ht hx hy;rw[hx]at hx0;rw[hy]at hy0;split at h
  ·rename_i e id ver off len d e' l idw dw ew l2 hk hd hl;split at h
   ·rename_i te h1 h2 he _ _;subst h1;subst h2;split at h
    ·rename_i hc;simp only[Z4]at hc;obtain⟨⟨⟨c1,c2⟩,c3⟩,c4⟩:=hc;have c1:=Z2 c1;obtain⟨⟨cl,hB⟩,hv,hnT,hnu,hle⟩:=Agu hd hx0;obtain⟨r1,r2,r3⟩:=Aaq hU hl hy0 (by cases hfl:U.flat ew<;>simp_all)
     have hen:U.eT d ew=U.en ew:=by
      cases d with
      |true=>exact hU.flat ew (by simpa using c3)
      |false=>rfl
     have hvx:=Eo hx hnu hnT;rw[hv]at hvx;have hne:w≠ .undef:=by rintro rfl;cases hl
     have hnTw:isT w=false\/ ∃tt,y= .tmp tt:=by
      cases y with
      |tmp tt=>grind
      |const v=>left;have:C2 [w]=true:=c4;grind [C2]
      |func f=>left;cases hy;rfl
      |global g=>exact absurd (by cases hy;rfl) hne
     have hvy:(S.toSt U).val [] y= .c (w.toV U):=by
      rcases hnTw with h|⟨tt,rfl⟩
      ·grind [Eo]
      ·show(S.get tt).toA U=_;have hy:S.get tt= .c w:=hy;rw[hy];rfl
     have hm: ∀(z:List (U.D ew)),z.map (U.eT d ew)=z.map (U.en ew):=fun z=>by rw[hen]
     have hmin:(l2.map (U.en ew)).length=l2.length:=Bi _;refine⟨_,h,?_,hw.chg (B':= .rows ver ew d false (l.take off++l2.take (Nat.min l2.length len)++l.drop (off+Nat.min l2.length len))) hB rfl ?_ rfl Ep trivial⟩
     ·have:=sCp (F:=F) ho (id:=id) (ver:=ver) (off:=off) (len:=len) (xs:=l.map (U.en ew)) (ys:=l2.map (U.en ew)) hvx hvy ht hk he (by simpa using c2) (by rw[c1];simp_all[Am,SB.toB]) r1 (by rw[c1];exact r3) ((hU.en ew).noT l2);rw[hmin,r2]at this;have e1:(l.map (U.en ew)).take off++(l2.map (U.en ew)).take (Nat.min l2.length len)++(l.map (U.en ew)).drop (off+Nat.min l2.length len)=(l.take off++l2.take (Nat.min l2.length len)++l.drop (off+Nat.min l2.length len)).map (U.eT d ew):=by
       simp_all
      rw[e1,c1]at this;simp only[Aj.toRec,Z8,De,Du,SB.toB];exact this
     ·have h0:Nat.min l2.length len<=len:=Nat.min_le_right _ _;have h00:Nat.min l2.length len<=l2.length:=Nat.min_le_left _ _
      grind [SB.len]
    ·cases h
   ·cases h
  ·cases h
 ·cases h
end
section
variable {U:Un} {T:Tab} {F:Fr} {S:SS U.D} {τ:Nat->Int}
theorem Agv (hU:Ad U){t:Nat}{a:SA U.D}{x:U.D t}(h:K6 U t a=some x):a.toA U=(El U t x).toA U:=by
 unfold K6 at h;unfold El;split at h
 ·rename_i v;split at h
  ·rename_i hg;have h1:=hU.fS t _ x h;rw[<-hU.cs t x]at h1
   try simp only[hg]
   match e:U.cs t x,h1 with
   |[],h1=>cases h1
   |[w],h1=>
    simp only[Z8,De,Ed,and_true]at h1;show A.c _=A.c _;rw[h1]
   |_::_::_,h1=>simp at h1
  ·cases h
 ·rename_i cs;split at h
  ·rename_i hg;have h1:=hU.fS t _ x h;rw[<-hU.cs t x]at h1
   try simp only[hg]
   show A.g _=A.g _;rw[h1]
  ·cases h
 ·cases h
def R8 (H:List (SB U.D))(c:SV U.D):Prop:= ∀i v len,c= .own (i+1) v len-> ∀B,H[i]? =some B->len=B.len
theorem Agw{v:SV U.D}{e:Nat}{xs:List (List V)}(h:v.toV U= .row true e xs): ∃t d l,v= .rowT t d l/\U.sz t=e/\l.map (U.eT d t)=xs:=by
 cases v with
 |rowT t d l=>simp only[SV.toV,V.row.injEq,true_and]at h;grind
 |row t l=>simp[SV.toV]at h
 |_=>cases h
theorem Lq{n:Nat}{v:SV U.D}{r:List (SV U.D)}(h:isT v=false):Q9 U n (v::r)=(v::(Q9 U n r).1,(Q9 U n r).2):=by
 cases v<;>first|rfl|cases h
theorem Aou{H:List (SB U.D)}{n n':Nat}{v:SV U.D}{r cs:List (SV U.D)}(h:Gd U H n (v::r)=some (n',cs)):
  (∃len t d c l cs2,v= .own (n+1) 0 len/\H[n]? =some (.rows 0 t d c l)/\Gd U H (n+1) r=some (n',cs2)/\cs= .rowT t d l::cs2)\/(isT v=false/\ ∃cs2,Gd U H n r=some (n',cs2)/\cs=v::cs2):=by
 have other:(match v.shut&& !isT v with
  |true=>match Gd U H n r with
   |some (n',cs)=>some (n',v::cs)
   |none=>none
  |false=>none)=some (n',cs)->(isT v=false/\ ∃cs2,Gd U H n r=some (n',cs2)/\cs=v::cs2):=by
  grind
 by_cases hv: ∃id len,v= .own id 0 len
 ·obtain⟨id,len,rfl⟩:=hv;left;have h:(match Nat.beq id (n+1),H[n]? with
   |true,some (.rows 0 t d _ l)=>match Gd U H (n+1) r with
    |some (n',cs)=>some (n',SV.rowT t d l::cs)
    |none=>none
   |_,_=>none)=some (n',cs):=h
  split at h
  ·rename_i v' t d c' l e1 e2;split at h
   ·rename_i n2 cs2 e3;cases h;exact⟨len,_,_,_,_,cs2,by simp_all,e2,e3,rfl⟩
   ·cases h
  ·cases h
 ·right;refine other ?_;cases v with
  |own id ver len=>
   cases ver with
   |zero=>grind
   |succ k=>exact h
  |_=>exact h
theorem Aov{H:List (SB U.D)}: ∀(cs0:List (SV U.D)) (n:Nat) {n':Nat} {cs:List (SV U.D)},Gd U H n cs0=some (n',cs)->(∀c∈cs0,R8 H c)-> ∀cs1:List (SV U.D),cs.map (SV.toV U)=cs1.map (SV.toV U)->
  (Q9 U n cs1).1.map (SV.toV U)=cs0.map (SV.toV U)/\n<=n'/\(n'<=H.length\/n'=n)/\(H.take n).map (SB.toB U)++(Q9 U n cs1).2.map (SB.toB U)=(H.take n').map (SB.toB U):=by
 intro cs0;induction cs0 with
 |nil=>
  intro n n' cs h _ cs1 h1;cases h;simp_all[Q9]
 |cons v r ih=>
  intro n n' cs h hl cs1 h1;rcases Aou h with ⟨len,t,d,c,l,cs2,rfl,e2,e3,rfl⟩|⟨e1,cs2,e3,rfl⟩
  ·cases cs1 with
   |nil=>cases h1
   |cons x s=>
    simp only[Z8,Ed]at h1;obtain⟨t',d',l',rfl,hsz,hll⟩:=Agw (v:=x) h1.1.symm;obtain⟨g1,g2,g3,g4⟩:=ih (n+1) e3 (fun c hc=>hl c (by simp[hc])) s h1.2;have hlt:n<H.length:=(Z3.1 e2).1;have hlen:len=l.length:=hl _ (by simp) n 0 len rfl _ e2;have hll2:l'.length=l.length:=by
     have:=congrArg List.length hll
     grind
    grind [Q9,List.take_add_one,SB.toB]
  ·cases cs1 with
   |nil=>cases h1
   |cons x s=>
    simp only[Z8,Ed]at h1;obtain⟨g1,g2,g3,g4⟩:=ih n e3 (fun c hc=>hl c (by simp[hc])) s h1.2;have hx:isT x=false:=by
     cases hx:isT x with
     |false=>rfl
     |true=>
      have h2:=Nw (U:=U) x;rw[<-h1.1,Nw,e1,hx]at h2;cases h2
    simp_all[Lq]
theorem Aow{ag:Bool}{a:SA U.D}{cs:List (SV U.D)}(hg:a.isG ag=true)(h:cs.map (SV.toV U)=a.cells.map (SV.toV U)):(Ns U ag cs).toA U=a.toA U:=by
 cases a with
 |c v=>
  cases ag with
  |true=>cases hg
  |false=>
   cases cs with
   |nil=>cases h
   |cons w s=>
    simp only[Z8,SA.cells,De,Ed]at h;show A.c _=A.c _
    grind
 |g l=>
  cases ag with
  |false=>cases hg
  |true=>show A.g _=A.g _;exact congrArg _ h
 |t xs=>cases hg
theorem Aox{X:Type}: ∀(ts:List Nat) (rs:List (Σ t,U.D t)) (m:K5 U ts X) {m':X} {p:List (Σ t,U.D t)->X->Prop},Li U ts p m->Re U ts rs m=some m'->p rs m':=by
 intro ts;induction ts with
 |nil=>
  intro rs m m' p hp h;cases rs with
  |nil=>cases h;exact hp
  |cons z r=>cases h
 |cons t ts ih=>
  intro rs m m' p hp h;cases rs with
  |nil=>cases h
  |cons z r=>
   obtain⟨t',x⟩:=z;unfold Re at h;split at h
   ·rename_i e _;subst e;exact ih r (m x) (p:=fun l=>p (⟨t',x⟩::l)) (hp x) h
   ·cases h
theorem Aoy (hU:Ad U){P:Program}{f:FuncId}{sg:Sig}{α:Type}{K:Option (Af U sg.codes)->Option α}{r:α}{H:List (SB U.D)}: ∀(ps:List PM) (as:List (SA U.D)) (n:Nat) (m:Ev U ps (Option (Af U sg.codes))) (as0:List (SA U.D)) (H0:List (SB U.D)),
  H0.map (SB.toB U)=(H.take n).map (SB.toB U)->Hu U P f sg ps n as0 H0 m->(∀a∈as,∀c∈a.cells,R8 H c)->E5 U ps as H n m K=some r->
  ∃mm,K mm=some r/\ ∀q,mm=some q->Sp P f (as0.map (SA.toA U)++as.map (SA.toA U)) (H.map (SB.toB U)) ((sg.res U q).toA U) ((sg.blks U q).map (SB.toB U)):=by
 intro ps;induction ps with
 |nil=>
  intro as n m as0 H0 hH hs hl h;cases as with
  |cons a r=>cases h
  |nil=>
   unfold E5 at h;split at h
   ·rename_i e;refine⟨m,h,fun q hq=> ?_⟩;have:=hs q hq
    grind [Nat.eq_of_beq_eq_true]
   ·cases h
 |cons p ps ih=>
  intro as n m as0 H0 hH hs hl h;cases p with
  |v t=>
   cases as with
   |nil=>cases h
   |cons a as=>
    unfold E5 at h;split at h
    ·rename_i x hx;obtain⟨mm,g1,g2⟩:=ih as n (m x) (as0++[El U t x]) H0 hH (hs x) (fun b hb=>hl b (by simp[hb])) h
     grind [Agv]
    ·cases h
  |b t md=>
   cases as with
   |nil=>cases h
   |cons a as=>
    by_cases hp: ∃i,a= .c (.ptr i 0 0)
    ·obtain⟨i,rfl⟩:=hp
     replace h:(match Nat.beq i (n+1),H[n]? with
      |true,some (.box 0 cs)=>match U.fO t md cs with
       |some x=>E5 U ps as H (n+1) (m x) K
       |none=>none
      |_,_=>none)=some r:=h
     split at h
     ·rename_i cs e1 e2;split at h
      ·rename_i x e3;have hc:=hU.fO t md cs x e3;have hi:=Z2 e1;subst hi;obtain⟨mm,k1,k2⟩:=ih as (n+1) (m x) _ _ (by
        rw[Er,hH,List.take_add_one,e2,Er];simp only[Z8,De,Option.toList,SB.toB,hc];have:=congrArg List.length hc
        grind) (hs x) (fun b hb=>hl b (by simp[hb])) h
       grind
      ·cases h
     ·cases h
    ·exfalso;cases a with
     |c v=>cases v with
      |ptr i ver j=>cases ver with
       |zero=>cases j with
        |zero=>grind
        |succ k=>cases h
       |succ k=>cases h
      |_=>cases h
     |_=>cases h
  |w t md es=>
   cases as with
   |nil=>cases h
   |cons a as=>
    unfold E5 at h;split at h
    ·rename_i n' cs e1;split at h
     ·rename_i x e2 e3;simp only[Z4]at e3;have hn:=Z2 e3.1;have hc:=hU.fO t md cs x e2;obtain⟨g1,g2,g3,g4⟩:=Aov a.cells n e1 (hl a (by simp)) (U.cO t md x) hc;obtain⟨mm,k1,k2⟩:=ih as n' (m x) _ (H0++(Q9 U n (U.cO t md x)).2) (by grind) (by rw[hn];exact hs x) (fun b hb=>hl b (by simp[hb])) h;refine⟨mm,k1,fun q hq=> ?_⟩;have:=k2 q hq;rw[Er,Z8,De,Aow e3.2 g1,Je]at this;exact this
     ·cases h
    ·cases h
  |r t=>
   cases as with
   |nil=>cases h
   |cons a as=>
    by_cases hp: ∃t' x,a= .c (.ptrB t' x 0)
    ·obtain⟨t',x,rfl⟩:=hp
     replace h:(match decEq t' t with
      | .isTrue e=>E5 U ps as H n (m (e ▸ x)) K
      |_=>none)=some r:=h
     split at h
     ·rename_i e1 _;subst e1;obtain⟨mm,k1,k2⟩:=ih as n (m x) _ _ hH (hs x) (fun b hb=>hl b (by simp[hb])) h
      grind
     ·cases h
    ·exfalso;cases a with
     |c v=>cases v with
      |ptrB t' x j=>cases j with
       |zero=>grind
       |succ j=>cases h
      |_=>cases h
     |_=>cases h
  |f fid caps ts=>
   cases as with
   |nil=>cases h
   |cons a as=>
    by_cases hp: ∃g caps' rs,a= .c (.fn g caps' rs)
    ·obtain⟨g,caps',rs,rfl⟩:=hp;unfold E5 at h;split at h
     ·rename_i m' e1 e2;simp only[Z4,decide_eq_true_eq]at e1;have hi:=Z2 e1.1;subst hi;obtain⟨mm,k1,k2⟩:=ih as n m' _ _ hH (Aox (X:=Ev U ps (Option (Af U sg.codes))) ts rs m hs e2) (fun b hb=>hl b (by simp[hb])) h
      grind
     ·cases h
    ·exfalso;cases a with
     |c v=>cases v with
      |fn g caps' rs=>grind
      |_=>cases h
     |_=>cases h
end
end Go.Eng
