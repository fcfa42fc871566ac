/- The plain law for FnUses; no condition. -/
import Derived.Test.YtcdojenmonmcfaaGreatFFnUsesPb
set_option linter.all false
namespace Go.Proofs.YtcdojenmonmcfaaGreat
open Go.Eng Go.ChangeShapes Go.WideShapes Go.ChangeAt Go.RowKit
theorem A2w{p:Dm}{k:Int}{l:List Int}(h:Azy p k l=true){c:Int}(hc:c∈l):gt p.Vg c=1∧gt p.N6 c=k:=by
 rw[←Bf5,decide_eq_true_eq]at h
 have:c∈Arp p k:=by rw[←h,List.mem_mergeSort];exact hc
 unfold Arp at this;obtain⟨i,hi,rfl⟩:=Ex.1 this
 have:=(List.mem_filter.1 hi).2;rw[Z4,beq_iff_eq,beq_iff_eq]at this;exact this
structure By7 (w:C4)(k:Int):Prop where
 node:Aqg w.fC (gt w.fL k)=true
 own:Azy w.fP k (gt w.fL k).Ay=true
 inch:(gt w.fL k).F4.all (Aq2 w.fC (gt w.fL k).Ay)=true
 apart:Ane (gt w.fL k).F4=true
 loose:Ap3 w.fC w.fP.N5 (gt w.fL k)=true
theorem Axr{w:C4}(h:Ash w=true){k:Int}(hk:0≤k∧k<(w.fL.length:Int)):By7 w k:=by
 unfold Ash at h;simp only[Z4,Z1,List.mem_range]at h
 have:=h.2.2.1 k.toNat (by omega)
 unfold A3o at this;rw[show((k.toNat:Nat):Int)=k by omega]at this
 simp only[Z4]at this;exact⟨this.1,this.2.1,this.2.2.1,this.2.2.2.1,this.2.2.2.2⟩
theorem Bff{w:C4}(h:Ash w=true):A5s w.fC w.fP:=by
 unfold Ash at h;rw[Z4]at h;exact Ail.1 h.1
theorem Bfg{w:C4}(h:Ash w=true){j k:Int}(hj:0≤j∧j<(w.fL.length:Int))(hk:0≤k∧k<(w.fL.length:Int))(hjk:j≠k){a b:Bc}(ha:a∈(gt w.fL j).F4)(hb:b∈(gt w.fL k).F4){x:Int}(h1:a.fAt≤x∧x<a.fAt+a.Ajk)(h2:b.fAt≤x∧x<b.fAt+b.Ajk):False:=by
 have S:=Axr h hj
 have T:=Axr h hk
 have c1:=A2w S.own (A2u (Z1.1 S.inch a ha) h1.1 h1.2)
 have c2:=A2w T.own (A2u (Z1.1 T.inch b hb) h2.1 h2.2);omega
theorem Bqm{c:D9}{n:As}(L:Ats c n)(hw:wfi n.Acv):0≤n.Acv∧n.Acv≤1000:=by
 obtain⟨b1,_⟩:=Gx L.conf
 have:=L.cur;unfold A4t at this
 by_cases h0:n.Acv=0
 ·omega
 rw[Agz h0,cond_false,Z4]at this
 have hm:=Atz L.dist _ (List.contains_iff_mem.1 this.1);unfold An4 at hm;rw[IntKind.wrap_i64]at hm;obtain⟨h1,h2⟩:=hw;omega
theorem Biy{w:C4}(hw:Ak1 w)(hB:Ash w=true){k:Int}(hki:0≤k∧k<(w.fL.length:Int)){t:Bc}(ht:t∈(gt w.fL k).F4){mem':List Int}(hl:mem'.length=w.fP.N5.length)
  (hs: ∀j:Nat,j<w.fP.N5.length-> ¬(t.fAt≤(j:Int)∧(j:Int)<t.fAt+t.Ajk)->gt mem' (j:Int)=gt w.fP.N5 (j:Int)):Ash (A49 w mem')=true:=by
 have P:=Bff hB
 have S:=Axr hB hki;obtain⟨b1,b2,b3,b4,b5,b6⟩:=Gx P.conf
 have hin: ∀j,t.fAt≤j->j<t.fAt+t.Ajk->j / w.fC.G6∈(gt w.fL k).Ay:=fun j h1 h2=>A2u (Z1.1 S.inch t ht) h1 h2
 have hz: ∀a m:Nat,Ao6 ((w.fP.N5.drop a).take m)=true->(∀j:Nat,a≤j->j<a+m-> ¬(t.fAt≤(j:Int)∧(j:Int)<t.fAt+t.Ajk))->Ao6 ((mem'.drop a).take m)=true:=by
  intro a m h hd;rw[A2r]at h ⊢;intro j h1 h2 h3;rw[hl]at h3;rw[hs j h3 (hd j h1 h2)];exact h j h1 h2 h3
 have hch: ∀c,0≤c->gt w.fP.Vg c≠1-> ∀j:Nat,(c*w.fC.G6).toNat≤j->j<(c*w.fC.G6).toNat+w.fC.G6.toNat-> ¬(t.fAt≤(j:Int)∧(j:Int)<t.fAt+t.Ajk):=by
  intro c hc hst j h1 h2 h3
  have h0:0≤c*w.fC.G6:=Int.mul_nonneg hc (by omega)
  have h4:=hin j h3.1 h3.2;rw[A39 (a:=c) (by omega) (by omega) (by omega)]at h4
  exact hst (A2w S.own h4).1
 have hp:Auj w.fC (Dm.mk mem' w.fP.Vg w.fP.N6)=true:=by
  refine Ail.2 ⟨P.conf,by rw[←P.mem];show(mem'.length:Int)=_;rw[hl],P.st,P.own,fun c hc=> ?_⟩
  obtain⟨p1,p2,p3,p4⟩:=P.one c hc;refine⟨p1,p2,p3,fun h=>hz _ _ (p4 h) fun j h1 h2=>hch c hc.1 ?_ j h1 h2⟩
  have h:gt w.fP.Vg c=0:=h;omega
 have hsl: ∀x:Nat,x<w.fL.length->A3o (A49 w mem') x=true:=by
  intro i hi
  have hx:0≤(i:Int)∧(i:Int)<(w.fL.length:Int):=⟨by omega,by omega⟩
  have T:=Axr hB hx
  have h3:=T.loose
  have hlo:Ap3 w.fC mem' (gt w.fL (i:Int))=true:=by
   by_cases hs1:(gt w.fL (i:Int)).Vg=1
   ·have Lx:=Aik.1 ⟨T.node,hs1⟩
    by_cases hcur:(gt w.fL (i:Int)).Acv=0
    ·unfold Ap3;rw[hcur];rfl
    ·obtain⟨m1,m2,m3⟩:=A4m Lx (Bqm Lx (hw.l.1 _ (Ahf hx.1 hx.2)).cur) hcur
     have hm:=Atz Lx.dist _ m1
     have h0:0≤((gt w.fL (i:Int)).Acv - 1)*w.fC.G6:=Int.mul_nonneg hm.1 (by omega)
     unfold Ap3 at h3 ⊢;rw[Agz hcur,Z52,Z4]at h3 ⊢;refine⟨hz _ _ h3.1 fun j h1 h2 h4=> ?_,h3.2⟩
     have h1:(((gt w.fL (i:Int)).Acv - 1)*w.fC.G6+(gt w.fL (i:Int)).Sn).toNat≤j:=h1
     have h2:j<(((gt w.fL (i:Int)).Acv - 1)*w.fC.G6+(gt w.fL (i:Int)).Sn).toNat+(w.fC.G6 - (gt w.fL (i:Int)).Sn).toNat:=h2
     have h5:=hin j h4.1 h4.2;rw[A39 (a:=(gt w.fL (i:Int)).Acv - 1) (by omega) (by omega) (by omega)]at h5
     have e1:=(A2w S.own h5).2
     have e2:=(A2w T.own m1).2
     have exk:(i:Int)=k:=by omega
     rw[exk]at h3 h1 h2;refine A4a (Z1.1 h3.2 t ht) h4.1 h4.2 (b:=Auk w.fC (gt w.fL k)) ?_ ?_
     ·show((gt w.fL k).Acv - 1)*w.fC.G6+(gt w.fL k).Sn≤(j:Int);omega
     ·show(j:Int)<((gt w.fL k).Acv - 1)*w.fC.G6+(gt w.fL k).Sn+(w.fC.G6 - (gt w.fL k).Sn);rw[exk]at m2 m3 h0;omega
   ·rw[Axl T.node hs1];rfl
  unfold A3o;simp only[Z4];exact⟨T.node,T.own,T.inch,T.apart,hlo⟩
 unfold Ash at hB ⊢;simp only[Z4,Z1,List.mem_range]at hB ⊢;obtain⟨_,g2,_,g4,⟨g5,g6⟩,g7⟩:=hB;refine⟨hp,g2,hsl,g4,⟨fun x hx=> ?_,g6⟩,g7⟩
 have h:=g5 x hx;unfold Alu at h ⊢;simp only[Z4]at h ⊢;obtain⟨r1,r2,r3,r4⟩:=h;refine⟨r1,r2,?_,r4⟩
 have R:=Ay0.1 r1
 by_cases hc:0<x.Ay.length
 ·have hm:gt x.Ay 0∈x.Ay:=Ani (i:=0) hc;unfold A1w at r2
  have h1:=Z1.1 r2 _ hm;rw[beq_iff_eq]at h1
  have h0:=Atz R.dist _ hm;unfold Am6 at r3 ⊢;rw[Bool.or_eq_true]at r3 ⊢;rcases r3 with b|b
  ·exact .inl b
  ·refine .inr (hz _ _ b fun j h2 h3=>hch _ h0.1 (by omega) j h2 ?_)
   have hd:=R.done
   have h3:j<(gt x.Ay 0*w.fC.G6).toNat+x.Wv.toNat:=h3;omega
 ·unfold Am6;rw[decide_eq_false (by omega)];rfl
theorem Biz{mem:List Int}{p:Int}{s:List Int}(h0:0≤p)(h1:p+(s.length:Int)≤(mem.length:Int)):((El mem p s).drop p.toNat).take s.length=s:=by
 have e:(mem.take p.toNat).length=p.toNat:=by rw[List.length_take];omega
 unfold El;rw[Z31,List.drop_append_of_le_length (by omega),List.drop_of_length_le (by omega),Z38,List.take_append_of_le_length (by omega),List.take_length]
theorem Boa{m m':List Int}(hl:m'.length=m.length){a n:Nat}(h: ∀j:Nat,a≤j->j<a+n->j<m.length->gt m' (j:Int)=gt m (j:Int)):(m'.drop a).take n=(m.drop a).take n:=by
 refine List.ext_getElem (by simp[hl]) fun i h1 h2=> ?_
 simp only[List.length_take,List.length_drop]at h1 h2
 have:=h (a+i) (by omega) (by omega) (by omega)
 rw[V2 (by omega),V2 (by omega)]at this
 simpa using this
theorem Bfh{m m':List Int}(hl:m'.length=m.length){t:Bc}(ht:Ay9 t)(h: ∀j:Nat,j<m.length->t.fAt≤(j:Int)∧(j:Int)<t.fAt+t.Ajk->gt m' (j:Int)=gt m (j:Int)):Axy m' t 0 t.Ajk=Axy m t 0 t.Ajk:=by
 obtain⟨h1,h2,h3,h4⟩:=ht
 have e:An3 .i64 t.fAt 0=t.fAt:=by unfold An3;rw[Int.add_zero];exact K0 (by omega) (by omega)
 unfold Axy A5k;rw[e,hl,Boa hl fun j j1 j2 j3=>h j j3 ⟨by omega,by omega⟩]
section
variable {K:Nat} (hK:281474976710656≤K)
include hK
theorem A54 (code Ep:Int){b:List Int}(hb:b.length≤140737488355327):Avm K (A0e code Ep b) (A0e code Ep b)=some true:=by
 unfold Avm A0e;simp only[beq_self_eq_true,Bool.and_self,cond_true,Avs hK b hb,Z0]
theorem Bfi{w:C4}(hw:Ak1 w)(hB:Ash w=true){r r':Bq}{k k':Int}{t t':Bc}(h:Abh K w r=some (k,t,0))(h':Abh K w r'=some (k',t',0))(hr:r'≠r){x:Int}(h1:t.fAt≤x∧x<t.fAt+t.Ajk)(h2:t'.fAt≤x∧x<t'.fAt+t'.Ajk):False:=by
 obtain⟨a1,a2,a3,a4,a5,a6⟩:=A52 hK hw.l h;obtain⟨b1,b2,b3,b4,b5,b6⟩:=A52 hK hw.l h'
 by_cases e:k'=k
 ·subst e
  have hn:r'.fNo≠r.fNo:=by
   intro hn;apply hr;obtain⟨⟨s,g⟩,ep,no⟩:=r;obtain⟨⟨s',g'⟩,ep',no'⟩:=r';simp only at a2 a3 a4 b2 b3 b4 hn;rw[a2,a3,a4,b2,b3,b4,hn]
  have S:=(Axr hB a1).apart;rw[A5x,List.pairwise_iff_getElem]at S
  have g1:t=(gt w.fL k').F4[r.fNo.toNat]'(by omega):=by rw[a6,←V2 (by omega),show((r.fNo.toNat:Nat):Int)=r.fNo by omega]
  have g2:t'=(gt w.fL k').F4[r'.fNo.toNat]'(by omega):=by rw[b6,←V2 (by omega),show((r'.fNo.toNat:Nat):Int)=r'.fNo by omega]
  rcases Hl r.fNo.toNat r'.fNo.toNat with q|q
  ·have:=S _ _ (by omega) (by omega) q
   rw[←g1,←g2]at this;exact A4a this h1.1 h1.2 h2.1 h2.2
  ·have:=S r'.fNo.toNat r.fNo.toNat (by omega) (by omega) (by omega)
   rw[←g1,←g2]at this;exact A4a this h2.1 h2.2 h1.1 h1.2
 ·exact Bfg hB b1 a1 e (by rw[b6];exact Ahf b5.1 b5.2) (by rw[a6];exact Ahf a5.1 a5.2) h2 h1
end
theorem B1k (a b:Bq):(((a.fH.Bk==b.fH.Bk)&&((a.fH.C8==b.fH.C8)&&true))&&((a.Sj==b.Sj)&&((a.fNo==b.fNo)&&true)))=false->a≠b:=by
 rintro h rfl;simp at h
theorem Bdf (a:List Int)(u:Baa a): ∃K,Azw K a=some true:=by
 have hm:=V1;refine⟨562949953421312,?_⟩
 have hK:281474976710656≤562949953421312:=by decide
 unfold Azw A4r;rw[Z0]
 by_cases hbig:(a.length:Int)>1048576
 ·rw[decide_eq_true hbig,cond_true]
 rw[decide_eq_false hbig,cond_false]
 have ha:a.length≤1048576:=by omega
 have hb:Axp a:=(Bh6 u).1;obtain⟨v,r,off,s,e1,A,hs,hsl⟩:=Bbm hK hb ha;obtain⟨u1,q,i,n,e2,A1⟩:=Bde hK hb ha
 have V:=A.ww;obtain⟨x,code,Ep,w1,w2,X,hx⟩:=Bfe hK v V r off s ⟨hs,by omega⟩
 obtain⟨c1,k1,b1,r1,r2,l1⟩:=A9i hK u1 A1.ww q i n;obtain⟨b2,r3,r4,l2⟩:=Bas hK u1 A1.ww q
 have m1:=A1.ww.p.mem.2;rw[e1,Z0];dsimp only;rw[w2,Z0,w1,Z0,e2,Z0];dsimp only;rw[r2,Z0,r1,Z0,A1r hK X,Z0,cond_true,A54 hK _ _ (by simp),Z0,cond_true,A54 hK _ _ (by omega),Z0,cond_true,A1r hK A1.ww,Z0,cond_true,r4,Z0,r3,Z0,Avs hK b2 (by omega),Z0,Bool.not_true,cond_false]
 rcases hx with ⟨h0,rfl⟩|⟨rfl,hB,k,t,hf,hwo,rfl⟩
 ·rw[show((A0e code Ep []).Wz != 0)=true from bne_iff_ne.2 h0,cond_true,A1r hK X];rfl
 rw[show((A0e 0 Ep []).Wz != 0)=false from rfl,cond_false]
 have hwd:=of_decide_eq_true hwo;obtain⟨f1,f2,f3,f4,f5,f6⟩:=A52 hK V.l hf
 have ht:t∈(gt v.fL k).F4:=by rw[f6];exact Ahf f5.1 f5.2
 have wt:=(V.l.1 _ (Ahf f1.1 f1.2)).things.1 _ ht
 have S:=Axr hB f1
 have small: ∀ {k:Int} {t:Bc},(0≤k∧k<(v.fL.length:Int))->t∈(gt v.fL k).F4->Ay9 t:=by
  intro k t hk ht
  have:=Z1.1 (Axr hB hk).inch t ht;unfold Aq2 at this;rw[Z4]at this;exact(A1e this.1).1
 obtain⟨s1,s2,s3,s4⟩:=small f1 ht
 have ep:An3 .i64 t.fAt off=t.fAt+off:=by unfold An3;exact K0 (by omega) (by omega)
 rw[ep]at hwd X ⊢
 have hlen:=Ez hwd.2.1 hwd.2.2
 have hout: ∀j:Nat,j<v.fP.N5.length-> ¬(t.fAt≤(j:Int)∧(j:Int)<t.fAt+t.Ajk)->gt (El v.fP.N5 (t.fAt+off) s) (j:Int)=gt v.fP.N5 (j:Int):=fun j hj hn=>Bgr hwd.2.1 hwd.2.2 hj (fun h=>hn ⟨by omega,by omega⟩)
 have hB2:=Biy V hB f1 ht hlen hout;generalize hmm:El v.fP.N5 (t.fAt+off) s=mem' at X hlen hout hB2 ⊢
 have hf2:Abh 562949953421312 (A49 v mem') r=some (k,t,0):=hf
 have hrl:Axy (A49 v mem').fP.N5 t off (s.length:Int)=(s,true):=by
  unfold Axy A5k;rw[if_pos hwd.1,ep,show(A49 v mem').fP.N5=mem' from rfl,if_pos ⟨hwd.2.1,by omega,by rw[hlen];exact hwd.2.2⟩,←hmm,show((s.length:Int)).toNat=s.length by omega,Biz hwd.2.1 hwd.2.2]
 rw[Bgv hK X hB2 hf2 wt,hrl,Z0]
 rw[show((A0e (bif (s,true).2 then 0 else 7) (A0d (A49 v mem') r.fH) (s,true).1).Wz != 0)=false from rfl,cond_false,show(A0e (bif (s,true).2 then 0 else 7) (A0d (A49 v mem') r.fH) (s,true).1).fB=s from rfl,Avs hK s (by omega),Z0,cond_true,show(A49 v mem').fL=v.fL from rfl,A4c hK V.l,Z0,Bool.not_true,cond_false]
 have hl:=A.l;rw[Bbg hK V (by omega),Z0]
 have step: ∀r':Bq,r'≠r-> ∃b,Akq 562949953421312 (A49 v mem') r'=some b∧Akq 562949953421312 v r'=some b∧b.length≤140737488355327:=by
  intro r' hr;obtain⟨t3,_,g2,g3⟩:=Ayx hK V.l r';obtain⟨k',t',c'⟩:=t3
  have g4:Abh 562949953421312 (A49 v mem') r'=some (k',t',c'):=g2
  have hvm:=V.p.mem.2;refine⟨_,A8r hK X hB2 g4 g3,?_,?_⟩
  ·rw[A8r hK V hB g2 g3]
   by_cases hc:c'=0
   ·subst hc;rw[if_pos rfl,if_pos rfl];obtain⟨d1,d2,d3,d4,d5,d6⟩:=A52 hK V.l g2
    have ht':t'∈(gt v.fL k').F4:=by rw[d6];exact Ahf d5.1 d5.2
    rw[←Bfh (m:=v.fP.N5) (m':=mem') hlen (small d1 ht') fun j hj hj2=>hout j hj fun hj3=>Bfi hK V hB hf g2 hr hj3 hj2];rfl
   ·rw[if_neg hc,if_neg hc]
  ·split
   ·have:=A6b (mem:=(A49 v mem').fP.N5) (t:=t') (at_:=0) (n:=t'.Ajk)
    have h5:(A49 v mem').fP.N5.length=v.fP.N5.length:=hlen;omega
   ·simp
 have inner: ∀(v20:Int) (l:List Bq) (C:Int->Int->Int->Int->Int->Int->Int->List Int->List Int->List Int->List As->List Az->List Int->Bq->Int->Int->Int->Int->Int->Int->List Int->List Int->List Int->List As->List Az->List Int->Option Bool),l.length≤1000→
   C (An3 .i64 v20 1) v.fC.Ay v.fC.G6 v.fC.E5 v.fC.Gs v.fC.E6 v.fC.G7 mem' v.fP.Vg v.fP.N6 v.fL v.fQ v.Acw r v.fC.Ay v.fC.G6 v.fC.E5 v.fC.Gs v.fC.E6 v.fC.G7 v.fP.N5 v.fP.Vg v.fP.N6 v.fL v.fQ v.Acw=some true→
   ∀(f i:Nat),i≤l.length->l.length - i<f->Ary 562949953421312 v20 v.fC.Ay v.fC.G6 v.fC.E5 v.fC.Gs v.fC.E6 v.fC.G7 mem' v.fP.Vg v.fP.N6 v.fL v.fQ v.Acw r v.fC.Ay v.fC.G6 v.fC.E5 v.fC.Gs v.fC.E6 v.fC.G7 v.fP.N5 v.fP.Vg v.fP.N6 v.fL v.fQ v.Acw l C f (i:Int)=some true:=by
  intro v20 l C hl hC f
  induction f with
  |zero=>intro i _ h;omega
  |succ f ih=>
   intro i hi hf;rw[Ary];rcases Hl i l.length with q|q
   ·rw[Ad4 q,cond_true,if_pos (Ahl q)]
    have nx:=ih (i+1) q (by omega)
    cases hq:(((gt l (i:Int)).fH.Bk==r.fH.Bk)&&(((gt l (i:Int)).fH.C8==r.fH.C8)&&true))&&(((gt l (i:Int)).Sj==r.Sj)&&(((gt l (i:Int)).fNo==r.fNo)&&true))with
    |true=>
     rw[Bool.not_true,cond_false];unfold Aui;rw[Acx (by omega)]
     exact nx
    |false=>
     obtain⟨b,y1,y2,y3⟩:=step _ (B1k _ _ hq);rw[Bool.not_false,cond_true,if_pos (Ahl q)]
     have y1':Akq 562949953421312 (C4.mk (D9.mk v.fC.Ay v.fC.G6 v.fC.E5 v.fC.Gs v.fC.E6 v.fC.G7) (Dm.mk mem' v.fP.Vg v.fP.N6) v.fL v.fQ v.Acw) (Bq.mk (gt l (i:Int)).fH (gt l (i:Int)).Sj (gt l (i:Int)).fNo)=some b:=y1
     have y2':Akq 562949953421312 (C4.mk (D9.mk v.fC.Ay v.fC.G6 v.fC.E5 v.fC.Gs v.fC.E6 v.fC.G7) (Dm.mk v.fP.N5 v.fP.Vg v.fP.N6) v.fL v.fQ v.Acw) (Bq.mk (gt l (i:Int)).fH (gt l (i:Int)).Sj (gt l (i:Int)).fNo)=some b:=y2;rw[y1',Z0,if_pos (Ahl q),y2',Z0,Avs hK b y3,Z0,Bool.not_true,cond_false]
     unfold Aui;rw[Acx (by omega)]
     exact nx
   ·rw[Ad5 q,cond_false];exact hC
 have hR:(Axq v).length≤1000:=by
  have:(Axq v).length≤v.fL.length:=A8p v.fL v.fL.length;omega
 have outer: ∀(f i:Nat),i≤(Axq v).length->(Axq v).length - i<f->Arz 562949953421312 (Axq v) f (i:Int) v.fC.Ay v.fC.G6 v.fC.E5 v.fC.Gs v.fC.E6 v.fC.G7 mem' v.fP.Vg v.fP.N6 v.fL v.fQ v.Acw r v.fC.Ay v.fC.G6 v.fC.E5 v.fC.Gs v.fC.E6 v.fC.G7 v.fP.N5 v.fP.Vg v.fP.N6 v.fL v.fQ v.Acw=some true:=by
  intro f
  induction f with
  |zero=>intro i _ h;omega
  |succ f ih=>
   intro i hi hf;rw[Arz];rcases Hl i (Axq v).length with q|q
   ·have hk:=(Bis.1 (Ani q)).1;obtain⟨l,z1,z2⟩:=Bbk hK A (Am.mk (gt (Axq v) (i:Int)) (gt v.fL (gt (Axq v) (i:Int))).C8);rw[Ad4 q,cond_true,if_pos (Ahl q),A87 (by omega) hk,Z0]
    have z1':Auh 562949953421312 (C4.mk (D9.mk v.fC.Ay v.fC.G6 v.fC.E5 v.fC.Gs v.fC.E6 v.fC.G7) (Dm.mk v.fP.N5 v.fP.Vg v.fP.N6) v.fL v.fQ v.Acw) (Am.mk (gt (Axq v) (i:Int)) (gt v.fL (gt (Axq v) (i:Int))).C8)=some l:=z1;rw[z1',Z0]
    have:=inner (i:Int) l (Arz 562949953421312 (Axq v) f) z2 (by rw[Acx (by omega)];exact ih (i+1) q (by omega)) 562949953421312 0 (Z21 _) (by omega)
    exact this
   ·rw[Ad5 q,cond_false]
 exact outer 562949953421312 0 (Z21 _) (by omega)
end Go.Proofs.YtcdojenmonmcfaaGreat
