/- The plain law for FnWorlds; no condition. -/
import Derived.Test.YtgcnddnmhllahaaGreatFFnWorldsPa
set_option linter.all false
namespace Go.Proofs.YtgcnddnmhllahaaGreat
open Go.Eng Go.ChangeShapes Go.WideShapes Go.ChangeAt Go.RowKit
def A8o (n:Ax)(gens:Int):Ax:=if gens≤n.C5 then Ate 3 n.C5 else Ate 0 (n.C5+1)
def A2c (w:Bm)(x:A7):List Ax:=if x.A9=0 then w.fL else w.fL.set (x.A9 - 1).toNat (A8o (gt w.fL (x.A9 - 1)) w.fC.Dt)
def A5p (w:Bm)(x:A7)(qs:List A7):Bm:=Bm.mk w.fC w.fP (A2c w x) qs w.Jc
theorem Bdn (w:Bm)(x:A7):(A2c w x).length=w.fL.length:=by grind [A2c]
structure Bsv (w:Bm)(x:A7)(qs:List A7):Prop where
 rc:Bp3 w.fC x
 k:x.A9≠0->0≤x.A9 - 1∧x.A9 - 1<(w.fL.length:Int)
 st:x.A9≠0->(gt w.fL (x.A9 - 1)).Gt=2
 gn:x.A9≠0->1≤(gt w.fL (x.A9 - 1)).C5∧(gt w.fL (x.A9 - 1)).C5≤w.fC.Dt
 no:x.A9≠0->x.A9 - 1 ∉ slL qs
theorem Bjc{w:Bm}(I:Inv w){x:A7}{qs:List A7}(hq:w.fQ=x::qs):Bsv w x qs:=by
 have R:=A0x.1 (A24 I hq).1;obtain⟨b1,b2,b3,b4,b5,b6⟩:=A1 I.conf
 have hx:x∈w.fQ:=by grind
 have hs:=R.slot
 have h1:x.A9≠0->(0≤x.A9 - 1∧x.A9 - 1<(w.fL.length:Int))∧(gt w.fL (x.A9 - 1)).Gt=2:=fun h=>by
  have:=Bi6 hx h;rw[sb1 (by omega) (by omega)]at this
  exact(I.sli _).1 this
 refine⟨R,fun h=>(h1 h).1,fun h=>(h1 h).2,fun h=>(A23 (I.node _ (h1 h).1)).2.2,fun h=> ?_⟩
 have:=I.sln;rw[hq]at this
 have this:((if x.A9=0 then []else [Ark .i64 x.A9 1])++slL qs).Nodup:=this
 rw[if_neg h,sb1 (by omega) (by omega)]at this
 grind
theorem Byl{w:Bm}{x:A7}{qs:List A7}(X:Bsv w x qs){y:Int}(hy:0≤y∧y<(w.fL.length:Int)):gt (A2c w x) y=if x.A9≠0∧y=x.A9 - 1 then A8o (gt w.fL y) w.fC.Dt else gt w.fL y:=by
 unfold A2c
 by_cases h:x.A9=0
 ·grind
 ·rw[if_neg h,Atp (X.k h) hy]
  grind
theorem Bhl{n:Ax}{gens:Int}(h:1≤n.C5∧n.C5≤gens): ∃st g,A8o n gens=Ate st g∧(st=0∨st=3)∧1≤g∧g≤gens:=by
 unfold A8o;split
 all_goals grind
theorem A19{w:Bm}{x:A7}{qs:List A7}(X:Bsv w x qs){y:Int}(hy:0≤y∧y<(w.fL.length:Int)):(gt (A2c w x) y=gt w.fL y∧ ¬(x.A9≠0∧y=x.A9 - 1))∨((x.A9≠0∧y=x.A9 - 1)∧(gt w.fL y).Gt=2∧ ∃st g,gt (A2c w x) y=Ate st g∧(st=0∨st=3)∧1≤g∧g≤w.fC.Dt):=by
 rw[Byl X hy]
 by_cases h:x.A9≠0∧y=x.A9 - 1
 ·rw[if_pos h];refine .inr ⟨h,by rw[h.2];exact X.st h.1,?_⟩
  exact Bhl (by rw[h.2];exact X.gn h.1)
 grind
theorem Bap{w:Bm}(I:Inv w){t:Int->Lk}(A:AtT w.fL t)(F:Ajm w.fL.length t (A1c w.fQ)){x:A7}{qs:List A7}(hq:w.fQ=x::qs)(hf:x.Bw=0):
  ∃t',AtT (A2c w x) t'∧Ajm w.fL.length t' (A1c qs)∧(∀k,Al w.fL.length t k->Al w.fL.length t' k∧(t' k).up=(t k).up):=by
 have X:=Bjc I hq
 have F1:Ajm w.fL.length t ((x.A9,0)::A1c qs):=by rw[hq]at F;rw[←hf];exact F
 by_cases h:x.A9=0
 ·refine⟨t,?_,Baj F1,fun k hk=>⟨hk,rfl⟩⟩
  simp_all[A2c]
 ·have hk:=X.k h
  have hlv:(t (x.A9 - 1)).lv=false:=by rw[A _ hk];show((gt w.fL (x.A9 - 1)).Gt==1)=false;rw[X.st h];rfl
  refine⟨clr t (x.A9 - 1),fun y hy=> ?_,Bdc F1 h fun e he e2=> ?_,fun k hk=>⟨Byk hlv hk,by rw[Aoa hlv hk.lv]⟩⟩
  ·rw[Bdn]at hy;unfold clr;rcases A19 X hy with ⟨e,f⟩|⟨f,_,st,g,e,hs,_⟩
   ·rw[if_neg (fun r=>f ⟨h,r⟩),e,A y hy]
   ·rw[if_pos f.2,e];rcases hs with s|s<;>subst s<;>rfl
  ·obtain⟨z,hz,e3⟩:=F9.1 he
   have e3:z.A9=e.1:=by grind
   refine X.no h (List.mem_flatMap.2 ⟨z,hz,?_⟩)
   have hs:=X.rc.slot;obtain⟨b1,b2,b3,b4,b5,b6⟩:=A1 I.conf;rw[e3,e2,if_neg h,sb1 (by omega) (by omega)];simp
theorem Bsw{w:Bm}(I:Inv w){x:A7}{qs:List A7}(hq:w.fQ=x::qs)(hc:x.Ad=[])(hf:x.Bw=0):Inv (A5p w x qs):=by
 obtain⟨t,A,F⟩:=I.forest
 have X:=Bjc I hq;obtain⟨t',A',F',_⟩:=Bap I A F hq hf
 have hN:=Bdn w x
 have hch:chL w.fQ=chL qs:=by rw[hq];show x.Ad++_=_;rw[hc];rfl
 have hsl:slL w.fQ=(if x.A9=0 then []else [Ark .i64 x.A9 1])++slL qs:=by rw[hq];rfl
 have hsn:=I.sln;rw[hsl]at hsn
 refine⟨I.pool,by show((A2c w x).length:Int)=_;rw[hN];exact I.len,fun y hy=> ?_,fun y hy c=> ?_,fun y hy=> ?_,⟨t',A',by show Ajm ((A2c w x).length:Int) t' _;rw[hN];exact F'⟩,fun y hy=>I.wrec y (by rw[hq];exact Z56 _ hy),by show(chL qs).Nodup;grind [Inv.chn],fun c=>by show c∈chL qs ↔ _;rw[←hch];exact I.chi c,?_,fun s=> ?_,I.log⟩
 ·have hy:0≤y∧y<((A2c w x).length:Int):=hy;rw[hN]at hy
  show Aua w.fC (gt (A2c w x) y)=true
  grind [A19,Inv.node,A6v,Inv.conf]
 ·have hy:0≤y∧y<((A2c w x).length:Int):=hy;rw[hN]at hy
  show c∈(gt (A2c w x) y).Ad ↔ _;rcases A19 X hy with ⟨e,_⟩|⟨_,h2,st,g,e,hs,hg⟩
  ·rw[e];exact I.own y hy c
  ·rw[e]
   have:=I.own y hy c;rw[A18 (I.node y hy) (by omega)]at this
   exact this
 ·have hy:0≤y∧y<((A2c w x).length:Int):=hy;rw[hN]at hy
  show(gt (A2c w x) y).D3.all (Au6 w.fC (gt (A2c w x) y).Ad)=true∧Asw (gt (A2c w x) y).D3=true∧Au8 w.fC w.fP.Fi (gt (A2c w x) y)=true;rcases A19 X hy with ⟨e,_⟩|⟨_,h2,st,g,e,hs,hg⟩
  ·grind [Inv.thing]
  ·rw[e];exact⟨rfl,rfl,rfl⟩
 ·exact(Apb.1 hsn).2.1
 ·show s∈slL qs ↔ (0≤s∧s<((A2c w x).length:Int))∧(gt (A2c w x) s).Gt=2
  have hi:=I.sli s;rw[hsl,Nj]at hi
  have hss:=X.rc.slot;obtain⟨b1,b2,b3,b4,b5,b6⟩:=A1 I.conf;rw[hN];constructor
  ·intro h;obtain⟨a,b⟩:=hi.1 (.inr h);refine⟨a,?_⟩;rcases A19 X a with ⟨e,_⟩|⟨⟨h1,h2⟩,_⟩
   ·grind
   ·rw[h2]at h;grind [Bsv.no]
  ·rintro⟨a,b⟩;rcases A19 X a with ⟨e,f⟩|⟨_,_,st,g,e,hs,_⟩
   ·rw[e]at b;rcases hi.2 ⟨a,b⟩with h|h
    ·by_cases q:x.A9=0
     ·grind
     ·rw[if_neg q,sb1 (by omega) (by omega),Sj]at h
      omega
    ·exact h
   ·rw[e]at b
    have b:st=2:=b;omega
theorem Bqf{w:Bm}{E:Int}{n:Nat}(G:Er w E n)(hE:0≤E){x:A7}{qs:List A7}(hq:w.fQ=x::qs)(hc:x.Ad=[])(hf:x.Bw=0):Bhk w (A5p w x qs) E:=by
 obtain⟨t,A,F⟩:=G.inv.forest
 have X:=Bjc G.inv hq;obtain⟨t',A',F',hal⟩:=Bap G.inv A F hq hf
 have I':=Bsw G.inv hq hc hf
 have hN:=Bdn w x
 have hs:((A2c w x).map (wtN w.fC)).sum=(w.fL.map (wtN w.fC)).sum:=Bqc _ _ _ hN fun y hy=>by
  rcases A19 X (y:=(y:Int)) ⟨by omega,by omega⟩with ⟨e,_⟩|⟨_,h2,st,g,e,hs,hg⟩
  ·rw[e]
  ·rw[e,A6g _ (by omega)];simp_all[wtN]
 have ep:pot (A5p w x qs)<pot w:=by
  have h1:1≤wtQ w.fC x:=by grind [wtQ]
  unfold pot;rw[hq]
  show((A2c w x).map (wtN w.fC)).sum+(qs.map (wtQ w.fC)).sum<_
  grind
 refine⟨I',G.mem,fun y hy=> ?_,ep,?_,?_⟩
 ·have hy:0≤y∧y<((A2c w x).length:Int):=hy;rw[hN]at hy
  show EpP E (gt (A2c w x) y);rcases A19 X hy with ⟨e,_⟩|⟨_,h2,st,g,e,hs,hg⟩
  ·grind [Er.ep]
  ·rw[e];exact⟨hE,hE,⟨Int.le_refl 0,by show(0:Int)≤1000;omega⟩⟩
 ·unfold wt
  show pot (A5p w x qs)+w.Jc.length≤_;omega
 ·refine Bfi G.inv.rg I'.rg A A' F rfl hN fun y hy=> ?_;refine⟨(hal y hy).1,(hal y hy).2,?_⟩;rcases A19 X hy.lv.1 with ⟨e,_⟩|⟨_,h2,_⟩
  ·exact⟨_,_,_,e⟩
  ·have:=((A00 A).1 hy.lv).2;omega
section
variable {K:Nat} (hK:281474976710656≤K)
include hK
theorem Bfj (w:Bm)(hw:A34 w.fP)(l:List Int)(hl:l.length≤140737488355327):Aul K w l=some (Bm.mk w.fC (Als w.fP l) w.fL w.fQ w.Jc):=by
 unfold Aul;refine Bi2 hK l (by omega) A5i w.fP A34 hw (fun s x h=>(Bi1 h x).1) _ (fun n s i=>Akg K l n i w.fC.Ad w.fC.Ds w.fC.B9 w.fC.Eu w.fC.Ca w.fC.Dt s.Fi s.Gt s.Fj w.fL w.fQ w.Jc) (fun n s i h hs=> ?_) (fun n=> ?_)
 ·simp only[Akg];rw[Wy h,cond_true,if_pos (Agy h),V2 h,show Ed.mk s.Fi s.Gt s.Fj=s from rfl,Bad K hs,Z0,Wx (by omega)]
 ·show Akg K l (n+1) _ _ _ _ _ _ _ _ _ _ _ _ _=_;rw[Akg,Aqt (Z9 _),cond_false];rfl
theorem Bsx{w:Bm}(I:Inv w)(hw:Alq w)(hQ:w.fQ.length≤1000000000){x:A7}{qs:List A7}(hq:w.fQ=x::qs)(hf:x.Bw≠0):Awe K w=some (Az5 w x qs):=by
 have hm:=P2;obtain⟨t,A,F⟩:=I.forest
 have X:=Bdm I A F hq hf
 have hk:=X.lv.1
 have hF:=X.rc.first
 have L:=I.live A X.lv;obtain⟨b1,b2,b3,b4,b5,b6⟩:=A1 I.conf
 have hlen:=I.len
 have hn:=hw.l.1 _ (Apa hk.1 hk.2)
 have e1:Ark .i64 x.Bw 1=x.Bw - 1:=sb1 (by omega) (by omega)
 have e2:Arj .i64 (x.Bw - 1) 1=x.Bw:=by grind [ad1]
 have hnx:=L.next
 have hlq:(w.fQ).length=qs.length+1:=by grind
 have hj: ∀(l:List Ax) (q:List A7),l.length=w.fL.length->q.length=w.fQ.length->As7 K (gt w.fL (x.Bw - 1)) (x.Bw - 1) w.fC.Ad w.fC.Ds w.fC.B9 w.fC.Eu w.fC.Ca w.fC.Dt w.fP.Fi w.fP.Gt w.fP.Fj l q w.Jc=some (Bm.mk w.fC (Als w.fP (gt w.fL (x.Bw - 1)).Ad) (l.set (x.Bw - 1).toNat (Ate 2 (gt w.fL (x.Bw - 1)).C5)) (Ajv (gt w.fL (x.Bw - 1)) x.Bw::q) w.Jc):=by
  intro l q hl1 hq1
  have h8:=hn.tags.2
  have h9:=hn.chunks.2;unfold As7;rw[Bfj hK (Bm.mk w.fC w.fP l q w.Jc) hw.p _ (Aw4 hK hn.chunks),Z0];unfold A04 A0b;simp only[Z0,Z38,List.singleton_append,Z28];simp only[hl1,if_pos hk,e2,Z0]
  iterate 4 (try rw[if_pos ⟨by omega,by omega⟩])
  try simp only[Z0]
  iterate 4 (try rw[if_pos ⟨by omega,by omega⟩])
  rfl
 unfold Awe;rw[hq,gt0,if_pos ⟨by omega,by simp⟩,e1]
 simp only[if_pos hk];rw[Avv K hn,Z0,if_pos ⟨by omega,by simp⟩,Ayz,Z0]
 unfold Az5 A4s
 have hp:plB w.fL (gt w.fL (x.Bw - 1)).Gv=decide (1≤(gt w.fL (x.Bw - 1)).Gv∧(gt w.fL (x.Bw - 1)).Gv≤(w.fL.length:Int)):=by
  rw[Bool.eq_iff_iff,A6u (by omega) (by omega),decide_eq_true_iff]
  omega
 rw[hp]
 by_cases q:1≤(gt w.fL (x.Bw - 1)).Gv∧(gt w.fL (x.Bw - 1)).Gv≤(w.fL.length:Int)
 ·rw[decide_eq_true q];simp only[cond_true];rw[sb1 (by omega) (by omega),if_pos ⟨by omega,by omega⟩]
  unfold Aty;exact hj _ _ (by grind) (by grind)
 ·rw[decide_eq_false q];simp only[cond_false];exact hj _ _ rfl (by grind)
theorem Bfk{l:List Ax}(hl:Adn l){k gens:Int}(hk:0≤k∧k<(l.length:Int))(hg:0≤(gt l k).C5∧(gt l k).C5≤1000):A3f K l k gens=some (l.set k.toNat (A8o (gt l k) gens)):=by
 unfold A3f Amo A1i A8o;rw[A5h hK hl,Z0,A41 K (Ahp hl),decide_eq_true hk];simp only[Z0,Bool.not_true,cond_false,if_pos hk];rw[ad1 (by omega) (by omega)]
 by_cases q:gens≤(gt l k).C5
 ·rw[decide_eq_true (show(gt l k).C5≥gens from q),if_pos q];rfl
 ·rw[decide_eq_false (show ¬(gt l k).C5≥gens from q),if_neg q];rfl
theorem Bjd{w:Bm}{E:Int}{n:Nat}(G:Er w E n)(hE:0≤E∧E≤1000000000)(hn:n≤1000000000)(h0:0<w.fQ.length): ∃w',Atk K w=some w'∧Bhk w w' E:=by
 have hm:=P2
 have W:=G.ww hE.2 hn
 have h1:=Bpz w
 have h2:=Bhi w
 have h3:=G.wt;cases hq:w.fQ with
 |nil=>grind
 |cons x qs=>
 have R:=A0x.1 (A24 G.inv hq).1
 have hlq:(w.fQ).length=qs.length+1:=by grind
 unfold Atk A2n;rw[hq,gt0,if_pos ⟨by omega,by simp⟩]
 by_cases c1:0<x.De.length
 ·refine⟨_,?_,Bqd G hq c1⟩;rw[decide_eq_true (show(x.De.length:Int)>0 by omega)]
  simp only[cond_true,Z0,beq_self_eq_true]
  grind [Byi,Bp3.ntag]
 ·rw[decide_eq_false (show ¬(x.De.length:Int)>0 by omega)]
  by_cases c2:0<x.Ad.length
  ·refine⟨_,?_,Bla G hq c2⟩;rw[decide_eq_true (show(x.Ad.length:Int)>0 by omega)]
   simp only[cond_true,cond_false,Z0];rw[show((2:Int)==1)=false from rfl,show((2:Int)==2)=true from rfl]
   simp only[cond_true,cond_false];rw[Bss hK G.inv W.p hq c2];rfl
  ·rw[decide_eq_false (show ¬(x.Ad.length:Int)>0 by omega)]
   have hc:x.Ad=[]:=Z24.1 (by omega)
   by_cases c3:x.Bw=0
   ·refine⟨_,?_,Bqf G hE.1 hq hc c3⟩
    have X:=Bjc G.inv hq
    have hs:=R.slot;obtain⟨b1,b2,b3,b4,b5,b6⟩:=A1 G.inv.conf
    have et:((x::qs).drop (1:Int).toNat).take (((x::qs).length:Int) - 1).toNat=qs:=by
     simp_all
    rw[c3];simp only[bne_self_eq_false,cond_false,Z0];rw[show((4:Int)==1)=false from rfl,show((4:Int)==2)=false from rfl,show((4:Int)==3)=false from rfl]
    simp only[cond_false]
    have hl1:(((x::qs).length:Nat):Int)=(qs.length:Int)+1:=by simp
    have hj: ∀l:List Ax,As8 K w.fC.Ad w.fC.Ds w.fC.B9 w.fC.Eu w.fC.Ca w.fC.Dt w.fP.Fi w.fP.Gt w.fP.Fj l (x::qs) w.Jc=some (Bm.mk w.fC w.fP l qs w.Jc):=by
     intro l;unfold As8;rw[et,Z38,hl1,if_pos (show(0:Int)≤1∧(1:Int)≤(qs.length:Int)+1∧(qs.length:Int)+1≤(qs.length:Int)+1 from⟨by omega,by omega,by omega⟩),if_pos (show qs.length*72≤140737488355328∧qs.length≤maxLen from⟨by omega,by omega⟩)]
    rw[if_pos ⟨by omega,by simp⟩]
    unfold A5p A2c
    by_cases q:x.A9=0
    ·grind
    ·have hgn:=X.gn q;rw[A2d q,if_neg q,cond_true,if_pos ⟨by omega,by simp⟩,sb1 (by omega) (by omega),Bfk hK W.l (X.k q) ⟨by omega,by omega⟩,Z0]
     exact hj _
   ·refine⟨_,?_,Blb G hE.1 hq c3⟩;rw[A2d c3];simp only[cond_true,cond_false,Z0];rw[show((3:Int)==1)=false from rfl,show((3:Int)==2)=false from rfl,show((3:Int)==3)=true from rfl]
    simp only[cond_true,cond_false];rw[Bsx hK G.inv W (by omega) hq c3];rfl
structure Steps (w w':Bm)(E:Int)(n:Nat):Prop where
 good:Er w' E n
 stay:A62 w w'
theorem Blc{E:Int}{n:Nat}(hE:0≤E∧E≤1000000000)(hn:n≤1000000000)(m:Int): ∀(f:Nat) (i:Int) (w:Bm),Er w E n->pot w<f-> ∃r w',Awh K m f i w.fC.Ad w.fC.Ds w.fC.B9 w.fC.Eu w.fC.Ca w.fC.Dt w.fP.Fi w.fP.Gt w.fP.Fj w.fL w.fQ w.Jc=some (r,w')∧Steps w w' E n:=by
 intro f
 induction f with
 |zero=>omega
 |succ f ih=>
  intro i w G hf;rw[Awh];cases decide (i<m)with
  |false=>exact⟨m,w,rfl,G,A62.refl w⟩
  |true=>
  simp only[cond_true]
  by_cases q:w.fQ.length=0
  ·rw[q];exact⟨i,w,rfl,G,A62.refl w⟩
  ·obtain⟨w1,e1,S⟩:=Bjd hK G hE hn (by omega)
   have hp:=S.pot;obtain⟨r,w2,e2,S2⟩:=ih (Arj .i64 i 1) w1 (S.good G) (by omega)
   refine⟨r,w2,?_,S2.good,S.stay.trans S2.stay⟩
   simp_all[As5]
theorem A9q{E:Int}{n:Nat}(hE:0≤E∧E≤1000000000)(hn:n≤1000000000)(m:Int){w:Bm}(G:Er w E n): ∃r w',Ayo K w m=some (r,w')∧Steps w w' E n:=by
 have:=G.wt;unfold wt at this;exact Blc hK hE hn m K 0 w G (by omega)
def A4t (p:Ed)(at_ n:Int):Bool:=decide (0≤at_)&&(decide (1≤n)&&(decide (at_+n≤(p.Gt.length:Int))&&(List.range n.toNat).all (fun k=>gt p.Gt (at_+(k:Int))==0)))
omit hK in
theorem A09{p:Ed}{a n:Int}:A4t p a n=true ↔ 0≤a∧1≤n∧a+n≤(p.Gt.length:Int)∧ ∀c,a≤c∧c<a+n->gt p.Gt c=0:=by
 unfold A4t;simp only[Z4,decide_eq_true_eq,Z1,List.mem_range,beq_iff_eq];refine and_congr_right fun h1=>and_congr_right fun h2=>and_congr_right fun h3=> ?_;constructor
 ·intro h c hc
  have:=h (c - a).toNat (by omega)
  grind
 grind
theorem Bb6{p:Ed}(hp:p.Gt.length≤1000000000){a n:Int}(ha: -1000000000≤a∧a≤1000000000)(hn: -1000000000≤n∧n≤1000000000):Azw K p a n=some (A4t p a n):=by
 unfold Azw A4t
 by_cases h1:a<0
 ·grind
 rw[decide_eq_false h1,decide_eq_true (by omega:0≤a)]
 by_cases h2:n<1
 ·grind
 rw[decide_eq_false h2,decide_eq_true (by omega:1≤n)]
 simp only[cond_false,Z30]
 have es:Ark .i64 (p.Gt.length:Int) a=(p.Gt.length:Int) - a:=by grind [Ark,Gy]
 rw[es]
 by_cases h3:a+n≤(p.Gt.length:Int)
 ·rw[decide_eq_false (by omega),decide_eq_false (by omega),decide_eq_true h3]
  simp only[cond_false,Z30]
  have ea:Arj .i64 a n=a+n:=by grind [Arj,Gy]
  have:=Ast hK n.toNat (by omega) (fun k=>gt p.Gt (a+(k:Int))==0) (some true) (fun f i=>Avb K a n f (a+i) p.Fi p.Gt p.Fj) (fun f i h=> ?_) (fun f=> ?_)
  ·grind
  ·simp only[Avb]
   have e1:Arj .i64 (a+(i:Int)) 1=a+((i+1:Nat):Int):=by grind [ad1]
   grind
  grind [Avb]
 grind
theorem A85{p:Ed}(hp:p.Gt.length≤1000000000){n:Int}(hn: -1000000000≤n∧n≤1000000000): ∃r,Az9 K p n=some r∧(r= -1∨A4t p r n=true):=by
 have key: ∀(f i:Nat),i≤p.Gt.length->p.Gt.length - i<f-> ∃r,Avl K n f (i:Int) p.Fi p.Gt p.Fj=some r∧(r= -1∨A4t p r n=true):=by
  intro f
  induction f with
  |zero=>omega
  |succ f ih=>
   intro i hi hf;rw[Avl];rcases Hw i p.Gt.length with h|h
   ·rw[Wy h,cond_true,show Ed.mk p.Fi p.Gt p.Fj=p from rfl,Bb6 hK hp ⟨by omega,by omega⟩ hn,Z0]
    cases e:A4t p (i:Int) n with
    |true=>grind
    |false=>
     grind [Wx]
   grind
 exact key K 0 (Z21 _) (by omega)
theorem Bqg{E:Int}{n:Nat}(hE:0≤E∧E≤1000000000)(hn:n≤1000000000)(a:Int){run:Int}(hr: -1000000000≤run∧run≤1000000000): ∀(f:Nat) (i:Int) (w:Bm),Er w E n->pot w<f-> ∃r w',At0 K a run f i w.fC.Ad w.fC.Ds w.fC.B9 w.fC.Eu w.fC.Ca w.fC.Dt w.fP.Fi w.fP.Gt w.fP.Fj w.fL w.fQ w.Jc=some (r,w')∧Steps w w' E n:=by
 intro f
 induction f with
 |zero=>omega
 |succ f ih=>
  intro i w G hf
  have W:=G.ww hE.2 hn
  have hst:=(Ahs.1 G.inv.pool).st;obtain⟨b1,b2,b3,b4,b5,b6⟩:=A1 G.inv.conf
  have hlen:=G.inv.len;rw[At0]
  have hw:Bm.mk (Fc.mk w.fC.Ad w.fC.Ds w.fC.B9 w.fC.Eu w.fC.Ca w.fC.Dt) (Ed.mk w.fP.Fi w.fP.Gt w.fP.Fj) w.fL w.fQ w.Jc=w:=rfl
  have hp:Ed.mk w.fP.Fi w.fP.Gt w.fP.Fj=w.fP:=rfl;obtain⟨cn,hcn⟩: ∃cn,Atr K w.fL 0=some cn:=⟨_,A5u hK w.fL 0 (by omega)⟩
  rw[hw,hp,hcn]
  by_cases q:0<w.fQ.length
  ·obtain⟨w1,e1,S⟩:=Bjd hK G hE hn q
   have hpot:=S.pot;obtain⟨r,w2,e2,S2⟩:=ih (Arj .i64 i 1) w1 (S.good G) (by omega)
   have hgo: ∃r w',Axk K i w.fC.Ad w.fC.Ds w.fC.B9 w.fC.Eu w.fC.Ca w.fC.Dt w.fP.Fi w.fP.Gt w.fP.Fj w.fL w.fQ w.Jc (At0 K a run f)=some (r,w')∧Steps w w' E n:=by
    refine⟨r,w2,?_,S2.good,S.stay.trans S2.stay⟩
    simp_all[Axk]
   have hno: ∃r w',(some (i,w):Option (Int×Bm))=some (r,w')∧Steps w w' E n:=⟨_,_,rfl,G,A62.refl w⟩;obtain⟨r5,e5,_⟩:=A85 hK (p:=w.fP) (by omega) hr
   grind
  ·rw[decide_eq_false (show ¬(w.fQ.length:Int)>0 by omega)]
   exact⟨_,_,rfl,G,A62.refl w⟩
theorem Bhm{E:Int}{n:Nat}(hE:0≤E∧E≤1000000000)(hn:n≤1000000000)(a:Int){run:Int}(hr: -1000000000≤run∧run≤1000000000){w:Bm}(G:Er w E n): ∃r w',Azz K w a run=some (r,w')∧Steps w w' E n:=by
 have:=G.wt;unfold wt at this;exact Bqg hK hE hn a hr K 0 w G (by omega)
end
section
variable {K:Nat} (hK:281474976710656≤K)
include hK
theorem Bdo{l:List Ax}(hl:l.length≤1000000000): ∃r,A2i K l=some r∧(r= -1∨(0≤r∧r<(l.length:Int))∧(gt l r).Gt=0):=by
 have key: ∀(f i:Nat),i≤l.length->l.length - i<f-> ∃r,Auw K l f (i:Int)=some r∧(r= -1∨(0≤r∧r<(l.length:Int))∧(gt l r).Gt=0):=by
  intro f
  induction f with
  |zero=>omega
  |succ f ih=>
   intro i hi hf;rw[Auw];rcases Hw i l.length with h|h
   ·rw[Wy h,cond_true,if_pos (Agy h),Wx (by omega)]
    grind
   grind
 exact key K 0 (Z21 _) (by omega)
theorem A78{p:Ed}(hp:p.Gt.length≤1000000000): ∃r,Azb K p=some r∧(r= -1∨A4t p r 1=true):=by
 have key: ∀(f i:Nat),i≤p.Gt.length->p.Gt.length - i<f-> ∃r,Aux K f (i:Int) p.Fi p.Gt p.Fj=some r∧(r= -1∨A4t p r 1=true):=by
  intro f
  induction f with
  |zero=>omega
  |succ f ih=>
   intro i hi hf;rw[Aux];rcases Hw i p.Gt.length with h|h
   ·rw[Wy h,cond_true,if_pos (Agy h),Wx (by omega)]
    by_cases e:gt p.Gt (i:Int)=0
    ·rw[e];refine⟨_,rfl,.inr (A09.2 ⟨by omega,by omega,by omega,fun c hc=> ?_⟩)⟩
     grind
    grind
   grind
 exact key K 0 (Z21 _) (by omega)
structure Bld (p p':Ed)(a n k:Int):Prop where
 mem:p'.Fi=p.Fi
 st:p'.Gt.length=p.Gt.length
 own:p'.Fj.length=p.Fj.length
 one: ∀c,0≤c∧c<(p.Gt.length:Int)->gt p'.Gt c=(if a≤c∧c<a+n then 1 else gt p.Gt c)∧gt p'.Fj c=(if a≤c∧c<a+n then k else gt p.Fj c)
theorem A7l{p:Ed}(hw:A34 p)(hp:p.Gt.length≤1000000)(ho:p.Fj.length=p.Gt.length){a n k:Int}(hf:A4t p a n=true): ∃p',Auy K p a n k=some p'∧Bld p p' a n k:=by
 obtain⟨h1,h2,h3,h4⟩:=A09.1 hf;unfold Auy;rw[A21 K hw,Bb6 hK (by omega) ⟨by omega,by omega⟩ ⟨by omega,by omega⟩,hf,ho]
 simp only[Z0,cond_true,bne_self_eq_false,cond_false]
 have ea:Arj .i64 a n=a+n:=by grind [Arj,Gy]
 have key: ∀(f i:Nat) (q:Ed),(i:Int)≤n->n.toNat - i<f->Bld p q a i k-> ∃p',Awf K a n k f (a+(i:Int)) q (Ed.mk [] [] [])=some p'∧Bld p p' a n k:=by
  intro f
  induction f with
  |zero=>omega
  |succ f ih=>
   intro i q hi hf T;rw[Awf,ea]
   by_cases h:(i:Int)=n
   ·grind
   ·have e1:Arj .i64 (a+(i:Int)) 1=a+((i+1:Nat):Int):=by grind [ad1]
    have hs:=T.st
    have hso:=T.own;rw[decide_eq_true (by omega),cond_true,if_pos ⟨by omega,by omega⟩,if_pos ⟨by omega,by omega⟩,e1]
    refine ih (i+1) _ (by omega) (by omega) ⟨T.mem,by grind,by grind,fun c hc=> ?_⟩
    obtain⟨t1,t2⟩:=T.one c hc;simp only;rw[A46 (by omega) (by omega),A46 (by omega) (by omega),t1,t2]
    omega
 have:=key K 0 p (by omega) (by omega) ⟨rfl,rfl,rfl,fun c hc=>by omega⟩
 grind
end
theorem Bje{w:Bm}(I:Inv w){k:Int}(hk:0≤k∧k<(w.fL.length:Int))(p':Ed)(l':List Ax)(t':Int->Lk)(hN:l'.length=w.fL.length)
  (ho: ∀x,0≤x∧x<(w.fL.length:Int)->x≠k-> ∃a b c,gt l' x=lnk (gt w.fL x) a b c∧(0≤a∧a≤w.fC.B9)∧(0≤b∧b≤w.fC.B9)∧(0≤c∧c≤w.fC.B9))
  (hs2:(gt w.fL k).Gt≠2) (L:Aum w.fC (gt l' k)) (A':AtT l' t') (F':Ajm w.fL.length t' (A1c w.fQ))
  (P':A4q w.fC p') (hm:p'.Fi=w.fP.Fi)
  (hone: ∀c,0≤c∧c<w.fC.Ad->(gt p'.Gt c=2 ↔ gt w.fP.Gt c=2)∧(gt p'.Gt c=1∧gt p'.Fj c=k ↔ c∈(gt l' k).Ad)∧ ∀x,x≠k->(gt p'.Gt c=1∧gt p'.Fj c=x ↔ gt w.fP.Gt c=1∧gt w.fP.Fj c=x))
  (hth:(gt l' k).D3.all (Au6 w.fC (gt l' k).Ad)=true∧Asw (gt l' k).D3=true∧Au8 w.fC w.fP.Fi (gt l' k)=true):
  Inv (Bm.mk w.fC p' l' w.fQ w.Jc):=by
 refine⟨Ahs.2 P',by simp_all[Inv.len],fun x hx=> ?_,fun x hx c=> ?_,fun x hx=> ?_,⟨t',A',by grind⟩,fun x hx=> ?_,I.chn,fun c=> ?_,I.sln,fun s=> ?_,I.log⟩
 ·have hx:0≤x∧x<(l'.length:Int):=hx;rw[hN]at hx
  show Aua w.fC (gt l' x)=true
  by_cases e:x=k
  ·rw[e];exact(Ajy.2 L).1
  ·obtain⟨a,b,c,h1,h2,h3,h4⟩:=ho x hx e;rw[h1]
   by_cases hs:(gt w.fL x).Gt=1
   ·exact(Ajy.2 (Bal (Ajy.1 ⟨I.node x hx,hs⟩) h2 h3 h4)).1
   ·have X:=A18 (I.node x hx) hs
    have B:=F'.tree.bare x hx.1 hx.2 (by rw[A' x (by omega),h1];grind [A6b,lnk])
    rw[A' x (by omega),h1]at B
    obtain⟨_,B2,B3,B4⟩:=B
    have q1:a=0:=B2
    have q2:b=0:=B3
    have q3:c=0:=B4
    have this:lnk (gt w.fL x) 0 0 0=gt w.fL x:=by rw[X];rfl
    grind [Inv.node]
 ·have hx:0≤x∧x<(l'.length:Int):=hx;rw[hN]at hx
  show c∈(gt l' x).Ad ↔ (0≤c∧c<w.fC.Ad)∧gt p'.Gt c=1∧gt p'.Fj c=x
  by_cases e:x=k
  ·rw[e];constructor
   ·intro h
    have hin:=A0v L.dist c h
    grind
   grind
  ·obtain⟨a,b,d,h1,_⟩:=ho x hx e;rw[h1]
   show c∈(gt w.fL x).Ad ↔ _;rw[I.own x hx c]
   simp_all
 ·have hx:0≤x∧x<(l'.length:Int):=hx;rw[hN]at hx
  show(gt l' x).D3.all (Au6 w.fC (gt l' x).Ad)=true∧Asw (gt l' x).D3=true∧Au8 w.fC p'.Fi (gt l' x)=true;rw[hm]
  by_cases e:x=k
  ·grind
  ·obtain⟨a,b,d,h1,_⟩:=ho x hx e;rw[h1];exact I.thing x hx
 ·obtain⟨a,b⟩:=I.wrec x hx
  simp_all[Aq8]
 ·show c∈chL w.fQ ↔ (0≤c∧c<w.fC.Ad)∧gt p'.Gt c=2;rw[I.chi c]
  grind
 ·show s∈slL w.fQ ↔ (0≤s∧s<(l'.length:Int))∧(gt l' s).Gt=2;rw[I.sli s,hN];refine and_congr_right fun h=> ?_
  by_cases e:s=k
  ·grind [Aum.st]
  ·obtain⟨a,b,d,h1,_⟩:=ho s h e;rw[h1];rfl
theorem Bb7{w:Bm}(I:Inv w){p':Ed}{a n k:Int}(hk:0≤k∧k<(w.fL.length:Int))(hf:A4t w.fP a n=true)(T:Bld w.fP p' a n k):
  A4q w.fC p'∧ ∀c,0≤c∧c<w.fC.Ad->(gt p'.Gt c=2 ↔ gt w.fP.Gt c=2)∧(gt p'.Gt c=1∧gt p'.Fj c=k ↔ c∈(gt w.fL k).Ad∨a≤c∧c<a+n)∧ ∀x,x≠k->(gt p'.Gt c=1∧gt p'.Fj c=x ↔ gt w.fP.Gt c=1∧gt w.fP.Fj c=x):=by
 have P:=Ahs.1 I.pool;obtain⟨f1,f2,f3,f4⟩:=A09.1 hf
 have hlen:=I.len;refine⟨⟨P.conf,by rw[T.mem];exact P.mem,by rw[T.st];exact P.st,by rw[T.own];exact P.own,fun c hc=> ?_⟩,fun c hc=> ?_⟩
 ·obtain⟨t1,t2⟩:=T.one c (by rw[P.st];exact hc)
  obtain⟨p1,p2,p3,p4⟩:=P.one c hc;rw[t1,t2,T.mem]
  grind
 ·obtain⟨t1,t2⟩:=T.one c (by rw[P.st];exact hc)
  rw[t1,t2]
  have ho:=I.own k hk c
  grind
structure Bym (l l':List Ax)(p k:Int):Prop where
 len:l'.length=l.length
 at_:gt l' k=Ax.mk (gt l k).Gt (gt l k).C5 (gt l k).Mu (p+1) (gt l p).Mu (gt l k).Bw (gt l p).Bw 0 (gt l k).Ad (gt l k).M7 (gt l k).Gz (gt l k).D3 (gt l k).De
 ot: ∀x,0≤x∧x<(l.length:Int)->x≠k->gt l' x=lnk (gt l x) (if x=p then k+1 else(gt l x).Bw) (gt l x).Gv (if x+1=(gt l p).Bw then k+1 else(gt l x).Gw)
section
variable {K:Nat} (hK:281474976710656≤K)
include hK
theorem Bsy{l:List Ax}(hl:Adn l)(h8:l.length≤1000){p k:Int}(hp:0≤p∧p<(l.length:Int))(hk:0≤k∧k<(l.length:Int))(hne:p≠k)(hf:0≤(gt l p).Bw∧(gt l p).Bw≤(l.length:Int))(hfk:(gt l p).Bw≠k+1): ∃l',A05 K l p k=some l'∧Bym l l' p k:=by
 have e1:Arj .i64 p 1=p+1:=ad1 (by omega) (by omega)
 have e2:Arj .i64 k 1=k+1:=ad1 (by omega) (by omega)
 have e3:Ark .i64 (gt l p).Bw 1=(gt l p).Bw - 1:=sb1 (by omega) (by omega)
 have g1: ∀v,gt (l.set k.toNat v) k=v:=fun v=>A3u hk v
 have g2: ∀v,gt (l.set k.toNat v) p=gt l p:=fun v=>A4m hk.1 hp (Ne.symm hne) v;unfold A05 A2o;rw[A5h hK hl,Z0,e1,e2,Ayz,decide_eq_true (by omega),Z0,cond_true,Ayz,decide_eq_true (by omega),Z0,cond_true,As5 hne,cond_false,e3]
 simp only[Aty,if_pos hp,if_pos hk,Z49,g1,g2,List.set_set];rw[Ayz,Z0]
 have hp': ∀v:Ax,0≤p∧p<((l.set k.toNat v).length:Int):=fun v=>by grind
 have h2: ∀(u v:Ax) (x:Int),0≤x∧x<(l.length:Int)->gt ((l.set k.toNat u).set p.toNat v) x=if x=p then v else if x=k then u else gt l x:=by
  grind [Atp]
 by_cases q:1≤(gt l p).Bw∧(gt l p).Bw≤(l.length:Int)
 ·rw[decide_eq_true q,cond_true,if_pos ⟨by omega,by omega⟩]
  refine⟨_,rfl,by simp,?_,fun x hx hxk=> ?_⟩
  ·rw[A4m (by omega) (by grind) (by omega),A4m hp.1 (by grind) hne,g1]
  ·by_cases a:x=(gt l p).Bw - 1
   ·rw[if_pos (show x+1=(gt l p).Bw by omega),←a,A3u (by grind),h2 _ _ x hx,if_neg hxk]
    by_cases b:x=p
    ·rw[if_pos b,if_pos b,b];rfl
    ·rw[if_neg b,if_neg b];rfl
   ·rw[A4m (by omega) (by grind) (Ne.symm a),h2 _ _ x hx,if_neg hxk,if_neg (show ¬x+1=(gt l p).Bw by omega)]
    by_cases b:x=p
    ·rw[if_pos b,if_pos b,b];rfl
    ·rw[if_neg b,if_neg b];rfl
 ·rw[decide_eq_false q,cond_false];refine⟨_,rfl,by simp,?_,fun x hx hxk=> ?_⟩
  ·grind
  ·rw[h2 _ _ x hx,if_neg hxk,if_neg (show ¬x+1=(gt l p).Bw by omega)]
   by_cases b:x=p
   ·rw[if_pos b,if_pos b,b];rfl
   ·rw[if_neg b,if_neg b];rfl
end
def newN (g c:Int):Ax:=Ax.mk 1 g 0 0 0 0 0 0 [c] (c+1) 0 [] []
structure Bfl (w:Bm)(t:Int->Lk)(k c p:Int):Prop where
 hk:0≤k∧k<(w.fL.length:Int)
 st:(gt w.fL k).Gt=0
 free:A4t w.fP c 1=true
 up:p= -1∨Al w.fL.length t p∧(rise w.fL.length t w.fL.length p).length<4
theorem Bfl.bare{w:Bm}(I:Inv w){t:Int->Lk}{k c p:Int}(M:Bfl w t k c p):gt w.fL k=Ate 0 (gt w.fL k).C5:=by
 have:=A18 (I.node k M.hk) (by grind [st])
 grind [st]
def mkN (w:Bm)(k c p:Int):Ax:=Ax.mk 1 (gt w.fL k).C5 0 (p+1) (if p+1=0 then 0 else(gt w.fL p).Mu) 0 (if p+1=0 then 0 else(gt w.fL p).Bw) 0 [c] (c+1) 0 [] []
structure Buw (w:Bm)(l':List Ax)(k c p:Int):Prop where
 len:l'.length=w.fL.length
 at_:gt l' k=mkN w k c p
 ot: ∀x,0≤x∧x<(w.fL.length:Int)->x≠k->gt l' x=lnk (gt w.fL x) (if x=p then k+1 else(gt w.fL x).Bw) (gt w.fL x).Gv (if p+1≠0∧x+1=(gt w.fL p).Bw then k+1 else(gt w.fL x).Gw)
theorem A86{c:Fc}{n:Ax}{mem:List Int}{ch:Int}(h1:n.M7=ch+1)(h2:n.Gz=0)(hz:Atn (Ayx c mem ch)=true)(ha:n.D3.all (fun t=>Aor t (Ayf c n))=true):Au8 c mem n=true:=by
 unfold Au8;rw[ha,Bool.and_true,Bool.or_eq_true];refine .inr ?_
 have e1:(Ayf c n).fAt=ch*c.Ds:=by simp_all[Ayf]
 have e2:(Ayf c n).Xu=c.Ds:=by grind [Ayf]
 rw[e1,e2];exact hz
theorem Bqh{w:Bm}(I:Inv w){t:Int->Lk}(A:AtT w.fL t)(F:Ajm w.fL.length t (A1c w.fQ)){k c p:Int}(M:Bfl w t k c p){p':Ed}(T:Bld w.fP p' c 1 k){l':List Ax}(L:Buw w l' k c p):Inv (Bm.mk w.fC p' l' w.fQ w.Jc):=by
 have hk:=M.hk
 have hb:=M.bare I
 have hb1:(gt w.fL k).Ad=[]:=by rw[hb];rfl
 have P:=Ahs.1 I.pool;obtain⟨T1,T2⟩:=Bb7 I hk M.free T;obtain⟨f1,f2,f3,f4⟩:=A09.1 M.free;obtain⟨b1,b2,b3,b4,b5,b6⟩:=A1 I.conf
 have hlen:=I.len
 have hg:=A23 (I.node k hk)
 have hc:0≤c∧c<w.fC.Ad:=by have:=P.st;omega
 have hp:p= -1∨(0≤p∧p<(w.fL.length:Int)):=M.up.imp_right fun h=>h.1.lv.1
 have hpf:p+1≠0->(0≤p∧p<(w.fL.length:Int))∧p≠k:=fun h=>by
  rcases M.up with e|⟨e,_⟩
  ·omega
  ·refine⟨e.lv.1,fun q=> ?_⟩
   have:=((A00 A).1 e.lv).2
   grind [Bfl.st]
 have hA:AtT l' (ins t k p):=by
  intro x hx;rw[L.len]at hx
  by_cases e:x=k
  ·subst e;rw[Azo,L.at_];unfold mkN A6b;simp only
   by_cases q:p+1=0
   ·grind
   ·rw[if_neg q,if_neg q,if_neg q,if_neg q,A p (hpf q).1];rfl
  ·rw[Aw8 e,L.ot x hx e,A x hx]
   by_cases q:p+1=0
   ·rw[if_neg (fun r:p+1≠0∧x+1=(t p).fi=>r.1 q),if_neg (fun r:p+1≠0∧x+1=(gt w.fL p).Bw=>r.1 q)];rfl
   ·rw[A p (hpf q).1];rfl
 have hF:Ajm w.fL.length (ins t k p) (A1c w.fQ):=by
  refine Be9 F hk ?_ ?_ M.up
  ·rw[A k hk];show((gt w.fL k).Gt==1)=false;rw[M.st];rfl
  ·rw[A k hk];show((gt w.fL k).Gt==2)=false;rw[M.st];rfl
 have hfp:0≤(if p+1=0 then 0 else(gt w.fL p).Bw)∧(if p+1=0 then 0 else(gt w.fL p).Bw)≤w.fC.B9:=by
  split
  ·omega
  ·rename_i q
   have:=(I.rg.rg p (hpf q).1).2.1;omega
 have hep:0≤(if p+1=0 then 0 else(gt w.fL p).Mu):=by
  split
  ·omega
  ·rename_i q;rcases M.up with e|⟨e,_⟩
   ·omega
   ·exact(I.live A e.lv).ep
 have hz:Atn (Ayx w.fC w.fP.Fi c)=true:=(P.one c hc).2.2.2 (f4 c ⟨by omega,by omega⟩)
 refine Bje I hk p' l' (ins t k p) L.len (fun x hx e=>⟨_,_,_,L.ot x hx e,?_,?_,?_⟩) (by rw[M.st];decide) ?_ hA hF T1 T.mem (fun x hx=> ?_) ?_
 ·have:=(I.rg.rg x hx).2.1;omega
 ·have:=(I.rg.rg x hx).2.2.1;omega
 ·have:=(I.rg.rg x hx).2.2.2;omega
 ·rw[L.at_];refine⟨I.conf,rfl,hg.2.2,?_,⟨Int.le_refl 0,by show(0:Int)≤_;omega⟩,hfp,⟨Int.le_refl 0,by show(0:Int)≤_;omega⟩,Int.le_refl 0,hep,A47.2 ⟨by simp[mkN],fun x hx=> ?_⟩,?_,Z21 _,Z21 _,rfl,rfl⟩
  ·show 0≤p+1∧p+1≤_;omega
  ·rw[Sj.1 (show x∈[c] from hx)];exact hc
  ·unfold A7u mkN;simp only;rw[As5 (by omega),cond_false,sb1 (by omega) (by omega),Int.add_sub_cancel,Abx.2 ⟨by omega,by omega⟩]
   simp
 ·obtain⟨a1,a2,a3⟩:=T2 x hx;refine⟨a1,?_,a3⟩;rw[a2,hb1,L.at_]
  show x∈[]∨_ ↔ x∈[c]
  grind
 ·rw[L.at_];exact⟨rfl,rfl,A86 rfl rfl hz rfl⟩
theorem Bqi{l:List Ax}{t:Int->Lk}(A:AtT l t)(R:Rg l): ∀(n:Nat) (k:Int),Ax7 l (Akf l n k)=true->A5e l (Akf l n k)=true->Al l.length t k:=by
 intro n
 induction n with
 |zero=>grind [Akf,A5e]
 |succ n ih=>
  intro k h1 h2;unfold Akf at h1 h2
  by_cases hk:0≤k∧k<(l.length:Int)
  ·rw[if_pos hk]at h1 h2
   have hu:=(R.rg k hk).1
   have hl:=R.len;rw[sb1 (by omega) (by omega)]at h1 h2
   cases hr:Akf l n ((gt l k).fUp - 1)with
   |nil=>
    rw[hr]at h1 h2
    have s1:(gt l k).Gt=1:=by grind [Ax7]
    have s2:(gt l k).fUp=0:=by
     have:((gt l (gt [k] ((0:Nat):Int))).fUp==0)=true:=by assumption
     exact beq_iff_eq.1 this
    exact .root ((A00 A).2 ⟨hk,s1⟩) (by rw[A k hk];exact s2)
   |cons y r=>
    have hy:y=(gt l k).fUp - 1∧0≤y∧y<(l.length:Int):=by
     cases n with
     |zero=>simp[Akf]at hr
     |succ m=>
      unfold Akf at hr
      grind
    rw[hr]at h1 h2
    have h1:((gt l k).Gt==1&&((gt l k).Gu==(gt l y).Mu)&&Ax7 l (y::r))=true:=h1;rw[Z4,Z4,beq_iff_eq,beq_iff_eq]at h1;obtain⟨⟨s1,s2⟩,s3⟩:=h1
    have s4:A5e l (y::r)=true:=by
     assumption
    have h5:(gt l y).Gt=1:=by
     cases r with
     |nil=>grind [Ax7]
     |cons z r=>
      simp_all[Ax7]
    have h6:=ih ((gt l k).fUp - 1) (by grind) (by grind)
    refine .step ((A00 A).2 ⟨hk,s1⟩) ?_ (by rw[A k hk];exact h6)
    unfold Cu;rw[A k hk]
    show Lv _ t ((gt l k).fUp - 1)∧(t ((gt l k).fUp - 1)).ep=(gt l k).Gu;rw[←hy.1,A y hy.2,s2];exact⟨(A00 A).2 ⟨hy.2,h5⟩,rfl⟩
  simp_all[A5e]
theorem Ble{w:Bm}(I:Inv w){k:Int}(h:Azq w.fL k=true):AlW w.fL k:=by
 obtain⟨t,A,_⟩:=I.forest;unfold Azq at h;rw[Z4]at h;exact⟨t,A,Bqi A I.rg _ _ h.1 h.2⟩
theorem A6z{w:Bm}(I:Inv w){h:Ce}(h0:(Axx w.fL h).2=0):AlW w.fL (Axx w.fL h).1:=by
 unfold Axx at *;cases e1:A35 h with
 |false=>grind
 |true=>
  rw[e1]at h0;simp only[cond_true]at h0 ⊢;cases e2:decide (Ay0 w.fL h<0)with
  |true=>grind
  |false=>
   rw[e2]at h0;simp only[cond_false]at h0 ⊢;cases e3:Azq w.fL (Ay0 w.fL h)with
   |false=>grind
   |true=>simp_all[Ble]
section
variable {K:Nat} (hK:281474976710656≤K)
include hK
theorem Bfm{w:Bm}(hw:Alq w)(h8:w.fL.length≤1000): ∃r,A28 K w=some r:=by
 have key: ∀(f i:Nat) (v:Int),i≤w.fL.length->w.fL.length - i<f-> ∃r,Ajw K f v (i:Int) w.fC.Ad w.fC.Ds w.fC.B9 w.fC.Eu w.fC.Ca w.fC.Dt w.fP.Fi w.fP.Gt w.fP.Fj w.fL w.fQ w.Jc=some r:=by
  intro f
  induction f with
  |zero=>omega
  |succ f ih=>
   intro i v hi hf;rw[Ajw];rcases Hw i w.fL.length with h|h
   ·have go: ∀v,∃r,Ao7 K (i:Int) w.fC.Ad w.fC.Ds w.fC.B9 w.fC.Eu w.fC.Ca w.fC.Dt w.fP.Fi w.fP.Gt w.fP.Fj w.fL w.fQ w.Jc (Ajw K f) v=some r:=by
     intro v;unfold Ao7;rw[Wx (by omega)]
     exact ih (i+1) v h (by omega)
    rw[Wy h,cond_true,if_pos (Agy h),A4j hK hw.l _ ⟨by omega,by omega⟩]
    simp only[Z0,if_pos (Agy h)];cases (gt w.fL (i:Int)).Gt==0 with
    |true=>exact go _
    |false=>
     simp only[cond_false];cases Azq w.fL (i:Int)with
     |true=>exact go _
     |false=>
      simp only[cond_false];cases (gt w.fL (i:Int)).Gt != 3 with
      |false=>exact go _
      |true=>
       simp only[cond_true];cases decide ((gt w.fL (i:Int)).C5<w.fC.Dt)<;>exact go _
   ·rw[Aqt h];grind
 exact key K 0 0 (Z21 _) (by omega)
theorem Baq{w:Bm}(hw:Alq w)(h8:w.fL.length≤1000): ∃r,Av6 K w=some r∧r.length≤w.fL.length∧ ∀x∈r,(0≤x∧x<(w.fL.length:Int))∧Azq w.fL x=true:=by
 have hm:=P2
 have key: ∀(f i:Nat) (v:List Int),i≤w.fL.length->w.fL.length - i<f->v.length≤i->(∀x∈v,(0≤x∧x<(w.fL.length:Int))∧Azq w.fL x=true)-> ∃r,Aqw K f v (i:Int) w.fC.Ad w.fC.Ds w.fC.B9 w.fC.Eu w.fC.Ca w.fC.Dt w.fP.Fi w.fP.Gt w.fP.Fj w.fL w.fQ w.Jc=some r∧r.length≤w.fL.length∧ ∀x∈r,(0≤x∧x<(w.fL.length:Int))∧Azq w.fL x=true:=by
  intro f
  induction f with
  |zero=>omega
  |succ f ih=>
   intro i v hi hf hl hv;rw[Aqw];rcases Hw i w.fL.length with h|h
   ·rw[Wy h,cond_true,A4j hK hw.l _ ⟨by omega,by omega⟩]
    simp only[Z0];cases e:Azq w.fL (i:Int)with
    |false=>
     simp only[cond_false]
     grind [As6,Wx]
    |true=>
     simp only[cond_true];rw[if_pos ⟨by grind,by grind⟩]
     unfold As6;rw[Wx (by omega)]
     refine ih (i+1) _ h (by omega) (by grind) fun x hx=> ?_
     grind
   grind
 exact key K 0 [] (Z21 _) (by omega) (by simp) (fun x hx=>by cases hx)
theorem A6h{w:Bm}(hw:Alq w)(h8:w.fL.length≤1000)(n:Int): ∃b,Aqq K w n=some b:=by
 obtain⟨r,e,hl,_⟩:=Baq hK hw h8
 have key: ∀(f i:Nat) (v:Int),i≤r.length->r.length - i<f-> ∃x,Alt K r f v (i:Int) w.fC.Ad w.fC.Ds w.fC.B9 w.fC.Eu w.fC.Ca w.fC.Dt w.fP.Fi w.fP.Gt w.fP.Fj w.fL w.fQ w.Jc=some x:=by
  intro f
  induction f with
  |zero=>omega
  |succ f ih=>
   intro i v hi hf;rw[Alt];rcases Hw i r.length with h|h
   ·rw[Wy h,cond_true,if_pos (Agy h),A5c hK _ _ hw.p.st.2,Z0,Wx (by omega)]
    exact ih (i+1) _ h (by omega)
   ·rw[Aqt h];grind
 obtain⟨x,ex⟩:=key K 0 0 (Z21 _) (by omega)
 have ex:Alt K r K 0 0 w.fC.Ad w.fC.Ds w.fC.B9 w.fC.Eu w.fC.Ca w.fC.Dt w.fP.Fi w.fP.Gt w.fP.Fj w.fL w.fQ w.Jc=some x:=ex;unfold Aqq Ava;rw[e,Z0,ex];simp only[Z0];cases decide (n≥0)<;>cases decide (n≤w.fC.Ad)<;>exact⟨_,rfl⟩
omit hK in
theorem A6i{l:List Ax}(hl:l.length≤1000000)(k:Int): ∃h,Axi K l k=some h:=by
 unfold Axi;rw[A41 K (by omega),Z0]
 by_cases q:0≤k∧k<(l.length:Int)
 all_goals simp_all[decide_eq_false]
end
def A63 (n:Ax)(c:Int):Ax:=Ax.mk n.Gt n.C5 n.Mu n.fUp n.Gu n.Bw n.Gv n.Gw (n.Ad++[c]) (c+1) 0 n.D3 n.De
theorem A8p{c:Fc}{n:Ax}(L:Aum c n){k:Int}(hk:0≤k∧k<c.Ad)(hn:k ∉ n.Ad):Aum c (A63 n k):=by
 obtain⟨b1,b2,_⟩:=A1 L.conf
 have hd:=A47.1 L.dist;refine⟨L.conf,L.st,L.gen,L.up,L.first,L.next,L.prev,L.ep,L.ue,A47.2 ⟨Apb.2 ⟨hd.1,by simp,fun x h1 h2=>by grind⟩,fun x hx=> ?_⟩,?_,L.nth,L.ntag,L.tags,L.things⟩
 ·rcases Nj.1 hx with h|h
  all_goals grind
 ·unfold A7u A63;simp only;rw[As5 (by omega),cond_false,sb1 (by omega) (by omega),Int.add_sub_cancel,Abx.2 ⟨by omega,by omega⟩]
  simp
section
variable {K:Nat} (hK:281474976710656≤K)
include hK
theorem A8q{c:Fc}{n:Ax}(L:Aum c n)(hw:Atw n){k:Int}(hk:0≤k∧k<c.Ad)(hn:k ∉ n.Ad):Ax1 K c n k=some (A63 n k,true):=by
 have hm:=P2
 have L2:=A8p L hk hn;obtain⟨b1,b2,_⟩:=A1 L.conf
 have h1:=Aub L.conf L.dist
 have h3:=L.nth
 have h4:=L.ntag
 have e:Ax.mk n.Gt n.C5 n.Mu n.fUp n.Gu n.Bw n.Gv n.Gw (n.Ad++[k]) (Arj .i64 k 1) 0 n.D3 n.De=A63 n k:=by grind [A63,ad1]
 unfold Ax1
 have hb:A63 n k=A63 n k:=rfl;rw[Avv K hw,Z0,show(n.Gt != 1)=false by rw[L.st];rfl,cond_false,Aok,A07 hK L.conf,Abx.2 ⟨by omega,by omega⟩,Z0,Bool.not_true,cond_false,if_pos ⟨by grind,by grind⟩,e]
 have hl:(A63 n k).Ad.length=n.Ad.length+1:=by grind
 rw[Ayy hK c (A63 n k) (by omega) (show n.D3.length≤_ by omega) (show n.De.length≤_ by omega),(Ajy.2 L2).1]
 rfl
omit hK in
theorem Er.le{w:Bm}{E E':Int}{n m:Nat}(G:Er w E n)(hE:E≤E')(h:n≤m):Er w E' m:=⟨G.inv,G.mem,fun k hk=>by have:=G.ep k hk;exact⟨Int.le_trans this.ep hE,Int.le_trans this.ue hE,this.cur⟩,Vb G.wt h⟩
theorem Blf{E:Int}{n:Nat}(hE:0≤E∧E≤900000000)(hn:n≤900000000){w:Bm}(G:Er w E n){p at_ ch:Int}(hp:p= -1∨AlW w.fL p∧(Akf w.fL w.fL.length p).length<4)(ha:(0≤at_∧at_<(w.fL.length:Int))∧(gt w.fL at_).Gt=0)(hc:A4t w.fP ch 1=true):
  ∃p' l',Auy K w.fP ch 1 at_=some p'∧(p= -1->l'=w.fL.set at_.toNat (newN (gt w.fL at_).C5 ch))∧(p≠ -1->A05 K (w.fL.set at_.toNat (newN (gt w.fL at_).C5 ch)) p at_=some l')∧Er (Bm.mk w.fC p' l' w.fQ w.Jc) E (n+18)∧l'.length=w.fL.length:=by
 have I:=G.inv
 have W:=G.ww (by omega) (by omega)
 obtain⟨t,A,F⟩:=I.forest;obtain⟨b1,b2,b3,b4,b5,b6⟩:=A1 I.conf
 have P:=Ahs.1 I.pool
 have hst:=P.st
 have how:=P.own
 have hlen:=I.len;obtain⟨f1,f2,f3,f4⟩:=A09.1 hc
 have M:Bfl w t at_ ch p:=⟨ha.1,ha.2,hc,hp.imp_right fun h=>⟨h.1.al A,by rw[A76 A I.rg]at h;exact h.2⟩⟩
 obtain⟨p',ep,T⟩:=A7l hK W.p (by omega) (by omega) (k:=at_) hc
 have hg:=A23 (I.node at_ ha.1)
 have hbare:=M.bare I
 have hl': ∃l',(p= -1->l'=w.fL.set at_.toNat (newN (gt w.fL at_).C5 ch))∧(p≠ -1->A05 K (w.fL.set at_.toNat (newN (gt w.fL at_).C5 ch)) p at_=some l')∧Buw w l' at_ ch p:=by
  by_cases q:p= -1
  ·refine⟨w.fL.set at_.toNat (newN (gt w.fL at_).C5 ch),fun _=>rfl,fun h=>absurd q h,by simp,?_,fun x hx hne=> ?_⟩
   ·rw[A3u ha.1]
    grind [newN,mkN]
   ·have hpx:x≠p:=by omega
    rw[A4m ha.1.1 hx (Ne.symm hne),if_neg hpx,if_neg (fun r=>r.1 (by omega))]
    rfl
  ·obtain⟨al,_⟩:=hp.resolve_left q
   have al:=al.al A
   have hpi:=al.lv.1
   have hpl:=(A00 A).1 al.lv
   have hne:p≠at_:=fun e=>by grind
   have hgp: ∀v,gt (w.fL.set at_.toNat v) p=gt w.fL p:=fun v=>A4m ha.1.1 hpi (Ne.symm hne) v
   have hnw:Atw (newN (gt w.fL at_).C5 ch):=⟨Gx (x:=(1:Int)) (by omega) (by omega),Gx (by show _≤(gt w.fL at_).C5;omega) (by show(gt w.fL at_).C5≤_;omega),Azn,Azn,Azn,Azn,Azn,Azn,Ay5 (fun x hx=>by rw[Sj.1 (show x∈[ch] from hx)];omega) (by show [ch].length≤_;simp),Gx (by show _≤ch+1;omega) (by show ch+1≤_;omega),Azn,A57,Ax5⟩
   have hW:Adn (w.fL.set at_.toNat (newN (gt w.fL at_).C5 ch)):=by
    refine⟨fun x hx=> ?_,by grind⟩
    rcases Z54 hx with h|h
    ·exact W.l.1 x h
    grind
   have hfr:=(I.rg.rg p hpi).2.1;obtain⟨l',e,L⟩:=Bsy hK hW (by grind) (p:=p) (k:=at_) (by grind) (by grind) hne (by grind) (by
    rw[hgp];intro e
    have h1:=(F.tree.link p al.lv).first (by rw[A p hpi];show(gt w.fL p).Bw≠0;omega)
    have h2:=((A00 A).1 h1.1).2;rw[A p hpi]at h2
    have h2:(gt w.fL ((gt w.fL p).Bw - 1)).Gt=1:=h2
    grind)
   refine⟨l',fun h=>absurd h q,fun _=>e,by rw[L.len];simp,?_,fun x hx hxk=> ?_⟩
   ·rw[L.at_,A3u ha.1,hgp];unfold newN mkN
    grind
   ·rw[L.ot x (by grind) hxk,A4m ha.1.1 hx (Ne.symm hxk),hgp]
    grind
 obtain⟨l',h1,h2,L⟩:=hl'
 have I':=Bqh I A F M T L;refine⟨p',l',ep,h1,h2,⟨I',?_,fun x hx=> ?_,?_⟩,L.len⟩
 ·show ∀x∈p'.Fi,_;rw[T.mem];exact G.mem
 ·have hx:0≤x∧x<(l'.length:Int):=hx;rw[L.len]at hx
  show EpP E (gt l' x)
  by_cases e:x=at_
  ·rw[e,L.at_];refine⟨hE.1,?_,⟨by show 0≤ch+1;omega,by show ch+1≤_;omega⟩⟩
   show(if p+1=0 then 0 else(gt w.fL p).Mu)≤E
   split
   ·exact hE.1
   ·rename_i q
    have:=(hp.resolve_left (by omega)).1.al A
    exact(G.ep p this.lv.1).ep
  ·rw[L.ot x hx e]
   have:=G.ep x hx;exact⟨this.ep,this.ue,this.cur⟩
 ·have hs:=A6f (f:=wtN w.fC) L.len ha.1 fun x hx hne=>by rw[L.ot x hx hne];rfl
  have e0:wtN w.fC (gt w.fL at_)=0:=by grind [A6g]
  have e1:wtN w.fC (gt l' at_)≤18:=by
   rw[L.at_];unfold wtN mkN
   grind
  have h3:=G.wt;unfold wt pot at h3 ⊢
  grind
end
section
variable {K:Nat} (hK:281474976710656≤K)
include hK
theorem A6j{E:Int}{n:Nat}(hE:0≤E∧E≤900000000)(hn:n≤900000000){w:Bm}(G:Er w E n){p:Int}(a b:Fz)(hp:a.Zb=0->p= -1∨AlW w.fL p∧(Akf w.fL w.fL.length p).length<4):
  ∃r w',Aqx K p w.fC.Ad w.fC.Ds w.fC.B9 w.fC.Eu w.fC.Ca w.fC.Dt w.fP.Fi w.fP.Gt w.fP.Fj w.fL w.fQ w.Jc a b=some (r,w')∧Er w' E (n+18)∧w'.fC=w.fC:=by
 unfold Aqx
 by_cases h0:a.Zb=0
 ·have hp:=hp h0;rw[h0];simp only[bne_self_eq_false,cond_false];obtain⟨d,w1,e1,S⟩:=Bhm hK (by omega:0≤E∧E≤1000000000) (by omega) 1 (run:=1) (by omega) G
  rw[show Bm.mk (Fc.mk w.fC.Ad w.fC.Ds w.fC.B9 w.fC.Eu w.fC.Ca w.fC.Dt) (Ed.mk w.fP.Fi w.fP.Gt w.fP.Fj) w.fL w.fQ w.Jc=w from rfl,e1]
  simp only[Z0]
  have G1:=S.good
  have T1:=S.stay
  have P1:=Ahs.1 G1.inv.pool
  have hst:=P1.st
  have hlen:=G1.inv.len;obtain⟨b1,b2,b3,b4,b5,b6⟩:=A1 G1.inv.conf;obtain⟨at_,e2,h2⟩:=Bdo hK (l:=w1.fL) (by omega)
  obtain⟨ch,e3,h3⟩:=A78 hK (p:=w1.fP) (by omega)
  rw[e2,e3];simp only[Z0]
  have G1':=Er.le G1 (Int.le_refl E) (by omega:n≤n+18)
  by_cases q1:at_<0
  ·rw[decide_eq_true q1];exact⟨_,_,rfl,G1',T1.conf⟩
  ·rw[decide_eq_false q1];simp only[cond_false]
   by_cases q2:ch<0
   ·rw[decide_eq_true q2];exact⟨_,_,rfl,G1',T1.conf⟩
   ·rw[decide_eq_false q2];simp only[cond_false];obtain⟨hat,hfree⟩:=h2.resolve_left (by omega)
    have hch:=h3.resolve_left (by omega)
    obtain⟨f1,f2,f3,f4⟩:=A09.1 hch
    have hp1:p= -1∨AlW w1.fL p∧(Akf w1.fL w1.fL.length p).length<4:=hp.imp_right fun h=>by
     obtain⟨x1,_,x3⟩:=T1.node p h.1;rw[x3,T1.len]
     grind
    obtain⟨p',l',et,k1,k2,G2,hl2⟩:=Blf hK hE hn G1 hp1 ⟨hat,hfree⟩ hch
    have hg:=A23 (G1.inv.node at_ hat)
    have L0:Aum w1.fC (Ax.mk 1 (gt w1.fL at_).C5 0 0 0 0 0 0 [] 0 0 [] []):=⟨G1.inv.conf,rfl,hg.2.2,⟨Int.le_refl 0,by grind⟩,⟨Int.le_refl 0,by grind⟩,⟨Int.le_refl 0,by grind⟩,⟨Int.le_refl 0,by grind⟩,Int.le_refl 0,Int.le_refl 0,rfl,rfl,Z21 _,Z21 _,rfl,rfl⟩
    have W0:Atw (Ax.mk 1 (gt w1.fL at_).C5 0 0 0 0 0 0 [] 0 0 [] []):=A5n (E:=0) (Ajy.2 L0).1 ⟨Int.le_refl 0,Int.le_refl 0,Int.le_refl 0,by grind⟩ (by omega)
    unfold Amo;simp only[Z0,if_pos hat];rw[et,Z0,A8q hK L0 W0 ⟨f1,by omega⟩ (by grind),Z0]
    simp only
    have hnew:A63 (Ax.mk 1 (gt w1.fL at_).C5 0 0 0 0 0 0 [] 0 0 [] []) ch=newN (gt w1.fL at_).C5 ch:=rfl;rw[hnew]
    by_cases q3:p= -1
    ·rw[decide_eq_false (by omega: ¬p≥0)]
     simp only[cond_false];rw[←k1 q3];obtain⟨hd,eh⟩:=A6i (K:=K) (l:=l') (by omega) at_
     obtain⟨t,w2,es,S2⟩:=A9q hK (E:=E) (n:=n+18) (by omega) (by omega) w1.fC.Eu G2
     unfold Awi;rw[eh,Z0,show Bm.mk (Fc.mk w1.fC.Ad w1.fC.Ds w1.fC.B9 w1.fC.Eu w1.fC.Ca w1.fC.Dt) (Ed.mk p'.Fi p'.Gt p'.Fj) l' w1.fQ w1.Jc=Bm.mk w1.fC p' l' w1.fQ w1.Jc from rfl,es]
     exact⟨_,_,rfl,S2.good,S2.stay.conf.trans T1.conf⟩
    ·have hp2:0≤p:=by
      obtain⟨t,A,F⟩:=G1.inv.forest;exact((hp1.resolve_left q3).1.al A).lv.1.1
     rw[decide_eq_true (show p≥0 from hp2)]
     simp only[cond_true];rw[k2 q3,Z0];obtain⟨hd,eh⟩:=A6i (K:=K) (l:=l') (by omega) at_
     obtain⟨t,w2,es,S2⟩:=A9q hK (E:=E) (n:=n+18) (by omega) (by omega) w1.fC.Eu G2
     unfold Awi;rw[eh,Z0,show Bm.mk (Fc.mk w1.fC.Ad w1.fC.Ds w1.fC.B9 w1.fC.Eu w1.fC.Ca w1.fC.Dt) (Ed.mk p'.Fi p'.Gt p'.Fj) l' w1.fQ w1.Jc=Bm.mk w1.fC p' l' w1.fQ w1.Jc from rfl,es]
     exact⟨_,_,rfl,S2.good,S2.stay.conf.trans T1.conf⟩
 ·rw[A2d h0];exact⟨_,_,rfl,Er.le G (Int.le_refl E) (by omega),rfl⟩
theorem Bfn{E:Int}{n:Nat}(hE:0≤E∧E≤900000000)(hn:n≤900000000){w:Bm}(G:Er w E n){p:Int}(v:Bool)(a b:Fz)(hp:v=false->p= -1∨AlW w.fL p∧(Akf w.fL w.fL.length p).length<4):
  ∃r w',Awj K p v w.fC.Ad w.fC.Ds w.fC.B9 w.fC.Eu w.fC.Ca w.fC.Dt w.fP.Fi w.fP.Gt w.fP.Fj w.fL w.fQ w.Jc a b=some (r,w')∧Er w' E (n+18)∧w'.fC=w.fC:=by
 have W:=G.ww (by omega) (by omega)
 have hlen:=G.inv.len;obtain⟨b1,b2,b3,b4,b5,b6⟩:=A1 G.inv.conf;unfold Awj;cases v with
 |true=>exact A6j hK hE hn G (p:=p) (Fz.mk 3 a.fH a.fR a.fB a.Zc a.Eu a.Rd) b (fun h=>absurd (show(3:Int)=0 from h) (by decide))
 |false=>
  simp only[cond_false];rw[show Bm.mk (Fc.mk w.fC.Ad w.fC.Ds w.fC.B9 w.fC.Eu w.fC.Ca w.fC.Dt) (Ed.mk w.fP.Fi w.fP.Gt w.fP.Fj) w.fL w.fQ w.Jc=w from rfl]
  obtain⟨r,er⟩:=Bfm hK W (by omega)
  rw[er,Z0];cases r==0 with
  |true=>exact A6j hK hE hn G (p:=p) (Fz.mk 4 a.fH a.fR a.fB a.Zc a.Eu a.Rd) b (fun h=>absurd (show(4:Int)=0 from h) (by decide))
  |false=>
   simp only[cond_false];obtain⟨f,ef⟩:=A6h hK W (by omega) 1
   rw[ef,Z0];cases f with
   |false=>exact A6j hK hE hn G (p:=p) (Fz.mk 5 a.fH a.fR a.fB a.Zc a.Eu a.Rd) b (fun h=>absurd (show(5:Int)=0 from h) (by decide))
   |true=>simp_all[A6j]
theorem Bhn{E:Int}{n:Nat}(hE:0≤E∧E≤900000000)(hn:n≤900000000){w:Bm}(G:Er w E n)(h:Ce): ∃r w',A1k K w h=some (r,w')∧Er w' E (n+18)∧w'.fC=w.fC:=by
 have W:=G.ww (by omega) (by omega)
 have hlen:=G.inv.len;obtain⟨b1,b2,b3,b4,b5,b6⟩:=A1 G.inv.conf
 have hup: ∃p c,A3d K w h=some (p,c)∧(c=0->p= -1∨AlW w.fL p):=by
  unfold A3d;cases ((h.A9==0)&&((h.C5==0)&&true))with
  |true=>grind
  |false=>
   simp only[cond_false];rw[Ax4 hK W.l,Z0];exact⟨_,_,rfl,fun h0=> .inr (A6z G.inv h0)⟩
 obtain⟨p,c,ep,hp⟩:=hup;unfold A1k;rw[ep,Z0,A2l hK w W.l,Z0];simp only
 by_cases q:c=0
 ·rw[q];simp only[bne_self_eq_false,cond_false];rcases hp q with e|e
  ·simp_all[Bfn]
  ·have hpi:0≤p∧p<(w.fL.length:Int):=by
    obtain⟨t,A,F⟩:=G.inv.forest;exact(e.al A).lv.1
   rw[decide_eq_true (show p≥0 from hpi.1)]
   simp only[cond_true];unfold Azv;rw[A5d hK W.l p ⟨by omega,by omega⟩]
   simp only[Z0];refine Bfn hK hE hn G _ _ _ (fun hv=> .inr ⟨e,?_⟩)
   grind
 ·rw[A2d q];exact A6j hK hE hn G (p:=p) (Fz.mk c (Ce.mk 0 0) (E5.mk (Ce.mk 0 0) 0 0) [] (Be6 w h) 0 0) (Fz.mk 0 (Ce.mk 0 0) (E5.mk (Ce.mk 0 0) 0 0) [] 0 0 0) (fun h=>absurd h q)
end
theorem Bar{c:Fc}{ch:List Int}{t:Bl}(h:Au6 c ch t=true){j:Int}(h0:t.fAt≤j)(h1:j<t.fAt+t.Xu):j / c.Ds∈ch:=by
 unfold Au6 at h;rw[Z4,Z1]at h;obtain⟨ht,hc⟩:=h;obtain⟨hs,hin⟩:=A4z ht;obtain⟨b1,b2,_⟩:=A1 hin.1
 have e1:t.fAt / c.Ds≤j / c.Ds:=Int.ediv_le_ediv (by omega) h0
 have e2:j / c.Ds≤(t.fAt+t.Xu - 1) / c.Ds:=Int.ediv_le_ediv (by omega) (by omega)
 have:=hc (j / c.Ds - t.fAt / c.Ds).toNat (by grind)
 grind
theorem A8r{a s j:Int}(hs:0<s)(h0:a*s≤j)(h1:j<a*s+s):j / s=a:=by
 have h2:a≤j / s:=(Int.le_ediv_iff_mul_le hs).2 h0
 have h3:j / s<a+1:=Int.ediv_lt_of_lt_mul hs (by grind)
 omega
theorem A48{a b:Bl}(h: ∀j,a.fAt≤j->j<a.fAt+a.Xu->b.fAt≤j->j<b.fAt+b.Xu->False):Aor a b=true:=by
 unfold Aor;rw[decide_eq_true_iff]
 by_cases h1:a.Xu≤0
 ·omega
 by_cases h2:b.Xu≤0
 ·omega
 by_cases h3:a.fAt+a.Xu≤b.fAt
 ·omega
 by_cases h4:b.fAt+b.Xu≤a.fAt
 ·omega
 exfalso
 by_cases h5:a.fAt≤b.fAt
 ·exact h b.fAt h5 (by omega) (by omega) (by omega)
 ·exact h a.fAt (by omega) (by omega) (by omega) (by omega)
theorem Bfo{a b:Bl}(h:Aor a b=true){j:Int}(h1:a.fAt≤j)(h2:j<a.fAt+a.Xu)(h3:b.fAt≤j)(h4:j<b.fAt+b.Xu):False:=by
 unfold Aor at h
 grind
theorem Bdp{l:List Bl}:Asw l=true ↔ l.Pairwise (fun a b=>Aor a b=true):=by
 unfold Asw;rw[Z1,List.pairwise_iff_getElem];constructor
 ·intro h i j hi hj hij
  have:=h j (by grind)
  grind [List.mem_iff_getElem,V2]
 ·intro h j hj;rw[List.mem_range]at hj;rw[Z1];intro o ho;obtain⟨i,hi,e⟩:=List.mem_iff_getElem.1 ho
  grind [V2]
theorem A79{l:List Bl}{t:Bl}(h:Asw l=true)(ht: ∀o∈l,Aor o t=true):Asw (l++[t])=true:=by
 simp_all[Bdp,List.pairwise_append]
theorem A8a{c:Fc}{n:Ax}(L:Aum c n)(hc:0≤n.M7∧n.M7≤1000)(h0:n.M7≠0):n.M7 - 1∈n.Ad∧0≤n.Gz∧n.Gz≤c.Ds:=by
 have:=L.cur;unfold A7u at this;rw[As5 h0,cond_false,Z4,Abx,sb1 (by omega) (by omega)]at this
 grind
theorem Bjf{c:Fc}{ch ch':List Int}(h: ∀x∈ch,x∈ch'){t:Bl}(ht:Au6 c ch t=true):Au6 c ch' t=true:=by
 unfold Au6 at ht ⊢;rw[Z4,Z1]at ht ⊢;exact⟨ht.1,fun j hj=>List.contains_iff_mem.2 (h _ (List.contains_iff_mem.1 (ht.2 j hj)))⟩
def Bas (c:Fc)(n:Ax)(off size:Int):Ax:=Ax.mk n.Gt n.C5 n.Mu n.fUp n.Gu n.Bw n.Gv n.Gw n.Ad n.M7 (off+size) (n.D3++[Bl.mk ((n.M7 - 1)*c.Ds+off) size 0]) n.De
structure Bqj (c:Fc)(n:Ax)(off size:Int):Prop where
 cur:n.M7≠0
 ho:n.Gz≤off
 hz:1≤size
 fit:off+size≤c.Ds
 cnt:n.D3.length<12
structure ThP (c:Fc)(mem:List Int)(n:Ax):Prop where
 inch:n.D3.all (Au6 c n.Ad)=true
 apart:Asw n.D3=true
 loose:Au8 c mem n=true
theorem Bfp{c:Fc}{mem:List Int}{n:Ax}{off size:Int}(L:Aum c n)(hc:0≤n.M7∧n.M7≤1000)(T:ThP c mem n)(S:Bqj c n off size):Aum c (Bas c n off size)∧ThP c mem (Bas c n off size):=by
 obtain⟨b1,b2,_⟩:=A1 L.conf;obtain⟨m1,m2,m3⟩:=A8a L hc S.cur
 have hm:=A0v L.dist _ m1
 have ho:=S.ho;have hz:=S.hz;have hf:=S.fit;have hn:=S.cnt
 have hlo:=T.loose;unfold Au8 at hlo;rw[As5 S.cur,Z52,Z4,Z1]at hlo;obtain⟨z1,z2⟩:=hlo
 have q0:0≤(n.M7 - 1)*c.Ds:=Int.mul_nonneg (by omega) (by omega)
 have q1:(n.M7 - 1)*c.Ds+c.Ds≤c.Ad*c.Ds:=by
  have:(n.M7 - 1+1)*c.Ds≤c.Ad*c.Ds:=Int.mul_le_mul_of_nonneg_right (by omega) (by omega)
  grind
 have hby:Alp c=c.Ad*c.Ds:=by unfold Alp;rw[L.conf];rfl
 have d1:((n.M7 - 1)*c.Ds+off) / c.Ds=n.M7 - 1:=A8r (by omega) (by omega) (by omega)
 have d2:((n.M7 - 1)*c.Ds+off+size - 1) / c.Ds=n.M7 - 1:=A8r (by omega) (by omega) (by omega)
 have htb:As2 c (Bl.mk ((n.M7 - 1)*c.Ds+off) size 0)=true:=by
  unfold As2;rw[decide_eq_true (show A0u c (Bl.mk ((n.M7 - 1)*c.Ds+off) size 0) from⟨L.conf,hz,by grind,by grind⟩)]
  grind
 have htc:Au6 c n.Ad (Bl.mk ((n.M7 - 1)*c.Ds+off) size 0)=true:=by
  unfold Au6
  grind
 have hr: ∀o∈n.D3,∀j,o.fAt≤j->j<o.fAt+o.Xu->(n.M7 - 1)*c.Ds+n.Gz≤j->j<(n.M7 - 1)*c.Ds+c.Ds->False:=fun o h j h1 h2 h3 h4=>Bfo (z2 o h) h1 h2 (b:=Ayf c n) h3 (by show j<(n.M7 - 1)*c.Ds+n.Gz+(c.Ds - n.Gz);omega)
 refine⟨⟨L.conf,L.st,L.gen,L.up,L.first,L.next,L.prev,L.ep,L.ue,L.dist,?_,?_,L.ntag,L.tags,?_⟩,⟨?_,?_,?_⟩⟩
 ·unfold A7u Bas;simp only;rw[As5 S.cur,cond_false,sb1 (by omega) (by omega),List.contains_iff_mem.2 m1,Abx.2 ⟨by omega,by omega⟩];rfl
 ·show(n.D3++[_]).length≤12
  grind
 ·show(n.D3++[_]).all (As2 c)=true
  grind [Aum.things]
 ·show(n.D3++[_]).all (Au6 c n.Ad)=true
  grind [ThP.inch]
 ·refine A79 T.apart fun o h=>A48 fun j h1 h2 h3 h4=>hr o h j h1 h2 ?_ ?_
  all_goals grind
 ·unfold Au8;rw[Bool.or_eq_true,Z4];refine .inr ⟨?_,?_⟩
  ·rw[A6e]at z1 ⊢;intro j h1 h2 h3
   have h1:((n.M7 - 1)*c.Ds+(off+size)).toNat≤j:=h1
   have h2:j<((n.M7 - 1)*c.Ds+(off+size)).toNat+(c.Ds - (off+size)).toNat:=h2;refine z1 j ?_ ?_ h3
   ·show((n.M7 - 1)*c.Ds+n.Gz).toNat≤j;omega
   ·show j<((n.M7 - 1)*c.Ds+n.Gz).toNat+(c.Ds - n.Gz).toNat;omega
  ·show(n.D3++[_]).all _=true;rw[List.all_append,Gp,Z4,Z4,Z1];refine⟨fun o h=>A48 fun j h1 h2 h3 h4=>hr o h j h1 h2 ?_ ?_,A48 fun j h1 h2 h3 h4=> ?_,rfl⟩
   ·have h3:(n.M7 - 1)*c.Ds+(off+size)≤j:=h3;omega
   ·have h4:j<(n.M7 - 1)*c.Ds+(off+size)+(c.Ds - (off+size)):=h4;omega
   ·have h2:j<(n.M7 - 1)*c.Ds+off+size:=h2
    have h3:(n.M7 - 1)*c.Ds+(off+size)≤j:=h3;omega
def A8b (a n:Int):List Int:=(List.range n.toNat).map (fun(i:Nat)=>a+(i:Int))
theorem A8c{a n x:Int}:x∈A8b a n ↔ a≤x∧x<a+n:=by
 unfold A8b;rw[F9];constructor
 ·grind
 ·intro h;exact⟨(x - a).toNat,by grind,by omega⟩
theorem Bho (a n:Int):(A8b a n).Nodup:=by
 grind [A8b,List.nodup_range]
def A4x (c:Fc)(n:Ax)(a run size:Int):Ax:=Ax.mk n.Gt n.C5 n.Mu n.fUp n.Gu n.Bw n.Gv n.Gw (n.Ad++A8b a run) n.M7 n.Gz (n.D3++[Bl.mk (a*c.Ds) size run]) n.De
structure Bhp (c:Fc)(n:Ax)(a run size:Int):Prop where
 hz:c.Ds<size∧size≤200
 hr:run=Aw6 size c.Ds
 at_:0≤a∧a+run≤c.Ad
 new: ∀x∈n.Ad,¬(a≤x∧x<a+run)
 cnt:n.D3.length<12
theorem Bfq{c:Fc}{mem:List Int}{n:Ax}{a run size:Int}(L:Aum c n)(hc:0≤n.M7∧n.M7≤1000)(T:ThP c mem n)(S:Bhp c n a run size):Aum c (A4x c n a run size)∧ThP c mem (A4x c n a run size):=by
 obtain⟨b1,b2,_⟩:=A1 L.conf
 have hz:=S.hz;have ha:=S.at_;have hn:=S.cnt
 have hrun:run=(size+c.Ds - 1) / c.Ds:=by
  rw[S.hr];unfold Aw6;rw[Abx.2 ⟨by omega,by omega⟩,Abx.2 ⟨by omega,by omega⟩];rfl
 have hru:size≤run*c.Ds:=by
  have:=Int.lt_ediv_add_one_mul_self (size+c.Ds - 1) (show 0<c.Ds by omega)
  grind
 have hr1:1≤run:=by
  rw[hrun];exact(Int.le_ediv_iff_mul_le (by omega)).2 (by omega)
 have q0:0≤a*c.Ds:=Int.mul_nonneg (by omega) (by omega)
 have q1:a*c.Ds+run*c.Ds≤c.Ad*c.Ds:=by
  rw[←Int.add_mul];exact Int.mul_le_mul_of_nonneg_right (by omega) (by omega)
 have hby:Alp c=c.Ad*c.Ds:=by unfold Alp;rw[L.conf];rfl
 have htb:As2 c (Bl.mk (a*c.Ds) size run)=true:=by
  unfold As2;rw[decide_eq_true (show A0u c (Bl.mk (a*c.Ds) size run) from⟨L.conf,by grind,q0,by grind⟩)]
  show(bif run==0 then _ else decide (size>c.Ds)&&(run==Aw6 size c.Ds&&(a*c.Ds) % c.Ds==0))=true
  rw[As5 (by omega),cond_false,decide_eq_true (by omega),←S.hr,Int.mul_emod_left];simp
 have hdv: ∀j,a*c.Ds≤j->j<a*c.Ds+size->a≤j / c.Ds∧j / c.Ds<a+run:=fun j h1 h2=>by
  refine⟨(Int.le_ediv_iff_mul_le (by omega)).2 h1,Int.ediv_lt_of_lt_mul (by omega) ?_⟩
  grind
 have htc:Au6 c (n.Ad++A8b a run) (Bl.mk (a*c.Ds) size run)=true:=by
  unfold Au6;rw[htb,Z30,Z1];intro j hj;rw[List.mem_range]at hj
  have e1:=hdv (a*c.Ds) (Int.le_refl _) (by omega)
  have e2:=hdv (a*c.Ds+size - 1) (by omega) (by omega)
  have hj:j<((a*c.Ds+size - 1) / c.Ds - a*c.Ds / c.Ds+1).toNat:=hj;refine List.contains_iff_mem.2 (Nj.2 (.inr (A8c.2 ?_)))
  grind
 have hmono: ∀x∈n.Ad,x∈n.Ad++A8b a run:=fun x h=>Nj.2 (.inl h)
 have hold: ∀o∈n.D3,∀j,o.fAt≤j->j<o.fAt+o.Xu->a*c.Ds≤j->j<a*c.Ds+size->False:=fun o h j h1 h2 h3 h4=>S.new _ (Bar (Z1.1 T.inch o h) h1 h2) (hdv j h3 h4)
 have hd:=A47.1 L.dist;refine⟨⟨L.conf,L.st,L.gen,L.up,L.first,L.next,L.prev,L.ep,L.ue,?_,?_,?_,L.ntag,L.tags,?_⟩,⟨?_,?_,?_⟩⟩
 ·refine A47.2 ⟨Apb.2 ⟨hd.1,Bho _ _,fun x h1 h2=>S.new x h1 (A8c.1 h2)⟩,fun x hx=> ?_⟩;rcases Nj.1 hx with h|h
  ·grind
  ·have:=A8c.1 h;omega
 ·have:=L.cur;unfold A7u at this ⊢
  show(bif n.M7==0 then n.Gz==0 else(n.Ad++A8b a run).contains (Ark .i64 n.M7 1)&&inB n.Gz 0 c.Ds)=true
  grind
 ·show(n.D3++[_]).length≤12
  grind
 ·show(n.D3++[_]).all (As2 c)=true
  grind [Aum.things]
 ·show(n.D3++[_]).all (Au6 c (n.Ad++A8b a run))=true;rw[List.all_append,Gp,htc,Z4,Z1];exact⟨fun o h=>Bjf hmono (Z1.1 T.inch o h),rfl⟩
 ·exact A79 T.apart fun o h=>A48 fun j h1 h2 h3 h4=>hold o h j h1 h2 h3 h4
 ·have hlo:=T.loose;unfold Au8 at hlo ⊢;rw[Bool.or_eq_true,Z4]at hlo ⊢;rcases hlo with h|⟨h,h'⟩
  ·exact .inl h
  ·by_cases e:n.M7=0
   ·exact .inl (by show(n.M7==0)=true;grind)
   ·refine .inr ⟨h,?_⟩
    show(n.D3++[_]).all (fun t=>Aor t (Ayf c n))=true;rw[List.all_append,h',Gp,Z30,Z4];refine⟨A48 fun j h1 h2 h3 h4=> ?_,rfl⟩;obtain⟨m1,m2,m3⟩:=A8a L hc e
    have h3:(n.M7 - 1)*c.Ds+n.Gz≤j:=h3
    have h4:j<(n.M7 - 1)*c.Ds+n.Gz+(c.Ds - n.Gz):=h4
    have:=A8r (a:=n.M7 - 1) (s:=c.Ds) (j:=j) (by omega) (by omega) (by omega)
    exact S.new _ m1 (by grind)
def A7m (al:Int):Bool:=al==1||(al==2||al==4)
theorem A5q (K:Nat)(al:Int):Auz K al=some (A7m al):=by
 grind [Auz,A7m]
theorem Bfr{al:Int}(h:A7m al=true):al=1∨al=2∨al=4:=by
 simp_all[A7m]
theorem Bhq (K:Nat){b al:Int}(hb:0≤b∧b≤1000)(ha:A7m al=true): ∃off,A1l K b al=some off∧b≤off∧off≤2000:=by
 unfold A1l;rw[Aok,Abx.2 ⟨by omega,by omega⟩,A5q,ha]
 simp only[Z0,cond_true,Bool.not_true,cond_false]
 have e:Ark .i64 (Arj .i64 b al) 1=b+al - 1:=by
  grind [Bfr,Ark,Arj,Gy]
 rw[e]
 have key: ∀a:Int,1≤a->a≤4->Arl .i64 (Aow .i64 (b+a - 1) a) a=(b+a - 1) / a*a:=by
  intro a h1 h2
  have h3:(b+a - 1) / a≤b+a - 1:=Int.ediv_le_self _ (by omega)
  have h4:0≤(b+a - 1) / a:=Int.ediv_nonneg (by omega) (by omega)
  have h5:=Axe (a:=(b+a - 1) / a) (b:=a) (m:=2000) (n:=4) h4 (by omega) (by omega) h2
  grind [Aow,Arl,Gy]
 rcases Bfr ha with h|h|h
 ·subst h;rw[if_pos (by decide),key 1 (by omega) (by omega)]
  grind
 ·subst h;rw[if_pos (by decide),key 2 (by omega) (by omega)]
  grind
 ·subst h;rw[if_pos (by decide),key 4 (by omega) (by omega)]
  grind
section
variable {K:Nat} (hK:281474976710656≤K)
include hK
theorem Bb8{c:Fc}{n:Ax}(L:Aum c n)(W:Atw n)(hc:0≤n.M7∧n.M7≤1000)(size al:Int)(hs: -1000000≤size∧size≤1000000): ∃at_ b,Az0 K c n size al=some (at_,b)∧(b=true-> ∃off,at_=(n.M7 - 1)*c.Ds+off∧n.M7≠0∧n.Gz≤off∧1≤size∧off+size≤c.Ds):=by
 obtain⟨b1,b2,_⟩:=A1 L.conf
 have h1:=Aub L.conf L.dist
 have h3:=L.nth
 have h4:=L.ntag;unfold Az0;rw[Ayy hK c n (by omega) (by omega) (by omega),(Ajy.2 L).1]
 simp only[Z0,cond_true]
 by_cases q:n.M7=0
 ·simp_all
 ·rw[As5 q,Aok];simp only[cond_false,Z0]
  by_cases q2:1≤size∧size≤c.Ds
  ·rw[Abx.2 q2,A5q];simp only[cond_true,Z0];cases ha:A7m al with
   |false=>simp_all
   |true=>
    obtain⟨m1,m2,m3⟩:=A8a L hc q
    have hm:=A0v L.dist _ m1;obtain⟨off,eo,ho1,ho2⟩:=Bhq K (b:=n.Gz) ⟨m2,by omega⟩ ha
    simp only[Bool.not_true,cond_false];rw[eo,Z0]
    have e1:Arj .i64 off size=off+size:=by grind [Arj,Gy]
    have e2:Ark .i64 n.M7 1=n.M7 - 1:=sb1 (by omega) (by omega)
    have h5:=Axe (a:=n.M7 - 1) (b:=c.Ds) (m:=12) (n:=16) (by omega) (by omega) (by omega) b2.2
    have e3:Arl .i64 (n.M7 - 1) c.Ds=(n.M7 - 1)*c.Ds:=by grind [Arl,Gy]
    have e4:Arj .i64 ((n.M7 - 1)*c.Ds) off=(n.M7 - 1)*c.Ds+off:=by grind [Arj,Gy]
    rw[e1,e2,e3,e4]
    by_cases q3:off+size>c.Ds
    all_goals simp_all[decide_eq_false]
  ·rw[Bcp.2 q2];grind
theorem A87{c:Fc}{n:Ax}(L:Aum c n)(W:Atw n)(hc:0≤n.M7∧n.M7≤1000)(size al:Int)(hs: -1000000≤size∧size≤1000000): ∃n' b,Axl K c n size al=some (n',b)∧(n'=n∨ ∃off,Bqj c n off size∧n'=Bas c n off size):=by
 have hm:=P2;obtain⟨b1,b2,_⟩:=A1 L.conf
 have h3:=L.nth;obtain⟨at_,b,e,hb⟩:=Bb8 hK L W hc size al hs;unfold Axl;rw[Avv K W,Z0,e,Z0];cases b with
 |false=>grind
 |true=>
  obtain⟨off,e1,h1,h2,h4,h5⟩:=hb rfl;obtain⟨m1,m2,m3⟩:=A8a L hc h1
  have hmi:=A0v L.dist _ m1;simp only[cond_true]
  by_cases q:(n.D3.length:Int)≥12
  ·simp_all
  ·rw[decide_eq_false q];simp only[cond_false];rw[if_pos ⟨by grind,by grind⟩]
   refine⟨_,_,rfl,.inr ⟨off,⟨h1,h2,h4,h5,by omega⟩,?_⟩⟩
   have e2:Ark .i64 n.M7 1=n.M7 - 1:=sb1 (by omega) (by omega)
   have h6:=Axe (a:=n.M7 - 1) (b:=c.Ds) (m:=12) (n:=16) (by omega) (by omega) (by omega) b2.2
   have e3:Arl .i64 (n.M7 - 1) c.Ds=(n.M7 - 1)*c.Ds:=by grind [Arl,Gy]
   have e4:Ark .i64 at_ ((n.M7 - 1)*c.Ds)=off:=by grind [Ark,Gy]
   have e5:Arj .i64 off size=off+size:=by grind [Arj,Gy]
   rw[e2,e3,e4,e5,e1];rfl
theorem Bqk{c:Fc}{n:Ax}(L:Aum c n)(W:Atw n)(hc:0≤n.M7∧n.M7≤1000)(size al:Int)(hs: -1000000≤size∧size≤1000000): ∃b,Ax9 K c n size al=some b:=by
 have h1:=Aub L.conf L.dist
 have h3:=L.nth
 have h4:=L.ntag;obtain⟨at_,b,e,hb⟩:=Bb8 hK L W hc size al hs;unfold Ax9;rw[e,Ayy hK c n (by omega) (by omega) (by omega),(Ajy.2 L).1,Aok,A5q,L.st]
 simp only[Z0];cases b<;>cases inB size 1 c.Ds<;>exact⟨_,rfl⟩
theorem Bfs{c:Fc}{mem:List Int}{n:Ax}(L:Aum c n)(W:Atw n)(hc:0≤n.M7∧n.M7≤1000)(T:ThP c mem n){a run size:Int}(S:Bhp c n a run size):At3 K c n a size=some (A4x c n a run size,true):=by
 have hm:=P2;obtain⟨b1,b2,_⟩:=A1 L.conf
 have h1:=Aub L.conf L.dist
 have h3:=L.nth
 have h4:=L.ntag
 have hz:=S.hz;have ha:=S.at_;obtain⟨L2,T2⟩:=Bfq L hc T S
 have hrun:run=(size+c.Ds - 1) / c.Ds:=by
  rw[S.hr];unfold Aw6;rw[Abx.2 ⟨by omega,by omega⟩,Abx.2 ⟨by omega,by omega⟩];rfl
 have hru:size≤run*c.Ds:=by
  have:=Int.lt_ediv_add_one_mul_self (size+c.Ds - 1) (show 0<c.Ds by omega)
  grind
 have hr1:1≤run:=by
  rw[hrun];exact(Int.le_ediv_iff_mul_le (by omega)).2 (by omega)
 have q1:run*c.Ds≤c.Ad*c.Ds:=Int.mul_le_mul_of_nonneg_right (by omega) (by omega)
 have hby:Alp c=c.Ad*c.Ds:=by unfold Alp;rw[L.conf];rfl
 have e3:Arl .i64 a c.Ds=a*c.Ds:=by
  have h5:=Axe (a:=a) (b:=c.Ds) (m:=12) (n:=16) (by omega) (by omega) (by omega) b2.2
  grind [Arl,Gy]
 unfold At3 Arf Aof;rw[Avv K W,Z0,Atm,L.conf];simp only[Z0,cond_true];rw[show(n.Gt != 1)=false by rw[L.st];rfl,cond_false,decide_eq_true (by omega),cond_true,Axf,Z0,decide_eq_false (by omega),cond_false,Aok,A07 hK L.conf,Abx.2 ⟨by omega,by omega⟩]
 simp only[Z0,Bool.not_true,cond_false];rw[A3s,Z0,←S.hr,Z0]
 have key: ∀(f i:Nat) (v:List Int),(i:Int)≤run->run.toNat - i<f->v=n.Ad++(List.range i).map (fun(j:Nat)=>a+(j:Int))->Ao8 K c a size run f (i:Int) (Ax.mk n.Gt n.C5 n.Mu n.fUp n.Gu n.Bw n.Gv n.Gw v n.M7 n.Gz n.D3 n.De) (Ax.mk 0 0 0 0 0 0 0 0 [] 0 0 [] []) n.Gt n.C5 n.Mu n.fUp n.Gu n.Bw n.Gv n.Gw n.Ad n.M7 n.Gz n.D3 n.De=some (A4x c n a run size,true):=by
  intro f
  induction f with
  |zero=>omega
  |succ f ih=>
   intro i v hi hf hv
   have hvl:v.length=n.Ad.length+i:=by grind
   rw[Ao8]
   by_cases h:(i:Int)=run
   ·rw[decide_eq_false (by omega),cond_false,e3]
    simp only;rw[if_pos ⟨by grind,by grind⟩]
    have el:Ax.mk n.Gt n.C5 n.Mu n.fUp n.Gu n.Bw n.Gv n.Gw v n.M7 n.Gz (n.D3++[Bl.mk (a*c.Ds) size run]) n.De=A4x c n a run size:=by
     grind [A4x,A8b]
    have hl2:=L2.nth
    have hl3:=Aub L2.conf L2.dist;rw[el,Ayy hK c (A4x c n a run size) (by omega) (by omega) (show n.De.length≤_ by omega),(Ajy.2 L2).1]
    rfl
   ·have e1:Arj .i64 a (i:Int)=a+(i:Int):=by unfold Arj;exact Gy (by omega) (by omega)
    rw[decide_eq_true (by omega),cond_true,e1,Wx (by omega)]
    simp only;rw[if_pos ⟨by grind,by grind⟩]
    refine ih (i+1) _ (by omega) (by omega) ?_
    grind [List.range_succ]
 have:=key K 0 n.Ad (by omega) (by omega) (by simp)
 exact this
end
theorem A6k{w:Bm}{E:Int}{n:Nat}(G:Er w E n){k:Int}(hk:AlW w.fL k){p':Ed}{n':Ax}
  (P':A4q w.fC p') (hone: ∀c,0≤c∧c<w.fC.Ad->(gt p'.Gt c=2 ↔ gt w.fP.Gt c=2)∧(gt p'.Gt c=1∧gt p'.Fj c=k ↔ c∈n'.Ad)∧ ∀x,x≠k->(gt p'.Gt c=1∧gt p'.Fj c=x ↔ gt w.fP.Gt c=1∧gt w.fP.Fj c=x))
  (hm:p'.Fi=w.fP.Fi) (hlk:A6b n'=A6b (gt w.fL k)) (L:Aum w.fC n') (T:ThP w.fC w.fP.Fi n') (he:EpP E n') {m:Nat} (hwt:wtN w.fC n'≤wtN w.fC (gt w.fL k)+m):
  Er (Bm.mk w.fC p' (w.fL.set k.toNat n') w.fQ w.Jc) E (n+m)∧AlW (w.fL.set k.toNat n') k∧gt (w.fL.set k.toNat n') k=n':=by
 obtain⟨t,A,F⟩:=G.inv.forest
 have al:=hk.al A
 have hki:=al.lv.1
 have hst:=((A00 A).1 al.lv).2
 have hg: ∀x,0≤x∧x<(w.fL.length:Int)->gt (w.fL.set k.toNat n') x=if x=k then n' else gt w.fL x:=fun x hx=>Atp hki hx n'
 have hgk:gt (w.fL.set k.toNat n') k=n':=A3u hki n'
 have A':AtT (w.fL.set k.toNat n') t:=fun x hx=>by
  rw[Z49]at hx;rw[hg x hx,A x hx]
  grind
 have I':Inv (Bm.mk w.fC p' (w.fL.set k.toNat n') w.fQ w.Jc):=by
  refine Bje G.inv hki p' _ t (by simp) (fun x hx hne=>⟨_,_,_,by rw[hg x hx,if_neg hne];exact(Bao _).symm,?_,?_,?_⟩) (by omega) (by grind) A' F P' hm (by simp_all) (by grind [ThP.inch,ThP.apart,ThP.loose])
  ·rw[←G.inv.len];exact(G.inv.rg.rg x hx).2.1
  ·rw[←G.inv.len];exact(G.inv.rg.rg x hx).2.2.1
  ·rw[←G.inv.len];exact(G.inv.rg.rg x hx).2.2.2
 refine⟨⟨I',by show ∀x∈p'.Fi,_;rw[hm];exact G.mem,fun x hx=> ?_,?_⟩,⟨t,A',by grind⟩,hgk⟩
 ·have hx:0≤x∧x<((w.fL.set k.toNat n').length:Int):=hx;rw[Z49]at hx
  show EpP E (gt (w.fL.set k.toNat n') x)
  grind [Er.ep]
 ·have hs:=A6f (f:=wtN w.fC) (l:=w.fL) (l':=w.fL.set k.toNat n') (by simp) hki fun x hx hne=>by grind
  rw[hgk]at hs
  have h3:=G.wt
  grind [wt,pot]
theorem Er.live{w:Bm}{E:Int}{n:Nat}(G:Er w E n){k:Int}(hk:AlW w.fL k):(0≤k∧k<(w.fL.length:Int))∧Aum w.fC (gt w.fL k)∧ThP w.fC w.fP.Fi (gt w.fL k)∧EpP E (gt w.fL k):=by
 obtain⟨t,A,F⟩:=G.inv.forest
 have al:=(hk.al A).lv;obtain⟨t1,t2,t3⟩:=G.inv.thing k al.1;exact⟨al.1,G.inv.live A al,⟨t1,t2,t3⟩,G.ep k al.1⟩
theorem Bat{w:Bm}(I:Inv w){k:Int}(hk:0≤k∧k<(w.fL.length:Int)){ch:List Int}(h:ch=(gt w.fL k).Ad): ∀c,0≤c∧c<w.fC.Ad->(gt w.fP.Gt c=2 ↔ gt w.fP.Gt c=2)∧(gt w.fP.Gt c=1∧gt w.fP.Fj c=k ↔ c∈ch)∧ ∀x,x≠k->(gt w.fP.Gt c=1∧gt w.fP.Fj c=x ↔ gt w.fP.Gt c=1∧gt w.fP.Fj c=x):=fun c hc=>⟨Iff.rfl,by simp_all[Inv.own],fun _ _=>Iff.rfl⟩
theorem Bb9{w:Bm}(I:Inv w){p':Ed}{a n k:Int}(hk:0≤k∧k<(w.fL.length:Int))(hf:A4t w.fP a n=true)(T:Bld w.fP p' a n k){ch:List Int}(h: ∀c,c∈ch ↔ c∈(gt w.fL k).Ad∨a≤c∧c<a+n):
  A4q w.fC p'∧ ∀c,0≤c∧c<w.fC.Ad->(gt p'.Gt c=2 ↔ gt w.fP.Gt c=2)∧(gt p'.Gt c=1∧gt p'.Fj c=k ↔ c∈ch)∧ ∀x,x≠k->(gt p'.Gt c=1∧gt p'.Fj c=x ↔ gt w.fP.Gt c=1∧gt w.fP.Fj c=x):=by
 obtain⟨a1,a2⟩:=Bb7 I hk hf T
 grind
section
variable {K:Nat} (hK:281474976710656≤K)
include hK
theorem Bca{E:Int}{n:Nat}(hE:0≤E∧E≤900000000)(hn:n≤900000000){w:Bm}(G:Er w E n){k:Int}(hk:AlW w.fL k)(size al:Int)(hs: -1000000≤size∧size≤1000000)(v19:Fz)(v20 v21 v22 v23 v24 v25 v26:Int)(v27:List Int)(v28 v29 v30:Int):
  ∃r w',Avm K k size al w.fC.Ad w.fC.Ds w.fC.B9 w.fC.Eu w.fC.Ca w.fC.Dt w.fP.Fi w.fP.Gt w.fP.Fj w.fL w.fQ w.Jc v19 v20 v21 v22 v23 v24 v25 v26 v27 v28 v29 v30=some (r,w')∧Er w' E n∧w'.fC=w.fC∧w'.fL.length=w.fL.length:=by
 obtain⟨hki,L,T,e⟩:=G.live hk
 have W:=A5n (Ajy.2 L).1 e (by omega)
 obtain⟨n',b,e1,h⟩:=A87 hK L W e.cur size al hs;unfold Avm;simp only[if_pos hki];rw[show Fc.mk w.fC.Ad w.fC.Ds w.fC.B9 w.fC.Eu w.fC.Ca w.fC.Dt=w.fC from rfl,e1,Z0]
 have P:=Ahs.1 G.inv.pool;refine⟨_,_,rfl,?_,rfl,by simp⟩
 rcases h with h|⟨off,S,h⟩
 ·rw[h];exact(A6k G hk (n':=gt w.fL k) (m:=0) P (Bat G.inv hki rfl) rfl rfl L T e (by omega)).1
 ·rw[h];obtain⟨L2,T2⟩:=Bfp L e.cur T S;exact(A6k G hk (n':=Bas w.fC (gt w.fL k) off size) (m:=0) P (Bat G.inv hki rfl) rfl rfl L2 T2 ⟨e.ep,e.ue,e.cur⟩ (Z9 _)).1
theorem Bql{E:Int}{n:Nat}(hE:0≤E∧E≤900000000)(hn:n≤880000000){w:Bm}(G:Er w E n){k:Int}(hk:AlW w.fL k)(size al:Int)(hs: -1000000≤size∧size≤1000000)(a4:Fz):
  ∃r w',A0e K w k size al a4=some (r,w')∧Er w' E (n+16)∧w'.fC=w.fC∧w'.fL.length=w.fL.length:=by
 obtain⟨hki,L,T,e⟩:=G.live hk
 have W:=A5n (Ajy.2 L).1 e (by omega)
 have WW:=G.ww (by omega) (by omega)
 have hlen:=G.inv.len;obtain⟨b1,b2,b3,b4,b5,b6⟩:=A1 G.inv.conf;obtain⟨nb,e1⟩:=Bqk hK L W e.cur size al hs;unfold A0e;simp only[if_pos hki];rw[e1,Z0];cases nb with
 |false=>
  simp only[cond_false];obtain⟨r,w',h1,h2,h3⟩:=Bca hK hE (by omega) G hk size al hs (Fz.mk 0 (Ce.mk 0 0) (E5.mk (Ce.mk 0 0) 0 0) [] 0 0 0) a4.Zb a4.fH.A9 a4.fH.C5 a4.fR.fH.A9 a4.fR.fH.C5 a4.fR.Mu a4.fR.fNo a4.fB a4.Zc a4.Eu a4.Rd
  exact⟨r,w',h1,Er.le h2 (Int.le_refl E) (by omega),h3⟩
 |true=>
  simp only[cond_true];obtain⟨fb,ef⟩:=A6h hK WW (by omega) 1
  rw[ef,Z0];cases fb with
  |false=>exact⟨_,_,rfl,Er.le G (Int.le_refl E) (by omega),rfl,rfl⟩
  |true=>
   simp only[Bool.not_true,cond_false];obtain⟨d,w1,ed,S⟩:=Bhm hK (by omega:0≤E∧E≤1000000000) (by omega) 0 (run:=1) (by omega) G
   have G1:=S.good;obtain⟨hk1,⟨x1,x2,x3,hnode⟩,_⟩:=S.stay.node k hk;obtain⟨hki1,L1,T1,e1⟩:=G1.live hk1
   have W1:=A5n (Ajy.2 L1).1 e1 (by omega)
   have WW1:=G1.ww (by omega) (by omega)
   have P1:=Ahs.1 G1.inv.pool
   have hst:=P1.st
   have how:=P1.own
   have hc1:=S.stay.conf;obtain⟨ch,ec,hch⟩:=A78 hK (p:=w1.fP) (by grind)
   rw[ed,Z0];simp only;rw[ec,Z0]
   by_cases q:ch<0
   ·rw[decide_eq_true q];exact⟨_,_,rfl,Er.le G1 (Int.le_refl E) (by omega),hc1,S.stay.len⟩
   ·rw[decide_eq_false q];simp only[cond_false]
    have hf:=hch.resolve_left (by omega)
    obtain⟨f1,f2,f3,f4⟩:=A09.1 hf;obtain⟨p',ep,T'⟩:=A7l hK WW1.p (by grind) (by omega) (k:=k) hf
    have hnew:ch ∉ (gt w1.fL k).Ad:=fun h=>by
     have:=((G1.inv.own k hki1 ch).1 h).2.1
     grind
    rw[ep,Z0];simp only[if_pos hki1];rw[A8q hK L1 W1 ⟨f1,by omega⟩ hnew,Z0]
    simp only[if_pos hki1];obtain⟨P',hone⟩:=Bb9 G1.inv hki1 hf T' (ch:=(A63 (gt w1.fL k) ch).Ad) fun c=>by
     show c∈(gt w1.fL k).Ad++[ch] ↔ _
     grind
    have T2:ThP w1.fC w1.fP.Fi (A63 (gt w1.fL k) ch):=by
     refine⟨?_,T1.apart,?_⟩
     ·rw[Z1];exact fun o ho=>Bjf (fun x hx=>Nj.2 (.inl hx)) (Z1.1 T1.inch o ho)
     ·refine A86 rfl rfl ((P1.one ch ⟨f1,by omega⟩).2.2.2 (f4 ch ⟨by omega,by omega⟩)) ?_
      rw[Z1];intro o ho;refine A48 fun j h1 h2 h3 h4=> ?_
      have h3:(ch+1 - 1)*w1.fC.Ds+0≤j:=h3
      have h4:j<(ch+1 - 1)*w1.fC.Ds+0+(w1.fC.Ds - 0):=h4;rw[Int.add_sub_cancel]at h3 h4
      have:=A8r (a:=ch) (s:=w1.fC.Ds) (j:=j) (by omega) (by omega) (by omega)
      have h5:=Bar (Z1.1 T1.inch o ho) h1 h2
      grind
    obtain⟨G2,hk2,hg2⟩:=A6k G1 hk1 (n':=A63 (gt w1.fL k) ch) (m:=16) P' hone T'.mem rfl (A8p L1 ⟨f1,by omega⟩ hnew) T2 ⟨e1.ep,e1.ue,⟨by show 0≤ch+1;omega,by show ch+1≤_;grind⟩⟩ (by
     have hz:w1.fC.Ds.toNat≤16:=by grind
     have hst1:(A63 (gt w1.fL k) ch).Gt=1:=L1.st;unfold wtN;rw[if_pos L1.st,if_pos hst1]
     show 2+(gt w1.fL k).De.length+w1.fC.Ds.toNat*((gt w1.fL k).Ad++[ch]).length≤_;rw[Z23,List.length_singleton,Nat.mul_succ];omega)
    obtain⟨r,w',h1,h2,h3,h4⟩:=Bca hK hE (n:=n+16) (by omega) G2 hk2 size al hs (Fz.mk 0 (Ce.mk 0 0) (E5.mk (Ce.mk 0 0) 0 0) [] 0 0 0) a4.Zb a4.fH.A9 a4.fH.C5 a4.fR.fH.A9 a4.fR.fH.C5 a4.fR.Mu a4.fR.fNo a4.fB a4.Zc a4.Eu d
    refine⟨r,w',h1,h2,h3.trans hc1,h4.trans ?_⟩
    show(w1.fL.set _ _).length=_
    grind [A62.len,Steps.stay]
theorem Bqm{E:Int}{n:Nat}(hE:0≤E∧E≤900000000)(hn:n≤900000000){w:Bm}(G:Er w E n){k:Int}(hk:AlW w.fL k)(size:Int)(hs:w.fC.Ds<size∧size≤200)(hcnt:(gt w.fL k).D3.length<12)(a4:Fz):
  ∃r w',A0d K w k size a4=some (r,w')∧Er w' E (n+192)∧w'.fC=w.fC∧w'.fL.length=w.fL.length:=by
 have WW:=G.ww (by omega) (by omega)
 have hlen:=G.inv.len;obtain⟨b1,b2,b3,b4,b5,b6⟩:=A1 G.inv.conf;unfold A0d Aof;rw[A3s,Z0,Z0];obtain⟨fb,ef⟩:=A6h hK WW (by omega) (Aw6 size w.fC.Ds)
 have hrun:Aw6 size w.fC.Ds=(size+w.fC.Ds - 1) / w.fC.Ds:=by
  unfold Aw6;rw[Abx.2 ⟨by omega,by omega⟩,Abx.2 ⟨by omega,by omega⟩];rfl
 have hr2:Aw6 size w.fC.Ds≤1000:=by
  have:(size+w.fC.Ds - 1) / w.fC.Ds≤size+w.fC.Ds - 1:=Int.ediv_le_self _ (by omega)
  omega
 have hr1:1≤Aw6 size w.fC.Ds:=by
  rw[hrun];exact(Int.le_ediv_iff_mul_le (by omega)).2 (by omega)
 rw[ef,Z0];cases fb with
 |false=>exact⟨_,_,rfl,Er.le G (Int.le_refl E) (by omega),rfl,rfl⟩
 |true=>
  simp only[Bool.not_true,cond_false];obtain⟨d,w1,ed,S⟩:=Bhm hK (by omega:0≤E∧E≤1000000000) (by omega) 0 (run:=Aw6 size w.fC.Ds) (by omega) G
  have G1:=S.good;obtain⟨hk1,⟨x1,x2,x3,hnode⟩,_⟩:=S.stay.node k hk;obtain⟨hki1,L1,T1,e1⟩:=G1.live hk1
  have W1:=A5n (Ajy.2 L1).1 e1 (by omega)
  have WW1:=G1.ww (by omega) (by omega)
  have P1:=Ahs.1 G1.inv.pool
  have hst:=P1.st
  have how:=P1.own
  have hc1:=S.stay.conf;rw[hc1]at hst how;obtain⟨at_,ec,hat⟩:=A85 hK (p:=w1.fP) (n:=Aw6 size w.fC.Ds) (by omega) (by omega)
  rw[ed,Z0];simp only;rw[ec,Z0]
  by_cases q:at_<0
  ·rw[decide_eq_true q];exact⟨_,_,rfl,Er.le G1 (Int.le_refl E) (by omega),hc1,S.stay.len⟩
  ·rw[decide_eq_false q];simp only[cond_false]
   have hf:=hat.resolve_left (by omega)
   obtain⟨f1,f2,f3,f4⟩:=A09.1 hf;obtain⟨p',ep,T'⟩:=A7l hK WW1.p (by omega) (by omega) (k:=k) hf
   have SP:Bhp w1.fC (gt w1.fL k) at_ (Aw6 size w.fC.Ds) size:=by
    refine⟨by grind,by rw[hc1],by grind,fun x hx h=> ?_,by rw[hnode];exact hcnt⟩
    have:=((G1.inv.own k hki1 x).1 hx).2.1
    grind
   obtain⟨L2,T2⟩:=Bfq L1 e1.cur T1 SP;rw[ep,Z0];simp only[if_pos hki1];rw[Bfs hK L1 W1 e1.cur T1 SP,Z0]
   try simp only[if_pos hki1]
   obtain⟨P',hone⟩:=Bb9 G1.inv hki1 hf T' (ch:=(A4x w1.fC (gt w1.fL k) at_ (Aw6 size w.fC.Ds) size).Ad) fun c=>by
    show c∈(gt w1.fL k).Ad++A8b at_ (Aw6 size w.fC.Ds) ↔ _
    simp_all[A8c]
   obtain⟨G2,hk2,hg2⟩:=A6k G1 hk1 (n':=A4x w1.fC (gt w1.fL k) at_ (Aw6 size w.fC.Ds) size) (m:=192) P' hone T'.mem rfl L2 T2 ⟨e1.ep,e1.ue,e1.cur⟩ (by
    have hst1:(A4x w1.fC (gt w1.fL k) at_ (Aw6 size w.fC.Ds) size).Gt=1:=L1.st;unfold wtN;rw[if_pos L1.st,if_pos hst1]
    show 2+(gt w1.fL k).De.length+w1.fC.Ds.toNat*((gt w1.fL k).Ad++A8b at_ (Aw6 size w.fC.Ds)).length≤_
    have hrl:(A8b at_ (Aw6 size w.fC.Ds)).length≤12:=by grind [A8b]
    have:=Nat.mul_le_mul (show w1.fC.Ds.toNat≤16 by grind) hrl
    rw[Z23,Nat.mul_add];omega)
   refine⟨_,_,rfl,G2,hc1,?_⟩
   show(w1.fL.set _ _).length=_
   grind [A62.len,Steps.stay]
theorem Bcb{E:Int}{n:Nat}(hE:0≤E∧E≤900000000)(hn:n≤900000000){w:Bm}(G:Er w E n){k:Int}(hk:0≤k∧k<(w.fL.length:Int))(h:Ce)(c a b d e f g:Int)(l:List Int)(x y z:Int):
  ∃r w',Avn K h k w.fC.Ad w.fC.Ds w.fC.B9 w.fC.Eu w.fC.Ca w.fC.Dt w.fP.Fi w.fP.Gt w.fP.Fj w.fL w.fQ w.Jc c a b d e f g l x y z=some (r,w')∧Er w' E n∧w'.fC=w.fC:=by
 unfold Avn;rw[show Bm.mk (Fc.mk w.fC.Ad w.fC.Ds w.fC.B9 w.fC.Eu w.fC.Ca w.fC.Dt) (Ed.mk w.fP.Fi w.fP.Gt w.fP.Fj) w.fL w.fQ w.Jc=w from rfl]
 cases c != 0 with
 |true=>grind
 |false=>
  simp only[cond_false];obtain⟨t,w2,es,S2⟩:=A9q hK (E:=E) (n:=n) (by omega) (by omega) w.fC.Eu G
  simp only[if_pos hk,es,Z0];exact⟨_,_,rfl,S2.good,S2.stay.conf⟩
theorem A8s{E:Int}{n:Nat}(hE:0≤E∧E≤900000000)(hn:n≤800000000){w:Bm}(G:Er w E n)(h:Ce){size al:Int}(hs:1≤size∧size≤200){k:Int}(a b:Fz)(hk:a.Zb=0->AlW w.fL k∧(gt w.fL k).D3.length<12):
  ∃r w',Ats K h size al k w.fC.Ad w.fC.Ds w.fC.B9 w.fC.Eu w.fC.Ca w.fC.Dt w.fP.Fi w.fP.Gt w.fP.Fj w.fL w.fQ w.Jc a b=some (r,w')∧Er w' E (n+192)∧w'.fC=w.fC:=by
 unfold Ats Arf;rw[show Bm.mk (Fc.mk w.fC.Ad w.fC.Ds w.fC.B9 w.fC.Eu w.fC.Ca w.fC.Dt) (Ed.mk w.fP.Fi w.fP.Gt w.fP.Fj) w.fL w.fQ w.Jc=w from rfl,show Fc.mk w.fC.Ad w.fC.Ds w.fC.B9 w.fC.Eu w.fC.Ca w.fC.Dt=w.fC from rfl]
 by_cases h0:a.Zb=0
 ·obtain⟨hk,hcnt⟩:=hk h0
  have hki:=(G.live hk).1;rw[h0];simp only[bne_self_eq_false,cond_false,Z0]
  by_cases q:size>w.fC.Ds
  ·rw[decide_eq_true q];simp only[cond_true];obtain⟨r,w',h1,h2,h3,h4⟩:=Bqm hK hE (by omega) G hk size ⟨q,hs.2⟩ hcnt a
   rw[h1,Z0];obtain⟨r2,w2,k1,k2,k3⟩:=Bcb hK hE (n:=n+192) (by omega) h2 (k:=k) (by omega) h r.Zb r.fH.A9 r.fH.C5 r.fR.fH.A9 r.fR.fH.C5 r.fR.Mu r.fR.fNo r.fB r.Zc r.Eu r.Rd
   grind
  ·rw[decide_eq_false q];simp only[cond_false];obtain⟨r,w',h1,h2,h3,h4⟩:=Bql hK hE (by omega) G hk size al (by omega) a
   rw[h1,Z0];obtain⟨r2,w2,k1,k2,k3⟩:=Bcb hK hE (n:=n+16) (by omega) h2 (k:=k) (by omega) h r.Zb r.fH.A9 r.fH.C5 r.fR.fH.A9 r.fR.fH.C5 r.fR.Mu r.fR.fNo r.fB r.Zc r.Eu r.Rd
   exact⟨r2,w2,k1,Er.le k2 (Int.le_refl E) (by omega),k3.trans h3⟩
 ·rw[A2d h0];exact⟨_,_,rfl,Er.le G (Int.le_refl E) (by omega),rfl⟩
theorem Bft{E:Int}{n:Nat}(hE:0≤E∧E≤900000000)(hn:n≤800000000){w:Bm}(G:Er w E n)(h:Ce)(size al:Int): ∃r w',A0f K w h size al=some (r,w')∧Er w' E (n+192)∧w'.fC=w.fC:=by
 have W:=G.ww (by omega) (by omega)
 have G0:=Er.le G (Int.le_refl E) (by omega:n≤n+192)
 unfold A0f;rw[Aok,Z0]
 by_cases q:1≤size∧size≤200
 ·rw[Abx.2 q,A5q];simp only[cond_true,Z0];cases A7m al with
  |false=>exact⟨_,_,rfl,G0,rfl⟩
  |true=>
   simp only[Bool.not_true,cond_false];rw[Ax4 hK W.l,Z0,A2l hK w W.l,Z0]
   by_cases h0:(Axx w.fL h).2=0
   ·have hal:=A6z G.inv h0
    have hki:=(G.live hal).1;rw[h0];simp only[beq_self_eq_true,cond_true];simp only[if_pos hki]
    by_cases q2:((gt w.fL (Axx w.fL h).1).D3.length:Int)≥12
    ·rw[decide_eq_true q2];exact A8s hK hE hn G h q (al:=al) (k:=(Axx w.fL h).1) (Fz.mk 8 (Ce.mk 0 0) (E5.mk (Ce.mk 0 0) 0 0) [] (Be6 w h) 0 0) (Fz.mk 0 (Ce.mk 0 0) (E5.mk (Ce.mk 0 0) 0 0) [] 0 0 0) (fun f=>absurd (show(8:Int)=0 from f) (by decide))
    ·rw[decide_eq_false q2];exact A8s hK hE hn G h q (al:=al) (k:=(Axx w.fL h).1) (Fz.mk 0 (Ce.mk 0 0) (E5.mk (Ce.mk 0 0) 0 0) [] (Be6 w h) 0 0) (Fz.mk 0 (Ce.mk 0 0) (E5.mk (Ce.mk 0 0) 0 0) [] 0 0 0) (fun f=>⟨hal,by omega⟩)
   ·rw[As5 h0];exact A8s hK hE hn G h q (al:=al) (k:=(Axx w.fL h).1) (Fz.mk (Axx w.fL h).2 (Ce.mk 0 0) (E5.mk (Ce.mk 0 0) 0 0) [] (Be6 w h) 0 0) (Fz.mk 0 (Ce.mk 0 0) (E5.mk (Ce.mk 0 0) 0 0) [] 0 0 0) (fun f=>absurd f h0)
 ·rw[Bcp.2 q]
  grind
end
def Fu (mem:List Int)(p:Int)(s:List Int):List Int:=mem.take p.toNat++s++mem.drop (p.toNat+s.length)
def A9r (mem:List Int)(t:Bl)(off:Int)(s:List Int):Bool:=decide ((0≤off∧(0:Int)≤(s.length:Int)∧off+(s.length:Int)≤t.Xu)∧0≤Arj .i64 t.fAt off∧Arj .i64 t.fAt off+(s.length:Int)≤(mem.length:Int))
def Bhr (mem:List Int)(t:Bl)(off:Int)(s:List Int):List Int×Bool:=bif A9r mem t off s then(Fu mem (Arj .i64 t.fAt off) s,true)else(mem,false)
theorem Gc{mem:List Int}{p:Int}{s:List Int}(h0:0≤p)(h1:p+(s.length:Int)≤(mem.length:Int)):(Fu mem p s).length=mem.length:=by
 grind [Fu]
theorem Bqn{mem s:List Int}{p j:Nat}(hj:j<s.length)(hp:p+s.length≤mem.length):(mem.take p++s.take j++mem.drop (p+j)).set (p+j) s[j]=mem.take p++s.take (j+1)++mem.drop (p+(j+1)):=by
 have hl:(mem.take p++s.take j).length=p+j:=by grind
 rw[List.set_append_right _ _ (by omega),hl,Nat.sub_self,Z47 (by omega:p+j<mem.length),List.set_cons_zero,←List.take_append_getElem hj]
 grind
section
variable {K:Nat} (hK:281474976710656≤K)
include hK
theorem Bhs{mem s:List Int}(hm:mem.length≤140737488355327)(p:Int)(hs:s.length≤140737488355327):A3k K mem p s=some (bif decide (0≤p∧(0:Int)≤(s.length:Int)∧p+(s.length:Int)≤(mem.length:Int))then(Fu mem p s,true)else(mem,false)):=by
 have hx:=P2;unfold A3k;simp only[Z38];rw[if_pos ⟨by omega,by omega⟩,Be5 K hm,Z0,Agx]
 by_cases h:0≤p∧(0:Int)≤(s.length:Int)∧p+(s.length:Int)≤(mem.length:Int)
 ·rw[decide_eq_true h,cond_true,cond_true];obtain⟨q,rfl⟩: ∃q:Nat,p=q:=⟨p.toNat,by omega⟩
  have:=A9l hK s (by omega) (fun _=>true) (some (Fu mem (q:Int) s,true)) none (fun n j=>Atl K (q:Int) s n (mem.take q++s.take j++mem.drop (q+j)) (j:Int)) (fun n j hj=> ?_) (fun n=> ?_)
  ·rw[Z1.2 (fun _ _=>rfl)]at this
   simp_all
  ·have hl:(mem.take q++s.take j++mem.drop (q+j)).length=mem.length:=by grind
   have e:Arj .i64 (q:Int) (j:Int)=((q+j:Nat):Int):=by grind [Arj,Gy]
   show Atl K (q:Int) s (n+1) _ _=_;rw[Atl,Wy hj,cond_true,if_pos (Agy hj),e,hl,if_pos ⟨by omega,by omega⟩,Wx (by omega),V2 hj,Int.toNat_natCast,Bqn hj (by omega)]
   rfl
  ·show Atl K (q:Int) s (n+1) _ _=_
   simp_all[Atl,Fu]
 grind
theorem A9g{mem s:List Int}(hm:mem.length≤140737488355327)(hs:s.length≤140737488355327){t:Bl}(wt:ThingW t)(off:Int):Ayc K mem t off s=some (Bhr mem t off s):=by
 have hx:=P2;obtain⟨wl1,wl2⟩:=wt.2.1;unfold Ayc A1r Bhr A9r;simp only[Z38];rw[if_pos ⟨by omega,by omega⟩,Bhs hK hm _ hs]
 simp only[Z0];rw[decide_eq_true (show(s.length:Int)≥0 by omega)]
 by_cases h1:(0:Int)≤off
 ·rw[decide_eq_true (show off≥0 from h1)]
  by_cases h3:off≤t.Xu
  ·rw[decide_eq_true h3]
   have e:Ark .i64 t.Xu off=t.Xu - off:=by grind [Ark,Gy]
   grind
  grind
 grind
end
def B1q (n:Ax)(v:Int):Ax:=Ax.mk n.Gt n.C5 n.Mu n.fUp n.Gu n.Bw n.Gv n.Gw n.Ad n.M7 n.Gz n.D3 (n.De++([v]:List Int))
theorem Bsz (K:Nat)(r:E5): ∃b,A3i K r=some b:=by
 unfold A3i;rw[A65];simp only[Z0];cases A35 r.fH<;>cases decide (r.Mu≥0)<;>exact⟨_,rfl⟩
theorem Blh (K:Nat){n:Ax}(hn:Atw n)(r:E5): ∃t b,A1q K n r=some (t,b)∧(b=true->t∈n.D3):=by
 have h2:=hn.things
 have hl:n.D3.length≤140737488355327:=by have:=h2.2;omega
 unfold A1q;rw[A41 K hl];simp only[Z0]
 by_cases hs:0≤r.fNo∧r.fNo<(n.D3.length:Int)
 ·rw[decide_eq_true hs,if_pos hs]
  have hm:gt n.D3 r.fNo∈n.D3:=Apa hs.1 hs.2;cases n.Gt != 1<;>cases n.Mu != r.Mu<;>first|simp_all|grind
 ·rw[decide_eq_false hs]
  simp_all
theorem A88{K:Nat}(hK:281474976710656≤K){w:Bm}(I:Inv w)(hw:Adn w.fL)(r:E5): ∃k t c,Awm K w r=some (k,t,c)∧(c=0->AlW w.fL k∧t∈(gt w.fL k).D3):=by
 unfold Awm;obtain⟨b,h1⟩:=Bsz K r;rw[h1,Ax4 hK hw];simp only[Z0];cases b with
 |false=>exact⟨_,_,_,rfl,fun h=>by cases h⟩
 |true=>
  simp only[Bool.not_true,cond_false]
  by_cases h0:(Axx w.fL r.fH).2=0
  ·have hi:=Bpd h0
   have hal:=A6z I h0;rw[if_pos hi,h0];obtain⟨q,b,h3,h4⟩:=Blh K (hw.1 _ (Apa hi.1 hi.2)) r;rw[h3];simp only[Z0,bne_self_eq_false,cond_false];cases b with
   |false=>exact⟨_,_,_,rfl,fun h=>by cases h⟩
   |true=>exact⟨_,_,_,rfl,fun _=>⟨hal,h4 rfl⟩⟩
  ·rw[A2d h0]
   grind
theorem Bs0{mem:List Int}{p:Int}{s:List Int}(h0:0≤p)(h1:p+(s.length:Int)≤(mem.length:Int)){j:Nat}(hj:j<mem.length)(h: ¬(p≤(j:Int)∧(j:Int)<p+(s.length:Int))):gt (Fu mem p s) (j:Int)=gt mem (j:Int):=by
 have hl:=Gc h0 h1;rw[V2 (by omega),V2 hj]
 unfold Fu
 by_cases q:(j:Int)<p
 ·grind
 ·rw[List.getElem_append_right (by grind),List.getElem_drop]
  grind
theorem Bqo{mem:List Int}{p:Int}{s:List Int}(hm: ∀x∈mem,0≤x∧x≤255)(hs: ∀x∈s,0≤x∧x≤255): ∀x∈Fu mem p s,0≤x∧x≤255:=by
 intro x hx;unfold Fu at hx;rcases Nj.1 hx with h|h
 ·rcases Nj.1 h with h|h
  ·exact hm x (Z42 h)
  ·exact hs x h
 ·exact hm x (List.mem_of_mem_drop h)
theorem Bqp{w:Bm}{E:Int}{n:Nat}(G:Er w E n){k:Int}(hk:AlW w.fL k){t:Bl}(ht:t∈(gt w.fL k).D3){mem':List Int}(hl:mem'.length=w.fP.Fi.length)
  (hb: ∀x∈mem',0≤x∧x≤255) (hs: ∀j:Nat,j<w.fP.Fi.length-> ¬(t.fAt≤(j:Int)∧(j:Int)<t.fAt+t.Xu)->gt mem' (j:Int)=gt w.fP.Fi (j:Int)):
  Er (Bm.mk w.fC (Ed.mk mem' w.fP.Gt w.fP.Fj) w.fL w.fQ w.Jc) E n:=by
 have I:=G.inv
 have P:=Ahs.1 I.pool;obtain⟨hki,L,T,e⟩:=G.live hk;obtain⟨b1,b2,b3,b4,b5,b6⟩:=A1 I.conf
 have hin: ∀j,t.fAt≤j->j<t.fAt+t.Xu->j / w.fC.Ds∈(gt w.fL k).Ad:=fun j h1 h2=>Bar (Z1.1 T.inch t ht) h1 h2
 have hz: ∀a m:Nat,Atn ((w.fP.Fi.drop a).take m)=true->(∀j:Nat,a≤j->j<a+m-> ¬(t.fAt≤(j:Int)∧(j:Int)<t.fAt+t.Xu))->Atn ((mem'.drop a).take m)=true:=by
  grind [A6e]
 have hch: ∀c,0≤c∧c<w.fC.Ad->gt w.fP.Gt c≠1-> ∀j:Nat,(c*w.fC.Ds).toNat≤j->j<(c*w.fC.Ds).toNat+w.fC.Ds.toNat-> ¬(t.fAt≤(j:Int)∧(j:Int)<t.fAt+t.Xu):=by
  intro c hc hst j h1 h2 h3
  have h0:0≤c*w.fC.Ds:=Int.mul_nonneg hc.1 (by omega)
  have h4:=hin j h3.1 h3.2;rw[A8r (a:=c) (by omega) (by omega) (by omega)]at h4
  exact hst ((I.own k hki c).1 h4).2.1
 refine⟨Bdk I (Ed.mk mem' w.fP.Gt w.fP.Fj) w.fQ w.Jc ⟨P.conf,by rw[←P.mem];grind,P.st,P.own,fun c hc=> ?_⟩ (fun c hc=>⟨Iff.rfl,rfl⟩) (fun x hx=> ?_) rfl rfl (fun x hx=> ?_) I.chn I.chi I.log,hb,G.ep,G.wt⟩
 ·obtain⟨p1,p2,p3,p4⟩:=P.one c hc;refine⟨p1,p2,p3,fun h=>hz _ _ (p4 h) fun j h1 h2=>hch c hc ?_ j h1 h2⟩
  grind
 ·have h3:=(I.thing x hx).2.2
  by_cases hs1:(gt w.fL x).Gt=1
  ·have Lx:=Ajy.1 ⟨I.node x hx,hs1⟩
   have ex:=G.ep x hx
   by_cases hcur:(gt w.fL x).M7=0
   ·grind [Au8]
   ·obtain⟨m1,m2,m3⟩:=A8a Lx ex.cur hcur
    have hm:=A0v Lx.dist _ m1
    have h0:0≤((gt w.fL x).M7 - 1)*w.fC.Ds:=Int.mul_nonneg hm.1 (by omega)
    unfold Au8 at h3 ⊢;rw[As5 hcur,Z52,Z4]at h3 ⊢;refine⟨hz _ _ h3.1 fun j h1 h2 h4=> ?_,h3.2⟩
    have h1:(((gt w.fL x).M7 - 1)*w.fC.Ds+(gt w.fL x).Gz).toNat≤j:=h1
    have h2:j<(((gt w.fL x).M7 - 1)*w.fC.Ds+(gt w.fL x).Gz).toNat+(w.fC.Ds - (gt w.fL x).Gz).toNat:=h2
    have h5:=hin j h4.1 h4.2;rw[A8r (a:=(gt w.fL x).M7 - 1) (by omega) (by omega) (by omega)]at h5
    have e1:=((I.own k hki _).1 h5).2.2
    have e2:=((I.own x hx _).1 m1).2.2
    have exk:x=k:=by omega
    rw[exk]at h3 h1 h2;refine Bfo (Z1.1 h3.2 t ht) h4.1 h4.2 (b:=Ayf w.fC (gt w.fL k)) ?_ ?_
    ·grind
    ·show(j:Int)<((gt w.fL k).M7 - 1)*w.fC.Ds+(gt w.fL k).Gz+(w.fC.Ds - (gt w.fL k).Gz)
     grind
  ·rw[A18 (I.node x hx) hs1];rfl
 ·obtain⟨a,b⟩:=I.wrec x hx;refine⟨a,?_⟩
  have R:=A0x.1 a
  by_cases hc:0<x.Ad.length
  ·have hm:gt x.Ad 0∈x.Ad:=Al6 (i:=0) hc
   have h1:=(I.chi _).1 (Bdg hx hm);unfold Aq8 at b ⊢;rw[Bool.or_eq_true]at b ⊢;rcases b with b|b
   ·grind
   ·refine .inr (hz _ _ b fun j h2 h3=>hch _ h1.1 (by omega) j h2 ?_)
    have hd:=R.done
    grind
  grind [Aq8]
section
variable {K:Nat} (hK:281474976710656≤K)
include hK
theorem Bs1{E:Int}{n:Nat}(hE:0≤E∧E≤900000000)(hn:n≤800000000){w:Bm}(G:Er w E n)(r:E5)(off m:Int): ∃a,A4g K w r off m=some (w,a):=by
 have W:=G.ww (by omega) (by omega)
 have P:=A6y (Ahs.1 G.inv.pool);obtain⟨k,t,c,e,h⟩:=A88 hK G.inv W.l r;unfold A4g;rw[Axg hK W,Azm hK w W,G.inv.ok,e,A2l hK w W.l];simp only[Z0,Bool.not_true,cond_false]
 by_cases h0:c=0
 ·obtain⟨hk,ht⟩:=h h0
  have hT:=Bdj (Z1.1 (G.live hk).2.1.things t ht);rw[h0];simp only[bne_self_eq_false,cond_false];rw[Bac K (by omega) hT,Z0]
  cases (Bpg w.fP.Fi t off m).2<;>exact⟨_,rfl⟩
 simp_all[A2d]
theorem Bqq{E:Int}{n:Nat}(hE:0≤E∧E≤900000000)(hn:n≤800000000){w:Bm}(G:Er w E n)(r:E5)(off:Int){s:List Int}(hs: ∀x∈s,0≤x∧x≤255)(hl:s.length≤1000000): ∃a w',A3l K w r off s=some (w',a)∧Er w' E n∧w'.fC=w.fC:=by
 have W:=G.ww (by omega) (by omega)
 have P:=A6y (Ahs.1 G.inv.pool);obtain⟨k,t,c,e,h⟩:=A88 hK G.inv W.l r;unfold A3l;rw[Axg hK W,Azm hK w W,G.inv.ok,e,A2l hK w W.l];simp only[Z0,Bool.not_true,cond_false]
 by_cases h0:c=0
 ·obtain⟨hk,ht⟩:=h h0
  have htb:=Z1.1 (G.live hk).2.1.things t ht
  have hT:=Bdj htb;obtain⟨s1,s2,s3,s4⟩:=(A4z htb).1;rw[h0];simp only[bne_self_eq_false,cond_false];rw[A9g hK (by omega) (by omega) hT,Z0]
  unfold Bhr;cases ho:A9r w.fP.Fi t off s with
  |false=>exact⟨_,_,rfl,G,rfl⟩
  |true=>
   unfold A9r at ho;rw[decide_eq_true_iff]at ho
   have ea:Arj .i64 t.fAt off=t.fAt+off:=by grind [Arj,Gy]
   rw[ea]at ho ⊢;refine⟨_,_,rfl,Bqp G hk ht (Gc (by omega) (by omega)) (Bqo G.mem hs) (fun j hj hne=>Bs0 (by omega) (by omega) hj (by omega)),rfl⟩
 ·rw[A2d h0];grind
theorem Bqr{E:Int}{n:Nat}(hE:0≤E∧E≤900000000)(hn:n≤800000000){w:Bm}(G:Er w E n)(h:Ce)(v:Int): ∃a w',A5b K w h v=some (w',a)∧Er w' E (n+1)∧w'.fC=w.fC:=by
 have hm:=P2
 have W:=G.ww (by omega) (by omega)
 have G0:=Er.le G (Int.le_refl E) (by omega:n≤n+1)
 unfold A5b A1s A3m;rw[Axg hK W,Azm hK w W,G.inv.ok,Aok,Ax4 hK W.l,A2l hK w W.l];simp only[Z0,cond_true]
 by_cases hv:0≤v∧v≤255
 ·rw[Abx.2 hv];simp only[Bool.not_true,cond_false]
  by_cases h0:(Axx w.fL h).2=0
  ·have hal:=A6z G.inv h0;obtain⟨hki,L,T,e⟩:=G.live hal;rw[h0];simp only[beq_self_eq_true,cond_true,if_pos hki]
   by_cases q:((gt w.fL (Axx w.fL h).1).De.length:Int)≥6
   ·rw[decide_eq_true q];grind
   ·rw[decide_eq_false q];simp only[cond_false];rw[if_pos ⟨by grind,by grind⟩]
    refine⟨_,_,rfl,?_,rfl⟩
    have P:=Ahs.1 G.inv.pool;refine(A6k G hal (n':=B1q (gt w.fL (Axx w.fL h).1) v) (m:=1) P (Bat G.inv hki rfl) rfl rfl ⟨L.conf,L.st,L.gen,L.up,L.first,L.next,L.prev,L.ep,L.ue,L.dist,L.cur,L.nth,?_,?_,L.things⟩ ⟨T.inch,T.apart,T.loose⟩ ⟨e.ep,e.ue,e.cur⟩ ?_).1
    ·show(_++[v]).length≤6
     grind
    ·show(_++[v]).all _=true;rw[List.all_append,L.tags,Gp,Abx.2 hv];rfl
    ·have hst1:(B1q (gt w.fL (Axx w.fL h).1) v).Gt=1:=L.st;unfold wtN;rw[if_pos L.st,if_pos hst1]
     show 2+(_++[v]).length+w.fC.Ds.toNat*(gt w.fL (Axx w.fL h).1).Ad.length≤_
     grind
  ·rw[As5 h0]
   grind
 ·rw[Bcp.2 hv];exact⟨_,_,rfl,G0,rfl⟩
theorem Bqs{E:Int}{n:Nat}(hE:0≤E∧E≤900000000)(hn:n≤800000000){w:Bm}(G:Er w E n)(h:Ce): ∃a,A3n K w h=some (w,a):=by
 have W:=G.ww (by omega) (by omega)
 unfold A3n A1t;rw[Axg hK W,Azm hK w W,G.inv.ok,Ax4 hK W.l,A2l hK w W.l];simp only[Z0,Bool.not_true,cond_false]
 by_cases h0:(Axx w.fL h).2=0
 ·have hal:=A6z G.inv h0;obtain⟨hki,L,T,e⟩:=G.live hal
  have hn:=W.l.1 _ (Apa hki.1 hki.2);rw[h0];simp only[beq_self_eq_true,cond_true,if_pos hki];unfold A3x;rw[Ayy hK _ _ (Aw4 hK hn.chunks) (Biw hK hn.things) (Aw4 hK hn.tags)];simp only[Z0];cases (gt w.fL (Axx w.fL h).1).M7==0<;>cases Aua w.fC (gt w.fL (Axx w.fL h).1)<;>exact⟨_,rfl⟩
 simp_all[As5]
end
def A2a (a:List Int):Prop:= ∀x∈a,0≤x∧x≤255
theorem Bht{a b:List Int}(h:A2a a)(g:A2a b):A2a (a++b):=by
 intro x hx;rcases Nj.1 hx with h1|h1
 ·exact h x h1
 ·exact g x h1
def Agw (c:Ew):Prop:=A2a c.fb∧c.fb.length≤1048576∧0≤c.fi∧c.fi≤(c.fb.length:Int)
theorem Bjg (x:Int):0≤Arm .i64 x 255∧Arm .i64 x 255≤255:=by
 grind [Arm,BitVec.ofInt,IntKind.bits,Nat.and_le_right,Gy]
theorem Bhu (K:Nat){a:List Int}(hb:A2a a)(ha:a.length≤1048576): ∀(n i:Nat) (v:Int),i≤a.length->a.length - i<n-> ∃c,Ayg K a n v (i:Int)=some c∧Agw c:=by
 intro n
 induction n with
 |zero=>omega
 |succ n ih=>
  intro i v hi hn;rw[Ayg]
  have done: ∀v,Agw (Ew.mk a 0 v):=fun v=>⟨hb,ha,by grind,by grind⟩
  rcases Hw i a.length with h|h
  ·rw[Wy h];simp only[cond_true];cases decide ((i:Int)<4000)with
   |false=>grind
   |true=>
    simp only[cond_true];rw[if_pos ⟨by omega,by omega⟩,Wx (i:=i) (by omega)]
    exact ih (i+1) _ h (by omega)
  ·rw[Aqt h];grind
theorem Bau{K:Nat}(hK:281474976710656≤K){a:List Int}(hb:A2a a)(ha:a.length≤1048576): ∃c,Ay8 K a=some c∧Agw c:=by
 unfold Ay8;exact Bhu K hb ha K 0 _ (Z21 _) (by omega)
theorem A60 (K:Nat){c:Ew}(hc:Agw c): ∃r,Aui K c=some r∧(0≤r.1∧r.1≤255)∧Agw r.2:=by
 obtain⟨h1,h2,h3,h4⟩:=hc;unfold Aui Az6;rw[if_pos (by decide),if_pos (by decide)]
 by_cases h:c.fi<(c.fb.length:Int)
 ·rw[decide_eq_true h];simp only[cond_true];rw[if_pos ⟨h3,h⟩]
  have e:Arj .i64 c.fi 1=c.fi+1:=by grind [Arj,Gy]
  exact⟨_,rfl,Bjg _,h1,h2,by grind,by grind⟩
 ·rw[decide_eq_false h];exact⟨_,rfl,Bjg _,h1,h2,h3,h4⟩
theorem Afc (K:Nat){c:Ew}(hc:Agw c){n:Int}(hn:0<n): ∃r,Ap K c n=some r∧(0≤r.1∧r.1<n)∧Agw r.2:=by
 unfold Ap;rw[decide_eq_false (show ¬n≤0 by omega)]
 simp only[cond_false];obtain⟨r1,e1,b1,w1⟩:=A60 K hc
 by_cases h:n≤256
 ·rw[decide_eq_true h,e1];simp only[cond_true,Z0];rw[if_pos (by omega)]
  simp_all[Int.tmod_nonneg,Int.tmod_lt_of_pos]
 ·rw[decide_eq_false h,e1];simp only[cond_false,Z0];obtain⟨r2,e2,b2,w2⟩:=A60 K w1;rw[e2];simp only[Z0];obtain⟨r3,e3,b3,w3⟩:=A60 K w2;rw[e3];simp only[Z0];rw[if_pos (by omega)]
  refine⟨_,rfl,⟨Int.tmod_nonneg _ ?_,Int.tmod_lt_of_pos _ hn⟩,w3⟩;unfold Arj Arl;rw[Gy (n:=r1.1*65536) (by omega) (by omega),Gy (n:=r2.1*256) (by omega) (by omega),Gy (n:=r1.1*65536+r2.1*256) (by omega) (by omega),Gy (by omega) (by omega)]
  omega
theorem A1a (K:Nat){c:Ew}(hc:Agw c){n:Int}(hn:0<n): ∃r,Aqm K c n=some r∧Agw r.2:=by
 obtain⟨r,e,_,w⟩:=Afc K hc hn
 simp_all[Aqm]
theorem A25 (K:Nat){c:Ew}(hc:Agw c){l:List Int}(hl:0<l.length): ∃x c',K0 K c l=some (x,c',l)∧x∈l∧Agw c':=by
 obtain⟨r,e,b,w⟩:=Afc K hc (n:=(l.length:Int)) (by omega)
 unfold K0;rw[e];simp only[Z0];rw[if_pos b];exact⟨_,_,rfl,Apa b.1 b.2,w⟩
theorem A89 (K:Nat){c:Ew}(hc:Agw c)(n:Int): ∃r,Ap K c n=some r∧Agw r.2:=by
 by_cases h:0<n
 ·obtain⟨r,e,_,w⟩:=Afc K hc h
  grind
 ·unfold Ap
  simp_all
theorem B1r (x:Int):0≤IntKind.u8.wrap x∧IntKind.u8.wrap x≤255:=by rw[IntKind.wrap_u8];omega
theorem Bav{K:Nat}(hK:281474976710656≤K){c:Ew}(hc:Agw c){n:Int}(h1:n≤1000): ∃b c',A1h K c n=some (b,c')∧A2a b∧b.length≤1000∧Agw c':=by
 have hm:=P2
 have key: ∀(f i:Nat) (l:List Int) (c:Ew),Agw c->A2a l->l.length=i->(i:Int)≤1000->(1000 - i)<f-> ∃b c',Av7 K n f l (i:Int) c.fb c.fi c.fh=some (b,c')∧A2a b∧b.length≤1000∧Agw c':=by
  intro f
  induction f with
  |zero=>omega
  |succ f ih=>
   intro i l c hc hl hi h2 hf;rw[Av7]
   by_cases q:(i:Int)<n
   ·obtain⟨r,e,_,w⟩:=A60 K hc;rw[decide_eq_true q,cond_true,show Ew.mk c.fb c.fi c.fh=c from rfl,e,Z0,if_pos ⟨by grind,by grind⟩,Wx (by omega)]
    exact ih (i+1) _ r.2 w (Bht hl fun x hx=>by simp_all[B1r]) (by simp[hi]) (by omega) (by omega)
   ·rw[decide_eq_false q]
    grind
 exact key K 0 [] c hc (fun x hx=>by cases hx) rfl (by omega) (by omega)
def Ali (o:Df):Prop:=A2a o.fB∧o.fB.length≤1000
theorem Atq (k:Int)(h:Ce)(r:E5)(n m:Int):Ali (Df.mk k h r n m []):=⟨(fun x hx=>by cases hx),Z21 _⟩
theorem Bfu (K:Nat){c:Ew}(hc:Agw c): ∃h c',Az8 K c=some (h,c')∧Agw c':=by
 unfold Az8;obtain⟨r,e,_,w⟩:=Afc K hc (n:=5) (by omega)
 obtain⟨q,e2,_,w2⟩:=Afc K w (n:=3) (by omega)
 rw[e,Z0,e2];exact⟨_,_,rfl,w2⟩
theorem Baw{K:Nat}(hK:281474976710656≤K){c:Ew}(hc:Agw c)(k:Int)(b:Bool)(r:E5)(h:Ce){o:Df}(ho:Ali o)(p:Df): ∃o' c',Aun K k b c.fb c.fi c.fh r h o p=some (o',c')∧Ali o'∧Agw c':=by
 unfold Aun
 have e0:Ew.mk c.fb c.fi c.fh=c:=rfl;rw[e0];cases b with
 |true=>exact⟨_,_,rfl,⟨ho.1,ho.2⟩,hc⟩
 |false=>
  simp only[cond_false];cases k==2 with
  |true=>
   simp only[cond_true];obtain⟨x,c1,e1,_,w1⟩:=A25 K hc (l:=[1,2,3,5,8,9,17,20,0,201]) (by simp)
   obtain⟨y,c2,e2,_,w2⟩:=A25 K w1 (l:=[1,1,2,4,3]) (by simp)
   rw[e1,Z0,if_pos rfl,e2,Z0,if_pos rfl];exact⟨_,_,rfl,⟨ho.1,ho.2⟩,w2⟩
  |false=>
   simp only[cond_false];cases k==3 with
   |true=>
    simp only[cond_true];obtain⟨x,e1,_,w1⟩:=Afc K hc (n:=4) (by omega)
    obtain⟨y,e2,_,w2⟩:=Afc K w1 (n:=5) (by omega)
    rw[e1,Z0,e2,Z0];exact⟨_,_,rfl,⟨ho.1,ho.2⟩,w2⟩
   |false=>
    simp only[cond_false];cases k==4 with
    |true=>
     simp only[cond_true];obtain⟨x,e1,_,w1⟩:=Afc K hc (n:=4) (by omega)
     obtain⟨y,e2,b2,w2⟩:=Afc K w1 (n:=4) (by omega)
     obtain⟨z,c3,e3,b3,l3,w3⟩:=Bav hK w2 (n:=y.1) (by omega)
     rw[e1,Z0,e2,Z0,e3,Z0];exact⟨_,_,rfl,⟨b3,l3⟩,w3⟩
    |false=>
     simp only[cond_false];cases k==5 with
     |true=>
      simp only[cond_true];obtain⟨x,c1,e1,_,w1⟩:=A25 K hc (l:=[1,7,255,256]) (by simp)
      rw[e1,Z0,if_pos rfl];exact⟨_,_,rfl,⟨ho.1,ho.2⟩,w1⟩
     |false=>exact⟨_,_,rfl,ho,hc⟩
theorem Bax{K:Nat}(hK:281474976710656≤K){c:Ew}(hc:Agw c): ∃o c',Ayi K c=some (o,c')∧Ali o∧Agw c':=by
 unfold Ayi;obtain⟨r1,e1,_,w1⟩:=Afc K hc (n:=9) (by omega)
 obtain⟨h2,c2,e2,w2⟩:=Bfu K w1;obtain⟨r3,e3,_,w3⟩:=Afc K w2 (n:=2) (by omega)
 obtain⟨r4,e4,_,w4⟩:=Afc K w3 (n:=3) (by omega)
 rw[e1,Z0,e2,Z0,e3,Z0,e4,Z0];cases Arj .i64 1 r1.1==1 with
 |true=>
  simp only[cond_true];obtain⟨r5,e5,w5⟩:=A1a K w4 (n:=2) (by omega)
  rw[e5,Z0];cases r5.1 with
  |true=>exact⟨_,_,rfl,Atq _ _ _ _ _,w5⟩
  |false=>exact⟨_,_,rfl,Atq _ _ _ _ _,w5⟩
 |false=>
  simp only[cond_false];cases Arj .i64 1 r1.1==6 with
  |true=>simp_all[Baw,Atq]
  |false=>
   simp only[cond_false];cases Arj .i64 1 r1.1==7 with
   |true=>simp_all[Baw,Atq]
   |false=>simp_all[Baw,Atq]
theorem Bcc (K:Nat){c:Ew}(hc:Agw c): ∃x c',Azr K c=some (x,c')∧Agz x=true∧Agw c':=by
 unfold Azr;obtain⟨r1,e1,b1,w1⟩:=Afc K hc (n:=11) (by omega)
 obtain⟨x2,c2,e2,m2,w2⟩:=A25 K w1 (l:=[8,8,9,12,16]) (by simp)
 obtain⟨r3,e3,b3,w3⟩:=Afc K w2 (n:=7) (by omega)
 obtain⟨r4,e4,b4,w4⟩:=Afc K w3 (n:=6) (by omega)
 obtain⟨x5,c5,e5,m5,w5⟩:=A25 K w4 (l:=[1,3,4,8,16]) (by simp)
 obtain⟨r6,e6,b6,w6⟩:=Afc K w5 (n:=4) (by omega)
 rw[e1,Z0,e2,Z0,if_pos rfl,e3,Z0,e4,Z0,e5,Z0,if_pos rfl,e6];refine⟨_,_,rfl,?_,w6⟩
 have a1:Arj .i64 2 r1.1=2+r1.1:=by grind [Arj,Gy]
 have a3:Arj .i64 2 r3.1=2+r3.1:=by grind [Arj,Gy]
 have a4:Arj .i64 1 r4.1=1+r4.1:=by grind [Arj,Gy]
 have a6:Arj .i64 1 r6.1=1+r6.1:=by grind [Arj,Gy]
 rw[a1,a3,a4,a6]
 have m2:x2=8∨x2=8∨x2=9∨x2=12∨x2=16:=by grind
 have m5:x5=1∨x5=3∨x5=4∨x5=8∨x5=16:=by grind
 unfold Agz;simp only[Z4,Abx];omega
theorem Bhv{w:Bm}{E:Int}{n:Nat}(G:Er w E n)(hE:0≤E){k:Int}(hk:AlW w.fL k):Er (A2m w k) E n:=by
 obtain⟨t,A,F⟩:=G.inv.forest
 have al:=hk.al A
 have I':=Bk4 G.inv A F al;obtain⟨hki,L,T,e⟩:=G.live hk
 have R:=G.inv.rg
 have hN:(A2m w k).fL.length=w.fL.length:=by grind [A2m,A3v]
 have hg: ∀x,0≤x∧x<(w.fL.length:Int)->gt (A2m w k).fL x=if x=k then Ate 2 (gt (Atx w.fL k) k).C5 else gt (Atx w.fL k) x:=fun x hx=>by
  unfold A2m;simp only;rw[Atp (by grind [A3v]) (by grind [A3v])];rfl
 refine⟨I',?_,fun x hx=> ?_,?_⟩
 ·show ∀x∈(Als w.fP _).Fi,_;rw[(A4r G.inv hki).2.1];exact G.mem
 ·rw[hN]at hx;rw[hg x hx]
  by_cases q:x=k
  ·rw[if_pos q];exact⟨hE,hE,⟨Int.le_refl 0,by show(0:Int)≤1000;omega⟩⟩
  ·rw[if_neg q,A6c R hki hx q]
   have:=G.ep x hx;exact⟨this.ep,this.ue,this.cur⟩
 ·have hs:=A6f (f:=wtN w.fC) hN hki fun x hx hne=>by rw[hg x hx,if_neg hne,A6c R hki hx hne];rfl
  rw[hg k hki,if_pos rfl,A6g _ (by decide)]at hs
  have e1:wtN w.fC (gt w.fL k)=2+(gt w.fL k).De.length+w.fC.Ds.toNat*(gt w.fL k).Ad.length:=by unfold wtN;rw[if_pos L.st]
  have h3:=G.wt;unfold wt pot at h3 ⊢
  show((A2m w k).fL.map (wtN w.fC)).sum+((w.fQ++[Ajv (gt w.fL k) (Arj .i64 k 1)]).map (wtQ w.fC)).sum+w.Jc.length≤_
  have e2:wtQ w.fC (Ajv (gt w.fL k) (Arj .i64 k 1))=1+(gt w.fL k).De.length+w.fC.Ds.toNat*(gt w.fL k).Ad.length:=rfl
  grind
theorem Bhw{w:Bm}{E:Int}{n:Nat}(G:Er w E n)(hE:0≤E∧E≤900000000){k:Int}(hk:AlW w.fL k):Er (A39 w k) (E+1) (n+1):=by
 obtain⟨t,A,F⟩:=G.inv.forest
 have al:=hk.al A;obtain⟨hki,L,T,e⟩:=G.live hk
 have h0:=L.ep
 have h1:=e.ep
 have I':=Bk5 G.inv A F al (by omega)
 have hN:(A39 w k).fL.length=w.fL.length:=by grind [A39]
 have hg: ∀x,0≤x∧x<(w.fL.length:Int)->gt (A39 w k).fL x=if x=k then A16 (gt w.fL k)else gt w.fL x:=fun x hx=>Atp hki hx _
 refine⟨I',?_,fun x hx=> ?_,?_⟩
 ·show ∀x∈(Als w.fP _).Fi,_;rw[(A4r G.inv hki).2.1];exact G.mem
 ·rw[hN]at hx;rw[hg x hx]
  have hx':=G.ep x hx
  by_cases q:x=k
  ·rw[if_pos q];refine⟨?_,?_,⟨Int.le_refl 0,by show(0:Int)≤1000;omega⟩⟩
   ·show Arj .i64 (gt w.fL k).Mu 1≤_
    grind [ad1]
   ·have:=e.ue
    show(gt w.fL k).Gu≤_;omega
  ·rw[if_neg q]
   have h2:=hx'.ep;have h3:=hx'.ue;exact⟨by omega,by omega,hx'.cur⟩
 ·have hs:=A6f (f:=wtN w.fC) hN hki fun x hx hne=>by grind
  rw[hg k hki,if_pos rfl]at hs
  have e1:wtN w.fC (gt w.fL k)=2+(gt w.fL k).De.length+w.fC.Ds.toNat*(gt w.fL k).Ad.length:=by unfold wtN;rw[if_pos L.st]
  have e0:wtN w.fC (A16 (gt w.fL k))=2:=by
   have hst1:(A16 (gt w.fL k)).Gt=1:=L.st;unfold wtN;rw[if_pos hst1];rfl
  have h3:=G.wt;unfold wt pot at h3 ⊢
  show((A39 w k).fL.map (wtN w.fC)).sum+((w.fQ++[Ajv (gt w.fL k) 0]).map (wtQ w.fC)).sum+w.Jc.length≤_
  have e2:wtQ w.fC (Ajv (gt w.fL k) 0)=1+(gt w.fL k).De.length+w.fC.Ds.toNat*(gt w.fL k).Ad.length:=rfl
  grind
section
variable {K:Nat} (hK:281474976710656≤K)
include hK
theorem Byo{E:Int}{n:Nat}(hE:0≤E∧E≤900000000)(hn:n≤800000000){w:Bm}(G:Er w E n){o:Df}(ho:Ali o): ∃w' a,A2r K w o=some (w',a)∧Er w' E (n+1)∧w'.fC=w.fC:=by
 have W:=G.ww (by omega) (by omega)
 have G0:=Er.le G (Int.le_refl E) (by omega:n≤n+1)
 unfold A2r;cases o.Zd==3 with
 |true=>
  simp only[cond_true];obtain⟨a,e⟩:=Bs1 hK hE hn G o.fR o.fN o.fM
  grind
 |false=>
  simp only[cond_false];cases o.Zd==4 with
  |true=>
   simp only[cond_true];obtain⟨a,w',e,g,c⟩:=Bqq hK hE hn G o.fR o.fN (s:=o.fB) ho.1 (by have:=ho.2;omega)
   rw[e];exact⟨_,_,rfl,Er.le g (Int.le_refl E) (by omega),c⟩
  |false=>
   simp only[cond_false];cases o.Zd==5 with
   |true=>
    simp only[cond_true];obtain⟨a,w',e,g,c⟩:=Bqr hK hE hn G o.fH o.fN
    grind
   |false=>
    simp only[cond_false];cases o.Zd==8 with
    |true=>
     simp only[cond_true];obtain⟨a,e⟩:=Bqs hK hE hn G o.fH
     grind
    |false=>
     simp_all[Axg]
theorem Bqt{E:Int}{n:Nat}(hE:0≤E∧E≤800000000)(hn:n≤700000000){w:Bm}(G:Er w E n)(b:Bool){o:Df}(ho:Ali o)(z:Fz):
  ∃a w',Ayu K b w.fC.Ad w.fC.Ds w.fC.B9 w.fC.Eu w.fC.Ca w.fC.Dt w.fP.Fi w.fP.Gt w.fP.Fj w.fL w.fQ w.Jc z o.Zd o.fH.A9 o.fH.C5 o.fR.fH.A9 o.fR.fH.C5 o.fR.Mu o.fR.fNo o.fN o.fM o.fB=some (a,w')∧Er w' (E+1) (n+1)∧w'.fC=w.fC:=by
 have W:=G.ww (by omega) (by omega)
 have hq:=Bpz w
 have hwt:=G.wt
 have G0:=Er.le G (by omega:E≤E+1) (by omega:n≤n+1)
 unfold Ayu;rw[show Bm.mk (Fc.mk w.fC.Ad w.fC.Ds w.fC.B9 w.fC.Eu w.fC.Ca w.fC.Dt) (Ed.mk w.fP.Fi w.fP.Gt w.fP.Fj) w.fL w.fQ w.Jc=w from rfl]
 cases b with
 |true=>
  simp only[cond_true];rw[Ax4 hK W.l,Z0,A2l hK w W.l,Z0]
  by_cases h0:(Axx w.fL (Ce.mk o.fH.A9 o.fH.C5)).2=0
  ·have hal:=A6z G.inv h0
   have hki:=(G.live hal).1;rw[h0];simp only[bne_self_eq_false,cond_false];cases o.Zd==6 with
   |true=>
    simp only[cond_true];rw[Bc4 hK w W (by omega) hki,Z0]
    exact⟨_,_,rfl,Bhw G (by omega) hal,rfl⟩
   |false=>
    simp only[cond_false];rw[Bhe hK w W (by omega) hki,Z0]
    exact⟨_,_,rfl,Er.le (Bhv G hE.1 hal) (by omega) (by omega),rfl⟩
  ·rw[A2d h0]
   grind
 |false=>
  simp only[cond_false];rw[show Df.mk o.Zd (Ce.mk o.fH.A9 o.fH.C5) (E5.mk (Ce.mk o.fR.fH.A9 o.fR.fH.C5) o.fR.Mu o.fR.fNo) o.fN o.fM o.fB=o from rfl]
  obtain⟨w',a,e,g,c⟩:=Byo hK (by omega) (by omega) G ho
  rw[e];exact⟨_,_,rfl,Er.le g (by omega) (Z9 _),c⟩
theorem B1s{E:Int}{n:Nat}(hE:0≤E∧E≤800000000)(hn:n≤700000000){w:Bm}(G:Er w E n){o:Df}(ho:Ali o): ∃a w',A3o K w o=some (a,w')∧Er w' (E+1) (n+192)∧w'.fC=w.fC:=by
 unfold A3o;cases o.Zd==1 with
 |true=>
  simp only[cond_true];obtain⟨r,w',e,g,c⟩:=Bhn hK (by omega) (by omega) G o.fH
  rw[e];exact⟨_,_,rfl,Er.le g (by omega) (by omega),c⟩
 |false=>
  simp only[cond_false];cases o.Zd==2 with
  |true=>
   simp only[cond_true];obtain⟨r,w',e,g,c⟩:=Bft hK (by omega) (by omega) G o.fH o.fN o.fM
   rw[e];exact⟨_,_,rfl,Er.le g (by omega) (by omega),c⟩
  |false=>
   simp only[cond_false];cases o.Zd==9 with
   |true=>
    simp only[cond_true];obtain⟨r,w',e,S⟩:=A9q hK (E:=E) (n:=n) (by omega) (by omega) 4000 G
    rw[e];exact⟨_,_,rfl,Er.le S.good (by omega) (by omega),S.stay.conf⟩
   |false=>
    simp only[cond_false];cases o.Zd==6 with
    |true=>
     simp only[cond_true];obtain⟨r,w',e,g,c⟩:=Bqt hK hE hn G true ho (Fz.mk 0 (Ce.mk 0 0) (E5.mk (Ce.mk 0 0) 0 0) [] 0 0 0);exact⟨_,_,e,Er.le g (Int.le_refl _) (by omega),c⟩
    |false=>
     simp only[cond_false];obtain⟨r,w',e,g,c⟩:=Bqt hK hE hn G (o.Zd==7) ho (Fz.mk 0 (Ce.mk 0 0) (E5.mk (Ce.mk 0 0) 0 0) [] 0 0 0);exact⟨_,_,e,Er.le g (Int.le_refl _) (by omega),c⟩
end
theorem Bdq{α:Type}[Inhabited α]{n:Nat}(x:α){k:Int}(hk:0≤k∧k<(n:Int)):gt (List.replicate n x) k=x:=by
 obtain⟨j,rfl⟩: ∃j:Nat,k=j:=⟨k.toNat,by omega⟩
 grind [V2]
theorem Bay{α:Type}(i:Nat)(x:α):List.replicate i x++[x]=List.replicate (i+1) x:=by rw[List.replicate_succ']
section
variable {K:Nat} (hK:281474976710656≤K)
include hK
def Bfv (c:Fc):Ed:=Ed.mk (List.replicate (c.Ad*c.Ds).toNat 0) (List.replicate c.Ad.toNat 0) (List.replicate c.Ad.toNat (-1))
theorem Bhx{c:Fc}(hc:Agz c=true):A1f K c=some (Bfv c):=by
 have hm:=P2;obtain⟨b1,b2,b3,b4,b5,b6⟩:=A1 hc
 have hb:=Axe (a:=c.Ad) (b:=c.Ds) (m:=12) (n:=16) (by omega) b1.2 (by omega) b2.2
 have hby:Alp c=c.Ad*c.Ds:=by grind [Alp]
 unfold A1f A5a;rw[Atm,hc,Z0,Bool.not_true,cond_false,Axf,Z0,hby,Aok,Abx.2 ⟨by omega,by omega⟩]
 simp only[Z0,Bool.not_true,cond_false];rw[if_pos ⟨by omega,by omega,by omega,by omega⟩,Z0]
 have key: ∀(f i:Nat),(i:Int)≤c.Ad->c.Ad.toNat - i<f->Av4 K c f (i:Int) (Ed.mk (List.replicate (c.Ad*c.Ds).toNat 0) (List.replicate i 0) (List.replicate i (-1))) (Ed.mk [] [] [])=some (Bfv c):=by
  intro f
  induction f with
  |zero=>omega
  |succ f ih=>
   intro i hi hf;rw[Av4]
   by_cases q:(i:Int)=c.Ad
   ·rw[decide_eq_false (by omega)]
    unfold Bfv;rw[←q];rfl
   ·rw[decide_eq_true (by omega),cond_true,if_pos ⟨by grind,by grind⟩,if_pos ⟨by grind,by grind⟩,Wx (by omega)]
    simp only;rw[Bay,Bay];exact ih (i+1) (by omega) (by omega)
 exact key K 0 (by omega) (by omega)
theorem Bfw{c:Fc}(hc:Agz c=true):A27 K c=some (List.replicate c.B9.toNat (Ate 0 1)):=by
 have hm:=P2;obtain⟨b1,b2,b3,b4,b5,b6⟩:=A1 hc
 have key: ∀(f i:Nat),(i:Int)≤c.B9->c.B9.toNat - i<f->Avj K c f (List.replicate i (Ate 0 1)) (i:Int)=some (List.replicate c.B9.toNat (Ate 0 1)):=by
  intro f
  induction f with
  |zero=>omega
  |succ f ih=>
   intro i hi hf;rw[Avj]
   by_cases q:(i:Int)=c.B9
   ·grind
   ·unfold Amo;rw[decide_eq_true (by omega),cond_true,Atm,hc]
    simp only[Z0,cond_true];rw[show Ax.mk 0 1 0 0 0 0 0 0 [] 0 0 [] []=Ate 0 1 from rfl,if_pos ⟨by grind,by grind⟩,Wx (by omega),Bay]
    exact ih (i+1) (by omega) (by omega)
 exact key K 0 (by omega) (by omega)
def A3c (c:Fc):Bm:=Bm.mk c (Bfv c) (List.replicate c.B9.toNat (Ate 0 1)) [] []
theorem A9a{c:Fc}(hc:Agz c=true):Atz K c=some (A3c c):=by
 unfold Atz;rw[Atm,hc,Z0,Bool.not_true,cond_false,Bhx hK hc,Z0,Bfw hK hc];rfl
end
def Bqu (_:Int):Lk:=⟨false,false,0,0,0,0,0,0⟩
theorem A5r{N x:Int}: ¬Lv N Bqu x:=fun h=>by have:=h.2;cases this
theorem Bfx (N:Int):Ajm N Bqu []:=by
 refine⟨⟨fun k h=>absurd h A5r,fun k h=>absurd h A5r,fun _ _ _ _=>⟨rfl,rfl,rfl,rfl⟩⟩,⟨fun _=>0,fun x h=>absurd h A5r⟩,⟨fun _=>0,fun x h=>absurd h A5r⟩,⟨List.nodup_nil,fun x=>⟨(fun h=>by cases h),fun h=>absurd h.1 A5r⟩,(fun f h=>by cases h)⟩,trivial,fun x h=>absurd h A5r,fun x h=>absurd h A5r,(fun e h=>by cases h)⟩
theorem Baz{c:Fc}(hc:Agz c=true):Er (A3c c) 0 0:=by
 obtain⟨b1,b2,b3,b4,b5,b6⟩:=A1 hc
 have hb:=Axe (a:=c.Ad) (b:=c.Ds) (m:=12) (n:=16) (by omega) b1.2 (by omega) b2.2
 have hN:((A3c c).fL.length:Int)=c.B9:=by show((List.replicate _ _).length:Int)=_;grind
 have hg: ∀k,0≤k∧k<((A3c c).fL.length:Int)->gt (A3c c).fL k=Ate 0 1:=fun k hk=>Bdq _ (by omega)
 have hs: ∀k,0≤k∧k<c.Ad->gt (A3c c).fP.Gt k=0:=fun k hk=>Bdq _ (by omega)
 have ho: ∀k,0≤k∧k<c.Ad->gt (A3c c).fP.Fj k= -1:=fun k hk=>Bdq _ (by omega)
 have hz: ∀a m:Nat,Atn (((A3c c).fP.Fi.drop a).take m)=true:=fun a m=>by
  rw[A6e];intro j _ _ h
  have h:j<(List.replicate (c.Ad*c.Ds).toNat (0:Int)).length:=h;rw[List.length_replicate]at h;exact Bdq _ ⟨by omega,by omega⟩
 refine⟨⟨Ahs.2 ⟨hc,?_,?_,?_,fun k hk=> ?_⟩,hN,fun k hk=> ?_,fun k hk x=> ?_,fun k hk=> ?_,⟨Bqu,(fun k hk=>by rw[hg k hk];rfl),Bfx _⟩,(fun x h=>by cases h),List.nodup_nil,fun x=> ?_,List.nodup_nil,fun s=> ?_,rfl⟩,fun x hx=> ?_,fun k hk=> ?_,?_⟩
 ·show((List.replicate _ _).length:Int)=c.Ad*c.Ds;grind
 ·show((List.replicate _ _).length:Int)=c.Ad;grind
 ·show((List.replicate _ _).length:Int)=c.Ad;grind
 ·rw[hs k hk,ho k hk];exact⟨by omega,fun h=>by omega,fun _=>rfl,fun _=>hz _ _⟩
 ·rw[hg k hk];exact A6v hc (by omega) (by omega) (by omega)
 ·rw[hg k hk];constructor
  ·intro h;cases h
  ·rintro⟨a,b,_⟩;rw[hs x a]at b;cases b
 ·rw[hg k hk];exact⟨rfl,rfl,rfl⟩
 ·constructor
  ·intro h;cases h
  ·rintro⟨a,b⟩;rw[hs x a]at b;cases b
 ·constructor
  ·intro h;cases h
  ·rintro⟨a,b⟩;rw[hg s a]at b;cases b
 ·have hx:x∈List.replicate (c.Ad*c.Ds).toNat (0:Int):=hx
  grind
 ·rw[hg k hk];exact⟨Int.le_refl 0,Int.le_refl 0,Int.le_refl 0,by show(0:Int)≤1000;omega⟩
 ·have e:wtN c (Ate 0 1)=0:=A6g _ (by decide) _
  simp_all[wt,pot,A3c]
section
variable {K:Nat} (hK:281474976710656≤K)
include hK
def A9b (w:Bm)(o:Df)(c:Ew):Df×Ew×(List Int)×(List Int)×(List Int)×(List Ax)×(List A7)×(List Int):=(o,c,w.fP.Fi,w.fP.Gt,w.fP.Fj,w.fL,w.fQ,w.Jc)
omit hK in
theorem Bfy (w:Bm)(h:Ce)(d:Int){c:Ew}(hc:Agw c)(b:Bool): ∃o c',Av8 K h w.fP.Fi w.fP.Gt w.fP.Fj w.fL w.fQ w.Jc d c.fb c.fi c.fh b=some (A9b w o c')∧Ali o∧Agw c':=by
 unfold Av8;rw[show Ew.mk c.fb c.fi c.fh=c from rfl]
 cases b with
 |true=>
  simp only[cond_true];obtain⟨r,e,_,w1⟩:=Afc K hc (n:=256) (by omega)
  rw[e];exact⟨_,_,rfl,Atq _ _ _ _ _,w1⟩
 |false=>
  simp only[cond_false];cases d==13 with
  |true=>exact⟨_,_,rfl,Atq _ _ _ _ _,hc⟩
  |false=>
   simp only[cond_false];cases d==14 with
   |true=>exact⟨_,_,rfl,Atq _ _ _ _ _,hc⟩
   |false=>
    simp only[cond_false];obtain⟨r,e,w1⟩:=A1a K hc (n:=6) (by omega)
    rw[e,Z0];cases r.1 with
    |true=>exact⟨_,_,rfl,Atq _ _ _ _ _,w1⟩
    |false=>exact⟨_,_,rfl,Atq _ _ _ _ _,w1⟩
theorem Bfz (w:Bm)(h:Ce)(r:E5)(d:Int){c:Ew}(hc:Agw c)(b:Bool): ∃o c',Av9 K h r w.fP.Fi w.fP.Gt w.fP.Fj w.fL w.fQ w.Jc d c.fb c.fi c.fh b=some (A9b w o c')∧Ali o∧Agw c':=by
 unfold Av9;rw[show Ew.mk c.fb c.fi c.fh=c from rfl]
 cases b with
 |true=>
  simp only[cond_true];obtain⟨x,e,b1,w1⟩:=Afc K hc (n:=2) (by omega)
  have e1:Arj .i64 1 x.1=1+x.1:=by grind [Arj,Gy]
  obtain⟨y,c2,e2,b2,l2,w2⟩:=Bav hK w1 (n:=1+x.1) (by omega)
  rw[e,Z0,e1,e2];exact⟨_,_,rfl,⟨b2,l2⟩,w2⟩
 |false=>
  simp only[cond_false];cases d==10 with
  |true=>
   simp only[cond_true];obtain⟨x,e,_,w1⟩:=Afc K hc (n:=3) (by omega)
   rw[e];exact⟨_,_,rfl,Atq _ _ _ _ _,w1⟩
  |false=>
   simp only[cond_false];cases d==11 with
   |true=>simp_all[Bfy]
   |false=>simp_all[Bfy]
theorem Ba0 (w:Bm)(h:Ce)(r:E5)(z d:Int){c:Ew}(hc:Agw c)(b:Bool): ∃o c',Auo K h r z w.fP.Fi w.fP.Gt w.fP.Fj w.fL w.fQ w.Jc d c.fb c.fi c.fh b=some (A9b w o c')∧Ali o∧Agw c':=by
 unfold Auo;rw[show Ew.mk c.fb c.fi c.fh=c from rfl]
 cases b with
 |true=>
  simp only[cond_true];obtain⟨x,c1,e1,_,w1⟩:=A25 K hc (l:=[1,2,3,4,5,8]) (by simp)
  obtain⟨y,c2,e2,_,w2⟩:=A25 K w1 (l:=[1,1,2,4]) (by simp)
  rw[e1,Z0,if_pos rfl,e2,Z0,if_pos rfl];exact⟨_,_,rfl,Atq _ _ _ _ _,w2⟩
 |false=>
  simp only[cond_false];cases d==7 with
  |true=>
   simp only[cond_true];obtain⟨x,e,w1⟩:=A89 K hc z;rw[e];exact⟨_,_,rfl,Atq _ _ _ _ _,w1⟩
  |false=>
   simp only[cond_false];cases d==8 with
   |true=>simp_all[Bfz]
   |false=>simp_all[Bfz]
theorem Ba1 (w:Bm)(h:Ce)(r:E5)(z d:Int){c:Ew}(hc:Agw c)(b:Bool): ∃o c',Aup K h r z w.fP.Fi w.fP.Gt w.fP.Fj w.fL w.fQ w.Jc d b c.fb c.fi c.fh=some (A9b w o c')∧Ali o∧Agw c':=by
 unfold Aup;rw[show Ew.mk c.fb c.fi c.fh=c from rfl]
 cases b with
 |true=>exact⟨_,_,rfl,Atq _ _ _ _ _,hc⟩
 |false=>
  simp only[cond_false];cases d==3 with
  |true=>exact⟨_,_,rfl,Atq _ _ _ _ _,hc⟩
  |false=>
   simp only[cond_false];cases d==4 with
   |true=>simp_all[Ba0]
   |false=>
    simp only[cond_false];cases d==5 with
    |true=>simp_all[Ba0]
    |false=>simp_all[Ba0]
theorem Bf0 (w:Bm)(h:Ce)(r:E5)(q:Df){c:Ew}(hc:Agw c): ∃o c',Awa K h c.fb c.fi c.fh r q w.fC.Ad w.fC.Ds w.fC.B9 w.fC.Eu w.fC.Ca w.fC.Dt w.fP.Fi.length w.fP.Gt.length w.fP.Fj.length w.fL.length w.fQ.length w.Jc.length w.fP.Fi w.fP.Gt w.fP.Fj w.fL w.fQ w.Jc=some (A9b w o c')∧Ali o∧Agw c':=by
 unfold Awa;rw[show Ew.mk c.fb c.fi c.fh=c from rfl]
 obtain⟨x,e,_,w1⟩:=Afc K hc (n:=16) (by omega)
 rw[e,Z0];cases x.1==0 with
 |true=>simp_all[Ba1]
 |false=>
  simp only[cond_false];cases x.1==1 with
  |true=>simp_all[Ba1]
  |false=>simp_all[Ba1]
theorem Bjh{w:Bm}(W:Alq w)(h8:w.fL.length≤1000){c:Ew}(hc:Agw c): ∃o c',Ayj K c w=some (A9b w o c')∧Ali o∧Agw c':=by
 unfold Ayj;obtain⟨r1,e1,hl,hr⟩:=Baq hK W h8;rw[e1,Z0];cases hz:(r1.length:Int)==0 with
 |true=>
  simp only[cond_true];obtain⟨x,e,w1⟩:=A1a K hc (n:=2) (by omega)
  rw[e,Z0];cases x.1 with
  |true=>exact⟨_,_,rfl,Atq _ _ _ _ _,w1⟩
  |false=>
   simp only[cond_false];obtain⟨o,c2,e2,ho,w2⟩:=Bax hK w1;rw[e2];exact⟨_,_,rfl,ho,w2⟩
 |false=>
  have hz: ¬(r1.length:Int)=0:=by grind
  simp only[cond_false];obtain⟨x,e,w1⟩:=A1a K hc (n:=10) (by omega)
  rw[e,Z0];cases x.1 with
  |true=>
   simp only[cond_true];obtain⟨y,e2,w2⟩:=A1a K w1 (n:=2) (by omega)
   rw[e2,Z0];cases y.1 with
   |true=>exact⟨_,_,rfl,Atq _ _ _ _ _,w2⟩
   |false=>
    simp only[cond_false];obtain⟨o,c2,e3,ho,w3⟩:=Bax hK w2;rw[e3];exact⟨_,_,rfl,ho,w3⟩
  |false=>
   simp only[cond_false];obtain⟨y,e2,b2,w2⟩:=Afc K w1 (n:=(r1.length:Int)) (by omega)
   rw[e2,Z0,if_pos b2]
   have hk:=(hr _ (Apa b2.1 b2.2)).1;obtain⟨h,eh⟩:=A6i (K:=K) (l:=w.fL) (by omega) (gt r1 y.1)
   simp only[eh,Z0,if_pos hk];cases decide (((gt w.fL (gt r1 y.1)).D3.length:Int)>0)with
   |true=>
    simp only[cond_true];obtain⟨z,e3,w3⟩:=A89 K w2 ((gt w.fL (gt r1 y.1)).D3.length:Int)
    simp_all[Bf0]
   |false=>
    simp_all[Bf0]
theorem run_ok{c:Ew}(hc:Agw c){most:Int}(hm:0<most∧most≤1000): ∃x l w c' E n,A2s K c most=some (x,l,w,c')∧Er w E n∧(0≤E∧E≤200)∧n≤38400∧w.fC=x∧Agz x=true∧l.length≤200∧(∀o∈l,Ali o)∧Agw c':=by
 have hx:=P2;unfold A2s;obtain⟨x,c1,e1,hx1,w1⟩:=Bcc K hc;obtain⟨y,e2,b2,w2⟩:=Afc K w1 (n:=most) (by omega)
 rw[e1,Z0,A9a hK hx1,Z0,e2,Z0]
 have ea:Arj .i64 4 y.1=4+y.1:=by grind [Arj,Gy]
 rw[ea]
 have key: ∀(f i:Nat) (l:List Df) (w:Bm) (c:Ew),(i:Int)≤4+y.1->i<f->Er w (l.length:Int) (192*l.length)->w.fC=x->l.length≤200->(∀o∈l,Ali o)->Agw c-> ∃x' l' w' c' E n,Axo K f l (i:Int) c.fb c.fi c.fh w x (Bm.mk (Fc.mk 0 0 0 0 0 0) (Ed.mk [] [] []) [] [] []) (Fc.mk 0 0 0 0 0 0)=some (x',l',w',c')∧Er w' E n∧(0≤E∧E≤200)∧n≤38400∧w'.fC=x'∧Agz x'=true∧l'.length≤200∧(∀o∈l',Ali o)∧Agw c':=by
  intro f
  induction f with
  |zero=>omega
  |succ f ih=>
   intro i l w c hi hf G hwc hl ho hcc
   have done: ∃x' l' w' c' E n,some (x,l,w,Ew.mk c.fb c.fi c.fh)=some (x',l',w',c')∧Er w' E n∧(0≤E∧E≤200)∧n≤38400∧w'.fC=x'∧Agz x'=true∧l'.length≤200∧(∀o∈l',Ali o)∧Agw c':=⟨_,_,_,_,_,_,rfl,G,by omega,by omega,hwc,hx1,hl,ho,hcc⟩
   rw[Axo]
   by_cases q:0<i
   ·rw[decide_eq_true (show(i:Int)>0 by omega),cond_true]
    by_cases q2:l.length<200
    ·rw[decide_eq_true (show(l.length:Int)<200 by omega),cond_true]
     have W:=G.ww (by omega) (by omega)
     obtain⟨b1,b2,b3,_⟩:=A1 G.inv.conf
     have hlen:=G.inv.len;obtain⟨o,c2,e3,hop,w3⟩:=Bjh hK W (by omega) hcc
     obtain⟨a,w',e4,G',hc'⟩:=B1s hK (E:=(l.length:Int)) (n:=192*l.length) (by omega) (by omega) G hop
     rw[show Ew.mk c.fb c.fi c.fh=c from rfl,e3,Z0]
     unfold A9b;simp only;rw[if_pos ⟨trivial,trivial,trivial,trivial,trivial,trivial⟩,if_pos ⟨by grind,by grind⟩]
     rw[show Bm.mk w.fC (Ed.mk w.fP.Fi w.fP.Gt w.fP.Fj) w.fL w.fQ w.Jc=w from rfl,e4,Z0]
     have es:Ark .i64 (i:Int) 1=((i - 1:Nat):Int):=by grind [sb1]
     rw[es];refine ih (i - 1) (l++[o]) w' c2 (by omega) (by omega) ?_ (hc'.trans hwc) (by grind) ?_ w3
     ·rw[Z23,List.length_singleton]
      grind
     grind
    grind
   simp_all
 have:=key K (4+y.1).toNat [] (A3c x) y.2 (by omega) (by omega) (Baz hx1) rfl (by simp) (fun o h=>by cases h) w2
 grind
omit hK in
theorem Bli (a:List Int){m:Int}(hm:0≤m∧m≤1000)(ha:a.length≤1048576): ∃r,Azs K a m=some r∧0≤r∧r≤1000:=by
 unfold Azs
 have h3:(a.length:Int) / 12≤(a.length:Int):=Int.ediv_le_self _ (by omega)
 have h4:0≤(a.length:Int) / 12:=Int.ediv_nonneg (by omega) (by omega)
 have e1:Aow .i64 (a.length:Int) 12=(a.length:Int) / 12:=by
  grind [Aow,Gy]
 have e2:Arj .i64 3 ((a.length:Int) / 12)=3+(a.length:Int) / 12:=by grind [Arj,Gy]
 rw[if_pos (by decide),e1,e2]
 by_cases q:3+(a.length:Int) / 12>m
 ·simp_all
 ·rw[decide_eq_false q];grind
theorem Bdr{a:List Int}(hb:A2a a)(ha:a.length≤1048576): ∃w o E n,Azh K a=some (w,o)∧Er w E n∧(0≤E∧E≤200)∧n≤38400∧Ali o:=by
 unfold Azh;obtain⟨c,e1,w1⟩:=Bau hK hb ha;obtain⟨m,e2,hm⟩:=Bli (K:=K) a (m:=50) (by omega) ha
 have ea:Arj .i64 20 m=20+m:=by grind [Arj,Gy]
 have h50:m≤900∨900<m:=by omega
 rw[e1,Z0,e2,Z0,ea];unfold Axp
 have hm2:m≤50:=by
  unfold Azs at e2
  grind
 obtain⟨x,l,w,c2,E,n,e3,G,hE,hn,_,_,_,_,w3⟩:=run_ok hK w1 (most:=20+m) (by omega)
 have W:=G.ww (by omega) (by omega)
 obtain⟨b1,b2,b3,_⟩:=A1 G.inv.conf
 have hlen:=G.inv.len;obtain⟨o,c4,e4,ho,_⟩:=Bjh hK W (by omega) w3
 rw[e3];simp only[Z0];rw[e4,Z0];unfold A9b
 grind
end
section
variable (N:Int) (t:Int->Lk)
inductive Up (a:Int):Int->Prop
 |refl:Lv N t a->Up a a
 |step {b:Int}:Lv N t b->Cu N t b->Up a ((t b).up - 1)->Up a b
end
section
variable {N:Int} {t:Int->Lk}
theorem Up.lv{a b:Int}(h:Up N t a b):Lv N t a∧Lv N t b:=by
 induction h with
 |refl h=>grind
 |step h _ _ ih=>grind
theorem Up.trans{a b c:Int}(h:Up N t a b)(g:Up N t b c):Up N t a c:=by
 induction g with
 |refl _=>exact h
 |step h1 h2 _ ih=>exact .step h1 h2 ih
theorem Up.le{d:Int->Nat}(U: ∀x,Lv N t x->Cu N t x->d ((t x).up - 1)<d x){a b:Int}(h:Up N t a b):d a≤d b:=by
 induction h with
 |refl _=>omega
 |step h1 h2 _ ih=>grind
theorem Up.al{a b:Int}(h:Up N t a b)(g:Al N t a):Al N t b:=by
 induction h with
 |refl _=>exact g
 |step h1 h2 _ ih=>exact .step h1 h2 ih
variable {r:Int->Nat} {d:Int->Nat}
end
structure Byp (w:Bm)(t:Int->Lk)(k:Int):Prop where
 inv:Inv w
 tab:AtT w.fL t
 fr:Ajm w.fL.length t (A1c w.fQ)
 al:Al w.fL.length t k
structure Bcd (w w':Bm)(t:Int->Lk)(k:Int):Prop where
 inv:Inv w'
 len:w'.fL.length=w.fL.length
 tab:AtT w'.fL (rem t k)
 fr:Ajm w.fL.length (rem t k) (A1c w'.fQ)
 conf:w'.fC=w.fC
 q:w'.fQ=w.fQ++[Ajv (gt w.fL k) (k+1)]
 node: ∀x,0≤x∧x<(w.fL.length:Int)->x≠k-> ∃a b c,gt w'.fL x=lnk (gt w.fL x) a b c
theorem Blj (c:Fc)(a b:Int)(f g:Int)(ts cs:List Int)(d:Int):Byb c (A7.mk a f ts cs d)=Byb c (A7.mk b g ts cs d):=rfl
theorem Bcd.own{w w':Bm}{t:Int->Lk}{k:Int}(L:Bcd w w' t k){x:Int}(hx:0≤x∧x<(w.fL.length:Int))(hne:x≠k):Byc w' x=Byc w x:=by
 obtain⟨a,b,c,e⟩:=L.node x hx hne;unfold Byc;rw[e,L.conf];exact Blj _ _ _ _ _ _ _ _
theorem Bcd.kids{w w':Bm}{t:Int->Lk}{k:Int}(P:Byp w t k)(L:Bcd w w' t k){x:A7}(hx:x∈w.fQ):Ald w'.fL x.Bw=Ald w.fL x.Bw:=by
 have hf:=P.inv.first hx;rw[Bde P.tab P.inv.rg hf.1 (by omega),Bde L.tab L.inv.rg hf.1 (by omega),L.len]
 exact A8m P.fr.tree P.al.lv P.al.noOr P.fr.kid (Inv.qs hx)
def Bhy (w:Bm)(x:Int):List Int:=(gt w.fL x).De.reverse
theorem Bcd.tags{w w':Bm}{t:Int->Lk}{k:Int}(L:Bcd w w' t k){x:Int}(hx:0≤x∧x<(w.fL.length:Int))(hne:x≠k):Bhy w' x=Bhy w x:=by
 obtain⟨a,b,c,e⟩:=L.node x hx hne;unfold Bhy;rw[e];rfl
def Ax8 (w:Bm):List Int:=((List.range w.fL.length).map (fun(i:Nat)=>(i:Int))).filter (Azq w.fL)
section
variable {M:Type} (op:M->M->M) (e:M) (g:Int->M) (w:Bm)
end
section
variable {M:Type} {op:M->M->M} {e:M} {g:Int->M} {w:Bm}
end
def A6l (l:List Ax)(i:Nat):List Int:=((List.range i).map (fun(i:Nat)=>(i:Int))).filter (Azq l)
theorem A9c (l:List Ax)(i:Nat):A6l l (i+1)=A6l l i++(if Azq l (i:Int)=true then [(i:Int)]else []):=by
 unfold A6l;rw[List.range_succ,Yc,List.filter_append]
 grind
theorem A7n (l:List Ax)(i:Nat):(A6l l i).length≤i:=by
 unfold A6l;refine Vb (List.length_filter_le _ _) ?_;simp
theorem Bs2 (w:Bm):Ax8 w=A6l w.fL w.fL.length:=rfl
section
variable {K:Nat} (hK:281474976710656≤K)
include hK
theorem A8d{w:Bm}(hw:Alq w)(h8:w.fL.length≤1000):Av6 K w=some (Ax8 w):=by
 have hm:=P2
 have key: ∀(f i:Nat),i≤w.fL.length->w.fL.length - i<f->Aqw K f (A6l w.fL i) (i:Int) w.fC.Ad w.fC.Ds w.fC.B9 w.fC.Eu w.fC.Ca w.fC.Dt w.fP.Fi w.fP.Gt w.fP.Fj w.fL w.fQ w.Jc=some (Ax8 w):=by
  intro f
  induction f with
  |zero=>intro i _ h;omega
  |succ f ih=>
   intro i hi hf
   have hl:=A7n w.fL i;rw[Aqw];rcases Hw i w.fL.length with h|h
   ·rw[Wy h,cond_true,A4j hK hw.l _ ⟨by omega,by omega⟩]
    simp only[Z0]
    have hs:=A9c w.fL i;cases e:Azq w.fL (i:Int)with
    |false=>
     rw[e,if_neg (by decide),List.append_nil]at hs
     simp only[cond_false];unfold As6;rw[Wx (by omega),←hs]
     exact ih (i+1) h (by omega)
    |true=>
     rw[e,if_pos rfl]at hs;simp only[cond_true];rw[if_pos ⟨by simp;omega,by simp;omega⟩]
     unfold As6;rw[Wx (by omega),←hs]
     exact ih (i+1) h (by omega)
   ·obtain rfl:i=w.fL.length:=by omega
    rw[Aqt (Z9 _)];rfl
 exact key K 0 (Z21 _) (by omega)
end
theorem Bqv{w:Bm}(I:Inv w){k:Int}(hk:0≤k∧k<(w.fL.length:Int)):((gt w.fL k).Ad.length:Int)=((Ato w.fP k).length:Int):=by
 have:=I.chunks hk;unfold A3t at this;rw[Z4,beq_iff_eq]at this
 have:=this.2;omega
section
variable {K:Nat} (hK:281474976710656≤K)
include hK
theorem A8e{w:Bm}(hw:Alq w)(h8:w.fL.length≤1000):A12 K w=some (Ax8 w):=by
 have hm:=P2
 have key: ∀(f i:Nat),i≤w.fL.length->w.fL.length - i<f->Aus K f (A6l w.fL i) (w.fL.length:Int) (i:Int) w.fC.Ad w.fC.Ds w.fC.B9 w.fC.Eu w.fC.Ca w.fC.Dt w.fP.Fi w.fP.Gt w.fP.Fj w.fL w.fQ w.Jc=some (Ax8 w):=by
  intro f
  induction f with
  |zero=>omega
  |succ f ih=>
   intro i hi hf
   have hl:=A7n w.fL i;rw[Aus];rcases Hw i w.fL.length with h|h
   ·rw[Wy h,cond_true,Bet hK hw.l];simp only[Z0]
    have hs:=A9c w.fL i;cases e:Azq w.fL (i:Int)with
    |false=>
     rw[e,if_neg (by decide),List.append_nil]at hs
     simp only[cond_false]
     grind [Aw2,Wx]
    |true=>
     rw[e,if_pos rfl]at hs;simp only[cond_true];rw[if_pos ⟨by grind,by grind⟩]
     grind [Aw2,Wx]
   ·obtain rfl:i=w.fL.length:=by omega
    rw[Aqt (Z9 _)];rfl
 exact key K 0 (Z21 _) (by omega)
end
section
variable {K:Nat} (hK:281474976710656≤K)
include hK
theorem Byq{α:Type}(l:List α)(hl:l.length≤140737488355328)(L:Nat->Int->Option Bool)
  (hs: ∀n (i:Nat) (h:i<l.length),L (n+1) (i:Int)=L n ((i+1:Nat):Int)) (he: ∀n,L (n+1) (l.length:Int)=some true):L K 0=some true:=by
 rw[Av1 hK l hl (fun _=>true) (some true) L (fun n i h=>by grind) he,Z1.2 (fun _ _=>rfl)]
 rfl
theorem Ba2 (l:List Int)(hl:l.length≤140737488355327):A06 K l l=some true:=by
 unfold A06;simp only[bne_self_eq_false,cond_false];exact Bo7 l (by omega) (Avw K l l) (fun n i=>rfl) K 0 (Z21 _) (by omega)
theorem A1b (l:List Int)(hl:l.length≤140737488355327):Ajk K l l=some true:=by
 unfold Ajk;simp only[bne_self_eq_false,cond_false];exact Bo7 l (by omega) (Asm K l l) (fun n i=>rfl) K 0 (Z21 _) (by omega)
theorem Bbl{p:Ed}(h:A34 p):Avg K p p=some true:=by
 unfold Avg;rw[Ba2 hK _ h.mem.2,Z0,cond_true,A1b hK _ (Aw4 hK h.st),Z0,cond_true,A1b hK _ (Aw4 hK h.own)];rfl
theorem Bbm{n:Ax}(h:Atw n):At5 K n n=some true:=by
 have h2:=h.things.2;unfold At5;simp only[bne_self_eq_false,cond_false];rw[A1b hK _ (Aw4 hK h.chunks),Z0,cond_true,A1b hK _ (Aw4 hK h.tags),Z0,Bool.not_true,cond_false]
 refine Byq hK n.D3 (by omega) (fun m i=>Al1 K m i n.Gt n.C5 n.Mu n.fUp n.Gu n.Bw n.Gv n.Gw n.Ad n.M7 n.Gz n.D3 n.De n.Gt n.C5 n.Mu n.fUp n.Gu n.Bw n.Gv n.Gw n.Ad n.M7 n.Gz n.D3 n.De) (fun m i hi=> ?_) (fun m=> ?_)
 ·simp only[Al1];rw[Wy hi,cond_true,if_pos (Agy hi),if_pos (Agy hi),Wx (by omega)]
  simp
 simp_all[Al1]
theorem Ba3{l:List Ax}(h:Adn l):Auq K l l=some true:=by
 have h2:=h.2;unfold Auq;simp only[bne_self_eq_false,cond_false];refine Byq hK l (by omega) (Ajz K l l) (fun m i hi=> ?_) (fun m=> ?_)
 ·rw[Ajz,Wy hi,cond_true,if_pos (Agy hi),if_pos (Agy hi),Bbm hK (h.1 _ (Al6 hi)),Z0,Bool.not_true,cond_false,Wx (by omega)]
 simp_all[Ajz]
theorem Ba4{x:A7}(h:A3a x):Atc K x x=some true:=by
 unfold Atc;simp only[beq_self_eq_true,cond_true];rw[A1b hK _ (Aw4 hK h.tags),Z0,cond_true,A1b hK _ (Aw4 hK h.chunks)];rfl
theorem Ba5{w:Bm}(h:Alq w):Aq3 K w w=some true:=by
 have h2:=h.q.2;unfold Aq3;simp only[beq_self_eq_true,Bool.and_self,Bool.not_true,cond_false];rw[Bbl hK h.p,Z0,cond_true,Ba3 hK h.l,Z0,cond_true];simp only[bne_self_eq_false,cond_false];rw[A1b hK _ (Aw4 hK h.log),Z0,Bool.not_true,cond_false]
 refine Byq hK w.fQ (by omega) (fun m i=>Aj6 K m i w.fC.Ad w.fC.Ds w.fC.B9 w.fC.Eu w.fC.Ca w.fC.Dt w.fP.Fi w.fP.Gt w.fP.Fj w.fL w.fQ w.Jc w.fC.Ad w.fC.Ds w.fC.B9 w.fC.Eu w.fC.Ca w.fC.Dt w.fP.Fi w.fP.Gt w.fP.Fj w.fL w.fQ w.Jc) (fun m i hi=> ?_) (fun m=> ?_)
 ·simp only[Aj6];rw[Wy hi,cond_true,if_pos (Agy hi),if_pos (Agy hi),Ba4 hK (h.q.1 _ (Al6 hi)),Z0,Bool.not_true,cond_false,Wx (by omega)]
 simp_all[Aj6]
end
instance:DecidablePred wfi:=fun x=>inferInstanceAs (Decidable (_∧_))
theorem A2b (n:Int):wfi (IntKind.i64.wrap n):=by rw[IntKind.wrap_i64];exact⟨by omega,by omega⟩
def OkP{α:Type}(x:Option (α×Ew))(P:α->Prop):Prop:= ∃a c,x=some (a,c)∧P a∧Agw c
theorem okp{α:Type}{a:α}{c:Ew}{P:α->Prop}(h:P a)(hc:Agw c):OkP (some (a,c)) P:=⟨_,_,rfl,h,hc⟩
theorem OkP.mono{α:Type}{x:Option (α×Ew)}{P Q:α->Prop}(h:OkP x P)(k: ∀a,P a->Q a):OkP x Q:=by
 obtain⟨a,c,e,p,hc⟩:=h;exact⟨a,c,e,k a p,hc⟩
theorem Ab1{α β:Type}{x:Option (α×Ew)}{f:α×Ew->Option (β×Ew)}{P:α->Prop}{Q:β->Prop}(h:OkP x P)(k: ∀a c,P a->Agw c->OkP (f (a,c)) Q):OkP (x.bind f) Q:=by
 obtain⟨a,c,e,p,hc⟩:=h
 grind
theorem Au3{α:Type}{p:Prop}[Decidable p]{x:Option (α×Ew)}{Q:α->Prop}(h:p)(k:OkP x Q):OkP (if p then x else none) Q:=by grind
theorem Aq9{α:Type}{b:Bool}{x y:Option (α×Ew)}{Q:α->Prop}(k:b=true->OkP x Q)(l:b=false->OkP y Q):OkP (bif b then x else y) Q:=by
 grind
theorem Atf (K:Nat){c:Ew}(hc:Agw c){n:Int}(hn:0<n):OkP (Ap K c n) fun x=>0≤x∧x<n:=by
 obtain⟨r,e,b,w⟩:=Afc K hc hn;exact⟨_,_,e,b,w⟩
theorem A6m{β:Type}(K:Nat){c:Ew}{l:List Int}{f:Int×Ew×List Int->Option (β×Ew)}{Q:β->Prop}(hc:Agw c)(hl:0<l.length)(k: ∀x c,x∈l->Agw c->OkP (f (x,c,l)) Q):OkP ((K0 K c l).bind f) Q:=by
 obtain⟨x,c',e,m,w⟩:=A25 K hc hl
 grind
theorem Bf1 (K:Nat){c:Ew}(hc:Agw c):OkP (A1d K c) ConfW:=by
 unfold A1d Arc;obtain⟨x,c1,e,hx,w⟩:=Bcc K hc
 have W:=Bp0 hx;rw[e,Z0];dsimp only
 repeat' (first|refine A6m _ (by assumption) (by decide) (fun x c hx hc=>Au3 rfl ?_)|refine Ab1 (Atf _ (by assumption) (by omega)) (fun x c hx hc=> ?_)|refine Aq9 (fun _=> ?_) (fun _=> ?_))
 all_goals refine okp ?_ (by assumption)
 ·exact⟨(by decide: ∀y∈([1,2,12,13]:List Int),wfi y) _ ‹_›,W.size,W.slots,W.tax,W.slice,W.gens⟩
 ·exact⟨W.chunks,(by decide: ∀y∈([7,8,16,17]:List Int),wfi y) _ ‹_›,W.slots,W.tax,W.slice,W.gens⟩
 ·exact⟨W.chunks,W.size,(by decide: ∀y∈([1,8,9]:List Int),wfi y) _ ‹_›,W.tax,W.slice,W.gens⟩
 ·exact⟨W.chunks,W.size,W.slots,(by decide: ∀y∈([0,8,9]:List Int),wfi y) _ ‹_›,W.slice,W.gens⟩
 ·exact⟨W.chunks,W.size,W.slots,W.tax,(by decide: ∀y∈([0,17]:List Int),wfi y) _ ‹_›,W.gens⟩
 ·exact⟨W.chunks,W.size,W.slots,W.tax,W.slice,(by decide: ∀y∈([0,5]:List Int),wfi y) _ ‹_›⟩
 ·exact W
theorem A8f{l:List Int}(h:l.length≤1000)(x:Int):(l++[x]).length*8≤140737488355328∧(l++[x]).length≤maxLen:=by
 grind [P2]
theorem Bds{l:List Bl}(h:l.length≤1000)(x:Bl):(l++[x]).length*24≤140737488355328∧(l++[x]).length≤maxLen:=by
 grind [P2]
theorem A5t{l:List Int}(h:A40 l)(hl:l.length≤1000){x:Int}(hx:wfi x):A40 (l++[x]):=by
 refine⟨fun y hy=> ?_,by grind⟩
 rcases Nj.1 hy with hy|hy
 ·exact h.1 y hy
 grind
structure SN (m:Nat)(n:Ax):Prop where
 w:Atw n
 c:n.Ad.length≤m
 t:n.D3.length≤m
 g:n.De.length≤m
theorem SN.tag{m:Nat}{n:Ax}(h:SN m n)(hm:m≤1000){x:Int}(hx:wfi x):SN (m+1) (Ax.mk n.Gt n.C5 n.Mu n.fUp n.Gu n.Bw n.Gv n.Gw n.Ad n.M7 n.Gz n.D3 (n.De++[x])):=by
 have:=h.c;have:=h.t;have:=h.g;exact⟨{h.w with tags:=A5t h.w.tags (by omega) hx},Nat.le_succ_of_le h.c,Nat.le_succ_of_le h.t,by grind⟩
theorem SN.chunk{m:Nat}{n:Ax}(h:SN m n)(hm:m≤1000){x:Int}(hx:wfi x):SN (m+1) (Ax.mk n.Gt n.C5 n.Mu n.fUp n.Gu n.Bw n.Gv n.Gw (n.Ad++[x]) n.M7 n.Gz n.D3 n.De):=by
 have:=h.c;have:=h.t;have:=h.g;exact⟨{h.w with chunks:=A5t h.w.chunks (by omega) hx},by grind,Nat.le_succ_of_le h.t,Nat.le_succ_of_le h.g⟩
theorem SN.thing{m:Nat}{n:Ax}(h:SN m n)(hm:m≤1000){x:Bl}(hx:ThingW x):SN (m+1) (Ax.mk n.Gt n.C5 n.Mu n.fUp n.Gu n.Bw n.Gv n.Gw n.Ad n.M7 n.Gz (n.D3++[x]) n.De):=by
 have:=h.c;have:=h.t;have:=h.g;refine⟨{h.w with things:=⟨fun y hy=> ?_,by grind⟩},Nat.le_succ_of_le h.c,by grind,Nat.le_succ_of_le h.g⟩
 rcases Nj.1 hy with hy|hy
 ·exact h.w.things.1 y hy
 grind
theorem SN.mono{m k:Nat}{n:Ax}(h:SN m n)(hk:m≤k):SN k n:=⟨h.w,Vb h.c hk,Vb h.t hk,Vb h.g hk⟩
theorem sbn{i:Nat}(hi:0<i)(h:i≤1000):Ark .i64 (i:Int) 1=((i - 1:Nat):Int):=by grind [sb1]
theorem Bhz (K:Nat){c:Ew}(hc:Agw c){x:Fc}(hx:Agz x=true):OkP (A1u K c x) ThingW:=by
 obtain⟨b1,b2,_⟩:=A1 hx
 have j: ∀(c:Ew) (t:Bl),Agw c->OkP (Awn K x c.fb c.fi c.fh t) ThingW:=by
  intro c t hc;unfold Awn;refine Ab1 (Atf K hc (by omega)) (fun y1 c1 h1 w1=>Ab1 (Atf K w1 (by omega)) (fun y2 c2 h2 w2=> ?_))
  dsimp only at w2 ⊢
  have e:Ark .i64 x.Ds y2=x.Ds - y2:=by grind [Ark,Gy]
  rw[e];refine Ab1 (Atf K w2 (by omega)) (fun y3 c3 h3 w3=>okp ⟨A2b _,A2b _,Azn⟩ w3)
 unfold A1u;obtain⟨r,e,w⟩:=A1a K hc (n:=4) (by omega)
 rw[e,Z0];refine Aq9 (fun _=>Aq9 (fun h=> ?_) (fun _=>j _ _ w)) (fun _=>j _ _ w);rw[decide_eq_true_eq]at h;rw[show Ark .i64 x.Ad 1=x.Ad - 1 from by grind [Ark,Gy]]
 exact Ab1 (Atf K w (by omega)) (fun y1 c1 h1 w1=>Ab1 (Atf K w1 (by omega)) (fun y2 c2 h2 w2=>okp ⟨A2b _,A2b _,Gx (x:=2) (by decide) (by decide)⟩ w2))
theorem Bqw (K:Nat): ∀(f i m:Nat) (c:Ew) (n:Ax),i<f->m+i≤50->SN m n->Agw c->OkP (Axq K f (i:Int) c.fb c.fi c.fh n) (SN 50):=by
 intro f
 induction f with
 |zero=>omega
 |succ f ih=>
  intro i m c n hi hm hn hc
  have:=hn.g;rw[Axq];refine Aq9 (fun h=> ?_) (fun _=>okp (hn.mono (by omega)) hc)
  rw[decide_eq_true_eq]at h;refine Ab1 (Atf K hc (by omega)) (fun y c1 hy w1=>Au3 (A8f (by omega) _) ?_)
  rw[sbn (by omega) (by omega)]
  exact ih (i - 1) (m+1) c1 _ (by omega) (by omega) (hn.tag (by omega) (Gx (by omega) (by omega))) w1
section
variable {K:Nat} (hK:281474976710656≤K)
include hK
theorem Bqx{x:Fc}(hx:Agz x=true): ∀(f i m:Nat) (c:Ew) (n:Ax),i<f->m+i≤40->SN m n->Agw c->OkP (Axr K x f (i:Int) c.fb c.fi c.fh n) (SN 50):=by
 intro f
 induction f with
 |zero=>omega
 |succ f ih=>
  intro i m c n hi hm hn hc
  have:=hn.t;rw[Axr];refine Aq9 (fun h=> ?_) (fun _=> ?_)
  ·rw[decide_eq_true_eq]at h;refine Ab1 (Bhz K hc hx) (fun y c1 hy w1=>Au3 (Bds (by omega) _) ?_)
   rw[sbn (by omega) (by omega)]
   exact ih (i - 1) (m+1) c1 _ (by omega) (by omega) (hn.thing (by omega) hy) w1
  ·refine Ab1 (Atf K hc (by omega)) (fun y c1 hy w1=> ?_)
   have:=Bqw K K y.toNat 40 c1 n (by omega) (by omega) (hn.mono (by omega)) w1
   grind
theorem Bll{x:Fc}(hx:Agz x=true)(z:Ax): ∀(f i m:Nat) (c:Ew) (n:Ax),i<f->m+i≤20->SN m n->Agw c->OkP (Axt K x f (i:Int) c.fb c.fi c.fh n z) (SN 50):=by
 obtain⟨b1,b2,_⟩:=A1 hx
 have j: ∀(c:Ew) (n:Ax),SN 20 n->Agw c->OkP (Axs K x c.fb c.fi c.fh n) (SN 50):=by
  intro c n hn hc;unfold Axs;refine Ab1 (Atf K hc (by omega)) (fun y c1 hy w1=> ?_)
  have:=Bqx hK hx K y.toNat 20 c1 n (by omega) (by omega) hn w1
  grind
 intro f
 induction f with
 |zero=>omega
 |succ f ih=>
  intro i m c n hi hm hn hc
  have:=hn.c;rw[Axt];refine Aq9 (fun h=> ?_) (fun _=>Aq9 (fun h=> ?_) (fun _=>j _ _ (hn.mono (by omega)) hc))
  ·rw[decide_eq_true_eq]at h;refine Au3 (A8f (by omega) _) ?_
   rw[sbn (by omega) (by omega)]
   exact ih (i - 1) (m+1) c _ (by omega) (by omega) (hn.chunk (by omega) (Gx (by omega) (by omega))) hc
  ·rw[decide_eq_true_eq]at h;refine Au3 ⟨by omega,h⟩ ?_
   rw[ad1 (x:=x.Ds) (by omega) (by omega)]
   refine Ab1 (Atf K hc (by omega)) (fun y c1 hy w1=> ?_)
   exact j c1 _ (SN.mono (m:=m) ⟨{hn.w with cur:=A2b _,bump:=Gx (x:=y) (by omega) (by omega)},hn.c,hn.t,hn.g⟩ (by omega)) w1
theorem Blm{x:Fc}(hx:Agz x=true){c:Ew}(hc:Agw c):OkP (A2t K c x) (SN 50):=by
 obtain⟨b1,b2,b3,b4,b5,b6⟩:=A1 hx;unfold A2t Amo
 have s0: ∀a b d:Int,wfi a->wfi b->wfi d->SN 0 (Ax.mk a b d 0 0 0 0 0 [] 0 0 [] []):=fun a b d ha hb hd=>⟨⟨ha,hb,hd,Azn,Azn,Azn,Azn,Azn,Ax5,Azn,Azn,A57,Ax5⟩,by simp,by simp,by simp⟩
 refine Ab1 (Atf K hc (by omega)) (fun y1 c1 h1 w1=> ?_)
 rw[Z0];refine Ab1 (Atf K w1 (by omega)) (fun y2 c2 h2 w2=>Aq9 (fun _=>okp ((s0 _ _ _ (Gx (by omega) (by omega)) (A2b _) Azn).mono (by omega)) w2) (fun _=> ?_))
 refine Ab1 (Atf K w2 (by omega)) (fun y3 c3 h3 w3=>Ab1 (Atf K w3 (by omega)) (fun y4 c4 h4 w4=> ?_))
 have:=Bll hK hx (Ax.mk 0 0 0 0 0 0 0 0 [] 0 0 [] []) K y4.toNat 10 c4 _ (by omega) (by omega) ((s0 y2 (Arj .i64 1 y1) y3 (Gx (by omega) (by omega)) (A2b _) (Gx (by omega) (by omega))).mono (by omega)) w4
 grind
end
theorem Bce (a b d:Int)(ha:wfi a)(hb:wfi b)(hd:wfi d):ThingW (Bl.mk a b d):=⟨ha,hb,hd⟩
structure DP (c:Fc)(n:Ax):Prop where
 l:Aum c n
 t:ThP c [] n
 e:EpP 1 n
theorem DP.w{c:Fc}{n:Ax}(h:DP c n):Atw n:=A5n (Ajy.2 h.l).1 h.e (by omega)
theorem Bs3{c:Fc}{n:Ax}(L:Aum c n)(e:EpP 1 n):SN 40 n:=⟨A5n (Ajy.2 L).1 e (by omega),by have:=Aub L.conf L.dist;omega,by have:=L.nth;omega,by have:=L.ntag;omega⟩
theorem Bh0 (K:Nat): ∀(f i m:Nat) (c:Ew) (n:Ax),i<f->m+i≤50->SN m n->Agw c->OkP (Awo K f (i:Int) c.fb c.fi c.fh n) (SN 50):=by
 intro f
 induction f with
 |zero=>omega
 |succ f ih=>
  intro i m c n hi hm hn hc
  have:=hn.g;rw[Awo];refine Aq9 (fun h=> ?_) (fun _=>okp (hn.mono (by omega)) hc)
  rw[decide_eq_true_eq]at h;refine Ab1 (Atf K hc (by omega)) (fun y c1 hy w1=>Au3 (A8f (by omega) _) ?_)
  rw[sbn (by omega) (by omega)]
  exact ih (i - 1) (m+1) c1 _ (by omega) (by omega) (hn.tag (by omega) (Gx (by omega) (by omega))) w1
section
variable {K:Nat} (hK:281474976710656≤K)
include hK
theorem Bqy{x:Fc}(hx:Agz x=true){c:Ew}(hc:Agw c):OkP (A3p K c x) (SN 60):=by
 unfold A3p An3;refine Ab1 (Blm hK hx hc) (fun n c1 hn w=> ?_)
 have:=hn.c;have:=hn.t;have:=hn.g
 have W:=hn.w
 have M:=hn.mono (k:=60) (by omega)
 repeat' (first|refine A6m _ (by assumption) (by decide) (fun x c hx hc=>Au3 rfl ?_)|refine Ab1 (Atf _ (by assumption) (by omega)) (fun x c hx hc=> ?_)|refine Aq9 (fun _=> ?_) (fun _=> ?_))
 ·exact okp ⟨{W with st:=A2b _},M.c,M.t,M.g⟩ (by assumption)
 ·exact okp ⟨{W with gen:=(by decide: ∀y∈([0,4,5]:List Int),wfi y) _ ‹_›},M.c,M.t,M.g⟩ (by assumption)
 ·exact okp ⟨{W with up:=(by decide: ∀y∈([-1,1,8,9]:List Int),wfi y) _ ‹_›},M.c,M.t,M.g⟩ (by assumption)
 ·exact Au3 (A8f (show n.Ad.length≤_ by omega) _) (okp ((hn.chunk (by omega) ((by decide: ∀y∈([0,12,-1]:List Int),wfi y) _ ‹_›)).mono (by omega)) (by assumption))
 ·exact okp ⟨{W with cur:=Gx (x:= ‹Int›) (by omega) (by omega)},M.c,M.t,M.g⟩ (by assumption)
 ·exact okp ⟨{W with bump:=(by decide: ∀y∈([0,8,17,-1]:List Int),wfi y) _ ‹_›},M.c,M.t,M.g⟩ (by assumption)
 ·exact Au3 (A8f (show n.De.length≤_ by omega) _) (okp ((hn.tag (by omega) ((by decide: ∀y∈([255,256,-1]:List Int),wfi y) _ ‹_›)).mono (by omega)) (by assumption))
 ·refine Au3 (Bds (show n.D3.length≤_ by omega) _) (okp ((hn.thing (by omega) (Bce _ _ _ ?_ ?_ ?_)).mono (by omega)) (by assumption))
  all_goals grind [Gx]
 simp_all[okp]
theorem Bdt{c:Fc}{n:Ax}(L:Aum c n)(e:EpP 1 n): ∃n' b,At3 K c n 2 (Arj .i64 c.Ds 1)=some (n',b)∧SN 40 n':=by
 have hm:=P2;obtain⟨b1,b2,_⟩:=A1 L.conf
 have S:=Bs3 L e
 have W:=S.w
 have h1:=Aub L.conf L.dist
 have h3:=L.nth
 have h4:=L.ntag
 have q1:2*c.Ds≤c.Ad*c.Ds:=Int.mul_le_mul_of_nonneg_right (by omega) (by omega)
 have hby:Alp c=c.Ad*c.Ds:=by unfold Alp;rw[L.conf];rfl
 have done: ∃n' b,some (n,false)=some (n',b)∧SN 40 n':=⟨_,_,rfl,S⟩;unfold At3 Arf Aof;rw[ad1 (x:=c.Ds) (by omega) (by omega),Avv K W,Z0,Atm,L.conf]
 simp only[Z0,cond_true];rw[show(n.Gt != 1)=false by rw[L.st];rfl,cond_false,decide_eq_true (by omega),cond_true,Axf,Z0,decide_eq_false (by omega),cond_false,Aok,A07 hK L.conf]
 simp only[Z0];cases q:inB 2 0 (c.Ad - 1)with
 |false=>exact done
 |true=>
 simp only[Bool.not_true,cond_false]
 have hr:Aw6 (c.Ds+1) c.Ds=2:=by
  unfold Aw6;rw[Abx.2 ⟨by omega,by omega⟩,Abx.2 ⟨by omega,by omega⟩]
  show(c.Ds+1+c.Ds - 1) / c.Ds=2;rw[show c.Ds+1+c.Ds - 1=c.Ds*2 by omega,Int.mul_ediv_cancel_left _ (by omega)]
 rw[A3s,Z0,hr,Z0];obtain⟨k,rfl⟩: ∃k,K=k+3:=⟨K - 3,by omega⟩
 have e3: ∀i:Nat,i≤2->Arj .i64 2 (i:Int)=2+i:=fun i hi=>by grind [Arj,Gy]
 have s1:=A8f (l:=n.Ad) (by omega) (Arj .i64 2 0)
 have s2:=A8f (l:=n.Ad++[Arj .i64 2 0]) (by grind) (Arj .i64 2 (Arj .i64 0 1))
 have s3:=Bds (l:=n.D3) (by omega) (Bl.mk (Arl .i64 2 c.Ds) (c.Ds+1) 2)
 rw[Ao8,show decide ((0:Int)<2)=true from rfl,cond_true]
 rw[if_pos s1,Ao8,show decide (Arj .i64 0 1<2)=true from rfl,cond_true]
 simp only;rw[if_pos s2,Ao8,show decide (Arj .i64 (Arj .i64 0 1) 1<2)=false from rfl,cond_false]
 simp only;rw[if_pos s3,Ayy hK c (Ax.mk n.Gt n.C5 n.Mu n.fUp n.Gu n.Bw n.Gv n.Gw (n.Ad++[Arj .i64 2 0]++[Arj .i64 2 (Arj .i64 0 1)]) n.M7 n.Gz (n.D3++[Bl.mk (Arl .i64 2 c.Ds) (c.Ds+1) 2]) n.De) (by grind) (by grind) (show n.De.length≤_ by omega),Z0]
 cases q3:Aua c (Ax.mk n.Gt n.C5 n.Mu n.fUp n.Gu n.Bw n.Gv n.Gw (n.Ad++[Arj .i64 2 0]++[Arj .i64 2 (Arj .i64 0 1)]) n.M7 n.Gz (n.D3++[Bl.mk (Arl .i64 2 c.Ds) (c.Ds+1) 2]) n.De)with
 |false=>
  simp_all[Avv]
 |true=>
  exact⟨_,_,rfl,Bs3 (Ajy.1 ⟨q3,L.st⟩) ⟨e.ep,e.ue,e.cur⟩⟩
theorem Bh1{x:Fc}(hx:Agz x=true)(z:Ax): ∀(f i:Nat) (c:Ew) (n:Ax),i<f->i≤20->DP x n->Agw c->OkP (Awq K x f (i:Int) c.fb c.fi c.fh n z) (SN 50):=by
 obtain⟨b1,b2,_⟩:=A1 hx
 have j: ∀(c:Ew) (n:Ax),SN 40 n->Agw c->OkP (Awp K c.fb c.fi c.fh n) (SN 50):=by
  intro c n hn hc;unfold Awp;refine Ab1 (Atf K hc (by omega)) (fun y c1 hy w1=> ?_)
  have:=Bh0 K K y.toNat 40 c1 n (by omega) (by omega) hn w1
  grind
 intro f
 induction f with
 |zero=>omega
 |succ f ih=>
  intro i c n hi hm hn hc;rw[Awq];refine Aq9 (fun h=> ?_) (fun _=> ?_)
  ·rw[decide_eq_true_eq]at h;refine Ab1 (Atf K hc (by omega)) (fun y c1 hy w1=>A6m K w1 (by decide) (fun a c2 ha w2=>Au3 rfl ?_))
   have e:Arj .i64 1 y=1+y:=by grind [Arj,Gy]
   obtain⟨n',b,e2,h2⟩:=A87 hK hn.l hn.w hn.e.cur (1+y) a ⟨by omega,by omega⟩
   dsimp only;rw[e,e2,Z0,sbn (by omega) (by omega)]
   have h3:DP x n':=by
    rcases h2 with rfl|⟨off,hs,rfl⟩
    ·exact hn
    ·obtain⟨l1,l2⟩:=Bfp hn.l hn.e.cur hn.t hs;exact⟨l1,l2,⟨hn.e.ep,hn.e.ue,hn.e.cur⟩⟩
   grind
  ·obtain⟨r,e,w⟩:=A1a K hc (n:=3) (by omega)
   rw[show Ew.mk c.fb c.fi c.fh=c from rfl,e,Z0]
   refine Aq9 (fun _=> ?_) (fun _=>j _ _ (Bs3 hn.l hn.e) w);obtain⟨n',b,e2,h2⟩:=Bdt hK hn.l hn.e
   grind
theorem Bh2{x:Fc}(hx:Agz x=true){c:Ew}(hc:Agw c):OkP (A1v K c x) (SN 50):=by
 obtain⟨b1,b2,b3,b4,b5,b6⟩:=A1 hx;unfold A1v Amo;refine Ab1 (Atf K hc (by omega)) (fun y1 c1 h1 w1=> ?_)
 rw[Z0];refine Ab1 (Atf K w1 (by omega)) (fun y2 c2 h2 w2=>Ab1 (Atf K w2 (by omega)) (fun y3 c3 h3 w3=> ?_))
 dsimp only
 have e:Arj .i64 1 y1=1+y1:=by grind [Arj,Gy]
 rw[e]
 have L:Aum x (Ax.mk 1 (1+y1) y2 0 0 0 0 0 [] 0 0 [] []):=⟨hx,rfl,⟨by grind,by grind⟩,⟨by grind,by grind⟩,⟨by grind,by grind⟩,⟨by grind,by grind⟩,⟨by grind,by grind⟩,h2.1,by grind,rfl,rfl,by simp,by simp,rfl,rfl⟩
 have E:EpP 1 (Ax.mk 1 (1+y1) y2 0 0 0 0 0 [] 0 0 [] []):=⟨by grind,by grind,by grind,by grind⟩
 have L2:=A8p L (k:=y3) ⟨by omega,by omega⟩ (by simp)
 rw[A8q hK L (Bs3 L E).w ⟨by omega,by omega⟩ (by simp),Z0]
 have D:DP x (A63 (Ax.mk 1 (1+y1) y2 0 0 0 0 0 [] 0 0 [] []) y3):=⟨L2,⟨rfl,rfl,by simp[Au8,A63,Atn]⟩,⟨E.ep,E.ue,by show 0≤y3+1;omega,by show y3+1≤1000;omega⟩⟩
 refine Ab1 (Atf K w3 (by omega)) (fun y4 c4 h4 w4=> ?_)
 have:=Bh1 hK hx (Ax.mk 0 0 0 0 0 0 0 0 [] 0 0 [] []) K y4.toNat c4 _ (by omega) (by omega) D w4
 rw[Int.toNat_of_nonneg (by omega)]at this
 exact this
structure SW (m:Nat)(x:A7):Prop where
 w:A3a x
 g:x.De.length≤m
 c:x.Ad.length≤m
theorem Bln{x:Fc}(hx:Agz x=true){c:Ew}(hc:Agw c):OkP (A2u K c x) (SW 60):=by
 obtain⟨b1,b2,b3,b4,b5,b6⟩:=A1 hx
 have j: ∀(c:Ew) (a z:A7),SW 50 a->Agw c->OkP (Awr K c.fb c.fi c.fh a z) (SW 50):=by
  intro c a z ha hc;unfold Awr Azi;obtain⟨r,e,w⟩:=A1a K hc (n:=4) (by omega)
  rw[show Ew.mk c.fb c.fi c.fh=c from rfl,e,Z0]
  exact Aq9 (fun _=>okp ⟨⟨ha.w.slot,ha.w.first,Ax5,Ax5,Azn⟩,by simp,by simp⟩ w) (fun _=>okp ha w)
 have d:OkP (A1w K c x) (SW 50):=by
  unfold A1w;refine Ab1 (Bh2 hK hx hc) (fun n c1 hn w1=> ?_);dsimp only;rw[ad1 (x:=x.B9) (by omega) (by omega)]
  refine Ab1 (Atf K w1 (by omega)) (fun y2 c2 h2 w2=> ?_)
  dsimp only;rw[A5j K hn.w,Z0]
  have W:=Bhd hn.w (s:=y2) (Gx (by omega) (by omega))
  refine Ab1 (Atf K w2 (by omega)) (fun y3 c3 h3 w3=> ?_)
  have hf:wfi y3:=Gx (by omega) (by omega)
  refine Aq9 (fun _=>Ab1 (Atf K w3 (by omega)) (fun y4 c4 h4 w4=> ?_)) (fun _=>j _ _ _ ⟨⟨W.slot,hf,W.tags,W.chunks,Azn⟩,hn.g,hn.c⟩ w3)
  exact j _ _ _ ⟨⟨W.slot,hf,W.tags,W.chunks,Gx (x:=y4) (by omega) (by omega)⟩,hn.g,hn.c⟩ w4
 unfold A2u Asz;refine Ab1 d (fun a c1 ha w=> ?_)
 have h1:=ha.g;have h2:=ha.c
 have W:=ha.w
 repeat' (first|refine A6m _ (by assumption) (by decide) (fun x c hx hc=>Au3 rfl ?_)|refine Ab1 (Atf _ (by assumption) (by omega)) (fun x c hx hc=> ?_)|refine Aq9 (fun _=> ?_) (fun _=> ?_))
 ·exact okp ⟨{W with slot:=(by decide: ∀y∈([-1,0,8,9]:List Int),wfi y) _ ‹_›},show a.De.length≤60 by omega,show a.Ad.length≤60 by omega⟩ (by assumption)
 ·exact okp ⟨{W with first:=(by decide: ∀y∈([-1,9,0]:List Int),wfi y) _ ‹_›},show a.De.length≤60 by omega,show a.Ad.length≤60 by omega⟩ (by assumption)
 ·exact okp ⟨{W with done:=(by decide: ∀y∈([-1,0,8,16]:List Int),wfi y) _ ‹_›},show a.De.length≤60 by omega,show a.Ad.length≤60 by omega⟩ (by assumption)
 ·exact Au3 (A8f (show a.De.length≤_ by omega) _) (okp ⟨{W with tags:=A5t W.tags (by omega) ((by decide: ∀y∈([-1,255,256]:List Int),wfi y) _ ‹_›)},by grind,show a.Ad.length≤60 by omega⟩ (by assumption))
 ·exact Au3 (A8f (show a.Ad.length≤_ by omega) _) (okp ⟨{W with chunks:=A5t W.chunks (by omega) ((by decide: ∀y∈([-1,0,12]:List Int),wfi y) _ ‹_›)},show a.De.length≤60 by omega,by grind⟩ (by assumption))
 ·exact okp ⟨W,show a.De.length≤60 by omega,show a.Ad.length≤60 by omega⟩ (by assumption)
end
structure AnyP (w:Bm):Prop where
 ww:Alq w
 l:w.fL.length≤8
 s:w.fP.Gt.length≤12∧w.fP.Fj.length≤12∧w.fP.Fi.length≤192
 q:w.fQ.length≤40000
 g:w.Jc.length≤40000
 n: ∀x∈w.fL,SN 80 x
theorem Bdu{l:List A7}(h:Bcr l)(hl:l.length≤100000){x:A7}(hx:A3a x):Bcr (l++[x]):=by
 refine⟨fun y hy=> ?_,by grind⟩
 rcases Nj.1 hy with hy|hy
 ·exact h.1 y hy
 grind
theorem A9s{α:Type}{l:List α}{P:α->Prop}(h: ∀x∈l,P x)(i:Nat){x:α}(hx:P x): ∀y∈l.set i x,P y:=by
 grind
theorem AnyP.node{w:Bm}(h:AnyP w)(i:Nat){x:Ax}(hx:SN 80 x):AnyP (Bm.mk w.fC w.fP (w.fL.set i x) w.fQ w.Jc):=
 ⟨{h.ww with l:=A38 h.ww.l i hx.w},by show(w.fL.set i x).length≤8;grind [l],h.s,h.q,h.g,A9s h.n i hx⟩
section
variable {K:Nat} (hK:281474976710656≤K)
include hK
theorem Bcf{c:Ew}(hc:Agw c){most:Int}(hm:0<most∧most≤1000):OkP (Az2 K c most) AnyP:=by
 obtain⟨x,l,w,c',E,n,e,G,hE,hn,hwc,hx,_,_,w1⟩:=run_ok hK hc hm
 have W:=G.ww (by omega) (by omega)
 have I:=G.inv
 have hlen:=I.len;obtain⟨b1,b2,b3,b4,b5,b6⟩:=A1 I.conf
 have P:=Ahs.1 I.pool
 have h1:=Bpz w
 have h2:=Bhi w
 have h3:=G.wt
 have p1:=P.st;have p2:=P.own;have p3:=P.mem
 have hmm:=Axe (a:=w.fC.Ad) (b:=w.fC.Ds) (m:=12) (n:=16) (by omega) b1.2 (by omega) b2.2
 have hm0:0<w.fC.Ad*w.fC.Ds:=Int.mul_pos (by omega) (by omega)
 have N: ∀y∈w.fL,SN 12 y:=A7k fun k hk=>by
  have hb:=I.node k hk
  have hy:=A5n hb (G.ep k hk) (by omega)
  by_cases s:(gt w.fL k).Gt=1
  ·have X:=Ajy.1 ⟨hb,s⟩
   have:=X.nth;have:=X.ntag;have:=Aub X.conf X.dist;exact⟨hy,by omega,by omega,by omega⟩
  ·rw[A18 hb s]at hy ⊢;exact⟨hy,by simp[Ate],by simp[Ate],by simp[Ate]⟩
 have A:AnyP w:=⟨W,by omega,by omega,by omega,by omega,fun y hy=>(N y hy).mono (by omega)⟩
 unfold Az2 Axp;rw[e,Z0,Z0];refine Ab1 (Atf K w1 (by grind)) (fun k c2 hk w2=>Ab1 (Atf K w2 (by omega)) (fun d c3 hd w3=> ?_))
 dsimp only at hk ⊢
 have hg:=Apa hk.1 hk.2
 have S:=N _ hg
 have SW':=S.w
 have St:=S.t
 have M:=S.mono (k:=80) (by omega)
 unfold Aac;refine Aq9 (fun _=>Ab1 (Bf1 K w3) (fun y c4 hy w4=>okp ⟨{W with c:=hy},A.l,A.s,A.q,A.g,A.n⟩ w4)) (fun _=> ?_)
 refine Aq9 (fun _=>Ab1 (Atf K w3 (by omega)) (fun y c4 hy w4=>Ab1 (Atf K w4 (by omega)) (fun z c5 hz w5=>Au3 hy (okp ⟨{W with p:={W.p with st:=⟨A9s W.p.st.1 _ (Gx (x:=z) (by omega) (by omega)),by grind⟩}},A.l,by grind,A.q,A.g,A.n⟩ w5)))) (fun _=> ?_)
 refine Aq9 (fun _=>Ab1 (Atf K w3 (by omega)) (fun y c4 hy w4=>Au3 hy (okp ⟨{W with p:={W.p with mem:=⟨A9s W.p.mem.1 _ ⟨by decide,by decide⟩,by grind⟩}},A.l,by grind,A.q,A.g,A.n⟩ w4))) (fun _=> ?_)
 refine Aq9 (fun _=>Ab1 (Bqy hK I.conf w3) (fun y c4 hy w4=>Au3 hk (okp (A.node _ (hy.mono (by omega))) w4))) (fun _=> ?_)
 refine Aq9 (fun _=>Ab1 (Atf K w3 (by omega)) (fun y c4 hy w4=>Au3 hk (okp (A.node _ ⟨{SW' with st:=Gx (x:=y) (by omega) (by omega)},M.c,M.t,M.g⟩) w4))) (fun _=> ?_)
 refine Aq9 (fun _=>Ab1 (Atf K w3 (by omega)) (fun y c4 hy w4=>Au3 hk (okp (A.node _ ⟨{SW' with up:=Gx (x:=y) (by omega) (by omega)},M.c,M.t,M.g⟩) w4))) (fun _=> ?_)
 refine Aq9 (fun _=>Au3 hk (Au3 hk (okp (A.node _ ⟨{SW' with ep:=A2b _},M.c,M.t,M.g⟩) w3))) (fun _=> ?_)
 refine Aq9 (fun _=>Ab1 (Bln hK I.conf w3) (fun y c4 hy w4=>Au3 ?_ (okp ⟨{W with q:=Bdu W.q (by omega) hy.w},A.l,A.s,by grind,A.g,A.n⟩ w4))) (fun _=> ?_)
 ·grind [P2]
 refine Aq9 (fun _=>Aq9 (fun h=> ?_) (fun _=>okp A w3)) (fun _=> ?_)
 ·rw[decide_eq_true_eq]at h;refine Au3 ⟨by omega,by omega,by omega⟩ (okp ⟨{W with q:=⟨fun y hy=>W.q.1 y (List.mem_of_mem_drop (Z42 hy)),by grind⟩},A.l,A.s,by grind,A.g,A.n⟩ w3)
 refine Aq9 (fun _=>A6m K w3 (by decide) (fun y c4 hy w4=>Au3 rfl (Au3 ?_ (okp ⟨{W with log:=⟨fun z hz=> ?_,by grind⟩},A.l,A.s,A.q,by grind,A.n⟩ w4)))) (fun _=> ?_)
 ·grind [P2]
 ·rcases Nj.1 hz with hz|hz
  ·exact W.log.1 z hz
  ·rw[Sj.1 hz];exact(by decide: ∀y∈([0,255,256,-1]:List Int),wfi y) _ hy
 refine Aq9 (fun _=>Au3 hk (Au3 hk (Ab1 (Atf K w3 (by omega)) (fun y c4 hy w4=>Au3 (Bds (by omega) _) (Au3 hk (okp (A.node _ ((S.thing (by omega) (Bce _ _ _ (Gx (x:=y) (by omega) (by omega)) (Gx (by decide) (by decide)) Azn)).mono (by omega))) w4)))))) (fun _=> ?_)
 refine Aq9 (fun _=>Ab1 (Atf K w3 (by omega)) (fun y c4 hy w4=>Au3 hk (okp (A.node _ ⟨{SW' with next:=Gx (x:=y) (by omega) (by omega)},M.c,M.t,M.g⟩) w4))) (fun _=> ?_)
 refine Aq9 (fun _=>Aq9 (fun h=> ?_) (fun _=>okp A w3)) (fun _=>okp A w3);rw[decide_eq_true_eq]at h;refine Ab1 (Atf K w3 (by omega)) (fun y c4 hy w4=>Au3 ⟨by omega,h⟩ (okp ⟨{W with q:=⟨A9s W.q.1 _ {W.q.1 _ (Apa (i:=0) (by omega) h)with done:=Gx (x:=y) (by omega) (by omega)},by grind⟩},A.l,A.s,by grind,A.g,A.n⟩ w4))
end
theorem Ba6{w:Bm}(h:A15 w=true):A4q w.fC w.fP:=by
 unfold A15 at h;rw[Z4]at h;exact Ahs.1 h.1
theorem Bh3 (m:Nat){c:Int}(h:2≤c∧c≤12):Azp (m+8) [-1] c=some (List.replicate c.toNat (-1)):=by
 obtain rfl|rfl|rfl|rfl|rfl|rfl|rfl|rfl|rfl|rfl|rfl:c=2∨c=3∨c=4∨c=5∨c=6∨c=7∨c=8∨c=9∨c=10∨c=11∨c=12:=by omega
 all_goals rfl
theorem Bf2 (m:Nat){c:Int}(h:2≤c∧c≤8):Au7 (m+8) [Ax.mk 0 1 0 0 0 0 0 0 [] 0 0 [] []] c=some (List.replicate c.toNat (Ax.mk 0 1 0 0 0 0 0 0 [] 0 0 [] [])):=by
 obtain rfl|rfl|rfl|rfl|rfl|rfl|rfl:c=2∨c=3∨c=4∨c=5∨c=6∨c=7∨c=8:=by omega
 all_goals rfl
theorem Byr:ConfW (Fc.mk 0 0 0 0 0 0):=⟨Azn,Azn,Azn,Azn,Azn,Azn⟩
theorem Bf3:Alq (Bm.mk (Fc.mk 0 0 0 0 0 0) (Ed.mk [] [] []) [] [] []):=
 ⟨Byr,⟨⟨(fun x hx=>by cases hx),by decide⟩,Ax5,Ax5⟩,⟨(fun x hx=>by cases hx),by decide⟩,⟨(fun x hx=>by cases hx),by decide⟩,Ax5⟩
theorem Bqz{c:Fc}(h:Agz c=true):Alq (A3c c):=(Baz h).ww (by decide) (by decide)
section
variable {K:Nat} (hK:281474976710656≤K)
include hK
theorem Bf4{c:Fc}(hc:Agz c=true):A1e K c=some (Bfv c):=by
 obtain⟨b1,b2,b3,b4,b5,b6⟩:=A1 hc
 have hb:=Axe (a:=c.Ad) (b:=c.Ds) (m:=12) (n:=16) (by omega) b1.2 (by omega) b2.2
 have hby:Alp c=c.Ad*c.Ds:=by unfold Alp;rw[hc];rfl
 obtain⟨k,rfl⟩: ∃k,K=k+8:=⟨K - 8,by omega⟩
 unfold A1e A49;rw[Aw5,hc,Z0,Bool.not_true,cond_false,A3r,Z0,hby,Azl,Abx.2 ⟨by omega,by omega⟩]
 simp only[Z0,Bool.not_true,cond_false];rw[if_pos ⟨by omega,by omega,by omega,by omega⟩,Z0,if_pos ⟨by omega,by omega,by omega,by omega⟩,Bh3 k ⟨by omega,by omega⟩]
 rfl
theorem Bdv{c:Fc}(hc:Agz c=true):Az7 K c=some (List.replicate c.B9.toNat (Ate 0 1)):=by
 obtain⟨b1,b2,b3,b4,b5,b6⟩:=A1 hc;obtain⟨k,rfl⟩: ∃k,K=k+8:=⟨K - 8,by omega⟩
 unfold Az7 A26;rw[Aw5,hc,Z0,Bool.not_true,cond_false,Z0,Bf2 k ⟨by omega,by omega⟩]
 rfl
theorem Bbn (c:Fc): ∃w,Av3 K c=some w∧Atz K c=some w∧Alq w∧(A15 w=true ↔ Agz c=true):=by
 cases hc:Agz c with
 |false=>
  refine⟨Bm.mk (Fc.mk 0 0 0 0 0 0) (Ed.mk [] [] []) [] [] [],?_,?_,Bf3,?_⟩
  ·unfold Av3;rw[Aw5,hc];rfl
  ·unfold Atz;rw[Atm,hc];rfl
  ·constructor
   ·intro h
    have:=(Ba6 h).conf;cases this
   ·intro h;cases h
 |true=>
  refine⟨A3c c,?_,A9a hK hc,Bqz hc,fun _=>rfl,fun _=>(Baz hc).inv.ok⟩;unfold Av3;rw[Aw5,hc,Z0,Bool.not_true,cond_false,Bf4 hK hc,Z0,Bdv hK hc];rfl
end
def Aw3 (x:Option Bool)(p:Prop):Prop:= ∃b,x=some b∧(b=true ↔ p)
theorem Asv{x y:Int}{k:Option Bool}{p:Prop}(hp:p->x=y)(h:x=y->Aw3 k p):Aw3 (bif x != y then some false else k) p:=by
 by_cases e:x=y
 ·rw[show(x != y)=false by rw[e];exact bne_self_eq_false y,cond_false];exact h e
 ·rw[bne_iff_ne.2 e,cond_true];exact⟨false,rfl,(fun h=>by cases h),fun h=>absurd (hp h) e⟩
theorem Aob{x:Option Bool}{p q:Prop}{k:Bool->Option Bool}(h:Aw3 x p)(hq:q->p)(hf:k false=some false)(h1:p->Aw3 (k true) q):Aw3 (x.bind k) q:=by
 obtain⟨b,rfl,hb⟩:=h;cases b with
 |false=>exact⟨false,hf,(fun h=>by cases h),fun h=>by have:=hb.2 (hq h);cases this⟩
 |true=>exact h1 (hb.1 rfl)
theorem Bs4{α:Type}[Inhabited α]{a b:List α}(hl:a.length=b.length)(h: ∀i:Nat,i<a.length->gt a (i:Int)=gt b (i:Int)):a=b:=by
 refine List.ext_getElem hl fun i h1 h2=> ?_
 have:=h i h1;rw[V2 h1,V2 h2]at this;exact this
section
variable {K:Nat} (hK:281474976710656≤K)
include hK
theorem Axh{α:Type}[Inhabited α]{a b:List α}(ha:a.length≤140737488355328)(hl:a.length=b.length)(L:Nat->Int->Option Bool)(E:α->α->Option Bool)(he: ∀i:Nat,i<a.length->Aw3 (E (gt a (i:Int)) (gt b (i:Int))) (gt a (i:Int)=gt b (i:Int)))
  (hs: ∀n (i:Nat),i<a.length->L (n+1) (i:Int)=(E (gt a (i:Int)) (gt b (i:Int))).bind fun r=>bif !r then some false else L n ((i+1:Nat):Int)) (hz: ∀n,L (n+1) (a.length:Int)=some true):Aw3 (L K 0) (a=b):=by
 rw[Ast hK a.length ha (fun i=>(E (gt a (i:Int)) (gt b (i:Int))).getD false) (some true) L (fun n i h=> ?_) hz]
 ·cases q:(List.range a.length).all fun i=>(E (gt a (i:Int)) (gt b (i:Int))).getD false with
  |true=>
   refine⟨true,rfl,fun _=>Bs4 hl fun i hi=> ?_,fun _=>rfl⟩
   have:=Z1.1 q i (List.mem_range.2 hi);obtain⟨c,e1,e2⟩:=he i hi;rw[e1]at this;exact e2.1 this
  |false=>
   refine⟨false,rfl,(fun h=>by cases h),fun h=> ?_⟩
   obtain⟨i,hi,hn⟩:=List.all_eq_false.1 q;obtain⟨c,e1,e2⟩:=he i (List.mem_range.1 hi);rw[e1,e2.2 (by rw[h])]at hn
   exact absurd rfl hn
 ·obtain⟨c,e1,_⟩:=he i h;rw[hs n i h,e1];cases c<;>rfl
theorem A01{a b:List Int}(ha:a.length≤140737488355327):Aw3 (Ajk K a b) (a=b):=by
 unfold Ajk;refine Asv (fun h=>by rw[h]) fun hl=> ?_
 have hl:a.length=b.length:=by omega
 refine Axh hK (by omega) hl (Asm K a b) (fun x y=>some (x==y)) (fun i _=>⟨_,rfl,beq_iff_eq⟩) (fun n i h=> ?_) (fun n=> ?_)
 ·rw[Asm,Wy h,cond_true,if_pos (Agy h),if_pos (Agy (by omega)),Wx (by omega)];rfl
 ·rw[Asm,Aqt (Z9 _),cond_false]
theorem Bf5{a b:List Int}(ha:a.length≤140737488355327):Aw3 (A06 K a b) (a=b):=by
 unfold A06;refine Asv (fun h=>by rw[h]) fun hl=> ?_
 have hl:a.length=b.length:=by omega
 refine Axh hK (by omega) hl (Avw K a b) (fun x y=>some (x==y)) (fun i _=>⟨_,rfl,beq_iff_eq⟩) (fun n i h=> ?_) (fun n=> ?_)
 ·rw[Avw,Wy h,cond_true,if_pos (Agy h),if_pos (Agy (by omega)),Wx (by omega)];rfl
 ·rw[Avw,Aqt (Z9 _),cond_false]
theorem Bh4{a b:Ed}(h:A34 a):Aw3 (Avg K a b) (a=b):=by
 unfold Avg;refine Aob (Bf5 hK h.mem.2) (fun e=>by rw[e]) rfl fun e1=>Aob (A01 hK (Aw4 hK h.st)) (fun e=>by rw[e]) rfl fun e2=> ?_
 obtain⟨c,e3,e4⟩:=A01 hK (Aw4 hK h.own) (b:=b.Fj);refine⟨c,by rw[e3];rfl,fun hc=> ?_,fun e=>e4.2 (by rw[e])⟩
 have:=e4.1 hc;cases a;cases b;simp_all
theorem Bh5{a b:Ax}(h:Atw a):Aw3 (At5 K a b) (a=b):=by
 have h2:=h.things.2;unfold At5
 refine Asv (fun e=>by rw[e]) fun g1=>Asv (fun e=>by rw[e]) fun g2=>Asv (fun e=>by rw[e]) fun g3=>Asv (fun e=>by rw[e]) fun g4=>Asv (fun e=>by rw[e]) fun g5=>Asv (fun e=>by rw[e]) fun g6=>Asv (fun e=>by rw[e]) fun g7=>Asv (fun e=>by rw[e]) fun g8=>Aob (A01 hK (Aw4 hK h.chunks)) (fun e=>by rw[e]) rfl fun g9=> ?_
 rw[cond_true];refine Asv (fun e=>by rw[e]) fun g10=>Asv (fun e=>by rw[e]) fun g11=>Asv (fun e=>by rw[e]) fun g12=>Aob (A01 hK (Aw4 hK h.tags)) (fun e=>by rw[e]) rfl fun g13=> ?_
 rw[Bool.not_true,cond_false]
 have hl:a.D3.length=b.D3.length:=by omega
 have key:=Axh hK (by omega) hl (fun m i=>Al1 K m i b.Gt b.C5 b.Mu b.fUp b.Gu b.Bw b.Gv b.Gw b.Ad b.M7 b.Gz b.D3 b.De a.Gt a.C5 a.Mu a.fUp a.Gu a.Bw a.Gv a.Gw a.Ad a.M7 a.Gz a.D3 a.De) (fun x y=>some ((x.fAt==y.fAt)&&((x.Xu==y.Xu)&&((x.Xv==y.Xv)&&true)))) (fun i _=>⟨_,rfl,?_⟩) (fun n i h=> ?_) (fun n=> ?_)
 ·obtain⟨c,e1,e2⟩:=key;refine⟨c,e1,fun hc=> ?_,fun e=>e2.2 (by rw[e])⟩
  have:=e2.1 hc;cases a;cases b;simp_all
 ·generalize gt a.D3 (i:Int)=x;generalize gt b.D3 (i:Int)=y;cases x;cases y;simp
 ·simp only[Al1];rw[Wy h,cond_true,if_pos (Agy h),if_pos (Agy (by omega)),Wx (by omega)];rfl
 ·simp only[Al1];rw[Aqt (Z9 _),cond_false]
theorem Bf6{a b:List Ax}(h:Adn a):Aw3 (Auq K a b) (a=b):=by
 have h2:=h.2;unfold Auq;refine Asv (fun h=>by rw[h]) fun hl=> ?_
 have hl:a.length=b.length:=by omega
 refine Axh hK (by omega) hl (Ajz K a b) (At5 K) (fun i hi=>Bh5 hK (h.1 _ (Al6 hi))) (fun n i h=> ?_) (fun n=> ?_)
 ·rw[Ajz,Wy h,cond_true,if_pos (Agy h),if_pos (Agy (by omega)),Wx (by omega)]
 ·rw[Ajz,Aqt (Z9 _),cond_false]
omit hK in
theorem Au4{x y:Int}{k:Option Bool}{p:Prop}(hp:p->x=y)(h:x=y->Aw3 k p):Aw3 (bif x==y then k else some false) p:=by
 by_cases e:x=y
 ·rw[beq_iff_eq.2 e,cond_true];exact h e
 ·rw[As5 e,cond_false];exact⟨false,rfl,(fun h=>by cases h),fun h=>absurd (hp h) e⟩
theorem Bf7{a b:A7}(h:A3a a):Aw3 (Atc K a b) (a=b):=by
 unfold Atc;refine Au4 (fun e=>by rw[e]) fun g1=>Au4 (fun e=>by rw[e]) fun g2=>Aob (A01 hK (Aw4 hK h.tags)) (fun e=>by rw[e]) rfl fun g3=>Aob (A01 hK (Aw4 hK h.chunks)) (fun e=>by rw[e]) rfl fun g4=>⟨_,rfl,?_,fun e=>by rw[e];simp⟩
 intro hc
 have:=beq_iff_eq.1 hc;cases a;cases b;simp_all
theorem Bf8{a b:Bm}(h:Alq a):Aw3 (Aq3 K a b) (a=b):=by
 have h2:=h.q.2;unfold Aq3;cases hc:(a.fC.Ad==b.fC.Ad)&&((a.fC.Ds==b.fC.Ds)&&((a.fC.B9==b.fC.B9)&&((a.fC.Eu==b.fC.Eu)&&((a.fC.Ca==b.fC.Ca)&&((a.fC.Dt==b.fC.Dt)&&true)))))with
 |false=>
  refine⟨false,rfl,(fun h=>by cases h),fun e=> ?_⟩
  rw[e]at hc;simp at hc
 |true=>
 rw[Bool.not_true,cond_false];simp only[Z4,beq_iff_eq]at hc;refine Aob (Bh4 hK h.p) (fun e=>by rw[e]) rfl fun g1=>Aob (Bf6 hK h.l) (fun e=>by rw[e]) rfl fun g2=> ?_
 rw[cond_true];refine Asv (fun e=>by rw[e]) fun g3=>Aob (A01 hK (Aw4 hK h.log)) (fun e=>by rw[e]) rfl fun g4=> ?_
 rw[Bool.not_true,cond_false]
 have hl:a.fQ.length=b.fQ.length:=by omega
 have key:=Axh hK (by omega) hl (fun m i=>Aj6 K m i b.fC.Ad b.fC.Ds b.fC.B9 b.fC.Eu b.fC.Ca b.fC.Dt b.fP.Fi b.fP.Gt b.fP.Fj b.fL b.fQ b.Jc a.fC.Ad a.fC.Ds a.fC.B9 a.fC.Eu a.fC.Ca a.fC.Dt a.fP.Fi a.fP.Gt a.fP.Fj a.fL a.fQ a.Jc) (Atc K) (fun i hi=>Bf7 hK (h.q.1 _ (Al6 hi))) (fun n i h=> ?_) (fun n=> ?_)
 ·obtain⟨c,e1,e2⟩:=key;refine⟨c,e1,fun hc2=> ?_,fun e=>e2.2 (by rw[e])⟩
  have:=e2.1 hc2;obtain⟨⟨a1,a2,a3,a4,a5,a6⟩,a7,a8,a9,a10⟩:=a;obtain⟨⟨b1,b2,b3,b4,b5,b6⟩,b7,b8,b9,b10⟩:=b
  simp_all
 ·simp only[Aj6];rw[Wy h,cond_true,if_pos (Agy h),if_pos (Agy (by omega)),Wx (by omega)]
 ·simp only[Aj6];rw[Aqt (Z9 _),cond_false]
end
section
variable {K:Nat} (hK:281474976710656≤K)
include hK
theorem A4c{x:Option Bool}{p q:Prop}(h:Aw3 x p)(hpq:p ↔ q):Aw3 (x.bind fun r=>some r) q:=by
 obtain⟨b,rfl,hb⟩:=h;exact⟨b,rfl,hb.trans hpq⟩
theorem Ay7{a b:List Int}(ha:a.length≤140737488355327):Aw3 (Ab0 K a b) (a=b):=⟨_,Bbx hK a b ha,decide_eq_true_iff⟩
theorem Bdw{a b:List Int}(ha:a.length≤140737488355327):Aw3 (Av0 K a b) (a=b):=by
 unfold Av0;refine Asv (fun h=>by rw[h]) fun hl=> ?_
 have hl:a.length=b.length:=by omega
 refine Axh hK (by omega) hl (fun m i=>Apl K a b m (a.length:Int) i) (fun x y=>some (x==y)) (fun i _=>⟨_,rfl,beq_iff_eq⟩) (fun n i h=> ?_) (fun n=> ?_)
 ·simp only[Apl];rw[Wy h,cond_true,if_pos (Agy h),if_pos (Agy (by omega)),Wx (by omega)];rfl
 ·simp only[Apl];rw[Aqt (Z9 _),cond_false]
theorem Bbo{a b:List Bl}(ha:a.length≤140737488355327):Aw3 (Aom K a b) (a=b):=by
 unfold Aom;refine Asv (fun h=>by rw[h]) fun hl=> ?_
 have hl:a.length=b.length:=by omega
 refine Axh hK (by omega) hl (fun m i=>Ajs K a b m (a.length:Int) i) (fun x y=>some ((x.fAt==y.fAt)&&((x.Xu==y.Xu)&&((x.Xv==y.Xv)&&true)))) (fun i _=>⟨_,rfl,?_⟩) (fun n i h=> ?_) (fun n=> ?_)
 ·generalize gt a (i:Int)=x;generalize gt b (i:Int)=y;cases x;cases y;simp
 ·simp only[Ajs];rw[Wy h,cond_true,if_pos (Agy h),if_pos (Agy (by omega)),Wx (by omega)];rfl
 ·simp only[Ajs];rw[Aqt (Z9 _),cond_false]
theorem Bf9{a b:Ed}(h:A34 a):Aw3 (A0r K a b) (a=b):=by
 unfold A0r;refine Aob (Bdw hK h.mem.2) (fun e=>by rw[e]) rfl fun e1=>Aob (Ay7 hK (Aw4 hK h.st)) (fun e=>by rw[e]) rfl fun e2=>A4c hK (Ay7 hK (Aw4 hK h.own)) ?_
 constructor
 ·intro h;cases a;cases b;simp_all
 ·intro h;rw[h]
theorem Bga{a b:Ax}(h:Atw a):Aw3 (At7 K a b) (a=b):=by
 have h2:=h.things.2;unfold At7
 refine Au4 (fun e=>by rw[e]) fun g1=>Au4 (fun e=>by rw[e]) fun g2=>Au4 (fun e=>by rw[e]) fun g3=>Au4 (fun e=>by rw[e]) fun g4=>Au4 (fun e=>by rw[e]) fun g5=>Au4 (fun e=>by rw[e]) fun g6=>Au4 (fun e=>by rw[e]) fun g7=>Au4 (fun e=>by rw[e]) fun g8=>Aob (Ay7 hK (Aw4 hK h.chunks)) (fun e=>by rw[e]) rfl fun g9=>Au4 (fun e=>by rw[e]) fun g10=>Au4 (fun e=>by rw[e]) fun g11=>Aob (Bbo hK (by omega)) (fun e=>by rw[e]) rfl fun g12=>A4c hK (Ay7 hK (Aw4 hK h.tags)) ?_
 constructor
 ·intro h;cases a;cases b;simp_all
 ·intro h;rw[h]
theorem Bdx{a b:A7}(h:A3a a):Aw3 (Awz K a b) (a=b):=by
 unfold Awz;refine Au4 (fun e=>by rw[e]) fun g1=>Au4 (fun e=>by rw[e]) fun g2=>Au4 (fun e=>by rw[e]) fun g3=>Aob (Ay7 hK (Aw4 hK h.tags)) (fun e=>by rw[e]) rfl fun g4=>A4c hK (Ay7 hK (Aw4 hK h.chunks)) ?_
 constructor
 ·intro h;cases a;cases b;simp_all
 ·intro h;rw[h]
theorem Bdy{a b:Bm}(h:Alq a):Aw3 (Aw0 K a b) (a=b):=by
 have h2:=h.q.2
 have h3:=h.l.2;unfold Aw0 A2j;cases hc:(a.fC.Ad==b.fC.Ad)&&((a.fC.Ds==b.fC.Ds)&&((a.fC.B9==b.fC.B9)&&((a.fC.Eu==b.fC.Eu)&&((a.fC.Ca==b.fC.Ca)&&((a.fC.Dt==b.fC.Dt)&&true)))))with
 |false=>
  refine⟨false,rfl,(fun h=>by cases h),fun e=> ?_⟩
  rw[e]at hc;simp at hc
 |true=>
 rw[cond_true];simp only[Z4,beq_iff_eq]at hc
 have tab:Aw3 (Agv K a.fL b.fL) (a.fL=b.fL):=by
  unfold Agv;refine Asv (fun h=>by rw[h]) fun hl=> ?_
  have hl:a.fL.length=b.fL.length:=by omega
  refine Axh hK (by omega) hl (fun m i=>K1 K a.fL b.fL m (a.fL.length:Int) i) (At7 K) (fun i hi=>Bga hK (h.l.1 _ (Al6 hi))) (fun n i h=> ?_) (fun n=> ?_)
  ·simp only[K1];rw[Wy h,cond_true,if_pos (Agy h),if_pos (Agy (by omega)),Wx (by omega)]
  ·simp only[K1];rw[Aqt (Z9 _),cond_false]
 have qs:Aw3 (Adv K a.fQ b.fQ) (a.fQ=b.fQ):=by
  unfold Adv;refine Asv (fun h=>by rw[h]) fun hl=> ?_
  have hl:a.fQ.length=b.fQ.length:=by omega
  refine Axh hK (by omega) hl (fun m i=>Ht K a.fQ b.fQ m (a.fQ.length:Int) i) (Awz K) (fun i hi=>Bdx hK (h.q.1 _ (Al6 hi))) (fun n i h=> ?_) (fun n=> ?_)
  ·simp only[Ht];rw[Wy h,cond_true,if_pos (Agy h),if_pos (Agy (by omega)),Wx (by omega)]
  ·simp only[Ht];rw[Aqt (Z9 _),cond_false]
 refine Aob (Bf9 hK h.p) (fun e=>by rw[e]) rfl fun g1=> ?_
 rw[cond_true];refine Aob (A4c hK tab Iff.rfl) (fun e=>by rw[e]) rfl fun g2=>Aob qs (fun e=>by rw[e]) rfl fun g3=>A4c hK (Ay7 hK (Aw4 hK h.log)) ?_
 constructor
 ·intro g4;obtain⟨⟨a1,a2,a3,a4,a5,a6⟩,a7,a8,a9,a10⟩:=a;obtain⟨⟨b1,b2,b3,b4,b5,b6⟩,b7,b8,b9,b10⟩:=b
  simp_all
 ·intro h;rw[h]
theorem Ba7{a b:Bm}(h:Alq a): ∃c,Aw0 K a b=some c∧Aq3 K a b=some c:=by
 obtain⟨c,e1,e2⟩:=Bdy hK h (b:=b);obtain⟨d,e3,e4⟩:=Bf8 hK h (b:=b);refine⟨c,e1,?_⟩;rw[e3]
 have:c=d:=by rw[Bool.eq_iff_iff];exact e2.trans e4.symm
 rw[this]
end
theorem adG{a b:Int}(h0: -1000000000≤a+b)(h1:a+b≤1000000000):Arj .i64 a b=a+b:=by unfold Arj;rw[Gy (by omega) (by omega)]
theorem sbG{a b:Int}(h0: -1000000000≤a - b)(h1:a - b≤1000000000):Ark .i64 a b=a - b:=by unfold Ark;rw[Gy (by omega) (by omega)]
def wto (c:Fc)(d:Int):Int:=if c.Ds<d+c.Ca then c.Ds else d+c.Ca
def Blo (c:Fc)(p:Ed)(k d:Int):List Int:=A2h p.Fi (k*c.Ds+d).toNat (wto c d - d).toNat
def Bgb (c:Fc)(p:Ed)(k d:Int):Ed×Bool:=
 bif Aw7 c p&&(inB k 0 (c.Ad - 1)&&(gt p.Gt k==2&&inB d 0 (c.Ds - 1)))then
  (if wto c d<c.Ds then(Ed.mk (Blo c p k d) p.Gt p.Fj,false)
   else bif Atn (((Blo c p k d).drop (k*c.Ds).toNat).take c.Ds.toNat)then(Ed.mk (Blo c p k d) (p.Gt.set k.toNat 0) p.Fj,true)else(p,false))
 else(p,false)
section
variable {K:Nat} (hK:281474976710656≤K)
include hK
theorem Bh6 (c:Fc){p:Ed}(hw:A34 p)(k d:Int):Ave K c p k d=some (Bgb c p k d):=by
 unfold Ave Bgb;rw[A21 K hw,Z0,A54 hK,Z0];cases hp:Aw7 c p with
 |false=>rfl
 |true=>
 have hc:=(Aut hp).1
 have P:=Ahs.1 hp;obtain⟨b1,b2,b3,b4,b5,b6⟩:=A1 hc;rw[A07 hK hc,Aok];simp only[cond_true,Z0,Z30];cases h1:inB k 0 (c.Ad - 1)with
 |false=>rfl
 |true=>
 have hk:=Abx.1 h1
 have hst:=P.st;rw[cond_true,if_pos (show 0≤k∧k<(p.Gt.length:Int) from⟨hk.1,by omega⟩)]
 cases h2:(gt p.Gt k==2)with
 |false=>simp only[bne,h2];rfl
 |true=>
 simp only[bne,h2,Bool.not_true,cond_false,Z30];rw[Aok,A6q hc];cases h3:inB d 0 (c.Ds - 1)with
 |false=>rfl
 |true=>
 have hd:=Abx.1 h3
 have hk2:k<c.Ad:=by omega
 obtain⟨e1,e2,e3,e4⟩:=A32 hc P.mem hk.1 hk2
 have hl:p.Fi.length≤192:=A6y P
 have es:Arj .i64 d c.Ca=d+c.Ca:=adG (by omega) (by omega)
 have ht:d≤wto c d∧wto c d≤c.Ds:=by unfold wto;split<;>omega
 have el:Aza K (d+c.Ca) c.Ds=some (wto c d):=by
  unfold Aza wto
  grind
 have ea:Arj .i64 (k*c.Ds) d=k*c.Ds+d:=adG (by omega) (by omega)
 have en:Ark .i64 (wto c d) d=wto c d - d:=sbG (by omega) (by omega)
 simp only[Z0,Bool.not_true,cond_false,cond_true];rw[es,el,e1,ea,Z0,en,Bb4 hK (by omega) ⟨by omega,by omega⟩ (by omega) (by omega),Z0]
 show(bif decide (wto c d<c.Ds)then _ else _)=_
 by_cases q:wto c d<c.Ds
 ·rw[decide_eq_true q,if_pos q];rfl
 ·rw[decide_eq_false q,if_neg q,cond_false,e2,if_pos ⟨by omega,by omega,by show _≤((A2h _ _ _).length:Int);rw[Ay6];omega⟩]
  have et:(k*c.Ds+c.Ds - k*c.Ds).toNat=c.Ds.toNat:=by congr 1;omega
  rw[et]
  show(Auk K ((List.drop (k*c.Ds).toNat (Blo c p k d)).take c.Ds.toNat)).bind _=_;rw[A20 hK _ (by rw[List.length_take,List.length_drop,show(Blo c p k d).length=p.Fi.length from Ay6 _ _ _];omega),Z0]
  cases h4:Atn (((Blo c p k d).drop (k*c.Ds).toNat).take c.Ds.toNat)with
  |false=>rfl
  |true=>simp only[Bool.not_true,cond_false,cond_true];rw[if_pos ⟨hk.1,by omega⟩];rfl
end
def Bq1 (c:Fc)(x:A7)(b:Bool):A7:=bif b then A7.mk x.A9 x.Bw x.De (x.Ad.drop 1) 0 else A7.mk x.A9 x.Bw x.De x.Ad (Arj .i64 x.Hp c.Ca)
def Bcg (w:Bm)(x:A7)(qs:List A7):Bm:=
 Bm.mk w.fC (Bgb w.fC w.fP (gt x.Ad 0) x.Hp).1 w.fL (Bq1 w.fC x (Bgb w.fC w.fP (gt x.Ad 0) x.Hp).2::qs) w.Jc
def Bq2 (w:Bm)(x:A7)(qs:List A7):Bm:=
 if 0<x.De.length then A5o w x qs else if 0<x.Ad.length then Bcg w x qs else if x.Bw=0 then A5p w x qs else Az5 w x qs
def Bux (w:Bm):Bm:=match w.fQ with
 |[]=>w
 |x::qs=>Bq2 w x qs
def ND (s:Nat)(n:Ax):Prop:=(0≤n.Gv∧n.Gv≤(s:Int))∧(0≤n.Bw∧n.Bw≤(s:Int))∧(0≤n.C5∧n.C5≤1000)
structure Tot (w:Bm)(m:Nat):Prop where
 ww:Alq w
 conf:Agz w.fC=true
 len:w.fL.length≤1000
 nd: ∀n∈w.fL,ND w.fL.length n
 q: ∀x∈w.fQ,(0≤x.Bw∧x.Bw≤(w.fL.length:Int))∧(0≤x.A9∧x.A9≤(w.fL.length:Int))
 ql:w.fQ.length≤m
 ll:w.Jc.length≤m
theorem Tot.mono{w:Bm}{m n:Nat}(T:Tot w m)(h:m≤n):Tot w n:={T with ql:=Vb T.ql h,ll:=Vb T.ll h}
section
variable {K:Nat} (hK:281474976710656≤K)
include hK
omit hK in
theorem Bs5 (K:Nat){w:Bm}{x:A7}{qs:List A7}(hq:w.fQ=x::qs)(h0:0<x.De.length)(h6:x.De.length≤17592186044415)(hl:w.Jc.length≤1000000000):Ax0 K w=some (A5o w x qs):=by
 have hm:=P2;unfold Ax0;rw[hq,gt0]
 have e:Ark .i64 (x.De.length:Int) 1=((x.De.length - 1:Nat):Int):=by unfold Ark;rw[Gy (by omega) (by omega)];omega
 rw[e,if_pos ⟨by omega,by simp⟩,if_pos ⟨by omega,by omega⟩,if_pos ⟨by grind,by grind⟩,if_pos ⟨by omega,by omega,by omega⟩,A7b,Z38,if_pos ⟨by grind,by grind⟩]
 rfl
theorem Bq3{w:Bm}{m:Nat}(hm:m≤1000000000)(T:Tot w m){x:A7}{qs:List A7}(hq:w.fQ=x::qs)(hf:x.Bw≠0):Awe K w=some (Az5 w x qs):=by
 have hmx:=P2
 have hw:=T.ww
 have hX:=T.q x (by rw[hq];exact List.mem_cons_self)
 have hlen:=T.len
 have hk:0≤x.Bw - 1∧x.Bw - 1<(w.fL.length:Int):=⟨by omega,by omega⟩
 have hn:=hw.l.1 _ (Apa hk.1 hk.2)
 have e1:Ark .i64 x.Bw 1=x.Bw - 1:=sb1 (by omega) (by omega)
 have e2:Arj .i64 (x.Bw - 1) 1=x.Bw:=by rw[ad1 (by omega) (by omega)];omega
 have hnx:=(T.nd _ (Apa hk.1 hk.2)).1
 have hlq:(w.fQ).length=qs.length+1:=by rw[hq];rfl
 have hQ:=T.ql
 have hj: ∀(l:List Ax) (q:List A7),l.length=w.fL.length->q.length=w.fQ.length->As7 K (gt w.fL (x.Bw - 1)) (x.Bw - 1) w.fC.Ad w.fC.Ds w.fC.B9 w.fC.Eu w.fC.Ca w.fC.Dt w.fP.Fi w.fP.Gt w.fP.Fj l q w.Jc=some (Bm.mk w.fC (Als w.fP (gt w.fL (x.Bw - 1)).Ad) (l.set (x.Bw - 1).toNat (Ate 2 (gt w.fL (x.Bw - 1)).C5)) (Ajv (gt w.fL (x.Bw - 1)) x.Bw::q) w.Jc):=by
  intro l q hl1 hq1
  have h8:=hn.tags.2
  have h9:=hn.chunks.2;unfold As7;rw[Bfj hK (Bm.mk w.fC w.fP l q w.Jc) hw.p _ (Aw4 hK hn.chunks),Z0];unfold A04 A0b;simp only[Z0,Z38,List.singleton_append,Z28];simp only[hl1,if_pos hk,e2,Z0]
  iterate 4 (try rw[if_pos ⟨by omega,by omega⟩])
  try simp only[Z0]
  iterate 4 (try rw[if_pos ⟨by omega,by omega⟩])
  rfl
 unfold Awe;rw[hq,gt0,if_pos ⟨by omega,by simp⟩,e1]
 simp only[if_pos hk];rw[Avv K hn,Z0,if_pos ⟨by omega,by simp⟩,Ayz,Z0]
 unfold Az5 A4s
 have hp:plB w.fL (gt w.fL (x.Bw - 1)).Gv=decide (1≤(gt w.fL (x.Bw - 1)).Gv∧(gt w.fL (x.Bw - 1)).Gv≤(w.fL.length:Int)):=by
  rw[Bool.eq_iff_iff,A6u (by omega) (by omega),decide_eq_true_iff]
  omega
 rw[hp]
 by_cases q:1≤(gt w.fL (x.Bw - 1)).Gv∧(gt w.fL (x.Bw - 1)).Gv≤(w.fL.length:Int)
 ·rw[decide_eq_true q];simp only[cond_true];rw[sb1 (by omega) (by omega),if_pos ⟨by omega,by omega⟩]
  unfold Aty;exact hj _ _ (by rw[Z49]) (by rw[hq];rfl)
 ·rw[decide_eq_false q];simp only[cond_false];exact hj _ _ rfl (by rw[hq];rfl)
theorem Bq4{w:Bm}{m:Nat}(hm:m≤1000000000)(T:Tot w m)(h0:0<w.fQ.length):Atk K w=some (Bux w):=by
 have hmx:=P2
 have W:=T.ww
 have hQ:=T.ql
 have hL:=T.ll;unfold Bux;cases hq:w.fQ with
 |nil=>rw[hq]at h0;cases h0
 |cons x qs=>
 have hxm:x∈w.fQ:=by rw[hq];exact List.mem_cons_self
 have hX:=T.q x hxm
 have hxw:=W.q.1 x hxm
 have hx1:=hxw.tags.2
 have hx2:=hxw.chunks.2
 have hlen:=T.len
 have hlq:(w.fQ).length=qs.length+1:=by rw[hq];rfl
 show _=some (Bq2 w x qs);unfold Atk A2n Bq2;rw[hq,gt0,if_pos ⟨by omega,by simp⟩]
 by_cases c1:0<x.De.length
 ·rw[decide_eq_true (show(x.De.length:Int)>0 by omega),if_pos c1,Bs5 K hq c1 (by omega) (by omega)]
  rfl
 ·rw[decide_eq_false (show ¬(x.De.length:Int)>0 by omega),if_neg c1]
  by_cases c2:0<x.Ad.length
  ·rw[decide_eq_true (show(x.Ad.length:Int)>0 by omega),if_pos c2]
   simp only[cond_true,cond_false,Z0];rw[show((2:Int)==1)=false from rfl,show((2:Int)==2)=true from rfl]
   simp only[cond_true,cond_false];unfold Aym;rw[hq,gt0,if_pos ⟨by omega,by simp⟩,if_pos ⟨by omega,by omega⟩,Bh6 hK w.fC W.p,Z0]
   unfold Bcg Bq1;cases (Bgb w.fC w.fP (gt x.Ad 0) x.Hp).2 with
   |false=>rfl
   |true=>
    rw[cond_true,cond_true,if_pos ⟨by omega,by omega,by omega⟩,Z38]
    have et:(x.Ad.drop (1:Int).toNat).take ((x.Ad.length:Int) - 1).toNat=x.Ad.drop 1:=by
     show(x.Ad.drop 1).take _=_;exact List.take_of_length_le (by rw[List.length_drop];omega)
    rw[et,if_pos ⟨by rw[List.length_drop];omega,by rw[List.length_drop];omega⟩]
    rfl
  ·rw[decide_eq_false (show ¬(x.Ad.length:Int)>0 by omega),if_neg c2]
   by_cases c3:x.Bw=0
   ·rw[if_pos c3]
    have et:((x::qs).drop (1:Int).toNat).take (((x::qs).length:Int) - 1).toNat=qs:=by
     show qs.take _=_;exact List.take_of_length_le (by simp)
    rw[c3];simp only[bne_self_eq_false,cond_false,Z0];rw[show((4:Int)==1)=false from rfl,show((4:Int)==2)=false from rfl,show((4:Int)==3)=false from rfl]
    simp only[cond_false]
    have hl1:(((x::qs).length:Nat):Int)=(qs.length:Int)+1:=by simp
    have hj: ∀l:List Ax,As8 K w.fC.Ad w.fC.Ds w.fC.B9 w.fC.Eu w.fC.Ca w.fC.Dt w.fP.Fi w.fP.Gt w.fP.Fj l (x::qs) w.Jc=some (Bm.mk w.fC w.fP l qs w.Jc):=by
     intro l;unfold As8;rw[et,Z38,hl1,if_pos (show(0:Int)≤1∧(1:Int)≤(qs.length:Int)+1∧(qs.length:Int)+1≤(qs.length:Int)+1 from⟨by omega,by omega,by omega⟩),if_pos (show qs.length*72≤140737488355328∧qs.length≤maxLen from⟨by omega,by omega⟩)]
    rw[if_pos ⟨by omega,by simp⟩]
    unfold A5p A2c
    by_cases q:x.A9=0
    ·rw[q,if_pos rfl];simp only[bne_self_eq_false,cond_false];exact hj _
    ·have hk:0≤x.A9 - 1∧x.A9 - 1<(w.fL.length:Int):=⟨by omega,by omega⟩
     rw[A2d q,if_neg q,cond_true,if_pos ⟨by omega,by simp⟩,sb1 (by omega) (by omega),Bfk hK W.l hk (T.nd _ (Apa hk.1 hk.2)).2.2,Z0]
     exact hj _
   ·rw[A2d c3,if_neg c3];simp only[cond_true,cond_false,Z0];rw[show((3:Int)==1)=false from rfl,show((3:Int)==2)=false from rfl,show((3:Int)==3)=true from rfl]
    simp only[cond_true,cond_false];rw[Bq3 hK hm T hq c3];rfl
end
section
variable {K:Nat} (hK:281474976710656≤K)
include hK
end
theorem Byt{w:Bm}{m:Nat}(hw:Alq w)(hB:A15 w=true)(hq:w.fQ.length≤m)(hl:w.Jc.length≤m):Tot w m:=by
 have P:=Ba6 hB;obtain⟨b1,b2,b3,b4,b5,b6⟩:=A1 P.conf;unfold A15 at hB;simp only[Z4,Z1,List.mem_range,beq_iff_eq]at hB;obtain⟨_,hlen,hs,_,⟨hw1,_⟩,_⟩:=hB;refine⟨hw,P.conf,by omega,A7k fun k hk=> ?_,fun x hx=> ?_,hq,hl⟩
 ·have S:=hs k.toNat (by omega)
  unfold A7w at S;rw[show((k.toNat:Nat):Int)=k by omega,Z4]at S
  obtain⟨l1,l2,l3,l4⟩:=A5m S.1
  have g:=(A23 S.1).2.2;exact⟨by omega,by omega,by omega⟩
 ·have X:=hw1 x hx;unfold Aon at X;rw[Z4]at X
  have R:=A0x.1 X.1
  have:=R.slot;have:=R.first;exact⟨by omega,by omega⟩
theorem AnyP.tot{w:Bm}(A:AnyP w)(hB:A15 w=true):Tot w 40000:=Byt A.ww hB A.q A.g
theorem A9t{β:Type}(n:Nat)(g:Nat->Nat)(hg: ∀i,i<n->g i≤1000)(hn:n≤100000)(F:Int->Option β)(L:Nat->Int->Int->Option β)
  (h1: ∀m v i,i<n->L (m+1) v (i:Int)=L m (Arj .i64 v (g i:Int)) ((i+1:Nat):Int)) (h2: ∀m v,L (m+1) v (n:Int)=F v):
  ∀f i (v:Nat),i≤n->n - i<f->v≤1000*i+100000000->L f (v:Int) (i:Int)=F ((v+(((List.range n).drop i).map g).sum:Nat):Int):=by
 intro f
 induction f with
 |zero=>omega
 |succ f ih=>
  intro i v hi hf hv;rcases Hw i n with h|h
  ·have:=hg i h;rw[h1 _ _ _ h,show Arj .i64 (v:Int) (g i:Int)=((v+g i:Nat):Int)by rw[adG (by omega) (by omega)];omega,ih (i+1) (v+g i) h (by omega) (by omega)]
   have e:(List.range n).drop i=i::(List.range n).drop (i+1):=by
    rw[Z47 (by simpa using h),List.getElem_range]
   rw[e,Z8,List.sum_cons,Z53]
  ·obtain rfl:i=n:=by omega
   rw[h2,Z48 (by simp)];rfl
def Bq5 (w:Bm):Nat:=((Ax8 w).map fun k=>(Ato w.fP k).length).sum
theorem A3w{α:Type}[Inhabited α](l:List α)(f:α->Nat):((List.range l.length).map fun i:Nat=>f (gt l (i:Int))).sum=(l.map f).sum:=by
 congr 1
 refine List.ext_getElem (by simp) fun i h1 h2=> ?_
 simp only[J5,List.length_range]at h1;simp only[List.getElem_map,List.getElem_range];rw[V2 h1]
section
variable {K:Nat} (hK:281474976710656≤K)
include hK
omit hK in
theorem A9d{p:Ed}(h:p.Gt.length≤1000)(k:Int):(Ato p k).length≤1000:=by
 have:=A94 p k;omega
omit hK in
theorem A7o{w:Bm}(h8:w.fL.length≤1000):(Ax8 w).length≤1000:=by have:=A7n w.fL w.fL.length;rw[Bs2];omega
theorem A6n{w:Bm}(hw:Alq w)(h8:w.fL.length≤1000)(hs:w.fP.Gt.length≤1000):Ava K w=some (Bq5 w:Int):=by
 unfold Ava;rw[A8d hK hw h8,Z0]
 have hl:=A7o h8
 have:=A9t (Ax8 w).length (fun i=>(Ato w.fP (gt (Ax8 w) (i:Int))).length) (fun i _=>A9d hs _) (by omega) some (fun n v i=>Alt K (Ax8 w) n v i w.fC.Ad w.fC.Ds w.fC.B9 w.fC.Eu w.fC.Ca w.fC.Dt w.fP.Fi w.fP.Gt w.fP.Fj w.fL w.fQ w.Jc) (fun n v i h=> ?_) (fun n v=> ?_) K 0 0 (Z21 _) (by omega) (by omega)
 ·rw[Z55,Nat.zero_add,A3w (Ax8 w) (fun k=>(Ato w.fP k).length)]at this;exact this
 ·simp only[Alt];rw[Wy h,cond_true,if_pos (Agy h),A5c hK _ _ hw.p.st.2,Z0,Wx (by omega)]
 ·simp only[Alt];rw[Aqt (Z9 _),cond_false]
theorem A4d{w:Bm}(hw:Alq w)(h8:w.fL.length≤1000)(hs:w.fP.Gt.length≤1000):At9 K w=some (Bq5 w:Int):=by
 unfold At9;rw[A8e hK hw h8,Z0]
 have hl:=A7o h8
 have:=A9t (Ax8 w).length (fun i=>(Ato w.fP (gt (Ax8 w) (i:Int))).length) (fun i _=>A9d hs _) (by omega) some (fun n v i=>Atu K (Ax8 w) n v ((Ax8 w).length:Int) i w.fC.Ad w.fC.Ds w.fC.B9 w.fC.Eu w.fC.Ca w.fC.Dt w.fP.Fi w.fP.Gt w.fP.Fj w.fL w.fQ w.Jc) (fun n v i h=> ?_) (fun n v=> ?_) K 0 0 (Z21 _) (by omega) (by omega)
 ·rw[Z55,Nat.zero_add,A3w (Ax8 w) (fun k=>(Ato w.fP k).length)]at this;exact this
 ·simp only[Atu];rw[Wy h,cond_true,if_pos (Agy h),A7v hK _ _ hw.p.st.2,Z0,Wx (by omega)]
 ·simp only[Atu];rw[Aqt (Z9 _),cond_false]
theorem Bbp (p:Ed)(st:Int)(hl:p.Gt.length≤140737488355327):Ayw K p st=some ((((List.range p.Gt.length).filter (fun k:Nat=>gt p.Gt k==st)).length:Nat):Int):=by
 unfold Ayw
 have:=Bcy p.Gt.length hl (fun k:Nat=>gt p.Gt k==st) some (fun n v i=>Atd K st n v p.Gt (p.Gt.length:Int) i) (fun n v i hi h0 hv=> ?_) (fun n v=> ?_) K 0 0 (Int.le_refl _) (Int.le_refl _) (Z21 _) (by omega)
 ·grind
 ·simp only[Atd,Azk];rw[Wy hi,cond_true,if_pos (Agy hi),Wx (by omega),show Arj .i64 v 1=v+1 by unfold Arj;rw[Gy (by omega) (by omega)]]
 ·simp only[Atd];rw[Aqt (Z9 _),cond_false]
end
theorem Bch{l o:List Int}(h1:l.Nodup)(h2:o.Nodup)(h: ∀x,x∈l ↔ x∈o):l.length=o.length:=
 Nat.le_antisymm (Ay2 h1 fun x hx=>(h x).1 hx) (Ay2 h2 fun x hx=>(h x).2 hx)
theorem A9e (N:Nat)(p:Nat->Bool):(((List.range N).filter p).map (fun k:Nat=>(k:Int))).Nodup:=by
 refine(List.Pairwise.map (R:=fun a b=>a≠b) _ (fun a b h e=>h (by omega)) (List.Pairwise.filter p List.nodup_range))
theorem Byu (l:List Nat)(f:Nat->Int)(h: ∀x∈l,0≤f x∧f x≤2):(l.filter (fun x=>f x==0)).length+(l.filter (fun x=>f x==1)).length+(l.filter (fun x=>f x==2)).length=l.length:=by
 induction l with
 |nil=>rfl
 |cons x l ih=>
  have:=ih fun y hy=>h y (Z56 _ hy)
  have hx:=h x List.mem_cons_self;rcases (by omega:f x=0∨f x=1∨f x=2)with e|e|e
  all_goals simp[e];omega
def stN (p:Ed)(s:Int):Nat:=((List.range p.Gt.length).filter (fun k:Nat=>gt p.Gt k==s)).length
def chF (w:Bm):List Int:=(List.range w.fL.length).flatMap fun k:Nat=>(gt w.fL (k:Int)).Ad
theorem Bs6 (w:Bm):(chF w).length=(w.fL.map fun n=>n.Ad.length).sum:=by
 unfold chF;rw[List.length_flatMap,←A3w w.fL (fun n=>n.Ad.length)]
theorem Bq6 (q:List A7):(chL q).length=(q.map fun x=>x.Ad.length).sum:=by
 unfold chL;rw[List.length_flatMap]
theorem Bci{w:Bm}(I:Inv w):(w.fL.map fun n=>n.Ad.length).sum+(w.fQ.map fun x=>x.Ad.length).sum+stN w.fP 0=w.fP.Gt.length:=by
 obtain⟨hc,_,hst,hown,hone⟩:=Aut I.pool;obtain⟨b1,b2,b3,b4,b5,b6⟩:=A1 hc
 have hlen:=I.len
 have n2:(chL w.fQ).length=stN w.fP 2:=by
  unfold stN;rw[←J5 (f:=fun k:Nat=>(k:Int))];refine Bch I.chn (A9e _ _) fun x=> ?_;rw[I.chi x,Axy];constructor
  ·rintro⟨h,e⟩;refine⟨by omega,?_⟩
   rw[show((x.toNat:Nat):Int)=x by omega,e];rfl
  ·rintro⟨h,e⟩;rw[show((x.toNat:Nat):Int)=x by omega,beq_iff_eq]at e
   exact⟨by omega,e⟩
 have n1:(chF w).length=stN w.fP 1:=by
  unfold stN;rw[←J5 (f:=fun k:Nat=>(k:Int))];refine Bch ?_ (A9e _ _) fun x=> ?_
  ·unfold chF;refine List.pairwise_flatMap.2 ⟨fun k hk=> ?_,?_⟩
   ·rw[List.mem_range]at hk;exact A0z (A4p (I.node k ⟨by omega,by omega⟩))
   ·refine List.Pairwise.imp_of_mem ?_ (List.nodup_range (n:=w.fL.length));intro i j hi hj hij x hx y hy e;rw[List.mem_range]at hi hj
    have h1:=(I.own i ⟨by omega,by omega⟩ x).1 hx
    have h2:=(I.own j ⟨by omega,by omega⟩ y).1 hy
    rw[←e]at h2;omega
  ·rw[Axy];unfold chF;rw[List.mem_flatMap];constructor
   ·rintro⟨k,hk,hx⟩;rw[List.mem_range]at hk
    have h1:=(I.own k ⟨by omega,by omega⟩ x).1 hx
    refine⟨by omega,?_⟩
    rw[show((x.toNat:Nat):Int)=x by omega,h1.2.1];rfl
   ·rintro⟨h,e⟩;rw[show((x.toNat:Nat):Int)=x by omega,beq_iff_eq]at e
    have P:=Ahs.1 I.pool
    have ho:=(P.one x ⟨h.1,by omega⟩).2.1 e
    refine⟨(gt w.fP.Fj x).toNat,by rw[List.mem_range];omega,?_⟩
    rw[show(((gt w.fP.Fj x).toNat:Nat):Int)=gt w.fP.Fj x by omega]
    exact(I.own _ (by omega) x).2 ⟨by omega,e,rfl⟩
 have n3:stN w.fP 0+stN w.fP 1+stN w.fP 2=w.fP.Gt.length:=by
  have P:=Ahs.1 I.pool
  have:=Byu (List.range w.fP.Gt.length) (fun k:Nat=>gt w.fP.Gt k) (fun k hk=>by rw[List.mem_range]at hk;exact(P.one k ⟨by omega,by omega⟩).1)
  rw[List.length_range]at this;exact this
 rw[←Bs6,←Bq6];omega
theorem Bq7 (l:List Int)(p:Int->Bool)(g:Int->Nat):((l.filter p).map g).sum≤(l.map g).sum:=by
 induction l with
 |nil=>exact Z9 _
 |cons x l ih=>
  rw[List.filter_cons];split
  ·simp only[Z8,List.sum_cons];omega
  ·simp only[Z8,List.sum_cons];omega
theorem Bs7{w:Bm}(I:Inv w):Bq5 w≤w.fP.Gt.length:=by
 have h:=Bci I
 have h2:Bq5 w≤(w.fL.map fun n=>n.Ad.length).sum:=by
  unfold Bq5 Ax8;refine Vb (Bq7 _ _ _) ?_;rw[D2,←A3w w.fL (fun n=>n.Ad.length)];refine Nat.le_of_eq (congrArg List.sum (Gn fun i hi=> ?_));rw[List.mem_range]at hi
  have:=Bqv I (k:=(i:Int)) ⟨by omega,by omega⟩
  show(Ato w.fP (i:Int)).length=_;omega
 omega
section
variable {K:Nat} (hK:281474976710656≤K)
include hK
theorem Bbq{w:Bm}(A:AnyP w): ∃r,Azj K w=some r:=by
 unfold Azj;rw[Axg hK A.ww,Z0,Azm hK w A.ww,Z0];cases hB:A15 w with
 |false=>exact⟨_,rfl⟩
 |true=>
  rw[cond_true]
  by_cases h:w.fQ.length=0
  ·rw[h];exact⟨_,rfl⟩
  ·rw[As5 (by omega),cond_false,Bq4 hK (by decide) (A.tot hB) (by omega)]
   exact⟨_,rfl⟩
theorem Buz{a:List Int}(hb:A2a a)(ha:a.length≤1048576){most:Int}(hm:0<most∧most≤1000): ∃w c,Aws K a most=some (c,w)∧AnyP w∧Agw c:=by
 obtain⟨c,e1,w1⟩:=Bau hK hb ha;obtain⟨w,c2,e2,A,w2⟩:=Bcf hK w1 hm;refine⟨w,c2,?_,A,w2⟩;unfold Aws;rw[e1,Z0,e2];rfl
theorem Bdz{a:List Int}(hb:A2a a)(ha:a.length≤1048576): ∃x y,Avp K a=some (x,y)∧Alq x:=by
 obtain⟨w,c,e1,A,wc⟩:=Buz hK hb ha (most:=40) (by omega)
 obtain⟨k,e2,bk,w2⟩:=Afc K wc (n:=4) (by omega)
 obtain⟨r,e3⟩:=Bbq hK A;obtain⟨v,c3,e4,A4,w4⟩:=Bcf hK w2 (most:=20) (by omega)
 unfold Avp Asd;rw[e1,Z0];dsimp only;rw[Axg hK A.ww,Z0,e2,Z0];cases k.1==0 with
 |true=>rw[cond_true,e3];exact⟨_,_,rfl,A.ww⟩
 |false=>
  rw[cond_false];cases k.1==1 with
  |true=>rw[cond_true,e4];exact⟨_,_,rfl,A.ww⟩
  |false=>exact⟨_,_,rfl,A.ww⟩
theorem B1v{w:Bm}(A:AnyP w)(n:Int): ∃b,A0s K w n=some b∧Aqq K w n=some b:=by
 have:=A.l;have:=A.s;unfold A0s Aqq;rw[A6n hK A.ww (by omega) (by omega),A4d hK A.ww (by omega) (by omega)]
 cases decide (n≥0)with
 |false=>exact⟨_,rfl,rfl⟩
 |true=>
  cases decide (n≤w.fC.Ad)with
  |false=>exact⟨_,rfl,rfl⟩
  |true=>exact⟨_,rfl,rfl⟩
end
theorem Bbr (a:List Int)(u:Bco a): ∃K,A0t K a=some true:=by
 refine⟨562949953421312,?_⟩
 have hK:281474976710656≤562949953421312:=by decide
 unfold A0t A68;rw[Z0]
 by_cases hbig:(a.length:Int)>1048576
 ·rw[decide_eq_true hbig,cond_true]
 rw[decide_eq_false hbig,cond_false]
 have ha:a.length≤1048576:=by omega
 have hb:A2a a:=(Bkv u).1;obtain⟨cr,e1,wc⟩:=Bau hK hb ha;obtain⟨c,c2,e2,hc,w2⟩:=Bf1 562949953421312 wc
 have d1:Avx 562949953421312 a=some c:=by
  unfold Avx;rw[e1,Z0,e2];rfl
 obtain⟨w0,i1,s1,W0,hok⟩:=Bbn hK c;obtain⟨wd,o,E,n,e3,G,hE,hn,_⟩:=Bdr hK hb ha
 have W:=G.ww (by omega) (by omega)
 have I:=G.inv;obtain⟨b1,b2,b3,_⟩:=A1 I.conf
 have hlen:=I.len
 have hq:=Bpz wd
 have hwt:=G.wt;obtain⟨w,c3,e4,A,wc3⟩:=Buz hK hb ha (most:=40) (by omega)
 have d2:Axb 562949953421312 a=some w:=by
  unfold Axb;rw[e4];rfl
 obtain⟨x,y,d3,X⟩:=Bdz hK hb ha;obtain⟨k,e5,bk,_⟩:=Afc 562949953421312 wc3 (n:=9) (by omega)
 have d4:Avz 562949953421312 a=some (w,Ark .i64 k.1 1):=by
  unfold Avz;rw[e4,Z0,e5];rfl
 obtain⟨f,f1,f2⟩:=B1v hK A (Ark .i64 k.1 1);obtain⟨g,g1,g2⟩:=Ba7 hK X (b:=y)
 have:=A.l;have:=A.s
 have P:=Ahs.1 I.pool
 have hst:=P.st
 have hcount:=Bci I
 have hin:=Bs7 I;rw[d1,Z0,i1,Z0,e3,Z0,d2,Z0,d3,Z0,d4,Z0,s1,Z0,Ba5 hK W0,Z0,cond_true,A5g hK w A.ww,Z0,Azm hK w A.ww,Z0,beq_self_eq_true,Bool.not_true,cond_false];dsimp only
 rw[g1,Z0,g2,Z0,beq_self_eq_true,Bool.not_true,cond_false,f1,Z0,f2,Z0,beq_self_eq_true,Bool.not_true,cond_false,A8e hK A.ww (by omega),Z0,A8d hK A.ww (by omega),Z0,
  A1b hK (Ax8 w) (by have:=A7o (w:=w) (by omega);omega),Z0,cond_true,A4d hK A.ww (by omega) (by omega),Z0,A6n hK A.ww (by omega) (by omega),Z0,bne_self_eq_false,cond_false,
  A5g hK wd W,Z0,I.ok,Bool.not_true,cond_false]
 have hnode: ∀n∈wd.fL,n.Ad.length≤1000:=A7k fun k hk=>by
  have:=Aub I.conf (A4p (I.node k hk));omega
 have hwst: ∀x∈wd.fQ,x.Ad.length≤1000:=fun x hx=>by
  have R:=A0x.1 (I.wrec x hx).1
  have:=Aub R.conf R.dist;omega
 have k1:=A9t wd.fL.length (fun i=>(gt wd.fL (i:Int)).Ad.length) (fun i hi=>hnode _ (Al6 hi)) (by omega) (fun v=>Ass 562949953421312 c wd w0.fC.Ad w0.fC.Ds w0.fC.B9 w0.fC.Eu w0.fC.Ca w0.fC.Dt w0.fP.Fi w0.fP.Gt w0.fP.Fj w0.fL w0.fQ w0.Jc 562949953421312 v 0)
  (fun n v i=>Atv 562949953421312 c n v i wd w0.fC.Ad w0.fC.Ds w0.fC.B9 w0.fC.Eu w0.fC.Ca w0.fC.Dt w0.fP.Fi w0.fP.Gt w0.fP.Fj w0.fL w0.fQ w0.Jc) (fun m v i h=> ?_) (fun m v=> ?_) 562949953421312 0 0 (Z21 _) (by omega) (by omega)
 ·have k2:=A9t wd.fQ.length (fun i=>(gt wd.fQ (i:Int)).Ad.length) (fun i hi=>hwst _ (Al6 hi)) (by omega) (fun v=>(Au2 562949953421312 w0).bind fun r39=>((Aqk 562949953421312 c).bind fun r40=>(bif (r39==r40)then((Ayw 562949953421312 wd.fP 0).bind fun r41=>(bif ((Arj .i64 v r41)==wd.fC.Ad)then((At9 562949953421312 wd).bind fun r42=>some (decide (r42≤wd.fC.Ad)))else some false))else some false)))
   (fun n v i=>Ass 562949953421312 c wd w0.fC.Ad w0.fC.Ds w0.fC.B9 w0.fC.Eu w0.fC.Ca w0.fC.Dt w0.fP.Fi w0.fP.Gt w0.fP.Fj w0.fL w0.fQ w0.Jc n v i) (fun m v i h=> ?_) (fun m v=> ?_) 562949953421312 0 (wd.fL.map fun n=>n.Ad.length).sum (Z21 _) (by omega) (by omega)
  ·rw[Z55,Nat.zero_add,A3w wd.fL (fun n=>n.Ad.length)]at k1;rw[Z55,A3w wd.fQ (fun x=>x.Ad.length)]at k2;refine k1.trans (k2.trans ?_)
   have hb2:A15 w0=Agz c:=by rw[Bool.eq_iff_iff];exact hok
   rw[A5g hK w0 W0,Z0,Aw5,Z0,hb2,beq_self_eq_true,cond_true,Bbp hK wd.fP 0 (by omega),Z0]
   have e:(Arj .i64 (((wd.fL.map fun n=>n.Ad.length).sum+(wd.fQ.map fun x=>x.Ad.length).sum:Nat):Int) ((((List.range wd.fP.Gt.length).filter (fun k:Nat=>gt wd.fP.Gt k==0)).length:Nat):Int)==wd.fC.Ad)=true:=by
    have hc:(wd.fL.map fun n=>n.Ad.length).sum+(wd.fQ.map fun x=>x.Ad.length).sum+((List.range wd.fP.Gt.length).filter (fun k:Nat=>gt wd.fP.Gt k==0)).length=wd.fP.Gt.length:=hcount;rw[adG (by omega) (by omega),beq_iff_eq]
    omega
   rw[e,cond_true,A4d hK W (by omega) (by omega),Z0,decide_eq_true (by omega)]
  ·simp only[Ass];rw[Wy h,cond_true,if_pos (Agy h),Wx (by omega)]
  ·simp only[Ass];rw[Aqt (Z9 _),cond_false]
 ·simp only[Atv];rw[Wy h,cond_true,if_pos (Agy h),Wx (by omega)]
 ·simp only[Atv];rw[Aqt (Z9 _),cond_false]
end Go.Proofs.YtgcnddnmhllahaaGreat
