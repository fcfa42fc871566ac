/- The plain law for FnTold; no condition. -/
import Derived.Test.YtplfjgdlpbdojaaGreatFFnToldPb
set_option linter.all false
namespace Go.Proofs.YtplfjgdlpbdojaaGreat
open Go.Eng Go.ChangeShapes Go.WideShapes Go.ChangeAt Go.RowKit
theorem Bpw{K:Nat}(a:List Int)(ha:a.length≤1048576)(hb:Ax2 a)(i:Int)(hi:0≤i∧i≤100): ∃r,A0q K a i=some r∧0≤r:=by
 unfold A0q
 by_cases q:i<(a.length:Int)
 ·rw[decide_eq_true q,cond_true,if_pos ⟨hi.1,q⟩]
  have:=hb _ (Ank hi.1 q);exact⟨_,rfl,by rw[Aa3 (by omega) (by omega)];omega⟩
 ·rw[decide_eq_false q,cond_false,if_pos (by decide)]
  refine⟨_,rfl,?_⟩
  have e:Am9 .i64 (Anb .i64 i 31) (Anb .i64 (a.length:Int) 7)=i*31+(a.length:Int)*7:=by
   unfold Am9 Anb;rw[Aa3 (n:=i*31) (by omega) (by omega),Aa3 (n:=(a.length:Int)*7) (by omega) (by omega),Aa3 (by omega) (by omega)]
  rw[e];exact Int.tmod_nonneg _ (by omega)
theorem Bbw (a:List Int)(u:A8p a): ∃K,Ayf K a=some true:=by
 have hm:=Adv;refine⟨K1,?_⟩
 have hK1:562949953421312≤K1:=by unfold K1;omega
 have hK:281474976710656≤K1:=by unfold K1;omega
 have hb:Ax2 a:=(Bfr u).1;unfold Ayf A26;rw[Z0]
 by_cases q:(a.length:Int)>1048576
 ·rw[decide_eq_true q];rfl
 rw[decide_eq_false q];simp only[cond_false];obtain⟨w,o,E,n,e,G,hE,hn,_⟩:=A9v hK hb (by omega)
 have I:=G.inv
 have W:=G.ww (by omega) (by omega)
 obtain⟨b1,b2,b3,_⟩:=Ap I.conf
 have hlen:=I.len
 have hl:(Aun w).length≤1000:=by have:=A66 w.fL w.fL.length;rw[Bod];omega
 have hQ:=Bf2 w
 have hwt:=G.wt;obtain⟨t,A,F⟩:=I.forest;rw[e,Z0,A90 hK W (by omega),Z0]
 by_cases q2:((Aun w).length:Int)<2
 ·rw[decide_eq_true q2,cond_true,A3x hK w W,I.ok];rfl
 rw[decide_eq_false q2,cond_false];obtain⟨r5,e5,h5⟩:=Bpw (K:=K1) a (by omega) hb 2 (by omega)
 obtain⟨r6,e6,h6⟩:=Bpw (K:=K1) a (by omega) hb 3 (by omega)
 have i5:0≤Int.tmod r5 ((Aun w).length:Int)∧Int.tmod r5 ((Aun w).length:Int)<((Aun w).length:Int):=⟨Int.tmod_nonneg _ h5,Int.tmod_lt_of_pos _ (by omega)⟩
 have i6:0≤Int.tmod r6 ((Aun w).length:Int)∧Int.tmod r6 ((Aun w).length:Int)<((Aun w).length:Int):=⟨Int.tmod_nonneg _ h6,Int.tmod_lt_of_pos _ (by omega)⟩
 rw[e5,Z0,if_pos (by omega),if_pos i5,e6,Z0,if_pos (by omega),if_pos i6]
 obtain⟨hk,hal⟩:=A8d.1 (Ank i5.1 i5.2);obtain⟨hk2,hal2⟩:=A8d.1 (Ank i6.1 i6.2);generalize gt (Aun w) (Int.tmod r5 ((Aun w).length:Int))=x at hk hal ⊢;generalize gt (Aun w) (Int.tmod r6 ((Aun w).length:Int))=y at hk2 hal2 ⊢;rw[A24 (K:=K1) (by omega) hk,Z0,A24 (K:=K1) (by omega) hk2,Z0]
 obtain⟨c1,d1,f1⟩:=A8f hK W (by omega) I A F hal2 hal
 obtain⟨c2,d2,f2⟩:=A8f hK W (by omega) I A F hal hal2
 rw[d1,Z0];cases c1 with
 |true=>rfl
 |false=>
 rw[cond_false,d2,Z0];cases c2 with
 |true=>rfl
 |false=>
 rw[cond_false]
 have nxy: ¬Up w.fL.length t x y:=f1 rfl
 have nyx: ¬Up w.fL.length t y x:=f2 rfl
 have al:=(Azh I A F).1 hal
 have al2:=(Azh I A F).1 hal2
 have P:Ays w t x:=⟨I,A,F,al⟩
 have L:=A9y P
 have hst:=((As8 A).1 al.lv).2
 have hne:y≠x:=fun h=>nyx (by rw[h];exact Up.refl al.lv)
 obtain⟨a1,g1,_⟩:=A4i hK I W (by omega) (A51 I hal) hst hk
 rw[g1,Z0]
 have Gx:=A3l G hE.1 ⟨t,A,al⟩
 have Wx:=Gx.ww (by omega) (by omega)
 have hQx:=Bf2 (Ain w x)
 have hwx:=Gx.wt
 have hF':Agn (Ain w x).fL.length (rem t x) (Aq4 (Ain w x).fQ):=by rw[L.len];exact L.fr
 have hal2x:Aph (Ain w x).fL y=true:=(Bbv P y).2 ⟨al2,nxy⟩
 have al2x:=(Azh L.inv L.tab hF').1 hal2x
 have P2:Ays (Ain w x) (rem t x) y:=⟨L.inv,L.tab,hF',al2x⟩
 have L2:=A9y P2
 have hst2:=((As8 L.tab).1 al2x.lv).2
 have hgen:(gt (Ain w x).fL y).C6=(gt w.fL y).C6:=by
  obtain⟨p,q,r,e⟩:=L.node y hk2 hne;rw[e];rfl
 have hfind:Aqz (Ain w x).fL (Bo.mk y (gt w.fL y).C6)=(y,0):=by rw[←hgen];exact A51 L.inv hal2x
 obtain⟨a2,g2,_⟩:=A4i hK L.inv Wx (by omega) hfind hst2 al2x.lv.1
 have Gy:=A3l Gx hE.1 ⟨rem t x,L.tab,al2x⟩
 have Wy:=Gy.ww (by omega) (by omega)
 have hQy:=Bf2 (Ain (Ain w x) y)
 have hwy:=Gy.wt
 have hF2:Agn (Ain (Ain w x) y).fL.length (rem (rem t x) y) (Aq4 (Ain (Ain w x) y).fQ):=by rw[L2.len];exact L2.fr
 obtain⟨p1,p2⟩:=A4j hK1 W (by omega) (by omega) I A F
 obtain⟨t1,t2⟩:=A2n hK1 W (by omega) I A F al.lv
 obtain⟨s1,s2⟩:=A2n hK1 W (by omega) I A F al2.lv
 have hly:(Ain (Ain w x) y).fL.length≤8:=by rw[L2.len,L.len];omega
 obtain⟨p3,p4⟩:=A4j hK1 Wy hly (by omega) L2.inv L2.tab hF2
 have hp:A9z (Ain (Ain w x) y)=A9z w++tOf w x++tOf w y:=by
  rw[A65 P2,A65 P,A64 P L al2.lv nyx]
 rw[g2,Z0,p1,Z0,Yu,if_pos ⟨by omega,by omega⟩,t1,Z0,if_pos ⟨by simp only[H8];omega,by simp only[H8];omega⟩,s1,Z0,if_pos ⟨by simp only[H8];omega,by simp only[H8];omega⟩,p3,Z0,hp,A7m hK _ (by rw[←hp];omega)]
 rfl
end Go.Proofs.YtplfjgdlpbdojaaGreat
