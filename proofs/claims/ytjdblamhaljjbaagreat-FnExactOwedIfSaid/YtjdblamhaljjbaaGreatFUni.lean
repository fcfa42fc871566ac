/- The types of the seat; no condition. Printed by uni.py. -/
import Derived.Test.YtjdblamhaljjbaaGreatEc
import Derived.Test.YtjdblamhaljjbaaGreatFTab
set_option linter.all false
namespace Go.Proofs.YtjdblamhaljjbaaGreat
open Go.Eng
structure Er where
 Ae:Int
 Eg:Int
 C0:Int
 E9:Int
 C1:Int
 Eh:Int
 deriving Inhabited
structure Dw where
 Fy:List Int
 Hh:List Int
 Fz:List Int
 deriving Inhabited
structure A9 where
 fAt:Int
 Vu:Int
 Vv:Int
 deriving Inhabited
structure Ba where
 Hh:Int
 C2:Int
 Ly:Int
 fUp:Int
 Gq:Int
 Bt:Int
 Gr:Int
 Gs:Int
 Ae:List Int
 Pq:Int
 Gt:Int
 Ea:List A9
 Dg:List Int
 deriving Inhabited
structure Ax where
 A5:Int
 Bt:Int
 Dg:List Int
 Ae:List Int
 Gu:Int
 deriving Inhabited
structure Eb where
 fC:Er
 fP:Dw
 fL:List Ba
 fQ:List Ax
 Pr:List Int
 deriving Inhabited
structure Ct where
 A5:Int
 C2:Int
 deriving Inhabited
structure Fg where
 fH:Ct
 Ly:Int
 fNo:Int
 deriving Inhabited
structure Es where
 Ae:Int
 Eg:Int
 C0:Int
 E9:Int
 C1:Int
 Eh:Int
 deriving Inhabited
structure Dx where
 Fy:List Int
 Hh:List Int
 Fz:List Int
 deriving Inhabited
structure Bb where
 fAt:Int
 Vu:Int
 Vv:Int
 deriving Inhabited
structure Bc where
 Hh:Int
 C2:Int
 Ly:Int
 fUp:Int
 Gq:Int
 Bt:Int
 Gr:Int
 Gs:Int
 Ae:List Int
 Pq:Int
 Gt:Int
 Ea:List Bb
 Dg:List Int
 deriving Inhabited
structure Ay where
 A5:Int
 Bt:Int
 Dg:List Int
 Ae:List Int
 Gu:Int
 deriving Inhabited
structure Ec where
 fC:Es
 fP:Dx
 fL:List Bc
 fQ:List Ay
 Pr:List Int
 deriving Inhabited
structure Dn where
 A5:Int
 C2:Int
 deriving Inhabited
structure Ge where
 fH:Dn
 Ly:Int
 fNo:Int
 deriving Inhabited
structure Fh where
 W9:Int
 fH:Ct
 fR:Fg
 fB:List Int
 Xa:Int
 E9:Int
 Ps:Int
 deriving Inhabited
def Ab (x:Int):List V:=[.int .i64 x]
theorem Ai:En Ab 1:=⟨fun _=>rfl,fun _=>rfl,fun _=>rfl,fun x=>rfl⟩
theorem Te:Fo Ab Ab 1:=⟨Ai.len,Ai.closed,Ai.share⟩
def Bu (x:Bool):List V:=[.bool x]
theorem Cj:En Bu 1:=⟨fun _=>rfl,fun _=>rfl,fun _=>rfl,fun x=>rfl⟩
theorem Pt:Fo Bu Bu 1:=⟨Cj.len,Cj.closed,Cj.share⟩
def B7 (x:Int):List V:=[.int .u8 x]
theorem Bh:En B7 1:=⟨fun _=>rfl,fun _=>rfl,fun _=>rfl,fun x=>rfl⟩
theorem Agg:Fo B7 B7 1:=⟨Bh.len,Bh.closed,Bh.share⟩
def Ed (x:ByteArray):List V:=[.str x]
theorem Et:En Ed 1:=⟨fun _=>rfl,fun _=>rfl,fun _=>rfl,fun x=>rfl⟩
theorem Tf:Fo Ed Ed 1:=⟨Et.len,Et.closed,Et.share⟩
def Hi (x:List Int):List V:=[.row false 1 (x.map B7)]
theorem Ac3:En Hi 1:=⟨fun _=>rfl,fun _=>rfl,fun _=>rfl,fun x=>by simp only[Hi,Af,V.share,Bh.shareLL]⟩
def K4 (x:List Int):List V:=[.row true 1 (x.map B7)]
theorem Ac4:Fo K4 Hi 1:=⟨fun _=>rfl,fun _=>rfl,fun x=>by simp only[K4,Hi,Af,V.share,Bh.shareLL]⟩
def Ck (x:Er):List V:=[.int .i64 x.Ae,.int .i64 x.Eg,.int .i64 x.C0,.int .i64 x.E9,.int .i64 x.C1,.int .i64 x.Eh]
theorem Dh:En Ck 6:=⟨fun _=>rfl,fun _=>rfl,fun _=>rfl,fun x=>rfl⟩
theorem K5:Fo Ck Ck 6:=⟨Dh.len,Dh.closed,Dh.share⟩
def F2 (x:List Int):List V:=[.row false 1 (x.map Ab)]
theorem Y1:En F2 1:=⟨fun _=>rfl,fun _=>rfl,fun _=>rfl,fun x=>by simp only[F2,Af,V.share,Ai.shareLL]⟩
def Gv (x:List Int):List V:=[.row true 1 (x.map Ab)]
theorem Y2:Fo Gv F2 1:=⟨fun _=>rfl,fun _=>rfl,fun x=>by simp only[Gv,F2,Af,V.share,Ai.shareLL]⟩
def Cl (x:Dw):List V:=[.row false 1 (x.Fy.map B7),.row false 1 (x.Hh.map Ab),.row false 1 (x.Fz.map Ab)]
theorem K6:En Cl 3:=⟨fun _=>rfl,fun _=>rfl,fun _=>rfl,fun x=>by simp only[Cl,Af,V.share,Bh.shareLL,Ai.shareLL]⟩
def Di (x:Dw):List V:=[.row true 1 (x.Fy.map B7),.row true 1 (x.Hh.map Ab),.row true 1 (x.Fz.map Ab)]
theorem K7:Fo Di Cl 3:=⟨fun _=>rfl,fun _=>rfl,fun x=>by simp only[Di,Cl,Af,V.share,Bh.shareLL,Ai.shareLL]⟩
def Aj (x:A9):List V:=[.int .i64 x.fAt,.int .i64 x.Vu,.int .i64 x.Vv]
theorem Aq:En Aj 3:=⟨fun _=>rfl,fun _=>rfl,fun _=>rfl,fun x=>rfl⟩
theorem H3:Fo Aj Aj 3:=⟨Aq.len,Aq.closed,Aq.share⟩
def Bk (x:List A9):List V:=[.row false 3 (x.map Aj)]
theorem Hj:En Bk 1:=⟨fun _=>rfl,fun _=>rfl,fun _=>rfl,fun x=>by simp only[Bk,Af,V.share,Aq.shareLL]⟩
def Cc (x:List A9):List V:=[.row true 3 (x.map Aj)]
theorem Hk:Fo Cc Bk 1:=⟨fun _=>rfl,fun _=>rfl,fun x=>by simp only[Cc,Bk,Af,V.share,Aq.shareLL]⟩
def Bd (x:Ba):List V:=[.int .i64 x.Hh,.int .i64 x.C2,.int .i64 x.Ly,.int .i64 x.fUp,.int .i64 x.Gq,.int .i64 x.Bt,.int .i64 x.Gr,.int .i64 x.Gs,.row false 1 (x.Ae.map Ab),.int .i64 x.Pq,.int .i64 x.Gt,.row false 3 (x.Ea.map Aj),.row false 1 (x.Dg.map Ab)]
theorem Ei:En Bd 13:=⟨fun _=>rfl,fun _=>rfl,fun _=>rfl,fun x=>by simp only[Bd,Af,V.share,Ai.shareLL,Aq.shareLL]⟩
def Bv (x:Ba):List V:=[.int .i64 x.Hh,.int .i64 x.C2,.int .i64 x.Ly,.int .i64 x.fUp,.int .i64 x.Gq,.int .i64 x.Bt,.int .i64 x.Gr,.int .i64 x.Gs,.row true 1 (x.Ae.map Ab),.int .i64 x.Pq,.int .i64 x.Gt,.row true 3 (x.Ea.map Aj),.row true 1 (x.Dg.map Ab)]
theorem Ej:Fo Bv Bd 13:=⟨fun _=>rfl,fun _=>rfl,fun x=>by simp only[Bv,Bd,Af,V.share,Ai.shareLL,Aq.shareLL]⟩
def By (x:List Ba):List V:=[.row false 13 (x.map Bd)]
theorem H4:En By 1:=⟨fun _=>rfl,fun _=>rfl,fun _=>rfl,fun x=>by simp only[By,Af,V.share,Ei.shareLL]⟩
def Cu (x:List Ba):List V:=[.row true 13 (x.map Bv)]
theorem H5:Fo Cu By 1:=⟨fun _=>rfl,fun _=>rfl,fun x=>by simp only[Cu,By,Af,V.share,Ej.shareLL]⟩
def A1 (x:Ax):List V:=[.int .i64 x.A5,.int .i64 x.Bt,.row false 1 (x.Dg.map Ab),.row false 1 (x.Ae.map Ab),.int .i64 x.Gu]
theorem D1:En A1 5:=⟨fun _=>rfl,fun _=>rfl,fun _=>rfl,fun x=>by simp only[A1,Af,V.share,Ai.shareLL]⟩
def Bf (x:Ax):List V:=[.int .i64 x.A5,.int .i64 x.Bt,.row true 1 (x.Dg.map Ab),.row true 1 (x.Ae.map Ab),.int .i64 x.Gu]
theorem D2:Fo Bf A1 5:=⟨fun _=>rfl,fun _=>rfl,fun x=>by simp only[Bf,A1,Af,V.share,Ai.shareLL]⟩
def Bl (x:List Ax):List V:=[.row false 5 (x.map A1)]
theorem Hl:En Bl 1:=⟨fun _=>rfl,fun _=>rfl,fun _=>rfl,fun x=>by simp only[Bl,Af,V.share,D1.shareLL]⟩
def Cd (x:List Ax):List V:=[.row true 5 (x.map Bf)]
theorem Hm:Fo Cd Bl 1:=⟨fun _=>rfl,fun _=>rfl,fun x=>by simp only[Cd,Bl,Af,V.share,D2.shareLL]⟩
def Bz (x:Eb):List V:=[.int .i64 x.fC.Ae,.int .i64 x.fC.Eg,.int .i64 x.fC.C0,.int .i64 x.fC.E9,.int .i64 x.fC.C1,.int .i64 x.fC.Eh,.row false 1 (x.fP.Fy.map B7),.row false 1 (x.fP.Hh.map Ab),.row false 1 (x.fP.Fz.map Ab),.row false 13 (x.fL.map Bd),.row false 5 (x.fQ.map A1),.row false 1 (x.Pr.map Ab)]
theorem H6:En Bz 12:=⟨fun _=>rfl,fun _=>rfl,fun _=>rfl,fun x=>by simp only[Bz,Af,V.share,Bh.shareLL,Ai.shareLL,Ei.shareLL,D1.shareLL]⟩
def Cv (x:Eb):List V:=[.int .i64 x.fC.Ae,.int .i64 x.fC.Eg,.int .i64 x.fC.C0,.int .i64 x.fC.E9,.int .i64 x.fC.C1,.int .i64 x.fC.Eh,.row true 1 (x.fP.Fy.map B7),.row true 1 (x.fP.Hh.map Ab),.row true 1 (x.fP.Fz.map Ab),.row true 13 (x.fL.map Bv),.row true 5 (x.fQ.map Bf),.row true 1 (x.Pr.map Ab)]
theorem H7:Fo Cv Bz 12:=⟨fun _=>rfl,fun _=>rfl,fun x=>by simp only[Cv,Bz,Af,V.share,Bh.shareLL,Ai.shareLL,Ej.shareLL,D2.shareLL]⟩
def Bm (x:Ct):List V:=[.int .i64 x.A5,.int .i64 x.C2]
theorem Cm:En Bm 2:=⟨fun _=>rfl,fun _=>rfl,fun _=>rfl,fun x=>rfl⟩
theorem Hn:Fo Bm Bm 2:=⟨Cm.len,Cm.closed,Cm.share⟩
def C4 (x:Fg):List V:=[.int .i64 x.fH.A5,.int .i64 x.fH.C2,.int .i64 x.Ly,.int .i64 x.fNo]
theorem Do:En C4 4:=⟨fun _=>rfl,fun _=>rfl,fun _=>rfl,fun x=>rfl⟩
theorem Lz:Fo C4 C4 4:=⟨Do.len,Do.closed,Do.share⟩
def Cn (x:Es):List V:=[.int .i64 x.Ae,.int .i64 x.Eg,.int .i64 x.C0,.int .i64 x.E9,.int .i64 x.C1,.int .i64 x.Eh]
theorem Dj:En Cn 6:=⟨fun _=>rfl,fun _=>rfl,fun _=>rfl,fun x=>rfl⟩
theorem K8:Fo Cn Cn 6:=⟨Dj.len,Dj.closed,Dj.share⟩
def Co (x:Dx):List V:=[.row false 1 (x.Fy.map B7),.row false 1 (x.Hh.map Ab),.row false 1 (x.Fz.map Ab)]
theorem K9:En Co 3:=⟨fun _=>rfl,fun _=>rfl,fun _=>rfl,fun x=>by simp only[Co,Af,V.share,Bh.shareLL,Ai.shareLL]⟩
def Dk (x:Dx):List V:=[.row true 1 (x.Fy.map B7),.row true 1 (x.Hh.map Ab),.row true 1 (x.Fz.map Ab)]
theorem La:Fo Dk Co 3:=⟨fun _=>rfl,fun _=>rfl,fun x=>by simp only[Dk,Co,Af,V.share,Bh.shareLL,Ai.shareLL]⟩
def Ak (x:Bb):List V:=[.int .i64 x.fAt,.int .i64 x.Vu,.int .i64 x.Vv]
theorem Ar:En Ak 3:=⟨fun _=>rfl,fun _=>rfl,fun _=>rfl,fun x=>rfl⟩
theorem H8:Fo Ak Ak 3:=⟨Ar.len,Ar.closed,Ar.share⟩
def Bn (x:List Bb):List V:=[.row false 3 (x.map Ak)]
theorem Ho:En Bn 1:=⟨fun _=>rfl,fun _=>rfl,fun _=>rfl,fun x=>by simp only[Bn,Af,V.share,Ar.shareLL]⟩
def Ce (x:List Bb):List V:=[.row true 3 (x.map Ak)]
theorem Hp:Fo Ce Bn 1:=⟨fun _=>rfl,fun _=>rfl,fun x=>by simp only[Ce,Bn,Af,V.share,Ar.shareLL]⟩
def Be (x:Bc):List V:=[.int .i64 x.Hh,.int .i64 x.C2,.int .i64 x.Ly,.int .i64 x.fUp,.int .i64 x.Gq,.int .i64 x.Bt,.int .i64 x.Gr,.int .i64 x.Gs,.row false 1 (x.Ae.map Ab),.int .i64 x.Pq,.int .i64 x.Gt,.row false 3 (x.Ea.map Ak),.row false 1 (x.Dg.map Ab)]
theorem Ek:En Be 13:=⟨fun _=>rfl,fun _=>rfl,fun _=>rfl,fun x=>by simp only[Be,Af,V.share,Ai.shareLL,Ar.shareLL]⟩
def Bw (x:Bc):List V:=[.int .i64 x.Hh,.int .i64 x.C2,.int .i64 x.Ly,.int .i64 x.fUp,.int .i64 x.Gq,.int .i64 x.Bt,.int .i64 x.Gr,.int .i64 x.Gs,.row true 1 (x.Ae.map Ab),.int .i64 x.Pq,.int .i64 x.Gt,.row true 3 (x.Ea.map Ak),.row true 1 (x.Dg.map Ab)]
theorem El:Fo Bw Be 13:=⟨fun _=>rfl,fun _=>rfl,fun x=>by simp only[Bw,Be,Af,V.share,Ai.shareLL,Ar.shareLL]⟩
def B4 (x:List Bc):List V:=[.row false 13 (x.map Be)]
theorem H9:En B4 1:=⟨fun _=>rfl,fun _=>rfl,fun _=>rfl,fun x=>by simp only[B4,Af,V.share,Ek.shareLL]⟩
def Cw (x:List Bc):List V:=[.row true 13 (x.map Bw)]
theorem Ja:Fo Cw B4 1:=⟨fun _=>rfl,fun _=>rfl,fun x=>by simp only[Cw,B4,Af,V.share,El.shareLL]⟩
def A3 (x:Ay):List V:=[.int .i64 x.A5,.int .i64 x.Bt,.row false 1 (x.Dg.map Ab),.row false 1 (x.Ae.map Ab),.int .i64 x.Gu]
theorem D3:En A3 5:=⟨fun _=>rfl,fun _=>rfl,fun _=>rfl,fun x=>by simp only[A3,Af,V.share,Ai.shareLL]⟩
def Bg (x:Ay):List V:=[.int .i64 x.A5,.int .i64 x.Bt,.row true 1 (x.Dg.map Ab),.row true 1 (x.Ae.map Ab),.int .i64 x.Gu]
theorem D4:Fo Bg A3 5:=⟨fun _=>rfl,fun _=>rfl,fun x=>by simp only[Bg,A3,Af,V.share,Ai.shareLL]⟩
def Bo (x:List Ay):List V:=[.row false 5 (x.map A3)]
theorem Hq:En Bo 1:=⟨fun _=>rfl,fun _=>rfl,fun _=>rfl,fun x=>by simp only[Bo,Af,V.share,D3.shareLL]⟩
def Cf (x:List Ay):List V:=[.row true 5 (x.map Bg)]
theorem Hr:Fo Cf Bo 1:=⟨fun _=>rfl,fun _=>rfl,fun x=>by simp only[Cf,Bo,Af,V.share,D4.shareLL]⟩
def B5 (x:Ec):List V:=[.int .i64 x.fC.Ae,.int .i64 x.fC.Eg,.int .i64 x.fC.C0,.int .i64 x.fC.E9,.int .i64 x.fC.C1,.int .i64 x.fC.Eh,.row false 1 (x.fP.Fy.map B7),.row false 1 (x.fP.Hh.map Ab),.row false 1 (x.fP.Fz.map Ab),.row false 13 (x.fL.map Be),.row false 5 (x.fQ.map A3),.row false 1 (x.Pr.map Ab)]
theorem Jb:En B5 12:=⟨fun _=>rfl,fun _=>rfl,fun _=>rfl,fun x=>by simp only[B5,Af,V.share,Bh.shareLL,Ai.shareLL,Ek.shareLL,D3.shareLL]⟩
def Cy (x:Ec):List V:=[.int .i64 x.fC.Ae,.int .i64 x.fC.Eg,.int .i64 x.fC.C0,.int .i64 x.fC.E9,.int .i64 x.fC.C1,.int .i64 x.fC.Eh,.row true 1 (x.fP.Fy.map B7),.row true 1 (x.fP.Hh.map Ab),.row true 1 (x.fP.Fz.map Ab),.row true 13 (x.fL.map Bw),.row true 5 (x.fQ.map Bg),.row true 1 (x.Pr.map Ab)]
theorem Jc:Fo Cy B5 12:=⟨fun _=>rfl,fun _=>rfl,fun x=>by simp only[Cy,B5,Af,V.share,Bh.shareLL,Ai.shareLL,El.shareLL,D4.shareLL]⟩
def Bp (x:Dn):List V:=[.int .i64 x.A5,.int .i64 x.C2]
theorem Cp:En Bp 2:=⟨fun _=>rfl,fun _=>rfl,fun _=>rfl,fun x=>rfl⟩
theorem Hs:Fo Bp Bp 2:=⟨Cp.len,Cp.closed,Cp.share⟩
def C5 (x:Ge):List V:=[.int .i64 x.fH.A5,.int .i64 x.fH.C2,.int .i64 x.Ly,.int .i64 x.fNo]
theorem Dp:En C5 4:=⟨fun _=>rfl,fun _=>rfl,fun _=>rfl,fun x=>rfl⟩
theorem L0:Fo C5 C5 4:=⟨Dp.len,Dp.closed,Dp.share⟩
def C6 (x:Fh):List V:=[.int .i64 x.W9,.int .i64 x.fH.A5,.int .i64 x.fH.C2,.int .i64 x.fR.fH.A5,.int .i64 x.fR.fH.C2,.int .i64 x.fR.Ly,.int .i64 x.fR.fNo,.row false 1 (x.fB.map B7),.int .i64 x.Xa,.int .i64 x.E9,.int .i64 x.Ps]
theorem L1:En C6 11:=⟨fun _=>rfl,fun _=>rfl,fun _=>rfl,fun x=>by simp only[C6,Af,V.share,Bh.shareLL]⟩
def Dy (x:Fh):List V:=[.int .i64 x.W9,.int .i64 x.fH.A5,.int .i64 x.fH.C2,.int .i64 x.fR.fH.A5,.int .i64 x.fR.fH.C2,.int .i64 x.fR.Ly,.int .i64 x.fR.fNo,.row true 1 (x.fB.map B7),.int .i64 x.Xa,.int .i64 x.E9,.int .i64 x.Ps]
theorem L2:Fo Dy C6 11:=⟨fun _=>rfl,fun _=>rfl,fun x=>by simp only[Dy,C6,Af,V.share,Bh.shareLL]⟩
def C7 (x:List Bool):List V:=[.row false 1 (x.map Bu)]
theorem L3:En C7 1:=⟨fun _=>rfl,fun _=>rfl,fun _=>rfl,fun x=>by simp only[C7,Af,V.share,Cj.shareLL]⟩
def Dz (x:List Bool):List V:=[.row true 1 (x.map Bu)]
theorem L4:Fo Dz C7 1:=⟨fun _=>rfl,fun _=>rfl,fun x=>by simp only[Dz,C7,Af,V.share,Cj.shareLL]⟩
def Ah:Nat->Type
 |2=>Int
 |3=>Int
 |4=>Bool
 |5=>Int
 |9=>ByteArray
 |22=>List Int
 |25=>Er
 |26=>List Int
 |28=>Dw
 |89=>A9
 |41=>List A9
 |44=>Ba
 |29=>List Ba
 |159=>Ax
 |30=>List Ax
 |32=>Eb
 |34=>Ct
 |36=>Fg
 |47=>Es
 |48=>Dx
 |222=>Bb
 |152=>List Bb
 |154=>Bc
 |49=>List Bc
 |157=>Ay
 |50=>List Ay
 |52=>Ec
 |53=>Dn
 |61=>Ge
 |69=>Fh
 |224=>List Bool
 |_=>Unit
abbrev Amp:(t:Nat)->Inhabited (Ah t)
 |2=>(inferInstance:Inhabited Int)
 |3=>(inferInstance:Inhabited Int)
 |4=>(inferInstance:Inhabited Bool)
 |5=>(inferInstance:Inhabited Int)
 |9=>(inferInstance:Inhabited ByteArray)
 |22=>(inferInstance:Inhabited (List Int))
 |25=>(inferInstance:Inhabited Er)
 |26=>(inferInstance:Inhabited (List Int))
 |28=>(inferInstance:Inhabited Dw)
 |89=>(inferInstance:Inhabited A9)
 |41=>(inferInstance:Inhabited (List A9))
 |44=>(inferInstance:Inhabited Ba)
 |29=>(inferInstance:Inhabited (List Ba))
 |159=>(inferInstance:Inhabited Ax)
 |30=>(inferInstance:Inhabited (List Ax))
 |32=>(inferInstance:Inhabited Eb)
 |34=>(inferInstance:Inhabited Ct)
 |36=>(inferInstance:Inhabited Fg)
 |47=>(inferInstance:Inhabited Es)
 |48=>(inferInstance:Inhabited Dx)
 |222=>(inferInstance:Inhabited Bb)
 |152=>(inferInstance:Inhabited (List Bb))
 |154=>(inferInstance:Inhabited Bc)
 |49=>(inferInstance:Inhabited (List Bc))
 |157=>(inferInstance:Inhabited Ay)
 |50=>(inferInstance:Inhabited (List Ay))
 |52=>(inferInstance:Inhabited Ec)
 |53=>(inferInstance:Inhabited Dn)
 |61=>(inferInstance:Inhabited Ge)
 |69=>(inferInstance:Inhabited Fh)
 |224=>(inferInstance:Inhabited (List Bool))
 |_=>(by unfold Ah;split<;>infer_instance)
def Aj0:Nat->Nat
 |2=>1
 |3=>1
 |4=>1
 |5=>1
 |9=>1
 |22=>1
 |25=>6
 |26=>1
 |28=>3
 |89=>3
 |41=>1
 |44=>13
 |29=>1
 |159=>5
 |30=>1
 |32=>12
 |34=>2
 |36=>4
 |47=>6
 |48=>3
 |222=>3
 |152=>1
 |154=>13
 |49=>1
 |157=>5
 |50=>1
 |52=>12
 |53=>2
 |61=>4
 |69=>11
 |224=>1
 |_=>0
def Aj1:Nat->Bool
 |2=>true
 |3=>true
 |4=>true
 |5=>true
 |9=>true
 |22=>false
 |25=>true
 |26=>false
 |28=>false
 |89=>true
 |41=>false
 |44=>false
 |29=>false
 |159=>false
 |30=>false
 |32=>false
 |34=>true
 |36=>true
 |47=>true
 |48=>false
 |222=>true
 |152=>false
 |154=>false
 |49=>false
 |157=>false
 |50=>false
 |52=>false
 |53=>true
 |61=>true
 |69=>false
 |224=>false
 |_=>true
def Ao4:Nat->Bool
 |2=>false
 |3=>false
 |4=>false
 |5=>false
 |9=>false
 |22=>false
 |25=>true
 |26=>false
 |28=>true
 |89=>true
 |41=>false
 |44=>true
 |29=>false
 |159=>true
 |30=>false
 |32=>true
 |34=>true
 |36=>true
 |47=>true
 |48=>true
 |222=>true
 |152=>false
 |154=>true
 |49=>false
 |157=>true
 |50=>false
 |52=>true
 |53=>true
 |61=>true
 |69=>true
 |224=>false
 |_=>false
def Aj2:(t:Nat)->Ah t->List V
 |2,x=>Ab x
 |3,x=>Ab x
 |4,x=>Bu x
 |5,x=>B7 x
 |9,x=>Ed x
 |22,x=>Hi x
 |25,x=>Ck x
 |26,x=>F2 x
 |28,x=>Cl x
 |89,x=>Aj x
 |41,x=>Bk x
 |44,x=>Bd x
 |29,x=>By x
 |159,x=>A1 x
 |30,x=>Bl x
 |32,x=>Bz x
 |34,x=>Bm x
 |36,x=>C4 x
 |47,x=>Cn x
 |48,x=>Co x
 |222,x=>Ak x
 |152,x=>Bn x
 |154,x=>Be x
 |49,x=>B4 x
 |157,x=>A3 x
 |50,x=>Bo x
 |52,x=>B5 x
 |53,x=>Bp x
 |61,x=>C5 x
 |69,x=>C6 x
 |224,x=>C7 x
 |_,_=>[]
def Aj3:(t:Nat)->Ah t->List V
 |2,x=>Ab x
 |3,x=>Ab x
 |4,x=>Bu x
 |5,x=>B7 x
 |9,x=>Ed x
 |22,x=>K4 x
 |25,x=>Ck x
 |26,x=>Gv x
 |28,x=>Di x
 |89,x=>Aj x
 |41,x=>Cc x
 |44,x=>Bv x
 |29,x=>Cu x
 |159,x=>Bf x
 |30,x=>Cd x
 |32,x=>Cv x
 |34,x=>Bm x
 |36,x=>C4 x
 |47,x=>Cn x
 |48,x=>Dk x
 |222,x=>Ak x
 |152,x=>Ce x
 |154,x=>Bw x
 |49,x=>Cw x
 |157,x=>Bg x
 |50,x=>Cf x
 |52,x=>Cy x
 |53,x=>Bp x
 |61,x=>C5 x
 |69,x=>Dy x
 |224,x=>Dz x
 |_,_=>[]
def Aj4:(t:Nat)->Ah t->List (SV Ah)
 |2,x=>[.int .i64 x 0]
 |3,x=>[.int .i64 x 0]
 |4,x=>[.bool x]
 |5,x=>[.int .u8 x 0]
 |9,x=>[.str x]
 |22,x=>[.row 5 x]
 |25,x=>[.int .i64 x.Ae 0,.int .i64 x.Eg 0,.int .i64 x.C0 0,.int .i64 x.E9 0,.int .i64 x.C1 0,.int .i64 x.Eh 0]
 |26,x=>[.row 3 x]
 |28,x=>[.row 5 x.Fy,.row 3 x.Hh,.row 3 x.Fz]
 |89,x=>[.int .i64 x.fAt 0,.int .i64 x.Vu 0,.int .i64 x.Vv 0]
 |41,x=>[.row 89 x]
 |44,x=>[.int .i64 x.Hh 0,.int .i64 x.C2 0,.int .i64 x.Ly 0,.int .i64 x.fUp 0,.int .i64 x.Gq 0,.int .i64 x.Bt 0,.int .i64 x.Gr 0,.int .i64 x.Gs 0,.row 3 x.Ae,.int .i64 x.Pq 0,.int .i64 x.Gt 0,.row 89 x.Ea,.row 3 x.Dg]
 |29,x=>[.row 44 x]
 |159,x=>[.int .i64 x.A5 0,.int .i64 x.Bt 0,.row 3 x.Dg,.row 3 x.Ae,.int .i64 x.Gu 0]
 |30,x=>[.row 159 x]
 |32,x=>[.int .i64 x.fC.Ae 0,.int .i64 x.fC.Eg 0,.int .i64 x.fC.C0 0,.int .i64 x.fC.E9 0,.int .i64 x.fC.C1 0,.int .i64 x.fC.Eh 0,.row 5 x.fP.Fy,.row 3 x.fP.Hh,.row 3 x.fP.Fz,.row 44 x.fL,.row 159 x.fQ,.row 3 x.Pr]
 |34,x=>[.int .i64 x.A5 0,.int .i64 x.C2 0]
 |36,x=>[.int .i64 x.fH.A5 0,.int .i64 x.fH.C2 0,.int .i64 x.Ly 0,.int .i64 x.fNo 0]
 |47,x=>[.int .i64 x.Ae 0,.int .i64 x.Eg 0,.int .i64 x.C0 0,.int .i64 x.E9 0,.int .i64 x.C1 0,.int .i64 x.Eh 0]
 |48,x=>[.row 5 x.Fy,.row 3 x.Hh,.row 3 x.Fz]
 |222,x=>[.int .i64 x.fAt 0,.int .i64 x.Vu 0,.int .i64 x.Vv 0]
 |152,x=>[.row 222 x]
 |154,x=>[.int .i64 x.Hh 0,.int .i64 x.C2 0,.int .i64 x.Ly 0,.int .i64 x.fUp 0,.int .i64 x.Gq 0,.int .i64 x.Bt 0,.int .i64 x.Gr 0,.int .i64 x.Gs 0,.row 3 x.Ae,.int .i64 x.Pq 0,.int .i64 x.Gt 0,.row 222 x.Ea,.row 3 x.Dg]
 |49,x=>[.row 154 x]
 |157,x=>[.int .i64 x.A5 0,.int .i64 x.Bt 0,.row 3 x.Dg,.row 3 x.Ae,.int .i64 x.Gu 0]
 |50,x=>[.row 157 x]
 |52,x=>[.int .i64 x.fC.Ae 0,.int .i64 x.fC.Eg 0,.int .i64 x.fC.C0 0,.int .i64 x.fC.E9 0,.int .i64 x.fC.C1 0,.int .i64 x.fC.Eh 0,.row 5 x.fP.Fy,.row 3 x.fP.Hh,.row 3 x.fP.Fz,.row 154 x.fL,.row 157 x.fQ,.row 3 x.Pr]
 |53,x=>[.int .i64 x.A5 0,.int .i64 x.C2 0]
 |61,x=>[.int .i64 x.fH.A5 0,.int .i64 x.fH.C2 0,.int .i64 x.Ly 0,.int .i64 x.fNo 0]
 |69,x=>[.int .i64 x.W9 0,.int .i64 x.fH.A5 0,.int .i64 x.fH.C2 0,.int .i64 x.fR.fH.A5 0,.int .i64 x.fR.fH.C2 0,.int .i64 x.fR.Ly 0,.int .i64 x.fR.fNo 0,.row 5 x.fB,.int .i64 x.Xa 0,.int .i64 x.E9 0,.int .i64 x.Ps 0]
 |224,x=>[.row 4 x]
 |_,_=>[]
def Bq:(t:Nat)->Bool->Ah t->List (SV Ah)
 |2,m,x=>[.int .i64 x 0]
 |3,m,x=>[.int .i64 x 0]
 |4,m,x=>[.bool x]
 |5,m,x=>[.int .u8 x 0]
 |9,m,x=>[.str x]
 |22,m,x=>[.rowT 5 true x]
 |25,m,x=>[.int .i64 x.Ae 0,.int .i64 x.Eg 0,.int .i64 x.C0 0,.int .i64 x.E9 0,.int .i64 x.C1 0,.int .i64 x.Eh 0]
 |26,m,x=>[.rowT 3 true x]
 |28,m,x=>[.rowT 5 true x.Fy,.rowT 3 true x.Hh,.rowT 3 true x.Fz]
 |89,m,x=>[.int .i64 x.fAt 0,.int .i64 x.Vu 0,.int .i64 x.Vv 0]
 |41,m,x=>[.rowT 89 true x]
 |44,m,x=>[.int .i64 x.Hh 0,.int .i64 x.C2 0,.int .i64 x.Ly 0,.int .i64 x.fUp 0,.int .i64 x.Gq 0,.int .i64 x.Bt 0,.int .i64 x.Gr 0,.int .i64 x.Gs 0,.rowT 3 true x.Ae,.int .i64 x.Pq 0,.int .i64 x.Gt 0,.rowT 89 true x.Ea,.rowT 3 true x.Dg]
 |29,m,x=>[.rowT 44 m x]
 |159,m,x=>[.int .i64 x.A5 0,.int .i64 x.Bt 0,.rowT 3 true x.Dg,.rowT 3 true x.Ae,.int .i64 x.Gu 0]
 |30,m,x=>[.rowT 159 m x]
 |32,m,x=>[.int .i64 x.fC.Ae 0,.int .i64 x.fC.Eg 0,.int .i64 x.fC.C0 0,.int .i64 x.fC.E9 0,.int .i64 x.fC.C1 0,.int .i64 x.fC.Eh 0,.rowT 5 true x.fP.Fy,.rowT 3 true x.fP.Hh,.rowT 3 true x.fP.Fz,.rowT 44 m x.fL,.rowT 159 m x.fQ,.rowT 3 true x.Pr]
 |34,m,x=>[.int .i64 x.A5 0,.int .i64 x.C2 0]
 |36,m,x=>[.int .i64 x.fH.A5 0,.int .i64 x.fH.C2 0,.int .i64 x.Ly 0,.int .i64 x.fNo 0]
 |47,m,x=>[.int .i64 x.Ae 0,.int .i64 x.Eg 0,.int .i64 x.C0 0,.int .i64 x.E9 0,.int .i64 x.C1 0,.int .i64 x.Eh 0]
 |48,m,x=>[.rowT 5 true x.Fy,.rowT 3 true x.Hh,.rowT 3 true x.Fz]
 |222,m,x=>[.int .i64 x.fAt 0,.int .i64 x.Vu 0,.int .i64 x.Vv 0]
 |152,m,x=>[.rowT 222 true x]
 |154,m,x=>[.int .i64 x.Hh 0,.int .i64 x.C2 0,.int .i64 x.Ly 0,.int .i64 x.fUp 0,.int .i64 x.Gq 0,.int .i64 x.Bt 0,.int .i64 x.Gr 0,.int .i64 x.Gs 0,.rowT 3 true x.Ae,.int .i64 x.Pq 0,.int .i64 x.Gt 0,.rowT 222 true x.Ea,.rowT 3 true x.Dg]
 |49,m,x=>[.rowT 154 m x]
 |157,m,x=>[.int .i64 x.A5 0,.int .i64 x.Bt 0,.rowT 3 true x.Dg,.rowT 3 true x.Ae,.int .i64 x.Gu 0]
 |50,m,x=>[.rowT 157 m x]
 |52,m,x=>[.int .i64 x.fC.Ae 0,.int .i64 x.fC.Eg 0,.int .i64 x.fC.C0 0,.int .i64 x.fC.E9 0,.int .i64 x.fC.C1 0,.int .i64 x.fC.Eh 0,.rowT 5 true x.fP.Fy,.rowT 3 true x.fP.Hh,.rowT 3 true x.fP.Fz,.rowT 154 m x.fL,.rowT 157 m x.fQ,.rowT 3 true x.Pr]
 |53,m,x=>[.int .i64 x.A5 0,.int .i64 x.C2 0]
 |61,m,x=>[.int .i64 x.fH.A5 0,.int .i64 x.fH.C2 0,.int .i64 x.Ly 0,.int .i64 x.fNo 0]
 |69,m,x=>[.int .i64 x.W9 0,.int .i64 x.fH.A5 0,.int .i64 x.fH.C2 0,.int .i64 x.fR.fH.A5 0,.int .i64 x.fR.fH.C2 0,.int .i64 x.fR.Ly 0,.int .i64 x.fR.fNo 0,.rowT 5 true x.fB,.int .i64 x.Xa 0,.int .i64 x.E9 0,.int .i64 x.Ps 0]
 |224,m,x=>[.rowT 4 true x]
 |_,_,_=>[]
def Aj5:List (SV Ah)->Option (Ah 2)
 |[.int .i64 a0 _]=>some a0
 |_=>none
def Aj6:List (SV Ah)->Option (Ah 3)
 |[.int .i64 a0 _]=>some a0
 |_=>none
def Aj7:List (SV Ah)->Option (Ah 4)
 |[.bool a0]=>some a0
 |_=>none
def Aj8:List (SV Ah)->Option (Ah 5)
 |[.int .u8 a0 _]=>some a0
 |_=>none
def Aj9:List (SV Ah)->Option (Ah 9)
 |[.str a0]=>some a0
 |_=>none
def Ac5:List (SV Ah)->Option (Ah 22)
 |[.row 5 a0]=>some a0
 |_=>none
def Ac6:List (SV Ah)->Option (Ah 25)
 |[.int .i64 a0 _,.int .i64 a1 _,.int .i64 a2 _,.int .i64 a3 _,.int .i64 a4 _,.int .i64 a5 _]=>some ⟨a0,a1,a2,a3,a4,a5⟩
 |_=>none
def Ac7:List (SV Ah)->Option (Ah 26)
 |[.row 3 a0]=>some a0
 |_=>none
def Ac8:List (SV Ah)->Option (Ah 28)
 |[.row 5 a0,.row 3 a1,.row 3 a2]=>some ⟨a0,a1,a2⟩
 |_=>none
def Ac9:List (SV Ah)->Option (Ah 89)
 |[.int .i64 a0 _,.int .i64 a1 _,.int .i64 a2 _]=>some ⟨a0,a1,a2⟩
 |_=>none
def Ada:List (SV Ah)->Option (Ah 41)
 |[.row 89 a0]=>some a0
 |_=>none
def Adb:List (SV Ah)->Option (Ah 44)
 |[.int .i64 a0 _,.int .i64 a1 _,.int .i64 a2 _,.int .i64 a3 _,.int .i64 a4 _,.int .i64 a5 _,.int .i64 a6 _,.int .i64 a7 _,.row 3 a8,.int .i64 a9 _,.int .i64 a10 _,.row 89 a11,.row 3 a12]=>some ⟨a0,a1,a2,a3,a4,a5,a6,a7,a8,a9,a10,a11,a12⟩
 |_=>none
def Adc:List (SV Ah)->Option (Ah 29)
 |[.row 44 a0]=>some a0
 |_=>none
def Vw:List (SV Ah)->Option (Ah 159)
 |[.int .i64 a0 _,.int .i64 a1 _,.row 3 a2,.row 3 a3,.int .i64 a4 _]=>some ⟨a0,a1,a2,a3,a4⟩
 |_=>none
def Ade:List (SV Ah)->Option (Ah 30)
 |[.row 159 a0]=>some a0
 |_=>none
def Adf:List (SV Ah)->Option (Ah 32)
 |[.int .i64 a0 _,.int .i64 a1 _,.int .i64 a2 _,.int .i64 a3 _,.int .i64 a4 _,.int .i64 a5 _,.row 5 a6,.row 3 a7,.row 3 a8,.row 44 a9,.row 159 a10,.row 3 a11]=>some ⟨⟨a0,a1,a2,a3,a4,a5⟩,⟨a6,a7,a8⟩,a9,a10,a11⟩
 |_=>none
def Adg:List (SV Ah)->Option (Ah 34)
 |[.int .i64 a0 _,.int .i64 a1 _]=>some ⟨a0,a1⟩
 |_=>none
def Adh:List (SV Ah)->Option (Ah 36)
 |[.int .i64 a0 _,.int .i64 a1 _,.int .i64 a2 _,.int .i64 a3 _]=>some ⟨⟨a0,a1⟩,a2,a3⟩
 |_=>none
def Adi:List (SV Ah)->Option (Ah 47)
 |[.int .i64 a0 _,.int .i64 a1 _,.int .i64 a2 _,.int .i64 a3 _,.int .i64 a4 _,.int .i64 a5 _]=>some ⟨a0,a1,a2,a3,a4,a5⟩
 |_=>none
def Adj:List (SV Ah)->Option (Ah 48)
 |[.row 5 a0,.row 3 a1,.row 3 a2]=>some ⟨a0,a1,a2⟩
 |_=>none
def Vx:List (SV Ah)->Option (Ah 222)
 |[.int .i64 a0 _,.int .i64 a1 _,.int .i64 a2 _]=>some ⟨a0,a1,a2⟩
 |_=>none
def Vy:List (SV Ah)->Option (Ah 152)
 |[.row 222 a0]=>some a0
 |_=>none
def Vz:List (SV Ah)->Option (Ah 154)
 |[.int .i64 a0 _,.int .i64 a1 _,.int .i64 a2 _,.int .i64 a3 _,.int .i64 a4 _,.int .i64 a5 _,.int .i64 a6 _,.int .i64 a7 _,.row 3 a8,.int .i64 a9 _,.int .i64 a10 _,.row 222 a11,.row 3 a12]=>some ⟨a0,a1,a2,a3,a4,a5,a6,a7,a8,a9,a10,a11,a12⟩
 |_=>none
def Adk:List (SV Ah)->Option (Ah 49)
 |[.row 154 a0]=>some a0
 |_=>none
def V0:List (SV Ah)->Option (Ah 157)
 |[.int .i64 a0 _,.int .i64 a1 _,.row 3 a2,.row 3 a3,.int .i64 a4 _]=>some ⟨a0,a1,a2,a3,a4⟩
 |_=>none
def Adl:List (SV Ah)->Option (Ah 50)
 |[.row 157 a0]=>some a0
 |_=>none
def Adm:List (SV Ah)->Option (Ah 52)
 |[.int .i64 a0 _,.int .i64 a1 _,.int .i64 a2 _,.int .i64 a3 _,.int .i64 a4 _,.int .i64 a5 _,.row 5 a6,.row 3 a7,.row 3 a8,.row 154 a9,.row 157 a10,.row 3 a11]=>some ⟨⟨a0,a1,a2,a3,a4,a5⟩,⟨a6,a7,a8⟩,a9,a10,a11⟩
 |_=>none
def Adn:List (SV Ah)->Option (Ah 53)
 |[.int .i64 a0 _,.int .i64 a1 _]=>some ⟨a0,a1⟩
 |_=>none
def Ado:List (SV Ah)->Option (Ah 61)
 |[.int .i64 a0 _,.int .i64 a1 _,.int .i64 a2 _,.int .i64 a3 _]=>some ⟨⟨a0,a1⟩,a2,a3⟩
 |_=>none
def Adp:List (SV Ah)->Option (Ah 69)
 |[.int .i64 a0 _,.int .i64 a1 _,.int .i64 a2 _,.int .i64 a3 _,.int .i64 a4 _,.int .i64 a5 _,.int .i64 a6 _,.row 5 a7,.int .i64 a8 _,.int .i64 a9 _,.int .i64 a10 _]=>some ⟨a0,⟨a1,a2⟩,⟨⟨a3,a4⟩,a5,a6⟩,a7,a8,a9,a10⟩
 |_=>none
def V1:List (SV Ah)->Option (Ah 224)
 |[.row 4 a0]=>some a0
 |_=>none
def Aka:(t:Nat)->List (SV Ah)->Option (Ah t)
 |2,c=>Aj5 c
 |3,c=>Aj6 c
 |4,c=>Aj7 c
 |5,c=>Aj8 c
 |9,c=>Aj9 c
 |22,c=>Ac5 c
 |25,c=>Ac6 c
 |26,c=>Ac7 c
 |28,c=>Ac8 c
 |89,c=>Ac9 c
 |41,c=>Ada c
 |44,c=>Adb c
 |29,c=>Adc c
 |159,c=>Vw c
 |30,c=>Ade c
 |32,c=>Adf c
 |34,c=>Adg c
 |36,c=>Adh c
 |47,c=>Adi c
 |48,c=>Adj c
 |222,c=>Vx c
 |152,c=>Vy c
 |154,c=>Vz c
 |49,c=>Adk c
 |157,c=>V0 c
 |50,c=>Adl c
 |52,c=>Adm c
 |53,c=>Adn c
 |61,c=>Ado c
 |69,c=>Adp c
 |224,c=>V1 c
 |_,_=>none
def V2:List (SV Ah)->Option (Ah 2)
 |[.int .i64 a0 _]=>some a0
 |_=>none
def V3:List (SV Ah)->Option (Ah 3)
 |[.int .i64 a0 _]=>some a0
 |_=>none
def V4:List (SV Ah)->Option (Ah 4)
 |[.bool a0]=>some a0
 |_=>none
def V5:List (SV Ah)->Option (Ah 5)
 |[.int .u8 a0 _]=>some a0
 |_=>none
def V6:List (SV Ah)->Option (Ah 9)
 |[.str a0]=>some a0
 |_=>none
def Pu:List (SV Ah)->Option (Ah 22)
 |[.rowT 5 true a0]=>some a0
 |_=>none
def Pv:List (SV Ah)->Option (Ah 25)
 |[.int .i64 a0 _,.int .i64 a1 _,.int .i64 a2 _,.int .i64 a3 _,.int .i64 a4 _,.int .i64 a5 _]=>some ⟨a0,a1,a2,a3,a4,a5⟩
 |_=>none
def Pw:List (SV Ah)->Option (Ah 26)
 |[.rowT 3 true a0]=>some a0
 |_=>none
def Px:List (SV Ah)->Option (Ah 28)
 |[.rowT 5 true a0,.rowT 3 true a1,.rowT 3 true a2]=>some ⟨a0,a1,a2⟩
 |_=>none
def Py:List (SV Ah)->Option (Ah 89)
 |[.int .i64 a0 _,.int .i64 a1 _,.int .i64 a2 _]=>some ⟨a0,a1,a2⟩
 |_=>none
def Pz:List (SV Ah)->Option (Ah 41)
 |[.rowT 89 true a0]=>some a0
 |_=>none
def P0:List (SV Ah)->Option (Ah 44)
 |[.int .i64 a0 _,.int .i64 a1 _,.int .i64 a2 _,.int .i64 a3 _,.int .i64 a4 _,.int .i64 a5 _,.int .i64 a6 _,.int .i64 a7 _,.rowT 3 true a8,.int .i64 a9 _,.int .i64 a10 _,.rowT 89 true a11,.rowT 3 true a12]=>some ⟨a0,a1,a2,a3,a4,a5,a6,a7,a8,a9,a10,a11,a12⟩
 |_=>none
def P1:List (SV Ah)->Option (Ah 29)
 |[.rowT 44 true a0]=>some a0
 |_=>none
def P2:List (SV Ah)->Option (Ah 29)
 |[.rowT 44 false a0]=>some a0
 |_=>none
def Lb:List (SV Ah)->Option (Ah 159)
 |[.int .i64 a0 _,.int .i64 a1 _,.rowT 3 true a2,.rowT 3 true a3,.int .i64 a4 _]=>some ⟨a0,a1,a2,a3,a4⟩
 |_=>none
def P3:List (SV Ah)->Option (Ah 30)
 |[.rowT 159 true a0]=>some a0
 |_=>none
def P4:List (SV Ah)->Option (Ah 30)
 |[.rowT 159 false a0]=>some a0
 |_=>none
def P5:List (SV Ah)->Option (Ah 32)
 |[.int .i64 a0 _,.int .i64 a1 _,.int .i64 a2 _,.int .i64 a3 _,.int .i64 a4 _,.int .i64 a5 _,.rowT 5 true a6,.rowT 3 true a7,.rowT 3 true a8,.rowT 44 true a9,.rowT 159 true a10,.rowT 3 true a11]=>some ⟨⟨a0,a1,a2,a3,a4,a5⟩,⟨a6,a7,a8⟩,a9,a10,a11⟩
 |_=>none
def P6:List (SV Ah)->Option (Ah 32)
 |[.int .i64 a0 _,.int .i64 a1 _,.int .i64 a2 _,.int .i64 a3 _,.int .i64 a4 _,.int .i64 a5 _,.rowT 5 true a6,.rowT 3 true a7,.rowT 3 true a8,.rowT 44 false a9,.rowT 159 false a10,.rowT 3 true a11]=>some ⟨⟨a0,a1,a2,a3,a4,a5⟩,⟨a6,a7,a8⟩,a9,a10,a11⟩
 |_=>none
def P7:List (SV Ah)->Option (Ah 34)
 |[.int .i64 a0 _,.int .i64 a1 _]=>some ⟨a0,a1⟩
 |_=>none
def P8:List (SV Ah)->Option (Ah 36)
 |[.int .i64 a0 _,.int .i64 a1 _,.int .i64 a2 _,.int .i64 a3 _]=>some ⟨⟨a0,a1⟩,a2,a3⟩
 |_=>none
def P9:List (SV Ah)->Option (Ah 47)
 |[.int .i64 a0 _,.int .i64 a1 _,.int .i64 a2 _,.int .i64 a3 _,.int .i64 a4 _,.int .i64 a5 _]=>some ⟨a0,a1,a2,a3,a4,a5⟩
 |_=>none
def Qa:List (SV Ah)->Option (Ah 48)
 |[.rowT 5 true a0,.rowT 3 true a1,.rowT 3 true a2]=>some ⟨a0,a1,a2⟩
 |_=>none
def Lc:List (SV Ah)->Option (Ah 222)
 |[.int .i64 a0 _,.int .i64 a1 _,.int .i64 a2 _]=>some ⟨a0,a1,a2⟩
 |_=>none
def Ld:List (SV Ah)->Option (Ah 152)
 |[.rowT 222 true a0]=>some a0
 |_=>none
def Le:List (SV Ah)->Option (Ah 154)
 |[.int .i64 a0 _,.int .i64 a1 _,.int .i64 a2 _,.int .i64 a3 _,.int .i64 a4 _,.int .i64 a5 _,.int .i64 a6 _,.int .i64 a7 _,.rowT 3 true a8,.int .i64 a9 _,.int .i64 a10 _,.rowT 222 true a11,.rowT 3 true a12]=>some ⟨a0,a1,a2,a3,a4,a5,a6,a7,a8,a9,a10,a11,a12⟩
 |_=>none
def Qb:List (SV Ah)->Option (Ah 49)
 |[.rowT 154 true a0]=>some a0
 |_=>none
def Qc:List (SV Ah)->Option (Ah 49)
 |[.rowT 154 false a0]=>some a0
 |_=>none
def Lg:List (SV Ah)->Option (Ah 157)
 |[.int .i64 a0 _,.int .i64 a1 _,.rowT 3 true a2,.rowT 3 true a3,.int .i64 a4 _]=>some ⟨a0,a1,a2,a3,a4⟩
 |_=>none
def Qd:List (SV Ah)->Option (Ah 50)
 |[.rowT 157 true a0]=>some a0
 |_=>none
def Qe:List (SV Ah)->Option (Ah 50)
 |[.rowT 157 false a0]=>some a0
 |_=>none
def Qg:List (SV Ah)->Option (Ah 52)
 |[.int .i64 a0 _,.int .i64 a1 _,.int .i64 a2 _,.int .i64 a3 _,.int .i64 a4 _,.int .i64 a5 _,.rowT 5 true a6,.rowT 3 true a7,.rowT 3 true a8,.rowT 154 true a9,.rowT 157 true a10,.rowT 3 true a11]=>some ⟨⟨a0,a1,a2,a3,a4,a5⟩,⟨a6,a7,a8⟩,a9,a10,a11⟩
 |_=>none
def Qh:List (SV Ah)->Option (Ah 52)
 |[.int .i64 a0 _,.int .i64 a1 _,.int .i64 a2 _,.int .i64 a3 _,.int .i64 a4 _,.int .i64 a5 _,.rowT 5 true a6,.rowT 3 true a7,.rowT 3 true a8,.rowT 154 false a9,.rowT 157 false a10,.rowT 3 true a11]=>some ⟨⟨a0,a1,a2,a3,a4,a5⟩,⟨a6,a7,a8⟩,a9,a10,a11⟩
 |_=>none
def Qi:List (SV Ah)->Option (Ah 53)
 |[.int .i64 a0 _,.int .i64 a1 _]=>some ⟨a0,a1⟩
 |_=>none
def Qj:List (SV Ah)->Option (Ah 61)
 |[.int .i64 a0 _,.int .i64 a1 _,.int .i64 a2 _,.int .i64 a3 _]=>some ⟨⟨a0,a1⟩,a2,a3⟩
 |_=>none
def Qk:List (SV Ah)->Option (Ah 69)
 |[.int .i64 a0 _,.int .i64 a1 _,.int .i64 a2 _,.int .i64 a3 _,.int .i64 a4 _,.int .i64 a5 _,.int .i64 a6 _,.rowT 5 true a7,.int .i64 a8 _,.int .i64 a9 _,.int .i64 a10 _]=>some ⟨a0,⟨a1,a2⟩,⟨⟨a3,a4⟩,a5,a6⟩,a7,a8,a9,a10⟩
 |_=>none
def Lh:List (SV Ah)->Option (Ah 224)
 |[.rowT 4 true a0]=>some a0
 |_=>none
def Akb:(t:Nat)->Bool->List (SV Ah)->Option (Ah t)
 |2,_,c=>V2 c
 |3,_,c=>V3 c
 |4,_,c=>V4 c
 |5,_,c=>V5 c
 |9,_,c=>V6 c
 |22,_,c=>Pu c
 |25,_,c=>Pv c
 |26,_,c=>Pw c
 |28,_,c=>Px c
 |89,_,c=>Py c
 |41,_,c=>Pz c
 |44,_,c=>P0 c
 |29,true,c=>P1 c
 |29,false,c=>P2 c
 |159,_,c=>Lb c
 |30,true,c=>P3 c
 |30,false,c=>P4 c
 |32,true,c=>P5 c
 |32,false,c=>P6 c
 |34,_,c=>P7 c
 |36,_,c=>P8 c
 |47,_,c=>P9 c
 |48,_,c=>Qa c
 |222,_,c=>Lc c
 |152,_,c=>Ld c
 |154,_,c=>Le c
 |49,true,c=>Qb c
 |49,false,c=>Qc c
 |157,_,c=>Lg c
 |50,true,c=>Qd c
 |50,false,c=>Qe c
 |52,true,c=>Qg c
 |52,false,c=>Qh c
 |53,_,c=>Qi c
 |61,_,c=>Qj c
 |69,_,c=>Qk c
 |224,_,c=>Lh c
 |_,_,_=>none
def tyU:Un:=⟨Ah,Amp,Aj0,Aj1,Ao4,Aj2,Aj3,Aj4,Bq,Aka,Akb⟩
theorem Akc: ∀x,(K4 x).all V.fresh=true:=fun x=>by
 simp only[K4,F3,List.all_nil,Ad (f:=B7) (fun _=>rfl),Qp,Qq,Qr,Bool.and_self]
theorem Agh: ∀x,(Gv x).all V.fresh=true:=fun x=>by
 simp only[Gv,F3,List.all_nil,Ad (f:=Ab) (fun _=>rfl),Qp,Qq,Qr,Bool.and_self]
theorem Ql: ∀x,(Di x).all V.fresh=true:=fun x=>by
 simp only[Di,F3,List.all_nil,Ad (f:=B7) (fun _=>rfl),Ad (f:=Ab) (fun _=>rfl),Qp,Qq,Qr,Bool.and_self]
theorem Li: ∀x,(Cc x).all V.fresh=true:=fun x=>by
 simp only[Cc,F3,List.all_nil,Ad (f:=Aj) (fun _=>rfl),Qp,Qq,Qr,Bool.and_self]
theorem Fi: ∀x,(Bv x).all V.fresh=true:=fun x=>by
 simp only[Bv,F3,List.all_nil,Ad (f:=Ab) (fun _=>rfl),Ad (f:=Aj) (fun _=>rfl),Qp,Qq,Qr,Bool.and_self]
theorem L5: ∀x,(Cu x).all V.fresh=true:=fun x=>by
 simp only[Cu,F3,List.all_nil,Ad Fi,Qp,Qq,Qr,Bool.and_self]
theorem Ey: ∀x,(Bf x).all V.fresh=true:=fun x=>by
 simp only[Bf,F3,List.all_nil,Ad (f:=Ab) (fun _=>rfl),Qp,Qq,Qr,Bool.and_self]
theorem Lj: ∀x,(Cd x).all V.fresh=true:=fun x=>by
 simp only[Cd,F3,List.all_nil,Ad Ey,Qp,Qq,Qr,Bool.and_self]
theorem L6: ∀x,(Cv x).all V.fresh=true:=fun x=>by
 simp only[Cv,F3,List.all_nil,Ad (f:=B7) (fun _=>rfl),Ad (f:=Ab) (fun _=>rfl),Ad Fi,Ad Ey,Qp,Qq,Qr,Bool.and_self]
theorem Qm: ∀x,(Dk x).all V.fresh=true:=fun x=>by
 simp only[Dk,F3,List.all_nil,Ad (f:=B7) (fun _=>rfl),Ad (f:=Ab) (fun _=>rfl),Qp,Qq,Qr,Bool.and_self]
theorem Lk: ∀x,(Ce x).all V.fresh=true:=fun x=>by
 simp only[Ce,F3,List.all_nil,Ad (f:=Ak) (fun _=>rfl),Qp,Qq,Qr,Bool.and_self]
theorem Fj: ∀x,(Bw x).all V.fresh=true:=fun x=>by
 simp only[Bw,F3,List.all_nil,Ad (f:=Ab) (fun _=>rfl),Ad (f:=Ak) (fun _=>rfl),Qp,Qq,Qr,Bool.and_self]
theorem L7: ∀x,(Cw x).all V.fresh=true:=fun x=>by
 simp only[Cw,F3,List.all_nil,Ad Fj,Qp,Qq,Qr,Bool.and_self]
theorem Ez: ∀x,(Bg x).all V.fresh=true:=fun x=>by
 simp only[Bg,F3,List.all_nil,Ad (f:=Ab) (fun _=>rfl),Qp,Qq,Qr,Bool.and_self]
theorem Ll: ∀x,(Cf x).all V.fresh=true:=fun x=>by
 simp only[Cf,F3,List.all_nil,Ad Ez,Qp,Qq,Qr,Bool.and_self]
theorem L8: ∀x,(Cy x).all V.fresh=true:=fun x=>by
 simp only[Cy,F3,List.all_nil,Ad (f:=B7) (fun _=>rfl),Ad (f:=Ab) (fun _=>rfl),Ad Fj,Ad Ez,Qp,Qq,Qr,Bool.and_self]
theorem Tg: ∀x,(Dy x).all V.fresh=true:=fun x=>by
 simp only[Dy,F3,List.all_nil,Ad (f:=B7) (fun _=>rfl),Qp,Qq,Qr,Bool.and_self]
theorem Th: ∀x,(Dz x).all V.fresh=true:=fun x=>by
 simp only[Dz,F3,List.all_nil,Ad (f:=Bu) (fun _=>rfl),Qp,Qq,Qr,Bool.and_self]
theorem Amq (c x)(h:Aj5 c=some x):c.map (SV.toV tyU)=Ab x:=by
  unfold Aj5 at h;split at h
  ·cases h;rfl
  ·cases h
theorem Agi (c x)(h:V2 c=some x):c.map (SV.toV tyU)=(Bq 2 true x).map (SV.toV tyU):=by
  unfold V2 at h;split at h
  ·cases h;rfl
  ·cases h
theorem Ao5:F8 tyU 2:=⟨Ai,Te,fun _=>rfl,fun _=>rfl,fun _ _=>rfl,Amq,fun _=>Agi,fun _=>rfl,fun _=>rfl,fun _ _=>rfl,fun _=>rfl,fun _=>rfl⟩
theorem Amr (c x)(h:Aj6 c=some x):c.map (SV.toV tyU)=Ab x:=by
  unfold Aj6 at h;split at h
  ·cases h;rfl
  ·cases h
theorem Agj (c x)(h:V3 c=some x):c.map (SV.toV tyU)=(Bq 3 true x).map (SV.toV tyU):=by
  unfold V3 at h;split at h
  ·cases h;rfl
  ·cases h
theorem Ao6:F8 tyU 3:=⟨Ai,Te,fun _=>rfl,fun _=>rfl,fun _ _=>rfl,Amr,fun _=>Agj,fun _=>rfl,fun _=>rfl,fun _ _=>rfl,fun _=>rfl,fun _=>rfl⟩
theorem Ams (c x)(h:Aj7 c=some x):c.map (SV.toV tyU)=Bu x:=by
  unfold Aj7 at h;split at h
  ·cases h;rfl
  ·cases h
theorem Agk (c x)(h:V4 c=some x):c.map (SV.toV tyU)=(Bq 4 true x).map (SV.toV tyU):=by
  unfold V4 at h;split at h
  ·cases h;rfl
  ·cases h
theorem Ao7:F8 tyU 4:=⟨Cj,Pt,fun _=>rfl,fun _=>rfl,fun _ _=>rfl,Ams,fun _=>Agk,fun _=>rfl,fun _=>rfl,fun _ _=>rfl,fun _=>rfl,fun _=>rfl⟩
theorem Amt (c x)(h:Aj8 c=some x):c.map (SV.toV tyU)=B7 x:=by
  unfold Aj8 at h;split at h
  ·cases h;rfl
  ·cases h
theorem Agl (c x)(h:V5 c=some x):c.map (SV.toV tyU)=(Bq 5 true x).map (SV.toV tyU):=by
  unfold V5 at h;split at h
  ·cases h;rfl
  ·cases h
theorem Ao8:F8 tyU 5:=⟨Bh,Agg,fun _=>rfl,fun _=>rfl,fun _ _=>rfl,Amt,fun _=>Agl,fun _=>rfl,fun _=>rfl,fun _ _=>rfl,fun _=>rfl,fun _=>rfl⟩
theorem Amu (c x)(h:Aj9 c=some x):c.map (SV.toV tyU)=Ed x:=by
  unfold Aj9 at h;split at h
  ·cases h;rfl
  ·cases h
theorem Agm (c x)(h:V6 c=some x):c.map (SV.toV tyU)=(Bq 9 true x).map (SV.toV tyU):=by
  unfold V6 at h;split at h
  ·cases h;rfl
  ·cases h
theorem Ao9:F8 tyU 9:=⟨Et,Tf,fun _=>rfl,fun _=>rfl,fun _ _=>rfl,Amu,fun _=>Agm,fun _=>rfl,fun _=>rfl,fun _ _=>rfl,fun _=>rfl,fun _=>rfl⟩
theorem Akd (c x)(h:Ac5 c=some x):c.map (SV.toV tyU)=Hi x:=by
  unfold Ac5 at h;split at h
  ·cases h;rfl
  ·cases h
theorem Adq (c x)(h:Pu c=some x):c.map (SV.toV tyU)=(Bq 22 true x).map (SV.toV tyU):=by
  unfold Pu at h;split at h
  ·cases h;rfl
  ·cases h
theorem Amv:F8 tyU 22:=⟨Ac3,Ac4,fun _=>rfl,fun _=>rfl,fun _ _=>rfl,Akd,fun _=>Adq,(fun h=>by cases h),fun _=>rfl,fun _ _=>rfl,Akc,fun _=>rfl⟩
theorem Ake (c x)(h:Ac6 c=some x):c.map (SV.toV tyU)=Ck x:=by
  unfold Ac6 at h;split at h
  ·cases h;rfl
  ·cases h
theorem Adr (c x)(h:Pv c=some x):c.map (SV.toV tyU)=(Bq 25 true x).map (SV.toV tyU):=by
  unfold Pv at h;split at h
  ·cases h;rfl
  ·cases h
theorem Amw:F8 tyU 25:=⟨Dh,K5,fun _=>rfl,fun _=>rfl,fun _ _=>rfl,Ake,fun _=>Adr,fun _=>rfl,fun _=>rfl,fun _ _=>rfl,fun _=>rfl,fun _=>rfl⟩
theorem Akf (c x)(h:Ac7 c=some x):c.map (SV.toV tyU)=F2 x:=by
  unfold Ac7 at h;split at h
  ·cases h;rfl
  ·cases h
theorem Ads (c x)(h:Pw c=some x):c.map (SV.toV tyU)=(Bq 26 true x).map (SV.toV tyU):=by
  unfold Pw at h;split at h
  ·cases h;rfl
  ·cases h
theorem Amx:F8 tyU 26:=⟨Y1,Y2,fun _=>rfl,fun _=>rfl,fun _ _=>rfl,Akf,fun _=>Ads,(fun h=>by cases h),fun _=>rfl,fun _ _=>rfl,Agh,fun _=>rfl⟩
theorem Akg (c x)(h:Ac8 c=some x):c.map (SV.toV tyU)=Cl x:=by
  unfold Ac8 at h;split at h
  ·cases h;rfl
  ·cases h
theorem Adt (c x)(h:Px c=some x):c.map (SV.toV tyU)=(Bq 28 true x).map (SV.toV tyU):=by
  unfold Px at h;split at h
  ·cases h;rfl
  ·cases h
theorem Amy:F8 tyU 28:=⟨K6,K7,fun _=>rfl,fun _=>rfl,fun _ _=>rfl,Akg,fun _=>Adt,(fun h=>by cases h),fun _=>rfl,fun _ _=>rfl,Ql,fun _=>rfl⟩
theorem Akh (c x)(h:Ac9 c=some x):c.map (SV.toV tyU)=Aj x:=by
  unfold Ac9 at h;split at h
  ·cases h;rfl
  ·cases h
theorem Adu (c x)(h:Py c=some x):c.map (SV.toV tyU)=(Bq 89 true x).map (SV.toV tyU):=by
  unfold Py at h;split at h
  ·cases h;rfl
  ·cases h
theorem Amz:F8 tyU 89:=⟨Aq,H3,fun _=>rfl,fun _=>rfl,fun _ _=>rfl,Akh,fun _=>Adu,fun _=>rfl,fun _=>rfl,fun _ _=>rfl,fun _=>rfl,fun _=>rfl⟩
theorem Aki (c x)(h:Ada c=some x):c.map (SV.toV tyU)=Bk x:=by
  unfold Ada at h;split at h
  ·cases h;rfl
  ·cases h
theorem Adv (c x)(h:Pz c=some x):c.map (SV.toV tyU)=(Bq 41 true x).map (SV.toV tyU):=by
  unfold Pz at h;split at h
  ·cases h;rfl
  ·cases h
theorem Am0:F8 tyU 41:=⟨Hj,Hk,fun _=>rfl,fun _=>rfl,fun _ _=>rfl,Aki,fun _=>Adv,(fun h=>by cases h),fun _=>rfl,fun _ _=>rfl,Li,fun _=>rfl⟩
theorem Akj (c x)(h:Adb c=some x):c.map (SV.toV tyU)=Bd x:=by
  unfold Adb at h;split at h
  ·cases h;rfl
  ·cases h
theorem Adw (c x)(h:P0 c=some x):c.map (SV.toV tyU)=(Bq 44 true x).map (SV.toV tyU):=by
  unfold P0 at h;split at h
  ·cases h;rfl
  ·cases h
theorem Am1:F8 tyU 44:=⟨Ei,Ej,fun _=>rfl,fun _=>rfl,fun _ _=>rfl,Akj,fun _=>Adw,(fun h=>by cases h),fun _=>rfl,fun _ _=>rfl,Fi,fun _=>rfl⟩
theorem Akk (c x)(h:Adc c=some x):c.map (SV.toV tyU)=By x:=by
  unfold Adc at h;split at h
  ·cases h;rfl
  ·cases h
theorem Adx (c x)(h:P1 c=some x):c.map (SV.toV tyU)=(Bq 29 true x).map (SV.toV tyU):=by
  unfold P1 at h;split at h
  ·cases h;rfl
  ·cases h
theorem Ady (c x)(h:P2 c=some x):c.map (SV.toV tyU)=(Bq 29 false x).map (SV.toV tyU):=by
  unfold P2 at h;split at h
  ·cases h;rfl
  ·cases h
theorem Am2:F8 tyU 29:=⟨H4,H5,fun _=>rfl,fun _=>rfl,fun _ _=>rfl,Akk,fun m=>match m with|true=>Adx|false=>Ady,(fun h=>by cases h),fun _=>rfl,fun _ _=>rfl,L5,fun _=>rfl⟩
theorem Agn (c x)(h:Vw c=some x):c.map (SV.toV tyU)=A1 x:=by
  unfold Vw at h;split at h
  ·cases h;rfl
  ·cases h
theorem Y3 (c x)(h:Lb c=some x):c.map (SV.toV tyU)=(Bq 159 true x).map (SV.toV tyU):=by
  unfold Lb at h;split at h
  ·cases h;rfl
  ·cases h
theorem Akl:F8 tyU 159:=⟨D1,D2,fun _=>rfl,fun _=>rfl,fun _ _=>rfl,Agn,fun _=>Y3,(fun h=>by cases h),fun _=>rfl,fun _ _=>rfl,Ey,fun _=>rfl⟩
theorem Akm (c x)(h:Ade c=some x):c.map (SV.toV tyU)=Bl x:=by
  unfold Ade at h;split at h
  ·cases h;rfl
  ·cases h
theorem Adz (c x)(h:P3 c=some x):c.map (SV.toV tyU)=(Bq 30 true x).map (SV.toV tyU):=by
  unfold P3 at h;split at h
  ·cases h;rfl
  ·cases h
theorem Ad0 (c x)(h:P4 c=some x):c.map (SV.toV tyU)=(Bq 30 false x).map (SV.toV tyU):=by
  unfold P4 at h;split at h
  ·cases h;rfl
  ·cases h
theorem Am3:F8 tyU 30:=⟨Hl,Hm,fun _=>rfl,fun _=>rfl,fun _ _=>rfl,Akm,fun m=>match m with|true=>Adz|false=>Ad0,(fun h=>by cases h),fun _=>rfl,fun _ _=>rfl,Lj,fun _=>rfl⟩
theorem Akn (c x)(h:Adf c=some x):c.map (SV.toV tyU)=Bz x:=by
  unfold Adf at h;split at h
  ·cases h;rfl
  ·cases h
theorem Ad1 (c x)(h:P5 c=some x):c.map (SV.toV tyU)=(Bq 32 true x).map (SV.toV tyU):=by
  unfold P5 at h;split at h
  ·cases h;rfl
  ·cases h
theorem Ad2 (c x)(h:P6 c=some x):c.map (SV.toV tyU)=(Bq 32 false x).map (SV.toV tyU):=by
  unfold P6 at h;split at h
  ·cases h;rfl
  ·cases h
theorem Am4:F8 tyU 32:=⟨H6,H7,fun _=>rfl,fun _=>rfl,fun _ _=>rfl,Akn,fun m=>match m with|true=>Ad1|false=>Ad2,(fun h=>by cases h),fun _=>rfl,fun _ _=>rfl,L6,fun _=>rfl⟩
theorem Ako (c x)(h:Adg c=some x):c.map (SV.toV tyU)=Bm x:=by
  unfold Adg at h;split at h
  ·cases h;rfl
  ·cases h
theorem Ad3 (c x)(h:P7 c=some x):c.map (SV.toV tyU)=(Bq 34 true x).map (SV.toV tyU):=by
  unfold P7 at h;split at h
  ·cases h;rfl
  ·cases h
theorem Am5:F8 tyU 34:=⟨Cm,Hn,fun _=>rfl,fun _=>rfl,fun _ _=>rfl,Ako,fun _=>Ad3,fun _=>rfl,fun _=>rfl,fun _ _=>rfl,fun _=>rfl,fun _=>rfl⟩
theorem Akp (c x)(h:Adh c=some x):c.map (SV.toV tyU)=C4 x:=by
  unfold Adh at h;split at h
  ·cases h;rfl
  ·cases h
theorem Ad4 (c x)(h:P8 c=some x):c.map (SV.toV tyU)=(Bq 36 true x).map (SV.toV tyU):=by
  unfold P8 at h;split at h
  ·cases h;rfl
  ·cases h
theorem Am6:F8 tyU 36:=⟨Do,Lz,fun _=>rfl,fun _=>rfl,fun _ _=>rfl,Akp,fun _=>Ad4,fun _=>rfl,fun _=>rfl,fun _ _=>rfl,fun _=>rfl,fun _=>rfl⟩
theorem Akq (c x)(h:Adi c=some x):c.map (SV.toV tyU)=Cn x:=by
  unfold Adi at h;split at h
  ·cases h;rfl
  ·cases h
theorem Ad5 (c x)(h:P9 c=some x):c.map (SV.toV tyU)=(Bq 47 true x).map (SV.toV tyU):=by
  unfold P9 at h;split at h
  ·cases h;rfl
  ·cases h
theorem Am7:F8 tyU 47:=⟨Dj,K8,fun _=>rfl,fun _=>rfl,fun _ _=>rfl,Akq,fun _=>Ad5,fun _=>rfl,fun _=>rfl,fun _ _=>rfl,fun _=>rfl,fun _=>rfl⟩
theorem Akr (c x)(h:Adj c=some x):c.map (SV.toV tyU)=Co x:=by
  unfold Adj at h;split at h
  ·cases h;rfl
  ·cases h
theorem Ad6 (c x)(h:Qa c=some x):c.map (SV.toV tyU)=(Bq 48 true x).map (SV.toV tyU):=by
  unfold Qa at h;split at h
  ·cases h;rfl
  ·cases h
theorem Am8:F8 tyU 48:=⟨K9,La,fun _=>rfl,fun _=>rfl,fun _ _=>rfl,Akr,fun _=>Ad6,(fun h=>by cases h),fun _=>rfl,fun _ _=>rfl,Qm,fun _=>rfl⟩
theorem Ago (c x)(h:Vx c=some x):c.map (SV.toV tyU)=Ak x:=by
  unfold Vx at h;split at h
  ·cases h;rfl
  ·cases h
theorem Y4 (c x)(h:Lc c=some x):c.map (SV.toV tyU)=(Bq 222 true x).map (SV.toV tyU):=by
  unfold Lc at h;split at h
  ·cases h;rfl
  ·cases h
theorem Aks:F8 tyU 222:=⟨Ar,H8,fun _=>rfl,fun _=>rfl,fun _ _=>rfl,Ago,fun _=>Y4,fun _=>rfl,fun _=>rfl,fun _ _=>rfl,fun _=>rfl,fun _=>rfl⟩
theorem Agp (c x)(h:Vy c=some x):c.map (SV.toV tyU)=Bn x:=by
  unfold Vy at h;split at h
  ·cases h;rfl
  ·cases h
theorem Y5 (c x)(h:Ld c=some x):c.map (SV.toV tyU)=(Bq 152 true x).map (SV.toV tyU):=by
  unfold Ld at h;split at h
  ·cases h;rfl
  ·cases h
theorem Akt:F8 tyU 152:=⟨Ho,Hp,fun _=>rfl,fun _=>rfl,fun _ _=>rfl,Agp,fun _=>Y5,(fun h=>by cases h),fun _=>rfl,fun _ _=>rfl,Lk,fun _=>rfl⟩
theorem Agq (c x)(h:Vz c=some x):c.map (SV.toV tyU)=Be x:=by
  unfold Vz at h;split at h
  ·cases h;rfl
  ·cases h
theorem Y6 (c x)(h:Le c=some x):c.map (SV.toV tyU)=(Bq 154 true x).map (SV.toV tyU):=by
  unfold Le at h;split at h
  ·cases h;rfl
  ·cases h
theorem Aku:F8 tyU 154:=⟨Ek,El,fun _=>rfl,fun _=>rfl,fun _ _=>rfl,Agq,fun _=>Y6,(fun h=>by cases h),fun _=>rfl,fun _ _=>rfl,Fj,fun _=>rfl⟩
theorem Akv (c x)(h:Adk c=some x):c.map (SV.toV tyU)=B4 x:=by
  unfold Adk at h;split at h
  ·cases h;rfl
  ·cases h
theorem Ad7 (c x)(h:Qb c=some x):c.map (SV.toV tyU)=(Bq 49 true x).map (SV.toV tyU):=by
  unfold Qb at h;split at h
  ·cases h;rfl
  ·cases h
theorem Ad8 (c x)(h:Qc c=some x):c.map (SV.toV tyU)=(Bq 49 false x).map (SV.toV tyU):=by
  unfold Qc at h;split at h
  ·cases h;rfl
  ·cases h
theorem Am9:F8 tyU 49:=⟨H9,Ja,fun _=>rfl,fun _=>rfl,fun _ _=>rfl,Akv,fun m=>match m with|true=>Ad7|false=>Ad8,(fun h=>by cases h),fun _=>rfl,fun _ _=>rfl,L7,fun _=>rfl⟩
theorem Agr (c x)(h:V0 c=some x):c.map (SV.toV tyU)=A3 x:=by
  unfold V0 at h;split at h
  ·cases h;rfl
  ·cases h
theorem Y7 (c x)(h:Lg c=some x):c.map (SV.toV tyU)=(Bq 157 true x).map (SV.toV tyU):=by
  unfold Lg at h;split at h
  ·cases h;rfl
  ·cases h
theorem Akw:F8 tyU 157:=⟨D3,D4,fun _=>rfl,fun _=>rfl,fun _ _=>rfl,Agr,fun _=>Y7,(fun h=>by cases h),fun _=>rfl,fun _ _=>rfl,Ez,fun _=>rfl⟩
theorem Akx (c x)(h:Adl c=some x):c.map (SV.toV tyU)=Bo x:=by
  unfold Adl at h;split at h
  ·cases h;rfl
  ·cases h
theorem Ad9 (c x)(h:Qd c=some x):c.map (SV.toV tyU)=(Bq 50 true x).map (SV.toV tyU):=by
  unfold Qd at h;split at h
  ·cases h;rfl
  ·cases h
theorem Aea (c x)(h:Qe c=some x):c.map (SV.toV tyU)=(Bq 50 false x).map (SV.toV tyU):=by
  unfold Qe at h;split at h
  ·cases h;rfl
  ·cases h
theorem Ana:F8 tyU 50:=⟨Hq,Hr,fun _=>rfl,fun _=>rfl,fun _ _=>rfl,Akx,fun m=>match m with|true=>Ad9|false=>Aea,(fun h=>by cases h),fun _=>rfl,fun _ _=>rfl,Ll,fun _=>rfl⟩
theorem Aky (c x)(h:Adm c=some x):c.map (SV.toV tyU)=B5 x:=by
  unfold Adm at h;split at h
  ·cases h;rfl
  ·cases h
theorem Aeb (c x)(h:Qg c=some x):c.map (SV.toV tyU)=(Bq 52 true x).map (SV.toV tyU):=by
  unfold Qg at h;split at h
  ·cases h;rfl
  ·cases h
theorem Aec (c x)(h:Qh c=some x):c.map (SV.toV tyU)=(Bq 52 false x).map (SV.toV tyU):=by
  unfold Qh at h;split at h
  ·cases h;rfl
  ·cases h
theorem Anb:F8 tyU 52:=⟨Jb,Jc,fun _=>rfl,fun _=>rfl,fun _ _=>rfl,Aky,fun m=>match m with|true=>Aeb|false=>Aec,(fun h=>by cases h),fun _=>rfl,fun _ _=>rfl,L8,fun _=>rfl⟩
theorem Akz (c x)(h:Adn c=some x):c.map (SV.toV tyU)=Bp x:=by
  unfold Adn at h;split at h
  ·cases h;rfl
  ·cases h
theorem Aed (c x)(h:Qi c=some x):c.map (SV.toV tyU)=(Bq 53 true x).map (SV.toV tyU):=by
  unfold Qi at h;split at h
  ·cases h;rfl
  ·cases h
theorem Anc:F8 tyU 53:=⟨Cp,Hs,fun _=>rfl,fun _=>rfl,fun _ _=>rfl,Akz,fun _=>Aed,fun _=>rfl,fun _=>rfl,fun _ _=>rfl,fun _=>rfl,fun _=>rfl⟩
theorem Ak0 (c x)(h:Ado c=some x):c.map (SV.toV tyU)=C5 x:=by
  unfold Ado at h;split at h
  ·cases h;rfl
  ·cases h
theorem Aee (c x)(h:Qj c=some x):c.map (SV.toV tyU)=(Bq 61 true x).map (SV.toV tyU):=by
  unfold Qj at h;split at h
  ·cases h;rfl
  ·cases h
theorem Ane:F8 tyU 61:=⟨Dp,L0,fun _=>rfl,fun _=>rfl,fun _ _=>rfl,Ak0,fun _=>Aee,fun _=>rfl,fun _=>rfl,fun _ _=>rfl,fun _=>rfl,fun _=>rfl⟩
theorem Ak1 (c x)(h:Adp c=some x):c.map (SV.toV tyU)=C6 x:=by
  unfold Adp at h;split at h
  ·cases h;rfl
  ·cases h
theorem Aef (c x)(h:Qk c=some x):c.map (SV.toV tyU)=(Bq 69 true x).map (SV.toV tyU):=by
  unfold Qk at h;split at h
  ·cases h;rfl
  ·cases h
theorem Anf:F8 tyU 69:=⟨L1,L2,fun _=>rfl,fun _=>rfl,fun _ _=>rfl,Ak1,fun _=>Aef,(fun h=>by cases h),fun _=>rfl,fun _ _=>rfl,Tg,fun _=>rfl⟩
theorem Ags (c x)(h:V1 c=some x):c.map (SV.toV tyU)=C7 x:=by
  unfold V1 at h;split at h
  ·cases h;rfl
  ·cases h
theorem Y8 (c x)(h:Lh c=some x):c.map (SV.toV tyU)=(Bq 224 true x).map (SV.toV tyU):=by
  unfold Lh at h;split at h
  ·cases h;rfl
  ·cases h
theorem Ak2:F8 tyU 224:=⟨L3,L4,fun _=>rfl,fun _=>rfl,fun _ _=>rfl,Ags,fun _=>Y8,(fun h=>by cases h),fun _=>rfl,fun _ _=>rfl,Th,fun _=>rfl⟩
theorem Agt{t:Nat}(h2:t≠2)(h3:t≠3)(h4:t≠4)(h5:t≠5)(h9:t≠9)(h22:t≠22)(h25:t≠25)(h26:t≠26)(h28:t≠28)(h89:t≠89)(h41:t≠41)(h44:t≠44)(h29:t≠29)(h159:t≠159)(h30:t≠30)(h32:t≠32)(h34:t≠34)(h36:t≠36)(h47:t≠47)(h48:t≠48)(h222:t≠222)(h152:t≠152)(h154:t≠154)(h49:t≠49)(h157:t≠157)(h50:t≠50)(h52:t≠52)(h53:t≠53)(h61:t≠61)(h69:t≠69)(h224:t≠224):Aj0 t=0:=by
 unfold Aj0;split<;>first|rfl|contradiction
theorem Agu{t:Nat}(h2:t≠2)(h3:t≠3)(h4:t≠4)(h5:t≠5)(h9:t≠9)(h22:t≠22)(h25:t≠25)(h26:t≠26)(h28:t≠28)(h89:t≠89)(h41:t≠41)(h44:t≠44)(h29:t≠29)(h159:t≠159)(h30:t≠30)(h32:t≠32)(h34:t≠34)(h36:t≠36)(h47:t≠47)(h48:t≠48)(h222:t≠222)(h152:t≠152)(h154:t≠154)(h49:t≠49)(h157:t≠157)(h50:t≠50)(h52:t≠52)(h53:t≠53)(h61:t≠61)(h69:t≠69)(h224:t≠224)(x):Aj2 t x=[]:=by
 unfold Aj2;split<;>first|rfl|contradiction
theorem Agv{t:Nat}(h2:t≠2)(h3:t≠3)(h4:t≠4)(h5:t≠5)(h9:t≠9)(h22:t≠22)(h25:t≠25)(h26:t≠26)(h28:t≠28)(h89:t≠89)(h41:t≠41)(h44:t≠44)(h29:t≠29)(h159:t≠159)(h30:t≠30)(h32:t≠32)(h34:t≠34)(h36:t≠36)(h47:t≠47)(h48:t≠48)(h222:t≠222)(h152:t≠152)(h154:t≠154)(h49:t≠49)(h157:t≠157)(h50:t≠50)(h52:t≠52)(h53:t≠53)(h61:t≠61)(h69:t≠69)(h224:t≠224)(x):Aj3 t x=[]:=by
 unfold Aj3;split<;>first|rfl|contradiction
theorem Agw{t:Nat}(h2:t≠2)(h3:t≠3)(h4:t≠4)(h5:t≠5)(h9:t≠9)(h22:t≠22)(h25:t≠25)(h26:t≠26)(h28:t≠28)(h89:t≠89)(h41:t≠41)(h44:t≠44)(h29:t≠29)(h159:t≠159)(h30:t≠30)(h32:t≠32)(h34:t≠34)(h36:t≠36)(h47:t≠47)(h48:t≠48)(h222:t≠222)(h152:t≠152)(h154:t≠154)(h49:t≠49)(h157:t≠157)(h50:t≠50)(h52:t≠52)(h53:t≠53)(h61:t≠61)(h69:t≠69)(h224:t≠224)(x):Aj4 t x=[]:=by
 unfold Aj4;split<;>first|rfl|contradiction
theorem Agx{t:Nat}(h2:t≠2)(h3:t≠3)(h4:t≠4)(h5:t≠5)(h9:t≠9)(h22:t≠22)(h25:t≠25)(h26:t≠26)(h28:t≠28)(h89:t≠89)(h41:t≠41)(h44:t≠44)(h29:t≠29)(h159:t≠159)(h30:t≠30)(h32:t≠32)(h34:t≠34)(h36:t≠36)(h47:t≠47)(h48:t≠48)(h222:t≠222)(h152:t≠152)(h154:t≠154)(h49:t≠49)(h157:t≠157)(h50:t≠50)(h52:t≠52)(h53:t≠53)(h61:t≠61)(h69:t≠69)(h224:t≠224)(m)(x):Bq t m x=[]:=by
 unfold Bq;split<;>first|rfl|contradiction
theorem Agy{t:Nat}(h2:t≠2)(h3:t≠3)(h4:t≠4)(h5:t≠5)(h9:t≠9)(h22:t≠22)(h25:t≠25)(h26:t≠26)(h28:t≠28)(h89:t≠89)(h41:t≠41)(h44:t≠44)(h29:t≠29)(h159:t≠159)(h30:t≠30)(h32:t≠32)(h34:t≠34)(h36:t≠36)(h47:t≠47)(h48:t≠48)(h222:t≠222)(h152:t≠152)(h154:t≠154)(h49:t≠49)(h157:t≠157)(h50:t≠50)(h52:t≠52)(h53:t≠53)(h61:t≠61)(h69:t≠69)(h224:t≠224)(c):Aka t c=none:=by
 unfold Aka;split<;>first|rfl|contradiction
theorem Agz{t:Nat}(h2:t≠2)(h3:t≠3)(h4:t≠4)(h5:t≠5)(h9:t≠9)(h22:t≠22)(h25:t≠25)(h26:t≠26)(h28:t≠28)(h89:t≠89)(h41:t≠41)(h44:t≠44)(h29:t≠29)(h159:t≠159)(h30:t≠30)(h32:t≠32)(h34:t≠34)(h36:t≠36)(h47:t≠47)(h48:t≠48)(h222:t≠222)(h152:t≠152)(h154:t≠154)(h49:t≠49)(h157:t≠157)(h50:t≠50)(h52:t≠52)(h53:t≠53)(h61:t≠61)(h69:t≠69)(h224:t≠224)(m)(c):Akb t m c=none:=by
 unfold Akb;split<;>first|rfl|contradiction
theorem df{t:Nat}(h2:t≠2)(h3:t≠3)(h4:t≠4)(h5:t≠5)(h9:t≠9)(h22:t≠22)(h25:t≠25)(h26:t≠26)(h28:t≠28)(h89:t≠89)(h41:t≠41)(h44:t≠44)(h29:t≠29)(h159:t≠159)(h30:t≠30)(h32:t≠32)(h34:t≠34)(h36:t≠36)(h47:t≠47)(h48:t≠48)(h222:t≠222)(h152:t≠152)(h154:t≠154)(h49:t≠49)(h157:t≠157)(h50:t≠50)(h52:t≠52)(h53:t≠53)(h61:t≠61)(h69:t≠69)(h224:t≠224):Dft tyU t:=⟨Agt h2 h3 h4 h5 h9 h22 h25 h26 h28 h89 h41 h44 h29 h159 h30 h32 h34 h36 h47 h48 h222 h152 h154 h49 h157 h50 h52 h53 h61 h69 h224,Agu h2 h3 h4 h5 h9 h22 h25 h26 h28 h89 h41 h44 h29 h159 h30 h32 h34 h36 h47 h48 h222 h152 h154 h49 h157 h50 h52 h53 h61 h69 h224,Agv h2 h3 h4 h5 h9 h22 h25 h26 h28 h89 h41 h44 h29 h159 h30 h32 h34 h36 h47 h48 h222 h152 h154 h49 h157 h50 h52 h53 h61 h69 h224,Agw h2 h3 h4 h5 h9 h22 h25 h26 h28 h89 h41 h44 h29 h159 h30 h32 h34 h36 h47 h48 h222 h152 h154 h49 h157 h50 h52 h53 h61 h69 h224,Agx h2 h3 h4 h5 h9 h22 h25 h26 h28 h89 h41 h44 h29 h159 h30 h32 h34 h36 h47 h48 h222 h152 h154 h49 h157 h50 h52 h53 h61 h69 h224,Agy h2 h3 h4 h5 h9 h22 h25 h26 h28 h89 h41 h44 h29 h159 h30 h32 h34 h36 h47 h48 h222 h152 h154 h49 h157 h50 h52 h53 h61 h69 h224,Agz h2 h3 h4 h5 h9 h22 h25 h26 h28 h89 h41 h44 h29 h159 h30 h32 h34 h36 h47 h48 h222 h152 h154 h49 h157 h50 h52 h53 h61 h69 h224⟩
theorem Aqp:Ac tyU:=Ac.of fun t=>if h2:t=2 then by subst h2;exact Ao5 else if h3:t=3 then by subst h3;exact Ao6 else if h4:t=4 then by subst h4;exact Ao7 else if h5:t=5 then by subst h5;exact Ao8 else if h9:t=9 then by subst h9;exact Ao9 else if h22:t=22 then by subst h22;exact Amv else if h25:t=25 then by subst h25;exact Amw else if h26:t=26 then by subst h26;exact Amx else if h28:t=28 then by subst h28;exact Amy else if h89:t=89 then by subst h89;exact Amz else if h41:t=41 then by subst h41;exact Am0 else if h44:t=44 then by subst h44;exact Am1 else if h29:t=29 then by subst h29;exact Am2 else if h159:t=159 then by subst h159;exact Akl else if h30:t=30 then by subst h30;exact Am3 else if h32:t=32 then by subst h32;exact Am4 else if h34:t=34 then by subst h34;exact Am5 else if h36:t=36 then by subst h36;exact Am6 else if h47:t=47 then by subst h47;exact Am7 else if h48:t=48 then by subst h48;exact Am8 else if h222:t=222 then by subst h222;exact Aks else if h152:t=152 then by subst h152;exact Akt else if h154:t=154 then by subst h154;exact Aku else if h49:t=49 then by subst h49;exact Am9 else if h157:t=157 then by subst h157;exact Akw else if h50:t=50 then by subst h50;exact Ana else if h52:t=52 then by subst h52;exact Anb else if h53:t=53 then by subst h53;exact Anc else if h61:t=61 then by subst h61;exact Ane else if h69:t=69 then by subst h69;exact Anf else if h224:t=224 then by subst h224;exact Ak2 else(df h2 h3 h4 h5 h9 h22 h25 h26 h28 h89 h41 h44 h29 h159 h30 h32 h34 h36 h47 h48 h222 h152 h154 h49 h157 h50 h52 h53 h61 h69 h224).un1
def eqs:List Nat:=[25,89,34,36,47,222,53,61]
theorem Apo:Abg Tryz.prog tab (eqT eqs):=Agd (by kernel_rfl)
end Go.Proofs.YtjdblamhaljjbaaGreat
