/- The types of the seat; no condition. Printed by uni.py. -/
import Derived.Test.YtcdojenmonmcfaaGreatEc
import Derived.Test.YtcdojenmonmcfaaGreatFTab
set_option linter.all false
namespace Go.Proofs.YtcdojenmonmcfaaGreat
open Go.Eng
structure D9 where
 Ay:Int
 G6:Int
 E5:Int
 Gs:Int
 E6:Int
 G7:Int
 deriving Inhabited
structure Dm where
 N5:List Int
 Vg:List Int
 N6:List Int
 deriving Inhabited
structure Bc where
 fAt:Int
 Ajk:Int
 Ajl:Int
 deriving Inhabited
structure As where
 Vg:Int
 C8:Int
 Sj:Int
 fUp:Int
 Sk:Int
 Ee:Int
 Sl:Int
 Sm:Int
 Ay:List Int
 Acv:Int
 Sn:Int
 F4:List Bc
 Fh:List Int
 deriving Inhabited
structure Az where
 Bk:Int
 Ee:Int
 Fh:List Int
 Ay:List Int
 Wv:Int
 deriving Inhabited
structure C4 where
 fC:D9
 fP:Dm
 fL:List As
 fQ:List Az
 Acw:List Int
 deriving Inhabited
structure Am where
 Bk:Int
 C8:Int
 deriving Inhabited
structure Bq where
 fH:Am
 Sj:Int
 fNo:Int
 deriving Inhabited
structure Cm where
 Ww:Int
 fH:Am
 fR:Bq
 fN:Int
 fM:Int
 fB:List Int
 deriving Inhabited
structure Es where
 Wz:Int
 fH:Am
 fR:Bq
 fB:List Int
 W3:Int
 Gs:Int
 N7:Int
 deriving Inhabited
structure D0 where
 fb:List Int
 fi:Int
 fh:Int
 deriving Inhabited
def Ag (x:Int):List V:=[.int .i64 x]
theorem Av:En Ag 1:=⟨fun _=>rfl,fun _=>rfl,fun _=>rfl,fun x=>rfl⟩
theorem So:Fe Ag Ag 1:=⟨Av.len,Av.closed,Av.share⟩
def Br (x:Bool):List V:=[.bool x]
theorem Ca:En Br 1:=⟨fun _=>rfl,fun _=>rfl,fun _=>rfl,fun x=>rfl⟩
theorem N8:Fe Br Br 1:=⟨Ca.len,Ca.closed,Ca.share⟩
def B5 (x:Int):List V:=[.int .u8 x]
theorem Bi:En B5 1:=⟨fun _=>rfl,fun _=>rfl,fun _=>rfl,fun x=>rfl⟩
theorem Af3:Fe B5 B5 1:=⟨Bi.len,Bi.closed,Bi.share⟩
def D1 (x:ByteArray):List V:=[.str x]
theorem Ea:En D1 1:=⟨fun _=>rfl,fun _=>rfl,fun _=>rfl,fun x=>rfl⟩
theorem Sq:Fe D1 D1 1:=⟨Ea.len,Ea.closed,Ea.share⟩
def Gt (x:List Int):List V:=[.row false 1 (x.map B5)]
theorem Acy:En Gt 1:=⟨fun _=>rfl,fun _=>rfl,fun _=>rfl,fun x=>by simp only[Gt,Ad,V.share,Bi.shareLL]⟩
def Kd (x:List Int):List V:=[.row true 1 (x.map B5)]
theorem Acz:Fe Kd Gt 1:=⟨fun _=>rfl,fun _=>rfl,fun x=>by simp only[Kd,Gt,Ad,V.share,Bi.shareLL]⟩
def Cb (x:D9):List V:=[.int .i64 x.Ay,.int .i64 x.G6,.int .i64 x.E5,.int .i64 x.Gs,.int .i64 x.E6,.int .i64 x.G7]
theorem C5:En Cb 6:=⟨fun _=>rfl,fun _=>rfl,fun _=>rfl,fun x=>rfl⟩
theorem Ke:Fe Cb Cb 6:=⟨C5.len,C5.closed,C5.share⟩
def E8 (x:List Int):List V:=[.row false 1 (x.map Ag)]
theorem Yx:En E8 1:=⟨fun _=>rfl,fun _=>rfl,fun _=>rfl,fun x=>by simp only[E8,Ad,V.share,Av.shareLL]⟩
def F5 (x:List Int):List V:=[.row true 1 (x.map Ag)]
theorem Yy:Fe F5 E8 1:=⟨fun _=>rfl,fun _=>rfl,fun x=>by simp only[F5,E8,Ad,V.share,Av.shareLL]⟩
def Cc (x:Dm):List V:=[.row false 1 (x.N5.map B5),.row false 1 (x.Vg.map Ag),.row false 1 (x.N6.map Ag)]
theorem Kf:En Cc 3:=⟨fun _=>rfl,fun _=>rfl,fun _=>rfl,fun x=>by simp only[Cc,Ad,V.share,Bi.shareLL,Av.shareLL]⟩
def C6 (x:Dm):List V:=[.row true 1 (x.N5.map B5),.row true 1 (x.Vg.map Ag),.row true 1 (x.N6.map Ag)]
theorem Kg:Fe C6 Cc 3:=⟨fun _=>rfl,fun _=>rfl,fun x=>by simp only[C6,Cc,Ad,V.share,Bi.shareLL,Av.shareLL]⟩
def Ah (x:Bc):List V:=[.int .i64 x.fAt,.int .i64 x.Ajk,.int .i64 x.Ajl]
theorem Aq:En Ah 3:=⟨fun _=>rfl,fun _=>rfl,fun _=>rfl,fun x=>rfl⟩
theorem Hc:Fe Ah Ah 3:=⟨Aq.len,Aq.closed,Aq.share⟩
def Bl (x:List Bc):List V:=[.row false 3 (x.map Ah)]
theorem Gu:En Bl 1:=⟨fun _=>rfl,fun _=>rfl,fun _=>rfl,fun x=>by simp only[Bl,Ad,V.share,Aq.shareLL]⟩
def B6 (x:List Bc):List V:=[.row true 3 (x.map Ah)]
theorem Gv:Fe B6 Bl 1:=⟨fun _=>rfl,fun _=>rfl,fun x=>by simp only[B6,Bl,Ad,V.share,Aq.shareLL]⟩
def Bd (x:As):List V:=[.int .i64 x.Vg,.int .i64 x.C8,.int .i64 x.Sj,.int .i64 x.fUp,.int .i64 x.Sk,.int .i64 x.Ee,.int .i64 x.Sl,.int .i64 x.Sm,.row false 1 (x.Ay.map Ag),.int .i64 x.Acv,.int .i64 x.Sn,.row false 3 (x.F4.map Ah),.row false 1 (x.Fh.map Ag)]
theorem D7:En Bd 13:=⟨fun _=>rfl,fun _=>rfl,fun _=>rfl,fun x=>by simp only[Bd,Ad,V.share,Av.shareLL,Aq.shareLL]⟩
def Cd (x:As):List V:=[.int .i64 x.Vg,.int .i64 x.C8,.int .i64 x.Sj,.int .i64 x.fUp,.int .i64 x.Sk,.int .i64 x.Ee,.int .i64 x.Sl,.int .i64 x.Sm,.row false 1 (x.Ay.map Ag),.int .i64 x.Acv,.int .i64 x.Sn,.row true 3 (x.F4.map Ah),.row true 1 (x.Fh.map Ag)]
theorem D8:Fe Cd Bd 13:=⟨fun _=>rfl,fun _=>rfl,fun x=>by simp only[Cd,Bd,Ad,V.share,Av.shareLL,Aq.shareLL]⟩
def Bu (x:List As):List V:=[.row false 13 (x.map Bd)]
theorem Hd:En Bu 1:=⟨fun _=>rfl,fun _=>rfl,fun _=>rfl,fun x=>by simp only[Bu,Ad,V.share,D7.shareLL]⟩
def De (x:List As):List V:=[.row true 13 (x.map Cd)]
theorem He:Fe De Bu 1:=⟨fun _=>rfl,fun _=>rfl,fun x=>by simp only[De,Bu,Ad,V.share,D8.shareLL]⟩
def A3 (x:Az):List V:=[.int .i64 x.Bk,.int .i64 x.Ee,.row false 1 (x.Fh.map Ag),.row false 1 (x.Ay.map Ag),.int .i64 x.Wv]
theorem Ds:En A3 5:=⟨fun _=>rfl,fun _=>rfl,fun _=>rfl,fun x=>by simp only[A3,Ad,V.share,Av.shareLL]⟩
def Bg (x:Az):List V:=[.int .i64 x.Bk,.int .i64 x.Ee,.row true 1 (x.Fh.map Ag),.row true 1 (x.Ay.map Ag),.int .i64 x.Wv]
theorem Dt:Fe Bg A3 5:=⟨fun _=>rfl,fun _=>rfl,fun x=>by simp only[Bg,A3,Ad,V.share,Av.shareLL]⟩
def Bm (x:List Az):List V:=[.row false 5 (x.map A3)]
theorem Gw:En Bm 1:=⟨fun _=>rfl,fun _=>rfl,fun _=>rfl,fun x=>by simp only[Bm,Ad,V.share,Ds.shareLL]⟩
def B7 (x:List Az):List V:=[.row true 5 (x.map Bg)]
theorem Gz:Fe B7 Bm 1:=⟨fun _=>rfl,fun _=>rfl,fun x=>by simp only[B7,Bm,Ad,V.share,Dt.shareLL]⟩
def Bv (x:C4):List V:=[.int .i64 x.fC.Ay,.int .i64 x.fC.G6,.int .i64 x.fC.E5,.int .i64 x.fC.Gs,.int .i64 x.fC.E6,.int .i64 x.fC.G7,.row false 1 (x.fP.N5.map B5),.row false 1 (x.fP.Vg.map Ag),.row false 1 (x.fP.N6.map Ag),.row false 13 (x.fL.map Bd),.row false 5 (x.fQ.map A3),.row false 1 (x.Acw.map Ag)]
theorem Hf:En Bv 12:=⟨fun _=>rfl,fun _=>rfl,fun _=>rfl,fun x=>by simp only[Bv,Ad,V.share,Bi.shareLL,Av.shareLL,D7.shareLL,Ds.shareLL]⟩
def Df (x:C4):List V:=[.int .i64 x.fC.Ay,.int .i64 x.fC.G6,.int .i64 x.fC.E5,.int .i64 x.fC.Gs,.int .i64 x.fC.E6,.int .i64 x.fC.G7,.row true 1 (x.fP.N5.map B5),.row true 1 (x.fP.Vg.map Ag),.row true 1 (x.fP.N6.map Ag),.row true 13 (x.fL.map Cd),.row true 5 (x.fQ.map Bg),.row true 1 (x.Acw.map Ag)]
theorem Hg:Fe Df Bv 12:=⟨fun _=>rfl,fun _=>rfl,fun x=>by simp only[Df,Bv,Ad,V.share,Bi.shareLL,Av.shareLL,D8.shareLL,Dt.shareLL]⟩
def An (x:Am):List V:=[.int .i64 x.Bk,.int .i64 x.C8]
theorem A5:En An 2:=⟨fun _=>rfl,fun _=>rfl,fun _=>rfl,fun x=>rfl⟩
theorem G3:Fe An An 2:=⟨A5.len,A5.closed,A5.share⟩
def Be (x:Bq):List V:=[.int .i64 x.fH.Bk,.int .i64 x.fH.C8,.int .i64 x.Sj,.int .i64 x.fNo]
theorem Bw:En Be 4:=⟨fun _=>rfl,fun _=>rfl,fun _=>rfl,fun x=>rfl⟩
theorem K8:Fe Be Be 4:=⟨Bw.len,Bw.closed,Bw.share⟩
def Cj (x:Cm):List V:=[.int .i64 x.Ww,.int .i64 x.fH.Bk,.int .i64 x.fH.C8,.int .i64 x.fR.fH.Bk,.int .i64 x.fR.fH.C8,.int .i64 x.fR.Sj,.int .i64 x.fR.fNo,.int .i64 x.fN,.int .i64 x.fM,.row false 1 (x.fB.map B5)]
theorem F6:En Cj 10:=⟨fun _=>rfl,fun _=>rfl,fun _=>rfl,fun x=>by simp only[Cj,Ad,V.share,Bi.shareLL]⟩
def Dc (x:Cm):List V:=[.int .i64 x.Ww,.int .i64 x.fH.Bk,.int .i64 x.fH.C8,.int .i64 x.fR.fH.Bk,.int .i64 x.fR.fH.C8,.int .i64 x.fR.Sj,.int .i64 x.fR.fNo,.int .i64 x.fN,.int .i64 x.fM,.row true 1 (x.fB.map B5)]
theorem F7:Fe Dc Cj 10:=⟨fun _=>rfl,fun _=>rfl,fun x=>by simp only[Dc,Cj,Ad,V.share,Bi.shareLL]⟩
def Ce (x:List Bq):List V:=[.row false 4 (x.map Be)]
theorem Kh:En Ce 1:=⟨fun _=>rfl,fun _=>rfl,fun _=>rfl,fun x=>by simp only[Ce,Ad,V.share,Bw.shareLL]⟩
def C7 (x:List Bq):List V:=[.row true 4 (x.map Be)]
theorem Ki:Fe C7 Ce 1:=⟨fun _=>rfl,fun _=>rfl,fun x=>by simp only[C7,Ce,Ad,V.share,Bw.shareLL]⟩
def A9 (x:List Am):List V:=[.row false 2 (x.map An)]
theorem F8:En A9 1:=⟨fun _=>rfl,fun _=>rfl,fun _=>rfl,fun x=>by simp only[A9,Ad,V.share,A5.shareLL]⟩
def Bt (x:List Am):List V:=[.row true 2 (x.map An)]
theorem F9:Fe Bt A9 1:=⟨fun _=>rfl,fun _=>rfl,fun x=>by simp only[Bt,A9,Ad,V.share,A5.shareLL]⟩
def Co (x:Es):List V:=[.int .i64 x.Wz,.int .i64 x.fH.Bk,.int .i64 x.fH.C8,.int .i64 x.fR.fH.Bk,.int .i64 x.fR.fH.C8,.int .i64 x.fR.Sj,.int .i64 x.fR.fNo,.row false 1 (x.fB.map B5),.int .i64 x.W3,.int .i64 x.Gs,.int .i64 x.N7]
theorem K9:En Co 11:=⟨fun _=>rfl,fun _=>rfl,fun _=>rfl,fun x=>by simp only[Co,Ad,V.share,Bi.shareLL]⟩
def Dn (x:Es):List V:=[.int .i64 x.Wz,.int .i64 x.fH.Bk,.int .i64 x.fH.C8,.int .i64 x.fR.fH.Bk,.int .i64 x.fR.fH.C8,.int .i64 x.fR.Sj,.int .i64 x.fR.fNo,.row true 1 (x.fB.map B5),.int .i64 x.W3,.int .i64 x.Gs,.int .i64 x.N7]
theorem La:Fe Dn Co 11:=⟨fun _=>rfl,fun _=>rfl,fun x=>by simp only[Dn,Co,Ad,V.share,Bi.shareLL]⟩
def Bx (x:D0):List V:=[.row false 1 (x.fb.map B5),.int .i64 x.fi,.int .i64 x.fh]
theorem Hh:En Bx 3:=⟨fun _=>rfl,fun _=>rfl,fun _=>rfl,fun x=>by simp only[Bx,Ad,V.share,Bi.shareLL]⟩
def Ci (x:D0):List V:=[.row true 1 (x.fb.map B5),.int .i64 x.fi,.int .i64 x.fh]
theorem Hi:Fe Ci Bx 3:=⟨fun _=>rfl,fun _=>rfl,fun x=>by simp only[Ci,Bx,Ad,V.share,Bi.shareLL]⟩
def Cp (x:List Cm):List V:=[.row false 10 (x.map Cj)]
theorem Lb:En Cp 1:=⟨fun _=>rfl,fun _=>rfl,fun _=>rfl,fun x=>by simp only[Cp,Ad,V.share,F6.shareLL]⟩
def Do (x:List Cm):List V:=[.row true 10 (x.map Dc)]
theorem Lc:Fe Do Cp 1:=⟨fun _=>rfl,fun _=>rfl,fun x=>by simp only[Do,Cp,Ad,V.share,F7.shareLL]⟩
def Cq (x:List Bool):List V:=[.row false 1 (x.map Br)]
theorem Ld:En Cq 1:=⟨fun _=>rfl,fun _=>rfl,fun _=>rfl,fun x=>by simp only[Cq,Ad,V.share,Ca.shareLL]⟩
def Dp (x:List Bool):List V:=[.row true 1 (x.map Br)]
theorem Le:Fe Dp Cq 1:=⟨fun _=>rfl,fun _=>rfl,fun x=>by simp only[Dp,Cq,Ad,V.share,Ca.shareLL]⟩
def Aj:Nat->Type
 |2=>Int
 |3=>Int
 |4=>Bool
 |5=>Int
 |9=>ByteArray
 |22=>List Int
 |25=>D9
 |26=>List Int
 |28=>Dm
 |132=>Bc
 |48=>List Bc
 |50=>As
 |29=>List As
 |52=>Az
 |30=>List Az
 |32=>C4
 |36=>Am
 |38=>Bq
 |40=>Cm
 |68=>List Bq
 |70=>List Am
 |73=>Es
 |148=>D0
 |149=>List Cm
 |191=>List Bool
 |_=>Unit
abbrev Amh:(t:Nat)->Inhabited (Aj t)
 |2=>(inferInstance:Inhabited Int)
 |3=>(inferInstance:Inhabited Int)
 |4=>(inferInstance:Inhabited Bool)
 |5=>(inferInstance:Inhabited Int)
 |9=>(inferInstance:Inhabited ByteArray)
 |22=>(inferInstance:Inhabited (List Int))
 |25=>(inferInstance:Inhabited D9)
 |26=>(inferInstance:Inhabited (List Int))
 |28=>(inferInstance:Inhabited Dm)
 |132=>(inferInstance:Inhabited Bc)
 |48=>(inferInstance:Inhabited (List Bc))
 |50=>(inferInstance:Inhabited As)
 |29=>(inferInstance:Inhabited (List As))
 |52=>(inferInstance:Inhabited Az)
 |30=>(inferInstance:Inhabited (List Az))
 |32=>(inferInstance:Inhabited C4)
 |36=>(inferInstance:Inhabited Am)
 |38=>(inferInstance:Inhabited Bq)
 |40=>(inferInstance:Inhabited Cm)
 |68=>(inferInstance:Inhabited (List Bq))
 |70=>(inferInstance:Inhabited (List Am))
 |73=>(inferInstance:Inhabited Es)
 |148=>(inferInstance:Inhabited D0)
 |149=>(inferInstance:Inhabited (List Cm))
 |191=>(inferInstance:Inhabited (List Bool))
 |_=>(by unfold Aj;split<;>infer_instance)
def Ajm:Nat->Nat
 |2=>1
 |3=>1
 |4=>1
 |5=>1
 |9=>1
 |22=>1
 |25=>6
 |26=>1
 |28=>3
 |132=>3
 |48=>1
 |50=>13
 |29=>1
 |52=>5
 |30=>1
 |32=>12
 |36=>2
 |38=>4
 |40=>10
 |68=>1
 |70=>1
 |73=>11
 |148=>3
 |149=>1
 |191=>1
 |_=>0
def Ajn:Nat->Bool
 |2=>true
 |3=>true
 |4=>true
 |5=>true
 |9=>true
 |22=>false
 |25=>true
 |26=>false
 |28=>false
 |132=>true
 |48=>false
 |50=>false
 |29=>false
 |52=>false
 |30=>false
 |32=>false
 |36=>true
 |38=>true
 |40=>false
 |68=>false
 |70=>false
 |73=>false
 |148=>false
 |149=>false
 |191=>false
 |_=>true
def Aoy:Nat->Bool
 |2=>false
 |3=>false
 |4=>false
 |5=>false
 |9=>false
 |22=>false
 |25=>true
 |26=>false
 |28=>true
 |132=>true
 |48=>false
 |50=>true
 |29=>false
 |52=>true
 |30=>false
 |32=>true
 |36=>true
 |38=>true
 |40=>true
 |68=>false
 |70=>false
 |73=>true
 |148=>true
 |149=>false
 |191=>false
 |_=>false
def Ajo:(t:Nat)->Aj t->List V
 |2,x=>Ag x
 |3,x=>Ag x
 |4,x=>Br x
 |5,x=>B5 x
 |9,x=>D1 x
 |22,x=>Gt x
 |25,x=>Cb x
 |26,x=>E8 x
 |28,x=>Cc x
 |132,x=>Ah x
 |48,x=>Bl x
 |50,x=>Bd x
 |29,x=>Bu x
 |52,x=>A3 x
 |30,x=>Bm x
 |32,x=>Bv x
 |36,x=>An x
 |38,x=>Be x
 |40,x=>Cj x
 |68,x=>Ce x
 |70,x=>A9 x
 |73,x=>Co x
 |148,x=>Bx x
 |149,x=>Cp x
 |191,x=>Cq x
 |_,_=>[]
def Ajp:(t:Nat)->Aj t->List V
 |2,x=>Ag x
 |3,x=>Ag x
 |4,x=>Br x
 |5,x=>B5 x
 |9,x=>D1 x
 |22,x=>Kd x
 |25,x=>Cb x
 |26,x=>F5 x
 |28,x=>C6 x
 |132,x=>Ah x
 |48,x=>B6 x
 |50,x=>Cd x
 |29,x=>De x
 |52,x=>Bg x
 |30,x=>B7 x
 |32,x=>Df x
 |36,x=>An x
 |38,x=>Be x
 |40,x=>Dc x
 |68,x=>C7 x
 |70,x=>Bt x
 |73,x=>Dn x
 |148,x=>Ci x
 |149,x=>Do x
 |191,x=>Dp x
 |_,_=>[]
def Ajq:(t:Nat)->Aj t->List (SV Aj)
 |2,x=>[.int .i64 x 0]
 |3,x=>[.int .i64 x 0]
 |4,x=>[.bool x]
 |5,x=>[.int .u8 x 0]
 |9,x=>[.str x]
 |22,x=>[.row 5 x]
 |25,x=>[.int .i64 x.Ay 0,.int .i64 x.G6 0,.int .i64 x.E5 0,.int .i64 x.Gs 0,.int .i64 x.E6 0,.int .i64 x.G7 0]
 |26,x=>[.row 3 x]
 |28,x=>[.row 5 x.N5,.row 3 x.Vg,.row 3 x.N6]
 |132,x=>[.int .i64 x.fAt 0,.int .i64 x.Ajk 0,.int .i64 x.Ajl 0]
 |48,x=>[.row 132 x]
 |50,x=>[.int .i64 x.Vg 0,.int .i64 x.C8 0,.int .i64 x.Sj 0,.int .i64 x.fUp 0,.int .i64 x.Sk 0,.int .i64 x.Ee 0,.int .i64 x.Sl 0,.int .i64 x.Sm 0,.row 3 x.Ay,.int .i64 x.Acv 0,.int .i64 x.Sn 0,.row 132 x.F4,.row 3 x.Fh]
 |29,x=>[.row 50 x]
 |52,x=>[.int .i64 x.Bk 0,.int .i64 x.Ee 0,.row 3 x.Fh,.row 3 x.Ay,.int .i64 x.Wv 0]
 |30,x=>[.row 52 x]
 |32,x=>[.int .i64 x.fC.Ay 0,.int .i64 x.fC.G6 0,.int .i64 x.fC.E5 0,.int .i64 x.fC.Gs 0,.int .i64 x.fC.E6 0,.int .i64 x.fC.G7 0,.row 5 x.fP.N5,.row 3 x.fP.Vg,.row 3 x.fP.N6,.row 50 x.fL,.row 52 x.fQ,.row 3 x.Acw]
 |36,x=>[.int .i64 x.Bk 0,.int .i64 x.C8 0]
 |38,x=>[.int .i64 x.fH.Bk 0,.int .i64 x.fH.C8 0,.int .i64 x.Sj 0,.int .i64 x.fNo 0]
 |40,x=>[.int .i64 x.Ww 0,.int .i64 x.fH.Bk 0,.int .i64 x.fH.C8 0,.int .i64 x.fR.fH.Bk 0,.int .i64 x.fR.fH.C8 0,.int .i64 x.fR.Sj 0,.int .i64 x.fR.fNo 0,.int .i64 x.fN 0,.int .i64 x.fM 0,.row 5 x.fB]
 |68,x=>[.row 38 x]
 |70,x=>[.row 36 x]
 |73,x=>[.int .i64 x.Wz 0,.int .i64 x.fH.Bk 0,.int .i64 x.fH.C8 0,.int .i64 x.fR.fH.Bk 0,.int .i64 x.fR.fH.C8 0,.int .i64 x.fR.Sj 0,.int .i64 x.fR.fNo 0,.row 5 x.fB,.int .i64 x.W3 0,.int .i64 x.Gs 0,.int .i64 x.N7 0]
 |148,x=>[.row 5 x.fb,.int .i64 x.fi 0,.int .i64 x.fh 0]
 |149,x=>[.row 40 x]
 |191,x=>[.row 4 x]
 |_,_=>[]
def Cf:(t:Nat)->Bool->Aj t->List (SV Aj)
 |2,m,x=>[.int .i64 x 0]
 |3,m,x=>[.int .i64 x 0]
 |4,m,x=>[.bool x]
 |5,m,x=>[.int .u8 x 0]
 |9,m,x=>[.str x]
 |22,m,x=>[.rowT 5 true x]
 |25,m,x=>[.int .i64 x.Ay 0,.int .i64 x.G6 0,.int .i64 x.E5 0,.int .i64 x.Gs 0,.int .i64 x.E6 0,.int .i64 x.G7 0]
 |26,m,x=>[.rowT 3 true x]
 |28,m,x=>[.rowT 5 true x.N5,.rowT 3 true x.Vg,.rowT 3 true x.N6]
 |132,m,x=>[.int .i64 x.fAt 0,.int .i64 x.Ajk 0,.int .i64 x.Ajl 0]
 |48,m,x=>[.rowT 132 true x]
 |50,true,x=>[.int .i64 x.Vg 0,.int .i64 x.C8 0,.int .i64 x.Sj 0,.int .i64 x.fUp 0,.int .i64 x.Sk 0,.int .i64 x.Ee 0,.int .i64 x.Sl 0,.int .i64 x.Sm 0,.row 3 x.Ay,.int .i64 x.Acv 0,.int .i64 x.Sn 0,.rowT 132 true x.F4,.rowT 3 true x.Fh]
 |50,false,x=>[.int .i64 x.Vg 0,.int .i64 x.C8 0,.int .i64 x.Sj 0,.int .i64 x.fUp 0,.int .i64 x.Sk 0,.int .i64 x.Ee 0,.int .i64 x.Sl 0,.int .i64 x.Sm 0,.rowT 3 true x.Ay,.int .i64 x.Acv 0,.int .i64 x.Sn 0,.rowT 132 true x.F4,.rowT 3 true x.Fh]
 |29,m,x=>[.rowT 50 m x]
 |52,m,x=>[.int .i64 x.Bk 0,.int .i64 x.Ee 0,.rowT 3 true x.Fh,.rowT 3 true x.Ay,.int .i64 x.Wv 0]
 |30,m,x=>[.rowT 52 m x]
 |32,true,x=>[.int .i64 x.fC.Ay 0,.int .i64 x.fC.G6 0,.int .i64 x.fC.E5 0,.int .i64 x.fC.Gs 0,.int .i64 x.fC.E6 0,.int .i64 x.fC.G7 0,.rowT 5 true x.fP.N5,.rowT 3 true x.fP.Vg,.rowT 3 true x.fP.N6,.rowT 50 true x.fL,.rowT 52 true x.fQ,.rowT 3 true x.Acw]
 |32,false,x=>[.int .i64 x.fC.Ay 0,.int .i64 x.fC.G6 0,.int .i64 x.fC.E5 0,.int .i64 x.fC.Gs 0,.int .i64 x.fC.E6 0,.int .i64 x.fC.G7 0,.rowT 5 true x.fP.N5,.rowT 3 true x.fP.Vg,.rowT 3 true x.fP.N6,.rowT 50 true x.fL,.rowT 52 false x.fQ,.rowT 3 true x.Acw]
 |36,m,x=>[.int .i64 x.Bk 0,.int .i64 x.C8 0]
 |38,m,x=>[.int .i64 x.fH.Bk 0,.int .i64 x.fH.C8 0,.int .i64 x.Sj 0,.int .i64 x.fNo 0]
 |40,m,x=>[.int .i64 x.Ww 0,.int .i64 x.fH.Bk 0,.int .i64 x.fH.C8 0,.int .i64 x.fR.fH.Bk 0,.int .i64 x.fR.fH.C8 0,.int .i64 x.fR.Sj 0,.int .i64 x.fR.fNo 0,.int .i64 x.fN 0,.int .i64 x.fM 0,.rowT 5 true x.fB]
 |68,m,x=>[.rowT 38 true x]
 |70,m,x=>[.rowT 36 true x]
 |73,m,x=>[.int .i64 x.Wz 0,.int .i64 x.fH.Bk 0,.int .i64 x.fH.C8 0,.int .i64 x.fR.fH.Bk 0,.int .i64 x.fR.fH.C8 0,.int .i64 x.fR.Sj 0,.int .i64 x.fR.fNo 0,.rowT 5 true x.fB,.int .i64 x.W3 0,.int .i64 x.Gs 0,.int .i64 x.N7 0]
 |148,true,x=>[.rowT 5 true x.fb,.int .i64 x.fi 0,.int .i64 x.fh 0]
 |148,false,x=>[.row 5 x.fb,.int .i64 x.fi 0,.int .i64 x.fh 0]
 |149,m,x=>[.rowT 40 m x]
 |191,m,x=>[.rowT 4 true x]
 |_,_,_=>[]
def Ajr:List (SV Aj)->Option (Aj 2)
 |[.int .i64 a0 _]=>some a0
 |_=>none
def Ajs:List (SV Aj)->Option (Aj 3)
 |[.int .i64 a0 _]=>some a0
 |_=>none
def Ajt:List (SV Aj)->Option (Aj 4)
 |[.bool a0]=>some a0
 |_=>none
def Aju:List (SV Aj)->Option (Aj 5)
 |[.int .u8 a0 _]=>some a0
 |_=>none
def Ajv:List (SV Aj)->Option (Aj 9)
 |[.str a0]=>some a0
 |_=>none
def Ac0:List (SV Aj)->Option (Aj 22)
 |[.row 5 a0]=>some a0
 |_=>none
def Ac1:List (SV Aj)->Option (Aj 25)
 |[.int .i64 a0 _,.int .i64 a1 _,.int .i64 a2 _,.int .i64 a3 _,.int .i64 a4 _,.int .i64 a5 _]=>some ⟨a0,a1,a2,a3,a4,a5⟩
 |_=>none
def Ac2:List (SV Aj)->Option (Aj 26)
 |[.row 3 a0]=>some a0
 |_=>none
def Ac3:List (SV Aj)->Option (Aj 28)
 |[.row 5 a0,.row 3 a1,.row 3 a2]=>some ⟨a0,a1,a2⟩
 |_=>none
def Vh:List (SV Aj)->Option (Aj 132)
 |[.int .i64 a0 _,.int .i64 a1 _,.int .i64 a2 _]=>some ⟨a0,a1,a2⟩
 |_=>none
def Ac4:List (SV Aj)->Option (Aj 48)
 |[.row 132 a0]=>some a0
 |_=>none
def Ac5:List (SV Aj)->Option (Aj 50)
 |[.int .i64 a0 _,.int .i64 a1 _,.int .i64 a2 _,.int .i64 a3 _,.int .i64 a4 _,.int .i64 a5 _,.int .i64 a6 _,.int .i64 a7 _,.row 3 a8,.int .i64 a9 _,.int .i64 a10 _,.row 132 a11,.row 3 a12]=>some ⟨a0,a1,a2,a3,a4,a5,a6,a7,a8,a9,a10,a11,a12⟩
 |_=>none
def Ac6:List (SV Aj)->Option (Aj 29)
 |[.row 50 a0]=>some a0
 |_=>none
def Ac7:List (SV Aj)->Option (Aj 52)
 |[.int .i64 a0 _,.int .i64 a1 _,.row 3 a2,.row 3 a3,.int .i64 a4 _]=>some ⟨a0,a1,a2,a3,a4⟩
 |_=>none
def Ac8:List (SV Aj)->Option (Aj 30)
 |[.row 52 a0]=>some a0
 |_=>none
def Ac9:List (SV Aj)->Option (Aj 32)
 |[.int .i64 a0 _,.int .i64 a1 _,.int .i64 a2 _,.int .i64 a3 _,.int .i64 a4 _,.int .i64 a5 _,.row 5 a6,.row 3 a7,.row 3 a8,.row 50 a9,.row 52 a10,.row 3 a11]=>some ⟨⟨a0,a1,a2,a3,a4,a5⟩,⟨a6,a7,a8⟩,a9,a10,a11⟩
 |_=>none
def Ada:List (SV Aj)->Option (Aj 36)
 |[.int .i64 a0 _,.int .i64 a1 _]=>some ⟨a0,a1⟩
 |_=>none
def Adb:List (SV Aj)->Option (Aj 38)
 |[.int .i64 a0 _,.int .i64 a1 _,.int .i64 a2 _,.int .i64 a3 _]=>some ⟨⟨a0,a1⟩,a2,a3⟩
 |_=>none
def Adc:List (SV Aj)->Option (Aj 40)
 |[.int .i64 a0 _,.int .i64 a1 _,.int .i64 a2 _,.int .i64 a3 _,.int .i64 a4 _,.int .i64 a5 _,.int .i64 a6 _,.int .i64 a7 _,.int .i64 a8 _,.row 5 a9]=>some ⟨a0,⟨a1,a2⟩,⟨⟨a3,a4⟩,a5,a6⟩,a7,a8,a9⟩
 |_=>none
def Ade:List (SV Aj)->Option (Aj 68)
 |[.row 38 a0]=>some a0
 |_=>none
def Adf:List (SV Aj)->Option (Aj 70)
 |[.row 36 a0]=>some a0
 |_=>none
def Adg:List (SV Aj)->Option (Aj 73)
 |[.int .i64 a0 _,.int .i64 a1 _,.int .i64 a2 _,.int .i64 a3 _,.int .i64 a4 _,.int .i64 a5 _,.int .i64 a6 _,.row 5 a7,.int .i64 a8 _,.int .i64 a9 _,.int .i64 a10 _]=>some ⟨a0,⟨a1,a2⟩,⟨⟨a3,a4⟩,a5,a6⟩,a7,a8,a9,a10⟩
 |_=>none
def Vi:List (SV Aj)->Option (Aj 148)
 |[.row 5 a0,.int .i64 a1 _,.int .i64 a2 _]=>some ⟨a0,a1,a2⟩
 |_=>none
def Vj:List (SV Aj)->Option (Aj 149)
 |[.row 40 a0]=>some a0
 |_=>none
def Vk:List (SV Aj)->Option (Aj 191)
 |[.row 4 a0]=>some a0
 |_=>none
def Ajw:(t:Nat)->List (SV Aj)->Option (Aj t)
 |2,c=>Ajr c
 |3,c=>Ajs c
 |4,c=>Ajt c
 |5,c=>Aju c
 |9,c=>Ajv c
 |22,c=>Ac0 c
 |25,c=>Ac1 c
 |26,c=>Ac2 c
 |28,c=>Ac3 c
 |132,c=>Vh c
 |48,c=>Ac4 c
 |50,c=>Ac5 c
 |29,c=>Ac6 c
 |52,c=>Ac7 c
 |30,c=>Ac8 c
 |32,c=>Ac9 c
 |36,c=>Ada c
 |38,c=>Adb c
 |40,c=>Adc c
 |68,c=>Ade c
 |70,c=>Adf c
 |73,c=>Adg c
 |148,c=>Vi c
 |149,c=>Vj c
 |191,c=>Vk c
 |_,_=>none
def Vl:List (SV Aj)->Option (Aj 2)
 |[.int .i64 a0 _]=>some a0
 |_=>none
def Vm:List (SV Aj)->Option (Aj 3)
 |[.int .i64 a0 _]=>some a0
 |_=>none
def Vn:List (SV Aj)->Option (Aj 4)
 |[.bool a0]=>some a0
 |_=>none
def Vo:List (SV Aj)->Option (Aj 5)
 |[.int .u8 a0 _]=>some a0
 |_=>none
def Vp:List (SV Aj)->Option (Aj 9)
 |[.str a0]=>some a0
 |_=>none
def N9:List (SV Aj)->Option (Aj 22)
 |[.rowT 5 true a0]=>some a0
 |_=>none
def Pa:List (SV Aj)->Option (Aj 25)
 |[.int .i64 a0 _,.int .i64 a1 _,.int .i64 a2 _,.int .i64 a3 _,.int .i64 a4 _,.int .i64 a5 _]=>some ⟨a0,a1,a2,a3,a4,a5⟩
 |_=>none
def Pb:List (SV Aj)->Option (Aj 26)
 |[.rowT 3 true a0]=>some a0
 |_=>none
def Pc:List (SV Aj)->Option (Aj 28)
 |[.rowT 5 true a0,.rowT 3 true a1,.rowT 3 true a2]=>some ⟨a0,a1,a2⟩
 |_=>none
def Kj:List (SV Aj)->Option (Aj 132)
 |[.int .i64 a0 _,.int .i64 a1 _,.int .i64 a2 _]=>some ⟨a0,a1,a2⟩
 |_=>none
def Pd:List (SV Aj)->Option (Aj 48)
 |[.rowT 132 true a0]=>some a0
 |_=>none
def Pe:List (SV Aj)->Option (Aj 50)
 |[.int .i64 a0 _,.int .i64 a1 _,.int .i64 a2 _,.int .i64 a3 _,.int .i64 a4 _,.int .i64 a5 _,.int .i64 a6 _,.int .i64 a7 _,.row 3 a8,.int .i64 a9 _,.int .i64 a10 _,.rowT 132 true a11,.rowT 3 true a12]=>some ⟨a0,a1,a2,a3,a4,a5,a6,a7,a8,a9,a10,a11,a12⟩
 |_=>none
def Pf:List (SV Aj)->Option (Aj 50)
 |[.int .i64 a0 _,.int .i64 a1 _,.int .i64 a2 _,.int .i64 a3 _,.int .i64 a4 _,.int .i64 a5 _,.int .i64 a6 _,.int .i64 a7 _,.rowT 3 true a8,.int .i64 a9 _,.int .i64 a10 _,.rowT 132 true a11,.rowT 3 true a12]=>some ⟨a0,a1,a2,a3,a4,a5,a6,a7,a8,a9,a10,a11,a12⟩
 |_=>none
def Pg:List (SV Aj)->Option (Aj 29)
 |[.rowT 50 true a0]=>some a0
 |_=>none
def Ph:List (SV Aj)->Option (Aj 29)
 |[.rowT 50 false a0]=>some a0
 |_=>none
def Pj:List (SV Aj)->Option (Aj 52)
 |[.int .i64 a0 _,.int .i64 a1 _,.rowT 3 true a2,.rowT 3 true a3,.int .i64 a4 _]=>some ⟨a0,a1,a2,a3,a4⟩
 |_=>none
def Pk:List (SV Aj)->Option (Aj 30)
 |[.rowT 52 true a0]=>some a0
 |_=>none
def Pl:List (SV Aj)->Option (Aj 30)
 |[.rowT 52 false a0]=>some a0
 |_=>none
def Pm:List (SV Aj)->Option (Aj 32)
 |[.int .i64 a0 _,.int .i64 a1 _,.int .i64 a2 _,.int .i64 a3 _,.int .i64 a4 _,.int .i64 a5 _,.rowT 5 true a6,.rowT 3 true a7,.rowT 3 true a8,.rowT 50 true a9,.rowT 52 true a10,.rowT 3 true a11]=>some ⟨⟨a0,a1,a2,a3,a4,a5⟩,⟨a6,a7,a8⟩,a9,a10,a11⟩
 |_=>none
def Pn:List (SV Aj)->Option (Aj 32)
 |[.int .i64 a0 _,.int .i64 a1 _,.int .i64 a2 _,.int .i64 a3 _,.int .i64 a4 _,.int .i64 a5 _,.rowT 5 true a6,.rowT 3 true a7,.rowT 3 true a8,.rowT 50 true a9,.rowT 52 false a10,.rowT 3 true a11]=>some ⟨⟨a0,a1,a2,a3,a4,a5⟩,⟨a6,a7,a8⟩,a9,a10,a11⟩
 |_=>none
def Po:List (SV Aj)->Option (Aj 36)
 |[.int .i64 a0 _,.int .i64 a1 _]=>some ⟨a0,a1⟩
 |_=>none
def Pp:List (SV Aj)->Option (Aj 38)
 |[.int .i64 a0 _,.int .i64 a1 _,.int .i64 a2 _,.int .i64 a3 _]=>some ⟨⟨a0,a1⟩,a2,a3⟩
 |_=>none
def Pq:List (SV Aj)->Option (Aj 40)
 |[.int .i64 a0 _,.int .i64 a1 _,.int .i64 a2 _,.int .i64 a3 _,.int .i64 a4 _,.int .i64 a5 _,.int .i64 a6 _,.int .i64 a7 _,.int .i64 a8 _,.rowT 5 true a9]=>some ⟨a0,⟨a1,a2⟩,⟨⟨a3,a4⟩,a5,a6⟩,a7,a8,a9⟩
 |_=>none
def Pr:List (SV Aj)->Option (Aj 68)
 |[.rowT 38 true a0]=>some a0
 |_=>none
def Ps:List (SV Aj)->Option (Aj 70)
 |[.rowT 36 true a0]=>some a0
 |_=>none
def Pt:List (SV Aj)->Option (Aj 73)
 |[.int .i64 a0 _,.int .i64 a1 _,.int .i64 a2 _,.int .i64 a3 _,.int .i64 a4 _,.int .i64 a5 _,.int .i64 a6 _,.rowT 5 true a7,.int .i64 a8 _,.int .i64 a9 _,.int .i64 a10 _]=>some ⟨a0,⟨a1,a2⟩,⟨⟨a3,a4⟩,a5,a6⟩,a7,a8,a9,a10⟩
 |_=>none
def Kk:List (SV Aj)->Option (Aj 148)
 |[.rowT 5 true a0,.int .i64 a1 _,.int .i64 a2 _]=>some ⟨a0,a1,a2⟩
 |_=>none
def Kl:List (SV Aj)->Option (Aj 148)
 |[.row 5 a0,.int .i64 a1 _,.int .i64 a2 _]=>some ⟨a0,a1,a2⟩
 |_=>none
def Km:List (SV Aj)->Option (Aj 149)
 |[.rowT 40 true a0]=>some a0
 |_=>none
def Kn:List (SV Aj)->Option (Aj 149)
 |[.rowT 40 false a0]=>some a0
 |_=>none
def Ko:List (SV Aj)->Option (Aj 191)
 |[.rowT 4 true a0]=>some a0
 |_=>none
def Ajx:(t:Nat)->Bool->List (SV Aj)->Option (Aj t)
 |2,_,c=>Vl c
 |3,_,c=>Vm c
 |4,_,c=>Vn c
 |5,_,c=>Vo c
 |9,_,c=>Vp c
 |22,_,c=>N9 c
 |25,_,c=>Pa c
 |26,_,c=>Pb c
 |28,_,c=>Pc c
 |132,_,c=>Kj c
 |48,_,c=>Pd c
 |50,true,c=>Pe c
 |50,false,c=>Pf c
 |29,true,c=>Pg c
 |29,false,c=>Ph c
 |52,_,c=>Pj c
 |30,true,c=>Pk c
 |30,false,c=>Pl c
 |32,true,c=>Pm c
 |32,false,c=>Pn c
 |36,_,c=>Po c
 |38,_,c=>Pp c
 |40,_,c=>Pq c
 |68,_,c=>Pr c
 |70,_,c=>Ps c
 |73,_,c=>Pt c
 |148,true,c=>Kk c
 |148,false,c=>Kl c
 |149,true,c=>Km c
 |149,false,c=>Kn c
 |191,_,c=>Ko c
 |_,_,_=>none
def W4 (t j:Nat):Bool:=(Nat.beq t 50&&Nat.beq j 8)||((Nat.beq t 50||Nat.beq t 29||Nat.beq t 32)&&Nat.beq j 1000)
def tyU:Un:=⟨Aj,Amh,Ajm,Ajn,Aoy,Ajo,Ajp,Ajq,Cf,Ajw,Ajx,W4⟩
theorem Ajy: ∀x,(Kd x).all V.fresh=true:=fun x=>by
 simp only[Kd,Gc,List.all_nil,At (f:=B5) (fun _=>rfl),Yu,Yv,Yw,Bool.and_self]
theorem Af4: ∀x,(F5 x).all V.fresh=true:=fun x=>by
 simp only[F5,Gc,List.all_nil,At (f:=Ag) (fun _=>rfl),Yu,Yv,Yw,Bool.and_self]
theorem Pu: ∀x,(C6 x).all V.fresh=true:=fun x=>by
 simp only[C6,Gc,List.all_nil,At (f:=B5) (fun _=>rfl),At (f:=Ag) (fun _=>rfl),Yu,Yv,Yw,Bool.and_self]
theorem Kq: ∀x,(B6 x).all V.fresh=true:=fun x=>by
 simp only[B6,Gc,List.all_nil,At (f:=Ah) (fun _=>rfl),Yu,Yv,Yw,Bool.and_self]
theorem Fi: ∀x,(Bg x).all V.fresh=true:=fun x=>by
 simp only[Bg,Gc,List.all_nil,At (f:=Ag) (fun _=>rfl),Yu,Yv,Yw,Bool.and_self]
theorem Kr: ∀x,(B7 x).all V.fresh=true:=fun x=>by
 simp only[B7,Gc,List.all_nil,At Fi,Yu,Yv,Yw,Bool.and_self]
theorem Ks: ∀x,(Dc x).all V.fresh=true:=fun x=>by
 simp only[Dc,Gc,List.all_nil,At (f:=B5) (fun _=>rfl),Yu,Yv,Yw,Bool.and_self]
theorem Pv: ∀x,(C7 x).all V.fresh=true:=fun x=>by
 simp only[C7,Gc,List.all_nil,At (f:=Be) (fun _=>rfl),Yu,Yv,Yw,Bool.and_self]
theorem Hj: ∀x,(Bt x).all V.fresh=true:=fun x=>by
 simp only[Bt,Gc,List.all_nil,At (f:=An) (fun _=>rfl),Yu,Yv,Yw,Bool.and_self]
theorem Sr: ∀x,(Dn x).all V.fresh=true:=fun x=>by
 simp only[Dn,Gc,List.all_nil,At (f:=B5) (fun _=>rfl),Yu,Yv,Yw,Bool.and_self]
theorem Lg: ∀x,(Ci x).all V.fresh=true:=fun x=>by
 simp only[Ci,Gc,List.all_nil,At (f:=B5) (fun _=>rfl),Yu,Yv,Yw,Bool.and_self]
theorem Ss: ∀x,(Do x).all V.fresh=true:=fun x=>by
 simp only[Do,Gc,List.all_nil,At Ks,Yu,Yv,Yw,Bool.and_self]
theorem Su: ∀x,(Dp x).all V.fresh=true:=fun x=>by
 simp only[Dp,Gc,List.all_nil,At (f:=Br) (fun _=>rfl),Yu,Yv,Yw,Bool.and_self]
theorem Ami (c x)(h:Ajr c=some x):c.map (SV.toV tyU)=Ag x:=by
  unfold Ajr at h;split at h
  ·cases h;rfl
  ·cases h
theorem Af5 (c x)(h:Vl c=some x):c.map (SV.toV tyU)=(Cf 2 true x).map (SV.toV tyU):=by
  unfold Vl at h;split at h
  ·cases h;rfl
  ·cases h
theorem Aoz:Gr tyU 2:=⟨Av,So,fun _=>rfl,fun _=>rfl,fun _ _=>rfl,Ami,fun _=>Af5,fun _=>rfl,fun _=>rfl,fun _ _=>rfl,fun _ _=>rfl,fun _=>rfl,A8 fun _=>rfl⟩
theorem Amj (c x)(h:Ajs c=some x):c.map (SV.toV tyU)=Ag x:=by
  unfold Ajs at h;split at h
  ·cases h;rfl
  ·cases h
theorem Af6 (c x)(h:Vm c=some x):c.map (SV.toV tyU)=(Cf 3 true x).map (SV.toV tyU):=by
  unfold Vm at h;split at h
  ·cases h;rfl
  ·cases h
theorem Ao0:Gr tyU 3:=⟨Av,So,fun _=>rfl,fun _=>rfl,fun _ _=>rfl,Amj,fun _=>Af6,fun _=>rfl,fun _=>rfl,fun _ _=>rfl,fun _ _=>rfl,fun _=>rfl,A8 fun _=>rfl⟩
theorem Amk (c x)(h:Ajt c=some x):c.map (SV.toV tyU)=Br x:=by
  unfold Ajt at h;split at h
  ·cases h;rfl
  ·cases h
theorem Af7 (c x)(h:Vn c=some x):c.map (SV.toV tyU)=(Cf 4 true x).map (SV.toV tyU):=by
  unfold Vn at h;split at h
  ·cases h;rfl
  ·cases h
theorem Ao1:Gr tyU 4:=⟨Ca,N8,fun _=>rfl,fun _=>rfl,fun _ _=>rfl,Amk,fun _=>Af7,fun _=>rfl,fun _=>rfl,fun _ _=>rfl,fun _ _=>rfl,fun _=>rfl,A8 fun _=>rfl⟩
theorem Aml (c x)(h:Aju c=some x):c.map (SV.toV tyU)=B5 x:=by
  unfold Aju at h;split at h
  ·cases h;rfl
  ·cases h
theorem Af8 (c x)(h:Vo c=some x):c.map (SV.toV tyU)=(Cf 5 true x).map (SV.toV tyU):=by
  unfold Vo at h;split at h
  ·cases h;rfl
  ·cases h
theorem Ao2:Gr tyU 5:=⟨Bi,Af3,fun _=>rfl,fun _=>rfl,fun _ _=>rfl,Aml,fun _=>Af8,fun _=>rfl,fun _=>rfl,fun _ _=>rfl,fun _ _=>rfl,fun _=>rfl,A8 fun _=>rfl⟩
theorem Amm (c x)(h:Ajv c=some x):c.map (SV.toV tyU)=D1 x:=by
  unfold Ajv at h;split at h
  ·cases h;rfl
  ·cases h
theorem Af9 (c x)(h:Vp c=some x):c.map (SV.toV tyU)=(Cf 9 true x).map (SV.toV tyU):=by
  unfold Vp at h;split at h
  ·cases h;rfl
  ·cases h
theorem Ao3:Gr tyU 9:=⟨Ea,Sq,fun _=>rfl,fun _=>rfl,fun _ _=>rfl,Amm,fun _=>Af9,fun _=>rfl,fun _=>rfl,fun _ _=>rfl,fun _ _=>rfl,fun _=>rfl,A8 fun _=>rfl⟩
theorem Ajz (c x)(h:Ac0 c=some x):c.map (SV.toV tyU)=Gt x:=by
  unfold Ac0 at h;split at h
  ·cases h;rfl
  ·cases h
theorem Adh (c x)(h:N9 c=some x):c.map (SV.toV tyU)=(Cf 22 true x).map (SV.toV tyU):=by
  unfold N9 at h;split at h
  ·cases h;rfl
  ·cases h
theorem Amn:Gr tyU 22:=⟨Acy,Acz,fun _=>rfl,fun _=>rfl,fun _ _=>rfl,Ajz,fun _=>Adh,(fun h=>by cases h),fun _=>rfl,fun _ _=>rfl,fun x _=>Ajy x,fun _=>rfl,A8 fun _=>rfl⟩
theorem Aj0 (c x)(h:Ac1 c=some x):c.map (SV.toV tyU)=Cb x:=by
  unfold Ac1 at h;split at h
  ·cases h;rfl
  ·cases h
theorem Adi (c x)(h:Pa c=some x):c.map (SV.toV tyU)=(Cf 25 true x).map (SV.toV tyU):=by
  unfold Pa at h;split at h
  ·cases h;rfl
  ·cases h
theorem Amo:Gr tyU 25:=⟨C5,Ke,fun _=>rfl,fun _=>rfl,fun _ _=>rfl,Aj0,fun _=>Adi,fun _=>rfl,fun _=>rfl,fun _ _=>rfl,fun _ _=>rfl,fun _=>rfl,A8 fun _=>rfl⟩
theorem Aj1 (c x)(h:Ac2 c=some x):c.map (SV.toV tyU)=E8 x:=by
  unfold Ac2 at h;split at h
  ·cases h;rfl
  ·cases h
theorem Adj (c x)(h:Pb c=some x):c.map (SV.toV tyU)=(Cf 26 true x).map (SV.toV tyU):=by
  unfold Pb at h;split at h
  ·cases h;rfl
  ·cases h
theorem Amp:Gr tyU 26:=⟨Yx,Yy,fun _=>rfl,fun _=>rfl,fun _ _=>rfl,Aj1,fun _=>Adj,(fun h=>by cases h),fun _=>rfl,fun _ _=>rfl,fun x _=>Af4 x,fun _=>rfl,A8 fun _=>rfl⟩
theorem Aj2 (c x)(h:Ac3 c=some x):c.map (SV.toV tyU)=Cc x:=by
  unfold Ac3 at h;split at h
  ·cases h;rfl
  ·cases h
theorem Adk (c x)(h:Pc c=some x):c.map (SV.toV tyU)=(Cf 28 true x).map (SV.toV tyU):=by
  unfold Pc at h;split at h
  ·cases h;rfl
  ·cases h
theorem Amq:Gr tyU 28:=⟨Kf,Kg,fun _=>rfl,fun _=>rfl,fun _ _=>rfl,Aj2,fun _=>Adk,(fun h=>by cases h),fun _=>rfl,fun _ _=>rfl,fun x _=>Pu x,fun _=>rfl,A8 fun _=>rfl⟩
theorem Aga (c x)(h:Vh c=some x):c.map (SV.toV tyU)=Ah x:=by
  unfold Vh at h;split at h
  ·cases h;rfl
  ·cases h
theorem Yz (c x)(h:Kj c=some x):c.map (SV.toV tyU)=(Cf 132 true x).map (SV.toV tyU):=by
  unfold Kj at h;split at h
  ·cases h;rfl
  ·cases h
theorem Aj3:Gr tyU 132:=⟨Aq,Hc,fun _=>rfl,fun _=>rfl,fun _ _=>rfl,Aga,fun _=>Yz,fun _=>rfl,fun _=>rfl,fun _ _=>rfl,fun _ _=>rfl,fun _=>rfl,A8 fun _=>rfl⟩
theorem Aj4 (c x)(h:Ac4 c=some x):c.map (SV.toV tyU)=Bl x:=by
  unfold Ac4 at h;split at h
  ·cases h;rfl
  ·cases h
theorem Adl (c x)(h:Pd c=some x):c.map (SV.toV tyU)=(Cf 48 true x).map (SV.toV tyU):=by
  unfold Pd at h;split at h
  ·cases h;rfl
  ·cases h
theorem Amr:Gr tyU 48:=⟨Gu,Gv,fun _=>rfl,fun _=>rfl,fun _ _=>rfl,Aj4,fun _=>Adl,(fun h=>by cases h),fun _=>rfl,fun _ _=>rfl,fun x _=>Kq x,fun _=>rfl,A8 fun _=>rfl⟩
theorem Aj5 (c x)(h:Ac5 c=some x):c.map (SV.toV tyU)=Bd x:=by
  unfold Ac5 at h;split at h
  ·cases h;rfl
  ·cases h
theorem Adm (c x)(h:Pe c=some x):c.map (SV.toV tyU)=(Cf 50 true x).map (SV.toV tyU):=by
  unfold Pe at h;split at h
  ·cases h;rfl
  ·cases h
theorem Adn (c x)(h:Pf c=some x):c.map (SV.toV tyU)=(Cf 50 false x).map (SV.toV tyU):=by
  unfold Pf at h;split at h
  ·cases h;rfl
  ·cases h
theorem Aj6 (x:As)(j:Nat)(v:V)(hj:(Cd x)[j]? =some v)(e:W4 50 j=true):v.share=v:=by
 rcases Bool.or_eq_true_iff.1 e with h|h
 ·rw[show j=8 from Z2 h]at hj;cases hj;show V.row false _ (shareLL _)=_;rw[Av.shareLL]
 ·rw[show j=1000 from Z2 h]at hj;cases hj
theorem Ams:Gr tyU 50:=⟨D7,D8,fun _=>rfl,fun _=>rfl,(fun m _=>by cases m<;>rfl),Aj5,fun m=>match m with|true=>Adm|false=>Adn,(fun h=>by cases h),fun _=>rfl,(fun m _=>by cases m<;>rfl),(fun _ h=>by cases h),fun _=>rfl,Aj6⟩
theorem Aj7 (c x)(h:Ac6 c=some x):c.map (SV.toV tyU)=Bu x:=by
  unfold Ac6 at h;split at h
  ·cases h;rfl
  ·cases h
theorem Ado (c x)(h:Pg c=some x):c.map (SV.toV tyU)=(Cf 29 true x).map (SV.toV tyU):=by
  unfold Pg at h;split at h
  ·cases h;rfl
  ·cases h
theorem Adp (c x)(h:Ph c=some x):c.map (SV.toV tyU)=(Cf 29 false x).map (SV.toV tyU):=by
  unfold Ph at h;split at h
  ·cases h;rfl
  ·cases h
theorem Aj8 (x:List As)(j:Nat)(v:V)(hj:(De x)[j]? =some v)(e:W4 29 j=true):v.share=v:=by
 rw[show j=1000 from Z2 e]at hj;cases hj
theorem Amt:Gr tyU 29:=⟨Hd,He,fun _=>rfl,fun _=>rfl,fun _ _=>rfl,Aj7,fun m=>match m with|true=>Ado|false=>Adp,(fun h=>by cases h),fun _=>rfl,fun _ _=>rfl,(fun _ h=>by cases h),fun _=>rfl,Aj8⟩
theorem Aj9 (c x)(h:Ac7 c=some x):c.map (SV.toV tyU)=A3 x:=by
  unfold Ac7 at h;split at h
  ·cases h;rfl
  ·cases h
theorem Adq (c x)(h:Pj c=some x):c.map (SV.toV tyU)=(Cf 52 true x).map (SV.toV tyU):=by
  unfold Pj at h;split at h
  ·cases h;rfl
  ·cases h
theorem Amu:Gr tyU 52:=⟨Ds,Dt,fun _=>rfl,fun _=>rfl,fun _ _=>rfl,Aj9,fun _=>Adq,(fun h=>by cases h),fun _=>rfl,fun _ _=>rfl,fun x _=>Fi x,fun _=>rfl,A8 fun _=>rfl⟩
theorem Aka (c x)(h:Ac8 c=some x):c.map (SV.toV tyU)=Bm x:=by
  unfold Ac8 at h;split at h
  ·cases h;rfl
  ·cases h
theorem Adr (c x)(h:Pk c=some x):c.map (SV.toV tyU)=(Cf 30 true x).map (SV.toV tyU):=by
  unfold Pk at h;split at h
  ·cases h;rfl
  ·cases h
theorem Ads (c x)(h:Pl c=some x):c.map (SV.toV tyU)=(Cf 30 false x).map (SV.toV tyU):=by
  unfold Pl at h;split at h
  ·cases h;rfl
  ·cases h
theorem Amv:Gr tyU 30:=⟨Gw,Gz,fun _=>rfl,fun _=>rfl,fun _ _=>rfl,Aka,fun m=>match m with|true=>Adr|false=>Ads,(fun h=>by cases h),fun _=>rfl,fun _ _=>rfl,fun x _=>Kr x,fun _=>rfl,A8 fun _=>rfl⟩
theorem Akb (c x)(h:Ac9 c=some x):c.map (SV.toV tyU)=Bv x:=by
  unfold Ac9 at h;split at h
  ·cases h;rfl
  ·cases h
theorem Adt (c x)(h:Pm c=some x):c.map (SV.toV tyU)=(Cf 32 true x).map (SV.toV tyU):=by
  unfold Pm at h;split at h
  ·cases h;rfl
  ·cases h
theorem Adu (c x)(h:Pn c=some x):c.map (SV.toV tyU)=(Cf 32 false x).map (SV.toV tyU):=by
  unfold Pn at h;split at h
  ·cases h;rfl
  ·cases h
theorem Akc (x:C4)(j:Nat)(v:V)(hj:(Df x)[j]? =some v)(e:W4 32 j=true):v.share=v:=by
 rw[show j=1000 from Z2 e]at hj;cases hj
theorem Amw:Gr tyU 32:=⟨Hf,Hg,fun _=>rfl,fun _=>rfl,(fun m _=>by cases m<;>rfl),Akb,fun m=>match m with|true=>Adt|false=>Adu,(fun h=>by cases h),fun _=>rfl,(fun m _=>by cases m<;>rfl),(fun _ h=>by cases h),fun _=>rfl,Akc⟩
theorem Akd (c x)(h:Ada c=some x):c.map (SV.toV tyU)=An x:=by
  unfold Ada at h;split at h
  ·cases h;rfl
  ·cases h
theorem Adv (c x)(h:Po c=some x):c.map (SV.toV tyU)=(Cf 36 true x).map (SV.toV tyU):=by
  unfold Po at h;split at h
  ·cases h;rfl
  ·cases h
theorem Amx:Gr tyU 36:=⟨A5,G3,fun _=>rfl,fun _=>rfl,fun _ _=>rfl,Akd,fun _=>Adv,fun _=>rfl,fun _=>rfl,fun _ _=>rfl,fun _ _=>rfl,fun _=>rfl,A8 fun _=>rfl⟩
theorem Ake (c x)(h:Adb c=some x):c.map (SV.toV tyU)=Be x:=by
  unfold Adb at h;split at h
  ·cases h;rfl
  ·cases h
theorem Adw (c x)(h:Pp c=some x):c.map (SV.toV tyU)=(Cf 38 true x).map (SV.toV tyU):=by
  unfold Pp at h;split at h
  ·cases h;rfl
  ·cases h
theorem Amy:Gr tyU 38:=⟨Bw,K8,fun _=>rfl,fun _=>rfl,fun _ _=>rfl,Ake,fun _=>Adw,fun _=>rfl,fun _=>rfl,fun _ _=>rfl,fun _ _=>rfl,fun _=>rfl,A8 fun _=>rfl⟩
theorem Akf (c x)(h:Adc c=some x):c.map (SV.toV tyU)=Cj x:=by
  unfold Adc at h;split at h
  ·cases h;rfl
  ·cases h
theorem Adx (c x)(h:Pq c=some x):c.map (SV.toV tyU)=(Cf 40 true x).map (SV.toV tyU):=by
  unfold Pq at h;split at h
  ·cases h;rfl
  ·cases h
theorem Amz:Gr tyU 40:=⟨F6,F7,fun _=>rfl,fun _=>rfl,fun _ _=>rfl,Akf,fun _=>Adx,(fun h=>by cases h),fun _=>rfl,fun _ _=>rfl,fun x _=>Ks x,fun _=>rfl,A8 fun _=>rfl⟩
theorem Akg (c x)(h:Ade c=some x):c.map (SV.toV tyU)=Ce x:=by
  unfold Ade at h;split at h
  ·cases h;rfl
  ·cases h
theorem Ady (c x)(h:Pr c=some x):c.map (SV.toV tyU)=(Cf 68 true x).map (SV.toV tyU):=by
  unfold Pr at h;split at h
  ·cases h;rfl
  ·cases h
theorem Am0:Gr tyU 68:=⟨Kh,Ki,fun _=>rfl,fun _=>rfl,fun _ _=>rfl,Akg,fun _=>Ady,(fun h=>by cases h),fun _=>rfl,fun _ _=>rfl,fun x _=>Pv x,fun _=>rfl,A8 fun _=>rfl⟩
theorem Akh (c x)(h:Adf c=some x):c.map (SV.toV tyU)=A9 x:=by
  unfold Adf at h;split at h
  ·cases h;rfl
  ·cases h
theorem Adz (c x)(h:Ps c=some x):c.map (SV.toV tyU)=(Cf 70 true x).map (SV.toV tyU):=by
  unfold Ps at h;split at h
  ·cases h;rfl
  ·cases h
theorem Am1:Gr tyU 70:=⟨F8,F9,fun _=>rfl,fun _=>rfl,fun _ _=>rfl,Akh,fun _=>Adz,(fun h=>by cases h),fun _=>rfl,fun _ _=>rfl,fun x _=>Hj x,fun _=>rfl,A8 fun _=>rfl⟩
theorem Aki (c x)(h:Adg c=some x):c.map (SV.toV tyU)=Co x:=by
  unfold Adg at h;split at h
  ·cases h;rfl
  ·cases h
theorem Ad0 (c x)(h:Pt c=some x):c.map (SV.toV tyU)=(Cf 73 true x).map (SV.toV tyU):=by
  unfold Pt at h;split at h
  ·cases h;rfl
  ·cases h
theorem Am2:Gr tyU 73:=⟨K9,La,fun _=>rfl,fun _=>rfl,fun _ _=>rfl,Aki,fun _=>Ad0,(fun h=>by cases h),fun _=>rfl,fun _ _=>rfl,fun x _=>Sr x,fun _=>rfl,A8 fun _=>rfl⟩
theorem Agb (c x)(h:Vi c=some x):c.map (SV.toV tyU)=Bx x:=by
  unfold Vi at h;split at h
  ·cases h;rfl
  ·cases h
theorem Y0 (c x)(h:Kk c=some x):c.map (SV.toV tyU)=(Cf 148 true x).map (SV.toV tyU):=by
  unfold Kk at h;split at h
  ·cases h;rfl
  ·cases h
theorem Y1 (c x)(h:Kl c=some x):c.map (SV.toV tyU)=(Cf 148 false x).map (SV.toV tyU):=by
  unfold Kl at h;split at h
  ·cases h;rfl
  ·cases h
theorem Akj:Gr tyU 148:=⟨Hh,Hi,fun _=>rfl,fun _=>rfl,(fun m _=>by cases m<;>rfl),Agb,fun m=>match m with|true=>Y0|false=>Y1,(fun h=>by cases h),fun _=>rfl,(fun m _=>by cases m<;>rfl),fun x _=>Lg x,fun _=>rfl,A8 fun _=>rfl⟩
theorem Agc (c x)(h:Vj c=some x):c.map (SV.toV tyU)=Cp x:=by
  unfold Vj at h;split at h
  ·cases h;rfl
  ·cases h
theorem Y2 (c x)(h:Km c=some x):c.map (SV.toV tyU)=(Cf 149 true x).map (SV.toV tyU):=by
  unfold Km at h;split at h
  ·cases h;rfl
  ·cases h
theorem Y3 (c x)(h:Kn c=some x):c.map (SV.toV tyU)=(Cf 149 false x).map (SV.toV tyU):=by
  unfold Kn at h;split at h
  ·cases h;rfl
  ·cases h
theorem Akk:Gr tyU 149:=⟨Lb,Lc,fun _=>rfl,fun _=>rfl,fun _ _=>rfl,Agc,fun m=>match m with|true=>Y2|false=>Y3,(fun h=>by cases h),fun _=>rfl,fun _ _=>rfl,fun x _=>Ss x,fun _=>rfl,A8 fun _=>rfl⟩
theorem Agd (c x)(h:Vk c=some x):c.map (SV.toV tyU)=Cq x:=by
  unfold Vk at h;split at h
  ·cases h;rfl
  ·cases h
theorem Y4 (c x)(h:Ko c=some x):c.map (SV.toV tyU)=(Cf 191 true x).map (SV.toV tyU):=by
  unfold Ko at h;split at h
  ·cases h;rfl
  ·cases h
theorem Akl:Gr tyU 191:=⟨Ld,Le,fun _=>rfl,fun _=>rfl,fun _ _=>rfl,Agd,fun _=>Y4,(fun h=>by cases h),fun _=>rfl,fun _ _=>rfl,fun x _=>Su x,fun _=>rfl,A8 fun _=>rfl⟩
theorem Age{t:Nat}(h2:t≠2)(h3:t≠3)(h4:t≠4)(h5:t≠5)(h9:t≠9)(h22:t≠22)(h25:t≠25)(h26:t≠26)(h28:t≠28)(h132:t≠132)(h48:t≠48)(h50:t≠50)(h29:t≠29)(h52:t≠52)(h30:t≠30)(h32:t≠32)(h36:t≠36)(h38:t≠38)(h40:t≠40)(h68:t≠68)(h70:t≠70)(h73:t≠73)(h148:t≠148)(h149:t≠149)(h191:t≠191):Ajm t=0:=by
 unfold Ajm;split<;>first|rfl|contradiction
theorem Agf{t:Nat}(h2:t≠2)(h3:t≠3)(h4:t≠4)(h5:t≠5)(h9:t≠9)(h22:t≠22)(h25:t≠25)(h26:t≠26)(h28:t≠28)(h132:t≠132)(h48:t≠48)(h50:t≠50)(h29:t≠29)(h52:t≠52)(h30:t≠30)(h32:t≠32)(h36:t≠36)(h38:t≠38)(h40:t≠40)(h68:t≠68)(h70:t≠70)(h73:t≠73)(h148:t≠148)(h149:t≠149)(h191:t≠191)(x):Ajo t x=[]:=by
 unfold Ajo;split<;>first|rfl|contradiction
theorem Agg{t:Nat}(h2:t≠2)(h3:t≠3)(h4:t≠4)(h5:t≠5)(h9:t≠9)(h22:t≠22)(h25:t≠25)(h26:t≠26)(h28:t≠28)(h132:t≠132)(h48:t≠48)(h50:t≠50)(h29:t≠29)(h52:t≠52)(h30:t≠30)(h32:t≠32)(h36:t≠36)(h38:t≠38)(h40:t≠40)(h68:t≠68)(h70:t≠70)(h73:t≠73)(h148:t≠148)(h149:t≠149)(h191:t≠191)(x):Ajp t x=[]:=by
 unfold Ajp;split<;>first|rfl|contradiction
theorem Agh{t:Nat}(h2:t≠2)(h3:t≠3)(h4:t≠4)(h5:t≠5)(h9:t≠9)(h22:t≠22)(h25:t≠25)(h26:t≠26)(h28:t≠28)(h132:t≠132)(h48:t≠48)(h50:t≠50)(h29:t≠29)(h52:t≠52)(h30:t≠30)(h32:t≠32)(h36:t≠36)(h38:t≠38)(h40:t≠40)(h68:t≠68)(h70:t≠70)(h73:t≠73)(h148:t≠148)(h149:t≠149)(h191:t≠191)(x):Ajq t x=[]:=by
 unfold Ajq;split<;>first|rfl|contradiction
theorem Agi{t:Nat}(h2:t≠2)(h3:t≠3)(h4:t≠4)(h5:t≠5)(h9:t≠9)(h22:t≠22)(h25:t≠25)(h26:t≠26)(h28:t≠28)(h132:t≠132)(h48:t≠48)(h50:t≠50)(h29:t≠29)(h52:t≠52)(h30:t≠30)(h32:t≠32)(h36:t≠36)(h38:t≠38)(h40:t≠40)(h68:t≠68)(h70:t≠70)(h73:t≠73)(h148:t≠148)(h149:t≠149)(h191:t≠191)(m)(x):Cf t m x=[]:=by
 unfold Cf;split<;>first|rfl|contradiction
theorem Agj{t:Nat}(h2:t≠2)(h3:t≠3)(h4:t≠4)(h5:t≠5)(h9:t≠9)(h22:t≠22)(h25:t≠25)(h26:t≠26)(h28:t≠28)(h132:t≠132)(h48:t≠48)(h50:t≠50)(h29:t≠29)(h52:t≠52)(h30:t≠30)(h32:t≠32)(h36:t≠36)(h38:t≠38)(h40:t≠40)(h68:t≠68)(h70:t≠70)(h73:t≠73)(h148:t≠148)(h149:t≠149)(h191:t≠191)(c):Ajw t c=none:=by
 unfold Ajw;split<;>first|rfl|contradiction
theorem Agk{t:Nat}(h2:t≠2)(h3:t≠3)(h4:t≠4)(h5:t≠5)(h9:t≠9)(h22:t≠22)(h25:t≠25)(h26:t≠26)(h28:t≠28)(h132:t≠132)(h48:t≠48)(h50:t≠50)(h29:t≠29)(h52:t≠52)(h30:t≠30)(h32:t≠32)(h36:t≠36)(h38:t≠38)(h40:t≠40)(h68:t≠68)(h70:t≠70)(h73:t≠73)(h148:t≠148)(h149:t≠149)(h191:t≠191)(m)(c):Ajx t m c=none:=by
 unfold Ajx;split<;>first|rfl|contradiction
theorem df{t:Nat}(h2:t≠2)(h3:t≠3)(h4:t≠4)(h5:t≠5)(h9:t≠9)(h22:t≠22)(h25:t≠25)(h26:t≠26)(h28:t≠28)(h132:t≠132)(h48:t≠48)(h50:t≠50)(h29:t≠29)(h52:t≠52)(h30:t≠30)(h32:t≠32)(h36:t≠36)(h38:t≠38)(h40:t≠40)(h68:t≠68)(h70:t≠70)(h73:t≠73)(h148:t≠148)(h149:t≠149)(h191:t≠191):Dft tyU t:=⟨Age h2 h3 h4 h5 h9 h22 h25 h26 h28 h132 h48 h50 h29 h52 h30 h32 h36 h38 h40 h68 h70 h73 h148 h149 h191,Agf h2 h3 h4 h5 h9 h22 h25 h26 h28 h132 h48 h50 h29 h52 h30 h32 h36 h38 h40 h68 h70 h73 h148 h149 h191,Agg h2 h3 h4 h5 h9 h22 h25 h26 h28 h132 h48 h50 h29 h52 h30 h32 h36 h38 h40 h68 h70 h73 h148 h149 h191,Agh h2 h3 h4 h5 h9 h22 h25 h26 h28 h132 h48 h50 h29 h52 h30 h32 h36 h38 h40 h68 h70 h73 h148 h149 h191,Agi h2 h3 h4 h5 h9 h22 h25 h26 h28 h132 h48 h50 h29 h52 h30 h32 h36 h38 h40 h68 h70 h73 h148 h149 h191,Agj h2 h3 h4 h5 h9 h22 h25 h26 h28 h132 h48 h50 h29 h52 h30 h32 h36 h38 h40 h68 h70 h73 h148 h149 h191,Agk h2 h3 h4 h5 h9 h22 h25 h26 h28 h132 h48 h50 h29 h52 h30 h32 h36 h38 h40 h68 h70 h73 h148 h149 h191⟩
theorem Aql:Ab tyU:=Ab.of fun t=>if h2:t=2 then by subst h2;exact Aoz else if h3:t=3 then by subst h3;exact Ao0 else if h4:t=4 then by subst h4;exact Ao1 else if h5:t=5 then by subst h5;exact Ao2 else if h9:t=9 then by subst h9;exact Ao3 else if h22:t=22 then by subst h22;exact Amn else if h25:t=25 then by subst h25;exact Amo else if h26:t=26 then by subst h26;exact Amp else if h28:t=28 then by subst h28;exact Amq else if h132:t=132 then by subst h132;exact Aj3 else if h48:t=48 then by subst h48;exact Amr else if h50:t=50 then by subst h50;exact Ams else if h29:t=29 then by subst h29;exact Amt else if h52:t=52 then by subst h52;exact Amu else if h30:t=30 then by subst h30;exact Amv else if h32:t=32 then by subst h32;exact Amw else if h36:t=36 then by subst h36;exact Amx else if h38:t=38 then by subst h38;exact Amy else if h40:t=40 then by subst h40;exact Amz else if h68:t=68 then by subst h68;exact Am0 else if h70:t=70 then by subst h70;exact Am1 else if h73:t=73 then by subst h73;exact Am2 else if h148:t=148 then by subst h148;exact Akj else if h149:t=149 then by subst h149;exact Akk else if h191:t=191 then by subst h191;exact Akl else(df h2 h3 h4 h5 h9 h22 h25 h26 h28 h132 h48 h50 h29 h52 h30 h32 h36 h38 h40 h68 h70 h73 h148 h149 h191).un1
def eqs:List Nat:=[25,132,36,38]
theorem Apl:Aa6 Tryz.prog tab (eqT eqs):=Af1 (by kernel_rfl)
end Go.Proofs.YtcdojenmonmcfaaGreat
