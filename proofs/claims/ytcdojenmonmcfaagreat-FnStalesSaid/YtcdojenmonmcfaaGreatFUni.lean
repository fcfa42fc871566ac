/- The types of the seat; no condition. Printed by uni.py. -/
import Derived.Test.YtcdojenmonmcfaaGreatEc
import Derived.Test.YtcdojenmonmcfaaGreatFTab
set_option linter.all false
namespace Go.Proofs.YtcdojenmonmcfaaGreat
open Go.Eng
structure Ea where
 Ay:Int
 G8:Int
 E6:Int
 Gu:Int
 E7:Int
 G9:Int
 deriving Inhabited
structure Dn where
 N7:List Int
 Vi:List Int
 N8:List Int
 deriving Inhabited
structure Bc where
 fAt:Int
 Ajm:Int
 Ajn:Int
 deriving Inhabited
structure As where
 Vi:Int
 C9:Int
 Sl:Int
 fUp:Int
 Sm:Int
 Ef:Int
 Sn:Int
 So:Int
 Ay:List Int
 Acx:Int
 Sq:Int
 F6:List Bc
 Fi:List Int
 deriving Inhabited
structure Az where
 Bm:Int
 Ef:Int
 Fi:List Int
 Ay:List Int
 Wz:Int
 deriving Inhabited
structure C5 where
 fC:Ea
 fP:Dn
 fL:List As
 fQ:List Az
 Acy:List Int
 deriving Inhabited
structure An where
 Bm:Int
 C9:Int
 deriving Inhabited
structure Br where
 fH:An
 Sl:Int
 fNo:Int
 deriving Inhabited
structure Co where
 W3:Int
 fH:An
 fR:Br
 fN:Int
 fM:Int
 fB:List Int
 deriving Inhabited
structure Et where
 W4:Int
 fH:An
 fR:Br
 fB:List Int
 W5:Int
 Gu:Int
 N9:Int
 deriving Inhabited
structure D1 where
 fb:List Int
 fi:Int
 fh:Int
 deriving Inhabited
def Ag (x:Int):List V:=[.int .i64 x]
theorem Av:En Ag 1:=⟨fun _=>rfl,fun _=>rfl,fun _=>rfl,fun x=>rfl⟩
theorem Sr:Ff Ag Ag 1:=⟨Av.len,Av.closed,Av.share⟩
def Bt (x:Bool):List V:=[.bool x]
theorem Cb:En Bt 1:=⟨fun _=>rfl,fun _=>rfl,fun _=>rfl,fun x=>rfl⟩
theorem Pa:Ff Bt Bt 1:=⟨Cb.len,Cb.closed,Cb.share⟩
def B7 (x:Int):List V:=[.int .u8 x]
theorem Bk:En B7 1:=⟨fun _=>rfl,fun _=>rfl,fun _=>rfl,fun x=>rfl⟩
theorem Af5:Ff B7 B7 1:=⟨Bk.len,Bk.closed,Bk.share⟩
def D2 (x:ByteArray):List V:=[.str x]
theorem Eb:En D2 1:=⟨fun _=>rfl,fun _=>rfl,fun _=>rfl,fun x=>rfl⟩
theorem Ss:Ff D2 D2 1:=⟨Eb.len,Eb.closed,Eb.share⟩
def Gv (x:List Int):List V:=[.row false 1 (x.map B7)]
theorem Ac0:En Gv 1:=⟨fun _=>rfl,fun _=>rfl,fun _=>rfl,fun x=>by simp only[Gv,Ad,V.share,Bk.shareLL]⟩
def Kf (x:List Int):List V:=[.row true 1 (x.map B7)]
theorem Ac1:Ff Kf Gv 1:=⟨fun _=>rfl,fun _=>rfl,fun x=>by simp only[Kf,Gv,Ad,V.share,Bk.shareLL]⟩
def Cc (x:Ea):List V:=[.int .i64 x.Ay,.int .i64 x.G8,.int .i64 x.E6,.int .i64 x.Gu,.int .i64 x.E7,.int .i64 x.G9]
theorem C6:En Cc 6:=⟨fun _=>rfl,fun _=>rfl,fun _=>rfl,fun x=>rfl⟩
theorem Kg:Ff Cc Cc 6:=⟨C6.len,C6.closed,C6.share⟩
def E9 (x:List Int):List V:=[.row false 1 (x.map Ag)]
theorem Y0:En E9 1:=⟨fun _=>rfl,fun _=>rfl,fun _=>rfl,fun x=>by simp only[E9,Ad,V.share,Av.shareLL]⟩
def F7 (x:List Int):List V:=[.row true 1 (x.map Ag)]
theorem Y1:Ff F7 E9 1:=⟨fun _=>rfl,fun _=>rfl,fun x=>by simp only[F7,E9,Ad,V.share,Av.shareLL]⟩
def Cd (x:Dn):List V:=[.row false 1 (x.N7.map B7),.row false 1 (x.Vi.map Ag),.row false 1 (x.N8.map Ag)]
theorem Kh:En Cd 3:=⟨fun _=>rfl,fun _=>rfl,fun _=>rfl,fun x=>by simp only[Cd,Ad,V.share,Bk.shareLL,Av.shareLL]⟩
def C7 (x:Dn):List V:=[.row true 1 (x.N7.map B7),.row true 1 (x.Vi.map Ag),.row true 1 (x.N8.map Ag)]
theorem Ki:Ff C7 Cd 3:=⟨fun _=>rfl,fun _=>rfl,fun x=>by simp only[C7,Cd,Ad,V.share,Bk.shareLL,Av.shareLL]⟩
def Ah (x:Bc):List V:=[.int .i64 x.fAt,.int .i64 x.Ajm,.int .i64 x.Ajn]
theorem Aq:En Ah 3:=⟨fun _=>rfl,fun _=>rfl,fun _=>rfl,fun x=>rfl⟩
theorem He:Ff Ah Ah 3:=⟨Aq.len,Aq.closed,Aq.share⟩
def Bn (x:List Bc):List V:=[.row false 3 (x.map Ah)]
theorem Gw:En Bn 1:=⟨fun _=>rfl,fun _=>rfl,fun _=>rfl,fun x=>by simp only[Bn,Ad,V.share,Aq.shareLL]⟩
def B8 (x:List Bc):List V:=[.row true 3 (x.map Ah)]
theorem Gz:Ff B8 Bn 1:=⟨fun _=>rfl,fun _=>rfl,fun x=>by simp only[B8,Bn,Ad,V.share,Aq.shareLL]⟩
def Be (x:As):List V:=[.int .i64 x.Vi,.int .i64 x.C9,.int .i64 x.Sl,.int .i64 x.fUp,.int .i64 x.Sm,.int .i64 x.Ef,.int .i64 x.Sn,.int .i64 x.So,.row false 1 (x.Ay.map Ag),.int .i64 x.Acx,.int .i64 x.Sq,.row false 3 (x.F6.map Ah),.row false 1 (x.Fi.map Ag)]
theorem D8:En Be 13:=⟨fun _=>rfl,fun _=>rfl,fun _=>rfl,fun x=>by simp only[Be,Ad,V.share,Av.shareLL,Aq.shareLL]⟩
def Ce (x:As):List V:=[.int .i64 x.Vi,.int .i64 x.C9,.int .i64 x.Sl,.int .i64 x.fUp,.int .i64 x.Sm,.int .i64 x.Ef,.int .i64 x.Sn,.int .i64 x.So,.row false 1 (x.Ay.map Ag),.int .i64 x.Acx,.int .i64 x.Sq,.row true 3 (x.F6.map Ah),.row true 1 (x.Fi.map Ag)]
theorem D9:Ff Ce Be 13:=⟨fun _=>rfl,fun _=>rfl,fun x=>by simp only[Ce,Be,Ad,V.share,Av.shareLL,Aq.shareLL]⟩
def Bv (x:List As):List V:=[.row false 13 (x.map Be)]
theorem Hf:En Bv 1:=⟨fun _=>rfl,fun _=>rfl,fun _=>rfl,fun x=>by simp only[Bv,Ad,V.share,D8.shareLL]⟩
def Df (x:List As):List V:=[.row true 13 (x.map Ce)]
theorem Hg:Ff Df Bv 1:=⟨fun _=>rfl,fun _=>rfl,fun x=>by simp only[Df,Bv,Ad,V.share,D9.shareLL]⟩
def A3 (x:Az):List V:=[.int .i64 x.Bm,.int .i64 x.Ef,.row false 1 (x.Fi.map Ag),.row false 1 (x.Ay.map Ag),.int .i64 x.Wz]
theorem Dt:En A3 5:=⟨fun _=>rfl,fun _=>rfl,fun _=>rfl,fun x=>by simp only[A3,Ad,V.share,Av.shareLL]⟩
def Bh (x:Az):List V:=[.int .i64 x.Bm,.int .i64 x.Ef,.row true 1 (x.Fi.map Ag),.row true 1 (x.Ay.map Ag),.int .i64 x.Wz]
theorem Du:Ff Bh A3 5:=⟨fun _=>rfl,fun _=>rfl,fun x=>by simp only[Bh,A3,Ad,V.share,Av.shareLL]⟩
def Bo (x:List Az):List V:=[.row false 5 (x.map A3)]
theorem G3:En Bo 1:=⟨fun _=>rfl,fun _=>rfl,fun _=>rfl,fun x=>by simp only[Bo,Ad,V.share,Dt.shareLL]⟩
def B9 (x:List Az):List V:=[.row true 5 (x.map Bh)]
theorem G4:Ff B9 Bo 1:=⟨fun _=>rfl,fun _=>rfl,fun x=>by simp only[B9,Bo,Ad,V.share,Du.shareLL]⟩
def Bw (x:C5):List V:=[.int .i64 x.fC.Ay,.int .i64 x.fC.G8,.int .i64 x.fC.E6,.int .i64 x.fC.Gu,.int .i64 x.fC.E7,.int .i64 x.fC.G9,.row false 1 (x.fP.N7.map B7),.row false 1 (x.fP.Vi.map Ag),.row false 1 (x.fP.N8.map Ag),.row false 13 (x.fL.map Be),.row false 5 (x.fQ.map A3),.row false 1 (x.Acy.map Ag)]
theorem Hh:En Bw 12:=⟨fun _=>rfl,fun _=>rfl,fun _=>rfl,fun x=>by simp only[Bw,Ad,V.share,Bk.shareLL,Av.shareLL,D8.shareLL,Dt.shareLL]⟩
def Dg (x:C5):List V:=[.int .i64 x.fC.Ay,.int .i64 x.fC.G8,.int .i64 x.fC.E6,.int .i64 x.fC.Gu,.int .i64 x.fC.E7,.int .i64 x.fC.G9,.row true 1 (x.fP.N7.map B7),.row true 1 (x.fP.Vi.map Ag),.row true 1 (x.fP.N8.map Ag),.row true 13 (x.fL.map Ce),.row true 5 (x.fQ.map Bh),.row true 1 (x.Acy.map Ag)]
theorem Hi:Ff Dg Bw 12:=⟨fun _=>rfl,fun _=>rfl,fun x=>by simp only[Dg,Bw,Ad,V.share,Bk.shareLL,Av.shareLL,D9.shareLL,Du.shareLL]⟩
def Ao (x:An):List V:=[.int .i64 x.Bm,.int .i64 x.C9]
theorem A5:En Ao 2:=⟨fun _=>rfl,fun _=>rfl,fun _=>rfl,fun x=>rfl⟩
theorem G5:Ff Ao Ao 2:=⟨A5.len,A5.closed,A5.share⟩
def Bf (x:Br):List V:=[.int .i64 x.fH.Bm,.int .i64 x.fH.C9,.int .i64 x.Sl,.int .i64 x.fNo]
theorem Bx:En Bf 4:=⟨fun _=>rfl,fun _=>rfl,fun _=>rfl,fun x=>rfl⟩
theorem La:Ff Bf Bf 4:=⟨Bx.len,Bx.closed,Bx.share⟩
def Cl (x:Co):List V:=[.int .i64 x.W3,.int .i64 x.fH.Bm,.int .i64 x.fH.C9,.int .i64 x.fR.fH.Bm,.int .i64 x.fR.fH.C9,.int .i64 x.fR.Sl,.int .i64 x.fR.fNo,.int .i64 x.fN,.int .i64 x.fM,.row false 1 (x.fB.map B7)]
theorem F8:En Cl 10:=⟨fun _=>rfl,fun _=>rfl,fun _=>rfl,fun x=>by simp only[Cl,Ad,V.share,Bk.shareLL]⟩
def De (x:Co):List V:=[.int .i64 x.W3,.int .i64 x.fH.Bm,.int .i64 x.fH.C9,.int .i64 x.fR.fH.Bm,.int .i64 x.fR.fH.C9,.int .i64 x.fR.Sl,.int .i64 x.fR.fNo,.int .i64 x.fN,.int .i64 x.fM,.row true 1 (x.fB.map B7)]
theorem F9:Ff De Cl 10:=⟨fun _=>rfl,fun _=>rfl,fun x=>by simp only[De,Cl,Ad,V.share,Bk.shareLL]⟩
def Cf (x:List Br):List V:=[.row false 4 (x.map Bf)]
theorem Kj:En Cf 1:=⟨fun _=>rfl,fun _=>rfl,fun _=>rfl,fun x=>by simp only[Cf,Ad,V.share,Bx.shareLL]⟩
def C8 (x:List Br):List V:=[.row true 4 (x.map Bf)]
theorem Kk:Ff C8 Cf 1:=⟨fun _=>rfl,fun _=>rfl,fun x=>by simp only[C8,Cf,Ad,V.share,Bx.shareLL]⟩
def A9 (x:List An):List V:=[.row false 2 (x.map Ao)]
theorem Ga:En A9 1:=⟨fun _=>rfl,fun _=>rfl,fun _=>rfl,fun x=>by simp only[A9,Ad,V.share,A5.shareLL]⟩
def Bu (x:List An):List V:=[.row true 2 (x.map Ao)]
theorem Gb:Ff Bu A9 1:=⟨fun _=>rfl,fun _=>rfl,fun x=>by simp only[Bu,A9,Ad,V.share,A5.shareLL]⟩
def Cp (x:Et):List V:=[.int .i64 x.W4,.int .i64 x.fH.Bm,.int .i64 x.fH.C9,.int .i64 x.fR.fH.Bm,.int .i64 x.fR.fH.C9,.int .i64 x.fR.Sl,.int .i64 x.fR.fNo,.row false 1 (x.fB.map B7),.int .i64 x.W5,.int .i64 x.Gu,.int .i64 x.N9]
theorem Lb:En Cp 11:=⟨fun _=>rfl,fun _=>rfl,fun _=>rfl,fun x=>by simp only[Cp,Ad,V.share,Bk.shareLL]⟩
def Do (x:Et):List V:=[.int .i64 x.W4,.int .i64 x.fH.Bm,.int .i64 x.fH.C9,.int .i64 x.fR.fH.Bm,.int .i64 x.fR.fH.C9,.int .i64 x.fR.Sl,.int .i64 x.fR.fNo,.row true 1 (x.fB.map B7),.int .i64 x.W5,.int .i64 x.Gu,.int .i64 x.N9]
theorem Lc:Ff Do Cp 11:=⟨fun _=>rfl,fun _=>rfl,fun x=>by simp only[Do,Cp,Ad,V.share,Bk.shareLL]⟩
def By (x:D1):List V:=[.row false 1 (x.fb.map B7),.int .i64 x.fi,.int .i64 x.fh]
theorem Hj:En By 3:=⟨fun _=>rfl,fun _=>rfl,fun _=>rfl,fun x=>by simp only[By,Ad,V.share,Bk.shareLL]⟩
def Cj (x:D1):List V:=[.row true 1 (x.fb.map B7),.int .i64 x.fi,.int .i64 x.fh]
theorem Hk:Ff Cj By 3:=⟨fun _=>rfl,fun _=>rfl,fun x=>by simp only[Cj,By,Ad,V.share,Bk.shareLL]⟩
def Cq (x:List Co):List V:=[.row false 10 (x.map Cl)]
theorem Ld:En Cq 1:=⟨fun _=>rfl,fun _=>rfl,fun _=>rfl,fun x=>by simp only[Cq,Ad,V.share,F8.shareLL]⟩
def Dp (x:List Co):List V:=[.row true 10 (x.map De)]
theorem Le:Ff Dp Cq 1:=⟨fun _=>rfl,fun _=>rfl,fun x=>by simp only[Dp,Cq,Ad,V.share,F9.shareLL]⟩
def Cr (x:List Bool):List V:=[.row false 1 (x.map Bt)]
theorem Lg:En Cr 1:=⟨fun _=>rfl,fun _=>rfl,fun _=>rfl,fun x=>by simp only[Cr,Ad,V.share,Cb.shareLL]⟩
def Dq (x:List Bool):List V:=[.row true 1 (x.map Bt)]
theorem Lh:Ff Dq Cr 1:=⟨fun _=>rfl,fun _=>rfl,fun x=>by simp only[Dq,Cr,Ad,V.share,Cb.shareLL]⟩
def Aj:Nat->Type
 |2=>Int
 |3=>Int
 |4=>Bool
 |5=>Int
 |9=>ByteArray
 |22=>List Int
 |25=>Ea
 |26=>List Int
 |28=>Dn
 |132=>Bc
 |48=>List Bc
 |50=>As
 |29=>List As
 |52=>Az
 |30=>List Az
 |32=>C5
 |36=>An
 |38=>Br
 |40=>Co
 |68=>List Br
 |70=>List An
 |73=>Et
 |148=>D1
 |149=>List Co
 |191=>List Bool
 |_=>Unit
abbrev Amk:(t:Nat)->Inhabited (Aj t)
 |2=>(inferInstance:Inhabited Int)
 |3=>(inferInstance:Inhabited Int)
 |4=>(inferInstance:Inhabited Bool)
 |5=>(inferInstance:Inhabited Int)
 |9=>(inferInstance:Inhabited ByteArray)
 |22=>(inferInstance:Inhabited (List Int))
 |25=>(inferInstance:Inhabited Ea)
 |26=>(inferInstance:Inhabited (List Int))
 |28=>(inferInstance:Inhabited Dn)
 |132=>(inferInstance:Inhabited Bc)
 |48=>(inferInstance:Inhabited (List Bc))
 |50=>(inferInstance:Inhabited As)
 |29=>(inferInstance:Inhabited (List As))
 |52=>(inferInstance:Inhabited Az)
 |30=>(inferInstance:Inhabited (List Az))
 |32=>(inferInstance:Inhabited C5)
 |36=>(inferInstance:Inhabited An)
 |38=>(inferInstance:Inhabited Br)
 |40=>(inferInstance:Inhabited Co)
 |68=>(inferInstance:Inhabited (List Br))
 |70=>(inferInstance:Inhabited (List An))
 |73=>(inferInstance:Inhabited Et)
 |148=>(inferInstance:Inhabited D1)
 |149=>(inferInstance:Inhabited (List Co))
 |191=>(inferInstance:Inhabited (List Bool))
 |_=>(by unfold Aj;split<;>infer_instance)
def Ajo:Nat->Nat
 |2=>1
 |3=>1
 |4=>1
 |5=>1
 |9=>1
 |22=>1
 |25=>6
 |26=>1
 |28=>3
 |132=>3
 |48=>1
 |50=>13
 |29=>1
 |52=>5
 |30=>1
 |32=>12
 |36=>2
 |38=>4
 |40=>10
 |68=>1
 |70=>1
 |73=>11
 |148=>3
 |149=>1
 |191=>1
 |_=>0
def Ajp:Nat->Bool
 |2=>true
 |3=>true
 |4=>true
 |5=>true
 |9=>true
 |22=>false
 |25=>true
 |26=>false
 |28=>false
 |132=>true
 |48=>false
 |50=>false
 |29=>false
 |52=>false
 |30=>false
 |32=>false
 |36=>true
 |38=>true
 |40=>false
 |68=>false
 |70=>false
 |73=>false
 |148=>false
 |149=>false
 |191=>false
 |_=>true
def Ao1:Nat->Bool
 |2=>false
 |3=>false
 |4=>false
 |5=>false
 |9=>false
 |22=>false
 |25=>true
 |26=>false
 |28=>true
 |132=>true
 |48=>false
 |50=>true
 |29=>false
 |52=>true
 |30=>false
 |32=>true
 |36=>true
 |38=>true
 |40=>true
 |68=>false
 |70=>false
 |73=>true
 |148=>true
 |149=>false
 |191=>false
 |_=>false
def Ajq:(t:Nat)->Aj t->List V
 |2,x=>Ag x
 |3,x=>Ag x
 |4,x=>Bt x
 |5,x=>B7 x
 |9,x=>D2 x
 |22,x=>Gv x
 |25,x=>Cc x
 |26,x=>E9 x
 |28,x=>Cd x
 |132,x=>Ah x
 |48,x=>Bn x
 |50,x=>Be x
 |29,x=>Bv x
 |52,x=>A3 x
 |30,x=>Bo x
 |32,x=>Bw x
 |36,x=>Ao x
 |38,x=>Bf x
 |40,x=>Cl x
 |68,x=>Cf x
 |70,x=>A9 x
 |73,x=>Cp x
 |148,x=>By x
 |149,x=>Cq x
 |191,x=>Cr x
 |_,_=>[]
def Ajr:(t:Nat)->Aj t->List V
 |2,x=>Ag x
 |3,x=>Ag x
 |4,x=>Bt x
 |5,x=>B7 x
 |9,x=>D2 x
 |22,x=>Kf x
 |25,x=>Cc x
 |26,x=>F7 x
 |28,x=>C7 x
 |132,x=>Ah x
 |48,x=>B8 x
 |50,x=>Ce x
 |29,x=>Df x
 |52,x=>Bh x
 |30,x=>B9 x
 |32,x=>Dg x
 |36,x=>Ao x
 |38,x=>Bf x
 |40,x=>De x
 |68,x=>C8 x
 |70,x=>Bu x
 |73,x=>Do x
 |148,x=>Cj x
 |149,x=>Dp x
 |191,x=>Dq x
 |_,_=>[]
def Ajs:(t:Nat)->Aj t->List (SV Aj)
 |2,x=>[.int .i64 x 0]
 |3,x=>[.int .i64 x 0]
 |4,x=>[.bool x]
 |5,x=>[.int .u8 x 0]
 |9,x=>[.str x]
 |22,x=>[.row 5 x]
 |25,x=>[.int .i64 x.Ay 0,.int .i64 x.G8 0,.int .i64 x.E6 0,.int .i64 x.Gu 0,.int .i64 x.E7 0,.int .i64 x.G9 0]
 |26,x=>[.row 3 x]
 |28,x=>[.row 5 x.N7,.row 3 x.Vi,.row 3 x.N8]
 |132,x=>[.int .i64 x.fAt 0,.int .i64 x.Ajm 0,.int .i64 x.Ajn 0]
 |48,x=>[.row 132 x]
 |50,x=>[.int .i64 x.Vi 0,.int .i64 x.C9 0,.int .i64 x.Sl 0,.int .i64 x.fUp 0,.int .i64 x.Sm 0,.int .i64 x.Ef 0,.int .i64 x.Sn 0,.int .i64 x.So 0,.row 3 x.Ay,.int .i64 x.Acx 0,.int .i64 x.Sq 0,.row 132 x.F6,.row 3 x.Fi]
 |29,x=>[.row 50 x]
 |52,x=>[.int .i64 x.Bm 0,.int .i64 x.Ef 0,.row 3 x.Fi,.row 3 x.Ay,.int .i64 x.Wz 0]
 |30,x=>[.row 52 x]
 |32,x=>[.int .i64 x.fC.Ay 0,.int .i64 x.fC.G8 0,.int .i64 x.fC.E6 0,.int .i64 x.fC.Gu 0,.int .i64 x.fC.E7 0,.int .i64 x.fC.G9 0,.row 5 x.fP.N7,.row 3 x.fP.Vi,.row 3 x.fP.N8,.row 50 x.fL,.row 52 x.fQ,.row 3 x.Acy]
 |36,x=>[.int .i64 x.Bm 0,.int .i64 x.C9 0]
 |38,x=>[.int .i64 x.fH.Bm 0,.int .i64 x.fH.C9 0,.int .i64 x.Sl 0,.int .i64 x.fNo 0]
 |40,x=>[.int .i64 x.W3 0,.int .i64 x.fH.Bm 0,.int .i64 x.fH.C9 0,.int .i64 x.fR.fH.Bm 0,.int .i64 x.fR.fH.C9 0,.int .i64 x.fR.Sl 0,.int .i64 x.fR.fNo 0,.int .i64 x.fN 0,.int .i64 x.fM 0,.row 5 x.fB]
 |68,x=>[.row 38 x]
 |70,x=>[.row 36 x]
 |73,x=>[.int .i64 x.W4 0,.int .i64 x.fH.Bm 0,.int .i64 x.fH.C9 0,.int .i64 x.fR.fH.Bm 0,.int .i64 x.fR.fH.C9 0,.int .i64 x.fR.Sl 0,.int .i64 x.fR.fNo 0,.row 5 x.fB,.int .i64 x.W5 0,.int .i64 x.Gu 0,.int .i64 x.N9 0]
 |148,x=>[.row 5 x.fb,.int .i64 x.fi 0,.int .i64 x.fh 0]
 |149,x=>[.row 40 x]
 |191,x=>[.row 4 x]
 |_,_=>[]
def Cg:(t:Nat)->Bool->Aj t->List (SV Aj)
 |2,m,x=>[.int .i64 x 0]
 |3,m,x=>[.int .i64 x 0]
 |4,m,x=>[.bool x]
 |5,m,x=>[.int .u8 x 0]
 |9,m,x=>[.str x]
 |22,m,x=>[.rowT 5 true x]
 |25,m,x=>[.int .i64 x.Ay 0,.int .i64 x.G8 0,.int .i64 x.E6 0,.int .i64 x.Gu 0,.int .i64 x.E7 0,.int .i64 x.G9 0]
 |26,m,x=>[.rowT 3 true x]
 |28,m,x=>[.rowT 5 true x.N7,.rowT 3 true x.Vi,.rowT 3 true x.N8]
 |132,m,x=>[.int .i64 x.fAt 0,.int .i64 x.Ajm 0,.int .i64 x.Ajn 0]
 |48,m,x=>[.rowT 132 true x]
 |50,true,x=>[.int .i64 x.Vi 0,.int .i64 x.C9 0,.int .i64 x.Sl 0,.int .i64 x.fUp 0,.int .i64 x.Sm 0,.int .i64 x.Ef 0,.int .i64 x.Sn 0,.int .i64 x.So 0,.row 3 x.Ay,.int .i64 x.Acx 0,.int .i64 x.Sq 0,.rowT 132 true x.F6,.rowT 3 true x.Fi]
 |50,false,x=>[.int .i64 x.Vi 0,.int .i64 x.C9 0,.int .i64 x.Sl 0,.int .i64 x.fUp 0,.int .i64 x.Sm 0,.int .i64 x.Ef 0,.int .i64 x.Sn 0,.int .i64 x.So 0,.rowT 3 true x.Ay,.int .i64 x.Acx 0,.int .i64 x.Sq 0,.rowT 132 true x.F6,.rowT 3 true x.Fi]
 |29,m,x=>[.rowT 50 m x]
 |52,m,x=>[.int .i64 x.Bm 0,.int .i64 x.Ef 0,.rowT 3 true x.Fi,.rowT 3 true x.Ay,.int .i64 x.Wz 0]
 |30,m,x=>[.rowT 52 m x]
 |32,true,x=>[.int .i64 x.fC.Ay 0,.int .i64 x.fC.G8 0,.int .i64 x.fC.E6 0,.int .i64 x.fC.Gu 0,.int .i64 x.fC.E7 0,.int .i64 x.fC.G9 0,.rowT 5 true x.fP.N7,.rowT 3 true x.fP.Vi,.rowT 3 true x.fP.N8,.rowT 50 true x.fL,.rowT 52 true x.fQ,.rowT 3 true x.Acy]
 |32,false,x=>[.int .i64 x.fC.Ay 0,.int .i64 x.fC.G8 0,.int .i64 x.fC.E6 0,.int .i64 x.fC.Gu 0,.int .i64 x.fC.E7 0,.int .i64 x.fC.G9 0,.rowT 5 true x.fP.N7,.rowT 3 true x.fP.Vi,.rowT 3 true x.fP.N8,.rowT 50 true x.fL,.rowT 52 false x.fQ,.rowT 3 true x.Acy]
 |36,m,x=>[.int .i64 x.Bm 0,.int .i64 x.C9 0]
 |38,m,x=>[.int .i64 x.fH.Bm 0,.int .i64 x.fH.C9 0,.int .i64 x.Sl 0,.int .i64 x.fNo 0]
 |40,m,x=>[.int .i64 x.W3 0,.int .i64 x.fH.Bm 0,.int .i64 x.fH.C9 0,.int .i64 x.fR.fH.Bm 0,.int .i64 x.fR.fH.C9 0,.int .i64 x.fR.Sl 0,.int .i64 x.fR.fNo 0,.int .i64 x.fN 0,.int .i64 x.fM 0,.rowT 5 true x.fB]
 |68,m,x=>[.rowT 38 true x]
 |70,m,x=>[.rowT 36 true x]
 |73,m,x=>[.int .i64 x.W4 0,.int .i64 x.fH.Bm 0,.int .i64 x.fH.C9 0,.int .i64 x.fR.fH.Bm 0,.int .i64 x.fR.fH.C9 0,.int .i64 x.fR.Sl 0,.int .i64 x.fR.fNo 0,.rowT 5 true x.fB,.int .i64 x.W5 0,.int .i64 x.Gu 0,.int .i64 x.N9 0]
 |148,true,x=>[.rowT 5 true x.fb,.int .i64 x.fi 0,.int .i64 x.fh 0]
 |148,false,x=>[.row 5 x.fb,.int .i64 x.fi 0,.int .i64 x.fh 0]
 |149,m,x=>[.rowT 40 m x]
 |191,m,x=>[.rowT 4 true x]
 |_,_,_=>[]
def Ajt:List (SV Aj)->Option (Aj 2)
 |[.int .i64 a0 _]=>some a0
 |_=>none
def Aju:List (SV Aj)->Option (Aj 3)
 |[.int .i64 a0 _]=>some a0
 |_=>none
def Ajv:List (SV Aj)->Option (Aj 4)
 |[.bool a0]=>some a0
 |_=>none
def Ajw:List (SV Aj)->Option (Aj 5)
 |[.int .u8 a0 _]=>some a0
 |_=>none
def Ajx:List (SV Aj)->Option (Aj 9)
 |[.str a0]=>some a0
 |_=>none
def Ac2:List (SV Aj)->Option (Aj 22)
 |[.row 5 a0]=>some a0
 |_=>none
def Ac3:List (SV Aj)->Option (Aj 25)
 |[.int .i64 a0 _,.int .i64 a1 _,.int .i64 a2 _,.int .i64 a3 _,.int .i64 a4 _,.int .i64 a5 _]=>some ⟨a0,a1,a2,a3,a4,a5⟩
 |_=>none
def Ac4:List (SV Aj)->Option (Aj 26)
 |[.row 3 a0]=>some a0
 |_=>none
def Ac5:List (SV Aj)->Option (Aj 28)
 |[.row 5 a0,.row 3 a1,.row 3 a2]=>some ⟨a0,a1,a2⟩
 |_=>none
def Vj:List (SV Aj)->Option (Aj 132)
 |[.int .i64 a0 _,.int .i64 a1 _,.int .i64 a2 _]=>some ⟨a0,a1,a2⟩
 |_=>none
def Ac6:List (SV Aj)->Option (Aj 48)
 |[.row 132 a0]=>some a0
 |_=>none
def Ac7:List (SV Aj)->Option (Aj 50)
 |[.int .i64 a0 _,.int .i64 a1 _,.int .i64 a2 _,.int .i64 a3 _,.int .i64 a4 _,.int .i64 a5 _,.int .i64 a6 _,.int .i64 a7 _,.row 3 a8,.int .i64 a9 _,.int .i64 a10 _,.row 132 a11,.row 3 a12]=>some ⟨a0,a1,a2,a3,a4,a5,a6,a7,a8,a9,a10,a11,a12⟩
 |_=>none
def Ac8:List (SV Aj)->Option (Aj 29)
 |[.row 50 a0]=>some a0
 |_=>none
def Ac9:List (SV Aj)->Option (Aj 52)
 |[.int .i64 a0 _,.int .i64 a1 _,.row 3 a2,.row 3 a3,.int .i64 a4 _]=>some ⟨a0,a1,a2,a3,a4⟩
 |_=>none
def Ada:List (SV Aj)->Option (Aj 30)
 |[.row 52 a0]=>some a0
 |_=>none
def Adb:List (SV Aj)->Option (Aj 32)
 |[.int .i64 a0 _,.int .i64 a1 _,.int .i64 a2 _,.int .i64 a3 _,.int .i64 a4 _,.int .i64 a5 _,.row 5 a6,.row 3 a7,.row 3 a8,.row 50 a9,.row 52 a10,.row 3 a11]=>some ⟨⟨a0,a1,a2,a3,a4,a5⟩,⟨a6,a7,a8⟩,a9,a10,a11⟩
 |_=>none
def Adc:List (SV Aj)->Option (Aj 36)
 |[.int .i64 a0 _,.int .i64 a1 _]=>some ⟨a0,a1⟩
 |_=>none
def Ade:List (SV Aj)->Option (Aj 38)
 |[.int .i64 a0 _,.int .i64 a1 _,.int .i64 a2 _,.int .i64 a3 _]=>some ⟨⟨a0,a1⟩,a2,a3⟩
 |_=>none
def Adf:List (SV Aj)->Option (Aj 40)
 |[.int .i64 a0 _,.int .i64 a1 _,.int .i64 a2 _,.int .i64 a3 _,.int .i64 a4 _,.int .i64 a5 _,.int .i64 a6 _,.int .i64 a7 _,.int .i64 a8 _,.row 5 a9]=>some ⟨a0,⟨a1,a2⟩,⟨⟨a3,a4⟩,a5,a6⟩,a7,a8,a9⟩
 |_=>none
def Adg:List (SV Aj)->Option (Aj 68)
 |[.row 38 a0]=>some a0
 |_=>none
def Adh:List (SV Aj)->Option (Aj 70)
 |[.row 36 a0]=>some a0
 |_=>none
def Adi:List (SV Aj)->Option (Aj 73)
 |[.int .i64 a0 _,.int .i64 a1 _,.int .i64 a2 _,.int .i64 a3 _,.int .i64 a4 _,.int .i64 a5 _,.int .i64 a6 _,.row 5 a7,.int .i64 a8 _,.int .i64 a9 _,.int .i64 a10 _]=>some ⟨a0,⟨a1,a2⟩,⟨⟨a3,a4⟩,a5,a6⟩,a7,a8,a9,a10⟩
 |_=>none
def Vk:List (SV Aj)->Option (Aj 148)
 |[.row 5 a0,.int .i64 a1 _,.int .i64 a2 _]=>some ⟨a0,a1,a2⟩
 |_=>none
def Vl:List (SV Aj)->Option (Aj 149)
 |[.row 40 a0]=>some a0
 |_=>none
def Vm:List (SV Aj)->Option (Aj 191)
 |[.row 4 a0]=>some a0
 |_=>none
def Ajy:(t:Nat)->List (SV Aj)->Option (Aj t)
 |2,c=>Ajt c
 |3,c=>Aju c
 |4,c=>Ajv c
 |5,c=>Ajw c
 |9,c=>Ajx c
 |22,c=>Ac2 c
 |25,c=>Ac3 c
 |26,c=>Ac4 c
 |28,c=>Ac5 c
 |132,c=>Vj c
 |48,c=>Ac6 c
 |50,c=>Ac7 c
 |29,c=>Ac8 c
 |52,c=>Ac9 c
 |30,c=>Ada c
 |32,c=>Adb c
 |36,c=>Adc c
 |38,c=>Ade c
 |40,c=>Adf c
 |68,c=>Adg c
 |70,c=>Adh c
 |73,c=>Adi c
 |148,c=>Vk c
 |149,c=>Vl c
 |191,c=>Vm c
 |_,_=>none
def Vn:List (SV Aj)->Option (Aj 2)
 |[.int .i64 a0 _]=>some a0
 |_=>none
def Vo:List (SV Aj)->Option (Aj 3)
 |[.int .i64 a0 _]=>some a0
 |_=>none
def Vp:List (SV Aj)->Option (Aj 4)
 |[.bool a0]=>some a0
 |_=>none
def Vq:List (SV Aj)->Option (Aj 5)
 |[.int .u8 a0 _]=>some a0
 |_=>none
def Vr:List (SV Aj)->Option (Aj 9)
 |[.str a0]=>some a0
 |_=>none
def Pb:List (SV Aj)->Option (Aj 22)
 |[.rowT 5 true a0]=>some a0
 |_=>none
def Pc:List (SV Aj)->Option (Aj 25)
 |[.int .i64 a0 _,.int .i64 a1 _,.int .i64 a2 _,.int .i64 a3 _,.int .i64 a4 _,.int .i64 a5 _]=>some ⟨a0,a1,a2,a3,a4,a5⟩
 |_=>none
def Pd:List (SV Aj)->Option (Aj 26)
 |[.rowT 3 true a0]=>some a0
 |_=>none
def Pe:List (SV Aj)->Option (Aj 28)
 |[.rowT 5 true a0,.rowT 3 true a1,.rowT 3 true a2]=>some ⟨a0,a1,a2⟩
 |_=>none
def Kl:List (SV Aj)->Option (Aj 132)
 |[.int .i64 a0 _,.int .i64 a1 _,.int .i64 a2 _]=>some ⟨a0,a1,a2⟩
 |_=>none
def Pf:List (SV Aj)->Option (Aj 48)
 |[.rowT 132 true a0]=>some a0
 |_=>none
def Pg:List (SV Aj)->Option (Aj 50)
 |[.int .i64 a0 _,.int .i64 a1 _,.int .i64 a2 _,.int .i64 a3 _,.int .i64 a4 _,.int .i64 a5 _,.int .i64 a6 _,.int .i64 a7 _,.row 3 a8,.int .i64 a9 _,.int .i64 a10 _,.rowT 132 true a11,.rowT 3 true a12]=>some ⟨a0,a1,a2,a3,a4,a5,a6,a7,a8,a9,a10,a11,a12⟩
 |_=>none
def Ph:List (SV Aj)->Option (Aj 50)
 |[.int .i64 a0 _,.int .i64 a1 _,.int .i64 a2 _,.int .i64 a3 _,.int .i64 a4 _,.int .i64 a5 _,.int .i64 a6 _,.int .i64 a7 _,.rowT 3 true a8,.int .i64 a9 _,.int .i64 a10 _,.rowT 132 true a11,.rowT 3 true a12]=>some ⟨a0,a1,a2,a3,a4,a5,a6,a7,a8,a9,a10,a11,a12⟩
 |_=>none
def Pj:List (SV Aj)->Option (Aj 29)
 |[.rowT 50 true a0]=>some a0
 |_=>none
def Pk:List (SV Aj)->Option (Aj 29)
 |[.rowT 50 false a0]=>some a0
 |_=>none
def Pl:List (SV Aj)->Option (Aj 52)
 |[.int .i64 a0 _,.int .i64 a1 _,.rowT 3 true a2,.rowT 3 true a3,.int .i64 a4 _]=>some ⟨a0,a1,a2,a3,a4⟩
 |_=>none
def Pm:List (SV Aj)->Option (Aj 30)
 |[.rowT 52 true a0]=>some a0
 |_=>none
def Pn:List (SV Aj)->Option (Aj 30)
 |[.rowT 52 false a0]=>some a0
 |_=>none
def Po:List (SV Aj)->Option (Aj 32)
 |[.int .i64 a0 _,.int .i64 a1 _,.int .i64 a2 _,.int .i64 a3 _,.int .i64 a4 _,.int .i64 a5 _,.rowT 5 true a6,.rowT 3 true a7,.rowT 3 true a8,.rowT 50 true a9,.rowT 52 true a10,.rowT 3 true a11]=>some ⟨⟨a0,a1,a2,a3,a4,a5⟩,⟨a6,a7,a8⟩,a9,a10,a11⟩
 |_=>none
def Pp:List (SV Aj)->Option (Aj 32)
 |[.int .i64 a0 _,.int .i64 a1 _,.int .i64 a2 _,.int .i64 a3 _,.int .i64 a4 _,.int .i64 a5 _,.rowT 5 true a6,.rowT 3 true a7,.rowT 3 true a8,.rowT 50 true a9,.rowT 52 false a10,.rowT 3 true a11]=>some ⟨⟨a0,a1,a2,a3,a4,a5⟩,⟨a6,a7,a8⟩,a9,a10,a11⟩
 |_=>none
def Pq:List (SV Aj)->Option (Aj 36)
 |[.int .i64 a0 _,.int .i64 a1 _]=>some ⟨a0,a1⟩
 |_=>none
def Pr:List (SV Aj)->Option (Aj 38)
 |[.int .i64 a0 _,.int .i64 a1 _,.int .i64 a2 _,.int .i64 a3 _]=>some ⟨⟨a0,a1⟩,a2,a3⟩
 |_=>none
def Ps:List (SV Aj)->Option (Aj 40)
 |[.int .i64 a0 _,.int .i64 a1 _,.int .i64 a2 _,.int .i64 a3 _,.int .i64 a4 _,.int .i64 a5 _,.int .i64 a6 _,.int .i64 a7 _,.int .i64 a8 _,.rowT 5 true a9]=>some ⟨a0,⟨a1,a2⟩,⟨⟨a3,a4⟩,a5,a6⟩,a7,a8,a9⟩
 |_=>none
def Pt:List (SV Aj)->Option (Aj 68)
 |[.rowT 38 true a0]=>some a0
 |_=>none
def Pu:List (SV Aj)->Option (Aj 70)
 |[.rowT 36 true a0]=>some a0
 |_=>none
def Pv:List (SV Aj)->Option (Aj 73)
 |[.int .i64 a0 _,.int .i64 a1 _,.int .i64 a2 _,.int .i64 a3 _,.int .i64 a4 _,.int .i64 a5 _,.int .i64 a6 _,.rowT 5 true a7,.int .i64 a8 _,.int .i64 a9 _,.int .i64 a10 _]=>some ⟨a0,⟨a1,a2⟩,⟨⟨a3,a4⟩,a5,a6⟩,a7,a8,a9,a10⟩
 |_=>none
def Km:List (SV Aj)->Option (Aj 148)
 |[.rowT 5 true a0,.int .i64 a1 _,.int .i64 a2 _]=>some ⟨a0,a1,a2⟩
 |_=>none
def Kn:List (SV Aj)->Option (Aj 148)
 |[.row 5 a0,.int .i64 a1 _,.int .i64 a2 _]=>some ⟨a0,a1,a2⟩
 |_=>none
def Ko:List (SV Aj)->Option (Aj 149)
 |[.rowT 40 true a0]=>some a0
 |_=>none
def Kq:List (SV Aj)->Option (Aj 149)
 |[.rowT 40 false a0]=>some a0
 |_=>none
def Kr:List (SV Aj)->Option (Aj 191)
 |[.rowT 4 true a0]=>some a0
 |_=>none
def Ajz:(t:Nat)->Bool->List (SV Aj)->Option (Aj t)
 |2,_,c=>Vn c
 |3,_,c=>Vo c
 |4,_,c=>Vp c
 |5,_,c=>Vq c
 |9,_,c=>Vr c
 |22,_,c=>Pb c
 |25,_,c=>Pc c
 |26,_,c=>Pd c
 |28,_,c=>Pe c
 |132,_,c=>Kl c
 |48,_,c=>Pf c
 |50,true,c=>Pg c
 |50,false,c=>Ph c
 |29,true,c=>Pj c
 |29,false,c=>Pk c
 |52,_,c=>Pl c
 |30,true,c=>Pm c
 |30,false,c=>Pn c
 |32,true,c=>Po c
 |32,false,c=>Pp c
 |36,_,c=>Pq c
 |38,_,c=>Pr c
 |40,_,c=>Ps c
 |68,_,c=>Pt c
 |70,_,c=>Pu c
 |73,_,c=>Pv c
 |148,true,c=>Km c
 |148,false,c=>Kn c
 |149,true,c=>Ko c
 |149,false,c=>Kq c
 |191,_,c=>Kr c
 |_,_,_=>none
def W6 (t j:Nat):Bool:=(Nat.beq t 50&&Nat.beq j 8)||((Nat.beq t 50||Nat.beq t 29||Nat.beq t 32)&&Nat.beq j 1000)
def tyU:Un:=⟨Aj,Amk,Ajo,Ajp,Ao1,Ajq,Ajr,Ajs,Cg,Ajy,Ajz,W6⟩
theorem Aj0: ∀x,(Kf x).all V.fresh=true:=fun x=>by
 simp only[Kf,Ge,List.all_nil,At (f:=B7) (fun _=>rfl),Yx,Yy,Yz,Bool.and_self]
theorem Af6: ∀x,(F7 x).all V.fresh=true:=fun x=>by
 simp only[F7,Ge,List.all_nil,At (f:=Ag) (fun _=>rfl),Yx,Yy,Yz,Bool.and_self]
theorem Pw: ∀x,(C7 x).all V.fresh=true:=fun x=>by
 simp only[C7,Ge,List.all_nil,At (f:=B7) (fun _=>rfl),At (f:=Ag) (fun _=>rfl),Yx,Yy,Yz,Bool.and_self]
theorem Ks: ∀x,(B8 x).all V.fresh=true:=fun x=>by
 simp only[B8,Ge,List.all_nil,At (f:=Ah) (fun _=>rfl),Yx,Yy,Yz,Bool.and_self]
theorem Fj: ∀x,(Bh x).all V.fresh=true:=fun x=>by
 simp only[Bh,Ge,List.all_nil,At (f:=Ag) (fun _=>rfl),Yx,Yy,Yz,Bool.and_self]
theorem Kt: ∀x,(B9 x).all V.fresh=true:=fun x=>by
 simp only[B9,Ge,List.all_nil,At Fj,Yx,Yy,Yz,Bool.and_self]
theorem Ku: ∀x,(De x).all V.fresh=true:=fun x=>by
 simp only[De,Ge,List.all_nil,At (f:=B7) (fun _=>rfl),Yx,Yy,Yz,Bool.and_self]
theorem Px: ∀x,(C8 x).all V.fresh=true:=fun x=>by
 simp only[C8,Ge,List.all_nil,At (f:=Bf) (fun _=>rfl),Yx,Yy,Yz,Bool.and_self]
theorem Hl: ∀x,(Bu x).all V.fresh=true:=fun x=>by
 simp only[Bu,Ge,List.all_nil,At (f:=Ao) (fun _=>rfl),Yx,Yy,Yz,Bool.and_self]
theorem Su: ∀x,(Do x).all V.fresh=true:=fun x=>by
 simp only[Do,Ge,List.all_nil,At (f:=B7) (fun _=>rfl),Yx,Yy,Yz,Bool.and_self]
theorem Li: ∀x,(Cj x).all V.fresh=true:=fun x=>by
 simp only[Cj,Ge,List.all_nil,At (f:=B7) (fun _=>rfl),Yx,Yy,Yz,Bool.and_self]
theorem Sv: ∀x,(Dp x).all V.fresh=true:=fun x=>by
 simp only[Dp,Ge,List.all_nil,At Ku,Yx,Yy,Yz,Bool.and_self]
theorem Sw: ∀x,(Dq x).all V.fresh=true:=fun x=>by
 simp only[Dq,Ge,List.all_nil,At (f:=Bt) (fun _=>rfl),Yx,Yy,Yz,Bool.and_self]
theorem Aml (c x)(h:Ajt c=some x):c.map (SV.toV tyU)=Ag x:=by
  unfold Ajt at h;split at h
  ·cases h;rfl
  ·cases h
theorem Af7 (c x)(h:Vn c=some x):c.map (SV.toV tyU)=(Cg 2 true x).map (SV.toV tyU):=by
  unfold Vn at h;split at h
  ·cases h;rfl
  ·cases h
theorem Ao2:Gt tyU 2:=⟨Av,Sr,fun _=>rfl,fun _=>rfl,fun _ _=>rfl,Aml,fun _=>Af7,fun _=>rfl,fun _=>rfl,fun _ _=>rfl,fun _ _=>rfl,fun _=>rfl,A8 fun _=>rfl⟩
theorem Amm (c x)(h:Aju c=some x):c.map (SV.toV tyU)=Ag x:=by
  unfold Aju at h;split at h
  ·cases h;rfl
  ·cases h
theorem Af8 (c x)(h:Vo c=some x):c.map (SV.toV tyU)=(Cg 3 true x).map (SV.toV tyU):=by
  unfold Vo at h;split at h
  ·cases h;rfl
  ·cases h
theorem Ao3:Gt tyU 3:=⟨Av,Sr,fun _=>rfl,fun _=>rfl,fun _ _=>rfl,Amm,fun _=>Af8,fun _=>rfl,fun _=>rfl,fun _ _=>rfl,fun _ _=>rfl,fun _=>rfl,A8 fun _=>rfl⟩
theorem Amn (c x)(h:Ajv c=some x):c.map (SV.toV tyU)=Bt x:=by
  unfold Ajv at h;split at h
  ·cases h;rfl
  ·cases h
theorem Af9 (c x)(h:Vp c=some x):c.map (SV.toV tyU)=(Cg 4 true x).map (SV.toV tyU):=by
  unfold Vp at h;split at h
  ·cases h;rfl
  ·cases h
theorem Ao4:Gt tyU 4:=⟨Cb,Pa,fun _=>rfl,fun _=>rfl,fun _ _=>rfl,Amn,fun _=>Af9,fun _=>rfl,fun _=>rfl,fun _ _=>rfl,fun _ _=>rfl,fun _=>rfl,A8 fun _=>rfl⟩
theorem Amo (c x)(h:Ajw c=some x):c.map (SV.toV tyU)=B7 x:=by
  unfold Ajw at h;split at h
  ·cases h;rfl
  ·cases h
theorem Aga (c x)(h:Vq c=some x):c.map (SV.toV tyU)=(Cg 5 true x).map (SV.toV tyU):=by
  unfold Vq at h;split at h
  ·cases h;rfl
  ·cases h
theorem Ao5:Gt tyU 5:=⟨Bk,Af5,fun _=>rfl,fun _=>rfl,fun _ _=>rfl,Amo,fun _=>Aga,fun _=>rfl,fun _=>rfl,fun _ _=>rfl,fun _ _=>rfl,fun _=>rfl,A8 fun _=>rfl⟩
theorem Amp (c x)(h:Ajx c=some x):c.map (SV.toV tyU)=D2 x:=by
  unfold Ajx at h;split at h
  ·cases h;rfl
  ·cases h
theorem Agb (c x)(h:Vr c=some x):c.map (SV.toV tyU)=(Cg 9 true x).map (SV.toV tyU):=by
  unfold Vr at h;split at h
  ·cases h;rfl
  ·cases h
theorem Ao6:Gt tyU 9:=⟨Eb,Ss,fun _=>rfl,fun _=>rfl,fun _ _=>rfl,Amp,fun _=>Agb,fun _=>rfl,fun _=>rfl,fun _ _=>rfl,fun _ _=>rfl,fun _=>rfl,A8 fun _=>rfl⟩
theorem Aj1 (c x)(h:Ac2 c=some x):c.map (SV.toV tyU)=Gv x:=by
  unfold Ac2 at h;split at h
  ·cases h;rfl
  ·cases h
theorem Adj (c x)(h:Pb c=some x):c.map (SV.toV tyU)=(Cg 22 true x).map (SV.toV tyU):=by
  unfold Pb at h;split at h
  ·cases h;rfl
  ·cases h
theorem Amq:Gt tyU 22:=⟨Ac0,Ac1,fun _=>rfl,fun _=>rfl,fun _ _=>rfl,Aj1,fun _=>Adj,(fun h=>by cases h),fun _=>rfl,fun _ _=>rfl,fun x _=>Aj0 x,fun _=>rfl,A8 fun _=>rfl⟩
theorem Aj2 (c x)(h:Ac3 c=some x):c.map (SV.toV tyU)=Cc x:=by
  unfold Ac3 at h;split at h
  ·cases h;rfl
  ·cases h
theorem Adk (c x)(h:Pc c=some x):c.map (SV.toV tyU)=(Cg 25 true x).map (SV.toV tyU):=by
  unfold Pc at h;split at h
  ·cases h;rfl
  ·cases h
theorem Amr:Gt tyU 25:=⟨C6,Kg,fun _=>rfl,fun _=>rfl,fun _ _=>rfl,Aj2,fun _=>Adk,fun _=>rfl,fun _=>rfl,fun _ _=>rfl,fun _ _=>rfl,fun _=>rfl,A8 fun _=>rfl⟩
theorem Aj3 (c x)(h:Ac4 c=some x):c.map (SV.toV tyU)=E9 x:=by
  unfold Ac4 at h;split at h
  ·cases h;rfl
  ·cases h
theorem Adl (c x)(h:Pd c=some x):c.map (SV.toV tyU)=(Cg 26 true x).map (SV.toV tyU):=by
  unfold Pd at h;split at h
  ·cases h;rfl
  ·cases h
theorem Ams:Gt tyU 26:=⟨Y0,Y1,fun _=>rfl,fun _=>rfl,fun _ _=>rfl,Aj3,fun _=>Adl,(fun h=>by cases h),fun _=>rfl,fun _ _=>rfl,fun x _=>Af6 x,fun _=>rfl,A8 fun _=>rfl⟩
theorem Aj4 (c x)(h:Ac5 c=some x):c.map (SV.toV tyU)=Cd x:=by
  unfold Ac5 at h;split at h
  ·cases h;rfl
  ·cases h
theorem Adm (c x)(h:Pe c=some x):c.map (SV.toV tyU)=(Cg 28 true x).map (SV.toV tyU):=by
  unfold Pe at h;split at h
  ·cases h;rfl
  ·cases h
theorem Amt:Gt tyU 28:=⟨Kh,Ki,fun _=>rfl,fun _=>rfl,fun _ _=>rfl,Aj4,fun _=>Adm,(fun h=>by cases h),fun _=>rfl,fun _ _=>rfl,fun x _=>Pw x,fun _=>rfl,A8 fun _=>rfl⟩
theorem Agc (c x)(h:Vj c=some x):c.map (SV.toV tyU)=Ah x:=by
  unfold Vj at h;split at h
  ·cases h;rfl
  ·cases h
theorem Y2 (c x)(h:Kl c=some x):c.map (SV.toV tyU)=(Cg 132 true x).map (SV.toV tyU):=by
  unfold Kl at h;split at h
  ·cases h;rfl
  ·cases h
theorem Aj5:Gt tyU 132:=⟨Aq,He,fun _=>rfl,fun _=>rfl,fun _ _=>rfl,Agc,fun _=>Y2,fun _=>rfl,fun _=>rfl,fun _ _=>rfl,fun _ _=>rfl,fun _=>rfl,A8 fun _=>rfl⟩
theorem Aj6 (c x)(h:Ac6 c=some x):c.map (SV.toV tyU)=Bn x:=by
  unfold Ac6 at h;split at h
  ·cases h;rfl
  ·cases h
theorem Adn (c x)(h:Pf c=some x):c.map (SV.toV tyU)=(Cg 48 true x).map (SV.toV tyU):=by
  unfold Pf at h;split at h
  ·cases h;rfl
  ·cases h
theorem Amu:Gt tyU 48:=⟨Gw,Gz,fun _=>rfl,fun _=>rfl,fun _ _=>rfl,Aj6,fun _=>Adn,(fun h=>by cases h),fun _=>rfl,fun _ _=>rfl,fun x _=>Ks x,fun _=>rfl,A8 fun _=>rfl⟩
theorem Aj7 (c x)(h:Ac7 c=some x):c.map (SV.toV tyU)=Be x:=by
  unfold Ac7 at h;split at h
  ·cases h;rfl
  ·cases h
theorem Ado (c x)(h:Pg c=some x):c.map (SV.toV tyU)=(Cg 50 true x).map (SV.toV tyU):=by
  unfold Pg at h;split at h
  ·cases h;rfl
  ·cases h
theorem Adp (c x)(h:Ph c=some x):c.map (SV.toV tyU)=(Cg 50 false x).map (SV.toV tyU):=by
  unfold Ph at h;split at h
  ·cases h;rfl
  ·cases h
theorem Aj8 (x:As)(j:Nat)(v:V)(hj:(Ce x)[j]? =some v)(e:W6 50 j=true):v.share=v:=by
 rcases Bool.or_eq_true_iff.1 e with h|h
 ·rw[show j=8 from Z2 h]at hj;cases hj;show V.row false _ (shareLL _)=_;rw[Av.shareLL]
 ·rw[show j=1000 from Z2 h]at hj;cases hj
theorem Amv:Gt tyU 50:=⟨D8,D9,fun _=>rfl,fun _=>rfl,(fun m _=>by cases m<;>rfl),Aj7,fun m=>match m with|true=>Ado|false=>Adp,(fun h=>by cases h),fun _=>rfl,(fun m _=>by cases m<;>rfl),(fun _ h=>by cases h),fun _=>rfl,Aj8⟩
theorem Aj9 (c x)(h:Ac8 c=some x):c.map (SV.toV tyU)=Bv x:=by
  unfold Ac8 at h;split at h
  ·cases h;rfl
  ·cases h
theorem Adq (c x)(h:Pj c=some x):c.map (SV.toV tyU)=(Cg 29 true x).map (SV.toV tyU):=by
  unfold Pj at h;split at h
  ·cases h;rfl
  ·cases h
theorem Adr (c x)(h:Pk c=some x):c.map (SV.toV tyU)=(Cg 29 false x).map (SV.toV tyU):=by
  unfold Pk at h;split at h
  ·cases h;rfl
  ·cases h
theorem Aka (x:List As)(j:Nat)(v:V)(hj:(Df x)[j]? =some v)(e:W6 29 j=true):v.share=v:=by
 rw[show j=1000 from Z2 e]at hj;cases hj
theorem Amw:Gt tyU 29:=⟨Hf,Hg,fun _=>rfl,fun _=>rfl,fun _ _=>rfl,Aj9,fun m=>match m with|true=>Adq|false=>Adr,(fun h=>by cases h),fun _=>rfl,fun _ _=>rfl,(fun _ h=>by cases h),fun _=>rfl,Aka⟩
theorem Akb (c x)(h:Ac9 c=some x):c.map (SV.toV tyU)=A3 x:=by
  unfold Ac9 at h;split at h
  ·cases h;rfl
  ·cases h
theorem Ads (c x)(h:Pl c=some x):c.map (SV.toV tyU)=(Cg 52 true x).map (SV.toV tyU):=by
  unfold Pl at h;split at h
  ·cases h;rfl
  ·cases h
theorem Amx:Gt tyU 52:=⟨Dt,Du,fun _=>rfl,fun _=>rfl,fun _ _=>rfl,Akb,fun _=>Ads,(fun h=>by cases h),fun _=>rfl,fun _ _=>rfl,fun x _=>Fj x,fun _=>rfl,A8 fun _=>rfl⟩
theorem Akc (c x)(h:Ada c=some x):c.map (SV.toV tyU)=Bo x:=by
  unfold Ada at h;split at h
  ·cases h;rfl
  ·cases h
theorem Adt (c x)(h:Pm c=some x):c.map (SV.toV tyU)=(Cg 30 true x).map (SV.toV tyU):=by
  unfold Pm at h;split at h
  ·cases h;rfl
  ·cases h
theorem Adu (c x)(h:Pn c=some x):c.map (SV.toV tyU)=(Cg 30 false x).map (SV.toV tyU):=by
  unfold Pn at h;split at h
  ·cases h;rfl
  ·cases h
theorem Amy:Gt tyU 30:=⟨G3,G4,fun _=>rfl,fun _=>rfl,fun _ _=>rfl,Akc,fun m=>match m with|true=>Adt|false=>Adu,(fun h=>by cases h),fun _=>rfl,fun _ _=>rfl,fun x _=>Kt x,fun _=>rfl,A8 fun _=>rfl⟩
theorem Akd (c x)(h:Adb c=some x):c.map (SV.toV tyU)=Bw x:=by
  unfold Adb at h;split at h
  ·cases h;rfl
  ·cases h
theorem Adv (c x)(h:Po c=some x):c.map (SV.toV tyU)=(Cg 32 true x).map (SV.toV tyU):=by
  unfold Po at h;split at h
  ·cases h;rfl
  ·cases h
theorem Adw (c x)(h:Pp c=some x):c.map (SV.toV tyU)=(Cg 32 false x).map (SV.toV tyU):=by
  unfold Pp at h;split at h
  ·cases h;rfl
  ·cases h
theorem Ake (x:C5)(j:Nat)(v:V)(hj:(Dg x)[j]? =some v)(e:W6 32 j=true):v.share=v:=by
 rw[show j=1000 from Z2 e]at hj;cases hj
theorem Amz:Gt tyU 32:=⟨Hh,Hi,fun _=>rfl,fun _=>rfl,(fun m _=>by cases m<;>rfl),Akd,fun m=>match m with|true=>Adv|false=>Adw,(fun h=>by cases h),fun _=>rfl,(fun m _=>by cases m<;>rfl),(fun _ h=>by cases h),fun _=>rfl,Ake⟩
theorem Akf (c x)(h:Adc c=some x):c.map (SV.toV tyU)=Ao x:=by
  unfold Adc at h;split at h
  ·cases h;rfl
  ·cases h
theorem Adx (c x)(h:Pq c=some x):c.map (SV.toV tyU)=(Cg 36 true x).map (SV.toV tyU):=by
  unfold Pq at h;split at h
  ·cases h;rfl
  ·cases h
theorem Am0:Gt tyU 36:=⟨A5,G5,fun _=>rfl,fun _=>rfl,fun _ _=>rfl,Akf,fun _=>Adx,fun _=>rfl,fun _=>rfl,fun _ _=>rfl,fun _ _=>rfl,fun _=>rfl,A8 fun _=>rfl⟩
theorem Akg (c x)(h:Ade c=some x):c.map (SV.toV tyU)=Bf x:=by
  unfold Ade at h;split at h
  ·cases h;rfl
  ·cases h
theorem Ady (c x)(h:Pr c=some x):c.map (SV.toV tyU)=(Cg 38 true x).map (SV.toV tyU):=by
  unfold Pr at h;split at h
  ·cases h;rfl
  ·cases h
theorem Am1:Gt tyU 38:=⟨Bx,La,fun _=>rfl,fun _=>rfl,fun _ _=>rfl,Akg,fun _=>Ady,fun _=>rfl,fun _=>rfl,fun _ _=>rfl,fun _ _=>rfl,fun _=>rfl,A8 fun _=>rfl⟩
theorem Akh (c x)(h:Adf c=some x):c.map (SV.toV tyU)=Cl x:=by
  unfold Adf at h;split at h
  ·cases h;rfl
  ·cases h
theorem Adz (c x)(h:Ps c=some x):c.map (SV.toV tyU)=(Cg 40 true x).map (SV.toV tyU):=by
  unfold Ps at h;split at h
  ·cases h;rfl
  ·cases h
theorem Am2:Gt tyU 40:=⟨F8,F9,fun _=>rfl,fun _=>rfl,fun _ _=>rfl,Akh,fun _=>Adz,(fun h=>by cases h),fun _=>rfl,fun _ _=>rfl,fun x _=>Ku x,fun _=>rfl,A8 fun _=>rfl⟩
theorem Aki (c x)(h:Adg c=some x):c.map (SV.toV tyU)=Cf x:=by
  unfold Adg at h;split at h
  ·cases h;rfl
  ·cases h
theorem Ad0 (c x)(h:Pt c=some x):c.map (SV.toV tyU)=(Cg 68 true x).map (SV.toV tyU):=by
  unfold Pt at h;split at h
  ·cases h;rfl
  ·cases h
theorem Am3:Gt tyU 68:=⟨Kj,Kk,fun _=>rfl,fun _=>rfl,fun _ _=>rfl,Aki,fun _=>Ad0,(fun h=>by cases h),fun _=>rfl,fun _ _=>rfl,fun x _=>Px x,fun _=>rfl,A8 fun _=>rfl⟩
theorem Akj (c x)(h:Adh c=some x):c.map (SV.toV tyU)=A9 x:=by
  unfold Adh at h;split at h
  ·cases h;rfl
  ·cases h
theorem Ad1 (c x)(h:Pu c=some x):c.map (SV.toV tyU)=(Cg 70 true x).map (SV.toV tyU):=by
  unfold Pu at h;split at h
  ·cases h;rfl
  ·cases h
theorem Am4:Gt tyU 70:=⟨Ga,Gb,fun _=>rfl,fun _=>rfl,fun _ _=>rfl,Akj,fun _=>Ad1,(fun h=>by cases h),fun _=>rfl,fun _ _=>rfl,fun x _=>Hl x,fun _=>rfl,A8 fun _=>rfl⟩
theorem Akk (c x)(h:Adi c=some x):c.map (SV.toV tyU)=Cp x:=by
  unfold Adi at h;split at h
  ·cases h;rfl
  ·cases h
theorem Ad2 (c x)(h:Pv c=some x):c.map (SV.toV tyU)=(Cg 73 true x).map (SV.toV tyU):=by
  unfold Pv at h;split at h
  ·cases h;rfl
  ·cases h
theorem Am5:Gt tyU 73:=⟨Lb,Lc,fun _=>rfl,fun _=>rfl,fun _ _=>rfl,Akk,fun _=>Ad2,(fun h=>by cases h),fun _=>rfl,fun _ _=>rfl,fun x _=>Su x,fun _=>rfl,A8 fun _=>rfl⟩
theorem Agd (c x)(h:Vk c=some x):c.map (SV.toV tyU)=By x:=by
  unfold Vk at h;split at h
  ·cases h;rfl
  ·cases h
theorem Y3 (c x)(h:Km c=some x):c.map (SV.toV tyU)=(Cg 148 true x).map (SV.toV tyU):=by
  unfold Km at h;split at h
  ·cases h;rfl
  ·cases h
theorem Y4 (c x)(h:Kn c=some x):c.map (SV.toV tyU)=(Cg 148 false x).map (SV.toV tyU):=by
  unfold Kn at h;split at h
  ·cases h;rfl
  ·cases h
theorem Akl:Gt tyU 148:=⟨Hj,Hk,fun _=>rfl,fun _=>rfl,(fun m _=>by cases m<;>rfl),Agd,fun m=>match m with|true=>Y3|false=>Y4,(fun h=>by cases h),fun _=>rfl,(fun m _=>by cases m<;>rfl),fun x _=>Li x,fun _=>rfl,A8 fun _=>rfl⟩
theorem Age (c x)(h:Vl c=some x):c.map (SV.toV tyU)=Cq x:=by
  unfold Vl at h;split at h
  ·cases h;rfl
  ·cases h
theorem Y5 (c x)(h:Ko c=some x):c.map (SV.toV tyU)=(Cg 149 true x).map (SV.toV tyU):=by
  unfold Ko at h;split at h
  ·cases h;rfl
  ·cases h
theorem Y6 (c x)(h:Kq c=some x):c.map (SV.toV tyU)=(Cg 149 false x).map (SV.toV tyU):=by
  unfold Kq at h;split at h
  ·cases h;rfl
  ·cases h
theorem Akm:Gt tyU 149:=⟨Ld,Le,fun _=>rfl,fun _=>rfl,fun _ _=>rfl,Age,fun m=>match m with|true=>Y5|false=>Y6,(fun h=>by cases h),fun _=>rfl,fun _ _=>rfl,fun x _=>Sv x,fun _=>rfl,A8 fun _=>rfl⟩
theorem Agf (c x)(h:Vm c=some x):c.map (SV.toV tyU)=Cr x:=by
  unfold Vm at h;split at h
  ·cases h;rfl
  ·cases h
theorem Y7 (c x)(h:Kr c=some x):c.map (SV.toV tyU)=(Cg 191 true x).map (SV.toV tyU):=by
  unfold Kr at h;split at h
  ·cases h;rfl
  ·cases h
theorem Akn:Gt tyU 191:=⟨Lg,Lh,fun _=>rfl,fun _=>rfl,fun _ _=>rfl,Agf,fun _=>Y7,(fun h=>by cases h),fun _=>rfl,fun _ _=>rfl,fun x _=>Sw x,fun _=>rfl,A8 fun _=>rfl⟩
theorem Agg{t:Nat}(h2:t≠2)(h3:t≠3)(h4:t≠4)(h5:t≠5)(h9:t≠9)(h22:t≠22)(h25:t≠25)(h26:t≠26)(h28:t≠28)(h132:t≠132)(h48:t≠48)(h50:t≠50)(h29:t≠29)(h52:t≠52)(h30:t≠30)(h32:t≠32)(h36:t≠36)(h38:t≠38)(h40:t≠40)(h68:t≠68)(h70:t≠70)(h73:t≠73)(h148:t≠148)(h149:t≠149)(h191:t≠191):Ajo t=0:=by
 unfold Ajo;split<;>first|rfl|contradiction
theorem Agh{t:Nat}(h2:t≠2)(h3:t≠3)(h4:t≠4)(h5:t≠5)(h9:t≠9)(h22:t≠22)(h25:t≠25)(h26:t≠26)(h28:t≠28)(h132:t≠132)(h48:t≠48)(h50:t≠50)(h29:t≠29)(h52:t≠52)(h30:t≠30)(h32:t≠32)(h36:t≠36)(h38:t≠38)(h40:t≠40)(h68:t≠68)(h70:t≠70)(h73:t≠73)(h148:t≠148)(h149:t≠149)(h191:t≠191)(x):Ajq t x=[]:=by
 unfold Ajq;split<;>first|rfl|contradiction
theorem Agi{t:Nat}(h2:t≠2)(h3:t≠3)(h4:t≠4)(h5:t≠5)(h9:t≠9)(h22:t≠22)(h25:t≠25)(h26:t≠26)(h28:t≠28)(h132:t≠132)(h48:t≠48)(h50:t≠50)(h29:t≠29)(h52:t≠52)(h30:t≠30)(h32:t≠32)(h36:t≠36)(h38:t≠38)(h40:t≠40)(h68:t≠68)(h70:t≠70)(h73:t≠73)(h148:t≠148)(h149:t≠149)(h191:t≠191)(x):Ajr t x=[]:=by
 unfold Ajr;split<;>first|rfl|contradiction
theorem Agj{t:Nat}(h2:t≠2)(h3:t≠3)(h4:t≠4)(h5:t≠5)(h9:t≠9)(h22:t≠22)(h25:t≠25)(h26:t≠26)(h28:t≠28)(h132:t≠132)(h48:t≠48)(h50:t≠50)(h29:t≠29)(h52:t≠52)(h30:t≠30)(h32:t≠32)(h36:t≠36)(h38:t≠38)(h40:t≠40)(h68:t≠68)(h70:t≠70)(h73:t≠73)(h148:t≠148)(h149:t≠149)(h191:t≠191)(x):Ajs t x=[]:=by
 unfold Ajs;split<;>first|rfl|contradiction
theorem Agk{t:Nat}(h2:t≠2)(h3:t≠3)(h4:t≠4)(h5:t≠5)(h9:t≠9)(h22:t≠22)(h25:t≠25)(h26:t≠26)(h28:t≠28)(h132:t≠132)(h48:t≠48)(h50:t≠50)(h29:t≠29)(h52:t≠52)(h30:t≠30)(h32:t≠32)(h36:t≠36)(h38:t≠38)(h40:t≠40)(h68:t≠68)(h70:t≠70)(h73:t≠73)(h148:t≠148)(h149:t≠149)(h191:t≠191)(m)(x):Cg t m x=[]:=by
 unfold Cg;split<;>first|rfl|contradiction
theorem Agl{t:Nat}(h2:t≠2)(h3:t≠3)(h4:t≠4)(h5:t≠5)(h9:t≠9)(h22:t≠22)(h25:t≠25)(h26:t≠26)(h28:t≠28)(h132:t≠132)(h48:t≠48)(h50:t≠50)(h29:t≠29)(h52:t≠52)(h30:t≠30)(h32:t≠32)(h36:t≠36)(h38:t≠38)(h40:t≠40)(h68:t≠68)(h70:t≠70)(h73:t≠73)(h148:t≠148)(h149:t≠149)(h191:t≠191)(c):Ajy t c=none:=by
 unfold Ajy;split<;>first|rfl|contradiction
theorem Agm{t:Nat}(h2:t≠2)(h3:t≠3)(h4:t≠4)(h5:t≠5)(h9:t≠9)(h22:t≠22)(h25:t≠25)(h26:t≠26)(h28:t≠28)(h132:t≠132)(h48:t≠48)(h50:t≠50)(h29:t≠29)(h52:t≠52)(h30:t≠30)(h32:t≠32)(h36:t≠36)(h38:t≠38)(h40:t≠40)(h68:t≠68)(h70:t≠70)(h73:t≠73)(h148:t≠148)(h149:t≠149)(h191:t≠191)(m)(c):Ajz t m c=none:=by
 unfold Ajz;split<;>first|rfl|contradiction
theorem df{t:Nat}(h2:t≠2)(h3:t≠3)(h4:t≠4)(h5:t≠5)(h9:t≠9)(h22:t≠22)(h25:t≠25)(h26:t≠26)(h28:t≠28)(h132:t≠132)(h48:t≠48)(h50:t≠50)(h29:t≠29)(h52:t≠52)(h30:t≠30)(h32:t≠32)(h36:t≠36)(h38:t≠38)(h40:t≠40)(h68:t≠68)(h70:t≠70)(h73:t≠73)(h148:t≠148)(h149:t≠149)(h191:t≠191):Dft tyU t:=⟨Agg h2 h3 h4 h5 h9 h22 h25 h26 h28 h132 h48 h50 h29 h52 h30 h32 h36 h38 h40 h68 h70 h73 h148 h149 h191,Agh h2 h3 h4 h5 h9 h22 h25 h26 h28 h132 h48 h50 h29 h52 h30 h32 h36 h38 h40 h68 h70 h73 h148 h149 h191,Agi h2 h3 h4 h5 h9 h22 h25 h26 h28 h132 h48 h50 h29 h52 h30 h32 h36 h38 h40 h68 h70 h73 h148 h149 h191,Agj h2 h3 h4 h5 h9 h22 h25 h26 h28 h132 h48 h50 h29 h52 h30 h32 h36 h38 h40 h68 h70 h73 h148 h149 h191,Agk h2 h3 h4 h5 h9 h22 h25 h26 h28 h132 h48 h50 h29 h52 h30 h32 h36 h38 h40 h68 h70 h73 h148 h149 h191,Agl h2 h3 h4 h5 h9 h22 h25 h26 h28 h132 h48 h50 h29 h52 h30 h32 h36 h38 h40 h68 h70 h73 h148 h149 h191,Agm h2 h3 h4 h5 h9 h22 h25 h26 h28 h132 h48 h50 h29 h52 h30 h32 h36 h38 h40 h68 h70 h73 h148 h149 h191⟩
theorem Aqo:Ab tyU:=Ab.of fun t=>if h2:t=2 then by subst h2;exact Ao2 else if h3:t=3 then by subst h3;exact Ao3 else if h4:t=4 then by subst h4;exact Ao4 else if h5:t=5 then by subst h5;exact Ao5 else if h9:t=9 then by subst h9;exact Ao6 else if h22:t=22 then by subst h22;exact Amq else if h25:t=25 then by subst h25;exact Amr else if h26:t=26 then by subst h26;exact Ams else if h28:t=28 then by subst h28;exact Amt else if h132:t=132 then by subst h132;exact Aj5 else if h48:t=48 then by subst h48;exact Amu else if h50:t=50 then by subst h50;exact Amv else if h29:t=29 then by subst h29;exact Amw else if h52:t=52 then by subst h52;exact Amx else if h30:t=30 then by subst h30;exact Amy else if h32:t=32 then by subst h32;exact Amz else if h36:t=36 then by subst h36;exact Am0 else if h38:t=38 then by subst h38;exact Am1 else if h40:t=40 then by subst h40;exact Am2 else if h68:t=68 then by subst h68;exact Am3 else if h70:t=70 then by subst h70;exact Am4 else if h73:t=73 then by subst h73;exact Am5 else if h148:t=148 then by subst h148;exact Akl else if h149:t=149 then by subst h149;exact Akm else if h191:t=191 then by subst h191;exact Akn else(df h2 h3 h4 h5 h9 h22 h25 h26 h28 h132 h48 h50 h29 h52 h30 h32 h36 h38 h40 h68 h70 h73 h148 h149 h191).un1
def eqs:List Nat:=[25,132,36,38]
theorem Apo:Aa8 Tryz.prog tab (eqT eqs):=Af3 (by kernel_rfl)
end Go.Proofs.YtcdojenmonmcfaaGreat
