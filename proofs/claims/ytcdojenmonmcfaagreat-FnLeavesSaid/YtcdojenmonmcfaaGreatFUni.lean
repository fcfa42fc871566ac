/- The types of the seat; no condition. Printed by uni.py. -/
import Derived.Test.YtcdojenmonmcfaaGreatEc
import Derived.Test.YtcdojenmonmcfaaGreatFTab
set_option linter.all false
namespace Go.Proofs.YtcdojenmonmcfaaGreat
open Go.Eng
structure Eb where
 Az:Int
 Hi:Int
 Fb:Int
 G8:Int
 Fc:Int
 Hj:Int
 deriving Inhabited
structure Dp where
 Pm:List Int
 Vt:List Int
 Pn:List Int
 deriving Inhabited
structure Bd where
 fAt:Int
 Aj0:Int
 Aj1:Int
 deriving Inhabited
structure Au where
 Vt:Int
 Dc:Int
 S5:Int
 fUp:Int
 S6:Int
 Eg:Int
 S7:Int
 S8:Int
 Az:List Int
 Ade:Int
 S9:Int
 Ga:List Bd
 Fo:List Int
 deriving Inhabited
structure A1 where
 Bk:Int
 Eg:Int
 Fo:List Int
 Az:List Int
 Xa:Int
 deriving Inhabited
structure C8 where
 fC:Eb
 fP:Dp
 fL:List Au
 fQ:List A1
 Adf:List Int
 deriving Inhabited
structure An where
 Bk:Int
 Dc:Int
 deriving Inhabited
structure Bq where
 fH:An
 S5:Int
 fNo:Int
 deriving Inhabited
structure Ct where
 Xb:Int
 fH:An
 fR:Bq
 fN:Int
 fM:Int
 fB:List Int
 deriving Inhabited
structure Ex where
 Xc:Int
 fH:An
 fR:Bq
 fB:List Int
 Xd:Int
 G8:Int
 Po:Int
 deriving Inhabited
structure D1 where
 fb:List Int
 fi:Int
 fh:Int
 deriving Inhabited
def Ag (x:Int):List V:=[.int .i64 x]
theorem Ax:En Ag 1:=⟨fun _=>rfl,fun _=>rfl,fun _=>rfl,fun x=>rfl⟩
theorem Ta:Fj Ag Ag 1:=⟨Ax.len,Ax.closed,Ax.share⟩
def Br (x:Bool):List V:=[.bool x]
theorem Cd:En Br 1:=⟨fun _=>rfl,fun _=>rfl,fun _=>rfl,fun x=>rfl⟩
theorem Pp:Fj Br Br 1:=⟨Cd.len,Cd.closed,Cd.share⟩
def B7 (x:Int):List V:=[.int .u8 x]
theorem Bh:En B7 1:=⟨fun _=>rfl,fun _=>rfl,fun _=>rfl,fun x=>rfl⟩
theorem Agk:Fj B7 B7 1:=⟨Bh.len,Bh.closed,Bh.share⟩
def D2 (x:ByteArray):List V:=[.str x]
theorem Ec:En D2 1:=⟨fun _=>rfl,fun _=>rfl,fun _=>rfl,fun x=>rfl⟩
theorem Tb:Fj D2 D2 1:=⟨Ec.len,Ec.closed,Ec.share⟩
def G9 (x:List Int):List V:=[.row false 1 (x.map B7)]
theorem Adh:En G9 1:=⟨fun _=>rfl,fun _=>rfl,fun _=>rfl,fun x=>by simp only[G9,Ad,V.share,Bh.shareLL]⟩
def Ks (x:List Int):List V:=[.row true 1 (x.map B7)]
theorem Adi:Fj Ks G9 1:=⟨fun _=>rfl,fun _=>rfl,fun x=>by simp only[Ks,G9,Ad,V.share,Bh.shareLL]⟩
def Ce (x:Eb):List V:=[.int .i64 x.Az,.int .i64 x.Hi,.int .i64 x.Fb,.int .i64 x.G8,.int .i64 x.Fc,.int .i64 x.Hj]
theorem C9:En Ce 6:=⟨fun _=>rfl,fun _=>rfl,fun _=>rfl,fun x=>rfl⟩
theorem Kt:Fj Ce Ce 6:=⟨C9.len,C9.closed,C9.share⟩
def Ff (x:List Int):List V:=[.row false 1 (x.map Ag)]
theorem Zd:En Ff 1:=⟨fun _=>rfl,fun _=>rfl,fun _=>rfl,fun x=>by simp only[Ff,Ad,V.share,Ax.shareLL]⟩
def Gb (x:List Int):List V:=[.row true 1 (x.map Ag)]
theorem Ze:Fj Gb Ff 1:=⟨fun _=>rfl,fun _=>rfl,fun x=>by simp only[Gb,Ff,Ad,V.share,Ax.shareLL]⟩
def Cf (x:Dp):List V:=[.row false 1 (x.Pm.map B7),.row false 1 (x.Vt.map Ag),.row false 1 (x.Pn.map Ag)]
theorem Ku:En Cf 3:=⟨fun _=>rfl,fun _=>rfl,fun _=>rfl,fun x=>by simp only[Cf,Ad,V.share,Bh.shareLL,Ax.shareLL]⟩
def Da (x:Dp):List V:=[.row true 1 (x.Pm.map B7),.row true 1 (x.Vt.map Ag),.row true 1 (x.Pn.map Ag)]
theorem Kv:Fj Da Cf 3:=⟨fun _=>rfl,fun _=>rfl,fun x=>by simp only[Da,Cf,Ad,V.share,Bh.shareLL,Ax.shareLL]⟩
def Ah (x:Bd):List V:=[.int .i64 x.fAt,.int .i64 x.Aj0,.int .i64 x.Aj1]
theorem Ar:En Ah 3:=⟨fun _=>rfl,fun _=>rfl,fun _=>rfl,fun x=>rfl⟩
theorem Ho:Fj Ah Ah 3:=⟨Ar.len,Ar.closed,Ar.share⟩
def Bl (x:List Bd):List V:=[.row false 3 (x.map Ah)]
theorem Ha:En Bl 1:=⟨fun _=>rfl,fun _=>rfl,fun _=>rfl,fun x=>by simp only[Bl,Ad,V.share,Ar.shareLL]⟩
def B8 (x:List Bd):List V:=[.row true 3 (x.map Ah)]
theorem Hb:Fj B8 Bl 1:=⟨fun _=>rfl,fun _=>rfl,fun x=>by simp only[B8,Bl,Ad,V.share,Ar.shareLL]⟩
def Be (x:Au):List V:=[.int .i64 x.Vt,.int .i64 x.Dc,.int .i64 x.S5,.int .i64 x.fUp,.int .i64 x.S6,.int .i64 x.Eg,.int .i64 x.S7,.int .i64 x.S8,.row false 1 (x.Az.map Ag),.int .i64 x.Ade,.int .i64 x.S9,.row false 3 (x.Ga.map Ah),.row false 1 (x.Fo.map Ag)]
theorem D6:En Be 13:=⟨fun _=>rfl,fun _=>rfl,fun _=>rfl,fun x=>by simp only[Be,Ad,V.share,Ax.shareLL,Ar.shareLL]⟩
def Cg (x:Au):List V:=[.int .i64 x.Vt,.int .i64 x.Dc,.int .i64 x.S5,.int .i64 x.fUp,.int .i64 x.S6,.int .i64 x.Eg,.int .i64 x.S7,.int .i64 x.S8,.row false 1 (x.Az.map Ag),.int .i64 x.Ade,.int .i64 x.S9,.row true 3 (x.Ga.map Ah),.row true 1 (x.Fo.map Ag)]
theorem D7:Fj Cg Be 13:=⟨fun _=>rfl,fun _=>rfl,fun x=>by simp only[Cg,Be,Ad,V.share,Ax.shareLL,Ar.shareLL]⟩
def Bv (x:List Au):List V:=[.row false 13 (x.map Be)]
theorem Hp:En Bv 1:=⟨fun _=>rfl,fun _=>rfl,fun _=>rfl,fun x=>by simp only[Bv,Ad,V.share,D6.shareLL]⟩
def Dg (x:List Au):List V:=[.row true 13 (x.map Cg)]
theorem Hq:Fj Dg Bv 1:=⟨fun _=>rfl,fun _=>rfl,fun x=>by simp only[Dg,Bv,Ad,V.share,D7.shareLL]⟩
def A4 (x:A1):List V:=[.int .i64 x.Bk,.int .i64 x.Eg,.row false 1 (x.Fo.map Ag),.row false 1 (x.Az.map Ag),.int .i64 x.Xa]
theorem Dw:En A4 5:=⟨fun _=>rfl,fun _=>rfl,fun _=>rfl,fun x=>by simp only[A4,Ad,V.share,Ax.shareLL]⟩
def Bg (x:A1):List V:=[.int .i64 x.Bk,.int .i64 x.Eg,.row true 1 (x.Fo.map Ag),.row true 1 (x.Az.map Ag),.int .i64 x.Xa]
theorem Dx:Fj Bg A4 5:=⟨fun _=>rfl,fun _=>rfl,fun x=>by simp only[Bg,A4,Ad,V.share,Ax.shareLL]⟩
def Bm (x:List A1):List V:=[.row false 5 (x.map A4)]
theorem Hc:En Bm 1:=⟨fun _=>rfl,fun _=>rfl,fun _=>rfl,fun x=>by simp only[Bm,Ad,V.share,Dw.shareLL]⟩
def B9 (x:List A1):List V:=[.row true 5 (x.map Bg)]
theorem Hd:Fj B9 Bm 1:=⟨fun _=>rfl,fun _=>rfl,fun x=>by simp only[B9,Bm,Ad,V.share,Dx.shareLL]⟩
def Bw (x:C8):List V:=[.int .i64 x.fC.Az,.int .i64 x.fC.Hi,.int .i64 x.fC.Fb,.int .i64 x.fC.G8,.int .i64 x.fC.Fc,.int .i64 x.fC.Hj,.row false 1 (x.fP.Pm.map B7),.row false 1 (x.fP.Vt.map Ag),.row false 1 (x.fP.Pn.map Ag),.row false 13 (x.fL.map Be),.row false 5 (x.fQ.map A4),.row false 1 (x.Adf.map Ag)]
theorem Hr:En Bw 12:=⟨fun _=>rfl,fun _=>rfl,fun _=>rfl,fun x=>by simp only[Bw,Ad,V.share,Bh.shareLL,Ax.shareLL,D6.shareLL,Dw.shareLL]⟩
def Dh (x:C8):List V:=[.int .i64 x.fC.Az,.int .i64 x.fC.Hi,.int .i64 x.fC.Fb,.int .i64 x.fC.G8,.int .i64 x.fC.Fc,.int .i64 x.fC.Hj,.row true 1 (x.fP.Pm.map B7),.row true 1 (x.fP.Vt.map Ag),.row true 1 (x.fP.Pn.map Ag),.row true 13 (x.fL.map Cg),.row true 5 (x.fQ.map Bg),.row true 1 (x.Adf.map Ag)]
theorem Hs:Fj Dh Bw 12:=⟨fun _=>rfl,fun _=>rfl,fun x=>by simp only[Dh,Bw,Ad,V.share,Bh.shareLL,Ax.shareLL,D7.shareLL,Dx.shareLL]⟩
def Ao (x:An):List V:=[.int .i64 x.Bk,.int .i64 x.Dc]
theorem A6:En Ao 2:=⟨fun _=>rfl,fun _=>rfl,fun _=>rfl,fun x=>rfl⟩
theorem He:Fj Ao Ao 2:=⟨A6.len,A6.closed,A6.share⟩
def Bf (x:Bq):List V:=[.int .i64 x.fH.Bk,.int .i64 x.fH.Dc,.int .i64 x.S5,.int .i64 x.fNo]
theorem Bx:En Bf 4:=⟨fun _=>rfl,fun _=>rfl,fun _=>rfl,fun x=>rfl⟩
theorem Lo:Fj Bf Bf 4:=⟨Bx.len,Bx.closed,Bx.share⟩
def Cp (x:Ct):List V:=[.int .i64 x.Xb,.int .i64 x.fH.Bk,.int .i64 x.fH.Dc,.int .i64 x.fR.fH.Bk,.int .i64 x.fR.fH.Dc,.int .i64 x.fR.S5,.int .i64 x.fR.fNo,.int .i64 x.fN,.int .i64 x.fM,.row false 1 (x.fB.map B7)]
theorem Gc:En Cp 10:=⟨fun _=>rfl,fun _=>rfl,fun _=>rfl,fun x=>by simp only[Cp,Ad,V.share,Bh.shareLL]⟩
def Df (x:Ct):List V:=[.int .i64 x.Xb,.int .i64 x.fH.Bk,.int .i64 x.fH.Dc,.int .i64 x.fR.fH.Bk,.int .i64 x.fR.fH.Dc,.int .i64 x.fR.S5,.int .i64 x.fR.fNo,.int .i64 x.fN,.int .i64 x.fM,.row true 1 (x.fB.map B7)]
theorem Gd:Fj Df Cp 10:=⟨fun _=>rfl,fun _=>rfl,fun x=>by simp only[Df,Cp,Ad,V.share,Bh.shareLL]⟩
def Ch (x:List Bq):List V:=[.row false 4 (x.map Bf)]
theorem Kw:En Ch 1:=⟨fun _=>rfl,fun _=>rfl,fun _=>rfl,fun x=>by simp only[Ch,Ad,V.share,Bx.shareLL]⟩
def Db (x:List Bq):List V:=[.row true 4 (x.map Bf)]
theorem Kx:Fj Db Ch 1:=⟨fun _=>rfl,fun _=>rfl,fun x=>by simp only[Db,Ch,Ad,V.share,Bx.shareLL]⟩
def Ba (x:List An):List V:=[.row false 2 (x.map Ao)]
theorem Ge:En Ba 1:=⟨fun _=>rfl,fun _=>rfl,fun _=>rfl,fun x=>by simp only[Ba,Ad,V.share,A6.shareLL]⟩
def Bt (x:List An):List V:=[.row true 2 (x.map Ao)]
theorem Gf:Fj Bt Ba 1:=⟨fun _=>rfl,fun _=>rfl,fun x=>by simp only[Bt,Ba,Ad,V.share,A6.shareLL]⟩
def Cv (x:Ex):List V:=[.int .i64 x.Xc,.int .i64 x.fH.Bk,.int .i64 x.fH.Dc,.int .i64 x.fR.fH.Bk,.int .i64 x.fR.fH.Dc,.int .i64 x.fR.S5,.int .i64 x.fR.fNo,.row false 1 (x.fB.map B7),.int .i64 x.Xd,.int .i64 x.G8,.int .i64 x.Po]
theorem Lp:En Cv 11:=⟨fun _=>rfl,fun _=>rfl,fun _=>rfl,fun x=>by simp only[Cv,Ad,V.share,Bh.shareLL]⟩
def Dq (x:Ex):List V:=[.int .i64 x.Xc,.int .i64 x.fH.Bk,.int .i64 x.fH.Dc,.int .i64 x.fR.fH.Bk,.int .i64 x.fR.fH.Dc,.int .i64 x.fR.S5,.int .i64 x.fR.fNo,.row true 1 (x.fB.map B7),.int .i64 x.Xd,.int .i64 x.G8,.int .i64 x.Po]
theorem Lq:Fj Dq Cv 11:=⟨fun _=>rfl,fun _=>rfl,fun x=>by simp only[Dq,Cv,Ad,V.share,Bh.shareLL]⟩
def By (x:D1):List V:=[.row false 1 (x.fb.map B7),.int .i64 x.fi,.int .i64 x.fh]
theorem Hu:En By 3:=⟨fun _=>rfl,fun _=>rfl,fun _=>rfl,fun x=>by simp only[By,Ad,V.share,Bh.shareLL]⟩
def Co (x:D1):List V:=[.row true 1 (x.fb.map B7),.int .i64 x.fi,.int .i64 x.fh]
theorem Hv:Fj Co By 3:=⟨fun _=>rfl,fun _=>rfl,fun x=>by simp only[Co,By,Ad,V.share,Bh.shareLL]⟩
def Cw (x:List Ct):List V:=[.row false 10 (x.map Cp)]
theorem Lr:En Cw 1:=⟨fun _=>rfl,fun _=>rfl,fun _=>rfl,fun x=>by simp only[Cw,Ad,V.share,Gc.shareLL]⟩
def Dr (x:List Ct):List V:=[.row true 10 (x.map Df)]
theorem Ls:Fj Dr Cw 1:=⟨fun _=>rfl,fun _=>rfl,fun x=>by simp only[Dr,Cw,Ad,V.share,Gd.shareLL]⟩
def Cy (x:List Bool):List V:=[.row false 1 (x.map Br)]
theorem Lt:En Cy 1:=⟨fun _=>rfl,fun _=>rfl,fun _=>rfl,fun x=>by simp only[Cy,Ad,V.share,Cd.shareLL]⟩
def Ds (x:List Bool):List V:=[.row true 1 (x.map Br)]
theorem Lu:Fj Ds Cy 1:=⟨fun _=>rfl,fun _=>rfl,fun x=>by simp only[Ds,Cy,Ad,V.share,Cd.shareLL]⟩
def Ak:Nat->Type
 |2=>Int
 |3=>Int
 |4=>Bool
 |5=>Int
 |9=>ByteArray
 |22=>List Int
 |25=>Eb
 |26=>List Int
 |28=>Dp
 |132=>Bd
 |48=>List Bd
 |50=>Au
 |29=>List Au
 |52=>A1
 |30=>List A1
 |32=>C8
 |36=>An
 |38=>Bq
 |40=>Ct
 |68=>List Bq
 |70=>List An
 |73=>Ex
 |148=>D1
 |149=>List Ct
 |191=>List Bool
 |_=>Unit
abbrev Amo:(t:Nat)->Inhabited (Ak t)
 |2=>(inferInstance:Inhabited Int)
 |3=>(inferInstance:Inhabited Int)
 |4=>(inferInstance:Inhabited Bool)
 |5=>(inferInstance:Inhabited Int)
 |9=>(inferInstance:Inhabited ByteArray)
 |22=>(inferInstance:Inhabited (List Int))
 |25=>(inferInstance:Inhabited Eb)
 |26=>(inferInstance:Inhabited (List Int))
 |28=>(inferInstance:Inhabited Dp)
 |132=>(inferInstance:Inhabited Bd)
 |48=>(inferInstance:Inhabited (List Bd))
 |50=>(inferInstance:Inhabited Au)
 |29=>(inferInstance:Inhabited (List Au))
 |52=>(inferInstance:Inhabited A1)
 |30=>(inferInstance:Inhabited (List A1))
 |32=>(inferInstance:Inhabited C8)
 |36=>(inferInstance:Inhabited An)
 |38=>(inferInstance:Inhabited Bq)
 |40=>(inferInstance:Inhabited Ct)
 |68=>(inferInstance:Inhabited (List Bq))
 |70=>(inferInstance:Inhabited (List An))
 |73=>(inferInstance:Inhabited Ex)
 |148=>(inferInstance:Inhabited D1)
 |149=>(inferInstance:Inhabited (List Ct))
 |191=>(inferInstance:Inhabited (List Bool))
 |_=>(by unfold Ak;split<;>infer_instance)
def Aj2:Nat->Nat
 |2=>1
 |3=>1
 |4=>1
 |5=>1
 |9=>1
 |22=>1
 |25=>6
 |26=>1
 |28=>3
 |132=>3
 |48=>1
 |50=>13
 |29=>1
 |52=>5
 |30=>1
 |32=>12
 |36=>2
 |38=>4
 |40=>10
 |68=>1
 |70=>1
 |73=>11
 |148=>3
 |149=>1
 |191=>1
 |_=>0
def Aj3:Nat->Bool
 |2=>true
 |3=>true
 |4=>true
 |5=>true
 |9=>true
 |22=>false
 |25=>true
 |26=>false
 |28=>false
 |132=>true
 |48=>false
 |50=>false
 |29=>false
 |52=>false
 |30=>false
 |32=>false
 |36=>true
 |38=>true
 |40=>false
 |68=>false
 |70=>false
 |73=>false
 |148=>false
 |149=>false
 |191=>false
 |_=>true
def Ao1:Nat->Bool
 |2=>false
 |3=>false
 |4=>false
 |5=>false
 |9=>false
 |22=>false
 |25=>true
 |26=>false
 |28=>true
 |132=>true
 |48=>false
 |50=>true
 |29=>false
 |52=>true
 |30=>false
 |32=>true
 |36=>true
 |38=>true
 |40=>true
 |68=>false
 |70=>false
 |73=>true
 |148=>true
 |149=>false
 |191=>false
 |_=>false
def Aj4:(t:Nat)->Ak t->List V
 |2,x=>Ag x
 |3,x=>Ag x
 |4,x=>Br x
 |5,x=>B7 x
 |9,x=>D2 x
 |22,x=>G9 x
 |25,x=>Ce x
 |26,x=>Ff x
 |28,x=>Cf x
 |132,x=>Ah x
 |48,x=>Bl x
 |50,x=>Be x
 |29,x=>Bv x
 |52,x=>A4 x
 |30,x=>Bm x
 |32,x=>Bw x
 |36,x=>Ao x
 |38,x=>Bf x
 |40,x=>Cp x
 |68,x=>Ch x
 |70,x=>Ba x
 |73,x=>Cv x
 |148,x=>By x
 |149,x=>Cw x
 |191,x=>Cy x
 |_,_=>[]
def Aj5:(t:Nat)->Ak t->List V
 |2,x=>Ag x
 |3,x=>Ag x
 |4,x=>Br x
 |5,x=>B7 x
 |9,x=>D2 x
 |22,x=>Ks x
 |25,x=>Ce x
 |26,x=>Gb x
 |28,x=>Da x
 |132,x=>Ah x
 |48,x=>B8 x
 |50,x=>Cg x
 |29,x=>Dg x
 |52,x=>Bg x
 |30,x=>B9 x
 |32,x=>Dh x
 |36,x=>Ao x
 |38,x=>Bf x
 |40,x=>Df x
 |68,x=>Db x
 |70,x=>Bt x
 |73,x=>Dq x
 |148,x=>Co x
 |149,x=>Dr x
 |191,x=>Ds x
 |_,_=>[]
def Aj6:(t:Nat)->Ak t->List (SV Ak)
 |2,x=>[.int .i64 x 0]
 |3,x=>[.int .i64 x 0]
 |4,x=>[.bool x]
 |5,x=>[.int .u8 x 0]
 |9,x=>[.str x]
 |22,x=>[.row 5 x]
 |25,x=>[.int .i64 x.Az 0,.int .i64 x.Hi 0,.int .i64 x.Fb 0,.int .i64 x.G8 0,.int .i64 x.Fc 0,.int .i64 x.Hj 0]
 |26,x=>[.row 3 x]
 |28,x=>[.row 5 x.Pm,.row 3 x.Vt,.row 3 x.Pn]
 |132,x=>[.int .i64 x.fAt 0,.int .i64 x.Aj0 0,.int .i64 x.Aj1 0]
 |48,x=>[.row 132 x]
 |50,x=>[.int .i64 x.Vt 0,.int .i64 x.Dc 0,.int .i64 x.S5 0,.int .i64 x.fUp 0,.int .i64 x.S6 0,.int .i64 x.Eg 0,.int .i64 x.S7 0,.int .i64 x.S8 0,.row 3 x.Az,.int .i64 x.Ade 0,.int .i64 x.S9 0,.row 132 x.Ga,.row 3 x.Fo]
 |29,x=>[.row 50 x]
 |52,x=>[.int .i64 x.Bk 0,.int .i64 x.Eg 0,.row 3 x.Fo,.row 3 x.Az,.int .i64 x.Xa 0]
 |30,x=>[.row 52 x]
 |32,x=>[.int .i64 x.fC.Az 0,.int .i64 x.fC.Hi 0,.int .i64 x.fC.Fb 0,.int .i64 x.fC.G8 0,.int .i64 x.fC.Fc 0,.int .i64 x.fC.Hj 0,.row 5 x.fP.Pm,.row 3 x.fP.Vt,.row 3 x.fP.Pn,.row 50 x.fL,.row 52 x.fQ,.row 3 x.Adf]
 |36,x=>[.int .i64 x.Bk 0,.int .i64 x.Dc 0]
 |38,x=>[.int .i64 x.fH.Bk 0,.int .i64 x.fH.Dc 0,.int .i64 x.S5 0,.int .i64 x.fNo 0]
 |40,x=>[.int .i64 x.Xb 0,.int .i64 x.fH.Bk 0,.int .i64 x.fH.Dc 0,.int .i64 x.fR.fH.Bk 0,.int .i64 x.fR.fH.Dc 0,.int .i64 x.fR.S5 0,.int .i64 x.fR.fNo 0,.int .i64 x.fN 0,.int .i64 x.fM 0,.row 5 x.fB]
 |68,x=>[.row 38 x]
 |70,x=>[.row 36 x]
 |73,x=>[.int .i64 x.Xc 0,.int .i64 x.fH.Bk 0,.int .i64 x.fH.Dc 0,.int .i64 x.fR.fH.Bk 0,.int .i64 x.fR.fH.Dc 0,.int .i64 x.fR.S5 0,.int .i64 x.fR.fNo 0,.row 5 x.fB,.int .i64 x.Xd 0,.int .i64 x.G8 0,.int .i64 x.Po 0]
 |148,x=>[.row 5 x.fb,.int .i64 x.fi 0,.int .i64 x.fh 0]
 |149,x=>[.row 40 x]
 |191,x=>[.row 4 x]
 |_,_=>[]
def Ci:(t:Nat)->Bool->Ak t->List (SV Ak)
 |2,m,x=>[.int .i64 x 0]
 |3,m,x=>[.int .i64 x 0]
 |4,m,x=>[.bool x]
 |5,m,x=>[.int .u8 x 0]
 |9,m,x=>[.str x]
 |22,m,x=>[.rowT 5 true x]
 |25,m,x=>[.int .i64 x.Az 0,.int .i64 x.Hi 0,.int .i64 x.Fb 0,.int .i64 x.G8 0,.int .i64 x.Fc 0,.int .i64 x.Hj 0]
 |26,m,x=>[.rowT 3 true x]
 |28,m,x=>[.rowT 5 true x.Pm,.rowT 3 true x.Vt,.rowT 3 true x.Pn]
 |132,m,x=>[.int .i64 x.fAt 0,.int .i64 x.Aj0 0,.int .i64 x.Aj1 0]
 |48,m,x=>[.rowT 132 true x]
 |50,true,x=>[.int .i64 x.Vt 0,.int .i64 x.Dc 0,.int .i64 x.S5 0,.int .i64 x.fUp 0,.int .i64 x.S6 0,.int .i64 x.Eg 0,.int .i64 x.S7 0,.int .i64 x.S8 0,.row 3 x.Az,.int .i64 x.Ade 0,.int .i64 x.S9 0,.rowT 132 true x.Ga,.rowT 3 true x.Fo]
 |50,false,x=>[.int .i64 x.Vt 0,.int .i64 x.Dc 0,.int .i64 x.S5 0,.int .i64 x.fUp 0,.int .i64 x.S6 0,.int .i64 x.Eg 0,.int .i64 x.S7 0,.int .i64 x.S8 0,.rowT 3 true x.Az,.int .i64 x.Ade 0,.int .i64 x.S9 0,.rowT 132 true x.Ga,.rowT 3 true x.Fo]
 |29,m,x=>[.rowT 50 m x]
 |52,m,x=>[.int .i64 x.Bk 0,.int .i64 x.Eg 0,.rowT 3 true x.Fo,.rowT 3 true x.Az,.int .i64 x.Xa 0]
 |30,m,x=>[.rowT 52 m x]
 |32,true,x=>[.int .i64 x.fC.Az 0,.int .i64 x.fC.Hi 0,.int .i64 x.fC.Fb 0,.int .i64 x.fC.G8 0,.int .i64 x.fC.Fc 0,.int .i64 x.fC.Hj 0,.rowT 5 true x.fP.Pm,.rowT 3 true x.fP.Vt,.rowT 3 true x.fP.Pn,.rowT 50 true x.fL,.rowT 52 true x.fQ,.rowT 3 true x.Adf]
 |32,false,x=>[.int .i64 x.fC.Az 0,.int .i64 x.fC.Hi 0,.int .i64 x.fC.Fb 0,.int .i64 x.fC.G8 0,.int .i64 x.fC.Fc 0,.int .i64 x.fC.Hj 0,.rowT 5 true x.fP.Pm,.rowT 3 true x.fP.Vt,.rowT 3 true x.fP.Pn,.rowT 50 true x.fL,.rowT 52 false x.fQ,.rowT 3 true x.Adf]
 |36,m,x=>[.int .i64 x.Bk 0,.int .i64 x.Dc 0]
 |38,m,x=>[.int .i64 x.fH.Bk 0,.int .i64 x.fH.Dc 0,.int .i64 x.S5 0,.int .i64 x.fNo 0]
 |40,m,x=>[.int .i64 x.Xb 0,.int .i64 x.fH.Bk 0,.int .i64 x.fH.Dc 0,.int .i64 x.fR.fH.Bk 0,.int .i64 x.fR.fH.Dc 0,.int .i64 x.fR.S5 0,.int .i64 x.fR.fNo 0,.int .i64 x.fN 0,.int .i64 x.fM 0,.rowT 5 true x.fB]
 |68,m,x=>[.rowT 38 true x]
 |70,m,x=>[.rowT 36 true x]
 |73,m,x=>[.int .i64 x.Xc 0,.int .i64 x.fH.Bk 0,.int .i64 x.fH.Dc 0,.int .i64 x.fR.fH.Bk 0,.int .i64 x.fR.fH.Dc 0,.int .i64 x.fR.S5 0,.int .i64 x.fR.fNo 0,.rowT 5 true x.fB,.int .i64 x.Xd 0,.int .i64 x.G8 0,.int .i64 x.Po 0]
 |148,true,x=>[.rowT 5 true x.fb,.int .i64 x.fi 0,.int .i64 x.fh 0]
 |148,false,x=>[.row 5 x.fb,.int .i64 x.fi 0,.int .i64 x.fh 0]
 |149,m,x=>[.rowT 40 m x]
 |191,m,x=>[.rowT 4 true x]
 |_,_,_=>[]
def Aj7:List (SV Ak)->Option (Ak 2)
 |[.int .i64 a0 _]=>some a0
 |_=>none
def Aj8:List (SV Ak)->Option (Ak 3)
 |[.int .i64 a0 _]=>some a0
 |_=>none
def Aj9:List (SV Ak)->Option (Ak 4)
 |[.bool a0]=>some a0
 |_=>none
def Aka:List (SV Ak)->Option (Ak 5)
 |[.int .u8 a0 _]=>some a0
 |_=>none
def Akb:List (SV Ak)->Option (Ak 9)
 |[.str a0]=>some a0
 |_=>none
def Adj:List (SV Ak)->Option (Ak 22)
 |[.row 5 a0]=>some a0
 |_=>none
def Adk:List (SV Ak)->Option (Ak 25)
 |[.int .i64 a0 _,.int .i64 a1 _,.int .i64 a2 _,.int .i64 a3 _,.int .i64 a4 _,.int .i64 a5 _]=>some ⟨a0,a1,a2,a3,a4,a5⟩
 |_=>none
def Adl:List (SV Ak)->Option (Ak 26)
 |[.row 3 a0]=>some a0
 |_=>none
def Adm:List (SV Ak)->Option (Ak 28)
 |[.row 5 a0,.row 3 a1,.row 3 a2]=>some ⟨a0,a1,a2⟩
 |_=>none
def Vu:List (SV Ak)->Option (Ak 132)
 |[.int .i64 a0 _,.int .i64 a1 _,.int .i64 a2 _]=>some ⟨a0,a1,a2⟩
 |_=>none
def Adn:List (SV Ak)->Option (Ak 48)
 |[.row 132 a0]=>some a0
 |_=>none
def Ado:List (SV Ak)->Option (Ak 50)
 |[.int .i64 a0 _,.int .i64 a1 _,.int .i64 a2 _,.int .i64 a3 _,.int .i64 a4 _,.int .i64 a5 _,.int .i64 a6 _,.int .i64 a7 _,.row 3 a8,.int .i64 a9 _,.int .i64 a10 _,.row 132 a11,.row 3 a12]=>some ⟨a0,a1,a2,a3,a4,a5,a6,a7,a8,a9,a10,a11,a12⟩
 |_=>none
def Adp:List (SV Ak)->Option (Ak 29)
 |[.row 50 a0]=>some a0
 |_=>none
def Adq:List (SV Ak)->Option (Ak 52)
 |[.int .i64 a0 _,.int .i64 a1 _,.row 3 a2,.row 3 a3,.int .i64 a4 _]=>some ⟨a0,a1,a2,a3,a4⟩
 |_=>none
def Adr:List (SV Ak)->Option (Ak 30)
 |[.row 52 a0]=>some a0
 |_=>none
def Ads:List (SV Ak)->Option (Ak 32)
 |[.int .i64 a0 _,.int .i64 a1 _,.int .i64 a2 _,.int .i64 a3 _,.int .i64 a4 _,.int .i64 a5 _,.row 5 a6,.row 3 a7,.row 3 a8,.row 50 a9,.row 52 a10,.row 3 a11]=>some ⟨⟨a0,a1,a2,a3,a4,a5⟩,⟨a6,a7,a8⟩,a9,a10,a11⟩
 |_=>none
def Adt:List (SV Ak)->Option (Ak 36)
 |[.int .i64 a0 _,.int .i64 a1 _]=>some ⟨a0,a1⟩
 |_=>none
def Adu:List (SV Ak)->Option (Ak 38)
 |[.int .i64 a0 _,.int .i64 a1 _,.int .i64 a2 _,.int .i64 a3 _]=>some ⟨⟨a0,a1⟩,a2,a3⟩
 |_=>none
def Adv:List (SV Ak)->Option (Ak 40)
 |[.int .i64 a0 _,.int .i64 a1 _,.int .i64 a2 _,.int .i64 a3 _,.int .i64 a4 _,.int .i64 a5 _,.int .i64 a6 _,.int .i64 a7 _,.int .i64 a8 _,.row 5 a9]=>some ⟨a0,⟨a1,a2⟩,⟨⟨a3,a4⟩,a5,a6⟩,a7,a8,a9⟩
 |_=>none
def Adw:List (SV Ak)->Option (Ak 68)
 |[.row 38 a0]=>some a0
 |_=>none
def Adx:List (SV Ak)->Option (Ak 70)
 |[.row 36 a0]=>some a0
 |_=>none
def Ady:List (SV Ak)->Option (Ak 73)
 |[.int .i64 a0 _,.int .i64 a1 _,.int .i64 a2 _,.int .i64 a3 _,.int .i64 a4 _,.int .i64 a5 _,.int .i64 a6 _,.row 5 a7,.int .i64 a8 _,.int .i64 a9 _,.int .i64 a10 _]=>some ⟨a0,⟨a1,a2⟩,⟨⟨a3,a4⟩,a5,a6⟩,a7,a8,a9,a10⟩
 |_=>none
def Vv:List (SV Ak)->Option (Ak 148)
 |[.row 5 a0,.int .i64 a1 _,.int .i64 a2 _]=>some ⟨a0,a1,a2⟩
 |_=>none
def Vw:List (SV Ak)->Option (Ak 149)
 |[.row 40 a0]=>some a0
 |_=>none
def Vx:List (SV Ak)->Option (Ak 191)
 |[.row 4 a0]=>some a0
 |_=>none
def Akc:(t:Nat)->List (SV Ak)->Option (Ak t)
 |2,c=>Aj7 c
 |3,c=>Aj8 c
 |4,c=>Aj9 c
 |5,c=>Aka c
 |9,c=>Akb c
 |22,c=>Adj c
 |25,c=>Adk c
 |26,c=>Adl c
 |28,c=>Adm c
 |132,c=>Vu c
 |48,c=>Adn c
 |50,c=>Ado c
 |29,c=>Adp c
 |52,c=>Adq c
 |30,c=>Adr c
 |32,c=>Ads c
 |36,c=>Adt c
 |38,c=>Adu c
 |40,c=>Adv c
 |68,c=>Adw c
 |70,c=>Adx c
 |73,c=>Ady c
 |148,c=>Vv c
 |149,c=>Vw c
 |191,c=>Vx c
 |_,_=>none
def Vy:List (SV Ak)->Option (Ak 2)
 |[.int .i64 a0 _]=>some a0
 |_=>none
def Vz:List (SV Ak)->Option (Ak 3)
 |[.int .i64 a0 _]=>some a0
 |_=>none
def V0:List (SV Ak)->Option (Ak 4)
 |[.bool a0]=>some a0
 |_=>none
def V3:List (SV Ak)->Option (Ak 5)
 |[.int .u8 a0 _]=>some a0
 |_=>none
def V4:List (SV Ak)->Option (Ak 9)
 |[.str a0]=>some a0
 |_=>none
def Pq:List (SV Ak)->Option (Ak 22)
 |[.rowT 5 true a0]=>some a0
 |_=>none
def Pr:List (SV Ak)->Option (Ak 25)
 |[.int .i64 a0 _,.int .i64 a1 _,.int .i64 a2 _,.int .i64 a3 _,.int .i64 a4 _,.int .i64 a5 _]=>some ⟨a0,a1,a2,a3,a4,a5⟩
 |_=>none
def Ps:List (SV Ak)->Option (Ak 26)
 |[.rowT 3 true a0]=>some a0
 |_=>none
def Pt:List (SV Ak)->Option (Ak 28)
 |[.rowT 5 true a0,.rowT 3 true a1,.rowT 3 true a2]=>some ⟨a0,a1,a2⟩
 |_=>none
def Ky:List (SV Ak)->Option (Ak 132)
 |[.int .i64 a0 _,.int .i64 a1 _,.int .i64 a2 _]=>some ⟨a0,a1,a2⟩
 |_=>none
def Pu:List (SV Ak)->Option (Ak 48)
 |[.rowT 132 true a0]=>some a0
 |_=>none
def Pv:List (SV Ak)->Option (Ak 50)
 |[.int .i64 a0 _,.int .i64 a1 _,.int .i64 a2 _,.int .i64 a3 _,.int .i64 a4 _,.int .i64 a5 _,.int .i64 a6 _,.int .i64 a7 _,.row 3 a8,.int .i64 a9 _,.int .i64 a10 _,.rowT 132 true a11,.rowT 3 true a12]=>some ⟨a0,a1,a2,a3,a4,a5,a6,a7,a8,a9,a10,a11,a12⟩
 |_=>none
def Pw:List (SV Ak)->Option (Ak 50)
 |[.int .i64 a0 _,.int .i64 a1 _,.int .i64 a2 _,.int .i64 a3 _,.int .i64 a4 _,.int .i64 a5 _,.int .i64 a6 _,.int .i64 a7 _,.rowT 3 true a8,.int .i64 a9 _,.int .i64 a10 _,.rowT 132 true a11,.rowT 3 true a12]=>some ⟨a0,a1,a2,a3,a4,a5,a6,a7,a8,a9,a10,a11,a12⟩
 |_=>none
def Px:List (SV Ak)->Option (Ak 29)
 |[.rowT 50 true a0]=>some a0
 |_=>none
def Py:List (SV Ak)->Option (Ak 29)
 |[.rowT 50 false a0]=>some a0
 |_=>none
def Pz:List (SV Ak)->Option (Ak 52)
 |[.int .i64 a0 _,.int .i64 a1 _,.rowT 3 true a2,.rowT 3 true a3,.int .i64 a4 _]=>some ⟨a0,a1,a2,a3,a4⟩
 |_=>none
def P0:List (SV Ak)->Option (Ak 30)
 |[.rowT 52 true a0]=>some a0
 |_=>none
def P3:List (SV Ak)->Option (Ak 30)
 |[.rowT 52 false a0]=>some a0
 |_=>none
def P4:List (SV Ak)->Option (Ak 32)
 |[.int .i64 a0 _,.int .i64 a1 _,.int .i64 a2 _,.int .i64 a3 _,.int .i64 a4 _,.int .i64 a5 _,.rowT 5 true a6,.rowT 3 true a7,.rowT 3 true a8,.rowT 50 true a9,.rowT 52 true a10,.rowT 3 true a11]=>some ⟨⟨a0,a1,a2,a3,a4,a5⟩,⟨a6,a7,a8⟩,a9,a10,a11⟩
 |_=>none
def P5:List (SV Ak)->Option (Ak 32)
 |[.int .i64 a0 _,.int .i64 a1 _,.int .i64 a2 _,.int .i64 a3 _,.int .i64 a4 _,.int .i64 a5 _,.rowT 5 true a6,.rowT 3 true a7,.rowT 3 true a8,.rowT 50 true a9,.rowT 52 false a10,.rowT 3 true a11]=>some ⟨⟨a0,a1,a2,a3,a4,a5⟩,⟨a6,a7,a8⟩,a9,a10,a11⟩
 |_=>none
def P6:List (SV Ak)->Option (Ak 36)
 |[.int .i64 a0 _,.int .i64 a1 _]=>some ⟨a0,a1⟩
 |_=>none
def P7:List (SV Ak)->Option (Ak 38)
 |[.int .i64 a0 _,.int .i64 a1 _,.int .i64 a2 _,.int .i64 a3 _]=>some ⟨⟨a0,a1⟩,a2,a3⟩
 |_=>none
def P8:List (SV Ak)->Option (Ak 40)
 |[.int .i64 a0 _,.int .i64 a1 _,.int .i64 a2 _,.int .i64 a3 _,.int .i64 a4 _,.int .i64 a5 _,.int .i64 a6 _,.int .i64 a7 _,.int .i64 a8 _,.rowT 5 true a9]=>some ⟨a0,⟨a1,a2⟩,⟨⟨a3,a4⟩,a5,a6⟩,a7,a8,a9⟩
 |_=>none
def P9:List (SV Ak)->Option (Ak 68)
 |[.rowT 38 true a0]=>some a0
 |_=>none
def Qa:List (SV Ak)->Option (Ak 70)
 |[.rowT 36 true a0]=>some a0
 |_=>none
def Qb:List (SV Ak)->Option (Ak 73)
 |[.int .i64 a0 _,.int .i64 a1 _,.int .i64 a2 _,.int .i64 a3 _,.int .i64 a4 _,.int .i64 a5 _,.int .i64 a6 _,.rowT 5 true a7,.int .i64 a8 _,.int .i64 a9 _,.int .i64 a10 _]=>some ⟨a0,⟨a1,a2⟩,⟨⟨a3,a4⟩,a5,a6⟩,a7,a8,a9,a10⟩
 |_=>none
def Kz:List (SV Ak)->Option (Ak 148)
 |[.rowT 5 true a0,.int .i64 a1 _,.int .i64 a2 _]=>some ⟨a0,a1,a2⟩
 |_=>none
def K2:List (SV Ak)->Option (Ak 148)
 |[.row 5 a0,.int .i64 a1 _,.int .i64 a2 _]=>some ⟨a0,a1,a2⟩
 |_=>none
def K3:List (SV Ak)->Option (Ak 149)
 |[.rowT 40 true a0]=>some a0
 |_=>none
def K4:List (SV Ak)->Option (Ak 149)
 |[.rowT 40 false a0]=>some a0
 |_=>none
def K5:List (SV Ak)->Option (Ak 191)
 |[.rowT 4 true a0]=>some a0
 |_=>none
def Akd:(t:Nat)->Bool->List (SV Ak)->Option (Ak t)
 |2,_,c=>Vy c
 |3,_,c=>Vz c
 |4,_,c=>V0 c
 |5,_,c=>V3 c
 |9,_,c=>V4 c
 |22,_,c=>Pq c
 |25,_,c=>Pr c
 |26,_,c=>Ps c
 |28,_,c=>Pt c
 |132,_,c=>Ky c
 |48,_,c=>Pu c
 |50,true,c=>Pv c
 |50,false,c=>Pw c
 |29,true,c=>Px c
 |29,false,c=>Py c
 |52,_,c=>Pz c
 |30,true,c=>P0 c
 |30,false,c=>P3 c
 |32,true,c=>P4 c
 |32,false,c=>P5 c
 |36,_,c=>P6 c
 |38,_,c=>P7 c
 |40,_,c=>P8 c
 |68,_,c=>P9 c
 |70,_,c=>Qa c
 |73,_,c=>Qb c
 |148,true,c=>Kz c
 |148,false,c=>K2 c
 |149,true,c=>K3 c
 |149,false,c=>K4 c
 |191,_,c=>K5 c
 |_,_,_=>none
def Xe (t j:Nat):Bool:=(Nat.beq t 50&&Nat.beq j 8)||((Nat.beq t 50||Nat.beq t 29||Nat.beq t 32)&&Nat.beq j 1000)
def tyU:Un:=⟨Ak,Amo,Aj2,Aj3,Ao1,Aj4,Aj5,Aj6,Ci,Akc,Akd,Xe⟩
theorem Ake: ∀x,(Ks x).all V.fresh=true:=fun x=>by
 simp only[Ks,Fw,List.all_nil,Av (f:=B7) (fun _=>rfl),Za,Zb,Zc,Bool.and_self]
theorem Agl: ∀x,(Gb x).all V.fresh=true:=fun x=>by
 simp only[Gb,Fw,List.all_nil,Av (f:=Ag) (fun _=>rfl),Za,Zb,Zc,Bool.and_self]
theorem Qc: ∀x,(Da x).all V.fresh=true:=fun x=>by
 simp only[Da,Fw,List.all_nil,Av (f:=B7) (fun _=>rfl),Av (f:=Ag) (fun _=>rfl),Za,Zb,Zc,Bool.and_self]
theorem K6: ∀x,(B8 x).all V.fresh=true:=fun x=>by
 simp only[B8,Fw,List.all_nil,Av (f:=Ah) (fun _=>rfl),Za,Zb,Zc,Bool.and_self]
theorem Fp: ∀x,(Bg x).all V.fresh=true:=fun x=>by
 simp only[Bg,Fw,List.all_nil,Av (f:=Ag) (fun _=>rfl),Za,Zb,Zc,Bool.and_self]
theorem K7: ∀x,(B9 x).all V.fresh=true:=fun x=>by
 simp only[B9,Fw,List.all_nil,Av Fp,Za,Zb,Zc,Bool.and_self]
theorem K8: ∀x,(Df x).all V.fresh=true:=fun x=>by
 simp only[Df,Fw,List.all_nil,Av (f:=B7) (fun _=>rfl),Za,Zb,Zc,Bool.and_self]
theorem Qd: ∀x,(Db x).all V.fresh=true:=fun x=>by
 simp only[Db,Fw,List.all_nil,Av (f:=Bf) (fun _=>rfl),Za,Zb,Zc,Bool.and_self]
theorem Hw: ∀x,(Bt x).all V.fresh=true:=fun x=>by
 simp only[Bt,Fw,List.all_nil,Av (f:=Ao) (fun _=>rfl),Za,Zb,Zc,Bool.and_self]
theorem Tc: ∀x,(Dq x).all V.fresh=true:=fun x=>by
 simp only[Dq,Fw,List.all_nil,Av (f:=B7) (fun _=>rfl),Za,Zb,Zc,Bool.and_self]
theorem Lw: ∀x,(Co x).all V.fresh=true:=fun x=>by
 simp only[Co,Fw,List.all_nil,Av (f:=B7) (fun _=>rfl),Za,Zb,Zc,Bool.and_self]
theorem Td: ∀x,(Dr x).all V.fresh=true:=fun x=>by
 simp only[Dr,Fw,List.all_nil,Av K8,Za,Zb,Zc,Bool.and_self]
theorem Te: ∀x,(Ds x).all V.fresh=true:=fun x=>by
 simp only[Ds,Fw,List.all_nil,Av (f:=Br) (fun _=>rfl),Za,Zb,Zc,Bool.and_self]
theorem Amp (c x)(h:Aj7 c=some x):c.map (SV.toV tyU)=Ag x:=by
  unfold Aj7 at h;split at h
  ·cases h;rfl
  ·cases h
theorem Agm (c x)(h:Vy c=some x):c.map (SV.toV tyU)=(Ci 2 true x).map (SV.toV tyU):=by
  unfold Vy at h;split at h
  ·cases h;rfl
  ·cases h
theorem Ao2:G7 tyU 2:=⟨Ax,Ta,fun _=>rfl,fun _=>rfl,fun _ _=>rfl,Amp,fun _=>Agm,fun _=>rfl,fun _=>rfl,fun _ _=>rfl,fun _ _=>rfl,fun _=>rfl,A9 fun _=>rfl⟩
theorem Amq (c x)(h:Aj8 c=some x):c.map (SV.toV tyU)=Ag x:=by
  unfold Aj8 at h;split at h
  ·cases h;rfl
  ·cases h
theorem Agn (c x)(h:Vz c=some x):c.map (SV.toV tyU)=(Ci 3 true x).map (SV.toV tyU):=by
  unfold Vz at h;split at h
  ·cases h;rfl
  ·cases h
theorem Ao3:G7 tyU 3:=⟨Ax,Ta,fun _=>rfl,fun _=>rfl,fun _ _=>rfl,Amq,fun _=>Agn,fun _=>rfl,fun _=>rfl,fun _ _=>rfl,fun _ _=>rfl,fun _=>rfl,A9 fun _=>rfl⟩
theorem Amr (c x)(h:Aj9 c=some x):c.map (SV.toV tyU)=Br x:=by
  unfold Aj9 at h;split at h
  ·cases h;rfl
  ·cases h
theorem Ago (c x)(h:V0 c=some x):c.map (SV.toV tyU)=(Ci 4 true x).map (SV.toV tyU):=by
  unfold V0 at h;split at h
  ·cases h;rfl
  ·cases h
theorem Ao4:G7 tyU 4:=⟨Cd,Pp,fun _=>rfl,fun _=>rfl,fun _ _=>rfl,Amr,fun _=>Ago,fun _=>rfl,fun _=>rfl,fun _ _=>rfl,fun _ _=>rfl,fun _=>rfl,A9 fun _=>rfl⟩
theorem Ams (c x)(h:Aka c=some x):c.map (SV.toV tyU)=B7 x:=by
  unfold Aka at h;split at h
  ·cases h;rfl
  ·cases h
theorem Agp (c x)(h:V3 c=some x):c.map (SV.toV tyU)=(Ci 5 true x).map (SV.toV tyU):=by
  unfold V3 at h;split at h
  ·cases h;rfl
  ·cases h
theorem Ao5:G7 tyU 5:=⟨Bh,Agk,fun _=>rfl,fun _=>rfl,fun _ _=>rfl,Ams,fun _=>Agp,fun _=>rfl,fun _=>rfl,fun _ _=>rfl,fun _ _=>rfl,fun _=>rfl,A9 fun _=>rfl⟩
theorem Amt (c x)(h:Akb c=some x):c.map (SV.toV tyU)=D2 x:=by
  unfold Akb at h;split at h
  ·cases h;rfl
  ·cases h
theorem Agq (c x)(h:V4 c=some x):c.map (SV.toV tyU)=(Ci 9 true x).map (SV.toV tyU):=by
  unfold V4 at h;split at h
  ·cases h;rfl
  ·cases h
theorem Ao6:G7 tyU 9:=⟨Ec,Tb,fun _=>rfl,fun _=>rfl,fun _ _=>rfl,Amt,fun _=>Agq,fun _=>rfl,fun _=>rfl,fun _ _=>rfl,fun _ _=>rfl,fun _=>rfl,A9 fun _=>rfl⟩
theorem Akf (c x)(h:Adj c=some x):c.map (SV.toV tyU)=G9 x:=by
  unfold Adj at h;split at h
  ·cases h;rfl
  ·cases h
theorem Adz (c x)(h:Pq c=some x):c.map (SV.toV tyU)=(Ci 22 true x).map (SV.toV tyU):=by
  unfold Pq at h;split at h
  ·cases h;rfl
  ·cases h
theorem Amu:G7 tyU 22:=⟨Adh,Adi,fun _=>rfl,fun _=>rfl,fun _ _=>rfl,Akf,fun _=>Adz,(fun h=>by cases h),fun _=>rfl,fun _ _=>rfl,fun x _=>Ake x,fun _=>rfl,A9 fun _=>rfl⟩
theorem Akg (c x)(h:Adk c=some x):c.map (SV.toV tyU)=Ce x:=by
  unfold Adk at h;split at h
  ·cases h;rfl
  ·cases h
theorem Ad0 (c x)(h:Pr c=some x):c.map (SV.toV tyU)=(Ci 25 true x).map (SV.toV tyU):=by
  unfold Pr at h;split at h
  ·cases h;rfl
  ·cases h
theorem Amv:G7 tyU 25:=⟨C9,Kt,fun _=>rfl,fun _=>rfl,fun _ _=>rfl,Akg,fun _=>Ad0,fun _=>rfl,fun _=>rfl,fun _ _=>rfl,fun _ _=>rfl,fun _=>rfl,A9 fun _=>rfl⟩
theorem Akh (c x)(h:Adl c=some x):c.map (SV.toV tyU)=Ff x:=by
  unfold Adl at h;split at h
  ·cases h;rfl
  ·cases h
theorem Ad1 (c x)(h:Ps c=some x):c.map (SV.toV tyU)=(Ci 26 true x).map (SV.toV tyU):=by
  unfold Ps at h;split at h
  ·cases h;rfl
  ·cases h
theorem Amw:G7 tyU 26:=⟨Zd,Ze,fun _=>rfl,fun _=>rfl,fun _ _=>rfl,Akh,fun _=>Ad1,(fun h=>by cases h),fun _=>rfl,fun _ _=>rfl,fun x _=>Agl x,fun _=>rfl,A9 fun _=>rfl⟩
theorem Aki (c x)(h:Adm c=some x):c.map (SV.toV tyU)=Cf x:=by
  unfold Adm at h;split at h
  ·cases h;rfl
  ·cases h
theorem Ad2 (c x)(h:Pt c=some x):c.map (SV.toV tyU)=(Ci 28 true x).map (SV.toV tyU):=by
  unfold Pt at h;split at h
  ·cases h;rfl
  ·cases h
theorem Amx:G7 tyU 28:=⟨Ku,Kv,fun _=>rfl,fun _=>rfl,fun _ _=>rfl,Aki,fun _=>Ad2,(fun h=>by cases h),fun _=>rfl,fun _ _=>rfl,fun x _=>Qc x,fun _=>rfl,A9 fun _=>rfl⟩
theorem Agr (c x)(h:Vu c=some x):c.map (SV.toV tyU)=Ah x:=by
  unfold Vu at h;split at h
  ·cases h;rfl
  ·cases h
theorem Zf (c x)(h:Ky c=some x):c.map (SV.toV tyU)=(Ci 132 true x).map (SV.toV tyU):=by
  unfold Ky at h;split at h
  ·cases h;rfl
  ·cases h
theorem Akj:G7 tyU 132:=⟨Ar,Ho,fun _=>rfl,fun _=>rfl,fun _ _=>rfl,Agr,fun _=>Zf,fun _=>rfl,fun _=>rfl,fun _ _=>rfl,fun _ _=>rfl,fun _=>rfl,A9 fun _=>rfl⟩
theorem Akk (c x)(h:Adn c=some x):c.map (SV.toV tyU)=Bl x:=by
  unfold Adn at h;split at h
  ·cases h;rfl
  ·cases h
theorem Ad3 (c x)(h:Pu c=some x):c.map (SV.toV tyU)=(Ci 48 true x).map (SV.toV tyU):=by
  unfold Pu at h;split at h
  ·cases h;rfl
  ·cases h
theorem Amy:G7 tyU 48:=⟨Ha,Hb,fun _=>rfl,fun _=>rfl,fun _ _=>rfl,Akk,fun _=>Ad3,(fun h=>by cases h),fun _=>rfl,fun _ _=>rfl,fun x _=>K6 x,fun _=>rfl,A9 fun _=>rfl⟩
theorem Akl (c x)(h:Ado c=some x):c.map (SV.toV tyU)=Be x:=by
  unfold Ado at h;split at h
  ·cases h;rfl
  ·cases h
theorem Ad4 (c x)(h:Pv c=some x):c.map (SV.toV tyU)=(Ci 50 true x).map (SV.toV tyU):=by
  unfold Pv at h;split at h
  ·cases h;rfl
  ·cases h
theorem Ad5 (c x)(h:Pw c=some x):c.map (SV.toV tyU)=(Ci 50 false x).map (SV.toV tyU):=by
  unfold Pw at h;split at h
  ·cases h;rfl
  ·cases h
theorem Akm (x:Au)(j:Nat)(v:V)(hj:(Cg x)[j]? =some v)(e:Xe 50 j=true):v.share=v:=by
 rcases Bool.or_eq_true_iff.1 e with h|h
 ·rw[show j=8 from Z2 h]at hj;cases hj;show V.row false _ (shareLL _)=_;rw[Ax.shareLL]
 ·rw[show j=1000 from Z2 h]at hj;cases hj
theorem Amz:G7 tyU 50:=⟨D6,D7,fun _=>rfl,fun _=>rfl,(fun m _=>by cases m<;>rfl),Akl,fun m=>match m with|true=>Ad4|false=>Ad5,(fun h=>by cases h),fun _=>rfl,(fun m _=>by cases m<;>rfl),(fun _ h=>by cases h),fun _=>rfl,Akm⟩
theorem Akn (c x)(h:Adp c=some x):c.map (SV.toV tyU)=Bv x:=by
  unfold Adp at h;split at h
  ·cases h;rfl
  ·cases h
theorem Ad6 (c x)(h:Px c=some x):c.map (SV.toV tyU)=(Ci 29 true x).map (SV.toV tyU):=by
  unfold Px at h;split at h
  ·cases h;rfl
  ·cases h
theorem Ad7 (c x)(h:Py c=some x):c.map (SV.toV tyU)=(Ci 29 false x).map (SV.toV tyU):=by
  unfold Py at h;split at h
  ·cases h;rfl
  ·cases h
theorem Ako (x:List Au)(j:Nat)(v:V)(hj:(Dg x)[j]? =some v)(e:Xe 29 j=true):v.share=v:=by
 rw[show j=1000 from Z2 e]at hj;cases hj
theorem Am0:G7 tyU 29:=⟨Hp,Hq,fun _=>rfl,fun _=>rfl,fun _ _=>rfl,Akn,fun m=>match m with|true=>Ad6|false=>Ad7,(fun h=>by cases h),fun _=>rfl,fun _ _=>rfl,(fun _ h=>by cases h),fun _=>rfl,Ako⟩
theorem Akp (c x)(h:Adq c=some x):c.map (SV.toV tyU)=A4 x:=by
  unfold Adq at h;split at h
  ·cases h;rfl
  ·cases h
theorem Ad8 (c x)(h:Pz c=some x):c.map (SV.toV tyU)=(Ci 52 true x).map (SV.toV tyU):=by
  unfold Pz at h;split at h
  ·cases h;rfl
  ·cases h
theorem Am1:G7 tyU 52:=⟨Dw,Dx,fun _=>rfl,fun _=>rfl,fun _ _=>rfl,Akp,fun _=>Ad8,(fun h=>by cases h),fun _=>rfl,fun _ _=>rfl,fun x _=>Fp x,fun _=>rfl,A9 fun _=>rfl⟩
theorem Akq (c x)(h:Adr c=some x):c.map (SV.toV tyU)=Bm x:=by
  unfold Adr at h;split at h
  ·cases h;rfl
  ·cases h
theorem Ad9 (c x)(h:P0 c=some x):c.map (SV.toV tyU)=(Ci 30 true x).map (SV.toV tyU):=by
  unfold P0 at h;split at h
  ·cases h;rfl
  ·cases h
theorem Aea (c x)(h:P3 c=some x):c.map (SV.toV tyU)=(Ci 30 false x).map (SV.toV tyU):=by
  unfold P3 at h;split at h
  ·cases h;rfl
  ·cases h
theorem Am2:G7 tyU 30:=⟨Hc,Hd,fun _=>rfl,fun _=>rfl,fun _ _=>rfl,Akq,fun m=>match m with|true=>Ad9|false=>Aea,(fun h=>by cases h),fun _=>rfl,fun _ _=>rfl,fun x _=>K7 x,fun _=>rfl,A9 fun _=>rfl⟩
theorem Akr (c x)(h:Ads c=some x):c.map (SV.toV tyU)=Bw x:=by
  unfold Ads at h;split at h
  ·cases h;rfl
  ·cases h
theorem Aeb (c x)(h:P4 c=some x):c.map (SV.toV tyU)=(Ci 32 true x).map (SV.toV tyU):=by
  unfold P4 at h;split at h
  ·cases h;rfl
  ·cases h
theorem Aec (c x)(h:P5 c=some x):c.map (SV.toV tyU)=(Ci 32 false x).map (SV.toV tyU):=by
  unfold P5 at h;split at h
  ·cases h;rfl
  ·cases h
theorem Aks (x:C8)(j:Nat)(v:V)(hj:(Dh x)[j]? =some v)(e:Xe 32 j=true):v.share=v:=by
 rw[show j=1000 from Z2 e]at hj;cases hj
theorem Am3:G7 tyU 32:=⟨Hr,Hs,fun _=>rfl,fun _=>rfl,(fun m _=>by cases m<;>rfl),Akr,fun m=>match m with|true=>Aeb|false=>Aec,(fun h=>by cases h),fun _=>rfl,(fun m _=>by cases m<;>rfl),(fun _ h=>by cases h),fun _=>rfl,Aks⟩
theorem Akt (c x)(h:Adt c=some x):c.map (SV.toV tyU)=Ao x:=by
  unfold Adt at h;split at h
  ·cases h;rfl
  ·cases h
theorem Aed (c x)(h:P6 c=some x):c.map (SV.toV tyU)=(Ci 36 true x).map (SV.toV tyU):=by
  unfold P6 at h;split at h
  ·cases h;rfl
  ·cases h
theorem Am4:G7 tyU 36:=⟨A6,He,fun _=>rfl,fun _=>rfl,fun _ _=>rfl,Akt,fun _=>Aed,fun _=>rfl,fun _=>rfl,fun _ _=>rfl,fun _ _=>rfl,fun _=>rfl,A9 fun _=>rfl⟩
theorem Aku (c x)(h:Adu c=some x):c.map (SV.toV tyU)=Bf x:=by
  unfold Adu at h;split at h
  ·cases h;rfl
  ·cases h
theorem Aee (c x)(h:P7 c=some x):c.map (SV.toV tyU)=(Ci 38 true x).map (SV.toV tyU):=by
  unfold P7 at h;split at h
  ·cases h;rfl
  ·cases h
theorem Am5:G7 tyU 38:=⟨Bx,Lo,fun _=>rfl,fun _=>rfl,fun _ _=>rfl,Aku,fun _=>Aee,fun _=>rfl,fun _=>rfl,fun _ _=>rfl,fun _ _=>rfl,fun _=>rfl,A9 fun _=>rfl⟩
theorem Akv (c x)(h:Adv c=some x):c.map (SV.toV tyU)=Cp x:=by
  unfold Adv at h;split at h
  ·cases h;rfl
  ·cases h
theorem Aef (c x)(h:P8 c=some x):c.map (SV.toV tyU)=(Ci 40 true x).map (SV.toV tyU):=by
  unfold P8 at h;split at h
  ·cases h;rfl
  ·cases h
theorem Am6:G7 tyU 40:=⟨Gc,Gd,fun _=>rfl,fun _=>rfl,fun _ _=>rfl,Akv,fun _=>Aef,(fun h=>by cases h),fun _=>rfl,fun _ _=>rfl,fun x _=>K8 x,fun _=>rfl,A9 fun _=>rfl⟩
theorem Akw (c x)(h:Adw c=some x):c.map (SV.toV tyU)=Ch x:=by
  unfold Adw at h;split at h
  ·cases h;rfl
  ·cases h
theorem Aeg (c x)(h:P9 c=some x):c.map (SV.toV tyU)=(Ci 68 true x).map (SV.toV tyU):=by
  unfold P9 at h;split at h
  ·cases h;rfl
  ·cases h
theorem Am7:G7 tyU 68:=⟨Kw,Kx,fun _=>rfl,fun _=>rfl,fun _ _=>rfl,Akw,fun _=>Aeg,(fun h=>by cases h),fun _=>rfl,fun _ _=>rfl,fun x _=>Qd x,fun _=>rfl,A9 fun _=>rfl⟩
theorem Akx (c x)(h:Adx c=some x):c.map (SV.toV tyU)=Ba x:=by
  unfold Adx at h;split at h
  ·cases h;rfl
  ·cases h
theorem Aeh (c x)(h:Qa c=some x):c.map (SV.toV tyU)=(Ci 70 true x).map (SV.toV tyU):=by
  unfold Qa at h;split at h
  ·cases h;rfl
  ·cases h
theorem Am8:G7 tyU 70:=⟨Ge,Gf,fun _=>rfl,fun _=>rfl,fun _ _=>rfl,Akx,fun _=>Aeh,(fun h=>by cases h),fun _=>rfl,fun _ _=>rfl,fun x _=>Hw x,fun _=>rfl,A9 fun _=>rfl⟩
theorem Aky (c x)(h:Ady c=some x):c.map (SV.toV tyU)=Cv x:=by
  unfold Ady at h;split at h
  ·cases h;rfl
  ·cases h
theorem Aei (c x)(h:Qb c=some x):c.map (SV.toV tyU)=(Ci 73 true x).map (SV.toV tyU):=by
  unfold Qb at h;split at h
  ·cases h;rfl
  ·cases h
theorem Am9:G7 tyU 73:=⟨Lp,Lq,fun _=>rfl,fun _=>rfl,fun _ _=>rfl,Aky,fun _=>Aei,(fun h=>by cases h),fun _=>rfl,fun _ _=>rfl,fun x _=>Tc x,fun _=>rfl,A9 fun _=>rfl⟩
theorem Ags (c x)(h:Vv c=some x):c.map (SV.toV tyU)=By x:=by
  unfold Vv at h;split at h
  ·cases h;rfl
  ·cases h
theorem Zg (c x)(h:Kz c=some x):c.map (SV.toV tyU)=(Ci 148 true x).map (SV.toV tyU):=by
  unfold Kz at h;split at h
  ·cases h;rfl
  ·cases h
theorem Zh (c x)(h:K2 c=some x):c.map (SV.toV tyU)=(Ci 148 false x).map (SV.toV tyU):=by
  unfold K2 at h;split at h
  ·cases h;rfl
  ·cases h
theorem Akz:G7 tyU 148:=⟨Hu,Hv,fun _=>rfl,fun _=>rfl,(fun m _=>by cases m<;>rfl),Ags,fun m=>match m with|true=>Zg|false=>Zh,(fun h=>by cases h),fun _=>rfl,(fun m _=>by cases m<;>rfl),fun x _=>Lw x,fun _=>rfl,A9 fun _=>rfl⟩
theorem Agt (c x)(h:Vw c=some x):c.map (SV.toV tyU)=Cw x:=by
  unfold Vw at h;split at h
  ·cases h;rfl
  ·cases h
theorem Zi (c x)(h:K3 c=some x):c.map (SV.toV tyU)=(Ci 149 true x).map (SV.toV tyU):=by
  unfold K3 at h;split at h
  ·cases h;rfl
  ·cases h
theorem Zj (c x)(h:K4 c=some x):c.map (SV.toV tyU)=(Ci 149 false x).map (SV.toV tyU):=by
  unfold K4 at h;split at h
  ·cases h;rfl
  ·cases h
theorem Ak0:G7 tyU 149:=⟨Lr,Ls,fun _=>rfl,fun _=>rfl,fun _ _=>rfl,Agt,fun m=>match m with|true=>Zi|false=>Zj,(fun h=>by cases h),fun _=>rfl,fun _ _=>rfl,fun x _=>Td x,fun _=>rfl,A9 fun _=>rfl⟩
theorem Agu (c x)(h:Vx c=some x):c.map (SV.toV tyU)=Cy x:=by
  unfold Vx at h;split at h
  ·cases h;rfl
  ·cases h
theorem Zk (c x)(h:K5 c=some x):c.map (SV.toV tyU)=(Ci 191 true x).map (SV.toV tyU):=by
  unfold K5 at h;split at h
  ·cases h;rfl
  ·cases h
theorem Ak1:G7 tyU 191:=⟨Lt,Lu,fun _=>rfl,fun _=>rfl,fun _ _=>rfl,Agu,fun _=>Zk,(fun h=>by cases h),fun _=>rfl,fun _ _=>rfl,fun x _=>Te x,fun _=>rfl,A9 fun _=>rfl⟩
theorem Agv{t:Nat}(h2:t≠2)(h3:t≠3)(h4:t≠4)(h5:t≠5)(h9:t≠9)(h22:t≠22)(h25:t≠25)(h26:t≠26)(h28:t≠28)(h132:t≠132)(h48:t≠48)(h50:t≠50)(h29:t≠29)(h52:t≠52)(h30:t≠30)(h32:t≠32)(h36:t≠36)(h38:t≠38)(h40:t≠40)(h68:t≠68)(h70:t≠70)(h73:t≠73)(h148:t≠148)(h149:t≠149)(h191:t≠191):Aj2 t=0:=by
 unfold Aj2;split<;>first|rfl|contradiction
theorem Agw{t:Nat}(h2:t≠2)(h3:t≠3)(h4:t≠4)(h5:t≠5)(h9:t≠9)(h22:t≠22)(h25:t≠25)(h26:t≠26)(h28:t≠28)(h132:t≠132)(h48:t≠48)(h50:t≠50)(h29:t≠29)(h52:t≠52)(h30:t≠30)(h32:t≠32)(h36:t≠36)(h38:t≠38)(h40:t≠40)(h68:t≠68)(h70:t≠70)(h73:t≠73)(h148:t≠148)(h149:t≠149)(h191:t≠191)(x):Aj4 t x=[]:=by
 unfold Aj4;split<;>first|rfl|contradiction
theorem Agx{t:Nat}(h2:t≠2)(h3:t≠3)(h4:t≠4)(h5:t≠5)(h9:t≠9)(h22:t≠22)(h25:t≠25)(h26:t≠26)(h28:t≠28)(h132:t≠132)(h48:t≠48)(h50:t≠50)(h29:t≠29)(h52:t≠52)(h30:t≠30)(h32:t≠32)(h36:t≠36)(h38:t≠38)(h40:t≠40)(h68:t≠68)(h70:t≠70)(h73:t≠73)(h148:t≠148)(h149:t≠149)(h191:t≠191)(x):Aj5 t x=[]:=by
 unfold Aj5;split<;>first|rfl|contradiction
theorem Agy{t:Nat}(h2:t≠2)(h3:t≠3)(h4:t≠4)(h5:t≠5)(h9:t≠9)(h22:t≠22)(h25:t≠25)(h26:t≠26)(h28:t≠28)(h132:t≠132)(h48:t≠48)(h50:t≠50)(h29:t≠29)(h52:t≠52)(h30:t≠30)(h32:t≠32)(h36:t≠36)(h38:t≠38)(h40:t≠40)(h68:t≠68)(h70:t≠70)(h73:t≠73)(h148:t≠148)(h149:t≠149)(h191:t≠191)(x):Aj6 t x=[]:=by
 unfold Aj6;split<;>first|rfl|contradiction
theorem Agz{t:Nat}(h2:t≠2)(h3:t≠3)(h4:t≠4)(h5:t≠5)(h9:t≠9)(h22:t≠22)(h25:t≠25)(h26:t≠26)(h28:t≠28)(h132:t≠132)(h48:t≠48)(h50:t≠50)(h29:t≠29)(h52:t≠52)(h30:t≠30)(h32:t≠32)(h36:t≠36)(h38:t≠38)(h40:t≠40)(h68:t≠68)(h70:t≠70)(h73:t≠73)(h148:t≠148)(h149:t≠149)(h191:t≠191)(m)(x):Ci t m x=[]:=by
 unfold Ci;split<;>first|rfl|contradiction
theorem Ag0{t:Nat}(h2:t≠2)(h3:t≠3)(h4:t≠4)(h5:t≠5)(h9:t≠9)(h22:t≠22)(h25:t≠25)(h26:t≠26)(h28:t≠28)(h132:t≠132)(h48:t≠48)(h50:t≠50)(h29:t≠29)(h52:t≠52)(h30:t≠30)(h32:t≠32)(h36:t≠36)(h38:t≠38)(h40:t≠40)(h68:t≠68)(h70:t≠70)(h73:t≠73)(h148:t≠148)(h149:t≠149)(h191:t≠191)(c):Akc t c=none:=by
 unfold Akc;split<;>first|rfl|contradiction
theorem Ag1{t:Nat}(h2:t≠2)(h3:t≠3)(h4:t≠4)(h5:t≠5)(h9:t≠9)(h22:t≠22)(h25:t≠25)(h26:t≠26)(h28:t≠28)(h132:t≠132)(h48:t≠48)(h50:t≠50)(h29:t≠29)(h52:t≠52)(h30:t≠30)(h32:t≠32)(h36:t≠36)(h38:t≠38)(h40:t≠40)(h68:t≠68)(h70:t≠70)(h73:t≠73)(h148:t≠148)(h149:t≠149)(h191:t≠191)(m)(c):Akd t m c=none:=by
 unfold Akd;split<;>first|rfl|contradiction
theorem df{t:Nat}(h2:t≠2)(h3:t≠3)(h4:t≠4)(h5:t≠5)(h9:t≠9)(h22:t≠22)(h25:t≠25)(h26:t≠26)(h28:t≠28)(h132:t≠132)(h48:t≠48)(h50:t≠50)(h29:t≠29)(h52:t≠52)(h30:t≠30)(h32:t≠32)(h36:t≠36)(h38:t≠38)(h40:t≠40)(h68:t≠68)(h70:t≠70)(h73:t≠73)(h148:t≠148)(h149:t≠149)(h191:t≠191):Dft tyU t:=⟨Agv h2 h3 h4 h5 h9 h22 h25 h26 h28 h132 h48 h50 h29 h52 h30 h32 h36 h38 h40 h68 h70 h73 h148 h149 h191,Agw h2 h3 h4 h5 h9 h22 h25 h26 h28 h132 h48 h50 h29 h52 h30 h32 h36 h38 h40 h68 h70 h73 h148 h149 h191,Agx h2 h3 h4 h5 h9 h22 h25 h26 h28 h132 h48 h50 h29 h52 h30 h32 h36 h38 h40 h68 h70 h73 h148 h149 h191,Agy h2 h3 h4 h5 h9 h22 h25 h26 h28 h132 h48 h50 h29 h52 h30 h32 h36 h38 h40 h68 h70 h73 h148 h149 h191,Agz h2 h3 h4 h5 h9 h22 h25 h26 h28 h132 h48 h50 h29 h52 h30 h32 h36 h38 h40 h68 h70 h73 h148 h149 h191,Ag0 h2 h3 h4 h5 h9 h22 h25 h26 h28 h132 h48 h50 h29 h52 h30 h32 h36 h38 h40 h68 h70 h73 h148 h149 h191,Ag1 h2 h3 h4 h5 h9 h22 h25 h26 h28 h132 h48 h50 h29 h52 h30 h32 h36 h38 h40 h68 h70 h73 h148 h149 h191⟩
theorem Aqm:Ab tyU:=Ab.of fun t=>if h2:t=2 then by subst h2;exact Ao2 else if h3:t=3 then by subst h3;exact Ao3 else if h4:t=4 then by subst h4;exact Ao4 else if h5:t=5 then by subst h5;exact Ao5 else if h9:t=9 then by subst h9;exact Ao6 else if h22:t=22 then by subst h22;exact Amu else if h25:t=25 then by subst h25;exact Amv else if h26:t=26 then by subst h26;exact Amw else if h28:t=28 then by subst h28;exact Amx else if h132:t=132 then by subst h132;exact Akj else if h48:t=48 then by subst h48;exact Amy else if h50:t=50 then by subst h50;exact Amz else if h29:t=29 then by subst h29;exact Am0 else if h52:t=52 then by subst h52;exact Am1 else if h30:t=30 then by subst h30;exact Am2 else if h32:t=32 then by subst h32;exact Am3 else if h36:t=36 then by subst h36;exact Am4 else if h38:t=38 then by subst h38;exact Am5 else if h40:t=40 then by subst h40;exact Am6 else if h68:t=68 then by subst h68;exact Am7 else if h70:t=70 then by subst h70;exact Am8 else if h73:t=73 then by subst h73;exact Am9 else if h148:t=148 then by subst h148;exact Akz else if h149:t=149 then by subst h149;exact Ak0 else if h191:t=191 then by subst h191;exact Ak1 else(df h2 h3 h4 h5 h9 h22 h25 h26 h28 h132 h48 h50 h29 h52 h30 h32 h36 h38 h40 h68 h70 h73 h148 h149 h191).un1
def eqs:List Nat:=[25,132,36,38]
theorem Apl:Abp Tryz.prog tab (eqT eqs):=Agi (by kernel_rfl)
end Go.Proofs.YtcdojenmonmcfaaGreat
