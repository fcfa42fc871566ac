/- The types of the seat; no condition. Printed by uni.py. -/
import Derived.Test.YtplfjgdlpbdojaaGreatEc
import Derived.Test.YtplfjgdlpbdojaaGreatFTab
set_option linter.all false
namespace Go.Proofs.YtplfjgdlpbdojaaGreat
open Go.Eng
structure D4 where
 A6:Int
 Kh:Int
 Fj:Int
 Hb:Int
 Fk:Int
 Ki:Int
 deriving Inhabited
structure Dh where
 Sk:List Int
 Yq:List Int
 Sl:List Int
 deriving Inhabited
structure A7 where
 fAt:Int
 Ai8:Int
 Ai9:Int
 deriving Inhabited
structure A8 where
 Yq:Int
 C6:Int
 Sy:Int
 fUp:Int
 Wk:Int
 Er:Int
 Wl:Int
 Wm:Int
 A6:List Int
 Afu:Int
 Wn:Int
 H7:List A7
 F3:List Int
 deriving Inhabited
structure Av where
 Be:Int
 Er:Int
 F3:List Int
 A6:List Int
 Wo:Int
 deriving Inhabited
structure Ds where
 fC:D4
 fP:Dh
 fL:List A8
 fQ:List Av
 Afv:List Int
 deriving Inhabited
structure Bo where
 Be:Int
 C6:Int
 deriving Inhabited
structure Dy where
 fH:Bo
 Sy:Int
 fNo:Int
 deriving Inhabited
structure Cm where
 Wp:Int
 fH:Bo
 fR:Dy
 fN:Int
 fM:Int
 fB:List Int
 deriving Inhabited
structure Es where
 Wq:Int
 fH:Bo
 fR:Dy
 fB:List Int
 Wr:Int
 Hb:Int
 N7:Int
 deriving Inhabited
structure Dt where
 fb:List Int
 fi:Int
 fh:Int
 deriving Inhabited
def Ai (x:Int):List V:=[.int .i64 x]
theorem A1:En Ai 1:=⟨fun _=>rfl,fun _=>rfl,fun _=>rfl,fun x=>rfl⟩
theorem Sm:Fl Ai Ai 1:=⟨A1.len,A1.closed,A1.share⟩
def Bl (x:Bool):List V:=[.bool x]
theorem B7:En Bl 1:=⟨fun _=>rfl,fun _=>rfl,fun _=>rfl,fun x=>rfl⟩
theorem N8:Fl Bl Bl 1:=⟨B7.len,B7.closed,B7.share⟩
def Bu (x:Int):List V:=[.int .u8 x]
theorem Bb:En Bu 1:=⟨fun _=>rfl,fun _=>rfl,fun _=>rfl,fun x=>rfl⟩
theorem Afw:Fl Bu Bu 1:=⟨Bb.len,Bb.closed,Bb.share⟩
def Du (x:ByteArray):List V:=[.str x]
theorem D5:En Du 1:=⟨fun _=>rfl,fun _=>rfl,fun _=>rfl,fun x=>rfl⟩
theorem Sn:Fl Du Du 1:=⟨D5.len,D5.closed,D5.share⟩
def Gt (x:List Int):List V:=[.row false 1 (x.map Bu)]
theorem Acn:En Gt 1:=⟨fun _=>rfl,fun _=>rfl,fun _=>rfl,fun x=>by simp only[Gt,Ag,V.share,Bb.shareLL]⟩
def Kj (x:List Int):List V:=[.row true 1 (x.map Bu)]
theorem Aco:Fl Kj Gt 1:=⟨fun _=>rfl,fun _=>rfl,fun x=>by simp only[Kj,Gt,Ag,V.share,Bb.shareLL]⟩
def B8 (x:D4):List V:=[.int .i64 x.A6,.int .i64 x.Kh,.int .i64 x.Fj,.int .i64 x.Hb,.int .i64 x.Fk,.int .i64 x.Ki]
theorem C2:En B8 6:=⟨fun _=>rfl,fun _=>rfl,fun _=>rfl,fun x=>rfl⟩
theorem Kk:Fl B8 B8 6:=⟨C2.len,C2.closed,C2.share⟩
def E8 (x:List Int):List V:=[.row false 1 (x.map Ai)]
theorem Yr:En E8 1:=⟨fun _=>rfl,fun _=>rfl,fun _=>rfl,fun x=>by simp only[E8,Ag,V.share,A1.shareLL]⟩
def F4 (x:List Int):List V:=[.row true 1 (x.map Ai)]
theorem Ys:Fl F4 E8 1:=⟨fun _=>rfl,fun _=>rfl,fun x=>by simp only[F4,E8,Ag,V.share,A1.shareLL]⟩
def B9 (x:Dh):List V:=[.row false 1 (x.Sk.map Bu),.row false 1 (x.Yq.map Ai),.row false 1 (x.Sl.map Ai)]
theorem Kl:En B9 3:=⟨fun _=>rfl,fun _=>rfl,fun _=>rfl,fun x=>by simp only[B9,Ag,V.share,Bb.shareLL,A1.shareLL]⟩
def C3 (x:Dh):List V:=[.row true 1 (x.Sk.map Bu),.row true 1 (x.Yq.map Ai),.row true 1 (x.Sl.map Ai)]
theorem Km:Fl C3 B9 3:=⟨fun _=>rfl,fun _=>rfl,fun x=>by simp only[C3,B9,Ag,V.share,Bb.shareLL,A1.shareLL]⟩
def Af (x:A7):List V:=[.int .i64 x.fAt,.int .i64 x.Ai8,.int .i64 x.Ai9]
theorem Ao:En Af 3:=⟨fun _=>rfl,fun _=>rfl,fun _=>rfl,fun x=>rfl⟩
theorem Hc:Fl Af Af 3:=⟨Ao.len,Ao.closed,Ao.share⟩
def Bf (x:List A7):List V:=[.row false 3 (x.map Af)]
theorem Gu:En Bf 1:=⟨fun _=>rfl,fun _=>rfl,fun _=>rfl,fun x=>by simp only[Bf,Ag,V.share,Ao.shareLL]⟩
def Bx (x:List A7):List V:=[.row true 3 (x.map Af)]
theorem Gv:Fl Bx Bf 1:=⟨fun _=>rfl,fun _=>rfl,fun x=>by simp only[Bx,Bf,Ag,V.share,Ao.shareLL]⟩
def A9 (x:A8):List V:=[.int .i64 x.Yq,.int .i64 x.C6,.int .i64 x.Sy,.int .i64 x.fUp,.int .i64 x.Wk,.int .i64 x.Er,.int .i64 x.Wl,.int .i64 x.Wm,.row false 1 (x.A6.map Ai),.int .i64 x.Afu,.int .i64 x.Wn,.row false 3 (x.H7.map Af),.row false 1 (x.F3.map Ai)]
theorem Dz:En A9 13:=⟨fun _=>rfl,fun _=>rfl,fun _=>rfl,fun x=>by simp only[A9,Ag,V.share,A1.shareLL,Ao.shareLL]⟩
def Bm (x:A8):List V:=[.int .i64 x.Yq,.int .i64 x.C6,.int .i64 x.Sy,.int .i64 x.fUp,.int .i64 x.Wk,.int .i64 x.Er,.int .i64 x.Wl,.int .i64 x.Wm,.row true 1 (x.A6.map Ai),.int .i64 x.Afu,.int .i64 x.Wn,.row true 3 (x.H7.map Af),.row true 1 (x.F3.map Ai)]
theorem D0:Fl Bm A9 13:=⟨fun _=>rfl,fun _=>rfl,fun x=>by simp only[Bm,A9,Ag,V.share,A1.shareLL,Ao.shareLL]⟩
def Bp (x:List A8):List V:=[.row false 13 (x.map A9)]
theorem Hd:En Bp 1:=⟨fun _=>rfl,fun _=>rfl,fun _=>rfl,fun x=>by simp only[Bp,Ag,V.share,Dz.shareLL]⟩
def Ce (x:List A8):List V:=[.row true 13 (x.map Bm)]
theorem He:Fl Ce Bp 1:=⟨fun _=>rfl,fun _=>rfl,fun x=>by simp only[Ce,Bp,Ag,V.share,D0.shareLL]⟩
def Ax (x:Av):List V:=[.int .i64 x.Be,.int .i64 x.Er,.row false 1 (x.F3.map Ai),.row false 1 (x.A6.map Ai),.int .i64 x.Wo]
theorem Dn:En Ax 5:=⟨fun _=>rfl,fun _=>rfl,fun _=>rfl,fun x=>by simp only[Ax,Ag,V.share,A1.shareLL]⟩
def Ba (x:Av):List V:=[.int .i64 x.Be,.int .i64 x.Er,.row true 1 (x.F3.map Ai),.row true 1 (x.A6.map Ai),.int .i64 x.Wo]
theorem Do:Fl Ba Ax 5:=⟨fun _=>rfl,fun _=>rfl,fun x=>by simp only[Ba,Ax,Ag,V.share,A1.shareLL]⟩
def Bg (x:List Av):List V:=[.row false 5 (x.map Ax)]
theorem Gw:En Bg 1:=⟨fun _=>rfl,fun _=>rfl,fun _=>rfl,fun x=>by simp only[Bg,Ag,V.share,Dn.shareLL]⟩
def By (x:List Av):List V:=[.row true 5 (x.map Ba)]
theorem Gz:Fl By Bg 1:=⟨fun _=>rfl,fun _=>rfl,fun x=>by simp only[By,Bg,Ag,V.share,Do.shareLL]⟩
def Bq (x:Ds):List V:=[.int .i64 x.fC.A6,.int .i64 x.fC.Kh,.int .i64 x.fC.Fj,.int .i64 x.fC.Hb,.int .i64 x.fC.Fk,.int .i64 x.fC.Ki,.row false 1 (x.fP.Sk.map Bu),.row false 1 (x.fP.Yq.map Ai),.row false 1 (x.fP.Sl.map Ai),.row false 13 (x.fL.map A9),.row false 5 (x.fQ.map Ax),.row false 1 (x.Afv.map Ai)]
theorem Hf:En Bq 12:=⟨fun _=>rfl,fun _=>rfl,fun _=>rfl,fun x=>by simp only[Bq,Ag,V.share,Bb.shareLL,A1.shareLL,Dz.shareLL,Dn.shareLL]⟩
def Cf (x:Ds):List V:=[.int .i64 x.fC.A6,.int .i64 x.fC.Kh,.int .i64 x.fC.Fj,.int .i64 x.fC.Hb,.int .i64 x.fC.Fk,.int .i64 x.fC.Ki,.row true 1 (x.fP.Sk.map Bu),.row true 1 (x.fP.Yq.map Ai),.row true 1 (x.fP.Sl.map Ai),.row true 13 (x.fL.map Bm),.row true 5 (x.fQ.map Ba),.row true 1 (x.Afv.map Ai)]
theorem Hg:Fl Cf Bq 12:=⟨fun _=>rfl,fun _=>rfl,fun x=>by simp only[Cf,Bq,Ag,V.share,Bb.shareLL,A1.shareLL,D0.shareLL,Do.shareLL]⟩
def Bh (x:Bo):List V:=[.int .i64 x.Be,.int .i64 x.C6]
theorem Ca:En Bh 2:=⟨fun _=>rfl,fun _=>rfl,fun _=>rfl,fun x=>rfl⟩
theorem G3:Fl Bh Bh 2:=⟨Ca.len,Ca.closed,Ca.share⟩
def Co (x:Dy):List V:=[.int .i64 x.fH.Be,.int .i64 x.fH.C6,.int .i64 x.Sy,.int .i64 x.fNo]
theorem C8:En Co 4:=⟨fun _=>rfl,fun _=>rfl,fun _=>rfl,fun x=>rfl⟩
theorem K7:Fl Co Co 4:=⟨C8.len,C8.closed,C8.share⟩
def Ci (x:Cm):List V:=[.int .i64 x.Wp,.int .i64 x.fH.Be,.int .i64 x.fH.C6,.int .i64 x.fR.fH.Be,.int .i64 x.fR.fH.C6,.int .i64 x.fR.Sy,.int .i64 x.fR.fNo,.int .i64 x.fN,.int .i64 x.fM,.row false 1 (x.fB.map Bu)]
theorem F5:En Ci 10:=⟨fun _=>rfl,fun _=>rfl,fun _=>rfl,fun x=>by simp only[Ci,Ag,V.share,Bb.shareLL]⟩
def C7 (x:Cm):List V:=[.int .i64 x.Wp,.int .i64 x.fH.Be,.int .i64 x.fH.C6,.int .i64 x.fR.fH.Be,.int .i64 x.fR.fH.C6,.int .i64 x.fR.Sy,.int .i64 x.fR.fNo,.int .i64 x.fN,.int .i64 x.fM,.row true 1 (x.fB.map Bu)]
theorem F6:Fl C7 Ci 10:=⟨fun _=>rfl,fun _=>rfl,fun x=>by simp only[C7,Ci,Ag,V.share,Bb.shareLL]⟩
def Cp (x:Es):List V:=[.int .i64 x.Wq,.int .i64 x.fH.Be,.int .i64 x.fH.C6,.int .i64 x.fR.fH.Be,.int .i64 x.fR.fH.C6,.int .i64 x.fR.Sy,.int .i64 x.fR.fNo,.row false 1 (x.fB.map Bu),.int .i64 x.Wr,.int .i64 x.Hb,.int .i64 x.N7]
theorem K8:En Cp 11:=⟨fun _=>rfl,fun _=>rfl,fun _=>rfl,fun x=>by simp only[Cp,Ag,V.share,Bb.shareLL]⟩
def Di (x:Es):List V:=[.int .i64 x.Wq,.int .i64 x.fH.Be,.int .i64 x.fH.C6,.int .i64 x.fR.fH.Be,.int .i64 x.fR.fH.C6,.int .i64 x.fR.Sy,.int .i64 x.fR.fNo,.row true 1 (x.fB.map Bu),.int .i64 x.Wr,.int .i64 x.Hb,.int .i64 x.N7]
theorem K9:Fl Di Cp 11:=⟨fun _=>rfl,fun _=>rfl,fun x=>by simp only[Di,Cp,Ag,V.share,Bb.shareLL]⟩
def Cq (x:List Cm):List V:=[.row false 10 (x.map Ci)]
theorem La:En Cq 1:=⟨fun _=>rfl,fun _=>rfl,fun _=>rfl,fun x=>by simp only[Cq,Ag,V.share,F5.shareLL]⟩
def Dj (x:List Cm):List V:=[.row true 10 (x.map C7)]
theorem Lb:Fl Dj Cq 1:=⟨fun _=>rfl,fun _=>rfl,fun x=>by simp only[Dj,Cq,Ag,V.share,F6.shareLL]⟩
def Cr (x:List Bool):List V:=[.row false 1 (x.map Bl)]
theorem Lc:En Cr 1:=⟨fun _=>rfl,fun _=>rfl,fun _=>rfl,fun x=>by simp only[Cr,Ag,V.share,B7.shareLL]⟩
def Dk (x:List Bool):List V:=[.row true 1 (x.map Bl)]
theorem Ld:Fl Dk Cr 1:=⟨fun _=>rfl,fun _=>rfl,fun x=>by simp only[Dk,Cr,Ag,V.share,B7.shareLL]⟩
def Br (x:Dt):List V:=[.row false 1 (x.fb.map Bu),.int .i64 x.fi,.int .i64 x.fh]
theorem Hh:En Br 3:=⟨fun _=>rfl,fun _=>rfl,fun _=>rfl,fun x=>by simp only[Br,Ag,V.share,Bb.shareLL]⟩
def Cg (x:Dt):List V:=[.row true 1 (x.fb.map Bu),.int .i64 x.fi,.int .i64 x.fh]
theorem Hi:Fl Cg Br 3:=⟨fun _=>rfl,fun _=>rfl,fun x=>by simp only[Cg,Br,Ag,V.share,Bb.shareLL]⟩
def Ar:Nat->Type
 |2=>Int
 |3=>Int
 |4=>Bool
 |5=>Int
 |9=>ByteArray
 |22=>List Int
 |25=>D4
 |26=>List Int
 |28=>Dh
 |112=>A7
 |69=>List A7
 |71=>A8
 |29=>List A8
 |79=>Av
 |30=>List Av
 |32=>Ds
 |34=>Bo
 |36=>Dy
 |38=>Cm
 |47=>Es
 |55=>List Cm
 |82=>List Bool
 |99=>Dt
 |_=>Unit
abbrev Alq:(t:Nat)->Inhabited (Ar t)
 |2=>(inferInstance:Inhabited Int)
 |3=>(inferInstance:Inhabited Int)
 |4=>(inferInstance:Inhabited Bool)
 |5=>(inferInstance:Inhabited Int)
 |9=>(inferInstance:Inhabited ByteArray)
 |22=>(inferInstance:Inhabited (List Int))
 |25=>(inferInstance:Inhabited D4)
 |26=>(inferInstance:Inhabited (List Int))
 |28=>(inferInstance:Inhabited Dh)
 |112=>(inferInstance:Inhabited A7)
 |69=>(inferInstance:Inhabited (List A7))
 |71=>(inferInstance:Inhabited A8)
 |29=>(inferInstance:Inhabited (List A8))
 |79=>(inferInstance:Inhabited Av)
 |30=>(inferInstance:Inhabited (List Av))
 |32=>(inferInstance:Inhabited Ds)
 |34=>(inferInstance:Inhabited Bo)
 |36=>(inferInstance:Inhabited Dy)
 |38=>(inferInstance:Inhabited Cm)
 |47=>(inferInstance:Inhabited Es)
 |55=>(inferInstance:Inhabited (List Cm))
 |82=>(inferInstance:Inhabited (List Bool))
 |99=>(inferInstance:Inhabited Dt)
 |_=>(by unfold Ar;split<;>infer_instance)
def Aja:Nat->Nat
 |2=>1
 |3=>1
 |4=>1
 |5=>1
 |9=>1
 |22=>1
 |25=>6
 |26=>1
 |28=>3
 |112=>3
 |69=>1
 |71=>13
 |29=>1
 |79=>5
 |30=>1
 |32=>12
 |34=>2
 |36=>4
 |38=>10
 |47=>11
 |55=>1
 |82=>1
 |99=>3
 |_=>0
def Ajb:Nat->Bool
 |2=>true
 |3=>true
 |4=>true
 |5=>true
 |9=>true
 |22=>false
 |25=>true
 |26=>false
 |28=>false
 |112=>true
 |69=>false
 |71=>false
 |29=>false
 |79=>false
 |30=>false
 |32=>false
 |34=>true
 |36=>true
 |38=>false
 |47=>false
 |55=>false
 |82=>false
 |99=>false
 |_=>true
def An5:Nat->Bool
 |2=>false
 |3=>false
 |4=>false
 |5=>false
 |9=>false
 |22=>false
 |25=>true
 |26=>false
 |28=>true
 |112=>true
 |69=>false
 |71=>true
 |29=>false
 |79=>true
 |30=>false
 |32=>true
 |34=>true
 |36=>true
 |38=>true
 |47=>true
 |55=>false
 |82=>false
 |99=>true
 |_=>false
def Ajc:(t:Nat)->Ar t->List V
 |2,x=>Ai x
 |3,x=>Ai x
 |4,x=>Bl x
 |5,x=>Bu x
 |9,x=>Du x
 |22,x=>Gt x
 |25,x=>B8 x
 |26,x=>E8 x
 |28,x=>B9 x
 |112,x=>Af x
 |69,x=>Bf x
 |71,x=>A9 x
 |29,x=>Bp x
 |79,x=>Ax x
 |30,x=>Bg x
 |32,x=>Bq x
 |34,x=>Bh x
 |36,x=>Co x
 |38,x=>Ci x
 |47,x=>Cp x
 |55,x=>Cq x
 |82,x=>Cr x
 |99,x=>Br x
 |_,_=>[]
def Ajd:(t:Nat)->Ar t->List V
 |2,x=>Ai x
 |3,x=>Ai x
 |4,x=>Bl x
 |5,x=>Bu x
 |9,x=>Du x
 |22,x=>Kj x
 |25,x=>B8 x
 |26,x=>F4 x
 |28,x=>C3 x
 |112,x=>Af x
 |69,x=>Bx x
 |71,x=>Bm x
 |29,x=>Ce x
 |79,x=>Ba x
 |30,x=>By x
 |32,x=>Cf x
 |34,x=>Bh x
 |36,x=>Co x
 |38,x=>C7 x
 |47,x=>Di x
 |55,x=>Dj x
 |82,x=>Dk x
 |99,x=>Cg x
 |_,_=>[]
def Aje:(t:Nat)->Ar t->List (SV Ar)
 |2,x=>[.int .i64 x 0]
 |3,x=>[.int .i64 x 0]
 |4,x=>[.bool x]
 |5,x=>[.int .u8 x 0]
 |9,x=>[.str x]
 |22,x=>[.row 5 x]
 |25,x=>[.int .i64 x.A6 0,.int .i64 x.Kh 0,.int .i64 x.Fj 0,.int .i64 x.Hb 0,.int .i64 x.Fk 0,.int .i64 x.Ki 0]
 |26,x=>[.row 3 x]
 |28,x=>[.row 5 x.Sk,.row 3 x.Yq,.row 3 x.Sl]
 |112,x=>[.int .i64 x.fAt 0,.int .i64 x.Ai8 0,.int .i64 x.Ai9 0]
 |69,x=>[.row 112 x]
 |71,x=>[.int .i64 x.Yq 0,.int .i64 x.C6 0,.int .i64 x.Sy 0,.int .i64 x.fUp 0,.int .i64 x.Wk 0,.int .i64 x.Er 0,.int .i64 x.Wl 0,.int .i64 x.Wm 0,.row 3 x.A6,.int .i64 x.Afu 0,.int .i64 x.Wn 0,.row 112 x.H7,.row 3 x.F3]
 |29,x=>[.row 71 x]
 |79,x=>[.int .i64 x.Be 0,.int .i64 x.Er 0,.row 3 x.F3,.row 3 x.A6,.int .i64 x.Wo 0]
 |30,x=>[.row 79 x]
 |32,x=>[.int .i64 x.fC.A6 0,.int .i64 x.fC.Kh 0,.int .i64 x.fC.Fj 0,.int .i64 x.fC.Hb 0,.int .i64 x.fC.Fk 0,.int .i64 x.fC.Ki 0,.row 5 x.fP.Sk,.row 3 x.fP.Yq,.row 3 x.fP.Sl,.row 71 x.fL,.row 79 x.fQ,.row 3 x.Afv]
 |34,x=>[.int .i64 x.Be 0,.int .i64 x.C6 0]
 |36,x=>[.int .i64 x.fH.Be 0,.int .i64 x.fH.C6 0,.int .i64 x.Sy 0,.int .i64 x.fNo 0]
 |38,x=>[.int .i64 x.Wp 0,.int .i64 x.fH.Be 0,.int .i64 x.fH.C6 0,.int .i64 x.fR.fH.Be 0,.int .i64 x.fR.fH.C6 0,.int .i64 x.fR.Sy 0,.int .i64 x.fR.fNo 0,.int .i64 x.fN 0,.int .i64 x.fM 0,.row 5 x.fB]
 |47,x=>[.int .i64 x.Wq 0,.int .i64 x.fH.Be 0,.int .i64 x.fH.C6 0,.int .i64 x.fR.fH.Be 0,.int .i64 x.fR.fH.C6 0,.int .i64 x.fR.Sy 0,.int .i64 x.fR.fNo 0,.row 5 x.fB,.int .i64 x.Wr 0,.int .i64 x.Hb 0,.int .i64 x.N7 0]
 |55,x=>[.row 38 x]
 |82,x=>[.row 4 x]
 |99,x=>[.row 5 x.fb,.int .i64 x.fi 0,.int .i64 x.fh 0]
 |_,_=>[]
def Cj:(t:Nat)->Bool->Ar t->List (SV Ar)
 |2,m,x=>[.int .i64 x 0]
 |3,m,x=>[.int .i64 x 0]
 |4,m,x=>[.bool x]
 |5,m,x=>[.int .u8 x 0]
 |9,m,x=>[.str x]
 |22,m,x=>[.rowT 5 true x]
 |25,m,x=>[.int .i64 x.A6 0,.int .i64 x.Kh 0,.int .i64 x.Fj 0,.int .i64 x.Hb 0,.int .i64 x.Fk 0,.int .i64 x.Ki 0]
 |26,m,x=>[.rowT 3 true x]
 |28,m,x=>[.rowT 5 true x.Sk,.rowT 3 true x.Yq,.rowT 3 true x.Sl]
 |112,m,x=>[.int .i64 x.fAt 0,.int .i64 x.Ai8 0,.int .i64 x.Ai9 0]
 |69,m,x=>[.rowT 112 true x]
 |71,m,x=>[.int .i64 x.Yq 0,.int .i64 x.C6 0,.int .i64 x.Sy 0,.int .i64 x.fUp 0,.int .i64 x.Wk 0,.int .i64 x.Er 0,.int .i64 x.Wl 0,.int .i64 x.Wm 0,.rowT 3 true x.A6,.int .i64 x.Afu 0,.int .i64 x.Wn 0,.rowT 112 true x.H7,.rowT 3 true x.F3]
 |29,m,x=>[.rowT 71 m x]
 |79,m,x=>[.int .i64 x.Be 0,.int .i64 x.Er 0,.rowT 3 true x.F3,.rowT 3 true x.A6,.int .i64 x.Wo 0]
 |30,m,x=>[.rowT 79 m x]
 |32,m,x=>[.int .i64 x.fC.A6 0,.int .i64 x.fC.Kh 0,.int .i64 x.fC.Fj 0,.int .i64 x.fC.Hb 0,.int .i64 x.fC.Fk 0,.int .i64 x.fC.Ki 0,.rowT 5 true x.fP.Sk,.rowT 3 true x.fP.Yq,.rowT 3 true x.fP.Sl,.rowT 71 m x.fL,.rowT 79 m x.fQ,.rowT 3 true x.Afv]
 |34,m,x=>[.int .i64 x.Be 0,.int .i64 x.C6 0]
 |36,m,x=>[.int .i64 x.fH.Be 0,.int .i64 x.fH.C6 0,.int .i64 x.Sy 0,.int .i64 x.fNo 0]
 |38,m,x=>[.int .i64 x.Wp 0,.int .i64 x.fH.Be 0,.int .i64 x.fH.C6 0,.int .i64 x.fR.fH.Be 0,.int .i64 x.fR.fH.C6 0,.int .i64 x.fR.Sy 0,.int .i64 x.fR.fNo 0,.int .i64 x.fN 0,.int .i64 x.fM 0,.rowT 5 true x.fB]
 |47,m,x=>[.int .i64 x.Wq 0,.int .i64 x.fH.Be 0,.int .i64 x.fH.C6 0,.int .i64 x.fR.fH.Be 0,.int .i64 x.fR.fH.C6 0,.int .i64 x.fR.Sy 0,.int .i64 x.fR.fNo 0,.rowT 5 true x.fB,.int .i64 x.Wr 0,.int .i64 x.Hb 0,.int .i64 x.N7 0]
 |55,m,x=>[.rowT 38 m x]
 |82,m,x=>[.rowT 4 true x]
 |99,true,x=>[.rowT 5 true x.fb,.int .i64 x.fi 0,.int .i64 x.fh 0]
 |99,false,x=>[.row 5 x.fb,.int .i64 x.fi 0,.int .i64 x.fh 0]
 |_,_,_=>[]
def Ajf:List (SV Ar)->Option (Ar 2)
 |[.int .i64 a0 _]=>some a0
 |_=>none
def Ajg:List (SV Ar)->Option (Ar 3)
 |[.int .i64 a0 _]=>some a0
 |_=>none
def Ajh:List (SV Ar)->Option (Ar 4)
 |[.bool a0]=>some a0
 |_=>none
def Aji:List (SV Ar)->Option (Ar 5)
 |[.int .u8 a0 _]=>some a0
 |_=>none
def Ajj:List (SV Ar)->Option (Ar 9)
 |[.str a0]=>some a0
 |_=>none
def Acp:List (SV Ar)->Option (Ar 22)
 |[.row 5 a0]=>some a0
 |_=>none
def Acq:List (SV Ar)->Option (Ar 25)
 |[.int .i64 a0 _,.int .i64 a1 _,.int .i64 a2 _,.int .i64 a3 _,.int .i64 a4 _,.int .i64 a5 _]=>some ⟨a0,a1,a2,a3,a4,a5⟩
 |_=>none
def Acr:List (SV Ar)->Option (Ar 26)
 |[.row 3 a0]=>some a0
 |_=>none
def Acs:List (SV Ar)->Option (Ar 28)
 |[.row 5 a0,.row 3 a1,.row 3 a2]=>some ⟨a0,a1,a2⟩
 |_=>none
def Va:List (SV Ar)->Option (Ar 112)
 |[.int .i64 a0 _,.int .i64 a1 _,.int .i64 a2 _]=>some ⟨a0,a1,a2⟩
 |_=>none
def Acu:List (SV Ar)->Option (Ar 69)
 |[.row 112 a0]=>some a0
 |_=>none
def Acv:List (SV Ar)->Option (Ar 71)
 |[.int .i64 a0 _,.int .i64 a1 _,.int .i64 a2 _,.int .i64 a3 _,.int .i64 a4 _,.int .i64 a5 _,.int .i64 a6 _,.int .i64 a7 _,.row 3 a8,.int .i64 a9 _,.int .i64 a10 _,.row 112 a11,.row 3 a12]=>some ⟨a0,a1,a2,a3,a4,a5,a6,a7,a8,a9,a10,a11,a12⟩
 |_=>none
def Acw:List (SV Ar)->Option (Ar 29)
 |[.row 71 a0]=>some a0
 |_=>none
def Acx:List (SV Ar)->Option (Ar 79)
 |[.int .i64 a0 _,.int .i64 a1 _,.row 3 a2,.row 3 a3,.int .i64 a4 _]=>some ⟨a0,a1,a2,a3,a4⟩
 |_=>none
def Acy:List (SV Ar)->Option (Ar 30)
 |[.row 79 a0]=>some a0
 |_=>none
def Acz:List (SV Ar)->Option (Ar 32)
 |[.int .i64 a0 _,.int .i64 a1 _,.int .i64 a2 _,.int .i64 a3 _,.int .i64 a4 _,.int .i64 a5 _,.row 5 a6,.row 3 a7,.row 3 a8,.row 71 a9,.row 79 a10,.row 3 a11]=>some ⟨⟨a0,a1,a2,a3,a4,a5⟩,⟨a6,a7,a8⟩,a9,a10,a11⟩
 |_=>none
def Ac0:List (SV Ar)->Option (Ar 34)
 |[.int .i64 a0 _,.int .i64 a1 _]=>some ⟨a0,a1⟩
 |_=>none
def Ac1:List (SV Ar)->Option (Ar 36)
 |[.int .i64 a0 _,.int .i64 a1 _,.int .i64 a2 _,.int .i64 a3 _]=>some ⟨⟨a0,a1⟩,a2,a3⟩
 |_=>none
def Ac2:List (SV Ar)->Option (Ar 38)
 |[.int .i64 a0 _,.int .i64 a1 _,.int .i64 a2 _,.int .i64 a3 _,.int .i64 a4 _,.int .i64 a5 _,.int .i64 a6 _,.int .i64 a7 _,.int .i64 a8 _,.row 5 a9]=>some ⟨a0,⟨a1,a2⟩,⟨⟨a3,a4⟩,a5,a6⟩,a7,a8,a9⟩
 |_=>none
def Ac3:List (SV Ar)->Option (Ar 47)
 |[.int .i64 a0 _,.int .i64 a1 _,.int .i64 a2 _,.int .i64 a3 _,.int .i64 a4 _,.int .i64 a5 _,.int .i64 a6 _,.row 5 a7,.int .i64 a8 _,.int .i64 a9 _,.int .i64 a10 _]=>some ⟨a0,⟨a1,a2⟩,⟨⟨a3,a4⟩,a5,a6⟩,a7,a8,a9,a10⟩
 |_=>none
def Ac4:List (SV Ar)->Option (Ar 55)
 |[.row 38 a0]=>some a0
 |_=>none
def Ac5:List (SV Ar)->Option (Ar 82)
 |[.row 4 a0]=>some a0
 |_=>none
def Ac6:List (SV Ar)->Option (Ar 99)
 |[.row 5 a0,.int .i64 a1 _,.int .i64 a2 _]=>some ⟨a0,a1,a2⟩
 |_=>none
def Ajk:(t:Nat)->List (SV Ar)->Option (Ar t)
 |2,c=>Ajf c
 |3,c=>Ajg c
 |4,c=>Ajh c
 |5,c=>Aji c
 |9,c=>Ajj c
 |22,c=>Acp c
 |25,c=>Acq c
 |26,c=>Acr c
 |28,c=>Acs c
 |112,c=>Va c
 |69,c=>Acu c
 |71,c=>Acv c
 |29,c=>Acw c
 |79,c=>Acx c
 |30,c=>Acy c
 |32,c=>Acz c
 |34,c=>Ac0 c
 |36,c=>Ac1 c
 |38,c=>Ac2 c
 |47,c=>Ac3 c
 |55,c=>Ac4 c
 |82,c=>Ac5 c
 |99,c=>Ac6 c
 |_,_=>none
def Vb:List (SV Ar)->Option (Ar 2)
 |[.int .i64 a0 _]=>some a0
 |_=>none
def Vc:List (SV Ar)->Option (Ar 3)
 |[.int .i64 a0 _]=>some a0
 |_=>none
def Vd:List (SV Ar)->Option (Ar 4)
 |[.bool a0]=>some a0
 |_=>none
def Ve:List (SV Ar)->Option (Ar 5)
 |[.int .u8 a0 _]=>some a0
 |_=>none
def Vf:List (SV Ar)->Option (Ar 9)
 |[.str a0]=>some a0
 |_=>none
def N9:List (SV Ar)->Option (Ar 22)
 |[.rowT 5 true a0]=>some a0
 |_=>none
def Pa:List (SV Ar)->Option (Ar 25)
 |[.int .i64 a0 _,.int .i64 a1 _,.int .i64 a2 _,.int .i64 a3 _,.int .i64 a4 _,.int .i64 a5 _]=>some ⟨a0,a1,a2,a3,a4,a5⟩
 |_=>none
def Pb:List (SV Ar)->Option (Ar 26)
 |[.rowT 3 true a0]=>some a0
 |_=>none
def Pc:List (SV Ar)->Option (Ar 28)
 |[.rowT 5 true a0,.rowT 3 true a1,.rowT 3 true a2]=>some ⟨a0,a1,a2⟩
 |_=>none
def Kn:List (SV Ar)->Option (Ar 112)
 |[.int .i64 a0 _,.int .i64 a1 _,.int .i64 a2 _]=>some ⟨a0,a1,a2⟩
 |_=>none
def Pd:List (SV Ar)->Option (Ar 69)
 |[.rowT 112 true a0]=>some a0
 |_=>none
def Pe:List (SV Ar)->Option (Ar 71)
 |[.int .i64 a0 _,.int .i64 a1 _,.int .i64 a2 _,.int .i64 a3 _,.int .i64 a4 _,.int .i64 a5 _,.int .i64 a6 _,.int .i64 a7 _,.rowT 3 true a8,.int .i64 a9 _,.int .i64 a10 _,.rowT 112 true a11,.rowT 3 true a12]=>some ⟨a0,a1,a2,a3,a4,a5,a6,a7,a8,a9,a10,a11,a12⟩
 |_=>none
def Pf:List (SV Ar)->Option (Ar 29)
 |[.rowT 71 true a0]=>some a0
 |_=>none
def Pg:List (SV Ar)->Option (Ar 29)
 |[.rowT 71 false a0]=>some a0
 |_=>none
def Ph:List (SV Ar)->Option (Ar 79)
 |[.int .i64 a0 _,.int .i64 a1 _,.rowT 3 true a2,.rowT 3 true a3,.int .i64 a4 _]=>some ⟨a0,a1,a2,a3,a4⟩
 |_=>none
def Pj:List (SV Ar)->Option (Ar 30)
 |[.rowT 79 true a0]=>some a0
 |_=>none
def Pk:List (SV Ar)->Option (Ar 30)
 |[.rowT 79 false a0]=>some a0
 |_=>none
def Pl:List (SV Ar)->Option (Ar 32)
 |[.int .i64 a0 _,.int .i64 a1 _,.int .i64 a2 _,.int .i64 a3 _,.int .i64 a4 _,.int .i64 a5 _,.rowT 5 true a6,.rowT 3 true a7,.rowT 3 true a8,.rowT 71 true a9,.rowT 79 true a10,.rowT 3 true a11]=>some ⟨⟨a0,a1,a2,a3,a4,a5⟩,⟨a6,a7,a8⟩,a9,a10,a11⟩
 |_=>none
def Pm:List (SV Ar)->Option (Ar 32)
 |[.int .i64 a0 _,.int .i64 a1 _,.int .i64 a2 _,.int .i64 a3 _,.int .i64 a4 _,.int .i64 a5 _,.rowT 5 true a6,.rowT 3 true a7,.rowT 3 true a8,.rowT 71 false a9,.rowT 79 false a10,.rowT 3 true a11]=>some ⟨⟨a0,a1,a2,a3,a4,a5⟩,⟨a6,a7,a8⟩,a9,a10,a11⟩
 |_=>none
def Pn:List (SV Ar)->Option (Ar 34)
 |[.int .i64 a0 _,.int .i64 a1 _]=>some ⟨a0,a1⟩
 |_=>none
def Po:List (SV Ar)->Option (Ar 36)
 |[.int .i64 a0 _,.int .i64 a1 _,.int .i64 a2 _,.int .i64 a3 _]=>some ⟨⟨a0,a1⟩,a2,a3⟩
 |_=>none
def Pp:List (SV Ar)->Option (Ar 38)
 |[.int .i64 a0 _,.int .i64 a1 _,.int .i64 a2 _,.int .i64 a3 _,.int .i64 a4 _,.int .i64 a5 _,.int .i64 a6 _,.int .i64 a7 _,.int .i64 a8 _,.rowT 5 true a9]=>some ⟨a0,⟨a1,a2⟩,⟨⟨a3,a4⟩,a5,a6⟩,a7,a8,a9⟩
 |_=>none
def Pq:List (SV Ar)->Option (Ar 47)
 |[.int .i64 a0 _,.int .i64 a1 _,.int .i64 a2 _,.int .i64 a3 _,.int .i64 a4 _,.int .i64 a5 _,.int .i64 a6 _,.rowT 5 true a7,.int .i64 a8 _,.int .i64 a9 _,.int .i64 a10 _]=>some ⟨a0,⟨a1,a2⟩,⟨⟨a3,a4⟩,a5,a6⟩,a7,a8,a9,a10⟩
 |_=>none
def Pr:List (SV Ar)->Option (Ar 55)
 |[.rowT 38 true a0]=>some a0
 |_=>none
def Ps:List (SV Ar)->Option (Ar 55)
 |[.rowT 38 false a0]=>some a0
 |_=>none
def Pt:List (SV Ar)->Option (Ar 82)
 |[.rowT 4 true a0]=>some a0
 |_=>none
def Pu:List (SV Ar)->Option (Ar 99)
 |[.rowT 5 true a0,.int .i64 a1 _,.int .i64 a2 _]=>some ⟨a0,a1,a2⟩
 |_=>none
def Pv:List (SV Ar)->Option (Ar 99)
 |[.row 5 a0,.int .i64 a1 _,.int .i64 a2 _]=>some ⟨a0,a1,a2⟩
 |_=>none
def Ajl:(t:Nat)->Bool->List (SV Ar)->Option (Ar t)
 |2,_,c=>Vb c
 |3,_,c=>Vc c
 |4,_,c=>Vd c
 |5,_,c=>Ve c
 |9,_,c=>Vf c
 |22,_,c=>N9 c
 |25,_,c=>Pa c
 |26,_,c=>Pb c
 |28,_,c=>Pc c
 |112,_,c=>Kn c
 |69,_,c=>Pd c
 |71,_,c=>Pe c
 |29,true,c=>Pf c
 |29,false,c=>Pg c
 |79,_,c=>Ph c
 |30,true,c=>Pj c
 |30,false,c=>Pk c
 |32,true,c=>Pl c
 |32,false,c=>Pm c
 |34,_,c=>Pn c
 |36,_,c=>Po c
 |38,_,c=>Pp c
 |47,_,c=>Pq c
 |55,true,c=>Pr c
 |55,false,c=>Ps c
 |82,_,c=>Pt c
 |99,true,c=>Pu c
 |99,false,c=>Pv c
 |_,_,_=>none
def tyU:Un:=⟨Ar,Alq,Aja,Ajb,An5,Ajc,Ajd,Aje,Cj,Ajk,Ajl⟩
theorem Ajm: ∀x,(Kj x).all V.fresh=true:=fun x=>by
 simp only[Kj,Fp,List.all_nil,Ah (f:=Bu) (fun _=>rfl),Wh,Wi,Wj,Bool.and_self]
theorem Afx: ∀x,(F4 x).all V.fresh=true:=fun x=>by
 simp only[F4,Fp,List.all_nil,Ah (f:=Ai) (fun _=>rfl),Wh,Wi,Wj,Bool.and_self]
theorem Pw: ∀x,(C3 x).all V.fresh=true:=fun x=>by
 simp only[C3,Fp,List.all_nil,Ah (f:=Bu) (fun _=>rfl),Ah (f:=Ai) (fun _=>rfl),Wh,Wi,Wj,Bool.and_self]
theorem Ko: ∀x,(Bx x).all V.fresh=true:=fun x=>by
 simp only[Bx,Fp,List.all_nil,Ah (f:=Af) (fun _=>rfl),Wh,Wi,Wj,Bool.and_self]
theorem Et: ∀x,(Bm x).all V.fresh=true:=fun x=>by
 simp only[Bm,Fp,List.all_nil,Ah (f:=Ai) (fun _=>rfl),Ah (f:=Af) (fun _=>rfl),Wh,Wi,Wj,Bool.and_self]
theorem Le: ∀x,(Ce x).all V.fresh=true:=fun x=>by
 simp only[Ce,Fp,List.all_nil,Ah Et,Wh,Wi,Wj,Bool.and_self]
theorem Ea: ∀x,(Ba x).all V.fresh=true:=fun x=>by
 simp only[Ba,Fp,List.all_nil,Ah (f:=Ai) (fun _=>rfl),Wh,Wi,Wj,Bool.and_self]
theorem Kq: ∀x,(By x).all V.fresh=true:=fun x=>by
 simp only[By,Fp,List.all_nil,Ah Ea,Wh,Wi,Wj,Bool.and_self]
theorem Lg: ∀x,(Cf x).all V.fresh=true:=fun x=>by
 simp only[Cf,Fp,List.all_nil,Ah (f:=Bu) (fun _=>rfl),Ah (f:=Ai) (fun _=>rfl),Ah Et,Ah Ea,Wh,Wi,Wj,Bool.and_self]
theorem Kr: ∀x,(C7 x).all V.fresh=true:=fun x=>by
 simp only[C7,Fp,List.all_nil,Ah (f:=Bu) (fun _=>rfl),Wh,Wi,Wj,Bool.and_self]
theorem So: ∀x,(Di x).all V.fresh=true:=fun x=>by
 simp only[Di,Fp,List.all_nil,Ah (f:=Bu) (fun _=>rfl),Wh,Wi,Wj,Bool.and_self]
theorem Sq: ∀x,(Dj x).all V.fresh=true:=fun x=>by
 simp only[Dj,Fp,List.all_nil,Ah Kr,Wh,Wi,Wj,Bool.and_self]
theorem Sr: ∀x,(Dk x).all V.fresh=true:=fun x=>by
 simp only[Dk,Fp,List.all_nil,Ah (f:=Bl) (fun _=>rfl),Wh,Wi,Wj,Bool.and_self]
theorem Lh: ∀x,(Cg x).all V.fresh=true:=fun x=>by
 simp only[Cg,Fp,List.all_nil,Ah (f:=Bu) (fun _=>rfl),Wh,Wi,Wj,Bool.and_self]
theorem Alr (c x)(h:Ajf c=some x):c.map (SV.toV tyU)=Ai x:=by
  unfold Ajf at h;split at h
  ·cases h;rfl
  ·cases h
theorem Afy (c x)(h:Vb c=some x):c.map (SV.toV tyU)=(Cj 2 true x).map (SV.toV tyU):=by
  unfold Vb at h;split at h
  ·cases h;rfl
  ·cases h
theorem An6:Ha tyU 2:=⟨A1,Sm,fun _=>rfl,fun _=>rfl,fun _ _=>rfl,Alr,fun _=>Afy,fun _=>rfl,fun _=>rfl,fun _ _=>rfl,fun _=>rfl,fun _=>rfl⟩
theorem Als (c x)(h:Ajg c=some x):c.map (SV.toV tyU)=Ai x:=by
  unfold Ajg at h;split at h
  ·cases h;rfl
  ·cases h
theorem Afz (c x)(h:Vc c=some x):c.map (SV.toV tyU)=(Cj 3 true x).map (SV.toV tyU):=by
  unfold Vc at h;split at h
  ·cases h;rfl
  ·cases h
theorem An7:Ha tyU 3:=⟨A1,Sm,fun _=>rfl,fun _=>rfl,fun _ _=>rfl,Als,fun _=>Afz,fun _=>rfl,fun _=>rfl,fun _ _=>rfl,fun _=>rfl,fun _=>rfl⟩
theorem Alt (c x)(h:Ajh c=some x):c.map (SV.toV tyU)=Bl x:=by
  unfold Ajh at h;split at h
  ·cases h;rfl
  ·cases h
theorem Af0 (c x)(h:Vd c=some x):c.map (SV.toV tyU)=(Cj 4 true x).map (SV.toV tyU):=by
  unfold Vd at h;split at h
  ·cases h;rfl
  ·cases h
theorem An8:Ha tyU 4:=⟨B7,N8,fun _=>rfl,fun _=>rfl,fun _ _=>rfl,Alt,fun _=>Af0,fun _=>rfl,fun _=>rfl,fun _ _=>rfl,fun _=>rfl,fun _=>rfl⟩
theorem Alu (c x)(h:Aji c=some x):c.map (SV.toV tyU)=Bu x:=by
  unfold Aji at h;split at h
  ·cases h;rfl
  ·cases h
theorem Af1 (c x)(h:Ve c=some x):c.map (SV.toV tyU)=(Cj 5 true x).map (SV.toV tyU):=by
  unfold Ve at h;split at h
  ·cases h;rfl
  ·cases h
theorem An9:Ha tyU 5:=⟨Bb,Afw,fun _=>rfl,fun _=>rfl,fun _ _=>rfl,Alu,fun _=>Af1,fun _=>rfl,fun _=>rfl,fun _ _=>rfl,fun _=>rfl,fun _=>rfl⟩
theorem Alv (c x)(h:Ajj c=some x):c.map (SV.toV tyU)=Du x:=by
  unfold Ajj at h;split at h
  ·cases h;rfl
  ·cases h
theorem Af2 (c x)(h:Vf c=some x):c.map (SV.toV tyU)=(Cj 9 true x).map (SV.toV tyU):=by
  unfold Vf at h;split at h
  ·cases h;rfl
  ·cases h
theorem Aoa:Ha tyU 9:=⟨D5,Sn,fun _=>rfl,fun _=>rfl,fun _ _=>rfl,Alv,fun _=>Af2,fun _=>rfl,fun _=>rfl,fun _ _=>rfl,fun _=>rfl,fun _=>rfl⟩
theorem Ajn (c x)(h:Acp c=some x):c.map (SV.toV tyU)=Gt x:=by
  unfold Acp at h;split at h
  ·cases h;rfl
  ·cases h
theorem Ac7 (c x)(h:N9 c=some x):c.map (SV.toV tyU)=(Cj 22 true x).map (SV.toV tyU):=by
  unfold N9 at h;split at h
  ·cases h;rfl
  ·cases h
theorem Alw:Ha tyU 22:=⟨Acn,Aco,fun _=>rfl,fun _=>rfl,fun _ _=>rfl,Ajn,fun _=>Ac7,(fun h=>by cases h),fun _=>rfl,fun _ _=>rfl,Ajm,fun _=>rfl⟩
theorem Ajo (c x)(h:Acq c=some x):c.map (SV.toV tyU)=B8 x:=by
  unfold Acq at h;split at h
  ·cases h;rfl
  ·cases h
theorem Ac8 (c x)(h:Pa c=some x):c.map (SV.toV tyU)=(Cj 25 true x).map (SV.toV tyU):=by
  unfold Pa at h;split at h
  ·cases h;rfl
  ·cases h
theorem Alx:Ha tyU 25:=⟨C2,Kk,fun _=>rfl,fun _=>rfl,fun _ _=>rfl,Ajo,fun _=>Ac8,fun _=>rfl,fun _=>rfl,fun _ _=>rfl,fun _=>rfl,fun _=>rfl⟩
theorem Ajp (c x)(h:Acr c=some x):c.map (SV.toV tyU)=E8 x:=by
  unfold Acr at h;split at h
  ·cases h;rfl
  ·cases h
theorem Ac9 (c x)(h:Pb c=some x):c.map (SV.toV tyU)=(Cj 26 true x).map (SV.toV tyU):=by
  unfold Pb at h;split at h
  ·cases h;rfl
  ·cases h
theorem Aly:Ha tyU 26:=⟨Yr,Ys,fun _=>rfl,fun _=>rfl,fun _ _=>rfl,Ajp,fun _=>Ac9,(fun h=>by cases h),fun _=>rfl,fun _ _=>rfl,Afx,fun _=>rfl⟩
theorem Ajq (c x)(h:Acs c=some x):c.map (SV.toV tyU)=B9 x:=by
  unfold Acs at h;split at h
  ·cases h;rfl
  ·cases h
theorem Ada (c x)(h:Pc c=some x):c.map (SV.toV tyU)=(Cj 28 true x).map (SV.toV tyU):=by
  unfold Pc at h;split at h
  ·cases h;rfl
  ·cases h
theorem Alz:Ha tyU 28:=⟨Kl,Km,fun _=>rfl,fun _=>rfl,fun _ _=>rfl,Ajq,fun _=>Ada,(fun h=>by cases h),fun _=>rfl,fun _ _=>rfl,Pw,fun _=>rfl⟩
theorem Af3 (c x)(h:Va c=some x):c.map (SV.toV tyU)=Af x:=by
  unfold Va at h;split at h
  ·cases h;rfl
  ·cases h
theorem Yt (c x)(h:Kn c=some x):c.map (SV.toV tyU)=(Cj 112 true x).map (SV.toV tyU):=by
  unfold Kn at h;split at h
  ·cases h;rfl
  ·cases h
theorem Ajr:Ha tyU 112:=⟨Ao,Hc,fun _=>rfl,fun _=>rfl,fun _ _=>rfl,Af3,fun _=>Yt,fun _=>rfl,fun _=>rfl,fun _ _=>rfl,fun _=>rfl,fun _=>rfl⟩
theorem Ajs (c x)(h:Acu c=some x):c.map (SV.toV tyU)=Bf x:=by
  unfold Acu at h;split at h
  ·cases h;rfl
  ·cases h
theorem Adb (c x)(h:Pd c=some x):c.map (SV.toV tyU)=(Cj 69 true x).map (SV.toV tyU):=by
  unfold Pd at h;split at h
  ·cases h;rfl
  ·cases h
theorem Al0:Ha tyU 69:=⟨Gu,Gv,fun _=>rfl,fun _=>rfl,fun _ _=>rfl,Ajs,fun _=>Adb,(fun h=>by cases h),fun _=>rfl,fun _ _=>rfl,Ko,fun _=>rfl⟩
theorem Ajt (c x)(h:Acv c=some x):c.map (SV.toV tyU)=A9 x:=by
  unfold Acv at h;split at h
  ·cases h;rfl
  ·cases h
theorem Adc (c x)(h:Pe c=some x):c.map (SV.toV tyU)=(Cj 71 true x).map (SV.toV tyU):=by
  unfold Pe at h;split at h
  ·cases h;rfl
  ·cases h
theorem Al1:Ha tyU 71:=⟨Dz,D0,fun _=>rfl,fun _=>rfl,fun _ _=>rfl,Ajt,fun _=>Adc,(fun h=>by cases h),fun _=>rfl,fun _ _=>rfl,Et,fun _=>rfl⟩
theorem Aju (c x)(h:Acw c=some x):c.map (SV.toV tyU)=Bp x:=by
  unfold Acw at h;split at h
  ·cases h;rfl
  ·cases h
theorem Ade (c x)(h:Pf c=some x):c.map (SV.toV tyU)=(Cj 29 true x).map (SV.toV tyU):=by
  unfold Pf at h;split at h
  ·cases h;rfl
  ·cases h
theorem Adf (c x)(h:Pg c=some x):c.map (SV.toV tyU)=(Cj 29 false x).map (SV.toV tyU):=by
  unfold Pg at h;split at h
  ·cases h;rfl
  ·cases h
theorem Al2:Ha tyU 29:=⟨Hd,He,fun _=>rfl,fun _=>rfl,fun _ _=>rfl,Aju,fun m=>match m with|true=>Ade|false=>Adf,(fun h=>by cases h),fun _=>rfl,fun _ _=>rfl,Le,fun _=>rfl⟩
theorem Ajv (c x)(h:Acx c=some x):c.map (SV.toV tyU)=Ax x:=by
  unfold Acx at h;split at h
  ·cases h;rfl
  ·cases h
theorem Adg (c x)(h:Ph c=some x):c.map (SV.toV tyU)=(Cj 79 true x).map (SV.toV tyU):=by
  unfold Ph at h;split at h
  ·cases h;rfl
  ·cases h
theorem Al3:Ha tyU 79:=⟨Dn,Do,fun _=>rfl,fun _=>rfl,fun _ _=>rfl,Ajv,fun _=>Adg,(fun h=>by cases h),fun _=>rfl,fun _ _=>rfl,Ea,fun _=>rfl⟩
theorem Ajw (c x)(h:Acy c=some x):c.map (SV.toV tyU)=Bg x:=by
  unfold Acy at h;split at h
  ·cases h;rfl
  ·cases h
theorem Adh (c x)(h:Pj c=some x):c.map (SV.toV tyU)=(Cj 30 true x).map (SV.toV tyU):=by
  unfold Pj at h;split at h
  ·cases h;rfl
  ·cases h
theorem Adi (c x)(h:Pk c=some x):c.map (SV.toV tyU)=(Cj 30 false x).map (SV.toV tyU):=by
  unfold Pk at h;split at h
  ·cases h;rfl
  ·cases h
theorem Al4:Ha tyU 30:=⟨Gw,Gz,fun _=>rfl,fun _=>rfl,fun _ _=>rfl,Ajw,fun m=>match m with|true=>Adh|false=>Adi,(fun h=>by cases h),fun _=>rfl,fun _ _=>rfl,Kq,fun _=>rfl⟩
theorem Ajx (c x)(h:Acz c=some x):c.map (SV.toV tyU)=Bq x:=by
  unfold Acz at h;split at h
  ·cases h;rfl
  ·cases h
theorem Adj (c x)(h:Pl c=some x):c.map (SV.toV tyU)=(Cj 32 true x).map (SV.toV tyU):=by
  unfold Pl at h;split at h
  ·cases h;rfl
  ·cases h
theorem Adk (c x)(h:Pm c=some x):c.map (SV.toV tyU)=(Cj 32 false x).map (SV.toV tyU):=by
  unfold Pm at h;split at h
  ·cases h;rfl
  ·cases h
theorem Al5:Ha tyU 32:=⟨Hf,Hg,fun _=>rfl,fun _=>rfl,fun _ _=>rfl,Ajx,fun m=>match m with|true=>Adj|false=>Adk,(fun h=>by cases h),fun _=>rfl,fun _ _=>rfl,Lg,fun _=>rfl⟩
theorem Ajy (c x)(h:Ac0 c=some x):c.map (SV.toV tyU)=Bh x:=by
  unfold Ac0 at h;split at h
  ·cases h;rfl
  ·cases h
theorem Adl (c x)(h:Pn c=some x):c.map (SV.toV tyU)=(Cj 34 true x).map (SV.toV tyU):=by
  unfold Pn at h;split at h
  ·cases h;rfl
  ·cases h
theorem Al6:Ha tyU 34:=⟨Ca,G3,fun _=>rfl,fun _=>rfl,fun _ _=>rfl,Ajy,fun _=>Adl,fun _=>rfl,fun _=>rfl,fun _ _=>rfl,fun _=>rfl,fun _=>rfl⟩
theorem Ajz (c x)(h:Ac1 c=some x):c.map (SV.toV tyU)=Co x:=by
  unfold Ac1 at h;split at h
  ·cases h;rfl
  ·cases h
theorem Adm (c x)(h:Po c=some x):c.map (SV.toV tyU)=(Cj 36 true x).map (SV.toV tyU):=by
  unfold Po at h;split at h
  ·cases h;rfl
  ·cases h
theorem Al7:Ha tyU 36:=⟨C8,K7,fun _=>rfl,fun _=>rfl,fun _ _=>rfl,Ajz,fun _=>Adm,fun _=>rfl,fun _=>rfl,fun _ _=>rfl,fun _=>rfl,fun _=>rfl⟩
theorem Aj0 (c x)(h:Ac2 c=some x):c.map (SV.toV tyU)=Ci x:=by
  unfold Ac2 at h;split at h
  ·cases h;rfl
  ·cases h
theorem Adn (c x)(h:Pp c=some x):c.map (SV.toV tyU)=(Cj 38 true x).map (SV.toV tyU):=by
  unfold Pp at h;split at h
  ·cases h;rfl
  ·cases h
theorem Al8:Ha tyU 38:=⟨F5,F6,fun _=>rfl,fun _=>rfl,fun _ _=>rfl,Aj0,fun _=>Adn,(fun h=>by cases h),fun _=>rfl,fun _ _=>rfl,Kr,fun _=>rfl⟩
theorem Aj1 (c x)(h:Ac3 c=some x):c.map (SV.toV tyU)=Cp x:=by
  unfold Ac3 at h;split at h
  ·cases h;rfl
  ·cases h
theorem Ado (c x)(h:Pq c=some x):c.map (SV.toV tyU)=(Cj 47 true x).map (SV.toV tyU):=by
  unfold Pq at h;split at h
  ·cases h;rfl
  ·cases h
theorem Al9:Ha tyU 47:=⟨K8,K9,fun _=>rfl,fun _=>rfl,fun _ _=>rfl,Aj1,fun _=>Ado,(fun h=>by cases h),fun _=>rfl,fun _ _=>rfl,So,fun _=>rfl⟩
theorem Aj2 (c x)(h:Ac4 c=some x):c.map (SV.toV tyU)=Cq x:=by
  unfold Ac4 at h;split at h
  ·cases h;rfl
  ·cases h
theorem Adp (c x)(h:Pr c=some x):c.map (SV.toV tyU)=(Cj 55 true x).map (SV.toV tyU):=by
  unfold Pr at h;split at h
  ·cases h;rfl
  ·cases h
theorem Adq (c x)(h:Ps c=some x):c.map (SV.toV tyU)=(Cj 55 false x).map (SV.toV tyU):=by
  unfold Ps at h;split at h
  ·cases h;rfl
  ·cases h
theorem Ama:Ha tyU 55:=⟨La,Lb,fun _=>rfl,fun _=>rfl,fun _ _=>rfl,Aj2,fun m=>match m with|true=>Adp|false=>Adq,(fun h=>by cases h),fun _=>rfl,fun _ _=>rfl,Sq,fun _=>rfl⟩
theorem Aj3 (c x)(h:Ac5 c=some x):c.map (SV.toV tyU)=Cr x:=by
  unfold Ac5 at h;split at h
  ·cases h;rfl
  ·cases h
theorem Adr (c x)(h:Pt c=some x):c.map (SV.toV tyU)=(Cj 82 true x).map (SV.toV tyU):=by
  unfold Pt at h;split at h
  ·cases h;rfl
  ·cases h
theorem Amb:Ha tyU 82:=⟨Lc,Ld,fun _=>rfl,fun _=>rfl,fun _ _=>rfl,Aj3,fun _=>Adr,(fun h=>by cases h),fun _=>rfl,fun _ _=>rfl,Sr,fun _=>rfl⟩
theorem Aj4 (c x)(h:Ac6 c=some x):c.map (SV.toV tyU)=Br x:=by
  unfold Ac6 at h;split at h
  ·cases h;rfl
  ·cases h
theorem Ads (c x)(h:Pu c=some x):c.map (SV.toV tyU)=(Cj 99 true x).map (SV.toV tyU):=by
  unfold Pu at h;split at h
  ·cases h;rfl
  ·cases h
theorem Adt (c x)(h:Pv c=some x):c.map (SV.toV tyU)=(Cj 99 false x).map (SV.toV tyU):=by
  unfold Pv at h;split at h
  ·cases h;rfl
  ·cases h
theorem Amc:Ha tyU 99:=⟨Hh,Hi,fun _=>rfl,fun _=>rfl,(fun m _=>by cases m<;>rfl),Aj4,fun m=>match m with|true=>Ads|false=>Adt,(fun h=>by cases h),fun _=>rfl,(fun m _=>by cases m<;>rfl),Lh,fun _=>rfl⟩
theorem Af4{t:Nat}(h2:t≠2)(h3:t≠3)(h4:t≠4)(h5:t≠5)(h9:t≠9)(h22:t≠22)(h25:t≠25)(h26:t≠26)(h28:t≠28)(h112:t≠112)(h69:t≠69)(h71:t≠71)(h29:t≠29)(h79:t≠79)(h30:t≠30)(h32:t≠32)(h34:t≠34)(h36:t≠36)(h38:t≠38)(h47:t≠47)(h55:t≠55)(h82:t≠82)(h99:t≠99):Aja t=0:=by
 unfold Aja;split<;>first|rfl|contradiction
theorem Af5{t:Nat}(h2:t≠2)(h3:t≠3)(h4:t≠4)(h5:t≠5)(h9:t≠9)(h22:t≠22)(h25:t≠25)(h26:t≠26)(h28:t≠28)(h112:t≠112)(h69:t≠69)(h71:t≠71)(h29:t≠29)(h79:t≠79)(h30:t≠30)(h32:t≠32)(h34:t≠34)(h36:t≠36)(h38:t≠38)(h47:t≠47)(h55:t≠55)(h82:t≠82)(h99:t≠99)(x):Ajc t x=[]:=by
 unfold Ajc;split<;>first|rfl|contradiction
theorem Af6{t:Nat}(h2:t≠2)(h3:t≠3)(h4:t≠4)(h5:t≠5)(h9:t≠9)(h22:t≠22)(h25:t≠25)(h26:t≠26)(h28:t≠28)(h112:t≠112)(h69:t≠69)(h71:t≠71)(h29:t≠29)(h79:t≠79)(h30:t≠30)(h32:t≠32)(h34:t≠34)(h36:t≠36)(h38:t≠38)(h47:t≠47)(h55:t≠55)(h82:t≠82)(h99:t≠99)(x):Ajd t x=[]:=by
 unfold Ajd;split<;>first|rfl|contradiction
theorem Af7{t:Nat}(h2:t≠2)(h3:t≠3)(h4:t≠4)(h5:t≠5)(h9:t≠9)(h22:t≠22)(h25:t≠25)(h26:t≠26)(h28:t≠28)(h112:t≠112)(h69:t≠69)(h71:t≠71)(h29:t≠29)(h79:t≠79)(h30:t≠30)(h32:t≠32)(h34:t≠34)(h36:t≠36)(h38:t≠38)(h47:t≠47)(h55:t≠55)(h82:t≠82)(h99:t≠99)(x):Aje t x=[]:=by
 unfold Aje;split<;>first|rfl|contradiction
theorem Af8{t:Nat}(h2:t≠2)(h3:t≠3)(h4:t≠4)(h5:t≠5)(h9:t≠9)(h22:t≠22)(h25:t≠25)(h26:t≠26)(h28:t≠28)(h112:t≠112)(h69:t≠69)(h71:t≠71)(h29:t≠29)(h79:t≠79)(h30:t≠30)(h32:t≠32)(h34:t≠34)(h36:t≠36)(h38:t≠38)(h47:t≠47)(h55:t≠55)(h82:t≠82)(h99:t≠99)(m)(x):Cj t m x=[]:=by
 unfold Cj;split<;>first|rfl|contradiction
theorem Af9{t:Nat}(h2:t≠2)(h3:t≠3)(h4:t≠4)(h5:t≠5)(h9:t≠9)(h22:t≠22)(h25:t≠25)(h26:t≠26)(h28:t≠28)(h112:t≠112)(h69:t≠69)(h71:t≠71)(h29:t≠29)(h79:t≠79)(h30:t≠30)(h32:t≠32)(h34:t≠34)(h36:t≠36)(h38:t≠38)(h47:t≠47)(h55:t≠55)(h82:t≠82)(h99:t≠99)(c):Ajk t c=none:=by
 unfold Ajk;split<;>first|rfl|contradiction
theorem Aga{t:Nat}(h2:t≠2)(h3:t≠3)(h4:t≠4)(h5:t≠5)(h9:t≠9)(h22:t≠22)(h25:t≠25)(h26:t≠26)(h28:t≠28)(h112:t≠112)(h69:t≠69)(h71:t≠71)(h29:t≠29)(h79:t≠79)(h30:t≠30)(h32:t≠32)(h34:t≠34)(h36:t≠36)(h38:t≠38)(h47:t≠47)(h55:t≠55)(h82:t≠82)(h99:t≠99)(m)(c):Ajl t m c=none:=by
 unfold Ajl;split<;>first|rfl|contradiction
theorem df{t:Nat}(h2:t≠2)(h3:t≠3)(h4:t≠4)(h5:t≠5)(h9:t≠9)(h22:t≠22)(h25:t≠25)(h26:t≠26)(h28:t≠28)(h112:t≠112)(h69:t≠69)(h71:t≠71)(h29:t≠29)(h79:t≠79)(h30:t≠30)(h32:t≠32)(h34:t≠34)(h36:t≠36)(h38:t≠38)(h47:t≠47)(h55:t≠55)(h82:t≠82)(h99:t≠99):Dft tyU t:=⟨Af4 h2 h3 h4 h5 h9 h22 h25 h26 h28 h112 h69 h71 h29 h79 h30 h32 h34 h36 h38 h47 h55 h82 h99,Af5 h2 h3 h4 h5 h9 h22 h25 h26 h28 h112 h69 h71 h29 h79 h30 h32 h34 h36 h38 h47 h55 h82 h99,Af6 h2 h3 h4 h5 h9 h22 h25 h26 h28 h112 h69 h71 h29 h79 h30 h32 h34 h36 h38 h47 h55 h82 h99,Af7 h2 h3 h4 h5 h9 h22 h25 h26 h28 h112 h69 h71 h29 h79 h30 h32 h34 h36 h38 h47 h55 h82 h99,Af8 h2 h3 h4 h5 h9 h22 h25 h26 h28 h112 h69 h71 h29 h79 h30 h32 h34 h36 h38 h47 h55 h82 h99,Af9 h2 h3 h4 h5 h9 h22 h25 h26 h28 h112 h69 h71 h29 h79 h30 h32 h34 h36 h38 h47 h55 h82 h99,Aga h2 h3 h4 h5 h9 h22 h25 h26 h28 h112 h69 h71 h29 h79 h30 h32 h34 h36 h38 h47 h55 h82 h99⟩
theorem Apq:Ab tyU:=Ab.of fun t=>if h2:t=2 then by subst h2;exact An6 else if h3:t=3 then by subst h3;exact An7 else if h4:t=4 then by subst h4;exact An8 else if h5:t=5 then by subst h5;exact An9 else if h9:t=9 then by subst h9;exact Aoa else if h22:t=22 then by subst h22;exact Alw else if h25:t=25 then by subst h25;exact Alx else if h26:t=26 then by subst h26;exact Aly else if h28:t=28 then by subst h28;exact Alz else if h112:t=112 then by subst h112;exact Ajr else if h69:t=69 then by subst h69;exact Al0 else if h71:t=71 then by subst h71;exact Al1 else if h29:t=29 then by subst h29;exact Al2 else if h79:t=79 then by subst h79;exact Al3 else if h30:t=30 then by subst h30;exact Al4 else if h32:t=32 then by subst h32;exact Al5 else if h34:t=34 then by subst h34;exact Al6 else if h36:t=36 then by subst h36;exact Al7 else if h38:t=38 then by subst h38;exact Al8 else if h47:t=47 then by subst h47;exact Al9 else if h55:t=55 then by subst h55;exact Ama else if h82:t=82 then by subst h82;exact Amb else if h99:t=99 then by subst h99;exact Amc else(df h2 h3 h4 h5 h9 h22 h25 h26 h28 h112 h69 h71 h29 h79 h30 h32 h34 h36 h38 h47 h55 h82 h99).un1
def eqs:List Nat:=[25,112,34,36]
theorem Aop:Aaz Tryz.prog tab (eqT eqs):=Afs (by kernel_rfl)
end Go.Proofs.YtplfjgdlpbdojaaGreat
