/- The types of the seat; no condition. Printed by uni.py. -/
import Derived.Test.YtjdblamhaljjbaaGreatEc
import Derived.Test.YtjdblamhaljjbaaGreatFTab
set_option linter.all false
namespace Go.Proofs.YtjdblamhaljjbaaGreat
open Go.Eng
structure Fa where
 Af:Int
 Ez:Int
 Db:Int
 Fv:Int
 Dc:Int
 E0:Int
 deriving Inhabited
structure Eb where
 Gl:List Int
 Ja:List Int
 Gm:List Int
 deriving Inhabited
structure Bf where
 fAt:Int
 Xf:Int
 Xg:Int
 deriving Inhabited
structure Bg where
 Ja:Int
 Bz:Int
 Js:Int
 fUp:Int
 Hf:Int
 B5:Int
 Hg:Int
 Hh:Int
 Af:List Int
 Rk:Int
 Hi:Int
 Er:List Bf
 Dt:List Int
 deriving Inhabited
structure A3 where
 As:Int
 B5:Int
 Dt:List Int
 Af:List Int
 Hj:Int
 deriving Inhabited
structure Es where
 fC:Fa
 fP:Eb
 fL:List Bg
 fQ:List A3
 Rl:List Int
 deriving Inhabited
structure Ca where
 As:Int
 Bz:Int
 deriving Inhabited
structure E2 where
 fH:Ca
 Js:Int
 Xh:Int
 deriving Inhabited
structure Dg where
 Yv:Int
 fH:Ca
 fR:E2
 fN:Int
 fM:Int
 fB:List Int
 deriving Inhabited
structure Fb where
 Af:Int
 Ez:Int
 Db:Int
 Fv:Int
 Dc:Int
 E0:Int
 deriving Inhabited
structure Ec where
 Gl:List Int
 Ja:List Int
 Gm:List Int
 deriving Inhabited
structure Bh where
 fAt:Int
 Xf:Int
 Xg:Int
 deriving Inhabited
structure Bi where
 Ja:Int
 Bz:Int
 Js:Int
 fUp:Int
 Hf:Int
 B5:Int
 Hg:Int
 Hh:Int
 Af:List Int
 Rk:Int
 Hi:Int
 Er:List Bh
 Dt:List Int
 deriving Inhabited
structure A4 where
 As:Int
 B5:Int
 Dt:List Int
 Af:List Int
 Hj:Int
 deriving Inhabited
structure Et where
 fC:Fb
 fP:Ec
 fL:List Bi
 fQ:List A4
 Rl:List Int
 deriving Inhabited
structure D1 where
 As:Int
 Bz:Int
 deriving Inhabited
structure Gz where
 fH:D1
 Js:Int
 Xh:Int
 deriving Inhabited
structure F4 where
 Yw:Int
 fH:Ca
 fR:E2
 fB:List Int
 Yx:Int
 Fv:Int
 Rm:Int
 deriving Inhabited
structure Eu where
 fb:List Int
 fi:Int
 fh:Int
 deriving Inhabited
def Ab (x:Int):List V:=[.int .i64 x]
theorem Ak:En Ab 1:=⟨fun _=>rfl,fun _=>rfl,fun _=>rfl,fun x=>rfl⟩
theorem U1:Fp Ab Ab 1:=⟨Ak.len,Ak.closed,Ak.share⟩
def B6 (x:Bool):List V:=[.bool x]
theorem Ct:En B6 1:=⟨fun _=>rfl,fun _=>rfl,fun _=>rfl,fun x=>rfl⟩
theorem Rn:Fp B6 B6 1:=⟨Ct.len,Ct.closed,Ct.share⟩
def Bb (x:Int):List V:=[.int .u8 x]
theorem Ay:En Bb 1:=⟨fun _=>rfl,fun _=>rfl,fun _=>rfl,fun x=>rfl⟩
theorem Aid:Fp Bb Bb 1:=⟨Ay.len,Ay.closed,Ay.share⟩
def Ev (x:ByteArray):List V:=[.str x]
theorem Fc:En Ev 1:=⟨fun _=>rfl,fun _=>rfl,fun _=>rfl,fun x=>rfl⟩
theorem U2:Fp Ev Ev 1:=⟨Fc.len,Fc.closed,Fc.share⟩
def Jb (x:List Int):List V:=[.row false 1 (x.map Bb)]
theorem Aey:En Jb 1:=⟨fun _=>rfl,fun _=>rfl,fun _=>rfl,fun x=>by simp only[Jb,Ae,V.share,Ay.shareLL]⟩
def L9 (x:List Int):List V:=[.row true 1 (x.map Bb)]
theorem Aez:Fp L9 Jb 1:=⟨fun _=>rfl,fun _=>rfl,fun x=>by simp only[L9,Jb,Ae,V.share,Ay.shareLL]⟩
def Cv (x:Fa):List V:=[.int .i64 x.Af,.int .i64 x.Ez,.int .i64 x.Db,.int .i64 x.Fv,.int .i64 x.Dc,.int .i64 x.E0]
theorem Du:En Cv 6:=⟨fun _=>rfl,fun _=>rfl,fun _=>rfl,fun x=>rfl⟩
theorem Ma:Fp Cv Cv 6:=⟨Du.len,Du.closed,Du.share⟩
def Gp (x:List Int):List V:=[.row false 1 (x.map Ab)]
theorem Aa2:En Gp 1:=⟨fun _=>rfl,fun _=>rfl,fun _=>rfl,fun x=>by simp only[Gp,Ae,V.share,Ak.shareLL]⟩
def Hk (x:List Int):List V:=[.row true 1 (x.map Ab)]
theorem Aa3:Fp Hk Gp 1:=⟨fun _=>rfl,fun _=>rfl,fun x=>by simp only[Hk,Gp,Ae,V.share,Ak.shareLL]⟩
def Cw (x:Eb):List V:=[.row false 1 (x.Gl.map Bb),.row false 1 (x.Ja.map Ab),.row false 1 (x.Gm.map Ab)]
theorem Mb:En Cw 3:=⟨fun _=>rfl,fun _=>rfl,fun _=>rfl,fun x=>by simp only[Cw,Ae,V.share,Ay.shareLL,Ak.shareLL]⟩
def Dv (x:Eb):List V:=[.row true 1 (x.Gl.map Bb),.row true 1 (x.Ja.map Ab),.row true 1 (x.Gm.map Ab)]
theorem Mc:Fp Dv Cw 3:=⟨fun _=>rfl,fun _=>rfl,fun x=>by simp only[Dv,Cw,Ae,V.share,Ay.shareLL,Ak.shareLL]⟩
def Am (x:Bf):List V:=[.int .i64 x.fAt,.int .i64 x.Xf,.int .i64 x.Xg]
theorem Au:En Am 3:=⟨fun _=>rfl,fun _=>rfl,fun _=>rfl,fun x=>rfl⟩
theorem Jt:Fp Am Am 3:=⟨Au.len,Au.closed,Au.share⟩
def Bp (x:List Bf):List V:=[.row false 3 (x.map Am)]
theorem Jc:En Bp 1:=⟨fun _=>rfl,fun _=>rfl,fun _=>rfl,fun x=>by simp only[Bp,Ae,V.share,Au.shareLL]⟩
def Cj (x:List Bf):List V:=[.row true 3 (x.map Am)]
theorem Jd:Fp Cj Bp 1:=⟨fun _=>rfl,fun _=>rfl,fun x=>by simp only[Cj,Bp,Ae,V.share,Au.shareLL]⟩
def Bj (x:Bg):List V:=[.int .i64 x.Ja,.int .i64 x.Bz,.int .i64 x.Js,.int .i64 x.fUp,.int .i64 x.Hf,.int .i64 x.B5,.int .i64 x.Hg,.int .i64 x.Hh,.row false 1 (x.Af.map Ab),.int .i64 x.Rk,.int .i64 x.Hi,.row false 3 (x.Er.map Am),.row false 1 (x.Dt.map Ab)]
theorem E3:En Bj 13:=⟨fun _=>rfl,fun _=>rfl,fun _=>rfl,fun x=>by simp only[Bj,Ae,V.share,Ak.shareLL,Au.shareLL]⟩
def B7 (x:Bg):List V:=[.int .i64 x.Ja,.int .i64 x.Bz,.int .i64 x.Js,.int .i64 x.fUp,.int .i64 x.Hf,.int .i64 x.B5,.int .i64 x.Hg,.int .i64 x.Hh,.row true 1 (x.Af.map Ab),.int .i64 x.Rk,.int .i64 x.Hi,.row true 3 (x.Er.map Am),.row true 1 (x.Dt.map Ab)]
theorem E4:Fp B7 Bj 13:=⟨fun _=>rfl,fun _=>rfl,fun x=>by simp only[B7,Bj,Ae,V.share,Ak.shareLL,Au.shareLL]⟩
def Cb (x:List Bg):List V:=[.row false 13 (x.map Bj)]
theorem Ju:En Cb 1:=⟨fun _=>rfl,fun _=>rfl,fun _=>rfl,fun x=>by simp only[Cb,Ae,V.share,E3.shareLL]⟩
def C5 (x:List Bg):List V:=[.row true 13 (x.map B7)]
theorem Jv:Fp C5 Cb 1:=⟨fun _=>rfl,fun _=>rfl,fun x=>by simp only[C5,Cb,Ae,V.share,E4.shareLL]⟩
def A6 (x:A3):List V:=[.int .i64 x.As,.int .i64 x.B5,.row false 1 (x.Dt.map Ab),.row false 1 (x.Af.map Ab),.int .i64 x.Hj]
theorem Ei:En A6 5:=⟨fun _=>rfl,fun _=>rfl,fun _=>rfl,fun x=>by simp only[A6,Ae,V.share,Ak.shareLL]⟩
def Bl (x:A3):List V:=[.int .i64 x.As,.int .i64 x.B5,.row true 1 (x.Dt.map Ab),.row true 1 (x.Af.map Ab),.int .i64 x.Hj]
theorem Ej:Fp Bl A6 5:=⟨fun _=>rfl,fun _=>rfl,fun x=>by simp only[Bl,A6,Ae,V.share,Ak.shareLL]⟩
def Bq (x:List A3):List V:=[.row false 5 (x.map A6)]
theorem Je:En Bq 1:=⟨fun _=>rfl,fun _=>rfl,fun _=>rfl,fun x=>by simp only[Bq,Ae,V.share,Ei.shareLL]⟩
def Cl (x:List A3):List V:=[.row true 5 (x.map Bl)]
theorem Jf:Fp Cl Bq 1:=⟨fun _=>rfl,fun _=>rfl,fun x=>by simp only[Cl,Bq,Ae,V.share,Ej.shareLL]⟩
def Cc (x:Es):List V:=[.int .i64 x.fC.Af,.int .i64 x.fC.Ez,.int .i64 x.fC.Db,.int .i64 x.fC.Fv,.int .i64 x.fC.Dc,.int .i64 x.fC.E0,.row false 1 (x.fP.Gl.map Bb),.row false 1 (x.fP.Ja.map Ab),.row false 1 (x.fP.Gm.map Ab),.row false 13 (x.fL.map Bj),.row false 5 (x.fQ.map A6),.row false 1 (x.Rl.map Ab)]
theorem Jw:En Cc 12:=⟨fun _=>rfl,fun _=>rfl,fun _=>rfl,fun x=>by simp only[Cc,Ae,V.share,Ay.shareLL,Ak.shareLL,E3.shareLL,Ei.shareLL]⟩
def C6 (x:Es):List V:=[.int .i64 x.fC.Af,.int .i64 x.fC.Ez,.int .i64 x.fC.Db,.int .i64 x.fC.Fv,.int .i64 x.fC.Dc,.int .i64 x.fC.E0,.row true 1 (x.fP.Gl.map Bb),.row true 1 (x.fP.Ja.map Ab),.row true 1 (x.fP.Gm.map Ab),.row true 13 (x.fL.map B7),.row true 5 (x.fQ.map Bl),.row true 1 (x.Rl.map Ab)]
theorem Jx:Fp C6 Cc 12:=⟨fun _=>rfl,fun _=>rfl,fun x=>by simp only[C6,Cc,Ae,V.share,Ay.shareLL,Ak.shareLL,E4.shareLL,Ej.shareLL]⟩
def Br (x:Ca):List V:=[.int .i64 x.As,.int .i64 x.Bz]
theorem Cy:En Br 2:=⟨fun _=>rfl,fun _=>rfl,fun _=>rfl,fun x=>rfl⟩
theorem Jg:Fp Br Br 2:=⟨Cy.len,Cy.closed,Cy.share⟩
def Dh (x:E2):List V:=[.int .i64 x.fH.As,.int .i64 x.fH.Bz,.int .i64 x.Js,.int .i64 x.Xh]
theorem D2:En Dh 4:=⟨fun _=>rfl,fun _=>rfl,fun _=>rfl,fun x=>rfl⟩
theorem Nb:Fp Dh Dh 4:=⟨D2.len,D2.closed,D2.share⟩
def De (x:Dg):List V:=[.int .i64 x.Yv,.int .i64 x.fH.As,.int .i64 x.fH.Bz,.int .i64 x.fR.fH.As,.int .i64 x.fR.fH.Bz,.int .i64 x.fR.Js,.int .i64 x.fR.Xh,.int .i64 x.fN,.int .i64 x.fM,.row false 1 (x.fB.map Bb)]
theorem Hl:En De 10:=⟨fun _=>rfl,fun _=>rfl,fun _=>rfl,fun x=>by simp only[De,Ae,V.share,Ay.shareLL]⟩
def D0 (x:Dg):List V:=[.int .i64 x.Yv,.int .i64 x.fH.As,.int .i64 x.fH.Bz,.int .i64 x.fR.fH.As,.int .i64 x.fR.fH.Bz,.int .i64 x.fR.Js,.int .i64 x.fR.Xh,.int .i64 x.fN,.int .i64 x.fM,.row true 1 (x.fB.map Bb)]
theorem Hm:Fp D0 De 10:=⟨fun _=>rfl,fun _=>rfl,fun x=>by simp only[D0,De,Ae,V.share,Ay.shareLL]⟩
def Cz (x:Fb):List V:=[.int .i64 x.Af,.int .i64 x.Ez,.int .i64 x.Db,.int .i64 x.Fv,.int .i64 x.Dc,.int .i64 x.E0]
theorem Dw:En Cz 6:=⟨fun _=>rfl,fun _=>rfl,fun _=>rfl,fun x=>rfl⟩
theorem Md:Fp Cz Cz 6:=⟨Dw.len,Dw.closed,Dw.share⟩
def C0 (x:Ec):List V:=[.row false 1 (x.Gl.map Bb),.row false 1 (x.Ja.map Ab),.row false 1 (x.Gm.map Ab)]
theorem Me:En C0 3:=⟨fun _=>rfl,fun _=>rfl,fun _=>rfl,fun x=>by simp only[C0,Ae,V.share,Ay.shareLL,Ak.shareLL]⟩
def Dx (x:Ec):List V:=[.row true 1 (x.Gl.map Bb),.row true 1 (x.Ja.map Ab),.row true 1 (x.Gm.map Ab)]
theorem Mf:Fp Dx C0 3:=⟨fun _=>rfl,fun _=>rfl,fun x=>by simp only[Dx,C0,Ae,V.share,Ay.shareLL,Ak.shareLL]⟩
def An (x:Bh):List V:=[.int .i64 x.fAt,.int .i64 x.Xf,.int .i64 x.Xg]
theorem Av:En An 3:=⟨fun _=>rfl,fun _=>rfl,fun _=>rfl,fun x=>rfl⟩
theorem Jy:Fp An An 3:=⟨Av.len,Av.closed,Av.share⟩
def Bt (x:List Bh):List V:=[.row false 3 (x.map An)]
theorem Jh:En Bt 1:=⟨fun _=>rfl,fun _=>rfl,fun _=>rfl,fun x=>by simp only[Bt,Ae,V.share,Av.shareLL]⟩
def Cm (x:List Bh):List V:=[.row true 3 (x.map An)]
theorem Ji:Fp Cm Bt 1:=⟨fun _=>rfl,fun _=>rfl,fun x=>by simp only[Cm,Bt,Ae,V.share,Av.shareLL]⟩
def Bk (x:Bi):List V:=[.int .i64 x.Ja,.int .i64 x.Bz,.int .i64 x.Js,.int .i64 x.fUp,.int .i64 x.Hf,.int .i64 x.B5,.int .i64 x.Hg,.int .i64 x.Hh,.row false 1 (x.Af.map Ab),.int .i64 x.Rk,.int .i64 x.Hi,.row false 3 (x.Er.map An),.row false 1 (x.Dt.map Ab)]
theorem E5:En Bk 13:=⟨fun _=>rfl,fun _=>rfl,fun _=>rfl,fun x=>by simp only[Bk,Ae,V.share,Ak.shareLL,Av.shareLL]⟩
def B8 (x:Bi):List V:=[.int .i64 x.Ja,.int .i64 x.Bz,.int .i64 x.Js,.int .i64 x.fUp,.int .i64 x.Hf,.int .i64 x.B5,.int .i64 x.Hg,.int .i64 x.Hh,.row true 1 (x.Af.map Ab),.int .i64 x.Rk,.int .i64 x.Hi,.row true 3 (x.Er.map An),.row true 1 (x.Dt.map Ab)]
theorem E6:Fp B8 Bk 13:=⟨fun _=>rfl,fun _=>rfl,fun x=>by simp only[B8,Bk,Ae,V.share,Ak.shareLL,Av.shareLL]⟩
def Cd (x:List Bi):List V:=[.row false 13 (x.map Bk)]
theorem Jz:En Cd 1:=⟨fun _=>rfl,fun _=>rfl,fun _=>rfl,fun x=>by simp only[Cd,Ae,V.share,E5.shareLL]⟩
def C7 (x:List Bi):List V:=[.row true 13 (x.map B8)]
theorem J0:Fp C7 Cd 1:=⟨fun _=>rfl,fun _=>rfl,fun x=>by simp only[C7,Cd,Ae,V.share,E6.shareLL]⟩
def A7 (x:A4):List V:=[.int .i64 x.As,.int .i64 x.B5,.row false 1 (x.Dt.map Ab),.row false 1 (x.Af.map Ab),.int .i64 x.Hj]
theorem Ek:En A7 5:=⟨fun _=>rfl,fun _=>rfl,fun _=>rfl,fun x=>by simp only[A7,Ae,V.share,Ak.shareLL]⟩
def Bm (x:A4):List V:=[.int .i64 x.As,.int .i64 x.B5,.row true 1 (x.Dt.map Ab),.row true 1 (x.Af.map Ab),.int .i64 x.Hj]
theorem El:Fp Bm A7 5:=⟨fun _=>rfl,fun _=>rfl,fun x=>by simp only[Bm,A7,Ae,V.share,Ak.shareLL]⟩
def Bu (x:List A4):List V:=[.row false 5 (x.map A7)]
theorem Jj:En Bu 1:=⟨fun _=>rfl,fun _=>rfl,fun _=>rfl,fun x=>by simp only[Bu,Ae,V.share,Ek.shareLL]⟩
def Co (x:List A4):List V:=[.row true 5 (x.map Bm)]
theorem Jk:Fp Co Bu 1:=⟨fun _=>rfl,fun _=>rfl,fun x=>by simp only[Co,Bu,Ae,V.share,El.shareLL]⟩
def Ce (x:Et):List V:=[.int .i64 x.fC.Af,.int .i64 x.fC.Ez,.int .i64 x.fC.Db,.int .i64 x.fC.Fv,.int .i64 x.fC.Dc,.int .i64 x.fC.E0,.row false 1 (x.fP.Gl.map Bb),.row false 1 (x.fP.Ja.map Ab),.row false 1 (x.fP.Gm.map Ab),.row false 13 (x.fL.map Bk),.row false 5 (x.fQ.map A7),.row false 1 (x.Rl.map Ab)]
theorem J1:En Ce 12:=⟨fun _=>rfl,fun _=>rfl,fun _=>rfl,fun x=>by simp only[Ce,Ae,V.share,Ay.shareLL,Ak.shareLL,E5.shareLL,Ek.shareLL]⟩
def C8 (x:Et):List V:=[.int .i64 x.fC.Af,.int .i64 x.fC.Ez,.int .i64 x.fC.Db,.int .i64 x.fC.Fv,.int .i64 x.fC.Dc,.int .i64 x.fC.E0,.row true 1 (x.fP.Gl.map Bb),.row true 1 (x.fP.Ja.map Ab),.row true 1 (x.fP.Gm.map Ab),.row true 13 (x.fL.map B8),.row true 5 (x.fQ.map Bm),.row true 1 (x.Rl.map Ab)]
theorem J2:Fp C8 Ce 12:=⟨fun _=>rfl,fun _=>rfl,fun x=>by simp only[C8,Ce,Ae,V.share,Ay.shareLL,Ak.shareLL,E6.shareLL,El.shareLL]⟩
def Bv (x:D1):List V:=[.int .i64 x.As,.int .i64 x.Bz]
theorem C1:En Bv 2:=⟨fun _=>rfl,fun _=>rfl,fun _=>rfl,fun x=>rfl⟩
theorem Jl:Fp Bv Bv 2:=⟨C1.len,C1.closed,C1.share⟩
def Di (x:Gz):List V:=[.int .i64 x.fH.As,.int .i64 x.fH.Bz,.int .i64 x.Js,.int .i64 x.Xh]
theorem D3:En Di 4:=⟨fun _=>rfl,fun _=>rfl,fun _=>rfl,fun x=>rfl⟩
theorem Nc:Fp Di Di 4:=⟨D3.len,D3.closed,D3.share⟩
def Dj (x:F4):List V:=[.int .i64 x.Yw,.int .i64 x.fH.As,.int .i64 x.fH.Bz,.int .i64 x.fR.fH.As,.int .i64 x.fR.fH.Bz,.int .i64 x.fR.Js,.int .i64 x.fR.Xh,.row false 1 (x.fB.map Bb),.int .i64 x.Yx,.int .i64 x.Fv,.int .i64 x.Rm]
theorem Nd:En Dj 11:=⟨fun _=>rfl,fun _=>rfl,fun _=>rfl,fun x=>by simp only[Dj,Ae,V.share,Ay.shareLL]⟩
def Ed (x:F4):List V:=[.int .i64 x.Yw,.int .i64 x.fH.As,.int .i64 x.fH.Bz,.int .i64 x.fR.fH.As,.int .i64 x.fR.fH.Bz,.int .i64 x.fR.Js,.int .i64 x.fR.Xh,.row true 1 (x.fB.map Bb),.int .i64 x.Yx,.int .i64 x.Fv,.int .i64 x.Rm]
theorem Nf:Fp Ed Dj 11:=⟨fun _=>rfl,fun _=>rfl,fun x=>by simp only[Ed,Dj,Ae,V.share,Ay.shareLL]⟩
def Cf (x:Eu):List V:=[.row false 1 (x.fb.map Bb),.int .i64 x.fi,.int .i64 x.fh]
theorem J3:En Cf 3:=⟨fun _=>rfl,fun _=>rfl,fun _=>rfl,fun x=>by simp only[Cf,Ae,V.share,Ay.shareLL]⟩
def C9 (x:Eu):List V:=[.row true 1 (x.fb.map Bb),.int .i64 x.fi,.int .i64 x.fh]
theorem J4:Fp C9 Cf 3:=⟨fun _=>rfl,fun _=>rfl,fun x=>by simp only[C9,Cf,Ae,V.share,Ay.shareLL]⟩
def Dk (x:List Dg):List V:=[.row false 10 (x.map De)]
theorem Ng:En Dk 1:=⟨fun _=>rfl,fun _=>rfl,fun _=>rfl,fun x=>by simp only[Dk,Ae,V.share,Hl.shareLL]⟩
def Ee (x:List Dg):List V:=[.row true 10 (x.map D0)]
theorem Nh:Fp Ee Dk 1:=⟨fun _=>rfl,fun _=>rfl,fun x=>by simp only[Ee,Dk,Ae,V.share,Hm.shareLL]⟩
def Dl (x:List Bool):List V:=[.row false 1 (x.map B6)]
theorem Ni:En Dl 1:=⟨fun _=>rfl,fun _=>rfl,fun _=>rfl,fun x=>by simp only[Dl,Ae,V.share,Ct.shareLL]⟩
def Ef (x:List Bool):List V:=[.row true 1 (x.map B6)]
theorem Nj:Fp Ef Dl 1:=⟨fun _=>rfl,fun _=>rfl,fun x=>by simp only[Ef,Dl,Ae,V.share,Ct.shareLL]⟩
def Ah:Nat->Type
 |2=>Int
 |3=>Int
 |4=>Bool
 |5=>Int
 |9=>ByteArray
 |22=>List Int
 |25=>Fa
 |26=>List Int
 |28=>Eb
 |89=>Bf
 |41=>List Bf
 |44=>Bg
 |29=>List Bg
 |159=>A3
 |30=>List A3
 |32=>Es
 |34=>Ca
 |36=>E2
 |38=>Dg
 |47=>Fb
 |48=>Ec
 |222=>Bh
 |152=>List Bh
 |154=>Bi
 |49=>List Bi
 |157=>A4
 |50=>List A4
 |52=>Et
 |53=>D1
 |61=>Gz
 |69=>F4
 |135=>Eu
 |136=>List Dg
 |224=>List Bool
 |_=>Unit
abbrev Aoq:(t:Nat)->Inhabited (Ah t)
 |2=>(inferInstance:Inhabited Int)
 |3=>(inferInstance:Inhabited Int)
 |4=>(inferInstance:Inhabited Bool)
 |5=>(inferInstance:Inhabited Int)
 |9=>(inferInstance:Inhabited ByteArray)
 |22=>(inferInstance:Inhabited (List Int))
 |25=>(inferInstance:Inhabited Fa)
 |26=>(inferInstance:Inhabited (List Int))
 |28=>(inferInstance:Inhabited Eb)
 |89=>(inferInstance:Inhabited Bf)
 |41=>(inferInstance:Inhabited (List Bf))
 |44=>(inferInstance:Inhabited Bg)
 |29=>(inferInstance:Inhabited (List Bg))
 |159=>(inferInstance:Inhabited A3)
 |30=>(inferInstance:Inhabited (List A3))
 |32=>(inferInstance:Inhabited Es)
 |34=>(inferInstance:Inhabited Ca)
 |36=>(inferInstance:Inhabited E2)
 |38=>(inferInstance:Inhabited Dg)
 |47=>(inferInstance:Inhabited Fb)
 |48=>(inferInstance:Inhabited Ec)
 |222=>(inferInstance:Inhabited Bh)
 |152=>(inferInstance:Inhabited (List Bh))
 |154=>(inferInstance:Inhabited Bi)
 |49=>(inferInstance:Inhabited (List Bi))
 |157=>(inferInstance:Inhabited A4)
 |50=>(inferInstance:Inhabited (List A4))
 |52=>(inferInstance:Inhabited Et)
 |53=>(inferInstance:Inhabited D1)
 |61=>(inferInstance:Inhabited Gz)
 |69=>(inferInstance:Inhabited F4)
 |135=>(inferInstance:Inhabited Eu)
 |136=>(inferInstance:Inhabited (List Dg))
 |224=>(inferInstance:Inhabited (List Bool))
 |_=>(by unfold Ah;split<;>infer_instance)
def Aly:Nat->Nat
 |2=>1
 |3=>1
 |4=>1
 |5=>1
 |9=>1
 |22=>1
 |25=>6
 |26=>1
 |28=>3
 |89=>3
 |41=>1
 |44=>13
 |29=>1
 |159=>5
 |30=>1
 |32=>12
 |34=>2
 |36=>4
 |38=>10
 |47=>6
 |48=>3
 |222=>3
 |152=>1
 |154=>13
 |49=>1
 |157=>5
 |50=>1
 |52=>12
 |53=>2
 |61=>4
 |69=>11
 |135=>3
 |136=>1
 |224=>1
 |_=>0
def Alz:Nat->Bool
 |2=>true
 |3=>true
 |4=>true
 |5=>true
 |9=>true
 |22=>false
 |25=>true
 |26=>false
 |28=>false
 |89=>true
 |41=>false
 |44=>false
 |29=>false
 |159=>false
 |30=>false
 |32=>false
 |34=>true
 |36=>true
 |38=>false
 |47=>true
 |48=>false
 |222=>true
 |152=>false
 |154=>false
 |49=>false
 |157=>false
 |50=>false
 |52=>false
 |53=>true
 |61=>true
 |69=>false
 |135=>false
 |136=>false
 |224=>false
 |_=>true
def Aq5:Nat->Bool
 |2=>false
 |3=>false
 |4=>false
 |5=>false
 |9=>false
 |22=>false
 |25=>true
 |26=>false
 |28=>true
 |89=>true
 |41=>false
 |44=>true
 |29=>false
 |159=>true
 |30=>false
 |32=>true
 |34=>true
 |36=>true
 |38=>true
 |47=>true
 |48=>true
 |222=>true
 |152=>false
 |154=>true
 |49=>false
 |157=>true
 |50=>false
 |52=>true
 |53=>true
 |61=>true
 |69=>true
 |135=>true
 |136=>false
 |224=>false
 |_=>false
def Al0:(t:Nat)->Ah t->List V
 |2,x=>Ab x
 |3,x=>Ab x
 |4,x=>B6 x
 |5,x=>Bb x
 |9,x=>Ev x
 |22,x=>Jb x
 |25,x=>Cv x
 |26,x=>Gp x
 |28,x=>Cw x
 |89,x=>Am x
 |41,x=>Bp x
 |44,x=>Bj x
 |29,x=>Cb x
 |159,x=>A6 x
 |30,x=>Bq x
 |32,x=>Cc x
 |34,x=>Br x
 |36,x=>Dh x
 |38,x=>De x
 |47,x=>Cz x
 |48,x=>C0 x
 |222,x=>An x
 |152,x=>Bt x
 |154,x=>Bk x
 |49,x=>Cd x
 |157,x=>A7 x
 |50,x=>Bu x
 |52,x=>Ce x
 |53,x=>Bv x
 |61,x=>Di x
 |69,x=>Dj x
 |135,x=>Cf x
 |136,x=>Dk x
 |224,x=>Dl x
 |_,_=>[]
def Al1:(t:Nat)->Ah t->List V
 |2,x=>Ab x
 |3,x=>Ab x
 |4,x=>B6 x
 |5,x=>Bb x
 |9,x=>Ev x
 |22,x=>L9 x
 |25,x=>Cv x
 |26,x=>Hk x
 |28,x=>Dv x
 |89,x=>Am x
 |41,x=>Cj x
 |44,x=>B7 x
 |29,x=>C5 x
 |159,x=>Bl x
 |30,x=>Cl x
 |32,x=>C6 x
 |34,x=>Br x
 |36,x=>Dh x
 |38,x=>D0 x
 |47,x=>Cz x
 |48,x=>Dx x
 |222,x=>An x
 |152,x=>Cm x
 |154,x=>B8 x
 |49,x=>C7 x
 |157,x=>Bm x
 |50,x=>Co x
 |52,x=>C8 x
 |53,x=>Bv x
 |61,x=>Di x
 |69,x=>Ed x
 |135,x=>C9 x
 |136,x=>Ee x
 |224,x=>Ef x
 |_,_=>[]
def Al2:(t:Nat)->Ah t->List (SV Ah)
 |2,x=>[.int .i64 x 0]
 |3,x=>[.int .i64 x 0]
 |4,x=>[.bool x]
 |5,x=>[.int .u8 x 0]
 |9,x=>[.str x]
 |22,x=>[.row 5 x]
 |25,x=>[.int .i64 x.Af 0,.int .i64 x.Ez 0,.int .i64 x.Db 0,.int .i64 x.Fv 0,.int .i64 x.Dc 0,.int .i64 x.E0 0]
 |26,x=>[.row 3 x]
 |28,x=>[.row 5 x.Gl,.row 3 x.Ja,.row 3 x.Gm]
 |89,x=>[.int .i64 x.fAt 0,.int .i64 x.Xf 0,.int .i64 x.Xg 0]
 |41,x=>[.row 89 x]
 |44,x=>[.int .i64 x.Ja 0,.int .i64 x.Bz 0,.int .i64 x.Js 0,.int .i64 x.fUp 0,.int .i64 x.Hf 0,.int .i64 x.B5 0,.int .i64 x.Hg 0,.int .i64 x.Hh 0,.row 3 x.Af,.int .i64 x.Rk 0,.int .i64 x.Hi 0,.row 89 x.Er,.row 3 x.Dt]
 |29,x=>[.row 44 x]
 |159,x=>[.int .i64 x.As 0,.int .i64 x.B5 0,.row 3 x.Dt,.row 3 x.Af,.int .i64 x.Hj 0]
 |30,x=>[.row 159 x]
 |32,x=>[.int .i64 x.fC.Af 0,.int .i64 x.fC.Ez 0,.int .i64 x.fC.Db 0,.int .i64 x.fC.Fv 0,.int .i64 x.fC.Dc 0,.int .i64 x.fC.E0 0,.row 5 x.fP.Gl,.row 3 x.fP.Ja,.row 3 x.fP.Gm,.row 44 x.fL,.row 159 x.fQ,.row 3 x.Rl]
 |34,x=>[.int .i64 x.As 0,.int .i64 x.Bz 0]
 |36,x=>[.int .i64 x.fH.As 0,.int .i64 x.fH.Bz 0,.int .i64 x.Js 0,.int .i64 x.Xh 0]
 |38,x=>[.int .i64 x.Yv 0,.int .i64 x.fH.As 0,.int .i64 x.fH.Bz 0,.int .i64 x.fR.fH.As 0,.int .i64 x.fR.fH.Bz 0,.int .i64 x.fR.Js 0,.int .i64 x.fR.Xh 0,.int .i64 x.fN 0,.int .i64 x.fM 0,.row 5 x.fB]
 |47,x=>[.int .i64 x.Af 0,.int .i64 x.Ez 0,.int .i64 x.Db 0,.int .i64 x.Fv 0,.int .i64 x.Dc 0,.int .i64 x.E0 0]
 |48,x=>[.row 5 x.Gl,.row 3 x.Ja,.row 3 x.Gm]
 |222,x=>[.int .i64 x.fAt 0,.int .i64 x.Xf 0,.int .i64 x.Xg 0]
 |152,x=>[.row 222 x]
 |154,x=>[.int .i64 x.Ja 0,.int .i64 x.Bz 0,.int .i64 x.Js 0,.int .i64 x.fUp 0,.int .i64 x.Hf 0,.int .i64 x.B5 0,.int .i64 x.Hg 0,.int .i64 x.Hh 0,.row 3 x.Af,.int .i64 x.Rk 0,.int .i64 x.Hi 0,.row 222 x.Er,.row 3 x.Dt]
 |49,x=>[.row 154 x]
 |157,x=>[.int .i64 x.As 0,.int .i64 x.B5 0,.row 3 x.Dt,.row 3 x.Af,.int .i64 x.Hj 0]
 |50,x=>[.row 157 x]
 |52,x=>[.int .i64 x.fC.Af 0,.int .i64 x.fC.Ez 0,.int .i64 x.fC.Db 0,.int .i64 x.fC.Fv 0,.int .i64 x.fC.Dc 0,.int .i64 x.fC.E0 0,.row 5 x.fP.Gl,.row 3 x.fP.Ja,.row 3 x.fP.Gm,.row 154 x.fL,.row 157 x.fQ,.row 3 x.Rl]
 |53,x=>[.int .i64 x.As 0,.int .i64 x.Bz 0]
 |61,x=>[.int .i64 x.fH.As 0,.int .i64 x.fH.Bz 0,.int .i64 x.Js 0,.int .i64 x.Xh 0]
 |69,x=>[.int .i64 x.Yw 0,.int .i64 x.fH.As 0,.int .i64 x.fH.Bz 0,.int .i64 x.fR.fH.As 0,.int .i64 x.fR.fH.Bz 0,.int .i64 x.fR.Js 0,.int .i64 x.fR.Xh 0,.row 5 x.fB,.int .i64 x.Yx 0,.int .i64 x.Fv 0,.int .i64 x.Rm 0]
 |135,x=>[.row 5 x.fb,.int .i64 x.fi 0,.int .i64 x.fh 0]
 |136,x=>[.row 38 x]
 |224,x=>[.row 4 x]
 |_,_=>[]
def Bc:(t:Nat)->Bool->Ah t->List (SV Ah)
 |2,m,x=>[.int .i64 x 0]
 |3,m,x=>[.int .i64 x 0]
 |4,m,x=>[.bool x]
 |5,m,x=>[.int .u8 x 0]
 |9,m,x=>[.str x]
 |22,m,x=>[.rowT 5 true x]
 |25,m,x=>[.int .i64 x.Af 0,.int .i64 x.Ez 0,.int .i64 x.Db 0,.int .i64 x.Fv 0,.int .i64 x.Dc 0,.int .i64 x.E0 0]
 |26,m,x=>[.rowT 3 true x]
 |28,m,x=>[.rowT 5 true x.Gl,.rowT 3 true x.Ja,.rowT 3 true x.Gm]
 |89,m,x=>[.int .i64 x.fAt 0,.int .i64 x.Xf 0,.int .i64 x.Xg 0]
 |41,m,x=>[.rowT 89 true x]
 |44,m,x=>[.int .i64 x.Ja 0,.int .i64 x.Bz 0,.int .i64 x.Js 0,.int .i64 x.fUp 0,.int .i64 x.Hf 0,.int .i64 x.B5 0,.int .i64 x.Hg 0,.int .i64 x.Hh 0,.rowT 3 true x.Af,.int .i64 x.Rk 0,.int .i64 x.Hi 0,.rowT 89 true x.Er,.rowT 3 true x.Dt]
 |29,m,x=>[.rowT 44 m x]
 |159,m,x=>[.int .i64 x.As 0,.int .i64 x.B5 0,.rowT 3 true x.Dt,.rowT 3 true x.Af,.int .i64 x.Hj 0]
 |30,m,x=>[.rowT 159 m x]
 |32,m,x=>[.int .i64 x.fC.Af 0,.int .i64 x.fC.Ez 0,.int .i64 x.fC.Db 0,.int .i64 x.fC.Fv 0,.int .i64 x.fC.Dc 0,.int .i64 x.fC.E0 0,.rowT 5 true x.fP.Gl,.rowT 3 true x.fP.Ja,.rowT 3 true x.fP.Gm,.rowT 44 m x.fL,.rowT 159 m x.fQ,.rowT 3 true x.Rl]
 |34,m,x=>[.int .i64 x.As 0,.int .i64 x.Bz 0]
 |36,m,x=>[.int .i64 x.fH.As 0,.int .i64 x.fH.Bz 0,.int .i64 x.Js 0,.int .i64 x.Xh 0]
 |38,m,x=>[.int .i64 x.Yv 0,.int .i64 x.fH.As 0,.int .i64 x.fH.Bz 0,.int .i64 x.fR.fH.As 0,.int .i64 x.fR.fH.Bz 0,.int .i64 x.fR.Js 0,.int .i64 x.fR.Xh 0,.int .i64 x.fN 0,.int .i64 x.fM 0,.rowT 5 true x.fB]
 |47,m,x=>[.int .i64 x.Af 0,.int .i64 x.Ez 0,.int .i64 x.Db 0,.int .i64 x.Fv 0,.int .i64 x.Dc 0,.int .i64 x.E0 0]
 |48,m,x=>[.rowT 5 true x.Gl,.rowT 3 true x.Ja,.rowT 3 true x.Gm]
 |222,m,x=>[.int .i64 x.fAt 0,.int .i64 x.Xf 0,.int .i64 x.Xg 0]
 |152,m,x=>[.rowT 222 true x]
 |154,m,x=>[.int .i64 x.Ja 0,.int .i64 x.Bz 0,.int .i64 x.Js 0,.int .i64 x.fUp 0,.int .i64 x.Hf 0,.int .i64 x.B5 0,.int .i64 x.Hg 0,.int .i64 x.Hh 0,.rowT 3 true x.Af,.int .i64 x.Rk 0,.int .i64 x.Hi 0,.rowT 222 true x.Er,.rowT 3 true x.Dt]
 |49,m,x=>[.rowT 154 m x]
 |157,m,x=>[.int .i64 x.As 0,.int .i64 x.B5 0,.rowT 3 true x.Dt,.rowT 3 true x.Af,.int .i64 x.Hj 0]
 |50,m,x=>[.rowT 157 m x]
 |52,m,x=>[.int .i64 x.fC.Af 0,.int .i64 x.fC.Ez 0,.int .i64 x.fC.Db 0,.int .i64 x.fC.Fv 0,.int .i64 x.fC.Dc 0,.int .i64 x.fC.E0 0,.rowT 5 true x.fP.Gl,.rowT 3 true x.fP.Ja,.rowT 3 true x.fP.Gm,.rowT 154 m x.fL,.rowT 157 m x.fQ,.rowT 3 true x.Rl]
 |53,m,x=>[.int .i64 x.As 0,.int .i64 x.Bz 0]
 |61,m,x=>[.int .i64 x.fH.As 0,.int .i64 x.fH.Bz 0,.int .i64 x.Js 0,.int .i64 x.Xh 0]
 |69,m,x=>[.int .i64 x.Yw 0,.int .i64 x.fH.As 0,.int .i64 x.fH.Bz 0,.int .i64 x.fR.fH.As 0,.int .i64 x.fR.fH.Bz 0,.int .i64 x.fR.Js 0,.int .i64 x.fR.Xh 0,.rowT 5 true x.fB,.int .i64 x.Yx 0,.int .i64 x.Fv 0,.int .i64 x.Rm 0]
 |135,true,x=>[.rowT 5 true x.fb,.int .i64 x.fi 0,.int .i64 x.fh 0]
 |135,false,x=>[.row 5 x.fb,.int .i64 x.fi 0,.int .i64 x.fh 0]
 |136,m,x=>[.rowT 38 m x]
 |224,m,x=>[.rowT 4 true x]
 |_,_,_=>[]
def Al3:List (SV Ah)->Option (Ah 2)
 |[.int .i64 a0 _]=>some a0
 |_=>none
def Al4:List (SV Ah)->Option (Ah 3)
 |[.int .i64 a0 _]=>some a0
 |_=>none
def Al5:List (SV Ah)->Option (Ah 4)
 |[.bool a0]=>some a0
 |_=>none
def Al6:List (SV Ah)->Option (Ah 5)
 |[.int .u8 a0 _]=>some a0
 |_=>none
def Al7:List (SV Ah)->Option (Ah 9)
 |[.str a0]=>some a0
 |_=>none
def Ae0:List (SV Ah)->Option (Ah 22)
 |[.row 5 a0]=>some a0
 |_=>none
def Ae1:List (SV Ah)->Option (Ah 25)
 |[.int .i64 a0 _,.int .i64 a1 _,.int .i64 a2 _,.int .i64 a3 _,.int .i64 a4 _,.int .i64 a5 _]=>some ⟨a0,a1,a2,a3,a4,a5⟩
 |_=>none
def Ae2:List (SV Ah)->Option (Ah 26)
 |[.row 3 a0]=>some a0
 |_=>none
def Ae3:List (SV Ah)->Option (Ah 28)
 |[.row 5 a0,.row 3 a1,.row 3 a2]=>some ⟨a0,a1,a2⟩
 |_=>none
def Ae4:List (SV Ah)->Option (Ah 89)
 |[.int .i64 a0 _,.int .i64 a1 _,.int .i64 a2 _]=>some ⟨a0,a1,a2⟩
 |_=>none
def Ae5:List (SV Ah)->Option (Ah 41)
 |[.row 89 a0]=>some a0
 |_=>none
def Ae6:List (SV Ah)->Option (Ah 44)
 |[.int .i64 a0 _,.int .i64 a1 _,.int .i64 a2 _,.int .i64 a3 _,.int .i64 a4 _,.int .i64 a5 _,.int .i64 a6 _,.int .i64 a7 _,.row 3 a8,.int .i64 a9 _,.int .i64 a10 _,.row 89 a11,.row 3 a12]=>some ⟨a0,a1,a2,a3,a4,a5,a6,a7,a8,a9,a10,a11,a12⟩
 |_=>none
def Ae7:List (SV Ah)->Option (Ah 29)
 |[.row 44 a0]=>some a0
 |_=>none
def Xi:List (SV Ah)->Option (Ah 159)
 |[.int .i64 a0 _,.int .i64 a1 _,.row 3 a2,.row 3 a3,.int .i64 a4 _]=>some ⟨a0,a1,a2,a3,a4⟩
 |_=>none
def Ae8:List (SV Ah)->Option (Ah 30)
 |[.row 159 a0]=>some a0
 |_=>none
def Ae9:List (SV Ah)->Option (Ah 32)
 |[.int .i64 a0 _,.int .i64 a1 _,.int .i64 a2 _,.int .i64 a3 _,.int .i64 a4 _,.int .i64 a5 _,.row 5 a6,.row 3 a7,.row 3 a8,.row 44 a9,.row 159 a10,.row 3 a11]=>some ⟨⟨a0,a1,a2,a3,a4,a5⟩,⟨a6,a7,a8⟩,a9,a10,a11⟩
 |_=>none
def Afa:List (SV Ah)->Option (Ah 34)
 |[.int .i64 a0 _,.int .i64 a1 _]=>some ⟨a0,a1⟩
 |_=>none
def Afb:List (SV Ah)->Option (Ah 36)
 |[.int .i64 a0 _,.int .i64 a1 _,.int .i64 a2 _,.int .i64 a3 _]=>some ⟨⟨a0,a1⟩,a2,a3⟩
 |_=>none
def Afc:List (SV Ah)->Option (Ah 38)
 |[.int .i64 a0 _,.int .i64 a1 _,.int .i64 a2 _,.int .i64 a3 _,.int .i64 a4 _,.int .i64 a5 _,.int .i64 a6 _,.int .i64 a7 _,.int .i64 a8 _,.row 5 a9]=>some ⟨a0,⟨a1,a2⟩,⟨⟨a3,a4⟩,a5,a6⟩,a7,a8,a9⟩
 |_=>none
def Afd:List (SV Ah)->Option (Ah 47)
 |[.int .i64 a0 _,.int .i64 a1 _,.int .i64 a2 _,.int .i64 a3 _,.int .i64 a4 _,.int .i64 a5 _]=>some ⟨a0,a1,a2,a3,a4,a5⟩
 |_=>none
def Afe:List (SV Ah)->Option (Ah 48)
 |[.row 5 a0,.row 3 a1,.row 3 a2]=>some ⟨a0,a1,a2⟩
 |_=>none
def Xj:List (SV Ah)->Option (Ah 222)
 |[.int .i64 a0 _,.int .i64 a1 _,.int .i64 a2 _]=>some ⟨a0,a1,a2⟩
 |_=>none
def Xk:List (SV Ah)->Option (Ah 152)
 |[.row 222 a0]=>some a0
 |_=>none
def Xl:List (SV Ah)->Option (Ah 154)
 |[.int .i64 a0 _,.int .i64 a1 _,.int .i64 a2 _,.int .i64 a3 _,.int .i64 a4 _,.int .i64 a5 _,.int .i64 a6 _,.int .i64 a7 _,.row 3 a8,.int .i64 a9 _,.int .i64 a10 _,.row 222 a11,.row 3 a12]=>some ⟨a0,a1,a2,a3,a4,a5,a6,a7,a8,a9,a10,a11,a12⟩
 |_=>none
def Aff:List (SV Ah)->Option (Ah 49)
 |[.row 154 a0]=>some a0
 |_=>none
def Xm:List (SV Ah)->Option (Ah 157)
 |[.int .i64 a0 _,.int .i64 a1 _,.row 3 a2,.row 3 a3,.int .i64 a4 _]=>some ⟨a0,a1,a2,a3,a4⟩
 |_=>none
def Afg:List (SV Ah)->Option (Ah 50)
 |[.row 157 a0]=>some a0
 |_=>none
def Afh:List (SV Ah)->Option (Ah 52)
 |[.int .i64 a0 _,.int .i64 a1 _,.int .i64 a2 _,.int .i64 a3 _,.int .i64 a4 _,.int .i64 a5 _,.row 5 a6,.row 3 a7,.row 3 a8,.row 154 a9,.row 157 a10,.row 3 a11]=>some ⟨⟨a0,a1,a2,a3,a4,a5⟩,⟨a6,a7,a8⟩,a9,a10,a11⟩
 |_=>none
def Afi:List (SV Ah)->Option (Ah 53)
 |[.int .i64 a0 _,.int .i64 a1 _]=>some ⟨a0,a1⟩
 |_=>none
def Afj:List (SV Ah)->Option (Ah 61)
 |[.int .i64 a0 _,.int .i64 a1 _,.int .i64 a2 _,.int .i64 a3 _]=>some ⟨⟨a0,a1⟩,a2,a3⟩
 |_=>none
def Afk:List (SV Ah)->Option (Ah 69)
 |[.int .i64 a0 _,.int .i64 a1 _,.int .i64 a2 _,.int .i64 a3 _,.int .i64 a4 _,.int .i64 a5 _,.int .i64 a6 _,.row 5 a7,.int .i64 a8 _,.int .i64 a9 _,.int .i64 a10 _]=>some ⟨a0,⟨a1,a2⟩,⟨⟨a3,a4⟩,a5,a6⟩,a7,a8,a9,a10⟩
 |_=>none
def Xn:List (SV Ah)->Option (Ah 135)
 |[.row 5 a0,.int .i64 a1 _,.int .i64 a2 _]=>some ⟨a0,a1,a2⟩
 |_=>none
def Xo:List (SV Ah)->Option (Ah 136)
 |[.row 38 a0]=>some a0
 |_=>none
def Xp:List (SV Ah)->Option (Ah 224)
 |[.row 4 a0]=>some a0
 |_=>none
def Al8:(t:Nat)->List (SV Ah)->Option (Ah t)
 |2,c=>Al3 c
 |3,c=>Al4 c
 |4,c=>Al5 c
 |5,c=>Al6 c
 |9,c=>Al7 c
 |22,c=>Ae0 c
 |25,c=>Ae1 c
 |26,c=>Ae2 c
 |28,c=>Ae3 c
 |89,c=>Ae4 c
 |41,c=>Ae5 c
 |44,c=>Ae6 c
 |29,c=>Ae7 c
 |159,c=>Xi c
 |30,c=>Ae8 c
 |32,c=>Ae9 c
 |34,c=>Afa c
 |36,c=>Afb c
 |38,c=>Afc c
 |47,c=>Afd c
 |48,c=>Afe c
 |222,c=>Xj c
 |152,c=>Xk c
 |154,c=>Xl c
 |49,c=>Aff c
 |157,c=>Xm c
 |50,c=>Afg c
 |52,c=>Afh c
 |53,c=>Afi c
 |61,c=>Afj c
 |69,c=>Afk c
 |135,c=>Xn c
 |136,c=>Xo c
 |224,c=>Xp c
 |_,_=>none
def Xq:List (SV Ah)->Option (Ah 2)
 |[.int .i64 a0 _]=>some a0
 |_=>none
def Xr:List (SV Ah)->Option (Ah 3)
 |[.int .i64 a0 _]=>some a0
 |_=>none
def Xs:List (SV Ah)->Option (Ah 4)
 |[.bool a0]=>some a0
 |_=>none
def Xt:List (SV Ah)->Option (Ah 5)
 |[.int .u8 a0 _]=>some a0
 |_=>none
def Xu:List (SV Ah)->Option (Ah 9)
 |[.str a0]=>some a0
 |_=>none
def Ro:List (SV Ah)->Option (Ah 22)
 |[.rowT 5 true a0]=>some a0
 |_=>none
def Rp:List (SV Ah)->Option (Ah 25)
 |[.int .i64 a0 _,.int .i64 a1 _,.int .i64 a2 _,.int .i64 a3 _,.int .i64 a4 _,.int .i64 a5 _]=>some ⟨a0,a1,a2,a3,a4,a5⟩
 |_=>none
def Rq:List (SV Ah)->Option (Ah 26)
 |[.rowT 3 true a0]=>some a0
 |_=>none
def Rr:List (SV Ah)->Option (Ah 28)
 |[.rowT 5 true a0,.rowT 3 true a1,.rowT 3 true a2]=>some ⟨a0,a1,a2⟩
 |_=>none
def Rs:List (SV Ah)->Option (Ah 89)
 |[.int .i64 a0 _,.int .i64 a1 _,.int .i64 a2 _]=>some ⟨a0,a1,a2⟩
 |_=>none
def Ru:List (SV Ah)->Option (Ah 41)
 |[.rowT 89 true a0]=>some a0
 |_=>none
def Rv:List (SV Ah)->Option (Ah 44)
 |[.int .i64 a0 _,.int .i64 a1 _,.int .i64 a2 _,.int .i64 a3 _,.int .i64 a4 _,.int .i64 a5 _,.int .i64 a6 _,.int .i64 a7 _,.rowT 3 true a8,.int .i64 a9 _,.int .i64 a10 _,.rowT 89 true a11,.rowT 3 true a12]=>some ⟨a0,a1,a2,a3,a4,a5,a6,a7,a8,a9,a10,a11,a12⟩
 |_=>none
def Rw:List (SV Ah)->Option (Ah 29)
 |[.rowT 44 true a0]=>some a0
 |_=>none
def Rx:List (SV Ah)->Option (Ah 29)
 |[.rowT 44 false a0]=>some a0
 |_=>none
def Mg:List (SV Ah)->Option (Ah 159)
 |[.int .i64 a0 _,.int .i64 a1 _,.rowT 3 true a2,.rowT 3 true a3,.int .i64 a4 _]=>some ⟨a0,a1,a2,a3,a4⟩
 |_=>none
def Ry:List (SV Ah)->Option (Ah 30)
 |[.rowT 159 true a0]=>some a0
 |_=>none
def Rz:List (SV Ah)->Option (Ah 30)
 |[.rowT 159 false a0]=>some a0
 |_=>none
def R1:List (SV Ah)->Option (Ah 32)
 |[.int .i64 a0 _,.int .i64 a1 _,.int .i64 a2 _,.int .i64 a3 _,.int .i64 a4 _,.int .i64 a5 _,.rowT 5 true a6,.rowT 3 true a7,.rowT 3 true a8,.rowT 44 true a9,.rowT 159 true a10,.rowT 3 true a11]=>some ⟨⟨a0,a1,a2,a3,a4,a5⟩,⟨a6,a7,a8⟩,a9,a10,a11⟩
 |_=>none
def R2:List (SV Ah)->Option (Ah 32)
 |[.int .i64 a0 _,.int .i64 a1 _,.int .i64 a2 _,.int .i64 a3 _,.int .i64 a4 _,.int .i64 a5 _,.rowT 5 true a6,.rowT 3 true a7,.rowT 3 true a8,.rowT 44 false a9,.rowT 159 false a10,.rowT 3 true a11]=>some ⟨⟨a0,a1,a2,a3,a4,a5⟩,⟨a6,a7,a8⟩,a9,a10,a11⟩
 |_=>none
def R3:List (SV Ah)->Option (Ah 34)
 |[.int .i64 a0 _,.int .i64 a1 _]=>some ⟨a0,a1⟩
 |_=>none
def R4:List (SV Ah)->Option (Ah 36)
 |[.int .i64 a0 _,.int .i64 a1 _,.int .i64 a2 _,.int .i64 a3 _]=>some ⟨⟨a0,a1⟩,a2,a3⟩
 |_=>none
def R5:List (SV Ah)->Option (Ah 38)
 |[.int .i64 a0 _,.int .i64 a1 _,.int .i64 a2 _,.int .i64 a3 _,.int .i64 a4 _,.int .i64 a5 _,.int .i64 a6 _,.int .i64 a7 _,.int .i64 a8 _,.rowT 5 true a9]=>some ⟨a0,⟨a1,a2⟩,⟨⟨a3,a4⟩,a5,a6⟩,a7,a8,a9⟩
 |_=>none
def R6:List (SV Ah)->Option (Ah 47)
 |[.int .i64 a0 _,.int .i64 a1 _,.int .i64 a2 _,.int .i64 a3 _,.int .i64 a4 _,.int .i64 a5 _]=>some ⟨a0,a1,a2,a3,a4,a5⟩
 |_=>none
def R7:List (SV Ah)->Option (Ah 48)
 |[.rowT 5 true a0,.rowT 3 true a1,.rowT 3 true a2]=>some ⟨a0,a1,a2⟩
 |_=>none
def Mh:List (SV Ah)->Option (Ah 222)
 |[.int .i64 a0 _,.int .i64 a1 _,.int .i64 a2 _]=>some ⟨a0,a1,a2⟩
 |_=>none
def Mi:List (SV Ah)->Option (Ah 152)
 |[.rowT 222 true a0]=>some a0
 |_=>none
def Mj:List (SV Ah)->Option (Ah 154)
 |[.int .i64 a0 _,.int .i64 a1 _,.int .i64 a2 _,.int .i64 a3 _,.int .i64 a4 _,.int .i64 a5 _,.int .i64 a6 _,.int .i64 a7 _,.rowT 3 true a8,.int .i64 a9 _,.int .i64 a10 _,.rowT 222 true a11,.rowT 3 true a12]=>some ⟨a0,a1,a2,a3,a4,a5,a6,a7,a8,a9,a10,a11,a12⟩
 |_=>none
def R8:List (SV Ah)->Option (Ah 49)
 |[.rowT 154 true a0]=>some a0
 |_=>none
def R9:List (SV Ah)->Option (Ah 49)
 |[.rowT 154 false a0]=>some a0
 |_=>none
def Mk:List (SV Ah)->Option (Ah 157)
 |[.int .i64 a0 _,.int .i64 a1 _,.rowT 3 true a2,.rowT 3 true a3,.int .i64 a4 _]=>some ⟨a0,a1,a2,a3,a4⟩
 |_=>none
def Sa:List (SV Ah)->Option (Ah 50)
 |[.rowT 157 true a0]=>some a0
 |_=>none
def Sb:List (SV Ah)->Option (Ah 50)
 |[.rowT 157 false a0]=>some a0
 |_=>none
def Sc:List (SV Ah)->Option (Ah 52)
 |[.int .i64 a0 _,.int .i64 a1 _,.int .i64 a2 _,.int .i64 a3 _,.int .i64 a4 _,.int .i64 a5 _,.rowT 5 true a6,.rowT 3 true a7,.rowT 3 true a8,.rowT 154 true a9,.rowT 157 true a10,.rowT 3 true a11]=>some ⟨⟨a0,a1,a2,a3,a4,a5⟩,⟨a6,a7,a8⟩,a9,a10,a11⟩
 |_=>none
def Sd:List (SV Ah)->Option (Ah 52)
 |[.int .i64 a0 _,.int .i64 a1 _,.int .i64 a2 _,.int .i64 a3 _,.int .i64 a4 _,.int .i64 a5 _,.rowT 5 true a6,.rowT 3 true a7,.rowT 3 true a8,.rowT 154 false a9,.rowT 157 false a10,.rowT 3 true a11]=>some ⟨⟨a0,a1,a2,a3,a4,a5⟩,⟨a6,a7,a8⟩,a9,a10,a11⟩
 |_=>none
def Se:List (SV Ah)->Option (Ah 53)
 |[.int .i64 a0 _,.int .i64 a1 _]=>some ⟨a0,a1⟩
 |_=>none
def Sf:List (SV Ah)->Option (Ah 61)
 |[.int .i64 a0 _,.int .i64 a1 _,.int .i64 a2 _,.int .i64 a3 _]=>some ⟨⟨a0,a1⟩,a2,a3⟩
 |_=>none
def Sg:List (SV Ah)->Option (Ah 69)
 |[.int .i64 a0 _,.int .i64 a1 _,.int .i64 a2 _,.int .i64 a3 _,.int .i64 a4 _,.int .i64 a5 _,.int .i64 a6 _,.rowT 5 true a7,.int .i64 a8 _,.int .i64 a9 _,.int .i64 a10 _]=>some ⟨a0,⟨a1,a2⟩,⟨⟨a3,a4⟩,a5,a6⟩,a7,a8,a9,a10⟩
 |_=>none
def Ml:List (SV Ah)->Option (Ah 135)
 |[.rowT 5 true a0,.int .i64 a1 _,.int .i64 a2 _]=>some ⟨a0,a1,a2⟩
 |_=>none
def Mm:List (SV Ah)->Option (Ah 135)
 |[.row 5 a0,.int .i64 a1 _,.int .i64 a2 _]=>some ⟨a0,a1,a2⟩
 |_=>none
def Mn:List (SV Ah)->Option (Ah 136)
 |[.rowT 38 true a0]=>some a0
 |_=>none
def Mo:List (SV Ah)->Option (Ah 136)
 |[.rowT 38 false a0]=>some a0
 |_=>none
def Mp:List (SV Ah)->Option (Ah 224)
 |[.rowT 4 true a0]=>some a0
 |_=>none
def Al9:(t:Nat)->Bool->List (SV Ah)->Option (Ah t)
 |2,_,c=>Xq c
 |3,_,c=>Xr c
 |4,_,c=>Xs c
 |5,_,c=>Xt c
 |9,_,c=>Xu c
 |22,_,c=>Ro c
 |25,_,c=>Rp c
 |26,_,c=>Rq c
 |28,_,c=>Rr c
 |89,_,c=>Rs c
 |41,_,c=>Ru c
 |44,_,c=>Rv c
 |29,true,c=>Rw c
 |29,false,c=>Rx c
 |159,_,c=>Mg c
 |30,true,c=>Ry c
 |30,false,c=>Rz c
 |32,true,c=>R1 c
 |32,false,c=>R2 c
 |34,_,c=>R3 c
 |36,_,c=>R4 c
 |38,_,c=>R5 c
 |47,_,c=>R6 c
 |48,_,c=>R7 c
 |222,_,c=>Mh c
 |152,_,c=>Mi c
 |154,_,c=>Mj c
 |49,true,c=>R8 c
 |49,false,c=>R9 c
 |157,_,c=>Mk c
 |50,true,c=>Sa c
 |50,false,c=>Sb c
 |52,true,c=>Sc c
 |52,false,c=>Sd c
 |53,_,c=>Se c
 |61,_,c=>Sf c
 |69,_,c=>Sg c
 |135,true,c=>Ml c
 |135,false,c=>Mm c
 |136,true,c=>Mn c
 |136,false,c=>Mo c
 |224,_,c=>Mp c
 |_,_,_=>none
def tyU:Un:=⟨Ah,Aoq,Aly,Alz,Aq5,Al0,Al1,Al2,Bc,Al8,Al9⟩
theorem Ama: ∀x,(L9 x).all V.fresh=true:=fun x=>by
 simp only[L9,Gc,List.all_nil,Ac (f:=Bb) (fun _=>rfl),M8,M9,Na,Bool.and_self]
theorem Aie: ∀x,(Hk x).all V.fresh=true:=fun x=>by
 simp only[Hk,Gc,List.all_nil,Ac (f:=Ab) (fun _=>rfl),M8,M9,Na,Bool.and_self]
theorem Si: ∀x,(Dv x).all V.fresh=true:=fun x=>by
 simp only[Dv,Gc,List.all_nil,Ac (f:=Bb) (fun _=>rfl),Ac (f:=Ab) (fun _=>rfl),M8,M9,Na,Bool.and_self]
theorem Mq: ∀x,(Cj x).all V.fresh=true:=fun x=>by
 simp only[Cj,Gc,List.all_nil,Ac (f:=Am) (fun _=>rfl),M8,M9,Na,Bool.and_self]
theorem F5: ∀x,(B7 x).all V.fresh=true:=fun x=>by
 simp only[B7,Gc,List.all_nil,Ac (f:=Ab) (fun _=>rfl),Ac (f:=Am) (fun _=>rfl),M8,M9,Na,Bool.and_self]
theorem Nk: ∀x,(C5 x).all V.fresh=true:=fun x=>by
 simp only[C5,Gc,List.all_nil,Ac F5,M8,M9,Na,Bool.and_self]
theorem Fi: ∀x,(Bl x).all V.fresh=true:=fun x=>by
 simp only[Bl,Gc,List.all_nil,Ac (f:=Ab) (fun _=>rfl),M8,M9,Na,Bool.and_self]
theorem Mr: ∀x,(Cl x).all V.fresh=true:=fun x=>by
 simp only[Cl,Gc,List.all_nil,Ac Fi,M8,M9,Na,Bool.and_self]
theorem Nl: ∀x,(C6 x).all V.fresh=true:=fun x=>by
 simp only[C6,Gc,List.all_nil,Ac (f:=Bb) (fun _=>rfl),Ac (f:=Ab) (fun _=>rfl),Ac F5,Ac Fi,M8,M9,Na,Bool.and_self]
theorem Ms: ∀x,(D0 x).all V.fresh=true:=fun x=>by
 simp only[D0,Gc,List.all_nil,Ac (f:=Bb) (fun _=>rfl),M8,M9,Na,Bool.and_self]
theorem Sj: ∀x,(Dx x).all V.fresh=true:=fun x=>by
 simp only[Dx,Gc,List.all_nil,Ac (f:=Bb) (fun _=>rfl),Ac (f:=Ab) (fun _=>rfl),M8,M9,Na,Bool.and_self]
theorem Mt: ∀x,(Cm x).all V.fresh=true:=fun x=>by
 simp only[Cm,Gc,List.all_nil,Ac (f:=An) (fun _=>rfl),M8,M9,Na,Bool.and_self]
theorem F6: ∀x,(B8 x).all V.fresh=true:=fun x=>by
 simp only[B8,Gc,List.all_nil,Ac (f:=Ab) (fun _=>rfl),Ac (f:=An) (fun _=>rfl),M8,M9,Na,Bool.and_self]
theorem Nm: ∀x,(C7 x).all V.fresh=true:=fun x=>by
 simp only[C7,Gc,List.all_nil,Ac F6,M8,M9,Na,Bool.and_self]
theorem Fj: ∀x,(Bm x).all V.fresh=true:=fun x=>by
 simp only[Bm,Gc,List.all_nil,Ac (f:=Ab) (fun _=>rfl),M8,M9,Na,Bool.and_self]
theorem Mu: ∀x,(Co x).all V.fresh=true:=fun x=>by
 simp only[Co,Gc,List.all_nil,Ac Fj,M8,M9,Na,Bool.and_self]
theorem Nn: ∀x,(C8 x).all V.fresh=true:=fun x=>by
 simp only[C8,Gc,List.all_nil,Ac (f:=Bb) (fun _=>rfl),Ac (f:=Ab) (fun _=>rfl),Ac F6,Ac Fj,M8,M9,Na,Bool.and_self]
theorem U3: ∀x,(Ed x).all V.fresh=true:=fun x=>by
 simp only[Ed,Gc,List.all_nil,Ac (f:=Bb) (fun _=>rfl),M8,M9,Na,Bool.and_self]
theorem No: ∀x,(C9 x).all V.fresh=true:=fun x=>by
 simp only[C9,Gc,List.all_nil,Ac (f:=Bb) (fun _=>rfl),M8,M9,Na,Bool.and_self]
theorem U4: ∀x,(Ee x).all V.fresh=true:=fun x=>by
 simp only[Ee,Gc,List.all_nil,Ac Ms,M8,M9,Na,Bool.and_self]
theorem U5: ∀x,(Ef x).all V.fresh=true:=fun x=>by
 simp only[Ef,Gc,List.all_nil,Ac (f:=B6) (fun _=>rfl),M8,M9,Na,Bool.and_self]
theorem Aor (c x)(h:Al3 c=some x):c.map (SV.toV tyU)=Ab x:=by
  unfold Al3 at h;split at h
  ·cases h;rfl
  ·cases h
theorem Aif (c x)(h:Xq c=some x):c.map (SV.toV tyU)=(Bc 2 true x).map (SV.toV tyU):=by
  unfold Xq at h;split at h
  ·cases h;rfl
  ·cases h
theorem Aq6:Gd tyU 2:=⟨Ak,U1,fun _=>rfl,fun _=>rfl,fun _ _=>rfl,Aor,fun _=>Aif,fun _=>rfl,fun _=>rfl,fun _ _=>rfl,fun _=>rfl,fun _=>rfl⟩
theorem Aos (c x)(h:Al4 c=some x):c.map (SV.toV tyU)=Ab x:=by
  unfold Al4 at h;split at h
  ·cases h;rfl
  ·cases h
theorem Aig (c x)(h:Xr c=some x):c.map (SV.toV tyU)=(Bc 3 true x).map (SV.toV tyU):=by
  unfold Xr at h;split at h
  ·cases h;rfl
  ·cases h
theorem Aq7:Gd tyU 3:=⟨Ak,U1,fun _=>rfl,fun _=>rfl,fun _ _=>rfl,Aos,fun _=>Aig,fun _=>rfl,fun _=>rfl,fun _ _=>rfl,fun _=>rfl,fun _=>rfl⟩
theorem Aot (c x)(h:Al5 c=some x):c.map (SV.toV tyU)=B6 x:=by
  unfold Al5 at h;split at h
  ·cases h;rfl
  ·cases h
theorem Aih (c x)(h:Xs c=some x):c.map (SV.toV tyU)=(Bc 4 true x).map (SV.toV tyU):=by
  unfold Xs at h;split at h
  ·cases h;rfl
  ·cases h
theorem Aq8:Gd tyU 4:=⟨Ct,Rn,fun _=>rfl,fun _=>rfl,fun _ _=>rfl,Aot,fun _=>Aih,fun _=>rfl,fun _=>rfl,fun _ _=>rfl,fun _=>rfl,fun _=>rfl⟩
theorem Aou (c x)(h:Al6 c=some x):c.map (SV.toV tyU)=Bb x:=by
  unfold Al6 at h;split at h
  ·cases h;rfl
  ·cases h
theorem Aii (c x)(h:Xt c=some x):c.map (SV.toV tyU)=(Bc 5 true x).map (SV.toV tyU):=by
  unfold Xt at h;split at h
  ·cases h;rfl
  ·cases h
theorem Aq9:Gd tyU 5:=⟨Ay,Aid,fun _=>rfl,fun _=>rfl,fun _ _=>rfl,Aou,fun _=>Aii,fun _=>rfl,fun _=>rfl,fun _ _=>rfl,fun _=>rfl,fun _=>rfl⟩
theorem Aov (c x)(h:Al7 c=some x):c.map (SV.toV tyU)=Ev x:=by
  unfold Al7 at h;split at h
  ·cases h;rfl
  ·cases h
theorem Aij (c x)(h:Xu c=some x):c.map (SV.toV tyU)=(Bc 9 true x).map (SV.toV tyU):=by
  unfold Xu at h;split at h
  ·cases h;rfl
  ·cases h
theorem Ara:Gd tyU 9:=⟨Fc,U2,fun _=>rfl,fun _=>rfl,fun _ _=>rfl,Aov,fun _=>Aij,fun _=>rfl,fun _=>rfl,fun _ _=>rfl,fun _=>rfl,fun _=>rfl⟩
theorem Amb (c x)(h:Ae0 c=some x):c.map (SV.toV tyU)=Jb x:=by
  unfold Ae0 at h;split at h
  ·cases h;rfl
  ·cases h
theorem Afl (c x)(h:Ro c=some x):c.map (SV.toV tyU)=(Bc 22 true x).map (SV.toV tyU):=by
  unfold Ro at h;split at h
  ·cases h;rfl
  ·cases h
theorem Aow:Gd tyU 22:=⟨Aey,Aez,fun _=>rfl,fun _=>rfl,fun _ _=>rfl,Amb,fun _=>Afl,(fun h=>by cases h),fun _=>rfl,fun _ _=>rfl,Ama,fun _=>rfl⟩
theorem Amc (c x)(h:Ae1 c=some x):c.map (SV.toV tyU)=Cv x:=by
  unfold Ae1 at h;split at h
  ·cases h;rfl
  ·cases h
theorem Afm (c x)(h:Rp c=some x):c.map (SV.toV tyU)=(Bc 25 true x).map (SV.toV tyU):=by
  unfold Rp at h;split at h
  ·cases h;rfl
  ·cases h
theorem Aox:Gd tyU 25:=⟨Du,Ma,fun _=>rfl,fun _=>rfl,fun _ _=>rfl,Amc,fun _=>Afm,fun _=>rfl,fun _=>rfl,fun _ _=>rfl,fun _=>rfl,fun _=>rfl⟩
theorem Amd (c x)(h:Ae2 c=some x):c.map (SV.toV tyU)=Gp x:=by
  unfold Ae2 at h;split at h
  ·cases h;rfl
  ·cases h
theorem Afn (c x)(h:Rq c=some x):c.map (SV.toV tyU)=(Bc 26 true x).map (SV.toV tyU):=by
  unfold Rq at h;split at h
  ·cases h;rfl
  ·cases h
theorem Aoy:Gd tyU 26:=⟨Aa2,Aa3,fun _=>rfl,fun _=>rfl,fun _ _=>rfl,Amd,fun _=>Afn,(fun h=>by cases h),fun _=>rfl,fun _ _=>rfl,Aie,fun _=>rfl⟩
theorem Ame (c x)(h:Ae3 c=some x):c.map (SV.toV tyU)=Cw x:=by
  unfold Ae3 at h;split at h
  ·cases h;rfl
  ·cases h
theorem Afo (c x)(h:Rr c=some x):c.map (SV.toV tyU)=(Bc 28 true x).map (SV.toV tyU):=by
  unfold Rr at h;split at h
  ·cases h;rfl
  ·cases h
theorem Aoz:Gd tyU 28:=⟨Mb,Mc,fun _=>rfl,fun _=>rfl,fun _ _=>rfl,Ame,fun _=>Afo,(fun h=>by cases h),fun _=>rfl,fun _ _=>rfl,Si,fun _=>rfl⟩
theorem Amf (c x)(h:Ae4 c=some x):c.map (SV.toV tyU)=Am x:=by
  unfold Ae4 at h;split at h
  ·cases h;rfl
  ·cases h
theorem Afp (c x)(h:Rs c=some x):c.map (SV.toV tyU)=(Bc 89 true x).map (SV.toV tyU):=by
  unfold Rs at h;split at h
  ·cases h;rfl
  ·cases h
theorem Ao0:Gd tyU 89:=⟨Au,Jt,fun _=>rfl,fun _=>rfl,fun _ _=>rfl,Amf,fun _=>Afp,fun _=>rfl,fun _=>rfl,fun _ _=>rfl,fun _=>rfl,fun _=>rfl⟩
theorem Amg (c x)(h:Ae5 c=some x):c.map (SV.toV tyU)=Bp x:=by
  unfold Ae5 at h;split at h
  ·cases h;rfl
  ·cases h
theorem Afq (c x)(h:Ru c=some x):c.map (SV.toV tyU)=(Bc 41 true x).map (SV.toV tyU):=by
  unfold Ru at h;split at h
  ·cases h;rfl
  ·cases h
theorem Ao1:Gd tyU 41:=⟨Jc,Jd,fun _=>rfl,fun _=>rfl,fun _ _=>rfl,Amg,fun _=>Afq,(fun h=>by cases h),fun _=>rfl,fun _ _=>rfl,Mq,fun _=>rfl⟩
theorem Amh (c x)(h:Ae6 c=some x):c.map (SV.toV tyU)=Bj x:=by
  unfold Ae6 at h;split at h
  ·cases h;rfl
  ·cases h
theorem Afr (c x)(h:Rv c=some x):c.map (SV.toV tyU)=(Bc 44 true x).map (SV.toV tyU):=by
  unfold Rv at h;split at h
  ·cases h;rfl
  ·cases h
theorem Ao2:Gd tyU 44:=⟨E3,E4,fun _=>rfl,fun _=>rfl,fun _ _=>rfl,Amh,fun _=>Afr,(fun h=>by cases h),fun _=>rfl,fun _ _=>rfl,F5,fun _=>rfl⟩
theorem Ami (c x)(h:Ae7 c=some x):c.map (SV.toV tyU)=Cb x:=by
  unfold Ae7 at h;split at h
  ·cases h;rfl
  ·cases h
theorem Afs (c x)(h:Rw c=some x):c.map (SV.toV tyU)=(Bc 29 true x).map (SV.toV tyU):=by
  unfold Rw at h;split at h
  ·cases h;rfl
  ·cases h
theorem Aft (c x)(h:Rx c=some x):c.map (SV.toV tyU)=(Bc 29 false x).map (SV.toV tyU):=by
  unfold Rx at h;split at h
  ·cases h;rfl
  ·cases h
theorem Ao3:Gd tyU 29:=⟨Ju,Jv,fun _=>rfl,fun _=>rfl,fun _ _=>rfl,Ami,fun m=>match m with|true=>Afs|false=>Aft,(fun h=>by cases h),fun _=>rfl,fun _ _=>rfl,Nk,fun _=>rfl⟩
theorem Aik (c x)(h:Xi c=some x):c.map (SV.toV tyU)=A6 x:=by
  unfold Xi at h;split at h
  ·cases h;rfl
  ·cases h
theorem Aa4 (c x)(h:Mg c=some x):c.map (SV.toV tyU)=(Bc 159 true x).map (SV.toV tyU):=by
  unfold Mg at h;split at h
  ·cases h;rfl
  ·cases h
theorem Amj:Gd tyU 159:=⟨Ei,Ej,fun _=>rfl,fun _=>rfl,fun _ _=>rfl,Aik,fun _=>Aa4,(fun h=>by cases h),fun _=>rfl,fun _ _=>rfl,Fi,fun _=>rfl⟩
theorem Amk (c x)(h:Ae8 c=some x):c.map (SV.toV tyU)=Bq x:=by
  unfold Ae8 at h;split at h
  ·cases h;rfl
  ·cases h
theorem Afu (c x)(h:Ry c=some x):c.map (SV.toV tyU)=(Bc 30 true x).map (SV.toV tyU):=by
  unfold Ry at h;split at h
  ·cases h;rfl
  ·cases h
theorem Afv (c x)(h:Rz c=some x):c.map (SV.toV tyU)=(Bc 30 false x).map (SV.toV tyU):=by
  unfold Rz at h;split at h
  ·cases h;rfl
  ·cases h
theorem Ao4:Gd tyU 30:=⟨Je,Jf,fun _=>rfl,fun _=>rfl,fun _ _=>rfl,Amk,fun m=>match m with|true=>Afu|false=>Afv,(fun h=>by cases h),fun _=>rfl,fun _ _=>rfl,Mr,fun _=>rfl⟩
theorem Aml (c x)(h:Ae9 c=some x):c.map (SV.toV tyU)=Cc x:=by
  unfold Ae9 at h;split at h
  ·cases h;rfl
  ·cases h
theorem Afw (c x)(h:R1 c=some x):c.map (SV.toV tyU)=(Bc 32 true x).map (SV.toV tyU):=by
  unfold R1 at h;split at h
  ·cases h;rfl
  ·cases h
theorem Afx (c x)(h:R2 c=some x):c.map (SV.toV tyU)=(Bc 32 false x).map (SV.toV tyU):=by
  unfold R2 at h;split at h
  ·cases h;rfl
  ·cases h
theorem Ao5:Gd tyU 32:=⟨Jw,Jx,fun _=>rfl,fun _=>rfl,fun _ _=>rfl,Aml,fun m=>match m with|true=>Afw|false=>Afx,(fun h=>by cases h),fun _=>rfl,fun _ _=>rfl,Nl,fun _=>rfl⟩
theorem Amm (c x)(h:Afa c=some x):c.map (SV.toV tyU)=Br x:=by
  unfold Afa at h;split at h
  ·cases h;rfl
  ·cases h
theorem Afy (c x)(h:R3 c=some x):c.map (SV.toV tyU)=(Bc 34 true x).map (SV.toV tyU):=by
  unfold R3 at h;split at h
  ·cases h;rfl
  ·cases h
theorem Ao6:Gd tyU 34:=⟨Cy,Jg,fun _=>rfl,fun _=>rfl,fun _ _=>rfl,Amm,fun _=>Afy,fun _=>rfl,fun _=>rfl,fun _ _=>rfl,fun _=>rfl,fun _=>rfl⟩
theorem Amn (c x)(h:Afb c=some x):c.map (SV.toV tyU)=Dh x:=by
  unfold Afb at h;split at h
  ·cases h;rfl
  ·cases h
theorem Afz (c x)(h:R4 c=some x):c.map (SV.toV tyU)=(Bc 36 true x).map (SV.toV tyU):=by
  unfold R4 at h;split at h
  ·cases h;rfl
  ·cases h
theorem Ao7:Gd tyU 36:=⟨D2,Nb,fun _=>rfl,fun _=>rfl,fun _ _=>rfl,Amn,fun _=>Afz,fun _=>rfl,fun _=>rfl,fun _ _=>rfl,fun _=>rfl,fun _=>rfl⟩
theorem Amo (c x)(h:Afc c=some x):c.map (SV.toV tyU)=De x:=by
  unfold Afc at h;split at h
  ·cases h;rfl
  ·cases h
theorem Af0 (c x)(h:R5 c=some x):c.map (SV.toV tyU)=(Bc 38 true x).map (SV.toV tyU):=by
  unfold R5 at h;split at h
  ·cases h;rfl
  ·cases h
theorem Ao8:Gd tyU 38:=⟨Hl,Hm,fun _=>rfl,fun _=>rfl,fun _ _=>rfl,Amo,fun _=>Af0,(fun h=>by cases h),fun _=>rfl,fun _ _=>rfl,Ms,fun _=>rfl⟩
theorem Amp (c x)(h:Afd c=some x):c.map (SV.toV tyU)=Cz x:=by
  unfold Afd at h;split at h
  ·cases h;rfl
  ·cases h
theorem Af1 (c x)(h:R6 c=some x):c.map (SV.toV tyU)=(Bc 47 true x).map (SV.toV tyU):=by
  unfold R6 at h;split at h
  ·cases h;rfl
  ·cases h
theorem Ao9:Gd tyU 47:=⟨Dw,Md,fun _=>rfl,fun _=>rfl,fun _ _=>rfl,Amp,fun _=>Af1,fun _=>rfl,fun _=>rfl,fun _ _=>rfl,fun _=>rfl,fun _=>rfl⟩
theorem Amq (c x)(h:Afe c=some x):c.map (SV.toV tyU)=C0 x:=by
  unfold Afe at h;split at h
  ·cases h;rfl
  ·cases h
theorem Af2 (c x)(h:R7 c=some x):c.map (SV.toV tyU)=(Bc 48 true x).map (SV.toV tyU):=by
  unfold R7 at h;split at h
  ·cases h;rfl
  ·cases h
theorem Apa:Gd tyU 48:=⟨Me,Mf,fun _=>rfl,fun _=>rfl,fun _ _=>rfl,Amq,fun _=>Af2,(fun h=>by cases h),fun _=>rfl,fun _ _=>rfl,Sj,fun _=>rfl⟩
theorem Ail (c x)(h:Xj c=some x):c.map (SV.toV tyU)=An x:=by
  unfold Xj at h;split at h
  ·cases h;rfl
  ·cases h
theorem Aa5 (c x)(h:Mh c=some x):c.map (SV.toV tyU)=(Bc 222 true x).map (SV.toV tyU):=by
  unfold Mh at h;split at h
  ·cases h;rfl
  ·cases h
theorem Amr:Gd tyU 222:=⟨Av,Jy,fun _=>rfl,fun _=>rfl,fun _ _=>rfl,Ail,fun _=>Aa5,fun _=>rfl,fun _=>rfl,fun _ _=>rfl,fun _=>rfl,fun _=>rfl⟩
theorem Aim (c x)(h:Xk c=some x):c.map (SV.toV tyU)=Bt x:=by
  unfold Xk at h;split at h
  ·cases h;rfl
  ·cases h
theorem Aa6 (c x)(h:Mi c=some x):c.map (SV.toV tyU)=(Bc 152 true x).map (SV.toV tyU):=by
  unfold Mi at h;split at h
  ·cases h;rfl
  ·cases h
theorem Ams:Gd tyU 152:=⟨Jh,Ji,fun _=>rfl,fun _=>rfl,fun _ _=>rfl,Aim,fun _=>Aa6,(fun h=>by cases h),fun _=>rfl,fun _ _=>rfl,Mt,fun _=>rfl⟩
theorem Ain (c x)(h:Xl c=some x):c.map (SV.toV tyU)=Bk x:=by
  unfold Xl at h;split at h
  ·cases h;rfl
  ·cases h
theorem Aa7 (c x)(h:Mj c=some x):c.map (SV.toV tyU)=(Bc 154 true x).map (SV.toV tyU):=by
  unfold Mj at h;split at h
  ·cases h;rfl
  ·cases h
theorem Amt:Gd tyU 154:=⟨E5,E6,fun _=>rfl,fun _=>rfl,fun _ _=>rfl,Ain,fun _=>Aa7,(fun h=>by cases h),fun _=>rfl,fun _ _=>rfl,F6,fun _=>rfl⟩
theorem Amu (c x)(h:Aff c=some x):c.map (SV.toV tyU)=Cd x:=by
  unfold Aff at h;split at h
  ·cases h;rfl
  ·cases h
theorem Af3 (c x)(h:R8 c=some x):c.map (SV.toV tyU)=(Bc 49 true x).map (SV.toV tyU):=by
  unfold R8 at h;split at h
  ·cases h;rfl
  ·cases h
theorem Af4 (c x)(h:R9 c=some x):c.map (SV.toV tyU)=(Bc 49 false x).map (SV.toV tyU):=by
  unfold R9 at h;split at h
  ·cases h;rfl
  ·cases h
theorem Apb:Gd tyU 49:=⟨Jz,J0,fun _=>rfl,fun _=>rfl,fun _ _=>rfl,Amu,fun m=>match m with|true=>Af3|false=>Af4,(fun h=>by cases h),fun _=>rfl,fun _ _=>rfl,Nm,fun _=>rfl⟩
theorem Aio (c x)(h:Xm c=some x):c.map (SV.toV tyU)=A7 x:=by
  unfold Xm at h;split at h
  ·cases h;rfl
  ·cases h
theorem Aa8 (c x)(h:Mk c=some x):c.map (SV.toV tyU)=(Bc 157 true x).map (SV.toV tyU):=by
  unfold Mk at h;split at h
  ·cases h;rfl
  ·cases h
theorem Amv:Gd tyU 157:=⟨Ek,El,fun _=>rfl,fun _=>rfl,fun _ _=>rfl,Aio,fun _=>Aa8,(fun h=>by cases h),fun _=>rfl,fun _ _=>rfl,Fj,fun _=>rfl⟩
theorem Amw (c x)(h:Afg c=some x):c.map (SV.toV tyU)=Bu x:=by
  unfold Afg at h;split at h
  ·cases h;rfl
  ·cases h
theorem Af5 (c x)(h:Sa c=some x):c.map (SV.toV tyU)=(Bc 50 true x).map (SV.toV tyU):=by
  unfold Sa at h;split at h
  ·cases h;rfl
  ·cases h
theorem Af6 (c x)(h:Sb c=some x):c.map (SV.toV tyU)=(Bc 50 false x).map (SV.toV tyU):=by
  unfold Sb at h;split at h
  ·cases h;rfl
  ·cases h
theorem Apc:Gd tyU 50:=⟨Jj,Jk,fun _=>rfl,fun _=>rfl,fun _ _=>rfl,Amw,fun m=>match m with|true=>Af5|false=>Af6,(fun h=>by cases h),fun _=>rfl,fun _ _=>rfl,Mu,fun _=>rfl⟩
theorem Amx (c x)(h:Afh c=some x):c.map (SV.toV tyU)=Ce x:=by
  unfold Afh at h;split at h
  ·cases h;rfl
  ·cases h
theorem Af7 (c x)(h:Sc c=some x):c.map (SV.toV tyU)=(Bc 52 true x).map (SV.toV tyU):=by
  unfold Sc at h;split at h
  ·cases h;rfl
  ·cases h
theorem Af8 (c x)(h:Sd c=some x):c.map (SV.toV tyU)=(Bc 52 false x).map (SV.toV tyU):=by
  unfold Sd at h;split at h
  ·cases h;rfl
  ·cases h
theorem Apd:Gd tyU 52:=⟨J1,J2,fun _=>rfl,fun _=>rfl,fun _ _=>rfl,Amx,fun m=>match m with|true=>Af7|false=>Af8,(fun h=>by cases h),fun _=>rfl,fun _ _=>rfl,Nn,fun _=>rfl⟩
theorem Amy (c x)(h:Afi c=some x):c.map (SV.toV tyU)=Bv x:=by
  unfold Afi at h;split at h
  ·cases h;rfl
  ·cases h
theorem Af9 (c x)(h:Se c=some x):c.map (SV.toV tyU)=(Bc 53 true x).map (SV.toV tyU):=by
  unfold Se at h;split at h
  ·cases h;rfl
  ·cases h
theorem Ape:Gd tyU 53:=⟨C1,Jl,fun _=>rfl,fun _=>rfl,fun _ _=>rfl,Amy,fun _=>Af9,fun _=>rfl,fun _=>rfl,fun _ _=>rfl,fun _=>rfl,fun _=>rfl⟩
theorem Amz (c x)(h:Afj c=some x):c.map (SV.toV tyU)=Di x:=by
  unfold Afj at h;split at h
  ·cases h;rfl
  ·cases h
theorem Aga (c x)(h:Sf c=some x):c.map (SV.toV tyU)=(Bc 61 true x).map (SV.toV tyU):=by
  unfold Sf at h;split at h
  ·cases h;rfl
  ·cases h
theorem Apf:Gd tyU 61:=⟨D3,Nc,fun _=>rfl,fun _=>rfl,fun _ _=>rfl,Amz,fun _=>Aga,fun _=>rfl,fun _=>rfl,fun _ _=>rfl,fun _=>rfl,fun _=>rfl⟩
theorem Am0 (c x)(h:Afk c=some x):c.map (SV.toV tyU)=Dj x:=by
  unfold Afk at h;split at h
  ·cases h;rfl
  ·cases h
theorem Agb (c x)(h:Sg c=some x):c.map (SV.toV tyU)=(Bc 69 true x).map (SV.toV tyU):=by
  unfold Sg at h;split at h
  ·cases h;rfl
  ·cases h
theorem Apg:Gd tyU 69:=⟨Nd,Nf,fun _=>rfl,fun _=>rfl,fun _ _=>rfl,Am0,fun _=>Agb,(fun h=>by cases h),fun _=>rfl,fun _ _=>rfl,U3,fun _=>rfl⟩
theorem Aip (c x)(h:Xn c=some x):c.map (SV.toV tyU)=Cf x:=by
  unfold Xn at h;split at h
  ·cases h;rfl
  ·cases h
theorem Aa9 (c x)(h:Ml c=some x):c.map (SV.toV tyU)=(Bc 135 true x).map (SV.toV tyU):=by
  unfold Ml at h;split at h
  ·cases h;rfl
  ·cases h
theorem Aba (c x)(h:Mm c=some x):c.map (SV.toV tyU)=(Bc 135 false x).map (SV.toV tyU):=by
  unfold Mm at h;split at h
  ·cases h;rfl
  ·cases h
theorem Am1:Gd tyU 135:=⟨J3,J4,fun _=>rfl,fun _=>rfl,(fun m _=>by cases m<;>rfl),Aip,fun m=>match m with|true=>Aa9|false=>Aba,(fun h=>by cases h),fun _=>rfl,(fun m _=>by cases m<;>rfl),No,fun _=>rfl⟩
theorem Aiq (c x)(h:Xo c=some x):c.map (SV.toV tyU)=Dk x:=by
  unfold Xo at h;split at h
  ·cases h;rfl
  ·cases h
theorem Abb (c x)(h:Mn c=some x):c.map (SV.toV tyU)=(Bc 136 true x).map (SV.toV tyU):=by
  unfold Mn at h;split at h
  ·cases h;rfl
  ·cases h
theorem Abc (c x)(h:Mo c=some x):c.map (SV.toV tyU)=(Bc 136 false x).map (SV.toV tyU):=by
  unfold Mo at h;split at h
  ·cases h;rfl
  ·cases h
theorem Am2:Gd tyU 136:=⟨Ng,Nh,fun _=>rfl,fun _=>rfl,fun _ _=>rfl,Aiq,fun m=>match m with|true=>Abb|false=>Abc,(fun h=>by cases h),fun _=>rfl,fun _ _=>rfl,U4,fun _=>rfl⟩
theorem Air (c x)(h:Xp c=some x):c.map (SV.toV tyU)=Dl x:=by
  unfold Xp at h;split at h
  ·cases h;rfl
  ·cases h
theorem Abd (c x)(h:Mp c=some x):c.map (SV.toV tyU)=(Bc 224 true x).map (SV.toV tyU):=by
  unfold Mp at h;split at h
  ·cases h;rfl
  ·cases h
theorem Am3:Gd tyU 224:=⟨Ni,Nj,fun _=>rfl,fun _=>rfl,fun _ _=>rfl,Air,fun _=>Abd,(fun h=>by cases h),fun _=>rfl,fun _ _=>rfl,U5,fun _=>rfl⟩
theorem Ais{t:Nat}(h2:t≠2)(h3:t≠3)(h4:t≠4)(h5:t≠5)(h9:t≠9)(h22:t≠22)(h25:t≠25)(h26:t≠26)(h28:t≠28)(h89:t≠89)(h41:t≠41)(h44:t≠44)(h29:t≠29)(h159:t≠159)(h30:t≠30)(h32:t≠32)(h34:t≠34)(h36:t≠36)(h38:t≠38)(h47:t≠47)(h48:t≠48)(h222:t≠222)(h152:t≠152)(h154:t≠154)(h49:t≠49)(h157:t≠157)(h50:t≠50)(h52:t≠52)(h53:t≠53)(h61:t≠61)(h69:t≠69)(h135:t≠135)(h136:t≠136)(h224:t≠224):Aly t=0:=by
 unfold Aly;split<;>first|rfl|contradiction
theorem Ait{t:Nat}(h2:t≠2)(h3:t≠3)(h4:t≠4)(h5:t≠5)(h9:t≠9)(h22:t≠22)(h25:t≠25)(h26:t≠26)(h28:t≠28)(h89:t≠89)(h41:t≠41)(h44:t≠44)(h29:t≠29)(h159:t≠159)(h30:t≠30)(h32:t≠32)(h34:t≠34)(h36:t≠36)(h38:t≠38)(h47:t≠47)(h48:t≠48)(h222:t≠222)(h152:t≠152)(h154:t≠154)(h49:t≠49)(h157:t≠157)(h50:t≠50)(h52:t≠52)(h53:t≠53)(h61:t≠61)(h69:t≠69)(h135:t≠135)(h136:t≠136)(h224:t≠224)(x):Al0 t x=[]:=by
 unfold Al0;split<;>first|rfl|contradiction
theorem Aiu{t:Nat}(h2:t≠2)(h3:t≠3)(h4:t≠4)(h5:t≠5)(h9:t≠9)(h22:t≠22)(h25:t≠25)(h26:t≠26)(h28:t≠28)(h89:t≠89)(h41:t≠41)(h44:t≠44)(h29:t≠29)(h159:t≠159)(h30:t≠30)(h32:t≠32)(h34:t≠34)(h36:t≠36)(h38:t≠38)(h47:t≠47)(h48:t≠48)(h222:t≠222)(h152:t≠152)(h154:t≠154)(h49:t≠49)(h157:t≠157)(h50:t≠50)(h52:t≠52)(h53:t≠53)(h61:t≠61)(h69:t≠69)(h135:t≠135)(h136:t≠136)(h224:t≠224)(x):Al1 t x=[]:=by
 unfold Al1;split<;>first|rfl|contradiction
theorem Aiv{t:Nat}(h2:t≠2)(h3:t≠3)(h4:t≠4)(h5:t≠5)(h9:t≠9)(h22:t≠22)(h25:t≠25)(h26:t≠26)(h28:t≠28)(h89:t≠89)(h41:t≠41)(h44:t≠44)(h29:t≠29)(h159:t≠159)(h30:t≠30)(h32:t≠32)(h34:t≠34)(h36:t≠36)(h38:t≠38)(h47:t≠47)(h48:t≠48)(h222:t≠222)(h152:t≠152)(h154:t≠154)(h49:t≠49)(h157:t≠157)(h50:t≠50)(h52:t≠52)(h53:t≠53)(h61:t≠61)(h69:t≠69)(h135:t≠135)(h136:t≠136)(h224:t≠224)(x):Al2 t x=[]:=by
 unfold Al2;split<;>first|rfl|contradiction
theorem Aiw{t:Nat}(h2:t≠2)(h3:t≠3)(h4:t≠4)(h5:t≠5)(h9:t≠9)(h22:t≠22)(h25:t≠25)(h26:t≠26)(h28:t≠28)(h89:t≠89)(h41:t≠41)(h44:t≠44)(h29:t≠29)(h159:t≠159)(h30:t≠30)(h32:t≠32)(h34:t≠34)(h36:t≠36)(h38:t≠38)(h47:t≠47)(h48:t≠48)(h222:t≠222)(h152:t≠152)(h154:t≠154)(h49:t≠49)(h157:t≠157)(h50:t≠50)(h52:t≠52)(h53:t≠53)(h61:t≠61)(h69:t≠69)(h135:t≠135)(h136:t≠136)(h224:t≠224)(m)(x):Bc t m x=[]:=by
 unfold Bc;split<;>first|rfl|contradiction
theorem Aix{t:Nat}(h2:t≠2)(h3:t≠3)(h4:t≠4)(h5:t≠5)(h9:t≠9)(h22:t≠22)(h25:t≠25)(h26:t≠26)(h28:t≠28)(h89:t≠89)(h41:t≠41)(h44:t≠44)(h29:t≠29)(h159:t≠159)(h30:t≠30)(h32:t≠32)(h34:t≠34)(h36:t≠36)(h38:t≠38)(h47:t≠47)(h48:t≠48)(h222:t≠222)(h152:t≠152)(h154:t≠154)(h49:t≠49)(h157:t≠157)(h50:t≠50)(h52:t≠52)(h53:t≠53)(h61:t≠61)(h69:t≠69)(h135:t≠135)(h136:t≠136)(h224:t≠224)(c):Al8 t c=none:=by
 unfold Al8;split<;>first|rfl|contradiction
theorem Aiy{t:Nat}(h2:t≠2)(h3:t≠3)(h4:t≠4)(h5:t≠5)(h9:t≠9)(h22:t≠22)(h25:t≠25)(h26:t≠26)(h28:t≠28)(h89:t≠89)(h41:t≠41)(h44:t≠44)(h29:t≠29)(h159:t≠159)(h30:t≠30)(h32:t≠32)(h34:t≠34)(h36:t≠36)(h38:t≠38)(h47:t≠47)(h48:t≠48)(h222:t≠222)(h152:t≠152)(h154:t≠154)(h49:t≠49)(h157:t≠157)(h50:t≠50)(h52:t≠52)(h53:t≠53)(h61:t≠61)(h69:t≠69)(h135:t≠135)(h136:t≠136)(h224:t≠224)(m)(c):Al9 t m c=none:=by
 unfold Al9;split<;>first|rfl|contradiction
theorem df{t:Nat}(h2:t≠2)(h3:t≠3)(h4:t≠4)(h5:t≠5)(h9:t≠9)(h22:t≠22)(h25:t≠25)(h26:t≠26)(h28:t≠28)(h89:t≠89)(h41:t≠41)(h44:t≠44)(h29:t≠29)(h159:t≠159)(h30:t≠30)(h32:t≠32)(h34:t≠34)(h36:t≠36)(h38:t≠38)(h47:t≠47)(h48:t≠48)(h222:t≠222)(h152:t≠152)(h154:t≠154)(h49:t≠49)(h157:t≠157)(h50:t≠50)(h52:t≠52)(h53:t≠53)(h61:t≠61)(h69:t≠69)(h135:t≠135)(h136:t≠136)(h224:t≠224):Dft tyU t:=⟨Ais h2 h3 h4 h5 h9 h22 h25 h26 h28 h89 h41 h44 h29 h159 h30 h32 h34 h36 h38 h47 h48 h222 h152 h154 h49 h157 h50 h52 h53 h61 h69 h135 h136 h224,Ait h2 h3 h4 h5 h9 h22 h25 h26 h28 h89 h41 h44 h29 h159 h30 h32 h34 h36 h38 h47 h48 h222 h152 h154 h49 h157 h50 h52 h53 h61 h69 h135 h136 h224,Aiu h2 h3 h4 h5 h9 h22 h25 h26 h28 h89 h41 h44 h29 h159 h30 h32 h34 h36 h38 h47 h48 h222 h152 h154 h49 h157 h50 h52 h53 h61 h69 h135 h136 h224,Aiv h2 h3 h4 h5 h9 h22 h25 h26 h28 h89 h41 h44 h29 h159 h30 h32 h34 h36 h38 h47 h48 h222 h152 h154 h49 h157 h50 h52 h53 h61 h69 h135 h136 h224,Aiw h2 h3 h4 h5 h9 h22 h25 h26 h28 h89 h41 h44 h29 h159 h30 h32 h34 h36 h38 h47 h48 h222 h152 h154 h49 h157 h50 h52 h53 h61 h69 h135 h136 h224,Aix h2 h3 h4 h5 h9 h22 h25 h26 h28 h89 h41 h44 h29 h159 h30 h32 h34 h36 h38 h47 h48 h222 h152 h154 h49 h157 h50 h52 h53 h61 h69 h135 h136 h224,Aiy h2 h3 h4 h5 h9 h22 h25 h26 h28 h89 h41 h44 h29 h159 h30 h32 h34 h36 h38 h47 h48 h222 h152 h154 h49 h157 h50 h52 h53 h61 h69 h135 h136 h224⟩
theorem Asr:Ad tyU:=Ad.of fun t=>if h2:t=2 then by subst h2;exact Aq6 else if h3:t=3 then by subst h3;exact Aq7 else if h4:t=4 then by subst h4;exact Aq8 else if h5:t=5 then by subst h5;exact Aq9 else if h9:t=9 then by subst h9;exact Ara else if h22:t=22 then by subst h22;exact Aow else if h25:t=25 then by subst h25;exact Aox else if h26:t=26 then by subst h26;exact Aoy else if h28:t=28 then by subst h28;exact Aoz else if h89:t=89 then by subst h89;exact Ao0 else if h41:t=41 then by subst h41;exact Ao1 else if h44:t=44 then by subst h44;exact Ao2 else if h29:t=29 then by subst h29;exact Ao3 else if h159:t=159 then by subst h159;exact Amj else if h30:t=30 then by subst h30;exact Ao4 else if h32:t=32 then by subst h32;exact Ao5 else if h34:t=34 then by subst h34;exact Ao6 else if h36:t=36 then by subst h36;exact Ao7 else if h38:t=38 then by subst h38;exact Ao8 else if h47:t=47 then by subst h47;exact Ao9 else if h48:t=48 then by subst h48;exact Apa else if h222:t=222 then by subst h222;exact Amr else if h152:t=152 then by subst h152;exact Ams else if h154:t=154 then by subst h154;exact Amt else if h49:t=49 then by subst h49;exact Apb else if h157:t=157 then by subst h157;exact Amv else if h50:t=50 then by subst h50;exact Apc else if h52:t=52 then by subst h52;exact Apd else if h53:t=53 then by subst h53;exact Ape else if h61:t=61 then by subst h61;exact Apf else if h69:t=69 then by subst h69;exact Apg else if h135:t=135 then by subst h135;exact Am1 else if h136:t=136 then by subst h136;exact Am2 else if h224:t=224 then by subst h224;exact Am3 else(df h2 h3 h4 h5 h9 h22 h25 h26 h28 h89 h41 h44 h29 h159 h30 h32 h34 h36 h38 h47 h48 h222 h152 h154 h49 h157 h50 h52 h53 h61 h69 h135 h136 h224).un1
def eqs:List Nat:=[25,89,34,36,47,222,53,61]
theorem Arp:Adb Tryz.prog tab (eqT eqs):=Aia (by kernel_rfl)
end Go.Proofs.YtjdblamhaljjbaaGreat
