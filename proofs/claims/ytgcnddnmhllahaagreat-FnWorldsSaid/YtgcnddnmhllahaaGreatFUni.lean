/- The types of the seat; no condition. Printed by uni.py. -/
import Derived.Test.YtgcnddnmhllahaaGreatEc
import Derived.Test.YtgcnddnmhllahaaGreatFTab
set_option linter.all false
namespace Go.Proofs.YtgcnddnmhllahaaGreat
open Go.Eng
structure Fb where
 Ad:Int
 Ds:Int
 B9:Int
 Eu:Int
 Ca:Int
 Dt:Int
 deriving Inhabited
structure Ec where
 Fi:List Int
 Gt:List Int
 Fj:List Int
 deriving Inhabited
structure Bj where
 fAt:Int
 Xu:Int
 Xv:Int
 deriving Inhabited
structure Bk where
 Gt:Int
 C5:Int
 Mu:Int
 fUp:Int
 Gu:Int
 Bw:Int
 Gv:Int
 Gw:Int
 Ad:List Int
 M7:Int
 Gz:Int
 D3:List Bj
 De:List Int
 deriving Inhabited
structure A6 where
 A9:Int
 Bw:Int
 De:List Int
 Ad:List Int
 Hp:Int
 deriving Inhabited
structure Ev where
 fC:Fb
 fP:Ec
 fL:List Bk
 fQ:List A6
 Jc:List Int
 deriving Inhabited
structure Fc where
 Ad:Int
 Ds:Int
 B9:Int
 Eu:Int
 Ca:Int
 Dt:Int
 deriving Inhabited
structure Ed where
 Fi:List Int
 Gt:List Int
 Fj:List Int
 deriving Inhabited
structure Bl where
 fAt:Int
 Xu:Int
 Xv:Int
 deriving Inhabited
structure Ax where
 Gt:Int
 C5:Int
 Mu:Int
 fUp:Int
 Gu:Int
 Bw:Int
 Gv:Int
 Gw:Int
 Ad:List Int
 M7:Int
 Gz:Int
 D3:List Bl
 De:List Int
 deriving Inhabited
structure A7 where
 A9:Int
 Bw:Int
 De:List Int
 Ad:List Int
 Hp:Int
 deriving Inhabited
structure Bm where
 fC:Fc
 fP:Ed
 fL:List Ax
 fQ:List A7
 Jc:List Int
 deriving Inhabited
structure Ce where
 A9:Int
 C5:Int
 deriving Inhabited
structure E5 where
 fH:Ce
 Mu:Int
 fNo:Int
 deriving Inhabited
structure Fz where
 Zb:Int
 fH:Ce
 fR:E5
 fB:List Int
 Zc:Int
 Eu:Int
 Rd:Int
 deriving Inhabited
structure Df where
 Zd:Int
 fH:Ce
 fR:E5
 fN:Int
 fM:Int
 fB:List Int
 deriving Inhabited
structure Ew where
 fb:List Int
 fi:Int
 fh:Int
 deriving Inhabited
def Ac (x:Int):List V:=[.int .i64 x]
theorem Aj:En Ac 1:=⟨fun _=>rfl,fun _=>rfl,fun _=>rfl,fun x=>rfl⟩
theorem U0:Fq Ac Ac 1:=⟨Aj.len,Aj.closed,Aj.share⟩
def Cb (x:Bool):List V:=[.bool x]
theorem Cw:En Cb 1:=⟨fun _=>rfl,fun _=>rfl,fun _=>rfl,fun x=>rfl⟩
theorem Re:Fq Cb Cb 1:=⟨Cw.len,Cw.closed,Cw.share⟩
def Bn (x:Int):List V:=[.int .u8 x]
theorem Ay:En Bn 1:=⟨fun _=>rfl,fun _=>rfl,fun _=>rfl,fun x=>rfl⟩
theorem Aiu:Fq Bn Bn 1:=⟨Ay.len,Ay.closed,Ay.share⟩
def Ex (x:ByteArray):List V:=[.str x]
theorem Fe:En Ex 1:=⟨fun _=>rfl,fun _=>rfl,fun _=>rfl,fun x=>rfl⟩
theorem U1:Fq Ex Ex 1:=⟨Fe.len,Fe.closed,Fe.share⟩
def Cy (x:Fb):List V:=[.int .i64 x.Ad,.int .i64 x.Ds,.int .i64 x.B9,.int .i64 x.Eu,.int .i64 x.Ca,.int .i64 x.Dt]
theorem Du:En Cy 6:=⟨fun _=>rfl,fun _=>rfl,fun _=>rfl,fun x=>rfl⟩
theorem Lz:Fq Cy Cy 6:=⟨Du.len,Du.closed,Du.share⟩
def Jd (x:List Int):List V:=[.row false 1 (x.map Bn)]
theorem Afe:En Jd 1:=⟨fun _=>rfl,fun _=>rfl,fun _=>rfl,fun x=>by simp only[Jd,Ae,V.share,Ay.shareLL]⟩
def L4 (x:List Int):List V:=[.row true 1 (x.map Bn)]
theorem Aff:Fq L4 Jd 1:=⟨fun _=>rfl,fun _=>rfl,fun x=>by simp only[L4,Jd,Ae,V.share,Ay.shareLL]⟩
def Gj (x:List Int):List V:=[.row false 1 (x.map Ac)]
theorem Abh:En Gj 1:=⟨fun _=>rfl,fun _=>rfl,fun _=>rfl,fun x=>by simp only[Gj,Ae,V.share,Aj.shareLL]⟩
def Hq (x:List Int):List V:=[.row true 1 (x.map Ac)]
theorem Abi:Fq Hq Gj 1:=⟨fun _=>rfl,fun _=>rfl,fun x=>by simp only[Hq,Gj,Ae,V.share,Aj.shareLL]⟩
def Cz (x:Ec):List V:=[.row false 1 (x.Fi.map Bn),.row false 1 (x.Gt.map Ac),.row false 1 (x.Fj.map Ac)]
theorem L5:En Cz 3:=⟨fun _=>rfl,fun _=>rfl,fun _=>rfl,fun x=>by simp only[Cz,Ae,V.share,Ay.shareLL,Aj.shareLL]⟩
def Dv (x:Ec):List V:=[.row true 1 (x.Fi.map Bn),.row true 1 (x.Gt.map Ac),.row true 1 (x.Fj.map Ac)]
theorem L6:Fq Dv Cz 3:=⟨fun _=>rfl,fun _=>rfl,fun x=>by simp only[Dv,Cz,Ae,V.share,Ay.shareLL,Aj.shareLL]⟩
def An (x:Bj):List V:=[.int .i64 x.fAt,.int .i64 x.Xu,.int .i64 x.Xv]
theorem At:En An 3:=⟨fun _=>rfl,fun _=>rfl,fun _=>rfl,fun x=>rfl⟩
theorem Jv:Fq An An 3:=⟨At.len,At.closed,At.share⟩
def Bx (x:List Bj):List V:=[.row false 3 (x.map An)]
theorem Je:En Bx 1:=⟨fun _=>rfl,fun _=>rfl,fun _=>rfl,fun x=>by simp only[Bx,Ae,V.share,At.shareLL]⟩
def Cp (x:List Bj):List V:=[.row true 3 (x.map An)]
theorem Jf:Fq Cp Bx 1:=⟨fun _=>rfl,fun _=>rfl,fun x=>by simp only[Cp,Bx,Ae,V.share,At.shareLL]⟩
def Bo (x:Bk):List V:=[.int .i64 x.Gt,.int .i64 x.C5,.int .i64 x.Mu,.int .i64 x.fUp,.int .i64 x.Gu,.int .i64 x.Bw,.int .i64 x.Gv,.int .i64 x.Gw,.row false 1 (x.Ad.map Ac),.int .i64 x.M7,.int .i64 x.Gz,.row false 3 (x.D3.map An),.row false 1 (x.De.map Ac)]
theorem E6:En Bo 13:=⟨fun _=>rfl,fun _=>rfl,fun _=>rfl,fun x=>by simp only[Bo,Ae,V.share,Aj.shareLL,At.shareLL]⟩
def Cc (x:Bk):List V:=[.int .i64 x.Gt,.int .i64 x.C5,.int .i64 x.Mu,.int .i64 x.fUp,.int .i64 x.Gu,.int .i64 x.Bw,.int .i64 x.Gv,.int .i64 x.Gw,.row true 1 (x.Ad.map Ac),.int .i64 x.M7,.int .i64 x.Gz,.row true 3 (x.D3.map An),.row true 1 (x.De.map Ac)]
theorem E7:Fq Cc Bo 13:=⟨fun _=>rfl,fun _=>rfl,fun x=>by simp only[Cc,Bo,Ae,V.share,Aj.shareLL,At.shareLL]⟩
def Cf (x:List Bk):List V:=[.row false 13 (x.map Bo)]
theorem Jw:En Cf 1:=⟨fun _=>rfl,fun _=>rfl,fun _=>rfl,fun x=>by simp only[Cf,Ae,V.share,E6.shareLL]⟩
def C7 (x:List Bk):List V:=[.row true 13 (x.map Cc)]
theorem Jx:Fq C7 Cf 1:=⟨fun _=>rfl,fun _=>rfl,fun x=>by simp only[C7,Cf,Ae,V.share,E7.shareLL]⟩
def Ba (x:A6):List V:=[.int .i64 x.A9,.int .i64 x.Bw,.row false 1 (x.De.map Ac),.row false 1 (x.Ad.map Ac),.int .i64 x.Hp]
theorem Ei:En Ba 5:=⟨fun _=>rfl,fun _=>rfl,fun _=>rfl,fun x=>by simp only[Ba,Ae,V.share,Aj.shareLL]⟩
def Br (x:A6):List V:=[.int .i64 x.A9,.int .i64 x.Bw,.row true 1 (x.De.map Ac),.row true 1 (x.Ad.map Ac),.int .i64 x.Hp]
theorem Ej:Fq Br Ba 5:=⟨fun _=>rfl,fun _=>rfl,fun x=>by simp only[Br,Ba,Ae,V.share,Aj.shareLL]⟩
def By (x:List A6):List V:=[.row false 5 (x.map Ba)]
theorem Jg:En By 1:=⟨fun _=>rfl,fun _=>rfl,fun _=>rfl,fun x=>by simp only[By,Ae,V.share,Ei.shareLL]⟩
def Cq (x:List A6):List V:=[.row true 5 (x.map Br)]
theorem Jh:Fq Cq By 1:=⟨fun _=>rfl,fun _=>rfl,fun x=>by simp only[Cq,By,Ae,V.share,Ej.shareLL]⟩
def Cg (x:Ev):List V:=[.int .i64 x.fC.Ad,.int .i64 x.fC.Ds,.int .i64 x.fC.B9,.int .i64 x.fC.Eu,.int .i64 x.fC.Ca,.int .i64 x.fC.Dt,.row false 1 (x.fP.Fi.map Bn),.row false 1 (x.fP.Gt.map Ac),.row false 1 (x.fP.Fj.map Ac),.row false 13 (x.fL.map Bo),.row false 5 (x.fQ.map Ba),.row false 1 (x.Jc.map Ac)]
theorem Jy:En Cg 12:=⟨fun _=>rfl,fun _=>rfl,fun _=>rfl,fun x=>by simp only[Cg,Ae,V.share,Ay.shareLL,Aj.shareLL,E6.shareLL,Ei.shareLL]⟩
def C8 (x:Ev):List V:=[.int .i64 x.fC.Ad,.int .i64 x.fC.Ds,.int .i64 x.fC.B9,.int .i64 x.fC.Eu,.int .i64 x.fC.Ca,.int .i64 x.fC.Dt,.row true 1 (x.fP.Fi.map Bn),.row true 1 (x.fP.Gt.map Ac),.row true 1 (x.fP.Fj.map Ac),.row true 13 (x.fL.map Cc),.row true 5 (x.fQ.map Br),.row true 1 (x.Jc.map Ac)]
theorem Jz:Fq C8 Cg 12:=⟨fun _=>rfl,fun _=>rfl,fun x=>by simp only[C8,Cg,Ae,V.share,Ay.shareLL,Aj.shareLL,E7.shareLL,Ej.shareLL]⟩
def C0 (x:Fc):List V:=[.int .i64 x.Ad,.int .i64 x.Ds,.int .i64 x.B9,.int .i64 x.Eu,.int .i64 x.Ca,.int .i64 x.Dt]
theorem Dw:En C0 6:=⟨fun _=>rfl,fun _=>rfl,fun _=>rfl,fun x=>rfl⟩
theorem L7:Fq C0 C0 6:=⟨Dw.len,Dw.closed,Dw.share⟩
def C1 (x:Ed):List V:=[.row false 1 (x.Fi.map Bn),.row false 1 (x.Gt.map Ac),.row false 1 (x.Fj.map Ac)]
theorem L8:En C1 3:=⟨fun _=>rfl,fun _=>rfl,fun _=>rfl,fun x=>by simp only[C1,Ae,V.share,Ay.shareLL,Aj.shareLL]⟩
def Dx (x:Ed):List V:=[.row true 1 (x.Fi.map Bn),.row true 1 (x.Gt.map Ac),.row true 1 (x.Fj.map Ac)]
theorem L9:Fq Dx C1 3:=⟨fun _=>rfl,fun _=>rfl,fun x=>by simp only[Dx,C1,Ae,V.share,Ay.shareLL,Aj.shareLL]⟩
def Aq (x:Bl):List V:=[.int .i64 x.fAt,.int .i64 x.Xu,.int .i64 x.Xv]
theorem Au:En Aq 3:=⟨fun _=>rfl,fun _=>rfl,fun _=>rfl,fun x=>rfl⟩
theorem J0:Fq Aq Aq 3:=⟨Au.len,Au.closed,Au.share⟩
def Bz (x:List Bl):List V:=[.row false 3 (x.map Aq)]
theorem Ji:En Bz 1:=⟨fun _=>rfl,fun _=>rfl,fun _=>rfl,fun x=>by simp only[Bz,Ae,V.share,Au.shareLL]⟩
def Cr (x:List Bl):List V:=[.row true 3 (x.map Aq)]
theorem Jj:Fq Cr Bz 1:=⟨fun _=>rfl,fun _=>rfl,fun x=>by simp only[Cr,Bz,Ae,V.share,Au.shareLL]⟩
def Bp (x:Ax):List V:=[.int .i64 x.Gt,.int .i64 x.C5,.int .i64 x.Mu,.int .i64 x.fUp,.int .i64 x.Gu,.int .i64 x.Bw,.int .i64 x.Gv,.int .i64 x.Gw,.row false 1 (x.Ad.map Ac),.int .i64 x.M7,.int .i64 x.Gz,.row false 3 (x.D3.map Aq),.row false 1 (x.De.map Ac)]
theorem E8:En Bp 13:=⟨fun _=>rfl,fun _=>rfl,fun _=>rfl,fun x=>by simp only[Bp,Ae,V.share,Aj.shareLL,Au.shareLL]⟩
def C2 (x:Ax):List V:=[.int .i64 x.Gt,.int .i64 x.C5,.int .i64 x.Mu,.int .i64 x.fUp,.int .i64 x.Gu,.int .i64 x.Bw,.int .i64 x.Gv,.int .i64 x.Gw,.row false 1 (x.Ad.map Ac),.int .i64 x.M7,.int .i64 x.Gz,.row true 3 (x.D3.map Aq),.row true 1 (x.De.map Ac)]
theorem E9:Fq C2 Bp 13:=⟨fun _=>rfl,fun _=>rfl,fun x=>by simp only[C2,Bp,Ae,V.share,Aj.shareLL,Au.shareLL]⟩
def Ch (x:List Ax):List V:=[.row false 13 (x.map Bp)]
theorem J1:En Ch 1:=⟨fun _=>rfl,fun _=>rfl,fun _=>rfl,fun x=>by simp only[Ch,Ae,V.share,E8.shareLL]⟩
def D4 (x:List Ax):List V:=[.row true 13 (x.map C2)]
theorem J2:Fq D4 Ch 1:=⟨fun _=>rfl,fun _=>rfl,fun x=>by simp only[D4,Ch,Ae,V.share,E9.shareLL]⟩
def Bb (x:A7):List V:=[.int .i64 x.A9,.int .i64 x.Bw,.row false 1 (x.De.map Ac),.row false 1 (x.Ad.map Ac),.int .i64 x.Hp]
theorem Ek:En Bb 5:=⟨fun _=>rfl,fun _=>rfl,fun _=>rfl,fun x=>by simp only[Bb,Ae,V.share,Aj.shareLL]⟩
def Bt (x:A7):List V:=[.int .i64 x.A9,.int .i64 x.Bw,.row true 1 (x.De.map Ac),.row true 1 (x.Ad.map Ac),.int .i64 x.Hp]
theorem El:Fq Bt Bb 5:=⟨fun _=>rfl,fun _=>rfl,fun x=>by simp only[Bt,Bb,Ae,V.share,Aj.shareLL]⟩
def B5 (x:List A7):List V:=[.row false 5 (x.map Bb)]
theorem Jk:En B5 1:=⟨fun _=>rfl,fun _=>rfl,fun _=>rfl,fun x=>by simp only[B5,Ae,V.share,Ek.shareLL]⟩
def Ct (x:List A7):List V:=[.row true 5 (x.map Bt)]
theorem Jl:Fq Ct B5 1:=⟨fun _=>rfl,fun _=>rfl,fun x=>by simp only[Ct,B5,Ae,V.share,El.shareLL]⟩
def Bc (x:Bm):List V:=[.int .i64 x.fC.Ad,.int .i64 x.fC.Ds,.int .i64 x.fC.B9,.int .i64 x.fC.Eu,.int .i64 x.fC.Ca,.int .i64 x.fC.Dt,.row false 1 (x.fP.Fi.map Bn),.row false 1 (x.fP.Gt.map Ac),.row false 1 (x.fP.Fj.map Ac),.row false 13 (x.fL.map Bp),.row false 5 (x.fQ.map Bb),.row false 1 (x.Jc.map Ac)]
theorem F7:En Bc 12:=⟨fun _=>rfl,fun _=>rfl,fun _=>rfl,fun x=>by simp only[Bc,Ae,V.share,Ay.shareLL,Aj.shareLL,E8.shareLL,Ek.shareLL]⟩
def Ci (x:Bm):List V:=[.int .i64 x.fC.Ad,.int .i64 x.fC.Ds,.int .i64 x.fC.B9,.int .i64 x.fC.Eu,.int .i64 x.fC.Ca,.int .i64 x.fC.Dt,.row true 1 (x.fP.Fi.map Bn),.row true 1 (x.fP.Gt.map Ac),.row true 1 (x.fP.Fj.map Ac),.row true 13 (x.fL.map C2),.row true 5 (x.fQ.map Bt),.row true 1 (x.Jc.map Ac)]
theorem F8:Fq Ci Bc 12:=⟨fun _=>rfl,fun _=>rfl,fun x=>by simp only[Ci,Bc,Ae,V.share,Ay.shareLL,Aj.shareLL,E9.shareLL,El.shareLL]⟩
def B6 (x:Ce):List V:=[.int .i64 x.A9,.int .i64 x.C5]
theorem C3:En B6 2:=⟨fun _=>rfl,fun _=>rfl,fun _=>rfl,fun x=>rfl⟩
theorem Jm:Fq B6 B6 2:=⟨C3.len,C3.closed,C3.share⟩
def Dg (x:E5):List V:=[.int .i64 x.fH.A9,.int .i64 x.fH.C5,.int .i64 x.Mu,.int .i64 x.fNo]
theorem D5:En Dg 4:=⟨fun _=>rfl,fun _=>rfl,fun _=>rfl,fun x=>rfl⟩
theorem M8:Fq Dg Dg 4:=⟨D5.len,D5.closed,D5.share⟩
def Dh (x:Fz):List V:=[.int .i64 x.Zb,.int .i64 x.fH.A9,.int .i64 x.fH.C5,.int .i64 x.fR.fH.A9,.int .i64 x.fR.fH.C5,.int .i64 x.fR.Mu,.int .i64 x.fR.fNo,.row false 1 (x.fB.map Bn),.int .i64 x.Zc,.int .i64 x.Eu,.int .i64 x.Rd]
theorem M9:En Dh 11:=⟨fun _=>rfl,fun _=>rfl,fun _=>rfl,fun x=>by simp only[Dh,Ae,V.share,Ay.shareLL]⟩
def Ee (x:Fz):List V:=[.int .i64 x.Zb,.int .i64 x.fH.A9,.int .i64 x.fH.C5,.int .i64 x.fR.fH.A9,.int .i64 x.fR.fH.C5,.int .i64 x.fR.Mu,.int .i64 x.fR.fNo,.row true 1 (x.fB.map Bn),.int .i64 x.Zc,.int .i64 x.Eu,.int .i64 x.Rd]
theorem Na:Fq Ee Dh 11:=⟨fun _=>rfl,fun _=>rfl,fun x=>by simp only[Ee,Dh,Ae,V.share,Ay.shareLL]⟩
def Db (x:Df):List V:=[.int .i64 x.Zd,.int .i64 x.fH.A9,.int .i64 x.fH.C5,.int .i64 x.fR.fH.A9,.int .i64 x.fR.fH.C5,.int .i64 x.fR.Mu,.int .i64 x.fR.fNo,.int .i64 x.fN,.int .i64 x.fM,.row false 1 (x.fB.map Bn)]
theorem Hr:En Db 10:=⟨fun _=>rfl,fun _=>rfl,fun _=>rfl,fun x=>by simp only[Db,Ae,V.share,Ay.shareLL]⟩
def D1 (x:Df):List V:=[.int .i64 x.Zd,.int .i64 x.fH.A9,.int .i64 x.fH.C5,.int .i64 x.fR.fH.A9,.int .i64 x.fR.fH.C5,.int .i64 x.fR.Mu,.int .i64 x.fR.fNo,.int .i64 x.fN,.int .i64 x.fM,.row true 1 (x.fB.map Bn)]
theorem Hs:Fq D1 Db 10:=⟨fun _=>rfl,fun _=>rfl,fun x=>by simp only[D1,Db,Ae,V.share,Ay.shareLL]⟩
def Di (x:List Df):List V:=[.row false 10 (x.map Db)]
theorem Nb:En Di 1:=⟨fun _=>rfl,fun _=>rfl,fun _=>rfl,fun x=>by simp only[Di,Ae,V.share,Hr.shareLL]⟩
def Ef (x:List Df):List V:=[.row true 10 (x.map D1)]
theorem Nc:Fq Ef Di 1:=⟨fun _=>rfl,fun _=>rfl,fun x=>by simp only[Ef,Di,Ae,V.share,Hs.shareLL]⟩
def Dj (x:List Bool):List V:=[.row false 1 (x.map Cb)]
theorem Nd:En Dj 1:=⟨fun _=>rfl,fun _=>rfl,fun _=>rfl,fun x=>by simp only[Dj,Ae,V.share,Cw.shareLL]⟩
def Eg (x:List Bool):List V:=[.row true 1 (x.map Cb)]
theorem Nf:Fq Eg Dj 1:=⟨fun _=>rfl,fun _=>rfl,fun x=>by simp only[Eg,Dj,Ae,V.share,Cw.shareLL]⟩
def Cj (x:Ew):List V:=[.row false 1 (x.fb.map Bn),.int .i64 x.fi,.int .i64 x.fh]
theorem J3:En Cj 3:=⟨fun _=>rfl,fun _=>rfl,fun _=>rfl,fun x=>by simp only[Cj,Ae,V.share,Ay.shareLL]⟩
def C9 (x:Ew):List V:=[.row true 1 (x.fb.map Bn),.int .i64 x.fi,.int .i64 x.fh]
theorem J4:Fq C9 Cj 3:=⟨fun _=>rfl,fun _=>rfl,fun x=>by simp only[C9,Cj,Ae,V.share,Ay.shareLL]⟩
def F0 (x:Int):List V:=[.int .u64 x]
theorem Gh:En F0 1:=⟨fun _=>rfl,fun _=>rfl,fun _=>rfl,fun x=>rfl⟩
theorem U2:Fq F0 F0 1:=⟨Gh.len,Gh.closed,Gh.share⟩
def Jn (x:Int):List V:=[.int .u32 x]
theorem Hu:En Jn 1:=⟨fun _=>rfl,fun _=>rfl,fun _=>rfl,fun x=>rfl⟩
theorem Afg:Fq Jn Jn 1:=⟨Hu.len,Hu.closed,Hu.share⟩
def Af:Nat->Type
 |2=>Int
 |3=>Int
 |4=>Bool
 |5=>Int
 |9=>ByteArray
 |23=>Fb
 |24=>List Int
 |25=>List Int
 |27=>Ec
 |237=>Bj
 |157=>List Bj
 |159=>Bk
 |28=>List Bk
 |161=>A6
 |29=>List A6
 |31=>Ev
 |33=>Fc
 |34=>Ed
 |183=>Bl
 |75=>List Bl
 |77=>Ax
 |35=>List Ax
 |79=>A7
 |36=>List A7
 |38=>Bm
 |40=>Ce
 |42=>E5
 |44=>Fz
 |55=>Df
 |81=>List Df
 |149=>List Bool
 |171=>Ew
 |222=>Int
 |225=>Int
 |248=>Int
 |10038=>Bm
 |_=>Unit
abbrev Apu:(t:Nat)->Inhabited (Af t)
 |2=>(inferInstance:Inhabited Int)
 |3=>(inferInstance:Inhabited Int)
 |4=>(inferInstance:Inhabited Bool)
 |5=>(inferInstance:Inhabited Int)
 |9=>(inferInstance:Inhabited ByteArray)
 |23=>(inferInstance:Inhabited Fb)
 |24=>(inferInstance:Inhabited (List Int))
 |25=>(inferInstance:Inhabited (List Int))
 |27=>(inferInstance:Inhabited Ec)
 |237=>(inferInstance:Inhabited Bj)
 |157=>(inferInstance:Inhabited (List Bj))
 |159=>(inferInstance:Inhabited Bk)
 |28=>(inferInstance:Inhabited (List Bk))
 |161=>(inferInstance:Inhabited A6)
 |29=>(inferInstance:Inhabited (List A6))
 |31=>(inferInstance:Inhabited Ev)
 |33=>(inferInstance:Inhabited Fc)
 |34=>(inferInstance:Inhabited Ed)
 |183=>(inferInstance:Inhabited Bl)
 |75=>(inferInstance:Inhabited (List Bl))
 |77=>(inferInstance:Inhabited Ax)
 |35=>(inferInstance:Inhabited (List Ax))
 |79=>(inferInstance:Inhabited A7)
 |36=>(inferInstance:Inhabited (List A7))
 |38=>(inferInstance:Inhabited Bm)
 |40=>(inferInstance:Inhabited Ce)
 |42=>(inferInstance:Inhabited E5)
 |44=>(inferInstance:Inhabited Fz)
 |55=>(inferInstance:Inhabited Df)
 |81=>(inferInstance:Inhabited (List Df))
 |149=>(inferInstance:Inhabited (List Bool))
 |171=>(inferInstance:Inhabited Ew)
 |222=>(inferInstance:Inhabited Int)
 |225=>(inferInstance:Inhabited Int)
 |248=>(inferInstance:Inhabited Int)
 |10038=>(inferInstance:Inhabited Bm)
 |_=>(by unfold Af;split<;>infer_instance)
def Amp:Nat->Nat
 |2=>1
 |3=>1
 |4=>1
 |5=>1
 |9=>1
 |23=>6
 |24=>1
 |25=>1
 |27=>3
 |237=>3
 |157=>1
 |159=>13
 |28=>1
 |161=>5
 |29=>1
 |31=>12
 |33=>6
 |34=>3
 |183=>3
 |75=>1
 |77=>13
 |35=>1
 |79=>5
 |36=>1
 |38=>12
 |40=>2
 |42=>4
 |44=>11
 |55=>10
 |81=>1
 |149=>1
 |171=>3
 |222=>1
 |225=>1
 |248=>1
 |10038=>12
 |_=>0
def Amq:Nat->Bool
 |2=>true
 |3=>true
 |4=>true
 |5=>true
 |9=>true
 |23=>true
 |24=>false
 |25=>false
 |27=>false
 |237=>true
 |157=>false
 |159=>false
 |28=>false
 |161=>false
 |29=>false
 |31=>false
 |33=>true
 |34=>false
 |183=>true
 |75=>false
 |77=>false
 |35=>false
 |79=>false
 |36=>false
 |38=>false
 |40=>true
 |42=>true
 |44=>false
 |55=>false
 |81=>false
 |149=>false
 |171=>false
 |222=>true
 |225=>true
 |248=>true
 |10038=>false
 |_=>true
def Asf:Nat->Bool
 |2=>false
 |3=>false
 |4=>false
 |5=>false
 |9=>false
 |23=>true
 |24=>false
 |25=>false
 |27=>true
 |237=>true
 |157=>false
 |159=>true
 |28=>false
 |161=>true
 |29=>false
 |31=>true
 |33=>true
 |34=>true
 |183=>true
 |75=>false
 |77=>true
 |35=>false
 |79=>true
 |36=>false
 |38=>true
 |40=>true
 |42=>true
 |44=>true
 |55=>true
 |81=>false
 |149=>false
 |171=>true
 |222=>false
 |225=>false
 |248=>false
 |10038=>true
 |_=>false
def Amr:(t:Nat)->Af t->List V
 |2,x=>Ac x
 |3,x=>Ac x
 |4,x=>Cb x
 |5,x=>Bn x
 |9,x=>Ex x
 |23,x=>Cy x
 |24,x=>Jd x
 |25,x=>Gj x
 |27,x=>Cz x
 |237,x=>An x
 |157,x=>Bx x
 |159,x=>Bo x
 |28,x=>Cf x
 |161,x=>Ba x
 |29,x=>By x
 |31,x=>Cg x
 |33,x=>C0 x
 |34,x=>C1 x
 |183,x=>Aq x
 |75,x=>Bz x
 |77,x=>Bp x
 |35,x=>Ch x
 |79,x=>Bb x
 |36,x=>B5 x
 |38,x=>Bc x
 |40,x=>B6 x
 |42,x=>Dg x
 |44,x=>Dh x
 |55,x=>Db x
 |81,x=>Di x
 |149,x=>Dj x
 |171,x=>Cj x
 |222,x=>F0 x
 |225,x=>F0 x
 |248,x=>Jn x
 |10038,x=>Bc x
 |_,_=>[]
def Ams:(t:Nat)->Af t->List V
 |2,x=>Ac x
 |3,x=>Ac x
 |4,x=>Cb x
 |5,x=>Bn x
 |9,x=>Ex x
 |23,x=>Cy x
 |24,x=>L4 x
 |25,x=>Hq x
 |27,x=>Dv x
 |237,x=>An x
 |157,x=>Cp x
 |159,x=>Cc x
 |28,x=>C7 x
 |161,x=>Br x
 |29,x=>Cq x
 |31,x=>C8 x
 |33,x=>C0 x
 |34,x=>Dx x
 |183,x=>Aq x
 |75,x=>Cr x
 |77,x=>C2 x
 |35,x=>D4 x
 |79,x=>Bt x
 |36,x=>Ct x
 |38,x=>Ci x
 |40,x=>B6 x
 |42,x=>Dg x
 |44,x=>Ee x
 |55,x=>D1 x
 |81,x=>Ef x
 |149,x=>Eg x
 |171,x=>C9 x
 |222,x=>F0 x
 |225,x=>F0 x
 |248,x=>Jn x
 |10038,x=>Ci x
 |_,_=>[]
def Amt:(t:Nat)->Af t->List (SV Af)
 |2,x=>[.int .i64 x 0]
 |3,x=>[.int .i64 x 0]
 |4,x=>[.bool x]
 |5,x=>[.int .u8 x 0]
 |9,x=>[.str x]
 |23,x=>[.int .i64 x.Ad 0,.int .i64 x.Ds 0,.int .i64 x.B9 0,.int .i64 x.Eu 0,.int .i64 x.Ca 0,.int .i64 x.Dt 0]
 |24,x=>[.row 5 x]
 |25,x=>[.row 3 x]
 |27,x=>[.row 5 x.Fi,.row 3 x.Gt,.row 3 x.Fj]
 |237,x=>[.int .i64 x.fAt 0,.int .i64 x.Xu 0,.int .i64 x.Xv 0]
 |157,x=>[.row 237 x]
 |159,x=>[.int .i64 x.Gt 0,.int .i64 x.C5 0,.int .i64 x.Mu 0,.int .i64 x.fUp 0,.int .i64 x.Gu 0,.int .i64 x.Bw 0,.int .i64 x.Gv 0,.int .i64 x.Gw 0,.row 3 x.Ad,.int .i64 x.M7 0,.int .i64 x.Gz 0,.row 237 x.D3,.row 3 x.De]
 |28,x=>[.row 159 x]
 |161,x=>[.int .i64 x.A9 0,.int .i64 x.Bw 0,.row 3 x.De,.row 3 x.Ad,.int .i64 x.Hp 0]
 |29,x=>[.row 161 x]
 |31,x=>[.int .i64 x.fC.Ad 0,.int .i64 x.fC.Ds 0,.int .i64 x.fC.B9 0,.int .i64 x.fC.Eu 0,.int .i64 x.fC.Ca 0,.int .i64 x.fC.Dt 0,.row 5 x.fP.Fi,.row 3 x.fP.Gt,.row 3 x.fP.Fj,.row 159 x.fL,.row 161 x.fQ,.row 3 x.Jc]
 |33,x=>[.int .i64 x.Ad 0,.int .i64 x.Ds 0,.int .i64 x.B9 0,.int .i64 x.Eu 0,.int .i64 x.Ca 0,.int .i64 x.Dt 0]
 |34,x=>[.row 5 x.Fi,.row 3 x.Gt,.row 3 x.Fj]
 |183,x=>[.int .i64 x.fAt 0,.int .i64 x.Xu 0,.int .i64 x.Xv 0]
 |75,x=>[.row 183 x]
 |77,x=>[.int .i64 x.Gt 0,.int .i64 x.C5 0,.int .i64 x.Mu 0,.int .i64 x.fUp 0,.int .i64 x.Gu 0,.int .i64 x.Bw 0,.int .i64 x.Gv 0,.int .i64 x.Gw 0,.row 3 x.Ad,.int .i64 x.M7 0,.int .i64 x.Gz 0,.row 183 x.D3,.row 3 x.De]
 |35,x=>[.row 77 x]
 |79,x=>[.int .i64 x.A9 0,.int .i64 x.Bw 0,.row 3 x.De,.row 3 x.Ad,.int .i64 x.Hp 0]
 |36,x=>[.row 79 x]
 |38,x=>[.int .i64 x.fC.Ad 0,.int .i64 x.fC.Ds 0,.int .i64 x.fC.B9 0,.int .i64 x.fC.Eu 0,.int .i64 x.fC.Ca 0,.int .i64 x.fC.Dt 0,.row 5 x.fP.Fi,.row 3 x.fP.Gt,.row 3 x.fP.Fj,.row 77 x.fL,.row 79 x.fQ,.row 3 x.Jc]
 |40,x=>[.int .i64 x.A9 0,.int .i64 x.C5 0]
 |42,x=>[.int .i64 x.fH.A9 0,.int .i64 x.fH.C5 0,.int .i64 x.Mu 0,.int .i64 x.fNo 0]
 |44,x=>[.int .i64 x.Zb 0,.int .i64 x.fH.A9 0,.int .i64 x.fH.C5 0,.int .i64 x.fR.fH.A9 0,.int .i64 x.fR.fH.C5 0,.int .i64 x.fR.Mu 0,.int .i64 x.fR.fNo 0,.row 5 x.fB,.int .i64 x.Zc 0,.int .i64 x.Eu 0,.int .i64 x.Rd 0]
 |55,x=>[.int .i64 x.Zd 0,.int .i64 x.fH.A9 0,.int .i64 x.fH.C5 0,.int .i64 x.fR.fH.A9 0,.int .i64 x.fR.fH.C5 0,.int .i64 x.fR.Mu 0,.int .i64 x.fR.fNo 0,.int .i64 x.fN 0,.int .i64 x.fM 0,.row 5 x.fB]
 |81,x=>[.row 55 x]
 |149,x=>[.row 4 x]
 |171,x=>[.row 5 x.fb,.int .i64 x.fi 0,.int .i64 x.fh 0]
 |222,x=>[.int .u64 x 0]
 |225,x=>[.int .u64 x 0]
 |248,x=>[.int .u32 x 0]
 |10038,x=>[.int .i64 x.fC.Ad 0,.int .i64 x.fC.Ds 0,.int .i64 x.fC.B9 0,.int .i64 x.fC.Eu 0,.int .i64 x.fC.Ca 0,.int .i64 x.fC.Dt 0,.row 5 x.fP.Fi,.row 3 x.fP.Gt,.row 3 x.fP.Fj,.row 77 x.fL,.row 79 x.fQ,.row 3 x.Jc]
 |_,_=>[]
def A8:(t:Nat)->Bool->Af t->List (SV Af)
 |2,m,x=>[.int .i64 x 0]
 |3,m,x=>[.int .i64 x 0]
 |4,m,x=>[.bool x]
 |5,m,x=>[.int .u8 x 0]
 |9,m,x=>[.str x]
 |23,m,x=>[.int .i64 x.Ad 0,.int .i64 x.Ds 0,.int .i64 x.B9 0,.int .i64 x.Eu 0,.int .i64 x.Ca 0,.int .i64 x.Dt 0]
 |24,m,x=>[.rowT 5 true x]
 |25,m,x=>[.rowT 3 true x]
 |27,m,x=>[.rowT 5 true x.Fi,.rowT 3 true x.Gt,.rowT 3 true x.Fj]
 |237,m,x=>[.int .i64 x.fAt 0,.int .i64 x.Xu 0,.int .i64 x.Xv 0]
 |157,m,x=>[.rowT 237 true x]
 |159,m,x=>[.int .i64 x.Gt 0,.int .i64 x.C5 0,.int .i64 x.Mu 0,.int .i64 x.fUp 0,.int .i64 x.Gu 0,.int .i64 x.Bw 0,.int .i64 x.Gv 0,.int .i64 x.Gw 0,.rowT 3 true x.Ad,.int .i64 x.M7 0,.int .i64 x.Gz 0,.rowT 237 true x.D3,.rowT 3 true x.De]
 |28,m,x=>[.rowT 159 m x]
 |161,m,x=>[.int .i64 x.A9 0,.int .i64 x.Bw 0,.rowT 3 true x.De,.rowT 3 true x.Ad,.int .i64 x.Hp 0]
 |29,m,x=>[.rowT 161 m x]
 |31,m,x=>[.int .i64 x.fC.Ad 0,.int .i64 x.fC.Ds 0,.int .i64 x.fC.B9 0,.int .i64 x.fC.Eu 0,.int .i64 x.fC.Ca 0,.int .i64 x.fC.Dt 0,.rowT 5 true x.fP.Fi,.rowT 3 true x.fP.Gt,.rowT 3 true x.fP.Fj,.rowT 159 m x.fL,.rowT 161 m x.fQ,.rowT 3 true x.Jc]
 |33,m,x=>[.int .i64 x.Ad 0,.int .i64 x.Ds 0,.int .i64 x.B9 0,.int .i64 x.Eu 0,.int .i64 x.Ca 0,.int .i64 x.Dt 0]
 |34,m,x=>[.rowT 5 true x.Fi,.rowT 3 true x.Gt,.rowT 3 true x.Fj]
 |183,m,x=>[.int .i64 x.fAt 0,.int .i64 x.Xu 0,.int .i64 x.Xv 0]
 |75,m,x=>[.rowT 183 true x]
 |77,true,x=>[.int .i64 x.Gt 0,.int .i64 x.C5 0,.int .i64 x.Mu 0,.int .i64 x.fUp 0,.int .i64 x.Gu 0,.int .i64 x.Bw 0,.int .i64 x.Gv 0,.int .i64 x.Gw 0,.row 3 x.Ad,.int .i64 x.M7 0,.int .i64 x.Gz 0,.rowT 183 true x.D3,.rowT 3 true x.De]
 |77,false,x=>[.int .i64 x.Gt 0,.int .i64 x.C5 0,.int .i64 x.Mu 0,.int .i64 x.fUp 0,.int .i64 x.Gu 0,.int .i64 x.Bw 0,.int .i64 x.Gv 0,.int .i64 x.Gw 0,.rowT 3 true x.Ad,.int .i64 x.M7 0,.int .i64 x.Gz 0,.rowT 183 true x.D3,.rowT 3 true x.De]
 |35,m,x=>[.rowT 77 m x]
 |79,m,x=>[.int .i64 x.A9 0,.int .i64 x.Bw 0,.rowT 3 true x.De,.rowT 3 true x.Ad,.int .i64 x.Hp 0]
 |36,m,x=>[.rowT 79 m x]
 |38,true,x=>[.int .i64 x.fC.Ad 0,.int .i64 x.fC.Ds 0,.int .i64 x.fC.B9 0,.int .i64 x.fC.Eu 0,.int .i64 x.fC.Ca 0,.int .i64 x.fC.Dt 0,.rowT 5 true x.fP.Fi,.rowT 3 true x.fP.Gt,.rowT 3 true x.fP.Fj,.rowT 77 true x.fL,.rowT 79 true x.fQ,.rowT 3 true x.Jc]
 |38,false,x=>[.int .i64 x.fC.Ad 0,.int .i64 x.fC.Ds 0,.int .i64 x.fC.B9 0,.int .i64 x.fC.Eu 0,.int .i64 x.fC.Ca 0,.int .i64 x.fC.Dt 0,.rowT 5 true x.fP.Fi,.rowT 3 true x.fP.Gt,.rowT 3 true x.fP.Fj,.rowT 77 true x.fL,.rowT 79 false x.fQ,.rowT 3 true x.Jc]
 |40,m,x=>[.int .i64 x.A9 0,.int .i64 x.C5 0]
 |42,m,x=>[.int .i64 x.fH.A9 0,.int .i64 x.fH.C5 0,.int .i64 x.Mu 0,.int .i64 x.fNo 0]
 |44,m,x=>[.int .i64 x.Zb 0,.int .i64 x.fH.A9 0,.int .i64 x.fH.C5 0,.int .i64 x.fR.fH.A9 0,.int .i64 x.fR.fH.C5 0,.int .i64 x.fR.Mu 0,.int .i64 x.fR.fNo 0,.rowT 5 true x.fB,.int .i64 x.Zc 0,.int .i64 x.Eu 0,.int .i64 x.Rd 0]
 |55,m,x=>[.int .i64 x.Zd 0,.int .i64 x.fH.A9 0,.int .i64 x.fH.C5 0,.int .i64 x.fR.fH.A9 0,.int .i64 x.fR.fH.C5 0,.int .i64 x.fR.Mu 0,.int .i64 x.fR.fNo 0,.int .i64 x.fN 0,.int .i64 x.fM 0,.rowT 5 true x.fB]
 |81,m,x=>[.rowT 55 m x]
 |149,m,x=>[.rowT 4 true x]
 |171,true,x=>[.rowT 5 true x.fb,.int .i64 x.fi 0,.int .i64 x.fh 0]
 |171,false,x=>[.row 5 x.fb,.int .i64 x.fi 0,.int .i64 x.fh 0]
 |222,m,x=>[.int .u64 x 0]
 |225,m,x=>[.int .u64 x 0]
 |248,m,x=>[.int .u32 x 0]
 |10038,true,x=>[.int .i64 x.fC.Ad 0,.int .i64 x.fC.Ds 0,.int .i64 x.fC.B9 0,.int .i64 x.fC.Eu 0,.int .i64 x.fC.Ca 0,.int .i64 x.fC.Dt 0,.rowT 5 true x.fP.Fi,.rowT 3 true x.fP.Gt,.rowT 3 true x.fP.Fj,.rowT 77 true x.fL,.rowT 79 true x.fQ,.rowT 3 true x.Jc]
 |10038,false,x=>[.int .i64 x.fC.Ad 0,.int .i64 x.fC.Ds 0,.int .i64 x.fC.B9 0,.int .i64 x.fC.Eu 0,.int .i64 x.fC.Ca 0,.int .i64 x.fC.Dt 0,.rowT 5 true x.fP.Fi,.rowT 3 true x.fP.Gt,.rowT 3 true x.fP.Fj,.rowT 77 false x.fL,.rowT 79 true x.fQ,.rowT 3 true x.Jc]
 |_,_,_=>[]
def Amu:List (SV Af)->Option (Af 2)
 |[.int .i64 a0 _]=>some a0
 |_=>none
def Amv:List (SV Af)->Option (Af 3)
 |[.int .i64 a0 _]=>some a0
 |_=>none
def Amw:List (SV Af)->Option (Af 4)
 |[.bool a0]=>some a0
 |_=>none
def Amx:List (SV Af)->Option (Af 5)
 |[.int .u8 a0 _]=>some a0
 |_=>none
def Amy:List (SV Af)->Option (Af 9)
 |[.str a0]=>some a0
 |_=>none
def Afh:List (SV Af)->Option (Af 23)
 |[.int .i64 a0 _,.int .i64 a1 _,.int .i64 a2 _,.int .i64 a3 _,.int .i64 a4 _,.int .i64 a5 _]=>some ⟨a0,a1,a2,a3,a4,a5⟩
 |_=>none
def Afi:List (SV Af)->Option (Af 24)
 |[.row 5 a0]=>some a0
 |_=>none
def Afj:List (SV Af)->Option (Af 25)
 |[.row 3 a0]=>some a0
 |_=>none
def Afk:List (SV Af)->Option (Af 27)
 |[.row 5 a0,.row 3 a1,.row 3 a2]=>some ⟨a0,a1,a2⟩
 |_=>none
def Xw:List (SV Af)->Option (Af 237)
 |[.int .i64 a0 _,.int .i64 a1 _,.int .i64 a2 _]=>some ⟨a0,a1,a2⟩
 |_=>none
def Xx:List (SV Af)->Option (Af 157)
 |[.row 237 a0]=>some a0
 |_=>none
def Xy:List (SV Af)->Option (Af 159)
 |[.int .i64 a0 _,.int .i64 a1 _,.int .i64 a2 _,.int .i64 a3 _,.int .i64 a4 _,.int .i64 a5 _,.int .i64 a6 _,.int .i64 a7 _,.row 3 a8,.int .i64 a9 _,.int .i64 a10 _,.row 237 a11,.row 3 a12]=>some ⟨a0,a1,a2,a3,a4,a5,a6,a7,a8,a9,a10,a11,a12⟩
 |_=>none
def Afl:List (SV Af)->Option (Af 28)
 |[.row 159 a0]=>some a0
 |_=>none
def Xz:List (SV Af)->Option (Af 161)
 |[.int .i64 a0 _,.int .i64 a1 _,.row 3 a2,.row 3 a3,.int .i64 a4 _]=>some ⟨a0,a1,a2,a3,a4⟩
 |_=>none
def Afm:List (SV Af)->Option (Af 29)
 |[.row 161 a0]=>some a0
 |_=>none
def Afn:List (SV Af)->Option (Af 31)
 |[.int .i64 a0 _,.int .i64 a1 _,.int .i64 a2 _,.int .i64 a3 _,.int .i64 a4 _,.int .i64 a5 _,.row 5 a6,.row 3 a7,.row 3 a8,.row 159 a9,.row 161 a10,.row 3 a11]=>some ⟨⟨a0,a1,a2,a3,a4,a5⟩,⟨a6,a7,a8⟩,a9,a10,a11⟩
 |_=>none
def Afo:List (SV Af)->Option (Af 33)
 |[.int .i64 a0 _,.int .i64 a1 _,.int .i64 a2 _,.int .i64 a3 _,.int .i64 a4 _,.int .i64 a5 _]=>some ⟨a0,a1,a2,a3,a4,a5⟩
 |_=>none
def Afp:List (SV Af)->Option (Af 34)
 |[.row 5 a0,.row 3 a1,.row 3 a2]=>some ⟨a0,a1,a2⟩
 |_=>none
def X0:List (SV Af)->Option (Af 183)
 |[.int .i64 a0 _,.int .i64 a1 _,.int .i64 a2 _]=>some ⟨a0,a1,a2⟩
 |_=>none
def Afq:List (SV Af)->Option (Af 75)
 |[.row 183 a0]=>some a0
 |_=>none
def Afr:List (SV Af)->Option (Af 77)
 |[.int .i64 a0 _,.int .i64 a1 _,.int .i64 a2 _,.int .i64 a3 _,.int .i64 a4 _,.int .i64 a5 _,.int .i64 a6 _,.int .i64 a7 _,.row 3 a8,.int .i64 a9 _,.int .i64 a10 _,.row 183 a11,.row 3 a12]=>some ⟨a0,a1,a2,a3,a4,a5,a6,a7,a8,a9,a10,a11,a12⟩
 |_=>none
def Afs:List (SV Af)->Option (Af 35)
 |[.row 77 a0]=>some a0
 |_=>none
def Aft:List (SV Af)->Option (Af 79)
 |[.int .i64 a0 _,.int .i64 a1 _,.row 3 a2,.row 3 a3,.int .i64 a4 _]=>some ⟨a0,a1,a2,a3,a4⟩
 |_=>none
def Afu:List (SV Af)->Option (Af 36)
 |[.row 79 a0]=>some a0
 |_=>none
def Afv:List (SV Af)->Option (Af 38)
 |[.int .i64 a0 _,.int .i64 a1 _,.int .i64 a2 _,.int .i64 a3 _,.int .i64 a4 _,.int .i64 a5 _,.row 5 a6,.row 3 a7,.row 3 a8,.row 77 a9,.row 79 a10,.row 3 a11]=>some ⟨⟨a0,a1,a2,a3,a4,a5⟩,⟨a6,a7,a8⟩,a9,a10,a11⟩
 |_=>none
def Afw:List (SV Af)->Option (Af 40)
 |[.int .i64 a0 _,.int .i64 a1 _]=>some ⟨a0,a1⟩
 |_=>none
def Afx:List (SV Af)->Option (Af 42)
 |[.int .i64 a0 _,.int .i64 a1 _,.int .i64 a2 _,.int .i64 a3 _]=>some ⟨⟨a0,a1⟩,a2,a3⟩
 |_=>none
def Afy:List (SV Af)->Option (Af 44)
 |[.int .i64 a0 _,.int .i64 a1 _,.int .i64 a2 _,.int .i64 a3 _,.int .i64 a4 _,.int .i64 a5 _,.int .i64 a6 _,.row 5 a7,.int .i64 a8 _,.int .i64 a9 _,.int .i64 a10 _]=>some ⟨a0,⟨a1,a2⟩,⟨⟨a3,a4⟩,a5,a6⟩,a7,a8,a9,a10⟩
 |_=>none
def Afz:List (SV Af)->Option (Af 55)
 |[.int .i64 a0 _,.int .i64 a1 _,.int .i64 a2 _,.int .i64 a3 _,.int .i64 a4 _,.int .i64 a5 _,.int .i64 a6 _,.int .i64 a7 _,.int .i64 a8 _,.row 5 a9]=>some ⟨a0,⟨a1,a2⟩,⟨⟨a3,a4⟩,a5,a6⟩,a7,a8,a9⟩
 |_=>none
def Af0:List (SV Af)->Option (Af 81)
 |[.row 55 a0]=>some a0
 |_=>none
def X1:List (SV Af)->Option (Af 149)
 |[.row 4 a0]=>some a0
 |_=>none
def X2:List (SV Af)->Option (Af 171)
 |[.row 5 a0,.int .i64 a1 _,.int .i64 a2 _]=>some ⟨a0,a1,a2⟩
 |_=>none
def X3:List (SV Af)->Option (Af 222)
 |[.int .u64 a0 _]=>some a0
 |_=>none
def X4:List (SV Af)->Option (Af 225)
 |[.int .u64 a0 _]=>some a0
 |_=>none
def X5:List (SV Af)->Option (Af 248)
 |[.int .u32 a0 _]=>some a0
 |_=>none
def Ma:List (SV Af)->Option (Af 10038)
 |[.int .i64 a0 _,.int .i64 a1 _,.int .i64 a2 _,.int .i64 a3 _,.int .i64 a4 _,.int .i64 a5 _,.row 5 a6,.row 3 a7,.row 3 a8,.row 77 a9,.row 79 a10,.row 3 a11]=>some ⟨⟨a0,a1,a2,a3,a4,a5⟩,⟨a6,a7,a8⟩,a9,a10,a11⟩
 |_=>none
def Amz:(t:Nat)->List (SV Af)->Option (Af t)
 |2,c=>Amu c
 |3,c=>Amv c
 |4,c=>Amw c
 |5,c=>Amx c
 |9,c=>Amy c
 |23,c=>Afh c
 |24,c=>Afi c
 |25,c=>Afj c
 |27,c=>Afk c
 |237,c=>Xw c
 |157,c=>Xx c
 |159,c=>Xy c
 |28,c=>Afl c
 |161,c=>Xz c
 |29,c=>Afm c
 |31,c=>Afn c
 |33,c=>Afo c
 |34,c=>Afp c
 |183,c=>X0 c
 |75,c=>Afq c
 |77,c=>Afr c
 |35,c=>Afs c
 |79,c=>Aft c
 |36,c=>Afu c
 |38,c=>Afv c
 |40,c=>Afw c
 |42,c=>Afx c
 |44,c=>Afy c
 |55,c=>Afz c
 |81,c=>Af0 c
 |149,c=>X1 c
 |171,c=>X2 c
 |222,c=>X3 c
 |225,c=>X4 c
 |248,c=>X5 c
 |10038,c=>Ma c
 |_,_=>none
def X6:List (SV Af)->Option (Af 2)
 |[.int .i64 a0 _]=>some a0
 |_=>none
def X7:List (SV Af)->Option (Af 3)
 |[.int .i64 a0 _]=>some a0
 |_=>none
def X8:List (SV Af)->Option (Af 4)
 |[.bool a0]=>some a0
 |_=>none
def X9:List (SV Af)->Option (Af 5)
 |[.int .u8 a0 _]=>some a0
 |_=>none
def Ya:List (SV Af)->Option (Af 9)
 |[.str a0]=>some a0
 |_=>none
def Rf:List (SV Af)->Option (Af 23)
 |[.int .i64 a0 _,.int .i64 a1 _,.int .i64 a2 _,.int .i64 a3 _,.int .i64 a4 _,.int .i64 a5 _]=>some ⟨a0,a1,a2,a3,a4,a5⟩
 |_=>none
def Rh:List (SV Af)->Option (Af 24)
 |[.rowT 5 true a0]=>some a0
 |_=>none
def Ri:List (SV Af)->Option (Af 25)
 |[.rowT 3 true a0]=>some a0
 |_=>none
def Rj:List (SV Af)->Option (Af 27)
 |[.rowT 5 true a0,.rowT 3 true a1,.rowT 3 true a2]=>some ⟨a0,a1,a2⟩
 |_=>none
def Mb:List (SV Af)->Option (Af 237)
 |[.int .i64 a0 _,.int .i64 a1 _,.int .i64 a2 _]=>some ⟨a0,a1,a2⟩
 |_=>none
def Mc:List (SV Af)->Option (Af 157)
 |[.rowT 237 true a0]=>some a0
 |_=>none
def Md:List (SV Af)->Option (Af 159)
 |[.int .i64 a0 _,.int .i64 a1 _,.int .i64 a2 _,.int .i64 a3 _,.int .i64 a4 _,.int .i64 a5 _,.int .i64 a6 _,.int .i64 a7 _,.rowT 3 true a8,.int .i64 a9 _,.int .i64 a10 _,.rowT 237 true a11,.rowT 3 true a12]=>some ⟨a0,a1,a2,a3,a4,a5,a6,a7,a8,a9,a10,a11,a12⟩
 |_=>none
def Rk:List (SV Af)->Option (Af 28)
 |[.rowT 159 true a0]=>some a0
 |_=>none
def Rl:List (SV Af)->Option (Af 28)
 |[.rowT 159 false a0]=>some a0
 |_=>none
def Me:List (SV Af)->Option (Af 161)
 |[.int .i64 a0 _,.int .i64 a1 _,.rowT 3 true a2,.rowT 3 true a3,.int .i64 a4 _]=>some ⟨a0,a1,a2,a3,a4⟩
 |_=>none
def Rm:List (SV Af)->Option (Af 29)
 |[.rowT 161 true a0]=>some a0
 |_=>none
def Rn:List (SV Af)->Option (Af 29)
 |[.rowT 161 false a0]=>some a0
 |_=>none
def Ro:List (SV Af)->Option (Af 31)
 |[.int .i64 a0 _,.int .i64 a1 _,.int .i64 a2 _,.int .i64 a3 _,.int .i64 a4 _,.int .i64 a5 _,.rowT 5 true a6,.rowT 3 true a7,.rowT 3 true a8,.rowT 159 true a9,.rowT 161 true a10,.rowT 3 true a11]=>some ⟨⟨a0,a1,a2,a3,a4,a5⟩,⟨a6,a7,a8⟩,a9,a10,a11⟩
 |_=>none
def Rp:List (SV Af)->Option (Af 31)
 |[.int .i64 a0 _,.int .i64 a1 _,.int .i64 a2 _,.int .i64 a3 _,.int .i64 a4 _,.int .i64 a5 _,.rowT 5 true a6,.rowT 3 true a7,.rowT 3 true a8,.rowT 159 false a9,.rowT 161 false a10,.rowT 3 true a11]=>some ⟨⟨a0,a1,a2,a3,a4,a5⟩,⟨a6,a7,a8⟩,a9,a10,a11⟩
 |_=>none
def Rq:List (SV Af)->Option (Af 33)
 |[.int .i64 a0 _,.int .i64 a1 _,.int .i64 a2 _,.int .i64 a3 _,.int .i64 a4 _,.int .i64 a5 _]=>some ⟨a0,a1,a2,a3,a4,a5⟩
 |_=>none
def Rr:List (SV Af)->Option (Af 34)
 |[.rowT 5 true a0,.rowT 3 true a1,.rowT 3 true a2]=>some ⟨a0,a1,a2⟩
 |_=>none
def Mf:List (SV Af)->Option (Af 183)
 |[.int .i64 a0 _,.int .i64 a1 _,.int .i64 a2 _]=>some ⟨a0,a1,a2⟩
 |_=>none
def Rs:List (SV Af)->Option (Af 75)
 |[.rowT 183 true a0]=>some a0
 |_=>none
def Ru:List (SV Af)->Option (Af 77)
 |[.int .i64 a0 _,.int .i64 a1 _,.int .i64 a2 _,.int .i64 a3 _,.int .i64 a4 _,.int .i64 a5 _,.int .i64 a6 _,.int .i64 a7 _,.row 3 a8,.int .i64 a9 _,.int .i64 a10 _,.rowT 183 true a11,.rowT 3 true a12]=>some ⟨a0,a1,a2,a3,a4,a5,a6,a7,a8,a9,a10,a11,a12⟩
 |_=>none
def Rv:List (SV Af)->Option (Af 77)
 |[.int .i64 a0 _,.int .i64 a1 _,.int .i64 a2 _,.int .i64 a3 _,.int .i64 a4 _,.int .i64 a5 _,.int .i64 a6 _,.int .i64 a7 _,.rowT 3 true a8,.int .i64 a9 _,.int .i64 a10 _,.rowT 183 true a11,.rowT 3 true a12]=>some ⟨a0,a1,a2,a3,a4,a5,a6,a7,a8,a9,a10,a11,a12⟩
 |_=>none
def Rw:List (SV Af)->Option (Af 35)
 |[.rowT 77 true a0]=>some a0
 |_=>none
def Rx:List (SV Af)->Option (Af 35)
 |[.rowT 77 false a0]=>some a0
 |_=>none
def Ry:List (SV Af)->Option (Af 79)
 |[.int .i64 a0 _,.int .i64 a1 _,.rowT 3 true a2,.rowT 3 true a3,.int .i64 a4 _]=>some ⟨a0,a1,a2,a3,a4⟩
 |_=>none
def Rz:List (SV Af)->Option (Af 36)
 |[.rowT 79 true a0]=>some a0
 |_=>none
def R1:List (SV Af)->Option (Af 36)
 |[.rowT 79 false a0]=>some a0
 |_=>none
def R2:List (SV Af)->Option (Af 38)
 |[.int .i64 a0 _,.int .i64 a1 _,.int .i64 a2 _,.int .i64 a3 _,.int .i64 a4 _,.int .i64 a5 _,.rowT 5 true a6,.rowT 3 true a7,.rowT 3 true a8,.rowT 77 true a9,.rowT 79 true a10,.rowT 3 true a11]=>some ⟨⟨a0,a1,a2,a3,a4,a5⟩,⟨a6,a7,a8⟩,a9,a10,a11⟩
 |_=>none
def R3:List (SV Af)->Option (Af 38)
 |[.int .i64 a0 _,.int .i64 a1 _,.int .i64 a2 _,.int .i64 a3 _,.int .i64 a4 _,.int .i64 a5 _,.rowT 5 true a6,.rowT 3 true a7,.rowT 3 true a8,.rowT 77 true a9,.rowT 79 false a10,.rowT 3 true a11]=>some ⟨⟨a0,a1,a2,a3,a4,a5⟩,⟨a6,a7,a8⟩,a9,a10,a11⟩
 |_=>none
def R4:List (SV Af)->Option (Af 40)
 |[.int .i64 a0 _,.int .i64 a1 _]=>some ⟨a0,a1⟩
 |_=>none
def R5:List (SV Af)->Option (Af 42)
 |[.int .i64 a0 _,.int .i64 a1 _,.int .i64 a2 _,.int .i64 a3 _]=>some ⟨⟨a0,a1⟩,a2,a3⟩
 |_=>none
def R6:List (SV Af)->Option (Af 44)
 |[.int .i64 a0 _,.int .i64 a1 _,.int .i64 a2 _,.int .i64 a3 _,.int .i64 a4 _,.int .i64 a5 _,.int .i64 a6 _,.rowT 5 true a7,.int .i64 a8 _,.int .i64 a9 _,.int .i64 a10 _]=>some ⟨a0,⟨a1,a2⟩,⟨⟨a3,a4⟩,a5,a6⟩,a7,a8,a9,a10⟩
 |_=>none
def R7:List (SV Af)->Option (Af 55)
 |[.int .i64 a0 _,.int .i64 a1 _,.int .i64 a2 _,.int .i64 a3 _,.int .i64 a4 _,.int .i64 a5 _,.int .i64 a6 _,.int .i64 a7 _,.int .i64 a8 _,.rowT 5 true a9]=>some ⟨a0,⟨a1,a2⟩,⟨⟨a3,a4⟩,a5,a6⟩,a7,a8,a9⟩
 |_=>none
def R8:List (SV Af)->Option (Af 81)
 |[.rowT 55 true a0]=>some a0
 |_=>none
def R9:List (SV Af)->Option (Af 81)
 |[.rowT 55 false a0]=>some a0
 |_=>none
def Mg:List (SV Af)->Option (Af 149)
 |[.rowT 4 true a0]=>some a0
 |_=>none
def Mh:List (SV Af)->Option (Af 171)
 |[.rowT 5 true a0,.int .i64 a1 _,.int .i64 a2 _]=>some ⟨a0,a1,a2⟩
 |_=>none
def Mi:List (SV Af)->Option (Af 171)
 |[.row 5 a0,.int .i64 a1 _,.int .i64 a2 _]=>some ⟨a0,a1,a2⟩
 |_=>none
def Mj:List (SV Af)->Option (Af 222)
 |[.int .u64 a0 _]=>some a0
 |_=>none
def Mk:List (SV Af)->Option (Af 225)
 |[.int .u64 a0 _]=>some a0
 |_=>none
def Ml:List (SV Af)->Option (Af 248)
 |[.int .u32 a0 _]=>some a0
 |_=>none
def G8:List (SV Af)->Option (Af 10038)
 |[.int .i64 a0 _,.int .i64 a1 _,.int .i64 a2 _,.int .i64 a3 _,.int .i64 a4 _,.int .i64 a5 _,.rowT 5 true a6,.rowT 3 true a7,.rowT 3 true a8,.rowT 77 true a9,.rowT 79 true a10,.rowT 3 true a11]=>some ⟨⟨a0,a1,a2,a3,a4,a5⟩,⟨a6,a7,a8⟩,a9,a10,a11⟩
 |_=>none
def G9:List (SV Af)->Option (Af 10038)
 |[.int .i64 a0 _,.int .i64 a1 _,.int .i64 a2 _,.int .i64 a3 _,.int .i64 a4 _,.int .i64 a5 _,.rowT 5 true a6,.rowT 3 true a7,.rowT 3 true a8,.rowT 77 false a9,.rowT 79 true a10,.rowT 3 true a11]=>some ⟨⟨a0,a1,a2,a3,a4,a5⟩,⟨a6,a7,a8⟩,a9,a10,a11⟩
 |_=>none
def Am0:(t:Nat)->Bool->List (SV Af)->Option (Af t)
 |2,_,c=>X6 c
 |3,_,c=>X7 c
 |4,_,c=>X8 c
 |5,_,c=>X9 c
 |9,_,c=>Ya c
 |23,_,c=>Rf c
 |24,_,c=>Rh c
 |25,_,c=>Ri c
 |27,_,c=>Rj c
 |237,_,c=>Mb c
 |157,_,c=>Mc c
 |159,_,c=>Md c
 |28,true,c=>Rk c
 |28,false,c=>Rl c
 |161,_,c=>Me c
 |29,true,c=>Rm c
 |29,false,c=>Rn c
 |31,true,c=>Ro c
 |31,false,c=>Rp c
 |33,_,c=>Rq c
 |34,_,c=>Rr c
 |183,_,c=>Mf c
 |75,_,c=>Rs c
 |77,true,c=>Ru c
 |77,false,c=>Rv c
 |35,true,c=>Rw c
 |35,false,c=>Rx c
 |79,_,c=>Ry c
 |36,true,c=>Rz c
 |36,false,c=>R1 c
 |38,true,c=>R2 c
 |38,false,c=>R3 c
 |40,_,c=>R4 c
 |42,_,c=>R5 c
 |44,_,c=>R6 c
 |55,_,c=>R7 c
 |81,true,c=>R8 c
 |81,false,c=>R9 c
 |149,_,c=>Mg c
 |171,true,c=>Mh c
 |171,false,c=>Mi c
 |222,_,c=>Mj c
 |225,_,c=>Mk c
 |248,_,c=>Ml c
 |10038,true,c=>G8 c
 |10038,false,c=>G9 c
 |_,_,_=>none
def U3 (t j:Nat):Bool:=(Nat.beq t 77&&Nat.beq j 8)||((Nat.beq t 77||Nat.beq t 35||Nat.beq t 38||Nat.beq t 10038)&&Nat.beq j 1000)
def tyU:Un:=⟨Af,Apu,Amp,Amq,Asf,Amr,Ams,Amt,A8,Amz,Am0,U3⟩
theorem Am1: ∀x,(L4 x).all V.fresh=true:=fun x=>by
 simp only[L4,Gp,List.all_nil,Ag (f:=Bn) (fun _=>rfl),Se,Sf,Sg,Bool.and_self]
theorem Aiv: ∀x,(Hq x).all V.fresh=true:=fun x=>by
 simp only[Hq,Gp,List.all_nil,Ag (f:=Ac) (fun _=>rfl),Se,Sf,Sg,Bool.and_self]
theorem Sa: ∀x,(Dv x).all V.fresh=true:=fun x=>by
 simp only[Dv,Gp,List.all_nil,Ag (f:=Bn) (fun _=>rfl),Ag (f:=Ac) (fun _=>rfl),Se,Sf,Sg,Bool.and_self]
theorem Mm: ∀x,(Cp x).all V.fresh=true:=fun x=>by
 simp only[Cp,Gp,List.all_nil,Ag (f:=An) (fun _=>rfl),Se,Sf,Sg,Bool.and_self]
theorem F3: ∀x,(Cc x).all V.fresh=true:=fun x=>by
 simp only[Cc,Gp,List.all_nil,Ag (f:=Ac) (fun _=>rfl),Ag (f:=An) (fun _=>rfl),Se,Sf,Sg,Bool.and_self]
theorem Ng: ∀x,(C7 x).all V.fresh=true:=fun x=>by
 simp only[C7,Gp,List.all_nil,Ag F3,Se,Sf,Sg,Bool.and_self]
theorem Fk: ∀x,(Br x).all V.fresh=true:=fun x=>by
 simp only[Br,Gp,List.all_nil,Ag (f:=Ac) (fun _=>rfl),Se,Sf,Sg,Bool.and_self]
theorem Mn: ∀x,(Cq x).all V.fresh=true:=fun x=>by
 simp only[Cq,Gp,List.all_nil,Ag Fk,Se,Sf,Sg,Bool.and_self]
theorem Nh: ∀x,(C8 x).all V.fresh=true:=fun x=>by
 simp only[C8,Gp,List.all_nil,Ag (f:=Bn) (fun _=>rfl),Ag (f:=Ac) (fun _=>rfl),Ag F3,Ag Fk,Se,Sf,Sg,Bool.and_self]
theorem Sb: ∀x,(Dx x).all V.fresh=true:=fun x=>by
 simp only[Dx,Gp,List.all_nil,Ag (f:=Bn) (fun _=>rfl),Ag (f:=Ac) (fun _=>rfl),Se,Sf,Sg,Bool.and_self]
theorem Mo: ∀x,(Cr x).all V.fresh=true:=fun x=>by
 simp only[Cr,Gp,List.all_nil,Ag (f:=Aq) (fun _=>rfl),Se,Sf,Sg,Bool.and_self]
theorem G3: ∀x,(Bt x).all V.fresh=true:=fun x=>by
 simp only[Bt,Gp,List.all_nil,Ag (f:=Ac) (fun _=>rfl),Se,Sf,Sg,Bool.and_self]
theorem Mp: ∀x,(Ct x).all V.fresh=true:=fun x=>by
 simp only[Ct,Gp,List.all_nil,Ag G3,Se,Sf,Sg,Bool.and_self]
theorem U4: ∀x,(Ee x).all V.fresh=true:=fun x=>by
 simp only[Ee,Gp,List.all_nil,Ag (f:=Bn) (fun _=>rfl),Se,Sf,Sg,Bool.and_self]
theorem Mq: ∀x,(D1 x).all V.fresh=true:=fun x=>by
 simp only[D1,Gp,List.all_nil,Ag (f:=Bn) (fun _=>rfl),Se,Sf,Sg,Bool.and_self]
theorem U5: ∀x,(Ef x).all V.fresh=true:=fun x=>by
 simp only[Ef,Gp,List.all_nil,Ag Mq,Se,Sf,Sg,Bool.and_self]
theorem U6: ∀x,(Eg x).all V.fresh=true:=fun x=>by
 simp only[Eg,Gp,List.all_nil,Ag (f:=Cb) (fun _=>rfl),Se,Sf,Sg,Bool.and_self]
theorem Ni: ∀x,(C9 x).all V.fresh=true:=fun x=>by
 simp only[C9,Gp,List.all_nil,Ag (f:=Bn) (fun _=>rfl),Se,Sf,Sg,Bool.and_self]
theorem Apv (c x)(h:Amu c=some x):c.map (SV.toV tyU)=Ac x:=by
  unfold Amu at h;split at h
  ·cases h;rfl
  ·cases h
theorem Aiw (c x)(h:X6 c=some x):c.map (SV.toV tyU)=(A8 2 true x).map (SV.toV tyU):=by
  unfold X6 at h;split at h
  ·cases h;rfl
  ·cases h
theorem Asg:F6 tyU 2:=⟨Aj,U0,fun _=>rfl,fun _=>rfl,fun _ _=>rfl,Apv,fun _=>Aiw,fun _=>rfl,fun _=>rfl,fun _ _=>rfl,fun _ _=>rfl,fun _=>rfl,Ao fun _=>rfl⟩
theorem Apw (c x)(h:Amv c=some x):c.map (SV.toV tyU)=Ac x:=by
  unfold Amv at h;split at h
  ·cases h;rfl
  ·cases h
theorem Aix (c x)(h:X7 c=some x):c.map (SV.toV tyU)=(A8 3 true x).map (SV.toV tyU):=by
  unfold X7 at h;split at h
  ·cases h;rfl
  ·cases h
theorem Ash:F6 tyU 3:=⟨Aj,U0,fun _=>rfl,fun _=>rfl,fun _ _=>rfl,Apw,fun _=>Aix,fun _=>rfl,fun _=>rfl,fun _ _=>rfl,fun _ _=>rfl,fun _=>rfl,Ao fun _=>rfl⟩
theorem Apx (c x)(h:Amw c=some x):c.map (SV.toV tyU)=Cb x:=by
  unfold Amw at h;split at h
  ·cases h;rfl
  ·cases h
theorem Aiy (c x)(h:X8 c=some x):c.map (SV.toV tyU)=(A8 4 true x).map (SV.toV tyU):=by
  unfold X8 at h;split at h
  ·cases h;rfl
  ·cases h
theorem Asi:F6 tyU 4:=⟨Cw,Re,fun _=>rfl,fun _=>rfl,fun _ _=>rfl,Apx,fun _=>Aiy,fun _=>rfl,fun _=>rfl,fun _ _=>rfl,fun _ _=>rfl,fun _=>rfl,Ao fun _=>rfl⟩
theorem Apy (c x)(h:Amx c=some x):c.map (SV.toV tyU)=Bn x:=by
  unfold Amx at h;split at h
  ·cases h;rfl
  ·cases h
theorem Aiz (c x)(h:X9 c=some x):c.map (SV.toV tyU)=(A8 5 true x).map (SV.toV tyU):=by
  unfold X9 at h;split at h
  ·cases h;rfl
  ·cases h
theorem Asj:F6 tyU 5:=⟨Ay,Aiu,fun _=>rfl,fun _=>rfl,fun _ _=>rfl,Apy,fun _=>Aiz,fun _=>rfl,fun _=>rfl,fun _ _=>rfl,fun _ _=>rfl,fun _=>rfl,Ao fun _=>rfl⟩
theorem Apz (c x)(h:Amy c=some x):c.map (SV.toV tyU)=Ex x:=by
  unfold Amy at h;split at h
  ·cases h;rfl
  ·cases h
theorem Ai0 (c x)(h:Ya c=some x):c.map (SV.toV tyU)=(A8 9 true x).map (SV.toV tyU):=by
  unfold Ya at h;split at h
  ·cases h;rfl
  ·cases h
theorem Asl:F6 tyU 9:=⟨Fe,U1,fun _=>rfl,fun _=>rfl,fun _ _=>rfl,Apz,fun _=>Ai0,fun _=>rfl,fun _=>rfl,fun _ _=>rfl,fun _ _=>rfl,fun _=>rfl,Ao fun _=>rfl⟩
theorem Am2 (c x)(h:Afh c=some x):c.map (SV.toV tyU)=Cy x:=by
  unfold Afh at h;split at h
  ·cases h;rfl
  ·cases h
theorem Af1 (c x)(h:Rf c=some x):c.map (SV.toV tyU)=(A8 23 true x).map (SV.toV tyU):=by
  unfold Rf at h;split at h
  ·cases h;rfl
  ·cases h
theorem Ap0:F6 tyU 23:=⟨Du,Lz,fun _=>rfl,fun _=>rfl,fun _ _=>rfl,Am2,fun _=>Af1,fun _=>rfl,fun _=>rfl,fun _ _=>rfl,fun _ _=>rfl,fun _=>rfl,Ao fun _=>rfl⟩
theorem Am3 (c x)(h:Afi c=some x):c.map (SV.toV tyU)=Jd x:=by
  unfold Afi at h;split at h
  ·cases h;rfl
  ·cases h
theorem Af2 (c x)(h:Rh c=some x):c.map (SV.toV tyU)=(A8 24 true x).map (SV.toV tyU):=by
  unfold Rh at h;split at h
  ·cases h;rfl
  ·cases h
theorem Ap1:F6 tyU 24:=⟨Afe,Aff,fun _=>rfl,fun _=>rfl,fun _ _=>rfl,Am3,fun _=>Af2,(fun h=>by cases h),fun _=>rfl,fun _ _=>rfl,fun x _=>Am1 x,fun _=>rfl,Ao fun _=>rfl⟩
theorem Am4 (c x)(h:Afj c=some x):c.map (SV.toV tyU)=Gj x:=by
  unfold Afj at h;split at h
  ·cases h;rfl
  ·cases h
theorem Af3 (c x)(h:Ri c=some x):c.map (SV.toV tyU)=(A8 25 true x).map (SV.toV tyU):=by
  unfold Ri at h;split at h
  ·cases h;rfl
  ·cases h
theorem Ap2:F6 tyU 25:=⟨Abh,Abi,fun _=>rfl,fun _=>rfl,fun _ _=>rfl,Am4,fun _=>Af3,(fun h=>by cases h),fun _=>rfl,fun _ _=>rfl,fun x _=>Aiv x,fun _=>rfl,Ao fun _=>rfl⟩
theorem Am5 (c x)(h:Afk c=some x):c.map (SV.toV tyU)=Cz x:=by
  unfold Afk at h;split at h
  ·cases h;rfl
  ·cases h
theorem Af4 (c x)(h:Rj c=some x):c.map (SV.toV tyU)=(A8 27 true x).map (SV.toV tyU):=by
  unfold Rj at h;split at h
  ·cases h;rfl
  ·cases h
theorem Ap3:F6 tyU 27:=⟨L5,L6,fun _=>rfl,fun _=>rfl,fun _ _=>rfl,Am5,fun _=>Af4,(fun h=>by cases h),fun _=>rfl,fun _ _=>rfl,fun x _=>Sa x,fun _=>rfl,Ao fun _=>rfl⟩
theorem Ai1 (c x)(h:Xw c=some x):c.map (SV.toV tyU)=An x:=by
  unfold Xw at h;split at h
  ·cases h;rfl
  ·cases h
theorem Abj (c x)(h:Mb c=some x):c.map (SV.toV tyU)=(A8 237 true x).map (SV.toV tyU):=by
  unfold Mb at h;split at h
  ·cases h;rfl
  ·cases h
theorem Am6:F6 tyU 237:=⟨At,Jv,fun _=>rfl,fun _=>rfl,fun _ _=>rfl,Ai1,fun _=>Abj,fun _=>rfl,fun _=>rfl,fun _ _=>rfl,fun _ _=>rfl,fun _=>rfl,Ao fun _=>rfl⟩
theorem Ai2 (c x)(h:Xx c=some x):c.map (SV.toV tyU)=Bx x:=by
  unfold Xx at h;split at h
  ·cases h;rfl
  ·cases h
theorem Abk (c x)(h:Mc c=some x):c.map (SV.toV tyU)=(A8 157 true x).map (SV.toV tyU):=by
  unfold Mc at h;split at h
  ·cases h;rfl
  ·cases h
theorem Am7:F6 tyU 157:=⟨Je,Jf,fun _=>rfl,fun _=>rfl,fun _ _=>rfl,Ai2,fun _=>Abk,(fun h=>by cases h),fun _=>rfl,fun _ _=>rfl,fun x _=>Mm x,fun _=>rfl,Ao fun _=>rfl⟩
theorem Ai3 (c x)(h:Xy c=some x):c.map (SV.toV tyU)=Bo x:=by
  unfold Xy at h;split at h
  ·cases h;rfl
  ·cases h
theorem Abl (c x)(h:Md c=some x):c.map (SV.toV tyU)=(A8 159 true x).map (SV.toV tyU):=by
  unfold Md at h;split at h
  ·cases h;rfl
  ·cases h
theorem Am8:F6 tyU 159:=⟨E6,E7,fun _=>rfl,fun _=>rfl,fun _ _=>rfl,Ai3,fun _=>Abl,(fun h=>by cases h),fun _=>rfl,fun _ _=>rfl,fun x _=>F3 x,fun _=>rfl,Ao fun _=>rfl⟩
theorem Am9 (c x)(h:Afl c=some x):c.map (SV.toV tyU)=Cf x:=by
  unfold Afl at h;split at h
  ·cases h;rfl
  ·cases h
theorem Af5 (c x)(h:Rk c=some x):c.map (SV.toV tyU)=(A8 28 true x).map (SV.toV tyU):=by
  unfold Rk at h;split at h
  ·cases h;rfl
  ·cases h
theorem Af6 (c x)(h:Rl c=some x):c.map (SV.toV tyU)=(A8 28 false x).map (SV.toV tyU):=by
  unfold Rl at h;split at h
  ·cases h;rfl
  ·cases h
theorem Ap4:F6 tyU 28:=⟨Jw,Jx,fun _=>rfl,fun _=>rfl,fun _ _=>rfl,Am9,fun m=>match m with|true=>Af5|false=>Af6,(fun h=>by cases h),fun _=>rfl,fun _ _=>rfl,fun x _=>Ng x,fun _=>rfl,Ao fun _=>rfl⟩
theorem Ai4 (c x)(h:Xz c=some x):c.map (SV.toV tyU)=Ba x:=by
  unfold Xz at h;split at h
  ·cases h;rfl
  ·cases h
theorem Abm (c x)(h:Me c=some x):c.map (SV.toV tyU)=(A8 161 true x).map (SV.toV tyU):=by
  unfold Me at h;split at h
  ·cases h;rfl
  ·cases h
theorem Ana:F6 tyU 161:=⟨Ei,Ej,fun _=>rfl,fun _=>rfl,fun _ _=>rfl,Ai4,fun _=>Abm,(fun h=>by cases h),fun _=>rfl,fun _ _=>rfl,fun x _=>Fk x,fun _=>rfl,Ao fun _=>rfl⟩
theorem Anb (c x)(h:Afm c=some x):c.map (SV.toV tyU)=By x:=by
  unfold Afm at h;split at h
  ·cases h;rfl
  ·cases h
theorem Af7 (c x)(h:Rm c=some x):c.map (SV.toV tyU)=(A8 29 true x).map (SV.toV tyU):=by
  unfold Rm at h;split at h
  ·cases h;rfl
  ·cases h
theorem Af8 (c x)(h:Rn c=some x):c.map (SV.toV tyU)=(A8 29 false x).map (SV.toV tyU):=by
  unfold Rn at h;split at h
  ·cases h;rfl
  ·cases h
theorem Ap5:F6 tyU 29:=⟨Jg,Jh,fun _=>rfl,fun _=>rfl,fun _ _=>rfl,Anb,fun m=>match m with|true=>Af7|false=>Af8,(fun h=>by cases h),fun _=>rfl,fun _ _=>rfl,fun x _=>Mn x,fun _=>rfl,Ao fun _=>rfl⟩
theorem Anc (c x)(h:Afn c=some x):c.map (SV.toV tyU)=Cg x:=by
  unfold Afn at h;split at h
  ·cases h;rfl
  ·cases h
theorem Af9 (c x)(h:Ro c=some x):c.map (SV.toV tyU)=(A8 31 true x).map (SV.toV tyU):=by
  unfold Ro at h;split at h
  ·cases h;rfl
  ·cases h
theorem Aga (c x)(h:Rp c=some x):c.map (SV.toV tyU)=(A8 31 false x).map (SV.toV tyU):=by
  unfold Rp at h;split at h
  ·cases h;rfl
  ·cases h
theorem Ap6:F6 tyU 31:=⟨Jy,Jz,fun _=>rfl,fun _=>rfl,fun _ _=>rfl,Anc,fun m=>match m with|true=>Af9|false=>Aga,(fun h=>by cases h),fun _=>rfl,fun _ _=>rfl,fun x _=>Nh x,fun _=>rfl,Ao fun _=>rfl⟩
theorem Ane (c x)(h:Afo c=some x):c.map (SV.toV tyU)=C0 x:=by
  unfold Afo at h;split at h
  ·cases h;rfl
  ·cases h
theorem Agb (c x)(h:Rq c=some x):c.map (SV.toV tyU)=(A8 33 true x).map (SV.toV tyU):=by
  unfold Rq at h;split at h
  ·cases h;rfl
  ·cases h
theorem Ap7:F6 tyU 33:=⟨Dw,L7,fun _=>rfl,fun _=>rfl,fun _ _=>rfl,Ane,fun _=>Agb,fun _=>rfl,fun _=>rfl,fun _ _=>rfl,fun _ _=>rfl,fun _=>rfl,Ao fun _=>rfl⟩
theorem Anf (c x)(h:Afp c=some x):c.map (SV.toV tyU)=C1 x:=by
  unfold Afp at h;split at h
  ·cases h;rfl
  ·cases h
theorem Agc (c x)(h:Rr c=some x):c.map (SV.toV tyU)=(A8 34 true x).map (SV.toV tyU):=by
  unfold Rr at h;split at h
  ·cases h;rfl
  ·cases h
theorem Ap8:F6 tyU 34:=⟨L8,L9,fun _=>rfl,fun _=>rfl,fun _ _=>rfl,Anf,fun _=>Agc,(fun h=>by cases h),fun _=>rfl,fun _ _=>rfl,fun x _=>Sb x,fun _=>rfl,Ao fun _=>rfl⟩
theorem Ai5 (c x)(h:X0 c=some x):c.map (SV.toV tyU)=Aq x:=by
  unfold X0 at h;split at h
  ·cases h;rfl
  ·cases h
theorem Abn (c x)(h:Mf c=some x):c.map (SV.toV tyU)=(A8 183 true x).map (SV.toV tyU):=by
  unfold Mf at h;split at h
  ·cases h;rfl
  ·cases h
theorem Ang:F6 tyU 183:=⟨Au,J0,fun _=>rfl,fun _=>rfl,fun _ _=>rfl,Ai5,fun _=>Abn,fun _=>rfl,fun _=>rfl,fun _ _=>rfl,fun _ _=>rfl,fun _=>rfl,Ao fun _=>rfl⟩
theorem Anh (c x)(h:Afq c=some x):c.map (SV.toV tyU)=Bz x:=by
  unfold Afq at h;split at h
  ·cases h;rfl
  ·cases h
theorem Agd (c x)(h:Rs c=some x):c.map (SV.toV tyU)=(A8 75 true x).map (SV.toV tyU):=by
  unfold Rs at h;split at h
  ·cases h;rfl
  ·cases h
theorem Ap9:F6 tyU 75:=⟨Ji,Jj,fun _=>rfl,fun _=>rfl,fun _ _=>rfl,Anh,fun _=>Agd,(fun h=>by cases h),fun _=>rfl,fun _ _=>rfl,fun x _=>Mo x,fun _=>rfl,Ao fun _=>rfl⟩
theorem Ani (c x)(h:Afr c=some x):c.map (SV.toV tyU)=Bp x:=by
  unfold Afr at h;split at h
  ·cases h;rfl
  ·cases h
theorem Age (c x)(h:Ru c=some x):c.map (SV.toV tyU)=(A8 77 true x).map (SV.toV tyU):=by
  unfold Ru at h;split at h
  ·cases h;rfl
  ·cases h
theorem Agf (c x)(h:Rv c=some x):c.map (SV.toV tyU)=(A8 77 false x).map (SV.toV tyU):=by
  unfold Rv at h;split at h
  ·cases h;rfl
  ·cases h
theorem Anj (x:Ax)(j:Nat)(v:V)(hj:(C2 x)[j]? =some v)(e:U3 77 j=true):v.share=v:=by
 rcases Bool.or_eq_true_iff.1 e with h|h
 ·rw[show j=8 from Z2 h]at hj;cases hj;show V.row false _ (shareLL _)=_;rw[Aj.shareLL]
 ·rw[show j=1000 from Z2 h]at hj;cases hj
theorem Aqa:F6 tyU 77:=⟨E8,E9,fun _=>rfl,fun _=>rfl,(fun m _=>by cases m<;>rfl),Ani,fun m=>match m with|true=>Age|false=>Agf,(fun h=>by cases h),fun _=>rfl,(fun m _=>by cases m<;>rfl),(fun _ h=>by cases h),fun _=>rfl,Anj⟩
theorem Ank (c x)(h:Afs c=some x):c.map (SV.toV tyU)=Ch x:=by
  unfold Afs at h;split at h
  ·cases h;rfl
  ·cases h
theorem Agg (c x)(h:Rw c=some x):c.map (SV.toV tyU)=(A8 35 true x).map (SV.toV tyU):=by
  unfold Rw at h;split at h
  ·cases h;rfl
  ·cases h
theorem Agh (c x)(h:Rx c=some x):c.map (SV.toV tyU)=(A8 35 false x).map (SV.toV tyU):=by
  unfold Rx at h;split at h
  ·cases h;rfl
  ·cases h
theorem Anl (x:List Ax)(j:Nat)(v:V)(hj:(D4 x)[j]? =some v)(e:U3 35 j=true):v.share=v:=by
 rw[show j=1000 from Z2 e]at hj;cases hj
theorem Aqb:F6 tyU 35:=⟨J1,J2,fun _=>rfl,fun _=>rfl,fun _ _=>rfl,Ank,fun m=>match m with|true=>Agg|false=>Agh,(fun h=>by cases h),fun _=>rfl,fun _ _=>rfl,(fun _ h=>by cases h),fun _=>rfl,Anl⟩
theorem Anm (c x)(h:Aft c=some x):c.map (SV.toV tyU)=Bb x:=by
  unfold Aft at h;split at h
  ·cases h;rfl
  ·cases h
theorem Agi (c x)(h:Ry c=some x):c.map (SV.toV tyU)=(A8 79 true x).map (SV.toV tyU):=by
  unfold Ry at h;split at h
  ·cases h;rfl
  ·cases h
theorem Aqc:F6 tyU 79:=⟨Ek,El,fun _=>rfl,fun _=>rfl,fun _ _=>rfl,Anm,fun _=>Agi,(fun h=>by cases h),fun _=>rfl,fun _ _=>rfl,fun x _=>G3 x,fun _=>rfl,Ao fun _=>rfl⟩
theorem Ann (c x)(h:Afu c=some x):c.map (SV.toV tyU)=B5 x:=by
  unfold Afu at h;split at h
  ·cases h;rfl
  ·cases h
theorem Agj (c x)(h:Rz c=some x):c.map (SV.toV tyU)=(A8 36 true x).map (SV.toV tyU):=by
  unfold Rz at h;split at h
  ·cases h;rfl
  ·cases h
theorem Agk (c x)(h:R1 c=some x):c.map (SV.toV tyU)=(A8 36 false x).map (SV.toV tyU):=by
  unfold R1 at h;split at h
  ·cases h;rfl
  ·cases h
theorem Aqd:F6 tyU 36:=⟨Jk,Jl,fun _=>rfl,fun _=>rfl,fun _ _=>rfl,Ann,fun m=>match m with|true=>Agj|false=>Agk,(fun h=>by cases h),fun _=>rfl,fun _ _=>rfl,fun x _=>Mp x,fun _=>rfl,Ao fun _=>rfl⟩
theorem Ano (c x)(h:Afv c=some x):c.map (SV.toV tyU)=Bc x:=by
  unfold Afv at h;split at h
  ·cases h;rfl
  ·cases h
theorem Agl (c x)(h:R2 c=some x):c.map (SV.toV tyU)=(A8 38 true x).map (SV.toV tyU):=by
  unfold R2 at h;split at h
  ·cases h;rfl
  ·cases h
theorem Agm (c x)(h:R3 c=some x):c.map (SV.toV tyU)=(A8 38 false x).map (SV.toV tyU):=by
  unfold R3 at h;split at h
  ·cases h;rfl
  ·cases h
theorem Anp (x:Bm)(j:Nat)(v:V)(hj:(Ci x)[j]? =some v)(e:U3 38 j=true):v.share=v:=by
 rw[show j=1000 from Z2 e]at hj;cases hj
theorem Aqe:F6 tyU 38:=⟨F7,F8,fun _=>rfl,fun _=>rfl,(fun m _=>by cases m<;>rfl),Ano,fun m=>match m with|true=>Agl|false=>Agm,(fun h=>by cases h),fun _=>rfl,(fun m _=>by cases m<;>rfl),(fun _ h=>by cases h),fun _=>rfl,Anp⟩
theorem Anq (c x)(h:Afw c=some x):c.map (SV.toV tyU)=B6 x:=by
  unfold Afw at h;split at h
  ·cases h;rfl
  ·cases h
theorem Agn (c x)(h:R4 c=some x):c.map (SV.toV tyU)=(A8 40 true x).map (SV.toV tyU):=by
  unfold R4 at h;split at h
  ·cases h;rfl
  ·cases h
theorem Aqf:F6 tyU 40:=⟨C3,Jm,fun _=>rfl,fun _=>rfl,fun _ _=>rfl,Anq,fun _=>Agn,fun _=>rfl,fun _=>rfl,fun _ _=>rfl,fun _ _=>rfl,fun _=>rfl,Ao fun _=>rfl⟩
theorem Anr (c x)(h:Afx c=some x):c.map (SV.toV tyU)=Dg x:=by
  unfold Afx at h;split at h
  ·cases h;rfl
  ·cases h
theorem Ago (c x)(h:R5 c=some x):c.map (SV.toV tyU)=(A8 42 true x).map (SV.toV tyU):=by
  unfold R5 at h;split at h
  ·cases h;rfl
  ·cases h
theorem Aqg:F6 tyU 42:=⟨D5,M8,fun _=>rfl,fun _=>rfl,fun _ _=>rfl,Anr,fun _=>Ago,fun _=>rfl,fun _=>rfl,fun _ _=>rfl,fun _ _=>rfl,fun _=>rfl,Ao fun _=>rfl⟩
theorem Ans (c x)(h:Afy c=some x):c.map (SV.toV tyU)=Dh x:=by
  unfold Afy at h;split at h
  ·cases h;rfl
  ·cases h
theorem Agp (c x)(h:R6 c=some x):c.map (SV.toV tyU)=(A8 44 true x).map (SV.toV tyU):=by
  unfold R6 at h;split at h
  ·cases h;rfl
  ·cases h
theorem Aqh:F6 tyU 44:=⟨M9,Na,fun _=>rfl,fun _=>rfl,fun _ _=>rfl,Ans,fun _=>Agp,(fun h=>by cases h),fun _=>rfl,fun _ _=>rfl,fun x _=>U4 x,fun _=>rfl,Ao fun _=>rfl⟩
theorem Ant (c x)(h:Afz c=some x):c.map (SV.toV tyU)=Db x:=by
  unfold Afz at h;split at h
  ·cases h;rfl
  ·cases h
theorem Agq (c x)(h:R7 c=some x):c.map (SV.toV tyU)=(A8 55 true x).map (SV.toV tyU):=by
  unfold R7 at h;split at h
  ·cases h;rfl
  ·cases h
theorem Aqi:F6 tyU 55:=⟨Hr,Hs,fun _=>rfl,fun _=>rfl,fun _ _=>rfl,Ant,fun _=>Agq,(fun h=>by cases h),fun _=>rfl,fun _ _=>rfl,fun x _=>Mq x,fun _=>rfl,Ao fun _=>rfl⟩
theorem Anu (c x)(h:Af0 c=some x):c.map (SV.toV tyU)=Di x:=by
  unfold Af0 at h;split at h
  ·cases h;rfl
  ·cases h
theorem Agr (c x)(h:R8 c=some x):c.map (SV.toV tyU)=(A8 81 true x).map (SV.toV tyU):=by
  unfold R8 at h;split at h
  ·cases h;rfl
  ·cases h
theorem Ags (c x)(h:R9 c=some x):c.map (SV.toV tyU)=(A8 81 false x).map (SV.toV tyU):=by
  unfold R9 at h;split at h
  ·cases h;rfl
  ·cases h
theorem Aqj:F6 tyU 81:=⟨Nb,Nc,fun _=>rfl,fun _=>rfl,fun _ _=>rfl,Anu,fun m=>match m with|true=>Agr|false=>Ags,(fun h=>by cases h),fun _=>rfl,fun _ _=>rfl,fun x _=>U5 x,fun _=>rfl,Ao fun _=>rfl⟩
theorem Ai6 (c x)(h:X1 c=some x):c.map (SV.toV tyU)=Dj x:=by
  unfold X1 at h;split at h
  ·cases h;rfl
  ·cases h
theorem Abo (c x)(h:Mg c=some x):c.map (SV.toV tyU)=(A8 149 true x).map (SV.toV tyU):=by
  unfold Mg at h;split at h
  ·cases h;rfl
  ·cases h
theorem Anv:F6 tyU 149:=⟨Nd,Nf,fun _=>rfl,fun _=>rfl,fun _ _=>rfl,Ai6,fun _=>Abo,(fun h=>by cases h),fun _=>rfl,fun _ _=>rfl,fun x _=>U6 x,fun _=>rfl,Ao fun _=>rfl⟩
theorem Ai7 (c x)(h:X2 c=some x):c.map (SV.toV tyU)=Cj x:=by
  unfold X2 at h;split at h
  ·cases h;rfl
  ·cases h
theorem Abp (c x)(h:Mh c=some x):c.map (SV.toV tyU)=(A8 171 true x).map (SV.toV tyU):=by
  unfold Mh at h;split at h
  ·cases h;rfl
  ·cases h
theorem Abq (c x)(h:Mi c=some x):c.map (SV.toV tyU)=(A8 171 false x).map (SV.toV tyU):=by
  unfold Mi at h;split at h
  ·cases h;rfl
  ·cases h
theorem Anw:F6 tyU 171:=⟨J3,J4,fun _=>rfl,fun _=>rfl,(fun m _=>by cases m<;>rfl),Ai7,fun m=>match m with|true=>Abp|false=>Abq,(fun h=>by cases h),fun _=>rfl,(fun m _=>by cases m<;>rfl),fun x _=>Ni x,fun _=>rfl,Ao fun _=>rfl⟩
theorem Ai8 (c x)(h:X3 c=some x):c.map (SV.toV tyU)=F0 x:=by
  unfold X3 at h;split at h
  ·cases h;rfl
  ·cases h
theorem Abr (c x)(h:Mj c=some x):c.map (SV.toV tyU)=(A8 222 true x).map (SV.toV tyU):=by
  unfold Mj at h;split at h
  ·cases h;rfl
  ·cases h
theorem Anx:F6 tyU 222:=⟨Gh,U2,fun _=>rfl,fun _=>rfl,fun _ _=>rfl,Ai8,fun _=>Abr,fun _=>rfl,fun _=>rfl,fun _ _=>rfl,fun _ _=>rfl,fun _=>rfl,Ao fun _=>rfl⟩
theorem Ai9 (c x)(h:X4 c=some x):c.map (SV.toV tyU)=F0 x:=by
  unfold X4 at h;split at h
  ·cases h;rfl
  ·cases h
theorem Abs (c x)(h:Mk c=some x):c.map (SV.toV tyU)=(A8 225 true x).map (SV.toV tyU):=by
  unfold Mk at h;split at h
  ·cases h;rfl
  ·cases h
theorem Anz:F6 tyU 225:=⟨Gh,U2,fun _=>rfl,fun _=>rfl,fun _ _=>rfl,Ai9,fun _=>Abs,fun _=>rfl,fun _=>rfl,fun _ _=>rfl,fun _ _=>rfl,fun _=>rfl,Ao fun _=>rfl⟩
theorem Aja (c x)(h:X5 c=some x):c.map (SV.toV tyU)=Jn x:=by
  unfold X5 at h;split at h
  ·cases h;rfl
  ·cases h
theorem Abt (c x)(h:Ml c=some x):c.map (SV.toV tyU)=(A8 248 true x).map (SV.toV tyU):=by
  unfold Ml at h;split at h
  ·cases h;rfl
  ·cases h
theorem An0:F6 tyU 248:=⟨Hu,Afg,fun _=>rfl,fun _=>rfl,fun _ _=>rfl,Aja,fun _=>Abt,fun _=>rfl,fun _=>rfl,fun _ _=>rfl,fun _ _=>rfl,fun _=>rfl,Ao fun _=>rfl⟩
theorem Abu (c x)(h:Ma c=some x):c.map (SV.toV tyU)=Bc x:=by
  unfold Ma at h;split at h
  ·cases h;rfl
  ·cases h
theorem U7 (c x)(h:G8 c=some x):c.map (SV.toV tyU)=(A8 10038 true x).map (SV.toV tyU):=by
  unfold G8 at h;split at h
  ·cases h;rfl
  ·cases h
theorem U8 (c x)(h:G9 c=some x):c.map (SV.toV tyU)=(A8 10038 false x).map (SV.toV tyU):=by
  unfold G9 at h;split at h
  ·cases h;rfl
  ·cases h
theorem Abv (x:Bm)(j:Nat)(v:V)(hj:(Ci x)[j]? =some v)(e:U3 10038 j=true):v.share=v:=by
 rw[show j=1000 from Z2 e]at hj;cases hj
theorem Agt:F6 tyU 10038:=⟨F7,F8,fun _=>rfl,fun _=>rfl,(fun m _=>by cases m<;>rfl),Abu,fun m=>match m with|true=>U7|false=>U8,(fun h=>by cases h),fun _=>rfl,(fun m _=>by cases m<;>rfl),(fun _ h=>by cases h),fun _=>rfl,Abv⟩
theorem Ajb{t:Nat}(h2:t≠2)(h3:t≠3)(h4:t≠4)(h5:t≠5)(h9:t≠9)(h23:t≠23)(h24:t≠24)(h25:t≠25)(h27:t≠27)(h237:t≠237)(h157:t≠157)(h159:t≠159)(h28:t≠28)(h161:t≠161)(h29:t≠29)(h31:t≠31)(h33:t≠33)(h34:t≠34)(h183:t≠183)(h75:t≠75)(h77:t≠77)(h35:t≠35)(h79:t≠79)(h36:t≠36)(h38:t≠38)(h40:t≠40)(h42:t≠42)(h44:t≠44)(h55:t≠55)(h81:t≠81)(h149:t≠149)(h171:t≠171)(h222:t≠222)(h225:t≠225)(h248:t≠248)(h10038:t≠10038):Amp t=0:=by
 unfold Amp;split<;>first|rfl|contradiction
theorem Ajc{t:Nat}(h2:t≠2)(h3:t≠3)(h4:t≠4)(h5:t≠5)(h9:t≠9)(h23:t≠23)(h24:t≠24)(h25:t≠25)(h27:t≠27)(h237:t≠237)(h157:t≠157)(h159:t≠159)(h28:t≠28)(h161:t≠161)(h29:t≠29)(h31:t≠31)(h33:t≠33)(h34:t≠34)(h183:t≠183)(h75:t≠75)(h77:t≠77)(h35:t≠35)(h79:t≠79)(h36:t≠36)(h38:t≠38)(h40:t≠40)(h42:t≠42)(h44:t≠44)(h55:t≠55)(h81:t≠81)(h149:t≠149)(h171:t≠171)(h222:t≠222)(h225:t≠225)(h248:t≠248)(h10038:t≠10038)(x):Amr t x=[]:=by
 unfold Amr;split<;>first|rfl|contradiction
theorem Ajd{t:Nat}(h2:t≠2)(h3:t≠3)(h4:t≠4)(h5:t≠5)(h9:t≠9)(h23:t≠23)(h24:t≠24)(h25:t≠25)(h27:t≠27)(h237:t≠237)(h157:t≠157)(h159:t≠159)(h28:t≠28)(h161:t≠161)(h29:t≠29)(h31:t≠31)(h33:t≠33)(h34:t≠34)(h183:t≠183)(h75:t≠75)(h77:t≠77)(h35:t≠35)(h79:t≠79)(h36:t≠36)(h38:t≠38)(h40:t≠40)(h42:t≠42)(h44:t≠44)(h55:t≠55)(h81:t≠81)(h149:t≠149)(h171:t≠171)(h222:t≠222)(h225:t≠225)(h248:t≠248)(h10038:t≠10038)(x):Ams t x=[]:=by
 unfold Ams;split<;>first|rfl|contradiction
theorem Aje{t:Nat}(h2:t≠2)(h3:t≠3)(h4:t≠4)(h5:t≠5)(h9:t≠9)(h23:t≠23)(h24:t≠24)(h25:t≠25)(h27:t≠27)(h237:t≠237)(h157:t≠157)(h159:t≠159)(h28:t≠28)(h161:t≠161)(h29:t≠29)(h31:t≠31)(h33:t≠33)(h34:t≠34)(h183:t≠183)(h75:t≠75)(h77:t≠77)(h35:t≠35)(h79:t≠79)(h36:t≠36)(h38:t≠38)(h40:t≠40)(h42:t≠42)(h44:t≠44)(h55:t≠55)(h81:t≠81)(h149:t≠149)(h171:t≠171)(h222:t≠222)(h225:t≠225)(h248:t≠248)(h10038:t≠10038)(x):Amt t x=[]:=by
 unfold Amt;split<;>first|rfl|contradiction
theorem Ajf{t:Nat}(h2:t≠2)(h3:t≠3)(h4:t≠4)(h5:t≠5)(h9:t≠9)(h23:t≠23)(h24:t≠24)(h25:t≠25)(h27:t≠27)(h237:t≠237)(h157:t≠157)(h159:t≠159)(h28:t≠28)(h161:t≠161)(h29:t≠29)(h31:t≠31)(h33:t≠33)(h34:t≠34)(h183:t≠183)(h75:t≠75)(h77:t≠77)(h35:t≠35)(h79:t≠79)(h36:t≠36)(h38:t≠38)(h40:t≠40)(h42:t≠42)(h44:t≠44)(h55:t≠55)(h81:t≠81)(h149:t≠149)(h171:t≠171)(h222:t≠222)(h225:t≠225)(h248:t≠248)(h10038:t≠10038)(m)(x):A8 t m x=[]:=by
 unfold A8;split<;>first|rfl|contradiction
theorem Ajg{t:Nat}(h2:t≠2)(h3:t≠3)(h4:t≠4)(h5:t≠5)(h9:t≠9)(h23:t≠23)(h24:t≠24)(h25:t≠25)(h27:t≠27)(h237:t≠237)(h157:t≠157)(h159:t≠159)(h28:t≠28)(h161:t≠161)(h29:t≠29)(h31:t≠31)(h33:t≠33)(h34:t≠34)(h183:t≠183)(h75:t≠75)(h77:t≠77)(h35:t≠35)(h79:t≠79)(h36:t≠36)(h38:t≠38)(h40:t≠40)(h42:t≠42)(h44:t≠44)(h55:t≠55)(h81:t≠81)(h149:t≠149)(h171:t≠171)(h222:t≠222)(h225:t≠225)(h248:t≠248)(h10038:t≠10038)(c):Amz t c=none:=by
 unfold Amz;split<;>first|rfl|contradiction
theorem Ajh{t:Nat}(h2:t≠2)(h3:t≠3)(h4:t≠4)(h5:t≠5)(h9:t≠9)(h23:t≠23)(h24:t≠24)(h25:t≠25)(h27:t≠27)(h237:t≠237)(h157:t≠157)(h159:t≠159)(h28:t≠28)(h161:t≠161)(h29:t≠29)(h31:t≠31)(h33:t≠33)(h34:t≠34)(h183:t≠183)(h75:t≠75)(h77:t≠77)(h35:t≠35)(h79:t≠79)(h36:t≠36)(h38:t≠38)(h40:t≠40)(h42:t≠42)(h44:t≠44)(h55:t≠55)(h81:t≠81)(h149:t≠149)(h171:t≠171)(h222:t≠222)(h225:t≠225)(h248:t≠248)(h10038:t≠10038)(m)(c):Am0 t m c=none:=by
 unfold Am0;split<;>first|rfl|contradiction
theorem df{t:Nat}(h2:t≠2)(h3:t≠3)(h4:t≠4)(h5:t≠5)(h9:t≠9)(h23:t≠23)(h24:t≠24)(h25:t≠25)(h27:t≠27)(h237:t≠237)(h157:t≠157)(h159:t≠159)(h28:t≠28)(h161:t≠161)(h29:t≠29)(h31:t≠31)(h33:t≠33)(h34:t≠34)(h183:t≠183)(h75:t≠75)(h77:t≠77)(h35:t≠35)(h79:t≠79)(h36:t≠36)(h38:t≠38)(h40:t≠40)(h42:t≠42)(h44:t≠44)(h55:t≠55)(h81:t≠81)(h149:t≠149)(h171:t≠171)(h222:t≠222)(h225:t≠225)(h248:t≠248)(h10038:t≠10038):Dft tyU t:=⟨Ajb h2 h3 h4 h5 h9 h23 h24 h25 h27 h237 h157 h159 h28 h161 h29 h31 h33 h34 h183 h75 h77 h35 h79 h36 h38 h40 h42 h44 h55 h81 h149 h171 h222 h225 h248 h10038,Ajc h2 h3 h4 h5 h9 h23 h24 h25 h27 h237 h157 h159 h28 h161 h29 h31 h33 h34 h183 h75 h77 h35 h79 h36 h38 h40 h42 h44 h55 h81 h149 h171 h222 h225 h248 h10038,Ajd h2 h3 h4 h5 h9 h23 h24 h25 h27 h237 h157 h159 h28 h161 h29 h31 h33 h34 h183 h75 h77 h35 h79 h36 h38 h40 h42 h44 h55 h81 h149 h171 h222 h225 h248 h10038,Aje h2 h3 h4 h5 h9 h23 h24 h25 h27 h237 h157 h159 h28 h161 h29 h31 h33 h34 h183 h75 h77 h35 h79 h36 h38 h40 h42 h44 h55 h81 h149 h171 h222 h225 h248 h10038,Ajf h2 h3 h4 h5 h9 h23 h24 h25 h27 h237 h157 h159 h28 h161 h29 h31 h33 h34 h183 h75 h77 h35 h79 h36 h38 h40 h42 h44 h55 h81 h149 h171 h222 h225 h248 h10038,Ajg h2 h3 h4 h5 h9 h23 h24 h25 h27 h237 h157 h159 h28 h161 h29 h31 h33 h34 h183 h75 h77 h35 h79 h36 h38 h40 h42 h44 h55 h81 h149 h171 h222 h225 h248 h10038,Ajh h2 h3 h4 h5 h9 h23 h24 h25 h27 h237 h157 h159 h28 h161 h29 h31 h33 h34 h183 h75 h77 h35 h79 h36 h38 h40 h42 h44 h55 h81 h149 h171 h222 h225 h248 h10038⟩
theorem At2:Ab tyU:=Ab.of fun t=>if h2:t=2 then by subst h2;exact Asg else if h3:t=3 then by subst h3;exact Ash else if h4:t=4 then by subst h4;exact Asi else if h5:t=5 then by subst h5;exact Asj else if h9:t=9 then by subst h9;exact Asl else if h23:t=23 then by subst h23;exact Ap0 else if h24:t=24 then by subst h24;exact Ap1 else if h25:t=25 then by subst h25;exact Ap2 else if h27:t=27 then by subst h27;exact Ap3 else if h237:t=237 then by subst h237;exact Am6 else if h157:t=157 then by subst h157;exact Am7 else if h159:t=159 then by subst h159;exact Am8 else if h28:t=28 then by subst h28;exact Ap4 else if h161:t=161 then by subst h161;exact Ana else if h29:t=29 then by subst h29;exact Ap5 else if h31:t=31 then by subst h31;exact Ap6 else if h33:t=33 then by subst h33;exact Ap7 else if h34:t=34 then by subst h34;exact Ap8 else if h183:t=183 then by subst h183;exact Ang else if h75:t=75 then by subst h75;exact Ap9 else if h77:t=77 then by subst h77;exact Aqa else if h35:t=35 then by subst h35;exact Aqb else if h79:t=79 then by subst h79;exact Aqc else if h36:t=36 then by subst h36;exact Aqd else if h38:t=38 then by subst h38;exact Aqe else if h40:t=40 then by subst h40;exact Aqf else if h42:t=42 then by subst h42;exact Aqg else if h44:t=44 then by subst h44;exact Aqh else if h55:t=55 then by subst h55;exact Aqi else if h81:t=81 then by subst h81;exact Aqj else if h149:t=149 then by subst h149;exact Anv else if h171:t=171 then by subst h171;exact Anw else if h222:t=222 then by subst h222;exact Anx else if h225:t=225 then by subst h225;exact Anz else if h248:t=248 then by subst h248;exact An0 else if h10038:t=10038 then by subst h10038;exact Agt else(df h2 h3 h4 h5 h9 h23 h24 h25 h27 h237 h157 h159 h28 h161 h29 h31 h33 h34 h183 h75 h77 h35 h79 h36 h38 h40 h42 h44 h55 h81 h149 h171 h222 h225 h248 h10038).un1
def eqs:List Nat:=[23,237,33,183,40,42]
theorem As4:Adr Tryz.prog tab (eqT eqs):=Ais (by kernel_rfl)
end Go.Proofs.YtgcnddnmhllahaaGreat
