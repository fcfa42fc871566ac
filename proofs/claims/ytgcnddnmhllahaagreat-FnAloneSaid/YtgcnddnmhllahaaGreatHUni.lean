/- The types of the seat; no condition. Printed by uni.py. -/
import Derived.Test.YtgcnddnmhllahaaGreatGc
import Derived.Test.YtgcnddnmhllahaaGreatHTab
set_option linter.all false
namespace Go.Proofs.YtgcnddnmhllahaaGreat
open Go.Eng
structure Fh where
 Ad:Int
 Du:Int
 Cd:Int
 Ez:Int
 Ce:Int
 Dv:Int
 deriving Inhabited
structure Ee where
 Fp:List Int
 G4:List Int
 Fq:List Int
 deriving Inhabited
structure Bl where
 fAt:Int
 Yg:Int
 Yh:Int
 deriving Inhabited
structure Bm where
 G4:Int
 C7:Int
 Nb:Int
 fUp:Int
 G5:Int
 Bz:Int
 G6:Int
 G7:Int
 Ad:List Int
 No:Int
 G8:Int
 D5:List Bl
 Dh:List Int
 deriving Inhabited
structure Ba where
 Be:Int
 Bz:Int
 Dh:List Int
 Ad:List Int
 H2:Int
 deriving Inhabited
structure E0 where
 fC:Fh
 fP:Ee
 fL:List Bm
 fQ:List Ba
 Jp:List Int
 deriving Inhabited
structure Fi where
 Ad:Int
 Du:Int
 Cd:Int
 Ez:Int
 Ce:Int
 Dv:Int
 deriving Inhabited
structure Ef where
 Fp:List Int
 G4:List Int
 Fq:List Int
 deriving Inhabited
structure Bn where
 fAt:Int
 Yg:Int
 Yh:Int
 deriving Inhabited
structure Az where
 G4:Int
 C7:Int
 Nb:Int
 fUp:Int
 G5:Int
 Bz:Int
 G6:Int
 G7:Int
 Ad:List Int
 No:Int
 G8:Int
 D5:List Bn
 Dh:List Int
 deriving Inhabited
structure Bb where
 Be:Int
 Bz:Int
 Dh:List Int
 Ad:List Int
 H2:Int
 deriving Inhabited
structure Bo where
 fC:Fi
 fP:Ef
 fL:List Az
 fQ:List Bb
 Jp:List Int
 deriving Inhabited
structure Ch where
 Be:Int
 C7:Int
 deriving Inhabited
structure Fb where
 fH:Ch
 Nb:Int
 fNo:Int
 deriving Inhabited
structure F8 where
 Aab:Int
 fH:Ch
 fR:Fb
 fB:List Int
 Aac:Int
 Ez:Int
 R2:Int
 deriving Inhabited
structure Di where
 Aad:Int
 fH:Ch
 fR:Fb
 fN:Int
 fM:Int
 fB:List Int
 deriving Inhabited
structure E2 where
 fb:List Int
 fi:Int
 fh:Int
 deriving Inhabited
def Ac (x:Int):List V:=[.int .i64 x]
theorem Aj:En Ac 1:=⟨fun _=>rfl,fun _=>rfl,fun _=>rfl,fun x=>rfl⟩
theorem Vl:Fv Ac Ac 1:=⟨Aj.len,Aj.closed,Aj.share⟩
def Cf (x:Bool):List V:=[.bool x]
theorem Cz:En Cf 1:=⟨fun _=>rfl,fun _=>rfl,fun _=>rfl,fun x=>rfl⟩
theorem R3:Fv Cf Cf 1:=⟨Cz.len,Cz.closed,Cz.share⟩
def Bp (x:Int):List V:=[.int .u8 x]
theorem A5:En Bp 1:=⟨fun _=>rfl,fun _=>rfl,fun _=>rfl,fun x=>rfl⟩
theorem Ajr:Fv Bp Bp 1:=⟨A5.len,A5.closed,A5.share⟩
def E4 (x:ByteArray):List V:=[.str x]
theorem Fj:En E4 1:=⟨fun _=>rfl,fun _=>rfl,fun _=>rfl,fun x=>rfl⟩
theorem Vm:Fv E4 E4 1:=⟨Fj.len,Fj.closed,Fj.share⟩
def C0 (x:Fh):List V:=[.int .i64 x.Ad,.int .i64 x.Du,.int .i64 x.Cd,.int .i64 x.Ez,.int .i64 x.Ce,.int .i64 x.Dv]
theorem Dw:En C0 6:=⟨fun _=>rfl,fun _=>rfl,fun _=>rfl,fun x=>rfl⟩
theorem Mi:Fv C0 C0 6:=⟨Dw.len,Dw.closed,Dw.share⟩
def Jq (x:List Int):List V:=[.row false 1 (x.map Bp)]
theorem Af7:En Jq 1:=⟨fun _=>rfl,fun _=>rfl,fun _=>rfl,fun x=>by simp only[Jq,Ae,V.share,A5.shareLL]⟩
def Mj (x:List Int):List V:=[.row true 1 (x.map Bp)]
theorem Af8:Fv Mj Jq 1:=⟨fun _=>rfl,fun _=>rfl,fun x=>by simp only[Mj,Jq,Ae,V.share,A5.shareLL]⟩
def Gs (x:List Int):List V:=[.row false 1 (x.map Ac)]
theorem Ab5:En Gs 1:=⟨fun _=>rfl,fun _=>rfl,fun _=>rfl,fun x=>by simp only[Gs,Ae,V.share,Aj.shareLL]⟩
def H3 (x:List Int):List V:=[.row true 1 (x.map Ac)]
theorem Ab6:Fv H3 Gs 1:=⟨fun _=>rfl,fun _=>rfl,fun x=>by simp only[H3,Gs,Ae,V.share,Aj.shareLL]⟩
def C1 (x:Ee):List V:=[.row false 1 (x.Fp.map Bp),.row false 1 (x.G4.map Ac),.row false 1 (x.Fq.map Ac)]
theorem Mk:En C1 3:=⟨fun _=>rfl,fun _=>rfl,fun _=>rfl,fun x=>by simp only[C1,Ae,V.share,A5.shareLL,Aj.shareLL]⟩
def Dx (x:Ee):List V:=[.row true 1 (x.Fp.map Bp),.row true 1 (x.G4.map Ac),.row true 1 (x.Fq.map Ac)]
theorem Ml:Fv Dx C1 3:=⟨fun _=>rfl,fun _=>rfl,fun x=>by simp only[Dx,C1,Ae,V.share,A5.shareLL,Aj.shareLL]⟩
def An (x:Bl):List V:=[.int .i64 x.fAt,.int .i64 x.Yg,.int .i64 x.Yh]
theorem Av:En An 3:=⟨fun _=>rfl,fun _=>rfl,fun _=>rfl,fun x=>rfl⟩
theorem J7:Fv An An 3:=⟨Av.len,Av.closed,Av.share⟩
def B5 (x:List Bl):List V:=[.row false 3 (x.map An)]
theorem Jr:En B5 1:=⟨fun _=>rfl,fun _=>rfl,fun _=>rfl,fun x=>by simp only[B5,Ae,V.share,Av.shareLL]⟩
def Cr (x:List Bl):List V:=[.row true 3 (x.map An)]
theorem Js:Fv Cr B5 1:=⟨fun _=>rfl,fun _=>rfl,fun x=>by simp only[Cr,B5,Ae,V.share,Av.shareLL]⟩
def Bq (x:Bm):List V:=[.int .i64 x.G4,.int .i64 x.C7,.int .i64 x.Nb,.int .i64 x.fUp,.int .i64 x.G5,.int .i64 x.Bz,.int .i64 x.G6,.int .i64 x.G7,.row false 1 (x.Ad.map Ac),.int .i64 x.No,.int .i64 x.G8,.row false 3 (x.D5.map An),.row false 1 (x.Dh.map Ac)]
theorem Fc:En Bq 13:=⟨fun _=>rfl,fun _=>rfl,fun _=>rfl,fun x=>by simp only[Bq,Ae,V.share,Aj.shareLL,Av.shareLL]⟩
def Cg (x:Bm):List V:=[.int .i64 x.G4,.int .i64 x.C7,.int .i64 x.Nb,.int .i64 x.fUp,.int .i64 x.G5,.int .i64 x.Bz,.int .i64 x.G6,.int .i64 x.G7,.row true 1 (x.Ad.map Ac),.int .i64 x.No,.int .i64 x.G8,.row true 3 (x.D5.map An),.row true 1 (x.Dh.map Ac)]
theorem Fe:Fv Cg Bq 13:=⟨fun _=>rfl,fun _=>rfl,fun x=>by simp only[Cg,Bq,Ae,V.share,Aj.shareLL,Av.shareLL]⟩
def Ci (x:List Bm):List V:=[.row false 13 (x.map Bq)]
theorem J8:En Ci 1:=⟨fun _=>rfl,fun _=>rfl,fun _=>rfl,fun x=>by simp only[Ci,Ae,V.share,Fc.shareLL]⟩
def Da (x:List Bm):List V:=[.row true 13 (x.map Cg)]
theorem J9:Fv Da Ci 1:=⟨fun _=>rfl,fun _=>rfl,fun x=>by simp only[Da,Ci,Ae,V.share,Fe.shareLL]⟩
def Bf (x:Ba):List V:=[.int .i64 x.Be,.int .i64 x.Bz,.row false 1 (x.Dh.map Ac),.row false 1 (x.Ad.map Ac),.int .i64 x.H2]
theorem Em:En Bf 5:=⟨fun _=>rfl,fun _=>rfl,fun _=>rfl,fun x=>by simp only[Bf,Ae,V.share,Aj.shareLL]⟩
def Bu (x:Ba):List V:=[.int .i64 x.Be,.int .i64 x.Bz,.row true 1 (x.Dh.map Ac),.row true 1 (x.Ad.map Ac),.int .i64 x.H2]
theorem Eo:Fv Bu Bf 5:=⟨fun _=>rfl,fun _=>rfl,fun x=>by simp only[Bu,Bf,Ae,V.share,Aj.shareLL]⟩
def B6 (x:List Ba):List V:=[.row false 5 (x.map Bf)]
theorem Jt:En B6 1:=⟨fun _=>rfl,fun _=>rfl,fun _=>rfl,fun x=>by simp only[B6,Ae,V.share,Em.shareLL]⟩
def Ct (x:List Ba):List V:=[.row true 5 (x.map Bu)]
theorem Ju:Fv Ct B6 1:=⟨fun _=>rfl,fun _=>rfl,fun x=>by simp only[Ct,B6,Ae,V.share,Eo.shareLL]⟩
def Cj (x:E0):List V:=[.int .i64 x.fC.Ad,.int .i64 x.fC.Du,.int .i64 x.fC.Cd,.int .i64 x.fC.Ez,.int .i64 x.fC.Ce,.int .i64 x.fC.Dv,.row false 1 (x.fP.Fp.map Bp),.row false 1 (x.fP.G4.map Ac),.row false 1 (x.fP.Fq.map Ac),.row false 13 (x.fL.map Bq),.row false 5 (x.fQ.map Bf),.row false 1 (x.Jp.map Ac)]
theorem Ka:En Cj 12:=⟨fun _=>rfl,fun _=>rfl,fun _=>rfl,fun x=>by simp only[Cj,Ae,V.share,A5.shareLL,Aj.shareLL,Fc.shareLL,Em.shareLL]⟩
def Db (x:E0):List V:=[.int .i64 x.fC.Ad,.int .i64 x.fC.Du,.int .i64 x.fC.Cd,.int .i64 x.fC.Ez,.int .i64 x.fC.Ce,.int .i64 x.fC.Dv,.row true 1 (x.fP.Fp.map Bp),.row true 1 (x.fP.G4.map Ac),.row true 1 (x.fP.Fq.map Ac),.row true 13 (x.fL.map Cg),.row true 5 (x.fQ.map Bu),.row true 1 (x.Jp.map Ac)]
theorem Kb:Fv Db Cj 12:=⟨fun _=>rfl,fun _=>rfl,fun x=>by simp only[Db,Cj,Ae,V.share,A5.shareLL,Aj.shareLL,Fe.shareLL,Eo.shareLL]⟩
def C2 (x:Fi):List V:=[.int .i64 x.Ad,.int .i64 x.Du,.int .i64 x.Cd,.int .i64 x.Ez,.int .i64 x.Ce,.int .i64 x.Dv]
theorem Dy:En C2 6:=⟨fun _=>rfl,fun _=>rfl,fun _=>rfl,fun x=>rfl⟩
theorem Mm:Fv C2 C2 6:=⟨Dy.len,Dy.closed,Dy.share⟩
def C3 (x:Ef):List V:=[.row false 1 (x.Fp.map Bp),.row false 1 (x.G4.map Ac),.row false 1 (x.Fq.map Ac)]
theorem Mn:En C3 3:=⟨fun _=>rfl,fun _=>rfl,fun _=>rfl,fun x=>by simp only[C3,Ae,V.share,A5.shareLL,Aj.shareLL]⟩
def Dz (x:Ef):List V:=[.row true 1 (x.Fp.map Bp),.row true 1 (x.G4.map Ac),.row true 1 (x.Fq.map Ac)]
theorem Mo:Fv Dz C3 3:=⟨fun _=>rfl,fun _=>rfl,fun x=>by simp only[Dz,C3,Ae,V.share,A5.shareLL,Aj.shareLL]⟩
def Ar (x:Bn):List V:=[.int .i64 x.fAt,.int .i64 x.Yg,.int .i64 x.Yh]
theorem Aw:En Ar 3:=⟨fun _=>rfl,fun _=>rfl,fun _=>rfl,fun x=>rfl⟩
theorem Kc:Fv Ar Ar 3:=⟨Aw.len,Aw.closed,Aw.share⟩
def B7 (x:List Bn):List V:=[.row false 3 (x.map Ar)]
theorem Jv:En B7 1:=⟨fun _=>rfl,fun _=>rfl,fun _=>rfl,fun x=>by simp only[B7,Ae,V.share,Aw.shareLL]⟩
def Cv (x:List Bn):List V:=[.row true 3 (x.map Ar)]
theorem Jw:Fv Cv B7 1:=⟨fun _=>rfl,fun _=>rfl,fun x=>by simp only[Cv,B7,Ae,V.share,Aw.shareLL]⟩
def Br (x:Az):List V:=[.int .i64 x.G4,.int .i64 x.C7,.int .i64 x.Nb,.int .i64 x.fUp,.int .i64 x.G5,.int .i64 x.Bz,.int .i64 x.G6,.int .i64 x.G7,.row false 1 (x.Ad.map Ac),.int .i64 x.No,.int .i64 x.G8,.row false 3 (x.D5.map Ar),.row false 1 (x.Dh.map Ac)]
theorem Ff:En Br 13:=⟨fun _=>rfl,fun _=>rfl,fun _=>rfl,fun x=>by simp only[Br,Ae,V.share,Aj.shareLL,Aw.shareLL]⟩
def C4 (x:Az):List V:=[.int .i64 x.G4,.int .i64 x.C7,.int .i64 x.Nb,.int .i64 x.fUp,.int .i64 x.G5,.int .i64 x.Bz,.int .i64 x.G6,.int .i64 x.G7,.row false 1 (x.Ad.map Ac),.int .i64 x.No,.int .i64 x.G8,.row true 3 (x.D5.map Ar),.row true 1 (x.Dh.map Ac)]
theorem Fg:Fv C4 Br 13:=⟨fun _=>rfl,fun _=>rfl,fun x=>by simp only[C4,Br,Ae,V.share,Aj.shareLL,Aw.shareLL]⟩
def Cl (x:List Az):List V:=[.row false 13 (x.map Br)]
theorem Kd:En Cl 1:=⟨fun _=>rfl,fun _=>rfl,fun _=>rfl,fun x=>by simp only[Cl,Ae,V.share,Ff.shareLL]⟩
def D6 (x:List Az):List V:=[.row true 13 (x.map C4)]
theorem Ke:Fv D6 Cl 1:=⟨fun _=>rfl,fun _=>rfl,fun x=>by simp only[D6,Cl,Ae,V.share,Fg.shareLL]⟩
def Bg (x:Bb):List V:=[.int .i64 x.Be,.int .i64 x.Bz,.row false 1 (x.Dh.map Ac),.row false 1 (x.Ad.map Ac),.int .i64 x.H2]
theorem Ep:En Bg 5:=⟨fun _=>rfl,fun _=>rfl,fun _=>rfl,fun x=>by simp only[Bg,Ae,V.share,Aj.shareLL]⟩
def Bv (x:Bb):List V:=[.int .i64 x.Be,.int .i64 x.Bz,.row true 1 (x.Dh.map Ac),.row true 1 (x.Ad.map Ac),.int .i64 x.H2]
theorem Er:Fv Bv Bg 5:=⟨fun _=>rfl,fun _=>rfl,fun x=>by simp only[Bv,Bg,Ae,V.share,Aj.shareLL]⟩
def B8 (x:List Bb):List V:=[.row false 5 (x.map Bg)]
theorem Jx:En B8 1:=⟨fun _=>rfl,fun _=>rfl,fun _=>rfl,fun x=>by simp only[B8,Ae,V.share,Ep.shareLL]⟩
def Cw (x:List Bb):List V:=[.row true 5 (x.map Bv)]
theorem Jy:Fv Cw B8 1:=⟨fun _=>rfl,fun _=>rfl,fun x=>by simp only[Cw,B8,Ae,V.share,Er.shareLL]⟩
def Bh (x:Bo):List V:=[.int .i64 x.fC.Ad,.int .i64 x.fC.Du,.int .i64 x.fC.Cd,.int .i64 x.fC.Ez,.int .i64 x.fC.Ce,.int .i64 x.fC.Dv,.row false 1 (x.fP.Fp.map Bp),.row false 1 (x.fP.G4.map Ac),.row false 1 (x.fP.Fq.map Ac),.row false 13 (x.fL.map Br),.row false 5 (x.fQ.map Bg),.row false 1 (x.Jp.map Ac)]
theorem Ge:En Bh 12:=⟨fun _=>rfl,fun _=>rfl,fun _=>rfl,fun x=>by simp only[Bh,Ae,V.share,A5.shareLL,Aj.shareLL,Ff.shareLL,Ep.shareLL]⟩
def Cm (x:Bo):List V:=[.int .i64 x.fC.Ad,.int .i64 x.fC.Du,.int .i64 x.fC.Cd,.int .i64 x.fC.Ez,.int .i64 x.fC.Ce,.int .i64 x.fC.Dv,.row true 1 (x.fP.Fp.map Bp),.row true 1 (x.fP.G4.map Ac),.row true 1 (x.fP.Fq.map Ac),.row true 13 (x.fL.map C4),.row true 5 (x.fQ.map Bv),.row true 1 (x.Jp.map Ac)]
theorem Gf:Fv Cm Bh 12:=⟨fun _=>rfl,fun _=>rfl,fun x=>by simp only[Cm,Bh,Ae,V.share,A5.shareLL,Aj.shareLL,Fg.shareLL,Er.shareLL]⟩
def B9 (x:Ch):List V:=[.int .i64 x.Be,.int .i64 x.C7]
theorem C5:En B9 2:=⟨fun _=>rfl,fun _=>rfl,fun _=>rfl,fun x=>rfl⟩
theorem Jz:Fv B9 B9 2:=⟨C5.len,C5.closed,C5.share⟩
def Dj (x:Fb):List V:=[.int .i64 x.fH.Be,.int .i64 x.fH.C7,.int .i64 x.Nb,.int .i64 x.fNo]
theorem D7:En Dj 4:=⟨fun _=>rfl,fun _=>rfl,fun _=>rfl,fun x=>rfl⟩
theorem Np:Fv Dj Dj 4:=⟨D7.len,D7.closed,D7.share⟩
def Dk (x:F8):List V:=[.int .i64 x.Aab,.int .i64 x.fH.Be,.int .i64 x.fH.C7,.int .i64 x.fR.fH.Be,.int .i64 x.fR.fH.C7,.int .i64 x.fR.Nb,.int .i64 x.fR.fNo,.row false 1 (x.fB.map Bp),.int .i64 x.Aac,.int .i64 x.Ez,.int .i64 x.R2]
theorem Nq:En Dk 11:=⟨fun _=>rfl,fun _=>rfl,fun _=>rfl,fun x=>by simp only[Dk,Ae,V.share,A5.shareLL]⟩
def Eg (x:F8):List V:=[.int .i64 x.Aab,.int .i64 x.fH.Be,.int .i64 x.fH.C7,.int .i64 x.fR.fH.Be,.int .i64 x.fR.fH.C7,.int .i64 x.fR.Nb,.int .i64 x.fR.fNo,.row true 1 (x.fB.map Bp),.int .i64 x.Aac,.int .i64 x.Ez,.int .i64 x.R2]
theorem Nr:Fv Eg Dk 11:=⟨fun _=>rfl,fun _=>rfl,fun x=>by simp only[Eg,Dk,Ae,V.share,A5.shareLL]⟩
def Df (x:Di):List V:=[.int .i64 x.Aad,.int .i64 x.fH.Be,.int .i64 x.fH.C7,.int .i64 x.fR.fH.Be,.int .i64 x.fR.fH.C7,.int .i64 x.fR.Nb,.int .i64 x.fR.fNo,.int .i64 x.fN,.int .i64 x.fM,.row false 1 (x.fB.map Bp)]
theorem H4:En Df 10:=⟨fun _=>rfl,fun _=>rfl,fun _=>rfl,fun x=>by simp only[Df,Ae,V.share,A5.shareLL]⟩
def D3 (x:Di):List V:=[.int .i64 x.Aad,.int .i64 x.fH.Be,.int .i64 x.fH.C7,.int .i64 x.fR.fH.Be,.int .i64 x.fR.fH.C7,.int .i64 x.fR.Nb,.int .i64 x.fR.fNo,.int .i64 x.fN,.int .i64 x.fM,.row true 1 (x.fB.map Bp)]
theorem H5:Fv D3 Df 10:=⟨fun _=>rfl,fun _=>rfl,fun x=>by simp only[D3,Df,Ae,V.share,A5.shareLL]⟩
def Dl (x:List Di):List V:=[.row false 10 (x.map Df)]
theorem Ns:En Dl 1:=⟨fun _=>rfl,fun _=>rfl,fun _=>rfl,fun x=>by simp only[Dl,Ae,V.share,H4.shareLL]⟩
def Eh (x:List Di):List V:=[.row true 10 (x.map D3)]
theorem Nt:Fv Eh Dl 1:=⟨fun _=>rfl,fun _=>rfl,fun x=>by simp only[Eh,Dl,Ae,V.share,H5.shareLL]⟩
def Dm (x:List Bool):List V:=[.row false 1 (x.map Cf)]
theorem Nu:En Dm 1:=⟨fun _=>rfl,fun _=>rfl,fun _=>rfl,fun x=>by simp only[Dm,Ae,V.share,Cz.shareLL]⟩
def Ei (x:List Bool):List V:=[.row true 1 (x.map Cf)]
theorem Nv:Fv Ei Dm 1:=⟨fun _=>rfl,fun _=>rfl,fun x=>by simp only[Ei,Dm,Ae,V.share,Cz.shareLL]⟩
def Co (x:E2):List V:=[.row false 1 (x.fb.map Bp),.int .i64 x.fi,.int .i64 x.fh]
theorem Kf:En Co 3:=⟨fun _=>rfl,fun _=>rfl,fun _=>rfl,fun x=>by simp only[Co,Ae,V.share,A5.shareLL]⟩
def Dc (x:E2):List V:=[.row true 1 (x.fb.map Bp),.int .i64 x.fi,.int .i64 x.fh]
theorem Kg:Fv Dc Co 3:=⟨fun _=>rfl,fun _=>rfl,fun x=>by simp only[Dc,Co,Ae,V.share,A5.shareLL]⟩
def F9 (x:Int):List V:=[.int .u64 x]
theorem Gn:En F9 1:=⟨fun _=>rfl,fun _=>rfl,fun _=>rfl,fun x=>rfl⟩
theorem Vn:Fv F9 F9 1:=⟨Gn.len,Gn.closed,Gn.share⟩
def J0 (x:Int):List V:=[.int .u32 x]
theorem H6:En J0 1:=⟨fun _=>rfl,fun _=>rfl,fun _=>rfl,fun x=>rfl⟩
theorem Af9:Fv J0 J0 1:=⟨H6.len,H6.closed,H6.share⟩
def Ag:Nat->Type
 |2=>Int
 |3=>Int
 |4=>Bool
 |5=>Int
 |9=>ByteArray
 |23=>Fh
 |24=>List Int
 |25=>List Int
 |27=>Ee
 |237=>Bl
 |157=>List Bl
 |159=>Bm
 |28=>List Bm
 |161=>Ba
 |29=>List Ba
 |31=>E0
 |33=>Fi
 |34=>Ef
 |183=>Bn
 |75=>List Bn
 |77=>Az
 |35=>List Az
 |79=>Bb
 |36=>List Bb
 |38=>Bo
 |40=>Ch
 |42=>Fb
 |44=>F8
 |55=>Di
 |81=>List Di
 |149=>List Bool
 |171=>E2
 |222=>Int
 |225=>Int
 |248=>Int
 |10038=>Bo
 |_=>Unit
abbrev Aqu:(t:Nat)->Inhabited (Ag t)
 |2=>(inferInstance:Inhabited Int)
 |3=>(inferInstance:Inhabited Int)
 |4=>(inferInstance:Inhabited Bool)
 |5=>(inferInstance:Inhabited Int)
 |9=>(inferInstance:Inhabited ByteArray)
 |23=>(inferInstance:Inhabited Fh)
 |24=>(inferInstance:Inhabited (List Int))
 |25=>(inferInstance:Inhabited (List Int))
 |27=>(inferInstance:Inhabited Ee)
 |237=>(inferInstance:Inhabited Bl)
 |157=>(inferInstance:Inhabited (List Bl))
 |159=>(inferInstance:Inhabited Bm)
 |28=>(inferInstance:Inhabited (List Bm))
 |161=>(inferInstance:Inhabited Ba)
 |29=>(inferInstance:Inhabited (List Ba))
 |31=>(inferInstance:Inhabited E0)
 |33=>(inferInstance:Inhabited Fi)
 |34=>(inferInstance:Inhabited Ef)
 |183=>(inferInstance:Inhabited Bn)
 |75=>(inferInstance:Inhabited (List Bn))
 |77=>(inferInstance:Inhabited Az)
 |35=>(inferInstance:Inhabited (List Az))
 |79=>(inferInstance:Inhabited Bb)
 |36=>(inferInstance:Inhabited (List Bb))
 |38=>(inferInstance:Inhabited Bo)
 |40=>(inferInstance:Inhabited Ch)
 |42=>(inferInstance:Inhabited Fb)
 |44=>(inferInstance:Inhabited F8)
 |55=>(inferInstance:Inhabited Di)
 |81=>(inferInstance:Inhabited (List Di))
 |149=>(inferInstance:Inhabited (List Bool))
 |171=>(inferInstance:Inhabited E2)
 |222=>(inferInstance:Inhabited Int)
 |225=>(inferInstance:Inhabited Int)
 |248=>(inferInstance:Inhabited Int)
 |10038=>(inferInstance:Inhabited Bo)
 |_=>(by unfold Ag;split<;>infer_instance)
def Anl:Nat->Nat
 |2=>1
 |3=>1
 |4=>1
 |5=>1
 |9=>1
 |23=>6
 |24=>1
 |25=>1
 |27=>3
 |237=>3
 |157=>1
 |159=>13
 |28=>1
 |161=>5
 |29=>1
 |31=>12
 |33=>6
 |34=>3
 |183=>3
 |75=>1
 |77=>13
 |35=>1
 |79=>5
 |36=>1
 |38=>12
 |40=>2
 |42=>4
 |44=>11
 |55=>10
 |81=>1
 |149=>1
 |171=>3
 |222=>1
 |225=>1
 |248=>1
 |10038=>12
 |_=>0
def Anm:Nat->Bool
 |2=>true
 |3=>true
 |4=>true
 |5=>true
 |9=>true
 |23=>true
 |24=>false
 |25=>false
 |27=>false
 |237=>true
 |157=>false
 |159=>false
 |28=>false
 |161=>false
 |29=>false
 |31=>false
 |33=>true
 |34=>false
 |183=>true
 |75=>false
 |77=>false
 |35=>false
 |79=>false
 |36=>false
 |38=>false
 |40=>true
 |42=>true
 |44=>false
 |55=>false
 |81=>false
 |149=>false
 |171=>false
 |222=>true
 |225=>true
 |248=>true
 |10038=>false
 |_=>true
def Ats:Nat->Bool
 |2=>false
 |3=>false
 |4=>false
 |5=>false
 |9=>false
 |23=>true
 |24=>false
 |25=>false
 |27=>true
 |237=>true
 |157=>false
 |159=>true
 |28=>false
 |161=>true
 |29=>false
 |31=>true
 |33=>true
 |34=>true
 |183=>true
 |75=>false
 |77=>true
 |35=>false
 |79=>true
 |36=>false
 |38=>true
 |40=>true
 |42=>true
 |44=>true
 |55=>true
 |81=>false
 |149=>false
 |171=>true
 |222=>false
 |225=>false
 |248=>false
 |10038=>true
 |_=>false
def Ann:(t:Nat)->Ag t->List V
 |2,x=>Ac x
 |3,x=>Ac x
 |4,x=>Cf x
 |5,x=>Bp x
 |9,x=>E4 x
 |23,x=>C0 x
 |24,x=>Jq x
 |25,x=>Gs x
 |27,x=>C1 x
 |237,x=>An x
 |157,x=>B5 x
 |159,x=>Bq x
 |28,x=>Ci x
 |161,x=>Bf x
 |29,x=>B6 x
 |31,x=>Cj x
 |33,x=>C2 x
 |34,x=>C3 x
 |183,x=>Ar x
 |75,x=>B7 x
 |77,x=>Br x
 |35,x=>Cl x
 |79,x=>Bg x
 |36,x=>B8 x
 |38,x=>Bh x
 |40,x=>B9 x
 |42,x=>Dj x
 |44,x=>Dk x
 |55,x=>Df x
 |81,x=>Dl x
 |149,x=>Dm x
 |171,x=>Co x
 |222,x=>F9 x
 |225,x=>F9 x
 |248,x=>J0 x
 |10038,x=>Bh x
 |_,_=>[]
def Ano:(t:Nat)->Ag t->List V
 |2,x=>Ac x
 |3,x=>Ac x
 |4,x=>Cf x
 |5,x=>Bp x
 |9,x=>E4 x
 |23,x=>C0 x
 |24,x=>Mj x
 |25,x=>H3 x
 |27,x=>Dx x
 |237,x=>An x
 |157,x=>Cr x
 |159,x=>Cg x
 |28,x=>Da x
 |161,x=>Bu x
 |29,x=>Ct x
 |31,x=>Db x
 |33,x=>C2 x
 |34,x=>Dz x
 |183,x=>Ar x
 |75,x=>Cv x
 |77,x=>C4 x
 |35,x=>D6 x
 |79,x=>Bv x
 |36,x=>Cw x
 |38,x=>Cm x
 |40,x=>B9 x
 |42,x=>Dj x
 |44,x=>Eg x
 |55,x=>D3 x
 |81,x=>Eh x
 |149,x=>Ei x
 |171,x=>Dc x
 |222,x=>F9 x
 |225,x=>F9 x
 |248,x=>J0 x
 |10038,x=>Cm x
 |_,_=>[]
def Anp:(t:Nat)->Ag t->List (SV Ag)
 |2,x=>[.int .i64 x 0]
 |3,x=>[.int .i64 x 0]
 |4,x=>[.bool x]
 |5,x=>[.int .u8 x 0]
 |9,x=>[.str x]
 |23,x=>[.int .i64 x.Ad 0,.int .i64 x.Du 0,.int .i64 x.Cd 0,.int .i64 x.Ez 0,.int .i64 x.Ce 0,.int .i64 x.Dv 0]
 |24,x=>[.row 5 x]
 |25,x=>[.row 3 x]
 |27,x=>[.row 5 x.Fp,.row 3 x.G4,.row 3 x.Fq]
 |237,x=>[.int .i64 x.fAt 0,.int .i64 x.Yg 0,.int .i64 x.Yh 0]
 |157,x=>[.row 237 x]
 |159,x=>[.int .i64 x.G4 0,.int .i64 x.C7 0,.int .i64 x.Nb 0,.int .i64 x.fUp 0,.int .i64 x.G5 0,.int .i64 x.Bz 0,.int .i64 x.G6 0,.int .i64 x.G7 0,.row 3 x.Ad,.int .i64 x.No 0,.int .i64 x.G8 0,.row 237 x.D5,.row 3 x.Dh]
 |28,x=>[.row 159 x]
 |161,x=>[.int .i64 x.Be 0,.int .i64 x.Bz 0,.row 3 x.Dh,.row 3 x.Ad,.int .i64 x.H2 0]
 |29,x=>[.row 161 x]
 |31,x=>[.int .i64 x.fC.Ad 0,.int .i64 x.fC.Du 0,.int .i64 x.fC.Cd 0,.int .i64 x.fC.Ez 0,.int .i64 x.fC.Ce 0,.int .i64 x.fC.Dv 0,.row 5 x.fP.Fp,.row 3 x.fP.G4,.row 3 x.fP.Fq,.row 159 x.fL,.row 161 x.fQ,.row 3 x.Jp]
 |33,x=>[.int .i64 x.Ad 0,.int .i64 x.Du 0,.int .i64 x.Cd 0,.int .i64 x.Ez 0,.int .i64 x.Ce 0,.int .i64 x.Dv 0]
 |34,x=>[.row 5 x.Fp,.row 3 x.G4,.row 3 x.Fq]
 |183,x=>[.int .i64 x.fAt 0,.int .i64 x.Yg 0,.int .i64 x.Yh 0]
 |75,x=>[.row 183 x]
 |77,x=>[.int .i64 x.G4 0,.int .i64 x.C7 0,.int .i64 x.Nb 0,.int .i64 x.fUp 0,.int .i64 x.G5 0,.int .i64 x.Bz 0,.int .i64 x.G6 0,.int .i64 x.G7 0,.row 3 x.Ad,.int .i64 x.No 0,.int .i64 x.G8 0,.row 183 x.D5,.row 3 x.Dh]
 |35,x=>[.row 77 x]
 |79,x=>[.int .i64 x.Be 0,.int .i64 x.Bz 0,.row 3 x.Dh,.row 3 x.Ad,.int .i64 x.H2 0]
 |36,x=>[.row 79 x]
 |38,x=>[.int .i64 x.fC.Ad 0,.int .i64 x.fC.Du 0,.int .i64 x.fC.Cd 0,.int .i64 x.fC.Ez 0,.int .i64 x.fC.Ce 0,.int .i64 x.fC.Dv 0,.row 5 x.fP.Fp,.row 3 x.fP.G4,.row 3 x.fP.Fq,.row 77 x.fL,.row 79 x.fQ,.row 3 x.Jp]
 |40,x=>[.int .i64 x.Be 0,.int .i64 x.C7 0]
 |42,x=>[.int .i64 x.fH.Be 0,.int .i64 x.fH.C7 0,.int .i64 x.Nb 0,.int .i64 x.fNo 0]
 |44,x=>[.int .i64 x.Aab 0,.int .i64 x.fH.Be 0,.int .i64 x.fH.C7 0,.int .i64 x.fR.fH.Be 0,.int .i64 x.fR.fH.C7 0,.int .i64 x.fR.Nb 0,.int .i64 x.fR.fNo 0,.row 5 x.fB,.int .i64 x.Aac 0,.int .i64 x.Ez 0,.int .i64 x.R2 0]
 |55,x=>[.int .i64 x.Aad 0,.int .i64 x.fH.Be 0,.int .i64 x.fH.C7 0,.int .i64 x.fR.fH.Be 0,.int .i64 x.fR.fH.C7 0,.int .i64 x.fR.Nb 0,.int .i64 x.fR.fNo 0,.int .i64 x.fN 0,.int .i64 x.fM 0,.row 5 x.fB]
 |81,x=>[.row 55 x]
 |149,x=>[.row 4 x]
 |171,x=>[.row 5 x.fb,.int .i64 x.fi 0,.int .i64 x.fh 0]
 |222,x=>[.int .u64 x 0]
 |225,x=>[.int .u64 x 0]
 |248,x=>[.int .u32 x 0]
 |10038,x=>[.int .i64 x.fC.Ad 0,.int .i64 x.fC.Du 0,.int .i64 x.fC.Cd 0,.int .i64 x.fC.Ez 0,.int .i64 x.fC.Ce 0,.int .i64 x.fC.Dv 0,.row 5 x.fP.Fp,.row 3 x.fP.G4,.row 3 x.fP.Fq,.row 77 x.fL,.row 79 x.fQ,.row 3 x.Jp]
 |_,_=>[]
def Bc:(t:Nat)->Bool->Ag t->List (SV Ag)
 |2,m,x=>[.int .i64 x 0]
 |3,m,x=>[.int .i64 x 0]
 |4,m,x=>[.bool x]
 |5,m,x=>[.int .u8 x 0]
 |9,m,x=>[.str x]
 |23,m,x=>[.int .i64 x.Ad 0,.int .i64 x.Du 0,.int .i64 x.Cd 0,.int .i64 x.Ez 0,.int .i64 x.Ce 0,.int .i64 x.Dv 0]
 |24,m,x=>[.rowT 5 true x]
 |25,m,x=>[.rowT 3 true x]
 |27,m,x=>[.rowT 5 true x.Fp,.rowT 3 true x.G4,.rowT 3 true x.Fq]
 |237,m,x=>[.int .i64 x.fAt 0,.int .i64 x.Yg 0,.int .i64 x.Yh 0]
 |157,m,x=>[.rowT 237 true x]
 |159,m,x=>[.int .i64 x.G4 0,.int .i64 x.C7 0,.int .i64 x.Nb 0,.int .i64 x.fUp 0,.int .i64 x.G5 0,.int .i64 x.Bz 0,.int .i64 x.G6 0,.int .i64 x.G7 0,.rowT 3 true x.Ad,.int .i64 x.No 0,.int .i64 x.G8 0,.rowT 237 true x.D5,.rowT 3 true x.Dh]
 |28,m,x=>[.rowT 159 m x]
 |161,m,x=>[.int .i64 x.Be 0,.int .i64 x.Bz 0,.rowT 3 true x.Dh,.rowT 3 true x.Ad,.int .i64 x.H2 0]
 |29,m,x=>[.rowT 161 m x]
 |31,m,x=>[.int .i64 x.fC.Ad 0,.int .i64 x.fC.Du 0,.int .i64 x.fC.Cd 0,.int .i64 x.fC.Ez 0,.int .i64 x.fC.Ce 0,.int .i64 x.fC.Dv 0,.rowT 5 true x.fP.Fp,.rowT 3 true x.fP.G4,.rowT 3 true x.fP.Fq,.rowT 159 m x.fL,.rowT 161 m x.fQ,.rowT 3 true x.Jp]
 |33,m,x=>[.int .i64 x.Ad 0,.int .i64 x.Du 0,.int .i64 x.Cd 0,.int .i64 x.Ez 0,.int .i64 x.Ce 0,.int .i64 x.Dv 0]
 |34,m,x=>[.rowT 5 true x.Fp,.rowT 3 true x.G4,.rowT 3 true x.Fq]
 |183,m,x=>[.int .i64 x.fAt 0,.int .i64 x.Yg 0,.int .i64 x.Yh 0]
 |75,m,x=>[.rowT 183 true x]
 |77,true,x=>[.int .i64 x.G4 0,.int .i64 x.C7 0,.int .i64 x.Nb 0,.int .i64 x.fUp 0,.int .i64 x.G5 0,.int .i64 x.Bz 0,.int .i64 x.G6 0,.int .i64 x.G7 0,.row 3 x.Ad,.int .i64 x.No 0,.int .i64 x.G8 0,.rowT 183 true x.D5,.rowT 3 true x.Dh]
 |77,false,x=>[.int .i64 x.G4 0,.int .i64 x.C7 0,.int .i64 x.Nb 0,.int .i64 x.fUp 0,.int .i64 x.G5 0,.int .i64 x.Bz 0,.int .i64 x.G6 0,.int .i64 x.G7 0,.rowT 3 true x.Ad,.int .i64 x.No 0,.int .i64 x.G8 0,.rowT 183 true x.D5,.rowT 3 true x.Dh]
 |35,m,x=>[.rowT 77 m x]
 |79,m,x=>[.int .i64 x.Be 0,.int .i64 x.Bz 0,.rowT 3 true x.Dh,.rowT 3 true x.Ad,.int .i64 x.H2 0]
 |36,m,x=>[.rowT 79 m x]
 |38,true,x=>[.int .i64 x.fC.Ad 0,.int .i64 x.fC.Du 0,.int .i64 x.fC.Cd 0,.int .i64 x.fC.Ez 0,.int .i64 x.fC.Ce 0,.int .i64 x.fC.Dv 0,.rowT 5 true x.fP.Fp,.rowT 3 true x.fP.G4,.rowT 3 true x.fP.Fq,.rowT 77 true x.fL,.rowT 79 true x.fQ,.rowT 3 true x.Jp]
 |38,false,x=>[.int .i64 x.fC.Ad 0,.int .i64 x.fC.Du 0,.int .i64 x.fC.Cd 0,.int .i64 x.fC.Ez 0,.int .i64 x.fC.Ce 0,.int .i64 x.fC.Dv 0,.rowT 5 true x.fP.Fp,.rowT 3 true x.fP.G4,.rowT 3 true x.fP.Fq,.rowT 77 true x.fL,.rowT 79 false x.fQ,.rowT 3 true x.Jp]
 |40,m,x=>[.int .i64 x.Be 0,.int .i64 x.C7 0]
 |42,m,x=>[.int .i64 x.fH.Be 0,.int .i64 x.fH.C7 0,.int .i64 x.Nb 0,.int .i64 x.fNo 0]
 |44,m,x=>[.int .i64 x.Aab 0,.int .i64 x.fH.Be 0,.int .i64 x.fH.C7 0,.int .i64 x.fR.fH.Be 0,.int .i64 x.fR.fH.C7 0,.int .i64 x.fR.Nb 0,.int .i64 x.fR.fNo 0,.rowT 5 true x.fB,.int .i64 x.Aac 0,.int .i64 x.Ez 0,.int .i64 x.R2 0]
 |55,m,x=>[.int .i64 x.Aad 0,.int .i64 x.fH.Be 0,.int .i64 x.fH.C7 0,.int .i64 x.fR.fH.Be 0,.int .i64 x.fR.fH.C7 0,.int .i64 x.fR.Nb 0,.int .i64 x.fR.fNo 0,.int .i64 x.fN 0,.int .i64 x.fM 0,.rowT 5 true x.fB]
 |81,m,x=>[.rowT 55 m x]
 |149,m,x=>[.rowT 4 true x]
 |171,true,x=>[.rowT 5 true x.fb,.int .i64 x.fi 0,.int .i64 x.fh 0]
 |171,false,x=>[.row 5 x.fb,.int .i64 x.fi 0,.int .i64 x.fh 0]
 |222,m,x=>[.int .u64 x 0]
 |225,m,x=>[.int .u64 x 0]
 |248,m,x=>[.int .u32 x 0]
 |10038,true,x=>[.int .i64 x.fC.Ad 0,.int .i64 x.fC.Du 0,.int .i64 x.fC.Cd 0,.int .i64 x.fC.Ez 0,.int .i64 x.fC.Ce 0,.int .i64 x.fC.Dv 0,.rowT 5 true x.fP.Fp,.rowT 3 true x.fP.G4,.rowT 3 true x.fP.Fq,.rowT 77 true x.fL,.rowT 79 true x.fQ,.rowT 3 true x.Jp]
 |10038,false,x=>[.int .i64 x.fC.Ad 0,.int .i64 x.fC.Du 0,.int .i64 x.fC.Cd 0,.int .i64 x.fC.Ez 0,.int .i64 x.fC.Ce 0,.int .i64 x.fC.Dv 0,.rowT 5 true x.fP.Fp,.rowT 3 true x.fP.G4,.rowT 3 true x.fP.Fq,.rowT 77 false x.fL,.rowT 79 true x.fQ,.rowT 3 true x.Jp]
 |_,_,_=>[]
def Anq:List (SV Ag)->Option (Ag 2)
 |[.int .i64 a0 _]=>some a0
 |_=>none
def Anr:List (SV Ag)->Option (Ag 3)
 |[.int .i64 a0 _]=>some a0
 |_=>none
def Ans:List (SV Ag)->Option (Ag 4)
 |[.bool a0]=>some a0
 |_=>none
def Ant:List (SV Ag)->Option (Ag 5)
 |[.int .u8 a0 _]=>some a0
 |_=>none
def Anu:List (SV Ag)->Option (Ag 9)
 |[.str a0]=>some a0
 |_=>none
def Aga:List (SV Ag)->Option (Ag 23)
 |[.int .i64 a0 _,.int .i64 a1 _,.int .i64 a2 _,.int .i64 a3 _,.int .i64 a4 _,.int .i64 a5 _]=>some ⟨a0,a1,a2,a3,a4,a5⟩
 |_=>none
def Agb:List (SV Ag)->Option (Ag 24)
 |[.row 5 a0]=>some a0
 |_=>none
def Agc:List (SV Ag)->Option (Ag 25)
 |[.row 3 a0]=>some a0
 |_=>none
def Agd:List (SV Ag)->Option (Ag 27)
 |[.row 5 a0,.row 3 a1,.row 3 a2]=>some ⟨a0,a1,a2⟩
 |_=>none
def Yi:List (SV Ag)->Option (Ag 237)
 |[.int .i64 a0 _,.int .i64 a1 _,.int .i64 a2 _]=>some ⟨a0,a1,a2⟩
 |_=>none
def Yj:List (SV Ag)->Option (Ag 157)
 |[.row 237 a0]=>some a0
 |_=>none
def Yk:List (SV Ag)->Option (Ag 159)
 |[.int .i64 a0 _,.int .i64 a1 _,.int .i64 a2 _,.int .i64 a3 _,.int .i64 a4 _,.int .i64 a5 _,.int .i64 a6 _,.int .i64 a7 _,.row 3 a8,.int .i64 a9 _,.int .i64 a10 _,.row 237 a11,.row 3 a12]=>some ⟨a0,a1,a2,a3,a4,a5,a6,a7,a8,a9,a10,a11,a12⟩
 |_=>none
def Age:List (SV Ag)->Option (Ag 28)
 |[.row 159 a0]=>some a0
 |_=>none
def Yl:List (SV Ag)->Option (Ag 161)
 |[.int .i64 a0 _,.int .i64 a1 _,.row 3 a2,.row 3 a3,.int .i64 a4 _]=>some ⟨a0,a1,a2,a3,a4⟩
 |_=>none
def Agf:List (SV Ag)->Option (Ag 29)
 |[.row 161 a0]=>some a0
 |_=>none
def Agg:List (SV Ag)->Option (Ag 31)
 |[.int .i64 a0 _,.int .i64 a1 _,.int .i64 a2 _,.int .i64 a3 _,.int .i64 a4 _,.int .i64 a5 _,.row 5 a6,.row 3 a7,.row 3 a8,.row 159 a9,.row 161 a10,.row 3 a11]=>some ⟨⟨a0,a1,a2,a3,a4,a5⟩,⟨a6,a7,a8⟩,a9,a10,a11⟩
 |_=>none
def Agh:List (SV Ag)->Option (Ag 33)
 |[.int .i64 a0 _,.int .i64 a1 _,.int .i64 a2 _,.int .i64 a3 _,.int .i64 a4 _,.int .i64 a5 _]=>some ⟨a0,a1,a2,a3,a4,a5⟩
 |_=>none
def Agi:List (SV Ag)->Option (Ag 34)
 |[.row 5 a0,.row 3 a1,.row 3 a2]=>some ⟨a0,a1,a2⟩
 |_=>none
def Ym:List (SV Ag)->Option (Ag 183)
 |[.int .i64 a0 _,.int .i64 a1 _,.int .i64 a2 _]=>some ⟨a0,a1,a2⟩
 |_=>none
def Agj:List (SV Ag)->Option (Ag 75)
 |[.row 183 a0]=>some a0
 |_=>none
def Agk:List (SV Ag)->Option (Ag 77)
 |[.int .i64 a0 _,.int .i64 a1 _,.int .i64 a2 _,.int .i64 a3 _,.int .i64 a4 _,.int .i64 a5 _,.int .i64 a6 _,.int .i64 a7 _,.row 3 a8,.int .i64 a9 _,.int .i64 a10 _,.row 183 a11,.row 3 a12]=>some ⟨a0,a1,a2,a3,a4,a5,a6,a7,a8,a9,a10,a11,a12⟩
 |_=>none
def Agl:List (SV Ag)->Option (Ag 35)
 |[.row 77 a0]=>some a0
 |_=>none
def Agm:List (SV Ag)->Option (Ag 79)
 |[.int .i64 a0 _,.int .i64 a1 _,.row 3 a2,.row 3 a3,.int .i64 a4 _]=>some ⟨a0,a1,a2,a3,a4⟩
 |_=>none
def Agn:List (SV Ag)->Option (Ag 36)
 |[.row 79 a0]=>some a0
 |_=>none
def Ago:List (SV Ag)->Option (Ag 38)
 |[.int .i64 a0 _,.int .i64 a1 _,.int .i64 a2 _,.int .i64 a3 _,.int .i64 a4 _,.int .i64 a5 _,.row 5 a6,.row 3 a7,.row 3 a8,.row 77 a9,.row 79 a10,.row 3 a11]=>some ⟨⟨a0,a1,a2,a3,a4,a5⟩,⟨a6,a7,a8⟩,a9,a10,a11⟩
 |_=>none
def Agp:List (SV Ag)->Option (Ag 40)
 |[.int .i64 a0 _,.int .i64 a1 _]=>some ⟨a0,a1⟩
 |_=>none
def Agq:List (SV Ag)->Option (Ag 42)
 |[.int .i64 a0 _,.int .i64 a1 _,.int .i64 a2 _,.int .i64 a3 _]=>some ⟨⟨a0,a1⟩,a2,a3⟩
 |_=>none
def Agr:List (SV Ag)->Option (Ag 44)
 |[.int .i64 a0 _,.int .i64 a1 _,.int .i64 a2 _,.int .i64 a3 _,.int .i64 a4 _,.int .i64 a5 _,.int .i64 a6 _,.row 5 a7,.int .i64 a8 _,.int .i64 a9 _,.int .i64 a10 _]=>some ⟨a0,⟨a1,a2⟩,⟨⟨a3,a4⟩,a5,a6⟩,a7,a8,a9,a10⟩
 |_=>none
def Ags:List (SV Ag)->Option (Ag 55)
 |[.int .i64 a0 _,.int .i64 a1 _,.int .i64 a2 _,.int .i64 a3 _,.int .i64 a4 _,.int .i64 a5 _,.int .i64 a6 _,.int .i64 a7 _,.int .i64 a8 _,.row 5 a9]=>some ⟨a0,⟨a1,a2⟩,⟨⟨a3,a4⟩,a5,a6⟩,a7,a8,a9⟩
 |_=>none
def Agt:List (SV Ag)->Option (Ag 81)
 |[.row 55 a0]=>some a0
 |_=>none
def Yn:List (SV Ag)->Option (Ag 149)
 |[.row 4 a0]=>some a0
 |_=>none
def Yo:List (SV Ag)->Option (Ag 171)
 |[.row 5 a0,.int .i64 a1 _,.int .i64 a2 _]=>some ⟨a0,a1,a2⟩
 |_=>none
def Yp:List (SV Ag)->Option (Ag 222)
 |[.int .u64 a0 _]=>some a0
 |_=>none
def Yq:List (SV Ag)->Option (Ag 225)
 |[.int .u64 a0 _]=>some a0
 |_=>none
def Yr:List (SV Ag)->Option (Ag 248)
 |[.int .u32 a0 _]=>some a0
 |_=>none
def Mp:List (SV Ag)->Option (Ag 10038)
 |[.int .i64 a0 _,.int .i64 a1 _,.int .i64 a2 _,.int .i64 a3 _,.int .i64 a4 _,.int .i64 a5 _,.row 5 a6,.row 3 a7,.row 3 a8,.row 77 a9,.row 79 a10,.row 3 a11]=>some ⟨⟨a0,a1,a2,a3,a4,a5⟩,⟨a6,a7,a8⟩,a9,a10,a11⟩
 |_=>none
def Anv:(t:Nat)->List (SV Ag)->Option (Ag t)
 |2,c=>Anq c
 |3,c=>Anr c
 |4,c=>Ans c
 |5,c=>Ant c
 |9,c=>Anu c
 |23,c=>Aga c
 |24,c=>Agb c
 |25,c=>Agc c
 |27,c=>Agd c
 |237,c=>Yi c
 |157,c=>Yj c
 |159,c=>Yk c
 |28,c=>Age c
 |161,c=>Yl c
 |29,c=>Agf c
 |31,c=>Agg c
 |33,c=>Agh c
 |34,c=>Agi c
 |183,c=>Ym c
 |75,c=>Agj c
 |77,c=>Agk c
 |35,c=>Agl c
 |79,c=>Agm c
 |36,c=>Agn c
 |38,c=>Ago c
 |40,c=>Agp c
 |42,c=>Agq c
 |44,c=>Agr c
 |55,c=>Ags c
 |81,c=>Agt c
 |149,c=>Yn c
 |171,c=>Yo c
 |222,c=>Yp c
 |225,c=>Yq c
 |248,c=>Yr c
 |10038,c=>Mp c
 |_,_=>none
def Ys:List (SV Ag)->Option (Ag 2)
 |[.int .i64 a0 _]=>some a0
 |_=>none
def Yt:List (SV Ag)->Option (Ag 3)
 |[.int .i64 a0 _]=>some a0
 |_=>none
def Yu:List (SV Ag)->Option (Ag 4)
 |[.bool a0]=>some a0
 |_=>none
def Yv:List (SV Ag)->Option (Ag 5)
 |[.int .u8 a0 _]=>some a0
 |_=>none
def Yw:List (SV Ag)->Option (Ag 9)
 |[.str a0]=>some a0
 |_=>none
def R4:List (SV Ag)->Option (Ag 23)
 |[.int .i64 a0 _,.int .i64 a1 _,.int .i64 a2 _,.int .i64 a3 _,.int .i64 a4 _,.int .i64 a5 _]=>some ⟨a0,a1,a2,a3,a4,a5⟩
 |_=>none
def R5:List (SV Ag)->Option (Ag 24)
 |[.rowT 5 true a0]=>some a0
 |_=>none
def R6:List (SV Ag)->Option (Ag 25)
 |[.rowT 3 true a0]=>some a0
 |_=>none
def R7:List (SV Ag)->Option (Ag 27)
 |[.rowT 5 true a0,.rowT 3 true a1,.rowT 3 true a2]=>some ⟨a0,a1,a2⟩
 |_=>none
def Mq:List (SV Ag)->Option (Ag 237)
 |[.int .i64 a0 _,.int .i64 a1 _,.int .i64 a2 _]=>some ⟨a0,a1,a2⟩
 |_=>none
def Mr:List (SV Ag)->Option (Ag 157)
 |[.rowT 237 true a0]=>some a0
 |_=>none
def Ms:List (SV Ag)->Option (Ag 159)
 |[.int .i64 a0 _,.int .i64 a1 _,.int .i64 a2 _,.int .i64 a3 _,.int .i64 a4 _,.int .i64 a5 _,.int .i64 a6 _,.int .i64 a7 _,.rowT 3 true a8,.int .i64 a9 _,.int .i64 a10 _,.rowT 237 true a11,.rowT 3 true a12]=>some ⟨a0,a1,a2,a3,a4,a5,a6,a7,a8,a9,a10,a11,a12⟩
 |_=>none
def R8:List (SV Ag)->Option (Ag 28)
 |[.rowT 159 true a0]=>some a0
 |_=>none
def R9:List (SV Ag)->Option (Ag 28)
 |[.rowT 159 false a0]=>some a0
 |_=>none
def Mt:List (SV Ag)->Option (Ag 161)
 |[.int .i64 a0 _,.int .i64 a1 _,.rowT 3 true a2,.rowT 3 true a3,.int .i64 a4 _]=>some ⟨a0,a1,a2,a3,a4⟩
 |_=>none
def Sa:List (SV Ag)->Option (Ag 29)
 |[.rowT 161 true a0]=>some a0
 |_=>none
def Sb:List (SV Ag)->Option (Ag 29)
 |[.rowT 161 false a0]=>some a0
 |_=>none
def Sc:List (SV Ag)->Option (Ag 31)
 |[.int .i64 a0 _,.int .i64 a1 _,.int .i64 a2 _,.int .i64 a3 _,.int .i64 a4 _,.int .i64 a5 _,.rowT 5 true a6,.rowT 3 true a7,.rowT 3 true a8,.rowT 159 true a9,.rowT 161 true a10,.rowT 3 true a11]=>some ⟨⟨a0,a1,a2,a3,a4,a5⟩,⟨a6,a7,a8⟩,a9,a10,a11⟩
 |_=>none
def Sd:List (SV Ag)->Option (Ag 31)
 |[.int .i64 a0 _,.int .i64 a1 _,.int .i64 a2 _,.int .i64 a3 _,.int .i64 a4 _,.int .i64 a5 _,.rowT 5 true a6,.rowT 3 true a7,.rowT 3 true a8,.rowT 159 false a9,.rowT 161 false a10,.rowT 3 true a11]=>some ⟨⟨a0,a1,a2,a3,a4,a5⟩,⟨a6,a7,a8⟩,a9,a10,a11⟩
 |_=>none
def Se:List (SV Ag)->Option (Ag 33)
 |[.int .i64 a0 _,.int .i64 a1 _,.int .i64 a2 _,.int .i64 a3 _,.int .i64 a4 _,.int .i64 a5 _]=>some ⟨a0,a1,a2,a3,a4,a5⟩
 |_=>none
def Sf:List (SV Ag)->Option (Ag 34)
 |[.rowT 5 true a0,.rowT 3 true a1,.rowT 3 true a2]=>some ⟨a0,a1,a2⟩
 |_=>none
def Mu:List (SV Ag)->Option (Ag 183)
 |[.int .i64 a0 _,.int .i64 a1 _,.int .i64 a2 _]=>some ⟨a0,a1,a2⟩
 |_=>none
def Sg:List (SV Ag)->Option (Ag 75)
 |[.rowT 183 true a0]=>some a0
 |_=>none
def Si:List (SV Ag)->Option (Ag 77)
 |[.int .i64 a0 _,.int .i64 a1 _,.int .i64 a2 _,.int .i64 a3 _,.int .i64 a4 _,.int .i64 a5 _,.int .i64 a6 _,.int .i64 a7 _,.row 3 a8,.int .i64 a9 _,.int .i64 a10 _,.rowT 183 true a11,.rowT 3 true a12]=>some ⟨a0,a1,a2,a3,a4,a5,a6,a7,a8,a9,a10,a11,a12⟩
 |_=>none
def Sj:List (SV Ag)->Option (Ag 77)
 |[.int .i64 a0 _,.int .i64 a1 _,.int .i64 a2 _,.int .i64 a3 _,.int .i64 a4 _,.int .i64 a5 _,.int .i64 a6 _,.int .i64 a7 _,.rowT 3 true a8,.int .i64 a9 _,.int .i64 a10 _,.rowT 183 true a11,.rowT 3 true a12]=>some ⟨a0,a1,a2,a3,a4,a5,a6,a7,a8,a9,a10,a11,a12⟩
 |_=>none
def Sk:List (SV Ag)->Option (Ag 35)
 |[.rowT 77 true a0]=>some a0
 |_=>none
def Sl:List (SV Ag)->Option (Ag 35)
 |[.rowT 77 false a0]=>some a0
 |_=>none
def Sm:List (SV Ag)->Option (Ag 79)
 |[.int .i64 a0 _,.int .i64 a1 _,.rowT 3 true a2,.rowT 3 true a3,.int .i64 a4 _]=>some ⟨a0,a1,a2,a3,a4⟩
 |_=>none
def Sn:List (SV Ag)->Option (Ag 36)
 |[.rowT 79 true a0]=>some a0
 |_=>none
def So:List (SV Ag)->Option (Ag 36)
 |[.rowT 79 false a0]=>some a0
 |_=>none
def Sq:List (SV Ag)->Option (Ag 38)
 |[.int .i64 a0 _,.int .i64 a1 _,.int .i64 a2 _,.int .i64 a3 _,.int .i64 a4 _,.int .i64 a5 _,.rowT 5 true a6,.rowT 3 true a7,.rowT 3 true a8,.rowT 77 true a9,.rowT 79 true a10,.rowT 3 true a11]=>some ⟨⟨a0,a1,a2,a3,a4,a5⟩,⟨a6,a7,a8⟩,a9,a10,a11⟩
 |_=>none
def Sr:List (SV Ag)->Option (Ag 38)
 |[.int .i64 a0 _,.int .i64 a1 _,.int .i64 a2 _,.int .i64 a3 _,.int .i64 a4 _,.int .i64 a5 _,.rowT 5 true a6,.rowT 3 true a7,.rowT 3 true a8,.rowT 77 true a9,.rowT 79 false a10,.rowT 3 true a11]=>some ⟨⟨a0,a1,a2,a3,a4,a5⟩,⟨a6,a7,a8⟩,a9,a10,a11⟩
 |_=>none
def Ss:List (SV Ag)->Option (Ag 40)
 |[.int .i64 a0 _,.int .i64 a1 _]=>some ⟨a0,a1⟩
 |_=>none
def Su:List (SV Ag)->Option (Ag 42)
 |[.int .i64 a0 _,.int .i64 a1 _,.int .i64 a2 _,.int .i64 a3 _]=>some ⟨⟨a0,a1⟩,a2,a3⟩
 |_=>none
def Sv:List (SV Ag)->Option (Ag 44)
 |[.int .i64 a0 _,.int .i64 a1 _,.int .i64 a2 _,.int .i64 a3 _,.int .i64 a4 _,.int .i64 a5 _,.int .i64 a6 _,.rowT 5 true a7,.int .i64 a8 _,.int .i64 a9 _,.int .i64 a10 _]=>some ⟨a0,⟨a1,a2⟩,⟨⟨a3,a4⟩,a5,a6⟩,a7,a8,a9,a10⟩
 |_=>none
def Sw:List (SV Ag)->Option (Ag 55)
 |[.int .i64 a0 _,.int .i64 a1 _,.int .i64 a2 _,.int .i64 a3 _,.int .i64 a4 _,.int .i64 a5 _,.int .i64 a6 _,.int .i64 a7 _,.int .i64 a8 _,.rowT 5 true a9]=>some ⟨a0,⟨a1,a2⟩,⟨⟨a3,a4⟩,a5,a6⟩,a7,a8,a9⟩
 |_=>none
def Sx:List (SV Ag)->Option (Ag 81)
 |[.rowT 55 true a0]=>some a0
 |_=>none
def Sy:List (SV Ag)->Option (Ag 81)
 |[.rowT 55 false a0]=>some a0
 |_=>none
def Mv:List (SV Ag)->Option (Ag 149)
 |[.rowT 4 true a0]=>some a0
 |_=>none
def Mw:List (SV Ag)->Option (Ag 171)
 |[.rowT 5 true a0,.int .i64 a1 _,.int .i64 a2 _]=>some ⟨a0,a1,a2⟩
 |_=>none
def Mx:List (SV Ag)->Option (Ag 171)
 |[.row 5 a0,.int .i64 a1 _,.int .i64 a2 _]=>some ⟨a0,a1,a2⟩
 |_=>none
def My:List (SV Ag)->Option (Ag 222)
 |[.int .u64 a0 _]=>some a0
 |_=>none
def Mz:List (SV Ag)->Option (Ag 225)
 |[.int .u64 a0 _]=>some a0
 |_=>none
def M0:List (SV Ag)->Option (Ag 248)
 |[.int .u32 a0 _]=>some a0
 |_=>none
def Hf:List (SV Ag)->Option (Ag 10038)
 |[.int .i64 a0 _,.int .i64 a1 _,.int .i64 a2 _,.int .i64 a3 _,.int .i64 a4 _,.int .i64 a5 _,.rowT 5 true a6,.rowT 3 true a7,.rowT 3 true a8,.rowT 77 true a9,.rowT 79 true a10,.rowT 3 true a11]=>some ⟨⟨a0,a1,a2,a3,a4,a5⟩,⟨a6,a7,a8⟩,a9,a10,a11⟩
 |_=>none
def Hg:List (SV Ag)->Option (Ag 10038)
 |[.int .i64 a0 _,.int .i64 a1 _,.int .i64 a2 _,.int .i64 a3 _,.int .i64 a4 _,.int .i64 a5 _,.rowT 5 true a6,.rowT 3 true a7,.rowT 3 true a8,.rowT 77 false a9,.rowT 79 true a10,.rowT 3 true a11]=>some ⟨⟨a0,a1,a2,a3,a4,a5⟩,⟨a6,a7,a8⟩,a9,a10,a11⟩
 |_=>none
def Anw:(t:Nat)->Bool->List (SV Ag)->Option (Ag t)
 |2,_,c=>Ys c
 |3,_,c=>Yt c
 |4,_,c=>Yu c
 |5,_,c=>Yv c
 |9,_,c=>Yw c
 |23,_,c=>R4 c
 |24,_,c=>R5 c
 |25,_,c=>R6 c
 |27,_,c=>R7 c
 |237,_,c=>Mq c
 |157,_,c=>Mr c
 |159,_,c=>Ms c
 |28,true,c=>R8 c
 |28,false,c=>R9 c
 |161,_,c=>Mt c
 |29,true,c=>Sa c
 |29,false,c=>Sb c
 |31,true,c=>Sc c
 |31,false,c=>Sd c
 |33,_,c=>Se c
 |34,_,c=>Sf c
 |183,_,c=>Mu c
 |75,_,c=>Sg c
 |77,true,c=>Si c
 |77,false,c=>Sj c
 |35,true,c=>Sk c
 |35,false,c=>Sl c
 |79,_,c=>Sm c
 |36,true,c=>Sn c
 |36,false,c=>So c
 |38,true,c=>Sq c
 |38,false,c=>Sr c
 |40,_,c=>Ss c
 |42,_,c=>Su c
 |44,_,c=>Sv c
 |55,_,c=>Sw c
 |81,true,c=>Sx c
 |81,false,c=>Sy c
 |149,_,c=>Mv c
 |171,true,c=>Mw c
 |171,false,c=>Mx c
 |222,_,c=>My c
 |225,_,c=>Mz c
 |248,_,c=>M0 c
 |10038,true,c=>Hf c
 |10038,false,c=>Hg c
 |_,_,_=>none
def Vo (t j:Nat):Bool:=(Nat.beq t 77&&Nat.beq j 8)||((Nat.beq t 77||Nat.beq t 35||Nat.beq t 38||Nat.beq t 10038)&&Nat.beq j 1000)
def tyU:Un:=⟨Ag,Aqu,Anl,Anm,Ats,Ann,Ano,Anp,Bc,Anv,Anw,Vo⟩
theorem Anx: ∀x,(Mj x).all V.fresh=true:=fun x=>by
 simp only[Mj,Gv,List.all_nil,Ah (f:=Bp) (fun _=>rfl),S6,S7,S8,Bool.and_self]
theorem Ajs: ∀x,(H3 x).all V.fresh=true:=fun x=>by
 simp only[H3,Gv,List.all_nil,Ah (f:=Ac) (fun _=>rfl),S6,S7,S8,Bool.and_self]
theorem Sz: ∀x,(Dx x).all V.fresh=true:=fun x=>by
 simp only[Dx,Gv,List.all_nil,Ah (f:=Bp) (fun _=>rfl),Ah (f:=Ac) (fun _=>rfl),S6,S7,S8,Bool.and_self]
theorem M1: ∀x,(Cr x).all V.fresh=true:=fun x=>by
 simp only[Cr,Gv,List.all_nil,Ah (f:=An) (fun _=>rfl),S6,S7,S8,Bool.and_self]
theorem Ga: ∀x,(Cg x).all V.fresh=true:=fun x=>by
 simp only[Cg,Gv,List.all_nil,Ah (f:=Ac) (fun _=>rfl),Ah (f:=An) (fun _=>rfl),S6,S7,S8,Bool.and_self]
theorem Nw: ∀x,(Da x).all V.fresh=true:=fun x=>by
 simp only[Da,Gv,List.all_nil,Ah Ga,S6,S7,S8,Bool.and_self]
theorem Fs: ∀x,(Bu x).all V.fresh=true:=fun x=>by
 simp only[Bu,Gv,List.all_nil,Ah (f:=Ac) (fun _=>rfl),S6,S7,S8,Bool.and_self]
theorem M2: ∀x,(Ct x).all V.fresh=true:=fun x=>by
 simp only[Ct,Gv,List.all_nil,Ah Fs,S6,S7,S8,Bool.and_self]
theorem Nx: ∀x,(Db x).all V.fresh=true:=fun x=>by
 simp only[Db,Gv,List.all_nil,Ah (f:=Bp) (fun _=>rfl),Ah (f:=Ac) (fun _=>rfl),Ah Ga,Ah Fs,S6,S7,S8,Bool.and_self]
theorem S4: ∀x,(Dz x).all V.fresh=true:=fun x=>by
 simp only[Dz,Gv,List.all_nil,Ah (f:=Bp) (fun _=>rfl),Ah (f:=Ac) (fun _=>rfl),S6,S7,S8,Bool.and_self]
theorem M3: ∀x,(Cv x).all V.fresh=true:=fun x=>by
 simp only[Cv,Gv,List.all_nil,Ah (f:=Ar) (fun _=>rfl),S6,S7,S8,Bool.and_self]
theorem G9: ∀x,(Bv x).all V.fresh=true:=fun x=>by
 simp only[Bv,Gv,List.all_nil,Ah (f:=Ac) (fun _=>rfl),S6,S7,S8,Bool.and_self]
theorem M4: ∀x,(Cw x).all V.fresh=true:=fun x=>by
 simp only[Cw,Gv,List.all_nil,Ah G9,S6,S7,S8,Bool.and_self]
theorem Vp: ∀x,(Eg x).all V.fresh=true:=fun x=>by
 simp only[Eg,Gv,List.all_nil,Ah (f:=Bp) (fun _=>rfl),S6,S7,S8,Bool.and_self]
theorem M5: ∀x,(D3 x).all V.fresh=true:=fun x=>by
 simp only[D3,Gv,List.all_nil,Ah (f:=Bp) (fun _=>rfl),S6,S7,S8,Bool.and_self]
theorem Vq: ∀x,(Eh x).all V.fresh=true:=fun x=>by
 simp only[Eh,Gv,List.all_nil,Ah M5,S6,S7,S8,Bool.and_self]
theorem Vr: ∀x,(Ei x).all V.fresh=true:=fun x=>by
 simp only[Ei,Gv,List.all_nil,Ah (f:=Cf) (fun _=>rfl),S6,S7,S8,Bool.and_self]
theorem Ny: ∀x,(Dc x).all V.fresh=true:=fun x=>by
 simp only[Dc,Gv,List.all_nil,Ah (f:=Bp) (fun _=>rfl),S6,S7,S8,Bool.and_self]
theorem Aqv (c x)(h:Anq c=some x):c.map (SV.toV tyU)=Ac x:=by
  unfold Anq at h;split at h
  ·cases h;rfl
  ·cases h
theorem Ajt (c x)(h:Ys c=some x):c.map (SV.toV tyU)=(Bc 2 true x).map (SV.toV tyU):=by
  unfold Ys at h;split at h
  ·cases h;rfl
  ·cases h
theorem Att:Gd tyU 2:=⟨Aj,Vl,fun _=>rfl,fun _=>rfl,fun _ _=>rfl,Aqv,fun _=>Ajt,fun _=>rfl,fun _=>rfl,fun _ _=>rfl,fun _ _=>rfl,fun _=>rfl,Aq fun _=>rfl⟩
theorem Aqw (c x)(h:Anr c=some x):c.map (SV.toV tyU)=Ac x:=by
  unfold Anr at h;split at h
  ·cases h;rfl
  ·cases h
theorem Aju (c x)(h:Yt c=some x):c.map (SV.toV tyU)=(Bc 3 true x).map (SV.toV tyU):=by
  unfold Yt at h;split at h
  ·cases h;rfl
  ·cases h
theorem Atu:Gd tyU 3:=⟨Aj,Vl,fun _=>rfl,fun _=>rfl,fun _ _=>rfl,Aqw,fun _=>Aju,fun _=>rfl,fun _=>rfl,fun _ _=>rfl,fun _ _=>rfl,fun _=>rfl,Aq fun _=>rfl⟩
theorem Aqx (c x)(h:Ans c=some x):c.map (SV.toV tyU)=Cf x:=by
  unfold Ans at h;split at h
  ·cases h;rfl
  ·cases h
theorem Ajv (c x)(h:Yu c=some x):c.map (SV.toV tyU)=(Bc 4 true x).map (SV.toV tyU):=by
  unfold Yu at h;split at h
  ·cases h;rfl
  ·cases h
theorem Atv:Gd tyU 4:=⟨Cz,R3,fun _=>rfl,fun _=>rfl,fun _ _=>rfl,Aqx,fun _=>Ajv,fun _=>rfl,fun _=>rfl,fun _ _=>rfl,fun _ _=>rfl,fun _=>rfl,Aq fun _=>rfl⟩
theorem Aqy (c x)(h:Ant c=some x):c.map (SV.toV tyU)=Bp x:=by
  unfold Ant at h;split at h
  ·cases h;rfl
  ·cases h
theorem Ajw (c x)(h:Yv c=some x):c.map (SV.toV tyU)=(Bc 5 true x).map (SV.toV tyU):=by
  unfold Yv at h;split at h
  ·cases h;rfl
  ·cases h
theorem Atw:Gd tyU 5:=⟨A5,Ajr,fun _=>rfl,fun _=>rfl,fun _ _=>rfl,Aqy,fun _=>Ajw,fun _=>rfl,fun _=>rfl,fun _ _=>rfl,fun _ _=>rfl,fun _=>rfl,Aq fun _=>rfl⟩
theorem Aqz (c x)(h:Anu c=some x):c.map (SV.toV tyU)=E4 x:=by
  unfold Anu at h;split at h
  ·cases h;rfl
  ·cases h
theorem Ajx (c x)(h:Yw c=some x):c.map (SV.toV tyU)=(Bc 9 true x).map (SV.toV tyU):=by
  unfold Yw at h;split at h
  ·cases h;rfl
  ·cases h
theorem Atx:Gd tyU 9:=⟨Fj,Vm,fun _=>rfl,fun _=>rfl,fun _ _=>rfl,Aqz,fun _=>Ajx,fun _=>rfl,fun _=>rfl,fun _ _=>rfl,fun _ _=>rfl,fun _=>rfl,Aq fun _=>rfl⟩
theorem Anz (c x)(h:Aga c=some x):c.map (SV.toV tyU)=C0 x:=by
  unfold Aga at h;split at h
  ·cases h;rfl
  ·cases h
theorem Agu (c x)(h:R4 c=some x):c.map (SV.toV tyU)=(Bc 23 true x).map (SV.toV tyU):=by
  unfold R4 at h;split at h
  ·cases h;rfl
  ·cases h
theorem Aq0:Gd tyU 23:=⟨Dw,Mi,fun _=>rfl,fun _=>rfl,fun _ _=>rfl,Anz,fun _=>Agu,fun _=>rfl,fun _=>rfl,fun _ _=>rfl,fun _ _=>rfl,fun _=>rfl,Aq fun _=>rfl⟩
theorem An0 (c x)(h:Agb c=some x):c.map (SV.toV tyU)=Jq x:=by
  unfold Agb at h;split at h
  ·cases h;rfl
  ·cases h
theorem Agv (c x)(h:R5 c=some x):c.map (SV.toV tyU)=(Bc 24 true x).map (SV.toV tyU):=by
  unfold R5 at h;split at h
  ·cases h;rfl
  ·cases h
theorem Aq1:Gd tyU 24:=⟨Af7,Af8,fun _=>rfl,fun _=>rfl,fun _ _=>rfl,An0,fun _=>Agv,(fun h=>by cases h),fun _=>rfl,fun _ _=>rfl,fun x _=>Anx x,fun _=>rfl,Aq fun _=>rfl⟩
theorem An1 (c x)(h:Agc c=some x):c.map (SV.toV tyU)=Gs x:=by
  unfold Agc at h;split at h
  ·cases h;rfl
  ·cases h
theorem Agw (c x)(h:R6 c=some x):c.map (SV.toV tyU)=(Bc 25 true x).map (SV.toV tyU):=by
  unfold R6 at h;split at h
  ·cases h;rfl
  ·cases h
theorem Aq2:Gd tyU 25:=⟨Ab5,Ab6,fun _=>rfl,fun _=>rfl,fun _ _=>rfl,An1,fun _=>Agw,(fun h=>by cases h),fun _=>rfl,fun _ _=>rfl,fun x _=>Ajs x,fun _=>rfl,Aq fun _=>rfl⟩
theorem An2 (c x)(h:Agd c=some x):c.map (SV.toV tyU)=C1 x:=by
  unfold Agd at h;split at h
  ·cases h;rfl
  ·cases h
theorem Agx (c x)(h:R7 c=some x):c.map (SV.toV tyU)=(Bc 27 true x).map (SV.toV tyU):=by
  unfold R7 at h;split at h
  ·cases h;rfl
  ·cases h
theorem Aq3:Gd tyU 27:=⟨Mk,Ml,fun _=>rfl,fun _=>rfl,fun _ _=>rfl,An2,fun _=>Agx,(fun h=>by cases h),fun _=>rfl,fun _ _=>rfl,fun x _=>Sz x,fun _=>rfl,Aq fun _=>rfl⟩
theorem Ajy (c x)(h:Yi c=some x):c.map (SV.toV tyU)=An x:=by
  unfold Yi at h;split at h
  ·cases h;rfl
  ·cases h
theorem Ab7 (c x)(h:Mq c=some x):c.map (SV.toV tyU)=(Bc 237 true x).map (SV.toV tyU):=by
  unfold Mq at h;split at h
  ·cases h;rfl
  ·cases h
theorem An3:Gd tyU 237:=⟨Av,J7,fun _=>rfl,fun _=>rfl,fun _ _=>rfl,Ajy,fun _=>Ab7,fun _=>rfl,fun _=>rfl,fun _ _=>rfl,fun _ _=>rfl,fun _=>rfl,Aq fun _=>rfl⟩
theorem Ajz (c x)(h:Yj c=some x):c.map (SV.toV tyU)=B5 x:=by
  unfold Yj at h;split at h
  ·cases h;rfl
  ·cases h
theorem Ab8 (c x)(h:Mr c=some x):c.map (SV.toV tyU)=(Bc 157 true x).map (SV.toV tyU):=by
  unfold Mr at h;split at h
  ·cases h;rfl
  ·cases h
theorem An4:Gd tyU 157:=⟨Jr,Js,fun _=>rfl,fun _=>rfl,fun _ _=>rfl,Ajz,fun _=>Ab8,(fun h=>by cases h),fun _=>rfl,fun _ _=>rfl,fun x _=>M1 x,fun _=>rfl,Aq fun _=>rfl⟩
theorem Aj0 (c x)(h:Yk c=some x):c.map (SV.toV tyU)=Bq x:=by
  unfold Yk at h;split at h
  ·cases h;rfl
  ·cases h
theorem Ab9 (c x)(h:Ms c=some x):c.map (SV.toV tyU)=(Bc 159 true x).map (SV.toV tyU):=by
  unfold Ms at h;split at h
  ·cases h;rfl
  ·cases h
theorem An5:Gd tyU 159:=⟨Fc,Fe,fun _=>rfl,fun _=>rfl,fun _ _=>rfl,Aj0,fun _=>Ab9,(fun h=>by cases h),fun _=>rfl,fun _ _=>rfl,fun x _=>Ga x,fun _=>rfl,Aq fun _=>rfl⟩
theorem An6 (c x)(h:Age c=some x):c.map (SV.toV tyU)=Ci x:=by
  unfold Age at h;split at h
  ·cases h;rfl
  ·cases h
theorem Agy (c x)(h:R8 c=some x):c.map (SV.toV tyU)=(Bc 28 true x).map (SV.toV tyU):=by
  unfold R8 at h;split at h
  ·cases h;rfl
  ·cases h
theorem Agz (c x)(h:R9 c=some x):c.map (SV.toV tyU)=(Bc 28 false x).map (SV.toV tyU):=by
  unfold R9 at h;split at h
  ·cases h;rfl
  ·cases h
theorem Aq4:Gd tyU 28:=⟨J8,J9,fun _=>rfl,fun _=>rfl,fun _ _=>rfl,An6,fun m=>match m with|true=>Agy|false=>Agz,(fun h=>by cases h),fun _=>rfl,fun _ _=>rfl,fun x _=>Nw x,fun _=>rfl,Aq fun _=>rfl⟩
theorem Aj1 (c x)(h:Yl c=some x):c.map (SV.toV tyU)=Bf x:=by
  unfold Yl at h;split at h
  ·cases h;rfl
  ·cases h
theorem Aca (c x)(h:Mt c=some x):c.map (SV.toV tyU)=(Bc 161 true x).map (SV.toV tyU):=by
  unfold Mt at h;split at h
  ·cases h;rfl
  ·cases h
theorem An7:Gd tyU 161:=⟨Em,Eo,fun _=>rfl,fun _=>rfl,fun _ _=>rfl,Aj1,fun _=>Aca,(fun h=>by cases h),fun _=>rfl,fun _ _=>rfl,fun x _=>Fs x,fun _=>rfl,Aq fun _=>rfl⟩
theorem An8 (c x)(h:Agf c=some x):c.map (SV.toV tyU)=B6 x:=by
  unfold Agf at h;split at h
  ·cases h;rfl
  ·cases h
theorem Ag0 (c x)(h:Sa c=some x):c.map (SV.toV tyU)=(Bc 29 true x).map (SV.toV tyU):=by
  unfold Sa at h;split at h
  ·cases h;rfl
  ·cases h
theorem Ag1 (c x)(h:Sb c=some x):c.map (SV.toV tyU)=(Bc 29 false x).map (SV.toV tyU):=by
  unfold Sb at h;split at h
  ·cases h;rfl
  ·cases h
theorem Aq5:Gd tyU 29:=⟨Jt,Ju,fun _=>rfl,fun _=>rfl,fun _ _=>rfl,An8,fun m=>match m with|true=>Ag0|false=>Ag1,(fun h=>by cases h),fun _=>rfl,fun _ _=>rfl,fun x _=>M2 x,fun _=>rfl,Aq fun _=>rfl⟩
theorem An9 (c x)(h:Agg c=some x):c.map (SV.toV tyU)=Cj x:=by
  unfold Agg at h;split at h
  ·cases h;rfl
  ·cases h
theorem Ag2 (c x)(h:Sc c=some x):c.map (SV.toV tyU)=(Bc 31 true x).map (SV.toV tyU):=by
  unfold Sc at h;split at h
  ·cases h;rfl
  ·cases h
theorem Ag3 (c x)(h:Sd c=some x):c.map (SV.toV tyU)=(Bc 31 false x).map (SV.toV tyU):=by
  unfold Sd at h;split at h
  ·cases h;rfl
  ·cases h
theorem Aq6:Gd tyU 31:=⟨Ka,Kb,fun _=>rfl,fun _=>rfl,fun _ _=>rfl,An9,fun m=>match m with|true=>Ag2|false=>Ag3,(fun h=>by cases h),fun _=>rfl,fun _ _=>rfl,fun x _=>Nx x,fun _=>rfl,Aq fun _=>rfl⟩
theorem Aoa (c x)(h:Agh c=some x):c.map (SV.toV tyU)=C2 x:=by
  unfold Agh at h;split at h
  ·cases h;rfl
  ·cases h
theorem Ag4 (c x)(h:Se c=some x):c.map (SV.toV tyU)=(Bc 33 true x).map (SV.toV tyU):=by
  unfold Se at h;split at h
  ·cases h;rfl
  ·cases h
theorem Aq7:Gd tyU 33:=⟨Dy,Mm,fun _=>rfl,fun _=>rfl,fun _ _=>rfl,Aoa,fun _=>Ag4,fun _=>rfl,fun _=>rfl,fun _ _=>rfl,fun _ _=>rfl,fun _=>rfl,Aq fun _=>rfl⟩
theorem Aob (c x)(h:Agi c=some x):c.map (SV.toV tyU)=C3 x:=by
  unfold Agi at h;split at h
  ·cases h;rfl
  ·cases h
theorem Ag5 (c x)(h:Sf c=some x):c.map (SV.toV tyU)=(Bc 34 true x).map (SV.toV tyU):=by
  unfold Sf at h;split at h
  ·cases h;rfl
  ·cases h
theorem Aq8:Gd tyU 34:=⟨Mn,Mo,fun _=>rfl,fun _=>rfl,fun _ _=>rfl,Aob,fun _=>Ag5,(fun h=>by cases h),fun _=>rfl,fun _ _=>rfl,fun x _=>S4 x,fun _=>rfl,Aq fun _=>rfl⟩
theorem Aj2 (c x)(h:Ym c=some x):c.map (SV.toV tyU)=Ar x:=by
  unfold Ym at h;split at h
  ·cases h;rfl
  ·cases h
theorem Acb (c x)(h:Mu c=some x):c.map (SV.toV tyU)=(Bc 183 true x).map (SV.toV tyU):=by
  unfold Mu at h;split at h
  ·cases h;rfl
  ·cases h
theorem Aoc:Gd tyU 183:=⟨Aw,Kc,fun _=>rfl,fun _=>rfl,fun _ _=>rfl,Aj2,fun _=>Acb,fun _=>rfl,fun _=>rfl,fun _ _=>rfl,fun _ _=>rfl,fun _=>rfl,Aq fun _=>rfl⟩
theorem Aod (c x)(h:Agj c=some x):c.map (SV.toV tyU)=B7 x:=by
  unfold Agj at h;split at h
  ·cases h;rfl
  ·cases h
theorem Ag6 (c x)(h:Sg c=some x):c.map (SV.toV tyU)=(Bc 75 true x).map (SV.toV tyU):=by
  unfold Sg at h;split at h
  ·cases h;rfl
  ·cases h
theorem Aq9:Gd tyU 75:=⟨Jv,Jw,fun _=>rfl,fun _=>rfl,fun _ _=>rfl,Aod,fun _=>Ag6,(fun h=>by cases h),fun _=>rfl,fun _ _=>rfl,fun x _=>M3 x,fun _=>rfl,Aq fun _=>rfl⟩
theorem Aoe (c x)(h:Agk c=some x):c.map (SV.toV tyU)=Br x:=by
  unfold Agk at h;split at h
  ·cases h;rfl
  ·cases h
theorem Ag7 (c x)(h:Si c=some x):c.map (SV.toV tyU)=(Bc 77 true x).map (SV.toV tyU):=by
  unfold Si at h;split at h
  ·cases h;rfl
  ·cases h
theorem Ag8 (c x)(h:Sj c=some x):c.map (SV.toV tyU)=(Bc 77 false x).map (SV.toV tyU):=by
  unfold Sj at h;split at h
  ·cases h;rfl
  ·cases h
theorem Aof (x:Az)(j:Nat)(v:V)(hj:(C4 x)[j]? =some v)(e:Vo 77 j=true):v.share=v:=by
 rcases Bool.or_eq_true_iff.1 e with h|h
 ·rw[show j=8 from Z2 h]at hj;cases hj;show V.row false _ (shareLL _)=_;rw[Aj.shareLL]
 ·rw[show j=1000 from Z2 h]at hj;cases hj
theorem Ara:Gd tyU 77:=⟨Ff,Fg,fun _=>rfl,fun _=>rfl,(fun m _=>by cases m<;>rfl),Aoe,fun m=>match m with|true=>Ag7|false=>Ag8,(fun h=>by cases h),fun _=>rfl,(fun m _=>by cases m<;>rfl),(fun _ h=>by cases h),fun _=>rfl,Aof⟩
theorem Aog (c x)(h:Agl c=some x):c.map (SV.toV tyU)=Cl x:=by
  unfold Agl at h;split at h
  ·cases h;rfl
  ·cases h
theorem Ag9 (c x)(h:Sk c=some x):c.map (SV.toV tyU)=(Bc 35 true x).map (SV.toV tyU):=by
  unfold Sk at h;split at h
  ·cases h;rfl
  ·cases h
theorem Aha (c x)(h:Sl c=some x):c.map (SV.toV tyU)=(Bc 35 false x).map (SV.toV tyU):=by
  unfold Sl at h;split at h
  ·cases h;rfl
  ·cases h
theorem Aoh (x:List Az)(j:Nat)(v:V)(hj:(D6 x)[j]? =some v)(e:Vo 35 j=true):v.share=v:=by
 rw[show j=1000 from Z2 e]at hj;cases hj
theorem Arb:Gd tyU 35:=⟨Kd,Ke,fun _=>rfl,fun _=>rfl,fun _ _=>rfl,Aog,fun m=>match m with|true=>Ag9|false=>Aha,(fun h=>by cases h),fun _=>rfl,fun _ _=>rfl,(fun _ h=>by cases h),fun _=>rfl,Aoh⟩
theorem Aoi (c x)(h:Agm c=some x):c.map (SV.toV tyU)=Bg x:=by
  unfold Agm at h;split at h
  ·cases h;rfl
  ·cases h
theorem Ahb (c x)(h:Sm c=some x):c.map (SV.toV tyU)=(Bc 79 true x).map (SV.toV tyU):=by
  unfold Sm at h;split at h
  ·cases h;rfl
  ·cases h
theorem Arc:Gd tyU 79:=⟨Ep,Er,fun _=>rfl,fun _=>rfl,fun _ _=>rfl,Aoi,fun _=>Ahb,(fun h=>by cases h),fun _=>rfl,fun _ _=>rfl,fun x _=>G9 x,fun _=>rfl,Aq fun _=>rfl⟩
theorem Aoj (c x)(h:Agn c=some x):c.map (SV.toV tyU)=B8 x:=by
  unfold Agn at h;split at h
  ·cases h;rfl
  ·cases h
theorem Ahc (c x)(h:Sn c=some x):c.map (SV.toV tyU)=(Bc 36 true x).map (SV.toV tyU):=by
  unfold Sn at h;split at h
  ·cases h;rfl
  ·cases h
theorem Ahd (c x)(h:So c=some x):c.map (SV.toV tyU)=(Bc 36 false x).map (SV.toV tyU):=by
  unfold So at h;split at h
  ·cases h;rfl
  ·cases h
theorem Ard:Gd tyU 36:=⟨Jx,Jy,fun _=>rfl,fun _=>rfl,fun _ _=>rfl,Aoj,fun m=>match m with|true=>Ahc|false=>Ahd,(fun h=>by cases h),fun _=>rfl,fun _ _=>rfl,fun x _=>M4 x,fun _=>rfl,Aq fun _=>rfl⟩
theorem Aok (c x)(h:Ago c=some x):c.map (SV.toV tyU)=Bh x:=by
  unfold Ago at h;split at h
  ·cases h;rfl
  ·cases h
theorem Ahe (c x)(h:Sq c=some x):c.map (SV.toV tyU)=(Bc 38 true x).map (SV.toV tyU):=by
  unfold Sq at h;split at h
  ·cases h;rfl
  ·cases h
theorem Ahf (c x)(h:Sr c=some x):c.map (SV.toV tyU)=(Bc 38 false x).map (SV.toV tyU):=by
  unfold Sr at h;split at h
  ·cases h;rfl
  ·cases h
theorem Aol (x:Bo)(j:Nat)(v:V)(hj:(Cm x)[j]? =some v)(e:Vo 38 j=true):v.share=v:=by
 rw[show j=1000 from Z2 e]at hj;cases hj
theorem Are:Gd tyU 38:=⟨Ge,Gf,fun _=>rfl,fun _=>rfl,(fun m _=>by cases m<;>rfl),Aok,fun m=>match m with|true=>Ahe|false=>Ahf,(fun h=>by cases h),fun _=>rfl,(fun m _=>by cases m<;>rfl),(fun _ h=>by cases h),fun _=>rfl,Aol⟩
theorem Aom (c x)(h:Agp c=some x):c.map (SV.toV tyU)=B9 x:=by
  unfold Agp at h;split at h
  ·cases h;rfl
  ·cases h
theorem Ahg (c x)(h:Ss c=some x):c.map (SV.toV tyU)=(Bc 40 true x).map (SV.toV tyU):=by
  unfold Ss at h;split at h
  ·cases h;rfl
  ·cases h
theorem Arf:Gd tyU 40:=⟨C5,Jz,fun _=>rfl,fun _=>rfl,fun _ _=>rfl,Aom,fun _=>Ahg,fun _=>rfl,fun _=>rfl,fun _ _=>rfl,fun _ _=>rfl,fun _=>rfl,Aq fun _=>rfl⟩
theorem Aon (c x)(h:Agq c=some x):c.map (SV.toV tyU)=Dj x:=by
  unfold Agq at h;split at h
  ·cases h;rfl
  ·cases h
theorem Ahh (c x)(h:Su c=some x):c.map (SV.toV tyU)=(Bc 42 true x).map (SV.toV tyU):=by
  unfold Su at h;split at h
  ·cases h;rfl
  ·cases h
theorem Arg:Gd tyU 42:=⟨D7,Np,fun _=>rfl,fun _=>rfl,fun _ _=>rfl,Aon,fun _=>Ahh,fun _=>rfl,fun _=>rfl,fun _ _=>rfl,fun _ _=>rfl,fun _=>rfl,Aq fun _=>rfl⟩
theorem Aoo (c x)(h:Agr c=some x):c.map (SV.toV tyU)=Dk x:=by
  unfold Agr at h;split at h
  ·cases h;rfl
  ·cases h
theorem Ahi (c x)(h:Sv c=some x):c.map (SV.toV tyU)=(Bc 44 true x).map (SV.toV tyU):=by
  unfold Sv at h;split at h
  ·cases h;rfl
  ·cases h
theorem Arh:Gd tyU 44:=⟨Nq,Nr,fun _=>rfl,fun _=>rfl,fun _ _=>rfl,Aoo,fun _=>Ahi,(fun h=>by cases h),fun _=>rfl,fun _ _=>rfl,fun x _=>Vp x,fun _=>rfl,Aq fun _=>rfl⟩
theorem Aop (c x)(h:Ags c=some x):c.map (SV.toV tyU)=Df x:=by
  unfold Ags at h;split at h
  ·cases h;rfl
  ·cases h
theorem Ahj (c x)(h:Sw c=some x):c.map (SV.toV tyU)=(Bc 55 true x).map (SV.toV tyU):=by
  unfold Sw at h;split at h
  ·cases h;rfl
  ·cases h
theorem Ari:Gd tyU 55:=⟨H4,H5,fun _=>rfl,fun _=>rfl,fun _ _=>rfl,Aop,fun _=>Ahj,(fun h=>by cases h),fun _=>rfl,fun _ _=>rfl,fun x _=>M5 x,fun _=>rfl,Aq fun _=>rfl⟩
theorem Aoq (c x)(h:Agt c=some x):c.map (SV.toV tyU)=Dl x:=by
  unfold Agt at h;split at h
  ·cases h;rfl
  ·cases h
theorem Ahk (c x)(h:Sx c=some x):c.map (SV.toV tyU)=(Bc 81 true x).map (SV.toV tyU):=by
  unfold Sx at h;split at h
  ·cases h;rfl
  ·cases h
theorem Ahl (c x)(h:Sy c=some x):c.map (SV.toV tyU)=(Bc 81 false x).map (SV.toV tyU):=by
  unfold Sy at h;split at h
  ·cases h;rfl
  ·cases h
theorem Arj:Gd tyU 81:=⟨Ns,Nt,fun _=>rfl,fun _=>rfl,fun _ _=>rfl,Aoq,fun m=>match m with|true=>Ahk|false=>Ahl,(fun h=>by cases h),fun _=>rfl,fun _ _=>rfl,fun x _=>Vq x,fun _=>rfl,Aq fun _=>rfl⟩
theorem Aj3 (c x)(h:Yn c=some x):c.map (SV.toV tyU)=Dm x:=by
  unfold Yn at h;split at h
  ·cases h;rfl
  ·cases h
theorem Acd (c x)(h:Mv c=some x):c.map (SV.toV tyU)=(Bc 149 true x).map (SV.toV tyU):=by
  unfold Mv at h;split at h
  ·cases h;rfl
  ·cases h
theorem Aor:Gd tyU 149:=⟨Nu,Nv,fun _=>rfl,fun _=>rfl,fun _ _=>rfl,Aj3,fun _=>Acd,(fun h=>by cases h),fun _=>rfl,fun _ _=>rfl,fun x _=>Vr x,fun _=>rfl,Aq fun _=>rfl⟩
theorem Aj4 (c x)(h:Yo c=some x):c.map (SV.toV tyU)=Co x:=by
  unfold Yo at h;split at h
  ·cases h;rfl
  ·cases h
theorem Ace (c x)(h:Mw c=some x):c.map (SV.toV tyU)=(Bc 171 true x).map (SV.toV tyU):=by
  unfold Mw at h;split at h
  ·cases h;rfl
  ·cases h
theorem Acf (c x)(h:Mx c=some x):c.map (SV.toV tyU)=(Bc 171 false x).map (SV.toV tyU):=by
  unfold Mx at h;split at h
  ·cases h;rfl
  ·cases h
theorem Aos:Gd tyU 171:=⟨Kf,Kg,fun _=>rfl,fun _=>rfl,(fun m _=>by cases m<;>rfl),Aj4,fun m=>match m with|true=>Ace|false=>Acf,(fun h=>by cases h),fun _=>rfl,(fun m _=>by cases m<;>rfl),fun x _=>Ny x,fun _=>rfl,Aq fun _=>rfl⟩
theorem Aj5 (c x)(h:Yp c=some x):c.map (SV.toV tyU)=F9 x:=by
  unfold Yp at h;split at h
  ·cases h;rfl
  ·cases h
theorem Acg (c x)(h:My c=some x):c.map (SV.toV tyU)=(Bc 222 true x).map (SV.toV tyU):=by
  unfold My at h;split at h
  ·cases h;rfl
  ·cases h
theorem Aot:Gd tyU 222:=⟨Gn,Vn,fun _=>rfl,fun _=>rfl,fun _ _=>rfl,Aj5,fun _=>Acg,fun _=>rfl,fun _=>rfl,fun _ _=>rfl,fun _ _=>rfl,fun _=>rfl,Aq fun _=>rfl⟩
theorem Aj6 (c x)(h:Yq c=some x):c.map (SV.toV tyU)=F9 x:=by
  unfold Yq at h;split at h
  ·cases h;rfl
  ·cases h
theorem Ach (c x)(h:Mz c=some x):c.map (SV.toV tyU)=(Bc 225 true x).map (SV.toV tyU):=by
  unfold Mz at h;split at h
  ·cases h;rfl
  ·cases h
theorem Aou:Gd tyU 225:=⟨Gn,Vn,fun _=>rfl,fun _=>rfl,fun _ _=>rfl,Aj6,fun _=>Ach,fun _=>rfl,fun _=>rfl,fun _ _=>rfl,fun _ _=>rfl,fun _=>rfl,Aq fun _=>rfl⟩
theorem Aj7 (c x)(h:Yr c=some x):c.map (SV.toV tyU)=J0 x:=by
  unfold Yr at h;split at h
  ·cases h;rfl
  ·cases h
theorem Aci (c x)(h:M0 c=some x):c.map (SV.toV tyU)=(Bc 248 true x).map (SV.toV tyU):=by
  unfold M0 at h;split at h
  ·cases h;rfl
  ·cases h
theorem Aov:Gd tyU 248:=⟨H6,Af9,fun _=>rfl,fun _=>rfl,fun _ _=>rfl,Aj7,fun _=>Aci,fun _=>rfl,fun _=>rfl,fun _ _=>rfl,fun _ _=>rfl,fun _=>rfl,Aq fun _=>rfl⟩
theorem Acj (c x)(h:Mp c=some x):c.map (SV.toV tyU)=Bh x:=by
  unfold Mp at h;split at h
  ·cases h;rfl
  ·cases h
theorem Vs (c x)(h:Hf c=some x):c.map (SV.toV tyU)=(Bc 10038 true x).map (SV.toV tyU):=by
  unfold Hf at h;split at h
  ·cases h;rfl
  ·cases h
theorem Vt (c x)(h:Hg c=some x):c.map (SV.toV tyU)=(Bc 10038 false x).map (SV.toV tyU):=by
  unfold Hg at h;split at h
  ·cases h;rfl
  ·cases h
theorem Ack (x:Bo)(j:Nat)(v:V)(hj:(Cm x)[j]? =some v)(e:Vo 10038 j=true):v.share=v:=by
 rw[show j=1000 from Z2 e]at hj;cases hj
theorem Ahm:Gd tyU 10038:=⟨Ge,Gf,fun _=>rfl,fun _=>rfl,(fun m _=>by cases m<;>rfl),Acj,fun m=>match m with|true=>Vs|false=>Vt,(fun h=>by cases h),fun _=>rfl,(fun m _=>by cases m<;>rfl),(fun _ h=>by cases h),fun _=>rfl,Ack⟩
theorem Aj8{t:Nat}(h2:t≠2)(h3:t≠3)(h4:t≠4)(h5:t≠5)(h9:t≠9)(h23:t≠23)(h24:t≠24)(h25:t≠25)(h27:t≠27)(h237:t≠237)(h157:t≠157)(h159:t≠159)(h28:t≠28)(h161:t≠161)(h29:t≠29)(h31:t≠31)(h33:t≠33)(h34:t≠34)(h183:t≠183)(h75:t≠75)(h77:t≠77)(h35:t≠35)(h79:t≠79)(h36:t≠36)(h38:t≠38)(h40:t≠40)(h42:t≠42)(h44:t≠44)(h55:t≠55)(h81:t≠81)(h149:t≠149)(h171:t≠171)(h222:t≠222)(h225:t≠225)(h248:t≠248)(h10038:t≠10038):Anl t=0:=by
 unfold Anl;split<;>first|rfl|contradiction
theorem Aj9{t:Nat}(h2:t≠2)(h3:t≠3)(h4:t≠4)(h5:t≠5)(h9:t≠9)(h23:t≠23)(h24:t≠24)(h25:t≠25)(h27:t≠27)(h237:t≠237)(h157:t≠157)(h159:t≠159)(h28:t≠28)(h161:t≠161)(h29:t≠29)(h31:t≠31)(h33:t≠33)(h34:t≠34)(h183:t≠183)(h75:t≠75)(h77:t≠77)(h35:t≠35)(h79:t≠79)(h36:t≠36)(h38:t≠38)(h40:t≠40)(h42:t≠42)(h44:t≠44)(h55:t≠55)(h81:t≠81)(h149:t≠149)(h171:t≠171)(h222:t≠222)(h225:t≠225)(h248:t≠248)(h10038:t≠10038)(x):Ann t x=[]:=by
 unfold Ann;split<;>first|rfl|contradiction
theorem Aka{t:Nat}(h2:t≠2)(h3:t≠3)(h4:t≠4)(h5:t≠5)(h9:t≠9)(h23:t≠23)(h24:t≠24)(h25:t≠25)(h27:t≠27)(h237:t≠237)(h157:t≠157)(h159:t≠159)(h28:t≠28)(h161:t≠161)(h29:t≠29)(h31:t≠31)(h33:t≠33)(h34:t≠34)(h183:t≠183)(h75:t≠75)(h77:t≠77)(h35:t≠35)(h79:t≠79)(h36:t≠36)(h38:t≠38)(h40:t≠40)(h42:t≠42)(h44:t≠44)(h55:t≠55)(h81:t≠81)(h149:t≠149)(h171:t≠171)(h222:t≠222)(h225:t≠225)(h248:t≠248)(h10038:t≠10038)(x):Ano t x=[]:=by
 unfold Ano;split<;>first|rfl|contradiction
theorem Akb{t:Nat}(h2:t≠2)(h3:t≠3)(h4:t≠4)(h5:t≠5)(h9:t≠9)(h23:t≠23)(h24:t≠24)(h25:t≠25)(h27:t≠27)(h237:t≠237)(h157:t≠157)(h159:t≠159)(h28:t≠28)(h161:t≠161)(h29:t≠29)(h31:t≠31)(h33:t≠33)(h34:t≠34)(h183:t≠183)(h75:t≠75)(h77:t≠77)(h35:t≠35)(h79:t≠79)(h36:t≠36)(h38:t≠38)(h40:t≠40)(h42:t≠42)(h44:t≠44)(h55:t≠55)(h81:t≠81)(h149:t≠149)(h171:t≠171)(h222:t≠222)(h225:t≠225)(h248:t≠248)(h10038:t≠10038)(x):Anp t x=[]:=by
 unfold Anp;split<;>first|rfl|contradiction
theorem Akc{t:Nat}(h2:t≠2)(h3:t≠3)(h4:t≠4)(h5:t≠5)(h9:t≠9)(h23:t≠23)(h24:t≠24)(h25:t≠25)(h27:t≠27)(h237:t≠237)(h157:t≠157)(h159:t≠159)(h28:t≠28)(h161:t≠161)(h29:t≠29)(h31:t≠31)(h33:t≠33)(h34:t≠34)(h183:t≠183)(h75:t≠75)(h77:t≠77)(h35:t≠35)(h79:t≠79)(h36:t≠36)(h38:t≠38)(h40:t≠40)(h42:t≠42)(h44:t≠44)(h55:t≠55)(h81:t≠81)(h149:t≠149)(h171:t≠171)(h222:t≠222)(h225:t≠225)(h248:t≠248)(h10038:t≠10038)(m)(x):Bc t m x=[]:=by
 unfold Bc;split<;>first|rfl|contradiction
theorem Akd{t:Nat}(h2:t≠2)(h3:t≠3)(h4:t≠4)(h5:t≠5)(h9:t≠9)(h23:t≠23)(h24:t≠24)(h25:t≠25)(h27:t≠27)(h237:t≠237)(h157:t≠157)(h159:t≠159)(h28:t≠28)(h161:t≠161)(h29:t≠29)(h31:t≠31)(h33:t≠33)(h34:t≠34)(h183:t≠183)(h75:t≠75)(h77:t≠77)(h35:t≠35)(h79:t≠79)(h36:t≠36)(h38:t≠38)(h40:t≠40)(h42:t≠42)(h44:t≠44)(h55:t≠55)(h81:t≠81)(h149:t≠149)(h171:t≠171)(h222:t≠222)(h225:t≠225)(h248:t≠248)(h10038:t≠10038)(c):Anv t c=none:=by
 unfold Anv;split<;>first|rfl|contradiction
theorem Ake{t:Nat}(h2:t≠2)(h3:t≠3)(h4:t≠4)(h5:t≠5)(h9:t≠9)(h23:t≠23)(h24:t≠24)(h25:t≠25)(h27:t≠27)(h237:t≠237)(h157:t≠157)(h159:t≠159)(h28:t≠28)(h161:t≠161)(h29:t≠29)(h31:t≠31)(h33:t≠33)(h34:t≠34)(h183:t≠183)(h75:t≠75)(h77:t≠77)(h35:t≠35)(h79:t≠79)(h36:t≠36)(h38:t≠38)(h40:t≠40)(h42:t≠42)(h44:t≠44)(h55:t≠55)(h81:t≠81)(h149:t≠149)(h171:t≠171)(h222:t≠222)(h225:t≠225)(h248:t≠248)(h10038:t≠10038)(m)(c):Anw t m c=none:=by
 unfold Anw;split<;>first|rfl|contradiction
theorem df{t:Nat}(h2:t≠2)(h3:t≠3)(h4:t≠4)(h5:t≠5)(h9:t≠9)(h23:t≠23)(h24:t≠24)(h25:t≠25)(h27:t≠27)(h237:t≠237)(h157:t≠157)(h159:t≠159)(h28:t≠28)(h161:t≠161)(h29:t≠29)(h31:t≠31)(h33:t≠33)(h34:t≠34)(h183:t≠183)(h75:t≠75)(h77:t≠77)(h35:t≠35)(h79:t≠79)(h36:t≠36)(h38:t≠38)(h40:t≠40)(h42:t≠42)(h44:t≠44)(h55:t≠55)(h81:t≠81)(h149:t≠149)(h171:t≠171)(h222:t≠222)(h225:t≠225)(h248:t≠248)(h10038:t≠10038):Dft tyU t:=⟨Aj8 h2 h3 h4 h5 h9 h23 h24 h25 h27 h237 h157 h159 h28 h161 h29 h31 h33 h34 h183 h75 h77 h35 h79 h36 h38 h40 h42 h44 h55 h81 h149 h171 h222 h225 h248 h10038,Aj9 h2 h3 h4 h5 h9 h23 h24 h25 h27 h237 h157 h159 h28 h161 h29 h31 h33 h34 h183 h75 h77 h35 h79 h36 h38 h40 h42 h44 h55 h81 h149 h171 h222 h225 h248 h10038,Aka h2 h3 h4 h5 h9 h23 h24 h25 h27 h237 h157 h159 h28 h161 h29 h31 h33 h34 h183 h75 h77 h35 h79 h36 h38 h40 h42 h44 h55 h81 h149 h171 h222 h225 h248 h10038,Akb h2 h3 h4 h5 h9 h23 h24 h25 h27 h237 h157 h159 h28 h161 h29 h31 h33 h34 h183 h75 h77 h35 h79 h36 h38 h40 h42 h44 h55 h81 h149 h171 h222 h225 h248 h10038,Akc h2 h3 h4 h5 h9 h23 h24 h25 h27 h237 h157 h159 h28 h161 h29 h31 h33 h34 h183 h75 h77 h35 h79 h36 h38 h40 h42 h44 h55 h81 h149 h171 h222 h225 h248 h10038,Akd h2 h3 h4 h5 h9 h23 h24 h25 h27 h237 h157 h159 h28 h161 h29 h31 h33 h34 h183 h75 h77 h35 h79 h36 h38 h40 h42 h44 h55 h81 h149 h171 h222 h225 h248 h10038,Ake h2 h3 h4 h5 h9 h23 h24 h25 h27 h237 h157 h159 h28 h161 h29 h31 h33 h34 h183 h75 h77 h35 h79 h36 h38 h40 h42 h44 h55 h81 h149 h171 h222 h225 h248 h10038⟩
theorem Avb:Ab tyU:=Ab.of fun t=>if h2:t=2 then by subst h2;exact Att else if h3:t=3 then by subst h3;exact Atu else if h4:t=4 then by subst h4;exact Atv else if h5:t=5 then by subst h5;exact Atw else if h9:t=9 then by subst h9;exact Atx else if h23:t=23 then by subst h23;exact Aq0 else if h24:t=24 then by subst h24;exact Aq1 else if h25:t=25 then by subst h25;exact Aq2 else if h27:t=27 then by subst h27;exact Aq3 else if h237:t=237 then by subst h237;exact An3 else if h157:t=157 then by subst h157;exact An4 else if h159:t=159 then by subst h159;exact An5 else if h28:t=28 then by subst h28;exact Aq4 else if h161:t=161 then by subst h161;exact An7 else if h29:t=29 then by subst h29;exact Aq5 else if h31:t=31 then by subst h31;exact Aq6 else if h33:t=33 then by subst h33;exact Aq7 else if h34:t=34 then by subst h34;exact Aq8 else if h183:t=183 then by subst h183;exact Aoc else if h75:t=75 then by subst h75;exact Aq9 else if h77:t=77 then by subst h77;exact Ara else if h35:t=35 then by subst h35;exact Arb else if h79:t=79 then by subst h79;exact Arc else if h36:t=36 then by subst h36;exact Ard else if h38:t=38 then by subst h38;exact Are else if h40:t=40 then by subst h40;exact Arf else if h42:t=42 then by subst h42;exact Arg else if h44:t=44 then by subst h44;exact Arh else if h55:t=55 then by subst h55;exact Ari else if h81:t=81 then by subst h81;exact Arj else if h149:t=149 then by subst h149;exact Aor else if h171:t=171 then by subst h171;exact Aos else if h222:t=222 then by subst h222;exact Aot else if h225:t=225 then by subst h225;exact Aou else if h248:t=248 then by subst h248;exact Aov else if h10038:t=10038 then by subst h10038;exact Ahm else(df h2 h3 h4 h5 h9 h23 h24 h25 h27 h237 h157 h159 h28 h161 h29 h31 h33 h34 h183 h75 h77 h35 h79 h36 h38 h40 h42 h44 h55 h81 h149 h171 h222 h225 h248 h10038).un1
def eqs:List Nat:=[23,237,33,183,40,42]
theorem Aud:Aed Tryz.prog tab (eqT eqs):=Ajp (by kernel_rfl)
end Go.Proofs.YtgcnddnmhllahaaGreat
