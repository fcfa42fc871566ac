/- The types of the seat; no condition. Printed by uni.py. -/
import Derived.Test.YtgcnddnmhllahaaGreatIc
import Derived.Test.YtgcnddnmhllahaaGreatJTab
set_option linter.all false
namespace Go.Proofs.YtgcnddnmhllahaaGreat
open Go.Eng
structure Ss where
 L:Int
 k:Int
 l:Int
 e:Int
 m:Int
 n:Int
 deriving Inhabited
structure Pb where
 g:List Int
 c:List Int
 h:List Int
 deriving Inhabited
structure H2 where
 B:Int
 D:Int
 E:Int
 deriving Inhabited
structure G7 where
 c:Int
 a:Int
 f:Int
 s:Int
 t:Int
 i:Int
 u:Int
 v:Int
 L:List Int
 w:Int
 x:Int
 y:List H2
 j:List Int
 deriving Inhabited
structure G8 where
 d:Int
 i:Int
 j:List Int
 L:List Int
 z:Int
 deriving Inhabited
structure Su where
 C:Ss
 Q:Pb
 o:List G7
 p:List G8
 q:List Int
 deriving Inhabited
structure Sv where
 L:Int
 k:Int
 l:Int
 e:Int
 m:Int
 n:Int
 deriving Inhabited
structure Pc where
 g:List Int
 c:List Int
 h:List Int
 deriving Inhabited
structure H3 where
 B:Int
 D:Int
 E:Int
 deriving Inhabited
structure Fy where
 c:Int
 a:Int
 f:Int
 s:Int
 t:Int
 i:Int
 u:Int
 v:Int
 L:List Int
 w:Int
 x:Int
 y:List H3
 j:List Int
 deriving Inhabited
structure G9 where
 d:Int
 i:Int
 j:List Int
 L:List Int
 z:Int
 deriving Inhabited
structure H4 where
 C:Sv
 Q:Pc
 o:List Fy
 p:List G9
 q:List Int
 deriving Inhabited
structure Lz where
 d:Int
 a:Int
 deriving Inhabited
structure Pd where
 P:Lz
 f:Int
 r:Int
 deriving Inhabited
structure Sw where
 F:Int
 P:Lz
 b:Pd
 A:List Int
 G:Int
 e:Int
 H:Int
 deriving Inhabited
structure H5 where
 I:Int
 P:Lz
 b:Pd
 J:Int
 K:Int
 A:List Int
 deriving Inhabited
structure Sx where
 fb:List Int
 fi:Int
 fh:Int
 deriving Inhabited
def Aq (x:Int):List V:=[.int .i64 x]
theorem Cp:En Aq 1:=⟨fun _=>rfl,fun _=>rfl,fun _=>rfl,fun x=>rfl⟩
theorem Aip:Ay Aq Aq 1:=⟨Cp.len,Cp.closed,Cp.share⟩
def Ha (x:Bool):List V:=[.bool x]
theorem L4:En Ha 1:=⟨fun _=>rfl,fun _=>rfl,fun _=>rfl,fun x=>rfl⟩
theorem Ash:Ay Ha Ha 1:=⟨L4.len,L4.closed,L4.share⟩
def Bu (x:Int):List V:=[.int .u8 x]
theorem Dc:En Bu 1:=⟨fun _=>rfl,fun _=>rfl,fun _=>rfl,fun x=>rfl⟩
theorem Asi:Ay Bu Bu 1:=⟨Dc.len,Dc.closed,Dc.share⟩
def L5 (x:ByteArray):List V:=[.str x]
theorem Sy:En L5 1:=⟨fun _=>rfl,fun _=>rfl,fun _=>rfl,fun x=>rfl⟩
theorem Asj:Ay L5 L5 1:=⟨Sy.len,Sy.closed,Sy.share⟩
def L6 (x:Ss):List V:=[.int .i64 x.L,.int .i64 x.k,.int .i64 x.l,.int .i64 x.e,.int .i64 x.m,.int .i64 x.n]
theorem Sz:En L6 6:=⟨fun _=>rfl,fun _=>rfl,fun _=>rfl,fun x=>rfl⟩
theorem Asl:Ay L6 L6 6:=⟨Sz.len,Sz.closed,Sz.share⟩
def L7 (x:List Int):List V:=[.row false 1 (x.map Bu)]
theorem Asm:En L7 1:=⟨fun _=>rfl,fun _=>rfl,fun _=>rfl,fun x=>by simp only[L7,Au,V.share,Dc.shareLL]⟩
def Pe (x:List Int):List V:=[.row true 1 (x.map Bu)]
theorem Asn:Ay Pe L7 1:=⟨fun _=>rfl,fun _=>rfl,fun x=>by simp only[Pe,L7,Au,V.share,Dc.shareLL]⟩
def L8 (x:List Int):List V:=[.row false 1 (x.map Aq)]
theorem Aso:En L8 1:=⟨fun _=>rfl,fun _=>rfl,fun _=>rfl,fun x=>by simp only[L8,Au,V.share,Cp.shareLL]⟩
def Pf (x:List Int):List V:=[.row true 1 (x.map Aq)]
theorem Asp:Ay Pf L8 1:=⟨fun _=>rfl,fun _=>rfl,fun x=>by simp only[Pf,L8,Au,V.share,Cp.shareLL]⟩
def L9 (x:Pb):List V:=[.row false 1 (x.g.map Bu),.row false 1 (x.c.map Aq),.row false 1 (x.h.map Aq)]
theorem Asq:En L9 3:=⟨fun _=>rfl,fun _=>rfl,fun _=>rfl,fun x=>by simp only[L9,Au,V.share,Dc.shareLL,Cp.shareLL]⟩
def Pg (x:Pb):List V:=[.row true 1 (x.g.map Bu),.row true 1 (x.c.map Aq),.row true 1 (x.h.map Aq)]
theorem Asr:Ay Pg L9 3:=⟨fun _=>rfl,fun _=>rfl,fun x=>by simp only[Pg,L9,Au,V.share,Dc.shareLL,Cp.shareLL]⟩
def Fj (x:H2):List V:=[.int .i64 x.B,.int .i64 x.D,.int .i64 x.E]
theorem H6:En Fj 3:=⟨fun _=>rfl,fun _=>rfl,fun _=>rfl,fun x=>rfl⟩
theorem Ass:Ay Fj Fj 3:=⟨H6.len,H6.closed,H6.share⟩
def Ma (x:List H2):List V:=[.row false 3 (x.map Fj)]
theorem Ast:En Ma 1:=⟨fun _=>rfl,fun _=>rfl,fun _=>rfl,fun x=>by simp only[Ma,Au,V.share,H6.shareLL]⟩
def Ph (x:List H2):List V:=[.row true 3 (x.map Fj)]
theorem Asu:Ay Ph Ma 1:=⟨fun _=>rfl,fun _=>rfl,fun x=>by simp only[Ph,Ma,Au,V.share,H6.shareLL]⟩
def H7 (x:G7):List V:=[.int .i64 x.c,.int .i64 x.a,.int .i64 x.f,.int .i64 x.s,.int .i64 x.t,.int .i64 x.i,.int .i64 x.u,.int .i64 x.v,.row false 1 (x.L.map Aq),.int .i64 x.w,.int .i64 x.x,.row false 3 (x.y.map Fj),.row false 1 (x.j.map Aq)]
theorem Abk:En H7 13:=⟨fun _=>rfl,fun _=>rfl,fun _=>rfl,fun x=>by simp only[H7,Au,V.share,Cp.shareLL,H6.shareLL]⟩
def Kg (x:G7):List V:=[.int .i64 x.c,.int .i64 x.a,.int .i64 x.f,.int .i64 x.s,.int .i64 x.t,.int .i64 x.i,.int .i64 x.u,.int .i64 x.v,.row true 1 (x.L.map Aq),.int .i64 x.w,.int .i64 x.x,.row true 3 (x.y.map Fj),.row true 1 (x.j.map Aq)]
theorem Abl:Ay Kg H7 13:=⟨fun _=>rfl,fun _=>rfl,fun x=>by simp only[Kg,H7,Au,V.share,Cp.shareLL,H6.shareLL]⟩
def Mb (x:List G7):List V:=[.row false 13 (x.map H7)]
theorem Asv:En Mb 1:=⟨fun _=>rfl,fun _=>rfl,fun _=>rfl,fun x=>by simp only[Mb,Au,V.share,Abk.shareLL]⟩
def Pj (x:List G7):List V:=[.row true 13 (x.map Kg)]
theorem Asw:Ay Pj Mb 1:=⟨fun _=>rfl,fun _=>rfl,fun x=>by simp only[Pj,Mb,Au,V.share,Abl.shareLL]⟩
def H8 (x:G8):List V:=[.int .i64 x.d,.int .i64 x.i,.row false 1 (x.j.map Aq),.row false 1 (x.L.map Aq),.int .i64 x.z]
theorem Abm:En H8 5:=⟨fun _=>rfl,fun _=>rfl,fun _=>rfl,fun x=>by simp only[H8,Au,V.share,Cp.shareLL]⟩
def Kh (x:G8):List V:=[.int .i64 x.d,.int .i64 x.i,.row true 1 (x.j.map Aq),.row true 1 (x.L.map Aq),.int .i64 x.z]
theorem Abn:Ay Kh H8 5:=⟨fun _=>rfl,fun _=>rfl,fun x=>by simp only[Kh,H8,Au,V.share,Cp.shareLL]⟩
def Mc (x:List G8):List V:=[.row false 5 (x.map H8)]
theorem Asx:En Mc 1:=⟨fun _=>rfl,fun _=>rfl,fun _=>rfl,fun x=>by simp only[Mc,Au,V.share,Abm.shareLL]⟩
def Pk (x:List G8):List V:=[.row true 5 (x.map Kh)]
theorem Asy:Ay Pk Mc 1:=⟨fun _=>rfl,fun _=>rfl,fun x=>by simp only[Pk,Mc,Au,V.share,Abn.shareLL]⟩
def Md (x:Su):List V:=[.int .i64 x.C.L,.int .i64 x.C.k,.int .i64 x.C.l,.int .i64 x.C.e,.int .i64 x.C.m,.int .i64 x.C.n,.row false 1 (x.Q.g.map Bu),.row false 1 (x.Q.c.map Aq),.row false 1 (x.Q.h.map Aq),.row false 13 (x.o.map H7),.row false 5 (x.p.map H8),.row false 1 (x.q.map Aq)]
theorem Asz:En Md 12:=⟨fun _=>rfl,fun _=>rfl,fun _=>rfl,fun x=>by simp only[Md,Au,V.share,Dc.shareLL,Cp.shareLL,Abk.shareLL,Abm.shareLL]⟩
def Pl (x:Su):List V:=[.int .i64 x.C.L,.int .i64 x.C.k,.int .i64 x.C.l,.int .i64 x.C.e,.int .i64 x.C.m,.int .i64 x.C.n,.row true 1 (x.Q.g.map Bu),.row true 1 (x.Q.c.map Aq),.row true 1 (x.Q.h.map Aq),.row true 13 (x.o.map Kg),.row true 5 (x.p.map Kh),.row true 1 (x.q.map Aq)]
theorem As0:Ay Pl Md 12:=⟨fun _=>rfl,fun _=>rfl,fun x=>by simp only[Pl,Md,Au,V.share,Dc.shareLL,Cp.shareLL,Abl.shareLL,Abn.shareLL]⟩
def Me (x:Sv):List V:=[.int .i64 x.L,.int .i64 x.k,.int .i64 x.l,.int .i64 x.e,.int .i64 x.m,.int .i64 x.n]
theorem S4:En Me 6:=⟨fun _=>rfl,fun _=>rfl,fun _=>rfl,fun x=>rfl⟩
theorem As1:Ay Me Me 6:=⟨S4.len,S4.closed,S4.share⟩
def Mf (x:Pc):List V:=[.row false 1 (x.g.map Bu),.row false 1 (x.c.map Aq),.row false 1 (x.h.map Aq)]
theorem As2:En Mf 3:=⟨fun _=>rfl,fun _=>rfl,fun _=>rfl,fun x=>by simp only[Mf,Au,V.share,Dc.shareLL,Cp.shareLL]⟩
def Pm (x:Pc):List V:=[.row true 1 (x.g.map Bu),.row true 1 (x.c.map Aq),.row true 1 (x.h.map Aq)]
theorem As3:Ay Pm Mf 3:=⟨fun _=>rfl,fun _=>rfl,fun x=>by simp only[Pm,Mf,Au,V.share,Dc.shareLL,Cp.shareLL]⟩
def Fz (x:H3):List V:=[.int .i64 x.B,.int .i64 x.D,.int .i64 x.E]
theorem H9:En Fz 3:=⟨fun _=>rfl,fun _=>rfl,fun _=>rfl,fun x=>rfl⟩
theorem As4:Ay Fz Fz 3:=⟨H9.len,H9.closed,H9.share⟩
def Mg (x:List H3):List V:=[.row false 3 (x.map Fz)]
theorem As5:En Mg 1:=⟨fun _=>rfl,fun _=>rfl,fun _=>rfl,fun x=>by simp only[Mg,Au,V.share,H9.shareLL]⟩
def Pn (x:List H3):List V:=[.row true 3 (x.map Fz)]
theorem As6:Ay Pn Mg 1:=⟨fun _=>rfl,fun _=>rfl,fun x=>by simp only[Pn,Mg,Au,V.share,H9.shareLL]⟩
def Ja (x:Fy):List V:=[.int .i64 x.c,.int .i64 x.a,.int .i64 x.f,.int .i64 x.s,.int .i64 x.t,.int .i64 x.i,.int .i64 x.u,.int .i64 x.v,.row false 1 (x.L.map Aq),.int .i64 x.w,.int .i64 x.x,.row false 3 (x.y.map Fz),.row false 1 (x.j.map Aq)]
theorem Abo:En Ja 13:=⟨fun _=>rfl,fun _=>rfl,fun _=>rfl,fun x=>by simp only[Ja,Au,V.share,Cp.shareLL,H9.shareLL]⟩
def Mh (x:Fy):List V:=[.int .i64 x.c,.int .i64 x.a,.int .i64 x.f,.int .i64 x.s,.int .i64 x.t,.int .i64 x.i,.int .i64 x.u,.int .i64 x.v,.row false 1 (x.L.map Aq),.int .i64 x.w,.int .i64 x.x,.row true 3 (x.y.map Fz),.row true 1 (x.j.map Aq)]
theorem Abp:Ay Mh Ja 13:=⟨fun _=>rfl,fun _=>rfl,fun x=>by simp only[Mh,Ja,Au,V.share,Cp.shareLL,H9.shareLL]⟩
def Mi (x:List Fy):List V:=[.row false 13 (x.map Ja)]
theorem As7:En Mi 1:=⟨fun _=>rfl,fun _=>rfl,fun _=>rfl,fun x=>by simp only[Mi,Au,V.share,Abo.shareLL]⟩
def S5 (x:List Fy):List V:=[.row true 13 (x.map Mh)]
theorem As8:Ay S5 Mi 1:=⟨fun _=>rfl,fun _=>rfl,fun x=>by simp only[S5,Mi,Au,V.share,Abp.shareLL]⟩
def Jb (x:G9):List V:=[.int .i64 x.d,.int .i64 x.i,.row false 1 (x.j.map Aq),.row false 1 (x.L.map Aq),.int .i64 x.z]
theorem Abq:En Jb 5:=⟨fun _=>rfl,fun _=>rfl,fun _=>rfl,fun x=>by simp only[Jb,Au,V.share,Cp.shareLL]⟩
def Ki (x:G9):List V:=[.int .i64 x.d,.int .i64 x.i,.row true 1 (x.j.map Aq),.row true 1 (x.L.map Aq),.int .i64 x.z]
theorem Abr:Ay Ki Jb 5:=⟨fun _=>rfl,fun _=>rfl,fun x=>by simp only[Ki,Jb,Au,V.share,Cp.shareLL]⟩
def Mj (x:List G9):List V:=[.row false 5 (x.map Jb)]
theorem As9:En Mj 1:=⟨fun _=>rfl,fun _=>rfl,fun _=>rfl,fun x=>by simp only[Mj,Au,V.share,Abq.shareLL]⟩
def Po (x:List G9):List V:=[.row true 5 (x.map Ki)]
theorem Ata:Ay Po Mj 1:=⟨fun _=>rfl,fun _=>rfl,fun x=>by simp only[Po,Mj,Au,V.share,Abr.shareLL]⟩
def Jc (x:H4):List V:=[.int .i64 x.C.L,.int .i64 x.C.k,.int .i64 x.C.l,.int .i64 x.C.e,.int .i64 x.C.m,.int .i64 x.C.n,.row false 1 (x.Q.g.map Bu),.row false 1 (x.Q.c.map Aq),.row false 1 (x.Q.h.map Aq),.row false 13 (x.o.map Ja),.row false 5 (x.p.map Jb),.row false 1 (x.q.map Aq)]
theorem Aiq:En Jc 12:=⟨fun _=>rfl,fun _=>rfl,fun _=>rfl,fun x=>by simp only[Jc,Au,V.share,Dc.shareLL,Cp.shareLL,Abo.shareLL,Abq.shareLL]⟩
def Mk (x:H4):List V:=[.int .i64 x.C.L,.int .i64 x.C.k,.int .i64 x.C.l,.int .i64 x.C.e,.int .i64 x.C.m,.int .i64 x.C.n,.row true 1 (x.Q.g.map Bu),.row true 1 (x.Q.c.map Aq),.row true 1 (x.Q.h.map Aq),.row true 13 (x.o.map Mh),.row true 5 (x.p.map Ki),.row true 1 (x.q.map Aq)]
theorem Air:Ay Mk Jc 12:=⟨fun _=>rfl,fun _=>rfl,fun x=>by simp only[Mk,Jc,Au,V.share,Dc.shareLL,Cp.shareLL,Abp.shareLL,Abr.shareLL]⟩
def Ml (x:Lz):List V:=[.int .i64 x.d,.int .i64 x.a]
theorem S6:En Ml 2:=⟨fun _=>rfl,fun _=>rfl,fun _=>rfl,fun x=>rfl⟩
theorem Atb:Ay Ml Ml 2:=⟨S6.len,S6.closed,S6.share⟩
def Mm (x:Pd):List V:=[.int .i64 x.P.d,.int .i64 x.P.a,.int .i64 x.f,.int .i64 x.r]
theorem S7:En Mm 4:=⟨fun _=>rfl,fun _=>rfl,fun _=>rfl,fun x=>rfl⟩
theorem Atc:Ay Mm Mm 4:=⟨S7.len,S7.closed,S7.share⟩
def Mn (x:Sw):List V:=[.int .i64 x.F,.int .i64 x.P.d,.int .i64 x.P.a,.int .i64 x.b.P.d,.int .i64 x.b.P.a,.int .i64 x.b.f,.int .i64 x.b.r,.row false 1 (x.A.map Bu),.int .i64 x.G,.int .i64 x.e,.int .i64 x.H]
theorem Atd:En Mn 11:=⟨fun _=>rfl,fun _=>rfl,fun _=>rfl,fun x=>by simp only[Mn,Au,V.share,Dc.shareLL]⟩
def Pp (x:Sw):List V:=[.int .i64 x.F,.int .i64 x.P.d,.int .i64 x.P.a,.int .i64 x.b.P.d,.int .i64 x.b.P.a,.int .i64 x.b.f,.int .i64 x.b.r,.row true 1 (x.A.map Bu),.int .i64 x.G,.int .i64 x.e,.int .i64 x.H]
theorem Ate:Ay Pp Mn 11:=⟨fun _=>rfl,fun _=>rfl,fun x=>by simp only[Pp,Mn,Au,V.share,Dc.shareLL]⟩
def Kj (x:H5):List V:=[.int .i64 x.I,.int .i64 x.P.d,.int .i64 x.P.a,.int .i64 x.b.P.d,.int .i64 x.b.P.a,.int .i64 x.b.f,.int .i64 x.b.r,.int .i64 x.J,.int .i64 x.K,.row false 1 (x.A.map Bu)]
theorem Ais:En Kj 10:=⟨fun _=>rfl,fun _=>rfl,fun _=>rfl,fun x=>by simp only[Kj,Au,V.share,Dc.shareLL]⟩
def Mo (x:H5):List V:=[.int .i64 x.I,.int .i64 x.P.d,.int .i64 x.P.a,.int .i64 x.b.P.d,.int .i64 x.b.P.a,.int .i64 x.b.f,.int .i64 x.b.r,.int .i64 x.J,.int .i64 x.K,.row true 1 (x.A.map Bu)]
theorem Ait:Ay Mo Kj 10:=⟨fun _=>rfl,fun _=>rfl,fun x=>by simp only[Mo,Kj,Au,V.share,Dc.shareLL]⟩
def Mp (x:List H5):List V:=[.row false 10 (x.map Kj)]
theorem Atf:En Mp 1:=⟨fun _=>rfl,fun _=>rfl,fun _=>rfl,fun x=>by simp only[Mp,Au,V.share,Ais.shareLL]⟩
def Pq (x:List H5):List V:=[.row true 10 (x.map Mo)]
theorem Atg:Ay Pq Mp 1:=⟨fun _=>rfl,fun _=>rfl,fun x=>by simp only[Pq,Mp,Au,V.share,Ait.shareLL]⟩
def Mq (x:List Bool):List V:=[.row false 1 (x.map Ha)]
theorem Ath:En Mq 1:=⟨fun _=>rfl,fun _=>rfl,fun _=>rfl,fun x=>by simp only[Mq,Au,V.share,L4.shareLL]⟩
def Pr (x:List Bool):List V:=[.row true 1 (x.map Ha)]
theorem Ati:Ay Pr Mq 1:=⟨fun _=>rfl,fun _=>rfl,fun x=>by simp only[Pr,Mq,Au,V.share,L4.shareLL]⟩
def Mr (x:Sx):List V:=[.row false 1 (x.fb.map Bu),.int .i64 x.fi,.int .i64 x.fh]
theorem Atj:En Mr 3:=⟨fun _=>rfl,fun _=>rfl,fun _=>rfl,fun x=>by simp only[Mr,Au,V.share,Dc.shareLL]⟩
def Ps (x:Sx):List V:=[.row true 1 (x.fb.map Bu),.int .i64 x.fi,.int .i64 x.fh]
theorem Atk:Ay Ps Mr 3:=⟨fun _=>rfl,fun _=>rfl,fun x=>by simp only[Ps,Mr,Au,V.share,Dc.shareLL]⟩
def Hb (x:Int):List V:=[.int .u64 x]
theorem Pt:En Hb 1:=⟨fun _=>rfl,fun _=>rfl,fun _=>rfl,fun x=>rfl⟩
theorem Aiu:Ay Hb Hb 1:=⟨Pt.len,Pt.closed,Pt.share⟩
def Ms (x:Int):List V:=[.int .u32 x]
theorem S8:En Ms 1:=⟨fun _=>rfl,fun _=>rfl,fun _=>rfl,fun x=>rfl⟩
theorem Atl:Ay Ms Ms 1:=⟨S8.len,S8.closed,S8.share⟩
def Ab:Nat->Type
 |2=>Int
 |3=>Int
 |4=>Bool
 |5=>Int
 |9=>ByteArray
 |23=>Ss
 |24=>List Int
 |25=>List Int
 |27=>Pb
 |237=>H2
 |157=>List H2
 |159=>G7
 |28=>List G7
 |161=>G8
 |29=>List G8
 |31=>Su
 |33=>Sv
 |34=>Pc
 |183=>H3
 |75=>List H3
 |77=>Fy
 |35=>List Fy
 |79=>G9
 |36=>List G9
 |38=>H4
 |40=>Lz
 |42=>Pd
 |44=>Sw
 |55=>H5
 |81=>List H5
 |149=>List Bool
 |171=>Sx
 |222=>Int
 |225=>Int
 |248=>Int
 |10038=>H4
 |_=>Unit
abbrev Atm:(t:Nat)->Inhabited (Ab t)
 |2=>(inferInstance:Inhabited Int)
 |3=>(inferInstance:Inhabited Int)
 |4=>(inferInstance:Inhabited Bool)
 |5=>(inferInstance:Inhabited Int)
 |9=>(inferInstance:Inhabited ByteArray)
 |23=>(inferInstance:Inhabited Ss)
 |24=>(inferInstance:Inhabited (List Int))
 |25=>(inferInstance:Inhabited (List Int))
 |27=>(inferInstance:Inhabited Pb)
 |237=>(inferInstance:Inhabited H2)
 |157=>(inferInstance:Inhabited (List H2))
 |159=>(inferInstance:Inhabited G7)
 |28=>(inferInstance:Inhabited (List G7))
 |161=>(inferInstance:Inhabited G8)
 |29=>(inferInstance:Inhabited (List G8))
 |31=>(inferInstance:Inhabited Su)
 |33=>(inferInstance:Inhabited Sv)
 |34=>(inferInstance:Inhabited Pc)
 |183=>(inferInstance:Inhabited H3)
 |75=>(inferInstance:Inhabited (List H3))
 |77=>(inferInstance:Inhabited Fy)
 |35=>(inferInstance:Inhabited (List Fy))
 |79=>(inferInstance:Inhabited G9)
 |36=>(inferInstance:Inhabited (List G9))
 |38=>(inferInstance:Inhabited H4)
 |40=>(inferInstance:Inhabited Lz)
 |42=>(inferInstance:Inhabited Pd)
 |44=>(inferInstance:Inhabited Sw)
 |55=>(inferInstance:Inhabited H5)
 |81=>(inferInstance:Inhabited (List H5))
 |149=>(inferInstance:Inhabited (List Bool))
 |171=>(inferInstance:Inhabited Sx)
 |222=>(inferInstance:Inhabited Int)
 |225=>(inferInstance:Inhabited Int)
 |248=>(inferInstance:Inhabited Int)
 |10038=>(inferInstance:Inhabited H4)
 |_=>(by unfold Ab;split<;>infer_instance)
def Abs:Nat->Nat
 |2=>1
 |3=>1
 |4=>1
 |5=>1
 |9=>1
 |23=>6
 |24=>1
 |25=>1
 |27=>3
 |237=>3
 |157=>1
 |159=>13
 |28=>1
 |161=>5
 |29=>1
 |31=>12
 |33=>6
 |34=>3
 |183=>3
 |75=>1
 |77=>13
 |35=>1
 |79=>5
 |36=>1
 |38=>12
 |40=>2
 |42=>4
 |44=>11
 |55=>10
 |81=>1
 |149=>1
 |171=>3
 |222=>1
 |225=>1
 |248=>1
 |10038=>12
 |_=>0
def Atn:Nat->Bool
 |2=>true
 |3=>true
 |4=>true
 |5=>true
 |9=>true
 |23=>true
 |24=>false
 |25=>false
 |27=>false
 |237=>true
 |157=>false
 |159=>false
 |28=>false
 |161=>false
 |29=>false
 |31=>false
 |33=>true
 |34=>false
 |183=>true
 |75=>false
 |77=>false
 |35=>false
 |79=>false
 |36=>false
 |38=>false
 |40=>true
 |42=>true
 |44=>false
 |55=>false
 |81=>false
 |149=>false
 |171=>false
 |222=>true
 |225=>true
 |248=>true
 |10038=>false
 |_=>true
def Ato:Nat->Bool
 |2=>false
 |3=>false
 |4=>false
 |5=>false
 |9=>false
 |23=>true
 |24=>false
 |25=>false
 |27=>true
 |237=>true
 |157=>false
 |159=>true
 |28=>false
 |161=>true
 |29=>false
 |31=>true
 |33=>true
 |34=>true
 |183=>true
 |75=>false
 |77=>true
 |35=>false
 |79=>true
 |36=>false
 |38=>true
 |40=>true
 |42=>true
 |44=>true
 |55=>true
 |81=>false
 |149=>false
 |171=>true
 |222=>false
 |225=>false
 |248=>false
 |10038=>true
 |_=>false
def Abt:(t:Nat)->Ab t->List V
 |2,x=>Aq x
 |3,x=>Aq x
 |4,x=>Ha x
 |5,x=>Bu x
 |9,x=>L5 x
 |23,x=>L6 x
 |24,x=>L7 x
 |25,x=>L8 x
 |27,x=>L9 x
 |237,x=>Fj x
 |157,x=>Ma x
 |159,x=>H7 x
 |28,x=>Mb x
 |161,x=>H8 x
 |29,x=>Mc x
 |31,x=>Md x
 |33,x=>Me x
 |34,x=>Mf x
 |183,x=>Fz x
 |75,x=>Mg x
 |77,x=>Ja x
 |35,x=>Mi x
 |79,x=>Jb x
 |36,x=>Mj x
 |38,x=>Jc x
 |40,x=>Ml x
 |42,x=>Mm x
 |44,x=>Mn x
 |55,x=>Kj x
 |81,x=>Mp x
 |149,x=>Mq x
 |171,x=>Mr x
 |222,x=>Hb x
 |225,x=>Hb x
 |248,x=>Ms x
 |10038,x=>Jc x
 |_,_=>[]
def Abu:(t:Nat)->Ab t->List V
 |2,x=>Aq x
 |3,x=>Aq x
 |4,x=>Ha x
 |5,x=>Bu x
 |9,x=>L5 x
 |23,x=>L6 x
 |24,x=>Pe x
 |25,x=>Pf x
 |27,x=>Pg x
 |237,x=>Fj x
 |157,x=>Ph x
 |159,x=>Kg x
 |28,x=>Pj x
 |161,x=>Kh x
 |29,x=>Pk x
 |31,x=>Pl x
 |33,x=>Me x
 |34,x=>Pm x
 |183,x=>Fz x
 |75,x=>Pn x
 |77,x=>Mh x
 |35,x=>S5 x
 |79,x=>Ki x
 |36,x=>Po x
 |38,x=>Mk x
 |40,x=>Ml x
 |42,x=>Mm x
 |44,x=>Pp x
 |55,x=>Mo x
 |81,x=>Pq x
 |149,x=>Pr x
 |171,x=>Ps x
 |222,x=>Hb x
 |225,x=>Hb x
 |248,x=>Ms x
 |10038,x=>Mk x
 |_,_=>[]
def Abv:(t:Nat)->Ab t->List (SV Ab)
 |2,x=>[.int .i64 x 0]
 |3,x=>[.int .i64 x 0]
 |4,x=>[.bool x]
 |5,x=>[.int .u8 x 0]
 |9,x=>[.str x]
 |23,x=>[.int .i64 x.L 0,.int .i64 x.k 0,.int .i64 x.l 0,.int .i64 x.e 0,.int .i64 x.m 0,.int .i64 x.n 0]
 |24,x=>[.row 5 x]
 |25,x=>[.row 3 x]
 |27,x=>[.row 5 x.g,.row 3 x.c,.row 3 x.h]
 |237,x=>[.int .i64 x.B 0,.int .i64 x.D 0,.int .i64 x.E 0]
 |157,x=>[.row 237 x]
 |159,x=>[.int .i64 x.c 0,.int .i64 x.a 0,.int .i64 x.f 0,.int .i64 x.s 0,.int .i64 x.t 0,.int .i64 x.i 0,.int .i64 x.u 0,.int .i64 x.v 0,.row 3 x.L,.int .i64 x.w 0,.int .i64 x.x 0,.row 237 x.y,.row 3 x.j]
 |28,x=>[.row 159 x]
 |161,x=>[.int .i64 x.d 0,.int .i64 x.i 0,.row 3 x.j,.row 3 x.L,.int .i64 x.z 0]
 |29,x=>[.row 161 x]
 |31,x=>[.int .i64 x.C.L 0,.int .i64 x.C.k 0,.int .i64 x.C.l 0,.int .i64 x.C.e 0,.int .i64 x.C.m 0,.int .i64 x.C.n 0,.row 5 x.Q.g,.row 3 x.Q.c,.row 3 x.Q.h,.row 159 x.o,.row 161 x.p,.row 3 x.q]
 |33,x=>[.int .i64 x.L 0,.int .i64 x.k 0,.int .i64 x.l 0,.int .i64 x.e 0,.int .i64 x.m 0,.int .i64 x.n 0]
 |34,x=>[.row 5 x.g,.row 3 x.c,.row 3 x.h]
 |183,x=>[.int .i64 x.B 0,.int .i64 x.D 0,.int .i64 x.E 0]
 |75,x=>[.row 183 x]
 |77,x=>[.int .i64 x.c 0,.int .i64 x.a 0,.int .i64 x.f 0,.int .i64 x.s 0,.int .i64 x.t 0,.int .i64 x.i 0,.int .i64 x.u 0,.int .i64 x.v 0,.row 3 x.L,.int .i64 x.w 0,.int .i64 x.x 0,.row 183 x.y,.row 3 x.j]
 |35,x=>[.row 77 x]
 |79,x=>[.int .i64 x.d 0,.int .i64 x.i 0,.row 3 x.j,.row 3 x.L,.int .i64 x.z 0]
 |36,x=>[.row 79 x]
 |38,x=>[.int .i64 x.C.L 0,.int .i64 x.C.k 0,.int .i64 x.C.l 0,.int .i64 x.C.e 0,.int .i64 x.C.m 0,.int .i64 x.C.n 0,.row 5 x.Q.g,.row 3 x.Q.c,.row 3 x.Q.h,.row 77 x.o,.row 79 x.p,.row 3 x.q]
 |40,x=>[.int .i64 x.d 0,.int .i64 x.a 0]
 |42,x=>[.int .i64 x.P.d 0,.int .i64 x.P.a 0,.int .i64 x.f 0,.int .i64 x.r 0]
 |44,x=>[.int .i64 x.F 0,.int .i64 x.P.d 0,.int .i64 x.P.a 0,.int .i64 x.b.P.d 0,.int .i64 x.b.P.a 0,.int .i64 x.b.f 0,.int .i64 x.b.r 0,.row 5 x.A,.int .i64 x.G 0,.int .i64 x.e 0,.int .i64 x.H 0]
 |55,x=>[.int .i64 x.I 0,.int .i64 x.P.d 0,.int .i64 x.P.a 0,.int .i64 x.b.P.d 0,.int .i64 x.b.P.a 0,.int .i64 x.b.f 0,.int .i64 x.b.r 0,.int .i64 x.J 0,.int .i64 x.K 0,.row 5 x.A]
 |81,x=>[.row 55 x]
 |149,x=>[.row 4 x]
 |171,x=>[.row 5 x.fb,.int .i64 x.fi 0,.int .i64 x.fh 0]
 |222,x=>[.int .u64 x 0]
 |225,x=>[.int .u64 x 0]
 |248,x=>[.int .u32 x 0]
 |10038,x=>[.int .i64 x.C.L 0,.int .i64 x.C.k 0,.int .i64 x.C.l 0,.int .i64 x.C.e 0,.int .i64 x.C.m 0,.int .i64 x.C.n 0,.row 5 x.Q.g,.row 3 x.Q.c,.row 3 x.Q.h,.row 77 x.o,.row 79 x.p,.row 3 x.q]
 |_,_=>[]
def At:(t:Nat)->Bool->Ab t->List (SV Ab)
 |2,m,x=>[.int .i64 x 0]
 |3,m,x=>[.int .i64 x 0]
 |4,m,x=>[.bool x]
 |5,m,x=>[.int .u8 x 0]
 |9,m,x=>[.str x]
 |23,m,x=>[.int .i64 x.L 0,.int .i64 x.k 0,.int .i64 x.l 0,.int .i64 x.e 0,.int .i64 x.m 0,.int .i64 x.n 0]
 |24,m,x=>[.rowT 5 true x]
 |25,m,x=>[.rowT 3 true x]
 |27,m,x=>[.rowT 5 true x.g,.rowT 3 true x.c,.rowT 3 true x.h]
 |237,m,x=>[.int .i64 x.B 0,.int .i64 x.D 0,.int .i64 x.E 0]
 |157,m,x=>[.rowT 237 true x]
 |159,m,x=>[.int .i64 x.c 0,.int .i64 x.a 0,.int .i64 x.f 0,.int .i64 x.s 0,.int .i64 x.t 0,.int .i64 x.i 0,.int .i64 x.u 0,.int .i64 x.v 0,.rowT 3 true x.L,.int .i64 x.w 0,.int .i64 x.x 0,.rowT 237 true x.y,.rowT 3 true x.j]
 |28,m,x=>[.rowT 159 m x]
 |161,m,x=>[.int .i64 x.d 0,.int .i64 x.i 0,.rowT 3 true x.j,.rowT 3 true x.L,.int .i64 x.z 0]
 |29,m,x=>[.rowT 161 m x]
 |31,m,x=>[.int .i64 x.C.L 0,.int .i64 x.C.k 0,.int .i64 x.C.l 0,.int .i64 x.C.e 0,.int .i64 x.C.m 0,.int .i64 x.C.n 0,.rowT 5 true x.Q.g,.rowT 3 true x.Q.c,.rowT 3 true x.Q.h,.rowT 159 m x.o,.rowT 161 m x.p,.rowT 3 true x.q]
 |33,m,x=>[.int .i64 x.L 0,.int .i64 x.k 0,.int .i64 x.l 0,.int .i64 x.e 0,.int .i64 x.m 0,.int .i64 x.n 0]
 |34,m,x=>[.rowT 5 true x.g,.rowT 3 true x.c,.rowT 3 true x.h]
 |183,m,x=>[.int .i64 x.B 0,.int .i64 x.D 0,.int .i64 x.E 0]
 |75,m,x=>[.rowT 183 true x]
 |77,true,x=>[.int .i64 x.c 0,.int .i64 x.a 0,.int .i64 x.f 0,.int .i64 x.s 0,.int .i64 x.t 0,.int .i64 x.i 0,.int .i64 x.u 0,.int .i64 x.v 0,.row 3 x.L,.int .i64 x.w 0,.int .i64 x.x 0,.rowT 183 true x.y,.rowT 3 true x.j]
 |77,false,x=>[.int .i64 x.c 0,.int .i64 x.a 0,.int .i64 x.f 0,.int .i64 x.s 0,.int .i64 x.t 0,.int .i64 x.i 0,.int .i64 x.u 0,.int .i64 x.v 0,.rowT 3 true x.L,.int .i64 x.w 0,.int .i64 x.x 0,.rowT 183 true x.y,.rowT 3 true x.j]
 |35,m,x=>[.rowT 77 m x]
 |79,m,x=>[.int .i64 x.d 0,.int .i64 x.i 0,.rowT 3 true x.j,.rowT 3 true x.L,.int .i64 x.z 0]
 |36,m,x=>[.rowT 79 m x]
 |38,true,x=>[.int .i64 x.C.L 0,.int .i64 x.C.k 0,.int .i64 x.C.l 0,.int .i64 x.C.e 0,.int .i64 x.C.m 0,.int .i64 x.C.n 0,.rowT 5 true x.Q.g,.rowT 3 true x.Q.c,.rowT 3 true x.Q.h,.rowT 77 true x.o,.rowT 79 true x.p,.rowT 3 true x.q]
 |38,false,x=>[.int .i64 x.C.L 0,.int .i64 x.C.k 0,.int .i64 x.C.l 0,.int .i64 x.C.e 0,.int .i64 x.C.m 0,.int .i64 x.C.n 0,.rowT 5 true x.Q.g,.rowT 3 true x.Q.c,.rowT 3 true x.Q.h,.rowT 77 true x.o,.rowT 79 false x.p,.rowT 3 true x.q]
 |40,m,x=>[.int .i64 x.d 0,.int .i64 x.a 0]
 |42,m,x=>[.int .i64 x.P.d 0,.int .i64 x.P.a 0,.int .i64 x.f 0,.int .i64 x.r 0]
 |44,m,x=>[.int .i64 x.F 0,.int .i64 x.P.d 0,.int .i64 x.P.a 0,.int .i64 x.b.P.d 0,.int .i64 x.b.P.a 0,.int .i64 x.b.f 0,.int .i64 x.b.r 0,.rowT 5 true x.A,.int .i64 x.G 0,.int .i64 x.e 0,.int .i64 x.H 0]
 |55,m,x=>[.int .i64 x.I 0,.int .i64 x.P.d 0,.int .i64 x.P.a 0,.int .i64 x.b.P.d 0,.int .i64 x.b.P.a 0,.int .i64 x.b.f 0,.int .i64 x.b.r 0,.int .i64 x.J 0,.int .i64 x.K 0,.rowT 5 true x.A]
 |81,m,x=>[.rowT 55 m x]
 |149,m,x=>[.rowT 4 true x]
 |171,true,x=>[.rowT 5 true x.fb,.int .i64 x.fi 0,.int .i64 x.fh 0]
 |171,false,x=>[.row 5 x.fb,.int .i64 x.fi 0,.int .i64 x.fh 0]
 |222,m,x=>[.int .u64 x 0]
 |225,m,x=>[.int .u64 x 0]
 |248,m,x=>[.int .u32 x 0]
 |10038,true,x=>[.int .i64 x.C.L 0,.int .i64 x.C.k 0,.int .i64 x.C.l 0,.int .i64 x.C.e 0,.int .i64 x.C.m 0,.int .i64 x.C.n 0,.rowT 5 true x.Q.g,.rowT 3 true x.Q.c,.rowT 3 true x.Q.h,.rowT 77 true x.o,.rowT 79 true x.p,.rowT 3 true x.q]
 |10038,false,x=>[.int .i64 x.C.L 0,.int .i64 x.C.k 0,.int .i64 x.C.l 0,.int .i64 x.C.e 0,.int .i64 x.C.m 0,.int .i64 x.C.n 0,.rowT 5 true x.Q.g,.rowT 3 true x.Q.c,.rowT 3 true x.Q.h,.rowT 77 false x.o,.rowT 79 true x.p,.rowT 3 true x.q]
 |_,_,_=>[]
def Abw:List (SV Ab)->Option (Ab 2)
 |[.int .i64 a0 _]=>some a0
 |_=>none
def Abx:List (SV Ab)->Option (Ab 3)
 |[.int .i64 a0 _]=>some a0
 |_=>none
def Aby:List (SV Ab)->Option (Ab 4)
 |[.bool a0]=>some a0
 |_=>none
def Abz:List (SV Ab)->Option (Ab 5)
 |[.int .u8 a0 _]=>some a0
 |_=>none
def Ab0:List (SV Ab)->Option (Ab 9)
 |[.str a0]=>some a0
 |_=>none
def Ab1:List (SV Ab)->Option (Ab 23)
 |[.int .i64 a0 _,.int .i64 a1 _,.int .i64 a2 _,.int .i64 a3 _,.int .i64 a4 _,.int .i64 a5 _]=>some ⟨a0,a1,a2,a3,a4,a5⟩
 |_=>none
def Ab2:List (SV Ab)->Option (Ab 24)
 |[.row 5 a0]=>some a0
 |_=>none
def Ab3:List (SV Ab)->Option (Ab 25)
 |[.row 3 a0]=>some a0
 |_=>none
def Ab4:List (SV Ab)->Option (Ab 27)
 |[.row 5 a0,.row 3 a1,.row 3 a2]=>some ⟨a0,a1,a2⟩
 |_=>none
def Ab5:List (SV Ab)->Option (Ab 237)
 |[.int .i64 a0 _,.int .i64 a1 _,.int .i64 a2 _]=>some ⟨a0,a1,a2⟩
 |_=>none
def Ab6:List (SV Ab)->Option (Ab 157)
 |[.row 237 a0]=>some a0
 |_=>none
def Ab7:List (SV Ab)->Option (Ab 159)
 |[.int .i64 a0 _,.int .i64 a1 _,.int .i64 a2 _,.int .i64 a3 _,.int .i64 a4 _,.int .i64 a5 _,.int .i64 a6 _,.int .i64 a7 _,.row 3 a8,.int .i64 a9 _,.int .i64 a10 _,.row 237 a11,.row 3 a12]=>some ⟨a0,a1,a2,a3,a4,a5,a6,a7,a8,a9,a10,a11,a12⟩
 |_=>none
def Ab8:List (SV Ab)->Option (Ab 28)
 |[.row 159 a0]=>some a0
 |_=>none
def Ab9:List (SV Ab)->Option (Ab 161)
 |[.int .i64 a0 _,.int .i64 a1 _,.row 3 a2,.row 3 a3,.int .i64 a4 _]=>some ⟨a0,a1,a2,a3,a4⟩
 |_=>none
def Aca:List (SV Ab)->Option (Ab 29)
 |[.row 161 a0]=>some a0
 |_=>none
def Acb:List (SV Ab)->Option (Ab 31)
 |[.int .i64 a0 _,.int .i64 a1 _,.int .i64 a2 _,.int .i64 a3 _,.int .i64 a4 _,.int .i64 a5 _,.row 5 a6,.row 3 a7,.row 3 a8,.row 159 a9,.row 161 a10,.row 3 a11]=>some ⟨⟨a0,a1,a2,a3,a4,a5⟩,⟨a6,a7,a8⟩,a9,a10,a11⟩
 |_=>none
def Acd:List (SV Ab)->Option (Ab 33)
 |[.int .i64 a0 _,.int .i64 a1 _,.int .i64 a2 _,.int .i64 a3 _,.int .i64 a4 _,.int .i64 a5 _]=>some ⟨a0,a1,a2,a3,a4,a5⟩
 |_=>none
def Ace:List (SV Ab)->Option (Ab 34)
 |[.row 5 a0,.row 3 a1,.row 3 a2]=>some ⟨a0,a1,a2⟩
 |_=>none
def Acf:List (SV Ab)->Option (Ab 183)
 |[.int .i64 a0 _,.int .i64 a1 _,.int .i64 a2 _]=>some ⟨a0,a1,a2⟩
 |_=>none
def Acg:List (SV Ab)->Option (Ab 75)
 |[.row 183 a0]=>some a0
 |_=>none
def Ach:List (SV Ab)->Option (Ab 77)
 |[.int .i64 a0 _,.int .i64 a1 _,.int .i64 a2 _,.int .i64 a3 _,.int .i64 a4 _,.int .i64 a5 _,.int .i64 a6 _,.int .i64 a7 _,.row 3 a8,.int .i64 a9 _,.int .i64 a10 _,.row 183 a11,.row 3 a12]=>some ⟨a0,a1,a2,a3,a4,a5,a6,a7,a8,a9,a10,a11,a12⟩
 |_=>none
def Aci:List (SV Ab)->Option (Ab 35)
 |[.row 77 a0]=>some a0
 |_=>none
def Acj:List (SV Ab)->Option (Ab 79)
 |[.int .i64 a0 _,.int .i64 a1 _,.row 3 a2,.row 3 a3,.int .i64 a4 _]=>some ⟨a0,a1,a2,a3,a4⟩
 |_=>none
def Ack:List (SV Ab)->Option (Ab 36)
 |[.row 79 a0]=>some a0
 |_=>none
def Acl:List (SV Ab)->Option (Ab 38)
 |[.int .i64 a0 _,.int .i64 a1 _,.int .i64 a2 _,.int .i64 a3 _,.int .i64 a4 _,.int .i64 a5 _,.row 5 a6,.row 3 a7,.row 3 a8,.row 77 a9,.row 79 a10,.row 3 a11]=>some ⟨⟨a0,a1,a2,a3,a4,a5⟩,⟨a6,a7,a8⟩,a9,a10,a11⟩
 |_=>none
def Acm:List (SV Ab)->Option (Ab 40)
 |[.int .i64 a0 _,.int .i64 a1 _]=>some ⟨a0,a1⟩
 |_=>none
def Acn:List (SV Ab)->Option (Ab 42)
 |[.int .i64 a0 _,.int .i64 a1 _,.int .i64 a2 _,.int .i64 a3 _]=>some ⟨⟨a0,a1⟩,a2,a3⟩
 |_=>none
def Aco:List (SV Ab)->Option (Ab 44)
 |[.int .i64 a0 _,.int .i64 a1 _,.int .i64 a2 _,.int .i64 a3 _,.int .i64 a4 _,.int .i64 a5 _,.int .i64 a6 _,.row 5 a7,.int .i64 a8 _,.int .i64 a9 _,.int .i64 a10 _]=>some ⟨a0,⟨a1,a2⟩,⟨⟨a3,a4⟩,a5,a6⟩,a7,a8,a9,a10⟩
 |_=>none
def Acp:List (SV Ab)->Option (Ab 55)
 |[.int .i64 a0 _,.int .i64 a1 _,.int .i64 a2 _,.int .i64 a3 _,.int .i64 a4 _,.int .i64 a5 _,.int .i64 a6 _,.int .i64 a7 _,.int .i64 a8 _,.row 5 a9]=>some ⟨a0,⟨a1,a2⟩,⟨⟨a3,a4⟩,a5,a6⟩,a7,a8,a9⟩
 |_=>none
def Acq:List (SV Ab)->Option (Ab 81)
 |[.row 55 a0]=>some a0
 |_=>none
def Acr:List (SV Ab)->Option (Ab 149)
 |[.row 4 a0]=>some a0
 |_=>none
def Acs:List (SV Ab)->Option (Ab 171)
 |[.row 5 a0,.int .i64 a1 _,.int .i64 a2 _]=>some ⟨a0,a1,a2⟩
 |_=>none
def Acu:List (SV Ab)->Option (Ab 222)
 |[.int .u64 a0 _]=>some a0
 |_=>none
def Acv:List (SV Ab)->Option (Ab 225)
 |[.int .u64 a0 _]=>some a0
 |_=>none
def Acw:List (SV Ab)->Option (Ab 248)
 |[.int .u32 a0 _]=>some a0
 |_=>none
def Acx:List (SV Ab)->Option (Ab 10038)
 |[.int .i64 a0 _,.int .i64 a1 _,.int .i64 a2 _,.int .i64 a3 _,.int .i64 a4 _,.int .i64 a5 _,.row 5 a6,.row 3 a7,.row 3 a8,.row 77 a9,.row 79 a10,.row 3 a11]=>some ⟨⟨a0,a1,a2,a3,a4,a5⟩,⟨a6,a7,a8⟩,a9,a10,a11⟩
 |_=>none
def Acy:(t:Nat)->List (SV Ab)->Option (Ab t)
 |2,c=>Abw c
 |3,c=>Abx c
 |4,c=>Aby c
 |5,c=>Abz c
 |9,c=>Ab0 c
 |23,c=>Ab1 c
 |24,c=>Ab2 c
 |25,c=>Ab3 c
 |27,c=>Ab4 c
 |237,c=>Ab5 c
 |157,c=>Ab6 c
 |159,c=>Ab7 c
 |28,c=>Ab8 c
 |161,c=>Ab9 c
 |29,c=>Aca c
 |31,c=>Acb c
 |33,c=>Acd c
 |34,c=>Ace c
 |183,c=>Acf c
 |75,c=>Acg c
 |77,c=>Ach c
 |35,c=>Aci c
 |79,c=>Acj c
 |36,c=>Ack c
 |38,c=>Acl c
 |40,c=>Acm c
 |42,c=>Acn c
 |44,c=>Aco c
 |55,c=>Acp c
 |81,c=>Acq c
 |149,c=>Acr c
 |171,c=>Acs c
 |222,c=>Acu c
 |225,c=>Acv c
 |248,c=>Acw c
 |10038,c=>Acx c
 |_,_=>none
def Acz:List (SV Ab)->Option (Ab 2)
 |[.int .i64 a0 _]=>some a0
 |_=>none
def Ac0:List (SV Ab)->Option (Ab 3)
 |[.int .i64 a0 _]=>some a0
 |_=>none
def Ac1:List (SV Ab)->Option (Ab 4)
 |[.bool a0]=>some a0
 |_=>none
def Ac2:List (SV Ab)->Option (Ab 5)
 |[.int .u8 a0 _]=>some a0
 |_=>none
def Ac3:List (SV Ab)->Option (Ab 9)
 |[.str a0]=>some a0
 |_=>none
def Ac4:List (SV Ab)->Option (Ab 23)
 |[.int .i64 a0 _,.int .i64 a1 _,.int .i64 a2 _,.int .i64 a3 _,.int .i64 a4 _,.int .i64 a5 _]=>some ⟨a0,a1,a2,a3,a4,a5⟩
 |_=>none
def Ac5:List (SV Ab)->Option (Ab 24)
 |[.rowT 5 true a0]=>some a0
 |_=>none
def Ac6:List (SV Ab)->Option (Ab 25)
 |[.rowT 3 true a0]=>some a0
 |_=>none
def Ac7:List (SV Ab)->Option (Ab 27)
 |[.rowT 5 true a0,.rowT 3 true a1,.rowT 3 true a2]=>some ⟨a0,a1,a2⟩
 |_=>none
def Ac8:List (SV Ab)->Option (Ab 237)
 |[.int .i64 a0 _,.int .i64 a1 _,.int .i64 a2 _]=>some ⟨a0,a1,a2⟩
 |_=>none
def Ac9:List (SV Ab)->Option (Ab 157)
 |[.rowT 237 true a0]=>some a0
 |_=>none
def Ada:List (SV Ab)->Option (Ab 159)
 |[.int .i64 a0 _,.int .i64 a1 _,.int .i64 a2 _,.int .i64 a3 _,.int .i64 a4 _,.int .i64 a5 _,.int .i64 a6 _,.int .i64 a7 _,.rowT 3 true a8,.int .i64 a9 _,.int .i64 a10 _,.rowT 237 true a11,.rowT 3 true a12]=>some ⟨a0,a1,a2,a3,a4,a5,a6,a7,a8,a9,a10,a11,a12⟩
 |_=>none
def Adb:List (SV Ab)->Option (Ab 28)
 |[.rowT 159 true a0]=>some a0
 |_=>none
def Adc:List (SV Ab)->Option (Ab 28)
 |[.rowT 159 false a0]=>some a0
 |_=>none
def Ade:List (SV Ab)->Option (Ab 161)
 |[.int .i64 a0 _,.int .i64 a1 _,.rowT 3 true a2,.rowT 3 true a3,.int .i64 a4 _]=>some ⟨a0,a1,a2,a3,a4⟩
 |_=>none
def Adf:List (SV Ab)->Option (Ab 29)
 |[.rowT 161 true a0]=>some a0
 |_=>none
def Adg:List (SV Ab)->Option (Ab 29)
 |[.rowT 161 false a0]=>some a0
 |_=>none
def Adh:List (SV Ab)->Option (Ab 31)
 |[.int .i64 a0 _,.int .i64 a1 _,.int .i64 a2 _,.int .i64 a3 _,.int .i64 a4 _,.int .i64 a5 _,.rowT 5 true a6,.rowT 3 true a7,.rowT 3 true a8,.rowT 159 true a9,.rowT 161 true a10,.rowT 3 true a11]=>some ⟨⟨a0,a1,a2,a3,a4,a5⟩,⟨a6,a7,a8⟩,a9,a10,a11⟩
 |_=>none
def Adi:List (SV Ab)->Option (Ab 31)
 |[.int .i64 a0 _,.int .i64 a1 _,.int .i64 a2 _,.int .i64 a3 _,.int .i64 a4 _,.int .i64 a5 _,.rowT 5 true a6,.rowT 3 true a7,.rowT 3 true a8,.rowT 159 false a9,.rowT 161 false a10,.rowT 3 true a11]=>some ⟨⟨a0,a1,a2,a3,a4,a5⟩,⟨a6,a7,a8⟩,a9,a10,a11⟩
 |_=>none
def Adj:List (SV Ab)->Option (Ab 33)
 |[.int .i64 a0 _,.int .i64 a1 _,.int .i64 a2 _,.int .i64 a3 _,.int .i64 a4 _,.int .i64 a5 _]=>some ⟨a0,a1,a2,a3,a4,a5⟩
 |_=>none
def Adk:List (SV Ab)->Option (Ab 34)
 |[.rowT 5 true a0,.rowT 3 true a1,.rowT 3 true a2]=>some ⟨a0,a1,a2⟩
 |_=>none
def Adl:List (SV Ab)->Option (Ab 183)
 |[.int .i64 a0 _,.int .i64 a1 _,.int .i64 a2 _]=>some ⟨a0,a1,a2⟩
 |_=>none
def Adm:List (SV Ab)->Option (Ab 75)
 |[.rowT 183 true a0]=>some a0
 |_=>none
def Adn:List (SV Ab)->Option (Ab 77)
 |[.int .i64 a0 _,.int .i64 a1 _,.int .i64 a2 _,.int .i64 a3 _,.int .i64 a4 _,.int .i64 a5 _,.int .i64 a6 _,.int .i64 a7 _,.row 3 a8,.int .i64 a9 _,.int .i64 a10 _,.rowT 183 true a11,.rowT 3 true a12]=>some ⟨a0,a1,a2,a3,a4,a5,a6,a7,a8,a9,a10,a11,a12⟩
 |_=>none
def Ado:List (SV Ab)->Option (Ab 77)
 |[.int .i64 a0 _,.int .i64 a1 _,.int .i64 a2 _,.int .i64 a3 _,.int .i64 a4 _,.int .i64 a5 _,.int .i64 a6 _,.int .i64 a7 _,.rowT 3 true a8,.int .i64 a9 _,.int .i64 a10 _,.rowT 183 true a11,.rowT 3 true a12]=>some ⟨a0,a1,a2,a3,a4,a5,a6,a7,a8,a9,a10,a11,a12⟩
 |_=>none
def Adp:List (SV Ab)->Option (Ab 35)
 |[.rowT 77 true a0]=>some a0
 |_=>none
def Adq:List (SV Ab)->Option (Ab 35)
 |[.rowT 77 false a0]=>some a0
 |_=>none
def Adr:List (SV Ab)->Option (Ab 79)
 |[.int .i64 a0 _,.int .i64 a1 _,.rowT 3 true a2,.rowT 3 true a3,.int .i64 a4 _]=>some ⟨a0,a1,a2,a3,a4⟩
 |_=>none
def Ads:List (SV Ab)->Option (Ab 36)
 |[.rowT 79 true a0]=>some a0
 |_=>none
def Adt:List (SV Ab)->Option (Ab 36)
 |[.rowT 79 false a0]=>some a0
 |_=>none
def Adu:List (SV Ab)->Option (Ab 38)
 |[.int .i64 a0 _,.int .i64 a1 _,.int .i64 a2 _,.int .i64 a3 _,.int .i64 a4 _,.int .i64 a5 _,.rowT 5 true a6,.rowT 3 true a7,.rowT 3 true a8,.rowT 77 true a9,.rowT 79 true a10,.rowT 3 true a11]=>some ⟨⟨a0,a1,a2,a3,a4,a5⟩,⟨a6,a7,a8⟩,a9,a10,a11⟩
 |_=>none
def Adv:List (SV Ab)->Option (Ab 38)
 |[.int .i64 a0 _,.int .i64 a1 _,.int .i64 a2 _,.int .i64 a3 _,.int .i64 a4 _,.int .i64 a5 _,.rowT 5 true a6,.rowT 3 true a7,.rowT 3 true a8,.rowT 77 true a9,.rowT 79 false a10,.rowT 3 true a11]=>some ⟨⟨a0,a1,a2,a3,a4,a5⟩,⟨a6,a7,a8⟩,a9,a10,a11⟩
 |_=>none
def Adw:List (SV Ab)->Option (Ab 40)
 |[.int .i64 a0 _,.int .i64 a1 _]=>some ⟨a0,a1⟩
 |_=>none
def Adx:List (SV Ab)->Option (Ab 42)
 |[.int .i64 a0 _,.int .i64 a1 _,.int .i64 a2 _,.int .i64 a3 _]=>some ⟨⟨a0,a1⟩,a2,a3⟩
 |_=>none
def Ady:List (SV Ab)->Option (Ab 44)
 |[.int .i64 a0 _,.int .i64 a1 _,.int .i64 a2 _,.int .i64 a3 _,.int .i64 a4 _,.int .i64 a5 _,.int .i64 a6 _,.rowT 5 true a7,.int .i64 a8 _,.int .i64 a9 _,.int .i64 a10 _]=>some ⟨a0,⟨a1,a2⟩,⟨⟨a3,a4⟩,a5,a6⟩,a7,a8,a9,a10⟩
 |_=>none
def Adz:List (SV Ab)->Option (Ab 55)
 |[.int .i64 a0 _,.int .i64 a1 _,.int .i64 a2 _,.int .i64 a3 _,.int .i64 a4 _,.int .i64 a5 _,.int .i64 a6 _,.int .i64 a7 _,.int .i64 a8 _,.rowT 5 true a9]=>some ⟨a0,⟨a1,a2⟩,⟨⟨a3,a4⟩,a5,a6⟩,a7,a8,a9⟩
 |_=>none
def Ad0:List (SV Ab)->Option (Ab 81)
 |[.rowT 55 true a0]=>some a0
 |_=>none
def Ad1:List (SV Ab)->Option (Ab 81)
 |[.rowT 55 false a0]=>some a0
 |_=>none
def Ad2:List (SV Ab)->Option (Ab 149)
 |[.rowT 4 true a0]=>some a0
 |_=>none
def Ad3:List (SV Ab)->Option (Ab 171)
 |[.rowT 5 true a0,.int .i64 a1 _,.int .i64 a2 _]=>some ⟨a0,a1,a2⟩
 |_=>none
def Ad4:List (SV Ab)->Option (Ab 171)
 |[.row 5 a0,.int .i64 a1 _,.int .i64 a2 _]=>some ⟨a0,a1,a2⟩
 |_=>none
def Ad5:List (SV Ab)->Option (Ab 222)
 |[.int .u64 a0 _]=>some a0
 |_=>none
def Ad6:List (SV Ab)->Option (Ab 225)
 |[.int .u64 a0 _]=>some a0
 |_=>none
def Ad7:List (SV Ab)->Option (Ab 248)
 |[.int .u32 a0 _]=>some a0
 |_=>none
def Ad8:List (SV Ab)->Option (Ab 10038)
 |[.int .i64 a0 _,.int .i64 a1 _,.int .i64 a2 _,.int .i64 a3 _,.int .i64 a4 _,.int .i64 a5 _,.rowT 5 true a6,.rowT 3 true a7,.rowT 3 true a8,.rowT 77 true a9,.rowT 79 true a10,.rowT 3 true a11]=>some ⟨⟨a0,a1,a2,a3,a4,a5⟩,⟨a6,a7,a8⟩,a9,a10,a11⟩
 |_=>none
def Ad9:List (SV Ab)->Option (Ab 10038)
 |[.int .i64 a0 _,.int .i64 a1 _,.int .i64 a2 _,.int .i64 a3 _,.int .i64 a4 _,.int .i64 a5 _,.rowT 5 true a6,.rowT 3 true a7,.rowT 3 true a8,.rowT 77 false a9,.rowT 79 true a10,.rowT 3 true a11]=>some ⟨⟨a0,a1,a2,a3,a4,a5⟩,⟨a6,a7,a8⟩,a9,a10,a11⟩
 |_=>none
def Aea:(t:Nat)->Bool->List (SV Ab)->Option (Ab t)
 |2,_,c=>Acz c
 |3,_,c=>Ac0 c
 |4,_,c=>Ac1 c
 |5,_,c=>Ac2 c
 |9,_,c=>Ac3 c
 |23,_,c=>Ac4 c
 |24,_,c=>Ac5 c
 |25,_,c=>Ac6 c
 |27,_,c=>Ac7 c
 |237,_,c=>Ac8 c
 |157,_,c=>Ac9 c
 |159,_,c=>Ada c
 |28,true,c=>Adb c
 |28,false,c=>Adc c
 |161,_,c=>Ade c
 |29,true,c=>Adf c
 |29,false,c=>Adg c
 |31,true,c=>Adh c
 |31,false,c=>Adi c
 |33,_,c=>Adj c
 |34,_,c=>Adk c
 |183,_,c=>Adl c
 |75,_,c=>Adm c
 |77,true,c=>Adn c
 |77,false,c=>Ado c
 |35,true,c=>Adp c
 |35,false,c=>Adq c
 |79,_,c=>Adr c
 |36,true,c=>Ads c
 |36,false,c=>Adt c
 |38,true,c=>Adu c
 |38,false,c=>Adv c
 |40,_,c=>Adw c
 |42,_,c=>Adx c
 |44,_,c=>Ady c
 |55,_,c=>Adz c
 |81,true,c=>Ad0 c
 |81,false,c=>Ad1 c
 |149,_,c=>Ad2 c
 |171,true,c=>Ad3 c
 |171,false,c=>Ad4 c
 |222,_,c=>Ad5 c
 |225,_,c=>Ad6 c
 |248,_,c=>Ad7 c
 |10038,true,c=>Ad8 c
 |10038,false,c=>Ad9 c
 |_,_,_=>none
def Pu (t j:Nat):Bool:=(Nat.beq t 77&&Nat.beq j 8)||((Nat.beq t 77||Nat.beq t 35||Nat.beq t 38||Nat.beq t 10038)&&Nat.beq j 1000)
def tyU:Un:=⟨Ab,Atm,Abs,Atn,Ato,Abt,Abu,Abv,At,Acy,Aea,Pu⟩
theorem Atp: ∀x,(Pe x).all V.fresh=true:=fun x=>by
 simp only[Pe,Bb,List.all_nil,Co (f:=Bu) (fun _=>rfl),Dq,Dr,Ds,Bool.and_self]
theorem Atq: ∀x,(Pf x).all V.fresh=true:=fun x=>by
 simp only[Pf,Bb,List.all_nil,Co (f:=Aq) (fun _=>rfl),Dq,Dr,Ds,Bool.and_self]
theorem Atr: ∀x,(Pg x).all V.fresh=true:=fun x=>by
 simp only[Pg,Bb,List.all_nil,Co (f:=Bu) (fun _=>rfl),Co (f:=Aq) (fun _=>rfl),Dq,Dr,Ds,Bool.and_self]
theorem Ats: ∀x,(Ph x).all V.fresh=true:=fun x=>by
 simp only[Ph,Bb,List.all_nil,Co (f:=Fj) (fun _=>rfl),Dq,Dr,Ds,Bool.and_self]
theorem Aeb: ∀x,(Kg x).all V.fresh=true:=fun x=>by
 simp only[Kg,Bb,List.all_nil,Co (f:=Aq) (fun _=>rfl),Co (f:=Fj) (fun _=>rfl),Dq,Dr,Ds,Bool.and_self]
theorem Att: ∀x,(Pj x).all V.fresh=true:=fun x=>by
 simp only[Pj,Bb,List.all_nil,Co Aeb,Dq,Dr,Ds,Bool.and_self]
theorem Aec: ∀x,(Kh x).all V.fresh=true:=fun x=>by
 simp only[Kh,Bb,List.all_nil,Co (f:=Aq) (fun _=>rfl),Dq,Dr,Ds,Bool.and_self]
theorem Atu: ∀x,(Pk x).all V.fresh=true:=fun x=>by
 simp only[Pk,Bb,List.all_nil,Co Aec,Dq,Dr,Ds,Bool.and_self]
theorem Atv: ∀x,(Pl x).all V.fresh=true:=fun x=>by
 simp only[Pl,Bb,List.all_nil,Co (f:=Bu) (fun _=>rfl),Co (f:=Aq) (fun _=>rfl),Co Aeb,Co Aec,Dq,Dr,Ds,Bool.and_self]
theorem Atw: ∀x,(Pm x).all V.fresh=true:=fun x=>by
 simp only[Pm,Bb,List.all_nil,Co (f:=Bu) (fun _=>rfl),Co (f:=Aq) (fun _=>rfl),Dq,Dr,Ds,Bool.and_self]
theorem Atx: ∀x,(Pn x).all V.fresh=true:=fun x=>by
 simp only[Pn,Bb,List.all_nil,Co (f:=Fz) (fun _=>rfl),Dq,Dr,Ds,Bool.and_self]
theorem Aiv: ∀x,(Ki x).all V.fresh=true:=fun x=>by
 simp only[Ki,Bb,List.all_nil,Co (f:=Aq) (fun _=>rfl),Dq,Dr,Ds,Bool.and_self]
theorem Aty: ∀x,(Po x).all V.fresh=true:=fun x=>by
 simp only[Po,Bb,List.all_nil,Co Aiv,Dq,Dr,Ds,Bool.and_self]
theorem Atz: ∀x,(Pp x).all V.fresh=true:=fun x=>by
 simp only[Pp,Bb,List.all_nil,Co (f:=Bu) (fun _=>rfl),Dq,Dr,Ds,Bool.and_self]
theorem Aiw: ∀x,(Mo x).all V.fresh=true:=fun x=>by
 simp only[Mo,Bb,List.all_nil,Co (f:=Bu) (fun _=>rfl),Dq,Dr,Ds,Bool.and_self]
theorem At0: ∀x,(Pq x).all V.fresh=true:=fun x=>by
 simp only[Pq,Bb,List.all_nil,Co Aiw,Dq,Dr,Ds,Bool.and_self]
theorem At1: ∀x,(Pr x).all V.fresh=true:=fun x=>by
 simp only[Pr,Bb,List.all_nil,Co (f:=Ha) (fun _=>rfl),Dq,Dr,Ds,Bool.and_self]
theorem At2: ∀x,(Ps x).all V.fresh=true:=fun x=>by
 simp only[Ps,Bb,List.all_nil,Co (f:=Bu) (fun _=>rfl),Dq,Dr,Ds,Bool.and_self]
theorem At3 (c x)(h:Abw c=some x):c.map (SV.toV tyU)=Aq x:=by
  unfold Abw at h;split at h
  ·cases h;rfl
  ·cases h
theorem At4 (c x)(h:Acz c=some x):c.map (SV.toV tyU)=(At 2 true x).map (SV.toV tyU):=by
  unfold Acz at h;split at h
  ·cases h;rfl
  ·cases h
theorem At5:A6 tyU 2:=⟨Cp,Aip,fun _=>rfl,fun _=>rfl,fun _ _=>rfl,At3,fun _=>At4,fun _=>rfl,fun _=>rfl,fun _ _=>rfl,fun _ _=>rfl,fun _=>rfl,Be fun _=>rfl⟩
theorem At6 (c x)(h:Abx c=some x):c.map (SV.toV tyU)=Aq x:=by
  unfold Abx at h;split at h
  ·cases h;rfl
  ·cases h
theorem At7 (c x)(h:Ac0 c=some x):c.map (SV.toV tyU)=(At 3 true x).map (SV.toV tyU):=by
  unfold Ac0 at h;split at h
  ·cases h;rfl
  ·cases h
theorem At8:A6 tyU 3:=⟨Cp,Aip,fun _=>rfl,fun _=>rfl,fun _ _=>rfl,At6,fun _=>At7,fun _=>rfl,fun _=>rfl,fun _ _=>rfl,fun _ _=>rfl,fun _=>rfl,Be fun _=>rfl⟩
theorem At9 (c x)(h:Aby c=some x):c.map (SV.toV tyU)=Ha x:=by
  unfold Aby at h;split at h
  ·cases h;rfl
  ·cases h
theorem Aua (c x)(h:Ac1 c=some x):c.map (SV.toV tyU)=(At 4 true x).map (SV.toV tyU):=by
  unfold Ac1 at h;split at h
  ·cases h;rfl
  ·cases h
theorem Aub:A6 tyU 4:=⟨L4,Ash,fun _=>rfl,fun _=>rfl,fun _ _=>rfl,At9,fun _=>Aua,fun _=>rfl,fun _=>rfl,fun _ _=>rfl,fun _ _=>rfl,fun _=>rfl,Be fun _=>rfl⟩
theorem Auc (c x)(h:Abz c=some x):c.map (SV.toV tyU)=Bu x:=by
  unfold Abz at h;split at h
  ·cases h;rfl
  ·cases h
theorem Aud (c x)(h:Ac2 c=some x):c.map (SV.toV tyU)=(At 5 true x).map (SV.toV tyU):=by
  unfold Ac2 at h;split at h
  ·cases h;rfl
  ·cases h
theorem Aue:A6 tyU 5:=⟨Dc,Asi,fun _=>rfl,fun _=>rfl,fun _ _=>rfl,Auc,fun _=>Aud,fun _=>rfl,fun _=>rfl,fun _ _=>rfl,fun _ _=>rfl,fun _=>rfl,Be fun _=>rfl⟩
theorem Auf (c x)(h:Ab0 c=some x):c.map (SV.toV tyU)=L5 x:=by
  unfold Ab0 at h;split at h
  ·cases h;rfl
  ·cases h
theorem Aug (c x)(h:Ac3 c=some x):c.map (SV.toV tyU)=(At 9 true x).map (SV.toV tyU):=by
  unfold Ac3 at h;split at h
  ·cases h;rfl
  ·cases h
theorem Auh:A6 tyU 9:=⟨Sy,Asj,fun _=>rfl,fun _=>rfl,fun _ _=>rfl,Auf,fun _=>Aug,fun _=>rfl,fun _=>rfl,fun _ _=>rfl,fun _ _=>rfl,fun _=>rfl,Be fun _=>rfl⟩
theorem Aui (c x)(h:Ab1 c=some x):c.map (SV.toV tyU)=L6 x:=by
  unfold Ab1 at h;split at h
  ·cases h;rfl
  ·cases h
theorem Auj (c x)(h:Ac4 c=some x):c.map (SV.toV tyU)=(At 23 true x).map (SV.toV tyU):=by
  unfold Ac4 at h;split at h
  ·cases h;rfl
  ·cases h
theorem Auk:A6 tyU 23:=⟨Sz,Asl,fun _=>rfl,fun _=>rfl,fun _ _=>rfl,Aui,fun _=>Auj,fun _=>rfl,fun _=>rfl,fun _ _=>rfl,fun _ _=>rfl,fun _=>rfl,Be fun _=>rfl⟩
theorem Aul (c x)(h:Ab2 c=some x):c.map (SV.toV tyU)=L7 x:=by
  unfold Ab2 at h;split at h
  ·cases h;rfl
  ·cases h
theorem Aum (c x)(h:Ac5 c=some x):c.map (SV.toV tyU)=(At 24 true x).map (SV.toV tyU):=by
  unfold Ac5 at h;split at h
  ·cases h;rfl
  ·cases h
theorem Aun:A6 tyU 24:=⟨Asm,Asn,fun _=>rfl,fun _=>rfl,fun _ _=>rfl,Aul,fun _=>Aum,(fun h=>by cases h),fun _=>rfl,fun _ _=>rfl,fun x _=>Atp x,fun _=>rfl,Be fun _=>rfl⟩
theorem Auo (c x)(h:Ab3 c=some x):c.map (SV.toV tyU)=L8 x:=by
  unfold Ab3 at h;split at h
  ·cases h;rfl
  ·cases h
theorem Aup (c x)(h:Ac6 c=some x):c.map (SV.toV tyU)=(At 25 true x).map (SV.toV tyU):=by
  unfold Ac6 at h;split at h
  ·cases h;rfl
  ·cases h
theorem Auq:A6 tyU 25:=⟨Aso,Asp,fun _=>rfl,fun _=>rfl,fun _ _=>rfl,Auo,fun _=>Aup,(fun h=>by cases h),fun _=>rfl,fun _ _=>rfl,fun x _=>Atq x,fun _=>rfl,Be fun _=>rfl⟩
theorem Aur (c x)(h:Ab4 c=some x):c.map (SV.toV tyU)=L9 x:=by
  unfold Ab4 at h;split at h
  ·cases h;rfl
  ·cases h
theorem Aus (c x)(h:Ac7 c=some x):c.map (SV.toV tyU)=(At 27 true x).map (SV.toV tyU):=by
  unfold Ac7 at h;split at h
  ·cases h;rfl
  ·cases h
theorem Aut:A6 tyU 27:=⟨Asq,Asr,fun _=>rfl,fun _=>rfl,fun _ _=>rfl,Aur,fun _=>Aus,(fun h=>by cases h),fun _=>rfl,fun _ _=>rfl,fun x _=>Atr x,fun _=>rfl,Be fun _=>rfl⟩
theorem Auu (c x)(h:Ab5 c=some x):c.map (SV.toV tyU)=Fj x:=by
  unfold Ab5 at h;split at h
  ·cases h;rfl
  ·cases h
theorem Auv (c x)(h:Ac8 c=some x):c.map (SV.toV tyU)=(At 237 true x).map (SV.toV tyU):=by
  unfold Ac8 at h;split at h
  ·cases h;rfl
  ·cases h
theorem Auw:A6 tyU 237:=⟨H6,Ass,fun _=>rfl,fun _=>rfl,fun _ _=>rfl,Auu,fun _=>Auv,fun _=>rfl,fun _=>rfl,fun _ _=>rfl,fun _ _=>rfl,fun _=>rfl,Be fun _=>rfl⟩
theorem Aux (c x)(h:Ab6 c=some x):c.map (SV.toV tyU)=Ma x:=by
  unfold Ab6 at h;split at h
  ·cases h;rfl
  ·cases h
theorem Auy (c x)(h:Ac9 c=some x):c.map (SV.toV tyU)=(At 157 true x).map (SV.toV tyU):=by
  unfold Ac9 at h;split at h
  ·cases h;rfl
  ·cases h
theorem Auz:A6 tyU 157:=⟨Ast,Asu,fun _=>rfl,fun _=>rfl,fun _ _=>rfl,Aux,fun _=>Auy,(fun h=>by cases h),fun _=>rfl,fun _ _=>rfl,fun x _=>Ats x,fun _=>rfl,Be fun _=>rfl⟩
theorem Au0 (c x)(h:Ab7 c=some x):c.map (SV.toV tyU)=H7 x:=by
  unfold Ab7 at h;split at h
  ·cases h;rfl
  ·cases h
theorem Au1 (c x)(h:Ada c=some x):c.map (SV.toV tyU)=(At 159 true x).map (SV.toV tyU):=by
  unfold Ada at h;split at h
  ·cases h;rfl
  ·cases h
theorem Au2:A6 tyU 159:=⟨Abk,Abl,fun _=>rfl,fun _=>rfl,fun _ _=>rfl,Au0,fun _=>Au1,(fun h=>by cases h),fun _=>rfl,fun _ _=>rfl,fun x _=>Aeb x,fun _=>rfl,Be fun _=>rfl⟩
theorem Au3 (c x)(h:Ab8 c=some x):c.map (SV.toV tyU)=Mb x:=by
  unfold Ab8 at h;split at h
  ·cases h;rfl
  ·cases h
theorem Au4 (c x)(h:Adb c=some x):c.map (SV.toV tyU)=(At 28 true x).map (SV.toV tyU):=by
  unfold Adb at h;split at h
  ·cases h;rfl
  ·cases h
theorem Au5 (c x)(h:Adc c=some x):c.map (SV.toV tyU)=(At 28 false x).map (SV.toV tyU):=by
  unfold Adc at h;split at h
  ·cases h;rfl
  ·cases h
theorem Au6:A6 tyU 28:=⟨Asv,Asw,fun _=>rfl,fun _=>rfl,fun _ _=>rfl,Au3,fun m=>match m with|true=>Au4|false=>Au5,(fun h=>by cases h),fun _=>rfl,fun _ _=>rfl,fun x _=>Att x,fun _=>rfl,Be fun _=>rfl⟩
theorem Au7 (c x)(h:Ab9 c=some x):c.map (SV.toV tyU)=H8 x:=by
  unfold Ab9 at h;split at h
  ·cases h;rfl
  ·cases h
theorem Au8 (c x)(h:Ade c=some x):c.map (SV.toV tyU)=(At 161 true x).map (SV.toV tyU):=by
  unfold Ade at h;split at h
  ·cases h;rfl
  ·cases h
theorem Au9:A6 tyU 161:=⟨Abm,Abn,fun _=>rfl,fun _=>rfl,fun _ _=>rfl,Au7,fun _=>Au8,(fun h=>by cases h),fun _=>rfl,fun _ _=>rfl,fun x _=>Aec x,fun _=>rfl,Be fun _=>rfl⟩
theorem Ava (c x)(h:Aca c=some x):c.map (SV.toV tyU)=Mc x:=by
  unfold Aca at h;split at h
  ·cases h;rfl
  ·cases h
theorem Avb (c x)(h:Adf c=some x):c.map (SV.toV tyU)=(At 29 true x).map (SV.toV tyU):=by
  unfold Adf at h;split at h
  ·cases h;rfl
  ·cases h
theorem Avc (c x)(h:Adg c=some x):c.map (SV.toV tyU)=(At 29 false x).map (SV.toV tyU):=by
  unfold Adg at h;split at h
  ·cases h;rfl
  ·cases h
theorem Avd:A6 tyU 29:=⟨Asx,Asy,fun _=>rfl,fun _=>rfl,fun _ _=>rfl,Ava,fun m=>match m with|true=>Avb|false=>Avc,(fun h=>by cases h),fun _=>rfl,fun _ _=>rfl,fun x _=>Atu x,fun _=>rfl,Be fun _=>rfl⟩
theorem Ave (c x)(h:Acb c=some x):c.map (SV.toV tyU)=Md x:=by
  unfold Acb at h;split at h
  ·cases h;rfl
  ·cases h
theorem Avf (c x)(h:Adh c=some x):c.map (SV.toV tyU)=(At 31 true x).map (SV.toV tyU):=by
  unfold Adh at h;split at h
  ·cases h;rfl
  ·cases h
theorem Avg (c x)(h:Adi c=some x):c.map (SV.toV tyU)=(At 31 false x).map (SV.toV tyU):=by
  unfold Adi at h;split at h
  ·cases h;rfl
  ·cases h
theorem Avh:A6 tyU 31:=⟨Asz,As0,fun _=>rfl,fun _=>rfl,fun _ _=>rfl,Ave,fun m=>match m with|true=>Avf|false=>Avg,(fun h=>by cases h),fun _=>rfl,fun _ _=>rfl,fun x _=>Atv x,fun _=>rfl,Be fun _=>rfl⟩
theorem Avi (c x)(h:Acd c=some x):c.map (SV.toV tyU)=Me x:=by
  unfold Acd at h;split at h
  ·cases h;rfl
  ·cases h
theorem Avj (c x)(h:Adj c=some x):c.map (SV.toV tyU)=(At 33 true x).map (SV.toV tyU):=by
  unfold Adj at h;split at h
  ·cases h;rfl
  ·cases h
theorem Avk:A6 tyU 33:=⟨S4,As1,fun _=>rfl,fun _=>rfl,fun _ _=>rfl,Avi,fun _=>Avj,fun _=>rfl,fun _=>rfl,fun _ _=>rfl,fun _ _=>rfl,fun _=>rfl,Be fun _=>rfl⟩
theorem Avl (c x)(h:Ace c=some x):c.map (SV.toV tyU)=Mf x:=by
  unfold Ace at h;split at h
  ·cases h;rfl
  ·cases h
theorem Avm (c x)(h:Adk c=some x):c.map (SV.toV tyU)=(At 34 true x).map (SV.toV tyU):=by
  unfold Adk at h;split at h
  ·cases h;rfl
  ·cases h
theorem Avn:A6 tyU 34:=⟨As2,As3,fun _=>rfl,fun _=>rfl,fun _ _=>rfl,Avl,fun _=>Avm,(fun h=>by cases h),fun _=>rfl,fun _ _=>rfl,fun x _=>Atw x,fun _=>rfl,Be fun _=>rfl⟩
theorem Avo (c x)(h:Acf c=some x):c.map (SV.toV tyU)=Fz x:=by
  unfold Acf at h;split at h
  ·cases h;rfl
  ·cases h
theorem Avp (c x)(h:Adl c=some x):c.map (SV.toV tyU)=(At 183 true x).map (SV.toV tyU):=by
  unfold Adl at h;split at h
  ·cases h;rfl
  ·cases h
theorem Avq:A6 tyU 183:=⟨H9,As4,fun _=>rfl,fun _=>rfl,fun _ _=>rfl,Avo,fun _=>Avp,fun _=>rfl,fun _=>rfl,fun _ _=>rfl,fun _ _=>rfl,fun _=>rfl,Be fun _=>rfl⟩
theorem Avr (c x)(h:Acg c=some x):c.map (SV.toV tyU)=Mg x:=by
  unfold Acg at h;split at h
  ·cases h;rfl
  ·cases h
theorem Avs (c x)(h:Adm c=some x):c.map (SV.toV tyU)=(At 75 true x).map (SV.toV tyU):=by
  unfold Adm at h;split at h
  ·cases h;rfl
  ·cases h
theorem Avt:A6 tyU 75:=⟨As5,As6,fun _=>rfl,fun _=>rfl,fun _ _=>rfl,Avr,fun _=>Avs,(fun h=>by cases h),fun _=>rfl,fun _ _=>rfl,fun x _=>Atx x,fun _=>rfl,Be fun _=>rfl⟩
theorem Avu (c x)(h:Ach c=some x):c.map (SV.toV tyU)=Ja x:=by
  unfold Ach at h;split at h
  ·cases h;rfl
  ·cases h
theorem Avv (c x)(h:Adn c=some x):c.map (SV.toV tyU)=(At 77 true x).map (SV.toV tyU):=by
  unfold Adn at h;split at h
  ·cases h;rfl
  ·cases h
theorem Avw (c x)(h:Ado c=some x):c.map (SV.toV tyU)=(At 77 false x).map (SV.toV tyU):=by
  unfold Ado at h;split at h
  ·cases h;rfl
  ·cases h
theorem Avx (x:Fy)(j:Nat)(v:V)(hj:(Mh x)[j]? =some v)(e:Pu 77 j=true):v.share=v:=by
 rcases Bool.or_eq_true_iff.1 e with h|h
 ·rw[show j=8 from Z2 h]at hj;cases hj;show V.row false _ (shareLL _)=_;rw[Cp.shareLL]
 ·rw[show j=1000 from Z2 h]at hj;cases hj
theorem Avy:A6 tyU 77:=⟨Abo,Abp,fun _=>rfl,fun _=>rfl,(fun m _=>by cases m<;>rfl),Avu,fun m=>match m with|true=>Avv|false=>Avw,(fun h=>by cases h),fun _=>rfl,(fun m _=>by cases m<;>rfl),(fun _ h=>by cases h),fun _=>rfl,Avx⟩
theorem Avz (c x)(h:Aci c=some x):c.map (SV.toV tyU)=Mi x:=by
  unfold Aci at h;split at h
  ·cases h;rfl
  ·cases h
theorem Av0 (c x)(h:Adp c=some x):c.map (SV.toV tyU)=(At 35 true x).map (SV.toV tyU):=by
  unfold Adp at h;split at h
  ·cases h;rfl
  ·cases h
theorem Av1 (c x)(h:Adq c=some x):c.map (SV.toV tyU)=(At 35 false x).map (SV.toV tyU):=by
  unfold Adq at h;split at h
  ·cases h;rfl
  ·cases h
theorem Av2 (x:List Fy)(j:Nat)(v:V)(hj:(S5 x)[j]? =some v)(e:Pu 35 j=true):v.share=v:=by
 rw[show j=1000 from Z2 e]at hj;cases hj
theorem Av3:A6 tyU 35:=⟨As7,As8,fun _=>rfl,fun _=>rfl,fun _ _=>rfl,Avz,fun m=>match m with|true=>Av0|false=>Av1,(fun h=>by cases h),fun _=>rfl,fun _ _=>rfl,(fun _ h=>by cases h),fun _=>rfl,Av2⟩
theorem Av4 (c x)(h:Acj c=some x):c.map (SV.toV tyU)=Jb x:=by
  unfold Acj at h;split at h
  ·cases h;rfl
  ·cases h
theorem Av5 (c x)(h:Adr c=some x):c.map (SV.toV tyU)=(At 79 true x).map (SV.toV tyU):=by
  unfold Adr at h;split at h
  ·cases h;rfl
  ·cases h
theorem Av6:A6 tyU 79:=⟨Abq,Abr,fun _=>rfl,fun _=>rfl,fun _ _=>rfl,Av4,fun _=>Av5,(fun h=>by cases h),fun _=>rfl,fun _ _=>rfl,fun x _=>Aiv x,fun _=>rfl,Be fun _=>rfl⟩
theorem Av7 (c x)(h:Ack c=some x):c.map (SV.toV tyU)=Mj x:=by
  unfold Ack at h;split at h
  ·cases h;rfl
  ·cases h
theorem Av8 (c x)(h:Ads c=some x):c.map (SV.toV tyU)=(At 36 true x).map (SV.toV tyU):=by
  unfold Ads at h;split at h
  ·cases h;rfl
  ·cases h
theorem Av9 (c x)(h:Adt c=some x):c.map (SV.toV tyU)=(At 36 false x).map (SV.toV tyU):=by
  unfold Adt at h;split at h
  ·cases h;rfl
  ·cases h
theorem Awa:A6 tyU 36:=⟨As9,Ata,fun _=>rfl,fun _=>rfl,fun _ _=>rfl,Av7,fun m=>match m with|true=>Av8|false=>Av9,(fun h=>by cases h),fun _=>rfl,fun _ _=>rfl,fun x _=>Aty x,fun _=>rfl,Be fun _=>rfl⟩
theorem Awb (c x)(h:Acl c=some x):c.map (SV.toV tyU)=Jc x:=by
  unfold Acl at h;split at h
  ·cases h;rfl
  ·cases h
theorem Awc (c x)(h:Adu c=some x):c.map (SV.toV tyU)=(At 38 true x).map (SV.toV tyU):=by
  unfold Adu at h;split at h
  ·cases h;rfl
  ·cases h
theorem Awd (c x)(h:Adv c=some x):c.map (SV.toV tyU)=(At 38 false x).map (SV.toV tyU):=by
  unfold Adv at h;split at h
  ·cases h;rfl
  ·cases h
theorem Awe (x:H4)(j:Nat)(v:V)(hj:(Mk x)[j]? =some v)(e:Pu 38 j=true):v.share=v:=by
 rw[show j=1000 from Z2 e]at hj;cases hj
theorem Awf:A6 tyU 38:=⟨Aiq,Air,fun _=>rfl,fun _=>rfl,(fun m _=>by cases m<;>rfl),Awb,fun m=>match m with|true=>Awc|false=>Awd,(fun h=>by cases h),fun _=>rfl,(fun m _=>by cases m<;>rfl),(fun _ h=>by cases h),fun _=>rfl,Awe⟩
theorem Awg (c x)(h:Acm c=some x):c.map (SV.toV tyU)=Ml x:=by
  unfold Acm at h;split at h
  ·cases h;rfl
  ·cases h
theorem Awh (c x)(h:Adw c=some x):c.map (SV.toV tyU)=(At 40 true x).map (SV.toV tyU):=by
  unfold Adw at h;split at h
  ·cases h;rfl
  ·cases h
theorem Awi:A6 tyU 40:=⟨S6,Atb,fun _=>rfl,fun _=>rfl,fun _ _=>rfl,Awg,fun _=>Awh,fun _=>rfl,fun _=>rfl,fun _ _=>rfl,fun _ _=>rfl,fun _=>rfl,Be fun _=>rfl⟩
theorem Awj (c x)(h:Acn c=some x):c.map (SV.toV tyU)=Mm x:=by
  unfold Acn at h;split at h
  ·cases h;rfl
  ·cases h
theorem Awk (c x)(h:Adx c=some x):c.map (SV.toV tyU)=(At 42 true x).map (SV.toV tyU):=by
  unfold Adx at h;split at h
  ·cases h;rfl
  ·cases h
theorem Awl:A6 tyU 42:=⟨S7,Atc,fun _=>rfl,fun _=>rfl,fun _ _=>rfl,Awj,fun _=>Awk,fun _=>rfl,fun _=>rfl,fun _ _=>rfl,fun _ _=>rfl,fun _=>rfl,Be fun _=>rfl⟩
theorem Awm (c x)(h:Aco c=some x):c.map (SV.toV tyU)=Mn x:=by
  unfold Aco at h;split at h
  ·cases h;rfl
  ·cases h
theorem Awn (c x)(h:Ady c=some x):c.map (SV.toV tyU)=(At 44 true x).map (SV.toV tyU):=by
  unfold Ady at h;split at h
  ·cases h;rfl
  ·cases h
theorem Awo:A6 tyU 44:=⟨Atd,Ate,fun _=>rfl,fun _=>rfl,fun _ _=>rfl,Awm,fun _=>Awn,(fun h=>by cases h),fun _=>rfl,fun _ _=>rfl,fun x _=>Atz x,fun _=>rfl,Be fun _=>rfl⟩
theorem Awp (c x)(h:Acp c=some x):c.map (SV.toV tyU)=Kj x:=by
  unfold Acp at h;split at h
  ·cases h;rfl
  ·cases h
theorem Awq (c x)(h:Adz c=some x):c.map (SV.toV tyU)=(At 55 true x).map (SV.toV tyU):=by
  unfold Adz at h;split at h
  ·cases h;rfl
  ·cases h
theorem Awr:A6 tyU 55:=⟨Ais,Ait,fun _=>rfl,fun _=>rfl,fun _ _=>rfl,Awp,fun _=>Awq,(fun h=>by cases h),fun _=>rfl,fun _ _=>rfl,fun x _=>Aiw x,fun _=>rfl,Be fun _=>rfl⟩
theorem Aws (c x)(h:Acq c=some x):c.map (SV.toV tyU)=Mp x:=by
  unfold Acq at h;split at h
  ·cases h;rfl
  ·cases h
theorem Awt (c x)(h:Ad0 c=some x):c.map (SV.toV tyU)=(At 81 true x).map (SV.toV tyU):=by
  unfold Ad0 at h;split at h
  ·cases h;rfl
  ·cases h
theorem Awu (c x)(h:Ad1 c=some x):c.map (SV.toV tyU)=(At 81 false x).map (SV.toV tyU):=by
  unfold Ad1 at h;split at h
  ·cases h;rfl
  ·cases h
theorem Awv:A6 tyU 81:=⟨Atf,Atg,fun _=>rfl,fun _=>rfl,fun _ _=>rfl,Aws,fun m=>match m with|true=>Awt|false=>Awu,(fun h=>by cases h),fun _=>rfl,fun _ _=>rfl,fun x _=>At0 x,fun _=>rfl,Be fun _=>rfl⟩
theorem Aww (c x)(h:Acr c=some x):c.map (SV.toV tyU)=Mq x:=by
  unfold Acr at h;split at h
  ·cases h;rfl
  ·cases h
theorem Awx (c x)(h:Ad2 c=some x):c.map (SV.toV tyU)=(At 149 true x).map (SV.toV tyU):=by
  unfold Ad2 at h;split at h
  ·cases h;rfl
  ·cases h
theorem Awy:A6 tyU 149:=⟨Ath,Ati,fun _=>rfl,fun _=>rfl,fun _ _=>rfl,Aww,fun _=>Awx,(fun h=>by cases h),fun _=>rfl,fun _ _=>rfl,fun x _=>At1 x,fun _=>rfl,Be fun _=>rfl⟩
theorem Awz (c x)(h:Acs c=some x):c.map (SV.toV tyU)=Mr x:=by
  unfold Acs at h;split at h
  ·cases h;rfl
  ·cases h
theorem Aw0 (c x)(h:Ad3 c=some x):c.map (SV.toV tyU)=(At 171 true x).map (SV.toV tyU):=by
  unfold Ad3 at h;split at h
  ·cases h;rfl
  ·cases h
theorem Aw1 (c x)(h:Ad4 c=some x):c.map (SV.toV tyU)=(At 171 false x).map (SV.toV tyU):=by
  unfold Ad4 at h;split at h
  ·cases h;rfl
  ·cases h
theorem Aw2:A6 tyU 171:=⟨Atj,Atk,fun _=>rfl,fun _=>rfl,(fun m _=>by cases m<;>rfl),Awz,fun m=>match m with|true=>Aw0|false=>Aw1,(fun h=>by cases h),fun _=>rfl,(fun m _=>by cases m<;>rfl),fun x _=>At2 x,fun _=>rfl,Be fun _=>rfl⟩
theorem Aw3 (c x)(h:Acu c=some x):c.map (SV.toV tyU)=Hb x:=by
  unfold Acu at h;split at h
  ·cases h;rfl
  ·cases h
theorem Aw4 (c x)(h:Ad5 c=some x):c.map (SV.toV tyU)=(At 222 true x).map (SV.toV tyU):=by
  unfold Ad5 at h;split at h
  ·cases h;rfl
  ·cases h
theorem Aw5:A6 tyU 222:=⟨Pt,Aiu,fun _=>rfl,fun _=>rfl,fun _ _=>rfl,Aw3,fun _=>Aw4,fun _=>rfl,fun _=>rfl,fun _ _=>rfl,fun _ _=>rfl,fun _=>rfl,Be fun _=>rfl⟩
theorem Aw6 (c x)(h:Acv c=some x):c.map (SV.toV tyU)=Hb x:=by
  unfold Acv at h;split at h
  ·cases h;rfl
  ·cases h
theorem Aw7 (c x)(h:Ad6 c=some x):c.map (SV.toV tyU)=(At 225 true x).map (SV.toV tyU):=by
  unfold Ad6 at h;split at h
  ·cases h;rfl
  ·cases h
theorem Aw8:A6 tyU 225:=⟨Pt,Aiu,fun _=>rfl,fun _=>rfl,fun _ _=>rfl,Aw6,fun _=>Aw7,fun _=>rfl,fun _=>rfl,fun _ _=>rfl,fun _ _=>rfl,fun _=>rfl,Be fun _=>rfl⟩
theorem Aw9 (c x)(h:Acw c=some x):c.map (SV.toV tyU)=Ms x:=by
  unfold Acw at h;split at h
  ·cases h;rfl
  ·cases h
theorem Axa (c x)(h:Ad7 c=some x):c.map (SV.toV tyU)=(At 248 true x).map (SV.toV tyU):=by
  unfold Ad7 at h;split at h
  ·cases h;rfl
  ·cases h
theorem Axb:A6 tyU 248:=⟨S8,Atl,fun _=>rfl,fun _=>rfl,fun _ _=>rfl,Aw9,fun _=>Axa,fun _=>rfl,fun _=>rfl,fun _ _=>rfl,fun _ _=>rfl,fun _=>rfl,Be fun _=>rfl⟩
theorem Axc (c x)(h:Acx c=some x):c.map (SV.toV tyU)=Jc x:=by
  unfold Acx at h;split at h
  ·cases h;rfl
  ·cases h
theorem Axd (c x)(h:Ad8 c=some x):c.map (SV.toV tyU)=(At 10038 true x).map (SV.toV tyU):=by
  unfold Ad8 at h;split at h
  ·cases h;rfl
  ·cases h
theorem Axe (c x)(h:Ad9 c=some x):c.map (SV.toV tyU)=(At 10038 false x).map (SV.toV tyU):=by
  unfold Ad9 at h;split at h
  ·cases h;rfl
  ·cases h
theorem Axf (x:H4)(j:Nat)(v:V)(hj:(Mk x)[j]? =some v)(e:Pu 10038 j=true):v.share=v:=by
 rw[show j=1000 from Z2 e]at hj;cases hj
theorem Axg:A6 tyU 10038:=⟨Aiq,Air,fun _=>rfl,fun _=>rfl,(fun m _=>by cases m<;>rfl),Axc,fun m=>match m with|true=>Axd|false=>Axe,(fun h=>by cases h),fun _=>rfl,(fun m _=>by cases m<;>rfl),(fun _ h=>by cases h),fun _=>rfl,Axf⟩
theorem Axh{t:Nat}(h2:t≠2)(h3:t≠3)(h4:t≠4)(h5:t≠5)(h9:t≠9)(h23:t≠23)(h24:t≠24)(h25:t≠25)(h27:t≠27)(h237:t≠237)(h157:t≠157)(h159:t≠159)(h28:t≠28)(h161:t≠161)(h29:t≠29)(h31:t≠31)(h33:t≠33)(h34:t≠34)(h183:t≠183)(h75:t≠75)(h77:t≠77)(h35:t≠35)(h79:t≠79)(h36:t≠36)(h38:t≠38)(h40:t≠40)(h42:t≠42)(h44:t≠44)(h55:t≠55)(h81:t≠81)(h149:t≠149)(h171:t≠171)(h222:t≠222)(h225:t≠225)(h248:t≠248)(h10038:t≠10038):Abs t=0:=by
 unfold Abs;split<;>first|rfl|contradiction
theorem Axi{t:Nat}(h2:t≠2)(h3:t≠3)(h4:t≠4)(h5:t≠5)(h9:t≠9)(h23:t≠23)(h24:t≠24)(h25:t≠25)(h27:t≠27)(h237:t≠237)(h157:t≠157)(h159:t≠159)(h28:t≠28)(h161:t≠161)(h29:t≠29)(h31:t≠31)(h33:t≠33)(h34:t≠34)(h183:t≠183)(h75:t≠75)(h77:t≠77)(h35:t≠35)(h79:t≠79)(h36:t≠36)(h38:t≠38)(h40:t≠40)(h42:t≠42)(h44:t≠44)(h55:t≠55)(h81:t≠81)(h149:t≠149)(h171:t≠171)(h222:t≠222)(h225:t≠225)(h248:t≠248)(h10038:t≠10038)(x):Abt t x=[]:=by
 unfold Abt;split<;>first|rfl|contradiction
theorem Axj{t:Nat}(h2:t≠2)(h3:t≠3)(h4:t≠4)(h5:t≠5)(h9:t≠9)(h23:t≠23)(h24:t≠24)(h25:t≠25)(h27:t≠27)(h237:t≠237)(h157:t≠157)(h159:t≠159)(h28:t≠28)(h161:t≠161)(h29:t≠29)(h31:t≠31)(h33:t≠33)(h34:t≠34)(h183:t≠183)(h75:t≠75)(h77:t≠77)(h35:t≠35)(h79:t≠79)(h36:t≠36)(h38:t≠38)(h40:t≠40)(h42:t≠42)(h44:t≠44)(h55:t≠55)(h81:t≠81)(h149:t≠149)(h171:t≠171)(h222:t≠222)(h225:t≠225)(h248:t≠248)(h10038:t≠10038)(x):Abu t x=[]:=by
 unfold Abu;split<;>first|rfl|contradiction
theorem Axk{t:Nat}(h2:t≠2)(h3:t≠3)(h4:t≠4)(h5:t≠5)(h9:t≠9)(h23:t≠23)(h24:t≠24)(h25:t≠25)(h27:t≠27)(h237:t≠237)(h157:t≠157)(h159:t≠159)(h28:t≠28)(h161:t≠161)(h29:t≠29)(h31:t≠31)(h33:t≠33)(h34:t≠34)(h183:t≠183)(h75:t≠75)(h77:t≠77)(h35:t≠35)(h79:t≠79)(h36:t≠36)(h38:t≠38)(h40:t≠40)(h42:t≠42)(h44:t≠44)(h55:t≠55)(h81:t≠81)(h149:t≠149)(h171:t≠171)(h222:t≠222)(h225:t≠225)(h248:t≠248)(h10038:t≠10038)(x):Abv t x=[]:=by
 unfold Abv;split<;>first|rfl|contradiction
theorem Axl{t:Nat}(h2:t≠2)(h3:t≠3)(h4:t≠4)(h5:t≠5)(h9:t≠9)(h23:t≠23)(h24:t≠24)(h25:t≠25)(h27:t≠27)(h237:t≠237)(h157:t≠157)(h159:t≠159)(h28:t≠28)(h161:t≠161)(h29:t≠29)(h31:t≠31)(h33:t≠33)(h34:t≠34)(h183:t≠183)(h75:t≠75)(h77:t≠77)(h35:t≠35)(h79:t≠79)(h36:t≠36)(h38:t≠38)(h40:t≠40)(h42:t≠42)(h44:t≠44)(h55:t≠55)(h81:t≠81)(h149:t≠149)(h171:t≠171)(h222:t≠222)(h225:t≠225)(h248:t≠248)(h10038:t≠10038)(m)(x):At t m x=[]:=by
 unfold At;split<;>first|rfl|contradiction
theorem Axm{t:Nat}(h2:t≠2)(h3:t≠3)(h4:t≠4)(h5:t≠5)(h9:t≠9)(h23:t≠23)(h24:t≠24)(h25:t≠25)(h27:t≠27)(h237:t≠237)(h157:t≠157)(h159:t≠159)(h28:t≠28)(h161:t≠161)(h29:t≠29)(h31:t≠31)(h33:t≠33)(h34:t≠34)(h183:t≠183)(h75:t≠75)(h77:t≠77)(h35:t≠35)(h79:t≠79)(h36:t≠36)(h38:t≠38)(h40:t≠40)(h42:t≠42)(h44:t≠44)(h55:t≠55)(h81:t≠81)(h149:t≠149)(h171:t≠171)(h222:t≠222)(h225:t≠225)(h248:t≠248)(h10038:t≠10038)(c):Acy t c=none:=by
 unfold Acy;split<;>first|rfl|contradiction
theorem Axn{t:Nat}(h2:t≠2)(h3:t≠3)(h4:t≠4)(h5:t≠5)(h9:t≠9)(h23:t≠23)(h24:t≠24)(h25:t≠25)(h27:t≠27)(h237:t≠237)(h157:t≠157)(h159:t≠159)(h28:t≠28)(h161:t≠161)(h29:t≠29)(h31:t≠31)(h33:t≠33)(h34:t≠34)(h183:t≠183)(h75:t≠75)(h77:t≠77)(h35:t≠35)(h79:t≠79)(h36:t≠36)(h38:t≠38)(h40:t≠40)(h42:t≠42)(h44:t≠44)(h55:t≠55)(h81:t≠81)(h149:t≠149)(h171:t≠171)(h222:t≠222)(h225:t≠225)(h248:t≠248)(h10038:t≠10038)(m)(c):Aea t m c=none:=by
 unfold Aea;split<;>first|rfl|contradiction
theorem df{t:Nat}(h2:t≠2)(h3:t≠3)(h4:t≠4)(h5:t≠5)(h9:t≠9)(h23:t≠23)(h24:t≠24)(h25:t≠25)(h27:t≠27)(h237:t≠237)(h157:t≠157)(h159:t≠159)(h28:t≠28)(h161:t≠161)(h29:t≠29)(h31:t≠31)(h33:t≠33)(h34:t≠34)(h183:t≠183)(h75:t≠75)(h77:t≠77)(h35:t≠35)(h79:t≠79)(h36:t≠36)(h38:t≠38)(h40:t≠40)(h42:t≠42)(h44:t≠44)(h55:t≠55)(h81:t≠81)(h149:t≠149)(h171:t≠171)(h222:t≠222)(h225:t≠225)(h248:t≠248)(h10038:t≠10038):Dft tyU t:=⟨Axh h2 h3 h4 h5 h9 h23 h24 h25 h27 h237 h157 h159 h28 h161 h29 h31 h33 h34 h183 h75 h77 h35 h79 h36 h38 h40 h42 h44 h55 h81 h149 h171 h222 h225 h248 h10038,Axi h2 h3 h4 h5 h9 h23 h24 h25 h27 h237 h157 h159 h28 h161 h29 h31 h33 h34 h183 h75 h77 h35 h79 h36 h38 h40 h42 h44 h55 h81 h149 h171 h222 h225 h248 h10038,Axj h2 h3 h4 h5 h9 h23 h24 h25 h27 h237 h157 h159 h28 h161 h29 h31 h33 h34 h183 h75 h77 h35 h79 h36 h38 h40 h42 h44 h55 h81 h149 h171 h222 h225 h248 h10038,Axk h2 h3 h4 h5 h9 h23 h24 h25 h27 h237 h157 h159 h28 h161 h29 h31 h33 h34 h183 h75 h77 h35 h79 h36 h38 h40 h42 h44 h55 h81 h149 h171 h222 h225 h248 h10038,Axl h2 h3 h4 h5 h9 h23 h24 h25 h27 h237 h157 h159 h28 h161 h29 h31 h33 h34 h183 h75 h77 h35 h79 h36 h38 h40 h42 h44 h55 h81 h149 h171 h222 h225 h248 h10038,Axm h2 h3 h4 h5 h9 h23 h24 h25 h27 h237 h157 h159 h28 h161 h29 h31 h33 h34 h183 h75 h77 h35 h79 h36 h38 h40 h42 h44 h55 h81 h149 h171 h222 h225 h248 h10038,Axn h2 h3 h4 h5 h9 h23 h24 h25 h27 h237 h157 h159 h28 h161 h29 h31 h33 h34 h183 h75 h77 h35 h79 h36 h38 h40 h42 h44 h55 h81 h149 h171 h222 h225 h248 h10038⟩
theorem Ayk:Ad tyU:=Ad.of fun t=>if h2:t=2 then by subst h2;exact At5 else if h3:t=3 then by subst h3;exact At8 else if h4:t=4 then by subst h4;exact Aub else if h5:t=5 then by subst h5;exact Aue else if h9:t=9 then by subst h9;exact Auh else if h23:t=23 then by subst h23;exact Auk else if h24:t=24 then by subst h24;exact Aun else if h25:t=25 then by subst h25;exact Auq else if h27:t=27 then by subst h27;exact Aut else if h237:t=237 then by subst h237;exact Auw else if h157:t=157 then by subst h157;exact Auz else if h159:t=159 then by subst h159;exact Au2 else if h28:t=28 then by subst h28;exact Au6 else if h161:t=161 then by subst h161;exact Au9 else if h29:t=29 then by subst h29;exact Avd else if h31:t=31 then by subst h31;exact Avh else if h33:t=33 then by subst h33;exact Avk else if h34:t=34 then by subst h34;exact Avn else if h183:t=183 then by subst h183;exact Avq else if h75:t=75 then by subst h75;exact Avt else if h77:t=77 then by subst h77;exact Avy else if h35:t=35 then by subst h35;exact Av3 else if h79:t=79 then by subst h79;exact Av6 else if h36:t=36 then by subst h36;exact Awa else if h38:t=38 then by subst h38;exact Awf else if h40:t=40 then by subst h40;exact Awi else if h42:t=42 then by subst h42;exact Awl else if h44:t=44 then by subst h44;exact Awo else if h55:t=55 then by subst h55;exact Awr else if h81:t=81 then by subst h81;exact Awv else if h149:t=149 then by subst h149;exact Awy else if h171:t=171 then by subst h171;exact Aw2 else if h222:t=222 then by subst h222;exact Aw5 else if h225:t=225 then by subst h225;exact Aw8 else if h248:t=248 then by subst h248;exact Axb else if h10038:t=10038 then by subst h10038;exact Axg else(df h2 h3 h4 h5 h9 h23 h24 h25 h27 h237 h157 h159 h28 h161 h29 h31 h33 h34 h183 h75 h77 h35 h79 h36 h38 h40 h42 h44 h55 h81 h149 h171 h222 h225 h248 h10038).un1
def eqs:List Nat:=[23,237,33,183,40,42]
theorem Ayl:Nv Tryz.prog tab (eqT eqs):=Ar7 (by kernel_rfl)
end Go.Proofs.YtgcnddnmhllahaaGreat
