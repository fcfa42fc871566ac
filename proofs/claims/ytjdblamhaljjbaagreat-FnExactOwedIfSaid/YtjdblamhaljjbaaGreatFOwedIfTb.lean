/- What the functions compute that FnExactOwedIf reaches, and that they do; no condition. Printed by gen3.py. -/
import Derived.Test.YtjdblamhaljjbaaGreatFOwedIfTa
set_option linter.all false
set_option maxRecDepth 20000
namespace Go.Proofs.YtjdblamhaljjbaaGreat
open Go.Eng
noncomputable section
def Auo (K:Nat)(a0:List Ax)(a1:List Ax):Option (Bool):=(bif ((a0.length:Int) != (a1.length:Int))then some false else(Aq4 K a0 a1 K 0))
def s_172:Sig:=⟨[.v 30,.v 30],[.v 4],true⟩
def Buf (K:Nat):Gb tyU:=⟨s_172,Auo K⟩
def Bmf (K:Nat):=xF s_172 [(135,Bue K)] [] 27 [] [] [] [] [.tmp 4]
def A6b:E5:=⟨[(0,.v 30),(1,.v 30),(5,.v 2)],[]⟩
def A6c (K:Nat)(n:Nat)(q:PT A6b):Rt s_172:=Aq4 K q.1 q.2.1 n q.2.2.1
theorem Bmg (K:Nat):AtL (Bmf K) (fun n=>[]) [] (bd Tryz.f74) 58 (A6c K):=fun n q=>by kernel_rfl
theorem Bmh (K:Nat):XF [.tmp 4] s_172 27 [] (Bmf K):=xkF (gC (Bxj K) gN) oN
theorem Bmi (K:Nat)(n:Nat):CF [.tmp 4] s_172 27 [] (bd Tryz.f74) [] 58 (ar A6b (A6c K n)):=
 Aei (Bmh K) (Bmg K) (fun n=>kN) n
theorem Bxk (K:Nat):OkF 74 (Buf K):=
 Aa6 (x:=Bmf K) (L:=[(58,ar A6b (A6c K K))]) (c0:=bd Tryz.f74) (Bmh K) (by intro a0 a1;show @Eq _ _ _;kernel_rfl) (kC (Bmi K K) kN) Tryz.func74 trivial
def Avo (K:Nat)(a0:Eb)(a1:Eb):Option (Bool):=((Ayr K a0.fC a1.fC).bind fun r1=>(bif (!r1)then some false else((Ays K a0.fP a1.fP).bind fun r2=>(bif (!r2)then some false else((Avn K a0.fL a1.fL).bind fun r3=>(bif (!r3)then some false else((Auo K a0.fQ a1.fQ).bind fun r4=>(bif (!r4)then some false else((An4 K a0.Pr a1.Pr).bind fun r5=>(bif (!r5)then some false else some true))))))))))
def Bug:Sig:=⟨[.v 32,.v 32],[.v 4],true⟩
def Buh (K:Nat):Gb tyU:=⟨Bug,Avo K⟩
def B36 (K:Nat):=xF Bug [(71,Bt3 K),(72,Bt6 K),(73,Buc K),(74,Buf K),(75,Bbd K)] [] 35 [] [] [] [] [.tmp 4]
theorem Bxl (K:Nat):OkF 23 (Buh K):=
 Aa6 (x:=B36 K) (L:=[]) (c0:=bd Tryz.f23) (xkF (gC (Bxc K) (gC (Bxe K) (gC (Bxi K) (gC (Bxk K) (gC (A99 K) gN))))) oN) (by intro a0 a1;show @Eq _ _ _;kernel_rfl) kN Tryz.func23 trivial
def Aq5 (K:Nat)(a0:Ec)(a1:Dn):Option (Bool):=((Aqe K a0 1048576).bind fun r1=>(bif (decide (r1<0))then some true else((Ard K a0).bind fun r2=>((At0 K a1).bind fun r3=>((Ayo K r2 r3).bind fun r4=>((Ard K a0).bind fun r5=>((At0 K a1).bind fun r6=>((Ayq K r5 r6).bind fun r7=>(bif (r7 != r4)then some false else((Ard K a0).bind fun r8=>((Avo K r5 r8).bind fun r9=>(bif (!r9)then some false else some true))))))))))))
def Bui:Sig:=⟨[.v 52,.v 53],[.v 4],true⟩
def B37 (K:Nat):Gb tyU:=⟨Bui,Aq5 K⟩
def B38 (K:Nat):=xF Bui [(18,c_8 K),(19,B1x K),(20,Byt K),(21,Byw K),(22,Bt1 K),(23,Buh K)] [] 33 [] [] [] [] [.tmp 4]
theorem Bxm (K:Nat):OkF 4 (B37 K):=
 Aa6 (x:=B38 K) (L:=[]) (c0:=bd Tryz.f4) (xkF (gC (B4p K) (gC (B1y K) (gC (Byu K) (gC (Byx K) (gC (Bxb K) (gC (Bxl K) gN)))))) oN) (by intro a0 a1;show @Eq _ _ _;kernel_rfl) kN Tryz.func4 trivial
end
end Go.Proofs.YtjdblamhaljjbaaGreat
