/- What the functions compute that FnUses reaches, and that they do; no condition. Printed by gen4.py. -/
import Derived.Test.YtcdojenmonmcfaaGreatFFnUsesTa
set_option linter.all false
set_option maxRecDepth 20000
namespace Go.Proofs.YtcdojenmonmcfaaGreat
open Go.Eng
noncomputable section
variable (K:Nat)
def Bb2:Ei:=⟨[(3,.p 103),(4,.p 104),(7,.p 107),(21,.v 26),(22,.v 2)],[(107,.box [.v 2,.v 2,.v 2,.v 2,.v 2,.v 2,.v 22,.v 26,.v 26,.v 29,.v 30,.v 26]),(104,.st 38 true),(103,.box [.v 2,.v 2,.v 2,.v 2,.v 2,.v 2,.v 22,.v 26,.v 26,.v 29,.v 30,.v 26])]⟩
def A7l:=fun(C131066:CT Bb2 _) (C16776486:CT Bf2 _)=>jn (Bf1 K) 67105945 Bf2 [(16776486,ar Bf2 C16776486),(131066,ar Bb2 C131066)] (fun a b c d e f g h i j k l m o p q r s t u v w x y z a1 b1 c1 d1=>Aui K d (fun v48=>C16776486 a b c v48 e f g h i j k l m o p q r s t u v w x y z a1 b1 c1 d1)) kN
def A7m:=fun(C131066:CT Bb2 _)=>lp (Bf1 K) 16776486 Bf2 [(131066,ar Bb2 C131066)] (fun n a b c d e f g h i j k l m o p q r s t u v w x y z a1 b1 c1 d1=>Ary K b e f g h i j k l m o p q r s t u v w x y z a1 b1 c1 d1 c (C131066 a) n d) (fun n=>(kC (A7l K _ _) kN))
def A99:=lp (Bf1 K) 131066 Bb2 [] (fun n a=>Arz K a n) (fun n=>(kC (A7m K _ K) kN))
def Bvb:=ct (Bf1 K) (Azw K) (kC (A99 K K) kN)
end
end Go.Proofs.YtcdojenmonmcfaaGreat
