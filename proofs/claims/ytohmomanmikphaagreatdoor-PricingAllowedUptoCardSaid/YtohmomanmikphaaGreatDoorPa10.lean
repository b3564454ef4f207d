import Derived.Lib.ItoaMem
import Derived.Test.YtohmomanmikphaaGreatDoorPa09
set_option linter.unusedSimpArgs false
set_option linter.unusedVariables false
set_option maxRecDepth 100000
section
namespace Go.Proofs.YtohmomanmikphaaGreatDoor.Nu
open Go.Aw Go.Aw.D Go.Proofs Ty Go.Nu
end Go.Proofs.YtohmomanmikphaaGreatDoor.Nu
end
section
namespace Go.Sb
def pop:Nat->Nat->Nat
 | 0,_=>0
 | w+1,s=>s%2+pop w (s/2)
end Go.Sb
end
