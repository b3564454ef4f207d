import Derived.RangeFuncBox
import Derived.RangeFuncNested
import Derived.RangeFuncLeaves
import Derived.Shelf.Abstract
import Derived.WalkKit
import Derived.OwnWalkIn
import Derived.TacticsInMore
import Derived.LoopNIn
import Derived.LoopIn
import Derived.Maps.AppendAt
import Derived.Test.YtkfhgjihlbilpaaGreatDoorVl11
set_option linter.unusedSimpArgs false
set_option linter.unusedVariables false
set_option linter.defProp false
set_option maxRecDepth 100000
namespace Go.Proofs.YtkfhgjihlbilpaaGreatDoor
open Go.Aw Go.Aw.D Go.Proofs Ty
namespace Nu
open Go.Nu Go.Sb Go.RowKit Go.Shelf
attribute [local go_sem] Oper.semAt_some
end Nu
namespace Nu
open Go.Nu Go.Sb Go.RowKit
end Nu
namespace Nu
open Go.Nu Go.Sb
def g3:List Nat:=(List.range 1024).filter fun p=>pop 10 p == 3
def cnt3(n:Nat):Nat:=(g3.filter fun p=>decide (p<2^n)).length
def Na(n k:Nat):Bool:=
 let p:Int:=((g3.getD k 0:Nat):Int)
 let lo:=vY .and .i64 p (IntKind.i64.wrap (0-p))
 decide (p<((2^n:Nat):Int))&&((lo == 0||p == IntKind.i64.wrap (((2^n:Nat):Int)-lo)) == decide (k+1=cnt3 n))
end Nu
end Go.Proofs.YtkfhgjihlbilpaaGreatDoor
