/- Texts joined by a program: SbB, SbC, SbD. -/
import Derived.RangeFuncBox
import Derived.RangeFuncNested
import Derived.RangeFuncLeaves
import Derived.Shelf.Abstract
import Derived.WalkKit
import Derived.OwnWalkIn
import Derived.TacticsInMore
import Derived.LoopNIn
import Derived.LoopIn
import Derived.Maps.AppendAt
import Derived.Test.YtpddaldlebngaaaGreatDoorZp12
import Derived.Test.YtpddaldlebngaaaGreatDoorZp29

section
set_option linter.unusedSimpArgs false
set_option linter.unusedVariables false
namespace Go.Proofs.YtpddaldlebngaaaGreatDoor.Nu
open Go.Aw Go.Aw.D Go.Proofs Ty Go.Nu Go.Sb Go.RowKit Go.Shelf
attribute [local go_sem] Oper.semAt_some
structure Enum (s N:Nat) (e:Nat→Nat):Prop where
  pos:0 < N
  zero:e 0=0
  le:∀ i,e i≤s
  mono:∀ i,i + 1 < N→e i < e (i + 1)
  last:∀ i,i < N→(e i=s↔i + 1=N)
  step:∀ i,i + 1 < N→bits .and .i64 (wrap64 ((e i:Int) - (s:Int))) (s:Int)=(e (i + 1):Nat)
end Go.Proofs.YtpddaldlebngaaaGreatDoor.Nu
end

section
set_option linter.unusedSimpArgs false
set_option linter.unusedVariables false
namespace Go.Proofs.YtpddaldlebngaaaGreatDoor.Nu
open Go.Aw Go.Aw.D Go.Proofs Ty Go.Nu Go.Sb Go.RowKit
set_option maxRecDepth 100000
end Go.Proofs.YtpddaldlebngaaaGreatDoor.Nu
end

section
set_option linter.unusedSimpArgs false
set_option linter.unusedVariables false
namespace Go.Proofs.YtpddaldlebngaaaGreatDoor.Nu
open Go.Aw Go.Aw.D Go.Proofs Ty Go.Nu Go.Sb
set_option maxRecDepth 100000
def g3:List Nat:=(List.range 1024).filter fun p=>pop 10 p == 3
end Go.Proofs.YtpddaldlebngaaaGreatDoor.Nu
end
