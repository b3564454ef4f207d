import Derived.Test.YthbiheckeoknlaaGreatDoorPp13
import Derived.Test.YthbiheckeoknlaaGreatDoorPp19
namespace Go.Proofs.YthbiheckeoknlaaGreatDoor
open Go.Aw Go.Aw.D
theorem scriptParses_holds:Rows.ScriptParsesUptoCardSaid:=scriptParses.card fun s=>Sp.Bd s
#print axioms scriptParses_holds
end Go.Proofs.YthbiheckeoknlaaGreatDoor
