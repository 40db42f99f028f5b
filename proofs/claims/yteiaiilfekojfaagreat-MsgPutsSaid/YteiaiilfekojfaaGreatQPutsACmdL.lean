/- Commands as rows of cells. Conditions: none but those each names. -/
import Derived.Test.YteiaiilfekojfaaGreatQPutsACmdCheck
import Derived.Test.YteiaiilfekojfaaGreatQPutsARowsReads
namespace Go.Proofs.YteiaiilfekojfaaGreat.Cmd
open Go.RowKit Wire

def cmL (c : Cm) : List Value := (cmC c).toList
end Go.Proofs.YteiaiilfekojfaaGreat.Cmd
