/- The document's Bools: a contract. -/
import Derived.Test.YtdlnokbeadkdfaaDoorVar08
import Derived.Test.YtdlnokbeadkdfaaDoorAppB08
import Derived.Deep.LoopGhost
import Derived.Deep.QuietTactic
import Derived.Deep.CutBlock
import Derived.Deep.DeepCutAuto
import Derived.IntWalk
import Derived.Lib.AppendZeros
namespace Go.Proofs.YtdlnokbeadkdfaaDoor
open Go.RowKit Go.Deep
set_option linter.unusedSimpArgs false
set_option linter.unusedVariables false


end Go.Proofs.YtdlnokbeadkdfaaDoor
