/- The document's Runs: a contract. -/
import Derived.Test.YtdlnokbeadkdfaaDoorVar08
import Derived.Test.YtdlnokbeadkdfaaDoorAppB08
import Derived.Deep.LoopGhost
import Derived.Deep.QuietTactic
import Derived.Deep.CutBlock
import Derived.Deep.DeepCutAuto
import Derived.IntWalk
import Derived.Lib.AppendZeros
namespace Go.Proofs.YtdlnokbeadkdfaaDoor
open Go.RowKit Go.Deep
set_option linter.unusedSimpArgs false
set_option linter.unusedVariables false

theorem runsB_drop {l : List Int} {i : Nat} {x : Int} (hx : l[i]? = some x) : runsB (l.drop i) = putB (leadN x (l.drop i)) ++ putB (zigN x) ++ runsB (l.drop (i + leadN x (l.drop i))) := by
  have e : l.drop i = x :: l.drop (i + 1) := by
    have hi := (List.getElem?_eq_some_iff.1 hx)
    rw [← hi.2]
    exact List.drop_eq_getElem_cons hi.1
  have e2 : leadN x (l.drop i) = leadN x (l.drop (i + 1)) + 1 := by rw [e, leadN, if_pos rfl]
  rw [e2]
  conv => lhs; rw [e, runsB]
  congr 2
  rw [List.drop_drop]
  congr 1
  omega
theorem below_drewN {B : Nat} {w x : World} (h : Below B w x) (n : Nat) : Below B w (x.drewN n) := by
  induction n with
  | zero => exact h
  | succ n ih => exact ih.drew


end Go.Proofs.YtdlnokbeadkdfaaDoor
