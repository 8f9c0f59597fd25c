/- Which operations may be, plain. -/
import Derived.Test.YtgmdimbiipemhaaGreatDoorVec08
import Derived.Test.YtgmdimbiipemhaaGreatDoorStr08
namespace Go.Proofs.YtgmdimbiipemhaaGreatDoor
set_option linter.unusedSimpArgs false
set_option linter.unusedVariables false

def noText : ByteArray := ⟨#[]⟩
def OpD.bare (o : OpD) : OpD := ⟨o.id, o.d0, o.d1, o.d2, o.d3, o.d4, o.d5, o.d6, o.d7, o.kind, ⟨0, 0⟩, 0, 0, ⟨0, 0⟩, noText, noText, noText, ⟨0, 0⟩, false, ⟨0, 0⟩, false⟩
def OpD.keepR (o : OpD) : OpD := { o.bare with ref := o.ref }
def OpD.keepI (o : OpD) : OpD := { o.bare with ref := o.ref, side := o.side, ch := o.ch }
def OpD.keepM (o : OpD) : OpD := { o.bare with ref := o.ref, under := o.under, key := o.key }
def OpD.keepS (o : OpD) : OpD := { o.bare with ref := o.ref, name := o.name, value := o.value }
def OpD.keepK (o : OpD) : OpD := { o.bare with name := o.name, value := o.value, fr := o.fr, fa := o.fa, tr := o.tr, ta := o.ta }
def OpD.okI (o : OpD) : Bool := (decide (o.side = 2) && decide (o.ref = ⟨0, 0⟩) || o.may o.ref && (decide (o.side = 1) || decide (o.side = 2))) && (decide (o.ch = 0) || decide (32 ≤ o.ch) && decide (o.ch ≤ 126))
def OpD.okM (o : OpD) : Bool := o.may o.ref && (decide (o.under = ⟨0, 0⟩) || o.may o.under) && !decide (o.under = o.ref) && keyB o.key
def OpD.okS (o : OpD) : Bool := o.may o.ref && nameB o.name && valueB o.value
def OpD.okK (o : OpD) : Bool := o.may o.fr && o.may o.tr && nameB o.name && valueB o.value
def OpD.kindOk (o : OpD) : Bool :=
  if o.kind = 1 then o.okI && decide (o.keepI = o) else
  if o.kind = 2 then o.may o.ref && decide (o.keepR = o) else
  if o.kind = 3 then o.okM && decide (o.keepM = o) else
  if o.kind = 4 then o.okS && decide (o.keepS = o) else
  if o.kind = 5 then o.okK && decide (o.keepK = o) else false
def minV (ds : List Int) : Int := Lib.minOf ds
/-- May it be? -/
def OpD.right (o : OpD) : Bool := rightB o.id && (!decide (minV o.deps < 0) && (!decide (o.id.n ≤ mostV o.deps) && o.kindOk))
theorem OpD.right_no1 {o : OpD} (h : rightB o.id = false) : o.right = false := by unfold OpD.right; rw [h]; rfl
theorem OpD.right_no2 {o : OpD} (h : rightB o.id = true) (h2 : minV o.deps < 0) : o.right = false := by unfold OpD.right; rw [h, decide_eq_true h2]; rfl
theorem OpD.right_no3 {o : OpD} (h : rightB o.id = true) (h2 : ¬ minV o.deps < 0) (h3 : o.id.n ≤ mostV o.deps) : o.right = false := by unfold OpD.right; rw [h, decide_eq_false h2, decide_eq_true h3]; rfl
theorem OpD.right_yes {o : OpD} (h : rightB o.id = true) (h2 : ¬ minV o.deps < 0) (h3 : ¬ o.id.n ≤ mostV o.deps) : o.right = o.kindOk := by unfold OpD.right; rw [h, decide_eq_false h2, decide_eq_false h3]; rfl

end Go.Proofs.YtgmdimbiipemhaaGreatDoor
