/- A script under way: a loss of power at both disks; alike disks tell the same. -/
import Derived.Test.YtmlaojfhmaamcaaLive06
import Derived.Test.YtmlaojfhmaamcaaRefC06
import Derived.Test.YtmlaojfhmaamcaaLike06
namespace Go.Proofs.Ytmlaojfhmaamcaa
open Go.ChangeShapes Go.WideShapes Go.ChangeAt Go.RowKit Go.Deep
set_option linter.unusedSimpArgs false
set_option linter.unusedVariables false

section
variable {base : Nat} {w1 wr : World} {N : Nat} {D : DSh} {A : DiskA} {rb : Nat} {v : Value} {R : RefA} {at_ names torn : Int} {ks : List Bool} {vk : Value}
theorem Live.dcut (h : Live base w1 wr N D A rb v R) (hs : base ≤ wr.heap.size) (hN : N ≤ 1000) (hk : SliceIs boolc 1 wr vk ks) (ha1 : -9223372036854775808 ≤ at_) (ha2 : at_ ≤ 9223372036854775807) (hn1 : -9223372036854775808 ≤ names) (hn2 : names ≤ 9223372036854775807) (ht1 : -9223372036854775808 ≤ torn) (ht2 : torn ≤ 9223372036854775807) :
    Calls Try.prog 17 #[.pointer (some ⟨D.pb, 0, none⟩), .int .i64 at_, .int .i64 names, vk, .int .i64 torn] wr fun e w' => CutPost wr A at_ names ks torn e w' :=
  cut_any h.disk hs at_ names torn ks vk hk ha1 ha2 hn1 hn2 ht1 ht2 h.sA (by omega)
theorem Live.rcut (h : Live base w1 wr N D A rb v R) (hN : N ≤ 1000) (hk : SliceIs boolc 1 wr vk ks) (ha1 : -9223372036854775808 ≤ at_) (ha2 : at_ ≤ 9223372036854775807) (hn1 : -9223372036854775808 ≤ names) (hn2 : names ≤ 9223372036854775807) (ht1 : -9223372036854775808 ≤ torn) (ht2 : torn ≤ 9223372036854775807) :
    Calls Try.prog 18 #[.pointer (some ⟨rb, 0, none⟩), .int .i64 at_, .int .i64 names, vk, .int .i64 torn] wr fun e w' => RCutPost wr R at_ names ks torn e w' := by
  obtain ⟨nb, h1, h2⟩ := h.bse
  exact rcut_any h.ref at_ names torn ks vk hk ha1 ha2 hn1 hn2 ht1 ht2 h.sR (by omega) h.held nb h1 h2
theorem Live.like (h : Live base w1 wr N D A rb v R) (hN : N ≤ 1000) :
    Calls Try.prog 19 #[.pointer (some ⟨D.pb, 0, none⟩), .pointer (some ⟨rb, 0, none⟩)] wr fun e w' => e = .returned (.bool true) ∧ Below wr.heap.size wr w' := by
  obtain ⟨F, pre, J, hsim⟩ := h.sim
  exact alike_any h.disk h.ref hsim h.sR h.sA (by omega) h.held
end

end Go.Proofs.Ytmlaojfhmaamcaa
