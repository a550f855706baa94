/- WalkNil, of all arguments of its types. -/
import Derived.Test.YtpeefeioccglcaaWalkNil
import Derived.Test.YtpeefeioccglcaaOpen
set_option linter.unusedSimpArgs false
set_option linter.unusedVariables false
namespace Go.Proofs.Ytpeefeioccglcaa
open Go Go.RowKit
theorem walkNil_az (az : List AV) (h : ShL (Sh tab 1048576 6) [3, 50] az) : VC Try.prog 8 az [] (.v (.bool true)) := by
  obtain ⟨a0, r, rfl, h0, h⟩ := shl_cons h
  obtain ⟨a1, r, rfl, h1, h⟩ := shl_cons h
  obtain rfl := shl_nil h
  obtain ⟨n, rfl, _⟩ := h0.int rfl rfl
  obtain ⟨l, rfl, hl⟩ := h1.arr rfl rfl
  exact walkNil_v n l hl
end Go.Proofs.Ytpeefeioccglcaa
