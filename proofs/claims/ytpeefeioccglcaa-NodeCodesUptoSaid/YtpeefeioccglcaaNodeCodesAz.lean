/- NodeCodes, of all arguments of its types. -/
import Derived.Test.YtpeefeioccglcaaCodes
import Derived.Test.YtpeefeioccglcaaNodeSh
set_option linter.unusedSimpArgs false
set_option linter.unusedVariables false
namespace Go.Proofs.Ytpeefeioccglcaa
open Go Go.RowKit
theorem nodeCodes_az (az : List AV) (h : ShL (Sh tab 1048576 6) [53, 22] az) : VC Try.prog 4 az [] (.v (.bool true)) := by
  obtain ⟨a0, r, rfl, h0, h⟩ := shl_cons h
  obtain ⟨a1, r, rfl, h1, h⟩ := shl_cons h
  obtain rfl := shl_nil h
  obtain ⟨n, rfl, hw⟩ := node_sh h0
  obtain ⟨l, rfl, hl⟩ := h1.bytes rfl rfl rfl
  by_cases hn : n.ok
  · exact nodeCodes_ok n hw hn l hl
  · exact nodeCodes_bad n hw hn l hl
end Go.Proofs.Ytpeefeioccglcaa
