/- ExtractChain, of all arguments of its types. -/
import Derived.Test.YtlagngkafllbiaaChain
import Derived.Test.YtlagngkafllbiaaNodeSh
set_option linter.unusedSimpArgs false
set_option linter.unusedVariables false
namespace Go.Proofs.Ytlagngkafllbiaa
open Go Go.RowKit
theorem extractChain_az (az : List AV) (h : ShL (Sh tab 1048576 6) [23, 24] az) : VC Try.prog 3 az [] (.v (.bool true)) := by
  obtain ⟨a0, r, rfl, h0, h⟩ := shl_cons h
  obtain ⟨a1, r, rfl, h1, h⟩ := shl_cons h
  obtain rfl := shl_nil h
  obtain ⟨key, rfl, hk⟩ := h0.arr rfl rfl
  obtain ⟨l, rfl, hl⟩ := h1.bytes rfl rfl rfl
  exact chain_v key l hk hl
end Go.Proofs.Ytlagngkafllbiaa
