/- VerifyReads, of all arguments of its types. -/
import Derived.Test.YtlagngkafllbiaaVerReads
import Derived.Test.YtlagngkafllbiaaNodeSh
set_option linter.unusedSimpArgs false
set_option linter.unusedVariables false
namespace Go.Proofs.Ytlagngkafllbiaa
open Go Go.RowKit
theorem verifyReads_az (az : List AV) (h : ShL (Sh tab 1048576 6) [30, 23, 24, 24] az) : VC Try.prog 4 az [] (.v (.bool true)) := by
  obtain ⟨a0, r, rfl, h0, h⟩ := shl_cons h
  obtain ⟨a1, r, rfl, h1, h⟩ := shl_cons h
  obtain ⟨a2, r, rfl, h2, h⟩ := shl_cons h
  obtain ⟨a3, r, rfl, h3, h⟩ := shl_cons h
  obtain rfl := shl_nil h
  obtain ⟨root, rfl, hr⟩ := h0.arr rfl rfl
  obtain ⟨key, rfl, hk⟩ := h1.arr rfl rfl
  obtain ⟨v, rfl, hv⟩ := h2.bytes rfl rfl rfl
  obtain ⟨l, rfl, hl⟩ := h3.bytes rfl rfl rfl
  exact verifyReads_v root key v l hr hk hv hl
end Go.Proofs.Ytlagngkafllbiaa
