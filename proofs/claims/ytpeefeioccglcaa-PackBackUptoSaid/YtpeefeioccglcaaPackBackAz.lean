/- PackBack, of all arguments of its types. -/
import Derived.Test.YtpeefeioccglcaaPackL
import Derived.Test.YtpeefeioccglcaaPackSh
set_option linter.unusedSimpArgs false
set_option linter.unusedVariables false
namespace Go.Proofs.Ytpeefeioccglcaa
open Go Go.RowKit
theorem packBack_az (az : List AV) (h : ShL (Sh tab 1048576 6) [103, 22, 5] az) : VC Try.prog 9 az [] (.v (.bool true)) := by
  obtain ⟨a0, r, rfl, h0, h⟩ := shl_cons h
  obtain ⟨a1, r, rfl, h1, h⟩ := shl_cons h
  obtain ⟨a2, r, rfl, h2, h⟩ := shl_cons h
  obtain rfl := shl_nil h
  obtain ⟨p, rfl, hw, hp⟩ := pf_sh h0
  obtain ⟨l, rfl, hl⟩ := h1.bytes rfl rfl rfl
  obtain ⟨n, rfl, hn⟩ := h2.int rfl rfl
  obtain ⟨c, hc⟩ := u8_of hn
  rw [hc]
  exact packBack_v p hw hp l hl c
end Go.Proofs.Ytpeefeioccglcaa
