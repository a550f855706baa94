/- NodeBack, of all arguments of its types. -/
import Derived.Test.YtpeefeioccglcaaBack
import Derived.Test.YtpeefeioccglcaaOpen
set_option linter.unusedSimpArgs false
set_option linter.unusedVariables false
namespace Go.Proofs.Ytpeefeioccglcaa
open Go Go.RowKit
theorem node_sh {M d : Nat} {a : AV} (h : Sh tab M (d + 3) 53 a) : ∃ n : Nd, a = n.av ∧ n.wf := by
  obtain ⟨az, rfl, hs⟩ := h.rcd rfl rfl
  clear h; have h := hs; clear hs; dsimp only [List.map] at h
  obtain ⟨a0, r, rfl, h0, h⟩ := shl_cons h
  obtain ⟨a1, r, rfl, h1, h⟩ := shl_cons h
  obtain ⟨a2, r, rfl, h2, h⟩ := shl_cons h
  obtain ⟨a3, r, rfl, h3, h⟩ := shl_cons h
  obtain ⟨a4, r, rfl, h4, h⟩ := shl_cons h
  obtain rfl := shl_nil h
  obtain ⟨n, rfl, hn⟩ := h0.int rfl rfl
  obtain ⟨k, hk⟩ := u8_of hn
  obtain ⟨l1, rfl, e1⟩ := h1.arr rfl rfl
  obtain ⟨l2, rfl, e2⟩ := h2.arr rfl rfl
  obtain ⟨l3, rfl, e3⟩ := h3.arr rfl rfl
  obtain ⟨l4, rfl, e4⟩ := h4.arr rfl rfl
  exact ⟨⟨k, l1, l2, l3, l4⟩, by rw [hk]; rfl, e1, e2, e3, e4⟩
theorem nodeBack_az (az : List AV) (h : ShL (Sh tab 1048576 6) [53, 22] az) : VC Try.prog 5 az [] (.v (.bool true)) := by
  obtain ⟨a0, r, rfl, h0, h⟩ := shl_cons h
  obtain ⟨a1, r, rfl, h1, h⟩ := shl_cons h
  obtain rfl := shl_nil h
  obtain ⟨n, rfl, hw⟩ := node_sh h0
  obtain ⟨l, rfl, hl⟩ := h1.bytes rfl rfl rfl
  by_cases hn : n.ok
  · exact nodeBack_ok n hw hn l hl
  · exact nodeBack_bad n hw hn l hl
end Go.Proofs.Ytpeefeioccglcaa
