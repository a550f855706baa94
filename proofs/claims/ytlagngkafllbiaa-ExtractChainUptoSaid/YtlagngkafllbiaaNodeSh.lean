/- Nodes among the arguments. -/
import Derived.Test.YtlagngkafllbiaaNode
import Derived.Test.YtlagngkafllbiaaOpen
set_option linter.unusedSimpArgs false
set_option linter.unusedVariables false
namespace Go.Proofs.Ytlagngkafllbiaa
open Go Go.RowKit
theorem node_sh {M d : Nat} {a : AV} (h : Sh tab M (d + 3) 62 a) : ∃ n : Nd, a = n.av ∧ n.wf := by
  obtain ⟨az, rfl, hs⟩ := h.rcd rfl rfl
  clear h; have h := hs; clear hs; dsimp only [List.map] at h
  obtain ⟨a0, r, rfl, h0, h⟩ := shl_cons h
  obtain ⟨a1, r, rfl, h1, h⟩ := shl_cons h
  obtain ⟨a2, r, rfl, h2, h⟩ := shl_cons h
  obtain ⟨a3, r, rfl, h3, h⟩ := shl_cons h
  obtain ⟨a4, r, rfl, h4, h⟩ := shl_cons h
  obtain rfl := shl_nil h
  obtain ⟨n, rfl, hn⟩ := h0.int rfl rfl
  obtain ⟨k, hk⟩ := u8_of hn
  obtain ⟨l1, rfl, e1⟩ := h1.arr rfl rfl
  obtain ⟨l2, rfl, e2⟩ := h2.arr rfl rfl
  obtain ⟨l3, rfl, e3⟩ := h3.arr rfl rfl
  obtain ⟨l4, rfl, e4⟩ := h4.arr rfl rfl
  exact ⟨⟨k, l1, l2, l3, l4⟩, by rw [hk]; rfl, e1, e2, e3, e4⟩
end Go.Proofs.Ytlagngkafllbiaa
