/- Proofs among the arguments. -/
import Derived.Test.YtpeefeioccglcaaNodeSh
import Derived.Test.YtpeefeioccglcaaPack
set_option linter.unusedSimpArgs false
set_option linter.unusedVariables false
namespace Go.Proofs.Ytpeefeioccglcaa
open Go Go.RowKit
theorem pf_sh {M d : Nat} {a : AV} (h : Sh tab M (d + 4) 103 a) : ∃ p : Pf, a = p.av ∧ p.wf ∧ p.s.length ≤ M := by
  obtain ⟨az, rfl, hs⟩ := h.rcd rfl rfl
  clear h; have h := hs; clear hs; dsimp only [List.map] at h
  obtain ⟨a0, r, rfl, h0, h⟩ := shl_cons h
  obtain ⟨a1, r, rfl, h1, h⟩ := shl_cons h
  obtain rfl := shl_nil h
  obtain ⟨es, rfl, hl, he⟩ := h0.slc rfl rfl rfl
  obtain ⟨ys, rfl, hy⟩ := sh_list (q := fun l : List UInt8 => l.length = 32) (f := AV.ba) (fun x hx => hx.arr rfl rfl) he
  obtain ⟨n, rfl, hn⟩ := node_sh h1
  exact ⟨⟨ys, n⟩, rfl, ⟨hy, hn⟩, by simpa using hl⟩
end Go.Proofs.Ytpeefeioccglcaa
