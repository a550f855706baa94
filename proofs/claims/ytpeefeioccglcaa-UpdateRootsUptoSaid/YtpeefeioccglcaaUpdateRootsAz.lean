/- UpdateRoots, of all arguments of its types. -/
import Derived.Test.YtpeefeioccglcaaUpRoots
import Derived.Test.YtpeefeioccglcaaNodeSh
set_option linter.unusedSimpArgs false
set_option linter.unusedVariables false
namespace Go.Proofs.Ytpeefeioccglcaa
open Go Go.RowKit
theorem updateRoots_az (az : List AV) (h : ShL (Sh tab 1048576 6) [75, 76, 3] az) : VC Try.prog 6 az [] (.v (.bool true)) := by
  obtain ⟨a0, r, rfl, h0, h⟩ := shl_cons h
  obtain ⟨a1, r, rfl, h1, h⟩ := shl_cons h
  obtain ⟨a2, r, rfl, h2, h⟩ := shl_cons h
  obtain rfl := shl_nil h
  obtain ⟨es, rfl, hl0, he⟩ := h0.slc rfl rfl rfl
  obtain ⟨ks, rfl, hk⟩ := sh_list (q := fun l : List UInt8 => l.length = 32) (f := AV.ba) (fun x hx => hx.arr rfl rfl) he
  obtain ⟨fs, rfl, hl1, hf⟩ := h1.slc rfl rfl rfl
  obtain ⟨vs, rfl, hv⟩ := sh_list (q := fun l : List UInt8 => l.length = 32) (f := AV.ba) (fun x hx => hx.arr rfl rfl) hf
  obtain ⟨n, rfl, hn⟩ := h2.int rfl rfl
  exact updateRoots_v ks vs n hk hv (by simpa using hl0) (by simpa using hl1)
end Go.Proofs.Ytpeefeioccglcaa
