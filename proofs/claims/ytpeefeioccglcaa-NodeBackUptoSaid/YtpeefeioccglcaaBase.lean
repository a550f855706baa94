/- The element types of slices in this program. -/
import Derived.Test.YtpeefeioccglcaaProg
import Derived.Test.YtpeefeioccglcaaMem
set_option linter.unusedSimpArgs false
set_option linter.unusedVariables false
namespace Go.Proofs.Ytpeefeioccglcaa
open Go Go.RowKit
abbrev B8 (b : UInt8) : Value := .int .u8 (b.toNat : Int)
/-- bytes -/
def byteE : El UInt8 where
  ty := 5
  size := 1
  bytes := 1
  enc b := [B8 b]
  zero := 0
  pos := by decide
  len _ := rfl
  one x u hu := by simp at hu; subst hu; rfl
theorem byteE_fits : byteE.fits Try.prog := by unfold El.fits; kernel_rfl
theorem byteE_all (l : List UInt8) : byteE.all l = l.map B8 := by
  induction l with
  | nil => rfl
  | cons x xs ih => rw [El.all_cons, ih]; rfl
/-- A byte of a slice that is read. -/
theorem rd_byte {w : World} {B : Nat} {A : Option Addr} {l : List UInt8} (h : Rd byteE w B A l) {k : Nat} (hk : k < l.length) :
    ∃ g o, A = some ⟨g, o, none⟩ ∧ g < B ∧ ∀ i, (hi : i < l.length) → w.cell? ⟨g, o + i, none⟩ = some (B8 l[i]) := by
  rcases h with h | ⟨g, o, rfl, hg, hc⟩
  · subst h; simp at hk
  · refine ⟨g, o, rfl, hg, fun i hi => hc i _ ?_⟩
    rw [byteE_all]; simp [hi]
theorem rd_form {α : Type} {E : El α} {w : World} {B : Nat} {A : Option Addr} {l : List α} (h : Rd E w B A l) (hl : 0 < l.length) :
    ∃ g o, A = some ⟨g, o, none⟩ ∧ g < B := by
  rcases h with h | ⟨g, o, hA, hg, _⟩
  · subst h; simp at hl
  · exact ⟨g, o, hA, hg⟩
/-- The bytes of an owned row, in memory. -/
theorem own_byte {w : World} {base g n c : Nat} {l sp : List UInt8} (h : Own byteE w base (.slice (some ⟨g, 0, none⟩) n c) l sp) : Blk w g 5 ((l ++ sp).map B8).toArray := by
  rcases h with ⟨h, _⟩ | ⟨g', _, hv, hb, _⟩
  · cases h
  · injection hv with ha; injection ha with ha; injection ha with ha; subst ha
    rw [byteE_all] at hb; exact hb
/-- A slice of bytes that was just written out. -/
theorem rd_new (w : World) (l : List UInt8) : Rd byteE (w.alloc (.cells (l.map B8).toArray 5)) (w.heap.size + 1) (some ⟨w.heap.size, 0, none⟩) l :=
  .inr ⟨w.heap.size, 0, rfl, Nat.lt_succ_self _, fun j u hu => by rw [(Blk.new _ _ _).cell, Nat.zero_add]; rw [byteE_all] at hu; simpa using hu⟩
theorem rd_one (w : World) {v : Value} {x : UInt8} (hv : v = B8 x) : Rd byteE (w.alloc (.cells #[v] 5)) (w.heap.size + 1) (some ⟨w.heap.size, 0, none⟩) [x] := by
  subst hv; exact rd_new w [x]
theorem B8_ofNat (n : Nat) : B8 (UInt8.ofNat n) = .int .u8 ((n % 256 : Nat) : Int) := by
  simp [UInt8.toNat_ofNat']
theorem own_new (w : World) (base : Nat) (hb : base ≤ w.heap.size) : Own byteE (w.alloc (.cells #[] 5)) base (.slice (some ⟨w.heap.size, 0, none⟩) 0 0) [] [] :=
  .inr ⟨w.heap.size, hb, rfl, Blk.new _ _ _, by simp⟩
theorem below_own {B : Nat} {a w w' : World} {v : Value} {base : Nat} {α : Type} {E : El α} {xs sp : List α} (h : Below B a w) (hg : w.grownBy w' v.ownBlock) (ho : Own E w base v xs sp) (hB : B ≤ base) (hs : B ≤ w.heap.size) : Below B a w' :=
  h.grown hg hs fun k hk => by have := (ho.lt hk).1; omega
end Go.Proofs.Ytpeefeioccglcaa
