/- The document's look at a node. -/
import Derived.Test.YtgffimanhmpohaaRef5
import Derived.Test.YtgffimanhmpohaaOrdWP
import Derived.Test.YtgffimanhmpohaaA2
import Derived.Shelf.SlSortCmp.WholeK
import Derived.BigQuiet
import Derived.BigRegion
import Derived.Shelf.SlSortCmp.QuietGrown
import Derived.Shelf.SlSortCmp.NoneTotal
import Derived.Lib.SliceRun
set_option linter.unusedSimpArgs false
set_option linter.unusedVariables false
namespace Go.Proofs.Ytgffimanhmpohaa
open Go Go.RowKit
end Go.Proofs.Ytgffimanhmpohaa
/- The document's nodes, written and read. -/
namespace Go.Proofs.Ytgffimanhmpohaa
open Go Go.RowKit
end Go.Proofs.Ytgffimanhmpohaa
/- Digests of the empty place, of leaves, of inner nodes. -/
namespace Go.Proofs.Ytgffimanhmpohaa
open Go Go.RowKit
def leafH (k v : List UInt8) : List UInt8 := sum (1 :: (k ++ v))
def innerH (l r : List UInt8) : List UInt8 := sum (2 :: (l ++ r))
end Go.Proofs.Ytgffimanhmpohaa
/- Roots of entries at a depth; entries that rise part where their bit does. In plain Lean. -/
namespace Go.Proofs.Ytgffimanhmpohaa
open Go Go.RowKit
abbrev En := List UInt8 × List UInt8
def base (l : List En) : List UInt8 := match l with
  | [] => sum [0]
  | x :: _ => leafH x.1 x.2
def half (b : Bool) (d : Nat) (l : List En) : List En := l.filter fun x => bitN x.1 d == b
/-- Keys that rise and share their first d bits. -/
def Rise (d : Nat) (l : List En) : Prop := l.Pairwise fun x y => agree d x.1 y.1 ∧ ltB x.1 y.1
/-- How many entries have the bit 0. -/
def partN (d : Nat) (l : List En) : Nat := (l.takeWhile fun x => !bitN x.1 d).length
theorem Rise.part {d : Nat} (hd : d < 256) : ∀ {l : List En}, Rise d l → half false d l = l.take (partN d l) ∧ half true d l = l.drop (partN d l)
  | [], _ => ⟨rfl, rfl⟩
  | x :: l, h => by
    obtain ⟨h1, h2⟩ := List.pairwise_cons.1 h
    obtain ⟨e1, e2⟩ := Rise.part hd h2
    cases hb : bitN x.1 d
    · have e : partN d (x :: l) = partN d l + 1 := by simp [partN, List.takeWhile_cons, hb]
      rw [e]
      refine ⟨?_, ?_⟩
      · rw [List.take_succ_cons, ← e1]; simp [half, List.filter_cons, hb]
      · rw [List.drop_succ_cons, ← e2]; simp [half, List.filter_cons, hb]
    · have e : partN d (x :: l) = 0 := by simp [partN, List.takeWhile_cons, hb]
      have hall : ∀ y ∈ l, bitN y.1 d = true := fun y hy => by
        obtain ⟨ha, c, hc, g1, g2, g3⟩ := h1 y hy
        rcases Nat.lt_trichotomy c d with hl | rfl | hg
        · have := ha c hl; rw [g2, g3] at this; cases this
        · rw [hb] at g2; cases g2
        · rw [← g1 d hg]; exact hb
      rw [e]
      refine ⟨?_, ?_⟩
      · rw [List.take_zero]
        simp only [half, List.filter_cons, hb]
        simp only [Bool.true_beq, Bool.false_eq_true, if_false]
        refine List.filter_eq_nil_iff.2 fun y hy => ?_
        simp [hall y hy]
      · rw [List.drop_zero]
        refine List.filter_eq_self.2 fun y hy => ?_
        rcases List.mem_cons.1 hy with rfl | hy
        · simp [hb]
        · simp [hall y hy]
theorem Rise.chain {d : Nat} : ∀ {l : List En}, (∀ k (h : k + 1 < l.length), agree d (l[k]'(by omega)).1 l[k + 1].1 ∧ ltB (l[k]'(by omega)).1 l[k + 1].1) → Rise d l
  | [], _ => List.Pairwise.nil
  | [_], _ => by unfold Rise; simp
  | x :: y :: l, h => by
    have ih := Rise.chain (l := y :: l) fun k hk => h (k + 1) (by simpa using hk)
    have h0 := h 0 (by simp)
    refine List.pairwise_cons.2 ⟨fun z hz => ?_, ih⟩
    rcases List.mem_cons.1 hz with rfl | hz
    · exact h0
    · have := (List.pairwise_cons.1 ih).1 z hz
      exact ⟨h0.1.trans this.1, h0.2.trans this.2⟩
theorem half_mem {b : Bool} {d : Nat} {l : List En} {x : En} (h : x ∈ half b d l) : x ∈ l := (List.mem_filter.1 h).1
end Go.Proofs.Ytgffimanhmpohaa
/- Sketches: parts, trees, what is read of them (plain). -/
namespace Go.Proofs.Ytgffimanhmpohaa
open Go Go.RowKit
/-- A part of a sketch. -/
structure Br where
  k : UInt8
  key : List UInt8
  v : List UInt8
  g : List UInt8
  deriving DecidableEq
structure Br.wf (b : Br) : Prop where
  key : b.key.length = 32
  v : b.v.length = 32
  g : b.g.length = 32
def Br.clean (b : Br) : Bool := if b.k = 0 ∨ b.k = 2 then decide (b.key = z32 ∧ b.v = z32 ∧ b.g = z32) else if b.k = 1 then decide (b.g = z32) else if b.k = 3 then decide (b.key = z32 ∧ b.v = z32) else false
/-- A tree of digests. -/
inductive Tr where
  | e
  | c (g : List UInt8)
  | l (k v : List UInt8)
  | n (a b : Tr)
def Tr.dg : Tr → List UInt8
  | .e => sum [0]
  | .c g => g
  | .l k v => leafH k v
  | .n a b => innerH a.dg b.dg
def Tr.leaves : Tr → List En
  | .l k v => [(k, v)]
  | .n a b => a.leaves ++ b.leaves
  | _ => []
def Tr.way (key : List UInt8) : Nat → Tr → List (List UInt8)
  | d, .n a b => if bitN key d then a.dg :: b.way key (d + 1) else b.dg :: a.way key (d + 1)
  | _, _ => []
def Tr.fin (key : List UInt8) : Nat → Tr → Nd → Nd
  | d, .n a b, x => if bitN key d then b.fin key (d + 1) x else a.fin key (d + 1) x
  | _, .l k v, _ => Nd.one k v
  | _, _, x => x
def Low (d : Nat) (top : List UInt8) : Prop := top.length = 32 ∧ ∀ t, d ≤ t → t < 256 → bitN top t = false
theorem Low.zero : Low 0 (List.replicate 32 0) := by
  refine ⟨List.length_replicate, fun t _ ht => ?_⟩
  unfold bitN
  rw [List.getD_eq_getElem?_getD, List.getElem?_replicate, if_pos (by omega)]
  have : ∀ m : Fin 8, bitAt 0 m.val = false := by decide
  exact this ⟨t % 8, by omega⟩
theorem Low.up {d : Nat} {top : List UInt8} (h : Low d top) : Low (d + 1) top := ⟨h.1, fun t ht => h.2 t (by omega)⟩
/-- What a reader of a stretch has. -/
structure RS where
  rest : List Br
  ks : List (List UInt8)
  ds : List (List UInt8)
  sd : List (List UInt8)
  en : Nd
end Go.Proofs.Ytgffimanhmpohaa
/- Parts of a sketch that are clean. -/
namespace Go.Proofs.Ytgffimanhmpohaa
open Go Go.RowKit
end Go.Proofs.Ytgffimanhmpohaa
/- A region in every order of its loud operations: the steps as theorems that a tactic can try one after another. -/
namespace Go.Proofs.Ytgffimanhmpohaa
open Go Go.RowKit
section
variable {P : Program} {ops : Array Oper} {Q : Exit → Act → World → Prop} {S : World → Prop} {L A : List Nat} {U : List (Nat × Nat)}
end
end Go.Proofs.Ytgffimanhmpohaa
/- A reader of a stretch: (*span.reader).leaf. -/
namespace Go.Proofs.Ytgffimanhmpohaa
open Go Go.RowKit
structure RS.wf (s : RS) : Prop where
  rest : ∀ b ∈ s.rest, b.wf
  ks : ∀ k ∈ s.ks, k.length = 32
  ds : ∀ k ∈ s.ds, k.length = 32
  sd : ∀ k ∈ s.sd, k.length = 32
  en : s.en.wf
  lk : s.ks.length + s.rest.length ≤ 100000
  ld : s.ds.length + s.rest.length ≤ 100000
  ls : s.sd.length + s.rest.length ≤ 100000
end Go.Proofs.Ytgffimanhmpohaa
/- A reader of a stretch: (*span.reader).place. -/
namespace Go.Proofs.Ytgffimanhmpohaa
open Go Go.RowKit

end Go.Proofs.Ytgffimanhmpohaa
/- Keys as ways down: the document's functions. -/
namespace Go.Proofs.Ytgffimanhmpohaa
open Go Go.RowKit
theorem cmp_at (p q : List UInt8) : ∀ k, k ≤ p.length → k ≤ q.length → (∀ j, j < k → p.getD j 0 = q.getD j 0) → Lib.compareBytes p q = Lib.compareBytes (p.drop k) (q.drop k)
  | 0, _, _, _ => rfl
  | k + 1, h1, h2, h => by
    rw [cmp_at p q k (by omega) (by omega) fun j hj => h j (by omega), List.drop_eq_getElem_cons (show k < p.length by omega), List.drop_eq_getElem_cons (show k < q.length by omega)]
    have := h k (by omega)
    rw [← List.getElem_eq_getD (h := show k < p.length by omega) 0, ← List.getElem_eq_getD (h := show k < q.length by omega) 0] at this
    rw [this]
    simp [Lib.compareBytes]
set_option maxRecDepth 20000 in
theorem pcmpR_v (p q : List UInt8) (hp : p.length = 32) (hq : q.length = 32) : VC Try.prog 36 [.ba p, .ba q] [] (.v (.int .i64 (Lib.compareBytes p q))) := by
  refine mE Try.func36 ?_; intro N w0 a w hN hR H
  refine mW ?_; clear H; intro a w H
  refine v_loop (fun k : Nat => ⟨[(5, none, .v (.int .i64 (k : Int))), (4, none, .v (.int .i64 0)), (3, none, .ptr 1 []), (2, none, .ptr 0 [])], [(.ba 32, .ba p), (.ba 32, .ba q)], [], []⟩) (fun k => k ≤ 32 ∧ ∀ j, j < k → p.getD j 0 = q.getD j 0) (fun k => 32 - k) 0 ⟨Nat.zero_le _, fun t ht => by omega⟩ (H.to 2 0 ⟨Nat.le_trans hN (by decide), hR⟩ ⟨rfl, rfl, rfl, rfl, trivial⟩ rfl rfl rfl rfl rfl) ?_
  clear H
  rintro k a w ⟨hk, hag⟩ H
  have hat := cmp_at p q k (by omega) (by omega) hag
  have hx8 := (p.getD k 0).toNat_lt
  have hy8 := (q.getD k 0).toNat_lt
  refine mW ?_; clear H; intro a w H
  refine mC H (fun hb => ?_) (fun hb => ?_)
  · have hlt : k < 32 := by simp at hb; omega
    rw [List.drop_eq_getElem_cons (show k < p.length by omega), List.drop_eq_getElem_cons (show k < q.length by omega), List.getElem_eq_getD (0 : UInt8), List.getElem_eq_getD (0 : UInt8)] at hat
    refine mW ?_; clear H; intro a w H
    refine mS ?_; refine mD 2 [] [] H ?_; clear H; intro gS H; refine mT ?_; clear H; intro a w H
    refine v_drawNil H ?_; clear H; intro H
    refine mC H (fun hb => ?_) (fun hb => ?_)
    · have h1 : p.getD k 0 < q.getD k 0 := by rw [UInt8.lt_iff_toNat_lt]; simpa using hb
      have e : Lib.compareBytes p q = -1 := by rw [hat]; simp only [Lib.compareBytes, if_pos h1]
      rw [e]
      refine mW ?_; clear H; intro a w H
      refine wp_ret ?_; exact mEnd [] [] [.tmp 4] [_] hN hR H
    · have h1 : ¬ p.getD k 0 < q.getD k 0 := by rw [UInt8.lt_iff_toNat_lt]; simpa using hb
      refine mW ?_; clear H; intro a w H
      refine mS ?_; refine mD 2 [] [] H ?_; clear H; intro gS H; refine mT ?_; clear H; intro a w H
      refine v_drawNil H ?_; clear H; intro H
      refine mC H (fun hb => ?_) (fun hb => ?_)
      · have h2 : q.getD k 0 < p.getD k 0 := by rw [UInt8.lt_iff_toNat_lt]; simpa using hb
        have e : Lib.compareBytes p q = 1 := by rw [hat]; simp only [Lib.compareBytes, if_neg h1, if_pos h2]
        rw [e]
        refine mW ?_; clear H; intro a w H
        refine wp_ret ?_; exact mEnd [] [] [.tmp 4] [_] hN hR H
      · have h2 : ¬ q.getD k 0 < p.getD k 0 := by rw [UInt8.lt_iff_toNat_lt]; simpa using hb
        refine mW ?_; clear H; intro a w H
        exact ⟨k + 1, ⟨hlt, fun j hj => by
          by_cases h3 : j < k
          · exact hag j h3
          · rw [show j = k by omega]; apply UInt8.toNat_inj.1; rw [UInt8.lt_iff_toNat_lt] at h1 h2; omega⟩, by omega, H.to 2 0 ⟨Nat.le_trans hN (by decide), hR⟩ ⟨rfl, rfl, rfl, rfl, trivial⟩ rfl rfl rfl rfl rfl⟩
  · have hge : k = 32 := by simp at hb; omega
    subst hge
    have e : Lib.compareBytes p q = 0 := by rw [hat, List.drop_eq_nil_of_le (by omega), List.drop_eq_nil_of_le (by omega)]; rfl
    rw [e]
    refine mW ?_; clear H; intro a w H
    refine wp_ret ?_; exact mEnd [] [] [.tmp 4] [_] hN hR H
end Go.Proofs.Ytgffimanhmpohaa
/- Digests of the empty place, of leaves, of inner nodes: the document's. -/
namespace Go.Proofs.Ytgffimanhmpohaa
open Go Go.RowKit
end Go.Proofs.Ytgffimanhmpohaa
/- A contract that says less: rows that nobody will make longer. -/
namespace Go.Proofs.Ytgffimanhmpohaa
open Go Go.RowKit
end Go.Proofs.Ytgffimanhmpohaa
/- Proofs as bytes: how they are read. -/
namespace Go.Proofs.Ytgffimanhmpohaa
open Go Go.RowKit
/-- The sides that marks and bytes say, what is left, and whether bytes were lacking. -/
def runS : List Bool → List UInt8 → List (List UInt8) × List UInt8 × Bool
  | [], r => ([], r, false)
  | m :: ms, r => if m = true ∧ r.length < 32 then ([E0], r, true) else ((if m then r.take 32 else E0) :: (runS ms (if m then r.drop 32 else r)).1, (runS ms (if m then r.drop 32 else r)).2)
def marksOf (bits : List UInt8) (n : Nat) : List Bool := (List.range n).map fun i => bitAt (bits.getD (i / 8) 0) (i % 8)
def rdQ (l : List UInt8) : Pf × Bool :=
  if l.length < 2 then (⟨[], .zero⟩, false) else
  if 256 < num 0 (l.take 2) then (⟨[], .zero⟩, false) else
  if (l.drop 2).length < (num 0 (l.take 2) + 7) / 8 then (⟨[], .zero⟩, false) else
  let x := runS (marksOf ((l.drop 2).take ((num 0 (l.take 2) + 7) / 8)) (num 0 (l.take 2))) ((l.drop 2).drop ((num 0 (l.take 2) + 7) / 8))
  if x.2.2 then (⟨x.1, .zero⟩, false) else (⟨x.1, dec x.2.1⟩, decide (decOk x.2.1))
end Go.Proofs.Ytgffimanhmpohaa
/- Proofs as bytes: read, and told again. -/
namespace Go.Proofs.Ytgffimanhmpohaa
open Go Go.RowKit
def Pf.zero : Pf := ⟨[], .zero⟩
def pOk (l : List UInt8) : Prop := (rdQ l).2 = true ∧ (rdQ l).1.chk = 0 ∧ (rdQ l).1.text = l
instance (l : List UInt8) : Decidable (pOk l) := inferInstanceAs (Decidable (_ ∧ _))
end Go.Proofs.Ytgffimanhmpohaa
/- The digest at the top of a way: node.Up, and the document's. -/
namespace Go.Proofs.Ytgffimanhmpohaa
open Go Go.RowKit
end Go.Proofs.Ytgffimanhmpohaa
/- What a tree of digests says of a key (plain). -/
namespace Go.Proofs.Ytgffimanhmpohaa
open Go Go.RowKit
end Go.Proofs.Ytgffimanhmpohaa
/- slices.Reverse of digests, in memory that may be written. -/
namespace Go.Proofs.Ytgffimanhmpohaa
open Go Go.RowKit
end Go.Proofs.Ytgffimanhmpohaa
/- Proofs as bytes: the document's. -/
namespace Go.Proofs.Ytgffimanhmpohaa
open Go Go.RowKit
end Go.Proofs.Ytgffimanhmpohaa
/- A region at a function's end in which the named results are loaded and stored again: nothing changes. -/
namespace Go.Proofs.Ytgffimanhmpohaa
open Go Go.RowKit
section
variable {P : Program} {τ : Tab} {w0 w : World} {N : Gh} {st : St} {nt : Nat} {a : Act}
end
end Go.Proofs.Ytgffimanhmpohaa
/- What bytes say to whoever knows the root: verify, and the document's. -/
namespace Go.Proofs.Ytgffimanhmpohaa
open Go Go.RowKit
end Go.Proofs.Ytgffimanhmpohaa
/- span.read: what is read of a span. -/
namespace Go.Proofs.Ytgffimanhmpohaa
open Go Go.RowKit
/-- A span. -/
structure Sp where
  p : List Br
  v : List (List UInt8)
structure Sp.wf (s : Sp) : Prop where
  p : ∀ b ∈ s.p, b.wf
  lp : s.p.length ≤ 90000
  lv : s.v.length ≤ 90000
  v : ∀ x ∈ s.v, x.length ≤ 34359730000
attribute [local irreducible] wpT
end Go.Proofs.Ytgffimanhmpohaa
/- Entries. -/
namespace Go.Proofs.Ytgffimanhmpohaa
open Go Go.RowKit
abbrev Pr := List UInt8 × List UInt8
abbrev prT : Ty := .cn (.ba 32) (.cn .sc .nl)
def prA (p : Pr) : AV := .st [.ba p.1, .bs p.2 none]
end Go.Proofs.Ytgffimanhmpohaa
/- span.Check, Root, Single. -/
namespace Go.Proofs.Ytgffimanhmpohaa
open Go Go.RowKit
attribute [local irreducible] wpT
end Go.Proofs.Ytgffimanhmpohaa
/- The entries that are read of a span, their values on their own: span.Read. -/
namespace Go.Proofs.Ytgffimanhmpohaa
open Go Go.RowKit
/-- Entries whose values are slices on their own. -/
def pxs (Z : List Pr) (X : List XR) : List AV := List.zipWith (fun z x => .st [.ba z.1, .v x.v]) Z X
theorem pxs_len (Z : List Pr) (X : List XR) (h : X.length = Z.length) : (pxs Z X).length = Z.length := by simp [pxs, h]
theorem pxs_snoc (Z : List Pr) (X : List XR) (h : X.length = Z.length) (z : Pr) (x : XR) : pxs (Z ++ [z]) (X ++ [x]) = pxs Z X ++ [.st [.ba z.1, .v x.v]] := by
  unfold pxs; rw [List.zipWith_append h.symm]; rfl
attribute [local irreducible] wpT
end Go.Proofs.Ytgffimanhmpohaa
/- Entries that are the same; the values of entries, each on its own. -/
namespace Go.Proofs.Ytgffimanhmpohaa
open Go Go.RowKit
theorem prs_get (l : List Pr) (i : Nat) (h : i < l.length) : (l.map prA).getD i .any = .st [.ba l[i].1, .bs l[i].2 none] := by simp [prA, List.getD_eq_getElem?_getD, h]
theorem pxs_get (Z : List Pr) (X : List XR) (h : X.length = Z.length) (i : Nat) (hi : i < Z.length) : (pxs Z X).getD i .any = .st [.ba Z[i].1, .v (X[i]'(by omega)).v] := by
  rw [List.getD_eq_getElem?_getD, List.getElem?_eq_getElem (by rw [pxs_len Z X h]; exact hi)]
  simp [pxs]
theorem pxs_see {X Y : List XR} {Z : List Pr} (h : XL X (Z.map (·.2))) (hY : ∀ x ∈ X, x ∈ Y) {T : Ty} {tok : Option Nat} : SeeX Y (.sl T (pxs Z X) tok) (.sl T (Z.map prA) none) := by
  have hl : X.length = Z.length := by have := h.1; rwa [List.length_map] at this
  refine .sl (by rw [pxs_len Z X hl, List.length_map]) fun i h1 h2 => ?_
  rw [pxs_len Z X hl] at h1
  have hx := h.2 i (by omega) (by rw [List.length_map]; exact h1)
  rw [List.getElem_map] at hx
  have hs := hx.see (hY _ (List.getElem_mem (show i < X.length by omega)))
  have e : (pxs Z X)[i]'(by rw [pxs_len Z X hl]; exact h1) = .st [.ba Z[i].1, .v (X[i]'(by omega)).v] := by simp [pxs]
  rw [e, List.getElem_map]
  refine .st rfl fun k k1 k2 => ?_
  match k, k1 with
  | 0, _ => exact .refl _
  | 1, _ => exact hs
attribute [local irreducible] wpT
set_option maxRecDepth 20000 in
theorem samePr_v (l : List Pr) (hk : ∀ z ∈ l, z.1.length = 32) (hl : l.length ≤ 34359730000) : VC Try.prog 13 [.sl prT (l.map prA) none, .sl prT (l.map prA) none] [] (.v (.bool true)) := by
  have hml : (l.map prA).length = l.length := List.length_map ..
  have hgt := prs_get l
  generalize l.map prA = es at *
  refine mE Try.func13 ?_; intro N w0 a w hN hR H
  have hX := @hml
  refine mW ?_; clear H; intro a w H
  refine mC H (fun hb => ?_) (fun hb => ?_)
  · simp at hb
  · clear hb
    refine mW ?_; clear H; intro a w H
    refine v_loop (fun i : Nat => ⟨[(5, none, .v (.int .i64 (i : Int))), (4, none, .v (.bool false)), (0, none, .sl prT es none), (1, none, .sl prT es none)], [], [], []⟩) (fun i => i ≤ l.length) (fun i => l.length - i) 0 (Nat.zero_le _)
      (H.to 0 0 ⟨hN, hR⟩ ⟨rfl, rfl, rfl, rfl, trivial⟩ rfl rfl rfl rfl rfl) ?_
    clear H
    intro i a w hi H
    refine mW ?_; clear H; intro a w H
    refine mC H (fun hb => ?_) (fun hb => ?_)
    · have hlt : i < l.length := by rw [decide_eq_true_eq] at hb; omega
      clear hb
      have hg := hgt i hlt
      have hz := hk _ (List.getElem_mem hlt)
      have hsm := same_v l[i].2 l[i].2
      rw [beq_self_eq_true] at hsm
      generalize l[i] = z at *
      obtain ⟨zk, zv⟩ := z
      dsimp only at hg hz hsm
      refine mS ?_
      clear hX; have hX := And.intro @hml (And.intro @hg (@hz))
      replace H := mK [0, 1, 4, 5] 0 0 hN hR H
      refine mS ?_; refine mD 0 [22] [] H ?_; clear H; intro gS H
      refine mTN 3 hN H ?_; clear H; intro a w H; simp only [List.drop_succ_cons, List.drop_zero, List.drop_nil]
      refine mTN 5 hN H ?_; clear H; intro a w H; simp only [List.drop_succ_cons, List.drop_zero, List.drop_nil]
      refine mTN 4 hN H ?_; clear H; intro a w H; simp only [List.drop_succ_cons, List.drop_zero, List.drop_nil]
      refine mTN 3 hN H ?_; clear H; intro a w H; simp only [List.drop_succ_cons, List.drop_zero, List.drop_nil]
      refine mTN 5 hN H ?_; clear H; intro a w H; simp only [List.drop_succ_cons, List.drop_zero, List.drop_nil]
      refine mTN 2 hN H ?_; clear H; intro a w H; simp only [List.drop_succ_cons, List.drop_zero, List.drop_nil]
      refine mCallTG [] [] (hsm) H ?_; clear H; intro a w H
      refine mT ?_; clear H; intro a w H
      refine v_drawNil H ?_; clear H; intro H
      refine mC H (fun hb => ?_) (fun hb => ?_)
      · exact absurd hb (by decide)
      · clear hb
        refine mS ?_
        replace H := mK [0, 1, 4, 5] 0 0 hN hR H
        refine mW ?_; clear H; intro a w H
        rw [show (i : Int) + 1 = ((i + 1 : Nat) : Int) by omega] at H
        exact ⟨i + 1, hlt, by omega, H.to 0 0 ⟨hN, hR⟩ ⟨rfl, rfl, rfl, rfl, trivial⟩ rfl rfl rfl rfl rfl⟩
    · clear hb
      refine mW ?_; clear H; intro a w H
      refine wp_ret ?_; exact mEnd [] [] [.tmp 4] [_] hN hR H
end Go.Proofs.Ytgffimanhmpohaa
/- Writes that are the same. -/
namespace Go.Proofs.Ytgffimanhmpohaa
open Go Go.RowKit
attribute [local irreducible] wpT
set_option maxRecDepth 20000 in
set_option maxHeartbeats 4000000 in
theorem sameW_v (l : List Wr) (hk : K32W l) (hl : l.length ≤ 34359730000) : VC Try.prog 11 [.sl wrT (l.map wrA) none, .sl wrT (l.map wrA) none] [] (.v (.bool true)) := by
  have hml : (l.map wrA).length = l.length := List.length_map ..
  have hgt := wrA_get l
  generalize l.map wrA = es at *
  refine mE Try.func11 ?_; intro N w0 a w hN hR H
  have hX := @hml
  refine mW ?_; clear H; intro a w H
  refine mC H (fun hb => ?_) (fun hb => ?_)
  · simp at hb
  · clear hb
    refine mW ?_; clear H; intro a w H
    refine v_loop (fun i : Nat => ⟨[(5, none, .v (.int .i64 (i : Int))), (4, none, .v (.bool false)), (0, none, .sl wrT es none), (1, none, .sl wrT es none)], [], [], []⟩) (fun i => i ≤ l.length) (fun i => l.length - i) 0 (Nat.zero_le _)
      (H.to 0 0 ⟨hN, hR⟩ ⟨rfl, rfl, rfl, rfl, trivial⟩ rfl rfl rfl rfl rfl) ?_
    clear H
    intro i a w hi H
    refine mW ?_; clear H; intro a w H
    refine mC H (fun hb => ?_) (fun hb => ?_)
    · have hlt : i < l.length := by rw [decide_eq_true_eq] at hb; omega
      clear hb
      have hg := hgt i hlt
      have hz := hk _ (List.getElem_mem hlt)
      have hsm := same_v l[i].2.2 l[i].2.2
      rw [beq_self_eq_true] at hsm
      generalize l[i] = z at *
      obtain ⟨zk, zg, zv⟩ := z
      dsimp only at hg hz hsm
      refine mS ?_
      clear hX; have hX := And.intro @hml (And.intro @hg (@hz))
      replace H := mK [0, 1, 4, 5] 0 0 hN hR H
      refine mS ?_; refine mD 0 [35] [] H ?_; clear H; intro gS H
      refine mTN 3 hN H ?_; clear H; intro a w H; simp only [List.drop_succ_cons, List.drop_zero, List.drop_nil]
      refine mTN 5 hN H ?_; clear H; intro a w H; simp only [List.drop_succ_cons, List.drop_zero, List.drop_nil]
      refine mTN 4 hN H ?_; clear H; intro a w H; simp only [List.drop_succ_cons, List.drop_zero, List.drop_nil]
      refine mTN 3 hN H ?_; clear H; intro a w H; simp only [List.drop_succ_cons, List.drop_zero, List.drop_nil]
      refine mTN 5 hN H ?_; clear H; intro a w H; simp only [List.drop_succ_cons, List.drop_zero, List.drop_nil]
      refine mTN 4 hN H ?_; clear H; intro a w H; simp only [List.drop_succ_cons, List.drop_zero, List.drop_nil]
      refine mTN 4 hN H ?_; clear H; intro a w H; simp only [List.drop_succ_cons, List.drop_zero, List.drop_nil]
      refine mTN 5 hN H ?_; clear H; intro a w H; simp only [List.drop_succ_cons, List.drop_zero, List.drop_nil]
      refine mTN 2 hN H ?_; clear H; intro a w H; simp only [List.drop_succ_cons, List.drop_zero, List.drop_nil]
      refine mCallTG [] [] (hsm) H ?_; clear H; intro a w H
      refine mT ?_; clear H; intro a w H
      refine v_drawNil H ?_; clear H; intro H
      refine mC H (fun hb => ?_) (fun hb => ?_)
      · simp at hb
      · clear hb
        refine mS ?_
        replace H := mK [0, 1, 4, 5] 0 0 hN hR H
        refine mW ?_; clear H; intro a w H
        rw [show (i : Int) + 1 = ((i + 1 : Nat) : Int) by omega] at H
        exact ⟨i + 1, hlt, by omega, H.to 0 0 ⟨hN, hR⟩ ⟨rfl, rfl, rfl, rfl, trivial⟩ rfl rfl rfl rfl rfl⟩
    · clear hb
      refine mW ?_; clear H; intro a w H
      refine wp_ret ?_; exact mEnd [] [] [.tmp 4] [_] hN hR H
end Go.Proofs.Ytgffimanhmpohaa
/- slices.SortFunc at entries: the program bears it; how it compares. -/
namespace Go.Proofs.Ytgffimanhmpohaa
open Go Go.RowKit
end Go.Proofs.Ytgffimanhmpohaa
/- Entries sorted: how two are compared. -/
namespace Go.Proofs.Ytgffimanhmpohaa
open Go Go.RowKit
/-- An entry's cells. -/
abbrev Cel := {p : List UInt8 × Value // p.1.length = 32 ∧ p.2.oneCell' = true}
instance : Inhabited Cel := ⟨⟨(List.replicate 32 0, .int .i64 0), by decide, rfl⟩⟩
end Go.Proofs.Ytgffimanhmpohaa
/- Entries sorted in their block. -/
namespace Go.Proofs.Ytgffimanhmpohaa
open Go Go.RowKit
end Go.Proofs.Ytgffimanhmpohaa
/- Entries by rising key; slices.SortFunc in values. -/
namespace Go.Proofs.Ytgffimanhmpohaa
open Go Go.RowKit
def K32 (l : List Pr) : Prop := ∀ x ∈ l, x.1.length = 32
theorem K32.perm {l m : List Pr} (h : K32 l) (hp : m.Perm l) : K32 m := fun x hx => h x (hp.mem_iff.1 hx)
end Go.Proofs.Ytgffimanhmpohaa
/- slices.SortFunc in values: a box that grows holds the entries sorted. -/
namespace Go.Proofs.Ytgffimanhmpohaa
open Go Go.RowKit
end Go.Proofs.Ytgffimanhmpohaa
/- slices.Clone of entries, in values. -/
namespace Go.Proofs.Ytgffimanhmpohaa
open Go Go.RowKit
section
variable {P : Program} {τ : Tab} {w0 w : World} {N : Gh} {g : Gh} {st : St} {nt : Nat} {a : Act}
end
end Go.Proofs.Ytgffimanhmpohaa
/- node.sorted: entries by rising key, or why they may not be. -/
namespace Go.Proofs.Ytgffimanhmpohaa
open Go Go.RowKit
theorem prA_get (l : List Pr) (k : Nat) (h : k < l.length) : (l.map prA).getD k .any = .st [.ba l[k].1, .bs l[k].2 none] := by simp [prA, List.getD_eq_getElem?_getD, h]
end Go.Proofs.Ytgffimanhmpohaa
/- Roots of entries that rise: the program's. -/
namespace Go.Proofs.Ytgffimanhmpohaa
open Go Go.RowKit
def Wd (l : List En) : Prop := ∀ x ∈ l, x.1.length = 32 ∧ x.2.length = 32
theorem Wd.half {l : List En} (h : Wd l) (b : Bool) (d : Nat) : Wd (half b d l) := fun x hx => h x (half_mem hx)
end Go.Proofs.Ytgffimanhmpohaa
/- The root of entries that rise: node.parted, node.root. -/
namespace Go.Proofs.Ytgffimanhmpohaa
open Go Go.RowKit
def V0 (l : List Pr) : Prop := ∀ x ∈ l, x.2.length ≤ 34359730000
theorem V0.take {l : List Pr} (h : V0 l) (n : Nat) : V0 (l.take n) := fun x hx => h x (List.mem_of_mem_take hx)
theorem V0.drop {l : List Pr} (h : V0 l) (n : Nat) : V0 (l.drop n) := fun x hx => h x (List.mem_of_mem_drop hx)
theorem K32.take {l : List Pr} (h : K32 l) (n : Nat) : K32 (l.take n) := fun x hx => h x (List.mem_of_mem_take hx)
theorem K32.drop {l : List Pr} (h : K32 l) (n : Nat) : K32 (l.drop n) := fun x hx => h x (List.mem_of_mem_drop hx)
end Go.Proofs.Ytgffimanhmpohaa
/- The statements' kit: proofs compared and copied. -/
namespace Go.Proofs.Ytgffimanhmpohaa
open Go Go.RowKit
end Go.Proofs.Ytgffimanhmpohaa
/- CopyPairs: entries in new memory, which may be written. -/
namespace Go.Proofs.Ytgffimanhmpohaa
open Go Go.RowKit
end Go.Proofs.Ytgffimanhmpohaa
/- Slices whose room is known: made, frozen, seen without their room. -/
namespace Go.Proofs.Ytgffimanhmpohaa
open Go Go.RowKit
section
variable {P : Program} {τ : Tab} {w0 w : World} {N : Gh} {g : Gh} {st : St} {nt : Nat} {a : Act}
/-- make with room: all elements, and how much room there is. -/
theorem v_mkC {ops : Array Oper} {Q : Exit → Act → World → Prop} {rest : List Oper} {o : Oper} {t e : Nat} {i j : TI} {l k : Operand} {k1 k2 : IntKind} (m m2 : Nat) (hτ : τ.ok P) (hi : Tab.get t τ = some i) (hid : i.d = .slc e) (hj : Tab.get e τ = some j) (hs : 0 < j.ty.size) (H : Rel P w0 N nt st a w)
    (h1 : m ≤ m2) (h2 : (j.bytes : Int) * m2 ≤ 281474976710656) (h3 : m2 ≤ maxLen)
    (kk : ∀ a w, Rel P w0 N nt ((⟨st.t, st.bx ++ [(.vc e j.ty, .vc 0 (List.replicate m2 j.zero))], st.fz, st.rw⟩ : St).put o.dst none (.vwc st.bx.length 0 m m2)) a w → wpList P ops Q rest a w)
    (hgd : o.guard = none := by rfl) (ho : o.op = .makeSlice t l k := by rfl) (hd : okDst nt none o.dst = true := by rfl) (hl : st.ev none l = .v (.int k1 (m : Int)) := by rfl) (hk : st.ev none k = .v (.int k2 (m2 : Int)) := by rfl) : wpList P ops Q (o :: rest) a w := by
  obtain ⟨g, HI, hF⟩ := H
  have hd0 := (Tab.get_ok hτ hi).d
  rw [hid] at hd0
  have hjok := Tab.get_ok hτ hj
  obtain ⟨inf, z, e1, e2, e3, e4, e5⟩ := hjok.info
  have hlv := ev_sound hF (c := none) trivial l
  rw [hl] at hlv
  have hlv := hlv.v_inv
  have hkv := ev_sound hF (c := none) trivial k
  rw [hk] at hkv
  have hkv := hkv.v_inv
  have hzs : z.cells.size = j.ty.size := by rw [← Array.length_toList]; exact (e5 ⟨fun _ _ => none, [], []⟩).size
  have hrun := run_make (P := P) w t e inf z hd0 e1 e4 k1 k2 (m : Int) (m2 : Int) (by omega) (by omega) (by rw [e3]; exact h2) (by simp only [maxLen] at h3; omega)
  have hcs : (madeCells z.cells (m2 * inf.size)).toList = (List.replicate m2 z.cells.toList).flatten := by
    have := initCells z.cells m2 j.ty.size hzs
    rw [e2]; unfold madeCells; rw [this]
  have hz1 : ∀ u ∈ z.cells.toList, u.oneCell' = true := (e5 ⟨fun _ _ => none, [], []⟩).one
  have hlen : (List.replicate m2 z.cells.toList).flatten.length = m2 * j.ty.size := by rw [List.length_flatten]; simp [hzs]
  obtain ⟨g', l1, I1, hx1⟩ := HI.boxG (x := ⟨w.heap.size, e, .vc e j.ty, (List.replicate m2 z.cells.toList).flatten, false, 0, m2, false, none⟩) (a := .vc 0 (List.replicate m2 j.zero)) (w' := w.alloc (.cells (List.replicate m2 z.cells.toList).flatten.toArray e)) rfl (grown_alloc w _) (fun _ => ⟨rfl, .of rfl (Blk.new w e _)⟩) (fun e => by cases e) (fun e => by cases e)
    (.inr (.inl ⟨j.ty, 0, List.replicate m2 j.zero, fun _ => z.cells.toList, [], ⟨_, rfl, rfl⟩, rfl, rfl, rfl, hs, ⟨h3, fun e => (by cases e)⟩, by
      rw [List.length_replicate, flat_rep, List.append_nil], hlen, fun u hu => (by cases hu), fun q hq => by simp only [List.getElem_replicate]; exact e5 _⟩))
  refine wpList_plain hgd fun K hK => ?_
  unfold Oper.wp
  have he : (execOp a.eval o).run P w = .ok (.value (.slice (some ⟨w.heap.size, 0, none⟩) m m2)) (w.alloc (.cells (List.replicate m2 z.cells.toList).flatten.toArray e)) := by
    obtain ⟨dst, op, ty, pos, after, gd⟩ := o
    dsimp only at ho
    subst ho
    have e9 : (madeCells z.cells (m2 * inf.size)) = (List.replicate m2 z.cells.toList).flatten.toArray := by apply Array.toList_inj.1; rw [hcs]
    rw [← e9]
    simp only [execOp, hlv, hkv, Sem.run_bind, hrun, Result.andThen_ok, Sem.run_pure, Int.toNat_natCast]
  rw [he, Oper.upon_value]
  have hvw : RC g' .sc (.vw st.bx.length 0 m) [.slice (some ⟨w.heap.size, 0, none⟩) m m2] := RC.vw (c := m2) hx1 rfl (Nat.le_refl _) h1 h3 fun _ => ⟨rfl, .inr ⟨rfl, rfl⟩⟩
  refine hK _ _ (kk _ _ ⟨g', ?_, (hF.mono l1.1).put hd (fun _ => (RC.vwc hvw fun x hx _ => by rw [hx1] at hx; injection hx with hx; subst hx; rfl).rv1) rfl (fun h => absurd trivial h)⟩)
  cases o.dst <;> exact I1
/-- A slice seen without its room, its elements seen as others. -/
theorem v_slcL (H : Rel P w0 N nt st a w) (d : Nat) {T : Ty} {es es' : List AV} {n : Nat} (hd : find d st.t = some (none, .slc T es n)) (hn : n ≤ es.length) (hl : es'.length = n) (h : ∀ k (h1 : k < es'.length), sub 3 (es[k]'(by omega)) es'[k]) : Rel P w0 N nt ⟨nilT d (.sl T es' none) st.t, st.bx, st.fz, st.rw⟩ a w := by
  obtain ⟨g, HI, hF⟩ := H
  refine ⟨g, HI, hF.sz, hF.df, fun p hp hg => ?_, fun p hp hg => by rcases nilT_mem hp with h | h; (subst h; exact absurd trivial hg); exact hF.u p h hg⟩
  rcases nilT_mem hp with h1 | h1
  · subst h1
    have h2 : RV g (.slc T es n) (a.tmps.getD d undef) := hF.t _ (find_mem hd) trivial
    obtain ⟨_, A, F, e1, hn1, hm, hr, hv⟩ := h2.slc_inv.slc_inv
    injection e1 with e1
    show RV g (.sl T es' none) (a.tmps.getD d undef)
    rw [e1]
    have := RC.sl (g := g) (T := T) (es := es') (tok := none) (A := A) (c := es.length) (by omega) hm F ?_ (fun k hk => (hv k (by omega)).sub_ (h k hk)) (fun i hi => by cases hi)
    · rw [hl] at this; exact this.rv1
    · rcases hr with h3 | ⟨b, o, hA, hj⟩
      · subst h3; left; exact List.length_eq_zero_iff.1 (by simp at hn; omega)
      · exact .inr ⟨b, o, hA, fun k hk j u hu => hj k (by omega) j u hu⟩
  · exact hF.t p h1 hg
/-- Is what is nil not nil? -/
theorem v_nilNeq {ops : Array Oper} {Q : Exit → Act → World → Prop} {rest : List Oper} {o : Oper} {t e q : Nat} {x : Operand} (H : Rel P w0 N nt st a w) (ht : P.underlying t = some (.slice e))
    (k : ∀ a w, Rel P w0 N nt (st.put o.dst none (.v (.bool false))) a w → wpList P ops Q rest a w) (hgd : o.guard = none := by rfl) (ho : o.op = .binOp .neq t x (.const (.slice none 0 0)) q := by rfl) (hd : okDst nt none o.dst = true := by rfl) (hx : st.ev none x = .v (.slice none 0 0) := by rfl) : wpList P ops Q (o :: rest) a w := by
  obtain ⟨g, HI, hF⟩ := H
  have ex := ev_sound hF (c := none) trivial x
  rw [hx] at ex
  have ex := ex.v_inv
  refine wpList_plain hgd fun K hK => ?_
  unfold Oper.wp
  have he : (execOp a.eval o).run P w = .ok (.value (.bool false)) w := by
    obtain ⟨dst, op, ty, pos, after, gd⟩ := o
    dsimp only at ho
    subst ho
    have hg : (eqGuard .neq t x (.const (.slice none 0 0)) (.slice none 0 0) (.slice none 0 0)).run P w = .ok () w := by simp [eqGuard]
    have hb : (binOp .neq t (.slice none 0 0) (.slice none 0 0)).run P w = .ok (.bool false) w := by simp [binOp, Op.equal, Op.maxDepth, Lib.run_equalIn_slice_nil w 9999 t e none 0 0 0 0 ht]
    have ev0 : a.eval (.const (.slice none 0 0)) = .slice none 0 0 := rfl
    simp only [execOp, ev0, ex, Sem.run_bind, hg, Result.andThen_ok, hb, Sem.run_pure]
  rw [he, Oper.upon_value]
  refine hK _ _ (k _ _ ⟨g, ?_, hF.put hd (fun _ => RV.v_of rfl) rfl (fun h => absurd trivial h)⟩)
  cases o.dst <;> exact HI
end
end Go.Proofs.Ytgffimanhmpohaa
/- Entries that are lent, and kept. -/
namespace Go.Proofs.Ytgffimanhmpohaa
open Go Go.RowKit
/-- A lent entry: its value with room. -/
def lentA (p : Pr) : AV := .st [.ba p.1, .bc (lentOf p.2) p.2.length none]
def zeroP : AV := .st [.ba (List.replicate 32 0), .v (.slice none 0 0)]
def lentPs (l : List Pr) : List AV := l.map lentA ++ List.replicate 2 zeroP
theorem lentPs_len (l : List Pr) : (lentPs l).length = l.length + 2 := by simp [lentPs]
theorem lentPs_get (l : List Pr) (k : Nat) (h : k < l.length) : ((lentPs l).take l.length).getD k .any = lentA l[k] := by
  simp [lentPs, List.getD_eq_getElem?_getD, List.getElem?_take, List.getElem?_append, h]
theorem lentPs_end (l : List Pr) (k : Nat) (h : l.length ≤ k) (h2 : k < l.length + 2) : ((lentPs l).take (l.length + 2)).getD k .any = zeroP := by
  have e1 : ((lentPs l).take (l.length + 2)) = lentPs l := List.take_of_length_le (by rw [lentPs_len]; omega)
  rw [e1, lentPs, List.getD_eq_getElem?_getD, List.getElem?_append_right (by rw [List.length_map]; exact h), List.length_map]
  have e2 : k - l.length = 0 ∨ k - l.length = 1 := by omega
  rcases e2 with e2 | e2 <;> rw [e2] <;> rfl
set_option maxRecDepth 20000 in
set_option maxHeartbeats 1000000 in
theorem keptP_v (l : List Pr) (hk : K32 l) (hv : V0 l) (hl : l.length ≤ 1048576) : VC Try.prog 14 [.slc prT (lentPs l) l.length, .sl prT (l.map prA) none] [] (.v (.bool true)) := by
  have hlm : (l.map prA).length = l.length := List.length_map ..
  have hpl := lentPs_len l
  have htl : ((lentPs l).take l.length).length = l.length := by rw [List.length_take, hpl]; omega
  refine mE Try.func14 ?_; intro N w0 a w hN hR H
  have hX := @hlm
  refine mW ?_; clear H; intro a w H
  refine mC H (fun hb => ?_) (fun hb => ?_)
  · simp at hb
  · clear hb
    refine mW ?_; clear H; intro a w H
    refine v_loop (fun k : Nat => ⟨[(5, none, .v (.int .i64 (k : Int))), (0, none, .slc prT (lentPs l) l.length), (1, none, .sl prT (l.map prA) none)], [], [], []⟩) (fun k => k ≤ l.length) (fun k => l.length - k) 0 (Nat.zero_le _) (H.to 0 0 ⟨hN, hR⟩ ⟨rfl, rfl, rfl, trivial⟩ rfl rfl rfl rfl rfl) ?_
    clear H
    intro k a w hk1 H
    refine mW ?_; clear H; intro a w H
    refine mC H (fun hb => ?_) (fun hb => ?_)
    · have hlt : k < l.length := by rw [decide_eq_true_eq] at hb; omega
      clear hb
      have g1 := prA_get l k hlt
      have g2 := lentPs_get l k hlt
      have w1 := hk _ (List.getElem_mem hlt)
      have v1 := hv _ (List.getElem_mem hlt)
      generalize l[k] = q at *
      obtain ⟨kb, vb⟩ := q
      simp only [lentA] at g2
      dsimp only at g1 w1 v1
      have hc := kept_v vb (by omega)
      clear hX; have hX := And.intro @hlm (And.intro @g1 (And.intro @g2 (@htl)))
      have hY := @w1
      refine mS ?_; refine mD 0 [22] [] H ?_; clear H; intro gS H
      refine mTN 3 hN H ?_; clear H; intro a w H; simp only [List.drop_succ_cons, List.drop_zero, List.drop_nil]
      refine mTN 2 hN H ?_; clear H; intro a w H; simp only [List.drop_succ_cons, List.drop_zero, List.drop_nil]
      refine mTN 3 hN H ?_; clear H; intro a w H; simp only [List.drop_succ_cons, List.drop_zero, List.drop_nil]
      refine mTN 2 hN H ?_; clear H; intro a w H; simp only [List.drop_succ_cons, List.drop_zero, List.drop_nil]
      refine mTN 2 hN H ?_; clear H; intro a w H; simp only [List.drop_succ_cons, List.drop_zero, List.drop_nil]
      refine mTN 3 hN H ?_; clear H; intro a w H; simp only [List.drop_succ_cons, List.drop_zero, List.drop_nil]
      refine mTN 2 hN H ?_; clear H; intro a w H; simp only [List.drop_succ_cons, List.drop_zero, List.drop_nil]
      refine mTN 3 hN H ?_; clear H; intro a w H; simp only [List.drop_succ_cons, List.drop_zero, List.drop_nil]
      refine mTN 2 hN H ?_; clear H; intro a w H; simp only [List.drop_succ_cons, List.drop_zero, List.drop_nil]
      replace H := v_knownT H 30 false (by rfl)
      simp only [unG, gdEq, Nat.reduceBEq, cond_true, cond_false] at H
      replace H := ntf H
      refine v_guardT H (by rfl) (by rfl) (by rfl) ?_
      refine mCallT [] [] (hc) H ?_; clear H; intro a w H
      refine mTN 1 hN H ?_; clear H; intro a w H; simp only [List.drop_succ_cons, List.drop_zero, List.drop_nil]
      replace H := v_knownT H 30 false (by rfl)
      simp only [unG, gdEq, Nat.reduceBEq, cond_true, cond_false] at H
      replace H := ntf H
      refine mT ?_; clear H; intro a w H
      refine v_drawNil H ?_; clear H; intro H
      refine mC H (fun hb => ?_) (fun hb => ?_)
      · cases hb
      · clear hb
        clear hX; have hX := @hlm
        clear hY
        refine mW ?_; clear H; intro a w H
        exact ⟨k + 1, hlt, by omega, H.to 0 0 ⟨hN, hR⟩ ⟨rfl, rfl, rfl, trivial⟩ rfl rfl rfl rfl rfl⟩
    · have hge : k = l.length := by rw [decide_eq_false_iff_not] at hb; omega
      subst hge
      clear hX; have hX := And.intro @hlm (@hpl)
      refine mW ?_; clear H; intro a w H
      refine v_loop (fun k : Nat => ⟨[(7, none, .v (.int .i64 (k : Int))), (6, none, .slc prT (lentPs l) (l.length + 2))], [], [], []⟩) (fun k => l.length ≤ k ∧ k ≤ l.length + 2) (fun k => l.length + 2 - k) l.length ⟨Nat.le_refl _, by omega⟩ (H.to 0 0 ⟨hN, hR⟩ ⟨rfl, rfl, trivial⟩ rfl rfl rfl rfl rfl) ?_
      clear H
      rintro k a w ⟨hk1, hk2⟩ H
      refine mW ?_; clear H; intro a w H
      refine mC H (fun hb => ?_) (fun hb => ?_)
      · have hlt : k < l.length + 2 := by rw [decide_eq_true_eq] at hb; omega
        clear hb
        have g1 := lentPs_end l k hk1 hlt
        have htl2 : ((lentPs l).take (l.length + 2)).length = l.length + 2 := by rw [List.length_take, hpl]; omega
        have hzz : (List.replicate 32 (0 : UInt8)).length = 32 := List.length_replicate
        simp only [zeroP] at g1
        refine mS ?_
        clear hX; have hX := And.intro @g1 (And.intro @htl2 (@hzz))
        (try refine wp_region_lit ?_); refine mN 3 hN H ?_; clear H; intro a w H
        (try refine wp_region_lit ?_); refine mN 5 hN H ?_; clear H; intro a w H
        replace H := v_known H 63 false (by rfl)
        simp only [unG, gdEq, Nat.reduceBEq, cond_true, cond_false] at H
        replace H := nf H
        (try refine wp_region_lit ?_); refine mN 3 hN H ?_; clear H; intro a w H
        (try refine wp_region_lit ?_); refine mN 2 hN H ?_; clear H; intro a w H
        replace H := v_known H 63 false (by rfl)
        simp only [unG, gdEq, Nat.reduceBEq, cond_true, cond_false] at H
        replace H := nf H
        refine mG H ?_
        refine v_nilNeq H Try.underlying35 ?_; clear H; intro a w H
        replace H := nf H
        refine mW ?_; clear H; intro a w H
        refine mC H (fun hb => ?_) (fun hb => ?_)
        · cases hb
        · clear hb
          refine mW ?_; clear H; intro a w H
          exact ⟨k + 1, ⟨by omega, hlt⟩, by omega, H.to 0 0 ⟨hN, hR⟩ ⟨rfl, rfl, trivial⟩ rfl rfl rfl rfl rfl⟩
      · clear hb
        clear hX; have hX := @hlm
        refine mW ?_; clear H; intro a w H
        refine wp_ret ?_; exact mEnd [] [] [.tmp 4] [_] hN hR H
end Go.Proofs.Ytgffimanhmpohaa
/- A slot's growing list is frozen while slices stand on their own. -/
namespace Go.Proofs.Ytgffimanhmpohaa
open Go Go.RowKit
variable {P : Program} {w0 w : World} {N g : Gh} {st : St} {nt : Nat} {a : Act}
theorem v_frz0 (HI : Inv P w0 N g st.bx st.fz st.rw w) (hF : FR g nt st a) (d i : Nat) {e γ n : Nat} {T : Ty} {es : List AV} (hN : N.bx.length ≤ i) (hb : st.bx[i]? = some (.vc e T, .vc γ es)) (hn : n ≤ es.length) (hd : find d st.t = some (none, .vw i γ n)) :
    ∃ g1, g.lex g1 ∧ Inv P w0 N g1 st.bx (i :: st.fz) st.rw w ∧ FR g1 nt ⟨nilT d (.sl T (es.take n) none) st.t, st.bx, i :: st.fz, st.rw⟩ a := by
  obtain ⟨y, hy, hyT, hbc⟩ := HI.br.at_ i _ _ hb
  obtain ⟨T2, F, sp, ⟨e2, he2, htid⟩, hmp, hgen, h0, hcm, hcs, hcl, hsp, hFk⟩ := hbc.vc_inv
  injection he2 with he20 he2; subst he20 he2
  have hv := (hF.t _ (find_mem hd) trivial).vw_inv.vw_inv
  obtain ⟨_, y', e3, T3, A, c, hval, hy', hty', hle, hnc, hm, hxx⟩ := hv
  rw [hy] at hy'; injection hy' with hy'; subst hy'
  injection hval with hval
  obtain ⟨hcc, hA⟩ := hxx hgen
  have hval : a.tmps.getD d undef = .slice A n c := hval
  have htl : (es.take n).length = n := by rw [List.length_take]; omega
  rcases hA with ⟨ho, hA⟩ | ⟨ho, hA⟩
  · have hc0 : c = 0 := by rw [hcc]; exact hcm.2 ho
    refine ⟨g, Gh.lex.refl g, ⟨HI.mem, HI.fr, HI.br, fun j x hj hf => List.mem_cons_of_mem _ (HI.fz j x hj hf), HI.wr, HI.wz⟩, hF.sz, hF.df, fun p hp' hg => ?_, fun p hp hg => by rcases nilT_mem hp with h | h; (subst h; exact absurd trivial hg); exact hF.u p h hg⟩
    rcases nilT_mem hp' with h | h
    · subst h
      show RV g (.sl T (es.take n) none) (a.tmps.getD d undef)
      have hn0 : n = 0 := by omega
      rw [hval, hA, hn0, hc0]
      exact (RC.nil2 (by simp)).rv1
    · exact hF.t p h hg
  · obtain ⟨g1, l1, I1, _, hro⟩ := HI.freeze hy ho hmp hN
    refine ⟨g1, l1, I1, (hF.mono l1.1).sz, hF.df, fun p hp' hg => ?_, fun p hp hg => by rcases nilT_mem hp with h | h; (subst h; exact absurd trivial hg); exact hF.u p h hg⟩
    rcases nilT_mem hp' with h | h
    · subst h
      show RV g1 (.sl T (es.take n) none) (a.tmps.getD d undef)
      rw [hval, hA]
      have := RC.sl (g := g1) (T := T) (es := es.take n) (tok := none) (A := some ⟨y.blk, 0, none⟩) (c := c) (by omega) hm F (.inr ⟨y.blk, 0, rfl, fun k hk j u hu => by
        rw [Nat.zero_add]
        refine hro _ _ ?_
        rw [hcs]
        exact flat_at hFk (by omega) hu⟩) (fun k hk => by
        rw [List.getElem_take]
        exact (hFk k (by omega)).mono l1.1.base) (fun i hi => by cases hi)
      rw [htl] at this
      exact this.rv1
    · exact (hF.mono l1.1).t p h hg
theorem RelX.frz {X : List XR} (H : RelX w0.heap.size P w0 N nt st X a w) (d i : Nat) {e γ n : Nat} {T : Ty} {es : List AV} (hN : N.bx.length ≤ i) (hb : st.bx[i]? = some (.vc e T, .vc γ es)) (hn : n ≤ es.length) (hd : find d st.t = some (none, .vw i γ n)) :
    RelX w0.heap.size P w0 N nt ⟨nilT d (.sl T (es.take n) none) st.t, st.bx, i :: st.fz, st.rw⟩ X a w :=
  H.ghost rfl rfl fun g HI hF => v_frz0 HI hF d i hN hb hn hd
theorem v_frzC0 (HI : Inv P w0 N g st.bx st.fz st.rw w) (hF : FR g nt st a) (d d2 i : Nat) {e γ n m k : Nat} {T : Ty} {es : List AV} (hN : N.bx.length ≤ i) (hb : st.bx[i]? = some (.vc e T, .vc γ es)) (hn : n ≤ es.length) (hk : es.length = k) (hd : find d st.t = some (none, .vw i γ n)) (hd2 : find d2 st.t = some (none, .vwc i γ m k)) :
    ∃ g1, g.lex g1 ∧ Inv P w0 N g1 st.bx (i :: st.fz) st.rw w ∧ FR g1 nt ⟨nilT d (.slc T es n) st.t, st.bx, i :: st.fz, st.rw⟩ a := by
  obtain ⟨y, hy, hyT, hbc⟩ := HI.br.at_ i _ _ hb
  obtain ⟨T2, F, sp, ⟨e2, he2, htid⟩, hmp, hgen, h0, hcm, hcs, hcl, hsp, hFk⟩ := hbc.vc_inv
  injection he2 with he20 he2; subst he20 he2
  have hv := (hF.t _ (find_mem hd) trivial).vw_inv.vw_inv
  obtain ⟨_, y', e3, T3, A, c, hval, hy', hty', hle, hnc, hm, hxx⟩ := hv
  rw [hy] at hy'; injection hy' with hy'; subst hy'
  injection hval with hval
  obtain ⟨hcc, hA⟩ := hxx hgen
  have hval : a.tmps.getD d undef = .slice A n c := hval
  have hcap : y.cap = k := by
    have h2 : RV g (.vwc i γ m k) (a.tmps.getD d2 undef) := hF.t _ (find_mem hd2) trivial
    rcases (show RV1 g _ _ from h2) with ⟨T, cs, q1, q2, q3⟩ | q
    · cases q2; simp [Ty.agg] at q1
    · cases q with | vwc q1 q2 => exact q2 _ hy hgen
  have hck : c = es.length := by rw [hcc, hcap, hk]
  subst hck
  rcases hA with ⟨ho, hA⟩ | ⟨ho, hA⟩
  · have hc0 : es.length = 0 := by rw [hcc]; exact hcm.2 ho
    refine ⟨g, Gh.lex.refl g, ⟨HI.mem, HI.fr, HI.br, fun j x hj hf => List.mem_cons_of_mem _ (HI.fz j x hj hf), HI.wr, HI.wz⟩, hF.sz, hF.df, fun p hp' hg => ?_, fun p hp hg => by rcases nilT_mem hp with h | h; (subst h; exact absurd trivial hg); exact hF.u p h hg⟩
    rcases nilT_mem hp' with h | h
    · subst h
      show RV g (.slc T es n) (a.tmps.getD d undef)
      rw [hval]
      exact (RC.slc hn hm F (.inl (List.length_eq_zero_iff.1 hc0)) fun k hk => hFk k hk).rv1
    · exact hF.t p h hg
  · obtain ⟨g1, l1, I1, _, hro⟩ := HI.freeze hy ho hmp hN
    refine ⟨g1, l1, I1, (hF.mono l1.1).sz, hF.df, fun p hp' hg => ?_, fun p hp hg => by rcases nilT_mem hp with h | h; (subst h; exact absurd trivial hg); exact hF.u p h hg⟩
    rcases nilT_mem hp' with h | h
    · subst h
      show RV g1 (.slc T es n) (a.tmps.getD d undef)
      rw [hval, hA]
      exact (RC.slc (g := g1) (T := T) (es := es) (n := n) (A := some ⟨y.blk, 0, none⟩) hn hm F (.inr ⟨y.blk, 0, rfl, fun k hk j u hu => by
        rw [Nat.zero_add]
        refine hro _ _ ?_
        rw [hcs]
        exact flat_at hFk (by omega) hu⟩) fun k hk => (hFk k hk).mono l1.1.base).rv1
    · exact (hF.mono l1.1).t p h hg
theorem RelX.frzC {X : List XR} (H : RelX w0.heap.size P w0 N nt st X a w) (d d2 i : Nat) {e γ n m k : Nat} {T : Ty} {es : List AV} (hN : N.bx.length ≤ i) (hb : st.bx[i]? = some (.vc e T, .vc γ es)) (hn : n ≤ es.length) (hk : es.length = k) (hd : find d st.t = some (none, .vw i γ n)) (hd2 : find d2 st.t = some (none, .vwc i γ m k)) :
    RelX w0.heap.size P w0 N nt ⟨nilT d (.slc T es n) st.t, st.bx, i :: st.fz, st.rw⟩ X a w :=
  H.ghost rfl rfl fun g HI hF => v_frzC0 HI hF d d2 i hN hb hn hk hd hd2
end Go.Proofs.Ytgffimanhmpohaa
/- Writes that are lent, their values on their own; kept. -/
namespace Go.Proofs.Ytgffimanhmpohaa
open Go Go.RowKit
def wxs (ws : List Wr) (X : List XR) : List AV := List.zipWith (fun p x => .st [.ba p.1, .v (.bool p.2.1), .v x.v]) ws X
theorem wxs_len (ws : List Wr) (X : List XR) (h : X.length = ws.length) : (wxs ws X).length = ws.length := by simp [wxs, h]
theorem wxs_snoc (ws : List Wr) (X : List XR) (h : X.length = ws.length) (p : Wr) (x : XR) : wxs (ws ++ [p]) (X ++ [x]) = wxs ws X ++ [.st [.ba p.1, .v (.bool p.2.1), .v x.v]] := by
  unfold wxs; rw [List.zipWith_append h.symm]; rfl
def zeroWr : AV := .st [.ba (List.replicate 32 0), .v (.bool false), .v (.slice none 0 0)]
/-- How far the copy has come. -/
def lwK (ws : List Wr) (k : Nat) (X : List XR) : List AV := wxs (ws.take k) X ++ List.replicate (ws.length + 2 - k) zeroWr
theorem lwK_len (ws : List Wr) (k : Nat) (X : List XR) (h : k ≤ ws.length) (hX : X.length = k) : (lwK ws k X).length = ws.length + 2 := by
  unfold lwK
  rw [List.length_append, wxs_len _ _ (by rw [List.length_take]; omega), List.length_take, List.length_replicate]; omega
theorem lwK_set (ws : List Wr) (k : Nat) (X : List XR) (h : k < ws.length) (hX : X.length = k) (x : XR) : (lwK ws k X).set k (.st [.ba ws[k].1, .v (.bool ws[k].2.1), .v x.v]) = lwK ws (k + 1) (X ++ [x]) := by
  unfold lwK
  have h1 : X.length = (ws.take k).length := by rw [List.length_take]; omega
  have h2 : (wxs (ws.take k) X).length = k := by rw [wxs_len _ _ h1]; omega
  obtain ⟨q, hq⟩ : ∃ q, ws.length + 2 - k = q + 1 := ⟨ws.length + 1 - k, by omega⟩
  rw [hq, show ws.length + 2 - (k + 1) = q by omega, List.take_succ_eq_append_getElem h, wxs_snoc _ _ h1, List.replicate_succ]
  rw [List.set_append_right _ _ (by omega), h2, Nat.sub_self]
  simp
theorem lwK_all (ws : List Wr) (X : List XR) (hX : X.length = ws.length) : (lwK ws ws.length X).take ws.length = wxs ws X := by
  unfold lwK
  rw [List.take_length, List.take_append_of_le_length (by rw [wxs_len _ _ hX]; exact Nat.le_refl _), List.take_of_length_le (by rw [wxs_len _ _ hX]; exact Nat.le_refl _)]
attribute [local irreducible] wpT
set_option maxRecDepth 20000 in
set_option maxHeartbeats 8000000 in
theorem lentW_E (ws : List Wr) (hk : K32W ws) (hv : ∀ w ∈ ws, w.2.2.length ≤ 34359730000) (hl : ws.length ≤ 1048576) :
    VE Try.prog 6 [.sl wrT (ws.map wrA) none] (fun X bx' rw' res => bx' = [] ∧ rw' = [] ∧ res = .sl wrT (wxs ws X) none ∧ XTL X (ws.map (·.2.2))) := by
  have hlm : (ws.map wrA).length = ws.length := List.length_map ..
  refine v_enterE Try.func6 rfl (by kernel_rfl) (by show 1 ≤ 38; decide) ?_
  intro N w0 a w hN hR H
  have hM : N.bx.length ≤ 0 ∧ N.rw.length ≤ 0 := ⟨hN, hR⟩
  refine mS ?_
  have hX := @hlm
  (try refine wp_region_lit ?_); refine mN 1 hN H ?_; clear H; intro a w H
  refine mS ?_
  (try refine wpList_nil ?_)
  refine mS ?_
  (try refine wp_region_lit ?_); refine mN 5 hN H ?_; clear H; intro a w H
  have hi2 : ((ws.length : Int) + 2) = ((ws.length + 2 : Nat) : Int) := by omega
  rw [hi2] at H
  refine v_mkC ws.length (ws.length + 2) tab_ok (i := ti23) (j := ti37) rfl rfl rfl (by decide) H (by omega) (by simp; omega) (by simp only [maxLen]; omega) ?_; clear H; intro a w H
  replace H := nf H
  refine mW ?_; clear H; intro a w H
  replace H := v_sub H 3 (x := .vwc 0 0 ws.length (ws.length + 2)) (y := .vw 0 0 ws.length) (by exact ⟨rfl, rfl, rfl⟩) rfl (fun _ e => by cases e) rfl
  simp only [nilT, reduceIte, Nat.reduceEqDiff] at H
  refine v_loopI (fun k a w => ∃ X : List XR, XTL X ((ws.take k).map (·.2.2)) ∧ RelX w0.heap.size Try.prog w0 N Try.f6.ntmps ⟨[(4, none, .v (.int .i64 (k : Int))), (3, none, .vw 0 0 ws.length), (0, none, .sl wrT (ws.map wrA) none)],
    [(.vc 37 wrT, .vc 0 (lwK ws k X))], [], []⟩ X a w)
    (fun k => k ≤ ws.length) (fun k => ws.length - k) 0 (Nat.zero_le _) ⟨[], XTL.nil, Rel.toX (by exact H.to 1 0 ⟨Nat.le_trans hN (Nat.zero_le _), Nat.le_trans hR (Nat.zero_le _)⟩ ⟨rfl, rfl, rfl, trivial⟩ (by simp [lwK, wxs]; rfl) rfl rfl rfl rfl) _⟩ ?_
  clear H hN hR
  rintro k a w1 hk1 ⟨X, hT, H⟩
  obtain ⟨N1, hB, hZ, H, hN1, hR1⟩ := H.open_
  have hN : N1.bx.length ≤ 1 := Nat.le_of_eq hN1
  have hR : N1.rw.length ≤ 0 := Nat.le_of_eq hR1
  clear hN1 hR1
  have hXl : X.length = k := by have := hT.1; rw [List.length_map, List.length_take] at this; omega
  have hll := lwK_len ws k X hk1 hXl
  clear hX; have hX := And.intro @hlm (@hll)
  refine mW ?_; clear H; intro a w H
  refine mC H (fun hb => ?_) (fun hb => ?_)
  · have hlt : k < ws.length := by rw [decide_eq_true_eq] at hb; omega
    clear hb
    have hg := wrA_get ws k hlt
    have w1 := hk _ (List.getElem_mem hlt)
    have hle := lent_E ws[k].2.2 (by have := hv _ (List.getElem_mem hlt); omega)
    have hst := lwK_set ws k X hlt hXl
    have htk : (ws.take (k + 1)).map (·.2.2) = (ws.take k).map (·.2.2) ++ [ws[k].2.2] := by rw [List.take_succ_eq_append_getElem hlt, List.map_append]; rfl
    generalize ws[k] = q at *
    obtain ⟨kb, gb, vb⟩ := q
    dsimp only at hg w1 hle hst htk
    generalize hLE : lwK ws k X = LE at *
    clear hX; have hX := And.intro @hlm (And.intro @hg (@hll))
    have hY := @w1
    refine mS ?_; refine mD 0 [17, 20] [0, 1, 2, 3, 4, 5, 6, 7, 8, 9, 10, 11] H ?_; clear H; intro gS H
    refine mTN 5 hN H ?_; clear H; intro a w H; simp only [List.drop_succ_cons, List.drop_zero, List.drop_nil]
    refine mTN 5 hN H ?_; clear H; intro a w H; simp only [List.drop_succ_cons, List.drop_zero, List.drop_nil]
    refine mTN 5 hN H ?_; clear H; intro a w H; simp only [List.drop_succ_cons, List.drop_zero, List.drop_nil]
    refine mTN 2 hN H ?_; clear H; intro a w H; simp only [List.drop_succ_cons, List.drop_zero, List.drop_nil]
    refine v_callET hle hB (Nat.le_refl _) hZ H (by rintro Y bx' rw' res ⟨rfl, rfl, x, rfl, rfl, _⟩; exact ⟨rfl, rfl⟩) ?_
    clear H
    rintro Y bx' rw' res a w ⟨rfl, rfl, x, rfl, rfl, hx⟩ H
    replace H := nfXT H
    clear hB hZ hN hR
    obtain ⟨N2, hB, hZ, H, hN2, hR2⟩ := H.open_
    have hN : N2.bx.length ≤ 1 := Nat.le_of_eq hN2
    have hR : N2.rw.length ≤ 0 := Nat.le_of_eq hR2
    clear hN2 hR2
    refine mTN 1 hN H ?_; clear H; intro a w H; simp only [List.drop_succ_cons, List.drop_zero, List.drop_nil]
    refine mTN 1 hN H ?_; clear H; intro a w H; simp only [List.drop_succ_cons, List.drop_zero, List.drop_nil]
    refine mT ?_; clear H; intro a w H
    refine v_drawNil H ?_; clear H; intro H
    rw [hst] at H
    clear hX; have hX := @hlm
    clear hY
    refine mW ?_; clear H; intro a w H
    rw [show (k : Int) + 1 = ((k + 1 : Nat) : Int) by omega] at H
    exact ⟨k + 1, hlt, by omega, X ++ [x], by rw [htk]; exact hT.snoc hx, (RelX.close hB hZ H).to 1 0 ⟨Nat.le_trans hM.1 (Nat.zero_le _), hM.2⟩ ⟨rfl, rfl, rfl, trivial⟩ rfl rfl rfl rfl rfl⟩
  · have hge : k = ws.length := by rw [decide_eq_false_iff_not] at hb; omega
    subst hge
    clear hb
    rw [List.take_length] at hT
    have hXw : X.length = ws.length := by rw [hXl]
    replace H := RelX.close hB hZ H
    clear hB hZ hN hR
    replace H := H.frz 3 0 hM.1 rfl (by omega) rfl
    rw [lwK_all ws X hXw] at H
    simp only [nilT, reduceIte, Nat.reduceEqDiff] at H
    obtain ⟨N1, hB, hZ, H, hN1, hR1⟩ := H.open_
    have hN : N1.bx.length ≤ 1 := Nat.le_of_eq hN1
    have hR : N1.rw.length ≤ 0 := Nat.le_of_eq hR1
    clear hN1 hR1
    clear hX; have hX := @hlm
    refine mW ?_; clear H; intro a w H
    replace H := nf H
    refine wp_ret ?_
    exact v_endE (bx' := []) (rs := [.tmp 2]) (ress := [_]) (nb := 0) (nr := 0) [] [] tab_ok hM rfl (RelX.close hB hZ H) (by rfl) (by rfl) cbX (by rfl) ⟨sub_refl _ _, trivial⟩ rfl ⟨rfl, rfl, rfl, hT⟩
end Go.Proofs.Ytgffimanhmpohaa
/- A span that is lent, its values on their own: law24.Lent. -/
namespace Go.Proofs.Ytgffimanhmpohaa
open Go Go.RowKit
attribute [local irreducible] wpT
end Go.Proofs.Ytgffimanhmpohaa
/- Spans that are the same, spans that are kept. -/
namespace Go.Proofs.Ytgffimanhmpohaa
open Go Go.RowKit
attribute [local irreducible] wpT
end Go.Proofs.Ytgffimanhmpohaa
/- Lent writes, kept; how they are seen. -/
namespace Go.Proofs.Ytgffimanhmpohaa
open Go Go.RowKit
def lwA (p : Wr) : AV := .st [.ba p.1, .v (.bool p.2.1), .bc (lentOf p.2.2) p.2.2.length none]
theorem lwA_get (l : List Wr) (k : Nat) (h : k < l.length) : (l.map lwA).getD k .any = .st [.ba l[k].1, .v (.bool l[k].2.1), .bc (lentOf l[k].2.2) l[k].2.2.length none] := by simp [lwA, List.getD_eq_getElem?_getD, h]
theorem wxs_at (ws : List Wr) (X : List XR) (h : X.length = ws.length) (i : Nat) (h1 : i < (wxs ws X).length) (h2 : i < ws.length) (h3 : i < X.length) : (wxs ws X)[i] = .st [.ba ws[i].1, .v (.bool ws[i].2.1), .v X[i].v] := by simp [wxs]
theorem wxs_lent {X Y : List XR} {ws : List Wr} (h : XTL X (ws.map (·.2.2))) (hY : ∀ x ∈ X, x ∈ Y) {T : Ty} {tok : Option Nat} : SeeX Y (.sl T (wxs ws X) tok) (.sl T (ws.map lwA) none) := by
  have hl : X.length = ws.length := by have := h.1; rwa [List.length_map] at this
  refine .sl (by rw [wxs_len ws X hl, List.length_map]) fun i h1 h2 => ?_
  have h1' : i < ws.length := by rwa [wxs_len ws X hl] at h1
  have hx := h.2 i (by omega) (by rw [List.length_map]; exact h1')
  rw [List.getElem_map] at hx
  obtain ⟨x1, x2, x3, x4⟩ := hx
  rw [wxs_at ws X hl i h1 h1' (by omega), List.getElem_map]
  have hs : SeeX Y (.v (X[i]'(by omega)).v) (.bc (lentOf ws[i].2.2) ws[i].2.2.length none) := by
    rw [← x1]
    exact .pubc _ _ (hY _ (List.getElem_mem _)) (by rw [x3]; exact Nat.le_refl _) x2 x4
  refine .st rfl fun k k1 k2 => ?_
  match k, k1 with
  | 0, _ => exact .refl _
  | 1, _ => exact .refl _
  | 2, _ => exact hs
attribute [local irreducible] wpT
set_option maxRecDepth 20000 in
set_option maxHeartbeats 4000000 in
theorem keptW_v (l : List Wr) (hk : K32W l) (hv : ∀ w ∈ l, w.2.2.length ≤ 34359730000) (hl : l.length ≤ 1048576) : VC Try.prog 15 [.sl wrT (l.map lwA) none, .sl wrT (l.map wrA) none] [] (.v (.bool true)) := by
  have hlm : (l.map wrA).length = l.length := List.length_map ..
  have hpl : (l.map lwA).length = l.length := List.length_map ..
  have hg1 := wrA_get l
  have hg2 := lwA_get l
  generalize l.map wrA = es at *
  generalize l.map lwA = fs at *
  refine mE Try.func15 ?_; intro N w0 a w hN hR H
  have hX := And.intro @hlm (@hpl)
  refine mW ?_; clear H; intro a w H
  refine mC H (fun hb => ?_) (fun hb => ?_)
  · simp at hb
  · clear hb
    refine mW ?_; clear H; intro a w H
    refine v_loop (fun i : Nat => ⟨[(5, none, .v (.int .i64 (i : Int))), (4, none, .v (.bool false)), (0, none, .sl wrT fs none), (1, none, .sl wrT es none)], [], [], []⟩) (fun i => i ≤ l.length) (fun i => l.length - i) 0 (Nat.zero_le _)
      (H.to 0 0 ⟨hN, hR⟩ ⟨rfl, rfl, rfl, rfl, trivial⟩ rfl rfl rfl rfl rfl) ?_
    clear H
    intro i a w hi H
    refine mW ?_; clear H; intro a w H
    refine mC H (fun hb => ?_) (fun hb => ?_)
    · have hlt : i < l.length := by rw [decide_eq_true_eq] at hb; omega
      clear hb
      have hg := hg1 i hlt
      have hf := hg2 i hlt
      have hz := hk _ (List.getElem_mem hlt)
      have hsm := kept_v l[i].2.2 (by have := hv _ (List.getElem_mem hlt); omega)
      generalize l[i] = z at *
      obtain ⟨zk, zg, zv⟩ := z
      dsimp only at hg hf hz hsm
      refine mS ?_
      clear hX; have hX := And.intro @hlm (And.intro @hpl (And.intro @hg (And.intro @hf (@hz))))
      replace H := mK [0, 1, 4, 5] 0 0 hN hR H
      refine mS ?_; refine mD 0 [35] [] H ?_; clear H; intro gS H
      refine mTN 3 hN H ?_; clear H; intro a w H; simp only [List.drop_succ_cons, List.drop_zero, List.drop_nil]
      refine mTN 5 hN H ?_; clear H; intro a w H; simp only [List.drop_succ_cons, List.drop_zero, List.drop_nil]
      refine mTN 4 hN H ?_; clear H; intro a w H; simp only [List.drop_succ_cons, List.drop_zero, List.drop_nil]
      refine mTN 3 hN H ?_; clear H; intro a w H; simp only [List.drop_succ_cons, List.drop_zero, List.drop_nil]
      refine mTN 5 hN H ?_; clear H; intro a w H; simp only [List.drop_succ_cons, List.drop_zero, List.drop_nil]
      refine mTN 4 hN H ?_; clear H; intro a w H; simp only [List.drop_succ_cons, List.drop_zero, List.drop_nil]
      refine mTN 4 hN H ?_; clear H; intro a w H; simp only [List.drop_succ_cons, List.drop_zero, List.drop_nil]
      refine mTN 5 hN H ?_; clear H; intro a w H; simp only [List.drop_succ_cons, List.drop_zero, List.drop_nil]
      refine mTN 2 hN H ?_; clear H; intro a w H; simp only [List.drop_succ_cons, List.drop_zero, List.drop_nil]
      refine mCallTG [] [] (hsm) H ?_; clear H; intro a w H
      refine mT ?_; clear H; intro a w H
      refine v_drawNil H ?_; clear H; intro H
      refine mC H (fun hb => ?_) (fun hb => ?_)
      · simp at hb
      · clear hb
        refine mS ?_
        replace H := mK [0, 1, 4, 5] 0 0 hN hR H
        refine mW ?_; clear H; intro a w H
        rw [show (i : Int) + 1 = ((i + 1 : Nat) : Int) by omega] at H
        exact ⟨i + 1, hlt, by omega, H.to 0 0 ⟨hN, hR⟩ ⟨rfl, rfl, rfl, rfl, trivial⟩ rfl rfl rfl rfl rfl⟩
    · clear hb
      refine mW ?_; clear H; intro a w H
      refine wp_ret ?_; exact mEnd [] [] [.tmp 4] [_] hN hR H
end Go.Proofs.Ytgffimanhmpohaa
/- batch.Order: each key's last write, by rising key, their values on their own. -/
namespace Go.Proofs.Ytgffimanhmpohaa
open Go Go.RowKit
/-- How far the values have been copied. -/
def owK (Z : List Wr) (k : Nat) (X : List XR) : List AV := wxs (Z.take k) X ++ (Z.drop k).map wrA
theorem owK_len (Z : List Wr) (k : Nat) (X : List XR) (h : k ≤ Z.length) (hX : X.length = k) : (owK Z k X).length = Z.length := by
  unfold owK
  rw [List.length_append, wxs_len _ _ (by rw [List.length_take]; omega), List.length_take, List.length_map, List.length_drop]; omega
theorem owK_get (Z : List Wr) (k : Nat) (X : List XR) (h : k < Z.length) (hX : X.length = k) : (owK Z k X).getD k .any = .st [.ba Z[k].1, .v (.bool Z[k].2.1), .bs Z[k].2.2 none] := by
  have h1 : (wxs (Z.take k) X).length = k := by rw [wxs_len _ _ (by rw [List.length_take]; omega), List.length_take]; omega
  unfold owK
  rw [List.getD_eq_getElem?_getD, List.getElem?_append_right (by omega), h1, Nat.sub_self, List.drop_eq_getElem_cons h]
  rfl
theorem owK_set (Z : List Wr) (k : Nat) (X : List XR) (h : k < Z.length) (hX : X.length = k) (x : XR) : (owK Z k X).set k (.st [.ba Z[k].1, .v (.bool Z[k].2.1), .v x.v]) = owK Z (k + 1) (X ++ [x]) := by
  have h0 : X.length = (Z.take k).length := by rw [List.length_take]; omega
  have h1 : (wxs (Z.take k) X).length = k := by rw [wxs_len _ _ h0]; omega
  unfold owK
  rw [List.take_succ_eq_append_getElem h, wxs_snoc _ _ h0, List.drop_eq_getElem_cons h, List.map_cons, List.set_append_right _ _ (by omega), h1, Nat.sub_self]
  simp
theorem owK_all (Z : List Wr) (X : List XR) : owK Z Z.length X = wxs Z X := by unfold owK; simp
attribute [local irreducible] wpT
set_option maxRecDepth 20000 in
set_option maxHeartbeats 8000000 in
theorem worder_E (ws : List Wr) (hk : K32W ws) (hv : ∀ w ∈ srtW (lstW ws), w.2.2.length ≤ 34359730000) (hl : ws.length ≤ 1000000) :
    VE Try.prog 7 [.sl wrT (ws.map wrA) none] (fun X bx' rw' res => bx' = [] ∧ rw' = [] ∧ res = .sl wrT (wxs (srtW (lstW ws)) X) none ∧ XL X ((srtW (lstW ws)).map (·.2.2))) := by
  have hb0 := last_b ws hk hl
  have hlw := lstW_len ws
  have hsl : (srtW (lstW ws)).length = (lstW ws).length := (srtW_perm _).length_eq
  rw [← hsl] at hb0 hlw
  generalize srtW (lstW ws) = Z at *
  clear hsl
  refine v_enterE Try.func7 rfl (by kernel_rfl) (by show 1 ≤ 24; decide) ?_
  intro N w0 a w hN hR H
  have hM : N.bx.length ≤ 0 ∧ N.rw.length ≤ 0 := ⟨hN, hR⟩
  refine mW ?_; clear H; intro a w H
  refine mCall [] [] (hb0) H ?_; clear H; intro a w H; try refine wpList_nil ?_
  refine mW ?_; clear H; intro a w H
  refine v_loopI (fun k a w => ∃ X : List XR, XL X ((Z.take k).map (·.2.2)) ∧ RelX w0.heap.size Try.prog w0 N Try.f7.ntmps ⟨[(9, none, .v (.int .i64 (k : Int))), (8, none, .v (.int .i64 (Z.length : Int))), (3, none, .vw 0 Z.length Z.length)],
    [(.vc 37 wrT, .vc Z.length (owK Z k X))], [], []⟩ X a w)
    (fun k => k ≤ Z.length) (fun k => Z.length - k) 0 (Nat.zero_le _) ⟨[], XL.nil, Rel.toX (by exact H.to 1 0 ⟨Nat.le_trans hN (Nat.zero_le _), Nat.le_trans hR (Nat.zero_le _)⟩ ⟨rfl, rfl, rfl, trivial⟩ (by simp [owK, wxs]) rfl rfl rfl rfl) _⟩ ?_
  clear H hN hR
  rintro k a w1 hk1 ⟨X, hT, H⟩
  obtain ⟨N1, hB, hZ, H, hN1, hR1⟩ := H.open_
  have hN : N1.bx.length ≤ 1 := Nat.le_of_eq hN1
  have hR : N1.rw.length ≤ 0 := Nat.le_of_eq hR1
  clear hN1 hR1
  have hXl : X.length = k := by have := hT.1; rw [List.length_map, List.length_take] at this; omega
  have hll := owK_len Z k X hk1 hXl
  have hX := @hll
  refine mW ?_; clear H; intro a w H
  refine mC H (fun hb => ?_) (fun hb => ?_)
  · have hlt : k < Z.length := by rw [decide_eq_true_eq] at hb; omega
    clear hb
    have hg := owK_get Z k X hlt hXl
    have hvl := hv _ (List.getElem_mem hlt)
    have hst := owK_set Z k X hlt hXl
    have htk : (Z.take (k + 1)).map (·.2.2) = (Z.take k).map (·.2.2) ++ [Z[k].2.2] := by rw [List.take_succ_eq_append_getElem hlt, List.map_append]; rfl
    generalize Z[k] = q at *
    obtain ⟨kb, gb, vb⟩ := q
    dsimp only at hg hvl hst htk
    generalize hLE : owK Z k X = LE at *
    refine mS ?_
    clear hX; have hX := And.intro @hll (@hg)
    (try refine wp_region_lit ?_); refine mN 2 hN H ?_; clear H; intro a w H
    (try refine wpList_nil ?_)
    refine mS ?_
    (try refine wp_region_lit ?_); refine mN 5 hN H ?_; clear H; intro a w H
    (try refine wp_region_lit ?_); refine mN 2 hN H ?_; clear H; intro a w H
    (try refine wp_region_lit ?_); refine mN 1 hN H ?_; clear H; intro a w H
    obtain ⟨x, hx, H⟩ := v_pub (RelX.close hB hZ H) (Nat.le_refl _) [3, 4, 8, 9, 12, 13] 19 0 5 rfl (Nat.le_trans hM.2 (Nat.zero_le _)) rfl rfl rfl rfl
    clear hB hZ hN hR
    replace H := nfX H
    obtain ⟨N2, hB, hZ, H, hN2, hR2⟩ := H.open_
    have hN : N2.bx.length ≤ 1 := Nat.le_of_eq hN2
    have hR : N2.rw.length ≤ 0 := Nat.le_of_eq hR2
    clear hN2 hR2
    (try refine wp_region_lit ?_); refine mN 1 hN H ?_; clear H; intro a w H
    (try refine wp_region_lit ?_); refine mN 2 hN H ?_; clear H; intro a w H
    rw [hst] at H
    refine mW ?_; clear H; intro a w H
    rw [show (k : Int) + 1 = ((k + 1 : Nat) : Int) by omega] at H
    exact ⟨k + 1, hlt, by omega, X ++ [x], by rw [htk]; exact hT.snoc hx, (RelX.close hB hZ H).to 1 0 ⟨Nat.le_trans hM.1 (Nat.zero_le _), hM.2⟩ ⟨rfl, rfl, rfl, trivial⟩ rfl rfl rfl rfl rfl⟩
  · have hge : k = Z.length := by rw [decide_eq_false_iff_not] at hb; omega
    subst hge
    clear hb hN hR
    rw [List.take_length] at hT
    rw [owK_all] at H hll
    replace H := RelX.close hB hZ H
    clear hB hZ
    replace H := H.frz 3 0 hM.1 rfl (by omega) rfl
    rw [List.take_of_length_le (Nat.le_of_eq hll)] at H
    simp only [nilT, reduceIte, Nat.reduceEqDiff] at H
    obtain ⟨N1, hB, hZ, H, hN1, hR1⟩ := H.open_
    have hN : N1.bx.length ≤ 1 := Nat.le_of_eq hN1
    have hR : N1.rw.length ≤ 0 := Nat.le_of_eq hR1
    clear hN1 hR1
    refine mW ?_; clear H; intro a w H
    replace H := nf H
    refine wp_ret ?_
    exact v_endE (bx' := []) (rs := [.tmp 2]) (ress := [_]) (nb := 0) (nr := 0) [] [] tab_ok hM rfl (RelX.close hB hZ H) (by rfl) (by rfl) cbX (by rfl) ⟨sub_refl _ _, trivial⟩ rfl ⟨rfl, rfl, rfl, hT⟩
end Go.Proofs.Ytgffimanhmpohaa
/- batch.Override: entries with writes over them, their values on their own. -/
namespace Go.Proofs.Ytgffimanhmpohaa
open Go Go.RowKit
def pwW (p : Pr) : Wr := (p.1, false, p.2)
def ovZ (ps : List Pr) (ws : List Wr) : List Wr := srtW (lstW (ps.map pwW ++ ws))
def liveW : List Wr → List Pr
  | [] => []
  | w :: l => if w.2.1 then liveW l else (w.1, w.2.2) :: liveW l
theorem liveW_snoc (w : Wr) : ∀ l : List Wr, liveW (l ++ [w]) = if w.2.1 then liveW l else liveW l ++ [(w.1, w.2.2)]
  | [] => by unfold liveW; simp only [List.nil_append]; rfl
  | x :: l => by
    have ih := liveW_snoc w l
    show liveW (x :: (l ++ [w])) = _
    unfold liveW
    rw [ih]
    by_cases h1 : x.2.1 = true <;> by_cases h2 : w.2.1 = true <;> simp [h1, h2]
theorem liveW_len : ∀ l : List Wr, (liveW l).length ≤ l.length
  | [] => Nat.le_refl _
  | w :: l => by
    have := liveW_len l
    unfold liveW
    split <;> simp <;> omega
theorem pw_len (ps : List Pr) : ((ps.map pwW).map wrA).length = ps.length := by simp
attribute [local irreducible] wpT
set_option maxRecDepth 20000 in
set_option maxHeartbeats 8000000 in
theorem wover_E (ps : List Pr) (ws : List Wr) (hp : K32 ps) (hk : K32W ws) (hv : ∀ w ∈ ovZ ps ws, w.2.2.length ≤ 34359730000) (hl : ps.length ≤ 100000) (hl2 : ws.length ≤ 100000) :
    VE Try.prog 9 [.sl prT (ps.map prA) none, .sl wrT (ws.map wrA) none] (fun X bx' rw' res => bx' = [] ∧ rw' = [] ∧ res = .sl prT (pxs (liveW (ovZ ps ws)) X) none ∧ XL X ((liveW (ovZ ps ws)).map (·.2))) := by
  have hpl : (ps.map prA).length = ps.length := List.length_map ..
  have hwl : (ws.map wrA).length = ws.length := List.length_map ..
  have hk2 : K32W (ps.map pwW ++ ws) := fun x hx => by
    rcases List.mem_append.1 hx with hx | hx
    · obtain ⟨p, hp1, rfl⟩ := List.mem_map.1 hx
      exact hp p hp1
    · exact hk x hx
  have hb0 := last_b (ps.map pwW ++ ws) hk2 (by rw [List.length_append, List.length_map]; omega)
  have hlw := lstW_len (ps.map pwW ++ ws)
  have hsl : (srtW (lstW (ps.map pwW ++ ws))).length = (lstW (ps.map pwW ++ ws)).length := (srtW_perm _).length_eq
  rw [← hsl] at hb0 hlw
  rw [List.map_append] at hb0
  rw [List.length_append, List.length_map] at hlw
  unfold ovZ at hv ⊢
  have hzk : K32W (srtW (lstW (ps.map pwW ++ ws))) := (lstW_k32 _ hk2).perm (srtW_perm _)
  generalize srtW (lstW (ps.map pwW ++ ws)) = Z at *
  clear hsl
  refine v_enterE Try.func9 rfl (by kernel_rfl) (by show 2 ≤ 49; decide) ?_
  intro N w0 a w hN hR H
  have hM : N.bx.length ≤ 0 ∧ N.rw.length ≤ 0 := ⟨hN, hR⟩
  have hX := And.intro @hpl (@hwl)
  refine mW ?_; clear H; intro a w H
  replace H := v_nilE tab_ok H 5 37 wrT (j := ti37) rfl (by decide) rfl
  simp only [nilT, reduceIte, Nat.reduceEqDiff, List.length_nil, List.nil_append] at H
  refine v_loop (fun k : Nat => ⟨[(13, none, .v (.int .i64 (k : Int))), (12, none, .v (.int .i64 (ps.length : Int))), (11, none, .sl prT (ps.map prA) none), (5, none, .sl wrT (((ps.take k).map pwW).map wrA) (some 0)), (1, none, .sl wrT (ws.map wrA) none)],
    [], [], [(37, k)]⟩) (fun k => k ≤ ps.length) (fun k => ps.length - k) 0 (Nat.zero_le _) (H.to 0 1 ⟨hN, Nat.le_trans hR (Nat.zero_le _)⟩ ⟨rfl, rfl, rfl, rfl, rfl, trivial⟩ rfl rfl rfl rfl rfl) ?_
  clear H
  intro k a w hk1 H
  refine mW ?_; clear H; intro a w H
  refine mC H (fun hb => ?_) (fun hb => ?_)
  · have hlt : k < ps.length := by rw [decide_eq_true_eq] at hb; omega
    clear hb
    have g1 := prs_get ps k hlt
    have w1 := hp _ (List.getElem_mem hlt)
    have e1 : ((ps.take (k + 1)).map pwW).map wrA = ((ps.take k).map pwW).map wrA ++ [wrA (pwW ps[k])] := by rw [List.take_succ_eq_append_getElem hlt, List.map_append, List.map_append]; rfl
    have hcl : (((ps.take k).map pwW).map wrA).length = k := by rw [pw_len, List.length_take]; omega
    generalize ps[k] = q at *
    obtain ⟨kb, vb⟩ := q
    dsimp only at g1 w1
    have hwe : wrA (pwW (kb, vb)) = .st [.ba kb, .v (.bool false), .bs vb none] := rfl
    rw [hwe] at e1
    clear hwe
    generalize ((ps.take k).map pwW).map wrA = cs at *
    refine mS ?_
    clear hX; have hX := And.intro @hpl (And.intro @hwl (And.intro @g1 (And.intro @w1 (@hcl))))
    (try refine wp_region_lit ?_); refine mN 2 hN H ?_; clear H; intro a w H
    refine mW ?_; clear H; intro a w H
    rw [← e1, show (k : Int) + 1 = ((k + 1 : Nat) : Int) by omega] at H
    exact ⟨k + 1, hlt, by omega, H.to 0 1 ⟨hN, Nat.le_trans hR (Nat.zero_le _)⟩ ⟨rfl, rfl, rfl, rfl, rfl, trivial⟩ rfl rfl rfl rfl rfl⟩
  · have hge : k = ps.length := by rw [decide_eq_false_iff_not] at hb; omega
    subst hge
    clear hb
    rw [List.take_length] at H
    have hcl := pw_len ps
    generalize (ps.map pwW).map wrA = cs at *
    generalize ws.map wrA = es at *
    refine mS ?_
    clear hX; have hX := And.intro @hcl (@hwl)
    (try refine wp_region_lit ?_); refine mN 1 hN H ?_; clear H; intro a w H
    (try refine wpList_nil ?_)
    refine mS ?_
    (try refine wp_region_lit ?_); refine mN 3 hN H ?_; clear H; intro a w H
    replace H := v_sub H 28 (x := .sl wrT (cs ++ es) (some 0)) (y := .sl wrT (cs ++ es) none) ⟨rfl, rfl⟩ rfl (fun az h => by cases h) rfl
    simp only [nilT, reduceIte, Nat.reduceEqDiff] at H
    refine mCall [] [] (hb0) H ?_; clear H; intro a w H; try refine wpList_nil ?_
    replace H := v_frz H 29 0 hN rfl (by rw [List.length_map]; exact Nat.le_refl _) rfl
    have hzl : (Z.map wrA).length = Z.length := List.length_map ..
    rw [List.take_of_length_le (Nat.le_of_eq hzl)] at H
    simp only [nilT, reduceIte, Nat.reduceEqDiff] at H
    replace H := mK [8, 29] 1 0 hN hR H
    clear hX; have hX := @hzl
    refine mW ?_; clear H; intro a w H
    replace H := v_nilE tab_ok H 8 65 prT (j := ti65) rfl (by decide) rfl
    simp only [nilT, reduceIte, Nat.reduceEqDiff, List.length_nil, List.nil_append] at H
    refine v_loopI (fun k a w => ∃ X : List XR, XL X ((liveW (Z.take k)).map (·.2)) ∧ RelX w0.heap.size Try.prog w0 N Try.f9.ntmps ⟨[(31, none, .v (.int .i64 (k : Int))), (30, none, .v (.int .i64 (Z.length : Int))), (29, none, .sl wrT (Z.map wrA) none), (8, none, .sl prT (pxs (liveW (Z.take k)) X) (some 0))],
      [(.vc 37 wrT, .vc Z.length (Z.map wrA))], [0], [(65, (liveW (Z.take k)).length)]⟩ X a w)
      (fun k => k ≤ Z.length) (fun k => Z.length - k) 0 (Nat.zero_le _) ⟨[], XL.nil, Rel.toX (by exact H.to 1 1 ⟨Nat.le_trans hN (Nat.zero_le _), Nat.le_trans hR (Nat.zero_le _)⟩ ⟨rfl, rfl, rfl, rfl, trivial⟩ rfl rfl rfl rfl rfl) _⟩ ?_
    clear H hN hR
    rintro k a w1 hk1 ⟨X, hT, H⟩
    obtain ⟨N1, hB, hZ, H, hN1, hR1⟩ := H.open_
    have hN : N1.bx.length ≤ 1 := Nat.le_of_eq hN1
    have hR : N1.rw.length ≤ 1 := Nat.le_of_eq hR1
    clear hN1 hR1
    have hXl : X.length = (liveW (Z.take k)).length := by have := hT.1; rwa [List.length_map] at this
    have hol := pxs_len _ X hXl
    clear hX; have hX := And.intro @hzl (@hol)
    refine mW ?_; clear H; intro a w H
    refine mC H (fun hb => ?_) (fun hb => ?_)
    · have hlt : k < Z.length := by rw [decide_eq_true_eq] at hb; omega
      clear hb
      have hg := wrA_get Z k hlt
      have hvl := hv _ (List.getElem_mem hlt)
      have w1 := hzk _ (List.getElem_mem hlt)
      have e1 : liveW (Z.take (k + 1)) = if Z[k].2.1 then liveW (Z.take k) else liveW (Z.take k) ++ [(Z[k].1, Z[k].2.2)] := by rw [List.take_succ_eq_append_getElem hlt, liveW_snoc]
      generalize Z[k] = q at *
      obtain ⟨kb, gb, vb⟩ := q
      dsimp only at hg hvl w1 e1
      refine mS ?_
      clear hX; have hX := And.intro @hzl (And.intro @hol (@hg))
      (try refine wp_region_lit ?_); refine mN 2 hN H ?_; clear H; intro a w H
      refine mW ?_; clear H; intro a w H
      refine mC H (fun hb => ?_) (fun hb => ?_)
      · have hgb : gb = false := by simpa using hb
        subst hgb
        clear hb
        rw [if_neg (by decide)] at e1
        have e3 := fun x => pxs_snoc (liveW (Z.take k)) X hXl (kb, vb) x
        have l1 : (liveW (Z.take (k + 1))).length = (liveW (Z.take k)).length + 1 := by rw [e1, List.length_append]; rfl
        have htk : (liveW (Z.take (k + 1))).map (·.2) = (liveW (Z.take k)).map (·.2) ++ [vb] := by rw [e1, List.map_append]; rfl
        rw [← e1] at e3
        have hm2 : (liveW (Z.take k)).length ≤ 200000 := by have := liveW_len (Z.take k); rw [List.length_take] at this; omega
        generalize pxs (liveW (Z.take k)) X = o at *
        generalize hm : (liveW (Z.take k)).length = m at *
        clear hX; have hX := And.intro @hzl (And.intro @hol (@w1))
        refine mS ?_; refine mD 2 [5, 7, 8] [0, 1, 2] H ?_; clear H; intro gS H
        refine mTN 5 hN H ?_; clear H; intro a w H; simp only [List.drop_succ_cons, List.drop_zero, List.drop_nil]
        refine mTN 1 hN H ?_; clear H; intro a w H; simp only [List.drop_succ_cons, List.drop_zero, List.drop_nil]
        obtain ⟨x, hx, HX⟩ := v_pubT (RelXT.close hB hZ H) (Nat.le_refl _) [8, 10, 29, 30, 31, 38, 40] 43 1 5 rfl (Nat.le_trans hM.2 (Nat.zero_le _)) rfl rfl (Nat.le_of_ble_eq_true rfl) rfl rfl
        clear H hB hZ hN hR
        replace HX := nfXT HX
        obtain ⟨N2, hB, hZ, H, hN2, hR2⟩ := HX.open_
        clear HX
        have hN : N2.bx.length ≤ 2 := Nat.le_of_eq hN2
        have hR : N2.rw.length ≤ 1 := Nat.le_of_eq hR2
        clear hN2 hR2
        refine mT ?_; clear H; intro a w H
        refine v_drawNil H ?_; clear H; intro H
        refine mW ?_; clear H; intro a w H
        rw [← e3, ← l1, show (k : Int) + 1 = ((k + 1 : Nat) : Int) by omega] at H
        exact ⟨k + 1, hlt, by omega, X ++ [x], by rw [htk]; exact hT.snoc hx, (RelX.close hB hZ H).to 1 1 ⟨Nat.le_trans hM.1 (Nat.zero_le _), Nat.le_trans hM.2 (Nat.zero_le _)⟩ ⟨rfl, rfl, rfl, rfl, trivial⟩ rfl rfl rfl rfl rfl⟩
      · have hgb : gb = true := by simpa using hb
        subst hgb
        clear hb
        rw [if_pos rfl] at e1
        clear hX; have hX := And.intro @hzl (@hol)
        refine mW ?_; clear H; intro a w H
        rw [show (k : Int) + 1 = ((k + 1 : Nat) : Int) by omega] at H
        exact ⟨k + 1, hlt, by omega, X, by rw [e1]; exact hT, (RelX.close hB hZ H).to 1 1 ⟨Nat.le_trans hM.1 (Nat.zero_le _), Nat.le_trans hM.2 (Nat.zero_le _)⟩ ⟨rfl, rfl, rfl, by rw [e1]; rfl, trivial⟩ rfl (by rw [e1]; rfl) rfl rfl rfl⟩
    · have hge : k = Z.length := by rw [decide_eq_false_iff_not] at hb; omega
      subst hge
      clear hb
      rw [List.take_length] at H hT
      clear hX; have hX := @hzl
      refine mW ?_; clear H; intro a w H
      replace H := nf H
      refine wp_ret ?_
      exact v_endE (bx' := []) (rs := [.tmp 4]) (ress := [.sl prT (pxs (liveW Z) X) none]) (nb := 0) (nr := 0) [] [] tab_ok hM rfl (RelX.close hB hZ H) (by rfl) (by rfl) cbX (by rfl) ⟨⟨rfl, rfl⟩, trivial⟩ rfl ⟨rfl, rfl, rfl, hT⟩
end Go.Proofs.Ytgffimanhmpohaa
/- A box is seen otherwise. -/
namespace Go.Proofs.Ytgffimanhmpohaa
open Go Go.RowKit
theorem v_seeBox {P : Program} {w0 w : World} {N : Gh} {nt lo : Nat} {st : St} {X : List XR} {a : Act} (hX : Xs lo N w0 X) (H : Rel P w0 N nt st a w) (j : Nat) {T : Ty} {x : AV} (y : AV) (hs : SeeX X x y) (hj : st.bx[j]? = some (T, x)) (hT : T.grows = false) : Rel P w0 N nt ⟨st.t, st.bx.set j (T, y), st.fz, st.rw⟩ a w := by
  obtain ⟨g, HI, hF⟩ := H
  obtain ⟨xj, hxj, hxT, hbj⟩ := HI.br.at_ j _ _ hj
  obtain ⟨hjo, hjm, hrc⟩ := hbj.rc hT
  subst hxT
  have h2 := hrc.seeX hX hs (fun b o u h => HI.fr.le.ro b o u h)
  exact ⟨g, HI.re hxj (BC.pl h2 hjo hjm), hF.sz, hF.df, fun p hp hg => hF.t p hp hg, fun p hp hg => hF.u p hp hg⟩
end Go.Proofs.Ytgffimanhmpohaa
/- rootcellarref11.Order: the reference's order of writes. -/
namespace Go.Proofs.Ytgffimanhmpohaa
open Go Go.RowKit
theorem refF_step (ws : List Wr) (i : Nat) (h : i < ws.length) (out : List Wr) : refF (ws.drop i) out = refF (ws.drop (i + 1)) (if ws[i].1 ∈ keyW (ws.drop (i + 1)) then out else insR (nzW ws[i]) out) := by
  rw [List.drop_eq_getElem_cons h]; rfl
/-- No write from i + 1 up to j has the key. -/
def noneW (ws : List Wr) (k : List UInt8) (i j : Nat) : Bool := !(keyW ((ws.drop (i + 1)).take (j - (i + 1)))).contains k
theorem noneW_zero (ws : List Wr) (k : List UInt8) (i : Nat) : noneW ws k i (i + 1) = true := by unfold noneW; simp [keyW]
theorem noneW_step (ws : List Wr) (k : List UInt8) (i j : Nat) (hij : i + 1 ≤ j) (h : j < ws.length) : noneW ws k i (j + 1) = (noneW ws k i j && !decide (ws[j].1 = k)) := by
  unfold noneW
  have e : j + 1 - (i + 1) = (j - (i + 1)) + 1 := by omega
  have hl : j - (i + 1) < (ws.drop (i + 1)).length := by rw [List.length_drop]; omega
  rw [e, List.take_succ_eq_append_getElem hl]
  have hg : (ws.drop (i + 1))[j - (i + 1)] = ws[j] := by rw [List.getElem_drop]; congr 1; omega
  rw [hg]
  unfold keyW
  rw [List.map_append, List.contains_append]
  by_cases hc : ws[j].1 = k
  · simp [List.contains_cons, hc]
  · simp [List.contains_cons, hc, Ne.symm hc]
theorem noneW_all (ws : List Wr) (k : List UInt8) (i : Nat) : noneW ws k i ws.length = !decide (k ∈ keyW (ws.drop (i + 1))) := by
  unfold noneW
  rw [List.take_of_length_le (by rw [List.length_drop]; omega)]
  simp
theorem insR_at (p : Wr) : ∀ (out : List Wr) (k : Nat), k ≤ out.length → (∀ m (h : m < out.length), m < k → Lib.compareBytes out[m].1 p.1 < 0) → (∀ h : k < out.length, ¬ Lib.compareBytes out[k].1 p.1 < 0) → insR p out = out.take k ++ p :: out.drop k
  | [], k, hk, _, _ => by simp [insR]
  | q :: l, 0, _, _, h2 => by
    have : ¬ Lib.compareBytes q.1 p.1 < 0 := h2 (by simp)
    unfold insR
    rw [if_neg this]; rfl
  | q :: l, k + 1, hk, h1, h2 => by
    have h0 : Lib.compareBytes q.1 p.1 < 0 := h1 0 (by simp) (by omega)
    unfold insR
    rw [if_pos h0, insR_at p l k (Nat.le_of_succ_le_succ hk) (fun m h hm => h1 (m + 1) (Nat.succ_lt_succ h) (by omega)) (fun h => h2 (Nat.succ_lt_succ h))]
    rfl
set_option maxRecDepth 20000 in
set_option maxHeartbeats 8000000 in
theorem rorder_v (ws : List Wr) (hk : K32W ws) (hv : ∀ w ∈ ws, w.2.2.length ≤ 34359730000) (hl : ws.length ≤ 1000000) : VC Try.prog 8 [.sl wrT (ws.map wrA) none] [] (.sl wrT ((refF ws []).map wrA) none) := by
  have hwl : (ws.map wrA).length = ws.length := List.length_map ..
  have hgw := wrA_get ws
  generalize ws.map wrA = es at *
  refine mE Try.func8 ?_; intro N w0 a w hN hR H
  have hX := @hwl
  refine mW ?_; clear H; intro a w H
  replace H := v_sub H 3 (x := .v (.slice none 0 0)) (y := .sl wrT [] none) rfl rfl (fun az h => by cases h) rfl
  simp only [nilT, reduceIte, Nat.reduceEqDiff] at H
  refine v_loopI (fun i a w => ∃ out : List Wr, refF (ws.drop i) out = refF ws [] ∧ K32W out ∧ out.length ≤ i ∧ Rel Try.prog w0 N Try.f8.ntmps ⟨[(4, none, .v (.int .i64 (i : Int))), (3, none, .sl wrT (out.map wrA) none), (0, none, .sl wrT es none)], [], [], []⟩ a w)
    (fun i => i ≤ ws.length) (fun i => ws.length - i) 0 (Nat.zero_le _) ⟨[], by simp, (fun x hx => by cases hx), Nat.zero_le _, H.to 0 0 ⟨hN, hR⟩ ⟨rfl, rfl, rfl, trivial⟩ rfl rfl rfl rfl rfl⟩ ?_
  clear H
  rintro i a w hi ⟨out, ho1, ho2, ho3, H⟩
  refine mW ?_; clear H; intro a w H
  refine mC H (fun hb => ?_) (fun hb => ?_)
  · have hlt : i < ws.length := by rw [decide_eq_true_eq] at hb; omega
    clear hb
    have hg := hgw i hlt
    have hp32 := hk _ (List.getElem_mem hlt)
    have hvl := hv _ (List.getElem_mem hlt)
    have hst := refF_step ws i hlt out
    rw [ho1] at hst
    obtain ⟨p, hpp⟩ : ∃ p, p = ws[i] := ⟨_, rfl⟩
    rw [← hpp] at hg hp32 hst hvl
    obtain ⟨kb, gb, vb⟩ := p
    dsimp only at hg hp32 hst hvl
    refine mS ?_
    (try refine wp_region_lit ?_); refine mN 1 hN H ?_; clear H; intro a w H
    (try refine wpList_nil ?_)
    refine mW ?_; clear H; intro a w H
    rw [show (i : Int) + 1 = ((i + 1 : Nat) : Int) by omega] at H
    refine v_loop (fun j : Nat => ⟨[(6, none, .v (.int .i64 (j : Int))), (5, none, .v (.bool (noneW ws kb i j))), (4, none, .v (.int .i64 (i : Int))), (3, none, .sl wrT (out.map wrA) none), (0, none, .sl wrT es none)], [], [], []⟩)
      (fun j => i + 1 ≤ j ∧ j ≤ ws.length) (fun j => ws.length - j) (i + 1) ⟨Nat.le_refl _, hlt⟩ (H.to 0 0 ⟨hN, hR⟩ ⟨rfl, by rw [noneW_zero]; rfl, rfl, rfl, rfl, trivial⟩ rfl rfl rfl rfl rfl) ?_
    clear H
    rintro j a w ⟨hj1, hj2⟩ H
    refine mW ?_; clear H; intro a w H
    refine mC H (fun hb => ?_) (fun hb => ?_)
    · have hjt : j < ws.length := by rw [decide_eq_true_eq] at hb; omega
      clear hb
      have hgj := hgw j hjt
      have hns := noneW_step ws kb i j hj1 hjt
      have hq32 := hk _ (List.getElem_mem hjt)
      generalize ws[j] = q at *
      obtain ⟨kq, gq, vq⟩ := q
      dsimp only at hgj hns hq32
      generalize noneW ws kb i j = fl at *
      clear hX; have hX := And.intro @hwl (And.intro @hg (And.intro @hgj (And.intro @hp32 (@hq32))))
      refine mS ?_; refine mD 0 [] [] H ?_; clear H; intro gS H
      refine mTN 5 hN H ?_; clear H; intro a w H; simp only [List.drop_succ_cons, List.drop_zero, List.drop_nil]
      refine mTN 5 hN H ?_; clear H; intro a w H; simp only [List.drop_succ_cons, List.drop_zero, List.drop_nil]
      refine mT ?_; clear H; intro a w H
      refine v_drawNil H ?_; clear H; intro H
      have e5 : (bif fl then !decide (kq = kb) else false) = noneW ws kb i (j + 1) := by rw [hns]; cases fl <;> simp
      rw [e5] at H
      clear hX; have hX := @hwl
      refine mW ?_; clear H; intro a w H
      rw [show (j : Int) + 1 = ((j + 1 : Nat) : Int) by omega] at H
      exact ⟨j + 1, ⟨by omega, hjt⟩, by omega, H.to 0 0 ⟨hN, hR⟩ ⟨rfl, rfl, rfl, rfl, rfl, trivial⟩ rfl rfl rfl rfl rfl⟩
    · have hje : j = ws.length := by rw [decide_eq_false_iff_not] at hb; omega
      subst hje
      clear hb
      rw [noneW_all] at H
      refine mW ?_; clear H; intro a w H
      refine mC H (fun hb => ?_) (fun hb => ?_)
      · rw [Bool.not_not, decide_eq_true_eq] at hb
        rw [if_pos hb] at hst
        refine mW ?_; clear H; intro a w H
        rw [show (i : Int) + 1 = ((i + 1 : Nat) : Int) by omega] at H
        exact ⟨i + 1, hlt, by omega, out, hst.symm, ho2, by omega, H.to 0 0 ⟨hN, hR⟩ ⟨rfl, rfl, rfl, trivial⟩ rfl rfl rfl rfl rfl⟩
      · rw [Bool.not_not, decide_eq_false_iff_not] at hb
        rw [if_neg hb] at hst
        clear hb
        clear hX; have hX := And.intro @hwl (And.intro @hg (@hp32))
        refine mS ?_; refine mD 0 [11, 12] [0, 1, 2, 3, 4, 5, 6, 7, 8, 9, 10] H ?_; clear H; intro gS H
        refine mTN 3 hN H ?_; clear H; intro a w H; simp only [List.drop_succ_cons, List.drop_zero, List.drop_nil]
        refine mTN 5 hN H ?_; clear H; intro a w H; simp only [List.drop_succ_cons, List.drop_zero, List.drop_nil]
        refine mTN 2 hN H ?_; clear H; intro a w H; simp only [List.drop_succ_cons, List.drop_zero, List.drop_nil]
        refine mT ?_; clear H; intro a w H
        refine v_drawNil H ?_; clear H; intro H
        refine mS ?_
        (try refine wp_region_lit ?_); refine mN 3 hN H ?_; clear H; intro a w H
        (try refine wpList_nil ?_)
        have hnz : nzW (kb, gb, vb) = (kb, gb, if gb then [] else vb) := rfl
        rw [hnz] at hst
        clear hnz
        generalize hnb : (if gb then [] else vb) = nb at *
        revert a w
        apply cutW (R := fun a w => ∃ nv, SeeX [] nv (.bs nb none) ∧ low 1 0 3 nv = true ∧ (nv = .v (.slice none 0 0) ∨ nv = .bs nb none) ∧ Rel Try.prog w0 N Try.f8.ntmps ⟨[(7, none, .ptr 0 []), (4, none, .v (.int .i64 (i : Int))), (3, none, .sl wrT (out.map wrA) none), (0, none, .sl wrT es none)],
          [(wrT, .st [.ba kb, .v (.bool gb), nv])], [], []⟩ a w)
        · intro key1 a w H
          refine mC H (fun hb => ?_) (fun hb => ?_)
          · refine mS ?_
            (try refine wp_region_lit ?_); refine mN 4 hN H ?_; clear H; intro a w H
            (try refine wp_region_lit ?_); refine mN 2 hN H ?_; clear H; intro a w H
            simp only [List.replicate_zero] at H
            (try refine wp_region_lit ?_); refine mN 1 hN H ?_; clear H; intro a w H
            replace H := v_sub H 60 (x := .bs vb (some 0)) (y := .bs vb none) rfl rfl (fun az h => by cases h) rfl
            simp only [nilT, reduceIte, Nat.reduceEqDiff] at H
            (try refine wp_region_lit ?_); refine mN 2 hN H ?_; clear H; intro a w H
            (try refine wpList_nil ?_)
            refine mS ?_
            refine key1 _ _ ⟨_, ?_, rfl, .inr (by rw [← hnb, show gb = false by simpa using hb, if_neg (by decide)]), H.to 1 0 ⟨Nat.le_trans hN (by decide), hR⟩ ⟨rfl, rfl, rfl, rfl, trivial⟩ rfl rfl rfl rfl rfl⟩
            have hgb : gb = false := by simpa using hb
            rw [← hnb, hgb, if_neg (by decide)]; exact .refl _
          · refine mS ?_
            refine key1 _ _ ⟨_, ?_, rfl, .inl rfl, H.to 1 0 ⟨Nat.le_trans hN (by decide), hR⟩ ⟨rfl, rfl, rfl, rfl, trivial⟩ rfl rfl rfl rfl rfl⟩
            have hgb : gb = true := by simpa using hb
            rw [← hnb, if_pos hgb]; exact .nil
        rintro a w ⟨nv, hnv, hlw, hn2, H⟩
        have hse : SeeX [] (.st [.ba kb, .v (.bool gb), nv]) (wrA (kb, gb, nb)) := .st rfl fun i q1 q2 => by
          match i, q1 with
          | 0, _ => exact .refl _
          | 1, _ => exact .refl _
          | 2, _ => exact hnv
        have hwe : wrA (kb, gb, nb) = .st [.ba kb, .v (.bool gb), .bs nb none] := rfl
        replace H := v_seeBox (Xs.nil 0 N w0) H 0 _ hse rfl rfl
        rw [hwe] at H
        simp only [List.set_cons_zero] at H
        clear hse hnv hlw hn2
        have hcl : (out.map wrA).length = out.length := List.length_map ..
        have hgo := wrA_get out
        generalize hcs : out.map wrA = cs at *
        clear hX; have hX := @hcl
        refine mW ?_; clear H; intro a w H
        refine v_loop (fun k : Nat => ⟨[(8, none, .v (.int .i64 (k : Int))), (7, none, .ptr 0 []), (4, none, .v (.int .i64 (i : Int))), (3, none, .sl wrT cs none), (0, none, .sl wrT es none)], [(wrT, .st [.ba kb, .v (.bool gb), .bs nb none])], [], []⟩)
          (fun k => k ≤ out.length ∧ ∀ m (h : m < out.length), m < k → Lib.compareBytes out[m].1 kb < 0) (fun k => out.length - k) 0 ⟨Nat.zero_le _, fun m h hm => absurd hm (by omega)⟩ (H.to 1 0 ⟨Nat.le_trans hN (by decide), hR⟩ ⟨rfl, rfl, rfl, rfl, rfl, trivial⟩ rfl rfl rfl rfl rfl) ?_
        clear H
        rintro k a w ⟨hk1, hk2⟩ H
        (try clear hX)
        revert a w
        apply cutW (R := fun a w => ∃ k : Nat, k ≤ out.length ∧ insR (kb, gb, nb) out = out.take k ++ (kb, gb, nb) :: out.drop k ∧ Rel Try.prog w0 N Try.f8.ntmps ⟨[(8, none, .v (.int .i64 (k : Int))), (7, none, .ptr 0 []), (4, none, .v (.int .i64 (i : Int))), (3, none, .sl wrT cs none), (0, none, .sl wrT es none)], [(wrT, .st [.ba kb, .v (.bool gb), .bs nb none])], [], []⟩ a w)
        intro key2 a w H
        have hX := hcl
        by_cases hkl : k < out.length
        · have hbt : decide ((k : Int) < (out.length : Int)) = true := by rw [decide_eq_true_eq]; omega
          have hgk := hgo k hkl
          have hq32 := ho2 _ (List.getElem_mem hkl)
          have hcm := pcmpR_v out[k].1 kb hq32 hp32
          have hck : ∀ h : k < out.length, Lib.compareBytes out[k].1 kb = Lib.compareBytes out[k].1 kb := fun _ => rfl
          obtain ⟨q, hqe⟩ : ∃ q, out[k] = q := ⟨_, rfl⟩
          rw [hqe] at hgk hq32 hcm
          obtain ⟨kq, gq, vq⟩ := q
          dsimp only at hgk hq32 hcm
          skip
          all_goals
            clear hX; have hX := And.intro @hcl (And.intro @hbt (And.intro @hgk (And.intro @hp32 (@hq32))))
            refine mS ?_; refine mD 1 [12] [] H ?_; clear H; intro gS H
            refine mTN 5 hN H ?_; clear H; intro a w H; simp only [List.drop_succ_cons, List.drop_zero, List.drop_nil]
            refine mTN 3 hN H ?_; clear H; intro a w H; simp only [List.drop_succ_cons, List.drop_zero, List.drop_nil]
            refine mTN 2 hN H ?_; clear H; intro a w H; simp only [List.drop_succ_cons, List.drop_zero, List.drop_nil]
            refine mTN 2 hN H ?_; clear H; intro a w H; simp only [List.drop_succ_cons, List.drop_zero, List.drop_nil]
            refine mCallTG [] [] (hcm) H ?_; clear H; intro a w H
            refine mT ?_; clear H; intro a w H
            refine v_drawNil H ?_; clear H; intro H
            refine mC H (fun hb => ?_) (fun hb => ?_)
            · skip
              clear hX; have hX := @hcl
              refine mW ?_; clear H; intro a w H
              have hlt0 : Lib.compareBytes kq kb < 0 := by simpa using hb
              clear hb
              rw [show (k : Int) + 1 = ((k + 1 : Nat) : Int) by omega] at H
              refine ⟨k + 1, ⟨hkl, fun m h hm => ?_⟩, by omega, H.to 1 0 ⟨Nat.le_trans hN (by decide), hR⟩ ⟨rfl, rfl, rfl, rfl, rfl, trivial⟩ rfl rfl rfl rfl rfl⟩
              rcases Nat.lt_or_ge m k with h3 | h3
              · exact hk2 m h h3
              · have : m = k := by omega
                subst this
                rw [hqe]; exact hlt0
            · have hge0 : ¬ Lib.compareBytes kq kb < 0 := by simpa using hb
              clear hb
              refine mS ?_
              exact key2 _ _ ⟨k, hk1, insR_at (kb, gb, nb) out k hk1 hk2 (fun h => by rw [hqe]; exact hge0), H.to 1 0 ⟨Nat.le_trans hN (by decide), hR⟩ ⟨rfl, rfl, rfl, rfl, rfl, trivial⟩ rfl rfl rfl rfl rfl⟩
        · have hbf : decide ((k : Int) < (out.length : Int)) = false := by rw [decide_eq_false_iff_not]; omega
          skip
          all_goals
            clear hX; have hX := And.intro @hcl (@hbf)
            refine mS ?_; refine mD 1 [12] [] H ?_; clear H; intro gS H
            refine mTN 5 hN H ?_; clear H; intro a w H; simp only [List.drop_succ_cons, List.drop_zero, List.drop_nil]
            refine mSkT .any H ?_; clear H; intro a w H
            refine mSkT .any H ?_; clear H; intro a w H
            refine mSkT .any H ?_; clear H; intro a w H
            refine mSkT .any H ?_; clear H; intro a w H
            refine mSkT .any H ?_; clear H; intro a w H
            refine mSkT .any H ?_; clear H; intro a w H
            refine mSkT .any H ?_; clear H; intro a w H
            refine mSkT .any H ?_; clear H; intro a w H
            refine mSkT (.v (.bool false)) H ?_; clear H; intro a w H
            refine mT ?_; clear H; intro a w H
            refine v_drawNil H ?_; clear H; intro H
            refine mC H (fun hb => ?_) (fun hb => ?_)
            · cases hb
            · clear hb
              refine mS ?_
              exact key2 _ _ ⟨k, hk1, insR_at (kb, gb, nb) out k hk1 hk2 (fun h => absurd h hkl), H.to 1 0 ⟨Nat.le_trans hN (by decide), hR⟩ ⟨rfl, rfl, rfl, rfl, rfl, trivial⟩ rfl rfl rfl rfl rfl⟩
        rintro a w ⟨k, hk1, hins, H⟩
        have hins2 : (insR (kb, gb, nb) out).map wrA = cs.take k ++ [.st [.ba kb, .v (.bool gb), .bs nb none]] ++ cs.drop k := by
          rw [hins, List.map_append, List.map_cons, hwe, ← hcs, List.map_take, List.map_drop]; simp
        have hkk : K32W (insR (kb, gb, nb) out) := fun x hx => by
          rcases List.mem_cons.1 ((insR_perm _ out).mem_iff.1 hx) with rfl | hx
          · exact hp32
          · exact ho2 x hx
        have hil : (insR (kb, gb, nb) out).length = out.length + 1 := by rw [(insR_perm _ out).length_eq]; rfl
        generalize insR (kb, gb, nb) out = out2 at *
        have hc1 : (cs.take k).length = k := by rw [List.length_take]; omega
        have hc2 : (cs.drop k).length = out.length - k := by rw [List.length_drop]; omega
        have hX := hcl
        refine mS ?_
        clear hX; have hX := And.intro @hcl (And.intro @hc1 (@hc2))
        (try refine wp_region_lit ?_); refine mN 1 hN H ?_; clear H; intro a w H
        (try refine wpList_nil ?_)
        replace H := v_nilE tab_ok H 9 37 wrT (j := ti37) rfl (by decide) rfl
        simp only [nilT, reduceIte, Nat.reduceEqDiff, List.length_nil, List.nil_append] at H
        refine mW ?_; clear H; intro a w H
        rw [← hins2] at H
        replace H := v_sub H 3 (x := .sl wrT (out2.map wrA) (some 0)) (y := .sl wrT (out2.map wrA) none) ⟨rfl, rfl⟩ rfl (fun az h => by cases h) rfl
        simp only [nilT, reduceIte, Nat.reduceEqDiff] at H
        rw [show (i : Int) + 1 = ((i + 1 : Nat) : Int) by omega] at H
        exact ⟨i + 1, hlt, by omega, out2, hst.symm, hkk, by omega, H.to 0 0 ⟨hN, hR⟩ ⟨rfl, rfl, rfl, trivial⟩ rfl rfl rfl rfl rfl⟩
  · have hge : i = ws.length := by rw [decide_eq_false_iff_not] at hb; omega
    subst hge
    clear hb
    rw [List.drop_length] at ho1
    rw [← ho1]
    refine mW ?_; clear H; intro a w H
    refine wp_ret ?_; exact mEnd [] [] [.tmp 2] [_] hN hR H
end Go.Proofs.Ytgffimanhmpohaa
/- rootcellarref11.Override. -/
namespace Go.Proofs.Ytgffimanhmpohaa
open Go Go.RowKit
attribute [local irreducible] wpT
set_option maxRecDepth 20000 in
set_option maxHeartbeats 8000000 in
theorem rover_v (ps : List Pr) (ws : List Wr) (hp : K32 ps) (hk : K32W ws) (hv : ∀ p ∈ ps, p.2.length ≤ 34359730000) (hv2 : ∀ w ∈ ws, w.2.2.length ≤ 34359730000) (hl : ps.length ≤ 100000) (hl2 : ws.length ≤ 100000) :
    VC Try.prog 10 [.sl prT (ps.map prA) none, .sl wrT (ws.map wrA) none] [] (.sl prT ((liveW (ovZ ps ws)).map prA) none) := by
  have hpl : (ps.map prA).length = ps.length := List.length_map ..
  have hwl : (ws.map wrA).length = ws.length := List.length_map ..
  have hk2 : K32W (ps.map pwW ++ ws) := fun x hx => by
    rcases List.mem_append.1 hx with hx | hx
    · obtain ⟨p, hp1, rfl⟩ := List.mem_map.1 hx
      exact hp p hp1
    · exact hk x hx
  have hvv : ∀ w ∈ ps.map pwW ++ ws, w.2.2.length ≤ 34359730000 := fun x hx => by
    rcases List.mem_append.1 hx with hx | hx
    · obtain ⟨p, hp1, rfl⟩ := List.mem_map.1 hx
      exact hv p hp1
    · exact hv2 x hx
  have hb0 := rorder_v (ps.map pwW ++ ws) hk2 hvv (by rw [List.length_append, List.length_map]; omega)
  rw [refF_eq _ hk2] at hb0
  have hlw := lstW_len (ps.map pwW ++ ws)
  have hsl : (srtW (lstW (ps.map pwW ++ ws))).length = (lstW (ps.map pwW ++ ws)).length := (srtW_perm _).length_eq
  rw [← hsl] at hlw
  rw [List.map_append] at hb0
  rw [List.length_append, List.length_map] at hlw
  unfold ovZ
  have hzk : K32W (srtW (lstW (ps.map pwW ++ ws))) := (lstW_k32 _ hk2).perm (srtW_perm _)
  generalize srtW (lstW (ps.map pwW ++ ws)) = Z at *
  clear hsl
  refine mE Try.func10 ?_; intro N w0 a w hN hR H
  have hX := And.intro @hpl (@hwl)
  refine mW ?_; clear H; intro a w H
  replace H := v_nilE tab_ok H 5 37 wrT (j := ti37) rfl (by decide) rfl
  simp only [nilT, reduceIte, Nat.reduceEqDiff, List.length_nil, List.nil_append] at H
  refine v_loop (fun k : Nat => ⟨[(6, none, .v (.int .i64 (k : Int))), (5, none, .sl wrT (((ps.take k).map pwW).map wrA) (some 0)), (0, none, .sl prT (ps.map prA) none), (1, none, .sl wrT (ws.map wrA) none)],
    [], [], [(37, k)]⟩) (fun k => k ≤ ps.length) (fun k => ps.length - k) 0 (Nat.zero_le _) (H.to 0 1 ⟨hN, Nat.le_trans hR (Nat.zero_le _)⟩ ⟨rfl, rfl, rfl, rfl, trivial⟩ rfl rfl rfl rfl rfl) ?_
  clear H
  intro k a w hk1 H
  refine mW ?_; clear H; intro a w H
  refine mC H (fun hb => ?_) (fun hb => ?_)
  · have hlt : k < ps.length := by rw [decide_eq_true_eq] at hb; omega
    clear hb
    have g1 := prs_get ps k hlt
    have w1 := hp _ (List.getElem_mem hlt)
    have e1 : ((ps.take (k + 1)).map pwW).map wrA = ((ps.take k).map pwW).map wrA ++ [wrA (pwW ps[k])] := by rw [List.take_succ_eq_append_getElem hlt, List.map_append, List.map_append]; rfl
    have hcl : (((ps.take k).map pwW).map wrA).length = k := by rw [pw_len, List.length_take]; omega
    generalize ps[k] = q at *
    obtain ⟨kb, vb⟩ := q
    dsimp only at g1 w1
    have hwe : wrA (pwW (kb, vb)) = .st [.ba kb, .v (.bool false), .bs vb none] := rfl
    rw [hwe] at e1
    clear hwe
    generalize ((ps.take k).map pwW).map wrA = cs at *
    clear hX; have hX := And.intro @hpl (And.intro @hwl (And.intro @g1 (And.intro @w1 (@hcl))))
    refine mS ?_; refine mD 0 [12, 13] [0] H ?_; clear H; intro gS H
    refine mTN 4 hN H ?_; clear H; intro a w H; simp only [List.drop_succ_cons, List.drop_zero, List.drop_nil]
    refine mTN 4 hN H ?_; clear H; intro a w H; simp only [List.drop_succ_cons, List.drop_zero, List.drop_nil]
    refine mTN 1 hN H ?_; clear H; intro a w H; simp only [List.drop_succ_cons, List.drop_zero, List.drop_nil]
    refine mTN 2 hN H ?_; clear H; intro a w H; simp only [List.drop_succ_cons, List.drop_zero, List.drop_nil]
    refine mTN 1 hN H ?_; clear H; intro a w H; simp only [List.drop_succ_cons, List.drop_zero, List.drop_nil]
    refine mT ?_; clear H; intro a w H
    refine v_drawNil H ?_; clear H; intro H
    refine mW ?_; clear H; intro a w H
    rw [← e1, show (k : Int) + 1 = ((k + 1 : Nat) : Int) by omega] at H
    exact ⟨k + 1, hlt, by omega, H.to 0 1 ⟨hN, Nat.le_trans hR (Nat.zero_le _)⟩ ⟨rfl, rfl, rfl, rfl, trivial⟩ rfl rfl rfl rfl rfl⟩
  · have hge : k = ps.length := by rw [decide_eq_false_iff_not] at hb; omega
    subst hge
    clear hb
    rw [List.take_length] at H
    have hcl := pw_len ps
    generalize (ps.map pwW).map wrA = cs at *
    generalize ws.map wrA = es at *
    refine mS ?_
    clear hX; have hX := And.intro @hcl (@hwl)
    (try refine wp_region_lit ?_); refine mN 4 hN H ?_; clear H; intro a w H
    (try refine wpList_nil ?_)
    refine mS ?_
    (try refine wp_region_lit ?_); refine mN 1 hN H ?_; clear H; intro a w H
    replace H := v_sub H 32 (x := .sl wrT (cs ++ es) (some 0)) (y := .sl wrT (cs ++ es) none) ⟨rfl, rfl⟩ rfl (fun az h => by cases h) rfl
    simp only [nilT, reduceIte, Nat.reduceEqDiff] at H
    refine mCall [] [] (hb0) H ?_; clear H; intro a w H; try refine wpList_nil ?_
    have hzl : (Z.map wrA).length = Z.length := List.length_map ..
    clear hX; have hX := @hzl
    refine mW ?_; clear H; intro a w H
    replace H := mK [5, 7, 8] 0 0 hN hR H
    replace H := v_nilE tab_ok H 7 65 prT (j := ti65) rfl (by decide) rfl
    simp only [nilT, reduceIte, Nat.reduceEqDiff, List.length_nil, List.nil_append] at H
    refine v_loop (fun k : Nat => ⟨[(8, none, .v (.int .i64 (k : Int))), (7, none, .sl prT ((liveW (Z.take k)).map prA) (some 0)), (5, none, .sl wrT (Z.map wrA) none)],
      [], [], [(65, (liveW (Z.take k)).length)]⟩)
      (fun k => k ≤ Z.length) (fun k => Z.length - k) 0 (Nat.zero_le _) (H.to 0 1 ⟨hN, Nat.le_trans hR (Nat.zero_le _)⟩ ⟨rfl, rfl, rfl, trivial⟩ rfl rfl rfl rfl rfl) ?_
    clear H
    intro k a w hk1 H
    refine mW ?_; clear H; intro a w H
    refine mC H (fun hb => ?_) (fun hb => ?_)
    · have hlt : k < Z.length := by rw [decide_eq_true_eq] at hb; omega
      clear hb
      have hg := wrA_get Z k hlt
      have w1 := hzk _ (List.getElem_mem hlt)
      have e1 : liveW (Z.take (k + 1)) = if Z[k].2.1 then liveW (Z.take k) else liveW (Z.take k) ++ [(Z[k].1, Z[k].2.2)] := by rw [List.take_succ_eq_append_getElem hlt, liveW_snoc]
      have hm2 : (liveW (Z.take k)).length ≤ 200000 := by have := liveW_len (Z.take k); rw [List.length_take] at this; omega
      generalize Z[k] = q at *
      obtain ⟨kb, gb, vb⟩ := q
      dsimp only at hg w1 e1
      refine mS ?_
      clear hX; have hX := And.intro @hzl (@hg)
      (try refine wp_region_lit ?_); refine mN 3 hN H ?_; clear H; intro a w H
      refine mW ?_; clear H; intro a w H
      refine mC H (fun hb => ?_) (fun hb => ?_)
      · have hgb : gb = false := by simpa using hb
        subst hgb
        clear hb
        rw [if_neg (by decide)] at e1
        have hcl : ((liveW (Z.take k)).map prA).length = (liveW (Z.take k)).length := List.length_map ..
        have e2 : (liveW (Z.take (k + 1))).map prA = (liveW (Z.take k)).map prA ++ [.st [.ba kb, .bs vb none]] := by rw [e1, List.map_append]; rfl
        have l1 : (liveW (Z.take (k + 1))).length = (liveW (Z.take k)).length + 1 := by rw [e1, List.length_append]; rfl
        generalize (liveW (Z.take k)).map prA = o at *
        generalize (liveW (Z.take k)).length = m at *
        clear hX; have hX := And.intro @hzl (And.intro @hg (And.intro @w1 (@hcl)))
        refine mS ?_; refine mD 0 [12, 13] [0] H ?_; clear H; intro gS H
        refine mTN 4 hN H ?_; clear H; intro a w H; simp only [List.drop_succ_cons, List.drop_zero, List.drop_nil]
        refine mTN 4 hN H ?_; clear H; intro a w H; simp only [List.drop_succ_cons, List.drop_zero, List.drop_nil]
        refine mTN 1 hN H ?_; clear H; intro a w H; simp only [List.drop_succ_cons, List.drop_zero, List.drop_nil]
        refine mTN 2 hN H ?_; clear H; intro a w H; simp only [List.drop_succ_cons, List.drop_zero, List.drop_nil]
        refine mTN 1 hN H ?_; clear H; intro a w H; simp only [List.drop_succ_cons, List.drop_zero, List.drop_nil]
        refine mT ?_; clear H; intro a w H
        refine v_drawNil H ?_; clear H; intro H
        refine mW ?_; clear H; intro a w H
        rw [← e2, ← l1, show (k : Int) + 1 = ((k + 1 : Nat) : Int) by omega] at H
        exact ⟨k + 1, hlt, by omega, H.to 0 1 ⟨hN, Nat.le_trans hR (Nat.zero_le _)⟩ ⟨rfl, rfl, rfl, trivial⟩ rfl rfl rfl rfl rfl⟩
      · have hgb : gb = true := by simpa using hb
        subst hgb
        clear hb
        rw [if_pos rfl] at e1
        clear hX; have hX := @hzl
        refine mW ?_; clear H; intro a w H
        rw [show (k : Int) + 1 = ((k + 1 : Nat) : Int) by omega] at H
        exact ⟨k + 1, hlt, by omega, H.to 0 1 ⟨hN, Nat.le_trans hR (Nat.zero_le _)⟩ ⟨rfl, by rw [e1]; rfl, rfl, trivial⟩ rfl (by rw [e1]; rfl) rfl rfl rfl⟩
    · have hge : k = Z.length := by rw [decide_eq_false_iff_not] at hb; omega
      subst hge
      clear hb
      rw [List.take_length] at H
      refine mW ?_; clear H; intro a w H
      replace H := v_sub H 4 (x := .sl prT ((liveW Z).map prA) (some 0)) (y := .sl prT ((liveW Z).map prA) none) ⟨rfl, rfl⟩ rfl (fun az h => by cases h) rfl
      simp only [nilT, reduceIte, Nat.reduceEqDiff] at H
      refine wp_ret ?_; exact mEnd [] [] [.tmp 4] [_] hN hR H
end Go.Proofs.Ytgffimanhmpohaa
/- Entries that are lent, their values on their own; kept. -/
namespace Go.Proofs.Ytgffimanhmpohaa
open Go Go.RowKit
/-- The lent entries with their two spare ones. -/
def lpX (l : List Pr) (X : List XR) : List AV := pxs l X ++ List.replicate 2 zeroP
theorem lpX_len (l : List Pr) (X : List XR) (h : X.length = l.length) : (lpX l X).length = l.length + 2 := by unfold lpX; rw [List.length_append, pxs_len _ _ h, List.length_replicate]
/-- How far the copy has come. -/
def lpK (l : List Pr) (k : Nat) (X : List XR) : List AV := pxs (l.take k) X ++ List.replicate (l.length + 2 - k) zeroP
theorem lpK_len (l : List Pr) (k : Nat) (X : List XR) (h : k ≤ l.length) (hX : X.length = k) : (lpK l k X).length = l.length + 2 := by
  unfold lpK
  rw [List.length_append, pxs_len _ _ (by rw [List.length_take]; omega), List.length_take, List.length_replicate]; omega
theorem lpK_set (l : List Pr) (k : Nat) (X : List XR) (h : k < l.length) (hX : X.length = k) (x : XR) : (lpK l k X).set k (.st [.ba l[k].1, .v x.v]) = lpK l (k + 1) (X ++ [x]) := by
  unfold lpK
  have h1 : X.length = (l.take k).length := by rw [List.length_take]; omega
  have h2 : (pxs (l.take k) X).length = k := by rw [pxs_len _ _ h1, List.length_take]; omega
  obtain ⟨q, hq⟩ : ∃ q, l.length + 2 - k = q + 1 := ⟨l.length + 1 - k, by omega⟩
  rw [hq, show l.length + 2 - (k + 1) = q by omega, List.take_succ_eq_append_getElem h, pxs_snoc _ _ h1, List.replicate_succ]
  rw [List.set_append_right _ _ (by omega), h2, Nat.sub_self]
  simp
theorem lpK_all (l : List Pr) (X : List XR) : lpK l l.length X = lpX l X := by
  unfold lpK lpX
  rw [List.take_length, show l.length + 2 - l.length = 2 by omega]
theorem lpX_lent {X Y : List XR} {l : List Pr} (h : XTL X (l.map (·.2))) (hY : ∀ x ∈ X, x ∈ Y) {T : Ty} {n : Nat} : SeeX Y (.slc T (lpX l X) n) (.slc T (lentPs l) n) := by
  have hl : X.length = l.length := by have := h.1; rwa [List.length_map] at this
  have hpl := pxs_len l X hl
  refine .slc (by rw [lpX_len l X hl, lentPs_len]) fun i h1 h2 => ?_
  have h3 : i < l.length + 2 := by rwa [lentPs_len] at h2
  by_cases hi : i < l.length
  · have e1 : (lpX l X)[i] = .st [.ba l[i].1, .v (X[i]'(by omega)).v] := by simp [lpX, pxs, List.getElem_append, hi, hl]
    have e2 : (lentPs l)[i] = lentA l[i] := by simp [lentPs, List.getElem_append, hi]
    have hx := h.2 i (by omega) (by rw [List.length_map]; exact hi)
    rw [List.getElem_map] at hx
    rw [e1, e2]
    unfold lentA
    refine .st rfl fun k k1 k2 => ?_
    match k, k1 with
    | 0, _ => exact .refl _
    | 1, _ => exact lentX_seeC (hY _ (List.getElem_mem _)) hx
  · have hz : ∀ j (h : j < [zeroP, zeroP].length), [zeroP, zeroP][j] = zeroP := fun j h => by
      match j, h with
      | 0, _ => rfl
      | 1, _ => rfl
    have e1 : (lpX l X)[i] = zeroP := by simp [lpX, List.getElem_append, hpl, hi]; exact hz _ _
    have e2 : (lentPs l)[i] = zeroP := by simp [lentPs, List.getElem_append, hi]; exact hz _ _
    rw [e1, e2]
    exact .refl _
theorem lentA_sub2 (l : List Pr) (k : Nat) (h1 : k < (l.map prA).length) : sub 3 ((lentPs l)[k]'(by rw [lentPs_len]; rw [List.length_map] at h1; omega)) (l.map prA)[k] := by
  have h2 : k < l.length := by simpa using h1
  have e1 : (lentPs l)[k]'(by rw [lentPs_len]; omega) = lentA l[k] := by simp [lentPs, List.getElem_append, h2]
  rw [e1, List.getElem_map]
  exact ⟨rfl, by simp [sub, lentOf], trivial⟩
attribute [local irreducible] wpT
set_option maxRecDepth 20000 in
set_option maxHeartbeats 8000000 in
theorem lentP_E (l : List Pr) (hk : K32 l) (hv : ∀ p ∈ l, p.2.length ≤ 34359730000) (hl : l.length ≤ 1048576) :
    VE Try.prog 5 [.sl prT (l.map prA) none] (fun X bx' rw' res => bx' = [] ∧ rw' = [] ∧ res = .slc prT (lpX l X) l.length ∧ XTL X (l.map (·.2))) := by
  have hlm : (l.map prA).length = l.length := List.length_map ..
  refine v_enterE Try.func5 rfl (by kernel_rfl) (by show 1 ≤ 33; decide) ?_
  intro N w0 a w hN hR H
  have hM : N.bx.length ≤ 0 ∧ N.rw.length ≤ 0 := ⟨hN, hR⟩
  refine mS ?_
  have hX := @hlm
  (try refine wp_region_lit ?_); refine mN 1 hN H ?_; clear H; intro a w H
  refine mS ?_
  (try refine wpList_nil ?_)
  refine mS ?_
  (try refine wp_region_lit ?_); refine mN 5 hN H ?_; clear H; intro a w H
  have hi2 : ((l.length : Int) + 2) = ((l.length + 2 : Nat) : Int) := by omega
  rw [hi2] at H
  refine v_mkC l.length (l.length + 2) tab_ok (i := ti22) (j := ti65) rfl rfl rfl (by decide) H (by omega) (by simp; omega) (by simp only [maxLen]; omega) ?_; clear H; intro a w H
  replace H := nf H
  refine mW ?_; clear H; intro a w H
  replace H := v_sub H 3 (x := .vwc 0 0 l.length (l.length + 2)) (y := .vw 0 0 l.length) (by exact ⟨rfl, rfl, rfl⟩) rfl (fun _ e => by cases e) rfl
  simp only [nilT, reduceIte, Nat.reduceEqDiff] at H
  refine v_loopI (fun k a w => ∃ X : List XR, XTL X ((l.take k).map (·.2)) ∧ RelX w0.heap.size Try.prog w0 N Try.f5.ntmps ⟨[(4, none, .v (.int .i64 (k : Int))), (3, none, .vw 0 0 l.length), (10, none, .vwc 0 0 l.length (l.length + 2)), (0, none, .sl prT (l.map prA) none)],
    [(.vc 65 prT, .vc 0 (lpK l k X))], [], []⟩ X a w)
    (fun k => k ≤ l.length) (fun k => l.length - k) 0 (Nat.zero_le _) ⟨[], XTL.nil, Rel.toX (by exact H.to 1 0 ⟨Nat.le_trans hN (Nat.zero_le _), Nat.le_trans hR (Nat.zero_le _)⟩ ⟨rfl, rfl, rfl, rfl, trivial⟩ (by simp [lpK, pxs]; rfl) rfl rfl rfl rfl) _⟩ ?_
  clear H hN hR
  rintro k a w1 hk1 ⟨X, hT, H⟩
  obtain ⟨N1, hB, hZ, H, hN1, hR1⟩ := H.open_
  have hN : N1.bx.length ≤ 1 := Nat.le_of_eq hN1
  have hR : N1.rw.length ≤ 0 := Nat.le_of_eq hR1
  clear hN1 hR1
  have hXl : X.length = k := by have := hT.1; rw [List.length_map, List.length_take] at this; omega
  have hll := lpK_len l k X hk1 hXl
  clear hX; have hX := And.intro @hlm (@hll)
  refine mW ?_; clear H; intro a w H
  refine mC H (fun hb => ?_) (fun hb => ?_)
  · have hlt : k < l.length := by rw [decide_eq_true_eq] at hb; omega
    clear hb
    have hg := prs_get l k hlt
    have w1 := hk _ (List.getElem_mem hlt)
    have hle := lent_E l[k].2 (by have := hv _ (List.getElem_mem hlt); omega)
    have hst := lpK_set l k X hlt hXl
    have htk : (l.take (k + 1)).map (·.2) = (l.take k).map (·.2) ++ [l[k].2] := by rw [List.take_succ_eq_append_getElem hlt, List.map_append]; rfl
    generalize l[k] = q at *
    obtain ⟨kb, vb⟩ := q
    dsimp only at hg w1 hle hst htk
    generalize hLE : lpK l k X = LE at *
    clear hX; have hX := And.intro @hlm (And.intro @hg (@hll))
    have hY := @w1
    refine mS ?_; refine mD 0 [12, 15] [0, 1, 2, 3, 4, 5, 6] H ?_; clear H; intro gS H
    refine mTN 5 hN H ?_; clear H; intro a w H; simp only [List.drop_succ_cons, List.drop_zero, List.drop_nil]
    refine mTN 2 hN H ?_; clear H; intro a w H; simp only [List.drop_succ_cons, List.drop_zero, List.drop_nil]
    refine mTN 3 hN H ?_; clear H; intro a w H; simp only [List.drop_succ_cons, List.drop_zero, List.drop_nil]
    refine mTN 2 hN H ?_; clear H; intro a w H; simp only [List.drop_succ_cons, List.drop_zero, List.drop_nil]
    refine v_callET hle hB (Nat.le_refl _) hZ H (by rintro Y bx' rw' res ⟨rfl, rfl, x, rfl, rfl, _⟩; exact ⟨rfl, rfl⟩) ?_
    clear H
    rintro Y bx' rw' res a w ⟨rfl, rfl, x, rfl, rfl, hx⟩ H
    replace H := nfXT H
    clear hB hZ hN hR
    obtain ⟨N2, hB, hZ, H, hN2, hR2⟩ := H.open_
    have hN : N2.bx.length ≤ 1 := Nat.le_of_eq hN2
    have hR : N2.rw.length ≤ 0 := Nat.le_of_eq hR2
    clear hN2 hR2
    refine mTN 1 hN H ?_; clear H; intro a w H; simp only [List.drop_succ_cons, List.drop_zero, List.drop_nil]
    refine mTN 1 hN H ?_; clear H; intro a w H; simp only [List.drop_succ_cons, List.drop_zero, List.drop_nil]
    refine mT ?_; clear H; intro a w H
    refine v_drawNil H ?_; clear H; intro H
    rw [hst] at H
    clear hX; have hX := @hlm
    clear hY
    refine mW ?_; clear H; intro a w H
    rw [show (k : Int) + 1 = ((k + 1 : Nat) : Int) by omega] at H
    exact ⟨k + 1, hlt, by omega, X ++ [x], by rw [htk]; exact hT.snoc hx, (RelX.close hB hZ H).to 1 0 ⟨Nat.le_trans hM.1 (Nat.zero_le _), hM.2⟩ ⟨rfl, rfl, rfl, rfl, trivial⟩ rfl rfl rfl rfl rfl⟩
  · have hge : k = l.length := by rw [decide_eq_false_iff_not] at hb; omega
    subst hge
    clear hb
    rw [List.take_length] at hT
    rw [lpK_all] at H hll
    clear hX; have hX := @hlm
    refine mW ?_; clear H; intro a w H
    replace H := RelX.close hB hZ H
    clear hB hZ hN hR
    replace H := H.frzC (n := l.length) 2 10 0 hM.1 rfl (by omega) hll rfl rfl
    simp only [nilT, reduceIte, Nat.reduceEqDiff] at H
    obtain ⟨N1, hB, hZ, H, hN1, hR1⟩ := H.open_
    have hN : N1.bx.length ≤ 1 := Nat.le_of_eq hN1
    have hR : N1.rw.length ≤ 0 := Nat.le_of_eq hR1
    clear hN1 hR1
    replace H := nf H
    refine wp_ret ?_
    exact v_endE (bx' := []) (rs := [.tmp 2]) (ress := [_]) (nb := 0) (nr := 0) [] [] tab_ok hM rfl (RelX.close hB hZ H) (by rfl) (by rfl) cbX (by rfl) ⟨sub_refl _ _, trivial⟩ rfl ⟨rfl, rfl, rfl, hT⟩
end Go.Proofs.Ytgffimanhmpohaa
/- The values of several lists of entries, each on its own. -/
namespace Go.Proofs.Ytgffimanhmpohaa
open Go Go.RowKit
abbrev LPX := List (List Pr × List XR)
def xfl (L : LPX) : List XR := (L.map (·.2)).flatten
def lpx (L : LPX) : List AV := L.map fun q => .sl prT (pxs q.1 q.2) none
theorem xfl_step (L : LPX) (i : Nat) (h : i < L.length) : xfl (L.take (i + 1)) = xfl (L.take i) ++ L[i].2 := by
  unfold xfl
  rw [List.take_succ_eq_append_getElem h, List.map_append, List.flatten_append]; simp
theorem xfl_le (L : LPX) (i : Nat) : (xfl (L.take i)).length ≤ (xfl L).length := by
  conv => rhs; rw [← List.take_append_drop i L]
  unfold xfl
  rw [List.map_append, List.flatten_append, List.length_append]; omega
theorem lpx_get (L : LPX) (i : Nat) (h : i < L.length) : (lpx L).getD i .any = .sl prT (pxs L[i].1 L[i].2) none := by simp [lpx, List.getD_eq_getElem?_getD, h]
theorem vasX_snoc (l : List XR) (x : XR) : vas ((l ++ [x]).map XR.v) = vas (l.map XR.v) ++ [.v x.v] := by simp [vas]
attribute [local irreducible] wpT
set_option maxRecDepth 20000 in
set_option maxHeartbeats 4000000 in
/-- The values of lists of entries. -/
theorem valuesM_v (L : LPX) (hL : ∀ q ∈ L, q.2.length = q.1.length) (hl : L.length ≤ 100000) (hxl : (xfl L).length ≤ 1000000) :
    VX Try.prog 16 [] [] [] [.sl .sc (lpx L) none] [(.vc 35 .sc, .vc (xfl L).length (vas ((xfl L).map XR.v)))] [] [] (.vw 0 (xfl L).length (xfl L).length) := by
  have hpl : (lpx L).length = L.length := List.length_map ..
  have hgo := lpx_get L
  generalize lpx L = es at *
  refine mE Try.func16 ?_; intro N w0 a w hN hR H
  have hX := @hpl
  refine mW ?_; clear H; intro a w H
  replace H := v_nilV tab_ok H 3 35 (j := ti35) rfl (by decide) rfl
  simp only [nilT, reduceIte, Nat.reduceEqDiff, List.length_nil, List.nil_append] at H
  refine v_loop (fun i : Nat => ⟨[(4, none, .v (.int .i64 (i : Int))), (3, none, .vw 0 (xfl (L.take i)).length (xfl (L.take i)).length), (2, none, .v (.slice none 0 0)), (0, none, .sl .sc es none)],
    [(.vc 35 .sc, .vc (xfl (L.take i)).length (vas ((xfl (L.take i)).map XR.v)))], [], []⟩) (fun i => i ≤ L.length) (fun i => L.length - i) 0 (Nat.zero_le _)
    (H.to 1 0 ⟨Nat.le_trans hN (Nat.zero_le _), hR⟩ ⟨rfl, rfl, rfl, rfl, trivial⟩ rfl rfl rfl rfl rfl) ?_
  clear H
  intro i a w hi H
  refine mW ?_; clear H; intro a w H
  refine mC H (fun hb => ?_) (fun hb => ?_)
  · have hlt : i < L.length := by rw [decide_eq_true_eq] at hb; omega
    clear hb
    have hgi := hgo i hlt
    have hst := xfl_step L i hlt
    have hle := xfl_le L (i + 1)
    have hqq := hL _ (List.getElem_mem hlt)
    rw [hst] at hle
    have hfin : ∀ k, (xfl (L.take i) ++ L[i].2).length = k → True := fun _ _ => trivial
    generalize xfl (L.take i) = F at *
    obtain ⟨m, hm⟩ : ∃ m, m = F.length := ⟨_, rfl⟩
    rw [← hm] at H
    obtain ⟨Z, hZ⟩ : ∃ Z, Z = L[i].1 := ⟨_, rfl⟩
    obtain ⟨X, hXX⟩ : ∃ X, X = L[i].2 := ⟨_, rfl⟩
    rw [← hZ, ← hXX] at hgi hqq
    rw [← hXX] at hle hst
    have hzl := pxs_len Z X hqq
    have hgt := pxs_get Z X hqq
    generalize pxs Z X = ps at *
    refine mS ?_
    clear hX; have hX := And.intro @hpl (And.intro @hgi (@hzl))
    replace H := mK [0, 2, 3, 4] 1 0 hN hR H
    refine mW ?_; clear H; intro a w H
    rw [List.length_append, ← hm] at hle
    refine v_loop (fun k : Nat => ⟨[(5, none, .v (.int .i64 (k : Int))), (4, none, .v (.int .i64 (i : Int))), (3, none, .vw 0 (m + k) (m + k)), (2, none, .v (.slice none 0 0)), (0, none, .sl .sc es none)],
      [(.vc 35 .sc, .vc (m + k) (vas ((F ++ X.take k).map XR.v)))], [], []⟩) (fun k => k ≤ Z.length) (fun k => Z.length - k) 0 (Nat.zero_le _)
      (H.to 1 0 ⟨Nat.le_trans hN (Nat.zero_le _), hR⟩ ⟨rfl, rfl, rfl, rfl, rfl, trivial⟩ (by simp) rfl rfl rfl rfl) ?_
    clear H
    intro k a w hk H
    have hvl : (vas ((F ++ X.take k).map XR.v)).length = m + k := by rw [vas_len, List.length_map, List.length_append, List.length_take]; omega
    clear hX; have hX := And.intro @hpl (And.intro @hgi (And.intro @hzl (@hvl)))
    refine mW ?_; clear H; intro a w H
    refine mC H (fun hb => ?_) (fun hb => ?_)
    · have hkt : k < Z.length := by rw [decide_eq_true_eq] at hb; omega
      clear hb
      have hg := hgt k hkt
      have hkx : k < X.length := by omega
      have e2 : vas ((F ++ X.take (k + 1)).map XR.v) = vas ((F ++ X.take k).map XR.v) ++ [.v X[k].v] := by
        rw [List.take_succ_eq_append_getElem hkx, ← List.append_assoc, vasX_snoc]
      generalize X[k]'(by omega) = x at *
      generalize Z[k] = z at *
      refine mS ?_
      clear hX; have hX := And.intro @hpl (And.intro @hgi (And.intro @hzl (And.intro @hvl (@hg))))
      replace H := mK [0, 2, 3, 4, 5] 1 0 hN hR H
      (try refine wp_region_lit ?_); refine mN 4 hN H ?_; clear H; intro a w H
      (try refine wp_region_lit ?_); refine mN 3 hN H ?_; clear H; intro a w H
      refine mW ?_; clear H; intro a w H
      rw [List.take_of_length_le (Nat.le_of_eq hvl), ← e2, show (k : Int) + 1 = ((k + 1 : Nat) : Int) by omega] at H
      exact ⟨k + 1, hkt, by omega, H.to 1 0 ⟨Nat.le_trans hN (Nat.zero_le _), hR⟩ ⟨rfl, rfl, rfl, rfl, rfl, trivial⟩ rfl rfl rfl rfl rfl⟩
    · have hge : k = X.length := by rw [decide_eq_false_iff_not] at hb; omega
      clear hb
      subst hge
      rw [List.take_length, ← hst] at H
      have hml : m + X.length = (xfl (L.take (i + 1))).length := by rw [hst, List.length_append]; omega
      rw [hml] at H hvl
      refine mW ?_; clear H; intro a w H
      rw [show (i : Int) + 1 = ((i + 1 : Nat) : Int) by omega] at H
      exact ⟨i + 1, hlt, by omega, H.to 1 0 ⟨Nat.le_trans hN (Nat.zero_le _), hR⟩ ⟨rfl, rfl, rfl, rfl, trivial⟩ rfl rfl rfl rfl rfl⟩
  · have h1 : i = L.length := by rw [decide_eq_false_iff_not] at hb; omega
    subst h1
    clear hb
    rw [List.take_length] at H
    refine mW ?_; clear H; intro a w H
    refine wp_ret ?_; exact mEnd [0] [] [.tmp 2] [_] hN hR H
end Go.Proofs.Ytgffimanhmpohaa
/- Writes seen as they are; lists of slices put in turn. -/
namespace Go.Proofs.Ytgffimanhmpohaa
open Go Go.RowKit
theorem wxs_see {X Y : List XR} {ws : List Wr} (h : XL X (ws.map (·.2.2))) (hY : ∀ x ∈ X, x ∈ Y) {T : Ty} {tok : Option Nat} : SeeX Y (.sl T (wxs ws X) tok) (.sl T (ws.map wrA) none) := by
  have hl : X.length = ws.length := by have := h.1; rwa [List.length_map] at this
  refine .sl (by rw [wxs_len ws X hl, List.length_map]) fun i h1 h2 => ?_
  have h1' : i < ws.length := by rwa [wxs_len ws X hl] at h1
  have hx := h.2 i (by omega) (by rw [List.length_map]; exact h1')
  rw [List.getElem_map] at hx
  rw [wxs_at ws X hl i h1 h1' (by omega), List.getElem_map]
  have hs := hx.see (hY _ (List.getElem_mem (show i < X.length by omega)))
  refine .st rfl fun k k1 k2 => ?_
  match k, k1 with
  | 0, _ => exact .refl _
  | 1, _ => exact .refl _
  | 2, _ => exact hs
theorem wxs_seeT {X Y : List XR} {ws : List Wr} (h : XTL X (ws.map (·.2.2))) (hY : ∀ x ∈ X, x ∈ Y) {T : Ty} {tok : Option Nat} : SeeX Y (.sl T (wxs ws X) tok) (.sl T (ws.map wrA) none) := by
  have hl : X.length = ws.length := by have := h.1; rwa [List.length_map] at this
  refine .sl (by rw [wxs_len ws X hl, List.length_map]) fun i h1 h2 => ?_
  have h1' : i < ws.length := by rwa [wxs_len ws X hl] at h1
  have hx := h.2 i (by omega) (by rw [List.length_map]; exact h1')
  rw [List.getElem_map] at hx
  rw [wxs_at ws X hl i h1 h1' (by omega), List.getElem_map]
  have hs := lentX_see (hY _ (List.getElem_mem (show i < X.length by omega))) hx
  refine .st rfl fun k k1 k2 => ?_
  match k, k1 with
  | 0, _ => exact .refl _
  | 1, _ => exact .refl _
  | 2, _ => exact hs
theorem wxs_get (ws : List Wr) (X : List XR) (h : X.length = ws.length) (i : Nat) (hi : i < ws.length) : (wxs ws X).getD i .any = .st [.ba ws[i].1, .v (.bool ws[i].2.1), .v (X[i]'(by omega)).v] := by
  rw [List.getD_eq_getElem?_getD, List.getElem?_eq_getElem (by rw [wxs_len ws X h]; exact hi)]
  simp [wxs]
theorem Xs.permX {lo : Nat} {g : Gh} {w : World} {X Y : List XR} (h : Xs lo g w X) (p : X.Perm Y) : Xs lo g w Y := by
  refine ⟨fun x hx => h.ok x (p.mem_iff.2 hx), ?_⟩
  have hu := h.un
  unfold XApart at hu ⊢
  refine (p.pairwise_iff ?_).1 hu
  intro x y hxy
  rcases hxy with e | e
  · cases hy : y.A with
    | none => exact .inl rfl
    | some b => exact .inr (by rw [e]; rintro ⟨⟩)
  · exact .inr fun e2 => e e2.symm
/-- Two lists, in turn. -/
def intr : List XR → List XR → List XR
  | a :: A, b :: B => a :: b :: intr A B
  | _, _ => []
theorem intr_snoc : ∀ (A B : List XR) (a b : XR), A.length = B.length → intr (A ++ [a]) (B ++ [b]) = intr A B ++ [a, b]
  | [], [], a, b, _ => rfl
  | x :: A, y :: B, a, b, h => by
    show x :: y :: intr (A ++ [a]) (B ++ [b]) = x :: y :: (intr A B ++ [a, b])
    rw [intr_snoc A B a b (by simpa using h)]
  | [], _ :: _, _, _, h => by simp at h
  | _ :: _, [], _, _, h => by simp at h
theorem intr_len : ∀ (A B : List XR), A.length = B.length → (intr A B).length = 2 * A.length
  | [], [], _ => rfl
  | x :: A, y :: B, h => by
    show (intr A B).length + 1 + 1 = 2 * (A.length + 1)
    rw [intr_len A B (by simpa using h)]; omega
  | [], _ :: _, h => by simp at h
  | _ :: _, [], h => by simp at h
theorem intr_perm : ∀ (A B : List XR), A.length = B.length → (intr A B).Perm (A ++ B)
  | [], [], _ => List.Perm.refl _
  | x :: A, y :: B, h => by
    show (x :: y :: intr A B).Perm (x :: (A ++ y :: B))
    exact .cons x ((List.Perm.cons y (intr_perm A B (by simpa using h))).trans List.perm_middle.symm)
  | [], _ :: _, h => by simp at h
  | _ :: _, [], h => by simp at h
theorem intr_step (A B : List XR) (h : A.length = B.length) (k : Nat) (hk : k < A.length) (hk2 : k < B.length) : intr (A.take (k + 1)) (B.take (k + 1)) = intr (A.take k) (B.take k) ++ [A[k], B[k]] := by
  rw [List.take_succ_eq_append_getElem hk, List.take_succ_eq_append_getElem hk2]
  exact intr_snoc _ _ _ _ (by rw [List.length_take, List.length_take]; omega)
theorem lstW_val {n : Nat} (ws : List Wr) : (∀ w ∈ ws, w.2.2.length ≤ n) → ∀ w ∈ lstW ws, w.2.2.length ≤ n := by
  refine rev_indW (p := fun ws => (∀ w ∈ ws, w.2.2.length ≤ n) → ∀ w ∈ lstW ws, w.2.2.length ≤ n) (fun _ x hx => by cases hx) (fun ws w ih h x hx => ?_) ws
  rw [lstW_snoc] at hx
  rcases putW_mem hx with e | e
  · rw [e]
    have := h w (List.mem_append_right _ List.mem_cons_self)
    unfold nzW
    dsimp only
    split
    · exact Nat.zero_le _
    · exact this
  · exact ih (fun y hy => h y (List.mem_append_left _ hy)) x e
theorem liveW_mem : ∀ (l : List Wr) (p : Pr), p ∈ liveW l → ∃ w ∈ l, w.1 = p.1 ∧ w.2.2 = p.2
  | [], p, h => by cases h
  | w :: l, p, h => by
    unfold liveW at h
    split at h
    · obtain ⟨x, h1, h2⟩ := liveW_mem l p h
      exact ⟨x, List.mem_cons_of_mem _ h1, h2⟩
    · rcases List.mem_cons.1 h with rfl | h
      · exact ⟨w, List.mem_cons_self, rfl, rfl⟩
      · obtain ⟨x, h1, h2⟩ := liveW_mem l p h
        exact ⟨x, List.mem_cons_of_mem _ h1, h2⟩
end Go.Proofs.Ytgffimanhmpohaa
/- No lists share memory: ApartBytes of none. -/
namespace Go.Proofs.Ytgffimanhmpohaa
open Go Go.RowKit
set_option maxRecDepth 20000 in
theorem apartN_v : VC Try.prog 17 [.sl .sc [] none] [] (.v (.bool true)) := by
  refine mE Try.func17 ?_; intro N w0 a w hN hR H
  refine mW ?_; clear H; intro a w H
  refine v_loop (fun i : Nat => ⟨[(3, none, .v (.int .i64 0)), (0, none, .sl .sc [] none)], [], [], []⟩) (fun i => i ≤ 0) (fun i => i) 0 (Nat.zero_le _)
    (H.to 0 0 ⟨hN, hR⟩ ⟨rfl, rfl, trivial⟩ rfl rfl rfl rfl rfl) ?_
  clear H
  intro i a w hi H
  refine mW ?_; clear H; intro a w H
  refine mC H (fun hb => ?_) (fun hb => ?_)
  · exact absurd hb (by decide)
  · refine mW ?_; clear H; intro a w H
    refine wp_ret ?_; exact mEnd [] [] [.tmp 2] [_] hN hR H
end Go.Proofs.Ytgffimanhmpohaa
