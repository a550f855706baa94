/- Roots of entries at a depth; entries that rise part where their bit does. In plain Lean. -/
import Derived.Test.YtpeefeioccglcaaWayP
import Derived.Test.YtpeefeioccglcaaLeaf
set_option linter.unusedSimpArgs false
set_option linter.unusedVariables false
namespace Go.Proofs.Ytpeefeioccglcaa
open Go Go.RowKit
abbrev En := List UInt8 × List UInt8
def base (l : List En) : List UInt8 := match l with
  | [] => sum [0]
  | x :: _ => leafH x.1 x.2
def half (b : Bool) (d : Nat) (l : List En) : List En := l.filter fun x => bitN x.1 d == b
def rootA : Nat → Nat → List En → List UInt8
  | 0, _, l => base l
  | f + 1, d, l => if l.length < 2 then base l else innerH (rootA f (d + 1) (half false d l)) (rootA f (d + 1) (half true d l))
theorem rootA_len : ∀ f d l, (rootA f d l).length = 32
  | 0, _, [] => sum_length _
  | 0, _, _ :: _ => leafH_len _ _
  | f + 1, d, l => by
    unfold rootA
    split
    · exact rootA_len 0 d l
    · exact innerH_len _ _
theorem rootA_small (f d : Nat) (l : List En) (h : l.length < 2) : rootA f d l = base l := by
  cases f with
  | zero => rfl
  | succ f => rw [rootA, if_pos h]
/-- Unlike keys that share their first d bits. -/
def Sep (d : Nat) (l : List En) : Prop := l.Pairwise fun x y => agree d x.1 y.1 ∧ ¬ agree 256 x.1 y.1
theorem Sep.side {d : Nat} {l : List En} (h : Sep d l) (b : Bool) : Sep (d + 1) (half b d l) := by
  unfold Sep half
  have h2 : (l.filter fun x => bitN x.1 d == b).Pairwise fun x y => agree d x.1 y.1 ∧ ¬ agree 256 x.1 y.1 := h.filter _
  refine List.Pairwise.imp_of_mem (fun {x y} hx hy hp => ⟨fun t ht => ?_, hp.2⟩) h2
  by_cases h1 : t < d
  · exact hp.1 t h1
  · rw [show t = d by omega]
    have e1 : bitN x.1 d = b := by simpa using (List.mem_filter.1 hx).2
    have e2 : bitN y.1 d = b := by simpa using (List.mem_filter.1 hy).2
    rw [e1, e2]
theorem Sep.deep {d : Nat} {l : List En} (h : Sep d l) (hd : 256 ≤ d) : l.length < 2 := by
  match l, h with
  | [], _ => simp
  | [_], _ => simp
  | x :: y :: l, h =>
    exfalso
    have := (List.pairwise_cons.1 h).1 y List.mem_cons_self
    exact this.2 fun t ht => this.1 t (by omega)
/-- Keys that rise and share their first d bits. -/
def Rise (d : Nat) (l : List En) : Prop := l.Pairwise fun x y => agree d x.1 y.1 ∧ ltB x.1 y.1
theorem Rise.sep {d : Nat} {l : List En} (h : Rise d l) : Sep d l := List.Pairwise.imp (fun {x y} hp => ⟨hp.1, fun ha => by
  obtain ⟨c, hc, _, h2, h3⟩ := hp.2
  rw [ha c hc, h3] at h2; cases h2⟩) h
theorem Rise.side {d : Nat} {l : List En} (h : Rise d l) (b : Bool) : Rise (d + 1) (half b d l) := by
  have h1 := h.sep.side b
  have h2 : (half b d l).Pairwise fun x y => agree d x.1 y.1 ∧ ltB x.1 y.1 := h.filter _
  exact List.Pairwise.imp₂ (fun x y p q => ⟨q.1, p.2⟩) h2 h1
/-- How many entries have the bit 0. -/
def partN (d : Nat) (l : List En) : Nat := (l.takeWhile fun x => !bitN x.1 d).length
theorem Rise.part {d : Nat} (hd : d < 256) : ∀ {l : List En}, Rise d l → half false d l = l.take (partN d l) ∧ half true d l = l.drop (partN d l)
  | [], _ => ⟨rfl, rfl⟩
  | x :: l, h => by
    obtain ⟨h1, h2⟩ := List.pairwise_cons.1 h
    obtain ⟨e1, e2⟩ := Rise.part hd h2
    cases hb : bitN x.1 d
    · have e : partN d (x :: l) = partN d l + 1 := by simp [partN, List.takeWhile_cons, hb]
      rw [e]
      refine ⟨?_, ?_⟩
      · rw [List.take_succ_cons, ← e1]; simp [half, List.filter_cons, hb]
      · rw [List.drop_succ_cons, ← e2]; simp [half, List.filter_cons, hb]
    · have e : partN d (x :: l) = 0 := by simp [partN, List.takeWhile_cons, hb]
      have hall : ∀ y ∈ l, bitN y.1 d = true := fun y hy => by
        obtain ⟨ha, c, hc, g1, g2, g3⟩ := h1 y hy
        rcases Nat.lt_trichotomy c d with hl | rfl | hg
        · have := ha c hl; rw [g2, g3] at this; cases this
        · rw [hb] at g2; cases g2
        · rw [← g1 d hg]; exact hb
      rw [e]
      refine ⟨?_, ?_⟩
      · rw [List.take_zero]
        simp only [half, List.filter_cons, hb]
        simp only [Bool.true_beq, Bool.false_eq_true, if_false]
        refine List.filter_eq_nil_iff.2 fun y hy => ?_
        simp [hall y hy]
      · rw [List.drop_zero]
        refine List.filter_eq_self.2 fun y hy => ?_
        rcases List.mem_cons.1 hy with rfl | hy
        · simp [hb]
        · simp [hall y hy]
theorem partN_le (d : Nat) (l : List En) : partN d l ≤ l.length := by
  unfold partN
  exact (List.takeWhile_sublist _).length_le
theorem Rise.chain {d : Nat} : ∀ {l : List En}, (∀ k (h : k + 1 < l.length), agree d (l[k]'(by omega)).1 l[k + 1].1 ∧ ltB (l[k]'(by omega)).1 l[k + 1].1) → Rise d l
  | [], _ => List.Pairwise.nil
  | [_], _ => by unfold Rise; simp
  | x :: y :: l, h => by
    have ih := Rise.chain (l := y :: l) fun k hk => h (k + 1) (by simpa using hk)
    have h0 := h 0 (by simp)
    refine List.pairwise_cons.2 ⟨fun z hz => ?_, ih⟩
    rcases List.mem_cons.1 hz with rfl | hz
    · exact h0
    · have := (List.pairwise_cons.1 ih).1 z hz
      exact ⟨h0.1.trans this.1, h0.2.trans this.2⟩
theorem half_le (b : Bool) (d : Nat) (l : List En) : (half b d l).length ≤ l.length := List.length_filter_le _ _
theorem half_mem {b : Bool} {d : Nat} {l : List En} {x : En} (h : x ∈ half b d l) : x ∈ l := (List.mem_filter.1 h).1
end Go.Proofs.Ytpeefeioccglcaa
