/- The program's SHA-256 of a text. -/
import Derived.Test.YtigmpdhnhkdeiaaPut
import Derived.Laws.BitsAllLaws
import Derived.Lib.Bytealg
import Derived.Laws.Externs
import Derived.BigQuiet
import Derived.BigRegion
import Derived.Shelf.SlicesE.Reverse
set_option linter.unusedSimpArgs false
set_option linter.unusedVariables false
namespace Go.Proofs.Ytigmpdhnhkdeiaa
open Go Go.RowKit
def outK (s : S8) : Nat → List UInt8
  | 0 => List.replicate 32 0
  | k + 1 => (outK s k).take (4 * k) ++ (be4n (s.l.getD k 0).toNat).take (32 - 4 * k) ++ (outK s k).drop (4 * k + ((be4n (s.l.getD k 0).toNat).take (32 - 4 * k)).length)
theorem outK_end (s : S8) : outK s 8 = out s := by
  simp [outK, be4n, out, be4, S8.l, List.replicate]
theorem n32lt (y : BitVec 32) : y.toNat < 4294967296 := y.isLt
theorem be8 (v : Nat) (hv : v < 18446744073709551616) : be v 8 = be4n (v / 4294967296) ++ be4n (v % 4294967296) := by
  simp only [be, be4n, List.cons_append, List.nil_append]
  have h1 : ∀ a b : Nat, a % 256 = b % 256 → UInt8.ofNat a = UInt8.ofNat b := fun a b h => UInt8.toNat_inj.1 (by simpa using h)
  have e7 : UInt8.ofNat (v / 256 ^ 7) = UInt8.ofNat (v / 4294967296 / 16777216) := h1 _ _ (by first | rfl | (simp only [Nat.reducePow]; omega))
  have e6 : UInt8.ofNat (v / 256 ^ 6) = UInt8.ofNat (v / 4294967296 / 65536) := h1 _ _ (by first | rfl | (simp only [Nat.reducePow]; omega))
  have e5 : UInt8.ofNat (v / 256 ^ 5) = UInt8.ofNat (v / 4294967296 / 256) := h1 _ _ (by first | rfl | (simp only [Nat.reducePow]; omega))
  have e4 : UInt8.ofNat (v / 256 ^ 4) = UInt8.ofNat (v / 4294967296) := h1 _ _ (by first | rfl | (simp only [Nat.reducePow]; omega))
  have e3 : UInt8.ofNat (v / 256 ^ 3) = UInt8.ofNat (v % 4294967296 / 16777216) := h1 _ _ (by first | rfl | (simp only [Nat.reducePow]; omega))
  have e2 : UInt8.ofNat (v / 256 ^ 2) = UInt8.ofNat (v % 4294967296 / 65536) := h1 _ _ (by first | rfl | (simp only [Nat.reducePow]; omega))
  have e1 : UInt8.ofNat (v / 256 ^ 1) = UInt8.ofNat (v % 4294967296 / 256) := h1 _ _ (by first | rfl | (simp only [Nat.reducePow]; omega))
  have e0 : UInt8.ofNat (v / 256 ^ 0) = UInt8.ofNat (v % 4294967296) := h1 _ _ (by first | rfl | (simp only [Nat.reducePow]; omega))
  rw [e7, e6, e5, e4, e3, e2, e1, e0]
set_option maxRecDepth 20000 in
theorem sumS_v (l : List UInt8) (s : S8) (b : List UInt8) (n : Nat) (h : Good l s b n) (hl : l.length ≤ 34359738000) :
    VX Try.prog 190 [(ti361.ty, shv s b n l.length)] [] [] [.ptr 0 []] [(ti361.ty, shv s b n l.length)] [] [] (.ba (sum l)) := by
  have hbl := h.bl
  refine v_enter Try.func190 rfl (by kernel_rfl) (by show 1 ≤ 68; decide) ?_
  intro N w0 a w hN hR H
  have hX := And.intro @ren_s8v (And.intro @ren_shv (@shv.eq_1))
  have hY := And.intro @s8v.eq_1 (And.intro @shv.eq_1 (And.intro @W32.eq_1 (@h0.eq_1)))
  refine mW ?_; clear H; intro a w H
  refine mCall [0] [] (none_v s b n l.length) H ?_; clear H; intro a w H; try refine wpList_nil ?_
  refine mC H (fun hb => ?_) (fun hb => ?_)
  · cases hb
  refine mW ?_; clear H; intro a w H
  obtain ⟨s1, b1, n1, h1, hw1⟩ := write_g l [128] s b n h (by decide) l.length (by omega)
  refine mCall [2] [] (hw1) H ?_; clear H; intro a w H; try refine wpList_nil ?_
  refine mW ?_; clear H; intro a w H
  have e4 : (l.length : Int) * 8 % 18446744073709551616 = ((l.length * 8 : Nat) : Int) := by omega
  rw [e4] at H
  refine v_loop (fun i : S8 × List UInt8 × Nat × Nat => ⟨[(0, none, .ptr 0 []), (2, none, .ptr 1 []), (3, none, .ptr 2 []), (4, none, .v (.int .u64 ((l.length * 8 : Nat) : Int)))], [(ti361.ty, .st [.v (.bool true), s8v s, .ba b, .v (.int .i64 (n : Int)), .v (.int .i64 (l.length : Int))]), (.ba 32, .ba (List.replicate 32 0)), (ti361.ty, .st [.v (.bool true), s8v i.1, .ba i.2.1, .v (.int .i64 (i.2.2.1 : Int)), .v (.int .i64 ((l.length + 1 + i.2.2.2 : Nat) : Int))])], [], []⟩)
    (fun i => Good (l ++ [128] ++ List.replicate i.2.2.2 0) i.1 i.2.1 i.2.2.1 ∧ i.2.2.2 ≤ padN l.length) (fun i => padN l.length - i.2.2.2) (s1, b1, n1, 0) ⟨by simpa using h1, Nat.zero_le _⟩
    (H.to 3 0 ⟨Nat.le_trans hN (by show 1 ≤ 3; decide), hR⟩ ⟨rfl, rfl, rfl, rfl, trivial⟩ rfl rfl rfl rfl rfl) ?_
  clear H
  rintro ⟨s2, b2, n2, z⟩ a w ⟨h2, hz⟩ H
  dsimp only at h2 hz
  have hn2 := h2.nn
  have hlen2 : (l ++ [128] ++ List.replicate z 0).length = l.length + 1 + z := by simp; omega
  rw [hlen2] at hn2
  have hpd : padN l.length < 64 ∧ (l.length + 1 + padN l.length) % 64 = 56 := by unfold padN; omega
  have hbl2 := h2.bl
  refine mW ?_; clear H; intro a w H
  refine mC H (fun hb => ?_) (fun hb => ?_)
  · have hne : n2 ≠ 56 := fun e => by simp [e] at hb
    have hz1 : z + 1 ≤ padN l.length := by
      rcases Nat.lt_or_ge z (padN l.length) with h5 | h5
      · omega
      · have : z = padN l.length := by omega
        subst this; omega
    obtain ⟨s3, b3, n3, h3, hw3⟩ := write_g _ [0] s2 b2 n2 h2 (by decide) (l.length + 1 + z) (by omega)
    refine mW ?_; clear H; intro a w H
    refine mCall [2] [] (hw3) H ?_; clear H; intro a w H; try refine wpList_nil ?_
    refine mW ?_; clear H; intro a w H
    exact ⟨(s3, b3, n3, z + 1), ⟨by rw [List.append_assoc] at h3; simpa [← List.replicate_succ'] using h3, hz1⟩, by dsimp only; omega, H.to 3 0 ⟨Nat.le_trans hN (by show 1 ≤ 3; decide), hR⟩ ⟨rfl, rfl, rfl, rfl, trivial⟩ rfl rfl rfl rfl rfl⟩
  · have he : n2 = 56 := by simp at hb; omega
    have hz1 : z = padN l.length := by omega
    subst hz1
    subst he
    refine mW ?_; clear H; intro a w H
    have e5 : ((l.length * 8 : Nat) : Int) / 4294967296 = ((l.length * 8 / 4294967296 : Nat) : Int) := by omega
    rw [e5] at H
    have hand : bits .and .u64 ((l.length * 8 : Nat) : Int) 4294967295 = ((l.length * 8 % 4294967296 : Nat) : Int) := by
      have h5 := u64_and_nat (l.length * 8) 4294967295 (by omega) (by decide)
      rw [show (4294967295 : Nat) = 2 ^ 32 - 1 from rfl, Nat.and_two_pow_sub_one_eq_mod] at h5
      exact h5
    clear hX; have hX := And.intro @ren_s8v (And.intro @ren_shv (And.intro @shv.eq_1 (@hand)))
    clear hY; have hY := And.intro @s8v.eq_1 (And.intro @shv.eq_1 (And.intro @W32.eq_1 (And.intro @h0.eq_1 (@hand))))
    refine mCall [] [] (put32_v (l.length * 8 / 4294967296) (by omega)) H ?_; clear H; intro a w H; try refine wpList_nil ?_
    refine mW ?_; clear H; intro a w H
    refine mCall [] [] (put32_v (l.length * 8 % 4294967296) (by omega)) H ?_; clear H; intro a w H; try refine wpList_nil ?_
    refine mW ?_; clear H; intro a w H
    obtain ⟨s3, b3, n3, h3, hw3⟩ := write_g _ (be4n (l.length * 8 / 4294967296)) s2 b2 56 h2 (by rw [be4n_len]; decide) (l.length + 1 + padN l.length) (by omega)
    refine mCall [2] [] (hw3) H ?_; clear H; intro a w H; try refine wpList_nil ?_
    refine mW ?_; clear H; intro a w H
    obtain ⟨s4, b4, n4, h4, hw4⟩ := write_g _ (be4n (l.length * 8 % 4294967296)) s3 b3 n3 h3 (by rw [be4n_len]; decide) (l.length + 1 + padN l.length + 4) (by omega)
    clear hX; have hX := And.intro @ren_s8v (And.intro @ren_shv (And.intro @shv.eq_1 (And.intro @hand (@be4n_len))))
    refine mCall [2] [] (hw4) H ?_; clear H; intro a w H; try refine wpList_nil ?_
    refine mW ?_; clear H; intro a w H
    have hpad : l ++ [128] ++ List.replicate (padN l.length) 0 ++ be4n (l.length * 8 / 4294967296) ++ be4n (l.length * 8 % 4294967296) = pad l := by
      rw [pad_def, be8 _ (by omega), List.append_assoc _ (be4n _)]
    rw [hpad] at h4
    have hout : out s4 = sum l := by rw [sum_def, ← h4.ss]
    refine v_loop (fun k : Nat => ⟨[(2, none, .ptr 1 []), (9, none, .ptr 3 []), (50, none, s8v s4), (51, none, .v (.int .i64 (k : Int)))], [(ti361.ty, .st [.v (.bool true), s8v s, .ba b, .v (.int .i64 (n : Int)), .v (.int .i64 (l.length : Int))]), (.ba 32, .ba (List.replicate 32 0)), (ti361.ty, .st [.v (.bool true), s8v s4, .ba b4, .v (.int .i64 (n4 : Int)), .v (.int .i64 ((l.length + 1 + padN l.length + 4 + 4 : Nat) : Int))]), (.ba 32, .ba (outK s4 k))], [], []⟩)
      (fun k => k ≤ 8) (fun k => 8 - k) 0 (by decide) (H.to 4 0 ⟨Nat.le_trans hN (by show 1 ≤ 4; decide), hR⟩ ⟨rfl, rfl, rfl, rfl, trivial⟩ rfl rfl rfl rfl rfl) ?_
    clear H
    intro k a w hk H
    have hN0 := hN
    replace hN : N.bx.length ≤ 100 := Nat.le_trans hN (by show 1 ≤ 100; decide)
    refine mW ?_; clear H; intro a w H
    refine mC H (fun hb => ?_) (fun hb => ?_)
    · have hk8 : k < 8 := by simp at hb; omega
      have hs8 : k = 0 ∨ k = 1 ∨ k = 2 ∨ k = 3 ∨ k = 4 ∨ k = 5 ∨ k = 6 ∨ k = 7 := by omega
      have hol : ∀ k, k ≤ 8 → (outK s4 k).length = 32 := fun k hk => by
        induction k with
        | zero => simp [outK]
        | succ k ih => have := ih (by omega); simp only [outK, List.length_append, List.length_take, List.length_drop, be4n_len]; omega
      have q0 := n32_lo s4.a; have q1 := n32_lo s4.b; have q2 := n32_lo s4.c; have q3 := n32_lo s4.d; have q4 := n32_lo s4.e; have q5 := n32_lo s4.f; have q6 := n32_lo s4.g; have q7 := n32_lo s4.h
      have r0 := n32_hi s4.a; have r1 := n32_hi s4.b; have r2 := n32_hi s4.c; have r3 := n32_hi s4.d; have r4 := n32_hi s4.e; have r5 := n32_hi s4.f; have r6 := n32_hi s4.g; have r7 := n32_hi s4.h
      have o0 := hol 0 (by decide); have o1 := hol 1 (by decide); have o2 := hol 2 (by decide); have o3 := hol 3 (by decide); have o4 := hol 4 (by decide); have o5 := hol 5 (by decide); have o6 := hol 6 (by decide); have o7 := hol 7 (by decide)
      rcases hs8 with rfl | rfl | rfl | rfl | rfl | rfl | rfl | rfl
      all_goals
        refine mW ?_; clear H; intro a w H
        refine mCall [] [] (put32_v _ (n32lt _)) H ?_; clear H; intro a w H; try refine wpList_nil ?_
        refine mW ?_; clear H; intro a w H
        refine ⟨_ + 1, by decide, ?_, H.to 4 0 ⟨Nat.le_trans hN0 (by show 1 ≤ 4; decide), hR⟩ ⟨rfl, rfl, rfl, rfl, trivial⟩ rfl rfl rfl rfl rfl⟩
        decide
    · have he8 : k = 8 := by simp at hb; omega
      subst he8
      rw [outK_end, hout] at H
      have hsl := sum_length l
      refine mW ?_; clear H; intro a w H
      replace hN := hN0
      refine wp_ret ?_; exact mEnd [0] [] [.cell 2 50] [_] hN hR H
end Go.Proofs.Ytigmpdhnhkdeiaa
/- Digests: SHA-256 of a text; of a byte and parts. -/
namespace Go.Proofs.Ytigmpdhnhkdeiaa
open Go Go.RowKit
set_option maxRecDepth 20000 in
theorem sum_v (l : List UInt8) (hl : l.length ≤ 34359738000) : VC Try.prog 122 [.bs l none] [] (.ba (sum l)) := by
  have hsl := sum_length l
  refine v_enter Try.func122 rfl (by kernel_rfl) (by show 1 ≤ 10; decide) ?_
  intro N w0 a w hN hR H
  have hX := And.intro @ren_s8v (@ren_shv)
  have hY := And.intro @s8v.eq_1 (And.intro @shv.eq_1 (And.intro @W32.eq_1 (@h0.eq_1)))
  refine mW ?_; clear H; intro a w H
  refine mCall [] [] (new_v) H ?_; clear H; intro a w H; try refine wpList_nil ?_
  refine mW ?_; clear H; intro a w H
  obtain ⟨s1, b1, n1, h1, hw1⟩ := write_g [] l h0 (List.replicate 64 0) 0 good_nil (by omega) 0 (by decide)
  refine mCall [1] [] (hw1) H ?_; clear H; intro a w H; try refine wpList_nil ?_
  refine mW ?_; clear H; intro a w H
  rw [List.nil_append] at h1
  refine mCall [1] [] (sumS_v l s1 b1 n1 h1 hl) H ?_; clear H; intro a w H; try refine wpList_nil ?_
  refine mW ?_; clear H; intro a w H
  refine wp_ret ?_; exact mEnd [] [] [.cell 2 50] [_] hN hR H
end Go.Proofs.Ytigmpdhnhkdeiaa
/- Nodes of the program: checked, written, read; digests. -/
namespace Go.Proofs.Ytigmpdhnhkdeiaa
open Go Go.RowKit
structure Nd where
  k : UInt8
  key : List UInt8
  v : List UInt8
  l : List UInt8
  r : List UInt8
  deriving DecidableEq
def z32 : List UInt8 := List.replicate 32 0
theorem hz : List.replicate 32 (0 : UInt8) = z32 := rfl
structure Nd.wf (n : Nd) : Prop where
  key : n.key.length = 32
  v : n.v.length = 32
  l : n.l.length = 32
  r : n.r.length = 32
def Nd.av (n : Nd) : AV := .st [.v (B8 n.k), .ba n.key, .ba n.v, .ba n.l, .ba n.r]
def Nd.zero : Nd := ⟨0, z32, z32, z32, z32⟩
/-- What a node is but for what its kind does not bear. -/
def Nd.bare (n : Nd) : Nd := if n.k = 1 then ⟨1, n.key, n.v, z32, z32⟩ else if n.k = 2 then ⟨2, z32, z32, n.l, n.r⟩ else .zero
def Nd.ok (n : Nd) : Prop := n = n.bare
instance (n : Nd) : Decidable n.ok := inferInstanceAs (Decidable (n = n.bare))
def Nd.text (n : Nd) : List UInt8 := if n.k = 1 then 1 :: (n.key ++ n.v) else if n.k = 2 then 2 :: (n.l ++ n.r) else [0]
abbrev errv (n : Int) : AV := .v (.int .i64 n)
theorem check_v (n : Nd) (hw : n.wf) : VC Try.prog 185 [n.av] [] (errv (if n.ok then 0 else 2)) := by
  obtain ⟨k, key, v, l, r⟩ := n
  obtain ⟨h1, h2, h3, h4⟩ := hw
  dsimp only at h1 h2 h3 h4
  refine mE Try.func185 ?_; intro N w0 a w hN hR H
  simp only [Nd.av] at H
  have hk0 : ((k.toNat : Int) = 0) ↔ k = 0 := ⟨fun h => UInt8.toNat_inj.1 (by simpa using h), fun h => by subst h; rfl⟩
  have hk1 : ((k.toNat : Int) = 1) ↔ k = 1 := ⟨fun h => UInt8.toNat_inj.1 (by simp; omega), fun h => by subst h; rfl⟩
  have hk2 : ((k.toNat : Int) = 2) ↔ k = 2 := ⟨fun h => UInt8.toNat_inj.1 (by simp; omega), fun h => by subst h; rfl⟩
  refine mW ?_; clear H; intro a w H
  refine mC H (fun hb => ?_) (fun hb => ?_)
  · refine mW ?_; clear H; intro a w H
    refine mC H (fun hb => ?_) (fun hb => ?_)
    · have hok : ¬ Nd.ok ⟨k, key, v, l, r⟩ := by clear H; simp only [Bool.not_eq_true', Bool.not_eq_false', Bool.and_eq_true, Bool.and_eq_false_imp, decide_eq_true_eq, decide_eq_false_iff_not] at hb; simp only [hz] at hb; simp_all [Nd.ok, Nd.bare, Nd.zero]
      rw [if_neg hok]
      refine mW ?_; clear H; intro a w H
      refine wp_ret ?_; exact mEnd [] [] [.tmp 2] [_] hN hR H
    · have hok : Nd.ok ⟨k, key, v, l, r⟩ := by clear H; simp only [Bool.not_eq_true', Bool.not_eq_false', Bool.and_eq_true, Bool.and_eq_false_imp, decide_eq_true_eq, decide_eq_false_iff_not] at hb; simp only [hz] at hb; simp_all [Nd.ok, Nd.bare, Nd.zero]
      rw [if_pos hok]
      refine mW ?_; clear H; intro a w H
      refine wp_ret ?_; exact mEnd [] [] [.tmp 2] [_] hN hR H
  · refine mW ?_; clear H; intro a w H
    refine mC H (fun hb => ?_) (fun hb => ?_)
    · refine mW ?_; clear H; intro a w H
      refine mC H (fun hb => ?_) (fun hb => ?_)
      · have hok : ¬ Nd.ok ⟨k, key, v, l, r⟩ := by clear H; simp only [Bool.not_eq_true', Bool.not_eq_false', Bool.and_eq_true, Bool.and_eq_false_imp, decide_eq_true_eq, decide_eq_false_iff_not] at hb; simp only [hz] at hb; simp_all [Nd.ok, Nd.bare, Nd.zero]
        rw [if_neg hok]
        refine mW ?_; clear H; intro a w H
        refine wp_ret ?_; exact mEnd [] [] [.tmp 2] [_] hN hR H
      · have hok : Nd.ok ⟨k, key, v, l, r⟩ := by clear H; simp only [Bool.not_eq_true', Bool.not_eq_false', Bool.and_eq_true, Bool.and_eq_false_imp, decide_eq_true_eq, decide_eq_false_iff_not] at hb; simp only [hz] at hb; simp_all [Nd.ok, Nd.bare, Nd.zero]
        rw [if_pos hok]
        refine mW ?_; clear H; intro a w H
        refine wp_ret ?_; exact mEnd [] [] [.tmp 2] [_] hN hR H
    · refine mW ?_; clear H; intro a w H
      refine mC H (fun hb => ?_) (fun hb => ?_)
      · refine mW ?_; clear H; intro a w H
        refine mC H (fun hb => ?_) (fun hb => ?_)
        · have hok : ¬ Nd.ok ⟨k, key, v, l, r⟩ := by clear H; simp only [Bool.not_eq_true', Bool.not_eq_false', Bool.and_eq_true, Bool.and_eq_false_imp, decide_eq_true_eq, decide_eq_false_iff_not] at hb; simp only [hz] at hb; simp_all [Nd.ok, Nd.bare, Nd.zero]
          rw [if_neg hok]
          refine mW ?_; clear H; intro a w H
          refine wp_ret ?_; exact mEnd [] [] [.tmp 2] [_] hN hR H
        · have hok : Nd.ok ⟨k, key, v, l, r⟩ := by clear H; simp only [Bool.not_eq_true', Bool.not_eq_false', Bool.and_eq_true, Bool.and_eq_false_imp, decide_eq_true_eq, decide_eq_false_iff_not] at hb; simp only [hz] at hb; simp_all [Nd.ok, Nd.bare, Nd.zero]
          rw [if_pos hok]
          refine mW ?_; clear H; intro a w H
          refine wp_ret ?_; exact mEnd [] [] [.tmp 2] [_] hN hR H
      · refine mW ?_; clear H; intro a w H
        refine mC H (fun hb => ?_) (fun hb => ?_)
        · have hok : ¬ Nd.ok ⟨k, key, v, l, r⟩ := by clear H; simp only [Bool.not_eq_true', Bool.not_eq_false', Bool.and_eq_true, Bool.and_eq_false_imp, decide_eq_true_eq, decide_eq_false_iff_not] at hb; simp only [hz] at hb; simp_all [Nd.ok, Nd.bare, Nd.zero]
          rw [if_neg hok]
          refine mW ?_; clear H; intro a w H
          refine wp_ret ?_; exact mEnd [] [] [.tmp 2] [_] hN hR H
        · have hok : Nd.ok ⟨k, key, v, l, r⟩ := by clear H; simp only [Bool.not_eq_true', Bool.not_eq_false', Bool.and_eq_true, Bool.and_eq_false_imp, decide_eq_true_eq, decide_eq_false_iff_not] at hb; simp only [hz] at hb; simp_all [Nd.ok, Nd.bare, Nd.zero]
          rw [if_pos hok]
          refine mW ?_; clear H; intro a w H
          refine wp_ret ?_; exact mEnd [] [] [.tmp 2] [_] hN hR H
theorem encode_ok (n : Nd) (hw : n.wf) (h : n.ok) : VC Try.prog 121 [n.av] [(5, n.text.length)] (.tup [.bs n.text (some 0), errv 0]) := by
  have hck := check_v n hw
  rw [if_pos h] at hck
  obtain ⟨k, key, v, l, r⟩ := n
  obtain ⟨h1, h2, h3, h4⟩ := hw
  dsimp only at h1 h2 h3 h4
  refine mE Try.func121 ?_; intro N w0 a w hN hR H
  have hk1 : ((k.toNat : Int) = 1) ↔ k = 1 := ⟨fun h => UInt8.toNat_inj.1 (by simp; omega), fun h => by subst h; rfl⟩
  have hk2 : ((k.toNat : Int) = 2) ↔ k = 2 := ⟨fun h => UInt8.toNat_inj.1 (by simp; omega), fun h => by subst h; rfl⟩
  simp only [Nd.av] at H hck
  refine mW ?_; clear H; intro a w H
  refine mCall [] [] (hck) H ?_; clear H; intro a w H; try refine wpList_nil ?_
  refine mW ?_; clear H; intro a w H
  refine mC H (fun hb => ?_) (fun hb => ?_)
  · simp at hb
  · refine mW ?_; clear H; intro a w H
    refine mC H (fun hb => ?_) (fun hb => ?_)
    · have hk : k = 1 := hk1.1 (by simpa using hb)
      subst hk
      refine mW ?_; clear H; intro a w H
      refine mCall [] [] (leafText_v key v h1 h2) H ?_; clear H; intro a w H; try refine wpList_nil ?_
      refine mW ?_; clear H; intro a w H
      have hX := @Nd.text.eq_1
      refine wp_ret ?_; exact mEnd [] [0] [.tmp 2, .tmp 3] [_, _] hN hR H
    · have hX := @Nd.text.eq_1
      refine mW ?_; clear H; intro a w H
      refine mC H (fun hb => ?_) (fun hb => ?_)
      · have hk : k = 2 := hk2.1 (by simpa using hb)
        subst hk
        refine mW ?_; clear H; intro a w H
        refine mCall [] [] (innerText_v l r h3 h4) H ?_; clear H; intro a w H; try refine wpList_nil ?_
        refine mW ?_; clear H; intro a w H
        refine wp_ret ?_; exact mEnd [] [0] [.tmp 2, .tmp 3] [_, _] hN hR H
      · have hk : k = 0 := by
          simp only [Nd.ok, Nd.bare, Nd.zero] at h
          simp_all
        subst hk
        refine mW ?_; clear H; intro a w H
        refine mCall [] [] (emptyText_v) H ?_; clear H; intro a w H; try refine wpList_nil ?_
        refine mW ?_; clear H; intro a w H
        refine wp_ret ?_; exact mEnd [] [0] [.tmp 2, .tmp 3] [_, _] hN hR H
theorem digest_ok (n : Nd) (hw : n.wf) (h : n.ok) : VC Try.prog 133 [n.av] [] (.tup [.ba (sum n.text), errv 0]) := by
  have hck := encode_ok n hw h
  obtain ⟨h1, h2, h3, h4⟩ := id hw
  have hsl := sum_length n.text
  refine mE Try.func133 ?_; intro N w0 a w hN hR H
  simp only [Nd.av] at H hck
  refine mW ?_; clear H; intro a w H
  refine mCall [] [] (hck) H ?_; clear H; intro a w H; try refine wpList_nil ?_
  refine mW ?_; clear H; intro a w H
  refine mC H (fun hb => ?_) (fun hb => ?_)
  · simp at hb
  · refine mW ?_; clear H; intro a w H
    have hl : n.text.length ≤ 34359738000 := by
      unfold Nd.text
      obtain ⟨k, key, v, l, r⟩ := n
      obtain ⟨h1, h2, h3, h4⟩ := hw
      dsimp only at h1 h2 h3 h4 ⊢
      split
      · simp; omega
      · split
        · simp; omega
        · simp
    refine mCall [] [] (sum_v n.text hl) H ?_; clear H; intro a w H; try refine wpList_nil ?_
    refine mW ?_; clear H; intro a w H
    refine wp_ret ?_; exact mEnd [] [] [.cell 2 50, .tmp 3] [_, _] hN hR H
end Go.Proofs.Ytigmpdhnhkdeiaa
/- octet.Compare: byte by byte. -/
namespace Go.Proofs.Ytigmpdhnhkdeiaa
open Go Go.RowKit
set_option maxHeartbeats 1000000 in
set_option maxRecDepth 100000 in
theorem cmp_any (a b : ByteArray) (w : World) : Calls Try.prog 221 #[.string a, .string b] w fun e w' => e = .returned (.int .i64 (Lib.compareBytes a.data.toList b.data.toList)) ∧ w' = w := by
  go_enter Try.func221, Try.ntmps221
  go_wp2
  rw [run_callFunc_extern Try.func272 (by kernel_rfl) (by kernel_rfl) (by kernel_rfl) (e := Extern.BytealgCompare.compare) (by kernel_rfl), Lib.run_compareString]
  simp only [Result.andThen]
  rw [Oper.upon_value]
  go_wp2
  go_ret
  exact ⟨rfl, rfl⟩
theorem cmpS_v (a b : ByteArray) : VC Try.prog 221 [.v (.string a), .v (.string b)] [] (.v (.int .i64 (Lib.compareBytes a.data.toList b.data.toList))) := by
  refine VC.ofA ⟨_, Try.func221, by kernel_rfl, by kernel_rfl⟩ fun w N vs hM hl hv => ?_
  obtain ⟨u, v, rfl, h1, h2⟩ := two (args := []) hl hv
  have e1 := h1.v_inv
  have e2 := h2.v_inv
  subst e1 e2
  refine (cmp_any a b w).mono fun e w' hp => ?_
  obtain ⟨rfl, rfl⟩ := hp
  exact ⟨_, rfl, Below.refl _ _, RV.v_of rfl⟩
end Go.Proofs.Ytigmpdhnhkdeiaa
/- The program's reader of bytes. -/
namespace Go.Proofs.Ytigmpdhnhkdeiaa
open Go Go.RowKit
end Go.Proofs.Ytigmpdhnhkdeiaa
/- octet.Compare, numbers as two bytes. -/
namespace Go.Proofs.Ytigmpdhnhkdeiaa
open Go Go.RowKit
theorem cmpT_v (x y : ByteArray) : VC Try.prog 170 [.v (.string x), .v (.string y)] [] (.v (.int .i64 (Lib.compareBytes x.data.toList y.data.toList))) := by
  refine mE Try.func170 ?_; intro N w0 a w hN hR H
  refine mW ?_; clear H; intro a w H
  refine mCall [] [] (cmpS_v x y) H ?_; clear H; intro a w H; try refine wpList_nil ?_
  refine mW ?_; clear H; intro a w H
  refine wp_ret ?_; exact mEnd [] [] [.tmp 4] [_] hN hR H
theorem compare_v (x y : List UInt8) : VC Try.prog 107 [.bs x none, .bs y none] [] (.v (.int .i64 (Lib.compareBytes x y))) := by
  have h := cmpT_v (strOf x) (strOf y)
  have e1 : (strOf x).data.toList = x := rfl
  have e2 : (strOf y).data.toList = y := rfl
  rw [e1, e2] at h
  refine mE Try.func107 ?_; intro N w0 a w hN hR H
  refine mW ?_; clear H; intro a w H
  refine mCall [] [] (h) H ?_; clear H; intro a w H; try refine wpList_nil ?_
  refine mW ?_; clear H; intro a w H
  refine wp_ret ?_; exact mEnd [] [] [.tmp 4] [_] hN hR H
/-- A number, the highest byte first. -/
def num : Nat → List UInt8 → Nat
  | x, [] => x
  | x, b :: l => num (256 * x + b.toNat) l
end Go.Proofs.Ytigmpdhnhkdeiaa
/- Keys as ways down: the program's and the document's functions. -/
namespace Go.Proofs.Ytigmpdhnhkdeiaa
open Go Go.RowKit
theorem e7w (d : Int) (h0 : 0 ≤ d) : (if (d % 8).toNat ≤ 8 then (d % 8).toNat else 8) = d.toNat % 8 := by split <;> omega
theorem e8w (d : Int) (h0 : 0 ≤ d) : (d / 8).toNat = d.toNat / 8 := by omega
theorem mask_v (d : Int) (h0 : 0 ≤ d) (h1 : d < 256) : VC Try.prog 151 [.v (.int .i64 d)] [] (.v (.int .u8 (128 / 2 ^ (d.toNat % 8)))) := by
  have e7 := e7w d h0
  refine mE Try.func151 ?_; intro N w0 a w hN hR H
  have hX := @e7
  have hY := @e7
  refine mW ?_; clear H; intro a w H
  refine wp_ret ?_; exact mEnd [] [] [.tmp 2] [_] hN hR H
set_option maxRecDepth 20000 in
theorem bit_v (p : List UInt8) (hp : p.length = 32) (d : Int) : VC Try.prog 81 [.ba p, .v (.int .i64 d)] [] (.v (.int .i64 (pbit p d))) := by
  refine mE Try.func81 ?_; intro N w0 a w hN hR H
  refine mW ?_; clear H; intro a w H
  by_cases h : 0 ≤ d ∧ d < 256
  · have hm := mask_v d h.1 h.2
    have e8 := e8w d h.1
    rw [pbit, if_pos h]
    have h1 := h.1; have h2 := h.2
    refine mC H (fun hb => ?_) (fun hb => ?_)
    · exfalso; simp at hb; omega
    · refine mS ?_; refine mD 1 [5] [0, 1, 2, 3] H ?_; clear H; intro gS H; refine mT ?_; clear H; intro a w H
      refine mCallT [] [] (hm) H ?_; clear H; intro a w H
      have hX := @e8
      have hY := @e8
      refine mT ?_; clear H; intro a w H
      refine v_drawNil H ?_; clear H; intro H
      rw [and_bit] at H
      have eb : bitAt (p.getD (d.toNat / 8) 0) (d.toNat % 8) = bitN p d.toNat := rfl
      rw [eb] at H
      refine mC H (fun hb => ?_) (fun hb => ?_)
      · rw [hb]
        refine mW ?_; clear H; intro a w H
        refine wp_ret ?_; exact mEnd [] [] [.tmp 4] [_] hN hR H
      · rw [hb]
        refine mW ?_; clear H; intro a w H
        refine wp_ret ?_; exact mEnd [] [] [.tmp 4] [_] hN hR H
  · rw [pbit, if_neg h]
    refine mC H (fun hb => ?_) (fun hb => ?_)
    · refine mW ?_; clear H; intro a w H
      refine wp_ret ?_; exact mEnd [] [] [.tmp 4] [_] hN hR H
    · exfalso; simp at hb; omega
theorem lz8_v (c : UInt8) : VC Try.prog 246 [.v (B8 c)] [] (.v (.int .i64 ((8 : Int) - (Lib.bitLen c.toNat : Int)))) := by
  have h1 := len8_v c
  have h2 := Lib.bitLen_le8 ⟨c.toNat, c.toNat_lt⟩
  simp only at h2
  refine mE Try.func246 ?_; intro N w0 a w hN hR H
  refine mW ?_; clear H; intro a w H
  refine mCall [] [] (h1) H ?_; clear H; intro a w H; try refine wpList_nil ?_
  refine mW ?_; clear H; intro a w H
  refine wp_ret ?_; exact mEnd [] [] [.tmp 2] [_] hN hR H
theorem xor8 (x y : UInt8) : bits .xor .u8 (x.toNat : Int) (y.toNat : Int) = (((x ^^^ y).toNat : Nat) : Int) := by
  rw [u8_xor_nat _ _ x.toNat_lt y.toNat_lt, UInt8.toNat_xor]
theorem bitN_at (p : List UInt8) (k t : Nat) (ht : t < 8) : bitN p (8 * k + t) = bitAt (p.getD k 0) t := by
  unfold bitN
  rw [show (8 * k + t) / 8 = k by omega, show (8 * k + t) % 8 = t by omega]
theorem com_byte (p q : List UInt8) (k : Nat) (h : agree (8 * k) p q) (he : p.getD k 0 = q.getD k 0) : agree (8 * (k + 1)) p q := fun t ht => by
  by_cases h1 : t < 8 * k
  · exact h t h1
  · rw [show t = 8 * k + (t - 8 * k) by omega, bitN_at _ _ _ (by omega), bitN_at _ _ _ (by omega), he]
theorem com_part (p q : List UInt8) (k : Nat) (hk : k < 32) (h : agree (8 * k) p q) (hn : p.getD k 0 ≠ q.getD k 0) : com p q = 8 * k + (8 - Lib.bitLen (p.getD k 0 ^^^ q.getD k 0).toNat) := by
  obtain ⟨l1, l2, l3, l4⟩ := lead_xor _ _ hn
  refine com_of (by omega) (fun t ht => ?_) fun _ => ?_
  · by_cases h1 : t < 8 * k
    · exact h t h1
    · rw [show t = 8 * k + (t - 8 * k) by omega, bitN_at _ _ _ (by omega), bitN_at _ _ _ (by omega)]
      exact l3 _ (by omega)
  · rw [bitN_at _ _ _ l1, bitN_at _ _ _ l1]; exact l4
set_option maxRecDepth 20000 in
theorem common_v (p q : List UInt8) (hp : p.length = 32) (hq : q.length = 32) : VC Try.prog 203 [.ba p, .ba q] [] (.v (.int .i64 (com p q))) := by
  refine mE Try.func203 ?_; intro N w0 a w hN hR H
  refine mW ?_; clear H; intro a w H
  refine mC H (fun hb => ?_) (fun hb => ?_)
  · have he : p = q := by simpa using hb
    subst he
    rw [com_self]
    refine mW ?_; clear H; intro a w H
    refine wp_ret ?_; exact mEnd [] [] [.tmp 4] [_] hN hR H
  · have hne : p ≠ q := by simpa using hb
    refine mW ?_; clear H; intro a w H
    refine v_loop (fun k : Nat => ⟨[(10, none, .v (.int .i64 (k : Int))), (4, none, .v (.int .i64 0)), (3, none, .ptr 1 []), (2, none, .ptr 0 [])], [(.ba 32, .ba p), (.ba 32, .ba q)], [], []⟩) (fun k => k ≤ 32 ∧ agree (8 * k) p q) (fun k => 32 - k) 0 ⟨Nat.zero_le _, fun t ht => by omega⟩ (H.to 2 0 ⟨Nat.le_trans hN (by decide), hR⟩ ⟨rfl, rfl, rfl, rfl, trivial⟩ rfl rfl rfl rfl rfl) ?_
    clear H
    rintro k a w ⟨hk, hag⟩ H
    refine mW ?_; clear H; intro a w H
    refine mC H (fun hb => ?_) (fun hb => ?_)
    · have hlt : k < 32 := by simp at hb; omega
      refine mW ?_; clear H; intro a w H
      refine mS ?_; refine mD 2 [] [] H ?_; clear H; intro gS H; refine mT ?_; clear H; intro a w H
      refine v_drawNil H ?_; clear H; intro H
      rw [xor8] at H
      have hlz := lz8_v (p.getD k 0 ^^^ q.getD k 0)
      have hc8 := (p.getD k 0 ^^^ q.getD k 0).toNat_lt
      refine mW ?_; clear H; intro a w H
      refine mC H (fun hb => ?_) (fun hb => ?_)
      · have hd : p.getD k 0 ≠ q.getD k 0 := fun e => by rw [e] at hb; simp at hb
        rw [com_part p q k hlt hag hd]
        have hl2 := (lead_xor _ _ hd).2.1
        refine mW ?_; clear H; intro a w H
        refine mCall [] [] (hlz) H ?_; clear H; intro a w H; try refine wpList_nil ?_
        refine mW ?_; clear H; intro a w H
        have e1 : (8 * (k : Int) + (8 - (Lib.bitLen (p.getD k 0 ^^^ q.getD k 0).toNat : Int))) = ((8 * k + (8 - Lib.bitLen (p.getD k 0 ^^^ q.getD k 0).toNat) : Nat) : Int) := by omega
        rw [e1] at H
        refine wp_ret ?_; exact mEnd [] [] [.tmp 4] [_] hN hR H
      · have hd : p.getD k 0 = q.getD k 0 := by
          refine UInt8.xor_eq_zero_iff.1 (UInt8.toNat_inj.1 ?_)
          simpa using hb
        refine mW ?_; clear H; intro a w H
        exact ⟨k + 1, ⟨hlt, com_byte p q k hag hd⟩, by omega, H.to 2 0 ⟨Nat.le_trans hN (by decide), hR⟩ ⟨rfl, rfl, rfl, rfl, trivial⟩ rfl rfl rfl rfl rfl⟩
    · have hge : k = 32 := by simp at hb; omega
      subst hge
      exact absurd (agree_eq hp hq hag) hne
theorem under_v (p q : List UInt8) (hp : p.length = 32) (hq : q.length = 32) (d : Int) : VC Try.prog 135 [.ba p, .ba q, .v (.int .i64 d)] [] (.v (.bool (decide (0 ≤ d ∧ d ≤ 256 ∧ d ≤ com p q)))) := by
  have hc := common_v p q hp hq
  refine mE Try.func135 ?_; intro N w0 a w hN hR H
  refine mW ?_; clear H; intro a w H
  refine mCallG [] [] (hc) H ?_; clear H; intro a w H; try refine wpList_nil ?_
  refine mW ?_; clear H; intro a w H
  by_cases h0 : 0 ≤ d
  · by_cases h1 : d ≤ 256
    · have e : (decide (0 ≤ d ∧ d ≤ 256 ∧ d ≤ com p q)) = decide (d ≤ com p q) := by simp [h0, h1]
      rw [e]
      simp only [decide_eq_true h0, decide_eq_true h1, cond_true] at H
      refine wp_ret ?_; exact mEnd [] [] [.tmp 6] [_] hN hR H
    · have e : (decide (0 ≤ d ∧ d ≤ 256 ∧ d ≤ com p q)) = false := by simp [h1]
      rw [e]
      simp only [decide_eq_true h0, decide_eq_false h1, cond_true, cond_false] at H
      refine wp_ret ?_; exact mEnd [] [] [.tmp 6] [_] hN hR H
  · have e : (decide (0 ≤ d ∧ d ≤ 256 ∧ d ≤ com p q)) = false := by simp [h0]
    rw [e]
    simp only [decide_eq_false h0, cond_false] at H
    refine wp_ret ?_; exact mEnd [] [] [.tmp 6] [_] hN hR H
set_option maxRecDepth 20000 in
theorem pcmp_v (p q : List UInt8) (hp : p.length = 32) (hq : q.length = 32) : VC Try.prog 56 [.ba p, .ba q] [] (.v (.int .i64 (Lib.compareBytes p q))) := by
  have h := compare_v p q
  refine mE Try.func56 ?_; intro N w0 a w hN hR H
  refine mW ?_; clear H; intro a w H
  have hX := And.intro (List.take_of_length_le (Nat.le_of_eq hp)) (List.take_of_length_le (Nat.le_of_eq hq))
  refine mS ?_; refine mD 2 [2] [] H ?_; clear H; intro gS H; refine mT ?_; clear H; intro a w H
  refine mCallT [] [] (h) H ?_; clear H; intro a w H
  refine mT ?_; clear H; intro a w H
  refine v_drawNil H ?_; clear H; intro H
  clear hX; have hX := And.intro @hp (@hq)
  refine wp_ret ?_; exact mEnd [] [] [.tmp 4] [_] hN hR H
end Go.Proofs.Ytigmpdhnhkdeiaa
/- Keys from a depth on: path.First, path.Last, path.Flip. -/
namespace Go.Proofs.Ytigmpdhnhkdeiaa
open Go Go.RowKit
end Go.Proofs.Ytigmpdhnhkdeiaa
/- A region that draws its order, in which one loud operation (new memory) may come up before or behind another one (a call): both are walked. -/
namespace Go.Proofs.Ytigmpdhnhkdeiaa
open Go
section
variable {P : Program} {ops : Array Oper} {Q : Exit → Act → World → Prop} {S : World → Prop} {L A : List Nat} {c f : Nat}
theorem unlisted {listed : Array Bool} {k : Nat} (h : k ∈ Region.ready .any ops listed) : listed.getD k false ≠ true := by
  obtain ⟨h1, _⟩ := mem_ready.1 h
  intro h2
  rcases Nat.lt_or_ge k listed.size with h' | h'
  · simp [h'] at h1 h2; rw [h1] at h2; cases h2
  · simp [Array.getElem?_eq_none h'] at h1
/-- Which operations are listed: those below k; f besides. -/
def Upto (n : Nat) (k : Nat) (x : Bool) (f : Nat) (listed : Array Bool) : Prop := listed.size = n ∧ ∀ i, i < n → ∀ d, listed.getD i d = (decide (i < k) || (x && i == f))
theorem Upto.set {n k f : Nat} {x : Bool} {listed : Array Bool} (h : Upto n k x f listed) (hk : k < n) : Upto n (k + 1) x f (listed.setIfInBounds k true) := by
  refine ⟨by simpa using h.1, fun i hi d => ?_⟩
  by_cases hik : k = i
  · subst hik; simp [h.1, hk]
  · rw [getD_set_ne d hik, h.2 i hi d]
    congr 1
    simp; omega
theorem Upto.down {n k f : Nat} {x : Bool} {listed : Array Bool} (hn : n = ops.size) (h : Upto n k x f listed) (he : ∀ (j : Nat) (o : Oper), ops[j]? = some o → ∀ e ∈ o.after, Region.binds .any e = true → e.on < j)
    (hfe : x = true → ∀ o, ops[f]? = some o → ∀ e ∈ o.after, Region.binds .any e = true → e.on < k) : Down ops listed := by
  intro j o hj hl e hm hb
  have hjlt := (Array.getElem?_eq_some_iff.1 hj).1
  rw [h.2 j (by omega) false] at hl
  have h1 := he j o hj e hm hb
  rw [h.2 e.on (by omega) false]
  simp only [Bool.or_eq_true, decide_eq_true_eq, Bool.and_eq_true, beq_iff_eq] at hl ⊢
  rcases hl with hl | ⟨hx, rfl⟩
  · exact .inl (by omega)
  · exact .inl (hfe hx o hj e hm hb)
theorem tAny_nil {listed : Array Bool} {a : Act} {w : World} (h : ∀ i, i < ops.size → ∀ d, listed.getD i d = true) (hQ : Q .normal a w) : tAny P ops Q S L A 0 listed a w := by
  refine ⟨?_, hQ⟩
  rw [List.eq_nil_iff_forall_not_mem]
  intro j hj
  obtain ⟨hju, o, ho, _⟩ := mem_ready.1 hj
  rw [h j (Array.getElem?_eq_some_iff.1 ho).1 true] at hju
  cases hju
end
section
variable {P : Program} {τ : Tab} {w0 w : World} {N : Gh} {g gS : Gh} {st st' sq sq' : St} {nt : Nat} {a : Act}
/-- Only boxes that are there may be frozen. -/
theorem v_fz (H : Rel P w0 N nt st a w) : Rel P w0 N nt ⟨st.t, st.bx, st.fz.filter fun i => decide (i < st.bx.length), st.rw⟩ a w := by
  obtain ⟨g, HI, hF⟩ := H
  refine ⟨g, ⟨HI.mem, HI.fr, HI.br, fun i x hx hf => ?_, HI.wr, HI.wz⟩, ⟨hF.sz, hF.df, hF.t, hF.u⟩⟩
  have h1 := HI.fz i x hx hf
  have h2 := (List.getElem?_eq_some_iff.1 hx).1
  rw [HI.br.len] at h2
  simp only [List.mem_filter, decide_eq_true_eq]
  exact ⟨h1, h2⟩
theorem RelT.toRel (H : RelT P w0 N nt gS sq st a w) : Rel P w0 N nt st a w := by
  obtain ⟨_, _, _, _, g, HI, hF, _⟩ := H
  exact ⟨g, HI, hF⟩
end
end Go.Proofs.Ytigmpdhnhkdeiaa
/- Rows of slices turned round in place; regions in every order of their loud operations. -/
namespace Go.Proofs.Ytigmpdhnhkdeiaa
open Go Go.RowKit
abbrev OneV := { v : Value // v.oneCell' = true }
instance : Inhabited OneV := ⟨⟨.bool false, rfl⟩⟩
end Go.Proofs.Ytigmpdhnhkdeiaa
namespace Go.Proofs.Ytigmpdhnhkdeiaa
open Go Go.RowKit
/-- Values that lean on no cell but bytes. -/
def leafA : AV → Bool
  | .v _ => true
  | .ba _ => true
  | .bs _ none => true
  | .bc _ _ none => true
  | .ptr _ _ => true
  | .pti _ _ _ => true
  | .win _ _ _ _ => true
  | .vw _ _ _ => true
  | .pv _ _ _ _ => true
  | .mr _ => true
  | .ref (.ba _) (.ba _) => true
  | .any => true
  | _ => false
def plainA : Nat → AV → Bool
  | d + 1, .st fs => fs.all (plainA d)
  | d + 1, .tup fs => fs.all (plainA d)
  | _, a => leafA a
theorem RC.plain {g g2 : Gh} (hro : ∀ b o c, g.ro b o = some (B8 c) → g2.ro b o = some (B8 c)) (hbx : g2.bx = g.bx) : ∀ {d : Nat} {T : Ty} {a : AV} {cs : List Value}, RC g T a cs → plainA d a = true → RC g2 T a cs := by
  intro d
  have leaf : ∀ {T : Ty} {a : AV} {cs : List Value}, RC g T a cs → leafA a = true → RC g2 T a cs := by
    intro T a cs h hp
    cases h with
    | v h => exact .v h
    | ba h => exact .ba h
    | nl => simp [leafA] at hp
    | cn h hs => simp [leafA] at hp
    | bs hc hm hr ht =>
      rename_i l tok A c
      cases tok with
      | some j => simp [leafA] at hp
      | none =>
        refine .bs hc hm ?_ fun i hi => by cases hi
        rcases hr with h | ⟨b, o, hA, hj⟩
        · exact .inl h
        · exact .inr ⟨b, o, hA, fun j hj' => hro _ _ _ (hj j hj')⟩
    | sl hc hm F hr hv ht => simp [leafA] at hp
    | ptr h ho => exact .ptr (by rw [hbx]; exact h) ho
    | pti h ho hk => exact .pti (by rw [hbx]; exact h) ho hk
    | win h ho hn hc hm hA => exact .win (by rw [hbx]; exact h) ho hn hc hm hA
    | vw h hT hg hn hm hx => exact .vw (by rw [hbx]; exact h) hT hg hn hm hx
    | pv h hT hg ho hx => exact .pv (by rw [hbx]; exact h) hT hg ho hx
    | mr h hT => exact .mr (by rw [hbx]; exact h) hT
    | slc hn hm F hr hv => simp [leafA] at hp
    | vwc h hk => simp [leafA] at hp
    | bc hn hm hr ht =>
      rename_i l n tok A
      cases tok with
      | some j => simp [leafA] at hp
      | none =>
        refine .bc hn hm ?_ fun i hi => by cases hi
        rcases hr with h | ⟨b, o, hA, hj⟩
        · exact .inl h
        · exact .inr ⟨b, o, hA, fun j hj' => hro _ _ _ (hj j hj')⟩
    | ref cs h hr =>
      cases h with
      | ba h =>
        rename_i n l
        refine .ref (l.map B8) (.ba h) fun j u hu => ?_
        have := hr j u hu
        simp only [List.getElem?_map, Option.map_eq_some_iff] at hu
        obtain ⟨c, _, rfl⟩ := hu
        exact hro _ _ _ this
      | _ => simp [leafA] at hp
  induction d with
  | zero => exact fun {T a cs} h hp => leaf h (by cases a <;> exact hp)
  | succ d ih =>
    intro T a cs h hp
    have key : ∀ {T : Ty} {cs : List Value} {fs : List AV}, RC g T (.st fs) cs → fs.all (plainA d) = true → RC g2 T (.st fs) cs := by
      intro T
      induction T with
      | cn T Ts _ ihs =>
        intro cs fs h hp
        cases h with
        | cn h hs =>
          simp only [List.all_cons, Bool.and_eq_true] at hp
          exact .cn (ih h hp.1) (ihs hs hp.2)
      | nl => intro cs fs h hp; cases h; exact .nl
      | _ => intro cs fs h hp; cases h
    cases a with
    | st fs => exact key h hp
    | tup fs => cases h
    | _ =>
      exact leaf h hp
theorem BC.plain {g g2 : Gh} (hro : ∀ b o c, g.ro b o = some (B8 c) → g2.ro b o = some (B8 c)) (hbx : g2.bx = g.bx) {d : Nat} {T : Ty} {a : AV} {x : Bx} (h : BC g T a x) (hp : plainA d a = true) : BC g2 T a x := by
  obtain ⟨h1, h2, h3⟩ := h.rc_of (fun _ _ e => by subst e; cases d <;> simp [plainA, leafA] at hp) (fun _ _ e => by subst e; cases d <;> simp [plainA, leafA] at hp) (fun _ _ e => by subst e; cases d <;> simp [plainA, leafA] at hp)
  exact .pl (h3.plain hro hbx hp) h1 h2
theorem RV.plain {g g2 : Gh} (hro : ∀ b o c, g.ro b o = some (B8 c) → g2.ro b o = some (B8 c)) (hbx : g2.bx = g.bx) {d : Nat} {a : AV} {u : Value} (h : RV g a u) (hp : plainA (d + 1) a = true) : RV g2 a u := by
  have one : ∀ {d : Nat} {a : AV} {u : Value}, RV1 g a u → plainA d a = true → RV1 g2 a u := fun {d a u} h hp => by
    rcases h with ⟨T, cs, h1, h2, h3⟩ | h
    · exact .inl ⟨T, cs, h1, h2.plain hro hbx hp, h3⟩
    · exact .inr (h.plain hro hbx hp)
  cases a with
  | any => trivial
  | tup az =>
    obtain ⟨vs, h1, h2, h3⟩ := h
    exact ⟨vs, h1, h2, fun i a u ha hu => one (h3 i a u ha hu) (List.all_eq_true.1 hp a (List.mem_of_getElem? ha))⟩
  | _ => exact (one (show RV1 g _ u from h) hp).rv
end Go.Proofs.Ytigmpdhnhkdeiaa
namespace Go.Proofs.Ytigmpdhnhkdeiaa
open Go
section
variable {P : Program} {ops : Array Oper} {Q : Exit → Act → World → Prop} {S : World → Prop} {L A : List Nat}
/-- Where an operation stands in an order of one's own. -/
def rk (ord : List Nat) (i : Nat) : Nat := ord.idxOf i
def chkO (ops : Array Oper) (ord : List Nat) : Bool :=
  ord.length == ops.size && ord.all (fun i => decide (i < ops.size)) && (List.range ops.size).all (fun i => ord.contains i) && (List.range ord.length).all (fun p => match ord[p]? with | some x => rk ord x == p | none => false) &&
    (List.range ops.size).all fun j => (match ops[j]? with | some o => o.after.all fun e => !Region.binds .any e || decide (rk ord e.on < rk ord j) | none => true)
structure OrdOk (ops : Array Oper) (ord : List Nat) : Prop where
  len : ord.length = ops.size
  lt : ∀ i ∈ ord, i < ops.size
  mem : ∀ i, i < ops.size → i ∈ ord
  pos : ∀ p (h : p < ord.length), rk ord ord[p] = p
  edge : ∀ j o, ops[j]? = some o → ∀ e ∈ o.after, Region.binds .any e = true → rk ord e.on < rk ord j
theorem chkO_ok {ops : Array Oper} {ord : List Nat} (h : chkO ops ord = true) : OrdOk ops ord := by
  simp only [chkO, Bool.and_eq_true, beq_iff_eq, List.all_eq_true, decide_eq_true_eq, List.mem_range, List.contains_eq_mem] at h
  obtain ⟨⟨⟨⟨h1, h2⟩, h3⟩, h4⟩, h5⟩ := h
  refine ⟨h1, h2, h3, fun p hp => ?_, fun j o hj e he hb => ?_⟩
  · have := h4 p hp; rw [List.getElem?_eq_getElem hp] at this; simpa using this
  · have := h5 j (Array.getElem?_eq_some_iff.1 hj).1
    rw [hj] at this
    have := (Array.all_eq_true_iff_forall_mem.1 this) e he
    simpa [hb] using this
theorem OrdOk.inj {ops : Array Oper} {ord : List Nat} (h : OrdOk ops ord) {i j : Nat} (hi : i < ops.size) (hj : j < ops.size) (e : rk ord i = rk ord j) : i = j := by
  have h1 := List.getElem_idxOf (List.idxOf_lt_length_of_mem (h.mem i hi))
  have h2 := List.getElem_idxOf (List.idxOf_lt_length_of_mem (h.mem j hj))
  unfold rk at e
  rw [← h1, ← h2]
  simp only [e]
def chkZ (ops : Array Oper) (pre : Array Nat) (ord L A : List Nat) : Bool :=
  (List.range ops.size).all fun j => (List.range ops.size).all fun i => !decide (rk ord i < rk ord j) || ((pre.getD j 0).testBit i || (!(L.contains i && L.contains j) && (!L.contains j || A.contains i) && (!L.contains i || A.contains j)) ||
    (L.contains i && L.contains j && (match ops[j]? with | some o => o.after.all fun e => !Region.binds .any e || (decide (rk ord e.on < rk ord i) || L.contains e.on) | none => true)))
/-- Two that wait for nothing: they change places, or both are loud and the later one waits for nothing but what stands ahead of the other. -/
theorem pair_Z {pre : Array Nat} {ord : List Nat} (hf : Fine ops pre [] []) (hz : chkZ ops pre ord L A = true) {listed : Array Bool} (hd : Down ops listed) {i j : Nat} (hi : i ∈ Region.ready .any ops listed) (hj : j ∈ Region.ready .any ops listed) (hij : rk ord i < rk ord j) :
    ∃ oi oj, ops[i]? = some oi ∧ ops[j]? = some oj ∧ oi.apart ops oj = true ∧ oj.apart ops oi = true ∧
      ((¬ (L.contains i = true ∧ L.contains j = true) ∧ (L.contains j = true → A.contains i = true) ∧ (L.contains i = true → A.contains j = true)) ∨
       (L.contains i = true ∧ L.contains j = true ∧ ∀ e ∈ oj.after, Region.binds .any e = true → rk ord e.on < rk ord i ∨ L.contains e.on = true)) := by
  obtain ⟨oi, oj, hoi, hoj, g1, g2, _⟩ := pair_of_ready hf hd hi hj (by rintro rfl; omega)
  refine ⟨oi, oj, hoi, hoj, g1, g2, ?_⟩
  have unl : ∀ k, listed.getD k true = false → listed.getD k false = true → False := by
    intro k h1 h2
    rcases Nat.lt_or_ge k listed.size with h' | h'
    · simp [h'] at h1 h2; rw [h1] at h2; cases h2
    · simp [Array.getElem?_eq_none h'] at h1
  obtain ⟨hiu, _⟩ := mem_ready.1 hi
  obtain ⟨_, oj', hoj', hallj⟩ := mem_ready.1 hj
  rw [hoj] at hoj'; injection hoj' with hoj'; subst hoj'
  have nij : (pre.getD j 0).testBit i = false := by
    cases ht : (pre.getD j 0).testBit i
    · rfl
    · exact (unl i hiu (pre_listed hf hd j oj hoj hallj i ht)).elim
  simp only [chkZ, List.all_eq_true, List.mem_range] at hz
  have h1 := hz j (Array.getElem?_eq_some_iff.1 hoj).1 i (Array.getElem?_eq_some_iff.1 hoi).1
  rw [nij, hoj, decide_eq_true hij] at h1
  simp only [Bool.not_true, Bool.false_or, Bool.or_eq_true, Bool.and_eq_true] at h1
  rcases h1 with ⟨⟨g1, g2⟩, g3⟩ | ⟨⟨g1, g2⟩, g3⟩
  · refine .inl ⟨fun ⟨x, y⟩ => ?_, fun x => ?_, fun x => ?_⟩
    · rw [x, y] at g1; cases g1
    · rw [x] at g2; simpa using g2
    · rw [x] at g3; simpa using g3
  · refine .inr ⟨g1, g2, fun e he hb => ?_⟩
    have := (Array.all_eq_true_iff_forall_mem.1 g3) e he
    simpa [hb] using this
theorem tOp_all {ι : Type} {p : ι → Prop} {j : Nat} {oj : Oper} {a : Act} {w : World} {K : ι → Act → World → Prop} (hi : ops[j]? = some oj) (hL : ¬ L.contains j = true) (hA : A.contains j = true) (hS : S w) (m0 : ι) (h0 : p m0) (h : ∀ m, p m → tOp P ops S L A j (K m) a w) :
    tOp P ops S L A j (fun a w => ∀ m, p m → K m a w) a w := by
  have h1 := h m0 h0
  unfold tOp at h1 ⊢
  simp only [hi] at h1 ⊢
  by_cases hw : Region.wanted oj (yielded ops a.tmps) = true
  · rw [if_pos hw, if_neg hL] at h1 ⊢
    obtain ⟨v, e1, e2, _⟩ := h1
    refine ⟨v, e1, e2, fun m hm => ?_⟩
    have h2 := h m hm
    unfold tOp at h2
    simp only [hi] at h2
    rw [if_pos hw, if_neg hL] at h2
    obtain ⟨u, f1, f2, f3⟩ := h2
    have := Vr.uniq (e2 hA w hS) (f2 hA w hS)
    subst this
    exact f3
  · rw [if_neg hw] at h1 ⊢
    intro m hm
    have h2 := h m hm
    unfold tOp at h2
    simp only [hi] at h2
    rw [if_neg hw] at h2
    exact h2
/-- A quiet operation at the head: it may come up now. -/
theorem ready_lt {listed : Array Bool} {i : Nat} (h : i ∈ Region.ready .any ops listed) : i < ops.size := by
  obtain ⟨_, o, h, _⟩ := mem_ready.1 h; exact (Array.getElem?_eq_some_iff.1 h).1
theorem tAny_quiet {pre : Array Nat} {ord : List Nat} (ho : OrdOk ops ord) (hf : Fine ops pre [] []) (hz : chkZ ops pre ord L A = true) {i : Nat} (hL : ¬ L.contains i = true) : ∀ (fuel : Nat) (listed : Array Bool) (a : Act) (w : World), Down ops listed → i ∈ Region.ready .any ops listed → S w →
    tOp P ops S L A i (tAny P ops Q S L A fuel (listed.setIfInBounds i true)) a w → tAny P ops Q S L A (fuel + 1) listed a w := by
  intro fuel
  induction fuel with
  | zero =>
    intro listed a w hd hr hS H
    refine ⟨fun h => (by rw [h] at hr; cases hr), fun j hj => ?_⟩
    by_cases hji : j = i
    · subst hji; exact H
    · have := ready_mono hj hji
      obtain ⟨a', w', h⟩ := tOp_some H
      rw [h.1] at this
      cases this
  | succ fuel ih =>
    intro listed a w hd hr hS H
    refine ⟨fun h => (by rw [h] at hr; cases hr), fun j hj => ?_⟩
    by_cases hji : j = i
    · subst hji; exact H
    · have hp : ∃ oi oj, ops[i]? = some oi ∧ ops[j]? = some oj ∧ oi.apart ops oj = true ∧ oj.apart ops oi = true ∧ ¬ (L.contains i = true ∧ L.contains j = true) ∧ (L.contains j = true → A.contains i = true) ∧ (L.contains i = true → A.contains j = true) := by
        rcases Nat.lt_or_gt_of_ne (fun e => hji (ho.inj (ready_lt hj) (ready_lt hr) e)) with h | h
        · obtain ⟨oj, oi, hoj, hoi, g1, g2, g3⟩ := pair_Z hf hz hd hj hr h
          rcases g3 with ⟨k1, k2, k3⟩ | ⟨_, k, _⟩
          · exact ⟨oi, oj, hoi, hoj, g2, g1, fun ⟨x, y⟩ => k1 ⟨y, x⟩, k3, k2⟩
          · exact absurd k hL
        · obtain ⟨oi, oj, hoi, hoj, g1, g2, g3⟩ := pair_Z hf hz hd hr hj h
          rcases g3 with ⟨k1, k2, k3⟩ | ⟨k, _⟩
          · exact ⟨oi, oj, hoi, hoj, g1, g2, k1, k2, k3⟩
          · exact absurd k hL
      obtain ⟨oi, oj, hoi, hoj, g1, g2, g3, g4, g5⟩ := hp
      have H2 : tOp P ops S L A i (tOp P ops S L A j (tAny P ops Q S L A fuel ((listed.setIfInBounds i true).setIfInBounds j true))) a w :=
        tOp_mono hS (fun a w _ h => h.2 j (ready_mono hj hji)) H
      have H3 := tOp_swap hoi hoj g1 g2 (fun cs b => hf.sel i oi cs b hoi) (fun cs b => hf.sel j oj cs b hoj) g3 g4 g5 hS H2
      refine tOp_mono hS (fun a' w' _ h => ?_) H3
      refine ih (listed.setIfInBounds j true) a' w' (down_set hd hj) (ready_mono hr (Ne.symm hji)) h.1 ?_
      rw [Array.setIfInBounds_comm _ _ hji]
      exact h.2
/-- A loud operation at the head: whichever loud one comes up first. -/
theorem tAny_loud {pre : Array Nat} {ord : List Nat} (ho : OrdOk ops ord) (hf : Fine ops pre [] []) (hz : chkZ ops pre ord L A = true) {i : Nat} (hL : L.contains i = true) : ∀ (fuel : Nat) (listed : Array Bool) (a : Act) (w : World), Down ops listed → (∀ j, j < ops.size → rk ord j < rk ord i → listed.getD j false = true) → i ∈ Region.ready .any ops listed → S w →
    (∀ m, (m ∈ Region.ready .any ops listed ∧ L.contains m = true) → tOp P ops S L A m (tAny P ops Q S L A fuel (listed.setIfInBounds m true)) a w) → tAny P ops Q S L A (fuel + 1) listed a w := by
  intro fuel
  induction fuel with
  | zero =>
    intro listed a w hd hlow hr hS H
    refine ⟨fun h => (by rw [h] at hr; cases hr), fun j hj => ?_⟩
    by_cases hji : j = i
    · subst hji; exact H j ⟨hj, hL⟩
    · have := ready_mono hj hji
      obtain ⟨a', w', h⟩ := tOp_some (H i ⟨hr, hL⟩)
      rw [h.1] at this
      cases this
  | succ fuel ih =>
    intro listed a w hd hlow hr hS H
    refine ⟨fun h => (by rw [h] at hr; cases hr), fun j hj => ?_⟩
    by_cases hLj : L.contains j = true
    · exact H j ⟨hj, hLj⟩
    · have hall : ∀ m, (m ∈ Region.ready .any ops listed ∧ L.contains m = true) → ∃ om oj, ops[m]? = some om ∧ ops[j]? = some oj ∧ om.apart ops oj = true ∧ oj.apart ops om = true ∧ A.contains j = true := fun m hm => by
        have hmj : m ≠ j := fun e => hLj (e ▸ hm.2)
        rcases Nat.lt_or_gt_of_ne (fun e => hmj (ho.inj (ready_lt hm.1) (ready_lt hj) e)) with h | h
        · obtain ⟨om, oj, k1, k2, k3, k4, k5⟩ := pair_Z hf hz hd hm.1 hj h
          rcases k5 with ⟨_, _, k7⟩ | ⟨_, k, _⟩
          · exact ⟨om, oj, k1, k2, k3, k4, k7 hm.2⟩
          · exact absurd k hLj
        · obtain ⟨oj, om, k1, k2, k3, k4, k5⟩ := pair_Z hf hz hd hj hm.1 h
          rcases k5 with ⟨_, k6, _⟩ | ⟨k, _⟩
          · exact ⟨om, oj, k2, k1, k4, k3, k6 hm.2⟩
          · exact absurd k hLj
      obtain ⟨_, oj, _, hoj, _, _, hAj⟩ := hall i ⟨hr, hL⟩
      have B : ∀ m, (m ∈ Region.ready .any ops listed ∧ L.contains m = true) → tOp P ops S L A j (fun a w => S w ∧ tOp P ops S L A m (tAny P ops Q S L A fuel ((listed.setIfInBounds m true).setIfInBounds j true)) a w) a w := fun m hm => by
        have hmj : j ≠ m := fun e => hLj (e ▸ hm.2)
        obtain ⟨om, oj', hom, hoj', g1, g2, _⟩ := hall m hm
        rw [hoj] at hoj'; injection hoj' with hoj'; subst hoj'
        have H2 : tOp P ops S L A m (tOp P ops S L A j (tAny P ops Q S L A fuel ((listed.setIfInBounds m true).setIfInBounds j true))) a w :=
          tOp_mono hS (fun a w _ h => h.2 j (ready_mono hj hmj)) (H m hm)
        exact tOp_swap hom hoj g1 g2 (fun cs b => hf.sel m om cs b hom) (fun cs b => hf.sel j oj cs b hoj) (fun ⟨_, y⟩ => hLj y) (fun y => absurd y hLj) (fun _ => hAj) hS H2
      refine tOp_mono hS (fun a' w' hS' h => ?_) (tOp_all hoj hLj hAj hS i ⟨hr, hL⟩ B)
      have hji : j ≠ i := fun e => hLj (e ▸ hL)
      refine ih (listed.setIfInBounds j true) a' w' (down_set hd hj) (fun k hks hk => by
        by_cases e : j = k
        · subst e; exact getD_set_true (hlow _ hks hk)
        · rw [getD_set_ne false e]; exact hlow k hks hk) (ready_mono hr (Ne.symm hji)) hS' fun m hm => ?_
      have hmj : j ≠ m := fun e => hLj (e ▸ hm.2)
      have hmr : m ∈ Region.ready .any ops listed := by
        by_cases hmi : m = i
        · subst hmi; exact hr
        · have hd' := down_set hd hj
          have hri := ready_mono hr (Ne.symm hji)
          rcases Nat.lt_or_gt_of_ne (fun e => hmi (ho.inj (ready_lt hm.1) (ready_lt hr) e)) with h | h
          · exfalso
            refine unlisted hm.1 ?_
            rw [getD_set_ne false hmj]
            exact hlow m (ready_lt hm.1) h
          · obtain ⟨_, om, _, hom, _, _, k5⟩ := pair_Z hf hz hd' hri hm.1 h
            rcases k5 with ⟨k, _⟩ | ⟨_, _, k⟩
            · exact absurd ⟨hL, hm.2⟩ k
            · obtain ⟨q1, om', q2, _⟩ := mem_ready.1 hm.1
              rw [hom] at q2; injection q2 with q2; subst q2
              rw [getD_set_ne true hmj] at q1
              obtain ⟨_, om', q3, q4⟩ := mem_ready.1 hm.1
              rw [hom] at q3; injection q3 with q3; subst q3
              refine mem_ready.2 ⟨q1, om, hom, fun e he hb => ?_⟩
              rcases k e he hb with k | k
              · exact hlow _ (Nat.lt_trans (hf.edge m _ hom e he hb) (ready_lt hm.1)) k
              · have q5 := q4 e he hb
                have hne : j ≠ e.on := fun hh => hLj (hh ▸ k)
                rwa [getD_set_ne _ hne] at q5
      rw [Array.setIfInBounds_comm _ _ hmj]
      exact (h m ⟨hmr, hm.2⟩).2
/-- Which loud operations may come up ahead of i: (i, m) in U; but not as long as one is open that m waits for: (m + 1000, j) in U. -/
def altZ (U : List (Nat × Nat)) (i : Nat) (rest : List Nat) : List Nat := rest.filter fun m => U.contains (i, m) && rest.all fun j => !U.contains (m + 1000, j)
/-- The walk in every order of the loud operations; U: those pairs that wait for nothing. -/
def wpZ (P : Program) (ops : Array Oper) (Q : Exit → Act → World → Prop) (S : World → Prop) (L A : List Nat) (U : List (Nat × Nat)) : Nat → List Nat → Act → World → Prop
  | 0, _, a, w => Q .normal a w
  | _ + 1, [], a, w => Q .normal a w
  | n + 1, i :: rest, a, w => if L.contains i then ∀ m ∈ i :: altZ U i rest, tOp P ops S L A m (wpZ P ops Q S L A U n ((i :: rest).erase m)) a w
      else tOp P ops S L A i (wpZ P ops Q S L A U n rest) a w
def chkU (ops : Array Oper) (pre : Array Nat) (ord L : List Nat) (U : List (Nat × Nat)) : Bool :=
  ((List.range ops.size).all fun j => (List.range ops.size).all fun i => !decide (rk ord i < rk ord j) || (pre.getD j 0).testBit i || !(L.contains i && L.contains j) || U.contains (i, j)) && U.all fun p => decide (p.1 < 1000) || (pre.getD (p.1 - 1000) 0).testBit p.2
theorem wpZ_any {pre : Array Nat} {ord : List Nat} {U : List (Nat × Nat)} (ho : OrdOk ops ord) (hf : Fine ops pre [] []) (hz : chkZ ops pre ord L A = true) (hu : chkU ops pre ord L U = true) : ∀ (n : Nat) (pend : List Nat) (listed : Array Bool) (a : Act) (w : World), pend.length = n → pend.Pairwise (rk ord · < rk ord ·) → (∀ m ∈ pend, m < ops.size) → listed.size = ops.size →
    (∀ i, i < ops.size → ∀ d, listed.getD i d = !pend.contains i) → Down ops listed → S w → wpZ P ops Q S L A U n pend a w → tAny P ops Q S L A n listed a w := by
  intro n
  induction n with
  | zero =>
    intro pend listed a w hl hp hb hsz hli hd hS h
    obtain rfl : pend = [] := List.length_eq_zero_iff.1 hl
    exact tAny_nil (fun i hi d => by rw [hli i hi d]; rfl) h
  | succ n ih =>
    intro pend listed a w hl hp hb hsz hli hd hS h
    match pend, hl with
    | i :: rest, hl =>
      have hl' : rest.length = n := by simpa using hl
      obtain ⟨hp1, hp2⟩ := List.pairwise_cons.1 hp
      have hilt := hb i List.mem_cons_self
      have hlow : ∀ j, j < ops.size → rk ord j < rk ord i → listed.getD j false = true := fun j hjs hj => by
        rw [hli j hjs false]
        simp only [Bool.not_eq_true', List.contains_eq_mem, decide_eq_false_iff_not, List.mem_cons, not_or]
        exact ⟨by rintro rfl; omega, fun e => by have := hp1 j e; omega⟩
      have hri : i ∈ Region.ready .any ops listed := by
        refine mem_ready.2 ⟨by rw [hli i hilt true]; simp, _, Array.getElem?_eq_getElem hilt, fun e he hb => hlow _ (Nat.lt_trans (hf.edge i _ (Array.getElem?_eq_getElem hilt) e he hb) hilt) (ho.edge i _ (Array.getElem?_eq_getElem hilt) e he hb)⟩
      have next : ∀ m, m ∈ Region.ready .any ops listed → m ∈ i :: rest → ∀ a w, S w → wpZ P ops Q S L A U n ((i :: rest).erase m) a w → tAny P ops Q S L A n (listed.setIfInBounds m true) a w := fun m hmr hm a w hS h => by
        refine ih _ _ a w (by rw [List.length_erase_of_mem hm, hl]; rfl) (hp.sublist List.erase_sublist) (fun x hx => hb x (List.mem_of_mem_erase hx)) (by simpa using hsz) (fun x hx d => ?_) (down_set hd hmr) hS h
        have hnd : (i :: rest).Nodup := hp.imp (fun {a b} h => by rintro rfl; omega)
        by_cases e : m = x
        · subst e
          have h1 : (listed.setIfInBounds m true).getD m d = true := by simp [hsz, hx]
          rw [h1]
          simp [List.contains_eq_mem, hnd.mem_erase_iff]
        · rw [getD_set_ne d e, hli x hx d]
          congr 1
          simp only [List.contains_eq_mem, hnd.mem_erase_iff]
          have : x ≠ m := fun h => e h.symm
          simp [this]
      unfold wpZ at h
      by_cases hL : L.contains i = true
      · rw [if_pos hL] at h
        refine tAny_loud ho hf hz hL n listed a w hd hlow hri hS fun m hm => ?_
        have hmp : m ∈ i :: rest := by
          obtain ⟨q1, om, q2, _⟩ := mem_ready.1 hm.1
          have := hli m (Array.getElem?_eq_some_iff.1 q2).1 true
          rw [q1] at this
          have hc : (i :: rest).contains m = true := by
            cases hq : (i :: rest).contains m
            · rw [hq] at this; cases this
            · rfl
          simpa [List.contains_eq_mem] using hc
        have hmc : m ∈ i :: altZ U i rest := by
          rcases List.mem_cons.1 hmp with rfl | hmr
          · exact List.mem_cons_self
          · refine List.mem_cons_of_mem _ (List.mem_filter.2 ⟨hmr, ?_⟩)
            have him := hp1 m hmr
            simp only [chkU, Bool.and_eq_true, List.all_eq_true, List.mem_range] at hu
            obtain ⟨hu, hu2⟩ := hu
            have h1 := hu m (hb m hmp) i hilt
            have h2 : (rest.all fun j => !U.contains (m + 1000, j)) = true := by
              refine List.all_eq_true.2 fun j hj => ?_
              cases hc : U.contains (m + 1000, j) with
              | false => rfl
              | true =>
                have h3 := hu2 (m + 1000, j) (by simpa [List.contains_eq_mem] using hc)
                have h4 : ¬ (m + 1000 < 1000) := by omega
                simp only [h4, decide_false, Bool.false_or, Nat.add_sub_cancel] at h3
                obtain ⟨_, om, hom, hall⟩ := mem_ready.1 hm.1
                have h5 := pre_listed hf hd m om hom hall j h3
                have hjb := hb j (List.mem_cons_of_mem _ hj)
                rw [hli j hjb false] at h5
                simp [List.contains_eq_mem, hj] at h5
            rw [decide_eq_true him] at h1
            obtain ⟨_, om, hom, hall⟩ := mem_ready.1 hm.1
            have hn : (pre.getD m 0).testBit i = false := by
              cases ht : (pre.getD m 0).testBit i
              · rfl
              · exact absurd (pre_listed hf hd m om hom hall i ht) (unlisted hri)
            rw [hn, hL, hm.2] at h1
            have h6 : U.contains (i, m) = true := by simpa using h1
            rw [h6, h2]; rfl
        exact tOp_mono hS (fun a' w' hS' hh => next m hm.1 hmp a' w' hS' hh) (h m hmc)
      · rw [if_neg hL] at h
        refine tAny_quiet ho hf hz hL n listed a w hd hri hS ?_
        refine tOp_mono hS (fun a' w' hS' hh => next i hri List.mem_cons_self a' w' hS' ?_) h
        rw [List.erase_cons_head]
        exact hh
theorem wp_region_Z {id : Nat} {a : Act} {w : World} {l : List Oper} (ord L A : List Nat) (U : List (Nat × Nat)) (S : World → Prop) (hm : P.follows .mixedOrders = true) (hc : chk l.toArray (Region.before l.toArray) [] [] = true) (hoc : chkO l.toArray ord = true) (hz : chkZ l.toArray (Region.before l.toArray) ord L A = true) (hu : chkU l.toArray (Region.before l.toArray) ord L U = true)
    (hS : S w.drew) (h : wpZ P l.toArray Q S L A U l.length ord a w.drew) : (Code.region id l.toArray true).wp P Q a w := by
  refine wp_region_any hm (wpAny_of_tAny (L := L) (A := A) (S := S) _ _ _ _ ?_)
  have hsz : l.toArray.size = l.length := by simp
  have ho := chkO_ok hoc
  have hol : ord.length = l.length := ho.len.trans hsz
  have := wpZ_any (P := P) (Q := Q) (S := S) ho (fine_of_chk hc) hz hu l.length ord (Array.replicate l.toArray.size false) a w.drew hol (List.pairwise_iff_getElem.2 fun i j hi hj hij => by rw [ho.pos i hi, ho.pos j hj]; exact hij) ho.lt (by simp)
    (fun i hi d => by
      have hm := ho.mem i hi
      simp only [Array.getD_eq_getD_getElem?, Array.getElem?_replicate, if_pos hi, List.contains_eq_mem]
      simp [hm])
    (fun j o hj hl => by
      have hjl := (Array.getElem?_eq_some_iff.1 hj).1
      simp only [Array.getD_eq_getD_getElem?, Array.getElem?_replicate, if_pos hjl] at hl
      simp at hl) hS h
  rw [hsz]
  exact this
/-- The next operations, in their order. -/
theorem wpZ_seg {U : List (Nat × Nat)} : ∀ (seg : List Oper) (i n : Nat) (rest : List Nat) (a : Act) (w : World), (∀ j, j < seg.length → L.contains (i + j) = false) → (∀ j, j < seg.length → ops[i + j]? = seg[j]?) → wpT P ops (fun _ a w => wpZ P ops Q S L A U n rest a w) S L A seg i a w →
    wpZ P ops Q S L A U (seg.length + n) (List.range' i seg.length ++ rest) a w
  | [], i, n, rest, a, w, _, _, h => by simpa [wpT] using h
  | o :: seg, i, n, rest, a, w, hL, ho, h => by
    have h0 := hL 0 (by simp)
    have o0 := ho 0 (by simp)
    rw [Nat.add_zero] at h0 o0
    have o0 : ops[i]? = some o := by simpa using o0
    rw [List.length_cons, show seg.length + 1 + n = (seg.length + n) + 1 by omega, List.range'_succ, List.cons_append]
    unfold wpZ
    rw [if_neg (by rw [h0]; exact Bool.false_ne_true)]
    have ih := fun a w hh => wpZ_seg (U := U) seg (i + 1) n rest a w (fun j hj => by have := hL (j + 1) (by simp; omega); rwa [show i + 1 + j = i + (j + 1) by omega]) (fun j hj => by have := ho (j + 1) (by simp; omega); rw [show i + 1 + j = i + (j + 1) by omega, this]; simp) hh
    unfold tOp
    simp only [o0]
    unfold wpT at h
    by_cases hw : Region.wanted o (yielded ops a.tmps) = true
    · rw [if_pos hw, if_neg (by rw [h0]; exact Bool.false_ne_true)] at h ⊢
      obtain ⟨v, e1, e2, e3⟩ := h
      exact ⟨v, e1, e2, ih _ _ e3⟩
    · rw [if_neg hw] at h ⊢
      exact ih _ _ h
theorem wpZ_run {U : List (Nat × Nat)} (k : Nat) {i n n' : Nat} {pend pend' : List Nat} {seg : List Oper} {a : Act} {w : World} (hp : pend = List.range' i k ++ pend') (hn : n = k + n') (hs : (ops.toList.drop i).take k = seg) (hk : seg.length = k) (hL : (List.range' i k).all (fun j => !L.contains j) = true)
    (h : wpT P ops (fun _ a w => wpZ P ops Q S L A U n' pend' a w) S L A seg i a w) : wpZ P ops Q S L A U n pend a w := by
  subst hp hn
  have := wpZ_seg (U := U) seg i n' pend' a w (fun j hj => by
    have := List.all_eq_true.1 hL (i + j) (List.mem_range'_1.2 ⟨by omega, by omega⟩)
    simpa using this) (fun j hj => by
    rw [← hs, List.getElem?_take, if_pos (by omega), List.getElem?_drop, Array.getElem?_toList]) h
  rw [hk] at this
  exact this
theorem wpZ_loud {U : List (Nat × Nat)} {i n : Nat} {rest : List Nat} {a : Act} {w : World} (hL : L.contains i = true) (h : ∀ m ∈ i :: altZ U i rest, tOp P ops S L A m (wpZ P ops Q S L A U n ((i :: rest).erase m)) a w) : wpZ P ops Q S L A U (n + 1) (i :: rest) a w := by
  unfold wpZ; rw [if_pos hL]; exact h
theorem wpZ_pick {U : List (Nat × Nat)} {m n : Nat} {pend pend' : List Nat} {o : Oper} {a : Act} {w : World} (he : pend.erase m = pend') (ho : (ops.toList.drop m).head? = some o) (h : wpT P ops (fun _ a w => wpZ P ops Q S L A U n pend' a w) S L A [o] m a w) : tOp P ops S L A m (wpZ P ops Q S L A U n (pend.erase m)) a w := by
  have ho : ops[m]? = some o := by rw [List.head?_drop, Array.getElem?_toList] at ho; exact ho
  rw [he]; unfold tOp; simp only [ho]; exact h
theorem all1 {p : Nat → Prop} {x : Nat} (h : p x) : ∀ m ∈ [x], p m := fun m hm => by simp at hm; subst hm; exact h
theorem wpZ_nil {U : List (Nat × Nat)} {p : List Nat} {a : Act} {w : World} (h : Q .normal a w) : wpZ P ops Q S L A U 0 p a w := h
theorem wpZ_two {U : List (Nat × Nat)} {i n : Nat} {rest cs : List Nat} {a : Act} {w : World} (hL : L.contains i = true) (hc : altZ U i rest = cs) (h : ∀ m ∈ i :: cs, tOp P ops S L A m (wpZ P ops Q S L A U n ((i :: rest).erase m)) a w) : wpZ P ops Q S L A U (n + 1) (i :: rest) a w := by
  subst hc; exact wpZ_loud hL h
theorem all2 {p : Nat → Prop} {x y : Nat} (h : p x ∧ p y) : ∀ m ∈ [x, y], p m := fun m hm => by
  simp at hm
  rcases hm with rfl | rfl
  · exact h.1
  · exact h.2
theorem all3 {p : Nat → Prop} {x y z : Nat} (h : p x ∧ p y ∧ p z) : ∀ m ∈ [x, y, z], p m := fun m hm => by
  simp at hm
  rcases hm with rfl | rfl | rfl
  · exact h.1
  · exact h.2.1
  · exact h.2.2
end
section
variable {P : Program} {w0 w : World} {N : Gh} {st : St} {nt : Nat} {a : Act}
/-- A region that draws its order, in every order of its loud operations. -/
theorem v_drawZ {id : Nat} {Q : Exit → Act → World → Prop} {l : List Oper} (nb : Nat) (ord L A : List Nat) (U : List (Nat × Nat)) (hm : P.follows .mixedOrders = true) (hchk : chk l.toArray (Region.before l.toArray) [] [] = true) (hoc : chkO l.toArray ord = true) (hz : chkZ l.toArray (Region.before l.toArray) ord L A = true) (hu : chkU l.toArray (Region.before l.toArray) ord L U = true) (H : Rel P w0 N nt st a w)
    (hb : (st.bx.take nb).all (fun x => low nb 0 4 x.2) = true)
    (k : ∀ gS, RelT P w0 N nt gS ⟨st.t.filter fun p => low nb 0 4 p.2.2, st.bx.take nb, st.fz, []⟩ st a w.drew → wpZ P l.toArray Q (Mem gS) L A U l.length ord a w.drew) : (Code.region id l.toArray true).wp P Q a w := by
  obtain ⟨g, HI, hF⟩ := H
  have HI' := HI.drew
  have hc := HI'.loose.cut (nr := 0) (Nat.zero_le _) (Nat.zero_le _) hb
  have hgb : ∀ (i : Nat) x, (g.cut nb 0).bx[i]? = some x → g.bx[i]? = some x := fun i x hx => by
    have : (g.bx.take nb)[i]? = some x := hx
    rw [List.getElem?_take] at this
    split at this
    · exact this
    · cases this
  have hle : (g.cut nb 0).le g := ⟨fun _ _ _ h => h, fun i x hx => ⟨x, hgb i x hx, x.same⟩, fun i r hr => by simp [Gh.cut] at hr⟩
  have hbs : Bs (g.cut nb 0) g := fun i x hx => ⟨x, hgb i x hx, rfl, rfl, rfl, rfl, rfl⟩
  have HT : RelT P w0 N nt (g.cut nb 0) ⟨st.t.filter fun p => low nb 0 4 p.2.2, st.bx.take nb, st.fz, []⟩ st a w.drew :=
    ⟨hc.mem, by simp [Gh.cut], ⟨hF.sz, hF.df, fun p hp hg => by
      simp only [List.mem_filter] at hp
      exact (hF.t p hp.1 hg).low_ (d := 3) hp.2, fun p hp hg => hF.u p (List.mem_filter.1 hp).1 hg⟩, hc.br, g, HI', hF, hle, hbs⟩
  exact wp_region_Z ord L A U (Mem (g.cut nb 0)) hm hchk hoc hz hu HT.mem (k _ HT)
end
end Go.Proofs.Ytigmpdhnhkdeiaa
/- path.Flip; span.right. -/
namespace Go.Proofs.Ytigmpdhnhkdeiaa
open Go Go.RowKit
def flipL (p : List UInt8) (d : Nat) : List UInt8 := p.set (d / 8) (p.getD (d / 8) 0 ^^^ UInt8.ofNat (128 / 2 ^ (d % 8)))
theorem flipL_len (p : List UInt8) (d : Nat) : (flipL p d).length = p.length := List.length_set
set_option maxRecDepth 100000 in
theorem flip_ : ∀ (m j : Fin 8) (x : Fin 256), bitAt (UInt8.ofNat x.val ^^^ UInt8.ofNat (128 / 2 ^ m.val)) j.val = if j.val = m.val then !bitAt (UInt8.ofNat x.val) j.val else bitAt (UInt8.ofNat x.val) j.val := by decide +kernel
set_option maxRecDepth 100000 in
theorem flipX_ : ∀ (m : Fin 8) (x : Fin 256), UInt8.ofNat (bits .xor .u8 (x.val : Int) ((128 : Int) / 2 ^ m.val)).toNat = UInt8.ofNat x.val ^^^ UInt8.ofNat (128 / 2 ^ m.val) ∧ 0 ≤ bits .xor .u8 (x.val : Int) ((128 : Int) / 2 ^ m.val) ∧ bits .xor .u8 (x.val : Int) ((128 : Int) / 2 ^ m.val) ≤ 255 := by decide +kernel
theorem flipX (m : Nat) (hm : m < 8) (x : UInt8) : UInt8.ofNat (bits .xor .u8 (x.toNat : Int) ((128 : Int) / 2 ^ m)).toNat = x ^^^ UInt8.ofNat (128 / 2 ^ m) ∧ 0 ≤ bits .xor .u8 (x.toNat : Int) ((128 : Int) / 2 ^ m) ∧ bits .xor .u8 (x.toNat : Int) ((128 : Int) / 2 ^ m) ≤ 255 := by
  have := flipX_ ⟨m, hm⟩ ⟨x.toNat, x.toNat_lt⟩
  simpa using this
theorem flipL_bit (p : List UInt8) (hp : p.length = 32) (d : Nat) (hd : d < 256) (t : Nat) (ht : t < 256) : bitN (flipL p d) t = if t = d then !bitN p t else bitN p t := by
  unfold bitN flipL
  by_cases h : t / 8 = d / 8
  · have e : (p.set (d / 8) (p.getD (d / 8) 0 ^^^ UInt8.ofNat (128 / 2 ^ (d % 8)))).getD (t / 8) 0 = p.getD (d / 8) 0 ^^^ UInt8.ofNat (128 / 2 ^ (d % 8)) := by
      rw [h, List.getD_eq_getElem?_getD, List.getElem?_set_self (by omega)]; rfl
    rw [e, h]
    have := flip_ ⟨d % 8, by omega⟩ ⟨t % 8, by omega⟩ ⟨(p.getD (d / 8) 0).toNat, UInt8.toNat_lt _⟩
    simp only [UInt8.ofNat_toNat] at this
    rw [this]
    by_cases h2 : t % 8 = d % 8
    · rw [if_pos h2, if_pos (by omega)]
    · rw [if_neg h2, if_neg (by omega)]
  · have e : (p.set (d / 8) (p.getD (d / 8) 0 ^^^ UInt8.ofNat (128 / 2 ^ (d % 8)))).getD (t / 8) 0 = p.getD (t / 8) 0 := by
      rw [List.getD_eq_getElem?_getD, List.getElem?_set_ne (by omega), List.getD_eq_getElem?_getD]
    rw [e, if_neg (by rintro rfl; exact h rfl)]
set_option maxRecDepth 20000 in
theorem flip_v (p : List UInt8) (hp : p.length = 32) (d : Nat) (hd : d < 256) : VC Try.prog 229 [.ba p, .v (.int .i64 (d : Int))] [] (.tup [.ba (flipL p d), .v (.int .i64 0)]) := by
  have hm := mask_v (d : Int) (by omega) (by omega)
  rw [Int.toNat_natCast] at hm
  obtain ⟨x1, x2, x3⟩ := flipX (d % 8) (by omega) (p.getD (d / 8) 0)
  have e8 : ((d : Int) / 8).toNat = d / 8 := by omega
  have hfl := flipL_len p d
  have hfd : p.set (d / 8) (p.getD (d / 8) 0 ^^^ UInt8.ofNat (128 / 2 ^ (d % 8))) = flipL p d := rfl
  refine mE Try.func229 ?_; intro N w0 a w hN hR H
  refine mW ?_; clear H; intro a w H
  refine mC H (fun hb => ?_) (fun hb => ?_)
  · exfalso
    rw [decide_eq_false (show ¬ (d : Int) < 0 by omega), decide_eq_false (show ¬ (256 : Int) ≤ (d : Int) by omega)] at hb
    cases hb
  · clear hb
    refine mS ?_
    have hX := @e8
    have hY := @hp
    repeat (first | refine wp_seq ?_ | refine wp_block ?_)
    refine v_drawZ 0 [0, 1, 2, 4, 3, 5, 6, 7, 8] [3, 5, 8] [0, 1, 2, 4] [(3, 5)] (by kernel_rfl) (by kernel_rfl) (by kernel_rfl) (by kernel_rfl) (by kernel_rfl) H (by rfl) ?_; clear H; intro gS H; try replace H := ntf H
    refine wpZ_run 3 (i := 0) (n' := 6) (pend' := [4, 3, 5, 6, 7, 8]) (by rfl) (by rfl) (by rfl) (by rfl) (by rfl) ?_
    repeat ((first | refine v_someT 3 tab_ok hN H (by rfl) ctX ?_ | refine v_someT 2 tab_ok hN H (by rfl) ctX ?_ | refine v_someT 1 tab_ok hN H (by rfl) ctX ?_); clear H; intro a w H; replace H := ntf H; simp only [List.drop_succ_cons, List.drop_zero, List.drop_nil])
    refine wpT_nil ?_
    try dsimp only
    refine wpZ_run 1 (i := 4) (n' := 5) (pend' := [3, 5, 6, 7, 8]) (by rfl) (by rfl) (by rfl) (by rfl) (by rfl) ?_
    repeat ((first | refine v_someT 3 tab_ok hN H (by rfl) ctX ?_ | refine v_someT 2 tab_ok hN H (by rfl) ctX ?_ | refine v_someT 1 tab_ok hN H (by rfl) ctX ?_); clear H; intro a w H; replace H := ntf H; simp only [List.drop_succ_cons, List.drop_zero, List.drop_nil])
    refine wpT_nil ?_
    try dsimp only
    refine wpZ_two (cs := [5]) (by rfl) (by rfl) ?_
    refine all2 ?_
    refine ⟨?_, ?_⟩
    focus
      refine wpZ_pick (pend' := [5, 6, 7, 8]) (by rfl) (by rfl) ?_
      repeat ((first | refine v_someT 3 tab_ok hN H (by rfl) ctX ?_ | refine v_someT 2 tab_ok hN H (by rfl) ctX ?_ | refine v_someT 1 tab_ok hN H (by rfl) ctX ?_); clear H; intro a w H; replace H := ntf H; simp only [List.drop_succ_cons, List.drop_zero, List.drop_nil])
      refine wpT_nil ?_
      try dsimp only
      refine wpZ_two (cs := []) (by rfl) (by rfl) ?_
      refine all1 ?_
      refine wpZ_pick (pend' := [6, 7, 8]) (by rfl) (by rfl) ?_
      refine mCallT [] [] (hm) H ?_; clear H; intro a w H
      refine wpT_nil ?_
      try dsimp only
      refine wpZ_run 2 (i := 6) (n' := 1) (pend' := [8]) (by rfl) (by rfl) (by rfl) (by rfl) (by rfl) ?_
      repeat ((first | refine v_someT 3 tab_ok hN H (by rfl) ctX ?_ | refine v_someT 2 tab_ok hN H (by rfl) ctX ?_ | refine v_someT 1 tab_ok hN H (by rfl) ctX ?_); clear H; intro a w H; replace H := ntf H; simp only [List.drop_succ_cons, List.drop_zero, List.drop_nil])
      refine wpT_nil ?_
      try dsimp only
      refine wpZ_two (cs := []) (by rfl) (by rfl) ?_
      refine all1 ?_
      refine wpZ_pick (pend' := []) (by rfl) (by rfl) ?_
      repeat ((first | refine v_someT 3 tab_ok hN H (by rfl) ctX ?_ | refine v_someT 2 tab_ok hN H (by rfl) ctX ?_ | refine v_someT 1 tab_ok hN H (by rfl) ctX ?_); clear H; intro a w H; replace H := ntf H; simp only [List.drop_succ_cons, List.drop_zero, List.drop_nil])
      refine wpT_nil ?_
      try dsimp only
      refine wpZ_nil ?_
      replace H := RelT.toRel H
    rotate_left 1
    focus
      refine wpZ_pick (pend' := [3, 6, 7, 8]) (by rfl) (by rfl) ?_
      refine mCallT [] [] (hm) H ?_; clear H; intro a w H
      refine wpT_nil ?_
      try dsimp only
      refine wpZ_two (cs := []) (by rfl) (by rfl) ?_
      refine all1 ?_
      refine wpZ_pick (pend' := [6, 7, 8]) (by rfl) (by rfl) ?_
      repeat ((first | refine v_someT 3 tab_ok hN H (by rfl) ctX ?_ | refine v_someT 2 tab_ok hN H (by rfl) ctX ?_ | refine v_someT 1 tab_ok hN H (by rfl) ctX ?_); clear H; intro a w H; replace H := ntf H; simp only [List.drop_succ_cons, List.drop_zero, List.drop_nil])
      refine wpT_nil ?_
      try dsimp only
      refine wpZ_run 2 (i := 6) (n' := 1) (pend' := [8]) (by rfl) (by rfl) (by rfl) (by rfl) (by rfl) ?_
      repeat ((first | refine v_someT 3 tab_ok hN H (by rfl) ctX ?_ | refine v_someT 2 tab_ok hN H (by rfl) ctX ?_ | refine v_someT 1 tab_ok hN H (by rfl) ctX ?_); clear H; intro a w H; replace H := ntf H; simp only [List.drop_succ_cons, List.drop_zero, List.drop_nil])
      refine wpT_nil ?_
      try dsimp only
      refine wpZ_two (cs := []) (by rfl) (by rfl) ?_
      refine all1 ?_
      refine wpZ_pick (pend' := []) (by rfl) (by rfl) ?_
      repeat ((first | refine v_someT 3 tab_ok hN H (by rfl) ctX ?_ | refine v_someT 2 tab_ok hN H (by rfl) ctX ?_ | refine v_someT 1 tab_ok hN H (by rfl) ctX ?_); clear H; intro a w H; replace H := ntf H; simp only [List.drop_succ_cons, List.drop_zero, List.drop_nil])
      refine wpT_nil ?_
      try dsimp only
      refine wpZ_nil ?_
      replace H := RelT.toRel H
    all_goals
      rw [x1, hfd] at H
      clear hX; have hX := And.intro @hfl (@hp)
      refine mW ?_; clear H; intro a w H
      refine wp_ret ?_; exact mEnd [] [] [.cell 4 52, .tmp 5] [_, _] hN hR H
end Go.Proofs.Ytigmpdhnhkdeiaa
/- A stretch of keys: what it touches, what it has; parts that are clean. -/
namespace Go.Proofs.Ytigmpdhnhkdeiaa
open Go Go.RowKit
end Go.Proofs.Ytigmpdhnhkdeiaa
/- Nodes: what is read. -/
namespace Go.Proofs.Ytigmpdhnhkdeiaa
open Go Go.RowKit
def Nd.one (a b : List UInt8) : Nd := ⟨1, a, b, z32, z32⟩
def Nd.two (a b : List UInt8) : Nd := ⟨2, z32, z32, a, b⟩
def decOk (l : List UInt8) : Prop := l = [0] ∨ (l.length = 65 ∧ (l.getD 0 0 = 1 ∨ l.getD 0 0 = 2))
instance (l : List UInt8) : Decidable (decOk l) := inferInstanceAs (Decidable (_ ∨ _))
def dec (l : List UInt8) : Nd := if l.length = 65 ∧ l.getD 0 0 = 1 then .one ((l.drop 1).take 32) (l.drop 33) else if l.length = 65 ∧ l.getD 0 0 = 2 then .two ((l.drop 1).take 32) (l.drop 33) else .zero
theorem z32_len : z32.length = 32 := by simp [z32]
theorem zero_wf : Nd.zero.wf := ⟨z32_len, z32_len, z32_len, z32_len⟩
theorem zero_ok : Nd.zero.ok := by simp [Nd.ok, Nd.bare, Nd.zero]
theorem zero_text : Nd.zero.text = [0] := by simp [Nd.text, Nd.zero]
end Go.Proofs.Ytigmpdhnhkdeiaa
/- Digests of a byte and parts: the program's. -/
namespace Go.Proofs.Ytigmpdhnhkdeiaa
open Go Go.RowKit
theorem of_v (t : UInt8) (ls : List (List UInt8)) (hb : ls.flatten.length ≤ 34359737000) (hl : ls.length ≤ 34359737000) : VC Try.prog 136 [.v (B8 t), .sl .sc (bss ls) none] [] (.ba (sum (t :: ls.flatten))) := by
  have hbl := bss_len ls
  have ht := t.toNat_lt
  refine mE Try.func136 ?_; intro N w0 a w hN hR H
  have hX := And.intro @ren_s8v (@ren_shv)
  have hY := And.intro @s8v.eq_1 (And.intro @shv.eq_1 (And.intro @W32.eq_1 (@h0.eq_1)))
  refine mW ?_; clear H; intro a w H
  refine mCall [] [] (new_v) H ?_; clear H; intro a w H; try refine wpList_nil ?_
  refine mW ?_; clear H; intro a w H
  obtain ⟨s1, b1, n1, h1, hw1⟩ := write_g [] [t] h0 (List.replicate 64 0) 0 good_nil (by simp) 0 (by decide)
  refine mCall [1] [] (hw1) H ?_; clear H; intro a w H; try refine wpList_nil ?_
  refine mW ?_; clear H; intro a w H
  refine v_loop (fun i : S8 × List UInt8 × Nat × Nat => ⟨[(4, none, .ptr 0 []), (5, none, .ptr 1 []), (15, none, .v (.int .i64 (i.2.2.2 : Int))), (14, none, .v (.int .i64 (ls.length : Int))), (13, none, .sl .sc (bss ls) none)], [(.ba 32, .ba (List.replicate 32 0)), (ti361.ty, shv i.1 i.2.1 i.2.2.1 (1 + (ls.take i.2.2.2).flatten.length))], [], []⟩)
    (fun i => Good (t :: (ls.take i.2.2.2).flatten) i.1 i.2.1 i.2.2.1 ∧ i.2.2.2 ≤ ls.length) (fun i => ls.length - i.2.2.2) (s1, b1, n1, 0) ⟨by simpa using h1, Nat.zero_le _⟩
    (H.to 2 0 ⟨Nat.le_trans hN (by decide), hR⟩ ⟨rfl, rfl, rfl, by rw [hbl]; rfl, rfl, trivial⟩ rfl rfl rfl rfl rfl) ?_
  clear H
  rintro ⟨s2, b2, n2, k⟩ a w ⟨h2, hk⟩ H
  dsimp only at h2 hk H
  refine mW ?_; clear H; intro a w H
  refine mC H (fun hb => ?_) (fun hb => ?_)
  · have hlt : k < ls.length := by simpa using hb
    have hf := flat_take_le ls (k + 1)
    rw [flat_take ls k hlt, List.length_append] at hf
    refine wp_skip ?_
    refine wp_seq ?_
    refine wp_block ?_
    refine wp_seq ?_
    (try refine wp_region_lit ?_); refine mN 2 hN H ?_; clear H; intro a w H
    rw [bss_get ls k hlt] at H
    refine mW ?_; clear H; intro a w H
    obtain ⟨s3, b3, n3, h3, hw3⟩ := write_g _ ls[k] s2 b2 n2 h2 (by omega) (1 + (ls.take k).flatten.length) (by omega)
    refine mCall [1] [] (hw3) H ?_; clear H; intro a w H; try refine wpList_nil ?_
    refine mW ?_; clear H; intro a w H
    refine ⟨(s3, b3, n3, k + 1), ⟨by rw [flat_take ls k hlt]; simpa using h3, hlt⟩, by dsimp only; omega, H.to 2 0 ⟨Nat.le_trans hN (by decide), hR⟩ ⟨rfl, rfl, rfl, rfl, rfl, trivial⟩ (by rw [flat_take ls k hlt, List.length_append]; simp only [List.take_succ_cons, List.take_zero]; rw [Nat.add_assoc]) rfl rfl rfl rfl⟩
  · have hge : k = ls.length := by simp at hb; omega
    subst hge
    rw [List.take_length] at h2 H
    have hsl := sum_length (t :: ls.flatten)
    have h1l : (t :: ls.flatten).length = 1 + ls.flatten.length := by simp; omega
    have hsum := sumS_v (t :: ls.flatten) s2 b2 n2 h2 (by rw [h1l]; omega)
    rw [h1l] at hsum
    refine mW ?_; clear H; intro a w H
    refine mCall [1] [] (hsum) H ?_; clear H; intro a w H; try refine wpList_nil ?_
    refine mW ?_; clear H; intro a w H
    refine wp_ret ?_; exact mEnd [] [] [.cell 4 50] [_] hN hR H
theorem empty_v : VC Try.prog 178 [] [] (.ba (sum [0])) := by
  have hsl := sum_length [0]
  refine mE Try.func178 ?_; intro N w0 a w hN hR H
  have hX := And.intro @ren_s8v (@ren_shv)
  have hY := And.intro @s8v.eq_1 (And.intro @shv.eq_1 (And.intro @W32.eq_1 (@h0.eq_1)))
  refine mW ?_; clear H; intro a w H
  refine mCall [] [] (of_v 0 [] (by simp) (by simp)) H ?_; clear H; intro a w H; try refine wpList_nil ?_
  refine mW ?_; clear H; intro a w H
  refine wp_ret ?_; exact mEnd [] [] [.cell 0 50] [_] hN hR H
end Go.Proofs.Ytigmpdhnhkdeiaa
/- What the statements share: bytes that are lent, and kept. -/
namespace Go.Proofs.Ytigmpdhnhkdeiaa
open Go Go.RowKit
/-- The marks in the spare room. -/
def marks (n : Nat) : Nat → List UInt8
  | 0 => []
  | k + 1 => marks n k ++ [UInt8.ofNat (200 + (n + k) % 50)]
end Go.Proofs.Ytigmpdhnhkdeiaa
/- The document's digests and nodes. -/
namespace Go.Proofs.Ytigmpdhnhkdeiaa
open Go Go.RowKit
end Go.Proofs.Ytigmpdhnhkdeiaa
/- The document's look at a node. -/
namespace Go.Proofs.Ytigmpdhnhkdeiaa
open Go Go.RowKit
end Go.Proofs.Ytigmpdhnhkdeiaa
/- The document's nodes, written and read. -/
namespace Go.Proofs.Ytigmpdhnhkdeiaa
open Go Go.RowKit
end Go.Proofs.Ytigmpdhnhkdeiaa
/- Digests of the empty place, of leaves, of inner nodes. -/
namespace Go.Proofs.Ytigmpdhnhkdeiaa
open Go Go.RowKit
def leafH (k v : List UInt8) : List UInt8 := sum (1 :: (k ++ v))
def innerH (l r : List UInt8) : List UInt8 := sum (2 :: (l ++ r))
theorem leafH_len (k v : List UInt8) : (leafH k v).length = 32 := sum_length _
theorem innerH_len (k v : List UInt8) : (innerH k v).length = 32 := sum_length _
set_option maxRecDepth 20000 in
theorem leaf_v (k v : List UInt8) (hk : k.length = 32) (hv : v.length = 32) : VC Try.prog 207 [.ba k, .ba v] [] (.ba (leafH k v)) := by
  have h := of_v 1 [k, v] (by simp; omega) (by simp)
  have e : [k, v].flatten = k ++ v := by simp
  rw [e] at h
  have hsl := sum_length (1 :: (k ++ v))
  unfold leafH
  refine mE Try.func207 ?_; intro N w0 a w hN hR H
  refine mW ?_; clear H; intro a w H
  have hX := And.intro (List.take_of_length_le (Nat.le_of_eq hk)) (List.take_of_length_le (Nat.le_of_eq hv))
  refine mS ?_; refine mD 0 [2, 3, 4] [] H ?_; clear H; intro gS H; refine mT ?_; clear H; intro a w H
  refine mCallT [] [] (h) H ?_; clear H; intro a w H
  refine mT ?_; clear H; intro a w H
  refine v_drawNil H ?_; clear H; intro H
  clear hX; have hX := And.intro @hk (@hv)
  refine wp_ret ?_; exact mEnd [] [] [.cell 4 50] [_] hN hR H
set_option maxRecDepth 20000 in
theorem inner_v (k v : List UInt8) (hk : k.length = 32) (hv : v.length = 32) : VC Try.prog 134 [.ba k, .ba v] [] (.ba (innerH k v)) := by
  have h := of_v 2 [k, v] (by simp; omega) (by simp)
  have e : [k, v].flatten = k ++ v := by simp
  rw [e] at h
  have hsl := sum_length (2 :: (k ++ v))
  unfold innerH
  refine mE Try.func134 ?_; intro N w0 a w hN hR H
  refine mW ?_; clear H; intro a w H
  have hX := And.intro (List.take_of_length_le (Nat.le_of_eq hk)) (List.take_of_length_le (Nat.le_of_eq hv))
  refine mS ?_; refine mD 0 [2, 3, 4] [] H ?_; clear H; intro gS H; refine mT ?_; clear H; intro a w H
  refine mCallT [] [] (h) H ?_; clear H; intro a w H
  refine mT ?_; clear H; intro a w H
  refine v_drawNil H ?_; clear H; intro H
  clear hX; have hX := And.intro @hk (@hv)
  refine wp_ret ?_; exact mEnd [] [] [.cell 4 50] [_] hN hR H
end Go.Proofs.Ytigmpdhnhkdeiaa
/- Roots of entries at a depth; entries that rise part where their bit does. In plain Lean. -/
namespace Go.Proofs.Ytigmpdhnhkdeiaa
open Go Go.RowKit
abbrev En := List UInt8 × List UInt8
def base (l : List En) : List UInt8 := match l with
  | [] => sum [0]
  | x :: _ => leafH x.1 x.2
def half (b : Bool) (d : Nat) (l : List En) : List En := l.filter fun x => bitN x.1 d == b
/-- Unlike keys that share their first d bits. -/
def Sep (d : Nat) (l : List En) : Prop := l.Pairwise fun x y => agree d x.1 y.1 ∧ ¬ agree 256 x.1 y.1
theorem Sep.deep {d : Nat} {l : List En} (h : Sep d l) (hd : 256 ≤ d) : l.length < 2 := by
  match l, h with
  | [], _ => simp
  | [_], _ => simp
  | x :: y :: l, h =>
    exfalso
    have := (List.pairwise_cons.1 h).1 y List.mem_cons_self
    exact this.2 fun t ht => this.1 t (by omega)
/-- Keys that rise and share their first d bits. -/
def Rise (d : Nat) (l : List En) : Prop := l.Pairwise fun x y => agree d x.1 y.1 ∧ ltB x.1 y.1
/-- How many entries have the bit 0. -/
def partN (d : Nat) (l : List En) : Nat := (l.takeWhile fun x => !bitN x.1 d).length
theorem Rise.part {d : Nat} (hd : d < 256) : ∀ {l : List En}, Rise d l → half false d l = l.take (partN d l) ∧ half true d l = l.drop (partN d l)
  | [], _ => ⟨rfl, rfl⟩
  | x :: l, h => by
    obtain ⟨h1, h2⟩ := List.pairwise_cons.1 h
    obtain ⟨e1, e2⟩ := Rise.part hd h2
    cases hb : bitN x.1 d
    · have e : partN d (x :: l) = partN d l + 1 := by simp [partN, List.takeWhile_cons, hb]
      rw [e]
      refine ⟨?_, ?_⟩
      · rw [List.take_succ_cons, ← e1]; simp [half, List.filter_cons, hb]
      · rw [List.drop_succ_cons, ← e2]; simp [half, List.filter_cons, hb]
    · have e : partN d (x :: l) = 0 := by simp [partN, List.takeWhile_cons, hb]
      have hall : ∀ y ∈ l, bitN y.1 d = true := fun y hy => by
        obtain ⟨ha, c, hc, g1, g2, g3⟩ := h1 y hy
        rcases Nat.lt_trichotomy c d with hl | rfl | hg
        · have := ha c hl; rw [g2, g3] at this; cases this
        · rw [hb] at g2; cases g2
        · rw [← g1 d hg]; exact hb
      rw [e]
      refine ⟨?_, ?_⟩
      · rw [List.take_zero]
        simp only [half, List.filter_cons, hb]
        simp only [Bool.true_beq, Bool.false_eq_true, if_false]
        refine List.filter_eq_nil_iff.2 fun y hy => ?_
        simp [hall y hy]
      · rw [List.drop_zero]
        refine List.filter_eq_self.2 fun y hy => ?_
        rcases List.mem_cons.1 hy with rfl | hy
        · simp [hb]
        · simp [hall y hy]
theorem Rise.chain {d : Nat} : ∀ {l : List En}, (∀ k (h : k + 1 < l.length), agree d (l[k]'(by omega)).1 l[k + 1].1 ∧ ltB (l[k]'(by omega)).1 l[k + 1].1) → Rise d l
  | [], _ => List.Pairwise.nil
  | [_], _ => by unfold Rise; simp
  | x :: y :: l, h => by
    have ih := Rise.chain (l := y :: l) fun k hk => h (k + 1) (by simpa using hk)
    have h0 := h 0 (by simp)
    refine List.pairwise_cons.2 ⟨fun z hz => ?_, ih⟩
    rcases List.mem_cons.1 hz with rfl | hz
    · exact h0
    · have := (List.pairwise_cons.1 ih).1 z hz
      exact ⟨h0.1.trans this.1, h0.2.trans this.2⟩
theorem half_mem {b : Bool} {d : Nat} {l : List En} {x : En} (h : x ∈ half b d l) : x ∈ l := (List.mem_filter.1 h).1
end Go.Proofs.Ytigmpdhnhkdeiaa
/- Sketches: parts, trees, what is read of them (plain). -/
namespace Go.Proofs.Ytigmpdhnhkdeiaa
open Go Go.RowKit
/-- A part of a sketch. -/
structure Br where
  k : UInt8
  key : List UInt8
  v : List UInt8
  g : List UInt8
  deriving DecidableEq
structure Br.wf (b : Br) : Prop where
  key : b.key.length = 32
  v : b.v.length = 32
  g : b.g.length = 32
def Br.av (b : Br) : AV := .st [.v (B8 b.k), .ba b.key, .ba b.v, .ba b.g]
def Br.clean (b : Br) : Bool := if b.k = 0 ∨ b.k = 2 then decide (b.key = z32 ∧ b.v = z32 ∧ b.g = z32) else if b.k = 1 then decide (b.g = z32) else if b.k = 3 then decide (b.key = z32 ∧ b.v = z32) else false
theorem Br.clean_k {b : Br} (h : b.clean = true) : b.k = 0 ∨ b.k = 1 ∨ b.k = 2 ∨ b.k = 3 := by
  unfold Br.clean at h
  split at h
  · rename_i h1; rcases h1 with h1 | h1 <;> simp [h1]
  · split at h
    · rename_i h1; simp [h1]
    · split at h
      · rename_i h1; simp [h1]
      · cases h
/-- A tree of digests. -/
inductive Tr where
  | e
  | c (g : List UInt8)
  | l (k v : List UInt8)
  | n (a b : Tr)
def Tr.dg : Tr → List UInt8
  | .e => sum [0]
  | .c g => g
  | .l k v => leafH k v
  | .n a b => innerH a.dg b.dg
def Tr.leaves : Tr → List En
  | .l k v => [(k, v)]
  | .n a b => a.leaves ++ b.leaves
  | _ => []
def Tr.way (key : List UInt8) : Nat → Tr → List (List UInt8)
  | d, .n a b => if bitN key d then a.dg :: b.way key (d + 1) else b.dg :: a.way key (d + 1)
  | _, _ => []
def Tr.fin (key : List UInt8) : Nat → Tr → Nd → Nd
  | d, .n a b, x => if bitN key d then b.fin key (d + 1) x else a.fin key (d + 1) x
  | _, .l k v, _ => Nd.one k v
  | _, _, x => x
def und (d : Nat) (k top : List UInt8) : Bool := decide (d ≤ com k top)
/-- The tree that is read of parts at a place, and what is left. -/
def rdTr (op : List UInt8 → Nat → Bool) : Nat → List UInt8 → Nat → List Br → Option (Tr × List Br)
  | 0, _, _, _ => none
  | _ + 1, _, _, [] => none
  | f + 1, top, d, b :: r =>
    if b.clean = false then none
    else if b.k = 0 then some (.e, r)
    else if b.k = 3 then (if op top d then none else some (.c b.g, r))
    else if op top d = false then none
    else if b.k = 1 then (if und d b.key top then some (.l b.key b.v, r) else none)
    else if 256 ≤ d then none
    else match rdTr op f top (d + 1) r with
      | none => none
      | some (x, r1) => match rdTr op f (flipL top d) (d + 1) r1 with
        | none => none
        | some (y, r2) => some (.n x y, r2)
def Low (d : Nat) (top : List UInt8) : Prop := top.length = 32 ∧ ∀ t, d ≤ t → t < 256 → bitN top t = false
theorem Low.zero : Low 0 (List.replicate 32 0) := by
  refine ⟨List.length_replicate, fun t _ ht => ?_⟩
  unfold bitN
  rw [List.getD_eq_getElem?_getD, List.getElem?_replicate, if_pos (by omega)]
  have : ∀ m : Fin 8, bitAt 0 m.val = false := by decide
  exact this ⟨t % 8, by omega⟩
theorem Low.up {d : Nat} {top : List UInt8} (h : Low d top) : Low (d + 1) top := ⟨h.1, fun t ht => h.2 t (by omega)⟩
theorem Low.flip {d : Nat} {top : List UInt8} (h : Low d top) (hd : d < 256) : Low (d + 1) (flipL top d) := by
  refine ⟨by rw [flipL_len]; exact h.1, fun t h1 h2 => ?_⟩
  rw [flipL_bit top h.1 d hd t h2, if_neg (by omega)]
  exact h.2 t (by omega) h2
theorem und_iff {d : Nat} (hd : d ≤ 256) {k top : List UInt8} : und d k top = true ↔ agree d k top := by
  unfold und; rw [decide_eq_true_eq]; exact com_ge hd
theorem agree_succ {d : Nat} {p q : List UInt8} : agree (d + 1) p q ↔ agree d p q ∧ bitN p d = bitN q d := by
  constructor
  · intro h; exact ⟨fun t ht => h t (by omega), h d (by omega)⟩
  · rintro ⟨h, h1⟩ t ht
    rcases Nat.lt_succ_iff_lt_or_eq.1 ht with h2 | rfl
    · exact h t h2
    · exact h1
theorem und_left {d : Nat} (hd : d < 256) {k top : List UInt8} (h : Low d top) : und (d + 1) k top = (und d k top && !bitN k d) := by
  rw [Bool.eq_iff_iff, und_iff (by omega), agree_succ, Bool.and_eq_true, und_iff (by omega), h.2 d (Nat.le_refl _) hd, Bool.not_eq_true']
theorem und_right {d : Nat} (hd : d < 256) {k top : List UInt8} (h : Low d top) : und (d + 1) k (flipL top d) = (und d k top && bitN k d) := by
  rw [Bool.eq_iff_iff, und_iff (by omega), agree_succ, Bool.and_eq_true, und_iff (by omega), flipL_bit top h.1 d hd d hd, if_pos rfl, h.2 d (Nat.le_refl _) hd, Bool.not_false]
  refine and_congr_left fun _ => ⟨fun hh t ht => (hh t ht).trans ?_, fun hh t ht => (hh t ht).trans ?_⟩
  · rw [flipL_bit top h.1 d hd t (by omega), if_neg (by omega)]
  · rw [flipL_bit top h.1 d hd t (by omega), if_neg (by omega)]
/-- What a reader of a stretch has. -/
structure RS where
  rest : List Br
  ks : List (List UInt8)
  ds : List (List UInt8)
  sd : List (List UInt8)
  en : Nd
end Go.Proofs.Ytigmpdhnhkdeiaa
/- Keys as ways down: the document's functions. -/
namespace Go.Proofs.Ytigmpdhnhkdeiaa
open Go Go.RowKit
end Go.Proofs.Ytigmpdhnhkdeiaa
/- Digests of the empty place, of leaves, of inner nodes: the document's. -/
namespace Go.Proofs.Ytigmpdhnhkdeiaa
open Go Go.RowKit
end Go.Proofs.Ytigmpdhnhkdeiaa
/- Values seen as others: a nil slice inside a box as a row that is none yet; an empty window as no bytes. -/
namespace Go.Proofs.Ytigmpdhnhkdeiaa
open Go Go.RowKit
section
variable {P : Program} {τ : Tab} {w0 w w' : World} {N : Gh} {g g1 g2 : Gh} {st st' : St} {nt : Nat} {a : Act}
end
end Go.Proofs.Ytigmpdhnhkdeiaa
/- Proofs as bytes: what may be, how it is told. -/
namespace Go.Proofs.Ytigmpdhnhkdeiaa
open Go Go.RowKit
structure Pf where
  s : List (List UInt8)
  e : Nd
  deriving DecidableEq
def bas (ls : List (List UInt8)) : List AV := ls.map .ba
theorem bas_len (ls : List (List UInt8)) : (bas ls).length = ls.length := by simp [bas]
theorem bas_get (ls : List (List UInt8)) (k : Nat) (hk : k < ls.length) : (bas ls).getD k .any = .ba ls[k] := by simp [bas, List.getD, hk]
structure Pf.wf (p : Pf) : Prop where
  s : ∀ h ∈ p.s, h.length = 32
  e : p.e.wf
def Pf.av (p : Pf) : AV := .st [.sl (.ba 32) (bas p.s) none, p.e.av]
def Pf.chk (p : Pf) : Int := if 256 < p.s.length then 4 else if p.e.ok ∧ p.e.k ≠ 2 then 0 else 2
/-- The digest of nothing. -/
def E0 : List UInt8 := sum [0]
def hidesB (s : List (List UInt8)) (t : Nat) : Bool := match s[t]? with | some h => h != E0 | none => false
def Pf.bits (p : Pf) : List UInt8 := bitsB p.s.length (hidesB p.s)
def hashes (s : List (List UInt8)) : List UInt8 := (s.filter (· != E0)).flatten
def Pf.text (p : Pf) : List UInt8 := [UInt8.ofNat (p.s.length / 256), UInt8.ofNat p.s.length] ++ (p.bits ++ (hashes p.s ++ p.e.text))
end Go.Proofs.Ytigmpdhnhkdeiaa
/- A contract that says less: rows that nobody will make longer. -/
namespace Go.Proofs.Ytigmpdhnhkdeiaa
open Go Go.RowKit
end Go.Proofs.Ytigmpdhnhkdeiaa
/- Proofs as bytes: how they are read. -/
namespace Go.Proofs.Ytigmpdhnhkdeiaa
open Go Go.RowKit
/-- The sides that marks and bytes say, what is left, and whether bytes were lacking. -/
def runS : List Bool → List UInt8 → List (List UInt8) × List UInt8 × Bool
  | [], r => ([], r, false)
  | m :: ms, r => if m = true ∧ r.length < 32 then ([E0], r, true) else ((if m then r.take 32 else E0) :: (runS ms (if m then r.drop 32 else r)).1, (runS ms (if m then r.drop 32 else r)).2)
def marksOf (bits : List UInt8) (n : Nat) : List Bool := (List.range n).map fun i => bitAt (bits.getD (i / 8) 0) (i % 8)
def rdQ (l : List UInt8) : Pf × Bool :=
  if l.length < 2 then (⟨[], .zero⟩, false) else
  if 256 < num 0 (l.take 2) then (⟨[], .zero⟩, false) else
  if (l.drop 2).length < (num 0 (l.take 2) + 7) / 8 then (⟨[], .zero⟩, false) else
  let x := runS (marksOf ((l.drop 2).take ((num 0 (l.take 2) + 7) / 8)) (num 0 (l.take 2))) ((l.drop 2).drop ((num 0 (l.take 2) + 7) / 8))
  if x.2.2 then (⟨x.1, .zero⟩, false) else (⟨x.1, dec x.2.1⟩, decide (decOk x.2.1))
end Go.Proofs.Ytigmpdhnhkdeiaa
/- Proofs as bytes: read, and told again. -/
namespace Go.Proofs.Ytigmpdhnhkdeiaa
open Go Go.RowKit
def Pf.zero : Pf := ⟨[], .zero⟩
def pOk (l : List UInt8) : Prop := (rdQ l).2 = true ∧ (rdQ l).1.chk = 0 ∧ (rdQ l).1.text = l
instance (l : List UInt8) : Decidable (pOk l) := inferInstanceAs (Decidable (_ ∧ _))
end Go.Proofs.Ytigmpdhnhkdeiaa
/- The digest at the top of a way: node.Up, and the document's. -/
namespace Go.Proofs.Ytigmpdhnhkdeiaa
open Go Go.RowKit
/-- One step up. -/
def stepH (key : List UInt8) (d : Nat) (x h : List UInt8) : List UInt8 := if bitN key d then innerH x h else innerH h x
/-- From the sides from the depth d on. -/
def upL (key : List UInt8) : Nat → List (List UInt8) → List UInt8 → List UInt8
  | _, [], h => h
  | d, x :: r, h => stepH key d x (upL key (d + 1) r h)
theorem stepH_len (key : List UInt8) (d : Nat) (x h : List UInt8) : (stepH key d x h).length = 32 := by unfold stepH; split <;> exact innerH_len _ _
theorem upL_len (key : List UInt8) (h : List UInt8) (hh : h.length = 32) : ∀ d s, (upL key d s h).length = 32
  | _, [] => hh
  | _, _ :: _ => stepH_len _ _ _ _
theorem upL_drop (key : List UInt8) (s : List (List UInt8)) (h : List UInt8) (k : Nat) (hk : k < s.length) : upL key k (s.drop k) h = stepH key k (s.getD k []) (upL key (k + 1) (s.drop (k + 1)) h) := by
  rw [List.drop_eq_getElem_cons hk, List.getElem_eq_getD []]; rfl
def topH (key : List UInt8) (p : Pf) : List UInt8 := upL key 0 p.s (sum p.e.text)
theorem topH_len (key : List UInt8) (p : Pf) : (topH key p).length = 32 := upL_len _ _ (sum_length _) _ _
theorem chk_all {p : Pf} (h : p.chk = 0) : p.s.length ≤ 256 ∧ p.e.ok ∧ p.e.k ≠ 2 := by
  unfold Pf.chk at h
  split at h
  · cases h
  · split at h
    · rename_i h1 h2; exact ⟨by omega, h2⟩
    · cases h
set_option maxRecDepth 20000 in
set_option maxHeartbeats 1000000 in
theorem up_v (key : List UInt8) (hk32 : key.length = 32) (p : Pf) (hw : p.wf) (h : p.chk = 0) : VC Try.prog 53 [.ba key, p.av] [] (.tup [.ba (topH key p), errv 0]) := by
  obtain ⟨hle, hok, hk2⟩ := chk_all h
  obtain ⟨s, n⟩ := p
  dsimp only at hle hok hk2
  have hs := hw.s
  have hsl := bas_len s
  have hdg := digest_ok n hw.e hok
  obtain ⟨h1, h2, h3, h4⟩ := id hw.e
  dsimp only at h1 h2 h3 h4 hs
  have hz2 := z32_len
  have hd2 : decide ((n.k.toNat : Int) = 2) = false := decide_eq_false fun e => hk2 (UInt8.toNat_inj.1 (by simp; omega))
  unfold topH
  obtain ⟨h0, hh0⟩ : ∃ h0, h0 = sum n.text := ⟨_, rfl⟩
  have h0l : h0.length = 32 := by rw [hh0]; exact sum_length _
  rw [← hh0] at hdg
  dsimp only
  rw [← hh0]
  clear hh0 hok hk2 h hw
  refine mE Try.func53 ?_; intro N w0 a w hN hR H
  simp only [Pf.av, Nd.av] at H hdg
  have hX := @hsl
  refine mW ?_; clear H; intro a w H
  refine mC H (fun hb => ?_) (fun hb => ?_)
  · exfalso; rw [decide_eq_true_eq] at hb; omega
  · refine mW ?_; clear H; intro a w H
    refine mCall [] [] (hdg) H ?_; clear H; intro a w H; try refine wpList_nil ?_
    refine mW ?_; clear H; intro a w H
    refine mC H (fun hb => ?_) (fun hb => ?_)
    · exfalso; simp only [hd2] at hb; simp at hb
    · clear hb
      refine mW ?_; clear H; intro a w H
      refine v_loop (fun k : Nat => ⟨[(8, none, .v (.int .i64 ((k : Int) - 1))), (6, none, .ptr 3 []), (5, none, .v (.int .i64 0)), (4, none, .ptr 2 []), (3, none, .ptr 1 []), (2, none, .ptr 0 [])],
        [(.ba 32, .ba key), (ti68.ty, .st [.sl (.ba 32) (bas s) none, .st [.v (B8 n.k), .ba n.key, .ba n.v, .ba n.l, .ba n.r]]), (.ba 32, .ba z32), (.ba 32, .ba (upL key k (s.drop k) h0))], [], []⟩)
        (fun k => k ≤ s.length) (fun k => k) s.length (Nat.le_refl _) (H.to 4 0 ⟨Nat.le_trans hN (by decide), hR⟩ ⟨rfl, rfl, rfl, rfl, rfl, rfl, trivial⟩ (by rw [List.drop_length]; rfl) rfl rfl rfl rfl) ?_
      clear H
      intro k a w hk H
      have hul := upL_len key h0 h0l k (s.drop k)
      refine mW ?_; clear H; intro a w H
      refine mC H (fun hb => ?_) (fun hb => ?_)
      · obtain ⟨j, rfl⟩ : ∃ j, k = j + 1 := ⟨k - 1, by rw [decide_eq_true_eq] at hb; omega⟩
        clear hb
        have hj : j < s.length := hk
        have e1 : (((j + 1 : Nat) : Int) - 1) = (j : Int) := by omega
        rw [e1] at H
        have hbit := bit_v key hk32 (j : Int)
        have hj256 : j < 256 := by omega
        have hpb : decide (pbit key (j : Int) = 0) = !bitN key j := by
          rw [pbit, if_pos (by omega), Int.toNat_natCast]; cases bitN key j <;> rfl
        have hup := upL_drop key s h0 j hj
        have hg := bas_get s j hj
        rw [List.getElem_eq_getD []] at hg
        have hx : (s.getD j []).length = 32 := by rw [← List.getElem_eq_getD (h := hj) []]; exact hs _ (List.getElem_mem _)
        generalize s.getD j [] = x at *
        generalize upL key (j + 1) (s.drop (j + 1)) h0 = u at *
        have hin1 := inner_v u x hul hx
        have hin2 := inner_v x u hx hul
        have hil1 := innerH_len u x
        have hil2 := innerH_len x u
        refine mW ?_; clear H; intro a w H
        refine mCall [] [] (hbit) H ?_; clear H; intro a w H; try refine wpList_nil ?_
        refine mW ?_; clear H; intro a w H
        simp only [hpb] at H
        refine mC H (fun hb => ?_) (fun hb => ?_)
        · have hbf : bitN key j = false := by cases h : bitN key j; rfl; rw [h] at hb; simp at hb
          have hst : stepH key j x u = innerH u x := by unfold stepH; rw [hbf]; rfl
          rw [hst] at hup
          clear hb
          refine mW ?_; clear H; intro a w H
          clear hX; have hX := And.intro @hsl (@hg)
          have hY := And.intro @hsl (@hx)
          refine mS ?_; refine mD 0 [6, 7] [] H ?_; clear H; intro gS H
          refine mTN 3 hN H ?_; clear H; intro a w H; simp only [List.drop_succ_cons, List.drop_zero, List.drop_nil]
          refine mTN 2 hN H ?_; clear H; intro a w H; simp only [List.drop_succ_cons, List.drop_zero, List.drop_nil]
          refine mTN 1 hN H ?_; clear H; intro a w H; simp only [List.drop_succ_cons, List.drop_zero, List.drop_nil]
          refine mCallT [] [] (hin1) H ?_; clear H; intro a w H
          refine mT ?_; clear H; intro a w H
          refine v_drawNil H ?_; clear H; intro H
          clear hX; have hX := @hsl
          clear hY
          refine mW ?_; clear H; intro a w H
          exact ⟨j, by omega, by omega, H.to 4 0 ⟨Nat.le_trans hN (by decide), hR⟩ ⟨rfl, rfl, rfl, rfl, rfl, rfl, trivial⟩ (by dsimp only; rw [hup]; rfl) rfl rfl rfl rfl⟩
        · have hbt : bitN key j = true := by cases h : bitN key j; (rw [h] at hb; simp at hb); rfl
          have hst : stepH key j x u = innerH x u := by unfold stepH; rw [hbt]; rfl
          rw [hst] at hup
          clear hb
          refine mW ?_; clear H; intro a w H
          clear hX; have hX := And.intro @hsl (@hg)
          have hY := And.intro @hsl (@hx)
          refine mS ?_; refine mD 0 [6, 7] [] H ?_; clear H; intro gS H
          refine mTN 2 hN H ?_; clear H; intro a w H; simp only [List.drop_succ_cons, List.drop_zero, List.drop_nil]
          refine mTN 2 hN H ?_; clear H; intro a w H; simp only [List.drop_succ_cons, List.drop_zero, List.drop_nil]
          refine mTN 2 hN H ?_; clear H; intro a w H; simp only [List.drop_succ_cons, List.drop_zero, List.drop_nil]
          refine mCallT [] [] (hin2) H ?_; clear H; intro a w H
          refine mT ?_; clear H; intro a w H
          refine v_drawNil H ?_; clear H; intro H
          clear hX; have hX := @hsl
          clear hY
          refine mW ?_; clear H; intro a w H
          exact ⟨j, by omega, by omega, H.to 4 0 ⟨Nat.le_trans hN (by decide), hR⟩ ⟨rfl, rfl, rfl, rfl, rfl, rfl, trivial⟩ (by dsimp only; rw [hup]; rfl) rfl rfl rfl rfl⟩
      · have hge : k = 0 := by rw [decide_eq_false_iff_not] at hb; omega
        subst hge
        rw [List.drop_zero] at H hul
        refine mW ?_; clear H; intro a w H
        refine wp_ret ?_; exact mEnd [] [] [.cell 4 50, .tmp 5] [_, _] hN hR H
end Go.Proofs.Ytigmpdhnhkdeiaa
/- What a tree of digests says of a key (plain). -/
namespace Go.Proofs.Ytigmpdhnhkdeiaa
open Go Go.RowKit
theorem agree_trans' {d : Nat} {p q top : List UInt8} (h : agree d p top) (k : agree d q top) : agree d p q := fun t ht => (h t ht).trans (k t ht).symm
/-- All leaves lie where they are. -/
theorem rd_und {op : List UInt8 → Nat → Bool} : ∀ {f : Nat} {top : List UInt8} {d : Nat} {l : List Br} {t : Tr} {r : List Br}, f + d = 257 → Low d top → rdTr op f top d l = some (t, r) → ∀ x ∈ t.leaves, und d x.1 top = true
  | 0, top, d, l, t, r, _, _, h => by simp [rdTr] at h
  | f + 1, top, d, [], t, r, _, _, h => by simp [rdTr] at h
  | f + 1, top, d, b :: rest, t, r, hf, hl, h => by
    unfold rdTr at h
    split at h
    · cases h
    · split at h
      · simp only [Option.some.injEq, Prod.mk.injEq] at h; obtain ⟨rfl, rfl⟩ := h; intro x hx; cases hx
      · split at h
        · split at h
          · cases h
          · simp only [Option.some.injEq, Prod.mk.injEq] at h; obtain ⟨rfl, rfl⟩ := h; intro x hx; cases hx
        · split at h
          · cases h
          · split at h
            · split at h
              · rename_i h6
                simp only [Option.some.injEq, Prod.mk.injEq] at h; obtain ⟨rfl, rfl⟩ := h; intro x hx
                simp only [Tr.leaves, List.mem_singleton] at hx; subst hx; exact h6
              · cases h
            · split at h
              · cases h
              · have hd : d < 256 := by omega
                split at h
                · cases h
                · rename_i x r1 e1
                  split at h
                  · cases h
                  · rename_i y r2 e2
                    simp only [Option.some.injEq, Prod.mk.injEq] at h; obtain ⟨rfl, rfl⟩ := h
                    intro z hz
                    simp only [Tr.leaves, List.mem_append] at hz
                    rcases hz with hz | hz
                    · have := rd_und (by omega) hl.up e1 z hz
                      rw [und_left hd hl, Bool.and_eq_true] at this; exact this.1
                    · have := rd_und (by omega) (hl.flip hd) e2 z hz
                      rw [und_right hd hl, Bool.and_eq_true] at this; exact this.1
structure Said (k : List UInt8) (d : Nat) (t : Tr) : Prop where
  up : upL k d (t.way k d) (sum (t.fin k d Nd.zero).text) = t.dg
  len : d + (t.way k d).length ≤ 256
  cases : (t.fin k d Nd.zero = Nd.zero ∧ ∀ v, (k, v) ∉ t.leaves) ∨ ∃ x, x ∈ t.leaves ∧ t.fin k d Nd.zero = Nd.one x.1 x.2 ∧ agree (d + (t.way k d).length) x.1 k ∧ ∀ v, (k, v) ∈ t.leaves → x = (k, v)
theorem rd_said {op : List UInt8 → Nat → Bool} {k : List UInt8} (hop : ∀ top d, d ≤ 256 → und d k top = true → op top d = true) : ∀ {f : Nat} {top : List UInt8} {d : Nat} {l : List Br} {t : Tr} {r : List Br}, f + d = 257 → Low d top → rdTr op f top d l = some (t, r) → und d k top = true → Said k d t
  | 0, top, d, l, t, r, _, _, h, _ => by simp [rdTr] at h
  | f + 1, top, d, [], t, r, _, _, h, _ => by simp [rdTr] at h
  | f + 1, top, d, b :: rest, t, r, hf, hl, h, hu => by
    have ho := hop top d (by omega) hu
    unfold rdTr at h
    split at h
    · cases h
    · split at h
      · simp only [Option.some.injEq, Prod.mk.injEq] at h; obtain ⟨rfl, rfl⟩ := h
        exact ⟨by simp [Tr.way, Tr.fin, Tr.dg, upL, zero_text], by simp [Tr.way]; omega, .inl ⟨rfl, fun v hv => by cases hv⟩⟩
      · split at h
        · simp [ho] at h
        · split at h
          · cases h
          · split at h
            · split at h
              · rename_i h6
                simp only [Option.some.injEq, Prod.mk.injEq] at h; obtain ⟨rfl, rfl⟩ := h
                refine ⟨by simp [Tr.way, Tr.fin, Tr.dg, upL, Nd.text, Nd.one, leafH], by simp [Tr.way]; omega, .inr ⟨(b.key, b.v), List.mem_singleton.2 rfl, rfl, ?_, fun v hv => (List.mem_singleton.1 hv).symm⟩⟩
                simp only [Tr.way, List.length_nil, Nat.add_zero]
                exact agree_trans' ((und_iff (by omega)).1 h6) ((und_iff (by omega)).1 hu)
              · cases h
            · split at h
              · cases h
              · have hd : d < 256 := by omega
                split at h
                · cases h
                · rename_i x r1 e1
                  split at h
                  · cases h
                  · rename_i y r2 e2
                    simp only [Option.some.injEq, Prod.mk.injEq] at h; obtain ⟨rfl, rfl⟩ := h
                    have ux := rd_und (by omega) hl.up e1
                    have uy := rd_und (by omega) (hl.flip hd) e2
                    cases hb : bitN k d
                    · have hs := rd_said hop (by omega) hl.up e1 (by rw [und_left hd hl, hu, hb]; rfl)
                      have hno : ∀ v, (k, v) ∉ y.leaves := fun v hv => by
                        have := uy _ hv
                        rw [und_right hd hl, hb, Bool.and_false] at this; cases this
                      refine ⟨?_, ?_, ?_⟩
                      · simp only [Tr.way, Tr.fin, Tr.dg, hb, Bool.false_eq_true, if_false, upL, stepH, hs.up]
                      · have := hs.len; simp only [Tr.way, hb, Bool.false_eq_true, if_false, List.length_cons]; omega
                      · simp only [Tr.way, Tr.fin, hb, Bool.false_eq_true, if_false, List.length_cons, Tr.leaves, List.mem_append]
                        rcases hs.cases with ⟨h1, h2⟩ | ⟨z, h1, h2, h3, h4⟩
                        · exact .inl ⟨h1, fun v hv => hv.elim (h2 v) (hno v)⟩
                        · exact .inr ⟨z, .inl h1, h2, by rw [show d + ((x.way k (d + 1)).length + 1) = d + 1 + (x.way k (d + 1)).length by omega]; exact h3, fun v hv => hv.elim (h4 v) fun h => absurd h (hno v)⟩
                    · have hs := rd_said hop (by omega) (hl.flip hd) e2 (by rw [und_right hd hl, hu, hb]; rfl)
                      have hno : ∀ v, (k, v) ∉ x.leaves := fun v hv => by
                        have := ux _ hv
                        rw [und_left hd hl, hb, Bool.not_true, Bool.and_false] at this; cases this
                      refine ⟨?_, ?_, ?_⟩
                      · simp only [Tr.way, Tr.fin, Tr.dg, hb, if_true, upL, stepH, hs.up]
                      · have := hs.len; simp only [Tr.way, hb, if_true, List.length_cons]; omega
                      · simp only [Tr.way, Tr.fin, hb, if_true, List.length_cons, Tr.leaves, List.mem_append]
                        rcases hs.cases with ⟨h1, h2⟩ | ⟨z, h1, h2, h3, h4⟩
                        · exact .inl ⟨h1, fun v hv => hv.elim (hno v) (h2 v)⟩
                        · exact .inr ⟨z, .inr h1, h2, by rw [show d + ((y.way k (d + 1)).length + 1) = d + 1 + (y.way k (d + 1)).length by omega]; exact h3, fun v hv => hv.elim (fun h => absurd h (hno v)) (h4 v)⟩
/-- What is read has what the parts have. -/
theorem rd_parts {op : List UInt8 → Nat → Bool} : ∀ {f : Nat} {top : List UInt8} {d : Nat} {l : List Br} {t : Tr} {r : List Br}, rdTr op f top d l = some (t, r) → (∀ b ∈ l, b.wf) → (∀ b ∈ r, b.wf) ∧ t.dg.length = 32 ∧ (∀ x ∈ t.leaves, x.1.length = 32 ∧ x.2.length = 32) ∧ (∀ k d, ∀ g ∈ t.way k d, g.length = 32) ∧ r.length < l.length ∧ t.leaves.length + r.length ≤ l.length
  | 0, top, d, l, t, r, h, _ => by simp [rdTr] at h
  | f + 1, top, d, [], t, r, h, _ => by simp [rdTr] at h
  | f + 1, top, d, b :: rest, t, r, h, hw => by
    have hw2 : ∀ b ∈ rest, b.wf := fun b hb => hw b (List.mem_cons_of_mem _ hb)
    have hb := hw b List.mem_cons_self
    unfold rdTr at h
    split at h
    · cases h
    · split at h
      · simp only [Option.some.injEq, Prod.mk.injEq] at h; obtain ⟨rfl, rfl⟩ := h
        exact ⟨hw2, sum_length _, fun x hx => (by cases hx), fun k d g hg => by simp [Tr.way] at hg, by simp, by simp [Tr.leaves]⟩
      · split at h
        · split at h
          · cases h
          · simp only [Option.some.injEq, Prod.mk.injEq] at h; obtain ⟨rfl, rfl⟩ := h
            exact ⟨hw2, hb.g, fun x hx => (by cases hx), fun k d g hg => by simp [Tr.way] at hg, by simp, by simp [Tr.leaves]⟩
        · split at h
          · cases h
          · split at h
            · split at h
              · simp only [Option.some.injEq, Prod.mk.injEq] at h; obtain ⟨rfl, rfl⟩ := h
                refine ⟨hw2, leafH_len _ _, fun x hx => ?_, fun k d g hg => by simp [Tr.way] at hg, by simp, by simp [Tr.leaves]; omega⟩
                simp only [Tr.leaves, List.mem_singleton] at hx; subst hx; exact ⟨hb.key, hb.v⟩
              · cases h
            · split at h
              · cases h
              · split at h
                · cases h
                · rename_i x r1 e1
                  split at h
                  · cases h
                  · rename_i y r2 e2
                    simp only [Option.some.injEq, Prod.mk.injEq] at h; obtain ⟨rfl, rfl⟩ := h
                    obtain ⟨a1, a2, a3, a4, a5, a6⟩ := rd_parts e1 hw2
                    obtain ⟨b1, b2, b3, b4, b5, b6⟩ := rd_parts e2 a1
                    refine ⟨b1, innerH_len _ _, fun z hz => ?_, fun k d g hg => ?_, by simp; omega, by simp [Tr.leaves]; omega⟩
                    · simp only [Tr.leaves, List.mem_append] at hz
                      exact hz.elim (a3 z) (b3 z)
                    · simp only [Tr.way] at hg
                      split at hg
                      · rcases List.mem_cons.1 hg with rfl | hg
                        · exact a2
                        · exact b4 _ _ _ hg
                      · rcases List.mem_cons.1 hg with rfl | hg
                        · exact b2
                        · exact a4 _ _ _ hg
end Go.Proofs.Ytigmpdhnhkdeiaa
/- What a reader of a sketch for keys makes of its parts (plain). -/
namespace Go.Proofs.Ytigmpdhnhkdeiaa
open Go Go.RowKit
theorem Nd.one_wf2 {key v : List UInt8} (h1 : key.length = 32) (h2 : v.length = 32) : (Nd.one key v).wf := ⟨h1, h2, List.length_replicate, List.length_replicate⟩
/-- A key and its way, as it is read. -/
structure MW where
  key : List UInt8
  sd : List (List UInt8)
  en : Nd
structure MRd where
  rest : List Br
  ws : List MW
  dg : List UInt8
  ok : Bool
def MW.aside (h : List UInt8) (w : MW) : MW := ⟨w.key, w.sd ++ [h], w.en⟩
def MW.lf (b : Br) (w : MW) : MW := ⟨w.key, w.sd, Nd.one b.key b.v⟩
def MW.by (t : Tr) (d : Nat) (w : MW) : MW := ⟨w.key, w.sd ++ (t.way w.key d).reverse, t.fin w.key d w.en⟩
def mpartN (d : Nat) (ws : List MW) : Nat := (ws.takeWhile fun w => !bitN w.key d).length
/-- What a reader for keys makes of the parts at a place. -/
def plM : Nat → List UInt8 → Nat → List MW → List Br → MRd
  | 0, _, _, ws, l => ⟨l, ws, z32, false⟩
  | _ + 1, _, _, ws, [] => ⟨[], ws, z32, false⟩
  | f + 1, top, d, ws, b :: r =>
    if b.clean = false then ⟨b :: r, ws, z32, false⟩
    else if b.k = 0 then ⟨r, ws, sum [0], true⟩
    else if b.k = 3 then ⟨r, ws, b.g, ws.isEmpty⟩
    else if b.k = 1 then ⟨r, ws.map (MW.lf b), leafH b.key b.v, !ws.isEmpty && und d b.key top⟩
    else if ws.isEmpty = true then ⟨r, ws, z32, false⟩
    else if 256 ≤ d then ⟨r, ws, z32, false⟩
    else
      let x := plM f top (d + 1) (ws.take (mpartN d ws)) r
      if x.ok = false then ⟨x.rest, x.ws ++ ws.drop (mpartN d ws), z32, false⟩
      else
        let y := plM f (flipL top d) (d + 1) (ws.drop (mpartN d ws)) x.rest
        ⟨y.rest, x.ws.map (MW.aside y.dg) ++ y.ws.map (MW.aside x.dg), innerH x.dg y.dg, y.ok⟩
theorem mpart_split {d : Nat} : ∀ {ws : List MW}, ws.Pairwise (fun a b => bitN a.key d = true → bitN b.key d = true) → ws.take (mpartN d ws) = ws.filter (fun w => !bitN w.key d) ∧ ws.drop (mpartN d ws) = ws.filter (fun w => bitN w.key d)
  | [], _ => ⟨rfl, rfl⟩
  | a :: l, h => by
    rw [List.pairwise_cons] at h
    cases hb : bitN a.key d
    · have hn : mpartN d (a :: l) = mpartN d l + 1 := by unfold mpartN; rw [List.takeWhile_cons, hb]; rfl
      obtain ⟨h1, h2⟩ := mpart_split h.2
      rw [hn, List.take_succ_cons, List.drop_succ_cons, List.filter_cons, List.filter_cons, hb, h1, h2]
      exact ⟨rfl, rfl⟩
    · have hn : mpartN d (a :: l) = 0 := by unfold mpartN; rw [List.takeWhile_cons, hb]; rfl
      have hl : ∀ w ∈ a :: l, bitN w.key d = true := fun w hw => by
        rcases List.mem_cons.1 hw with rfl | hw
        · exact hb
        · exact h.1 w hw hb
      rw [hn, List.take_zero, List.drop_zero]
      exact ⟨(List.filter_eq_nil_iff.2 fun w hw => by rw [hl w hw]; decide).symm, (List.filter_eq_self.2 hl).symm⟩
/-- Which ways a place has. -/
structure MSeg (ks : List (List UInt8)) (top : List UInt8) (d : Nat) (ws : List MW) : Prop where
  keys : ws.map (·.key) = ks.filter fun k => und d k top
  up : ws.Pairwise fun a b => ltB a.key b.key
theorem MSeg.und {ks : List (List UInt8)} {top : List UInt8} {d : Nat} {ws : List MW} (h : MSeg ks top d ws) {w : MW} (hw : w ∈ ws) : und d w.key top = true := by
  have : w.key ∈ ws.map (·.key) := List.mem_map.2 ⟨w, hw, rfl⟩
  rw [h.keys, List.mem_filter] at this; exact this.2
theorem MSeg.any {ks : List (List UInt8)} {top : List UInt8} {d : Nat} {ws : List MW} (h : MSeg ks top d ws) : (ks.any fun k => Go.Proofs.Ytigmpdhnhkdeiaa.und d k top) = !ws.isEmpty := by
  have hk := h.keys
  cases ws with
  | nil =>
    rw [List.any_eq_false.2 fun k hk2 h2 => ?_]; rfl
    have : k ∈ ks.filter fun k => Go.Proofs.Ytigmpdhnhkdeiaa.und d k top := List.mem_filter.2 ⟨hk2, h2⟩
    rw [← hk] at this; cases this
  | cons w ws =>
    have : w.key ∈ ks.filter fun k => Go.Proofs.Ytigmpdhnhkdeiaa.und d k top := by rw [← hk]; exact List.mem_cons_self
    rw [List.mem_filter] at this
    rw [List.any_eq_true.2 ⟨_, this⟩]; rfl
theorem MSeg.mono {ks : List (List UInt8)} {top : List UInt8} {d : Nat} {ws : List MW} (hd : d < 256) (h : MSeg ks top d ws) : ws.Pairwise fun a b => bitN a.key d = true → bitN b.key d = true := by
  refine h.up.imp_of_mem fun {a b} ha hb hab hbit => ?_
  obtain ⟨c, hc, h1, h2, h3⟩ := hab
  have ga := (und_iff (by omega)).1 (h.und ha)
  have gb := (und_iff (by omega)).1 (h.und hb)
  rcases Nat.lt_trichotomy c d with hcd | rfl | hcd
  · have := (ga c hcd).trans (gb c hcd).symm
    rw [h2, h3] at this; cases this
  · rw [h2] at hbit; cases hbit
  · rw [← h1 d hcd]; exact hbit
theorem MSeg.left {ks : List (List UInt8)} {top : List UInt8} {d : Nat} {ws : List MW} (hd : d < 256) (hl : Low d top) (h : MSeg ks top d ws) : MSeg ks top (d + 1) (ws.take (mpartN d ws)) := by
  refine ⟨?_, h.up.sublist (List.take_sublist _ _)⟩
  rw [(mpart_split (h.mono hd)).1]
  have : (fun k => Go.Proofs.Ytigmpdhnhkdeiaa.und (d + 1) k top) = fun k => (!bitN k d) && Go.Proofs.Ytigmpdhnhkdeiaa.und d k top := funext fun k => by rw [und_left hd hl, Bool.and_comm]
  rw [this, ← List.filter_filter, ← h.keys, List.filter_map]; rfl
theorem MSeg.right {ks : List (List UInt8)} {top : List UInt8} {d : Nat} {ws : List MW} (hd : d < 256) (hl : Low d top) (h : MSeg ks top d ws) : MSeg ks (flipL top d) (d + 1) (ws.drop (mpartN d ws)) := by
  refine ⟨?_, h.up.sublist (List.drop_sublist _ _)⟩
  rw [(mpart_split (h.mono hd)).2]
  have : (fun k => Go.Proofs.Ytigmpdhnhkdeiaa.und (d + 1) k (flipL top d)) = fun k => bitN k d && Go.Proofs.Ytigmpdhnhkdeiaa.und d k top := funext fun k => by rw [und_right hd hl, Bool.and_comm]
  rw [this, ← List.filter_filter, ← h.keys, List.filter_map]; rfl
/-- A reader for keys reads the tree. -/
theorem plM_rd {op : List UInt8 → Nat → Bool} {ks : List (List UInt8)} (hop : ∀ top d, d ≤ 256 → op top d = ks.any fun k => und d k top) : ∀ {f : Nat} {top : List UInt8} {d : Nat} {ws : List MW} {l : List Br}, f + d = 257 → Low d top → MSeg ks top d ws →
    (∀ t r, rdTr op f top d l = some (t, r) → plM f top d ws l = ⟨r, ws.map (MW.by t d), t.dg, true⟩) ∧ (rdTr op f top d l = none → (plM f top d ws l).ok = false)
  | 0, top, d, ws, l, _, _, _ => ⟨fun t r h => (by simp [rdTr] at h), fun _ => rfl⟩
  | f + 1, top, d, ws, [], _, _, _ => ⟨fun t r h => (by simp [rdTr] at h), fun _ => rfl⟩
  | f + 1, top, d, ws, b :: rest, hf, hl, hs => by
    have ho : op top d = !ws.isEmpty := (hop top d (by omega)).trans hs.any
    have hby : ∀ {t : Tr}, (∀ k, t.way k d = []) → (∀ k x, t.fin k d x = x) → ws.map (MW.by t d) = ws := fun {t} h1 h2 => by
      conv => rhs; rw [← List.map_id ws]
      refine List.map_congr_left fun w _ => ?_
      unfold MW.by; rw [h1, h2, List.reverse_nil, List.append_nil]; rfl
    unfold rdTr plM
    by_cases h1 : b.clean = false
    · rw [if_pos h1, if_pos h1]; exact ⟨fun t r h => (by cases h), fun _ => rfl⟩
    rw [if_neg h1, if_neg h1]
    by_cases h2 : b.k = 0
    · rw [if_pos h2, if_pos h2]
      refine ⟨fun t r h => ?_, fun h => (by cases h)⟩
      simp only [Option.some.injEq, Prod.mk.injEq] at h; obtain ⟨rfl, rfl⟩ := h
      rw [hby (fun _ => rfl) fun _ _ => rfl]; rfl
    rw [if_neg h2, if_neg h2]
    by_cases h3 : b.k = 3
    · rw [if_pos h3, if_pos h3, ho]
      cases he : ws.isEmpty
      · exact ⟨fun t r h => (by cases h), fun _ => rfl⟩
      · refine ⟨fun t r h => ?_, fun h => (by cases h)⟩
        simp only [Bool.not_true, Bool.false_eq_true, if_false, Option.some.injEq, Prod.mk.injEq] at h; obtain ⟨rfl, rfl⟩ := h
        rw [hby (fun _ => rfl) fun _ _ => rfl]; rfl
    rw [if_neg h3, if_neg h3, ho]
    cases he : ws.isEmpty
    · rw [if_neg (show ¬ ((!false) = false) by decide)]
      by_cases h4 : b.k = 1
      · rw [if_pos h4, if_pos h4]
        cases hu : und d b.key top
        · exact ⟨fun t r h => (by cases h), fun _ => rfl⟩
        · refine ⟨fun t r h => ?_, fun h => (by cases h)⟩
          simp only [if_true, Option.some.injEq, Prod.mk.injEq] at h; obtain ⟨rfl, rfl⟩ := h
          have : ws.map (MW.lf b) = ws.map (MW.by (.l b.key b.v) d) := List.map_congr_left fun w _ => by
            unfold MW.by MW.lf; simp only [Tr.way, Tr.fin, List.reverse_nil, List.append_nil]
          rw [this]; rfl
      rw [if_neg h4, if_neg h4, if_neg (show ¬ (false = true) by decide)]
      by_cases h5 : 256 ≤ d
      · rw [if_pos h5, if_pos h5]; exact ⟨fun t r h => (by cases h), fun _ => rfl⟩
      rw [if_neg h5, if_neg h5]
      have hd : d < 256 := by omega
      obtain ⟨s1, s2⟩ := mpart_split (hs.mono hd)
      obtain ⟨x1, x2⟩ := plM_rd hop (f := f) (l := rest) (by omega) hl.up (hs.left hd hl)
      cases e1 : rdTr op f top (d + 1) rest with
      | none =>
        have hx := x2 e1
        refine ⟨fun t r h => (by cases h), fun _ => ?_⟩
        dsimp only
        rw [if_pos hx]
      | some p =>
        obtain ⟨x, r1⟩ := p
        have hx := x1 x r1 e1
        obtain ⟨y1, y2⟩ := plM_rd hop (f := f) (l := r1) (by omega) (hl.flip hd) (hs.right hd hl)
        dsimp only
        rw [hx]
        dsimp only
        rw [if_neg (show ¬ (true = false) by decide)]
        cases e2 : rdTr op f (flipL top d) (d + 1) r1 with
        | none => exact ⟨fun t r h => (by cases h), fun _ => y2 e2⟩
        | some p =>
          obtain ⟨y, r2⟩ := p
          refine ⟨fun t r h => ?_, fun h => (by cases h)⟩
          simp only [Option.some.injEq, Prod.mk.injEq] at h; obtain ⟨rfl, rfl⟩ := h
          rw [y1 y r2 e2]
          dsimp only
          have w1 : ((ws.take (mpartN d ws)).map (MW.by x (d + 1))).map (MW.aside y.dg) = (ws.take (mpartN d ws)).map (MW.by (.n x y) d) := by
            rw [List.map_map]
            refine List.map_congr_left fun w hw => ?_
            rw [s1, List.mem_filter] at hw
            have hb : bitN w.key d = false := by simpa using hw.2
            show MW.aside y.dg (MW.by x (d + 1) w) = _
            unfold MW.aside MW.by
            simp only [Tr.way, Tr.fin, hb, Bool.false_eq_true, if_false, List.reverse_cons, List.append_assoc]
          have w2 : ((ws.drop (mpartN d ws)).map (MW.by y (d + 1))).map (MW.aside x.dg) = (ws.drop (mpartN d ws)).map (MW.by (.n x y) d) := by
            rw [List.map_map]
            refine List.map_congr_left fun w hw => ?_
            rw [s2, List.mem_filter] at hw
            have hb : bitN w.key d = true := hw.2
            show MW.aside x.dg (MW.by y (d + 1) w) = _
            unfold MW.aside MW.by
            simp only [Tr.way, Tr.fin, hb, if_true, List.reverse_cons, List.append_assoc]
          rw [w1, w2, ← List.map_append, List.take_append_drop]; rfl
    · rw [if_pos (show (!true) = false by decide)]
      refine ⟨fun t r h => (by cases h), fun _ => ?_⟩
      by_cases h4 : b.k = 1
      · rw [if_pos h4]; rfl
      · rw [if_neg h4, if_pos rfl]
theorem aside_key (h : List UInt8) : (fun w : MW => w.key) ∘ MW.aside h = fun w => w.key := rfl
/-- It keeps the keys; the sides stay few. -/
theorem plM_keys : ∀ {f : Nat} {top : List UInt8} {d : Nat} {ws : List MW} {l : List Br}, (plM f top d ws l).ws.map (·.key) = ws.map (·.key)
  | 0, top, d, ws, l => rfl
  | f + 1, top, d, ws, [] => rfl
  | f + 1, top, d, ws, b :: rest => by
    unfold plM
    dsimp only
    repeat' split
    all_goals first
      | rfl
      | (rw [List.map_map]; rfl)
      | (rw [List.map_append, plM_keys, ← List.map_append, List.take_append_drop])
      | (rw [List.map_append, List.map_map, List.map_map, aside_key, aside_key, plM_keys, plM_keys, ← List.map_append, List.take_append_drop])
theorem plM_len {f : Nat} {top : List UInt8} {d : Nat} {ws : List MW} {l : List Br} : (plM f top d ws l).ws.length = ws.length := by
  have := congrArg List.length (plM_keys (f := f) (top := top) (d := d) (ws := ws) (l := l))
  rwa [List.length_map, List.length_map] at this
theorem plM_few {m : Nat} : ∀ {f : Nat} {top : List UInt8} {d : Nat} {ws : List MW} {l : List Br}, (∀ w ∈ ws, w.sd.length ≤ m) → ∀ w ∈ (plM f top d ws l).ws, w.sd.length ≤ m + f
  | 0, top, d, ws, l, h => h
  | f + 1, top, d, ws, [], h => fun w hw => Nat.le_trans (h w hw) (Nat.le_add_right _ _)
  | f + 1, top, d, ws, b :: rest, h => by
    have hle : ∀ w ∈ ws, w.sd.length ≤ m + (f + 1) := fun w hw => Nat.le_trans (h w hw) (Nat.le_add_right _ _)
    unfold plM
    dsimp only
    repeat' split
    all_goals first
      | exact hle
      | (intro w hw
         obtain ⟨z, hz, rfl⟩ := List.mem_map.1 hw
         exact hle z hz)
      | (intro w hw
         rcases List.mem_append.1 hw with hw | hw
         · exact Nat.le_trans (plM_few (fun w hw => h w (List.mem_of_mem_take hw)) w hw) (by omega)
         · exact hle w (List.mem_of_mem_drop hw))
      | (intro w hw
         rcases List.mem_append.1 hw with hw | hw
         · obtain ⟨z, hz, rfl⟩ := List.mem_map.1 hw
           have := plM_few (fun w hw => h w (List.mem_of_mem_take hw)) z hz
           show (z.sd ++ [_]).length ≤ _
           rw [List.length_append, List.length_singleton]; omega
         · obtain ⟨z, hz, rfl⟩ := List.mem_map.1 hw
           have := plM_few (fun w hw => h w (List.mem_of_mem_drop hw)) z hz
           show (z.sd ++ [_]).length ≤ _
           rw [List.length_append, List.length_singleton]; omega)
structure MW.wf (w : MW) : Prop where
  key : w.key.length = 32
  sd : ∀ g ∈ w.sd, g.length = 32
  en : w.en.wf
structure MRd.wf (x : MRd) (l : List Br) : Prop where
  rest : ∀ b ∈ x.rest, b ∈ l
  len : x.rest.length ≤ l.length
  ws : ∀ w ∈ x.ws, w.wf
  dg : x.dg.length = 32
theorem plM_wf : ∀ {f : Nat} {top : List UInt8} {d : Nat} {ws : List MW} {l : List Br}, (∀ b ∈ l, b.wf) → (∀ w ∈ ws, w.wf) → (plM f top d ws l).wf l
  | 0, top, d, ws, l, _, h => ⟨fun b hb => hb, Nat.le_refl _, h, z32_len⟩
  | f + 1, top, d, ws, [], _, h => ⟨fun b hb => hb, Nat.le_refl _, h, z32_len⟩
  | f + 1, top, d, ws, b :: rest, hb, h => by
    have hb2 : ∀ b ∈ rest, b.wf := fun b h => hb b (List.mem_cons_of_mem _ h)
    have hb1 := hb b List.mem_cons_self
    have hx := plM_wf (f := f) (top := top) (d := d + 1) hb2 fun w hw => h w (List.mem_of_mem_take (i := mpartN d ws) hw)
    have hy := plM_wf (f := f) (top := flipL top d) (d := d + 1) (fun b hb => hb2 b (hx.rest b hb)) fun w hw => h w (List.mem_of_mem_drop (i := mpartN d ws) hw)
    unfold plM
    dsimp only
    repeat' split
    · exact ⟨fun b hb => hb, Nat.le_refl _, h, z32_len⟩
    · exact ⟨fun b hb => List.mem_cons_of_mem _ hb, Nat.le_succ _, h, sum_length _⟩
    · exact ⟨fun b hb => List.mem_cons_of_mem _ hb, Nat.le_succ _, h, hb1.g⟩
    · refine ⟨fun b hb => List.mem_cons_of_mem _ hb, Nat.le_succ _, fun w hw => ?_, leafH_len _ _⟩
      obtain ⟨z, hz, rfl⟩ := List.mem_map.1 hw
      exact ⟨(h z hz).key, (h z hz).sd, Nd.one_wf2 hb1.key hb1.v⟩
    · exact ⟨fun b hb => List.mem_cons_of_mem _ hb, Nat.le_succ _, h, z32_len⟩
    · exact ⟨fun b hb => List.mem_cons_of_mem _ hb, Nat.le_succ _, h, z32_len⟩
    · refine ⟨fun b hb => List.mem_cons_of_mem _ (hx.rest b hb), Nat.le_succ_of_le hx.len, fun w hw => ?_, z32_len⟩
      rcases List.mem_append.1 hw with hw | hw
      · exact hx.ws w hw
      · exact h w (List.mem_of_mem_drop hw)
    · refine ⟨fun b hb => List.mem_cons_of_mem _ (hx.rest b (hy.rest b hb)), Nat.le_succ_of_le (Nat.le_trans hy.len hx.len), fun w hw => ?_, innerH_len _ _⟩
      have hsd : ∀ {z : MW} {g : List UInt8}, z.wf → g.length = 32 → (z.aside g).wf := fun {z g} hz hg => ⟨hz.key, fun u hu => by
        rcases List.mem_append.1 hu with hu | hu
        · exact hz.sd u hu
        · rw [List.mem_singleton.1 hu]; exact hg, hz.en⟩
      rcases List.mem_append.1 hw with hw | hw
      · obtain ⟨z, hz, rfl⟩ := List.mem_map.1 hw
        exact hsd (hx.ws z hz) hy.dg
      · obtain ⟨z, hz, rfl⟩ := List.mem_map.1 hw
        exact hsd (hy.ws z hz) hx.dg
end Go.Proofs.Ytigmpdhnhkdeiaa
/- Roots of entries that rise: the program's. -/
namespace Go.Proofs.Ytigmpdhnhkdeiaa
open Go Go.RowKit
def partK (d : Nat) (ks : List (List UInt8)) : Nat := (ks.takeWhile fun x => !bitN x d).length
def Wd (l : List En) : Prop := ∀ x ∈ l, x.1.length = 32 ∧ x.2.length = 32
theorem Wd.half {l : List En} (h : Wd l) (b : Bool) (d : Nat) : Wd (half b d l) := fun x hx => h x (half_mem hx)
end Go.Proofs.Ytigmpdhnhkdeiaa
/- What a reader of a sketch for keys calls: multi.parted. -/
namespace Go.Proofs.Ytigmpdhnhkdeiaa
open Go Go.RowKit
theorem mpart_eq (d : Nat) (ws : List MW) : mpartN d ws = partK d (ws.map (·.key)) := by
  unfold mpartN partK
  rw [List.takeWhile_map, List.length_map]; rfl
theorem partK_drop (d : Nat) (ks : List (List UInt8)) (k : Nat) (hk : k < ks.length) : partK d (ks.drop k) = if bitN ks[k] d then 0 else partK d (ks.drop (k + 1)) + 1 := by
  rw [List.drop_eq_getElem_cons hk]
  unfold partK
  rw [List.takeWhile_cons]
  cases bitN ks[k] d <;> rfl
attribute [local irreducible] wpT
set_option maxRecDepth 20000 in
theorem mparted_v (ks : List (List UInt8)) (hk32 : ∀ k ∈ ks, k.length = 32) (hl : ks.length ≤ 65536) (d : Nat) (hd : d < 256) : VC Try.prog 228 [.sl (.ba 32) (bas ks) none, .v (.int .i64 (d : Int))] [] (.v (.int .i64 ((partK d ks : Nat) : Int))) := by
  have hbl := bas_len ks
  have h0 : 0 + partK d (ks.drop 0) = partK d ks := by rw [List.drop_zero, Nat.zero_add]
  generalize partK d ks = P at *
  refine mE Try.func228 ?_; intro N w0 a w hN hR H
  have hX := @hbl
  refine mW ?_; clear H; intro a w H
  refine v_loop (fun k : Nat => ⟨[(5, none, .v (.int .i64 (k : Int))), (4, none, .v (.int .i64 0)), (0, none, .sl (.ba 32) (bas ks) none), (1, none, .v (.int .i64 (d : Int)))], [], [], []⟩) (fun k => k ≤ ks.length ∧ k + partK d (ks.drop k) = P) (fun k => ks.length - k) 0 ⟨Nat.zero_le _, h0⟩ (H.to 0 0 ⟨hN, hR⟩ ⟨rfl, rfl, rfl, rfl, trivial⟩ rfl rfl rfl rfl rfl) ?_
  clear H
  intro k a w hk H
  obtain ⟨hk1, hk2⟩ := hk
  rcases Nat.lt_or_ge k ks.length with hlt | hge
  · have e0 : decide ((k : Int) < (ks.length : Int)) = true := decide_eq_true (by omega)
    have hg := bas_get ks k hlt
    have hq := hk32 _ (List.getElem_mem hlt)
    have hp := partK_drop d ks k hlt
    have hbv := bit_v ks[k] hq (d : Int)
    have hpb : pbit ks[k] (d : Int) = if bitN ks[k] d then 1 else 0 := by unfold pbit; rw [if_pos (by omega), Int.toNat_natCast]
    generalize ks[k] = q at *
    generalize pbit q (d : Int) = pb at *
    clear hX; have hX := And.intro @hbl (And.intro @hg (And.intro @e0 (@hq)))
    refine mW ?_; clear H; intro a w H
    refine mCallG [] [] (hbv) H ?_; clear H; intro a w H; try refine wpList_nil ?_
    refine mW ?_; clear H; intro a w H
    refine mC H (fun hb => ?_) (fun hb => ?_)
    · have hb0 : bitN q d = false := by
        cases hbq : bitN q d
        · rfl
        · rw [hbq] at hpb; simp [hpb] at hb
      clear hb
      rw [hb0, if_neg (by decide)] at hp
      refine mW ?_; clear H; intro a w H
      rw [show (k : Int) + 1 = ((k + 1 : Nat) : Int) by omega] at H
      exact ⟨k + 1, ⟨hlt, by omega⟩, by omega, H.to 0 0 ⟨hN, hR⟩ ⟨rfl, rfl, rfl, rfl, trivial⟩ rfl rfl rfl rfl rfl⟩
    · have hb1 : bitN q d = true := by
        cases hbq : bitN q d
        · rw [hbq] at hpb; simp [hpb] at hb
        · rfl
      clear hb
      rw [hb1, if_pos rfl] at hp
      have e : k = P := by omega
      subst e
      refine mW ?_; clear H; intro a w H
      refine wp_ret ?_; exact mEnd [] [] [.tmp 4] [_] hN hR H
  · have e0 : decide ((k : Int) < (ks.length : Int)) = false := decide_eq_false (by omega)
    have e : k = P := by rw [List.drop_eq_nil_of_le hge] at hk2; exact hk2
    subst e
    clear hX; have hX := And.intro @hbl (@e0)
    refine mW ?_; clear H; intro a w H
    refine mSk (.v (.int .i64 0)) H ?_; clear H; intro a w H
    refine mW ?_; clear H; intro a w H
    refine mC H (fun hb => ?_) (fun hb => ?_)
    · exact absurd hb (by decide)
    · refine mW ?_; clear H; intro a w H
      refine wp_ret ?_; exact mEnd [] [] [.tmp 4] [_] hN hR H
end Go.Proofs.Ytigmpdhnhkdeiaa
/- Parts of a sketch that are clean. -/
namespace Go.Proofs.Ytigmpdhnhkdeiaa
open Go Go.RowKit
theorem kz (k : UInt8) (n : Nat) (hn : n < 256) : decide ((k.toNat : Int) = (n : Int)) = decide (k = UInt8.ofNat n) := by
  rw [decide_eq_decide]
  constructor
  · intro h; exact UInt8.toNat_inj.1 (by rw [UInt8.toNat_ofNat']; omega)
  · intro h; rw [h, UInt8.toNat_ofNat']; omega
theorem clean0 (key v g : List UInt8) : Br.clean ⟨0, key, v, g⟩ = (decide (key = List.replicate 32 0) && (decide (v = List.replicate 32 0) && decide (g = List.replicate 32 0))) := by
  rw [Bool.eq_iff_iff]; unfold Br.clean; rw [if_pos (Or.inl rfl), Bool.and_eq_true, Bool.and_eq_true, decide_eq_true_iff, decide_eq_true_iff, decide_eq_true_iff, decide_eq_true_iff]; exact Iff.rfl
theorem clean2 (key v g : List UInt8) : Br.clean ⟨2, key, v, g⟩ = (decide (key = List.replicate 32 0) && (decide (v = List.replicate 32 0) && decide (g = List.replicate 32 0))) := by
  rw [Bool.eq_iff_iff]; unfold Br.clean; rw [if_pos (Or.inr rfl), Bool.and_eq_true, Bool.and_eq_true, decide_eq_true_iff, decide_eq_true_iff, decide_eq_true_iff, decide_eq_true_iff]; exact Iff.rfl
theorem clean1 (key v g : List UInt8) : Br.clean ⟨1, key, v, g⟩ = decide (g = List.replicate 32 0) := by
  rw [Bool.eq_iff_iff]; unfold Br.clean; rw [if_neg (by dsimp only; decide), if_pos rfl, decide_eq_true_iff, decide_eq_true_iff]; exact Iff.rfl
theorem clean3 (key v g : List UInt8) : Br.clean ⟨3, key, v, g⟩ = (decide (((3 : UInt8).toNat : Int) = 3) && (decide (key = List.replicate 32 0) && decide (v = List.replicate 32 0))) := by
  rw [show decide (((3 : UInt8).toNat : Int) = 3) = true from by decide, Bool.true_and, Bool.eq_iff_iff]; unfold Br.clean; rw [if_neg (by dsimp only; decide), if_neg (by dsimp only; decide), if_pos rfl, Bool.and_eq_true, decide_eq_true_iff, decide_eq_true_iff, decide_eq_true_iff]; exact Iff.rfl
end Go.Proofs.Ytigmpdhnhkdeiaa
