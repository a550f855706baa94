/- batch: what is wrong, kept, joined; put.AtHand, put.Fits. -/
import Derived.Test.YtgffimanhmpohaaGreatLast
import Derived.Test.YtgffimanhmpohaaGreatZa
import Derived.Test.YtgffimanhmpohaaGreatPu
import Derived.Test.YtgffimanhmpohaaGreatBits
import Derived.Test.YtgffimanhmpohaaGreatMap2
import Derived.Lib.SliceRun
set_option linter.unusedSimpArgs false
set_option linter.unusedVariables false
namespace Go.Proofs.YtgffimanhmpohaaGreat
open Go Go.RowKit
set_option maxRecDepth 20000 in
theorem slbRoom_v (γ δ n m room used : Nat) (es fs : List AV) (h : 0 < room) :
    VX Tryz.prog 139 (slbB γ δ n m room used es fs) [] [] [.ptr 0 []] (slbB γ δ n m room used es fs) [] [] (.v (.int .i64 (room : Int))) := by
  have hn := slbNone_v γ δ n m room used es fs h
  refine mE Tryz.func139 ?_; intro N w0 a w hN hR H
  refine mW ?_; clear H; intro a w H
  refine mCall [0, 1, 2] [] (hn) H ?_; clear H; intro a w H; try refine wpList_nil ?_
  refine mW ?_; clear H; intro a w H
  refine mC H (fun hb => ?_) (fun hb => ?_)
  · exact absurd hb (by decide)
  clear hb
  refine mW ?_; clear H; intro a w H
  refine wp_ret ?_; exact mEnd [0, 1, 2] [] [.tmp 2] [_] hN hR H
set_option maxRecDepth 20000 in
theorem stoRoom_v (s : Slb) (hs : s.wf) : VX Tryz.prog 116 s.sx [] [] [.ptr 0 []] s.sx [] [] (.v (.int .i64 (s.room : Int))) := by
  have hn := stoNone_v s.γ s.δ s.sl.length s.m s.room s.used (s.sl.map slA) (s.fs.map inA)
  have hl := slbRoom_v s.γ s.δ s.sl.length s.m s.room s.used (s.sl.map slA) (s.fs.map inA) hs.room.1
  simp only [Slb.sx]
  generalize s.sl.map slA = es at *
  generalize s.fs.map inA = fs at *
  refine mE Tryz.func116 ?_; intro N w0 a w hN hR H
  refine mW ?_; clear H; intro a w H
  refine mCall [0, 1, 2, 3] [] (hn) H ?_; clear H; intro a w H; try refine wpList_nil ?_
  refine mW ?_; clear H; intro a w H
  refine mC H (fun hb => ?_) (fun hb => ?_)
  · exact absurd hb (by decide)
  clear hb
  refine mW ?_; clear H; intro a w H
  refine mCall [1, 2, 3] [] (hl) H ?_; clear H; intro a w H; try refine wpList_nil ?_
  refine mW ?_; clear H; intro a w H
  refine wp_ret ?_; exact mEnd [0, 1, 2, 3] [] [.tmp 2] [_] hN hR H
set_option maxRecDepth 20000 in
theorem putHand_v (s : Slb) (hs : s.wf) (root : Int) (hr : s.rootE root = 0) (hh : root ≠ 0 → (s.get_ root).hd ≠ 0) : VX Tryz.prog 87 s.sx [] [] [.ptr 0 [], .v (.int .i64 root)] s.sx [] [] (errv 0) := by
  have h1 := stoRoot_v s hs root
  have h2 := stoHeld_v s hs root
  rw [hr] at h1
  simp only [Slb.sx] at h1 h2 ⊢
  generalize s.sl.map slA = es at *
  generalize s.fs.map inA = fs at *
  generalize (s.get_ root).hd = hd at *
  refine mE Tryz.func87 ?_; intro N w0 a w hN hR H
  refine mW ?_; clear H; intro a w H
  refine mCall [0, 1, 2, 3] [] (h1) H ?_; clear H; intro a w H; try refine wpList_nil ?_
  refine mW ?_; clear H; intro a w H
  refine mC H (fun hb => ?_) (fun hb => ?_)
  · exact absurd hb (by decide)
  clear hb
  by_cases h0 : root = 0
  · have d0 : decide (root = 0) = true := decide_eq_true h0
    refine mS ?_
    have hX := @d0
    (try refine wp_region_lit ?_); refine mN 3 hN H ?_; clear H; intro a w H
    refine mSk .any H ?_; clear H; intro a w H
    refine mSk .any H ?_; clear H; intro a w H
    refine mSk .any H ?_; clear H; intro a w H
    refine mSk (.v (.bool false)) H ?_; clear H; intro a w H
    refine mW ?_; clear H; intro a w H
    refine mC H (fun hb => ?_) (fun hb => ?_)
    · exact absurd hb (by decide)
    clear hb
    refine mW ?_; clear H; intro a w H
    refine wp_ret ?_; exact mEnd [0, 1, 2, 3] [] [.tmp 4] [_] hN hR H
  have d0 : decide (root = 0) = false := decide_eq_false h0
  have d1 : decide (hd = 0) = false := decide_eq_false (hh h0)
  refine mS ?_
  have hX := And.intro @d0 (@d1)
  (try refine wp_region_lit ?_); refine mN 3 hN H ?_; clear H; intro a w H
  (try refine wp_region_lit ?_); refine mN 2 hN H ?_; clear H; intro a w H
  replace H := v_known H 14 true rfl
  simp only [unG, gdEq, Nat.reduceBEq, cond_true, cond_false] at H
  refine mG H ?_
  refine mCall [0, 1, 2, 3] [] (h2) H ?_; clear H; intro a w H; try refine wpList_nil ?_
  refine mW ?_; clear H; intro a w H
  refine mC H (fun hb => ?_) (fun hb => ?_)
  · exact absurd hb (by decide)
  clear hb
  refine mW ?_; clear H; intro a w H
  refine wp_ret ?_; exact mEnd [0, 1, 2, 3] [] [.tmp 4] [_] hN hR H
set_option maxRecDepth 20000 in
theorem putFits_v (s : Slb) (hs : s.wf) (hu : s.used ≤ s.room) (j : Nat) (hj : j ≤ 64) : VX Tryz.prog 88 s.sx [] [] [.ptr 0 [], .v (.int .i64 (j : Int))] s.sx [] [] (.v (.bool (decide ((s.used : Int) + 258 * (j : Int) ≤ (s.room : Int))))) := by
  have h1 := stoRoom_v s hs
  have h2 := stoOcc_v s hs
  have hr := hs.room
  have d1 : decide ((0 : Int) < (s.room : Int)) = true := decide_eq_true (by omega)
  have d2 : decide ((0 : Int) ≤ (j : Int)) = true := decide_eq_true (by omega)
  have d3 : decide ((j : Int) ≤ 64) = true := decide_eq_true (by omega)
  simp only [Slb.sx] at h1 h2 ⊢
  generalize s.sl.map slA = es at *
  generalize s.fs.map inA = fs at *
  refine mE Tryz.func88 ?_; intro N w0 a w hN hR H
  have hX := And.intro @d1 (And.intro @d2 (@d3))
  refine mW ?_; clear H; intro a w H
  refine mCall [0, 1, 2, 3] [] (h1) H ?_; clear H; intro a w H; try refine wpList_nil ?_
  (try refine wp_region_lit ?_); refine mN 1 hN H ?_; clear H; intro a w H
  (try refine wp_region_lit ?_); refine mN 1 hN H ?_; clear H; intro a w H
  replace H := v_known H 8 true rfl
  simp only [unG, gdEq, Nat.reduceBEq, cond_true, cond_false] at H
  (try refine wp_region_lit ?_); refine mN 2 hN H ?_; clear H; intro a w H
  (try refine wp_region_lit ?_); refine mN 1 hN H ?_; clear H; intro a w H
  (try refine wp_region_lit ?_); refine mN 1 hN H ?_; clear H; intro a w H
  replace H := v_known H 12 true rfl
  simp only [unG, gdEq, Nat.reduceBEq, cond_true, cond_false] at H
  (try refine wp_region_lit ?_); refine mN 2 hN H ?_; clear H; intro a w H
  (try refine wp_region_lit ?_); refine mN 1 hN H ?_; clear H; intro a w H
  (try refine wp_region_lit ?_); refine mN 1 hN H ?_; clear H; intro a w H
  replace H := v_known H 16 true rfl
  simp only [unG, gdEq, Nat.reduceBEq, cond_true, cond_false] at H
  (try refine wp_region_lit ?_); refine mN 1 hN H ?_; clear H; intro a w H
  replace H := v_known H 16 true rfl
  simp only [unG, gdEq, Nat.reduceBEq, cond_true, cond_false] at H
  refine mG H ?_
  refine mCall [0, 1, 2, 3] [] (h2) H ?_; clear H; intro a w H; try refine wpList_nil ?_
  (try refine wp_region_lit ?_); refine mN 4 hN H ?_; clear H; intro a w H
  replace H := v_known H 16 true rfl
  simp only [unG, gdEq, Nat.reduceBEq, cond_true, cond_false] at H
  refine mG H ?_
  refine mCall [0, 1, 2, 3] [] (h1) H ?_; clear H; intro a w H; try refine wpList_nil ?_
  (try refine wp_region_lit ?_); refine mN 1 hN H ?_; clear H; intro a w H
  replace H := v_known H 16 true rfl
  simp only [unG, gdEq, Nat.reduceBEq, cond_true, cond_false] at H
  (try refine wp_region_lit ?_); refine mN 1 hN H ?_; clear H; intro a w H
  (try refine wp_region_lit ?_); refine mN 1 hN H ?_; clear H; intro a w H
  refine mW ?_; clear H; intro a w H
  refine wp_ret ?_; exact mEnd [0, 1, 2, 3] [] [.tmp 4] [_] hN hR H
set_option maxRecDepth 20000 in
theorem kept0_v (s : Slb) : VX Tryz.prog 90 s.sx [] [] [.ptr 0 [], .v (.int .i64 0)] s.sx [] [] (.v (.int .i64 0)) := by
  simp only [Slb.sx]
  generalize s.sl.map slA = es at *
  generalize s.fs.map inA = fs at *
  refine mE Tryz.func90 ?_; intro N w0 a w hN hR H
  refine mW ?_; clear H; intro a w H
  refine mC H (fun hb => ?_) (fun hb => ?_)
  · exact absurd hb (by decide)
  clear hb
  refine mW ?_; clear H; intro a w H
  refine wp_ret ?_; exact mEnd [0, 1, 2, 3] [] [.tmp 4] [_] hN hR H
set_option maxRecDepth 20000 in
theorem kept1_v (s t : Slb) (h : Int) (h0 : h ≠ 0) (hH : VX Tryz.prog 20 s.sx [] [] [.ptr 0 [], .v (.int .i64 h)] t.sx [] [] (errv 0)) : VX Tryz.prog 90 s.sx [] [] [.ptr 0 [], .v (.int .i64 h)] t.sx [] [] (.v (.int .i64 h)) := by
  have d0 : decide (h = 0) = false := decide_eq_false h0
  simp only [Slb.sx] at hH ⊢
  refine mE Tryz.func90 ?_; intro N w0 a w hN hR H
  have hX := @d0
  refine mW ?_; clear H; intro a w H
  refine mC H (fun hb => ?_) (fun hb => ?_)
  · clear hb
    refine mW ?_; clear H; intro a w H
    refine mCall [0, 1, 2, 3] [] (hH) H ?_; clear H; intro a w H; try refine wpList_nil ?_
    refine mW ?_; clear H; intro a w H
    refine wp_ret ?_; exact mEnd [0, 1, 2, 3] [] [.tmp 4] [_] hN hR H
  exact absurd hb (by decide)
theorem k_ne2 {k : UInt8} (h : k ≠ 2) : decide (((k.toNat : Nat) : Int) = 2) = false := decide_eq_false fun e => h (UInt8.toNat_inj.1 (by have : ((2 : UInt8).toNat : Int) = 2 := rfl; omega))
theorem k_eq2 {k : UInt8} (h : k = 2) : decide (((k.toNat : Nat) : Int) = 2) = true := by subst h; rfl
theorem joinedR_v (s : Slb) (hs : s.wf) (d : Int) (r : Int) (hr : (s.get_ r).k ≠ 2) : VX Tryz.prog 94 s.sx [] [] [.ptr 0 [], .v (.int .i64 d), .v (.int .i64 0), .v (.int .i64 r)] s.sx [] [] (.v (.int .i64 r)) := by
  have h1 := stoKind_v s hs r
  generalize hk : (s.get_ r).k = k at *
  have dk := k_ne2 hr
  simp only [Slb.sx] at h1 ⊢
  generalize s.sl.map slA = es at *
  generalize s.fs.map inA = fs at *
  refine mE Tryz.func94 ?_; intro N w0 a w hN hR H
  refine mS ?_
  have hX := @dk
  (try refine wp_region_lit ?_); refine mN 1 hN H ?_; clear H; intro a w H
  refine mS ?_
  (try refine wp_region_lit ?_); refine mN 3 hN H ?_; clear H; intro a w H
  (try refine wp_region_lit ?_); refine mN 2 hN H ?_; clear H; intro a w H
  replace H := v_known H 14 true rfl
  simp only [unG, gdEq, Nat.reduceBEq, cond_true, cond_false] at H
  refine mG H ?_
  refine mCall [0, 1, 2, 3] [] (h1) H ?_; clear H; intro a w H; try refine wpList_nil ?_
  (try refine wp_region_lit ?_); refine mN 1 hN H ?_; clear H; intro a w H
  (try refine wp_region_lit ?_); refine mN 1 hN H ?_; clear H; intro a w H
  (try refine wp_region_lit ?_); refine mN 1 hN H ?_; clear H; intro a w H
  refine mS ?_
  refine mC H (fun hb => ?_) (fun hb => ?_)
  · clear hb
    refine mW ?_; clear H; intro a w H
    refine wp_ret ?_; exact mEnd [0, 1, 2, 3] [] [.tmp 8] [_] hN hR H
  exact absurd hb (by decide)
theorem joinedL_v (s : Slb) (hs : s.wf) (d : Int) (l : Int) (h0 : l ≠ 0) (hl : (s.get_ l).k ≠ 2) : VX Tryz.prog 94 s.sx [] [] [.ptr 0 [], .v (.int .i64 d), .v (.int .i64 l), .v (.int .i64 0)] s.sx [] [] (.v (.int .i64 l)) := by
  have h1 := stoKind_v s hs l
  have d0 : decide (l = 0) = false := decide_eq_false h0
  generalize hk : (s.get_ l).k = k at *
  have dk := k_ne2 hl
  simp only [Slb.sx] at h1 ⊢
  generalize s.sl.map slA = es at *
  generalize s.fs.map inA = fs at *
  refine mE Tryz.func94 ?_; intro N w0 a w hN hR H
  refine mS ?_
  have hX := And.intro @dk (@d0)
  (try refine wp_region_lit ?_); refine mN 1 hN H ?_; clear H; intro a w H
  refine mS ?_
  (try refine wp_region_lit ?_); refine mN 3 hN H ?_; clear H; intro a w H
  refine mSk .any H ?_; clear H; intro a w H
  refine mSk .any H ?_; clear H; intro a w H
  refine mSk .any H ?_; clear H; intro a w H
  refine mSk (.v (.bool false)) H ?_; clear H; intro a w H
  (try refine wp_region_lit ?_); refine mN 1 hN H ?_; clear H; intro a w H
  (try refine wp_region_lit ?_); refine mN 1 hN H ?_; clear H; intro a w H
  refine mS ?_
  refine mC H (fun hb => ?_) (fun hb => ?_)
  · exact absurd hb (by decide)
  clear hb
  refine mS ?_
  (try refine wp_region_lit ?_); refine mN 3 hN H ?_; clear H; intro a w H
  (try refine wp_region_lit ?_); refine mN 2 hN H ?_; clear H; intro a w H
  replace H := v_known H 24 true rfl
  simp only [unG, gdEq, Nat.reduceBEq, cond_true, cond_false] at H
  refine mG H ?_
  refine mCall [0, 1, 2, 3] [] (h1) H ?_; clear H; intro a w H; try refine wpList_nil ?_
  (try refine wp_region_lit ?_); refine mN 1 hN H ?_; clear H; intro a w H
  (try refine wp_region_lit ?_); refine mN 1 hN H ?_; clear H; intro a w H
  (try refine wp_region_lit ?_); refine mN 1 hN H ?_; clear H; intro a w H
  refine mS ?_
  refine mC H (fun hb => ?_) (fun hb => ?_)
  · clear hb
    refine mW ?_; clear H; intro a w H
    refine wp_ret ?_; exact mEnd [0, 1, 2, 3] [] [.tmp 8] [_] hN hR H
  exact absurd hb (by decide)
set_option maxHeartbeats 4000000 in
theorem joinedI_v (s t : Slb) (hs : s.wf) (d : Int) (l r h : Int) (h1 : ¬ (l = 0 ∧ (s.get_ r).k ≠ 2)) (h2 : ¬ (r = 0 ∧ (s.get_ l).k ≠ 2)) (hI : VX Tryz.prog 36 s.sx [] [] [.ptr 0 [], .v (.int .i64 d), .v (.int .i64 l), .v (.int .i64 r)] t.sx [] [] (.tup [.v (.int .i64 h), errv 0])) :
    VX Tryz.prog 94 s.sx [] [] [.ptr 0 [], .v (.int .i64 d), .v (.int .i64 l), .v (.int .i64 r)] t.sx [] [] (.v (.int .i64 h)) := by
  have c1 := stoKind_v s hs l
  have c2 := stoKind_v s hs r
  generalize (s.get_ l).k = kl at *
  generalize (s.get_ r).k = kr at *
  simp only [Slb.sx] at c1 c2 hI ⊢
  refine mE Tryz.func94 ?_; intro N w0 a w hN hR H
  by_cases l0 : l = 0
  · have dl : decide (l = 0) = true := decide_eq_true l0
    have hkr : kr = 2 := by
      by_cases e : kr = 2
      · exact e
      exact absurd ⟨l0, e⟩ h1
    have dkr := k_eq2 hkr
    refine mS ?_
    have hX := And.intro @dl (@dkr)
    (try refine wp_region_lit ?_); refine mN 1 hN H ?_; clear H; intro a w H
    refine mS ?_
    (try refine wp_region_lit ?_); refine mN 3 hN H ?_; clear H; intro a w H
    (try refine wp_region_lit ?_); refine mN 2 hN H ?_; clear H; intro a w H
    replace H := v_known H 14 true rfl
    simp only [unG, gdEq, Nat.reduceBEq, cond_true, cond_false] at H
    refine mG H ?_
    refine mCall [0, 1, 2, 3] [] (c2) H ?_; clear H; intro a w H; try refine wpList_nil ?_
    (try refine wp_region_lit ?_); refine mN 1 hN H ?_; clear H; intro a w H
    (try refine wp_region_lit ?_); refine mN 1 hN H ?_; clear H; intro a w H
    (try refine wp_region_lit ?_); refine mN 1 hN H ?_; clear H; intro a w H
    refine mS ?_
    refine mC H (fun hb => ?_) (fun hb => ?_)
    · exact absurd hb (by decide)
    clear hb
    by_cases r0 : r = 0
    · have dr : decide (r = 0) = true := decide_eq_true r0
      have hkl : kl = 2 := by
        by_cases e : kl = 2
        · exact e
        exact absurd ⟨r0, e⟩ h2
      have dkl := k_eq2 hkl
      refine mS ?_
      clear hX; have hX := And.intro @dl (And.intro @dkr (And.intro @dr (@dkl)))
      (try refine wp_region_lit ?_); refine mN 3 hN H ?_; clear H; intro a w H
      (try refine wp_region_lit ?_); refine mN 2 hN H ?_; clear H; intro a w H
      replace H := v_known H 24 true rfl
      simp only [unG, gdEq, Nat.reduceBEq, cond_true, cond_false] at H
      refine mG H ?_
      refine mCall [0, 1, 2, 3] [] (c1) H ?_; clear H; intro a w H; try refine wpList_nil ?_
      (try refine wp_region_lit ?_); refine mN 1 hN H ?_; clear H; intro a w H
      (try refine wp_region_lit ?_); refine mN 1 hN H ?_; clear H; intro a w H
      (try refine wp_region_lit ?_); refine mN 1 hN H ?_; clear H; intro a w H
      refine mS ?_
      refine mC H (fun hb => ?_) (fun hb => ?_)
      · exact absurd hb (by decide)
      clear hb
      refine mS ?_
      refine mW ?_; clear H; intro a w H
      refine mCall [0, 1, 2, 3] [] (hI) H ?_; clear H; intro a w H; try refine wpList_nil ?_
      refine mW ?_; clear H; intro a w H
      refine wp_ret ?_; exact mEnd [0, 1, 2, 3] [] [.tmp 8] [_] hN hR H
    have dr : decide (r = 0) = false := decide_eq_false r0
    refine mS ?_
    clear hX; have hX := And.intro @dl (And.intro @dkr (@dr))
    (try refine wp_region_lit ?_); refine mN 3 hN H ?_; clear H; intro a w H
    refine mSk .any H ?_; clear H; intro a w H
    refine mSk .any H ?_; clear H; intro a w H
    refine mSk .any H ?_; clear H; intro a w H
    refine mSk (.v (.bool false)) H ?_; clear H; intro a w H
    (try refine wp_region_lit ?_); refine mN 1 hN H ?_; clear H; intro a w H
    (try refine wp_region_lit ?_); refine mN 1 hN H ?_; clear H; intro a w H
    refine mS ?_
    refine mC H (fun hb => ?_) (fun hb => ?_)
    · exact absurd hb (by decide)
    clear hb
    refine mS ?_
    refine mW ?_; clear H; intro a w H
    refine mCall [0, 1, 2, 3] [] (hI) H ?_; clear H; intro a w H; try refine wpList_nil ?_
    refine mW ?_; clear H; intro a w H
    refine wp_ret ?_; exact mEnd [0, 1, 2, 3] [] [.tmp 8] [_] hN hR H
  have dl : decide (l = 0) = false := decide_eq_false l0
  refine mS ?_
  have hX := @dl
  (try refine wp_region_lit ?_); refine mN 1 hN H ?_; clear H; intro a w H
  refine mS ?_
  (try refine wp_region_lit ?_); refine mN 3 hN H ?_; clear H; intro a w H
  refine mSk .any H ?_; clear H; intro a w H
  refine mSk .any H ?_; clear H; intro a w H
  refine mSk .any H ?_; clear H; intro a w H
  refine mSk (.v (.bool false)) H ?_; clear H; intro a w H
  (try refine wp_region_lit ?_); refine mN 1 hN H ?_; clear H; intro a w H
  (try refine wp_region_lit ?_); refine mN 1 hN H ?_; clear H; intro a w H
  refine mS ?_
  refine mC H (fun hb => ?_) (fun hb => ?_)
  · exact absurd hb (by decide)
  clear hb
  by_cases r0 : r = 0
  · have dr : decide (r = 0) = true := decide_eq_true r0
    have hkl : kl = 2 := by
      by_cases e : kl = 2
      · exact e
      exact absurd ⟨r0, e⟩ h2
    have dkl := k_eq2 hkl
    refine mS ?_
    clear hX; have hX := And.intro @dl (And.intro @dr (@dkl))
    (try refine wp_region_lit ?_); refine mN 3 hN H ?_; clear H; intro a w H
    (try refine wp_region_lit ?_); refine mN 2 hN H ?_; clear H; intro a w H
    replace H := v_known H 24 true rfl
    simp only [unG, gdEq, Nat.reduceBEq, cond_true, cond_false] at H
    refine mG H ?_
    refine mCall [0, 1, 2, 3] [] (c1) H ?_; clear H; intro a w H; try refine wpList_nil ?_
    (try refine wp_region_lit ?_); refine mN 1 hN H ?_; clear H; intro a w H
    (try refine wp_region_lit ?_); refine mN 1 hN H ?_; clear H; intro a w H
    (try refine wp_region_lit ?_); refine mN 1 hN H ?_; clear H; intro a w H
    refine mS ?_
    refine mC H (fun hb => ?_) (fun hb => ?_)
    · exact absurd hb (by decide)
    clear hb
    refine mS ?_
    refine mW ?_; clear H; intro a w H
    refine mCall [0, 1, 2, 3] [] (hI) H ?_; clear H; intro a w H; try refine wpList_nil ?_
    refine mW ?_; clear H; intro a w H
    refine wp_ret ?_; exact mEnd [0, 1, 2, 3] [] [.tmp 8] [_] hN hR H
  have dr : decide (r = 0) = false := decide_eq_false r0
  refine mS ?_
  clear hX; have hX := And.intro @dl (@dr)
  (try refine wp_region_lit ?_); refine mN 3 hN H ?_; clear H; intro a w H
  refine mSk .any H ?_; clear H; intro a w H
  refine mSk .any H ?_; clear H; intro a w H
  refine mSk .any H ?_; clear H; intro a w H
  refine mSk (.v (.bool false)) H ?_; clear H; intro a w H
  (try refine wp_region_lit ?_); refine mN 1 hN H ?_; clear H; intro a w H
  (try refine wp_region_lit ?_); refine mN 1 hN H ?_; clear H; intro a w H
  refine mS ?_
  refine mC H (fun hb => ?_) (fun hb => ?_)
  · exact absurd hb (by decide)
  clear hb
  refine mS ?_
  refine mW ?_; clear H; intro a w H
  refine mCall [0, 1, 2, 3] [] (hI) H ?_; clear H; intro a w H; try refine wpList_nil ?_
  refine mW ?_; clear H; intro a w H
  refine wp_ret ?_; exact mEnd [0, 1, 2, 3] [] [.tmp 8] [_] hN hR H
def partW (ws : List Wr) (d : Int) : Nat := (ws.takeWhile fun w => decide (pbit w.1 d = 0)).length
theorem partW_eq (d : Int) : ∀ (ws : List Wr) (i : Nat), i ≤ ws.length → (∀ m (h : m < ws.length), m < i → pbit ws[m].1 d = 0) → (∀ h : i < ws.length, pbit ws[i].1 d ≠ 0) → partW ws d = i
  | [], i, h, _, _ => by simp at h; subst h; rfl
  | w :: l, 0, _, _, h2 => by
    have := h2 (by simp)
    unfold partW
    rw [List.takeWhile_cons_of_neg (by simpa using this)]; rfl
  | w :: l, i + 1, h, h1, h2 => by
    have h0 : pbit w.1 d = 0 := h1 0 (by simp) (by omega)
    have ih := partW_eq d l i (by simpa using h) (fun m hm hi => h1 (m + 1) (by simpa using hm) (by omega)) (fun hi => h2 (by simpa using hi))
    unfold partW at ih ⊢
    rw [List.takeWhile_cons_of_pos (by simpa using h0), List.length_cons, ih]
set_option maxRecDepth 20000 in
theorem partedW_v (ws : List Wr) (hk : K32W ws) (hl : ws.length ≤ 100000) (d : Int) : VC Tryz.prog 93 [.sl wrT (ws.map wrA) none, .v (.int .i64 d)] [] (.v (.int .i64 (partW ws d : Int))) := by
  have hwl : (ws.map wrA).length = ws.length := List.length_map ..
  have hgw := wrA_get ws
  generalize ws.map wrA = es at *
  refine mE Tryz.func93 ?_; intro N w0 a w hN hR H
  have hX := @hwl
  refine mW ?_; clear H; intro a w H
  refine v_loop (fun i : Nat => ⟨[(5, none, .v (.int .i64 (i : Int))), (4, none, .v (.int .i64 0)), (0, none, .sl wrT es none), (1, none, .v (.int .i64 d))], [], [], []⟩)
    (fun i => i ≤ ws.length ∧ ∀ m (h : m < ws.length), m < i → pbit ws[m].1 d = 0) (fun i => ws.length - i) 0 ⟨Nat.zero_le _, fun m h hm => absurd hm (by omega)⟩ (H.to 0 0 ⟨hN, hR⟩ ⟨rfl, rfl, rfl, rfl, trivial⟩ rfl rfl rfl rfl rfl) ?_
  clear H
  rintro i a w ⟨hi1, hi2⟩ H
  by_cases hlt : i < ws.length
  · have hbt : decide ((i : Int) < (ws.length : Int)) = true := by rw [decide_eq_true_eq]; omega
    have hg := hgw i hlt
    have hk32 := hk _ (List.getElem_mem hlt)
    have hbit := bit_v ws[i].1 hk32 d
    have hcs : ∀ h : i < ws.length, pbit ws[i].1 d = pbit ws[i].1 d := fun _ => rfl
    obtain ⟨q, hqe⟩ : ∃ q, ws[i] = q := ⟨_, rfl⟩
    rw [hqe] at hg hk32 hbit
    obtain ⟨kq, gq, vq⟩ := q
    dsimp only at hg hk32 hbit
    refine mS ?_
    clear hX; have hX := And.intro @hwl (And.intro @hbt (And.intro @hg (@hk32)))
    (try refine wp_region_lit ?_); refine mN 4 hN H ?_; clear H; intro a w H
    (try refine wp_region_lit ?_); refine mN 1 hN H ?_; clear H; intro a w H
    replace H := v_known H 10 true rfl
    (try refine wp_region_lit ?_); refine mN 3 hN H ?_; clear H; intro a w H
    (try refine wp_region_lit ?_); refine mN 2 hN H ?_; clear H; intro a w H
    (try refine wp_region_lit ?_); refine mN 1 hN H ?_; clear H; intro a w H
    replace H := v_known H 10 true rfl
    simp only [unG, gdEq, Nat.reduceBEq, cond_true, cond_false] at H
    refine mG H ?_
    refine mCall [] [] (hbit) H ?_; clear H; intro a w H; try refine wpList_nil ?_
    (try refine wp_region_lit ?_); refine mN 1 hN H ?_; clear H; intro a w H
    (try refine wp_region_lit ?_); refine mN 1 hN H ?_; clear H; intro a w H
    refine mS ?_
    refine mC H (fun hb => ?_) (fun hb => ?_)
    · have hz : pbit kq d = 0 := of_decide_eq_true hb
      clear hb
      clear hX; have hX := @hwl
      refine mW ?_; clear H; intro a w H
      rw [show (i : Int) + 1 = ((i + 1 : Nat) : Int) by omega] at H
      refine ⟨i + 1, ⟨hlt, fun m h hm => ?_⟩, by omega, H.to 0 0 ⟨hN, hR⟩ ⟨rfl, rfl, rfl, rfl, trivial⟩ rfl rfl rfl rfl rfl⟩
      rcases Nat.lt_or_ge m i with h3 | h3
      · exact hi2 m h h3
      have : m = i := by omega
      subst this
      rw [hqe]; exact hz
    have hz : pbit kq d ≠ 0 := of_decide_eq_false hb
    clear hb
    have hp := partW_eq d ws i hi1 hi2 (fun h => by rw [hqe]; exact hz)
    rw [hp]
    clear hX; have hX := @hwl
    refine mW ?_; clear H; intro a w H
    refine wp_ret ?_; exact mEnd [] [] [.tmp 4] [_] hN hR H
  have hbf : decide ((i : Int) < (ws.length : Int)) = false := by rw [decide_eq_false_iff_not]; omega
  have hp := partW_eq d ws i hi1 hi2 (fun h => absurd h hlt)
  rw [hp]
  refine mS ?_
  clear hX; have hX := And.intro @hwl (@hbf)
  (try refine wp_region_lit ?_); refine mN 4 hN H ?_; clear H; intro a w H
  (try refine wp_region_lit ?_); refine mN 1 hN H ?_; clear H; intro a w H
  refine mSk .any H ?_; clear H; intro a w H
  refine mSk .any H ?_; clear H; intro a w H
  refine mSk .any H ?_; clear H; intro a w H
  refine mSk .any H ?_; clear H; intro a w H
  refine mSk .any H ?_; clear H; intro a w H
  refine mSk .any H ?_; clear H; intro a w H
  refine mSk .any H ?_; clear H; intro a w H
  refine mSk (.v (.bool false)) H ?_; clear H; intro a w H
  (try refine wp_region_lit ?_); refine mN 1 hN H ?_; clear H; intro a w H
  refine mS ?_
  refine mC H (fun hb => ?_) (fun hb => ?_)
  · exact absurd hb (by decide)
  clear hb
  refine mW ?_; clear H; intro a w H
  refine wp_ret ?_; exact mEnd [] [] [.tmp 4] [_] hN hR H
def tooL (w : Wr) : Bool := !w.2.1 && decide (1024 < w.2.2.length)
def longW (ws : List Wr) : Bool := decide (64 < ws.length) || ws.any tooL
def wrongE (s : Slb) (ws : List Wr) : Int := if longW ws then 4 else if s.used + 258 * (lstW ws).length ≤ s.room then 0 else 9
set_option maxRecDepth 20000 in
set_option maxHeartbeats 4000000 in
theorem wrong_v (s : Slb) (hs : s.wf) (hu : s.used ≤ s.room) (root : Int) (hr : s.rootE root = 0) (hh : root ≠ 0 → (s.get_ root).hd ≠ 0) (ws : List Wr) (hk : K32W ws) (hl : ws.length ≤ 1000000) (hv : ∀ w ∈ ws, w.2.2.length ≤ 34359730000) :
    VX Tryz.prog 58 s.sx [] [] [.ptr 0 [], .v (.int .i64 root), .sl wrT (ws.map wrA) none] s.sx [] [] (errv (wrongE s ws)) := by
  have h1 := stoRoot_v s hs 0
  rw [show s.rootE 0 = 0 from if_pos rfl] at h1
  have h2 := putHand_v s hs root hr hh
  have h3 := wkeys_v ws hk hl
  have hll := lstW_len ws
  have hwl : (ws.map wrA).length = ws.length := List.length_map ..
  have hgw := wrA_get ws
  have hF := fun h => putFits_v s hs hu (lstW ws).length h
  unfold wrongE longW
  simp only [Slb.sx] at h1 h2 hF ⊢
  generalize s.sl.map slA = es at *
  generalize s.fs.map inA = fs at *
  generalize ws.map wrA = ls at *
  generalize hlw : (lstW ws).length = lw at *
  refine mE Tryz.func58 ?_; intro N w0 a w hN hR H
  have hX := @hwl
  refine mW ?_; clear H; intro a w H
  refine mCall [0, 1, 2, 3] [] (h1) H ?_; clear H; intro a w H; try refine wpList_nil ?_
  refine mW ?_; clear H; intro a w H
  refine mC H (fun hb => ?_) (fun hb => ?_)
  · exact absurd hb (by decide)
  clear hb
  refine mW ?_; clear H; intro a w H
  refine mC H (fun hb => ?_) (fun hb => ?_)
  · have h64 : 64 < ws.length := by
      have : decide ((64 : Int) < (ws.length : Int)) = true := hb
      rw [decide_eq_true_eq] at this; omega
    clear hb
    rw [decide_eq_true h64, Bool.true_or, if_pos rfl]
    refine mW ?_; clear H; intro a w H
    refine wp_ret ?_; exact mEnd [0, 1, 2, 3] [] [.tmp 6] [_] hN hR H
  have h64 : ¬ 64 < ws.length := by
    have : decide ((64 : Int) < (ws.length : Int)) = false := hb
    rw [decide_eq_false_iff_not] at this; omega
  clear hb
  rw [decide_eq_false h64, Bool.false_or]
  refine mW ?_; clear H; intro a w H
  refine v_loop (fun i : Nat => ⟨[(18, none, .v (.int .i64 (i : Int))), (17, none, .v (.int .i64 (ws.length : Int))), (16, none, .sl wrT ls none), (6, none, .v (.int .i64 0)), (0, none, .ptr 0 []), (1, none, .v (.int .i64 root)), (2, none, .sl wrT ls none)],
    stoB s.γ s.δ s.sl.length s.m s.room s.used es fs, [], []⟩)
    (fun i => i ≤ ws.length ∧ ∀ m (h : m < ws.length), m < i → tooL ws[m] = false) (fun i => ws.length - i) 0 ⟨Nat.zero_le _, fun m h hm => absurd hm (by omega)⟩ (H.to 4 0 ⟨Nat.le_trans hN (Nat.le_of_ble_eq_true rfl), hR⟩ ⟨rfl, rfl, rfl, rfl, rfl, rfl, rfl, trivial⟩ rfl rfl rfl rfl rfl) ?_
  clear H
  rintro i a w ⟨hi1, hi2⟩ H
  refine mW ?_; clear H; intro a w H
  refine mC H (fun hb => ?_) (fun hb => ?_)
  · have hlt : i < ws.length := by rw [decide_eq_true_eq] at hb; omega
    clear hb
    have hg := hgw i hlt
    have hk32 := hk _ (List.getElem_mem hlt)
    have hvl := hv _ (List.getElem_mem hlt)
    have hmem := List.getElem_mem hlt
    obtain ⟨q, hqe⟩ : ∃ q, ws[i] = q := ⟨_, rfl⟩
    rw [hqe] at hg hk32 hvl hmem
    obtain ⟨kq, gq, vq⟩ := q
    dsimp only at hg hk32 hvl
    refine mS ?_
    clear hX; have hX := And.intro @hwl (And.intro @hg (@hk32))
    (try refine wp_region_lit ?_); refine mN 1 hN H ?_; clear H; intro a w H
    refine mW ?_; clear H; intro a w H
    have hte : tooL (kq, gq, vq) = (bif !gq then decide ((1024 : Int) < (vq.length : Int)) else false) := by
      unfold tooL
      cases gq
      · simp only [Bool.not_false, Bool.true_and, cond_true]
        rw [decide_eq_decide]; omega
      rfl
    refine mC H (fun hb => ?_) (fun hb => ?_)
    · have hany : ws.any tooL = true := List.any_eq_true.2 ⟨_, hmem, hte.trans hb⟩
      clear hb
      rw [hany, if_pos rfl]
      refine mW ?_; clear H; intro a w H
      refine wp_ret ?_; exact mEnd [0, 1, 2, 3] [] [.tmp 6] [_] hN hR H
    have htl := hte.trans hb
    clear hb
    clear hX; have hX := @hwl
    refine mW ?_; clear H; intro a w H
    rw [show (i : Int) + 1 = ((i + 1 : Nat) : Int) by omega] at H
    refine ⟨i + 1, ⟨hlt, fun m h hm => ?_⟩, by omega, H.to 4 0 ⟨Nat.le_trans hN (Nat.le_of_ble_eq_true rfl), hR⟩ ⟨rfl, rfl, rfl, rfl, rfl, rfl, rfl, trivial⟩ rfl rfl rfl rfl rfl⟩
    rcases Nat.lt_or_ge m i with h3 | h3
    · exact hi2 m h h3
    have : m = i := by omega
    subst this
    rw [hqe]; exact htl
  have hge : i = ws.length := by rw [decide_eq_false_iff_not] at hb; omega
  subst hge
  clear hb
  have hany : ws.any tooL = false := by
    rw [List.any_eq_false]
    intro x hx
    obtain ⟨m, hm, rfl⟩ := List.getElem_of_mem hx
    rw [hi2 m hm hm]; decide
  rw [hany, if_neg (by decide)]
  have hF := hF (by omega)
  refine mW ?_; clear H; intro a w H
  refine mCall [0, 1, 2, 3] [] (h2) H ?_; clear H; intro a w H; try refine wpList_nil ?_
  refine mW ?_; clear H; intro a w H
  refine mC H (fun hb => ?_) (fun hb => ?_)
  · exact absurd hb (by decide)
  clear hb
  refine mW ?_; clear H; intro a w H
  refine mCall [] [] (h3) H ?_; clear H; intro a w H; try refine wpList_nil ?_
  refine mCall [0, 1, 2, 3] [] (hF) H ?_; clear H; intro a w H; try refine wpList_nil ?_
  refine mW ?_; clear H; intro a w H
  refine mC H (fun hb => ?_) (fun hb => ?_)
  · have hq : ¬ s.used + 258 * lw ≤ s.room := by
      have : (!decide ((s.used : Int) + 258 * (lw : Int) ≤ (s.room : Int))) = true := hb
      rw [Bool.not_eq_true', decide_eq_false_iff_not] at this; omega
    clear hb
    rw [if_neg hq]
    refine mW ?_; clear H; intro a w H
    refine wp_ret ?_; exact mEnd [0, 1, 2, 3] [] [.tmp 6] [_] hN hR H
  have hq : s.used + 258 * lw ≤ s.room := by
    have : (!decide ((s.used : Int) + 258 * (lw : Int) ≤ (s.room : Int))) = false := hb
    rw [Bool.not_eq_false', decide_eq_true_eq] at this; omega
  clear hb
  rw [if_pos hq]
  refine mW ?_; clear H; intro a w H
  refine wp_ret ?_; exact mEnd [0, 1, 2, 3] [] [.tmp 6] [_] hN hR H
set_option maxRecDepth 20000 in
theorem kept_v (l : List UInt8) (hl : l.length ≤ 34359738000) : VC Tryz.prog 62 [.bc (lentOf l) l.length none, .bs l none] [] (.v (.bool true)) := by
  have hll := lent_len l
  have e1 := lent_v l hl
  have h5 : ((l.length : Int) + 5).toNat = l.length + 5 := by omega
  have hT : (lentOf l).take (l.length + 5) = lentOf l := List.take_of_length_le (by omega)
  refine mE Tryz.func62 ?_; intro N w0 a w hN hR H
  refine mW ?_; clear H; intro a w H
  have hX := And.intro @h5 (And.intro @hT (And.intro @strOf_list (@beq_self_eq_true.{0})))
  refine mS ?_; refine mD 0 [6] [0, 1, 2, 3, 4, 7, 8, 9] H ?_; clear H; intro gS H; refine mT ?_; clear H; intro a w H
  refine mCallT [] [] (e1) H ?_; clear H; intro a w H
  refine mT ?_; clear H; intro a w H
  refine v_drawNil H ?_; clear H; intro H
  refine mW ?_; clear H; intro a w H
  refine wp_ret ?_; exact mEnd [] [] [.tmp 4] [_] hN hR H
theorem lentX_see {X : List XR} {x : XR} {b : List UInt8} (hx : x ∈ X) (h : x.n = b.length ∧ x.c = (lentOf b).length ∧ x.k = (lentOf b).length ∧ x.cells = (lentOf b).map B8) : SeeX X (.v x.v) (.bs b none) := by
  obtain ⟨h1, _, h3, h4⟩ := h
  refine .pub x b hx (by rw [h3, lent_len]; omega) h1 ?_
  rw [h4, ← List.map_take, show (lentOf b).take b.length = b by simp [lentOf]]
def XT (x : XR) (b : List UInt8) : Prop := x.n = b.length ∧ x.c = (lentOf b).length ∧ x.k = (lentOf b).length ∧ x.cells = (lentOf b).map B8
theorem lent_E (l : List UInt8) (hl : l.length ≤ 34359738000) : VE Tryz.prog 57 [.bs l none] (fun X bx rw res => bx = [] ∧ rw = [] ∧ ∃ x : XR, X = [x] ∧ res = .v x.v ∧ XT x l) := VE.ofC (lent_v l hl)
def XTL (X : List XR) (ls : List (List UInt8)) : Prop := X.length = ls.length ∧ ∀ i (h1 : i < X.length) (h2 : i < ls.length), XT X[i] ls[i]
theorem XTL.nil : XTL [] [] := ⟨rfl, fun i h => (by cases h)⟩
theorem XTL.snoc {X : List XR} {ls : List (List UInt8)} {x : XR} {l : List UInt8} (h : XTL X ls) (hx : XT x l) : XTL (X ++ [x]) (ls ++ [l]) := by
  refine ⟨by simp [h.1], fun i h1 h2 => ?_⟩
  rw [List.length_append, List.length_singleton] at h1 h2
  by_cases hi : i < X.length
  · rw [List.getElem_append_left hi, List.getElem_append_left (by rw [← h.1]; exact hi)]; exact h.2 i hi (by rw [← h.1]; exact hi)
  have e1 : i = X.length := by omega
  have e2 : i = ls.length := by rw [← h.1]; exact e1
  rw [List.getElem_append_right (by omega), List.getElem_append_right (by omega)]
  simp only [List.getElem_singleton]
  exact hx
structure Br where
  k : UInt8
  key : List UInt8
  v : List UInt8
  g : List UInt8
  deriving DecidableEq
structure Br.wf (b : Br) : Prop where
  key : b.key.length = 32
  v : b.v.length = 32
  g : b.g.length = 32
inductive Tr where
  | e
  | c (g : List UInt8)
  | l (k v : List UInt8)
  | n (a b : Tr)
def Tr.dg : Tr → List UInt8
  | .e => sum [0]
  | .c g => g
  | .l k v => leafH k v
  | .n a b => innerH a.dg b.dg
def Tr.way (key : List UInt8) : Nat → Tr → List (List UInt8)
  | d, .n a b => if bitN key d then a.dg :: b.way key (d + 1) else b.dg :: a.way key (d + 1)
  | _, _ => []
def Low (d : Nat) (top : List UInt8) : Prop := top.length = 32 ∧ ∀ t, d ≤ t → t < 256 → bitN top t = false
theorem Low.zero : Low 0 (List.replicate 32 0) := by
  refine ⟨List.length_replicate, fun t _ ht => ?_⟩
  unfold bitN
  rw [List.getD_eq_getElem?_getD, List.getElem?_replicate, if_pos (by omega)]
  have : ∀ m : Fin 8, bitAt 0 m.val = false := by decide
  exact this ⟨t % 8, by omega⟩
theorem agree_succ {d : Nat} {p q : List UInt8} : agree (d + 1) p q ↔ agree d p q ∧ bitN p d = bitN q d := by
  constructor
  · intro h; exact ⟨fun t ht => h t (by omega), h d (by omega)⟩
  rintro ⟨h, h1⟩ t ht
  rcases Nat.lt_succ_iff_lt_or_eq.1 ht with h2 | rfl
  · exact h t h2
  exact h1
structure RS where
  rest : List Br
  ks : List (List UInt8)
  ds : List (List UInt8)
  sd : List (List UInt8)
  en : Nd
structure RS.wf (s : RS) : Prop where
  rest : ∀ b ∈ s.rest, b.wf
  ks : ∀ k ∈ s.ks, k.length = 32
  ds : ∀ k ∈ s.ds, k.length = 32
  sd : ∀ k ∈ s.sd, k.length = 32
  en : s.en.wf
  lk : s.ks.length + s.rest.length ≤ 100000
  ld : s.ds.length + s.rest.length ≤ 100000
  ls : s.sd.length + s.rest.length ≤ 100000
structure Sp where
  p : List Br
  v : List (List UInt8)
structure Sp.wf (s : Sp) : Prop where
  p : ∀ b ∈ s.p, b.wf
  lp : s.p.length ≤ 90000
  lv : s.v.length ≤ 90000
  v : ∀ x ∈ s.v, x.length ≤ 34359730000
attribute [local irreducible] wpT
end Go.Proofs.YtgffimanhmpohaaGreat
namespace Go.Proofs.YtgffimanhmpohaaGreat
open Go Go.RowKit
attribute [local irreducible] wpT
end Go.Proofs.YtgffimanhmpohaaGreat
namespace Go.Proofs.YtgffimanhmpohaaGreat
open Go Go.RowKit
def pxs (Z : List Pr) (X : List XR) : List AV := List.zipWith (fun z x => .st [.ba z.1, .v x.v]) Z X
theorem pxs_len (Z : List Pr) (X : List XR) (h : X.length = Z.length) : (pxs Z X).length = Z.length := by simp [pxs, h]
theorem pxs_snoc (Z : List Pr) (X : List XR) (h : X.length = Z.length) (z : Pr) (x : XR) : pxs (Z ++ [z]) (X ++ [x]) = pxs Z X ++ [.st [.ba z.1, .v x.v]] := by
  unfold pxs; rw [List.zipWith_append h.symm]; rfl
attribute [local irreducible] wpT
end Go.Proofs.YtgffimanhmpohaaGreat
namespace Go.Proofs.YtgffimanhmpohaaGreat
open Go Go.RowKit
theorem prs_get (l : List Pr) (i : Nat) (h : i < l.length) : (l.map prA).getD i .any = .st [.ba l[i].1, .bs l[i].2 none] := by simp [prA, List.getD_eq_getElem?_getD, h]
theorem pxs_see {X Y : List XR} {Z : List Pr} (h : XL X (Z.map (·.2))) (hY : ∀ x ∈ X, x ∈ Y) {T : Ty} {tok : Option Nat} : SeeX Y (.sl T (pxs Z X) tok) (.sl T (Z.map prA) none) := by
  have hl : X.length = Z.length := by have := h.1; rwa [List.length_map] at this
  refine .sl (by rw [pxs_len Z X hl, List.length_map]) fun i h1 h2 => ?_
  rw [pxs_len Z X hl] at h1
  have hx := h.2 i (by omega) (by rw [List.length_map]; exact h1)
  rw [List.getElem_map] at hx
  have hs := hx.see (hY _ (List.getElem_mem (show i < X.length by omega)))
  have e : (pxs Z X)[i]'(by rw [pxs_len Z X hl]; exact h1) = .st [.ba Z[i].1, .v (X[i]'(by omega)).v] := by simp [pxs]
  rw [e, List.getElem_map]
  refine .st rfl fun k k1 k2 => ?_
  match k, k1 with
  | 0, _ => exact .refl _
  | 1, _ => exact hs
attribute [local irreducible] wpT
end Go.Proofs.YtgffimanhmpohaaGreat
namespace Go.Proofs.YtgffimanhmpohaaGreat
open Go Go.RowKit
attribute [local irreducible] wpT
end Go.Proofs.YtgffimanhmpohaaGreat
namespace Go.Proofs.YtgffimanhmpohaaGreat
open Go Go.RowKit
section
variable {P : Program} {τ : Tab} {w0 w : World} {N : Gh} {g : Gh} {st : St} {nt : Nat} {a : Act}
theorem v_mkC {ops : Array Oper} {Q : Exit → Act → World → Prop} {rest : List Oper} {o : Oper} {t e : Nat} {i j : TI} {l k : Operand} {k1 k2 : IntKind} (m m2 : Nat) (hτ : τ.ok P) (hi : Tab.get t τ = some i) (hid : i.d = .slc e) (hj : Tab.get e τ = some j) (hs : 0 < j.ty.size) (H : Rel P w0 N nt st a w)
    (h1 : m ≤ m2) (h2 : (j.bytes : Int) * m2 ≤ 281474976710656) (h3 : m2 ≤ maxLen)
    (kk : ∀ a w, Rel P w0 N nt ((⟨st.t, st.bx ++ [(.vc e j.ty, .vc 0 (List.replicate m2 j.zero))], st.fz, st.rw⟩ : St).put o.dst none (.vwc st.bx.length 0 m m2)) a w → wpList P ops Q rest a w)
    (hgd : o.guard = none := by rfl) (ho : o.op = .makeSlice t l k := by rfl) (hd : okDst nt none o.dst = true := by rfl) (hl : st.ev none l = .v (.int k1 (m : Int)) := by rfl) (hk : st.ev none k = .v (.int k2 (m2 : Int)) := by rfl) : wpList P ops Q (o :: rest) a w := by
  obtain ⟨g, HI, hF⟩ := H
  have hd0 := (Tab.get_ok hτ hi).d
  rw [hid] at hd0
  have hjok := Tab.get_ok hτ hj
  obtain ⟨inf, z, e1, e2, e3, e4, e5⟩ := hjok.info
  have hlv := ev_sound hF (c := none) trivial l
  rw [hl] at hlv
  have hlv := hlv.v_inv
  have hkv := ev_sound hF (c := none) trivial k
  rw [hk] at hkv
  have hkv := hkv.v_inv
  have hzs : z.cells.size = j.ty.size := by rw [← Array.length_toList]; exact (e5 ⟨fun _ _ => none, [], []⟩).size
  have hrun := run_make (P := P) w t e inf z hd0 e1 e4 k1 k2 (m : Int) (m2 : Int) (by omega) (by omega) (by rw [e3]; exact h2) (by simp only [maxLen] at h3; omega)
  have hcs : (madeCells z.cells (m2 * inf.size)).toList = (List.replicate m2 z.cells.toList).flatten := by
    have := initCells z.cells m2 j.ty.size hzs
    rw [e2]; unfold madeCells; rw [this]
  have hz1 : ∀ u ∈ z.cells.toList, u.oneCell' = true := (e5 ⟨fun _ _ => none, [], []⟩).one
  have hlen : (List.replicate m2 z.cells.toList).flatten.length = m2 * j.ty.size := by rw [List.length_flatten]; simp [hzs]
  obtain ⟨g', l1, I1, hx1⟩ := HI.boxG (x := ⟨w.heap.size, e, .vc e j.ty, (List.replicate m2 z.cells.toList).flatten, false, 0, m2, false, none⟩) (a := .vc 0 (List.replicate m2 j.zero)) (w' := w.alloc (.cells (List.replicate m2 z.cells.toList).flatten.toArray e)) rfl (grown_alloc w _) (fun _ => ⟨rfl, .of rfl (Blk.new w e _)⟩) (fun e => by cases e) (fun e => by cases e)
    (.inr (.inl ⟨j.ty, 0, List.replicate m2 j.zero, fun _ => z.cells.toList, [], ⟨_, rfl, rfl⟩, rfl, rfl, rfl, hs, ⟨h3, fun e => (by cases e)⟩, by
      rw [List.length_replicate, flat_rep, List.append_nil], hlen, fun u hu => (by cases hu), fun q hq => by simp only [List.getElem_replicate]; exact e5 _⟩))
  refine wpList_plain hgd fun K hK => ?_
  unfold Oper.wp
  have he : (execOp a.eval o).run P w = .ok (.value (.slice (some ⟨w.heap.size, 0, none⟩) m m2)) (w.alloc (.cells (List.replicate m2 z.cells.toList).flatten.toArray e)) := by
    obtain ⟨dst, op, ty, pos, after, gd⟩ := o
    dsimp only at ho
    subst ho
    have e9 : (madeCells z.cells (m2 * inf.size)) = (List.replicate m2 z.cells.toList).flatten.toArray := by apply Array.toList_inj.1; rw [hcs]
    rw [← e9]
    simp only [execOp, hlv, hkv, Sem.run_bind, hrun, Result.andThen_ok, Sem.run_pure, Int.toNat_natCast]
  rw [he, Oper.upon_value]
  have hvw : RC g' .sc (.vw st.bx.length 0 m) [.slice (some ⟨w.heap.size, 0, none⟩) m m2] := RC.vw (c := m2) hx1 rfl (Nat.le_refl _) h1 h3 fun _ => ⟨rfl, .inr ⟨rfl, rfl⟩⟩
  refine hK _ _ (kk _ _ ⟨g', ?_, (hF.mono l1.1).put hd (fun _ => (RC.vwc hvw fun x hx _ => by rw [hx1] at hx; injection hx with hx; subst hx; rfl).rv1) rfl (fun h => absurd trivial h)⟩)
  cases o.dst <;> exact I1
end
variable {P : Program} {w0 w : World} {N g : Gh} {st : St} {nt : Nat} {a : Act}
theorem v_frz0 (HI : Inv P w0 N g st.bx st.fz st.rw w) (hF : FR g nt st a) (d i : Nat) {e γ n : Nat} {T : Ty} {es : List AV} (hN : N.bx.length ≤ i) (hb : st.bx[i]? = some (.vc e T, .vc γ es)) (hn : n ≤ es.length) (hd : find d st.t = some (none, .vw i γ n)) :
    ∃ g1, g.lex g1 ∧ Inv P w0 N g1 st.bx (i :: st.fz) st.rw w ∧ FR g1 nt ⟨nilT d (.sl T (es.take n) none) st.t, st.bx, i :: st.fz, st.rw⟩ a := by
  obtain ⟨y, hy, hyT, hbc⟩ := HI.br.at_ i _ _ hb
  obtain ⟨T2, F, sp, ⟨e2, he2, htid⟩, hmp, hgen, h0, hcm, hcs, hcl, hsp, hFk⟩ := hbc.vc_inv
  injection he2 with he20 he2; subst he20 he2
  have hv := (hF.t _ (find_mem hd) trivial).vw_inv.vw_inv
  obtain ⟨_, y', e3, T3, A, c, hval, hy', hty', hle, hnc, hm, hxx⟩ := hv
  rw [hy] at hy'; injection hy' with hy'; subst hy'
  injection hval with hval
  obtain ⟨hcc, hA⟩ := hxx hgen
  have hval : a.tmps.getD d undef = .slice A n c := hval
  have htl : (es.take n).length = n := by rw [List.length_take]; omega
  rcases hA with ⟨ho, hA⟩ | ⟨ho, hA⟩
  · have hc0 : c = 0 := by rw [hcc]; exact hcm.2 ho
    refine ⟨g, Gh.lex.refl g, ⟨HI.mem, HI.fr, HI.br, fun j x hj hf => List.mem_cons_of_mem _ (HI.fz j x hj hf), HI.wr, HI.wz⟩, hF.sz, hF.df, fun p hp' hg => ?_, fun p hp hg => by rcases nilT_mem hp with h | h; (subst h; exact absurd trivial hg); exact hF.u p h hg⟩
    rcases nilT_mem hp' with h | h
    · subst h
      show RV g (.sl T (es.take n) none) (a.tmps.getD d undef)
      have hn0 : n = 0 := by omega
      rw [hval, hA, hn0, hc0]
      exact (RC.nil2 (by simp)).rv1
    exact hF.t p h hg
  obtain ⟨g1, l1, I1, _, hro⟩ := HI.freeze hy ho hmp hN
  refine ⟨g1, l1, I1, (hF.mono l1.1).sz, hF.df, fun p hp' hg => ?_, fun p hp hg => by rcases nilT_mem hp with h | h; (subst h; exact absurd trivial hg); exact hF.u p h hg⟩
  rcases nilT_mem hp' with h | h
  · subst h
    show RV g1 (.sl T (es.take n) none) (a.tmps.getD d undef)
    rw [hval, hA]
    have := RC.sl (g := g1) (T := T) (es := es.take n) (tok := none) (A := some ⟨y.blk, 0, none⟩) (c := c) (by omega) hm F (.inr ⟨y.blk, 0, rfl, fun k hk j u hu => by
      rw [Nat.zero_add]
      refine hro _ _ ?_
      rw [hcs]
      exact flat_at hFk (by omega) hu⟩) (fun k hk => by
      rw [List.getElem_take]
      exact (hFk k (by omega)).mono l1.1.base) (fun i hi => by cases hi)
    rw [htl] at this
    exact this.rv1
  exact (hF.mono l1.1).t p h hg
theorem RelX.frz {X : List XR} (H : RelX w0.heap.size P w0 N nt st X a w) (d i : Nat) {e γ n : Nat} {T : Ty} {es : List AV} (hN : N.bx.length ≤ i) (hb : st.bx[i]? = some (.vc e T, .vc γ es)) (hn : n ≤ es.length) (hd : find d st.t = some (none, .vw i γ n)) :
    RelX w0.heap.size P w0 N nt ⟨nilT d (.sl T (es.take n) none) st.t, st.bx, i :: st.fz, st.rw⟩ X a w :=
  H.ghost rfl rfl fun g HI hF => v_frz0 HI hF d i hN hb hn hd
end Go.Proofs.YtgffimanhmpohaaGreat
namespace Go.Proofs.YtgffimanhmpohaaGreat
open Go Go.RowKit
def wxs (ws : List Wr) (X : List XR) : List AV := List.zipWith (fun p x => .st [.ba p.1, .v (.bool p.2.1), .v x.v]) ws X
theorem wxs_len (ws : List Wr) (X : List XR) (h : X.length = ws.length) : (wxs ws X).length = ws.length := by simp [wxs, h]
theorem wxs_snoc (ws : List Wr) (X : List XR) (h : X.length = ws.length) (p : Wr) (x : XR) : wxs (ws ++ [p]) (X ++ [x]) = wxs ws X ++ [.st [.ba p.1, .v (.bool p.2.1), .v x.v]] := by
  unfold wxs; rw [List.zipWith_append h.symm]; rfl
def zeroWr : AV := .st [.ba (List.replicate 32 0), .v (.bool false), .v (.slice none 0 0)]
def lwK (ws : List Wr) (k : Nat) (X : List XR) : List AV := wxs (ws.take k) X ++ List.replicate (ws.length + 2 - k) zeroWr
theorem lwK_len (ws : List Wr) (k : Nat) (X : List XR) (h : k ≤ ws.length) (hX : X.length = k) : (lwK ws k X).length = ws.length + 2 := by
  unfold lwK
  rw [List.length_append, wxs_len _ _ (by rw [List.length_take]; omega), List.length_take, List.length_replicate]; omega
theorem lwK_set (ws : List Wr) (k : Nat) (X : List XR) (h : k < ws.length) (hX : X.length = k) (x : XR) : (lwK ws k X).set k (.st [.ba ws[k].1, .v (.bool ws[k].2.1), .v x.v]) = lwK ws (k + 1) (X ++ [x]) := by
  unfold lwK
  have h1 : X.length = (ws.take k).length := by rw [List.length_take]; omega
  have h2 : (wxs (ws.take k) X).length = k := by rw [wxs_len _ _ h1]; omega
  obtain ⟨q, hq⟩ : ∃ q, ws.length + 2 - k = q + 1 := ⟨ws.length + 1 - k, by omega⟩
  rw [hq, show ws.length + 2 - (k + 1) = q by omega, List.take_succ_eq_append_getElem h, wxs_snoc _ _ h1, List.replicate_succ]
  rw [List.set_append_right _ _ (by omega), h2, Nat.sub_self]
  simp
theorem lwK_all (ws : List Wr) (X : List XR) (hX : X.length = ws.length) : (lwK ws ws.length X).take ws.length = wxs ws X := by
  unfold lwK
  rw [List.take_length, List.take_append_of_le_length (by rw [wxs_len _ _ hX]; exact Nat.le_refl _), List.take_of_length_le (by rw [wxs_len _ _ hX]; exact Nat.le_refl _)]
attribute [local irreducible] wpT
set_option maxRecDepth 20000 in
set_option maxHeartbeats 8000000 in
theorem lentW_E (ws : List Wr) (hk : K32W ws) (hv : ∀ w ∈ ws, w.2.2.length ≤ 34359730000) (hl : ws.length ≤ 1048576) :
    VE Tryz.prog 21 [.sl wrT (ws.map wrA) none] (fun X bx' rw' res => bx' = [] ∧ rw' = [] ∧ res = .sl wrT (wxs ws X) none ∧ XTL X (ws.map (·.2.2))) := by
  have hlm : (ws.map wrA).length = ws.length := List.length_map ..
  refine v_enterE Tryz.func21 rfl (by kernel_rfl) (by show 1 ≤ 38; decide) ?_
  intro N w0 a w hN hR H
  have hM : N.bx.length ≤ 0 ∧ N.rw.length ≤ 0 := ⟨hN, hR⟩
  refine mS ?_
  have hX := @hlm
  (try refine wp_region_lit ?_); refine mN 1 hN H ?_; clear H; intro a w H
  refine mS ?_
  (try refine wpList_nil ?_)
  refine mS ?_
  (try refine wp_region_lit ?_); refine mN 5 hN H ?_; clear H; intro a w H
  have hi2 : ((ws.length : Int) + 2) = ((ws.length + 2 : Nat) : Int) := by omega
  rw [hi2] at H
  refine v_mkC ws.length (ws.length + 2) tab_ok (i := ti56) (j := ti60) rfl rfl rfl (by decide) H (by omega) (by simp; omega) (by simp only [maxLen]; omega) ?_; clear H; intro a w H
  replace H := nf H
  refine mW ?_; clear H; intro a w H
  replace H := v_sub H 3 (x := .vwc 0 0 ws.length (ws.length + 2)) (y := .vw 0 0 ws.length) (by exact ⟨rfl, rfl, rfl⟩) rfl (fun _ e => by cases e) rfl
  simp only [nilT, reduceIte, Nat.reduceEqDiff] at H
  refine v_loopI (fun k a w => ∃ X : List XR, XTL X ((ws.take k).map (·.2.2)) ∧ RelX w0.heap.size Tryz.prog w0 N Tryz.f21.ntmps ⟨[(4, none, .v (.int .i64 (k : Int))), (3, none, .vw 0 0 ws.length), (0, none, .sl wrT (ws.map wrA) none)],
    [(.vc 60 wrT, .vc 0 (lwK ws k X))], [], []⟩ X a w)
    (fun k => k ≤ ws.length) (fun k => ws.length - k) 0 (Nat.zero_le _) ⟨[], XTL.nil, Rel.toX (by exact H.to 1 0 ⟨Nat.le_trans hN (Nat.zero_le _), Nat.le_trans hR (Nat.zero_le _)⟩ ⟨rfl, rfl, rfl, trivial⟩ (by simp [lwK, wxs]; rfl) rfl rfl rfl rfl) _⟩ ?_
  clear H hN hR
  rintro k a w1 hk1 ⟨X, hT, H⟩
  obtain ⟨N1, hB, hZ, H, hN1, hR1⟩ := H.open_
  have hN : N1.bx.length ≤ 1 := Nat.le_of_eq hN1
  have hR : N1.rw.length ≤ 0 := Nat.le_of_eq hR1
  clear hN1 hR1
  have hXl : X.length = k := by have := hT.1; rw [List.length_map, List.length_take] at this; omega
  have hll := lwK_len ws k X hk1 hXl
  clear hX; have hX := And.intro @hlm (@hll)
  refine mW ?_; clear H; intro a w H
  refine mC H (fun hb => ?_) (fun hb => ?_)
  · have hlt : k < ws.length := by rw [decide_eq_true_eq] at hb; omega
    clear hb
    have hg := wrA_get ws k hlt
    have w1 := hk _ (List.getElem_mem hlt)
    have hle := lent_E ws[k].2.2 (by have := hv _ (List.getElem_mem hlt); omega)
    have hst := lwK_set ws k X hlt hXl
    have htk : (ws.take (k + 1)).map (·.2.2) = (ws.take k).map (·.2.2) ++ [ws[k].2.2] := by rw [List.take_succ_eq_append_getElem hlt, List.map_append]; rfl
    generalize ws[k] = q at *
    obtain ⟨kb, gb, vb⟩ := q
    dsimp only at hg w1 hle hst htk
    generalize hLE : lwK ws k X = LE at *
    clear hX; have hX := And.intro @hlm (And.intro @hg (@hll))
    have hY := @w1
    refine mS ?_; refine mD 0 [17, 20] [0, 1, 2, 3, 4, 5, 6, 7, 8, 9, 10, 11] H ?_; clear H; intro gS H
    refine mTN 5 hN H ?_; clear H; intro a w H; simp only [drL]
    refine mTN 5 hN H ?_; clear H; intro a w H; simp only [drL]
    refine mTN 5 hN H ?_; clear H; intro a w H; simp only [drL]
    refine mTN 2 hN H ?_; clear H; intro a w H; simp only [drL]
    refine v_callET hle hB (Nat.le_refl _) hZ H (by rintro Y bx' rw' res ⟨rfl, rfl, x, rfl, rfl, _⟩; exact ⟨rfl, rfl⟩) ?_
    clear H
    rintro Y bx' rw' res a w ⟨rfl, rfl, x, rfl, rfl, hx⟩ H
    replace H := nfXT H
    clear hB hZ hN hR
    obtain ⟨N2, hB, hZ, H, hN2, hR2⟩ := H.open_
    have hN : N2.bx.length ≤ 1 := Nat.le_of_eq hN2
    have hR : N2.rw.length ≤ 0 := Nat.le_of_eq hR2
    clear hN2 hR2
    refine mTN 1 hN H ?_; clear H; intro a w H; simp only [drL]
    refine mTN 1 hN H ?_; clear H; intro a w H; simp only [drL]
    refine mT ?_; clear H; intro a w H
    refine v_drawNil H ?_; clear H; intro H
    rw [hst] at H
    clear hX; have hX := @hlm
    clear hY
    refine mW ?_; clear H; intro a w H
    rw [show (k : Int) + 1 = ((k + 1 : Nat) : Int) by omega] at H
    exact ⟨k + 1, hlt, by omega, X ++ [x], by rw [htk]; exact hT.snoc hx, (RelX.close hB hZ H).to 1 0 ⟨Nat.le_trans hM.1 (Nat.zero_le _), hM.2⟩ ⟨rfl, rfl, rfl, trivial⟩ rfl rfl rfl rfl rfl⟩
  have hge : k = ws.length := by rw [decide_eq_false_iff_not] at hb; omega
  subst hge
  clear hb
  rw [List.take_length] at hT
  have hXw : X.length = ws.length := by rw [hXl]
  replace H := RelX.close hB hZ H
  clear hB hZ hN hR
  replace H := H.frz 3 0 hM.1 rfl (by omega) rfl
  rw [lwK_all ws X hXw] at H
  simp only [nilT, reduceIte, Nat.reduceEqDiff] at H
  obtain ⟨N1, hB, hZ, H, hN1, hR1⟩ := H.open_
  have hN : N1.bx.length ≤ 1 := Nat.le_of_eq hN1
  have hR : N1.rw.length ≤ 0 := Nat.le_of_eq hR1
  clear hN1 hR1
  clear hX; have hX := @hlm
  refine mW ?_; clear H; intro a w H
  replace H := nf H
  refine wp_ret ?_
  exact v_endE (bx' := []) (rs := [.tmp 2]) (ress := [_]) (nb := 0) (nr := 0) [] [] tab_ok hM rfl (RelX.close hB hZ H) (by rfl) (by rfl) cbX (by rfl) ⟨sub_refl _ _, trivial⟩ rfl ⟨rfl, rfl, rfl, hT⟩
end Go.Proofs.YtgffimanhmpohaaGreat
namespace Go.Proofs.YtgffimanhmpohaaGreat
open Go Go.RowKit
attribute [local irreducible] wpT
end Go.Proofs.YtgffimanhmpohaaGreat
namespace Go.Proofs.YtgffimanhmpohaaGreat
open Go Go.RowKit
attribute [local irreducible] wpT
end Go.Proofs.YtgffimanhmpohaaGreat
namespace Go.Proofs.YtgffimanhmpohaaGreat
open Go Go.RowKit
def lwA (p : Wr) : AV := .st [.ba p.1, .v (.bool p.2.1), .bc (lentOf p.2.2) p.2.2.length none]
theorem lwA_get (l : List Wr) (k : Nat) (h : k < l.length) : (l.map lwA).getD k .any = .st [.ba l[k].1, .v (.bool l[k].2.1), .bc (lentOf l[k].2.2) l[k].2.2.length none] := by simp [lwA, List.getD_eq_getElem?_getD, h]
theorem wxs_at (ws : List Wr) (X : List XR) (h : X.length = ws.length) (i : Nat) (h1 : i < (wxs ws X).length) (h2 : i < ws.length) (h3 : i < X.length) : (wxs ws X)[i] = .st [.ba ws[i].1, .v (.bool ws[i].2.1), .v X[i].v] := by simp [wxs]
theorem wxs_lent {X Y : List XR} {ws : List Wr} (h : XTL X (ws.map (·.2.2))) (hY : ∀ x ∈ X, x ∈ Y) {T : Ty} {tok : Option Nat} : SeeX Y (.sl T (wxs ws X) tok) (.sl T (ws.map lwA) none) := by
  have hl : X.length = ws.length := by have := h.1; rwa [List.length_map] at this
  refine .sl (by rw [wxs_len ws X hl, List.length_map]) fun i h1 h2 => ?_
  have h1' : i < ws.length := by rwa [wxs_len ws X hl] at h1
  have hx := h.2 i (by omega) (by rw [List.length_map]; exact h1')
  rw [List.getElem_map] at hx
  obtain ⟨x1, x2, x3, x4⟩ := hx
  rw [wxs_at ws X hl i h1 h1' (by omega), List.getElem_map]
  have hs : SeeX Y (.v (X[i]'(by omega)).v) (.bc (lentOf ws[i].2.2) ws[i].2.2.length none) := by
    rw [← x1]
    exact .pubc _ _ (hY _ (List.getElem_mem _)) (by rw [x3]; exact Nat.le_refl _) x2 x4
  refine .st rfl fun k k1 k2 => ?_
  match k, k1 with
  | 0, _ => exact .refl _
  | 1, _ => exact .refl _
  | 2, _ => exact hs
attribute [local irreducible] wpT
set_option maxRecDepth 20000 in
set_option maxHeartbeats 4000000 in
theorem keptW_v (l : List Wr) (hk : K32W l) (hv : ∀ w ∈ l, w.2.2.length ≤ 34359730000) (hl : l.length ≤ 1048576) : VC Tryz.prog 23 [.sl wrT (l.map lwA) none, .sl wrT (l.map wrA) none] [] (.v (.bool true)) := by
  have hlm : (l.map wrA).length = l.length := List.length_map ..
  have hpl : (l.map lwA).length = l.length := List.length_map ..
  have hg1 := wrA_get l
  have hg2 := lwA_get l
  generalize l.map wrA = es at *
  generalize l.map lwA = fs at *
  refine mE Tryz.func23 ?_; intro N w0 a w hN hR H
  have hX := And.intro @hlm (@hpl)
  refine mW ?_; clear H; intro a w H
  refine mC H (fun hb => ?_) (fun hb => ?_)
  · simp at hb
  clear hb
  refine mW ?_; clear H; intro a w H
  refine v_loop (fun i : Nat => ⟨[(5, none, .v (.int .i64 (i : Int))), (4, none, .v (.bool false)), (0, none, .sl wrT fs none), (1, none, .sl wrT es none)], [], [], []⟩) (fun i => i ≤ l.length) (fun i => l.length - i) 0 (Nat.zero_le _)
    (H.to 0 0 ⟨hN, hR⟩ ⟨rfl, rfl, rfl, rfl, trivial⟩ rfl rfl rfl rfl rfl) ?_
  clear H
  intro i a w hi H
  refine mW ?_; clear H; intro a w H
  refine mC H (fun hb => ?_) (fun hb => ?_)
  · have hlt : i < l.length := by rw [decide_eq_true_eq] at hb; omega
    clear hb
    have hg := hg1 i hlt
    have hf := hg2 i hlt
    have hz := hk _ (List.getElem_mem hlt)
    have hsm := kept_v l[i].2.2 (by have := hv _ (List.getElem_mem hlt); omega)
    generalize l[i] = z at *
    obtain ⟨zk, zg, zv⟩ := z
    dsimp only at hg hf hz hsm
    refine mS ?_
    clear hX; have hX := And.intro @hlm (And.intro @hpl (And.intro @hg (And.intro @hf (@hz))))
    replace H := mK [0, 1, 4, 5] 0 0 hN hR H
    refine mS ?_; refine mD 0 [35] [] H ?_; clear H; intro gS H
    refine mTN 3 hN H ?_; clear H; intro a w H; simp only [drL]
    refine mTN 5 hN H ?_; clear H; intro a w H; simp only [drL]
    refine mTN 4 hN H ?_; clear H; intro a w H; simp only [drL]
    refine mTN 3 hN H ?_; clear H; intro a w H; simp only [drL]
    refine mTN 5 hN H ?_; clear H; intro a w H; simp only [drL]
    refine mTN 4 hN H ?_; clear H; intro a w H; simp only [drL]
    refine mTN 4 hN H ?_; clear H; intro a w H; simp only [drL]
    refine mTN 5 hN H ?_; clear H; intro a w H; simp only [drL]
    refine mTN 2 hN H ?_; clear H; intro a w H; simp only [drL]
    refine mCallTG [] [] (hsm) H ?_; clear H; intro a w H
    refine mT ?_; clear H; intro a w H
    refine v_drawNil H ?_; clear H; intro H
    refine mC H (fun hb => ?_) (fun hb => ?_)
    · simp at hb
    clear hb
    refine mS ?_
    replace H := mK [0, 1, 4, 5] 0 0 hN hR H
    refine mW ?_; clear H; intro a w H
    rw [show (i : Int) + 1 = ((i + 1 : Nat) : Int) by omega] at H
    exact ⟨i + 1, hlt, by omega, H.to 0 0 ⟨hN, hR⟩ ⟨rfl, rfl, rfl, rfl, trivial⟩ rfl rfl rfl rfl rfl⟩
  clear hb
  refine mW ?_; clear H; intro a w H
  refine wp_ret ?_; exact mEnd [] [] [.tmp 4] [_] hN hR H
end Go.Proofs.YtgffimanhmpohaaGreat
namespace Go.Proofs.YtgffimanhmpohaaGreat
open Go Go.RowKit
attribute [local irreducible] wpT
end Go.Proofs.YtgffimanhmpohaaGreat
namespace Go.Proofs.YtgffimanhmpohaaGreat
open Go Go.RowKit
def pwW (p : Pr) : Wr := (p.1, false, p.2)
def ovZ (ps : List Pr) (ws : List Wr) : List Wr := srtW (lstW (ps.map pwW ++ ws))
def liveW : List Wr → List Pr
  | [] => []
  | w :: l => if w.2.1 then liveW l else (w.1, w.2.2) :: liveW l
theorem liveW_snoc (w : Wr) : ∀ l : List Wr, liveW (l ++ [w]) = if w.2.1 then liveW l else liveW l ++ [(w.1, w.2.2)]
  | [] => by unfold liveW; simp only [List.nil_append]; rfl
  | x :: l => by
    have ih := liveW_snoc w l
    show liveW (x :: (l ++ [w])) = _
    unfold liveW
    rw [ih]
    by_cases h1 : x.2.1 = true <;> by_cases h2 : w.2.1 = true <;> simp [h1, h2]
theorem liveW_len : ∀ l : List Wr, (liveW l).length ≤ l.length
  | [] => Nat.le_refl _
  | w :: l => by
    have := liveW_len l
    unfold liveW
    split <;> simp <;> omega
theorem pw_len (ps : List Pr) : ((ps.map pwW).map wrA).length = ps.length := by simp
attribute [local irreducible] wpT
set_option maxRecDepth 20000 in
set_option maxHeartbeats 8000000 in
theorem wover_E (ps : List Pr) (ws : List Wr) (hp : K32 ps) (hk : K32W ws) (hv : ∀ w ∈ ovZ ps ws, w.2.2.length ≤ 34359730000) (hl : ps.length ≤ 100000) (hl2 : ws.length ≤ 100000) :
    VE Tryz.prog 91 [.sl prT (ps.map prA) none, .sl wrT (ws.map wrA) none] (fun X bx' rw' res => bx' = [] ∧ rw' = [] ∧ res = .sl prT (pxs (liveW (ovZ ps ws)) X) none ∧ XL X ((liveW (ovZ ps ws)).map (·.2))) := by
  have hpl : (ps.map prA).length = ps.length := List.length_map ..
  have hwl : (ws.map wrA).length = ws.length := List.length_map ..
  have hk2 : K32W (ps.map pwW ++ ws) := fun x hx => by
    rcases List.mem_append.1 hx with hx | hx
    · obtain ⟨p, hp1, rfl⟩ := List.mem_map.1 hx
      exact hp p hp1
    exact hk x hx
  have hb0 := last_b (ps.map pwW ++ ws) hk2 (by rw [List.length_append, List.length_map]; omega)
  have hlw := lstW_len (ps.map pwW ++ ws)
  have hsl : (srtW (lstW (ps.map pwW ++ ws))).length = (lstW (ps.map pwW ++ ws)).length := (srtW_perm _).length_eq
  rw [← hsl] at hb0 hlw
  rw [List.map_append] at hb0
  rw [List.length_append, List.length_map] at hlw
  unfold ovZ at hv ⊢
  have hzk : K32W (srtW (lstW (ps.map pwW ++ ws))) := (lstW_k32 _ hk2).perm (srtW_perm _)
  generalize srtW (lstW (ps.map pwW ++ ws)) = Z at *
  clear hsl
  refine v_enterE Tryz.func91 rfl (by kernel_rfl) (by show 2 ≤ 49; decide) ?_
  intro N w0 a w hN hR H
  have hM : N.bx.length ≤ 0 ∧ N.rw.length ≤ 0 := ⟨hN, hR⟩
  have hX := And.intro @hpl (@hwl)
  refine mW ?_; clear H; intro a w H
  replace H := v_nilE tab_ok H 5 60 wrT (j := ti60) rfl (by decide) rfl
  simp only [nilT, reduceIte, Nat.reduceEqDiff, List.length_nil, List.nil_append] at H
  refine v_loop (fun k : Nat => ⟨[(13, none, .v (.int .i64 (k : Int))), (12, none, .v (.int .i64 (ps.length : Int))), (11, none, .sl prT (ps.map prA) none), (5, none, .sl wrT (((ps.take k).map pwW).map wrA) (some 0)), (1, none, .sl wrT (ws.map wrA) none)],
    [], [], [(60, k)]⟩) (fun k => k ≤ ps.length) (fun k => ps.length - k) 0 (Nat.zero_le _) (H.to 0 1 ⟨hN, Nat.le_trans hR (Nat.zero_le _)⟩ ⟨rfl, rfl, rfl, rfl, rfl, trivial⟩ rfl rfl rfl rfl rfl) ?_
  clear H
  intro k a w hk1 H
  refine mW ?_; clear H; intro a w H
  refine mC H (fun hb => ?_) (fun hb => ?_)
  · have hlt : k < ps.length := by rw [decide_eq_true_eq] at hb; omega
    clear hb
    have g1 := prs_get ps k hlt
    have w1 := hp _ (List.getElem_mem hlt)
    have e1 : ((ps.take (k + 1)).map pwW).map wrA = ((ps.take k).map pwW).map wrA ++ [wrA (pwW ps[k])] := by rw [List.take_succ_eq_append_getElem hlt, List.map_append, List.map_append]; rfl
    have hcl : (((ps.take k).map pwW).map wrA).length = k := by rw [pw_len, List.length_take]; omega
    generalize ps[k] = q at *
    obtain ⟨kb, vb⟩ := q
    dsimp only at g1 w1
    have hwe : wrA (pwW (kb, vb)) = .st [.ba kb, .v (.bool false), .bs vb none] := rfl
    rw [hwe] at e1
    clear hwe
    generalize ((ps.take k).map pwW).map wrA = cs at *
    refine mS ?_
    clear hX; have hX := And.intro @hpl (And.intro @hwl (And.intro @g1 (And.intro @w1 (@hcl))))
    (try refine wp_region_lit ?_); refine mN 2 hN H ?_; clear H; intro a w H
    refine mW ?_; clear H; intro a w H
    rw [← e1, show (k : Int) + 1 = ((k + 1 : Nat) : Int) by omega] at H
    exact ⟨k + 1, hlt, by omega, H.to 0 1 ⟨hN, Nat.le_trans hR (Nat.zero_le _)⟩ ⟨rfl, rfl, rfl, rfl, rfl, trivial⟩ rfl rfl rfl rfl rfl⟩
  have hge : k = ps.length := by rw [decide_eq_false_iff_not] at hb; omega
  subst hge
  clear hb
  rw [List.take_length] at H
  have hcl := pw_len ps
  generalize (ps.map pwW).map wrA = cs at *
  generalize ws.map wrA = es at *
  refine mS ?_
  clear hX; have hX := And.intro @hcl (@hwl)
  (try refine wp_region_lit ?_); refine mN 1 hN H ?_; clear H; intro a w H
  (try refine wpList_nil ?_)
  refine mS ?_
  (try refine wp_region_lit ?_); refine mN 3 hN H ?_; clear H; intro a w H
  replace H := v_sub H 28 (x := .sl wrT (cs ++ es) (some 0)) (y := .sl wrT (cs ++ es) none) ⟨rfl, rfl⟩ rfl (fun az h => by cases h) rfl
  simp only [nilT, reduceIte, Nat.reduceEqDiff] at H
  refine mCall [] [] (hb0) H ?_; clear H; intro a w H; try refine wpList_nil ?_
  replace H := v_frz H 29 0 hN rfl (by rw [List.length_map]; exact Nat.le_refl _) rfl
  have hzl : (Z.map wrA).length = Z.length := List.length_map ..
  rw [List.take_of_length_le (Nat.le_of_eq hzl)] at H
  simp only [nilT, reduceIte, Nat.reduceEqDiff] at H
  replace H := mK [8, 29] 1 0 hN hR H
  clear hX; have hX := @hzl
  refine mW ?_; clear H; intro a w H
  replace H := v_nilE tab_ok H 8 53 prT (j := ti53) rfl (by decide) rfl
  simp only [nilT, reduceIte, Nat.reduceEqDiff, List.length_nil, List.nil_append] at H
  refine v_loopI (fun k a w => ∃ X : List XR, XL X ((liveW (Z.take k)).map (·.2)) ∧ RelX w0.heap.size Tryz.prog w0 N Tryz.f91.ntmps ⟨[(31, none, .v (.int .i64 (k : Int))), (30, none, .v (.int .i64 (Z.length : Int))), (29, none, .sl wrT (Z.map wrA) none), (8, none, .sl prT (pxs (liveW (Z.take k)) X) (some 0))],
    [(.vc 60 wrT, .vc Z.length (Z.map wrA))], [0], [(53, (liveW (Z.take k)).length)]⟩ X a w)
    (fun k => k ≤ Z.length) (fun k => Z.length - k) 0 (Nat.zero_le _) ⟨[], XL.nil, Rel.toX (by exact H.to 1 1 ⟨Nat.le_trans hN (Nat.zero_le _), Nat.le_trans hR (Nat.zero_le _)⟩ ⟨rfl, rfl, rfl, rfl, trivial⟩ rfl rfl rfl rfl rfl) _⟩ ?_
  clear H hN hR
  rintro k a w1 hk1 ⟨X, hT, H⟩
  obtain ⟨N1, hB, hZ, H, hN1, hR1⟩ := H.open_
  have hN : N1.bx.length ≤ 1 := Nat.le_of_eq hN1
  have hR : N1.rw.length ≤ 1 := Nat.le_of_eq hR1
  clear hN1 hR1
  have hXl : X.length = (liveW (Z.take k)).length := by have := hT.1; rwa [List.length_map] at this
  have hol := pxs_len _ X hXl
  clear hX; have hX := And.intro @hzl (@hol)
  refine mW ?_; clear H; intro a w H
  refine mC H (fun hb => ?_) (fun hb => ?_)
  · have hlt : k < Z.length := by rw [decide_eq_true_eq] at hb; omega
    clear hb
    have hg := wrA_get Z k hlt
    have hvl := hv _ (List.getElem_mem hlt)
    have w1 := hzk _ (List.getElem_mem hlt)
    have e1 : liveW (Z.take (k + 1)) = if Z[k].2.1 then liveW (Z.take k) else liveW (Z.take k) ++ [(Z[k].1, Z[k].2.2)] := by rw [List.take_succ_eq_append_getElem hlt, liveW_snoc]
    generalize Z[k] = q at *
    obtain ⟨kb, gb, vb⟩ := q
    dsimp only at hg hvl w1 e1
    refine mS ?_
    clear hX; have hX := And.intro @hzl (And.intro @hol (@hg))
    (try refine wp_region_lit ?_); refine mN 2 hN H ?_; clear H; intro a w H
    refine mW ?_; clear H; intro a w H
    refine mC H (fun hb => ?_) (fun hb => ?_)
    · have hgb : gb = false := by simpa using hb
      subst hgb
      clear hb
      rw [if_neg (by decide)] at e1
      have e3 := fun x => pxs_snoc (liveW (Z.take k)) X hXl (kb, vb) x
      have l1 : (liveW (Z.take (k + 1))).length = (liveW (Z.take k)).length + 1 := by rw [e1, List.length_append]; rfl
      have htk : (liveW (Z.take (k + 1))).map (·.2) = (liveW (Z.take k)).map (·.2) ++ [vb] := by rw [e1, List.map_append]; rfl
      rw [← e1] at e3
      have hm2 : (liveW (Z.take k)).length ≤ 200000 := by have := liveW_len (Z.take k); rw [List.length_take] at this; omega
      generalize pxs (liveW (Z.take k)) X = o at *
      generalize hm : (liveW (Z.take k)).length = m at *
      clear hX; have hX := And.intro @hzl (And.intro @hol (@w1))
      refine mS ?_; refine mD 2 [5, 7, 8] [0, 1, 2] H ?_; clear H; intro gS H
      refine mTN 5 hN H ?_; clear H; intro a w H; simp only [drL]
      refine mTN 1 hN H ?_; clear H; intro a w H; simp only [drL]
      obtain ⟨x, hx, HX⟩ := v_pubT (RelXT.close hB hZ H) (Nat.le_refl _) [8, 10, 29, 30, 31, 38, 40] 43 1 5 rfl (Nat.le_trans hM.2 (Nat.zero_le _)) rfl rfl (Nat.le_of_ble_eq_true rfl) rfl rfl
      clear H hB hZ hN hR
      replace HX := nfXT HX
      obtain ⟨N2, hB, hZ, H, hN2, hR2⟩ := HX.open_
      clear HX
      have hN : N2.bx.length ≤ 2 := Nat.le_of_eq hN2
      have hR : N2.rw.length ≤ 1 := Nat.le_of_eq hR2
      clear hN2 hR2
      refine mT ?_; clear H; intro a w H
      refine v_drawNil H ?_; clear H; intro H
      refine mW ?_; clear H; intro a w H
      rw [← e3, ← l1, show (k : Int) + 1 = ((k + 1 : Nat) : Int) by omega] at H
      exact ⟨k + 1, hlt, by omega, X ++ [x], by rw [htk]; exact hT.snoc hx, (RelX.close hB hZ H).to 1 1 ⟨Nat.le_trans hM.1 (Nat.zero_le _), Nat.le_trans hM.2 (Nat.zero_le _)⟩ ⟨rfl, rfl, rfl, rfl, trivial⟩ rfl rfl rfl rfl rfl⟩
    have hgb : gb = true := by simpa using hb
    subst hgb
    clear hb
    rw [if_pos rfl] at e1
    clear hX; have hX := And.intro @hzl (@hol)
    refine mW ?_; clear H; intro a w H
    rw [show (k : Int) + 1 = ((k + 1 : Nat) : Int) by omega] at H
    exact ⟨k + 1, hlt, by omega, X, by rw [e1]; exact hT, (RelX.close hB hZ H).to 1 1 ⟨Nat.le_trans hM.1 (Nat.zero_le _), Nat.le_trans hM.2 (Nat.zero_le _)⟩ ⟨rfl, rfl, rfl, by rw [e1]; rfl, trivial⟩ rfl (by rw [e1]; rfl) rfl rfl rfl⟩
  have hge : k = Z.length := by rw [decide_eq_false_iff_not] at hb; omega
  subst hge
  clear hb
  rw [List.take_length] at H hT
  clear hX; have hX := @hzl
  refine mW ?_; clear H; intro a w H
  replace H := nf H
  refine wp_ret ?_
  exact v_endE (bx' := []) (rs := [.tmp 4]) (ress := [.sl prT (pxs (liveW Z) X) none]) (nb := 0) (nr := 0) [] [] tab_ok hM rfl (RelX.close hB hZ H) (by rfl) (by rfl) cbX (by rfl) ⟨⟨rfl, rfl⟩, trivial⟩ rfl ⟨rfl, rfl, rfl, hT⟩
end Go.Proofs.YtgffimanhmpohaaGreat
namespace Go.Proofs.YtgffimanhmpohaaGreat
open Go Go.RowKit
theorem kept_ex {s : Slb} (G : GoodS s) (hB : ∀ k x c, s.at_ k = some (x, c) → x.hd ≤ 1000000) (h : Int) (hl : h ≠ 0 → ∃ x c, s.at_ h = some (x, c)) :
    ∃ t, Ext s t (one h) ∧ t.sl.length = s.sl.length ∧ VX Tryz.prog 90 s.sx [] [] [.ptr 0 [], .v (.int .i64 h)] t.sx [] [] (.v (.int .i64 h)) := by
  by_cases h0 : h = 0
  · subst h0
    exact ⟨s, G.ext.congr fun k => (one_zero k).symm, rfl, kept0_v s⟩
  obtain ⟨x, c, hx⟩ := hl h0
  obtain ⟨i, rfl, _, _⟩ := Slb.at_some hx
  have hb := hB _ _ _ hx
  have hp := G.c.pos _ _ _ hx
  have hc := G.cbd hx hb
  exact ⟨_, G.hold hx hb, by show (s.sl.set _ _).length = _; rw [List.length_set], kept1_v s _ _ h0 (stoHold_v s G.d.wf i x c hx (by omega) ⟨hp, by omega⟩)⟩
theorem leaf_ex {s : Slb} (G : GoodS s) (hu : s.used < s.room) (hl : s.sl.length < 65536) (p : Pr) (hk : p.1.length = 32) (hv : p.2.length ≤ 1024) :
    ∃ t, Ext s t (one ((s.sl.length : Int) + 1)) ∧ t.sl.length = s.sl.length + 1 ∧ IsB t [p] ((s.sl.length : Int) + 1) ∧
      VX Tryz.prog 34 s.sx [] [] [.ptr 0 [], .ba p.1, .bs p.2 none] t.sx [] [] (.tup [.v (.int .i64 ((s.sl.length : Int) + 1)), errv 0]) := by
  refine ⟨_, G.leaf hu hl p.1 p.2 hk, by show (s.sl ++ [_]).length = _; simp, ⟨1, 1, ?_⟩, stoLeaf_v s G.d.wf G.m hu hl p.1 p.2 hk hv⟩
  rw [Slb.at_push, if_pos rfl]
set_option maxRecDepth 20000 in
theorem fresh0_v (s : Slb) (old d : Int) : VX Tryz.prog 92 s.sx [] [] [.ptr 0 [], .v (.int .i64 old), .v (.int .i64 d), .sl wrT [] none] s.sx [] [] (.v (.int .i64 0)) := by
  have hz : ([] : List AV).length = 0 := rfl
  simp only [Slb.sx]
  generalize s.sl.map slA = es at *
  generalize s.fs.map inA = fs at *
  refine mE Tryz.func92 ?_; intro N w0 a w hN hR H
  refine mW ?_; clear H; intro a w H
  refine mC H (fun hb => ?_) (fun hb => ?_)
  · clear hb
    refine mW ?_; clear H; intro a w H
    refine wp_ret ?_; exact mEnd [0, 1, 2, 3] [] [.tmp 8] [_] hN hR H
  exact absurd hb (by decide)
set_option maxRecDepth 20000 in
set_option maxHeartbeats 4000000 in
theorem fresh1k_v (s t : Slb) (hs : s.wf) (old d : Int) (p : Pr) (hp : p.1.length = 32) (hv : p.2.length ≤ 100000) (h1 : (s.get_ old).k = 1) (h2 : (s.get_ old).key = p.1) (h3 : (s.get_ old).val = p.2)
    (hK : VX Tryz.prog 90 s.sx [] [] [.ptr 0 [], .v (.int .i64 old)] t.sx [] [] (.v (.int .i64 old))) :
    VX Tryz.prog 92 s.sx [] [] [.ptr 0 [], .v (.int .i64 old), .v (.int .i64 d), .sl wrT [.st [.ba p.1, .v (.bool false), .bs p.2 none]] none] t.sx [] [] (.v (.int .i64 old)) := by
  have c1 := stoKind_v s hs old
  have c2 := stoKey_v s hs old
  have c3 := stoValue_v s hs old (by rw [h3]; exact hv)
  rw [h1] at c1
  rw [h2] at c2
  rw [h3] at c3
  obtain ⟨kq, vq⟩ := p
  dsimp only at hp hv c2 c3 ⊢
  simp only [Slb.sx] at c1 c2 c3 hK ⊢
  generalize s.sl.map slA = es at *
  generalize s.fs.map inA = fs at *
  have hg : ([.st [.ba kq, .v (.bool false), .bs vq none]] : List AV).getD 0 .any = .st [.ba kq, .v (.bool false), .bs vq none] := rfl
  generalize hes : ([.st [.ba kq, .v (.bool false), .bs vq none]] : List AV) = ls at *
  obtain ⟨n1, hn1⟩ : ∃ n1 : Nat, n1 = 1 := ⟨_, rfl⟩
  have hll : ls.length = n1 := by rw [← hes, hn1]; rfl
  have z1 : decide ((n1 : Int) = 0) = false := decide_eq_false (by omega)
  have z2 : decide ((n1 : Int) = 1) = true := decide_eq_true (by omega)
  have hpp : decide (kq = kq) = true := decide_eq_true rfl
  refine mE Tryz.func92 ?_; intro N w0 a w hN hR H
  have hX := And.intro @hll (And.intro @hg (And.intro @hp (And.intro @hpp (And.intro @z1 (@z2)))))
  refine mW ?_; clear H; intro a w H
  refine mC H (fun hb => ?_) (fun hb => ?_)
  · exact absurd hb (by decide)
  clear hb
  refine mW ?_; clear H; intro a w H
  refine mC H (fun hb => ?_) (fun hb => ?_)
  · clear hb
    refine mS ?_
    replace H := mK [0, 1, 2, 3, 8] 4 0 hN hR H
    refine mS ?_; refine mD 0 [2, 7, 17] [8, 9, 10, 11, 19, 20, 21, 22, 23] H ?_; clear H; intro gS H
    refine mTN 2 hN H ?_; clear H; intro a w H; simp only [drL]
    refine mCallT [0, 1, 2, 3] [] (c1) H ?_; clear H; intro a w H
    refine mTN 1 hN H ?_; clear H; intro a w H; simp only [drL]
    refine mTN 1 hN H ?_; clear H; intro a w H; simp only [drL]
    replace H := v_knownT H 23 true (by rfl)
    simp only [unG, gdEq, Nat.reduceBEq, cond_true, cond_false] at H
    replace H := ntf H
    refine mTN 2 hN H ?_; clear H; intro a w H; simp only [drL]
    replace H := v_knownT H 23 true (by rfl)
    simp only [unG, gdEq, Nat.reduceBEq, cond_true, cond_false] at H
    replace H := ntf H
    refine v_guardT H (by rfl) (by rfl) (by rfl) ?_
    refine mCallT [0, 1, 2, 3] [] (c2) H ?_; clear H; intro a w H
    refine mTN 2 hN H ?_; clear H; intro a w H; simp only [drL]
    refine mTN 2 hN H ?_; clear H; intro a w H; simp only [drL]
    replace H := v_knownT H 23 true (by rfl)
    simp only [unG, gdEq, Nat.reduceBEq, cond_true, cond_false] at H
    replace H := ntf H
    refine mTN 1 hN H ?_; clear H; intro a w H; simp only [drL]
    refine mTN 1 hN H ?_; clear H; intro a w H; simp only [drL]
    refine mTN 1 hN H ?_; clear H; intro a w H; simp only [drL]
    replace H := v_knownT H 33 true (by rfl)
    simp only [unG, gdEq, Nat.reduceBEq, cond_true, cond_false] at H
    replace H := ntf H
    refine mTN 2 hN H ?_; clear H; intro a w H; simp only [drL]
    replace H := v_knownT H 33 true (by rfl)
    simp only [unG, gdEq, Nat.reduceBEq, cond_true, cond_false] at H
    replace H := ntf H
    refine v_guardT H (by rfl) (by rfl) (by rfl) ?_
    refine mCallT [0, 1, 2, 3] [] (c3) H ?_; clear H; intro a w H
    refine mTN 1 hN H ?_; clear H; intro a w H; simp only [drL]
    replace H := v_knownT H 33 true (by rfl)
    simp only [unG, gdEq, Nat.reduceBEq, cond_true, cond_false] at H
    replace H := ntf H
    refine mTN 2 hN H ?_; clear H; intro a w H; simp only [drL]
    refine mTN 2 hN H ?_; clear H; intro a w H; simp only [drL]
    refine mTN 1 hN H ?_; clear H; intro a w H; simp only [drL]
    replace H := v_knownT H 33 true (by rfl)
    simp only [unG, gdEq, Nat.reduceBEq, cond_true, cond_false] at H
    replace H := ntf H
    refine mTN 1 hN H ?_; clear H; intro a w H; simp only [drL]
    try simp only [beq_self_eq_true] at H
    refine mTN 1 hN H ?_; clear H; intro a w H; simp only [drL]
    refine mT ?_; clear H; intro a w H
    refine v_drawNil H ?_; clear H; intro H
    refine mC H (fun hb => ?_) (fun hb => ?_)
    · clear hb
      refine mW ?_; clear H; intro a w H
      refine mCall [0, 1, 2, 3] [] (hK) H ?_; clear H; intro a w H; try refine wpList_nil ?_
      refine mW ?_; clear H; intro a w H
      refine wp_ret ?_; exact mEnd [0, 1, 2, 3] [] [.tmp 8] [_] hN hR H
    simp at hb
  exact absurd hb (by decide)
set_option maxRecDepth 20000 in
set_option maxHeartbeats 8000000 in
theorem fresh1n_v (s t : Slb) (hs : s.wf) (old d h : Int) (p : Pr) (hp : p.1.length = 32) (hv : p.2.length ≤ 100000) (hv2 : (s.get_ old).val.length ≤ 100000) (hne : ¬ ((s.get_ old).k = 1 ∧ (s.get_ old).key = p.1 ∧ (s.get_ old).val = p.2))
    (hL : VX Tryz.prog 34 s.sx [] [] [.ptr 0 [], .ba p.1, .bs p.2 none] t.sx [] [] (.tup [.v (.int .i64 h), errv 0])) :
    VX Tryz.prog 92 s.sx [] [] [.ptr 0 [], .v (.int .i64 old), .v (.int .i64 d), .sl wrT [.st [.ba p.1, .v (.bool false), .bs p.2 none]] none] t.sx [] [] (.v (.int .i64 h)) := by
  have c1 := stoKind_v s hs old
  have c2 := stoKey_v s hs old
  have c3 := stoValue_v s hs old hv2
  have hkl := (Slb.get_wf hs old).key
  obtain ⟨kq, vq⟩ := p
  dsimp only at hp hv hL hne ⊢
  generalize (s.get_ old).k = ko at *
  generalize (s.get_ old).key = kk at *
  generalize (s.get_ old).val = vv at *
  simp only [Slb.sx] at c1 c2 c3 hL ⊢
  generalize s.sl.map slA = es at *
  generalize s.fs.map inA = fs at *
  have hg : ([.st [.ba kq, .v (.bool false), .bs vq none]] : List AV).getD 0 .any = .st [.ba kq, .v (.bool false), .bs vq none] := rfl
  generalize hes : ([.st [.ba kq, .v (.bool false), .bs vq none]] : List AV) = ls at *
  obtain ⟨n1, hn1⟩ : ∃ n1 : Nat, n1 = 1 := ⟨_, rfl⟩
  have hll : ls.length = n1 := by rw [← hes, hn1]; rfl
  have z1 : decide ((n1 : Int) = 0) = false := decide_eq_false (by omega)
  have z2 : decide ((n1 : Int) = 1) = true := decide_eq_true (by omega)
  refine mE Tryz.func92 ?_; intro N w0 a w hN hR H
  have hX := And.intro @hll (And.intro @hg (And.intro @hp (And.intro @z1 (And.intro @z2 (@hkl)))))
  refine mW ?_; clear H; intro a w H
  refine mC H (fun hb => ?_) (fun hb => ?_)
  · exact absurd hb (by decide)
  clear hb
  refine mW ?_; clear H; intro a w H
  refine mC H (fun hb => ?_) (fun hb => ?_)
  · clear hb
    refine mS ?_
    replace H := mK [0, 1, 2, 3, 8] 4 0 hN hR H
    revert a w
    apply cutG7 (R := fun a w => Rel Tryz.prog w0 N Tryz.f92.ntmps ⟨[(8, none, .v (.int .i64 0)), (0, none, .ptr 0 []), (3, none, .sl wrT ls none)],
      stoB s.γ s.δ s.sl.length s.m s.room s.used es fs, [], []⟩ a w)
    · intro key1 a w H
      by_cases q1 : ko = 1
      · rw [q1] at c1
        by_cases q2 : kk = kq
        · have q3 : ¬ vv = vq := fun e => hne ⟨q1, q2, e⟩
          have hvv : (vv == vq) = false := by rw [beq_eq_false_iff_ne]; exact q3
          have hpp : decide (kk = kq) = true := decide_eq_true q2
          have hX := And.intro hpp hX
          refine mS ?_; refine mD 0 [2, 7, 17] [8, 9, 10, 11, 19, 20, 21, 22, 23] H ?_; clear H; intro gS H
          refine mTN 2 hN H ?_; clear H; intro a w H; simp only [drL]
          refine mCallT [0, 1, 2, 3] [] (c1) H ?_; clear H; intro a w H
          refine mTN 1 hN H ?_; clear H; intro a w H; simp only [drL]
          refine mTN 1 hN H ?_; clear H; intro a w H; simp only [drL]
          replace H := v_knownT H 23 true (by rfl)
          simp only [unG, gdEq, Nat.reduceBEq, cond_true, cond_false] at H
          replace H := ntf H
          refine mTN 2 hN H ?_; clear H; intro a w H; simp only [drL]
          replace H := v_knownT H 23 true (by rfl)
          simp only [unG, gdEq, Nat.reduceBEq, cond_true, cond_false] at H
          replace H := ntf H
          refine v_guardT H (by rfl) (by rfl) (by rfl) ?_
          refine mCallT [0, 1, 2, 3] [] (c2) H ?_; clear H; intro a w H
          refine mTN 2 hN H ?_; clear H; intro a w H; simp only [drL]
          refine mTN 2 hN H ?_; clear H; intro a w H; simp only [drL]
          replace H := v_knownT H 23 true (by rfl)
          simp only [unG, gdEq, Nat.reduceBEq, cond_true, cond_false] at H
          replace H := ntf H
          refine mTN 1 hN H ?_; clear H; intro a w H; simp only [drL]
          refine mTN 1 hN H ?_; clear H; intro a w H; simp only [drL]
          refine mTN 1 hN H ?_; clear H; intro a w H; simp only [drL]
          replace H := v_knownT H 33 true (by rfl)
          simp only [unG, gdEq, Nat.reduceBEq, cond_true, cond_false] at H
          replace H := ntf H
          refine mTN 2 hN H ?_; clear H; intro a w H; simp only [drL]
          replace H := v_knownT H 33 true (by rfl)
          simp only [unG, gdEq, Nat.reduceBEq, cond_true, cond_false] at H
          replace H := ntf H
          refine v_guardT H (by rfl) (by rfl) (by rfl) ?_
          refine mCallT [0, 1, 2, 3] [] (c3) H ?_; clear H; intro a w H
          refine mTN 1 hN H ?_; clear H; intro a w H; simp only [drL]
          replace H := v_knownT H 33 true (by rfl)
          simp only [unG, gdEq, Nat.reduceBEq, cond_true, cond_false] at H
          replace H := ntf H
          refine mTN 2 hN H ?_; clear H; intro a w H; simp only [drL]
          refine mTN 2 hN H ?_; clear H; intro a w H; simp only [drL]
          refine mTN 1 hN H ?_; clear H; intro a w H; simp only [drL]
          replace H := v_knownT H 33 true (by rfl)
          simp only [unG, gdEq, Nat.reduceBEq, cond_true, cond_false] at H
          replace H := ntf H
          refine mTN 1 hN H ?_; clear H; intro a w H; simp only [drL]
          rw [strOf_list, strOf_list, hvv] at H
          refine mTN 1 hN H ?_; clear H; intro a w H; simp only [drL]
          refine mT ?_; clear H; intro a w H
          refine v_drawNil H ?_; clear H; intro H
          refine mC H (fun hb => ?_) (fun hb => ?_)
          · simp at hb
          clear hb
          refine mS ?_
          exact key1 _ _ (H.to 4 0 ⟨Nat.le_trans hN (Nat.le_of_ble_eq_true rfl), hR⟩ ⟨rfl, rfl, rfl, trivial⟩ rfl rfl rfl rfl rfl)
        have hpp : decide (kk = kq) = false := decide_eq_false q2
        have hX := And.intro hpp hX
        refine mS ?_; refine mD 0 [2, 7, 17] [8, 9, 10, 11, 19, 20, 21, 22, 23] H ?_; clear H; intro gS H
        refine mTN 2 hN H ?_; clear H; intro a w H; simp only [drL]
        refine mCallT [0, 1, 2, 3] [] (c1) H ?_; clear H; intro a w H
        refine mTN 1 hN H ?_; clear H; intro a w H; simp only [drL]
        refine mTN 1 hN H ?_; clear H; intro a w H; simp only [drL]
        replace H := v_knownT H 23 true (by rfl)
        simp only [unG, gdEq, Nat.reduceBEq, cond_true, cond_false] at H
        replace H := ntf H
        refine mTN 2 hN H ?_; clear H; intro a w H; simp only [drL]
        replace H := v_knownT H 23 true (by rfl)
        simp only [unG, gdEq, Nat.reduceBEq, cond_true, cond_false] at H
        replace H := ntf H
        refine v_guardT H (by rfl) (by rfl) (by rfl) ?_
        refine mCallT [0, 1, 2, 3] [] (c2) H ?_; clear H; intro a w H
        refine mTN 2 hN H ?_; clear H; intro a w H; simp only [drL]
        refine mTN 2 hN H ?_; clear H; intro a w H; simp only [drL]
        replace H := v_knownT H 23 true (by rfl)
        simp only [unG, gdEq, Nat.reduceBEq, cond_true, cond_false] at H
        replace H := ntf H
        refine mTN 1 hN H ?_; clear H; intro a w H; simp only [drL]
        refine mTN 1 hN H ?_; clear H; intro a w H; simp only [drL]
        refine mTN 1 hN H ?_; clear H; intro a w H; simp only [drL]
        refine mSkT .any H ?_; clear H; intro a w H
        refine mSkT .any H ?_; clear H; intro a w H
        refine mSkT .any H ?_; clear H; intro a w H
        refine mSkT .any H ?_; clear H; intro a w H
        refine mSkT .any H ?_; clear H; intro a w H
        refine mSkT .any H ?_; clear H; intro a w H
        refine mSkT .any H ?_; clear H; intro a w H
        refine mSkT .any H ?_; clear H; intro a w H
        refine mSkT .any H ?_; clear H; intro a w H
        refine mSkT (.v (.bool false)) H ?_; clear H; intro a w H
        refine mTN 1 hN H ?_; clear H; intro a w H; simp only [drL]
        refine mT ?_; clear H; intro a w H
        refine v_drawNil H ?_; clear H; intro H
        refine mC H (fun hb => ?_) (fun hb => ?_)
        · exact absurd hb (by simp)
        clear hb
        refine mS ?_
        exact key1 _ _ (H.to 4 0 ⟨Nat.le_trans hN (Nat.le_of_ble_eq_true rfl), hR⟩ ⟨rfl, rfl, rfl, trivial⟩ rfl rfl rfl rfl rfl)
      have hk1 : decide (((ko.toNat : Nat) : Int) = 1) = false := decide_eq_false fun e => q1 (UInt8.toNat_inj.1 (by have : ((1 : UInt8).toNat : Int) = 1 := rfl; omega))
      have hX := And.intro hk1 hX
      refine mS ?_; refine mD 0 [2, 7, 17] [8, 9, 10, 11, 19, 20, 21, 22, 23] H ?_; clear H; intro gS H
      refine mTN 2 hN H ?_; clear H; intro a w H; simp only [drL]
      refine mCallT [0, 1, 2, 3] [] (c1) H ?_; clear H; intro a w H
      refine mTN 1 hN H ?_; clear H; intro a w H; simp only [drL]
      refine mTN 1 hN H ?_; clear H; intro a w H; simp only [drL]
      refine mSkT .any H ?_; clear H; intro a w H
      refine mSkT .any H ?_; clear H; intro a w H
      refine mSkT .any H ?_; clear H; intro a w H
      refine mSkT .any H ?_; clear H; intro a w H
      refine mSkT .any H ?_; clear H; intro a w H
      refine mSkT .any H ?_; clear H; intro a w H
      refine mSkT .any H ?_; clear H; intro a w H
      refine mSkT (.v (.bool false)) H ?_; clear H; intro a w H
      refine mTN 1 hN H ?_; clear H; intro a w H; simp only [drL]
      refine mTN 1 hN H ?_; clear H; intro a w H; simp only [drL]
      refine mSkT .any H ?_; clear H; intro a w H
      refine mSkT .any H ?_; clear H; intro a w H
      refine mSkT .any H ?_; clear H; intro a w H
      refine mSkT .any H ?_; clear H; intro a w H
      refine mSkT .any H ?_; clear H; intro a w H
      refine mSkT .any H ?_; clear H; intro a w H
      refine mSkT .any H ?_; clear H; intro a w H
      refine mSkT .any H ?_; clear H; intro a w H
      refine mSkT .any H ?_; clear H; intro a w H
      refine mSkT (.v (.bool false)) H ?_; clear H; intro a w H
      refine mTN 1 hN H ?_; clear H; intro a w H; simp only [drL]
      refine mT ?_; clear H; intro a w H
      refine v_drawNil H ?_; clear H; intro H
      refine mC H (fun hb => ?_) (fun hb => ?_)
      · exact absurd hb (by simp)
      clear hb
      refine mS ?_
      exact key1 _ _ (H.to 4 0 ⟨Nat.le_trans hN (Nat.le_of_ble_eq_true rfl), hR⟩ ⟨rfl, rfl, rfl, trivial⟩ rfl rfl rfl rfl rfl)
    intro a w H
    refine mS ?_; refine mD 0 [9] [] H ?_; clear H; intro gS H
    refine mTN 3 hN H ?_; clear H; intro a w H; simp only [drL]
    refine mTN 2 hN H ?_; clear H; intro a w H; simp only [drL]
    refine mTN 2 hN H ?_; clear H; intro a w H; simp only [drL]
    refine mTN 2 hN H ?_; clear H; intro a w H; simp only [drL]
    refine mCallT [0, 1, 2, 3] [] (hL) H ?_; clear H; intro a w H
    refine mT ?_; clear H; intro a w H
    refine v_drawNil H ?_; clear H; intro H
    refine mW ?_; clear H; intro a w H
    refine wp_ret ?_; exact mEnd [0, 1, 2, 3] [] [.tmp 8] [_] hN hR H
  exact absurd hb (by decide)
set_option maxRecDepth 20000 in
set_option maxHeartbeats 8000000 in
theorem fresh2_v (s s1 s2 t : Slb) (old a b h : Int) (d : Nat) (hd : d ≤ 256) (l : List Pr) (hK : K32 l) (hl2 : 2 ≤ l.length) (hll : l.length ≤ 100000) (n : Nat) (hn : partW (l.map pwW) (d : Int) = n) (hnl : n ≤ l.length)
    (h1 : VX Tryz.prog 92 s.sx [] [] [.ptr 0 [], .v (.int .i64 old), .v (.int .i64 ((d : Int) + 1)), .sl wrT (((l.take n).map pwW).map wrA) none] s1.sx [] [] (.v (.int .i64 a)))
    (h2 : VX Tryz.prog 92 s1.sx [] [] [.ptr 0 [], .v (.int .i64 old), .v (.int .i64 ((d : Int) + 1)), .sl wrT (((l.drop n).map pwW).map wrA) none] s2.sx [] [] (.v (.int .i64 b)))
    (h3 : VX Tryz.prog 94 s2.sx [] [] [.ptr 0 [], .v (.int .i64 (d : Int)), .v (.int .i64 a), .v (.int .i64 b)] t.sx [] [] (.v (.int .i64 h))) :
    VX Tryz.prog 92 s.sx [] [] [.ptr 0 [], .v (.int .i64 old), .v (.int .i64 (d : Int)), .sl wrT ((l.map pwW).map wrA) none] t.sx [] [] (.v (.int .i64 h)) := by
  have hp := partedW_v (l.map pwW) (fun x hx => by obtain ⟨p, hp1, rfl⟩ := List.mem_map.1 hx; exact hK p hp1) (by rw [List.length_map]; exact hll) (d : Int)
  rw [hn] at hp
  rw [List.map_take, List.map_take] at h1
  rw [List.map_drop, List.map_drop] at h2
  have hml : ((l.map pwW).map wrA).length = l.length := by simp
  have z1 : decide ((l.length : Int) = 0) = false := decide_eq_false (by omega)
  have z2 : decide ((l.length : Int) = 1) = false := decide_eq_false (by omega)
  simp only [Slb.sx] at h1 h2 h3 ⊢
  generalize (l.map pwW).map wrA = es at *
  refine mE Tryz.func92 ?_; intro N w0 a w hN hR H
  have hX := And.intro @hml (And.intro @z1 (@z2))
  refine mW ?_; clear H; intro a w H
  refine mC H (fun hb => ?_) (fun hb => ?_)
  · exact absurd hb (by decide)
  clear hb
  refine mW ?_; clear H; intro a w H
  refine mC H (fun hb => ?_) (fun hb => ?_)
  · exact absurd hb (by decide)
  clear hb
  refine mW ?_; clear H; intro a w H
  refine mCall [] [] (hp) H ?_; clear H; intro a w H; try refine wpList_nil ?_
  refine mW ?_; clear H; intro a w H
  refine mCall [0, 1, 2, 3] [] (h1) H ?_; clear H; intro a w H; try refine wpList_nil ?_
  refine mW ?_; clear H; intro a w H
  refine mCall [0, 1, 2, 3] [] (h2) H ?_; clear H; intro a w H; try refine wpList_nil ?_
  refine mW ?_; clear H; intro a w H
  refine mCall [0, 1, 2, 3] [] (h3) H ?_; clear H; intro a w H; try refine wpList_nil ?_
  refine mW ?_; clear H; intro a w H
  refine wp_ret ?_; exact mEnd [0, 1, 2, 3] [] [.tmp 8] [_] hN hR H
theorem ltB_bit {p q : List UInt8} {d : Nat} (h : ltB p q) (ha : agree d p q) (hb : bitN p d = true) : bitN q d = true := by
  obtain ⟨c, _, h1, h2, h3⟩ := h
  rcases Nat.lt_trichotomy c d with e | e | e
  · have := ha c e; rw [h2, h3] at this; cases this
  · subst e; rw [h2] at hb; cases hb
  rw [← h1 d e]; exact hb
theorem sep_agree {d : Nat} {l : List Pr} (hs : Sep d (dgs l)) : l.Pairwise fun x y => agree d x.1 y.1 := by
  unfold Sep dgs at hs
  rw [List.pairwise_map] at hs
  exact hs.imp fun h => h.1
theorem ris_mono {d : Nat} {l : List Pr} (hs : Sep d (dgs l)) (hr : Ris l) : l.Pairwise fun x y => bitN x.1 d = true → bitN y.1 d = true := by
  have h1 := sep_agree hs
  rw [List.pairwise_iff_getElem] at *
  intro i j hi hj hij
  exact ltB_bit (List.pairwise_iff_getElem.1 hr i j hi hj hij) (h1 i j hi hj hij)
theorem partW_split {d : Nat} (hd : d < 256) : ∀ {ws : List Wr}, ws.Pairwise (fun a b => bitN a.1 d = true → bitN b.1 d = true) → ws.take (partW ws (d : Int)) = ws.filter (fun w => !bitN w.1 d) ∧ ws.drop (partW ws (d : Int)) = ws.filter (fun w => bitN w.1 d)
  | [], _ => ⟨rfl, rfl⟩
  | a :: l, h => by
    rw [List.pairwise_cons] at h
    have hp : ∀ k, pbit k (d : Int) = if bitN k d then 1 else 0 := fun k => by rw [pbit, if_pos (by omega), Int.toNat_natCast]
    cases hb : bitN a.1 d
    · have hn : partW (a :: l) (d : Int) = partW l (d : Int) + 1 := by unfold partW; rw [List.takeWhile_cons, hp, hb]; rfl
      obtain ⟨h1, h2⟩ := partW_split hd h.2
      rw [hn, List.take_succ_cons, List.drop_succ_cons, List.filter_cons, List.filter_cons, hb, h1, h2]
      exact ⟨rfl, rfl⟩
    have hn : partW (a :: l) (d : Int) = 0 := by unfold partW; rw [List.takeWhile_cons, hp, hb]; rfl
    have hl : ∀ w ∈ a :: l, bitN w.1 d = true := fun w hw => by
      rcases List.mem_cons.1 hw with rfl | hw
      · exact hb
      exact h.1 w hw hb
    rw [hn, List.take_zero, List.drop_zero]
    exact ⟨(List.filter_eq_nil_iff.2 fun w hw => by rw [hl w hw]; decide).symm, (List.filter_eq_self.2 hl).symm⟩
theorem partW_half {d : Nat} (hd : d < 256) {l : List Pr} (hm : l.Pairwise fun x y => bitN x.1 d = true → bitN y.1 d = true) :
    (l.take (partW (l.map pwW) (d : Int))).map pwW = (halfP false d l).map pwW ∧ (l.drop (partW (l.map pwW) (d : Int))).map pwW = (halfP true d l).map pwW ∧ partW (l.map pwW) (d : Int) ≤ l.length := by
  have h := partW_split hd (ws := l.map pwW) (by rw [List.pairwise_map]; exact hm)
  refine ⟨?_, ?_, ?_⟩
  · rw [List.map_take, h.1, List.filter_map]
    unfold halfP
    congr 1
    apply List.filter_congr
    intro x _
    show (!bitN x.1 d) = (bitN x.1 d == false)
    cases bitN x.1 d <;> rfl
  · rw [List.map_drop, h.2, List.filter_map]
    unfold halfP
    congr 1
    apply List.filter_congr
    intro x _
    show bitN x.1 d = (bitN x.1 d == true)
    cases bitN x.1 d <;> rfl
  unfold partW
  have := (List.takeWhile_sublist (p := fun w : Wr => decide (pbit w.1 (d : Int) = 0)) (l := l.map pwW)).length_le
  rwa [List.length_map] at this
theorem Ris.half {d : Nat} {l : List Pr} (h : Ris l) (b : Bool) : Ris (halfP b d l) := List.Pairwise.filter _ h
theorem hndL_mono {s t : Slb} (hst : s.Sub t) : ∀ (f d : Nat) (l : List Pr) (h : Int), Is s f d l h → hndL t f d l h = hndL s f d l h := by
  intro f
  induction f with
  | zero => intro d l h _; rfl
  | succ f ih =>
    intro d l h hi
    by_cases hl : l.length < 2
    · rw [hndL_small hl, hndL_small hl]
    obtain ⟨x, c, h1, _, _, _, h5, h6⟩ := hi.big hl
    obtain ⟨hd, c', h7⟩ := hst h x c h1
    rw [hndL_big hl h1, hndL_big hl h7]
    show h :: (hndL t f (d + 1) (halfP false d l) x.l ++ hndL t f (d + 1) (halfP true d l) x.r) = _
    rw [ih _ _ _ h5, ih _ _ _ h6]
theorem Ext.held {s t : Slb} {h : Int} (G : GoodS s) (E : Ext s t (one h)) {x : SN} {c : Nat} (hx : t.at_ h = some (x, c)) (h0 : h ≠ 0) : 1 ≤ x.hd := by
  cases hs : s.at_ h with
  | none => have := E.new h x c hx hs; rw [one_self h0] at this; omega
  | some p =>
    obtain ⟨y, c1⟩ := p
    obtain ⟨c2, h2⟩ := E.old h y c1 hs
    rw [hx] at h2; injection h2 with h2; injection h2 with q1 q2
    have := G.c.pos h y c1 hs
    rw [q1, one_self h0]; show 1 ≤ y.hd + 1; omega
theorem GoodS.len {s : Slb} (G : GoodS s) : s.used = s.sl.length := by have := G.d.free; rw [G.m] at this; omega
theorem Is.zero {s : Slb} {f d : Nat} {m : List Pr} {h : Int} (hi : Is s f d m h) (e : h = 0) : m = [] := by
  subst e
  cases m with
  | nil => rfl
  | cons x m =>
    exfalso
    have small : IsB s (x :: m) 0 → False := fun ⟨hd0, c0, h1⟩ => by have := (Slb.at_lt h1).1; omega
    by_cases hm : (x :: m).length < 2
    · exact small ((Is.small hm).1 hi)
    cases f with
    | zero => exact small hi
    | succ f =>
      obtain ⟨y, c, h1, _⟩ := hi.big hm
      have := (Slb.at_lt h1).1; omega
def SF (t : Slb) (f d : Nat) (l : List Pr) (h : Int) (l0 : List Pr) (old : Int) : Prop := ∀ p, (p, ((-1 : Int), l0)) ∈ (hndL t f d l h).zip (treeN f d l) → l0.length = 1 → p = old
def cF (l0 l : List Pr) : Nat := l.countP fun x => decide (¬ l0 = [x])
theorem cF_half (l0 : List Pr) (d : Nat) (l : List Pr) : cF l0 (halfP false d l) + cF l0 (halfP true d l) = cF l0 l := by
  unfold cF
  rw [← List.countP_append]
  exact (halfP_perm d l).countP_eq _
theorem cF_pos {l0 l : List Pr} (hr : Ris l) (h2 : 2 ≤ l.length) : 1 ≤ cF l0 l := by
  match l, h2, hr with
  | x :: y :: l, _, hr =>
    unfold cF
    rw [List.countP_cons, List.countP_cons]
    have hxy : ¬ x = y := fun e => by
      have h1 := (List.pairwise_cons.1 hr).1 y List.mem_cons_self
      rw [e] at h1
      obtain ⟨c, _, _, h2, h3⟩ := h1
      rw [h2] at h3; cases h3
    by_cases h1 : l0 = [x]
    · have h2 : ¬ l0 = [y] := fun e => hxy (by rw [h1] at e; injection e)
      rw [decide_eq_true h2, if_pos rfl]; omega
    rw [decide_eq_true h1, if_pos rfl]; omega
def freshC (s t : Slb) (old h : Int) (d : Nat) (l : List Pr) : Prop :=
  VX Tryz.prog 92 s.sx [] [] [.ptr 0 [], .v (.int .i64 old), .v (.int .i64 (d : Int)), .sl wrT ((l.map pwW).map wrA) none] t.sx [] [] (.v (.int .i64 h))
theorem fresh_small {f d : Nat} {l : List Pr} {s : Slb} {old : Int} {l0 : List Pr} {B : Int} (hl : l.length < 2) (hK : K32 l) (hv : ∀ x ∈ l, x.2.length ≤ 1024) (G : GoodS s) (hB : ∀ k x c, s.at_ k = some (x, c) → x.hd ≤ B) (hB9 : B ≤ 1000000)
    (hr : s.used + cF l0 l * (257 - d) ≤ s.room) (hd : d ≤ 256) (hl0 : l0.length < 2) (hi0 : IsB s l0 old) (hv0 : ∀ x ∈ l0, x.2.length ≤ 100000) :
    ∃ t h, Ext s t (one h) ∧ Is t f d l h ∧ t.used ≤ s.used + cF l0 l * (257 - d) ∧ SF t f d l h l0 old ∧ freshC s t old h d l := by
  match l, hl with
  | [], _ =>
    refine ⟨s, 0, G.ext.congr fun k => (one_zero k).symm, (Is.small (by simp)).2 rfl, Nat.le_add_right _ _, fun p hp _ => ?_, fresh0_v s old d⟩
    rw [hndL_small (by simp), treeN_small (by simp)] at hp; cases hp
  | [x], _ =>
    have hkx := hK x List.mem_cons_self
    have hvx := hv x List.mem_cons_self
    by_cases e : l0 = [x]
    · subst e
      obtain ⟨hd0, c0, h1⟩ := hi0
      have hold : old ≠ 0 := by have := (Slb.at_lt h1).1; omega
      obtain ⟨t, E, hlen, hk⟩ := kept_ex G (fun k x c h => Int.le_trans (hB k x c h) hB9) old (fun _ => ⟨_, _, h1⟩)
      refine ⟨t, old, E, (Is.small (by simp)).2 (IsB.mono E.sub ⟨hd0, c0, h1⟩), by rw [E.good.len, hlen, G.len]; exact Nat.le_add_right _ _, fun p hp _ => ?_, ?_⟩
      · rw [hndL_small (by simp), treeN_small (by simp)] at hp
        have := List.mem_singleton.1 hp
        injection this
      exact fresh1k_v s t G.d.wf old d x hkx (by omega) (by rw [(Slb.get_at h1).1]; rfl) (by rw [(Slb.get_at h1).1]; rfl) (by rw [(Slb.get_at h1).1]; rfl) hk
    have hc1 : cF l0 [x] = 1 := by unfold cF; rw [List.countP_cons, decide_eq_true e]; rfl
    have hu : s.used < s.room := by
      have : 1 ≤ 257 - d := by omega
      rw [hc1, Nat.one_mul] at hr; omega
    have hlen := G.len
    have hrm := G.d.wf.room.2
    obtain ⟨t, E, htl, hb, hL⟩ := leaf_ex G hu (by omega) x hkx hvx
    refine ⟨t, (s.sl.length : Int) + 1, E, (Is.small (by simp)).2 hb, ?_, fun p hp _ => ?_, ?_⟩
    · rw [E.good.len, htl, ← hlen, hc1, Nat.one_mul]; omega
    · exfalso
      rw [hndL_small (by simp), treeN_small (by simp)] at hp
      have := List.mem_singleton.1 hp
      injection this with _ h2
      injection h2 with _ h2
      exact e h2
    refine fresh1n_v s t G.d.wf old d _ x hkx (by omega) ?_ ?_ hL
    · match l0, hl0, hi0, hv0 with
      | [], _, h, _ =>
        have h : old = 0 := h
        rw [h, Slb.get_zero]; exact Nat.zero_le _
      | [y], _, ⟨hd0, c0, h1⟩, hv0 =>
        rw [(Slb.get_at h1).1]; exact hv0 y List.mem_cons_self
    rintro ⟨e1, e2, e3⟩
    match l0, hl0, hi0, e with
    | [], _, h, _ =>
      have h : old = 0 := h
      rw [h, Slb.get_zero] at e1; cases e1
    | [y], _, ⟨hd0, c0, h1⟩, e =>
      rw [(Slb.get_at h1).1] at e2 e3
      have e2 : y.1 = x.1 := e2
      have e3 : y.2 = x.2 := e3
      exact e (by rw [show y = x from Prod.ext e2 e3])
theorem fresh_ex : ∀ (f d : Nat) (l : List Pr) (s : Slb) (old : Int) (l0 : List Pr) (B : Int), f + d = 256 → Sep d (dgs l) → Ris l → K32 l → (∀ x ∈ l, x.2.length ≤ 1024) → l.length ≤ 1000 → GoodS s → (∀ k x c, s.at_ k = some (x, c) → x.hd ≤ B) → 0 ≤ B → B + 2 * f ≤ 1000000 →
    s.used + cF l0 l * (257 - d) ≤ s.room → l0.length < 2 → IsB s l0 old → (∀ x ∈ l0, x.2.length ≤ 100000) →
    ∃ t h, Ext s t (one h) ∧ Is t f d l h ∧ t.used ≤ s.used + cF l0 l * (257 - d) ∧ SF t f d l h l0 old ∧ freshC s t old h d l := by
  intro f
  induction f with
  | zero =>
    intro d l s old l0 B hfd hs hr hK hv hl G hB hB0 hB9 hrm hl0 hi0 hv0
    exact fresh_small (by have := hs.deep (by omega); rwa [dgs_len] at this) hK hv G hB (by omega) hrm (by omega) hl0 hi0 hv0
  | succ f ih =>
    intro d l s old l0 B hfd hs hr hK hv hl G hB hB0 hB9 hrm hl0 hi0 hv0
    by_cases h2 : l.length < 2
    · exact fresh_small h2 hK hv G hB (by omega) hrm (by omega) hl0 hi0 hv0
    have hsum := halfP_sum d l
    obtain ⟨p1, p2, p3⟩ := partW_half (d := d) (by omega) (ris_mono hs hr)
    have e3 : 257 - d = (257 - (d + 1)) + 1 := by omega
    have hmul : cF l0 l * (257 - d) = cF l0 (halfP false d l) * (257 - (d + 1)) + cF l0 (halfP true d l) * (257 - (d + 1)) + cF l0 l := by
      rw [e3, Nat.mul_add, Nat.mul_one, ← Nat.add_mul, cF_half]
    have hcp : 1 ≤ cF l0 l := cF_pos hr (by omega)
    obtain ⟨s1, a, E1, I1, u1, F1, V1⟩ := ih (d + 1) (halfP false d l) s old l0 B (by omega) (halfP_sep hs false) (hr.half false) (fun x hx => hK x (halfP_bit x hx).2) (fun x hx => hv x (halfP_bit x hx).2) (by omega) G hB hB0 (by omega) (by omega) hl0 hi0 hv0
    have G1 := E1.good
    have hB1 := E1.hd hB (fun k => (one_nn a k).2) hB0
    obtain ⟨s2, b, E2, I2, u2, F2, V2⟩ := ih (d + 1) (halfP true d l) s1 old l0 (B + 1) (by omega) (halfP_sep hs true) (hr.half true) (fun x hx => hK x (halfP_bit x hx).2) (fun x hx => hv x (halfP_bit x hx).2) (by omega) G1 hB1 (by omega) (by omega) (by rw [E1.room]; omega) hl0 (hi0.mono E1.sub) hv0
    have G2 := E2.good
    have hB2 := E2.hd hB1 (fun k => (one_nn b k).2) (by omega)
    have I1' := I1.mono E2.sub
    have hrm2 : s2.room = s.room := E2.room.trans E1.room
    have hlive : ∀ {q : Slb} {m : List Pr} {h : Int}, Is q f (d + 1) m h → Sep (d + 1) (dgs m) → h ≠ 0 → ∃ x c, q.at_ h = some (x, c) ∧ Info q f (d + 1) m x := fun {q m h} hi hsm h0 => by
      refine hi.info hsm (by omega) fun e => h0 ?_
      subst e; exact (Is.small (by simp)).1 hi
    have ha : a ≠ 0 → 1 ≤ (s2.get_ a).hd := fun h0 => by
      obtain ⟨x, c, hx, _⟩ := hlive I1 (halfP_sep hs false) h0
      have h1 := E1.held G hx h0
      obtain ⟨c', h3⟩ := E2.old a x c hx
      rw [(Slb.get_at h3).1]
      have := (one_nn b a).1
      show 1 ≤ x.hd + one b a; omega
    have hb : b ≠ 0 → 1 ≤ (s2.get_ b).hd := fun h0 => by
      obtain ⟨x, c, hx, _⟩ := hlive I2 (halfP_sep hs true) h0
      rw [(Slb.get_at hx).1]; exact E2.held G1 hx h0
    have hlen2 := G2.len
    have hroom := G.d.wf.room.2
    obtain ⟨t, E3, I3, tl, ⟨hla, hlb⟩, VI⟩ := join_ex G2 (fun k x c h => by have := hB2 k x c h; omega) hfd hs (by omega) (by omega) I1' I2 ha hb (by rw [hrm2]; omega) (by omega)
    have hk2 : ∀ {m : List Pr} {h : Int}, Is s2 f (d + 1) m h → Sep (d + 1) (dgs m) → 2 ≤ m.length → (s2.get_ h).k = 2 := fun {m h} hi hsm hm => by
      obtain ⟨x, c, hx, hI⟩ := hi.info hsm (by omega) (fun e => by subst e; simp at hm)
      rw [(Slb.get_at hx).1]; exact (hI.big hm).1
    have VJ := joinedI_v s2 t G2.d.wf (d : Int) a b ((s2.sl.length : Int) + 1)
      (fun ⟨e1, e2⟩ => by
        have := I1'.zero e1
        rw [this] at hsum
        exact e2 (hk2 I2 (halfP_sep hs true) (by simp at hsum; omega)))
      (fun ⟨e1, e2⟩ => by
        have := I2.zero e1
        rw [this] at hsum
        exact e2 (hk2 I1' (halfP_sep hs false) (by simp at hsum; omega))) VI
    refine ⟨t, (s2.sl.length : Int) + 1, ((E1.trans E2).trans E3).congr fun k => by omega, I3, ?_, fun p hp h0 => ?_, ?_⟩
    · rw [E3.good.len, tl]; omega
    · have hsub2 : s1.Sub t := E2.sub.trans E3.sub
      obtain ⟨y, c2, h1, _, _, _, _, _⟩ := I3.big h2
      have h1' := h1
      rw [hndL_big h2 h1, treeN_big h2, List.zip_cons_cons, List.zip_append (hndL_len _ _ _ _ _)] at hp
      rw [(Slb.get_at h1').1] at hla hlb
      have hab : y.l = a ∧ y.r = b := ⟨hla, hlb⟩
      rw [hab.1, hab.2, hndL_mono hsub2 _ _ _ _ I1, hndL_mono E3.sub _ _ _ _ I2] at hp
      rcases List.mem_cons.1 hp with hp | hp
      · exfalso; injection hp with _ e; injection e with e _; omega
      rcases List.mem_append.1 hp with hp | hp
      · exact F1 p hp h0
      exact F2 p hp h0
    unfold freshC at V1 V2 ⊢
    rw [← p1] at V1
    rw [← p2] at V2
    rw [show ((d + 1 : Nat) : Int) = (d : Int) + 1 by omega] at V1 V2
    exact fresh2_v s s1 s2 t old a b _ d (by omega) l hK (by omega) (by omega) _ rfl p3 V1 V2 VJ
def insR (p : Wr) : List Wr → List Wr
  | [] => [p]
  | q :: l => if Lib.compareBytes q.1 p.1 < 0 then q :: insR p l else p :: q :: l
theorem insR_perm (p : Wr) : ∀ l, (insR p l).Perm (p :: l)
  | [] => .refl _
  | q :: l => by
    unfold insR
    split
    · exact ((insR_perm p l).cons q).trans (.swap p q l)
    exact .refl _
theorem insR_ris (p : Wr) (hp : p.1.length = 32) : ∀ l, K32W l → RisW l → (∀ x ∈ l, p.1 ≠ x.1) → RisW (insR p l)
  | [], _, _, _ => by unfold insR RisW; simp
  | q :: l, hk, hr, hn => by
    obtain ⟨h1, h2⟩ := List.pairwise_cons.1 hr
    have hq := hk q List.mem_cons_self
    have hc : Lib.compareBytes q.1 p.1 < 0 ↔ ltB q.1 p.1 := cmp_ltB hq hp
    unfold insR
    split
    · rename_i hlt
      refine List.pairwise_cons.2 ⟨fun y hy => ?_, insR_ris p hp l (fun x hx => hk x (List.mem_cons_of_mem _ hx)) h2 fun x hx => hn x (List.mem_cons_of_mem _ hx)⟩
      rcases List.mem_cons.1 ((insR_perm p l).mem_iff.1 hy) with rfl | hy
      · exact hc.1 hlt
      exact h1 y hy
    rename_i hlt
    have hpq : ltB p.1 q.1 := by
      rcases ltB_totW hp hq with e | e | e
      · exact absurd e (hn q List.mem_cons_self)
      · exact e
      exact absurd (hc.2 e) hlt
    refine List.pairwise_cons.2 ⟨fun y hy => ?_, hr⟩
    rcases List.mem_cons.1 hy with rfl | hy
    · exact hpq
    exact hpq.trans (h1 y hy)
def refF : List Wr → List Wr → List Wr
  | [], out => out
  | w :: l, out => refF l (if w.1 ∈ keyW l then out else insR (nzW w) out)
def finW : List Wr → List Wr
  | [] => []
  | w :: l => if w.1 ∈ keyW l then finW l else nzW w :: finW l
theorem refF_perm : ∀ (l out : List Wr), (refF l out).Perm (finW l ++ out)
  | [], out => .refl _
  | w :: l, out => by
    unfold refF finW
    refine (refF_perm l _).trans ?_
    split
    · exact .refl _
    exact ((insR_perm (nzW w) out).append_left (finW l)).trans List.perm_middle
theorem refF_ris : ∀ (l out : List Wr), K32W l → K32W out → RisW out → (∀ x ∈ out, x.1 ∉ keyW l) → RisW (refF l out)
  | [], out, _, _, h, _ => h
  | w :: l, out, hl, ho, h, hn => by
    have hl2 : K32W l := fun x hx => hl x (List.mem_cons_of_mem _ hx)
    have hw : (nzW w).1.length = 32 := hl w List.mem_cons_self
    unfold refF
    split
    · exact refF_ris l out hl2 ho h fun x hx he => hn x hx (List.mem_cons_of_mem _ he)
    rename_i hnm
    refine refF_ris l _ hl2 (fun x hx => ?_) (insR_ris _ hw out ho h fun x hx e => hn x hx (by rw [← e]; exact List.mem_cons_self)) fun x hx => ?_
    · rcases List.mem_cons.1 ((insR_perm _ out).mem_iff.1 hx) with rfl | hx
      · exact hw
      exact ho x hx
    rcases List.mem_cons.1 ((insR_perm _ out).mem_iff.1 hx) with rfl | hx
    · exact hnm
    exact fun he => hn x hx (List.mem_cons_of_mem _ he)
def notW (k : List UInt8) (x : Wr) : Bool := decide (x.1 ≠ k)
theorem finW_snoc (w : Wr) : ∀ l : List Wr, finW (l ++ [w]) = (finW l).filter (notW w.1) ++ [nzW w]
  | [] => by simp [finW, keyW]
  | x :: l => by
    have ih := finW_snoc w l
    have e : keyW (l ++ [w]) = keyW l ++ [w.1] := by simp [keyW]
    show finW (x :: (l ++ [w])) = _
    unfold finW
    rw [ih, e]
    by_cases h1 : x.1 ∈ keyW l
    · rw [if_pos h1, if_pos (List.mem_append_left _ h1)]
    rw [if_neg h1]
    by_cases h2 : x.1 = w.1
    · rw [if_pos (by rw [h2]; exact List.mem_append_right _ List.mem_cons_self)]
      rw [List.filter_cons_of_neg (by unfold notW nzW; simp [h2])]
    rw [if_neg (fun hc => by
      rcases List.mem_append.1 hc with hc | hc
      · exact h1 hc
      exact h2 (List.mem_singleton.1 hc))]
    rw [List.filter_cons_of_pos (by unfold notW nzW; simp [h2])]
    rfl
theorem filt_all : ∀ (l : List Wr) (k : List UInt8), k ∉ keyW l → l.filter (notW k) = l
  | [], _, _ => rfl
  | x :: l, k, h => by
    have h1 : ¬ x.1 = k := fun e => h (by rw [← e]; exact List.mem_cons_self)
    rw [List.filter_cons_of_pos (by unfold notW; simp [h1]), filt_all l k fun hc => h (List.mem_cons_of_mem _ hc)]
theorem putW_filt (w : Wr) : ∀ l : List Wr, DisW l → (putW l w).Perm (l.filter (notW w.1) ++ [w])
  | [], _ => .refl _
  | x :: l, hd => by
    obtain ⟨d1, d2⟩ := List.pairwise_cons.1 hd
    unfold putW
    split
    · rename_i h
      rw [List.filter_cons_of_neg (by unfold notW; simp [h]), filt_all l w.1 (fun hc => by
        obtain ⟨y, hy, e⟩ := List.mem_map.1 hc
        exact d1 y hy (h.trans e.symm))]
      exact (List.perm_append_singleton w l).symm
    rename_i h
    rw [List.filter_cons_of_pos (by unfold notW; simp [h])]
    exact (putW_filt w l d2).cons x
theorem lstW_fin (ws : List Wr) : (lstW ws).Perm (finW ws) := by
  refine rev_indW (p := fun ws => (lstW ws).Perm (finW ws)) (.refl _) (fun ws w ih => ?_) ws
  rw [lstW_snoc, finW_snoc]
  exact (putW_filt (nzW w) _ (lstW_dis ws)).trans ((ih.filter _).append_right _)
theorem refF_eq (ws : List Wr) (hk : K32W ws) : refF ws [] = srtW (lstW ws) := by
  refine risW_uniq _ _ (refF_ris ws [] hk (fun x hx => by cases hx) List.Pairwise.nil (fun x hx => by cases hx)) (srtW_ris _ (lstW_k32 ws hk) (lstW_dis ws)) ?_
  refine (refF_perm ws []).trans ?_
  rw [List.append_nil]
  exact (lstW_fin ws).symm.trans (srtW_perm _).symm
theorem wxs_seeT {X Y : List XR} {ws : List Wr} (h : XTL X (ws.map (·.2.2))) (hY : ∀ x ∈ X, x ∈ Y) {T : Ty} {tok : Option Nat} : SeeX Y (.sl T (wxs ws X) tok) (.sl T (ws.map wrA) none) := by
  have hl : X.length = ws.length := by have := h.1; rwa [List.length_map] at this
  refine .sl (by rw [wxs_len ws X hl, List.length_map]) fun i h1 h2 => ?_
  have h1' : i < ws.length := by rwa [wxs_len ws X hl] at h1
  have hx := h.2 i (by omega) (by rw [List.length_map]; exact h1')
  rw [List.getElem_map] at hx
  rw [wxs_at ws X hl i h1 h1' (by omega), List.getElem_map]
  have hs := lentX_see (hY _ (List.getElem_mem (show i < X.length by omega))) hx
  refine .st rfl fun k k1 k2 => ?_
  match k, k1 with
  | 0, _ => exact .refl _
  | 1, _ => exact .refl _
  | 2, _ => exact hs
theorem lstW_val {n : Nat} (ws : List Wr) : (∀ w ∈ ws, w.2.2.length ≤ n) → ∀ w ∈ lstW ws, w.2.2.length ≤ n := by
  refine rev_indW (p := fun ws => (∀ w ∈ ws, w.2.2.length ≤ n) → ∀ w ∈ lstW ws, w.2.2.length ≤ n) (fun _ x hx => by cases hx) (fun ws w ih h x hx => ?_) ws
  rw [lstW_snoc] at hx
  rcases putW_mem hx with e | e
  · rw [e]
    have := h w (List.mem_append_right _ List.mem_cons_self)
    unfold nzW
    dsimp only
    split
    · exact Nat.zero_le _
    exact this
  exact ih (fun y hy => h y (List.mem_append_left _ hy)) x e
theorem liveW_mem : ∀ (l : List Wr) (p : Pr), p ∈ liveW l → ∃ w ∈ l, w.1 = p.1 ∧ w.2.2 = p.2
  | [], p, h => by cases h
  | w :: l, p, h => by
    unfold liveW at h
    split at h
    · obtain ⟨x, h1, h2⟩ := liveW_mem l p h
      exact ⟨x, List.mem_cons_of_mem _ h1, h2⟩
    rcases List.mem_cons.1 h with rfl | h
    · exact ⟨w, List.mem_cons_self, rfl, rfl⟩
    obtain ⟨x, h1, h2⟩ := liveW_mem l p h
    exact ⟨x, List.mem_cons_of_mem _ h1, h2⟩
theorem VE.vc {P : Program} {f : FuncId} {args : List AV} {R : List XR → List (Ty × AV) → List (TypeId × Nat) → AV → Prop} {res : AV} (h : VE P f args R) (hR : ∀ X bx rw r, R X bx rw r → bx = [] ∧ rw = [] ∧ SeeX X r res) : VC P f args [] res :=
  ⟨h.1, fun w N vs a b c => (h.2 w N vs a b c).mono fun e w' hp => by
    obtain ⟨X, bx', rw', r, g, v, h1, rfl, HI, hv, hX⟩ := hp
    obtain ⟨rfl, rfl, hs⟩ := hR _ _ _ _ h1
    exact ⟨g, v, rfl, HI, hv.seeX hX hs fun b o u hu => hu⟩⟩
theorem over_c (ps : List Pr) (ws : List Wr) (hp : K32 ps) (hk : K32W ws) (hv : ∀ w ∈ ovZ ps ws, w.2.2.length ≤ 34359730000) (hl : ps.length ≤ 100000) (hl2 : ws.length ≤ 100000) :
    VC Tryz.prog 91 [.sl prT (ps.map prA) none, .sl wrT (ws.map wrA) none] [] (.sl prT ((liveW (ovZ ps ws)).map prA) none) :=
  (wover_E ps ws hp hk hv hl hl2).vc fun X bx rw r ⟨h1, h2, h3, h4⟩ => ⟨h1, h2, by rw [h3]; exact pxs_see h4 fun x hx => hx⟩
structure IsOv (l0 : List Pr) (ws : List Wr) (l1 : List Pr) : Prop where
  ris : Ris l1
  mem : ∀ p : Pr, p ∈ l1 ↔ (∃ w ∈ ws, w.1 = p.1 ∧ w.2.1 = false ∧ w.2.2 = p.2) ∨ (p ∈ l0 ∧ p.1 ∉ keyW ws)
theorem Ris.nodup {l : List Pr} (h : Ris l) : l.Nodup := h.imp fun {a b} hab e => by
  subst e
  obtain ⟨c, _, _, h2, h3⟩ := hab
  rw [h2] at h3; cases h3
theorem ris_ext {l m : List Pr} (hl : Ris l) (hm : Ris m) (h : ∀ p, p ∈ l ↔ p ∈ m) : l = m := ris_uniq l m hl hm ((List.perm_ext_iff_of_nodup hl.nodup hm.nodup).2 h)
theorem IsOv.uniq {l0 : List Pr} {ws : List Wr} {a b : List Pr} (h1 : IsOv l0 ws a) (h2 : IsOv l0 ws b) : a = b := ris_ext h1.ris h2.ris fun p => by rw [h1.mem, h2.mem]
theorem IsOv.none {l0 l1 : List Pr} (h : IsOv l0 [] l1) (hr : Ris l0) : l1 = l0 := ris_ext h.ris hr fun p => by rw [h.mem]; simp [keyW]
def halfW (b : Bool) (d : Nat) (ws : List Wr) : List Wr := ws.filter fun w => bitN w.1 d == b
theorem IsOv.half {l0 : List Pr} {ws : List Wr} {l1 : List Pr} (h : IsOv l0 ws l1) (b : Bool) (d : Nat) : IsOv (halfP b d l0) (halfW b d ws) (halfP b d l1) := by
  refine ⟨h.ris.filter _, fun p => ?_⟩
  unfold halfP halfW
  rw [List.mem_filter, h.mem, List.mem_filter]
  constructor
  · rintro ⟨⟨w, h1, h2, h3, h4⟩ | ⟨h1, h2⟩, hb⟩
    · exact .inl ⟨w, List.mem_filter.2 ⟨h1, by rw [h2]; exact hb⟩, h2, h3, h4⟩
    refine .inr ⟨⟨h1, hb⟩, fun hm => h2 ?_⟩
    obtain ⟨w, hw, e⟩ := List.mem_map.1 hm
    exact List.mem_map.2 ⟨w, (List.mem_filter.1 hw).1, e⟩
  rintro (⟨w, h1, h2, h3, h4⟩ | ⟨⟨h1, hb⟩, h2⟩)
  · obtain ⟨g1, g2⟩ := List.mem_filter.1 h1
    exact ⟨.inl ⟨w, g1, h2, h3, h4⟩, by rw [← h2]; exact g2⟩
  refine ⟨.inr ⟨h1, fun hm => h2 ?_⟩, hb⟩
  obtain ⟨w, hw, e⟩ := List.mem_map.1 hm
  exact List.mem_map.2 ⟨w, List.mem_filter.2 ⟨hw, by rw [e]; exact hb⟩, e⟩
theorem mem_finW : ∀ (l : List Wr) (x : Wr), DisW l → (x ∈ finW l ↔ ∃ w ∈ l, x = nzW w)
  | [], x, _ => ⟨fun h => (by cases h), fun ⟨w, h, _⟩ => (by cases h)⟩
  | w :: l, x, h => by
    obtain ⟨h1, h2⟩ := List.pairwise_cons.1 h
    have hn : w.1 ∉ keyW l := fun hm => by
      obtain ⟨y, hy, e⟩ := List.mem_map.1 hm
      exact h1 y hy e.symm
    unfold finW
    rw [if_neg hn, List.mem_cons, mem_finW l x h2]
    constructor
    · rintro (rfl | ⟨y, hy, rfl⟩)
      · exact ⟨w, List.mem_cons_self, rfl⟩
      exact ⟨y, List.mem_cons_of_mem _ hy, rfl⟩
    rintro ⟨y, hy, rfl⟩
    rcases List.mem_cons.1 hy with rfl | hy
    · exact .inl rfl
    exact .inr ⟨y, hy, rfl⟩
theorem mem_finOv : ∀ (l0 : List Pr) (ws : List Wr) (x : Wr), Dis l0 → DisW ws → (x ∈ finW (l0.map pwW ++ ws) ↔ (∃ w ∈ ws, x = nzW w) ∨ ∃ p ∈ l0, p.1 ∉ keyW ws ∧ x = pwW p)
  | [], ws, x, _, h => by rw [List.map_nil, List.nil_append, mem_finW ws x h]; simp
  | p :: l, ws, x, h0, h => by
    obtain ⟨h1, h2⟩ := List.pairwise_cons.1 h0
    have ih := mem_finOv l ws x h2 h
    have e1 : finW ((p :: l).map pwW ++ ws) = if (pwW p).1 ∈ keyW (l.map pwW ++ ws) then finW (l.map pwW ++ ws) else nzW (pwW p) :: finW (l.map pwW ++ ws) := rfl
    have e2 : (pwW p).1 ∈ keyW (l.map pwW ++ ws) ↔ p.1 ∈ keyW ws := by
      unfold keyW
      rw [List.map_append, List.mem_append]
      constructor
      · rintro (hm | hm)
        · exfalso
          obtain ⟨y, hy, e⟩ := List.mem_map.1 hm
          obtain ⟨q, hq, rfl⟩ := List.mem_map.1 hy
          exact h1 q hq e.symm
        exact hm
      exact fun hm => .inr hm
    rw [e1]
    by_cases hk : p.1 ∈ keyW ws
    · rw [if_pos (e2.2 hk), ih]
      constructor
      · rintro (hx | ⟨q, hq, h3⟩)
        · exact .inl hx
        exact .inr ⟨q, List.mem_cons_of_mem _ hq, h3⟩
      rintro (hx | ⟨q, hq, h3, h4⟩)
      · exact .inl hx
      rcases List.mem_cons.1 hq with rfl | hq
      · exact absurd hk h3
      exact .inr ⟨q, hq, h3, h4⟩
    rw [if_neg (fun hm => hk (e2.1 hm)), List.mem_cons, ih]
    have e3 : nzW (pwW p) = pwW p := rfl
    rw [e3]
    constructor
    · rintro (rfl | hx | ⟨q, hq, h3⟩)
      · exact .inr ⟨p, List.mem_cons_self, hk, rfl⟩
      · exact .inl hx
      exact .inr ⟨q, List.mem_cons_of_mem _ hq, h3⟩
    rintro (hx | ⟨q, hq, h3, h4⟩)
    · exact .inr (.inl hx)
    rcases List.mem_cons.1 hq with rfl | hq
    · exact .inl h4
    exact .inr (.inr ⟨q, hq, h3, h4⟩)
theorem liveW_iff : ∀ (l : List Wr) (p : Pr), p ∈ liveW l ↔ ∃ w ∈ l, w.2.1 = false ∧ w.1 = p.1 ∧ w.2.2 = p.2
  | [], p => ⟨fun h => (by cases h), fun ⟨w, h, _⟩ => (by cases h)⟩
  | w :: l, p => by
    have ih := liveW_iff l p
    unfold liveW
    cases hw : w.2.1
    · rw [if_neg (by decide), List.mem_cons, ih]
      constructor
      · rintro (rfl | ⟨y, hy, h⟩)
        · exact ⟨w, List.mem_cons_self, hw, rfl, rfl⟩
        exact ⟨y, List.mem_cons_of_mem _ hy, h⟩
      rintro ⟨y, hy, h1, h2, h3⟩
      rcases List.mem_cons.1 hy with rfl | hy
      · exact .inl (Prod.ext h2.symm h3.symm)
      exact .inr ⟨y, hy, h1, h2, h3⟩
    rw [if_pos rfl, ih]
    constructor
    · rintro ⟨y, hy, h⟩
      exact ⟨y, List.mem_cons_of_mem _ hy, h⟩
    rintro ⟨y, hy, h1, h2⟩
    rcases List.mem_cons.1 hy with rfl | hy
    · rw [hw] at h1; cases h1
    exact ⟨y, hy, h1, h2⟩
theorem liveW_ris : ∀ {l : List Wr}, RisW l → Ris (liveW l)
  | [], _ => List.Pairwise.nil
  | w :: l, h => by
    obtain ⟨h1, h2⟩ := List.pairwise_cons.1 h
    unfold liveW
    split
    · exact liveW_ris h2
    refine List.pairwise_cons.2 ⟨fun p hp => ?_, liveW_ris h2⟩
    obtain ⟨y, hy, _, e, _⟩ := (liveW_iff l p).1 hp
    have := h1 y hy
    rw [e] at this; exact this
theorem ovZ_is (l0 : List Pr) (ws : List Wr) (hK : K32 l0) (hW : K32W ws) (h0 : Dis l0) (h : DisW ws) : IsOv l0 ws (liveW (ovZ l0 ws)) := by
  have hk2 : K32W (l0.map pwW ++ ws) := fun x hx => by
    rcases List.mem_append.1 hx with hx | hx
    · obtain ⟨p, hp1, rfl⟩ := List.mem_map.1 hx
      exact hK p hp1
    exact hW x hx
  have hm : ∀ x, x ∈ ovZ l0 ws ↔ x ∈ finW (l0.map pwW ++ ws) := fun x => ((srtW_perm _).trans (lstW_fin _)).mem_iff
  refine ⟨liveW_ris (srtW_ris _ (lstW_k32 _ hk2) (lstW_dis _)), fun p => ?_⟩
  rw [liveW_iff]
  constructor
  · rintro ⟨w, hw, h1, h2, h3⟩
    rw [hm, mem_finOv l0 ws w h0 h] at hw
    rcases hw with ⟨y, hy, rfl⟩ | ⟨q, hq, h4, rfl⟩
    · have h1 : y.2.1 = false := h1
      refine .inl ⟨y, hy, h2, h1, ?_⟩
      have : (nzW y).2.2 = y.2.2 := by show (if y.2.1 then [] else y.2.2) = _; rw [h1]; rfl
      rw [← this]; exact h3
    have e : q = p := Prod.ext h2 h3
    subst e
    exact .inr ⟨hq, h4⟩
  rintro (⟨w, hw, h1, h2, h3⟩ | ⟨h1, h2⟩)
  · refine ⟨nzW w, (hm _).2 ((mem_finOv l0 ws _ h0 h).2 (.inl ⟨w, hw, rfl⟩)), h2, h1, ?_⟩
    show (if w.2.1 then [] else w.2.2) = _
    rw [h2]; exact h3
  exact ⟨pwW p, (hm _).2 ((mem_finOv l0 ws _ h0 h).2 (.inr ⟨p, h1, h2, rfl⟩)), rfl, rfl, rfl⟩
end Go.Proofs.YtgffimanhmpohaaGreat
