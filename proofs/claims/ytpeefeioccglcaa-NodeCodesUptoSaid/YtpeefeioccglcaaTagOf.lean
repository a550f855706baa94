/- Digests of a byte and parts: the program's. -/
import Derived.Test.YtpeefeioccglcaaA5
import Derived.Test.YtpeefeioccglcaaDigest
set_option linter.unusedSimpArgs false
set_option linter.unusedVariables false
namespace Go.Proofs.Ytpeefeioccglcaa
open Go Go.RowKit
theorem of_v (t : UInt8) (ls : List (List UInt8)) (hb : ls.flatten.length ≤ 34359737000) (hl : ls.length ≤ 34359737000) : VC Try.prog 106 [.v (B8 t), .sl .sc (bss ls) none] [] (.ba (sum (t :: ls.flatten))) := by
  have hbl := bss_len ls
  have ht := t.toNat_lt
  refine v_enter Try.func106 rfl (by kernel_rfl) (by show 2 ≤ 25; decide) ?_
  intro N w0 a w hN hR H
  repeat (first
    | refine wp_seq ?_
    | refine wp_block ?_
    | refine wp_skip ?_
    | refine wp_exit ?_
    | (refine v_more tab_ok hN H (by rfl) (by rfl) (by ((try simp only [pk, elemB, St.put, St.ev, St.tmp, St.keep, find, dropT, slots, AV.put, AV.loc, fitI, convI, IntKind.signed, IntKind.bits, strip, St.lose, mergeL, setAll, nth, renB, ren, idx?, sub, allP, low, bnd, Int.reduceEq, Nat.reduceAdd, Nat.reduceLT, reduceIte, reduceCtorEq, Nat.reduceEqDiff, Nat.reduceLeDiff, Nat.reduceBEq, Int.reducePow, Int.reduceToNat, ti261_t, ti261_z, ti254_t, ti254_z, ti22_t, ti22_z, ti5_t, ti5_z, ti51_t, ti51_z, ti50_t, ti50_z, ren_s8v, ren_shv, ti261, ti254, ti22, ti5, ti51, ti50, fit, gcond, ilo, ihi, s8v, shv, W32, h0]); first | done | exact cd | skip)) ?_; clear H; intro a w H; try simp only [pk, elemB, St.put, St.ev, St.tmp, St.keep, find, dropT, slots, AV.put, AV.loc, fitI, convI, IntKind.signed, IntKind.bits, strip, St.lose, mergeL, setAll, nth, renB, ren, idx?, sub, allP, low, bnd, Int.reduceEq, Nat.reduceAdd, Nat.reduceLT, reduceIte, reduceCtorEq, Nat.reduceEqDiff, Nat.reduceLeDiff, Nat.reduceBEq, Int.reducePow, Int.reduceToNat, ti261_t, ti261_z, ti254_t, ti254_z, ti22_t, ti22_z, ti5_t, ti5_z, ti51_t, ti51_z, ti50_t, ti50_z, ren_s8v, ren_shv] at H; try refine wpList_nil ?_)
    | refine wp_region_lit ?_)
  refine v_call [] [] (new_v) H rfl rfl (by rfl) (by simp [pickB, bxs, ren, idx?, sub_refl, sub, allP, ren_s8v, ren_shv] <;> omega) (by first | rfl | (simp [ren_s8v, ren_shv] <;> omega)) (by first | exact trivial | exact ⟨sub_refl _ _, trivial⟩ | exact ⟨sub_refl _ _, sub_refl _ _, trivial⟩ | exact ⟨sub_refl _ _, sub_refl _ _, sub_refl _ _, trivial⟩ | (simp [cargs, cargsG, St.ev, St.tmp, find, ren, idx?, sub_refl, sub, allP, resv, resC, bss, ren_s8v, ren_shv] <;> omega)) ?_; clear H; intro a w H; simp only [pk, elemB, St.put, St.ev, St.tmp, St.keep, find, dropT, slots, AV.put, AV.loc, fitI, convI, IntKind.signed, IntKind.bits, strip, St.lose, mergeL, setAll, nth, renB, ren, idx?, sub, allP, low, bnd, Int.reduceEq, Nat.reduceAdd, Nat.reduceLT, reduceIte, reduceCtorEq, Nat.reduceEqDiff, Nat.reduceLeDiff, Nat.reduceBEq, Int.reducePow, Int.reduceToNat, ti261_t, ti261_z, ti254_t, ti254_z, ti22_t, ti22_z, ti5_t, ti5_z, ti51_t, ti51_z, ti50_t, ti50_z, ren_s8v, ren_shv] at H; try refine wpList_nil ?_
  repeat (first
    | refine wp_seq ?_
    | refine wp_block ?_
    | refine wp_skip ?_
    | refine wp_exit ?_
    | (refine v_more tab_ok hN H (by rfl) (by rfl) (by ((try simp only [pk, elemB, St.put, St.ev, St.tmp, St.keep, find, dropT, slots, AV.put, AV.loc, fitI, convI, IntKind.signed, IntKind.bits, strip, St.lose, mergeL, setAll, nth, renB, ren, idx?, sub, allP, low, bnd, Int.reduceEq, Nat.reduceAdd, Nat.reduceLT, reduceIte, reduceCtorEq, Nat.reduceEqDiff, Nat.reduceLeDiff, Nat.reduceBEq, Int.reducePow, Int.reduceToNat, ti261_t, ti261_z, ti254_t, ti254_z, ti22_t, ti22_z, ti5_t, ti5_z, ti51_t, ti51_z, ti50_t, ti50_z, ren_s8v, ren_shv, ti261, ti254, ti22, ti5, ti51, ti50, fit, gcond, ilo, ihi, s8v, shv, W32, h0]); first | done | exact cd | skip)) ?_; clear H; intro a w H; try simp only [pk, elemB, St.put, St.ev, St.tmp, St.keep, find, dropT, slots, AV.put, AV.loc, fitI, convI, IntKind.signed, IntKind.bits, strip, St.lose, mergeL, setAll, nth, renB, ren, idx?, sub, allP, low, bnd, Int.reduceEq, Nat.reduceAdd, Nat.reduceLT, reduceIte, reduceCtorEq, Nat.reduceEqDiff, Nat.reduceLeDiff, Nat.reduceBEq, Int.reducePow, Int.reduceToNat, ti261_t, ti261_z, ti254_t, ti254_z, ti22_t, ti22_z, ti5_t, ti5_z, ti51_t, ti51_z, ti50_t, ti50_z, ren_s8v, ren_shv] at H; try refine wpList_nil ?_)
    | refine wp_region_lit ?_)
  obtain ⟨s1, b1, n1, h1, hw1⟩ := write_g [] [t] h0 (List.replicate 64 0) 0 good_nil (by simp) 0 (by decide)
  refine v_call [1] [] (hw1) H rfl rfl (by rfl) (by simp [pickB, bxs, ren, idx?, sub_refl, sub, allP, ren_s8v, ren_shv, Nat.zero_add] <;> omega) (by first | rfl | (simp [ren_s8v, ren_shv, Nat.zero_add] <;> omega)) (by first | exact trivial | exact ⟨sub_refl _ _, trivial⟩ | exact ⟨sub_refl _ _, sub_refl _ _, trivial⟩ | exact ⟨sub_refl _ _, sub_refl _ _, sub_refl _ _, trivial⟩ | (simp [cargs, cargsG, St.ev, St.tmp, find, ren, idx?, sub_refl, sub, allP, resv, resC, bss, ren_s8v, ren_shv, Nat.zero_add] <;> omega)) ?_; clear H; intro a w H; simp only [pk, elemB, St.put, St.ev, St.tmp, St.keep, find, dropT, slots, AV.put, AV.loc, fitI, convI, IntKind.signed, IntKind.bits, strip, St.lose, mergeL, setAll, nth, renB, ren, idx?, sub, allP, low, bnd, Int.reduceEq, Nat.reduceAdd, Nat.reduceLT, reduceIte, reduceCtorEq, Nat.reduceEqDiff, Nat.reduceLeDiff, Nat.reduceBEq, Int.reducePow, Int.reduceToNat, ti261_t, ti261_z, ti254_t, ti254_z, ti22_t, ti22_z, ti5_t, ti5_z, ti51_t, ti51_z, ti50_t, ti50_z, ren_s8v, ren_shv, Nat.zero_add] at H; try refine wpList_nil ?_
  repeat (first
    | refine wp_seq ?_
    | refine wp_block ?_
    | refine wp_skip ?_
    | refine wp_exit ?_
    | (refine v_more tab_ok hN H (by rfl) (by rfl) (by ((try simp only [pk, elemB, St.put, St.ev, St.tmp, St.keep, find, dropT, slots, AV.put, AV.loc, fitI, convI, IntKind.signed, IntKind.bits, strip, St.lose, mergeL, setAll, nth, renB, ren, idx?, sub, allP, low, bnd, Int.reduceEq, Nat.reduceAdd, Nat.reduceLT, reduceIte, reduceCtorEq, Nat.reduceEqDiff, Nat.reduceLeDiff, Nat.reduceBEq, Int.reducePow, Int.reduceToNat, ti261_t, ti261_z, ti254_t, ti254_z, ti22_t, ti22_z, ti5_t, ti5_z, ti51_t, ti51_z, ti50_t, ti50_z, ren_s8v, ren_shv, Nat.zero_add, ti261, ti254, ti22, ti5, ti51, ti50, fit, gcond, ilo, ihi, s8v, shv, W32, h0]); first | done | exact cd | skip)) ?_; clear H; intro a w H; try simp only [pk, elemB, St.put, St.ev, St.tmp, St.keep, find, dropT, slots, AV.put, AV.loc, fitI, convI, IntKind.signed, IntKind.bits, strip, St.lose, mergeL, setAll, nth, renB, ren, idx?, sub, allP, low, bnd, Int.reduceEq, Nat.reduceAdd, Nat.reduceLT, reduceIte, reduceCtorEq, Nat.reduceEqDiff, Nat.reduceLeDiff, Nat.reduceBEq, Int.reducePow, Int.reduceToNat, ti261_t, ti261_z, ti254_t, ti254_z, ti22_t, ti22_z, ti5_t, ti5_z, ti51_t, ti51_z, ti50_t, ti50_z, ren_s8v, ren_shv, Nat.zero_add] at H; try refine wpList_nil ?_)
    | refine wp_region_lit ?_)
  refine v_loop (fun i : S8 × List UInt8 × Nat × Nat => ⟨[(4, none, .ptr 0 []), (5, none, .ptr 1 []), (15, none, .v (.int .i64 (i.2.2.2 : Int))), (14, none, .v (.int .i64 (ls.length : Int))), (13, none, .sl .sc (bss ls) none)], [(.ba 32, .ba (List.replicate 32 0)), (ti261.ty, shv i.1 i.2.1 i.2.2.1 (1 + (ls.take i.2.2.2).flatten.length))], [], []⟩)
    (fun i => Good (t :: (ls.take i.2.2.2).flatten) i.1 i.2.1 i.2.2.1 ∧ i.2.2.2 ≤ ls.length) (fun i => ls.length - i.2.2.2) (s1, b1, n1, 0) ⟨by simpa using h1, Nat.zero_le _⟩
    (H.to 2 0 ⟨Nat.le_trans hN (by decide), hR⟩ ⟨rfl, rfl, rfl, by rw [hbl]; rfl, rfl, trivial⟩ rfl rfl rfl rfl rfl) ?_
  clear H
  rintro ⟨s2, b2, n2, k⟩ a w ⟨h2, hk⟩ H
  dsimp only at h2 hk H
  repeat (first
    | refine wp_seq ?_
    | refine wp_block ?_
    | refine wp_skip ?_
    | refine wp_exit ?_
    | (refine v_more tab_ok hN H (by rfl) (by rfl) (by ((try simp only [pk, elemB, St.put, St.ev, St.tmp, St.keep, find, dropT, slots, AV.put, AV.loc, fitI, convI, IntKind.signed, IntKind.bits, strip, St.lose, mergeL, setAll, nth, renB, ren, idx?, sub, allP, low, bnd, Int.reduceEq, Nat.reduceAdd, Nat.reduceLT, reduceIte, reduceCtorEq, Nat.reduceEqDiff, Nat.reduceLeDiff, Nat.reduceBEq, Int.reducePow, Int.reduceToNat, ti261_t, ti261_z, ti254_t, ti254_z, ti22_t, ti22_z, ti5_t, ti5_z, ti51_t, ti51_z, ti50_t, ti50_z, ren_s8v, ren_shv, Nat.zero_add, ti261, ti254, ti22, ti5, ti51, ti50, fit, gcond, ilo, ihi, s8v, shv, W32, h0]); first | done | exact cd | skip)) ?_; clear H; intro a w H; try simp only [pk, elemB, St.put, St.ev, St.tmp, St.keep, find, dropT, slots, AV.put, AV.loc, fitI, convI, IntKind.signed, IntKind.bits, strip, St.lose, mergeL, setAll, nth, renB, ren, idx?, sub, allP, low, bnd, Int.reduceEq, Nat.reduceAdd, Nat.reduceLT, reduceIte, reduceCtorEq, Nat.reduceEqDiff, Nat.reduceLeDiff, Nat.reduceBEq, Int.reducePow, Int.reduceToNat, ti261_t, ti261_z, ti254_t, ti254_z, ti22_t, ti22_z, ti5_t, ti5_z, ti51_t, ti51_z, ti50_t, ti50_z, ren_s8v, ren_shv, Nat.zero_add] at H; try refine wpList_nil ?_)
    | refine wp_region_lit ?_)
  refine v_cond H (by rfl) (fun hb => ?_) (fun hb => ?_)
  · have hlt : k < ls.length := by simpa using hb
    have hf := flat_take_le ls (k + 1)
    rw [flat_take ls k hlt, List.length_append] at hf
    refine wp_skip ?_
    refine wp_seq ?_
    refine wp_block ?_
    refine wp_seq ?_
    (try refine wp_region_lit ?_); refine v_steps 2 tab_ok hN H (by rfl) (by ((try simp only [pk, elemB, St.put, St.ev, St.tmp, St.keep, find, dropT, slots, AV.put, AV.loc, fitI, convI, IntKind.signed, IntKind.bits, strip, St.lose, mergeL, setAll, nth, renB, ren, idx?, sub, allP, low, bnd, Int.reduceEq, Nat.reduceAdd, Nat.reduceLT, reduceIte, reduceCtorEq, Nat.reduceEqDiff, Nat.reduceLeDiff, Nat.reduceBEq, Int.reducePow, Int.reduceToNat, ti261_t, ti261_z, ti254_t, ti254_z, ti22_t, ti22_z, ti5_t, ti5_z, ti51_t, ti51_z, ti50_t, ti50_z, ren_s8v, ren_shv, Nat.zero_add, ti261, ti254, ti22, ti5, ti51, ti50, fit, gcond, ilo, ihi, s8v, shv, W32, h0]); first | done | exact cd | skip)) ?_; clear H; intro a w H; simp only [pk, elemB, St.put, St.ev, St.tmp, St.keep, find, dropT, slots, AV.put, AV.loc, fitI, convI, IntKind.signed, IntKind.bits, strip, St.lose, mergeL, setAll, nth, renB, ren, idx?, sub, allP, low, bnd, Int.reduceEq, Nat.reduceAdd, Nat.reduceLT, reduceIte, reduceCtorEq, Nat.reduceEqDiff, Nat.reduceLeDiff, Nat.reduceBEq, Int.reducePow, Int.reduceToNat, ti261_t, ti261_z, ti254_t, ti254_z, ti22_t, ti22_z, ti5_t, ti5_z, ti51_t, ti51_z, ti50_t, ti50_z, ren_s8v, ren_shv, Nat.zero_add] at H
    rw [bss_get ls k hlt] at H
    repeat (first
      | refine wp_seq ?_
      | refine wp_block ?_
      | refine wp_skip ?_
      | refine wp_exit ?_
      | (refine v_more tab_ok hN H (by rfl) (by rfl) (by ((try simp only [pk, elemB, St.put, St.ev, St.tmp, St.keep, find, dropT, slots, AV.put, AV.loc, fitI, convI, IntKind.signed, IntKind.bits, strip, St.lose, mergeL, setAll, nth, renB, ren, idx?, sub, allP, low, bnd, Int.reduceEq, Nat.reduceAdd, Nat.reduceLT, reduceIte, reduceCtorEq, Nat.reduceEqDiff, Nat.reduceLeDiff, Nat.reduceBEq, Int.reducePow, Int.reduceToNat, ti261_t, ti261_z, ti254_t, ti254_z, ti22_t, ti22_z, ti5_t, ti5_z, ti51_t, ti51_z, ti50_t, ti50_z, ren_s8v, ren_shv, Nat.zero_add, ti261, ti254, ti22, ti5, ti51, ti50, fit, gcond, ilo, ihi, s8v, shv, W32, h0]); first | done | exact cd | skip)) ?_; clear H; intro a w H; try simp only [pk, elemB, St.put, St.ev, St.tmp, St.keep, find, dropT, slots, AV.put, AV.loc, fitI, convI, IntKind.signed, IntKind.bits, strip, St.lose, mergeL, setAll, nth, renB, ren, idx?, sub, allP, low, bnd, Int.reduceEq, Nat.reduceAdd, Nat.reduceLT, reduceIte, reduceCtorEq, Nat.reduceEqDiff, Nat.reduceLeDiff, Nat.reduceBEq, Int.reducePow, Int.reduceToNat, ti261_t, ti261_z, ti254_t, ti254_z, ti22_t, ti22_z, ti5_t, ti5_z, ti51_t, ti51_z, ti50_t, ti50_z, ren_s8v, ren_shv, Nat.zero_add] at H; try refine wpList_nil ?_)
      | refine wp_region_lit ?_)
    obtain ⟨s3, b3, n3, h3, hw3⟩ := write_g _ ls[k] s2 b2 n2 h2 (by omega) (1 + (ls.take k).flatten.length) (by omega)
    refine v_call [1] [] (hw3) H rfl rfl (by rfl) (by simp [pickB, bxs, ren, idx?, sub_refl, sub, allP, ren_s8v, ren_shv, Nat.zero_add] <;> omega) (by first | rfl | (simp [ren_s8v, ren_shv, Nat.zero_add] <;> omega)) (by first | exact trivial | exact ⟨sub_refl _ _, trivial⟩ | exact ⟨sub_refl _ _, sub_refl _ _, trivial⟩ | exact ⟨sub_refl _ _, sub_refl _ _, sub_refl _ _, trivial⟩ | (simp [cargs, cargsG, St.ev, St.tmp, find, ren, idx?, sub_refl, sub, allP, resv, resC, bss, ren_s8v, ren_shv, Nat.zero_add] <;> omega)) ?_; clear H; intro a w H; simp only [pk, elemB, St.put, St.ev, St.tmp, St.keep, find, dropT, slots, AV.put, AV.loc, fitI, convI, IntKind.signed, IntKind.bits, strip, St.lose, mergeL, setAll, nth, renB, ren, idx?, sub, allP, low, bnd, Int.reduceEq, Nat.reduceAdd, Nat.reduceLT, reduceIte, reduceCtorEq, Nat.reduceEqDiff, Nat.reduceLeDiff, Nat.reduceBEq, Int.reducePow, Int.reduceToNat, ti261_t, ti261_z, ti254_t, ti254_z, ti22_t, ti22_z, ti5_t, ti5_z, ti51_t, ti51_z, ti50_t, ti50_z, ren_s8v, ren_shv, Nat.zero_add] at H; try refine wpList_nil ?_
    repeat (first
      | refine wp_seq ?_
      | refine wp_block ?_
      | refine wp_skip ?_
      | refine wp_exit ?_
      | (refine v_more tab_ok hN H (by rfl) (by rfl) (by ((try simp only [pk, elemB, St.put, St.ev, St.tmp, St.keep, find, dropT, slots, AV.put, AV.loc, fitI, convI, IntKind.signed, IntKind.bits, strip, St.lose, mergeL, setAll, nth, renB, ren, idx?, sub, allP, low, bnd, Int.reduceEq, Nat.reduceAdd, Nat.reduceLT, reduceIte, reduceCtorEq, Nat.reduceEqDiff, Nat.reduceLeDiff, Nat.reduceBEq, Int.reducePow, Int.reduceToNat, ti261_t, ti261_z, ti254_t, ti254_z, ti22_t, ti22_z, ti5_t, ti5_z, ti51_t, ti51_z, ti50_t, ti50_z, ren_s8v, ren_shv, Nat.zero_add, ti261, ti254, ti22, ti5, ti51, ti50, fit, gcond, ilo, ihi, s8v, shv, W32, h0]); first | done | exact cd | skip)) ?_; clear H; intro a w H; try simp only [pk, elemB, St.put, St.ev, St.tmp, St.keep, find, dropT, slots, AV.put, AV.loc, fitI, convI, IntKind.signed, IntKind.bits, strip, St.lose, mergeL, setAll, nth, renB, ren, idx?, sub, allP, low, bnd, Int.reduceEq, Nat.reduceAdd, Nat.reduceLT, reduceIte, reduceCtorEq, Nat.reduceEqDiff, Nat.reduceLeDiff, Nat.reduceBEq, Int.reducePow, Int.reduceToNat, ti261_t, ti261_z, ti254_t, ti254_z, ti22_t, ti22_z, ti5_t, ti5_z, ti51_t, ti51_z, ti50_t, ti50_z, ren_s8v, ren_shv, Nat.zero_add] at H; try refine wpList_nil ?_)
      | refine wp_region_lit ?_)
    refine ⟨(s3, b3, n3, k + 1), ⟨by rw [flat_take ls k hlt]; simpa using h3, hlt⟩, by dsimp only; omega, H.to 2 0 ⟨Nat.le_trans hN (by decide), hR⟩ ⟨rfl, rfl, rfl, rfl, rfl, trivial⟩ (by rw [flat_take ls k hlt, List.length_append]; simp only [List.take_succ_cons, List.take_zero]; rw [Nat.add_assoc]; rfl) rfl rfl rfl rfl⟩
  · have hge : k = ls.length := by simp at hb; omega
    subst hge
    rw [List.take_length] at h2 H
    have hsl := sum_length (t :: ls.flatten)
    have h1l : (t :: ls.flatten).length = 1 + ls.flatten.length := by simp; omega
    have hsum := sumS_v (t :: ls.flatten) s2 b2 n2 h2 (by rw [h1l]; omega)
    rw [h1l] at hsum
    repeat (first
      | refine wp_seq ?_
      | refine wp_block ?_
      | refine wp_skip ?_
      | refine wp_exit ?_
      | (refine v_more tab_ok hN H (by rfl) (by rfl) (by ((try simp only [pk, elemB, St.put, St.ev, St.tmp, St.keep, find, dropT, slots, AV.put, AV.loc, fitI, convI, IntKind.signed, IntKind.bits, strip, St.lose, mergeL, setAll, nth, renB, ren, idx?, sub, allP, low, bnd, Int.reduceEq, Nat.reduceAdd, Nat.reduceLT, reduceIte, reduceCtorEq, Nat.reduceEqDiff, Nat.reduceLeDiff, Nat.reduceBEq, Int.reducePow, Int.reduceToNat, ti261_t, ti261_z, ti254_t, ti254_z, ti22_t, ti22_z, ti5_t, ti5_z, ti51_t, ti51_z, ti50_t, ti50_z, ren_s8v, ren_shv, Nat.zero_add, ti261, ti254, ti22, ti5, ti51, ti50, fit, gcond, ilo, ihi, s8v, shv, W32, h0]); first | done | exact cd | skip)) ?_; clear H; intro a w H; try simp only [pk, elemB, St.put, St.ev, St.tmp, St.keep, find, dropT, slots, AV.put, AV.loc, fitI, convI, IntKind.signed, IntKind.bits, strip, St.lose, mergeL, setAll, nth, renB, ren, idx?, sub, allP, low, bnd, Int.reduceEq, Nat.reduceAdd, Nat.reduceLT, reduceIte, reduceCtorEq, Nat.reduceEqDiff, Nat.reduceLeDiff, Nat.reduceBEq, Int.reducePow, Int.reduceToNat, ti261_t, ti261_z, ti254_t, ti254_z, ti22_t, ti22_z, ti5_t, ti5_z, ti51_t, ti51_z, ti50_t, ti50_z, ren_s8v, ren_shv, Nat.zero_add] at H; try refine wpList_nil ?_)
      | refine wp_region_lit ?_)
    refine v_call [1] [] (hsum) H rfl rfl (by rfl) (by simp [pickB, bxs, ren, idx?, sub_refl, sub, allP, ren_s8v, ren_shv, Nat.zero_add] <;> omega) (by first | rfl | (simp [ren_s8v, ren_shv, Nat.zero_add] <;> omega)) (by first | exact trivial | exact ⟨sub_refl _ _, trivial⟩ | exact ⟨sub_refl _ _, sub_refl _ _, trivial⟩ | exact ⟨sub_refl _ _, sub_refl _ _, sub_refl _ _, trivial⟩ | (simp [cargs, cargsG, St.ev, St.tmp, find, ren, idx?, sub_refl, sub, allP, resv, resC, bss, ren_s8v, ren_shv, Nat.zero_add] <;> omega)) ?_; clear H; intro a w H; simp only [pk, elemB, St.put, St.ev, St.tmp, St.keep, find, dropT, slots, AV.put, AV.loc, fitI, convI, IntKind.signed, IntKind.bits, strip, St.lose, mergeL, setAll, nth, renB, ren, idx?, sub, allP, low, bnd, Int.reduceEq, Nat.reduceAdd, Nat.reduceLT, reduceIte, reduceCtorEq, Nat.reduceEqDiff, Nat.reduceLeDiff, Nat.reduceBEq, Int.reducePow, Int.reduceToNat, ti261_t, ti261_z, ti254_t, ti254_z, ti22_t, ti22_z, ti5_t, ti5_z, ti51_t, ti51_z, ti50_t, ti50_z, ren_s8v, ren_shv, Nat.zero_add] at H; try refine wpList_nil ?_
    repeat (first
      | refine wp_seq ?_
      | refine wp_block ?_
      | refine wp_skip ?_
      | refine wp_exit ?_
      | (refine v_more tab_ok hN H (by rfl) (by rfl) (by ((try simp only [pk, elemB, St.put, St.ev, St.tmp, St.keep, find, dropT, slots, AV.put, AV.loc, fitI, convI, IntKind.signed, IntKind.bits, strip, St.lose, mergeL, setAll, nth, renB, ren, idx?, sub, allP, low, bnd, Int.reduceEq, Nat.reduceAdd, Nat.reduceLT, reduceIte, reduceCtorEq, Nat.reduceEqDiff, Nat.reduceLeDiff, Nat.reduceBEq, Int.reducePow, Int.reduceToNat, ti261_t, ti261_z, ti254_t, ti254_z, ti22_t, ti22_z, ti5_t, ti5_z, ti51_t, ti51_z, ti50_t, ti50_z, ren_s8v, ren_shv, Nat.zero_add, ti261, ti254, ti22, ti5, ti51, ti50, fit, gcond, ilo, ihi, s8v, shv, W32, h0]); first | done | exact cd | skip)) ?_; clear H; intro a w H; try simp only [pk, elemB, St.put, St.ev, St.tmp, St.keep, find, dropT, slots, AV.put, AV.loc, fitI, convI, IntKind.signed, IntKind.bits, strip, St.lose, mergeL, setAll, nth, renB, ren, idx?, sub, allP, low, bnd, Int.reduceEq, Nat.reduceAdd, Nat.reduceLT, reduceIte, reduceCtorEq, Nat.reduceEqDiff, Nat.reduceLeDiff, Nat.reduceBEq, Int.reducePow, Int.reduceToNat, ti261_t, ti261_z, ti254_t, ti254_z, ti22_t, ti22_z, ti5_t, ti5_z, ti51_t, ti51_z, ti50_t, ti50_z, ren_s8v, ren_shv, Nat.zero_add] at H; try refine wpList_nil ?_)
      | refine wp_region_lit ?_)
    refine wp_ret ?_
    exact v_end [] [] tab_ok ⟨hN, hR⟩ (rs := [.cell 4 51]) (ress := [_]) rfl H (by rfl) (by rfl) (by simp [pickB, bxs, ren, idx?, sub_refl, sub, allP, ren_s8v, ren_shv, Nat.zero_add] <;> omega) (by first | rfl | (simp [ren_s8v, ren_shv, Nat.zero_add] <;> omega)) (by first | exact trivial | exact ⟨sub_refl _ _, trivial⟩ | exact ⟨sub_refl _ _, sub_refl _ _, trivial⟩ | exact ⟨sub_refl _ _, sub_refl _ _, sub_refl _ _, trivial⟩ | (simp [cargs, cargsG, St.ev, St.tmp, find, ren, idx?, sub_refl, sub, allP, resv, resC, bss, ren_s8v, ren_shv, Nat.zero_add] <;> omega)) rfl
theorem empty_v : VC Try.prog 40 [] [] (.ba (sum [0])) := by
  have hsl := sum_length [0]
  refine v_enter Try.func40 rfl (by kernel_rfl) (by show 0 ≤ 2; decide) ?_
  intro N w0 a w hN hR H
  repeat (first
    | refine wp_seq ?_
    | refine wp_block ?_
    | refine wp_skip ?_
    | refine wp_exit ?_
    | (refine v_more tab_ok hN H (by rfl) (by rfl) (by ((try simp only [pk, elemB, St.put, St.ev, St.tmp, St.keep, find, dropT, slots, AV.put, AV.loc, fitI, convI, IntKind.signed, IntKind.bits, strip, St.lose, mergeL, setAll, nth, renB, ren, idx?, sub, allP, low, bnd, Int.reduceEq, Nat.reduceAdd, Nat.reduceLT, reduceIte, reduceCtorEq, Nat.reduceEqDiff, Nat.reduceLeDiff, Nat.reduceBEq, Int.reducePow, Int.reduceToNat, ti261_t, ti261_z, ti254_t, ti254_z, ti22_t, ti22_z, ti5_t, ti5_z, ti51_t, ti51_z, ti50_t, ti50_z, ren_s8v, ren_shv, Nat.zero_add, ti261, ti254, ti22, ti5, ti51, ti50, fit, gcond, ilo, ihi, s8v, shv, W32, h0]); first | done | exact cd | skip)) ?_; clear H; intro a w H; try simp only [pk, elemB, St.put, St.ev, St.tmp, St.keep, find, dropT, slots, AV.put, AV.loc, fitI, convI, IntKind.signed, IntKind.bits, strip, St.lose, mergeL, setAll, nth, renB, ren, idx?, sub, allP, low, bnd, Int.reduceEq, Nat.reduceAdd, Nat.reduceLT, reduceIte, reduceCtorEq, Nat.reduceEqDiff, Nat.reduceLeDiff, Nat.reduceBEq, Int.reducePow, Int.reduceToNat, ti261_t, ti261_z, ti254_t, ti254_z, ti22_t, ti22_z, ti5_t, ti5_z, ti51_t, ti51_z, ti50_t, ti50_z, ren_s8v, ren_shv, Nat.zero_add] at H; try refine wpList_nil ?_)
    | refine wp_region_lit ?_)
  refine v_call [] [] (of_v 0 [] (by simp) (by simp)) H rfl rfl (by rfl) (by simp [pickB, bxs, ren, idx?, sub_refl, sub, allP, ren_s8v, ren_shv, Nat.zero_add] <;> omega) (by first | rfl | (simp [ren_s8v, ren_shv, Nat.zero_add] <;> omega)) (by first | exact trivial | exact ⟨sub_refl _ _, trivial⟩ | exact ⟨sub_refl _ _, sub_refl _ _, trivial⟩ | exact ⟨sub_refl _ _, sub_refl _ _, sub_refl _ _, trivial⟩ | (simp [cargs, cargsG, St.ev, St.tmp, find, ren, idx?, sub_refl, sub, allP, resv, resC, bss, ren_s8v, ren_shv, Nat.zero_add] <;> omega)) ?_; clear H; intro a w H; simp only [pk, elemB, St.put, St.ev, St.tmp, St.keep, find, dropT, slots, AV.put, AV.loc, fitI, convI, IntKind.signed, IntKind.bits, strip, St.lose, mergeL, setAll, nth, renB, ren, idx?, sub, allP, low, bnd, Int.reduceEq, Nat.reduceAdd, Nat.reduceLT, reduceIte, reduceCtorEq, Nat.reduceEqDiff, Nat.reduceLeDiff, Nat.reduceBEq, Int.reducePow, Int.reduceToNat, ti261_t, ti261_z, ti254_t, ti254_z, ti22_t, ti22_z, ti5_t, ti5_z, ti51_t, ti51_z, ti50_t, ti50_z, ren_s8v, ren_shv, Nat.zero_add] at H; try refine wpList_nil ?_
  repeat (first
    | refine wp_seq ?_
    | refine wp_block ?_
    | refine wp_skip ?_
    | refine wp_exit ?_
    | (refine v_more tab_ok hN H (by rfl) (by rfl) (by ((try simp only [pk, elemB, St.put, St.ev, St.tmp, St.keep, find, dropT, slots, AV.put, AV.loc, fitI, convI, IntKind.signed, IntKind.bits, strip, St.lose, mergeL, setAll, nth, renB, ren, idx?, sub, allP, low, bnd, Int.reduceEq, Nat.reduceAdd, Nat.reduceLT, reduceIte, reduceCtorEq, Nat.reduceEqDiff, Nat.reduceLeDiff, Nat.reduceBEq, Int.reducePow, Int.reduceToNat, ti261_t, ti261_z, ti254_t, ti254_z, ti22_t, ti22_z, ti5_t, ti5_z, ti51_t, ti51_z, ti50_t, ti50_z, ren_s8v, ren_shv, Nat.zero_add, ti261, ti254, ti22, ti5, ti51, ti50, fit, gcond, ilo, ihi, s8v, shv, W32, h0]); first | done | exact cd | skip)) ?_; clear H; intro a w H; try simp only [pk, elemB, St.put, St.ev, St.tmp, St.keep, find, dropT, slots, AV.put, AV.loc, fitI, convI, IntKind.signed, IntKind.bits, strip, St.lose, mergeL, setAll, nth, renB, ren, idx?, sub, allP, low, bnd, Int.reduceEq, Nat.reduceAdd, Nat.reduceLT, reduceIte, reduceCtorEq, Nat.reduceEqDiff, Nat.reduceLeDiff, Nat.reduceBEq, Int.reducePow, Int.reduceToNat, ti261_t, ti261_z, ti254_t, ti254_z, ti22_t, ti22_z, ti5_t, ti5_z, ti51_t, ti51_z, ti50_t, ti50_z, ren_s8v, ren_shv, Nat.zero_add] at H; try refine wpList_nil ?_)
    | refine wp_region_lit ?_)
  refine wp_ret ?_
  exact v_end [] [] tab_ok ⟨hN, hR⟩ (rs := [.cell 0 51]) (ress := [_]) rfl H (by rfl) (by rfl) (by simp [pickB, bxs, ren, idx?, sub_refl, sub, allP, ren_s8v, ren_shv, Nat.zero_add] <;> omega) (by first | rfl | (simp [ren_s8v, ren_shv, Nat.zero_add] <;> omega)) (by first | exact trivial | exact ⟨sub_refl _ _, trivial⟩ | exact ⟨sub_refl _ _, sub_refl _ _, trivial⟩ | exact ⟨sub_refl _ _, sub_refl _ _, sub_refl _ _, trivial⟩ | (simp [cargs, cargsG, St.ev, St.tmp, find, ren, idx?, sub_refl, sub, allP, resv, resC, bss, ren_s8v, ren_shv, Nat.zero_add] <;> omega)) rfl
end Go.Proofs.Ytpeefeioccglcaa
