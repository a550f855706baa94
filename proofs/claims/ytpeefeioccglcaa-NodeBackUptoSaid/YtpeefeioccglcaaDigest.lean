/- Digests: SHA-256 of a text; of a byte and parts. -/
import Derived.Test.YtpeefeioccglcaaSum
set_option linter.unusedSimpArgs false
set_option linter.unusedVariables false
namespace Go.Proofs.Ytpeefeioccglcaa
open Go Go.RowKit
set_option maxRecDepth 20000 in
theorem sum_v (l : List UInt8) (hl : l.length ≤ 34359738000) : VC Try.prog 39 [.bs l none] [] (.ba (sum l)) := by
  have hsl := sum_length l
  refine v_enter Try.func39 rfl (by kernel_rfl) (by show 1 ≤ 10; decide) ?_
  intro N w0 a w hN hR H
  repeat (first
    | refine wp_seq ?_
    | refine wp_block ?_
    | refine wp_skip ?_
    | refine wp_exit ?_
    | (refine v_more tab_ok hN H (by rfl) (by rfl) (by ((try simp only [pk, elemB, St.put, St.ev, St.tmp, St.keep, find, dropT, slots, AV.put, AV.loc, fitI, convI, IntKind.signed, IntKind.bits, strip, St.lose, mergeL, setAll, nth, renB, ren, idx?, sub, allP, low, bnd, Int.reduceEq, Nat.reduceAdd, Nat.reduceLT, reduceIte, reduceCtorEq, Nat.reduceEqDiff, Nat.reduceLeDiff, Nat.reduceBEq, Int.reducePow, Int.reduceToNat, ti261_t, ti261_z, ti254_t, ti254_z, ti22_t, ti22_z, ti5_t, ti5_z, ti51_t, ti51_z, ren_s8v, ren_shv, fit, gcond, ilo, ihi, s8v, shv, W32, h0]); first | done | exact cd | skip)) ?_; clear H; intro a w H; try simp only [pk, elemB, St.put, St.ev, St.tmp, St.keep, find, dropT, slots, AV.put, AV.loc, fitI, convI, IntKind.signed, IntKind.bits, strip, St.lose, mergeL, setAll, nth, renB, ren, idx?, sub, allP, low, bnd, Int.reduceEq, Nat.reduceAdd, Nat.reduceLT, reduceIte, reduceCtorEq, Nat.reduceEqDiff, Nat.reduceLeDiff, Nat.reduceBEq, Int.reducePow, Int.reduceToNat, ti261_t, ti261_z, ti254_t, ti254_z, ti22_t, ti22_z, ti5_t, ti5_z, ti51_t, ti51_z, ren_s8v, ren_shv] at H; try refine wpList_nil ?_)
    | refine wp_region_lit ?_)
  refine v_call [] [] (new_v) H rfl rfl (by rfl) (by simp [pickB, bxs, ren, idx?, sub_refl, sub, allP, ren_s8v, ren_shv] <;> omega) (by first | rfl | (simp [ren_s8v, ren_shv] <;> omega)) (by first | exact trivial | exact ⟨sub_refl _ _, trivial⟩ | exact ⟨sub_refl _ _, sub_refl _ _, trivial⟩ | exact ⟨sub_refl _ _, sub_refl _ _, sub_refl _ _, trivial⟩ | (simp [cargs, cargsG, St.ev, St.tmp, find, ren, idx?, sub_refl, sub, allP, resv, resC, bss, ren_s8v, ren_shv] <;> omega)) ?_; clear H; intro a w H; simp only [pk, elemB, St.put, St.ev, St.tmp, St.keep, find, dropT, slots, AV.put, AV.loc, fitI, convI, IntKind.signed, IntKind.bits, strip, St.lose, mergeL, setAll, nth, renB, ren, idx?, sub, allP, low, bnd, Int.reduceEq, Nat.reduceAdd, Nat.reduceLT, reduceIte, reduceCtorEq, Nat.reduceEqDiff, Nat.reduceLeDiff, Nat.reduceBEq, Int.reducePow, Int.reduceToNat, ti261_t, ti261_z, ti254_t, ti254_z, ti22_t, ti22_z, ti5_t, ti5_z, ti51_t, ti51_z, ren_s8v, ren_shv] at H; try refine wpList_nil ?_
  repeat (first
    | refine wp_seq ?_
    | refine wp_block ?_
    | refine wp_skip ?_
    | refine wp_exit ?_
    | (refine v_more tab_ok hN H (by rfl) (by rfl) (by ((try simp only [pk, elemB, St.put, St.ev, St.tmp, St.keep, find, dropT, slots, AV.put, AV.loc, fitI, convI, IntKind.signed, IntKind.bits, strip, St.lose, mergeL, setAll, nth, renB, ren, idx?, sub, allP, low, bnd, Int.reduceEq, Nat.reduceAdd, Nat.reduceLT, reduceIte, reduceCtorEq, Nat.reduceEqDiff, Nat.reduceLeDiff, Nat.reduceBEq, Int.reducePow, Int.reduceToNat, ti261_t, ti261_z, ti254_t, ti254_z, ti22_t, ti22_z, ti5_t, ti5_z, ti51_t, ti51_z, ren_s8v, ren_shv, fit, gcond, ilo, ihi, s8v, shv, W32, h0]); first | done | exact cd | skip)) ?_; clear H; intro a w H; try simp only [pk, elemB, St.put, St.ev, St.tmp, St.keep, find, dropT, slots, AV.put, AV.loc, fitI, convI, IntKind.signed, IntKind.bits, strip, St.lose, mergeL, setAll, nth, renB, ren, idx?, sub, allP, low, bnd, Int.reduceEq, Nat.reduceAdd, Nat.reduceLT, reduceIte, reduceCtorEq, Nat.reduceEqDiff, Nat.reduceLeDiff, Nat.reduceBEq, Int.reducePow, Int.reduceToNat, ti261_t, ti261_z, ti254_t, ti254_z, ti22_t, ti22_z, ti5_t, ti5_z, ti51_t, ti51_z, ren_s8v, ren_shv] at H; try refine wpList_nil ?_)
    | refine wp_region_lit ?_)
  obtain ⟨s1, b1, n1, h1, hw1⟩ := write_g [] l h0 (List.replicate 64 0) 0 good_nil (by omega) 0 (by decide)
  refine v_call [1] [] (hw1) H rfl rfl (by rfl) (by simp [pickB, bxs, ren, idx?, sub_refl, sub, allP, ren_s8v, ren_shv] <;> omega) (by first | rfl | (simp [ren_s8v, ren_shv] <;> omega)) (by first | exact trivial | exact ⟨sub_refl _ _, trivial⟩ | exact ⟨sub_refl _ _, sub_refl _ _, trivial⟩ | exact ⟨sub_refl _ _, sub_refl _ _, sub_refl _ _, trivial⟩ | (simp [cargs, cargsG, St.ev, St.tmp, find, ren, idx?, sub_refl, sub, allP, resv, resC, bss, ren_s8v, ren_shv] <;> omega)) ?_; clear H; intro a w H; simp only [pk, elemB, St.put, St.ev, St.tmp, St.keep, find, dropT, slots, AV.put, AV.loc, fitI, convI, IntKind.signed, IntKind.bits, strip, St.lose, mergeL, setAll, nth, renB, ren, idx?, sub, allP, low, bnd, Int.reduceEq, Nat.reduceAdd, Nat.reduceLT, reduceIte, reduceCtorEq, Nat.reduceEqDiff, Nat.reduceLeDiff, Nat.reduceBEq, Int.reducePow, Int.reduceToNat, ti261_t, ti261_z, ti254_t, ti254_z, ti22_t, ti22_z, ti5_t, ti5_z, ti51_t, ti51_z, ren_s8v, ren_shv] at H; try refine wpList_nil ?_
  repeat (first
    | refine wp_seq ?_
    | refine wp_block ?_
    | refine wp_skip ?_
    | refine wp_exit ?_
    | (refine v_more tab_ok hN H (by rfl) (by rfl) (by ((try simp only [pk, elemB, St.put, St.ev, St.tmp, St.keep, find, dropT, slots, AV.put, AV.loc, fitI, convI, IntKind.signed, IntKind.bits, strip, St.lose, mergeL, setAll, nth, renB, ren, idx?, sub, allP, low, bnd, Int.reduceEq, Nat.reduceAdd, Nat.reduceLT, reduceIte, reduceCtorEq, Nat.reduceEqDiff, Nat.reduceLeDiff, Nat.reduceBEq, Int.reducePow, Int.reduceToNat, ti261_t, ti261_z, ti254_t, ti254_z, ti22_t, ti22_z, ti5_t, ti5_z, ti51_t, ti51_z, ren_s8v, ren_shv, fit, gcond, ilo, ihi, s8v, shv, W32, h0]); first | done | exact cd | skip)) ?_; clear H; intro a w H; try simp only [pk, elemB, St.put, St.ev, St.tmp, St.keep, find, dropT, slots, AV.put, AV.loc, fitI, convI, IntKind.signed, IntKind.bits, strip, St.lose, mergeL, setAll, nth, renB, ren, idx?, sub, allP, low, bnd, Int.reduceEq, Nat.reduceAdd, Nat.reduceLT, reduceIte, reduceCtorEq, Nat.reduceEqDiff, Nat.reduceLeDiff, Nat.reduceBEq, Int.reducePow, Int.reduceToNat, ti261_t, ti261_z, ti254_t, ti254_z, ti22_t, ti22_z, ti5_t, ti5_z, ti51_t, ti51_z, ren_s8v, ren_shv] at H; try refine wpList_nil ?_)
    | refine wp_region_lit ?_)
  rw [List.nil_append] at h1
  refine v_call [1] [] (sumS_v l s1 b1 n1 h1 hl) H rfl rfl (by rfl) (by simp [pickB, bxs, ren, idx?, sub_refl, sub, allP, ren_s8v, ren_shv, Nat.zero_add] <;> omega) (by first | rfl | (simp [ren_s8v, ren_shv, Nat.zero_add] <;> omega)) (by first | exact trivial | exact ⟨sub_refl _ _, trivial⟩ | exact ⟨sub_refl _ _, sub_refl _ _, trivial⟩ | exact ⟨sub_refl _ _, sub_refl _ _, sub_refl _ _, trivial⟩ | (simp [cargs, cargsG, St.ev, St.tmp, find, ren, idx?, sub_refl, sub, allP, resv, resC, bss, ren_s8v, ren_shv, Nat.zero_add] <;> omega)) ?_; clear H; intro a w H; simp only [pk, elemB, St.put, St.ev, St.tmp, St.keep, find, dropT, slots, AV.put, AV.loc, fitI, convI, IntKind.signed, IntKind.bits, strip, St.lose, mergeL, setAll, nth, renB, ren, idx?, sub, allP, low, bnd, Int.reduceEq, Nat.reduceAdd, Nat.reduceLT, reduceIte, reduceCtorEq, Nat.reduceEqDiff, Nat.reduceLeDiff, Nat.reduceBEq, Int.reducePow, Int.reduceToNat, ti261_t, ti261_z, ti254_t, ti254_z, ti22_t, ti22_z, ti5_t, ti5_z, ti51_t, ti51_z, ren_s8v, ren_shv, Nat.zero_add] at H; try refine wpList_nil ?_
  repeat (first
    | refine wp_seq ?_
    | refine wp_block ?_
    | refine wp_skip ?_
    | refine wp_exit ?_
    | (refine v_more tab_ok hN H (by rfl) (by rfl) (by ((try simp only [pk, elemB, St.put, St.ev, St.tmp, St.keep, find, dropT, slots, AV.put, AV.loc, fitI, convI, IntKind.signed, IntKind.bits, strip, St.lose, mergeL, setAll, nth, renB, ren, idx?, sub, allP, low, bnd, Int.reduceEq, Nat.reduceAdd, Nat.reduceLT, reduceIte, reduceCtorEq, Nat.reduceEqDiff, Nat.reduceLeDiff, Nat.reduceBEq, Int.reducePow, Int.reduceToNat, ti261_t, ti261_z, ti254_t, ti254_z, ti22_t, ti22_z, ti5_t, ti5_z, ti51_t, ti51_z, ren_s8v, ren_shv, Nat.zero_add, fit, gcond, ilo, ihi, s8v, shv, W32, h0]); first | done | exact cd | skip)) ?_; clear H; intro a w H; try simp only [pk, elemB, St.put, St.ev, St.tmp, St.keep, find, dropT, slots, AV.put, AV.loc, fitI, convI, IntKind.signed, IntKind.bits, strip, St.lose, mergeL, setAll, nth, renB, ren, idx?, sub, allP, low, bnd, Int.reduceEq, Nat.reduceAdd, Nat.reduceLT, reduceIte, reduceCtorEq, Nat.reduceEqDiff, Nat.reduceLeDiff, Nat.reduceBEq, Int.reducePow, Int.reduceToNat, ti261_t, ti261_z, ti254_t, ti254_z, ti22_t, ti22_z, ti5_t, ti5_z, ti51_t, ti51_z, ren_s8v, ren_shv, Nat.zero_add] at H; try refine wpList_nil ?_)
    | refine wp_region_lit ?_)
  refine wp_ret ?_
  exact v_end [] [] tab_ok ⟨hN, hR⟩ (rs := [.cell 2 51]) (ress := [_]) rfl H (by rfl) (by rfl) (by simp [pickB, bxs, ren, idx?, sub_refl, sub, allP, ren_s8v, ren_shv, Nat.zero_add] <;> omega) (by first | rfl | (simp [ren_s8v, ren_shv, Nat.zero_add] <;> omega)) (by first | exact trivial | exact ⟨sub_refl _ _, trivial⟩ | exact ⟨sub_refl _ _, sub_refl _ _, trivial⟩ | exact ⟨sub_refl _ _, sub_refl _ _, sub_refl _ _, trivial⟩ | (simp [cargs, cargsG, St.ev, St.tmp, find, ren, idx?, sub_refl, sub, allP, resv, resC, bss, ren_s8v, ren_shv, Nat.zero_add] <;> omega)) rfl
end Go.Proofs.Ytpeefeioccglcaa
