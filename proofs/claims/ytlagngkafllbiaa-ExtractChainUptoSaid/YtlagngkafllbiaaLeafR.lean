/- Digests of the empty place, of leaves, of inner nodes: the document's. -/
import Derived.Test.YtlagngkafllbiaaLeaf
set_option linter.unusedSimpArgs false
set_option linter.unusedVariables false
namespace Go.Proofs.Ytlagngkafllbiaa
open Go Go.RowKit
/-- The state made plain. -/
theorem nf_LeafR {P : Program} {w0 w : World} {N : Gh} {nt : Nat} {st s2 : St} {a : Act} (H : Rel P w0 N nt st a w) (h : st = s2 := by (try simp only [pk, elemB, St.put, St.ev, St.tmp, St.keep, find, dropT, slots, AV.put, AV.loc, fitI, convI, IntKind.signed, IntKind.bits, strip, St.lose, mergeL, setAll, nth, renB, ren, idx?, sub, allP, low, bnd, Int.reduceEq, Nat.reduceAdd, Nat.reduceLT, reduceIte, reduceCtorEq, Nat.reduceEqDiff, Nat.reduceLeDiff, Nat.reduceBEq, Int.reducePow, Int.reduceToNat, ti24_t, ti24_z, ti5_t, ti5_z, ti26_t, ti26_z, ti22_t, ti22_z]); rfl) : Rel P w0 N nt s2 a w := h ▸ H
theorem nt_LeafR {P : Program} {w0 w : World} {N gS : Gh} {nt : Nat} {q q2 st s2 : St} {a : Act} (H : RelT P w0 N nt gS q st a w) (h1 : q = q2 := by (try simp only [pk, elemB, St.put, St.ev, St.tmp, St.keep, find, dropT, slots, AV.put, AV.loc, fitI, convI, IntKind.signed, IntKind.bits, strip, St.lose, mergeL, setAll, nth, renB, ren, idx?, sub, allP, low, bnd, Int.reduceEq, Nat.reduceAdd, Nat.reduceLT, reduceIte, reduceCtorEq, Nat.reduceEqDiff, Nat.reduceLeDiff, Nat.reduceBEq, Int.reducePow, Int.reduceToNat, ti24_t, ti24_z, ti5_t, ti5_z, ti26_t, ti26_z, ti22_t, ti22_z]); rfl) (h : st = s2 := by (try simp only [pk, elemB, St.put, St.ev, St.tmp, St.keep, find, dropT, slots, AV.put, AV.loc, fitI, convI, IntKind.signed, IntKind.bits, strip, St.lose, mergeL, setAll, nth, renB, ren, idx?, sub, allP, low, bnd, Int.reduceEq, Nat.reduceAdd, Nat.reduceLT, reduceIte, reduceCtorEq, Nat.reduceEqDiff, Nat.reduceLeDiff, Nat.reduceBEq, Int.reducePow, Int.reduceToNat, ti24_t, ti24_z, ti5_t, ti5_z, ti26_t, ti26_z, ti22_t, ti22_z]); rfl) : RelT P w0 N nt gS q2 s2 a w := h1 ▸ h ▸ H
theorem ct_LeafR {c : Prop} (h : c := by ((try simp only [pk, elemB, St.put, St.ev, St.tmp, St.keep, find, dropT, slots, AV.put, AV.loc, fitI, convI, IntKind.signed, IntKind.bits, strip, St.lose, mergeL, setAll, nth, renB, ren, idx?, sub, allP, low, bnd, Int.reduceEq, Nat.reduceAdd, Nat.reduceLT, reduceIte, reduceCtorEq, Nat.reduceEqDiff, Nat.reduceLeDiff, Nat.reduceBEq, Int.reducePow, Int.reduceToNat, ti24_t, ti24_z, ti5_t, ti5_z, ti26_t, ti26_z, ti22_t, ti22_z, ti24, ti5, ti26, ti22, fit, gcond, ilo, ihi]); first | done | exact cd | exact cd2 | skip)) : c := h
theorem ofHR_v (t : UInt8) (ls : List (List UInt8)) (hb : ls.flatten.length ≤ 34359737000) (hl : ls.length ≤ 34359737000) : VC Try.prog 69 [.v (B8 t), .sl .sc (bss ls) none] [] (.ba (sum (t :: ls.flatten))) := by
  have h1 := textR_v t ls (by omega) (by omega)
  have h2 := sumR_v (t :: ls.flatten) (by simp only [List.length_cons]; omega)
  have hsl := sum_length (t :: ls.flatten)
  refine v_enter Try.func69 rfl (by kernel_rfl) (by show 2 ≤ 9; decide) ?_
  intro N w0 a w hN hR H
  repeat (first | refine wp_seq ?_ | refine wp_block ?_ | refine wp_skip ?_ | refine wp_exit ?_ | ((first | refine v_some 5 tab_ok hN H (by rfl) ct_LeafR ?_ | refine v_more tab_ok hN H (by rfl) (by rfl) ct_LeafR ?_); clear H; intro a w H; replace H := nf_LeafR H; (try simp only [List.drop_succ_cons, List.drop_zero, List.drop_nil]); try refine wpList_nil ?_) | refine wp_region_lit ?_)
  refine v_call [] [] (h1) H rfl rfl (by rfl) cb cw ca ?_; clear H; intro a w H; replace H := nf_LeafR H; try refine wpList_nil ?_
  repeat (first | refine wp_seq ?_ | refine wp_block ?_ | refine wp_skip ?_ | refine wp_exit ?_ | ((first | refine v_some 5 tab_ok hN H (by rfl) ct_LeafR ?_ | refine v_more tab_ok hN H (by rfl) (by rfl) ct_LeafR ?_); clear H; intro a w H; replace H := nf_LeafR H; (try simp only [List.drop_succ_cons, List.drop_zero, List.drop_nil]); try refine wpList_nil ?_) | refine wp_region_lit ?_)
  refine v_call [] [] (h2) H rfl rfl (by rfl) cb cw ca ?_; clear H; intro a w H; replace H := nf_LeafR H; try refine wpList_nil ?_
  repeat (first | refine wp_seq ?_ | refine wp_block ?_ | refine wp_skip ?_ | refine wp_exit ?_ | ((first | refine v_some 5 tab_ok hN H (by rfl) ct_LeafR ?_ | refine v_more tab_ok hN H (by rfl) (by rfl) ct_LeafR ?_); clear H; intro a w H; replace H := nf_LeafR H; (try simp only [List.drop_succ_cons, List.drop_zero, List.drop_nil]); try refine wpList_nil ?_) | refine wp_region_lit ?_)
  refine wp_ret ?_
  exact v_end [] [] tab_ok ⟨hN, hR⟩ (rs := [.cell 4 22]) (ress := [_]) rfl H (by rfl) (by rfl) cb cw ca rfl
theorem emptyR_v : VC Try.prog 88 [] [] (.ba (sum [0])) := by
  have hsl := sum_length [0]
  refine v_enter Try.func88 rfl (by kernel_rfl) (by show 0 ≤ 2; decide) ?_
  intro N w0 a w hN hR H
  repeat (first | refine wp_seq ?_ | refine wp_block ?_ | refine wp_skip ?_ | refine wp_exit ?_ | ((first | refine v_some 5 tab_ok hN H (by rfl) ct_LeafR ?_ | refine v_more tab_ok hN H (by rfl) (by rfl) ct_LeafR ?_); clear H; intro a w H; replace H := nf_LeafR H; (try simp only [List.drop_succ_cons, List.drop_zero, List.drop_nil]); try refine wpList_nil ?_) | refine wp_region_lit ?_)
  refine v_call [] [] (ofHR_v 0 [] (by simp) (by simp)) H rfl rfl (by rfl) cb cw ca ?_; clear H; intro a w H; replace H := nf_LeafR H; try refine wpList_nil ?_
  repeat (first | refine wp_seq ?_ | refine wp_block ?_ | refine wp_skip ?_ | refine wp_exit ?_ | ((first | refine v_some 5 tab_ok hN H (by rfl) ct_LeafR ?_ | refine v_more tab_ok hN H (by rfl) (by rfl) ct_LeafR ?_); clear H; intro a w H; replace H := nf_LeafR H; (try simp only [List.drop_succ_cons, List.drop_zero, List.drop_nil]); try refine wpList_nil ?_) | refine wp_region_lit ?_)
  refine wp_ret ?_
  exact v_end [] [] tab_ok ⟨hN, hR⟩ (rs := [.cell 0 22]) (ress := [_]) rfl H (by rfl) (by rfl) cb cw ca rfl
theorem innerHR_v (k v : List UInt8) (hk : k.length = 32) (hv : v.length = 32) : VC Try.prog 65 [.ba k, .ba v] [] (.ba (innerH k v)) := by
  have h1 := innerR_v k v hk hv
  have h2 := sumR_v (2 :: (k ++ v)) (by simp; omega)
  have hsl := sum_length (2 :: (k ++ v))
  unfold innerH
  refine v_enter Try.func65 rfl (by kernel_rfl) (by show 2 ≤ 9; decide) ?_
  intro N w0 a w hN hR H
  repeat (first | refine wp_seq ?_ | refine wp_block ?_ | refine wp_skip ?_ | refine wp_exit ?_ | ((first | refine v_some 5 tab_ok hN H (by rfl) ct_LeafR ?_ | refine v_more tab_ok hN H (by rfl) (by rfl) ct_LeafR ?_); clear H; intro a w H; replace H := nf_LeafR H; (try simp only [List.drop_succ_cons, List.drop_zero, List.drop_nil]); try refine wpList_nil ?_) | refine wp_region_lit ?_)
  refine v_call [] [] (h1) H rfl rfl (by rfl) cb cw ca ?_; clear H; intro a w H; replace H := nf_LeafR H; try refine wpList_nil ?_
  repeat (first | refine wp_seq ?_ | refine wp_block ?_ | refine wp_skip ?_ | refine wp_exit ?_ | ((first | refine v_some 5 tab_ok hN H (by rfl) ct_LeafR ?_ | refine v_more tab_ok hN H (by rfl) (by rfl) ct_LeafR ?_); clear H; intro a w H; replace H := nf_LeafR H; (try simp only [List.drop_succ_cons, List.drop_zero, List.drop_nil]); try refine wpList_nil ?_) | refine wp_region_lit ?_)
  refine v_call [] [] (h2) H rfl rfl (by rfl) cb cw ca ?_; clear H; intro a w H; replace H := nf_LeafR H; try refine wpList_nil ?_
  repeat (first | refine wp_seq ?_ | refine wp_block ?_ | refine wp_skip ?_ | refine wp_exit ?_ | ((first | refine v_some 5 tab_ok hN H (by rfl) ct_LeafR ?_ | refine v_more tab_ok hN H (by rfl) (by rfl) ct_LeafR ?_); clear H; intro a w H; replace H := nf_LeafR H; (try simp only [List.drop_succ_cons, List.drop_zero, List.drop_nil]); try refine wpList_nil ?_) | refine wp_region_lit ?_)
  refine wp_ret ?_
  exact v_end [] [] tab_ok ⟨hN, hR⟩ (rs := [.cell 4 22]) (ress := [_]) rfl H (by rfl) (by rfl) cb cw ca rfl
end Go.Proofs.Ytlagngkafllbiaa
