/- The program's SHA-256 of a text. -/
import Derived.Test.YtpeefeioccglcaaPut
import Derived.Laws.BitsAllLaws
set_option linter.unusedSimpArgs false
set_option linter.unusedVariables false
namespace Go.Proofs.Ytpeefeioccglcaa
open Go Go.RowKit
def outK (s : S8) : Nat → List UInt8
  | 0 => List.replicate 32 0
  | k + 1 => (outK s k).take (4 * k) ++ (be4n (s.l.getD k 0).toNat).take (32 - 4 * k) ++ (outK s k).drop (4 * k + ((be4n (s.l.getD k 0).toNat).take (32 - 4 * k)).length)
theorem outK_end (s : S8) : outK s 8 = out s := by
  simp [outK, be4n, out, be4, S8.l, List.replicate]
theorem n32lt (y : BitVec 32) : y.toNat < 4294967296 := y.isLt
theorem be8 (v : Nat) (hv : v < 18446744073709551616) : be v 8 = be4n (v / 4294967296) ++ be4n (v % 4294967296) := by
  simp only [be, be4n, List.cons_append, List.nil_append]
  have h1 : ∀ a b : Nat, a % 256 = b % 256 → UInt8.ofNat a = UInt8.ofNat b := fun a b h => UInt8.toNat_inj.1 (by simpa using h)
  have e7 : UInt8.ofNat (v / 256 ^ 7) = UInt8.ofNat (v / 4294967296 / 16777216) := h1 _ _ (by first | rfl | (simp only [Nat.reducePow]; omega))
  have e6 : UInt8.ofNat (v / 256 ^ 6) = UInt8.ofNat (v / 4294967296 / 65536) := h1 _ _ (by first | rfl | (simp only [Nat.reducePow]; omega))
  have e5 : UInt8.ofNat (v / 256 ^ 5) = UInt8.ofNat (v / 4294967296 / 256) := h1 _ _ (by first | rfl | (simp only [Nat.reducePow]; omega))
  have e4 : UInt8.ofNat (v / 256 ^ 4) = UInt8.ofNat (v / 4294967296) := h1 _ _ (by first | rfl | (simp only [Nat.reducePow]; omega))
  have e3 : UInt8.ofNat (v / 256 ^ 3) = UInt8.ofNat (v % 4294967296 / 16777216) := h1 _ _ (by first | rfl | (simp only [Nat.reducePow]; omega))
  have e2 : UInt8.ofNat (v / 256 ^ 2) = UInt8.ofNat (v % 4294967296 / 65536) := h1 _ _ (by first | rfl | (simp only [Nat.reducePow]; omega))
  have e1 : UInt8.ofNat (v / 256 ^ 1) = UInt8.ofNat (v % 4294967296 / 256) := h1 _ _ (by first | rfl | (simp only [Nat.reducePow]; omega))
  have e0 : UInt8.ofNat (v / 256 ^ 0) = UInt8.ofNat (v % 4294967296) := h1 _ _ (by first | rfl | (simp only [Nat.reducePow]; omega))
  rw [e7, e6, e5, e4, e3, e2, e1, e0]
set_option maxRecDepth 20000 in
theorem sumS_v (l : List UInt8) (s : S8) (b : List UInt8) (n : Nat) (h : Good l s b n) (hl : l.length ≤ 34359738000) :
    VX Try.prog 105 [(ti261.ty, shv s b n l.length)] [] [] [.ptr 0 []] [(ti261.ty, shv s b n l.length)] [] [] (.ba (sum l)) := by
  have hbl := h.bl
  refine v_enter Try.func105 rfl (by kernel_rfl) (by show 1 ≤ 68; decide) ?_
  intro N w0 a w hN hR H
  repeat (first
    | refine wp_seq ?_
    | refine wp_block ?_
    | refine wp_skip ?_
    | refine wp_exit ?_
    | (refine v_more tab_ok hN H (by rfl) (by rfl) (by ((try simp only [pk, elemB, St.put, St.ev, St.tmp, St.keep, find, dropT, slots, AV.put, AV.loc, fitI, convI, IntKind.signed, IntKind.bits, strip, St.lose, mergeL, setAll, nth, renB, ren, idx?, sub, allP, low, bnd, Int.reduceEq, Nat.reduceAdd, Nat.reduceLT, reduceIte, reduceCtorEq, Nat.reduceEqDiff, Nat.reduceLeDiff, Nat.reduceBEq, Int.reducePow, Int.reduceToNat, ti261_t, ti261_z, ti254_t, ti254_z, ti22_t, ti22_z, ti5_t, ti5_z, ti51_t, ti51_z, ren_s8v, ren_shv, shv, ti261, ti254, ti22, ti5, ti51, fit, gcond, ilo, ihi, s8v, shv, W32, h0]); first | done | exact cd | skip)) ?_; clear H; intro a w H; try simp only [pk, elemB, St.put, St.ev, St.tmp, St.keep, find, dropT, slots, AV.put, AV.loc, fitI, convI, IntKind.signed, IntKind.bits, strip, St.lose, mergeL, setAll, nth, renB, ren, idx?, sub, allP, low, bnd, Int.reduceEq, Nat.reduceAdd, Nat.reduceLT, reduceIte, reduceCtorEq, Nat.reduceEqDiff, Nat.reduceLeDiff, Nat.reduceBEq, Int.reducePow, Int.reduceToNat, ti261_t, ti261_z, ti254_t, ti254_z, ti22_t, ti22_z, ti5_t, ti5_z, ti51_t, ti51_z, ren_s8v, ren_shv, shv] at H; try refine wpList_nil ?_)
    | refine wp_region_lit ?_)
  refine v_call [0] [] (none_v s b n l.length) H rfl rfl (by rfl) (by simp [pickB, bxs, ren, idx?, sub_refl, sub, allP, ren_s8v, ren_shv, shv] <;> omega) (by first | rfl | (simp [ren_s8v, ren_shv, shv] <;> omega)) (by first | exact trivial | exact ⟨sub_refl _ _, trivial⟩ | exact ⟨sub_refl _ _, sub_refl _ _, trivial⟩ | exact ⟨sub_refl _ _, sub_refl _ _, sub_refl _ _, trivial⟩ | (simp [cargs, cargsG, St.ev, St.tmp, find, ren, idx?, sub_refl, sub, allP, resv, resC, bss, ren_s8v, ren_shv, shv] <;> omega)) ?_; clear H; intro a w H; simp only [pk, elemB, St.put, St.ev, St.tmp, St.keep, find, dropT, slots, AV.put, AV.loc, fitI, convI, IntKind.signed, IntKind.bits, strip, St.lose, mergeL, setAll, nth, renB, ren, idx?, sub, allP, low, bnd, Int.reduceEq, Nat.reduceAdd, Nat.reduceLT, reduceIte, reduceCtorEq, Nat.reduceEqDiff, Nat.reduceLeDiff, Nat.reduceBEq, Int.reducePow, Int.reduceToNat, ti261_t, ti261_z, ti254_t, ti254_z, ti22_t, ti22_z, ti5_t, ti5_z, ti51_t, ti51_z, ren_s8v, ren_shv, shv] at H; try refine wpList_nil ?_
  refine v_cond H (by rfl) (fun hb => ?_) (fun hb => ?_)
  · cases hb
  repeat (first
    | refine wp_seq ?_
    | refine wp_block ?_
    | refine wp_skip ?_
    | refine wp_exit ?_
    | (refine v_more tab_ok hN H (by rfl) (by rfl) (by ((try simp only [pk, elemB, St.put, St.ev, St.tmp, St.keep, find, dropT, slots, AV.put, AV.loc, fitI, convI, IntKind.signed, IntKind.bits, strip, St.lose, mergeL, setAll, nth, renB, ren, idx?, sub, allP, low, bnd, Int.reduceEq, Nat.reduceAdd, Nat.reduceLT, reduceIte, reduceCtorEq, Nat.reduceEqDiff, Nat.reduceLeDiff, Nat.reduceBEq, Int.reducePow, Int.reduceToNat, ti261_t, ti261_z, ti254_t, ti254_z, ti22_t, ti22_z, ti5_t, ti5_z, ti51_t, ti51_z, ren_s8v, ren_shv, shv, ti261, ti254, ti22, ti5, ti51, fit, gcond, ilo, ihi, s8v, shv, W32, h0]); first | done | exact cd | skip)) ?_; clear H; intro a w H; try simp only [pk, elemB, St.put, St.ev, St.tmp, St.keep, find, dropT, slots, AV.put, AV.loc, fitI, convI, IntKind.signed, IntKind.bits, strip, St.lose, mergeL, setAll, nth, renB, ren, idx?, sub, allP, low, bnd, Int.reduceEq, Nat.reduceAdd, Nat.reduceLT, reduceIte, reduceCtorEq, Nat.reduceEqDiff, Nat.reduceLeDiff, Nat.reduceBEq, Int.reducePow, Int.reduceToNat, ti261_t, ti261_z, ti254_t, ti254_z, ti22_t, ti22_z, ti5_t, ti5_z, ti51_t, ti51_z, ren_s8v, ren_shv, shv] at H; try refine wpList_nil ?_)
    | refine wp_region_lit ?_)
  obtain ⟨s1, b1, n1, h1, hw1⟩ := write_g l [128] s b n h (by decide) l.length (by omega)
  refine v_call [2] [] (hw1) H rfl rfl (by rfl) (by simp [pickB, bxs, ren, idx?, sub_refl, sub, allP, ren_s8v, ren_shv, shv] <;> omega) (by first | rfl | (simp [ren_s8v, ren_shv, shv] <;> omega)) (by first | exact trivial | exact ⟨sub_refl _ _, trivial⟩ | exact ⟨sub_refl _ _, sub_refl _ _, trivial⟩ | exact ⟨sub_refl _ _, sub_refl _ _, sub_refl _ _, trivial⟩ | (simp [cargs, cargsG, St.ev, St.tmp, find, ren, idx?, sub_refl, sub, allP, resv, resC, bss, ren_s8v, ren_shv, shv] <;> omega)) ?_; clear H; intro a w H; simp only [pk, elemB, St.put, St.ev, St.tmp, St.keep, find, dropT, slots, AV.put, AV.loc, fitI, convI, IntKind.signed, IntKind.bits, strip, St.lose, mergeL, setAll, nth, renB, ren, idx?, sub, allP, low, bnd, Int.reduceEq, Nat.reduceAdd, Nat.reduceLT, reduceIte, reduceCtorEq, Nat.reduceEqDiff, Nat.reduceLeDiff, Nat.reduceBEq, Int.reducePow, Int.reduceToNat, ti261_t, ti261_z, ti254_t, ti254_z, ti22_t, ti22_z, ti5_t, ti5_z, ti51_t, ti51_z, ren_s8v, ren_shv, shv] at H; try refine wpList_nil ?_
  repeat (first
    | refine wp_seq ?_
    | refine wp_block ?_
    | refine wp_skip ?_
    | refine wp_exit ?_
    | (refine v_more tab_ok hN H (by rfl) (by rfl) (by ((try simp only [pk, elemB, St.put, St.ev, St.tmp, St.keep, find, dropT, slots, AV.put, AV.loc, fitI, convI, IntKind.signed, IntKind.bits, strip, St.lose, mergeL, setAll, nth, renB, ren, idx?, sub, allP, low, bnd, Int.reduceEq, Nat.reduceAdd, Nat.reduceLT, reduceIte, reduceCtorEq, Nat.reduceEqDiff, Nat.reduceLeDiff, Nat.reduceBEq, Int.reducePow, Int.reduceToNat, ti261_t, ti261_z, ti254_t, ti254_z, ti22_t, ti22_z, ti5_t, ti5_z, ti51_t, ti51_z, ren_s8v, ren_shv, shv, ti261, ti254, ti22, ti5, ti51, fit, gcond, ilo, ihi, s8v, shv, W32, h0]); first | done | exact cd | skip)) ?_; clear H; intro a w H; try simp only [pk, elemB, St.put, St.ev, St.tmp, St.keep, find, dropT, slots, AV.put, AV.loc, fitI, convI, IntKind.signed, IntKind.bits, strip, St.lose, mergeL, setAll, nth, renB, ren, idx?, sub, allP, low, bnd, Int.reduceEq, Nat.reduceAdd, Nat.reduceLT, reduceIte, reduceCtorEq, Nat.reduceEqDiff, Nat.reduceLeDiff, Nat.reduceBEq, Int.reducePow, Int.reduceToNat, ti261_t, ti261_z, ti254_t, ti254_z, ti22_t, ti22_z, ti5_t, ti5_z, ti51_t, ti51_z, ren_s8v, ren_shv, shv] at H; try refine wpList_nil ?_)
    | refine wp_region_lit ?_)
  have e4 : (l.length : Int) * 8 % 18446744073709551616 = ((l.length * 8 : Nat) : Int) := by omega
  rw [e4] at H
  refine v_loop (fun i : S8 × List UInt8 × Nat × Nat => ⟨[(0, none, .ptr 0 []), (2, none, .ptr 1 []), (3, none, .ptr 2 []), (4, none, .v (.int .u64 ((l.length * 8 : Nat) : Int)))], [(ti261.ty, .st [.v (.bool true), s8v s, .ba b, .v (.int .i64 (n : Int)), .v (.int .i64 (l.length : Int))]), (.ba 32, .ba (List.replicate 32 0)), (ti261.ty, .st [.v (.bool true), s8v i.1, .ba i.2.1, .v (.int .i64 (i.2.2.1 : Int)), .v (.int .i64 ((l.length + 1 + i.2.2.2 : Nat) : Int))])], [], []⟩)
    (fun i => Good (l ++ [128] ++ List.replicate i.2.2.2 0) i.1 i.2.1 i.2.2.1 ∧ i.2.2.2 ≤ padN l.length) (fun i => padN l.length - i.2.2.2) (s1, b1, n1, 0) ⟨by simpa using h1, Nat.zero_le _⟩
    (H.to 3 0 ⟨Nat.le_trans hN (by show 1 ≤ 3; decide), hR⟩ ⟨rfl, rfl, rfl, rfl, trivial⟩ rfl rfl rfl rfl rfl) ?_
  clear H
  rintro ⟨s2, b2, n2, z⟩ a w ⟨h2, hz⟩ H
  dsimp only at h2 hz
  have hn2 := h2.nn
  have hlen2 : (l ++ [128] ++ List.replicate z 0).length = l.length + 1 + z := by simp; omega
  rw [hlen2] at hn2
  have hpd : padN l.length < 64 ∧ (l.length + 1 + padN l.length) % 64 = 56 := by unfold padN; omega
  have hbl2 := h2.bl
  repeat (first
    | refine wp_seq ?_
    | refine wp_block ?_
    | refine wp_skip ?_
    | refine wp_exit ?_
    | (refine v_more tab_ok hN H (by rfl) (by rfl) (by ((try simp only [pk, elemB, St.put, St.ev, St.tmp, St.keep, find, dropT, slots, AV.put, AV.loc, fitI, convI, IntKind.signed, IntKind.bits, strip, St.lose, mergeL, setAll, nth, renB, ren, idx?, sub, allP, low, bnd, Int.reduceEq, Nat.reduceAdd, Nat.reduceLT, reduceIte, reduceCtorEq, Nat.reduceEqDiff, Nat.reduceLeDiff, Nat.reduceBEq, Int.reducePow, Int.reduceToNat, ti261_t, ti261_z, ti254_t, ti254_z, ti22_t, ti22_z, ti5_t, ti5_z, ti51_t, ti51_z, ren_s8v, ren_shv, shv, ti261, ti254, ti22, ti5, ti51, fit, gcond, ilo, ihi, s8v, shv, W32, h0]); first | done | exact cd | skip)) ?_; clear H; intro a w H; try simp only [pk, elemB, St.put, St.ev, St.tmp, St.keep, find, dropT, slots, AV.put, AV.loc, fitI, convI, IntKind.signed, IntKind.bits, strip, St.lose, mergeL, setAll, nth, renB, ren, idx?, sub, allP, low, bnd, Int.reduceEq, Nat.reduceAdd, Nat.reduceLT, reduceIte, reduceCtorEq, Nat.reduceEqDiff, Nat.reduceLeDiff, Nat.reduceBEq, Int.reducePow, Int.reduceToNat, ti261_t, ti261_z, ti254_t, ti254_z, ti22_t, ti22_z, ti5_t, ti5_z, ti51_t, ti51_z, ren_s8v, ren_shv, shv] at H; try refine wpList_nil ?_)
    | refine wp_region_lit ?_)
  refine v_cond H (by rfl) (fun hb => ?_) (fun hb => ?_)
  · have hne : n2 ≠ 56 := fun e => by simp [e] at hb
    have hz1 : z + 1 ≤ padN l.length := by
      rcases Nat.lt_or_ge z (padN l.length) with h5 | h5
      · omega
      · have : z = padN l.length := by omega
        subst this; omega
    obtain ⟨s3, b3, n3, h3, hw3⟩ := write_g _ [0] s2 b2 n2 h2 (by decide) (l.length + 1 + z) (by omega)
    repeat (first
      | refine wp_seq ?_
      | refine wp_block ?_
      | refine wp_skip ?_
      | refine wp_exit ?_
      | (refine v_more tab_ok hN H (by rfl) (by rfl) (by ((try simp only [pk, elemB, St.put, St.ev, St.tmp, St.keep, find, dropT, slots, AV.put, AV.loc, fitI, convI, IntKind.signed, IntKind.bits, strip, St.lose, mergeL, setAll, nth, renB, ren, idx?, sub, allP, low, bnd, Int.reduceEq, Nat.reduceAdd, Nat.reduceLT, reduceIte, reduceCtorEq, Nat.reduceEqDiff, Nat.reduceLeDiff, Nat.reduceBEq, Int.reducePow, Int.reduceToNat, ti261_t, ti261_z, ti254_t, ti254_z, ti22_t, ti22_z, ti5_t, ti5_z, ti51_t, ti51_z, ren_s8v, ren_shv, shv, ti261, ti254, ti22, ti5, ti51, fit, gcond, ilo, ihi, s8v, shv, W32, h0]); first | done | exact cd | skip)) ?_; clear H; intro a w H; try simp only [pk, elemB, St.put, St.ev, St.tmp, St.keep, find, dropT, slots, AV.put, AV.loc, fitI, convI, IntKind.signed, IntKind.bits, strip, St.lose, mergeL, setAll, nth, renB, ren, idx?, sub, allP, low, bnd, Int.reduceEq, Nat.reduceAdd, Nat.reduceLT, reduceIte, reduceCtorEq, Nat.reduceEqDiff, Nat.reduceLeDiff, Nat.reduceBEq, Int.reducePow, Int.reduceToNat, ti261_t, ti261_z, ti254_t, ti254_z, ti22_t, ti22_z, ti5_t, ti5_z, ti51_t, ti51_z, ren_s8v, ren_shv, shv] at H; try refine wpList_nil ?_)
      | refine wp_region_lit ?_)
    refine v_call [2] [] (hw3) H rfl rfl (by rfl) (by simp [pickB, bxs, ren, idx?, sub_refl, sub, allP, ren_s8v, ren_shv, shv] <;> omega) (by first | rfl | (simp [ren_s8v, ren_shv, shv] <;> omega)) (by first | exact trivial | exact ⟨sub_refl _ _, trivial⟩ | exact ⟨sub_refl _ _, sub_refl _ _, trivial⟩ | exact ⟨sub_refl _ _, sub_refl _ _, sub_refl _ _, trivial⟩ | (simp [cargs, cargsG, St.ev, St.tmp, find, ren, idx?, sub_refl, sub, allP, resv, resC, bss, ren_s8v, ren_shv, shv] <;> omega)) ?_; clear H; intro a w H; simp only [pk, elemB, St.put, St.ev, St.tmp, St.keep, find, dropT, slots, AV.put, AV.loc, fitI, convI, IntKind.signed, IntKind.bits, strip, St.lose, mergeL, setAll, nth, renB, ren, idx?, sub, allP, low, bnd, Int.reduceEq, Nat.reduceAdd, Nat.reduceLT, reduceIte, reduceCtorEq, Nat.reduceEqDiff, Nat.reduceLeDiff, Nat.reduceBEq, Int.reducePow, Int.reduceToNat, ti261_t, ti261_z, ti254_t, ti254_z, ti22_t, ti22_z, ti5_t, ti5_z, ti51_t, ti51_z, ren_s8v, ren_shv, shv] at H; try refine wpList_nil ?_
    repeat (first
      | refine wp_seq ?_
      | refine wp_block ?_
      | refine wp_skip ?_
      | refine wp_exit ?_
      | (refine v_more tab_ok hN H (by rfl) (by rfl) (by ((try simp only [pk, elemB, St.put, St.ev, St.tmp, St.keep, find, dropT, slots, AV.put, AV.loc, fitI, convI, IntKind.signed, IntKind.bits, strip, St.lose, mergeL, setAll, nth, renB, ren, idx?, sub, allP, low, bnd, Int.reduceEq, Nat.reduceAdd, Nat.reduceLT, reduceIte, reduceCtorEq, Nat.reduceEqDiff, Nat.reduceLeDiff, Nat.reduceBEq, Int.reducePow, Int.reduceToNat, ti261_t, ti261_z, ti254_t, ti254_z, ti22_t, ti22_z, ti5_t, ti5_z, ti51_t, ti51_z, ren_s8v, ren_shv, shv, ti261, ti254, ti22, ti5, ti51, fit, gcond, ilo, ihi, s8v, shv, W32, h0]); first | done | exact cd | skip)) ?_; clear H; intro a w H; try simp only [pk, elemB, St.put, St.ev, St.tmp, St.keep, find, dropT, slots, AV.put, AV.loc, fitI, convI, IntKind.signed, IntKind.bits, strip, St.lose, mergeL, setAll, nth, renB, ren, idx?, sub, allP, low, bnd, Int.reduceEq, Nat.reduceAdd, Nat.reduceLT, reduceIte, reduceCtorEq, Nat.reduceEqDiff, Nat.reduceLeDiff, Nat.reduceBEq, Int.reducePow, Int.reduceToNat, ti261_t, ti261_z, ti254_t, ti254_z, ti22_t, ti22_z, ti5_t, ti5_z, ti51_t, ti51_z, ren_s8v, ren_shv, shv] at H; try refine wpList_nil ?_)
      | refine wp_region_lit ?_)
    exact ⟨(s3, b3, n3, z + 1), ⟨by rw [List.append_assoc] at h3; simpa [← List.replicate_succ'] using h3, hz1⟩, by dsimp only; omega, H.to 3 0 ⟨Nat.le_trans hN (by show 1 ≤ 3; decide), hR⟩ ⟨rfl, rfl, rfl, rfl, trivial⟩ rfl rfl rfl rfl rfl⟩
  · have he : n2 = 56 := by simp at hb; omega
    have hz1 : z = padN l.length := by omega
    subst hz1
    subst he
    repeat (first
      | refine wp_seq ?_
      | refine wp_block ?_
      | refine wp_skip ?_
      | refine wp_exit ?_
      | (refine v_more tab_ok hN H (by rfl) (by rfl) (by ((try simp only [pk, elemB, St.put, St.ev, St.tmp, St.keep, find, dropT, slots, AV.put, AV.loc, fitI, convI, IntKind.signed, IntKind.bits, strip, St.lose, mergeL, setAll, nth, renB, ren, idx?, sub, allP, low, bnd, Int.reduceEq, Nat.reduceAdd, Nat.reduceLT, reduceIte, reduceCtorEq, Nat.reduceEqDiff, Nat.reduceLeDiff, Nat.reduceBEq, Int.reducePow, Int.reduceToNat, ti261_t, ti261_z, ti254_t, ti254_z, ti22_t, ti22_z, ti5_t, ti5_z, ti51_t, ti51_z, ren_s8v, ren_shv, shv, ti261, ti254, ti22, ti5, ti51, fit, gcond, ilo, ihi, s8v, shv, W32, h0]); first | done | exact cd | skip)) ?_; clear H; intro a w H; try simp only [pk, elemB, St.put, St.ev, St.tmp, St.keep, find, dropT, slots, AV.put, AV.loc, fitI, convI, IntKind.signed, IntKind.bits, strip, St.lose, mergeL, setAll, nth, renB, ren, idx?, sub, allP, low, bnd, Int.reduceEq, Nat.reduceAdd, Nat.reduceLT, reduceIte, reduceCtorEq, Nat.reduceEqDiff, Nat.reduceLeDiff, Nat.reduceBEq, Int.reducePow, Int.reduceToNat, ti261_t, ti261_z, ti254_t, ti254_z, ti22_t, ti22_z, ti5_t, ti5_z, ti51_t, ti51_z, ren_s8v, ren_shv, shv] at H; try refine wpList_nil ?_)
      | refine wp_region_lit ?_)
    have e5 : ((l.length * 8 : Nat) : Int) / 4294967296 = ((l.length * 8 / 4294967296 : Nat) : Int) := by omega
    rw [e5] at H
    have hand : bits .and .u64 ((l.length * 8 : Nat) : Int) 4294967295 = ((l.length * 8 % 4294967296 : Nat) : Int) := by
      have h5 := u64_and_nat (l.length * 8) 4294967295 (by omega) (by decide)
      rw [show (4294967295 : Nat) = 2 ^ 32 - 1 from rfl, Nat.and_two_pow_sub_one_eq_mod] at h5
      exact h5
    refine v_call [] [] (put32_v (l.length * 8 / 4294967296) (by omega)) H rfl rfl (by rfl) (by simp [pickB, bxs, ren, idx?, sub_refl, sub, allP, ren_s8v, ren_shv, shv, hand] <;> omega) (by first | rfl | (simp [ren_s8v, ren_shv, shv, hand] <;> omega)) (by first | exact trivial | exact ⟨sub_refl _ _, trivial⟩ | exact ⟨sub_refl _ _, sub_refl _ _, trivial⟩ | exact ⟨sub_refl _ _, sub_refl _ _, sub_refl _ _, trivial⟩ | (simp [cargs, cargsG, St.ev, St.tmp, find, ren, idx?, sub_refl, sub, allP, resv, resC, bss, ren_s8v, ren_shv, shv, hand] <;> omega)) ?_; clear H; intro a w H; simp only [pk, elemB, St.put, St.ev, St.tmp, St.keep, find, dropT, slots, AV.put, AV.loc, fitI, convI, IntKind.signed, IntKind.bits, strip, St.lose, mergeL, setAll, nth, renB, ren, idx?, sub, allP, low, bnd, Int.reduceEq, Nat.reduceAdd, Nat.reduceLT, reduceIte, reduceCtorEq, Nat.reduceEqDiff, Nat.reduceLeDiff, Nat.reduceBEq, Int.reducePow, Int.reduceToNat, ti261_t, ti261_z, ti254_t, ti254_z, ti22_t, ti22_z, ti5_t, ti5_z, ti51_t, ti51_z, ren_s8v, ren_shv, shv, hand] at H; try refine wpList_nil ?_
    repeat (first
      | refine wp_seq ?_
      | refine wp_block ?_
      | refine wp_skip ?_
      | refine wp_exit ?_
      | (refine v_more tab_ok hN H (by rfl) (by rfl) (by ((try simp only [pk, elemB, St.put, St.ev, St.tmp, St.keep, find, dropT, slots, AV.put, AV.loc, fitI, convI, IntKind.signed, IntKind.bits, strip, St.lose, mergeL, setAll, nth, renB, ren, idx?, sub, allP, low, bnd, Int.reduceEq, Nat.reduceAdd, Nat.reduceLT, reduceIte, reduceCtorEq, Nat.reduceEqDiff, Nat.reduceLeDiff, Nat.reduceBEq, Int.reducePow, Int.reduceToNat, ti261_t, ti261_z, ti254_t, ti254_z, ti22_t, ti22_z, ti5_t, ti5_z, ti51_t, ti51_z, ren_s8v, ren_shv, shv, hand, ti261, ti254, ti22, ti5, ti51, fit, gcond, ilo, ihi, s8v, shv, W32, h0, hand]); first | done | exact cd | skip)) ?_; clear H; intro a w H; try simp only [pk, elemB, St.put, St.ev, St.tmp, St.keep, find, dropT, slots, AV.put, AV.loc, fitI, convI, IntKind.signed, IntKind.bits, strip, St.lose, mergeL, setAll, nth, renB, ren, idx?, sub, allP, low, bnd, Int.reduceEq, Nat.reduceAdd, Nat.reduceLT, reduceIte, reduceCtorEq, Nat.reduceEqDiff, Nat.reduceLeDiff, Nat.reduceBEq, Int.reducePow, Int.reduceToNat, ti261_t, ti261_z, ti254_t, ti254_z, ti22_t, ti22_z, ti5_t, ti5_z, ti51_t, ti51_z, ren_s8v, ren_shv, shv, hand] at H; try refine wpList_nil ?_)
      | refine wp_region_lit ?_)
    refine v_call [] [] (put32_v (l.length * 8 % 4294967296) (by omega)) H rfl rfl (by rfl) (by simp [pickB, bxs, ren, idx?, sub_refl, sub, allP, ren_s8v, ren_shv, shv, hand] <;> omega) (by first | rfl | (simp [ren_s8v, ren_shv, shv, hand] <;> omega)) (by first | exact trivial | exact ⟨sub_refl _ _, trivial⟩ | exact ⟨sub_refl _ _, sub_refl _ _, trivial⟩ | exact ⟨sub_refl _ _, sub_refl _ _, sub_refl _ _, trivial⟩ | (simp [cargs, cargsG, St.ev, St.tmp, find, ren, idx?, sub_refl, sub, allP, resv, resC, bss, ren_s8v, ren_shv, shv, hand] <;> omega)) ?_; clear H; intro a w H; simp only [pk, elemB, St.put, St.ev, St.tmp, St.keep, find, dropT, slots, AV.put, AV.loc, fitI, convI, IntKind.signed, IntKind.bits, strip, St.lose, mergeL, setAll, nth, renB, ren, idx?, sub, allP, low, bnd, Int.reduceEq, Nat.reduceAdd, Nat.reduceLT, reduceIte, reduceCtorEq, Nat.reduceEqDiff, Nat.reduceLeDiff, Nat.reduceBEq, Int.reducePow, Int.reduceToNat, ti261_t, ti261_z, ti254_t, ti254_z, ti22_t, ti22_z, ti5_t, ti5_z, ti51_t, ti51_z, ren_s8v, ren_shv, shv, hand] at H; try refine wpList_nil ?_
    repeat (first
      | refine wp_seq ?_
      | refine wp_block ?_
      | refine wp_skip ?_
      | refine wp_exit ?_
      | (refine v_more tab_ok hN H (by rfl) (by rfl) (by ((try simp only [pk, elemB, St.put, St.ev, St.tmp, St.keep, find, dropT, slots, AV.put, AV.loc, fitI, convI, IntKind.signed, IntKind.bits, strip, St.lose, mergeL, setAll, nth, renB, ren, idx?, sub, allP, low, bnd, Int.reduceEq, Nat.reduceAdd, Nat.reduceLT, reduceIte, reduceCtorEq, Nat.reduceEqDiff, Nat.reduceLeDiff, Nat.reduceBEq, Int.reducePow, Int.reduceToNat, ti261_t, ti261_z, ti254_t, ti254_z, ti22_t, ti22_z, ti5_t, ti5_z, ti51_t, ti51_z, ren_s8v, ren_shv, shv, hand, ti261, ti254, ti22, ti5, ti51, fit, gcond, ilo, ihi, s8v, shv, W32, h0, hand]); first | done | exact cd | skip)) ?_; clear H; intro a w H; try simp only [pk, elemB, St.put, St.ev, St.tmp, St.keep, find, dropT, slots, AV.put, AV.loc, fitI, convI, IntKind.signed, IntKind.bits, strip, St.lose, mergeL, setAll, nth, renB, ren, idx?, sub, allP, low, bnd, Int.reduceEq, Nat.reduceAdd, Nat.reduceLT, reduceIte, reduceCtorEq, Nat.reduceEqDiff, Nat.reduceLeDiff, Nat.reduceBEq, Int.reducePow, Int.reduceToNat, ti261_t, ti261_z, ti254_t, ti254_z, ti22_t, ti22_z, ti5_t, ti5_z, ti51_t, ti51_z, ren_s8v, ren_shv, shv, hand] at H; try refine wpList_nil ?_)
      | refine wp_region_lit ?_)
    obtain ⟨s3, b3, n3, h3, hw3⟩ := write_g _ (be4n (l.length * 8 / 4294967296)) s2 b2 56 h2 (by rw [be4n_len]; decide) (l.length + 1 + padN l.length) (by omega)
    refine v_call [2] [] (hw3) H rfl rfl (by rfl) (by simp [pickB, bxs, ren, idx?, sub_refl, sub, allP, ren_s8v, ren_shv, shv, hand] <;> omega) (by first | rfl | (simp [ren_s8v, ren_shv, shv, hand] <;> omega)) (by first | exact trivial | exact ⟨sub_refl _ _, trivial⟩ | exact ⟨sub_refl _ _, sub_refl _ _, trivial⟩ | exact ⟨sub_refl _ _, sub_refl _ _, sub_refl _ _, trivial⟩ | (simp [cargs, cargsG, St.ev, St.tmp, find, ren, idx?, sub_refl, sub, allP, resv, resC, bss, ren_s8v, ren_shv, shv, hand] <;> omega)) ?_; clear H; intro a w H; simp only [pk, elemB, St.put, St.ev, St.tmp, St.keep, find, dropT, slots, AV.put, AV.loc, fitI, convI, IntKind.signed, IntKind.bits, strip, St.lose, mergeL, setAll, nth, renB, ren, idx?, sub, allP, low, bnd, Int.reduceEq, Nat.reduceAdd, Nat.reduceLT, reduceIte, reduceCtorEq, Nat.reduceEqDiff, Nat.reduceLeDiff, Nat.reduceBEq, Int.reducePow, Int.reduceToNat, ti261_t, ti261_z, ti254_t, ti254_z, ti22_t, ti22_z, ti5_t, ti5_z, ti51_t, ti51_z, ren_s8v, ren_shv, shv, hand] at H; try refine wpList_nil ?_
    repeat (first
      | refine wp_seq ?_
      | refine wp_block ?_
      | refine wp_skip ?_
      | refine wp_exit ?_
      | (refine v_more tab_ok hN H (by rfl) (by rfl) (by ((try simp only [pk, elemB, St.put, St.ev, St.tmp, St.keep, find, dropT, slots, AV.put, AV.loc, fitI, convI, IntKind.signed, IntKind.bits, strip, St.lose, mergeL, setAll, nth, renB, ren, idx?, sub, allP, low, bnd, Int.reduceEq, Nat.reduceAdd, Nat.reduceLT, reduceIte, reduceCtorEq, Nat.reduceEqDiff, Nat.reduceLeDiff, Nat.reduceBEq, Int.reducePow, Int.reduceToNat, ti261_t, ti261_z, ti254_t, ti254_z, ti22_t, ti22_z, ti5_t, ti5_z, ti51_t, ti51_z, ren_s8v, ren_shv, shv, hand, ti261, ti254, ti22, ti5, ti51, fit, gcond, ilo, ihi, s8v, shv, W32, h0, hand]); first | done | exact cd | skip)) ?_; clear H; intro a w H; try simp only [pk, elemB, St.put, St.ev, St.tmp, St.keep, find, dropT, slots, AV.put, AV.loc, fitI, convI, IntKind.signed, IntKind.bits, strip, St.lose, mergeL, setAll, nth, renB, ren, idx?, sub, allP, low, bnd, Int.reduceEq, Nat.reduceAdd, Nat.reduceLT, reduceIte, reduceCtorEq, Nat.reduceEqDiff, Nat.reduceLeDiff, Nat.reduceBEq, Int.reducePow, Int.reduceToNat, ti261_t, ti261_z, ti254_t, ti254_z, ti22_t, ti22_z, ti5_t, ti5_z, ti51_t, ti51_z, ren_s8v, ren_shv, shv, hand] at H; try refine wpList_nil ?_)
      | refine wp_region_lit ?_)
    obtain ⟨s4, b4, n4, h4, hw4⟩ := write_g _ (be4n (l.length * 8 % 4294967296)) s3 b3 n3 h3 (by rw [be4n_len]; decide) (l.length + 1 + padN l.length + 4) (by omega)
    refine v_call [2] [] (hw4) H rfl rfl (by rfl) (by simp [pickB, bxs, ren, idx?, sub_refl, sub, allP, ren_s8v, ren_shv, shv, hand, be4n_len] <;> omega) (by first | rfl | (simp [ren_s8v, ren_shv, shv, hand, be4n_len] <;> omega)) (by first | exact trivial | exact ⟨sub_refl _ _, trivial⟩ | exact ⟨sub_refl _ _, sub_refl _ _, trivial⟩ | exact ⟨sub_refl _ _, sub_refl _ _, sub_refl _ _, trivial⟩ | (simp [cargs, cargsG, St.ev, St.tmp, find, ren, idx?, sub_refl, sub, allP, resv, resC, bss, ren_s8v, ren_shv, shv, hand, be4n_len] <;> omega)) ?_; clear H; intro a w H; simp only [pk, elemB, St.put, St.ev, St.tmp, St.keep, find, dropT, slots, AV.put, AV.loc, fitI, convI, IntKind.signed, IntKind.bits, strip, St.lose, mergeL, setAll, nth, renB, ren, idx?, sub, allP, low, bnd, Int.reduceEq, Nat.reduceAdd, Nat.reduceLT, reduceIte, reduceCtorEq, Nat.reduceEqDiff, Nat.reduceLeDiff, Nat.reduceBEq, Int.reducePow, Int.reduceToNat, ti261_t, ti261_z, ti254_t, ti254_z, ti22_t, ti22_z, ti5_t, ti5_z, ti51_t, ti51_z, ren_s8v, ren_shv, shv, hand, be4n_len] at H; try refine wpList_nil ?_
    repeat (first
      | refine wp_seq ?_
      | refine wp_block ?_
      | refine wp_skip ?_
      | refine wp_exit ?_
      | (refine v_more tab_ok hN H (by rfl) (by rfl) (by ((try simp only [pk, elemB, St.put, St.ev, St.tmp, St.keep, find, dropT, slots, AV.put, AV.loc, fitI, convI, IntKind.signed, IntKind.bits, strip, St.lose, mergeL, setAll, nth, renB, ren, idx?, sub, allP, low, bnd, Int.reduceEq, Nat.reduceAdd, Nat.reduceLT, reduceIte, reduceCtorEq, Nat.reduceEqDiff, Nat.reduceLeDiff, Nat.reduceBEq, Int.reducePow, Int.reduceToNat, ti261_t, ti261_z, ti254_t, ti254_z, ti22_t, ti22_z, ti5_t, ti5_z, ti51_t, ti51_z, ren_s8v, ren_shv, shv, hand, be4n_len, ti261, ti254, ti22, ti5, ti51, fit, gcond, ilo, ihi, s8v, shv, W32, h0, hand]); first | done | exact cd | skip)) ?_; clear H; intro a w H; try simp only [pk, elemB, St.put, St.ev, St.tmp, St.keep, find, dropT, slots, AV.put, AV.loc, fitI, convI, IntKind.signed, IntKind.bits, strip, St.lose, mergeL, setAll, nth, renB, ren, idx?, sub, allP, low, bnd, Int.reduceEq, Nat.reduceAdd, Nat.reduceLT, reduceIte, reduceCtorEq, Nat.reduceEqDiff, Nat.reduceLeDiff, Nat.reduceBEq, Int.reducePow, Int.reduceToNat, ti261_t, ti261_z, ti254_t, ti254_z, ti22_t, ti22_z, ti5_t, ti5_z, ti51_t, ti51_z, ren_s8v, ren_shv, shv, hand, be4n_len] at H; try refine wpList_nil ?_)
      | refine wp_region_lit ?_)
    have hpad : l ++ [128] ++ List.replicate (padN l.length) 0 ++ be4n (l.length * 8 / 4294967296) ++ be4n (l.length * 8 % 4294967296) = pad l := by
      rw [pad_def, be8 _ (by omega), List.append_assoc _ (be4n _)]
    rw [hpad] at h4
    have hout : out s4 = sum l := by rw [sum_def, ← h4.ss]
    refine v_loop (fun k : Nat => ⟨[(2, none, .ptr 1 []), (9, none, .ptr 3 []), (50, none, s8v s4), (51, none, .v (.int .i64 (k : Int)))], [(ti261.ty, .st [.v (.bool true), s8v s, .ba b, .v (.int .i64 (n : Int)), .v (.int .i64 (l.length : Int))]), (.ba 32, .ba (List.replicate 32 0)), (ti261.ty, .st [.v (.bool true), s8v s4, .ba b4, .v (.int .i64 (n4 : Int)), .v (.int .i64 ((l.length + 1 + padN l.length + 4 + 4 : Nat) : Int))]), (.ba 32, .ba (outK s4 k))], [], []⟩)
      (fun k => k ≤ 8) (fun k => 8 - k) 0 (by decide) (H.to 4 0 ⟨Nat.le_trans hN (by show 1 ≤ 4; decide), hR⟩ ⟨rfl, rfl, rfl, rfl, trivial⟩ rfl rfl rfl rfl rfl) ?_
    clear H
    intro k a w hk H
    have hN0 := hN
    replace hN : N.bx.length ≤ 100 := Nat.le_trans hN (by show 1 ≤ 100; decide)
    repeat (first
      | refine wp_seq ?_
      | refine wp_block ?_
      | refine wp_skip ?_
      | refine wp_exit ?_
      | (refine v_more tab_ok hN H (by rfl) (by rfl) (by ((try simp only [pk, elemB, St.put, St.ev, St.tmp, St.keep, find, dropT, slots, AV.put, AV.loc, fitI, convI, IntKind.signed, IntKind.bits, strip, St.lose, mergeL, setAll, nth, renB, ren, idx?, sub, allP, low, bnd, Int.reduceEq, Nat.reduceAdd, Nat.reduceLT, reduceIte, reduceCtorEq, Nat.reduceEqDiff, Nat.reduceLeDiff, Nat.reduceBEq, Int.reducePow, Int.reduceToNat, ti261_t, ti261_z, ti254_t, ti254_z, ti22_t, ti22_z, ti5_t, ti5_z, ti51_t, ti51_z, ren_s8v, ren_shv, shv, hand, be4n_len, ti261, ti254, ti22, ti5, ti51, fit, gcond, ilo, ihi, s8v, shv, W32, h0, hand]); first | done | exact cd | skip)) ?_; clear H; intro a w H; try simp only [pk, elemB, St.put, St.ev, St.tmp, St.keep, find, dropT, slots, AV.put, AV.loc, fitI, convI, IntKind.signed, IntKind.bits, strip, St.lose, mergeL, setAll, nth, renB, ren, idx?, sub, allP, low, bnd, Int.reduceEq, Nat.reduceAdd, Nat.reduceLT, reduceIte, reduceCtorEq, Nat.reduceEqDiff, Nat.reduceLeDiff, Nat.reduceBEq, Int.reducePow, Int.reduceToNat, ti261_t, ti261_z, ti254_t, ti254_z, ti22_t, ti22_z, ti5_t, ti5_z, ti51_t, ti51_z, ren_s8v, ren_shv, shv, hand, be4n_len] at H; try refine wpList_nil ?_)
      | refine wp_region_lit ?_)
    refine v_cond H (by rfl) (fun hb => ?_) (fun hb => ?_)
    · have hk8 : k < 8 := by simp at hb; omega
      have hs8 : k = 0 ∨ k = 1 ∨ k = 2 ∨ k = 3 ∨ k = 4 ∨ k = 5 ∨ k = 6 ∨ k = 7 := by omega
      have hol : ∀ k, k ≤ 8 → (outK s4 k).length = 32 := fun k hk => by
        induction k with
        | zero => simp [outK]
        | succ k ih => have := ih (by omega); simp only [outK, List.length_append, List.length_take, List.length_drop, be4n_len]; omega
      have q0 := n32_lo s4.a; have q1 := n32_lo s4.b; have q2 := n32_lo s4.c; have q3 := n32_lo s4.d; have q4 := n32_lo s4.e; have q5 := n32_lo s4.f; have q6 := n32_lo s4.g; have q7 := n32_lo s4.h
      have r0 := n32_hi s4.a; have r1 := n32_hi s4.b; have r2 := n32_hi s4.c; have r3 := n32_hi s4.d; have r4 := n32_hi s4.e; have r5 := n32_hi s4.f; have r6 := n32_hi s4.g; have r7 := n32_hi s4.h
      have o0 := hol 0 (by decide); have o1 := hol 1 (by decide); have o2 := hol 2 (by decide); have o3 := hol 3 (by decide); have o4 := hol 4 (by decide); have o5 := hol 5 (by decide); have o6 := hol 6 (by decide); have o7 := hol 7 (by decide)
      rcases hs8 with rfl | rfl | rfl | rfl | rfl | rfl | rfl | rfl
      all_goals
        repeat (first
          | refine wp_seq ?_
          | refine wp_block ?_
          | refine wp_skip ?_
          | refine wp_exit ?_
          | (refine v_more tab_ok hN H (by rfl) (by rfl) (by ((try simp only [pk, elemB, St.put, St.ev, St.tmp, St.keep, find, dropT, slots, AV.put, AV.loc, fitI, convI, IntKind.signed, IntKind.bits, strip, St.lose, mergeL, setAll, nth, renB, ren, idx?, sub, allP, low, bnd, Int.reduceEq, Nat.reduceAdd, Nat.reduceLT, reduceIte, reduceCtorEq, Nat.reduceEqDiff, Nat.reduceLeDiff, Nat.reduceBEq, Int.reducePow, Int.reduceToNat, ti261_t, ti261_z, ti254_t, ti254_z, ti22_t, ti22_z, ti5_t, ti5_z, ti51_t, ti51_z, ren_s8v, ren_shv, shv, hand, be4n_len, ti261, ti254, ti22, ti5, ti51, fit, gcond, ilo, ihi, s8v, shv, W32, h0, hand]); first | done | exact cd | skip)) ?_; clear H; intro a w H; try simp only [pk, elemB, St.put, St.ev, St.tmp, St.keep, find, dropT, slots, AV.put, AV.loc, fitI, convI, IntKind.signed, IntKind.bits, strip, St.lose, mergeL, setAll, nth, renB, ren, idx?, sub, allP, low, bnd, Int.reduceEq, Nat.reduceAdd, Nat.reduceLT, reduceIte, reduceCtorEq, Nat.reduceEqDiff, Nat.reduceLeDiff, Nat.reduceBEq, Int.reducePow, Int.reduceToNat, ti261_t, ti261_z, ti254_t, ti254_z, ti22_t, ti22_z, ti5_t, ti5_z, ti51_t, ti51_z, ren_s8v, ren_shv, shv, hand, be4n_len] at H; try refine wpList_nil ?_)
          | refine wp_region_lit ?_)
        refine v_call [] [] (put32_v _ (n32lt _)) H rfl rfl (by rfl) (by simp [pickB, bxs, ren, idx?, sub_refl, sub, allP, ren_s8v, ren_shv, shv, hand, be4n_len] <;> omega) (by first | rfl | (simp [ren_s8v, ren_shv, shv, hand, be4n_len] <;> omega)) (by first | exact trivial | exact ⟨sub_refl _ _, trivial⟩ | exact ⟨sub_refl _ _, sub_refl _ _, trivial⟩ | exact ⟨sub_refl _ _, sub_refl _ _, sub_refl _ _, trivial⟩ | (simp [cargs, cargsG, St.ev, St.tmp, find, ren, idx?, sub_refl, sub, allP, resv, resC, bss, ren_s8v, ren_shv, shv, hand, be4n_len] <;> omega)) ?_; clear H; intro a w H; simp only [pk, elemB, St.put, St.ev, St.tmp, St.keep, find, dropT, slots, AV.put, AV.loc, fitI, convI, IntKind.signed, IntKind.bits, strip, St.lose, mergeL, setAll, nth, renB, ren, idx?, sub, allP, low, bnd, Int.reduceEq, Nat.reduceAdd, Nat.reduceLT, reduceIte, reduceCtorEq, Nat.reduceEqDiff, Nat.reduceLeDiff, Nat.reduceBEq, Int.reducePow, Int.reduceToNat, ti261_t, ti261_z, ti254_t, ti254_z, ti22_t, ti22_z, ti5_t, ti5_z, ti51_t, ti51_z, ren_s8v, ren_shv, shv, hand, be4n_len] at H; try refine wpList_nil ?_
        repeat (first
          | refine wp_seq ?_
          | refine wp_block ?_
          | refine wp_skip ?_
          | refine wp_exit ?_
          | (refine v_more tab_ok hN H (by rfl) (by rfl) (by ((try simp only [pk, elemB, St.put, St.ev, St.tmp, St.keep, find, dropT, slots, AV.put, AV.loc, fitI, convI, IntKind.signed, IntKind.bits, strip, St.lose, mergeL, setAll, nth, renB, ren, idx?, sub, allP, low, bnd, Int.reduceEq, Nat.reduceAdd, Nat.reduceLT, reduceIte, reduceCtorEq, Nat.reduceEqDiff, Nat.reduceLeDiff, Nat.reduceBEq, Int.reducePow, Int.reduceToNat, ti261_t, ti261_z, ti254_t, ti254_z, ti22_t, ti22_z, ti5_t, ti5_z, ti51_t, ti51_z, ren_s8v, ren_shv, shv, hand, be4n_len, ti261, ti254, ti22, ti5, ti51, fit, gcond, ilo, ihi, s8v, shv, W32, h0, hand]); first | done | exact cd | skip)) ?_; clear H; intro a w H; try simp only [pk, elemB, St.put, St.ev, St.tmp, St.keep, find, dropT, slots, AV.put, AV.loc, fitI, convI, IntKind.signed, IntKind.bits, strip, St.lose, mergeL, setAll, nth, renB, ren, idx?, sub, allP, low, bnd, Int.reduceEq, Nat.reduceAdd, Nat.reduceLT, reduceIte, reduceCtorEq, Nat.reduceEqDiff, Nat.reduceLeDiff, Nat.reduceBEq, Int.reducePow, Int.reduceToNat, ti261_t, ti261_z, ti254_t, ti254_z, ti22_t, ti22_z, ti5_t, ti5_z, ti51_t, ti51_z, ren_s8v, ren_shv, shv, hand, be4n_len] at H; try refine wpList_nil ?_)
          | refine wp_region_lit ?_)
        refine ⟨_ + 1, by decide, ?_, H.to 4 0 ⟨Nat.le_trans hN0 (by show 1 ≤ 4; decide), hR⟩ ⟨rfl, rfl, rfl, rfl, trivial⟩ rfl rfl rfl rfl rfl⟩
        decide
    · have he8 : k = 8 := by simp at hb; omega
      subst he8
      rw [outK_end, hout] at H
      have hsl := sum_length l
      repeat (first
        | refine wp_seq ?_
        | refine wp_block ?_
        | refine wp_skip ?_
        | refine wp_exit ?_
        | (refine v_more tab_ok hN H (by rfl) (by rfl) (by ((try simp only [pk, elemB, St.put, St.ev, St.tmp, St.keep, find, dropT, slots, AV.put, AV.loc, fitI, convI, IntKind.signed, IntKind.bits, strip, St.lose, mergeL, setAll, nth, renB, ren, idx?, sub, allP, low, bnd, Int.reduceEq, Nat.reduceAdd, Nat.reduceLT, reduceIte, reduceCtorEq, Nat.reduceEqDiff, Nat.reduceLeDiff, Nat.reduceBEq, Int.reducePow, Int.reduceToNat, ti261_t, ti261_z, ti254_t, ti254_z, ti22_t, ti22_z, ti5_t, ti5_z, ti51_t, ti51_z, ren_s8v, ren_shv, shv, hand, be4n_len, ti261, ti254, ti22, ti5, ti51, fit, gcond, ilo, ihi, s8v, shv, W32, h0, hand]); first | done | exact cd | skip)) ?_; clear H; intro a w H; try simp only [pk, elemB, St.put, St.ev, St.tmp, St.keep, find, dropT, slots, AV.put, AV.loc, fitI, convI, IntKind.signed, IntKind.bits, strip, St.lose, mergeL, setAll, nth, renB, ren, idx?, sub, allP, low, bnd, Int.reduceEq, Nat.reduceAdd, Nat.reduceLT, reduceIte, reduceCtorEq, Nat.reduceEqDiff, Nat.reduceLeDiff, Nat.reduceBEq, Int.reducePow, Int.reduceToNat, ti261_t, ti261_z, ti254_t, ti254_z, ti22_t, ti22_z, ti5_t, ti5_z, ti51_t, ti51_z, ren_s8v, ren_shv, shv, hand, be4n_len] at H; try refine wpList_nil ?_)
        | refine wp_region_lit ?_)
      replace hN := hN0
      refine wp_ret ?_
      exact v_end [0] [] tab_ok ⟨hN, hR⟩ (rs := [.cell 2 51]) (ress := [_]) rfl H (by rfl) (by rfl) (by simp [pickB, bxs, ren, idx?, sub_refl, sub, allP, ren_s8v, ren_shv, shv, hand, be4n_len] <;> omega) (by first | rfl | (simp [ren_s8v, ren_shv, shv, hand, be4n_len] <;> omega)) (by first | exact trivial | exact ⟨sub_refl _ _, trivial⟩ | exact ⟨sub_refl _ _, sub_refl _ _, trivial⟩ | exact ⟨sub_refl _ _, sub_refl _ _, sub_refl _ _, trivial⟩ | (simp [cargs, cargsG, St.ev, St.tmp, find, ren, idx?, sub_refl, sub, allP, resv, resC, bss, ren_s8v, ren_shv, shv, hand, be4n_len] <;> omega)) rfl
end Go.Proofs.Ytpeefeioccglcaa
