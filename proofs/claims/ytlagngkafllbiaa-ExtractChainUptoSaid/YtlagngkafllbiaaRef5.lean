/- The document's digests and nodes. -/
import Derived.Test.YtlagngkafllbiaaNode2
import Derived.Test.YtlagngkafllbiaaTagOf
import Derived.Test.YtlagngkafllbiaaLent
set_option linter.unusedSimpArgs false
set_option linter.unusedVariables false
namespace Go.Proofs.Ytlagngkafllbiaa
open Go Go.RowKit
/-- The state made plain. -/
theorem nf_Ref5 {P : Program} {w0 w : World} {N : Gh} {nt : Nat} {st s2 : St} {a : Act} (H : Rel P w0 N nt st a w) (h : st = s2 := by (try simp only [pk, elemB, St.put, St.ev, St.tmp, St.keep, find, dropT, slots, AV.put, AV.loc, fitI, convI, IntKind.signed, IntKind.bits, strip, St.lose, mergeL, setAll, nth, renB, ren, idx?, sub, allP, low, bnd, Int.reduceEq, Nat.reduceAdd, Nat.reduceLT, reduceIte, reduceCtorEq, Nat.reduceEqDiff, Nat.reduceLeDiff, Nat.reduceBEq, Int.reducePow, Int.reduceToNat, ti24_t, ti24_z, ti5_t, ti5_z, ti62_t, ti62_z, ti30_t, ti30_z, ti23_t, ti23_z, ti22_t, ti22_z]); rfl) : Rel P w0 N nt s2 a w := h ▸ H
theorem nt_Ref5 {P : Program} {w0 w : World} {N gS : Gh} {nt : Nat} {q q2 st s2 : St} {a : Act} (H : RelT P w0 N nt gS q st a w) (h1 : q = q2 := by (try simp only [pk, elemB, St.put, St.ev, St.tmp, St.keep, find, dropT, slots, AV.put, AV.loc, fitI, convI, IntKind.signed, IntKind.bits, strip, St.lose, mergeL, setAll, nth, renB, ren, idx?, sub, allP, low, bnd, Int.reduceEq, Nat.reduceAdd, Nat.reduceLT, reduceIte, reduceCtorEq, Nat.reduceEqDiff, Nat.reduceLeDiff, Nat.reduceBEq, Int.reducePow, Int.reduceToNat, ti24_t, ti24_z, ti5_t, ti5_z, ti62_t, ti62_z, ti30_t, ti30_z, ti23_t, ti23_z, ti22_t, ti22_z]); rfl) (h : st = s2 := by (try simp only [pk, elemB, St.put, St.ev, St.tmp, St.keep, find, dropT, slots, AV.put, AV.loc, fitI, convI, IntKind.signed, IntKind.bits, strip, St.lose, mergeL, setAll, nth, renB, ren, idx?, sub, allP, low, bnd, Int.reduceEq, Nat.reduceAdd, Nat.reduceLT, reduceIte, reduceCtorEq, Nat.reduceEqDiff, Nat.reduceLeDiff, Nat.reduceBEq, Int.reducePow, Int.reduceToNat, ti24_t, ti24_z, ti5_t, ti5_z, ti62_t, ti62_z, ti30_t, ti30_z, ti23_t, ti23_z, ti22_t, ti22_z]); rfl) : RelT P w0 N nt gS q2 s2 a w := h1 ▸ h ▸ H
theorem ct_Ref5 {c : Prop} (h : c := by ((try simp only [pk, elemB, St.put, St.ev, St.tmp, St.keep, find, dropT, slots, AV.put, AV.loc, fitI, convI, IntKind.signed, IntKind.bits, strip, St.lose, mergeL, setAll, nth, renB, ren, idx?, sub, allP, low, bnd, Int.reduceEq, Nat.reduceAdd, Nat.reduceLT, reduceIte, reduceCtorEq, Nat.reduceEqDiff, Nat.reduceLeDiff, Nat.reduceBEq, Int.reducePow, Int.reduceToNat, ti24_t, ti24_z, ti5_t, ti5_z, ti62_t, ti62_z, ti30_t, ti30_z, ti23_t, ti23_z, ti22_t, ti22_z, ti24, ti5, ti62, ti30, ti23, ti22, fit, gcond, ilo, ihi]); first | done | exact cd | exact cd2 | skip)) : c := h
theorem set_fill (l : List UInt8) (k n : Nat) (z : UInt8) (hk : k < l.length) (hn : k < n) : (l.take k ++ List.replicate (n - k) z).set k (l.getD k z) = l.take (k + 1) ++ List.replicate (n - (k + 1)) z := by
  have h1 : (l.take k).length = k := by rw [List.length_take]; omega
  have h2 := set_end (l.take k) (n - k) z (l.getD k z) (by omega)
  rw [h1] at h2
  rw [h2, List.take_succ_eq_append_getElem hk]
  have : l.getD k z = l[k] := by simp [List.getD, hk]
  rw [this, show n - k - 1 = n - (k + 1) by omega]
theorem textR_v (t : UInt8) (ls : List (List UInt8)) (hb : ls.flatten.length ≤ 34359738367) (hl : ls.length ≤ 34359738367) :
    VC Try.prog 47 [.v (B8 t), .sl .sc (bss ls) none] [(5, (t :: ls.flatten).length)] (.bs (t :: ls.flatten) (some 0)) := by
  have hbl := bss_len ls
  have ht : t.toNat < 256 := t.toNat_lt
  refine v_enter Try.func47 rfl (by kernel_rfl) (by show 2 ≤ 22; decide) ?_
  intro N w0 a w hN hR H
  repeat (first | refine wp_seq ?_ | refine wp_block ?_ | refine wp_skip ?_ | refine wp_exit ?_ | ((first | refine v_some 5 tab_ok hN H (by rfl) ct_Ref5 ?_ | refine v_more tab_ok hN H (by rfl) (by rfl) ct_Ref5 ?_); clear H; intro a w H; replace H := nf_Ref5 H; (try simp only [List.drop_succ_cons, List.drop_zero, List.drop_nil]); try refine wpList_nil ?_) | refine wp_region_lit ?_)
  refine v_loop (fun k : Nat => ⟨[(6, none, .v (.int .i64 (k : Int))), (5, none, .bs (t :: (ls.take k).flatten) (some 0)), (1, none, .sl .sc (bss ls) none)], [], [], [(5, (t :: (ls.take k).flatten).length)]⟩) (fun k => k ≤ ls.length) (fun k => ls.length - k) 0 (Nat.zero_le _) (H.to 0 1 ⟨hN, Nat.le_trans hR (by decide)⟩ ⟨rfl, rfl, rfl, trivial⟩ rfl rfl rfl rfl rfl) ?_
  clear H
  intro k a w hk H
  repeat (first | refine wp_seq ?_ | refine wp_block ?_ | refine wp_skip ?_ | refine wp_exit ?_ | ((first | refine v_some 5 tab_ok hN H (by rfl) ct_Ref5 ?_ | refine v_more tab_ok hN H (by rfl) (by rfl) ct_Ref5 ?_); clear H; intro a w H; replace H := nf_Ref5 H; (try simp only [List.drop_succ_cons, List.drop_zero, List.drop_nil]); try refine wpList_nil ?_) | refine wp_region_lit ?_)
  refine v_cond H (by rfl) (fun hb => ?_) (fun hb => ?_)
  · have hlt : k < ls.length := by rw [hbl] at hb; simpa using hb
    have hf := flat_take_le ls (k + 1)
    rw [flat_take ls k hlt, List.length_append] at hf
    refine wp_skip ?_
    repeat (first | refine wp_seq ?_ | refine wp_block ?_)
    (try refine wp_region_lit ?_); refine v_steps 5 tab_ok hN H (by rfl) ct_Ref5 ?_; clear H; intro a w H; replace H := nf_Ref5 H
    rw [bss_get ls k hlt] at H
    repeat (first | refine wp_seq ?_ | refine wp_block ?_ | refine wp_skip ?_ | refine wp_exit ?_ | ((first | refine v_some 5 tab_ok hN H (by rfl) ct_Ref5 ?_ | refine v_more tab_ok hN H (by rfl) (by rfl) ct_Ref5 ?_); clear H; intro a w H; replace H := nf_Ref5 H; (try simp only [List.drop_succ_cons, List.drop_zero, List.drop_nil]); try refine wpList_nil ?_) | refine wp_region_lit ?_)
    exact ⟨k + 1, hlt, by omega, H.to 0 1 ⟨hN, Nat.le_trans hR (by decide)⟩ ⟨rfl, by rw [flat_take ls k hlt]; rfl, rfl, trivial⟩ rfl (by rw [flat_take ls k hlt]; simp only [List.take_succ_cons, List.take_zero, List.length_cons, List.length_append, List.cons.injEq, Prod.mk.injEq, true_and, and_true]; omega) rfl rfl rfl⟩
  · have hge : k = ls.length := by rw [hbl] at hb; simp at hb; omega
    subst hge
    rw [List.take_length] at H
    repeat (first | refine wp_seq ?_ | refine wp_block ?_ | refine wp_skip ?_ | refine wp_exit ?_ | ((first | refine v_some 5 tab_ok hN H (by rfl) ct_Ref5 ?_ | refine v_more tab_ok hN H (by rfl) (by rfl) ct_Ref5 ?_); clear H; intro a w H; replace H := nf_Ref5 H; (try simp only [List.drop_succ_cons, List.drop_zero, List.drop_nil]); try refine wpList_nil ?_) | refine wp_region_lit ?_)
    refine wp_ret ?_
    exact v_end [] [0] tab_ok ⟨hN, hR⟩ (rs := [.tmp 4]) (ress := [_]) rfl H (by rfl) (by rfl) cb cw ca rfl
set_option maxRecDepth 20000 in
theorem leafR_v (k v : List UInt8) (hk : k.length = 32) (hv : v.length = 32) :
    VC Try.prog 100 [.ba k, .ba v] [(5, 65)] (.bs (1 :: (k ++ v)) (some 0)) := by
  refine v_enter Try.func100 rfl (by kernel_rfl) (by show 2 ≤ 9; decide) ?_
  intro N w0 a w hN hR H
  repeat (first | refine wp_seq ?_ | refine wp_block ?_ | refine wp_skip ?_ | refine wp_exit ?_ | ((first | refine v_some 5 tab_ok hN H (by rfl) ct_Ref5 ?_ | refine v_more tab_ok hN H (by rfl) (by rfl) ct_Ref5 ?_); clear H; intro a w H; replace H := nf_Ref5 H; (try simp only [List.drop_succ_cons, List.drop_zero, List.drop_nil]); try refine wpList_nil ?_) | refine wp_region_lit ?_)
  repeat (first | refine wp_seq ?_ | refine wp_block ?_)
  refine v_draw 2 [2, 3] [] (by kernel_rfl) (by kernel_rfl) H (by rfl) (fun gS H => ?_); try replace H := nt_Ref5 H; first | (simp only [List.take_of_length_le (Nat.le_of_eq hk), List.take_of_length_le (Nat.le_of_eq hv)] at H; replace H := nt_Ref5 H) | skip
  refine v_moreT tab_ok hN H (by rfl) (by (try simp only [List.take_of_length_le (Nat.le_of_eq hk), List.take_of_length_le (Nat.le_of_eq hv)]); first | done | exact ct_Ref5) ?_; clear H; intro a w H; try replace H := nt_Ref5 H; first | (simp only [List.take_of_length_le (Nat.le_of_eq hk), List.take_of_length_le (Nat.le_of_eq hv)] at H; replace H := nt_Ref5 H) | skip
  refine v_callT [] [] (textR_v 1 [k, v] (by simp; omega) (by simp)) H (by rfl) (by rfl) rfl rfl (by rfl) (by simp [pickB, bxs, ren, idx?, sub_refl, sub, allP, List.take_of_length_le (Nat.le_of_eq hk), List.take_of_length_le (Nat.le_of_eq hv)] <;> omega) (by first | rfl | (simp [List.take_of_length_le (Nat.le_of_eq hk), List.take_of_length_le (Nat.le_of_eq hv)] <;> omega)) (by first | exact trivial | exact ⟨sub_refl _ _, trivial⟩ | exact ⟨sub_refl _ _, sub_refl _ _, trivial⟩ | exact ⟨sub_refl _ _, sub_refl _ _, sub_refl _ _, trivial⟩ | exact ⟨⟨rfl, sub_refl _ _, trivial⟩, sub_refl _ _, trivial⟩ | (simp [cargs, cargsG, St.ev, St.tmp, find, ren, idx?, sub_refl, sub, allP, resv, resC, bss, List.take_of_length_le (Nat.le_of_eq hk), List.take_of_length_le (Nat.le_of_eq hv)] <;> omega)) ?_; clear H; intro a w H; try replace H := nt_Ref5 H; first | (simp only [List.take_of_length_le (Nat.le_of_eq hk), List.take_of_length_le (Nat.le_of_eq hv)] at H; replace H := nt_Ref5 H) | skip
  refine v_moreT tab_ok hN H (by rfl) (by (try simp only [List.take_of_length_le (Nat.le_of_eq hk), List.take_of_length_le (Nat.le_of_eq hv)]); first | done | exact ct_Ref5) ?_; clear H; intro a w H; try replace H := nt_Ref5 H; first | (simp only [List.take_of_length_le (Nat.le_of_eq hk), List.take_of_length_le (Nat.le_of_eq hv)] at H; replace H := nt_Ref5 H) | skip
  refine v_drawNil H (fun H => ?_)
  repeat (first | refine wp_seq ?_ | refine wp_block ?_ | refine wp_skip ?_ | refine wp_exit ?_ | ((first | refine v_some 5 tab_ok hN H (by rfl) (by (try simp only [List.take_of_length_le (Nat.le_of_eq hk), List.take_of_length_le (Nat.le_of_eq hv)]); first | done | exact ct_Ref5) ?_ | refine v_more tab_ok hN H (by rfl) (by rfl) (by (try simp only [List.take_of_length_le (Nat.le_of_eq hk), List.take_of_length_le (Nat.le_of_eq hv)]); first | done | exact ct_Ref5) ?_); clear H; intro a w H; replace H := nf_Ref5 H; first | (simp only [List.take_of_length_le (Nat.le_of_eq hk), List.take_of_length_le (Nat.le_of_eq hv)] at H; replace H := nf_Ref5 H) | skip; (try simp only [List.drop_succ_cons, List.drop_zero, List.drop_nil]); try refine wpList_nil ?_) | refine wp_region_lit ?_)
  refine wp_ret ?_
  exact v_end [] [1] tab_ok ⟨hN, hR⟩ (rs := [.tmp 4]) (ress := [_]) rfl H (by rfl) (by rfl) (by simp [pickB, bxs, ren, idx?, sub_refl, sub, allP, hk, hv] <;> omega) (by first | rfl | (simp [hk, hv] <;> omega)) (by first | exact trivial | exact ⟨sub_refl _ _, trivial⟩ | exact ⟨sub_refl _ _, sub_refl _ _, trivial⟩ | exact ⟨sub_refl _ _, sub_refl _ _, sub_refl _ _, trivial⟩ | exact ⟨⟨rfl, sub_refl _ _, trivial⟩, sub_refl _ _, trivial⟩ | (simp [cargs, cargsG, St.ev, St.tmp, find, ren, idx?, sub_refl, sub, allP, resv, resC, bss, hk, hv] <;> omega)) rfl
set_option maxRecDepth 20000 in
theorem innerR_v (k v : List UInt8) (hk : k.length = 32) (hv : v.length = 32) :
    VC Try.prog 93 [.ba k, .ba v] [(5, 65)] (.bs (2 :: (k ++ v)) (some 0)) := by
  refine v_enter Try.func93 rfl (by kernel_rfl) (by show 2 ≤ 9; decide) ?_
  intro N w0 a w hN hR H
  repeat (first | refine wp_seq ?_ | refine wp_block ?_ | refine wp_skip ?_ | refine wp_exit ?_ | ((first | refine v_some 5 tab_ok hN H (by rfl) ct_Ref5 ?_ | refine v_more tab_ok hN H (by rfl) (by rfl) ct_Ref5 ?_); clear H; intro a w H; replace H := nf_Ref5 H; (try simp only [List.drop_succ_cons, List.drop_zero, List.drop_nil]); try refine wpList_nil ?_) | refine wp_region_lit ?_)
  repeat (first | refine wp_seq ?_ | refine wp_block ?_)
  refine v_draw 2 [2, 3] [] (by kernel_rfl) (by kernel_rfl) H (by rfl) (fun gS H => ?_); try replace H := nt_Ref5 H; first | (simp only [List.take_of_length_le (Nat.le_of_eq hk), List.take_of_length_le (Nat.le_of_eq hv)] at H; replace H := nt_Ref5 H) | skip
  refine v_moreT tab_ok hN H (by rfl) (by (try simp only [List.take_of_length_le (Nat.le_of_eq hk), List.take_of_length_le (Nat.le_of_eq hv)]); first | done | exact ct_Ref5) ?_; clear H; intro a w H; try replace H := nt_Ref5 H; first | (simp only [List.take_of_length_le (Nat.le_of_eq hk), List.take_of_length_le (Nat.le_of_eq hv)] at H; replace H := nt_Ref5 H) | skip
  refine v_callT [] [] (textR_v 2 [k, v] (by simp; omega) (by simp)) H (by rfl) (by rfl) rfl rfl (by rfl) (by simp [pickB, bxs, ren, idx?, sub_refl, sub, allP, List.take_of_length_le (Nat.le_of_eq hk), List.take_of_length_le (Nat.le_of_eq hv)] <;> omega) (by first | rfl | (simp [List.take_of_length_le (Nat.le_of_eq hk), List.take_of_length_le (Nat.le_of_eq hv)] <;> omega)) (by first | exact trivial | exact ⟨sub_refl _ _, trivial⟩ | exact ⟨sub_refl _ _, sub_refl _ _, trivial⟩ | exact ⟨sub_refl _ _, sub_refl _ _, sub_refl _ _, trivial⟩ | exact ⟨⟨rfl, sub_refl _ _, trivial⟩, sub_refl _ _, trivial⟩ | (simp [cargs, cargsG, St.ev, St.tmp, find, ren, idx?, sub_refl, sub, allP, resv, resC, bss, List.take_of_length_le (Nat.le_of_eq hk), List.take_of_length_le (Nat.le_of_eq hv)] <;> omega)) ?_; clear H; intro a w H; try replace H := nt_Ref5 H; first | (simp only [List.take_of_length_le (Nat.le_of_eq hk), List.take_of_length_le (Nat.le_of_eq hv)] at H; replace H := nt_Ref5 H) | skip
  refine v_moreT tab_ok hN H (by rfl) (by (try simp only [List.take_of_length_le (Nat.le_of_eq hk), List.take_of_length_le (Nat.le_of_eq hv)]); first | done | exact ct_Ref5) ?_; clear H; intro a w H; try replace H := nt_Ref5 H; first | (simp only [List.take_of_length_le (Nat.le_of_eq hk), List.take_of_length_le (Nat.le_of_eq hv)] at H; replace H := nt_Ref5 H) | skip
  refine v_drawNil H (fun H => ?_)
  repeat (first | refine wp_seq ?_ | refine wp_block ?_ | refine wp_skip ?_ | refine wp_exit ?_ | ((first | refine v_some 5 tab_ok hN H (by rfl) (by (try simp only [List.take_of_length_le (Nat.le_of_eq hk), List.take_of_length_le (Nat.le_of_eq hv)]); first | done | exact ct_Ref5) ?_ | refine v_more tab_ok hN H (by rfl) (by rfl) (by (try simp only [List.take_of_length_le (Nat.le_of_eq hk), List.take_of_length_le (Nat.le_of_eq hv)]); first | done | exact ct_Ref5) ?_); clear H; intro a w H; replace H := nf_Ref5 H; first | (simp only [List.take_of_length_le (Nat.le_of_eq hk), List.take_of_length_le (Nat.le_of_eq hv)] at H; replace H := nf_Ref5 H) | skip; (try simp only [List.drop_succ_cons, List.drop_zero, List.drop_nil]); try refine wpList_nil ?_) | refine wp_region_lit ?_)
  refine wp_ret ?_
  exact v_end [] [1] tab_ok ⟨hN, hR⟩ (rs := [.tmp 4]) (ress := [_]) rfl H (by rfl) (by rfl) (by simp [pickB, bxs, ren, idx?, sub_refl, sub, allP, hk, hv] <;> omega) (by first | rfl | (simp [hk, hv] <;> omega)) (by first | exact trivial | exact ⟨sub_refl _ _, trivial⟩ | exact ⟨sub_refl _ _, sub_refl _ _, trivial⟩ | exact ⟨sub_refl _ _, sub_refl _ _, sub_refl _ _, trivial⟩ | exact ⟨⟨rfl, sub_refl _ _, trivial⟩, sub_refl _ _, trivial⟩ | (simp [cargs, cargsG, St.ev, St.tmp, find, ren, idx?, sub_refl, sub, allP, resv, resC, bss, hk, hv] <;> omega)) rfl
theorem ofR_v (l : List UInt8) (hl : l.length = 32) : VC Try.prog 99 [.bs l none] [] (.tup [.ba l, errv 0]) := by
  refine v_enter Try.func99 rfl (by kernel_rfl) (by show 1 ≤ 21; decide) ?_
  intro N w0 a w hN hR H
  repeat (first | refine wp_seq ?_ | refine wp_block ?_ | refine wp_skip ?_ | refine wp_exit ?_ | ((first | refine v_some 5 tab_ok hN H (by rfl) ct_Ref5 ?_ | refine v_more tab_ok hN H (by rfl) (by rfl) ct_Ref5 ?_); clear H; intro a w H; replace H := nf_Ref5 H; (try simp only [List.drop_succ_cons, List.drop_zero, List.drop_nil]); try refine wpList_nil ?_) | refine wp_region_lit ?_)
  refine v_cond H (by rfl) (fun hb => ?_) (fun hb => ?_)
  · simp [hl] at hb
  · repeat (first | refine wp_seq ?_ | refine wp_block ?_ | refine wp_skip ?_ | refine wp_exit ?_ | ((first | refine v_some 5 tab_ok hN H (by rfl) ct_Ref5 ?_ | refine v_more tab_ok hN H (by rfl) (by rfl) ct_Ref5 ?_); clear H; intro a w H; replace H := nf_Ref5 H; (try simp only [List.drop_succ_cons, List.drop_zero, List.drop_nil]); try refine wpList_nil ?_) | refine wp_region_lit ?_)
    refine v_loop (fun k : Nat => ⟨[(0, none, .bs l none), (2, none, .ptr 0 []), (4, none, .ptr 1 []), (5, none, .v (.int .i64 (k : Int)))], [(.ba 32, .ba (List.replicate 32 0)), (.ba 32, .ba (l.take k ++ List.replicate (32 - k) 0))], [], []⟩) (fun k => k ≤ 32) (fun k => 32 - k) 0 (by decide) (H.to 2 0 ⟨Nat.le_trans hN (by decide), hR⟩ ⟨rfl, rfl, rfl, rfl, trivial⟩ rfl rfl rfl rfl rfl) ?_
    clear H
    intro k a w hk H
    repeat (first | refine wp_seq ?_ | refine wp_block ?_ | refine wp_skip ?_ | refine wp_exit ?_ | ((first | refine v_some 5 tab_ok hN H (by rfl) ct_Ref5 ?_ | refine v_more tab_ok hN H (by rfl) (by rfl) ct_Ref5 ?_); clear H; intro a w H; replace H := nf_Ref5 H; (try simp only [List.drop_succ_cons, List.drop_zero, List.drop_nil]); try refine wpList_nil ?_) | refine wp_region_lit ?_)
    refine v_cond H (by rfl) (fun hb => ?_) (fun hb => ?_)
    · have hlt : k < 32 := by simp at hb; omega
      have hx := (l.getD k 0).toNat_lt
      have hs := set_fill l k 32 0 (by omega) hlt
      repeat (first | refine wp_seq ?_ | refine wp_block ?_ | refine wp_skip ?_ | refine wp_exit ?_ | ((first | refine v_some 5 tab_ok hN H (by rfl) ct_Ref5 ?_ | refine v_more tab_ok hN H (by rfl) (by rfl) ct_Ref5 ?_); clear H; intro a w H; replace H := nf_Ref5 H; (try simp only [List.drop_succ_cons, List.drop_zero, List.drop_nil]); try refine wpList_nil ?_) | refine wp_region_lit ?_)
      rw [hs] at H
      exact ⟨k + 1, by omega, by omega, H.to 2 0 ⟨Nat.le_trans hN (by decide), hR⟩ ⟨rfl, rfl, rfl, rfl, trivial⟩ rfl rfl rfl rfl rfl⟩
    · have : k = 32 := by simp at hb; omega
      subst this
      rw [List.take_of_length_le (by omega), Nat.sub_self, List.replicate_zero, List.append_nil] at H
      repeat (first | refine wp_seq ?_ | refine wp_block ?_ | refine wp_skip ?_ | refine wp_exit ?_ | ((first | refine v_some 5 tab_ok hN H (by rfl) ct_Ref5 ?_ | refine v_more tab_ok hN H (by rfl) (by rfl) ct_Ref5 ?_); clear H; intro a w H; replace H := nf_Ref5 H; (try simp only [List.drop_succ_cons, List.drop_zero, List.drop_nil]); try refine wpList_nil ?_) | refine wp_region_lit ?_)
      refine wp_ret ?_
      exact v_end [] [] tab_ok ⟨hN, hR⟩ (rs := [.cell 2 22, .tmp 3]) (ress := [_, _]) rfl H (by rfl) (by rfl) cb cw ca rfl
end Go.Proofs.Ytlagngkafllbiaa
