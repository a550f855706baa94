/- Digests of a byte and parts: the program's. -/
import Derived.Test.YtlagngkafllbiaaTag
import Derived.Test.YtlagngkafllbiaaWayR
set_option linter.unusedSimpArgs false
set_option linter.unusedVariables false
namespace Go.Proofs.Ytlagngkafllbiaa
open Go Go.RowKit
/-- The state made plain. -/
theorem nf_TagOf {P : Program} {w0 w : World} {N : Gh} {nt : Nat} {st s2 : St} {a : Act} (H : Rel P w0 N nt st a w) (h : st = s2 := by (try simp only [pk, elemB, St.put, St.ev, St.tmp, St.keep, find, dropT, slots, AV.put, AV.loc, fitI, convI, IntKind.signed, IntKind.bits, strip, St.lose, mergeL, setAll, nth, renB, ren, idx?, sub, allP, low, bnd, Int.reduceEq, Nat.reduceAdd, Nat.reduceLT, reduceIte, reduceCtorEq, Nat.reduceEqDiff, Nat.reduceLeDiff, Nat.reduceBEq, Int.reducePow, Int.reduceToNat, ti105_t, ti105_z, ti101_t, ti101_z, ti24_t, ti24_z, ti5_t, ti5_z, ti30_t, ti30_z, ti23_t, ti23_z]); rfl) : Rel P w0 N nt s2 a w := h ▸ H
theorem ct_TagOf {c : Prop} (h : c := by ((try simp only [pk, elemB, St.put, St.ev, St.tmp, St.keep, find, dropT, slots, AV.put, AV.loc, fitI, convI, IntKind.signed, IntKind.bits, strip, St.lose, mergeL, setAll, nth, renB, ren, idx?, sub, allP, low, bnd, Int.reduceEq, Nat.reduceAdd, Nat.reduceLT, reduceIte, reduceCtorEq, Nat.reduceEqDiff, Nat.reduceLeDiff, Nat.reduceBEq, Int.reducePow, Int.reduceToNat, ti105_t, ti105_z, ti101_t, ti101_z, ti24_t, ti24_z, ti5_t, ti5_z, ti30_t, ti30_z, ti23_t, ti23_z, ti105, ti101, ti24, ti5, ti30, ti23, fit, gcond, ilo, ihi]); first | done | exact cd | exact cd2 | skip)) : c := h
theorem of_v (t : UInt8) (ls : List (List UInt8)) (hb : ls.flatten.length ≤ 34359737000) (hl : ls.length ≤ 34359737000) : VC Try.prog 68 [.v (B8 t), .sl .sc (bss ls) none] [] (.ba (sum (t :: ls.flatten))) := by
  have hbl := bss_len ls
  have ht := t.toNat_lt
  refine v_enter Try.func68 rfl (by kernel_rfl) (by show 2 ≤ 25; decide) ?_
  intro N w0 a w hN hR H
  repeat (first | refine wp_seq ?_ | refine wp_block ?_ | refine wp_skip ?_ | refine wp_exit ?_ | ((first | refine v_some 5 tab_ok hN H (by rfl) (by (try simp only [ren_s8v, ren_shv, s8v, shv, W32, h0]); first | done | exact ct_TagOf) ?_ | refine v_more tab_ok hN H (by rfl) (by rfl) (by (try simp only [ren_s8v, ren_shv, s8v, shv, W32, h0]); first | done | exact ct_TagOf) ?_); clear H; intro a w H; replace H := nf_TagOf H; first | (simp only [ren_s8v, ren_shv] at H; replace H := nf_TagOf H) | skip; (try simp only [List.drop_succ_cons, List.drop_zero, List.drop_nil]); try refine wpList_nil ?_) | refine wp_region_lit ?_)
  refine v_call [] [] (new_v) H rfl rfl (by rfl) (by simp [pickB, bxs, ren, idx?, sub_refl, sub, allP, ren_s8v, ren_shv] <;> omega) (by first | rfl | (simp [ren_s8v, ren_shv] <;> omega)) (by first | exact trivial | exact ⟨sub_refl _ _, trivial⟩ | exact ⟨sub_refl _ _, sub_refl _ _, trivial⟩ | exact ⟨sub_refl _ _, sub_refl _ _, sub_refl _ _, trivial⟩ | exact ⟨⟨rfl, sub_refl _ _, trivial⟩, sub_refl _ _, trivial⟩ | (simp [cargs, cargsG, St.ev, St.tmp, find, ren, idx?, sub_refl, sub, allP, resv, resC, bss, ren_s8v, ren_shv] <;> omega)) ?_; clear H; intro a w H; replace H := nf_TagOf H; first | (simp only [ren_s8v, ren_shv] at H; replace H := nf_TagOf H) | skip; try refine wpList_nil ?_
  repeat (first | refine wp_seq ?_ | refine wp_block ?_ | refine wp_skip ?_ | refine wp_exit ?_ | ((first | refine v_some 5 tab_ok hN H (by rfl) (by (try simp only [ren_s8v, ren_shv, s8v, shv, W32, h0]); first | done | exact ct_TagOf) ?_ | refine v_more tab_ok hN H (by rfl) (by rfl) (by (try simp only [ren_s8v, ren_shv, s8v, shv, W32, h0]); first | done | exact ct_TagOf) ?_); clear H; intro a w H; replace H := nf_TagOf H; first | (simp only [ren_s8v, ren_shv] at H; replace H := nf_TagOf H) | skip; (try simp only [List.drop_succ_cons, List.drop_zero, List.drop_nil]); try refine wpList_nil ?_) | refine wp_region_lit ?_)
  obtain ⟨s1, b1, n1, h1, hw1⟩ := write_g [] [t] h0 (List.replicate 64 0) 0 good_nil (by simp) 0 (by decide)
  refine v_call [1] [] (hw1) H rfl rfl (by rfl) (by simp [pickB, bxs, ren, idx?, sub_refl, sub, allP, ren_s8v, ren_shv, Nat.zero_add] <;> omega) (by first | rfl | (simp [ren_s8v, ren_shv, Nat.zero_add] <;> omega)) (by first | exact trivial | exact ⟨sub_refl _ _, trivial⟩ | exact ⟨sub_refl _ _, sub_refl _ _, trivial⟩ | exact ⟨sub_refl _ _, sub_refl _ _, sub_refl _ _, trivial⟩ | exact ⟨⟨rfl, sub_refl _ _, trivial⟩, sub_refl _ _, trivial⟩ | (simp [cargs, cargsG, St.ev, St.tmp, find, ren, idx?, sub_refl, sub, allP, resv, resC, bss, ren_s8v, ren_shv, Nat.zero_add] <;> omega)) ?_; clear H; intro a w H; replace H := nf_TagOf H; first | (simp only [ren_s8v, ren_shv, Nat.zero_add] at H; replace H := nf_TagOf H) | skip; try refine wpList_nil ?_
  repeat (first | refine wp_seq ?_ | refine wp_block ?_ | refine wp_skip ?_ | refine wp_exit ?_ | ((first | refine v_some 5 tab_ok hN H (by rfl) (by (try simp only [ren_s8v, ren_shv, Nat.zero_add, s8v, shv, W32, h0]); first | done | exact ct_TagOf) ?_ | refine v_more tab_ok hN H (by rfl) (by rfl) (by (try simp only [ren_s8v, ren_shv, Nat.zero_add, s8v, shv, W32, h0]); first | done | exact ct_TagOf) ?_); clear H; intro a w H; replace H := nf_TagOf H; first | (simp only [ren_s8v, ren_shv, Nat.zero_add] at H; replace H := nf_TagOf H) | skip; (try simp only [List.drop_succ_cons, List.drop_zero, List.drop_nil]); try refine wpList_nil ?_) | refine wp_region_lit ?_)
  refine v_loop (fun i : S8 × List UInt8 × Nat × Nat => ⟨[(4, none, .ptr 0 []), (5, none, .ptr 1 []), (15, none, .v (.int .i64 (i.2.2.2 : Int))), (14, none, .v (.int .i64 (ls.length : Int))), (13, none, .sl .sc (bss ls) none)], [(.ba 32, .ba (List.replicate 32 0)), (ti105.ty, shv i.1 i.2.1 i.2.2.1 (1 + (ls.take i.2.2.2).flatten.length))], [], []⟩)
    (fun i => Good (t :: (ls.take i.2.2.2).flatten) i.1 i.2.1 i.2.2.1 ∧ i.2.2.2 ≤ ls.length) (fun i => ls.length - i.2.2.2) (s1, b1, n1, 0) ⟨by simpa using h1, Nat.zero_le _⟩
    (H.to 2 0 ⟨Nat.le_trans hN (by decide), hR⟩ ⟨rfl, rfl, rfl, by rw [hbl]; rfl, rfl, trivial⟩ rfl rfl rfl rfl rfl) ?_
  clear H
  rintro ⟨s2, b2, n2, k⟩ a w ⟨h2, hk⟩ H
  dsimp only at h2 hk H
  repeat (first | refine wp_seq ?_ | refine wp_block ?_ | refine wp_skip ?_ | refine wp_exit ?_ | ((first | refine v_some 5 tab_ok hN H (by rfl) (by (try simp only [ren_s8v, ren_shv, Nat.zero_add, s8v, shv, W32, h0]); first | done | exact ct_TagOf) ?_ | refine v_more tab_ok hN H (by rfl) (by rfl) (by (try simp only [ren_s8v, ren_shv, Nat.zero_add, s8v, shv, W32, h0]); first | done | exact ct_TagOf) ?_); clear H; intro a w H; replace H := nf_TagOf H; first | (simp only [ren_s8v, ren_shv, Nat.zero_add] at H; replace H := nf_TagOf H) | skip; (try simp only [List.drop_succ_cons, List.drop_zero, List.drop_nil]); try refine wpList_nil ?_) | refine wp_region_lit ?_)
  refine v_cond H (by rfl) (fun hb => ?_) (fun hb => ?_)
  · have hlt : k < ls.length := by simpa using hb
    have hf := flat_take_le ls (k + 1)
    rw [flat_take ls k hlt, List.length_append] at hf
    refine wp_skip ?_
    refine wp_seq ?_
    refine wp_block ?_
    refine wp_seq ?_
    (try refine wp_region_lit ?_); refine v_steps 2 tab_ok hN H (by rfl) (by (try simp only [ren_s8v, ren_shv, Nat.zero_add, s8v, shv, W32, h0]); first | done | exact ct_TagOf) ?_; clear H; intro a w H; replace H := nf_TagOf H; first | (simp only [ren_s8v, ren_shv, Nat.zero_add] at H; replace H := nf_TagOf H) | skip
    rw [bss_get ls k hlt] at H
    repeat (first | refine wp_seq ?_ | refine wp_block ?_ | refine wp_skip ?_ | refine wp_exit ?_ | ((first | refine v_some 5 tab_ok hN H (by rfl) (by (try simp only [ren_s8v, ren_shv, Nat.zero_add, s8v, shv, W32, h0]); first | done | exact ct_TagOf) ?_ | refine v_more tab_ok hN H (by rfl) (by rfl) (by (try simp only [ren_s8v, ren_shv, Nat.zero_add, s8v, shv, W32, h0]); first | done | exact ct_TagOf) ?_); clear H; intro a w H; replace H := nf_TagOf H; first | (simp only [ren_s8v, ren_shv, Nat.zero_add] at H; replace H := nf_TagOf H) | skip; (try simp only [List.drop_succ_cons, List.drop_zero, List.drop_nil]); try refine wpList_nil ?_) | refine wp_region_lit ?_)
    obtain ⟨s3, b3, n3, h3, hw3⟩ := write_g _ ls[k] s2 b2 n2 h2 (by omega) (1 + (ls.take k).flatten.length) (by omega)
    refine v_call [1] [] (hw3) H rfl rfl (by rfl) (by simp [pickB, bxs, ren, idx?, sub_refl, sub, allP, ren_s8v, ren_shv, Nat.zero_add] <;> omega) (by first | rfl | (simp [ren_s8v, ren_shv, Nat.zero_add] <;> omega)) (by first | exact trivial | exact ⟨sub_refl _ _, trivial⟩ | exact ⟨sub_refl _ _, sub_refl _ _, trivial⟩ | exact ⟨sub_refl _ _, sub_refl _ _, sub_refl _ _, trivial⟩ | exact ⟨⟨rfl, sub_refl _ _, trivial⟩, sub_refl _ _, trivial⟩ | (simp [cargs, cargsG, St.ev, St.tmp, find, ren, idx?, sub_refl, sub, allP, resv, resC, bss, ren_s8v, ren_shv, Nat.zero_add] <;> omega)) ?_; clear H; intro a w H; replace H := nf_TagOf H; first | (simp only [ren_s8v, ren_shv, Nat.zero_add] at H; replace H := nf_TagOf H) | skip; try refine wpList_nil ?_
    repeat (first | refine wp_seq ?_ | refine wp_block ?_ | refine wp_skip ?_ | refine wp_exit ?_ | ((first | refine v_some 5 tab_ok hN H (by rfl) (by (try simp only [ren_s8v, ren_shv, Nat.zero_add, s8v, shv, W32, h0]); first | done | exact ct_TagOf) ?_ | refine v_more tab_ok hN H (by rfl) (by rfl) (by (try simp only [ren_s8v, ren_shv, Nat.zero_add, s8v, shv, W32, h0]); first | done | exact ct_TagOf) ?_); clear H; intro a w H; replace H := nf_TagOf H; first | (simp only [ren_s8v, ren_shv, Nat.zero_add] at H; replace H := nf_TagOf H) | skip; (try simp only [List.drop_succ_cons, List.drop_zero, List.drop_nil]); try refine wpList_nil ?_) | refine wp_region_lit ?_)
    refine ⟨(s3, b3, n3, k + 1), ⟨by rw [flat_take ls k hlt]; simpa using h3, hlt⟩, by dsimp only; omega, H.to 2 0 ⟨Nat.le_trans hN (by decide), hR⟩ ⟨rfl, rfl, rfl, rfl, rfl, trivial⟩ (by rw [flat_take ls k hlt, List.length_append]; simp only [List.take_succ_cons, List.take_zero]; rw [Nat.add_assoc]; rfl) rfl rfl rfl rfl⟩
  · have hge : k = ls.length := by simp at hb; omega
    subst hge
    rw [List.take_length] at h2 H
    have hsl := sum_length (t :: ls.flatten)
    have h1l : (t :: ls.flatten).length = 1 + ls.flatten.length := by simp; omega
    have hsum := sumS_v (t :: ls.flatten) s2 b2 n2 h2 (by rw [h1l]; omega)
    rw [h1l] at hsum
    repeat (first | refine wp_seq ?_ | refine wp_block ?_ | refine wp_skip ?_ | refine wp_exit ?_ | ((first | refine v_some 5 tab_ok hN H (by rfl) (by (try simp only [ren_s8v, ren_shv, Nat.zero_add, s8v, shv, W32, h0]); first | done | exact ct_TagOf) ?_ | refine v_more tab_ok hN H (by rfl) (by rfl) (by (try simp only [ren_s8v, ren_shv, Nat.zero_add, s8v, shv, W32, h0]); first | done | exact ct_TagOf) ?_); clear H; intro a w H; replace H := nf_TagOf H; first | (simp only [ren_s8v, ren_shv, Nat.zero_add] at H; replace H := nf_TagOf H) | skip; (try simp only [List.drop_succ_cons, List.drop_zero, List.drop_nil]); try refine wpList_nil ?_) | refine wp_region_lit ?_)
    refine v_call [1] [] (hsum) H rfl rfl (by rfl) (by simp [pickB, bxs, ren, idx?, sub_refl, sub, allP, ren_s8v, ren_shv, Nat.zero_add] <;> omega) (by first | rfl | (simp [ren_s8v, ren_shv, Nat.zero_add] <;> omega)) (by first | exact trivial | exact ⟨sub_refl _ _, trivial⟩ | exact ⟨sub_refl _ _, sub_refl _ _, trivial⟩ | exact ⟨sub_refl _ _, sub_refl _ _, sub_refl _ _, trivial⟩ | exact ⟨⟨rfl, sub_refl _ _, trivial⟩, sub_refl _ _, trivial⟩ | (simp [cargs, cargsG, St.ev, St.tmp, find, ren, idx?, sub_refl, sub, allP, resv, resC, bss, ren_s8v, ren_shv, Nat.zero_add] <;> omega)) ?_; clear H; intro a w H; replace H := nf_TagOf H; first | (simp only [ren_s8v, ren_shv, Nat.zero_add] at H; replace H := nf_TagOf H) | skip; try refine wpList_nil ?_
    repeat (first | refine wp_seq ?_ | refine wp_block ?_ | refine wp_skip ?_ | refine wp_exit ?_ | ((first | refine v_some 5 tab_ok hN H (by rfl) (by (try simp only [ren_s8v, ren_shv, Nat.zero_add, s8v, shv, W32, h0]); first | done | exact ct_TagOf) ?_ | refine v_more tab_ok hN H (by rfl) (by rfl) (by (try simp only [ren_s8v, ren_shv, Nat.zero_add, s8v, shv, W32, h0]); first | done | exact ct_TagOf) ?_); clear H; intro a w H; replace H := nf_TagOf H; first | (simp only [ren_s8v, ren_shv, Nat.zero_add] at H; replace H := nf_TagOf H) | skip; (try simp only [List.drop_succ_cons, List.drop_zero, List.drop_nil]); try refine wpList_nil ?_) | refine wp_region_lit ?_)
    refine wp_ret ?_
    exact v_end [] [] tab_ok ⟨hN, hR⟩ (rs := [.cell 4 30]) (ress := [_]) rfl H (by rfl) (by rfl) (by simp [pickB, bxs, ren, idx?, sub_refl, sub, allP, ren_s8v, ren_shv, Nat.zero_add] <;> omega) (by first | rfl | (simp [ren_s8v, ren_shv, Nat.zero_add] <;> omega)) (by first | exact trivial | exact ⟨sub_refl _ _, trivial⟩ | exact ⟨sub_refl _ _, sub_refl _ _, trivial⟩ | exact ⟨sub_refl _ _, sub_refl _ _, sub_refl _ _, trivial⟩ | exact ⟨⟨rfl, sub_refl _ _, trivial⟩, sub_refl _ _, trivial⟩ | (simp [cargs, cargsG, St.ev, St.tmp, find, ren, idx?, sub_refl, sub, allP, resv, resC, bss, ren_s8v, ren_shv, Nat.zero_add] <;> omega)) rfl
theorem empty_v : VC Try.prog 76 [] [] (.ba (sum [0])) := by
  have hsl := sum_length [0]
  refine v_enter Try.func76 rfl (by kernel_rfl) (by show 0 ≤ 2; decide) ?_
  intro N w0 a w hN hR H
  repeat (first | refine wp_seq ?_ | refine wp_block ?_ | refine wp_skip ?_ | refine wp_exit ?_ | ((first | refine v_some 5 tab_ok hN H (by rfl) (by (try simp only [ren_s8v, ren_shv, Nat.zero_add, s8v, shv, W32, h0]); first | done | exact ct_TagOf) ?_ | refine v_more tab_ok hN H (by rfl) (by rfl) (by (try simp only [ren_s8v, ren_shv, Nat.zero_add, s8v, shv, W32, h0]); first | done | exact ct_TagOf) ?_); clear H; intro a w H; replace H := nf_TagOf H; first | (simp only [ren_s8v, ren_shv, Nat.zero_add] at H; replace H := nf_TagOf H) | skip; (try simp only [List.drop_succ_cons, List.drop_zero, List.drop_nil]); try refine wpList_nil ?_) | refine wp_region_lit ?_)
  refine v_call [] [] (of_v 0 [] (by simp) (by simp)) H rfl rfl (by rfl) (by simp [pickB, bxs, ren, idx?, sub_refl, sub, allP, ren_s8v, ren_shv, Nat.zero_add] <;> omega) (by first | rfl | (simp [ren_s8v, ren_shv, Nat.zero_add] <;> omega)) (by first | exact trivial | exact ⟨sub_refl _ _, trivial⟩ | exact ⟨sub_refl _ _, sub_refl _ _, trivial⟩ | exact ⟨sub_refl _ _, sub_refl _ _, sub_refl _ _, trivial⟩ | exact ⟨⟨rfl, sub_refl _ _, trivial⟩, sub_refl _ _, trivial⟩ | (simp [cargs, cargsG, St.ev, St.tmp, find, ren, idx?, sub_refl, sub, allP, resv, resC, bss, ren_s8v, ren_shv, Nat.zero_add] <;> omega)) ?_; clear H; intro a w H; replace H := nf_TagOf H; first | (simp only [ren_s8v, ren_shv, Nat.zero_add] at H; replace H := nf_TagOf H) | skip; try refine wpList_nil ?_
  repeat (first | refine wp_seq ?_ | refine wp_block ?_ | refine wp_skip ?_ | refine wp_exit ?_ | ((first | refine v_some 5 tab_ok hN H (by rfl) (by (try simp only [ren_s8v, ren_shv, Nat.zero_add, s8v, shv, W32, h0]); first | done | exact ct_TagOf) ?_ | refine v_more tab_ok hN H (by rfl) (by rfl) (by (try simp only [ren_s8v, ren_shv, Nat.zero_add, s8v, shv, W32, h0]); first | done | exact ct_TagOf) ?_); clear H; intro a w H; replace H := nf_TagOf H; first | (simp only [ren_s8v, ren_shv, Nat.zero_add] at H; replace H := nf_TagOf H) | skip; (try simp only [List.drop_succ_cons, List.drop_zero, List.drop_nil]); try refine wpList_nil ?_) | refine wp_region_lit ?_)
  refine wp_ret ?_
  exact v_end [] [] tab_ok ⟨hN, hR⟩ (rs := [.cell 0 30]) (ress := [_]) rfl H (by rfl) (by rfl) (by simp [pickB, bxs, ren, idx?, sub_refl, sub, allP, ren_s8v, ren_shv, Nat.zero_add] <;> omega) (by first | rfl | (simp [ren_s8v, ren_shv, Nat.zero_add] <;> omega)) (by first | exact trivial | exact ⟨sub_refl _ _, trivial⟩ | exact ⟨sub_refl _ _, sub_refl _ _, trivial⟩ | exact ⟨sub_refl _ _, sub_refl _ _, sub_refl _ _, trivial⟩ | exact ⟨⟨rfl, sub_refl _ _, trivial⟩, sub_refl _ _, trivial⟩ | (simp [cargs, cargsG, St.ev, St.tmp, find, ren, idx?, sub_refl, sub, allP, resv, resC, bss, ren_s8v, ren_shv, Nat.zero_add] <;> omega)) rfl
end Go.Proofs.Ytlagngkafllbiaa
/- Nodes: what is read. -/
namespace Go.Proofs.Ytlagngkafllbiaa
open Go Go.RowKit
/-- The state made plain. -/
theorem nf_Node2 {P : Program} {w0 w : World} {N : Gh} {nt : Nat} {st s2 : St} {a : Act} (H : Rel P w0 N nt st a w) (h : st = s2 := by (try simp only [pk, elemB, St.put, St.ev, St.tmp, St.keep, find, dropT, slots, AV.put, AV.loc, fitI, convI, IntKind.signed, IntKind.bits, strip, St.lose, mergeL, setAll, nth, renB, ren, idx?, sub, allP, low, bnd, Int.reduceEq, Nat.reduceAdd, Nat.reduceLT, reduceIte, reduceCtorEq, Nat.reduceEqDiff, Nat.reduceLeDiff, Nat.reduceBEq, Int.reducePow, Int.reduceToNat, ti24_t, ti24_z, ti5_t, ti5_z, ti62_t, ti62_z, ti30_t, ti30_z, ti23_t, ti23_z]); rfl) : Rel P w0 N nt s2 a w := h ▸ H
theorem nt_Node2 {P : Program} {w0 w : World} {N gS : Gh} {nt : Nat} {q q2 st s2 : St} {a : Act} (H : RelT P w0 N nt gS q st a w) (h1 : q = q2 := by (try simp only [pk, elemB, St.put, St.ev, St.tmp, St.keep, find, dropT, slots, AV.put, AV.loc, fitI, convI, IntKind.signed, IntKind.bits, strip, St.lose, mergeL, setAll, nth, renB, ren, idx?, sub, allP, low, bnd, Int.reduceEq, Nat.reduceAdd, Nat.reduceLT, reduceIte, reduceCtorEq, Nat.reduceEqDiff, Nat.reduceLeDiff, Nat.reduceBEq, Int.reducePow, Int.reduceToNat, ti24_t, ti24_z, ti5_t, ti5_z, ti62_t, ti62_z, ti30_t, ti30_z, ti23_t, ti23_z]); rfl) (h : st = s2 := by (try simp only [pk, elemB, St.put, St.ev, St.tmp, St.keep, find, dropT, slots, AV.put, AV.loc, fitI, convI, IntKind.signed, IntKind.bits, strip, St.lose, mergeL, setAll, nth, renB, ren, idx?, sub, allP, low, bnd, Int.reduceEq, Nat.reduceAdd, Nat.reduceLT, reduceIte, reduceCtorEq, Nat.reduceEqDiff, Nat.reduceLeDiff, Nat.reduceBEq, Int.reducePow, Int.reduceToNat, ti24_t, ti24_z, ti5_t, ti5_z, ti62_t, ti62_z, ti30_t, ti30_z, ti23_t, ti23_z]); rfl) : RelT P w0 N nt gS q2 s2 a w := h1 ▸ h ▸ H
theorem ct_Node2 {c : Prop} (h : c := by ((try simp only [pk, elemB, St.put, St.ev, St.tmp, St.keep, find, dropT, slots, AV.put, AV.loc, fitI, convI, IntKind.signed, IntKind.bits, strip, St.lose, mergeL, setAll, nth, renB, ren, idx?, sub, allP, low, bnd, Int.reduceEq, Nat.reduceAdd, Nat.reduceLT, reduceIte, reduceCtorEq, Nat.reduceEqDiff, Nat.reduceLeDiff, Nat.reduceBEq, Int.reducePow, Int.reduceToNat, ti24_t, ti24_z, ti5_t, ti5_z, ti62_t, ti62_z, ti30_t, ti30_z, ti23_t, ti23_z, ti24, ti5, ti62, ti30, ti23, fit, gcond, ilo, ihi]); first | done | exact cd | exact cd2 | skip)) : c := h
def Nd.one (a b : List UInt8) : Nd := ⟨1, a, b, z32, z32⟩
def Nd.two (a b : List UInt8) : Nd := ⟨2, z32, z32, a, b⟩
theorem decode_zero : VC Try.prog 78 [.bs [0] none] [] (.tup [Nd.zero.av, errv 0]) := by
  refine v_enter Try.func78 rfl (by kernel_rfl) (by show 1 ≤ 54; decide) ?_
  intro N w0 a w hN hR H
  repeat (first | refine wp_seq ?_ | refine wp_block ?_ | refine wp_skip ?_ | refine wp_exit ?_ | ((first | refine v_some 5 tab_ok hN H (by rfl) ct_Node2 ?_ | refine v_more tab_ok hN H (by rfl) (by rfl) ct_Node2 ?_); clear H; intro a w H; replace H := nf_Node2 H; (try simp only [List.drop_succ_cons, List.drop_zero, List.drop_nil]); try refine wpList_nil ?_) | refine wp_region_lit ?_)
  refine v_cond H (by rfl) (fun hb => ?_) (fun hb => ?_)
  · repeat (first | refine wp_seq ?_ | refine wp_block ?_ | refine wp_skip ?_ | refine wp_exit ?_ | ((first | refine v_some 5 tab_ok hN H (by rfl) ct_Node2 ?_ | refine v_more tab_ok hN H (by rfl) (by rfl) ct_Node2 ?_); clear H; intro a w H; replace H := nf_Node2 H; (try simp only [List.drop_succ_cons, List.drop_zero, List.drop_nil]); try refine wpList_nil ?_) | refine wp_region_lit ?_)
    refine wp_ret ?_
    exact v_end [] [] tab_ok ⟨hN, hR⟩ (rs := [.cell 2 62, .tmp 3]) (ress := [_, _]) rfl H (by rfl) (by rfl) cb cw ca rfl
  · simp at hb
theorem decode_one (m : List UInt8) (hm : m.length = 64) : VC Try.prog 78 [.bs (1 :: m) none] [] (.tup [(Nd.one (m.take 32) (m.drop 32)).av, errv 0]) := by
  have e1 : (m.drop 32).take 32 = m.drop 32 := List.take_of_length_le (by simp; omega)
  refine v_enter Try.func78 rfl (by kernel_rfl) (by show 1 ≤ 54; decide) ?_
  intro N w0 a w hN hR H
  repeat (first | refine wp_seq ?_ | refine wp_block ?_ | refine wp_skip ?_ | refine wp_exit ?_ | ((first | refine v_some 5 tab_ok hN H (by rfl) ct_Node2 ?_ | refine v_more tab_ok hN H (by rfl) (by rfl) ct_Node2 ?_); clear H; intro a w H; replace H := nf_Node2 H; (try simp only [List.drop_succ_cons, List.drop_zero, List.drop_nil]); try refine wpList_nil ?_) | refine wp_region_lit ?_)
  refine v_cond H (by rfl) (fun hb => ?_) (fun hb => ?_)
  · simp [hm] at hb
  · repeat (first | refine wp_seq ?_ | refine wp_block ?_ | refine wp_skip ?_ | refine wp_exit ?_ | ((first | refine v_some 5 tab_ok hN H (by rfl) ct_Node2 ?_ | refine v_more tab_ok hN H (by rfl) (by rfl) ct_Node2 ?_); clear H; intro a w H; replace H := nf_Node2 H; (try simp only [List.drop_succ_cons, List.drop_zero, List.drop_nil]); try refine wpList_nil ?_) | refine wp_region_lit ?_)
    refine v_cond H (by rfl) (fun hb => ?_) (fun hb => ?_)
    · replace H := H.keep [0, 2, 3] 1 0 ⟨Nat.le_trans hN (by show _ ≤ 1; decide), Nat.le_trans hR (by show _ ≤ 0; decide)⟩ (by rfl) (by rfl)
      replace H := nf_Node2 H; first | (simp only [List.take_take, Nat.min_self, e1] at H; replace H := nf_Node2 H) | skip
      repeat (first | refine wp_seq ?_ | refine wp_block ?_)
      refine v_draw 0 [9] [] (by kernel_rfl) (by kernel_rfl) H (by rfl) (fun gS H => ?_); try replace H := nt_Node2 H; first | (simp only [List.take_take, Nat.min_self, e1] at H; replace H := nt_Node2 H) | skip
      refine v_moreT tab_ok hN H (by rfl) (by (try simp only [List.take_take, Nat.min_self, e1]); first | done | exact ct_Node2) ?_; clear H; intro a w H; try replace H := nt_Node2 H; first | (simp only [List.take_take, Nat.min_self, e1] at H; replace H := nt_Node2 H) | skip
      refine v_drawNil H (fun H => ?_)
      repeat (first | refine wp_seq ?_ | refine wp_block ?_ | refine wp_skip ?_ | refine wp_exit ?_ | ((first | refine v_some 5 tab_ok hN H (by rfl) (by (try simp only [List.take_take, Nat.min_self, e1]); first | done | exact ct_Node2) ?_ | refine v_more tab_ok hN H (by rfl) (by rfl) (by (try simp only [List.take_take, Nat.min_self, e1]); first | done | exact ct_Node2) ?_); clear H; intro a w H; replace H := nf_Node2 H; first | (simp only [List.take_take, Nat.min_self, e1] at H; replace H := nf_Node2 H) | skip; (try simp only [List.drop_succ_cons, List.drop_zero, List.drop_nil]); try refine wpList_nil ?_) | refine wp_region_lit ?_)
      refine wp_ret ?_
      exact v_end [] [] tab_ok ⟨hN, hR⟩ (rs := [.cell 2 62, .tmp 3]) (ress := [_, _]) rfl H (by rfl) (by rfl) (by simp [pickB, bxs, ren, idx?, sub_refl, sub, allP, List.take_take, Nat.min_self, e1] <;> omega) (by first | rfl | (simp [List.take_take, Nat.min_self, e1] <;> omega)) (by first | exact trivial | exact ⟨sub_refl _ _, trivial⟩ | exact ⟨sub_refl _ _, sub_refl _ _, trivial⟩ | exact ⟨sub_refl _ _, sub_refl _ _, sub_refl _ _, trivial⟩ | exact ⟨⟨rfl, sub_refl _ _, trivial⟩, sub_refl _ _, trivial⟩ | (simp [cargs, cargsG, St.ev, St.tmp, find, ren, idx?, sub_refl, sub, allP, resv, resC, bss, List.take_take, Nat.min_self, e1] <;> omega)) rfl
    · simp [hm] at hb
theorem decode_two (m : List UInt8) (hm : m.length = 64) : VC Try.prog 78 [.bs (2 :: m) none] [] (.tup [(Nd.two (m.take 32) (m.drop 32)).av, errv 0]) := by
  have e1 : (m.drop 32).take 32 = m.drop 32 := List.take_of_length_le (by simp; omega)
  refine v_enter Try.func78 rfl (by kernel_rfl) (by show 1 ≤ 54; decide) ?_
  intro N w0 a w hN hR H
  repeat (first | refine wp_seq ?_ | refine wp_block ?_ | refine wp_skip ?_ | refine wp_exit ?_ | ((first | refine v_some 5 tab_ok hN H (by rfl) ct_Node2 ?_ | refine v_more tab_ok hN H (by rfl) (by rfl) ct_Node2 ?_); clear H; intro a w H; replace H := nf_Node2 H; (try simp only [List.drop_succ_cons, List.drop_zero, List.drop_nil]); try refine wpList_nil ?_) | refine wp_region_lit ?_)
  refine v_cond H (by rfl) (fun hb => ?_) (fun hb => ?_)
  · simp [hm] at hb
  · repeat (first | refine wp_seq ?_ | refine wp_block ?_ | refine wp_skip ?_ | refine wp_exit ?_ | ((first | refine v_some 5 tab_ok hN H (by rfl) ct_Node2 ?_ | refine v_more tab_ok hN H (by rfl) (by rfl) ct_Node2 ?_); clear H; intro a w H; replace H := nf_Node2 H; (try simp only [List.drop_succ_cons, List.drop_zero, List.drop_nil]); try refine wpList_nil ?_) | refine wp_region_lit ?_)
    refine v_cond H (by rfl) (fun hb => ?_) (fun hb => ?_)
    · simp at hb
    · repeat (first | refine wp_seq ?_ | refine wp_block ?_ | refine wp_skip ?_ | refine wp_exit ?_ | ((first | refine v_some 5 tab_ok hN H (by rfl) ct_Node2 ?_ | refine v_more tab_ok hN H (by rfl) (by rfl) ct_Node2 ?_); clear H; intro a w H; replace H := nf_Node2 H; (try simp only [List.drop_succ_cons, List.drop_zero, List.drop_nil]); try refine wpList_nil ?_) | refine wp_region_lit ?_)
      refine v_cond H (by rfl) (fun hb => ?_) (fun hb => ?_)
      · replace H := H.keep [0, 2, 3] 1 0 ⟨Nat.le_trans hN (by show _ ≤ 1; decide), Nat.le_trans hR (by show _ ≤ 0; decide)⟩ (by rfl) (by rfl)
        replace H := nf_Node2 H; first | (simp only [List.take_take, Nat.min_self, e1] at H; replace H := nf_Node2 H) | skip
        repeat (first | refine wp_seq ?_ | refine wp_block ?_)
        refine v_draw 0 [9] [] (by kernel_rfl) (by kernel_rfl) H (by rfl) (fun gS H => ?_); try replace H := nt_Node2 H; first | (simp only [List.take_take, Nat.min_self, e1] at H; replace H := nt_Node2 H) | skip
        refine v_moreT tab_ok hN H (by rfl) (by (try simp only [List.take_take, Nat.min_self, e1]); first | done | exact ct_Node2) ?_; clear H; intro a w H; try replace H := nt_Node2 H; first | (simp only [List.take_take, Nat.min_self, e1] at H; replace H := nt_Node2 H) | skip
        refine v_drawNil H (fun H => ?_)
        repeat (first | refine wp_seq ?_ | refine wp_block ?_ | refine wp_skip ?_ | refine wp_exit ?_ | ((first | refine v_some 5 tab_ok hN H (by rfl) (by (try simp only [List.take_take, Nat.min_self, e1]); first | done | exact ct_Node2) ?_ | refine v_more tab_ok hN H (by rfl) (by rfl) (by (try simp only [List.take_take, Nat.min_self, e1]); first | done | exact ct_Node2) ?_); clear H; intro a w H; replace H := nf_Node2 H; first | (simp only [List.take_take, Nat.min_self, e1] at H; replace H := nf_Node2 H) | skip; (try simp only [List.drop_succ_cons, List.drop_zero, List.drop_nil]); try refine wpList_nil ?_) | refine wp_region_lit ?_)
        refine wp_ret ?_
        exact v_end [] [] tab_ok ⟨hN, hR⟩ (rs := [.cell 2 62, .tmp 3]) (ress := [_, _]) rfl H (by rfl) (by rfl) (by simp [pickB, bxs, ren, idx?, sub_refl, sub, allP, List.take_take, Nat.min_self, e1] <;> omega) (by first | rfl | (simp [List.take_take, Nat.min_self, e1] <;> omega)) (by first | exact trivial | exact ⟨sub_refl _ _, trivial⟩ | exact ⟨sub_refl _ _, sub_refl _ _, trivial⟩ | exact ⟨sub_refl _ _, sub_refl _ _, sub_refl _ _, trivial⟩ | exact ⟨⟨rfl, sub_refl _ _, trivial⟩, sub_refl _ _, trivial⟩ | (simp [cargs, cargsG, St.ev, St.tmp, find, ren, idx?, sub_refl, sub, allP, resv, resC, bss, List.take_take, Nat.min_self, e1] <;> omega)) rfl
      · simp [hm] at hb
theorem decode_bad (l : List UInt8) (h0 : l ≠ [0]) (h1 : ¬ (l.length = 65 ∧ (l.getD 0 0 = 1 ∨ l.getD 0 0 = 2))) : VC Try.prog 78 [.bs l none] [] (.tup [Nd.zero.av, errv 10]) := by
  have hx : ∀ k : Nat, k < 256 → ((((l.getD 0 0).toNat : Nat) : Int) = (k : Int) → l.getD 0 0 = UInt8.ofNat k) := fun k hk h => UInt8.toNat_inj.1 (by rw [UInt8.toNat_ofNat']; omega)
  refine v_enter Try.func78 rfl (by kernel_rfl) (by show 1 ≤ 54; decide) ?_
  intro N w0 a w hN hR H
  repeat (first | refine wp_seq ?_ | refine wp_block ?_ | refine wp_skip ?_ | refine wp_exit ?_ | ((first | refine v_some 5 tab_ok hN H (by rfl) ct_Node2 ?_ | refine v_more tab_ok hN H (by rfl) (by rfl) ct_Node2 ?_); clear H; intro a w H; replace H := nf_Node2 H; (try simp only [List.drop_succ_cons, List.drop_zero, List.drop_nil]); try refine wpList_nil ?_) | refine wp_region_lit ?_)
  refine v_cond H (by rfl) (fun hb => ?_) (fun hb => ?_)
  · exfalso; apply h0
    rcases l with _ | ⟨c, _ | ⟨d, l⟩⟩
    · simp at hb
    · have := hx 0 (by decide); simp at hb this; simp [this hb]
    · simp at hb; omega
  · repeat (first | refine wp_seq ?_ | refine wp_block ?_ | refine wp_skip ?_ | refine wp_exit ?_ | ((first | refine v_some 5 tab_ok hN H (by rfl) ct_Node2 ?_ | refine v_more tab_ok hN H (by rfl) (by rfl) ct_Node2 ?_); clear H; intro a w H; replace H := nf_Node2 H; (try simp only [List.drop_succ_cons, List.drop_zero, List.drop_nil]); try refine wpList_nil ?_) | refine wp_region_lit ?_)
    refine v_cond H (by rfl) (fun hb => ?_) (fun hb => ?_)
    · exfalso; apply h1
      have h2 := hx 1 (by decide)
      simp at hb h2
      exact ⟨by omega, .inl (by simpa using h2 hb.2)⟩
    · repeat (first | refine wp_seq ?_ | refine wp_block ?_ | refine wp_skip ?_ | refine wp_exit ?_ | ((first | refine v_some 5 tab_ok hN H (by rfl) ct_Node2 ?_ | refine v_more tab_ok hN H (by rfl) (by rfl) ct_Node2 ?_); clear H; intro a w H; replace H := nf_Node2 H; (try simp only [List.drop_succ_cons, List.drop_zero, List.drop_nil]); try refine wpList_nil ?_) | refine wp_region_lit ?_)
      refine v_cond H (by rfl) (fun hb => ?_) (fun hb => ?_)
      · exfalso; apply h1
        have h2 := hx 2 (by decide)
        simp at hb h2
        exact ⟨by omega, .inr (by simpa using h2 hb.2)⟩
      · repeat (first | refine wp_seq ?_ | refine wp_block ?_ | refine wp_skip ?_ | refine wp_exit ?_ | ((first | refine v_some 5 tab_ok hN H (by rfl) ct_Node2 ?_ | refine v_more tab_ok hN H (by rfl) (by rfl) ct_Node2 ?_); clear H; intro a w H; replace H := nf_Node2 H; (try simp only [List.drop_succ_cons, List.drop_zero, List.drop_nil]); try refine wpList_nil ?_) | refine wp_region_lit ?_)
        refine wp_ret ?_
        exact v_end [] [] tab_ok ⟨hN, hR⟩ (rs := [.cell 2 62, .tmp 3]) (ress := [_, _]) rfl H (by rfl) (by rfl) cb cw ca rfl
def decOk (l : List UInt8) : Prop := l = [0] ∨ (l.length = 65 ∧ (l.getD 0 0 = 1 ∨ l.getD 0 0 = 2))
instance (l : List UInt8) : Decidable (decOk l) := inferInstanceAs (Decidable (_ ∨ _))
def dec (l : List UInt8) : Nd := if l.length = 65 ∧ l.getD 0 0 = 1 then .one ((l.drop 1).take 32) (l.drop 33) else if l.length = 65 ∧ l.getD 0 0 = 2 then .two ((l.drop 1).take 32) (l.drop 33) else .zero
theorem z32_len : z32.length = 32 := by simp [z32]
theorem dec_one (m : List UInt8) (hm : m.length = 64) : dec (1 :: m) = .one (m.take 32) (m.drop 32) := by simp [dec, hm]
theorem dec_two (m : List UInt8) (hm : m.length = 64) : dec (2 :: m) = .two (m.take 32) (m.drop 32) := by simp [dec, hm]
theorem dec_zero : dec [0] = .zero := by simp [dec]
theorem decOk_cases {l : List UInt8} (h : decOk l) : l = [0] ∨ (∃ m, m.length = 64 ∧ l = 1 :: m) ∨ ∃ m, m.length = 64 ∧ l = 2 :: m := by
  rcases h with h | ⟨h1, h2⟩
  · exact .inl h
  · right
    cases l with
    | nil => simp at h1
    | cons c m =>
      simp at h1 h2
      rcases h2 with rfl | rfl
      · exact .inl ⟨m, h1, rfl⟩
      · exact .inr ⟨m, h1, rfl⟩
theorem dec_bad {l : List UInt8} (h : ¬ decOk l) : dec l = .zero := by
  unfold decOk at h; unfold dec
  rw [if_neg (fun e => h (.inr ⟨e.1, .inl e.2⟩)), if_neg (fun e => h (.inr ⟨e.1, .inr e.2⟩))]
theorem decode_v (l : List UInt8) : VC Try.prog 78 [.bs l none] [] (.tup [(dec l).av, errv (if decOk l then 0 else 10)]) := by
  by_cases h : decOk l
  · rw [if_pos h]
    rcases decOk_cases h with rfl | ⟨m, hm, rfl⟩ | ⟨m, hm, rfl⟩
    · rw [dec_zero]; exact decode_zero
    · rw [dec_one m hm]; exact decode_one m hm
    · rw [dec_two m hm]; exact decode_two m hm
  · rw [if_neg h, dec_bad h]
    exact decode_bad l (fun e => h (.inl e)) (fun e => h (.inr e))
theorem zero_wf : Nd.zero.wf := ⟨z32_len, z32_len, z32_len, z32_len⟩
theorem zero_text : Nd.zero.text = [0] := by simp [Nd.text, Nd.zero]
theorem dec_wf (l : List UInt8) : (dec l).wf := by
  by_cases h : decOk l
  · rcases decOk_cases h with rfl | ⟨m, hm, rfl⟩ | ⟨m, hm, rfl⟩
    · rw [dec_zero]; exact zero_wf
    · rw [dec_one m hm]; exact ⟨by simp [Nd.one]; omega, by simp [Nd.one]; omega, z32_len, z32_len⟩
    · rw [dec_two m hm]; exact ⟨z32_len, z32_len, by simp [Nd.two]; omega, by simp [Nd.two]; omega⟩
  · rw [dec_bad h]; exact zero_wf
theorem Nd.ok_cases {n : Nd} (h : n.ok) : n = .zero ∨ (∃ a b, n = .one a b) ∨ ∃ a b, n = .two a b := by
  unfold Nd.ok Nd.bare at h
  split at h
  · exact .inr (.inl ⟨_, _, h⟩)
  · split at h
    · exact .inr (.inr ⟨_, _, h⟩)
    · exact .inl h
theorem text_dec {n : Nd} (hw : n.wf) (h : n.ok) : decOk n.text ∧ dec n.text = n := by
  rcases n.ok_cases h with rfl | ⟨p, q, rfl⟩ | ⟨p, q, rfl⟩
  · rw [zero_text]; exact ⟨.inl rfl, dec_zero⟩
  · have h1 : p.length = 32 := hw.key
    have h2 : q.length = 32 := hw.v
    rw [show (Nd.one p q).text = 1 :: (p ++ q) by simp [Nd.text, Nd.one]]
    refine ⟨.inr ⟨by simp; omega, .inl rfl⟩, ?_⟩
    rw [dec_one _ (by simp; omega), ← h1, List.take_left, List.drop_left]
  · have h1 : p.length = 32 := hw.l
    have h2 : q.length = 32 := hw.r
    rw [show (Nd.two p q).text = 2 :: (p ++ q) by simp [Nd.text, Nd.two]]
    refine ⟨.inr ⟨by simp; omega, .inr rfl⟩, ?_⟩
    rw [dec_two _ (by simp; omega), ← h1, List.take_left, List.drop_left]
theorem text_len {n : Nd} (hw : n.wf) : n.text.length ≤ 65 := by
  obtain ⟨h1, h2, h3, h4⟩ := hw
  unfold Nd.text
  split
  · simp; omega
  · split
    · simp; omega
    · simp
end Go.Proofs.Ytlagngkafllbiaa
/- What the statements share: bytes that are lent, and kept. -/
namespace Go.Proofs.Ytlagngkafllbiaa
open Go Go.RowKit
/-- The marks in the spare room. -/
def marks (n : Nat) : Nat → List UInt8
  | 0 => []
  | k + 1 => marks n k ++ [UInt8.ofNat (200 + (n + k) % 50)]
end Go.Proofs.Ytlagngkafllbiaa
/- The document's digests and nodes. -/
namespace Go.Proofs.Ytlagngkafllbiaa
open Go Go.RowKit
end Go.Proofs.Ytlagngkafllbiaa
/- The document's look at a node. -/
namespace Go.Proofs.Ytlagngkafllbiaa
open Go Go.RowKit
end Go.Proofs.Ytlagngkafllbiaa
/- The document's nodes, written and read. -/
namespace Go.Proofs.Ytlagngkafllbiaa
open Go Go.RowKit
end Go.Proofs.Ytlagngkafllbiaa
/- Digests of the empty place, of leaves, of inner nodes. -/
namespace Go.Proofs.Ytlagngkafllbiaa
open Go Go.RowKit
/-- The state made plain. -/
theorem nf_Leaf {P : Program} {w0 w : World} {N : Gh} {nt : Nat} {st s2 : St} {a : Act} (H : Rel P w0 N nt st a w) (h : st = s2 := by (try simp only [pk, elemB, St.put, St.ev, St.tmp, St.keep, find, dropT, slots, AV.put, AV.loc, fitI, convI, IntKind.signed, IntKind.bits, strip, St.lose, mergeL, setAll, nth, renB, ren, idx?, sub, allP, low, bnd, Int.reduceEq, Nat.reduceAdd, Nat.reduceLT, reduceIte, reduceCtorEq, Nat.reduceEqDiff, Nat.reduceLeDiff, Nat.reduceBEq, Int.reducePow, Int.reduceToNat, ti24_t, ti24_z, ti5_t, ti5_z, ti30_t, ti30_z, ti23_t, ti23_z, ti26_t, ti26_z, ti22_t, ti22_z]); rfl) : Rel P w0 N nt s2 a w := h ▸ H
theorem nt_Leaf {P : Program} {w0 w : World} {N gS : Gh} {nt : Nat} {q q2 st s2 : St} {a : Act} (H : RelT P w0 N nt gS q st a w) (h1 : q = q2 := by (try simp only [pk, elemB, St.put, St.ev, St.tmp, St.keep, find, dropT, slots, AV.put, AV.loc, fitI, convI, IntKind.signed, IntKind.bits, strip, St.lose, mergeL, setAll, nth, renB, ren, idx?, sub, allP, low, bnd, Int.reduceEq, Nat.reduceAdd, Nat.reduceLT, reduceIte, reduceCtorEq, Nat.reduceEqDiff, Nat.reduceLeDiff, Nat.reduceBEq, Int.reducePow, Int.reduceToNat, ti24_t, ti24_z, ti5_t, ti5_z, ti30_t, ti30_z, ti23_t, ti23_z, ti26_t, ti26_z, ti22_t, ti22_z]); rfl) (h : st = s2 := by (try simp only [pk, elemB, St.put, St.ev, St.tmp, St.keep, find, dropT, slots, AV.put, AV.loc, fitI, convI, IntKind.signed, IntKind.bits, strip, St.lose, mergeL, setAll, nth, renB, ren, idx?, sub, allP, low, bnd, Int.reduceEq, Nat.reduceAdd, Nat.reduceLT, reduceIte, reduceCtorEq, Nat.reduceEqDiff, Nat.reduceLeDiff, Nat.reduceBEq, Int.reducePow, Int.reduceToNat, ti24_t, ti24_z, ti5_t, ti5_z, ti30_t, ti30_z, ti23_t, ti23_z, ti26_t, ti26_z, ti22_t, ti22_z]); rfl) : RelT P w0 N nt gS q2 s2 a w := h1 ▸ h ▸ H
theorem ct_Leaf {c : Prop} (h : c := by ((try simp only [pk, elemB, St.put, St.ev, St.tmp, St.keep, find, dropT, slots, AV.put, AV.loc, fitI, convI, IntKind.signed, IntKind.bits, strip, St.lose, mergeL, setAll, nth, renB, ren, idx?, sub, allP, low, bnd, Int.reduceEq, Nat.reduceAdd, Nat.reduceLT, reduceIte, reduceCtorEq, Nat.reduceEqDiff, Nat.reduceLeDiff, Nat.reduceBEq, Int.reducePow, Int.reduceToNat, ti24_t, ti24_z, ti5_t, ti5_z, ti30_t, ti30_z, ti23_t, ti23_z, ti26_t, ti26_z, ti22_t, ti22_z, ti24, ti5, ti30, ti23, ti26, ti22, fit, gcond, ilo, ihi]); first | done | exact cd | exact cd2 | skip)) : c := h
def innerH (l r : List UInt8) : List UInt8 := sum (2 :: (l ++ r))
theorem innerH_len (k v : List UInt8) : (innerH k v).length = 32 := sum_length _
set_option maxRecDepth 20000 in
theorem inner_v (k v : List UInt8) (hk : k.length = 32) (hv : v.length = 32) : VC Try.prog 84 [.ba k, .ba v] [] (.ba (innerH k v)) := by
  have h := of_v 2 [k, v] (by simp; omega) (by simp)
  have e : [k, v].flatten = k ++ v := by simp
  rw [e] at h
  have hsl := sum_length (2 :: (k ++ v))
  unfold innerH
  refine v_enter Try.func84 rfl (by kernel_rfl) (by show 2 ≤ 9; decide) ?_
  intro N w0 a w hN hR H
  repeat (first | refine wp_seq ?_ | refine wp_block ?_ | refine wp_skip ?_ | refine wp_exit ?_ | ((first | refine v_some 5 tab_ok hN H (by rfl) ct_Leaf ?_ | refine v_more tab_ok hN H (by rfl) (by rfl) ct_Leaf ?_); clear H; intro a w H; replace H := nf_Leaf H; (try simp only [List.drop_succ_cons, List.drop_zero, List.drop_nil]); try refine wpList_nil ?_) | refine wp_region_lit ?_)
  repeat (first | refine wp_seq ?_ | refine wp_block ?_)
  refine v_draw 0 [2, 3, 4] [] (by kernel_rfl) (by kernel_rfl) H (by rfl) (fun gS H => ?_); try replace H := nt_Leaf H; first | (simp only [List.take_of_length_le (Nat.le_of_eq hk), List.take_of_length_le (Nat.le_of_eq hv)] at H; replace H := nt_Leaf H) | skip
  repeat (refine v_someT 5 tab_ok hN H (by rfl) (by (try simp only [List.take_of_length_le (Nat.le_of_eq hk), List.take_of_length_le (Nat.le_of_eq hv)]); first | done | exact ct_Leaf) ?_; clear H; intro a w H; replace H := nt_Leaf H; first | (simp only [List.take_of_length_le (Nat.le_of_eq hk), List.take_of_length_le (Nat.le_of_eq hv)] at H; replace H := nt_Leaf H) | skip; simp only [List.drop_succ_cons, List.drop_zero, List.drop_nil])
  refine v_moreT tab_ok hN H (by rfl) (by (try simp only [List.take_of_length_le (Nat.le_of_eq hk), List.take_of_length_le (Nat.le_of_eq hv)]); first | done | exact ct_Leaf) ?_; clear H; intro a w H; try replace H := nt_Leaf H; first | (simp only [List.take_of_length_le (Nat.le_of_eq hk), List.take_of_length_le (Nat.le_of_eq hv)] at H; replace H := nt_Leaf H) | skip
  refine v_callT [] [] (h) H (by rfl) (by rfl) rfl rfl (by rfl) (by simp [pickB, bxs, ren, idx?, sub_refl, sub, allP, List.take_of_length_le (Nat.le_of_eq hk), List.take_of_length_le (Nat.le_of_eq hv)] <;> omega) (by first | rfl | (simp [List.take_of_length_le (Nat.le_of_eq hk), List.take_of_length_le (Nat.le_of_eq hv)] <;> omega)) (by first | exact trivial | exact ⟨sub_refl _ _, trivial⟩ | exact ⟨sub_refl _ _, sub_refl _ _, trivial⟩ | exact ⟨sub_refl _ _, sub_refl _ _, sub_refl _ _, trivial⟩ | exact ⟨⟨rfl, sub_refl _ _, trivial⟩, sub_refl _ _, trivial⟩ | (simp [cargs, cargsG, St.ev, St.tmp, find, ren, idx?, sub_refl, sub, allP, resv, resC, bss, List.take_of_length_le (Nat.le_of_eq hk), List.take_of_length_le (Nat.le_of_eq hv)] <;> omega)) ?_; clear H; intro a w H; try replace H := nt_Leaf H; first | (simp only [List.take_of_length_le (Nat.le_of_eq hk), List.take_of_length_le (Nat.le_of_eq hv)] at H; replace H := nt_Leaf H) | skip
  repeat (refine v_someT 5 tab_ok hN H (by rfl) (by (try simp only [List.take_of_length_le (Nat.le_of_eq hk), List.take_of_length_le (Nat.le_of_eq hv)]); first | done | exact ct_Leaf) ?_; clear H; intro a w H; replace H := nt_Leaf H; first | (simp only [List.take_of_length_le (Nat.le_of_eq hk), List.take_of_length_le (Nat.le_of_eq hv)] at H; replace H := nt_Leaf H) | skip; simp only [List.drop_succ_cons, List.drop_zero, List.drop_nil])
  refine v_moreT tab_ok hN H (by rfl) (by (try simp only [List.take_of_length_le (Nat.le_of_eq hk), List.take_of_length_le (Nat.le_of_eq hv)]); first | done | exact ct_Leaf) ?_; clear H; intro a w H; try replace H := nt_Leaf H; first | (simp only [List.take_of_length_le (Nat.le_of_eq hk), List.take_of_length_le (Nat.le_of_eq hv)] at H; replace H := nt_Leaf H) | skip
  refine v_drawNil H (fun H => ?_)
  refine wp_ret ?_
  exact v_end [] [] tab_ok ⟨hN, hR⟩ (rs := [.cell 4 30]) (ress := [_]) rfl H (by rfl) (by rfl) (by simp [pickB, bxs, ren, idx?, sub_refl, sub, allP, hk, hv] <;> omega) (by first | rfl | (simp [hk, hv] <;> omega)) (by first | exact trivial | exact ⟨sub_refl _ _, trivial⟩ | exact ⟨sub_refl _ _, sub_refl _ _, trivial⟩ | exact ⟨sub_refl _ _, sub_refl _ _, sub_refl _ _, trivial⟩ | exact ⟨⟨rfl, sub_refl _ _, trivial⟩, sub_refl _ _, trivial⟩ | (simp [cargs, cargsG, St.ev, St.tmp, find, ren, idx?, sub_refl, sub, allP, resv, resC, bss, hk, hv] <;> omega)) rfl
end Go.Proofs.Ytlagngkafllbiaa
/- Digests of the empty place, of leaves, of inner nodes: the document's. -/
namespace Go.Proofs.Ytlagngkafllbiaa
open Go Go.RowKit
end Go.Proofs.Ytlagngkafllbiaa
/- A region that draws its order, in which one loud operation (new memory) may come up before or behind another one (a call): both are walked. -/
namespace Go.Proofs.Ytlagngkafllbiaa
open Go
section
variable {P : Program} {ops : Array Oper} {Q : Exit → Act → World → Prop} {S : World → Prop} {L A : List Nat} {c f : Nat}
theorem unlisted {listed : Array Bool} {k : Nat} (h : k ∈ Region.ready .any ops listed) : listed.getD k false ≠ true := by
  obtain ⟨h1, _⟩ := mem_ready.1 h
  intro h2
  rcases Nat.lt_or_ge k listed.size with h' | h'
  · simp [h'] at h1 h2; rw [h1] at h2; cases h2
  · simp [Array.getElem?_eq_none h'] at h1
/-- Which operations are listed: those below k; f besides. -/
def Upto (n : Nat) (k : Nat) (x : Bool) (f : Nat) (listed : Array Bool) : Prop := listed.size = n ∧ ∀ i, i < n → ∀ d, listed.getD i d = (decide (i < k) || (x && i == f))
theorem Upto.set {n k f : Nat} {x : Bool} {listed : Array Bool} (h : Upto n k x f listed) (hk : k < n) : Upto n (k + 1) x f (listed.setIfInBounds k true) := by
  refine ⟨by simpa using h.1, fun i hi d => ?_⟩
  by_cases hik : k = i
  · subst hik; simp [h.1, hk]
  · rw [getD_set_ne d hik, h.2 i hi d]
    congr 1
    simp; omega
theorem Upto.down {n k f : Nat} {x : Bool} {listed : Array Bool} (hn : n = ops.size) (h : Upto n k x f listed) (he : ∀ (j : Nat) (o : Oper), ops[j]? = some o → ∀ e ∈ o.after, Region.binds .any e = true → e.on < j)
    (hfe : x = true → ∀ o, ops[f]? = some o → ∀ e ∈ o.after, Region.binds .any e = true → e.on < k) : Down ops listed := by
  intro j o hj hl e hm hb
  have hjlt := (Array.getElem?_eq_some_iff.1 hj).1
  rw [h.2 j (by omega) false] at hl
  have h1 := he j o hj e hm hb
  rw [h.2 e.on (by omega) false]
  simp only [Bool.or_eq_true, decide_eq_true_eq, Bool.and_eq_true, beq_iff_eq] at hl ⊢
  rcases hl with hl | ⟨hx, rfl⟩
  · exact .inl (by omega)
  · exact .inl (hfe hx o hj e hm hb)
theorem tAny_nil {listed : Array Bool} {a : Act} {w : World} (h : ∀ i, i < ops.size → ∀ d, listed.getD i d = true) (hQ : Q .normal a w) : tAny P ops Q S L A 0 listed a w := by
  refine ⟨?_, hQ⟩
  rw [List.eq_nil_iff_forall_not_mem]
  intro j hj
  obtain ⟨hju, o, ho, _⟩ := mem_ready.1 hj
  rw [h j (Array.getElem?_eq_some_iff.1 ho).1 true] at hju
  cases hju
end
section
variable {P : Program} {τ : Tab} {w0 w : World} {N : Gh} {g gS : Gh} {st st' sq sq' : St} {nt : Nat} {a : Act}
/-- Only boxes that are there may be frozen. -/
theorem v_fz (H : Rel P w0 N nt st a w) : Rel P w0 N nt ⟨st.t, st.bx, st.fz.filter fun i => decide (i < st.bx.length), st.rw⟩ a w := by
  obtain ⟨g, HI, hF⟩ := H
  refine ⟨g, ⟨HI.mem, HI.fr, HI.br, fun i x hx hf => ?_, HI.wr, HI.wz⟩, ⟨hF.sz, hF.df, hF.t, hF.u⟩⟩
  have h1 := HI.fz i x hx hf
  have h2 := (List.getElem?_eq_some_iff.1 hx).1
  rw [HI.br.len] at h2
  simp only [List.mem_filter, decide_eq_true_eq]
  exact ⟨h1, h2⟩
/-- A slot seen as something that says less. -/
theorem v_sub (H : Rel P w0 N nt st a w) (d : Nat) {x y : AV} (hs : sub 4 x y) (hx : isAny x = false) (ht : ∀ az, x ≠ .tup az) (hd : find d st.t = some (none, x)) : Rel P w0 N nt ⟨nilT d y st.t, st.bx, st.fz, st.rw⟩ a w := by
  obtain ⟨g, HI, hF⟩ := H
  refine ⟨g, HI, hF.sz, hF.df, fun p hp hg => ?_, fun p hp hg => by rcases nilT_mem hp with h | h; (subst h; exact absurd trivial hg); exact hF.u p h hg⟩
  rcases nilT_mem hp with h | h
  · subst h
    have h1 : RV g x (a.tmps.getD d undef) := hF.t _ (find_mem hd) trivial
    exact ((h1.rv1 hx ht).sub_ hs).rv
  · exact hF.t p h hg
theorem RelT.toRel (H : RelT P w0 N nt gS sq st a w) : Rel P w0 N nt st a w := by
  obtain ⟨_, _, _, _, g, HI, hF, _⟩ := H
  exact ⟨g, HI, hF⟩
end
end Go.Proofs.Ytlagngkafllbiaa
/- Values seen as others: a nil slice inside a box as a row that is none yet; an empty window as no bytes. -/
namespace Go.Proofs.Ytlagngkafllbiaa
open Go Go.RowKit
section
variable {P : Program} {τ : Tab} {w0 w w' : World} {N : Gh} {g g1 g2 : Gh} {st st' : St} {nt : Nat} {a : Act}
theorem RC.sc_slice {T : Ty} {A : Option Addr} {n c : Nat} {cs : List Value} (h : RC g T (.v (.slice A n c)) cs) : T = .sc ∧ cs = [.slice A n c] := by
  cases h with
  | v h => exact ⟨rfl, rfl⟩
theorem RC.nilK {y : AV} (hy : RC g .sc y [.slice none 0 0]) : ∀ (k : Nat) {T : Ty} {fs : List AV} {cs : List Value}, RC g T (.st fs) cs → fs[k]? = some (.v (.slice none 0 0)) → RC g T (.st (fs.set k y)) cs
  | _, _, [], _, h, hk => by simp at hk
  | 0, _, x :: fs, _, h, hk => by
    simp only [List.getElem?_cons_zero, Option.some.injEq] at hk
    subst hk
    cases h with
    | cn h hs =>
      obtain ⟨rfl, rfl⟩ := h.sc_slice
      exact .cn hy hs
  | k + 1, _, x :: fs, _, h, hk => by
    cases h with
    | cn h hs => exact .cn h (RC.nilK hy k hs (by simpa using hk))
/-- The same, of other elements. -/
theorem v_nilX (hτ : τ.ok P) (H : Rel P w0 N nt st a w) (i k e : Nat) {j : TI} (T' : Ty) {T : Ty} {fs : List AV} (hj : Tab.get e τ = some j) (hs : 0 < j.ty.size) (hb : st.bx[i]? = some (T, .st fs)) (hd : fs[k]? = some (.v (.slice none 0 0))) :
    Rel P w0 N nt ⟨st.t, st.bx.set i (T, .st (fs.set k (.sl T' [] (some st.rw.length)))), st.fz, st.rw ++ [(e, 0)]⟩ a w := by
  obtain ⟨g, HI, hF⟩ := H
  have hok := Tab.get_ok hτ hj
  obtain ⟨g1, l1, I1, h1⟩ := HI.rowNil (nilRow hok hs w) rfl rfl ⟨hok.cells.symm, rfl⟩
  obtain ⟨x, hx, rfl, hr⟩ := I1.br.at_ i T _ hb
  have hy := (RC.sl (g := g1) (T := T') (es := []) (tok := some st.rw.length) (A := none) (c := 0) (by simp) (by simp [maxLen]) (fun _ => []) (.inl rfl) (fun k hk => absurd hk (by simp)) fun i hi => by injection hi with hi; subst hi; exact ⟨_, h1, by simp, fun _ => ⟨rfl, rfl⟩⟩)
  exact ⟨g1, I1.re hx (RC.nilK hy k hr hd), ⟨(hF.mono l1.1).sz, hF.df, (hF.mono l1.1).t, hF.u⟩⟩
/-- An empty window: no bytes. -/
theorem v_win0 (H : Rel P w0 N nt st a w) (d i : Nat) {o : Nat} {p : List Nat} (hd : find d st.t = some (none, .win i p o 0)) : Rel P w0 N nt ⟨nilT d (.bs [] none) st.t, st.bx, st.fz, st.rw⟩ a w := by
  obtain ⟨g, HI, hF⟩ := H
  refine ⟨g, HI, hF.sz, hF.df, fun q hp hg => ?_, fun q hp hg => by rcases nilT_mem hp with h | h; (subst h; exact absurd trivial hg); exact hF.u q h hg⟩
  rcases nilT_mem hp with h | h
  · subst h
    have h1 : RC g .sc (.win i p o 0) [a.tmps.getD d undef] := (hF.t _ (find_mem hd) trivial).win_inv
    show RV g (.bs [] none) (a.tmps.getD d undef)
    generalize a.tmps.getD d undef = u at h1
    cases h1 with
    | win h ho hn hc hm hA => exact (RC.bs (g := g) (l := []) (by simp) hm (.inl rfl) fun i hi => by cases hi).rvp
  · exact hF.t q h hg
end
end Go.Proofs.Ytlagngkafllbiaa
/- Proofs as bytes: what may be, how it is told. -/
namespace Go.Proofs.Ytlagngkafllbiaa
open Go Go.RowKit
/-- The state made plain. -/
theorem nf_Pack {P : Program} {w0 w : World} {N : Gh} {nt : Nat} {st s2 : St} {a : Act} (H : Rel P w0 N nt st a w) (h : st = s2 := by (try simp only [pk, elemB, St.put, St.ev, St.tmp, St.keep, find, dropT, slots, AV.put, AV.loc, fitI, convI, IntKind.signed, IntKind.bits, strip, St.lose, mergeL, setAll, nth, renB, ren, idx?, sub, allP, low, bnd, Int.reduceEq, Nat.reduceAdd, Nat.reduceLT, reduceIte, reduceCtorEq, Nat.reduceEqDiff, Nat.reduceLeDiff, Nat.reduceBEq, Int.reducePow, Int.reduceToNat, ti24_t, ti24_z, ti5_t, ti5_z, ti30_t, ti30_z, ti62_t, ti62_z, ti64_t, ti64_z, ti41_t, ti41_z, ti26_t, ti26_z]); rfl) : Rel P w0 N nt s2 a w := h ▸ H
theorem nt_Pack {P : Program} {w0 w : World} {N gS : Gh} {nt : Nat} {q q2 st s2 : St} {a : Act} (H : RelT P w0 N nt gS q st a w) (h1 : q = q2 := by (try simp only [pk, elemB, St.put, St.ev, St.tmp, St.keep, find, dropT, slots, AV.put, AV.loc, fitI, convI, IntKind.signed, IntKind.bits, strip, St.lose, mergeL, setAll, nth, renB, ren, idx?, sub, allP, low, bnd, Int.reduceEq, Nat.reduceAdd, Nat.reduceLT, reduceIte, reduceCtorEq, Nat.reduceEqDiff, Nat.reduceLeDiff, Nat.reduceBEq, Int.reducePow, Int.reduceToNat, ti24_t, ti24_z, ti5_t, ti5_z, ti30_t, ti30_z, ti62_t, ti62_z, ti64_t, ti64_z, ti41_t, ti41_z, ti26_t, ti26_z]); rfl) (h : st = s2 := by (try simp only [pk, elemB, St.put, St.ev, St.tmp, St.keep, find, dropT, slots, AV.put, AV.loc, fitI, convI, IntKind.signed, IntKind.bits, strip, St.lose, mergeL, setAll, nth, renB, ren, idx?, sub, allP, low, bnd, Int.reduceEq, Nat.reduceAdd, Nat.reduceLT, reduceIte, reduceCtorEq, Nat.reduceEqDiff, Nat.reduceLeDiff, Nat.reduceBEq, Int.reducePow, Int.reduceToNat, ti24_t, ti24_z, ti5_t, ti5_z, ti30_t, ti30_z, ti62_t, ti62_z, ti64_t, ti64_z, ti41_t, ti41_z, ti26_t, ti26_z]); rfl) : RelT P w0 N nt gS q2 s2 a w := h1 ▸ h ▸ H
theorem ct_Pack {c : Prop} (h : c := by ((try simp only [pk, elemB, St.put, St.ev, St.tmp, St.keep, find, dropT, slots, AV.put, AV.loc, fitI, convI, IntKind.signed, IntKind.bits, strip, St.lose, mergeL, setAll, nth, renB, ren, idx?, sub, allP, low, bnd, Int.reduceEq, Nat.reduceAdd, Nat.reduceLT, reduceIte, reduceCtorEq, Nat.reduceEqDiff, Nat.reduceLeDiff, Nat.reduceBEq, Int.reducePow, Int.reduceToNat, ti24_t, ti24_z, ti5_t, ti5_z, ti30_t, ti30_z, ti62_t, ti62_z, ti64_t, ti64_z, ti41_t, ti41_z, ti26_t, ti26_z, ti24, ti5, ti30, ti62, ti64, ti41, ti26, fit, gcond, ilo, ihi]); first | done | exact cd | exact cd2 | skip)) : c := h
structure Pf where
  s : List (List UInt8)
  e : Nd
  deriving DecidableEq
def bas (ls : List (List UInt8)) : List AV := ls.map .ba
theorem bas_len (ls : List (List UInt8)) : (bas ls).length = ls.length := by simp [bas]
theorem bas_get (ls : List (List UInt8)) (k : Nat) (hk : k < ls.length) : (bas ls).getD k .any = .ba ls[k] := by simp [bas, List.getD, hk]
structure Pf.wf (p : Pf) : Prop where
  s : ∀ h ∈ p.s, h.length = 32
  e : p.e.wf
def Pf.av (p : Pf) : AV := .st [.sl (.ba 32) (bas p.s) none, p.e.av]
def Pf.chk (p : Pf) : Int := if 256 < p.s.length then 4 else if p.e.ok ∧ p.e.k ≠ 2 then 0 else 2
set_option maxHeartbeats 1000000 in
theorem pcheck_v (p : Pf) (hw : p.wf) : VC Try.prog 80 [p.av] [] (errv p.chk) := by
  obtain ⟨s, n⟩ := p
  have hsl := bas_len s
  have hc := check_v n hw.e
  obtain ⟨h1, h2, h3, h4⟩ := id hw.e
  have hk2 : ((n.k.toNat : Int) = 2) ↔ n.k = 2 := ⟨fun h => UInt8.toNat_inj.1 (by simp; omega), fun h => by rw [h]; rfl⟩
  dsimp only at hc h1 h2 h3 h4 hk2
  refine v_enter Try.func80 rfl (by kernel_rfl) (by show 1 ≤ 19; decide) ?_
  intro N w0 a w hN hR H
  simp only [Pf.av, Nd.av] at H hc
  repeat (first | refine wp_seq ?_ | refine wp_block ?_ | refine wp_skip ?_ | refine wp_exit ?_ | ((first | refine v_some 5 tab_ok hN H (by rfl) ct_Pack ?_ | refine v_more tab_ok hN H (by rfl) (by rfl) ct_Pack ?_); clear H; intro a w H; replace H := nf_Pack H; (try simp only [List.drop_succ_cons, List.drop_zero, List.drop_nil]); try refine wpList_nil ?_) | refine wp_region_lit ?_)
  refine v_cond H (by rfl) (fun hb => ?_) (fun hb => ?_)
  · have hb : 256 < s.length := by simp at hb; omega
    simp only [Pf.chk, if_pos hb]
    repeat (first | refine wp_seq ?_ | refine wp_block ?_ | refine wp_skip ?_ | refine wp_exit ?_ | ((first | refine v_some 5 tab_ok hN H (by rfl) ct_Pack ?_ | refine v_more tab_ok hN H (by rfl) (by rfl) ct_Pack ?_); clear H; intro a w H; replace H := nf_Pack H; (try simp only [List.drop_succ_cons, List.drop_zero, List.drop_nil]); try refine wpList_nil ?_) | refine wp_region_lit ?_)
    refine wp_ret ?_
    exact v_end [] [] tab_ok ⟨hN, hR⟩ (rs := [.tmp 2]) (ress := [_]) rfl H (by rfl) (by rfl) cb cw ca rfl
  · have hb : ¬ 256 < s.length := by simp at hb; omega
    simp only [Pf.chk, if_neg hb]
    by_cases ho : n.ok
    · rw [if_pos ho] at hc
      repeat (first | refine wp_seq ?_ | refine wp_block ?_ | refine wp_skip ?_ | refine wp_exit ?_ | ((first | refine v_some 5 tab_ok hN H (by rfl) ct_Pack ?_ | refine v_more tab_ok hN H (by rfl) (by rfl) ct_Pack ?_); clear H; intro a w H; replace H := nf_Pack H; (try simp only [List.drop_succ_cons, List.drop_zero, List.drop_nil]); try refine wpList_nil ?_) | refine wp_region_lit ?_)
      refine v_call [] [] (hc) H rfl rfl (by rfl) cb cw ca ?_; clear H; intro a w H; replace H := nf_Pack H; try refine wpList_nil ?_
      repeat (first | refine wp_seq ?_ | refine wp_block ?_ | refine wp_skip ?_ | refine wp_exit ?_ | ((first | refine v_some 5 tab_ok hN H (by rfl) ct_Pack ?_ | refine v_more tab_ok hN H (by rfl) (by rfl) ct_Pack ?_); clear H; intro a w H; replace H := nf_Pack H; (try simp only [List.drop_succ_cons, List.drop_zero, List.drop_nil]); try refine wpList_nil ?_) | refine wp_region_lit ?_)
      refine v_cond H (by rfl) (fun hb => ?_) (fun hb => ?_)
      · have hb : n.k = 2 := hk2.1 (by simpa using hb)
        rw [if_neg (fun h => h.2 hb)]
        repeat (first | refine wp_seq ?_ | refine wp_block ?_ | refine wp_skip ?_ | refine wp_exit ?_ | ((first | refine v_some 5 tab_ok hN H (by rfl) ct_Pack ?_ | refine v_more tab_ok hN H (by rfl) (by rfl) ct_Pack ?_); clear H; intro a w H; replace H := nf_Pack H; (try simp only [List.drop_succ_cons, List.drop_zero, List.drop_nil]); try refine wpList_nil ?_) | refine wp_region_lit ?_)
        refine wp_ret ?_
        exact v_end [] [] tab_ok ⟨hN, hR⟩ (rs := [.tmp 2]) (ress := [_]) rfl H (by rfl) (by rfl) cb cw ca rfl
      · have hb : ¬ n.k = 2 := fun e => by rw [hk2.2 e] at hb; simp at hb
        rw [if_pos ⟨ho, hb⟩]
        repeat (first | refine wp_seq ?_ | refine wp_block ?_ | refine wp_skip ?_ | refine wp_exit ?_ | ((first | refine v_some 5 tab_ok hN H (by rfl) ct_Pack ?_ | refine v_more tab_ok hN H (by rfl) (by rfl) ct_Pack ?_); clear H; intro a w H; replace H := nf_Pack H; (try simp only [List.drop_succ_cons, List.drop_zero, List.drop_nil]); try refine wpList_nil ?_) | refine wp_region_lit ?_)
        refine wp_ret ?_
        exact v_end [] [] tab_ok ⟨hN, hR⟩ (rs := [.tmp 2]) (ress := [_]) rfl H (by rfl) (by rfl) cb cw ca rfl
    · rw [if_neg ho] at hc
      repeat (first | refine wp_seq ?_ | refine wp_block ?_ | refine wp_skip ?_ | refine wp_exit ?_ | ((first | refine v_some 5 tab_ok hN H (by rfl) ct_Pack ?_ | refine v_more tab_ok hN H (by rfl) (by rfl) ct_Pack ?_); clear H; intro a w H; replace H := nf_Pack H; (try simp only [List.drop_succ_cons, List.drop_zero, List.drop_nil]); try refine wpList_nil ?_) | refine wp_region_lit ?_)
      refine v_call [] [] (hc) H rfl rfl (by rfl) cb cw ca ?_; clear H; intro a w H; replace H := nf_Pack H; try refine wpList_nil ?_
      repeat (first | refine wp_seq ?_ | refine wp_block ?_ | refine wp_skip ?_ | refine wp_exit ?_ | ((first | refine v_some 5 tab_ok hN H (by rfl) ct_Pack ?_ | refine v_more tab_ok hN H (by rfl) (by rfl) ct_Pack ?_); clear H; intro a w H; replace H := nf_Pack H; (try simp only [List.drop_succ_cons, List.drop_zero, List.drop_nil]); try refine wpList_nil ?_) | refine wp_region_lit ?_)
      refine v_cond H (by rfl) (fun hb => ?_) (fun hb => ?_)
      · rw [if_neg (fun h => ho h.1)]
        repeat (first | refine wp_seq ?_ | refine wp_block ?_ | refine wp_skip ?_ | refine wp_exit ?_ | ((first | refine v_some 5 tab_ok hN H (by rfl) ct_Pack ?_ | refine v_more tab_ok hN H (by rfl) (by rfl) ct_Pack ?_); clear H; intro a w H; replace H := nf_Pack H; (try simp only [List.drop_succ_cons, List.drop_zero, List.drop_nil]); try refine wpList_nil ?_) | refine wp_region_lit ?_)
        refine wp_ret ?_
        exact v_end [] [] tab_ok ⟨hN, hR⟩ (rs := [.tmp 2]) (ress := [_]) rfl H (by rfl) (by rfl) cb cw ca rfl
      · simp at hb
/-- The digest of nothing. -/
def E0 : List UInt8 := sum [0]
def hidesB (s : List (List UInt8)) (t : Nat) : Bool := match s[t]? with | some h => h != E0 | none => false
def Pf.bits (p : Pf) : List UInt8 := bitsB p.s.length (hidesB p.s)
def hashes (s : List (List UInt8)) : List UInt8 := (s.filter (· != E0)).flatten
def Pf.text (p : Pf) : List UInt8 := [UInt8.ofNat (p.s.length / 256), UInt8.ofNat p.s.length] ++ (p.bits ++ (hashes p.s ++ p.e.text))
theorem hashes_len : ∀ (s : List (List UInt8)), (∀ h ∈ s, h.length = 32) → (hashes s).length ≤ 32 * s.length
  | [], _ => by simp [hashes]
  | h :: s, hs => by
    have ih := hashes_len s fun x hx => hs x (List.mem_cons_of_mem _ hx)
    have h1 := hs h List.mem_cons_self
    unfold hashes at ih ⊢
    rw [List.filter_cons]
    split
    · simp only [List.flatten_cons, List.length_append, List.length_cons]; omega
    · simp only [List.length_cons]; omega
theorem hides_end (s : List (List UInt8)) : (bitsB s.length fun t => decide (t < s.length) && hidesB s t) = bitsB s.length (hidesB s) := by
  congr 1; funext t
  by_cases h : t < s.length
  · simp [h]
  · have : s[t]? = none := List.getElem?_eq_none (by omega)
    simp [h, hidesB, this]
theorem encodeP_ok (p : Pf) (hw : p.wf) (h : p.chk = 0) : VC Try.prog 50 [p.av] [(5, p.text.length)] (.tup [.bs p.text (some 0), errv 0]) := by
  obtain ⟨s, n⟩ := p
  have hsl := bas_len s
  have hc := pcheck_v ⟨s, n⟩ hw
  rw [h] at hc
  have hle : s.length ≤ 256 := by
    have := h
    simp only [Pf.chk] at this
    split at this
    · cases this
    · omega
  have hok : n.ok := by
    have := h
    simp only [Pf.chk] at this
    split at this
    · cases this
    · split at this
      · rename_i h1; exact h1.1
      · cases this
  have hen := encode_ok n hw.e hok
  obtain ⟨h1, h2, h3, h4⟩ := id hw.e
  have hsum := sum_length [0]
  dsimp only at h1 h2 h3 h4
  refine v_enter Try.func50 rfl (by kernel_rfl) (by show 1 ≤ 70; decide) ?_
  intro N w0 a w hN hR H
  simp only [Pf.av, Nd.av] at H hc hen
  repeat (first | refine wp_seq ?_ | refine wp_block ?_ | refine wp_skip ?_ | refine wp_exit ?_ | ((first | refine v_some 5 tab_ok hN H (by rfl) ct_Pack ?_ | refine v_more tab_ok hN H (by rfl) (by rfl) ct_Pack ?_); clear H; intro a w H; replace H := nf_Pack H; (try simp only [List.drop_succ_cons, List.drop_zero, List.drop_nil]); try refine wpList_nil ?_) | refine wp_region_lit ?_)
  refine v_call [] [] (hc) H rfl rfl (by rfl) cb cw ca ?_; clear H; intro a w H; replace H := nf_Pack H; try refine wpList_nil ?_
  repeat (first | refine wp_seq ?_ | refine wp_block ?_ | refine wp_skip ?_ | refine wp_exit ?_ | ((first | refine v_some 5 tab_ok hN H (by rfl) ct_Pack ?_ | refine v_more tab_ok hN H (by rfl) (by rfl) ct_Pack ?_); clear H; intro a w H; replace H := nf_Pack H; (try simp only [List.drop_succ_cons, List.drop_zero, List.drop_nil]); try refine wpList_nil ?_) | refine wp_region_lit ?_)
  refine v_cond H (by rfl) (fun hb => ?_) (fun hb => ?_)
  · simp at hb
  · repeat (first | refine wp_seq ?_ | refine wp_block ?_ | refine wp_skip ?_ | refine wp_exit ?_ | ((first | refine v_some 5 tab_ok hN H (by rfl) ct_Pack ?_ | refine v_more tab_ok hN H (by rfl) (by rfl) ct_Pack ?_); clear H; intro a w H; replace H := nf_Pack H; (try simp only [List.drop_succ_cons, List.drop_zero, List.drop_nil]); try refine wpList_nil ?_) | refine wp_region_lit ?_)
    refine v_call [] [] (put16_v s.length (by omega)) H rfl rfl (by rfl) (by simp [pickB, bxs, ren, idx?, sub_refl, sub, allP, hsl] <;> omega) (by first | rfl | (simp [hsl] <;> omega)) (by first | exact trivial | exact ⟨sub_refl _ _, trivial⟩ | exact ⟨sub_refl _ _, sub_refl _ _, trivial⟩ | exact ⟨sub_refl _ _, sub_refl _ _, sub_refl _ _, trivial⟩ | exact ⟨⟨rfl, sub_refl _ _, trivial⟩, sub_refl _ _, trivial⟩ | (simp [cargs, cargsG, St.ev, St.tmp, find, ren, idx?, sub_refl, sub, allP, resv, resC, bss, hsl] <;> omega)) ?_; clear H; intro a w H; replace H := nf_Pack H; first | (simp only [hsl] at H; replace H := nf_Pack H) | skip; try refine wpList_nil ?_
    repeat (first | refine wp_seq ?_ | refine wp_block ?_ | refine wp_skip ?_ | refine wp_exit ?_ | ((first | refine v_some 5 tab_ok hN H (by rfl) (by (try simp only [hsl]); first | done | exact ct_Pack) ?_ | refine v_more tab_ok hN H (by rfl) (by rfl) (by (try simp only [hsl]); first | done | exact ct_Pack) ?_); clear H; intro a w H; replace H := nf_Pack H; first | (simp only [hsl] at H; replace H := nf_Pack H) | skip; (try simp only [List.drop_succ_cons, List.drop_zero, List.drop_nil]); try refine wpList_nil ?_) | refine wp_region_lit ?_)
    refine v_call [] [] (bits_v s.length (by omega)) H rfl rfl (by rfl) (by simp [pickB, bxs, ren, idx?, sub_refl, sub, allP, hsl] <;> omega) (by first | rfl | (simp [hsl] <;> omega)) (by first | exact trivial | exact ⟨sub_refl _ _, trivial⟩ | exact ⟨sub_refl _ _, sub_refl _ _, trivial⟩ | exact ⟨sub_refl _ _, sub_refl _ _, sub_refl _ _, trivial⟩ | exact ⟨⟨rfl, sub_refl _ _, trivial⟩, sub_refl _ _, trivial⟩ | (simp [cargs, cargsG, St.ev, St.tmp, find, ren, idx?, sub_refl, sub, allP, resv, resC, bss, hsl] <;> omega)) ?_; clear H; intro a w H; replace H := nf_Pack H; first | (simp only [hsl] at H; replace H := nf_Pack H) | skip; try refine wpList_nil ?_
    repeat (first | refine wp_seq ?_ | refine wp_block ?_ | refine wp_skip ?_ | refine wp_exit ?_ | ((first | refine v_some 5 tab_ok hN H (by rfl) (by (try simp only [hsl]); first | done | exact ct_Pack) ?_ | refine v_more tab_ok hN H (by rfl) (by rfl) (by (try simp only [hsl]); first | done | exact ct_Pack) ?_); clear H; intro a w H; replace H := nf_Pack H; first | (simp only [hsl] at H; replace H := nf_Pack H) | skip; (try simp only [List.drop_succ_cons, List.drop_zero, List.drop_nil]); try refine wpList_nil ?_) | refine wp_region_lit ?_)
    refine v_call [] [] (empty_v) H rfl rfl (by rfl) (by simp [pickB, bxs, ren, idx?, sub_refl, sub, allP, hsl] <;> omega) (by first | rfl | (simp [hsl] <;> omega)) (by first | exact trivial | exact ⟨sub_refl _ _, trivial⟩ | exact ⟨sub_refl _ _, sub_refl _ _, trivial⟩ | exact ⟨sub_refl _ _, sub_refl _ _, sub_refl _ _, trivial⟩ | exact ⟨⟨rfl, sub_refl _ _, trivial⟩, sub_refl _ _, trivial⟩ | (simp [cargs, cargsG, St.ev, St.tmp, find, ren, idx?, sub_refl, sub, allP, resv, resC, bss, hsl] <;> omega)) ?_; clear H; intro a w H; replace H := nf_Pack H; first | (simp only [hsl] at H; replace H := nf_Pack H) | skip; try refine wpList_nil ?_
    repeat (first | refine wp_seq ?_ | refine wp_block ?_ | refine wp_skip ?_ | refine wp_exit ?_ | ((first | refine v_some 5 tab_ok hN H (by rfl) (by (try simp only [hsl]); first | done | exact ct_Pack) ?_ | refine v_more tab_ok hN H (by rfl) (by rfl) (by (try simp only [hsl]); first | done | exact ct_Pack) ?_); clear H; intro a w H; replace H := nf_Pack H; first | (simp only [hsl] at H; replace H := nf_Pack H) | skip; (try simp only [List.drop_succ_cons, List.drop_zero, List.drop_nil]); try refine wpList_nil ?_) | refine wp_region_lit ?_)
    rw [show List.replicate 0 (0 : UInt8) = [] from rfl] at H
    have eb : List.replicate ((s.length + 7) / 8) (0 : UInt8) = bitsB s.length (fun t => decide (t < 0) && hidesB s t) := bitsB_zero _ _
    rw [eb] at H
    have eE : sum [0] = E0 := rfl
    rw [eE] at H hsum
    replace H := H.keep [1, 2, 3, 5, 7, 8, 9, 36, 35, 34] 3 2 ⟨Nat.le_trans hN (by show _ ≤ 3; decide), Nat.le_trans hR (by show _ ≤ 2; decide)⟩ (by rfl) (by rfl)
    replace H := nf_Pack H; first | (simp only [hsl] at H; replace H := nf_Pack H) | skip
    refine v_loop (fun k : Nat => ⟨[(36, none, .v (.int .i64 (k : Int))), (35, none, .v (.int .i64 (s.length : Int))), (34, none, .sl (.ba 32) (bas s) none), (9, none, .ptr 2 []), (8, none, .bs (hashes (s.take k)) (some 1)), (7, none, .win 1 [] 0 ((s.length + 7) / 8)), (5, none, .bs [UInt8.ofNat (s.length / 256), UInt8.ofNat s.length] (some 0)), (3, none, .v (.int .i64 0)), (2, none, .v (.slice none 0 0)), (1, none, .ptr 0 [])],
      [(ti64.ty, .st [.sl (.ba 32) (bas s) none, .st [.v (B8 n.k), .ba n.key, .ba n.v, .ba n.l, .ba n.r]]), (.ba ((s.length + 7) / 8), .ba (bitsB s.length fun t => decide (t < k) && hidesB s t)), (.ba 32, .ba E0)], [], [(5, 2), (5, (hashes (s.take k)).length)]⟩)
      (fun k => k ≤ s.length) (fun k => s.length - k) 0 (Nat.zero_le _) (H.to 3 2 ⟨Nat.le_trans hN (by decide), Nat.le_trans hR (by decide)⟩ ⟨rfl, rfl, rfl, rfl, rfl, rfl, rfl, rfl, rfl, rfl, trivial⟩ rfl rfl rfl rfl rfl) ?_
    clear H
    intro k a w hk H
    have hbl := bitsB_len s.length (fun t => decide (t < k) && hidesB s t)
    repeat (first | refine wp_seq ?_ | refine wp_block ?_ | refine wp_skip ?_ | refine wp_exit ?_ | ((first | refine v_some 5 tab_ok hN H (by rfl) (by (try simp only [hsl]); first | done | exact ct_Pack) ?_ | refine v_more tab_ok hN H (by rfl) (by rfl) (by (try simp only [hsl]); first | done | exact ct_Pack) ?_); clear H; intro a w H; replace H := nf_Pack H; first | (simp only [hsl] at H; replace H := nf_Pack H) | skip; (try simp only [List.drop_succ_cons, List.drop_zero, List.drop_nil]); try refine wpList_nil ?_) | refine wp_region_lit ?_)
    refine v_cond H (by rfl) (fun hb => ?_) (fun hb => ?_)
    · have hlt : k < s.length := by simpa using hb
      have hg := bas_get s k hlt
      have h32 : s[k].length = 32 := hw.s _ (List.getElem_mem hlt)
      have e8 : ((k : Int) / 8).toNat = k / 8 := by omega
      have e7 : (if ((k : Int) % 8).toNat ≤ 8 then ((k : Int) % 8).toNat else 8) = k % 8 := by split <;> omega
      have hh : hidesB s k = (s[k] != E0) := by unfold hidesB; rw [List.getElem?_eq_getElem hlt]
      have htk : s.take (k + 1) = s.take k ++ [s[k]] := List.take_succ_eq_append_getElem hlt
      have ht32 : s[k].take 32 = s[k] := List.take_of_length_le (by omega)
      have hhl : (hashes (s.take k)).length ≤ 8192 := by
        have := hashes_len (s.take k) fun x hx => hw.s _ (List.mem_of_mem_take hx)
        rw [List.length_take] at this; omega
      repeat (first | refine wp_seq ?_ | refine wp_block ?_ | refine wp_skip ?_ | refine wp_exit ?_ | ((first | refine v_some 5 tab_ok hN H (by rfl) (by (try simp only [hsl, hg, e8, e7, ht32, or_rng0, or_rng1, e8, e7]); first | done | exact ct_Pack) ?_ | refine v_more tab_ok hN H (by rfl) (by rfl) (by (try simp only [hsl, hg, e8, e7, ht32, or_rng0, or_rng1, e8, e7]); first | done | exact ct_Pack) ?_); clear H; intro a w H; replace H := nf_Pack H; first | (simp only [hsl, hg, e8, e7, ht32] at H; replace H := nf_Pack H) | skip; (try simp only [List.drop_succ_cons, List.drop_zero, List.drop_nil]); try refine wpList_nil ?_) | refine wp_region_lit ?_)
      refine v_cond H (by rfl) (fun hb => ?_) (fun hb => ?_)
      · have hne : (s[k] != E0) = true := by simpa using hb
        have hs1 : hashes (s.take (k + 1)) = hashes (s.take k) ++ s[k] := by
          unfold hashes; rw [htk, List.filter_append, List.filter_cons_of_pos (p := (· != E0)) hne, List.filter_nil, List.flatten_append]; simp
        repeat (first | refine wp_seq ?_ | refine wp_block ?_)
        refine v_draw 0 [10] [] (by kernel_rfl) (by kernel_rfl) H (by rfl) (fun gS H => ?_); try replace H := nt_Pack H; first | (simp only [hsl, hg, e8, e7, ht32] at H; replace H := nt_Pack H) | skip
        repeat (refine v_someT 5 tab_ok hN H (by rfl) (by (try simp only [hsl, hg, e8, e7, ht32, or_rng0, or_rng1, e8, e7]); first | done | exact ct_Pack) ?_; clear H; intro a w H; replace H := nt_Pack H; first | (simp only [hsl, hg, e8, e7, ht32] at H; replace H := nt_Pack H) | skip; simp only [List.drop_succ_cons, List.drop_zero, List.drop_nil])
        refine v_moreT tab_ok hN H (by rfl) (by (try simp only [hsl, hg, e8, e7, ht32, or_rng0, or_rng1, e8, e7]); first | done | exact ct_Pack) ?_; clear H; intro a w H; try replace H := nt_Pack H; first | (simp only [hsl, hg, e8, e7, ht32] at H; replace H := nt_Pack H) | skip
        refine v_drawNil H (fun H => ?_)
        rw [bit_step _ _ _ hlt (by rw [hh]; exact hne)] at H
        repeat (first | refine wp_seq ?_ | refine wp_block ?_ | refine wp_skip ?_ | refine wp_exit ?_ | ((first | refine v_some 5 tab_ok hN H (by rfl) (by (try simp only [hsl, hg, e8, e7, ht32, or_rng0, or_rng1, e8, e7]); first | done | exact ct_Pack) ?_ | refine v_more tab_ok hN H (by rfl) (by rfl) (by (try simp only [hsl, hg, e8, e7, ht32, or_rng0, or_rng1, e8, e7]); first | done | exact ct_Pack) ?_); clear H; intro a w H; replace H := nf_Pack H; first | (simp only [hsl, hg, e8, e7, ht32] at H; replace H := nf_Pack H) | skip; (try simp only [List.drop_succ_cons, List.drop_zero, List.drop_nil]); try refine wpList_nil ?_) | refine wp_region_lit ?_)
        replace H := H.keep [1, 2, 3, 5, 7, 8, 9, 36, 35, 34] 3 2 ⟨Nat.le_trans hN (by show _ ≤ 3; decide), Nat.le_trans hR (by show _ ≤ 2; decide)⟩ (by rfl) (by rfl)
        replace H := nf_Pack H; first | (simp only [hsl, hg, e8, e7, ht32] at H; replace H := nf_Pack H) | skip
        have H := v_fz H
        simp only [List.filter_cons, List.filter_nil, List.length_cons, List.length_nil, Nat.reduceAdd, Nat.reduceLT, Nat.lt_irrefl, decide_false, Bool.false_eq_true, reduceIte] at H
        exact ⟨k + 1, hlt, by omega, H.to 3 2 ⟨Nat.le_trans hN (by decide), Nat.le_trans hR (by decide)⟩ ⟨rfl, rfl, rfl, rfl, by rw [hs1]; rfl, rfl, rfl, rfl, rfl, rfl, trivial⟩ rfl (by rw [hs1, List.length_append]; rfl) rfl rfl rfl⟩
      · have hne : (s[k] != E0) = false := by simpa using hb
        have hs1 : hashes (s.take (k + 1)) = hashes (s.take k) := by
          unfold hashes; rw [htk, List.filter_append, List.filter_cons_of_neg (p := (· != E0)) (by rw [hne]; decide), List.filter_nil, List.append_nil]
        repeat (first | refine wp_seq ?_ | refine wp_block ?_ | refine wp_skip ?_ | refine wp_exit ?_ | ((first | refine v_some 5 tab_ok hN H (by rfl) (by (try simp only [hsl, hg, e8, e7, ht32, or_rng0, or_rng1, e8, e7]); first | done | exact ct_Pack) ?_ | refine v_more tab_ok hN H (by rfl) (by rfl) (by (try simp only [hsl, hg, e8, e7, ht32, or_rng0, or_rng1, e8, e7]); first | done | exact ct_Pack) ?_); clear H; intro a w H; replace H := nf_Pack H; first | (simp only [hsl, hg, e8, e7, ht32] at H; replace H := nf_Pack H) | skip; (try simp only [List.drop_succ_cons, List.drop_zero, List.drop_nil]); try refine wpList_nil ?_) | refine wp_region_lit ?_)
        exact ⟨k + 1, hlt, by omega, H.to 3 2 ⟨Nat.le_trans hN (by decide), Nat.le_trans hR (by decide)⟩ ⟨rfl, rfl, rfl, rfl, by rw [hs1]; rfl, rfl, rfl, rfl, rfl, rfl, trivial⟩ (by rw [bit_skip _ _ _ (by rw [hh]; exact hne)]; rfl) (by rw [hs1]; rfl) rfl rfl rfl⟩
    · have hge : k = s.length := by simp at hb; omega
      subst hge
      rw [hides_end, List.take_length] at H
      have hhl : (hashes s).length ≤ 8192 := by
        have := hashes_len s hw.s
        omega
      have htl := text_len hw.e
      dsimp only at htl
      rw [show bitsB s.length (hidesB s) = (Pf.mk s n).bits from rfl] at H
      have hbl : (Pf.mk s n).bits.length = (s.length + 7) / 8 := bitsB_len _ _
      have hfl : ([[UInt8.ofNat (s.length / 256), UInt8.ofNat s.length], (Pf.mk s n).bits, hashes s, n.text] : List (List UInt8)).flatten = (Pf.mk s n).text := by simp [Pf.text]
      have hjl : (Pf.mk s n).text.length ≤ 34359738000 := by rw [← hfl]; simp only [List.flatten_cons, List.flatten_nil, List.length_append, List.length_cons, List.length_nil, hbl]; omega
      have hjo := join_v [[UInt8.ofNat (s.length / 256), UInt8.ofNat s.length], (Pf.mk s n).bits, hashes s, n.text] (by rw [hfl]; omega) (by simp)
      rw [hfl] at hjo
      have hcase : (s.length + 7) / 8 = 0 ∨ 0 < (s.length + 7) / 8 := by omega
      rcases hcase with h0 | h0
      · have hb0 : (Pf.mk s n).bits = [] := List.length_eq_zero_iff.1 (by omega)
        rw [hb0] at hjo
        rw [h0] at H
        have H := v_win0 H 7 1 rfl
        simp only [nilT, reduceIte, Nat.reduceEqDiff] at H
        repeat (first | refine wp_seq ?_ | refine wp_block ?_ | refine wp_skip ?_ | refine wp_exit ?_ | ((first | refine v_some 5 tab_ok hN H (by rfl) (by (try simp only [hsl]); first | done | exact ct_Pack) ?_ | refine v_more tab_ok hN H (by rfl) (by rfl) (by (try simp only [hsl]); first | done | exact ct_Pack) ?_); clear H; intro a w H; replace H := nf_Pack H; first | (simp only [hsl] at H; replace H := nf_Pack H) | skip; (try simp only [List.drop_succ_cons, List.drop_zero, List.drop_nil]); try refine wpList_nil ?_) | refine wp_region_lit ?_)
        refine v_call [] [] (hen) H rfl rfl (by rfl) (by simp [pickB, bxs, ren, idx?, sub_refl, sub, allP, hsl] <;> omega) (by first | rfl | (simp [hsl] <;> omega)) (by first | exact trivial | exact ⟨sub_refl _ _, trivial⟩ | exact ⟨sub_refl _ _, sub_refl _ _, trivial⟩ | exact ⟨sub_refl _ _, sub_refl _ _, sub_refl _ _, trivial⟩ | exact ⟨⟨rfl, sub_refl _ _, trivial⟩, sub_refl _ _, trivial⟩ | (simp [cargs, cargsG, St.ev, St.tmp, find, ren, idx?, sub_refl, sub, allP, resv, resC, bss, hsl] <;> omega)) ?_; clear H; intro a w H; replace H := nf_Pack H; first | (simp only [hsl] at H; replace H := nf_Pack H) | skip; try refine wpList_nil ?_
        repeat (first | refine wp_seq ?_ | refine wp_block ?_ | refine wp_skip ?_ | refine wp_exit ?_ | ((first | refine v_some 5 tab_ok hN H (by rfl) (by (try simp only [hsl]); first | done | exact ct_Pack) ?_ | refine v_more tab_ok hN H (by rfl) (by rfl) (by (try simp only [hsl]); first | done | exact ct_Pack) ?_); clear H; intro a w H; replace H := nf_Pack H; first | (simp only [hsl] at H; replace H := nf_Pack H) | skip; (try simp only [List.drop_succ_cons, List.drop_zero, List.drop_nil]); try refine wpList_nil ?_) | refine wp_region_lit ?_)
        refine v_call [] [] (hjo) H rfl rfl (by rfl) (by simp [pickB, bxs, ren, idx?, sub_refl, sub, allP, hsl] <;> omega) (by first | rfl | (simp [hsl] <;> omega)) (by first | exact trivial | exact ⟨sub_refl _ _, trivial⟩ | exact ⟨sub_refl _ _, sub_refl _ _, trivial⟩ | exact ⟨sub_refl _ _, sub_refl _ _, sub_refl _ _, trivial⟩ | exact ⟨⟨rfl, sub_refl _ _, trivial⟩, sub_refl _ _, trivial⟩ | (simp [cargs, cargsG, St.ev, St.tmp, find, ren, idx?, sub_refl, sub, allP, resv, resC, bss, hsl] <;> omega)) ?_; clear H; intro a w H; replace H := nf_Pack H; first | (simp only [hsl] at H; replace H := nf_Pack H) | skip; try refine wpList_nil ?_
        repeat (first | refine wp_seq ?_ | refine wp_block ?_ | refine wp_skip ?_ | refine wp_exit ?_ | ((first | refine v_some 5 tab_ok hN H (by rfl) (by (try simp only [hsl]); first | done | exact ct_Pack) ?_ | refine v_more tab_ok hN H (by rfl) (by rfl) (by (try simp only [hsl]); first | done | exact ct_Pack) ?_); clear H; intro a w H; replace H := nf_Pack H; first | (simp only [hsl] at H; replace H := nf_Pack H) | skip; (try simp only [List.drop_succ_cons, List.drop_zero, List.drop_nil]); try refine wpList_nil ?_) | refine wp_region_lit ?_)
        refine wp_ret ?_
        exact v_end [] [4] tab_ok ⟨hN, hR⟩ (rs := [.tmp 2, .tmp 3]) (ress := [_, _]) rfl H (by rfl) (by rfl) (by simp [pickB, bxs, ren, idx?, sub_refl, sub, allP, hsl] <;> omega) (by first | rfl | (simp [hsl] <;> omega)) (by first | exact trivial | exact ⟨sub_refl _ _, trivial⟩ | exact ⟨sub_refl _ _, sub_refl _ _, trivial⟩ | exact ⟨sub_refl _ _, sub_refl _ _, sub_refl _ _, trivial⟩ | exact ⟨⟨rfl, sub_refl _ _, trivial⟩, sub_refl _ _, trivial⟩ | (simp [cargs, cargsG, St.ev, St.tmp, find, ren, idx?, sub_refl, sub, allP, resv, resC, bss, hsl] <;> omega)) rfl
      · have H := v_bc H 7 1 (Nat.le_trans hN (by decide)) rfl h0 rfl
        have htk : (Pf.mk s n).bits.take ((s.length + 7) / 8) = (Pf.mk s n).bits := List.take_of_length_le (by omega)
        simp only [nilT, reduceIte, Nat.reduceEqDiff] at H
        have H := v_sub H 7 (x := .bc (Pf.mk s n).bits ((s.length + 7) / 8) (some 1)) (y := .bs (Pf.mk s n).bits none) (by simp only [sub]; exact htk) rfl (fun _ e => by cases e) rfl
        simp only [nilT, reduceIte, Nat.reduceEqDiff] at H
        repeat (first | refine wp_seq ?_ | refine wp_block ?_ | refine wp_skip ?_ | refine wp_exit ?_ | ((first | refine v_some 5 tab_ok hN H (by rfl) (by (try simp only [hsl]); first | done | exact ct_Pack) ?_ | refine v_more tab_ok hN H (by rfl) (by rfl) (by (try simp only [hsl]); first | done | exact ct_Pack) ?_); clear H; intro a w H; replace H := nf_Pack H; first | (simp only [hsl] at H; replace H := nf_Pack H) | skip; (try simp only [List.drop_succ_cons, List.drop_zero, List.drop_nil]); try refine wpList_nil ?_) | refine wp_region_lit ?_)
        refine v_call [] [] (hen) H rfl rfl (by rfl) (by simp [pickB, bxs, ren, idx?, sub_refl, sub, allP, hsl] <;> omega) (by first | rfl | (simp [hsl] <;> omega)) (by first | exact trivial | exact ⟨sub_refl _ _, trivial⟩ | exact ⟨sub_refl _ _, sub_refl _ _, trivial⟩ | exact ⟨sub_refl _ _, sub_refl _ _, sub_refl _ _, trivial⟩ | exact ⟨⟨rfl, sub_refl _ _, trivial⟩, sub_refl _ _, trivial⟩ | (simp [cargs, cargsG, St.ev, St.tmp, find, ren, idx?, sub_refl, sub, allP, resv, resC, bss, hsl] <;> omega)) ?_; clear H; intro a w H; replace H := nf_Pack H; first | (simp only [hsl] at H; replace H := nf_Pack H) | skip; try refine wpList_nil ?_
        repeat (first | refine wp_seq ?_ | refine wp_block ?_ | refine wp_skip ?_ | refine wp_exit ?_ | ((first | refine v_some 5 tab_ok hN H (by rfl) (by (try simp only [hsl]); first | done | exact ct_Pack) ?_ | refine v_more tab_ok hN H (by rfl) (by rfl) (by (try simp only [hsl]); first | done | exact ct_Pack) ?_); clear H; intro a w H; replace H := nf_Pack H; first | (simp only [hsl] at H; replace H := nf_Pack H) | skip; (try simp only [List.drop_succ_cons, List.drop_zero, List.drop_nil]); try refine wpList_nil ?_) | refine wp_region_lit ?_)
        refine v_call [] [] (hjo) H rfl rfl (by rfl) (by simp [pickB, bxs, ren, idx?, sub_refl, sub, allP, hsl] <;> omega) (by first | rfl | (simp [hsl] <;> omega)) (by first | exact trivial | exact ⟨sub_refl _ _, trivial⟩ | exact ⟨sub_refl _ _, sub_refl _ _, trivial⟩ | exact ⟨sub_refl _ _, sub_refl _ _, sub_refl _ _, trivial⟩ | exact ⟨⟨rfl, sub_refl _ _, trivial⟩, sub_refl _ _, trivial⟩ | (simp [cargs, cargsG, St.ev, St.tmp, find, ren, idx?, sub_refl, sub, allP, resv, resC, bss, hsl] <;> omega)) ?_; clear H; intro a w H; replace H := nf_Pack H; first | (simp only [hsl] at H; replace H := nf_Pack H) | skip; try refine wpList_nil ?_
        repeat (first | refine wp_seq ?_ | refine wp_block ?_ | refine wp_skip ?_ | refine wp_exit ?_ | ((first | refine v_some 5 tab_ok hN H (by rfl) (by (try simp only [hsl]); first | done | exact ct_Pack) ?_ | refine v_more tab_ok hN H (by rfl) (by rfl) (by (try simp only [hsl]); first | done | exact ct_Pack) ?_); clear H; intro a w H; replace H := nf_Pack H; first | (simp only [hsl] at H; replace H := nf_Pack H) | skip; (try simp only [List.drop_succ_cons, List.drop_zero, List.drop_nil]); try refine wpList_nil ?_) | refine wp_region_lit ?_)
        refine wp_ret ?_
        exact v_end [] [4] tab_ok ⟨hN, hR⟩ (rs := [.tmp 2, .tmp 3]) (ress := [_, _]) rfl H (by rfl) (by rfl) (by simp [pickB, bxs, ren, idx?, sub_refl, sub, allP, hsl] <;> omega) (by first | rfl | (simp [hsl] <;> omega)) (by first | exact trivial | exact ⟨sub_refl _ _, trivial⟩ | exact ⟨sub_refl _ _, sub_refl _ _, trivial⟩ | exact ⟨sub_refl _ _, sub_refl _ _, sub_refl _ _, trivial⟩ | exact ⟨⟨rfl, sub_refl _ _, trivial⟩, sub_refl _ _, trivial⟩ | (simp [cargs, cargsG, St.ev, St.tmp, find, ren, idx?, sub_refl, sub, allP, resv, resC, bss, hsl] <;> omega)) rfl
end Go.Proofs.Ytlagngkafllbiaa
/- Proofs as bytes: how they are read. -/
namespace Go.Proofs.Ytlagngkafllbiaa
open Go Go.RowKit
/-- The state made plain. -/
theorem nf_Pack2 {P : Program} {w0 w : World} {N : Gh} {nt : Nat} {st s2 : St} {a : Act} (H : Rel P w0 N nt st a w) (h : st = s2 := by (try simp only [pk, elemB, St.put, St.ev, St.tmp, St.keep, find, dropT, slots, AV.put, AV.loc, fitI, convI, IntKind.signed, IntKind.bits, strip, St.lose, mergeL, setAll, nth, renB, ren, idx?, sub, allP, low, bnd, Int.reduceEq, Nat.reduceAdd, Nat.reduceLT, reduceIte, reduceCtorEq, Nat.reduceEqDiff, Nat.reduceLeDiff, Nat.reduceBEq, Int.reducePow, Int.reduceToNat, ti24_t, ti24_z, ti5_t, ti5_z, ti30_t, ti30_z, ti62_t, ti62_z, ti64_t, ti64_z, ti41_t, ti41_z, ti26_t, ti26_z]); rfl) : Rel P w0 N nt s2 a w := h ▸ H
theorem nt_Pack2 {P : Program} {w0 w : World} {N gS : Gh} {nt : Nat} {q q2 st s2 : St} {a : Act} (H : RelT P w0 N nt gS q st a w) (h1 : q = q2 := by (try simp only [pk, elemB, St.put, St.ev, St.tmp, St.keep, find, dropT, slots, AV.put, AV.loc, fitI, convI, IntKind.signed, IntKind.bits, strip, St.lose, mergeL, setAll, nth, renB, ren, idx?, sub, allP, low, bnd, Int.reduceEq, Nat.reduceAdd, Nat.reduceLT, reduceIte, reduceCtorEq, Nat.reduceEqDiff, Nat.reduceLeDiff, Nat.reduceBEq, Int.reducePow, Int.reduceToNat, ti24_t, ti24_z, ti5_t, ti5_z, ti30_t, ti30_z, ti62_t, ti62_z, ti64_t, ti64_z, ti41_t, ti41_z, ti26_t, ti26_z]); rfl) (h : st = s2 := by (try simp only [pk, elemB, St.put, St.ev, St.tmp, St.keep, find, dropT, slots, AV.put, AV.loc, fitI, convI, IntKind.signed, IntKind.bits, strip, St.lose, mergeL, setAll, nth, renB, ren, idx?, sub, allP, low, bnd, Int.reduceEq, Nat.reduceAdd, Nat.reduceLT, reduceIte, reduceCtorEq, Nat.reduceEqDiff, Nat.reduceLeDiff, Nat.reduceBEq, Int.reducePow, Int.reduceToNat, ti24_t, ti24_z, ti5_t, ti5_z, ti30_t, ti30_z, ti62_t, ti62_z, ti64_t, ti64_z, ti41_t, ti41_z, ti26_t, ti26_z]); rfl) : RelT P w0 N nt gS q2 s2 a w := h1 ▸ h ▸ H
theorem ct_Pack2 {c : Prop} (h : c := by ((try simp only [pk, elemB, St.put, St.ev, St.tmp, St.keep, find, dropT, slots, AV.put, AV.loc, fitI, convI, IntKind.signed, IntKind.bits, strip, St.lose, mergeL, setAll, nth, renB, ren, idx?, sub, allP, low, bnd, Int.reduceEq, Nat.reduceAdd, Nat.reduceLT, reduceIte, reduceCtorEq, Nat.reduceEqDiff, Nat.reduceLeDiff, Nat.reduceBEq, Int.reducePow, Int.reduceToNat, ti24_t, ti24_z, ti5_t, ti5_z, ti30_t, ti30_z, ti62_t, ti62_z, ti64_t, ti64_z, ti41_t, ti41_z, ti26_t, ti26_z, ti24, ti5, ti30, ti62, ti64, ti41, ti26, fit, gcond, ilo, ihi]); first | done | exact cd | exact cd2 | skip)) : c := h
theorem encodeP_bad (p : Pf) (hw : p.wf) (h : p.chk ≠ 0) : VC Try.prog 50 [p.av] [] (.tup [.v (.slice none 0 0), errv p.chk]) := by
  have hc := pcheck_v p hw
  have hsl := bas_len p.s
  obtain ⟨h1, h2, h3, h4⟩ := id hw.e
  refine v_enter Try.func50 rfl (by kernel_rfl) (by show 1 ≤ 70; decide) ?_
  intro N w0 a w hN hR H
  simp only [Pf.av, Nd.av] at H hc
  repeat (first | refine wp_seq ?_ | refine wp_block ?_ | refine wp_skip ?_ | refine wp_exit ?_ | ((first | refine v_some 5 tab_ok hN H (by rfl) ct_Pack2 ?_ | refine v_more tab_ok hN H (by rfl) (by rfl) ct_Pack2 ?_); clear H; intro a w H; replace H := nf_Pack2 H; (try simp only [List.drop_succ_cons, List.drop_zero, List.drop_nil]); try refine wpList_nil ?_) | refine wp_region_lit ?_)
  refine v_call [] [] (hc) H rfl rfl (by rfl) cb cw ca ?_; clear H; intro a w H; replace H := nf_Pack2 H; try refine wpList_nil ?_
  repeat (first | refine wp_seq ?_ | refine wp_block ?_ | refine wp_skip ?_ | refine wp_exit ?_ | ((first | refine v_some 5 tab_ok hN H (by rfl) ct_Pack2 ?_ | refine v_more tab_ok hN H (by rfl) (by rfl) ct_Pack2 ?_); clear H; intro a w H; replace H := nf_Pack2 H; (try simp only [List.drop_succ_cons, List.drop_zero, List.drop_nil]); try refine wpList_nil ?_) | refine wp_region_lit ?_)
  refine v_cond H (by rfl) (fun hb => ?_) (fun hb => ?_)
  · repeat (first | refine wp_seq ?_ | refine wp_block ?_ | refine wp_skip ?_ | refine wp_exit ?_ | ((first | refine v_some 5 tab_ok hN H (by rfl) ct_Pack2 ?_ | refine v_more tab_ok hN H (by rfl) (by rfl) ct_Pack2 ?_); clear H; intro a w H; replace H := nf_Pack2 H; (try simp only [List.drop_succ_cons, List.drop_zero, List.drop_nil]); try refine wpList_nil ?_) | refine wp_region_lit ?_)
    refine wp_ret ?_
    exact v_end [] [] tab_ok ⟨hN, hR⟩ (rs := [.tmp 2, .tmp 3]) (ress := [_, _]) rfl H (by rfl) (by rfl) cb cw ca rfl
  · simp at hb; exact absurd hb h
/-- The sides that marks and bytes say, what is left, and whether bytes were lacking. -/
def runS : List Bool → List UInt8 → List (List UInt8) × List UInt8 × Bool
  | [], r => ([], r, false)
  | m :: ms, r => if m = true ∧ r.length < 32 then ([E0], r, true) else ((if m then r.take 32 else E0) :: (runS ms (if m then r.drop 32 else r)).1, (runS ms (if m then r.drop 32 else r)).2)
def marksOf (bits : List UInt8) (n : Nat) : List Bool := (List.range n).map fun i => bitAt (bits.getD (i / 8) 0) (i % 8)
def rdQ (l : List UInt8) : Pf × Bool :=
  if l.length < 2 then (⟨[], .zero⟩, false) else
  if 256 < num 0 (l.take 2) then (⟨[], .zero⟩, false) else
  if (l.drop 2).length < (num 0 (l.take 2) + 7) / 8 then (⟨[], .zero⟩, false) else
  let x := runS (marksOf ((l.drop 2).take ((num 0 (l.take 2) + 7) / 8)) (num 0 (l.take 2))) ((l.drop 2).drop ((num 0 (l.take 2) + 7) / 8))
  if x.2.2 then (⟨x.1, .zero⟩, false) else (⟨x.1, dec x.2.1⟩, decide (decOk x.2.1))
theorem pmarks_len (bits : List UInt8) (n : Nat) : (marksOf bits n).length = n := by simp [marksOf]
theorem marks_drop (bits : List UInt8) (n k : Nat) (hk : k < n) : (marksOf bits n).drop k = bitAt (bits.getD (k / 8) 0) (k % 8) :: (marksOf bits n).drop (k + 1) := by
  rw [List.drop_eq_getElem_cons (by rw [pmarks_len]; exact hk)]
  simp [marksOf]
theorem E0_len : E0.length = 32 := sum_length [0]
theorem runS_w : ∀ (ms : List Bool) (r : List UInt8), ∀ h ∈ (runS ms r).1, h.length = 32
  | [], r => fun h hh => by cases hh
  | m :: ms, r => by
    intro h hh
    unfold runS at hh
    split at hh
    · simp at hh; subst hh; exact E0_len
    · rename_i hc
      rcases List.mem_cons.1 hh with rfl | hh
      · split
        · rename_i hm; rw [List.length_take]; have : ¬ r.length < 32 := fun e => hc ⟨hm, e⟩; omega
        · exact E0_len
      · exact runS_w ms _ h hh
/-- Where the reading stands. -/
structure At (ms : List Bool) (l : List UInt8) (i : Nat × List (List UInt8) × List UInt8 × Bool) : Prop where
  k : i.1 ≤ ms.length
  len : i.2.1.length = i.1
  lr : i.2.2.1.length ≤ l.length
  ok : i.2.2.2 = false → runS ms l = (i.2.1 ++ (runS (ms.drop i.1) i.2.2.1).1, (runS (ms.drop i.1) i.2.2.1).2)
  no : i.2.2.2 = true → runS ms l = (i.2.1, i.2.2.1, true)
theorem at_start (ms : List Bool) (l : List UInt8) : At ms l (0, [], l, false) :=
  ⟨Nat.zero_le _, rfl, Nat.le_refl _, fun _ => rfl, fun h => by cases h⟩
theorem at_next {ms ms' : List Bool} {l r : List UInt8} {k : Nat} {ss : List (List UInt8)} {m : Bool} (h : At ms l (k, ss, r, false)) (hd : ms.drop k = m :: ms.drop (k + 1)) (hk : k < ms.length) (hm : ¬ (m = true ∧ r.length < 32)) :
    At ms l (k + 1, ss ++ [if m then r.take 32 else E0], if m then r.drop 32 else r, false) := by
  refine ⟨hk, by simp [h.len], ?_, fun _ => ?_, fun e => by cases e⟩
  · dsimp only; have := h.lr; dsimp only at this; split <;> simp <;> omega
  · have := h.ok rfl
    dsimp only at this ⊢
    rw [this, hd, runS, if_neg hm]
    simp
theorem at_bad {ms ms' : List Bool} {l r : List UInt8} {k : Nat} {ss : List (List UInt8)} (h : At ms l (k, ss, r, false)) (hd : ms.drop k = true :: ms.drop (k + 1)) (hk : k < ms.length) (hr : r.length < 32) :
    At ms l (k + 1, ss ++ [E0], r, true) := by
  refine ⟨hk, by simp [h.len], h.lr, fun e => (by cases e), fun _ => ?_⟩
  have := h.ok rfl
  dsimp only at this ⊢
  rw [this, hd, runS, if_pos ⟨rfl, hr⟩]
set_option maxRecDepth 20000 in
set_option maxHeartbeats 1000000 in
theorem readP_main (l : List UInt8) (hl : l.length ≤ 34359730000) (hs : ¬ l.length < 2) (hn : ¬ 256 < num 0 (l.take 2)) (hq : ¬ (l.drop 2).length < (num 0 (l.take 2) + 7) / 8) :
    VC Try.prog 49 [.bs l none] [] (.tup [(rdQ l).1.av, .v (.bool (rdQ l).2)]) := by
  rw [rdQ, if_neg hs, if_neg hn, if_neg hq]
  obtain ⟨n, hne⟩ : ∃ n, n = num 0 (l.take 2) := ⟨_, rfl⟩
  rw [← hne] at hn hq ⊢
  dsimp only
  have h1 := newRd_v l (by omega)
  have h2 := u16_ok l (by omega) (by omega)
  rw [← hne] at h2
  obtain ⟨l2, hl2⟩ : ∃ l2, l2 = l.drop 2 := ⟨_, rfl⟩
  have hl2l : l2.length ≤ l.length := by rw [hl2, List.length_drop]; omega
  rw [← hl2] at h2 hq ⊢
  have h3 := take_ok l2 ((n + 7) / 8) (by omega) (by omega)
  obtain ⟨l3, hl3⟩ : ∃ l3, l3 = l2.drop ((n + 7) / 8) := ⟨_, rfl⟩
  obtain ⟨bits, hbits⟩ : ∃ bits, bits = l2.take ((n + 7) / 8) := ⟨_, rfl⟩
  have hl3l : l3.length ≤ l.length := by rw [hl3, List.length_drop]; omega
  have hbl : bits.length = (n + 7) / 8 := by rw [hbits, List.length_take]; omega
  rw [← hl3, ← hbits] at h3 ⊢
  have hb1 := bits_v n (by omega)
  obtain ⟨ms, hms⟩ : ∃ ms, ms = marksOf bits n := ⟨_, rfl⟩
  rw [← hms]
  have hml : ms.length = n := by rw [hms, pmarks_len]
  have hsum := sum_length [0]
  have eE : sum [0] = E0 := rfl
  refine v_enter Try.func49 rfl (by kernel_rfl) (by show 1 ≤ 74; decide) ?_
  intro N w0 a w hN hR H
  simp only [rdv] at H h1 h2 h3
  repeat (first | refine wp_seq ?_ | refine wp_block ?_ | refine wp_skip ?_ | refine wp_exit ?_ | ((first | refine v_some 5 tab_ok hN H (by rfl) ct_Pack2 ?_ | refine v_more tab_ok hN H (by rfl) (by rfl) ct_Pack2 ?_); clear H; intro a w H; replace H := nf_Pack2 H; (try simp only [List.drop_succ_cons, List.drop_zero, List.drop_nil]); try refine wpList_nil ?_) | refine wp_region_lit ?_)
  refine v_call [] [] (h1) H rfl rfl (by rfl) cb cw ca ?_; clear H; intro a w H; replace H := nf_Pack2 H; try refine wpList_nil ?_
  repeat (first | refine wp_seq ?_ | refine wp_block ?_ | refine wp_skip ?_ | refine wp_exit ?_ | ((first | refine v_some 5 tab_ok hN H (by rfl) ct_Pack2 ?_ | refine v_more tab_ok hN H (by rfl) (by rfl) ct_Pack2 ?_); clear H; intro a w H; replace H := nf_Pack2 H; (try simp only [List.drop_succ_cons, List.drop_zero, List.drop_nil]); try refine wpList_nil ?_) | refine wp_region_lit ?_)
  refine v_call [1] [] (h2) H rfl rfl (by rfl) cb cw ca ?_; clear H; intro a w H; replace H := nf_Pack2 H; try refine wpList_nil ?_
  repeat (first | refine wp_seq ?_ | refine wp_block ?_ | refine wp_skip ?_ | refine wp_exit ?_ | ((first | refine v_some 5 tab_ok hN H (by rfl) ct_Pack2 ?_ | refine v_more tab_ok hN H (by rfl) (by rfl) ct_Pack2 ?_); clear H; intro a w H; replace H := nf_Pack2 H; (try simp only [List.drop_succ_cons, List.drop_zero, List.drop_nil]); try refine wpList_nil ?_) | refine wp_region_lit ?_)
  refine v_cond H (by rfl) (fun hb => ?_) (fun hb => ?_)
  · exfalso; simp at hb; omega
  repeat (first | refine wp_seq ?_ | refine wp_block ?_ | refine wp_skip ?_ | refine wp_exit ?_ | ((first | refine v_some 5 tab_ok hN H (by rfl) ct_Pack2 ?_ | refine v_more tab_ok hN H (by rfl) (by rfl) ct_Pack2 ?_); clear H; intro a w H; replace H := nf_Pack2 H; (try simp only [List.drop_succ_cons, List.drop_zero, List.drop_nil]); try refine wpList_nil ?_) | refine wp_region_lit ?_)
  refine v_call [] [] (hb1) H rfl rfl (by rfl) cb cw ca ?_; clear H; intro a w H; replace H := nf_Pack2 H; try refine wpList_nil ?_
  repeat (first | refine wp_seq ?_ | refine wp_block ?_ | refine wp_skip ?_ | refine wp_exit ?_ | ((first | refine v_some 5 tab_ok hN H (by rfl) ct_Pack2 ?_ | refine v_more tab_ok hN H (by rfl) (by rfl) ct_Pack2 ?_); clear H; intro a w H; replace H := nf_Pack2 H; (try simp only [List.drop_succ_cons, List.drop_zero, List.drop_nil]); try refine wpList_nil ?_) | refine wp_region_lit ?_)
  refine v_call [1] [] (h3) H rfl rfl (by rfl) cb cw ca ?_; clear H; intro a w H; replace H := nf_Pack2 H; try refine wpList_nil ?_
  repeat (first | refine wp_seq ?_ | refine wp_block ?_ | refine wp_skip ?_ | refine wp_exit ?_ | ((first | refine v_some 5 tab_ok hN H (by rfl) ct_Pack2 ?_ | refine v_more tab_ok hN H (by rfl) (by rfl) ct_Pack2 ?_); clear H; intro a w H; replace H := nf_Pack2 H; (try simp only [List.drop_succ_cons, List.drop_zero, List.drop_nil]); try refine wpList_nil ?_) | refine wp_region_lit ?_)
  refine v_call [] [] (empty_v) H rfl rfl (by rfl) cb cw ca ?_; clear H; intro a w H; replace H := nf_Pack2 H; try refine wpList_nil ?_
  repeat (first | refine wp_seq ?_ | refine wp_block ?_ | refine wp_skip ?_ | refine wp_exit ?_ | ((first | refine v_some 5 tab_ok hN H (by rfl) ct_Pack2 ?_ | refine v_more tab_ok hN H (by rfl) (by rfl) ct_Pack2 ?_); clear H; intro a w H; replace H := nf_Pack2 H; (try simp only [List.drop_succ_cons, List.drop_zero, List.drop_nil]); try refine wpList_nil ?_) | refine wp_region_lit ?_)
  rw [eE] at H hsum
  have H := v_sub H 6 (x := .bs bits (some 0)) (y := .bs bits none) (by simp only [sub]) rfl (fun _ e => by cases e) rfl
  simp only [nilT, reduceIte, Nat.reduceEqDiff] at H
  have H := v_nilX tab_ok H 2 0 30 (j := ti30) (.ba 32) rfl (by decide) rfl rfl
  simp only [List.set_cons_succ, List.set_cons_zero, List.length_cons, List.length_nil, Nat.reduceAdd, List.cons_append, List.nil_append, hz] at H
  refine v_loop (fun i : Nat × List (List UInt8) × List UInt8 × Bool => ⟨[(9, none, .v (.int .i64 (i.1 : Int))), (8, none, .ptr 3 []), (7, none, .ptr 2 []), (6, none, .bs bits none), (5, none, .v (.int .i64 (n : Int))), (4, none, .ptr 1 []), (3, none, .v (.bool false)), (2, none, .ptr 0 [])],
    [(ti64.ty, .st [.v (.slice none 0 0), .st [.v (.int .u8 0), .ba z32, .ba z32, .ba z32, .ba z32]]), (rdT, .st [.v (.bool true), .v (.bool i.2.2.2), .bs i.2.2.1 none]), (ti64.ty, .st [.sl (.ba 32) (bas i.2.1) (some 1), .st [.v (.int .u8 0), .ba z32, .ba z32, .ba z32, .ba z32]]), (.ba 32, .ba E0)], [], [(5, (n + 7) / 8), (30, i.2.1.length)]⟩)
    (At ms l3) (fun i => n - i.1) (0, [], l3, false) (at_start ms l3) (H.to 4 2 ⟨Nat.le_trans hN (by decide), Nat.le_trans hR (by decide)⟩ ⟨rfl, rfl, rfl, rfl, rfl, rfl, rfl, rfl, trivial⟩ rfl rfl rfl rfl rfl) ?_
  clear H
  rintro ⟨k, ss, r, bad⟩ a w hat H
  dsimp only at H
  have hk := hat.k
  have hlr := hat.lr
  have hsl := hat.len
  dsimp only at hk hlr hsl
  have hbd := bad_v bad r
  simp only [rdv] at hbd
  repeat (first | refine wp_seq ?_ | refine wp_block ?_ | refine wp_skip ?_ | refine wp_exit ?_ | ((first | refine v_some 5 tab_ok hN H (by rfl) ct_Pack2 ?_ | refine v_more tab_ok hN H (by rfl) (by rfl) ct_Pack2 ?_); clear H; intro a w H; replace H := nf_Pack2 H; (try simp only [List.drop_succ_cons, List.drop_zero, List.drop_nil]); try refine wpList_nil ?_) | refine wp_region_lit ?_)
  refine v_callG [1] [] (hbd) H (by rfl) rfl (by rfl) cb cw ca (by rfl) (by rfl) (by rfl) ?_; clear H; intro a w H; replace H := nf_Pack2 H; try refine wpList_nil ?_
  repeat (first | refine wp_seq ?_ | refine wp_block ?_ | refine wp_skip ?_ | refine wp_exit ?_ | ((first | refine v_some 5 tab_ok hN H (by rfl) ct_Pack2 ?_ | refine v_more tab_ok hN H (by rfl) (by rfl) ct_Pack2 ?_); clear H; intro a w H; replace H := nf_Pack2 H; (try simp only [List.drop_succ_cons, List.drop_zero, List.drop_nil]); try refine wpList_nil ?_) | refine wp_region_lit ?_)
  refine v_cond H (by rfl) (fun hb => ?_) (fun hb => ?_)
  · have hb1 : k < n ∧ bad = false := by simpa using hb
    obtain ⟨hkn, rfl⟩ := hb1
    have e8 : ((k : Int) / 8).toNat = k / 8 := by omega
    have e7 : (if ((k : Int) % 8).toNat ≤ 8 then ((k : Int) % 8).toNat else 8) = k % 8 := by split <;> omega
    repeat (first | refine wp_seq ?_ | refine wp_block ?_ | refine wp_skip ?_ | refine wp_exit ?_ | ((first | refine v_some 5 tab_ok hN H (by rfl) (by (try simp only [e8, e7, e8, e7]); first | done | exact ct_Pack2) ?_ | refine v_more tab_ok hN H (by rfl) (by rfl) (by (try simp only [e8, e7, e8, e7]); first | done | exact ct_Pack2) ?_); clear H; intro a w H; replace H := nf_Pack2 H; first | (simp only [e8, e7] at H; replace H := nf_Pack2 H) | skip; (try simp only [List.drop_succ_cons, List.drop_zero, List.drop_nil]); try refine wpList_nil ?_) | refine wp_region_lit ?_)
    repeat (first | refine wp_seq ?_ | refine wp_block ?_)
    refine v_draw 2 [] [] (by kernel_rfl) (by kernel_rfl) H (by rfl) (fun gS H => ?_); try replace H := nt_Pack2 H; first | (simp only [e8, e7] at H; replace H := nt_Pack2 H) | skip
    repeat (refine v_someT 5 tab_ok hN H (by rfl) (by (try simp only [e8, e7, e8, e7]); first | done | exact ct_Pack2) ?_; clear H; intro a w H; replace H := nt_Pack2 H; first | (simp only [e8, e7] at H; replace H := nt_Pack2 H) | skip; simp only [List.drop_succ_cons, List.drop_zero, List.drop_nil])
    refine v_moreT tab_ok hN H (by rfl) (by (try simp only [e8, e7, e8, e7]); first | done | exact ct_Pack2) ?_; clear H; intro a w H; try replace H := nt_Pack2 H; first | (simp only [e8, e7] at H; replace H := nt_Pack2 H) | skip
    refine v_drawNil H (fun H => ?_)
    repeat (first | refine wp_seq ?_ | refine wp_block ?_ | refine wp_skip ?_ | refine wp_exit ?_ | ((first | refine v_some 5 tab_ok hN H (by rfl) (by (try simp only [e8, e7, e8, e7]); first | done | exact ct_Pack2) ?_ | refine v_more tab_ok hN H (by rfl) (by rfl) (by (try simp only [e8, e7, e8, e7]); first | done | exact ct_Pack2) ?_); clear H; intro a w H; replace H := nf_Pack2 H; first | (simp only [e8, e7] at H; replace H := nf_Pack2 H) | skip; (try simp only [List.drop_succ_cons, List.drop_zero, List.drop_nil]); try refine wpList_nil ?_) | refine wp_region_lit ?_)
    rw [and_bit] at H
    have hdr := marks_drop bits n k hkn
    rw [← hms] at hdr
    have hkm : k < ms.length := by omega
    have hbs : bas (ss ++ [E0]) = bas ss ++ [.ba E0] := by simp [bas]
    have hE32 : E0.take 32 = E0 := List.take_of_length_le (by omega)
    have hE33 : E0.drop 32 = [] := List.drop_eq_nil_of_le (by omega)
    have hbl' := bas_len ss
    refine v_cond H (by rfl) (fun hb => ?_) (fun hb => ?_)
    · rw [hb] at hdr
      replace H := H.keep [2, 3, 4, 5, 6, 7, 8, 9, 10] 5 2 ⟨Nat.le_trans hN (by show _ ≤ 5; decide), Nat.le_trans hR (by show _ ≤ 2; decide)⟩ (by rfl) (by rfl)
      replace H := nf_Pack2 H; first | (simp only [e8, e7] at H; replace H := nf_Pack2 H) | skip
      by_cases hr : r.length < 32
      · have ht := take_bad r 32 hr
        simp only [rdv] at ht
        repeat (first | refine wp_seq ?_ | refine wp_block ?_)
        refine v_draw 0 [2, 3] [0] (by kernel_rfl) (by kernel_rfl) H (by rfl) (fun gS H => ?_); try replace H := nt_Pack2 H; first | (simp only [e8, e7] at H; replace H := nt_Pack2 H) | skip
        repeat (refine v_someT 5 tab_ok hN H (by rfl) (by (try simp only [e8, e7, e8, e7]); first | done | exact ct_Pack2) ?_; clear H; intro a w H; replace H := nt_Pack2 H; first | (simp only [e8, e7] at H; replace H := nt_Pack2 H) | skip; simp only [List.drop_succ_cons, List.drop_zero, List.drop_nil])
        refine v_moreT tab_ok hN H (by rfl) (by (try simp only [e8, e7, e8, e7]); first | done | exact ct_Pack2) ?_; clear H; intro a w H; try replace H := nt_Pack2 H; first | (simp only [e8, e7] at H; replace H := nt_Pack2 H) | skip
        refine v_callT [1] [] (ht) H (by rfl) (by rfl) rfl rfl (by rfl) (by simp [pickB, bxs, ren, idx?, sub_refl, sub, allP, e8, e7] <;> omega) (by first | rfl | (simp [e8, e7] <;> omega)) (by first | exact trivial | exact ⟨sub_refl _ _, trivial⟩ | exact ⟨sub_refl _ _, sub_refl _ _, trivial⟩ | exact ⟨sub_refl _ _, sub_refl _ _, sub_refl _ _, trivial⟩ | exact ⟨⟨rfl, sub_refl _ _, trivial⟩, sub_refl _ _, trivial⟩ | (simp [cargs, cargsG, St.ev, St.tmp, find, ren, idx?, sub_refl, sub, allP, resv, resC, bss, e8, e7] <;> omega)) ?_; clear H; intro a w H; try replace H := nt_Pack2 H; first | (simp only [e8, e7] at H; replace H := nt_Pack2 H) | skip
        repeat (refine v_someT 5 tab_ok hN H (by rfl) (by (try simp only [e8, e7, e8, e7]); first | done | exact ct_Pack2) ?_; clear H; intro a w H; replace H := nt_Pack2 H; first | (simp only [e8, e7] at H; replace H := nt_Pack2 H) | skip; simp only [List.drop_succ_cons, List.drop_zero, List.drop_nil])
        refine v_moreT tab_ok hN H (by rfl) (by (try simp only [e8, e7, e8, e7]); first | done | exact ct_Pack2) ?_; clear H; intro a w H; try replace H := nt_Pack2 H; first | (simp only [e8, e7] at H; replace H := nt_Pack2 H) | skip
        refine v_drawNil H (fun H => ?_)
        repeat (first | refine wp_seq ?_ | refine wp_block ?_ | refine wp_skip ?_ | refine wp_exit ?_ | ((first | refine v_some 5 tab_ok hN H (by rfl) (by (try simp only [e8, e7, e8, e7]); first | done | exact ct_Pack2) ?_ | refine v_more tab_ok hN H (by rfl) (by rfl) (by (try simp only [e8, e7, e8, e7]); first | done | exact ct_Pack2) ?_); clear H; intro a w H; replace H := nf_Pack2 H; first | (simp only [e8, e7] at H; replace H := nf_Pack2 H) | skip; (try simp only [List.drop_succ_cons, List.drop_zero, List.drop_nil]); try refine wpList_nil ?_) | refine wp_region_lit ?_)
        exact ⟨(k + 1, ss ++ [E0], r, true), at_bad (ms' := ms) hat hdr hkm hr, by dsimp only; omega, H.to 4 2 ⟨Nat.le_trans hN (by decide), Nat.le_trans hR (by decide)⟩ ⟨rfl, rfl, rfl, rfl, rfl, rfl, rfl, rfl, trivial⟩ (by dsimp only; rw [hbs]; rfl) (by dsimp only; rw [List.length_append, hbl']; rfl) rfl rfl rfl⟩
      · have ht := take_ok r 32 (by omega) (by omega)
        simp only [rdv] at ht
        repeat (first | refine wp_seq ?_ | refine wp_block ?_)
        refine v_draw 0 [2, 3] [0] (by kernel_rfl) (by kernel_rfl) H (by rfl) (fun gS H => ?_); try replace H := nt_Pack2 H; first | (simp only [e8, e7] at H; replace H := nt_Pack2 H) | skip
        repeat (refine v_someT 5 tab_ok hN H (by rfl) (by (try simp only [e8, e7, e8, e7]); first | done | exact ct_Pack2) ?_; clear H; intro a w H; replace H := nt_Pack2 H; first | (simp only [e8, e7] at H; replace H := nt_Pack2 H) | skip; simp only [List.drop_succ_cons, List.drop_zero, List.drop_nil])
        refine v_moreT tab_ok hN H (by rfl) (by (try simp only [e8, e7, e8, e7]); first | done | exact ct_Pack2) ?_; clear H; intro a w H; try replace H := nt_Pack2 H; first | (simp only [e8, e7] at H; replace H := nt_Pack2 H) | skip
        refine v_callT [1] [] (ht) H (by rfl) (by rfl) rfl rfl (by rfl) (by simp [pickB, bxs, ren, idx?, sub_refl, sub, allP, e8, e7] <;> omega) (by first | rfl | (simp [e8, e7] <;> omega)) (by first | exact trivial | exact ⟨sub_refl _ _, trivial⟩ | exact ⟨sub_refl _ _, sub_refl _ _, trivial⟩ | exact ⟨sub_refl _ _, sub_refl _ _, sub_refl _ _, trivial⟩ | exact ⟨⟨rfl, sub_refl _ _, trivial⟩, sub_refl _ _, trivial⟩ | (simp [cargs, cargsG, St.ev, St.tmp, find, ren, idx?, sub_refl, sub, allP, resv, resC, bss, e8, e7] <;> omega)) ?_; clear H; intro a w H; try replace H := nt_Pack2 H; first | (simp only [e8, e7] at H; replace H := nt_Pack2 H) | skip
        repeat (refine v_someT 5 tab_ok hN H (by rfl) (by (try simp only [e8, e7, e8, e7]); first | done | exact ct_Pack2) ?_; clear H; intro a w H; replace H := nt_Pack2 H; first | (simp only [e8, e7] at H; replace H := nt_Pack2 H) | skip; simp only [List.drop_succ_cons, List.drop_zero, List.drop_nil])
        refine v_moreT tab_ok hN H (by rfl) (by (try simp only [e8, e7, e8, e7]); first | done | exact ct_Pack2) ?_; clear H; intro a w H; try replace H := nt_Pack2 H; first | (simp only [e8, e7] at H; replace H := nt_Pack2 H) | skip
        refine v_drawNil H (fun H => ?_)
        repeat (first | refine wp_seq ?_ | refine wp_block ?_ | refine wp_skip ?_ | refine wp_exit ?_ | ((first | refine v_some 5 tab_ok hN H (by rfl) (by (try simp only [e8, e7, e8, e7]); first | done | exact ct_Pack2) ?_ | refine v_more tab_ok hN H (by rfl) (by rfl) (by (try simp only [e8, e7, e8, e7]); first | done | exact ct_Pack2) ?_); clear H; intro a w H; replace H := nf_Pack2 H; first | (simp only [e8, e7] at H; replace H := nf_Pack2 H) | skip; (try simp only [List.drop_succ_cons, List.drop_zero, List.drop_nil]); try refine wpList_nil ?_) | refine wp_region_lit ?_)
        have h32 : (r.take 32).length = 32 := by rw [List.length_take]; omega
        have ht2 : (r.take 32).take 32 ++ E0.drop ((r.take 32).take 32).length = r.take 32 := by rw [List.take_of_length_le (Nat.le_of_eq h32), h32, hE33, List.append_nil]
        have hbs2 : bas (ss ++ [r.take 32]) = bas ss ++ [.ba (r.take 32)] := by simp [bas]
        rw [ht2] at H
        exact ⟨(k + 1, ss ++ [r.take 32], r.drop 32, false), at_next (ms' := ms) (m := true) hat hdr hkm (fun h => hr h.2), by dsimp only; omega, H.to 4 2 ⟨Nat.le_trans hN (by decide), Nat.le_trans hR (by decide)⟩ ⟨rfl, rfl, rfl, rfl, rfl, rfl, rfl, rfl, trivial⟩ (by dsimp only; rw [hbs2]; rfl) (by dsimp only; rw [List.length_append, hbl']; rfl) rfl rfl rfl⟩
    · rw [hb] at hdr
      repeat (first | refine wp_seq ?_ | refine wp_block ?_ | refine wp_skip ?_ | refine wp_exit ?_ | ((first | refine v_some 5 tab_ok hN H (by rfl) (by (try simp only [e8, e7, e8, e7]); first | done | exact ct_Pack2) ?_ | refine v_more tab_ok hN H (by rfl) (by rfl) (by (try simp only [e8, e7, e8, e7]); first | done | exact ct_Pack2) ?_); clear H; intro a w H; replace H := nf_Pack2 H; first | (simp only [e8, e7] at H; replace H := nf_Pack2 H) | skip; (try simp only [List.drop_succ_cons, List.drop_zero, List.drop_nil]); try refine wpList_nil ?_) | refine wp_region_lit ?_)
      exact ⟨(k + 1, ss ++ [E0], r, false), at_next (ms' := ms) (m := false) hat hdr hkm (fun h => by cases h.1), by dsimp only; omega, H.to 4 2 ⟨Nat.le_trans hN (by decide), Nat.le_trans hR (by decide)⟩ ⟨rfl, rfl, rfl, rfl, rfl, rfl, rfl, rfl, trivial⟩ (by dsimp only; rw [hbs]; rfl) (by dsimp only; rw [List.length_append, hbl']; rfl) rfl rfl rfl⟩
  · have hbc : bad = true ∨ (bad = false ∧ k = n) := by
      cases bad
      · right; refine ⟨rfl, ?_⟩; simp at hb; omega
      · exact .inl rfl
    have hsum := E0_len
    rcases hbc with rfl | ⟨rfl, rfl⟩
    · have hrun := hat.no rfl
      have h4 := left_v true r
      have h5 := take_was r 0
      have hd := decode_v []
      have hdb : ¬ decOk [] := by simp [decOk]
      have hdl := z32_len
      rw [if_neg hdb, dec_bad hdb] at hd
      simp only [rdv, Nd.av, Nd.zero, if_true] at h4 h5 hd
      dsimp only at hrun
      rw [hrun]
      dsimp only
      rw [if_pos rfl]
      repeat (first | refine wp_seq ?_ | refine wp_block ?_ | refine wp_skip ?_ | refine wp_exit ?_ | ((first | refine v_some 5 tab_ok hN H (by rfl) ct_Pack2 ?_ | refine v_more tab_ok hN H (by rfl) (by rfl) ct_Pack2 ?_); clear H; intro a w H; replace H := nf_Pack2 H; (try simp only [List.drop_succ_cons, List.drop_zero, List.drop_nil]); try refine wpList_nil ?_) | refine wp_region_lit ?_)
      refine v_call [1] [] (h4) H rfl rfl (by rfl) cb cw ca ?_; clear H; intro a w H; replace H := nf_Pack2 H; try refine wpList_nil ?_
      repeat (first | refine wp_seq ?_ | refine wp_block ?_ | refine wp_skip ?_ | refine wp_exit ?_ | ((first | refine v_some 5 tab_ok hN H (by rfl) ct_Pack2 ?_ | refine v_more tab_ok hN H (by rfl) (by rfl) ct_Pack2 ?_); clear H; intro a w H; replace H := nf_Pack2 H; (try simp only [List.drop_succ_cons, List.drop_zero, List.drop_nil]); try refine wpList_nil ?_) | refine wp_region_lit ?_)
      refine v_call [1] [] (h5) H rfl rfl (by rfl) cb cw ca ?_; clear H; intro a w H; replace H := nf_Pack2 H; try refine wpList_nil ?_
      repeat (first | refine wp_seq ?_ | refine wp_block ?_ | refine wp_skip ?_ | refine wp_exit ?_ | ((first | refine v_some 5 tab_ok hN H (by rfl) ct_Pack2 ?_ | refine v_more tab_ok hN H (by rfl) (by rfl) ct_Pack2 ?_); clear H; intro a w H; replace H := nf_Pack2 H; (try simp only [List.drop_succ_cons, List.drop_zero, List.drop_nil]); try refine wpList_nil ?_) | refine wp_region_lit ?_)
      refine v_call [] [] (hd) H rfl rfl (by rfl) cb cw ca ?_; clear H; intro a w H; replace H := nf_Pack2 H; try refine wpList_nil ?_
      repeat (first | refine wp_seq ?_ | refine wp_block ?_ | refine wp_skip ?_ | refine wp_exit ?_ | ((first | refine v_some 5 tab_ok hN H (by rfl) ct_Pack2 ?_ | refine v_more tab_ok hN H (by rfl) (by rfl) ct_Pack2 ?_); clear H; intro a w H; replace H := nf_Pack2 H; (try simp only [List.drop_succ_cons, List.drop_zero, List.drop_nil]); try refine wpList_nil ?_) | refine wp_region_lit ?_)
      replace H := H.keep [0, 2, 3, 4, 7, 12] 4 2 ⟨Nat.le_trans hN (by show _ ≤ 4; decide), Nat.le_trans hR (by show _ ≤ 2; decide)⟩ (by rfl) (by rfl)
      replace H := nf_Pack2 H
      have H := v_ref H 7 2 (Nat.le_trans hN (by decide)) rfl rfl rfl
      simp only [nilT, strip, List.map_cons, List.map_nil, reduceIte, Nat.reduceEqDiff] at H
      repeat (first | refine wp_seq ?_ | refine wp_block ?_)
      refine v_draw 0 [2, 8] [0, 5, 6, 7] (by kernel_rfl) (by kernel_rfl) H (by rfl) (fun gS H => ?_); try replace H := nt_Pack2 H
      repeat (refine v_someT 5 tab_ok hN H (by rfl) ct_Pack2 ?_; clear H; intro a w H; replace H := nt_Pack2 H; simp only [List.drop_succ_cons, List.drop_zero, List.drop_nil])
      refine v_moreT tab_ok hN H (by rfl) ct_Pack2 ?_; clear H; intro a w H; try replace H := nt_Pack2 H
      refine v_callT [1] [] (hbd) H (by rfl) (by rfl) rfl rfl (by rfl) cb cw ca ?_; clear H; intro a w H; try replace H := nt_Pack2 H
      repeat (refine v_someT 5 tab_ok hN H (by rfl) ct_Pack2 ?_; clear H; intro a w H; replace H := nt_Pack2 H; simp only [List.drop_succ_cons, List.drop_zero, List.drop_nil])
      refine v_moreT tab_ok hN H (by rfl) ct_Pack2 ?_; clear H; intro a w H; try replace H := nt_Pack2 H
      refine v_drawNil H (fun H => ?_)
      repeat (first | refine wp_seq ?_ | refine wp_block ?_ | refine wp_skip ?_ | refine wp_exit ?_ | ((first | refine v_some 5 tab_ok hN H (by rfl) ct_Pack2 ?_ | refine v_more tab_ok hN H (by rfl) (by rfl) ct_Pack2 ?_); clear H; intro a w H; replace H := nf_Pack2 H; (try simp only [List.drop_succ_cons, List.drop_zero, List.drop_nil]); try refine wpList_nil ?_) | refine wp_region_lit ?_)
      refine wp_ret ?_
      exact v_end [] [] tab_ok ⟨hN, hR⟩ (rs := [.cell 2 64, .tmp 3]) (ress := [_, _]) rfl H (by rfl) (by rfl) (by simp [pickB, bxs, ren, idx?, sub_refl, sub, allP, Pf.av, Nd.av, Nd.zero] <;> omega) (by first | rfl | (simp [Pf.av, Nd.av, Nd.zero] <;> omega)) (by first | exact trivial | exact ⟨sub_refl _ _, trivial⟩ | exact ⟨sub_refl _ _, sub_refl _ _, trivial⟩ | exact ⟨sub_refl _ _, sub_refl _ _, sub_refl _ _, trivial⟩ | exact ⟨⟨rfl, sub_refl _ _, trivial⟩, sub_refl _ _, trivial⟩ | (simp [cargs, cargsG, St.ev, St.tmp, find, ren, idx?, sub_refl, sub, allP, resv, resC, bss, Pf.av, Nd.av, Nd.zero] <;> omega)) rfl
    · have hrun := hat.ok rfl
      dsimp only at hrun
      rw [List.drop_of_length_le (by omega)] at hrun
      simp only [runS, List.append_nil] at hrun
      have h4 := left_v false r
      have h5 := take_ok r r.length (Nat.le_refl _) (by omega)
      have hd := decode_v r
      obtain ⟨g1, g2, g3, g4⟩ := id (dec_wf r)
      simp only [rdv, Nd.av, Bool.false_eq_true, if_false, List.take_length, List.drop_length] at h4 h5 hd
      rw [hrun]
      dsimp only
      rw [if_neg (by decide)]
      have hbd := bad_v false []
      simp only [rdv] at hbd
      repeat (first | refine wp_seq ?_ | refine wp_block ?_ | refine wp_skip ?_ | refine wp_exit ?_ | ((first | refine v_some 5 tab_ok hN H (by rfl) ct_Pack2 ?_ | refine v_more tab_ok hN H (by rfl) (by rfl) ct_Pack2 ?_); clear H; intro a w H; replace H := nf_Pack2 H; (try simp only [List.drop_succ_cons, List.drop_zero, List.drop_nil]); try refine wpList_nil ?_) | refine wp_region_lit ?_)
      refine v_call [1] [] (h4) H rfl rfl (by rfl) cb cw ca ?_; clear H; intro a w H; replace H := nf_Pack2 H; try refine wpList_nil ?_
      repeat (first | refine wp_seq ?_ | refine wp_block ?_ | refine wp_skip ?_ | refine wp_exit ?_ | ((first | refine v_some 5 tab_ok hN H (by rfl) ct_Pack2 ?_ | refine v_more tab_ok hN H (by rfl) (by rfl) ct_Pack2 ?_); clear H; intro a w H; replace H := nf_Pack2 H; (try simp only [List.drop_succ_cons, List.drop_zero, List.drop_nil]); try refine wpList_nil ?_) | refine wp_region_lit ?_)
      refine v_call [1] [] (h5) H rfl rfl (by rfl) cb cw ca ?_; clear H; intro a w H; replace H := nf_Pack2 H; try refine wpList_nil ?_
      repeat (first | refine wp_seq ?_ | refine wp_block ?_ | refine wp_skip ?_ | refine wp_exit ?_ | ((first | refine v_some 5 tab_ok hN H (by rfl) ct_Pack2 ?_ | refine v_more tab_ok hN H (by rfl) (by rfl) ct_Pack2 ?_); clear H; intro a w H; replace H := nf_Pack2 H; (try simp only [List.drop_succ_cons, List.drop_zero, List.drop_nil]); try refine wpList_nil ?_) | refine wp_region_lit ?_)
      refine v_call [] [] (hd) H rfl rfl (by rfl) cb cw ca ?_; clear H; intro a w H; replace H := nf_Pack2 H; try refine wpList_nil ?_
      repeat (first | refine wp_seq ?_ | refine wp_block ?_ | refine wp_skip ?_ | refine wp_exit ?_ | ((first | refine v_some 5 tab_ok hN H (by rfl) ct_Pack2 ?_ | refine v_more tab_ok hN H (by rfl) (by rfl) ct_Pack2 ?_); clear H; intro a w H; replace H := nf_Pack2 H; (try simp only [List.drop_succ_cons, List.drop_zero, List.drop_nil]); try refine wpList_nil ?_) | refine wp_region_lit ?_)
      replace H := H.keep [0, 2, 3, 4, 7, 12] 4 2 ⟨Nat.le_trans hN (by show _ ≤ 4; decide), Nat.le_trans hR (by show _ ≤ 2; decide)⟩ (by rfl) (by rfl)
      replace H := nf_Pack2 H
      have H := v_ref H 7 2 (Nat.le_trans hN (by decide)) rfl rfl rfl
      simp only [nilT, strip, List.map_cons, List.map_nil, reduceIte, Nat.reduceEqDiff] at H
      by_cases ho : decOk r
      · simp only [if_pos ho] at H
        repeat (first | refine wp_seq ?_ | refine wp_block ?_)
        refine v_draw 0 [2, 8] [0, 5, 6, 7] (by kernel_rfl) (by kernel_rfl) H (by rfl) (fun gS H => ?_); try replace H := nt_Pack2 H
        repeat (refine v_someT 5 tab_ok hN H (by rfl) ct_Pack2 ?_; clear H; intro a w H; replace H := nt_Pack2 H; simp only [List.drop_succ_cons, List.drop_zero, List.drop_nil])
        refine v_moreT tab_ok hN H (by rfl) ct_Pack2 ?_; clear H; intro a w H; try replace H := nt_Pack2 H
        refine v_callT [1] [] (hbd) H (by rfl) (by rfl) rfl rfl (by rfl) cb cw ca ?_; clear H; intro a w H; try replace H := nt_Pack2 H
        repeat (refine v_someT 5 tab_ok hN H (by rfl) ct_Pack2 ?_; clear H; intro a w H; replace H := nt_Pack2 H; simp only [List.drop_succ_cons, List.drop_zero, List.drop_nil])
        refine v_moreT tab_ok hN H (by rfl) ct_Pack2 ?_; clear H; intro a w H; try replace H := nt_Pack2 H
        refine v_drawNil H (fun H => ?_)
        repeat (first | refine wp_seq ?_ | refine wp_block ?_ | refine wp_skip ?_ | refine wp_exit ?_ | ((first | refine v_some 5 tab_ok hN H (by rfl) ct_Pack2 ?_ | refine v_more tab_ok hN H (by rfl) (by rfl) ct_Pack2 ?_); clear H; intro a w H; replace H := nf_Pack2 H; (try simp only [List.drop_succ_cons, List.drop_zero, List.drop_nil]); try refine wpList_nil ?_) | refine wp_region_lit ?_)
        simp only [Pf.av, Nd.av, ho, decide_true, decide_false]
        refine wp_ret ?_
        exact v_end [] [] tab_ok ⟨hN, hR⟩ (rs := [.cell 2 64, .tmp 3]) (ress := [_, _]) rfl H (by rfl) (by rfl) cb cw ca rfl
      · simp only [if_neg ho] at H
        repeat (first | refine wp_seq ?_ | refine wp_block ?_)
        refine v_draw 0 [2, 8] [0, 5, 6, 7] (by kernel_rfl) (by kernel_rfl) H (by rfl) (fun gS H => ?_); try replace H := nt_Pack2 H
        repeat (refine v_someT 5 tab_ok hN H (by rfl) ct_Pack2 ?_; clear H; intro a w H; replace H := nt_Pack2 H; simp only [List.drop_succ_cons, List.drop_zero, List.drop_nil])
        refine v_moreT tab_ok hN H (by rfl) ct_Pack2 ?_; clear H; intro a w H; try replace H := nt_Pack2 H
        refine v_callT [1] [] (hbd) H (by rfl) (by rfl) rfl rfl (by rfl) cb cw ca ?_; clear H; intro a w H; try replace H := nt_Pack2 H
        repeat (refine v_someT 5 tab_ok hN H (by rfl) ct_Pack2 ?_; clear H; intro a w H; replace H := nt_Pack2 H; simp only [List.drop_succ_cons, List.drop_zero, List.drop_nil])
        refine v_moreT tab_ok hN H (by rfl) ct_Pack2 ?_; clear H; intro a w H; try replace H := nt_Pack2 H
        refine v_drawNil H (fun H => ?_)
        repeat (first | refine wp_seq ?_ | refine wp_block ?_ | refine wp_skip ?_ | refine wp_exit ?_ | ((first | refine v_some 5 tab_ok hN H (by rfl) ct_Pack2 ?_ | refine v_more tab_ok hN H (by rfl) (by rfl) ct_Pack2 ?_); clear H; intro a w H; replace H := nf_Pack2 H; (try simp only [List.drop_succ_cons, List.drop_zero, List.drop_nil]); try refine wpList_nil ?_) | refine wp_region_lit ?_)
        simp only [Pf.av, Nd.av, ho, decide_true, decide_false]
        refine wp_ret ?_
        exact v_end [] [] tab_ok ⟨hN, hR⟩ (rs := [.cell 2 64, .tmp 3]) (ress := [_, _]) rfl H (by rfl) (by rfl) cb cw ca rfl
theorem readP_many (l : List UInt8) (hl : l.length ≤ 34359730000) (hs : ¬ l.length < 2) (hn : 256 < num 0 (l.take 2)) :
    VC Try.prog 49 [.bs l none] [] (.tup [(rdQ l).1.av, .v (.bool (rdQ l).2)]) := by
  rw [rdQ, if_neg hs, if_pos hn]
  have h1 := newRd_v l (by omega)
  have h2 := u16_ok l (by omega) (by omega)
  have hz2 := z32_len
  obtain ⟨n, hne⟩ : ∃ n, n = num 0 (l.take 2) := ⟨_, rfl⟩
  rw [← hne] at hn h2
  refine v_enter Try.func49 rfl (by kernel_rfl) (by show 1 ≤ 74; decide) ?_
  intro N w0 a w hN hR H
  simp only [rdv] at H h1 h2
  repeat (first | refine wp_seq ?_ | refine wp_block ?_ | refine wp_skip ?_ | refine wp_exit ?_ | ((first | refine v_some 5 tab_ok hN H (by rfl) ct_Pack2 ?_ | refine v_more tab_ok hN H (by rfl) (by rfl) ct_Pack2 ?_); clear H; intro a w H; replace H := nf_Pack2 H; (try simp only [List.drop_succ_cons, List.drop_zero, List.drop_nil]); try refine wpList_nil ?_) | refine wp_region_lit ?_)
  refine v_call [] [] (h1) H rfl rfl (by rfl) cb cw ca ?_; clear H; intro a w H; replace H := nf_Pack2 H; try refine wpList_nil ?_
  repeat (first | refine wp_seq ?_ | refine wp_block ?_ | refine wp_skip ?_ | refine wp_exit ?_ | ((first | refine v_some 5 tab_ok hN H (by rfl) ct_Pack2 ?_ | refine v_more tab_ok hN H (by rfl) (by rfl) ct_Pack2 ?_); clear H; intro a w H; replace H := nf_Pack2 H; (try simp only [List.drop_succ_cons, List.drop_zero, List.drop_nil]); try refine wpList_nil ?_) | refine wp_region_lit ?_)
  refine v_call [1] [] (h2) H rfl rfl (by rfl) cb cw ca ?_; clear H; intro a w H; replace H := nf_Pack2 H; try refine wpList_nil ?_
  repeat (first | refine wp_seq ?_ | refine wp_block ?_ | refine wp_skip ?_ | refine wp_exit ?_ | ((first | refine v_some 5 tab_ok hN H (by rfl) ct_Pack2 ?_ | refine v_more tab_ok hN H (by rfl) (by rfl) ct_Pack2 ?_); clear H; intro a w H; replace H := nf_Pack2 H; (try simp only [List.drop_succ_cons, List.drop_zero, List.drop_nil]); try refine wpList_nil ?_) | refine wp_region_lit ?_)
  refine v_cond H (by rfl) (fun hb => ?_) (fun hb => ?_)
  · repeat (first | refine wp_seq ?_ | refine wp_block ?_ | refine wp_skip ?_ | refine wp_exit ?_ | ((first | refine v_some 5 tab_ok hN H (by rfl) ct_Pack2 ?_ | refine v_more tab_ok hN H (by rfl) (by rfl) ct_Pack2 ?_); clear H; intro a w H; replace H := nf_Pack2 H; (try simp only [List.drop_succ_cons, List.drop_zero, List.drop_nil]); try refine wpList_nil ?_) | refine wp_region_lit ?_)
    simp only [Pf.av, Nd.av, Nd.zero, bas, List.map_nil]
    try simp only [hz] at H
    refine wp_ret ?_
    exact v_end [] [] tab_ok ⟨hN, hR⟩ (rs := [.cell 2 64, .tmp 3]) (ress := [_, _]) rfl H (by rfl) (by rfl) cb cw ca rfl
  · exfalso; simp at hb; omega
set_option maxRecDepth 20000 in
theorem readP_cut (l : List UInt8) (hl : l.length ≤ 34359730000) (hs : ¬ l.length < 2) (hn : ¬ 256 < num 0 (l.take 2)) (hq : (l.drop 2).length < (num 0 (l.take 2) + 7) / 8) :
    VC Try.prog 49 [.bs l none] [] (.tup [(rdQ l).1.av, .v (.bool (rdQ l).2)]) := by
  rw [rdQ, if_neg hs, if_neg hn, if_pos hq]
  have h1 := newRd_v l (by omega)
  have h2 := u16_ok l (by omega) (by omega)
  obtain ⟨n, hne⟩ : ∃ n, n = num 0 (l.take 2) := ⟨_, rfl⟩
  rw [← hne] at hn hq h2
  have h3 := take_bad (l.drop 2) ((n + 7) / 8) hq
  have hbt := bits_v n (by omega)
  have hsum := sum_length [0]
  have h4 := left_v true (l.drop 2)
  have h5 := take_was (l.drop 2) 0
  have hbd := bad_v true (l.drop 2)
  have hd := decode_v []
  have hdb : ¬ decOk [] := by simp [decOk]
  have hdl := z32_len
  rw [if_neg hdb, dec_bad hdb] at hd
  simp only [rdv, Nd.av, Nd.zero, if_true] at h1 h2 h3 h4 h5 hd hbd
  refine v_enter Try.func49 rfl (by kernel_rfl) (by show 1 ≤ 74; decide) ?_
  intro N w0 a w hN hR H
  repeat (first | refine wp_seq ?_ | refine wp_block ?_ | refine wp_skip ?_ | refine wp_exit ?_ | ((first | refine v_some 5 tab_ok hN H (by rfl) ct_Pack2 ?_ | refine v_more tab_ok hN H (by rfl) (by rfl) ct_Pack2 ?_); clear H; intro a w H; replace H := nf_Pack2 H; (try simp only [List.drop_succ_cons, List.drop_zero, List.drop_nil]); try refine wpList_nil ?_) | refine wp_region_lit ?_)
  refine v_call [] [] (h1) H rfl rfl (by rfl) cb cw ca ?_; clear H; intro a w H; replace H := nf_Pack2 H; try refine wpList_nil ?_
  repeat (first | refine wp_seq ?_ | refine wp_block ?_ | refine wp_skip ?_ | refine wp_exit ?_ | ((first | refine v_some 5 tab_ok hN H (by rfl) ct_Pack2 ?_ | refine v_more tab_ok hN H (by rfl) (by rfl) ct_Pack2 ?_); clear H; intro a w H; replace H := nf_Pack2 H; (try simp only [List.drop_succ_cons, List.drop_zero, List.drop_nil]); try refine wpList_nil ?_) | refine wp_region_lit ?_)
  refine v_call [1] [] (h2) H rfl rfl (by rfl) cb cw ca ?_; clear H; intro a w H; replace H := nf_Pack2 H; try refine wpList_nil ?_
  repeat (first | refine wp_seq ?_ | refine wp_block ?_ | refine wp_skip ?_ | refine wp_exit ?_ | ((first | refine v_some 5 tab_ok hN H (by rfl) ct_Pack2 ?_ | refine v_more tab_ok hN H (by rfl) (by rfl) ct_Pack2 ?_); clear H; intro a w H; replace H := nf_Pack2 H; (try simp only [List.drop_succ_cons, List.drop_zero, List.drop_nil]); try refine wpList_nil ?_) | refine wp_region_lit ?_)
  refine v_cond H (by rfl) (fun hb => ?_) (fun hb => ?_)
  · exfalso; simp at hb; omega
  · repeat (first | refine wp_seq ?_ | refine wp_block ?_ | refine wp_skip ?_ | refine wp_exit ?_ | ((first | refine v_some 5 tab_ok hN H (by rfl) ct_Pack2 ?_ | refine v_more tab_ok hN H (by rfl) (by rfl) ct_Pack2 ?_); clear H; intro a w H; replace H := nf_Pack2 H; (try simp only [List.drop_succ_cons, List.drop_zero, List.drop_nil]); try refine wpList_nil ?_) | refine wp_region_lit ?_)
    refine v_call [] [] (hbt) H rfl rfl (by rfl) cb cw ca ?_; clear H; intro a w H; replace H := nf_Pack2 H; try refine wpList_nil ?_
    repeat (first | refine wp_seq ?_ | refine wp_block ?_ | refine wp_skip ?_ | refine wp_exit ?_ | ((first | refine v_some 5 tab_ok hN H (by rfl) ct_Pack2 ?_ | refine v_more tab_ok hN H (by rfl) (by rfl) ct_Pack2 ?_); clear H; intro a w H; replace H := nf_Pack2 H; (try simp only [List.drop_succ_cons, List.drop_zero, List.drop_nil]); try refine wpList_nil ?_) | refine wp_region_lit ?_)
    refine v_call [1] [] (h3) H rfl rfl (by rfl) cb cw ca ?_; clear H; intro a w H; replace H := nf_Pack2 H; try refine wpList_nil ?_
    repeat (first | refine wp_seq ?_ | refine wp_block ?_ | refine wp_skip ?_ | refine wp_exit ?_ | ((first | refine v_some 5 tab_ok hN H (by rfl) ct_Pack2 ?_ | refine v_more tab_ok hN H (by rfl) (by rfl) ct_Pack2 ?_); clear H; intro a w H; replace H := nf_Pack2 H; (try simp only [List.drop_succ_cons, List.drop_zero, List.drop_nil]); try refine wpList_nil ?_) | refine wp_region_lit ?_)
    refine v_call [] [] (empty_v) H rfl rfl (by rfl) cb cw ca ?_; clear H; intro a w H; replace H := nf_Pack2 H; try refine wpList_nil ?_
    repeat (first | refine wp_seq ?_ | refine wp_block ?_ | refine wp_skip ?_ | refine wp_exit ?_ | ((first | refine v_some 5 tab_ok hN H (by rfl) ct_Pack2 ?_ | refine v_more tab_ok hN H (by rfl) (by rfl) ct_Pack2 ?_); clear H; intro a w H; replace H := nf_Pack2 H; (try simp only [List.drop_succ_cons, List.drop_zero, List.drop_nil]); try refine wpList_nil ?_) | refine wp_region_lit ?_)
    replace H := H.keep [0, 2, 3, 4, 5, 6, 7, 8, 9] 4 0 ⟨Nat.le_trans hN (by show _ ≤ 4; decide), Nat.le_trans hR (by show _ ≤ 0; decide)⟩ (by rfl) (by rfl)
    replace H := nf_Pack2 H
    refine v_loop (fun _ : Nat => _) (fun _ => True) (fun _ => 0) 0 trivial H ?_
    clear H
    intro k a w hk H
    repeat (first | refine wp_seq ?_ | refine wp_block ?_ | refine wp_skip ?_ | refine wp_exit ?_ | ((first | refine v_some 5 tab_ok hN H (by rfl) ct_Pack2 ?_ | refine v_more tab_ok hN H (by rfl) (by rfl) ct_Pack2 ?_); clear H; intro a w H; replace H := nf_Pack2 H; (try simp only [List.drop_succ_cons, List.drop_zero, List.drop_nil]); try refine wpList_nil ?_) | refine wp_region_lit ?_)
    refine v_callG [1] [] (hbd) H (by rfl) rfl (by rfl) cb cw ca (by rfl) (by rfl) (by rfl) ?_; clear H; intro a w H; replace H := nf_Pack2 H; try refine wpList_nil ?_
    repeat (first | refine wp_seq ?_ | refine wp_block ?_ | refine wp_skip ?_ | refine wp_exit ?_ | ((first | refine v_some 5 tab_ok hN H (by rfl) ct_Pack2 ?_ | refine v_more tab_ok hN H (by rfl) (by rfl) ct_Pack2 ?_); clear H; intro a w H; replace H := nf_Pack2 H; (try simp only [List.drop_succ_cons, List.drop_zero, List.drop_nil]); try refine wpList_nil ?_) | refine wp_region_lit ?_)
    refine v_cond H (by rfl) (fun hb => ?_) (fun hb => ?_)
    · simp at hb
    · repeat (first | refine wp_seq ?_ | refine wp_block ?_ | refine wp_skip ?_ | refine wp_exit ?_ | ((first | refine v_some 5 tab_ok hN H (by rfl) ct_Pack2 ?_ | refine v_more tab_ok hN H (by rfl) (by rfl) ct_Pack2 ?_); clear H; intro a w H; replace H := nf_Pack2 H; (try simp only [List.drop_succ_cons, List.drop_zero, List.drop_nil]); try refine wpList_nil ?_) | refine wp_region_lit ?_)
      refine v_call [1] [] (h4) H rfl rfl (by rfl) cb cw ca ?_; clear H; intro a w H; replace H := nf_Pack2 H; try refine wpList_nil ?_
      repeat (first | refine wp_seq ?_ | refine wp_block ?_ | refine wp_skip ?_ | refine wp_exit ?_ | ((first | refine v_some 5 tab_ok hN H (by rfl) ct_Pack2 ?_ | refine v_more tab_ok hN H (by rfl) (by rfl) ct_Pack2 ?_); clear H; intro a w H; replace H := nf_Pack2 H; (try simp only [List.drop_succ_cons, List.drop_zero, List.drop_nil]); try refine wpList_nil ?_) | refine wp_region_lit ?_)
      refine v_call [1] [] (h5) H rfl rfl (by rfl) cb cw ca ?_; clear H; intro a w H; replace H := nf_Pack2 H; try refine wpList_nil ?_
      repeat (first | refine wp_seq ?_ | refine wp_block ?_ | refine wp_skip ?_ | refine wp_exit ?_ | ((first | refine v_some 5 tab_ok hN H (by rfl) ct_Pack2 ?_ | refine v_more tab_ok hN H (by rfl) (by rfl) ct_Pack2 ?_); clear H; intro a w H; replace H := nf_Pack2 H; (try simp only [List.drop_succ_cons, List.drop_zero, List.drop_nil]); try refine wpList_nil ?_) | refine wp_region_lit ?_)
      refine v_call [] [] (hd) H rfl rfl (by rfl) cb cw ca ?_; clear H; intro a w H; replace H := nf_Pack2 H; try refine wpList_nil ?_
      repeat (first | refine wp_seq ?_ | refine wp_block ?_ | refine wp_skip ?_ | refine wp_exit ?_ | ((first | refine v_some 5 tab_ok hN H (by rfl) ct_Pack2 ?_ | refine v_more tab_ok hN H (by rfl) (by rfl) ct_Pack2 ?_); clear H; intro a w H; replace H := nf_Pack2 H; (try simp only [List.drop_succ_cons, List.drop_zero, List.drop_nil]); try refine wpList_nil ?_) | refine wp_region_lit ?_)
      replace H := H.keep [0, 2, 3, 4, 7, 12] 4 0 ⟨Nat.le_trans hN (by show _ ≤ 4; decide), Nat.le_trans hR (by show _ ≤ 0; decide)⟩ (by rfl) (by rfl)
      replace H := nf_Pack2 H
      have H := v_ref H 7 2 (Nat.le_trans hN (by decide)) rfl rfl rfl
      simp only [nilT, strip, List.map_cons, List.map_nil, reduceIte, Nat.reduceEqDiff] at H
      repeat (first | refine wp_seq ?_ | refine wp_block ?_)
      refine v_draw 0 [2, 8] [0, 5, 6, 7] (by kernel_rfl) (by kernel_rfl) H (by rfl) (fun gS H => ?_); try replace H := nt_Pack2 H
      repeat (refine v_someT 5 tab_ok hN H (by rfl) ct_Pack2 ?_; clear H; intro a w H; replace H := nt_Pack2 H; simp only [List.drop_succ_cons, List.drop_zero, List.drop_nil])
      refine v_moreT tab_ok hN H (by rfl) ct_Pack2 ?_; clear H; intro a w H; try replace H := nt_Pack2 H
      refine v_callT [1] [] (hbd) H (by rfl) (by rfl) rfl rfl (by rfl) cb cw ca ?_; clear H; intro a w H; try replace H := nt_Pack2 H
      repeat (refine v_someT 5 tab_ok hN H (by rfl) ct_Pack2 ?_; clear H; intro a w H; replace H := nt_Pack2 H; simp only [List.drop_succ_cons, List.drop_zero, List.drop_nil])
      refine v_moreT tab_ok hN H (by rfl) ct_Pack2 ?_; clear H; intro a w H; try replace H := nt_Pack2 H
      refine v_drawNil H (fun H => ?_)
      repeat (first | refine wp_seq ?_ | refine wp_block ?_ | refine wp_skip ?_ | refine wp_exit ?_ | ((first | refine v_some 5 tab_ok hN H (by rfl) ct_Pack2 ?_ | refine v_more tab_ok hN H (by rfl) (by rfl) ct_Pack2 ?_); clear H; intro a w H; replace H := nf_Pack2 H; (try simp only [List.drop_succ_cons, List.drop_zero, List.drop_nil]); try refine wpList_nil ?_) | refine wp_region_lit ?_)
      simp only [Pf.av, Nd.av, Nd.zero, bas, List.map_nil]
      try simp only [hz] at H
      refine wp_ret ?_
      exact v_end [] [] tab_ok ⟨hN, hR⟩ (rs := [.cell 2 64, .tmp 3]) (ress := [_, _]) rfl H (by rfl) (by rfl) cb cw ca rfl
set_option maxRecDepth 20000 in
theorem readP_short (l : List UInt8) (hs : l.length < 2) :
    VC Try.prog 49 [.bs l none] [] (.tup [(rdQ l).1.av, .v (.bool (rdQ l).2)]) := by
  rw [rdQ, if_pos hs]
  have h1 := newRd_v l (by omega)
  have h2 := u16_bad l hs
  have h3 := take_was l 0
  have hbt := bits_v 0 (by decide)
  have hsum := sum_length [0]
  have h4 := left_v true l
  have hbd := bad_v true l
  have hd := decode_v []
  have hdb : ¬ decOk [] := by simp [decOk]
  have hdl := z32_len
  rw [if_neg hdb, dec_bad hdb] at hd
  simp only [rdv, Nd.av, Nd.zero, if_true] at h1 h2 h3 h4 hd hbd
  refine v_enter Try.func49 rfl (by kernel_rfl) (by show 1 ≤ 74; decide) ?_
  intro N w0 a w hN hR H
  repeat (first | refine wp_seq ?_ | refine wp_block ?_ | refine wp_skip ?_ | refine wp_exit ?_ | ((first | refine v_some 5 tab_ok hN H (by rfl) ct_Pack2 ?_ | refine v_more tab_ok hN H (by rfl) (by rfl) ct_Pack2 ?_); clear H; intro a w H; replace H := nf_Pack2 H; (try simp only [List.drop_succ_cons, List.drop_zero, List.drop_nil]); try refine wpList_nil ?_) | refine wp_region_lit ?_)
  refine v_call [] [] (h1) H rfl rfl (by rfl) cb cw ca ?_; clear H; intro a w H; replace H := nf_Pack2 H; try refine wpList_nil ?_
  repeat (first | refine wp_seq ?_ | refine wp_block ?_ | refine wp_skip ?_ | refine wp_exit ?_ | ((first | refine v_some 5 tab_ok hN H (by rfl) ct_Pack2 ?_ | refine v_more tab_ok hN H (by rfl) (by rfl) ct_Pack2 ?_); clear H; intro a w H; replace H := nf_Pack2 H; (try simp only [List.drop_succ_cons, List.drop_zero, List.drop_nil]); try refine wpList_nil ?_) | refine wp_region_lit ?_)
  refine v_call [1] [] (h2) H rfl rfl (by rfl) cb cw ca ?_; clear H; intro a w H; replace H := nf_Pack2 H; try refine wpList_nil ?_
  repeat (first | refine wp_seq ?_ | refine wp_block ?_ | refine wp_skip ?_ | refine wp_exit ?_ | ((first | refine v_some 5 tab_ok hN H (by rfl) ct_Pack2 ?_ | refine v_more tab_ok hN H (by rfl) (by rfl) ct_Pack2 ?_); clear H; intro a w H; replace H := nf_Pack2 H; (try simp only [List.drop_succ_cons, List.drop_zero, List.drop_nil]); try refine wpList_nil ?_) | refine wp_region_lit ?_)
  refine v_cond H (by rfl) (fun hb => ?_) (fun hb => ?_)
  · simp at hb
  · repeat (first | refine wp_seq ?_ | refine wp_block ?_ | refine wp_skip ?_ | refine wp_exit ?_ | ((first | refine v_some 5 tab_ok hN H (by rfl) ct_Pack2 ?_ | refine v_more tab_ok hN H (by rfl) (by rfl) ct_Pack2 ?_); clear H; intro a w H; replace H := nf_Pack2 H; (try simp only [List.drop_succ_cons, List.drop_zero, List.drop_nil]); try refine wpList_nil ?_) | refine wp_region_lit ?_)
    refine v_call [] [] (hbt) H rfl rfl (by rfl) cb cw ca ?_; clear H; intro a w H; replace H := nf_Pack2 H; try refine wpList_nil ?_
    repeat (first | refine wp_seq ?_ | refine wp_block ?_ | refine wp_skip ?_ | refine wp_exit ?_ | ((first | refine v_some 5 tab_ok hN H (by rfl) ct_Pack2 ?_ | refine v_more tab_ok hN H (by rfl) (by rfl) ct_Pack2 ?_); clear H; intro a w H; replace H := nf_Pack2 H; (try simp only [List.drop_succ_cons, List.drop_zero, List.drop_nil]); try refine wpList_nil ?_) | refine wp_region_lit ?_)
    refine v_call [1] [] (h3) H rfl rfl (by rfl) cb cw ca ?_; clear H; intro a w H; replace H := nf_Pack2 H; try refine wpList_nil ?_
    repeat (first | refine wp_seq ?_ | refine wp_block ?_ | refine wp_skip ?_ | refine wp_exit ?_ | ((first | refine v_some 5 tab_ok hN H (by rfl) ct_Pack2 ?_ | refine v_more tab_ok hN H (by rfl) (by rfl) ct_Pack2 ?_); clear H; intro a w H; replace H := nf_Pack2 H; (try simp only [List.drop_succ_cons, List.drop_zero, List.drop_nil]); try refine wpList_nil ?_) | refine wp_region_lit ?_)
    refine v_call [] [] (empty_v) H rfl rfl (by rfl) cb cw ca ?_; clear H; intro a w H; replace H := nf_Pack2 H; try refine wpList_nil ?_
    repeat (first | refine wp_seq ?_ | refine wp_block ?_ | refine wp_skip ?_ | refine wp_exit ?_ | ((first | refine v_some 5 tab_ok hN H (by rfl) ct_Pack2 ?_ | refine v_more tab_ok hN H (by rfl) (by rfl) ct_Pack2 ?_); clear H; intro a w H; replace H := nf_Pack2 H; (try simp only [List.drop_succ_cons, List.drop_zero, List.drop_nil]); try refine wpList_nil ?_) | refine wp_region_lit ?_)
    replace H := H.keep [0, 2, 3, 4, 5, 6, 7, 8, 9] 4 0 ⟨Nat.le_trans hN (by show _ ≤ 4; decide), Nat.le_trans hR (by show _ ≤ 0; decide)⟩ (by rfl) (by rfl)
    replace H := nf_Pack2 H
    refine v_loop (fun _ : Nat => _) (fun _ => True) (fun _ => 0) 0 trivial H ?_
    clear H
    intro k a w hk H
    repeat (first | refine wp_seq ?_ | refine wp_block ?_ | refine wp_skip ?_ | refine wp_exit ?_ | ((first | refine v_some 5 tab_ok hN H (by rfl) ct_Pack2 ?_ | refine v_more tab_ok hN H (by rfl) (by rfl) ct_Pack2 ?_); clear H; intro a w H; replace H := nf_Pack2 H; (try simp only [List.drop_succ_cons, List.drop_zero, List.drop_nil]); try refine wpList_nil ?_) | refine wp_region_lit ?_)
    refine v_callG [1] [] (hbd) H (by rfl) rfl (by rfl) cb cw ca (by rfl) (by rfl) (by rfl) ?_; clear H; intro a w H; replace H := nf_Pack2 H; try refine wpList_nil ?_
    repeat (first | refine wp_seq ?_ | refine wp_block ?_ | refine wp_skip ?_ | refine wp_exit ?_ | ((first | refine v_some 5 tab_ok hN H (by rfl) ct_Pack2 ?_ | refine v_more tab_ok hN H (by rfl) (by rfl) ct_Pack2 ?_); clear H; intro a w H; replace H := nf_Pack2 H; (try simp only [List.drop_succ_cons, List.drop_zero, List.drop_nil]); try refine wpList_nil ?_) | refine wp_region_lit ?_)
    refine v_cond H (by rfl) (fun hb => ?_) (fun hb => ?_)
    · simp at hb
    · repeat (first | refine wp_seq ?_ | refine wp_block ?_ | refine wp_skip ?_ | refine wp_exit ?_ | ((first | refine v_some 5 tab_ok hN H (by rfl) ct_Pack2 ?_ | refine v_more tab_ok hN H (by rfl) (by rfl) ct_Pack2 ?_); clear H; intro a w H; replace H := nf_Pack2 H; (try simp only [List.drop_succ_cons, List.drop_zero, List.drop_nil]); try refine wpList_nil ?_) | refine wp_region_lit ?_)
      refine v_call [1] [] (h4) H rfl rfl (by rfl) cb cw ca ?_; clear H; intro a w H; replace H := nf_Pack2 H; try refine wpList_nil ?_
      repeat (first | refine wp_seq ?_ | refine wp_block ?_ | refine wp_skip ?_ | refine wp_exit ?_ | ((first | refine v_some 5 tab_ok hN H (by rfl) ct_Pack2 ?_ | refine v_more tab_ok hN H (by rfl) (by rfl) ct_Pack2 ?_); clear H; intro a w H; replace H := nf_Pack2 H; (try simp only [List.drop_succ_cons, List.drop_zero, List.drop_nil]); try refine wpList_nil ?_) | refine wp_region_lit ?_)
      refine v_call [1] [] (h3) H rfl rfl (by rfl) cb cw ca ?_; clear H; intro a w H; replace H := nf_Pack2 H; try refine wpList_nil ?_
      repeat (first | refine wp_seq ?_ | refine wp_block ?_ | refine wp_skip ?_ | refine wp_exit ?_ | ((first | refine v_some 5 tab_ok hN H (by rfl) ct_Pack2 ?_ | refine v_more tab_ok hN H (by rfl) (by rfl) ct_Pack2 ?_); clear H; intro a w H; replace H := nf_Pack2 H; (try simp only [List.drop_succ_cons, List.drop_zero, List.drop_nil]); try refine wpList_nil ?_) | refine wp_region_lit ?_)
      refine v_call [] [] (hd) H rfl rfl (by rfl) cb cw ca ?_; clear H; intro a w H; replace H := nf_Pack2 H; try refine wpList_nil ?_
      repeat (first | refine wp_seq ?_ | refine wp_block ?_ | refine wp_skip ?_ | refine wp_exit ?_ | ((first | refine v_some 5 tab_ok hN H (by rfl) ct_Pack2 ?_ | refine v_more tab_ok hN H (by rfl) (by rfl) ct_Pack2 ?_); clear H; intro a w H; replace H := nf_Pack2 H; (try simp only [List.drop_succ_cons, List.drop_zero, List.drop_nil]); try refine wpList_nil ?_) | refine wp_region_lit ?_)
      replace H := H.keep [0, 2, 3, 4, 7, 12] 4 0 ⟨Nat.le_trans hN (by show _ ≤ 4; decide), Nat.le_trans hR (by show _ ≤ 0; decide)⟩ (by rfl) (by rfl)
      replace H := nf_Pack2 H
      have H := v_ref H 7 2 (Nat.le_trans hN (by decide)) rfl rfl rfl
      simp only [nilT, strip, List.map_cons, List.map_nil, reduceIte, Nat.reduceEqDiff] at H
      repeat (first | refine wp_seq ?_ | refine wp_block ?_)
      refine v_draw 0 [2, 8] [0, 5, 6, 7] (by kernel_rfl) (by kernel_rfl) H (by rfl) (fun gS H => ?_); try replace H := nt_Pack2 H
      repeat (refine v_someT 5 tab_ok hN H (by rfl) ct_Pack2 ?_; clear H; intro a w H; replace H := nt_Pack2 H; simp only [List.drop_succ_cons, List.drop_zero, List.drop_nil])
      refine v_moreT tab_ok hN H (by rfl) ct_Pack2 ?_; clear H; intro a w H; try replace H := nt_Pack2 H
      refine v_callT [1] [] (hbd) H (by rfl) (by rfl) rfl rfl (by rfl) cb cw ca ?_; clear H; intro a w H; try replace H := nt_Pack2 H
      repeat (refine v_someT 5 tab_ok hN H (by rfl) ct_Pack2 ?_; clear H; intro a w H; replace H := nt_Pack2 H; simp only [List.drop_succ_cons, List.drop_zero, List.drop_nil])
      refine v_moreT tab_ok hN H (by rfl) ct_Pack2 ?_; clear H; intro a w H; try replace H := nt_Pack2 H
      refine v_drawNil H (fun H => ?_)
      repeat (first | refine wp_seq ?_ | refine wp_block ?_ | refine wp_skip ?_ | refine wp_exit ?_ | ((first | refine v_some 5 tab_ok hN H (by rfl) ct_Pack2 ?_ | refine v_more tab_ok hN H (by rfl) (by rfl) ct_Pack2 ?_); clear H; intro a w H; replace H := nf_Pack2 H; (try simp only [List.drop_succ_cons, List.drop_zero, List.drop_nil]); try refine wpList_nil ?_) | refine wp_region_lit ?_)
      simp only [Pf.av, Nd.av, Nd.zero, bas, List.map_nil]
      try simp only [hz] at H
      refine wp_ret ?_
      exact v_end [] [] tab_ok ⟨hN, hR⟩ (rs := [.cell 2 64, .tmp 3]) (ress := [_, _]) rfl H (by rfl) (by rfl) cb cw ca rfl
theorem readP_v (l : List UInt8) (hl : l.length ≤ 34359730000) : VC Try.prog 49 [.bs l none] [] (.tup [(rdQ l).1.av, .v (.bool (rdQ l).2)]) := by
  by_cases hs : l.length < 2
  · exact readP_short l hs
  · by_cases hn : 256 < num 0 (l.take 2)
    · exact readP_many l hl hs hn
    · by_cases hq : (l.drop 2).length < (num 0 (l.take 2) + 7) / 8
      · exact readP_cut l hl hs hn hq
      · exact readP_main l hl hs hn hq
end Go.Proofs.Ytlagngkafllbiaa
