/- Keys as ways down: the program's and the document's functions. -/
import Derived.Test.YtlagngkafllbiaaLen
import Derived.Test.YtlagngkafllbiaaWayP
import Derived.Test.YtlagngkafllbiaaCmp2
set_option linter.unusedSimpArgs false
set_option linter.unusedVariables false
namespace Go.Proofs.Ytlagngkafllbiaa
open Go Go.RowKit
/-- The state made plain. -/
theorem nf_Way {P : Program} {w0 w : World} {N : Gh} {nt : Nat} {st s2 : St} {a : Act} (H : Rel P w0 N nt st a w) (h : st = s2 := by (try simp only [pk, elemB, St.put, St.ev, St.tmp, St.keep, find, dropT, slots, AV.put, AV.loc, fitI, convI, IntKind.signed, IntKind.bits, strip, St.lose, mergeL, setAll, nth, renB, ren, idx?, sub, allP, low, bnd, Int.reduceEq, Nat.reduceAdd, Nat.reduceLT, reduceIte, reduceCtorEq, Nat.reduceEqDiff, Nat.reduceLeDiff, Nat.reduceBEq, Int.reducePow, Int.reduceToNat, ti24_t, ti24_z, ti5_t, ti5_z, ti30_t, ti30_z, ti23_t, ti23_z]); rfl) : Rel P w0 N nt s2 a w := h ▸ H
theorem nt_Way {P : Program} {w0 w : World} {N gS : Gh} {nt : Nat} {q q2 st s2 : St} {a : Act} (H : RelT P w0 N nt gS q st a w) (h1 : q = q2 := by (try simp only [pk, elemB, St.put, St.ev, St.tmp, St.keep, find, dropT, slots, AV.put, AV.loc, fitI, convI, IntKind.signed, IntKind.bits, strip, St.lose, mergeL, setAll, nth, renB, ren, idx?, sub, allP, low, bnd, Int.reduceEq, Nat.reduceAdd, Nat.reduceLT, reduceIte, reduceCtorEq, Nat.reduceEqDiff, Nat.reduceLeDiff, Nat.reduceBEq, Int.reducePow, Int.reduceToNat, ti24_t, ti24_z, ti5_t, ti5_z, ti30_t, ti30_z, ti23_t, ti23_z]); rfl) (h : st = s2 := by (try simp only [pk, elemB, St.put, St.ev, St.tmp, St.keep, find, dropT, slots, AV.put, AV.loc, fitI, convI, IntKind.signed, IntKind.bits, strip, St.lose, mergeL, setAll, nth, renB, ren, idx?, sub, allP, low, bnd, Int.reduceEq, Nat.reduceAdd, Nat.reduceLT, reduceIte, reduceCtorEq, Nat.reduceEqDiff, Nat.reduceLeDiff, Nat.reduceBEq, Int.reducePow, Int.reduceToNat, ti24_t, ti24_z, ti5_t, ti5_z, ti30_t, ti30_z, ti23_t, ti23_z]); rfl) : RelT P w0 N nt gS q2 s2 a w := h1 ▸ h ▸ H
theorem ct_Way {c : Prop} (h : c := by ((try simp only [pk, elemB, St.put, St.ev, St.tmp, St.keep, find, dropT, slots, AV.put, AV.loc, fitI, convI, IntKind.signed, IntKind.bits, strip, St.lose, mergeL, setAll, nth, renB, ren, idx?, sub, allP, low, bnd, Int.reduceEq, Nat.reduceAdd, Nat.reduceLT, reduceIte, reduceCtorEq, Nat.reduceEqDiff, Nat.reduceLeDiff, Nat.reduceBEq, Int.reducePow, Int.reduceToNat, ti24_t, ti24_z, ti5_t, ti5_z, ti30_t, ti30_z, ti23_t, ti23_z, ti24, ti5, ti30, ti23, fit, gcond, ilo, ihi]); first | done | exact cd | exact cd2 | skip)) : c := h
theorem e7w (d : Int) (h0 : 0 ≤ d) : (if (d % 8).toNat ≤ 8 then (d % 8).toNat else 8) = d.toNat % 8 := by split <;> omega
theorem e8w (d : Int) (h0 : 0 ≤ d) : (d / 8).toNat = d.toNat / 8 := by omega
theorem mask_v (d : Int) (h0 : 0 ≤ d) (h1 : d < 256) : VC Try.prog 35 [.v (.int .i64 d)] [] (.v (.int .u8 (128 / 2 ^ (d.toNat % 8)))) := by
  have e7 := e7w d h0
  refine v_enter Try.func35 rfl (by kernel_rfl) (by show 1 ≤ 6; decide) ?_
  intro N w0 a w hN hR H
  repeat (first | refine wp_seq ?_ | refine wp_block ?_ | refine wp_skip ?_ | refine wp_exit ?_ | ((first | refine v_some 5 tab_ok hN H (by rfl) (by (try simp only [e7, e7]); first | done | exact ct_Way) ?_ | refine v_more tab_ok hN H (by rfl) (by rfl) (by (try simp only [e7, e7]); first | done | exact ct_Way) ?_); clear H; intro a w H; replace H := nf_Way H; first | (simp only [e7] at H; replace H := nf_Way H) | skip; (try simp only [List.drop_succ_cons, List.drop_zero, List.drop_nil]); try refine wpList_nil ?_) | refine wp_region_lit ?_)
  refine wp_ret ?_
  exact v_end [] [] tab_ok ⟨hN, hR⟩ (rs := [.tmp 2]) (ress := [_]) rfl H (by rfl) (by rfl) (by simp [pickB, bxs, ren, idx?, sub_refl, sub, allP, e7] <;> omega) (by first | rfl | (simp [e7] <;> omega)) (by first | exact trivial | exact ⟨sub_refl _ _, trivial⟩ | exact ⟨sub_refl _ _, sub_refl _ _, trivial⟩ | exact ⟨sub_refl _ _, sub_refl _ _, sub_refl _ _, trivial⟩ | exact ⟨⟨rfl, sub_refl _ _, trivial⟩, sub_refl _ _, trivial⟩ | (simp [cargs, cargsG, St.ev, St.tmp, find, ren, idx?, sub_refl, sub, allP, resv, resC, bss, e7] <;> omega)) rfl
set_option maxRecDepth 20000 in
theorem bit_v (p : List UInt8) (hp : p.length = 32) (d : Int) : VC Try.prog 12 [.ba p, .v (.int .i64 d)] [] (.v (.int .i64 (pbit p d))) := by
  refine v_enter Try.func12 rfl (by kernel_rfl) (by show 2 ≤ 21; decide) ?_
  intro N w0 a w hN hR H
  repeat (first | refine wp_seq ?_ | refine wp_block ?_ | refine wp_skip ?_ | refine wp_exit ?_ | ((first | refine v_some 5 tab_ok hN H (by rfl) ct_Way ?_ | refine v_more tab_ok hN H (by rfl) (by rfl) ct_Way ?_); clear H; intro a w H; replace H := nf_Way H; (try simp only [List.drop_succ_cons, List.drop_zero, List.drop_nil]); try refine wpList_nil ?_) | refine wp_region_lit ?_)
  by_cases h : 0 ≤ d ∧ d < 256
  · have hm := mask_v d h.1 h.2
    have e8 := e8w d h.1
    rw [pbit, if_pos h]
    have h1 := h.1; have h2 := h.2
    refine v_cond H (by rfl) (fun hb => ?_) (fun hb => ?_)
    · exfalso; simp at hb; omega
    · repeat (first | refine wp_seq ?_ | refine wp_block ?_)
      refine v_draw 1 [5] [0, 1, 2, 3] (by kernel_rfl) (by kernel_rfl) H (by rfl) (fun gS H => ?_); try replace H := nt_Way H
      repeat (refine v_someT 5 tab_ok hN H (by rfl) ct_Way ?_; clear H; intro a w H; replace H := nt_Way H; simp only [List.drop_succ_cons, List.drop_zero, List.drop_nil])
      refine v_moreT tab_ok hN H (by rfl) ct_Way ?_; clear H; intro a w H; try replace H := nt_Way H
      refine v_callT [] [] (hm) H (by rfl) (by rfl) rfl rfl (by rfl) cb cw ca ?_; clear H; intro a w H; try replace H := nt_Way H
      repeat (refine v_someT 5 tab_ok hN H (by rfl) (by (try simp only [e8, e8]); first | done | exact ct_Way) ?_; clear H; intro a w H; replace H := nt_Way H; first | (simp only [e8] at H; replace H := nt_Way H) | skip; simp only [List.drop_succ_cons, List.drop_zero, List.drop_nil])
      refine v_moreT tab_ok hN H (by rfl) (by (try simp only [e8, e8]); first | done | exact ct_Way) ?_; clear H; intro a w H; try replace H := nt_Way H; first | (simp only [e8] at H; replace H := nt_Way H) | skip
      refine v_drawNil H (fun H => ?_)
      rw [and_bit] at H
      have eb : bitAt (p.getD (d.toNat / 8) 0) (d.toNat % 8) = bitN p d.toNat := rfl
      rw [eb] at H
      refine v_cond H (by rfl) (fun hb => ?_) (fun hb => ?_)
      · rw [hb]
        repeat (first | refine wp_seq ?_ | refine wp_block ?_ | refine wp_skip ?_ | refine wp_exit ?_ | ((first | refine v_some 5 tab_ok hN H (by rfl) (by (try simp only [e8, e8]); first | done | exact ct_Way) ?_ | refine v_more tab_ok hN H (by rfl) (by rfl) (by (try simp only [e8, e8]); first | done | exact ct_Way) ?_); clear H; intro a w H; replace H := nf_Way H; first | (simp only [e8] at H; replace H := nf_Way H) | skip; (try simp only [List.drop_succ_cons, List.drop_zero, List.drop_nil]); try refine wpList_nil ?_) | refine wp_region_lit ?_)
        refine wp_ret ?_
        exact v_end [] [] tab_ok ⟨hN, hR⟩ (rs := [.tmp 4]) (ress := [_]) rfl H (by rfl) (by rfl) (by simp [pickB, bxs, ren, idx?, sub_refl, sub, allP, e8] <;> omega) (by first | rfl | (simp [e8] <;> omega)) (by first | exact trivial | exact ⟨sub_refl _ _, trivial⟩ | exact ⟨sub_refl _ _, sub_refl _ _, trivial⟩ | exact ⟨sub_refl _ _, sub_refl _ _, sub_refl _ _, trivial⟩ | exact ⟨⟨rfl, sub_refl _ _, trivial⟩, sub_refl _ _, trivial⟩ | (simp [cargs, cargsG, St.ev, St.tmp, find, ren, idx?, sub_refl, sub, allP, resv, resC, bss, e8] <;> omega)) rfl
      · rw [hb]
        repeat (first | refine wp_seq ?_ | refine wp_block ?_ | refine wp_skip ?_ | refine wp_exit ?_ | ((first | refine v_some 5 tab_ok hN H (by rfl) (by (try simp only [e8, e8]); first | done | exact ct_Way) ?_ | refine v_more tab_ok hN H (by rfl) (by rfl) (by (try simp only [e8, e8]); first | done | exact ct_Way) ?_); clear H; intro a w H; replace H := nf_Way H; first | (simp only [e8] at H; replace H := nf_Way H) | skip; (try simp only [List.drop_succ_cons, List.drop_zero, List.drop_nil]); try refine wpList_nil ?_) | refine wp_region_lit ?_)
        refine wp_ret ?_
        exact v_end [] [] tab_ok ⟨hN, hR⟩ (rs := [.tmp 4]) (ress := [_]) rfl H (by rfl) (by rfl) (by simp [pickB, bxs, ren, idx?, sub_refl, sub, allP, e8] <;> omega) (by first | rfl | (simp [e8] <;> omega)) (by first | exact trivial | exact ⟨sub_refl _ _, trivial⟩ | exact ⟨sub_refl _ _, sub_refl _ _, trivial⟩ | exact ⟨sub_refl _ _, sub_refl _ _, sub_refl _ _, trivial⟩ | exact ⟨⟨rfl, sub_refl _ _, trivial⟩, sub_refl _ _, trivial⟩ | (simp [cargs, cargsG, St.ev, St.tmp, find, ren, idx?, sub_refl, sub, allP, resv, resC, bss, e8] <;> omega)) rfl
  · rw [pbit, if_neg h]
    refine v_cond H (by rfl) (fun hb => ?_) (fun hb => ?_)
    · repeat (first | refine wp_seq ?_ | refine wp_block ?_ | refine wp_skip ?_ | refine wp_exit ?_ | ((first | refine v_some 5 tab_ok hN H (by rfl) ct_Way ?_ | refine v_more tab_ok hN H (by rfl) (by rfl) ct_Way ?_); clear H; intro a w H; replace H := nf_Way H; (try simp only [List.drop_succ_cons, List.drop_zero, List.drop_nil]); try refine wpList_nil ?_) | refine wp_region_lit ?_)
      refine wp_ret ?_
      exact v_end [] [] tab_ok ⟨hN, hR⟩ (rs := [.tmp 4]) (ress := [_]) rfl H (by rfl) (by rfl) cb cw ca rfl
    · exfalso; simp at hb; omega
theorem lz8_v (c : UInt8) : VC Try.prog 94 [.v (B8 c)] [] (.v (.int .i64 ((8 : Int) - (Lib.bitLen c.toNat : Int)))) := by
  have h1 := len8_v c
  have h2 := Lib.bitLen_le8 ⟨c.toNat, c.toNat_lt⟩
  simp only at h2
  refine v_enter Try.func94 rfl (by kernel_rfl) (by show 1 ≤ 6; decide) ?_
  intro N w0 a w hN hR H
  repeat (first | refine wp_seq ?_ | refine wp_block ?_ | refine wp_skip ?_ | refine wp_exit ?_ | ((first | refine v_some 5 tab_ok hN H (by rfl) ct_Way ?_ | refine v_more tab_ok hN H (by rfl) (by rfl) ct_Way ?_); clear H; intro a w H; replace H := nf_Way H; (try simp only [List.drop_succ_cons, List.drop_zero, List.drop_nil]); try refine wpList_nil ?_) | refine wp_region_lit ?_)
  refine v_call [] [] (h1) H rfl rfl (by rfl) cb cw ca ?_; clear H; intro a w H; replace H := nf_Way H; try refine wpList_nil ?_
  repeat (first | refine wp_seq ?_ | refine wp_block ?_ | refine wp_skip ?_ | refine wp_exit ?_ | ((first | refine v_some 5 tab_ok hN H (by rfl) ct_Way ?_ | refine v_more tab_ok hN H (by rfl) (by rfl) ct_Way ?_); clear H; intro a w H; replace H := nf_Way H; (try simp only [List.drop_succ_cons, List.drop_zero, List.drop_nil]); try refine wpList_nil ?_) | refine wp_region_lit ?_)
  refine wp_ret ?_
  exact v_end [] [] tab_ok ⟨hN, hR⟩ (rs := [.tmp 2]) (ress := [_]) rfl H (by rfl) (by rfl) cb cw ca rfl
theorem xor8 (x y : UInt8) : bits .xor .u8 (x.toNat : Int) (y.toNat : Int) = (((x ^^^ y).toNat : Nat) : Int) := by
  rw [u8_xor_nat _ _ x.toNat_lt y.toNat_lt, UInt8.toNat_xor]
theorem bitN_at (p : List UInt8) (k t : Nat) (ht : t < 8) : bitN p (8 * k + t) = bitAt (p.getD k 0) t := by
  unfold bitN
  rw [show (8 * k + t) / 8 = k by omega, show (8 * k + t) % 8 = t by omega]
theorem com_byte (p q : List UInt8) (k : Nat) (h : agree (8 * k) p q) (he : p.getD k 0 = q.getD k 0) : agree (8 * (k + 1)) p q := fun t ht => by
  by_cases h1 : t < 8 * k
  · exact h t h1
  · rw [show t = 8 * k + (t - 8 * k) by omega, bitN_at _ _ _ (by omega), bitN_at _ _ _ (by omega), he]
theorem com_part (p q : List UInt8) (k : Nat) (hk : k < 32) (h : agree (8 * k) p q) (hn : p.getD k 0 ≠ q.getD k 0) : com p q = 8 * k + (8 - Lib.bitLen (p.getD k 0 ^^^ q.getD k 0).toNat) := by
  obtain ⟨l1, l2, l3, l4⟩ := lead_xor _ _ hn
  refine com_of (by omega) (fun t ht => ?_) fun _ => ?_
  · by_cases h1 : t < 8 * k
    · exact h t h1
    · rw [show t = 8 * k + (t - 8 * k) by omega, bitN_at _ _ _ (by omega), bitN_at _ _ _ (by omega)]
      exact l3 _ (by omega)
  · rw [bitN_at _ _ _ l1, bitN_at _ _ _ l1]; exact l4
set_option maxRecDepth 20000 in
theorem common_v (p q : List UInt8) (hp : p.length = 32) (hq : q.length = 32) : VC Try.prog 66 [.ba p, .ba q] [] (.v (.int .i64 (com p q))) := by
  refine v_enter Try.func66 rfl (by kernel_rfl) (by show 2 ≤ 28; decide) ?_
  intro N w0 a w hN hR H
  repeat (first | refine wp_seq ?_ | refine wp_block ?_ | refine wp_skip ?_ | refine wp_exit ?_ | ((first | refine v_some 5 tab_ok hN H (by rfl) ct_Way ?_ | refine v_more tab_ok hN H (by rfl) (by rfl) ct_Way ?_); clear H; intro a w H; replace H := nf_Way H; (try simp only [List.drop_succ_cons, List.drop_zero, List.drop_nil]); try refine wpList_nil ?_) | refine wp_region_lit ?_)
  refine v_cond H (by rfl) (fun hb => ?_) (fun hb => ?_)
  · have he : p = q := by simpa using hb
    subst he
    rw [com_self]
    repeat (first | refine wp_seq ?_ | refine wp_block ?_ | refine wp_skip ?_ | refine wp_exit ?_ | ((first | refine v_some 5 tab_ok hN H (by rfl) ct_Way ?_ | refine v_more tab_ok hN H (by rfl) (by rfl) ct_Way ?_); clear H; intro a w H; replace H := nf_Way H; (try simp only [List.drop_succ_cons, List.drop_zero, List.drop_nil]); try refine wpList_nil ?_) | refine wp_region_lit ?_)
    refine wp_ret ?_
    exact v_end [] [] tab_ok ⟨hN, hR⟩ (rs := [.tmp 4]) (ress := [_]) rfl H (by rfl) (by rfl) cb cw ca rfl
  · have hne : p ≠ q := by simpa using hb
    repeat (first | refine wp_seq ?_ | refine wp_block ?_ | refine wp_skip ?_ | refine wp_exit ?_ | ((first | refine v_some 5 tab_ok hN H (by rfl) ct_Way ?_ | refine v_more tab_ok hN H (by rfl) (by rfl) ct_Way ?_); clear H; intro a w H; replace H := nf_Way H; (try simp only [List.drop_succ_cons, List.drop_zero, List.drop_nil]); try refine wpList_nil ?_) | refine wp_region_lit ?_)
    refine v_loop (fun k : Nat => ⟨[(10, none, .v (.int .i64 (k : Int))), (4, none, .v (.int .i64 0)), (3, none, .ptr 1 []), (2, none, .ptr 0 [])], [(.ba 32, .ba p), (.ba 32, .ba q)], [], []⟩) (fun k => k ≤ 32 ∧ agree (8 * k) p q) (fun k => 32 - k) 0 ⟨Nat.zero_le _, fun t ht => by omega⟩ (H.to 2 0 ⟨Nat.le_trans hN (by decide), hR⟩ ⟨rfl, rfl, rfl, rfl, trivial⟩ rfl rfl rfl rfl rfl) ?_
    clear H
    rintro k a w ⟨hk, hag⟩ H
    repeat (first | refine wp_seq ?_ | refine wp_block ?_ | refine wp_skip ?_ | refine wp_exit ?_ | ((first | refine v_some 5 tab_ok hN H (by rfl) ct_Way ?_ | refine v_more tab_ok hN H (by rfl) (by rfl) ct_Way ?_); clear H; intro a w H; replace H := nf_Way H; (try simp only [List.drop_succ_cons, List.drop_zero, List.drop_nil]); try refine wpList_nil ?_) | refine wp_region_lit ?_)
    refine v_cond H (by rfl) (fun hb => ?_) (fun hb => ?_)
    · have hlt : k < 32 := by simp at hb; omega
      repeat (first | refine wp_seq ?_ | refine wp_block ?_ | refine wp_skip ?_ | refine wp_exit ?_ | ((first | refine v_some 5 tab_ok hN H (by rfl) ct_Way ?_ | refine v_more tab_ok hN H (by rfl) (by rfl) ct_Way ?_); clear H; intro a w H; replace H := nf_Way H; (try simp only [List.drop_succ_cons, List.drop_zero, List.drop_nil]); try refine wpList_nil ?_) | refine wp_region_lit ?_)
      repeat (first | refine wp_seq ?_ | refine wp_block ?_)
      refine v_draw 2 [] [] (by kernel_rfl) (by kernel_rfl) H (by rfl) (fun gS H => ?_); try replace H := nt_Way H
      repeat (refine v_someT 5 tab_ok hN H (by rfl) ct_Way ?_; clear H; intro a w H; replace H := nt_Way H; simp only [List.drop_succ_cons, List.drop_zero, List.drop_nil])
      refine v_moreT tab_ok hN H (by rfl) ct_Way ?_; clear H; intro a w H; try replace H := nt_Way H
      refine v_drawNil H (fun H => ?_)
      rw [xor8] at H
      have hlz := lz8_v (p.getD k 0 ^^^ q.getD k 0)
      have hc8 := (p.getD k 0 ^^^ q.getD k 0).toNat_lt
      repeat (first | refine wp_seq ?_ | refine wp_block ?_ | refine wp_skip ?_ | refine wp_exit ?_ | ((first | refine v_some 5 tab_ok hN H (by rfl) ct_Way ?_ | refine v_more tab_ok hN H (by rfl) (by rfl) ct_Way ?_); clear H; intro a w H; replace H := nf_Way H; (try simp only [List.drop_succ_cons, List.drop_zero, List.drop_nil]); try refine wpList_nil ?_) | refine wp_region_lit ?_)
      refine v_cond H (by rfl) (fun hb => ?_) (fun hb => ?_)
      · have hd : p.getD k 0 ≠ q.getD k 0 := fun e => by rw [e] at hb; simp at hb
        rw [com_part p q k hlt hag hd]
        have hl2 := (lead_xor _ _ hd).2.1
        repeat (first | refine wp_seq ?_ | refine wp_block ?_ | refine wp_skip ?_ | refine wp_exit ?_ | ((first | refine v_some 5 tab_ok hN H (by rfl) ct_Way ?_ | refine v_more tab_ok hN H (by rfl) (by rfl) ct_Way ?_); clear H; intro a w H; replace H := nf_Way H; (try simp only [List.drop_succ_cons, List.drop_zero, List.drop_nil]); try refine wpList_nil ?_) | refine wp_region_lit ?_)
        refine v_call [] [] (hlz) H rfl rfl (by rfl) cb cw ca ?_; clear H; intro a w H; replace H := nf_Way H; try refine wpList_nil ?_
        repeat (first | refine wp_seq ?_ | refine wp_block ?_ | refine wp_skip ?_ | refine wp_exit ?_ | ((first | refine v_some 5 tab_ok hN H (by rfl) ct_Way ?_ | refine v_more tab_ok hN H (by rfl) (by rfl) ct_Way ?_); clear H; intro a w H; replace H := nf_Way H; (try simp only [List.drop_succ_cons, List.drop_zero, List.drop_nil]); try refine wpList_nil ?_) | refine wp_region_lit ?_)
        have e1 : (8 * (k : Int) + (8 - (Lib.bitLen (p.getD k 0 ^^^ q.getD k 0).toNat : Int))) = ((8 * k + (8 - Lib.bitLen (p.getD k 0 ^^^ q.getD k 0).toNat) : Nat) : Int) := by omega
        rw [e1] at H
        refine wp_ret ?_
        exact v_end [] [] tab_ok ⟨hN, hR⟩ (rs := [.tmp 4]) (ress := [_]) rfl H (by rfl) (by rfl) cb cw ca rfl
      · have hd : p.getD k 0 = q.getD k 0 := by
          refine UInt8.xor_eq_zero_iff.1 (UInt8.toNat_inj.1 ?_)
          simpa using hb
        repeat (first | refine wp_seq ?_ | refine wp_block ?_ | refine wp_skip ?_ | refine wp_exit ?_ | ((first | refine v_some 5 tab_ok hN H (by rfl) ct_Way ?_ | refine v_more tab_ok hN H (by rfl) (by rfl) ct_Way ?_); clear H; intro a w H; replace H := nf_Way H; (try simp only [List.drop_succ_cons, List.drop_zero, List.drop_nil]); try refine wpList_nil ?_) | refine wp_region_lit ?_)
        exact ⟨k + 1, ⟨hlt, com_byte p q k hag hd⟩, by omega, H.to 2 0 ⟨Nat.le_trans hN (by decide), hR⟩ ⟨rfl, rfl, rfl, rfl, trivial⟩ rfl rfl rfl rfl rfl⟩
    · have hge : k = 32 := by simp at hb; omega
      subst hge
      exact absurd (agree_eq hp hq hag) hne
theorem under_v (p q : List UInt8) (hp : p.length = 32) (hq : q.length = 32) (d : Int) : VC Try.prog 38 [.ba p, .ba q, .v (.int .i64 d)] [] (.v (.bool (decide (0 ≤ d ∧ d ≤ 256 ∧ d ≤ com p q)))) := by
  have hc := common_v p q hp hq
  refine v_enter Try.func38 rfl (by kernel_rfl) (by show 3 ≤ 20; decide) ?_
  intro N w0 a w hN hR H
  repeat (first | refine wp_seq ?_ | refine wp_block ?_ | refine wp_skip ?_ | refine wp_exit ?_ | ((first | refine v_some 5 tab_ok hN H (by rfl) ct_Way ?_ | refine v_more tab_ok hN H (by rfl) (by rfl) ct_Way ?_); clear H; intro a w H; replace H := nf_Way H; (try simp only [List.drop_succ_cons, List.drop_zero, List.drop_nil]); try refine wpList_nil ?_) | refine wp_region_lit ?_)
  refine v_callG [] [] (hc) H (by rfl) rfl (by rfl) cb cw ca (by rfl) (by rfl) (by rfl) ?_; clear H; intro a w H; replace H := nf_Way H; try refine wpList_nil ?_
  repeat (first | refine wp_seq ?_ | refine wp_block ?_ | refine wp_skip ?_ | refine wp_exit ?_ | ((first | refine v_some 5 tab_ok hN H (by rfl) ct_Way ?_ | refine v_more tab_ok hN H (by rfl) (by rfl) ct_Way ?_); clear H; intro a w H; replace H := nf_Way H; (try simp only [List.drop_succ_cons, List.drop_zero, List.drop_nil]); try refine wpList_nil ?_) | refine wp_region_lit ?_)
  by_cases h0 : 0 ≤ d
  · by_cases h1 : d ≤ 256
    · have e : (decide (0 ≤ d ∧ d ≤ 256 ∧ d ≤ com p q)) = decide (d ≤ com p q) := by simp [h0, h1]
      rw [e]
      simp only [decide_eq_true h0, decide_eq_true h1, cond_true] at H
      refine wp_ret ?_
      exact v_end [] [] tab_ok ⟨hN, hR⟩ (rs := [.tmp 6]) (ress := [_]) rfl H (by rfl) (by rfl) cb cw ca rfl
    · have e : (decide (0 ≤ d ∧ d ≤ 256 ∧ d ≤ com p q)) = false := by simp [h1]
      rw [e]
      simp only [decide_eq_true h0, decide_eq_false h1, cond_true, cond_false] at H
      refine wp_ret ?_
      exact v_end [] [] tab_ok ⟨hN, hR⟩ (rs := [.tmp 6]) (ress := [_]) rfl H (by rfl) (by rfl) cb cw ca rfl
  · have e : (decide (0 ≤ d ∧ d ≤ 256 ∧ d ≤ com p q)) = false := by simp [h0]
    rw [e]
    simp only [decide_eq_false h0, cond_false] at H
    refine wp_ret ?_
    exact v_end [] [] tab_ok ⟨hN, hR⟩ (rs := [.tmp 6]) (ress := [_]) rfl H (by rfl) (by rfl) cb cw ca rfl
end Go.Proofs.Ytlagngkafllbiaa
