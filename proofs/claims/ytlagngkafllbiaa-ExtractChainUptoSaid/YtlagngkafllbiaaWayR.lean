/- Keys as ways down: the document's functions. -/
import Derived.Test.YtlagngkafllbiaaWay
set_option linter.unusedSimpArgs false
set_option linter.unusedVariables false
namespace Go.Proofs.Ytlagngkafllbiaa
open Go Go.RowKit
/-- The state made plain. -/
theorem nf_WayR {P : Program} {w0 w : World} {N : Gh} {nt : Nat} {st s2 : St} {a : Act} (H : Rel P w0 N nt st a w) (h : st = s2 := by (try simp only [pk, elemB, St.put, St.ev, St.tmp, St.keep, find, dropT, slots, AV.put, AV.loc, fitI, convI, IntKind.signed, IntKind.bits, strip, St.lose, mergeL, setAll, nth, renB, ren, idx?, sub, allP, low, bnd, Int.reduceEq, Nat.reduceAdd, Nat.reduceLT, reduceIte, reduceCtorEq, Nat.reduceEqDiff, Nat.reduceLeDiff, Nat.reduceBEq, Int.reducePow, Int.reduceToNat, ti24_t, ti24_z, ti5_t, ti5_z, ti22_t, ti22_z]); rfl) : Rel P w0 N nt s2 a w := h ▸ H
theorem nt_WayR {P : Program} {w0 w : World} {N gS : Gh} {nt : Nat} {q q2 st s2 : St} {a : Act} (H : RelT P w0 N nt gS q st a w) (h1 : q = q2 := by (try simp only [pk, elemB, St.put, St.ev, St.tmp, St.keep, find, dropT, slots, AV.put, AV.loc, fitI, convI, IntKind.signed, IntKind.bits, strip, St.lose, mergeL, setAll, nth, renB, ren, idx?, sub, allP, low, bnd, Int.reduceEq, Nat.reduceAdd, Nat.reduceLT, reduceIte, reduceCtorEq, Nat.reduceEqDiff, Nat.reduceLeDiff, Nat.reduceBEq, Int.reducePow, Int.reduceToNat, ti24_t, ti24_z, ti5_t, ti5_z, ti22_t, ti22_z]); rfl) (h : st = s2 := by (try simp only [pk, elemB, St.put, St.ev, St.tmp, St.keep, find, dropT, slots, AV.put, AV.loc, fitI, convI, IntKind.signed, IntKind.bits, strip, St.lose, mergeL, setAll, nth, renB, ren, idx?, sub, allP, low, bnd, Int.reduceEq, Nat.reduceAdd, Nat.reduceLT, reduceIte, reduceCtorEq, Nat.reduceEqDiff, Nat.reduceLeDiff, Nat.reduceBEq, Int.reducePow, Int.reduceToNat, ti24_t, ti24_z, ti5_t, ti5_z, ti22_t, ti22_z]); rfl) : RelT P w0 N nt gS q2 s2 a w := h1 ▸ h ▸ H
theorem ct_WayR {c : Prop} (h : c := by ((try simp only [pk, elemB, St.put, St.ev, St.tmp, St.keep, find, dropT, slots, AV.put, AV.loc, fitI, convI, IntKind.signed, IntKind.bits, strip, St.lose, mergeL, setAll, nth, renB, ren, idx?, sub, allP, low, bnd, Int.reduceEq, Nat.reduceAdd, Nat.reduceLT, reduceIte, reduceCtorEq, Nat.reduceEqDiff, Nat.reduceLeDiff, Nat.reduceBEq, Int.reducePow, Int.reduceToNat, ti24_t, ti24_z, ti5_t, ti5_z, ti22_t, ti22_z, ti24, ti5, ti22, fit, gcond, ilo, ihi]); first | done | exact cd | exact cd2 | skip)) : c := h
theorem half_bit (c : UInt8) (m : Nat) (hm : m < 8) : c.toNat / 2 ^ (7 - m) % 2 = if bitAt c m then 1 else 0 := by
  rw [bitAt_test c m hm, Nat.testBit_eq_decide_div_mod_eq]
  have := Nat.mod_two_eq_zero_or_one (c.toNat / 2 ^ (7 - m))
  rcases this with h | h <;> rw [h] <;> rfl
set_option maxRecDepth 20000 in
theorem bitR_v (p : List UInt8) (hp : p.length = 32) (d : Int) : VC Try.prog 64 [.ba p, .v (.int .i64 d)] [] (.v (.int .i64 (pbit p d))) := by
  refine v_enter Try.func64 rfl (by kernel_rfl) (by show 2 ≤ 29; decide) ?_
  intro N w0 a w hN hR H
  repeat (first | refine wp_seq ?_ | refine wp_block ?_ | refine wp_skip ?_ | refine wp_exit ?_ | ((first | refine v_some 5 tab_ok hN H (by rfl) ct_WayR ?_ | refine v_more tab_ok hN H (by rfl) (by rfl) ct_WayR ?_); clear H; intro a w H; replace H := nf_WayR H; (try simp only [List.drop_succ_cons, List.drop_zero, List.drop_nil]); try refine wpList_nil ?_) | refine wp_region_lit ?_)
  by_cases h : 0 ≤ d ∧ d < 256
  · have e8 := e8w d h.1
    skip
    refine v_cond H (by rfl) (fun hb => ?_) (fun hb => ?_)
    · exfalso; simp at hb; omega
    · obtain ⟨c, hc⟩ : ∃ c, c = p.getD (d.toNat / 8) 0 := ⟨_, rfl⟩
      have hc8 := c.toNat_lt
      repeat (first | refine wp_seq ?_ | refine wp_block ?_ | refine wp_skip ?_ | refine wp_exit ?_ | ((first | refine v_some 5 tab_ok hN H (by rfl) (by (try simp only [e8, ← hc, e8]); first | done | exact ct_WayR) ?_ | refine v_more tab_ok hN H (by rfl) (by rfl) (by (try simp only [e8, ← hc, e8]); first | done | exact ct_WayR) ?_); clear H; intro a w H; replace H := nf_WayR H; first | (simp only [e8, ← hc] at H; replace H := nf_WayR H) | skip; (try simp only [List.drop_succ_cons, List.drop_zero, List.drop_nil]); try refine wpList_nil ?_) | refine wp_region_lit ?_)
      refine v_loop (fun k : Nat => ⟨[(6, none, .v (.int .i64 (k : Int))), (5, none, .v (.int .i64 ((c.toNat / 2 ^ k : Nat) : Int))), (1, none, .v (.int .i64 d))], [(.ba 32, .ba p)], [], []⟩) (fun k => k ≤ 7 - d.toNat % 8) (fun k => 8 - k) 0 (Nat.zero_le _) (H.to 1 0 ⟨Nat.le_trans hN (by decide), hR⟩ ⟨rfl, by rw [Nat.pow_zero, Nat.div_one]; rfl, rfl, trivial⟩ rfl rfl rfl rfl rfl) ?_
      clear H
      intro k a w hk H
      have hlt2 : c.toNat / 2 ^ k < 256 := Nat.lt_of_le_of_lt (Nat.div_le_self _ _) hc8
      obtain ⟨v, hv⟩ : ∃ v, v = c.toNat / 2 ^ k := ⟨_, rfl⟩
      rw [← hv] at H hlt2
      have hv' : PLift (v = c.toNat / 2 ^ k) := ⟨hv⟩
      clear hv
      repeat (first | refine wp_seq ?_ | refine wp_block ?_ | refine wp_skip ?_ | refine wp_exit ?_ | ((first | refine v_some 5 tab_ok hN H (by rfl) ct_WayR ?_ | refine v_more tab_ok hN H (by rfl) (by rfl) ct_WayR ?_); clear H; intro a w H; replace H := nf_WayR H; (try simp only [List.drop_succ_cons, List.drop_zero, List.drop_nil]); try refine wpList_nil ?_) | refine wp_region_lit ?_)
      refine v_cond H (by rfl) (fun hb => ?_) (fun hb => ?_)
      · have hlt : k < 7 - d.toNat % 8 := by simp at hb; omega
        repeat (first | refine wp_seq ?_ | refine wp_block ?_ | refine wp_skip ?_ | refine wp_exit ?_ | ((first | refine v_some 5 tab_ok hN H (by rfl) ct_WayR ?_ | refine v_more tab_ok hN H (by rfl) (by rfl) ct_WayR ?_); clear H; intro a w H; replace H := nf_WayR H; (try simp only [List.drop_succ_cons, List.drop_zero, List.drop_nil]); try refine wpList_nil ?_) | refine wp_region_lit ?_)
        have e2 : (v : Int) / 2 = ((c.toNat / 2 ^ (k + 1) : Nat) : Int) := by
          have hv : v = c.toNat / 2 ^ k := hv'.down
          rw [Nat.pow_succ, ← Nat.div_div_eq_div_mul, ← hv]; omega
        rw [e2] at H
        exact ⟨k + 1, hlt, by omega, H.to 1 0 ⟨Nat.le_trans hN (by decide), hR⟩ ⟨rfl, rfl, rfl, trivial⟩ rfl rfl rfl rfl rfl⟩
      · have hge : k = 7 - d.toNat % 8 := by simp at hb; omega
        subst hge
        have hb2 := half_bit c (d.toNat % 8) (by omega)
        have hv : v = c.toNat / 2 ^ (7 - d.toNat % 8) := hv'.down
        rw [← hv] at hb2
        clear hv
        have e3 : pbit p d = ((v % 2 : Nat) : Int) := by
          rw [pbit, if_pos h, hb2, hc]; unfold bitN; split <;> rfl
        rw [e3]
        repeat (first | refine wp_seq ?_ | refine wp_block ?_ | refine wp_skip ?_ | refine wp_exit ?_ | ((first | refine v_some 5 tab_ok hN H (by rfl) ct_WayR ?_ | refine v_more tab_ok hN H (by rfl) (by rfl) ct_WayR ?_); clear H; intro a w H; replace H := nf_WayR H; (try simp only [List.drop_succ_cons, List.drop_zero, List.drop_nil]); try refine wpList_nil ?_) | refine wp_region_lit ?_)
        refine wp_ret ?_
        exact v_end [] [] tab_ok ⟨hN, hR⟩ (rs := [.tmp 4]) (ress := [_]) rfl H (by rfl) (by rfl) cb cw ca rfl
  · rw [pbit, if_neg h]
    refine v_cond H (by rfl) (fun hb => ?_) (fun hb => ?_)
    · repeat (first | refine wp_seq ?_ | refine wp_block ?_ | refine wp_skip ?_ | refine wp_exit ?_ | ((first | refine v_some 5 tab_ok hN H (by rfl) ct_WayR ?_ | refine v_more tab_ok hN H (by rfl) (by rfl) ct_WayR ?_); clear H; intro a w H; replace H := nf_WayR H; (try simp only [List.drop_succ_cons, List.drop_zero, List.drop_nil]); try refine wpList_nil ?_) | refine wp_region_lit ?_)
      refine wp_ret ?_
      exact v_end [] [] tab_ok ⟨hN, hR⟩ (rs := [.tmp 4]) (ress := [_]) rfl H (by rfl) (by rfl) cb cw ca rfl
    · exfalso; simp at hb; omega
theorem pbit_nat (p : List UInt8) (k : Nat) (hk : k < 256) : pbit p (k : Int) = if bitN p k then 1 else 0 := by
  rw [pbit, if_pos (by omega), Int.toNat_natCast]
set_option maxRecDepth 20000 in
theorem commonR_v (p q : List UInt8) (hp : p.length = 32) (hq : q.length = 32) : VC Try.prog 67 [.ba p, .ba q] [] (.v (.int .i64 (com p q))) := by
  refine v_enter Try.func67 rfl (by kernel_rfl) (by show 2 ≤ 20; decide) ?_
  intro N w0 a w hN hR H
  repeat (first | refine wp_seq ?_ | refine wp_block ?_ | refine wp_skip ?_ | refine wp_exit ?_ | ((first | refine v_some 5 tab_ok hN H (by rfl) ct_WayR ?_ | refine v_more tab_ok hN H (by rfl) (by rfl) ct_WayR ?_); clear H; intro a w H; replace H := nf_WayR H; (try simp only [List.drop_succ_cons, List.drop_zero, List.drop_nil]); try refine wpList_nil ?_) | refine wp_region_lit ?_)
  refine v_loop (fun k : Nat => ⟨[(5, none, .v (.int .i64 (k : Int))), (4, none, .v (.int .i64 0)), (3, none, .ptr 1 []), (2, none, .ptr 0 [])], [(.ba 32, .ba p), (.ba 32, .ba q)], [], []⟩) (fun k => k ≤ 256 ∧ agree k p q) (fun k => 256 - k) 0 ⟨Nat.zero_le _, fun t ht => by omega⟩ (H.to 2 0 ⟨Nat.le_trans hN (by decide), hR⟩ ⟨rfl, rfl, rfl, rfl, trivial⟩ rfl rfl rfl rfl rfl) ?_
  clear H
  rintro k a w ⟨hk, hag⟩ H
  have hp1 := bitR_v p hp (k : Int)
  have hq1 := bitR_v q hq (k : Int)
  repeat (first | refine wp_seq ?_ | refine wp_block ?_)
  refine v_draw 2 [5, 8] [6, 7] (by kernel_rfl) (by kernel_rfl) H (by rfl) (fun gS H => ?_); try replace H := nt_WayR H
  repeat (refine v_someT 5 tab_ok hN H (by rfl) ct_WayR ?_; clear H; intro a w H; replace H := nt_WayR H; simp only [List.drop_succ_cons, List.drop_zero, List.drop_nil])
  refine v_moreT tab_ok hN H (by rfl) ct_WayR ?_; clear H; intro a w H; try replace H := nt_WayR H
  refine v_callTG [] [] (hp1) H (by rfl) (by rfl) (by rfl) rfl (by rfl) cb cw ca (by rfl) (by rfl) (by rfl) ?_; clear H; intro a w H; try replace H := nt_WayR H
  repeat (refine v_someT 5 tab_ok hN H (by rfl) ct_WayR ?_; clear H; intro a w H; replace H := nt_WayR H; simp only [List.drop_succ_cons, List.drop_zero, List.drop_nil])
  refine v_moreT tab_ok hN H (by rfl) ct_WayR ?_; clear H; intro a w H; try replace H := nt_WayR H
  refine v_callTG [] [] (hq1) H (by rfl) (by rfl) (by rfl) rfl (by rfl) cb cw ca (by rfl) (by rfl) (by rfl) ?_; clear H; intro a w H; try replace H := nt_WayR H
  repeat (refine v_someT 5 tab_ok hN H (by rfl) ct_WayR ?_; clear H; intro a w H; replace H := nt_WayR H; simp only [List.drop_succ_cons, List.drop_zero, List.drop_nil])
  refine v_moreT tab_ok hN H (by rfl) ct_WayR ?_; clear H; intro a w H; try replace H := nt_WayR H
  refine v_drawNil H (fun H => ?_)
  by_cases hk2 : k < 256
  · rw [pbit_nat p k hk2, pbit_nat q k hk2] at H
    refine v_cond H (by rfl) (fun hb => ?_) (fun hb => ?_)
    · have he : bitN p k = bitN q k := by
        revert hb
        cases bitN p k <;> cases bitN q k <;> simp
      repeat (first | refine wp_seq ?_ | refine wp_block ?_ | refine wp_skip ?_ | refine wp_exit ?_ | ((first | refine v_some 5 tab_ok hN H (by rfl) ct_WayR ?_ | refine v_more tab_ok hN H (by rfl) (by rfl) ct_WayR ?_); clear H; intro a w H; replace H := nf_WayR H; (try simp only [List.drop_succ_cons, List.drop_zero, List.drop_nil]); try refine wpList_nil ?_) | refine wp_region_lit ?_)
      exact ⟨k + 1, ⟨hk2, fun t ht => by
        by_cases h1 : t < k
        · exact hag t h1
        · rw [show t = k by omega]; exact he⟩, by omega, H.to 2 0 ⟨Nat.le_trans hN (by decide), hR⟩ ⟨rfl, rfl, rfl, rfl, trivial⟩ rfl rfl rfl rfl rfl⟩
    · have hne : bitN p k ≠ bitN q k := fun e => by
        rw [e] at hb; simp at hb; omega
      have e := com_of hk hag fun _ => hne
      rw [e]
      repeat (first | refine wp_seq ?_ | refine wp_block ?_ | refine wp_skip ?_ | refine wp_exit ?_ | ((first | refine v_some 5 tab_ok hN H (by rfl) ct_WayR ?_ | refine v_more tab_ok hN H (by rfl) (by rfl) ct_WayR ?_); clear H; intro a w H; replace H := nf_WayR H; (try simp only [List.drop_succ_cons, List.drop_zero, List.drop_nil]); try refine wpList_nil ?_) | refine wp_region_lit ?_)
      refine wp_ret ?_
      exact v_end [] [] tab_ok ⟨hN, hR⟩ (rs := [.tmp 4]) (ress := [_]) rfl H (by rfl) (by rfl) cb cw ca rfl
  · have e := com_of hk hag fun h => absurd h hk2
    rw [e]
    refine v_cond H (by rfl) (fun hb => ?_) (fun hb => ?_)
    · exfalso; simp at hb; omega
    · repeat (first | refine wp_seq ?_ | refine wp_block ?_ | refine wp_skip ?_ | refine wp_exit ?_ | ((first | refine v_some 5 tab_ok hN H (by rfl) ct_WayR ?_ | refine v_more tab_ok hN H (by rfl) (by rfl) ct_WayR ?_); clear H; intro a w H; replace H := nf_WayR H; (try simp only [List.drop_succ_cons, List.drop_zero, List.drop_nil]); try refine wpList_nil ?_) | refine wp_region_lit ?_)
      refine wp_ret ?_
      exact v_end [] [] tab_ok ⟨hN, hR⟩ (rs := [.tmp 4]) (ress := [_]) rfl H (by rfl) (by rfl) cb cw ca rfl
theorem underR_v (p q : List UInt8) (hp : p.length = 32) (hq : q.length = 32) (d : Int) : VC Try.prog 39 [.ba p, .ba q, .v (.int .i64 d)] [] (.v (.bool (decide (0 ≤ d ∧ d ≤ 256 ∧ d ≤ com p q)))) := by
  have hc := commonR_v p q hp hq
  refine v_enter Try.func39 rfl (by kernel_rfl) (by show 3 ≤ 20; decide) ?_
  intro N w0 a w hN hR H
  repeat (first | refine wp_seq ?_ | refine wp_block ?_ | refine wp_skip ?_ | refine wp_exit ?_ | ((first | refine v_some 5 tab_ok hN H (by rfl) ct_WayR ?_ | refine v_more tab_ok hN H (by rfl) (by rfl) ct_WayR ?_); clear H; intro a w H; replace H := nf_WayR H; (try simp only [List.drop_succ_cons, List.drop_zero, List.drop_nil]); try refine wpList_nil ?_) | refine wp_region_lit ?_)
  refine v_callG [] [] (hc) H (by rfl) rfl (by rfl) cb cw ca (by rfl) (by rfl) (by rfl) ?_; clear H; intro a w H; replace H := nf_WayR H; try refine wpList_nil ?_
  repeat (first | refine wp_seq ?_ | refine wp_block ?_ | refine wp_skip ?_ | refine wp_exit ?_ | ((first | refine v_some 5 tab_ok hN H (by rfl) ct_WayR ?_ | refine v_more tab_ok hN H (by rfl) (by rfl) ct_WayR ?_); clear H; intro a w H; replace H := nf_WayR H; (try simp only [List.drop_succ_cons, List.drop_zero, List.drop_nil]); try refine wpList_nil ?_) | refine wp_region_lit ?_)
  by_cases h0 : 0 ≤ d
  · by_cases h1 : d ≤ 256
    · have e : (decide (0 ≤ d ∧ d ≤ 256 ∧ d ≤ com p q)) = decide (d ≤ com p q) := by simp [h0, h1]
      rw [e]
      simp only [decide_eq_true h0, decide_eq_true h1, cond_true] at H
      refine wp_ret ?_
      exact v_end [] [] tab_ok ⟨hN, hR⟩ (rs := [.tmp 6]) (ress := [_]) rfl H (by rfl) (by rfl) cb cw ca rfl
    · have e : (decide (0 ≤ d ∧ d ≤ 256 ∧ d ≤ com p q)) = false := by simp [h1]
      rw [e]
      simp only [decide_eq_true h0, decide_eq_false h1, cond_true, cond_false] at H
      refine wp_ret ?_
      exact v_end [] [] tab_ok ⟨hN, hR⟩ (rs := [.tmp 6]) (ress := [_]) rfl H (by rfl) (by rfl) cb cw ca rfl
  · have e : (decide (0 ≤ d ∧ d ≤ 256 ∧ d ≤ com p q)) = false := by simp [h0]
    rw [e]
    simp only [decide_eq_false h0, cond_false] at H
    refine wp_ret ?_
    exact v_end [] [] tab_ok ⟨hN, hR⟩ (rs := [.tmp 6]) (ress := [_]) rfl H (by rfl) (by rfl) cb cw ca rfl
theorem cmp_at (p q : List UInt8) : ∀ k, k ≤ p.length → k ≤ q.length → (∀ j, j < k → p.getD j 0 = q.getD j 0) → Lib.compareBytes p q = Lib.compareBytes (p.drop k) (q.drop k)
  | 0, _, _, _ => rfl
  | k + 1, h1, h2, h => by
    rw [cmp_at p q k (by omega) (by omega) fun j hj => h j (by omega), List.drop_eq_getElem_cons (show k < p.length by omega), List.drop_eq_getElem_cons (show k < q.length by omega)]
    have := h k (by omega)
    rw [← List.getElem_eq_getD (h := show k < p.length by omega) 0, ← List.getElem_eq_getD (h := show k < q.length by omega) 0] at this
    rw [this]
    simp [Lib.compareBytes]
end Go.Proofs.Ytlagngkafllbiaa
