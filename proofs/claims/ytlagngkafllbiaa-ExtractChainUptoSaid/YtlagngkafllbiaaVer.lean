/- What bytes say to whoever knows the root: verify, and the document's. -/
import Derived.Test.YtlagngkafllbiaaUp
import Derived.Test.YtlagngkafllbiaaRef17
import Derived.Test.YtlagngkafllbiaaSelf
set_option linter.unusedSimpArgs false
set_option linter.unusedVariables false
namespace Go.Proofs.Ytlagngkafllbiaa
open Go Go.RowKit
/-- The state made plain. -/
theorem nf_Ver {P : Program} {w0 w : World} {N : Gh} {nt : Nat} {st s2 : St} {a : Act} (H : Rel P w0 N nt st a w) (h : st = s2 := by (try simp only [pk, elemB, St.put, St.ev, St.tmp, St.keep, find, dropT, slots, AV.put, AV.loc, fitI, convI, IntKind.signed, IntKind.bits, strip, St.lose, mergeL, setAll, nth, renB, ren, idx?, sub, allP, low, bnd, Int.reduceEq, Nat.reduceAdd, Nat.reduceLT, reduceIte, reduceCtorEq, Nat.reduceEqDiff, Nat.reduceLeDiff, Nat.reduceBEq, Int.reducePow, Int.reduceToNat, ti24_t, ti24_z, ti5_t, ti5_z, ti30_t, ti30_z, ti23_t, ti23_z, ti62_t, ti62_z, ti64_t, ti64_z, ti43_t, ti43_z, ti41_t, ti41_z, ti26_t, ti26_z, ti22_t, ti22_z]); rfl) : Rel P w0 N nt s2 a w := h ▸ H
theorem nt_Ver {P : Program} {w0 w : World} {N gS : Gh} {nt : Nat} {q q2 st s2 : St} {a : Act} (H : RelT P w0 N nt gS q st a w) (h1 : q = q2 := by (try simp only [pk, elemB, St.put, St.ev, St.tmp, St.keep, find, dropT, slots, AV.put, AV.loc, fitI, convI, IntKind.signed, IntKind.bits, strip, St.lose, mergeL, setAll, nth, renB, ren, idx?, sub, allP, low, bnd, Int.reduceEq, Nat.reduceAdd, Nat.reduceLT, reduceIte, reduceCtorEq, Nat.reduceEqDiff, Nat.reduceLeDiff, Nat.reduceBEq, Int.reducePow, Int.reduceToNat, ti24_t, ti24_z, ti5_t, ti5_z, ti30_t, ti30_z, ti23_t, ti23_z, ti62_t, ti62_z, ti64_t, ti64_z, ti43_t, ti43_z, ti41_t, ti41_z, ti26_t, ti26_z, ti22_t, ti22_z]); rfl) (h : st = s2 := by (try simp only [pk, elemB, St.put, St.ev, St.tmp, St.keep, find, dropT, slots, AV.put, AV.loc, fitI, convI, IntKind.signed, IntKind.bits, strip, St.lose, mergeL, setAll, nth, renB, ren, idx?, sub, allP, low, bnd, Int.reduceEq, Nat.reduceAdd, Nat.reduceLT, reduceIte, reduceCtorEq, Nat.reduceEqDiff, Nat.reduceLeDiff, Nat.reduceBEq, Int.reducePow, Int.reduceToNat, ti24_t, ti24_z, ti5_t, ti5_z, ti30_t, ti30_z, ti23_t, ti23_z, ti62_t, ti62_z, ti64_t, ti64_z, ti43_t, ti43_z, ti41_t, ti41_z, ti26_t, ti26_z, ti22_t, ti22_z]); rfl) : RelT P w0 N nt gS q2 s2 a w := h1 ▸ h ▸ H
theorem ct_Ver {c : Prop} (h : c := by ((try simp only [pk, elemB, St.put, St.ev, St.tmp, St.keep, find, dropT, slots, AV.put, AV.loc, fitI, convI, IntKind.signed, IntKind.bits, strip, St.lose, mergeL, setAll, nth, renB, ren, idx?, sub, allP, low, bnd, Int.reduceEq, Nat.reduceAdd, Nat.reduceLT, reduceIte, reduceCtorEq, Nat.reduceEqDiff, Nat.reduceLeDiff, Nat.reduceBEq, Int.reducePow, Int.reduceToNat, ti24_t, ti24_z, ti5_t, ti5_z, ti30_t, ti30_z, ti23_t, ti23_z, ti62_t, ti62_z, ti64_t, ti64_z, ti43_t, ti43_z, ti41_t, ti41_z, ti26_t, ti26_z, ti22_t, ti22_z, ti24, ti5, ti30, ti23, ti62, ti64, ti43, ti41, ti26, ti22, fit, gcond, ilo, ihi]); first | done | exact cd | exact cd2 | skip)) : c := h
def vTop (key l : List UInt8) : List UInt8 := if pOk l then topH key (pDec l) else z32
def vErr (l : List UInt8) : Int := if pOk l then 0 else 10
theorem vTop_len (key l : List UInt8) : (vTop key l).length = 32 := by unfold vTop; split; exact topH_len _ _; exact z32_len
theorem pDec_wf (l : List UInt8) : (pDec l).wf := by unfold pDec; split; exact rdQ_wf l; exact pzero_wf
theorem pDec_chk {l : List UInt8} (h : pOk l) : (pDec l).chk = 0 := by rw [pDec, if_pos h]; exact h.2.1
set_option maxRecDepth 20000 in
set_option maxHeartbeats 1000000 in
theorem vread_v (key l : List UInt8) (hk : key.length = 32) (hl : l.length ≤ 34359730000) : VC Try.prog 31 [.ba key, .bs l none] [] (.tup [(pDec l).av, .ba (vTop key l), errv (vErr l)]) := by
  have hz2 := z32_len
  have hd := decodeP_v l hl
  have hw := pDec_wf l
  obtain ⟨g1, g2, g3, g4⟩ := id hw.e
  by_cases h : pOk l
  · have hu := up_v key hk (pDec l) hw (pDec_chk h)
    have htl := topH_len key (pDec l)
    rw [if_pos h] at hd
    rw [vTop, vErr, if_pos h, if_pos h]
    generalize topH key (pDec l) = t at *
    generalize pDec l = p at *
    refine v_enter Try.func31 rfl (by kernel_rfl) (by show 2 ≤ 25; decide) ?_
    intro N w0 a w hN hR H
    simp only [Pf.av, Nd.av] at hd hu
    repeat (first | refine wp_seq ?_ | refine wp_block ?_ | refine wp_skip ?_ | refine wp_exit ?_ | ((first | refine v_some 5 tab_ok hN H (by rfl) ct_Ver ?_ | refine v_more tab_ok hN H (by rfl) (by rfl) ct_Ver ?_); clear H; intro a w H; replace H := nf_Ver H; (try simp only [List.drop_succ_cons, List.drop_zero, List.drop_nil]); try refine wpList_nil ?_) | refine wp_region_lit ?_)
    refine v_call [] [] (hd) H rfl rfl (by rfl) cb cw ca ?_; clear H; intro a w H; replace H := nf_Ver H; try refine wpList_nil ?_
    repeat (first | refine wp_seq ?_ | refine wp_block ?_ | refine wp_skip ?_ | refine wp_exit ?_ | ((first | refine v_some 5 tab_ok hN H (by rfl) ct_Ver ?_ | refine v_more tab_ok hN H (by rfl) (by rfl) ct_Ver ?_); clear H; intro a w H; replace H := nf_Ver H; (try simp only [List.drop_succ_cons, List.drop_zero, List.drop_nil]); try refine wpList_nil ?_) | refine wp_region_lit ?_)
    refine v_cond H (by rfl) (fun hb => ?_) (fun hb => ?_)
    · simp at hb
    · clear hb
      repeat (first | refine wp_seq ?_ | refine wp_block ?_ | refine wp_skip ?_ | refine wp_exit ?_ | ((first | refine v_some 5 tab_ok hN H (by rfl) ct_Ver ?_ | refine v_more tab_ok hN H (by rfl) (by rfl) ct_Ver ?_); clear H; intro a w H; replace H := nf_Ver H; (try simp only [List.drop_succ_cons, List.drop_zero, List.drop_nil]); try refine wpList_nil ?_) | refine wp_region_lit ?_)
      refine v_call [] [] (hu) H rfl rfl (by rfl) cb cw ca ?_; clear H; intro a w H; replace H := nf_Ver H; try refine wpList_nil ?_
      repeat (first | refine wp_seq ?_ | refine wp_block ?_ | refine wp_skip ?_ | refine wp_exit ?_ | ((first | refine v_some 5 tab_ok hN H (by rfl) ct_Ver ?_ | refine v_more tab_ok hN H (by rfl) (by rfl) ct_Ver ?_); clear H; intro a w H; replace H := nf_Ver H; (try simp only [List.drop_succ_cons, List.drop_zero, List.drop_nil]); try refine wpList_nil ?_) | refine wp_region_lit ?_)
      repeat (first | refine wp_seq ?_ | refine wp_block ?_)
      refine v_selfRet (T1 := 64) (T2 := 30) (p1 := 4) (p2 := 5) (e := 6) (s1 := 22) (s2 := 23) (s3 := 24) (b1 := 1) (b2 := 2) (i1 := ti64) (i2 := ti30) tab_ok (by kernel_rfl) (by kernel_rfl) H rfl rfl rfl rfl rfl rfl (by rfl) (by rfl) (by rfl) (by rfl) (by rfl) (by rfl) (by rfl) (by decide) (by decide) (fun a w H => ?_)
      replace H := nf_Ver H
      simp only [Pf.av, Nd.av]
      refine wp_ret ?_
      exact v_end [] [] tab_ok ⟨hN, hR⟩ (rs := [.cell 4 64, .cell 5 30, .tmp 6]) (ress := [_, _, _]) rfl H (by rfl) (by rfl) cb cw ca rfl
  · rw [if_neg h] at hd
    rw [vTop, vErr, if_neg h, if_neg h]
    rw [pDec, if_neg h] at hd ⊢
    refine v_enter Try.func31 rfl (by kernel_rfl) (by show 2 ≤ 25; decide) ?_
    intro N w0 a w hN hR H
    simp only [Pf.zero, Pf.av, Nd.av, Nd.zero, bas, List.map_nil] at hd ⊢
    repeat (first | refine wp_seq ?_ | refine wp_block ?_ | refine wp_skip ?_ | refine wp_exit ?_ | ((first | refine v_some 5 tab_ok hN H (by rfl) ct_Ver ?_ | refine v_more tab_ok hN H (by rfl) (by rfl) ct_Ver ?_); clear H; intro a w H; replace H := nf_Ver H; (try simp only [List.drop_succ_cons, List.drop_zero, List.drop_nil]); try refine wpList_nil ?_) | refine wp_region_lit ?_)
    refine v_call [] [] (hd) H rfl rfl (by rfl) cb cw ca ?_; clear H; intro a w H; replace H := nf_Ver H; try refine wpList_nil ?_
    repeat (first | refine wp_seq ?_ | refine wp_block ?_ | refine wp_skip ?_ | refine wp_exit ?_ | ((first | refine v_some 5 tab_ok hN H (by rfl) ct_Ver ?_ | refine v_more tab_ok hN H (by rfl) (by rfl) ct_Ver ?_); clear H; intro a w H; replace H := nf_Ver H; (try simp only [List.drop_succ_cons, List.drop_zero, List.drop_nil]); try refine wpList_nil ?_) | refine wp_region_lit ?_)
    refine v_cond H (by rfl) (fun hb => ?_) (fun hb => ?_)
    · repeat (first | refine wp_seq ?_ | refine wp_block ?_ | refine wp_skip ?_ | refine wp_exit ?_ | ((first | refine v_some 5 tab_ok hN H (by rfl) ct_Ver ?_ | refine v_more tab_ok hN H (by rfl) (by rfl) ct_Ver ?_); clear H; intro a w H; replace H := nf_Ver H; (try simp only [List.drop_succ_cons, List.drop_zero, List.drop_nil]); try refine wpList_nil ?_) | refine wp_region_lit ?_)
      try simp only [hz] at H
      refine wp_ret ?_
      exact v_end [] [] tab_ok ⟨hN, hR⟩ (rs := [.cell 4 64, .cell 5 30, .tmp 6]) (ress := [_, _, _]) rfl H (by rfl) (by rfl) cb cw (by exact ⟨⟨rfl, sub_refl _ _, trivial⟩, sub_refl _ _, sub_refl _ _, trivial⟩) rfl
    · simp at hb
theorem vtop_v (key l : List UInt8) (hk : key.length = 32) (hl : l.length ≤ 34359730000) : VC Try.prog 9 [.ba key, .bs l none] [] (.tup [.ba (vTop key l), errv (vErr l)]) := by
  have hd := vread_v key l hk hl
  have hw := pDec_wf l
  have htl := vTop_len key l
  obtain ⟨g1, g2, g3, g4⟩ := id hw.e
  generalize vTop key l = t at *
  generalize pDec l = p at *
  refine v_enter Try.func9 rfl (by kernel_rfl) (by show 2 ≤ 18; decide) ?_
  intro N w0 a w hN hR H
  simp only [Pf.av, Nd.av] at hd
  repeat (first | refine wp_seq ?_ | refine wp_block ?_ | refine wp_skip ?_ | refine wp_exit ?_ | ((first | refine v_some 5 tab_ok hN H (by rfl) ct_Ver ?_ | refine v_more tab_ok hN H (by rfl) (by rfl) ct_Ver ?_); clear H; intro a w H; replace H := nf_Ver H; (try simp only [List.drop_succ_cons, List.drop_zero, List.drop_nil]); try refine wpList_nil ?_) | refine wp_region_lit ?_)
  refine v_call [] [] (hd) H rfl rfl (by rfl) cb cw ca ?_; clear H; intro a w H; replace H := nf_Ver H; try refine wpList_nil ?_
  repeat (first | refine wp_seq ?_ | refine wp_block ?_ | refine wp_skip ?_ | refine wp_exit ?_ | ((first | refine v_some 5 tab_ok hN H (by rfl) ct_Ver ?_ | refine v_more tab_ok hN H (by rfl) (by rfl) ct_Ver ?_); clear H; intro a w H; replace H := nf_Ver H; (try simp only [List.drop_succ_cons, List.drop_zero, List.drop_nil]); try refine wpList_nil ?_) | refine wp_region_lit ?_)
  refine wp_ret ?_
  exact v_end [] [] tab_ok ⟨hN, hR⟩ (rs := [.cell 4 30, .tmp 5]) (ress := [_, _]) rfl H (by rfl) (by rfl) cb cw ca rfl
theorem vtopR_v (key l : List UInt8) (hk : key.length = 32) (hl : l.length ≤ 34359730000) : VC Try.prog 14 [.ba key, .bs l none] [] (.tup [.ba (vTop key l), errv (vErr l)]) := by
  have hz2 := z32_len
  have hd := decPR_v l hl
  have hw := pDec_wf l
  obtain ⟨g1, g2, g3, g4⟩ := id hw.e
  by_cases h : pOk l
  · have hu := upR_v key hk (pDec l) hw (pDec_chk h)
    have htl := topH_len key (pDec l)
    rw [if_pos h] at hd
    rw [vTop, vErr, if_pos h, if_pos h]
    generalize topH key (pDec l) = t at *
    generalize pDec l = p at *
    refine v_enter Try.func14 rfl (by kernel_rfl) (by show 2 ≤ 25; decide) ?_
    intro N w0 a w hN hR H
    simp only [Pf.av, Nd.av] at hd hu
    repeat (first | refine wp_seq ?_ | refine wp_block ?_ | refine wp_skip ?_ | refine wp_exit ?_ | ((first | refine v_some 5 tab_ok hN H (by rfl) ct_Ver ?_ | refine v_more tab_ok hN H (by rfl) (by rfl) ct_Ver ?_); clear H; intro a w H; replace H := nf_Ver H; (try simp only [List.drop_succ_cons, List.drop_zero, List.drop_nil]); try refine wpList_nil ?_) | refine wp_region_lit ?_)
    refine v_call [] [] (hd) H rfl rfl (by rfl) cb cw ca ?_; clear H; intro a w H; replace H := nf_Ver H; try refine wpList_nil ?_
    repeat (first | refine wp_seq ?_ | refine wp_block ?_ | refine wp_skip ?_ | refine wp_exit ?_ | ((first | refine v_some 5 tab_ok hN H (by rfl) ct_Ver ?_ | refine v_more tab_ok hN H (by rfl) (by rfl) ct_Ver ?_); clear H; intro a w H; replace H := nf_Ver H; (try simp only [List.drop_succ_cons, List.drop_zero, List.drop_nil]); try refine wpList_nil ?_) | refine wp_region_lit ?_)
    refine v_cond H (by rfl) (fun hb => ?_) (fun hb => ?_)
    · simp at hb
    · clear hb
      repeat (first | refine wp_seq ?_ | refine wp_block ?_ | refine wp_skip ?_ | refine wp_exit ?_ | ((first | refine v_some 5 tab_ok hN H (by rfl) ct_Ver ?_ | refine v_more tab_ok hN H (by rfl) (by rfl) ct_Ver ?_); clear H; intro a w H; replace H := nf_Ver H; (try simp only [List.drop_succ_cons, List.drop_zero, List.drop_nil]); try refine wpList_nil ?_) | refine wp_region_lit ?_)
      refine v_call [] [] (hu) H rfl rfl (by rfl) cb cw ca ?_; clear H; intro a w H; replace H := nf_Ver H; try refine wpList_nil ?_
      repeat (first | refine wp_seq ?_ | refine wp_block ?_ | refine wp_skip ?_ | refine wp_exit ?_ | ((first | refine v_some 5 tab_ok hN H (by rfl) ct_Ver ?_ | refine v_more tab_ok hN H (by rfl) (by rfl) ct_Ver ?_); clear H; intro a w H; replace H := nf_Ver H; (try simp only [List.drop_succ_cons, List.drop_zero, List.drop_nil]); try refine wpList_nil ?_) | refine wp_region_lit ?_)
      refine wp_ret ?_
      exact v_end [] [] tab_ok ⟨hN, hR⟩ (rs := [.cell 4 30, .tmp 5]) (ress := [_, _]) rfl H (by rfl) (by rfl) cb cw ca rfl
  · rw [if_neg h] at hd
    rw [vTop, vErr, if_neg h, if_neg h]
    rw [pDec, if_neg h] at hd
    refine v_enter Try.func14 rfl (by kernel_rfl) (by show 2 ≤ 25; decide) ?_
    intro N w0 a w hN hR H
    simp only [Pf.zero, Pf.av, Nd.av, Nd.zero, bas, List.map_nil] at hd
    repeat (first | refine wp_seq ?_ | refine wp_block ?_ | refine wp_skip ?_ | refine wp_exit ?_ | ((first | refine v_some 5 tab_ok hN H (by rfl) ct_Ver ?_ | refine v_more tab_ok hN H (by rfl) (by rfl) ct_Ver ?_); clear H; intro a w H; replace H := nf_Ver H; (try simp only [List.drop_succ_cons, List.drop_zero, List.drop_nil]); try refine wpList_nil ?_) | refine wp_region_lit ?_)
    refine v_call [] [] (hd) H rfl rfl (by rfl) cb cw ca ?_; clear H; intro a w H; replace H := nf_Ver H; try refine wpList_nil ?_
    repeat (first | refine wp_seq ?_ | refine wp_block ?_ | refine wp_skip ?_ | refine wp_exit ?_ | ((first | refine v_some 5 tab_ok hN H (by rfl) ct_Ver ?_ | refine v_more tab_ok hN H (by rfl) (by rfl) ct_Ver ?_); clear H; intro a w H; replace H := nf_Ver H; (try simp only [List.drop_succ_cons, List.drop_zero, List.drop_nil]); try refine wpList_nil ?_) | refine wp_region_lit ?_)
    refine v_cond H (by rfl) (fun hb => ?_) (fun hb => ?_)
    · repeat (first | refine wp_seq ?_ | refine wp_block ?_ | refine wp_skip ?_ | refine wp_exit ?_ | ((first | refine v_some 5 tab_ok hN H (by rfl) ct_Ver ?_ | refine v_more tab_ok hN H (by rfl) (by rfl) ct_Ver ?_); clear H; intro a w H; replace H := nf_Ver H; (try simp only [List.drop_succ_cons, List.drop_zero, List.drop_nil]); try refine wpList_nil ?_) | refine wp_region_lit ?_)
      try simp only [hz] at H
      refine wp_ret ?_
      exact v_end [] [] tab_ok ⟨hN, hR⟩ (rs := [.cell 4 30, .tmp 5]) (ress := [_, _]) rfl H (by rfl) (by rfl) cb cw ca rfl
    · simp at hb
/-- What is said of a key under a root. -/
def vRd (root key l : List UInt8) : Bool × List UInt8 × Int :=
  if ¬ pOk l then (false, z32, 10)
  else if vTop key l ≠ root ∨ ((pDec l).e.k = 1 ∧ ¬ (pDec l).s.length ≤ com (pDec l).e.key key) then (false, z32, 11)
  else if (pDec l).e.k = 1 ∧ (pDec l).e.key = key then (true, (pDec l).e.v, 0) else (false, z32, 0)
theorem vRd_len (root key l : List UInt8) : (vRd root key l).2.1.length = 32 := by
  unfold vRd
  split
  · exact z32_len
  · split
    · exact z32_len
    · split
      · exact (pDec_wf l).e.v
      · exact z32_len
theorem k1_iff (k : UInt8) : ((k.toNat : Int) = 1) ↔ k = 1 := ⟨fun h => UInt8.toNat_inj.1 (by simp; omega), fun h => by rw [h]; rfl⟩
set_option maxRecDepth 20000 in
set_option maxHeartbeats 1000000 in
theorem vRead_v (root key l : List UInt8) (hr : root.length = 32) (hk : key.length = 32) (hl : l.length ≤ 34359730000) : VC Try.prog 15 [.ba root, .ba key, .bs l none] [] (.tup [.st [.v (.bool (vRd root key l).1), .ba (vRd root key l).2.1], errv (vRd root key l).2.2]) := by
  have hz2 := z32_len
  have hd := vread_v key l hk hl
  have hw := pDec_wf l
  have htl := vTop_len key l
  by_cases h : pOk l
  · have hc := chk_all (pDec_chk h)
    have e : vRd root key l = if vTop key l ≠ root ∨ ((pDec l).e.k = 1 ∧ ¬ (pDec l).s.length ≤ com (pDec l).e.key key) then (false, z32, 11) else if (pDec l).e.k = 1 ∧ (pDec l).e.key = key then (true, (pDec l).e.v, 0) else (false, z32, 0) := by rw [vRd, if_neg (fun hn => hn h)]
    rw [e]
    rw [vErr, if_pos h] at hd
    clear e
    generalize vTop key l = t at *
    generalize pDec l = p at *
    obtain ⟨s, n⟩ := p
    obtain ⟨g1, g2, g3, g4⟩ := id hw.e
    dsimp only at g1 g2 g3 g4 hc ⊢
    have hsl := bas_len s
    have hun := under_v n.key key g1 hk (s.length : Int)
    have hk1 := k1_iff n.k
    have hs256 := hc.1
    refine v_enter Try.func15 rfl (by kernel_rfl) (by show 3 ≤ 57; decide) ?_
    intro N w0 a w hN hR H
    simp only [Pf.av, Nd.av] at hd
    repeat (first | refine wp_seq ?_ | refine wp_block ?_ | refine wp_skip ?_ | refine wp_exit ?_ | ((first | refine v_some 5 tab_ok hN H (by rfl) ct_Ver ?_ | refine v_more tab_ok hN H (by rfl) (by rfl) ct_Ver ?_); clear H; intro a w H; replace H := nf_Ver H; (try simp only [List.drop_succ_cons, List.drop_zero, List.drop_nil]); try refine wpList_nil ?_) | refine wp_region_lit ?_)
    refine v_call [] [] (hd) H rfl rfl (by rfl) cb cw ca ?_; clear H; intro a w H; replace H := nf_Ver H; try refine wpList_nil ?_
    repeat (first | refine wp_seq ?_ | refine wp_block ?_ | refine wp_skip ?_ | refine wp_exit ?_ | ((first | refine v_some 5 tab_ok hN H (by rfl) ct_Ver ?_ | refine v_more tab_ok hN H (by rfl) (by rfl) ct_Ver ?_); clear H; intro a w H; replace H := nf_Ver H; (try simp only [List.drop_succ_cons, List.drop_zero, List.drop_nil]); try refine wpList_nil ?_) | refine wp_region_lit ?_)
    refine v_cond H (by rfl) (fun hb => ?_) (fun hb => ?_)
    · simp at hb
    · clear hb
      repeat (first | refine wp_seq ?_ | refine wp_block ?_ | refine wp_skip ?_ | refine wp_exit ?_ | ((first | refine v_some 5 tab_ok hN H (by rfl) (by (try simp only [hsl]); first | done | exact ct_Ver) ?_ | refine v_more tab_ok hN H (by rfl) (by rfl) (by (try simp only [hsl]); first | done | exact ct_Ver) ?_); clear H; intro a w H; replace H := nf_Ver H; first | (simp only [hsl] at H; replace H := nf_Ver H) | skip; (try simp only [List.drop_succ_cons, List.drop_zero, List.drop_nil]); try refine wpList_nil ?_) | refine wp_region_lit ?_)
      refine v_callG [] [] (hun) H (by rfl) rfl (by rfl) (by simp [pickB, bxs, ren, idx?, sub_refl, sub, allP, hsl] <;> omega) (by first | rfl | (simp [hsl] <;> omega)) (by first | exact trivial | exact ⟨sub_refl _ _, trivial⟩ | exact ⟨sub_refl _ _, sub_refl _ _, trivial⟩ | exact ⟨sub_refl _ _, sub_refl _ _, sub_refl _ _, trivial⟩ | exact ⟨⟨rfl, sub_refl _ _, trivial⟩, sub_refl _ _, trivial⟩ | (simp [cargs, cargsG, St.ev, St.tmp, find, ren, idx?, sub_refl, sub, allP, resv, resC, bss, hsl] <;> omega)) (by rfl) (by rfl) (by rfl) ?_; clear H; intro a w H; replace H := nf_Ver H; first | (simp only [hsl] at H; replace H := nf_Ver H) | skip; try refine wpList_nil ?_
      repeat (first | refine wp_seq ?_ | refine wp_block ?_ | refine wp_skip ?_ | refine wp_exit ?_ | ((first | refine v_some 5 tab_ok hN H (by rfl) (by (try simp only [hsl]); first | done | exact ct_Ver) ?_ | refine v_more tab_ok hN H (by rfl) (by rfl) (by (try simp only [hsl]); first | done | exact ct_Ver) ?_); clear H; intro a w H; replace H := nf_Ver H; first | (simp only [hsl] at H; replace H := nf_Ver H) | skip; (try simp only [List.drop_succ_cons, List.drop_zero, List.drop_nil]); try refine wpList_nil ?_) | refine wp_region_lit ?_)
      have hcond : (bif !decide (t = root) then true else bif decide ((n.k.toNat : Int) = 1) then !decide (0 ≤ (s.length : Int) ∧ (s.length : Int) ≤ 256 ∧ (s.length : Int) ≤ (com n.key key : Int)) else false) = decide (t ≠ root ∨ (n.k = 1 ∧ ¬ s.length ≤ com n.key key)) := by
        have e2 : (0 ≤ (s.length : Int) ∧ (s.length : Int) ≤ 256 ∧ (s.length : Int) ≤ (com n.key key : Int)) ↔ s.length ≤ com n.key key := ⟨fun h => by omega, fun h => ⟨by omega, by omega, by omega⟩⟩
        have d1 : decide ((n.k.toNat : Int) = 1) = decide (n.k = 1) := decide_eq_decide.2 hk1
        have d2 : decide (0 ≤ (s.length : Int) ∧ (s.length : Int) ≤ 256 ∧ (s.length : Int) ≤ (com n.key key : Int)) = decide (s.length ≤ com n.key key) := decide_eq_decide.2 e2
        rw [d1, d2]
        by_cases c1 : t = root <;> by_cases c2 : n.k = 1 <;> by_cases c3 : s.length ≤ com n.key key <;> simp [c1, c2, c3]
      try simp only [hcond] at H
      by_cases c0 : t ≠ root ∨ (n.k = 1 ∧ ¬ s.length ≤ com n.key key)
      · rw [if_pos c0]
        refine v_cond H (by rfl) (fun hb => ?_) (fun hb => ?_)
        · repeat (first | refine wp_seq ?_ | refine wp_block ?_ | refine wp_skip ?_ | refine wp_exit ?_ | ((first | refine v_some 5 tab_ok hN H (by rfl) (by (try simp only [hsl]); first | done | exact ct_Ver) ?_ | refine v_more tab_ok hN H (by rfl) (by rfl) (by (try simp only [hsl]); first | done | exact ct_Ver) ?_); clear H; intro a w H; replace H := nf_Ver H; first | (simp only [hsl] at H; replace H := nf_Ver H) | skip; (try simp only [List.drop_succ_cons, List.drop_zero, List.drop_nil]); try refine wpList_nil ?_) | refine wp_region_lit ?_)
          try simp only [hz] at H
          refine wp_ret ?_
          exact v_end [] [] tab_ok ⟨hN, hR⟩ (rs := [.cell 6 43, .tmp 7]) (ress := [_, _]) rfl H (by rfl) (by rfl) (by simp [pickB, bxs, ren, idx?, sub_refl, sub, allP, hsl] <;> omega) (by first | rfl | (simp [hsl] <;> omega)) (by first | exact trivial | exact ⟨sub_refl _ _, trivial⟩ | exact ⟨sub_refl _ _, sub_refl _ _, trivial⟩ | exact ⟨sub_refl _ _, sub_refl _ _, sub_refl _ _, trivial⟩ | exact ⟨⟨rfl, sub_refl _ _, trivial⟩, sub_refl _ _, trivial⟩ | (simp [cargs, cargsG, St.ev, St.tmp, find, ren, idx?, sub_refl, sub, allP, resv, resC, bss, hsl] <;> omega)) rfl
        · exfalso; rw [decide_eq_true c0] at hb; cases hb
      · rw [if_neg c0]
        refine v_cond H (by rfl) (fun hb => ?_) (fun hb => ?_)
        · exfalso; rw [decide_eq_false c0] at hb; cases hb
        · clear hb
          repeat (first | refine wp_seq ?_ | refine wp_block ?_ | refine wp_skip ?_ | refine wp_exit ?_ | ((first | refine v_some 5 tab_ok hN H (by rfl) (by (try simp only [hsl]); first | done | exact ct_Ver) ?_ | refine v_more tab_ok hN H (by rfl) (by rfl) (by (try simp only [hsl]); first | done | exact ct_Ver) ?_); clear H; intro a w H; replace H := nf_Ver H; first | (simp only [hsl] at H; replace H := nf_Ver H) | skip; (try simp only [List.drop_succ_cons, List.drop_zero, List.drop_nil]); try refine wpList_nil ?_) | refine wp_region_lit ?_)
          by_cases c1 : n.k = 1 ∧ n.key = key
          · rw [if_pos c1]
            refine v_cond H (by rfl) (fun hb => ?_) (fun hb => ?_)
            · repeat (first | refine wp_seq ?_ | refine wp_block ?_ | refine wp_skip ?_ | refine wp_exit ?_ | ((first | refine v_some 5 tab_ok hN H (by rfl) (by (try simp only [hsl]); first | done | exact ct_Ver) ?_ | refine v_more tab_ok hN H (by rfl) (by rfl) (by (try simp only [hsl]); first | done | exact ct_Ver) ?_); clear H; intro a w H; replace H := nf_Ver H; first | (simp only [hsl] at H; replace H := nf_Ver H) | skip; (try simp only [List.drop_succ_cons, List.drop_zero, List.drop_nil]); try refine wpList_nil ?_) | refine wp_region_lit ?_)
              refine wp_ret ?_
              exact v_end [] [] tab_ok ⟨hN, hR⟩ (rs := [.cell 6 43, .tmp 7]) (ress := [_, _]) rfl H (by rfl) (by rfl) (by simp [pickB, bxs, ren, idx?, sub_refl, sub, allP, hsl] <;> omega) (by first | rfl | (simp [hsl] <;> omega)) (by first | exact trivial | exact ⟨sub_refl _ _, trivial⟩ | exact ⟨sub_refl _ _, sub_refl _ _, trivial⟩ | exact ⟨sub_refl _ _, sub_refl _ _, sub_refl _ _, trivial⟩ | exact ⟨⟨rfl, sub_refl _ _, trivial⟩, sub_refl _ _, trivial⟩ | (simp [cargs, cargsG, St.ev, St.tmp, find, ren, idx?, sub_refl, sub, allP, resv, resC, bss, hsl] <;> omega)) rfl
            · exfalso; rw [decide_eq_true (hk1.2 c1.1), decide_eq_true c1.2] at hb; cases hb
          · rw [if_neg c1]
            refine v_cond H (by rfl) (fun hb => ?_) (fun hb => ?_)
            · exfalso
              by_cases c2 : n.k = 1
              · by_cases c3 : n.key = key
                · exact c1 ⟨c2, c3⟩
                · rw [decide_eq_false c3] at hb; simp at hb
              · rw [decide_eq_false (fun e => c2 (hk1.1 e))] at hb; simp at hb
            · repeat (first | refine wp_seq ?_ | refine wp_block ?_ | refine wp_skip ?_ | refine wp_exit ?_ | ((first | refine v_some 5 tab_ok hN H (by rfl) (by (try simp only [hsl]); first | done | exact ct_Ver) ?_ | refine v_more tab_ok hN H (by rfl) (by rfl) (by (try simp only [hsl]); first | done | exact ct_Ver) ?_); clear H; intro a w H; replace H := nf_Ver H; first | (simp only [hsl] at H; replace H := nf_Ver H) | skip; (try simp only [List.drop_succ_cons, List.drop_zero, List.drop_nil]); try refine wpList_nil ?_) | refine wp_region_lit ?_)
              try simp only [hz] at H
              refine wp_ret ?_
              exact v_end [] [] tab_ok ⟨hN, hR⟩ (rs := [.cell 6 43, .tmp 7]) (ress := [_, _]) rfl H (by rfl) (by rfl) (by simp [pickB, bxs, ren, idx?, sub_refl, sub, allP, hsl] <;> omega) (by first | rfl | (simp [hsl] <;> omega)) (by first | exact trivial | exact ⟨sub_refl _ _, trivial⟩ | exact ⟨sub_refl _ _, sub_refl _ _, trivial⟩ | exact ⟨sub_refl _ _, sub_refl _ _, sub_refl _ _, trivial⟩ | exact ⟨⟨rfl, sub_refl _ _, trivial⟩, sub_refl _ _, trivial⟩ | (simp [cargs, cargsG, St.ev, St.tmp, find, ren, idx?, sub_refl, sub, allP, resv, resC, bss, hsl] <;> omega)) rfl
  · have e : vRd root key l = (false, z32, 10) := by rw [vRd, if_pos h]
    rw [e]
    rw [vErr, if_neg h] at hd
    obtain ⟨g1, g2, g3, g4⟩ := id hw.e
    clear e
    generalize vTop key l = t at *
    generalize pDec l = p at *
    refine v_enter Try.func15 rfl (by kernel_rfl) (by show 3 ≤ 57; decide) ?_
    intro N w0 a w hN hR H
    simp only [Pf.av, Nd.av] at hd
    repeat (first | refine wp_seq ?_ | refine wp_block ?_ | refine wp_skip ?_ | refine wp_exit ?_ | ((first | refine v_some 5 tab_ok hN H (by rfl) ct_Ver ?_ | refine v_more tab_ok hN H (by rfl) (by rfl) ct_Ver ?_); clear H; intro a w H; replace H := nf_Ver H; (try simp only [List.drop_succ_cons, List.drop_zero, List.drop_nil]); try refine wpList_nil ?_) | refine wp_region_lit ?_)
    refine v_call [] [] (hd) H rfl rfl (by rfl) cb cw ca ?_; clear H; intro a w H; replace H := nf_Ver H; try refine wpList_nil ?_
    repeat (first | refine wp_seq ?_ | refine wp_block ?_ | refine wp_skip ?_ | refine wp_exit ?_ | ((first | refine v_some 5 tab_ok hN H (by rfl) ct_Ver ?_ | refine v_more tab_ok hN H (by rfl) (by rfl) ct_Ver ?_); clear H; intro a w H; replace H := nf_Ver H; (try simp only [List.drop_succ_cons, List.drop_zero, List.drop_nil]); try refine wpList_nil ?_) | refine wp_region_lit ?_)
    refine v_cond H (by rfl) (fun hb => ?_) (fun hb => ?_)
    · repeat (first | refine wp_seq ?_ | refine wp_block ?_ | refine wp_skip ?_ | refine wp_exit ?_ | ((first | refine v_some 5 tab_ok hN H (by rfl) ct_Ver ?_ | refine v_more tab_ok hN H (by rfl) (by rfl) ct_Ver ?_); clear H; intro a w H; replace H := nf_Ver H; (try simp only [List.drop_succ_cons, List.drop_zero, List.drop_nil]); try refine wpList_nil ?_) | refine wp_region_lit ?_)
      try simp only [hz] at H
      refine wp_ret ?_
      exact v_end [] [] tab_ok ⟨hN, hR⟩ (rs := [.cell 6 43, .tmp 7]) (ress := [_, _]) rfl H (by rfl) (by rfl) cb cw ca rfl
    · simp at hb
set_option maxRecDepth 20000 in
set_option maxHeartbeats 1000000 in
theorem vReadR_v (root key l : List UInt8) (hr : root.length = 32) (hk : key.length = 32) (hl : l.length ≤ 34359730000) : VC Try.prog 16 [.ba root, .ba key, .bs l none] [] (.tup [.st [.v (.bool (vRd root key l).1), .ba (vRd root key l).2.1], errv (vRd root key l).2.2]) := by
  have hz2 := z32_len
  have hd := vtopR_v key l hk hl
  have hd2 := decPR_v l hl
  have hw := pDec_wf l
  have htl := vTop_len key l
  by_cases h : pOk l
  · have hc := chk_all (pDec_chk h)
    have e : vRd root key l = if vTop key l ≠ root ∨ ((pDec l).e.k = 1 ∧ ¬ (pDec l).s.length ≤ com (pDec l).e.key key) then (false, z32, 11) else if (pDec l).e.k = 1 ∧ (pDec l).e.key = key then (true, (pDec l).e.v, 0) else (false, z32, 0) := by rw [vRd, if_neg (fun hn => hn h)]
    rw [e]
    rw [vErr, if_pos h] at hd
    rw [if_pos h] at hd2
    clear e
    generalize vTop key l = t at *
    generalize pDec l = p at *
    obtain ⟨s, n⟩ := p
    obtain ⟨g1, g2, g3, g4⟩ := id hw.e
    dsimp only at g1 g2 g3 g4 hc ⊢
    have hsl := bas_len s
    have hun := underR_v n.key key g1 hk (s.length : Int)
    have hk1 := k1_iff n.k
    have hs256 := hc.1
    refine v_enter Try.func16 rfl (by kernel_rfl) (by show 3 ≤ 70; decide) ?_
    intro N w0 a w hN hR H
    simp only [Pf.av, Nd.av] at hd hd2
    repeat (first | refine wp_seq ?_ | refine wp_block ?_ | refine wp_skip ?_ | refine wp_exit ?_ | ((first | refine v_some 5 tab_ok hN H (by rfl) ct_Ver ?_ | refine v_more tab_ok hN H (by rfl) (by rfl) ct_Ver ?_); clear H; intro a w H; replace H := nf_Ver H; (try simp only [List.drop_succ_cons, List.drop_zero, List.drop_nil]); try refine wpList_nil ?_) | refine wp_region_lit ?_)
    refine v_call [] [] (hd) H rfl rfl (by rfl) cb cw ca ?_; clear H; intro a w H; replace H := nf_Ver H; try refine wpList_nil ?_
    repeat (first | refine wp_seq ?_ | refine wp_block ?_ | refine wp_skip ?_ | refine wp_exit ?_ | ((first | refine v_some 5 tab_ok hN H (by rfl) ct_Ver ?_ | refine v_more tab_ok hN H (by rfl) (by rfl) ct_Ver ?_); clear H; intro a w H; replace H := nf_Ver H; (try simp only [List.drop_succ_cons, List.drop_zero, List.drop_nil]); try refine wpList_nil ?_) | refine wp_region_lit ?_)
    refine v_cond H (by rfl) (fun hb => ?_) (fun hb => ?_)
    · simp at hb
    · clear hb
      repeat (first | refine wp_seq ?_ | refine wp_block ?_ | refine wp_skip ?_ | refine wp_exit ?_ | ((first | refine v_some 5 tab_ok hN H (by rfl) ct_Ver ?_ | refine v_more tab_ok hN H (by rfl) (by rfl) ct_Ver ?_); clear H; intro a w H; replace H := nf_Ver H; (try simp only [List.drop_succ_cons, List.drop_zero, List.drop_nil]); try refine wpList_nil ?_) | refine wp_region_lit ?_)
      refine v_call [] [] (hd2) H rfl rfl (by rfl) cb cw ca ?_; clear H; intro a w H; replace H := nf_Ver H; try refine wpList_nil ?_
      repeat (first | refine wp_seq ?_ | refine wp_block ?_ | refine wp_skip ?_ | refine wp_exit ?_ | ((first | refine v_some 5 tab_ok hN H (by rfl) (by (try simp only [hsl]); first | done | exact ct_Ver) ?_ | refine v_more tab_ok hN H (by rfl) (by rfl) (by (try simp only [hsl]); first | done | exact ct_Ver) ?_); clear H; intro a w H; replace H := nf_Ver H; first | (simp only [hsl] at H; replace H := nf_Ver H) | skip; (try simp only [List.drop_succ_cons, List.drop_zero, List.drop_nil]); try refine wpList_nil ?_) | refine wp_region_lit ?_)
      refine v_callG [] [] (hun) H (by rfl) rfl (by rfl) (by simp [pickB, bxs, ren, idx?, sub_refl, sub, allP, hsl] <;> omega) (by first | rfl | (simp [hsl] <;> omega)) (by first | exact trivial | exact ⟨sub_refl _ _, trivial⟩ | exact ⟨sub_refl _ _, sub_refl _ _, trivial⟩ | exact ⟨sub_refl _ _, sub_refl _ _, sub_refl _ _, trivial⟩ | exact ⟨⟨rfl, sub_refl _ _, trivial⟩, sub_refl _ _, trivial⟩ | (simp [cargs, cargsG, St.ev, St.tmp, find, ren, idx?, sub_refl, sub, allP, resv, resC, bss, hsl] <;> omega)) (by rfl) (by rfl) (by rfl) ?_; clear H; intro a w H; replace H := nf_Ver H; first | (simp only [hsl] at H; replace H := nf_Ver H) | skip; try refine wpList_nil ?_
      repeat (first | refine wp_seq ?_ | refine wp_block ?_ | refine wp_skip ?_ | refine wp_exit ?_ | ((first | refine v_some 5 tab_ok hN H (by rfl) (by (try simp only [hsl]); first | done | exact ct_Ver) ?_ | refine v_more tab_ok hN H (by rfl) (by rfl) (by (try simp only [hsl]); first | done | exact ct_Ver) ?_); clear H; intro a w H; replace H := nf_Ver H; first | (simp only [hsl] at H; replace H := nf_Ver H) | skip; (try simp only [List.drop_succ_cons, List.drop_zero, List.drop_nil]); try refine wpList_nil ?_) | refine wp_region_lit ?_)
      have d1 : decide ((n.k.toNat : Int) = 1) = decide (n.k = 1) := decide_eq_decide.2 hk1
      have e2 : (0 ≤ (s.length : Int) ∧ (s.length : Int) ≤ 256 ∧ (s.length : Int) ≤ (com n.key key : Int)) ↔ s.length ≤ com n.key key := ⟨fun h => by omega, fun h => ⟨by omega, by omega, by omega⟩⟩
      have d2 : decide (0 ≤ (s.length : Int) ∧ (s.length : Int) ≤ 256 ∧ (s.length : Int) ≤ (com n.key key : Int)) = decide (s.length ≤ com n.key key) := decide_eq_decide.2 e2
      have hcond : (bif !decide (t = root) then true else bif bif decide (n.k = 1) then !(bif decide (n.k = 1) then decide (n.key = key) else false) else false then !decide (s.length ≤ com n.key key) else false) = decide (t ≠ root ∨ (n.k = 1 ∧ ¬ s.length ≤ com n.key key)) := by
        by_cases c4 : n.key = key
        · have c3 : s.length ≤ com n.key key := by rw [c4, com_self]; omega
          by_cases c1 : t = root <;> by_cases c2 : n.k = 1 <;> simp [c1, c2, c3, c4] <;> (try (rw [c4] at c3; simp [c3]))
        · by_cases c1 : t = root <;> by_cases c2 : n.k = 1 <;> by_cases c3 : s.length ≤ com n.key key <;> simp [c1, c2, c3, c4]
      simp only [d1, d2] at H
      simp only [hcond] at H
      by_cases c0 : t ≠ root ∨ (n.k = 1 ∧ ¬ s.length ≤ com n.key key)
      · rw [if_pos c0]
        refine v_cond H (by rfl) (fun hb => ?_) (fun hb => ?_)
        · repeat (first | refine wp_seq ?_ | refine wp_block ?_ | refine wp_skip ?_ | refine wp_exit ?_ | ((first | refine v_some 5 tab_ok hN H (by rfl) (by (try simp only [hsl]); first | done | exact ct_Ver) ?_ | refine v_more tab_ok hN H (by rfl) (by rfl) (by (try simp only [hsl]); first | done | exact ct_Ver) ?_); clear H; intro a w H; replace H := nf_Ver H; first | (simp only [hsl] at H; replace H := nf_Ver H) | skip; (try simp only [List.drop_succ_cons, List.drop_zero, List.drop_nil]); try refine wpList_nil ?_) | refine wp_region_lit ?_)
          try simp only [hz] at H
          refine wp_ret ?_
          exact v_end [] [] tab_ok ⟨hN, hR⟩ (rs := [.cell 6 43, .tmp 7]) (ress := [_, _]) rfl H (by rfl) (by rfl) (by simp [pickB, bxs, ren, idx?, sub_refl, sub, allP, hsl] <;> omega) (by first | rfl | (simp [hsl] <;> omega)) (by first | exact trivial | exact ⟨sub_refl _ _, trivial⟩ | exact ⟨sub_refl _ _, sub_refl _ _, trivial⟩ | exact ⟨sub_refl _ _, sub_refl _ _, sub_refl _ _, trivial⟩ | exact ⟨⟨rfl, sub_refl _ _, trivial⟩, sub_refl _ _, trivial⟩ | (simp [cargs, cargsG, St.ev, St.tmp, find, ren, idx?, sub_refl, sub, allP, resv, resC, bss, hsl] <;> omega)) rfl
        · exfalso; rw [decide_eq_true c0] at hb; cases hb
      · rw [if_neg c0]
        refine v_cond H (by rfl) (fun hb => ?_) (fun hb => ?_)
        · exfalso; rw [decide_eq_false c0] at hb; cases hb
        · clear hb
          repeat (first | refine wp_seq ?_ | refine wp_block ?_ | refine wp_skip ?_ | refine wp_exit ?_ | ((first | refine v_some 5 tab_ok hN H (by rfl) (by (try simp only [hsl]); first | done | exact ct_Ver) ?_ | refine v_more tab_ok hN H (by rfl) (by rfl) (by (try simp only [hsl]); first | done | exact ct_Ver) ?_); clear H; intro a w H; replace H := nf_Ver H; first | (simp only [hsl] at H; replace H := nf_Ver H) | skip; (try simp only [List.drop_succ_cons, List.drop_zero, List.drop_nil]); try refine wpList_nil ?_) | refine wp_region_lit ?_)
          by_cases c1 : n.k = 1 ∧ n.key = key
          · rw [if_pos c1]
            refine v_cond H (by rfl) (fun hb => ?_) (fun hb => ?_)
            · repeat (first | refine wp_seq ?_ | refine wp_block ?_ | refine wp_skip ?_ | refine wp_exit ?_ | ((first | refine v_some 5 tab_ok hN H (by rfl) (by (try simp only [hsl]); first | done | exact ct_Ver) ?_ | refine v_more tab_ok hN H (by rfl) (by rfl) (by (try simp only [hsl]); first | done | exact ct_Ver) ?_); clear H; intro a w H; replace H := nf_Ver H; first | (simp only [hsl] at H; replace H := nf_Ver H) | skip; (try simp only [List.drop_succ_cons, List.drop_zero, List.drop_nil]); try refine wpList_nil ?_) | refine wp_region_lit ?_)
              refine wp_ret ?_
              exact v_end [] [] tab_ok ⟨hN, hR⟩ (rs := [.cell 6 43, .tmp 7]) (ress := [_, _]) rfl H (by rfl) (by rfl) (by simp [pickB, bxs, ren, idx?, sub_refl, sub, allP, hsl] <;> omega) (by first | rfl | (simp [hsl] <;> omega)) (by first | exact trivial | exact ⟨sub_refl _ _, trivial⟩ | exact ⟨sub_refl _ _, sub_refl _ _, trivial⟩ | exact ⟨sub_refl _ _, sub_refl _ _, sub_refl _ _, trivial⟩ | exact ⟨⟨rfl, sub_refl _ _, trivial⟩, sub_refl _ _, trivial⟩ | (simp [cargs, cargsG, St.ev, St.tmp, find, ren, idx?, sub_refl, sub, allP, resv, resC, bss, hsl] <;> omega)) rfl
            · exfalso; rw [decide_eq_true c1.1, decide_eq_true c1.2] at hb; cases hb
          · rw [if_neg c1]
            refine v_cond H (by rfl) (fun hb => ?_) (fun hb => ?_)
            · exfalso
              by_cases c2 : n.k = 1
              · by_cases c3 : n.key = key
                · exact c1 ⟨c2, c3⟩
                · rw [decide_eq_false c3] at hb; simp at hb
              · rw [decide_eq_false c2] at hb; simp at hb
            · repeat (first | refine wp_seq ?_ | refine wp_block ?_ | refine wp_skip ?_ | refine wp_exit ?_ | ((first | refine v_some 5 tab_ok hN H (by rfl) (by (try simp only [hsl]); first | done | exact ct_Ver) ?_ | refine v_more tab_ok hN H (by rfl) (by rfl) (by (try simp only [hsl]); first | done | exact ct_Ver) ?_); clear H; intro a w H; replace H := nf_Ver H; first | (simp only [hsl] at H; replace H := nf_Ver H) | skip; (try simp only [List.drop_succ_cons, List.drop_zero, List.drop_nil]); try refine wpList_nil ?_) | refine wp_region_lit ?_)
              try simp only [hz] at H
              refine wp_ret ?_
              exact v_end [] [] tab_ok ⟨hN, hR⟩ (rs := [.cell 6 43, .tmp 7]) (ress := [_, _]) rfl H (by rfl) (by rfl) (by simp [pickB, bxs, ren, idx?, sub_refl, sub, allP, hsl] <;> omega) (by first | rfl | (simp [hsl] <;> omega)) (by first | exact trivial | exact ⟨sub_refl _ _, trivial⟩ | exact ⟨sub_refl _ _, sub_refl _ _, trivial⟩ | exact ⟨sub_refl _ _, sub_refl _ _, sub_refl _ _, trivial⟩ | exact ⟨⟨rfl, sub_refl _ _, trivial⟩, sub_refl _ _, trivial⟩ | (simp [cargs, cargsG, St.ev, St.tmp, find, ren, idx?, sub_refl, sub, allP, resv, resC, bss, hsl] <;> omega)) rfl
  · have e : vRd root key l = (false, z32, 10) := by rw [vRd, if_pos h]
    rw [e]
    rw [vErr, if_neg h] at hd
    clear e
    generalize vTop key l = t at *
    refine v_enter Try.func16 rfl (by kernel_rfl) (by show 3 ≤ 70; decide) ?_
    intro N w0 a w hN hR H
    repeat (first | refine wp_seq ?_ | refine wp_block ?_ | refine wp_skip ?_ | refine wp_exit ?_ | ((first | refine v_some 5 tab_ok hN H (by rfl) ct_Ver ?_ | refine v_more tab_ok hN H (by rfl) (by rfl) ct_Ver ?_); clear H; intro a w H; replace H := nf_Ver H; (try simp only [List.drop_succ_cons, List.drop_zero, List.drop_nil]); try refine wpList_nil ?_) | refine wp_region_lit ?_)
    refine v_call [] [] (hd) H rfl rfl (by rfl) cb cw ca ?_; clear H; intro a w H; replace H := nf_Ver H; try refine wpList_nil ?_
    repeat (first | refine wp_seq ?_ | refine wp_block ?_ | refine wp_skip ?_ | refine wp_exit ?_ | ((first | refine v_some 5 tab_ok hN H (by rfl) ct_Ver ?_ | refine v_more tab_ok hN H (by rfl) (by rfl) ct_Ver ?_); clear H; intro a w H; replace H := nf_Ver H; (try simp only [List.drop_succ_cons, List.drop_zero, List.drop_nil]); try refine wpList_nil ?_) | refine wp_region_lit ?_)
    refine v_cond H (by rfl) (fun hb => ?_) (fun hb => ?_)
    · repeat (first | refine wp_seq ?_ | refine wp_block ?_ | refine wp_skip ?_ | refine wp_exit ?_ | ((first | refine v_some 5 tab_ok hN H (by rfl) ct_Ver ?_ | refine v_more tab_ok hN H (by rfl) (by rfl) ct_Ver ?_); clear H; intro a w H; replace H := nf_Ver H; (try simp only [List.drop_succ_cons, List.drop_zero, List.drop_nil]); try refine wpList_nil ?_) | refine wp_region_lit ?_)
      try simp only [hz] at H
      refine wp_ret ?_
      exact v_end [] [] tab_ok ⟨hN, hR⟩ (rs := [.cell 6 43, .tmp 7]) (ress := [_, _]) rfl H (by rfl) (by rfl) cb cw ca rfl
    · simp at hb
def valH (v : List UInt8) : List UInt8 := sum (3 :: v)
theorem valH_len (v : List UInt8) : (valH v).length = 32 := sum_length _
theorem value_v (v : List UInt8) (hv : v.length ≤ 34359730000) : VC Try.prog 40 [.bs v none] [] (.ba (valH v)) := by
  have h := of_v 3 [v] (by simp; omega) (by simp)
  have e : [v].flatten = v := by simp
  rw [e] at h
  have hsl := sum_length (3 :: v)
  unfold valH
  refine v_enter Try.func40 rfl (by kernel_rfl) (by show 1 ≤ 6; decide) ?_
  intro N w0 a w hN hR H
  repeat (first | refine wp_seq ?_ | refine wp_block ?_ | refine wp_skip ?_ | refine wp_exit ?_ | ((first | refine v_some 5 tab_ok hN H (by rfl) ct_Ver ?_ | refine v_more tab_ok hN H (by rfl) (by rfl) ct_Ver ?_); clear H; intro a w H; replace H := nf_Ver H; (try simp only [List.drop_succ_cons, List.drop_zero, List.drop_nil]); try refine wpList_nil ?_) | refine wp_region_lit ?_)
  refine v_call [] [] (h) H rfl rfl (by rfl) cb cw ca ?_; clear H; intro a w H; replace H := nf_Ver H; try refine wpList_nil ?_
  repeat (first | refine wp_seq ?_ | refine wp_block ?_ | refine wp_skip ?_ | refine wp_exit ?_ | ((first | refine v_some 5 tab_ok hN H (by rfl) ct_Ver ?_ | refine v_more tab_ok hN H (by rfl) (by rfl) ct_Ver ?_); clear H; intro a w H; replace H := nf_Ver H; (try simp only [List.drop_succ_cons, List.drop_zero, List.drop_nil]); try refine wpList_nil ?_) | refine wp_region_lit ?_)
  refine wp_ret ?_
  exact v_end [] [] tab_ok ⟨hN, hR⟩ (rs := [.cell 2 30]) (ress := [_]) rfl H (by rfl) (by rfl) cb cw ca rfl
theorem valueR_v (v : List UInt8) (hv : v.length ≤ 34359730000) : VC Try.prog 41 [.bs v none] [] (.ba (valH v)) := by
  have h := ofHR_v 3 [v] (by simp; omega) (by simp)
  have e : [v].flatten = v := by simp
  rw [e] at h
  have hsl := sum_length (3 :: v)
  unfold valH
  refine v_enter Try.func41 rfl (by kernel_rfl) (by show 1 ≤ 6; decide) ?_
  intro N w0 a w hN hR H
  repeat (first | refine wp_seq ?_ | refine wp_block ?_ | refine wp_skip ?_ | refine wp_exit ?_ | ((first | refine v_some 5 tab_ok hN H (by rfl) ct_Ver ?_ | refine v_more tab_ok hN H (by rfl) (by rfl) ct_Ver ?_); clear H; intro a w H; replace H := nf_Ver H; (try simp only [List.drop_succ_cons, List.drop_zero, List.drop_nil]); try refine wpList_nil ?_) | refine wp_region_lit ?_)
  refine v_call [] [] (h) H rfl rfl (by rfl) cb cw ca ?_; clear H; intro a w H; replace H := nf_Ver H; try refine wpList_nil ?_
  repeat (first | refine wp_seq ?_ | refine wp_block ?_ | refine wp_skip ?_ | refine wp_exit ?_ | ((first | refine v_some 5 tab_ok hN H (by rfl) ct_Ver ?_ | refine v_more tab_ok hN H (by rfl) (by rfl) ct_Ver ?_); clear H; intro a w H; replace H := nf_Ver H; (try simp only [List.drop_succ_cons, List.drop_zero, List.drop_nil]); try refine wpList_nil ?_) | refine wp_region_lit ?_)
  refine wp_ret ?_
  exact v_end [] [] tab_ok ⟨hN, hR⟩ (rs := [.cell 2 22]) (ress := [_]) rfl H (by rfl) (by rfl) cb cw ca rfl
def vPres (root key v l : List UInt8) : Bool := decide (v.length ≤ 1024) && (decide ((vRd root key l).2.2 = 0) && ((vRd root key l).1 && decide ((vRd root key l).2.1 = valH v)))
def vAbs (root key l : List UInt8) : Bool := decide ((vRd root key l).2.2 = 0) && !(vRd root key l).1
theorem vAbs_v (root key l : List UInt8) (hr : root.length = 32) (hk : key.length = 32) (hl : l.length ≤ 34359730000) : VC Try.prog 19 [.ba root, .ba key, .bs l none] [] (.v (.bool (vAbs root key l))) := by
  have hd := vRead_v root key l hr hk hl
  have hl2 := vRd_len root key l
  unfold vAbs
  generalize vRd root key l = x at *
  obtain ⟨b, v, e⟩ := x
  dsimp only at *
  refine v_enter Try.func19 rfl (by kernel_rfl) (by show 3 ≤ 23; decide) ?_
  intro N w0 a w hN hR H
  repeat (first | refine wp_seq ?_ | refine wp_block ?_ | refine wp_skip ?_ | refine wp_exit ?_ | ((first | refine v_some 5 tab_ok hN H (by rfl) ct_Ver ?_ | refine v_more tab_ok hN H (by rfl) (by rfl) ct_Ver ?_); clear H; intro a w H; replace H := nf_Ver H; (try simp only [List.drop_succ_cons, List.drop_zero, List.drop_nil]); try refine wpList_nil ?_) | refine wp_region_lit ?_)
  refine v_call [] [] (hd) H rfl rfl (by rfl) cb cw ca ?_; clear H; intro a w H; replace H := nf_Ver H; try refine wpList_nil ?_
  repeat (first | refine wp_seq ?_ | refine wp_block ?_ | refine wp_skip ?_ | refine wp_exit ?_ | ((first | refine v_some 5 tab_ok hN H (by rfl) ct_Ver ?_ | refine v_more tab_ok hN H (by rfl) (by rfl) ct_Ver ?_); clear H; intro a w H; replace H := nf_Ver H; (try simp only [List.drop_succ_cons, List.drop_zero, List.drop_nil]); try refine wpList_nil ?_) | refine wp_region_lit ?_)
  have eb : (decide (e = 0) && !b) = (bif decide (e = 0) then !b else false) := by cases decide (e = 0) <;> rfl
  rw [eb]
  refine wp_ret ?_
  exact v_end [] [] tab_ok ⟨hN, hR⟩ (rs := [.tmp 6]) (ress := [_]) rfl H (by rfl) (by rfl) cb cw ca rfl
theorem vAbsR_v (root key l : List UInt8) (hr : root.length = 32) (hk : key.length = 32) (hl : l.length ≤ 34359730000) : VC Try.prog 20 [.ba root, .ba key, .bs l none] [] (.v (.bool (vAbs root key l))) := by
  have hd := vReadR_v root key l hr hk hl
  have hl2 := vRd_len root key l
  unfold vAbs
  generalize vRd root key l = x at *
  obtain ⟨b, v, e⟩ := x
  dsimp only at *
  refine v_enter Try.func20 rfl (by kernel_rfl) (by show 3 ≤ 23; decide) ?_
  intro N w0 a w hN hR H
  repeat (first | refine wp_seq ?_ | refine wp_block ?_ | refine wp_skip ?_ | refine wp_exit ?_ | ((first | refine v_some 5 tab_ok hN H (by rfl) ct_Ver ?_ | refine v_more tab_ok hN H (by rfl) (by rfl) ct_Ver ?_); clear H; intro a w H; replace H := nf_Ver H; (try simp only [List.drop_succ_cons, List.drop_zero, List.drop_nil]); try refine wpList_nil ?_) | refine wp_region_lit ?_)
  refine v_call [] [] (hd) H rfl rfl (by rfl) cb cw ca ?_; clear H; intro a w H; replace H := nf_Ver H; try refine wpList_nil ?_
  repeat (first | refine wp_seq ?_ | refine wp_block ?_ | refine wp_skip ?_ | refine wp_exit ?_ | ((first | refine v_some 5 tab_ok hN H (by rfl) ct_Ver ?_ | refine v_more tab_ok hN H (by rfl) (by rfl) ct_Ver ?_); clear H; intro a w H; replace H := nf_Ver H; (try simp only [List.drop_succ_cons, List.drop_zero, List.drop_nil]); try refine wpList_nil ?_) | refine wp_region_lit ?_)
  have eb : (decide (e = 0) && !b) = (bif decide (e = 0) then !b else false) := by cases decide (e = 0) <;> rfl
  rw [eb]
  refine wp_ret ?_
  exact v_end [] [] tab_ok ⟨hN, hR⟩ (rs := [.tmp 6]) (ress := [_]) rfl H (by rfl) (by rfl) cb cw ca rfl
set_option maxRecDepth 20000 in
theorem vPres_v (root key v l : List UInt8) (hr : root.length = 32) (hk : key.length = 32) (hv : v.length ≤ 34359730000) (hl : l.length ≤ 34359730000) : VC Try.prog 17 [.ba root, .ba key, .bs v none, .bs l none] [] (.v (.bool (vPres root key v l))) := by
  have hd := vRead_v root key l hr hk hl
  have hl2 := vRd_len root key l
  have hvv := value_v v hv
  have hvl := valH_len v
  unfold vPres
  generalize vRd root key l = x at *
  generalize valH v = y at *
  obtain ⟨b, z, e⟩ := x
  dsimp only at *
  refine v_enter Try.func17 rfl (by kernel_rfl) (by show 4 ≤ 30; decide) ?_
  intro N w0 a w hN hR H
  repeat (first | refine wp_seq ?_ | refine wp_block ?_ | refine wp_skip ?_ | refine wp_exit ?_ | ((first | refine v_some 5 tab_ok hN H (by rfl) ct_Ver ?_ | refine v_more tab_ok hN H (by rfl) (by rfl) ct_Ver ?_); clear H; intro a w H; replace H := nf_Ver H; (try simp only [List.drop_succ_cons, List.drop_zero, List.drop_nil]); try refine wpList_nil ?_) | refine wp_region_lit ?_)
  by_cases h1 : v.length ≤ 1024
  · rw [decide_eq_true h1, Bool.true_and]
    refine v_cond H (by rfl) (fun hb => ?_) (fun hb => ?_)
    · exfalso; rw [decide_eq_true_eq] at hb; omega
    · clear hb
      repeat (first | refine wp_seq ?_ | refine wp_block ?_ | refine wp_skip ?_ | refine wp_exit ?_ | ((first | refine v_some 5 tab_ok hN H (by rfl) ct_Ver ?_ | refine v_more tab_ok hN H (by rfl) (by rfl) ct_Ver ?_); clear H; intro a w H; replace H := nf_Ver H; (try simp only [List.drop_succ_cons, List.drop_zero, List.drop_nil]); try refine wpList_nil ?_) | refine wp_region_lit ?_)
      refine v_call [] [] (hd) H rfl rfl (by rfl) cb cw ca ?_; clear H; intro a w H; replace H := nf_Ver H; try refine wpList_nil ?_
      repeat (first | refine wp_seq ?_ | refine wp_block ?_ | refine wp_skip ?_ | refine wp_exit ?_ | ((first | refine v_some 5 tab_ok hN H (by rfl) ct_Ver ?_ | refine v_more tab_ok hN H (by rfl) (by rfl) ct_Ver ?_); clear H; intro a w H; replace H := nf_Ver H; (try simp only [List.drop_succ_cons, List.drop_zero, List.drop_nil]); try refine wpList_nil ?_) | refine wp_region_lit ?_)
      repeat (first | refine wp_seq ?_ | refine wp_block ?_)
      refine v_draw 3 [5] [3] (by kernel_rfl) (by kernel_rfl) H (by rfl) (fun gS H => ?_); try replace H := nt_Ver H
      repeat (refine v_someT 5 tab_ok hN H (by rfl) ct_Ver ?_; clear H; intro a w H; replace H := nt_Ver H; simp only [List.drop_succ_cons, List.drop_zero, List.drop_nil])
      refine v_moreT tab_ok hN H (by rfl) ct_Ver ?_; clear H; intro a w H; try replace H := nt_Ver H
      refine v_callTG [] [] (hvv) H (by rfl) (by rfl) (by rfl) rfl (by rfl) cb cw ca (by rfl) (by rfl) (by rfl) ?_; clear H; intro a w H; try replace H := nt_Ver H
      repeat (refine v_someT 5 tab_ok hN H (by rfl) ct_Ver ?_; clear H; intro a w H; replace H := nt_Ver H; simp only [List.drop_succ_cons, List.drop_zero, List.drop_nil])
      refine v_moreT tab_ok hN H (by rfl) ct_Ver ?_; clear H; intro a w H; try replace H := nt_Ver H
      refine v_drawNil H (fun H => ?_)
      have eb : (decide (e = 0) && (b && decide (z = y))) = (bif decide (e = 0) then (b && decide (z = y)) else false) := by cases decide (e = 0) <;> rfl
      rw [eb]
      trace_state
      refine wp_ret ?_
      exact v_end [] [] tab_ok ⟨hN, hR⟩ (rs := [.tmp 8]) (ress := [_]) rfl H (by rfl) (by rfl) cb cw ca rfl
  · rw [decide_eq_false h1, Bool.false_and]
    refine v_cond H (by rfl) (fun hb => ?_) (fun hb => ?_)
    · repeat (first | refine wp_seq ?_ | refine wp_block ?_ | refine wp_skip ?_ | refine wp_exit ?_ | ((first | refine v_some 5 tab_ok hN H (by rfl) ct_Ver ?_ | refine v_more tab_ok hN H (by rfl) (by rfl) ct_Ver ?_); clear H; intro a w H; replace H := nf_Ver H; (try simp only [List.drop_succ_cons, List.drop_zero, List.drop_nil]); try refine wpList_nil ?_) | refine wp_region_lit ?_)
      refine wp_ret ?_
      exact v_end [] [] tab_ok ⟨hN, hR⟩ (rs := [.tmp 8]) (ress := [_]) rfl H (by rfl) (by rfl) cb cw ca rfl
    · exfalso; rw [decide_eq_false_iff_not] at hb; omega
set_option maxRecDepth 20000 in
theorem vPresR_v (root key v l : List UInt8) (hr : root.length = 32) (hk : key.length = 32) (hv : v.length ≤ 34359730000) (hl : l.length ≤ 34359730000) : VC Try.prog 18 [.ba root, .ba key, .bs v none, .bs l none] [] (.v (.bool (vPres root key v l))) := by
  have hd := vReadR_v root key l hr hk hl
  have hl2 := vRd_len root key l
  have hvv := valueR_v v hv
  have hvl := valH_len v
  unfold vPres
  generalize vRd root key l = x at *
  generalize valH v = y at *
  obtain ⟨b, z, e⟩ := x
  dsimp only at *
  refine v_enter Try.func18 rfl (by kernel_rfl) (by show 4 ≤ 36; decide) ?_
  intro N w0 a w hN hR H
  repeat (first | refine wp_seq ?_ | refine wp_block ?_ | refine wp_skip ?_ | refine wp_exit ?_ | ((first | refine v_some 5 tab_ok hN H (by rfl) ct_Ver ?_ | refine v_more tab_ok hN H (by rfl) (by rfl) ct_Ver ?_); clear H; intro a w H; replace H := nf_Ver H; (try simp only [List.drop_succ_cons, List.drop_zero, List.drop_nil]); try refine wpList_nil ?_) | refine wp_region_lit ?_)
  refine v_call [] [] (hd) H rfl rfl (by rfl) cb cw ca ?_; clear H; intro a w H; replace H := nf_Ver H; try refine wpList_nil ?_
  repeat (first | refine wp_seq ?_ | refine wp_block ?_ | refine wp_skip ?_ | refine wp_exit ?_ | ((first | refine v_some 5 tab_ok hN H (by rfl) ct_Ver ?_ | refine v_more tab_ok hN H (by rfl) (by rfl) ct_Ver ?_); clear H; intro a w H; replace H := nf_Ver H; (try simp only [List.drop_succ_cons, List.drop_zero, List.drop_nil]); try refine wpList_nil ?_) | refine wp_region_lit ?_)
  repeat (first | refine wp_seq ?_ | refine wp_block ?_)
  refine v_draw 3 [15] [12, 13] (by kernel_rfl) (by kernel_rfl) H (by rfl) (fun gS H => ?_); try replace H := nt_Ver H
  repeat (refine v_someT 5 tab_ok hN H (by rfl) ct_Ver ?_; clear H; intro a w H; replace H := nt_Ver H; simp only [List.drop_succ_cons, List.drop_zero, List.drop_nil])
  refine v_moreT tab_ok hN H (by rfl) ct_Ver ?_; clear H; intro a w H; try replace H := nt_Ver H
  refine v_callTG [] [] (hvv) H (by rfl) (by rfl) (by rfl) rfl (by rfl) cb cw ca (by rfl) (by rfl) (by rfl) ?_; clear H; intro a w H; try replace H := nt_Ver H
  repeat (refine v_someT 5 tab_ok hN H (by rfl) ct_Ver ?_; clear H; intro a w H; replace H := nt_Ver H; simp only [List.drop_succ_cons, List.drop_zero, List.drop_nil])
  refine v_moreT tab_ok hN H (by rfl) ct_Ver ?_; clear H; intro a w H; try replace H := nt_Ver H
  refine v_drawNil H (fun H => ?_)
  have eb : (decide (v.length ≤ 1024) && (decide (e = 0) && (b && decide (z = y)))) = (bif bif bif decide (e = 0) then b else false then decide ((v.length : Int) ≤ 1024) else false then decide (z = y) else false) := by
    have d : decide ((v.length : Int) ≤ 1024) = decide (v.length ≤ 1024) := decide_eq_decide.2 ⟨fun h => by omega, fun h => by omega⟩
    rw [d]
    cases decide (e = 0) <;> cases decide (v.length ≤ 1024) <;> cases b <;> simp
  rw [eb]
  refine wp_ret ?_
  exact v_end [] [] tab_ok ⟨hN, hR⟩ (rs := [.tmp 8]) (ress := [_]) rfl H (by rfl) (by rfl) cb cw ca rfl
end Go.Proofs.Ytlagngkafllbiaa
