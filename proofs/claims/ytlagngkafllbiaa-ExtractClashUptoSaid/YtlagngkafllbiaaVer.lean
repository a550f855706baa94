/- Proofs as bytes: the document's. -/
import Derived.Test.YtlagngkafllbiaaUp
import Derived.Test.YtlagngkafllbiaaPack
import Derived.Test.YtlagngkafllbiaaLent
import Derived.Test.YtlagngkafllbiaaDigest
set_option linter.unusedSimpArgs false
set_option linter.unusedVariables false
namespace Go.Proofs.Ytlagngkafllbiaa
open Go Go.RowKit
/-- The state made plain. -/
theorem nf_Ref17 {P : Program} {w0 w : World} {N : Gh} {nt : Nat} {st s2 : St} {a : Act} (H : Rel P w0 N nt st a w) (h : st = s2 := by (try simp only [pk, elemB, St.put, St.ev, St.tmp, St.keep, find, dropT, slots, AV.put, AV.loc, fitI, convI, IntKind.signed, IntKind.bits, strip, St.lose, mergeL, setAll, nth, renB, ren, idx?, sub, allP, low, bnd, Int.reduceEq, Nat.reduceAdd, Nat.reduceLT, reduceIte, reduceCtorEq, Nat.reduceEqDiff, Nat.reduceLeDiff, Nat.reduceBEq, Int.reducePow, Int.reduceToNat, ti24_t, ti24_z, ti5_t, ti5_z, ti30_t, ti30_z, ti62_t, ti62_z, ti64_t, ti64_z, ti41_t, ti41_z, ti26_t, ti26_z, ti22_t, ti22_z]); rfl) : Rel P w0 N nt s2 a w := h ▸ H
theorem nt_Ref17 {P : Program} {w0 w : World} {N gS : Gh} {nt : Nat} {q q2 st s2 : St} {a : Act} (H : RelT P w0 N nt gS q st a w) (h1 : q = q2 := by (try simp only [pk, elemB, St.put, St.ev, St.tmp, St.keep, find, dropT, slots, AV.put, AV.loc, fitI, convI, IntKind.signed, IntKind.bits, strip, St.lose, mergeL, setAll, nth, renB, ren, idx?, sub, allP, low, bnd, Int.reduceEq, Nat.reduceAdd, Nat.reduceLT, reduceIte, reduceCtorEq, Nat.reduceEqDiff, Nat.reduceLeDiff, Nat.reduceBEq, Int.reducePow, Int.reduceToNat, ti24_t, ti24_z, ti5_t, ti5_z, ti30_t, ti30_z, ti62_t, ti62_z, ti64_t, ti64_z, ti41_t, ti41_z, ti26_t, ti26_z, ti22_t, ti22_z]); rfl) (h : st = s2 := by (try simp only [pk, elemB, St.put, St.ev, St.tmp, St.keep, find, dropT, slots, AV.put, AV.loc, fitI, convI, IntKind.signed, IntKind.bits, strip, St.lose, mergeL, setAll, nth, renB, ren, idx?, sub, allP, low, bnd, Int.reduceEq, Nat.reduceAdd, Nat.reduceLT, reduceIte, reduceCtorEq, Nat.reduceEqDiff, Nat.reduceLeDiff, Nat.reduceBEq, Int.reducePow, Int.reduceToNat, ti24_t, ti24_z, ti5_t, ti5_z, ti30_t, ti30_z, ti62_t, ti62_z, ti64_t, ti64_z, ti41_t, ti41_z, ti26_t, ti26_z, ti22_t, ti22_z]); rfl) : RelT P w0 N nt gS q2 s2 a w := h1 ▸ h ▸ H
theorem ct_Ref17 {c : Prop} (h : c := by ((try simp only [pk, elemB, St.put, St.ev, St.tmp, St.keep, find, dropT, slots, AV.put, AV.loc, fitI, convI, IntKind.signed, IntKind.bits, strip, St.lose, mergeL, setAll, nth, renB, ren, idx?, sub, allP, low, bnd, Int.reduceEq, Nat.reduceAdd, Nat.reduceLT, reduceIte, reduceCtorEq, Nat.reduceEqDiff, Nat.reduceLeDiff, Nat.reduceBEq, Int.reducePow, Int.reduceToNat, ti24_t, ti24_z, ti5_t, ti5_z, ti30_t, ti30_z, ti62_t, ti62_z, ti64_t, ti64_z, ti41_t, ti41_z, ti26_t, ti26_z, ti22_t, ti22_z, ti24, ti5, ti30, ti62, ti64, ti41, ti26, ti22, fit, gcond, ilo, ihi]); first | done | exact cd | exact cd2 | skip)) : c := h
set_option maxHeartbeats 1000000 in
theorem pcheckR_v (p : Pf) (hw : p.wf) : VC Try.prog 90 [p.av] [] (.v (.int .i64 p.chk)) := by
  obtain ⟨s, n⟩ := p
  have hsl := bas_len s
  have hc := checkR_v n hw.e
  obtain ⟨h1, h2, h3, h4⟩ := id hw.e
  have hk2 : ((n.k.toNat : Int) = 2) ↔ n.k = 2 := ⟨fun h => UInt8.toNat_inj.1 (by simp; omega), fun h => by rw [h]; rfl⟩
  dsimp only at hc h1 h2 h3 h4 hk2
  refine v_enter Try.func90 rfl (by kernel_rfl) (by show 1 ≤ 17; decide) ?_
  intro N w0 a w hN hR H
  simp only [Pf.av, Nd.av] at H hc
  repeat (first | refine wp_seq ?_ | refine wp_block ?_ | refine wp_skip ?_ | refine wp_exit ?_ | ((first | refine v_some 5 tab_ok hN H (by rfl) ct_Ref17 ?_ | refine v_more tab_ok hN H (by rfl) (by rfl) ct_Ref17 ?_); clear H; intro a w H; replace H := nf_Ref17 H; (try simp only [List.drop_succ_cons, List.drop_zero, List.drop_nil]); try refine wpList_nil ?_) | refine wp_region_lit ?_)
  refine v_cond H (by rfl) (fun hb => ?_) (fun hb => ?_)
  · have hb : 256 < s.length := by simp at hb; omega
    simp only [Pf.chk, if_pos hb]
    repeat (first | refine wp_seq ?_ | refine wp_block ?_ | refine wp_skip ?_ | refine wp_exit ?_ | ((first | refine v_some 5 tab_ok hN H (by rfl) ct_Ref17 ?_ | refine v_more tab_ok hN H (by rfl) (by rfl) ct_Ref17 ?_); clear H; intro a w H; replace H := nf_Ref17 H; (try simp only [List.drop_succ_cons, List.drop_zero, List.drop_nil]); try refine wpList_nil ?_) | refine wp_region_lit ?_)
    refine wp_ret ?_
    exact v_end [] [] tab_ok ⟨hN, hR⟩ (rs := [.tmp 2]) (ress := [_]) rfl H (by rfl) (by rfl) cb cw ca rfl
  · have hb : ¬ 256 < s.length := by simp at hb; omega
    simp only [Pf.chk, if_neg hb]
    by_cases ho : n.ok
    · rw [if_pos ho] at hc
      repeat (first | refine wp_seq ?_ | refine wp_block ?_ | refine wp_skip ?_ | refine wp_exit ?_ | ((first | refine v_some 5 tab_ok hN H (by rfl) ct_Ref17 ?_ | refine v_more tab_ok hN H (by rfl) (by rfl) ct_Ref17 ?_); clear H; intro a w H; replace H := nf_Ref17 H; (try simp only [List.drop_succ_cons, List.drop_zero, List.drop_nil]); try refine wpList_nil ?_) | refine wp_region_lit ?_)
      refine v_call [] [] (hc) H rfl rfl (by rfl) cb cw ca ?_; clear H; intro a w H; replace H := nf_Ref17 H; try refine wpList_nil ?_
      repeat (first | refine wp_seq ?_ | refine wp_block ?_ | refine wp_skip ?_ | refine wp_exit ?_ | ((first | refine v_some 5 tab_ok hN H (by rfl) ct_Ref17 ?_ | refine v_more tab_ok hN H (by rfl) (by rfl) ct_Ref17 ?_); clear H; intro a w H; replace H := nf_Ref17 H; (try simp only [List.drop_succ_cons, List.drop_zero, List.drop_nil]); try refine wpList_nil ?_) | refine wp_region_lit ?_)
      refine v_cond H (by rfl) (fun hb => ?_) (fun hb => ?_)
      · have hb : n.k = 2 := hk2.1 (by simpa using hb)
        rw [if_neg (fun h => h.2 hb)]
        repeat (first | refine wp_seq ?_ | refine wp_block ?_ | refine wp_skip ?_ | refine wp_exit ?_ | ((first | refine v_some 5 tab_ok hN H (by rfl) ct_Ref17 ?_ | refine v_more tab_ok hN H (by rfl) (by rfl) ct_Ref17 ?_); clear H; intro a w H; replace H := nf_Ref17 H; (try simp only [List.drop_succ_cons, List.drop_zero, List.drop_nil]); try refine wpList_nil ?_) | refine wp_region_lit ?_)
        refine wp_ret ?_
        exact v_end [] [] tab_ok ⟨hN, hR⟩ (rs := [.tmp 2]) (ress := [_]) rfl H (by rfl) (by rfl) cb cw ca rfl
      · have hb : ¬ n.k = 2 := fun e => by rw [hk2.2 e] at hb; simp at hb
        rw [if_pos ⟨ho, hb⟩]
        repeat (first | refine wp_seq ?_ | refine wp_block ?_ | refine wp_skip ?_ | refine wp_exit ?_ | ((first | refine v_some 5 tab_ok hN H (by rfl) ct_Ref17 ?_ | refine v_more tab_ok hN H (by rfl) (by rfl) ct_Ref17 ?_); clear H; intro a w H; replace H := nf_Ref17 H; (try simp only [List.drop_succ_cons, List.drop_zero, List.drop_nil]); try refine wpList_nil ?_) | refine wp_region_lit ?_)
        refine wp_ret ?_
        exact v_end [] [] tab_ok ⟨hN, hR⟩ (rs := [.tmp 2]) (ress := [_]) rfl H (by rfl) (by rfl) cb cw ca rfl
    · rw [if_neg ho] at hc
      repeat (first | refine wp_seq ?_ | refine wp_block ?_ | refine wp_skip ?_ | refine wp_exit ?_ | ((first | refine v_some 5 tab_ok hN H (by rfl) ct_Ref17 ?_ | refine v_more tab_ok hN H (by rfl) (by rfl) ct_Ref17 ?_); clear H; intro a w H; replace H := nf_Ref17 H; (try simp only [List.drop_succ_cons, List.drop_zero, List.drop_nil]); try refine wpList_nil ?_) | refine wp_region_lit ?_)
      refine v_call [] [] (hc) H rfl rfl (by rfl) cb cw ca ?_; clear H; intro a w H; replace H := nf_Ref17 H; try refine wpList_nil ?_
      repeat (first | refine wp_seq ?_ | refine wp_block ?_ | refine wp_skip ?_ | refine wp_exit ?_ | ((first | refine v_some 5 tab_ok hN H (by rfl) ct_Ref17 ?_ | refine v_more tab_ok hN H (by rfl) (by rfl) ct_Ref17 ?_); clear H; intro a w H; replace H := nf_Ref17 H; (try simp only [List.drop_succ_cons, List.drop_zero, List.drop_nil]); try refine wpList_nil ?_) | refine wp_region_lit ?_)
      refine v_cond H (by rfl) (fun hb => ?_) (fun hb => ?_)
      · rw [if_neg (fun h => ho h.1)]
        repeat (first | refine wp_seq ?_ | refine wp_block ?_ | refine wp_skip ?_ | refine wp_exit ?_ | ((first | refine v_some 5 tab_ok hN H (by rfl) ct_Ref17 ?_ | refine v_more tab_ok hN H (by rfl) (by rfl) ct_Ref17 ?_); clear H; intro a w H; replace H := nf_Ref17 H; (try simp only [List.drop_succ_cons, List.drop_zero, List.drop_nil]); try refine wpList_nil ?_) | refine wp_region_lit ?_)
        refine wp_ret ?_
        exact v_end [] [] tab_ok ⟨hN, hR⟩ (rs := [.tmp 2]) (ress := [_]) rfl H (by rfl) (by rfl) cb cw ca rfl
      · simp at hb
/-- A number out of its first bits. -/
def upB (f : Nat → Bool) : Nat → Nat
  | 0 => 0
  | k + 1 => 2 * upB f k + (if f k then 1 else 0)
theorem upB_lt (f : Nat → Bool) : ∀ k, upB f k < 2 ^ k
  | 0 => by simp [upB]
  | k + 1 => by
    have := upB_lt f k
    simp only [upB, Nat.pow_succ]
    split <;> omega
set_option maxRecDepth 100000 in
theorem b8x_up : ∀ x0 x1 x2 x3 x4 x5 x6 x7 : Bool, (b8x x0 x1 x2 x3 x4 x5 x6 x7).toNat = 2 * (2 * (2 * (2 * (2 * (2 * (2 * (2 * 0 + (if x0 then 1 else 0)) + (if x1 then 1 else 0)) + (if x2 then 1 else 0)) + (if x3 then 1 else 0)) + (if x4 then 1 else 0)) + (if x5 then 1 else 0)) + (if x6 then 1 else 0)) + (if x7 then 1 else 0) := by decide +kernel
theorem b8_up (f : Nat → Bool) : UInt8.ofNat (upB f 8) = b8 f := by
  apply UInt8.toNat_inj.1
  have h := upB_lt f 8
  rw [UInt8.toNat_ofNat', Nat.mod_eq_of_lt h, b8_x, b8x_up]
  rfl
/-- The marks of the first 8 m sides. -/
def marksB (s : List (List UInt8)) (m : Nat) : List UInt8 := (List.range m).map fun j => b8 fun k => hidesB s (8 * j + k)
theorem marksB_next (s : List (List UInt8)) (m : Nat) : marksB s (m + 1) = marksB s m ++ [b8 fun k => hidesB s (8 * m + k)] := by
  unfold marksB; rw [List.range_succ, List.map_append]; rfl
theorem marksB_len (s : List (List UInt8)) (m : Nat) : (marksB s m).length = m := by simp [marksB]
theorem hides_lt (s : List (List UInt8)) (t : Nat) (h : t < s.length) : hidesB s t = (s.getD t [] != E0) := by
  unfold hidesB; rw [List.getElem?_eq_getElem h, List.getElem_eq_getD []]
theorem hides_ge (s : List (List UInt8)) (t : Nat) (h : ¬ t < s.length) : hidesB s t = false := by
  unfold hidesB; rw [List.getElem?_eq_none (by omega)]
theorem Pf.chk_and {p : Pf} (h : p.chk = 0) : p.s.length ≤ 256 ∧ p.e.ok := by
  unfold Pf.chk at h
  split at h
  · cases h
  · split at h
    · rename_i h1 h2; exact ⟨by omega, h2.1⟩
    · cases h
theorem bne_dec (x y : List UInt8) : (x != y) = !decide (x = y) := by by_cases h : x = y <;> simp [h]
theorem encR_bad (p : Pf) (hw : p.wf) (h : p.chk ≠ 0) : VC Try.prog 61 [p.av] [] (.tup [.bs [] none, errv p.chk]) := by
  have hc := pcheckR_v p hw
  have hsl := bas_len p.s
  obtain ⟨h1, h2, h3, h4⟩ := id hw.e
  refine v_enter Try.func61 rfl (by kernel_rfl) (by show 1 ≤ 94; decide) ?_
  intro N w0 a w hN hR H
  simp only [Pf.av, Nd.av] at H hc
  repeat (first | refine wp_seq ?_ | refine wp_block ?_ | refine wp_skip ?_ | refine wp_exit ?_ | ((first | refine v_some 5 tab_ok hN H (by rfl) ct_Ref17 ?_ | refine v_more tab_ok hN H (by rfl) (by rfl) ct_Ref17 ?_); clear H; intro a w H; replace H := nf_Ref17 H; (try simp only [List.drop_succ_cons, List.drop_zero, List.drop_nil]); try refine wpList_nil ?_) | refine wp_region_lit ?_)
  refine v_call [] [] (hc) H rfl rfl (by rfl) cb cw ca ?_; clear H; intro a w H; replace H := nf_Ref17 H; try refine wpList_nil ?_
  repeat (first | refine wp_seq ?_ | refine wp_block ?_ | refine wp_skip ?_ | refine wp_exit ?_ | ((first | refine v_some 5 tab_ok hN H (by rfl) ct_Ref17 ?_ | refine v_more tab_ok hN H (by rfl) (by rfl) ct_Ref17 ?_); clear H; intro a w H; replace H := nf_Ref17 H; (try simp only [List.drop_succ_cons, List.drop_zero, List.drop_nil]); try refine wpList_nil ?_) | refine wp_region_lit ?_)
  refine v_cond H (by rfl) (fun hb => ?_) (fun hb => ?_)
  · repeat (first | refine wp_seq ?_ | refine wp_block ?_ | refine wp_skip ?_ | refine wp_exit ?_ | ((first | refine v_some 5 tab_ok hN H (by rfl) ct_Ref17 ?_ | refine v_more tab_ok hN H (by rfl) (by rfl) ct_Ref17 ?_); clear H; intro a w H; replace H := nf_Ref17 H; (try simp only [List.drop_succ_cons, List.drop_zero, List.drop_nil]); try refine wpList_nil ?_) | refine wp_region_lit ?_)
    refine wp_ret ?_
    exact v_end [] [] tab_ok ⟨hN, hR⟩ (rs := [.tmp 2, .tmp 3]) (ress := [_, _]) rfl H (by rfl) (by rfl) cb cw ca rfl
  · simp at hb; exact absurd hb h
set_option maxRecDepth 20000 in
set_option maxHeartbeats 2000000 in
theorem encR_ok (p : Pf) (hw : p.wf) (h : p.chk = 0) : VC Try.prog 61 [p.av] [(5, p.text.length)] (.tup [.bs p.text (some 0), errv 0]) := by
  obtain ⟨hle, hok⟩ := Pf.chk_and h
  have hc := pcheckR_v p hw
  rw [h] at hc
  obtain ⟨s, n⟩ := p
  have hsl := bas_len s
  have hen := encodeR_ok n hw.e hok
  obtain ⟨h1, h2, h3, h4⟩ := id hw.e
  have hsum := sum_length [0]
  have eE : sum [0] = E0 := rfl
  rw [eE] at hsum
  have hem := emptyR_v
  rw [eE] at hem
  dsimp only at h1 h2 h3 h4 hle
  have hs := hw.s
  dsimp only at hs
  clear hok h
  refine v_enter Try.func61 rfl (by kernel_rfl) (by show 1 ≤ 94; decide) ?_
  intro N w0 a w hN hR H
  simp only [Pf.av, Nd.av] at H hc hen
  repeat (first | refine wp_seq ?_ | refine wp_block ?_ | refine wp_skip ?_ | refine wp_exit ?_ | ((first | refine v_some 5 tab_ok hN H (by rfl) ct_Ref17 ?_ | refine v_more tab_ok hN H (by rfl) (by rfl) ct_Ref17 ?_); clear H; intro a w H; replace H := nf_Ref17 H; (try simp only [List.drop_succ_cons, List.drop_zero, List.drop_nil]); try refine wpList_nil ?_) | refine wp_region_lit ?_)
  refine v_call [] [] (hc) H rfl rfl (by rfl) cb cw ca ?_; clear H; intro a w H; replace H := nf_Ref17 H; try refine wpList_nil ?_
  repeat (first | refine wp_seq ?_ | refine wp_block ?_ | refine wp_skip ?_ | refine wp_exit ?_ | ((first | refine v_some 5 tab_ok hN H (by rfl) ct_Ref17 ?_ | refine v_more tab_ok hN H (by rfl) (by rfl) ct_Ref17 ?_); clear H; intro a w H; replace H := nf_Ref17 H; (try simp only [List.drop_succ_cons, List.drop_zero, List.drop_nil]); try refine wpList_nil ?_) | refine wp_region_lit ?_)
  refine v_cond H (by rfl) (fun hb => ?_) (fun hb => ?_)
  · simp at hb
  · have e3 : UInt8.ofNat ((s.length : Int) / 256 % 256).toNat = UInt8.ofNat (s.length / 256) := by have := u8n s.length 256; simpa using this
    have e4 : UInt8.ofNat ((s.length : Int) % 256 % 256).toNat = UInt8.ofNat s.length := by
      rw [Int.emod_emod_of_dvd _ (Int.dvd_refl 256)]; exact u8m s.length
    repeat (first | refine wp_seq ?_ | refine wp_block ?_ | refine wp_skip ?_ | refine wp_exit ?_ | ((first | refine v_some 5 tab_ok hN H (by rfl) (by (try simp only [hsl]); first | done | exact ct_Ref17) ?_ | refine v_more tab_ok hN H (by rfl) (by rfl) (by (try simp only [hsl]); first | done | exact ct_Ref17) ?_); clear H; intro a w H; replace H := nf_Ref17 H; first | (simp only [hsl] at H; replace H := nf_Ref17 H) | skip; (try simp only [List.drop_succ_cons, List.drop_zero, List.drop_nil]); try refine wpList_nil ?_) | refine wp_region_lit ?_)
    rw [e3, e4] at H
    refine v_call [] [] (hem) H rfl rfl (by rfl) (by simp [pickB, bxs, ren, idx?, sub_refl, sub, allP, hsl] <;> omega) (by first | rfl | (simp [hsl] <;> omega)) (by first | exact trivial | exact ⟨sub_refl _ _, trivial⟩ | exact ⟨sub_refl _ _, sub_refl _ _, trivial⟩ | exact ⟨sub_refl _ _, sub_refl _ _, sub_refl _ _, trivial⟩ | exact ⟨⟨rfl, sub_refl _ _, trivial⟩, sub_refl _ _, trivial⟩ | (simp [cargs, cargsG, St.ev, St.tmp, find, ren, idx?, sub_refl, sub, allP, resv, resC, bss, hsl] <;> omega)) ?_; clear H; intro a w H; replace H := nf_Ref17 H; first | (simp only [hsl] at H; replace H := nf_Ref17 H) | skip; try refine wpList_nil ?_
    repeat (first | refine wp_seq ?_ | refine wp_block ?_ | refine wp_skip ?_ | refine wp_exit ?_ | ((first | refine v_some 5 tab_ok hN H (by rfl) (by (try simp only [hsl]); first | done | exact ct_Ref17) ?_ | refine v_more tab_ok hN H (by rfl) (by rfl) (by (try simp only [hsl]); first | done | exact ct_Ref17) ?_); clear H; intro a w H; replace H := nf_Ref17 H; first | (simp only [hsl] at H; replace H := nf_Ref17 H) | skip; (try simp only [List.drop_succ_cons, List.drop_zero, List.drop_nil]); try refine wpList_nil ?_) | refine wp_region_lit ?_)
    obtain ⟨hd, hhd⟩ : ∃ hd, hd = [UInt8.ofNat (s.length / 256), UInt8.ofNat s.length] := ⟨_, rfl⟩
    have hhl : hd.length = 2 := by rw [hhd]; rfl
    rw [← hhd] at H
    replace H := H.keep [1, 2, 3, 5, 6, 7, 8] 2 1 ⟨Nat.le_trans hN (by show _ ≤ 2; decide), Nat.le_trans hR (by show _ ≤ 1; decide)⟩ (by rfl) (by rfl)
    replace H := nf_Ref17 H; first | (simp only [hsl] at H; replace H := nf_Ref17 H) | skip
    refine v_loop (fun m : Nat => ⟨[(8, none, .v (.int .i64 ((8 * m : Nat) : Int))), (7, none, .ptr 1 []), (6, none, .bs (hd ++ marksB s m) (some 0)), (5, none, .v (.int .i64 (s.length : Int))), (3, none, .v (.int .i64 0)), (2, none, .v (.slice none 0 0)), (1, none, .ptr 0 [])],
      [(ti64.ty, .st [.sl (.ba 32) (bas s) none, .st [.v (B8 n.k), .ba n.key, .ba n.v, .ba n.l, .ba n.r]]), (.ba 32, .ba E0)], [], [(5, 2 + m)]⟩)
      (fun m => m ≤ (s.length + 7) / 8) (fun m => (s.length + 7) / 8 - m) 0 (Nat.zero_le _) (H.to 2 1 ⟨Nat.le_trans hN (by decide), Nat.le_trans hR (by decide)⟩ ⟨rfl, rfl, by rw [show marksB s 0 = [] from rfl, List.append_nil]; rfl, rfl, rfl, rfl, rfl, trivial⟩ rfl rfl rfl rfl rfl) ?_
    clear H
    intro m a w hm H
    have hml := marksB_len s m
    repeat (first | refine wp_seq ?_ | refine wp_block ?_ | refine wp_skip ?_ | refine wp_exit ?_ | ((first | refine v_some 5 tab_ok hN H (by rfl) (by (try simp only [hsl]); first | done | exact ct_Ref17) ?_ | refine v_more tab_ok hN H (by rfl) (by rfl) (by (try simp only [hsl]); first | done | exact ct_Ref17) ?_); clear H; intro a w H; replace H := nf_Ref17 H; first | (simp only [hsl] at H; replace H := nf_Ref17 H) | skip; (try simp only [List.drop_succ_cons, List.drop_zero, List.drop_nil]); try refine wpList_nil ?_) | refine wp_region_lit ?_)
    refine v_cond H (by rfl) (fun hb => ?_) (fun hb => ?_)
    · have hlt : 8 * m < s.length := by rw [decide_eq_true_eq] at hb; omega
      clear hb
      have hm32 : m ≤ 31 := by omega
      repeat (first | refine wp_seq ?_ | refine wp_block ?_ | refine wp_skip ?_ | refine wp_exit ?_ | ((first | refine v_some 5 tab_ok hN H (by rfl) (by (try simp only [hsl]); first | done | exact ct_Ref17) ?_ | refine v_more tab_ok hN H (by rfl) (by rfl) (by (try simp only [hsl]); first | done | exact ct_Ref17) ?_); clear H; intro a w H; replace H := nf_Ref17 H; first | (simp only [hsl] at H; replace H := nf_Ref17 H) | skip; (try simp only [List.drop_succ_cons, List.drop_zero, List.drop_nil]); try refine wpList_nil ?_) | refine wp_region_lit ?_)
      refine v_loop (fun k : Nat => ⟨[(10, none, .v (.int .i64 (k : Int))), (9, none, .v (.int .i64 (upB (fun k => hidesB s (8 * m + k)) k : Int))), (8, none, .v (.int .i64 ((8 * m : Nat) : Int))), (7, none, .ptr 1 []), (6, none, .bs (hd ++ marksB s m) (some 0)), (5, none, .v (.int .i64 (s.length : Int))), (3, none, .v (.int .i64 0)), (2, none, .v (.slice none 0 0)), (1, none, .ptr 0 [])],
        [(ti64.ty, .st [.sl (.ba 32) (bas s) none, .st [.v (B8 n.k), .ba n.key, .ba n.v, .ba n.l, .ba n.r]]), (.ba 32, .ba E0)], [], [(5, 2 + m)]⟩)
        (fun k => k ≤ 8) (fun k => 8 - k) 0 (Nat.zero_le _) (H.to 2 1 ⟨Nat.le_trans hN (by decide), Nat.le_trans hR (by decide)⟩ ⟨rfl, rfl, rfl, rfl, rfl, rfl, rfl, rfl, rfl, trivial⟩ rfl rfl rfl rfl rfl) ?_
      clear H
      intro k a w hk H
      have hup : upB (fun k => hidesB s (8 * m + k)) k ≤ 256 := by
        have h5 := upB_lt (fun k => hidesB s (8 * m + k)) k
        have h6 : 2 ^ k ≤ 2 ^ 8 := Nat.pow_le_pow_right (by decide) hk
        omega
      have hnx : upB (fun k => hidesB s (8 * m + k)) (k + 1) = 2 * upB (fun k => hidesB s (8 * m + k)) k + (if hidesB s (8 * m + k) then 1 else 0) := rfl
      have hb8 := b8_up (fun k => hidesB s (8 * m + k))
      repeat (first | refine wp_seq ?_ | refine wp_block ?_ | refine wp_skip ?_ | refine wp_exit ?_ | ((first | refine v_some 5 tab_ok hN H (by rfl) (by (try simp only [hsl]); first | done | exact ct_Ref17) ?_ | refine v_more tab_ok hN H (by rfl) (by rfl) (by (try simp only [hsl]); first | done | exact ct_Ref17) ?_); clear H; intro a w H; replace H := nf_Ref17 H; first | (simp only [hsl] at H; replace H := nf_Ref17 H) | skip; (try simp only [List.drop_succ_cons, List.drop_zero, List.drop_nil]); try refine wpList_nil ?_) | refine wp_region_lit ?_)
      refine v_cond H (by rfl) (fun hb => ?_) (fun hb => ?_)
      · have hk8 : k < 8 := by rw [decide_eq_true_eq] at hb; omega
        clear hb hb8
        generalize upB (fun k => hidesB s (8 * m + k)) k = v at *
        have e1 : (((8 * m : Nat) : Int) + (k : Int)).toNat = 8 * m + k := by omega
        by_cases hin : 8 * m + k < s.length
        · have hg := bas_get s (8 * m + k) hin
          rw [List.getElem_eq_getD []] at hg
          have l1 : (s.getD (8 * m + k) []).length = 32 := by rw [← List.getElem_eq_getD (h := hin) []]; exact hs _ (List.getElem_mem _)
          have hh := hides_lt s (8 * m + k) hin
          repeat (first | refine wp_seq ?_ | refine wp_block ?_ | refine wp_skip ?_ | refine wp_exit ?_ | ((first | refine v_some 5 tab_ok hN H (by rfl) (by (try simp only [hsl]); first | done | exact ct_Ref17) ?_ | refine v_more tab_ok hN H (by rfl) (by rfl) (by (try simp only [hsl]); first | done | exact ct_Ref17) ?_); clear H; intro a w H; replace H := nf_Ref17 H; first | (simp only [hsl] at H; replace H := nf_Ref17 H) | skip; (try simp only [List.drop_succ_cons, List.drop_zero, List.drop_nil]); try refine wpList_nil ?_) | refine wp_region_lit ?_)
          repeat (first | refine wp_seq ?_ | refine wp_block ?_)
          refine v_draw 2 [] [] (by kernel_rfl) (by kernel_rfl) H (by rfl) (fun gS H => ?_); try replace H := nt_Ref17 H; first | (simp only [hsl, e1, hg] at H; replace H := nt_Ref17 H) | skip
          refine v_someT 3 tab_ok hN H (by rfl) (by (try simp only [hsl, e1, hg, hsl, e1, l1, hsum]); first | done | exact ct_Ref17) ?_; clear H; intro a w H; replace H := nt_Ref17 H; first | (simp only [hsl, e1, hg] at H; replace H := nt_Ref17 H) | skip; simp only [List.drop_succ_cons, List.drop_zero, List.drop_nil]
          refine v_someT 3 tab_ok hN H (by rfl) (by (try simp only [hsl, e1, hg, hsl, e1, l1, hsum]); first | done | exact ct_Ref17) ?_; clear H; intro a w H; replace H := nt_Ref17 H; first | (simp only [hsl, e1, hg] at H; replace H := nt_Ref17 H) | skip; simp only [List.drop_succ_cons, List.drop_zero, List.drop_nil]
          refine v_someT 2 tab_ok hN H (by rfl) (by (try simp only [hsl, e1, hg, hsl, e1, l1, hsum]); first | done | exact ct_Ref17) ?_; clear H; intro a w H; replace H := nt_Ref17 H; first | (simp only [hsl, e1, hg] at H; replace H := nt_Ref17 H) | skip; simp only [List.drop_succ_cons, List.drop_zero, List.drop_nil]
          refine v_someT 4 tab_ok hN H (by rfl) (by (try simp only [hsl, e1, hg, hsl, e1, l1, hsum]); first | done | exact ct_Ref17) ?_; clear H; intro a w H; replace H := nt_Ref17 H; first | (simp only [hsl, e1, hg] at H; replace H := nt_Ref17 H) | skip; simp only [List.drop_succ_cons, List.drop_zero, List.drop_nil]
          refine v_someT 2 tab_ok hN H (by rfl) (by (try simp only [hsl, e1, hg, hsl, e1, l1, hsum]); first | done | exact ct_Ref17) ?_; clear H; intro a w H; replace H := nt_Ref17 H; first | (simp only [hsl, e1, hg] at H; replace H := nt_Ref17 H) | skip; simp only [List.drop_succ_cons, List.drop_zero, List.drop_nil]
          repeat (refine v_someT 5 tab_ok hN H (by rfl) (by (try simp only [hsl, e1, hg, hsl, e1, l1, hsum]); first | done | exact ct_Ref17) ?_; clear H; intro a w H; replace H := nt_Ref17 H; first | (simp only [hsl, e1, hg] at H; replace H := nt_Ref17 H) | skip; simp only [List.drop_succ_cons, List.drop_zero, List.drop_nil])
          refine v_moreT tab_ok hN H (by rfl) (by (try simp only [hsl, e1, hg, hsl, e1, l1, hsum]); first | done | exact ct_Ref17) ?_; clear H; intro a w H; try replace H := nt_Ref17 H; first | (simp only [hsl, e1, hg] at H; replace H := nt_Ref17 H) | skip
          refine v_drawNil H (fun H => ?_)
          have hbb : (bif decide (((8 * m : Nat) : Int) + (k : Int) < (s.length : Int)) then !decide (s.getD (8 * m + k) [] = E0) else false) = hidesB s (8 * m + k) := by
            rw [decide_eq_true (by omega), hh, cond_true, bne_dec]
          refine v_cond H (by rfl) (fun hb => ?_) (fun hb => ?_)
          · rw [hbb] at hb
            rw [hb] at hnx
            repeat (first | refine wp_seq ?_ | refine wp_block ?_ | refine wp_skip ?_ | refine wp_exit ?_ | ((first | refine v_some 5 tab_ok hN H (by rfl) (by (try simp only [hsl]); first | done | exact ct_Ref17) ?_ | refine v_more tab_ok hN H (by rfl) (by rfl) (by (try simp only [hsl]); first | done | exact ct_Ref17) ?_); clear H; intro a w H; replace H := nf_Ref17 H; first | (simp only [hsl] at H; replace H := nf_Ref17 H) | skip; (try simp only [List.drop_succ_cons, List.drop_zero, List.drop_nil]); try refine wpList_nil ?_) | refine wp_region_lit ?_)
            exact ⟨k + 1, hk8, by omega, H.to 2 1 ⟨Nat.le_trans hN (by decide), Nat.le_trans hR (by decide)⟩ ⟨rfl, by rw [hnx]; rfl, rfl, rfl, rfl, rfl, rfl, rfl, rfl, trivial⟩ rfl rfl rfl rfl rfl⟩
          · rw [hbb] at hb
            rw [hb] at hnx
            repeat (first | refine wp_seq ?_ | refine wp_block ?_ | refine wp_skip ?_ | refine wp_exit ?_ | ((first | refine v_some 5 tab_ok hN H (by rfl) (by (try simp only [hsl]); first | done | exact ct_Ref17) ?_ | refine v_more tab_ok hN H (by rfl) (by rfl) (by (try simp only [hsl]); first | done | exact ct_Ref17) ?_); clear H; intro a w H; replace H := nf_Ref17 H; first | (simp only [hsl] at H; replace H := nf_Ref17 H) | skip; (try simp only [List.drop_succ_cons, List.drop_zero, List.drop_nil]); try refine wpList_nil ?_) | refine wp_region_lit ?_)
            exact ⟨k + 1, hk8, by omega, H.to 2 1 ⟨Nat.le_trans hN (by decide), Nat.le_trans hR (by decide)⟩ ⟨rfl, by rw [hnx]; rfl, rfl, rfl, rfl, rfl, rfl, rfl, rfl, trivial⟩ rfl rfl rfl rfl rfl⟩
        · have hh := hides_ge s (8 * m + k) hin
          rw [hh] at hnx
          repeat (first | refine wp_seq ?_ | refine wp_block ?_ | refine wp_skip ?_ | refine wp_exit ?_ | ((first | refine v_some 5 tab_ok hN H (by rfl) (by (try simp only [hsl]); first | done | exact ct_Ref17) ?_ | refine v_more tab_ok hN H (by rfl) (by rfl) (by (try simp only [hsl]); first | done | exact ct_Ref17) ?_); clear H; intro a w H; replace H := nf_Ref17 H; first | (simp only [hsl] at H; replace H := nf_Ref17 H) | skip; (try simp only [List.drop_succ_cons, List.drop_zero, List.drop_nil]); try refine wpList_nil ?_) | refine wp_region_lit ?_)
          repeat (first | refine wp_seq ?_ | refine wp_block ?_)
          refine v_draw 2 [] [] (by kernel_rfl) (by kernel_rfl) H (by rfl) (fun gS H => ?_); try replace H := nt_Ref17 H; first | (simp only [hsl] at H; replace H := nt_Ref17 H) | skip
          refine v_someT 3 tab_ok hN H (by rfl) (by (try simp only [hsl]); first | done | exact ct_Ref17) ?_; clear H; intro a w H; replace H := nt_Ref17 H; first | (simp only [hsl] at H; replace H := nt_Ref17 H) | skip; simp only [List.drop_succ_cons, List.drop_zero, List.drop_nil]
          refine v_someT 3 tab_ok hN H (by rfl) (by (try simp only [hsl]); first | done | exact ct_Ref17) ?_; clear H; intro a w H; replace H := nt_Ref17 H; first | (simp only [hsl] at H; replace H := nt_Ref17 H) | skip; simp only [List.drop_succ_cons, List.drop_zero, List.drop_nil]
          have hdd : decide (((8 * m : Nat) : Int) + (k : Int) < (s.length : Int)) = false := decide_eq_false (by omega)
          simp only [hdd] at H
          refine v_skipT (.v (.bool false)) H (by rfl) (by rfl) (by rfl) ?_; clear H; intro a w H; try replace H := nt_Ref17 H; first | (simp only [hsl] at H; replace H := nt_Ref17 H) | skip
          refine v_skipT (.v (.bool false)) H (by rfl) (by rfl) (by rfl) ?_; clear H; intro a w H; try replace H := nt_Ref17 H; first | (simp only [hsl] at H; replace H := nt_Ref17 H) | skip
          refine v_skipT (.v (.bool false)) H (by rfl) (by rfl) (by rfl) ?_; clear H; intro a w H; try replace H := nt_Ref17 H; first | (simp only [hsl] at H; replace H := nt_Ref17 H) | skip
          refine v_skipT (.v (.bool false)) H (by rfl) (by rfl) (by rfl) ?_; clear H; intro a w H; try replace H := nt_Ref17 H; first | (simp only [hsl] at H; replace H := nt_Ref17 H) | skip
          refine v_skipT (.v (.bool false)) H (by rfl) (by rfl) (by rfl) ?_; clear H; intro a w H; try replace H := nt_Ref17 H; first | (simp only [hsl] at H; replace H := nt_Ref17 H) | skip
          refine v_skipT (.v (.bool false)) H (by rfl) (by rfl) (by rfl) ?_; clear H; intro a w H; try replace H := nt_Ref17 H; first | (simp only [hsl] at H; replace H := nt_Ref17 H) | skip
          refine v_skipT (.v (.bool false)) H (by rfl) (by rfl) (by rfl) ?_; clear H; intro a w H; try replace H := nt_Ref17 H; first | (simp only [hsl] at H; replace H := nt_Ref17 H) | skip
          refine v_skipT (.v (.bool false)) H (by rfl) (by rfl) (by rfl) ?_; clear H; intro a w H; try replace H := nt_Ref17 H; first | (simp only [hsl] at H; replace H := nt_Ref17 H) | skip
          refine v_skipT (.v (.bool false)) H (by rfl) (by rfl) (by rfl) ?_; clear H; intro a w H; try replace H := nt_Ref17 H; first | (simp only [hsl] at H; replace H := nt_Ref17 H) | skip
          repeat (refine v_someT 5 tab_ok hN H (by rfl) (by (try simp only [hsl]); first | done | exact ct_Ref17) ?_; clear H; intro a w H; replace H := nt_Ref17 H; first | (simp only [hsl] at H; replace H := nt_Ref17 H) | skip; simp only [List.drop_succ_cons, List.drop_zero, List.drop_nil])
          refine v_moreT tab_ok hN H (by rfl) (by (try simp only [hsl]); first | done | exact ct_Ref17) ?_; clear H; intro a w H; try replace H := nt_Ref17 H; first | (simp only [hsl] at H; replace H := nt_Ref17 H) | skip
          refine v_drawNil H (fun H => ?_)
          refine v_cond H (by rfl) (fun hb => ?_) (fun hb => ?_)
          · simp at hb
          · repeat (first | refine wp_seq ?_ | refine wp_block ?_ | refine wp_skip ?_ | refine wp_exit ?_ | ((first | refine v_some 5 tab_ok hN H (by rfl) (by (try simp only [hsl]); first | done | exact ct_Ref17) ?_ | refine v_more tab_ok hN H (by rfl) (by rfl) (by (try simp only [hsl]); first | done | exact ct_Ref17) ?_); clear H; intro a w H; replace H := nf_Ref17 H; first | (simp only [hsl] at H; replace H := nf_Ref17 H) | skip; (try simp only [List.drop_succ_cons, List.drop_zero, List.drop_nil]); try refine wpList_nil ?_) | refine wp_region_lit ?_)
            exact ⟨k + 1, hk8, by omega, H.to 2 1 ⟨Nat.le_trans hN (by decide), Nat.le_trans hR (by decide)⟩ ⟨rfl, by rw [hnx]; rfl, rfl, rfl, rfl, rfl, rfl, rfl, rfl, trivial⟩ rfl rfl rfl rfl rfl⟩
      · have hge : k = 8 := by rw [decide_eq_false_iff_not] at hb; omega
        subst hge
        clear hb hnx
        obtain ⟨v, hv⟩ : ∃ v, v = upB (fun k => hidesB s (8 * m + k)) 8 := ⟨_, rfl⟩
        rw [← hv] at H hb8 hup
        clear hv
        have hmn := marksB_next s m
        rw [← hb8] at hmn
        have e5 : UInt8.ofNat ((v : Int) % 256).toNat = UInt8.ofNat v := u8m v
        have hcl : (hd ++ marksB s m).length = 2 + m := by rw [List.length_append, hhl, hml]
        repeat (first | refine wp_seq ?_ | refine wp_block ?_ | refine wp_skip ?_ | refine wp_exit ?_ | ((first | refine v_some 5 tab_ok hN H (by rfl) (by (try simp only [hsl, hhl, hml, hhl, hml]); first | done | exact ct_Ref17) ?_ | refine v_more tab_ok hN H (by rfl) (by rfl) (by (try simp only [hsl, hhl, hml, hhl, hml]); first | done | exact ct_Ref17) ?_); clear H; intro a w H; replace H := nf_Ref17 H; first | (simp only [hsl, hhl, hml] at H; replace H := nf_Ref17 H) | skip; (try simp only [List.drop_succ_cons, List.drop_zero, List.drop_nil]); try refine wpList_nil ?_) | refine wp_region_lit ?_)
        rw [e5] at H
        exact ⟨m + 1, by omega, by omega, H.to 2 1 ⟨Nat.le_trans hN (by decide), Nat.le_trans hR (by decide)⟩ ⟨rfl, rfl, by rw [hmn, ← List.append_assoc]; rfl, rfl, rfl, rfl, rfl, trivial⟩ rfl rfl rfl rfl rfl⟩
    · have hge : m = (s.length + 7) / 8 := by rw [decide_eq_false_iff_not] at hb; omega
      clear hb
      have hbits : marksB s m = (Pf.mk s n).bits := by rw [hge]; rfl
      rw [hbits] at H hml
      obtain ⟨pre, hpre⟩ : ∃ pre, pre = hd ++ (Pf.mk s n).bits := ⟨_, rfl⟩
      have hpl : pre.length = 2 + m := by rw [hpre, List.length_append, hhl, hml]
      rw [← hpre] at H
      have hm33 : m ≤ 32 := by omega
      clear hge hml hm hbits
      repeat (first | refine wp_seq ?_ | refine wp_block ?_ | refine wp_skip ?_ | refine wp_exit ?_ | ((first | refine v_some 5 tab_ok hN H (by rfl) (by (try simp only [hsl]); first | done | exact ct_Ref17) ?_ | refine v_more tab_ok hN H (by rfl) (by rfl) (by (try simp only [hsl]); first | done | exact ct_Ref17) ?_); clear H; intro a w H; replace H := nf_Ref17 H; first | (simp only [hsl] at H; replace H := nf_Ref17 H) | skip; (try simp only [List.drop_succ_cons, List.drop_zero, List.drop_nil]); try refine wpList_nil ?_) | refine wp_region_lit ?_)
      refine v_loop (fun k : Nat => ⟨[(11, none, .v (.int .i64 (k : Int))), (7, none, .ptr 1 []), (6, none, .bs (pre ++ hashes (s.take k)) (some 0)), (5, none, .v (.int .i64 (s.length : Int))), (3, none, .v (.int .i64 0)), (2, none, .v (.slice none 0 0)), (1, none, .ptr 0 [])],
        [(ti64.ty, .st [.sl (.ba 32) (bas s) none, .st [.v (B8 n.k), .ba n.key, .ba n.v, .ba n.l, .ba n.r]]), (.ba 32, .ba E0)], [], [(5, pre.length + (hashes (s.take k)).length)]⟩)
        (fun k => k ≤ s.length) (fun k => s.length - k) 0 (Nat.zero_le _) (H.to 2 1 ⟨Nat.le_trans hN (by decide), Nat.le_trans hR (by decide)⟩ ⟨rfl, rfl, by rw [show hashes (s.take 0) = [] from rfl, List.append_nil]; rfl, rfl, rfl, rfl, rfl, trivial⟩ rfl (by rw [hpl]; rfl) rfl rfl rfl) ?_
      clear H
      intro k a w hk H
      have hhl2 : (hashes (s.take k)).length ≤ 8192 := by
        have := hashes_len (s.take k) fun x hx => hs _ (List.mem_of_mem_take hx)
        rw [List.length_take] at this; omega
      have hal : (pre ++ hashes (s.take k)).length = 2 + m + (hashes (s.take k)).length := by rw [List.length_append, hpl]
      repeat (first | refine wp_seq ?_ | refine wp_block ?_ | refine wp_skip ?_ | refine wp_exit ?_ | ((first | refine v_some 5 tab_ok hN H (by rfl) (by (try simp only [hsl]); first | done | exact ct_Ref17) ?_ | refine v_more tab_ok hN H (by rfl) (by rfl) (by (try simp only [hsl]); first | done | exact ct_Ref17) ?_); clear H; intro a w H; replace H := nf_Ref17 H; first | (simp only [hsl] at H; replace H := nf_Ref17 H) | skip; (try simp only [List.drop_succ_cons, List.drop_zero, List.drop_nil]); try refine wpList_nil ?_) | refine wp_region_lit ?_)
      refine v_cond H (by rfl) (fun hb => ?_) (fun hb => ?_)
      · have hlt : k < s.length := by rw [decide_eq_true_eq] at hb; omega
        have hg := bas_get s k hlt
        have h32 : s[k].length = 32 := hs _ (List.getElem_mem hlt)
        have htk : s.take (k + 1) = s.take k ++ [s[k]] := List.take_succ_eq_append_getElem hlt
        have ht32 : s[k].take 32 = s[k] := List.take_of_length_le (by omega)
        clear hb
        repeat (first | refine wp_seq ?_ | refine wp_block ?_ | refine wp_skip ?_ | refine wp_exit ?_ | ((first | refine v_some 5 tab_ok hN H (by rfl) (by (try simp only [hsl]); first | done | exact ct_Ref17) ?_ | refine v_more tab_ok hN H (by rfl) (by rfl) (by (try simp only [hsl]); first | done | exact ct_Ref17) ?_); clear H; intro a w H; replace H := nf_Ref17 H; first | (simp only [hsl] at H; replace H := nf_Ref17 H) | skip; (try simp only [List.drop_succ_cons, List.drop_zero, List.drop_nil]); try refine wpList_nil ?_) | refine wp_region_lit ?_)
        repeat (first | refine wp_seq ?_ | refine wp_block ?_)
        refine v_draw 2 [] [] (by kernel_rfl) (by kernel_rfl) H (by rfl) (fun gS H => ?_); try replace H := nt_Ref17 H; first | (simp only [hsl, hg, ht32] at H; replace H := nt_Ref17 H) | skip
        refine v_someT 2 tab_ok hN H (by rfl) (by (try simp only [hsl, hg, ht32, hsl, hg, h32, hsum]); first | done | exact ct_Ref17) ?_; clear H; intro a w H; replace H := nt_Ref17 H; first | (simp only [hsl, hg, ht32] at H; replace H := nt_Ref17 H) | skip; simp only [List.drop_succ_cons, List.drop_zero, List.drop_nil]
        refine v_someT 2 tab_ok hN H (by rfl) (by (try simp only [hsl, hg, ht32, hsl, hg, h32, hsum]); first | done | exact ct_Ref17) ?_; clear H; intro a w H; replace H := nt_Ref17 H; first | (simp only [hsl, hg, ht32] at H; replace H := nt_Ref17 H) | skip; simp only [List.drop_succ_cons, List.drop_zero, List.drop_nil]
        refine v_someT 2 tab_ok hN H (by rfl) (by (try simp only [hsl, hg, ht32, hsl, hg, h32, hsum]); first | done | exact ct_Ref17) ?_; clear H; intro a w H; replace H := nt_Ref17 H; first | (simp only [hsl, hg, ht32] at H; replace H := nt_Ref17 H) | skip; simp only [List.drop_succ_cons, List.drop_zero, List.drop_nil]
        repeat (refine v_someT 5 tab_ok hN H (by rfl) (by (try simp only [hsl, hg, ht32, hsl, hg, h32, hsum]); first | done | exact ct_Ref17) ?_; clear H; intro a w H; replace H := nt_Ref17 H; first | (simp only [hsl, hg, ht32] at H; replace H := nt_Ref17 H) | skip; simp only [List.drop_succ_cons, List.drop_zero, List.drop_nil])
        refine v_moreT tab_ok hN H (by rfl) (by (try simp only [hsl, hg, ht32, hsl, hg, h32, hsum]); first | done | exact ct_Ref17) ?_; clear H; intro a w H; try replace H := nt_Ref17 H; first | (simp only [hsl, hg, ht32] at H; replace H := nt_Ref17 H) | skip
        refine v_drawNil H (fun H => ?_)
        refine v_cond H (by rfl) (fun hb => ?_) (fun hb => ?_)
        · have hne : (s[k] != E0) = true := by rw [bne_dec]; exact hb
          have hs1 : hashes (s.take (k + 1)) = hashes (s.take k) ++ s[k] := by
            unfold hashes; rw [htk, List.filter_append, List.filter_cons_of_pos (p := (· != E0)) hne, List.filter_nil, List.flatten_append]; simp
          repeat (first | refine wp_seq ?_ | refine wp_block ?_ | refine wp_skip ?_ | refine wp_exit ?_)
          (try refine wp_region_lit ?_); refine v_steps 4 tab_ok hN H (by rfl) (by (try simp only [hsl, hg, ht32, hsl, hg, h32, hsum]); first | done | exact ct_Ref17) ?_; clear H; intro a w H; replace H := nf_Ref17 H; first | (simp only [hsl, hg, ht32] at H; replace H := nf_Ref17 H) | skip
          repeat (first | refine wp_seq ?_ | refine wp_block ?_ | refine wp_skip ?_ | refine wp_exit ?_ | ((first | refine v_some 5 tab_ok hN H (by rfl) (by (try simp only [hsl, hg, ht32, hsl, hg, h32, hsum]); first | done | exact ct_Ref17) ?_ | refine v_more tab_ok hN H (by rfl) (by rfl) (by (try simp only [hsl, hg, ht32, hsl, hg, h32, hsum]); first | done | exact ct_Ref17) ?_); clear H; intro a w H; replace H := nf_Ref17 H; first | (simp only [hsl, hg, ht32] at H; replace H := nf_Ref17 H) | skip; (try simp only [List.drop_succ_cons, List.drop_zero, List.drop_nil]); try refine wpList_nil ?_) | refine wp_region_lit ?_)
          replace H := H.keep [1, 2, 3, 5, 6, 7, 11] 2 1 ⟨Nat.le_trans hN (by show _ ≤ 2; decide), Nat.le_trans hR (by show _ ≤ 1; decide)⟩ (by rfl) (by rfl)
          replace H := nf_Ref17 H; first | (simp only [hsl, hg, ht32] at H; replace H := nf_Ref17 H) | skip
          have H := v_fz H
          simp only [List.filter_cons, List.filter_nil, List.length_cons, List.length_nil, Nat.reduceAdd, Nat.reduceLT, Nat.lt_irrefl, decide_false, Bool.false_eq_true, reduceIte] at H
          exact ⟨k + 1, hlt, by omega, H.to 2 1 ⟨Nat.le_trans hN (by decide), Nat.le_trans hR (by decide)⟩ ⟨rfl, rfl, by rw [hs1, ← List.append_assoc]; rfl, rfl, rfl, rfl, rfl, trivial⟩ rfl (by rw [hs1, List.length_append, ← Nat.add_assoc]; rfl) rfl rfl rfl⟩
        · have hne : (s[k] != E0) = false := by rw [bne_dec]; exact hb
          have hs1 : hashes (s.take (k + 1)) = hashes (s.take k) := by
            unfold hashes; rw [htk, List.filter_append, List.filter_cons_of_neg (p := (· != E0)) (by rw [hne]; decide), List.filter_nil, List.append_nil]
          repeat (first | refine wp_seq ?_ | refine wp_block ?_ | refine wp_skip ?_ | refine wp_exit ?_ | ((first | refine v_some 5 tab_ok hN H (by rfl) (by (try simp only [hsl, hg, ht32, hsl, hg, h32, hsum]); first | done | exact ct_Ref17) ?_ | refine v_more tab_ok hN H (by rfl) (by rfl) (by (try simp only [hsl, hg, ht32, hsl, hg, h32, hsum]); first | done | exact ct_Ref17) ?_); clear H; intro a w H; replace H := nf_Ref17 H; first | (simp only [hsl, hg, ht32] at H; replace H := nf_Ref17 H) | skip; (try simp only [List.drop_succ_cons, List.drop_zero, List.drop_nil]); try refine wpList_nil ?_) | refine wp_region_lit ?_)
          exact ⟨k + 1, hlt, by omega, H.to 2 1 ⟨Nat.le_trans hN (by decide), Nat.le_trans hR (by decide)⟩ ⟨rfl, rfl, by rw [hs1]; rfl, rfl, rfl, rfl, rfl, trivial⟩ rfl (by rw [hs1]; rfl) rfl rfl rfl⟩
      · have hge : k = s.length := by rw [decide_eq_false_iff_not] at hb; omega
        subst hge
        rw [List.take_length] at H hhl2 hal
        have htl := text_len hw.e
        dsimp only at htl
        have htx : pre ++ hashes s ++ n.text = (Pf.mk s n).text := by rw [hpre, hhd]; simp [Pf.text]
        repeat (first | refine wp_seq ?_ | refine wp_block ?_ | refine wp_skip ?_ | refine wp_exit ?_ | ((first | refine v_some 5 tab_ok hN H (by rfl) (by (try simp only [hsl, hal]); first | done | exact ct_Ref17) ?_ | refine v_more tab_ok hN H (by rfl) (by rfl) (by (try simp only [hsl, hal]); first | done | exact ct_Ref17) ?_); clear H; intro a w H; replace H := nf_Ref17 H; first | (simp only [hsl] at H; replace H := nf_Ref17 H) | skip; (try simp only [List.drop_succ_cons, List.drop_zero, List.drop_nil]); try refine wpList_nil ?_) | refine wp_region_lit ?_)
        refine v_call [] [] (hen) H rfl rfl (by rfl) (by simp [pickB, bxs, ren, idx?, sub_refl, sub, allP, hsl] <;> omega) (by first | rfl | (simp [hsl] <;> omega)) (by first | exact trivial | exact ⟨sub_refl _ _, trivial⟩ | exact ⟨sub_refl _ _, sub_refl _ _, trivial⟩ | exact ⟨sub_refl _ _, sub_refl _ _, sub_refl _ _, trivial⟩ | exact ⟨⟨rfl, sub_refl _ _, trivial⟩, sub_refl _ _, trivial⟩ | (simp [cargs, cargsG, St.ev, St.tmp, find, ren, idx?, sub_refl, sub, allP, resv, resC, bss, hsl] <;> omega)) ?_; clear H; intro a w H; replace H := nf_Ref17 H; first | (simp only [hsl] at H; replace H := nf_Ref17 H) | skip; try refine wpList_nil ?_
        repeat (first | refine wp_seq ?_ | refine wp_block ?_ | refine wp_skip ?_ | refine wp_exit ?_ | ((first | refine v_some 5 tab_ok hN H (by rfl) (by (try simp only [hsl, hal]); first | done | exact ct_Ref17) ?_ | refine v_more tab_ok hN H (by rfl) (by rfl) (by (try simp only [hsl, hal]); first | done | exact ct_Ref17) ?_); clear H; intro a w H; replace H := nf_Ref17 H; first | (simp only [hsl] at H; replace H := nf_Ref17 H) | skip; (try simp only [List.drop_succ_cons, List.drop_zero, List.drop_nil]); try refine wpList_nil ?_) | refine wp_region_lit ?_)
        rw [← List.length_append, ← List.length_append, htx] at H
        refine wp_ret ?_
        exact v_end [] [0] tab_ok ⟨hN, hR⟩ (rs := [.tmp 2, .tmp 3]) (ress := [_, _]) rfl H (by rfl) (by rfl) (by simp [pickB, bxs, ren, idx?, sub_refl, sub, allP, hsl] <;> omega) (by first | rfl | (simp [hsl] <;> omega)) (by first | exact trivial | exact ⟨sub_refl _ _, trivial⟩ | exact ⟨sub_refl _ _, sub_refl _ _, trivial⟩ | exact ⟨sub_refl _ _, sub_refl _ _, sub_refl _ _, trivial⟩ | exact ⟨⟨rfl, sub_refl _ _, trivial⟩, sub_refl _ _, trivial⟩ | (simp [cargs, cargsG, St.ev, St.tmp, find, ren, idx?, sub_refl, sub, allP, resv, resC, bss, hsl] <;> omega)) rfl
/-- What the document's reading yields. -/
def rdR (l : List UInt8) : Pf :=
  if l.length < 2 then Pf.zero else
  if 256 < num 0 (l.take 2) then Pf.zero else
  if (l.drop 2).length < (num 0 (l.take 2) + 7) / 8 then Pf.zero else
  let x := runS (marksOf ((l.drop 2).take ((num 0 (l.take 2) + 7) / 8)) (num 0 (l.take 2))) ((l.drop 2).drop ((num 0 (l.take 2) + 7) / 8))
  if x.2.2 then ⟨x.1.dropLast, .zero⟩ else ⟨x.1, dec x.2.1⟩
theorem rdR_ok (l : List UInt8) (h : (rdQ l).2 = true) : rdR l = (rdQ l).1 := by
  unfold rdQ at *
  unfold rdR
  by_cases h1 : l.length < 2
  · rw [if_pos h1, if_pos h1]; rfl
  · rw [if_neg h1] at h; rw [if_neg h1, if_neg h1]
    by_cases h2 : 256 < num 0 (l.take 2)
    · rw [if_pos h2, if_pos h2]; rfl
    · rw [if_neg h2] at h; rw [if_neg h2, if_neg h2]
      by_cases h3 : (l.drop 2).length < (num 0 (l.take 2) + 7) / 8
      · rw [if_pos h3, if_pos h3]; rfl
      · rw [if_neg h3] at h; rw [if_neg h3, if_neg h3]
        dsimp only at h ⊢
        split
        · rename_i h4; rw [if_pos h4] at h; cases h
        · rfl
theorem rdR_wf (l : List UInt8) : (rdR l).wf := by
  unfold rdR
  split
  · exact pzero_wf
  · split
    · exact pzero_wf
    · split
      · exact pzero_wf
      · dsimp only
        split
        · exact ⟨fun h hh => runS_w _ _ h ((List.dropLast_sublist _).subset hh), zero_wf⟩
        · exact ⟨runS_w _ _, dec_wf _⟩
theorem num_two' (l : List UInt8) (h : 2 ≤ l.length) : (256 * ((l.getD 0 0).toNat : Int) + ((l.getD 1 0).toNat : Int)) = ((num 0 (l.take 2) : Nat) : Int) := by
  match l, h with
  | a :: b :: r, _ =>
    simp only [List.take_succ_cons, List.take_zero, num, List.getD_cons_zero, List.getD_cons_succ]
    omega
theorem fill_over (r e : List UInt8) (k : Nat) (hr : k < r.length) (he : k < e.length) (hl : e.length = 32) (hk : k < 32) : (r.take k ++ e.drop k).set k (r.getD k 0) = r.take (k + 1) ++ e.drop (k + 1) := by
  have h1 : (r.take k).length = k := by rw [List.length_take]; omega
  rw [List.drop_eq_getElem_cons he, List.set_append_right _ _ (by omega), h1, Nat.sub_self, List.set_cons_zero, List.take_succ_eq_append_getElem hr, List.append_assoc, List.getElem_eq_getD (0 : UInt8)]
  rfl
theorem getD_drop (l : List UInt8) (i j : Nat) : (l.drop i).getD j 0 = l.getD (i + j) 0 := by
  simp [List.getD, List.getElem?_drop]
set_option maxRecDepth 20000 in
theorem readR_small (l : List UInt8) (hl : l.length ≤ 34359730000) (h : l.length < 2 ∨ 256 < num 0 (l.take 2) ∨ (l.drop 2).length < (num 0 (l.take 2) + 7) / 8) : VC Try.prog 60 [.bs l none] [] (.tup [Pf.zero.av, .v (.bool false)]) := by
  have hz2 := z32_len
  simp only [Pf.zero, Pf.av, Nd.av, Nd.zero, bas, List.map_nil]
  by_cases hs : l.length < 2
  · refine v_enter Try.func60 rfl (by kernel_rfl) (by show 1 ≤ 104; decide) ?_
    intro N w0 a w hN hR H
    repeat (first | refine wp_seq ?_ | refine wp_block ?_ | refine wp_skip ?_ | refine wp_exit ?_ | ((first | refine v_some 5 tab_ok hN H (by rfl) ct_Ref17 ?_ | refine v_more tab_ok hN H (by rfl) (by rfl) ct_Ref17 ?_); clear H; intro a w H; replace H := nf_Ref17 H; (try simp only [List.drop_succ_cons, List.drop_zero, List.drop_nil]); try refine wpList_nil ?_) | refine wp_region_lit ?_)
    refine v_cond H (by rfl) (fun hb => ?_) (fun hb => ?_)
    · repeat (first | refine wp_seq ?_ | refine wp_block ?_ | refine wp_skip ?_ | refine wp_exit ?_ | ((first | refine v_some 5 tab_ok hN H (by rfl) ct_Ref17 ?_ | refine v_more tab_ok hN H (by rfl) (by rfl) ct_Ref17 ?_); clear H; intro a w H; replace H := nf_Ref17 H; (try simp only [List.drop_succ_cons, List.drop_zero, List.drop_nil]); try refine wpList_nil ?_) | refine wp_region_lit ?_)
      try simp only [hz] at H
      refine wp_ret ?_
      exact v_end [] [] tab_ok ⟨hN, hR⟩ (rs := [.cell 2 64, .tmp 3]) (ress := [_, _]) rfl H (by rfl) (by rfl) cb cw ca rfl
    · exfalso; rw [decide_eq_false_iff_not] at hb; omega
  · have h12 : (l.drop 2).length = l.length - 2 := List.length_drop
    have hb2 := num2_lt (l.take 2) (by rw [List.length_take]; omega)
    have hn2 := num_two' l (by omega)
    have hx0 := (l.getD 0 0).toNat_lt
    have hx1 := (l.getD 1 0).toNat_lt
    have hge : 2 ≤ l.length := by omega
    refine v_enter Try.func60 rfl (by kernel_rfl) (by show 1 ≤ 104; decide) ?_
    intro N w0 a w hN hR H
    repeat (first | refine wp_seq ?_ | refine wp_block ?_ | refine wp_skip ?_ | refine wp_exit ?_ | ((first | refine v_some 5 tab_ok hN H (by rfl) ct_Ref17 ?_ | refine v_more tab_ok hN H (by rfl) (by rfl) ct_Ref17 ?_); clear H; intro a w H; replace H := nf_Ref17 H; (try simp only [List.drop_succ_cons, List.drop_zero, List.drop_nil]); try refine wpList_nil ?_) | refine wp_region_lit ?_)
    refine v_cond H (by rfl) (fun hb => ?_) (fun hb => ?_)
    · exfalso; rw [decide_eq_true_eq] at hb; omega
    · repeat (first | refine wp_seq ?_ | refine wp_block ?_ | refine wp_skip ?_ | refine wp_exit ?_ | ((first | refine v_some 5 tab_ok hN H (by rfl) ct_Ref17 ?_ | refine v_more tab_ok hN H (by rfl) (by rfl) ct_Ref17 ?_); clear H; intro a w H; replace H := nf_Ref17 H; (try simp only [List.drop_succ_cons, List.drop_zero, List.drop_nil]); try refine wpList_nil ?_) | refine wp_region_lit ?_)
      repeat (first | refine wp_seq ?_ | refine wp_block ?_)
      refine v_draw 2 [] [] (by kernel_rfl) (by kernel_rfl) H (by rfl) (fun gS H => ?_); try replace H := nt_Ref17 H
      repeat (refine v_someT 5 tab_ok hN H (by rfl) ct_Ref17 ?_; clear H; intro a w H; replace H := nt_Ref17 H; simp only [List.drop_succ_cons, List.drop_zero, List.drop_nil])
      refine v_moreT tab_ok hN H (by rfl) ct_Ref17 ?_; clear H; intro a w H; try replace H := nt_Ref17 H
      refine v_drawNil H (fun H => ?_)
      rw [hn2] at H
      generalize num 0 (l.take 2) = n at *
      clear hn2 hx0 hx1
      repeat (first | refine wp_seq ?_ | refine wp_block ?_ | refine wp_skip ?_ | refine wp_exit ?_ | ((first | refine v_some 5 tab_ok hN H (by rfl) ct_Ref17 ?_ | refine v_more tab_ok hN H (by rfl) (by rfl) ct_Ref17 ?_); clear H; intro a w H; replace H := nf_Ref17 H; (try simp only [List.drop_succ_cons, List.drop_zero, List.drop_nil]); try refine wpList_nil ?_) | refine wp_region_lit ?_)
      refine v_cond H (by rfl) (fun hb => ?_) (fun hb => ?_)
      · repeat (first | refine wp_seq ?_ | refine wp_block ?_ | refine wp_skip ?_ | refine wp_exit ?_ | ((first | refine v_some 5 tab_ok hN H (by rfl) ct_Ref17 ?_ | refine v_more tab_ok hN H (by rfl) (by rfl) ct_Ref17 ?_); clear H; intro a w H; replace H := nf_Ref17 H; (try simp only [List.drop_succ_cons, List.drop_zero, List.drop_nil]); try refine wpList_nil ?_) | refine wp_region_lit ?_)
        try simp only [hz] at H
        refine wp_ret ?_
        exact v_end [] [] tab_ok ⟨hN, hR⟩ (rs := [.cell 2 64, .tmp 3]) (ress := [_, _]) rfl H (by rfl) (by rfl) cb cw ca rfl
      · exfalso
        have h' : 256 < n ∨ l.length < 2 + (n + 7) / 8 := by omega
        rcases h' with h' | h'
        · rw [decide_eq_true (show (256 : Int) < (n : Int) by omega)] at hb; simp at hb
        · by_cases h6 : 256 < n
          · rw [decide_eq_true (show (256 : Int) < (n : Int) by omega)] at hb; simp at hb
          · rw [decide_eq_false (show ¬ (256 : Int) < (n : Int) by omega), decide_eq_true (show (l.length : Int) < 2 + ((n : Int) + 7) / 8 by omega)] at hb; simp at hb
set_option maxRecDepth 20000 in
set_option maxHeartbeats 2000000 in
theorem readR_main (l : List UInt8) (hl : l.length ≤ 34359730000) (hs : ¬ l.length < 2) (hn : ¬ 256 < num 0 (l.take 2)) (hq : ¬ (l.drop 2).length < (num 0 (l.take 2) + 7) / 8) :
    VC Try.prog 60 [.bs l none] [] (.tup [(rdR l).av, .v (.bool (rdQ l).2)]) := by
  have h12 : (l.drop 2).length = l.length - 2 := List.length_drop
  rw [h12] at hq
  have hge2 : 2 ≤ l.length := by omega
  rw [rdQ, if_neg hs, if_neg hn, if_neg (by rw [h12]; exact hq), rdR, if_neg hs, if_neg hn, if_neg (by rw [h12]; exact hq)]
  have hn2 := num_two' l hge2
  have hx0 := (l.getD 0 0).toNat_lt
  have hx1 := (l.getD 1 0).toNat_lt
  obtain ⟨n, hne⟩ : ∃ n, n = num 0 (l.take 2) := ⟨_, rfl⟩
  rw [← hne] at hn hq hn2 ⊢
  clear hne
  dsimp only
  obtain ⟨bits, hbits⟩ : ∃ bits, bits = (l.drop 2).take ((n + 7) / 8) := ⟨_, rfl⟩
  obtain ⟨l3, hl3⟩ : ∃ l3, l3 = (l.drop 2).drop ((n + 7) / 8) := ⟨_, rfl⟩
  rw [← hbits, ← hl3]
  have hl3d : l3 = l.drop (2 + (n + 7) / 8) := by rw [hl3, List.drop_drop]
  clear hl3
  obtain ⟨ms, hms⟩ : ∃ ms, ms = marksOf bits n := ⟨_, rfl⟩
  rw [← hms]
  have hml : ms.length = n := by rw [hms, pmarks_len]
  have hsum := sum_length [0]
  have eE : sum [0] = E0 := rfl
  rw [eE] at hsum
  have hem := emptyR_v
  rw [eE] at hem
  have hz2 := z32_len
  refine v_enter Try.func60 rfl (by kernel_rfl) (by show 1 ≤ 104; decide) ?_
  intro N w0 a w hN hR H
  repeat (first | refine wp_seq ?_ | refine wp_block ?_ | refine wp_skip ?_ | refine wp_exit ?_ | ((first | refine v_some 5 tab_ok hN H (by rfl) ct_Ref17 ?_ | refine v_more tab_ok hN H (by rfl) (by rfl) ct_Ref17 ?_); clear H; intro a w H; replace H := nf_Ref17 H; (try simp only [List.drop_succ_cons, List.drop_zero, List.drop_nil]); try refine wpList_nil ?_) | refine wp_region_lit ?_)
  refine v_cond H (by rfl) (fun hb => ?_) (fun hb => ?_)
  · exfalso; rw [decide_eq_true_eq] at hb; omega
  · clear hb
    repeat (first | refine wp_seq ?_ | refine wp_block ?_ | refine wp_skip ?_ | refine wp_exit ?_ | ((first | refine v_some 5 tab_ok hN H (by rfl) ct_Ref17 ?_ | refine v_more tab_ok hN H (by rfl) (by rfl) ct_Ref17 ?_); clear H; intro a w H; replace H := nf_Ref17 H; (try simp only [List.drop_succ_cons, List.drop_zero, List.drop_nil]); try refine wpList_nil ?_) | refine wp_region_lit ?_)
    repeat (first | refine wp_seq ?_ | refine wp_block ?_)
    refine v_draw 2 [] [] (by kernel_rfl) (by kernel_rfl) H (by rfl) (fun gS H => ?_); try replace H := nt_Ref17 H
    repeat (refine v_someT 5 tab_ok hN H (by rfl) ct_Ref17 ?_; clear H; intro a w H; replace H := nt_Ref17 H; simp only [List.drop_succ_cons, List.drop_zero, List.drop_nil])
    refine v_moreT tab_ok hN H (by rfl) ct_Ref17 ?_; clear H; intro a w H; try replace H := nt_Ref17 H
    refine v_drawNil H (fun H => ?_)
    rw [hn2] at H
    clear hn2 hx0 hx1
    repeat (first | refine wp_seq ?_ | refine wp_block ?_ | refine wp_skip ?_ | refine wp_exit ?_ | ((first | refine v_some 5 tab_ok hN H (by rfl) ct_Ref17 ?_ | refine v_more tab_ok hN H (by rfl) (by rfl) ct_Ref17 ?_); clear H; intro a w H; replace H := nf_Ref17 H; (try simp only [List.drop_succ_cons, List.drop_zero, List.drop_nil]); try refine wpList_nil ?_) | refine wp_region_lit ?_)
    have e6 : (2 : Int) + ((n : Int) + 7) / 8 = ((2 + (n + 7) / 8 : Nat) : Int) := by omega
    rw [e6] at H
    clear e6
    refine v_cond H (by rfl) (fun hb => ?_) (fun hb => ?_)
    · exfalso
      rw [decide_eq_false (show ¬ (256 : Int) < (n : Int) by omega), decide_eq_false (show ¬ (l.length : Int) < ((2 + (n + 7) / 8 : Nat) : Int) by omega)] at hb
      simp at hb
    · clear hb
      repeat (first | refine wp_seq ?_ | refine wp_block ?_ | refine wp_skip ?_ | refine wp_exit ?_ | ((first | refine v_some 5 tab_ok hN H (by rfl) ct_Ref17 ?_ | refine v_more tab_ok hN H (by rfl) (by rfl) ct_Ref17 ?_); clear H; intro a w H; replace H := nf_Ref17 H; (try simp only [List.drop_succ_cons, List.drop_zero, List.drop_nil]); try refine wpList_nil ?_) | refine wp_region_lit ?_)
      have H := v_nilX tab_ok H 1 0 30 (j := ti30) (.ba 32) rfl (by decide) rfl rfl
      simp only [List.set_cons_succ, List.set_cons_zero, List.length_cons, List.length_nil, Nat.reduceAdd, List.cons_append, List.nil_append, hz] at H
      refine v_loop (fun i : Nat × List (List UInt8) × Nat => ⟨[(7, none, .v (.int .i64 (i.1 : Int))), (6, none, .v (.int .i64 (i.2.2 : Int))), (5, none, .v (.int .i64 (n : Int))), (4, none, .ptr 1 []), (3, none, .v (.bool false)), (2, none, .ptr 0 []), (0, none, .bs l none)],
        [(ti64.ty, .st [.v (.slice none 0 0), .st [.v (.int .u8 0), .ba z32, .ba z32, .ba z32, .ba z32]]), (ti64.ty, .st [.sl (.ba 32) (bas i.2.1) (some 0), .st [.v (.int .u8 0), .ba z32, .ba z32, .ba z32, .ba z32]])], [], [(30, i.2.1.length)]⟩)
        (fun i => At ms l3 (i.1, i.2.1, l.drop i.2.2, false) ∧ i.2.2 ≤ l.length) (fun i => n - i.1) (0, [], 2 + (n + 7) / 8) ⟨by dsimp only; rw [← hl3d]; exact at_start ms l3, by dsimp only; omega⟩ (H.to 2 1 ⟨Nat.le_trans hN (by decide), Nat.le_trans hR (by decide)⟩ ⟨rfl, rfl, rfl, rfl, rfl, rfl, rfl, trivial⟩ rfl rfl rfl rfl rfl) ?_
      clear H
      rintro ⟨k, ss, at_⟩ a w ⟨hat, hal⟩ H
      dsimp only at H hat hal
      have hk := hat.k
      have hsl := hat.len
      dsimp only at hk hsl
      have hbl' := bas_len ss
      repeat (first | refine wp_seq ?_ | refine wp_block ?_ | refine wp_skip ?_ | refine wp_exit ?_ | ((first | refine v_some 5 tab_ok hN H (by rfl) ct_Ref17 ?_ | refine v_more tab_ok hN H (by rfl) (by rfl) ct_Ref17 ?_); clear H; intro a w H; replace H := nf_Ref17 H; (try simp only [List.drop_succ_cons, List.drop_zero, List.drop_nil]); try refine wpList_nil ?_) | refine wp_region_lit ?_)
      refine v_cond H (by rfl) (fun hb => ?_) (fun hb => ?_)
      · have hkn : k < n := by rw [decide_eq_true_eq] at hb; omega
        clear hb
        have e8 : ((2 : Int) + (k : Int) / 8).toNat = 2 + k / 8 := by omega
        have hdr := marks_drop bits n k hkn
        rw [← hms] at hdr
        have hkm : k < ms.length := by omega
        have hbc : bits.getD (k / 8) 0 = l.getD (2 + k / 8) 0 := by
          rw [hbits, ← getD_drop]
          simp only [List.getD, List.getElem?_take]
          rw [if_pos (by omega)]
        rw [hbc] at hdr
        obtain ⟨c, hc⟩ : ∃ c, c = l.getD (2 + k / 8) 0 := ⟨_, rfl⟩
        rw [← hc] at hdr
        have hc8 := c.toNat_lt
        repeat (first | refine wp_seq ?_ | refine wp_block ?_ | refine wp_skip ?_ | refine wp_exit ?_ | ((first | refine v_some 5 tab_ok hN H (by rfl) (by (try simp only [e8, ← hc, e8]); first | done | exact ct_Ref17) ?_ | refine v_more tab_ok hN H (by rfl) (by rfl) (by (try simp only [e8, ← hc, e8]); first | done | exact ct_Ref17) ?_); clear H; intro a w H; replace H := nf_Ref17 H; first | (simp only [e8, ← hc] at H; replace H := nf_Ref17 H) | skip; (try simp only [List.drop_succ_cons, List.drop_zero, List.drop_nil]); try refine wpList_nil ?_) | refine wp_region_lit ?_)
        refine v_loop (fun j : Nat => ⟨[(9, none, .v (.int .i64 (j : Int))), (8, none, .v (.int .i64 ((c.toNat / 2 ^ j : Nat) : Int))), (7, none, .v (.int .i64 (k : Int))), (6, none, .v (.int .i64 (at_ : Int))), (5, none, .v (.int .i64 (n : Int))), (4, none, .ptr 1 []), (3, none, .v (.bool false)), (2, none, .ptr 0 []), (0, none, .bs l none)],
          [(ti64.ty, .st [.v (.slice none 0 0), .st [.v (.int .u8 0), .ba z32, .ba z32, .ba z32, .ba z32]]), (ti64.ty, .st [.sl (.ba 32) (bas ss) (some 0), .st [.v (.int .u8 0), .ba z32, .ba z32, .ba z32, .ba z32]])], [], [(30, ss.length)]⟩)
          (fun j => j ≤ 7 - k % 8) (fun j => 8 - j) 0 (Nat.zero_le _) (H.to 2 1 ⟨Nat.le_trans hN (by decide), Nat.le_trans hR (by decide)⟩ ⟨rfl, by rw [Nat.pow_zero, Nat.div_one]; rfl, rfl, rfl, rfl, rfl, rfl, rfl, rfl, trivial⟩ rfl rfl rfl rfl rfl) ?_
        clear H
        intro j a w hj H
        have hlt2 : c.toNat / 2 ^ j < 256 := Nat.lt_of_le_of_lt (Nat.div_le_self _ _) hc8
        obtain ⟨v, hv⟩ : ∃ v, v = c.toNat / 2 ^ j := ⟨_, rfl⟩
        rw [← hv] at H hlt2
        have hv' : PLift (v = c.toNat / 2 ^ j) := ⟨hv⟩
        clear hv
        repeat (first | refine wp_seq ?_ | refine wp_block ?_ | refine wp_skip ?_ | refine wp_exit ?_ | ((first | refine v_some 5 tab_ok hN H (by rfl) ct_Ref17 ?_ | refine v_more tab_ok hN H (by rfl) (by rfl) ct_Ref17 ?_); clear H; intro a w H; replace H := nf_Ref17 H; (try simp only [List.drop_succ_cons, List.drop_zero, List.drop_nil]); try refine wpList_nil ?_) | refine wp_region_lit ?_)
        refine v_cond H (by rfl) (fun hb => ?_) (fun hb => ?_)
        · have hlt : j < 7 - k % 8 := by rw [decide_eq_true_eq] at hb; omega
          clear hb
          repeat (first | refine wp_seq ?_ | refine wp_block ?_ | refine wp_skip ?_ | refine wp_exit ?_ | ((first | refine v_some 5 tab_ok hN H (by rfl) ct_Ref17 ?_ | refine v_more tab_ok hN H (by rfl) (by rfl) ct_Ref17 ?_); clear H; intro a w H; replace H := nf_Ref17 H; (try simp only [List.drop_succ_cons, List.drop_zero, List.drop_nil]); try refine wpList_nil ?_) | refine wp_region_lit ?_)
          have e2 : (v : Int) / 2 = ((c.toNat / 2 ^ (j + 1) : Nat) : Int) := by
            have hv : v = c.toNat / 2 ^ j := hv'.down
            rw [Nat.pow_succ, ← Nat.div_div_eq_div_mul, ← hv]; omega
          rw [e2] at H
          exact ⟨j + 1, hlt, by omega, H.to 2 1 ⟨Nat.le_trans hN (by decide), Nat.le_trans hR (by decide)⟩ ⟨rfl, rfl, rfl, rfl, rfl, rfl, rfl, rfl, rfl, trivial⟩ rfl rfl rfl rfl rfl⟩
        · have hge : j = 7 - k % 8 := by rw [decide_eq_false_iff_not] at hb; omega
          clear hb
          have hb2 : v % 2 = if bitAt c (k % 8) then 1 else 0 := by
            have hv : v = c.toNat / 2 ^ j := hv'.down
            rw [hv, hge]; exact half_bit c (k % 8) (by omega)
          clear hge hv' hj
          have hE33 : E0.drop 32 = [] := List.drop_eq_nil_of_le (by omega)
          repeat (first | refine wp_seq ?_ | refine wp_block ?_ | refine wp_skip ?_ | refine wp_exit ?_ | ((first | refine v_some 5 tab_ok hN H (by rfl) ct_Ref17 ?_ | refine v_more tab_ok hN H (by rfl) (by rfl) ct_Ref17 ?_); clear H; intro a w H; replace H := nf_Ref17 H; (try simp only [List.drop_succ_cons, List.drop_zero, List.drop_nil]); try refine wpList_nil ?_) | refine wp_region_lit ?_)
          refine v_call [] [] (hem) H rfl rfl (by rfl) cb cw ca ?_; clear H; intro a w H; replace H := nf_Ref17 H; try refine wpList_nil ?_
          repeat (first | refine wp_seq ?_ | refine wp_block ?_ | refine wp_skip ?_ | refine wp_exit ?_ | ((first | refine v_some 5 tab_ok hN H (by rfl) ct_Ref17 ?_ | refine v_more tab_ok hN H (by rfl) (by rfl) ct_Ref17 ?_); clear H; intro a w H; replace H := nf_Ref17 H; (try simp only [List.drop_succ_cons, List.drop_zero, List.drop_nil]); try refine wpList_nil ?_) | refine wp_region_lit ?_)
          refine v_cond H (by rfl) (fun hb => ?_) (fun hb => ?_)
          · have hbt : bitAt c (k % 8) = true := by
              cases h : bitAt c (k % 8)
              · rw [h] at hb2; rw [decide_eq_true_eq] at hb; simp at hb2; omega
              · rfl
            rw [hbt] at hdr
            clear hb hb2
            repeat (first | refine wp_seq ?_ | refine wp_block ?_ | refine wp_skip ?_ | refine wp_exit ?_ | ((first | refine v_some 5 tab_ok hN H (by rfl) ct_Ref17 ?_ | refine v_more tab_ok hN H (by rfl) (by rfl) ct_Ref17 ?_); clear H; intro a w H; replace H := nf_Ref17 H; (try simp only [List.drop_succ_cons, List.drop_zero, List.drop_nil]); try refine wpList_nil ?_) | refine wp_region_lit ?_)
            have hrl : (l.drop at_).length = l.length - at_ := List.length_drop
            refine v_cond H (by rfl) (fun hb => ?_) (fun hb => ?_)
            · have hr : (l.drop at_).length < 32 := by rw [decide_eq_true_eq] at hb; omega
              have hbad := (at_bad (ms' := ms) hat hdr hkm hr).no rfl
              dsimp only at hbad
              rw [hbad]
              simp only [if_true, List.dropLast_concat]
              repeat (first | refine wp_seq ?_ | refine wp_block ?_ | refine wp_skip ?_ | refine wp_exit ?_ | ((first | refine v_some 5 tab_ok hN H (by rfl) ct_Ref17 ?_ | refine v_more tab_ok hN H (by rfl) (by rfl) ct_Ref17 ?_); clear H; intro a w H; replace H := nf_Ref17 H; (try simp only [List.drop_succ_cons, List.drop_zero, List.drop_nil]); try refine wpList_nil ?_) | refine wp_region_lit ?_)
              simp only [Pf.av, Nd.av, Nd.zero]
              try simp only [hz] at H
              refine wp_ret ?_
              exact v_end [] [] tab_ok ⟨hN, hR⟩ (rs := [.cell 2 64, .tmp 3]) (ress := [_, _]) rfl H (by rfl) (by rfl) cb cw ca rfl
            · have hr : ¬ (l.drop at_).length < 32 := by rw [decide_eq_false_iff_not] at hb; omega
              clear hb
              repeat (first | refine wp_seq ?_ | refine wp_block ?_ | refine wp_skip ?_ | refine wp_exit ?_ | ((first | refine v_some 5 tab_ok hN H (by rfl) ct_Ref17 ?_ | refine v_more tab_ok hN H (by rfl) (by rfl) ct_Ref17 ?_); clear H; intro a w H; replace H := nf_Ref17 H; (try simp only [List.drop_succ_cons, List.drop_zero, List.drop_nil]); try refine wpList_nil ?_) | refine wp_region_lit ?_)
              refine v_loop (fun j : Nat => ⟨[(11, none, .v (.int .i64 (j : Int))), (10, none, .ptr 2 []), (7, none, .v (.int .i64 (k : Int))), (6, none, .v (.int .i64 (at_ : Int))), (5, none, .v (.int .i64 (n : Int))), (4, none, .ptr 1 []), (3, none, .v (.bool false)), (2, none, .ptr 0 []), (0, none, .bs l none)],
                [(ti64.ty, .st [.v (.slice none 0 0), .st [.v (.int .u8 0), .ba z32, .ba z32, .ba z32, .ba z32]]), (ti64.ty, .st [.sl (.ba 32) (bas ss) (some 0), .st [.v (.int .u8 0), .ba z32, .ba z32, .ba z32, .ba z32]]), (.ba 32, .ba ((l.drop at_).take j ++ E0.drop j))], [], [(30, ss.length)]⟩)
                (fun j => j ≤ 32) (fun j => 32 - j) 0 (Nat.zero_le _) (H.to 3 1 ⟨Nat.le_trans hN (by decide), Nat.le_trans hR (by decide)⟩ ⟨rfl, rfl, rfl, rfl, rfl, rfl, rfl, rfl, rfl, trivial⟩ rfl rfl rfl rfl rfl) ?_
              clear H
              intro j a w hj H
              have hcl : ((l.drop at_).take j ++ E0.drop j).length = 32 := by rw [List.length_append, List.length_take, List.length_drop, List.length_drop, hsum]; omega
              repeat (first | refine wp_seq ?_ | refine wp_block ?_ | refine wp_skip ?_ | refine wp_exit ?_ | ((first | refine v_some 5 tab_ok hN H (by rfl) ct_Ref17 ?_ | refine v_more tab_ok hN H (by rfl) (by rfl) ct_Ref17 ?_); clear H; intro a w H; replace H := nf_Ref17 H; (try simp only [List.drop_succ_cons, List.drop_zero, List.drop_nil]); try refine wpList_nil ?_) | refine wp_region_lit ?_)
              refine v_cond H (by rfl) (fun hb => ?_) (fun hb => ?_)
              · have hlt : j < 32 := by rw [decide_eq_true_eq] at hb; omega
                clear hb
                have e9 : ((at_ : Int) + (j : Int)).toNat = at_ + j := by omega
                have hx := (l.getD (at_ + j) 0).toNat_lt
                have hf := fill_over (l.drop at_) E0 j (by omega) (by omega) hsum hlt
                rw [getD_drop] at hf
                repeat (first | refine wp_seq ?_ | refine wp_block ?_ | refine wp_skip ?_ | refine wp_exit ?_ | ((first | refine v_some 5 tab_ok hN H (by rfl) (by (try simp only [e9, e9, hcl]); first | done | exact ct_Ref17) ?_ | refine v_more tab_ok hN H (by rfl) (by rfl) (by (try simp only [e9, e9, hcl]); first | done | exact ct_Ref17) ?_); clear H; intro a w H; replace H := nf_Ref17 H; first | (simp only [e9] at H; replace H := nf_Ref17 H) | skip; (try simp only [List.drop_succ_cons, List.drop_zero, List.drop_nil]); try refine wpList_nil ?_) | refine wp_region_lit ?_)
                rw [hf] at H
                exact ⟨j + 1, hlt, by omega, H.to 3 1 ⟨Nat.le_trans hN (by decide), Nat.le_trans hR (by decide)⟩ ⟨rfl, rfl, rfl, rfl, rfl, rfl, rfl, rfl, rfl, trivial⟩ rfl rfl rfl rfl rfl⟩
              · have hge : j = 32 := by rw [decide_eq_false_iff_not] at hb; omega
                subst hge
                clear hb
                rw [hE33, List.append_nil] at H
                have h32 : ((l.drop at_).take 32).length = 32 := by rw [List.length_take]; omega
                have hnx := at_next (ms' := ms) (m := true) hat hdr hkm (fun h => hr h.2)
                simp only [if_true] at hnx
                rw [List.drop_drop] at hnx
                have hbs2 : bas (ss ++ [(l.drop at_).take 32]) = bas ss ++ [.ba ((l.drop at_).take 32)] := by simp [bas]
                generalize (l.drop at_).take 32 = h9 at *
                repeat (first | refine wp_seq ?_ | refine wp_block ?_ | refine wp_skip ?_ | refine wp_exit ?_ | ((first | refine v_some 5 tab_ok hN H (by rfl) (by (try simp only [hbl', h32]); first | done | exact ct_Ref17) ?_ | refine v_more tab_ok hN H (by rfl) (by rfl) (by (try simp only [hbl', h32]); first | done | exact ct_Ref17) ?_); clear H; intro a w H; replace H := nf_Ref17 H; first | (simp only [hbl'] at H; replace H := nf_Ref17 H) | skip; (try simp only [List.drop_succ_cons, List.drop_zero, List.drop_nil]); try refine wpList_nil ?_) | refine wp_region_lit ?_)
                exact ⟨(k + 1, ss ++ [h9], at_ + 32), ⟨hnx, by dsimp only; omega⟩, by dsimp only; omega, H.to 2 1 ⟨Nat.le_trans hN (by decide), Nat.le_trans hR (by decide)⟩ ⟨rfl, rfl, rfl, rfl, rfl, rfl, rfl, trivial⟩ (by dsimp only; rw [hbs2]; rfl) (by dsimp only; rw [List.length_append]; rfl) rfl rfl rfl⟩
          · have hbt : bitAt c (k % 8) = false := by
              cases h : bitAt c (k % 8)
              · rfl
              · rw [h] at hb2; rw [decide_eq_false_iff_not] at hb; simp at hb2; omega
            rw [hbt] at hdr
            clear hb hb2
            have hnx := at_next (ms' := ms) (m := false) hat hdr hkm (fun h => by cases h.1)
            simp only [Bool.false_eq_true, if_false] at hnx
            have hbs : bas (ss ++ [E0]) = bas ss ++ [.ba E0] := by simp [bas]
            repeat (first | refine wp_seq ?_ | refine wp_block ?_ | refine wp_skip ?_ | refine wp_exit ?_ | ((first | refine v_some 5 tab_ok hN H (by rfl) (by (try simp only [hbl', h32]); first | done | exact ct_Ref17) ?_ | refine v_more tab_ok hN H (by rfl) (by rfl) (by (try simp only [hbl', h32]); first | done | exact ct_Ref17) ?_); clear H; intro a w H; replace H := nf_Ref17 H; first | (simp only [hbl'] at H; replace H := nf_Ref17 H) | skip; (try simp only [List.drop_succ_cons, List.drop_zero, List.drop_nil]); try refine wpList_nil ?_) | refine wp_region_lit ?_)
            exact ⟨(k + 1, ss ++ [E0], at_), ⟨hnx, hal⟩, by dsimp only; omega, H.to 2 1 ⟨Nat.le_trans hN (by decide), Nat.le_trans hR (by decide)⟩ ⟨rfl, rfl, rfl, rfl, rfl, rfl, rfl, trivial⟩ (by dsimp only; rw [hbs]; rfl) (by dsimp only; rw [List.length_append]; rfl) rfl rfl rfl⟩
      · have hge : k = n := by rw [decide_eq_false_iff_not] at hb; omega
        subst hge
        clear hb
        have hrun := hat.ok rfl
        dsimp only at hrun
        rw [← hml, List.drop_length] at hrun
        simp only [runS, List.append_nil] at hrun
        rw [hrun]
        simp only [Bool.false_eq_true, if_false]
        have hd := decodeR_v (l.drop at_)
        obtain ⟨k1, k2, k3, k4⟩ := id (dec_wf (l.drop at_))
        simp only [Nd.av] at hd
        repeat (first | refine wp_seq ?_ | refine wp_block ?_ | refine wp_skip ?_ | refine wp_exit ?_ | ((first | refine v_some 5 tab_ok hN H (by rfl) (by (try simp only [List.take_length]); first | done | exact ct_Ref17) ?_ | refine v_more tab_ok hN H (by rfl) (by rfl) (by (try simp only [List.take_length]); first | done | exact ct_Ref17) ?_); clear H; intro a w H; replace H := nf_Ref17 H; first | (simp only [List.take_length] at H; replace H := nf_Ref17 H) | skip; (try simp only [List.drop_succ_cons, List.drop_zero, List.drop_nil]); try refine wpList_nil ?_) | refine wp_region_lit ?_)
        refine v_call [] [] (hd) H rfl rfl (by rfl) (by simp [pickB, bxs, ren, idx?, sub_refl, sub, allP, List.take_length] <;> omega) (by first | rfl | (simp [List.take_length] <;> omega)) (by first | exact trivial | exact ⟨sub_refl _ _, trivial⟩ | exact ⟨sub_refl _ _, sub_refl _ _, trivial⟩ | exact ⟨sub_refl _ _, sub_refl _ _, sub_refl _ _, trivial⟩ | exact ⟨⟨rfl, sub_refl _ _, trivial⟩, sub_refl _ _, trivial⟩ | (simp [cargs, cargsG, St.ev, St.tmp, find, ren, idx?, sub_refl, sub, allP, resv, resC, bss, List.take_length] <;> omega)) ?_; clear H; intro a w H; replace H := nf_Ref17 H; first | (simp only [List.take_length] at H; replace H := nf_Ref17 H) | skip; try refine wpList_nil ?_
        repeat (first | refine wp_seq ?_ | refine wp_block ?_ | refine wp_skip ?_ | refine wp_exit ?_ | ((first | refine v_some 5 tab_ok hN H (by rfl) (by (try simp only [List.take_length]); first | done | exact ct_Ref17) ?_ | refine v_more tab_ok hN H (by rfl) (by rfl) (by (try simp only [List.take_length]); first | done | exact ct_Ref17) ?_); clear H; intro a w H; replace H := nf_Ref17 H; first | (simp only [List.take_length] at H; replace H := nf_Ref17 H) | skip; (try simp only [List.drop_succ_cons, List.drop_zero, List.drop_nil]); try refine wpList_nil ?_) | refine wp_region_lit ?_)
        by_cases hdo : decOk (l.drop at_)
        · rw [if_pos hdo] at H
          rw [decide_eq_true hdo]
          simp only [Pf.av, Nd.av]
          repeat (first | refine wp_seq ?_ | refine wp_block ?_ | refine wp_skip ?_ | refine wp_exit ?_ | ((first | refine v_some 5 tab_ok hN H (by rfl) (by (try simp only [List.take_length]); first | done | exact ct_Ref17) ?_ | refine v_more tab_ok hN H (by rfl) (by rfl) (by (try simp only [List.take_length]); first | done | exact ct_Ref17) ?_); clear H; intro a w H; replace H := nf_Ref17 H; first | (simp only [List.take_length] at H; replace H := nf_Ref17 H) | skip; (try simp only [List.drop_succ_cons, List.drop_zero, List.drop_nil]); try refine wpList_nil ?_) | refine wp_region_lit ?_)
          refine wp_ret ?_
          exact v_end [] [] tab_ok ⟨hN, hR⟩ (rs := [.cell 2 64, .tmp 3]) (ress := [_, _]) rfl H (by rfl) (by rfl) (by simp [pickB, bxs, ren, idx?, sub_refl, sub, allP, List.take_length] <;> omega) (by first | rfl | (simp [List.take_length] <;> omega)) (by first | exact trivial | exact ⟨sub_refl _ _, trivial⟩ | exact ⟨sub_refl _ _, sub_refl _ _, trivial⟩ | exact ⟨sub_refl _ _, sub_refl _ _, sub_refl _ _, trivial⟩ | exact ⟨⟨rfl, sub_refl _ _, trivial⟩, sub_refl _ _, trivial⟩ | (simp [cargs, cargsG, St.ev, St.tmp, find, ren, idx?, sub_refl, sub, allP, resv, resC, bss, List.take_length] <;> omega)) rfl
        · rw [if_neg hdo] at H
          rw [decide_eq_false hdo]
          simp only [Pf.av, Nd.av]
          repeat (first | refine wp_seq ?_ | refine wp_block ?_ | refine wp_skip ?_ | refine wp_exit ?_ | ((first | refine v_some 5 tab_ok hN H (by rfl) (by (try simp only [List.take_length]); first | done | exact ct_Ref17) ?_ | refine v_more tab_ok hN H (by rfl) (by rfl) (by (try simp only [List.take_length]); first | done | exact ct_Ref17) ?_); clear H; intro a w H; replace H := nf_Ref17 H; first | (simp only [List.take_length] at H; replace H := nf_Ref17 H) | skip; (try simp only [List.drop_succ_cons, List.drop_zero, List.drop_nil]); try refine wpList_nil ?_) | refine wp_region_lit ?_)
          refine wp_ret ?_
          exact v_end [] [] tab_ok ⟨hN, hR⟩ (rs := [.cell 2 64, .tmp 3]) (ress := [_, _]) rfl H (by rfl) (by rfl) (by simp [pickB, bxs, ren, idx?, sub_refl, sub, allP, List.take_length] <;> omega) (by first | rfl | (simp [List.take_length] <;> omega)) (by first | exact trivial | exact ⟨sub_refl _ _, trivial⟩ | exact ⟨sub_refl _ _, sub_refl _ _, trivial⟩ | exact ⟨sub_refl _ _, sub_refl _ _, sub_refl _ _, trivial⟩ | exact ⟨⟨rfl, sub_refl _ _, trivial⟩, sub_refl _ _, trivial⟩ | (simp [cargs, cargsG, St.ev, St.tmp, find, ren, idx?, sub_refl, sub, allP, resv, resC, bss, List.take_length] <;> omega)) rfl
theorem readR_v (l : List UInt8) (hl : l.length ≤ 34359730000) : VC Try.prog 60 [.bs l none] [] (.tup [(rdR l).av, .v (.bool (rdQ l).2)]) := by
  by_cases h : l.length < 2 ∨ 256 < num 0 (l.take 2) ∨ (l.drop 2).length < (num 0 (l.take 2) + 7) / 8
  · have h0 := readR_small l hl h
    have e : rdR l = Pf.zero ∧ (rdQ l).2 = false := by
      unfold rdR rdQ
      rcases h with h | h | h
      · rw [if_pos h, if_pos h]; exact ⟨rfl, rfl⟩
      · by_cases h1 : l.length < 2
        · rw [if_pos h1, if_pos h1]; exact ⟨rfl, rfl⟩
        · rw [if_neg h1, if_neg h1, if_pos h, if_pos h]; exact ⟨rfl, rfl⟩
      · by_cases h1 : l.length < 2
        · rw [if_pos h1, if_pos h1]; exact ⟨rfl, rfl⟩
        · by_cases h2 : 256 < num 0 (l.take 2)
          · rw [if_neg h1, if_neg h1, if_pos h2, if_pos h2]; exact ⟨rfl, rfl⟩
          · rw [if_neg h1, if_neg h1, if_neg h2, if_neg h2, if_pos h, if_pos h]; exact ⟨rfl, rfl⟩
    rw [e.1, e.2]; exact h0
  · exact readR_main l hl (fun e => h (.inl e)) (fun e => h (.inr (.inl e))) (fun e => h (.inr (.inr e)))
set_option maxRecDepth 20000 in
set_option maxHeartbeats 1000000 in
theorem decPR_v (l : List UInt8) (hl : l.length ≤ 34359730000) : VC Try.prog 36 [.bs l none] [] (.tup [(pDec l).av, errv (if pOk l then 0 else 10)]) := by
  have hz2 := z32_len
  have hrd := readR_v l hl
  have hrk := rdR_ok l
  have hrw := rdR_wf l
  have hp : pOk l ↔ (rdQ l).2 = true ∧ (rdQ l).1.chk = 0 ∧ (rdQ l).1.text = l := Iff.rfl
  obtain ⟨q, hq⟩ : ∃ q, q = rdR l := ⟨_, rfl⟩
  rw [← hq] at hrd hrk hrw
  clear hq
  obtain ⟨g1, g2, g3, g4⟩ := id hrw.e
  cases hok : (rdQ l).2
  · rw [hok] at hrd
    have hno : ¬ pOk l := fun h => by rw [hp, hok] at h; cases h.1
    rw [if_neg hno, pDec, if_neg hno]
    refine v_enter Try.func36 rfl (by kernel_rfl) (by show 1 ≤ 32; decide) ?_
    intro N w0 a w hN hR H
    repeat (first | refine wp_seq ?_ | refine wp_block ?_ | refine wp_skip ?_ | refine wp_exit ?_ | ((first | refine v_some 5 tab_ok hN H (by rfl) ct_Ref17 ?_ | refine v_more tab_ok hN H (by rfl) (by rfl) ct_Ref17 ?_); clear H; intro a w H; replace H := nf_Ref17 H; (try simp only [List.drop_succ_cons, List.drop_zero, List.drop_nil]); try refine wpList_nil ?_) | refine wp_region_lit ?_)
    simp only [Pf.av, Nd.av] at hrd
    refine v_call [] [] (hrd) H rfl rfl (by rfl) cb cw ca ?_; clear H; intro a w H; replace H := nf_Ref17 H; try refine wpList_nil ?_
    repeat (first | refine wp_seq ?_ | refine wp_block ?_ | refine wp_skip ?_ | refine wp_exit ?_ | ((first | refine v_some 5 tab_ok hN H (by rfl) ct_Ref17 ?_ | refine v_more tab_ok hN H (by rfl) (by rfl) ct_Ref17 ?_); clear H; intro a w H; replace H := nf_Ref17 H; (try simp only [List.drop_succ_cons, List.drop_zero, List.drop_nil]); try refine wpList_nil ?_) | refine wp_region_lit ?_)
    refine v_cond H (by rfl) (fun hb => ?_) (fun hb => ?_)
    · repeat (first | refine wp_seq ?_ | refine wp_block ?_ | refine wp_skip ?_ | refine wp_exit ?_ | ((first | refine v_some 5 tab_ok hN H (by rfl) ct_Ref17 ?_ | refine v_more tab_ok hN H (by rfl) (by rfl) ct_Ref17 ?_); clear H; intro a w H; replace H := nf_Ref17 H; (try simp only [List.drop_succ_cons, List.drop_zero, List.drop_nil]); try refine wpList_nil ?_) | refine wp_region_lit ?_)
      simp only [Pf.zero, Pf.av, Nd.av, Nd.zero, bas, List.map_nil]
      try simp only [hz] at H
      refine wp_ret ?_
      exact v_end [] [] tab_ok ⟨hN, hR⟩ (rs := [.cell 2 64, .tmp 3]) (ress := [_, _]) rfl H (by rfl) (by rfl) cb cw ca rfl
    · simp at hb
  · rw [hok] at hrd
    have hqe := hrk hok
    by_cases hc : q.chk = 0
    · have h2 := encR_ok q hrw hc
      by_cases ht : q.text = l
      · have hyes : pOk l := hp.2 ⟨hok, by rw [← hqe]; exact hc, by rw [← hqe]; exact ht⟩
        rw [if_pos hyes, pDec, if_pos hyes, ← hqe]
        refine v_enter Try.func36 rfl (by kernel_rfl) (by show 1 ≤ 32; decide) ?_
        intro N w0 a w hN hR H
        repeat (first | refine wp_seq ?_ | refine wp_block ?_ | refine wp_skip ?_ | refine wp_exit ?_ | ((first | refine v_some 5 tab_ok hN H (by rfl) ct_Ref17 ?_ | refine v_more tab_ok hN H (by rfl) (by rfl) ct_Ref17 ?_); clear H; intro a w H; replace H := nf_Ref17 H; (try simp only [List.drop_succ_cons, List.drop_zero, List.drop_nil]); try refine wpList_nil ?_) | refine wp_region_lit ?_)
        simp only [Pf.av, Nd.av] at hrd h2
        refine v_call [] [] (hrd) H rfl rfl (by rfl) cb cw ca ?_; clear H; intro a w H; replace H := nf_Ref17 H; try refine wpList_nil ?_
        repeat (first | refine wp_seq ?_ | refine wp_block ?_ | refine wp_skip ?_ | refine wp_exit ?_ | ((first | refine v_some 5 tab_ok hN H (by rfl) ct_Ref17 ?_ | refine v_more tab_ok hN H (by rfl) (by rfl) ct_Ref17 ?_); clear H; intro a w H; replace H := nf_Ref17 H; (try simp only [List.drop_succ_cons, List.drop_zero, List.drop_nil]); try refine wpList_nil ?_) | refine wp_region_lit ?_)
        refine v_cond H (by rfl) (fun hb => ?_) (fun hb => ?_)
        · simp at hb
        · repeat (first | refine wp_seq ?_ | refine wp_block ?_ | refine wp_skip ?_ | refine wp_exit ?_ | ((first | refine v_some 5 tab_ok hN H (by rfl) ct_Ref17 ?_ | refine v_more tab_ok hN H (by rfl) (by rfl) ct_Ref17 ?_); clear H; intro a w H; replace H := nf_Ref17 H; (try simp only [List.drop_succ_cons, List.drop_zero, List.drop_nil]); try refine wpList_nil ?_) | refine wp_region_lit ?_)
          refine v_call [] [] (h2) H rfl rfl (by rfl) cb cw ca ?_; clear H; intro a w H; replace H := nf_Ref17 H; try refine wpList_nil ?_
          repeat (first | refine wp_seq ?_ | refine wp_block ?_ | refine wp_skip ?_ | refine wp_exit ?_ | ((first | refine v_some 5 tab_ok hN H (by rfl) ct_Ref17 ?_ | refine v_more tab_ok hN H (by rfl) (by rfl) ct_Ref17 ?_); clear H; intro a w H; replace H := nf_Ref17 H; (try simp only [List.drop_succ_cons, List.drop_zero, List.drop_nil]); try refine wpList_nil ?_) | refine wp_region_lit ?_)
          refine v_cond H (by rfl) (fun hb => ?_) (fun hb => ?_)
          · exfalso; rw [ht] at hb; simp at hb
          · repeat (first | refine wp_seq ?_ | refine wp_block ?_ | refine wp_skip ?_ | refine wp_exit ?_ | ((first | refine v_some 5 tab_ok hN H (by rfl) ct_Ref17 ?_ | refine v_more tab_ok hN H (by rfl) (by rfl) ct_Ref17 ?_); clear H; intro a w H; replace H := nf_Ref17 H; (try simp only [List.drop_succ_cons, List.drop_zero, List.drop_nil]); try refine wpList_nil ?_) | refine wp_region_lit ?_)
            simp only [Pf.av, Nd.av]
            refine wp_ret ?_
            exact v_end [] [] tab_ok ⟨hN, hR⟩ (rs := [.cell 2 64, .tmp 3]) (ress := [_, _]) rfl H (by rfl) (by rfl) cb cw ca rfl
      · have hno : ¬ pOk l := fun h => ht (by rw [hqe]; exact h.2.2)
        rw [if_neg hno, pDec, if_neg hno]
        refine v_enter Try.func36 rfl (by kernel_rfl) (by show 1 ≤ 32; decide) ?_
        intro N w0 a w hN hR H
        repeat (first | refine wp_seq ?_ | refine wp_block ?_ | refine wp_skip ?_ | refine wp_exit ?_ | ((first | refine v_some 5 tab_ok hN H (by rfl) ct_Ref17 ?_ | refine v_more tab_ok hN H (by rfl) (by rfl) ct_Ref17 ?_); clear H; intro a w H; replace H := nf_Ref17 H; (try simp only [List.drop_succ_cons, List.drop_zero, List.drop_nil]); try refine wpList_nil ?_) | refine wp_region_lit ?_)
        simp only [Pf.av, Nd.av] at hrd h2
        refine v_call [] [] (hrd) H rfl rfl (by rfl) cb cw ca ?_; clear H; intro a w H; replace H := nf_Ref17 H; try refine wpList_nil ?_
        repeat (first | refine wp_seq ?_ | refine wp_block ?_ | refine wp_skip ?_ | refine wp_exit ?_ | ((first | refine v_some 5 tab_ok hN H (by rfl) ct_Ref17 ?_ | refine v_more tab_ok hN H (by rfl) (by rfl) ct_Ref17 ?_); clear H; intro a w H; replace H := nf_Ref17 H; (try simp only [List.drop_succ_cons, List.drop_zero, List.drop_nil]); try refine wpList_nil ?_) | refine wp_region_lit ?_)
        refine v_cond H (by rfl) (fun hb => ?_) (fun hb => ?_)
        · simp at hb
        · repeat (first | refine wp_seq ?_ | refine wp_block ?_ | refine wp_skip ?_ | refine wp_exit ?_ | ((first | refine v_some 5 tab_ok hN H (by rfl) ct_Ref17 ?_ | refine v_more tab_ok hN H (by rfl) (by rfl) ct_Ref17 ?_); clear H; intro a w H; replace H := nf_Ref17 H; (try simp only [List.drop_succ_cons, List.drop_zero, List.drop_nil]); try refine wpList_nil ?_) | refine wp_region_lit ?_)
          refine v_call [] [] (h2) H rfl rfl (by rfl) cb cw ca ?_; clear H; intro a w H; replace H := nf_Ref17 H; try refine wpList_nil ?_
          repeat (first | refine wp_seq ?_ | refine wp_block ?_ | refine wp_skip ?_ | refine wp_exit ?_ | ((first | refine v_some 5 tab_ok hN H (by rfl) ct_Ref17 ?_ | refine v_more tab_ok hN H (by rfl) (by rfl) ct_Ref17 ?_); clear H; intro a w H; replace H := nf_Ref17 H; (try simp only [List.drop_succ_cons, List.drop_zero, List.drop_nil]); try refine wpList_nil ?_) | refine wp_region_lit ?_)
          refine v_cond H (by rfl) (fun hb => ?_) (fun hb => ?_)
          · repeat (first | refine wp_seq ?_ | refine wp_block ?_ | refine wp_skip ?_ | refine wp_exit ?_ | ((first | refine v_some 5 tab_ok hN H (by rfl) ct_Ref17 ?_ | refine v_more tab_ok hN H (by rfl) (by rfl) ct_Ref17 ?_); clear H; intro a w H; replace H := nf_Ref17 H; (try simp only [List.drop_succ_cons, List.drop_zero, List.drop_nil]); try refine wpList_nil ?_) | refine wp_region_lit ?_)
            simp only [Pf.zero, Pf.av, Nd.av, Nd.zero, bas, List.map_nil]
            try simp only [hz] at H
            refine wp_ret ?_
            exact v_end [] [] tab_ok ⟨hN, hR⟩ (rs := [.cell 2 64, .tmp 3]) (ress := [_, _]) rfl H (by rfl) (by rfl) cb cw ca rfl
          · exfalso; simp [strOf_list] at hb; exact ht hb
    · have h2 := encR_bad q hrw hc
      have hno : ¬ pOk l := fun h => hc (by rw [hqe]; exact h.2.1)
      rw [if_neg hno, pDec, if_neg hno]
      refine v_enter Try.func36 rfl (by kernel_rfl) (by show 1 ≤ 32; decide) ?_
      intro N w0 a w hN hR H
      repeat (first | refine wp_seq ?_ | refine wp_block ?_ | refine wp_skip ?_ | refine wp_exit ?_ | ((first | refine v_some 5 tab_ok hN H (by rfl) ct_Ref17 ?_ | refine v_more tab_ok hN H (by rfl) (by rfl) ct_Ref17 ?_); clear H; intro a w H; replace H := nf_Ref17 H; (try simp only [List.drop_succ_cons, List.drop_zero, List.drop_nil]); try refine wpList_nil ?_) | refine wp_region_lit ?_)
      simp only [Pf.av, Nd.av] at hrd h2
      refine v_call [] [] (hrd) H rfl rfl (by rfl) cb cw ca ?_; clear H; intro a w H; replace H := nf_Ref17 H; try refine wpList_nil ?_
      repeat (first | refine wp_seq ?_ | refine wp_block ?_ | refine wp_skip ?_ | refine wp_exit ?_ | ((first | refine v_some 5 tab_ok hN H (by rfl) ct_Ref17 ?_ | refine v_more tab_ok hN H (by rfl) (by rfl) ct_Ref17 ?_); clear H; intro a w H; replace H := nf_Ref17 H; (try simp only [List.drop_succ_cons, List.drop_zero, List.drop_nil]); try refine wpList_nil ?_) | refine wp_region_lit ?_)
      refine v_cond H (by rfl) (fun hb => ?_) (fun hb => ?_)
      · simp at hb
      · repeat (first | refine wp_seq ?_ | refine wp_block ?_ | refine wp_skip ?_ | refine wp_exit ?_ | ((first | refine v_some 5 tab_ok hN H (by rfl) ct_Ref17 ?_ | refine v_more tab_ok hN H (by rfl) (by rfl) ct_Ref17 ?_); clear H; intro a w H; replace H := nf_Ref17 H; (try simp only [List.drop_succ_cons, List.drop_zero, List.drop_nil]); try refine wpList_nil ?_) | refine wp_region_lit ?_)
        refine v_call [] [] (h2) H rfl rfl (by rfl) cb cw ca ?_; clear H; intro a w H; replace H := nf_Ref17 H; try refine wpList_nil ?_
        repeat (first | refine wp_seq ?_ | refine wp_block ?_ | refine wp_skip ?_ | refine wp_exit ?_ | ((first | refine v_some 5 tab_ok hN H (by rfl) ct_Ref17 ?_ | refine v_more tab_ok hN H (by rfl) (by rfl) ct_Ref17 ?_); clear H; intro a w H; replace H := nf_Ref17 H; (try simp only [List.drop_succ_cons, List.drop_zero, List.drop_nil]); try refine wpList_nil ?_) | refine wp_region_lit ?_)
        refine v_cond H (by rfl) (fun hb => ?_) (fun hb => ?_)
        · repeat (first | refine wp_seq ?_ | refine wp_block ?_ | refine wp_skip ?_ | refine wp_exit ?_ | ((first | refine v_some 5 tab_ok hN H (by rfl) ct_Ref17 ?_ | refine v_more tab_ok hN H (by rfl) (by rfl) ct_Ref17 ?_); clear H; intro a w H; replace H := nf_Ref17 H; (try simp only [List.drop_succ_cons, List.drop_zero, List.drop_nil]); try refine wpList_nil ?_) | refine wp_region_lit ?_)
          simp only [Pf.zero, Pf.av, Nd.av, Nd.zero, bas, List.map_nil]
          try simp only [hz] at H
          refine wp_ret ?_
          exact v_end [] [] tab_ok ⟨hN, hR⟩ (rs := [.cell 2 64, .tmp 3]) (ress := [_, _]) rfl H (by rfl) (by rfl) cb cw ca rfl
        · exfalso; simp [hc] at hb
end Go.Proofs.Ytlagngkafllbiaa
/- A region at a function's end in which the named results are loaded and stored again: nothing changes. -/
namespace Go.Proofs.Ytlagngkafllbiaa
open Go Go.RowKit
theorem setRow_id {w : World} {g : Nat} {t : TypeId} {cs : Array Value} (h : Blk w g t cs) : w.setRow g cs = w := by
  have e : (w.setRow g cs).heap = w.heap := by
    apply Array.ext_getElem?
    intro k
    by_cases hk : k = g
    · subst hk; rw [setRow_heap w k cs cs t (0, 0) h]; exact h.symm
    · exact setRow_other w g k cs hk
  cases w
  simp only [World.setRow] at e ⊢
  rw [e]
section
variable {P : Program} {τ : Tab} {w0 w : World} {N : Gh} {st : St} {nt : Nat} {a : Act}
theorem load_box (hτ : τ.ok P) {g : Gh} {bx : List (Ty × AV)} (hB : BR g bx) {T b : Nat} {i : TI} {x : AV} (hi : Tab.get T τ = some i) (hb : bx[b]? = some (i.ty, x)) {u : Value} (hu : RV g (.ptr b []) u) :
    ∃ y : Bx, g.bx[b]? = some y ∧ u = .pointer (some ⟨y.blk, 0, none⟩) ∧ RC g i.ty x y.cells ∧ ∀ w, Mem g w → (Instr.loadAt T u).run P w = .ok (mkV i.ty y.cells) w ∧ (Instr.storeAt T u (mkV i.ty y.cells)).run P w = .ok () w := by
  have hok := Tab.get_ok hτ hi
  obtain ⟨_, y, o, T', hy, hloc, e⟩ := hu.ptr_inv.ptr_inv
  injection e with e
  simp only [Ty.loc, Option.some.injEq, Prod.mk.injEq] at hloc
  obtain ⟨rfl, rfl⟩ := hloc
  obtain ⟨y', hy', hty, hrc⟩ := hB.get hb
  rw [hy] at hy'; injection hy' with hy'; subst hy'
  refine ⟨y, hy, e, hrc, fun w hw => ?_⟩
  have hblk := hw.bx _ _ hy
  subst e
  refine ⟨?_, ?_⟩
  · simp only [Instr.loadAt, Instr.sureAddr, Sem.run_bind, Sem.run_pure, Result.andThen_ok]
    refine run_loadV hok hrc fun j u hu => ?_
    rw [hblk.cell, List.getElem?_toArray, Nat.zero_add]
    exact hu
  · have := run_stV (P := P) (v := mkV i.ty y.cells) hblk (pre := []) (mid := y.cells) (post := []) (news := y.cells) (by simp) T hok hrc.size rfl hrc.one (mkV_cells hrc) rfl
    simp only [List.nil_append, List.append_nil] at this
    rw [setRow_id hblk] at this
    simp only [Instr.storeAt, Instr.sureAddr, Sem.run_bind, Sem.run_pure, Result.andThen_ok]
    exact this
theorem wpT_val {ops : Array Oper} {Q : Exit → Act → World → Prop} {S : World → Prop} {L A : List Nat} {o : Oper} {l : List Oper} {k : Nat} {v : Value} (hg : o.guard = none) (hl : L.contains k = false) (hS : S w) (h1 : ∀ w', S w' → (execOp a.eval o).run P w' = .ok (.value v) w') (h2 : wpT P ops Q S L A l (k + 1) (a.put o.dst v) w) :
    wpT P ops Q S L A (o :: l) k a w := by
  unfold wpT
  rw [if_pos (by simp [Region.wanted, hg]), if_neg (by rw [hl]; exact Bool.false_ne_true)]
  exact ⟨v, (show Vr P o a w v from h1 w hS).qr, fun _ w' hw' => h1 w' hw', h2⟩
theorem wpT_sto {ops : Array Oper} {Q : Exit → Act → World → Prop} {S : World → Prop} {L A : List Nat} {o : Oper} {l : List Oper} {k : Nat} (hg : o.guard = none) (hd : o.dst = none) (hl : L.contains k = true) (hS : S w) (h1 : (execOp a.eval o).run P w = .ok .skip w) (h2 : wpT P ops Q S L A l (k + 1) a w) :
    wpT P ops Q S L A (o :: l) k a w := by
  unfold wpT
  rw [if_pos (by simp [Region.wanted, hg]), if_pos hl]
  unfold Oper.wp
  rw [h1, Oper.upon_skip, hd]
  exact ⟨hS, h2⟩
theorem FR.anew {g : Gh} (hF : FR g nt st a) {d : Nat} {x : AV} {v : Value} (hd : d < nt) (hv : RV g x v) : FR g nt (st.put (some d) none x) (a.put (some d) v) :=
  hF.put (by simp [okDst, hd]) (fun _ => hv) rfl (fun h => absurd trivial h)
theorem v_selfRet {id : Nat} {Q : Exit → Act → World → Prop} {o0 o1 o2 o3 o4 o5 : Oper} {T1 T2 p1 p2 e s1 s2 s3 b1 b2 : Nat} {i1 i2 : TI} {x1 x2 a3 : AV} (hτ : τ.ok P)
    (hm : P.follows .mixedOrders = true) (hchk : chk [o0, o1, o2, o3, o4, o5].toArray (Region.before [o0, o1, o2, o3, o4, o5].toArray) [3, 4] [1, 2] = true) (H : Rel P w0 N nt st a w)
    (h0 : (o0.dst, o0.op, o0.guard) = (some s1, .load T1 (.tmp p1), none)) (h1 : (o1.dst, o1.op, o1.guard) = (some s2, .load T2 (.tmp p2), none)) (h2 : (o2.dst, o2.op, o2.guard) = (some s3, .move (.tmp e), none))
    (h3 : (o3.dst, o3.op, o3.guard) = (none, .store T1 (.tmp p1) (.tmp s1), none)) (h4 : (o4.dst, o4.op, o4.guard) = (none, .store T2 (.tmp p2) (.tmp s2), none)) (h5 : (o5.dst, o5.op, o5.guard) = (some e, .assign (.tmp s3), none))
    (f1 : find p1 st.t = some (none, .ptr b1 [])) (f2 : find p2 st.t = some (none, .ptr b2 [])) (f3 : find e st.t = some (none, a3)) (k1 : Tab.get T1 τ = some i1) (k2 : Tab.get T2 τ = some i2) (g1 : st.bx[b1]? = some (i1.ty, x1)) (g2 : st.bx[b2]? = some (i2.ty, x2))
    (hn : [s1, s2, s3, p1, p2, e].Nodup) (hlt : s1 < nt ∧ s2 < nt ∧ s3 < nt ∧ e < nt)
    (kk : ∀ a w, Rel P w0 N nt ((((st.put (some s1) none x1).put (some s2) none x2).put (some s3) none a3).put (some e) none a3) a w → Q .normal a w) : (Code.region id [o0, o1, o2, o3, o4, o5].toArray true).wp P Q a w := by
  simp only [Prod.mk.injEq] at h0 h1 h2 h3 h4 h5
  obtain ⟨d0, q0, u0⟩ := h0; obtain ⟨d1, q1, u1⟩ := h1; obtain ⟨d2, q2, u2⟩ := h2; obtain ⟨d3, q3, u3⟩ := h3; obtain ⟨d4, q4, u4⟩ := h4; obtain ⟨d5, q5, u5⟩ := h5
  simp only [List.nodup_cons, List.mem_cons, List.not_mem_nil, or_false, not_or] at hn
  obtain ⟨⟨n12, n13, n1p, n1q, n1e⟩, ⟨n23, n2p, n2q, n2e⟩, ⟨n3p, n3q, n3e⟩, ⟨npq, npe⟩, nqe, _⟩ := hn
  obtain ⟨g, HI, hF⟩ := H
  have HI' := HI.drew
  obtain ⟨y1, _, e1, r1, hb1⟩ := load_box hτ HI.br k1 g1 (hF.t _ (find_mem f1) trivial)
  obtain ⟨y2, _, e2, r2, hb2⟩ := load_box hτ HI.br k2 g2 (hF.t _ (find_mem f2) trivial)
  have hv3 : RV g a3 (a.tmps.getD e undef) := hF.t _ (find_mem f3) trivial
  have hM := HI'.mem
  obtain ⟨l1, s1'⟩ := hb1 _ hM
  obtain ⟨l2, s2'⟩ := hb2 _ hM
  have gp : ∀ (a : Act) (d : Nat) (v : Value) (c : Nat), c ≠ d → (a.put (some d) v).tmps.getD c undef = a.tmps.getD c undef := fun a d v c h => getD_put h
  have gs : ∀ (a : Act) (d : Nat) (v : Value), d < a.tmps.size → (a.put (some d) v).tmps.getD d undef = v := fun a d v h => by simp [Act.put, h]
  have hsz := hF.sz
  have sz1 : ∀ (a : Act) (d : Nat) (v : Value), (a.put (some d) v).tmps.size = a.tmps.size := fun a d v => by simp [Act.put]
  have F1 := hF.anew (d := s1) hlt.1 r1.rv.rv'
  have F2 := F1.anew (d := s2) hlt.2.1 r2.rv.rv'
  have F3 := F2.anew (d := s3) hlt.2.2.1 hv3
  have F4 := F3.anew (d := e) hlt.2.2.2 hv3
  refine wp_region_T [3, 4] [1, 2] (fun w' => w' = w.drew) hm hchk rfl ?_
  refine wpT_val (v := mkV i1.ty y1.cells) u0 rfl rfl (fun w' hw' => ?_) ?_
  · subst hw'; unfold execOp; rw [q0]; simp only [show a.eval (.tmp p1) = a.tmps.getD p1 undef from rfl, Sem.run_bind, l1, Result.andThen_ok, Sem.run_pure]
  rw [d0]
  refine wpT_val (v := mkV i2.ty y2.cells) u1 rfl rfl (fun w' hw' => ?_) ?_
  · subst hw'; unfold execOp; rw [q1]; simp only [show ∀ a : Act, a.eval (.tmp p2) = a.tmps.getD p2 undef from fun _ => rfl, gp _ _ _ _ (Ne.symm n1q), Sem.run_bind, l2, Result.andThen_ok, Sem.run_pure]
  rw [d1]
  refine wpT_val (v := a.tmps.getD e undef) u2 rfl rfl (fun w' hw' => ?_) ?_
  · subst hw'; unfold execOp; rw [q2]; simp only [show ∀ a : Act, a.eval (.tmp e) = a.tmps.getD e undef from fun _ => rfl, gp _ _ _ _ (Ne.symm n1e), gp _ _ _ _ (Ne.symm n2e), Sem.run_pure]
  rw [d2]
  refine wpT_sto u3 d3 rfl rfl ?_ ?_
  · unfold execOp; rw [q3]; simp only [show ∀ (a : Act) (c : Nat), a.eval (.tmp c) = a.tmps.getD c undef from fun _ _ => rfl, gp _ _ _ _ n13, gp _ _ _ _ n12, gp _ _ _ _ (Ne.symm n3p), gp _ _ _ _ (Ne.symm n2p), gp _ _ _ _ (Ne.symm n1p), gs a s1 _ (by rw [hsz]; exact hlt.1), Sem.run_bind, s1', Result.andThen_ok, Sem.run_pure]
  refine wpT_sto u4 d4 rfl rfl ?_ ?_
  · unfold execOp; rw [q4]; simp only [show ∀ (a : Act) (c : Nat), a.eval (.tmp c) = a.tmps.getD c undef from fun _ _ => rfl, gp _ _ _ _ n23, gp _ _ _ _ (Ne.symm n3q), gp _ _ _ _ (Ne.symm n2q), gp _ _ _ _ (Ne.symm n1q), gs (a.put (some s1) (mkV i1.ty y1.cells)) s2 _ (by rw [sz1, hsz]; exact hlt.2.1), Sem.run_bind, s2', Result.andThen_ok, Sem.run_pure]
  refine wpT_val (v := a.tmps.getD e undef) u5 rfl rfl (fun w' hw' => ?_) ?_
  · subst hw'; unfold execOp; rw [q5]; simp only [show ∀ (a : Act) (c : Nat), a.eval (.tmp c) = a.tmps.getD c undef from fun _ _ => rfl, gs ((a.put (some s1) (mkV i1.ty y1.cells)).put (some s2) (mkV i2.ty y2.cells)) s3 _ (by rw [sz1, sz1, hsz]; exact hlt.2.2.1), Sem.run_pure]
  rw [d5]
  exact kk _ _ ⟨g, HI', F4⟩
end
end Go.Proofs.Ytlagngkafllbiaa
/- What bytes say to whoever knows the root: verify, and the document's. -/
namespace Go.Proofs.Ytlagngkafllbiaa
open Go Go.RowKit
/-- The state made plain. -/
theorem nf_Ver {P : Program} {w0 w : World} {N : Gh} {nt : Nat} {st s2 : St} {a : Act} (H : Rel P w0 N nt st a w) (h : st = s2 := by (try simp only [pk, elemB, St.put, St.ev, St.tmp, St.keep, find, dropT, slots, AV.put, AV.loc, fitI, convI, IntKind.signed, IntKind.bits, strip, St.lose, mergeL, setAll, nth, renB, ren, idx?, sub, allP, low, bnd, Int.reduceEq, Nat.reduceAdd, Nat.reduceLT, reduceIte, reduceCtorEq, Nat.reduceEqDiff, Nat.reduceLeDiff, Nat.reduceBEq, Int.reducePow, Int.reduceToNat, ti24_t, ti24_z, ti5_t, ti5_z, ti30_t, ti30_z, ti23_t, ti23_z, ti62_t, ti62_z, ti64_t, ti64_z, ti43_t, ti43_z, ti41_t, ti41_z, ti26_t, ti26_z, ti22_t, ti22_z]); rfl) : Rel P w0 N nt s2 a w := h ▸ H
theorem nt_Ver {P : Program} {w0 w : World} {N gS : Gh} {nt : Nat} {q q2 st s2 : St} {a : Act} (H : RelT P w0 N nt gS q st a w) (h1 : q = q2 := by (try simp only [pk, elemB, St.put, St.ev, St.tmp, St.keep, find, dropT, slots, AV.put, AV.loc, fitI, convI, IntKind.signed, IntKind.bits, strip, St.lose, mergeL, setAll, nth, renB, ren, idx?, sub, allP, low, bnd, Int.reduceEq, Nat.reduceAdd, Nat.reduceLT, reduceIte, reduceCtorEq, Nat.reduceEqDiff, Nat.reduceLeDiff, Nat.reduceBEq, Int.reducePow, Int.reduceToNat, ti24_t, ti24_z, ti5_t, ti5_z, ti30_t, ti30_z, ti23_t, ti23_z, ti62_t, ti62_z, ti64_t, ti64_z, ti43_t, ti43_z, ti41_t, ti41_z, ti26_t, ti26_z, ti22_t, ti22_z]); rfl) (h : st = s2 := by (try simp only [pk, elemB, St.put, St.ev, St.tmp, St.keep, find, dropT, slots, AV.put, AV.loc, fitI, convI, IntKind.signed, IntKind.bits, strip, St.lose, mergeL, setAll, nth, renB, ren, idx?, sub, allP, low, bnd, Int.reduceEq, Nat.reduceAdd, Nat.reduceLT, reduceIte, reduceCtorEq, Nat.reduceEqDiff, Nat.reduceLeDiff, Nat.reduceBEq, Int.reducePow, Int.reduceToNat, ti24_t, ti24_z, ti5_t, ti5_z, ti30_t, ti30_z, ti23_t, ti23_z, ti62_t, ti62_z, ti64_t, ti64_z, ti43_t, ti43_z, ti41_t, ti41_z, ti26_t, ti26_z, ti22_t, ti22_z]); rfl) : RelT P w0 N nt gS q2 s2 a w := h1 ▸ h ▸ H
theorem ct_Ver {c : Prop} (h : c := by ((try simp only [pk, elemB, St.put, St.ev, St.tmp, St.keep, find, dropT, slots, AV.put, AV.loc, fitI, convI, IntKind.signed, IntKind.bits, strip, St.lose, mergeL, setAll, nth, renB, ren, idx?, sub, allP, low, bnd, Int.reduceEq, Nat.reduceAdd, Nat.reduceLT, reduceIte, reduceCtorEq, Nat.reduceEqDiff, Nat.reduceLeDiff, Nat.reduceBEq, Int.reducePow, Int.reduceToNat, ti24_t, ti24_z, ti5_t, ti5_z, ti30_t, ti30_z, ti23_t, ti23_z, ti62_t, ti62_z, ti64_t, ti64_z, ti43_t, ti43_z, ti41_t, ti41_z, ti26_t, ti26_z, ti22_t, ti22_z, ti24, ti5, ti30, ti23, ti62, ti64, ti43, ti41, ti26, ti22, fit, gcond, ilo, ihi]); first | done | exact cd | exact cd2 | skip)) : c := h
def vTop (key l : List UInt8) : List UInt8 := if pOk l then topH key (pDec l) else z32
def vErr (l : List UInt8) : Int := if pOk l then 0 else 10
theorem vTop_len (key l : List UInt8) : (vTop key l).length = 32 := by unfold vTop; split; exact topH_len _ _; exact z32_len
theorem pDec_wf (l : List UInt8) : (pDec l).wf := by unfold pDec; split; exact rdQ_wf l; exact pzero_wf
theorem pDec_chk {l : List UInt8} (h : pOk l) : (pDec l).chk = 0 := by rw [pDec, if_pos h]; exact h.2.1
set_option maxRecDepth 20000 in
set_option maxHeartbeats 1000000 in
theorem vread_v (key l : List UInt8) (hk : key.length = 32) (hl : l.length ≤ 34359730000) : VC Try.prog 31 [.ba key, .bs l none] [] (.tup [(pDec l).av, .ba (vTop key l), errv (vErr l)]) := by
  have hz2 := z32_len
  have hd := decodeP_v l hl
  have hw := pDec_wf l
  obtain ⟨g1, g2, g3, g4⟩ := id hw.e
  by_cases h : pOk l
  · have hu := up_v key hk (pDec l) hw (pDec_chk h)
    have htl := topH_len key (pDec l)
    rw [if_pos h] at hd
    rw [vTop, vErr, if_pos h, if_pos h]
    generalize topH key (pDec l) = t at *
    generalize pDec l = p at *
    refine v_enter Try.func31 rfl (by kernel_rfl) (by show 2 ≤ 25; decide) ?_
    intro N w0 a w hN hR H
    simp only [Pf.av, Nd.av] at hd hu
    repeat (first | refine wp_seq ?_ | refine wp_block ?_ | refine wp_skip ?_ | refine wp_exit ?_ | ((first | refine v_some 5 tab_ok hN H (by rfl) ct_Ver ?_ | refine v_more tab_ok hN H (by rfl) (by rfl) ct_Ver ?_); clear H; intro a w H; replace H := nf_Ver H; (try simp only [List.drop_succ_cons, List.drop_zero, List.drop_nil]); try refine wpList_nil ?_) | refine wp_region_lit ?_)
    refine v_call [] [] (hd) H rfl rfl (by rfl) cb cw ca ?_; clear H; intro a w H; replace H := nf_Ver H; try refine wpList_nil ?_
    repeat (first | refine wp_seq ?_ | refine wp_block ?_ | refine wp_skip ?_ | refine wp_exit ?_ | ((first | refine v_some 5 tab_ok hN H (by rfl) ct_Ver ?_ | refine v_more tab_ok hN H (by rfl) (by rfl) ct_Ver ?_); clear H; intro a w H; replace H := nf_Ver H; (try simp only [List.drop_succ_cons, List.drop_zero, List.drop_nil]); try refine wpList_nil ?_) | refine wp_region_lit ?_)
    refine v_cond H (by rfl) (fun hb => ?_) (fun hb => ?_)
    · simp at hb
    · clear hb
      repeat (first | refine wp_seq ?_ | refine wp_block ?_ | refine wp_skip ?_ | refine wp_exit ?_ | ((first | refine v_some 5 tab_ok hN H (by rfl) ct_Ver ?_ | refine v_more tab_ok hN H (by rfl) (by rfl) ct_Ver ?_); clear H; intro a w H; replace H := nf_Ver H; (try simp only [List.drop_succ_cons, List.drop_zero, List.drop_nil]); try refine wpList_nil ?_) | refine wp_region_lit ?_)
      refine v_call [] [] (hu) H rfl rfl (by rfl) cb cw ca ?_; clear H; intro a w H; replace H := nf_Ver H; try refine wpList_nil ?_
      repeat (first | refine wp_seq ?_ | refine wp_block ?_ | refine wp_skip ?_ | refine wp_exit ?_ | ((first | refine v_some 5 tab_ok hN H (by rfl) ct_Ver ?_ | refine v_more tab_ok hN H (by rfl) (by rfl) ct_Ver ?_); clear H; intro a w H; replace H := nf_Ver H; (try simp only [List.drop_succ_cons, List.drop_zero, List.drop_nil]); try refine wpList_nil ?_) | refine wp_region_lit ?_)
      repeat (first | refine wp_seq ?_ | refine wp_block ?_)
      refine v_selfRet (T1 := 64) (T2 := 30) (p1 := 4) (p2 := 5) (e := 6) (s1 := 22) (s2 := 23) (s3 := 24) (b1 := 1) (b2 := 2) (i1 := ti64) (i2 := ti30) tab_ok (by kernel_rfl) (by kernel_rfl) H rfl rfl rfl rfl rfl rfl (by rfl) (by rfl) (by rfl) (by rfl) (by rfl) (by rfl) (by rfl) (by decide) (by decide) (fun a w H => ?_)
      replace H := nf_Ver H
      simp only [Pf.av, Nd.av]
      refine wp_ret ?_
      exact v_end [] [] tab_ok ⟨hN, hR⟩ (rs := [.cell 4 64, .cell 5 30, .tmp 6]) (ress := [_, _, _]) rfl H (by rfl) (by rfl) cb cw ca rfl
  · rw [if_neg h] at hd
    rw [vTop, vErr, if_neg h, if_neg h]
    rw [pDec, if_neg h] at hd ⊢
    refine v_enter Try.func31 rfl (by kernel_rfl) (by show 2 ≤ 25; decide) ?_
    intro N w0 a w hN hR H
    simp only [Pf.zero, Pf.av, Nd.av, Nd.zero, bas, List.map_nil] at hd ⊢
    repeat (first | refine wp_seq ?_ | refine wp_block ?_ | refine wp_skip ?_ | refine wp_exit ?_ | ((first | refine v_some 5 tab_ok hN H (by rfl) ct_Ver ?_ | refine v_more tab_ok hN H (by rfl) (by rfl) ct_Ver ?_); clear H; intro a w H; replace H := nf_Ver H; (try simp only [List.drop_succ_cons, List.drop_zero, List.drop_nil]); try refine wpList_nil ?_) | refine wp_region_lit ?_)
    refine v_call [] [] (hd) H rfl rfl (by rfl) cb cw ca ?_; clear H; intro a w H; replace H := nf_Ver H; try refine wpList_nil ?_
    repeat (first | refine wp_seq ?_ | refine wp_block ?_ | refine wp_skip ?_ | refine wp_exit ?_ | ((first | refine v_some 5 tab_ok hN H (by rfl) ct_Ver ?_ | refine v_more tab_ok hN H (by rfl) (by rfl) ct_Ver ?_); clear H; intro a w H; replace H := nf_Ver H; (try simp only [List.drop_succ_cons, List.drop_zero, List.drop_nil]); try refine wpList_nil ?_) | refine wp_region_lit ?_)
    refine v_cond H (by rfl) (fun hb => ?_) (fun hb => ?_)
    · repeat (first | refine wp_seq ?_ | refine wp_block ?_ | refine wp_skip ?_ | refine wp_exit ?_ | ((first | refine v_some 5 tab_ok hN H (by rfl) ct_Ver ?_ | refine v_more tab_ok hN H (by rfl) (by rfl) ct_Ver ?_); clear H; intro a w H; replace H := nf_Ver H; (try simp only [List.drop_succ_cons, List.drop_zero, List.drop_nil]); try refine wpList_nil ?_) | refine wp_region_lit ?_)
      try simp only [hz] at H
      refine wp_ret ?_
      exact v_end [] [] tab_ok ⟨hN, hR⟩ (rs := [.cell 4 64, .cell 5 30, .tmp 6]) (ress := [_, _, _]) rfl H (by rfl) (by rfl) cb cw (by exact ⟨⟨rfl, sub_refl _ _, trivial⟩, sub_refl _ _, sub_refl _ _, trivial⟩) rfl
    · simp at hb
theorem vtopR_v (key l : List UInt8) (hk : key.length = 32) (hl : l.length ≤ 34359730000) : VC Try.prog 14 [.ba key, .bs l none] [] (.tup [.ba (vTop key l), errv (vErr l)]) := by
  have hz2 := z32_len
  have hd := decPR_v l hl
  have hw := pDec_wf l
  obtain ⟨g1, g2, g3, g4⟩ := id hw.e
  by_cases h : pOk l
  · have hu := upR_v key hk (pDec l) hw (pDec_chk h)
    have htl := topH_len key (pDec l)
    rw [if_pos h] at hd
    rw [vTop, vErr, if_pos h, if_pos h]
    generalize topH key (pDec l) = t at *
    generalize pDec l = p at *
    refine v_enter Try.func14 rfl (by kernel_rfl) (by show 2 ≤ 25; decide) ?_
    intro N w0 a w hN hR H
    simp only [Pf.av, Nd.av] at hd hu
    repeat (first | refine wp_seq ?_ | refine wp_block ?_ | refine wp_skip ?_ | refine wp_exit ?_ | ((first | refine v_some 5 tab_ok hN H (by rfl) ct_Ver ?_ | refine v_more tab_ok hN H (by rfl) (by rfl) ct_Ver ?_); clear H; intro a w H; replace H := nf_Ver H; (try simp only [List.drop_succ_cons, List.drop_zero, List.drop_nil]); try refine wpList_nil ?_) | refine wp_region_lit ?_)
    refine v_call [] [] (hd) H rfl rfl (by rfl) cb cw ca ?_; clear H; intro a w H; replace H := nf_Ver H; try refine wpList_nil ?_
    repeat (first | refine wp_seq ?_ | refine wp_block ?_ | refine wp_skip ?_ | refine wp_exit ?_ | ((first | refine v_some 5 tab_ok hN H (by rfl) ct_Ver ?_ | refine v_more tab_ok hN H (by rfl) (by rfl) ct_Ver ?_); clear H; intro a w H; replace H := nf_Ver H; (try simp only [List.drop_succ_cons, List.drop_zero, List.drop_nil]); try refine wpList_nil ?_) | refine wp_region_lit ?_)
    refine v_cond H (by rfl) (fun hb => ?_) (fun hb => ?_)
    · simp at hb
    · clear hb
      repeat (first | refine wp_seq ?_ | refine wp_block ?_ | refine wp_skip ?_ | refine wp_exit ?_ | ((first | refine v_some 5 tab_ok hN H (by rfl) ct_Ver ?_ | refine v_more tab_ok hN H (by rfl) (by rfl) ct_Ver ?_); clear H; intro a w H; replace H := nf_Ver H; (try simp only [List.drop_succ_cons, List.drop_zero, List.drop_nil]); try refine wpList_nil ?_) | refine wp_region_lit ?_)
      refine v_call [] [] (hu) H rfl rfl (by rfl) cb cw ca ?_; clear H; intro a w H; replace H := nf_Ver H; try refine wpList_nil ?_
      repeat (first | refine wp_seq ?_ | refine wp_block ?_ | refine wp_skip ?_ | refine wp_exit ?_ | ((first | refine v_some 5 tab_ok hN H (by rfl) ct_Ver ?_ | refine v_more tab_ok hN H (by rfl) (by rfl) ct_Ver ?_); clear H; intro a w H; replace H := nf_Ver H; (try simp only [List.drop_succ_cons, List.drop_zero, List.drop_nil]); try refine wpList_nil ?_) | refine wp_region_lit ?_)
      refine wp_ret ?_
      exact v_end [] [] tab_ok ⟨hN, hR⟩ (rs := [.cell 4 30, .tmp 5]) (ress := [_, _]) rfl H (by rfl) (by rfl) cb cw ca rfl
  · rw [if_neg h] at hd
    rw [vTop, vErr, if_neg h, if_neg h]
    rw [pDec, if_neg h] at hd
    refine v_enter Try.func14 rfl (by kernel_rfl) (by show 2 ≤ 25; decide) ?_
    intro N w0 a w hN hR H
    simp only [Pf.zero, Pf.av, Nd.av, Nd.zero, bas, List.map_nil] at hd
    repeat (first | refine wp_seq ?_ | refine wp_block ?_ | refine wp_skip ?_ | refine wp_exit ?_ | ((first | refine v_some 5 tab_ok hN H (by rfl) ct_Ver ?_ | refine v_more tab_ok hN H (by rfl) (by rfl) ct_Ver ?_); clear H; intro a w H; replace H := nf_Ver H; (try simp only [List.drop_succ_cons, List.drop_zero, List.drop_nil]); try refine wpList_nil ?_) | refine wp_region_lit ?_)
    refine v_call [] [] (hd) H rfl rfl (by rfl) cb cw ca ?_; clear H; intro a w H; replace H := nf_Ver H; try refine wpList_nil ?_
    repeat (first | refine wp_seq ?_ | refine wp_block ?_ | refine wp_skip ?_ | refine wp_exit ?_ | ((first | refine v_some 5 tab_ok hN H (by rfl) ct_Ver ?_ | refine v_more tab_ok hN H (by rfl) (by rfl) ct_Ver ?_); clear H; intro a w H; replace H := nf_Ver H; (try simp only [List.drop_succ_cons, List.drop_zero, List.drop_nil]); try refine wpList_nil ?_) | refine wp_region_lit ?_)
    refine v_cond H (by rfl) (fun hb => ?_) (fun hb => ?_)
    · repeat (first | refine wp_seq ?_ | refine wp_block ?_ | refine wp_skip ?_ | refine wp_exit ?_ | ((first | refine v_some 5 tab_ok hN H (by rfl) ct_Ver ?_ | refine v_more tab_ok hN H (by rfl) (by rfl) ct_Ver ?_); clear H; intro a w H; replace H := nf_Ver H; (try simp only [List.drop_succ_cons, List.drop_zero, List.drop_nil]); try refine wpList_nil ?_) | refine wp_region_lit ?_)
      try simp only [hz] at H
      refine wp_ret ?_
      exact v_end [] [] tab_ok ⟨hN, hR⟩ (rs := [.cell 4 30, .tmp 5]) (ress := [_, _]) rfl H (by rfl) (by rfl) cb cw ca rfl
    · simp at hb
/-- What is said of a key under a root. -/
def vRd (root key l : List UInt8) : Bool × List UInt8 × Int :=
  if ¬ pOk l then (false, z32, 10)
  else if vTop key l ≠ root ∨ ((pDec l).e.k = 1 ∧ ¬ (pDec l).s.length ≤ com (pDec l).e.key key) then (false, z32, 11)
  else if (pDec l).e.k = 1 ∧ (pDec l).e.key = key then (true, (pDec l).e.v, 0) else (false, z32, 0)
theorem vRd_len (root key l : List UInt8) : (vRd root key l).2.1.length = 32 := by
  unfold vRd
  split
  · exact z32_len
  · split
    · exact z32_len
    · split
      · exact (pDec_wf l).e.v
      · exact z32_len
theorem k1_iff (k : UInt8) : ((k.toNat : Int) = 1) ↔ k = 1 := ⟨fun h => UInt8.toNat_inj.1 (by simp; omega), fun h => by rw [h]; rfl⟩
set_option maxRecDepth 20000 in
set_option maxHeartbeats 1000000 in
theorem vRead_v (root key l : List UInt8) (hr : root.length = 32) (hk : key.length = 32) (hl : l.length ≤ 34359730000) : VC Try.prog 15 [.ba root, .ba key, .bs l none] [] (.tup [.st [.v (.bool (vRd root key l).1), .ba (vRd root key l).2.1], errv (vRd root key l).2.2]) := by
  have hz2 := z32_len
  have hd := vread_v key l hk hl
  have hw := pDec_wf l
  have htl := vTop_len key l
  by_cases h : pOk l
  · have hc := chk_all (pDec_chk h)
    have e : vRd root key l = if vTop key l ≠ root ∨ ((pDec l).e.k = 1 ∧ ¬ (pDec l).s.length ≤ com (pDec l).e.key key) then (false, z32, 11) else if (pDec l).e.k = 1 ∧ (pDec l).e.key = key then (true, (pDec l).e.v, 0) else (false, z32, 0) := by rw [vRd, if_neg (fun hn => hn h)]
    rw [e]
    rw [vErr, if_pos h] at hd
    clear e
    generalize vTop key l = t at *
    generalize pDec l = p at *
    obtain ⟨s, n⟩ := p
    obtain ⟨g1, g2, g3, g4⟩ := id hw.e
    dsimp only at g1 g2 g3 g4 hc ⊢
    have hsl := bas_len s
    have hun := under_v n.key key g1 hk (s.length : Int)
    have hk1 := k1_iff n.k
    have hs256 := hc.1
    refine v_enter Try.func15 rfl (by kernel_rfl) (by show 3 ≤ 57; decide) ?_
    intro N w0 a w hN hR H
    simp only [Pf.av, Nd.av] at hd
    repeat (first | refine wp_seq ?_ | refine wp_block ?_ | refine wp_skip ?_ | refine wp_exit ?_ | ((first | refine v_some 5 tab_ok hN H (by rfl) ct_Ver ?_ | refine v_more tab_ok hN H (by rfl) (by rfl) ct_Ver ?_); clear H; intro a w H; replace H := nf_Ver H; (try simp only [List.drop_succ_cons, List.drop_zero, List.drop_nil]); try refine wpList_nil ?_) | refine wp_region_lit ?_)
    refine v_call [] [] (hd) H rfl rfl (by rfl) cb cw ca ?_; clear H; intro a w H; replace H := nf_Ver H; try refine wpList_nil ?_
    repeat (first | refine wp_seq ?_ | refine wp_block ?_ | refine wp_skip ?_ | refine wp_exit ?_ | ((first | refine v_some 5 tab_ok hN H (by rfl) ct_Ver ?_ | refine v_more tab_ok hN H (by rfl) (by rfl) ct_Ver ?_); clear H; intro a w H; replace H := nf_Ver H; (try simp only [List.drop_succ_cons, List.drop_zero, List.drop_nil]); try refine wpList_nil ?_) | refine wp_region_lit ?_)
    refine v_cond H (by rfl) (fun hb => ?_) (fun hb => ?_)
    · simp at hb
    · clear hb
      repeat (first | refine wp_seq ?_ | refine wp_block ?_ | refine wp_skip ?_ | refine wp_exit ?_ | ((first | refine v_some 5 tab_ok hN H (by rfl) (by (try simp only [hsl]); first | done | exact ct_Ver) ?_ | refine v_more tab_ok hN H (by rfl) (by rfl) (by (try simp only [hsl]); first | done | exact ct_Ver) ?_); clear H; intro a w H; replace H := nf_Ver H; first | (simp only [hsl] at H; replace H := nf_Ver H) | skip; (try simp only [List.drop_succ_cons, List.drop_zero, List.drop_nil]); try refine wpList_nil ?_) | refine wp_region_lit ?_)
      refine v_callG [] [] (hun) H (by rfl) rfl (by rfl) (by simp [pickB, bxs, ren, idx?, sub_refl, sub, allP, hsl] <;> omega) (by first | rfl | (simp [hsl] <;> omega)) (by first | exact trivial | exact ⟨sub_refl _ _, trivial⟩ | exact ⟨sub_refl _ _, sub_refl _ _, trivial⟩ | exact ⟨sub_refl _ _, sub_refl _ _, sub_refl _ _, trivial⟩ | exact ⟨⟨rfl, sub_refl _ _, trivial⟩, sub_refl _ _, trivial⟩ | (simp [cargs, cargsG, St.ev, St.tmp, find, ren, idx?, sub_refl, sub, allP, resv, resC, bss, hsl] <;> omega)) (by rfl) (by rfl) (by rfl) ?_; clear H; intro a w H; replace H := nf_Ver H; first | (simp only [hsl] at H; replace H := nf_Ver H) | skip; try refine wpList_nil ?_
      repeat (first | refine wp_seq ?_ | refine wp_block ?_ | refine wp_skip ?_ | refine wp_exit ?_ | ((first | refine v_some 5 tab_ok hN H (by rfl) (by (try simp only [hsl]); first | done | exact ct_Ver) ?_ | refine v_more tab_ok hN H (by rfl) (by rfl) (by (try simp only [hsl]); first | done | exact ct_Ver) ?_); clear H; intro a w H; replace H := nf_Ver H; first | (simp only [hsl] at H; replace H := nf_Ver H) | skip; (try simp only [List.drop_succ_cons, List.drop_zero, List.drop_nil]); try refine wpList_nil ?_) | refine wp_region_lit ?_)
      have hcond : (bif !decide (t = root) then true else bif decide ((n.k.toNat : Int) = 1) then !decide (0 ≤ (s.length : Int) ∧ (s.length : Int) ≤ 256 ∧ (s.length : Int) ≤ (com n.key key : Int)) else false) = decide (t ≠ root ∨ (n.k = 1 ∧ ¬ s.length ≤ com n.key key)) := by
        have e2 : (0 ≤ (s.length : Int) ∧ (s.length : Int) ≤ 256 ∧ (s.length : Int) ≤ (com n.key key : Int)) ↔ s.length ≤ com n.key key := ⟨fun h => by omega, fun h => ⟨by omega, by omega, by omega⟩⟩
        have d1 : decide ((n.k.toNat : Int) = 1) = decide (n.k = 1) := decide_eq_decide.2 hk1
        have d2 : decide (0 ≤ (s.length : Int) ∧ (s.length : Int) ≤ 256 ∧ (s.length : Int) ≤ (com n.key key : Int)) = decide (s.length ≤ com n.key key) := decide_eq_decide.2 e2
        rw [d1, d2]
        by_cases c1 : t = root <;> by_cases c2 : n.k = 1 <;> by_cases c3 : s.length ≤ com n.key key <;> simp [c1, c2, c3]
      try simp only [hcond] at H
      by_cases c0 : t ≠ root ∨ (n.k = 1 ∧ ¬ s.length ≤ com n.key key)
      · rw [if_pos c0]
        refine v_cond H (by rfl) (fun hb => ?_) (fun hb => ?_)
        · repeat (first | refine wp_seq ?_ | refine wp_block ?_ | refine wp_skip ?_ | refine wp_exit ?_ | ((first | refine v_some 5 tab_ok hN H (by rfl) (by (try simp only [hsl]); first | done | exact ct_Ver) ?_ | refine v_more tab_ok hN H (by rfl) (by rfl) (by (try simp only [hsl]); first | done | exact ct_Ver) ?_); clear H; intro a w H; replace H := nf_Ver H; first | (simp only [hsl] at H; replace H := nf_Ver H) | skip; (try simp only [List.drop_succ_cons, List.drop_zero, List.drop_nil]); try refine wpList_nil ?_) | refine wp_region_lit ?_)
          try simp only [hz] at H
          refine wp_ret ?_
          exact v_end [] [] tab_ok ⟨hN, hR⟩ (rs := [.cell 6 43, .tmp 7]) (ress := [_, _]) rfl H (by rfl) (by rfl) (by simp [pickB, bxs, ren, idx?, sub_refl, sub, allP, hsl] <;> omega) (by first | rfl | (simp [hsl] <;> omega)) (by first | exact trivial | exact ⟨sub_refl _ _, trivial⟩ | exact ⟨sub_refl _ _, sub_refl _ _, trivial⟩ | exact ⟨sub_refl _ _, sub_refl _ _, sub_refl _ _, trivial⟩ | exact ⟨⟨rfl, sub_refl _ _, trivial⟩, sub_refl _ _, trivial⟩ | (simp [cargs, cargsG, St.ev, St.tmp, find, ren, idx?, sub_refl, sub, allP, resv, resC, bss, hsl] <;> omega)) rfl
        · exfalso; rw [decide_eq_true c0] at hb; cases hb
      · rw [if_neg c0]
        refine v_cond H (by rfl) (fun hb => ?_) (fun hb => ?_)
        · exfalso; rw [decide_eq_false c0] at hb; cases hb
        · clear hb
          repeat (first | refine wp_seq ?_ | refine wp_block ?_ | refine wp_skip ?_ | refine wp_exit ?_ | ((first | refine v_some 5 tab_ok hN H (by rfl) (by (try simp only [hsl]); first | done | exact ct_Ver) ?_ | refine v_more tab_ok hN H (by rfl) (by rfl) (by (try simp only [hsl]); first | done | exact ct_Ver) ?_); clear H; intro a w H; replace H := nf_Ver H; first | (simp only [hsl] at H; replace H := nf_Ver H) | skip; (try simp only [List.drop_succ_cons, List.drop_zero, List.drop_nil]); try refine wpList_nil ?_) | refine wp_region_lit ?_)
          by_cases c1 : n.k = 1 ∧ n.key = key
          · rw [if_pos c1]
            refine v_cond H (by rfl) (fun hb => ?_) (fun hb => ?_)
            · repeat (first | refine wp_seq ?_ | refine wp_block ?_ | refine wp_skip ?_ | refine wp_exit ?_ | ((first | refine v_some 5 tab_ok hN H (by rfl) (by (try simp only [hsl]); first | done | exact ct_Ver) ?_ | refine v_more tab_ok hN H (by rfl) (by rfl) (by (try simp only [hsl]); first | done | exact ct_Ver) ?_); clear H; intro a w H; replace H := nf_Ver H; first | (simp only [hsl] at H; replace H := nf_Ver H) | skip; (try simp only [List.drop_succ_cons, List.drop_zero, List.drop_nil]); try refine wpList_nil ?_) | refine wp_region_lit ?_)
              refine wp_ret ?_
              exact v_end [] [] tab_ok ⟨hN, hR⟩ (rs := [.cell 6 43, .tmp 7]) (ress := [_, _]) rfl H (by rfl) (by rfl) (by simp [pickB, bxs, ren, idx?, sub_refl, sub, allP, hsl] <;> omega) (by first | rfl | (simp [hsl] <;> omega)) (by first | exact trivial | exact ⟨sub_refl _ _, trivial⟩ | exact ⟨sub_refl _ _, sub_refl _ _, trivial⟩ | exact ⟨sub_refl _ _, sub_refl _ _, sub_refl _ _, trivial⟩ | exact ⟨⟨rfl, sub_refl _ _, trivial⟩, sub_refl _ _, trivial⟩ | (simp [cargs, cargsG, St.ev, St.tmp, find, ren, idx?, sub_refl, sub, allP, resv, resC, bss, hsl] <;> omega)) rfl
            · exfalso; rw [decide_eq_true (hk1.2 c1.1), decide_eq_true c1.2] at hb; cases hb
          · rw [if_neg c1]
            refine v_cond H (by rfl) (fun hb => ?_) (fun hb => ?_)
            · exfalso
              by_cases c2 : n.k = 1
              · by_cases c3 : n.key = key
                · exact c1 ⟨c2, c3⟩
                · rw [decide_eq_false c3] at hb; simp at hb
              · rw [decide_eq_false (fun e => c2 (hk1.1 e))] at hb; simp at hb
            · repeat (first | refine wp_seq ?_ | refine wp_block ?_ | refine wp_skip ?_ | refine wp_exit ?_ | ((first | refine v_some 5 tab_ok hN H (by rfl) (by (try simp only [hsl]); first | done | exact ct_Ver) ?_ | refine v_more tab_ok hN H (by rfl) (by rfl) (by (try simp only [hsl]); first | done | exact ct_Ver) ?_); clear H; intro a w H; replace H := nf_Ver H; first | (simp only [hsl] at H; replace H := nf_Ver H) | skip; (try simp only [List.drop_succ_cons, List.drop_zero, List.drop_nil]); try refine wpList_nil ?_) | refine wp_region_lit ?_)
              try simp only [hz] at H
              refine wp_ret ?_
              exact v_end [] [] tab_ok ⟨hN, hR⟩ (rs := [.cell 6 43, .tmp 7]) (ress := [_, _]) rfl H (by rfl) (by rfl) (by simp [pickB, bxs, ren, idx?, sub_refl, sub, allP, hsl] <;> omega) (by first | rfl | (simp [hsl] <;> omega)) (by first | exact trivial | exact ⟨sub_refl _ _, trivial⟩ | exact ⟨sub_refl _ _, sub_refl _ _, trivial⟩ | exact ⟨sub_refl _ _, sub_refl _ _, sub_refl _ _, trivial⟩ | exact ⟨⟨rfl, sub_refl _ _, trivial⟩, sub_refl _ _, trivial⟩ | (simp [cargs, cargsG, St.ev, St.tmp, find, ren, idx?, sub_refl, sub, allP, resv, resC, bss, hsl] <;> omega)) rfl
  · have e : vRd root key l = (false, z32, 10) := by rw [vRd, if_pos h]
    rw [e]
    rw [vErr, if_neg h] at hd
    obtain ⟨g1, g2, g3, g4⟩ := id hw.e
    clear e
    generalize vTop key l = t at *
    generalize pDec l = p at *
    refine v_enter Try.func15 rfl (by kernel_rfl) (by show 3 ≤ 57; decide) ?_
    intro N w0 a w hN hR H
    simp only [Pf.av, Nd.av] at hd
    repeat (first | refine wp_seq ?_ | refine wp_block ?_ | refine wp_skip ?_ | refine wp_exit ?_ | ((first | refine v_some 5 tab_ok hN H (by rfl) ct_Ver ?_ | refine v_more tab_ok hN H (by rfl) (by rfl) ct_Ver ?_); clear H; intro a w H; replace H := nf_Ver H; (try simp only [List.drop_succ_cons, List.drop_zero, List.drop_nil]); try refine wpList_nil ?_) | refine wp_region_lit ?_)
    refine v_call [] [] (hd) H rfl rfl (by rfl) cb cw ca ?_; clear H; intro a w H; replace H := nf_Ver H; try refine wpList_nil ?_
    repeat (first | refine wp_seq ?_ | refine wp_block ?_ | refine wp_skip ?_ | refine wp_exit ?_ | ((first | refine v_some 5 tab_ok hN H (by rfl) ct_Ver ?_ | refine v_more tab_ok hN H (by rfl) (by rfl) ct_Ver ?_); clear H; intro a w H; replace H := nf_Ver H; (try simp only [List.drop_succ_cons, List.drop_zero, List.drop_nil]); try refine wpList_nil ?_) | refine wp_region_lit ?_)
    refine v_cond H (by rfl) (fun hb => ?_) (fun hb => ?_)
    · repeat (first | refine wp_seq ?_ | refine wp_block ?_ | refine wp_skip ?_ | refine wp_exit ?_ | ((first | refine v_some 5 tab_ok hN H (by rfl) ct_Ver ?_ | refine v_more tab_ok hN H (by rfl) (by rfl) ct_Ver ?_); clear H; intro a w H; replace H := nf_Ver H; (try simp only [List.drop_succ_cons, List.drop_zero, List.drop_nil]); try refine wpList_nil ?_) | refine wp_region_lit ?_)
      try simp only [hz] at H
      refine wp_ret ?_
      exact v_end [] [] tab_ok ⟨hN, hR⟩ (rs := [.cell 6 43, .tmp 7]) (ress := [_, _]) rfl H (by rfl) (by rfl) cb cw ca rfl
    · simp at hb
set_option maxRecDepth 20000 in
set_option maxHeartbeats 1000000 in
theorem vReadR_v (root key l : List UInt8) (hr : root.length = 32) (hk : key.length = 32) (hl : l.length ≤ 34359730000) : VC Try.prog 16 [.ba root, .ba key, .bs l none] [] (.tup [.st [.v (.bool (vRd root key l).1), .ba (vRd root key l).2.1], errv (vRd root key l).2.2]) := by
  have hz2 := z32_len
  have hd := vtopR_v key l hk hl
  have hd2 := decPR_v l hl
  have hw := pDec_wf l
  have htl := vTop_len key l
  by_cases h : pOk l
  · have hc := chk_all (pDec_chk h)
    have e : vRd root key l = if vTop key l ≠ root ∨ ((pDec l).e.k = 1 ∧ ¬ (pDec l).s.length ≤ com (pDec l).e.key key) then (false, z32, 11) else if (pDec l).e.k = 1 ∧ (pDec l).e.key = key then (true, (pDec l).e.v, 0) else (false, z32, 0) := by rw [vRd, if_neg (fun hn => hn h)]
    rw [e]
    rw [vErr, if_pos h] at hd
    rw [if_pos h] at hd2
    clear e
    generalize vTop key l = t at *
    generalize pDec l = p at *
    obtain ⟨s, n⟩ := p
    obtain ⟨g1, g2, g3, g4⟩ := id hw.e
    dsimp only at g1 g2 g3 g4 hc ⊢
    have hsl := bas_len s
    have hun := underR_v n.key key g1 hk (s.length : Int)
    have hk1 := k1_iff n.k
    have hs256 := hc.1
    refine v_enter Try.func16 rfl (by kernel_rfl) (by show 3 ≤ 70; decide) ?_
    intro N w0 a w hN hR H
    simp only [Pf.av, Nd.av] at hd hd2
    repeat (first | refine wp_seq ?_ | refine wp_block ?_ | refine wp_skip ?_ | refine wp_exit ?_ | ((first | refine v_some 5 tab_ok hN H (by rfl) ct_Ver ?_ | refine v_more tab_ok hN H (by rfl) (by rfl) ct_Ver ?_); clear H; intro a w H; replace H := nf_Ver H; (try simp only [List.drop_succ_cons, List.drop_zero, List.drop_nil]); try refine wpList_nil ?_) | refine wp_region_lit ?_)
    refine v_call [] [] (hd) H rfl rfl (by rfl) cb cw ca ?_; clear H; intro a w H; replace H := nf_Ver H; try refine wpList_nil ?_
    repeat (first | refine wp_seq ?_ | refine wp_block ?_ | refine wp_skip ?_ | refine wp_exit ?_ | ((first | refine v_some 5 tab_ok hN H (by rfl) ct_Ver ?_ | refine v_more tab_ok hN H (by rfl) (by rfl) ct_Ver ?_); clear H; intro a w H; replace H := nf_Ver H; (try simp only [List.drop_succ_cons, List.drop_zero, List.drop_nil]); try refine wpList_nil ?_) | refine wp_region_lit ?_)
    refine v_cond H (by rfl) (fun hb => ?_) (fun hb => ?_)
    · simp at hb
    · clear hb
      repeat (first | refine wp_seq ?_ | refine wp_block ?_ | refine wp_skip ?_ | refine wp_exit ?_ | ((first | refine v_some 5 tab_ok hN H (by rfl) ct_Ver ?_ | refine v_more tab_ok hN H (by rfl) (by rfl) ct_Ver ?_); clear H; intro a w H; replace H := nf_Ver H; (try simp only [List.drop_succ_cons, List.drop_zero, List.drop_nil]); try refine wpList_nil ?_) | refine wp_region_lit ?_)
      refine v_call [] [] (hd2) H rfl rfl (by rfl) cb cw ca ?_; clear H; intro a w H; replace H := nf_Ver H; try refine wpList_nil ?_
      repeat (first | refine wp_seq ?_ | refine wp_block ?_ | refine wp_skip ?_ | refine wp_exit ?_ | ((first | refine v_some 5 tab_ok hN H (by rfl) (by (try simp only [hsl]); first | done | exact ct_Ver) ?_ | refine v_more tab_ok hN H (by rfl) (by rfl) (by (try simp only [hsl]); first | done | exact ct_Ver) ?_); clear H; intro a w H; replace H := nf_Ver H; first | (simp only [hsl] at H; replace H := nf_Ver H) | skip; (try simp only [List.drop_succ_cons, List.drop_zero, List.drop_nil]); try refine wpList_nil ?_) | refine wp_region_lit ?_)
      refine v_callG [] [] (hun) H (by rfl) rfl (by rfl) (by simp [pickB, bxs, ren, idx?, sub_refl, sub, allP, hsl] <;> omega) (by first | rfl | (simp [hsl] <;> omega)) (by first | exact trivial | exact ⟨sub_refl _ _, trivial⟩ | exact ⟨sub_refl _ _, sub_refl _ _, trivial⟩ | exact ⟨sub_refl _ _, sub_refl _ _, sub_refl _ _, trivial⟩ | exact ⟨⟨rfl, sub_refl _ _, trivial⟩, sub_refl _ _, trivial⟩ | (simp [cargs, cargsG, St.ev, St.tmp, find, ren, idx?, sub_refl, sub, allP, resv, resC, bss, hsl] <;> omega)) (by rfl) (by rfl) (by rfl) ?_; clear H; intro a w H; replace H := nf_Ver H; first | (simp only [hsl] at H; replace H := nf_Ver H) | skip; try refine wpList_nil ?_
      repeat (first | refine wp_seq ?_ | refine wp_block ?_ | refine wp_skip ?_ | refine wp_exit ?_ | ((first | refine v_some 5 tab_ok hN H (by rfl) (by (try simp only [hsl]); first | done | exact ct_Ver) ?_ | refine v_more tab_ok hN H (by rfl) (by rfl) (by (try simp only [hsl]); first | done | exact ct_Ver) ?_); clear H; intro a w H; replace H := nf_Ver H; first | (simp only [hsl] at H; replace H := nf_Ver H) | skip; (try simp only [List.drop_succ_cons, List.drop_zero, List.drop_nil]); try refine wpList_nil ?_) | refine wp_region_lit ?_)
      have d1 : decide ((n.k.toNat : Int) = 1) = decide (n.k = 1) := decide_eq_decide.2 hk1
      have e2 : (0 ≤ (s.length : Int) ∧ (s.length : Int) ≤ 256 ∧ (s.length : Int) ≤ (com n.key key : Int)) ↔ s.length ≤ com n.key key := ⟨fun h => by omega, fun h => ⟨by omega, by omega, by omega⟩⟩
      have d2 : decide (0 ≤ (s.length : Int) ∧ (s.length : Int) ≤ 256 ∧ (s.length : Int) ≤ (com n.key key : Int)) = decide (s.length ≤ com n.key key) := decide_eq_decide.2 e2
      have hcond : (bif !decide (t = root) then true else bif bif decide (n.k = 1) then !(bif decide (n.k = 1) then decide (n.key = key) else false) else false then !decide (s.length ≤ com n.key key) else false) = decide (t ≠ root ∨ (n.k = 1 ∧ ¬ s.length ≤ com n.key key)) := by
        by_cases c4 : n.key = key
        · have c3 : s.length ≤ com n.key key := by rw [c4, com_self]; omega
          by_cases c1 : t = root <;> by_cases c2 : n.k = 1 <;> simp [c1, c2, c3, c4] <;> (try (rw [c4] at c3; simp [c3]))
        · by_cases c1 : t = root <;> by_cases c2 : n.k = 1 <;> by_cases c3 : s.length ≤ com n.key key <;> simp [c1, c2, c3, c4]
      simp only [d1, d2] at H
      simp only [hcond] at H
      by_cases c0 : t ≠ root ∨ (n.k = 1 ∧ ¬ s.length ≤ com n.key key)
      · rw [if_pos c0]
        refine v_cond H (by rfl) (fun hb => ?_) (fun hb => ?_)
        · repeat (first | refine wp_seq ?_ | refine wp_block ?_ | refine wp_skip ?_ | refine wp_exit ?_ | ((first | refine v_some 5 tab_ok hN H (by rfl) (by (try simp only [hsl]); first | done | exact ct_Ver) ?_ | refine v_more tab_ok hN H (by rfl) (by rfl) (by (try simp only [hsl]); first | done | exact ct_Ver) ?_); clear H; intro a w H; replace H := nf_Ver H; first | (simp only [hsl] at H; replace H := nf_Ver H) | skip; (try simp only [List.drop_succ_cons, List.drop_zero, List.drop_nil]); try refine wpList_nil ?_) | refine wp_region_lit ?_)
          try simp only [hz] at H
          refine wp_ret ?_
          exact v_end [] [] tab_ok ⟨hN, hR⟩ (rs := [.cell 6 43, .tmp 7]) (ress := [_, _]) rfl H (by rfl) (by rfl) (by simp [pickB, bxs, ren, idx?, sub_refl, sub, allP, hsl] <;> omega) (by first | rfl | (simp [hsl] <;> omega)) (by first | exact trivial | exact ⟨sub_refl _ _, trivial⟩ | exact ⟨sub_refl _ _, sub_refl _ _, trivial⟩ | exact ⟨sub_refl _ _, sub_refl _ _, sub_refl _ _, trivial⟩ | exact ⟨⟨rfl, sub_refl _ _, trivial⟩, sub_refl _ _, trivial⟩ | (simp [cargs, cargsG, St.ev, St.tmp, find, ren, idx?, sub_refl, sub, allP, resv, resC, bss, hsl] <;> omega)) rfl
        · exfalso; rw [decide_eq_true c0] at hb; cases hb
      · rw [if_neg c0]
        refine v_cond H (by rfl) (fun hb => ?_) (fun hb => ?_)
        · exfalso; rw [decide_eq_false c0] at hb; cases hb
        · clear hb
          repeat (first | refine wp_seq ?_ | refine wp_block ?_ | refine wp_skip ?_ | refine wp_exit ?_ | ((first | refine v_some 5 tab_ok hN H (by rfl) (by (try simp only [hsl]); first | done | exact ct_Ver) ?_ | refine v_more tab_ok hN H (by rfl) (by rfl) (by (try simp only [hsl]); first | done | exact ct_Ver) ?_); clear H; intro a w H; replace H := nf_Ver H; first | (simp only [hsl] at H; replace H := nf_Ver H) | skip; (try simp only [List.drop_succ_cons, List.drop_zero, List.drop_nil]); try refine wpList_nil ?_) | refine wp_region_lit ?_)
          by_cases c1 : n.k = 1 ∧ n.key = key
          · rw [if_pos c1]
            refine v_cond H (by rfl) (fun hb => ?_) (fun hb => ?_)
            · repeat (first | refine wp_seq ?_ | refine wp_block ?_ | refine wp_skip ?_ | refine wp_exit ?_ | ((first | refine v_some 5 tab_ok hN H (by rfl) (by (try simp only [hsl]); first | done | exact ct_Ver) ?_ | refine v_more tab_ok hN H (by rfl) (by rfl) (by (try simp only [hsl]); first | done | exact ct_Ver) ?_); clear H; intro a w H; replace H := nf_Ver H; first | (simp only [hsl] at H; replace H := nf_Ver H) | skip; (try simp only [List.drop_succ_cons, List.drop_zero, List.drop_nil]); try refine wpList_nil ?_) | refine wp_region_lit ?_)
              refine wp_ret ?_
              exact v_end [] [] tab_ok ⟨hN, hR⟩ (rs := [.cell 6 43, .tmp 7]) (ress := [_, _]) rfl H (by rfl) (by rfl) (by simp [pickB, bxs, ren, idx?, sub_refl, sub, allP, hsl] <;> omega) (by first | rfl | (simp [hsl] <;> omega)) (by first | exact trivial | exact ⟨sub_refl _ _, trivial⟩ | exact ⟨sub_refl _ _, sub_refl _ _, trivial⟩ | exact ⟨sub_refl _ _, sub_refl _ _, sub_refl _ _, trivial⟩ | exact ⟨⟨rfl, sub_refl _ _, trivial⟩, sub_refl _ _, trivial⟩ | (simp [cargs, cargsG, St.ev, St.tmp, find, ren, idx?, sub_refl, sub, allP, resv, resC, bss, hsl] <;> omega)) rfl
            · exfalso; rw [decide_eq_true c1.1, decide_eq_true c1.2] at hb; cases hb
          · rw [if_neg c1]
            refine v_cond H (by rfl) (fun hb => ?_) (fun hb => ?_)
            · exfalso
              by_cases c2 : n.k = 1
              · by_cases c3 : n.key = key
                · exact c1 ⟨c2, c3⟩
                · rw [decide_eq_false c3] at hb; simp at hb
              · rw [decide_eq_false c2] at hb; simp at hb
            · repeat (first | refine wp_seq ?_ | refine wp_block ?_ | refine wp_skip ?_ | refine wp_exit ?_ | ((first | refine v_some 5 tab_ok hN H (by rfl) (by (try simp only [hsl]); first | done | exact ct_Ver) ?_ | refine v_more tab_ok hN H (by rfl) (by rfl) (by (try simp only [hsl]); first | done | exact ct_Ver) ?_); clear H; intro a w H; replace H := nf_Ver H; first | (simp only [hsl] at H; replace H := nf_Ver H) | skip; (try simp only [List.drop_succ_cons, List.drop_zero, List.drop_nil]); try refine wpList_nil ?_) | refine wp_region_lit ?_)
              try simp only [hz] at H
              refine wp_ret ?_
              exact v_end [] [] tab_ok ⟨hN, hR⟩ (rs := [.cell 6 43, .tmp 7]) (ress := [_, _]) rfl H (by rfl) (by rfl) (by simp [pickB, bxs, ren, idx?, sub_refl, sub, allP, hsl] <;> omega) (by first | rfl | (simp [hsl] <;> omega)) (by first | exact trivial | exact ⟨sub_refl _ _, trivial⟩ | exact ⟨sub_refl _ _, sub_refl _ _, trivial⟩ | exact ⟨sub_refl _ _, sub_refl _ _, sub_refl _ _, trivial⟩ | exact ⟨⟨rfl, sub_refl _ _, trivial⟩, sub_refl _ _, trivial⟩ | (simp [cargs, cargsG, St.ev, St.tmp, find, ren, idx?, sub_refl, sub, allP, resv, resC, bss, hsl] <;> omega)) rfl
  · have e : vRd root key l = (false, z32, 10) := by rw [vRd, if_pos h]
    rw [e]
    rw [vErr, if_neg h] at hd
    clear e
    generalize vTop key l = t at *
    refine v_enter Try.func16 rfl (by kernel_rfl) (by show 3 ≤ 70; decide) ?_
    intro N w0 a w hN hR H
    repeat (first | refine wp_seq ?_ | refine wp_block ?_ | refine wp_skip ?_ | refine wp_exit ?_ | ((first | refine v_some 5 tab_ok hN H (by rfl) ct_Ver ?_ | refine v_more tab_ok hN H (by rfl) (by rfl) ct_Ver ?_); clear H; intro a w H; replace H := nf_Ver H; (try simp only [List.drop_succ_cons, List.drop_zero, List.drop_nil]); try refine wpList_nil ?_) | refine wp_region_lit ?_)
    refine v_call [] [] (hd) H rfl rfl (by rfl) cb cw ca ?_; clear H; intro a w H; replace H := nf_Ver H; try refine wpList_nil ?_
    repeat (first | refine wp_seq ?_ | refine wp_block ?_ | refine wp_skip ?_ | refine wp_exit ?_ | ((first | refine v_some 5 tab_ok hN H (by rfl) ct_Ver ?_ | refine v_more tab_ok hN H (by rfl) (by rfl) ct_Ver ?_); clear H; intro a w H; replace H := nf_Ver H; (try simp only [List.drop_succ_cons, List.drop_zero, List.drop_nil]); try refine wpList_nil ?_) | refine wp_region_lit ?_)
    refine v_cond H (by rfl) (fun hb => ?_) (fun hb => ?_)
    · repeat (first | refine wp_seq ?_ | refine wp_block ?_ | refine wp_skip ?_ | refine wp_exit ?_ | ((first | refine v_some 5 tab_ok hN H (by rfl) ct_Ver ?_ | refine v_more tab_ok hN H (by rfl) (by rfl) ct_Ver ?_); clear H; intro a w H; replace H := nf_Ver H; (try simp only [List.drop_succ_cons, List.drop_zero, List.drop_nil]); try refine wpList_nil ?_) | refine wp_region_lit ?_)
      try simp only [hz] at H
      refine wp_ret ?_
      exact v_end [] [] tab_ok ⟨hN, hR⟩ (rs := [.cell 6 43, .tmp 7]) (ress := [_, _]) rfl H (by rfl) (by rfl) cb cw ca rfl
    · simp at hb
def valH (v : List UInt8) : List UInt8 := sum (3 :: v)
theorem valH_len (v : List UInt8) : (valH v).length = 32 := sum_length _
theorem value_v (v : List UInt8) (hv : v.length ≤ 34359730000) : VC Try.prog 40 [.bs v none] [] (.ba (valH v)) := by
  have h := of_v 3 [v] (by simp; omega) (by simp)
  have e : [v].flatten = v := by simp
  rw [e] at h
  have hsl := sum_length (3 :: v)
  unfold valH
  refine v_enter Try.func40 rfl (by kernel_rfl) (by show 1 ≤ 6; decide) ?_
  intro N w0 a w hN hR H
  repeat (first | refine wp_seq ?_ | refine wp_block ?_ | refine wp_skip ?_ | refine wp_exit ?_ | ((first | refine v_some 5 tab_ok hN H (by rfl) ct_Ver ?_ | refine v_more tab_ok hN H (by rfl) (by rfl) ct_Ver ?_); clear H; intro a w H; replace H := nf_Ver H; (try simp only [List.drop_succ_cons, List.drop_zero, List.drop_nil]); try refine wpList_nil ?_) | refine wp_region_lit ?_)
  refine v_call [] [] (h) H rfl rfl (by rfl) cb cw ca ?_; clear H; intro a w H; replace H := nf_Ver H; try refine wpList_nil ?_
  repeat (first | refine wp_seq ?_ | refine wp_block ?_ | refine wp_skip ?_ | refine wp_exit ?_ | ((first | refine v_some 5 tab_ok hN H (by rfl) ct_Ver ?_ | refine v_more tab_ok hN H (by rfl) (by rfl) ct_Ver ?_); clear H; intro a w H; replace H := nf_Ver H; (try simp only [List.drop_succ_cons, List.drop_zero, List.drop_nil]); try refine wpList_nil ?_) | refine wp_region_lit ?_)
  refine wp_ret ?_
  exact v_end [] [] tab_ok ⟨hN, hR⟩ (rs := [.cell 2 30]) (ress := [_]) rfl H (by rfl) (by rfl) cb cw ca rfl
theorem valueR_v (v : List UInt8) (hv : v.length ≤ 34359730000) : VC Try.prog 41 [.bs v none] [] (.ba (valH v)) := by
  have h := ofHR_v 3 [v] (by simp; omega) (by simp)
  have e : [v].flatten = v := by simp
  rw [e] at h
  have hsl := sum_length (3 :: v)
  unfold valH
  refine v_enter Try.func41 rfl (by kernel_rfl) (by show 1 ≤ 6; decide) ?_
  intro N w0 a w hN hR H
  repeat (first | refine wp_seq ?_ | refine wp_block ?_ | refine wp_skip ?_ | refine wp_exit ?_ | ((first | refine v_some 5 tab_ok hN H (by rfl) ct_Ver ?_ | refine v_more tab_ok hN H (by rfl) (by rfl) ct_Ver ?_); clear H; intro a w H; replace H := nf_Ver H; (try simp only [List.drop_succ_cons, List.drop_zero, List.drop_nil]); try refine wpList_nil ?_) | refine wp_region_lit ?_)
  refine v_call [] [] (h) H rfl rfl (by rfl) cb cw ca ?_; clear H; intro a w H; replace H := nf_Ver H; try refine wpList_nil ?_
  repeat (first | refine wp_seq ?_ | refine wp_block ?_ | refine wp_skip ?_ | refine wp_exit ?_ | ((first | refine v_some 5 tab_ok hN H (by rfl) ct_Ver ?_ | refine v_more tab_ok hN H (by rfl) (by rfl) ct_Ver ?_); clear H; intro a w H; replace H := nf_Ver H; (try simp only [List.drop_succ_cons, List.drop_zero, List.drop_nil]); try refine wpList_nil ?_) | refine wp_region_lit ?_)
  refine wp_ret ?_
  exact v_end [] [] tab_ok ⟨hN, hR⟩ (rs := [.cell 2 22]) (ress := [_]) rfl H (by rfl) (by rfl) cb cw ca rfl
def vPres (root key v l : List UInt8) : Bool := decide (v.length ≤ 1024) && (decide ((vRd root key l).2.2 = 0) && ((vRd root key l).1 && decide ((vRd root key l).2.1 = valH v)))
def vAbs (root key l : List UInt8) : Bool := decide ((vRd root key l).2.2 = 0) && !(vRd root key l).1
theorem vAbs_v (root key l : List UInt8) (hr : root.length = 32) (hk : key.length = 32) (hl : l.length ≤ 34359730000) : VC Try.prog 19 [.ba root, .ba key, .bs l none] [] (.v (.bool (vAbs root key l))) := by
  have hd := vRead_v root key l hr hk hl
  have hl2 := vRd_len root key l
  unfold vAbs
  generalize vRd root key l = x at *
  obtain ⟨b, v, e⟩ := x
  dsimp only at *
  refine v_enter Try.func19 rfl (by kernel_rfl) (by show 3 ≤ 23; decide) ?_
  intro N w0 a w hN hR H
  repeat (first | refine wp_seq ?_ | refine wp_block ?_ | refine wp_skip ?_ | refine wp_exit ?_ | ((first | refine v_some 5 tab_ok hN H (by rfl) ct_Ver ?_ | refine v_more tab_ok hN H (by rfl) (by rfl) ct_Ver ?_); clear H; intro a w H; replace H := nf_Ver H; (try simp only [List.drop_succ_cons, List.drop_zero, List.drop_nil]); try refine wpList_nil ?_) | refine wp_region_lit ?_)
  refine v_call [] [] (hd) H rfl rfl (by rfl) cb cw ca ?_; clear H; intro a w H; replace H := nf_Ver H; try refine wpList_nil ?_
  repeat (first | refine wp_seq ?_ | refine wp_block ?_ | refine wp_skip ?_ | refine wp_exit ?_ | ((first | refine v_some 5 tab_ok hN H (by rfl) ct_Ver ?_ | refine v_more tab_ok hN H (by rfl) (by rfl) ct_Ver ?_); clear H; intro a w H; replace H := nf_Ver H; (try simp only [List.drop_succ_cons, List.drop_zero, List.drop_nil]); try refine wpList_nil ?_) | refine wp_region_lit ?_)
  have eb : (decide (e = 0) && !b) = (bif decide (e = 0) then !b else false) := by cases decide (e = 0) <;> rfl
  rw [eb]
  refine wp_ret ?_
  exact v_end [] [] tab_ok ⟨hN, hR⟩ (rs := [.tmp 6]) (ress := [_]) rfl H (by rfl) (by rfl) cb cw ca rfl
theorem vAbsR_v (root key l : List UInt8) (hr : root.length = 32) (hk : key.length = 32) (hl : l.length ≤ 34359730000) : VC Try.prog 20 [.ba root, .ba key, .bs l none] [] (.v (.bool (vAbs root key l))) := by
  have hd := vReadR_v root key l hr hk hl
  have hl2 := vRd_len root key l
  unfold vAbs
  generalize vRd root key l = x at *
  obtain ⟨b, v, e⟩ := x
  dsimp only at *
  refine v_enter Try.func20 rfl (by kernel_rfl) (by show 3 ≤ 23; decide) ?_
  intro N w0 a w hN hR H
  repeat (first | refine wp_seq ?_ | refine wp_block ?_ | refine wp_skip ?_ | refine wp_exit ?_ | ((first | refine v_some 5 tab_ok hN H (by rfl) ct_Ver ?_ | refine v_more tab_ok hN H (by rfl) (by rfl) ct_Ver ?_); clear H; intro a w H; replace H := nf_Ver H; (try simp only [List.drop_succ_cons, List.drop_zero, List.drop_nil]); try refine wpList_nil ?_) | refine wp_region_lit ?_)
  refine v_call [] [] (hd) H rfl rfl (by rfl) cb cw ca ?_; clear H; intro a w H; replace H := nf_Ver H; try refine wpList_nil ?_
  repeat (first | refine wp_seq ?_ | refine wp_block ?_ | refine wp_skip ?_ | refine wp_exit ?_ | ((first | refine v_some 5 tab_ok hN H (by rfl) ct_Ver ?_ | refine v_more tab_ok hN H (by rfl) (by rfl) ct_Ver ?_); clear H; intro a w H; replace H := nf_Ver H; (try simp only [List.drop_succ_cons, List.drop_zero, List.drop_nil]); try refine wpList_nil ?_) | refine wp_region_lit ?_)
  have eb : (decide (e = 0) && !b) = (bif decide (e = 0) then !b else false) := by cases decide (e = 0) <;> rfl
  rw [eb]
  refine wp_ret ?_
  exact v_end [] [] tab_ok ⟨hN, hR⟩ (rs := [.tmp 6]) (ress := [_]) rfl H (by rfl) (by rfl) cb cw ca rfl
set_option maxRecDepth 20000 in
theorem vPres_v (root key v l : List UInt8) (hr : root.length = 32) (hk : key.length = 32) (hv : v.length ≤ 34359730000) (hl : l.length ≤ 34359730000) : VC Try.prog 17 [.ba root, .ba key, .bs v none, .bs l none] [] (.v (.bool (vPres root key v l))) := by
  have hd := vRead_v root key l hr hk hl
  have hl2 := vRd_len root key l
  have hvv := value_v v hv
  have hvl := valH_len v
  unfold vPres
  generalize vRd root key l = x at *
  generalize valH v = y at *
  obtain ⟨b, z, e⟩ := x
  dsimp only at *
  refine v_enter Try.func17 rfl (by kernel_rfl) (by show 4 ≤ 30; decide) ?_
  intro N w0 a w hN hR H
  repeat (first | refine wp_seq ?_ | refine wp_block ?_ | refine wp_skip ?_ | refine wp_exit ?_ | ((first | refine v_some 5 tab_ok hN H (by rfl) ct_Ver ?_ | refine v_more tab_ok hN H (by rfl) (by rfl) ct_Ver ?_); clear H; intro a w H; replace H := nf_Ver H; (try simp only [List.drop_succ_cons, List.drop_zero, List.drop_nil]); try refine wpList_nil ?_) | refine wp_region_lit ?_)
  by_cases h1 : v.length ≤ 1024
  · rw [decide_eq_true h1, Bool.true_and]
    refine v_cond H (by rfl) (fun hb => ?_) (fun hb => ?_)
    · exfalso; rw [decide_eq_true_eq] at hb; omega
    · clear hb
      repeat (first | refine wp_seq ?_ | refine wp_block ?_ | refine wp_skip ?_ | refine wp_exit ?_ | ((first | refine v_some 5 tab_ok hN H (by rfl) ct_Ver ?_ | refine v_more tab_ok hN H (by rfl) (by rfl) ct_Ver ?_); clear H; intro a w H; replace H := nf_Ver H; (try simp only [List.drop_succ_cons, List.drop_zero, List.drop_nil]); try refine wpList_nil ?_) | refine wp_region_lit ?_)
      refine v_call [] [] (hd) H rfl rfl (by rfl) cb cw ca ?_; clear H; intro a w H; replace H := nf_Ver H; try refine wpList_nil ?_
      repeat (first | refine wp_seq ?_ | refine wp_block ?_ | refine wp_skip ?_ | refine wp_exit ?_ | ((first | refine v_some 5 tab_ok hN H (by rfl) ct_Ver ?_ | refine v_more tab_ok hN H (by rfl) (by rfl) ct_Ver ?_); clear H; intro a w H; replace H := nf_Ver H; (try simp only [List.drop_succ_cons, List.drop_zero, List.drop_nil]); try refine wpList_nil ?_) | refine wp_region_lit ?_)
      repeat (first | refine wp_seq ?_ | refine wp_block ?_)
      refine v_draw 3 [5] [3] (by kernel_rfl) (by kernel_rfl) H (by rfl) (fun gS H => ?_); try replace H := nt_Ver H
      repeat (refine v_someT 5 tab_ok hN H (by rfl) ct_Ver ?_; clear H; intro a w H; replace H := nt_Ver H; simp only [List.drop_succ_cons, List.drop_zero, List.drop_nil])
      refine v_moreT tab_ok hN H (by rfl) ct_Ver ?_; clear H; intro a w H; try replace H := nt_Ver H
      refine v_callTG [] [] (hvv) H (by rfl) (by rfl) (by rfl) rfl (by rfl) cb cw ca (by rfl) (by rfl) (by rfl) ?_; clear H; intro a w H; try replace H := nt_Ver H
      repeat (refine v_someT 5 tab_ok hN H (by rfl) ct_Ver ?_; clear H; intro a w H; replace H := nt_Ver H; simp only [List.drop_succ_cons, List.drop_zero, List.drop_nil])
      refine v_moreT tab_ok hN H (by rfl) ct_Ver ?_; clear H; intro a w H; try replace H := nt_Ver H
      refine v_drawNil H (fun H => ?_)
      have eb : (decide (e = 0) && (b && decide (z = y))) = (bif decide (e = 0) then (b && decide (z = y)) else false) := by cases decide (e = 0) <;> rfl
      rw [eb]
      trace_state
      refine wp_ret ?_
      exact v_end [] [] tab_ok ⟨hN, hR⟩ (rs := [.tmp 8]) (ress := [_]) rfl H (by rfl) (by rfl) cb cw ca rfl
  · rw [decide_eq_false h1, Bool.false_and]
    refine v_cond H (by rfl) (fun hb => ?_) (fun hb => ?_)
    · repeat (first | refine wp_seq ?_ | refine wp_block ?_ | refine wp_skip ?_ | refine wp_exit ?_ | ((first | refine v_some 5 tab_ok hN H (by rfl) ct_Ver ?_ | refine v_more tab_ok hN H (by rfl) (by rfl) ct_Ver ?_); clear H; intro a w H; replace H := nf_Ver H; (try simp only [List.drop_succ_cons, List.drop_zero, List.drop_nil]); try refine wpList_nil ?_) | refine wp_region_lit ?_)
      refine wp_ret ?_
      exact v_end [] [] tab_ok ⟨hN, hR⟩ (rs := [.tmp 8]) (ress := [_]) rfl H (by rfl) (by rfl) cb cw ca rfl
    · exfalso; rw [decide_eq_false_iff_not] at hb; omega
set_option maxRecDepth 20000 in
theorem vPresR_v (root key v l : List UInt8) (hr : root.length = 32) (hk : key.length = 32) (hv : v.length ≤ 34359730000) (hl : l.length ≤ 34359730000) : VC Try.prog 18 [.ba root, .ba key, .bs v none, .bs l none] [] (.v (.bool (vPres root key v l))) := by
  have hd := vReadR_v root key l hr hk hl
  have hl2 := vRd_len root key l
  have hvv := valueR_v v hv
  have hvl := valH_len v
  unfold vPres
  generalize vRd root key l = x at *
  generalize valH v = y at *
  obtain ⟨b, z, e⟩ := x
  dsimp only at *
  refine v_enter Try.func18 rfl (by kernel_rfl) (by show 4 ≤ 36; decide) ?_
  intro N w0 a w hN hR H
  repeat (first | refine wp_seq ?_ | refine wp_block ?_ | refine wp_skip ?_ | refine wp_exit ?_ | ((first | refine v_some 5 tab_ok hN H (by rfl) ct_Ver ?_ | refine v_more tab_ok hN H (by rfl) (by rfl) ct_Ver ?_); clear H; intro a w H; replace H := nf_Ver H; (try simp only [List.drop_succ_cons, List.drop_zero, List.drop_nil]); try refine wpList_nil ?_) | refine wp_region_lit ?_)
  refine v_call [] [] (hd) H rfl rfl (by rfl) cb cw ca ?_; clear H; intro a w H; replace H := nf_Ver H; try refine wpList_nil ?_
  repeat (first | refine wp_seq ?_ | refine wp_block ?_ | refine wp_skip ?_ | refine wp_exit ?_ | ((first | refine v_some 5 tab_ok hN H (by rfl) ct_Ver ?_ | refine v_more tab_ok hN H (by rfl) (by rfl) ct_Ver ?_); clear H; intro a w H; replace H := nf_Ver H; (try simp only [List.drop_succ_cons, List.drop_zero, List.drop_nil]); try refine wpList_nil ?_) | refine wp_region_lit ?_)
  repeat (first | refine wp_seq ?_ | refine wp_block ?_)
  refine v_draw 3 [15] [12, 13] (by kernel_rfl) (by kernel_rfl) H (by rfl) (fun gS H => ?_); try replace H := nt_Ver H
  repeat (refine v_someT 5 tab_ok hN H (by rfl) ct_Ver ?_; clear H; intro a w H; replace H := nt_Ver H; simp only [List.drop_succ_cons, List.drop_zero, List.drop_nil])
  refine v_moreT tab_ok hN H (by rfl) ct_Ver ?_; clear H; intro a w H; try replace H := nt_Ver H
  refine v_callTG [] [] (hvv) H (by rfl) (by rfl) (by rfl) rfl (by rfl) cb cw ca (by rfl) (by rfl) (by rfl) ?_; clear H; intro a w H; try replace H := nt_Ver H
  repeat (refine v_someT 5 tab_ok hN H (by rfl) ct_Ver ?_; clear H; intro a w H; replace H := nt_Ver H; simp only [List.drop_succ_cons, List.drop_zero, List.drop_nil])
  refine v_moreT tab_ok hN H (by rfl) ct_Ver ?_; clear H; intro a w H; try replace H := nt_Ver H
  refine v_drawNil H (fun H => ?_)
  have eb : (decide (v.length ≤ 1024) && (decide (e = 0) && (b && decide (z = y)))) = (bif bif bif decide (e = 0) then b else false then decide ((v.length : Int) ≤ 1024) else false then decide (z = y) else false) := by
    have d : decide ((v.length : Int) ≤ 1024) = decide (v.length ≤ 1024) := decide_eq_decide.2 ⟨fun h => by omega, fun h => by omega⟩
    rw [d]
    cases decide (e = 0) <;> cases decide (v.length ≤ 1024) <;> cases b <;> simp
  rw [eb]
  refine wp_ret ?_
  exact v_end [] [] tab_ok ⟨hN, hR⟩ (rs := [.tmp 8]) (ress := [_]) rfl H (by rfl) (by rfl) cb cw ca rfl
end Go.Proofs.Ytlagngkafllbiaa
