/- The document's nodes, written and read. -/
import Derived.Test.YtlagngkafllbiaaRef51
set_option linter.unusedSimpArgs false
set_option linter.unusedVariables false
namespace Go.Proofs.Ytlagngkafllbiaa
open Go Go.RowKit
/-- The state made plain. -/
theorem nf_Ref52 {P : Program} {w0 w : World} {N : Gh} {nt : Nat} {st s2 : St} {a : Act} (H : Rel P w0 N nt st a w) (h : st = s2 := by (try simp only [pk, elemB, St.put, St.ev, St.tmp, St.keep, find, dropT, slots, AV.put, AV.loc, fitI, convI, IntKind.signed, IntKind.bits, strip, St.lose, mergeL, setAll, nth, renB, ren, idx?, sub, allP, low, bnd, Int.reduceEq, Nat.reduceAdd, Nat.reduceLT, reduceIte, reduceCtorEq, Nat.reduceEqDiff, Nat.reduceLeDiff, Nat.reduceBEq, Int.reducePow, Int.reduceToNat, ti24_t, ti24_z, ti5_t, ti5_z, ti62_t, ti62_z, ti30_t, ti30_z, ti23_t, ti23_z, ti22_t, ti22_z]); rfl) : Rel P w0 N nt s2 a w := h ▸ H
theorem nt_Ref52 {P : Program} {w0 w : World} {N gS : Gh} {nt : Nat} {q q2 st s2 : St} {a : Act} (H : RelT P w0 N nt gS q st a w) (h1 : q = q2 := by (try simp only [pk, elemB, St.put, St.ev, St.tmp, St.keep, find, dropT, slots, AV.put, AV.loc, fitI, convI, IntKind.signed, IntKind.bits, strip, St.lose, mergeL, setAll, nth, renB, ren, idx?, sub, allP, low, bnd, Int.reduceEq, Nat.reduceAdd, Nat.reduceLT, reduceIte, reduceCtorEq, Nat.reduceEqDiff, Nat.reduceLeDiff, Nat.reduceBEq, Int.reducePow, Int.reduceToNat, ti24_t, ti24_z, ti5_t, ti5_z, ti62_t, ti62_z, ti30_t, ti30_z, ti23_t, ti23_z, ti22_t, ti22_z]); rfl) (h : st = s2 := by (try simp only [pk, elemB, St.put, St.ev, St.tmp, St.keep, find, dropT, slots, AV.put, AV.loc, fitI, convI, IntKind.signed, IntKind.bits, strip, St.lose, mergeL, setAll, nth, renB, ren, idx?, sub, allP, low, bnd, Int.reduceEq, Nat.reduceAdd, Nat.reduceLT, reduceIte, reduceCtorEq, Nat.reduceEqDiff, Nat.reduceLeDiff, Nat.reduceBEq, Int.reducePow, Int.reduceToNat, ti24_t, ti24_z, ti5_t, ti5_z, ti62_t, ti62_z, ti30_t, ti30_z, ti23_t, ti23_z, ti22_t, ti22_z]); rfl) : RelT P w0 N nt gS q2 s2 a w := h1 ▸ h ▸ H
theorem ct_Ref52 {c : Prop} (h : c := by ((try simp only [pk, elemB, St.put, St.ev, St.tmp, St.keep, find, dropT, slots, AV.put, AV.loc, fitI, convI, IntKind.signed, IntKind.bits, strip, St.lose, mergeL, setAll, nth, renB, ren, idx?, sub, allP, low, bnd, Int.reduceEq, Nat.reduceAdd, Nat.reduceLT, reduceIte, reduceCtorEq, Nat.reduceEqDiff, Nat.reduceLeDiff, Nat.reduceBEq, Int.reducePow, Int.reduceToNat, ti24_t, ti24_z, ti5_t, ti5_z, ti62_t, ti62_z, ti30_t, ti30_z, ti23_t, ti23_z, ti22_t, ti22_z, ti24, ti5, ti62, ti30, ti23, ti22, fit, gcond, ilo, ihi]); first | done | exact cd | exact cd2 | skip)) : c := h
theorem encodeR_ok (n : Nd) (hw : n.wf) (h : n.ok) : VC Try.prog 91 [n.av] [(5, n.text.length)] (.tup [.bs n.text (some 0), errv 0]) := by
  have hck := checkR_v n hw
  rw [if_pos h] at hck
  obtain ⟨k, key, v, l, r⟩ := n
  obtain ⟨h1, h2, h3, h4⟩ := hw
  dsimp only at h1 h2 h3 h4
  refine v_enter Try.func91 rfl (by kernel_rfl) (by show 1 ≤ 24; decide) ?_
  intro N w0 a w hN hR H
  have hk1 : ((k.toNat : Int) = 1) ↔ k = 1 := ⟨fun h => UInt8.toNat_inj.1 (by simp; omega), fun h => by subst h; rfl⟩
  have hk2 : ((k.toNat : Int) = 2) ↔ k = 2 := ⟨fun h => UInt8.toNat_inj.1 (by simp; omega), fun h => by subst h; rfl⟩
  simp only [Nd.av] at H hck
  repeat (first | refine wp_seq ?_ | refine wp_block ?_ | refine wp_skip ?_ | refine wp_exit ?_ | ((first | refine v_some 5 tab_ok hN H (by rfl) ct_Ref52 ?_ | refine v_more tab_ok hN H (by rfl) (by rfl) ct_Ref52 ?_); clear H; intro a w H; replace H := nf_Ref52 H; (try simp only [List.drop_succ_cons, List.drop_zero, List.drop_nil]); try refine wpList_nil ?_) | refine wp_region_lit ?_)
  refine v_call [] [] (hck) H rfl rfl (by rfl) cb cw ca ?_; clear H; intro a w H; replace H := nf_Ref52 H; try refine wpList_nil ?_
  repeat (first | refine wp_seq ?_ | refine wp_block ?_ | refine wp_skip ?_ | refine wp_exit ?_ | ((first | refine v_some 5 tab_ok hN H (by rfl) ct_Ref52 ?_ | refine v_more tab_ok hN H (by rfl) (by rfl) ct_Ref52 ?_); clear H; intro a w H; replace H := nf_Ref52 H; (try simp only [List.drop_succ_cons, List.drop_zero, List.drop_nil]); try refine wpList_nil ?_) | refine wp_region_lit ?_)
  refine v_cond H (by rfl) (fun hb => ?_) (fun hb => ?_)
  · simp at hb
  · repeat (first | refine wp_seq ?_ | refine wp_block ?_ | refine wp_skip ?_ | refine wp_exit ?_ | ((first | refine v_some 5 tab_ok hN H (by rfl) ct_Ref52 ?_ | refine v_more tab_ok hN H (by rfl) (by rfl) ct_Ref52 ?_); clear H; intro a w H; replace H := nf_Ref52 H; (try simp only [List.drop_succ_cons, List.drop_zero, List.drop_nil]); try refine wpList_nil ?_) | refine wp_region_lit ?_)
    refine v_cond H (by rfl) (fun hb => ?_) (fun hb => ?_)
    · have hk : k = 1 := hk1.1 (by simpa using hb)
      subst hk
      repeat (first | refine wp_seq ?_ | refine wp_block ?_ | refine wp_skip ?_ | refine wp_exit ?_ | ((first | refine v_some 5 tab_ok hN H (by rfl) ct_Ref52 ?_ | refine v_more tab_ok hN H (by rfl) (by rfl) ct_Ref52 ?_); clear H; intro a w H; replace H := nf_Ref52 H; (try simp only [List.drop_succ_cons, List.drop_zero, List.drop_nil]); try refine wpList_nil ?_) | refine wp_region_lit ?_)
      refine v_call [] [] (leafR_v key v h1 h2) H rfl rfl (by rfl) cb cw ca ?_; clear H; intro a w H; replace H := nf_Ref52 H; try refine wpList_nil ?_
      repeat (first | refine wp_seq ?_ | refine wp_block ?_ | refine wp_skip ?_ | refine wp_exit ?_ | ((first | refine v_some 5 tab_ok hN H (by rfl) ct_Ref52 ?_ | refine v_more tab_ok hN H (by rfl) (by rfl) ct_Ref52 ?_); clear H; intro a w H; replace H := nf_Ref52 H; (try simp only [List.drop_succ_cons, List.drop_zero, List.drop_nil]); try refine wpList_nil ?_) | refine wp_region_lit ?_)
      refine wp_ret ?_
      exact v_end [] [0] tab_ok ⟨hN, hR⟩ (rs := [.tmp 2, .tmp 3]) (ress := [_, _]) rfl H (by rfl) (by rfl) (by simp [pickB, bxs, ren, idx?, sub_refl, sub, allP, Nd.text] <;> omega) (by first | rfl | (simp [Nd.text] <;> omega)) (by first | exact trivial | exact ⟨sub_refl _ _, trivial⟩ | exact ⟨sub_refl _ _, sub_refl _ _, trivial⟩ | exact ⟨sub_refl _ _, sub_refl _ _, sub_refl _ _, trivial⟩ | exact ⟨⟨rfl, sub_refl _ _, trivial⟩, sub_refl _ _, trivial⟩ | (simp [cargs, cargsG, St.ev, St.tmp, find, ren, idx?, sub_refl, sub, allP, resv, resC, bss, Nd.text] <;> omega)) rfl
    · repeat (first | refine wp_seq ?_ | refine wp_block ?_ | refine wp_skip ?_ | refine wp_exit ?_ | ((first | refine v_some 5 tab_ok hN H (by rfl) (by (try simp only [Nd.text]); first | done | exact ct_Ref52) ?_ | refine v_more tab_ok hN H (by rfl) (by rfl) (by (try simp only [Nd.text]); first | done | exact ct_Ref52) ?_); clear H; intro a w H; replace H := nf_Ref52 H; first | (simp only [Nd.text] at H; replace H := nf_Ref52 H) | skip; (try simp only [List.drop_succ_cons, List.drop_zero, List.drop_nil]); try refine wpList_nil ?_) | refine wp_region_lit ?_)
      refine v_cond H (by rfl) (fun hb => ?_) (fun hb => ?_)
      · have hk : k = 2 := hk2.1 (by simpa using hb)
        subst hk
        repeat (first | refine wp_seq ?_ | refine wp_block ?_ | refine wp_skip ?_ | refine wp_exit ?_ | ((first | refine v_some 5 tab_ok hN H (by rfl) ct_Ref52 ?_ | refine v_more tab_ok hN H (by rfl) (by rfl) ct_Ref52 ?_); clear H; intro a w H; replace H := nf_Ref52 H; (try simp only [List.drop_succ_cons, List.drop_zero, List.drop_nil]); try refine wpList_nil ?_) | refine wp_region_lit ?_)
        refine v_call [] [] (innerR_v l r h3 h4) H rfl rfl (by rfl) cb cw ca ?_; clear H; intro a w H; replace H := nf_Ref52 H; try refine wpList_nil ?_
        repeat (first | refine wp_seq ?_ | refine wp_block ?_ | refine wp_skip ?_ | refine wp_exit ?_ | ((first | refine v_some 5 tab_ok hN H (by rfl) ct_Ref52 ?_ | refine v_more tab_ok hN H (by rfl) (by rfl) ct_Ref52 ?_); clear H; intro a w H; replace H := nf_Ref52 H; (try simp only [List.drop_succ_cons, List.drop_zero, List.drop_nil]); try refine wpList_nil ?_) | refine wp_region_lit ?_)
        refine wp_ret ?_
        exact v_end [] [0] tab_ok ⟨hN, hR⟩ (rs := [.tmp 2, .tmp 3]) (ress := [_, _]) rfl H (by rfl) (by rfl) (by simp [pickB, bxs, ren, idx?, sub_refl, sub, allP, Nd.text] <;> omega) (by first | rfl | (simp [Nd.text] <;> omega)) (by first | exact trivial | exact ⟨sub_refl _ _, trivial⟩ | exact ⟨sub_refl _ _, sub_refl _ _, trivial⟩ | exact ⟨sub_refl _ _, sub_refl _ _, sub_refl _ _, trivial⟩ | exact ⟨⟨rfl, sub_refl _ _, trivial⟩, sub_refl _ _, trivial⟩ | (simp [cargs, cargsG, St.ev, St.tmp, find, ren, idx?, sub_refl, sub, allP, resv, resC, bss, Nd.text] <;> omega)) rfl
      · have hk : k = 0 := by
          simp only [Nd.ok, Nd.bare, Nd.zero] at h
          simp_all
        subst hk
        repeat (first | refine wp_seq ?_ | refine wp_block ?_ | refine wp_skip ?_ | refine wp_exit ?_ | ((first | refine v_some 5 tab_ok hN H (by rfl) ct_Ref52 ?_ | refine v_more tab_ok hN H (by rfl) (by rfl) ct_Ref52 ?_); clear H; intro a w H; replace H := nf_Ref52 H; (try simp only [List.drop_succ_cons, List.drop_zero, List.drop_nil]); try refine wpList_nil ?_) | refine wp_region_lit ?_)
        refine wp_ret ?_
        exact v_end [] [0] tab_ok ⟨hN, hR⟩ (rs := [.tmp 2, .tmp 3]) (ress := [_, _]) rfl H (by rfl) (by rfl) (by simp [pickB, bxs, ren, idx?, sub_refl, sub, allP, Nd.text] <;> omega) (by first | rfl | (simp [Nd.text] <;> omega)) (by first | exact trivial | exact ⟨sub_refl _ _, trivial⟩ | exact ⟨sub_refl _ _, sub_refl _ _, trivial⟩ | exact ⟨sub_refl _ _, sub_refl _ _, sub_refl _ _, trivial⟩ | exact ⟨⟨rfl, sub_refl _ _, trivial⟩, sub_refl _ _, trivial⟩ | (simp [cargs, cargsG, St.ev, St.tmp, find, ren, idx?, sub_refl, sub, allP, resv, resC, bss, Nd.text] <;> omega)) rfl
theorem encodeR_bad (n : Nd) (hw : n.wf) (h : ¬ n.ok) : VC Try.prog 91 [n.av] [] (.tup [.bs [] none, errv 2]) := by
  have hck := checkR_v n hw
  rw [if_neg h] at hck
  obtain ⟨h1, h2, h3, h4⟩ := id hw
  refine v_enter Try.func91 rfl (by kernel_rfl) (by show 1 ≤ 24; decide) ?_
  intro N w0 a w hN hR H
  simp only [Nd.av] at H hck
  repeat (first | refine wp_seq ?_ | refine wp_block ?_ | refine wp_skip ?_ | refine wp_exit ?_ | ((first | refine v_some 5 tab_ok hN H (by rfl) ct_Ref52 ?_ | refine v_more tab_ok hN H (by rfl) (by rfl) ct_Ref52 ?_); clear H; intro a w H; replace H := nf_Ref52 H; (try simp only [List.drop_succ_cons, List.drop_zero, List.drop_nil]); try refine wpList_nil ?_) | refine wp_region_lit ?_)
  refine v_call [] [] (hck) H rfl rfl (by rfl) cb cw ca ?_; clear H; intro a w H; replace H := nf_Ref52 H; try refine wpList_nil ?_
  repeat (first | refine wp_seq ?_ | refine wp_block ?_ | refine wp_skip ?_ | refine wp_exit ?_ | ((first | refine v_some 5 tab_ok hN H (by rfl) ct_Ref52 ?_ | refine v_more tab_ok hN H (by rfl) (by rfl) ct_Ref52 ?_); clear H; intro a w H; replace H := nf_Ref52 H; (try simp only [List.drop_succ_cons, List.drop_zero, List.drop_nil]); try refine wpList_nil ?_) | refine wp_region_lit ?_)
  refine v_cond H (by rfl) (fun hb => ?_) (fun hb => ?_)
  · repeat (first | refine wp_seq ?_ | refine wp_block ?_ | refine wp_skip ?_ | refine wp_exit ?_ | ((first | refine v_some 5 tab_ok hN H (by rfl) ct_Ref52 ?_ | refine v_more tab_ok hN H (by rfl) (by rfl) ct_Ref52 ?_); clear H; intro a w H; replace H := nf_Ref52 H; (try simp only [List.drop_succ_cons, List.drop_zero, List.drop_nil]); try refine wpList_nil ?_) | refine wp_region_lit ?_)
    refine wp_ret ?_
    exact v_end [] [] tab_ok ⟨hN, hR⟩ (rs := [.tmp 2, .tmp 3]) (ress := [_, _]) rfl H (by rfl) (by rfl) cb cw ca rfl
  · simp at hb
theorem digestR_ok (n : Nd) (hw : n.wf) (h : n.ok) : VC Try.prog 63 [n.av] [] (.tup [.ba (sum n.text), errv 0]) := by
  have hck := encodeR_ok n hw h
  obtain ⟨h1, h2, h3, h4⟩ := id hw
  have htl := text_len hw
  have hsl := sum_length n.text
  refine v_enter Try.func63 rfl (by kernel_rfl) (by show 1 ≤ 17; decide) ?_
  intro N w0 a w hN hR H
  simp only [Nd.av] at H hck
  repeat (first | refine wp_seq ?_ | refine wp_block ?_ | refine wp_skip ?_ | refine wp_exit ?_ | ((first | refine v_some 5 tab_ok hN H (by rfl) ct_Ref52 ?_ | refine v_more tab_ok hN H (by rfl) (by rfl) ct_Ref52 ?_); clear H; intro a w H; replace H := nf_Ref52 H; (try simp only [List.drop_succ_cons, List.drop_zero, List.drop_nil]); try refine wpList_nil ?_) | refine wp_region_lit ?_)
  refine v_call [] [] (hck) H rfl rfl (by rfl) cb cw ca ?_; clear H; intro a w H; replace H := nf_Ref52 H; try refine wpList_nil ?_
  repeat (first | refine wp_seq ?_ | refine wp_block ?_ | refine wp_skip ?_ | refine wp_exit ?_ | ((first | refine v_some 5 tab_ok hN H (by rfl) ct_Ref52 ?_ | refine v_more tab_ok hN H (by rfl) (by rfl) ct_Ref52 ?_); clear H; intro a w H; replace H := nf_Ref52 H; (try simp only [List.drop_succ_cons, List.drop_zero, List.drop_nil]); try refine wpList_nil ?_) | refine wp_region_lit ?_)
  refine v_cond H (by rfl) (fun hb => ?_) (fun hb => ?_)
  · simp at hb
  · repeat (first | refine wp_seq ?_ | refine wp_block ?_ | refine wp_skip ?_ | refine wp_exit ?_ | ((first | refine v_some 5 tab_ok hN H (by rfl) ct_Ref52 ?_ | refine v_more tab_ok hN H (by rfl) (by rfl) ct_Ref52 ?_); clear H; intro a w H; replace H := nf_Ref52 H; (try simp only [List.drop_succ_cons, List.drop_zero, List.drop_nil]); try refine wpList_nil ?_) | refine wp_region_lit ?_)
    refine v_call [] [] (sumR_v n.text (by omega)) H rfl rfl (by rfl) cb cw ca ?_; clear H; intro a w H; replace H := nf_Ref52 H; try refine wpList_nil ?_
    repeat (first | refine wp_seq ?_ | refine wp_block ?_ | refine wp_skip ?_ | refine wp_exit ?_ | ((first | refine v_some 5 tab_ok hN H (by rfl) ct_Ref52 ?_ | refine v_more tab_ok hN H (by rfl) (by rfl) ct_Ref52 ?_); clear H; intro a w H; replace H := nf_Ref52 H; (try simp only [List.drop_succ_cons, List.drop_zero, List.drop_nil]); try refine wpList_nil ?_) | refine wp_region_lit ?_)
    refine wp_ret ?_
    exact v_end [] [] tab_ok ⟨hN, hR⟩ (rs := [.cell 2 30, .tmp 3]) (ress := [_, _]) rfl H (by rfl) (by rfl) cb cw ca rfl
theorem digestR_bad (n : Nd) (hw : n.wf) (h : ¬ n.ok) : VC Try.prog 63 [n.av] [] (.tup [.ba z32, errv 2]) := by
  have hck := encodeR_bad n hw h
  obtain ⟨h1, h2, h3, h4⟩ := id hw
  refine v_enter Try.func63 rfl (by kernel_rfl) (by show 1 ≤ 17; decide) ?_
  intro N w0 a w hN hR H
  simp only [Nd.av] at H hck
  repeat (first | refine wp_seq ?_ | refine wp_block ?_ | refine wp_skip ?_ | refine wp_exit ?_ | ((first | refine v_some 5 tab_ok hN H (by rfl) ct_Ref52 ?_ | refine v_more tab_ok hN H (by rfl) (by rfl) ct_Ref52 ?_); clear H; intro a w H; replace H := nf_Ref52 H; (try simp only [List.drop_succ_cons, List.drop_zero, List.drop_nil]); try refine wpList_nil ?_) | refine wp_region_lit ?_)
  refine v_call [] [] (hck) H rfl rfl (by rfl) cb cw ca ?_; clear H; intro a w H; replace H := nf_Ref52 H; try refine wpList_nil ?_
  repeat (first | refine wp_seq ?_ | refine wp_block ?_ | refine wp_skip ?_ | refine wp_exit ?_ | ((first | refine v_some 5 tab_ok hN H (by rfl) ct_Ref52 ?_ | refine v_more tab_ok hN H (by rfl) (by rfl) ct_Ref52 ?_); clear H; intro a w H; replace H := nf_Ref52 H; (try simp only [List.drop_succ_cons, List.drop_zero, List.drop_nil]); try refine wpList_nil ?_) | refine wp_region_lit ?_)
  refine v_cond H (by rfl) (fun hb => ?_) (fun hb => ?_)
  · repeat (first | refine wp_seq ?_ | refine wp_block ?_ | refine wp_skip ?_ | refine wp_exit ?_ | ((first | refine v_some 5 tab_ok hN H (by rfl) ct_Ref52 ?_ | refine v_more tab_ok hN H (by rfl) (by rfl) ct_Ref52 ?_); clear H; intro a w H; replace H := nf_Ref52 H; (try simp only [List.drop_succ_cons, List.drop_zero, List.drop_nil]); try refine wpList_nil ?_) | refine wp_region_lit ?_)
    refine wp_ret ?_
    exact v_end [] [] tab_ok ⟨hN, hR⟩ (rs := [.cell 2 30, .tmp 3]) (ress := [_, _]) rfl H (by rfl) (by rfl) cb cw ca rfl
  · simp at hb
theorem decodeR_ok (c : UInt8) (m : List UInt8) (hm : m.length = 64) (hc : c = 1 ∨ c = 2) : VC Try.prog 89 [.bs (c :: m) none] [] (.tup [(if c = 1 then Nd.one (m.take 32) (m.drop 32) else Nd.two (m.take 32) (m.drop 32)).av, errv 0]) := by
  have hc8 : c.toNat < 256 := c.toNat_lt
  have hml : (m.take 32).length = 32 := by simp; omega
  have hdl : (m.drop 32).length = 32 := by simp; omega
  have f1 := ofR_v (m.take 32) hml
  have f2 := ofR_v (m.drop 32) hdl
  refine v_enter Try.func89 rfl (by kernel_rfl) (by show 1 ≤ 56; decide) ?_
  intro N w0 a w hN hR H
  repeat (first | refine wp_seq ?_ | refine wp_block ?_ | refine wp_skip ?_ | refine wp_exit ?_ | ((first | refine v_some 5 tab_ok hN H (by rfl) ct_Ref52 ?_ | refine v_more tab_ok hN H (by rfl) (by rfl) ct_Ref52 ?_); clear H; intro a w H; replace H := nf_Ref52 H; (try simp only [List.drop_succ_cons, List.drop_zero, List.drop_nil]); try refine wpList_nil ?_) | refine wp_region_lit ?_)
  refine v_cond H (by rfl) (fun hb => ?_) (fun hb => ?_)
  · simp [hm] at hb
  · repeat (first | refine wp_seq ?_ | refine wp_block ?_ | refine wp_skip ?_ | refine wp_exit ?_ | ((first | refine v_some 5 tab_ok hN H (by rfl) ct_Ref52 ?_ | refine v_more tab_ok hN H (by rfl) (by rfl) ct_Ref52 ?_); clear H; intro a w H; replace H := nf_Ref52 H; (try simp only [List.drop_succ_cons, List.drop_zero, List.drop_nil]); try refine wpList_nil ?_) | refine wp_region_lit ?_)
    refine v_cond H (by rfl) (fun hb => ?_) (fun hb => ?_)
    · exfalso
      rcases hc with rfl | rfl <;> simp [hm] at hb
    · repeat (first | refine wp_seq ?_ | refine wp_block ?_ | refine wp_skip ?_ | refine wp_exit ?_ | ((first | refine v_some 5 tab_ok hN H (by rfl) ct_Ref52 ?_ | refine v_more tab_ok hN H (by rfl) (by rfl) ct_Ref52 ?_); clear H; intro a w H; replace H := nf_Ref52 H; (try simp only [List.drop_succ_cons, List.drop_zero, List.drop_nil]); try refine wpList_nil ?_) | refine wp_region_lit ?_)
      refine v_call [] [] (f1) H rfl rfl (by rfl) cb cw ca ?_; clear H; intro a w H; replace H := nf_Ref52 H; try refine wpList_nil ?_
      repeat (first | refine wp_seq ?_ | refine wp_block ?_ | refine wp_skip ?_ | refine wp_exit ?_ | ((first | refine v_some 5 tab_ok hN H (by rfl) ct_Ref52 ?_ | refine v_more tab_ok hN H (by rfl) (by rfl) ct_Ref52 ?_); clear H; intro a w H; replace H := nf_Ref52 H; (try simp only [List.drop_succ_cons, List.drop_zero, List.drop_nil]); try refine wpList_nil ?_) | refine wp_region_lit ?_)
      refine v_call [] [] (f2) H rfl rfl (by rfl) cb cw ca ?_; clear H; intro a w H; replace H := nf_Ref52 H; try refine wpList_nil ?_
      repeat (first | refine wp_seq ?_ | refine wp_block ?_ | refine wp_skip ?_ | refine wp_exit ?_ | ((first | refine v_some 5 tab_ok hN H (by rfl) ct_Ref52 ?_ | refine v_more tab_ok hN H (by rfl) (by rfl) ct_Ref52 ?_); clear H; intro a w H; replace H := nf_Ref52 H; (try simp only [List.drop_succ_cons, List.drop_zero, List.drop_nil]); try refine wpList_nil ?_) | refine wp_region_lit ?_)
      refine v_cond H (by rfl) (fun hb => ?_) (fun hb => ?_)
      · have : c = 1 := UInt8.toNat_inj.1 (by simp at hb; simp; omega)
        subst this
        repeat (first | refine wp_seq ?_ | refine wp_block ?_ | refine wp_skip ?_ | refine wp_exit ?_ | ((first | refine v_some 5 tab_ok hN H (by rfl) ct_Ref52 ?_ | refine v_more tab_ok hN H (by rfl) (by rfl) ct_Ref52 ?_); clear H; intro a w H; replace H := nf_Ref52 H; (try simp only [List.drop_succ_cons, List.drop_zero, List.drop_nil]); try refine wpList_nil ?_) | refine wp_region_lit ?_)
        refine wp_ret ?_
        exact v_end [] [] tab_ok ⟨hN, hR⟩ (rs := [.cell 2 62, .tmp 3]) (ress := [_, _]) rfl H (by rfl) (by rfl) cb cw ca rfl
      · have : c = 2 := by
          rcases hc with rfl | rfl
          · simp at hb
          · rfl
        subst this
        repeat (first | refine wp_seq ?_ | refine wp_block ?_ | refine wp_skip ?_ | refine wp_exit ?_ | ((first | refine v_some 5 tab_ok hN H (by rfl) ct_Ref52 ?_ | refine v_more tab_ok hN H (by rfl) (by rfl) ct_Ref52 ?_); clear H; intro a w H; replace H := nf_Ref52 H; (try simp only [List.drop_succ_cons, List.drop_zero, List.drop_nil]); try refine wpList_nil ?_) | refine wp_region_lit ?_)
        refine wp_ret ?_
        exact v_end [] [] tab_ok ⟨hN, hR⟩ (rs := [.cell 2 62, .tmp 3]) (ress := [_, _]) rfl H (by rfl) (by rfl) cb cw ca rfl
theorem decodeR_zero : VC Try.prog 89 [.bs [0] none] [] (.tup [Nd.zero.av, errv 0]) := by
  refine v_enter Try.func89 rfl (by kernel_rfl) (by show 1 ≤ 56; decide) ?_
  intro N w0 a w hN hR H
  repeat (first | refine wp_seq ?_ | refine wp_block ?_ | refine wp_skip ?_ | refine wp_exit ?_ | ((first | refine v_some 5 tab_ok hN H (by rfl) ct_Ref52 ?_ | refine v_more tab_ok hN H (by rfl) (by rfl) ct_Ref52 ?_); clear H; intro a w H; replace H := nf_Ref52 H; (try simp only [List.drop_succ_cons, List.drop_zero, List.drop_nil]); try refine wpList_nil ?_) | refine wp_region_lit ?_)
  refine v_cond H (by rfl) (fun hb => ?_) (fun hb => ?_)
  · repeat (first | refine wp_seq ?_ | refine wp_block ?_ | refine wp_skip ?_ | refine wp_exit ?_ | ((first | refine v_some 5 tab_ok hN H (by rfl) ct_Ref52 ?_ | refine v_more tab_ok hN H (by rfl) (by rfl) ct_Ref52 ?_); clear H; intro a w H; replace H := nf_Ref52 H; (try simp only [List.drop_succ_cons, List.drop_zero, List.drop_nil]); try refine wpList_nil ?_) | refine wp_region_lit ?_)
    refine wp_ret ?_
    exact v_end [] [] tab_ok ⟨hN, hR⟩ (rs := [.cell 2 62, .tmp 3]) (ress := [_, _]) rfl H (by rfl) (by rfl) cb cw ca rfl
  · simp at hb
theorem decodeR_bad (l : List UInt8) (h : ¬ decOk l) : VC Try.prog 89 [.bs l none] [] (.tup [Nd.zero.av, errv 10]) := by
  have hx : ∀ k : Nat, k < 256 → ((((l.getD 0 0).toNat : Nat) : Int) = (k : Int) → l.getD 0 0 = UInt8.ofNat k) := fun k hk h => UInt8.toNat_inj.1 (by rw [UInt8.toNat_ofNat']; omega)
  have hx8 := (l.getD 0 0).toNat_lt
  refine v_enter Try.func89 rfl (by kernel_rfl) (by show 1 ≤ 56; decide) ?_
  intro N w0 a w hN hR H
  repeat (first | refine wp_seq ?_ | refine wp_block ?_ | refine wp_skip ?_ | refine wp_exit ?_ | ((first | refine v_some 5 tab_ok hN H (by rfl) ct_Ref52 ?_ | refine v_more tab_ok hN H (by rfl) (by rfl) ct_Ref52 ?_); clear H; intro a w H; replace H := nf_Ref52 H; (try simp only [List.drop_succ_cons, List.drop_zero, List.drop_nil]); try refine wpList_nil ?_) | refine wp_region_lit ?_)
  refine v_cond H (by rfl) (fun hb => ?_) (fun hb => ?_)
  · exfalso; apply h; left
    rcases l with _ | ⟨c, _ | ⟨d, l⟩⟩
    · simp at hb
    · have := hx 0 (by decide); simp at hb this; simp [this hb]
    · simp at hb; omega
  · repeat (first | refine wp_seq ?_ | refine wp_block ?_ | refine wp_skip ?_ | refine wp_exit ?_ | ((first | refine v_some 5 tab_ok hN H (by rfl) ct_Ref52 ?_ | refine v_more tab_ok hN H (by rfl) (by rfl) ct_Ref52 ?_); clear H; intro a w H; replace H := nf_Ref52 H; (try simp only [List.drop_succ_cons, List.drop_zero, List.drop_nil]); try refine wpList_nil ?_) | refine wp_region_lit ?_)
    refine v_cond H (by rfl) (fun hb => ?_) (fun hb => ?_)
    · repeat (first | refine wp_seq ?_ | refine wp_block ?_ | refine wp_skip ?_ | refine wp_exit ?_ | ((first | refine v_some 5 tab_ok hN H (by rfl) ct_Ref52 ?_ | refine v_more tab_ok hN H (by rfl) (by rfl) ct_Ref52 ?_); clear H; intro a w H; replace H := nf_Ref52 H; (try simp only [List.drop_succ_cons, List.drop_zero, List.drop_nil]); try refine wpList_nil ?_) | refine wp_region_lit ?_)
      refine wp_ret ?_
      exact v_end [] [] tab_ok ⟨hN, hR⟩ (rs := [.cell 2 62, .tmp 3]) (ress := [_, _]) rfl H (by rfl) (by rfl) cb cw ca rfl
    · exfalso; apply h; right
      have a1 := hx 1 (by decide)
      have a2 := hx 2 (by decide)
      by_cases p1 : ((l.length : Nat) : Int) = 65
      · by_cases p2 : (((l.getD 0 0).toNat : Nat) : Int) = 1
        · exact ⟨by omega, .inl (a1 p2)⟩
        · by_cases p3 : (((l.getD 0 0).toNat : Nat) : Int) = 2
          · exact ⟨by omega, .inr (a2 p3)⟩
          · simp only [p1, p2, p3, decide_true, decide_false, Bool.not_true, Bool.not_false, cond_true, cond_false, Bool.true_eq_false] at hb
      · simp only [p1, decide_true, decide_false, Bool.not_true, Bool.not_false, cond_true, cond_false, Bool.true_eq_false] at hb
theorem decodeR_v (l : List UInt8) : VC Try.prog 89 [.bs l none] [] (.tup [(dec l).av, errv (if decOk l then 0 else 10)]) := by
  by_cases h : decOk l
  · rw [if_pos h]
    rcases decOk_cases h with rfl | ⟨m, hm, rfl⟩ | ⟨m, hm, rfl⟩
    · rw [dec_zero]; exact decodeR_zero
    · rw [dec_one m hm]; exact decodeR_ok 1 m hm (.inl rfl)
    · rw [dec_two m hm]; exact decodeR_ok 2 m hm (.inr rfl)
  · rw [if_neg h, dec_bad h]; exact decodeR_bad l h
end Go.Proofs.Ytlagngkafllbiaa
