/- The texts of a proof, as the document tells them: ref19.Texts, Part. -/
import Derived.Test.YtlagngkafllbiaaClash
import Derived.Test.YtlagngkafllbiaaUp
import Derived.Test.YtlagngkafllbiaaLent
set_option linter.unusedSimpArgs false
set_option linter.unusedVariables false
namespace Go.Proofs.Ytlagngkafllbiaa
open Go Go.RowKit
/-- The state made plain. -/
theorem nf_RefTexts {P : Program} {w0 w : World} {N : Gh} {nt : Nat} {st s2 : St} {a : Act} (H : Rel P w0 N nt st a w) (h : st = s2 := by (try simp only [pk, elemB, St.put, St.ev, St.tmp, St.keep, find, dropT, slots, AV.put, AV.loc, fitI, convI, IntKind.signed, IntKind.bits, strip, St.lose, mergeL, setAll, nth, renB, ren, idx?, sub, allP, low, bnd, Int.reduceEq, Nat.reduceAdd, Nat.reduceLT, reduceIte, reduceCtorEq, Nat.reduceEqDiff, Nat.reduceLeDiff, Nat.reduceBEq, Int.reducePow, Int.reduceToNat, ti24_t, ti24_z, ti5_t, ti5_z, ti30_t, ti30_z, ti23_t, ti23_z, ti62_t, ti62_z, ti64_t, ti64_z, ti41_t, ti41_z, ti26_t, ti26_z, ti22_t, ti22_z, ti54_t, ti54_z]); rfl) : Rel P w0 N nt s2 a w := h ▸ H
theorem nt_RefTexts {P : Program} {w0 w : World} {N gS : Gh} {nt : Nat} {q q2 st s2 : St} {a : Act} (H : RelT P w0 N nt gS q st a w) (h1 : q = q2 := by (try simp only [pk, elemB, St.put, St.ev, St.tmp, St.keep, find, dropT, slots, AV.put, AV.loc, fitI, convI, IntKind.signed, IntKind.bits, strip, St.lose, mergeL, setAll, nth, renB, ren, idx?, sub, allP, low, bnd, Int.reduceEq, Nat.reduceAdd, Nat.reduceLT, reduceIte, reduceCtorEq, Nat.reduceEqDiff, Nat.reduceLeDiff, Nat.reduceBEq, Int.reducePow, Int.reduceToNat, ti24_t, ti24_z, ti5_t, ti5_z, ti30_t, ti30_z, ti23_t, ti23_z, ti62_t, ti62_z, ti64_t, ti64_z, ti41_t, ti41_z, ti26_t, ti26_z, ti22_t, ti22_z, ti54_t, ti54_z]); rfl) (h : st = s2 := by (try simp only [pk, elemB, St.put, St.ev, St.tmp, St.keep, find, dropT, slots, AV.put, AV.loc, fitI, convI, IntKind.signed, IntKind.bits, strip, St.lose, mergeL, setAll, nth, renB, ren, idx?, sub, allP, low, bnd, Int.reduceEq, Nat.reduceAdd, Nat.reduceLT, reduceIte, reduceCtorEq, Nat.reduceEqDiff, Nat.reduceLeDiff, Nat.reduceBEq, Int.reducePow, Int.reduceToNat, ti24_t, ti24_z, ti5_t, ti5_z, ti30_t, ti30_z, ti23_t, ti23_z, ti62_t, ti62_z, ti64_t, ti64_z, ti41_t, ti41_z, ti26_t, ti26_z, ti22_t, ti22_z, ti54_t, ti54_z]); rfl) : RelT P w0 N nt gS q2 s2 a w := h1 ▸ h ▸ H
theorem ct_RefTexts {c : Prop} (h : c := by ((try simp only [pk, elemB, St.put, St.ev, St.tmp, St.keep, find, dropT, slots, AV.put, AV.loc, fitI, convI, IntKind.signed, IntKind.bits, strip, St.lose, mergeL, setAll, nth, renB, ren, idx?, sub, allP, low, bnd, Int.reduceEq, Nat.reduceAdd, Nat.reduceLT, reduceIte, reduceCtorEq, Nat.reduceEqDiff, Nat.reduceLeDiff, Nat.reduceBEq, Int.reducePow, Int.reduceToNat, ti24_t, ti24_z, ti5_t, ti5_z, ti30_t, ti30_z, ti23_t, ti23_z, ti62_t, ti62_z, ti64_t, ti64_z, ti41_t, ti41_z, ti26_t, ti26_z, ti22_t, ti22_z, ti54_t, ti54_z, ti24, ti5, ti30, ti23, ti62, ti64, ti41, ti26, ti22, ti54, fit, gcond, ilo, ihi]); first | done | exact cd | exact cd2 | skip)) : c := h
theorem take_snoc_getD (l : List (List UInt8)) (k : Nat) (hk : k < l.length) : l.take (k + 1) = l.take k ++ [l.getD k []] := by
  rw [List.take_succ_eq_append_getElem hk, List.getElem_eq_getD []]
theorem tx_last (key e : List UInt8) (s : List (List UInt8)) : (tx key 0 s e).take s.length ++ [e] = tx key 0 s e := by
  have h := tx_get key e s.length 0 s (Nat.le_refl _)
  rw [List.drop_length] at h
  have h2 := take_snoc_getD (tx key 0 s e) s.length (by rw [tx_len]; omega)
  rw [h] at h2
  have h3 : (tx key 0 s e).take (s.length + 1) = tx key 0 s e := List.take_of_length_le (by rw [tx_len]; omega)
  rw [h3] at h2
  exact h2.symm
theorem tx_elem (key e : List UInt8) (s : List (List UInt8)) (k : Nat) (hk : k < s.length) : (tx key 0 s e).getD k [] = if bitN key k then 2 :: (s.getD k [] ++ upL key (k + 1) (s.drop (k + 1)) (sum e)) else 2 :: (upL key (k + 1) (s.drop (k + 1)) (sum e) ++ s.getD k []) := by
  rw [tx_get key e k 0 s (by omega), Nat.zero_add, tx_drop key e s k hk, up_tx, List.headD_cons, textD]; split <;> rfl
set_option maxRecDepth 20000 in
set_option maxHeartbeats 16000000 in
theorem textsR_ok (key l : List UInt8) (hk32 : key.length = 32) (hl : l.length ≤ 34359730000) (h : pOk l) : VC Try.prog 71 [.ba key, .bs l none] [] (.tup [.sl .sc (bss (txs key l)) none, errv 0]) := by
  have hd := decPR_v l hl
  rw [if_pos h] at hd
  rw [txs, if_pos h]
  have hw := pDec_wf l
  obtain ⟨hle, hok, hk2⟩ := chk_all (pDec_chk h)
  generalize pDec l = p at *
  obtain ⟨s, n⟩ := p
  dsimp only at hle hok hk2 ⊢
  have hs := hw.s
  have hsl := bas_len s
  have hen := encodeR_ok n hw.e hok
  have hdg := digestR_ok n hw.e hok
  obtain ⟨h1, h2, h3, h4⟩ := id hw.e
  dsimp only at h1 h2 h3 h4 hs
  have htl := text_len hw.e
  dsimp only at htl
  have hlast := tx_last key n.text s
  have helem := tx_elem key n.text s
  have htxl := tx_len key n.text 0 s
  generalize tx key 0 s n.text = tt at *
  obtain ⟨h0, hh0⟩ : ∃ h0, h0 = sum n.text := ⟨_, rfl⟩
  have h0l : h0.length = 32 := by rw [hh0]; exact sum_length _
  rw [← hh0] at hdg helem
  clear hh0
  have hz2 := z32_len
  clear hw h
  refine v_enter Try.func71 rfl (by kernel_rfl) (by show 2 ≤ 96; decide) ?_
  intro N w0 a w hN hR H
  simp only [Pf.av, Nd.av] at H hd hen hdg
  repeat (first | refine wp_seq ?_ | refine wp_block ?_ | refine wp_skip ?_ | refine wp_exit ?_ | ((first | refine v_some 5 tab_ok hN H (by rfl) ct_RefTexts ?_ | refine v_more tab_ok hN H (by rfl) (by rfl) ct_RefTexts ?_); clear H; intro a w H; replace H := nf_RefTexts H; (try simp only [List.drop_succ_cons, List.drop_zero, List.drop_nil]); try refine wpList_nil ?_) | refine wp_region_lit ?_)
  refine v_call [] [] (hd) H rfl rfl (by rfl) cb cw ca ?_; clear H; intro a w H; replace H := nf_RefTexts H; try refine wpList_nil ?_
  repeat (first | refine wp_seq ?_ | refine wp_block ?_ | refine wp_skip ?_ | refine wp_exit ?_ | ((first | refine v_some 5 tab_ok hN H (by rfl) (by (try simp only [hsl]); first | done | exact ct_RefTexts) ?_ | refine v_more tab_ok hN H (by rfl) (by rfl) (by (try simp only [hsl]); first | done | exact ct_RefTexts) ?_); clear H; intro a w H; replace H := nf_RefTexts H; first | (simp only [hsl] at H; replace H := nf_RefTexts H) | skip; (try simp only [List.drop_succ_cons, List.drop_zero, List.drop_nil]); try refine wpList_nil ?_) | refine wp_region_lit ?_)
  refine v_cond H (by rfl) (fun hb => ?_) (fun hb => ?_)
  · simp at hb
  · clear hb
    have H := v_ref H 6 1 (Nat.le_trans hN (by decide)) rfl rfl rfl
    simp only [nilT, strip, List.map_cons, List.map_nil, reduceIte, Nat.reduceEqDiff] at H
    have H := v_ref H 2 0 (Nat.le_trans hN (by decide)) rfl rfl rfl
    simp only [nilT, strip, List.map_cons, List.map_nil, reduceIte, Nat.reduceEqDiff] at H
    repeat (first | refine wp_seq ?_ | refine wp_block ?_ | refine wp_skip ?_ | refine wp_exit ?_ | ((first | refine v_some 5 tab_ok hN H (by rfl) (by (try simp only [hsl]); first | done | exact ct_RefTexts) ?_ | refine v_more tab_ok hN H (by rfl) (by rfl) (by (try simp only [hsl]); first | done | exact ct_RefTexts) ?_); clear H; intro a w H; replace H := nf_RefTexts H; first | (simp only [hsl] at H; replace H := nf_RefTexts H) | skip; (try simp only [List.drop_succ_cons, List.drop_zero, List.drop_nil]); try refine wpList_nil ?_) | refine wp_region_lit ?_)
    have H := v_nilE tab_ok H 9 24 (j := ti24) .sc rfl (by decide) (by rfl)
    simp only [nilT, reduceIte, Nat.reduceEqDiff] at H
    replace H := H.keep [2, 6, 8, 9, 10] 0 1 ⟨Nat.le_trans hN (by show _ ≤ 0; decide), Nat.le_trans hR (by show _ ≤ 1; decide)⟩ (by rfl) (by rfl)
    replace H := nf_RefTexts H; first | (simp only [hsl] at H; replace H := nf_RefTexts H) | skip
    have H := v_fz H
    simp only [List.filter_cons, List.filter_nil, List.length_cons, List.length_nil, Nat.reduceAdd, Nat.reduceLT, Nat.not_lt_zero, Nat.zero_add, Nat.lt_irrefl, decide_false, Bool.false_eq_true, reduceIte] at H
    refine v_loop (fun k : Nat => ⟨[(10, none, .v (.int .i64 (k : Int))), (9, none, .sl .sc (bss (tt.take k)) (some 0)), (8, none, .v (.int .i64 (s.length : Int))), (6, none, .ref ti64.ty (.st [.sl (.ba 32) (bas s) none, .st [.v (B8 n.k), .ba n.key, .ba n.v, .ba n.l, .ba n.r]])), (2, none, .ref (.ba 32) (.ba key))], [], [], [(24, (tt.take k).length)]⟩)
      (fun k => k ≤ s.length) (fun k => s.length - k) 0 (Nat.zero_le _) (H.to 0 1 ⟨hN, Nat.le_trans hR (by decide)⟩ ⟨rfl, rfl, rfl, rfl, rfl, trivial⟩ rfl rfl rfl rfl rfl) ?_
    clear H
    intro k a w hk H
    have htl1 : (tt.take k).length = k := by rw [List.length_take]; omega
    have hbl1 : (bss (tt.take k)).length = k := by simp only [bss, List.length_map]; exact htl1
    repeat (first | refine wp_seq ?_ | refine wp_block ?_ | refine wp_skip ?_ | refine wp_exit ?_ | ((first | refine v_some 5 tab_ok hN H (by rfl) (by (try simp only [hsl]); first | done | exact ct_RefTexts) ?_ | refine v_more tab_ok hN H (by rfl) (by rfl) (by (try simp only [hsl]); first | done | exact ct_RefTexts) ?_); clear H; intro a w H; replace H := nf_RefTexts H; first | (simp only [hsl] at H; replace H := nf_RefTexts H) | skip; (try simp only [List.drop_succ_cons, List.drop_zero, List.drop_nil]); try refine wpList_nil ?_) | refine wp_region_lit ?_)
    refine v_cond H (by rfl) (fun hb => ?_) (fun hb => ?_)
    · have hlt : k < s.length := by rw [decide_eq_true_eq] at hb; omega
      clear hb
      have he := helem k hlt
      have hsn := take_snoc_getD tt k (by omega)
      have hbit := bitR_v key hk32 (k : Int)
      have hpb : decide (pbit key (k : Int) = 0) = !bitN key k := by
        rw [pbit, if_pos (by omega), Int.toNat_natCast]; cases bitN key k <;> rfl
      have hg := bas_get s k hlt
      rw [List.getElem_eq_getD []] at hg
      have hx : (s.getD k []).length = 32 := by rw [← List.getElem_eq_getD (h := hlt) []]; exact hs _ (List.getElem_mem _)
      repeat (first | refine wp_seq ?_ | refine wp_block ?_ | refine wp_skip ?_ | refine wp_exit ?_ | ((first | refine v_some 5 tab_ok hN H (by rfl) (by (try simp only [hsl]); first | done | exact ct_RefTexts) ?_ | refine v_more tab_ok hN H (by rfl) (by rfl) (by (try simp only [hsl]); first | done | exact ct_RefTexts) ?_); clear H; intro a w H; replace H := nf_RefTexts H; first | (simp only [hsl] at H; replace H := nf_RefTexts H) | skip; (try simp only [List.drop_succ_cons, List.drop_zero, List.drop_nil]); try refine wpList_nil ?_) | refine wp_region_lit ?_)
      refine v_call [] [] (hdg) H rfl rfl (by rfl) (by simp [pickB, bxs, ren, idx?, sub_refl, sub, allP, hsl] <;> omega) (by first | rfl | (simp [hsl] <;> omega)) (by first | exact trivial | exact ⟨sub_refl _ _, trivial⟩ | exact ⟨sub_refl _ _, sub_refl _ _, trivial⟩ | exact ⟨sub_refl _ _, sub_refl _ _, sub_refl _ _, trivial⟩ | exact ⟨⟨rfl, sub_refl _ _, trivial⟩, sub_refl _ _, trivial⟩ | (simp [cargs, cargsG, St.ev, St.tmp, find, ren, idx?, sub_refl, sub, allP, resv, resC, bss, hsl] <;> omega)) ?_; clear H; intro a w H; replace H := nf_RefTexts H; first | (simp only [hsl] at H; replace H := nf_RefTexts H) | skip; try refine wpList_nil ?_
      repeat (first | refine wp_seq ?_ | refine wp_block ?_ | refine wp_skip ?_ | refine wp_exit ?_ | ((first | refine v_some 5 tab_ok hN H (by rfl) (by (try simp only [hsl]); first | done | exact ct_RefTexts) ?_ | refine v_more tab_ok hN H (by rfl) (by rfl) (by (try simp only [hsl]); first | done | exact ct_RefTexts) ?_); clear H; intro a w H; replace H := nf_RefTexts H; first | (simp only [hsl] at H; replace H := nf_RefTexts H) | skip; (try simp only [List.drop_succ_cons, List.drop_zero, List.drop_nil]); try refine wpList_nil ?_) | refine wp_region_lit ?_)
      have hulk := upL_len key h0 h0l (k + 1) (s.drop (k + 1))
      have hin1 := innerR_v (upL key (k + 1) (s.drop (k + 1)) h0) (s.getD k []) hulk hx
      have hin2 := innerR_v (s.getD k []) (upL key (k + 1) (s.drop (k + 1)) h0) hx hulk
      refine v_loop (fun j : Nat => ⟨[(13, none, .v (.int .i64 ((j : Int) - 1))), (11, none, .ptr 0 []), (10, none, .v (.int .i64 (k : Int))), (9, none, .sl .sc (bss (tt.take k)) (some 0)), (8, none, .v (.int .i64 (s.length : Int))), (6, none, .ref ti64.ty (.st [.sl (.ba 32) (bas s) none, .st [.v (B8 n.k), .ba n.key, .ba n.v, .ba n.l, .ba n.r]])), (2, none, .ref (.ba 32) (.ba key))], [(.ba 32, .ba (upL key j (s.drop j) h0))], [], [(24, (tt.take k).length)]⟩)
        (fun j => j ≤ s.length ∧ k + 1 ≤ j) (fun j => j) s.length ⟨Nat.le_refl _, hlt⟩ (H.to 1 1 ⟨Nat.le_trans hN (by decide), Nat.le_trans hR (by decide)⟩ ⟨rfl, rfl, rfl, rfl, rfl, rfl, rfl, trivial⟩ (by rw [List.drop_length]; rfl) rfl rfl rfl rfl) ?_
      clear H
      rintro j a w ⟨hj1, hj2⟩ H
      have hul := upL_len key h0 h0l j (s.drop j)
      repeat (first | refine wp_seq ?_ | refine wp_block ?_ | refine wp_skip ?_ | refine wp_exit ?_ | ((first | refine v_some 5 tab_ok hN H (by rfl) (by (try simp only [hsl]); first | done | exact ct_RefTexts) ?_ | refine v_more tab_ok hN H (by rfl) (by rfl) (by (try simp only [hsl]); first | done | exact ct_RefTexts) ?_); clear H; intro a w H; replace H := nf_RefTexts H; first | (simp only [hsl] at H; replace H := nf_RefTexts H) | skip; (try simp only [List.drop_succ_cons, List.drop_zero, List.drop_nil]); try refine wpList_nil ?_) | refine wp_region_lit ?_)
      refine v_cond H (by rfl) (fun hb => ?_) (fun hb => ?_)
      · obtain ⟨i, rfl⟩ : ∃ i, j = i + 1 := ⟨j - 1, by omega⟩
        have hki : k < i := by rw [decide_eq_true_eq] at hb; omega
        clear hb
        have e1 : (((i + 1 : Nat) : Int) - 1) = (i : Int) := by omega
        rw [e1] at H
        have hbi := bitR_v key hk32 (i : Int)
        have hpi : decide (pbit key (i : Int) = 0) = !bitN key i := by
          rw [pbit, if_pos (by omega), Int.toNat_natCast]; cases bitN key i <;> rfl
        have hi : i < s.length := by omega
        have hgi := bas_get s i hi
        rw [List.getElem_eq_getD []] at hgi
        have hup := upL_drop key s h0 i hi
        have hxi : (s.getD i []).length = 32 := by rw [← List.getElem_eq_getD (h := hi) []]; exact hs _ (List.getElem_mem _)
        generalize s.getD i [] = y at *
        generalize upL key (i + 1) (s.drop (i + 1)) h0 = u at *
        have hm1 := innerHR_v u y hul hxi
        have hm2 := innerHR_v y u hxi hul
        have hml1 := innerH_len u y
        have hml2 := innerH_len y u
        repeat (first | refine wp_seq ?_ | refine wp_block ?_ | refine wp_skip ?_ | refine wp_exit ?_ | ((first | refine v_some 5 tab_ok hN H (by rfl) (by (try simp only [hsl]); first | done | exact ct_RefTexts) ?_ | refine v_more tab_ok hN H (by rfl) (by rfl) (by (try simp only [hsl]); first | done | exact ct_RefTexts) ?_); clear H; intro a w H; replace H := nf_RefTexts H; first | (simp only [hsl] at H; replace H := nf_RefTexts H) | skip; (try simp only [List.drop_succ_cons, List.drop_zero, List.drop_nil]); try refine wpList_nil ?_) | refine wp_region_lit ?_)
        refine v_call [] [] (hbi) H rfl rfl (by rfl) (by simp [pickB, bxs, ren, idx?, sub_refl, sub, allP, hsl] <;> omega) (by first | rfl | (simp [hsl] <;> omega)) (by first | exact trivial | exact ⟨sub_refl _ _, trivial⟩ | exact ⟨sub_refl _ _, sub_refl _ _, trivial⟩ | exact ⟨sub_refl _ _, sub_refl _ _, sub_refl _ _, trivial⟩ | exact ⟨⟨rfl, sub_refl _ _, trivial⟩, sub_refl _ _, trivial⟩ | (simp [cargs, cargsG, St.ev, St.tmp, find, ren, idx?, sub_refl, sub, allP, resv, resC, bss, hsl] <;> omega)) ?_; clear H; intro a w H; replace H := nf_RefTexts H; first | (simp only [hsl] at H; replace H := nf_RefTexts H) | skip; try refine wpList_nil ?_
        repeat (first | refine wp_seq ?_ | refine wp_block ?_ | refine wp_skip ?_ | refine wp_exit ?_ | ((first | refine v_some 5 tab_ok hN H (by rfl) (by (try simp only [hsl]); first | done | exact ct_RefTexts) ?_ | refine v_more tab_ok hN H (by rfl) (by rfl) (by (try simp only [hsl]); first | done | exact ct_RefTexts) ?_); clear H; intro a w H; replace H := nf_RefTexts H; first | (simp only [hsl] at H; replace H := nf_RefTexts H) | skip; (try simp only [List.drop_succ_cons, List.drop_zero, List.drop_nil]); try refine wpList_nil ?_) | refine wp_region_lit ?_)
        simp only [hpi] at H
        refine v_cond H (by rfl) (fun hb => ?_) (fun hb => ?_)
        · have hbf : bitN key i = false := by cases h : bitN key i; rfl; rw [h] at hb; simp at hb
          have hst : stepH key i y u = innerH u y := by unfold stepH; rw [hbf]; rfl
          rw [hst] at hup
          clear hb
          repeat (first | refine wp_seq ?_ | refine wp_block ?_ | refine wp_skip ?_ | refine wp_exit ?_ | ((first | refine v_some 5 tab_ok hN H (by rfl) (by (try simp only [hsl]); first | done | exact ct_RefTexts) ?_ | refine v_more tab_ok hN H (by rfl) (by rfl) (by (try simp only [hsl]); first | done | exact ct_RefTexts) ?_); clear H; intro a w H; replace H := nf_RefTexts H; first | (simp only [hsl] at H; replace H := nf_RefTexts H) | skip; (try simp only [List.drop_succ_cons, List.drop_zero, List.drop_nil]); try refine wpList_nil ?_) | refine wp_region_lit ?_)
          repeat (first | refine wp_seq ?_ | refine wp_block ?_)
          refine v_draw 0 [6, 7] [] (by kernel_rfl) (by kernel_rfl) H (by rfl) (fun gS H => ?_); try replace H := nt_RefTexts H; first | (simp only [hsl, hgi] at H; replace H := nt_RefTexts H) | skip
          refine v_someT 3 tab_ok hN H (by rfl) (by (try simp only [hsl, hgi, hsl, hxi]); first | done | exact ct_RefTexts) ?_; clear H; intro a w H; replace H := nt_RefTexts H; first | (simp only [hsl, hgi] at H; replace H := nt_RefTexts H) | skip; simp only [List.drop_succ_cons, List.drop_zero, List.drop_nil]
          refine v_someT 2 tab_ok hN H (by rfl) (by (try simp only [hsl, hgi, hsl, hxi]); first | done | exact ct_RefTexts) ?_; clear H; intro a w H; replace H := nt_RefTexts H; first | (simp only [hsl, hgi] at H; replace H := nt_RefTexts H) | skip; simp only [List.drop_succ_cons, List.drop_zero, List.drop_nil]
          refine v_someT 1 tab_ok hN H (by rfl) (by (try simp only [hsl, hgi, hsl, hxi]); first | done | exact ct_RefTexts) ?_; clear H; intro a w H; replace H := nt_RefTexts H; first | (simp only [hsl, hgi] at H; replace H := nt_RefTexts H) | skip; simp only [List.drop_succ_cons, List.drop_zero, List.drop_nil]
          refine v_callT [] [] (hm1) H (by rfl) (by rfl) rfl rfl (by rfl) (by simp [pickB, bxs, ren, idx?, sub_refl, sub, allP, hsl, hgi] <;> omega) (by first | rfl | (simp [hsl, hgi] <;> omega)) (by first | exact trivial | exact ⟨sub_refl _ _, trivial⟩ | exact ⟨sub_refl _ _, sub_refl _ _, trivial⟩ | exact ⟨sub_refl _ _, sub_refl _ _, sub_refl _ _, trivial⟩ | exact ⟨⟨rfl, sub_refl _ _, trivial⟩, sub_refl _ _, trivial⟩ | (simp [cargs, cargsG, St.ev, St.tmp, find, ren, idx?, sub_refl, sub, allP, resv, resC, bss, hsl, hgi] <;> omega)) ?_; clear H; intro a w H; try replace H := nt_RefTexts H; first | (simp only [hsl, hgi] at H; replace H := nt_RefTexts H) | skip
          repeat (refine v_someT 5 tab_ok hN H (by rfl) (by (try simp only [hsl, hgi, hsl, hxi]); first | done | exact ct_RefTexts) ?_; clear H; intro a w H; replace H := nt_RefTexts H; first | (simp only [hsl, hgi] at H; replace H := nt_RefTexts H) | skip; simp only [List.drop_succ_cons, List.drop_zero, List.drop_nil])
          refine v_moreT tab_ok hN H (by rfl) (by (try simp only [hsl, hgi, hsl, hxi]); first | done | exact ct_RefTexts) ?_; clear H; intro a w H; try replace H := nt_RefTexts H; first | (simp only [hsl, hgi] at H; replace H := nt_RefTexts H) | skip
          refine v_drawNil H (fun H => ?_)
          repeat (first | refine wp_seq ?_ | refine wp_block ?_ | refine wp_skip ?_ | refine wp_exit ?_ | ((first | refine v_some 5 tab_ok hN H (by rfl) (by (try simp only [hsl]); first | done | exact ct_RefTexts) ?_ | refine v_more tab_ok hN H (by rfl) (by rfl) (by (try simp only [hsl]); first | done | exact ct_RefTexts) ?_); clear H; intro a w H; replace H := nf_RefTexts H; first | (simp only [hsl] at H; replace H := nf_RefTexts H) | skip; (try simp only [List.drop_succ_cons, List.drop_zero, List.drop_nil]); try refine wpList_nil ?_) | refine wp_region_lit ?_)
          exact ⟨i, by omega, by omega, H.to 1 1 ⟨Nat.le_trans hN (by decide), Nat.le_trans hR (by decide)⟩ ⟨rfl, rfl, rfl, rfl, rfl, rfl, rfl, trivial⟩ (by dsimp only; rw [hup]; rfl) rfl rfl rfl rfl⟩
        · have hbt : bitN key i = true := by cases h : bitN key i; (rw [h] at hb; simp at hb); rfl
          have hst : stepH key i y u = innerH y u := by unfold stepH; rw [hbt]; rfl
          rw [hst] at hup
          clear hb
          repeat (first | refine wp_seq ?_ | refine wp_block ?_ | refine wp_skip ?_ | refine wp_exit ?_ | ((first | refine v_some 5 tab_ok hN H (by rfl) (by (try simp only [hsl]); first | done | exact ct_RefTexts) ?_ | refine v_more tab_ok hN H (by rfl) (by rfl) (by (try simp only [hsl]); first | done | exact ct_RefTexts) ?_); clear H; intro a w H; replace H := nf_RefTexts H; first | (simp only [hsl] at H; replace H := nf_RefTexts H) | skip; (try simp only [List.drop_succ_cons, List.drop_zero, List.drop_nil]); try refine wpList_nil ?_) | refine wp_region_lit ?_)
          repeat (first | refine wp_seq ?_ | refine wp_block ?_)
          refine v_draw 0 [6, 7] [] (by kernel_rfl) (by kernel_rfl) H (by rfl) (fun gS H => ?_); try replace H := nt_RefTexts H; first | (simp only [hsl, hgi] at H; replace H := nt_RefTexts H) | skip
          refine v_someT 2 tab_ok hN H (by rfl) (by (try simp only [hsl, hgi, hsl, hxi]); first | done | exact ct_RefTexts) ?_; clear H; intro a w H; replace H := nt_RefTexts H; first | (simp only [hsl, hgi] at H; replace H := nt_RefTexts H) | skip; simp only [List.drop_succ_cons, List.drop_zero, List.drop_nil]
          refine v_someT 2 tab_ok hN H (by rfl) (by (try simp only [hsl, hgi, hsl, hxi]); first | done | exact ct_RefTexts) ?_; clear H; intro a w H; replace H := nt_RefTexts H; first | (simp only [hsl, hgi] at H; replace H := nt_RefTexts H) | skip; simp only [List.drop_succ_cons, List.drop_zero, List.drop_nil]
          refine v_someT 2 tab_ok hN H (by rfl) (by (try simp only [hsl, hgi, hsl, hxi]); first | done | exact ct_RefTexts) ?_; clear H; intro a w H; replace H := nt_RefTexts H; first | (simp only [hsl, hgi] at H; replace H := nt_RefTexts H) | skip; simp only [List.drop_succ_cons, List.drop_zero, List.drop_nil]
          refine v_callT [] [] (hm2) H (by rfl) (by rfl) rfl rfl (by rfl) (by simp [pickB, bxs, ren, idx?, sub_refl, sub, allP, hsl, hgi] <;> omega) (by first | rfl | (simp [hsl, hgi] <;> omega)) (by first | exact trivial | exact ⟨sub_refl _ _, trivial⟩ | exact ⟨sub_refl _ _, sub_refl _ _, trivial⟩ | exact ⟨sub_refl _ _, sub_refl _ _, sub_refl _ _, trivial⟩ | exact ⟨⟨rfl, sub_refl _ _, trivial⟩, sub_refl _ _, trivial⟩ | (simp [cargs, cargsG, St.ev, St.tmp, find, ren, idx?, sub_refl, sub, allP, resv, resC, bss, hsl, hgi] <;> omega)) ?_; clear H; intro a w H; try replace H := nt_RefTexts H; first | (simp only [hsl, hgi] at H; replace H := nt_RefTexts H) | skip
          repeat (refine v_someT 5 tab_ok hN H (by rfl) (by (try simp only [hsl, hgi, hsl, hxi]); first | done | exact ct_RefTexts) ?_; clear H; intro a w H; replace H := nt_RefTexts H; first | (simp only [hsl, hgi] at H; replace H := nt_RefTexts H) | skip; simp only [List.drop_succ_cons, List.drop_zero, List.drop_nil])
          refine v_moreT tab_ok hN H (by rfl) (by (try simp only [hsl, hgi, hsl, hxi]); first | done | exact ct_RefTexts) ?_; clear H; intro a w H; try replace H := nt_RefTexts H; first | (simp only [hsl, hgi] at H; replace H := nt_RefTexts H) | skip
          refine v_drawNil H (fun H => ?_)
          repeat (first | refine wp_seq ?_ | refine wp_block ?_ | refine wp_skip ?_ | refine wp_exit ?_ | ((first | refine v_some 5 tab_ok hN H (by rfl) (by (try simp only [hsl]); first | done | exact ct_RefTexts) ?_ | refine v_more tab_ok hN H (by rfl) (by rfl) (by (try simp only [hsl]); first | done | exact ct_RefTexts) ?_); clear H; intro a w H; replace H := nf_RefTexts H; first | (simp only [hsl] at H; replace H := nf_RefTexts H) | skip; (try simp only [List.drop_succ_cons, List.drop_zero, List.drop_nil]); try refine wpList_nil ?_) | refine wp_region_lit ?_)
          exact ⟨i, by omega, by omega, H.to 1 1 ⟨Nat.le_trans hN (by decide), Nat.le_trans hR (by decide)⟩ ⟨rfl, rfl, rfl, rfl, rfl, rfl, rfl, trivial⟩ (by dsimp only; rw [hup]; rfl) rfl rfl rfl rfl⟩
      · obtain rfl : j = k + 1 := by rw [decide_eq_false_iff_not] at hb; omega
        clear hb
        generalize upL key (k + 1) (s.drop (k + 1)) h0 = u at *
        generalize s.getD k [] = x at *
        repeat (first | refine wp_seq ?_ | refine wp_block ?_ | refine wp_skip ?_ | refine wp_exit ?_ | ((first | refine v_some 5 tab_ok hN H (by rfl) (by (try simp only [hsl]); first | done | exact ct_RefTexts) ?_ | refine v_more tab_ok hN H (by rfl) (by rfl) (by (try simp only [hsl]); first | done | exact ct_RefTexts) ?_); clear H; intro a w H; replace H := nf_RefTexts H; first | (simp only [hsl] at H; replace H := nf_RefTexts H) | skip; (try simp only [List.drop_succ_cons, List.drop_zero, List.drop_nil]); try refine wpList_nil ?_) | refine wp_region_lit ?_)
        refine v_call [] [] (hbit) H rfl rfl (by rfl) (by simp [pickB, bxs, ren, idx?, sub_refl, sub, allP, hsl] <;> omega) (by first | rfl | (simp [hsl] <;> omega)) (by first | exact trivial | exact ⟨sub_refl _ _, trivial⟩ | exact ⟨sub_refl _ _, sub_refl _ _, trivial⟩ | exact ⟨sub_refl _ _, sub_refl _ _, sub_refl _ _, trivial⟩ | exact ⟨⟨rfl, sub_refl _ _, trivial⟩, sub_refl _ _, trivial⟩ | (simp [cargs, cargsG, St.ev, St.tmp, find, ren, idx?, sub_refl, sub, allP, resv, resC, bss, hsl] <;> omega)) ?_; clear H; intro a w H; replace H := nf_RefTexts H; first | (simp only [hsl] at H; replace H := nf_RefTexts H) | skip; try refine wpList_nil ?_
        repeat (first | refine wp_seq ?_ | refine wp_block ?_ | refine wp_skip ?_ | refine wp_exit ?_ | ((first | refine v_some 5 tab_ok hN H (by rfl) (by (try simp only [hsl]); first | done | exact ct_RefTexts) ?_ | refine v_more tab_ok hN H (by rfl) (by rfl) (by (try simp only [hsl]); first | done | exact ct_RefTexts) ?_); clear H; intro a w H; replace H := nf_RefTexts H; first | (simp only [hsl] at H; replace H := nf_RefTexts H) | skip; (try simp only [List.drop_succ_cons, List.drop_zero, List.drop_nil]); try refine wpList_nil ?_) | refine wp_region_lit ?_)
        simp only [hpb] at H
        refine v_cond H (by rfl) (fun hb => ?_) (fun hb => ?_)
        · have hbf : bitN key k = false := by cases h : bitN key k; rfl; rw [h] at hb; simp at hb
          rw [hbf] at he
          simp only [Bool.false_eq_true, reduceIte] at he
          generalize 2 :: (u ++ x) = t at *
          clear hb
          have H := v_ref H 11 0 (Nat.le_trans hN (by decide)) rfl rfl rfl
          simp only [nilT, strip, reduceIte, Nat.reduceEqDiff] at H
          replace H := H.keep [2, 6, 8, 9, 10, 11] 0 1 ⟨Nat.le_trans hN (by show _ ≤ 0; decide), Nat.le_trans hR (by show _ ≤ 1; decide)⟩ (by rfl) (by rfl)
          replace H := nf_RefTexts H; first | (simp only [hsl] at H; replace H := nf_RefTexts H) | skip
          have H := v_fz H
          simp only [List.filter_cons, List.filter_nil, List.length_cons, List.length_nil, Nat.reduceAdd, Nat.reduceLT, Nat.not_lt_zero, Nat.zero_add, Nat.lt_irrefl, decide_false, Bool.false_eq_true, reduceIte] at H
          repeat (first | refine wp_seq ?_ | refine wp_block ?_)
          refine v_draw 0 [7, 8, 9] [0] (by kernel_rfl) (by kernel_rfl) H (by rfl) (fun gS H => ?_); try replace H := nt_RefTexts H; first | (simp only [hsl, hg, hbl1, htl1] at H; replace H := nt_RefTexts H) | skip
          refine v_someT 3 tab_ok hN H (by rfl) (by (try simp only [hsl, hg, hbl1, htl1, hsl, hx, hulk]); first | done | exact ct_RefTexts) ?_; clear H; intro a w H; replace H := nt_RefTexts H; first | (simp only [hsl, hg, hbl1, htl1] at H; replace H := nt_RefTexts H) | skip; simp only [List.drop_succ_cons, List.drop_zero, List.drop_nil]
          refine v_someT 2 tab_ok hN H (by rfl) (by (try simp only [hsl, hg, hbl1, htl1, hsl, hx, hulk]); first | done | exact ct_RefTexts) ?_; clear H; intro a w H; replace H := nt_RefTexts H; first | (simp only [hsl, hg, hbl1, htl1] at H; replace H := nt_RefTexts H) | skip; simp only [List.drop_succ_cons, List.drop_zero, List.drop_nil]
          refine v_someT 1 tab_ok hN H (by rfl) (by (try simp only [hsl, hg, hbl1, htl1, hsl, hx, hulk]); first | done | exact ct_RefTexts) ?_; clear H; intro a w H; replace H := nt_RefTexts H; first | (simp only [hsl, hg, hbl1, htl1] at H; replace H := nt_RefTexts H) | skip; simp only [List.drop_succ_cons, List.drop_zero, List.drop_nil]
          refine v_someT 1 tab_ok hN H (by rfl) (by (try simp only [hsl, hg, hbl1, htl1, hsl, hx, hulk]); first | done | exact ct_RefTexts) ?_; clear H; intro a w H; replace H := nt_RefTexts H; first | (simp only [hsl, hg, hbl1, htl1] at H; replace H := nt_RefTexts H) | skip; simp only [List.drop_succ_cons, List.drop_zero, List.drop_nil]
          refine v_callT [] [] (hin1) H (by rfl) (by rfl) rfl rfl (by rfl) (by simp [pickB, bxs, ren, idx?, sub_refl, sub, allP, hsl, hg, hbl1, htl1] <;> omega) (by first | rfl | (simp [hsl, hg, hbl1, htl1] <;> omega)) (by first | exact trivial | exact ⟨sub_refl _ _, trivial⟩ | exact ⟨sub_refl _ _, sub_refl _ _, trivial⟩ | exact ⟨sub_refl _ _, sub_refl _ _, sub_refl _ _, trivial⟩ | exact ⟨⟨rfl, sub_refl _ _, trivial⟩, sub_refl _ _, trivial⟩ | (simp [cargs, cargsG, St.ev, St.tmp, find, ren, idx?, sub_refl, sub, allP, resv, resC, bss, hsl, hg, hbl1, htl1] <;> omega)) ?_; clear H; intro a w H; try replace H := nt_RefTexts H; first | (simp only [hsl, hg, hbl1, htl1] at H; replace H := nt_RefTexts H) | skip
          repeat (refine v_someT 5 tab_ok hN H (by rfl) (by (try simp only [hsl, hg, hbl1, hsl, hx, hulk]); first | done | exact ct_RefTexts) ?_; clear H; intro a w H; replace H := nt_RefTexts H; first | (simp only [hsl, hg, hbl1] at H; replace H := nt_RefTexts H) | skip; simp only [List.drop_succ_cons, List.drop_zero, List.drop_nil])
          refine v_moreT tab_ok hN H (by rfl) (by (try simp only [hsl, hg, hbl1, hsl, hx, hulk]); first | done | exact ct_RefTexts) ?_; clear H; intro a w H; try replace H := nt_RefTexts H; first | (simp only [hsl, hg, hbl1] at H; replace H := nt_RefTexts H) | skip
          refine v_drawNil H (fun H => ?_)
          repeat (first | refine wp_seq ?_ | refine wp_block ?_ | refine wp_skip ?_ | refine wp_exit ?_ | ((first | refine v_some 5 tab_ok hN H (by rfl) (by (try simp only [hsl]); first | done | exact ct_RefTexts) ?_ | refine v_more tab_ok hN H (by rfl) (by rfl) (by (try simp only [hsl]); first | done | exact ct_RefTexts) ?_); clear H; intro a w H; replace H := nf_RefTexts H; first | (simp only [hsl] at H; replace H := nf_RefTexts H) | skip; (try simp only [List.drop_succ_cons, List.drop_zero, List.drop_nil]); try refine wpList_nil ?_) | refine wp_region_lit ?_)
          exact ⟨k + 1, hlt, by omega, H.to 0 1 ⟨hN, Nat.le_trans hR (by decide)⟩ ⟨rfl, by dsimp only; rw [hsn, he, bss_snoc]; rfl, rfl, rfl, rfl, trivial⟩ rfl (by dsimp only; rw [hsn, he, List.length_append, htl1]; rfl) rfl rfl rfl⟩
        · have hbt : bitN key k = true := by cases h : bitN key k; (rw [h] at hb; simp at hb); rfl
          rw [hbt] at he
          simp only [reduceIte] at he
          generalize 2 :: (x ++ u) = t at *
          clear hb
          have H := v_ref H 11 0 (Nat.le_trans hN (by decide)) rfl rfl rfl
          simp only [nilT, strip, reduceIte, Nat.reduceEqDiff] at H
          replace H := H.keep [2, 6, 8, 9, 10, 11] 0 1 ⟨Nat.le_trans hN (by show _ ≤ 0; decide), Nat.le_trans hR (by show _ ≤ 1; decide)⟩ (by rfl) (by rfl)
          replace H := nf_RefTexts H; first | (simp only [hsl] at H; replace H := nf_RefTexts H) | skip
          have H := v_fz H
          simp only [List.filter_cons, List.filter_nil, List.length_cons, List.length_nil, Nat.reduceAdd, Nat.reduceLT, Nat.not_lt_zero, Nat.zero_add, Nat.lt_irrefl, decide_false, Bool.false_eq_true, reduceIte] at H
          repeat (first | refine wp_seq ?_ | refine wp_block ?_)
          refine v_draw 0 [7, 8, 9] [0] (by kernel_rfl) (by kernel_rfl) H (by rfl) (fun gS H => ?_); try replace H := nt_RefTexts H; first | (simp only [hsl, hg, hbl1, htl1] at H; replace H := nt_RefTexts H) | skip
          refine v_someT 3 tab_ok hN H (by rfl) (by (try simp only [hsl, hg, hbl1, htl1, hsl, hx, hulk]); first | done | exact ct_RefTexts) ?_; clear H; intro a w H; replace H := nt_RefTexts H; first | (simp only [hsl, hg, hbl1, htl1] at H; replace H := nt_RefTexts H) | skip; simp only [List.drop_succ_cons, List.drop_zero, List.drop_nil]
          refine v_someT 2 tab_ok hN H (by rfl) (by (try simp only [hsl, hg, hbl1, htl1, hsl, hx, hulk]); first | done | exact ct_RefTexts) ?_; clear H; intro a w H; replace H := nt_RefTexts H; first | (simp only [hsl, hg, hbl1, htl1] at H; replace H := nt_RefTexts H) | skip; simp only [List.drop_succ_cons, List.drop_zero, List.drop_nil]
          refine v_someT 2 tab_ok hN H (by rfl) (by (try simp only [hsl, hg, hbl1, htl1, hsl, hx, hulk]); first | done | exact ct_RefTexts) ?_; clear H; intro a w H; replace H := nt_RefTexts H; first | (simp only [hsl, hg, hbl1, htl1] at H; replace H := nt_RefTexts H) | skip; simp only [List.drop_succ_cons, List.drop_zero, List.drop_nil]
          refine v_callT [] [] (hin2) H (by rfl) (by rfl) rfl rfl (by rfl) (by simp [pickB, bxs, ren, idx?, sub_refl, sub, allP, hsl, hg, hbl1, htl1] <;> omega) (by first | rfl | (simp [hsl, hg, hbl1, htl1] <;> omega)) (by first | exact trivial | exact ⟨sub_refl _ _, trivial⟩ | exact ⟨sub_refl _ _, sub_refl _ _, trivial⟩ | exact ⟨sub_refl _ _, sub_refl _ _, sub_refl _ _, trivial⟩ | exact ⟨⟨rfl, sub_refl _ _, trivial⟩, sub_refl _ _, trivial⟩ | (simp [cargs, cargsG, St.ev, St.tmp, find, ren, idx?, sub_refl, sub, allP, resv, resC, bss, hsl, hg, hbl1, htl1] <;> omega)) ?_; clear H; intro a w H; try replace H := nt_RefTexts H; first | (simp only [hsl, hg, hbl1, htl1] at H; replace H := nt_RefTexts H) | skip
          repeat (refine v_someT 5 tab_ok hN H (by rfl) (by (try simp only [hsl, hg, hbl1, hsl, hx, hulk]); first | done | exact ct_RefTexts) ?_; clear H; intro a w H; replace H := nt_RefTexts H; first | (simp only [hsl, hg, hbl1] at H; replace H := nt_RefTexts H) | skip; simp only [List.drop_succ_cons, List.drop_zero, List.drop_nil])
          refine v_moreT tab_ok hN H (by rfl) (by (try simp only [hsl, hg, hbl1, hsl, hx, hulk]); first | done | exact ct_RefTexts) ?_; clear H; intro a w H; try replace H := nt_RefTexts H; first | (simp only [hsl, hg, hbl1] at H; replace H := nt_RefTexts H) | skip
          refine v_drawNil H (fun H => ?_)
          repeat (first | refine wp_seq ?_ | refine wp_block ?_ | refine wp_skip ?_ | refine wp_exit ?_ | ((first | refine v_some 5 tab_ok hN H (by rfl) (by (try simp only [hsl]); first | done | exact ct_RefTexts) ?_ | refine v_more tab_ok hN H (by rfl) (by rfl) (by (try simp only [hsl]); first | done | exact ct_RefTexts) ?_); clear H; intro a w H; replace H := nf_RefTexts H; first | (simp only [hsl] at H; replace H := nf_RefTexts H) | skip; (try simp only [List.drop_succ_cons, List.drop_zero, List.drop_nil]); try refine wpList_nil ?_) | refine wp_region_lit ?_)
          exact ⟨k + 1, hlt, by omega, H.to 0 1 ⟨hN, Nat.le_trans hR (by decide)⟩ ⟨rfl, by dsimp only; rw [hsn, he, bss_snoc]; rfl, rfl, rfl, rfl, trivial⟩ rfl (by dsimp only; rw [hsn, he, List.length_append, htl1]; rfl) rfl rfl rfl⟩
    · obtain rfl : k = s.length := by rw [decide_eq_false_iff_not] at hb; omega
      clear hb
      repeat (first | refine wp_seq ?_ | refine wp_block ?_ | refine wp_skip ?_ | refine wp_exit ?_ | ((first | refine v_some 5 tab_ok hN H (by rfl) (by (try simp only [hsl]); first | done | exact ct_RefTexts) ?_ | refine v_more tab_ok hN H (by rfl) (by rfl) (by (try simp only [hsl]); first | done | exact ct_RefTexts) ?_); clear H; intro a w H; replace H := nf_RefTexts H; first | (simp only [hsl] at H; replace H := nf_RefTexts H) | skip; (try simp only [List.drop_succ_cons, List.drop_zero, List.drop_nil]); try refine wpList_nil ?_) | refine wp_region_lit ?_)
      refine v_call [] [] (hen) H rfl rfl (by rfl) (by simp [pickB, bxs, ren, idx?, sub_refl, sub, allP, hsl] <;> omega) (by first | rfl | (simp [hsl] <;> omega)) (by first | exact trivial | exact ⟨sub_refl _ _, trivial⟩ | exact ⟨sub_refl _ _, sub_refl _ _, trivial⟩ | exact ⟨sub_refl _ _, sub_refl _ _, sub_refl _ _, trivial⟩ | exact ⟨⟨rfl, sub_refl _ _, trivial⟩, sub_refl _ _, trivial⟩ | (simp [cargs, cargsG, St.ev, St.tmp, find, ren, idx?, sub_refl, sub, allP, resv, resC, bss, hsl] <;> omega)) ?_; clear H; intro a w H; replace H := nf_RefTexts H; first | (simp only [hsl] at H; replace H := nf_RefTexts H) | skip; try refine wpList_nil ?_
      obtain ⟨e, he⟩ : ∃ e, e = n.text := ⟨_, rfl⟩
      rw [← he] at H htl hlast
      clear he hen
      repeat (first | refine wp_seq ?_ | refine wp_block ?_ | refine wp_skip ?_ | refine wp_exit ?_ | ((first | refine v_some 5 tab_ok hN H (by rfl) (by (try simp only [hsl, hbl1, htl1]); first | done | exact ct_RefTexts) ?_ | refine v_more tab_ok hN H (by rfl) (by rfl) (by (try simp only [hsl, hbl1, htl1]); first | done | exact ct_RefTexts) ?_); clear H; intro a w H; replace H := nf_RefTexts H; first | (simp only [hsl, hbl1, htl1] at H; replace H := nf_RefTexts H) | skip; (try simp only [List.drop_succ_cons, List.drop_zero, List.drop_nil]); try refine wpList_nil ?_) | refine wp_region_lit ?_)
      have eb : bss (tt.take s.length) ++ [.bs e none] = bss tt := by rw [← bss_snoc, hlast]
      rw [eb] at H
      refine wp_ret ?_
      exact v_end [] [] tab_ok ⟨hN, hR⟩ (rs := [.tmp 4, .tmp 5]) (ress := [_, _]) rfl H (by rfl) (by rfl) cb cw ca rfl
set_option maxRecDepth 20000 in
theorem textsR_bad (key l : List UInt8) (hk32 : key.length = 32) (hl : l.length ≤ 34359730000) (h : ¬ pOk l) : VC Try.prog 71 [.ba key, .bs l none] [] (.tup [.sl .sc (bss (txs key l)) none, errv 10]) := by
  have hd := decPR_v l hl
  rw [if_neg h] at hd
  rw [txs, if_neg h]
  have hw := pDec_wf l
  obtain ⟨g1, g2, g3, g4⟩ := id hw.e
  generalize pDec l = p at *
  obtain ⟨s, n⟩ := p
  dsimp only at g1 g2 g3 g4
  refine v_enter Try.func71 rfl (by kernel_rfl) (by show 2 ≤ 96; decide) ?_
  intro N w0 a w hN hR H
  simp only [Pf.av, Nd.av] at H hd
  repeat (first | refine wp_seq ?_ | refine wp_block ?_ | refine wp_skip ?_ | refine wp_exit ?_ | ((first | refine v_some 5 tab_ok hN H (by rfl) ct_RefTexts ?_ | refine v_more tab_ok hN H (by rfl) (by rfl) ct_RefTexts ?_); clear H; intro a w H; replace H := nf_RefTexts H; (try simp only [List.drop_succ_cons, List.drop_zero, List.drop_nil]); try refine wpList_nil ?_) | refine wp_region_lit ?_)
  refine v_call [] [] (hd) H rfl rfl (by rfl) cb cw ca ?_; clear H; intro a w H; replace H := nf_RefTexts H; try refine wpList_nil ?_
  repeat (first | refine wp_seq ?_ | refine wp_block ?_ | refine wp_skip ?_ | refine wp_exit ?_ | ((first | refine v_some 5 tab_ok hN H (by rfl) ct_RefTexts ?_ | refine v_more tab_ok hN H (by rfl) (by rfl) ct_RefTexts ?_); clear H; intro a w H; replace H := nf_RefTexts H; (try simp only [List.drop_succ_cons, List.drop_zero, List.drop_nil]); try refine wpList_nil ?_) | refine wp_region_lit ?_)
  refine v_cond H (by rfl) (fun hb => ?_) (fun hb => ?_)
  · repeat (first | refine wp_seq ?_ | refine wp_block ?_ | refine wp_skip ?_ | refine wp_exit ?_ | ((first | refine v_some 5 tab_ok hN H (by rfl) ct_RefTexts ?_ | refine v_more tab_ok hN H (by rfl) (by rfl) ct_RefTexts ?_); clear H; intro a w H; replace H := nf_RefTexts H; (try simp only [List.drop_succ_cons, List.drop_zero, List.drop_nil]); try refine wpList_nil ?_) | refine wp_region_lit ?_)
    refine wp_ret ?_
    exact v_end [] [] tab_ok ⟨hN, hR⟩ (rs := [.tmp 4, .tmp 5]) (ress := [_, _]) rfl H (by rfl) (by rfl) cb cw (by exact ⟨rfl, sub_refl _ _, trivial⟩) rfl
  · simp at hb
theorem textsR_v (key l : List UInt8) (hk32 : key.length = 32) (hl : l.length ≤ 34359730000) : VC Try.prog 71 [.ba key, .bs l none] [] (.tup [.sl .sc (bss (txs key l)) none, errv (vErr l)]) := by
  by_cases h : pOk l
  · rw [vErr, if_pos h]; exact textsR_ok key l hk32 hl h
  · rw [vErr, if_neg h]; exact textsR_bad key l hk32 hl h
set_option maxRecDepth 20000 in
set_option maxHeartbeats 2000000 in
theorem partR_v (key p q : List UInt8) (hk : key.length = 32) (hp : p.length ≤ 34359730000) (hq : q.length ≤ 34359730000) (h1 : pOk p) (h2 : pOk q) (hl1 : (txs key p).length ≤ 300) (hl2 : (txs key q).length ≤ 300) :
    VC Try.prog 48 [.ba key, .bs p none, .bs q none] [] (.tup [.st [.bs (prt (txs key p) (txs key q) 0).1 none, .bs (prt (txs key p) (txs key q) 0).2.1 none], .v (.int .i64 (prt (txs key p) (txs key q) 0).2.2), errv 0]) := by
  have t1 := textsR_v key p hk hp
  have t2 := textsR_v key q hk hq
  rw [vErr, if_pos h1] at t1
  rw [vErr, if_pos h2] at t2
  generalize txs key p = la at *
  generalize txs key q = lb at *
  have hal : (bss la).length = la.length := by simp [bss]
  have hbl : (bss lb).length = lb.length := by simp [bss]
  refine v_enter Try.func48 rfl (by kernel_rfl) (by show 3 ≤ 67; decide) ?_
  intro N w0 a w hN hR H
  repeat (first | refine wp_seq ?_ | refine wp_block ?_ | refine wp_skip ?_ | refine wp_exit ?_ | ((first | refine v_some 5 tab_ok hN H (by rfl) ct_RefTexts ?_ | refine v_more tab_ok hN H (by rfl) (by rfl) ct_RefTexts ?_); clear H; intro a w H; replace H := nf_RefTexts H; (try simp only [List.drop_succ_cons, List.drop_zero, List.drop_nil]); try refine wpList_nil ?_) | refine wp_region_lit ?_)
  refine v_call [] [] (t1) H rfl rfl (by rfl) cb cw ca ?_; clear H; intro a w H; replace H := nf_RefTexts H; try refine wpList_nil ?_
  repeat (first | refine wp_seq ?_ | refine wp_block ?_ | refine wp_skip ?_ | refine wp_exit ?_ | ((first | refine v_some 5 tab_ok hN H (by rfl) ct_RefTexts ?_ | refine v_more tab_ok hN H (by rfl) (by rfl) ct_RefTexts ?_); clear H; intro a w H; replace H := nf_RefTexts H; (try simp only [List.drop_succ_cons, List.drop_zero, List.drop_nil]); try refine wpList_nil ?_) | refine wp_region_lit ?_)
  refine v_call [] [] (t2) H rfl rfl (by rfl) cb cw ca ?_; clear H; intro a w H; replace H := nf_RefTexts H; try refine wpList_nil ?_
  repeat (first | refine wp_seq ?_ | refine wp_block ?_ | refine wp_skip ?_ | refine wp_exit ?_ | ((first | refine v_some 5 tab_ok hN H (by rfl) ct_RefTexts ?_ | refine v_more tab_ok hN H (by rfl) (by rfl) ct_RefTexts ?_); clear H; intro a w H; replace H := nf_RefTexts H; (try simp only [List.drop_succ_cons, List.drop_zero, List.drop_nil]); try refine wpList_nil ?_) | refine wp_region_lit ?_)
  refine v_cond H (by rfl) (fun hb => ?_) (fun hb => ?_)
  · simp at hb
  · clear hb
    repeat (first | refine wp_seq ?_ | refine wp_block ?_ | refine wp_skip ?_ | refine wp_exit ?_ | ((first | refine v_some 5 tab_ok hN H (by rfl) (by (try simp only [hal, hbl]); first | done | exact ct_RefTexts) ?_ | refine v_more tab_ok hN H (by rfl) (by rfl) (by (try simp only [hal, hbl]); first | done | exact ct_RefTexts) ?_); clear H; intro a w H; replace H := nf_RefTexts H; first | (simp only [hal, hbl] at H; replace H := nf_RefTexts H) | skip; (try simp only [List.drop_succ_cons, List.drop_zero, List.drop_nil]); try refine wpList_nil ?_) | refine wp_region_lit ?_)
    replace H := H.keep [6, 7, 8, 9, 11, 13] 2 0 ⟨Nat.le_trans hN (by show _ ≤ 2; decide), Nat.le_trans hR (by show _ ≤ 0; decide)⟩ (by rfl) (by rfl)
    replace H := nf_RefTexts H; first | (simp only [hal, hbl] at H; replace H := nf_RefTexts H) | skip
    refine v_loop (fun k : Nat => ⟨[(13, none, .v (.int .i64 (k : Int))), (11, none, .sl .sc (bss lb) none), (9, none, .sl .sc (bss la) none), (8, none, .v (.int .i64 0)), (7, none, .v (.int .i64 0)), (6, none, .ptr 1 [])], [(.ba 32, .ba key), (ti54.ty, .st [.v (.slice none 0 0), .v (.slice none 0 0)])], [], []⟩)
      (fun k => (k ≤ la.length ∧ k ≤ lb.length) ∧ prt la lb 0 = prt (la.drop k) (lb.drop k) k) (fun k => la.length - k) 0 ⟨⟨Nat.zero_le _, Nat.zero_le _⟩, rfl⟩ (H.to 2 0 ⟨Nat.le_trans hN (by decide), hR⟩ ⟨rfl, rfl, rfl, rfl, rfl, rfl, trivial⟩ rfl rfl rfl rfl rfl) ?_
    clear H
    rintro k a w ⟨hk2, hpr⟩ H
    repeat (first | refine wp_seq ?_ | refine wp_block ?_ | refine wp_skip ?_ | refine wp_exit ?_ | ((first | refine v_some 5 tab_ok hN H (by rfl) (by (try simp only [hal, hbl]); first | done | exact ct_RefTexts) ?_ | refine v_more tab_ok hN H (by rfl) (by rfl) (by (try simp only [hal, hbl]); first | done | exact ct_RefTexts) ?_); clear H; intro a w H; replace H := nf_RefTexts H; first | (simp only [hal, hbl] at H; replace H := nf_RefTexts H) | skip; (try simp only [List.drop_succ_cons, List.drop_zero, List.drop_nil]); try refine wpList_nil ?_) | refine wp_region_lit ?_)
    have ecd : (bif decide ((k : Int) < (la.length : Int)) then decide ((k : Int) < (lb.length : Int)) else false) = decide (k < la.length ∧ k < lb.length) := by
      by_cases h1 : k < la.length <;> by_cases h2 : k < lb.length <;> simp [h1, h2]
    simp only [ecd] at H
    try refine wpList_nil ?_
    refine v_cond H (by rfl) (fun hb => ?_) (fun hb => ?_)
    · obtain ⟨hlt1, hlt2⟩ := of_decide_eq_true hb
      clear hb ecd
      have ga : (bss la).getD k .any = .bs (la.getD k []) none := by rw [← List.getElem_eq_getD (h := hlt1) []]; exact bss_get la k hlt1
      have gb : (bss lb).getD k .any = .bs (lb.getD k []) none := by rw [← List.getElem_eq_getD (h := hlt2) []]; exact bss_get lb k hlt2
      have hst := prt_step la lb k hlt1 hlt2
      generalize la.getD k [] = x at *
      generalize lb.getD k [] = y at *
      repeat (first | refine wp_seq ?_ | refine wp_block ?_ | refine wp_skip ?_ | refine wp_exit ?_ | ((first | refine v_some 5 tab_ok hN H (by rfl) (by (try simp only [hal, hbl]); first | done | exact ct_RefTexts) ?_ | refine v_more tab_ok hN H (by rfl) (by rfl) (by (try simp only [hal, hbl]); first | done | exact ct_RefTexts) ?_); clear H; intro a w H; replace H := nf_RefTexts H; first | (simp only [hal, hbl] at H; replace H := nf_RefTexts H) | skip; (try simp only [List.drop_succ_cons, List.drop_zero, List.drop_nil]); try refine wpList_nil ?_) | refine wp_region_lit ?_)
      repeat (first | refine wp_seq ?_ | refine wp_block ?_)
      refine v_draw 2 [] [] (by kernel_rfl) (by kernel_rfl) H (by rfl) (fun gS H => ?_); try replace H := nt_RefTexts H; first | (simp only [hal, hbl, ga, gb, strOf_list] at H; replace H := nt_RefTexts H) | skip
      refine v_someT 3 tab_ok hN H (by rfl) (by (try simp only [hal, hbl, ga, gb, strOf_list, hal, hbl]); first | done | exact ct_RefTexts) ?_; clear H; intro a w H; replace H := nt_RefTexts H; first | (simp only [hal, hbl, ga, gb, strOf_list] at H; replace H := nt_RefTexts H) | skip; simp only [List.drop_succ_cons, List.drop_zero, List.drop_nil]
      refine v_someT 2 tab_ok hN H (by rfl) (by (try simp only [hal, hbl, ga, gb, strOf_list, hal, hbl]); first | done | exact ct_RefTexts) ?_; clear H; intro a w H; replace H := nt_RefTexts H; first | (simp only [hal, hbl, ga, gb, strOf_list] at H; replace H := nt_RefTexts H) | skip; simp only [List.drop_succ_cons, List.drop_zero, List.drop_nil]
      refine v_someT 3 tab_ok hN H (by rfl) (by (try simp only [hal, hbl, ga, gb, strOf_list, hal, hbl]); first | done | exact ct_RefTexts) ?_; clear H; intro a w H; replace H := nt_RefTexts H; first | (simp only [hal, hbl, ga, gb, strOf_list] at H; replace H := nt_RefTexts H) | skip; simp only [List.drop_succ_cons, List.drop_zero, List.drop_nil]
      repeat (refine v_someT 5 tab_ok hN H (by rfl) (by (try simp only [hal, hbl, ga, gb, strOf_list, hal, hbl]); first | done | exact ct_RefTexts) ?_; clear H; intro a w H; replace H := nt_RefTexts H; first | (simp only [hal, hbl, ga, gb, strOf_list] at H; replace H := nt_RefTexts H) | skip; simp only [List.drop_succ_cons, List.drop_zero, List.drop_nil])
      refine v_moreT tab_ok hN H (by rfl) (by (try simp only [hal, hbl, ga, gb, strOf_list, hal, hbl]); first | done | exact ct_RefTexts) ?_; clear H; intro a w H; try replace H := nt_RefTexts H; first | (simp only [hal, hbl, ga, gb, strOf_list] at H; replace H := nt_RefTexts H) | skip
      refine v_drawNil H (fun H => ?_)
      by_cases hxy : x = y
      · rw [if_pos hxy] at hst
        refine v_cond H (by rfl) (fun hb => ?_) (fun hb => ?_)
        · exfalso; simp [hxy] at hb
        · clear hb
          repeat (first | refine wp_seq ?_ | refine wp_block ?_ | refine wp_skip ?_ | refine wp_exit ?_ | ((first | refine v_some 5 tab_ok hN H (by rfl) (by (try simp only [hal, hbl]); first | done | exact ct_RefTexts) ?_ | refine v_more tab_ok hN H (by rfl) (by rfl) (by (try simp only [hal, hbl]); first | done | exact ct_RefTexts) ?_); clear H; intro a w H; replace H := nf_RefTexts H; first | (simp only [hal, hbl] at H; replace H := nf_RefTexts H) | skip; (try simp only [List.drop_succ_cons, List.drop_zero, List.drop_nil]); try refine wpList_nil ?_) | refine wp_region_lit ?_)
          exact ⟨k + 1, ⟨⟨hlt1, hlt2⟩, by rw [hpr, hst]⟩, by omega, H.to 2 0 ⟨Nat.le_trans hN (by decide), hR⟩ ⟨rfl, rfl, rfl, rfl, rfl, rfl, trivial⟩ rfl rfl rfl rfl rfl⟩
      · rw [if_neg hxy] at hst
        rw [hpr, hst]
        dsimp only
        refine v_cond H (by rfl) (fun hb => ?_) (fun hb => ?_)
        · clear hb
          repeat (first | refine wp_seq ?_ | refine wp_block ?_ | refine wp_skip ?_ | refine wp_exit ?_ | ((first | refine v_some 5 tab_ok hN H (by rfl) (by (try simp only [hal, hbl]); first | done | exact ct_RefTexts) ?_ | refine v_more tab_ok hN H (by rfl) (by rfl) (by (try simp only [hal, hbl]); first | done | exact ct_RefTexts) ?_); clear H; intro a w H; replace H := nf_RefTexts H; first | (simp only [hal, hbl] at H; replace H := nf_RefTexts H) | skip; (try simp only [List.drop_succ_cons, List.drop_zero, List.drop_nil]); try refine wpList_nil ?_) | refine wp_region_lit ?_)
          repeat (first | refine wp_seq ?_ | refine wp_block ?_)
          refine v_draw 0 [10] [9] (by kernel_rfl) (by kernel_rfl) H (by rfl) (fun gS H => ?_); try replace H := nt_RefTexts H; first | (simp only [hal, hbl, ga, gb] at H; replace H := nt_RefTexts H) | skip
          refine v_someT 3 tab_ok hN H (by rfl) (by (try simp only [hal, hbl, ga, gb, hal, hbl]); first | done | exact ct_RefTexts) ?_; clear H; intro a w H; replace H := nt_RefTexts H; first | (simp only [hal, hbl, ga, gb] at H; replace H := nt_RefTexts H) | skip; simp only [List.drop_succ_cons, List.drop_zero, List.drop_nil]
          refine v_someT 4 tab_ok hN H (by rfl) (by (try simp only [hal, hbl, ga, gb, hal, hbl]); first | done | exact ct_RefTexts) ?_; clear H; intro a w H; replace H := nt_RefTexts H; first | (simp only [hal, hbl, ga, gb] at H; replace H := nt_RefTexts H) | skip; simp only [List.drop_succ_cons, List.drop_zero, List.drop_nil]
          repeat (refine v_someT 5 tab_ok hN H (by rfl) (by (try simp only [hal, hbl, ga, gb, hal, hbl]); first | done | exact ct_RefTexts) ?_; clear H; intro a w H; replace H := nt_RefTexts H; first | (simp only [hal, hbl, ga, gb] at H; replace H := nt_RefTexts H) | skip; simp only [List.drop_succ_cons, List.drop_zero, List.drop_nil])
          refine v_moreT tab_ok hN H (by rfl) (by (try simp only [hal, hbl, ga, gb, hal, hbl]); first | done | exact ct_RefTexts) ?_; clear H; intro a w H; try replace H := nt_RefTexts H; first | (simp only [hal, hbl, ga, gb] at H; replace H := nt_RefTexts H) | skip
          refine v_drawNil H (fun H => ?_)
          refine wp_ret ?_
          exact v_end [] [] tab_ok ⟨hN, hR⟩ (rs := [.cell 6 54, .tmp 7, .tmp 8]) (ress := [_, _, _]) rfl H (by rfl) (by rfl) cb cw ca rfl
        · exfalso; simp [hxy] at hb
    · have hge : la.length ≤ k ∨ lb.length ≤ k := by have := of_decide_eq_false hb; omega
      have he := prt_end la lb k hge
      rw [hpr, he]
      clear hb
      dsimp only
      repeat (first | refine wp_seq ?_ | refine wp_block ?_ | refine wp_skip ?_ | refine wp_exit ?_ | ((first | refine v_some 5 tab_ok hN H (by rfl) ct_RefTexts ?_ | refine v_more tab_ok hN H (by rfl) (by rfl) ct_RefTexts ?_); clear H; intro a w H; replace H := nf_RefTexts H; (try simp only [List.drop_succ_cons, List.drop_zero, List.drop_nil]); try refine wpList_nil ?_) | refine wp_region_lit ?_)
      refine wp_ret ?_
      exact v_end [] [] tab_ok ⟨hN, hR⟩ (rs := [.cell 6 54, .tmp 7, .tmp 8]) (ress := [_, _, _]) rfl H (by rfl) (by rfl) cb cw (by exact ⟨⟨rfl, rfl, trivial⟩, sub_refl _ _, sub_refl _ _, trivial⟩) rfl
end Go.Proofs.Ytlagngkafllbiaa
/- Two texts with one digest, of two claims: extract.Clash (begun). -/
namespace Go.Proofs.Ytlagngkafllbiaa
open Go Go.RowKit
/-- The state made plain. -/
theorem nf_Clash2 {P : Program} {w0 w : World} {N : Gh} {nt : Nat} {st s2 : St} {a : Act} (H : Rel P w0 N nt st a w) (h : st = s2 := by (try simp only [pk, elemB, St.put, St.ev, St.tmp, St.keep, find, dropT, slots, AV.put, AV.loc, fitI, convI, IntKind.signed, IntKind.bits, strip, St.lose, mergeL, setAll, nth, renB, ren, idx?, sub, allP, low, bnd, Int.reduceEq, Nat.reduceAdd, Nat.reduceLT, reduceIte, reduceCtorEq, Nat.reduceEqDiff, Nat.reduceLeDiff, Nat.reduceBEq, Int.reducePow, Int.reduceToNat, ti24_t, ti24_z, ti5_t, ti5_z, ti30_t, ti30_z, ti23_t, ti23_z, ti52_t, ti52_z, ti54_t, ti54_z, ti26_t, ti26_z]); rfl) : Rel P w0 N nt s2 a w := h ▸ H
theorem ct_Clash2 {c : Prop} (h : c := by ((try simp only [pk, elemB, St.put, St.ev, St.tmp, St.keep, find, dropT, slots, AV.put, AV.loc, fitI, convI, IntKind.signed, IntKind.bits, strip, St.lose, mergeL, setAll, nth, renB, ren, idx?, sub, allP, low, bnd, Int.reduceEq, Nat.reduceAdd, Nat.reduceLT, reduceIte, reduceCtorEq, Nat.reduceEqDiff, Nat.reduceLeDiff, Nat.reduceBEq, Int.reducePow, Int.reduceToNat, ti24_t, ti24_z, ti5_t, ti5_z, ti30_t, ti30_z, ti23_t, ti23_z, ti52_t, ti52_z, ti54_t, ti54_z, ti26_t, ti26_z, ti24, ti5, ti30, ti23, ti52, ti54, ti26, fit, gcond, ilo, ihi]); first | done | exact cd | exact cd2 | skip)) : c := h
/-- What is handed out. -/
def clP (root key : List UInt8) (one two : Cl) : List UInt8 × List UInt8 × Bool :=
  if ¬ (vAcc root key one = true ∧ vAcc root key two = true) then ([], [], false)
  else if (one.t = true ∧ two.t = true ∧ one.v = two.v) ∨ (one.t = false ∧ two.t = false) then ([], [], false)
  else if one.t = true ∧ two.t = true ∧ valH one.v = valH two.v then (3 :: one.v, 3 :: two.v, true)
  else ((prt (txs key one.b) (txs key two.b) 0).1, (prt (txs key one.b) (txs key two.b) 0).2.1, true)
theorem vRd_ok {root key l : List UInt8} (h : (vRd root key l).2.2 = 0) : pOk l := by
  refine Classical.byContradiction fun hn => ?_
  rw [vRd, if_pos hn] at h
  cases h
theorem vAcc_ok {root key : List UInt8} {c : Cl} (h : vAcc root key c = true) : pOk c.b := by
  unfold vAcc at h
  split at h
  · simp only [vPres, Bool.and_eq_true, decide_eq_true_eq] at h
    exact vRd_ok h.2.1
  · simp only [vAbs, Bool.and_eq_true, decide_eq_true_eq] at h
    exact vRd_ok h.1
theorem txs_len (key l : List UInt8) : (txs key l).length ≤ 300 := by
  unfold txs
  split
  · rename_i h
    have := (chk_all (pDec_chk h)).1
    rw [tx_len]; omega
  · simp
theorem clash_no (root key : List UInt8) (one two : Cl) (hr : root.length = 32) (hk : key.length = 32) (h1 : one.v.length ≤ 34359730000) (h2 : one.b.length ≤ 34359730000) (h3 : two.v.length ≤ 34359730000) (h4 : two.b.length ≤ 34359730000) (hn : ¬ (vAcc root key one = true ∧ vAcc root key two = true)) :
    VC Try.prog 22 [.ba root, .ba key, one.av, two.av] [] (.tup [.st [.bs [] none, .bs [] none], .v (.bool false)]) := by
  have c1 := accepted_v root key one hr hk h1 h2
  have c2 := accepted_v root key two hr hk h3 h4
  generalize vAcc root key one = x at *
  generalize vAcc root key two = y at *
  refine v_enter Try.func22 rfl (by kernel_rfl) (by show 4 ≤ 87; decide) ?_
  intro N w0 a w hN hR H
  simp only [Cl.av] at H c1 c2
  repeat (first | refine wp_seq ?_ | refine wp_block ?_ | refine wp_skip ?_ | refine wp_exit ?_ | ((first | refine v_some 5 tab_ok hN H (by rfl) ct_Clash2 ?_ | refine v_more tab_ok hN H (by rfl) (by rfl) ct_Clash2 ?_); clear H; intro a w H; replace H := nf_Clash2 H; (try simp only [List.drop_succ_cons, List.drop_zero, List.drop_nil]); try refine wpList_nil ?_) | refine wp_region_lit ?_)
  refine v_call [] [] (c1) H rfl rfl (by rfl) cb cw ca ?_; clear H; intro a w H; replace H := nf_Clash2 H; try refine wpList_nil ?_
  repeat (first | refine wp_seq ?_ | refine wp_block ?_ | refine wp_skip ?_ | refine wp_exit ?_ | ((first | refine v_some 5 tab_ok hN H (by rfl) ct_Clash2 ?_ | refine v_more tab_ok hN H (by rfl) (by rfl) ct_Clash2 ?_); clear H; intro a w H; replace H := nf_Clash2 H; (try simp only [List.drop_succ_cons, List.drop_zero, List.drop_nil]); try refine wpList_nil ?_) | refine wp_region_lit ?_)
  refine v_callG [] [] (c2) H (by rfl) rfl (by rfl) cb cw ca (by rfl) (by rfl) (by rfl) ?_; clear H; intro a w H; replace H := nf_Clash2 H; try refine wpList_nil ?_
  repeat (first | refine wp_seq ?_ | refine wp_block ?_ | refine wp_skip ?_ | refine wp_exit ?_ | ((first | refine v_some 5 tab_ok hN H (by rfl) ct_Clash2 ?_ | refine v_more tab_ok hN H (by rfl) (by rfl) ct_Clash2 ?_); clear H; intro a w H; replace H := nf_Clash2 H; (try simp only [List.drop_succ_cons, List.drop_zero, List.drop_nil]); try refine wpList_nil ?_) | refine wp_region_lit ?_)
  refine v_cond H (by rfl) (fun hb => ?_) (fun hb => ?_)
  · repeat (first | refine wp_seq ?_ | refine wp_block ?_ | refine wp_skip ?_ | refine wp_exit ?_ | ((first | refine v_some 5 tab_ok hN H (by rfl) ct_Clash2 ?_ | refine v_more tab_ok hN H (by rfl) (by rfl) ct_Clash2 ?_); clear H; intro a w H; replace H := nf_Clash2 H; (try simp only [List.drop_succ_cons, List.drop_zero, List.drop_nil]); try refine wpList_nil ?_) | refine wp_region_lit ?_)
    refine wp_ret ?_
    exact v_end [] [] tab_ok ⟨hN, hR⟩ (rs := [.cell 8 54, .tmp 9]) (ress := [_, _]) rfl H (by rfl) (by rfl) cb cw (by exact ⟨⟨rfl, rfl, trivial⟩, sub_refl _ _, trivial⟩) rfl
  · exfalso
    apply hn
    cases x <;> cases y <;> simp_all
end Go.Proofs.Ytlagngkafllbiaa
/- Plain law of ExtractFinds: two unlike claims that are accepted part in two unlike texts with one digest. -/
namespace Go.Proofs.Ytlagngkafllbiaa
open Go Go.RowKit
def Two (r : List UInt8 × List UInt8 × Int) : Prop := r.1 ≠ r.2.1 ∧ sum r.1 = sum r.2.1
theorem clP_must (root key : List UInt8) (one two : Cl) : (clP root key one two).2.2 = (decide (one.t ≠ two.t ∨ one.t = true ∧ one.v ≠ two.v) && (vAcc root key one && vAcc root key two)) := by
  unfold clP
  by_cases h1 : vAcc root key one = true <;> by_cases h2 : vAcc root key two = true
  · rw [if_neg (fun hn => hn ⟨h1, h2⟩), h1, h2]
    cases ht1 : one.t <;> cases ht2 : two.t <;> by_cases hv : one.v = two.v <;> simp [hv]
    split <;> rfl
  · rw [if_pos (fun hn => h2 hn.2)]; simp [h2]
  · rw [if_pos (fun hn => h1 hn.1)]; simp [h1]
  · rw [if_pos (fun hn => h1 hn.1)]; simp [h1]
theorem clP_none (root key : List UInt8) (one two : Cl) (h : (clP root key one two).2.2 = false) : (clP root key one two).1 = [] ∧ (clP root key one two).2.1 = [] := by
  unfold clP at h ⊢
  split
  · exact ⟨rfl, rfl⟩
  · rename_i h1
    rw [if_neg h1] at h
    split
    · exact ⟨rfl, rfl⟩
    · rename_i h2
      rw [if_neg h2] at h
      split
      · rename_i h3; rw [if_pos h3] at h; cases h
      · rename_i h3; rw [if_neg h3] at h; cases h
end Go.Proofs.Ytlagngkafllbiaa
/- Two texts with one digest, as the document tells them: ref19.Clash. -/
namespace Go.Proofs.Ytlagngkafllbiaa
open Go Go.RowKit
/-- The state made plain. -/
theorem nf_ClashR {P : Program} {w0 w : World} {N : Gh} {nt : Nat} {st s2 : St} {a : Act} (H : Rel P w0 N nt st a w) (h : st = s2 := by (try simp only [pk, elemB, St.put, St.ev, St.tmp, St.keep, find, dropT, slots, AV.put, AV.loc, fitI, convI, IntKind.signed, IntKind.bits, strip, St.lose, mergeL, setAll, nth, renB, ren, idx?, sub, allP, low, bnd, Int.reduceEq, Nat.reduceAdd, Nat.reduceLT, reduceIte, reduceCtorEq, Nat.reduceEqDiff, Nat.reduceLeDiff, Nat.reduceBEq, Int.reducePow, Int.reduceToNat, ti24_t, ti24_z, ti5_t, ti5_z, ti30_t, ti30_z, ti23_t, ti23_z, ti52_t, ti52_z, ti54_t, ti54_z, ti26_t, ti26_z, ti22_t, ti22_z]); rfl) : Rel P w0 N nt s2 a w := h ▸ H
theorem nt_ClashR {P : Program} {w0 w : World} {N gS : Gh} {nt : Nat} {q q2 st s2 : St} {a : Act} (H : RelT P w0 N nt gS q st a w) (h1 : q = q2 := by (try simp only [pk, elemB, St.put, St.ev, St.tmp, St.keep, find, dropT, slots, AV.put, AV.loc, fitI, convI, IntKind.signed, IntKind.bits, strip, St.lose, mergeL, setAll, nth, renB, ren, idx?, sub, allP, low, bnd, Int.reduceEq, Nat.reduceAdd, Nat.reduceLT, reduceIte, reduceCtorEq, Nat.reduceEqDiff, Nat.reduceLeDiff, Nat.reduceBEq, Int.reducePow, Int.reduceToNat, ti24_t, ti24_z, ti5_t, ti5_z, ti30_t, ti30_z, ti23_t, ti23_z, ti52_t, ti52_z, ti54_t, ti54_z, ti26_t, ti26_z, ti22_t, ti22_z]); rfl) (h : st = s2 := by (try simp only [pk, elemB, St.put, St.ev, St.tmp, St.keep, find, dropT, slots, AV.put, AV.loc, fitI, convI, IntKind.signed, IntKind.bits, strip, St.lose, mergeL, setAll, nth, renB, ren, idx?, sub, allP, low, bnd, Int.reduceEq, Nat.reduceAdd, Nat.reduceLT, reduceIte, reduceCtorEq, Nat.reduceEqDiff, Nat.reduceLeDiff, Nat.reduceBEq, Int.reducePow, Int.reduceToNat, ti24_t, ti24_z, ti5_t, ti5_z, ti30_t, ti30_z, ti23_t, ti23_z, ti52_t, ti52_z, ti54_t, ti54_z, ti26_t, ti26_z, ti22_t, ti22_z]); rfl) : RelT P w0 N nt gS q2 s2 a w := h1 ▸ h ▸ H
theorem ct_ClashR {c : Prop} (h : c := by ((try simp only [pk, elemB, St.put, St.ev, St.tmp, St.keep, find, dropT, slots, AV.put, AV.loc, fitI, convI, IntKind.signed, IntKind.bits, strip, St.lose, mergeL, setAll, nth, renB, ren, idx?, sub, allP, low, bnd, Int.reduceEq, Nat.reduceAdd, Nat.reduceLT, reduceIte, reduceCtorEq, Nat.reduceEqDiff, Nat.reduceLeDiff, Nat.reduceBEq, Int.reducePow, Int.reduceToNat, ti24_t, ti24_z, ti5_t, ti5_z, ti30_t, ti30_z, ti23_t, ti23_z, ti52_t, ti52_z, ti54_t, ti54_z, ti26_t, ti26_z, ti22_t, ti22_z, ti24, ti5, ti30, ti23, ti52, ti54, ti26, ti22, fit, gcond, ilo, ihi]); first | done | exact cd | exact cd2 | skip)) : c := h
set_option maxRecDepth 20000 in
set_option maxHeartbeats 4000000 in
theorem clashR_v (root key : List UInt8) (one two : Cl) (hr : root.length = 32) (hk : key.length = 32) (h1 : one.v.length ≤ 34359730000) (h2 : one.b.length ≤ 34359730000) (h3 : two.v.length ≤ 34359730000) (h4 : two.b.length ≤ 34359730000) :
    VC Try.prog 23 [.ba root, .ba key, one.av, two.av] [] (.tup [.st [.bs (clP root key one two).1 none, .bs (clP root key one two).2.1 none], .v (.bool (clP root key one two).2.2)]) := by
  have c1 := acceptedR_v root key one hr hk h1 h2
  have c2 := acceptedR_v root key two hr hk h3 h4
  have hm := clP_must root key one two
  have hz := clP_none root key one two
  have hpart : vAcc root key one = true → vAcc root key two = true → _ := fun hx hy => partR_v key one.b two.b hk h2 h4 (vAcc_ok hx) (vAcc_ok hy) (txs_len _ _) (txs_len _ _)
  have hv1 := valueR_v one.v h1
  have hv2 := valueR_v two.v h3
  have hl1 := valH_len one.v
  have hl2 := valH_len two.v
  have ht1 := textR_v 3 [one.v] (by simp; omega) (by simp)
  have ht2 := textR_v 3 [two.v] (by simp; omega) (by simp)
  have hdef : (clP root key one two).2.2 = true → clP root key one two = (if one.t = true ∧ two.t = true ∧ valH one.v = valH two.v then (3 :: one.v, 3 :: two.v, true) else ((prt (txs key one.b) (txs key two.b) 0).1, (prt (txs key one.b) (txs key two.b) 0).2.1, true)) := by
    intro h
    unfold clP at h ⊢
    split at h
    · cases h
    · rename_i g1
      rw [if_neg g1]
      split at h
      · cases h
      · rename_i g2; rw [if_neg g2]
  generalize clP root key one two = c at *
  generalize vAcc root key one = a1 at *
  generalize vAcc root key two = a2 at *
  generalize prt (txs key one.b) (txs key two.b) 0 = pr at *
  obtain ⟨q1, q2, q3⟩ := pr
  obtain ⟨x, y, ok⟩ := c
  obtain ⟨t1, v1, b1⟩ := one
  obtain ⟨t2, v2, b2⟩ := two
  dsimp only at *
  have hbq : (v1 == v2) = decide (v1 = v2) := by by_cases h : v1 = v2 <;> simp [h]
  have hok : ok = ((t1 != t2 || (t1 && !decide (v1 = v2))) && (a1 && a2)) := by
    rw [hm]; congr 1
    rw [Bool.eq_iff_iff]; cases t1 <;> cases t2 <;> simp
  have f1 : [v1].flatten = v1 := by simp
  have f2 : [v2].flatten = v2 := by simp
  rw [f1] at ht1
  rw [f2] at ht2
  refine v_enter Try.func23 rfl (by kernel_rfl) (by show 4 ≤ 84; decide) ?_
  intro N w0 a w hN hR H
  simp only [Cl.av] at H c1 c2
  repeat (first | refine wp_seq ?_ | refine wp_block ?_ | refine wp_skip ?_ | refine wp_exit ?_ | ((first | refine v_some 5 tab_ok hN H (by rfl) (by (try simp only [strOf_list, hbq]); first | done | exact ct_ClashR) ?_ | refine v_more tab_ok hN H (by rfl) (by rfl) (by (try simp only [strOf_list, hbq]); first | done | exact ct_ClashR) ?_); clear H; intro a w H; replace H := nf_ClashR H; first | (simp only [strOf_list, hbq] at H; replace H := nf_ClashR H) | skip; (try simp only [List.drop_succ_cons, List.drop_zero, List.drop_nil]); try refine wpList_nil ?_) | refine wp_region_lit ?_)
  refine v_callG [] [] (c1) H (by rfl) rfl (by rfl) (by simp [pickB, bxs, ren, idx?, sub_refl, sub, allP, strOf_list, hbq] <;> omega) (by first | rfl | (simp [strOf_list, hbq] <;> omega)) (by first | exact trivial | exact ⟨sub_refl _ _, trivial⟩ | exact ⟨sub_refl _ _, sub_refl _ _, trivial⟩ | exact ⟨sub_refl _ _, sub_refl _ _, sub_refl _ _, trivial⟩ | exact ⟨⟨rfl, sub_refl _ _, trivial⟩, sub_refl _ _, trivial⟩ | (simp [cargs, cargsG, St.ev, St.tmp, find, ren, idx?, sub_refl, sub, allP, resv, resC, bss, strOf_list, hbq] <;> omega)) (by rfl) (by rfl) (by rfl) ?_; clear H; intro a w H; replace H := nf_ClashR H; first | (simp only [strOf_list, hbq] at H; replace H := nf_ClashR H) | skip; try refine wpList_nil ?_
  repeat (first | refine wp_seq ?_ | refine wp_block ?_ | refine wp_skip ?_ | refine wp_exit ?_ | ((first | refine v_some 5 tab_ok hN H (by rfl) (by (try simp only [strOf_list, hbq]); first | done | exact ct_ClashR) ?_ | refine v_more tab_ok hN H (by rfl) (by rfl) (by (try simp only [strOf_list, hbq]); first | done | exact ct_ClashR) ?_); clear H; intro a w H; replace H := nf_ClashR H; first | (simp only [strOf_list, hbq] at H; replace H := nf_ClashR H) | skip; (try simp only [List.drop_succ_cons, List.drop_zero, List.drop_nil]); try refine wpList_nil ?_) | refine wp_region_lit ?_)
  refine v_callG [] [] (c2) H (by rfl) rfl (by rfl) (by simp [pickB, bxs, ren, idx?, sub_refl, sub, allP, strOf_list, hbq] <;> omega) (by first | rfl | (simp [strOf_list, hbq] <;> omega)) (by first | exact trivial | exact ⟨sub_refl _ _, trivial⟩ | exact ⟨sub_refl _ _, sub_refl _ _, trivial⟩ | exact ⟨sub_refl _ _, sub_refl _ _, sub_refl _ _, trivial⟩ | exact ⟨⟨rfl, sub_refl _ _, trivial⟩, sub_refl _ _, trivial⟩ | (simp [cargs, cargsG, St.ev, St.tmp, find, ren, idx?, sub_refl, sub, allP, resv, resC, bss, strOf_list, hbq] <;> omega)) (by rfl) (by rfl) (by rfl) ?_; clear H; intro a w H; replace H := nf_ClashR H; first | (simp only [strOf_list, hbq] at H; replace H := nf_ClashR H) | skip; try refine wpList_nil ?_
  repeat (first | refine wp_seq ?_ | refine wp_block ?_ | refine wp_skip ?_ | refine wp_exit ?_ | ((first | refine v_some 5 tab_ok hN H (by rfl) (by (try simp only [strOf_list, hbq]); first | done | exact ct_ClashR) ?_ | refine v_more tab_ok hN H (by rfl) (by rfl) (by (try simp only [strOf_list, hbq]); first | done | exact ct_ClashR) ?_); clear H; intro a w H; replace H := nf_ClashR H; first | (simp only [strOf_list, hbq] at H; replace H := nf_ClashR H) | skip; (try simp only [List.drop_succ_cons, List.drop_zero, List.drop_nil]); try refine wpList_nil ?_) | refine wp_region_lit ?_)
  have hE : (bif bif !bif !(t1 == t2) then true else bif t1 then !decide (v1 = v2) else false then true else !a1 then true else !a2) = !ok := by
    rw [hok]; generalize decide (v1 = v2) = d; cases t1 <;> cases t2 <;> cases d <;> cases a1 <;> cases a2 <;> rfl
  simp only [hE] at H
  clear hE
  refine v_cond H (by rfl) (fun hb => ?_) (fun hb => ?_)
  · cases ok with
    | true => simp at hb
    | false =>
      obtain ⟨e1, e2⟩ := hz rfl
      subst e1 e2
      repeat (first | refine wp_seq ?_ | refine wp_block ?_ | refine wp_skip ?_ | refine wp_exit ?_ | ((first | refine v_some 5 tab_ok hN H (by rfl) ct_ClashR ?_ | refine v_more tab_ok hN H (by rfl) (by rfl) ct_ClashR ?_); clear H; intro a w H; replace H := nf_ClashR H; (try simp only [List.drop_succ_cons, List.drop_zero, List.drop_nil]); try refine wpList_nil ?_) | refine wp_region_lit ?_)
      refine wp_ret ?_
      exact v_end [] [] tab_ok ⟨hN, hR⟩ (rs := [.cell 8 54, .tmp 9]) (ress := [_, _]) rfl H (by rfl) (by rfl) cb cw (by exact ⟨⟨rfl, rfl, trivial⟩, sub_refl _ _, trivial⟩) rfl
  · cases ok with
    | false => simp at hb
    | true =>
      clear hb
      have ha : a1 = true ∧ a2 = true := by
        have := hok.symm; simp only [Bool.and_eq_true] at this; exact this.2
      have hpart := hpart ha.1 ha.2
      have hdef := hdef rfl
      clear hok hz hm ha
      have H := v_ref H 7 3 (Nat.le_trans hN (by decide)) rfl rfl rfl
      simp only [nilT, strip, List.map_cons, List.map_nil, reduceIte, Nat.reduceEqDiff] at H
      have H := v_ref H 6 2 (Nat.le_trans hN (by decide)) rfl rfl rfl
      simp only [nilT, strip, List.map_cons, List.map_nil, reduceIte, Nat.reduceEqDiff] at H
      have H := v_ref H 5 1 (Nat.le_trans hN (by decide)) rfl rfl rfl
      simp only [nilT, strip, List.map_cons, List.map_nil, reduceIte, Nat.reduceEqDiff] at H
      replace H := H.keep [5, 6, 7, 8, 9] 5 0 ⟨Nat.le_trans hN (by show _ ≤ 5; decide), Nat.le_trans hR (by show _ ≤ 0; decide)⟩ (by rfl) (by rfl)
      replace H := nf_ClashR H
      repeat (first | refine wp_seq ?_ | refine wp_block ?_ | refine wp_skip ?_ | refine wp_exit ?_)
      by_cases ht : t1 = true ∧ t2 = true
      · obtain ⟨rfl, rfl⟩ := ht
        repeat (first | refine wp_seq ?_ | refine wp_block ?_)
        refine v_draw 0 [9, 12] [10, 11] (by kernel_rfl) (by kernel_rfl) H (by rfl) (fun gS H => ?_); try replace H := nt_ClashR H
        repeat (refine v_someT 5 tab_ok hN H (by rfl) ct_ClashR ?_; clear H; intro a w H; replace H := nt_ClashR H; simp only [List.drop_succ_cons, List.drop_zero, List.drop_nil])
        refine v_moreT tab_ok hN H (by rfl) ct_ClashR ?_; clear H; intro a w H; try replace H := nt_ClashR H
        refine v_callTG [] [] (hv1) H (by rfl) (by rfl) (by rfl) rfl (by rfl) cb cw ca (by rfl) (by rfl) (by rfl) ?_; clear H; intro a w H; try replace H := nt_ClashR H
        repeat (refine v_someT 5 tab_ok hN H (by rfl) ct_ClashR ?_; clear H; intro a w H; replace H := nt_ClashR H; simp only [List.drop_succ_cons, List.drop_zero, List.drop_nil])
        refine v_moreT tab_ok hN H (by rfl) ct_ClashR ?_; clear H; intro a w H; try replace H := nt_ClashR H
        refine v_callTG [] [] (hv2) H (by rfl) (by rfl) (by rfl) rfl (by rfl) cb cw ca (by rfl) (by rfl) (by rfl) ?_; clear H; intro a w H; try replace H := nt_ClashR H
        repeat (refine v_someT 5 tab_ok hN H (by rfl) ct_ClashR ?_; clear H; intro a w H; replace H := nt_ClashR H; simp only [List.drop_succ_cons, List.drop_zero, List.drop_nil])
        refine v_moreT tab_ok hN H (by rfl) ct_ClashR ?_; clear H; intro a w H; try replace H := nt_ClashR H
        refine v_drawNil H (fun H => ?_)
        by_cases hvv : valH v1 = valH v2
        · rw [if_pos ⟨rfl, rfl, hvv⟩] at hdef
          simp only [Prod.mk.injEq] at hdef
          obtain ⟨rfl, rfl, _⟩ := hdef
          simp only [decide_eq_true hvv] at H
          refine v_cond H (by rfl) (fun hb => ?_) (fun hb => ?_)
          · clear hb
            generalize 3 :: v1 = x1 at *
            generalize 3 :: v2 = x2 at *
            replace H := H.keep [5, 6, 7, 8, 9] 5 0 ⟨Nat.le_trans hN (by show _ ≤ 5; decide), Nat.le_trans hR (by show _ ≤ 0; decide)⟩ (by rfl) (by rfl)
            replace H := nf_ClashR H
            repeat (first | refine wp_seq ?_ | refine wp_block ?_)
            refine v_drawZ 0 [0, 1, 4, 5, 2, 3, 6, 7, 8, 9, 10] [2, 3, 6, 7, 9] [0, 1, 4, 5] [(2, 6), (3, 6)] (by kernel_rfl) (by kernel_rfl) (by kernel_rfl) (by kernel_rfl) (by kernel_rfl) H (by rfl) (fun gS H => ?_); try replace H := nt_ClashR H
            refine wpZ_run 2 (i := 0) (n' := 9) (pend' := [4, 5, 2, 3, 6, 7, 8, 9, 10]) (by rfl) (by rfl) (by rfl) (by rfl) (by rfl) ?_
            repeat (refine v_someT 3 tab_ok hN H (by rfl) ct_ClashR ?_; clear H; intro a w H; replace H := nt_ClashR H; simp only [List.drop_succ_cons, List.drop_zero, List.drop_nil])
            refine wpT_nil ?_
            try dsimp only
            refine wpZ_run 2 (i := 4) (n' := 7) (pend' := [2, 3, 6, 7, 8, 9, 10]) (by rfl) (by rfl) (by rfl) (by rfl) (by rfl) ?_
            repeat (refine v_someT 3 tab_ok hN H (by rfl) ct_ClashR ?_; clear H; intro a w H; replace H := nt_ClashR H; simp only [List.drop_succ_cons, List.drop_zero, List.drop_nil])
            refine wpT_nil ?_
            try dsimp only
            refine wpZ_two (cs := [6]) (by rfl) (by rfl) ?_
            refine all2 ?_
            refine ⟨?_, ?_⟩
            focus
              refine wpZ_pick (pend' := [3, 6, 7, 8, 9, 10]) (by rfl) (by rfl) ?_
              repeat (refine v_someT 3 tab_ok hN H (by rfl) ct_ClashR ?_; clear H; intro a w H; replace H := nt_ClashR H; simp only [List.drop_succ_cons, List.drop_zero, List.drop_nil])
              refine wpT_nil ?_
              try dsimp only
              refine wpZ_two (cs := [6]) (by rfl) (by rfl) ?_
              refine all2 ?_
              refine ⟨?_, ?_⟩
              focus
                refine wpZ_pick (pend' := [6, 7, 8, 9, 10]) (by rfl) (by rfl) ?_
                refine v_callT [] [] (ht1) H (by rfl) (by rfl) rfl rfl (by rfl) cb cw ca ?_; clear H; intro a w H; try replace H := nt_ClashR H
                refine wpT_nil ?_
                try dsimp only
                refine wpZ_two (cs := []) (by rfl) (by rfl) ?_
                refine all1 ?_
                refine wpZ_pick (pend' := [7, 8, 9, 10]) (by rfl) (by rfl) ?_
                repeat (refine v_someT 3 tab_ok hN H (by rfl) ct_ClashR ?_; clear H; intro a w H; replace H := nt_ClashR H; simp only [List.drop_succ_cons, List.drop_zero, List.drop_nil])
                refine wpT_nil ?_
                try dsimp only
                refine wpZ_two (cs := []) (by rfl) (by rfl) ?_
                refine all1 ?_
                refine wpZ_pick (pend' := [8, 9, 10]) (by rfl) (by rfl) ?_
                refine v_callT [] [] (ht2) H (by rfl) (by rfl) rfl rfl (by rfl) cb cw ca ?_; clear H; intro a w H; try replace H := nt_ClashR H
                refine wpT_nil ?_
                try dsimp only
                refine wpZ_run 1 (i := 8) (n' := 2) (pend' := [9, 10]) (by rfl) (by rfl) (by rfl) (by rfl) (by rfl) ?_
                repeat (refine v_someT 3 tab_ok hN H (by rfl) ct_ClashR ?_; clear H; intro a w H; replace H := nt_ClashR H; simp only [List.drop_succ_cons, List.drop_zero, List.drop_nil])
                refine wpT_nil ?_
                try dsimp only
                refine wpZ_two (cs := []) (by rfl) (by rfl) ?_
                refine all1 ?_
                refine wpZ_pick (pend' := [10]) (by rfl) (by rfl) ?_
                repeat (refine v_someT 3 tab_ok hN H (by rfl) ct_ClashR ?_; clear H; intro a w H; replace H := nt_ClashR H; simp only [List.drop_succ_cons, List.drop_zero, List.drop_nil])
                refine wpT_nil ?_
                try dsimp only
                refine wpZ_run 1 (i := 10) (n' := 0) (pend' := []) (by rfl) (by rfl) (by rfl) (by rfl) (by rfl) ?_
                repeat (refine v_someT 3 tab_ok hN H (by rfl) ct_ClashR ?_; clear H; intro a w H; replace H := nt_ClashR H; simp only [List.drop_succ_cons, List.drop_zero, List.drop_nil])
                refine wpT_nil ?_
                try dsimp only
                refine wpZ_nil ?_
                replace H := RelT.toRel H
              rotate_left 1
              focus
                refine wpZ_pick (pend' := [3, 7, 8, 9, 10]) (by rfl) (by rfl) ?_
                repeat (refine v_someT 3 tab_ok hN H (by rfl) ct_ClashR ?_; clear H; intro a w H; replace H := nt_ClashR H; simp only [List.drop_succ_cons, List.drop_zero, List.drop_nil])
                refine wpT_nil ?_
                try dsimp only
                refine wpZ_two (cs := []) (by rfl) (by rfl) ?_
                refine all1 ?_
                refine wpZ_pick (pend' := [7, 8, 9, 10]) (by rfl) (by rfl) ?_
                refine v_callT [] [] (ht1) H (by rfl) (by rfl) rfl rfl (by rfl) cb cw ca ?_; clear H; intro a w H; try replace H := nt_ClashR H
                refine wpT_nil ?_
                try dsimp only
                refine wpZ_two (cs := []) (by rfl) (by rfl) ?_
                refine all1 ?_
                refine wpZ_pick (pend' := [8, 9, 10]) (by rfl) (by rfl) ?_
                refine v_callT [] [] (ht2) H (by rfl) (by rfl) rfl rfl (by rfl) cb cw ca ?_; clear H; intro a w H; try replace H := nt_ClashR H
                refine wpT_nil ?_
                try dsimp only
                refine wpZ_run 1 (i := 8) (n' := 2) (pend' := [9, 10]) (by rfl) (by rfl) (by rfl) (by rfl) (by rfl) ?_
                repeat (refine v_someT 3 tab_ok hN H (by rfl) ct_ClashR ?_; clear H; intro a w H; replace H := nt_ClashR H; simp only [List.drop_succ_cons, List.drop_zero, List.drop_nil])
                refine wpT_nil ?_
                try dsimp only
                refine wpZ_two (cs := []) (by rfl) (by rfl) ?_
                refine all1 ?_
                refine wpZ_pick (pend' := [10]) (by rfl) (by rfl) ?_
                repeat (refine v_someT 3 tab_ok hN H (by rfl) ct_ClashR ?_; clear H; intro a w H; replace H := nt_ClashR H; simp only [List.drop_succ_cons, List.drop_zero, List.drop_nil])
                refine wpT_nil ?_
                try dsimp only
                refine wpZ_run 1 (i := 10) (n' := 0) (pend' := []) (by rfl) (by rfl) (by rfl) (by rfl) (by rfl) ?_
                repeat (refine v_someT 3 tab_ok hN H (by rfl) ct_ClashR ?_; clear H; intro a w H; replace H := nt_ClashR H; simp only [List.drop_succ_cons, List.drop_zero, List.drop_nil])
                refine wpT_nil ?_
                try dsimp only
                refine wpZ_nil ?_
                replace H := RelT.toRel H
            rotate_left 2
            focus
              refine wpZ_pick (pend' := [2, 3, 7, 8, 9, 10]) (by rfl) (by rfl) ?_
              repeat (refine v_someT 3 tab_ok hN H (by rfl) ct_ClashR ?_; clear H; intro a w H; replace H := nt_ClashR H; simp only [List.drop_succ_cons, List.drop_zero, List.drop_nil])
              refine wpT_nil ?_
              try dsimp only
              refine wpZ_two (cs := []) (by rfl) (by rfl) ?_
              refine all1 ?_
              refine wpZ_pick (pend' := [3, 7, 8, 9, 10]) (by rfl) (by rfl) ?_
              repeat (refine v_someT 3 tab_ok hN H (by rfl) ct_ClashR ?_; clear H; intro a w H; replace H := nt_ClashR H; simp only [List.drop_succ_cons, List.drop_zero, List.drop_nil])
              refine wpT_nil ?_
              try dsimp only
              refine wpZ_two (cs := []) (by rfl) (by rfl) ?_
              refine all1 ?_
              refine wpZ_pick (pend' := [7, 8, 9, 10]) (by rfl) (by rfl) ?_
              refine v_callT [] [] (ht1) H (by rfl) (by rfl) rfl rfl (by rfl) cb cw ca ?_; clear H; intro a w H; try replace H := nt_ClashR H
              refine wpT_nil ?_
              try dsimp only
              refine wpZ_two (cs := []) (by rfl) (by rfl) ?_
              refine all1 ?_
              refine wpZ_pick (pend' := [8, 9, 10]) (by rfl) (by rfl) ?_
              refine v_callT [] [] (ht2) H (by rfl) (by rfl) rfl rfl (by rfl) cb cw ca ?_; clear H; intro a w H; try replace H := nt_ClashR H
              refine wpT_nil ?_
              try dsimp only
              refine wpZ_run 1 (i := 8) (n' := 2) (pend' := [9, 10]) (by rfl) (by rfl) (by rfl) (by rfl) (by rfl) ?_
              repeat (refine v_someT 3 tab_ok hN H (by rfl) ct_ClashR ?_; clear H; intro a w H; replace H := nt_ClashR H; simp only [List.drop_succ_cons, List.drop_zero, List.drop_nil])
              refine wpT_nil ?_
              try dsimp only
              refine wpZ_two (cs := []) (by rfl) (by rfl) ?_
              refine all1 ?_
              refine wpZ_pick (pend' := [10]) (by rfl) (by rfl) ?_
              repeat (refine v_someT 3 tab_ok hN H (by rfl) ct_ClashR ?_; clear H; intro a w H; replace H := nt_ClashR H; simp only [List.drop_succ_cons, List.drop_zero, List.drop_nil])
              refine wpT_nil ?_
              try dsimp only
              refine wpZ_run 1 (i := 10) (n' := 0) (pend' := []) (by rfl) (by rfl) (by rfl) (by rfl) (by rfl) ?_
              repeat (refine v_someT 3 tab_ok hN H (by rfl) ct_ClashR ?_; clear H; intro a w H; replace H := nt_ClashR H; simp only [List.drop_succ_cons, List.drop_zero, List.drop_nil])
              refine wpT_nil ?_
              try dsimp only
              refine wpZ_nil ?_
              replace H := RelT.toRel H
            all_goals
              refine wp_ret ?_
              exact v_end [] [] tab_ok ⟨hN, hR⟩ (rs := [.cell 8 54, .tmp 9]) (ress := [_, _]) rfl H (by rfl) (by rfl) cb cw ca rfl
          · simp at hb
        · rw [if_neg (fun h => hvv h.2.2)] at hdef
          simp only [Prod.mk.injEq] at hdef
          obtain ⟨rfl, rfl, _⟩ := hdef
          simp only [decide_eq_false hvv] at H
          refine v_cond H (by rfl) (fun hb => ?_) (fun hb => ?_)
          · simp at hb
          · clear hb
            replace H := H.keep [5, 6, 7, 8, 9] 5 0 ⟨Nat.le_trans hN (by show _ ≤ 5; decide), Nat.le_trans hR (by show _ ≤ 0; decide)⟩ (by rfl) (by rfl)
            replace H := nf_ClashR H
            repeat (first | refine wp_seq ?_ | refine wp_block ?_ | refine wp_skip ?_ | refine wp_exit ?_ | ((first | refine v_some 5 tab_ok hN H (by rfl) ct_ClashR ?_ | refine v_more tab_ok hN H (by rfl) (by rfl) ct_ClashR ?_); clear H; intro a w H; replace H := nf_ClashR H; (try simp only [List.drop_succ_cons, List.drop_zero, List.drop_nil]); try refine wpList_nil ?_) | refine wp_region_lit ?_)
            refine v_call [] [] (hpart) H rfl rfl (by rfl) cb cw ca ?_; clear H; intro a w H; replace H := nf_ClashR H; try refine wpList_nil ?_
            repeat (first | refine wp_seq ?_ | refine wp_block ?_ | refine wp_skip ?_ | refine wp_exit ?_ | ((first | refine v_some 5 tab_ok hN H (by rfl) ct_ClashR ?_ | refine v_more tab_ok hN H (by rfl) (by rfl) ct_ClashR ?_); clear H; intro a w H; replace H := nf_ClashR H; (try simp only [List.drop_succ_cons, List.drop_zero, List.drop_nil]); try refine wpList_nil ?_) | refine wp_region_lit ?_)
            refine wp_ret ?_
            exact v_end [] [] tab_ok ⟨hN, hR⟩ (rs := [.cell 8 54, .tmp 9]) (ress := [_, _]) rfl H (by rfl) (by rfl) cb cw ca rfl
      · rw [if_neg (fun h => ht ⟨h.1, h.2.1⟩)] at hdef
        simp only [Prod.mk.injEq] at hdef
        obtain ⟨rfl, rfl, _⟩ := hdef
        have ht' : (bif t1 then t2 else false) = false := by
          cases t1 <;> cases t2 <;> simp_all
        repeat (first | refine wp_seq ?_ | refine wp_block ?_)
        refine v_draw 0 [9, 12] [10, 11] (by kernel_rfl) (by kernel_rfl) H (by rfl) (fun gS H => ?_); try replace H := nt_ClashR H; first | (simp only [ht'] at H; replace H := nt_ClashR H) | skip
        repeat (refine v_someT 5 tab_ok hN H (by rfl) (by (try simp only [ht']); first | done | exact ct_ClashR) ?_; clear H; intro a w H; replace H := nt_ClashR H; first | (simp only [ht'] at H; replace H := nt_ClashR H) | skip; simp only [List.drop_succ_cons, List.drop_zero, List.drop_nil])
        refine v_moreT tab_ok hN H (by rfl) (by (try simp only [ht']); first | done | exact ct_ClashR) ?_; clear H; intro a w H; try replace H := nt_ClashR H; first | (simp only [ht'] at H; replace H := nt_ClashR H) | skip
        refine v_skipT (.ba (valH v1)) H (by rfl) (by rfl) (by rfl) ?_; clear H; intro a w H; try replace H := nt_ClashR H; first | (simp only [ht'] at H; replace H := nt_ClashR H) | skip
        repeat (refine v_someT 5 tab_ok hN H (by rfl) (by (try simp only [ht']); first | done | exact ct_ClashR) ?_; clear H; intro a w H; replace H := nt_ClashR H; first | (simp only [ht'] at H; replace H := nt_ClashR H) | skip; simp only [List.drop_succ_cons, List.drop_zero, List.drop_nil])
        refine v_moreT tab_ok hN H (by rfl) (by (try simp only [ht']); first | done | exact ct_ClashR) ?_; clear H; intro a w H; try replace H := nt_ClashR H; first | (simp only [ht'] at H; replace H := nt_ClashR H) | skip
        refine v_skipT (.ba (valH v2)) H (by rfl) (by rfl) (by rfl) ?_; clear H; intro a w H; try replace H := nt_ClashR H; first | (simp only [ht'] at H; replace H := nt_ClashR H) | skip
        repeat (refine v_someT 5 tab_ok hN H (by rfl) (by (try simp only [ht']); first | done | exact ct_ClashR) ?_; clear H; intro a w H; replace H := nt_ClashR H; first | (simp only [ht'] at H; replace H := nt_ClashR H) | skip; simp only [List.drop_succ_cons, List.drop_zero, List.drop_nil])
        refine v_moreT tab_ok hN H (by rfl) (by (try simp only [ht']); first | done | exact ct_ClashR) ?_; clear H; intro a w H; try replace H := nt_ClashR H; first | (simp only [ht'] at H; replace H := nt_ClashR H) | skip
        refine v_drawNil H (fun H => ?_)
        refine v_cond H (by rfl) (fun hb => ?_) (fun hb => ?_)
        · simp at hb
        · clear hb
          replace H := H.keep [5, 6, 7, 8, 9] 5 0 ⟨Nat.le_trans hN (by show _ ≤ 5; decide), Nat.le_trans hR (by show _ ≤ 0; decide)⟩ (by rfl) (by rfl)
          replace H := nf_ClashR H
          repeat (first | refine wp_seq ?_ | refine wp_block ?_ | refine wp_skip ?_ | refine wp_exit ?_ | ((first | refine v_some 5 tab_ok hN H (by rfl) ct_ClashR ?_ | refine v_more tab_ok hN H (by rfl) (by rfl) ct_ClashR ?_); clear H; intro a w H; replace H := nf_ClashR H; (try simp only [List.drop_succ_cons, List.drop_zero, List.drop_nil]); try refine wpList_nil ?_) | refine wp_region_lit ?_)
          refine v_call [] [] (hpart) H rfl rfl (by rfl) cb cw ca ?_; clear H; intro a w H; replace H := nf_ClashR H; try refine wpList_nil ?_
          repeat (first | refine wp_seq ?_ | refine wp_block ?_ | refine wp_skip ?_ | refine wp_exit ?_ | ((first | refine v_some 5 tab_ok hN H (by rfl) ct_ClashR ?_ | refine v_more tab_ok hN H (by rfl) (by rfl) ct_ClashR ?_); clear H; intro a w H; replace H := nf_ClashR H; (try simp only [List.drop_succ_cons, List.drop_zero, List.drop_nil]); try refine wpList_nil ?_) | refine wp_region_lit ?_)
          refine wp_ret ?_
          exact v_end [] [] tab_ok ⟨hN, hR⟩ (rs := [.cell 8 54, .tmp 9]) (ress := [_, _]) rfl H (by rfl) (by rfl) cb cw ca rfl
end Go.Proofs.Ytlagngkafllbiaa
/- Two texts with one digest, of two claims that are accepted: extract.Clash. -/
namespace Go.Proofs.Ytlagngkafllbiaa
open Go Go.RowKit
/-- The state made plain. -/
theorem nf_Clash3 {P : Program} {w0 w : World} {N : Gh} {nt : Nat} {st s2 : St} {a : Act} (H : Rel P w0 N nt st a w) (h : st = s2 := by (try simp only [pk, elemB, St.put, St.ev, St.tmp, St.keep, find, dropT, slots, AV.put, AV.loc, fitI, convI, IntKind.signed, IntKind.bits, strip, St.lose, mergeL, setAll, nth, renB, ren, idx?, sub, allP, low, bnd, Int.reduceEq, Nat.reduceAdd, Nat.reduceLT, reduceIte, reduceCtorEq, Nat.reduceEqDiff, Nat.reduceLeDiff, Nat.reduceBEq, Int.reducePow, Int.reduceToNat, ti24_t, ti24_z, ti5_t, ti5_z, ti30_t, ti30_z, ti23_t, ti23_z, ti52_t, ti52_z, ti54_t, ti54_z, ti26_t, ti26_z, ti86_t, ti86_z]); rfl) : Rel P w0 N nt s2 a w := h ▸ H
theorem nt_Clash3 {P : Program} {w0 w : World} {N gS : Gh} {nt : Nat} {q q2 st s2 : St} {a : Act} (H : RelT P w0 N nt gS q st a w) (h1 : q = q2 := by (try simp only [pk, elemB, St.put, St.ev, St.tmp, St.keep, find, dropT, slots, AV.put, AV.loc, fitI, convI, IntKind.signed, IntKind.bits, strip, St.lose, mergeL, setAll, nth, renB, ren, idx?, sub, allP, low, bnd, Int.reduceEq, Nat.reduceAdd, Nat.reduceLT, reduceIte, reduceCtorEq, Nat.reduceEqDiff, Nat.reduceLeDiff, Nat.reduceBEq, Int.reducePow, Int.reduceToNat, ti24_t, ti24_z, ti5_t, ti5_z, ti30_t, ti30_z, ti23_t, ti23_z, ti52_t, ti52_z, ti54_t, ti54_z, ti26_t, ti26_z, ti86_t, ti86_z]); rfl) (h : st = s2 := by (try simp only [pk, elemB, St.put, St.ev, St.tmp, St.keep, find, dropT, slots, AV.put, AV.loc, fitI, convI, IntKind.signed, IntKind.bits, strip, St.lose, mergeL, setAll, nth, renB, ren, idx?, sub, allP, low, bnd, Int.reduceEq, Nat.reduceAdd, Nat.reduceLT, reduceIte, reduceCtorEq, Nat.reduceEqDiff, Nat.reduceLeDiff, Nat.reduceBEq, Int.reducePow, Int.reduceToNat, ti24_t, ti24_z, ti5_t, ti5_z, ti30_t, ti30_z, ti23_t, ti23_z, ti52_t, ti52_z, ti54_t, ti54_z, ti26_t, ti26_z, ti86_t, ti86_z]); rfl) : RelT P w0 N nt gS q2 s2 a w := h1 ▸ h ▸ H
theorem ct_Clash3 {c : Prop} (h : c := by ((try simp only [pk, elemB, St.put, St.ev, St.tmp, St.keep, find, dropT, slots, AV.put, AV.loc, fitI, convI, IntKind.signed, IntKind.bits, strip, St.lose, mergeL, setAll, nth, renB, ren, idx?, sub, allP, low, bnd, Int.reduceEq, Nat.reduceAdd, Nat.reduceLT, reduceIte, reduceCtorEq, Nat.reduceEqDiff, Nat.reduceLeDiff, Nat.reduceBEq, Int.reducePow, Int.reduceToNat, ti24_t, ti24_z, ti5_t, ti5_z, ti30_t, ti30_z, ti23_t, ti23_z, ti52_t, ti52_z, ti54_t, ti54_z, ti26_t, ti26_z, ti86_t, ti86_z, ti24, ti5, ti30, ti23, ti52, ti54, ti26, ti86, fit, gcond, ilo, ihi]); first | done | exact cd | exact cd2 | skip)) : c := h
theorem bqt (b : Bool) : (b == true) = b := by cases b <;> rfl
set_option maxRecDepth 20000 in
set_option maxHeartbeats 4000000 in
theorem clash_yes (root key : List UInt8) (one two : Cl) (hr : root.length = 32) (hk : key.length = 32) (h1 : one.v.length ≤ 34359730000) (h2 : one.b.length ≤ 34359730000) (h3 : two.v.length ≤ 34359730000) (h4 : two.b.length ≤ 34359730000) (hx : vAcc root key one = true) (hy : vAcc root key two = true) :
    VC Try.prog 22 [.ba root, .ba key, one.av, two.av] [] (.tup [.st [.bs (clP root key one two).1 none, .bs (clP root key one two).2.1 none], .v (.bool (clP root key one two).2.2)]) := by
  have c1 := accepted_v root key one hr hk h1 h2
  have c2 := accepted_v root key two hr hk h3 h4
  rw [hx] at c1
  rw [hy] at c2
  have hpart := part_ok key one.b two.b hk h2 h4 (vAcc_ok hx) (vAcc_ok hy) (txs_len _ _) (txs_len _ _)
  have hcmp := compare_v one.v two.v
  have hcz := cmp_zero one.v two.v
  have hv1 := value_v one.v h1
  have hv2 := value_v two.v h3
  have hl1 := valH_len one.v
  have hl2 := valH_len two.v
  have ht1 := valueText_v one.v h1
  have ht2 := valueText_v two.v h3
  rw [clP, if_neg (fun hn => hn ⟨hx, hy⟩)]
  generalize prt (txs key one.b) (txs key two.b) 0 = pr at *
  clear hx hy
  obtain ⟨q1, q2, q3⟩ := pr
  obtain ⟨t1, v1, b1⟩ := one
  obtain ⟨t2, v2, b2⟩ := two
  dsimp only at *
  refine v_enter Try.func22 rfl (by kernel_rfl) (by show 4 ≤ 87; decide) ?_
  intro N w0 a w hN hR H
  simp only [Cl.av] at H c1 c2
  repeat (first | refine wp_seq ?_ | refine wp_block ?_ | refine wp_skip ?_ | refine wp_exit ?_ | ((first | refine v_some 5 tab_ok hN H (by rfl) ct_Clash3 ?_ | refine v_more tab_ok hN H (by rfl) (by rfl) ct_Clash3 ?_); clear H; intro a w H; replace H := nf_Clash3 H; (try simp only [List.drop_succ_cons, List.drop_zero, List.drop_nil]); try refine wpList_nil ?_) | refine wp_region_lit ?_)
  refine v_call [] [] (c1) H rfl rfl (by rfl) cb cw ca ?_; clear H; intro a w H; replace H := nf_Clash3 H; try refine wpList_nil ?_
  repeat (first | refine wp_seq ?_ | refine wp_block ?_ | refine wp_skip ?_ | refine wp_exit ?_ | ((first | refine v_some 5 tab_ok hN H (by rfl) ct_Clash3 ?_ | refine v_more tab_ok hN H (by rfl) (by rfl) ct_Clash3 ?_); clear H; intro a w H; replace H := nf_Clash3 H; (try simp only [List.drop_succ_cons, List.drop_zero, List.drop_nil]); try refine wpList_nil ?_) | refine wp_region_lit ?_)
  refine v_callG [] [] (c2) H (by rfl) rfl (by rfl) cb cw ca (by rfl) (by rfl) (by rfl) ?_; clear H; intro a w H; replace H := nf_Clash3 H; try refine wpList_nil ?_
  repeat (first | refine wp_seq ?_ | refine wp_block ?_ | refine wp_skip ?_ | refine wp_exit ?_ | ((first | refine v_some 5 tab_ok hN H (by rfl) ct_Clash3 ?_ | refine v_more tab_ok hN H (by rfl) (by rfl) ct_Clash3 ?_); clear H; intro a w H; replace H := nf_Clash3 H; (try simp only [List.drop_succ_cons, List.drop_zero, List.drop_nil]); try refine wpList_nil ?_) | refine wp_region_lit ?_)
  refine v_cond H (by rfl) (fun hb => ?_) (fun hb => ?_)
  · simp at hb
  · clear hb
    repeat (first | refine wp_seq ?_ | refine wp_block ?_ | refine wp_skip ?_ | refine wp_exit ?_ | ((first | refine v_some 5 tab_ok hN H (by rfl) ct_Clash3 ?_ | refine v_more tab_ok hN H (by rfl) (by rfl) ct_Clash3 ?_); clear H; intro a w H; replace H := nf_Clash3 H; (try simp only [List.drop_succ_cons, List.drop_zero, List.drop_nil]); try refine wpList_nil ?_) | refine wp_region_lit ?_)
    have H := v_ref H 7 3 (Nat.le_trans hN (by decide)) rfl rfl rfl
    simp only [nilT, strip, List.map_cons, List.map_nil, reduceIte, Nat.reduceEqDiff] at H
    have H := v_ref H 6 2 (Nat.le_trans hN (by decide)) rfl rfl rfl
    simp only [nilT, strip, List.map_cons, List.map_nil, reduceIte, Nat.reduceEqDiff] at H
    have H := v_ref H 5 1 (Nat.le_trans hN (by decide)) rfl rfl rfl
    simp only [nilT, strip, List.map_cons, List.map_nil, reduceIte, Nat.reduceEqDiff] at H
    replace H := H.keep [5, 6, 7, 8, 9] 5 0 ⟨Nat.le_trans hN (by show _ ≤ 5; decide), Nat.le_trans hR (by show _ ≤ 0; decide)⟩ (by rfl) (by rfl)
    replace H := nf_Clash3 H
    apply cutG (R := fun a w => Rel Try.prog w0 N Try.f22.ntmps ⟨[(10, none, .ptr 5 []), (9, none, .v (.bool false)), (8, none, .ptr 4 []), (7, none, .ref ti52.ty (.st [.v (.bool t2), .bs v2 none, .bs b2 none])), (6, none, .ref ti52.ty (.st [.v (.bool t1), .bs v1 none, .bs b1 none])), (5, none, .ref (.ba 32) (.ba key))],
      [(.ba 32, .ba root), (.ba 32, .ba key), (ti52.ty, .st [.v (.bool t1), .bs v1 none, .bs b1 none]), (ti52.ty, .st [.v (.bool t2), .bs v2 none, .bs b2 none]), (ti54.ty, .st [.v (.slice none 0 0), .v (.slice none 0 0)]), (ti86.ty, .st [.v (.bool t1), .v (.bool t2), .v (.bool (decide (Lib.compareBytes v1 v2 = 0)))])], [1, 2, 3], []⟩ a w)
    intro key1
    · repeat (first | refine wp_seq ?_ | refine wp_block ?_)
      refine v_drawZ 0 [0, 1, 2, 3, 4, 5, 6, 7, 8, 9, 10, 11, 12] [8, 11, 12] [0, 1, 2, 3, 4, 5, 6, 7, 9, 10] [(8, 11)] (by kernel_rfl) (by kernel_rfl) (by kernel_rfl) (by kernel_rfl) (by kernel_rfl) H (by rfl) (fun gS H => ?_); try replace H := nt_Clash3 H
      refine wpZ_run 8 (i := 0) (n' := 5) (pend' := [8, 9, 10, 11, 12]) (by rfl) (by rfl) (by rfl) (by rfl) (by rfl) ?_
      repeat (refine v_someT 3 tab_ok hN H (by rfl) ct_Clash3 ?_; clear H; intro a w H; replace H := nt_Clash3 H; simp only [List.drop_succ_cons, List.drop_zero, List.drop_nil])
      refine wpT_nil ?_
      try dsimp only
      refine wpZ_two (cs := [11]) (by rfl) (by rfl) ?_
      refine all2 ?_
      refine ⟨?_, ?_⟩
      focus
        refine wpZ_pick (pend' := [9, 10, 11, 12]) (by rfl) (by rfl) ?_
        refine v_callT [] [] (hcmp) H (by rfl) (by rfl) rfl rfl (by rfl) cb cw ca ?_; clear H; intro a w H; try replace H := nt_Clash3 H
        refine wpT_nil ?_
        try dsimp only
        refine wpZ_run 2 (i := 9) (n' := 2) (pend' := [11, 12]) (by rfl) (by rfl) (by rfl) (by rfl) (by rfl) ?_
        repeat (refine v_someT 3 tab_ok hN H (by rfl) ct_Clash3 ?_; clear H; intro a w H; replace H := nt_Clash3 H; simp only [List.drop_succ_cons, List.drop_zero, List.drop_nil])
        refine wpT_nil ?_
        try dsimp only
        refine wpZ_two (cs := []) (by rfl) (by rfl) ?_
        refine all1 ?_
        refine wpZ_pick (pend' := [12]) (by rfl) (by rfl) ?_
        repeat (refine v_someT 3 tab_ok hN H (by rfl) ct_Clash3 ?_; clear H; intro a w H; replace H := nt_Clash3 H; simp only [List.drop_succ_cons, List.drop_zero, List.drop_nil])
        refine wpT_nil ?_
        try dsimp only
        refine wpZ_two (cs := []) (by rfl) (by rfl) ?_
        refine all1 ?_
        refine wpZ_pick (pend' := []) (by rfl) (by rfl) ?_
        repeat (refine v_someT 3 tab_ok hN H (by rfl) ct_Clash3 ?_; clear H; intro a w H; replace H := nt_Clash3 H; simp only [List.drop_succ_cons, List.drop_zero, List.drop_nil])
        refine wpT_nil ?_
        try dsimp only
        refine wpZ_nil ?_
        replace H := RelT.toRel H
      rotate_left 1
      focus
        refine wpZ_pick (pend' := [8, 9, 10, 12]) (by rfl) (by rfl) ?_
        repeat (refine v_someT 3 tab_ok hN H (by rfl) ct_Clash3 ?_; clear H; intro a w H; replace H := nt_Clash3 H; simp only [List.drop_succ_cons, List.drop_zero, List.drop_nil])
        refine wpT_nil ?_
        try dsimp only
        refine wpZ_two (cs := []) (by rfl) (by rfl) ?_
        refine all1 ?_
        refine wpZ_pick (pend' := [9, 10, 12]) (by rfl) (by rfl) ?_
        refine v_callT [] [] (hcmp) H (by rfl) (by rfl) rfl rfl (by rfl) cb cw ca ?_; clear H; intro a w H; try replace H := nt_Clash3 H
        refine wpT_nil ?_
        try dsimp only
        refine wpZ_run 2 (i := 9) (n' := 1) (pend' := [12]) (by rfl) (by rfl) (by rfl) (by rfl) (by rfl) ?_
        repeat (refine v_someT 3 tab_ok hN H (by rfl) ct_Clash3 ?_; clear H; intro a w H; replace H := nt_Clash3 H; simp only [List.drop_succ_cons, List.drop_zero, List.drop_nil])
        refine wpT_nil ?_
        try dsimp only
        refine wpZ_two (cs := []) (by rfl) (by rfl) ?_
        refine all1 ?_
        refine wpZ_pick (pend' := []) (by rfl) (by rfl) ?_
        repeat (refine v_someT 3 tab_ok hN H (by rfl) ct_Clash3 ?_; clear H; intro a w H; replace H := nt_Clash3 H; simp only [List.drop_succ_cons, List.drop_zero, List.drop_nil])
        refine wpT_nil ?_
        try dsimp only
        refine wpZ_nil ?_
        replace H := RelT.toRel H
      all_goals
        exact key1 _ _ (H.to 6 0 ⟨Nat.le_trans hN (by decide), hR⟩ ⟨rfl, rfl, rfl, rfl, rfl, rfl, trivial⟩ rfl rfl rfl rfl rfl)
    clear H
    intro a w H
    have ez : decide (Lib.compareBytes v1 v2 = 0) = decide (v1 = v2) := decide_eq_decide.2 hcz
    rw [ez] at H
    clear ez hcz hcmp c1 c2
    cases t1 <;> cases t2
    · simp only [Bool.false_eq_true, false_and, and_self, or_true, reduceIte]
      repeat (first | refine wp_seq ?_ | refine wp_block ?_ | refine wp_skip ?_ | refine wp_exit ?_ | ((first | refine v_some 5 tab_ok hN H (by rfl) (by (try simp only [bqt, Bool.false_and, Bool.and_false]); first | done | exact ct_Clash3) ?_ | refine v_more tab_ok hN H (by rfl) (by rfl) (by (try simp only [bqt, Bool.false_and, Bool.and_false]); first | done | exact ct_Clash3) ?_); clear H; intro a w H; replace H := nf_Clash3 H; first | (simp only [bqt, Bool.false_and, Bool.and_false] at H; replace H := nf_Clash3 H) | skip; (try simp only [List.drop_succ_cons, List.drop_zero, List.drop_nil]); try refine wpList_nil ?_) | refine wp_region_lit ?_)
      refine v_cond H (by rfl) (fun hb => ?_) (fun hb => ?_)
      · repeat (first | refine wp_seq ?_ | refine wp_block ?_ | refine wp_skip ?_ | refine wp_exit ?_ | ((first | refine v_some 5 tab_ok hN H (by rfl) (by (try simp only [bqt, Bool.false_and, Bool.and_false]); first | done | exact ct_Clash3) ?_ | refine v_more tab_ok hN H (by rfl) (by rfl) (by (try simp only [bqt, Bool.false_and, Bool.and_false]); first | done | exact ct_Clash3) ?_); clear H; intro a w H; replace H := nf_Clash3 H; first | (simp only [bqt, Bool.false_and, Bool.and_false] at H; replace H := nf_Clash3 H) | skip; (try simp only [List.drop_succ_cons, List.drop_zero, List.drop_nil]); try refine wpList_nil ?_) | refine wp_region_lit ?_)
        refine wp_ret ?_
        exact v_end [] [] tab_ok ⟨hN, hR⟩ (rs := [.cell 8 54, .tmp 9]) (ress := [_, _]) rfl H (by rfl) (by rfl) cb cw (by exact ⟨⟨rfl, rfl, trivial⟩, sub_refl _ _, trivial⟩) rfl
      · simp at hb
    · simp only [Bool.false_eq_true, Bool.true_eq_false, false_and, and_false, or_self, reduceIte]
      repeat (first | refine wp_seq ?_ | refine wp_block ?_ | refine wp_skip ?_ | refine wp_exit ?_ | ((first | refine v_some 5 tab_ok hN H (by rfl) (by (try simp only [bqt, Bool.false_and, Bool.and_false]); first | done | exact ct_Clash3) ?_ | refine v_more tab_ok hN H (by rfl) (by rfl) (by (try simp only [bqt, Bool.false_and, Bool.and_false]); first | done | exact ct_Clash3) ?_); clear H; intro a w H; replace H := nf_Clash3 H; first | (simp only [bqt, Bool.false_and, Bool.and_false] at H; replace H := nf_Clash3 H) | skip; (try simp only [List.drop_succ_cons, List.drop_zero, List.drop_nil]); try refine wpList_nil ?_) | refine wp_region_lit ?_)
      refine v_cond H (by rfl) (fun hb => ?_) (fun hb => ?_)
      · simp at hb
      · clear hb
        repeat (first | refine wp_seq ?_ | refine wp_block ?_ | refine wp_skip ?_ | refine wp_exit ?_ | ((first | refine v_some 5 tab_ok hN H (by rfl) (by (try simp only [bqt, Bool.false_and, Bool.and_false]); first | done | exact ct_Clash3) ?_ | refine v_more tab_ok hN H (by rfl) (by rfl) (by (try simp only [bqt, Bool.false_and, Bool.and_false]); first | done | exact ct_Clash3) ?_); clear H; intro a w H; replace H := nf_Clash3 H; first | (simp only [bqt, Bool.false_and, Bool.and_false] at H; replace H := nf_Clash3 H) | skip; (try simp only [List.drop_succ_cons, List.drop_zero, List.drop_nil]); try refine wpList_nil ?_) | refine wp_region_lit ?_)
        repeat (first | refine wp_seq ?_ | refine wp_block ?_)
        refine v_draw 6 [9, 12] [10, 11] (by kernel_rfl) (by kernel_rfl) H (by rfl) (fun gS H => ?_); try replace H := nt_Clash3 H; first | (simp only [bqt, Bool.false_and, Bool.and_false] at H; replace H := nt_Clash3 H) | skip
        repeat (refine v_someT 5 tab_ok hN H (by rfl) (by (try simp only [bqt, Bool.false_and, Bool.and_false]); first | done | exact ct_Clash3) ?_; clear H; intro a w H; replace H := nt_Clash3 H; first | (simp only [bqt, Bool.false_and, Bool.and_false] at H; replace H := nt_Clash3 H) | skip; simp only [List.drop_succ_cons, List.drop_zero, List.drop_nil])
        refine v_moreT tab_ok hN H (by rfl) (by (try simp only [bqt, Bool.false_and, Bool.and_false]); first | done | exact ct_Clash3) ?_; clear H; intro a w H; try replace H := nt_Clash3 H; first | (simp only [bqt, Bool.false_and, Bool.and_false] at H; replace H := nt_Clash3 H) | skip
        refine v_skipT (.ba (valH v1)) H (by rfl) (by rfl) (by rfl) ?_; clear H; intro a w H; try replace H := nt_Clash3 H; first | (simp only [bqt, Bool.false_and, Bool.and_false] at H; replace H := nt_Clash3 H) | skip
        repeat (refine v_someT 5 tab_ok hN H (by rfl) (by (try simp only [bqt, Bool.false_and, Bool.and_false]); first | done | exact ct_Clash3) ?_; clear H; intro a w H; replace H := nt_Clash3 H; first | (simp only [bqt, Bool.false_and, Bool.and_false] at H; replace H := nt_Clash3 H) | skip; simp only [List.drop_succ_cons, List.drop_zero, List.drop_nil])
        refine v_moreT tab_ok hN H (by rfl) (by (try simp only [bqt, Bool.false_and, Bool.and_false]); first | done | exact ct_Clash3) ?_; clear H; intro a w H; try replace H := nt_Clash3 H; first | (simp only [bqt, Bool.false_and, Bool.and_false] at H; replace H := nt_Clash3 H) | skip
        refine v_skipT (.ba (valH v2)) H (by rfl) (by rfl) (by rfl) ?_; clear H; intro a w H; try replace H := nt_Clash3 H; first | (simp only [bqt, Bool.false_and, Bool.and_false] at H; replace H := nt_Clash3 H) | skip
        repeat (refine v_someT 5 tab_ok hN H (by rfl) (by (try simp only [bqt, Bool.false_and, Bool.and_false]); first | done | exact ct_Clash3) ?_; clear H; intro a w H; replace H := nt_Clash3 H; first | (simp only [bqt, Bool.false_and, Bool.and_false] at H; replace H := nt_Clash3 H) | skip; simp only [List.drop_succ_cons, List.drop_zero, List.drop_nil])
        refine v_moreT tab_ok hN H (by rfl) (by (try simp only [bqt, Bool.false_and, Bool.and_false]); first | done | exact ct_Clash3) ?_; clear H; intro a w H; try replace H := nt_Clash3 H; first | (simp only [bqt, Bool.false_and, Bool.and_false] at H; replace H := nt_Clash3 H) | skip
        refine v_drawNil H (fun H => ?_)
        refine v_cond H (by rfl) (fun hb => ?_) (fun hb => ?_)
        · simp at hb
        · clear hb
          replace H := H.keep [5, 6, 7, 8, 9] 5 0 ⟨Nat.le_trans hN (by show _ ≤ 5; decide), Nat.le_trans hR (by show _ ≤ 0; decide)⟩ (by rfl) (by rfl)
          replace H := nf_Clash3 H
          repeat (first | refine wp_seq ?_ | refine wp_block ?_ | refine wp_skip ?_ | refine wp_exit ?_ | ((first | refine v_some 5 tab_ok hN H (by rfl) ct_Clash3 ?_ | refine v_more tab_ok hN H (by rfl) (by rfl) ct_Clash3 ?_); clear H; intro a w H; replace H := nf_Clash3 H; (try simp only [List.drop_succ_cons, List.drop_zero, List.drop_nil]); try refine wpList_nil ?_) | refine wp_region_lit ?_)
          refine v_call [] [] (hpart) H rfl rfl (by rfl) cb cw ca ?_; clear H; intro a w H; replace H := nf_Clash3 H; try refine wpList_nil ?_
          repeat (first | refine wp_seq ?_ | refine wp_block ?_ | refine wp_skip ?_ | refine wp_exit ?_ | ((first | refine v_some 5 tab_ok hN H (by rfl) ct_Clash3 ?_ | refine v_more tab_ok hN H (by rfl) (by rfl) ct_Clash3 ?_); clear H; intro a w H; replace H := nf_Clash3 H; (try simp only [List.drop_succ_cons, List.drop_zero, List.drop_nil]); try refine wpList_nil ?_) | refine wp_region_lit ?_)
          refine wp_ret ?_
          exact v_end [] [] tab_ok ⟨hN, hR⟩ (rs := [.cell 8 54, .tmp 9]) (ress := [_, _]) rfl H (by rfl) (by rfl) cb cw ca rfl
    · simp only [Bool.false_eq_true, Bool.true_eq_false, false_and, and_false, or_self, reduceIte]
      repeat (first | refine wp_seq ?_ | refine wp_block ?_ | refine wp_skip ?_ | refine wp_exit ?_ | ((first | refine v_some 5 tab_ok hN H (by rfl) ct_Clash3 ?_ | refine v_more tab_ok hN H (by rfl) (by rfl) ct_Clash3 ?_); clear H; intro a w H; replace H := nf_Clash3 H; (try simp only [List.drop_succ_cons, List.drop_zero, List.drop_nil]); try refine wpList_nil ?_) | refine wp_region_lit ?_)
      refine v_cond H (by rfl) (fun hb => ?_) (fun hb => ?_)
      · simp at hb
      · clear hb
        repeat (first | refine wp_seq ?_ | refine wp_block ?_ | refine wp_skip ?_ | refine wp_exit ?_ | ((first | refine v_some 5 tab_ok hN H (by rfl) ct_Clash3 ?_ | refine v_more tab_ok hN H (by rfl) (by rfl) ct_Clash3 ?_); clear H; intro a w H; replace H := nf_Clash3 H; (try simp only [List.drop_succ_cons, List.drop_zero, List.drop_nil]); try refine wpList_nil ?_) | refine wp_region_lit ?_)
        repeat (first | refine wp_seq ?_ | refine wp_block ?_)
        refine v_draw 6 [9, 12] [10, 11] (by kernel_rfl) (by kernel_rfl) H (by rfl) (fun gS H => ?_); try replace H := nt_Clash3 H
        repeat (refine v_someT 5 tab_ok hN H (by rfl) ct_Clash3 ?_; clear H; intro a w H; replace H := nt_Clash3 H; simp only [List.drop_succ_cons, List.drop_zero, List.drop_nil])
        refine v_moreT tab_ok hN H (by rfl) ct_Clash3 ?_; clear H; intro a w H; try replace H := nt_Clash3 H
        refine v_skipT (.ba (valH v1)) H (by rfl) (by rfl) (by rfl) ?_; clear H; intro a w H; try replace H := nt_Clash3 H
        repeat (refine v_someT 5 tab_ok hN H (by rfl) ct_Clash3 ?_; clear H; intro a w H; replace H := nt_Clash3 H; simp only [List.drop_succ_cons, List.drop_zero, List.drop_nil])
        refine v_moreT tab_ok hN H (by rfl) ct_Clash3 ?_; clear H; intro a w H; try replace H := nt_Clash3 H
        refine v_skipT (.ba (valH v2)) H (by rfl) (by rfl) (by rfl) ?_; clear H; intro a w H; try replace H := nt_Clash3 H
        repeat (refine v_someT 5 tab_ok hN H (by rfl) ct_Clash3 ?_; clear H; intro a w H; replace H := nt_Clash3 H; simp only [List.drop_succ_cons, List.drop_zero, List.drop_nil])
        refine v_moreT tab_ok hN H (by rfl) ct_Clash3 ?_; clear H; intro a w H; try replace H := nt_Clash3 H
        refine v_drawNil H (fun H => ?_)
        refine v_cond H (by rfl) (fun hb => ?_) (fun hb => ?_)
        · simp at hb
        · clear hb
          replace H := H.keep [5, 6, 7, 8, 9] 5 0 ⟨Nat.le_trans hN (by show _ ≤ 5; decide), Nat.le_trans hR (by show _ ≤ 0; decide)⟩ (by rfl) (by rfl)
          replace H := nf_Clash3 H
          repeat (first | refine wp_seq ?_ | refine wp_block ?_ | refine wp_skip ?_ | refine wp_exit ?_ | ((first | refine v_some 5 tab_ok hN H (by rfl) ct_Clash3 ?_ | refine v_more tab_ok hN H (by rfl) (by rfl) ct_Clash3 ?_); clear H; intro a w H; replace H := nf_Clash3 H; (try simp only [List.drop_succ_cons, List.drop_zero, List.drop_nil]); try refine wpList_nil ?_) | refine wp_region_lit ?_)
          refine v_call [] [] (hpart) H rfl rfl (by rfl) cb cw ca ?_; clear H; intro a w H; replace H := nf_Clash3 H; try refine wpList_nil ?_
          repeat (first | refine wp_seq ?_ | refine wp_block ?_ | refine wp_skip ?_ | refine wp_exit ?_ | ((first | refine v_some 5 tab_ok hN H (by rfl) ct_Clash3 ?_ | refine v_more tab_ok hN H (by rfl) (by rfl) ct_Clash3 ?_); clear H; intro a w H; replace H := nf_Clash3 H; (try simp only [List.drop_succ_cons, List.drop_zero, List.drop_nil]); try refine wpList_nil ?_) | refine wp_region_lit ?_)
          refine wp_ret ?_
          exact v_end [] [] tab_ok ⟨hN, hR⟩ (rs := [.cell 8 54, .tmp 9]) (ress := [_, _]) rfl H (by rfl) (by rfl) cb cw ca rfl
    · simp only [true_and, Bool.true_eq_false, and_self, or_false]
      by_cases hv : v1 = v2
      · rw [if_pos hv]
        simp only [decide_eq_true hv] at H
        repeat (first | refine wp_seq ?_ | refine wp_block ?_ | refine wp_skip ?_ | refine wp_exit ?_ | ((first | refine v_some 5 tab_ok hN H (by rfl) ct_Clash3 ?_ | refine v_more tab_ok hN H (by rfl) (by rfl) ct_Clash3 ?_); clear H; intro a w H; replace H := nf_Clash3 H; (try simp only [List.drop_succ_cons, List.drop_zero, List.drop_nil]); try refine wpList_nil ?_) | refine wp_region_lit ?_)
        refine v_cond H (by rfl) (fun hb => ?_) (fun hb => ?_)
        · repeat (first | refine wp_seq ?_ | refine wp_block ?_ | refine wp_skip ?_ | refine wp_exit ?_ | ((first | refine v_some 5 tab_ok hN H (by rfl) ct_Clash3 ?_ | refine v_more tab_ok hN H (by rfl) (by rfl) ct_Clash3 ?_); clear H; intro a w H; replace H := nf_Clash3 H; (try simp only [List.drop_succ_cons, List.drop_zero, List.drop_nil]); try refine wpList_nil ?_) | refine wp_region_lit ?_)
          refine wp_ret ?_
          exact v_end [] [] tab_ok ⟨hN, hR⟩ (rs := [.cell 8 54, .tmp 9]) (ress := [_, _]) rfl H (by rfl) (by rfl) cb cw (by exact ⟨⟨rfl, rfl, trivial⟩, sub_refl _ _, trivial⟩) rfl
        · simp at hb
      · rw [if_neg hv]
        simp only [decide_eq_false hv] at H
        repeat (first | refine wp_seq ?_ | refine wp_block ?_ | refine wp_skip ?_ | refine wp_exit ?_ | ((first | refine v_some 5 tab_ok hN H (by rfl) ct_Clash3 ?_ | refine v_more tab_ok hN H (by rfl) (by rfl) ct_Clash3 ?_); clear H; intro a w H; replace H := nf_Clash3 H; (try simp only [List.drop_succ_cons, List.drop_zero, List.drop_nil]); try refine wpList_nil ?_) | refine wp_region_lit ?_)
        refine v_cond H (by rfl) (fun hb => ?_) (fun hb => ?_)
        · simp at hb
        · clear hb
          repeat (first | refine wp_seq ?_ | refine wp_block ?_ | refine wp_skip ?_ | refine wp_exit ?_ | ((first | refine v_some 5 tab_ok hN H (by rfl) ct_Clash3 ?_ | refine v_more tab_ok hN H (by rfl) (by rfl) ct_Clash3 ?_); clear H; intro a w H; replace H := nf_Clash3 H; (try simp only [List.drop_succ_cons, List.drop_zero, List.drop_nil]); try refine wpList_nil ?_) | refine wp_region_lit ?_)
          repeat (first | refine wp_seq ?_ | refine wp_block ?_)
          refine v_draw 6 [9, 12] [10, 11] (by kernel_rfl) (by kernel_rfl) H (by rfl) (fun gS H => ?_); try replace H := nt_Clash3 H
          repeat (refine v_someT 5 tab_ok hN H (by rfl) ct_Clash3 ?_; clear H; intro a w H; replace H := nt_Clash3 H; simp only [List.drop_succ_cons, List.drop_zero, List.drop_nil])
          refine v_moreT tab_ok hN H (by rfl) ct_Clash3 ?_; clear H; intro a w H; try replace H := nt_Clash3 H
          refine v_callTG [] [] (hv1) H (by rfl) (by rfl) (by rfl) rfl (by rfl) cb cw ca (by rfl) (by rfl) (by rfl) ?_; clear H; intro a w H; try replace H := nt_Clash3 H
          repeat (refine v_someT 5 tab_ok hN H (by rfl) ct_Clash3 ?_; clear H; intro a w H; replace H := nt_Clash3 H; simp only [List.drop_succ_cons, List.drop_zero, List.drop_nil])
          refine v_moreT tab_ok hN H (by rfl) ct_Clash3 ?_; clear H; intro a w H; try replace H := nt_Clash3 H
          refine v_callTG [] [] (hv2) H (by rfl) (by rfl) (by rfl) rfl (by rfl) cb cw ca (by rfl) (by rfl) (by rfl) ?_; clear H; intro a w H; try replace H := nt_Clash3 H
          repeat (refine v_someT 5 tab_ok hN H (by rfl) ct_Clash3 ?_; clear H; intro a w H; replace H := nt_Clash3 H; simp only [List.drop_succ_cons, List.drop_zero, List.drop_nil])
          refine v_moreT tab_ok hN H (by rfl) ct_Clash3 ?_; clear H; intro a w H; try replace H := nt_Clash3 H
          refine v_drawNil H (fun H => ?_)
          by_cases hvv : valH v1 = valH v2
          · rw [if_pos hvv]
            simp only [decide_eq_true hvv] at H
            refine v_cond H (by rfl) (fun hb => ?_) (fun hb => ?_)
            · clear hb
              generalize 3 :: v1 = x1 at *
              generalize 3 :: v2 = x2 at *
              replace H := H.keep [6, 7, 8, 9] 5 0 ⟨Nat.le_trans hN (by show _ ≤ 5; decide), Nat.le_trans hR (by show _ ≤ 0; decide)⟩ (by rfl) (by rfl)
              replace H := nf_Clash3 H
              repeat (first | refine wp_seq ?_ | refine wp_block ?_)
              refine v_draw 0 [2, 5, 7] [3, 4] (by kernel_rfl) (by kernel_rfl) H (by rfl) (fun gS H => ?_); try replace H := nt_Clash3 H
              repeat (refine v_someT 5 tab_ok hN H (by rfl) ct_Clash3 ?_; clear H; intro a w H; replace H := nt_Clash3 H; simp only [List.drop_succ_cons, List.drop_zero, List.drop_nil])
              refine v_moreT tab_ok hN H (by rfl) ct_Clash3 ?_; clear H; intro a w H; try replace H := nt_Clash3 H
              refine v_callT [] [] (ht1) H (by rfl) (by rfl) rfl rfl (by rfl) cb cw ca ?_; clear H; intro a w H; try replace H := nt_Clash3 H
              repeat (refine v_someT 5 tab_ok hN H (by rfl) ct_Clash3 ?_; clear H; intro a w H; replace H := nt_Clash3 H; simp only [List.drop_succ_cons, List.drop_zero, List.drop_nil])
              refine v_moreT tab_ok hN H (by rfl) ct_Clash3 ?_; clear H; intro a w H; try replace H := nt_Clash3 H
              refine v_callT [] [] (ht2) H (by rfl) (by rfl) rfl rfl (by rfl) cb cw ca ?_; clear H; intro a w H; try replace H := nt_Clash3 H
              repeat (refine v_someT 5 tab_ok hN H (by rfl) ct_Clash3 ?_; clear H; intro a w H; replace H := nt_Clash3 H; simp only [List.drop_succ_cons, List.drop_zero, List.drop_nil])
              refine v_moreT tab_ok hN H (by rfl) ct_Clash3 ?_; clear H; intro a w H; try replace H := nt_Clash3 H
              refine v_drawNil H (fun H => ?_)
              refine wp_ret ?_
              exact v_end [] [] tab_ok ⟨hN, hR⟩ (rs := [.cell 8 54, .tmp 9]) (ress := [_, _]) rfl H (by rfl) (by rfl) cb cw ca rfl
            · simp at hb
          · rw [if_neg hvv]
            simp only [decide_eq_false hvv] at H
            refine v_cond H (by rfl) (fun hb => ?_) (fun hb => ?_)
            · simp at hb
            · clear hb
              replace H := H.keep [5, 6, 7, 8, 9] 5 0 ⟨Nat.le_trans hN (by show _ ≤ 5; decide), Nat.le_trans hR (by show _ ≤ 0; decide)⟩ (by rfl) (by rfl)
              replace H := nf_Clash3 H
              repeat (first | refine wp_seq ?_ | refine wp_block ?_ | refine wp_skip ?_ | refine wp_exit ?_ | ((first | refine v_some 5 tab_ok hN H (by rfl) ct_Clash3 ?_ | refine v_more tab_ok hN H (by rfl) (by rfl) ct_Clash3 ?_); clear H; intro a w H; replace H := nf_Clash3 H; (try simp only [List.drop_succ_cons, List.drop_zero, List.drop_nil]); try refine wpList_nil ?_) | refine wp_region_lit ?_)
              refine v_call [] [] (hpart) H rfl rfl (by rfl) cb cw ca ?_; clear H; intro a w H; replace H := nf_Clash3 H; try refine wpList_nil ?_
              repeat (first | refine wp_seq ?_ | refine wp_block ?_ | refine wp_skip ?_ | refine wp_exit ?_ | ((first | refine v_some 5 tab_ok hN H (by rfl) ct_Clash3 ?_ | refine v_more tab_ok hN H (by rfl) (by rfl) ct_Clash3 ?_); clear H; intro a w H; replace H := nf_Clash3 H; (try simp only [List.drop_succ_cons, List.drop_zero, List.drop_nil]); try refine wpList_nil ?_) | refine wp_region_lit ?_)
              refine wp_ret ?_
              exact v_end [] [] tab_ok ⟨hN, hR⟩ (rs := [.cell 8 54, .tmp 9]) (ress := [_, _]) rfl H (by rfl) (by rfl) cb cw ca rfl
end Go.Proofs.Ytlagngkafllbiaa
/- Proofs as bytes: there and back, in plain Lean. -/
namespace Go.Proofs.Ytlagngkafllbiaa
open Go Go.RowKit
theorem num_two (n : Nat) (hn : n < 65536) : num 0 [UInt8.ofNat (n / 256), UInt8.ofNat n] = n := by
  simp only [num, UInt8.toNat_ofNat']; omega
theorem marks_bits (s : List (List UInt8)) : marksOf (bitsB s.length (hidesB s)) s.length = s.map (· != E0) := by
  apply List.ext_getElem
  · rw [pmarks_len, List.length_map]
  · intro k h1 h2
    rw [pmarks_len] at h1
    simp only [marksOf, List.getElem_map, List.getElem_range]
    rw [bitsB_bit _ _ _ h1, hidesB, List.getElem?_eq_getElem h1]
theorem runS_back : ∀ (s : List (List UInt8)) (r : List UInt8), (∀ h ∈ s, h.length = 32) → runS (s.map (· != E0)) (hashes s ++ r) = (s, r, false)
  | [], r, _ => rfl
  | h :: s, r, hs => by
    have h1 := hs h List.mem_cons_self
    have ih := runS_back s r fun x hx => hs x (List.mem_cons_of_mem _ hx)
    rw [List.map_cons]
    by_cases he : h = E0
    · have h2 : (h != E0) = false := by simp [he]
      have h3 : hashes (h :: s) = hashes s := by unfold hashes; rw [List.filter_cons_of_neg (p := (· != E0)) (by rw [h2]; decide)]
      rw [h2, h3, runS, if_neg (fun e => by cases e.1)]
      simp only [Bool.false_eq_true, if_false]
      rw [ih, he]
    · have h2 : (h != E0) = true := by simpa using he
      have h3 : hashes (h :: s) = h ++ hashes s := by unfold hashes; rw [List.filter_cons_of_pos (p := (· != E0)) h2, List.flatten_cons]
      rw [h2, h3, runS, if_neg (fun e => by have := e.2; simp only [List.length_append] at this; omega)]
      simp only [if_true]
      have e1 : ((h ++ hashes s) ++ r).take 32 = h := by rw [List.append_assoc, ← h1, List.take_left]
      have e2 : ((h ++ hashes s) ++ r).drop 32 = hashes s ++ r := by rw [List.append_assoc, ← h1, List.drop_left]
      rw [e1, e2, ih]
def Pf.pre (p : Pf) (r : List UInt8) : List UInt8 := [UInt8.ofNat (p.s.length / 256), UInt8.ofNat p.s.length] ++ (p.bits ++ (hashes p.s ++ r))
theorem Pf.text_pre (p : Pf) : p.text = p.pre p.e.text := rfl
theorem rdQ_pre (p : Pf) (hw : p.wf) (hn : p.s.length ≤ 256) (r : List UInt8) : rdQ (p.pre r) = (⟨p.s, dec r⟩, decide (decOk r)) := by
  have hbl : p.bits.length = (p.s.length + 7) / 8 := bitsB_len _ _
  have e1 : (p.pre r).take 2 = [UInt8.ofNat (p.s.length / 256), UInt8.ofNat p.s.length] := rfl
  have e2 : (p.pre r).drop 2 = p.bits ++ (hashes p.s ++ r) := rfl
  have e3 : ¬ (p.pre r).length < 2 := by unfold Pf.pre; simp only [List.length_append, List.length_cons, List.length_nil]; omega
  have e4 : (p.bits ++ (hashes p.s ++ r)).take ((p.s.length + 7) / 8) = p.bits := by rw [← hbl, List.take_left]
  have e5 : (p.bits ++ (hashes p.s ++ r)).drop ((p.s.length + 7) / 8) = hashes p.s ++ r := by rw [← hbl, List.drop_left]
  rw [rdQ, if_neg e3, e1, e2, num_two _ (by omega), if_neg (by omega), if_neg (by rw [List.length_append]; omega), e4, e5]
  have e6 : marksOf p.bits p.s.length = p.s.map (· != E0) := marks_bits p.s
  rw [e6, runS_back _ _ hw.s]
  rfl
theorem Pf.chk_ok {p : Pf} (h : p.chk = 0) : p.s.length ≤ 256 ∧ p.e.ok ∧ p.e.k ≠ 2 := by
  unfold Pf.chk at h
  split at h
  · cases h
  · split at h
    · rename_i h1 h2; exact ⟨by omega, h2⟩
    · cases h
theorem ntext_len {n : Nd} (hw : n.wf) (h2 : n.k ≠ 2) : n.text.length = 1 ∨ n.text.length = 65 := by
  obtain ⟨h1, h3, _, _⟩ := hw
  unfold Nd.text
  split
  · right; simp; omega
  · left; first | rfl | (rw [if_neg h2]; rfl)
theorem pback (p : Pf) (hw : p.wf) (h : p.chk = 0) : pOk p.text ∧ pDec p.text = p := by
  obtain ⟨h1, h2, h3⟩ := p.chk_ok h
  obtain ⟨d1, d2⟩ := text_dec hw.e h2
  have e : rdQ p.text = (p, true) := by rw [p.text_pre, rdQ_pre p hw h1, d2, decide_eq_true d1]
  have hp : pOk p.text := by unfold pOk; rw [e]; exact ⟨rfl, h, rfl⟩
  exact ⟨hp, by rw [pDec, if_pos hp, e]⟩
theorem plen (p : Pf) (hw : p.wf) (h : p.chk = 0) : 3 ≤ p.text.length ∧ p.text.length ≤ 8291 := by
  obtain ⟨h1, h2, h3⟩ := p.chk_ok h
  have hl := ntext_len hw.e h3
  have hbl : p.bits.length = (p.s.length + 7) / 8 := bitsB_len _ _
  have hh := hashes_len p.s hw.s
  simp only [Pf.text, List.length_append, List.length_cons, List.length_nil]
  omega
end Go.Proofs.Ytlagngkafllbiaa
/- The statement ExtractFinds, in values. -/
namespace Go.Proofs.Ytlagngkafllbiaa
open Go Go.RowKit
theorem txs000 (key : List UInt8) : pOk [0, 0, 0] ∧ txs key [0, 0, 0] = [[0]] := by
  have h := pback .zero pzero_wf rfl
  have e : Pf.zero.text = [0, 0, 0] := rfl
  rw [e] at h
  refine ⟨h.1, ?_⟩
  rw [txs, if_pos h.1, h.2]; rfl
theorem clash_v (root key : List UInt8) (one two : Cl) (hr : root.length = 32) (hk : key.length = 32) (h1 : one.v.length ≤ 34359730000) (h2 : one.b.length ≤ 34359730000) (h3 : two.v.length ≤ 34359730000) (h4 : two.b.length ≤ 34359730000) :
    VC Try.prog 22 [.ba root, .ba key, one.av, two.av] [] (.tup [.st [.bs (clP root key one two).1 none, .bs (clP root key one two).2.1 none], .v (.bool (clP root key one two).2.2)]) := by
  by_cases h : vAcc root key one = true ∧ vAcc root key two = true
  · exact clash_yes root key one two hr hk h1 h2 h3 h4 h.1 h.2
  · have hc := clash_no root key one two hr hk h1 h2 h3 h4 h
    rw [clP, if_pos h]; exact hc
theorem c11 : ((1 : Nat) : Int) = 1 := rfl
end Go.Proofs.Ytlagngkafllbiaa
/- Bytes that were lent are as they were. -/
namespace Go.Proofs.Ytlagngkafllbiaa
open Go Go.RowKit
/-- The state made plain. -/
theorem nf_Lent2 {P : Program} {w0 w : World} {N : Gh} {nt : Nat} {st s2 : St} {a : Act} (H : Rel P w0 N nt st a w) (h : st = s2 := by (try simp only [pk, elemB, St.put, St.ev, St.tmp, St.keep, find, dropT, slots, AV.put, AV.loc, fitI, convI, IntKind.signed, IntKind.bits, strip, St.lose, mergeL, setAll, nth, renB, ren, idx?, sub, allP, low, bnd, Int.reduceEq, Nat.reduceAdd, Nat.reduceLT, reduceIte, reduceCtorEq, Nat.reduceEqDiff, Nat.reduceLeDiff, Nat.reduceBEq, Int.reducePow, Int.reduceToNat, ti24_t, ti24_z, ti5_t, ti5_z]); rfl) : Rel P w0 N nt s2 a w := h ▸ H
theorem nt_Lent2 {P : Program} {w0 w : World} {N gS : Gh} {nt : Nat} {q q2 st s2 : St} {a : Act} (H : RelT P w0 N nt gS q st a w) (h1 : q = q2 := by (try simp only [pk, elemB, St.put, St.ev, St.tmp, St.keep, find, dropT, slots, AV.put, AV.loc, fitI, convI, IntKind.signed, IntKind.bits, strip, St.lose, mergeL, setAll, nth, renB, ren, idx?, sub, allP, low, bnd, Int.reduceEq, Nat.reduceAdd, Nat.reduceLT, reduceIte, reduceCtorEq, Nat.reduceEqDiff, Nat.reduceLeDiff, Nat.reduceBEq, Int.reducePow, Int.reduceToNat, ti24_t, ti24_z, ti5_t, ti5_z]); rfl) (h : st = s2 := by (try simp only [pk, elemB, St.put, St.ev, St.tmp, St.keep, find, dropT, slots, AV.put, AV.loc, fitI, convI, IntKind.signed, IntKind.bits, strip, St.lose, mergeL, setAll, nth, renB, ren, idx?, sub, allP, low, bnd, Int.reduceEq, Nat.reduceAdd, Nat.reduceLT, reduceIte, reduceCtorEq, Nat.reduceEqDiff, Nat.reduceLeDiff, Nat.reduceBEq, Int.reducePow, Int.reduceToNat, ti24_t, ti24_z, ti5_t, ti5_z]); rfl) : RelT P w0 N nt gS q2 s2 a w := h1 ▸ h ▸ H
theorem ct_Lent2 {c : Prop} (h : c := by ((try simp only [pk, elemB, St.put, St.ev, St.tmp, St.keep, find, dropT, slots, AV.put, AV.loc, fitI, convI, IntKind.signed, IntKind.bits, strip, St.lose, mergeL, setAll, nth, renB, ren, idx?, sub, allP, low, bnd, Int.reduceEq, Nat.reduceAdd, Nat.reduceLT, reduceIte, reduceCtorEq, Nat.reduceEqDiff, Nat.reduceLeDiff, Nat.reduceBEq, Int.reducePow, Int.reduceToNat, ti24_t, ti24_z, ti5_t, ti5_z, ti24, ti5, fit, gcond, ilo, ihi]); first | done | exact cd | exact cd2 | skip)) : c := h
set_option maxRecDepth 20000 in
theorem kept_v (l : List UInt8) (hl : l.length ≤ 34359738000) : VC Try.prog 21 [.bc (lentOf l) l.length none, .bs l none] [] (.v (.bool true)) := by
  have hll := lent_len l
  have e1 := lent_v l hl
  have h5 : ((l.length : Int) + 5).toNat = l.length + 5 := by omega
  have hT : (lentOf l).take (l.length + 5) = lentOf l := List.take_of_length_le (by omega)
  refine v_enter Try.func21 rfl (by kernel_rfl) (by show 2 ≤ 25; decide) ?_
  intro N w0 a w hN hR H
  repeat (first | refine wp_seq ?_ | refine wp_block ?_ | refine wp_skip ?_ | refine wp_exit ?_ | ((first | refine v_some 4 tab_ok hN H (by rfl) ct_Lent2 ?_ | refine v_more tab_ok hN H (by rfl) (by rfl) ct_Lent2 ?_); clear H; intro a w H; replace H := nf_Lent2 H; (try simp only [List.drop_succ_cons, List.drop_zero, List.drop_nil]); try refine wpList_nil ?_) | refine wp_region_lit ?_)
  repeat (first | refine wp_seq ?_ | refine wp_block ?_)
  refine v_draw 0 [6] [0, 1, 2, 3, 4, 7, 8, 9] (by kernel_rfl) (by kernel_rfl) H (by rfl) (fun gS H => ?_); try replace H := nt_Lent2 H; first | (simp only [h5, hT, strOf_list, beq_self_eq_true] at H; replace H := nt_Lent2 H) | skip
  repeat (refine v_someT 4 tab_ok hN H (by rfl) (by (try simp only [h5, hT, strOf_list, beq_self_eq_true]); first | done | exact ct_Lent2) ?_; clear H; intro a w H; replace H := nt_Lent2 H; first | (simp only [h5, hT, strOf_list, beq_self_eq_true] at H; replace H := nt_Lent2 H) | skip; simp only [List.drop_succ_cons, List.drop_zero, List.drop_nil])
  refine v_moreT tab_ok hN H (by rfl) (by (try simp only [h5, hT, strOf_list, beq_self_eq_true]); first | done | exact ct_Lent2) ?_; clear H; intro a w H; try replace H := nt_Lent2 H; first | (simp only [h5, hT, strOf_list, beq_self_eq_true] at H; replace H := nt_Lent2 H) | skip
  refine v_callT [] [] (e1) H (by rfl) (by rfl) rfl rfl (by rfl) (by simp [pickB, bxs, ren, idx?, sub_refl, sub, allP, h5, hT, strOf_list, beq_self_eq_true] <;> omega) (by first | rfl | (simp [h5, hT, strOf_list, beq_self_eq_true] <;> omega)) (by first | exact trivial | exact ⟨sub_refl _ _, trivial⟩ | exact ⟨sub_refl _ _, sub_refl _ _, trivial⟩ | exact ⟨sub_refl _ _, sub_refl _ _, sub_refl _ _, trivial⟩ | exact ⟨⟨rfl, sub_refl _ _, trivial⟩, sub_refl _ _, trivial⟩ | (simp [cargs, cargsG, St.ev, St.tmp, find, ren, idx?, sub_refl, sub, allP, resv, resC, bss, h5, hT, strOf_list, beq_self_eq_true] <;> omega)) ?_; clear H; intro a w H; try replace H := nt_Lent2 H; first | (simp only [h5, hT, strOf_list, beq_self_eq_true] at H; replace H := nt_Lent2 H) | skip
  repeat (refine v_someT 4 tab_ok hN H (by rfl) (by (try simp only [h5, hT, strOf_list, beq_self_eq_true]); first | done | exact ct_Lent2) ?_; clear H; intro a w H; replace H := nt_Lent2 H; first | (simp only [h5, hT, strOf_list, beq_self_eq_true] at H; replace H := nt_Lent2 H) | skip; simp only [List.drop_succ_cons, List.drop_zero, List.drop_nil])
  refine v_moreT tab_ok hN H (by rfl) (by (try simp only [h5, hT, strOf_list, beq_self_eq_true]); first | done | exact ct_Lent2) ?_; clear H; intro a w H; try replace H := nt_Lent2 H; first | (simp only [h5, hT, strOf_list, beq_self_eq_true] at H; replace H := nt_Lent2 H) | skip
  refine v_drawNil H (fun H => ?_)
  repeat (first | refine wp_seq ?_ | refine wp_block ?_ | refine wp_skip ?_ | refine wp_exit ?_ | ((first | refine v_some 4 tab_ok hN H (by rfl) (by (try simp only [h5, hT, strOf_list, beq_self_eq_true]); first | done | exact ct_Lent2) ?_ | refine v_more tab_ok hN H (by rfl) (by rfl) (by (try simp only [h5, hT, strOf_list, beq_self_eq_true]); first | done | exact ct_Lent2) ?_); clear H; intro a w H; replace H := nf_Lent2 H; first | (simp only [h5, hT, strOf_list, beq_self_eq_true] at H; replace H := nf_Lent2 H) | skip; (try simp only [List.drop_succ_cons, List.drop_zero, List.drop_nil]); try refine wpList_nil ?_) | refine wp_region_lit ?_)
  refine wp_ret ?_
  exact v_end [] [] tab_ok ⟨hN, hR⟩ (rs := [.tmp 4]) (ress := [_]) rfl H (by rfl) (by rfl) (by simp [pickB, bxs, ren, idx?, sub_refl, sub, allP, h5, hT, strOf_list, beq_self_eq_true] <;> omega) (by first | rfl | (simp [h5, hT, strOf_list, beq_self_eq_true] <;> omega)) (by first | exact trivial | exact ⟨sub_refl _ _, trivial⟩ | exact ⟨sub_refl _ _, sub_refl _ _, trivial⟩ | exact ⟨sub_refl _ _, sub_refl _ _, sub_refl _ _, trivial⟩ | exact ⟨⟨rfl, sub_refl _ _, trivial⟩, sub_refl _ _, trivial⟩ | (simp [cargs, cargsG, St.ev, St.tmp, find, ren, idx?, sub_refl, sub, allP, resv, resC, bss, h5, hT, strOf_list, beq_self_eq_true] <;> omega)) rfl
end Go.Proofs.Ytlagngkafllbiaa
