/- The texts of a proof, as the document tells them: ref19.Texts, Part. -/
import Derived.Test.YtigmpdhnhkdeiaaClash
import Derived.Test.YtigmpdhnhkdeiaaLess
set_option linter.unusedSimpArgs false
set_option linter.unusedVariables false
namespace Go.Proofs.Ytigmpdhnhkdeiaa
open Go Go.RowKit
theorem take_snoc_getD (l : List (List UInt8)) (k : Nat) (hk : k < l.length) : l.take (k + 1) = l.take k ++ [l.getD k []] := by
  rw [List.take_succ_eq_append_getElem hk, List.getElem_eq_getD []]
theorem tx_last (key e : List UInt8) (s : List (List UInt8)) : (tx key 0 s e).take s.length ++ [e] = tx key 0 s e := by
  have h := tx_get key e s.length 0 s (Nat.le_refl _)
  rw [List.drop_length] at h
  have h2 := take_snoc_getD (tx key 0 s e) s.length (by rw [tx_len]; omega)
  rw [h] at h2
  have h3 : (tx key 0 s e).take (s.length + 1) = tx key 0 s e := List.take_of_length_le (by rw [tx_len]; omega)
  rw [h3] at h2
  exact h2.symm
theorem tx_elem (key e : List UInt8) (s : List (List UInt8)) (k : Nat) (hk : k < s.length) : (tx key 0 s e).getD k [] = if bitN key k then 2 :: (s.getD k [] ++ upL key (k + 1) (s.drop (k + 1)) (sum e)) else 2 :: (upL key (k + 1) (s.drop (k + 1)) (sum e) ++ s.getD k []) := by
  rw [tx_get key e k 0 s (by omega), Nat.zero_add, tx_drop key e s k hk, up_tx, List.headD_cons, textD]; split <;> rfl
set_option maxRecDepth 20000 in
set_option maxHeartbeats 16000000 in
theorem textsR_ok (key l : List UInt8) (hk32 : key.length = 32) (hl : l.length ≤ 34359730000) (h : pOk l) : VC Try.prog 46 [.ba key, .bs l none] [] (.tup [.sl .sc (bss (txs key l)) none, errv 0]) := by
  have hd := decPR_v l hl
  rw [if_pos h] at hd
  rw [txs, if_pos h]
  have hw := pDec_wf l
  obtain ⟨hle, hok, hk2⟩ := chk_all (pDec_chk h)
  generalize pDec l = p at *
  obtain ⟨s, n⟩ := p
  dsimp only at hle hok hk2 ⊢
  have hs := hw.s
  have hsl := bas_len s
  have hen := encodeR_ok n hw.e hok
  have hdg := digestR_ok n hw.e hok
  obtain ⟨h1, h2, h3, h4⟩ := id hw.e
  dsimp only at h1 h2 h3 h4 hs
  have htl := text_len hw.e
  dsimp only at htl
  have hlast := tx_last key n.text s
  have helem := tx_elem key n.text s
  have htxl := tx_len key n.text 0 s
  generalize tx key 0 s n.text = tt at *
  obtain ⟨h0, hh0⟩ : ∃ h0, h0 = sum n.text := ⟨_, rfl⟩
  have h0l : h0.length = 32 := by rw [hh0]; exact sum_length _
  rw [← hh0] at hdg helem
  clear hh0
  have hz2 := z32_len
  clear hw h
  refine mE Try.func46 ?_; intro N w0 a w hN hR H
  simp only [Pf.av, Nd.av] at H hd hen hdg
  refine mW ?_; clear H; intro a w H
  refine mCall [] [] (hd) H ?_; clear H; intro a w H; try refine wpList_nil ?_
  have hX := @hsl
  refine mW ?_; clear H; intro a w H
  refine mC H (fun hb => ?_) (fun hb => ?_)
  · simp at hb
  · clear hb
    have H := v_ref H 6 1 (Nat.le_trans hN (by decide)) rfl rfl rfl
    simp only [nilT, strip, List.map_cons, List.map_nil, reduceIte, Nat.reduceEqDiff] at H
    have H := v_ref H 2 0 (Nat.le_trans hN (by decide)) rfl rfl rfl
    simp only [nilT, strip, List.map_cons, List.map_nil, reduceIte, Nat.reduceEqDiff] at H
    refine mW ?_; clear H; intro a w H
    have H := v_nilE tab_ok H 9 26 (j := ti26) .sc rfl (by decide) (by rfl)
    simp only [nilT, reduceIte, Nat.reduceEqDiff] at H
    replace H := mK [2, 6, 8, 9, 10] 0 1 hN hR H
    have H := v_fz H
    simp only [List.filter_cons, List.filter_nil, List.length_cons, List.length_nil, Nat.reduceAdd, Nat.reduceLT, Nat.not_lt_zero, Nat.zero_add, Nat.lt_irrefl, decide_false, Bool.false_eq_true, reduceIte] at H
    refine v_loop (fun k : Nat => ⟨[(10, none, .v (.int .i64 (k : Int))), (9, none, .sl .sc (bss (tt.take k)) (some 0)), (8, none, .v (.int .i64 (s.length : Int))), (6, none, .ref ti68.ty (.st [.sl (.ba 32) (bas s) none, .st [.v (B8 n.k), .ba n.key, .ba n.v, .ba n.l, .ba n.r]])), (2, none, .ref (.ba 32) (.ba key))], [], [], [(26, (tt.take k).length)]⟩)
      (fun k => k ≤ s.length) (fun k => s.length - k) 0 (Nat.zero_le _) (H.to 0 1 ⟨hN, Nat.le_trans hR (by decide)⟩ ⟨rfl, rfl, rfl, rfl, rfl, trivial⟩ rfl rfl rfl rfl rfl) ?_
    clear H
    intro k a w hk H
    have htl1 : (tt.take k).length = k := by rw [List.length_take]; omega
    have hbl1 : (bss (tt.take k)).length = k := by simp only [bss, List.length_map]; exact htl1
    refine mW ?_; clear H; intro a w H
    refine mC H (fun hb => ?_) (fun hb => ?_)
    · have hlt : k < s.length := by rw [decide_eq_true_eq] at hb; omega
      clear hb
      have he := helem k hlt
      have hsn := take_snoc_getD tt k (by omega)
      have hbit := bitR_v key hk32 (k : Int)
      have hpb : decide (pbit key (k : Int) = 0) = !bitN key k := by
        rw [pbit, if_pos (by omega), Int.toNat_natCast]; cases bitN key k <;> rfl
      have hg := bas_get s k hlt
      rw [List.getElem_eq_getD []] at hg
      have hx : (s.getD k []).length = 32 := by rw [← List.getElem_eq_getD (h := hlt) []]; exact hs _ (List.getElem_mem _)
      refine mW ?_; clear H; intro a w H
      refine mCall [] [] (hdg) H ?_; clear H; intro a w H; try refine wpList_nil ?_
      refine mW ?_; clear H; intro a w H
      have hulk := upL_len key h0 h0l (k + 1) (s.drop (k + 1))
      have hin1 := innerR_v (upL key (k + 1) (s.drop (k + 1)) h0) (s.getD k []) hulk hx
      have hin2 := innerR_v (s.getD k []) (upL key (k + 1) (s.drop (k + 1)) h0) hx hulk
      refine v_loop (fun j : Nat => ⟨[(13, none, .v (.int .i64 ((j : Int) - 1))), (11, none, .ptr 0 []), (10, none, .v (.int .i64 (k : Int))), (9, none, .sl .sc (bss (tt.take k)) (some 0)), (8, none, .v (.int .i64 (s.length : Int))), (6, none, .ref ti68.ty (.st [.sl (.ba 32) (bas s) none, .st [.v (B8 n.k), .ba n.key, .ba n.v, .ba n.l, .ba n.r]])), (2, none, .ref (.ba 32) (.ba key))], [(.ba 32, .ba (upL key j (s.drop j) h0))], [], [(26, (tt.take k).length)]⟩)
        (fun j => j ≤ s.length ∧ k + 1 ≤ j) (fun j => j) s.length ⟨Nat.le_refl _, hlt⟩ (H.to 1 1 ⟨Nat.le_trans hN (by decide), Nat.le_trans hR (by decide)⟩ ⟨rfl, rfl, rfl, rfl, rfl, rfl, rfl, trivial⟩ (by rw [List.drop_length]; rfl) rfl rfl rfl rfl) ?_
      clear H
      rintro j a w ⟨hj1, hj2⟩ H
      have hul := upL_len key h0 h0l j (s.drop j)
      refine mW ?_; clear H; intro a w H
      refine mC H (fun hb => ?_) (fun hb => ?_)
      · obtain ⟨i, rfl⟩ : ∃ i, j = i + 1 := ⟨j - 1, by omega⟩
        have hki : k < i := by rw [decide_eq_true_eq] at hb; omega
        clear hb
        have e1 : (((i + 1 : Nat) : Int) - 1) = (i : Int) := by omega
        rw [e1] at H
        have hbi := bitR_v key hk32 (i : Int)
        have hpi : decide (pbit key (i : Int) = 0) = !bitN key i := by
          rw [pbit, if_pos (by omega), Int.toNat_natCast]; cases bitN key i <;> rfl
        have hi : i < s.length := by omega
        have hgi := bas_get s i hi
        rw [List.getElem_eq_getD []] at hgi
        have hup := upL_drop key s h0 i hi
        have hxi : (s.getD i []).length = 32 := by rw [← List.getElem_eq_getD (h := hi) []]; exact hs _ (List.getElem_mem _)
        generalize s.getD i [] = y at *
        generalize upL key (i + 1) (s.drop (i + 1)) h0 = u at *
        have hm1 := innerHR_v u y hul hxi
        have hm2 := innerHR_v y u hxi hul
        have hml1 := innerH_len u y
        have hml2 := innerH_len y u
        refine mW ?_; clear H; intro a w H
        refine mCall [] [] (hbi) H ?_; clear H; intro a w H; try refine wpList_nil ?_
        refine mW ?_; clear H; intro a w H
        simp only [hpi] at H
        refine mC H (fun hb => ?_) (fun hb => ?_)
        · have hbf : bitN key i = false := by cases h : bitN key i; rfl; rw [h] at hb; simp at hb
          have hst : stepH key i y u = innerH u y := by unfold stepH; rw [hbf]; rfl
          rw [hst] at hup
          clear hb
          refine mW ?_; clear H; intro a w H
          clear hX; have hX := And.intro @hsl (@hgi)
          have hY := And.intro @hsl (@hxi)
          refine mS ?_; refine mD 0 [6, 7] [] H ?_; clear H; intro gS H
          refine mTN 3 hN H ?_; clear H; intro a w H; simp only [List.drop_succ_cons, List.drop_zero, List.drop_nil]
          refine mTN 2 hN H ?_; clear H; intro a w H; simp only [List.drop_succ_cons, List.drop_zero, List.drop_nil]
          refine mTN 1 hN H ?_; clear H; intro a w H; simp only [List.drop_succ_cons, List.drop_zero, List.drop_nil]
          refine mCallT [] [] (hm1) H ?_; clear H; intro a w H
          refine mT ?_; clear H; intro a w H
          refine v_drawNil H ?_; clear H; intro H
          clear hX; have hX := @hsl
          clear hY
          refine mW ?_; clear H; intro a w H
          exact ⟨i, by omega, by omega, H.to 1 1 ⟨Nat.le_trans hN (by decide), Nat.le_trans hR (by decide)⟩ ⟨rfl, rfl, rfl, rfl, rfl, rfl, rfl, trivial⟩ (by dsimp only; rw [hup]; rfl) rfl rfl rfl rfl⟩
        · have hbt : bitN key i = true := by cases h : bitN key i; (rw [h] at hb; simp at hb); rfl
          have hst : stepH key i y u = innerH y u := by unfold stepH; rw [hbt]; rfl
          rw [hst] at hup
          clear hb
          refine mW ?_; clear H; intro a w H
          clear hX; have hX := And.intro @hsl (@hgi)
          have hY := And.intro @hsl (@hxi)
          refine mS ?_; refine mD 0 [6, 7] [] H ?_; clear H; intro gS H
          refine mTN 2 hN H ?_; clear H; intro a w H; simp only [List.drop_succ_cons, List.drop_zero, List.drop_nil]
          refine mTN 2 hN H ?_; clear H; intro a w H; simp only [List.drop_succ_cons, List.drop_zero, List.drop_nil]
          refine mTN 2 hN H ?_; clear H; intro a w H; simp only [List.drop_succ_cons, List.drop_zero, List.drop_nil]
          refine mCallT [] [] (hm2) H ?_; clear H; intro a w H
          refine mT ?_; clear H; intro a w H
          refine v_drawNil H ?_; clear H; intro H
          clear hX; have hX := @hsl
          clear hY
          refine mW ?_; clear H; intro a w H
          exact ⟨i, by omega, by omega, H.to 1 1 ⟨Nat.le_trans hN (by decide), Nat.le_trans hR (by decide)⟩ ⟨rfl, rfl, rfl, rfl, rfl, rfl, rfl, trivial⟩ (by dsimp only; rw [hup]; rfl) rfl rfl rfl rfl⟩
      · obtain rfl : j = k + 1 := by rw [decide_eq_false_iff_not] at hb; omega
        clear hb
        generalize upL key (k + 1) (s.drop (k + 1)) h0 = u at *
        generalize s.getD k [] = x at *
        refine mW ?_; clear H; intro a w H
        refine mCall [] [] (hbit) H ?_; clear H; intro a w H; try refine wpList_nil ?_
        refine mW ?_; clear H; intro a w H
        simp only [hpb] at H
        refine mC H (fun hb => ?_) (fun hb => ?_)
        · have hbf : bitN key k = false := by cases h : bitN key k; rfl; rw [h] at hb; simp at hb
          rw [hbf] at he
          simp only [Bool.false_eq_true, reduceIte] at he
          generalize 2 :: (u ++ x) = t at *
          clear hb
          have H := v_ref H 11 0 (Nat.le_trans hN (by decide)) rfl rfl rfl
          simp only [nilT, strip, reduceIte, Nat.reduceEqDiff] at H
          replace H := mK [2, 6, 8, 9, 10, 11] 0 1 hN hR H
          have H := v_fz H
          simp only [List.filter_cons, List.filter_nil, List.length_cons, List.length_nil, Nat.reduceAdd, Nat.reduceLT, Nat.not_lt_zero, Nat.zero_add, Nat.lt_irrefl, decide_false, Bool.false_eq_true, reduceIte] at H
          clear hX; have hX := And.intro @hsl (And.intro @hg (And.intro @hbl1 (@htl1)))
          have hY := And.intro @hsl (And.intro @hx (@hulk))
          refine mS ?_; refine mD 0 [7, 8, 9] [0] H ?_; clear H; intro gS H
          refine mTN 3 hN H ?_; clear H; intro a w H; simp only [List.drop_succ_cons, List.drop_zero, List.drop_nil]
          refine mTN 2 hN H ?_; clear H; intro a w H; simp only [List.drop_succ_cons, List.drop_zero, List.drop_nil]
          refine mTN 1 hN H ?_; clear H; intro a w H; simp only [List.drop_succ_cons, List.drop_zero, List.drop_nil]
          refine mTN 1 hN H ?_; clear H; intro a w H; simp only [List.drop_succ_cons, List.drop_zero, List.drop_nil]
          refine mCallT [] [] (hin1) H ?_; clear H; intro a w H
          clear hX; have hX := And.intro @hsl (And.intro @hg (@hbl1))
          refine mT ?_; clear H; intro a w H
          refine v_drawNil H ?_; clear H; intro H
          clear hX; have hX := @hsl
          clear hY
          refine mW ?_; clear H; intro a w H
          exact ⟨k + 1, hlt, by omega, H.to 0 1 ⟨hN, Nat.le_trans hR (by decide)⟩ ⟨rfl, by dsimp only; rw [hsn, he, bss_snoc]; rfl, rfl, rfl, rfl, trivial⟩ rfl (by dsimp only; rw [hsn, he, List.length_append, htl1]; rfl) rfl rfl rfl⟩
        · have hbt : bitN key k = true := by cases h : bitN key k; (rw [h] at hb; simp at hb); rfl
          rw [hbt] at he
          simp only [reduceIte] at he
          generalize 2 :: (x ++ u) = t at *
          clear hb
          have H := v_ref H 11 0 (Nat.le_trans hN (by decide)) rfl rfl rfl
          simp only [nilT, strip, reduceIte, Nat.reduceEqDiff] at H
          replace H := mK [2, 6, 8, 9, 10, 11] 0 1 hN hR H
          have H := v_fz H
          simp only [List.filter_cons, List.filter_nil, List.length_cons, List.length_nil, Nat.reduceAdd, Nat.reduceLT, Nat.not_lt_zero, Nat.zero_add, Nat.lt_irrefl, decide_false, Bool.false_eq_true, reduceIte] at H
          clear hX; have hX := And.intro @hsl (And.intro @hg (And.intro @hbl1 (@htl1)))
          have hY := And.intro @hsl (And.intro @hx (@hulk))
          refine mS ?_; refine mD 0 [7, 8, 9] [0] H ?_; clear H; intro gS H
          refine mTN 3 hN H ?_; clear H; intro a w H; simp only [List.drop_succ_cons, List.drop_zero, List.drop_nil]
          refine mTN 2 hN H ?_; clear H; intro a w H; simp only [List.drop_succ_cons, List.drop_zero, List.drop_nil]
          refine mTN 2 hN H ?_; clear H; intro a w H; simp only [List.drop_succ_cons, List.drop_zero, List.drop_nil]
          refine mCallT [] [] (hin2) H ?_; clear H; intro a w H
          clear hX; have hX := And.intro @hsl (And.intro @hg (@hbl1))
          refine mT ?_; clear H; intro a w H
          refine v_drawNil H ?_; clear H; intro H
          clear hX; have hX := @hsl
          clear hY
          refine mW ?_; clear H; intro a w H
          exact ⟨k + 1, hlt, by omega, H.to 0 1 ⟨hN, Nat.le_trans hR (by decide)⟩ ⟨rfl, by dsimp only; rw [hsn, he, bss_snoc]; rfl, rfl, rfl, rfl, trivial⟩ rfl (by dsimp only; rw [hsn, he, List.length_append, htl1]; rfl) rfl rfl rfl⟩
    · obtain rfl : k = s.length := by rw [decide_eq_false_iff_not] at hb; omega
      clear hb
      refine mW ?_; clear H; intro a w H
      refine mCall [] [] (hen) H ?_; clear H; intro a w H; try refine wpList_nil ?_
      obtain ⟨e, he⟩ : ∃ e, e = n.text := ⟨_, rfl⟩
      rw [← he] at H htl hlast
      clear he hen
      clear hX; have hX := And.intro @hsl (And.intro @hbl1 (@htl1))
      refine mW ?_; clear H; intro a w H
      have eb : bss (tt.take s.length) ++ [.bs e none] = bss tt := by rw [← bss_snoc, hlast]
      rw [eb] at H
      clear hX
      refine wp_ret ?_; exact mEnd [] [] [.tmp 4, .tmp 5] [_, _] hN hR H
set_option maxRecDepth 20000 in
theorem textsR_bad (key l : List UInt8) (hk32 : key.length = 32) (hl : l.length ≤ 34359730000) (h : ¬ pOk l) : VC Try.prog 46 [.ba key, .bs l none] [] (.tup [.sl .sc (bss (txs key l)) none, errv 10]) := by
  have hd := decPR_v l hl
  rw [if_neg h] at hd
  rw [txs, if_neg h]
  have hw := pDec_wf l
  obtain ⟨g1, g2, g3, g4⟩ := id hw.e
  generalize pDec l = p at *
  obtain ⟨s, n⟩ := p
  dsimp only at g1 g2 g3 g4
  refine mE Try.func46 ?_; intro N w0 a w hN hR H
  simp only [Pf.av, Nd.av] at H hd
  refine mW ?_; clear H; intro a w H
  refine mCall [] [] (hd) H ?_; clear H; intro a w H; try refine wpList_nil ?_
  refine mW ?_; clear H; intro a w H
  refine mC H (fun hb => ?_) (fun hb => ?_)
  · refine mW ?_; clear H; intro a w H
    refine wp_ret ?_
    exact v_end [] [] tab_ok ⟨hN, hR⟩ (rs := [.tmp 4, .tmp 5]) (ress := [_, _]) rfl H (by rfl) (by rfl) cb cw (by exact ⟨rfl, sub_refl _ _, trivial⟩) rfl
  · simp at hb
theorem textsR_v (key l : List UInt8) (hk32 : key.length = 32) (hl : l.length ≤ 34359730000) : VC Try.prog 46 [.ba key, .bs l none] [] (.tup [.sl .sc (bss (txs key l)) none, errv (vErr l)]) := by
  by_cases h : pOk l
  · rw [vErr, if_pos h]; exact textsR_ok key l hk32 hl h
  · rw [vErr, if_neg h]; exact textsR_bad key l hk32 hl h
set_option maxRecDepth 20000 in
set_option maxHeartbeats 2000000 in
theorem partR_v (key p q : List UInt8) (hk : key.length = 32) (hp : p.length ≤ 34359730000) (hq : q.length ≤ 34359730000) (h1 : pOk p) (h2 : pOk q) (hl1 : (txs key p).length ≤ 300) (hl2 : (txs key q).length ≤ 300) :
    VC Try.prog 48 [.ba key, .bs p none, .bs q none] [] (.tup [.st [.bs (prt (txs key p) (txs key q) 0).1 none, .bs (prt (txs key p) (txs key q) 0).2.1 none], .v (.int .i64 (prt (txs key p) (txs key q) 0).2.2), errv 0]) := by
  have t1 := textsR_v key p hk hp
  have t2 := textsR_v key q hk hq
  rw [vErr, if_pos h1] at t1
  rw [vErr, if_pos h2] at t2
  generalize txs key p = la at *
  generalize txs key q = lb at *
  have hal : (bss la).length = la.length := by simp [bss]
  have hbl : (bss lb).length = lb.length := by simp [bss]
  refine mE Try.func48 ?_; intro N w0 a w hN hR H
  refine mW ?_; clear H; intro a w H
  refine mCall [] [] (t1) H ?_; clear H; intro a w H; try refine wpList_nil ?_
  refine mW ?_; clear H; intro a w H
  refine mCall [] [] (t2) H ?_; clear H; intro a w H; try refine wpList_nil ?_
  refine mW ?_; clear H; intro a w H
  refine mC H (fun hb => ?_) (fun hb => ?_)
  · simp at hb
  · clear hb
    have hX := And.intro @hal (@hbl)
    refine mW ?_; clear H; intro a w H
    replace H := mK [6, 7, 8, 9, 11, 13] 2 0 hN hR H
    refine v_loop (fun k : Nat => ⟨[(13, none, .v (.int .i64 (k : Int))), (11, none, .sl .sc (bss lb) none), (9, none, .sl .sc (bss la) none), (8, none, .v (.int .i64 0)), (7, none, .v (.int .i64 0)), (6, none, .ptr 1 [])], [(.ba 32, .ba key), (ti101.ty, .st [.v (.slice none 0 0), .v (.slice none 0 0)])], [], []⟩)
      (fun k => (k ≤ la.length ∧ k ≤ lb.length) ∧ prt la lb 0 = prt (la.drop k) (lb.drop k) k) (fun k => la.length - k) 0 ⟨⟨Nat.zero_le _, Nat.zero_le _⟩, rfl⟩ (H.to 2 0 ⟨Nat.le_trans hN (by decide), hR⟩ ⟨rfl, rfl, rfl, rfl, rfl, rfl, trivial⟩ rfl rfl rfl rfl rfl) ?_
    clear H
    rintro k a w ⟨hk2, hpr⟩ H
    refine mW ?_; clear H; intro a w H
    have ecd : (bif decide ((k : Int) < (la.length : Int)) then decide ((k : Int) < (lb.length : Int)) else false) = decide (k < la.length ∧ k < lb.length) := by
      by_cases h1 : k < la.length <;> by_cases h2 : k < lb.length <;> simp [h1, h2]
    simp only [ecd] at H
    try refine wpList_nil ?_
    refine mC H (fun hb => ?_) (fun hb => ?_)
    · obtain ⟨hlt1, hlt2⟩ := of_decide_eq_true hb
      clear hb ecd
      have ga : (bss la).getD k .any = .bs (la.getD k []) none := by rw [← List.getElem_eq_getD (h := hlt1) []]; exact bss_get la k hlt1
      have gb : (bss lb).getD k .any = .bs (lb.getD k []) none := by rw [← List.getElem_eq_getD (h := hlt2) []]; exact bss_get lb k hlt2
      have hst := prt_step la lb k hlt1 hlt2
      generalize la.getD k [] = x at *
      generalize lb.getD k [] = y at *
      refine mW ?_; clear H; intro a w H
      clear hX; have hX := And.intro @hal (And.intro @hbl (And.intro @ga (And.intro @gb (@strOf_list))))
      have hY := And.intro @hal (@hbl)
      refine mS ?_; refine mD 2 [] [] H ?_; clear H; intro gS H
      refine mTN 3 hN H ?_; clear H; intro a w H; simp only [List.drop_succ_cons, List.drop_zero, List.drop_nil]
      refine mTN 2 hN H ?_; clear H; intro a w H; simp only [List.drop_succ_cons, List.drop_zero, List.drop_nil]
      refine mTN 3 hN H ?_; clear H; intro a w H; simp only [List.drop_succ_cons, List.drop_zero, List.drop_nil]
      refine mT ?_; clear H; intro a w H
      refine v_drawNil H ?_; clear H; intro H
      by_cases hxy : x = y
      · rw [if_pos hxy] at hst
        refine mC H (fun hb => ?_) (fun hb => ?_)
        · exfalso; simp [hxy] at hb
        · clear hb
          clear hX; have hX := And.intro @hal (@hbl)
          clear hY
          refine mW ?_; clear H; intro a w H
          exact ⟨k + 1, ⟨⟨hlt1, hlt2⟩, by rw [hpr, hst]⟩, by omega, H.to 2 0 ⟨Nat.le_trans hN (by decide), hR⟩ ⟨rfl, rfl, rfl, rfl, rfl, rfl, trivial⟩ rfl rfl rfl rfl rfl⟩
      · rw [if_neg hxy] at hst
        rw [hpr, hst]
        dsimp only
        refine mC H (fun hb => ?_) (fun hb => ?_)
        · clear hb
          clear hX; have hX := And.intro @hal (@hbl)
          clear hY
          refine mW ?_; clear H; intro a w H
          clear hX; have hX := And.intro @hal (And.intro @hbl (And.intro @ga (@gb)))
          have hY := And.intro @hal (@hbl)
          refine mS ?_; refine mD 0 [10] [9] H ?_; clear H; intro gS H
          refine mTN 3 hN H ?_; clear H; intro a w H; simp only [List.drop_succ_cons, List.drop_zero, List.drop_nil]
          refine mTN 4 hN H ?_; clear H; intro a w H; simp only [List.drop_succ_cons, List.drop_zero, List.drop_nil]
          refine mT ?_; clear H; intro a w H
          refine v_drawNil H ?_; clear H; intro H
          clear hX
          clear hY
          refine wp_ret ?_; exact mEnd [] [] [.cell 6 101, .tmp 7, .tmp 8] [_, _, _] hN hR H
        · exfalso; simp [hxy] at hb
    · have hge : la.length ≤ k ∨ lb.length ≤ k := by have := of_decide_eq_false hb; omega
      have he := prt_end la lb k hge
      rw [hpr, he]
      clear hb
      dsimp only
      clear hX
      refine mW ?_; clear H; intro a w H
      refine wp_ret ?_
      exact v_end [] [] tab_ok ⟨hN, hR⟩ (rs := [.cell 6 101, .tmp 7, .tmp 8]) (ress := [_, _, _]) rfl H (by rfl) (by rfl) cb cw (by exact ⟨⟨rfl, rfl, trivial⟩, sub_refl _ _, sub_refl _ _, trivial⟩) rfl
end Go.Proofs.Ytigmpdhnhkdeiaa
/- Bytes that were lent are as they were. -/
namespace Go.Proofs.Ytigmpdhnhkdeiaa
open Go Go.RowKit
set_option maxRecDepth 20000 in
theorem kept_v (l : List UInt8) (hl : l.length ≤ 34359738000) : VC Try.prog 22 [.bc (lentOf l) l.length none, .bs l none] [] (.v (.bool true)) := by
  have hll := lent_len l
  have e1 := lent_v l hl
  have h5 : ((l.length : Int) + 5).toNat = l.length + 5 := by omega
  have hT : (lentOf l).take (l.length + 5) = lentOf l := List.take_of_length_le (by omega)
  refine mE Try.func22 ?_; intro N w0 a w hN hR H
  refine mW ?_; clear H; intro a w H
  have hX := And.intro @h5 (And.intro @hT (And.intro @strOf_list (@beq_self_eq_true.{0})))
  refine mS ?_; refine mD 0 [6] [0, 1, 2, 3, 4, 7, 8, 9] H ?_; clear H; intro gS H; refine mT ?_; clear H; intro a w H
  refine mCallT [] [] (e1) H ?_; clear H; intro a w H
  refine mT ?_; clear H; intro a w H
  refine v_drawNil H ?_; clear H; intro H
  refine mW ?_; clear H; intro a w H
  refine wp_ret ?_; exact mEnd [] [] [.tmp 4] [_] hN hR H
end Go.Proofs.Ytigmpdhnhkdeiaa
/- The statement ExtractTexts, in values. -/
namespace Go.Proofs.Ytigmpdhnhkdeiaa
open Go Go.RowKit
theorem txsX_len (key l : List UInt8) : (txs key l).length ≤ 300 := by
  unfold txs
  split
  · rename_i h
    rw [tx_len]
    have := (chk_all (pDec_chk h)).1
    omega
  · simp
theorem VE.mono {P : Program} {f : FuncId} {args : List AV} {R R2 : List XR → List (Ty × AV) → List (TypeId × Nat) → AV → Prop} (h : VE P f args R) (hR : ∀ X bx rw res, R X bx rw res → R2 X bx rw res) : VE P f args R2 :=
  ⟨h.1, fun w N vs a b c => (h.2 w N vs a b c).mono fun e w' hp => by
    obtain ⟨X, bx', rw', res, g, v, h1, h2⟩ := hp
    exact ⟨X, bx', rw', res, g, v, hR _ _ _ _ h1, h2⟩⟩
def TxR (key l : List UInt8) (X : List XR) (bx' : List (Ty × AV)) (rw' : List (TypeId × Nat)) (res : AV) : Prop := rw' = [] ∧ bx' = [(.vc 26 .sc, .vc X.length (vas (X.map XR.v).reverse))] ∧ res = .tup [.vw 0 X.length X.length, errv (vErr l)] ∧ XL X (txs key l).reverse
theorem texts_U (key l : List UInt8) (hk32 : key.length = 32) (hl : l.length ≤ 34359730000) : VE Try.prog 45 [.ba key, .bs l none] (TxR key l) := by
  by_cases h : pOk l
  · refine (texts_E key l hk32 hl h).mono fun X bx rw res hh => ?_
    unfold TxR
    rw [vErr, if_pos h]; exact hh
  · have hd := decodeP_v l hl
    rw [if_neg h] at hd
    have hw := pDec_wf l
    obtain ⟨g1, g2, g3, g4⟩ := id hw.e
    have htn : txs key l = [] := by rw [txs, if_neg h]
    have hve : vErr l = 10 := by rw [vErr, if_neg h]
    generalize pDec l = p at *
    refine v_enterE Try.func45 rfl (by kernel_rfl) (by show 2 ≤ 60; decide) ?_
    intro N w0 a w hN hR H
    simp only [Pf.av, Nd.av] at hd
    refine mW ?_; clear H; intro a w H
    refine mCall [] [] (hd) H ?_; clear H; intro a w H; try refine wpList_nil ?_
    refine mW ?_; clear H; intro a w H
    refine mC H (fun hb => ?_) (fun hb => ?_)
    · refine mW ?_; clear H; intro a w H
      replace H := v_nilV tab_ok H 4 26 (j := ti26) rfl (by decide) rfl
      simp only [nilT, reduceIte, Nat.reduceEqDiff] at H
      replace H := nf H
      refine wp_ret ?_
      exact v_endE (bx' := [(.vc 26 .sc, .vc 0 [])]) (rs := [.tmp 4, .tmp 5]) (ress := [_, _]) (nb := 0) (nr := 0) [2] [] tab_ok ⟨hN, hR⟩ rfl (H.toX _) (by rfl) (by rfl) cbX (by rfl) ⟨sub_refl _ _, sub_refl _ _, trivial⟩ rfl ⟨rfl, rfl, by rw [hve]; rfl, by rw [htn]; exact XL.nil⟩
    · simp at hb
theorem partRU_v (key p q : List UInt8) (hk : key.length = 32) (hp : p.length ≤ 34359730000) (hq : q.length ≤ 34359730000) :
    VC Try.prog 48 [.ba key, .bs p none, .bs q none] [] (.tup [.st [.bs (prtE key p q).1 none, .bs (prtE key p q).2.1 none], .v (.int .i64 (prtE key p q).2.2.1), errv (prtE key p q).2.2.2]) := by
  by_cases h : pOk p ∧ pOk q
  · have := partR_v key p q hk hp hq h.1 h.2 (txsX_len key p) (txsX_len key q)
    unfold prtE
    rw [if_pos h]; exact this
  · have t1 := textsR_v key p hk hp
    have t2 := textsR_v key q hk hq
    have he : (vErr p = 10 ∧ vErr q = 10) ∨ (vErr p = 10 ∧ vErr q = 0) ∨ (vErr p = 0 ∧ vErr q = 10) := by
      unfold vErr
      by_cases h1 : pOk p
      · have h2 : ¬ pOk q := fun h2 => h ⟨h1, h2⟩
        rw [if_pos h1, if_neg h2]; exact .inr (.inr ⟨rfl, rfl⟩)
      · rw [if_neg h1]
        by_cases h2 : pOk q
        · rw [if_pos h2]; exact .inr (.inl ⟨rfl, rfl⟩)
        · rw [if_neg h2]; exact .inl ⟨rfl, rfl⟩
    unfold prtE
    rw [if_neg h]
    generalize txs key p = la at *
    generalize txs key q = lb at *
    rcases he with ⟨e1, e2⟩ | ⟨e1, e2⟩ | ⟨e1, e2⟩
    all_goals
      rw [e1] at t1
      rw [e2] at t2
      refine mE Try.func48 ?_; intro N w0 a w hN hR H
      refine mW ?_; clear H; intro a w H
      refine mCall [] [] (t1) H ?_; clear H; intro a w H; try refine wpList_nil ?_
      refine mW ?_; clear H; intro a w H
      refine mCall [] [] (t2) H ?_; clear H; intro a w H; try refine wpList_nil ?_
      refine mW ?_; clear H; intro a w H
      refine mC H (fun hb => ?_) (fun hb => ?_)
      · refine mW ?_; clear H; intro a w H
        refine wp_ret ?_
        exact v_end [] [] tab_ok ⟨hN, hR⟩ (rs := [.cell 6 101, .tmp 7, .tmp 8]) (ress := [_, _, _]) rfl H (by rfl) (by rfl) cbX cwX (by exact ⟨⟨rfl, rfl, trivial⟩, sub_refl _ _, sub_refl _ _, trivial⟩) rfl
      · exact absurd hb (by decide)

theorem RelX.rel {P : Program} {w0 w : World} {N : Gh} {nt : Nat} {st : St} {X : List XR} {a : Act} (H : RelX w0.heap.size P w0 N nt st X a w) : Rel P w0 N nt st a w := by
  obtain ⟨g, HI, hB, hF, _⟩ := H
  exact ⟨g, ⟨HI.mem, hB.fr (Nat.le_refl _), HI.br, HI.fz, HI.wr, HI.wz⟩, hF⟩
theorem lentX_see {X : List XR} {x : XR} {b : List UInt8} (hx : x ∈ X) (h : x.n = b.length ∧ x.c = (lentOf b).length ∧ x.k = (lentOf b).length ∧ x.cells = (lentOf b).map B8) : SeeX X (.v x.v) (.bs b none) := by
  obtain ⟨h1, _, h3, h4⟩ := h
  refine .pub x b hx (by rw [h3, lent_len]; omega) h1 ?_
  rw [h4, ← List.map_take, show (lentOf b).take b.length = b by simp [lentOf]]
theorem lentX_seeC {X : List XR} {x : XR} {b : List UInt8} (hx : x ∈ X) (h : x.n = b.length ∧ x.c = (lentOf b).length ∧ x.k = (lentOf b).length ∧ x.cells = (lentOf b).map B8) : SeeX X (.v x.v) (.bc (lentOf b) b.length none) := by
  obtain ⟨h1, h2, h3, h4⟩ := h
  have := SeeX.pubc (X := X) x (lentOf b) hx (by omega) h2 h4
  rwa [h1] at this
theorem lentX_w {x : XR} {b : List UInt8} (h : x.n = b.length ∧ x.c = (lentOf b).length ∧ x.k = (lentOf b).length ∧ x.cells = (lentOf b).map B8) : XW x := by
  obtain ⟨h1, h2, h3, h4⟩ := h
  refine ⟨b, marks b.length 5, by rw [h4]; rfl, h1, ?_⟩
  rw [h2]; unfold lentOf; rw [List.length_append]
theorem ClR.see {X Y : List XR} {r1 r2 : Value} {l1 l2 : List UInt8} (h : ClR Y r1 r2 l1 l2) (hY : ∀ x ∈ Y, x ∈ X) : SeeX X (.v r1) (.bs l1 none) ∧ SeeX X (.v r2) (.bs l2 none) := by
  rcases h with ⟨rfl, rfl, rfl, rfl⟩ | ⟨i, j, x, y, h1, h2, _, rfl, rfl, h3, h4⟩
  · exact ⟨.nil, .nil⟩
  · exact ⟨h3.see (hY _ (List.mem_of_getElem? h1)), h4.see (hY _ (List.mem_of_getElem? h2))⟩
theorem ix_un (n : Nat) (o1 o2 : Option Nat) (h : (o1 = none ∧ o2 = none) ∨ ∃ i j, o1 = some (2 + n + i) ∧ o2 = some (2 + n + j) ∧ i ≠ j) :
    (((List.range n).map fun k => some (2 + (n - 1 - k))) ++ [o1, o2, some 1, some 0]).Pairwise fun p q => p = none ∨ p ≠ q := by
  rw [List.pairwise_append]
  refine ⟨?_, ?_, ?_⟩
  · rw [List.pairwise_map]
    refine List.Pairwise.imp_of_mem (R := fun a b => a < b) (fun {a b} ha hb hab => ?_) List.pairwise_lt_range
    rw [List.mem_range] at ha hb
    right; intro e; injection e with e; omega
  · rcases h with ⟨rfl, rfl⟩ | ⟨i, j, rfl, rfl, hij⟩
    · simp
    · simp; omega
  · intro a ha b hb
    obtain ⟨k, hk, rfl⟩ := List.mem_map.1 ha
    rw [List.mem_range] at hk
    right
    simp only [List.mem_cons, List.not_mem_nil, or_false] at hb
    rcases h with ⟨rfl, rfl⟩ | ⟨i, j, rfl, rfl, hij⟩
    · rcases hb with rfl | rfl | rfl | rfl <;> (intro e; first | (injection e with e; omega) | cases e)
    · rcases hb with rfl | rfl | rfl | rfl <;> (intro e; injection e with e; omega)
attribute [local irreducible] wpT
set_option maxRecDepth 20000 in
set_option maxHeartbeats 8000000 in
theorem extractTexts_v (key b c : List UInt8) (hk : key.length = 32) (hb1 : b.length ≤ 1048576) (hc1 : c.length ≤ 1048576) :
    VC Try.prog 6 [.ba key, .bs b none, .bs c none] [] (.v (.bool true)) := by
  have f1 := few_v b
  have f2 := few_v c
  have l1 := lent_v b (by omega)
  have l2 := lent_v c (by omega)
  have k1 := kept_v b (by omega)
  have k2 := kept_v c (by omega)
  have tU := texts_U key b hk (by omega)
  have tR := textsR_v key b hk (by omega)
  have pE := part_E key b c hk (by omega) (by omega) (txsX_len key b) (txsX_len key c)
  have pR := partRU_v key b c hk (by omega) (by omega)
  have hls := txsX_len key b
  unfold TxR at tU
  refine mE Try.func6 ?_; intro N w0 a w hN hR H
  refine mW ?_; clear H; intro a w H
  refine mCall [] [] (f1) H ?_; clear H; intro a w H; try refine wpList_nil ?_
  refine mW ?_; clear H; intro a w H
  refine mCallG [] [] (f2) H ?_; clear H; intro a w H; try refine wpList_nil ?_
  refine mW ?_; clear H; intro a w H
  refine mC H (fun hb => ?_) (fun hb => ?_)
  · refine mW ?_; clear H; intro a w H
    refine wp_ret ?_; exact mEnd [] [] [.tmp 6] [_] hN hR H
  · clear hb
    have hM : N.bx.length ≤ 0 ∧ N.rw.length ≤ 0 := ⟨hN, hR⟩
    refine mW ?_; clear H; intro a w H
    refine mCall [] [] (l1) H ?_; clear H; intro a w H; try refine wpList_nil ?_
    refine mW ?_; clear H; intro a w H
    refine mCall [] [] (l2) H ?_; clear H; intro a w H; try refine wpList_nil ?_
    (try refine wp_region_lit ?_); refine mN 2 hN H ?_; clear H; intro a w H
    refine wpList_nil ?_
    obtain ⟨x8, hx8, HX⟩ := v_pubC (H.toX w0.heap.size) (Nat.le_refl _) [1, 2, 3, 6, 7] 8 2 rfl (Nat.le_trans hM.1 (by decide)) rfl rfl rfl rfl
    obtain ⟨x7, hx7, HX⟩ := v_pubC HX (Nat.le_refl _) [1, 2, 3, 6, 8] 7 1 rfl (Nat.le_trans hM.1 (by decide)) rfl rfl rfl rfl
    clear H
    replace HX := HX.cast (st' := ⟨[(7, none, .v x7.v), (8, none, .v x8.v), (6, none, .v (.bool false)), (3, none, .ptr 0 []), (1, none, .bs b none), (2, none, .bs c none)], [(.ba 32, .ba key)], [], []⟩) rfl
    clear hN hR
    obtain ⟨N1, hB, hZ, H, hN1, hR1⟩ := HX.open_
    clear HX
    have hN : N1.bx.length ≤ 1 := Nat.le_of_eq hN1
    have hR : N1.rw.length ≤ 0 := Nat.le_of_eq hR1
    clear hN1 hR1
    have q7 : x7 ∈ [] ++ [x8] ++ [x7] := by simp
    have q8 : x8 ∈ [] ++ [x8] ++ [x7] := by simp
    generalize hXe : [] ++ [x8] ++ [x7] = X0 at *
    refine mS ?_
    refine mW ?_; clear H; intro a w H
    replace H := v_seeX hZ H 34 (.bs b none) (lentX_see q7 hx7) rfl
    simp only [nilT, reduceIte, Nat.reduceEqDiff] at H
    refine v_callE tU hB (Nat.le_refl _) hZ H (by rintro Y bx' rw' res ⟨rfl, rfl, rfl, _⟩; exact ⟨rfl, rfl⟩) ?_
    clear H
    rintro XA bx' rw' res a w1 ⟨rfl, rfl, rfl, hA⟩ H
    replace H := nfX H
    clear hN hR hB hZ
    obtain ⟨N1, hB, hZ, H, hN1, hR1⟩ := H.open_
    have hN : N1.bx.length ≤ 2 := Nat.le_of_eq hN1
    have hR : N1.rw.length ≤ 0 := Nat.le_of_eq hR1
    clear hN1 hR1
    have hAl : XA.length = (txs key b).length := by have := hA.1; rwa [List.length_reverse] at this
    have hbl : (bss (txs key b)).length = (txs key b).length := bss_len _
    generalize txs key b = ls at *
    generalize vErr b = ev at *
    rw [hAl] at H
    have hva : (vas (XA.map XR.v).reverse).length = ls.length := by rw [vas_len, List.length_reverse, List.length_map]; exact hAl
    refine mW ?_; clear H; intro a w H
    refine mCall [] [] (tR) H ?_; clear H; intro a w H; try refine wpList_nil ?_
    have hX := @hbl
    refine mW ?_; clear H; intro a w H
    refine mC H (fun hb => ?_) (fun hb => ?_)
    · simp at hb
    · clear hb
      refine mW ?_; clear H; intro a w H
      refine v_loop (fun k : Nat => ⟨[(13, none, .v (.int .i64 (k : Int))), (11, none, .sl .sc (bss ls) none), (9, none, .vw 1 ls.length ls.length), (7, none, .v x7.v), (8, none, .v x8.v), (6, none, .v (.bool false)), (3, none, .ptr 0 []), (1, none, .bs b none), (2, none, .bs c none)],
        [(.ba 32, .ba key), (.vc 26 .sc, .vc ls.length (vas (XA.map XR.v).reverse))], [], []⟩) (fun k => k ≤ ls.length) (fun k => ls.length - k) 0 (Nat.zero_le _)
        (H.to 2 0 ⟨hN, hR⟩ ⟨rfl, rfl, rfl, rfl, rfl, rfl, rfl, rfl, rfl, trivial⟩ rfl rfl rfl rfl rfl) ?_
      clear H
      intro k a w hk2 H
      refine mW ?_; clear H; intro a w H
      refine mC H (fun hb => ?_) (fun hb => ?_)
      · have hlt : k < ls.length := by rw [decide_eq_true_eq] at hb; omega
        clear hb
        obtain ⟨x, hx1, hx2, hx3⟩ := hA.getR k hlt
        have ga := vas_get (XA.map XR.v).reverse k (by rw [List.length_reverse, List.length_map]; omega)
        rw [hx2] at ga
        have gb : (bss ls).getD k .any = .bs (ls.getD k []) none := by rw [← List.getElem_eq_getD (h := hlt) []]; exact bss_get ls k hlt
        have hsm := same_v (ls.getD k []) (ls.getD k [])
        rw [beq_self_eq_true] at hsm
        generalize ls.getD k [] = lx at *
        have hmx : x ∈ X0 ++ XA := List.mem_append.2 (.inr (List.mem_of_getElem? hx1))
        clear hX; have hX := And.intro @hbl (And.intro @hva (And.intro @ga (@gb)))
        refine mS ?_; refine mD 2 [8] [3] H ?_; clear H; intro gS H
        refine mTN 4 hN H ?_; clear H; intro a w H; simp only [List.drop_succ_cons, List.drop_zero, List.drop_nil]
        replace H := v_seeXT hZ H 63 (.bs lx none) (hx3.see hmx) rfl
        simp only [nilT, reduceIte, Nat.reduceEqDiff] at H
        refine mTN 3 hN H ?_; clear H; intro a w H; simp only [List.drop_succ_cons, List.drop_zero, List.drop_nil]
        refine mTN 1 hN H ?_; clear H; intro a w H; simp only [List.drop_succ_cons, List.drop_zero, List.drop_nil]
        refine mCallT [] [] (hsm) H ?_; clear H; intro a w H
        refine mT ?_; clear H; intro a w H
        refine v_drawNil H ?_; clear H; intro H
        refine mC H (fun hb => ?_) (fun hb => ?_)
        · exact absurd hb (by decide)
        · clear hb
          clear hX; have hX := And.intro @hbl (@hva)
          refine mW ?_; clear H; intro a w H
          exact ⟨k + 1, hlt, by omega, H.to 2 0 ⟨hN, hR⟩ ⟨rfl, rfl, rfl, rfl, rfl, rfl, rfl, rfl, rfl, trivial⟩ rfl rfl rfl rfl rfl⟩
      · clear hb
        clear hX; have hX := And.intro @hbl (@hva)
        refine mW ?_; clear H; intro a w H
        replace H := v_seeX hZ H 72 (.bs b none) (lentX_see (List.mem_append.2 (.inl q7)) hx7) rfl
        replace H := v_seeX hZ H 73 (.bs c none) (lentX_see (List.mem_append.2 (.inl q8)) hx8) rfl
        simp only [nilT, reduceIte, Nat.reduceEqDiff] at H
        refine v_callE pE hB (Nat.le_refl _) hZ H (by rintro Y bx' rw' res ⟨rfl, rfl, r1, r2, rfl, _⟩; exact ⟨rfl, rfl⟩) ?_
        clear H
        rintro XB' bx' rw' res a w2 ⟨rfl, rfl, r1, r2, rfl, hcl⟩ H
        replace H := nfX H
        clear hN hR hB hZ
        obtain ⟨N1, hB, hZ, H, hN1, hR1⟩ := H.open_
        have hN : N1.bx.length ≤ 2 := Nat.le_of_eq hN1
        have hR : N1.rw.length ≤ 0 := Nat.le_of_eq hR1
        clear hN1 hR1
        generalize prtE key b c = pe at *
        obtain ⟨p1, p2, pd, pe⟩ := pe
        dsimp only at H hcl pR
        refine mW ?_; clear H; intro a w H
        refine mCall [] [] (pR) H ?_; clear H; intro a w H; try refine wpList_nil ?_
        refine mW ?_; clear H; intro a w H
        have hmem : ∀ x ∈ XB', x ∈ X0 ++ XA ++ XB' := fun x hx => List.mem_append.2 (.inr hx)
        obtain ⟨s1, s2⟩ := hcl.see hmem
        have q7' : x7 ∈ X0 ++ XA ++ XB' := List.mem_append.2 (.inl (List.mem_append.2 (.inl q7)))
        have q8' : x8 ∈ X0 ++ XA ++ XB' := List.mem_append.2 (.inl (List.mem_append.2 (.inl q8)))
        have sm1 := same_v p1 p1
        have sm2 := same_v p2 p2
        rw [beq_self_eq_true] at sm1 sm2
        replace H := v_known H 94 false rfl
        simp only [unG, gdEq, Nat.reduceBEq, cond_true, cond_false] at H
        replace H := v_seeX hZ H 96 (.bs p1 none) s1 rfl
        simp only [nilT, reduceIte, Nat.reduceEqDiff] at H
        refine mG H ?_
        refine mCall [] [] (sm1) H ?_; clear H; intro a w H; try refine wpList_nil ?_
        refine mW ?_; clear H; intro a w H
        replace H := v_known H 94 false rfl
        replace H := v_known H 102 false rfl
        simp only [unG, gdEq, Nat.reduceBEq, cond_true, cond_false] at H
        replace H := v_seeX hZ H 104 (.bs p2 none) s2 rfl
        simp only [nilT, reduceIte, Nat.reduceEqDiff] at H
        refine mG H ?_
        refine mCall [] [] (sm2) H ?_; clear H; intro a w H; try refine wpList_nil ?_
        refine mW ?_; clear H; intro a w H
        replace H := v_known H 110 false rfl
        simp only [unG, gdEq, Nat.reduceBEq, cond_true, cond_false] at H
        replace H := v_seeX hZ H 111 (.bc (lentOf b) b.length none) (lentX_seeC q7' hx7) rfl
        simp only [nilT, reduceIte, Nat.reduceEqDiff] at H
        refine mG H ?_
        refine mCall [] [] (k1) H ?_; clear H; intro a w H; try refine wpList_nil ?_
        refine mW ?_; clear H; intro a w H
        replace H := v_known H 116 false rfl
        simp only [unG, gdEq, Nat.reduceBEq, cond_true, cond_false] at H
        replace H := v_seeX hZ H 117 (.bc (lentOf c) c.length none) (lentX_seeC q8' hx8) rfl
        simp only [nilT, reduceIte, Nat.reduceEqDiff] at H
        refine mG H ?_
        refine mCall [] [] (k2) H ?_; clear H; intro a w H; try refine wpList_nil ?_
        refine mW ?_; clear H; intro a w H
        refine mC H (fun hb => ?_) (fun hb => ?_)
        · exact absurd hb (by decide)
        · clear hb
          refine mW ?_; clear H; intro a w H
          obtain ⟨us, hus⟩ : ∃ us, us = (XA.map XR.v).reverse ++ [r1, r2, x7.v, x8.v] := ⟨_, rfl⟩
          have ev2 : List.take ls.length (vas (XA.map XR.v).reverse) ++ [.v r1, .v r2, .v x7.v, .v x8.v] = vas us := by
            rw [List.take_of_length_le (by omega), hus]; simp [vas]
          have hul : us.length = ls.length + 4 := by rw [hus, List.length_append, List.length_reverse, List.length_map, hAl]; rfl
          rw [ev2, ← hul] at H
          obtain ⟨o1, o2, ho, hp1, hp2⟩ : ∃ o1 o2 : Option Nat, ((o1 = none ∧ o2 = none) ∨ ∃ i j, o1 = some (2 + ls.length + i) ∧ o2 = some (2 + ls.length + j) ∧ i ≠ j) ∧
              ((o1 = none ∧ r1 = .slice none 0 0) ∨ ∃ j x, o1 = some j ∧ (X0 ++ XA ++ XB')[j]? = some x ∧ r1 = x.v ∧ XW x) ∧ ((o2 = none ∧ r2 = .slice none 0 0) ∨ ∃ j x, o2 = some j ∧ (X0 ++ XA ++ XB')[j]? = some x ∧ r2 = x.v ∧ XW x) := by
            rcases hcl with ⟨e1, e2, _, _⟩ | ⟨i, j, x, y, g1, g2, hij, g3, g4, g5, g6⟩
            · exact ⟨none, none, .inl ⟨rfl, rfl⟩, .inl ⟨rfl, e1⟩, .inl ⟨rfl, e2⟩⟩
            · have hl2 : (X0 ++ XA).length = 2 + ls.length := by rw [List.length_append, hAl, ← hXe]; rfl
              have get : ∀ i x, XB'[i]? = some x → (X0 ++ XA ++ XB')[2 + ls.length + i]? = some x := fun i x h => by
                rw [List.getElem?_append_right (by omega), hl2, Nat.add_sub_cancel_left]; exact h
              exact ⟨some (2 + ls.length + i), some (2 + ls.length + j), .inr ⟨i, j, rfl, rfl, hij⟩, .inr ⟨_, x, rfl, get i x g1, g3, g5.w⟩, .inr ⟨_, y, rfl, get j y g2, g4, g6.w⟩⟩
          have hix : (((List.range ls.length).map fun k => some (2 + (ls.length - 1 - k))) ++ [o1, o2, some 1, some 0]).length = us.length := by rw [hul]; simp
          have hval : ∀ k (h1 : k < (((List.range ls.length).map fun k => some (2 + (ls.length - 1 - k))) ++ [o1, o2, some 1, some 0]).length) (h2 : k < us.length),
              ((((List.range ls.length).map fun k => some (2 + (ls.length - 1 - k))) ++ [o1, o2, some 1, some 0])[k] = none ∧ us[k] = .slice none 0 0) ∨ ∃ j x, (((List.range ls.length).map fun k => some (2 + (ls.length - 1 - k))) ++ [o1, o2, some 1, some 0])[k] = some j ∧ (X0 ++ XA ++ XB')[j]? = some x ∧ us[k] = x.v ∧ XW x := by
            subst hus
            intro k h1 h2
            have hr : ((List.range ls.length).map fun k => some (2 + (ls.length - 1 - k))).length = ls.length := by simp
            have hr2 : (XA.map XR.v).reverse.length = ls.length := by rw [List.length_reverse, List.length_map, hAl]
            by_cases hk3 : k < ls.length
            · right
              obtain ⟨x, g1, g2, g3⟩ := hA.getR k hk3
              refine ⟨2 + (ls.length - 1 - k), x, ?_, ?_, ?_, g3.w⟩
              · rw [List.getElem_append_left (by omega)]; simp
              · rw [List.append_assoc, ← hXe, List.nil_append, List.singleton_append, List.cons_append, List.cons_append, List.nil_append, show 2 + (ls.length - 1 - k) = (ls.length - 1 - k) + 1 + 1 by omega, List.getElem?_cons_succ, List.getElem?_cons_succ, List.getElem?_append_left (by omega), ← hAl]
                exact g1
              · rw [List.getElem_append_left (by omega)]
                rw [List.getD_eq_getElem?_getD, List.getElem?_eq_getElem (by omega)] at g2
                exact g2
            · have hk4 : k = ls.length ∨ k = ls.length + 1 ∨ k = ls.length + 2 ∨ k = ls.length + 3 := by omega
              have e7 : (X0 ++ XA ++ XB')[1]? = some x7 := by rw [← hXe]; rfl
              have e8 : (X0 ++ XA ++ XB')[0]? = some x8 := by rw [← hXe]; rfl
              rcases hk4 with rfl | rfl | rfl | rfl
              · rw [List.getElem_append_right (by omega), List.getElem_append_right (by omega)]
                simp only [hr, hr2, Nat.sub_self, List.getElem_cons_zero]; exact hp1
              · rw [List.getElem_append_right (by omega), List.getElem_append_right (by omega)]
                simp only [hr, hr2, Nat.add_sub_cancel_left, List.getElem_cons_succ, List.getElem_cons_zero]; exact hp2
              · rw [List.getElem_append_right (by omega), List.getElem_append_right (by omega)]
                simp only [hr, hr2, Nat.add_sub_cancel_left, List.getElem_cons_succ, List.getElem_cons_zero]
                exact .inr ⟨1, x7, rfl, e7, rfl, lentX_w hx7⟩
              · rw [List.getElem_append_right (by omega), List.getElem_append_right (by omega)]
                simp only [hr, hr2, Nat.add_sub_cancel_left, List.getElem_cons_succ, List.getElem_cons_zero]
                exact .inr ⟨0, x8, rfl, e8, rfl, lentX_w hx8⟩
          refine v_apartX (x := .tmp 130) (us := us) hZ H 1 (ls.length + 1) 26 rfl rfl _ hix hval (ix_un ls.length o1 o2 ho) (by omega) (by omega) ?_
          clear H hus ev2
          intro a w H
          replace H := nf H
          clear hX
          refine mW ?_; clear H; intro a w H
          have H := (RelX.close hB hZ H).rel
          have hN := hM.1
          have hR := hM.2
          refine wp_ret ?_; exact mEnd [] [] [.tmp 6] [_] hN hR H
end Go.Proofs.Ytigmpdhnhkdeiaa
/- ExtractTexts, of all arguments of its types. -/
namespace Go.Proofs.Ytigmpdhnhkdeiaa
open Go Go.RowKit
theorem extractTexts_az (az : List AV) (h : ShL (Sh tab 1048576 6) [52, 26, 26] az) : VC Try.prog 6 az [] (.v (.bool true)) := by
  obtain ⟨a0, r, rfl, h0, h⟩ := shl_cons h
  obtain ⟨a1, r, rfl, h1, h⟩ := shl_cons h
  obtain ⟨a2, r, rfl, h2, h⟩ := shl_cons h
  obtain rfl := shl_nil h
  obtain ⟨key, rfl, q0⟩ := h0.arr rfl rfl
  obtain ⟨b, rfl, q1⟩ := h1.bytes rfl rfl rfl
  obtain ⟨c, rfl, q2⟩ := h2.bytes rfl rfl rfl
  exact extractTexts_v key b c q0 q1 q2
end Go.Proofs.Ytigmpdhnhkdeiaa
