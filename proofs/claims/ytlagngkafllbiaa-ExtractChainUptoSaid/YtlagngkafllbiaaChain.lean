/- The statement ExtractChain, in values. -/
import Derived.Test.YtlagngkafllbiaaTexts
set_option linter.unusedSimpArgs false
set_option linter.unusedVariables false
namespace Go.Proofs.Ytlagngkafllbiaa
open Go Go.RowKit
/-- The state made plain. -/
theorem nf_Chain {P : Program} {w0 w : World} {N : Gh} {nt : Nat} {st s2 : St} {a : Act} (H : Rel P w0 N nt st a w) (h : st = s2 := by (try simp only [pk, elemB, St.put, St.ev, St.tmp, St.keep, find, dropT, slots, AV.put, AV.loc, fitI, convI, IntKind.signed, IntKind.bits, strip, St.lose, mergeL, setAll, nth, renB, ren, idx?, sub, allP, low, bnd, Int.reduceEq, Nat.reduceAdd, Nat.reduceLT, reduceIte, reduceCtorEq, Nat.reduceEqDiff, Nat.reduceLeDiff, Nat.reduceBEq, Int.reducePow, Int.reduceToNat, ti24_t, ti24_z, ti5_t, ti5_z, ti30_t, ti30_z, ti23_t, ti23_z, ti41_t, ti41_z, ti26_t, ti26_z]); rfl) : Rel P w0 N nt s2 a w := h ▸ H
theorem nt_Chain {P : Program} {w0 w : World} {N gS : Gh} {nt : Nat} {q q2 st s2 : St} {a : Act} (H : RelT P w0 N nt gS q st a w) (h1 : q = q2 := by (try simp only [pk, elemB, St.put, St.ev, St.tmp, St.keep, find, dropT, slots, AV.put, AV.loc, fitI, convI, IntKind.signed, IntKind.bits, strip, St.lose, mergeL, setAll, nth, renB, ren, idx?, sub, allP, low, bnd, Int.reduceEq, Nat.reduceAdd, Nat.reduceLT, reduceIte, reduceCtorEq, Nat.reduceEqDiff, Nat.reduceLeDiff, Nat.reduceBEq, Int.reducePow, Int.reduceToNat, ti24_t, ti24_z, ti5_t, ti5_z, ti30_t, ti30_z, ti23_t, ti23_z, ti41_t, ti41_z, ti26_t, ti26_z]); rfl) (h : st = s2 := by (try simp only [pk, elemB, St.put, St.ev, St.tmp, St.keep, find, dropT, slots, AV.put, AV.loc, fitI, convI, IntKind.signed, IntKind.bits, strip, St.lose, mergeL, setAll, nth, renB, ren, idx?, sub, allP, low, bnd, Int.reduceEq, Nat.reduceAdd, Nat.reduceLT, reduceIte, reduceCtorEq, Nat.reduceEqDiff, Nat.reduceLeDiff, Nat.reduceBEq, Int.reducePow, Int.reduceToNat, ti24_t, ti24_z, ti5_t, ti5_z, ti30_t, ti30_z, ti23_t, ti23_z, ti41_t, ti41_z, ti26_t, ti26_z]); rfl) : RelT P w0 N nt gS q2 s2 a w := h1 ▸ h ▸ H
theorem ct_Chain {c : Prop} (h : c := by ((try simp only [pk, elemB, St.put, St.ev, St.tmp, St.keep, find, dropT, slots, AV.put, AV.loc, fitI, convI, IntKind.signed, IntKind.bits, strip, St.lose, mergeL, setAll, nth, renB, ren, idx?, sub, allP, low, bnd, Int.reduceEq, Nat.reduceAdd, Nat.reduceLT, reduceIte, reduceCtorEq, Nat.reduceEqDiff, Nat.reduceLeDiff, Nat.reduceBEq, Int.reducePow, Int.reduceToNat, ti24_t, ti24_z, ti5_t, ti5_z, ti30_t, ti30_z, ti23_t, ti23_z, ti41_t, ti41_z, ti26_t, ti26_z, ti24, ti5, ti30, ti23, ti41, ti26, fit, gcond, ilo, ihi]); first | done | exact cd | exact cd2 | skip)) : c := h
theorem up_tx (key e : List UInt8) : ∀ d s, upL key d s (sum e) = sum ((tx key d s e).headD [])
  | _, [] => rfl
  | d, x :: r => by
    simp only [upL, tx, List.headD_cons]
    rw [up_tx key e (d + 1) r]
    unfold stepH textD innerH
    cases bitN key d <;> rfl
theorem tx_get (key e : List UInt8) : ∀ (k d : Nat) (s : List (List UInt8)), k ≤ s.length → (tx key d s e).getD k [] = (tx key (d + k) (s.drop k) e).headD []
  | 0, d, s, _ => by simp only [List.drop_zero, Nat.add_zero]; cases tx key d s e <;> rfl
  | k + 1, d, x :: r, h => by
    have := tx_get key e k (d + 1) r (by simpa using h)
    simp only [tx, List.getD_cons_succ, List.drop_succ_cons]
    rw [this, show d + 1 + k = d + (k + 1) by omega]
theorem tx_next (key e : List UInt8) (s : List (List UInt8)) (k : Nat) (hk : k < s.length) : (tx key 0 s e).getD k [] = textD key k (s.getD k []) ((tx key 0 s e).getD (k + 1) []) := by
  rw [tx_get key e k 0 s (by omega), tx_get key e (k + 1) 0 s (by omega), Nat.zero_add, Nat.zero_add, tx_drop key e s k hk, List.headD_cons]
theorem pathOf_v (l : List UInt8) (hl : l.length = 32) : VC Try.prog 11 [.bs l none] [] (.tup [.ba l, errv 0]) := by
  refine v_enter Try.func11 rfl (by kernel_rfl) (by show 1 ≤ 11; decide) ?_
  intro N w0 a w hN hR H
  repeat (first | refine wp_seq ?_ | refine wp_block ?_ | refine wp_skip ?_ | refine wp_exit ?_ | ((first | refine v_some 5 tab_ok hN H (by rfl) ct_Chain ?_ | refine v_more tab_ok hN H (by rfl) (by rfl) ct_Chain ?_); clear H; intro a w H; replace H := nf_Chain H; (try simp only [List.drop_succ_cons, List.drop_zero, List.drop_nil]); try refine wpList_nil ?_) | refine wp_region_lit ?_)
  refine v_cond H (by rfl) (fun hb => ?_) (fun hb => ?_)
  · simp [hl] at hb
  · repeat (first | refine wp_seq ?_ | refine wp_block ?_ | refine wp_skip ?_ | refine wp_exit ?_ | ((first | refine v_some 5 tab_ok hN H (by rfl) (by (try simp only [hl, List.take_of_length_le (Nat.le_of_eq hl), hl, List.take_of_length_le (Nat.le_of_eq hl)]); first | done | exact ct_Chain) ?_ | refine v_more tab_ok hN H (by rfl) (by rfl) (by (try simp only [hl, List.take_of_length_le (Nat.le_of_eq hl), hl, List.take_of_length_le (Nat.le_of_eq hl)]); first | done | exact ct_Chain) ?_); clear H; intro a w H; replace H := nf_Chain H; first | (simp only [hl, List.take_of_length_le (Nat.le_of_eq hl)] at H; replace H := nf_Chain H) | skip; (try simp only [List.drop_succ_cons, List.drop_zero, List.drop_nil]); try refine wpList_nil ?_) | refine wp_region_lit ?_)
    refine wp_ret ?_
    exact v_end [] [] tab_ok ⟨hN, hR⟩ (rs := [.cell 2 23, .tmp 3]) (ress := [_, _]) rfl H (by rfl) (by rfl) (by simp [pickB, bxs, ren, idx?, sub_refl, sub, allP, hl, List.take_of_length_le (Nat.le_of_eq hl)] <;> omega) (by first | rfl | (simp [hl, List.take_of_length_le (Nat.le_of_eq hl)] <;> omega)) (by first | exact trivial | exact ⟨sub_refl _ _, trivial⟩ | exact ⟨sub_refl _ _, sub_refl _ _, trivial⟩ | exact ⟨sub_refl _ _, sub_refl _ _, sub_refl _ _, trivial⟩ | exact ⟨⟨rfl, sub_refl _ _, trivial⟩, sub_refl _ _, trivial⟩ | (simp [cargs, cargsG, St.ev, St.tmp, find, ren, idx?, sub_refl, sub, allP, resv, resC, bss, hl, List.take_of_length_le (Nat.le_of_eq hl)] <;> omega)) rfl
theorem few_v (l : List UInt8) : VC Try.prog 7 [.bs l none] [] (.v (.bool (decide (l.length ≤ 700)))) := by
  have e : decide (l.length ≤ 700) = decide ((l.length : Int) ≤ 700) := decide_eq_decide.2 ⟨fun h => by omega, fun h => by omega⟩
  rw [e]
  refine v_enter Try.func7 rfl (by kernel_rfl) (by show 1 ≤ 6; decide) ?_
  intro N w0 a w hN hR H
  repeat (first | refine wp_seq ?_ | refine wp_block ?_ | refine wp_skip ?_ | refine wp_exit ?_ | ((first | refine v_some 5 tab_ok hN H (by rfl) ct_Chain ?_ | refine v_more tab_ok hN H (by rfl) (by rfl) ct_Chain ?_); clear H; intro a w H; replace H := nf_Chain H; (try simp only [List.drop_succ_cons, List.drop_zero, List.drop_nil]); try refine wpList_nil ?_) | refine wp_region_lit ?_)
  refine wp_ret ?_
  exact v_end [] [] tab_ok ⟨hN, hR⟩ (rs := [.tmp 2]) (ress := [_]) rfl H (by rfl) (by rfl) cb cw ca rfl
theorem cut1 (t x : List UInt8) (ht : t.length = 32) (hx : x.length = 32) : ((2 :: (x ++ t)).take 65).drop 33 = t := by
  rw [List.take_of_length_le (by simp; omega), List.drop_succ_cons, show 32 = x.length by omega, List.drop_left]
theorem cut0 (t x : List UInt8) (ht : t.length = 32) (hx : x.length = 32) : ((2 :: (t ++ x)).take 33).drop 1 = t := by
  rw [List.take_succ_cons, List.drop_succ_cons, List.drop_zero, show 32 = t.length by omega, List.take_left]
set_option maxRecDepth 20000 in
set_option maxHeartbeats 4000000 in
theorem chain_ok (key l : List UInt8) (hk32 : key.length = 32) (hl : l.length ≤ 1048576) (h : pOk l) : VC Try.prog 3 [.ba key, .bs l none] [] (.v (.bool true)) := by
  have hfew := few_v l
  have htx := texts_v key l hk32 (by omega)
  have htop := vtop_v key l hk32 (by omega)
  rw [vErr, if_pos h] at htx htop
  rw [txs, if_pos h] at htx
  rw [vTop, if_pos h] at htop
  have hw := pDec_wf l
  obtain ⟨hle, hok, hk2⟩ := chk_all (pDec_chk h)
  have htext := text_len hw.e
  generalize pDec l = p at *
  obtain ⟨s, n⟩ := p
  dsimp only at hle hok hk2 htext htx
  have hs := hw.s
  dsimp only at hs
  obtain ⟨e, he⟩ : ∃ e, e = n.text := ⟨_, rfl⟩
  have htop2 : topH key ⟨s, n⟩ = sum ((tx key 0 s e).getD 0 []) := by
    rw [tx_get key e 0 0 s (Nat.zero_le _), List.drop_zero, he]; exact up_tx key n.text 0 s
  rw [htop2] at htop
  rw [← he] at htx htext
  have hlen := tx_len key e 0 s
  have hnext := tx_next key e s
  have hhead : ∀ k, k ≤ s.length → ((tx key 0 s e).getD k []).length ≤ 65 := fun k hk => by
    rw [tx_get key e k 0 s hk]; exact tx_head key e htext _ _ fun h hh => hs h (List.mem_of_mem_drop hh)
  clear htop2 he
  generalize tx key 0 s e = ls at *
  have hbl : (bss ls).length = ls.length := by simp [bss]
  have hsl0 := sum_length (ls.getD 0 [])
  refine v_enter Try.func3 rfl (by kernel_rfl) (by show 2 ≤ 88; decide) ?_
  intro N w0 a w hN hR H
  repeat (first | refine wp_seq ?_ | refine wp_block ?_ | refine wp_skip ?_ | refine wp_exit ?_ | ((first | refine v_some 5 tab_ok hN H (by rfl) ct_Chain ?_ | refine v_more tab_ok hN H (by rfl) (by rfl) ct_Chain ?_); clear H; intro a w H; replace H := nf_Chain H; (try simp only [List.drop_succ_cons, List.drop_zero, List.drop_nil]); try refine wpList_nil ?_) | refine wp_region_lit ?_)
  refine v_call [] [] (hfew) H rfl rfl (by rfl) cb cw ca ?_; clear H; intro a w H; replace H := nf_Chain H; try refine wpList_nil ?_
  repeat (first | refine wp_seq ?_ | refine wp_block ?_ | refine wp_skip ?_ | refine wp_exit ?_ | ((first | refine v_some 5 tab_ok hN H (by rfl) ct_Chain ?_ | refine v_more tab_ok hN H (by rfl) (by rfl) ct_Chain ?_); clear H; intro a w H; replace H := nf_Chain H; (try simp only [List.drop_succ_cons, List.drop_zero, List.drop_nil]); try refine wpList_nil ?_) | refine wp_region_lit ?_)
  by_cases h7 : l.length ≤ 700
  · rw [decide_eq_true h7] at H
    refine v_cond H (by rfl) (fun hb => ?_) (fun hb => ?_)
    · simp at hb
    · clear hb
      repeat (first | refine wp_seq ?_ | refine wp_block ?_ | refine wp_skip ?_ | refine wp_exit ?_ | ((first | refine v_some 5 tab_ok hN H (by rfl) ct_Chain ?_ | refine v_more tab_ok hN H (by rfl) (by rfl) ct_Chain ?_); clear H; intro a w H; replace H := nf_Chain H; (try simp only [List.drop_succ_cons, List.drop_zero, List.drop_nil]); try refine wpList_nil ?_) | refine wp_region_lit ?_)
      refine v_call [] [] (htx) H rfl rfl (by rfl) cb cw ca ?_; clear H; intro a w H; replace H := nf_Chain H; try refine wpList_nil ?_
      repeat (first | refine wp_seq ?_ | refine wp_block ?_ | refine wp_skip ?_ | refine wp_exit ?_ | ((first | refine v_some 5 tab_ok hN H (by rfl) ct_Chain ?_ | refine v_more tab_ok hN H (by rfl) (by rfl) ct_Chain ?_); clear H; intro a w H; replace H := nf_Chain H; (try simp only [List.drop_succ_cons, List.drop_zero, List.drop_nil]); try refine wpList_nil ?_) | refine wp_region_lit ?_)
      refine v_call [] [] (htop) H rfl rfl (by rfl) cb cw ca ?_; clear H; intro a w H; replace H := nf_Chain H; try refine wpList_nil ?_
      repeat (first | refine wp_seq ?_ | refine wp_block ?_ | refine wp_skip ?_ | refine wp_exit ?_ | ((first | refine v_some 5 tab_ok hN H (by rfl) ct_Chain ?_ | refine v_more tab_ok hN H (by rfl) (by rfl) ct_Chain ?_); clear H; intro a w H; replace H := nf_Chain H; (try simp only [List.drop_succ_cons, List.drop_zero, List.drop_nil]); try refine wpList_nil ?_) | refine wp_region_lit ?_)
      refine v_cond H (by rfl) (fun hb => ?_) (fun hb => ?_)
      · simp at hb
      · clear hb
        repeat (first | refine wp_seq ?_ | refine wp_block ?_ | refine wp_skip ?_ | refine wp_exit ?_ | ((first | refine v_some 5 tab_ok hN H (by rfl) ct_Chain ?_ | refine v_more tab_ok hN H (by rfl) (by rfl) ct_Chain ?_); clear H; intro a w H; replace H := nf_Chain H; (try simp only [List.drop_succ_cons, List.drop_zero, List.drop_nil]); try refine wpList_nil ?_) | refine wp_region_lit ?_)
        refine v_cond H (by rfl) (fun hb => ?_) (fun hb => ?_)
        · simp at hb
        · clear hb
          repeat (first | refine wp_seq ?_ | refine wp_block ?_ | refine wp_skip ?_ | refine wp_exit ?_ | ((first | refine v_some 5 tab_ok hN H (by rfl) ct_Chain ?_ | refine v_more tab_ok hN H (by rfl) (by rfl) ct_Chain ?_); clear H; intro a w H; replace H := nf_Chain H; (try simp only [List.drop_succ_cons, List.drop_zero, List.drop_nil]); try refine wpList_nil ?_) | refine wp_region_lit ?_)
          have H := v_ref H 2 0 (Nat.le_trans hN (by decide)) rfl rfl rfl
          simp only [nilT, strip, List.map_cons, List.map_nil, reduceIte, Nat.reduceEqDiff] at H
          refine v_loop (fun k : Nat => ⟨[(9, none, .v (.int .i64 (k : Int))), (7, none, .ptr 1 []), (5, none, .sl .sc (bss ls) none), (4, none, .v (.bool false)), (2, none, .ref (.ba 32) (.ba key))], [(.ba 32, .ba key), (.ba 32, .ba (sum (ls.getD (if k < ls.length then k else s.length) [])))], [0], []⟩) (fun k => k ≤ ls.length) (fun k => ls.length - k) 0 (Nat.zero_le _) (H.to 2 0 ⟨Nat.le_trans hN (by decide), hR⟩ ⟨rfl, rfl, rfl, rfl, rfl, trivial⟩ (by rw [if_pos (by omega)]; rfl) rfl rfl rfl rfl) ?_
          clear H
          intro k a w hk H
          repeat (first | refine wp_seq ?_ | refine wp_block ?_ | refine wp_skip ?_ | refine wp_exit ?_ | ((first | refine v_some 5 tab_ok hN H (by rfl) (by (try simp only [hbl]); first | done | exact ct_Chain) ?_ | refine v_more tab_ok hN H (by rfl) (by rfl) (by (try simp only [hbl]); first | done | exact ct_Chain) ?_); clear H; intro a w H; replace H := nf_Chain H; first | (simp only [hbl] at H; replace H := nf_Chain H) | skip; (try simp only [List.drop_succ_cons, List.drop_zero, List.drop_nil]); try refine wpList_nil ?_) | refine wp_region_lit ?_)
          refine v_cond H (by rfl) (fun hb => ?_) (fun hb => ?_)
          · have hlt : k < ls.length := by rw [decide_eq_true_eq] at hb; omega
            clear hb
            rw [if_pos hlt] at H
            have hg : (bss ls).getD k .any = .bs (ls.getD k []) none := by rw [← List.getElem_eq_getD (h := hlt) []]; exact bss_get ls k hlt
            have htl := hhead k (by omega)
            have hsu := sum_v (ls.getD k []) (by omega)
            have hsul := sum_length (ls.getD k [])
            repeat (first | refine wp_seq ?_ | refine wp_block ?_ | refine wp_skip ?_ | refine wp_exit ?_ | ((first | refine v_some 5 tab_ok hN H (by rfl) (by (try simp only [hbl]); first | done | exact ct_Chain) ?_ | refine v_more tab_ok hN H (by rfl) (by rfl) (by (try simp only [hbl]); first | done | exact ct_Chain) ?_); clear H; intro a w H; replace H := nf_Chain H; first | (simp only [hbl] at H; replace H := nf_Chain H) | skip; (try simp only [List.drop_succ_cons, List.drop_zero, List.drop_nil]); try refine wpList_nil ?_) | refine wp_region_lit ?_)
            repeat (first | refine wp_seq ?_ | refine wp_block ?_)
            refine v_draw 2 [4] [5] (by kernel_rfl) (by kernel_rfl) H (by rfl) (fun gS H => ?_); try replace H := nt_Chain H; first | (simp only [hbl, hg] at H; replace H := nt_Chain H) | skip
            refine v_someT 3 tab_ok hN H (by rfl) (by (try simp only [hbl, hg, hbl, hsul]); first | done | exact ct_Chain) ?_; clear H; intro a w H; replace H := nt_Chain H; first | (simp only [hbl, hg] at H; replace H := nt_Chain H) | skip; simp only [List.drop_succ_cons, List.drop_zero, List.drop_nil]
            refine v_someT 1 tab_ok hN H (by rfl) (by (try simp only [hbl, hg, hbl, hsul]); first | done | exact ct_Chain) ?_; clear H; intro a w H; replace H := nt_Chain H; first | (simp only [hbl, hg] at H; replace H := nt_Chain H) | skip; simp only [List.drop_succ_cons, List.drop_zero, List.drop_nil]
            refine v_callT [] [] (hsu) H (by rfl) (by rfl) rfl rfl (by rfl) (by simp [pickB, bxs, ren, idx?, sub_refl, sub, allP, hbl, hg] <;> omega) (by first | rfl | (simp [hbl, hg] <;> omega)) (by first | exact trivial | exact ⟨sub_refl _ _, trivial⟩ | exact ⟨sub_refl _ _, sub_refl _ _, trivial⟩ | exact ⟨sub_refl _ _, sub_refl _ _, sub_refl _ _, trivial⟩ | exact ⟨⟨rfl, sub_refl _ _, trivial⟩, sub_refl _ _, trivial⟩ | (simp [cargs, cargsG, St.ev, St.tmp, find, ren, idx?, sub_refl, sub, allP, resv, resC, bss, hbl, hg] <;> omega)) ?_; clear H; intro a w H; try replace H := nt_Chain H; first | (simp only [hbl, hg] at H; replace H := nt_Chain H) | skip
            repeat (refine v_someT 5 tab_ok hN H (by rfl) (by (try simp only [hbl, hg, hbl, hsul]); first | done | exact ct_Chain) ?_; clear H; intro a w H; replace H := nt_Chain H; first | (simp only [hbl, hg] at H; replace H := nt_Chain H) | skip; simp only [List.drop_succ_cons, List.drop_zero, List.drop_nil])
            refine v_moreT tab_ok hN H (by rfl) (by (try simp only [hbl, hg, hbl, hsul]); first | done | exact ct_Chain) ?_; clear H; intro a w H; try replace H := nt_Chain H; first | (simp only [hbl, hg] at H; replace H := nt_Chain H) | skip
            refine v_drawNil H (fun H => ?_)
            refine v_cond H (by rfl) (fun hb => ?_) (fun hb => ?_)
            · simp at hb
            · clear hb
              repeat (first | refine wp_seq ?_ | refine wp_block ?_ | refine wp_skip ?_ | refine wp_exit ?_ | ((first | refine v_some 5 tab_ok hN H (by rfl) (by (try simp only [hbl]); first | done | exact ct_Chain) ?_ | refine v_more tab_ok hN H (by rfl) (by rfl) (by (try simp only [hbl]); first | done | exact ct_Chain) ?_); clear H; intro a w H; replace H := nf_Chain H; first | (simp only [hbl] at H; replace H := nf_Chain H) | skip; (try simp only [List.drop_succ_cons, List.drop_zero, List.drop_nil]); try refine wpList_nil ?_) | refine wp_region_lit ?_)
              by_cases hlast : k + 1 < ls.length
              · refine v_cond H (by rfl) (fun hb => ?_) (fun hb => ?_)
                · clear hb
                  have hks : k < s.length := by omega
                  have hnx := hnext k hks
                  have hx : (s.getD k []).length = 32 := by rw [← List.getElem_eq_getD (h := hks) []]; exact hs _ (List.getElem_mem _)
                  have hsn := sum_length (ls.getD (k + 1) [])
                  have h65 := textD_len key k (s.getD k []) (ls.getD (k + 1) []) hx
                  rw [← hnx] at h65
                  have hif : (if k + 1 < ls.length then k + 1 else s.length) = k + 1 := if_pos hlast
                  repeat (first | refine wp_seq ?_ | refine wp_block ?_ | refine wp_skip ?_ | refine wp_exit ?_)
                  (try refine wp_region_lit ?_); refine v_steps 3 tab_ok hN H (by rfl) (by (try simp only [hbl, hg, hbl, h65]); first | done | exact ct_Chain) ?_; clear H; intro a w H; replace H := nf_Chain H; first | (simp only [hbl, hg] at H; replace H := nf_Chain H) | skip
                  repeat (first | refine wp_seq ?_ | refine wp_block ?_ | refine wp_skip ?_ | refine wp_exit ?_ | ((first | refine v_some 5 tab_ok hN H (by rfl) (by (try simp only [hbl, hg, hbl, h65]); first | done | exact ct_Chain) ?_ | refine v_more tab_ok hN H (by rfl) (by rfl) (by (try simp only [hbl, hg, hbl, h65]); first | done | exact ct_Chain) ?_); clear H; intro a w H; replace H := nf_Chain H; first | (simp only [hbl, hg] at H; replace H := nf_Chain H) | skip; (try simp only [List.drop_succ_cons, List.drop_zero, List.drop_nil]); try refine wpList_nil ?_) | refine wp_region_lit ?_)
                  refine v_cond H (by rfl) (fun hb => ?_) (fun hb => ?_)
                  · exfalso; rw [h65] at hb; simp at hb
                  · clear hb
                    have hk256 : k < 256 := by omega
                    repeat (first | refine wp_seq ?_ | refine wp_block ?_ | refine wp_skip ?_ | refine wp_exit ?_ | ((first | refine v_some 5 tab_ok hN H (by rfl) (by (try simp only [hbl, hg, hbl, h65]); first | done | exact ct_Chain) ?_ | refine v_more tab_ok hN H (by rfl) (by rfl) (by (try simp only [hbl, hg, hbl, h65]); first | done | exact ct_Chain) ?_); clear H; intro a w H; replace H := nf_Chain H; first | (simp only [hbl, hg] at H; replace H := nf_Chain H) | skip; (try simp only [List.drop_succ_cons, List.drop_zero, List.drop_nil]); try refine wpList_nil ?_) | refine wp_region_lit ?_)
                    by_cases hbn : bitN key k = true
                    · skip
                      have hbit := bit_v key hk32 (k : Int)
                      have hpb : pbit key (k : Int) = 1 := by rw [pbit, if_pos (by omega), Int.toNat_natCast, hbn]; rfl
                      rw [hpb] at hbit
                      have hcut : ((ls.getD k []).take 65).drop 33 = sum (ls.getD (k + 1) []) := by
                        rw [hnx, textD, hbn]; exact cut1 _ _ hsn hx
                      have hpo := pathOf_v (sum (ls.getD (k + 1) [])) hsn
                      repeat (first | refine wp_seq ?_ | refine wp_block ?_)
                      refine v_drawZ 0 [6, 11, 15, 19, 20] [0, 1, 2, 3, 4, 5, 7, 8, 9, 10, 12, 13, 14, 16, 17, 18] [(6, 19), (11, 19), (15, 19)] (by kernel_rfl) (by kernel_rfl) (by kernel_rfl) (by kernel_rfl) H (by rfl) (fun gS H => ?_); try replace H := nt_Chain H; first | (simp only [hbl, hg, hcut, Int.reduceMul, Int.reduceAdd, Int.reduceToNat] at H; replace H := nt_Chain H) | skip
                      refine wpZ_run 6 (i := 0) (n' := 16) (pend' := [6, 7, 8, 9, 10, 11, 12, 13, 14, 15, 16, 17, 18, 19, 20, 21]) (by rfl) (by rfl) (by rfl) (by rfl) (by rfl) ?_
                      repeat (refine v_someT 3 tab_ok hN H (by rfl) (by (try simp only [hbl, hg, hcut, Int.reduceMul, Int.reduceAdd, Int.reduceToNat, hbl, h65, hsn]); first | done | exact ct_Chain) ?_; clear H; intro a w H; replace H := nt_Chain H; first | (simp only [hbl, hg, hcut, Int.reduceMul, Int.reduceAdd, Int.reduceToNat] at H; replace H := nt_Chain H) | skip; simp only [List.drop_succ_cons, List.drop_zero, List.drop_nil])
                      refine wpT_nil ?_
                      try dsimp only
                      refine wpZ_two (cs := [19]) (by rfl) (by rfl) ?_
                      refine all2 ?_
                      refine ⟨?_, ?_⟩
                      focus
                        refine wpZ_pick (pend' := [7, 8, 9, 10, 11, 12, 13, 14, 15, 16, 17, 18, 19, 20, 21]) (by rfl) (by rfl) ?_
                        refine v_callT [] [] (hbit) H (by rfl) (by rfl) rfl rfl (by rfl) (by simp [pickB, bxs, ren, idx?, sub_refl, sub, allP, hbl, hg, hcut, Int.reduceMul, Int.reduceAdd, Int.reduceToNat] <;> omega) (by first | rfl | (simp [hbl, hg, hcut, Int.reduceMul, Int.reduceAdd, Int.reduceToNat] <;> omega)) (by first | exact trivial | exact ⟨sub_refl _ _, trivial⟩ | exact ⟨sub_refl _ _, sub_refl _ _, trivial⟩ | exact ⟨sub_refl _ _, sub_refl _ _, sub_refl _ _, trivial⟩ | exact ⟨⟨rfl, sub_refl _ _, trivial⟩, sub_refl _ _, trivial⟩ | (simp [cargs, cargsG, St.ev, St.tmp, find, ren, idx?, sub_refl, sub, allP, resv, resC, bss, hbl, hg, hcut, Int.reduceMul, Int.reduceAdd, Int.reduceToNat] <;> omega)) ?_; clear H; intro a w H; try replace H := nt_Chain H; first | (simp only [hbl, hg, hcut, Int.reduceMul, Int.reduceAdd, Int.reduceToNat] at H; replace H := nt_Chain H) | skip
                        refine wpT_nil ?_
                        try dsimp only
                        refine wpZ_run 4 (i := 7) (n' := 11) (pend' := [11, 12, 13, 14, 15, 16, 17, 18, 19, 20, 21]) (by rfl) (by rfl) (by rfl) (by rfl) (by rfl) ?_
                        repeat (refine v_someT 3 tab_ok hN H (by rfl) (by (try simp only [hbl, hg, hcut, Int.reduceMul, Int.reduceAdd, Int.reduceToNat, hbl, h65, hsn]); first | done | exact ct_Chain) ?_; clear H; intro a w H; replace H := nt_Chain H; first | (simp only [hbl, hg, hcut, Int.reduceMul, Int.reduceAdd, Int.reduceToNat] at H; replace H := nt_Chain H) | skip; simp only [List.drop_succ_cons, List.drop_zero, List.drop_nil])
                        refine wpT_nil ?_
                        try dsimp only
                        refine wpZ_two (cs := [19]) (by rfl) (by rfl) ?_
                        refine all2 ?_
                        refine ⟨?_, ?_⟩
                        focus
                          refine wpZ_pick (pend' := [12, 13, 14, 15, 16, 17, 18, 19, 20, 21]) (by rfl) (by rfl) ?_
                          refine v_callT [] [] (hbit) H (by rfl) (by rfl) rfl rfl (by rfl) (by simp [pickB, bxs, ren, idx?, sub_refl, sub, allP, hbl, hg, hcut, Int.reduceMul, Int.reduceAdd, Int.reduceToNat] <;> omega) (by first | rfl | (simp [hbl, hg, hcut, Int.reduceMul, Int.reduceAdd, Int.reduceToNat] <;> omega)) (by first | exact trivial | exact ⟨sub_refl _ _, trivial⟩ | exact ⟨sub_refl _ _, sub_refl _ _, trivial⟩ | exact ⟨sub_refl _ _, sub_refl _ _, sub_refl _ _, trivial⟩ | exact ⟨⟨rfl, sub_refl _ _, trivial⟩, sub_refl _ _, trivial⟩ | (simp [cargs, cargsG, St.ev, St.tmp, find, ren, idx?, sub_refl, sub, allP, resv, resC, bss, hbl, hg, hcut, Int.reduceMul, Int.reduceAdd, Int.reduceToNat] <;> omega)) ?_; clear H; intro a w H; try replace H := nt_Chain H; first | (simp only [hbl, hg, hcut, Int.reduceMul, Int.reduceAdd, Int.reduceToNat] at H; replace H := nt_Chain H) | skip
                          refine wpT_nil ?_
                          try dsimp only
                          refine wpZ_run 3 (i := 12) (n' := 7) (pend' := [15, 16, 17, 18, 19, 20, 21]) (by rfl) (by rfl) (by rfl) (by rfl) (by rfl) ?_
                          repeat (refine v_someT 3 tab_ok hN H (by rfl) (by (try simp only [hbl, hg, hcut, Int.reduceMul, Int.reduceAdd, Int.reduceToNat, hbl, h65, hsn]); first | done | exact ct_Chain) ?_; clear H; intro a w H; replace H := nt_Chain H; first | (simp only [hbl, hg, hcut, Int.reduceMul, Int.reduceAdd, Int.reduceToNat] at H; replace H := nt_Chain H) | skip; simp only [List.drop_succ_cons, List.drop_zero, List.drop_nil])
                          refine wpT_nil ?_
                          try dsimp only
                          refine wpZ_two (cs := [19]) (by rfl) (by rfl) ?_
                          refine all2 ?_
                          refine ⟨?_, ?_⟩
                          focus
                            refine wpZ_pick (pend' := [16, 17, 18, 19, 20, 21]) (by rfl) (by rfl) ?_
                            refine v_callT [] [] (hpo) H (by rfl) (by rfl) rfl rfl (by rfl) (by simp [pickB, bxs, ren, idx?, sub_refl, sub, allP, hbl, hg, hcut, Int.reduceMul, Int.reduceAdd, Int.reduceToNat] <;> omega) (by first | rfl | (simp [hbl, hg, hcut, Int.reduceMul, Int.reduceAdd, Int.reduceToNat] <;> omega)) (by first | exact trivial | exact ⟨sub_refl _ _, trivial⟩ | exact ⟨sub_refl _ _, sub_refl _ _, trivial⟩ | exact ⟨sub_refl _ _, sub_refl _ _, sub_refl _ _, trivial⟩ | exact ⟨⟨rfl, sub_refl _ _, trivial⟩, sub_refl _ _, trivial⟩ | (simp [cargs, cargsG, St.ev, St.tmp, find, ren, idx?, sub_refl, sub, allP, resv, resC, bss, hbl, hg, hcut, Int.reduceMul, Int.reduceAdd, Int.reduceToNat] <;> omega)) ?_; clear H; intro a w H; try replace H := nt_Chain H; first | (simp only [hbl, hg, hcut, Int.reduceMul, Int.reduceAdd, Int.reduceToNat] at H; replace H := nt_Chain H) | skip
                            refine wpT_nil ?_
                            try dsimp only
                            refine wpZ_run 3 (i := 16) (n' := 3) (pend' := [19, 20, 21]) (by rfl) (by rfl) (by rfl) (by rfl) (by rfl) ?_
                            repeat (refine v_someT 3 tab_ok hN H (by rfl) (by (try simp only [hbl, hg, hcut, Int.reduceMul, Int.reduceAdd, Int.reduceToNat, hbl, h65, hsn]); first | done | exact ct_Chain) ?_; clear H; intro a w H; replace H := nt_Chain H; first | (simp only [hbl, hg, hcut, Int.reduceMul, Int.reduceAdd, Int.reduceToNat] at H; replace H := nt_Chain H) | skip; simp only [List.drop_succ_cons, List.drop_zero, List.drop_nil])
                            refine wpT_nil ?_
                            try dsimp only
                            refine wpZ_two (cs := []) (by rfl) (by rfl) ?_
                            refine all1 ?_
                            refine wpZ_pick (pend' := [20, 21]) (by rfl) (by rfl) ?_
                            repeat (refine v_someT 3 tab_ok hN H (by rfl) (by (try simp only [hbl, hg, hcut, Int.reduceMul, Int.reduceAdd, Int.reduceToNat, hbl, h65, hsn]); first | done | exact ct_Chain) ?_; clear H; intro a w H; replace H := nt_Chain H; first | (simp only [hbl, hg, hcut, Int.reduceMul, Int.reduceAdd, Int.reduceToNat] at H; replace H := nt_Chain H) | skip; simp only [List.drop_succ_cons, List.drop_zero, List.drop_nil])
                            refine wpT_nil ?_
                            try dsimp only
                            refine wpZ_two (cs := []) (by rfl) (by rfl) ?_
                            refine all1 ?_
                            refine wpZ_pick (pend' := [21]) (by rfl) (by rfl) ?_
                            repeat (refine v_someT 3 tab_ok hN H (by rfl) (by (try simp only [hbl, hg, hcut, Int.reduceMul, Int.reduceAdd, Int.reduceToNat, hbl, h65, hsn]); first | done | exact ct_Chain) ?_; clear H; intro a w H; replace H := nt_Chain H; first | (simp only [hbl, hg, hcut, Int.reduceMul, Int.reduceAdd, Int.reduceToNat] at H; replace H := nt_Chain H) | skip; simp only [List.drop_succ_cons, List.drop_zero, List.drop_nil])
                            refine wpT_nil ?_
                            try dsimp only
                            refine wpZ_run 1 (i := 21) (n' := 0) (pend' := []) (by rfl) (by rfl) (by rfl) (by rfl) (by rfl) ?_
                            repeat (refine v_someT 3 tab_ok hN H (by rfl) (by (try simp only [hbl, hg, hcut, Int.reduceMul, Int.reduceAdd, Int.reduceToNat, hbl, h65, hsn]); first | done | exact ct_Chain) ?_; clear H; intro a w H; replace H := nt_Chain H; first | (simp only [hbl, hg, hcut, Int.reduceMul, Int.reduceAdd, Int.reduceToNat] at H; replace H := nt_Chain H) | skip; simp only [List.drop_succ_cons, List.drop_zero, List.drop_nil])
                            refine wpT_nil ?_
                            try dsimp only
                            refine wpZ_nil ?_
                            replace H := RelT.toRel H
                          rotate_left 1
                          focus
                            refine wpZ_pick (pend' := [15, 16, 17, 18, 20, 21]) (by rfl) (by rfl) ?_
                            repeat (refine v_someT 3 tab_ok hN H (by rfl) (by (try simp only [hbl, hg, hcut, Int.reduceMul, Int.reduceAdd, Int.reduceToNat, hbl, h65, hsn]); first | done | exact ct_Chain) ?_; clear H; intro a w H; replace H := nt_Chain H; first | (simp only [hbl, hg, hcut, Int.reduceMul, Int.reduceAdd, Int.reduceToNat] at H; replace H := nt_Chain H) | skip; simp only [List.drop_succ_cons, List.drop_zero, List.drop_nil])
                            refine wpT_nil ?_
                            try dsimp only
                            refine wpZ_two (cs := []) (by rfl) (by rfl) ?_
                            refine all1 ?_
                            refine wpZ_pick (pend' := [16, 17, 18, 20, 21]) (by rfl) (by rfl) ?_
                            refine v_callT [] [] (hpo) H (by rfl) (by rfl) rfl rfl (by rfl) (by simp [pickB, bxs, ren, idx?, sub_refl, sub, allP, hbl, hg, hcut, Int.reduceMul, Int.reduceAdd, Int.reduceToNat] <;> omega) (by first | rfl | (simp [hbl, hg, hcut, Int.reduceMul, Int.reduceAdd, Int.reduceToNat] <;> omega)) (by first | exact trivial | exact ⟨sub_refl _ _, trivial⟩ | exact ⟨sub_refl _ _, sub_refl _ _, trivial⟩ | exact ⟨sub_refl _ _, sub_refl _ _, sub_refl _ _, trivial⟩ | exact ⟨⟨rfl, sub_refl _ _, trivial⟩, sub_refl _ _, trivial⟩ | (simp [cargs, cargsG, St.ev, St.tmp, find, ren, idx?, sub_refl, sub, allP, resv, resC, bss, hbl, hg, hcut, Int.reduceMul, Int.reduceAdd, Int.reduceToNat] <;> omega)) ?_; clear H; intro a w H; try replace H := nt_Chain H; first | (simp only [hbl, hg, hcut, Int.reduceMul, Int.reduceAdd, Int.reduceToNat] at H; replace H := nt_Chain H) | skip
                            refine wpT_nil ?_
                            try dsimp only
                            refine wpZ_run 3 (i := 16) (n' := 2) (pend' := [20, 21]) (by rfl) (by rfl) (by rfl) (by rfl) (by rfl) ?_
                            repeat (refine v_someT 3 tab_ok hN H (by rfl) (by (try simp only [hbl, hg, hcut, Int.reduceMul, Int.reduceAdd, Int.reduceToNat, hbl, h65, hsn]); first | done | exact ct_Chain) ?_; clear H; intro a w H; replace H := nt_Chain H; first | (simp only [hbl, hg, hcut, Int.reduceMul, Int.reduceAdd, Int.reduceToNat] at H; replace H := nt_Chain H) | skip; simp only [List.drop_succ_cons, List.drop_zero, List.drop_nil])
                            refine wpT_nil ?_
                            try dsimp only
                            refine wpZ_two (cs := []) (by rfl) (by rfl) ?_
                            refine all1 ?_
                            refine wpZ_pick (pend' := [21]) (by rfl) (by rfl) ?_
                            repeat (refine v_someT 3 tab_ok hN H (by rfl) (by (try simp only [hbl, hg, hcut, Int.reduceMul, Int.reduceAdd, Int.reduceToNat, hbl, h65, hsn]); first | done | exact ct_Chain) ?_; clear H; intro a w H; replace H := nt_Chain H; first | (simp only [hbl, hg, hcut, Int.reduceMul, Int.reduceAdd, Int.reduceToNat] at H; replace H := nt_Chain H) | skip; simp only [List.drop_succ_cons, List.drop_zero, List.drop_nil])
                            refine wpT_nil ?_
                            try dsimp only
                            refine wpZ_run 1 (i := 21) (n' := 0) (pend' := []) (by rfl) (by rfl) (by rfl) (by rfl) (by rfl) ?_
                            repeat (refine v_someT 3 tab_ok hN H (by rfl) (by (try simp only [hbl, hg, hcut, Int.reduceMul, Int.reduceAdd, Int.reduceToNat, hbl, h65, hsn]); first | done | exact ct_Chain) ?_; clear H; intro a w H; replace H := nt_Chain H; first | (simp only [hbl, hg, hcut, Int.reduceMul, Int.reduceAdd, Int.reduceToNat] at H; replace H := nt_Chain H) | skip; simp only [List.drop_succ_cons, List.drop_zero, List.drop_nil])
                            refine wpT_nil ?_
                            try dsimp only
                            refine wpZ_nil ?_
                            replace H := RelT.toRel H
                        rotate_left 2
                        focus
                          refine wpZ_pick (pend' := [11, 12, 13, 14, 15, 16, 17, 18, 20, 21]) (by rfl) (by rfl) ?_
                          repeat (refine v_someT 3 tab_ok hN H (by rfl) (by (try simp only [hbl, hg, hcut, Int.reduceMul, Int.reduceAdd, Int.reduceToNat, hbl, h65, hsn]); first | done | exact ct_Chain) ?_; clear H; intro a w H; replace H := nt_Chain H; first | (simp only [hbl, hg, hcut, Int.reduceMul, Int.reduceAdd, Int.reduceToNat] at H; replace H := nt_Chain H) | skip; simp only [List.drop_succ_cons, List.drop_zero, List.drop_nil])
                          refine wpT_nil ?_
                          try dsimp only
                          refine wpZ_two (cs := []) (by rfl) (by rfl) ?_
                          refine all1 ?_
                          refine wpZ_pick (pend' := [12, 13, 14, 15, 16, 17, 18, 20, 21]) (by rfl) (by rfl) ?_
                          refine v_callT [] [] (hbit) H (by rfl) (by rfl) rfl rfl (by rfl) (by simp [pickB, bxs, ren, idx?, sub_refl, sub, allP, hbl, hg, hcut, Int.reduceMul, Int.reduceAdd, Int.reduceToNat] <;> omega) (by first | rfl | (simp [hbl, hg, hcut, Int.reduceMul, Int.reduceAdd, Int.reduceToNat] <;> omega)) (by first | exact trivial | exact ⟨sub_refl _ _, trivial⟩ | exact ⟨sub_refl _ _, sub_refl _ _, trivial⟩ | exact ⟨sub_refl _ _, sub_refl _ _, sub_refl _ _, trivial⟩ | exact ⟨⟨rfl, sub_refl _ _, trivial⟩, sub_refl _ _, trivial⟩ | (simp [cargs, cargsG, St.ev, St.tmp, find, ren, idx?, sub_refl, sub, allP, resv, resC, bss, hbl, hg, hcut, Int.reduceMul, Int.reduceAdd, Int.reduceToNat] <;> omega)) ?_; clear H; intro a w H; try replace H := nt_Chain H; first | (simp only [hbl, hg, hcut, Int.reduceMul, Int.reduceAdd, Int.reduceToNat] at H; replace H := nt_Chain H) | skip
                          refine wpT_nil ?_
                          try dsimp only
                          refine wpZ_run 3 (i := 12) (n' := 6) (pend' := [15, 16, 17, 18, 20, 21]) (by rfl) (by rfl) (by rfl) (by rfl) (by rfl) ?_
                          repeat (refine v_someT 3 tab_ok hN H (by rfl) (by (try simp only [hbl, hg, hcut, Int.reduceMul, Int.reduceAdd, Int.reduceToNat, hbl, h65, hsn]); first | done | exact ct_Chain) ?_; clear H; intro a w H; replace H := nt_Chain H; first | (simp only [hbl, hg, hcut, Int.reduceMul, Int.reduceAdd, Int.reduceToNat] at H; replace H := nt_Chain H) | skip; simp only [List.drop_succ_cons, List.drop_zero, List.drop_nil])
                          refine wpT_nil ?_
                          try dsimp only
                          refine wpZ_two (cs := []) (by rfl) (by rfl) ?_
                          refine all1 ?_
                          refine wpZ_pick (pend' := [16, 17, 18, 20, 21]) (by rfl) (by rfl) ?_
                          refine v_callT [] [] (hpo) H (by rfl) (by rfl) rfl rfl (by rfl) (by simp [pickB, bxs, ren, idx?, sub_refl, sub, allP, hbl, hg, hcut, Int.reduceMul, Int.reduceAdd, Int.reduceToNat] <;> omega) (by first | rfl | (simp [hbl, hg, hcut, Int.reduceMul, Int.reduceAdd, Int.reduceToNat] <;> omega)) (by first | exact trivial | exact ⟨sub_refl _ _, trivial⟩ | exact ⟨sub_refl _ _, sub_refl _ _, trivial⟩ | exact ⟨sub_refl _ _, sub_refl _ _, sub_refl _ _, trivial⟩ | exact ⟨⟨rfl, sub_refl _ _, trivial⟩, sub_refl _ _, trivial⟩ | (simp [cargs, cargsG, St.ev, St.tmp, find, ren, idx?, sub_refl, sub, allP, resv, resC, bss, hbl, hg, hcut, Int.reduceMul, Int.reduceAdd, Int.reduceToNat] <;> omega)) ?_; clear H; intro a w H; try replace H := nt_Chain H; first | (simp only [hbl, hg, hcut, Int.reduceMul, Int.reduceAdd, Int.reduceToNat] at H; replace H := nt_Chain H) | skip
                          refine wpT_nil ?_
                          try dsimp only
                          refine wpZ_run 3 (i := 16) (n' := 2) (pend' := [20, 21]) (by rfl) (by rfl) (by rfl) (by rfl) (by rfl) ?_
                          repeat (refine v_someT 3 tab_ok hN H (by rfl) (by (try simp only [hbl, hg, hcut, Int.reduceMul, Int.reduceAdd, Int.reduceToNat, hbl, h65, hsn]); first | done | exact ct_Chain) ?_; clear H; intro a w H; replace H := nt_Chain H; first | (simp only [hbl, hg, hcut, Int.reduceMul, Int.reduceAdd, Int.reduceToNat] at H; replace H := nt_Chain H) | skip; simp only [List.drop_succ_cons, List.drop_zero, List.drop_nil])
                          refine wpT_nil ?_
                          try dsimp only
                          refine wpZ_two (cs := []) (by rfl) (by rfl) ?_
                          refine all1 ?_
                          refine wpZ_pick (pend' := [21]) (by rfl) (by rfl) ?_
                          repeat (refine v_someT 3 tab_ok hN H (by rfl) (by (try simp only [hbl, hg, hcut, Int.reduceMul, Int.reduceAdd, Int.reduceToNat, hbl, h65, hsn]); first | done | exact ct_Chain) ?_; clear H; intro a w H; replace H := nt_Chain H; first | (simp only [hbl, hg, hcut, Int.reduceMul, Int.reduceAdd, Int.reduceToNat] at H; replace H := nt_Chain H) | skip; simp only [List.drop_succ_cons, List.drop_zero, List.drop_nil])
                          refine wpT_nil ?_
                          try dsimp only
                          refine wpZ_run 1 (i := 21) (n' := 0) (pend' := []) (by rfl) (by rfl) (by rfl) (by rfl) (by rfl) ?_
                          repeat (refine v_someT 3 tab_ok hN H (by rfl) (by (try simp only [hbl, hg, hcut, Int.reduceMul, Int.reduceAdd, Int.reduceToNat, hbl, h65, hsn]); first | done | exact ct_Chain) ?_; clear H; intro a w H; replace H := nt_Chain H; first | (simp only [hbl, hg, hcut, Int.reduceMul, Int.reduceAdd, Int.reduceToNat] at H; replace H := nt_Chain H) | skip; simp only [List.drop_succ_cons, List.drop_zero, List.drop_nil])
                          refine wpT_nil ?_
                          try dsimp only
                          refine wpZ_nil ?_
                          replace H := RelT.toRel H
                      rotate_left 3
                      focus
                        refine wpZ_pick (pend' := [6, 7, 8, 9, 10, 11, 12, 13, 14, 15, 16, 17, 18, 20, 21]) (by rfl) (by rfl) ?_
                        repeat (refine v_someT 3 tab_ok hN H (by rfl) (by (try simp only [hbl, hg, hcut, Int.reduceMul, Int.reduceAdd, Int.reduceToNat, hbl, h65, hsn]); first | done | exact ct_Chain) ?_; clear H; intro a w H; replace H := nt_Chain H; first | (simp only [hbl, hg, hcut, Int.reduceMul, Int.reduceAdd, Int.reduceToNat] at H; replace H := nt_Chain H) | skip; simp only [List.drop_succ_cons, List.drop_zero, List.drop_nil])
                        refine wpT_nil ?_
                        try dsimp only
                        refine wpZ_two (cs := []) (by rfl) (by rfl) ?_
                        refine all1 ?_
                        refine wpZ_pick (pend' := [7, 8, 9, 10, 11, 12, 13, 14, 15, 16, 17, 18, 20, 21]) (by rfl) (by rfl) ?_
                        refine v_callT [] [] (hbit) H (by rfl) (by rfl) rfl rfl (by rfl) (by simp [pickB, bxs, ren, idx?, sub_refl, sub, allP, hbl, hg, hcut, Int.reduceMul, Int.reduceAdd, Int.reduceToNat] <;> omega) (by first | rfl | (simp [hbl, hg, hcut, Int.reduceMul, Int.reduceAdd, Int.reduceToNat] <;> omega)) (by first | exact trivial | exact ⟨sub_refl _ _, trivial⟩ | exact ⟨sub_refl _ _, sub_refl _ _, trivial⟩ | exact ⟨sub_refl _ _, sub_refl _ _, sub_refl _ _, trivial⟩ | exact ⟨⟨rfl, sub_refl _ _, trivial⟩, sub_refl _ _, trivial⟩ | (simp [cargs, cargsG, St.ev, St.tmp, find, ren, idx?, sub_refl, sub, allP, resv, resC, bss, hbl, hg, hcut, Int.reduceMul, Int.reduceAdd, Int.reduceToNat] <;> omega)) ?_; clear H; intro a w H; try replace H := nt_Chain H; first | (simp only [hbl, hg, hcut, Int.reduceMul, Int.reduceAdd, Int.reduceToNat] at H; replace H := nt_Chain H) | skip
                        refine wpT_nil ?_
                        try dsimp only
                        refine wpZ_run 4 (i := 7) (n' := 10) (pend' := [11, 12, 13, 14, 15, 16, 17, 18, 20, 21]) (by rfl) (by rfl) (by rfl) (by rfl) (by rfl) ?_
                        repeat (refine v_someT 3 tab_ok hN H (by rfl) (by (try simp only [hbl, hg, hcut, Int.reduceMul, Int.reduceAdd, Int.reduceToNat, hbl, h65, hsn]); first | done | exact ct_Chain) ?_; clear H; intro a w H; replace H := nt_Chain H; first | (simp only [hbl, hg, hcut, Int.reduceMul, Int.reduceAdd, Int.reduceToNat] at H; replace H := nt_Chain H) | skip; simp only [List.drop_succ_cons, List.drop_zero, List.drop_nil])
                        refine wpT_nil ?_
                        try dsimp only
                        refine wpZ_two (cs := []) (by rfl) (by rfl) ?_
                        refine all1 ?_
                        refine wpZ_pick (pend' := [12, 13, 14, 15, 16, 17, 18, 20, 21]) (by rfl) (by rfl) ?_
                        refine v_callT [] [] (hbit) H (by rfl) (by rfl) rfl rfl (by rfl) (by simp [pickB, bxs, ren, idx?, sub_refl, sub, allP, hbl, hg, hcut, Int.reduceMul, Int.reduceAdd, Int.reduceToNat] <;> omega) (by first | rfl | (simp [hbl, hg, hcut, Int.reduceMul, Int.reduceAdd, Int.reduceToNat] <;> omega)) (by first | exact trivial | exact ⟨sub_refl _ _, trivial⟩ | exact ⟨sub_refl _ _, sub_refl _ _, trivial⟩ | exact ⟨sub_refl _ _, sub_refl _ _, sub_refl _ _, trivial⟩ | exact ⟨⟨rfl, sub_refl _ _, trivial⟩, sub_refl _ _, trivial⟩ | (simp [cargs, cargsG, St.ev, St.tmp, find, ren, idx?, sub_refl, sub, allP, resv, resC, bss, hbl, hg, hcut, Int.reduceMul, Int.reduceAdd, Int.reduceToNat] <;> omega)) ?_; clear H; intro a w H; try replace H := nt_Chain H; first | (simp only [hbl, hg, hcut, Int.reduceMul, Int.reduceAdd, Int.reduceToNat] at H; replace H := nt_Chain H) | skip
                        refine wpT_nil ?_
                        try dsimp only
                        refine wpZ_run 3 (i := 12) (n' := 6) (pend' := [15, 16, 17, 18, 20, 21]) (by rfl) (by rfl) (by rfl) (by rfl) (by rfl) ?_
                        repeat (refine v_someT 3 tab_ok hN H (by rfl) (by (try simp only [hbl, hg, hcut, Int.reduceMul, Int.reduceAdd, Int.reduceToNat, hbl, h65, hsn]); first | done | exact ct_Chain) ?_; clear H; intro a w H; replace H := nt_Chain H; first | (simp only [hbl, hg, hcut, Int.reduceMul, Int.reduceAdd, Int.reduceToNat] at H; replace H := nt_Chain H) | skip; simp only [List.drop_succ_cons, List.drop_zero, List.drop_nil])
                        refine wpT_nil ?_
                        try dsimp only
                        refine wpZ_two (cs := []) (by rfl) (by rfl) ?_
                        refine all1 ?_
                        refine wpZ_pick (pend' := [16, 17, 18, 20, 21]) (by rfl) (by rfl) ?_
                        refine v_callT [] [] (hpo) H (by rfl) (by rfl) rfl rfl (by rfl) (by simp [pickB, bxs, ren, idx?, sub_refl, sub, allP, hbl, hg, hcut, Int.reduceMul, Int.reduceAdd, Int.reduceToNat] <;> omega) (by first | rfl | (simp [hbl, hg, hcut, Int.reduceMul, Int.reduceAdd, Int.reduceToNat] <;> omega)) (by first | exact trivial | exact ⟨sub_refl _ _, trivial⟩ | exact ⟨sub_refl _ _, sub_refl _ _, trivial⟩ | exact ⟨sub_refl _ _, sub_refl _ _, sub_refl _ _, trivial⟩ | exact ⟨⟨rfl, sub_refl _ _, trivial⟩, sub_refl _ _, trivial⟩ | (simp [cargs, cargsG, St.ev, St.tmp, find, ren, idx?, sub_refl, sub, allP, resv, resC, bss, hbl, hg, hcut, Int.reduceMul, Int.reduceAdd, Int.reduceToNat] <;> omega)) ?_; clear H; intro a w H; try replace H := nt_Chain H; first | (simp only [hbl, hg, hcut, Int.reduceMul, Int.reduceAdd, Int.reduceToNat] at H; replace H := nt_Chain H) | skip
                        refine wpT_nil ?_
                        try dsimp only
                        refine wpZ_run 3 (i := 16) (n' := 2) (pend' := [20, 21]) (by rfl) (by rfl) (by rfl) (by rfl) (by rfl) ?_
                        repeat (refine v_someT 3 tab_ok hN H (by rfl) (by (try simp only [hbl, hg, hcut, Int.reduceMul, Int.reduceAdd, Int.reduceToNat, hbl, h65, hsn]); first | done | exact ct_Chain) ?_; clear H; intro a w H; replace H := nt_Chain H; first | (simp only [hbl, hg, hcut, Int.reduceMul, Int.reduceAdd, Int.reduceToNat] at H; replace H := nt_Chain H) | skip; simp only [List.drop_succ_cons, List.drop_zero, List.drop_nil])
                        refine wpT_nil ?_
                        try dsimp only
                        refine wpZ_two (cs := []) (by rfl) (by rfl) ?_
                        refine all1 ?_
                        refine wpZ_pick (pend' := [21]) (by rfl) (by rfl) ?_
                        repeat (refine v_someT 3 tab_ok hN H (by rfl) (by (try simp only [hbl, hg, hcut, Int.reduceMul, Int.reduceAdd, Int.reduceToNat, hbl, h65, hsn]); first | done | exact ct_Chain) ?_; clear H; intro a w H; replace H := nt_Chain H; first | (simp only [hbl, hg, hcut, Int.reduceMul, Int.reduceAdd, Int.reduceToNat] at H; replace H := nt_Chain H) | skip; simp only [List.drop_succ_cons, List.drop_zero, List.drop_nil])
                        refine wpT_nil ?_
                        try dsimp only
                        refine wpZ_run 1 (i := 21) (n' := 0) (pend' := []) (by rfl) (by rfl) (by rfl) (by rfl) (by rfl) ?_
                        repeat (refine v_someT 3 tab_ok hN H (by rfl) (by (try simp only [hbl, hg, hcut, Int.reduceMul, Int.reduceAdd, Int.reduceToNat, hbl, h65, hsn]); first | done | exact ct_Chain) ?_; clear H; intro a w H; replace H := nt_Chain H; first | (simp only [hbl, hg, hcut, Int.reduceMul, Int.reduceAdd, Int.reduceToNat] at H; replace H := nt_Chain H) | skip; simp only [List.drop_succ_cons, List.drop_zero, List.drop_nil])
                        refine wpT_nil ?_
                        try dsimp only
                        refine wpZ_nil ?_
                        replace H := RelT.toRel H
                      all_goals
                        repeat (first | refine wp_seq ?_ | refine wp_block ?_ | refine wp_skip ?_ | refine wp_exit ?_ | ((first | refine v_some 5 tab_ok hN H (by rfl) (by (try simp only [hbl, hsn]); first | done | exact ct_Chain) ?_ | refine v_more tab_ok hN H (by rfl) (by rfl) (by (try simp only [hbl, hsn]); first | done | exact ct_Chain) ?_); clear H; intro a w H; replace H := nf_Chain H; first | (simp only [hbl] at H; replace H := nf_Chain H) | skip; (try simp only [List.drop_succ_cons, List.drop_zero, List.drop_nil]); try refine wpList_nil ?_) | refine wp_region_lit ?_)
                        refine v_cond H (by rfl) (fun hb => ?_) (fun hb => ?_)
                        · simp at hb
                        · clear hb
                          repeat (first | refine wp_seq ?_ | refine wp_block ?_ | refine wp_skip ?_ | refine wp_exit ?_ | ((first | refine v_some 5 tab_ok hN H (by rfl) (by (try simp only [hbl, hsn]); first | done | exact ct_Chain) ?_ | refine v_more tab_ok hN H (by rfl) (by rfl) (by (try simp only [hbl, hsn]); first | done | exact ct_Chain) ?_); clear H; intro a w H; replace H := nf_Chain H; first | (simp only [hbl] at H; replace H := nf_Chain H) | skip; (try simp only [List.drop_succ_cons, List.drop_zero, List.drop_nil]); try refine wpList_nil ?_) | refine wp_region_lit ?_)
                          exact ⟨k + 1, hlt, by omega, H.to 2 0 ⟨Nat.le_trans hN (by decide), hR⟩ ⟨rfl, rfl, rfl, rfl, rfl, trivial⟩ (by rw [hif]; rfl) rfl rfl rfl rfl⟩
                    · skip
                      have hbit := bit_v key hk32 (k : Int)
                      have hpb : pbit key (k : Int) = 0 := by rw [pbit, if_pos (by omega), Int.toNat_natCast, Bool.eq_false_iff.2 hbn]; rfl
                      rw [hpb] at hbit
                      have hcut : ((ls.getD k []).take 33).drop 1 = sum (ls.getD (k + 1) []) := by
                        rw [hnx, textD, Bool.eq_false_iff.2 hbn]; exact cut0 _ _ hsn hx
                      have hpo := pathOf_v (sum (ls.getD (k + 1) [])) hsn
                      repeat (first | refine wp_seq ?_ | refine wp_block ?_)
                      refine v_drawZ 0 [6, 11, 15, 19, 20] [0, 1, 2, 3, 4, 5, 7, 8, 9, 10, 12, 13, 14, 16, 17, 18] [(6, 19), (11, 19), (15, 19)] (by kernel_rfl) (by kernel_rfl) (by kernel_rfl) (by kernel_rfl) H (by rfl) (fun gS H => ?_); try replace H := nt_Chain H; first | (simp only [hbl, hg, hcut, Int.reduceMul, Int.reduceAdd, Int.reduceToNat] at H; replace H := nt_Chain H) | skip
                      refine wpZ_run 6 (i := 0) (n' := 16) (pend' := [6, 7, 8, 9, 10, 11, 12, 13, 14, 15, 16, 17, 18, 19, 20, 21]) (by rfl) (by rfl) (by rfl) (by rfl) (by rfl) ?_
                      repeat (refine v_someT 3 tab_ok hN H (by rfl) (by (try simp only [hbl, hg, hcut, Int.reduceMul, Int.reduceAdd, Int.reduceToNat, hbl, h65, hsn]); first | done | exact ct_Chain) ?_; clear H; intro a w H; replace H := nt_Chain H; first | (simp only [hbl, hg, hcut, Int.reduceMul, Int.reduceAdd, Int.reduceToNat] at H; replace H := nt_Chain H) | skip; simp only [List.drop_succ_cons, List.drop_zero, List.drop_nil])
                      refine wpT_nil ?_
                      try dsimp only
                      refine wpZ_two (cs := [19]) (by rfl) (by rfl) ?_
                      refine all2 ?_
                      refine ⟨?_, ?_⟩
                      focus
                        refine wpZ_pick (pend' := [7, 8, 9, 10, 11, 12, 13, 14, 15, 16, 17, 18, 19, 20, 21]) (by rfl) (by rfl) ?_
                        refine v_callT [] [] (hbit) H (by rfl) (by rfl) rfl rfl (by rfl) (by simp [pickB, bxs, ren, idx?, sub_refl, sub, allP, hbl, hg, hcut, Int.reduceMul, Int.reduceAdd, Int.reduceToNat] <;> omega) (by first | rfl | (simp [hbl, hg, hcut, Int.reduceMul, Int.reduceAdd, Int.reduceToNat] <;> omega)) (by first | exact trivial | exact ⟨sub_refl _ _, trivial⟩ | exact ⟨sub_refl _ _, sub_refl _ _, trivial⟩ | exact ⟨sub_refl _ _, sub_refl _ _, sub_refl _ _, trivial⟩ | exact ⟨⟨rfl, sub_refl _ _, trivial⟩, sub_refl _ _, trivial⟩ | (simp [cargs, cargsG, St.ev, St.tmp, find, ren, idx?, sub_refl, sub, allP, resv, resC, bss, hbl, hg, hcut, Int.reduceMul, Int.reduceAdd, Int.reduceToNat] <;> omega)) ?_; clear H; intro a w H; try replace H := nt_Chain H; first | (simp only [hbl, hg, hcut, Int.reduceMul, Int.reduceAdd, Int.reduceToNat] at H; replace H := nt_Chain H) | skip
                        refine wpT_nil ?_
                        try dsimp only
                        refine wpZ_run 4 (i := 7) (n' := 11) (pend' := [11, 12, 13, 14, 15, 16, 17, 18, 19, 20, 21]) (by rfl) (by rfl) (by rfl) (by rfl) (by rfl) ?_
                        repeat (refine v_someT 3 tab_ok hN H (by rfl) (by (try simp only [hbl, hg, hcut, Int.reduceMul, Int.reduceAdd, Int.reduceToNat, hbl, h65, hsn]); first | done | exact ct_Chain) ?_; clear H; intro a w H; replace H := nt_Chain H; first | (simp only [hbl, hg, hcut, Int.reduceMul, Int.reduceAdd, Int.reduceToNat] at H; replace H := nt_Chain H) | skip; simp only [List.drop_succ_cons, List.drop_zero, List.drop_nil])
                        refine wpT_nil ?_
                        try dsimp only
                        refine wpZ_two (cs := [19]) (by rfl) (by rfl) ?_
                        refine all2 ?_
                        refine ⟨?_, ?_⟩
                        focus
                          refine wpZ_pick (pend' := [12, 13, 14, 15, 16, 17, 18, 19, 20, 21]) (by rfl) (by rfl) ?_
                          refine v_callT [] [] (hbit) H (by rfl) (by rfl) rfl rfl (by rfl) (by simp [pickB, bxs, ren, idx?, sub_refl, sub, allP, hbl, hg, hcut, Int.reduceMul, Int.reduceAdd, Int.reduceToNat] <;> omega) (by first | rfl | (simp [hbl, hg, hcut, Int.reduceMul, Int.reduceAdd, Int.reduceToNat] <;> omega)) (by first | exact trivial | exact ⟨sub_refl _ _, trivial⟩ | exact ⟨sub_refl _ _, sub_refl _ _, trivial⟩ | exact ⟨sub_refl _ _, sub_refl _ _, sub_refl _ _, trivial⟩ | exact ⟨⟨rfl, sub_refl _ _, trivial⟩, sub_refl _ _, trivial⟩ | (simp [cargs, cargsG, St.ev, St.tmp, find, ren, idx?, sub_refl, sub, allP, resv, resC, bss, hbl, hg, hcut, Int.reduceMul, Int.reduceAdd, Int.reduceToNat] <;> omega)) ?_; clear H; intro a w H; try replace H := nt_Chain H; first | (simp only [hbl, hg, hcut, Int.reduceMul, Int.reduceAdd, Int.reduceToNat] at H; replace H := nt_Chain H) | skip
                          refine wpT_nil ?_
                          try dsimp only
                          refine wpZ_run 3 (i := 12) (n' := 7) (pend' := [15, 16, 17, 18, 19, 20, 21]) (by rfl) (by rfl) (by rfl) (by rfl) (by rfl) ?_
                          repeat (refine v_someT 3 tab_ok hN H (by rfl) (by (try simp only [hbl, hg, hcut, Int.reduceMul, Int.reduceAdd, Int.reduceToNat, hbl, h65, hsn]); first | done | exact ct_Chain) ?_; clear H; intro a w H; replace H := nt_Chain H; first | (simp only [hbl, hg, hcut, Int.reduceMul, Int.reduceAdd, Int.reduceToNat] at H; replace H := nt_Chain H) | skip; simp only [List.drop_succ_cons, List.drop_zero, List.drop_nil])
                          refine wpT_nil ?_
                          try dsimp only
                          refine wpZ_two (cs := [19]) (by rfl) (by rfl) ?_
                          refine all2 ?_
                          refine ⟨?_, ?_⟩
                          focus
                            refine wpZ_pick (pend' := [16, 17, 18, 19, 20, 21]) (by rfl) (by rfl) ?_
                            refine v_callT [] [] (hpo) H (by rfl) (by rfl) rfl rfl (by rfl) (by simp [pickB, bxs, ren, idx?, sub_refl, sub, allP, hbl, hg, hcut, Int.reduceMul, Int.reduceAdd, Int.reduceToNat] <;> omega) (by first | rfl | (simp [hbl, hg, hcut, Int.reduceMul, Int.reduceAdd, Int.reduceToNat] <;> omega)) (by first | exact trivial | exact ⟨sub_refl _ _, trivial⟩ | exact ⟨sub_refl _ _, sub_refl _ _, trivial⟩ | exact ⟨sub_refl _ _, sub_refl _ _, sub_refl _ _, trivial⟩ | exact ⟨⟨rfl, sub_refl _ _, trivial⟩, sub_refl _ _, trivial⟩ | (simp [cargs, cargsG, St.ev, St.tmp, find, ren, idx?, sub_refl, sub, allP, resv, resC, bss, hbl, hg, hcut, Int.reduceMul, Int.reduceAdd, Int.reduceToNat] <;> omega)) ?_; clear H; intro a w H; try replace H := nt_Chain H; first | (simp only [hbl, hg, hcut, Int.reduceMul, Int.reduceAdd, Int.reduceToNat] at H; replace H := nt_Chain H) | skip
                            refine wpT_nil ?_
                            try dsimp only
                            refine wpZ_run 3 (i := 16) (n' := 3) (pend' := [19, 20, 21]) (by rfl) (by rfl) (by rfl) (by rfl) (by rfl) ?_
                            repeat (refine v_someT 3 tab_ok hN H (by rfl) (by (try simp only [hbl, hg, hcut, Int.reduceMul, Int.reduceAdd, Int.reduceToNat, hbl, h65, hsn]); first | done | exact ct_Chain) ?_; clear H; intro a w H; replace H := nt_Chain H; first | (simp only [hbl, hg, hcut, Int.reduceMul, Int.reduceAdd, Int.reduceToNat] at H; replace H := nt_Chain H) | skip; simp only [List.drop_succ_cons, List.drop_zero, List.drop_nil])
                            refine wpT_nil ?_
                            try dsimp only
                            refine wpZ_two (cs := []) (by rfl) (by rfl) ?_
                            refine all1 ?_
                            refine wpZ_pick (pend' := [20, 21]) (by rfl) (by rfl) ?_
                            repeat (refine v_someT 3 tab_ok hN H (by rfl) (by (try simp only [hbl, hg, hcut, Int.reduceMul, Int.reduceAdd, Int.reduceToNat, hbl, h65, hsn]); first | done | exact ct_Chain) ?_; clear H; intro a w H; replace H := nt_Chain H; first | (simp only [hbl, hg, hcut, Int.reduceMul, Int.reduceAdd, Int.reduceToNat] at H; replace H := nt_Chain H) | skip; simp only [List.drop_succ_cons, List.drop_zero, List.drop_nil])
                            refine wpT_nil ?_
                            try dsimp only
                            refine wpZ_two (cs := []) (by rfl) (by rfl) ?_
                            refine all1 ?_
                            refine wpZ_pick (pend' := [21]) (by rfl) (by rfl) ?_
                            repeat (refine v_someT 3 tab_ok hN H (by rfl) (by (try simp only [hbl, hg, hcut, Int.reduceMul, Int.reduceAdd, Int.reduceToNat, hbl, h65, hsn]); first | done | exact ct_Chain) ?_; clear H; intro a w H; replace H := nt_Chain H; first | (simp only [hbl, hg, hcut, Int.reduceMul, Int.reduceAdd, Int.reduceToNat] at H; replace H := nt_Chain H) | skip; simp only [List.drop_succ_cons, List.drop_zero, List.drop_nil])
                            refine wpT_nil ?_
                            try dsimp only
                            refine wpZ_run 1 (i := 21) (n' := 0) (pend' := []) (by rfl) (by rfl) (by rfl) (by rfl) (by rfl) ?_
                            repeat (refine v_someT 3 tab_ok hN H (by rfl) (by (try simp only [hbl, hg, hcut, Int.reduceMul, Int.reduceAdd, Int.reduceToNat, hbl, h65, hsn]); first | done | exact ct_Chain) ?_; clear H; intro a w H; replace H := nt_Chain H; first | (simp only [hbl, hg, hcut, Int.reduceMul, Int.reduceAdd, Int.reduceToNat] at H; replace H := nt_Chain H) | skip; simp only [List.drop_succ_cons, List.drop_zero, List.drop_nil])
                            refine wpT_nil ?_
                            try dsimp only
                            refine wpZ_nil ?_
                            replace H := RelT.toRel H
                          rotate_left 1
                          focus
                            refine wpZ_pick (pend' := [15, 16, 17, 18, 20, 21]) (by rfl) (by rfl) ?_
                            repeat (refine v_someT 3 tab_ok hN H (by rfl) (by (try simp only [hbl, hg, hcut, Int.reduceMul, Int.reduceAdd, Int.reduceToNat, hbl, h65, hsn]); first | done | exact ct_Chain) ?_; clear H; intro a w H; replace H := nt_Chain H; first | (simp only [hbl, hg, hcut, Int.reduceMul, Int.reduceAdd, Int.reduceToNat] at H; replace H := nt_Chain H) | skip; simp only [List.drop_succ_cons, List.drop_zero, List.drop_nil])
                            refine wpT_nil ?_
                            try dsimp only
                            refine wpZ_two (cs := []) (by rfl) (by rfl) ?_
                            refine all1 ?_
                            refine wpZ_pick (pend' := [16, 17, 18, 20, 21]) (by rfl) (by rfl) ?_
                            refine v_callT [] [] (hpo) H (by rfl) (by rfl) rfl rfl (by rfl) (by simp [pickB, bxs, ren, idx?, sub_refl, sub, allP, hbl, hg, hcut, Int.reduceMul, Int.reduceAdd, Int.reduceToNat] <;> omega) (by first | rfl | (simp [hbl, hg, hcut, Int.reduceMul, Int.reduceAdd, Int.reduceToNat] <;> omega)) (by first | exact trivial | exact ⟨sub_refl _ _, trivial⟩ | exact ⟨sub_refl _ _, sub_refl _ _, trivial⟩ | exact ⟨sub_refl _ _, sub_refl _ _, sub_refl _ _, trivial⟩ | exact ⟨⟨rfl, sub_refl _ _, trivial⟩, sub_refl _ _, trivial⟩ | (simp [cargs, cargsG, St.ev, St.tmp, find, ren, idx?, sub_refl, sub, allP, resv, resC, bss, hbl, hg, hcut, Int.reduceMul, Int.reduceAdd, Int.reduceToNat] <;> omega)) ?_; clear H; intro a w H; try replace H := nt_Chain H; first | (simp only [hbl, hg, hcut, Int.reduceMul, Int.reduceAdd, Int.reduceToNat] at H; replace H := nt_Chain H) | skip
                            refine wpT_nil ?_
                            try dsimp only
                            refine wpZ_run 3 (i := 16) (n' := 2) (pend' := [20, 21]) (by rfl) (by rfl) (by rfl) (by rfl) (by rfl) ?_
                            repeat (refine v_someT 3 tab_ok hN H (by rfl) (by (try simp only [hbl, hg, hcut, Int.reduceMul, Int.reduceAdd, Int.reduceToNat, hbl, h65, hsn]); first | done | exact ct_Chain) ?_; clear H; intro a w H; replace H := nt_Chain H; first | (simp only [hbl, hg, hcut, Int.reduceMul, Int.reduceAdd, Int.reduceToNat] at H; replace H := nt_Chain H) | skip; simp only [List.drop_succ_cons, List.drop_zero, List.drop_nil])
                            refine wpT_nil ?_
                            try dsimp only
                            refine wpZ_two (cs := []) (by rfl) (by rfl) ?_
                            refine all1 ?_
                            refine wpZ_pick (pend' := [21]) (by rfl) (by rfl) ?_
                            repeat (refine v_someT 3 tab_ok hN H (by rfl) (by (try simp only [hbl, hg, hcut, Int.reduceMul, Int.reduceAdd, Int.reduceToNat, hbl, h65, hsn]); first | done | exact ct_Chain) ?_; clear H; intro a w H; replace H := nt_Chain H; first | (simp only [hbl, hg, hcut, Int.reduceMul, Int.reduceAdd, Int.reduceToNat] at H; replace H := nt_Chain H) | skip; simp only [List.drop_succ_cons, List.drop_zero, List.drop_nil])
                            refine wpT_nil ?_
                            try dsimp only
                            refine wpZ_run 1 (i := 21) (n' := 0) (pend' := []) (by rfl) (by rfl) (by rfl) (by rfl) (by rfl) ?_
                            repeat (refine v_someT 3 tab_ok hN H (by rfl) (by (try simp only [hbl, hg, hcut, Int.reduceMul, Int.reduceAdd, Int.reduceToNat, hbl, h65, hsn]); first | done | exact ct_Chain) ?_; clear H; intro a w H; replace H := nt_Chain H; first | (simp only [hbl, hg, hcut, Int.reduceMul, Int.reduceAdd, Int.reduceToNat] at H; replace H := nt_Chain H) | skip; simp only [List.drop_succ_cons, List.drop_zero, List.drop_nil])
                            refine wpT_nil ?_
                            try dsimp only
                            refine wpZ_nil ?_
                            replace H := RelT.toRel H
                        rotate_left 2
                        focus
                          refine wpZ_pick (pend' := [11, 12, 13, 14, 15, 16, 17, 18, 20, 21]) (by rfl) (by rfl) ?_
                          repeat (refine v_someT 3 tab_ok hN H (by rfl) (by (try simp only [hbl, hg, hcut, Int.reduceMul, Int.reduceAdd, Int.reduceToNat, hbl, h65, hsn]); first | done | exact ct_Chain) ?_; clear H; intro a w H; replace H := nt_Chain H; first | (simp only [hbl, hg, hcut, Int.reduceMul, Int.reduceAdd, Int.reduceToNat] at H; replace H := nt_Chain H) | skip; simp only [List.drop_succ_cons, List.drop_zero, List.drop_nil])
                          refine wpT_nil ?_
                          try dsimp only
                          refine wpZ_two (cs := []) (by rfl) (by rfl) ?_
                          refine all1 ?_
                          refine wpZ_pick (pend' := [12, 13, 14, 15, 16, 17, 18, 20, 21]) (by rfl) (by rfl) ?_
                          refine v_callT [] [] (hbit) H (by rfl) (by rfl) rfl rfl (by rfl) (by simp [pickB, bxs, ren, idx?, sub_refl, sub, allP, hbl, hg, hcut, Int.reduceMul, Int.reduceAdd, Int.reduceToNat] <;> omega) (by first | rfl | (simp [hbl, hg, hcut, Int.reduceMul, Int.reduceAdd, Int.reduceToNat] <;> omega)) (by first | exact trivial | exact ⟨sub_refl _ _, trivial⟩ | exact ⟨sub_refl _ _, sub_refl _ _, trivial⟩ | exact ⟨sub_refl _ _, sub_refl _ _, sub_refl _ _, trivial⟩ | exact ⟨⟨rfl, sub_refl _ _, trivial⟩, sub_refl _ _, trivial⟩ | (simp [cargs, cargsG, St.ev, St.tmp, find, ren, idx?, sub_refl, sub, allP, resv, resC, bss, hbl, hg, hcut, Int.reduceMul, Int.reduceAdd, Int.reduceToNat] <;> omega)) ?_; clear H; intro a w H; try replace H := nt_Chain H; first | (simp only [hbl, hg, hcut, Int.reduceMul, Int.reduceAdd, Int.reduceToNat] at H; replace H := nt_Chain H) | skip
                          refine wpT_nil ?_
                          try dsimp only
                          refine wpZ_run 3 (i := 12) (n' := 6) (pend' := [15, 16, 17, 18, 20, 21]) (by rfl) (by rfl) (by rfl) (by rfl) (by rfl) ?_
                          repeat (refine v_someT 3 tab_ok hN H (by rfl) (by (try simp only [hbl, hg, hcut, Int.reduceMul, Int.reduceAdd, Int.reduceToNat, hbl, h65, hsn]); first | done | exact ct_Chain) ?_; clear H; intro a w H; replace H := nt_Chain H; first | (simp only [hbl, hg, hcut, Int.reduceMul, Int.reduceAdd, Int.reduceToNat] at H; replace H := nt_Chain H) | skip; simp only [List.drop_succ_cons, List.drop_zero, List.drop_nil])
                          refine wpT_nil ?_
                          try dsimp only
                          refine wpZ_two (cs := []) (by rfl) (by rfl) ?_
                          refine all1 ?_
                          refine wpZ_pick (pend' := [16, 17, 18, 20, 21]) (by rfl) (by rfl) ?_
                          refine v_callT [] [] (hpo) H (by rfl) (by rfl) rfl rfl (by rfl) (by simp [pickB, bxs, ren, idx?, sub_refl, sub, allP, hbl, hg, hcut, Int.reduceMul, Int.reduceAdd, Int.reduceToNat] <;> omega) (by first | rfl | (simp [hbl, hg, hcut, Int.reduceMul, Int.reduceAdd, Int.reduceToNat] <;> omega)) (by first | exact trivial | exact ⟨sub_refl _ _, trivial⟩ | exact ⟨sub_refl _ _, sub_refl _ _, trivial⟩ | exact ⟨sub_refl _ _, sub_refl _ _, sub_refl _ _, trivial⟩ | exact ⟨⟨rfl, sub_refl _ _, trivial⟩, sub_refl _ _, trivial⟩ | (simp [cargs, cargsG, St.ev, St.tmp, find, ren, idx?, sub_refl, sub, allP, resv, resC, bss, hbl, hg, hcut, Int.reduceMul, Int.reduceAdd, Int.reduceToNat] <;> omega)) ?_; clear H; intro a w H; try replace H := nt_Chain H; first | (simp only [hbl, hg, hcut, Int.reduceMul, Int.reduceAdd, Int.reduceToNat] at H; replace H := nt_Chain H) | skip
                          refine wpT_nil ?_
                          try dsimp only
                          refine wpZ_run 3 (i := 16) (n' := 2) (pend' := [20, 21]) (by rfl) (by rfl) (by rfl) (by rfl) (by rfl) ?_
                          repeat (refine v_someT 3 tab_ok hN H (by rfl) (by (try simp only [hbl, hg, hcut, Int.reduceMul, Int.reduceAdd, Int.reduceToNat, hbl, h65, hsn]); first | done | exact ct_Chain) ?_; clear H; intro a w H; replace H := nt_Chain H; first | (simp only [hbl, hg, hcut, Int.reduceMul, Int.reduceAdd, Int.reduceToNat] at H; replace H := nt_Chain H) | skip; simp only [List.drop_succ_cons, List.drop_zero, List.drop_nil])
                          refine wpT_nil ?_
                          try dsimp only
                          refine wpZ_two (cs := []) (by rfl) (by rfl) ?_
                          refine all1 ?_
                          refine wpZ_pick (pend' := [21]) (by rfl) (by rfl) ?_
                          repeat (refine v_someT 3 tab_ok hN H (by rfl) (by (try simp only [hbl, hg, hcut, Int.reduceMul, Int.reduceAdd, Int.reduceToNat, hbl, h65, hsn]); first | done | exact ct_Chain) ?_; clear H; intro a w H; replace H := nt_Chain H; first | (simp only [hbl, hg, hcut, Int.reduceMul, Int.reduceAdd, Int.reduceToNat] at H; replace H := nt_Chain H) | skip; simp only [List.drop_succ_cons, List.drop_zero, List.drop_nil])
                          refine wpT_nil ?_
                          try dsimp only
                          refine wpZ_run 1 (i := 21) (n' := 0) (pend' := []) (by rfl) (by rfl) (by rfl) (by rfl) (by rfl) ?_
                          repeat (refine v_someT 3 tab_ok hN H (by rfl) (by (try simp only [hbl, hg, hcut, Int.reduceMul, Int.reduceAdd, Int.reduceToNat, hbl, h65, hsn]); first | done | exact ct_Chain) ?_; clear H; intro a w H; replace H := nt_Chain H; first | (simp only [hbl, hg, hcut, Int.reduceMul, Int.reduceAdd, Int.reduceToNat] at H; replace H := nt_Chain H) | skip; simp only [List.drop_succ_cons, List.drop_zero, List.drop_nil])
                          refine wpT_nil ?_
                          try dsimp only
                          refine wpZ_nil ?_
                          replace H := RelT.toRel H
                      rotate_left 3
                      focus
                        refine wpZ_pick (pend' := [6, 7, 8, 9, 10, 11, 12, 13, 14, 15, 16, 17, 18, 20, 21]) (by rfl) (by rfl) ?_
                        repeat (refine v_someT 3 tab_ok hN H (by rfl) (by (try simp only [hbl, hg, hcut, Int.reduceMul, Int.reduceAdd, Int.reduceToNat, hbl, h65, hsn]); first | done | exact ct_Chain) ?_; clear H; intro a w H; replace H := nt_Chain H; first | (simp only [hbl, hg, hcut, Int.reduceMul, Int.reduceAdd, Int.reduceToNat] at H; replace H := nt_Chain H) | skip; simp only [List.drop_succ_cons, List.drop_zero, List.drop_nil])
                        refine wpT_nil ?_
                        try dsimp only
                        refine wpZ_two (cs := []) (by rfl) (by rfl) ?_
                        refine all1 ?_
                        refine wpZ_pick (pend' := [7, 8, 9, 10, 11, 12, 13, 14, 15, 16, 17, 18, 20, 21]) (by rfl) (by rfl) ?_
                        refine v_callT [] [] (hbit) H (by rfl) (by rfl) rfl rfl (by rfl) (by simp [pickB, bxs, ren, idx?, sub_refl, sub, allP, hbl, hg, hcut, Int.reduceMul, Int.reduceAdd, Int.reduceToNat] <;> omega) (by first | rfl | (simp [hbl, hg, hcut, Int.reduceMul, Int.reduceAdd, Int.reduceToNat] <;> omega)) (by first | exact trivial | exact ⟨sub_refl _ _, trivial⟩ | exact ⟨sub_refl _ _, sub_refl _ _, trivial⟩ | exact ⟨sub_refl _ _, sub_refl _ _, sub_refl _ _, trivial⟩ | exact ⟨⟨rfl, sub_refl _ _, trivial⟩, sub_refl _ _, trivial⟩ | (simp [cargs, cargsG, St.ev, St.tmp, find, ren, idx?, sub_refl, sub, allP, resv, resC, bss, hbl, hg, hcut, Int.reduceMul, Int.reduceAdd, Int.reduceToNat] <;> omega)) ?_; clear H; intro a w H; try replace H := nt_Chain H; first | (simp only [hbl, hg, hcut, Int.reduceMul, Int.reduceAdd, Int.reduceToNat] at H; replace H := nt_Chain H) | skip
                        refine wpT_nil ?_
                        try dsimp only
                        refine wpZ_run 4 (i := 7) (n' := 10) (pend' := [11, 12, 13, 14, 15, 16, 17, 18, 20, 21]) (by rfl) (by rfl) (by rfl) (by rfl) (by rfl) ?_
                        repeat (refine v_someT 3 tab_ok hN H (by rfl) (by (try simp only [hbl, hg, hcut, Int.reduceMul, Int.reduceAdd, Int.reduceToNat, hbl, h65, hsn]); first | done | exact ct_Chain) ?_; clear H; intro a w H; replace H := nt_Chain H; first | (simp only [hbl, hg, hcut, Int.reduceMul, Int.reduceAdd, Int.reduceToNat] at H; replace H := nt_Chain H) | skip; simp only [List.drop_succ_cons, List.drop_zero, List.drop_nil])
                        refine wpT_nil ?_
                        try dsimp only
                        refine wpZ_two (cs := []) (by rfl) (by rfl) ?_
                        refine all1 ?_
                        refine wpZ_pick (pend' := [12, 13, 14, 15, 16, 17, 18, 20, 21]) (by rfl) (by rfl) ?_
                        refine v_callT [] [] (hbit) H (by rfl) (by rfl) rfl rfl (by rfl) (by simp [pickB, bxs, ren, idx?, sub_refl, sub, allP, hbl, hg, hcut, Int.reduceMul, Int.reduceAdd, Int.reduceToNat] <;> omega) (by first | rfl | (simp [hbl, hg, hcut, Int.reduceMul, Int.reduceAdd, Int.reduceToNat] <;> omega)) (by first | exact trivial | exact ⟨sub_refl _ _, trivial⟩ | exact ⟨sub_refl _ _, sub_refl _ _, trivial⟩ | exact ⟨sub_refl _ _, sub_refl _ _, sub_refl _ _, trivial⟩ | exact ⟨⟨rfl, sub_refl _ _, trivial⟩, sub_refl _ _, trivial⟩ | (simp [cargs, cargsG, St.ev, St.tmp, find, ren, idx?, sub_refl, sub, allP, resv, resC, bss, hbl, hg, hcut, Int.reduceMul, Int.reduceAdd, Int.reduceToNat] <;> omega)) ?_; clear H; intro a w H; try replace H := nt_Chain H; first | (simp only [hbl, hg, hcut, Int.reduceMul, Int.reduceAdd, Int.reduceToNat] at H; replace H := nt_Chain H) | skip
                        refine wpT_nil ?_
                        try dsimp only
                        refine wpZ_run 3 (i := 12) (n' := 6) (pend' := [15, 16, 17, 18, 20, 21]) (by rfl) (by rfl) (by rfl) (by rfl) (by rfl) ?_
                        repeat (refine v_someT 3 tab_ok hN H (by rfl) (by (try simp only [hbl, hg, hcut, Int.reduceMul, Int.reduceAdd, Int.reduceToNat, hbl, h65, hsn]); first | done | exact ct_Chain) ?_; clear H; intro a w H; replace H := nt_Chain H; first | (simp only [hbl, hg, hcut, Int.reduceMul, Int.reduceAdd, Int.reduceToNat] at H; replace H := nt_Chain H) | skip; simp only [List.drop_succ_cons, List.drop_zero, List.drop_nil])
                        refine wpT_nil ?_
                        try dsimp only
                        refine wpZ_two (cs := []) (by rfl) (by rfl) ?_
                        refine all1 ?_
                        refine wpZ_pick (pend' := [16, 17, 18, 20, 21]) (by rfl) (by rfl) ?_
                        refine v_callT [] [] (hpo) H (by rfl) (by rfl) rfl rfl (by rfl) (by simp [pickB, bxs, ren, idx?, sub_refl, sub, allP, hbl, hg, hcut, Int.reduceMul, Int.reduceAdd, Int.reduceToNat] <;> omega) (by first | rfl | (simp [hbl, hg, hcut, Int.reduceMul, Int.reduceAdd, Int.reduceToNat] <;> omega)) (by first | exact trivial | exact ⟨sub_refl _ _, trivial⟩ | exact ⟨sub_refl _ _, sub_refl _ _, trivial⟩ | exact ⟨sub_refl _ _, sub_refl _ _, sub_refl _ _, trivial⟩ | exact ⟨⟨rfl, sub_refl _ _, trivial⟩, sub_refl _ _, trivial⟩ | (simp [cargs, cargsG, St.ev, St.tmp, find, ren, idx?, sub_refl, sub, allP, resv, resC, bss, hbl, hg, hcut, Int.reduceMul, Int.reduceAdd, Int.reduceToNat] <;> omega)) ?_; clear H; intro a w H; try replace H := nt_Chain H; first | (simp only [hbl, hg, hcut, Int.reduceMul, Int.reduceAdd, Int.reduceToNat] at H; replace H := nt_Chain H) | skip
                        refine wpT_nil ?_
                        try dsimp only
                        refine wpZ_run 3 (i := 16) (n' := 2) (pend' := [20, 21]) (by rfl) (by rfl) (by rfl) (by rfl) (by rfl) ?_
                        repeat (refine v_someT 3 tab_ok hN H (by rfl) (by (try simp only [hbl, hg, hcut, Int.reduceMul, Int.reduceAdd, Int.reduceToNat, hbl, h65, hsn]); first | done | exact ct_Chain) ?_; clear H; intro a w H; replace H := nt_Chain H; first | (simp only [hbl, hg, hcut, Int.reduceMul, Int.reduceAdd, Int.reduceToNat] at H; replace H := nt_Chain H) | skip; simp only [List.drop_succ_cons, List.drop_zero, List.drop_nil])
                        refine wpT_nil ?_
                        try dsimp only
                        refine wpZ_two (cs := []) (by rfl) (by rfl) ?_
                        refine all1 ?_
                        refine wpZ_pick (pend' := [21]) (by rfl) (by rfl) ?_
                        repeat (refine v_someT 3 tab_ok hN H (by rfl) (by (try simp only [hbl, hg, hcut, Int.reduceMul, Int.reduceAdd, Int.reduceToNat, hbl, h65, hsn]); first | done | exact ct_Chain) ?_; clear H; intro a w H; replace H := nt_Chain H; first | (simp only [hbl, hg, hcut, Int.reduceMul, Int.reduceAdd, Int.reduceToNat] at H; replace H := nt_Chain H) | skip; simp only [List.drop_succ_cons, List.drop_zero, List.drop_nil])
                        refine wpT_nil ?_
                        try dsimp only
                        refine wpZ_run 1 (i := 21) (n' := 0) (pend' := []) (by rfl) (by rfl) (by rfl) (by rfl) (by rfl) ?_
                        repeat (refine v_someT 3 tab_ok hN H (by rfl) (by (try simp only [hbl, hg, hcut, Int.reduceMul, Int.reduceAdd, Int.reduceToNat, hbl, h65, hsn]); first | done | exact ct_Chain) ?_; clear H; intro a w H; replace H := nt_Chain H; first | (simp only [hbl, hg, hcut, Int.reduceMul, Int.reduceAdd, Int.reduceToNat] at H; replace H := nt_Chain H) | skip; simp only [List.drop_succ_cons, List.drop_zero, List.drop_nil])
                        refine wpT_nil ?_
                        try dsimp only
                        refine wpZ_nil ?_
                        replace H := RelT.toRel H
                      all_goals
                        repeat (first | refine wp_seq ?_ | refine wp_block ?_ | refine wp_skip ?_ | refine wp_exit ?_ | ((first | refine v_some 5 tab_ok hN H (by rfl) (by (try simp only [hbl, hsn]); first | done | exact ct_Chain) ?_ | refine v_more tab_ok hN H (by rfl) (by rfl) (by (try simp only [hbl, hsn]); first | done | exact ct_Chain) ?_); clear H; intro a w H; replace H := nf_Chain H; first | (simp only [hbl] at H; replace H := nf_Chain H) | skip; (try simp only [List.drop_succ_cons, List.drop_zero, List.drop_nil]); try refine wpList_nil ?_) | refine wp_region_lit ?_)
                        refine v_cond H (by rfl) (fun hb => ?_) (fun hb => ?_)
                        · simp at hb
                        · clear hb
                          repeat (first | refine wp_seq ?_ | refine wp_block ?_ | refine wp_skip ?_ | refine wp_exit ?_ | ((first | refine v_some 5 tab_ok hN H (by rfl) (by (try simp only [hbl, hsn]); first | done | exact ct_Chain) ?_ | refine v_more tab_ok hN H (by rfl) (by rfl) (by (try simp only [hbl, hsn]); first | done | exact ct_Chain) ?_); clear H; intro a w H; replace H := nf_Chain H; first | (simp only [hbl] at H; replace H := nf_Chain H) | skip; (try simp only [List.drop_succ_cons, List.drop_zero, List.drop_nil]); try refine wpList_nil ?_) | refine wp_region_lit ?_)
                          exact ⟨k + 1, hlt, by omega, H.to 2 0 ⟨Nat.le_trans hN (by decide), hR⟩ ⟨rfl, rfl, rfl, rfl, rfl, trivial⟩ (by rw [hif]; rfl) rfl rfl rfl rfl⟩
                · exfalso; rw [decide_eq_false_iff_not] at hb; omega
              · refine v_cond H (by rfl) (fun hb => ?_) (fun hb => ?_)
                · exfalso; rw [decide_eq_true_eq] at hb; omega
                · clear hb
                  repeat (first | refine wp_seq ?_ | refine wp_block ?_ | refine wp_skip ?_ | refine wp_exit ?_ | ((first | refine v_some 5 tab_ok hN H (by rfl) (by (try simp only [hbl]); first | done | exact ct_Chain) ?_ | refine v_more tab_ok hN H (by rfl) (by rfl) (by (try simp only [hbl]); first | done | exact ct_Chain) ?_); clear H; intro a w H; replace H := nf_Chain H; first | (simp only [hbl] at H; replace H := nf_Chain H) | skip; (try simp only [List.drop_succ_cons, List.drop_zero, List.drop_nil]); try refine wpList_nil ?_) | refine wp_region_lit ?_)
                  exact ⟨k + 1, hlt, by omega, H.to 2 0 ⟨Nat.le_trans hN (by decide), hR⟩ ⟨rfl, rfl, rfl, rfl, rfl, trivial⟩ (by rw [if_neg hlast, show s.length = k by omega]; rfl) rfl rfl rfl rfl⟩
          · clear hb
            repeat (first | refine wp_seq ?_ | refine wp_block ?_ | refine wp_skip ?_ | refine wp_exit ?_ | ((first | refine v_some 5 tab_ok hN H (by rfl) (by (try simp only [hbl]); first | done | exact ct_Chain) ?_ | refine v_more tab_ok hN H (by rfl) (by rfl) (by (try simp only [hbl]); first | done | exact ct_Chain) ?_); clear H; intro a w H; replace H := nf_Chain H; first | (simp only [hbl] at H; replace H := nf_Chain H) | skip; (try simp only [List.drop_succ_cons, List.drop_zero, List.drop_nil]); try refine wpList_nil ?_) | refine wp_region_lit ?_)
            rw [show decide ((0 : Int) < (ls.length : Int)) = true from decide_eq_true (by omega)] at H
            refine wp_ret ?_
            exact v_end [] [] tab_ok ⟨hN, hR⟩ (rs := [.tmp 4]) (ress := [_]) rfl H (by rfl) (by rfl) (by simp [pickB, bxs, ren, idx?, sub_refl, sub, allP, hbl] <;> omega) (by first | rfl | (simp [hbl] <;> omega)) (by first | exact trivial | exact ⟨sub_refl _ _, trivial⟩ | exact ⟨sub_refl _ _, sub_refl _ _, trivial⟩ | exact ⟨sub_refl _ _, sub_refl _ _, sub_refl _ _, trivial⟩ | exact ⟨⟨rfl, sub_refl _ _, trivial⟩, sub_refl _ _, trivial⟩ | (simp [cargs, cargsG, St.ev, St.tmp, find, ren, idx?, sub_refl, sub, allP, resv, resC, bss, hbl] <;> omega)) rfl
  · rw [decide_eq_false h7] at H
    refine v_cond H (by rfl) (fun hb => ?_) (fun hb => ?_)
    · repeat (first | refine wp_seq ?_ | refine wp_block ?_ | refine wp_skip ?_ | refine wp_exit ?_ | ((first | refine v_some 5 tab_ok hN H (by rfl) ct_Chain ?_ | refine v_more tab_ok hN H (by rfl) (by rfl) ct_Chain ?_); clear H; intro a w H; replace H := nf_Chain H; (try simp only [List.drop_succ_cons, List.drop_zero, List.drop_nil]); try refine wpList_nil ?_) | refine wp_region_lit ?_)
      refine wp_ret ?_
      exact v_end [] [] tab_ok ⟨hN, hR⟩ (rs := [.tmp 4]) (ress := [_]) rfl H (by rfl) (by rfl) cb cw ca rfl
    · simp at hb
set_option maxHeartbeats 1000000 in
theorem chain_bad (key l : List UInt8) (hk32 : key.length = 32) (hl : l.length ≤ 1048576) (h : ¬ pOk l) : VC Try.prog 3 [.ba key, .bs l none] [] (.v (.bool true)) := by
  have hfew := few_v l
  have htx := texts_v key l hk32 (by omega)
  have htop := vtop_v key l hk32 (by omega)
  have hz2 := z32_len
  rw [vErr, if_neg h] at htx htop
  rw [txs, if_neg h] at htx
  rw [vTop, if_neg h] at htop
  simp only [bss, List.map_nil] at htx
  refine v_enter Try.func3 rfl (by kernel_rfl) (by show 2 ≤ 88; decide) ?_
  intro N w0 a w hN hR H
  repeat (first | refine wp_seq ?_ | refine wp_block ?_ | refine wp_skip ?_ | refine wp_exit ?_ | ((first | refine v_some 5 tab_ok hN H (by rfl) ct_Chain ?_ | refine v_more tab_ok hN H (by rfl) (by rfl) ct_Chain ?_); clear H; intro a w H; replace H := nf_Chain H; (try simp only [List.drop_succ_cons, List.drop_zero, List.drop_nil]); try refine wpList_nil ?_) | refine wp_region_lit ?_)
  refine v_call [] [] (hfew) H rfl rfl (by rfl) cb cw ca ?_; clear H; intro a w H; replace H := nf_Chain H; try refine wpList_nil ?_
  repeat (first | refine wp_seq ?_ | refine wp_block ?_ | refine wp_skip ?_ | refine wp_exit ?_ | ((first | refine v_some 5 tab_ok hN H (by rfl) ct_Chain ?_ | refine v_more tab_ok hN H (by rfl) (by rfl) ct_Chain ?_); clear H; intro a w H; replace H := nf_Chain H; (try simp only [List.drop_succ_cons, List.drop_zero, List.drop_nil]); try refine wpList_nil ?_) | refine wp_region_lit ?_)
  by_cases h7 : l.length ≤ 700
  · rw [decide_eq_true h7] at H
    refine v_cond H (by rfl) (fun hb => ?_) (fun hb => ?_)
    · simp at hb
    · clear hb
      repeat (first | refine wp_seq ?_ | refine wp_block ?_ | refine wp_skip ?_ | refine wp_exit ?_ | ((first | refine v_some 5 tab_ok hN H (by rfl) ct_Chain ?_ | refine v_more tab_ok hN H (by rfl) (by rfl) ct_Chain ?_); clear H; intro a w H; replace H := nf_Chain H; (try simp only [List.drop_succ_cons, List.drop_zero, List.drop_nil]); try refine wpList_nil ?_) | refine wp_region_lit ?_)
      refine v_call [] [] (htx) H rfl rfl (by rfl) cb cw ca ?_; clear H; intro a w H; replace H := nf_Chain H; try refine wpList_nil ?_
      repeat (first | refine wp_seq ?_ | refine wp_block ?_ | refine wp_skip ?_ | refine wp_exit ?_ | ((first | refine v_some 5 tab_ok hN H (by rfl) ct_Chain ?_ | refine v_more tab_ok hN H (by rfl) (by rfl) ct_Chain ?_); clear H; intro a w H; replace H := nf_Chain H; (try simp only [List.drop_succ_cons, List.drop_zero, List.drop_nil]); try refine wpList_nil ?_) | refine wp_region_lit ?_)
      refine v_call [] [] (htop) H rfl rfl (by rfl) cb cw ca ?_; clear H; intro a w H; replace H := nf_Chain H; try refine wpList_nil ?_
      repeat (first | refine wp_seq ?_ | refine wp_block ?_ | refine wp_skip ?_ | refine wp_exit ?_ | ((first | refine v_some 5 tab_ok hN H (by rfl) ct_Chain ?_ | refine v_more tab_ok hN H (by rfl) (by rfl) ct_Chain ?_); clear H; intro a w H; replace H := nf_Chain H; (try simp only [List.drop_succ_cons, List.drop_zero, List.drop_nil]); try refine wpList_nil ?_) | refine wp_region_lit ?_)
      refine v_cond H (by rfl) (fun hb => ?_) (fun hb => ?_)
      · simp at hb
      · clear hb
        repeat (first | refine wp_seq ?_ | refine wp_block ?_ | refine wp_skip ?_ | refine wp_exit ?_ | ((first | refine v_some 5 tab_ok hN H (by rfl) ct_Chain ?_ | refine v_more tab_ok hN H (by rfl) (by rfl) ct_Chain ?_); clear H; intro a w H; replace H := nf_Chain H; (try simp only [List.drop_succ_cons, List.drop_zero, List.drop_nil]); try refine wpList_nil ?_) | refine wp_region_lit ?_)
        refine v_cond H (by rfl) (fun hb => ?_) (fun hb => ?_)
        · repeat (first | refine wp_seq ?_ | refine wp_block ?_ | refine wp_skip ?_ | refine wp_exit ?_ | ((first | refine v_some 5 tab_ok hN H (by rfl) ct_Chain ?_ | refine v_more tab_ok hN H (by rfl) (by rfl) ct_Chain ?_); clear H; intro a w H; replace H := nf_Chain H; (try simp only [List.drop_succ_cons, List.drop_zero, List.drop_nil]); try refine wpList_nil ?_) | refine wp_region_lit ?_)
          refine wp_ret ?_
          exact v_end [] [] tab_ok ⟨hN, hR⟩ (rs := [.tmp 4]) (ress := [_]) rfl H (by rfl) (by rfl) cb cw ca rfl
        · simp at hb
  · rw [decide_eq_false h7] at H
    refine v_cond H (by rfl) (fun hb => ?_) (fun hb => ?_)
    · repeat (first | refine wp_seq ?_ | refine wp_block ?_ | refine wp_skip ?_ | refine wp_exit ?_ | ((first | refine v_some 5 tab_ok hN H (by rfl) ct_Chain ?_ | refine v_more tab_ok hN H (by rfl) (by rfl) ct_Chain ?_); clear H; intro a w H; replace H := nf_Chain H; (try simp only [List.drop_succ_cons, List.drop_zero, List.drop_nil]); try refine wpList_nil ?_) | refine wp_region_lit ?_)
      refine wp_ret ?_
      exact v_end [] [] tab_ok ⟨hN, hR⟩ (rs := [.tmp 4]) (ress := [_]) rfl H (by rfl) (by rfl) cb cw ca rfl
    · simp at hb
theorem chain_v (key l : List UInt8) (hk32 : key.length = 32) (hl : l.length ≤ 1048576) : VC Try.prog 3 [.ba key, .bs l none] [] (.v (.bool true)) := by
  by_cases h : pOk l
  · exact chain_ok key l hk32 hl h
  · exact chain_bad key l hk32 hl h
end Go.Proofs.Ytlagngkafllbiaa
