/- The texts of a proof, from the top on: extract.Texts. -/
import Derived.Test.YtlagngkafllbiaaThaw
set_option linter.unusedSimpArgs false
set_option linter.unusedVariables false
namespace Go.Proofs.Ytlagngkafllbiaa
open Go Go.RowKit
/-- The state made plain. -/
theorem nf_Texts {P : Program} {w0 w : World} {N : Gh} {nt : Nat} {st s2 : St} {a : Act} (H : Rel P w0 N nt st a w) (h : st = s2 := by (try simp only [pk, elemB, St.put, St.ev, St.tmp, St.keep, find, dropT, slots, AV.put, AV.loc, fitI, convI, IntKind.signed, IntKind.bits, strip, St.lose, mergeL, setAll, nth, renB, ren, idx?, sub, allP, low, bnd, Int.reduceEq, Nat.reduceAdd, Nat.reduceLT, reduceIte, reduceCtorEq, Nat.reduceEqDiff, Nat.reduceLeDiff, Nat.reduceBEq, Int.reducePow, Int.reduceToNat, ti24_t, ti24_z, ti5_t, ti5_z, ti30_t, ti30_z, ti23_t, ti23_z, ti62_t, ti62_z, ti64_t, ti64_z, ti41_t, ti41_z, ti26_t, ti26_z]); rfl) : Rel P w0 N nt s2 a w := h ▸ H
theorem nt_Texts {P : Program} {w0 w : World} {N gS : Gh} {nt : Nat} {q q2 st s2 : St} {a : Act} (H : RelT P w0 N nt gS q st a w) (h1 : q = q2 := by (try simp only [pk, elemB, St.put, St.ev, St.tmp, St.keep, find, dropT, slots, AV.put, AV.loc, fitI, convI, IntKind.signed, IntKind.bits, strip, St.lose, mergeL, setAll, nth, renB, ren, idx?, sub, allP, low, bnd, Int.reduceEq, Nat.reduceAdd, Nat.reduceLT, reduceIte, reduceCtorEq, Nat.reduceEqDiff, Nat.reduceLeDiff, Nat.reduceBEq, Int.reducePow, Int.reduceToNat, ti24_t, ti24_z, ti5_t, ti5_z, ti30_t, ti30_z, ti23_t, ti23_z, ti62_t, ti62_z, ti64_t, ti64_z, ti41_t, ti41_z, ti26_t, ti26_z]); rfl) (h : st = s2 := by (try simp only [pk, elemB, St.put, St.ev, St.tmp, St.keep, find, dropT, slots, AV.put, AV.loc, fitI, convI, IntKind.signed, IntKind.bits, strip, St.lose, mergeL, setAll, nth, renB, ren, idx?, sub, allP, low, bnd, Int.reduceEq, Nat.reduceAdd, Nat.reduceLT, reduceIte, reduceCtorEq, Nat.reduceEqDiff, Nat.reduceLeDiff, Nat.reduceBEq, Int.reducePow, Int.reduceToNat, ti24_t, ti24_z, ti5_t, ti5_z, ti30_t, ti30_z, ti23_t, ti23_z, ti62_t, ti62_z, ti64_t, ti64_z, ti41_t, ti41_z, ti26_t, ti26_z]); rfl) : RelT P w0 N nt gS q2 s2 a w := h1 ▸ h ▸ H
theorem ct_Texts {c : Prop} (h : c := by ((try simp only [pk, elemB, St.put, St.ev, St.tmp, St.keep, find, dropT, slots, AV.put, AV.loc, fitI, convI, IntKind.signed, IntKind.bits, strip, St.lose, mergeL, setAll, nth, renB, ren, idx?, sub, allP, low, bnd, Int.reduceEq, Nat.reduceAdd, Nat.reduceLT, reduceIte, reduceCtorEq, Nat.reduceEqDiff, Nat.reduceLeDiff, Nat.reduceBEq, Int.reducePow, Int.reduceToNat, ti24_t, ti24_z, ti5_t, ti5_z, ti30_t, ti30_z, ti23_t, ti23_z, ti62_t, ti62_z, ti64_t, ti64_z, ti41_t, ti41_z, ti26_t, ti26_z, ti24, ti5, ti30, ti23, ti62, ti64, ti41, ti26, fit, gcond, ilo, ihi]); first | done | exact cd | exact cd2 | skip)) : c := h
def textD (key : List UInt8) (d : Nat) (x below : List UInt8) : List UInt8 := 2 :: (if bitN key d then x ++ sum below else sum below ++ x)
def tx (key : List UInt8) : Nat → List (List UInt8) → List UInt8 → List (List UInt8)
  | _, [], e => [e]
  | d, x :: r, e => textD key d x ((tx key (d + 1) r e).headD []) :: tx key (d + 1) r e
theorem tx_len (key e : List UInt8) : ∀ d s, (tx key d s e).length = s.length + 1
  | _, [] => rfl
  | d, _ :: r => by simp [tx, tx_len key e (d + 1) r]
theorem textD_len (key : List UInt8) (d : Nat) (x b : List UInt8) (hx : x.length = 32) : (textD key d x b).length = 65 := by
  unfold textD
  have := sum_length b
  split <;> simp <;> omega
theorem tx_head (key e : List UInt8) (he : e.length ≤ 65) : ∀ d s, (∀ h ∈ s, h.length = 32) → ((tx key d s e).headD []).length ≤ 65
  | _, [], _ => he
  | d, x :: r, hs => by simp only [tx, List.headD_cons]; rw [textD_len _ _ _ _ (hs x List.mem_cons_self)]; exact Nat.le_refl _
theorem tx_drop (key e : List UInt8) (s : List (List UInt8)) (k : Nat) (hk : k < s.length) : tx key k (s.drop k) e = textD key k (s.getD k []) ((tx key (k + 1) (s.drop (k + 1)) e).headD []) :: tx key (k + 1) (s.drop (k + 1)) e := by
  rw [List.drop_eq_getElem_cons hk, List.getElem_eq_getD []]; rfl
def txs (key l : List UInt8) : List (List UInt8) := if pOk l then tx key 0 (pDec l).s (pDec l).e.text else []
theorem bss_snoc (ls : List (List UInt8)) (x : List UInt8) : bss (ls ++ [x]) = bss ls ++ [.bs x none] := by simp [bss]
theorem cutG {B R : Act → World → Prop} {G : Prop} (h : (∀ a w, R a w → B a w) → G) (k : ∀ a w, R a w → B a w) : G := h k
set_option maxRecDepth 20000 in
set_option maxHeartbeats 16000000 in
theorem texts_ok (key l : List UInt8) (hk32 : key.length = 32) (hl : l.length ≤ 34359730000) (h : pOk l) : VC Try.prog 8 [.ba key, .bs l none] [] (.tup [.sl .sc (bss (txs key l)) none, errv 0]) := by
  have hd := decodeP_v l hl
  rw [if_pos h] at hd
  rw [txs, if_pos h]
  have hw := pDec_wf l
  obtain ⟨hle, hok, hk2⟩ := chk_all (pDec_chk h)
  generalize pDec l = p at *
  obtain ⟨s, n⟩ := p
  dsimp only at hle hok hk2 ⊢
  have hs := hw.s
  have hsl := bas_len s
  have hen := encode_ok n hw.e hok
  obtain ⟨h1, h2, h3, h4⟩ := id hw.e
  dsimp only at h1 h2 h3 h4 hs
  have htl := text_len hw.e
  dsimp only at htl
  have hz2 := z32_len
  refine v_enterB Try.func8 rfl (by kernel_rfl) (by show 2 ≤ 60; decide) ?_
  intro N w0 a w hNb hN hR H
  simp only [Pf.av, Nd.av] at H hd hen
  repeat (first | refine wp_seq ?_ | refine wp_block ?_ | refine wp_skip ?_ | refine wp_exit ?_ | ((first | refine v_some 5 tab_ok hN H (by rfl) ct_Texts ?_ | refine v_more tab_ok hN H (by rfl) (by rfl) ct_Texts ?_); clear H; intro a w H; replace H := nf_Texts H; (try simp only [List.drop_succ_cons, List.drop_zero, List.drop_nil]); try refine wpList_nil ?_) | refine wp_region_lit ?_)
  refine v_call [] [] (hd) H rfl rfl (by rfl) cb cw ca ?_; clear H; intro a w H; replace H := nf_Texts H; try refine wpList_nil ?_
  repeat (first | refine wp_seq ?_ | refine wp_block ?_ | refine wp_skip ?_ | refine wp_exit ?_ | ((first | refine v_some 5 tab_ok hN H (by rfl) ct_Texts ?_ | refine v_more tab_ok hN H (by rfl) (by rfl) ct_Texts ?_); clear H; intro a w H; replace H := nf_Texts H; (try simp only [List.drop_succ_cons, List.drop_zero, List.drop_nil]); try refine wpList_nil ?_) | refine wp_region_lit ?_)
  refine v_cond H (by rfl) (fun hb => ?_) (fun hb => ?_)
  · simp at hb
  · clear hb
    repeat (first | refine wp_seq ?_ | refine wp_block ?_ | refine wp_skip ?_ | refine wp_exit ?_ | ((first | refine v_some 5 tab_ok hN H (by rfl) ct_Texts ?_ | refine v_more tab_ok hN H (by rfl) (by rfl) ct_Texts ?_); clear H; intro a w H; replace H := nf_Texts H; (try simp only [List.drop_succ_cons, List.drop_zero, List.drop_nil]); try refine wpList_nil ?_) | refine wp_region_lit ?_)
    refine v_call [] [] (hen) H rfl rfl (by rfl) cb cw ca ?_; clear H; intro a w H; replace H := nf_Texts H; try refine wpList_nil ?_
    obtain ⟨e, he⟩ : ∃ e, e = n.text := ⟨_, rfl⟩
    rw [← he] at H htl ⊢
    clear he hen
    have hel : e.length ≤ 65 := by omega
    repeat (first | refine wp_seq ?_ | refine wp_block ?_ | refine wp_skip ?_ | refine wp_exit ?_ | ((first | refine v_some 5 tab_ok hN H (by rfl) (by (try simp only [hsl]); first | done | exact ct_Texts) ?_ | refine v_more tab_ok hN H (by rfl) (by rfl) (by (try simp only [hsl]); first | done | exact ct_Texts) ?_); clear H; intro a w H; replace H := nf_Texts H; first | (simp only [hsl] at H; replace H := nf_Texts H) | skip; (try simp only [List.drop_succ_cons, List.drop_zero, List.drop_nil]); try refine wpList_nil ?_) | refine wp_region_lit ?_)
    have H := v_sub H 8 (x := .bs e (some 0)) (y := .bs e none) (by simp only [sub]) rfl (fun _ e => by cases e) rfl
    simp only [nilT, reduceIte, Nat.reduceEqDiff] at H
    have H := v_ref H 6 1 (Nat.le_trans hN (by decide)) rfl rfl rfl
    simp only [nilT, strip, List.map_cons, List.map_nil, reduceIte, Nat.reduceEqDiff] at H
    have H := v_ref H 2 0 (Nat.le_trans hN (by decide)) rfl rfl rfl
    simp only [nilT, strip, List.map_cons, List.map_nil, reduceIte, Nat.reduceEqDiff] at H
    replace H := H.keep [2, 5, 6, 8, 10, 11] 0 2 ⟨Nat.le_trans hN (by show _ ≤ 0; decide), Nat.le_trans hR (by show _ ≤ 2; decide)⟩ (by rfl) (by rfl)
    replace H := nf_Texts H; first | (simp only [hsl] at H; replace H := nf_Texts H) | skip
    have H := v_fz H
    simp only [List.filter_cons, List.filter_nil, List.length_cons, List.length_nil, Nat.reduceAdd, Nat.reduceLT, Nat.not_lt_zero, Nat.zero_add, Nat.lt_irrefl, decide_false, Bool.false_eq_true, reduceIte] at H
    refine v_loop (fun k : Nat => ⟨[(11, none, .v (.int .i64 ((k : Int) - 1))), (10, none, .sl .sc (bss (tx key k (s.drop k) e).reverse) (some 1)), (8, none, .bs ((tx key k (s.drop k) e).headD []) none), (6, none, .ref ti64.ty (.st [.sl (.ba 32) (bas s) none, .st [.v (B8 n.k), .ba n.key, .ba n.v, .ba n.l, .ba n.r]])), (5, none, .v (.int .i64 0)), (2, none, .ref (.ba 32) (.ba key))], [], [], [(5, e.length), (24, (tx key k (s.drop k) e).reverse.length)]⟩)
      (fun k => k ≤ s.length) (fun k => k) s.length (Nat.le_refl _) (H.to 0 2 ⟨hN, Nat.le_trans hR (by decide)⟩ ⟨rfl, by rw [List.drop_length]; rfl, by rw [List.drop_length]; rfl, rfl, rfl, rfl, trivial⟩ rfl (by rw [List.drop_length]; rfl) rfl rfl rfl) ?_
    clear H
    intro k a w hk H
    repeat (first | refine wp_seq ?_ | refine wp_block ?_ | refine wp_skip ?_ | refine wp_exit ?_ | ((first | refine v_some 5 tab_ok hN H (by rfl) (by (try simp only [hsl]); first | done | exact ct_Texts) ?_ | refine v_more tab_ok hN H (by rfl) (by rfl) (by (try simp only [hsl]); first | done | exact ct_Texts) ?_); clear H; intro a w H; replace H := nf_Texts H; first | (simp only [hsl] at H; replace H := nf_Texts H) | skip; (try simp only [List.drop_succ_cons, List.drop_zero, List.drop_nil]); try refine wpList_nil ?_) | refine wp_region_lit ?_)
    refine v_cond H (by rfl) (fun hb => ?_) (fun hb => ?_)
    · obtain ⟨j, rfl⟩ : ∃ j, k = j + 1 := ⟨k - 1, by rw [decide_eq_true_eq] at hb; omega⟩
      clear hb
      have hj : j < s.length := hk
      have e1 : (((j + 1 : Nat) : Int) - 1) = (j : Int) := by omega
      rw [e1] at H
      have hbit := bit_v key hk32 (j : Int)
      have hj256 : j < 256 := by omega
      have hpb : decide (pbit key (j : Int) = 1) = bitN key j := by
        rw [pbit, if_pos (by omega), Int.toNat_natCast]; cases bitN key j <;> rfl
      have htx := tx_drop key e s j hj
      have hth := tx_head key e hel (j + 1) (s.drop (j + 1)) (fun h hh => hs h (List.mem_of_mem_drop hh))
      have hg := bas_get s j hj
      rw [List.getElem_eq_getD []] at hg
      have hx : (s.getD j []).length = 32 := by rw [← List.getElem_eq_getD (h := hj) []]; exact hs _ (List.getElem_mem _)
      have hll := tx_len key e (j + 1) (s.drop (j + 1))
      have hsd : (s.drop (j + 1)).length ≤ s.length := by rw [List.length_drop]; omega
      generalize s.getD j [] = x at *
      generalize tx key (j + 1) (s.drop (j + 1)) e = ls at *
      generalize ls.headD [] = t at *
      have hsu := sum_v t (by omega)
      have hsul := sum_length t
      have hbl : (bss ls.reverse).length = ls.length := by simp [bss]
      have hit1 := innerText_v (sum t) x hsul hx
      have hit2 := innerText_v x (sum t) hx hsul
      have htl1 : (2 :: (sum t ++ x)).length = 65 := by simp; omega
      have htl2 : (2 :: (x ++ sum t)).length = 65 := by simp; omega
      repeat (first | refine wp_seq ?_ | refine wp_block ?_ | refine wp_skip ?_ | refine wp_exit ?_ | ((first | refine v_some 5 tab_ok hN H (by rfl) (by (try simp only [hsl, hg, hsl, hx, hsul]); first | done | exact ct_Texts) ?_ | refine v_more tab_ok hN H (by rfl) (by rfl) (by (try simp only [hsl, hg, hsl, hx, hsul]); first | done | exact ct_Texts) ?_); clear H; intro a w H; replace H := nf_Texts H; first | (simp only [hsl, hg] at H; replace H := nf_Texts H) | skip; (try simp only [List.drop_succ_cons, List.drop_zero, List.drop_nil]); try refine wpList_nil ?_) | refine wp_region_lit ?_)
      apply cutG (R := fun a w => Rel Try.prog w0 N Try.f8.ntmps ⟨[(2, none, .ref (.ba 32) (.ba key)), (5, none, .v (.int .i64 0)), (6, none, .ref ti64.ty (.st [.sl (.ba 32) (bas s) none, .st [.v (B8 n.k), .ba n.key, .ba n.v, .ba n.l, .ba n.r]])), (8, none, .bs t none), (10, none, .sl .sc (bss ls.reverse) (some 1)), (11, none, .v (.int .i64 (j : Int))), (12, none, .ptr 0 []), (13, none, .ptr 1 [])], [(.ba 32, .ba (sum t)), (.ba 32, .ba x)], [], [(5, e.length), (24, ls.reverse.length)]⟩ a w)
      intro key1
      apply cutG (R := fun a w => Rel Try.prog w0 N Try.f8.ntmps ⟨[(2, none, .ref (.ba 32) (.ba key)), (5, none, .v (.int .i64 0)), (6, none, .ref ti64.ty (.st [.sl (.ba 32) (bas s) none, .st [.v (B8 n.k), .ba n.key, .ba n.v, .ba n.l, .ba n.r]])), (8, none, .bs t none), (10, none, .sl .sc (bss ls.reverse) (some 1)), (11, none, .v (.int .i64 (j : Int))), (12, none, .ptr 1 []), (13, none, .ptr 0 [])], [(.ba 32, .ba x), (.ba 32, .ba (sum t))], [], [(5, e.length), (24, ls.reverse.length)]⟩ a w)
      intro key2
      · repeat (first | refine wp_seq ?_ | refine wp_block ?_)
        refine v_drawZ 0 [0, 1, 2, 3, 4, 5, 6, 7, 8, 9, 10] [1, 7, 8, 9, 10] [0, 2, 3, 4, 5, 6] [(1, 7), (1, 8), (7, 8)] (by kernel_rfl) (by kernel_rfl) (by kernel_rfl) (by kernel_rfl) (by kernel_rfl) H (by rfl) (fun gS H => ?_); try replace H := nt_Texts H; first | (simp only [hsl, hg] at H; replace H := nt_Texts H) | skip
        refine wpZ_run 1 (i := 0) (n' := 10) (pend' := [1, 2, 3, 4, 5, 6, 7, 8, 9, 10]) (by rfl) (by rfl) (by rfl) (by rfl) (by rfl) ?_
        repeat (refine v_someT 3 tab_ok hN H (by rfl) (by (try simp only [hsl, hg, hsl, hx, hsul]); first | done | exact ct_Texts) ?_; clear H; intro a w H; replace H := nt_Texts H; first | (simp only [hsl, hg] at H; replace H := nt_Texts H) | skip; simp only [List.drop_succ_cons, List.drop_zero, List.drop_nil])
        refine wpT_nil ?_
        try dsimp only
        refine wpZ_two (cs := [7, 8]) (by rfl) (by rfl) ?_
        refine all3 ?_
        refine ⟨?_, ?_, ?_⟩
        focus
          refine wpZ_pick (pend' := [2, 3, 4, 5, 6, 7, 8, 9, 10]) (by rfl) (by rfl) ?_
          refine v_callT [] [] (hsu) H (by rfl) (by rfl) rfl rfl (by rfl) (by simp [pickB, bxs, ren, idx?, sub_refl, sub, allP, hsl, hg] <;> omega) (by first | rfl | (simp [hsl, hg] <;> omega)) (by first | exact trivial | exact ⟨sub_refl _ _, trivial⟩ | exact ⟨sub_refl _ _, sub_refl _ _, trivial⟩ | exact ⟨sub_refl _ _, sub_refl _ _, sub_refl _ _, trivial⟩ | exact ⟨⟨rfl, sub_refl _ _, trivial⟩, sub_refl _ _, trivial⟩ | (simp [cargs, cargsG, St.ev, St.tmp, find, ren, idx?, sub_refl, sub, allP, resv, resC, bss, hsl, hg] <;> omega)) ?_; clear H; intro a w H; try replace H := nt_Texts H; first | (simp only [hsl, hg] at H; replace H := nt_Texts H) | skip
          refine wpT_nil ?_
          try dsimp only
          refine wpZ_run 5 (i := 2) (n' := 4) (pend' := [7, 8, 9, 10]) (by rfl) (by rfl) (by rfl) (by rfl) (by rfl) ?_
          repeat (refine v_someT 3 tab_ok hN H (by rfl) (by (try simp only [hsl, hg, hsl, hx, hsul]); first | done | exact ct_Texts) ?_; clear H; intro a w H; replace H := nt_Texts H; first | (simp only [hsl, hg] at H; replace H := nt_Texts H) | skip; simp only [List.drop_succ_cons, List.drop_zero, List.drop_nil])
          refine wpT_nil ?_
          try dsimp only
          refine wpZ_two (cs := [8]) (by rfl) (by rfl) ?_
          refine all2 ?_
          refine ⟨?_, ?_⟩
          focus
            refine wpZ_pick (pend' := [8, 9, 10]) (by rfl) (by rfl) ?_
            repeat (refine v_someT 3 tab_ok hN H (by rfl) (by (try simp only [hsl, hg, hsl, hx, hsul]); first | done | exact ct_Texts) ?_; clear H; intro a w H; replace H := nt_Texts H; first | (simp only [hsl, hg] at H; replace H := nt_Texts H) | skip; simp only [List.drop_succ_cons, List.drop_zero, List.drop_nil])
            refine wpT_nil ?_
            try dsimp only
            refine wpZ_two (cs := []) (by rfl) (by rfl) ?_
            refine all1 ?_
            refine wpZ_pick (pend' := [9, 10]) (by rfl) (by rfl) ?_
            repeat (refine v_someT 3 tab_ok hN H (by rfl) (by (try simp only [hsl, hg, hsl, hx, hsul]); first | done | exact ct_Texts) ?_; clear H; intro a w H; replace H := nt_Texts H; first | (simp only [hsl, hg] at H; replace H := nt_Texts H) | skip; simp only [List.drop_succ_cons, List.drop_zero, List.drop_nil])
            refine wpT_nil ?_
            try dsimp only
            refine wpZ_two (cs := []) (by rfl) (by rfl) ?_
            refine all1 ?_
            refine wpZ_pick (pend' := [10]) (by rfl) (by rfl) ?_
            repeat (refine v_someT 3 tab_ok hN H (by rfl) (by (try simp only [hsl, hg, hsl, hx, hsul]); first | done | exact ct_Texts) ?_; clear H; intro a w H; replace H := nt_Texts H; first | (simp only [hsl, hg] at H; replace H := nt_Texts H) | skip; simp only [List.drop_succ_cons, List.drop_zero, List.drop_nil])
            refine wpT_nil ?_
            try dsimp only
            refine wpZ_two (cs := []) (by rfl) (by rfl) ?_
            refine all1 ?_
            refine wpZ_pick (pend' := []) (by rfl) (by rfl) ?_
            repeat (refine v_someT 3 tab_ok hN H (by rfl) (by (try simp only [hsl, hg, hsl, hx, hsul]); first | done | exact ct_Texts) ?_; clear H; intro a w H; replace H := nt_Texts H; first | (simp only [hsl, hg] at H; replace H := nt_Texts H) | skip; simp only [List.drop_succ_cons, List.drop_zero, List.drop_nil])
            refine wpT_nil ?_
            try dsimp only
            refine wpZ_nil ?_
            replace H := RelT.toRel H
          rotate_left 1
          focus
            refine wpZ_pick (pend' := [7, 9, 10]) (by rfl) (by rfl) ?_
            repeat (refine v_someT 3 tab_ok hN H (by rfl) (by (try simp only [hsl, hg, hsl, hx, hsul]); first | done | exact ct_Texts) ?_; clear H; intro a w H; replace H := nt_Texts H; first | (simp only [hsl, hg] at H; replace H := nt_Texts H) | skip; simp only [List.drop_succ_cons, List.drop_zero, List.drop_nil])
            refine wpT_nil ?_
            try dsimp only
            refine wpZ_two (cs := []) (by rfl) (by rfl) ?_
            refine all1 ?_
            refine wpZ_pick (pend' := [9, 10]) (by rfl) (by rfl) ?_
            repeat (refine v_someT 3 tab_ok hN H (by rfl) (by (try simp only [hsl, hg, hsl, hx, hsul]); first | done | exact ct_Texts) ?_; clear H; intro a w H; replace H := nt_Texts H; first | (simp only [hsl, hg] at H; replace H := nt_Texts H) | skip; simp only [List.drop_succ_cons, List.drop_zero, List.drop_nil])
            refine wpT_nil ?_
            try dsimp only
            refine wpZ_two (cs := []) (by rfl) (by rfl) ?_
            refine all1 ?_
            refine wpZ_pick (pend' := [10]) (by rfl) (by rfl) ?_
            repeat (refine v_someT 3 tab_ok hN H (by rfl) (by (try simp only [hsl, hg, hsl, hx, hsul]); first | done | exact ct_Texts) ?_; clear H; intro a w H; replace H := nt_Texts H; first | (simp only [hsl, hg] at H; replace H := nt_Texts H) | skip; simp only [List.drop_succ_cons, List.drop_zero, List.drop_nil])
            refine wpT_nil ?_
            try dsimp only
            refine wpZ_two (cs := []) (by rfl) (by rfl) ?_
            refine all1 ?_
            refine wpZ_pick (pend' := []) (by rfl) (by rfl) ?_
            repeat (refine v_someT 3 tab_ok hN H (by rfl) (by (try simp only [hsl, hg, hsl, hx, hsul]); first | done | exact ct_Texts) ?_; clear H; intro a w H; replace H := nt_Texts H; first | (simp only [hsl, hg] at H; replace H := nt_Texts H) | skip; simp only [List.drop_succ_cons, List.drop_zero, List.drop_nil])
            refine wpT_nil ?_
            try dsimp only
            refine wpZ_nil ?_
            replace H := RelT.toRel H
        rotate_left 2
        focus
          refine wpZ_pick (pend' := [1, 2, 3, 4, 5, 6, 8, 9, 10]) (by rfl) (by rfl) ?_
          repeat (refine v_someT 3 tab_ok hN H (by rfl) (by (try simp only [hsl, hg, hsl, hx, hsul]); first | done | exact ct_Texts) ?_; clear H; intro a w H; replace H := nt_Texts H; first | (simp only [hsl, hg] at H; replace H := nt_Texts H) | skip; simp only [List.drop_succ_cons, List.drop_zero, List.drop_nil])
          refine wpT_nil ?_
          try dsimp only
          refine wpZ_two (cs := [8]) (by rfl) (by rfl) ?_
          refine all2 ?_
          refine ⟨?_, ?_⟩
          focus
            refine wpZ_pick (pend' := [2, 3, 4, 5, 6, 8, 9, 10]) (by rfl) (by rfl) ?_
            refine v_callT [] [] (hsu) H (by rfl) (by rfl) rfl rfl (by rfl) (by simp [pickB, bxs, ren, idx?, sub_refl, sub, allP, hsl, hg] <;> omega) (by first | rfl | (simp [hsl, hg] <;> omega)) (by first | exact trivial | exact ⟨sub_refl _ _, trivial⟩ | exact ⟨sub_refl _ _, sub_refl _ _, trivial⟩ | exact ⟨sub_refl _ _, sub_refl _ _, sub_refl _ _, trivial⟩ | exact ⟨⟨rfl, sub_refl _ _, trivial⟩, sub_refl _ _, trivial⟩ | (simp [cargs, cargsG, St.ev, St.tmp, find, ren, idx?, sub_refl, sub, allP, resv, resC, bss, hsl, hg] <;> omega)) ?_; clear H; intro a w H; try replace H := nt_Texts H; first | (simp only [hsl, hg] at H; replace H := nt_Texts H) | skip
            refine wpT_nil ?_
            try dsimp only
            refine wpZ_run 5 (i := 2) (n' := 3) (pend' := [8, 9, 10]) (by rfl) (by rfl) (by rfl) (by rfl) (by rfl) ?_
            repeat (refine v_someT 3 tab_ok hN H (by rfl) (by (try simp only [hsl, hg, hsl, hx, hsul]); first | done | exact ct_Texts) ?_; clear H; intro a w H; replace H := nt_Texts H; first | (simp only [hsl, hg] at H; replace H := nt_Texts H) | skip; simp only [List.drop_succ_cons, List.drop_zero, List.drop_nil])
            refine wpT_nil ?_
            try dsimp only
            refine wpZ_two (cs := []) (by rfl) (by rfl) ?_
            refine all1 ?_
            refine wpZ_pick (pend' := [9, 10]) (by rfl) (by rfl) ?_
            repeat (refine v_someT 3 tab_ok hN H (by rfl) (by (try simp only [hsl, hg, hsl, hx, hsul]); first | done | exact ct_Texts) ?_; clear H; intro a w H; replace H := nt_Texts H; first | (simp only [hsl, hg] at H; replace H := nt_Texts H) | skip; simp only [List.drop_succ_cons, List.drop_zero, List.drop_nil])
            refine wpT_nil ?_
            try dsimp only
            refine wpZ_two (cs := []) (by rfl) (by rfl) ?_
            refine all1 ?_
            refine wpZ_pick (pend' := [10]) (by rfl) (by rfl) ?_
            repeat (refine v_someT 3 tab_ok hN H (by rfl) (by (try simp only [hsl, hg, hsl, hx, hsul]); first | done | exact ct_Texts) ?_; clear H; intro a w H; replace H := nt_Texts H; first | (simp only [hsl, hg] at H; replace H := nt_Texts H) | skip; simp only [List.drop_succ_cons, List.drop_zero, List.drop_nil])
            refine wpT_nil ?_
            try dsimp only
            refine wpZ_two (cs := []) (by rfl) (by rfl) ?_
            refine all1 ?_
            refine wpZ_pick (pend' := []) (by rfl) (by rfl) ?_
            repeat (refine v_someT 3 tab_ok hN H (by rfl) (by (try simp only [hsl, hg, hsl, hx, hsul]); first | done | exact ct_Texts) ?_; clear H; intro a w H; replace H := nt_Texts H; first | (simp only [hsl, hg] at H; replace H := nt_Texts H) | skip; simp only [List.drop_succ_cons, List.drop_zero, List.drop_nil])
            refine wpT_nil ?_
            try dsimp only
            refine wpZ_nil ?_
            replace H := RelT.toRel H
          rotate_left 1
          focus
            refine wpZ_pick (pend' := [1, 2, 3, 4, 5, 6, 9, 10]) (by rfl) (by rfl) ?_
            repeat (refine v_someT 3 tab_ok hN H (by rfl) (by (try simp only [hsl, hg, hsl, hx, hsul]); first | done | exact ct_Texts) ?_; clear H; intro a w H; replace H := nt_Texts H; first | (simp only [hsl, hg] at H; replace H := nt_Texts H) | skip; simp only [List.drop_succ_cons, List.drop_zero, List.drop_nil])
            refine wpT_nil ?_
            try dsimp only
            refine wpZ_two (cs := []) (by rfl) (by rfl) ?_
            refine all1 ?_
            refine wpZ_pick (pend' := [2, 3, 4, 5, 6, 9, 10]) (by rfl) (by rfl) ?_
            refine v_callT [] [] (hsu) H (by rfl) (by rfl) rfl rfl (by rfl) (by simp [pickB, bxs, ren, idx?, sub_refl, sub, allP, hsl, hg] <;> omega) (by first | rfl | (simp [hsl, hg] <;> omega)) (by first | exact trivial | exact ⟨sub_refl _ _, trivial⟩ | exact ⟨sub_refl _ _, sub_refl _ _, trivial⟩ | exact ⟨sub_refl _ _, sub_refl _ _, sub_refl _ _, trivial⟩ | exact ⟨⟨rfl, sub_refl _ _, trivial⟩, sub_refl _ _, trivial⟩ | (simp [cargs, cargsG, St.ev, St.tmp, find, ren, idx?, sub_refl, sub, allP, resv, resC, bss, hsl, hg] <;> omega)) ?_; clear H; intro a w H; try replace H := nt_Texts H; first | (simp only [hsl, hg] at H; replace H := nt_Texts H) | skip
            refine wpT_nil ?_
            try dsimp only
            refine wpZ_run 5 (i := 2) (n' := 2) (pend' := [9, 10]) (by rfl) (by rfl) (by rfl) (by rfl) (by rfl) ?_
            repeat (refine v_someT 3 tab_ok hN H (by rfl) (by (try simp only [hsl, hg, hsl, hx, hsul]); first | done | exact ct_Texts) ?_; clear H; intro a w H; replace H := nt_Texts H; first | (simp only [hsl, hg] at H; replace H := nt_Texts H) | skip; simp only [List.drop_succ_cons, List.drop_zero, List.drop_nil])
            refine wpT_nil ?_
            try dsimp only
            refine wpZ_two (cs := []) (by rfl) (by rfl) ?_
            refine all1 ?_
            refine wpZ_pick (pend' := [10]) (by rfl) (by rfl) ?_
            repeat (refine v_someT 3 tab_ok hN H (by rfl) (by (try simp only [hsl, hg, hsl, hx, hsul]); first | done | exact ct_Texts) ?_; clear H; intro a w H; replace H := nt_Texts H; first | (simp only [hsl, hg] at H; replace H := nt_Texts H) | skip; simp only [List.drop_succ_cons, List.drop_zero, List.drop_nil])
            refine wpT_nil ?_
            try dsimp only
            refine wpZ_two (cs := []) (by rfl) (by rfl) ?_
            refine all1 ?_
            refine wpZ_pick (pend' := []) (by rfl) (by rfl) ?_
            repeat (refine v_someT 3 tab_ok hN H (by rfl) (by (try simp only [hsl, hg, hsl, hx, hsul]); first | done | exact ct_Texts) ?_; clear H; intro a w H; replace H := nt_Texts H; first | (simp only [hsl, hg] at H; replace H := nt_Texts H) | skip; simp only [List.drop_succ_cons, List.drop_zero, List.drop_nil])
            refine wpT_nil ?_
            try dsimp only
            refine wpZ_nil ?_
            replace H := RelT.toRel H
        rotate_left 2
        focus
          refine wpZ_pick (pend' := [1, 2, 3, 4, 5, 6, 7, 9, 10]) (by rfl) (by rfl) ?_
          repeat (refine v_someT 3 tab_ok hN H (by rfl) (by (try simp only [hsl, hg, hsl, hx, hsul]); first | done | exact ct_Texts) ?_; clear H; intro a w H; replace H := nt_Texts H; first | (simp only [hsl, hg] at H; replace H := nt_Texts H) | skip; simp only [List.drop_succ_cons, List.drop_zero, List.drop_nil])
          refine wpT_nil ?_
          try dsimp only
          refine wpZ_two (cs := [7]) (by rfl) (by rfl) ?_
          refine all2 ?_
          refine ⟨?_, ?_⟩
          focus
            refine wpZ_pick (pend' := [2, 3, 4, 5, 6, 7, 9, 10]) (by rfl) (by rfl) ?_
            refine v_callT [] [] (hsu) H (by rfl) (by rfl) rfl rfl (by rfl) (by simp [pickB, bxs, ren, idx?, sub_refl, sub, allP, hsl, hg] <;> omega) (by first | rfl | (simp [hsl, hg] <;> omega)) (by first | exact trivial | exact ⟨sub_refl _ _, trivial⟩ | exact ⟨sub_refl _ _, sub_refl _ _, trivial⟩ | exact ⟨sub_refl _ _, sub_refl _ _, sub_refl _ _, trivial⟩ | exact ⟨⟨rfl, sub_refl _ _, trivial⟩, sub_refl _ _, trivial⟩ | (simp [cargs, cargsG, St.ev, St.tmp, find, ren, idx?, sub_refl, sub, allP, resv, resC, bss, hsl, hg] <;> omega)) ?_; clear H; intro a w H; try replace H := nt_Texts H; first | (simp only [hsl, hg] at H; replace H := nt_Texts H) | skip
            refine wpT_nil ?_
            try dsimp only
            refine wpZ_run 5 (i := 2) (n' := 3) (pend' := [7, 9, 10]) (by rfl) (by rfl) (by rfl) (by rfl) (by rfl) ?_
            repeat (refine v_someT 3 tab_ok hN H (by rfl) (by (try simp only [hsl, hg, hsl, hx, hsul]); first | done | exact ct_Texts) ?_; clear H; intro a w H; replace H := nt_Texts H; first | (simp only [hsl, hg] at H; replace H := nt_Texts H) | skip; simp only [List.drop_succ_cons, List.drop_zero, List.drop_nil])
            refine wpT_nil ?_
            try dsimp only
            refine wpZ_two (cs := []) (by rfl) (by rfl) ?_
            refine all1 ?_
            refine wpZ_pick (pend' := [9, 10]) (by rfl) (by rfl) ?_
            repeat (refine v_someT 3 tab_ok hN H (by rfl) (by (try simp only [hsl, hg, hsl, hx, hsul]); first | done | exact ct_Texts) ?_; clear H; intro a w H; replace H := nt_Texts H; first | (simp only [hsl, hg] at H; replace H := nt_Texts H) | skip; simp only [List.drop_succ_cons, List.drop_zero, List.drop_nil])
            refine wpT_nil ?_
            try dsimp only
            refine wpZ_two (cs := []) (by rfl) (by rfl) ?_
            refine all1 ?_
            refine wpZ_pick (pend' := [10]) (by rfl) (by rfl) ?_
            repeat (refine v_someT 3 tab_ok hN H (by rfl) (by (try simp only [hsl, hg, hsl, hx, hsul]); first | done | exact ct_Texts) ?_; clear H; intro a w H; replace H := nt_Texts H; first | (simp only [hsl, hg] at H; replace H := nt_Texts H) | skip; simp only [List.drop_succ_cons, List.drop_zero, List.drop_nil])
            refine wpT_nil ?_
            try dsimp only
            refine wpZ_two (cs := []) (by rfl) (by rfl) ?_
            refine all1 ?_
            refine wpZ_pick (pend' := []) (by rfl) (by rfl) ?_
            repeat (refine v_someT 3 tab_ok hN H (by rfl) (by (try simp only [hsl, hg, hsl, hx, hsul]); first | done | exact ct_Texts) ?_; clear H; intro a w H; replace H := nt_Texts H; first | (simp only [hsl, hg] at H; replace H := nt_Texts H) | skip; simp only [List.drop_succ_cons, List.drop_zero, List.drop_nil])
            refine wpT_nil ?_
            try dsimp only
            refine wpZ_nil ?_
            replace H := RelT.toRel H
          rotate_left 1
          focus
            refine wpZ_pick (pend' := [1, 2, 3, 4, 5, 6, 9, 10]) (by rfl) (by rfl) ?_
            repeat (refine v_someT 3 tab_ok hN H (by rfl) (by (try simp only [hsl, hg, hsl, hx, hsul]); first | done | exact ct_Texts) ?_; clear H; intro a w H; replace H := nt_Texts H; first | (simp only [hsl, hg] at H; replace H := nt_Texts H) | skip; simp only [List.drop_succ_cons, List.drop_zero, List.drop_nil])
            refine wpT_nil ?_
            try dsimp only
            refine wpZ_two (cs := []) (by rfl) (by rfl) ?_
            refine all1 ?_
            refine wpZ_pick (pend' := [2, 3, 4, 5, 6, 9, 10]) (by rfl) (by rfl) ?_
            refine v_callT [] [] (hsu) H (by rfl) (by rfl) rfl rfl (by rfl) (by simp [pickB, bxs, ren, idx?, sub_refl, sub, allP, hsl, hg] <;> omega) (by first | rfl | (simp [hsl, hg] <;> omega)) (by first | exact trivial | exact ⟨sub_refl _ _, trivial⟩ | exact ⟨sub_refl _ _, sub_refl _ _, trivial⟩ | exact ⟨sub_refl _ _, sub_refl _ _, sub_refl _ _, trivial⟩ | exact ⟨⟨rfl, sub_refl _ _, trivial⟩, sub_refl _ _, trivial⟩ | (simp [cargs, cargsG, St.ev, St.tmp, find, ren, idx?, sub_refl, sub, allP, resv, resC, bss, hsl, hg] <;> omega)) ?_; clear H; intro a w H; try replace H := nt_Texts H; first | (simp only [hsl, hg] at H; replace H := nt_Texts H) | skip
            refine wpT_nil ?_
            try dsimp only
            refine wpZ_run 5 (i := 2) (n' := 2) (pend' := [9, 10]) (by rfl) (by rfl) (by rfl) (by rfl) (by rfl) ?_
            repeat (refine v_someT 3 tab_ok hN H (by rfl) (by (try simp only [hsl, hg, hsl, hx, hsul]); first | done | exact ct_Texts) ?_; clear H; intro a w H; replace H := nt_Texts H; first | (simp only [hsl, hg] at H; replace H := nt_Texts H) | skip; simp only [List.drop_succ_cons, List.drop_zero, List.drop_nil])
            refine wpT_nil ?_
            try dsimp only
            refine wpZ_two (cs := []) (by rfl) (by rfl) ?_
            refine all1 ?_
            refine wpZ_pick (pend' := [10]) (by rfl) (by rfl) ?_
            repeat (refine v_someT 3 tab_ok hN H (by rfl) (by (try simp only [hsl, hg, hsl, hx, hsul]); first | done | exact ct_Texts) ?_; clear H; intro a w H; replace H := nt_Texts H; first | (simp only [hsl, hg] at H; replace H := nt_Texts H) | skip; simp only [List.drop_succ_cons, List.drop_zero, List.drop_nil])
            refine wpT_nil ?_
            try dsimp only
            refine wpZ_two (cs := []) (by rfl) (by rfl) ?_
            refine all1 ?_
            refine wpZ_pick (pend' := []) (by rfl) (by rfl) ?_
            repeat (refine v_someT 3 tab_ok hN H (by rfl) (by (try simp only [hsl, hg, hsl, hx, hsul]); first | done | exact ct_Texts) ?_; clear H; intro a w H; replace H := nt_Texts H; first | (simp only [hsl, hg] at H; replace H := nt_Texts H) | skip; simp only [List.drop_succ_cons, List.drop_zero, List.drop_nil])
            refine wpT_nil ?_
            try dsimp only
            refine wpZ_nil ?_
            replace H := RelT.toRel H
        all_goals
          first
          | exact key1 _ _ (H.to 2 2 ⟨Nat.le_trans hN (by decide), Nat.le_trans hR (by decide)⟩ ⟨rfl, rfl, rfl, rfl, rfl, rfl, rfl, rfl, trivial⟩ rfl rfl rfl rfl rfl)
          | exact key2 _ _ (H.to 2 2 ⟨Nat.le_trans hN (by decide), Nat.le_trans hR (by decide)⟩ ⟨rfl, rfl, rfl, rfl, rfl, rfl, rfl, rfl, trivial⟩ rfl rfl rfl rfl rfl)
      all_goals
        intro a w H
        repeat (first | refine wp_seq ?_ | refine wp_block ?_ | refine wp_skip ?_ | refine wp_exit ?_ | ((first | refine v_some 5 tab_ok hN H (by rfl) (by (try simp only [hsl, hbl, List.length_reverse, hsul, hx]); first | done | exact ct_Texts) ?_ | refine v_more tab_ok hN H (by rfl) (by rfl) (by (try simp only [hsl, hbl, List.length_reverse, hsul, hx]); first | done | exact ct_Texts) ?_); clear H; intro a w H; replace H := nf_Texts H; first | (simp only [hsl, hbl, List.length_reverse] at H; replace H := nf_Texts H) | skip; (try simp only [List.drop_succ_cons, List.drop_zero, List.drop_nil]); try refine wpList_nil ?_) | refine wp_region_lit ?_)
        refine v_call [] [] (hbit) H rfl rfl (by rfl) (by simp [pickB, bxs, ren, idx?, sub_refl, sub, allP, hsl, hbl, List.length_reverse] <;> omega) (by first | rfl | (simp [hsl, hbl, List.length_reverse] <;> omega)) (by first | exact trivial | exact ⟨sub_refl _ _, trivial⟩ | exact ⟨sub_refl _ _, sub_refl _ _, trivial⟩ | exact ⟨sub_refl _ _, sub_refl _ _, sub_refl _ _, trivial⟩ | exact ⟨⟨rfl, sub_refl _ _, trivial⟩, sub_refl _ _, trivial⟩ | (simp [cargs, cargsG, St.ev, St.tmp, find, ren, idx?, sub_refl, sub, allP, resv, resC, bss, hsl, hbl, List.length_reverse] <;> omega)) ?_; clear H; intro a w H; replace H := nf_Texts H; first | (simp only [hsl, hbl, List.length_reverse] at H; replace H := nf_Texts H) | skip; try refine wpList_nil ?_
        repeat (first | refine wp_seq ?_ | refine wp_block ?_ | refine wp_skip ?_ | refine wp_exit ?_ | ((first | refine v_some 5 tab_ok hN H (by rfl) (by (try simp only [hsl, hbl, List.length_reverse, hsul, hx]); first | done | exact ct_Texts) ?_ | refine v_more tab_ok hN H (by rfl) (by rfl) (by (try simp only [hsl, hbl, List.length_reverse, hsul, hx]); first | done | exact ct_Texts) ?_); clear H; intro a w H; replace H := nf_Texts H; first | (simp only [hsl, hbl, List.length_reverse] at H; replace H := nf_Texts H) | skip; (try simp only [List.drop_succ_cons, List.drop_zero, List.drop_nil]); try refine wpList_nil ?_) | refine wp_region_lit ?_)
        simp only [hpb] at H
        refine v_cond H (by rfl) (fun hb => ?_) (fun hb => ?_)
        · have hd : textD key j x t = 2 :: (x ++ sum t) := by unfold textD; rw [hb]; rfl
          rw [hd] at htx
          clear hb
          repeat (first | refine wp_seq ?_ | refine wp_block ?_ | refine wp_skip ?_ | refine wp_exit ?_ | ((first | refine v_some 5 tab_ok hN H (by rfl) (by (try simp only [hsl, hbl, List.length_reverse, hsul, hx]); first | done | exact ct_Texts) ?_ | refine v_more tab_ok hN H (by rfl) (by rfl) (by (try simp only [hsl, hbl, List.length_reverse, hsul, hx]); first | done | exact ct_Texts) ?_); clear H; intro a w H; replace H := nf_Texts H; first | (simp only [hsl, hbl, List.length_reverse] at H; replace H := nf_Texts H) | skip; (try simp only [List.drop_succ_cons, List.drop_zero, List.drop_nil]); try refine wpList_nil ?_) | refine wp_region_lit ?_)
          refine v_call [] [] (hit2) H rfl rfl (by rfl) (by simp [pickB, bxs, ren, idx?, sub_refl, sub, allP, hsl, hbl, List.length_reverse] <;> omega) (by first | rfl | (simp [hsl, hbl, List.length_reverse] <;> omega)) (by first | exact trivial | exact ⟨sub_refl _ _, trivial⟩ | exact ⟨sub_refl _ _, sub_refl _ _, trivial⟩ | exact ⟨sub_refl _ _, sub_refl _ _, sub_refl _ _, trivial⟩ | exact ⟨⟨rfl, sub_refl _ _, trivial⟩, sub_refl _ _, trivial⟩ | (simp [cargs, cargsG, St.ev, St.tmp, find, ren, idx?, sub_refl, sub, allP, resv, resC, bss, hsl, hbl, List.length_reverse] <;> omega)) ?_; clear H; intro a w H; replace H := nf_Texts H; first | (simp only [hsl, hbl, List.length_reverse] at H; replace H := nf_Texts H) | skip; try refine wpList_nil ?_
          generalize 2 :: (x ++ sum t) = t2 at *
          repeat (first | refine wp_seq ?_ | refine wp_block ?_ | refine wp_skip ?_ | refine wp_exit ?_ | ((first | refine v_some 5 tab_ok hN H (by rfl) (by (try simp only [hsl, hbl, List.length_reverse, hsul, hx]); first | done | exact ct_Texts) ?_ | refine v_more tab_ok hN H (by rfl) (by rfl) (by (try simp only [hsl, hbl, List.length_reverse, hsul, hx]); first | done | exact ct_Texts) ?_); clear H; intro a w H; replace H := nf_Texts H; first | (simp only [hsl, hbl, List.length_reverse] at H; replace H := nf_Texts H) | skip; (try simp only [List.drop_succ_cons, List.drop_zero, List.drop_nil]); try refine wpList_nil ?_) | refine wp_region_lit ?_)
          have H := v_sub H 8 (x := .bs t2 (some 2)) (y := .bs t2 none) (by simp only [sub]) rfl (fun _ e => by cases e) rfl
          simp only [nilT, reduceIte, Nat.reduceEqDiff] at H
          replace H := H.keep [2, 5, 6, 8, 10, 11] 0 2 ⟨Nat.le_trans hN (by show _ ≤ 0; decide), Nat.le_trans hR (by show _ ≤ 2; decide)⟩ (by rfl) (by rfl)
          replace H := nf_Texts H; first | (simp only [hsl, hbl, List.length_reverse] at H; replace H := nf_Texts H) | skip
          exact ⟨j, by omega, by omega, H.to 0 2 ⟨hN, Nat.le_trans hR (by decide)⟩ ⟨rfl, by rw [htx, List.reverse_cons, bss_snoc]; rfl, by rw [htx]; rfl, rfl, rfl, rfl, trivial⟩ rfl (by rw [htx, List.reverse_cons, List.length_append, List.length_reverse]; rfl) rfl rfl rfl⟩
        · have hd : textD key j x t = 2 :: (sum t ++ x) := by unfold textD; rw [hb]; rfl
          rw [hd] at htx
          clear hb
          repeat (first | refine wp_seq ?_ | refine wp_block ?_ | refine wp_skip ?_ | refine wp_exit ?_ | ((first | refine v_some 5 tab_ok hN H (by rfl) (by (try simp only [hsl, hbl, List.length_reverse, hsul, hx]); first | done | exact ct_Texts) ?_ | refine v_more tab_ok hN H (by rfl) (by rfl) (by (try simp only [hsl, hbl, List.length_reverse, hsul, hx]); first | done | exact ct_Texts) ?_); clear H; intro a w H; replace H := nf_Texts H; first | (simp only [hsl, hbl, List.length_reverse] at H; replace H := nf_Texts H) | skip; (try simp only [List.drop_succ_cons, List.drop_zero, List.drop_nil]); try refine wpList_nil ?_) | refine wp_region_lit ?_)
          refine v_call [] [] (hit1) H rfl rfl (by rfl) (by simp [pickB, bxs, ren, idx?, sub_refl, sub, allP, hsl, hbl, List.length_reverse] <;> omega) (by first | rfl | (simp [hsl, hbl, List.length_reverse] <;> omega)) (by first | exact trivial | exact ⟨sub_refl _ _, trivial⟩ | exact ⟨sub_refl _ _, sub_refl _ _, trivial⟩ | exact ⟨sub_refl _ _, sub_refl _ _, sub_refl _ _, trivial⟩ | exact ⟨⟨rfl, sub_refl _ _, trivial⟩, sub_refl _ _, trivial⟩ | (simp [cargs, cargsG, St.ev, St.tmp, find, ren, idx?, sub_refl, sub, allP, resv, resC, bss, hsl, hbl, List.length_reverse] <;> omega)) ?_; clear H; intro a w H; replace H := nf_Texts H; first | (simp only [hsl, hbl, List.length_reverse] at H; replace H := nf_Texts H) | skip; try refine wpList_nil ?_
          generalize 2 :: (sum t ++ x) = t2 at *
          repeat (first | refine wp_seq ?_ | refine wp_block ?_ | refine wp_skip ?_ | refine wp_exit ?_ | ((first | refine v_some 5 tab_ok hN H (by rfl) (by (try simp only [hsl, hbl, List.length_reverse, hsul, hx]); first | done | exact ct_Texts) ?_ | refine v_more tab_ok hN H (by rfl) (by rfl) (by (try simp only [hsl, hbl, List.length_reverse, hsul, hx]); first | done | exact ct_Texts) ?_); clear H; intro a w H; replace H := nf_Texts H; first | (simp only [hsl, hbl, List.length_reverse] at H; replace H := nf_Texts H) | skip; (try simp only [List.drop_succ_cons, List.drop_zero, List.drop_nil]); try refine wpList_nil ?_) | refine wp_region_lit ?_)
          have H := v_sub H 8 (x := .bs t2 (some 2)) (y := .bs t2 none) (by simp only [sub]) rfl (fun _ e => by cases e) rfl
          simp only [nilT, reduceIte, Nat.reduceEqDiff] at H
          replace H := H.keep [2, 5, 6, 8, 10, 11] 0 2 ⟨Nat.le_trans hN (by show _ ≤ 0; decide), Nat.le_trans hR (by show _ ≤ 2; decide)⟩ (by rfl) (by rfl)
          replace H := nf_Texts H; first | (simp only [hsl, hbl, List.length_reverse] at H; replace H := nf_Texts H) | skip
          exact ⟨j, by omega, by omega, H.to 0 2 ⟨hN, Nat.le_trans hR (by decide)⟩ ⟨rfl, by rw [htx, List.reverse_cons, bss_snoc]; rfl, by rw [htx]; rfl, rfl, rfl, rfl, trivial⟩ rfl (by rw [htx, List.reverse_cons, List.length_append, List.length_reverse]; rfl) rfl rfl rfl⟩
    · have hge : k = 0 := by rw [decide_eq_false_iff_not] at hb; omega
      subst hge
      clear hb
      rw [List.drop_zero] at H
      repeat (first | refine wp_seq ?_ | refine wp_block ?_ | refine wp_skip ?_ | refine wp_exit ?_ | ((first | refine v_some 5 tab_ok hN H (by rfl) ct_Texts ?_ | refine v_more tab_ok hN H (by rfl) (by rfl) ct_Texts ?_); clear H; intro a w H; replace H := nf_Texts H; (try simp only [List.drop_succ_cons, List.drop_zero, List.drop_nil]); try refine wpList_nil ?_) | refine wp_region_lit ?_)
      generalize tx key 0 s e = ls at *
      replace H := H.keep [5, 10, 57] 0 2 ⟨Nat.le_trans hN (by show _ ≤ 0; decide), Nat.le_trans hR (by show _ ≤ 2; decide)⟩ (by rfl) (by rfl)
      replace H := nf_Texts H
      refine v_rev (i := 1) (d := 57) (ls := ls.reverse) H rfl rfl hNb (Nat.le_trans hR (by decide)) (by rfl) (by rfl) (by rfl) (fun p hp => ?_) (by rfl) ?_
      · simp only [List.mem_cons, List.not_mem_nil, or_false] at hp
        rcases hp with rfl | rfl | rfl
        · first | exact .inl rfl | exact .inr rfl
        · first | exact .inl rfl | exact .inr rfl
        · first | exact .inl rfl | exact .inr rfl
      clear H; intro a w H
      simp only [List.map_cons, List.map_nil, turnS, turnA, List.reverse_reverse, reduceIte] at H
      replace H := nf_Texts H
      refine wpList_nil ?_
      repeat (first | refine wp_seq ?_ | refine wp_block ?_ | refine wp_skip ?_ | refine wp_exit ?_ | ((first | refine v_some 5 tab_ok hN H (by rfl) ct_Texts ?_ | refine v_more tab_ok hN H (by rfl) (by rfl) ct_Texts ?_); clear H; intro a w H; replace H := nf_Texts H; (try simp only [List.drop_succ_cons, List.drop_zero, List.drop_nil]); try refine wpList_nil ?_) | refine wp_region_lit ?_)
      refine wp_ret ?_
      exact v_end [] [] tab_ok ⟨hN, hR⟩ (rs := [.tmp 4, .tmp 5]) (ress := [_, _]) rfl H (by rfl) (by rfl) cb cw ca rfl
theorem texts_bad (key l : List UInt8) (hk32 : key.length = 32) (hl : l.length ≤ 34359730000) (h : ¬ pOk l) : VC Try.prog 8 [.ba key, .bs l none] [] (.tup [.sl .sc (bss (txs key l)) none, errv 10]) := by
  have hd := decodeP_v l hl
  rw [if_neg h] at hd
  rw [txs, if_neg h]
  have hw := pDec_wf l
  obtain ⟨g1, g2, g3, g4⟩ := id hw.e
  generalize pDec l = p at *
  refine v_enter Try.func8 rfl (by kernel_rfl) (by show 2 ≤ 60; decide) ?_
  intro N w0 a w hN hR H
  simp only [Pf.av, Nd.av] at hd
  repeat (first | refine wp_seq ?_ | refine wp_block ?_ | refine wp_skip ?_ | refine wp_exit ?_ | ((first | refine v_some 5 tab_ok hN H (by rfl) ct_Texts ?_ | refine v_more tab_ok hN H (by rfl) (by rfl) ct_Texts ?_); clear H; intro a w H; replace H := nf_Texts H; (try simp only [List.drop_succ_cons, List.drop_zero, List.drop_nil]); try refine wpList_nil ?_) | refine wp_region_lit ?_)
  refine v_call [] [] (hd) H rfl rfl (by rfl) cb cw ca ?_; clear H; intro a w H; replace H := nf_Texts H; try refine wpList_nil ?_
  repeat (first | refine wp_seq ?_ | refine wp_block ?_ | refine wp_skip ?_ | refine wp_exit ?_ | ((first | refine v_some 5 tab_ok hN H (by rfl) ct_Texts ?_ | refine v_more tab_ok hN H (by rfl) (by rfl) ct_Texts ?_); clear H; intro a w H; replace H := nf_Texts H; (try simp only [List.drop_succ_cons, List.drop_zero, List.drop_nil]); try refine wpList_nil ?_) | refine wp_region_lit ?_)
  refine v_cond H (by rfl) (fun hb => ?_) (fun hb => ?_)
  · repeat (first | refine wp_seq ?_ | refine wp_block ?_ | refine wp_skip ?_ | refine wp_exit ?_ | ((first | refine v_some 5 tab_ok hN H (by rfl) ct_Texts ?_ | refine v_more tab_ok hN H (by rfl) (by rfl) ct_Texts ?_); clear H; intro a w H; replace H := nf_Texts H; (try simp only [List.drop_succ_cons, List.drop_zero, List.drop_nil]); try refine wpList_nil ?_) | refine wp_region_lit ?_)
    refine wp_ret ?_
    exact v_end [] [] tab_ok ⟨hN, hR⟩ (rs := [.tmp 4, .tmp 5]) (ress := [_, _]) rfl H (by rfl) (by rfl) cb cw ca rfl
  · simp at hb
theorem texts_v (key l : List UInt8) (hk32 : key.length = 32) (hl : l.length ≤ 34359730000) : VC Try.prog 8 [.ba key, .bs l none] [] (.tup [.sl .sc (bss (txs key l)) none, errv (vErr l)]) := by
  by_cases h : pOk l
  · rw [vErr, if_pos h]; exact texts_ok key l hk32 hl h
  · rw [vErr, if_neg h]; exact texts_bad key l hk32 hl h
end Go.Proofs.Ytlagngkafllbiaa
/- Claims that are accepted, and where two proofs part: extract. -/
namespace Go.Proofs.Ytlagngkafllbiaa
open Go Go.RowKit
/-- The state made plain. -/
theorem nf_Clash {P : Program} {w0 w : World} {N : Gh} {nt : Nat} {st s2 : St} {a : Act} (H : Rel P w0 N nt st a w) (h : st = s2 := by (try simp only [pk, elemB, St.put, St.ev, St.tmp, St.keep, find, dropT, slots, AV.put, AV.loc, fitI, convI, IntKind.signed, IntKind.bits, strip, St.lose, mergeL, setAll, nth, renB, ren, idx?, sub, allP, low, bnd, Int.reduceEq, Nat.reduceAdd, Nat.reduceLT, reduceIte, reduceCtorEq, Nat.reduceEqDiff, Nat.reduceLeDiff, Nat.reduceBEq, Int.reducePow, Int.reduceToNat, ti24_t, ti24_z, ti5_t, ti5_z, ti30_t, ti30_z, ti23_t, ti23_z, ti52_t, ti52_z, ti54_t, ti54_z, ti26_t, ti26_z]); rfl) : Rel P w0 N nt s2 a w := h ▸ H
theorem nt_Clash {P : Program} {w0 w : World} {N gS : Gh} {nt : Nat} {q q2 st s2 : St} {a : Act} (H : RelT P w0 N nt gS q st a w) (h1 : q = q2 := by (try simp only [pk, elemB, St.put, St.ev, St.tmp, St.keep, find, dropT, slots, AV.put, AV.loc, fitI, convI, IntKind.signed, IntKind.bits, strip, St.lose, mergeL, setAll, nth, renB, ren, idx?, sub, allP, low, bnd, Int.reduceEq, Nat.reduceAdd, Nat.reduceLT, reduceIte, reduceCtorEq, Nat.reduceEqDiff, Nat.reduceLeDiff, Nat.reduceBEq, Int.reducePow, Int.reduceToNat, ti24_t, ti24_z, ti5_t, ti5_z, ti30_t, ti30_z, ti23_t, ti23_z, ti52_t, ti52_z, ti54_t, ti54_z, ti26_t, ti26_z]); rfl) (h : st = s2 := by (try simp only [pk, elemB, St.put, St.ev, St.tmp, St.keep, find, dropT, slots, AV.put, AV.loc, fitI, convI, IntKind.signed, IntKind.bits, strip, St.lose, mergeL, setAll, nth, renB, ren, idx?, sub, allP, low, bnd, Int.reduceEq, Nat.reduceAdd, Nat.reduceLT, reduceIte, reduceCtorEq, Nat.reduceEqDiff, Nat.reduceLeDiff, Nat.reduceBEq, Int.reducePow, Int.reduceToNat, ti24_t, ti24_z, ti5_t, ti5_z, ti30_t, ti30_z, ti23_t, ti23_z, ti52_t, ti52_z, ti54_t, ti54_z, ti26_t, ti26_z]); rfl) : RelT P w0 N nt gS q2 s2 a w := h1 ▸ h ▸ H
theorem ct_Clash {c : Prop} (h : c := by ((try simp only [pk, elemB, St.put, St.ev, St.tmp, St.keep, find, dropT, slots, AV.put, AV.loc, fitI, convI, IntKind.signed, IntKind.bits, strip, St.lose, mergeL, setAll, nth, renB, ren, idx?, sub, allP, low, bnd, Int.reduceEq, Nat.reduceAdd, Nat.reduceLT, reduceIte, reduceCtorEq, Nat.reduceEqDiff, Nat.reduceLeDiff, Nat.reduceBEq, Int.reducePow, Int.reduceToNat, ti24_t, ti24_z, ti5_t, ti5_z, ti30_t, ti30_z, ti23_t, ti23_z, ti52_t, ti52_z, ti54_t, ti54_z, ti26_t, ti26_z, ti24, ti5, ti30, ti23, ti52, ti54, ti26, fit, gcond, ilo, ihi]); first | done | exact cd | exact cd2 | skip)) : c := h
/-- A claim. -/
structure Cl where
  t : Bool
  v : List UInt8
  b : List UInt8
def Cl.av (c : Cl) : AV := .st [.v (.bool c.t), .bs c.v none, .bs c.b none]
def vAcc (root key : List UInt8) (c : Cl) : Bool := if c.t then vPres root key c.v c.b else vAbs root key c.b
theorem accepted_v (root key : List UInt8) (c : Cl) (hr : root.length = 32) (hk : key.length = 32) (hv : c.v.length ≤ 34359730000) (hb : c.b.length ≤ 34359730000) : VC Try.prog 42 [.ba root, .ba key, c.av] [] (.v (.bool (vAcc root key c))) := by
  have h1 := vPres_v root key c.v c.b hr hk hv hb
  have h2 := vAbs_v root key c.b hr hk hb
  unfold vAcc
  obtain ⟨t, v, b⟩ := c
  dsimp only at *
  refine v_enter Try.func42 rfl (by kernel_rfl) (by show 3 ≤ 21; decide) ?_
  intro N w0 a w hN hR H
  simp only [Cl.av] at H
  repeat (first | refine wp_seq ?_ | refine wp_block ?_ | refine wp_skip ?_ | refine wp_exit ?_ | ((first | refine v_some 5 tab_ok hN H (by rfl) ct_Clash ?_ | refine v_more tab_ok hN H (by rfl) (by rfl) ct_Clash ?_); clear H; intro a w H; replace H := nf_Clash H; (try simp only [List.drop_succ_cons, List.drop_zero, List.drop_nil]); try refine wpList_nil ?_) | refine wp_region_lit ?_)
  cases t
  · refine v_cond H (by rfl) (fun hb => ?_) (fun hb => ?_)
    · simp at hb
    · repeat (first | refine wp_seq ?_ | refine wp_block ?_ | refine wp_skip ?_ | refine wp_exit ?_ | ((first | refine v_some 5 tab_ok hN H (by rfl) ct_Clash ?_ | refine v_more tab_ok hN H (by rfl) (by rfl) ct_Clash ?_); clear H; intro a w H; replace H := nf_Clash H; (try simp only [List.drop_succ_cons, List.drop_zero, List.drop_nil]); try refine wpList_nil ?_) | refine wp_region_lit ?_)
      refine v_call [] [] (h2) H rfl rfl (by rfl) cb cw ca ?_; clear H; intro a w H; replace H := nf_Clash H; try refine wpList_nil ?_
      repeat (first | refine wp_seq ?_ | refine wp_block ?_ | refine wp_skip ?_ | refine wp_exit ?_ | ((first | refine v_some 5 tab_ok hN H (by rfl) ct_Clash ?_ | refine v_more tab_ok hN H (by rfl) (by rfl) ct_Clash ?_); clear H; intro a w H; replace H := nf_Clash H; (try simp only [List.drop_succ_cons, List.drop_zero, List.drop_nil]); try refine wpList_nil ?_) | refine wp_region_lit ?_)
      refine wp_ret ?_
      exact v_end [] [] tab_ok ⟨hN, hR⟩ (rs := [.tmp 6]) (ress := [_]) rfl H (by rfl) (by rfl) cb cw ca rfl
  · refine v_cond H (by rfl) (fun hb => ?_) (fun hb => ?_)
    · repeat (first | refine wp_seq ?_ | refine wp_block ?_ | refine wp_skip ?_ | refine wp_exit ?_ | ((first | refine v_some 5 tab_ok hN H (by rfl) ct_Clash ?_ | refine v_more tab_ok hN H (by rfl) (by rfl) ct_Clash ?_); clear H; intro a w H; replace H := nf_Clash H; (try simp only [List.drop_succ_cons, List.drop_zero, List.drop_nil]); try refine wpList_nil ?_) | refine wp_region_lit ?_)
      refine v_call [] [] (h1) H rfl rfl (by rfl) cb cw ca ?_; clear H; intro a w H; replace H := nf_Clash H; try refine wpList_nil ?_
      repeat (first | refine wp_seq ?_ | refine wp_block ?_ | refine wp_skip ?_ | refine wp_exit ?_ | ((first | refine v_some 5 tab_ok hN H (by rfl) ct_Clash ?_ | refine v_more tab_ok hN H (by rfl) (by rfl) ct_Clash ?_); clear H; intro a w H; replace H := nf_Clash H; (try simp only [List.drop_succ_cons, List.drop_zero, List.drop_nil]); try refine wpList_nil ?_) | refine wp_region_lit ?_)
      refine wp_ret ?_
      exact v_end [] [] tab_ok ⟨hN, hR⟩ (rs := [.tmp 6]) (ress := [_]) rfl H (by rfl) (by rfl) cb cw ca rfl
    · simp at hb
theorem acceptedL_v (root key : List UInt8) (c : Cl) (hr : root.length = 32) (hk : key.length = 32) (hv : c.v.length ≤ 34359730000) (hb : c.b.length ≤ 34359730000) : VC Try.prog 25 [.ba root, .ba key, c.av] [] (.v (.bool (vAcc root key c))) := by
  have h1 := vPres_v root key c.v c.b hr hk hv hb
  have h2 := vAbs_v root key c.b hr hk hb
  unfold vAcc
  obtain ⟨t, v, b⟩ := c
  dsimp only at *
  refine v_enter Try.func25 rfl (by kernel_rfl) (by show 3 ≤ 21; decide) ?_
  intro N w0 a w hN hR H
  simp only [Cl.av] at H
  repeat (first | refine wp_seq ?_ | refine wp_block ?_ | refine wp_skip ?_ | refine wp_exit ?_ | ((first | refine v_some 5 tab_ok hN H (by rfl) ct_Clash ?_ | refine v_more tab_ok hN H (by rfl) (by rfl) ct_Clash ?_); clear H; intro a w H; replace H := nf_Clash H; (try simp only [List.drop_succ_cons, List.drop_zero, List.drop_nil]); try refine wpList_nil ?_) | refine wp_region_lit ?_)
  cases t
  · refine v_cond H (by rfl) (fun hb => ?_) (fun hb => ?_)
    · simp at hb
    · repeat (first | refine wp_seq ?_ | refine wp_block ?_ | refine wp_skip ?_ | refine wp_exit ?_ | ((first | refine v_some 5 tab_ok hN H (by rfl) ct_Clash ?_ | refine v_more tab_ok hN H (by rfl) (by rfl) ct_Clash ?_); clear H; intro a w H; replace H := nf_Clash H; (try simp only [List.drop_succ_cons, List.drop_zero, List.drop_nil]); try refine wpList_nil ?_) | refine wp_region_lit ?_)
      refine v_call [] [] (h2) H rfl rfl (by rfl) cb cw ca ?_; clear H; intro a w H; replace H := nf_Clash H; try refine wpList_nil ?_
      repeat (first | refine wp_seq ?_ | refine wp_block ?_ | refine wp_skip ?_ | refine wp_exit ?_ | ((first | refine v_some 5 tab_ok hN H (by rfl) ct_Clash ?_ | refine v_more tab_ok hN H (by rfl) (by rfl) ct_Clash ?_); clear H; intro a w H; replace H := nf_Clash H; (try simp only [List.drop_succ_cons, List.drop_zero, List.drop_nil]); try refine wpList_nil ?_) | refine wp_region_lit ?_)
      refine wp_ret ?_
      exact v_end [] [] tab_ok ⟨hN, hR⟩ (rs := [.tmp 6]) (ress := [_]) rfl H (by rfl) (by rfl) cb cw ca rfl
  · refine v_cond H (by rfl) (fun hb => ?_) (fun hb => ?_)
    · repeat (first | refine wp_seq ?_ | refine wp_block ?_ | refine wp_skip ?_ | refine wp_exit ?_ | ((first | refine v_some 5 tab_ok hN H (by rfl) ct_Clash ?_ | refine v_more tab_ok hN H (by rfl) (by rfl) ct_Clash ?_); clear H; intro a w H; replace H := nf_Clash H; (try simp only [List.drop_succ_cons, List.drop_zero, List.drop_nil]); try refine wpList_nil ?_) | refine wp_region_lit ?_)
      refine v_call [] [] (h1) H rfl rfl (by rfl) cb cw ca ?_; clear H; intro a w H; replace H := nf_Clash H; try refine wpList_nil ?_
      repeat (first | refine wp_seq ?_ | refine wp_block ?_ | refine wp_skip ?_ | refine wp_exit ?_ | ((first | refine v_some 5 tab_ok hN H (by rfl) ct_Clash ?_ | refine v_more tab_ok hN H (by rfl) (by rfl) ct_Clash ?_); clear H; intro a w H; replace H := nf_Clash H; (try simp only [List.drop_succ_cons, List.drop_zero, List.drop_nil]); try refine wpList_nil ?_) | refine wp_region_lit ?_)
      refine wp_ret ?_
      exact v_end [] [] tab_ok ⟨hN, hR⟩ (rs := [.tmp 6]) (ress := [_]) rfl H (by rfl) (by rfl) cb cw ca rfl
    · simp at hb
set_option maxRecDepth 20000 in
theorem tagClash_v (x y : List UInt8) (hx : x.length ≤ 34359738000) (hy : y.length ≤ 34359738000) : VC Try.prog 26 [.st [.bs x none, .bs y none]] [] (.v (.bool (!decide (x = y) && decide (sum x = sum y)))) := by
  have h1 := compare_v x y
  have hz1 := cmp_zero x y
  have h2 := sum_v x hx
  have h3 := sum_v y hy
  have l2 := sum_length x
  have l3 := sum_length y
  generalize sum x = u at *
  generalize sum y = v at *
  refine v_enter Try.func26 rfl (by kernel_rfl) (by show 1 ≤ 18; decide) ?_
  intro N w0 a w hN hR H
  repeat (first | refine wp_seq ?_ | refine wp_block ?_ | refine wp_skip ?_ | refine wp_exit ?_ | ((first | refine v_some 5 tab_ok hN H (by rfl) ct_Clash ?_ | refine v_more tab_ok hN H (by rfl) (by rfl) ct_Clash ?_); clear H; intro a w H; replace H := nf_Clash H; (try simp only [List.drop_succ_cons, List.drop_zero, List.drop_nil]); try refine wpList_nil ?_) | refine wp_region_lit ?_)
  repeat (first | refine wp_seq ?_ | refine wp_block ?_)
  refine v_draw 1 [4, 9, 12] [10, 11] (by kernel_rfl) (by kernel_rfl) H (by rfl) (fun gS H => ?_); try replace H := nt_Clash H
  repeat (refine v_someT 5 tab_ok hN H (by rfl) ct_Clash ?_; clear H; intro a w H; replace H := nt_Clash H; simp only [List.drop_succ_cons, List.drop_zero, List.drop_nil])
  refine v_moreT tab_ok hN H (by rfl) ct_Clash ?_; clear H; intro a w H; try replace H := nt_Clash H
  refine v_callT [] [] (h1) H (by rfl) (by rfl) rfl rfl (by rfl) cb cw ca ?_; clear H; intro a w H; try replace H := nt_Clash H
  repeat (refine v_someT 5 tab_ok hN H (by rfl) ct_Clash ?_; clear H; intro a w H; replace H := nt_Clash H; simp only [List.drop_succ_cons, List.drop_zero, List.drop_nil])
  refine v_moreT tab_ok hN H (by rfl) ct_Clash ?_; clear H; intro a w H; try replace H := nt_Clash H
  refine v_callTG [] [] (h2) H (by rfl) (by rfl) (by rfl) rfl (by rfl) cb cw ca (by rfl) (by rfl) (by rfl) ?_; clear H; intro a w H; try replace H := nt_Clash H
  repeat (refine v_someT 5 tab_ok hN H (by rfl) ct_Clash ?_; clear H; intro a w H; replace H := nt_Clash H; simp only [List.drop_succ_cons, List.drop_zero, List.drop_nil])
  refine v_moreT tab_ok hN H (by rfl) ct_Clash ?_; clear H; intro a w H; try replace H := nt_Clash H
  refine v_callTG [] [] (h3) H (by rfl) (by rfl) (by rfl) rfl (by rfl) cb cw ca (by rfl) (by rfl) (by rfl) ?_; clear H; intro a w H; try replace H := nt_Clash H
  repeat (refine v_someT 5 tab_ok hN H (by rfl) ct_Clash ?_; clear H; intro a w H; replace H := nt_Clash H; simp only [List.drop_succ_cons, List.drop_zero, List.drop_nil])
  refine v_moreT tab_ok hN H (by rfl) ct_Clash ?_; clear H; intro a w H; try replace H := nt_Clash H
  refine v_drawNil H (fun H => ?_)
  have e1 : (!decide (x = y) && decide (u = v)) = (bif !decide (Lib.compareBytes x y = 0) then decide (u = v) else false) := by
    rw [show decide (Lib.compareBytes x y = 0) = decide (x = y) from decide_eq_decide.2 hz1]
    cases decide (x = y) <;> rfl
  rw [e1]
  refine wp_ret ?_
  exact v_end [] [] tab_ok ⟨hN, hR⟩ (rs := [.tmp 2]) (ress := [_]) rfl H (by rfl) (by rfl) cb cw ca rfl
theorem valueText_v (v : List UInt8) (hv : v.length ≤ 34359730000) : VC Try.prog 44 [.bs v none] [(5, (3 :: v).length)] (.bs (3 :: v) (some 0)) := by
  have h := text_v 3 [v] (by simp; omega) (by simp)
  have e : [v].flatten = v := by simp
  rw [e] at h
  generalize 3 :: v = x at *
  refine v_enter Try.func44 rfl (by kernel_rfl) (by show 1 ≤ 6; decide) ?_
  intro N w0 a w hN hR H
  repeat (first | refine wp_seq ?_ | refine wp_block ?_ | refine wp_skip ?_ | refine wp_exit ?_ | ((first | refine v_some 5 tab_ok hN H (by rfl) ct_Clash ?_ | refine v_more tab_ok hN H (by rfl) (by rfl) ct_Clash ?_); clear H; intro a w H; replace H := nf_Clash H; (try simp only [List.drop_succ_cons, List.drop_zero, List.drop_nil]); try refine wpList_nil ?_) | refine wp_region_lit ?_)
  refine v_call [] [] (h) H rfl rfl (by rfl) cb cw ca ?_; clear H; intro a w H; replace H := nf_Clash H; try refine wpList_nil ?_
  repeat (first | refine wp_seq ?_ | refine wp_block ?_ | refine wp_skip ?_ | refine wp_exit ?_ | ((first | refine v_some 5 tab_ok hN H (by rfl) ct_Clash ?_ | refine v_more tab_ok hN H (by rfl) (by rfl) ct_Clash ?_); clear H; intro a w H; replace H := nf_Clash H; (try simp only [List.drop_succ_cons, List.drop_zero, List.drop_nil]); try refine wpList_nil ?_) | refine wp_region_lit ?_)
  refine wp_ret ?_
  exact v_end [] [1] tab_ok ⟨hN, hR⟩ (rs := [.tmp 2]) (ress := [_]) rfl H (by rfl) (by rfl) cb cw ca rfl
/-- Where two lists of texts part. -/
def prt : List (List UInt8) → List (List UInt8) → Nat → List UInt8 × List UInt8 × Int
  | x :: a, y :: b, d => if x = y then prt a b (d + 1) else (x, y, (d : Int))
  | _, _, _ => ([], [], -1)
theorem prt_step (a b : List (List UInt8)) (k : Nat) (ha : k < a.length) (hb : k < b.length) : prt (a.drop k) (b.drop k) k = if a.getD k [] = b.getD k [] then prt (a.drop (k + 1)) (b.drop (k + 1)) (k + 1) else (a.getD k [], b.getD k [], (k : Int)) := by
  rw [List.drop_eq_getElem_cons ha, List.drop_eq_getElem_cons hb, List.getElem_eq_getD [], List.getElem_eq_getD []]; rfl
theorem prt_end (a b : List (List UInt8)) (k : Nat) (h : a.length ≤ k ∨ b.length ≤ k) : prt (a.drop k) (b.drop k) k = ([], [], -1) := by
  rcases h with h | h
  · rw [List.drop_of_length_le h]; rfl
  · rw [List.drop_of_length_le h]; cases a.drop k <;> rfl
set_option maxRecDepth 20000 in
set_option maxHeartbeats 2000000 in
theorem part_ok (key p q : List UInt8) (hk : key.length = 32) (hp : p.length ≤ 34359730000) (hq : q.length ≤ 34359730000) (h1 : pOk p) (h2 : pOk q) (hl1 : (txs key p).length ≤ 300) (hl2 : (txs key q).length ≤ 300) :
    VC Try.prog 45 [.ba key, .bs p none, .bs q none] [] (.tup [.st [.bs (prt (txs key p) (txs key q) 0).1 none, .bs (prt (txs key p) (txs key q) 0).2.1 none], .v (.int .i64 (prt (txs key p) (txs key q) 0).2.2), errv 0]) := by
  have t1 := texts_v key p hk hp
  have t2 := texts_v key q hk hq
  rw [vErr, if_pos h1] at t1
  rw [vErr, if_pos h2] at t2
  generalize txs key p = la at *
  generalize txs key q = lb at *
  have hal : (bss la).length = la.length := by simp [bss]
  have hbl : (bss lb).length = lb.length := by simp [bss]
  refine v_enter Try.func45 rfl (by kernel_rfl) (by show 3 ≤ 63; decide) ?_
  intro N w0 a w hN hR H
  repeat (first | refine wp_seq ?_ | refine wp_block ?_ | refine wp_skip ?_ | refine wp_exit ?_ | ((first | refine v_some 5 tab_ok hN H (by rfl) ct_Clash ?_ | refine v_more tab_ok hN H (by rfl) (by rfl) ct_Clash ?_); clear H; intro a w H; replace H := nf_Clash H; (try simp only [List.drop_succ_cons, List.drop_zero, List.drop_nil]); try refine wpList_nil ?_) | refine wp_region_lit ?_)
  refine v_call [] [] (t1) H rfl rfl (by rfl) cb cw ca ?_; clear H; intro a w H; replace H := nf_Clash H; try refine wpList_nil ?_
  repeat (first | refine wp_seq ?_ | refine wp_block ?_ | refine wp_skip ?_ | refine wp_exit ?_ | ((first | refine v_some 5 tab_ok hN H (by rfl) ct_Clash ?_ | refine v_more tab_ok hN H (by rfl) (by rfl) ct_Clash ?_); clear H; intro a w H; replace H := nf_Clash H; (try simp only [List.drop_succ_cons, List.drop_zero, List.drop_nil]); try refine wpList_nil ?_) | refine wp_region_lit ?_)
  refine v_cond H (by rfl) (fun hb => ?_) (fun hb => ?_)
  · simp at hb
  · clear hb
    repeat (first | refine wp_seq ?_ | refine wp_block ?_ | refine wp_skip ?_ | refine wp_exit ?_ | ((first | refine v_some 5 tab_ok hN H (by rfl) ct_Clash ?_ | refine v_more tab_ok hN H (by rfl) (by rfl) ct_Clash ?_); clear H; intro a w H; replace H := nf_Clash H; (try simp only [List.drop_succ_cons, List.drop_zero, List.drop_nil]); try refine wpList_nil ?_) | refine wp_region_lit ?_)
    refine v_call [] [] (t2) H rfl rfl (by rfl) cb cw ca ?_; clear H; intro a w H; replace H := nf_Clash H; try refine wpList_nil ?_
    repeat (first | refine wp_seq ?_ | refine wp_block ?_ | refine wp_skip ?_ | refine wp_exit ?_ | ((first | refine v_some 5 tab_ok hN H (by rfl) ct_Clash ?_ | refine v_more tab_ok hN H (by rfl) (by rfl) ct_Clash ?_); clear H; intro a w H; replace H := nf_Clash H; (try simp only [List.drop_succ_cons, List.drop_zero, List.drop_nil]); try refine wpList_nil ?_) | refine wp_region_lit ?_)
    refine v_cond H (by rfl) (fun hb => ?_) (fun hb => ?_)
    · simp at hb
    · clear hb
      repeat (first | refine wp_seq ?_ | refine wp_block ?_ | refine wp_skip ?_ | refine wp_exit ?_ | ((first | refine v_some 5 tab_ok hN H (by rfl) (by (try simp only [hal, hbl]); first | done | exact ct_Clash) ?_ | refine v_more tab_ok hN H (by rfl) (by rfl) (by (try simp only [hal, hbl]); first | done | exact ct_Clash) ?_); clear H; intro a w H; replace H := nf_Clash H; first | (simp only [hal, hbl] at H; replace H := nf_Clash H) | skip; (try simp only [List.drop_succ_cons, List.drop_zero, List.drop_nil]); try refine wpList_nil ?_) | refine wp_region_lit ?_)
      have em : (if ((lb.length : Nat) : Int) < ((la.length : Nat) : Int) then ((lb.length : Nat) : Int) else ((la.length : Nat) : Int)) = ((min la.length lb.length : Nat) : Int) := by
        split <;> omega
      try rw [em] at H
      obtain ⟨m, hm⟩ : ∃ m, m = min la.length lb.length := ⟨_, rfl⟩
      rw [← hm] at H
      clear em
      refine v_loop (fun k : Nat => ⟨[(38, none, .v (.int .i64 (k : Int))), (37, none, .v (.int .i64 (m : Int))), (11, none, .sl .sc (bss lb) none), (9, none, .sl .sc (bss la) none), (8, none, .v (.int .i64 0)), (7, none, .v (.int .i64 0)), (6, none, .ptr 1 [])], [(.ba 32, .ba key), (ti54.ty, .st [.v (.slice none 0 0), .v (.slice none 0 0)])], [], []⟩)
        (fun k => k ≤ m ∧ prt la lb 0 = prt (la.drop k) (lb.drop k) k) (fun k => m - k) 0 ⟨Nat.zero_le _, rfl⟩ (H.to 2 0 ⟨Nat.le_trans hN (by decide), hR⟩ ⟨rfl, rfl, rfl, rfl, rfl, rfl, rfl, trivial⟩ rfl rfl rfl rfl rfl) ?_
      clear H
      rintro k a w ⟨hk2, hpr⟩ H
      repeat (first | refine wp_seq ?_ | refine wp_block ?_ | refine wp_skip ?_ | refine wp_exit ?_ | ((first | refine v_some 5 tab_ok hN H (by rfl) (by (try simp only [hal, hbl]); first | done | exact ct_Clash) ?_ | refine v_more tab_ok hN H (by rfl) (by rfl) (by (try simp only [hal, hbl]); first | done | exact ct_Clash) ?_); clear H; intro a w H; replace H := nf_Clash H; first | (simp only [hal, hbl] at H; replace H := nf_Clash H) | skip; (try simp only [List.drop_succ_cons, List.drop_zero, List.drop_nil]); try refine wpList_nil ?_) | refine wp_region_lit ?_)
      refine v_cond H (by rfl) (fun hb => ?_) (fun hb => ?_)
      · have hlt : k < m := by rw [decide_eq_true_eq] at hb; omega
        clear hb
        have ga : (bss la).getD k .any = .bs (la.getD k []) none := by rw [← List.getElem_eq_getD (h := show k < la.length by omega) []]; exact bss_get la k (by omega)
        have gb : (bss lb).getD k .any = .bs (lb.getD k []) none := by rw [← List.getElem_eq_getD (h := show k < lb.length by omega) []]; exact bss_get lb k (by omega)
        have hst := prt_step la lb k (by omega) (by omega)
        have hcmp := compare_v (la.getD k []) (lb.getD k [])
        have hcz := cmp_zero (la.getD k []) (lb.getD k [])
        generalize la.getD k [] = x at *
        generalize lb.getD k [] = y at *
        repeat (first | refine wp_seq ?_ | refine wp_block ?_ | refine wp_skip ?_ | refine wp_exit ?_ | ((first | refine v_some 5 tab_ok hN H (by rfl) (by (try simp only [hal, hbl]); first | done | exact ct_Clash) ?_ | refine v_more tab_ok hN H (by rfl) (by rfl) (by (try simp only [hal, hbl]); first | done | exact ct_Clash) ?_); clear H; intro a w H; replace H := nf_Clash H; first | (simp only [hal, hbl] at H; replace H := nf_Clash H) | skip; (try simp only [List.drop_succ_cons, List.drop_zero, List.drop_nil]); try refine wpList_nil ?_) | refine wp_region_lit ?_)
        repeat (first | refine wp_seq ?_ | refine wp_block ?_)
        refine v_draw 2 [8] [] (by kernel_rfl) (by kernel_rfl) H (by rfl) (fun gS H => ?_); try replace H := nt_Clash H; first | (simp only [hal, hbl, ga, gb] at H; replace H := nt_Clash H) | skip
        refine v_someT 3 tab_ok hN H (by rfl) (by (try simp only [hal, hbl, ga, gb, hal, hbl]); first | done | exact ct_Clash) ?_; clear H; intro a w H; replace H := nt_Clash H; first | (simp only [hal, hbl, ga, gb] at H; replace H := nt_Clash H) | skip; simp only [List.drop_succ_cons, List.drop_zero, List.drop_nil]
        refine v_someT 4 tab_ok hN H (by rfl) (by (try simp only [hal, hbl, ga, gb, hal, hbl]); first | done | exact ct_Clash) ?_; clear H; intro a w H; replace H := nt_Clash H; first | (simp only [hal, hbl, ga, gb] at H; replace H := nt_Clash H) | skip; simp only [List.drop_succ_cons, List.drop_zero, List.drop_nil]
        refine v_someT 1 tab_ok hN H (by rfl) (by (try simp only [hal, hbl, ga, gb, hal, hbl]); first | done | exact ct_Clash) ?_; clear H; intro a w H; replace H := nt_Clash H; first | (simp only [hal, hbl, ga, gb] at H; replace H := nt_Clash H) | skip; simp only [List.drop_succ_cons, List.drop_zero, List.drop_nil]
        refine v_callT [] [] (hcmp) H (by rfl) (by rfl) rfl rfl (by rfl) (by simp [pickB, bxs, ren, idx?, sub_refl, sub, allP, hal, hbl, ga, gb] <;> omega) (by first | rfl | (simp [hal, hbl, ga, gb] <;> omega)) (by first | exact trivial | exact ⟨sub_refl _ _, trivial⟩ | exact ⟨sub_refl _ _, sub_refl _ _, trivial⟩ | exact ⟨sub_refl _ _, sub_refl _ _, sub_refl _ _, trivial⟩ | exact ⟨⟨rfl, sub_refl _ _, trivial⟩, sub_refl _ _, trivial⟩ | (simp [cargs, cargsG, St.ev, St.tmp, find, ren, idx?, sub_refl, sub, allP, resv, resC, bss, hal, hbl, ga, gb] <;> omega)) ?_; clear H; intro a w H; try replace H := nt_Clash H; first | (simp only [hal, hbl, ga, gb] at H; replace H := nt_Clash H) | skip
        repeat (refine v_someT 5 tab_ok hN H (by rfl) (by (try simp only [hal, hbl, ga, gb, hal, hbl]); first | done | exact ct_Clash) ?_; clear H; intro a w H; replace H := nt_Clash H; first | (simp only [hal, hbl, ga, gb] at H; replace H := nt_Clash H) | skip; simp only [List.drop_succ_cons, List.drop_zero, List.drop_nil])
        refine v_moreT tab_ok hN H (by rfl) (by (try simp only [hal, hbl, ga, gb, hal, hbl]); first | done | exact ct_Clash) ?_; clear H; intro a w H; try replace H := nt_Clash H; first | (simp only [hal, hbl, ga, gb] at H; replace H := nt_Clash H) | skip
        refine v_drawNil H (fun H => ?_)
        by_cases hxy : x = y
        · rw [if_pos hxy] at hst
          refine v_cond H (by rfl) (fun hb => ?_) (fun hb => ?_)
          · exfalso; rw [hcz.2 hxy] at hb; simp at hb
          · clear hb
            repeat (first | refine wp_seq ?_ | refine wp_block ?_ | refine wp_skip ?_ | refine wp_exit ?_ | ((first | refine v_some 5 tab_ok hN H (by rfl) (by (try simp only [hal, hbl]); first | done | exact ct_Clash) ?_ | refine v_more tab_ok hN H (by rfl) (by rfl) (by (try simp only [hal, hbl]); first | done | exact ct_Clash) ?_); clear H; intro a w H; replace H := nf_Clash H; first | (simp only [hal, hbl] at H; replace H := nf_Clash H) | skip; (try simp only [List.drop_succ_cons, List.drop_zero, List.drop_nil]); try refine wpList_nil ?_) | refine wp_region_lit ?_)
            exact ⟨k + 1, ⟨hlt, by rw [hpr, hst]⟩, by omega, H.to 2 0 ⟨Nat.le_trans hN (by decide), hR⟩ ⟨rfl, rfl, rfl, rfl, rfl, rfl, rfl, trivial⟩ rfl rfl rfl rfl rfl⟩
        · rw [if_neg hxy] at hst
          rw [hpr, hst]
          dsimp only
          refine v_cond H (by rfl) (fun hb => ?_) (fun hb => ?_)
          · clear hb
            repeat (first | refine wp_seq ?_ | refine wp_block ?_ | refine wp_skip ?_ | refine wp_exit ?_ | ((first | refine v_some 5 tab_ok hN H (by rfl) (by (try simp only [hal, hbl]); first | done | exact ct_Clash) ?_ | refine v_more tab_ok hN H (by rfl) (by rfl) (by (try simp only [hal, hbl]); first | done | exact ct_Clash) ?_); clear H; intro a w H; replace H := nf_Clash H; first | (simp only [hal, hbl] at H; replace H := nf_Clash H) | skip; (try simp only [List.drop_succ_cons, List.drop_zero, List.drop_nil]); try refine wpList_nil ?_) | refine wp_region_lit ?_)
            repeat (first | refine wp_seq ?_ | refine wp_block ?_)
            refine v_draw 0 [10] [9] (by kernel_rfl) (by kernel_rfl) H (by rfl) (fun gS H => ?_); try replace H := nt_Clash H; first | (simp only [hal, hbl, ga, gb] at H; replace H := nt_Clash H) | skip
            refine v_someT 3 tab_ok hN H (by rfl) (by (try simp only [hal, hbl, ga, gb, hal, hbl]); first | done | exact ct_Clash) ?_; clear H; intro a w H; replace H := nt_Clash H; first | (simp only [hal, hbl, ga, gb] at H; replace H := nt_Clash H) | skip; simp only [List.drop_succ_cons, List.drop_zero, List.drop_nil]
            refine v_someT 4 tab_ok hN H (by rfl) (by (try simp only [hal, hbl, ga, gb, hal, hbl]); first | done | exact ct_Clash) ?_; clear H; intro a w H; replace H := nt_Clash H; first | (simp only [hal, hbl, ga, gb] at H; replace H := nt_Clash H) | skip; simp only [List.drop_succ_cons, List.drop_zero, List.drop_nil]
            repeat (refine v_someT 5 tab_ok hN H (by rfl) (by (try simp only [hal, hbl, ga, gb, hal, hbl]); first | done | exact ct_Clash) ?_; clear H; intro a w H; replace H := nt_Clash H; first | (simp only [hal, hbl, ga, gb] at H; replace H := nt_Clash H) | skip; simp only [List.drop_succ_cons, List.drop_zero, List.drop_nil])
            refine v_moreT tab_ok hN H (by rfl) (by (try simp only [hal, hbl, ga, gb, hal, hbl]); first | done | exact ct_Clash) ?_; clear H; intro a w H; try replace H := nt_Clash H; first | (simp only [hal, hbl, ga, gb] at H; replace H := nt_Clash H) | skip
            refine v_drawNil H (fun H => ?_)
            refine wp_ret ?_
            exact v_end [] [] tab_ok ⟨hN, hR⟩ (rs := [.cell 6 54, .tmp 7, .tmp 8]) (ress := [_, _, _]) rfl H (by rfl) (by rfl) cb cw ca rfl
          · exfalso; apply hxy; apply hcz.1; simpa using hb
      · have hge : k = m := by rw [decide_eq_false_iff_not] at hb; omega
        have he := prt_end la lb k (by omega)
        rw [hpr, he]
        clear hb
        dsimp only
        repeat (first | refine wp_seq ?_ | refine wp_block ?_ | refine wp_skip ?_ | refine wp_exit ?_ | ((first | refine v_some 5 tab_ok hN H (by rfl) ct_Clash ?_ | refine v_more tab_ok hN H (by rfl) (by rfl) ct_Clash ?_); clear H; intro a w H; replace H := nf_Clash H; (try simp only [List.drop_succ_cons, List.drop_zero, List.drop_nil]); try refine wpList_nil ?_) | refine wp_region_lit ?_)
        refine wp_ret ?_
        exact v_end [] [] tab_ok ⟨hN, hR⟩ (rs := [.cell 6 54, .tmp 7, .tmp 8]) (ress := [_, _, _]) rfl H (by rfl) (by rfl) cb cw (by exact ⟨⟨rfl, rfl, trivial⟩, sub_refl _ _, sub_refl _ _, trivial⟩) rfl
end Go.Proofs.Ytlagngkafllbiaa
/- Two texts with one digest, of two claims: extract.Clash (begun). -/
namespace Go.Proofs.Ytlagngkafllbiaa
open Go Go.RowKit
/-- The state made plain. -/
theorem nf_Clash2 {P : Program} {w0 w : World} {N : Gh} {nt : Nat} {st s2 : St} {a : Act} (H : Rel P w0 N nt st a w) (h : st = s2 := by (try simp only [pk, elemB, St.put, St.ev, St.tmp, St.keep, find, dropT, slots, AV.put, AV.loc, fitI, convI, IntKind.signed, IntKind.bits, strip, St.lose, mergeL, setAll, nth, renB, ren, idx?, sub, allP, low, bnd, Int.reduceEq, Nat.reduceAdd, Nat.reduceLT, reduceIte, reduceCtorEq, Nat.reduceEqDiff, Nat.reduceLeDiff, Nat.reduceBEq, Int.reducePow, Int.reduceToNat, ti24_t, ti24_z, ti5_t, ti5_z, ti30_t, ti30_z, ti23_t, ti23_z, ti52_t, ti52_z, ti54_t, ti54_z, ti26_t, ti26_z]); rfl) : Rel P w0 N nt s2 a w := h ▸ H
theorem ct_Clash2 {c : Prop} (h : c := by ((try simp only [pk, elemB, St.put, St.ev, St.tmp, St.keep, find, dropT, slots, AV.put, AV.loc, fitI, convI, IntKind.signed, IntKind.bits, strip, St.lose, mergeL, setAll, nth, renB, ren, idx?, sub, allP, low, bnd, Int.reduceEq, Nat.reduceAdd, Nat.reduceLT, reduceIte, reduceCtorEq, Nat.reduceEqDiff, Nat.reduceLeDiff, Nat.reduceBEq, Int.reducePow, Int.reduceToNat, ti24_t, ti24_z, ti5_t, ti5_z, ti30_t, ti30_z, ti23_t, ti23_z, ti52_t, ti52_z, ti54_t, ti54_z, ti26_t, ti26_z, ti24, ti5, ti30, ti23, ti52, ti54, ti26, fit, gcond, ilo, ihi]); first | done | exact cd | exact cd2 | skip)) : c := h
/-- What is handed out. -/
def clP (root key : List UInt8) (one two : Cl) : List UInt8 × List UInt8 × Bool :=
  if ¬ (vAcc root key one = true ∧ vAcc root key two = true) then ([], [], false)
  else if (one.t = true ∧ two.t = true ∧ one.v = two.v) ∨ (one.t = false ∧ two.t = false) then ([], [], false)
  else if one.t = true ∧ two.t = true ∧ valH one.v = valH two.v then (3 :: one.v, 3 :: two.v, true)
  else ((prt (txs key one.b) (txs key two.b) 0).1, (prt (txs key one.b) (txs key two.b) 0).2.1, true)
theorem vRd_ok {root key l : List UInt8} (h : (vRd root key l).2.2 = 0) : pOk l := by
  refine Classical.byContradiction fun hn => ?_
  rw [vRd, if_pos hn] at h
  cases h
theorem vAcc_ok {root key : List UInt8} {c : Cl} (h : vAcc root key c = true) : pOk c.b := by
  unfold vAcc at h
  split at h
  · simp only [vPres, Bool.and_eq_true, decide_eq_true_eq] at h
    exact vRd_ok h.2.1
  · simp only [vAbs, Bool.and_eq_true, decide_eq_true_eq] at h
    exact vRd_ok h.1
theorem txs_len (key l : List UInt8) : (txs key l).length ≤ 300 := by
  unfold txs
  split
  · rename_i h
    have := (chk_all (pDec_chk h)).1
    rw [tx_len]; omega
  · simp
theorem clash_no (root key : List UInt8) (one two : Cl) (hr : root.length = 32) (hk : key.length = 32) (h1 : one.v.length ≤ 34359730000) (h2 : one.b.length ≤ 34359730000) (h3 : two.v.length ≤ 34359730000) (h4 : two.b.length ≤ 34359730000) (hn : ¬ (vAcc root key one = true ∧ vAcc root key two = true)) :
    VC Try.prog 22 [.ba root, .ba key, one.av, two.av] [] (.tup [.st [.bs [] none, .bs [] none], .v (.bool false)]) := by
  have c1 := accepted_v root key one hr hk h1 h2
  have c2 := accepted_v root key two hr hk h3 h4
  generalize vAcc root key one = x at *
  generalize vAcc root key two = y at *
  refine v_enter Try.func22 rfl (by kernel_rfl) (by show 4 ≤ 87; decide) ?_
  intro N w0 a w hN hR H
  simp only [Cl.av] at H c1 c2
  repeat (first | refine wp_seq ?_ | refine wp_block ?_ | refine wp_skip ?_ | refine wp_exit ?_ | ((first | refine v_some 5 tab_ok hN H (by rfl) ct_Clash2 ?_ | refine v_more tab_ok hN H (by rfl) (by rfl) ct_Clash2 ?_); clear H; intro a w H; replace H := nf_Clash2 H; (try simp only [List.drop_succ_cons, List.drop_zero, List.drop_nil]); try refine wpList_nil ?_) | refine wp_region_lit ?_)
  refine v_call [] [] (c1) H rfl rfl (by rfl) cb cw ca ?_; clear H; intro a w H; replace H := nf_Clash2 H; try refine wpList_nil ?_
  repeat (first | refine wp_seq ?_ | refine wp_block ?_ | refine wp_skip ?_ | refine wp_exit ?_ | ((first | refine v_some 5 tab_ok hN H (by rfl) ct_Clash2 ?_ | refine v_more tab_ok hN H (by rfl) (by rfl) ct_Clash2 ?_); clear H; intro a w H; replace H := nf_Clash2 H; (try simp only [List.drop_succ_cons, List.drop_zero, List.drop_nil]); try refine wpList_nil ?_) | refine wp_region_lit ?_)
  refine v_callG [] [] (c2) H (by rfl) rfl (by rfl) cb cw ca (by rfl) (by rfl) (by rfl) ?_; clear H; intro a w H; replace H := nf_Clash2 H; try refine wpList_nil ?_
  repeat (first | refine wp_seq ?_ | refine wp_block ?_ | refine wp_skip ?_ | refine wp_exit ?_ | ((first | refine v_some 5 tab_ok hN H (by rfl) ct_Clash2 ?_ | refine v_more tab_ok hN H (by rfl) (by rfl) ct_Clash2 ?_); clear H; intro a w H; replace H := nf_Clash2 H; (try simp only [List.drop_succ_cons, List.drop_zero, List.drop_nil]); try refine wpList_nil ?_) | refine wp_region_lit ?_)
  refine v_cond H (by rfl) (fun hb => ?_) (fun hb => ?_)
  · repeat (first | refine wp_seq ?_ | refine wp_block ?_ | refine wp_skip ?_ | refine wp_exit ?_ | ((first | refine v_some 5 tab_ok hN H (by rfl) ct_Clash2 ?_ | refine v_more tab_ok hN H (by rfl) (by rfl) ct_Clash2 ?_); clear H; intro a w H; replace H := nf_Clash2 H; (try simp only [List.drop_succ_cons, List.drop_zero, List.drop_nil]); try refine wpList_nil ?_) | refine wp_region_lit ?_)
    refine wp_ret ?_
    exact v_end [] [] tab_ok ⟨hN, hR⟩ (rs := [.cell 8 54, .tmp 9]) (ress := [_, _]) rfl H (by rfl) (by rfl) cb cw (by exact ⟨⟨rfl, rfl, trivial⟩, sub_refl _ _, trivial⟩) rfl
  · exfalso
    apply hn
    cases x <;> cases y <;> simp_all
end Go.Proofs.Ytlagngkafllbiaa
/- Two texts with one digest, of two claims that are accepted: extract.Clash. -/
namespace Go.Proofs.Ytlagngkafllbiaa
open Go Go.RowKit
/-- The state made plain. -/
theorem nf_Clash3 {P : Program} {w0 w : World} {N : Gh} {nt : Nat} {st s2 : St} {a : Act} (H : Rel P w0 N nt st a w) (h : st = s2 := by (try simp only [pk, elemB, St.put, St.ev, St.tmp, St.keep, find, dropT, slots, AV.put, AV.loc, fitI, convI, IntKind.signed, IntKind.bits, strip, St.lose, mergeL, setAll, nth, renB, ren, idx?, sub, allP, low, bnd, Int.reduceEq, Nat.reduceAdd, Nat.reduceLT, reduceIte, reduceCtorEq, Nat.reduceEqDiff, Nat.reduceLeDiff, Nat.reduceBEq, Int.reducePow, Int.reduceToNat, ti24_t, ti24_z, ti5_t, ti5_z, ti30_t, ti30_z, ti23_t, ti23_z, ti52_t, ti52_z, ti54_t, ti54_z, ti26_t, ti26_z, ti86_t, ti86_z]); rfl) : Rel P w0 N nt s2 a w := h ▸ H
theorem nt_Clash3 {P : Program} {w0 w : World} {N gS : Gh} {nt : Nat} {q q2 st s2 : St} {a : Act} (H : RelT P w0 N nt gS q st a w) (h1 : q = q2 := by (try simp only [pk, elemB, St.put, St.ev, St.tmp, St.keep, find, dropT, slots, AV.put, AV.loc, fitI, convI, IntKind.signed, IntKind.bits, strip, St.lose, mergeL, setAll, nth, renB, ren, idx?, sub, allP, low, bnd, Int.reduceEq, Nat.reduceAdd, Nat.reduceLT, reduceIte, reduceCtorEq, Nat.reduceEqDiff, Nat.reduceLeDiff, Nat.reduceBEq, Int.reducePow, Int.reduceToNat, ti24_t, ti24_z, ti5_t, ti5_z, ti30_t, ti30_z, ti23_t, ti23_z, ti52_t, ti52_z, ti54_t, ti54_z, ti26_t, ti26_z, ti86_t, ti86_z]); rfl) (h : st = s2 := by (try simp only [pk, elemB, St.put, St.ev, St.tmp, St.keep, find, dropT, slots, AV.put, AV.loc, fitI, convI, IntKind.signed, IntKind.bits, strip, St.lose, mergeL, setAll, nth, renB, ren, idx?, sub, allP, low, bnd, Int.reduceEq, Nat.reduceAdd, Nat.reduceLT, reduceIte, reduceCtorEq, Nat.reduceEqDiff, Nat.reduceLeDiff, Nat.reduceBEq, Int.reducePow, Int.reduceToNat, ti24_t, ti24_z, ti5_t, ti5_z, ti30_t, ti30_z, ti23_t, ti23_z, ti52_t, ti52_z, ti54_t, ti54_z, ti26_t, ti26_z, ti86_t, ti86_z]); rfl) : RelT P w0 N nt gS q2 s2 a w := h1 ▸ h ▸ H
theorem ct_Clash3 {c : Prop} (h : c := by ((try simp only [pk, elemB, St.put, St.ev, St.tmp, St.keep, find, dropT, slots, AV.put, AV.loc, fitI, convI, IntKind.signed, IntKind.bits, strip, St.lose, mergeL, setAll, nth, renB, ren, idx?, sub, allP, low, bnd, Int.reduceEq, Nat.reduceAdd, Nat.reduceLT, reduceIte, reduceCtorEq, Nat.reduceEqDiff, Nat.reduceLeDiff, Nat.reduceBEq, Int.reducePow, Int.reduceToNat, ti24_t, ti24_z, ti5_t, ti5_z, ti30_t, ti30_z, ti23_t, ti23_z, ti52_t, ti52_z, ti54_t, ti54_z, ti26_t, ti26_z, ti86_t, ti86_z, ti24, ti5, ti30, ti23, ti52, ti54, ti26, ti86, fit, gcond, ilo, ihi]); first | done | exact cd | exact cd2 | skip)) : c := h
theorem bqt (b : Bool) : (b == true) = b := by cases b <;> rfl
set_option maxRecDepth 20000 in
set_option maxHeartbeats 4000000 in
theorem clash_yes (root key : List UInt8) (one two : Cl) (hr : root.length = 32) (hk : key.length = 32) (h1 : one.v.length ≤ 34359730000) (h2 : one.b.length ≤ 34359730000) (h3 : two.v.length ≤ 34359730000) (h4 : two.b.length ≤ 34359730000) (hx : vAcc root key one = true) (hy : vAcc root key two = true) :
    VC Try.prog 22 [.ba root, .ba key, one.av, two.av] [] (.tup [.st [.bs (clP root key one two).1 none, .bs (clP root key one two).2.1 none], .v (.bool (clP root key one two).2.2)]) := by
  have c1 := accepted_v root key one hr hk h1 h2
  have c2 := accepted_v root key two hr hk h3 h4
  rw [hx] at c1
  rw [hy] at c2
  have hpart := part_ok key one.b two.b hk h2 h4 (vAcc_ok hx) (vAcc_ok hy) (txs_len _ _) (txs_len _ _)
  have hcmp := compare_v one.v two.v
  have hcz := cmp_zero one.v two.v
  have hv1 := value_v one.v h1
  have hv2 := value_v two.v h3
  have hl1 := valH_len one.v
  have hl2 := valH_len two.v
  have ht1 := valueText_v one.v h1
  have ht2 := valueText_v two.v h3
  rw [clP, if_neg (fun hn => hn ⟨hx, hy⟩)]
  generalize prt (txs key one.b) (txs key two.b) 0 = pr at *
  clear hx hy
  obtain ⟨q1, q2, q3⟩ := pr
  obtain ⟨t1, v1, b1⟩ := one
  obtain ⟨t2, v2, b2⟩ := two
  dsimp only at *
  refine v_enter Try.func22 rfl (by kernel_rfl) (by show 4 ≤ 87; decide) ?_
  intro N w0 a w hN hR H
  simp only [Cl.av] at H c1 c2
  repeat (first | refine wp_seq ?_ | refine wp_block ?_ | refine wp_skip ?_ | refine wp_exit ?_ | ((first | refine v_some 5 tab_ok hN H (by rfl) ct_Clash3 ?_ | refine v_more tab_ok hN H (by rfl) (by rfl) ct_Clash3 ?_); clear H; intro a w H; replace H := nf_Clash3 H; (try simp only [List.drop_succ_cons, List.drop_zero, List.drop_nil]); try refine wpList_nil ?_) | refine wp_region_lit ?_)
  refine v_call [] [] (c1) H rfl rfl (by rfl) cb cw ca ?_; clear H; intro a w H; replace H := nf_Clash3 H; try refine wpList_nil ?_
  repeat (first | refine wp_seq ?_ | refine wp_block ?_ | refine wp_skip ?_ | refine wp_exit ?_ | ((first | refine v_some 5 tab_ok hN H (by rfl) ct_Clash3 ?_ | refine v_more tab_ok hN H (by rfl) (by rfl) ct_Clash3 ?_); clear H; intro a w H; replace H := nf_Clash3 H; (try simp only [List.drop_succ_cons, List.drop_zero, List.drop_nil]); try refine wpList_nil ?_) | refine wp_region_lit ?_)
  refine v_callG [] [] (c2) H (by rfl) rfl (by rfl) cb cw ca (by rfl) (by rfl) (by rfl) ?_; clear H; intro a w H; replace H := nf_Clash3 H; try refine wpList_nil ?_
  repeat (first | refine wp_seq ?_ | refine wp_block ?_ | refine wp_skip ?_ | refine wp_exit ?_ | ((first | refine v_some 5 tab_ok hN H (by rfl) ct_Clash3 ?_ | refine v_more tab_ok hN H (by rfl) (by rfl) ct_Clash3 ?_); clear H; intro a w H; replace H := nf_Clash3 H; (try simp only [List.drop_succ_cons, List.drop_zero, List.drop_nil]); try refine wpList_nil ?_) | refine wp_region_lit ?_)
  refine v_cond H (by rfl) (fun hb => ?_) (fun hb => ?_)
  · simp at hb
  · clear hb
    repeat (first | refine wp_seq ?_ | refine wp_block ?_ | refine wp_skip ?_ | refine wp_exit ?_ | ((first | refine v_some 5 tab_ok hN H (by rfl) ct_Clash3 ?_ | refine v_more tab_ok hN H (by rfl) (by rfl) ct_Clash3 ?_); clear H; intro a w H; replace H := nf_Clash3 H; (try simp only [List.drop_succ_cons, List.drop_zero, List.drop_nil]); try refine wpList_nil ?_) | refine wp_region_lit ?_)
    have H := v_ref H 7 3 (Nat.le_trans hN (by decide)) rfl rfl rfl
    simp only [nilT, strip, List.map_cons, List.map_nil, reduceIte, Nat.reduceEqDiff] at H
    have H := v_ref H 6 2 (Nat.le_trans hN (by decide)) rfl rfl rfl
    simp only [nilT, strip, List.map_cons, List.map_nil, reduceIte, Nat.reduceEqDiff] at H
    have H := v_ref H 5 1 (Nat.le_trans hN (by decide)) rfl rfl rfl
    simp only [nilT, strip, List.map_cons, List.map_nil, reduceIte, Nat.reduceEqDiff] at H
    replace H := H.keep [5, 6, 7, 8, 9] 5 0 ⟨Nat.le_trans hN (by show _ ≤ 5; decide), Nat.le_trans hR (by show _ ≤ 0; decide)⟩ (by rfl) (by rfl)
    replace H := nf_Clash3 H
    apply cutG (R := fun a w => Rel Try.prog w0 N Try.f22.ntmps ⟨[(10, none, .ptr 5 []), (9, none, .v (.bool false)), (8, none, .ptr 4 []), (7, none, .ref ti52.ty (.st [.v (.bool t2), .bs v2 none, .bs b2 none])), (6, none, .ref ti52.ty (.st [.v (.bool t1), .bs v1 none, .bs b1 none])), (5, none, .ref (.ba 32) (.ba key))],
      [(.ba 32, .ba root), (.ba 32, .ba key), (ti52.ty, .st [.v (.bool t1), .bs v1 none, .bs b1 none]), (ti52.ty, .st [.v (.bool t2), .bs v2 none, .bs b2 none]), (ti54.ty, .st [.v (.slice none 0 0), .v (.slice none 0 0)]), (ti86.ty, .st [.v (.bool t1), .v (.bool t2), .v (.bool (decide (Lib.compareBytes v1 v2 = 0)))])], [1, 2, 3], []⟩ a w)
    intro key1
    · repeat (first | refine wp_seq ?_ | refine wp_block ?_)
      refine v_drawZ 0 [0, 1, 2, 3, 4, 5, 6, 7, 8, 9, 10, 11, 12] [8, 11, 12] [0, 1, 2, 3, 4, 5, 6, 7, 9, 10] [(8, 11)] (by kernel_rfl) (by kernel_rfl) (by kernel_rfl) (by kernel_rfl) (by kernel_rfl) H (by rfl) (fun gS H => ?_); try replace H := nt_Clash3 H
      refine wpZ_run 8 (i := 0) (n' := 5) (pend' := [8, 9, 10, 11, 12]) (by rfl) (by rfl) (by rfl) (by rfl) (by rfl) ?_
      repeat (refine v_someT 3 tab_ok hN H (by rfl) ct_Clash3 ?_; clear H; intro a w H; replace H := nt_Clash3 H; simp only [List.drop_succ_cons, List.drop_zero, List.drop_nil])
      refine wpT_nil ?_
      try dsimp only
      refine wpZ_two (cs := [11]) (by rfl) (by rfl) ?_
      refine all2 ?_
      refine ⟨?_, ?_⟩
      focus
        refine wpZ_pick (pend' := [9, 10, 11, 12]) (by rfl) (by rfl) ?_
        refine v_callT [] [] (hcmp) H (by rfl) (by rfl) rfl rfl (by rfl) cb cw ca ?_; clear H; intro a w H; try replace H := nt_Clash3 H
        refine wpT_nil ?_
        try dsimp only
        refine wpZ_run 2 (i := 9) (n' := 2) (pend' := [11, 12]) (by rfl) (by rfl) (by rfl) (by rfl) (by rfl) ?_
        repeat (refine v_someT 3 tab_ok hN H (by rfl) ct_Clash3 ?_; clear H; intro a w H; replace H := nt_Clash3 H; simp only [List.drop_succ_cons, List.drop_zero, List.drop_nil])
        refine wpT_nil ?_
        try dsimp only
        refine wpZ_two (cs := []) (by rfl) (by rfl) ?_
        refine all1 ?_
        refine wpZ_pick (pend' := [12]) (by rfl) (by rfl) ?_
        repeat (refine v_someT 3 tab_ok hN H (by rfl) ct_Clash3 ?_; clear H; intro a w H; replace H := nt_Clash3 H; simp only [List.drop_succ_cons, List.drop_zero, List.drop_nil])
        refine wpT_nil ?_
        try dsimp only
        refine wpZ_two (cs := []) (by rfl) (by rfl) ?_
        refine all1 ?_
        refine wpZ_pick (pend' := []) (by rfl) (by rfl) ?_
        repeat (refine v_someT 3 tab_ok hN H (by rfl) ct_Clash3 ?_; clear H; intro a w H; replace H := nt_Clash3 H; simp only [List.drop_succ_cons, List.drop_zero, List.drop_nil])
        refine wpT_nil ?_
        try dsimp only
        refine wpZ_nil ?_
        replace H := RelT.toRel H
      rotate_left 1
      focus
        refine wpZ_pick (pend' := [8, 9, 10, 12]) (by rfl) (by rfl) ?_
        repeat (refine v_someT 3 tab_ok hN H (by rfl) ct_Clash3 ?_; clear H; intro a w H; replace H := nt_Clash3 H; simp only [List.drop_succ_cons, List.drop_zero, List.drop_nil])
        refine wpT_nil ?_
        try dsimp only
        refine wpZ_two (cs := []) (by rfl) (by rfl) ?_
        refine all1 ?_
        refine wpZ_pick (pend' := [9, 10, 12]) (by rfl) (by rfl) ?_
        refine v_callT [] [] (hcmp) H (by rfl) (by rfl) rfl rfl (by rfl) cb cw ca ?_; clear H; intro a w H; try replace H := nt_Clash3 H
        refine wpT_nil ?_
        try dsimp only
        refine wpZ_run 2 (i := 9) (n' := 1) (pend' := [12]) (by rfl) (by rfl) (by rfl) (by rfl) (by rfl) ?_
        repeat (refine v_someT 3 tab_ok hN H (by rfl) ct_Clash3 ?_; clear H; intro a w H; replace H := nt_Clash3 H; simp only [List.drop_succ_cons, List.drop_zero, List.drop_nil])
        refine wpT_nil ?_
        try dsimp only
        refine wpZ_two (cs := []) (by rfl) (by rfl) ?_
        refine all1 ?_
        refine wpZ_pick (pend' := []) (by rfl) (by rfl) ?_
        repeat (refine v_someT 3 tab_ok hN H (by rfl) ct_Clash3 ?_; clear H; intro a w H; replace H := nt_Clash3 H; simp only [List.drop_succ_cons, List.drop_zero, List.drop_nil])
        refine wpT_nil ?_
        try dsimp only
        refine wpZ_nil ?_
        replace H := RelT.toRel H
      all_goals
        exact key1 _ _ (H.to 6 0 ⟨Nat.le_trans hN (by decide), hR⟩ ⟨rfl, rfl, rfl, rfl, rfl, rfl, trivial⟩ rfl rfl rfl rfl rfl)
    clear H
    intro a w H
    have ez : decide (Lib.compareBytes v1 v2 = 0) = decide (v1 = v2) := decide_eq_decide.2 hcz
    rw [ez] at H
    clear ez hcz hcmp c1 c2
    cases t1 <;> cases t2
    · simp only [Bool.false_eq_true, false_and, and_self, or_true, reduceIte]
      repeat (first | refine wp_seq ?_ | refine wp_block ?_ | refine wp_skip ?_ | refine wp_exit ?_ | ((first | refine v_some 5 tab_ok hN H (by rfl) (by (try simp only [bqt, Bool.false_and, Bool.and_false]); first | done | exact ct_Clash3) ?_ | refine v_more tab_ok hN H (by rfl) (by rfl) (by (try simp only [bqt, Bool.false_and, Bool.and_false]); first | done | exact ct_Clash3) ?_); clear H; intro a w H; replace H := nf_Clash3 H; first | (simp only [bqt, Bool.false_and, Bool.and_false] at H; replace H := nf_Clash3 H) | skip; (try simp only [List.drop_succ_cons, List.drop_zero, List.drop_nil]); try refine wpList_nil ?_) | refine wp_region_lit ?_)
      refine v_cond H (by rfl) (fun hb => ?_) (fun hb => ?_)
      · repeat (first | refine wp_seq ?_ | refine wp_block ?_ | refine wp_skip ?_ | refine wp_exit ?_ | ((first | refine v_some 5 tab_ok hN H (by rfl) (by (try simp only [bqt, Bool.false_and, Bool.and_false]); first | done | exact ct_Clash3) ?_ | refine v_more tab_ok hN H (by rfl) (by rfl) (by (try simp only [bqt, Bool.false_and, Bool.and_false]); first | done | exact ct_Clash3) ?_); clear H; intro a w H; replace H := nf_Clash3 H; first | (simp only [bqt, Bool.false_and, Bool.and_false] at H; replace H := nf_Clash3 H) | skip; (try simp only [List.drop_succ_cons, List.drop_zero, List.drop_nil]); try refine wpList_nil ?_) | refine wp_region_lit ?_)
        refine wp_ret ?_
        exact v_end [] [] tab_ok ⟨hN, hR⟩ (rs := [.cell 8 54, .tmp 9]) (ress := [_, _]) rfl H (by rfl) (by rfl) cb cw (by exact ⟨⟨rfl, rfl, trivial⟩, sub_refl _ _, trivial⟩) rfl
      · simp at hb
    · simp only [Bool.false_eq_true, Bool.true_eq_false, false_and, and_false, or_self, reduceIte]
      repeat (first | refine wp_seq ?_ | refine wp_block ?_ | refine wp_skip ?_ | refine wp_exit ?_ | ((first | refine v_some 5 tab_ok hN H (by rfl) (by (try simp only [bqt, Bool.false_and, Bool.and_false]); first | done | exact ct_Clash3) ?_ | refine v_more tab_ok hN H (by rfl) (by rfl) (by (try simp only [bqt, Bool.false_and, Bool.and_false]); first | done | exact ct_Clash3) ?_); clear H; intro a w H; replace H := nf_Clash3 H; first | (simp only [bqt, Bool.false_and, Bool.and_false] at H; replace H := nf_Clash3 H) | skip; (try simp only [List.drop_succ_cons, List.drop_zero, List.drop_nil]); try refine wpList_nil ?_) | refine wp_region_lit ?_)
      refine v_cond H (by rfl) (fun hb => ?_) (fun hb => ?_)
      · simp at hb
      · clear hb
        repeat (first | refine wp_seq ?_ | refine wp_block ?_ | refine wp_skip ?_ | refine wp_exit ?_ | ((first | refine v_some 5 tab_ok hN H (by rfl) (by (try simp only [bqt, Bool.false_and, Bool.and_false]); first | done | exact ct_Clash3) ?_ | refine v_more tab_ok hN H (by rfl) (by rfl) (by (try simp only [bqt, Bool.false_and, Bool.and_false]); first | done | exact ct_Clash3) ?_); clear H; intro a w H; replace H := nf_Clash3 H; first | (simp only [bqt, Bool.false_and, Bool.and_false] at H; replace H := nf_Clash3 H) | skip; (try simp only [List.drop_succ_cons, List.drop_zero, List.drop_nil]); try refine wpList_nil ?_) | refine wp_region_lit ?_)
        repeat (first | refine wp_seq ?_ | refine wp_block ?_)
        refine v_draw 6 [9, 12] [10, 11] (by kernel_rfl) (by kernel_rfl) H (by rfl) (fun gS H => ?_); try replace H := nt_Clash3 H; first | (simp only [bqt, Bool.false_and, Bool.and_false] at H; replace H := nt_Clash3 H) | skip
        repeat (refine v_someT 5 tab_ok hN H (by rfl) (by (try simp only [bqt, Bool.false_and, Bool.and_false]); first | done | exact ct_Clash3) ?_; clear H; intro a w H; replace H := nt_Clash3 H; first | (simp only [bqt, Bool.false_and, Bool.and_false] at H; replace H := nt_Clash3 H) | skip; simp only [List.drop_succ_cons, List.drop_zero, List.drop_nil])
        refine v_moreT tab_ok hN H (by rfl) (by (try simp only [bqt, Bool.false_and, Bool.and_false]); first | done | exact ct_Clash3) ?_; clear H; intro a w H; try replace H := nt_Clash3 H; first | (simp only [bqt, Bool.false_and, Bool.and_false] at H; replace H := nt_Clash3 H) | skip
        refine v_skipT (.ba (valH v1)) H (by rfl) (by rfl) (by rfl) ?_; clear H; intro a w H; try replace H := nt_Clash3 H; first | (simp only [bqt, Bool.false_and, Bool.and_false] at H; replace H := nt_Clash3 H) | skip
        repeat (refine v_someT 5 tab_ok hN H (by rfl) (by (try simp only [bqt, Bool.false_and, Bool.and_false]); first | done | exact ct_Clash3) ?_; clear H; intro a w H; replace H := nt_Clash3 H; first | (simp only [bqt, Bool.false_and, Bool.and_false] at H; replace H := nt_Clash3 H) | skip; simp only [List.drop_succ_cons, List.drop_zero, List.drop_nil])
        refine v_moreT tab_ok hN H (by rfl) (by (try simp only [bqt, Bool.false_and, Bool.and_false]); first | done | exact ct_Clash3) ?_; clear H; intro a w H; try replace H := nt_Clash3 H; first | (simp only [bqt, Bool.false_and, Bool.and_false] at H; replace H := nt_Clash3 H) | skip
        refine v_skipT (.ba (valH v2)) H (by rfl) (by rfl) (by rfl) ?_; clear H; intro a w H; try replace H := nt_Clash3 H; first | (simp only [bqt, Bool.false_and, Bool.and_false] at H; replace H := nt_Clash3 H) | skip
        repeat (refine v_someT 5 tab_ok hN H (by rfl) (by (try simp only [bqt, Bool.false_and, Bool.and_false]); first | done | exact ct_Clash3) ?_; clear H; intro a w H; replace H := nt_Clash3 H; first | (simp only [bqt, Bool.false_and, Bool.and_false] at H; replace H := nt_Clash3 H) | skip; simp only [List.drop_succ_cons, List.drop_zero, List.drop_nil])
        refine v_moreT tab_ok hN H (by rfl) (by (try simp only [bqt, Bool.false_and, Bool.and_false]); first | done | exact ct_Clash3) ?_; clear H; intro a w H; try replace H := nt_Clash3 H; first | (simp only [bqt, Bool.false_and, Bool.and_false] at H; replace H := nt_Clash3 H) | skip
        refine v_drawNil H (fun H => ?_)
        refine v_cond H (by rfl) (fun hb => ?_) (fun hb => ?_)
        · simp at hb
        · clear hb
          replace H := H.keep [5, 6, 7, 8, 9] 5 0 ⟨Nat.le_trans hN (by show _ ≤ 5; decide), Nat.le_trans hR (by show _ ≤ 0; decide)⟩ (by rfl) (by rfl)
          replace H := nf_Clash3 H
          repeat (first | refine wp_seq ?_ | refine wp_block ?_ | refine wp_skip ?_ | refine wp_exit ?_ | ((first | refine v_some 5 tab_ok hN H (by rfl) ct_Clash3 ?_ | refine v_more tab_ok hN H (by rfl) (by rfl) ct_Clash3 ?_); clear H; intro a w H; replace H := nf_Clash3 H; (try simp only [List.drop_succ_cons, List.drop_zero, List.drop_nil]); try refine wpList_nil ?_) | refine wp_region_lit ?_)
          refine v_call [] [] (hpart) H rfl rfl (by rfl) cb cw ca ?_; clear H; intro a w H; replace H := nf_Clash3 H; try refine wpList_nil ?_
          repeat (first | refine wp_seq ?_ | refine wp_block ?_ | refine wp_skip ?_ | refine wp_exit ?_ | ((first | refine v_some 5 tab_ok hN H (by rfl) ct_Clash3 ?_ | refine v_more tab_ok hN H (by rfl) (by rfl) ct_Clash3 ?_); clear H; intro a w H; replace H := nf_Clash3 H; (try simp only [List.drop_succ_cons, List.drop_zero, List.drop_nil]); try refine wpList_nil ?_) | refine wp_region_lit ?_)
          refine wp_ret ?_
          exact v_end [] [] tab_ok ⟨hN, hR⟩ (rs := [.cell 8 54, .tmp 9]) (ress := [_, _]) rfl H (by rfl) (by rfl) cb cw ca rfl
    · simp only [Bool.false_eq_true, Bool.true_eq_false, false_and, and_false, or_self, reduceIte]
      repeat (first | refine wp_seq ?_ | refine wp_block ?_ | refine wp_skip ?_ | refine wp_exit ?_ | ((first | refine v_some 5 tab_ok hN H (by rfl) ct_Clash3 ?_ | refine v_more tab_ok hN H (by rfl) (by rfl) ct_Clash3 ?_); clear H; intro a w H; replace H := nf_Clash3 H; (try simp only [List.drop_succ_cons, List.drop_zero, List.drop_nil]); try refine wpList_nil ?_) | refine wp_region_lit ?_)
      refine v_cond H (by rfl) (fun hb => ?_) (fun hb => ?_)
      · simp at hb
      · clear hb
        repeat (first | refine wp_seq ?_ | refine wp_block ?_ | refine wp_skip ?_ | refine wp_exit ?_ | ((first | refine v_some 5 tab_ok hN H (by rfl) ct_Clash3 ?_ | refine v_more tab_ok hN H (by rfl) (by rfl) ct_Clash3 ?_); clear H; intro a w H; replace H := nf_Clash3 H; (try simp only [List.drop_succ_cons, List.drop_zero, List.drop_nil]); try refine wpList_nil ?_) | refine wp_region_lit ?_)
        repeat (first | refine wp_seq ?_ | refine wp_block ?_)
        refine v_draw 6 [9, 12] [10, 11] (by kernel_rfl) (by kernel_rfl) H (by rfl) (fun gS H => ?_); try replace H := nt_Clash3 H
        repeat (refine v_someT 5 tab_ok hN H (by rfl) ct_Clash3 ?_; clear H; intro a w H; replace H := nt_Clash3 H; simp only [List.drop_succ_cons, List.drop_zero, List.drop_nil])
        refine v_moreT tab_ok hN H (by rfl) ct_Clash3 ?_; clear H; intro a w H; try replace H := nt_Clash3 H
        refine v_skipT (.ba (valH v1)) H (by rfl) (by rfl) (by rfl) ?_; clear H; intro a w H; try replace H := nt_Clash3 H
        repeat (refine v_someT 5 tab_ok hN H (by rfl) ct_Clash3 ?_; clear H; intro a w H; replace H := nt_Clash3 H; simp only [List.drop_succ_cons, List.drop_zero, List.drop_nil])
        refine v_moreT tab_ok hN H (by rfl) ct_Clash3 ?_; clear H; intro a w H; try replace H := nt_Clash3 H
        refine v_skipT (.ba (valH v2)) H (by rfl) (by rfl) (by rfl) ?_; clear H; intro a w H; try replace H := nt_Clash3 H
        repeat (refine v_someT 5 tab_ok hN H (by rfl) ct_Clash3 ?_; clear H; intro a w H; replace H := nt_Clash3 H; simp only [List.drop_succ_cons, List.drop_zero, List.drop_nil])
        refine v_moreT tab_ok hN H (by rfl) ct_Clash3 ?_; clear H; intro a w H; try replace H := nt_Clash3 H
        refine v_drawNil H (fun H => ?_)
        refine v_cond H (by rfl) (fun hb => ?_) (fun hb => ?_)
        · simp at hb
        · clear hb
          replace H := H.keep [5, 6, 7, 8, 9] 5 0 ⟨Nat.le_trans hN (by show _ ≤ 5; decide), Nat.le_trans hR (by show _ ≤ 0; decide)⟩ (by rfl) (by rfl)
          replace H := nf_Clash3 H
          repeat (first | refine wp_seq ?_ | refine wp_block ?_ | refine wp_skip ?_ | refine wp_exit ?_ | ((first | refine v_some 5 tab_ok hN H (by rfl) ct_Clash3 ?_ | refine v_more tab_ok hN H (by rfl) (by rfl) ct_Clash3 ?_); clear H; intro a w H; replace H := nf_Clash3 H; (try simp only [List.drop_succ_cons, List.drop_zero, List.drop_nil]); try refine wpList_nil ?_) | refine wp_region_lit ?_)
          refine v_call [] [] (hpart) H rfl rfl (by rfl) cb cw ca ?_; clear H; intro a w H; replace H := nf_Clash3 H; try refine wpList_nil ?_
          repeat (first | refine wp_seq ?_ | refine wp_block ?_ | refine wp_skip ?_ | refine wp_exit ?_ | ((first | refine v_some 5 tab_ok hN H (by rfl) ct_Clash3 ?_ | refine v_more tab_ok hN H (by rfl) (by rfl) ct_Clash3 ?_); clear H; intro a w H; replace H := nf_Clash3 H; (try simp only [List.drop_succ_cons, List.drop_zero, List.drop_nil]); try refine wpList_nil ?_) | refine wp_region_lit ?_)
          refine wp_ret ?_
          exact v_end [] [] tab_ok ⟨hN, hR⟩ (rs := [.cell 8 54, .tmp 9]) (ress := [_, _]) rfl H (by rfl) (by rfl) cb cw ca rfl
    · simp only [true_and, Bool.true_eq_false, and_self, or_false]
      by_cases hv : v1 = v2
      · rw [if_pos hv]
        simp only [decide_eq_true hv] at H
        repeat (first | refine wp_seq ?_ | refine wp_block ?_ | refine wp_skip ?_ | refine wp_exit ?_ | ((first | refine v_some 5 tab_ok hN H (by rfl) ct_Clash3 ?_ | refine v_more tab_ok hN H (by rfl) (by rfl) ct_Clash3 ?_); clear H; intro a w H; replace H := nf_Clash3 H; (try simp only [List.drop_succ_cons, List.drop_zero, List.drop_nil]); try refine wpList_nil ?_) | refine wp_region_lit ?_)
        refine v_cond H (by rfl) (fun hb => ?_) (fun hb => ?_)
        · repeat (first | refine wp_seq ?_ | refine wp_block ?_ | refine wp_skip ?_ | refine wp_exit ?_ | ((first | refine v_some 5 tab_ok hN H (by rfl) ct_Clash3 ?_ | refine v_more tab_ok hN H (by rfl) (by rfl) ct_Clash3 ?_); clear H; intro a w H; replace H := nf_Clash3 H; (try simp only [List.drop_succ_cons, List.drop_zero, List.drop_nil]); try refine wpList_nil ?_) | refine wp_region_lit ?_)
          refine wp_ret ?_
          exact v_end [] [] tab_ok ⟨hN, hR⟩ (rs := [.cell 8 54, .tmp 9]) (ress := [_, _]) rfl H (by rfl) (by rfl) cb cw (by exact ⟨⟨rfl, rfl, trivial⟩, sub_refl _ _, trivial⟩) rfl
        · simp at hb
      · rw [if_neg hv]
        simp only [decide_eq_false hv] at H
        repeat (first | refine wp_seq ?_ | refine wp_block ?_ | refine wp_skip ?_ | refine wp_exit ?_ | ((first | refine v_some 5 tab_ok hN H (by rfl) ct_Clash3 ?_ | refine v_more tab_ok hN H (by rfl) (by rfl) ct_Clash3 ?_); clear H; intro a w H; replace H := nf_Clash3 H; (try simp only [List.drop_succ_cons, List.drop_zero, List.drop_nil]); try refine wpList_nil ?_) | refine wp_region_lit ?_)
        refine v_cond H (by rfl) (fun hb => ?_) (fun hb => ?_)
        · simp at hb
        · clear hb
          repeat (first | refine wp_seq ?_ | refine wp_block ?_ | refine wp_skip ?_ | refine wp_exit ?_ | ((first | refine v_some 5 tab_ok hN H (by rfl) ct_Clash3 ?_ | refine v_more tab_ok hN H (by rfl) (by rfl) ct_Clash3 ?_); clear H; intro a w H; replace H := nf_Clash3 H; (try simp only [List.drop_succ_cons, List.drop_zero, List.drop_nil]); try refine wpList_nil ?_) | refine wp_region_lit ?_)
          repeat (first | refine wp_seq ?_ | refine wp_block ?_)
          refine v_draw 6 [9, 12] [10, 11] (by kernel_rfl) (by kernel_rfl) H (by rfl) (fun gS H => ?_); try replace H := nt_Clash3 H
          repeat (refine v_someT 5 tab_ok hN H (by rfl) ct_Clash3 ?_; clear H; intro a w H; replace H := nt_Clash3 H; simp only [List.drop_succ_cons, List.drop_zero, List.drop_nil])
          refine v_moreT tab_ok hN H (by rfl) ct_Clash3 ?_; clear H; intro a w H; try replace H := nt_Clash3 H
          refine v_callTG [] [] (hv1) H (by rfl) (by rfl) (by rfl) rfl (by rfl) cb cw ca (by rfl) (by rfl) (by rfl) ?_; clear H; intro a w H; try replace H := nt_Clash3 H
          repeat (refine v_someT 5 tab_ok hN H (by rfl) ct_Clash3 ?_; clear H; intro a w H; replace H := nt_Clash3 H; simp only [List.drop_succ_cons, List.drop_zero, List.drop_nil])
          refine v_moreT tab_ok hN H (by rfl) ct_Clash3 ?_; clear H; intro a w H; try replace H := nt_Clash3 H
          refine v_callTG [] [] (hv2) H (by rfl) (by rfl) (by rfl) rfl (by rfl) cb cw ca (by rfl) (by rfl) (by rfl) ?_; clear H; intro a w H; try replace H := nt_Clash3 H
          repeat (refine v_someT 5 tab_ok hN H (by rfl) ct_Clash3 ?_; clear H; intro a w H; replace H := nt_Clash3 H; simp only [List.drop_succ_cons, List.drop_zero, List.drop_nil])
          refine v_moreT tab_ok hN H (by rfl) ct_Clash3 ?_; clear H; intro a w H; try replace H := nt_Clash3 H
          refine v_drawNil H (fun H => ?_)
          by_cases hvv : valH v1 = valH v2
          · rw [if_pos hvv]
            simp only [decide_eq_true hvv] at H
            refine v_cond H (by rfl) (fun hb => ?_) (fun hb => ?_)
            · clear hb
              generalize 3 :: v1 = x1 at *
              generalize 3 :: v2 = x2 at *
              replace H := H.keep [6, 7, 8, 9] 5 0 ⟨Nat.le_trans hN (by show _ ≤ 5; decide), Nat.le_trans hR (by show _ ≤ 0; decide)⟩ (by rfl) (by rfl)
              replace H := nf_Clash3 H
              repeat (first | refine wp_seq ?_ | refine wp_block ?_)
              refine v_draw 0 [2, 5, 7] [3, 4] (by kernel_rfl) (by kernel_rfl) H (by rfl) (fun gS H => ?_); try replace H := nt_Clash3 H
              repeat (refine v_someT 5 tab_ok hN H (by rfl) ct_Clash3 ?_; clear H; intro a w H; replace H := nt_Clash3 H; simp only [List.drop_succ_cons, List.drop_zero, List.drop_nil])
              refine v_moreT tab_ok hN H (by rfl) ct_Clash3 ?_; clear H; intro a w H; try replace H := nt_Clash3 H
              refine v_callT [] [] (ht1) H (by rfl) (by rfl) rfl rfl (by rfl) cb cw ca ?_; clear H; intro a w H; try replace H := nt_Clash3 H
              repeat (refine v_someT 5 tab_ok hN H (by rfl) ct_Clash3 ?_; clear H; intro a w H; replace H := nt_Clash3 H; simp only [List.drop_succ_cons, List.drop_zero, List.drop_nil])
              refine v_moreT tab_ok hN H (by rfl) ct_Clash3 ?_; clear H; intro a w H; try replace H := nt_Clash3 H
              refine v_callT [] [] (ht2) H (by rfl) (by rfl) rfl rfl (by rfl) cb cw ca ?_; clear H; intro a w H; try replace H := nt_Clash3 H
              repeat (refine v_someT 5 tab_ok hN H (by rfl) ct_Clash3 ?_; clear H; intro a w H; replace H := nt_Clash3 H; simp only [List.drop_succ_cons, List.drop_zero, List.drop_nil])
              refine v_moreT tab_ok hN H (by rfl) ct_Clash3 ?_; clear H; intro a w H; try replace H := nt_Clash3 H
              refine v_drawNil H (fun H => ?_)
              refine wp_ret ?_
              exact v_end [] [] tab_ok ⟨hN, hR⟩ (rs := [.cell 8 54, .tmp 9]) (ress := [_, _]) rfl H (by rfl) (by rfl) cb cw ca rfl
            · simp at hb
          · rw [if_neg hvv]
            simp only [decide_eq_false hvv] at H
            refine v_cond H (by rfl) (fun hb => ?_) (fun hb => ?_)
            · simp at hb
            · clear hb
              replace H := H.keep [5, 6, 7, 8, 9] 5 0 ⟨Nat.le_trans hN (by show _ ≤ 5; decide), Nat.le_trans hR (by show _ ≤ 0; decide)⟩ (by rfl) (by rfl)
              replace H := nf_Clash3 H
              repeat (first | refine wp_seq ?_ | refine wp_block ?_ | refine wp_skip ?_ | refine wp_exit ?_ | ((first | refine v_some 5 tab_ok hN H (by rfl) ct_Clash3 ?_ | refine v_more tab_ok hN H (by rfl) (by rfl) ct_Clash3 ?_); clear H; intro a w H; replace H := nf_Clash3 H; (try simp only [List.drop_succ_cons, List.drop_zero, List.drop_nil]); try refine wpList_nil ?_) | refine wp_region_lit ?_)
              refine v_call [] [] (hpart) H rfl rfl (by rfl) cb cw ca ?_; clear H; intro a w H; replace H := nf_Clash3 H; try refine wpList_nil ?_
              repeat (first | refine wp_seq ?_ | refine wp_block ?_ | refine wp_skip ?_ | refine wp_exit ?_ | ((first | refine v_some 5 tab_ok hN H (by rfl) ct_Clash3 ?_ | refine v_more tab_ok hN H (by rfl) (by rfl) ct_Clash3 ?_); clear H; intro a w H; replace H := nf_Clash3 H; (try simp only [List.drop_succ_cons, List.drop_zero, List.drop_nil]); try refine wpList_nil ?_) | refine wp_region_lit ?_)
              refine wp_ret ?_
              exact v_end [] [] tab_ok ⟨hN, hR⟩ (rs := [.cell 8 54, .tmp 9]) (ress := [_, _]) rfl H (by rfl) (by rfl) cb cw ca rfl
end Go.Proofs.Ytlagngkafllbiaa
/- The statement ExtractChain, in values. -/
namespace Go.Proofs.Ytlagngkafllbiaa
open Go Go.RowKit
theorem up_tx (key e : List UInt8) : ∀ d s, upL key d s (sum e) = sum ((tx key d s e).headD [])
  | _, [] => rfl
  | d, x :: r => by
    simp only [upL, tx, List.headD_cons]
    rw [up_tx key e (d + 1) r]
    unfold stepH textD innerH
    cases bitN key d <;> rfl
end Go.Proofs.Ytlagngkafllbiaa
/- Plain law of ExtractFinds: two unlike claims that are accepted part in two unlike texts with one digest. -/
namespace Go.Proofs.Ytlagngkafllbiaa
open Go Go.RowKit
def Two (r : List UInt8 × List UInt8 × Int) : Prop := r.1 ≠ r.2.1 ∧ sum r.1 = sum r.2.1
theorem textD_inj (key : List UInt8) (d : Nat) {x y A B : List UInt8} (hx : x.length = 32) (hy : y.length = 32) (h : textD key d x A = textD key d y B) : x = y ∧ sum A = sum B := by
  have ha := sum_length A
  have hb := sum_length B
  unfold textD at h
  injection h with _ h
  split at h
  · exact List.append_inj h (by omega)
  · exact (List.append_inj h (by omega)).symm
theorem head2 {e : List UInt8} (he : e.headD 0 ≠ 2) (key : List UInt8) (d : Nat) (x A : List UInt8) : e ≠ textD key d x A := by
  intro h; apply he; rw [h]; rfl
theorem prt_tx (key e1 e2 : List UInt8) (h1 : e1.headD 0 ≠ 2) (h2 : e2.headD 0 ≠ 2) : ∀ (s1 s2 : List (List UInt8)) (d k : Nat), (∀ h ∈ s1, h.length = 32) → (∀ h ∈ s2, h.length = 32) →
    upL key d s1 (sum e1) = upL key d s2 (sum e2) → ¬ (s1 = s2 ∧ e1 = e2) → Two (prt (tx key d s1 e1) (tx key d s2 e2) k)
  | [], [], d, k, _, _, hu, hn => by
    have hne : e1 ≠ e2 := fun h => hn ⟨rfl, h⟩
    simp only [tx, prt, if_neg hne]
    exact ⟨hne, hu⟩
  | [], y :: r, d, k, _, _, hu, _ => by
    have hne := head2 h1 key d y ((tx key (d + 1) r e2).headD [])
    have := up_tx key e2 d (y :: r)
    simp only [tx, List.headD_cons] at this
    simp only [tx, prt, if_neg hne]
    exact ⟨hne, by rw [← this, ← hu]; rfl⟩
  | x :: r, [], d, k, _, _, hu, _ => by
    have hne := head2 h2 key d x ((tx key (d + 1) r e1).headD [])
    have := up_tx key e1 d (x :: r)
    simp only [tx, List.headD_cons] at this
    simp only [tx, prt, if_neg hne.symm]
    exact ⟨hne.symm, by rw [← this, hu]; rfl⟩
  | x :: r, y :: q, d, k, ha, hb, hu, hn => by
    have u1 := up_tx key e1 d (x :: r)
    have u2 := up_tx key e2 d (y :: q)
    simp only [tx, List.headD_cons] at u1 u2
    simp only [tx, prt]
    split
    · rename_i he
      obtain ⟨rfl, hs⟩ := textD_inj key d (ha _ List.mem_cons_self) (hb _ List.mem_cons_self) he
      rw [← up_tx, ← up_tx] at hs
      exact prt_tx key e1 e2 h1 h2 r q (d + 1) (k + 1) (fun h hh => ha h (List.mem_cons_of_mem _ hh)) (fun h hh => hb h (List.mem_cons_of_mem _ hh)) hs fun ⟨a, b⟩ => hn ⟨by rw [a], b⟩
    · rename_i hne
      exact ⟨hne, by rw [← u1, ← u2]; exact hu⟩
theorem leaf_text {n m : Nd} (hn : n.wf) (hm : m.wf) (hk : n.k = 1) (h : n.text = m.text) : m.k = 1 ∧ m.key = n.key ∧ m.v = n.v := by
  unfold Nd.text at h
  rw [if_pos hk] at h
  split at h
  · rename_i hk2
    injection h with _ h
    obtain ⟨a, b⟩ := List.append_inj h (by rw [hn.key, hm.key])
    exact ⟨hk2, a.symm, b.symm⟩
  · split at h
    · exact absurd (List.cons.inj h).1 (by decide)
    · exact absurd (List.cons.inj h).1 (by decide)
theorem text_head {n : Nd} (h : n.k ≠ 2) : n.text.headD 0 ≠ 2 := by
  unfold Nd.text
  by_cases h1 : n.k = 1
  · rw [if_pos h1]; simp
  · rw [if_neg h1, if_neg h]; simp
/-- What an accepted claim says of its proof. -/
theorem vRd_says {root key l : List UInt8} (h : (vRd root key l).2.2 = 0) : pOk l ∧ topH key (pDec l) = root ∧
    (((vRd root key l).1 = true ∧ (pDec l).e.k = 1 ∧ (pDec l).e.key = key ∧ (vRd root key l).2.1 = (pDec l).e.v) ∨ ((vRd root key l).1 = false ∧ ¬ ((pDec l).e.k = 1 ∧ (pDec l).e.key = key))) := by
  unfold vRd at h ⊢
  split at h
  · simp at h
  · rename_i hp
    have hp : pOk l := Decidable.not_not.1 hp
    rw [if_neg (fun hn => hn hp)]
    split at h
    · simp at h
    · rename_i h2
      rw [if_neg h2]
      refine ⟨hp, ?_, ?_⟩
      · have : vTop key l = root := Classical.byContradiction fun hn => h2 (.inl hn)
        rw [vTop, if_pos hp] at this
        exact this
      · split
        · rename_i h3; exact .inl ⟨rfl, h3.1, h3.2, rfl⟩
        · rename_i h3; exact .inr ⟨rfl, h3⟩
theorem vAcc_says {root key : List UInt8} {c : Cl} (h : vAcc root key c = true) : pOk c.b ∧ topH key (pDec c.b) = root ∧
    ((c.t = true ∧ (pDec c.b).e.k = 1 ∧ (pDec c.b).e.key = key ∧ (pDec c.b).e.v = valH c.v) ∨ (c.t = false ∧ ¬ ((pDec c.b).e.k = 1 ∧ (pDec c.b).e.key = key))) := by
  unfold vAcc at h
  split at h
  · rename_i ht
    simp only [vPres, Bool.and_eq_true, decide_eq_true_eq] at h
    obtain ⟨_, h1, h2, h3⟩ := h
    obtain ⟨a, b, c⟩ := vRd_says h1
    refine ⟨a, b, ?_⟩
    rcases c with ⟨_, c2, c3, c4⟩ | ⟨c1, _⟩
    · exact .inl ⟨ht, c2, c3, by rw [← c4, h3]⟩
    · rw [c1] at h2; cases h2
  · rename_i ht
    simp only [vAbs, Bool.and_eq_true, decide_eq_true_eq] at h
    obtain ⟨h1, h2⟩ := h
    obtain ⟨a, b, c⟩ := vRd_says h1
    refine ⟨a, b, ?_⟩
    rcases c with ⟨c1, _⟩ | ⟨_, c2⟩
    · rw [c1] at h2; cases h2
    · exact .inr ⟨by simpa using ht, c2⟩
theorem same_claims {root key : List UInt8} {one two : Cl} (h1 : vAcc root key one = true) (h2 : vAcc root key two = true) (hs : (pDec one.b).s = (pDec two.b).s) (he : (pDec one.b).e.text = (pDec two.b).e.text) :
    (one.t = true ∧ two.t = true ∧ valH one.v = valH two.v) ∨ (one.t = false ∧ two.t = false) := by
  obtain ⟨_, _, c1⟩ := vAcc_says h1
  obtain ⟨_, _, c2⟩ := vAcc_says h2
  have w1 := (pDec_wf one.b).e
  have w2 := (pDec_wf two.b).e
  rcases c1 with ⟨t1, a1, a2, a3⟩ | ⟨t1, n1⟩ <;> rcases c2 with ⟨t2, b1, b2, b3⟩ | ⟨t2, n2⟩
  · have := leaf_text w1 w2 a1 he
    exact .inl ⟨t1, t2, by rw [← a3, ← b3, this.2.2]⟩
  · have := leaf_text w1 w2 a1 he
    exact absurd ⟨this.1, this.2.1.trans a2⟩ n2
  · have := leaf_text w2 w1 b1 he.symm
    exact absurd ⟨this.1, this.2.1.trans b2⟩ n1
  · exact .inr ⟨t1, t2⟩
/-- P19.3. -/
theorem clP_two {root key : List UInt8} {one two : Cl} : (clP root key one two).2.2 = true → (clP root key one two).1 ≠ (clP root key one two).2.1 ∧ sum (clP root key one two).1 = sum (clP root key one two).2.1 := by
  unfold clP
  split
  · intro h; cases h
  · rename_i hacc
    obtain ⟨h1, h2⟩ := Classical.not_not.1 hacc
    split
    · intro h; cases h
    · rename_i hlike
      split
      · rename_i hval
        intro _
        refine ⟨fun h => hlike (.inl ⟨hval.1, hval.2.1, ?_⟩), hval.2.2⟩
        injection h
      · rename_i hval
        intro _
        obtain ⟨p1, t1, _⟩ := vAcc_says h1
        obtain ⟨p2, t2, _⟩ := vAcc_says h2
        have := prt_tx key (pDec one.b).e.text (pDec two.b).e.text (text_head (chk_all (pDec_chk p1)).2.2) (text_head (chk_all (pDec_chk p2)).2.2) (pDec one.b).s (pDec two.b).s 0 0 (pDec_wf one.b).s (pDec_wf two.b).s (by
          unfold topH at t1 t2; rw [t1, t2]) fun ⟨a, b⟩ => by
          rcases same_claims h1 h2 a b with h | h
          · exact hval h
          · exact hlike (.inr h)
        rw [txs, if_pos p1, txs, if_pos p2]
        exact this
theorem clP_must (root key : List UInt8) (one two : Cl) : (clP root key one two).2.2 = (decide (one.t ≠ two.t ∨ one.t = true ∧ one.v ≠ two.v) && (vAcc root key one && vAcc root key two)) := by
  unfold clP
  by_cases h1 : vAcc root key one = true <;> by_cases h2 : vAcc root key two = true
  · rw [if_neg (fun hn => hn ⟨h1, h2⟩), h1, h2]
    cases ht1 : one.t <;> cases ht2 : two.t <;> by_cases hv : one.v = two.v <;> simp [hv]
    split <;> rfl
  · rw [if_pos (fun hn => h2 hn.2)]; simp [h2]
  · rw [if_pos (fun hn => h1 hn.1)]; simp [h1]
  · rw [if_pos (fun hn => h1 hn.1)]; simp [h1]
theorem clP_none (root key : List UInt8) (one two : Cl) (h : (clP root key one two).2.2 = false) : (clP root key one two).1 = [] ∧ (clP root key one two).2.1 = [] := by
  unfold clP at h ⊢
  split
  · exact ⟨rfl, rfl⟩
  · rename_i h1
    rw [if_neg h1] at h
    split
    · exact ⟨rfl, rfl⟩
    · rename_i h2
      rw [if_neg h2] at h
      split
      · rename_i h3; rw [if_pos h3] at h; cases h
      · rename_i h3; rw [if_neg h3] at h; cases h
end Go.Proofs.Ytlagngkafllbiaa
/- Proofs as bytes: there and back, in plain Lean. -/
namespace Go.Proofs.Ytlagngkafllbiaa
open Go Go.RowKit
theorem num_two (n : Nat) (hn : n < 65536) : num 0 [UInt8.ofNat (n / 256), UInt8.ofNat n] = n := by
  simp only [num, UInt8.toNat_ofNat']; omega
theorem marks_bits (s : List (List UInt8)) : marksOf (bitsB s.length (hidesB s)) s.length = s.map (· != E0) := by
  apply List.ext_getElem
  · rw [pmarks_len, List.length_map]
  · intro k h1 h2
    rw [pmarks_len] at h1
    simp only [marksOf, List.getElem_map, List.getElem_range]
    rw [bitsB_bit _ _ _ h1, hidesB, List.getElem?_eq_getElem h1]
theorem runS_back : ∀ (s : List (List UInt8)) (r : List UInt8), (∀ h ∈ s, h.length = 32) → runS (s.map (· != E0)) (hashes s ++ r) = (s, r, false)
  | [], r, _ => rfl
  | h :: s, r, hs => by
    have h1 := hs h List.mem_cons_self
    have ih := runS_back s r fun x hx => hs x (List.mem_cons_of_mem _ hx)
    rw [List.map_cons]
    by_cases he : h = E0
    · have h2 : (h != E0) = false := by simp [he]
      have h3 : hashes (h :: s) = hashes s := by unfold hashes; rw [List.filter_cons_of_neg (p := (· != E0)) (by rw [h2]; decide)]
      rw [h2, h3, runS, if_neg (fun e => by cases e.1)]
      simp only [Bool.false_eq_true, if_false]
      rw [ih, he]
    · have h2 : (h != E0) = true := by simpa using he
      have h3 : hashes (h :: s) = h ++ hashes s := by unfold hashes; rw [List.filter_cons_of_pos (p := (· != E0)) h2, List.flatten_cons]
      rw [h2, h3, runS, if_neg (fun e => by have := e.2; simp only [List.length_append] at this; omega)]
      simp only [if_true]
      have e1 : ((h ++ hashes s) ++ r).take 32 = h := by rw [List.append_assoc, ← h1, List.take_left]
      have e2 : ((h ++ hashes s) ++ r).drop 32 = hashes s ++ r := by rw [List.append_assoc, ← h1, List.drop_left]
      rw [e1, e2, ih]
def Pf.pre (p : Pf) (r : List UInt8) : List UInt8 := [UInt8.ofNat (p.s.length / 256), UInt8.ofNat p.s.length] ++ (p.bits ++ (hashes p.s ++ r))
theorem Pf.text_pre (p : Pf) : p.text = p.pre p.e.text := rfl
theorem rdQ_pre (p : Pf) (hw : p.wf) (hn : p.s.length ≤ 256) (r : List UInt8) : rdQ (p.pre r) = (⟨p.s, dec r⟩, decide (decOk r)) := by
  have hbl : p.bits.length = (p.s.length + 7) / 8 := bitsB_len _ _
  have e1 : (p.pre r).take 2 = [UInt8.ofNat (p.s.length / 256), UInt8.ofNat p.s.length] := rfl
  have e2 : (p.pre r).drop 2 = p.bits ++ (hashes p.s ++ r) := rfl
  have e3 : ¬ (p.pre r).length < 2 := by unfold Pf.pre; simp only [List.length_append, List.length_cons, List.length_nil]; omega
  have e4 : (p.bits ++ (hashes p.s ++ r)).take ((p.s.length + 7) / 8) = p.bits := by rw [← hbl, List.take_left]
  have e5 : (p.bits ++ (hashes p.s ++ r)).drop ((p.s.length + 7) / 8) = hashes p.s ++ r := by rw [← hbl, List.drop_left]
  rw [rdQ, if_neg e3, e1, e2, num_two _ (by omega), if_neg (by omega), if_neg (by rw [List.length_append]; omega), e4, e5]
  have e6 : marksOf p.bits p.s.length = p.s.map (· != E0) := marks_bits p.s
  rw [e6, runS_back _ _ hw.s]
  rfl
theorem Pf.chk_ok {p : Pf} (h : p.chk = 0) : p.s.length ≤ 256 ∧ p.e.ok ∧ p.e.k ≠ 2 := by
  unfold Pf.chk at h
  split at h
  · cases h
  · split at h
    · rename_i h1 h2; exact ⟨by omega, h2⟩
    · cases h
theorem ntext_len {n : Nd} (hw : n.wf) (h2 : n.k ≠ 2) : n.text.length = 1 ∨ n.text.length = 65 := by
  obtain ⟨h1, h3, _, _⟩ := hw
  unfold Nd.text
  split
  · right; simp; omega
  · left; first | rfl | (rw [if_neg h2]; rfl)
theorem pback (p : Pf) (hw : p.wf) (h : p.chk = 0) : pOk p.text ∧ pDec p.text = p := by
  obtain ⟨h1, h2, h3⟩ := p.chk_ok h
  obtain ⟨d1, d2⟩ := text_dec hw.e h2
  have e : rdQ p.text = (p, true) := by rw [p.text_pre, rdQ_pre p hw h1, d2, decide_eq_true d1]
  have hp : pOk p.text := by unfold pOk; rw [e]; exact ⟨rfl, h, rfl⟩
  exact ⟨hp, by rw [pDec, if_pos hp, e]⟩
theorem plen (p : Pf) (hw : p.wf) (h : p.chk = 0) : 3 ≤ p.text.length ∧ p.text.length ≤ 8291 := by
  obtain ⟨h1, h2, h3⟩ := p.chk_ok h
  have hl := ntext_len hw.e h3
  have hbl : p.bits.length = (p.s.length + 7) / 8 := bitsB_len _ _
  have hh := hashes_len p.s hw.s
  simp only [Pf.text, List.length_append, List.length_cons, List.length_nil]
  omega
end Go.Proofs.Ytlagngkafllbiaa
/- The statement ExtractFinds, in values. -/
namespace Go.Proofs.Ytlagngkafllbiaa
open Go Go.RowKit
/-- The state made plain. -/
theorem nf_Finds {P : Program} {w0 w : World} {N : Gh} {nt : Nat} {st s2 : St} {a : Act} (H : Rel P w0 N nt st a w) (h : st = s2 := by (try simp only [pk, elemB, St.put, St.ev, St.tmp, St.keep, find, dropT, slots, AV.put, AV.loc, fitI, convI, IntKind.signed, IntKind.bits, strip, St.lose, mergeL, setAll, nth, renB, ren, idx?, sub, allP, low, bnd, Int.reduceEq, Nat.reduceAdd, Nat.reduceLT, reduceIte, reduceCtorEq, Nat.reduceEqDiff, Nat.reduceLeDiff, Nat.reduceBEq, Int.reducePow, Int.reduceToNat, ti24_t, ti24_z, ti5_t, ti5_z, ti30_t, ti30_z, ti23_t, ti23_z, ti52_t, ti52_z, ti54_t, ti54_z, ti26_t, ti26_z]); rfl) : Rel P w0 N nt s2 a w := h ▸ H
theorem ct_Finds {c : Prop} (h : c := by ((try simp only [pk, elemB, St.put, St.ev, St.tmp, St.keep, find, dropT, slots, AV.put, AV.loc, fitI, convI, IntKind.signed, IntKind.bits, strip, St.lose, mergeL, setAll, nth, renB, ren, idx?, sub, allP, low, bnd, Int.reduceEq, Nat.reduceAdd, Nat.reduceLT, reduceIte, reduceCtorEq, Nat.reduceEqDiff, Nat.reduceLeDiff, Nat.reduceBEq, Int.reducePow, Int.reduceToNat, ti24_t, ti24_z, ti5_t, ti5_z, ti30_t, ti30_z, ti23_t, ti23_z, ti52_t, ti52_z, ti54_t, ti54_z, ti26_t, ti26_z, ti24, ti5, ti30, ti23, ti52, ti54, ti26, fit, gcond, ilo, ihi]); first | done | exact cd | exact cd2 | skip)) : c := h
theorem txs000 (key : List UInt8) : pOk [0, 0, 0] ∧ txs key [0, 0, 0] = [[0]] := by
  have h := pback .zero pzero_wf rfl
  have e : Pf.zero.text = [0, 0, 0] := rfl
  rw [e] at h
  refine ⟨h.1, ?_⟩
  rw [txs, if_pos h.1, h.2]; rfl
theorem clash_v (root key : List UInt8) (one two : Cl) (hr : root.length = 32) (hk : key.length = 32) (h1 : one.v.length ≤ 34359730000) (h2 : one.b.length ≤ 34359730000) (h3 : two.v.length ≤ 34359730000) (h4 : two.b.length ≤ 34359730000) :
    VC Try.prog 22 [.ba root, .ba key, one.av, two.av] [] (.tup [.st [.bs (clP root key one two).1 none, .bs (clP root key one two).2.1 none], .v (.bool (clP root key one two).2.2)]) := by
  by_cases h : vAcc root key one = true ∧ vAcc root key two = true
  · exact clash_yes root key one two hr hk h1 h2 h3 h4 h.1 h.2
  · have hc := clash_no root key one two hr hk h1 h2 h3 h4 h
    rw [clP, if_pos h]; exact hc
theorem prt_len : ∀ (a b : List (List UInt8)) (d n : Nat), (∀ x ∈ a, x.length ≤ n) → (∀ x ∈ b, x.length ≤ n) → (prt a b d).1.length ≤ n ∧ (prt a b d).2.1.length ≤ n
  | x :: a, y :: b, d, n, h1, h2 => by
    simp only [prt]
    split
    · exact prt_len a b _ n (fun x h => h1 x (List.mem_cons_of_mem _ h)) (fun x h => h2 x (List.mem_cons_of_mem _ h))
    · exact ⟨h1 _ List.mem_cons_self, h2 _ List.mem_cons_self⟩
  | [], _, _, _, _, _ => by simp [prt]
  | _ :: _, [], _, _, _, _ => by simp [prt]
theorem tx_all (key e : List UInt8) (he : e.length ≤ 65) : ∀ d s, (∀ h ∈ s, h.length = 32) → ∀ x ∈ tx key d s e, x.length ≤ 65
  | d, [], _, x, hx => by simp only [tx, List.mem_singleton] at hx; subst hx; exact he
  | d, y :: s, hs, x, hx => by
    simp only [tx, List.mem_cons] at hx
    rcases hx with hx | hx
    · rw [hx, textD_len _ _ _ _ (hs _ List.mem_cons_self)]; exact Nat.le_refl _
    · exact tx_all key e he _ s (fun h hh => hs h (List.mem_cons_of_mem _ hh)) x hx
theorem txs_all (key l : List UInt8) : ∀ x ∈ txs key l, x.length ≤ 65 := by
  unfold txs
  split
  · rename_i h
    have hw := pDec_wf l
    have h2 := (chk_all (pDec_chk h)).2.2
    exact tx_all key _ (by rcases ntext_len hw.e h2 with h | h <;> omega) 0 _ hw.s
  · simp
theorem clP_len (root key : List UInt8) (one two : Cl) (n : Nat) (hn : 65 ≤ n) (h1 : one.v.length < n) (h2 : two.v.length < n) : (clP root key one two).1.length ≤ n ∧ (clP root key one two).2.1.length ≤ n := by
  unfold clP
  split
  · simp
  · split
    · simp
    · split
      · simp; omega
      · have := prt_len (txs key one.b) (txs key two.b) 0 65 (txs_all key one.b) (txs_all key two.b)
        exact ⟨by have := this.1; dsimp only; omega, by have := this.2; dsimp only; omega⟩
theorem c11 : ((1 : Nat) : Int) = 1 := rfl
set_option maxRecDepth 20000 in
set_option maxHeartbeats 4000000 in
theorem finds_v (root key : List UInt8) (one two : Cl) (hr : root.length = 32) (hk : key.length = 32) (h1 : one.v.length ≤ 1048576) (h2 : one.b.length ≤ 1048576) (h3 : two.v.length ≤ 1048576) (h4 : two.b.length ≤ 1048576) :
    VC Try.prog 6 [.ba root, .ba key, one.av, two.av] [] (.v (.bool true)) := by
  have c1 := acceptedL_v root key one hr hk (by omega) (by omega)
  have c2 := acceptedL_v root key two hr hk (by omega) (by omega)
  have hc := clash_v root key one two hr hk (by omega) (by omega) (by omega) (by omega)
  have ht := texts_v key [0, 0, 0] hk (by decide)
  rw [vErr, if_pos (txs000 key).1, (txs000 key).2] at ht
  have hs := same_v one.v two.v
  have hm := clP_must root key one two
  have hz := clP_none root key one two
  have hy := @clP_two root key one two
  have hl := clP_len root key one two 1048577 (by decide) (by omega) (by omega)
  have hbl : (bss [[0]]).length = 1 := rfl
  generalize bss [[0]] = tt at *
  generalize clP root key one two = c at *
  obtain ⟨x, y, ok⟩ := c
  dsimp only at *
  have htc := tagClash_v x y (by omega) (by omega)
  generalize vAcc root key one = a1 at *
  generalize vAcc root key two = a2 at *
  obtain ⟨t1, v1, b1⟩ := one
  obtain ⟨t2, v2, b2⟩ := two
  dsimp only at *
  have hbq : (v1 == v2) = decide (v1 = v2) := by by_cases h : v1 = v2 <;> simp [h]
  rw [hbq] at hs
  have hok : ok = ((t1 != t2 || (t1 && !decide (v1 = v2))) && (a1 && a2)) := by
    rw [hm]; congr 1
    rw [Bool.eq_iff_iff]; cases t1 <;> cases t2 <;> simp
  have hrt : ok = true → (!decide (x = y) && decide (sum x = sum y)) = true := fun h => by simp [hy h]
  have hrf : ok = false → x.length = 0 ∧ y.length = 0 := fun h => by simp [hz h]
  generalize (!decide (x = y) && decide (sum x = sum y)) = tc at *
  clear hm hz hy hl hbq
  refine v_enter Try.func6 rfl (by kernel_rfl) (by show 4 ≤ 92; decide) ?_
  intro N w0 a w hN hR H
  simp only [Cl.av] at H c1 c2 hc
  repeat (first | refine wp_seq ?_ | refine wp_block ?_ | refine wp_skip ?_ | refine wp_exit ?_ | ((first | refine v_some 5 tab_ok hN H (by rfl) ct_Finds ?_ | refine v_more tab_ok hN H (by rfl) (by rfl) ct_Finds ?_); clear H; intro a w H; replace H := nf_Finds H; (try simp only [List.drop_succ_cons, List.drop_zero, List.drop_nil]); try refine wpList_nil ?_) | refine wp_region_lit ?_)
  refine v_callG [] [] (hs) H (by rfl) rfl (by rfl) cb cw ca (by rfl) (by rfl) (by rfl) ?_; clear H; intro a w H; replace H := nf_Finds H; try refine wpList_nil ?_
  repeat (first | refine wp_seq ?_ | refine wp_block ?_ | refine wp_skip ?_ | refine wp_exit ?_ | ((first | refine v_some 5 tab_ok hN H (by rfl) ct_Finds ?_ | refine v_more tab_ok hN H (by rfl) (by rfl) ct_Finds ?_); clear H; intro a w H; replace H := nf_Finds H; (try simp only [List.drop_succ_cons, List.drop_zero, List.drop_nil]); try refine wpList_nil ?_) | refine wp_region_lit ?_)
  refine v_callG [] [] (c1) H (by rfl) rfl (by rfl) cb cw ca (by rfl) (by rfl) (by rfl) ?_; clear H; intro a w H; replace H := nf_Finds H; try refine wpList_nil ?_
  repeat (first | refine wp_seq ?_ | refine wp_block ?_ | refine wp_skip ?_ | refine wp_exit ?_ | ((first | refine v_some 5 tab_ok hN H (by rfl) ct_Finds ?_ | refine v_more tab_ok hN H (by rfl) (by rfl) ct_Finds ?_); clear H; intro a w H; replace H := nf_Finds H; (try simp only [List.drop_succ_cons, List.drop_zero, List.drop_nil]); try refine wpList_nil ?_) | refine wp_region_lit ?_)
  refine v_callG [] [] (c2) H (by rfl) rfl (by rfl) cb cw ca (by rfl) (by rfl) (by rfl) ?_; clear H; intro a w H; replace H := nf_Finds H; try refine wpList_nil ?_
  repeat (first | refine wp_seq ?_ | refine wp_block ?_ | refine wp_skip ?_ | refine wp_exit ?_ | ((first | refine v_some 5 tab_ok hN H (by rfl) ct_Finds ?_ | refine v_more tab_ok hN H (by rfl) (by rfl) ct_Finds ?_); clear H; intro a w H; replace H := nf_Finds H; (try simp only [List.drop_succ_cons, List.drop_zero, List.drop_nil]); try refine wpList_nil ?_) | refine wp_region_lit ?_)
  refine v_call [] [] (hc) H rfl rfl (by rfl) cb cw ca ?_; clear H; intro a w H; replace H := nf_Finds H; try refine wpList_nil ?_
  repeat (first | refine wp_seq ?_ | refine wp_block ?_ | refine wp_skip ?_ | refine wp_exit ?_ | ((first | refine v_some 5 tab_ok hN H (by rfl) ct_Finds ?_ | refine v_more tab_ok hN H (by rfl) (by rfl) ct_Finds ?_); clear H; intro a w H; replace H := nf_Finds H; (try simp only [List.drop_succ_cons, List.drop_zero, List.drop_nil]); try refine wpList_nil ?_) | refine wp_region_lit ?_)
  refine v_call [] [] (ht) H rfl rfl (by rfl) cb cw ca ?_; clear H; intro a w H; replace H := nf_Finds H; try refine wpList_nil ?_
  have hE : (bif bif bif !(t1 == t2) then true else bif t1 then !decide (v1 = v2) else false then a1 else false then a2 else false) = ok := by
    rw [hok]; generalize decide (v1 = v2) = d; cases t1 <;> cases t2 <;> cases d <;> cases a1 <;> cases a2 <;> rfl
  simp only [hE] at H
  clear hE hok
  repeat (first | refine wp_seq ?_ | refine wp_block ?_ | refine wp_skip ?_ | refine wp_exit ?_ | ((first | refine v_some 5 tab_ok hN H (by rfl) (by (try simp only [hbl, c11]); first | done | exact ct_Finds) ?_ | refine v_more tab_ok hN H (by rfl) (by rfl) (by (try simp only [hbl, c11]); first | done | exact ct_Finds) ?_); clear H; intro a w H; replace H := nf_Finds H; first | (simp only [hbl, c11] at H; replace H := nf_Finds H) | skip; (try simp only [List.drop_succ_cons, List.drop_zero, List.drop_nil]); try refine wpList_nil ?_) | refine wp_region_lit ?_)
  refine v_cond H (by rfl) (fun hb => ?_) (fun hb => ?_)
  · exfalso; revert hb; cases ok <;> decide
  · clear hb
    replace H := H.keep [8, 11, 12] 5 0 ⟨Nat.le_trans hN (by show _ ≤ 5; decide), Nat.le_trans hR (by show _ ≤ 0; decide)⟩ (by rfl) (by rfl)
    replace H := nf_Finds H
    repeat (first | refine wp_seq ?_ | refine wp_block ?_ | refine wp_skip ?_ | refine wp_exit ?_ | ((first | refine v_some 5 tab_ok hN H (by rfl) ct_Finds ?_ | refine v_more tab_ok hN H (by rfl) (by rfl) ct_Finds ?_); clear H; intro a w H; replace H := nf_Finds H; (try simp only [List.drop_succ_cons, List.drop_zero, List.drop_nil]); try refine wpList_nil ?_) | refine wp_region_lit ?_)
    refine v_callG [] [] (htc) H (by rfl) rfl (by rfl) cb cw ca (by rfl) (by rfl) (by rfl) ?_; clear H; intro a w H; replace H := nf_Finds H; try refine wpList_nil ?_
    repeat (first | refine wp_seq ?_ | refine wp_block ?_ | refine wp_skip ?_ | refine wp_exit ?_ | ((first | refine v_some 5 tab_ok hN H (by rfl) ct_Finds ?_ | refine v_more tab_ok hN H (by rfl) (by rfl) ct_Finds ?_); clear H; intro a w H; replace H := nf_Finds H; (try simp only [List.drop_succ_cons, List.drop_zero, List.drop_nil]); try refine wpList_nil ?_) | refine wp_region_lit ?_)
    have hE : (bif bif bif !ok then decide ((x.length : Int) = 0) else false then decide ((y.length : Int) = 0) else false then true else bif ok then tc else false) = true := by
      cases ok
      · obtain ⟨e1, e2⟩ := hrf rfl
        rw [e1, e2]; rfl
      · rw [hrt rfl]; rfl
    simp only [hE] at H
    refine wp_ret ?_
    exact v_end [] [] tab_ok ⟨hN, hR⟩ (rs := [.tmp 8]) (ress := [_]) rfl H (by rfl) (by rfl) cb cw ca rfl
end Go.Proofs.Ytlagngkafllbiaa
