/- The texts of a proof, from the top on: extract.Texts. -/
import Derived.Test.YtlagngkafllbiaaVer
import Derived.Test.YtlagngkafllbiaaThaw
set_option linter.unusedSimpArgs false
set_option linter.unusedVariables false
namespace Go.Proofs.Ytlagngkafllbiaa
open Go Go.RowKit
/-- The state made plain. -/
theorem nf_Texts {P : Program} {w0 w : World} {N : Gh} {nt : Nat} {st s2 : St} {a : Act} (H : Rel P w0 N nt st a w) (h : st = s2 := by (try simp only [pk, elemB, St.put, St.ev, St.tmp, St.keep, find, dropT, slots, AV.put, AV.loc, fitI, convI, IntKind.signed, IntKind.bits, strip, St.lose, mergeL, setAll, nth, renB, ren, idx?, sub, allP, low, bnd, Int.reduceEq, Nat.reduceAdd, Nat.reduceLT, reduceIte, reduceCtorEq, Nat.reduceEqDiff, Nat.reduceLeDiff, Nat.reduceBEq, Int.reducePow, Int.reduceToNat, ti24_t, ti24_z, ti5_t, ti5_z, ti30_t, ti30_z, ti23_t, ti23_z, ti62_t, ti62_z, ti64_t, ti64_z, ti41_t, ti41_z, ti26_t, ti26_z]); rfl) : Rel P w0 N nt s2 a w := h ▸ H
theorem nt_Texts {P : Program} {w0 w : World} {N gS : Gh} {nt : Nat} {q q2 st s2 : St} {a : Act} (H : RelT P w0 N nt gS q st a w) (h1 : q = q2 := by (try simp only [pk, elemB, St.put, St.ev, St.tmp, St.keep, find, dropT, slots, AV.put, AV.loc, fitI, convI, IntKind.signed, IntKind.bits, strip, St.lose, mergeL, setAll, nth, renB, ren, idx?, sub, allP, low, bnd, Int.reduceEq, Nat.reduceAdd, Nat.reduceLT, reduceIte, reduceCtorEq, Nat.reduceEqDiff, Nat.reduceLeDiff, Nat.reduceBEq, Int.reducePow, Int.reduceToNat, ti24_t, ti24_z, ti5_t, ti5_z, ti30_t, ti30_z, ti23_t, ti23_z, ti62_t, ti62_z, ti64_t, ti64_z, ti41_t, ti41_z, ti26_t, ti26_z]); rfl) (h : st = s2 := by (try simp only [pk, elemB, St.put, St.ev, St.tmp, St.keep, find, dropT, slots, AV.put, AV.loc, fitI, convI, IntKind.signed, IntKind.bits, strip, St.lose, mergeL, setAll, nth, renB, ren, idx?, sub, allP, low, bnd, Int.reduceEq, Nat.reduceAdd, Nat.reduceLT, reduceIte, reduceCtorEq, Nat.reduceEqDiff, Nat.reduceLeDiff, Nat.reduceBEq, Int.reducePow, Int.reduceToNat, ti24_t, ti24_z, ti5_t, ti5_z, ti30_t, ti30_z, ti23_t, ti23_z, ti62_t, ti62_z, ti64_t, ti64_z, ti41_t, ti41_z, ti26_t, ti26_z]); rfl) : RelT P w0 N nt gS q2 s2 a w := h1 ▸ h ▸ H
theorem ct_Texts {c : Prop} (h : c := by ((try simp only [pk, elemB, St.put, St.ev, St.tmp, St.keep, find, dropT, slots, AV.put, AV.loc, fitI, convI, IntKind.signed, IntKind.bits, strip, St.lose, mergeL, setAll, nth, renB, ren, idx?, sub, allP, low, bnd, Int.reduceEq, Nat.reduceAdd, Nat.reduceLT, reduceIte, reduceCtorEq, Nat.reduceEqDiff, Nat.reduceLeDiff, Nat.reduceBEq, Int.reducePow, Int.reduceToNat, ti24_t, ti24_z, ti5_t, ti5_z, ti30_t, ti30_z, ti23_t, ti23_z, ti62_t, ti62_z, ti64_t, ti64_z, ti41_t, ti41_z, ti26_t, ti26_z, ti24, ti5, ti30, ti23, ti62, ti64, ti41, ti26, fit, gcond, ilo, ihi]); first | done | exact cd | exact cd2 | skip)) : c := h
def textD (key : List UInt8) (d : Nat) (x below : List UInt8) : List UInt8 := 2 :: (if bitN key d then x ++ sum below else sum below ++ x)
def tx (key : List UInt8) : Nat → List (List UInt8) → List UInt8 → List (List UInt8)
  | _, [], e => [e]
  | d, x :: r, e => textD key d x ((tx key (d + 1) r e).headD []) :: tx key (d + 1) r e
theorem tx_len (key e : List UInt8) : ∀ d s, (tx key d s e).length = s.length + 1
  | _, [] => rfl
  | d, _ :: r => by simp [tx, tx_len key e (d + 1) r]
theorem textD_len (key : List UInt8) (d : Nat) (x b : List UInt8) (hx : x.length = 32) : (textD key d x b).length = 65 := by
  unfold textD
  have := sum_length b
  split <;> simp <;> omega
theorem tx_head (key e : List UInt8) (he : e.length ≤ 65) : ∀ d s, (∀ h ∈ s, h.length = 32) → ((tx key d s e).headD []).length ≤ 65
  | _, [], _ => he
  | d, x :: r, hs => by simp only [tx, List.headD_cons]; rw [textD_len _ _ _ _ (hs x List.mem_cons_self)]; exact Nat.le_refl _
theorem tx_drop (key e : List UInt8) (s : List (List UInt8)) (k : Nat) (hk : k < s.length) : tx key k (s.drop k) e = textD key k (s.getD k []) ((tx key (k + 1) (s.drop (k + 1)) e).headD []) :: tx key (k + 1) (s.drop (k + 1)) e := by
  rw [List.drop_eq_getElem_cons hk, List.getElem_eq_getD []]; rfl
def txs (key l : List UInt8) : List (List UInt8) := if pOk l then tx key 0 (pDec l).s (pDec l).e.text else []
theorem bss_snoc (ls : List (List UInt8)) (x : List UInt8) : bss (ls ++ [x]) = bss ls ++ [.bs x none] := by simp [bss]
theorem cutG {B R : Act → World → Prop} {G : Prop} (h : (∀ a w, R a w → B a w) → G) (k : ∀ a w, R a w → B a w) : G := h k
set_option maxRecDepth 20000 in
set_option maxHeartbeats 16000000 in
theorem texts_ok (key l : List UInt8) (hk32 : key.length = 32) (hl : l.length ≤ 34359730000) (h : pOk l) : VC Try.prog 8 [.ba key, .bs l none] [] (.tup [.sl .sc (bss (txs key l)) none, errv 0]) := by
  have hd := decodeP_v l hl
  rw [if_pos h] at hd
  rw [txs, if_pos h]
  have hw := pDec_wf l
  obtain ⟨hle, hok, hk2⟩ := chk_all (pDec_chk h)
  generalize pDec l = p at *
  obtain ⟨s, n⟩ := p
  dsimp only at hle hok hk2 ⊢
  have hs := hw.s
  have hsl := bas_len s
  have hen := encode_ok n hw.e hok
  obtain ⟨h1, h2, h3, h4⟩ := id hw.e
  dsimp only at h1 h2 h3 h4 hs
  have htl := text_len hw.e
  dsimp only at htl
  have hz2 := z32_len
  refine v_enterB Try.func8 rfl (by kernel_rfl) (by show 2 ≤ 60; decide) ?_
  intro N w0 a w hNb hN hR H
  simp only [Pf.av, Nd.av] at H hd hen
  repeat (first | refine wp_seq ?_ | refine wp_block ?_ | refine wp_skip ?_ | refine wp_exit ?_ | ((first | refine v_some 5 tab_ok hN H (by rfl) ct_Texts ?_ | refine v_more tab_ok hN H (by rfl) (by rfl) ct_Texts ?_); clear H; intro a w H; replace H := nf_Texts H; (try simp only [List.drop_succ_cons, List.drop_zero, List.drop_nil]); try refine wpList_nil ?_) | refine wp_region_lit ?_)
  refine v_call [] [] (hd) H rfl rfl (by rfl) cb cw ca ?_; clear H; intro a w H; replace H := nf_Texts H; try refine wpList_nil ?_
  repeat (first | refine wp_seq ?_ | refine wp_block ?_ | refine wp_skip ?_ | refine wp_exit ?_ | ((first | refine v_some 5 tab_ok hN H (by rfl) ct_Texts ?_ | refine v_more tab_ok hN H (by rfl) (by rfl) ct_Texts ?_); clear H; intro a w H; replace H := nf_Texts H; (try simp only [List.drop_succ_cons, List.drop_zero, List.drop_nil]); try refine wpList_nil ?_) | refine wp_region_lit ?_)
  refine v_cond H (by rfl) (fun hb => ?_) (fun hb => ?_)
  · simp at hb
  · clear hb
    repeat (first | refine wp_seq ?_ | refine wp_block ?_ | refine wp_skip ?_ | refine wp_exit ?_ | ((first | refine v_some 5 tab_ok hN H (by rfl) ct_Texts ?_ | refine v_more tab_ok hN H (by rfl) (by rfl) ct_Texts ?_); clear H; intro a w H; replace H := nf_Texts H; (try simp only [List.drop_succ_cons, List.drop_zero, List.drop_nil]); try refine wpList_nil ?_) | refine wp_region_lit ?_)
    refine v_call [] [] (hen) H rfl rfl (by rfl) cb cw ca ?_; clear H; intro a w H; replace H := nf_Texts H; try refine wpList_nil ?_
    obtain ⟨e, he⟩ : ∃ e, e = n.text := ⟨_, rfl⟩
    rw [← he] at H htl ⊢
    clear he hen
    have hel : e.length ≤ 65 := by omega
    repeat (first | refine wp_seq ?_ | refine wp_block ?_ | refine wp_skip ?_ | refine wp_exit ?_ | ((first | refine v_some 5 tab_ok hN H (by rfl) (by (try simp only [hsl]); first | done | exact ct_Texts) ?_ | refine v_more tab_ok hN H (by rfl) (by rfl) (by (try simp only [hsl]); first | done | exact ct_Texts) ?_); clear H; intro a w H; replace H := nf_Texts H; first | (simp only [hsl] at H; replace H := nf_Texts H) | skip; (try simp only [List.drop_succ_cons, List.drop_zero, List.drop_nil]); try refine wpList_nil ?_) | refine wp_region_lit ?_)
    have H := v_sub H 8 (x := .bs e (some 0)) (y := .bs e none) (by simp only [sub]) rfl (fun _ e => by cases e) rfl
    simp only [nilT, reduceIte, Nat.reduceEqDiff] at H
    have H := v_ref H 6 1 (Nat.le_trans hN (by decide)) rfl rfl rfl
    simp only [nilT, strip, List.map_cons, List.map_nil, reduceIte, Nat.reduceEqDiff] at H
    have H := v_ref H 2 0 (Nat.le_trans hN (by decide)) rfl rfl rfl
    simp only [nilT, strip, List.map_cons, List.map_nil, reduceIte, Nat.reduceEqDiff] at H
    replace H := H.keep [2, 5, 6, 8, 10, 11] 0 2 ⟨Nat.le_trans hN (by show _ ≤ 0; decide), Nat.le_trans hR (by show _ ≤ 2; decide)⟩ (by rfl) (by rfl)
    replace H := nf_Texts H; first | (simp only [hsl] at H; replace H := nf_Texts H) | skip
    have H := v_fz H
    simp only [List.filter_cons, List.filter_nil, List.length_cons, List.length_nil, Nat.reduceAdd, Nat.reduceLT, Nat.not_lt_zero, Nat.zero_add, Nat.lt_irrefl, decide_false, Bool.false_eq_true, reduceIte] at H
    refine v_loop (fun k : Nat => ⟨[(11, none, .v (.int .i64 ((k : Int) - 1))), (10, none, .sl .sc (bss (tx key k (s.drop k) e).reverse) (some 1)), (8, none, .bs ((tx key k (s.drop k) e).headD []) none), (6, none, .ref ti64.ty (.st [.sl (.ba 32) (bas s) none, .st [.v (B8 n.k), .ba n.key, .ba n.v, .ba n.l, .ba n.r]])), (5, none, .v (.int .i64 0)), (2, none, .ref (.ba 32) (.ba key))], [], [], [(5, e.length), (24, (tx key k (s.drop k) e).reverse.length)]⟩)
      (fun k => k ≤ s.length) (fun k => k) s.length (Nat.le_refl _) (H.to 0 2 ⟨hN, Nat.le_trans hR (by decide)⟩ ⟨rfl, by rw [List.drop_length]; rfl, by rw [List.drop_length]; rfl, rfl, rfl, rfl, trivial⟩ rfl (by rw [List.drop_length]; rfl) rfl rfl rfl) ?_
    clear H
    intro k a w hk H
    repeat (first | refine wp_seq ?_ | refine wp_block ?_ | refine wp_skip ?_ | refine wp_exit ?_ | ((first | refine v_some 5 tab_ok hN H (by rfl) (by (try simp only [hsl]); first | done | exact ct_Texts) ?_ | refine v_more tab_ok hN H (by rfl) (by rfl) (by (try simp only [hsl]); first | done | exact ct_Texts) ?_); clear H; intro a w H; replace H := nf_Texts H; first | (simp only [hsl] at H; replace H := nf_Texts H) | skip; (try simp only [List.drop_succ_cons, List.drop_zero, List.drop_nil]); try refine wpList_nil ?_) | refine wp_region_lit ?_)
    refine v_cond H (by rfl) (fun hb => ?_) (fun hb => ?_)
    · obtain ⟨j, rfl⟩ : ∃ j, k = j + 1 := ⟨k - 1, by rw [decide_eq_true_eq] at hb; omega⟩
      clear hb
      have hj : j < s.length := hk
      have e1 : (((j + 1 : Nat) : Int) - 1) = (j : Int) := by omega
      rw [e1] at H
      have hbit := bit_v key hk32 (j : Int)
      have hj256 : j < 256 := by omega
      have hpb : decide (pbit key (j : Int) = 1) = bitN key j := by
        rw [pbit, if_pos (by omega), Int.toNat_natCast]; cases bitN key j <;> rfl
      have htx := tx_drop key e s j hj
      have hth := tx_head key e hel (j + 1) (s.drop (j + 1)) (fun h hh => hs h (List.mem_of_mem_drop hh))
      have hg := bas_get s j hj
      rw [List.getElem_eq_getD []] at hg
      have hx : (s.getD j []).length = 32 := by rw [← List.getElem_eq_getD (h := hj) []]; exact hs _ (List.getElem_mem _)
      have hll := tx_len key e (j + 1) (s.drop (j + 1))
      have hsd : (s.drop (j + 1)).length ≤ s.length := by rw [List.length_drop]; omega
      generalize s.getD j [] = x at *
      generalize tx key (j + 1) (s.drop (j + 1)) e = ls at *
      generalize ls.headD [] = t at *
      have hsu := sum_v t (by omega)
      have hsul := sum_length t
      have hbl : (bss ls.reverse).length = ls.length := by simp [bss]
      have hit1 := innerText_v (sum t) x hsul hx
      have hit2 := innerText_v x (sum t) hx hsul
      have htl1 : (2 :: (sum t ++ x)).length = 65 := by simp; omega
      have htl2 : (2 :: (x ++ sum t)).length = 65 := by simp; omega
      repeat (first | refine wp_seq ?_ | refine wp_block ?_ | refine wp_skip ?_ | refine wp_exit ?_ | ((first | refine v_some 5 tab_ok hN H (by rfl) (by (try simp only [hsl, hg, hsl, hx, hsul]); first | done | exact ct_Texts) ?_ | refine v_more tab_ok hN H (by rfl) (by rfl) (by (try simp only [hsl, hg, hsl, hx, hsul]); first | done | exact ct_Texts) ?_); clear H; intro a w H; replace H := nf_Texts H; first | (simp only [hsl, hg] at H; replace H := nf_Texts H) | skip; (try simp only [List.drop_succ_cons, List.drop_zero, List.drop_nil]); try refine wpList_nil ?_) | refine wp_region_lit ?_)
      apply cutG (R := fun a w => Rel Try.prog w0 N Try.f8.ntmps ⟨[(2, none, .ref (.ba 32) (.ba key)), (5, none, .v (.int .i64 0)), (6, none, .ref ti64.ty (.st [.sl (.ba 32) (bas s) none, .st [.v (B8 n.k), .ba n.key, .ba n.v, .ba n.l, .ba n.r]])), (8, none, .bs t none), (10, none, .sl .sc (bss ls.reverse) (some 1)), (11, none, .v (.int .i64 (j : Int))), (12, none, .ptr 0 []), (13, none, .ptr 1 [])], [(.ba 32, .ba (sum t)), (.ba 32, .ba x)], [], [(5, e.length), (24, ls.reverse.length)]⟩ a w)
      intro key1
      apply cutG (R := fun a w => Rel Try.prog w0 N Try.f8.ntmps ⟨[(2, none, .ref (.ba 32) (.ba key)), (5, none, .v (.int .i64 0)), (6, none, .ref ti64.ty (.st [.sl (.ba 32) (bas s) none, .st [.v (B8 n.k), .ba n.key, .ba n.v, .ba n.l, .ba n.r]])), (8, none, .bs t none), (10, none, .sl .sc (bss ls.reverse) (some 1)), (11, none, .v (.int .i64 (j : Int))), (12, none, .ptr 1 []), (13, none, .ptr 0 [])], [(.ba 32, .ba x), (.ba 32, .ba (sum t))], [], [(5, e.length), (24, ls.reverse.length)]⟩ a w)
      intro key2
      · repeat (first | refine wp_seq ?_ | refine wp_block ?_)
        refine v_drawZ 0 [1, 7, 8, 9, 10] [0, 2, 3, 4, 5, 6] [(1, 7), (1, 8), (7, 8)] (by kernel_rfl) (by kernel_rfl) (by kernel_rfl) (by kernel_rfl) H (by rfl) (fun gS H => ?_); try replace H := nt_Texts H; first | (simp only [hsl, hg] at H; replace H := nt_Texts H) | skip
        refine wpZ_run 1 (i := 0) (n' := 10) (pend' := [1, 2, 3, 4, 5, 6, 7, 8, 9, 10]) (by rfl) (by rfl) (by rfl) (by rfl) (by rfl) ?_
        repeat (refine v_someT 3 tab_ok hN H (by rfl) (by (try simp only [hsl, hg, hsl, hx, hsul]); first | done | exact ct_Texts) ?_; clear H; intro a w H; replace H := nt_Texts H; first | (simp only [hsl, hg] at H; replace H := nt_Texts H) | skip; simp only [List.drop_succ_cons, List.drop_zero, List.drop_nil])
        refine wpT_nil ?_
        try dsimp only
        refine wpZ_two (cs := [7, 8]) (by rfl) (by rfl) ?_
        refine all3 ?_
        refine ⟨?_, ?_, ?_⟩
        focus
          refine wpZ_pick (pend' := [2, 3, 4, 5, 6, 7, 8, 9, 10]) (by rfl) (by rfl) ?_
          refine v_callT [] [] (hsu) H (by rfl) (by rfl) rfl rfl (by rfl) (by simp [pickB, bxs, ren, idx?, sub_refl, sub, allP, hsl, hg] <;> omega) (by first | rfl | (simp [hsl, hg] <;> omega)) (by first | exact trivial | exact ⟨sub_refl _ _, trivial⟩ | exact ⟨sub_refl _ _, sub_refl _ _, trivial⟩ | exact ⟨sub_refl _ _, sub_refl _ _, sub_refl _ _, trivial⟩ | exact ⟨⟨rfl, sub_refl _ _, trivial⟩, sub_refl _ _, trivial⟩ | (simp [cargs, cargsG, St.ev, St.tmp, find, ren, idx?, sub_refl, sub, allP, resv, resC, bss, hsl, hg] <;> omega)) ?_; clear H; intro a w H; try replace H := nt_Texts H; first | (simp only [hsl, hg] at H; replace H := nt_Texts H) | skip
          refine wpT_nil ?_
          try dsimp only
          refine wpZ_run 5 (i := 2) (n' := 4) (pend' := [7, 8, 9, 10]) (by rfl) (by rfl) (by rfl) (by rfl) (by rfl) ?_
          repeat (refine v_someT 3 tab_ok hN H (by rfl) (by (try simp only [hsl, hg, hsl, hx, hsul]); first | done | exact ct_Texts) ?_; clear H; intro a w H; replace H := nt_Texts H; first | (simp only [hsl, hg] at H; replace H := nt_Texts H) | skip; simp only [List.drop_succ_cons, List.drop_zero, List.drop_nil])
          refine wpT_nil ?_
          try dsimp only
          refine wpZ_two (cs := [8]) (by rfl) (by rfl) ?_
          refine all2 ?_
          refine ⟨?_, ?_⟩
          focus
            refine wpZ_pick (pend' := [8, 9, 10]) (by rfl) (by rfl) ?_
            repeat (refine v_someT 3 tab_ok hN H (by rfl) (by (try simp only [hsl, hg, hsl, hx, hsul]); first | done | exact ct_Texts) ?_; clear H; intro a w H; replace H := nt_Texts H; first | (simp only [hsl, hg] at H; replace H := nt_Texts H) | skip; simp only [List.drop_succ_cons, List.drop_zero, List.drop_nil])
            refine wpT_nil ?_
            try dsimp only
            refine wpZ_two (cs := []) (by rfl) (by rfl) ?_
            refine all1 ?_
            refine wpZ_pick (pend' := [9, 10]) (by rfl) (by rfl) ?_
            repeat (refine v_someT 3 tab_ok hN H (by rfl) (by (try simp only [hsl, hg, hsl, hx, hsul]); first | done | exact ct_Texts) ?_; clear H; intro a w H; replace H := nt_Texts H; first | (simp only [hsl, hg] at H; replace H := nt_Texts H) | skip; simp only [List.drop_succ_cons, List.drop_zero, List.drop_nil])
            refine wpT_nil ?_
            try dsimp only
            refine wpZ_two (cs := []) (by rfl) (by rfl) ?_
            refine all1 ?_
            refine wpZ_pick (pend' := [10]) (by rfl) (by rfl) ?_
            repeat (refine v_someT 3 tab_ok hN H (by rfl) (by (try simp only [hsl, hg, hsl, hx, hsul]); first | done | exact ct_Texts) ?_; clear H; intro a w H; replace H := nt_Texts H; first | (simp only [hsl, hg] at H; replace H := nt_Texts H) | skip; simp only [List.drop_succ_cons, List.drop_zero, List.drop_nil])
            refine wpT_nil ?_
            try dsimp only
            refine wpZ_two (cs := []) (by rfl) (by rfl) ?_
            refine all1 ?_
            refine wpZ_pick (pend' := []) (by rfl) (by rfl) ?_
            repeat (refine v_someT 3 tab_ok hN H (by rfl) (by (try simp only [hsl, hg, hsl, hx, hsul]); first | done | exact ct_Texts) ?_; clear H; intro a w H; replace H := nt_Texts H; first | (simp only [hsl, hg] at H; replace H := nt_Texts H) | skip; simp only [List.drop_succ_cons, List.drop_zero, List.drop_nil])
            refine wpT_nil ?_
            try dsimp only
            refine wpZ_nil ?_
            replace H := RelT.toRel H
          rotate_left 1
          focus
            refine wpZ_pick (pend' := [7, 9, 10]) (by rfl) (by rfl) ?_
            repeat (refine v_someT 3 tab_ok hN H (by rfl) (by (try simp only [hsl, hg, hsl, hx, hsul]); first | done | exact ct_Texts) ?_; clear H; intro a w H; replace H := nt_Texts H; first | (simp only [hsl, hg] at H; replace H := nt_Texts H) | skip; simp only [List.drop_succ_cons, List.drop_zero, List.drop_nil])
            refine wpT_nil ?_
            try dsimp only
            refine wpZ_two (cs := []) (by rfl) (by rfl) ?_
            refine all1 ?_
            refine wpZ_pick (pend' := [9, 10]) (by rfl) (by rfl) ?_
            repeat (refine v_someT 3 tab_ok hN H (by rfl) (by (try simp only [hsl, hg, hsl, hx, hsul]); first | done | exact ct_Texts) ?_; clear H; intro a w H; replace H := nt_Texts H; first | (simp only [hsl, hg] at H; replace H := nt_Texts H) | skip; simp only [List.drop_succ_cons, List.drop_zero, List.drop_nil])
            refine wpT_nil ?_
            try dsimp only
            refine wpZ_two (cs := []) (by rfl) (by rfl) ?_
            refine all1 ?_
            refine wpZ_pick (pend' := [10]) (by rfl) (by rfl) ?_
            repeat (refine v_someT 3 tab_ok hN H (by rfl) (by (try simp only [hsl, hg, hsl, hx, hsul]); first | done | exact ct_Texts) ?_; clear H; intro a w H; replace H := nt_Texts H; first | (simp only [hsl, hg] at H; replace H := nt_Texts H) | skip; simp only [List.drop_succ_cons, List.drop_zero, List.drop_nil])
            refine wpT_nil ?_
            try dsimp only
            refine wpZ_two (cs := []) (by rfl) (by rfl) ?_
            refine all1 ?_
            refine wpZ_pick (pend' := []) (by rfl) (by rfl) ?_
            repeat (refine v_someT 3 tab_ok hN H (by rfl) (by (try simp only [hsl, hg, hsl, hx, hsul]); first | done | exact ct_Texts) ?_; clear H; intro a w H; replace H := nt_Texts H; first | (simp only [hsl, hg] at H; replace H := nt_Texts H) | skip; simp only [List.drop_succ_cons, List.drop_zero, List.drop_nil])
            refine wpT_nil ?_
            try dsimp only
            refine wpZ_nil ?_
            replace H := RelT.toRel H
        rotate_left 2
        focus
          refine wpZ_pick (pend' := [1, 2, 3, 4, 5, 6, 8, 9, 10]) (by rfl) (by rfl) ?_
          repeat (refine v_someT 3 tab_ok hN H (by rfl) (by (try simp only [hsl, hg, hsl, hx, hsul]); first | done | exact ct_Texts) ?_; clear H; intro a w H; replace H := nt_Texts H; first | (simp only [hsl, hg] at H; replace H := nt_Texts H) | skip; simp only [List.drop_succ_cons, List.drop_zero, List.drop_nil])
          refine wpT_nil ?_
          try dsimp only
          refine wpZ_two (cs := [8]) (by rfl) (by rfl) ?_
          refine all2 ?_
          refine ⟨?_, ?_⟩
          focus
            refine wpZ_pick (pend' := [2, 3, 4, 5, 6, 8, 9, 10]) (by rfl) (by rfl) ?_
            refine v_callT [] [] (hsu) H (by rfl) (by rfl) rfl rfl (by rfl) (by simp [pickB, bxs, ren, idx?, sub_refl, sub, allP, hsl, hg] <;> omega) (by first | rfl | (simp [hsl, hg] <;> omega)) (by first | exact trivial | exact ⟨sub_refl _ _, trivial⟩ | exact ⟨sub_refl _ _, sub_refl _ _, trivial⟩ | exact ⟨sub_refl _ _, sub_refl _ _, sub_refl _ _, trivial⟩ | exact ⟨⟨rfl, sub_refl _ _, trivial⟩, sub_refl _ _, trivial⟩ | (simp [cargs, cargsG, St.ev, St.tmp, find, ren, idx?, sub_refl, sub, allP, resv, resC, bss, hsl, hg] <;> omega)) ?_; clear H; intro a w H; try replace H := nt_Texts H; first | (simp only [hsl, hg] at H; replace H := nt_Texts H) | skip
            refine wpT_nil ?_
            try dsimp only
            refine wpZ_run 5 (i := 2) (n' := 3) (pend' := [8, 9, 10]) (by rfl) (by rfl) (by rfl) (by rfl) (by rfl) ?_
            repeat (refine v_someT 3 tab_ok hN H (by rfl) (by (try simp only [hsl, hg, hsl, hx, hsul]); first | done | exact ct_Texts) ?_; clear H; intro a w H; replace H := nt_Texts H; first | (simp only [hsl, hg] at H; replace H := nt_Texts H) | skip; simp only [List.drop_succ_cons, List.drop_zero, List.drop_nil])
            refine wpT_nil ?_
            try dsimp only
            refine wpZ_two (cs := []) (by rfl) (by rfl) ?_
            refine all1 ?_
            refine wpZ_pick (pend' := [9, 10]) (by rfl) (by rfl) ?_
            repeat (refine v_someT 3 tab_ok hN H (by rfl) (by (try simp only [hsl, hg, hsl, hx, hsul]); first | done | exact ct_Texts) ?_; clear H; intro a w H; replace H := nt_Texts H; first | (simp only [hsl, hg] at H; replace H := nt_Texts H) | skip; simp only [List.drop_succ_cons, List.drop_zero, List.drop_nil])
            refine wpT_nil ?_
            try dsimp only
            refine wpZ_two (cs := []) (by rfl) (by rfl) ?_
            refine all1 ?_
            refine wpZ_pick (pend' := [10]) (by rfl) (by rfl) ?_
            repeat (refine v_someT 3 tab_ok hN H (by rfl) (by (try simp only [hsl, hg, hsl, hx, hsul]); first | done | exact ct_Texts) ?_; clear H; intro a w H; replace H := nt_Texts H; first | (simp only [hsl, hg] at H; replace H := nt_Texts H) | skip; simp only [List.drop_succ_cons, List.drop_zero, List.drop_nil])
            refine wpT_nil ?_
            try dsimp only
            refine wpZ_two (cs := []) (by rfl) (by rfl) ?_
            refine all1 ?_
            refine wpZ_pick (pend' := []) (by rfl) (by rfl) ?_
            repeat (refine v_someT 3 tab_ok hN H (by rfl) (by (try simp only [hsl, hg, hsl, hx, hsul]); first | done | exact ct_Texts) ?_; clear H; intro a w H; replace H := nt_Texts H; first | (simp only [hsl, hg] at H; replace H := nt_Texts H) | skip; simp only [List.drop_succ_cons, List.drop_zero, List.drop_nil])
            refine wpT_nil ?_
            try dsimp only
            refine wpZ_nil ?_
            replace H := RelT.toRel H
          rotate_left 1
          focus
            refine wpZ_pick (pend' := [1, 2, 3, 4, 5, 6, 9, 10]) (by rfl) (by rfl) ?_
            repeat (refine v_someT 3 tab_ok hN H (by rfl) (by (try simp only [hsl, hg, hsl, hx, hsul]); first | done | exact ct_Texts) ?_; clear H; intro a w H; replace H := nt_Texts H; first | (simp only [hsl, hg] at H; replace H := nt_Texts H) | skip; simp only [List.drop_succ_cons, List.drop_zero, List.drop_nil])
            refine wpT_nil ?_
            try dsimp only
            refine wpZ_two (cs := []) (by rfl) (by rfl) ?_
            refine all1 ?_
            refine wpZ_pick (pend' := [2, 3, 4, 5, 6, 9, 10]) (by rfl) (by rfl) ?_
            refine v_callT [] [] (hsu) H (by rfl) (by rfl) rfl rfl (by rfl) (by simp [pickB, bxs, ren, idx?, sub_refl, sub, allP, hsl, hg] <;> omega) (by first | rfl | (simp [hsl, hg] <;> omega)) (by first | exact trivial | exact ⟨sub_refl _ _, trivial⟩ | exact ⟨sub_refl _ _, sub_refl _ _, trivial⟩ | exact ⟨sub_refl _ _, sub_refl _ _, sub_refl _ _, trivial⟩ | exact ⟨⟨rfl, sub_refl _ _, trivial⟩, sub_refl _ _, trivial⟩ | (simp [cargs, cargsG, St.ev, St.tmp, find, ren, idx?, sub_refl, sub, allP, resv, resC, bss, hsl, hg] <;> omega)) ?_; clear H; intro a w H; try replace H := nt_Texts H; first | (simp only [hsl, hg] at H; replace H := nt_Texts H) | skip
            refine wpT_nil ?_
            try dsimp only
            refine wpZ_run 5 (i := 2) (n' := 2) (pend' := [9, 10]) (by rfl) (by rfl) (by rfl) (by rfl) (by rfl) ?_
            repeat (refine v_someT 3 tab_ok hN H (by rfl) (by (try simp only [hsl, hg, hsl, hx, hsul]); first | done | exact ct_Texts) ?_; clear H; intro a w H; replace H := nt_Texts H; first | (simp only [hsl, hg] at H; replace H := nt_Texts H) | skip; simp only [List.drop_succ_cons, List.drop_zero, List.drop_nil])
            refine wpT_nil ?_
            try dsimp only
            refine wpZ_two (cs := []) (by rfl) (by rfl) ?_
            refine all1 ?_
            refine wpZ_pick (pend' := [10]) (by rfl) (by rfl) ?_
            repeat (refine v_someT 3 tab_ok hN H (by rfl) (by (try simp only [hsl, hg, hsl, hx, hsul]); first | done | exact ct_Texts) ?_; clear H; intro a w H; replace H := nt_Texts H; first | (simp only [hsl, hg] at H; replace H := nt_Texts H) | skip; simp only [List.drop_succ_cons, List.drop_zero, List.drop_nil])
            refine wpT_nil ?_
            try dsimp only
            refine wpZ_two (cs := []) (by rfl) (by rfl) ?_
            refine all1 ?_
            refine wpZ_pick (pend' := []) (by rfl) (by rfl) ?_
            repeat (refine v_someT 3 tab_ok hN H (by rfl) (by (try simp only [hsl, hg, hsl, hx, hsul]); first | done | exact ct_Texts) ?_; clear H; intro a w H; replace H := nt_Texts H; first | (simp only [hsl, hg] at H; replace H := nt_Texts H) | skip; simp only [List.drop_succ_cons, List.drop_zero, List.drop_nil])
            refine wpT_nil ?_
            try dsimp only
            refine wpZ_nil ?_
            replace H := RelT.toRel H
        rotate_left 2
        focus
          refine wpZ_pick (pend' := [1, 2, 3, 4, 5, 6, 7, 9, 10]) (by rfl) (by rfl) ?_
          repeat (refine v_someT 3 tab_ok hN H (by rfl) (by (try simp only [hsl, hg, hsl, hx, hsul]); first | done | exact ct_Texts) ?_; clear H; intro a w H; replace H := nt_Texts H; first | (simp only [hsl, hg] at H; replace H := nt_Texts H) | skip; simp only [List.drop_succ_cons, List.drop_zero, List.drop_nil])
          refine wpT_nil ?_
          try dsimp only
          refine wpZ_two (cs := [7]) (by rfl) (by rfl) ?_
          refine all2 ?_
          refine ⟨?_, ?_⟩
          focus
            refine wpZ_pick (pend' := [2, 3, 4, 5, 6, 7, 9, 10]) (by rfl) (by rfl) ?_
            refine v_callT [] [] (hsu) H (by rfl) (by rfl) rfl rfl (by rfl) (by simp [pickB, bxs, ren, idx?, sub_refl, sub, allP, hsl, hg] <;> omega) (by first | rfl | (simp [hsl, hg] <;> omega)) (by first | exact trivial | exact ⟨sub_refl _ _, trivial⟩ | exact ⟨sub_refl _ _, sub_refl _ _, trivial⟩ | exact ⟨sub_refl _ _, sub_refl _ _, sub_refl _ _, trivial⟩ | exact ⟨⟨rfl, sub_refl _ _, trivial⟩, sub_refl _ _, trivial⟩ | (simp [cargs, cargsG, St.ev, St.tmp, find, ren, idx?, sub_refl, sub, allP, resv, resC, bss, hsl, hg] <;> omega)) ?_; clear H; intro a w H; try replace H := nt_Texts H; first | (simp only [hsl, hg] at H; replace H := nt_Texts H) | skip
            refine wpT_nil ?_
            try dsimp only
            refine wpZ_run 5 (i := 2) (n' := 3) (pend' := [7, 9, 10]) (by rfl) (by rfl) (by rfl) (by rfl) (by rfl) ?_
            repeat (refine v_someT 3 tab_ok hN H (by rfl) (by (try simp only [hsl, hg, hsl, hx, hsul]); first | done | exact ct_Texts) ?_; clear H; intro a w H; replace H := nt_Texts H; first | (simp only [hsl, hg] at H; replace H := nt_Texts H) | skip; simp only [List.drop_succ_cons, List.drop_zero, List.drop_nil])
            refine wpT_nil ?_
            try dsimp only
            refine wpZ_two (cs := []) (by rfl) (by rfl) ?_
            refine all1 ?_
            refine wpZ_pick (pend' := [9, 10]) (by rfl) (by rfl) ?_
            repeat (refine v_someT 3 tab_ok hN H (by rfl) (by (try simp only [hsl, hg, hsl, hx, hsul]); first | done | exact ct_Texts) ?_; clear H; intro a w H; replace H := nt_Texts H; first | (simp only [hsl, hg] at H; replace H := nt_Texts H) | skip; simp only [List.drop_succ_cons, List.drop_zero, List.drop_nil])
            refine wpT_nil ?_
            try dsimp only
            refine wpZ_two (cs := []) (by rfl) (by rfl) ?_
            refine all1 ?_
            refine wpZ_pick (pend' := [10]) (by rfl) (by rfl) ?_
            repeat (refine v_someT 3 tab_ok hN H (by rfl) (by (try simp only [hsl, hg, hsl, hx, hsul]); first | done | exact ct_Texts) ?_; clear H; intro a w H; replace H := nt_Texts H; first | (simp only [hsl, hg] at H; replace H := nt_Texts H) | skip; simp only [List.drop_succ_cons, List.drop_zero, List.drop_nil])
            refine wpT_nil ?_
            try dsimp only
            refine wpZ_two (cs := []) (by rfl) (by rfl) ?_
            refine all1 ?_
            refine wpZ_pick (pend' := []) (by rfl) (by rfl) ?_
            repeat (refine v_someT 3 tab_ok hN H (by rfl) (by (try simp only [hsl, hg, hsl, hx, hsul]); first | done | exact ct_Texts) ?_; clear H; intro a w H; replace H := nt_Texts H; first | (simp only [hsl, hg] at H; replace H := nt_Texts H) | skip; simp only [List.drop_succ_cons, List.drop_zero, List.drop_nil])
            refine wpT_nil ?_
            try dsimp only
            refine wpZ_nil ?_
            replace H := RelT.toRel H
          rotate_left 1
          focus
            refine wpZ_pick (pend' := [1, 2, 3, 4, 5, 6, 9, 10]) (by rfl) (by rfl) ?_
            repeat (refine v_someT 3 tab_ok hN H (by rfl) (by (try simp only [hsl, hg, hsl, hx, hsul]); first | done | exact ct_Texts) ?_; clear H; intro a w H; replace H := nt_Texts H; first | (simp only [hsl, hg] at H; replace H := nt_Texts H) | skip; simp only [List.drop_succ_cons, List.drop_zero, List.drop_nil])
            refine wpT_nil ?_
            try dsimp only
            refine wpZ_two (cs := []) (by rfl) (by rfl) ?_
            refine all1 ?_
            refine wpZ_pick (pend' := [2, 3, 4, 5, 6, 9, 10]) (by rfl) (by rfl) ?_
            refine v_callT [] [] (hsu) H (by rfl) (by rfl) rfl rfl (by rfl) (by simp [pickB, bxs, ren, idx?, sub_refl, sub, allP, hsl, hg] <;> omega) (by first | rfl | (simp [hsl, hg] <;> omega)) (by first | exact trivial | exact ⟨sub_refl _ _, trivial⟩ | exact ⟨sub_refl _ _, sub_refl _ _, trivial⟩ | exact ⟨sub_refl _ _, sub_refl _ _, sub_refl _ _, trivial⟩ | exact ⟨⟨rfl, sub_refl _ _, trivial⟩, sub_refl _ _, trivial⟩ | (simp [cargs, cargsG, St.ev, St.tmp, find, ren, idx?, sub_refl, sub, allP, resv, resC, bss, hsl, hg] <;> omega)) ?_; clear H; intro a w H; try replace H := nt_Texts H; first | (simp only [hsl, hg] at H; replace H := nt_Texts H) | skip
            refine wpT_nil ?_
            try dsimp only
            refine wpZ_run 5 (i := 2) (n' := 2) (pend' := [9, 10]) (by rfl) (by rfl) (by rfl) (by rfl) (by rfl) ?_
            repeat (refine v_someT 3 tab_ok hN H (by rfl) (by (try simp only [hsl, hg, hsl, hx, hsul]); first | done | exact ct_Texts) ?_; clear H; intro a w H; replace H := nt_Texts H; first | (simp only [hsl, hg] at H; replace H := nt_Texts H) | skip; simp only [List.drop_succ_cons, List.drop_zero, List.drop_nil])
            refine wpT_nil ?_
            try dsimp only
            refine wpZ_two (cs := []) (by rfl) (by rfl) ?_
            refine all1 ?_
            refine wpZ_pick (pend' := [10]) (by rfl) (by rfl) ?_
            repeat (refine v_someT 3 tab_ok hN H (by rfl) (by (try simp only [hsl, hg, hsl, hx, hsul]); first | done | exact ct_Texts) ?_; clear H; intro a w H; replace H := nt_Texts H; first | (simp only [hsl, hg] at H; replace H := nt_Texts H) | skip; simp only [List.drop_succ_cons, List.drop_zero, List.drop_nil])
            refine wpT_nil ?_
            try dsimp only
            refine wpZ_two (cs := []) (by rfl) (by rfl) ?_
            refine all1 ?_
            refine wpZ_pick (pend' := []) (by rfl) (by rfl) ?_
            repeat (refine v_someT 3 tab_ok hN H (by rfl) (by (try simp only [hsl, hg, hsl, hx, hsul]); first | done | exact ct_Texts) ?_; clear H; intro a w H; replace H := nt_Texts H; first | (simp only [hsl, hg] at H; replace H := nt_Texts H) | skip; simp only [List.drop_succ_cons, List.drop_zero, List.drop_nil])
            refine wpT_nil ?_
            try dsimp only
            refine wpZ_nil ?_
            replace H := RelT.toRel H
        all_goals
          first
          | exact key1 _ _ (H.to 2 2 ⟨Nat.le_trans hN (by decide), Nat.le_trans hR (by decide)⟩ ⟨rfl, rfl, rfl, rfl, rfl, rfl, rfl, rfl, trivial⟩ rfl rfl rfl rfl rfl)
          | exact key2 _ _ (H.to 2 2 ⟨Nat.le_trans hN (by decide), Nat.le_trans hR (by decide)⟩ ⟨rfl, rfl, rfl, rfl, rfl, rfl, rfl, rfl, trivial⟩ rfl rfl rfl rfl rfl)
      all_goals
        intro a w H
        repeat (first | refine wp_seq ?_ | refine wp_block ?_ | refine wp_skip ?_ | refine wp_exit ?_ | ((first | refine v_some 5 tab_ok hN H (by rfl) (by (try simp only [hsl, hbl, List.length_reverse, hsul, hx]); first | done | exact ct_Texts) ?_ | refine v_more tab_ok hN H (by rfl) (by rfl) (by (try simp only [hsl, hbl, List.length_reverse, hsul, hx]); first | done | exact ct_Texts) ?_); clear H; intro a w H; replace H := nf_Texts H; first | (simp only [hsl, hbl, List.length_reverse] at H; replace H := nf_Texts H) | skip; (try simp only [List.drop_succ_cons, List.drop_zero, List.drop_nil]); try refine wpList_nil ?_) | refine wp_region_lit ?_)
        refine v_call [] [] (hbit) H rfl rfl (by rfl) (by simp [pickB, bxs, ren, idx?, sub_refl, sub, allP, hsl, hbl, List.length_reverse] <;> omega) (by first | rfl | (simp [hsl, hbl, List.length_reverse] <;> omega)) (by first | exact trivial | exact ⟨sub_refl _ _, trivial⟩ | exact ⟨sub_refl _ _, sub_refl _ _, trivial⟩ | exact ⟨sub_refl _ _, sub_refl _ _, sub_refl _ _, trivial⟩ | exact ⟨⟨rfl, sub_refl _ _, trivial⟩, sub_refl _ _, trivial⟩ | (simp [cargs, cargsG, St.ev, St.tmp, find, ren, idx?, sub_refl, sub, allP, resv, resC, bss, hsl, hbl, List.length_reverse] <;> omega)) ?_; clear H; intro a w H; replace H := nf_Texts H; first | (simp only [hsl, hbl, List.length_reverse] at H; replace H := nf_Texts H) | skip; try refine wpList_nil ?_
        repeat (first | refine wp_seq ?_ | refine wp_block ?_ | refine wp_skip ?_ | refine wp_exit ?_ | ((first | refine v_some 5 tab_ok hN H (by rfl) (by (try simp only [hsl, hbl, List.length_reverse, hsul, hx]); first | done | exact ct_Texts) ?_ | refine v_more tab_ok hN H (by rfl) (by rfl) (by (try simp only [hsl, hbl, List.length_reverse, hsul, hx]); first | done | exact ct_Texts) ?_); clear H; intro a w H; replace H := nf_Texts H; first | (simp only [hsl, hbl, List.length_reverse] at H; replace H := nf_Texts H) | skip; (try simp only [List.drop_succ_cons, List.drop_zero, List.drop_nil]); try refine wpList_nil ?_) | refine wp_region_lit ?_)
        simp only [hpb] at H
        refine v_cond H (by rfl) (fun hb => ?_) (fun hb => ?_)
        · have hd : textD key j x t = 2 :: (x ++ sum t) := by unfold textD; rw [hb]; rfl
          rw [hd] at htx
          clear hb
          repeat (first | refine wp_seq ?_ | refine wp_block ?_ | refine wp_skip ?_ | refine wp_exit ?_ | ((first | refine v_some 5 tab_ok hN H (by rfl) (by (try simp only [hsl, hbl, List.length_reverse, hsul, hx]); first | done | exact ct_Texts) ?_ | refine v_more tab_ok hN H (by rfl) (by rfl) (by (try simp only [hsl, hbl, List.length_reverse, hsul, hx]); first | done | exact ct_Texts) ?_); clear H; intro a w H; replace H := nf_Texts H; first | (simp only [hsl, hbl, List.length_reverse] at H; replace H := nf_Texts H) | skip; (try simp only [List.drop_succ_cons, List.drop_zero, List.drop_nil]); try refine wpList_nil ?_) | refine wp_region_lit ?_)
          refine v_call [] [] (hit2) H rfl rfl (by rfl) (by simp [pickB, bxs, ren, idx?, sub_refl, sub, allP, hsl, hbl, List.length_reverse] <;> omega) (by first | rfl | (simp [hsl, hbl, List.length_reverse] <;> omega)) (by first | exact trivial | exact ⟨sub_refl _ _, trivial⟩ | exact ⟨sub_refl _ _, sub_refl _ _, trivial⟩ | exact ⟨sub_refl _ _, sub_refl _ _, sub_refl _ _, trivial⟩ | exact ⟨⟨rfl, sub_refl _ _, trivial⟩, sub_refl _ _, trivial⟩ | (simp [cargs, cargsG, St.ev, St.tmp, find, ren, idx?, sub_refl, sub, allP, resv, resC, bss, hsl, hbl, List.length_reverse] <;> omega)) ?_; clear H; intro a w H; replace H := nf_Texts H; first | (simp only [hsl, hbl, List.length_reverse] at H; replace H := nf_Texts H) | skip; try refine wpList_nil ?_
          generalize 2 :: (x ++ sum t) = t2 at *
          repeat (first | refine wp_seq ?_ | refine wp_block ?_ | refine wp_skip ?_ | refine wp_exit ?_ | ((first | refine v_some 5 tab_ok hN H (by rfl) (by (try simp only [hsl, hbl, List.length_reverse, hsul, hx]); first | done | exact ct_Texts) ?_ | refine v_more tab_ok hN H (by rfl) (by rfl) (by (try simp only [hsl, hbl, List.length_reverse, hsul, hx]); first | done | exact ct_Texts) ?_); clear H; intro a w H; replace H := nf_Texts H; first | (simp only [hsl, hbl, List.length_reverse] at H; replace H := nf_Texts H) | skip; (try simp only [List.drop_succ_cons, List.drop_zero, List.drop_nil]); try refine wpList_nil ?_) | refine wp_region_lit ?_)
          have H := v_sub H 8 (x := .bs t2 (some 2)) (y := .bs t2 none) (by simp only [sub]) rfl (fun _ e => by cases e) rfl
          simp only [nilT, reduceIte, Nat.reduceEqDiff] at H
          replace H := H.keep [2, 5, 6, 8, 10, 11] 0 2 ⟨Nat.le_trans hN (by show _ ≤ 0; decide), Nat.le_trans hR (by show _ ≤ 2; decide)⟩ (by rfl) (by rfl)
          replace H := nf_Texts H; first | (simp only [hsl, hbl, List.length_reverse] at H; replace H := nf_Texts H) | skip
          exact ⟨j, by omega, by omega, H.to 0 2 ⟨hN, Nat.le_trans hR (by decide)⟩ ⟨rfl, by rw [htx, List.reverse_cons, bss_snoc]; rfl, by rw [htx]; rfl, rfl, rfl, rfl, trivial⟩ rfl (by rw [htx, List.reverse_cons, List.length_append, List.length_reverse]; rfl) rfl rfl rfl⟩
        · have hd : textD key j x t = 2 :: (sum t ++ x) := by unfold textD; rw [hb]; rfl
          rw [hd] at htx
          clear hb
          repeat (first | refine wp_seq ?_ | refine wp_block ?_ | refine wp_skip ?_ | refine wp_exit ?_ | ((first | refine v_some 5 tab_ok hN H (by rfl) (by (try simp only [hsl, hbl, List.length_reverse, hsul, hx]); first | done | exact ct_Texts) ?_ | refine v_more tab_ok hN H (by rfl) (by rfl) (by (try simp only [hsl, hbl, List.length_reverse, hsul, hx]); first | done | exact ct_Texts) ?_); clear H; intro a w H; replace H := nf_Texts H; first | (simp only [hsl, hbl, List.length_reverse] at H; replace H := nf_Texts H) | skip; (try simp only [List.drop_succ_cons, List.drop_zero, List.drop_nil]); try refine wpList_nil ?_) | refine wp_region_lit ?_)
          refine v_call [] [] (hit1) H rfl rfl (by rfl) (by simp [pickB, bxs, ren, idx?, sub_refl, sub, allP, hsl, hbl, List.length_reverse] <;> omega) (by first | rfl | (simp [hsl, hbl, List.length_reverse] <;> omega)) (by first | exact trivial | exact ⟨sub_refl _ _, trivial⟩ | exact ⟨sub_refl _ _, sub_refl _ _, trivial⟩ | exact ⟨sub_refl _ _, sub_refl _ _, sub_refl _ _, trivial⟩ | exact ⟨⟨rfl, sub_refl _ _, trivial⟩, sub_refl _ _, trivial⟩ | (simp [cargs, cargsG, St.ev, St.tmp, find, ren, idx?, sub_refl, sub, allP, resv, resC, bss, hsl, hbl, List.length_reverse] <;> omega)) ?_; clear H; intro a w H; replace H := nf_Texts H; first | (simp only [hsl, hbl, List.length_reverse] at H; replace H := nf_Texts H) | skip; try refine wpList_nil ?_
          generalize 2 :: (sum t ++ x) = t2 at *
          repeat (first | refine wp_seq ?_ | refine wp_block ?_ | refine wp_skip ?_ | refine wp_exit ?_ | ((first | refine v_some 5 tab_ok hN H (by rfl) (by (try simp only [hsl, hbl, List.length_reverse, hsul, hx]); first | done | exact ct_Texts) ?_ | refine v_more tab_ok hN H (by rfl) (by rfl) (by (try simp only [hsl, hbl, List.length_reverse, hsul, hx]); first | done | exact ct_Texts) ?_); clear H; intro a w H; replace H := nf_Texts H; first | (simp only [hsl, hbl, List.length_reverse] at H; replace H := nf_Texts H) | skip; (try simp only [List.drop_succ_cons, List.drop_zero, List.drop_nil]); try refine wpList_nil ?_) | refine wp_region_lit ?_)
          have H := v_sub H 8 (x := .bs t2 (some 2)) (y := .bs t2 none) (by simp only [sub]) rfl (fun _ e => by cases e) rfl
          simp only [nilT, reduceIte, Nat.reduceEqDiff] at H
          replace H := H.keep [2, 5, 6, 8, 10, 11] 0 2 ⟨Nat.le_trans hN (by show _ ≤ 0; decide), Nat.le_trans hR (by show _ ≤ 2; decide)⟩ (by rfl) (by rfl)
          replace H := nf_Texts H; first | (simp only [hsl, hbl, List.length_reverse] at H; replace H := nf_Texts H) | skip
          exact ⟨j, by omega, by omega, H.to 0 2 ⟨hN, Nat.le_trans hR (by decide)⟩ ⟨rfl, by rw [htx, List.reverse_cons, bss_snoc]; rfl, by rw [htx]; rfl, rfl, rfl, rfl, trivial⟩ rfl (by rw [htx, List.reverse_cons, List.length_append, List.length_reverse]; rfl) rfl rfl rfl⟩
    · have hge : k = 0 := by rw [decide_eq_false_iff_not] at hb; omega
      subst hge
      clear hb
      rw [List.drop_zero] at H
      repeat (first | refine wp_seq ?_ | refine wp_block ?_ | refine wp_skip ?_ | refine wp_exit ?_ | ((first | refine v_some 5 tab_ok hN H (by rfl) ct_Texts ?_ | refine v_more tab_ok hN H (by rfl) (by rfl) ct_Texts ?_); clear H; intro a w H; replace H := nf_Texts H; (try simp only [List.drop_succ_cons, List.drop_zero, List.drop_nil]); try refine wpList_nil ?_) | refine wp_region_lit ?_)
      generalize tx key 0 s e = ls at *
      replace H := H.keep [5, 10, 57] 0 2 ⟨Nat.le_trans hN (by show _ ≤ 0; decide), Nat.le_trans hR (by show _ ≤ 2; decide)⟩ (by rfl) (by rfl)
      replace H := nf_Texts H
      refine v_rev (i := 1) (d := 57) (ls := ls.reverse) H rfl rfl hNb (Nat.le_trans hR (by decide)) (by rfl) (by rfl) (by rfl) (fun p hp => ?_) (by rfl) ?_
      · simp only [List.mem_cons, List.not_mem_nil, or_false] at hp
        rcases hp with rfl | rfl | rfl
        · first | exact .inl rfl | exact .inr rfl
        · first | exact .inl rfl | exact .inr rfl
        · first | exact .inl rfl | exact .inr rfl
      clear H; intro a w H
      simp only [List.map_cons, List.map_nil, turnS, turnA, List.reverse_reverse, reduceIte] at H
      replace H := nf_Texts H
      refine wpList_nil ?_
      repeat (first | refine wp_seq ?_ | refine wp_block ?_ | refine wp_skip ?_ | refine wp_exit ?_ | ((first | refine v_some 5 tab_ok hN H (by rfl) ct_Texts ?_ | refine v_more tab_ok hN H (by rfl) (by rfl) ct_Texts ?_); clear H; intro a w H; replace H := nf_Texts H; (try simp only [List.drop_succ_cons, List.drop_zero, List.drop_nil]); try refine wpList_nil ?_) | refine wp_region_lit ?_)
      refine wp_ret ?_
      exact v_end [] [] tab_ok ⟨hN, hR⟩ (rs := [.tmp 4, .tmp 5]) (ress := [_, _]) rfl H (by rfl) (by rfl) cb cw ca rfl
theorem texts_bad (key l : List UInt8) (hk32 : key.length = 32) (hl : l.length ≤ 34359730000) (h : ¬ pOk l) : VC Try.prog 8 [.ba key, .bs l none] [] (.tup [.sl .sc (bss (txs key l)) none, errv 10]) := by
  have hd := decodeP_v l hl
  rw [if_neg h] at hd
  rw [txs, if_neg h]
  have hw := pDec_wf l
  obtain ⟨g1, g2, g3, g4⟩ := id hw.e
  generalize pDec l = p at *
  refine v_enter Try.func8 rfl (by kernel_rfl) (by show 2 ≤ 60; decide) ?_
  intro N w0 a w hN hR H
  simp only [Pf.av, Nd.av] at hd
  repeat (first | refine wp_seq ?_ | refine wp_block ?_ | refine wp_skip ?_ | refine wp_exit ?_ | ((first | refine v_some 5 tab_ok hN H (by rfl) ct_Texts ?_ | refine v_more tab_ok hN H (by rfl) (by rfl) ct_Texts ?_); clear H; intro a w H; replace H := nf_Texts H; (try simp only [List.drop_succ_cons, List.drop_zero, List.drop_nil]); try refine wpList_nil ?_) | refine wp_region_lit ?_)
  refine v_call [] [] (hd) H rfl rfl (by rfl) cb cw ca ?_; clear H; intro a w H; replace H := nf_Texts H; try refine wpList_nil ?_
  repeat (first | refine wp_seq ?_ | refine wp_block ?_ | refine wp_skip ?_ | refine wp_exit ?_ | ((first | refine v_some 5 tab_ok hN H (by rfl) ct_Texts ?_ | refine v_more tab_ok hN H (by rfl) (by rfl) ct_Texts ?_); clear H; intro a w H; replace H := nf_Texts H; (try simp only [List.drop_succ_cons, List.drop_zero, List.drop_nil]); try refine wpList_nil ?_) | refine wp_region_lit ?_)
  refine v_cond H (by rfl) (fun hb => ?_) (fun hb => ?_)
  · repeat (first | refine wp_seq ?_ | refine wp_block ?_ | refine wp_skip ?_ | refine wp_exit ?_ | ((first | refine v_some 5 tab_ok hN H (by rfl) ct_Texts ?_ | refine v_more tab_ok hN H (by rfl) (by rfl) ct_Texts ?_); clear H; intro a w H; replace H := nf_Texts H; (try simp only [List.drop_succ_cons, List.drop_zero, List.drop_nil]); try refine wpList_nil ?_) | refine wp_region_lit ?_)
    refine wp_ret ?_
    exact v_end [] [] tab_ok ⟨hN, hR⟩ (rs := [.tmp 4, .tmp 5]) (ress := [_, _]) rfl H (by rfl) (by rfl) cb cw ca rfl
  · simp at hb
theorem texts_v (key l : List UInt8) (hk32 : key.length = 32) (hl : l.length ≤ 34359730000) : VC Try.prog 8 [.ba key, .bs l none] [] (.tup [.sl .sc (bss (txs key l)) none, errv (vErr l)]) := by
  by_cases h : pOk l
  · rw [vErr, if_pos h]; exact texts_ok key l hk32 hl h
  · rw [vErr, if_neg h]; exact texts_bad key l hk32 hl h
end Go.Proofs.Ytlagngkafllbiaa
