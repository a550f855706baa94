/- Roots of entries: the document's. -/
import Derived.Test.YtpeefeioccglcaaRoots2
import Derived.Test.YtpeefeioccglcaaWayR
import Derived.Test.YtpeefeioccglcaaLeafR
set_option linter.unusedSimpArgs false
set_option linter.unusedVariables false
namespace Go.Proofs.Ytpeefeioccglcaa
open Go Go.RowKit
/-- The state made plain. -/
theorem nf_RootsR {P : Program} {w0 w : World} {N : Gh} {nt : Nat} {st s2 : St} {a : Act} (H : Rel P w0 N nt st a w) (h : st = s2 := by (try simp only [pk, elemB, St.put, St.ev, St.tmp, St.keep, find, dropT, slots, AV.put, AV.loc, fitI, convI, IntKind.signed, IntKind.bits, strip, St.lose, mergeL, setAll, nth, renB, ren, idx?, sub, allP, low, bnd, Int.reduceEq, Nat.reduceAdd, Nat.reduceLT, reduceIte, reduceCtorEq, Nat.reduceEqDiff, Nat.reduceLeDiff, Nat.reduceBEq, Int.reducePow, Int.reduceToNat, ti22_t, ti22_z, ti5_t, ti5_z, ti51_t, ti51_z, ti50_t, ti50_z, ti75_t, ti75_z, ti76_t, ti76_z, ti49_t, ti49_z, ti200_t, ti200_z, ti197_t, ti197_z]); rfl) : Rel P w0 N nt s2 a w := h ▸ H
theorem nt_RootsR {P : Program} {w0 w : World} {N gS : Gh} {nt : Nat} {q q2 st s2 : St} {a : Act} (H : RelT P w0 N nt gS q st a w) (h1 : q = q2 := by (try simp only [pk, elemB, St.put, St.ev, St.tmp, St.keep, find, dropT, slots, AV.put, AV.loc, fitI, convI, IntKind.signed, IntKind.bits, strip, St.lose, mergeL, setAll, nth, renB, ren, idx?, sub, allP, low, bnd, Int.reduceEq, Nat.reduceAdd, Nat.reduceLT, reduceIte, reduceCtorEq, Nat.reduceEqDiff, Nat.reduceLeDiff, Nat.reduceBEq, Int.reducePow, Int.reduceToNat, ti22_t, ti22_z, ti5_t, ti5_z, ti51_t, ti51_z, ti50_t, ti50_z, ti75_t, ti75_z, ti76_t, ti76_z, ti49_t, ti49_z, ti200_t, ti200_z, ti197_t, ti197_z]); rfl) (h : st = s2 := by (try simp only [pk, elemB, St.put, St.ev, St.tmp, St.keep, find, dropT, slots, AV.put, AV.loc, fitI, convI, IntKind.signed, IntKind.bits, strip, St.lose, mergeL, setAll, nth, renB, ren, idx?, sub, allP, low, bnd, Int.reduceEq, Nat.reduceAdd, Nat.reduceLT, reduceIte, reduceCtorEq, Nat.reduceEqDiff, Nat.reduceLeDiff, Nat.reduceBEq, Int.reducePow, Int.reduceToNat, ti22_t, ti22_z, ti5_t, ti5_z, ti51_t, ti51_z, ti50_t, ti50_z, ti75_t, ti75_z, ti76_t, ti76_z, ti49_t, ti49_z, ti200_t, ti200_z, ti197_t, ti197_z]); rfl) : RelT P w0 N nt gS q2 s2 a w := h1 ▸ h ▸ H
theorem ct_RootsR {c : Prop} (h : c := by ((try simp only [pk, elemB, St.put, St.ev, St.tmp, St.keep, find, dropT, slots, AV.put, AV.loc, fitI, convI, IntKind.signed, IntKind.bits, strip, St.lose, mergeL, setAll, nth, renB, ren, idx?, sub, allP, low, bnd, Int.reduceEq, Nat.reduceAdd, Nat.reduceLT, reduceIte, reduceCtorEq, Nat.reduceEqDiff, Nat.reduceLeDiff, Nat.reduceBEq, Int.reducePow, Int.reduceToNat, ti22_t, ti22_z, ti5_t, ti5_z, ti51_t, ti51_z, ti50_t, ti50_z, ti75_t, ti75_z, ti76_t, ti76_z, ti49_t, ti49_z, ti200_t, ti200_z, ti197_t, ti197_z, ti22, ti5, ti51, ti50, ti75, ti76, ti49, ti200, ti197, fit, gcond, ilo, ihi]); first | done | exact cd | exact cd2 | skip)) : c := h
def enA (x : En) : AV := .st [.ba x.1, .ba x.2]
def ens (l : List En) : List AV := l.map enA
abbrev enT : Ty := .cn (.ba 32) (.cn (.ba 32) .nl)
theorem ens_len (l : List En) : (ens l).length = l.length := by simp [ens]
theorem ens_get (l : List En) (k : Nat) (hk : k < l.length) : (ens l).getD k .any = .st [.ba (l[k]).1, .ba (l[k]).2] := by simp [ens, enA, List.getD, hk]
theorem ens_app (l : List En) (x : En) : ens (l ++ [x]) = ens l ++ [.st [.ba x.1, .ba x.2]] := by simp [ens, enA]
theorem half_yes (b : Bool) (d : Nat) (l : List En) (k : Nat) (hk : k < l.length) (h : bitN l[k].1 d = b) : half b d (l.take (k + 1)) = half b d (l.take k) ++ [l[k]] := by
  unfold half; rw [List.take_succ_eq_append_getElem hk, List.filter_append]; congr 1; simp [List.filter_cons, h]
theorem half_no (b : Bool) (d : Nat) (l : List En) (k : Nat) (hk : k < l.length) (h : bitN l[k].1 d = !b) : half b d (l.take (k + 1)) = half b d (l.take k) := by
  unfold half; rw [List.take_succ_eq_append_getElem hk, List.filter_append]; simp [List.filter_cons, h]
set_option maxRecDepth 20000 in
theorem atR_small (f d : Nat) (l : List En) (hd : d ≤ 256) (hs : l.length < 2) (hw : Wd l) : VC Try.prog 112 [.sl enT (ens l) none, .v (.int .i64 (d : Int))] [] (.ba (rootA f d l)) := by
  rw [rootA_small f d l hs]
  match l, hs with
  | [], _ =>
    have hsl := sum_length [0]
    refine v_enter Try.func112 rfl (by kernel_rfl) (by show 2 ≤ 61; decide) ?_
    intro N w0 a w hN hR H
    simp only [ens, List.map_nil] at H
    repeat (first | refine wp_seq ?_ | refine wp_block ?_ | refine wp_skip ?_ | refine wp_exit ?_ | ((first | refine v_some 5 tab_ok hN H (by rfl) ct_RootsR ?_ | refine v_more tab_ok hN H (by rfl) (by rfl) ct_RootsR ?_); clear H; intro a w H; replace H := nf_RootsR H; (try simp only [List.drop_succ_cons, List.drop_zero, List.drop_nil]); try refine wpList_nil ?_) | refine wp_region_lit ?_)
    refine v_cond H (by rfl) (fun hb => ?_) (fun hb => ?_)
    · repeat (first | refine wp_seq ?_ | refine wp_block ?_ | refine wp_skip ?_ | refine wp_exit ?_ | ((first | refine v_some 5 tab_ok hN H (by rfl) ct_RootsR ?_ | refine v_more tab_ok hN H (by rfl) (by rfl) ct_RootsR ?_); clear H; intro a w H; replace H := nf_RootsR H; (try simp only [List.drop_succ_cons, List.drop_zero, List.drop_nil]); try refine wpList_nil ?_) | refine wp_region_lit ?_)
      refine v_call [] [] (emptyR_v) H rfl rfl (by rfl) cb cw ca ?_; clear H; intro a w H; replace H := nf_RootsR H; try refine wpList_nil ?_
      repeat (first | refine wp_seq ?_ | refine wp_block ?_ | refine wp_skip ?_ | refine wp_exit ?_ | ((first | refine v_some 5 tab_ok hN H (by rfl) ct_RootsR ?_ | refine v_more tab_ok hN H (by rfl) (by rfl) ct_RootsR ?_); clear H; intro a w H; replace H := nf_RootsR H; (try simp only [List.drop_succ_cons, List.drop_zero, List.drop_nil]); try refine wpList_nil ?_) | refine wp_region_lit ?_)
      refine wp_ret ?_
      exact v_end [] [] tab_ok ⟨hN, hR⟩ (rs := [.cell 4 51]) (ress := [_]) rfl H (by rfl) (by rfl) cb cw ca rfl
    · simp at hb
  | [x], _ =>
    obtain ⟨h1, h2⟩ := hw x List.mem_cons_self
    have hlf := leafHR_v x.1 x.2 h1 h2
    have hsl := leafH_len x.1 x.2
    refine v_enter Try.func112 rfl (by kernel_rfl) (by show 2 ≤ 61; decide) ?_
    intro N w0 a w hN hR H
    simp only [ens, enA, List.map_cons, List.map_nil] at H
    repeat (first | refine wp_seq ?_ | refine wp_block ?_ | refine wp_skip ?_ | refine wp_exit ?_ | ((first | refine v_some 5 tab_ok hN H (by rfl) ct_RootsR ?_ | refine v_more tab_ok hN H (by rfl) (by rfl) ct_RootsR ?_); clear H; intro a w H; replace H := nf_RootsR H; (try simp only [List.drop_succ_cons, List.drop_zero, List.drop_nil]); try refine wpList_nil ?_) | refine wp_region_lit ?_)
    refine v_cond H (by rfl) (fun hb => ?_) (fun hb => ?_)
    · simp at hb
    · repeat (first | refine wp_seq ?_ | refine wp_block ?_ | refine wp_skip ?_ | refine wp_exit ?_ | ((first | refine v_some 5 tab_ok hN H (by rfl) ct_RootsR ?_ | refine v_more tab_ok hN H (by rfl) (by rfl) ct_RootsR ?_); clear H; intro a w H; replace H := nf_RootsR H; (try simp only [List.drop_succ_cons, List.drop_zero, List.drop_nil]); try refine wpList_nil ?_) | refine wp_region_lit ?_)
      refine v_cond H (by rfl) (fun hb => ?_) (fun hb => ?_)
      · repeat (first | refine wp_seq ?_ | refine wp_block ?_ | refine wp_skip ?_ | refine wp_exit ?_ | ((first | refine v_some 5 tab_ok hN H (by rfl) ct_RootsR ?_ | refine v_more tab_ok hN H (by rfl) (by rfl) ct_RootsR ?_); clear H; intro a w H; replace H := nf_RootsR H; (try simp only [List.drop_succ_cons, List.drop_zero, List.drop_nil]); try refine wpList_nil ?_) | refine wp_region_lit ?_)
        repeat (first | refine wp_seq ?_ | refine wp_block ?_)
        refine v_draw 0 [8, 9] [] (by kernel_rfl) (by kernel_rfl) H (by rfl) (fun gS H => ?_); try replace H := nt_RootsR H
        repeat (refine v_someT 5 tab_ok hN H (by rfl) ct_RootsR ?_; clear H; intro a w H; replace H := nt_RootsR H; simp only [List.drop_succ_cons, List.drop_zero, List.drop_nil])
        refine v_moreT tab_ok hN H (by rfl) ct_RootsR ?_; clear H; intro a w H; try replace H := nt_RootsR H
        refine v_callT [] [] (hlf) H (by rfl) (by rfl) rfl rfl (by rfl) cb cw ca ?_; clear H; intro a w H; try replace H := nt_RootsR H
        repeat (refine v_someT 5 tab_ok hN H (by rfl) ct_RootsR ?_; clear H; intro a w H; replace H := nt_RootsR H; simp only [List.drop_succ_cons, List.drop_zero, List.drop_nil])
        refine v_moreT tab_ok hN H (by rfl) ct_RootsR ?_; clear H; intro a w H; try replace H := nt_RootsR H
        refine v_drawNil H (fun H => ?_)
        refine wp_ret ?_
        exact v_end [] [] tab_ok ⟨hN, hR⟩ (rs := [.cell 4 51]) (ress := [_]) rfl H (by rfl) (by rfl) cb cw ca rfl
      · simp at hb
set_option maxRecDepth 20000 in
set_option maxHeartbeats 1000000 in
theorem atR_v : ∀ (f d : Nat) (l : List En), f + d = 256 → Sep d l → Wd l → l.length ≤ 34359730000 →
    VC Try.prog 112 [.sl enT (ens l) none, .v (.int .i64 (d : Int))] [] (.ba (rootA f d l)) := by
  intro f
  induction f with
  | zero =>
    intro d l hd hr hw hl
    exact atR_small 0 d l (by omega) (hr.deep (by omega)) hw
  | succ f ih =>
    intro d l hd hr hw hl
    by_cases hs : l.length < 2
    · exact atR_small _ d l (by omega) hs hw
    · rw [rootA, if_neg hs]
      have hxl := ens_len l
      have hd9 : d < 256 := by omega
      have c1 := ih (d + 1) (half false d l) (by omega) (hr.side false) (hw.half false d) (Nat.le_trans (half_le _ _ _) hl)
      have c2 := ih (d + 1) (half true d l) (by omega) (hr.side true) (hw.half true d) (Nat.le_trans (half_le _ _ _) hl)
      have r1 := rootA_len f (d + 1) (half false d l)
      have r2 := rootA_len f (d + 1) (half true d l)
      generalize rootA f (d + 1) (half false d l) = a1 at *
      generalize rootA f (d + 1) (half true d l) = a2 at *
      have hin := innerHR_v a1 a2 r1 r2
      have hsl := innerH_len a1 a2
      clear ih hr
      refine v_enter Try.func112 rfl (by kernel_rfl) (by show 2 ≤ 61; decide) ?_
      intro N w0 a w hN hR H
      repeat (first | refine wp_seq ?_ | refine wp_block ?_ | refine wp_skip ?_ | refine wp_exit ?_ | ((first | refine v_some 5 tab_ok hN H (by rfl) (by (try simp only [hxl]); first | done | exact ct_RootsR) ?_ | refine v_more tab_ok hN H (by rfl) (by rfl) (by (try simp only [hxl]); first | done | exact ct_RootsR) ?_); clear H; intro a w H; replace H := nf_RootsR H; first | (simp only [hxl] at H; replace H := nf_RootsR H) | skip; (try simp only [List.drop_succ_cons, List.drop_zero, List.drop_nil]); try refine wpList_nil ?_) | refine wp_region_lit ?_)
      refine v_cond H (by rfl) (fun hb => ?_) (fun hb => ?_)
      · exfalso; rw [decide_eq_true_eq] at hb; omega
      · repeat (first | refine wp_seq ?_ | refine wp_block ?_ | refine wp_skip ?_ | refine wp_exit ?_ | ((first | refine v_some 5 tab_ok hN H (by rfl) (by (try simp only [hxl]); first | done | exact ct_RootsR) ?_ | refine v_more tab_ok hN H (by rfl) (by rfl) (by (try simp only [hxl]); first | done | exact ct_RootsR) ?_); clear H; intro a w H; replace H := nf_RootsR H; first | (simp only [hxl] at H; replace H := nf_RootsR H) | skip; (try simp only [List.drop_succ_cons, List.drop_zero, List.drop_nil]); try refine wpList_nil ?_) | refine wp_region_lit ?_)
        refine v_cond H (by rfl) (fun hb => ?_) (fun hb => ?_)
        · exfalso; rw [decide_eq_true_eq] at hb; omega
        · repeat (first | refine wp_seq ?_ | refine wp_block ?_ | refine wp_skip ?_ | refine wp_exit ?_ | ((first | refine v_some 5 tab_ok hN H (by rfl) (by (try simp only [hxl]); first | done | exact ct_RootsR) ?_ | refine v_more tab_ok hN H (by rfl) (by rfl) (by (try simp only [hxl]); first | done | exact ct_RootsR) ?_); clear H; intro a w H; replace H := nf_RootsR H; first | (simp only [hxl] at H; replace H := nf_RootsR H) | skip; (try simp only [List.drop_succ_cons, List.drop_zero, List.drop_nil]); try refine wpList_nil ?_) | refine wp_region_lit ?_)
          have H := v_nilE tab_ok H 5 200 (j := ti200) enT rfl (by decide) (by rfl)
          have H := v_nilE tab_ok H 6 200 (j := ti200) enT rfl (by decide) (by rfl)
          refine v_loop (fun k : Nat => ⟨[(7, none, .v (.int .i64 (k : Int))), (6, none, .sl enT (ens (half true d (l.take k))) (some 1)), (5, none, .sl enT (ens (half false d (l.take k))) (some 0)), (4, none, .ptr 0 []), (0, none, .sl enT (ens l) none), (1, none, .v (.int .i64 (d : Int)))], [(.ba 32, .ba z32)], [], [(200, (half false d (l.take k)).length), (200, (half true d (l.take k)).length)]⟩) (fun k => k ≤ l.length) (fun k => l.length - k) 0 (Nat.zero_le _) (H.to 1 2 ⟨Nat.le_trans hN (by decide), Nat.le_trans hR (by decide)⟩ ⟨rfl, rfl, rfl, rfl, rfl, rfl, trivial⟩ rfl rfl rfl rfl rfl) ?_
          clear H
          intro k a w hk H
          have hh1 : (half false d (l.take k)).length ≤ l.length := Nat.le_trans (half_le _ _ _) (List.length_take_le' _ _)
          have hh2 : (half true d (l.take k)).length ≤ l.length := Nat.le_trans (half_le _ _ _) (List.length_take_le' _ _)
          have hx1 := ens_len (half false d (l.take k))
          have hx2 := ens_len (half true d (l.take k))
          repeat (first | refine wp_seq ?_ | refine wp_block ?_ | refine wp_skip ?_ | refine wp_exit ?_ | ((first | refine v_some 5 tab_ok hN H (by rfl) (by (try simp only [hxl]); first | done | exact ct_RootsR) ?_ | refine v_more tab_ok hN H (by rfl) (by rfl) (by (try simp only [hxl]); first | done | exact ct_RootsR) ?_); clear H; intro a w H; replace H := nf_RootsR H; first | (simp only [hxl] at H; replace H := nf_RootsR H) | skip; (try simp only [List.drop_succ_cons, List.drop_zero, List.drop_nil]); try refine wpList_nil ?_) | refine wp_region_lit ?_)
          refine v_cond H (by rfl) (fun hb => ?_) (fun hb => ?_)
          · have hlt : k < l.length := by rw [decide_eq_true_eq] at hb; omega
            have g1 := ens_get l k hlt
            obtain ⟨w1, w2⟩ := hw _ (List.getElem_mem hlt)
            have hbit := bitR_v l[k].1 w1 (d : Int)
            repeat (first | refine wp_seq ?_ | refine wp_block ?_ | refine wp_skip ?_ | refine wp_exit ?_)
            (try refine wp_region_lit ?_); refine v_steps 3 tab_ok hN H (by rfl) (by (try simp only [hxl, hx1, hx2, g1, w1, w2]); first | done | exact ct_RootsR) ?_; clear H; intro a w H; replace H := nf_RootsR H; first | (simp only [hxl, hx1, hx2, g1] at H; replace H := nf_RootsR H) | skip
            repeat (first | refine wp_seq ?_ | refine wp_block ?_ | refine wp_skip ?_ | refine wp_exit ?_ | ((first | refine v_some 5 tab_ok hN H (by rfl) (by (try simp only [hxl, hx1, hx2, g1, w1, w2]); first | done | exact ct_RootsR) ?_ | refine v_more tab_ok hN H (by rfl) (by rfl) (by (try simp only [hxl, hx1, hx2, g1, w1, w2]); first | done | exact ct_RootsR) ?_); clear H; intro a w H; replace H := nf_RootsR H; first | (simp only [hxl, hx1, hx2, g1] at H; replace H := nf_RootsR H) | skip; (try simp only [List.drop_succ_cons, List.drop_zero, List.drop_nil]); try refine wpList_nil ?_) | refine wp_region_lit ?_)
            refine v_call [] [] (hbit) H rfl rfl (by rfl) (by simp [pickB, bxs, ren, idx?, sub_refl, sub, allP, hxl, hx1, hx2, g1] <;> omega) (by first | rfl | (simp [hxl, hx1, hx2, g1] <;> omega)) (by first | exact trivial | exact ⟨sub_refl _ _, trivial⟩ | exact ⟨sub_refl _ _, sub_refl _ _, trivial⟩ | exact ⟨sub_refl _ _, sub_refl _ _, sub_refl _ _, trivial⟩ | exact ⟨⟨rfl, sub_refl _ _, trivial⟩, sub_refl _ _, trivial⟩ | (simp [cargs, cargsG, St.ev, St.tmp, find, ren, idx?, sub_refl, sub, allP, resv, resC, bss, hxl, hx1, hx2, g1] <;> omega)) ?_; clear H; intro a w H; replace H := nf_RootsR H; first | (simp only [hxl, hx1, hx2, g1] at H; replace H := nf_RootsR H) | skip; try refine wpList_nil ?_
            repeat (first | refine wp_seq ?_ | refine wp_block ?_ | refine wp_skip ?_ | refine wp_exit ?_ | ((first | refine v_some 5 tab_ok hN H (by rfl) (by (try simp only [hxl, hx1, hx2, g1, w1, w2]); first | done | exact ct_RootsR) ?_ | refine v_more tab_ok hN H (by rfl) (by rfl) (by (try simp only [hxl, hx1, hx2, g1, w1, w2]); first | done | exact ct_RootsR) ?_); clear H; intro a w H; replace H := nf_RootsR H; first | (simp only [hxl, hx1, hx2, g1] at H; replace H := nf_RootsR H) | skip; (try simp only [List.drop_succ_cons, List.drop_zero, List.drop_nil]); try refine wpList_nil ?_) | refine wp_region_lit ?_)
            simp only [pbit_zero _ _ hd9] at H
            refine v_cond H (by rfl) (fun hb => ?_) (fun hb => ?_)
            · have hbf : bitN l[k].1 d = false := by cases h : bitN l[k].1 d; rfl; rw [h] at hb; simp at hb
              have q1 := half_yes false d l k hlt hbf
              have q2 := half_no true d l k hlt hbf
              repeat (first | refine wp_seq ?_ | refine wp_block ?_ | refine wp_skip ?_ | refine wp_exit ?_)
              (try refine wp_region_lit ?_); refine v_steps 4 tab_ok hN H (by rfl) (by (try simp only [hxl, hx1, hx2, g1, w1, w2]); first | done | exact ct_RootsR) ?_; clear H; intro a w H; replace H := nf_RootsR H; first | (simp only [hxl, hx1, hx2, g1] at H; replace H := nf_RootsR H) | skip
              repeat (first | refine wp_seq ?_ | refine wp_block ?_ | refine wp_skip ?_ | refine wp_exit ?_ | ((first | refine v_some 5 tab_ok hN H (by rfl) (by (try simp only [hxl, hx1, hx2, g1, w1, w2]); first | done | exact ct_RootsR) ?_ | refine v_more tab_ok hN H (by rfl) (by rfl) (by (try simp only [hxl, hx1, hx2, g1, w1, w2]); first | done | exact ct_RootsR) ?_); clear H; intro a w H; replace H := nf_RootsR H; first | (simp only [hxl, hx1, hx2, g1] at H; replace H := nf_RootsR H) | skip; (try simp only [List.drop_succ_cons, List.drop_zero, List.drop_nil]); try refine wpList_nil ?_) | refine wp_region_lit ?_)
              exact ⟨k + 1, hlt, by omega, H.to 1 2 ⟨Nat.le_trans hN (by decide), Nat.le_trans hR (by decide)⟩ ⟨rfl, by rw [q2]; rfl, by rw [q1, ens_app]; rfl, rfl, rfl, rfl, trivial⟩ rfl (by rw [q1, q2, List.length_append]; rfl) rfl rfl rfl⟩
            · have hbt : bitN l[k].1 d = true := by cases h : bitN l[k].1 d; (rw [h] at hb; simp at hb); rfl
              have q1 := half_no false d l k hlt hbt
              have q2 := half_yes true d l k hlt hbt
              repeat (first | refine wp_seq ?_ | refine wp_block ?_ | refine wp_skip ?_ | refine wp_exit ?_)
              (try refine wp_region_lit ?_); refine v_steps 4 tab_ok hN H (by rfl) (by (try simp only [hxl, hx1, hx2, g1, w1, w2]); first | done | exact ct_RootsR) ?_; clear H; intro a w H; replace H := nf_RootsR H; first | (simp only [hxl, hx1, hx2, g1] at H; replace H := nf_RootsR H) | skip
              repeat (first | refine wp_seq ?_ | refine wp_block ?_ | refine wp_skip ?_ | refine wp_exit ?_ | ((first | refine v_some 5 tab_ok hN H (by rfl) (by (try simp only [hxl, hx1, hx2, g1, w1, w2]); first | done | exact ct_RootsR) ?_ | refine v_more tab_ok hN H (by rfl) (by rfl) (by (try simp only [hxl, hx1, hx2, g1, w1, w2]); first | done | exact ct_RootsR) ?_); clear H; intro a w H; replace H := nf_RootsR H; first | (simp only [hxl, hx1, hx2, g1] at H; replace H := nf_RootsR H) | skip; (try simp only [List.drop_succ_cons, List.drop_zero, List.drop_nil]); try refine wpList_nil ?_) | refine wp_region_lit ?_)
              exact ⟨k + 1, hlt, by omega, H.to 1 2 ⟨Nat.le_trans hN (by decide), Nat.le_trans hR (by decide)⟩ ⟨rfl, by rw [q2, ens_app]; rfl, by rw [q1]; rfl, rfl, rfl, rfl, trivial⟩ rfl (by rw [q1, q2, List.length_append]; rfl) rfl rfl rfl⟩
          · have hge : k = l.length := by rw [decide_eq_false_iff_not] at hb; omega
            subst hge
            rw [List.take_length] at H
            repeat (first | refine wp_seq ?_ | refine wp_block ?_ | refine wp_skip ?_ | refine wp_exit ?_ | ((first | refine v_some 5 tab_ok hN H (by rfl) ct_RootsR ?_ | refine v_more tab_ok hN H (by rfl) (by rfl) ct_RootsR ?_); clear H; intro a w H; replace H := nf_RootsR H; (try simp only [List.drop_succ_cons, List.drop_zero, List.drop_nil]); try refine wpList_nil ?_) | refine wp_region_lit ?_)
            refine v_call [] [] (c1) H rfl rfl (by rfl) cb cw ca ?_; clear H; intro a w H; replace H := nf_RootsR H; try refine wpList_nil ?_
            repeat (first | refine wp_seq ?_ | refine wp_block ?_ | refine wp_skip ?_ | refine wp_exit ?_ | ((first | refine v_some 5 tab_ok hN H (by rfl) ct_RootsR ?_ | refine v_more tab_ok hN H (by rfl) (by rfl) ct_RootsR ?_); clear H; intro a w H; replace H := nf_RootsR H; (try simp only [List.drop_succ_cons, List.drop_zero, List.drop_nil]); try refine wpList_nil ?_) | refine wp_region_lit ?_)
            refine v_call [] [] (c2) H rfl rfl (by rfl) cb cw ca ?_; clear H; intro a w H; replace H := nf_RootsR H; try refine wpList_nil ?_
            repeat (first | refine wp_seq ?_ | refine wp_block ?_ | refine wp_skip ?_ | refine wp_exit ?_ | ((first | refine v_some 5 tab_ok hN H (by rfl) ct_RootsR ?_ | refine v_more tab_ok hN H (by rfl) (by rfl) ct_RootsR ?_); clear H; intro a w H; replace H := nf_RootsR H; (try simp only [List.drop_succ_cons, List.drop_zero, List.drop_nil]); try refine wpList_nil ?_) | refine wp_region_lit ?_)
            refine v_call [] [] (hin) H rfl rfl (by rfl) cb cw ca ?_; clear H; intro a w H; replace H := nf_RootsR H; try refine wpList_nil ?_
            repeat (first | refine wp_seq ?_ | refine wp_block ?_ | refine wp_skip ?_ | refine wp_exit ?_ | ((first | refine v_some 5 tab_ok hN H (by rfl) ct_RootsR ?_ | refine v_more tab_ok hN H (by rfl) (by rfl) ct_RootsR ?_); clear H; intro a w H; replace H := nf_RootsR H; (try simp only [List.drop_succ_cons, List.drop_zero, List.drop_nil]); try refine wpList_nil ?_) | refine wp_region_lit ?_)
            refine wp_ret ?_
            exact v_end [] [] tab_ok ⟨hN, hR⟩ (rs := [.cell 4 51]) (ress := [_]) rfl H (by rfl) (by rfl) cb cw ca rfl
end Go.Proofs.Ytpeefeioccglcaa
