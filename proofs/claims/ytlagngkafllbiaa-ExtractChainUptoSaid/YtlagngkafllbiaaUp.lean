/- The digest at the top of a way: node.Up, and the document's. -/
import Derived.Test.YtlagngkafllbiaaWay
import Derived.Test.YtlagngkafllbiaaWayR
import Derived.Test.YtlagngkafllbiaaLeafR
import Derived.Test.YtlagngkafllbiaaPack3
import Derived.Test.YtlagngkafllbiaaRef52
set_option linter.unusedSimpArgs false
set_option linter.unusedVariables false
namespace Go.Proofs.Ytlagngkafllbiaa
open Go Go.RowKit
/-- The state made plain. -/
theorem nf_Up {P : Program} {w0 w : World} {N : Gh} {nt : Nat} {st s2 : St} {a : Act} (H : Rel P w0 N nt st a w) (h : st = s2 := by (try simp only [pk, elemB, St.put, St.ev, St.tmp, St.keep, find, dropT, slots, AV.put, AV.loc, fitI, convI, IntKind.signed, IntKind.bits, strip, St.lose, mergeL, setAll, nth, renB, ren, idx?, sub, allP, low, bnd, Int.reduceEq, Nat.reduceAdd, Nat.reduceLT, reduceIte, reduceCtorEq, Nat.reduceEqDiff, Nat.reduceLeDiff, Nat.reduceBEq, Int.reducePow, Int.reduceToNat, ti24_t, ti24_z, ti5_t, ti5_z, ti30_t, ti30_z, ti23_t, ti23_z, ti62_t, ti62_z, ti64_t, ti64_z, ti41_t, ti41_z, ti22_t, ti22_z]); rfl) : Rel P w0 N nt s2 a w := h ▸ H
theorem nt_Up {P : Program} {w0 w : World} {N gS : Gh} {nt : Nat} {q q2 st s2 : St} {a : Act} (H : RelT P w0 N nt gS q st a w) (h1 : q = q2 := by (try simp only [pk, elemB, St.put, St.ev, St.tmp, St.keep, find, dropT, slots, AV.put, AV.loc, fitI, convI, IntKind.signed, IntKind.bits, strip, St.lose, mergeL, setAll, nth, renB, ren, idx?, sub, allP, low, bnd, Int.reduceEq, Nat.reduceAdd, Nat.reduceLT, reduceIte, reduceCtorEq, Nat.reduceEqDiff, Nat.reduceLeDiff, Nat.reduceBEq, Int.reducePow, Int.reduceToNat, ti24_t, ti24_z, ti5_t, ti5_z, ti30_t, ti30_z, ti23_t, ti23_z, ti62_t, ti62_z, ti64_t, ti64_z, ti41_t, ti41_z, ti22_t, ti22_z]); rfl) (h : st = s2 := by (try simp only [pk, elemB, St.put, St.ev, St.tmp, St.keep, find, dropT, slots, AV.put, AV.loc, fitI, convI, IntKind.signed, IntKind.bits, strip, St.lose, mergeL, setAll, nth, renB, ren, idx?, sub, allP, low, bnd, Int.reduceEq, Nat.reduceAdd, Nat.reduceLT, reduceIte, reduceCtorEq, Nat.reduceEqDiff, Nat.reduceLeDiff, Nat.reduceBEq, Int.reducePow, Int.reduceToNat, ti24_t, ti24_z, ti5_t, ti5_z, ti30_t, ti30_z, ti23_t, ti23_z, ti62_t, ti62_z, ti64_t, ti64_z, ti41_t, ti41_z, ti22_t, ti22_z]); rfl) : RelT P w0 N nt gS q2 s2 a w := h1 ▸ h ▸ H
theorem ct_Up {c : Prop} (h : c := by ((try simp only [pk, elemB, St.put, St.ev, St.tmp, St.keep, find, dropT, slots, AV.put, AV.loc, fitI, convI, IntKind.signed, IntKind.bits, strip, St.lose, mergeL, setAll, nth, renB, ren, idx?, sub, allP, low, bnd, Int.reduceEq, Nat.reduceAdd, Nat.reduceLT, reduceIte, reduceCtorEq, Nat.reduceEqDiff, Nat.reduceLeDiff, Nat.reduceBEq, Int.reducePow, Int.reduceToNat, ti24_t, ti24_z, ti5_t, ti5_z, ti30_t, ti30_z, ti23_t, ti23_z, ti62_t, ti62_z, ti64_t, ti64_z, ti41_t, ti41_z, ti22_t, ti22_z, ti24, ti5, ti30, ti23, ti62, ti64, ti41, ti22, fit, gcond, ilo, ihi]); first | done | exact cd | exact cd2 | skip)) : c := h
/-- One step up. -/
def stepH (key : List UInt8) (d : Nat) (x h : List UInt8) : List UInt8 := if bitN key d then innerH x h else innerH h x
/-- From the sides from the depth d on. -/
def upL (key : List UInt8) : Nat → List (List UInt8) → List UInt8 → List UInt8
  | _, [], h => h
  | d, x :: r, h => stepH key d x (upL key (d + 1) r h)
theorem stepH_len (key : List UInt8) (d : Nat) (x h : List UInt8) : (stepH key d x h).length = 32 := by unfold stepH; split <;> exact innerH_len _ _
theorem upL_len (key : List UInt8) (h : List UInt8) (hh : h.length = 32) : ∀ d s, (upL key d s h).length = 32
  | _, [] => hh
  | _, _ :: _ => stepH_len _ _ _ _
theorem upL_drop (key : List UInt8) (s : List (List UInt8)) (h : List UInt8) (k : Nat) (hk : k < s.length) : upL key k (s.drop k) h = stepH key k (s.getD k []) (upL key (k + 1) (s.drop (k + 1)) h) := by
  rw [List.drop_eq_getElem_cons hk, List.getElem_eq_getD []]; rfl
def topH (key : List UInt8) (p : Pf) : List UInt8 := upL key 0 p.s (sum p.e.text)
theorem topH_len (key : List UInt8) (p : Pf) : (topH key p).length = 32 := upL_len _ _ (sum_length _) _ _
theorem chk_all {p : Pf} (h : p.chk = 0) : p.s.length ≤ 256 ∧ p.e.ok ∧ p.e.k ≠ 2 := by
  unfold Pf.chk at h
  split at h
  · cases h
  · split at h
    · rename_i h1 h2; exact ⟨by omega, h2⟩
    · cases h
set_option maxRecDepth 20000 in
set_option maxHeartbeats 1000000 in
theorem up_v (key : List UInt8) (hk32 : key.length = 32) (p : Pf) (hw : p.wf) (h : p.chk = 0) : VC Try.prog 55 [.ba key, p.av] [] (.tup [.ba (topH key p), errv 0]) := by
  obtain ⟨hle, hok, hk2⟩ := chk_all h
  obtain ⟨s, n⟩ := p
  dsimp only at hle hok hk2
  have hs := hw.s
  have hsl := bas_len s
  have hdg := digest_ok n hw.e hok
  obtain ⟨h1, h2, h3, h4⟩ := id hw.e
  dsimp only at h1 h2 h3 h4 hs
  have hz2 := z32_len
  have hd2 : decide ((n.k.toNat : Int) = 2) = false := decide_eq_false fun e => hk2 (UInt8.toNat_inj.1 (by simp; omega))
  unfold topH
  obtain ⟨h0, hh0⟩ : ∃ h0, h0 = sum n.text := ⟨_, rfl⟩
  have h0l : h0.length = 32 := by rw [hh0]; exact sum_length _
  rw [← hh0] at hdg
  dsimp only
  rw [← hh0]
  clear hh0 hok hk2 h hw
  refine v_enter Try.func55 rfl (by kernel_rfl) (by show 2 ≤ 56; decide) ?_
  intro N w0 a w hN hR H
  simp only [Pf.av, Nd.av] at H hdg
  repeat (first | refine wp_seq ?_ | refine wp_block ?_ | refine wp_skip ?_ | refine wp_exit ?_ | ((first | refine v_some 5 tab_ok hN H (by rfl) (by (try simp only [hsl]); first | done | exact ct_Up) ?_ | refine v_more tab_ok hN H (by rfl) (by rfl) (by (try simp only [hsl]); first | done | exact ct_Up) ?_); clear H; intro a w H; replace H := nf_Up H; first | (simp only [hsl] at H; replace H := nf_Up H) | skip; (try simp only [List.drop_succ_cons, List.drop_zero, List.drop_nil]); try refine wpList_nil ?_) | refine wp_region_lit ?_)
  refine v_cond H (by rfl) (fun hb => ?_) (fun hb => ?_)
  · exfalso; rw [decide_eq_true_eq] at hb; omega
  · repeat (first | refine wp_seq ?_ | refine wp_block ?_ | refine wp_skip ?_ | refine wp_exit ?_ | ((first | refine v_some 5 tab_ok hN H (by rfl) (by (try simp only [hsl]); first | done | exact ct_Up) ?_ | refine v_more tab_ok hN H (by rfl) (by rfl) (by (try simp only [hsl]); first | done | exact ct_Up) ?_); clear H; intro a w H; replace H := nf_Up H; first | (simp only [hsl] at H; replace H := nf_Up H) | skip; (try simp only [List.drop_succ_cons, List.drop_zero, List.drop_nil]); try refine wpList_nil ?_) | refine wp_region_lit ?_)
    refine v_call [] [] (hdg) H rfl rfl (by rfl) (by simp [pickB, bxs, ren, idx?, sub_refl, sub, allP, hsl] <;> omega) (by first | rfl | (simp [hsl] <;> omega)) (by first | exact trivial | exact ⟨sub_refl _ _, trivial⟩ | exact ⟨sub_refl _ _, sub_refl _ _, trivial⟩ | exact ⟨sub_refl _ _, sub_refl _ _, sub_refl _ _, trivial⟩ | exact ⟨⟨rfl, sub_refl _ _, trivial⟩, sub_refl _ _, trivial⟩ | (simp [cargs, cargsG, St.ev, St.tmp, find, ren, idx?, sub_refl, sub, allP, resv, resC, bss, hsl] <;> omega)) ?_; clear H; intro a w H; replace H := nf_Up H; first | (simp only [hsl] at H; replace H := nf_Up H) | skip; try refine wpList_nil ?_
    repeat (first | refine wp_seq ?_ | refine wp_block ?_ | refine wp_skip ?_ | refine wp_exit ?_ | ((first | refine v_some 5 tab_ok hN H (by rfl) (by (try simp only [hsl]); first | done | exact ct_Up) ?_ | refine v_more tab_ok hN H (by rfl) (by rfl) (by (try simp only [hsl]); first | done | exact ct_Up) ?_); clear H; intro a w H; replace H := nf_Up H; first | (simp only [hsl] at H; replace H := nf_Up H) | skip; (try simp only [List.drop_succ_cons, List.drop_zero, List.drop_nil]); try refine wpList_nil ?_) | refine wp_region_lit ?_)
    refine v_cond H (by rfl) (fun hb => ?_) (fun hb => ?_)
    · exfalso; simp only [hd2] at hb; simp at hb
    · clear hb
      repeat (first | refine wp_seq ?_ | refine wp_block ?_ | refine wp_skip ?_ | refine wp_exit ?_ | ((first | refine v_some 5 tab_ok hN H (by rfl) (by (try simp only [hsl]); first | done | exact ct_Up) ?_ | refine v_more tab_ok hN H (by rfl) (by rfl) (by (try simp only [hsl]); first | done | exact ct_Up) ?_); clear H; intro a w H; replace H := nf_Up H; first | (simp only [hsl] at H; replace H := nf_Up H) | skip; (try simp only [List.drop_succ_cons, List.drop_zero, List.drop_nil]); try refine wpList_nil ?_) | refine wp_region_lit ?_)
      refine v_loop (fun k : Nat => ⟨[(8, none, .v (.int .i64 ((k : Int) - 1))), (6, none, .ptr 3 []), (5, none, .v (.int .i64 0)), (4, none, .ptr 2 []), (3, none, .ptr 1 []), (2, none, .ptr 0 [])],
        [(.ba 32, .ba key), (ti64.ty, .st [.sl (.ba 32) (bas s) none, .st [.v (B8 n.k), .ba n.key, .ba n.v, .ba n.l, .ba n.r]]), (.ba 32, .ba z32), (.ba 32, .ba (upL key k (s.drop k) h0))], [], []⟩)
        (fun k => k ≤ s.length) (fun k => k) s.length (Nat.le_refl _) (H.to 4 0 ⟨Nat.le_trans hN (by decide), hR⟩ ⟨rfl, rfl, rfl, rfl, rfl, rfl, trivial⟩ (by rw [List.drop_length]; rfl) rfl rfl rfl rfl) ?_
      clear H
      intro k a w hk H
      have hul := upL_len key h0 h0l k (s.drop k)
      repeat (first | refine wp_seq ?_ | refine wp_block ?_ | refine wp_skip ?_ | refine wp_exit ?_ | ((first | refine v_some 5 tab_ok hN H (by rfl) (by (try simp only [hsl]); first | done | exact ct_Up) ?_ | refine v_more tab_ok hN H (by rfl) (by rfl) (by (try simp only [hsl]); first | done | exact ct_Up) ?_); clear H; intro a w H; replace H := nf_Up H; first | (simp only [hsl] at H; replace H := nf_Up H) | skip; (try simp only [List.drop_succ_cons, List.drop_zero, List.drop_nil]); try refine wpList_nil ?_) | refine wp_region_lit ?_)
      refine v_cond H (by rfl) (fun hb => ?_) (fun hb => ?_)
      · obtain ⟨j, rfl⟩ : ∃ j, k = j + 1 := ⟨k - 1, by rw [decide_eq_true_eq] at hb; omega⟩
        clear hb
        have hj : j < s.length := hk
        have e1 : (((j + 1 : Nat) : Int) - 1) = (j : Int) := by omega
        rw [e1] at H
        have hbit := bit_v key hk32 (j : Int)
        have hj256 : j < 256 := by omega
        have hpb : decide (pbit key (j : Int) = 0) = !bitN key j := by
          rw [pbit, if_pos (by omega), Int.toNat_natCast]; cases bitN key j <;> rfl
        have hup := upL_drop key s h0 j hj
        have hg := bas_get s j hj
        rw [List.getElem_eq_getD []] at hg
        have hx : (s.getD j []).length = 32 := by rw [← List.getElem_eq_getD (h := hj) []]; exact hs _ (List.getElem_mem _)
        generalize s.getD j [] = x at *
        generalize upL key (j + 1) (s.drop (j + 1)) h0 = u at *
        have hin1 := inner_v u x hul hx
        have hin2 := inner_v x u hx hul
        have hil1 := innerH_len u x
        have hil2 := innerH_len x u
        repeat (first | refine wp_seq ?_ | refine wp_block ?_ | refine wp_skip ?_ | refine wp_exit ?_ | ((first | refine v_some 5 tab_ok hN H (by rfl) (by (try simp only [hsl]); first | done | exact ct_Up) ?_ | refine v_more tab_ok hN H (by rfl) (by rfl) (by (try simp only [hsl]); first | done | exact ct_Up) ?_); clear H; intro a w H; replace H := nf_Up H; first | (simp only [hsl] at H; replace H := nf_Up H) | skip; (try simp only [List.drop_succ_cons, List.drop_zero, List.drop_nil]); try refine wpList_nil ?_) | refine wp_region_lit ?_)
        refine v_call [] [] (hbit) H rfl rfl (by rfl) (by simp [pickB, bxs, ren, idx?, sub_refl, sub, allP, hsl] <;> omega) (by first | rfl | (simp [hsl] <;> omega)) (by first | exact trivial | exact ⟨sub_refl _ _, trivial⟩ | exact ⟨sub_refl _ _, sub_refl _ _, trivial⟩ | exact ⟨sub_refl _ _, sub_refl _ _, sub_refl _ _, trivial⟩ | exact ⟨⟨rfl, sub_refl _ _, trivial⟩, sub_refl _ _, trivial⟩ | (simp [cargs, cargsG, St.ev, St.tmp, find, ren, idx?, sub_refl, sub, allP, resv, resC, bss, hsl] <;> omega)) ?_; clear H; intro a w H; replace H := nf_Up H; first | (simp only [hsl] at H; replace H := nf_Up H) | skip; try refine wpList_nil ?_
        repeat (first | refine wp_seq ?_ | refine wp_block ?_ | refine wp_skip ?_ | refine wp_exit ?_ | ((first | refine v_some 5 tab_ok hN H (by rfl) (by (try simp only [hsl]); first | done | exact ct_Up) ?_ | refine v_more tab_ok hN H (by rfl) (by rfl) (by (try simp only [hsl]); first | done | exact ct_Up) ?_); clear H; intro a w H; replace H := nf_Up H; first | (simp only [hsl] at H; replace H := nf_Up H) | skip; (try simp only [List.drop_succ_cons, List.drop_zero, List.drop_nil]); try refine wpList_nil ?_) | refine wp_region_lit ?_)
        simp only [hpb] at H
        refine v_cond H (by rfl) (fun hb => ?_) (fun hb => ?_)
        · have hbf : bitN key j = false := by cases h : bitN key j; rfl; rw [h] at hb; simp at hb
          have hst : stepH key j x u = innerH u x := by unfold stepH; rw [hbf]; rfl
          rw [hst] at hup
          clear hb
          repeat (first | refine wp_seq ?_ | refine wp_block ?_ | refine wp_skip ?_ | refine wp_exit ?_ | ((first | refine v_some 5 tab_ok hN H (by rfl) (by (try simp only [hsl]); first | done | exact ct_Up) ?_ | refine v_more tab_ok hN H (by rfl) (by rfl) (by (try simp only [hsl]); first | done | exact ct_Up) ?_); clear H; intro a w H; replace H := nf_Up H; first | (simp only [hsl] at H; replace H := nf_Up H) | skip; (try simp only [List.drop_succ_cons, List.drop_zero, List.drop_nil]); try refine wpList_nil ?_) | refine wp_region_lit ?_)
          repeat (first | refine wp_seq ?_ | refine wp_block ?_)
          refine v_draw 0 [6, 7] [] (by kernel_rfl) (by kernel_rfl) H (by rfl) (fun gS H => ?_); try replace H := nt_Up H; first | (simp only [hsl, hg] at H; replace H := nt_Up H) | skip
          refine v_someT 3 tab_ok hN H (by rfl) (by (try simp only [hsl, hg, hsl, hx]); first | done | exact ct_Up) ?_; clear H; intro a w H; replace H := nt_Up H; first | (simp only [hsl, hg] at H; replace H := nt_Up H) | skip; simp only [List.drop_succ_cons, List.drop_zero, List.drop_nil]
          refine v_someT 2 tab_ok hN H (by rfl) (by (try simp only [hsl, hg, hsl, hx]); first | done | exact ct_Up) ?_; clear H; intro a w H; replace H := nt_Up H; first | (simp only [hsl, hg] at H; replace H := nt_Up H) | skip; simp only [List.drop_succ_cons, List.drop_zero, List.drop_nil]
          refine v_someT 1 tab_ok hN H (by rfl) (by (try simp only [hsl, hg, hsl, hx]); first | done | exact ct_Up) ?_; clear H; intro a w H; replace H := nt_Up H; first | (simp only [hsl, hg] at H; replace H := nt_Up H) | skip; simp only [List.drop_succ_cons, List.drop_zero, List.drop_nil]
          refine v_callT [] [] (hin1) H (by rfl) (by rfl) rfl rfl (by rfl) (by simp [pickB, bxs, ren, idx?, sub_refl, sub, allP, hsl, hg] <;> omega) (by first | rfl | (simp [hsl, hg] <;> omega)) (by first | exact trivial | exact ⟨sub_refl _ _, trivial⟩ | exact ⟨sub_refl _ _, sub_refl _ _, trivial⟩ | exact ⟨sub_refl _ _, sub_refl _ _, sub_refl _ _, trivial⟩ | exact ⟨⟨rfl, sub_refl _ _, trivial⟩, sub_refl _ _, trivial⟩ | (simp [cargs, cargsG, St.ev, St.tmp, find, ren, idx?, sub_refl, sub, allP, resv, resC, bss, hsl, hg] <;> omega)) ?_; clear H; intro a w H; try replace H := nt_Up H; first | (simp only [hsl, hg] at H; replace H := nt_Up H) | skip
          repeat (refine v_someT 5 tab_ok hN H (by rfl) (by (try simp only [hsl, hg, hsl, hx]); first | done | exact ct_Up) ?_; clear H; intro a w H; replace H := nt_Up H; first | (simp only [hsl, hg] at H; replace H := nt_Up H) | skip; simp only [List.drop_succ_cons, List.drop_zero, List.drop_nil])
          refine v_moreT tab_ok hN H (by rfl) (by (try simp only [hsl, hg, hsl, hx]); first | done | exact ct_Up) ?_; clear H; intro a w H; try replace H := nt_Up H; first | (simp only [hsl, hg] at H; replace H := nt_Up H) | skip
          refine v_drawNil H (fun H => ?_)
          repeat (first | refine wp_seq ?_ | refine wp_block ?_ | refine wp_skip ?_ | refine wp_exit ?_ | ((first | refine v_some 5 tab_ok hN H (by rfl) (by (try simp only [hsl]); first | done | exact ct_Up) ?_ | refine v_more tab_ok hN H (by rfl) (by rfl) (by (try simp only [hsl]); first | done | exact ct_Up) ?_); clear H; intro a w H; replace H := nf_Up H; first | (simp only [hsl] at H; replace H := nf_Up H) | skip; (try simp only [List.drop_succ_cons, List.drop_zero, List.drop_nil]); try refine wpList_nil ?_) | refine wp_region_lit ?_)
          exact ⟨j, by omega, by omega, H.to 4 0 ⟨Nat.le_trans hN (by decide), hR⟩ ⟨rfl, rfl, rfl, rfl, rfl, rfl, trivial⟩ (by dsimp only; rw [hup]; rfl) rfl rfl rfl rfl⟩
        · have hbt : bitN key j = true := by cases h : bitN key j; (rw [h] at hb; simp at hb); rfl
          have hst : stepH key j x u = innerH x u := by unfold stepH; rw [hbt]; rfl
          rw [hst] at hup
          clear hb
          repeat (first | refine wp_seq ?_ | refine wp_block ?_ | refine wp_skip ?_ | refine wp_exit ?_ | ((first | refine v_some 5 tab_ok hN H (by rfl) (by (try simp only [hsl]); first | done | exact ct_Up) ?_ | refine v_more tab_ok hN H (by rfl) (by rfl) (by (try simp only [hsl]); first | done | exact ct_Up) ?_); clear H; intro a w H; replace H := nf_Up H; first | (simp only [hsl] at H; replace H := nf_Up H) | skip; (try simp only [List.drop_succ_cons, List.drop_zero, List.drop_nil]); try refine wpList_nil ?_) | refine wp_region_lit ?_)
          repeat (first | refine wp_seq ?_ | refine wp_block ?_)
          refine v_draw 0 [6, 7] [] (by kernel_rfl) (by kernel_rfl) H (by rfl) (fun gS H => ?_); try replace H := nt_Up H; first | (simp only [hsl, hg] at H; replace H := nt_Up H) | skip
          refine v_someT 2 tab_ok hN H (by rfl) (by (try simp only [hsl, hg, hsl, hx]); first | done | exact ct_Up) ?_; clear H; intro a w H; replace H := nt_Up H; first | (simp only [hsl, hg] at H; replace H := nt_Up H) | skip; simp only [List.drop_succ_cons, List.drop_zero, List.drop_nil]
          refine v_someT 2 tab_ok hN H (by rfl) (by (try simp only [hsl, hg, hsl, hx]); first | done | exact ct_Up) ?_; clear H; intro a w H; replace H := nt_Up H; first | (simp only [hsl, hg] at H; replace H := nt_Up H) | skip; simp only [List.drop_succ_cons, List.drop_zero, List.drop_nil]
          refine v_someT 2 tab_ok hN H (by rfl) (by (try simp only [hsl, hg, hsl, hx]); first | done | exact ct_Up) ?_; clear H; intro a w H; replace H := nt_Up H; first | (simp only [hsl, hg] at H; replace H := nt_Up H) | skip; simp only [List.drop_succ_cons, List.drop_zero, List.drop_nil]
          refine v_callT [] [] (hin2) H (by rfl) (by rfl) rfl rfl (by rfl) (by simp [pickB, bxs, ren, idx?, sub_refl, sub, allP, hsl, hg] <;> omega) (by first | rfl | (simp [hsl, hg] <;> omega)) (by first | exact trivial | exact ⟨sub_refl _ _, trivial⟩ | exact ⟨sub_refl _ _, sub_refl _ _, trivial⟩ | exact ⟨sub_refl _ _, sub_refl _ _, sub_refl _ _, trivial⟩ | exact ⟨⟨rfl, sub_refl _ _, trivial⟩, sub_refl _ _, trivial⟩ | (simp [cargs, cargsG, St.ev, St.tmp, find, ren, idx?, sub_refl, sub, allP, resv, resC, bss, hsl, hg] <;> omega)) ?_; clear H; intro a w H; try replace H := nt_Up H; first | (simp only [hsl, hg] at H; replace H := nt_Up H) | skip
          repeat (refine v_someT 5 tab_ok hN H (by rfl) (by (try simp only [hsl, hg, hsl, hx]); first | done | exact ct_Up) ?_; clear H; intro a w H; replace H := nt_Up H; first | (simp only [hsl, hg] at H; replace H := nt_Up H) | skip; simp only [List.drop_succ_cons, List.drop_zero, List.drop_nil])
          refine v_moreT tab_ok hN H (by rfl) (by (try simp only [hsl, hg, hsl, hx]); first | done | exact ct_Up) ?_; clear H; intro a w H; try replace H := nt_Up H; first | (simp only [hsl, hg] at H; replace H := nt_Up H) | skip
          refine v_drawNil H (fun H => ?_)
          repeat (first | refine wp_seq ?_ | refine wp_block ?_ | refine wp_skip ?_ | refine wp_exit ?_ | ((first | refine v_some 5 tab_ok hN H (by rfl) (by (try simp only [hsl]); first | done | exact ct_Up) ?_ | refine v_more tab_ok hN H (by rfl) (by rfl) (by (try simp only [hsl]); first | done | exact ct_Up) ?_); clear H; intro a w H; replace H := nf_Up H; first | (simp only [hsl] at H; replace H := nf_Up H) | skip; (try simp only [List.drop_succ_cons, List.drop_zero, List.drop_nil]); try refine wpList_nil ?_) | refine wp_region_lit ?_)
          exact ⟨j, by omega, by omega, H.to 4 0 ⟨Nat.le_trans hN (by decide), hR⟩ ⟨rfl, rfl, rfl, rfl, rfl, rfl, trivial⟩ (by dsimp only; rw [hup]; rfl) rfl rfl rfl rfl⟩
      · have hge : k = 0 := by rw [decide_eq_false_iff_not] at hb; omega
        subst hge
        rw [List.drop_zero] at H hul
        repeat (first | refine wp_seq ?_ | refine wp_block ?_ | refine wp_skip ?_ | refine wp_exit ?_ | ((first | refine v_some 5 tab_ok hN H (by rfl) (by (try simp only [hsl]); first | done | exact ct_Up) ?_ | refine v_more tab_ok hN H (by rfl) (by rfl) (by (try simp only [hsl]); first | done | exact ct_Up) ?_); clear H; intro a w H; replace H := nf_Up H; first | (simp only [hsl] at H; replace H := nf_Up H) | skip; (try simp only [List.drop_succ_cons, List.drop_zero, List.drop_nil]); try refine wpList_nil ?_) | refine wp_region_lit ?_)
        refine wp_ret ?_
        exact v_end [] [] tab_ok ⟨hN, hR⟩ (rs := [.cell 4 30, .tmp 5]) (ress := [_, _]) rfl H (by rfl) (by rfl) (by simp [pickB, bxs, ren, idx?, sub_refl, sub, allP, hsl] <;> omega) (by first | rfl | (simp [hsl] <;> omega)) (by first | exact trivial | exact ⟨sub_refl _ _, trivial⟩ | exact ⟨sub_refl _ _, sub_refl _ _, trivial⟩ | exact ⟨sub_refl _ _, sub_refl _ _, sub_refl _ _, trivial⟩ | exact ⟨⟨rfl, sub_refl _ _, trivial⟩, sub_refl _ _, trivial⟩ | (simp [cargs, cargsG, St.ev, St.tmp, find, ren, idx?, sub_refl, sub, allP, resv, resC, bss, hsl] <;> omega)) rfl
set_option maxRecDepth 20000 in
set_option maxHeartbeats 1000000 in
theorem upR_v (key : List UInt8) (hk32 : key.length = 32) (p : Pf) (hw : p.wf) (h : p.chk = 0) : VC Try.prog 37 [.ba key, p.av] [] (.tup [.ba (topH key p), errv 0]) := by
  obtain ⟨hle, hok, hk2⟩ := chk_all h
  obtain ⟨s, n⟩ := p
  dsimp only at hle hok hk2
  have hs := hw.s
  have hsl := bas_len s
  have hdg := digestR_ok n hw.e hok
  have hck := checkR_v n hw.e
  rw [if_pos hok] at hck
  obtain ⟨h1, h2, h3, h4⟩ := id hw.e
  dsimp only at h1 h2 h3 h4 hs
  have hz2 := z32_len
  have hd2 : decide ((n.k.toNat : Int) = 2) = false := decide_eq_false fun e => hk2 (UInt8.toNat_inj.1 (by simp; omega))
  unfold topH
  obtain ⟨h0, hh0⟩ : ∃ h0, h0 = sum n.text := ⟨_, rfl⟩
  have h0l : h0.length = 32 := by rw [hh0]; exact sum_length _
  rw [← hh0] at hdg
  dsimp only
  rw [← hh0]
  clear hh0 hok hk2 h hw
  refine v_enter Try.func37 rfl (by kernel_rfl) (by show 2 ≤ 58; decide) ?_
  intro N w0 a w hN hR H
  simp only [Pf.av, Nd.av] at H hdg hck
  repeat (first | refine wp_seq ?_ | refine wp_block ?_ | refine wp_skip ?_ | refine wp_exit ?_ | ((first | refine v_some 5 tab_ok hN H (by rfl) (by (try simp only [hsl]); first | done | exact ct_Up) ?_ | refine v_more tab_ok hN H (by rfl) (by rfl) (by (try simp only [hsl]); first | done | exact ct_Up) ?_); clear H; intro a w H; replace H := nf_Up H; first | (simp only [hsl] at H; replace H := nf_Up H) | skip; (try simp only [List.drop_succ_cons, List.drop_zero, List.drop_nil]); try refine wpList_nil ?_) | refine wp_region_lit ?_)
  refine v_cond H (by rfl) (fun hb => ?_) (fun hb => ?_)
  · exfalso; rw [decide_eq_true_eq] at hb; omega
  · repeat (first | refine wp_seq ?_ | refine wp_block ?_ | refine wp_skip ?_ | refine wp_exit ?_ | ((first | refine v_some 5 tab_ok hN H (by rfl) (by (try simp only [hsl]); first | done | exact ct_Up) ?_ | refine v_more tab_ok hN H (by rfl) (by rfl) (by (try simp only [hsl]); first | done | exact ct_Up) ?_); clear H; intro a w H; replace H := nf_Up H; first | (simp only [hsl] at H; replace H := nf_Up H) | skip; (try simp only [List.drop_succ_cons, List.drop_zero, List.drop_nil]); try refine wpList_nil ?_) | refine wp_region_lit ?_)
    refine v_call [] [] (hck) H rfl rfl (by rfl) (by simp [pickB, bxs, ren, idx?, sub_refl, sub, allP, hsl] <;> omega) (by first | rfl | (simp [hsl] <;> omega)) (by first | exact trivial | exact ⟨sub_refl _ _, trivial⟩ | exact ⟨sub_refl _ _, sub_refl _ _, trivial⟩ | exact ⟨sub_refl _ _, sub_refl _ _, sub_refl _ _, trivial⟩ | exact ⟨⟨rfl, sub_refl _ _, trivial⟩, sub_refl _ _, trivial⟩ | (simp [cargs, cargsG, St.ev, St.tmp, find, ren, idx?, sub_refl, sub, allP, resv, resC, bss, hsl] <;> omega)) ?_; clear H; intro a w H; replace H := nf_Up H; first | (simp only [hsl] at H; replace H := nf_Up H) | skip; try refine wpList_nil ?_
    repeat (first | refine wp_seq ?_ | refine wp_block ?_ | refine wp_skip ?_ | refine wp_exit ?_ | ((first | refine v_some 5 tab_ok hN H (by rfl) (by (try simp only [hsl]); first | done | exact ct_Up) ?_ | refine v_more tab_ok hN H (by rfl) (by rfl) (by (try simp only [hsl]); first | done | exact ct_Up) ?_); clear H; intro a w H; replace H := nf_Up H; first | (simp only [hsl] at H; replace H := nf_Up H) | skip; (try simp only [List.drop_succ_cons, List.drop_zero, List.drop_nil]); try refine wpList_nil ?_) | refine wp_region_lit ?_)
    refine v_cond H (by rfl) (fun hb => ?_) (fun hb => ?_)
    · exfalso; simp only [hd2] at hb; simp at hb
    · clear hb
      repeat (first | refine wp_seq ?_ | refine wp_block ?_ | refine wp_skip ?_ | refine wp_exit ?_ | ((first | refine v_some 5 tab_ok hN H (by rfl) (by (try simp only [hsl]); first | done | exact ct_Up) ?_ | refine v_more tab_ok hN H (by rfl) (by rfl) (by (try simp only [hsl]); first | done | exact ct_Up) ?_); clear H; intro a w H; replace H := nf_Up H; first | (simp only [hsl] at H; replace H := nf_Up H) | skip; (try simp only [List.drop_succ_cons, List.drop_zero, List.drop_nil]); try refine wpList_nil ?_) | refine wp_region_lit ?_)
      refine v_call [] [] (hdg) H rfl rfl (by rfl) (by simp [pickB, bxs, ren, idx?, sub_refl, sub, allP, hsl] <;> omega) (by first | rfl | (simp [hsl] <;> omega)) (by first | exact trivial | exact ⟨sub_refl _ _, trivial⟩ | exact ⟨sub_refl _ _, sub_refl _ _, trivial⟩ | exact ⟨sub_refl _ _, sub_refl _ _, sub_refl _ _, trivial⟩ | exact ⟨⟨rfl, sub_refl _ _, trivial⟩, sub_refl _ _, trivial⟩ | (simp [cargs, cargsG, St.ev, St.tmp, find, ren, idx?, sub_refl, sub, allP, resv, resC, bss, hsl] <;> omega)) ?_; clear H; intro a w H; replace H := nf_Up H; first | (simp only [hsl] at H; replace H := nf_Up H) | skip; try refine wpList_nil ?_
      repeat (first | refine wp_seq ?_ | refine wp_block ?_ | refine wp_skip ?_ | refine wp_exit ?_ | ((first | refine v_some 5 tab_ok hN H (by rfl) (by (try simp only [hsl]); first | done | exact ct_Up) ?_ | refine v_more tab_ok hN H (by rfl) (by rfl) (by (try simp only [hsl]); first | done | exact ct_Up) ?_); clear H; intro a w H; replace H := nf_Up H; first | (simp only [hsl] at H; replace H := nf_Up H) | skip; (try simp only [List.drop_succ_cons, List.drop_zero, List.drop_nil]); try refine wpList_nil ?_) | refine wp_region_lit ?_)
      refine v_loop (fun k : Nat => ⟨[(8, none, .v (.int .i64 ((k : Int) - 1))), (6, none, .ptr 3 []), (5, none, .v (.int .i64 0)), (4, none, .ptr 2 []), (3, none, .ptr 1 []), (2, none, .ptr 0 [])],
        [(.ba 32, .ba key), (ti64.ty, .st [.sl (.ba 32) (bas s) none, .st [.v (B8 n.k), .ba n.key, .ba n.v, .ba n.l, .ba n.r]]), (.ba 32, .ba z32), (.ba 32, .ba (upL key k (s.drop k) h0))], [], []⟩)
        (fun k => k ≤ s.length) (fun k => k) s.length (Nat.le_refl _) (H.to 4 0 ⟨Nat.le_trans hN (by decide), hR⟩ ⟨rfl, rfl, rfl, rfl, rfl, rfl, trivial⟩ (by rw [List.drop_length]; rfl) rfl rfl rfl rfl) ?_
      clear H
      intro k a w hk H
      have hul := upL_len key h0 h0l k (s.drop k)
      repeat (first | refine wp_seq ?_ | refine wp_block ?_ | refine wp_skip ?_ | refine wp_exit ?_ | ((first | refine v_some 5 tab_ok hN H (by rfl) (by (try simp only [hsl]); first | done | exact ct_Up) ?_ | refine v_more tab_ok hN H (by rfl) (by rfl) (by (try simp only [hsl]); first | done | exact ct_Up) ?_); clear H; intro a w H; replace H := nf_Up H; first | (simp only [hsl] at H; replace H := nf_Up H) | skip; (try simp only [List.drop_succ_cons, List.drop_zero, List.drop_nil]); try refine wpList_nil ?_) | refine wp_region_lit ?_)
      refine v_cond H (by rfl) (fun hb => ?_) (fun hb => ?_)
      · obtain ⟨j, rfl⟩ : ∃ j, k = j + 1 := ⟨k - 1, by rw [decide_eq_true_eq] at hb; omega⟩
        clear hb
        have hj : j < s.length := hk
        have e1 : (((j + 1 : Nat) : Int) - 1) = (j : Int) := by omega
        rw [e1] at H
        have hbit := bitR_v key hk32 (j : Int)
        have hj256 : j < 256 := by omega
        have hpb : decide (pbit key (j : Int) = 0) = !bitN key j := by
          rw [pbit, if_pos (by omega), Int.toNat_natCast]; cases bitN key j <;> rfl
        have hup := upL_drop key s h0 j hj
        have hg := bas_get s j hj
        rw [List.getElem_eq_getD []] at hg
        have hx : (s.getD j []).length = 32 := by rw [← List.getElem_eq_getD (h := hj) []]; exact hs _ (List.getElem_mem _)
        generalize s.getD j [] = x at *
        generalize upL key (j + 1) (s.drop (j + 1)) h0 = u at *
        have hin1 := innerHR_v u x hul hx
        have hin2 := innerHR_v x u hx hul
        have hil1 := innerH_len u x
        have hil2 := innerH_len x u
        repeat (first | refine wp_seq ?_ | refine wp_block ?_ | refine wp_skip ?_ | refine wp_exit ?_ | ((first | refine v_some 5 tab_ok hN H (by rfl) (by (try simp only [hsl]); first | done | exact ct_Up) ?_ | refine v_more tab_ok hN H (by rfl) (by rfl) (by (try simp only [hsl]); first | done | exact ct_Up) ?_); clear H; intro a w H; replace H := nf_Up H; first | (simp only [hsl] at H; replace H := nf_Up H) | skip; (try simp only [List.drop_succ_cons, List.drop_zero, List.drop_nil]); try refine wpList_nil ?_) | refine wp_region_lit ?_)
        refine v_call [] [] (hbit) H rfl rfl (by rfl) (by simp [pickB, bxs, ren, idx?, sub_refl, sub, allP, hsl] <;> omega) (by first | rfl | (simp [hsl] <;> omega)) (by first | exact trivial | exact ⟨sub_refl _ _, trivial⟩ | exact ⟨sub_refl _ _, sub_refl _ _, trivial⟩ | exact ⟨sub_refl _ _, sub_refl _ _, sub_refl _ _, trivial⟩ | exact ⟨⟨rfl, sub_refl _ _, trivial⟩, sub_refl _ _, trivial⟩ | (simp [cargs, cargsG, St.ev, St.tmp, find, ren, idx?, sub_refl, sub, allP, resv, resC, bss, hsl] <;> omega)) ?_; clear H; intro a w H; replace H := nf_Up H; first | (simp only [hsl] at H; replace H := nf_Up H) | skip; try refine wpList_nil ?_
        repeat (first | refine wp_seq ?_ | refine wp_block ?_ | refine wp_skip ?_ | refine wp_exit ?_ | ((first | refine v_some 5 tab_ok hN H (by rfl) (by (try simp only [hsl]); first | done | exact ct_Up) ?_ | refine v_more tab_ok hN H (by rfl) (by rfl) (by (try simp only [hsl]); first | done | exact ct_Up) ?_); clear H; intro a w H; replace H := nf_Up H; first | (simp only [hsl] at H; replace H := nf_Up H) | skip; (try simp only [List.drop_succ_cons, List.drop_zero, List.drop_nil]); try refine wpList_nil ?_) | refine wp_region_lit ?_)
        simp only [hpb] at H
        refine v_cond H (by rfl) (fun hb => ?_) (fun hb => ?_)
        · have hbf : bitN key j = false := by cases h : bitN key j; rfl; rw [h] at hb; simp at hb
          have hst : stepH key j x u = innerH u x := by unfold stepH; rw [hbf]; rfl
          rw [hst] at hup
          clear hb
          repeat (first | refine wp_seq ?_ | refine wp_block ?_ | refine wp_skip ?_ | refine wp_exit ?_ | ((first | refine v_some 5 tab_ok hN H (by rfl) (by (try simp only [hsl]); first | done | exact ct_Up) ?_ | refine v_more tab_ok hN H (by rfl) (by rfl) (by (try simp only [hsl]); first | done | exact ct_Up) ?_); clear H; intro a w H; replace H := nf_Up H; first | (simp only [hsl] at H; replace H := nf_Up H) | skip; (try simp only [List.drop_succ_cons, List.drop_zero, List.drop_nil]); try refine wpList_nil ?_) | refine wp_region_lit ?_)
          repeat (first | refine wp_seq ?_ | refine wp_block ?_)
          refine v_draw 0 [6, 7] [] (by kernel_rfl) (by kernel_rfl) H (by rfl) (fun gS H => ?_); try replace H := nt_Up H; first | (simp only [hsl, hg] at H; replace H := nt_Up H) | skip
          refine v_someT 3 tab_ok hN H (by rfl) (by (try simp only [hsl, hg, hsl, hx]); first | done | exact ct_Up) ?_; clear H; intro a w H; replace H := nt_Up H; first | (simp only [hsl, hg] at H; replace H := nt_Up H) | skip; simp only [List.drop_succ_cons, List.drop_zero, List.drop_nil]
          refine v_someT 2 tab_ok hN H (by rfl) (by (try simp only [hsl, hg, hsl, hx]); first | done | exact ct_Up) ?_; clear H; intro a w H; replace H := nt_Up H; first | (simp only [hsl, hg] at H; replace H := nt_Up H) | skip; simp only [List.drop_succ_cons, List.drop_zero, List.drop_nil]
          refine v_someT 1 tab_ok hN H (by rfl) (by (try simp only [hsl, hg, hsl, hx]); first | done | exact ct_Up) ?_; clear H; intro a w H; replace H := nt_Up H; first | (simp only [hsl, hg] at H; replace H := nt_Up H) | skip; simp only [List.drop_succ_cons, List.drop_zero, List.drop_nil]
          refine v_callT [] [] (hin1) H (by rfl) (by rfl) rfl rfl (by rfl) (by simp [pickB, bxs, ren, idx?, sub_refl, sub, allP, hsl, hg] <;> omega) (by first | rfl | (simp [hsl, hg] <;> omega)) (by first | exact trivial | exact ⟨sub_refl _ _, trivial⟩ | exact ⟨sub_refl _ _, sub_refl _ _, trivial⟩ | exact ⟨sub_refl _ _, sub_refl _ _, sub_refl _ _, trivial⟩ | exact ⟨⟨rfl, sub_refl _ _, trivial⟩, sub_refl _ _, trivial⟩ | (simp [cargs, cargsG, St.ev, St.tmp, find, ren, idx?, sub_refl, sub, allP, resv, resC, bss, hsl, hg] <;> omega)) ?_; clear H; intro a w H; try replace H := nt_Up H; first | (simp only [hsl, hg] at H; replace H := nt_Up H) | skip
          repeat (refine v_someT 5 tab_ok hN H (by rfl) (by (try simp only [hsl, hg, hsl, hx]); first | done | exact ct_Up) ?_; clear H; intro a w H; replace H := nt_Up H; first | (simp only [hsl, hg] at H; replace H := nt_Up H) | skip; simp only [List.drop_succ_cons, List.drop_zero, List.drop_nil])
          refine v_moreT tab_ok hN H (by rfl) (by (try simp only [hsl, hg, hsl, hx]); first | done | exact ct_Up) ?_; clear H; intro a w H; try replace H := nt_Up H; first | (simp only [hsl, hg] at H; replace H := nt_Up H) | skip
          refine v_drawNil H (fun H => ?_)
          repeat (first | refine wp_seq ?_ | refine wp_block ?_ | refine wp_skip ?_ | refine wp_exit ?_ | ((first | refine v_some 5 tab_ok hN H (by rfl) (by (try simp only [hsl]); first | done | exact ct_Up) ?_ | refine v_more tab_ok hN H (by rfl) (by rfl) (by (try simp only [hsl]); first | done | exact ct_Up) ?_); clear H; intro a w H; replace H := nf_Up H; first | (simp only [hsl] at H; replace H := nf_Up H) | skip; (try simp only [List.drop_succ_cons, List.drop_zero, List.drop_nil]); try refine wpList_nil ?_) | refine wp_region_lit ?_)
          exact ⟨j, by omega, by omega, H.to 4 0 ⟨Nat.le_trans hN (by decide), hR⟩ ⟨rfl, rfl, rfl, rfl, rfl, rfl, trivial⟩ (by dsimp only; rw [hup]; rfl) rfl rfl rfl rfl⟩
        · have hbt : bitN key j = true := by cases h : bitN key j; (rw [h] at hb; simp at hb); rfl
          have hst : stepH key j x u = innerH x u := by unfold stepH; rw [hbt]; rfl
          rw [hst] at hup
          clear hb
          repeat (first | refine wp_seq ?_ | refine wp_block ?_ | refine wp_skip ?_ | refine wp_exit ?_ | ((first | refine v_some 5 tab_ok hN H (by rfl) (by (try simp only [hsl]); first | done | exact ct_Up) ?_ | refine v_more tab_ok hN H (by rfl) (by rfl) (by (try simp only [hsl]); first | done | exact ct_Up) ?_); clear H; intro a w H; replace H := nf_Up H; first | (simp only [hsl] at H; replace H := nf_Up H) | skip; (try simp only [List.drop_succ_cons, List.drop_zero, List.drop_nil]); try refine wpList_nil ?_) | refine wp_region_lit ?_)
          repeat (first | refine wp_seq ?_ | refine wp_block ?_)
          refine v_draw 0 [6, 7] [] (by kernel_rfl) (by kernel_rfl) H (by rfl) (fun gS H => ?_); try replace H := nt_Up H; first | (simp only [hsl, hg] at H; replace H := nt_Up H) | skip
          refine v_someT 2 tab_ok hN H (by rfl) (by (try simp only [hsl, hg, hsl, hx]); first | done | exact ct_Up) ?_; clear H; intro a w H; replace H := nt_Up H; first | (simp only [hsl, hg] at H; replace H := nt_Up H) | skip; simp only [List.drop_succ_cons, List.drop_zero, List.drop_nil]
          refine v_someT 2 tab_ok hN H (by rfl) (by (try simp only [hsl, hg, hsl, hx]); first | done | exact ct_Up) ?_; clear H; intro a w H; replace H := nt_Up H; first | (simp only [hsl, hg] at H; replace H := nt_Up H) | skip; simp only [List.drop_succ_cons, List.drop_zero, List.drop_nil]
          refine v_someT 2 tab_ok hN H (by rfl) (by (try simp only [hsl, hg, hsl, hx]); first | done | exact ct_Up) ?_; clear H; intro a w H; replace H := nt_Up H; first | (simp only [hsl, hg] at H; replace H := nt_Up H) | skip; simp only [List.drop_succ_cons, List.drop_zero, List.drop_nil]
          refine v_callT [] [] (hin2) H (by rfl) (by rfl) rfl rfl (by rfl) (by simp [pickB, bxs, ren, idx?, sub_refl, sub, allP, hsl, hg] <;> omega) (by first | rfl | (simp [hsl, hg] <;> omega)) (by first | exact trivial | exact ⟨sub_refl _ _, trivial⟩ | exact ⟨sub_refl _ _, sub_refl _ _, trivial⟩ | exact ⟨sub_refl _ _, sub_refl _ _, sub_refl _ _, trivial⟩ | exact ⟨⟨rfl, sub_refl _ _, trivial⟩, sub_refl _ _, trivial⟩ | (simp [cargs, cargsG, St.ev, St.tmp, find, ren, idx?, sub_refl, sub, allP, resv, resC, bss, hsl, hg] <;> omega)) ?_; clear H; intro a w H; try replace H := nt_Up H; first | (simp only [hsl, hg] at H; replace H := nt_Up H) | skip
          repeat (refine v_someT 5 tab_ok hN H (by rfl) (by (try simp only [hsl, hg, hsl, hx]); first | done | exact ct_Up) ?_; clear H; intro a w H; replace H := nt_Up H; first | (simp only [hsl, hg] at H; replace H := nt_Up H) | skip; simp only [List.drop_succ_cons, List.drop_zero, List.drop_nil])
          refine v_moreT tab_ok hN H (by rfl) (by (try simp only [hsl, hg, hsl, hx]); first | done | exact ct_Up) ?_; clear H; intro a w H; try replace H := nt_Up H; first | (simp only [hsl, hg] at H; replace H := nt_Up H) | skip
          refine v_drawNil H (fun H => ?_)
          repeat (first | refine wp_seq ?_ | refine wp_block ?_ | refine wp_skip ?_ | refine wp_exit ?_ | ((first | refine v_some 5 tab_ok hN H (by rfl) (by (try simp only [hsl]); first | done | exact ct_Up) ?_ | refine v_more tab_ok hN H (by rfl) (by rfl) (by (try simp only [hsl]); first | done | exact ct_Up) ?_); clear H; intro a w H; replace H := nf_Up H; first | (simp only [hsl] at H; replace H := nf_Up H) | skip; (try simp only [List.drop_succ_cons, List.drop_zero, List.drop_nil]); try refine wpList_nil ?_) | refine wp_region_lit ?_)
          exact ⟨j, by omega, by omega, H.to 4 0 ⟨Nat.le_trans hN (by decide), hR⟩ ⟨rfl, rfl, rfl, rfl, rfl, rfl, trivial⟩ (by dsimp only; rw [hup]; rfl) rfl rfl rfl rfl⟩
      · have hge : k = 0 := by rw [decide_eq_false_iff_not] at hb; omega
        subst hge
        rw [List.drop_zero] at H hul
        repeat (first | refine wp_seq ?_ | refine wp_block ?_ | refine wp_skip ?_ | refine wp_exit ?_ | ((first | refine v_some 5 tab_ok hN H (by rfl) (by (try simp only [hsl]); first | done | exact ct_Up) ?_ | refine v_more tab_ok hN H (by rfl) (by rfl) (by (try simp only [hsl]); first | done | exact ct_Up) ?_); clear H; intro a w H; replace H := nf_Up H; first | (simp only [hsl] at H; replace H := nf_Up H) | skip; (try simp only [List.drop_succ_cons, List.drop_zero, List.drop_nil]); try refine wpList_nil ?_) | refine wp_region_lit ?_)
        refine wp_ret ?_
        exact v_end [] [] tab_ok ⟨hN, hR⟩ (rs := [.cell 4 30, .tmp 5]) (ress := [_, _]) rfl H (by rfl) (by rfl) (by simp [pickB, bxs, ren, idx?, sub_refl, sub, allP, hsl] <;> omega) (by first | rfl | (simp [hsl] <;> omega)) (by first | exact trivial | exact ⟨sub_refl _ _, trivial⟩ | exact ⟨sub_refl _ _, sub_refl _ _, trivial⟩ | exact ⟨sub_refl _ _, sub_refl _ _, sub_refl _ _, trivial⟩ | exact ⟨⟨rfl, sub_refl _ _, trivial⟩, sub_refl _ _, trivial⟩ | (simp [cargs, cargsG, St.ev, St.tmp, find, ren, idx?, sub_refl, sub, allP, resv, resC, bss, hsl] <;> omega)) rfl
end Go.Proofs.Ytlagngkafllbiaa
