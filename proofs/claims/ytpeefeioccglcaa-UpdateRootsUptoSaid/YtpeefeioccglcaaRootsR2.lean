/- Roots of entries, or the error: the document's. -/
import Derived.Test.YtpeefeioccglcaaRootsR
set_option linter.unusedSimpArgs false
set_option linter.unusedVariables false
namespace Go.Proofs.Ytpeefeioccglcaa
open Go Go.RowKit
/-- The state made plain. -/
theorem nf_RootsR2 {P : Program} {w0 w : World} {N : Gh} {nt : Nat} {st s2 : St} {a : Act} (H : Rel P w0 N nt st a w) (h : st = s2 := by (try simp only [pk, elemB, St.put, St.ev, St.tmp, St.keep, find, dropT, slots, AV.put, AV.loc, fitI, convI, IntKind.signed, IntKind.bits, strip, St.lose, mergeL, setAll, nth, renB, ren, idx?, sub, allP, low, bnd, Int.reduceEq, Nat.reduceAdd, Nat.reduceLT, reduceIte, reduceCtorEq, Nat.reduceEqDiff, Nat.reduceLeDiff, Nat.reduceBEq, Int.reducePow, Int.reduceToNat, ti22_t, ti22_z, ti5_t, ti5_z, ti51_t, ti51_z, ti50_t, ti50_z, ti75_t, ti75_z, ti76_t, ti76_z, ti49_t, ti49_z, ti200_t, ti200_z, ti197_t, ti197_z]); rfl) : Rel P w0 N nt s2 a w := h ▸ H
theorem nt_RootsR2 {P : Program} {w0 w : World} {N gS : Gh} {nt : Nat} {q q2 st s2 : St} {a : Act} (H : RelT P w0 N nt gS q st a w) (h1 : q = q2 := by (try simp only [pk, elemB, St.put, St.ev, St.tmp, St.keep, find, dropT, slots, AV.put, AV.loc, fitI, convI, IntKind.signed, IntKind.bits, strip, St.lose, mergeL, setAll, nth, renB, ren, idx?, sub, allP, low, bnd, Int.reduceEq, Nat.reduceAdd, Nat.reduceLT, reduceIte, reduceCtorEq, Nat.reduceEqDiff, Nat.reduceLeDiff, Nat.reduceBEq, Int.reducePow, Int.reduceToNat, ti22_t, ti22_z, ti5_t, ti5_z, ti51_t, ti51_z, ti50_t, ti50_z, ti75_t, ti75_z, ti76_t, ti76_z, ti49_t, ti49_z, ti200_t, ti200_z, ti197_t, ti197_z]); rfl) (h : st = s2 := by (try simp only [pk, elemB, St.put, St.ev, St.tmp, St.keep, find, dropT, slots, AV.put, AV.loc, fitI, convI, IntKind.signed, IntKind.bits, strip, St.lose, mergeL, setAll, nth, renB, ren, idx?, sub, allP, low, bnd, Int.reduceEq, Nat.reduceAdd, Nat.reduceLT, reduceIte, reduceCtorEq, Nat.reduceEqDiff, Nat.reduceLeDiff, Nat.reduceBEq, Int.reducePow, Int.reduceToNat, ti22_t, ti22_z, ti5_t, ti5_z, ti51_t, ti51_z, ti50_t, ti50_z, ti75_t, ti75_z, ti76_t, ti76_z, ti49_t, ti49_z, ti200_t, ti200_z, ti197_t, ti197_z]); rfl) : RelT P w0 N nt gS q2 s2 a w := h1 ▸ h ▸ H
theorem ct_RootsR2 {c : Prop} (h : c := by ((try simp only [pk, elemB, St.put, St.ev, St.tmp, St.keep, find, dropT, slots, AV.put, AV.loc, fitI, convI, IntKind.signed, IntKind.bits, strip, St.lose, mergeL, setAll, nth, renB, ren, idx?, sub, allP, low, bnd, Int.reduceEq, Nat.reduceAdd, Nat.reduceLT, reduceIte, reduceCtorEq, Nat.reduceEqDiff, Nat.reduceLeDiff, Nat.reduceBEq, Int.reducePow, Int.reduceToNat, ti22_t, ti22_z, ti5_t, ti5_z, ti51_t, ti51_z, ti50_t, ti50_z, ti75_t, ti75_z, ti76_t, ti76_z, ti49_t, ti49_z, ti200_t, ti200_z, ti197_t, ti197_z, ti22, ti5, ti51, ti50, ti75, ti76, ti49, ti200, ti197, fit, gcond, ilo, ihi]); first | done | exact cd | exact cd2 | skip)) : c := h
theorem chainA {d : Nat} {ks : List (List UInt8)} {k : Nat} (h : ∀ j, j + 1 < k → Next d ks j) : ∀ j, j < k → agree d (ks.getD 0 []) (ks.getD j [])
  | 0, _ => agree_refl _ _
  | j + 1, hj => (chainA h j (by omega)).trans (h j hj).1
set_option maxRecDepth 20000 in
set_option maxHeartbeats 1000000 in
theorem upRootR_v (ks vs : List (List UInt8)) (d : Int) (h1 : ∀ k ∈ ks, k.length = 32) (h2 : ∀ k ∈ vs, k.length = 32) (hl1 : ks.length ≤ 34359730000) (hl2 : vs.length ≤ 34359730000) (r : List UInt8) (e : Int) (hr : UpR ks vs d r e) :
    VC Try.prog 42 [.sl (.ba 32) (bas ks) none, .sl (.ba 32) (bas vs) none, .v (.int .i64 d)] [] (.tup [.ba r, .v (.int .i64 e)]) := by
  have hz2 := z32_len
  have hxl := bas_len ks
  have hyl := bas_len vs
  refine v_enter Try.func42 rfl (by kernel_rfl) (by show 3 ≤ 77; decide) ?_
  intro N w0 a w hN hR H
  repeat (first | refine wp_seq ?_ | refine wp_block ?_ | refine wp_skip ?_ | refine wp_exit ?_ | ((first | refine v_some 5 tab_ok hN H (by rfl) (by (try simp only [hxl, hyl]); first | done | exact ct_RootsR2) ?_ | refine v_more tab_ok hN H (by rfl) (by rfl) (by (try simp only [hxl, hyl]); first | done | exact ct_RootsR2) ?_); clear H; intro a w H; replace H := nf_RootsR2 H; first | (simp only [hxl, hyl] at H; replace H := nf_RootsR2 H) | skip; (try simp only [List.drop_succ_cons, List.drop_zero, List.drop_nil]); try refine wpList_nil ?_) | refine wp_region_lit ?_)
  refine v_cond H (by rfl) (fun hb => ?_) (fun hb => ?_)
  · obtain ⟨rfl, rfl⟩ := hr.long (by rw [decide_eq_true_eq] at hb; omega)
    repeat (first | refine wp_seq ?_ | refine wp_block ?_ | refine wp_skip ?_ | refine wp_exit ?_ | ((first | refine v_some 5 tab_ok hN H (by rfl) (by (try simp only [hxl, hyl]); first | done | exact ct_RootsR2) ?_ | refine v_more tab_ok hN H (by rfl) (by rfl) (by (try simp only [hxl, hyl]); first | done | exact ct_RootsR2) ?_); clear H; intro a w H; replace H := nf_RootsR2 H; first | (simp only [hxl, hyl] at H; replace H := nf_RootsR2 H) | skip; (try simp only [List.drop_succ_cons, List.drop_zero, List.drop_nil]); try refine wpList_nil ?_) | refine wp_region_lit ?_)
    try simp only [hz] at H
    refine wp_ret ?_
    exact v_end [] [] tab_ok ⟨hN, hR⟩ (rs := [.cell 6 51, .tmp 7]) (ress := [_, _]) rfl H (by rfl) (by rfl) (by simp [pickB, bxs, ren, idx?, sub_refl, sub, allP, hxl, hyl] <;> omega) (by first | rfl | (simp [hxl, hyl] <;> omega)) (by first | exact trivial | exact ⟨sub_refl _ _, trivial⟩ | exact ⟨sub_refl _ _, sub_refl _ _, trivial⟩ | exact ⟨sub_refl _ _, sub_refl _ _, sub_refl _ _, trivial⟩ | exact ⟨⟨rfl, sub_refl _ _, trivial⟩, sub_refl _ _, trivial⟩ | (simp [cargs, cargsG, St.ev, St.tmp, find, ren, idx?, sub_refl, sub, allP, resv, resC, bss, hxl, hyl] <;> omega)) rfl
  · have hs : ¬ 65 < ks.length := by rw [decide_eq_false_iff_not] at hb; omega
    repeat (first | refine wp_seq ?_ | refine wp_block ?_ | refine wp_skip ?_ | refine wp_exit ?_ | ((first | refine v_some 5 tab_ok hN H (by rfl) (by (try simp only [hxl, hyl]); first | done | exact ct_RootsR2) ?_ | refine v_more tab_ok hN H (by rfl) (by rfl) (by (try simp only [hxl, hyl]); first | done | exact ct_RootsR2) ?_); clear H; intro a w H; replace H := nf_RootsR2 H; first | (simp only [hxl, hyl] at H; replace H := nf_RootsR2 H) | skip; (try simp only [List.drop_succ_cons, List.drop_zero, List.drop_nil]); try refine wpList_nil ?_) | refine wp_region_lit ?_)
    by_cases hbad : vs.length ≠ ks.length ∨ d < 0 ∨ 256 < d
    · refine v_cond H (by rfl) (fun hb => ?_) (fun hb => ?_)
      · obtain ⟨rfl, rfl⟩ := hr.arg hs (by rcases hbad with h | h | h; exact .inl h; exact .inr (.inl h); exact .inr (.inr (.inl h)))
        repeat (first | refine wp_seq ?_ | refine wp_block ?_ | refine wp_skip ?_ | refine wp_exit ?_ | ((first | refine v_some 5 tab_ok hN H (by rfl) (by (try simp only [hxl, hyl]); first | done | exact ct_RootsR2) ?_ | refine v_more tab_ok hN H (by rfl) (by rfl) (by (try simp only [hxl, hyl]); first | done | exact ct_RootsR2) ?_); clear H; intro a w H; replace H := nf_RootsR2 H; first | (simp only [hxl, hyl] at H; replace H := nf_RootsR2 H) | skip; (try simp only [List.drop_succ_cons, List.drop_zero, List.drop_nil]); try refine wpList_nil ?_) | refine wp_region_lit ?_)
        try simp only [hz] at H
        refine wp_ret ?_
        exact v_end [] [] tab_ok ⟨hN, hR⟩ (rs := [.cell 6 51, .tmp 7]) (ress := [_, _]) rfl H (by rfl) (by rfl) (by simp [pickB, bxs, ren, idx?, sub_refl, sub, allP, hxl, hyl] <;> omega) (by first | rfl | (simp [hxl, hyl] <;> omega)) (by first | exact trivial | exact ⟨sub_refl _ _, trivial⟩ | exact ⟨sub_refl _ _, sub_refl _ _, trivial⟩ | exact ⟨sub_refl _ _, sub_refl _ _, sub_refl _ _, trivial⟩ | exact ⟨⟨rfl, sub_refl _ _, trivial⟩, sub_refl _ _, trivial⟩ | (simp [cargs, cargsG, St.ev, St.tmp, find, ren, idx?, sub_refl, sub, allP, resv, resC, bss, hxl, hyl] <;> omega)) rfl
      · exfalso
        by_cases hbl : vs.length = ks.length <;> by_cases hb0 : d < 0 <;> by_cases hb1 : 256 < d <;> simp_all <;> omega
    · have hll : vs.length = ks.length := Classical.byContradiction fun h => hbad (.inl h)
      have hd0 : ¬ d < 0 := fun h => hbad (.inr (.inl h))
      have hd1 : ¬ 256 < d := fun h => hbad (.inr (.inr h))
      refine v_cond H (by rfl) (fun hb => ?_) (fun hb => ?_)
      · exfalso; rw [hll] at hb; simp only [decide_eq_false hd0, decide_eq_false hd1, decide_true] at hb; simp at hb
      · obtain ⟨dn, rfl⟩ := Int.eq_ofNat_of_zero_le (Int.not_lt.1 hd0)
        have hdn : dn ≤ 256 := by omega
        clear hd0 hd1 hbad
        have hzl : (ks.zip vs).length = ks.length := by rw [List.length_zip]; omega
        repeat (first | refine wp_seq ?_ | refine wp_block ?_ | refine wp_skip ?_ | refine wp_exit ?_ | ((first | refine v_some 5 tab_ok hN H (by rfl) (by (try simp only [hxl, hyl]); first | done | exact ct_RootsR2) ?_ | refine v_more tab_ok hN H (by rfl) (by rfl) (by (try simp only [hxl, hyl]); first | done | exact ct_RootsR2) ?_); clear H; intro a w H; replace H := nf_RootsR2 H; first | (simp only [hxl, hyl] at H; replace H := nf_RootsR2 H) | skip; (try simp only [List.drop_succ_cons, List.drop_zero, List.drop_nil]); try refine wpList_nil ?_) | refine wp_region_lit ?_)
        have H := v_nilE tab_ok H 8 200 (j := ti200) enT rfl (by decide) (by rfl)
        refine v_loop (fun k : Nat => ⟨[(9, none, .v (.int .i64 (k : Int))), (8, none, .sl enT (ens ((ks.zip vs).take k)) (some 0)), (7, none, .v (.int .i64 0)), (6, none, .ptr 0 []), (0, none, .sl (.ba 32) (bas ks) none), (1, none, .sl (.ba 32) (bas vs) none), (2, none, .v (.int .i64 (dn : Int)))], [(.ba 32, .ba z32)], [], [(200, k)]⟩) (fun k => k ≤ ks.length ∧ ∀ j, j + 1 < k → Next dn ks j) (fun k => ks.length - k) 0 ⟨Nat.zero_le _, fun j hj => by omega⟩ (H.to 1 1 ⟨Nat.le_trans hN (by decide), Nat.le_trans hR (by decide)⟩ ⟨rfl, rfl, rfl, rfl, rfl, rfl, rfl, trivial⟩ rfl rfl rfl rfl rfl) ?_
        clear H
        rintro k a w ⟨hk, hall⟩ H
        repeat (first | refine wp_seq ?_ | refine wp_block ?_ | refine wp_skip ?_ | refine wp_exit ?_ | ((first | refine v_some 5 tab_ok hN H (by rfl) (by (try simp only [hxl, hyl]); first | done | exact ct_RootsR2) ?_ | refine v_more tab_ok hN H (by rfl) (by rfl) (by (try simp only [hxl, hyl]); first | done | exact ct_RootsR2) ?_); clear H; intro a w H; replace H := nf_RootsR2 H; first | (simp only [hxl, hyl] at H; replace H := nf_RootsR2 H) | skip; (try simp only [List.drop_succ_cons, List.drop_zero, List.drop_nil]); try refine wpList_nil ?_) | refine wp_region_lit ?_)
        refine v_cond H (by rfl) (fun hb => ?_) (fun hb => ?_)
        · have hlt : k < ks.length := by rw [decide_eq_true_eq] at hb; omega
          have g0 := bas_get ks 0 (by omega)
          have g1 := bas_get ks (k - 1) (by omega)
          have g2 := bas_get ks k hlt
          have g3 := bas_get vs k (by omega)
          rw [List.getElem_eq_getD []] at g0 g1 g2 g3
          have hx : ∀ j, j < ks.length → (ks.getD j []).length = 32 := fun j hj => by rw [← List.getElem_eq_getD (h := hj) []]; exact h1 _ (List.getElem_mem _)
          have l0 := hx 0 (by omega)
          have l1 := hx (k - 1) (by omega)
          have l2 := hx k hlt
          have l3 : (vs.getD k []).length = 32 := by rw [← List.getElem_eq_getD (h := show k < vs.length by omega) []]; exact h2 _ (List.getElem_mem _)
          have e1 : ((k : Int) - 1).toNat = k - 1 := by omega
          have hcmp := pcmpR_v (ks.getD (k - 1) []) (ks.getD k []) l1 l2
          have hcom := commonR_v (ks.getD 0 []) (ks.getD k []) l0 l2
          have hlt1 := cmp_ltB l1 l2
          have hge1 := com_ge (p := ks.getD 0 []) (q := ks.getD k []) hdn
          have hcl := com_le (ks.getD 0 []) (ks.getD k [])
          clear hx
          repeat (first | refine wp_seq ?_ | refine wp_block ?_ | refine wp_skip ?_ | refine wp_exit ?_ | ((first | refine v_some 5 tab_ok hN H (by rfl) (by (try simp only [hxl, hyl, e1, g0, g1, g2, g3, l0, l1, l2, l3]); first | done | exact ct_RootsR2) ?_ | refine v_more tab_ok hN H (by rfl) (by rfl) (by (try simp only [hxl, hyl, e1, g0, g1, g2, g3, l0, l1, l2, l3]); first | done | exact ct_RootsR2) ?_); clear H; intro a w H; replace H := nf_RootsR2 H; first | (simp only [hxl, hyl, e1, g0, g1, g2, g3] at H; replace H := nf_RootsR2 H) | skip; (try simp only [List.drop_succ_cons, List.drop_zero, List.drop_nil]); try refine wpList_nil ?_) | refine wp_region_lit ?_)
          repeat (first | refine wp_seq ?_ | refine wp_block ?_)
          refine v_draw 1 [12, 22] [23] (by kernel_rfl) (by kernel_rfl) H (by rfl) (fun gS H => ?_); try replace H := nt_RootsR2 H; first | (simp only [hxl, hyl, e1, g0, g1, g2, g3] at H; replace H := nt_RootsR2 H) | skip
          refine v_someT 3 tab_ok hN H (by rfl) (by (try simp only [hxl, hyl, e1, g0, g1, g2, g3, l0, l1, l2, l3]); first | done | exact ct_RootsR2) ?_; clear H; intro a w H; replace H := nt_RootsR2 H; first | (simp only [hxl, hyl, e1, g0, g1, g2, g3] at H; replace H := nt_RootsR2 H) | skip; simp only [List.drop_succ_cons, List.drop_zero, List.drop_nil]
          refine v_someT 4 tab_ok hN H (by rfl) (by (try simp only [hxl, hyl, e1, g0, g1, g2, g3, l0, l1, l2, l3]); first | done | exact ct_RootsR2) ?_; clear H; intro a w H; replace H := nt_RootsR2 H; first | (simp only [hxl, hyl, e1, g0, g1, g2, g3] at H; replace H := nt_RootsR2 H) | skip; simp only [List.drop_succ_cons, List.drop_zero, List.drop_nil]
          refine v_someT 4 tab_ok hN H (by rfl) (by (try simp only [hxl, hyl, e1, g0, g1, g2, g3, l0, l1, l2, l3]); first | done | exact ct_RootsR2) ?_; clear H; intro a w H; replace H := nt_RootsR2 H; first | (simp only [hxl, hyl, e1, g0, g1, g2, g3] at H; replace H := nt_RootsR2 H) | skip; simp only [List.drop_succ_cons, List.drop_zero, List.drop_nil]
          refine v_someT 1 tab_ok hN H (by rfl) (by (try simp only [hxl, hyl, e1, g0, g1, g2, g3, l0, l1, l2, l3]); first | done | exact ct_RootsR2) ?_; clear H; intro a w H; replace H := nt_RootsR2 H; first | (simp only [hxl, hyl, e1, g0, g1, g2, g3] at H; replace H := nt_RootsR2 H) | skip; simp only [List.drop_succ_cons, List.drop_zero, List.drop_nil]
          refine v_callTG [] [] (hcmp) H (by rfl) (by rfl) (by rfl) rfl (by rfl) (by simp [pickB, bxs, ren, idx?, sub_refl, sub, allP, hxl, hyl, e1, g0, g1, g2, g3] <;> omega) (by first | rfl | (simp [hxl, hyl, e1, g0, g1, g2, g3] <;> omega)) (by first | exact trivial | exact ⟨sub_refl _ _, trivial⟩ | exact ⟨sub_refl _ _, sub_refl _ _, trivial⟩ | exact ⟨sub_refl _ _, sub_refl _ _, sub_refl _ _, trivial⟩ | exact ⟨⟨rfl, sub_refl _ _, trivial⟩, sub_refl _ _, trivial⟩ | (simp [cargs, cargsG, St.ev, St.tmp, find, ren, idx?, sub_refl, sub, allP, resv, resC, bss, hxl, hyl, e1, g0, g1, g2, g3] <;> omega)) (by rfl) (by rfl) (by rfl) ?_; clear H; intro a w H; try replace H := nt_RootsR2 H; first | (simp only [hxl, hyl, e1, g0, g1, g2, g3] at H; replace H := nt_RootsR2 H) | skip
          refine v_someT 2 tab_ok hN H (by rfl) (by (try simp only [hxl, hyl, e1, g0, g1, g2, g3, l0, l1, l2, l3]); first | done | exact ct_RootsR2) ?_; clear H; intro a w H; replace H := nt_RootsR2 H; first | (simp only [hxl, hyl, e1, g0, g1, g2, g3] at H; replace H := nt_RootsR2 H) | skip; simp only [List.drop_succ_cons, List.drop_zero, List.drop_nil]
          refine v_someT 2 tab_ok hN H (by rfl) (by (try simp only [hxl, hyl, e1, g0, g1, g2, g3, l0, l1, l2, l3]); first | done | exact ct_RootsR2) ?_; clear H; intro a w H; replace H := nt_RootsR2 H; first | (simp only [hxl, hyl, e1, g0, g1, g2, g3] at H; replace H := nt_RootsR2 H) | skip; simp only [List.drop_succ_cons, List.drop_zero, List.drop_nil]
          refine v_someT 4 tab_ok hN H (by rfl) (by (try simp only [hxl, hyl, e1, g0, g1, g2, g3, l0, l1, l2, l3]); first | done | exact ct_RootsR2) ?_; clear H; intro a w H; replace H := nt_RootsR2 H; first | (simp only [hxl, hyl, e1, g0, g1, g2, g3] at H; replace H := nt_RootsR2 H) | skip; simp only [List.drop_succ_cons, List.drop_zero, List.drop_nil]
          refine v_someT 1 tab_ok hN H (by rfl) (by (try simp only [hxl, hyl, e1, g0, g1, g2, g3, l0, l1, l2, l3]); first | done | exact ct_RootsR2) ?_; clear H; intro a w H; replace H := nt_RootsR2 H; first | (simp only [hxl, hyl, e1, g0, g1, g2, g3] at H; replace H := nt_RootsR2 H) | skip; simp only [List.drop_succ_cons, List.drop_zero, List.drop_nil]
          refine v_callTG [] [] (hcom) H (by rfl) (by rfl) (by rfl) rfl (by rfl) (by simp [pickB, bxs, ren, idx?, sub_refl, sub, allP, hxl, hyl, e1, g0, g1, g2, g3] <;> omega) (by first | rfl | (simp [hxl, hyl, e1, g0, g1, g2, g3] <;> omega)) (by first | exact trivial | exact ⟨sub_refl _ _, trivial⟩ | exact ⟨sub_refl _ _, sub_refl _ _, trivial⟩ | exact ⟨sub_refl _ _, sub_refl _ _, sub_refl _ _, trivial⟩ | exact ⟨⟨rfl, sub_refl _ _, trivial⟩, sub_refl _ _, trivial⟩ | (simp [cargs, cargsG, St.ev, St.tmp, find, ren, idx?, sub_refl, sub, allP, resv, resC, bss, hxl, hyl, e1, g0, g1, g2, g3] <;> omega)) (by rfl) (by rfl) (by rfl) ?_; clear H; intro a w H; try replace H := nt_RootsR2 H; first | (simp only [hxl, hyl, e1, g0, g1, g2, g3] at H; replace H := nt_RootsR2 H) | skip
          repeat (refine v_someT 5 tab_ok hN H (by rfl) (by (try simp only [hxl, hyl, e1, g0, g1, g2, g3, l0, l1, l2, l3]); first | done | exact ct_RootsR2) ?_; clear H; intro a w H; replace H := nt_RootsR2 H; first | (simp only [hxl, hyl, e1, g0, g1, g2, g3] at H; replace H := nt_RootsR2 H) | skip; simp only [List.drop_succ_cons, List.drop_zero, List.drop_nil])
          refine v_moreT tab_ok hN H (by rfl) (by (try simp only [hxl, hyl, e1, g0, g1, g2, g3, l0, l1, l2, l3]); first | done | exact ct_RootsR2) ?_; clear H; intro a w H; try replace H := nt_RootsR2 H; first | (simp only [hxl, hyl, e1, g0, g1, g2, g3] at H; replace H := nt_RootsR2 H) | skip
          refine v_drawNil H (fun H => ?_)
          have hz1 := zip_fst ks vs hll.symm
          have hz9 := zip_snd ks vs hll.symm
          refine v_cond H (by rfl) (fun hb => ?_) (fun hb => ?_)
          · have hk0 : 0 < k := by
              by_cases h : 0 < k
              · exact h
              · rw [decide_eq_false (show ¬ (0 : Int) < (k : Int) by omega)] at hb; simp at hb
            have hno : ¬ Next dn ks (k - 1) := fun h => by
              have h3 : k - 1 + 1 = k := by omega
              unfold Next at h
              rw [h3] at h
              have k1 := hlt1.2 h.2
              have k2 := hge1.2 ((chainA hall (k - 1) (by omega)).trans h.1)
              rw [decide_eq_false (show ¬ (0 : Int) ≤ Lib.compareBytes (ks.getD (k - 1) []) (ks.getD k []) by omega), decide_eq_false (show ¬ ((com (ks.getD 0 []) (ks.getD k []) : Int) < (dn : Int)) by omega)] at hb
              simp at hb
            obtain ⟨rfl, rfl⟩ := hr.arg hs (.inr (.inr (.inr fun h => hno (by have := h (k - 1) (by omega); simpa using this))))
            repeat (first | refine wp_seq ?_ | refine wp_block ?_ | refine wp_skip ?_ | refine wp_exit ?_ | ((first | refine v_some 5 tab_ok hN H (by rfl) (by (try simp only [hxl, hyl, l0, l1, l2, l3]); first | done | exact ct_RootsR2) ?_ | refine v_more tab_ok hN H (by rfl) (by rfl) (by (try simp only [hxl, hyl, l0, l1, l2, l3]); first | done | exact ct_RootsR2) ?_); clear H; intro a w H; replace H := nf_RootsR2 H; first | (simp only [hxl, hyl] at H; replace H := nf_RootsR2 H) | skip; (try simp only [List.drop_succ_cons, List.drop_zero, List.drop_nil]); try refine wpList_nil ?_) | refine wp_region_lit ?_)
            try simp only [hz] at H
            refine wp_ret ?_
            exact v_end [] [] tab_ok ⟨hN, hR⟩ (rs := [.cell 6 51, .tmp 7]) (ress := [_, _]) rfl H (by rfl) (by rfl) (by simp [pickB, bxs, ren, idx?, sub_refl, sub, allP, hxl, hyl] <;> omega) (by first | rfl | (simp [hxl, hyl] <;> omega)) (by first | exact trivial | exact ⟨sub_refl _ _, trivial⟩ | exact ⟨sub_refl _ _, sub_refl _ _, trivial⟩ | exact ⟨sub_refl _ _, sub_refl _ _, sub_refl _ _, trivial⟩ | exact ⟨⟨rfl, sub_refl _ _, trivial⟩, sub_refl _ _, trivial⟩ | (simp [cargs, cargsG, St.ev, St.tmp, find, ren, idx?, sub_refl, sub, allP, resv, resC, bss, hxl, hyl] <;> omega)) rfl
          · have hyes : ∀ j, j + 1 < k + 1 → Next dn ks j := fun j hj => by
              by_cases h3 : j + 1 < k
              · exact hall j h3
              · have hj1 : j = k - 1 := by omega
                have hk0 : 0 < k := by omega
                rw [decide_eq_true (show (0 : Int) < (k : Int) by omega)] at hb
                have h4 : k - 1 + 1 = k := by omega
                have hc : ¬ (0 : Int) ≤ Lib.compareBytes (ks.getD (k - 1) []) (ks.getD k []) := fun hc => by rw [decide_eq_true hc] at hb; simp at hb
                rw [decide_eq_false hc, cond_true, cond_false, decide_eq_false_iff_not] at hb
                subst hj1
                unfold Next
                rw [h4]
                exact ⟨(chainA hall (k - 1) (by omega)).symm.trans (hge1.1 (by omega)), hlt1.1 (by omega)⟩
            have hkz : k < (ks.zip vs).length := by omega
            have htk : ens ((ks.zip vs).take (k + 1)) = ens ((ks.zip vs).take k) ++ [.st [.ba (ks.getD k []), .ba (vs.getD k [])]] := by
              rw [List.take_succ_eq_append_getElem hkz, ens_app, List.getElem_zip, List.getElem_eq_getD [], List.getElem_eq_getD []]
            have hel : (ens ((ks.zip vs).take k)).length = k := by rw [ens_len, List.length_take]; omega
            repeat (first | refine wp_seq ?_ | refine wp_block ?_ | refine wp_skip ?_ | refine wp_exit ?_ | ((first | refine v_some 5 tab_ok hN H (by rfl) (by (try simp only [hxl, hyl, g2, g3, hel, l2, l3]); first | done | exact ct_RootsR2) ?_ | refine v_more tab_ok hN H (by rfl) (by rfl) (by (try simp only [hxl, hyl, g2, g3, hel, l2, l3]); first | done | exact ct_RootsR2) ?_); clear H; intro a w H; replace H := nf_RootsR2 H; first | (simp only [hxl, hyl, g2, g3, hel] at H; replace H := nf_RootsR2 H) | skip; (try simp only [List.drop_succ_cons, List.drop_zero, List.drop_nil]); try refine wpList_nil ?_) | refine wp_region_lit ?_)
            repeat (first | refine wp_seq ?_ | refine wp_block ?_)
            refine v_draw 1 [10, 11] [0] (by kernel_rfl) (by kernel_rfl) H (by rfl) (fun gS H => ?_); try replace H := nt_RootsR2 H; first | (simp only [hxl, hyl, g2, g3, hel] at H; replace H := nt_RootsR2 H) | skip
            refine v_someT 4 tab_ok hN H (by rfl) (by (try simp only [hxl, hyl, g2, g3, hel, l2, l3]); first | done | exact ct_RootsR2) ?_; clear H; intro a w H; replace H := nt_RootsR2 H; first | (simp only [hxl, hyl, g2, g3, hel] at H; replace H := nt_RootsR2 H) | skip; simp only [List.drop_succ_cons, List.drop_zero, List.drop_nil]
            refine v_someT 1 tab_ok hN H (by rfl) (by (try simp only [hxl, hyl, g2, g3, hel, l2, l3]); first | done | exact ct_RootsR2) ?_; clear H; intro a w H; replace H := nt_RootsR2 H; first | (simp only [hxl, hyl, g2, g3, hel] at H; replace H := nt_RootsR2 H) | skip; simp only [List.drop_succ_cons, List.drop_zero, List.drop_nil]
            refine v_someT 3 tab_ok hN H (by rfl) (by (try simp only [hxl, hyl, g2, g3, hel, l2, l3]); first | done | exact ct_RootsR2) ?_; clear H; intro a w H; replace H := nt_RootsR2 H; first | (simp only [hxl, hyl, g2, g3, hel] at H; replace H := nt_RootsR2 H) | skip; simp only [List.drop_succ_cons, List.drop_zero, List.drop_nil]
            refine v_someT 1 tab_ok hN H (by rfl) (by (try simp only [hxl, hyl, g2, g3, hel, l2, l3]); first | done | exact ct_RootsR2) ?_; clear H; intro a w H; replace H := nt_RootsR2 H; first | (simp only [hxl, hyl, g2, g3, hel] at H; replace H := nt_RootsR2 H) | skip; simp only [List.drop_succ_cons, List.drop_zero, List.drop_nil]
            repeat (refine v_someT 5 tab_ok hN H (by rfl) (by (try simp only [hxl, hyl, g2, g3, hel, l2, l3]); first | done | exact ct_RootsR2) ?_; clear H; intro a w H; replace H := nt_RootsR2 H; first | (simp only [hxl, hyl, g2, g3, hel] at H; replace H := nt_RootsR2 H) | skip; simp only [List.drop_succ_cons, List.drop_zero, List.drop_nil])
            refine v_moreT tab_ok hN H (by rfl) (by (try simp only [hxl, hyl, g2, g3, hel, l2, l3]); first | done | exact ct_RootsR2) ?_; clear H; intro a w H; try replace H := nt_RootsR2 H; first | (simp only [hxl, hyl, g2, g3, hel] at H; replace H := nt_RootsR2 H) | skip
            refine v_drawNil H (fun H => ?_)
            repeat (first | refine wp_seq ?_ | refine wp_block ?_ | refine wp_skip ?_ | refine wp_exit ?_ | ((first | refine v_some 5 tab_ok hN H (by rfl) (by (try simp only [hxl, hyl, hel, l2, l3]); first | done | exact ct_RootsR2) ?_ | refine v_more tab_ok hN H (by rfl) (by rfl) (by (try simp only [hxl, hyl, hel, l2, l3]); first | done | exact ct_RootsR2) ?_); clear H; intro a w H; replace H := nf_RootsR2 H; first | (simp only [hxl, hyl, hel] at H; replace H := nf_RootsR2 H) | skip; (try simp only [List.drop_succ_cons, List.drop_zero, List.drop_nil]); try refine wpList_nil ?_) | refine wp_region_lit ?_)
            exact ⟨k + 1, ⟨hlt, hyes⟩, by omega, H.to 1 1 ⟨Nat.le_trans hN (by decide), Nat.le_trans hR (by decide)⟩ ⟨rfl, by rw [htk]; rfl, rfl, rfl, rfl, rfl, rfl, trivial⟩ rfl rfl rfl rfl rfl⟩
        · have hge : k = ks.length := by rw [decide_eq_false_iff_not] at hb; omega
          subst hge
          have hgood : Climb dn ks := fun j hj => hall j hj
          obtain ⟨rfl, rfl⟩ := hr.ok hs hll.symm ⟨by omega, by omega⟩ hgood
          have hrise := hgood.rise hll.symm
          have hroot := atR_v (256 - dn) dn (ks.zip vs) (by omega) hrise.sep (zip_wd h1 h2) (by omega)
          have hrl := rootA_len (256 - dn) dn (ks.zip vs)
          rw [← hzl, List.take_length] at H
          simp only [Int.toNat_natCast] at *
          repeat (first | refine wp_seq ?_ | refine wp_block ?_ | refine wp_skip ?_ | refine wp_exit ?_ | ((first | refine v_some 5 tab_ok hN H (by rfl) (by (try simp only [hxl, hyl]); first | done | exact ct_RootsR2) ?_ | refine v_more tab_ok hN H (by rfl) (by rfl) (by (try simp only [hxl, hyl]); first | done | exact ct_RootsR2) ?_); clear H; intro a w H; replace H := nf_RootsR2 H; first | (simp only [hxl, hyl] at H; replace H := nf_RootsR2 H) | skip; (try simp only [List.drop_succ_cons, List.drop_zero, List.drop_nil]); try refine wpList_nil ?_) | refine wp_region_lit ?_)
          refine v_call [] [] (hroot) H rfl rfl (by rfl) (by simp [pickB, bxs, ren, idx?, sub_refl, sub, allP, hxl, hyl] <;> omega) (by first | rfl | (simp [hxl, hyl] <;> omega)) (by first | exact trivial | exact ⟨sub_refl _ _, trivial⟩ | exact ⟨sub_refl _ _, sub_refl _ _, trivial⟩ | exact ⟨sub_refl _ _, sub_refl _ _, sub_refl _ _, trivial⟩ | exact ⟨⟨rfl, sub_refl _ _, trivial⟩, sub_refl _ _, trivial⟩ | (simp [cargs, cargsG, St.ev, St.tmp, find, ren, idx?, sub_refl, sub, allP, resv, resC, bss, hxl, hyl] <;> omega)) ?_; clear H; intro a w H; replace H := nf_RootsR2 H; first | (simp only [hxl, hyl] at H; replace H := nf_RootsR2 H) | skip; try refine wpList_nil ?_
          repeat (first | refine wp_seq ?_ | refine wp_block ?_ | refine wp_skip ?_ | refine wp_exit ?_ | ((first | refine v_some 5 tab_ok hN H (by rfl) (by (try simp only [hxl, hyl]); first | done | exact ct_RootsR2) ?_ | refine v_more tab_ok hN H (by rfl) (by rfl) (by (try simp only [hxl, hyl]); first | done | exact ct_RootsR2) ?_); clear H; intro a w H; replace H := nf_RootsR2 H; first | (simp only [hxl, hyl] at H; replace H := nf_RootsR2 H) | skip; (try simp only [List.drop_succ_cons, List.drop_zero, List.drop_nil]); try refine wpList_nil ?_) | refine wp_region_lit ?_)
          refine wp_ret ?_
          exact v_end [] [] tab_ok ⟨hN, hR⟩ (rs := [.cell 6 51, .tmp 7]) (ress := [_, _]) rfl H (by rfl) (by rfl) (by simp [pickB, bxs, ren, idx?, sub_refl, sub, allP, hxl, hyl] <;> omega) (by first | rfl | (simp [hxl, hyl] <;> omega)) (by first | exact trivial | exact ⟨sub_refl _ _, trivial⟩ | exact ⟨sub_refl _ _, sub_refl _ _, trivial⟩ | exact ⟨sub_refl _ _, sub_refl _ _, sub_refl _ _, trivial⟩ | exact ⟨⟨rfl, sub_refl _ _, trivial⟩, sub_refl _ _, trivial⟩ | (simp [cargs, cargsG, St.ev, St.tmp, find, ren, idx?, sub_refl, sub, allP, resv, resC, bss, hxl, hyl] <;> omega)) rfl
end Go.Proofs.Ytpeefeioccglcaa
