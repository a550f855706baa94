/- The statements' kit: proofs compared and copied. -/
import Derived.Test.YtpeefeioccglcaaPack3
set_option linter.unusedSimpArgs false
set_option linter.unusedVariables false
namespace Go.Proofs.Ytpeefeioccglcaa
open Go Go.RowKit
/-- The state made plain. -/
theorem nf_KitP {P : Program} {w0 w : World} {N : Gh} {nt : Nat} {st s2 : St} {a : Act} (H : Rel P w0 N nt st a w) (h : st = s2 := by (try simp only [pk, elemB, St.put, St.ev, St.tmp, St.keep, find, dropT, slots, AV.put, AV.loc, fitI, convI, IntKind.signed, IntKind.bits, strip, St.lose, mergeL, setAll, nth, renB, ren, idx?, sub, allP, low, bnd, Int.reduceEq, Nat.reduceAdd, Nat.reduceLT, reduceIte, reduceCtorEq, Nat.reduceEqDiff, Nat.reduceLeDiff, Nat.reduceBEq, Int.reducePow, Int.reduceToNat, ti22_t, ti22_z, ti5_t, ti5_z, ti51_t, ti51_z, ti53_t, ti53_z, ti103_t, ti103_z, ti76_t, ti76_z, ti71_t, ti71_z]); rfl) : Rel P w0 N nt s2 a w := h ▸ H
theorem nt_KitP {P : Program} {w0 w : World} {N gS : Gh} {nt : Nat} {q q2 st s2 : St} {a : Act} (H : RelT P w0 N nt gS q st a w) (h1 : q = q2 := by (try simp only [pk, elemB, St.put, St.ev, St.tmp, St.keep, find, dropT, slots, AV.put, AV.loc, fitI, convI, IntKind.signed, IntKind.bits, strip, St.lose, mergeL, setAll, nth, renB, ren, idx?, sub, allP, low, bnd, Int.reduceEq, Nat.reduceAdd, Nat.reduceLT, reduceIte, reduceCtorEq, Nat.reduceEqDiff, Nat.reduceLeDiff, Nat.reduceBEq, Int.reducePow, Int.reduceToNat, ti22_t, ti22_z, ti5_t, ti5_z, ti51_t, ti51_z, ti53_t, ti53_z, ti103_t, ti103_z, ti76_t, ti76_z, ti71_t, ti71_z]); rfl) (h : st = s2 := by (try simp only [pk, elemB, St.put, St.ev, St.tmp, St.keep, find, dropT, slots, AV.put, AV.loc, fitI, convI, IntKind.signed, IntKind.bits, strip, St.lose, mergeL, setAll, nth, renB, ren, idx?, sub, allP, low, bnd, Int.reduceEq, Nat.reduceAdd, Nat.reduceLT, reduceIte, reduceCtorEq, Nat.reduceEqDiff, Nat.reduceLeDiff, Nat.reduceBEq, Int.reducePow, Int.reduceToNat, ti22_t, ti22_z, ti5_t, ti5_z, ti51_t, ti51_z, ti53_t, ti53_z, ti103_t, ti103_z, ti76_t, ti76_z, ti71_t, ti71_z]); rfl) : RelT P w0 N nt gS q2 s2 a w := h1 ▸ h ▸ H
theorem ct_KitP {c : Prop} (h : c := by ((try simp only [pk, elemB, St.put, St.ev, St.tmp, St.keep, find, dropT, slots, AV.put, AV.loc, fitI, convI, IntKind.signed, IntKind.bits, strip, St.lose, mergeL, setAll, nth, renB, ren, idx?, sub, allP, low, bnd, Int.reduceEq, Nat.reduceAdd, Nat.reduceLT, reduceIte, reduceCtorEq, Nat.reduceEqDiff, Nat.reduceLeDiff, Nat.reduceBEq, Int.reducePow, Int.reduceToNat, ti22_t, ti22_z, ti5_t, ti5_z, ti51_t, ti51_z, ti53_t, ti53_z, ti103_t, ti103_z, ti76_t, ti76_z, ti71_t, ti71_z, ti22, ti5, ti51, ti53, ti103, ti76, ti71, fit, gcond, ilo, ihi]); first | done | exact cd | exact cd2 | skip)) : c := h
theorem sameH_v (x y : List (List UInt8)) (hx : ∀ h ∈ x, h.length = 32) (hy : ∀ h ∈ y, h.length = 32) (hl : x.length ≤ 34359730000) : VC Try.prog 134 [.sl (.ba 32) (bas x) none, .sl (.ba 32) (bas y) none] [] (.v (.bool (decide (x = y)))) := by
  have hxl := bas_len x
  have hyl := bas_len y
  refine v_enter Try.func134 rfl (by kernel_rfl) (by show 2 ≤ 26; decide) ?_
  intro N w0 a w hN hR H
  repeat (first | refine wp_seq ?_ | refine wp_block ?_ | refine wp_skip ?_ | refine wp_exit ?_ | ((first | refine v_some 5 tab_ok hN H (by rfl) ct_KitP ?_ | refine v_more tab_ok hN H (by rfl) (by rfl) ct_KitP ?_); clear H; intro a w H; replace H := nf_KitP H; (try simp only [List.drop_succ_cons, List.drop_zero, List.drop_nil]); try refine wpList_nil ?_) | refine wp_region_lit ?_)
  refine v_cond H (by rfl) (fun hb => ?_) (fun hb => ?_)
  · have hne : ¬ x = y := fun e => by rw [hxl, hyl, e] at hb; simp at hb
    rw [decide_eq_false hne]
    repeat (first | refine wp_seq ?_ | refine wp_block ?_ | refine wp_skip ?_ | refine wp_exit ?_ | ((first | refine v_some 5 tab_ok hN H (by rfl) ct_KitP ?_ | refine v_more tab_ok hN H (by rfl) (by rfl) ct_KitP ?_); clear H; intro a w H; replace H := nf_KitP H; (try simp only [List.drop_succ_cons, List.drop_zero, List.drop_nil]); try refine wpList_nil ?_) | refine wp_region_lit ?_)
    refine wp_ret ?_
    exact v_end [] [] tab_ok ⟨hN, hR⟩ (rs := [.tmp 4]) (ress := [_]) rfl H (by rfl) (by rfl) cb cw ca rfl
  · have hll : x.length = y.length := by rw [hxl, hyl] at hb; simp at hb; omega
    repeat (first | refine wp_seq ?_ | refine wp_block ?_ | refine wp_skip ?_ | refine wp_exit ?_ | ((first | refine v_some 5 tab_ok hN H (by rfl) (by (try simp only [hxl, hyl]); first | done | exact ct_KitP) ?_ | refine v_more tab_ok hN H (by rfl) (by rfl) (by (try simp only [hxl, hyl]); first | done | exact ct_KitP) ?_); clear H; intro a w H; replace H := nf_KitP H; first | (simp only [hxl, hyl] at H; replace H := nf_KitP H) | skip; (try simp only [List.drop_succ_cons, List.drop_zero, List.drop_nil]); try refine wpList_nil ?_) | refine wp_region_lit ?_)
    refine v_loop (fun k : Nat => ⟨[(5, none, .v (.int .i64 (k : Int))), (4, none, .v (.bool false)), (0, none, .sl (.ba 32) (bas x) none), (1, none, .sl (.ba 32) (bas y) none)], [], [], []⟩) (fun k => k ≤ x.length ∧ x.take k = y.take k) (fun k => x.length - k) 0 ⟨Nat.zero_le _, rfl⟩ (H.to 0 0 ⟨hN, hR⟩ ⟨rfl, rfl, rfl, rfl, trivial⟩ rfl rfl rfl rfl rfl) ?_
    clear H
    intro k a w hk H
    obtain ⟨hk, hkt⟩ := hk
    repeat (first | refine wp_seq ?_ | refine wp_block ?_ | refine wp_skip ?_ | refine wp_exit ?_ | ((first | refine v_some 5 tab_ok hN H (by rfl) (by (try simp only [hxl, hyl]); first | done | exact ct_KitP) ?_ | refine v_more tab_ok hN H (by rfl) (by rfl) (by (try simp only [hxl, hyl]); first | done | exact ct_KitP) ?_); clear H; intro a w H; replace H := nf_KitP H; first | (simp only [hxl, hyl] at H; replace H := nf_KitP H) | skip; (try simp only [List.drop_succ_cons, List.drop_zero, List.drop_nil]); try refine wpList_nil ?_) | refine wp_region_lit ?_)
    refine v_cond H (by rfl) (fun hb => ?_) (fun hb => ?_)
    · have hlt : k < x.length := by simpa using hb
      have g1 := bas_get x k hlt
      have g2 := bas_get y k (by omega)
      have l1 := hx _ (List.getElem_mem hlt)
      have l2 := hy _ (List.getElem_mem (show k < y.length by omega))
      repeat (first | refine wp_seq ?_ | refine wp_block ?_ | refine wp_skip ?_ | refine wp_exit ?_ | ((first | refine v_some 5 tab_ok hN H (by rfl) (by (try simp only [hxl, hyl, g1, g2]); first | done | exact ct_KitP) ?_ | refine v_more tab_ok hN H (by rfl) (by rfl) (by (try simp only [hxl, hyl, g1, g2]); first | done | exact ct_KitP) ?_); clear H; intro a w H; replace H := nf_KitP H; first | (simp only [hxl, hyl, g1, g2] at H; replace H := nf_KitP H) | skip; (try simp only [List.drop_succ_cons, List.drop_zero, List.drop_nil]); try refine wpList_nil ?_) | refine wp_region_lit ?_)
      repeat (first | refine wp_seq ?_ | refine wp_block ?_)
      refine v_draw 0 [] [] (by kernel_rfl) (by kernel_rfl) H (by rfl) (fun gS H => ?_); try replace H := nt_KitP H; first | (simp only [hxl, hyl, g1, g2] at H; replace H := nt_KitP H) | skip
      refine v_someT 3 tab_ok hN H (by rfl) (by (try simp only [hxl, hyl, g1, g2]); first | done | exact ct_KitP) ?_; clear H; intro a w H; replace H := nt_KitP H; first | (simp only [hxl, hyl, g1, g2] at H; replace H := nt_KitP H) | skip; simp only [List.drop_succ_cons, List.drop_zero, List.drop_nil]
      refine v_someT 4 tab_ok hN H (by rfl) (by (try simp only [hxl, hyl, g1, g2]); first | done | exact ct_KitP) ?_; clear H; intro a w H; replace H := nt_KitP H; first | (simp only [hxl, hyl, g1, g2] at H; replace H := nt_KitP H) | skip; simp only [List.drop_succ_cons, List.drop_zero, List.drop_nil]
      repeat (refine v_someT 5 tab_ok hN H (by rfl) (by (try simp only [hxl, hyl, g1, g2]); first | done | exact ct_KitP) ?_; clear H; intro a w H; replace H := nt_KitP H; first | (simp only [hxl, hyl, g1, g2] at H; replace H := nt_KitP H) | skip; simp only [List.drop_succ_cons, List.drop_zero, List.drop_nil])
      refine v_moreT tab_ok hN H (by rfl) (by (try simp only [hxl, hyl, g1, g2]); first | done | exact ct_KitP) ?_; clear H; intro a w H; try replace H := nt_KitP H; first | (simp only [hxl, hyl, g1, g2] at H; replace H := nt_KitP H) | skip
      refine v_drawNil H (fun H => ?_)
      refine v_cond H (by rfl) (fun hb => ?_) (fun hb => ?_)
      · have hne : ¬ x = y := fun e => by subst e; simp at hb
        rw [decide_eq_false hne]
        repeat (first | refine wp_seq ?_ | refine wp_block ?_ | refine wp_skip ?_ | refine wp_exit ?_ | ((first | refine v_some 5 tab_ok hN H (by rfl) (by (try simp only [hxl, hyl, g1, g2]); first | done | exact ct_KitP) ?_ | refine v_more tab_ok hN H (by rfl) (by rfl) (by (try simp only [hxl, hyl, g1, g2]); first | done | exact ct_KitP) ?_); clear H; intro a w H; replace H := nf_KitP H; first | (simp only [hxl, hyl, g1, g2] at H; replace H := nf_KitP H) | skip; (try simp only [List.drop_succ_cons, List.drop_zero, List.drop_nil]); try refine wpList_nil ?_) | refine wp_region_lit ?_)
        refine wp_ret ?_
        exact v_end [] [] tab_ok ⟨hN, hR⟩ (rs := [.tmp 4]) (ress := [_]) rfl H (by rfl) (by rfl) (by simp [pickB, bxs, ren, idx?, sub_refl, sub, allP, hxl, hyl, g1, g2] <;> omega) (by first | rfl | (simp [hxl, hyl, g1, g2] <;> omega)) (by first | exact trivial | exact ⟨sub_refl _ _, trivial⟩ | exact ⟨sub_refl _ _, sub_refl _ _, trivial⟩ | exact ⟨sub_refl _ _, sub_refl _ _, sub_refl _ _, trivial⟩ | exact ⟨⟨rfl, sub_refl _ _, trivial⟩, sub_refl _ _, trivial⟩ | (simp [cargs, cargsG, St.ev, St.tmp, find, ren, idx?, sub_refl, sub, allP, resv, resC, bss, hxl, hyl, g1, g2] <;> omega)) rfl
      · have he : x[k] = y[k]'(by omega) := by simpa using hb
        repeat (first | refine wp_seq ?_ | refine wp_block ?_ | refine wp_skip ?_ | refine wp_exit ?_ | ((first | refine v_some 5 tab_ok hN H (by rfl) (by (try simp only [hxl, hyl, g1, g2]); first | done | exact ct_KitP) ?_ | refine v_more tab_ok hN H (by rfl) (by rfl) (by (try simp only [hxl, hyl, g1, g2]); first | done | exact ct_KitP) ?_); clear H; intro a w H; replace H := nf_KitP H; first | (simp only [hxl, hyl, g1, g2] at H; replace H := nf_KitP H) | skip; (try simp only [List.drop_succ_cons, List.drop_zero, List.drop_nil]); try refine wpList_nil ?_) | refine wp_region_lit ?_)
        exact ⟨k + 1, ⟨hlt, by rw [List.take_succ_eq_append_getElem hlt, List.take_succ_eq_append_getElem (show k < y.length by omega), hkt, he]⟩, by omega, H.to 0 0 ⟨hN, hR⟩ ⟨rfl, rfl, rfl, rfl, trivial⟩ rfl rfl rfl rfl rfl⟩
    · have hge : k = x.length := by simp at hb; omega
      subst hge
      have he : x = y := by rw [List.take_length, hll, List.take_length] at hkt; exact hkt
      rw [decide_eq_true he]
      repeat (first | refine wp_seq ?_ | refine wp_block ?_ | refine wp_skip ?_ | refine wp_exit ?_ | ((first | refine v_some 5 tab_ok hN H (by rfl) ct_KitP ?_ | refine v_more tab_ok hN H (by rfl) (by rfl) ct_KitP ?_); clear H; intro a w H; replace H := nf_KitP H; (try simp only [List.drop_succ_cons, List.drop_zero, List.drop_nil]); try refine wpList_nil ?_) | refine wp_region_lit ?_)
      refine wp_ret ?_
      exact v_end [] [] tab_ok ⟨hN, hR⟩ (rs := [.tmp 4]) (ress := [_]) rfl H (by rfl) (by rfl) cb cw ca rfl
theorem copyB_v (l : List UInt8) (hl : l.length ≤ 34359730000) : VC Try.prog 57 [.bs l none] [(5, l.length)] (.bs l (some 0)) := by
  refine v_enter Try.func57 rfl (by kernel_rfl) (by show 1 ≤ 6; decide) ?_
  intro N w0 a w hN hR H
  repeat (first | refine wp_seq ?_ | refine wp_block ?_ | refine wp_skip ?_ | refine wp_exit ?_ | ((first | refine v_some 5 tab_ok hN H (by rfl) ct_KitP ?_ | refine v_more tab_ok hN H (by rfl) (by rfl) ct_KitP ?_); clear H; intro a w H; replace H := nf_KitP H; (try simp only [List.drop_succ_cons, List.drop_zero, List.drop_nil]); try refine wpList_nil ?_) | refine wp_region_lit ?_)
  simp only [List.replicate_zero, List.nil_append, List.length_nil, Nat.zero_add] at H
  refine wp_ret ?_
  exact v_end [] [0] tab_ok ⟨hN, hR⟩ (rs := [.tmp 2]) (ress := [_]) rfl H (by rfl) (by rfl) cb cw ca rfl
theorem copyH_v (l : List (List UInt8)) (hw : ∀ h ∈ l, h.length = 32) (hl : l.length ≤ 34359730000) : VC Try.prog 135 [.sl (.ba 32) (bas l) none] [(51, l.length)] (.sl (.ba 32) (bas l) (some 0)) := by
  have hbl := bas_len l
  refine v_enter Try.func135 rfl (by kernel_rfl) (by show 1 ≤ 6; decide) ?_
  intro N w0 a w hN hR H
  repeat (first | refine wp_seq ?_ | refine wp_block ?_ | refine wp_skip ?_ | refine wp_exit ?_ | ((first | refine v_some 5 tab_ok hN H (by rfl) (by (try simp only [hbl]); first | done | exact ct_KitP) ?_ | refine v_more tab_ok hN H (by rfl) (by rfl) (by (try simp only [hbl]); first | done | exact ct_KitP) ?_); clear H; intro a w H; replace H := nf_KitP H; first | (simp only [hbl] at H; replace H := nf_KitP H) | skip; (try simp only [List.drop_succ_cons, List.drop_zero, List.drop_nil]); try refine wpList_nil ?_) | refine wp_region_lit ?_)
  simp only [List.replicate_zero, List.nil_append, List.length_nil, Nat.zero_add] at H
  refine wp_ret ?_
  exact v_end [] [0] tab_ok ⟨hN, hR⟩ (rs := [.tmp 2]) (ress := [_]) rfl H (by rfl) (by rfl) (by simp [pickB, bxs, ren, idx?, sub_refl, sub, allP, hbl] <;> omega) (by first | rfl | (simp [hbl] <;> omega)) (by first | exact trivial | exact ⟨sub_refl _ _, trivial⟩ | exact ⟨sub_refl _ _, sub_refl _ _, trivial⟩ | exact ⟨sub_refl _ _, sub_refl _ _, sub_refl _ _, trivial⟩ | exact ⟨⟨rfl, sub_refl _ _, trivial⟩, sub_refl _ _, trivial⟩ | (simp [cargs, cargsG, St.ev, St.tmp, find, ren, idx?, sub_refl, sub, allP, resv, resC, bss, hbl] <;> omega)) rfl
theorem sameP_eq (p q : List (List UInt8)) (n m : Nd) : (bif decide ((n.k.toNat : Int) = (m.k.toNat : Int)) && (decide (n.key = m.key) && (decide (n.v = m.v) && (decide (n.l = m.l) && decide (n.r = m.r)))) then decide (p = q) else false) = decide (Pf.mk p n = Pf.mk q m) := by
  obtain ⟨k1, a1, b1, c1, d1⟩ := n
  obtain ⟨k2, a2, b2, c2, d2⟩ := m
  have hk : ((k1.toNat : Int) = (k2.toNat : Int)) ↔ k1 = k2 := ⟨fun h => UInt8.toNat_inj.1 (by omega), fun h => by rw [h]⟩
  dsimp only
  by_cases h : (Pf.mk p ⟨k1, a1, b1, c1, d1⟩ = Pf.mk q ⟨k2, a2, b2, c2, d2⟩)
  · rw [decide_eq_true h]
    simp only [Pf.mk.injEq, Nd.mk.injEq] at h
    obtain ⟨rfl, rfl, rfl, rfl, rfl, rfl⟩ := h
    simp
  · rw [decide_eq_false h]
    rw [Bool.eq_false_iff]
    intro h2
    apply h
    rw [Bool.cond_eq_ite] at h2
    split at h2
    · rename_i h3
      simp only [Bool.and_eq_true, decide_eq_true_eq, hk] at h2 h3
      obtain ⟨rfl, rfl, rfl, rfl, rfl⟩ := h3
      rw [h2]
    · cases h2
theorem Nd.av_inj {n m : Nd} (h1 : n.k = m.k) (h2 : n.key = m.key) (h3 : n.v = m.v) (h4 : n.l = m.l) (h5 : n.r = m.r) : n = m := by cases n; cases m; simp_all
set_option maxHeartbeats 1000000 in
theorem sameP_v (p q : Pf) (hp : p.wf) (hq : q.wf) (hl : p.s.length ≤ 34359730000) : VC Try.prog 56 [p.av, q.av] [] (.v (.bool (decide (p = q)))) := by
  have hs := sameH_v p.s q.s hp.s hq.s hl
  obtain ⟨p, n⟩ := p
  obtain ⟨q, m⟩ := q
  dsimp only at hs hl
  obtain ⟨g1, g2, g3, g4⟩ := id hp.e
  obtain ⟨f1, f2, f3, f4⟩ := id hq.e
  dsimp only at g1 g2 g3 g4 f1 f2 f3 f4
  refine v_enter Try.func56 rfl (by kernel_rfl) (by show 2 ≤ 17; decide) ?_
  intro N w0 a w hN hR H
  simp only [Pf.av, Nd.av] at H
  repeat (first | refine wp_seq ?_ | refine wp_block ?_ | refine wp_skip ?_ | refine wp_exit ?_ | ((first | refine v_some 5 tab_ok hN H (by rfl) ct_KitP ?_ | refine v_more tab_ok hN H (by rfl) (by rfl) ct_KitP ?_); clear H; intro a w H; replace H := nf_KitP H; (try simp only [List.drop_succ_cons, List.drop_zero, List.drop_nil]); try refine wpList_nil ?_) | refine wp_region_lit ?_)
  refine v_callG [] [] (hs) H (by rfl) rfl (by rfl) cb cw ca (by rfl) (by rfl) (by rfl) ?_; clear H; intro a w H; replace H := nf_KitP H; try refine wpList_nil ?_
  repeat (first | refine wp_seq ?_ | refine wp_block ?_ | refine wp_skip ?_ | refine wp_exit ?_ | ((first | refine v_some 5 tab_ok hN H (by rfl) ct_KitP ?_ | refine v_more tab_ok hN H (by rfl) (by rfl) ct_KitP ?_); clear H; intro a w H; replace H := nf_KitP H; (try simp only [List.drop_succ_cons, List.drop_zero, List.drop_nil]); try refine wpList_nil ?_) | refine wp_region_lit ?_)
  rw [← sameP_eq] 
  refine wp_ret ?_
  exact v_end [] [] tab_ok ⟨hN, hR⟩ (rs := [.tmp 4]) (ress := [_]) rfl H (by rfl) (by rfl) cb cw ca rfl
end Go.Proofs.Ytpeefeioccglcaa
