/- Proofs as bytes: there and back, in plain Lean; the statement PackBack, in values. -/
import Derived.Test.YtpeefeioccglcaaKitP
set_option linter.unusedSimpArgs false
set_option linter.unusedVariables false
namespace Go.Proofs.Ytpeefeioccglcaa
open Go Go.RowKit
/-- The state made plain. -/
theorem nf_PackL {P : Program} {w0 w : World} {N : Gh} {nt : Nat} {st s2 : St} {a : Act} (H : Rel P w0 N nt st a w) (h : st = s2 := by (try simp only [pk, elemB, St.put, St.ev, St.tmp, St.keep, find, dropT, slots, AV.put, AV.loc, fitI, convI, IntKind.signed, IntKind.bits, strip, St.lose, mergeL, setAll, nth, renB, ren, idx?, sub, allP, low, bnd, Int.reduceEq, Nat.reduceAdd, Nat.reduceLT, reduceIte, reduceCtorEq, Nat.reduceEqDiff, Nat.reduceLeDiff, Nat.reduceBEq, Int.reducePow, Int.reduceToNat, ti22_t, ti22_z, ti5_t, ti5_z, ti51_t, ti51_z, ti53_t, ti53_z, ti103_t, ti103_z, ti76_t, ti76_z, ti71_t, ti71_z]); rfl) : Rel P w0 N nt s2 a w := h ▸ H
theorem nt_PackL {P : Program} {w0 w : World} {N gS : Gh} {nt : Nat} {q q2 st s2 : St} {a : Act} (H : RelT P w0 N nt gS q st a w) (h1 : q = q2 := by (try simp only [pk, elemB, St.put, St.ev, St.tmp, St.keep, find, dropT, slots, AV.put, AV.loc, fitI, convI, IntKind.signed, IntKind.bits, strip, St.lose, mergeL, setAll, nth, renB, ren, idx?, sub, allP, low, bnd, Int.reduceEq, Nat.reduceAdd, Nat.reduceLT, reduceIte, reduceCtorEq, Nat.reduceEqDiff, Nat.reduceLeDiff, Nat.reduceBEq, Int.reducePow, Int.reduceToNat, ti22_t, ti22_z, ti5_t, ti5_z, ti51_t, ti51_z, ti53_t, ti53_z, ti103_t, ti103_z, ti76_t, ti76_z, ti71_t, ti71_z]); rfl) (h : st = s2 := by (try simp only [pk, elemB, St.put, St.ev, St.tmp, St.keep, find, dropT, slots, AV.put, AV.loc, fitI, convI, IntKind.signed, IntKind.bits, strip, St.lose, mergeL, setAll, nth, renB, ren, idx?, sub, allP, low, bnd, Int.reduceEq, Nat.reduceAdd, Nat.reduceLT, reduceIte, reduceCtorEq, Nat.reduceEqDiff, Nat.reduceLeDiff, Nat.reduceBEq, Int.reducePow, Int.reduceToNat, ti22_t, ti22_z, ti5_t, ti5_z, ti51_t, ti51_z, ti53_t, ti53_z, ti103_t, ti103_z, ti76_t, ti76_z, ti71_t, ti71_z]); rfl) : RelT P w0 N nt gS q2 s2 a w := h1 ▸ h ▸ H
theorem ct_PackL {c : Prop} (h : c := by ((try simp only [pk, elemB, St.put, St.ev, St.tmp, St.keep, find, dropT, slots, AV.put, AV.loc, fitI, convI, IntKind.signed, IntKind.bits, strip, St.lose, mergeL, setAll, nth, renB, ren, idx?, sub, allP, low, bnd, Int.reduceEq, Nat.reduceAdd, Nat.reduceLT, reduceIte, reduceCtorEq, Nat.reduceEqDiff, Nat.reduceLeDiff, Nat.reduceBEq, Int.reducePow, Int.reduceToNat, ti22_t, ti22_z, ti5_t, ti5_z, ti51_t, ti51_z, ti53_t, ti53_z, ti103_t, ti103_z, ti76_t, ti76_z, ti71_t, ti71_z, ti22, ti5, ti51, ti53, ti103, ti76, ti71, fit, gcond, ilo, ihi]); first | done | exact cd | exact cd2 | skip)) : c := h
theorem num_two (n : Nat) (hn : n < 65536) : num 0 [UInt8.ofNat (n / 256), UInt8.ofNat n] = n := by
  simp only [num, UInt8.toNat_ofNat']; omega
theorem marks_bits (s : List (List UInt8)) : marksOf (bitsB s.length (hidesB s)) s.length = s.map (· != E0) := by
  apply List.ext_getElem
  · rw [marks_len, List.length_map]
  · intro k h1 h2
    rw [marks_len] at h1
    simp only [marksOf, List.getElem_map, List.getElem_range]
    rw [bitsB_bit _ _ _ h1, hidesB, List.getElem?_eq_getElem h1]
theorem runS_back : ∀ (s : List (List UInt8)) (r : List UInt8), (∀ h ∈ s, h.length = 32) → runS (s.map (· != E0)) (hashes s ++ r) = (s, r, false)
  | [], r, _ => rfl
  | h :: s, r, hs => by
    have h1 := hs h List.mem_cons_self
    have ih := runS_back s r fun x hx => hs x (List.mem_cons_of_mem _ hx)
    rw [List.map_cons]
    by_cases he : h = E0
    · have h2 : (h != E0) = false := by simp [he]
      have h3 : hashes (h :: s) = hashes s := by unfold hashes; rw [List.filter_cons_of_neg (p := (· != E0)) (by rw [h2]; decide)]
      rw [h2, h3, runS, if_neg (fun e => by cases e.1)]
      simp only [Bool.false_eq_true, if_false]
      rw [ih, he]
    · have h2 : (h != E0) = true := by simpa using he
      have h3 : hashes (h :: s) = h ++ hashes s := by unfold hashes; rw [List.filter_cons_of_pos (p := (· != E0)) h2, List.flatten_cons]
      rw [h2, h3, runS, if_neg (fun e => by have := e.2; simp only [List.length_append] at this; omega)]
      simp only [if_true]
      have e1 : ((h ++ hashes s) ++ r).take 32 = h := by rw [List.append_assoc, ← h1, List.take_left]
      have e2 : ((h ++ hashes s) ++ r).drop 32 = hashes s ++ r := by rw [List.append_assoc, ← h1, List.drop_left]
      rw [e1, e2, ih]
def Pf.pre (p : Pf) (r : List UInt8) : List UInt8 := [UInt8.ofNat (p.s.length / 256), UInt8.ofNat p.s.length] ++ (p.bits ++ (hashes p.s ++ r))
theorem Pf.text_pre (p : Pf) : p.text = p.pre p.e.text := rfl
theorem rdQ_pre (p : Pf) (hw : p.wf) (hn : p.s.length ≤ 256) (r : List UInt8) : rdQ (p.pre r) = (⟨p.s, dec r⟩, decide (decOk r)) := by
  have hbl : p.bits.length = (p.s.length + 7) / 8 := bitsB_len _ _
  have e1 : (p.pre r).take 2 = [UInt8.ofNat (p.s.length / 256), UInt8.ofNat p.s.length] := rfl
  have e2 : (p.pre r).drop 2 = p.bits ++ (hashes p.s ++ r) := rfl
  have e3 : ¬ (p.pre r).length < 2 := by unfold Pf.pre; simp only [List.length_append, List.length_cons, List.length_nil]; omega
  have e4 : (p.bits ++ (hashes p.s ++ r)).take ((p.s.length + 7) / 8) = p.bits := by rw [← hbl, List.take_left]
  have e5 : (p.bits ++ (hashes p.s ++ r)).drop ((p.s.length + 7) / 8) = hashes p.s ++ r := by rw [← hbl, List.drop_left]
  rw [rdQ, if_neg e3, e1, e2, num_two _ (by omega), if_neg (by omega), if_neg (by rw [List.length_append]; omega), e4, e5]
  have e6 : marksOf p.bits p.s.length = p.s.map (· != E0) := marks_bits p.s
  rw [e6, runS_back _ _ hw.s]
  rfl
theorem Pf.chk_ok {p : Pf} (h : p.chk = 0) : p.s.length ≤ 256 ∧ p.e.ok ∧ p.e.k ≠ 2 := by
  unfold Pf.chk at h
  split at h
  · cases h
  · split at h
    · rename_i h1 h2; exact ⟨by omega, h2⟩
    · cases h
theorem Pf.chk_no {p : Pf} (h : p.chk ≠ 0) : ¬ (p.s.length ≤ 256 ∧ p.e.ok ∧ p.e.k ≠ 2) := by
  rintro ⟨h1, h2⟩
  apply h
  rw [Pf.chk, if_neg (by omega), if_pos h2]
theorem ntext_len {n : Nd} (hw : n.wf) (h2 : n.k ≠ 2) : n.text.length = 1 ∨ n.text.length = 65 := by
  obtain ⟨h1, h3, _, _⟩ := hw
  unfold Nd.text
  split
  · right; simp; omega
  · left; first | rfl | (rw [if_neg h2]; rfl)
theorem pback (p : Pf) (hw : p.wf) (h : p.chk = 0) : pOk p.text ∧ pDec p.text = p := by
  obtain ⟨h1, h2, h3⟩ := p.chk_ok h
  obtain ⟨d1, d2⟩ := text_dec hw.e h2
  have e : rdQ p.text = (p, true) := by rw [p.text_pre, rdQ_pre p hw h1, d2, decide_eq_true d1]
  have hp : pOk p.text := by unfold pOk; rw [e]; exact ⟨rfl, h, rfl⟩
  exact ⟨hp, by rw [pDec, if_pos hp, e]⟩
theorem no_dec {r : List UInt8} (h1 : r.length ≠ 1) (h2 : r.length ≠ 65) : ¬ decOk r := by
  rintro (h | ⟨h, _⟩)
  · subst h; exact h1 rfl
  · exact h2 h
theorem pmore (p : Pf) (hw : p.wf) (h : p.chk = 0) (c : UInt8) : ¬ pOk (p.text ++ [c]) := by
  obtain ⟨h1, h2, h3⟩ := p.chk_ok h
  have hl := ntext_len hw.e h3
  have e : p.text ++ [c] = p.pre (p.e.text ++ [c]) := by rw [p.text_pre]; simp [Pf.pre]
  rintro ⟨h4, _⟩
  rw [e, rdQ_pre p hw h1] at h4
  exact no_dec (r := p.e.text ++ [c]) (by rw [List.length_append]; simp only [List.length_cons, List.length_nil]; omega) (by rw [List.length_append]; simp only [List.length_cons, List.length_nil]; omega) (by simpa using h4)
theorem pless (p : Pf) (hw : p.wf) (h : p.chk = 0) : ¬ pOk (p.text.take (p.text.length - 1)) := by
  obtain ⟨h1, h2, h3⟩ := p.chk_ok h
  have hl := ntext_len hw.e h3
  have e : p.text.take (p.text.length - 1) = p.pre (p.e.text.take (p.e.text.length - 1)) := by
    rw [p.text_pre]
    simp only [Pf.pre]
    rw [← List.append_assoc, ← List.append_assoc, ← List.append_assoc, ← List.append_assoc, List.take_append]
    rw [List.take_of_length_le (by simp only [List.length_append]; omega)]
    congr 2
    simp only [List.length_append]; omega
  rintro ⟨h4, _⟩
  rw [e, rdQ_pre p hw h1] at h4
  exact no_dec (r := p.e.text.take (p.e.text.length - 1)) (by rw [List.length_take]; omega) (by rw [List.length_take]; omega) (by simpa using h4)
theorem plen (p : Pf) (hw : p.wf) (h : p.chk = 0) : 3 ≤ p.text.length ∧ p.text.length ≤ 8291 := by
  obtain ⟨h1, h2, h3⟩ := p.chk_ok h
  have hl := ntext_len hw.e h3
  have hbl : p.bits.length = (p.s.length + 7) / 8 := bitsB_len _ _
  have hh := hashes_len p.s hw.s
  simp only [Pf.text, List.length_append, List.length_cons, List.length_nil]
  omega
set_option maxRecDepth 20000 in
set_option maxHeartbeats 1600000 in
theorem packBack_ok (p : Pf) (hw : p.wf) (h : p.chk = 0) (l : List UInt8) (hl : l.length ≤ 1048576) (c : UInt8) : VC Try.prog 9 [p.av, .bs l none, .v (B8 c)] [] (.v (.bool true)) := by
  have hlen := plen p hw h
  have hc8 := c.toNat_lt
  have e1 := encodeP_ok p hw h
  have e2 := decodeP_v p.text (by omega)
  rw [if_pos (pback p hw h).1, (pback p hw h).2] at e2
  have e3 := sameP_v p p hw hw (by have := (p.chk_ok h).1; omega)
  have e4 := copyB_v p.text (by omega)
  have e5 := decodeP_v (p.text ++ [c]) (by simp; omega)
  rw [if_neg (pmore p hw h c), pDec, if_neg (pmore p hw h c)] at e5
  have e6 := decodeP_v (p.text.take (p.text.length - 1)) (by rw [List.length_take]; omega)
  rw [if_neg (pless p hw h), pDec, if_neg (pless p hw h)] at e6
  rw [decide_eq_true rfl] at e3
  obtain ⟨g1, g2, g3, g4⟩ := id hw.e
  have hz2 := z32_len
  refine v_enter Try.func9 rfl (by kernel_rfl) (by show 3 ≤ 108; decide) ?_
  intro N w0 a w hN hR H
  simp only [Pf.av, Nd.av, Pf.zero, Nd.zero] at H e1 e2 e3 e5 e6
  repeat (first | refine wp_seq ?_ | refine wp_block ?_ | refine wp_skip ?_ | refine wp_exit ?_ | ((first | refine v_some 5 tab_ok hN H (by rfl) ct_PackL ?_ | refine v_more tab_ok hN H (by rfl) (by rfl) ct_PackL ?_); clear H; intro a w H; replace H := nf_PackL H; (try simp only [List.drop_succ_cons, List.drop_zero, List.drop_nil]); try refine wpList_nil ?_) | refine wp_region_lit ?_)
  refine v_call [] [] (e1) H rfl rfl (by rfl) cb cw ca ?_; clear H; intro a w H; replace H := nf_PackL H; try refine wpList_nil ?_
  repeat (first | refine wp_seq ?_ | refine wp_block ?_ | refine wp_skip ?_ | refine wp_exit ?_ | ((first | refine v_some 5 tab_ok hN H (by rfl) ct_PackL ?_ | refine v_more tab_ok hN H (by rfl) (by rfl) ct_PackL ?_); clear H; intro a w H; replace H := nf_PackL H; (try simp only [List.drop_succ_cons, List.drop_zero, List.drop_nil]); try refine wpList_nil ?_) | refine wp_region_lit ?_)
  refine v_cond H (by rfl) (fun hb => ?_) (fun hb => ?_)
  · repeat (first | refine wp_seq ?_ | refine wp_block ?_ | refine wp_skip ?_ | refine wp_exit ?_ | ((first | refine v_some 5 tab_ok hN H (by rfl) ct_PackL ?_ | refine v_more tab_ok hN H (by rfl) (by rfl) ct_PackL ?_); clear H; intro a w H; replace H := nf_PackL H; (try simp only [List.drop_succ_cons, List.drop_zero, List.drop_nil]); try refine wpList_nil ?_) | refine wp_region_lit ?_)
    refine v_call [] [] (e2) H rfl rfl (by rfl) cb cw ca ?_; clear H; intro a w H; replace H := nf_PackL H; try refine wpList_nil ?_
    repeat (first | refine wp_seq ?_ | refine wp_block ?_ | refine wp_skip ?_ | refine wp_exit ?_ | ((first | refine v_some 5 tab_ok hN H (by rfl) ct_PackL ?_ | refine v_more tab_ok hN H (by rfl) (by rfl) ct_PackL ?_); clear H; intro a w H; replace H := nf_PackL H; (try simp only [List.drop_succ_cons, List.drop_zero, List.drop_nil]); try refine wpList_nil ?_) | refine wp_region_lit ?_)
    refine v_callG [] [] (e3) H (by rfl) rfl (by rfl) cb cw ca (by rfl) (by rfl) (by rfl) ?_; clear H; intro a w H; replace H := nf_PackL H; try refine wpList_nil ?_
    repeat (first | refine wp_seq ?_ | refine wp_block ?_ | refine wp_skip ?_ | refine wp_exit ?_ | ((first | refine v_some 5 tab_ok hN H (by rfl) ct_PackL ?_ | refine v_more tab_ok hN H (by rfl) (by rfl) ct_PackL ?_); clear H; intro a w H; replace H := nf_PackL H; (try simp only [List.drop_succ_cons, List.drop_zero, List.drop_nil]); try refine wpList_nil ?_) | refine wp_region_lit ?_)
    refine v_cond H (by rfl) (fun hb => ?_) (fun hb => ?_)
    · exfalso; simp at hb; omega
    · repeat (first | refine wp_seq ?_ | refine wp_block ?_ | refine wp_skip ?_ | refine wp_exit ?_ | ((first | refine v_some 5 tab_ok hN H (by rfl) ct_PackL ?_ | refine v_more tab_ok hN H (by rfl) (by rfl) ct_PackL ?_); clear H; intro a w H; replace H := nf_PackL H; (try simp only [List.drop_succ_cons, List.drop_zero, List.drop_nil]); try refine wpList_nil ?_) | refine wp_region_lit ?_)
      refine v_call [] [] (e4) H rfl rfl (by rfl) cb cw ca ?_; clear H; intro a w H; replace H := nf_PackL H; try refine wpList_nil ?_
      repeat (first | refine wp_seq ?_ | refine wp_block ?_ | refine wp_skip ?_ | refine wp_exit ?_ | ((first | refine v_some 5 tab_ok hN H (by rfl) ct_PackL ?_ | refine v_more tab_ok hN H (by rfl) (by rfl) ct_PackL ?_); clear H; intro a w H; replace H := nf_PackL H; (try simp only [List.drop_succ_cons, List.drop_zero, List.drop_nil]); try refine wpList_nil ?_) | refine wp_region_lit ?_)
      refine v_call [] [] (e5) H rfl rfl (by rfl) cb cw ca ?_; clear H; intro a w H; replace H := nf_PackL H; try refine wpList_nil ?_
      repeat (first | refine wp_seq ?_ | refine wp_block ?_ | refine wp_skip ?_ | refine wp_exit ?_ | ((first | refine v_some 5 tab_ok hN H (by rfl) ct_PackL ?_ | refine v_more tab_ok hN H (by rfl) (by rfl) ct_PackL ?_); clear H; intro a w H; replace H := nf_PackL H; (try simp only [List.drop_succ_cons, List.drop_zero, List.drop_nil]); try refine wpList_nil ?_) | refine wp_region_lit ?_)
      refine v_call [] [] (e6) H rfl rfl (by rfl) cb cw ca ?_; clear H; intro a w H; replace H := nf_PackL H; try refine wpList_nil ?_
      repeat (first | refine wp_seq ?_ | refine wp_block ?_ | refine wp_skip ?_ | refine wp_exit ?_ | ((first | refine v_some 5 tab_ok hN H (by rfl) ct_PackL ?_ | refine v_more tab_ok hN H (by rfl) (by rfl) ct_PackL ?_); clear H; intro a w H; replace H := nf_PackL H; (try simp only [List.drop_succ_cons, List.drop_zero, List.drop_nil]); try refine wpList_nil ?_) | refine wp_region_lit ?_)
      refine v_cond H (by rfl) (fun hb => ?_) (fun hb => ?_)
      · simp at hb
      · skip
        replace H := H.keep [1, 6] 0 0 ⟨Nat.le_trans hN (by show _ ≤ 0; decide), Nat.le_trans hR (by show _ ≤ 0; decide)⟩ (by rfl) (by rfl)
        replace H := nf_PackL H
        repeat (first | refine wp_seq ?_ | refine wp_block ?_ | refine wp_skip ?_ | refine wp_exit ?_ | ((first | refine v_some 5 tab_ok hN H (by rfl) ct_PackL ?_ | refine v_more tab_ok hN H (by rfl) (by rfl) ct_PackL ?_); clear H; intro a w H; replace H := nf_PackL H; (try simp only [List.drop_succ_cons, List.drop_zero, List.drop_nil]); try refine wpList_nil ?_) | refine wp_region_lit ?_)
        by_cases hd : pOk l
        · have t1 := decodeP_v l (by omega)
          rw [if_pos hd, pDec, if_pos hd] at t1
          have t2 := encodeP_ok (rdQ l).1 (rdQ_wf l) hd.2.1
          rw [hd.2.2] at t2
          obtain ⟨k1, k2, k3, k4⟩ := id (rdQ_wf l).e
          simp only [Pf.av, Nd.av] at t1 t2
          refine v_call [] [] (t1) H rfl rfl (by rfl) cb cw ca ?_; clear H; intro a w H; replace H := nf_PackL H; try refine wpList_nil ?_
          repeat (first | refine wp_seq ?_ | refine wp_block ?_ | refine wp_skip ?_ | refine wp_exit ?_ | ((first | refine v_some 5 tab_ok hN H (by rfl) ct_PackL ?_ | refine v_more tab_ok hN H (by rfl) (by rfl) ct_PackL ?_); clear H; intro a w H; replace H := nf_PackL H; (try simp only [List.drop_succ_cons, List.drop_zero, List.drop_nil]); try refine wpList_nil ?_) | refine wp_region_lit ?_)
          refine v_cond H (by rfl) (fun hb => ?_) (fun hb => ?_)
          · simp at hb
          · repeat (first | refine wp_seq ?_ | refine wp_block ?_ | refine wp_skip ?_ | refine wp_exit ?_ | ((first | refine v_some 5 tab_ok hN H (by rfl) ct_PackL ?_ | refine v_more tab_ok hN H (by rfl) (by rfl) ct_PackL ?_); clear H; intro a w H; replace H := nf_PackL H; (try simp only [List.drop_succ_cons, List.drop_zero, List.drop_nil]); try refine wpList_nil ?_) | refine wp_region_lit ?_)
            refine v_call [] [] (t2) H rfl rfl (by rfl) cb cw ca ?_; clear H; intro a w H; replace H := nf_PackL H; try refine wpList_nil ?_
            repeat (first | refine wp_seq ?_ | refine wp_block ?_ | refine wp_skip ?_ | refine wp_exit ?_ | ((first | refine v_some 5 tab_ok hN H (by rfl) ct_PackL ?_ | refine v_more tab_ok hN H (by rfl) (by rfl) ct_PackL ?_); clear H; intro a w H; replace H := nf_PackL H; (try simp only [List.drop_succ_cons, List.drop_zero, List.drop_nil]); try refine wpList_nil ?_) | refine wp_region_lit ?_)
            refine v_callG [] [] (same_v l l) H (by rfl) rfl (by rfl) (by simp [pickB, bxs, ren, idx?, sub_refl, sub, allP, beq_self_eq_true] <;> omega) (by first | rfl | (simp [beq_self_eq_true] <;> omega)) (by first | exact trivial | exact ⟨sub_refl _ _, trivial⟩ | exact ⟨sub_refl _ _, sub_refl _ _, trivial⟩ | exact ⟨sub_refl _ _, sub_refl _ _, sub_refl _ _, trivial⟩ | exact ⟨⟨rfl, sub_refl _ _, trivial⟩, sub_refl _ _, trivial⟩ | (simp [cargs, cargsG, St.ev, St.tmp, find, ren, idx?, sub_refl, sub, allP, resv, resC, bss, beq_self_eq_true] <;> omega)) (by rfl) (by rfl) (by rfl) ?_; clear H; intro a w H; replace H := nf_PackL H; first | (simp only [beq_self_eq_true] at H; replace H := nf_PackL H) | skip; try refine wpList_nil ?_
            repeat (first | refine wp_seq ?_ | refine wp_block ?_ | refine wp_skip ?_ | refine wp_exit ?_ | ((first | refine v_some 5 tab_ok hN H (by rfl) (by (try simp only [beq_self_eq_true]); first | done | exact ct_PackL) ?_ | refine v_more tab_ok hN H (by rfl) (by rfl) (by (try simp only [beq_self_eq_true]); first | done | exact ct_PackL) ?_); clear H; intro a w H; replace H := nf_PackL H; first | (simp only [beq_self_eq_true] at H; replace H := nf_PackL H) | skip; (try simp only [List.drop_succ_cons, List.drop_zero, List.drop_nil]); try refine wpList_nil ?_) | refine wp_region_lit ?_)
            refine wp_ret ?_
            exact v_end [] [] tab_ok ⟨hN, hR⟩ (rs := [.tmp 6]) (ress := [_]) rfl H (by rfl) (by rfl) (by simp [pickB, bxs, ren, idx?, sub_refl, sub, allP, beq_self_eq_true] <;> omega) (by first | rfl | (simp [beq_self_eq_true] <;> omega)) (by first | exact trivial | exact ⟨sub_refl _ _, trivial⟩ | exact ⟨sub_refl _ _, sub_refl _ _, trivial⟩ | exact ⟨sub_refl _ _, sub_refl _ _, sub_refl _ _, trivial⟩ | exact ⟨⟨rfl, sub_refl _ _, trivial⟩, sub_refl _ _, trivial⟩ | (simp [cargs, cargsG, St.ev, St.tmp, find, ren, idx?, sub_refl, sub, allP, resv, resC, bss, beq_self_eq_true] <;> omega)) rfl
        · have t1 := decodeP_v l (by omega)
          rw [if_neg hd, pDec, if_neg hd] at t1
          simp only [Pf.av, Nd.av, Pf.zero, Nd.zero] at t1
          refine v_call [] [] (t1) H rfl rfl (by rfl) cb cw ca ?_; clear H; intro a w H; replace H := nf_PackL H; try refine wpList_nil ?_
          repeat (first | refine wp_seq ?_ | refine wp_block ?_ | refine wp_skip ?_ | refine wp_exit ?_ | ((first | refine v_some 5 tab_ok hN H (by rfl) ct_PackL ?_ | refine v_more tab_ok hN H (by rfl) (by rfl) ct_PackL ?_); clear H; intro a w H; replace H := nf_PackL H; (try simp only [List.drop_succ_cons, List.drop_zero, List.drop_nil]); try refine wpList_nil ?_) | refine wp_region_lit ?_)
          refine v_cond H (by rfl) (fun hb => ?_) (fun hb => ?_)
          · repeat (first | refine wp_seq ?_ | refine wp_block ?_ | refine wp_skip ?_ | refine wp_exit ?_ | ((first | refine v_some 5 tab_ok hN H (by rfl) ct_PackL ?_ | refine v_more tab_ok hN H (by rfl) (by rfl) ct_PackL ?_); clear H; intro a w H; replace H := nf_PackL H; (try simp only [List.drop_succ_cons, List.drop_zero, List.drop_nil]); try refine wpList_nil ?_) | refine wp_region_lit ?_)
            refine wp_ret ?_
            exact v_end [] [] tab_ok ⟨hN, hR⟩ (rs := [.tmp 6]) (ress := [_]) rfl H (by rfl) (by rfl) cb cw ca rfl
          · simp at hb
  · simp at hb
set_option maxRecDepth 20000 in
set_option maxHeartbeats 1600000 in
theorem packBack_bad (p : Pf) (hw : p.wf) (h : p.chk ≠ 0) (l : List UInt8) (hl : l.length ≤ 1048576) (hpl : p.s.length ≤ 1048576) (c : UInt8) : VC Try.prog 9 [p.av, .bs l none, .v (B8 c)] [] (.v (.bool true)) := by
  have hno := Pf.chk_no h
  have e1 := encodeP_bad p hw h
  have e2 := check_v p.e hw.e
  obtain ⟨g1, g2, g3, g4⟩ := id hw.e
  have hz2 := z32_len
  have hbl := bas_len p.s
  have hk2 : ((p.e.k.toNat : Int) = 2) ↔ p.e.k = 2 := ⟨fun h => UInt8.toNat_inj.1 (by simp; omega), fun h => by rw [h]; rfl⟩
  refine v_enter Try.func9 rfl (by kernel_rfl) (by show 3 ≤ 108; decide) ?_
  intro N w0 a w hN hR H
  simp only [Pf.av, Nd.av, Pf.zero, Nd.zero] at H e1 e2
  repeat (first | refine wp_seq ?_ | refine wp_block ?_ | refine wp_skip ?_ | refine wp_exit ?_ | ((first | refine v_some 5 tab_ok hN H (by rfl) ct_PackL ?_ | refine v_more tab_ok hN H (by rfl) (by rfl) ct_PackL ?_); clear H; intro a w H; replace H := nf_PackL H; (try simp only [List.drop_succ_cons, List.drop_zero, List.drop_nil]); try refine wpList_nil ?_) | refine wp_region_lit ?_)
  refine v_call [] [] (e1) H rfl rfl (by rfl) cb cw ca ?_; clear H; intro a w H; replace H := nf_PackL H; try refine wpList_nil ?_
  repeat (first | refine wp_seq ?_ | refine wp_block ?_ | refine wp_skip ?_ | refine wp_exit ?_ | ((first | refine v_some 5 tab_ok hN H (by rfl) ct_PackL ?_ | refine v_more tab_ok hN H (by rfl) (by rfl) ct_PackL ?_); clear H; intro a w H; replace H := nf_PackL H; (try simp only [List.drop_succ_cons, List.drop_zero, List.drop_nil]); try refine wpList_nil ?_) | refine wp_region_lit ?_)
  refine v_cond H (by rfl) (fun hb => ?_) (fun hb => ?_)
  · simp [h] at hb
  · repeat (first | refine wp_seq ?_ | refine wp_block ?_ | refine wp_skip ?_ | refine wp_exit ?_ | ((first | refine v_some 5 tab_ok hN H (by rfl) ct_PackL ?_ | refine v_more tab_ok hN H (by rfl) (by rfl) ct_PackL ?_); clear H; intro a w H; replace H := nf_PackL H; (try simp only [List.drop_succ_cons, List.drop_zero, List.drop_nil]); try refine wpList_nil ?_) | refine wp_region_lit ?_)
    refine v_callG [] [] (e2) H (by rfl) rfl (by rfl) cb cw ca (by rfl) (by rfl) (by rfl) ?_; clear H; intro a w H; replace H := nf_PackL H; try refine wpList_nil ?_
    repeat (first | refine wp_seq ?_ | refine wp_block ?_ | refine wp_skip ?_ | refine wp_exit ?_ | ((first | refine v_some 5 tab_ok hN H (by rfl) ct_PackL ?_ | refine v_more tab_ok hN H (by rfl) (by rfl) ct_PackL ?_); clear H; intro a w H; replace H := nf_PackL H; (try simp only [List.drop_succ_cons, List.drop_zero, List.drop_nil]); try refine wpList_nil ?_) | refine wp_region_lit ?_)
    refine v_cond H (by rfl) (fun hb => ?_) (fun hb => ?_)
    · exfalso
      rw [hbl] at hb
      by_cases h6 : p.s.length ≤ 256
      · by_cases ho : p.e.ok
        · by_cases hk : p.e.k = 2
          · rw [decide_eq_true (hk2.2 hk)] at hb; simp at hb
          · exact hno ⟨h6, ho, hk⟩
        · simp [ho] at hb
      · rw [decide_eq_false (show ¬ ((p.s.length : Int) ≤ 256) by omega)] at hb; simp at hb
    · skip
      replace H := H.keep [1, 6] 0 0 ⟨Nat.le_trans hN (by show _ ≤ 0; decide), Nat.le_trans hR (by show _ ≤ 0; decide)⟩ (by rfl) (by rfl)
      replace H := nf_PackL H
      repeat (first | refine wp_seq ?_ | refine wp_block ?_ | refine wp_skip ?_ | refine wp_exit ?_ | ((first | refine v_some 5 tab_ok hN H (by rfl) ct_PackL ?_ | refine v_more tab_ok hN H (by rfl) (by rfl) ct_PackL ?_); clear H; intro a w H; replace H := nf_PackL H; (try simp only [List.drop_succ_cons, List.drop_zero, List.drop_nil]); try refine wpList_nil ?_) | refine wp_region_lit ?_)
      by_cases hd : pOk l
      · have t1 := decodeP_v l (by omega)
        rw [if_pos hd, pDec, if_pos hd] at t1
        have t2 := encodeP_ok (rdQ l).1 (rdQ_wf l) hd.2.1
        rw [hd.2.2] at t2
        obtain ⟨k1, k2, k3, k4⟩ := id (rdQ_wf l).e
        simp only [Pf.av, Nd.av] at t1 t2
        refine v_call [] [] (t1) H rfl rfl (by rfl) cb cw ca ?_; clear H; intro a w H; replace H := nf_PackL H; try refine wpList_nil ?_
        repeat (first | refine wp_seq ?_ | refine wp_block ?_ | refine wp_skip ?_ | refine wp_exit ?_ | ((first | refine v_some 5 tab_ok hN H (by rfl) ct_PackL ?_ | refine v_more tab_ok hN H (by rfl) (by rfl) ct_PackL ?_); clear H; intro a w H; replace H := nf_PackL H; (try simp only [List.drop_succ_cons, List.drop_zero, List.drop_nil]); try refine wpList_nil ?_) | refine wp_region_lit ?_)
        refine v_cond H (by rfl) (fun hb => ?_) (fun hb => ?_)
        · simp at hb
        · repeat (first | refine wp_seq ?_ | refine wp_block ?_ | refine wp_skip ?_ | refine wp_exit ?_ | ((first | refine v_some 5 tab_ok hN H (by rfl) ct_PackL ?_ | refine v_more tab_ok hN H (by rfl) (by rfl) ct_PackL ?_); clear H; intro a w H; replace H := nf_PackL H; (try simp only [List.drop_succ_cons, List.drop_zero, List.drop_nil]); try refine wpList_nil ?_) | refine wp_region_lit ?_)
          refine v_call [] [] (t2) H rfl rfl (by rfl) cb cw ca ?_; clear H; intro a w H; replace H := nf_PackL H; try refine wpList_nil ?_
          repeat (first | refine wp_seq ?_ | refine wp_block ?_ | refine wp_skip ?_ | refine wp_exit ?_ | ((first | refine v_some 5 tab_ok hN H (by rfl) ct_PackL ?_ | refine v_more tab_ok hN H (by rfl) (by rfl) ct_PackL ?_); clear H; intro a w H; replace H := nf_PackL H; (try simp only [List.drop_succ_cons, List.drop_zero, List.drop_nil]); try refine wpList_nil ?_) | refine wp_region_lit ?_)
          refine v_callG [] [] (same_v l l) H (by rfl) rfl (by rfl) (by simp [pickB, bxs, ren, idx?, sub_refl, sub, allP, beq_self_eq_true] <;> omega) (by first | rfl | (simp [beq_self_eq_true] <;> omega)) (by first | exact trivial | exact ⟨sub_refl _ _, trivial⟩ | exact ⟨sub_refl _ _, sub_refl _ _, trivial⟩ | exact ⟨sub_refl _ _, sub_refl _ _, sub_refl _ _, trivial⟩ | exact ⟨⟨rfl, sub_refl _ _, trivial⟩, sub_refl _ _, trivial⟩ | (simp [cargs, cargsG, St.ev, St.tmp, find, ren, idx?, sub_refl, sub, allP, resv, resC, bss, beq_self_eq_true] <;> omega)) (by rfl) (by rfl) (by rfl) ?_; clear H; intro a w H; replace H := nf_PackL H; first | (simp only [beq_self_eq_true] at H; replace H := nf_PackL H) | skip; try refine wpList_nil ?_
          repeat (first | refine wp_seq ?_ | refine wp_block ?_ | refine wp_skip ?_ | refine wp_exit ?_ | ((first | refine v_some 5 tab_ok hN H (by rfl) (by (try simp only [beq_self_eq_true]); first | done | exact ct_PackL) ?_ | refine v_more tab_ok hN H (by rfl) (by rfl) (by (try simp only [beq_self_eq_true]); first | done | exact ct_PackL) ?_); clear H; intro a w H; replace H := nf_PackL H; first | (simp only [beq_self_eq_true] at H; replace H := nf_PackL H) | skip; (try simp only [List.drop_succ_cons, List.drop_zero, List.drop_nil]); try refine wpList_nil ?_) | refine wp_region_lit ?_)
          refine wp_ret ?_
          exact v_end [] [] tab_ok ⟨hN, hR⟩ (rs := [.tmp 6]) (ress := [_]) rfl H (by rfl) (by rfl) (by simp [pickB, bxs, ren, idx?, sub_refl, sub, allP, beq_self_eq_true] <;> omega) (by first | rfl | (simp [beq_self_eq_true] <;> omega)) (by first | exact trivial | exact ⟨sub_refl _ _, trivial⟩ | exact ⟨sub_refl _ _, sub_refl _ _, trivial⟩ | exact ⟨sub_refl _ _, sub_refl _ _, sub_refl _ _, trivial⟩ | exact ⟨⟨rfl, sub_refl _ _, trivial⟩, sub_refl _ _, trivial⟩ | (simp [cargs, cargsG, St.ev, St.tmp, find, ren, idx?, sub_refl, sub, allP, resv, resC, bss, beq_self_eq_true] <;> omega)) rfl
      · have t1 := decodeP_v l (by omega)
        rw [if_neg hd, pDec, if_neg hd] at t1
        simp only [Pf.av, Nd.av, Pf.zero, Nd.zero] at t1
        refine v_call [] [] (t1) H rfl rfl (by rfl) cb cw ca ?_; clear H; intro a w H; replace H := nf_PackL H; try refine wpList_nil ?_
        repeat (first | refine wp_seq ?_ | refine wp_block ?_ | refine wp_skip ?_ | refine wp_exit ?_ | ((first | refine v_some 5 tab_ok hN H (by rfl) ct_PackL ?_ | refine v_more tab_ok hN H (by rfl) (by rfl) ct_PackL ?_); clear H; intro a w H; replace H := nf_PackL H; (try simp only [List.drop_succ_cons, List.drop_zero, List.drop_nil]); try refine wpList_nil ?_) | refine wp_region_lit ?_)
        refine v_cond H (by rfl) (fun hb => ?_) (fun hb => ?_)
        · repeat (first | refine wp_seq ?_ | refine wp_block ?_ | refine wp_skip ?_ | refine wp_exit ?_ | ((first | refine v_some 5 tab_ok hN H (by rfl) ct_PackL ?_ | refine v_more tab_ok hN H (by rfl) (by rfl) ct_PackL ?_); clear H; intro a w H; replace H := nf_PackL H; (try simp only [List.drop_succ_cons, List.drop_zero, List.drop_nil]); try refine wpList_nil ?_) | refine wp_region_lit ?_)
          refine wp_ret ?_
          exact v_end [] [] tab_ok ⟨hN, hR⟩ (rs := [.tmp 6]) (ress := [_]) rfl H (by rfl) (by rfl) cb cw ca rfl
        · simp at hb
theorem packBack_v (p : Pf) (hw : p.wf) (hpl : p.s.length ≤ 1048576) (l : List UInt8) (hl : l.length ≤ 1048576) (c : UInt8) : VC Try.prog 9 [p.av, .bs l none, .v (B8 c)] [] (.v (.bool true)) := by
  by_cases h : p.chk = 0
  · exact packBack_ok p hw h l hl c
  · exact packBack_bad p hw h l hl hpl c
end Go.Proofs.Ytpeefeioccglcaa
