/- Proofs as bytes: how they are read. -/
import Derived.Test.YtlagngkafllbiaaPack
import Derived.Test.YtlagngkafllbiaaLent
set_option linter.unusedSimpArgs false
set_option linter.unusedVariables false
namespace Go.Proofs.Ytlagngkafllbiaa
open Go Go.RowKit
/-- The state made plain. -/
theorem nf_Pack2 {P : Program} {w0 w : World} {N : Gh} {nt : Nat} {st s2 : St} {a : Act} (H : Rel P w0 N nt st a w) (h : st = s2 := by (try simp only [pk, elemB, St.put, St.ev, St.tmp, St.keep, find, dropT, slots, AV.put, AV.loc, fitI, convI, IntKind.signed, IntKind.bits, strip, St.lose, mergeL, setAll, nth, renB, ren, idx?, sub, allP, low, bnd, Int.reduceEq, Nat.reduceAdd, Nat.reduceLT, reduceIte, reduceCtorEq, Nat.reduceEqDiff, Nat.reduceLeDiff, Nat.reduceBEq, Int.reducePow, Int.reduceToNat, ti24_t, ti24_z, ti5_t, ti5_z, ti30_t, ti30_z, ti62_t, ti62_z, ti64_t, ti64_z, ti41_t, ti41_z, ti26_t, ti26_z]); rfl) : Rel P w0 N nt s2 a w := h ▸ H
theorem nt_Pack2 {P : Program} {w0 w : World} {N gS : Gh} {nt : Nat} {q q2 st s2 : St} {a : Act} (H : RelT P w0 N nt gS q st a w) (h1 : q = q2 := by (try simp only [pk, elemB, St.put, St.ev, St.tmp, St.keep, find, dropT, slots, AV.put, AV.loc, fitI, convI, IntKind.signed, IntKind.bits, strip, St.lose, mergeL, setAll, nth, renB, ren, idx?, sub, allP, low, bnd, Int.reduceEq, Nat.reduceAdd, Nat.reduceLT, reduceIte, reduceCtorEq, Nat.reduceEqDiff, Nat.reduceLeDiff, Nat.reduceBEq, Int.reducePow, Int.reduceToNat, ti24_t, ti24_z, ti5_t, ti5_z, ti30_t, ti30_z, ti62_t, ti62_z, ti64_t, ti64_z, ti41_t, ti41_z, ti26_t, ti26_z]); rfl) (h : st = s2 := by (try simp only [pk, elemB, St.put, St.ev, St.tmp, St.keep, find, dropT, slots, AV.put, AV.loc, fitI, convI, IntKind.signed, IntKind.bits, strip, St.lose, mergeL, setAll, nth, renB, ren, idx?, sub, allP, low, bnd, Int.reduceEq, Nat.reduceAdd, Nat.reduceLT, reduceIte, reduceCtorEq, Nat.reduceEqDiff, Nat.reduceLeDiff, Nat.reduceBEq, Int.reducePow, Int.reduceToNat, ti24_t, ti24_z, ti5_t, ti5_z, ti30_t, ti30_z, ti62_t, ti62_z, ti64_t, ti64_z, ti41_t, ti41_z, ti26_t, ti26_z]); rfl) : RelT P w0 N nt gS q2 s2 a w := h1 ▸ h ▸ H
theorem ct_Pack2 {c : Prop} (h : c := by ((try simp only [pk, elemB, St.put, St.ev, St.tmp, St.keep, find, dropT, slots, AV.put, AV.loc, fitI, convI, IntKind.signed, IntKind.bits, strip, St.lose, mergeL, setAll, nth, renB, ren, idx?, sub, allP, low, bnd, Int.reduceEq, Nat.reduceAdd, Nat.reduceLT, reduceIte, reduceCtorEq, Nat.reduceEqDiff, Nat.reduceLeDiff, Nat.reduceBEq, Int.reducePow, Int.reduceToNat, ti24_t, ti24_z, ti5_t, ti5_z, ti30_t, ti30_z, ti62_t, ti62_z, ti64_t, ti64_z, ti41_t, ti41_z, ti26_t, ti26_z, ti24, ti5, ti30, ti62, ti64, ti41, ti26, fit, gcond, ilo, ihi]); first | done | exact cd | exact cd2 | skip)) : c := h
theorem encodeP_bad (p : Pf) (hw : p.wf) (h : p.chk ≠ 0) : VC Try.prog 50 [p.av] [] (.tup [.v (.slice none 0 0), errv p.chk]) := by
  have hc := pcheck_v p hw
  have hsl := bas_len p.s
  obtain ⟨h1, h2, h3, h4⟩ := id hw.e
  refine v_enter Try.func50 rfl (by kernel_rfl) (by show 1 ≤ 70; decide) ?_
  intro N w0 a w hN hR H
  simp only [Pf.av, Nd.av] at H hc
  repeat (first | refine wp_seq ?_ | refine wp_block ?_ | refine wp_skip ?_ | refine wp_exit ?_ | ((first | refine v_some 5 tab_ok hN H (by rfl) ct_Pack2 ?_ | refine v_more tab_ok hN H (by rfl) (by rfl) ct_Pack2 ?_); clear H; intro a w H; replace H := nf_Pack2 H; (try simp only [List.drop_succ_cons, List.drop_zero, List.drop_nil]); try refine wpList_nil ?_) | refine wp_region_lit ?_)
  refine v_call [] [] (hc) H rfl rfl (by rfl) cb cw ca ?_; clear H; intro a w H; replace H := nf_Pack2 H; try refine wpList_nil ?_
  repeat (first | refine wp_seq ?_ | refine wp_block ?_ | refine wp_skip ?_ | refine wp_exit ?_ | ((first | refine v_some 5 tab_ok hN H (by rfl) ct_Pack2 ?_ | refine v_more tab_ok hN H (by rfl) (by rfl) ct_Pack2 ?_); clear H; intro a w H; replace H := nf_Pack2 H; (try simp only [List.drop_succ_cons, List.drop_zero, List.drop_nil]); try refine wpList_nil ?_) | refine wp_region_lit ?_)
  refine v_cond H (by rfl) (fun hb => ?_) (fun hb => ?_)
  · repeat (first | refine wp_seq ?_ | refine wp_block ?_ | refine wp_skip ?_ | refine wp_exit ?_ | ((first | refine v_some 5 tab_ok hN H (by rfl) ct_Pack2 ?_ | refine v_more tab_ok hN H (by rfl) (by rfl) ct_Pack2 ?_); clear H; intro a w H; replace H := nf_Pack2 H; (try simp only [List.drop_succ_cons, List.drop_zero, List.drop_nil]); try refine wpList_nil ?_) | refine wp_region_lit ?_)
    refine wp_ret ?_
    exact v_end [] [] tab_ok ⟨hN, hR⟩ (rs := [.tmp 2, .tmp 3]) (ress := [_, _]) rfl H (by rfl) (by rfl) cb cw ca rfl
  · simp at hb; exact absurd hb h
/-- The sides that marks and bytes say, what is left, and whether bytes were lacking. -/
def runS : List Bool → List UInt8 → List (List UInt8) × List UInt8 × Bool
  | [], r => ([], r, false)
  | m :: ms, r => if m = true ∧ r.length < 32 then ([E0], r, true) else ((if m then r.take 32 else E0) :: (runS ms (if m then r.drop 32 else r)).1, (runS ms (if m then r.drop 32 else r)).2)
def marksOf (bits : List UInt8) (n : Nat) : List Bool := (List.range n).map fun i => bitAt (bits.getD (i / 8) 0) (i % 8)
def rdQ (l : List UInt8) : Pf × Bool :=
  if l.length < 2 then (⟨[], .zero⟩, false) else
  if 256 < num 0 (l.take 2) then (⟨[], .zero⟩, false) else
  if (l.drop 2).length < (num 0 (l.take 2) + 7) / 8 then (⟨[], .zero⟩, false) else
  let x := runS (marksOf ((l.drop 2).take ((num 0 (l.take 2) + 7) / 8)) (num 0 (l.take 2))) ((l.drop 2).drop ((num 0 (l.take 2) + 7) / 8))
  if x.2.2 then (⟨x.1, .zero⟩, false) else (⟨x.1, dec x.2.1⟩, decide (decOk x.2.1))
theorem pmarks_len (bits : List UInt8) (n : Nat) : (marksOf bits n).length = n := by simp [marksOf]
theorem marks_drop (bits : List UInt8) (n k : Nat) (hk : k < n) : (marksOf bits n).drop k = bitAt (bits.getD (k / 8) 0) (k % 8) :: (marksOf bits n).drop (k + 1) := by
  rw [List.drop_eq_getElem_cons (by rw [pmarks_len]; exact hk)]
  simp [marksOf]
theorem E0_len : E0.length = 32 := sum_length [0]
theorem runS_w : ∀ (ms : List Bool) (r : List UInt8), ∀ h ∈ (runS ms r).1, h.length = 32
  | [], r => fun h hh => by cases hh
  | m :: ms, r => by
    intro h hh
    unfold runS at hh
    split at hh
    · simp at hh; subst hh; exact E0_len
    · rename_i hc
      rcases List.mem_cons.1 hh with rfl | hh
      · split
        · rename_i hm; rw [List.length_take]; have : ¬ r.length < 32 := fun e => hc ⟨hm, e⟩; omega
        · exact E0_len
      · exact runS_w ms _ h hh
/-- Where the reading stands. -/
structure At (ms : List Bool) (l : List UInt8) (i : Nat × List (List UInt8) × List UInt8 × Bool) : Prop where
  k : i.1 ≤ ms.length
  len : i.2.1.length = i.1
  lr : i.2.2.1.length ≤ l.length
  ok : i.2.2.2 = false → runS ms l = (i.2.1 ++ (runS (ms.drop i.1) i.2.2.1).1, (runS (ms.drop i.1) i.2.2.1).2)
  no : i.2.2.2 = true → runS ms l = (i.2.1, i.2.2.1, true)
theorem at_start (ms : List Bool) (l : List UInt8) : At ms l (0, [], l, false) :=
  ⟨Nat.zero_le _, rfl, Nat.le_refl _, fun _ => rfl, fun h => by cases h⟩
theorem at_next {ms ms' : List Bool} {l r : List UInt8} {k : Nat} {ss : List (List UInt8)} {m : Bool} (h : At ms l (k, ss, r, false)) (hd : ms.drop k = m :: ms.drop (k + 1)) (hk : k < ms.length) (hm : ¬ (m = true ∧ r.length < 32)) :
    At ms l (k + 1, ss ++ [if m then r.take 32 else E0], if m then r.drop 32 else r, false) := by
  refine ⟨hk, by simp [h.len], ?_, fun _ => ?_, fun e => by cases e⟩
  · dsimp only; have := h.lr; dsimp only at this; split <;> simp <;> omega
  · have := h.ok rfl
    dsimp only at this ⊢
    rw [this, hd, runS, if_neg hm]
    simp
theorem at_bad {ms ms' : List Bool} {l r : List UInt8} {k : Nat} {ss : List (List UInt8)} (h : At ms l (k, ss, r, false)) (hd : ms.drop k = true :: ms.drop (k + 1)) (hk : k < ms.length) (hr : r.length < 32) :
    At ms l (k + 1, ss ++ [E0], r, true) := by
  refine ⟨hk, by simp [h.len], h.lr, fun e => (by cases e), fun _ => ?_⟩
  have := h.ok rfl
  dsimp only at this ⊢
  rw [this, hd, runS, if_pos ⟨rfl, hr⟩]
set_option maxRecDepth 20000 in
set_option maxHeartbeats 1000000 in
theorem readP_main (l : List UInt8) (hl : l.length ≤ 34359730000) (hs : ¬ l.length < 2) (hn : ¬ 256 < num 0 (l.take 2)) (hq : ¬ (l.drop 2).length < (num 0 (l.take 2) + 7) / 8) :
    VC Try.prog 49 [.bs l none] [] (.tup [(rdQ l).1.av, .v (.bool (rdQ l).2)]) := by
  rw [rdQ, if_neg hs, if_neg hn, if_neg hq]
  obtain ⟨n, hne⟩ : ∃ n, n = num 0 (l.take 2) := ⟨_, rfl⟩
  rw [← hne] at hn hq ⊢
  dsimp only
  have h1 := newRd_v l (by omega)
  have h2 := u16_ok l (by omega) (by omega)
  rw [← hne] at h2
  obtain ⟨l2, hl2⟩ : ∃ l2, l2 = l.drop 2 := ⟨_, rfl⟩
  have hl2l : l2.length ≤ l.length := by rw [hl2, List.length_drop]; omega
  rw [← hl2] at h2 hq ⊢
  have h3 := take_ok l2 ((n + 7) / 8) (by omega) (by omega)
  obtain ⟨l3, hl3⟩ : ∃ l3, l3 = l2.drop ((n + 7) / 8) := ⟨_, rfl⟩
  obtain ⟨bits, hbits⟩ : ∃ bits, bits = l2.take ((n + 7) / 8) := ⟨_, rfl⟩
  have hl3l : l3.length ≤ l.length := by rw [hl3, List.length_drop]; omega
  have hbl : bits.length = (n + 7) / 8 := by rw [hbits, List.length_take]; omega
  rw [← hl3, ← hbits] at h3 ⊢
  have hb1 := bits_v n (by omega)
  obtain ⟨ms, hms⟩ : ∃ ms, ms = marksOf bits n := ⟨_, rfl⟩
  rw [← hms]
  have hml : ms.length = n := by rw [hms, pmarks_len]
  have hsum := sum_length [0]
  have eE : sum [0] = E0 := rfl
  refine v_enter Try.func49 rfl (by kernel_rfl) (by show 1 ≤ 74; decide) ?_
  intro N w0 a w hN hR H
  simp only [rdv] at H h1 h2 h3
  repeat (first | refine wp_seq ?_ | refine wp_block ?_ | refine wp_skip ?_ | refine wp_exit ?_ | ((first | refine v_some 5 tab_ok hN H (by rfl) ct_Pack2 ?_ | refine v_more tab_ok hN H (by rfl) (by rfl) ct_Pack2 ?_); clear H; intro a w H; replace H := nf_Pack2 H; (try simp only [List.drop_succ_cons, List.drop_zero, List.drop_nil]); try refine wpList_nil ?_) | refine wp_region_lit ?_)
  refine v_call [] [] (h1) H rfl rfl (by rfl) cb cw ca ?_; clear H; intro a w H; replace H := nf_Pack2 H; try refine wpList_nil ?_
  repeat (first | refine wp_seq ?_ | refine wp_block ?_ | refine wp_skip ?_ | refine wp_exit ?_ | ((first | refine v_some 5 tab_ok hN H (by rfl) ct_Pack2 ?_ | refine v_more tab_ok hN H (by rfl) (by rfl) ct_Pack2 ?_); clear H; intro a w H; replace H := nf_Pack2 H; (try simp only [List.drop_succ_cons, List.drop_zero, List.drop_nil]); try refine wpList_nil ?_) | refine wp_region_lit ?_)
  refine v_call [1] [] (h2) H rfl rfl (by rfl) cb cw ca ?_; clear H; intro a w H; replace H := nf_Pack2 H; try refine wpList_nil ?_
  repeat (first | refine wp_seq ?_ | refine wp_block ?_ | refine wp_skip ?_ | refine wp_exit ?_ | ((first | refine v_some 5 tab_ok hN H (by rfl) ct_Pack2 ?_ | refine v_more tab_ok hN H (by rfl) (by rfl) ct_Pack2 ?_); clear H; intro a w H; replace H := nf_Pack2 H; (try simp only [List.drop_succ_cons, List.drop_zero, List.drop_nil]); try refine wpList_nil ?_) | refine wp_region_lit ?_)
  refine v_cond H (by rfl) (fun hb => ?_) (fun hb => ?_)
  · exfalso; simp at hb; omega
  repeat (first | refine wp_seq ?_ | refine wp_block ?_ | refine wp_skip ?_ | refine wp_exit ?_ | ((first | refine v_some 5 tab_ok hN H (by rfl) ct_Pack2 ?_ | refine v_more tab_ok hN H (by rfl) (by rfl) ct_Pack2 ?_); clear H; intro a w H; replace H := nf_Pack2 H; (try simp only [List.drop_succ_cons, List.drop_zero, List.drop_nil]); try refine wpList_nil ?_) | refine wp_region_lit ?_)
  refine v_call [] [] (hb1) H rfl rfl (by rfl) cb cw ca ?_; clear H; intro a w H; replace H := nf_Pack2 H; try refine wpList_nil ?_
  repeat (first | refine wp_seq ?_ | refine wp_block ?_ | refine wp_skip ?_ | refine wp_exit ?_ | ((first | refine v_some 5 tab_ok hN H (by rfl) ct_Pack2 ?_ | refine v_more tab_ok hN H (by rfl) (by rfl) ct_Pack2 ?_); clear H; intro a w H; replace H := nf_Pack2 H; (try simp only [List.drop_succ_cons, List.drop_zero, List.drop_nil]); try refine wpList_nil ?_) | refine wp_region_lit ?_)
  refine v_call [1] [] (h3) H rfl rfl (by rfl) cb cw ca ?_; clear H; intro a w H; replace H := nf_Pack2 H; try refine wpList_nil ?_
  repeat (first | refine wp_seq ?_ | refine wp_block ?_ | refine wp_skip ?_ | refine wp_exit ?_ | ((first | refine v_some 5 tab_ok hN H (by rfl) ct_Pack2 ?_ | refine v_more tab_ok hN H (by rfl) (by rfl) ct_Pack2 ?_); clear H; intro a w H; replace H := nf_Pack2 H; (try simp only [List.drop_succ_cons, List.drop_zero, List.drop_nil]); try refine wpList_nil ?_) | refine wp_region_lit ?_)
  refine v_call [] [] (empty_v) H rfl rfl (by rfl) cb cw ca ?_; clear H; intro a w H; replace H := nf_Pack2 H; try refine wpList_nil ?_
  repeat (first | refine wp_seq ?_ | refine wp_block ?_ | refine wp_skip ?_ | refine wp_exit ?_ | ((first | refine v_some 5 tab_ok hN H (by rfl) ct_Pack2 ?_ | refine v_more tab_ok hN H (by rfl) (by rfl) ct_Pack2 ?_); clear H; intro a w H; replace H := nf_Pack2 H; (try simp only [List.drop_succ_cons, List.drop_zero, List.drop_nil]); try refine wpList_nil ?_) | refine wp_region_lit ?_)
  rw [eE] at H hsum
  have H := v_sub H 6 (x := .bs bits (some 0)) (y := .bs bits none) (by simp only [sub]) rfl (fun _ e => by cases e) rfl
  simp only [nilT, reduceIte, Nat.reduceEqDiff] at H
  have H := v_nilX tab_ok H 2 0 30 (j := ti30) (.ba 32) rfl (by decide) rfl rfl
  simp only [List.set_cons_succ, List.set_cons_zero, List.length_cons, List.length_nil, Nat.reduceAdd, List.cons_append, List.nil_append, hz] at H
  refine v_loop (fun i : Nat × List (List UInt8) × List UInt8 × Bool => ⟨[(9, none, .v (.int .i64 (i.1 : Int))), (8, none, .ptr 3 []), (7, none, .ptr 2 []), (6, none, .bs bits none), (5, none, .v (.int .i64 (n : Int))), (4, none, .ptr 1 []), (3, none, .v (.bool false)), (2, none, .ptr 0 [])],
    [(ti64.ty, .st [.v (.slice none 0 0), .st [.v (.int .u8 0), .ba z32, .ba z32, .ba z32, .ba z32]]), (rdT, .st [.v (.bool true), .v (.bool i.2.2.2), .bs i.2.2.1 none]), (ti64.ty, .st [.sl (.ba 32) (bas i.2.1) (some 1), .st [.v (.int .u8 0), .ba z32, .ba z32, .ba z32, .ba z32]]), (.ba 32, .ba E0)], [], [(5, (n + 7) / 8), (30, i.2.1.length)]⟩)
    (At ms l3) (fun i => n - i.1) (0, [], l3, false) (at_start ms l3) (H.to 4 2 ⟨Nat.le_trans hN (by decide), Nat.le_trans hR (by decide)⟩ ⟨rfl, rfl, rfl, rfl, rfl, rfl, rfl, rfl, trivial⟩ rfl rfl rfl rfl rfl) ?_
  clear H
  rintro ⟨k, ss, r, bad⟩ a w hat H
  dsimp only at H
  have hk := hat.k
  have hlr := hat.lr
  have hsl := hat.len
  dsimp only at hk hlr hsl
  have hbd := bad_v bad r
  simp only [rdv] at hbd
  repeat (first | refine wp_seq ?_ | refine wp_block ?_ | refine wp_skip ?_ | refine wp_exit ?_ | ((first | refine v_some 5 tab_ok hN H (by rfl) ct_Pack2 ?_ | refine v_more tab_ok hN H (by rfl) (by rfl) ct_Pack2 ?_); clear H; intro a w H; replace H := nf_Pack2 H; (try simp only [List.drop_succ_cons, List.drop_zero, List.drop_nil]); try refine wpList_nil ?_) | refine wp_region_lit ?_)
  refine v_callG [1] [] (hbd) H (by rfl) rfl (by rfl) cb cw ca (by rfl) (by rfl) (by rfl) ?_; clear H; intro a w H; replace H := nf_Pack2 H; try refine wpList_nil ?_
  repeat (first | refine wp_seq ?_ | refine wp_block ?_ | refine wp_skip ?_ | refine wp_exit ?_ | ((first | refine v_some 5 tab_ok hN H (by rfl) ct_Pack2 ?_ | refine v_more tab_ok hN H (by rfl) (by rfl) ct_Pack2 ?_); clear H; intro a w H; replace H := nf_Pack2 H; (try simp only [List.drop_succ_cons, List.drop_zero, List.drop_nil]); try refine wpList_nil ?_) | refine wp_region_lit ?_)
  refine v_cond H (by rfl) (fun hb => ?_) (fun hb => ?_)
  · have hb1 : k < n ∧ bad = false := by simpa using hb
    obtain ⟨hkn, rfl⟩ := hb1
    have e8 : ((k : Int) / 8).toNat = k / 8 := by omega
    have e7 : (if ((k : Int) % 8).toNat ≤ 8 then ((k : Int) % 8).toNat else 8) = k % 8 := by split <;> omega
    repeat (first | refine wp_seq ?_ | refine wp_block ?_ | refine wp_skip ?_ | refine wp_exit ?_ | ((first | refine v_some 5 tab_ok hN H (by rfl) (by (try simp only [e8, e7, e8, e7]); first | done | exact ct_Pack2) ?_ | refine v_more tab_ok hN H (by rfl) (by rfl) (by (try simp only [e8, e7, e8, e7]); first | done | exact ct_Pack2) ?_); clear H; intro a w H; replace H := nf_Pack2 H; first | (simp only [e8, e7] at H; replace H := nf_Pack2 H) | skip; (try simp only [List.drop_succ_cons, List.drop_zero, List.drop_nil]); try refine wpList_nil ?_) | refine wp_region_lit ?_)
    repeat (first | refine wp_seq ?_ | refine wp_block ?_)
    refine v_draw 2 [] [] (by kernel_rfl) (by kernel_rfl) H (by rfl) (fun gS H => ?_); try replace H := nt_Pack2 H; first | (simp only [e8, e7] at H; replace H := nt_Pack2 H) | skip
    repeat (refine v_someT 5 tab_ok hN H (by rfl) (by (try simp only [e8, e7, e8, e7]); first | done | exact ct_Pack2) ?_; clear H; intro a w H; replace H := nt_Pack2 H; first | (simp only [e8, e7] at H; replace H := nt_Pack2 H) | skip; simp only [List.drop_succ_cons, List.drop_zero, List.drop_nil])
    refine v_moreT tab_ok hN H (by rfl) (by (try simp only [e8, e7, e8, e7]); first | done | exact ct_Pack2) ?_; clear H; intro a w H; try replace H := nt_Pack2 H; first | (simp only [e8, e7] at H; replace H := nt_Pack2 H) | skip
    refine v_drawNil H (fun H => ?_)
    repeat (first | refine wp_seq ?_ | refine wp_block ?_ | refine wp_skip ?_ | refine wp_exit ?_ | ((first | refine v_some 5 tab_ok hN H (by rfl) (by (try simp only [e8, e7, e8, e7]); first | done | exact ct_Pack2) ?_ | refine v_more tab_ok hN H (by rfl) (by rfl) (by (try simp only [e8, e7, e8, e7]); first | done | exact ct_Pack2) ?_); clear H; intro a w H; replace H := nf_Pack2 H; first | (simp only [e8, e7] at H; replace H := nf_Pack2 H) | skip; (try simp only [List.drop_succ_cons, List.drop_zero, List.drop_nil]); try refine wpList_nil ?_) | refine wp_region_lit ?_)
    rw [and_bit] at H
    have hdr := marks_drop bits n k hkn
    rw [← hms] at hdr
    have hkm : k < ms.length := by omega
    have hbs : bas (ss ++ [E0]) = bas ss ++ [.ba E0] := by simp [bas]
    have hE32 : E0.take 32 = E0 := List.take_of_length_le (by omega)
    have hE33 : E0.drop 32 = [] := List.drop_eq_nil_of_le (by omega)
    have hbl' := bas_len ss
    refine v_cond H (by rfl) (fun hb => ?_) (fun hb => ?_)
    · rw [hb] at hdr
      replace H := H.keep [2, 3, 4, 5, 6, 7, 8, 9, 10] 5 2 ⟨Nat.le_trans hN (by show _ ≤ 5; decide), Nat.le_trans hR (by show _ ≤ 2; decide)⟩ (by rfl) (by rfl)
      replace H := nf_Pack2 H; first | (simp only [e8, e7] at H; replace H := nf_Pack2 H) | skip
      by_cases hr : r.length < 32
      · have ht := take_bad r 32 hr
        simp only [rdv] at ht
        repeat (first | refine wp_seq ?_ | refine wp_block ?_)
        refine v_draw 0 [2, 3] [0] (by kernel_rfl) (by kernel_rfl) H (by rfl) (fun gS H => ?_); try replace H := nt_Pack2 H; first | (simp only [e8, e7] at H; replace H := nt_Pack2 H) | skip
        repeat (refine v_someT 5 tab_ok hN H (by rfl) (by (try simp only [e8, e7, e8, e7]); first | done | exact ct_Pack2) ?_; clear H; intro a w H; replace H := nt_Pack2 H; first | (simp only [e8, e7] at H; replace H := nt_Pack2 H) | skip; simp only [List.drop_succ_cons, List.drop_zero, List.drop_nil])
        refine v_moreT tab_ok hN H (by rfl) (by (try simp only [e8, e7, e8, e7]); first | done | exact ct_Pack2) ?_; clear H; intro a w H; try replace H := nt_Pack2 H; first | (simp only [e8, e7] at H; replace H := nt_Pack2 H) | skip
        refine v_callT [1] [] (ht) H (by rfl) (by rfl) rfl rfl (by rfl) (by simp [pickB, bxs, ren, idx?, sub_refl, sub, allP, e8, e7] <;> omega) (by first | rfl | (simp [e8, e7] <;> omega)) (by first | exact trivial | exact ⟨sub_refl _ _, trivial⟩ | exact ⟨sub_refl _ _, sub_refl _ _, trivial⟩ | exact ⟨sub_refl _ _, sub_refl _ _, sub_refl _ _, trivial⟩ | exact ⟨⟨rfl, sub_refl _ _, trivial⟩, sub_refl _ _, trivial⟩ | (simp [cargs, cargsG, St.ev, St.tmp, find, ren, idx?, sub_refl, sub, allP, resv, resC, bss, e8, e7] <;> omega)) ?_; clear H; intro a w H; try replace H := nt_Pack2 H; first | (simp only [e8, e7] at H; replace H := nt_Pack2 H) | skip
        repeat (refine v_someT 5 tab_ok hN H (by rfl) (by (try simp only [e8, e7, e8, e7]); first | done | exact ct_Pack2) ?_; clear H; intro a w H; replace H := nt_Pack2 H; first | (simp only [e8, e7] at H; replace H := nt_Pack2 H) | skip; simp only [List.drop_succ_cons, List.drop_zero, List.drop_nil])
        refine v_moreT tab_ok hN H (by rfl) (by (try simp only [e8, e7, e8, e7]); first | done | exact ct_Pack2) ?_; clear H; intro a w H; try replace H := nt_Pack2 H; first | (simp only [e8, e7] at H; replace H := nt_Pack2 H) | skip
        refine v_drawNil H (fun H => ?_)
        repeat (first | refine wp_seq ?_ | refine wp_block ?_ | refine wp_skip ?_ | refine wp_exit ?_ | ((first | refine v_some 5 tab_ok hN H (by rfl) (by (try simp only [e8, e7, e8, e7]); first | done | exact ct_Pack2) ?_ | refine v_more tab_ok hN H (by rfl) (by rfl) (by (try simp only [e8, e7, e8, e7]); first | done | exact ct_Pack2) ?_); clear H; intro a w H; replace H := nf_Pack2 H; first | (simp only [e8, e7] at H; replace H := nf_Pack2 H) | skip; (try simp only [List.drop_succ_cons, List.drop_zero, List.drop_nil]); try refine wpList_nil ?_) | refine wp_region_lit ?_)
        exact ⟨(k + 1, ss ++ [E0], r, true), at_bad (ms' := ms) hat hdr hkm hr, by dsimp only; omega, H.to 4 2 ⟨Nat.le_trans hN (by decide), Nat.le_trans hR (by decide)⟩ ⟨rfl, rfl, rfl, rfl, rfl, rfl, rfl, rfl, trivial⟩ (by dsimp only; rw [hbs]; rfl) (by dsimp only; rw [List.length_append, hbl']; rfl) rfl rfl rfl⟩
      · have ht := take_ok r 32 (by omega) (by omega)
        simp only [rdv] at ht
        repeat (first | refine wp_seq ?_ | refine wp_block ?_)
        refine v_draw 0 [2, 3] [0] (by kernel_rfl) (by kernel_rfl) H (by rfl) (fun gS H => ?_); try replace H := nt_Pack2 H; first | (simp only [e8, e7] at H; replace H := nt_Pack2 H) | skip
        repeat (refine v_someT 5 tab_ok hN H (by rfl) (by (try simp only [e8, e7, e8, e7]); first | done | exact ct_Pack2) ?_; clear H; intro a w H; replace H := nt_Pack2 H; first | (simp only [e8, e7] at H; replace H := nt_Pack2 H) | skip; simp only [List.drop_succ_cons, List.drop_zero, List.drop_nil])
        refine v_moreT tab_ok hN H (by rfl) (by (try simp only [e8, e7, e8, e7]); first | done | exact ct_Pack2) ?_; clear H; intro a w H; try replace H := nt_Pack2 H; first | (simp only [e8, e7] at H; replace H := nt_Pack2 H) | skip
        refine v_callT [1] [] (ht) H (by rfl) (by rfl) rfl rfl (by rfl) (by simp [pickB, bxs, ren, idx?, sub_refl, sub, allP, e8, e7] <;> omega) (by first | rfl | (simp [e8, e7] <;> omega)) (by first | exact trivial | exact ⟨sub_refl _ _, trivial⟩ | exact ⟨sub_refl _ _, sub_refl _ _, trivial⟩ | exact ⟨sub_refl _ _, sub_refl _ _, sub_refl _ _, trivial⟩ | exact ⟨⟨rfl, sub_refl _ _, trivial⟩, sub_refl _ _, trivial⟩ | (simp [cargs, cargsG, St.ev, St.tmp, find, ren, idx?, sub_refl, sub, allP, resv, resC, bss, e8, e7] <;> omega)) ?_; clear H; intro a w H; try replace H := nt_Pack2 H; first | (simp only [e8, e7] at H; replace H := nt_Pack2 H) | skip
        repeat (refine v_someT 5 tab_ok hN H (by rfl) (by (try simp only [e8, e7, e8, e7]); first | done | exact ct_Pack2) ?_; clear H; intro a w H; replace H := nt_Pack2 H; first | (simp only [e8, e7] at H; replace H := nt_Pack2 H) | skip; simp only [List.drop_succ_cons, List.drop_zero, List.drop_nil])
        refine v_moreT tab_ok hN H (by rfl) (by (try simp only [e8, e7, e8, e7]); first | done | exact ct_Pack2) ?_; clear H; intro a w H; try replace H := nt_Pack2 H; first | (simp only [e8, e7] at H; replace H := nt_Pack2 H) | skip
        refine v_drawNil H (fun H => ?_)
        repeat (first | refine wp_seq ?_ | refine wp_block ?_ | refine wp_skip ?_ | refine wp_exit ?_ | ((first | refine v_some 5 tab_ok hN H (by rfl) (by (try simp only [e8, e7, e8, e7]); first | done | exact ct_Pack2) ?_ | refine v_more tab_ok hN H (by rfl) (by rfl) (by (try simp only [e8, e7, e8, e7]); first | done | exact ct_Pack2) ?_); clear H; intro a w H; replace H := nf_Pack2 H; first | (simp only [e8, e7] at H; replace H := nf_Pack2 H) | skip; (try simp only [List.drop_succ_cons, List.drop_zero, List.drop_nil]); try refine wpList_nil ?_) | refine wp_region_lit ?_)
        have h32 : (r.take 32).length = 32 := by rw [List.length_take]; omega
        have ht2 : (r.take 32).take 32 ++ E0.drop ((r.take 32).take 32).length = r.take 32 := by rw [List.take_of_length_le (Nat.le_of_eq h32), h32, hE33, List.append_nil]
        have hbs2 : bas (ss ++ [r.take 32]) = bas ss ++ [.ba (r.take 32)] := by simp [bas]
        rw [ht2] at H
        exact ⟨(k + 1, ss ++ [r.take 32], r.drop 32, false), at_next (ms' := ms) (m := true) hat hdr hkm (fun h => hr h.2), by dsimp only; omega, H.to 4 2 ⟨Nat.le_trans hN (by decide), Nat.le_trans hR (by decide)⟩ ⟨rfl, rfl, rfl, rfl, rfl, rfl, rfl, rfl, trivial⟩ (by dsimp only; rw [hbs2]; rfl) (by dsimp only; rw [List.length_append, hbl']; rfl) rfl rfl rfl⟩
    · rw [hb] at hdr
      repeat (first | refine wp_seq ?_ | refine wp_block ?_ | refine wp_skip ?_ | refine wp_exit ?_ | ((first | refine v_some 5 tab_ok hN H (by rfl) (by (try simp only [e8, e7, e8, e7]); first | done | exact ct_Pack2) ?_ | refine v_more tab_ok hN H (by rfl) (by rfl) (by (try simp only [e8, e7, e8, e7]); first | done | exact ct_Pack2) ?_); clear H; intro a w H; replace H := nf_Pack2 H; first | (simp only [e8, e7] at H; replace H := nf_Pack2 H) | skip; (try simp only [List.drop_succ_cons, List.drop_zero, List.drop_nil]); try refine wpList_nil ?_) | refine wp_region_lit ?_)
      exact ⟨(k + 1, ss ++ [E0], r, false), at_next (ms' := ms) (m := false) hat hdr hkm (fun h => by cases h.1), by dsimp only; omega, H.to 4 2 ⟨Nat.le_trans hN (by decide), Nat.le_trans hR (by decide)⟩ ⟨rfl, rfl, rfl, rfl, rfl, rfl, rfl, rfl, trivial⟩ (by dsimp only; rw [hbs]; rfl) (by dsimp only; rw [List.length_append, hbl']; rfl) rfl rfl rfl⟩
  · have hbc : bad = true ∨ (bad = false ∧ k = n) := by
      cases bad
      · right; refine ⟨rfl, ?_⟩; simp at hb; omega
      · exact .inl rfl
    have hsum := E0_len
    rcases hbc with rfl | ⟨rfl, rfl⟩
    · have hrun := hat.no rfl
      have h4 := left_v true r
      have h5 := take_was r 0
      have hd := decode_v []
      have hdb : ¬ decOk [] := by simp [decOk]
      have hdl := z32_len
      rw [if_neg hdb, dec_bad hdb] at hd
      simp only [rdv, Nd.av, Nd.zero, if_true] at h4 h5 hd
      dsimp only at hrun
      rw [hrun]
      dsimp only
      rw [if_pos rfl]
      repeat (first | refine wp_seq ?_ | refine wp_block ?_ | refine wp_skip ?_ | refine wp_exit ?_ | ((first | refine v_some 5 tab_ok hN H (by rfl) ct_Pack2 ?_ | refine v_more tab_ok hN H (by rfl) (by rfl) ct_Pack2 ?_); clear H; intro a w H; replace H := nf_Pack2 H; (try simp only [List.drop_succ_cons, List.drop_zero, List.drop_nil]); try refine wpList_nil ?_) | refine wp_region_lit ?_)
      refine v_call [1] [] (h4) H rfl rfl (by rfl) cb cw ca ?_; clear H; intro a w H; replace H := nf_Pack2 H; try refine wpList_nil ?_
      repeat (first | refine wp_seq ?_ | refine wp_block ?_ | refine wp_skip ?_ | refine wp_exit ?_ | ((first | refine v_some 5 tab_ok hN H (by rfl) ct_Pack2 ?_ | refine v_more tab_ok hN H (by rfl) (by rfl) ct_Pack2 ?_); clear H; intro a w H; replace H := nf_Pack2 H; (try simp only [List.drop_succ_cons, List.drop_zero, List.drop_nil]); try refine wpList_nil ?_) | refine wp_region_lit ?_)
      refine v_call [1] [] (h5) H rfl rfl (by rfl) cb cw ca ?_; clear H; intro a w H; replace H := nf_Pack2 H; try refine wpList_nil ?_
      repeat (first | refine wp_seq ?_ | refine wp_block ?_ | refine wp_skip ?_ | refine wp_exit ?_ | ((first | refine v_some 5 tab_ok hN H (by rfl) ct_Pack2 ?_ | refine v_more tab_ok hN H (by rfl) (by rfl) ct_Pack2 ?_); clear H; intro a w H; replace H := nf_Pack2 H; (try simp only [List.drop_succ_cons, List.drop_zero, List.drop_nil]); try refine wpList_nil ?_) | refine wp_region_lit ?_)
      refine v_call [] [] (hd) H rfl rfl (by rfl) cb cw ca ?_; clear H; intro a w H; replace H := nf_Pack2 H; try refine wpList_nil ?_
      repeat (first | refine wp_seq ?_ | refine wp_block ?_ | refine wp_skip ?_ | refine wp_exit ?_ | ((first | refine v_some 5 tab_ok hN H (by rfl) ct_Pack2 ?_ | refine v_more tab_ok hN H (by rfl) (by rfl) ct_Pack2 ?_); clear H; intro a w H; replace H := nf_Pack2 H; (try simp only [List.drop_succ_cons, List.drop_zero, List.drop_nil]); try refine wpList_nil ?_) | refine wp_region_lit ?_)
      replace H := H.keep [0, 2, 3, 4, 7, 12] 4 2 ⟨Nat.le_trans hN (by show _ ≤ 4; decide), Nat.le_trans hR (by show _ ≤ 2; decide)⟩ (by rfl) (by rfl)
      replace H := nf_Pack2 H
      have H := v_ref H 7 2 (Nat.le_trans hN (by decide)) rfl rfl rfl
      simp only [nilT, strip, List.map_cons, List.map_nil, reduceIte, Nat.reduceEqDiff] at H
      repeat (first | refine wp_seq ?_ | refine wp_block ?_)
      refine v_draw 0 [2, 8] [0, 5, 6, 7] (by kernel_rfl) (by kernel_rfl) H (by rfl) (fun gS H => ?_); try replace H := nt_Pack2 H
      repeat (refine v_someT 5 tab_ok hN H (by rfl) ct_Pack2 ?_; clear H; intro a w H; replace H := nt_Pack2 H; simp only [List.drop_succ_cons, List.drop_zero, List.drop_nil])
      refine v_moreT tab_ok hN H (by rfl) ct_Pack2 ?_; clear H; intro a w H; try replace H := nt_Pack2 H
      refine v_callT [1] [] (hbd) H (by rfl) (by rfl) rfl rfl (by rfl) cb cw ca ?_; clear H; intro a w H; try replace H := nt_Pack2 H
      repeat (refine v_someT 5 tab_ok hN H (by rfl) ct_Pack2 ?_; clear H; intro a w H; replace H := nt_Pack2 H; simp only [List.drop_succ_cons, List.drop_zero, List.drop_nil])
      refine v_moreT tab_ok hN H (by rfl) ct_Pack2 ?_; clear H; intro a w H; try replace H := nt_Pack2 H
      refine v_drawNil H (fun H => ?_)
      repeat (first | refine wp_seq ?_ | refine wp_block ?_ | refine wp_skip ?_ | refine wp_exit ?_ | ((first | refine v_some 5 tab_ok hN H (by rfl) ct_Pack2 ?_ | refine v_more tab_ok hN H (by rfl) (by rfl) ct_Pack2 ?_); clear H; intro a w H; replace H := nf_Pack2 H; (try simp only [List.drop_succ_cons, List.drop_zero, List.drop_nil]); try refine wpList_nil ?_) | refine wp_region_lit ?_)
      refine wp_ret ?_
      exact v_end [] [] tab_ok ⟨hN, hR⟩ (rs := [.cell 2 64, .tmp 3]) (ress := [_, _]) rfl H (by rfl) (by rfl) (by simp [pickB, bxs, ren, idx?, sub_refl, sub, allP, Pf.av, Nd.av, Nd.zero] <;> omega) (by first | rfl | (simp [Pf.av, Nd.av, Nd.zero] <;> omega)) (by first | exact trivial | exact ⟨sub_refl _ _, trivial⟩ | exact ⟨sub_refl _ _, sub_refl _ _, trivial⟩ | exact ⟨sub_refl _ _, sub_refl _ _, sub_refl _ _, trivial⟩ | exact ⟨⟨rfl, sub_refl _ _, trivial⟩, sub_refl _ _, trivial⟩ | (simp [cargs, cargsG, St.ev, St.tmp, find, ren, idx?, sub_refl, sub, allP, resv, resC, bss, Pf.av, Nd.av, Nd.zero] <;> omega)) rfl
    · have hrun := hat.ok rfl
      dsimp only at hrun
      rw [List.drop_of_length_le (by omega)] at hrun
      simp only [runS, List.append_nil] at hrun
      have h4 := left_v false r
      have h5 := take_ok r r.length (Nat.le_refl _) (by omega)
      have hd := decode_v r
      obtain ⟨g1, g2, g3, g4⟩ := id (dec_wf r)
      simp only [rdv, Nd.av, Bool.false_eq_true, if_false, List.take_length, List.drop_length] at h4 h5 hd
      rw [hrun]
      dsimp only
      rw [if_neg (by decide)]
      have hbd := bad_v false []
      simp only [rdv] at hbd
      repeat (first | refine wp_seq ?_ | refine wp_block ?_ | refine wp_skip ?_ | refine wp_exit ?_ | ((first | refine v_some 5 tab_ok hN H (by rfl) ct_Pack2 ?_ | refine v_more tab_ok hN H (by rfl) (by rfl) ct_Pack2 ?_); clear H; intro a w H; replace H := nf_Pack2 H; (try simp only [List.drop_succ_cons, List.drop_zero, List.drop_nil]); try refine wpList_nil ?_) | refine wp_region_lit ?_)
      refine v_call [1] [] (h4) H rfl rfl (by rfl) cb cw ca ?_; clear H; intro a w H; replace H := nf_Pack2 H; try refine wpList_nil ?_
      repeat (first | refine wp_seq ?_ | refine wp_block ?_ | refine wp_skip ?_ | refine wp_exit ?_ | ((first | refine v_some 5 tab_ok hN H (by rfl) ct_Pack2 ?_ | refine v_more tab_ok hN H (by rfl) (by rfl) ct_Pack2 ?_); clear H; intro a w H; replace H := nf_Pack2 H; (try simp only [List.drop_succ_cons, List.drop_zero, List.drop_nil]); try refine wpList_nil ?_) | refine wp_region_lit ?_)
      refine v_call [1] [] (h5) H rfl rfl (by rfl) cb cw ca ?_; clear H; intro a w H; replace H := nf_Pack2 H; try refine wpList_nil ?_
      repeat (first | refine wp_seq ?_ | refine wp_block ?_ | refine wp_skip ?_ | refine wp_exit ?_ | ((first | refine v_some 5 tab_ok hN H (by rfl) ct_Pack2 ?_ | refine v_more tab_ok hN H (by rfl) (by rfl) ct_Pack2 ?_); clear H; intro a w H; replace H := nf_Pack2 H; (try simp only [List.drop_succ_cons, List.drop_zero, List.drop_nil]); try refine wpList_nil ?_) | refine wp_region_lit ?_)
      refine v_call [] [] (hd) H rfl rfl (by rfl) cb cw ca ?_; clear H; intro a w H; replace H := nf_Pack2 H; try refine wpList_nil ?_
      repeat (first | refine wp_seq ?_ | refine wp_block ?_ | refine wp_skip ?_ | refine wp_exit ?_ | ((first | refine v_some 5 tab_ok hN H (by rfl) ct_Pack2 ?_ | refine v_more tab_ok hN H (by rfl) (by rfl) ct_Pack2 ?_); clear H; intro a w H; replace H := nf_Pack2 H; (try simp only [List.drop_succ_cons, List.drop_zero, List.drop_nil]); try refine wpList_nil ?_) | refine wp_region_lit ?_)
      replace H := H.keep [0, 2, 3, 4, 7, 12] 4 2 ⟨Nat.le_trans hN (by show _ ≤ 4; decide), Nat.le_trans hR (by show _ ≤ 2; decide)⟩ (by rfl) (by rfl)
      replace H := nf_Pack2 H
      have H := v_ref H 7 2 (Nat.le_trans hN (by decide)) rfl rfl rfl
      simp only [nilT, strip, List.map_cons, List.map_nil, reduceIte, Nat.reduceEqDiff] at H
      by_cases ho : decOk r
      · simp only [if_pos ho] at H
        repeat (first | refine wp_seq ?_ | refine wp_block ?_)
        refine v_draw 0 [2, 8] [0, 5, 6, 7] (by kernel_rfl) (by kernel_rfl) H (by rfl) (fun gS H => ?_); try replace H := nt_Pack2 H
        repeat (refine v_someT 5 tab_ok hN H (by rfl) ct_Pack2 ?_; clear H; intro a w H; replace H := nt_Pack2 H; simp only [List.drop_succ_cons, List.drop_zero, List.drop_nil])
        refine v_moreT tab_ok hN H (by rfl) ct_Pack2 ?_; clear H; intro a w H; try replace H := nt_Pack2 H
        refine v_callT [1] [] (hbd) H (by rfl) (by rfl) rfl rfl (by rfl) cb cw ca ?_; clear H; intro a w H; try replace H := nt_Pack2 H
        repeat (refine v_someT 5 tab_ok hN H (by rfl) ct_Pack2 ?_; clear H; intro a w H; replace H := nt_Pack2 H; simp only [List.drop_succ_cons, List.drop_zero, List.drop_nil])
        refine v_moreT tab_ok hN H (by rfl) ct_Pack2 ?_; clear H; intro a w H; try replace H := nt_Pack2 H
        refine v_drawNil H (fun H => ?_)
        repeat (first | refine wp_seq ?_ | refine wp_block ?_ | refine wp_skip ?_ | refine wp_exit ?_ | ((first | refine v_some 5 tab_ok hN H (by rfl) ct_Pack2 ?_ | refine v_more tab_ok hN H (by rfl) (by rfl) ct_Pack2 ?_); clear H; intro a w H; replace H := nf_Pack2 H; (try simp only [List.drop_succ_cons, List.drop_zero, List.drop_nil]); try refine wpList_nil ?_) | refine wp_region_lit ?_)
        simp only [Pf.av, Nd.av, ho, decide_true, decide_false]
        refine wp_ret ?_
        exact v_end [] [] tab_ok ⟨hN, hR⟩ (rs := [.cell 2 64, .tmp 3]) (ress := [_, _]) rfl H (by rfl) (by rfl) cb cw ca rfl
      · simp only [if_neg ho] at H
        repeat (first | refine wp_seq ?_ | refine wp_block ?_)
        refine v_draw 0 [2, 8] [0, 5, 6, 7] (by kernel_rfl) (by kernel_rfl) H (by rfl) (fun gS H => ?_); try replace H := nt_Pack2 H
        repeat (refine v_someT 5 tab_ok hN H (by rfl) ct_Pack2 ?_; clear H; intro a w H; replace H := nt_Pack2 H; simp only [List.drop_succ_cons, List.drop_zero, List.drop_nil])
        refine v_moreT tab_ok hN H (by rfl) ct_Pack2 ?_; clear H; intro a w H; try replace H := nt_Pack2 H
        refine v_callT [1] [] (hbd) H (by rfl) (by rfl) rfl rfl (by rfl) cb cw ca ?_; clear H; intro a w H; try replace H := nt_Pack2 H
        repeat (refine v_someT 5 tab_ok hN H (by rfl) ct_Pack2 ?_; clear H; intro a w H; replace H := nt_Pack2 H; simp only [List.drop_succ_cons, List.drop_zero, List.drop_nil])
        refine v_moreT tab_ok hN H (by rfl) ct_Pack2 ?_; clear H; intro a w H; try replace H := nt_Pack2 H
        refine v_drawNil H (fun H => ?_)
        repeat (first | refine wp_seq ?_ | refine wp_block ?_ | refine wp_skip ?_ | refine wp_exit ?_ | ((first | refine v_some 5 tab_ok hN H (by rfl) ct_Pack2 ?_ | refine v_more tab_ok hN H (by rfl) (by rfl) ct_Pack2 ?_); clear H; intro a w H; replace H := nf_Pack2 H; (try simp only [List.drop_succ_cons, List.drop_zero, List.drop_nil]); try refine wpList_nil ?_) | refine wp_region_lit ?_)
        simp only [Pf.av, Nd.av, ho, decide_true, decide_false]
        refine wp_ret ?_
        exact v_end [] [] tab_ok ⟨hN, hR⟩ (rs := [.cell 2 64, .tmp 3]) (ress := [_, _]) rfl H (by rfl) (by rfl) cb cw ca rfl
theorem readP_many (l : List UInt8) (hl : l.length ≤ 34359730000) (hs : ¬ l.length < 2) (hn : 256 < num 0 (l.take 2)) :
    VC Try.prog 49 [.bs l none] [] (.tup [(rdQ l).1.av, .v (.bool (rdQ l).2)]) := by
  rw [rdQ, if_neg hs, if_pos hn]
  have h1 := newRd_v l (by omega)
  have h2 := u16_ok l (by omega) (by omega)
  have hz2 := z32_len
  obtain ⟨n, hne⟩ : ∃ n, n = num 0 (l.take 2) := ⟨_, rfl⟩
  rw [← hne] at hn h2
  refine v_enter Try.func49 rfl (by kernel_rfl) (by show 1 ≤ 74; decide) ?_
  intro N w0 a w hN hR H
  simp only [rdv] at H h1 h2
  repeat (first | refine wp_seq ?_ | refine wp_block ?_ | refine wp_skip ?_ | refine wp_exit ?_ | ((first | refine v_some 5 tab_ok hN H (by rfl) ct_Pack2 ?_ | refine v_more tab_ok hN H (by rfl) (by rfl) ct_Pack2 ?_); clear H; intro a w H; replace H := nf_Pack2 H; (try simp only [List.drop_succ_cons, List.drop_zero, List.drop_nil]); try refine wpList_nil ?_) | refine wp_region_lit ?_)
  refine v_call [] [] (h1) H rfl rfl (by rfl) cb cw ca ?_; clear H; intro a w H; replace H := nf_Pack2 H; try refine wpList_nil ?_
  repeat (first | refine wp_seq ?_ | refine wp_block ?_ | refine wp_skip ?_ | refine wp_exit ?_ | ((first | refine v_some 5 tab_ok hN H (by rfl) ct_Pack2 ?_ | refine v_more tab_ok hN H (by rfl) (by rfl) ct_Pack2 ?_); clear H; intro a w H; replace H := nf_Pack2 H; (try simp only [List.drop_succ_cons, List.drop_zero, List.drop_nil]); try refine wpList_nil ?_) | refine wp_region_lit ?_)
  refine v_call [1] [] (h2) H rfl rfl (by rfl) cb cw ca ?_; clear H; intro a w H; replace H := nf_Pack2 H; try refine wpList_nil ?_
  repeat (first | refine wp_seq ?_ | refine wp_block ?_ | refine wp_skip ?_ | refine wp_exit ?_ | ((first | refine v_some 5 tab_ok hN H (by rfl) ct_Pack2 ?_ | refine v_more tab_ok hN H (by rfl) (by rfl) ct_Pack2 ?_); clear H; intro a w H; replace H := nf_Pack2 H; (try simp only [List.drop_succ_cons, List.drop_zero, List.drop_nil]); try refine wpList_nil ?_) | refine wp_region_lit ?_)
  refine v_cond H (by rfl) (fun hb => ?_) (fun hb => ?_)
  · repeat (first | refine wp_seq ?_ | refine wp_block ?_ | refine wp_skip ?_ | refine wp_exit ?_ | ((first | refine v_some 5 tab_ok hN H (by rfl) ct_Pack2 ?_ | refine v_more tab_ok hN H (by rfl) (by rfl) ct_Pack2 ?_); clear H; intro a w H; replace H := nf_Pack2 H; (try simp only [List.drop_succ_cons, List.drop_zero, List.drop_nil]); try refine wpList_nil ?_) | refine wp_region_lit ?_)
    simp only [Pf.av, Nd.av, Nd.zero, bas, List.map_nil]
    try simp only [hz] at H
    refine wp_ret ?_
    exact v_end [] [] tab_ok ⟨hN, hR⟩ (rs := [.cell 2 64, .tmp 3]) (ress := [_, _]) rfl H (by rfl) (by rfl) cb cw ca rfl
  · exfalso; simp at hb; omega
set_option maxRecDepth 20000 in
theorem readP_cut (l : List UInt8) (hl : l.length ≤ 34359730000) (hs : ¬ l.length < 2) (hn : ¬ 256 < num 0 (l.take 2)) (hq : (l.drop 2).length < (num 0 (l.take 2) + 7) / 8) :
    VC Try.prog 49 [.bs l none] [] (.tup [(rdQ l).1.av, .v (.bool (rdQ l).2)]) := by
  rw [rdQ, if_neg hs, if_neg hn, if_pos hq]
  have h1 := newRd_v l (by omega)
  have h2 := u16_ok l (by omega) (by omega)
  obtain ⟨n, hne⟩ : ∃ n, n = num 0 (l.take 2) := ⟨_, rfl⟩
  rw [← hne] at hn hq h2
  have h3 := take_bad (l.drop 2) ((n + 7) / 8) hq
  have hbt := bits_v n (by omega)
  have hsum := sum_length [0]
  have h4 := left_v true (l.drop 2)
  have h5 := take_was (l.drop 2) 0
  have hbd := bad_v true (l.drop 2)
  have hd := decode_v []
  have hdb : ¬ decOk [] := by simp [decOk]
  have hdl := z32_len
  rw [if_neg hdb, dec_bad hdb] at hd
  simp only [rdv, Nd.av, Nd.zero, if_true] at h1 h2 h3 h4 h5 hd hbd
  refine v_enter Try.func49 rfl (by kernel_rfl) (by show 1 ≤ 74; decide) ?_
  intro N w0 a w hN hR H
  repeat (first | refine wp_seq ?_ | refine wp_block ?_ | refine wp_skip ?_ | refine wp_exit ?_ | ((first | refine v_some 5 tab_ok hN H (by rfl) ct_Pack2 ?_ | refine v_more tab_ok hN H (by rfl) (by rfl) ct_Pack2 ?_); clear H; intro a w H; replace H := nf_Pack2 H; (try simp only [List.drop_succ_cons, List.drop_zero, List.drop_nil]); try refine wpList_nil ?_) | refine wp_region_lit ?_)
  refine v_call [] [] (h1) H rfl rfl (by rfl) cb cw ca ?_; clear H; intro a w H; replace H := nf_Pack2 H; try refine wpList_nil ?_
  repeat (first | refine wp_seq ?_ | refine wp_block ?_ | refine wp_skip ?_ | refine wp_exit ?_ | ((first | refine v_some 5 tab_ok hN H (by rfl) ct_Pack2 ?_ | refine v_more tab_ok hN H (by rfl) (by rfl) ct_Pack2 ?_); clear H; intro a w H; replace H := nf_Pack2 H; (try simp only [List.drop_succ_cons, List.drop_zero, List.drop_nil]); try refine wpList_nil ?_) | refine wp_region_lit ?_)
  refine v_call [1] [] (h2) H rfl rfl (by rfl) cb cw ca ?_; clear H; intro a w H; replace H := nf_Pack2 H; try refine wpList_nil ?_
  repeat (first | refine wp_seq ?_ | refine wp_block ?_ | refine wp_skip ?_ | refine wp_exit ?_ | ((first | refine v_some 5 tab_ok hN H (by rfl) ct_Pack2 ?_ | refine v_more tab_ok hN H (by rfl) (by rfl) ct_Pack2 ?_); clear H; intro a w H; replace H := nf_Pack2 H; (try simp only [List.drop_succ_cons, List.drop_zero, List.drop_nil]); try refine wpList_nil ?_) | refine wp_region_lit ?_)
  refine v_cond H (by rfl) (fun hb => ?_) (fun hb => ?_)
  · exfalso; simp at hb; omega
  · repeat (first | refine wp_seq ?_ | refine wp_block ?_ | refine wp_skip ?_ | refine wp_exit ?_ | ((first | refine v_some 5 tab_ok hN H (by rfl) ct_Pack2 ?_ | refine v_more tab_ok hN H (by rfl) (by rfl) ct_Pack2 ?_); clear H; intro a w H; replace H := nf_Pack2 H; (try simp only [List.drop_succ_cons, List.drop_zero, List.drop_nil]); try refine wpList_nil ?_) | refine wp_region_lit ?_)
    refine v_call [] [] (hbt) H rfl rfl (by rfl) cb cw ca ?_; clear H; intro a w H; replace H := nf_Pack2 H; try refine wpList_nil ?_
    repeat (first | refine wp_seq ?_ | refine wp_block ?_ | refine wp_skip ?_ | refine wp_exit ?_ | ((first | refine v_some 5 tab_ok hN H (by rfl) ct_Pack2 ?_ | refine v_more tab_ok hN H (by rfl) (by rfl) ct_Pack2 ?_); clear H; intro a w H; replace H := nf_Pack2 H; (try simp only [List.drop_succ_cons, List.drop_zero, List.drop_nil]); try refine wpList_nil ?_) | refine wp_region_lit ?_)
    refine v_call [1] [] (h3) H rfl rfl (by rfl) cb cw ca ?_; clear H; intro a w H; replace H := nf_Pack2 H; try refine wpList_nil ?_
    repeat (first | refine wp_seq ?_ | refine wp_block ?_ | refine wp_skip ?_ | refine wp_exit ?_ | ((first | refine v_some 5 tab_ok hN H (by rfl) ct_Pack2 ?_ | refine v_more tab_ok hN H (by rfl) (by rfl) ct_Pack2 ?_); clear H; intro a w H; replace H := nf_Pack2 H; (try simp only [List.drop_succ_cons, List.drop_zero, List.drop_nil]); try refine wpList_nil ?_) | refine wp_region_lit ?_)
    refine v_call [] [] (empty_v) H rfl rfl (by rfl) cb cw ca ?_; clear H; intro a w H; replace H := nf_Pack2 H; try refine wpList_nil ?_
    repeat (first | refine wp_seq ?_ | refine wp_block ?_ | refine wp_skip ?_ | refine wp_exit ?_ | ((first | refine v_some 5 tab_ok hN H (by rfl) ct_Pack2 ?_ | refine v_more tab_ok hN H (by rfl) (by rfl) ct_Pack2 ?_); clear H; intro a w H; replace H := nf_Pack2 H; (try simp only [List.drop_succ_cons, List.drop_zero, List.drop_nil]); try refine wpList_nil ?_) | refine wp_region_lit ?_)
    replace H := H.keep [0, 2, 3, 4, 5, 6, 7, 8, 9] 4 0 ⟨Nat.le_trans hN (by show _ ≤ 4; decide), Nat.le_trans hR (by show _ ≤ 0; decide)⟩ (by rfl) (by rfl)
    replace H := nf_Pack2 H
    refine v_loop (fun _ : Nat => _) (fun _ => True) (fun _ => 0) 0 trivial H ?_
    clear H
    intro k a w hk H
    repeat (first | refine wp_seq ?_ | refine wp_block ?_ | refine wp_skip ?_ | refine wp_exit ?_ | ((first | refine v_some 5 tab_ok hN H (by rfl) ct_Pack2 ?_ | refine v_more tab_ok hN H (by rfl) (by rfl) ct_Pack2 ?_); clear H; intro a w H; replace H := nf_Pack2 H; (try simp only [List.drop_succ_cons, List.drop_zero, List.drop_nil]); try refine wpList_nil ?_) | refine wp_region_lit ?_)
    refine v_callG [1] [] (hbd) H (by rfl) rfl (by rfl) cb cw ca (by rfl) (by rfl) (by rfl) ?_; clear H; intro a w H; replace H := nf_Pack2 H; try refine wpList_nil ?_
    repeat (first | refine wp_seq ?_ | refine wp_block ?_ | refine wp_skip ?_ | refine wp_exit ?_ | ((first | refine v_some 5 tab_ok hN H (by rfl) ct_Pack2 ?_ | refine v_more tab_ok hN H (by rfl) (by rfl) ct_Pack2 ?_); clear H; intro a w H; replace H := nf_Pack2 H; (try simp only [List.drop_succ_cons, List.drop_zero, List.drop_nil]); try refine wpList_nil ?_) | refine wp_region_lit ?_)
    refine v_cond H (by rfl) (fun hb => ?_) (fun hb => ?_)
    · simp at hb
    · repeat (first | refine wp_seq ?_ | refine wp_block ?_ | refine wp_skip ?_ | refine wp_exit ?_ | ((first | refine v_some 5 tab_ok hN H (by rfl) ct_Pack2 ?_ | refine v_more tab_ok hN H (by rfl) (by rfl) ct_Pack2 ?_); clear H; intro a w H; replace H := nf_Pack2 H; (try simp only [List.drop_succ_cons, List.drop_zero, List.drop_nil]); try refine wpList_nil ?_) | refine wp_region_lit ?_)
      refine v_call [1] [] (h4) H rfl rfl (by rfl) cb cw ca ?_; clear H; intro a w H; replace H := nf_Pack2 H; try refine wpList_nil ?_
      repeat (first | refine wp_seq ?_ | refine wp_block ?_ | refine wp_skip ?_ | refine wp_exit ?_ | ((first | refine v_some 5 tab_ok hN H (by rfl) ct_Pack2 ?_ | refine v_more tab_ok hN H (by rfl) (by rfl) ct_Pack2 ?_); clear H; intro a w H; replace H := nf_Pack2 H; (try simp only [List.drop_succ_cons, List.drop_zero, List.drop_nil]); try refine wpList_nil ?_) | refine wp_region_lit ?_)
      refine v_call [1] [] (h5) H rfl rfl (by rfl) cb cw ca ?_; clear H; intro a w H; replace H := nf_Pack2 H; try refine wpList_nil ?_
      repeat (first | refine wp_seq ?_ | refine wp_block ?_ | refine wp_skip ?_ | refine wp_exit ?_ | ((first | refine v_some 5 tab_ok hN H (by rfl) ct_Pack2 ?_ | refine v_more tab_ok hN H (by rfl) (by rfl) ct_Pack2 ?_); clear H; intro a w H; replace H := nf_Pack2 H; (try simp only [List.drop_succ_cons, List.drop_zero, List.drop_nil]); try refine wpList_nil ?_) | refine wp_region_lit ?_)
      refine v_call [] [] (hd) H rfl rfl (by rfl) cb cw ca ?_; clear H; intro a w H; replace H := nf_Pack2 H; try refine wpList_nil ?_
      repeat (first | refine wp_seq ?_ | refine wp_block ?_ | refine wp_skip ?_ | refine wp_exit ?_ | ((first | refine v_some 5 tab_ok hN H (by rfl) ct_Pack2 ?_ | refine v_more tab_ok hN H (by rfl) (by rfl) ct_Pack2 ?_); clear H; intro a w H; replace H := nf_Pack2 H; (try simp only [List.drop_succ_cons, List.drop_zero, List.drop_nil]); try refine wpList_nil ?_) | refine wp_region_lit ?_)
      replace H := H.keep [0, 2, 3, 4, 7, 12] 4 0 ⟨Nat.le_trans hN (by show _ ≤ 4; decide), Nat.le_trans hR (by show _ ≤ 0; decide)⟩ (by rfl) (by rfl)
      replace H := nf_Pack2 H
      have H := v_ref H 7 2 (Nat.le_trans hN (by decide)) rfl rfl rfl
      simp only [nilT, strip, List.map_cons, List.map_nil, reduceIte, Nat.reduceEqDiff] at H
      repeat (first | refine wp_seq ?_ | refine wp_block ?_)
      refine v_draw 0 [2, 8] [0, 5, 6, 7] (by kernel_rfl) (by kernel_rfl) H (by rfl) (fun gS H => ?_); try replace H := nt_Pack2 H
      repeat (refine v_someT 5 tab_ok hN H (by rfl) ct_Pack2 ?_; clear H; intro a w H; replace H := nt_Pack2 H; simp only [List.drop_succ_cons, List.drop_zero, List.drop_nil])
      refine v_moreT tab_ok hN H (by rfl) ct_Pack2 ?_; clear H; intro a w H; try replace H := nt_Pack2 H
      refine v_callT [1] [] (hbd) H (by rfl) (by rfl) rfl rfl (by rfl) cb cw ca ?_; clear H; intro a w H; try replace H := nt_Pack2 H
      repeat (refine v_someT 5 tab_ok hN H (by rfl) ct_Pack2 ?_; clear H; intro a w H; replace H := nt_Pack2 H; simp only [List.drop_succ_cons, List.drop_zero, List.drop_nil])
      refine v_moreT tab_ok hN H (by rfl) ct_Pack2 ?_; clear H; intro a w H; try replace H := nt_Pack2 H
      refine v_drawNil H (fun H => ?_)
      repeat (first | refine wp_seq ?_ | refine wp_block ?_ | refine wp_skip ?_ | refine wp_exit ?_ | ((first | refine v_some 5 tab_ok hN H (by rfl) ct_Pack2 ?_ | refine v_more tab_ok hN H (by rfl) (by rfl) ct_Pack2 ?_); clear H; intro a w H; replace H := nf_Pack2 H; (try simp only [List.drop_succ_cons, List.drop_zero, List.drop_nil]); try refine wpList_nil ?_) | refine wp_region_lit ?_)
      simp only [Pf.av, Nd.av, Nd.zero, bas, List.map_nil]
      try simp only [hz] at H
      refine wp_ret ?_
      exact v_end [] [] tab_ok ⟨hN, hR⟩ (rs := [.cell 2 64, .tmp 3]) (ress := [_, _]) rfl H (by rfl) (by rfl) cb cw ca rfl
set_option maxRecDepth 20000 in
theorem readP_short (l : List UInt8) (hs : l.length < 2) :
    VC Try.prog 49 [.bs l none] [] (.tup [(rdQ l).1.av, .v (.bool (rdQ l).2)]) := by
  rw [rdQ, if_pos hs]
  have h1 := newRd_v l (by omega)
  have h2 := u16_bad l hs
  have h3 := take_was l 0
  have hbt := bits_v 0 (by decide)
  have hsum := sum_length [0]
  have h4 := left_v true l
  have hbd := bad_v true l
  have hd := decode_v []
  have hdb : ¬ decOk [] := by simp [decOk]
  have hdl := z32_len
  rw [if_neg hdb, dec_bad hdb] at hd
  simp only [rdv, Nd.av, Nd.zero, if_true] at h1 h2 h3 h4 hd hbd
  refine v_enter Try.func49 rfl (by kernel_rfl) (by show 1 ≤ 74; decide) ?_
  intro N w0 a w hN hR H
  repeat (first | refine wp_seq ?_ | refine wp_block ?_ | refine wp_skip ?_ | refine wp_exit ?_ | ((first | refine v_some 5 tab_ok hN H (by rfl) ct_Pack2 ?_ | refine v_more tab_ok hN H (by rfl) (by rfl) ct_Pack2 ?_); clear H; intro a w H; replace H := nf_Pack2 H; (try simp only [List.drop_succ_cons, List.drop_zero, List.drop_nil]); try refine wpList_nil ?_) | refine wp_region_lit ?_)
  refine v_call [] [] (h1) H rfl rfl (by rfl) cb cw ca ?_; clear H; intro a w H; replace H := nf_Pack2 H; try refine wpList_nil ?_
  repeat (first | refine wp_seq ?_ | refine wp_block ?_ | refine wp_skip ?_ | refine wp_exit ?_ | ((first | refine v_some 5 tab_ok hN H (by rfl) ct_Pack2 ?_ | refine v_more tab_ok hN H (by rfl) (by rfl) ct_Pack2 ?_); clear H; intro a w H; replace H := nf_Pack2 H; (try simp only [List.drop_succ_cons, List.drop_zero, List.drop_nil]); try refine wpList_nil ?_) | refine wp_region_lit ?_)
  refine v_call [1] [] (h2) H rfl rfl (by rfl) cb cw ca ?_; clear H; intro a w H; replace H := nf_Pack2 H; try refine wpList_nil ?_
  repeat (first | refine wp_seq ?_ | refine wp_block ?_ | refine wp_skip ?_ | refine wp_exit ?_ | ((first | refine v_some 5 tab_ok hN H (by rfl) ct_Pack2 ?_ | refine v_more tab_ok hN H (by rfl) (by rfl) ct_Pack2 ?_); clear H; intro a w H; replace H := nf_Pack2 H; (try simp only [List.drop_succ_cons, List.drop_zero, List.drop_nil]); try refine wpList_nil ?_) | refine wp_region_lit ?_)
  refine v_cond H (by rfl) (fun hb => ?_) (fun hb => ?_)
  · simp at hb
  · repeat (first | refine wp_seq ?_ | refine wp_block ?_ | refine wp_skip ?_ | refine wp_exit ?_ | ((first | refine v_some 5 tab_ok hN H (by rfl) ct_Pack2 ?_ | refine v_more tab_ok hN H (by rfl) (by rfl) ct_Pack2 ?_); clear H; intro a w H; replace H := nf_Pack2 H; (try simp only [List.drop_succ_cons, List.drop_zero, List.drop_nil]); try refine wpList_nil ?_) | refine wp_region_lit ?_)
    refine v_call [] [] (hbt) H rfl rfl (by rfl) cb cw ca ?_; clear H; intro a w H; replace H := nf_Pack2 H; try refine wpList_nil ?_
    repeat (first | refine wp_seq ?_ | refine wp_block ?_ | refine wp_skip ?_ | refine wp_exit ?_ | ((first | refine v_some 5 tab_ok hN H (by rfl) ct_Pack2 ?_ | refine v_more tab_ok hN H (by rfl) (by rfl) ct_Pack2 ?_); clear H; intro a w H; replace H := nf_Pack2 H; (try simp only [List.drop_succ_cons, List.drop_zero, List.drop_nil]); try refine wpList_nil ?_) | refine wp_region_lit ?_)
    refine v_call [1] [] (h3) H rfl rfl (by rfl) cb cw ca ?_; clear H; intro a w H; replace H := nf_Pack2 H; try refine wpList_nil ?_
    repeat (first | refine wp_seq ?_ | refine wp_block ?_ | refine wp_skip ?_ | refine wp_exit ?_ | ((first | refine v_some 5 tab_ok hN H (by rfl) ct_Pack2 ?_ | refine v_more tab_ok hN H (by rfl) (by rfl) ct_Pack2 ?_); clear H; intro a w H; replace H := nf_Pack2 H; (try simp only [List.drop_succ_cons, List.drop_zero, List.drop_nil]); try refine wpList_nil ?_) | refine wp_region_lit ?_)
    refine v_call [] [] (empty_v) H rfl rfl (by rfl) cb cw ca ?_; clear H; intro a w H; replace H := nf_Pack2 H; try refine wpList_nil ?_
    repeat (first | refine wp_seq ?_ | refine wp_block ?_ | refine wp_skip ?_ | refine wp_exit ?_ | ((first | refine v_some 5 tab_ok hN H (by rfl) ct_Pack2 ?_ | refine v_more tab_ok hN H (by rfl) (by rfl) ct_Pack2 ?_); clear H; intro a w H; replace H := nf_Pack2 H; (try simp only [List.drop_succ_cons, List.drop_zero, List.drop_nil]); try refine wpList_nil ?_) | refine wp_region_lit ?_)
    replace H := H.keep [0, 2, 3, 4, 5, 6, 7, 8, 9] 4 0 ⟨Nat.le_trans hN (by show _ ≤ 4; decide), Nat.le_trans hR (by show _ ≤ 0; decide)⟩ (by rfl) (by rfl)
    replace H := nf_Pack2 H
    refine v_loop (fun _ : Nat => _) (fun _ => True) (fun _ => 0) 0 trivial H ?_
    clear H
    intro k a w hk H
    repeat (first | refine wp_seq ?_ | refine wp_block ?_ | refine wp_skip ?_ | refine wp_exit ?_ | ((first | refine v_some 5 tab_ok hN H (by rfl) ct_Pack2 ?_ | refine v_more tab_ok hN H (by rfl) (by rfl) ct_Pack2 ?_); clear H; intro a w H; replace H := nf_Pack2 H; (try simp only [List.drop_succ_cons, List.drop_zero, List.drop_nil]); try refine wpList_nil ?_) | refine wp_region_lit ?_)
    refine v_callG [1] [] (hbd) H (by rfl) rfl (by rfl) cb cw ca (by rfl) (by rfl) (by rfl) ?_; clear H; intro a w H; replace H := nf_Pack2 H; try refine wpList_nil ?_
    repeat (first | refine wp_seq ?_ | refine wp_block ?_ | refine wp_skip ?_ | refine wp_exit ?_ | ((first | refine v_some 5 tab_ok hN H (by rfl) ct_Pack2 ?_ | refine v_more tab_ok hN H (by rfl) (by rfl) ct_Pack2 ?_); clear H; intro a w H; replace H := nf_Pack2 H; (try simp only [List.drop_succ_cons, List.drop_zero, List.drop_nil]); try refine wpList_nil ?_) | refine wp_region_lit ?_)
    refine v_cond H (by rfl) (fun hb => ?_) (fun hb => ?_)
    · simp at hb
    · repeat (first | refine wp_seq ?_ | refine wp_block ?_ | refine wp_skip ?_ | refine wp_exit ?_ | ((first | refine v_some 5 tab_ok hN H (by rfl) ct_Pack2 ?_ | refine v_more tab_ok hN H (by rfl) (by rfl) ct_Pack2 ?_); clear H; intro a w H; replace H := nf_Pack2 H; (try simp only [List.drop_succ_cons, List.drop_zero, List.drop_nil]); try refine wpList_nil ?_) | refine wp_region_lit ?_)
      refine v_call [1] [] (h4) H rfl rfl (by rfl) cb cw ca ?_; clear H; intro a w H; replace H := nf_Pack2 H; try refine wpList_nil ?_
      repeat (first | refine wp_seq ?_ | refine wp_block ?_ | refine wp_skip ?_ | refine wp_exit ?_ | ((first | refine v_some 5 tab_ok hN H (by rfl) ct_Pack2 ?_ | refine v_more tab_ok hN H (by rfl) (by rfl) ct_Pack2 ?_); clear H; intro a w H; replace H := nf_Pack2 H; (try simp only [List.drop_succ_cons, List.drop_zero, List.drop_nil]); try refine wpList_nil ?_) | refine wp_region_lit ?_)
      refine v_call [1] [] (h3) H rfl rfl (by rfl) cb cw ca ?_; clear H; intro a w H; replace H := nf_Pack2 H; try refine wpList_nil ?_
      repeat (first | refine wp_seq ?_ | refine wp_block ?_ | refine wp_skip ?_ | refine wp_exit ?_ | ((first | refine v_some 5 tab_ok hN H (by rfl) ct_Pack2 ?_ | refine v_more tab_ok hN H (by rfl) (by rfl) ct_Pack2 ?_); clear H; intro a w H; replace H := nf_Pack2 H; (try simp only [List.drop_succ_cons, List.drop_zero, List.drop_nil]); try refine wpList_nil ?_) | refine wp_region_lit ?_)
      refine v_call [] [] (hd) H rfl rfl (by rfl) cb cw ca ?_; clear H; intro a w H; replace H := nf_Pack2 H; try refine wpList_nil ?_
      repeat (first | refine wp_seq ?_ | refine wp_block ?_ | refine wp_skip ?_ | refine wp_exit ?_ | ((first | refine v_some 5 tab_ok hN H (by rfl) ct_Pack2 ?_ | refine v_more tab_ok hN H (by rfl) (by rfl) ct_Pack2 ?_); clear H; intro a w H; replace H := nf_Pack2 H; (try simp only [List.drop_succ_cons, List.drop_zero, List.drop_nil]); try refine wpList_nil ?_) | refine wp_region_lit ?_)
      replace H := H.keep [0, 2, 3, 4, 7, 12] 4 0 ⟨Nat.le_trans hN (by show _ ≤ 4; decide), Nat.le_trans hR (by show _ ≤ 0; decide)⟩ (by rfl) (by rfl)
      replace H := nf_Pack2 H
      have H := v_ref H 7 2 (Nat.le_trans hN (by decide)) rfl rfl rfl
      simp only [nilT, strip, List.map_cons, List.map_nil, reduceIte, Nat.reduceEqDiff] at H
      repeat (first | refine wp_seq ?_ | refine wp_block ?_)
      refine v_draw 0 [2, 8] [0, 5, 6, 7] (by kernel_rfl) (by kernel_rfl) H (by rfl) (fun gS H => ?_); try replace H := nt_Pack2 H
      repeat (refine v_someT 5 tab_ok hN H (by rfl) ct_Pack2 ?_; clear H; intro a w H; replace H := nt_Pack2 H; simp only [List.drop_succ_cons, List.drop_zero, List.drop_nil])
      refine v_moreT tab_ok hN H (by rfl) ct_Pack2 ?_; clear H; intro a w H; try replace H := nt_Pack2 H
      refine v_callT [1] [] (hbd) H (by rfl) (by rfl) rfl rfl (by rfl) cb cw ca ?_; clear H; intro a w H; try replace H := nt_Pack2 H
      repeat (refine v_someT 5 tab_ok hN H (by rfl) ct_Pack2 ?_; clear H; intro a w H; replace H := nt_Pack2 H; simp only [List.drop_succ_cons, List.drop_zero, List.drop_nil])
      refine v_moreT tab_ok hN H (by rfl) ct_Pack2 ?_; clear H; intro a w H; try replace H := nt_Pack2 H
      refine v_drawNil H (fun H => ?_)
      repeat (first | refine wp_seq ?_ | refine wp_block ?_ | refine wp_skip ?_ | refine wp_exit ?_ | ((first | refine v_some 5 tab_ok hN H (by rfl) ct_Pack2 ?_ | refine v_more tab_ok hN H (by rfl) (by rfl) ct_Pack2 ?_); clear H; intro a w H; replace H := nf_Pack2 H; (try simp only [List.drop_succ_cons, List.drop_zero, List.drop_nil]); try refine wpList_nil ?_) | refine wp_region_lit ?_)
      simp only [Pf.av, Nd.av, Nd.zero, bas, List.map_nil]
      try simp only [hz] at H
      refine wp_ret ?_
      exact v_end [] [] tab_ok ⟨hN, hR⟩ (rs := [.cell 2 64, .tmp 3]) (ress := [_, _]) rfl H (by rfl) (by rfl) cb cw ca rfl
theorem readP_v (l : List UInt8) (hl : l.length ≤ 34359730000) : VC Try.prog 49 [.bs l none] [] (.tup [(rdQ l).1.av, .v (.bool (rdQ l).2)]) := by
  by_cases hs : l.length < 2
  · exact readP_short l hs
  · by_cases hn : 256 < num 0 (l.take 2)
    · exact readP_many l hl hs hn
    · by_cases hq : (l.drop 2).length < (num 0 (l.take 2) + 7) / 8
      · exact readP_cut l hl hs hn hq
      · exact readP_main l hl hs hn hq
end Go.Proofs.Ytlagngkafllbiaa
/- Proofs as bytes: read, and told again. -/
namespace Go.Proofs.Ytlagngkafllbiaa
open Go Go.RowKit
/-- The state made plain. -/
theorem nf_Pack3 {P : Program} {w0 w : World} {N : Gh} {nt : Nat} {st s2 : St} {a : Act} (H : Rel P w0 N nt st a w) (h : st = s2 := by (try simp only [pk, elemB, St.put, St.ev, St.tmp, St.keep, find, dropT, slots, AV.put, AV.loc, fitI, convI, IntKind.signed, IntKind.bits, strip, St.lose, mergeL, setAll, nth, renB, ren, idx?, sub, allP, low, bnd, Int.reduceEq, Nat.reduceAdd, Nat.reduceLT, reduceIte, reduceCtorEq, Nat.reduceEqDiff, Nat.reduceLeDiff, Nat.reduceBEq, Int.reducePow, Int.reduceToNat, ti24_t, ti24_z, ti5_t, ti5_z, ti30_t, ti30_z, ti62_t, ti62_z, ti64_t, ti64_z, ti41_t, ti41_z, ti26_t, ti26_z]); rfl) : Rel P w0 N nt s2 a w := h ▸ H
theorem ct_Pack3 {c : Prop} (h : c := by ((try simp only [pk, elemB, St.put, St.ev, St.tmp, St.keep, find, dropT, slots, AV.put, AV.loc, fitI, convI, IntKind.signed, IntKind.bits, strip, St.lose, mergeL, setAll, nth, renB, ren, idx?, sub, allP, low, bnd, Int.reduceEq, Nat.reduceAdd, Nat.reduceLT, reduceIte, reduceCtorEq, Nat.reduceEqDiff, Nat.reduceLeDiff, Nat.reduceBEq, Int.reducePow, Int.reduceToNat, ti24_t, ti24_z, ti5_t, ti5_z, ti30_t, ti30_z, ti62_t, ti62_z, ti64_t, ti64_z, ti41_t, ti41_z, ti26_t, ti26_z, ti24, ti5, ti30, ti62, ti64, ti41, ti26, fit, gcond, ilo, ihi]); first | done | exact cd | exact cd2 | skip)) : c := h
theorem cmp_zero : ∀ x y : List UInt8, Lib.compareBytes x y = 0 ↔ x = y
  | [], [] => by simp [Lib.compareBytes]
  | [], _ :: _ => by simp [Lib.compareBytes]
  | _ :: _, [] => by simp [Lib.compareBytes]
  | x :: l, y :: m => by
    have ih := cmp_zero l m
    simp only [Lib.compareBytes]
    split
    · rename_i h; simp only [List.cons.injEq]; constructor
      · intro e; cases e
      · rintro ⟨rfl, _⟩; exact absurd h (by simp)
    · split
      · rename_i h; simp only [List.cons.injEq]; constructor
        · intro e; cases e
        · rintro ⟨rfl, _⟩; exact absurd h (by simp)
      · rename_i h1 h2
        have : x = y := by
          apply UInt8.toNat_inj.1
          have h1 := h1; have h2 := h2
          simp [UInt8.lt_iff_toNat_lt] at h1 h2
          omega
        subst this; simpa using ih
def Pf.zero : Pf := ⟨[], .zero⟩
theorem pzero_wf : Pf.zero.wf := ⟨fun h hh => (by cases hh), zero_wf⟩
theorem rdQ_wf (l : List UInt8) : (rdQ l).1.wf := by
  unfold rdQ
  split
  · exact pzero_wf
  · split
    · exact pzero_wf
    · split
      · exact pzero_wf
      · dsimp only
        split
        · exact ⟨runS_w _ _, zero_wf⟩
        · exact ⟨runS_w _ _, dec_wf _⟩
def pOk (l : List UInt8) : Prop := (rdQ l).2 = true ∧ (rdQ l).1.chk = 0 ∧ (rdQ l).1.text = l
instance (l : List UInt8) : Decidable (pOk l) := inferInstanceAs (Decidable (_ ∧ _))
def pDec (l : List UInt8) : Pf := if pOk l then (rdQ l).1 else .zero
set_option maxRecDepth 20000 in
theorem decodeP_aux (l : List UInt8) (hl : l.length ≤ 34359730000) (q : Pf) (ok : Bool) (hw : q.wf) (h1 : VC Try.prog 49 [.bs l none] [] (.tup [q.av, .v (.bool ok)])) (r : Pf) (e : Int)
    (hr1 : ok = true ∧ q.chk = 0 ∧ q.text = l → r = q ∧ e = 0) (hr2 : ¬ (ok = true ∧ q.chk = 0 ∧ q.text = l) → r = .zero ∧ e = 10) : VC Try.prog 27 [.bs l none] [] (.tup [r.av, errv e]) := by
  have hz2 := z32_len
  obtain ⟨g1, g2, g3, g4⟩ := id hw.e
  refine v_enter Try.func27 rfl (by kernel_rfl) (by show 1 ≤ 31; decide) ?_
  intro N w0 a w hN hR H
  repeat (first | refine wp_seq ?_ | refine wp_block ?_ | refine wp_skip ?_ | refine wp_exit ?_ | ((first | refine v_some 5 tab_ok hN H (by rfl) ct_Pack3 ?_ | refine v_more tab_ok hN H (by rfl) (by rfl) ct_Pack3 ?_); clear H; intro a w H; replace H := nf_Pack3 H; (try simp only [List.drop_succ_cons, List.drop_zero, List.drop_nil]); try refine wpList_nil ?_) | refine wp_region_lit ?_)
  simp only [Pf.av, Nd.av] at h1
  refine v_call [] [] (h1) H rfl rfl (by rfl) cb cw ca ?_; clear H; intro a w H; replace H := nf_Pack3 H; try refine wpList_nil ?_
  repeat (first | refine wp_seq ?_ | refine wp_block ?_ | refine wp_skip ?_ | refine wp_exit ?_ | ((first | refine v_some 5 tab_ok hN H (by rfl) ct_Pack3 ?_ | refine v_more tab_ok hN H (by rfl) (by rfl) ct_Pack3 ?_); clear H; intro a w H; replace H := nf_Pack3 H; (try simp only [List.drop_succ_cons, List.drop_zero, List.drop_nil]); try refine wpList_nil ?_) | refine wp_region_lit ?_)
  cases ok
  · refine v_cond H (by rfl) (fun hb => ?_) (fun hb => ?_)
    · repeat (first | refine wp_seq ?_ | refine wp_block ?_ | refine wp_skip ?_ | refine wp_exit ?_ | ((first | refine v_some 5 tab_ok hN H (by rfl) ct_Pack3 ?_ | refine v_more tab_ok hN H (by rfl) (by rfl) ct_Pack3 ?_); clear H; intro a w H; replace H := nf_Pack3 H; (try simp only [List.drop_succ_cons, List.drop_zero, List.drop_nil]); try refine wpList_nil ?_) | refine wp_region_lit ?_)
      obtain ⟨rfl, rfl⟩ := hr2 (fun h => by cases h.1)
      simp only [Pf.zero, Pf.av, Nd.av, Nd.zero, bas, List.map_nil]
      try simp only [hz] at H
      refine wp_ret ?_
      exact v_end [] [] tab_ok ⟨hN, hR⟩ (rs := [.cell 2 64, .tmp 3]) (ress := [_, _]) rfl H (by rfl) (by rfl) cb cw ca rfl
    · simp at hb
  · refine v_cond H (by rfl) (fun hb => ?_) (fun hb => ?_)
    · simp at hb
    · by_cases hc : q.chk = 0
      · have h2 := encodeP_ok q hw hc
        have h3 := compare_v q.text l
        have hz' := cmp_zero q.text l
        simp only [Pf.av, Nd.av] at h2
        repeat (first | refine wp_seq ?_ | refine wp_block ?_ | refine wp_skip ?_ | refine wp_exit ?_ | ((first | refine v_some 5 tab_ok hN H (by rfl) ct_Pack3 ?_ | refine v_more tab_ok hN H (by rfl) (by rfl) ct_Pack3 ?_); clear H; intro a w H; replace H := nf_Pack3 H; (try simp only [List.drop_succ_cons, List.drop_zero, List.drop_nil]); try refine wpList_nil ?_) | refine wp_region_lit ?_)
        refine v_call [] [] (h2) H rfl rfl (by rfl) cb cw ca ?_; clear H; intro a w H; replace H := nf_Pack3 H; try refine wpList_nil ?_
        repeat (first | refine wp_seq ?_ | refine wp_block ?_ | refine wp_skip ?_ | refine wp_exit ?_ | ((first | refine v_some 5 tab_ok hN H (by rfl) ct_Pack3 ?_ | refine v_more tab_ok hN H (by rfl) (by rfl) ct_Pack3 ?_); clear H; intro a w H; replace H := nf_Pack3 H; (try simp only [List.drop_succ_cons, List.drop_zero, List.drop_nil]); try refine wpList_nil ?_) | refine wp_region_lit ?_)
        refine v_callG [] [] (h3) H (by rfl) rfl (by rfl) cb cw ca (by rfl) (by rfl) (by rfl) ?_; clear H; intro a w H; replace H := nf_Pack3 H; try refine wpList_nil ?_
        repeat (first | refine wp_seq ?_ | refine wp_block ?_ | refine wp_skip ?_ | refine wp_exit ?_ | ((first | refine v_some 5 tab_ok hN H (by rfl) ct_Pack3 ?_ | refine v_more tab_ok hN H (by rfl) (by rfl) ct_Pack3 ?_); clear H; intro a w H; replace H := nf_Pack3 H; (try simp only [List.drop_succ_cons, List.drop_zero, List.drop_nil]); try refine wpList_nil ?_) | refine wp_region_lit ?_)
        refine v_cond H (by rfl) (fun hb => ?_) (fun hb => ?_)
        · obtain ⟨rfl, rfl⟩ := hr2 (fun h => by simp at hb; exact hb (hz'.2 h.2.2))
          repeat (first | refine wp_seq ?_ | refine wp_block ?_ | refine wp_skip ?_ | refine wp_exit ?_ | ((first | refine v_some 5 tab_ok hN H (by rfl) ct_Pack3 ?_ | refine v_more tab_ok hN H (by rfl) (by rfl) ct_Pack3 ?_); clear H; intro a w H; replace H := nf_Pack3 H; (try simp only [List.drop_succ_cons, List.drop_zero, List.drop_nil]); try refine wpList_nil ?_) | refine wp_region_lit ?_)
          simp only [Pf.zero, Pf.av, Nd.av, Nd.zero, bas, List.map_nil]
          try simp only [hz] at H
          refine wp_ret ?_
          exact v_end [] [] tab_ok ⟨hN, hR⟩ (rs := [.cell 2 64, .tmp 3]) (ress := [_, _]) rfl H (by rfl) (by rfl) cb cw ca rfl
        · obtain ⟨rfl, rfl⟩ := hr1 ⟨rfl, hc, hz'.1 (by simpa using hb)⟩
          repeat (first | refine wp_seq ?_ | refine wp_block ?_ | refine wp_skip ?_ | refine wp_exit ?_ | ((first | refine v_some 5 tab_ok hN H (by rfl) ct_Pack3 ?_ | refine v_more tab_ok hN H (by rfl) (by rfl) ct_Pack3 ?_); clear H; intro a w H; replace H := nf_Pack3 H; (try simp only [List.drop_succ_cons, List.drop_zero, List.drop_nil]); try refine wpList_nil ?_) | refine wp_region_lit ?_)
          simp only [Pf.av, Nd.av]
          refine wp_ret ?_
          exact v_end [] [] tab_ok ⟨hN, hR⟩ (rs := [.cell 2 64, .tmp 3]) (ress := [_, _]) rfl H (by rfl) (by rfl) cb cw ca rfl
      · have h2 := encodeP_bad q hw hc
        obtain ⟨rfl, rfl⟩ := hr2 (fun h => hc h.2.1)
        have h3 := compare_v [] l
        simp only [Pf.av, Nd.av] at h2
        repeat (first | refine wp_seq ?_ | refine wp_block ?_ | refine wp_skip ?_ | refine wp_exit ?_ | ((first | refine v_some 5 tab_ok hN H (by rfl) ct_Pack3 ?_ | refine v_more tab_ok hN H (by rfl) (by rfl) ct_Pack3 ?_); clear H; intro a w H; replace H := nf_Pack3 H; (try simp only [List.drop_succ_cons, List.drop_zero, List.drop_nil]); try refine wpList_nil ?_) | refine wp_region_lit ?_)
        refine v_call [] [] (h2) H rfl rfl (by rfl) cb cw ca ?_; clear H; intro a w H; replace H := nf_Pack3 H; try refine wpList_nil ?_
        repeat (first | refine wp_seq ?_ | refine wp_block ?_ | refine wp_skip ?_ | refine wp_exit ?_ | ((first | refine v_some 5 tab_ok hN H (by rfl) ct_Pack3 ?_ | refine v_more tab_ok hN H (by rfl) (by rfl) ct_Pack3 ?_); clear H; intro a w H; replace H := nf_Pack3 H; (try simp only [List.drop_succ_cons, List.drop_zero, List.drop_nil]); try refine wpList_nil ?_) | refine wp_region_lit ?_)
        refine v_callG [] [] (h3) H (by rfl) rfl (by rfl) cb cw ca (by rfl) (by rfl) (by rfl) ?_; clear H; intro a w H; replace H := nf_Pack3 H; try refine wpList_nil ?_
        repeat (first | refine wp_seq ?_ | refine wp_block ?_ | refine wp_skip ?_ | refine wp_exit ?_ | ((first | refine v_some 5 tab_ok hN H (by rfl) ct_Pack3 ?_ | refine v_more tab_ok hN H (by rfl) (by rfl) ct_Pack3 ?_); clear H; intro a w H; replace H := nf_Pack3 H; (try simp only [List.drop_succ_cons, List.drop_zero, List.drop_nil]); try refine wpList_nil ?_) | refine wp_region_lit ?_)
        refine v_cond H (by rfl) (fun hb => ?_) (fun hb => ?_)
        · repeat (first | refine wp_seq ?_ | refine wp_block ?_ | refine wp_skip ?_ | refine wp_exit ?_ | ((first | refine v_some 5 tab_ok hN H (by rfl) ct_Pack3 ?_ | refine v_more tab_ok hN H (by rfl) (by rfl) ct_Pack3 ?_); clear H; intro a w H; replace H := nf_Pack3 H; (try simp only [List.drop_succ_cons, List.drop_zero, List.drop_nil]); try refine wpList_nil ?_) | refine wp_region_lit ?_)
          simp only [Pf.zero, Pf.av, Nd.av, Nd.zero, bas, List.map_nil]
          try simp only [hz] at H
          refine wp_ret ?_
          exact v_end [] [] tab_ok ⟨hN, hR⟩ (rs := [.cell 2 64, .tmp 3]) (ress := [_, _]) rfl H (by rfl) (by rfl) cb cw ca rfl
        · simp [hc] at hb
theorem decodeP_v (l : List UInt8) (hl : l.length ≤ 34359730000) : VC Try.prog 27 [.bs l none] [] (.tup [(pDec l).av, errv (if pOk l then 0 else 10)]) :=
  decodeP_aux l hl _ _ (rdQ_wf l) (readP_v l hl) _ _ (fun h => by have h : pOk l := h; rw [pDec, if_pos h, if_pos h]; exact ⟨rfl, rfl⟩) (fun h => by have h : ¬ pOk l := h; rw [pDec, if_neg h, if_neg h]; exact ⟨rfl, rfl⟩)
end Go.Proofs.Ytlagngkafllbiaa
/- The digest at the top of a way: node.Up, and the document's. -/
namespace Go.Proofs.Ytlagngkafllbiaa
open Go Go.RowKit
/-- The state made plain. -/
theorem nf_Up {P : Program} {w0 w : World} {N : Gh} {nt : Nat} {st s2 : St} {a : Act} (H : Rel P w0 N nt st a w) (h : st = s2 := by (try simp only [pk, elemB, St.put, St.ev, St.tmp, St.keep, find, dropT, slots, AV.put, AV.loc, fitI, convI, IntKind.signed, IntKind.bits, strip, St.lose, mergeL, setAll, nth, renB, ren, idx?, sub, allP, low, bnd, Int.reduceEq, Nat.reduceAdd, Nat.reduceLT, reduceIte, reduceCtorEq, Nat.reduceEqDiff, Nat.reduceLeDiff, Nat.reduceBEq, Int.reducePow, Int.reduceToNat, ti24_t, ti24_z, ti5_t, ti5_z, ti30_t, ti30_z, ti23_t, ti23_z, ti62_t, ti62_z, ti64_t, ti64_z, ti41_t, ti41_z, ti22_t, ti22_z]); rfl) : Rel P w0 N nt s2 a w := h ▸ H
theorem nt_Up {P : Program} {w0 w : World} {N gS : Gh} {nt : Nat} {q q2 st s2 : St} {a : Act} (H : RelT P w0 N nt gS q st a w) (h1 : q = q2 := by (try simp only [pk, elemB, St.put, St.ev, St.tmp, St.keep, find, dropT, slots, AV.put, AV.loc, fitI, convI, IntKind.signed, IntKind.bits, strip, St.lose, mergeL, setAll, nth, renB, ren, idx?, sub, allP, low, bnd, Int.reduceEq, Nat.reduceAdd, Nat.reduceLT, reduceIte, reduceCtorEq, Nat.reduceEqDiff, Nat.reduceLeDiff, Nat.reduceBEq, Int.reducePow, Int.reduceToNat, ti24_t, ti24_z, ti5_t, ti5_z, ti30_t, ti30_z, ti23_t, ti23_z, ti62_t, ti62_z, ti64_t, ti64_z, ti41_t, ti41_z, ti22_t, ti22_z]); rfl) (h : st = s2 := by (try simp only [pk, elemB, St.put, St.ev, St.tmp, St.keep, find, dropT, slots, AV.put, AV.loc, fitI, convI, IntKind.signed, IntKind.bits, strip, St.lose, mergeL, setAll, nth, renB, ren, idx?, sub, allP, low, bnd, Int.reduceEq, Nat.reduceAdd, Nat.reduceLT, reduceIte, reduceCtorEq, Nat.reduceEqDiff, Nat.reduceLeDiff, Nat.reduceBEq, Int.reducePow, Int.reduceToNat, ti24_t, ti24_z, ti5_t, ti5_z, ti30_t, ti30_z, ti23_t, ti23_z, ti62_t, ti62_z, ti64_t, ti64_z, ti41_t, ti41_z, ti22_t, ti22_z]); rfl) : RelT P w0 N nt gS q2 s2 a w := h1 ▸ h ▸ H
theorem ct_Up {c : Prop} (h : c := by ((try simp only [pk, elemB, St.put, St.ev, St.tmp, St.keep, find, dropT, slots, AV.put, AV.loc, fitI, convI, IntKind.signed, IntKind.bits, strip, St.lose, mergeL, setAll, nth, renB, ren, idx?, sub, allP, low, bnd, Int.reduceEq, Nat.reduceAdd, Nat.reduceLT, reduceIte, reduceCtorEq, Nat.reduceEqDiff, Nat.reduceLeDiff, Nat.reduceBEq, Int.reducePow, Int.reduceToNat, ti24_t, ti24_z, ti5_t, ti5_z, ti30_t, ti30_z, ti23_t, ti23_z, ti62_t, ti62_z, ti64_t, ti64_z, ti41_t, ti41_z, ti22_t, ti22_z, ti24, ti5, ti30, ti23, ti62, ti64, ti41, ti22, fit, gcond, ilo, ihi]); first | done | exact cd | exact cd2 | skip)) : c := h
/-- One step up. -/
def stepH (key : List UInt8) (d : Nat) (x h : List UInt8) : List UInt8 := if bitN key d then innerH x h else innerH h x
/-- From the sides from the depth d on. -/
def upL (key : List UInt8) : Nat → List (List UInt8) → List UInt8 → List UInt8
  | _, [], h => h
  | d, x :: r, h => stepH key d x (upL key (d + 1) r h)
theorem stepH_len (key : List UInt8) (d : Nat) (x h : List UInt8) : (stepH key d x h).length = 32 := by unfold stepH; split <;> exact innerH_len _ _
theorem upL_len (key : List UInt8) (h : List UInt8) (hh : h.length = 32) : ∀ d s, (upL key d s h).length = 32
  | _, [] => hh
  | _, _ :: _ => stepH_len _ _ _ _
theorem upL_drop (key : List UInt8) (s : List (List UInt8)) (h : List UInt8) (k : Nat) (hk : k < s.length) : upL key k (s.drop k) h = stepH key k (s.getD k []) (upL key (k + 1) (s.drop (k + 1)) h) := by
  rw [List.drop_eq_getElem_cons hk, List.getElem_eq_getD []]; rfl
def topH (key : List UInt8) (p : Pf) : List UInt8 := upL key 0 p.s (sum p.e.text)
theorem topH_len (key : List UInt8) (p : Pf) : (topH key p).length = 32 := upL_len _ _ (sum_length _) _ _
theorem chk_all {p : Pf} (h : p.chk = 0) : p.s.length ≤ 256 ∧ p.e.ok ∧ p.e.k ≠ 2 := by
  unfold Pf.chk at h
  split at h
  · cases h
  · split at h
    · rename_i h1 h2; exact ⟨by omega, h2⟩
    · cases h
set_option maxRecDepth 20000 in
set_option maxHeartbeats 1000000 in
theorem up_v (key : List UInt8) (hk32 : key.length = 32) (p : Pf) (hw : p.wf) (h : p.chk = 0) : VC Try.prog 55 [.ba key, p.av] [] (.tup [.ba (topH key p), errv 0]) := by
  obtain ⟨hle, hok, hk2⟩ := chk_all h
  obtain ⟨s, n⟩ := p
  dsimp only at hle hok hk2
  have hs := hw.s
  have hsl := bas_len s
  have hdg := digest_ok n hw.e hok
  obtain ⟨h1, h2, h3, h4⟩ := id hw.e
  dsimp only at h1 h2 h3 h4 hs
  have hz2 := z32_len
  have hd2 : decide ((n.k.toNat : Int) = 2) = false := decide_eq_false fun e => hk2 (UInt8.toNat_inj.1 (by simp; omega))
  unfold topH
  obtain ⟨h0, hh0⟩ : ∃ h0, h0 = sum n.text := ⟨_, rfl⟩
  have h0l : h0.length = 32 := by rw [hh0]; exact sum_length _
  rw [← hh0] at hdg
  dsimp only
  rw [← hh0]
  clear hh0 hok hk2 h hw
  refine v_enter Try.func55 rfl (by kernel_rfl) (by show 2 ≤ 56; decide) ?_
  intro N w0 a w hN hR H
  simp only [Pf.av, Nd.av] at H hdg
  repeat (first | refine wp_seq ?_ | refine wp_block ?_ | refine wp_skip ?_ | refine wp_exit ?_ | ((first | refine v_some 5 tab_ok hN H (by rfl) (by (try simp only [hsl]); first | done | exact ct_Up) ?_ | refine v_more tab_ok hN H (by rfl) (by rfl) (by (try simp only [hsl]); first | done | exact ct_Up) ?_); clear H; intro a w H; replace H := nf_Up H; first | (simp only [hsl] at H; replace H := nf_Up H) | skip; (try simp only [List.drop_succ_cons, List.drop_zero, List.drop_nil]); try refine wpList_nil ?_) | refine wp_region_lit ?_)
  refine v_cond H (by rfl) (fun hb => ?_) (fun hb => ?_)
  · exfalso; rw [decide_eq_true_eq] at hb; omega
  · repeat (first | refine wp_seq ?_ | refine wp_block ?_ | refine wp_skip ?_ | refine wp_exit ?_ | ((first | refine v_some 5 tab_ok hN H (by rfl) (by (try simp only [hsl]); first | done | exact ct_Up) ?_ | refine v_more tab_ok hN H (by rfl) (by rfl) (by (try simp only [hsl]); first | done | exact ct_Up) ?_); clear H; intro a w H; replace H := nf_Up H; first | (simp only [hsl] at H; replace H := nf_Up H) | skip; (try simp only [List.drop_succ_cons, List.drop_zero, List.drop_nil]); try refine wpList_nil ?_) | refine wp_region_lit ?_)
    refine v_call [] [] (hdg) H rfl rfl (by rfl) (by simp [pickB, bxs, ren, idx?, sub_refl, sub, allP, hsl] <;> omega) (by first | rfl | (simp [hsl] <;> omega)) (by first | exact trivial | exact ⟨sub_refl _ _, trivial⟩ | exact ⟨sub_refl _ _, sub_refl _ _, trivial⟩ | exact ⟨sub_refl _ _, sub_refl _ _, sub_refl _ _, trivial⟩ | exact ⟨⟨rfl, sub_refl _ _, trivial⟩, sub_refl _ _, trivial⟩ | (simp [cargs, cargsG, St.ev, St.tmp, find, ren, idx?, sub_refl, sub, allP, resv, resC, bss, hsl] <;> omega)) ?_; clear H; intro a w H; replace H := nf_Up H; first | (simp only [hsl] at H; replace H := nf_Up H) | skip; try refine wpList_nil ?_
    repeat (first | refine wp_seq ?_ | refine wp_block ?_ | refine wp_skip ?_ | refine wp_exit ?_ | ((first | refine v_some 5 tab_ok hN H (by rfl) (by (try simp only [hsl]); first | done | exact ct_Up) ?_ | refine v_more tab_ok hN H (by rfl) (by rfl) (by (try simp only [hsl]); first | done | exact ct_Up) ?_); clear H; intro a w H; replace H := nf_Up H; first | (simp only [hsl] at H; replace H := nf_Up H) | skip; (try simp only [List.drop_succ_cons, List.drop_zero, List.drop_nil]); try refine wpList_nil ?_) | refine wp_region_lit ?_)
    refine v_cond H (by rfl) (fun hb => ?_) (fun hb => ?_)
    · exfalso; simp only [hd2] at hb; simp at hb
    · clear hb
      repeat (first | refine wp_seq ?_ | refine wp_block ?_ | refine wp_skip ?_ | refine wp_exit ?_ | ((first | refine v_some 5 tab_ok hN H (by rfl) (by (try simp only [hsl]); first | done | exact ct_Up) ?_ | refine v_more tab_ok hN H (by rfl) (by rfl) (by (try simp only [hsl]); first | done | exact ct_Up) ?_); clear H; intro a w H; replace H := nf_Up H; first | (simp only [hsl] at H; replace H := nf_Up H) | skip; (try simp only [List.drop_succ_cons, List.drop_zero, List.drop_nil]); try refine wpList_nil ?_) | refine wp_region_lit ?_)
      refine v_loop (fun k : Nat => ⟨[(8, none, .v (.int .i64 ((k : Int) - 1))), (6, none, .ptr 3 []), (5, none, .v (.int .i64 0)), (4, none, .ptr 2 []), (3, none, .ptr 1 []), (2, none, .ptr 0 [])],
        [(.ba 32, .ba key), (ti64.ty, .st [.sl (.ba 32) (bas s) none, .st [.v (B8 n.k), .ba n.key, .ba n.v, .ba n.l, .ba n.r]]), (.ba 32, .ba z32), (.ba 32, .ba (upL key k (s.drop k) h0))], [], []⟩)
        (fun k => k ≤ s.length) (fun k => k) s.length (Nat.le_refl _) (H.to 4 0 ⟨Nat.le_trans hN (by decide), hR⟩ ⟨rfl, rfl, rfl, rfl, rfl, rfl, trivial⟩ (by rw [List.drop_length]; rfl) rfl rfl rfl rfl) ?_
      clear H
      intro k a w hk H
      have hul := upL_len key h0 h0l k (s.drop k)
      repeat (first | refine wp_seq ?_ | refine wp_block ?_ | refine wp_skip ?_ | refine wp_exit ?_ | ((first | refine v_some 5 tab_ok hN H (by rfl) (by (try simp only [hsl]); first | done | exact ct_Up) ?_ | refine v_more tab_ok hN H (by rfl) (by rfl) (by (try simp only [hsl]); first | done | exact ct_Up) ?_); clear H; intro a w H; replace H := nf_Up H; first | (simp only [hsl] at H; replace H := nf_Up H) | skip; (try simp only [List.drop_succ_cons, List.drop_zero, List.drop_nil]); try refine wpList_nil ?_) | refine wp_region_lit ?_)
      refine v_cond H (by rfl) (fun hb => ?_) (fun hb => ?_)
      · obtain ⟨j, rfl⟩ : ∃ j, k = j + 1 := ⟨k - 1, by rw [decide_eq_true_eq] at hb; omega⟩
        clear hb
        have hj : j < s.length := hk
        have e1 : (((j + 1 : Nat) : Int) - 1) = (j : Int) := by omega
        rw [e1] at H
        have hbit := bit_v key hk32 (j : Int)
        have hj256 : j < 256 := by omega
        have hpb : decide (pbit key (j : Int) = 0) = !bitN key j := by
          rw [pbit, if_pos (by omega), Int.toNat_natCast]; cases bitN key j <;> rfl
        have hup := upL_drop key s h0 j hj
        have hg := bas_get s j hj
        rw [List.getElem_eq_getD []] at hg
        have hx : (s.getD j []).length = 32 := by rw [← List.getElem_eq_getD (h := hj) []]; exact hs _ (List.getElem_mem _)
        generalize s.getD j [] = x at *
        generalize upL key (j + 1) (s.drop (j + 1)) h0 = u at *
        have hin1 := inner_v u x hul hx
        have hin2 := inner_v x u hx hul
        have hil1 := innerH_len u x
        have hil2 := innerH_len x u
        repeat (first | refine wp_seq ?_ | refine wp_block ?_ | refine wp_skip ?_ | refine wp_exit ?_ | ((first | refine v_some 5 tab_ok hN H (by rfl) (by (try simp only [hsl]); first | done | exact ct_Up) ?_ | refine v_more tab_ok hN H (by rfl) (by rfl) (by (try simp only [hsl]); first | done | exact ct_Up) ?_); clear H; intro a w H; replace H := nf_Up H; first | (simp only [hsl] at H; replace H := nf_Up H) | skip; (try simp only [List.drop_succ_cons, List.drop_zero, List.drop_nil]); try refine wpList_nil ?_) | refine wp_region_lit ?_)
        refine v_call [] [] (hbit) H rfl rfl (by rfl) (by simp [pickB, bxs, ren, idx?, sub_refl, sub, allP, hsl] <;> omega) (by first | rfl | (simp [hsl] <;> omega)) (by first | exact trivial | exact ⟨sub_refl _ _, trivial⟩ | exact ⟨sub_refl _ _, sub_refl _ _, trivial⟩ | exact ⟨sub_refl _ _, sub_refl _ _, sub_refl _ _, trivial⟩ | exact ⟨⟨rfl, sub_refl _ _, trivial⟩, sub_refl _ _, trivial⟩ | (simp [cargs, cargsG, St.ev, St.tmp, find, ren, idx?, sub_refl, sub, allP, resv, resC, bss, hsl] <;> omega)) ?_; clear H; intro a w H; replace H := nf_Up H; first | (simp only [hsl] at H; replace H := nf_Up H) | skip; try refine wpList_nil ?_
        repeat (first | refine wp_seq ?_ | refine wp_block ?_ | refine wp_skip ?_ | refine wp_exit ?_ | ((first | refine v_some 5 tab_ok hN H (by rfl) (by (try simp only [hsl]); first | done | exact ct_Up) ?_ | refine v_more tab_ok hN H (by rfl) (by rfl) (by (try simp only [hsl]); first | done | exact ct_Up) ?_); clear H; intro a w H; replace H := nf_Up H; first | (simp only [hsl] at H; replace H := nf_Up H) | skip; (try simp only [List.drop_succ_cons, List.drop_zero, List.drop_nil]); try refine wpList_nil ?_) | refine wp_region_lit ?_)
        simp only [hpb] at H
        refine v_cond H (by rfl) (fun hb => ?_) (fun hb => ?_)
        · have hbf : bitN key j = false := by cases h : bitN key j; rfl; rw [h] at hb; simp at hb
          have hst : stepH key j x u = innerH u x := by unfold stepH; rw [hbf]; rfl
          rw [hst] at hup
          clear hb
          repeat (first | refine wp_seq ?_ | refine wp_block ?_ | refine wp_skip ?_ | refine wp_exit ?_ | ((first | refine v_some 5 tab_ok hN H (by rfl) (by (try simp only [hsl]); first | done | exact ct_Up) ?_ | refine v_more tab_ok hN H (by rfl) (by rfl) (by (try simp only [hsl]); first | done | exact ct_Up) ?_); clear H; intro a w H; replace H := nf_Up H; first | (simp only [hsl] at H; replace H := nf_Up H) | skip; (try simp only [List.drop_succ_cons, List.drop_zero, List.drop_nil]); try refine wpList_nil ?_) | refine wp_region_lit ?_)
          repeat (first | refine wp_seq ?_ | refine wp_block ?_)
          refine v_draw 0 [6, 7] [] (by kernel_rfl) (by kernel_rfl) H (by rfl) (fun gS H => ?_); try replace H := nt_Up H; first | (simp only [hsl, hg] at H; replace H := nt_Up H) | skip
          refine v_someT 3 tab_ok hN H (by rfl) (by (try simp only [hsl, hg, hsl, hx]); first | done | exact ct_Up) ?_; clear H; intro a w H; replace H := nt_Up H; first | (simp only [hsl, hg] at H; replace H := nt_Up H) | skip; simp only [List.drop_succ_cons, List.drop_zero, List.drop_nil]
          refine v_someT 2 tab_ok hN H (by rfl) (by (try simp only [hsl, hg, hsl, hx]); first | done | exact ct_Up) ?_; clear H; intro a w H; replace H := nt_Up H; first | (simp only [hsl, hg] at H; replace H := nt_Up H) | skip; simp only [List.drop_succ_cons, List.drop_zero, List.drop_nil]
          refine v_someT 1 tab_ok hN H (by rfl) (by (try simp only [hsl, hg, hsl, hx]); first | done | exact ct_Up) ?_; clear H; intro a w H; replace H := nt_Up H; first | (simp only [hsl, hg] at H; replace H := nt_Up H) | skip; simp only [List.drop_succ_cons, List.drop_zero, List.drop_nil]
          refine v_callT [] [] (hin1) H (by rfl) (by rfl) rfl rfl (by rfl) (by simp [pickB, bxs, ren, idx?, sub_refl, sub, allP, hsl, hg] <;> omega) (by first | rfl | (simp [hsl, hg] <;> omega)) (by first | exact trivial | exact ⟨sub_refl _ _, trivial⟩ | exact ⟨sub_refl _ _, sub_refl _ _, trivial⟩ | exact ⟨sub_refl _ _, sub_refl _ _, sub_refl _ _, trivial⟩ | exact ⟨⟨rfl, sub_refl _ _, trivial⟩, sub_refl _ _, trivial⟩ | (simp [cargs, cargsG, St.ev, St.tmp, find, ren, idx?, sub_refl, sub, allP, resv, resC, bss, hsl, hg] <;> omega)) ?_; clear H; intro a w H; try replace H := nt_Up H; first | (simp only [hsl, hg] at H; replace H := nt_Up H) | skip
          repeat (refine v_someT 5 tab_ok hN H (by rfl) (by (try simp only [hsl, hg, hsl, hx]); first | done | exact ct_Up) ?_; clear H; intro a w H; replace H := nt_Up H; first | (simp only [hsl, hg] at H; replace H := nt_Up H) | skip; simp only [List.drop_succ_cons, List.drop_zero, List.drop_nil])
          refine v_moreT tab_ok hN H (by rfl) (by (try simp only [hsl, hg, hsl, hx]); first | done | exact ct_Up) ?_; clear H; intro a w H; try replace H := nt_Up H; first | (simp only [hsl, hg] at H; replace H := nt_Up H) | skip
          refine v_drawNil H (fun H => ?_)
          repeat (first | refine wp_seq ?_ | refine wp_block ?_ | refine wp_skip ?_ | refine wp_exit ?_ | ((first | refine v_some 5 tab_ok hN H (by rfl) (by (try simp only [hsl]); first | done | exact ct_Up) ?_ | refine v_more tab_ok hN H (by rfl) (by rfl) (by (try simp only [hsl]); first | done | exact ct_Up) ?_); clear H; intro a w H; replace H := nf_Up H; first | (simp only [hsl] at H; replace H := nf_Up H) | skip; (try simp only [List.drop_succ_cons, List.drop_zero, List.drop_nil]); try refine wpList_nil ?_) | refine wp_region_lit ?_)
          exact ⟨j, by omega, by omega, H.to 4 0 ⟨Nat.le_trans hN (by decide), hR⟩ ⟨rfl, rfl, rfl, rfl, rfl, rfl, trivial⟩ (by dsimp only; rw [hup]; rfl) rfl rfl rfl rfl⟩
        · have hbt : bitN key j = true := by cases h : bitN key j; (rw [h] at hb; simp at hb); rfl
          have hst : stepH key j x u = innerH x u := by unfold stepH; rw [hbt]; rfl
          rw [hst] at hup
          clear hb
          repeat (first | refine wp_seq ?_ | refine wp_block ?_ | refine wp_skip ?_ | refine wp_exit ?_ | ((first | refine v_some 5 tab_ok hN H (by rfl) (by (try simp only [hsl]); first | done | exact ct_Up) ?_ | refine v_more tab_ok hN H (by rfl) (by rfl) (by (try simp only [hsl]); first | done | exact ct_Up) ?_); clear H; intro a w H; replace H := nf_Up H; first | (simp only [hsl] at H; replace H := nf_Up H) | skip; (try simp only [List.drop_succ_cons, List.drop_zero, List.drop_nil]); try refine wpList_nil ?_) | refine wp_region_lit ?_)
          repeat (first | refine wp_seq ?_ | refine wp_block ?_)
          refine v_draw 0 [6, 7] [] (by kernel_rfl) (by kernel_rfl) H (by rfl) (fun gS H => ?_); try replace H := nt_Up H; first | (simp only [hsl, hg] at H; replace H := nt_Up H) | skip
          refine v_someT 2 tab_ok hN H (by rfl) (by (try simp only [hsl, hg, hsl, hx]); first | done | exact ct_Up) ?_; clear H; intro a w H; replace H := nt_Up H; first | (simp only [hsl, hg] at H; replace H := nt_Up H) | skip; simp only [List.drop_succ_cons, List.drop_zero, List.drop_nil]
          refine v_someT 2 tab_ok hN H (by rfl) (by (try simp only [hsl, hg, hsl, hx]); first | done | exact ct_Up) ?_; clear H; intro a w H; replace H := nt_Up H; first | (simp only [hsl, hg] at H; replace H := nt_Up H) | skip; simp only [List.drop_succ_cons, List.drop_zero, List.drop_nil]
          refine v_someT 2 tab_ok hN H (by rfl) (by (try simp only [hsl, hg, hsl, hx]); first | done | exact ct_Up) ?_; clear H; intro a w H; replace H := nt_Up H; first | (simp only [hsl, hg] at H; replace H := nt_Up H) | skip; simp only [List.drop_succ_cons, List.drop_zero, List.drop_nil]
          refine v_callT [] [] (hin2) H (by rfl) (by rfl) rfl rfl (by rfl) (by simp [pickB, bxs, ren, idx?, sub_refl, sub, allP, hsl, hg] <;> omega) (by first | rfl | (simp [hsl, hg] <;> omega)) (by first | exact trivial | exact ⟨sub_refl _ _, trivial⟩ | exact ⟨sub_refl _ _, sub_refl _ _, trivial⟩ | exact ⟨sub_refl _ _, sub_refl _ _, sub_refl _ _, trivial⟩ | exact ⟨⟨rfl, sub_refl _ _, trivial⟩, sub_refl _ _, trivial⟩ | (simp [cargs, cargsG, St.ev, St.tmp, find, ren, idx?, sub_refl, sub, allP, resv, resC, bss, hsl, hg] <;> omega)) ?_; clear H; intro a w H; try replace H := nt_Up H; first | (simp only [hsl, hg] at H; replace H := nt_Up H) | skip
          repeat (refine v_someT 5 tab_ok hN H (by rfl) (by (try simp only [hsl, hg, hsl, hx]); first | done | exact ct_Up) ?_; clear H; intro a w H; replace H := nt_Up H; first | (simp only [hsl, hg] at H; replace H := nt_Up H) | skip; simp only [List.drop_succ_cons, List.drop_zero, List.drop_nil])
          refine v_moreT tab_ok hN H (by rfl) (by (try simp only [hsl, hg, hsl, hx]); first | done | exact ct_Up) ?_; clear H; intro a w H; try replace H := nt_Up H; first | (simp only [hsl, hg] at H; replace H := nt_Up H) | skip
          refine v_drawNil H (fun H => ?_)
          repeat (first | refine wp_seq ?_ | refine wp_block ?_ | refine wp_skip ?_ | refine wp_exit ?_ | ((first | refine v_some 5 tab_ok hN H (by rfl) (by (try simp only [hsl]); first | done | exact ct_Up) ?_ | refine v_more tab_ok hN H (by rfl) (by rfl) (by (try simp only [hsl]); first | done | exact ct_Up) ?_); clear H; intro a w H; replace H := nf_Up H; first | (simp only [hsl] at H; replace H := nf_Up H) | skip; (try simp only [List.drop_succ_cons, List.drop_zero, List.drop_nil]); try refine wpList_nil ?_) | refine wp_region_lit ?_)
          exact ⟨j, by omega, by omega, H.to 4 0 ⟨Nat.le_trans hN (by decide), hR⟩ ⟨rfl, rfl, rfl, rfl, rfl, rfl, trivial⟩ (by dsimp only; rw [hup]; rfl) rfl rfl rfl rfl⟩
      · have hge : k = 0 := by rw [decide_eq_false_iff_not] at hb; omega
        subst hge
        rw [List.drop_zero] at H hul
        repeat (first | refine wp_seq ?_ | refine wp_block ?_ | refine wp_skip ?_ | refine wp_exit ?_ | ((first | refine v_some 5 tab_ok hN H (by rfl) (by (try simp only [hsl]); first | done | exact ct_Up) ?_ | refine v_more tab_ok hN H (by rfl) (by rfl) (by (try simp only [hsl]); first | done | exact ct_Up) ?_); clear H; intro a w H; replace H := nf_Up H; first | (simp only [hsl] at H; replace H := nf_Up H) | skip; (try simp only [List.drop_succ_cons, List.drop_zero, List.drop_nil]); try refine wpList_nil ?_) | refine wp_region_lit ?_)
        refine wp_ret ?_
        exact v_end [] [] tab_ok ⟨hN, hR⟩ (rs := [.cell 4 30, .tmp 5]) (ress := [_, _]) rfl H (by rfl) (by rfl) (by simp [pickB, bxs, ren, idx?, sub_refl, sub, allP, hsl] <;> omega) (by first | rfl | (simp [hsl] <;> omega)) (by first | exact trivial | exact ⟨sub_refl _ _, trivial⟩ | exact ⟨sub_refl _ _, sub_refl _ _, trivial⟩ | exact ⟨sub_refl _ _, sub_refl _ _, sub_refl _ _, trivial⟩ | exact ⟨⟨rfl, sub_refl _ _, trivial⟩, sub_refl _ _, trivial⟩ | (simp [cargs, cargsG, St.ev, St.tmp, find, ren, idx?, sub_refl, sub, allP, resv, resC, bss, hsl] <;> omega)) rfl
set_option maxRecDepth 20000 in
set_option maxHeartbeats 1000000 in
theorem upR_v (key : List UInt8) (hk32 : key.length = 32) (p : Pf) (hw : p.wf) (h : p.chk = 0) : VC Try.prog 37 [.ba key, p.av] [] (.tup [.ba (topH key p), errv 0]) := by
  obtain ⟨hle, hok, hk2⟩ := chk_all h
  obtain ⟨s, n⟩ := p
  dsimp only at hle hok hk2
  have hs := hw.s
  have hsl := bas_len s
  have hdg := digestR_ok n hw.e hok
  have hck := checkR_v n hw.e
  rw [if_pos hok] at hck
  obtain ⟨h1, h2, h3, h4⟩ := id hw.e
  dsimp only at h1 h2 h3 h4 hs
  have hz2 := z32_len
  have hd2 : decide ((n.k.toNat : Int) = 2) = false := decide_eq_false fun e => hk2 (UInt8.toNat_inj.1 (by simp; omega))
  unfold topH
  obtain ⟨h0, hh0⟩ : ∃ h0, h0 = sum n.text := ⟨_, rfl⟩
  have h0l : h0.length = 32 := by rw [hh0]; exact sum_length _
  rw [← hh0] at hdg
  dsimp only
  rw [← hh0]
  clear hh0 hok hk2 h hw
  refine v_enter Try.func37 rfl (by kernel_rfl) (by show 2 ≤ 58; decide) ?_
  intro N w0 a w hN hR H
  simp only [Pf.av, Nd.av] at H hdg hck
  repeat (first | refine wp_seq ?_ | refine wp_block ?_ | refine wp_skip ?_ | refine wp_exit ?_ | ((first | refine v_some 5 tab_ok hN H (by rfl) (by (try simp only [hsl]); first | done | exact ct_Up) ?_ | refine v_more tab_ok hN H (by rfl) (by rfl) (by (try simp only [hsl]); first | done | exact ct_Up) ?_); clear H; intro a w H; replace H := nf_Up H; first | (simp only [hsl] at H; replace H := nf_Up H) | skip; (try simp only [List.drop_succ_cons, List.drop_zero, List.drop_nil]); try refine wpList_nil ?_) | refine wp_region_lit ?_)
  refine v_cond H (by rfl) (fun hb => ?_) (fun hb => ?_)
  · exfalso; rw [decide_eq_true_eq] at hb; omega
  · repeat (first | refine wp_seq ?_ | refine wp_block ?_ | refine wp_skip ?_ | refine wp_exit ?_ | ((first | refine v_some 5 tab_ok hN H (by rfl) (by (try simp only [hsl]); first | done | exact ct_Up) ?_ | refine v_more tab_ok hN H (by rfl) (by rfl) (by (try simp only [hsl]); first | done | exact ct_Up) ?_); clear H; intro a w H; replace H := nf_Up H; first | (simp only [hsl] at H; replace H := nf_Up H) | skip; (try simp only [List.drop_succ_cons, List.drop_zero, List.drop_nil]); try refine wpList_nil ?_) | refine wp_region_lit ?_)
    refine v_call [] [] (hck) H rfl rfl (by rfl) (by simp [pickB, bxs, ren, idx?, sub_refl, sub, allP, hsl] <;> omega) (by first | rfl | (simp [hsl] <;> omega)) (by first | exact trivial | exact ⟨sub_refl _ _, trivial⟩ | exact ⟨sub_refl _ _, sub_refl _ _, trivial⟩ | exact ⟨sub_refl _ _, sub_refl _ _, sub_refl _ _, trivial⟩ | exact ⟨⟨rfl, sub_refl _ _, trivial⟩, sub_refl _ _, trivial⟩ | (simp [cargs, cargsG, St.ev, St.tmp, find, ren, idx?, sub_refl, sub, allP, resv, resC, bss, hsl] <;> omega)) ?_; clear H; intro a w H; replace H := nf_Up H; first | (simp only [hsl] at H; replace H := nf_Up H) | skip; try refine wpList_nil ?_
    repeat (first | refine wp_seq ?_ | refine wp_block ?_ | refine wp_skip ?_ | refine wp_exit ?_ | ((first | refine v_some 5 tab_ok hN H (by rfl) (by (try simp only [hsl]); first | done | exact ct_Up) ?_ | refine v_more tab_ok hN H (by rfl) (by rfl) (by (try simp only [hsl]); first | done | exact ct_Up) ?_); clear H; intro a w H; replace H := nf_Up H; first | (simp only [hsl] at H; replace H := nf_Up H) | skip; (try simp only [List.drop_succ_cons, List.drop_zero, List.drop_nil]); try refine wpList_nil ?_) | refine wp_region_lit ?_)
    refine v_cond H (by rfl) (fun hb => ?_) (fun hb => ?_)
    · exfalso; simp only [hd2] at hb; simp at hb
    · clear hb
      repeat (first | refine wp_seq ?_ | refine wp_block ?_ | refine wp_skip ?_ | refine wp_exit ?_ | ((first | refine v_some 5 tab_ok hN H (by rfl) (by (try simp only [hsl]); first | done | exact ct_Up) ?_ | refine v_more tab_ok hN H (by rfl) (by rfl) (by (try simp only [hsl]); first | done | exact ct_Up) ?_); clear H; intro a w H; replace H := nf_Up H; first | (simp only [hsl] at H; replace H := nf_Up H) | skip; (try simp only [List.drop_succ_cons, List.drop_zero, List.drop_nil]); try refine wpList_nil ?_) | refine wp_region_lit ?_)
      refine v_call [] [] (hdg) H rfl rfl (by rfl) (by simp [pickB, bxs, ren, idx?, sub_refl, sub, allP, hsl] <;> omega) (by first | rfl | (simp [hsl] <;> omega)) (by first | exact trivial | exact ⟨sub_refl _ _, trivial⟩ | exact ⟨sub_refl _ _, sub_refl _ _, trivial⟩ | exact ⟨sub_refl _ _, sub_refl _ _, sub_refl _ _, trivial⟩ | exact ⟨⟨rfl, sub_refl _ _, trivial⟩, sub_refl _ _, trivial⟩ | (simp [cargs, cargsG, St.ev, St.tmp, find, ren, idx?, sub_refl, sub, allP, resv, resC, bss, hsl] <;> omega)) ?_; clear H; intro a w H; replace H := nf_Up H; first | (simp only [hsl] at H; replace H := nf_Up H) | skip; try refine wpList_nil ?_
      repeat (first | refine wp_seq ?_ | refine wp_block ?_ | refine wp_skip ?_ | refine wp_exit ?_ | ((first | refine v_some 5 tab_ok hN H (by rfl) (by (try simp only [hsl]); first | done | exact ct_Up) ?_ | refine v_more tab_ok hN H (by rfl) (by rfl) (by (try simp only [hsl]); first | done | exact ct_Up) ?_); clear H; intro a w H; replace H := nf_Up H; first | (simp only [hsl] at H; replace H := nf_Up H) | skip; (try simp only [List.drop_succ_cons, List.drop_zero, List.drop_nil]); try refine wpList_nil ?_) | refine wp_region_lit ?_)
      refine v_loop (fun k : Nat => ⟨[(8, none, .v (.int .i64 ((k : Int) - 1))), (6, none, .ptr 3 []), (5, none, .v (.int .i64 0)), (4, none, .ptr 2 []), (3, none, .ptr 1 []), (2, none, .ptr 0 [])],
        [(.ba 32, .ba key), (ti64.ty, .st [.sl (.ba 32) (bas s) none, .st [.v (B8 n.k), .ba n.key, .ba n.v, .ba n.l, .ba n.r]]), (.ba 32, .ba z32), (.ba 32, .ba (upL key k (s.drop k) h0))], [], []⟩)
        (fun k => k ≤ s.length) (fun k => k) s.length (Nat.le_refl _) (H.to 4 0 ⟨Nat.le_trans hN (by decide), hR⟩ ⟨rfl, rfl, rfl, rfl, rfl, rfl, trivial⟩ (by rw [List.drop_length]; rfl) rfl rfl rfl rfl) ?_
      clear H
      intro k a w hk H
      have hul := upL_len key h0 h0l k (s.drop k)
      repeat (first | refine wp_seq ?_ | refine wp_block ?_ | refine wp_skip ?_ | refine wp_exit ?_ | ((first | refine v_some 5 tab_ok hN H (by rfl) (by (try simp only [hsl]); first | done | exact ct_Up) ?_ | refine v_more tab_ok hN H (by rfl) (by rfl) (by (try simp only [hsl]); first | done | exact ct_Up) ?_); clear H; intro a w H; replace H := nf_Up H; first | (simp only [hsl] at H; replace H := nf_Up H) | skip; (try simp only [List.drop_succ_cons, List.drop_zero, List.drop_nil]); try refine wpList_nil ?_) | refine wp_region_lit ?_)
      refine v_cond H (by rfl) (fun hb => ?_) (fun hb => ?_)
      · obtain ⟨j, rfl⟩ : ∃ j, k = j + 1 := ⟨k - 1, by rw [decide_eq_true_eq] at hb; omega⟩
        clear hb
        have hj : j < s.length := hk
        have e1 : (((j + 1 : Nat) : Int) - 1) = (j : Int) := by omega
        rw [e1] at H
        have hbit := bitR_v key hk32 (j : Int)
        have hj256 : j < 256 := by omega
        have hpb : decide (pbit key (j : Int) = 0) = !bitN key j := by
          rw [pbit, if_pos (by omega), Int.toNat_natCast]; cases bitN key j <;> rfl
        have hup := upL_drop key s h0 j hj
        have hg := bas_get s j hj
        rw [List.getElem_eq_getD []] at hg
        have hx : (s.getD j []).length = 32 := by rw [← List.getElem_eq_getD (h := hj) []]; exact hs _ (List.getElem_mem _)
        generalize s.getD j [] = x at *
        generalize upL key (j + 1) (s.drop (j + 1)) h0 = u at *
        have hin1 := innerHR_v u x hul hx
        have hin2 := innerHR_v x u hx hul
        have hil1 := innerH_len u x
        have hil2 := innerH_len x u
        repeat (first | refine wp_seq ?_ | refine wp_block ?_ | refine wp_skip ?_ | refine wp_exit ?_ | ((first | refine v_some 5 tab_ok hN H (by rfl) (by (try simp only [hsl]); first | done | exact ct_Up) ?_ | refine v_more tab_ok hN H (by rfl) (by rfl) (by (try simp only [hsl]); first | done | exact ct_Up) ?_); clear H; intro a w H; replace H := nf_Up H; first | (simp only [hsl] at H; replace H := nf_Up H) | skip; (try simp only [List.drop_succ_cons, List.drop_zero, List.drop_nil]); try refine wpList_nil ?_) | refine wp_region_lit ?_)
        refine v_call [] [] (hbit) H rfl rfl (by rfl) (by simp [pickB, bxs, ren, idx?, sub_refl, sub, allP, hsl] <;> omega) (by first | rfl | (simp [hsl] <;> omega)) (by first | exact trivial | exact ⟨sub_refl _ _, trivial⟩ | exact ⟨sub_refl _ _, sub_refl _ _, trivial⟩ | exact ⟨sub_refl _ _, sub_refl _ _, sub_refl _ _, trivial⟩ | exact ⟨⟨rfl, sub_refl _ _, trivial⟩, sub_refl _ _, trivial⟩ | (simp [cargs, cargsG, St.ev, St.tmp, find, ren, idx?, sub_refl, sub, allP, resv, resC, bss, hsl] <;> omega)) ?_; clear H; intro a w H; replace H := nf_Up H; first | (simp only [hsl] at H; replace H := nf_Up H) | skip; try refine wpList_nil ?_
        repeat (first | refine wp_seq ?_ | refine wp_block ?_ | refine wp_skip ?_ | refine wp_exit ?_ | ((first | refine v_some 5 tab_ok hN H (by rfl) (by (try simp only [hsl]); first | done | exact ct_Up) ?_ | refine v_more tab_ok hN H (by rfl) (by rfl) (by (try simp only [hsl]); first | done | exact ct_Up) ?_); clear H; intro a w H; replace H := nf_Up H; first | (simp only [hsl] at H; replace H := nf_Up H) | skip; (try simp only [List.drop_succ_cons, List.drop_zero, List.drop_nil]); try refine wpList_nil ?_) | refine wp_region_lit ?_)
        simp only [hpb] at H
        refine v_cond H (by rfl) (fun hb => ?_) (fun hb => ?_)
        · have hbf : bitN key j = false := by cases h : bitN key j; rfl; rw [h] at hb; simp at hb
          have hst : stepH key j x u = innerH u x := by unfold stepH; rw [hbf]; rfl
          rw [hst] at hup
          clear hb
          repeat (first | refine wp_seq ?_ | refine wp_block ?_ | refine wp_skip ?_ | refine wp_exit ?_ | ((first | refine v_some 5 tab_ok hN H (by rfl) (by (try simp only [hsl]); first | done | exact ct_Up) ?_ | refine v_more tab_ok hN H (by rfl) (by rfl) (by (try simp only [hsl]); first | done | exact ct_Up) ?_); clear H; intro a w H; replace H := nf_Up H; first | (simp only [hsl] at H; replace H := nf_Up H) | skip; (try simp only [List.drop_succ_cons, List.drop_zero, List.drop_nil]); try refine wpList_nil ?_) | refine wp_region_lit ?_)
          repeat (first | refine wp_seq ?_ | refine wp_block ?_)
          refine v_draw 0 [6, 7] [] (by kernel_rfl) (by kernel_rfl) H (by rfl) (fun gS H => ?_); try replace H := nt_Up H; first | (simp only [hsl, hg] at H; replace H := nt_Up H) | skip
          refine v_someT 3 tab_ok hN H (by rfl) (by (try simp only [hsl, hg, hsl, hx]); first | done | exact ct_Up) ?_; clear H; intro a w H; replace H := nt_Up H; first | (simp only [hsl, hg] at H; replace H := nt_Up H) | skip; simp only [List.drop_succ_cons, List.drop_zero, List.drop_nil]
          refine v_someT 2 tab_ok hN H (by rfl) (by (try simp only [hsl, hg, hsl, hx]); first | done | exact ct_Up) ?_; clear H; intro a w H; replace H := nt_Up H; first | (simp only [hsl, hg] at H; replace H := nt_Up H) | skip; simp only [List.drop_succ_cons, List.drop_zero, List.drop_nil]
          refine v_someT 1 tab_ok hN H (by rfl) (by (try simp only [hsl, hg, hsl, hx]); first | done | exact ct_Up) ?_; clear H; intro a w H; replace H := nt_Up H; first | (simp only [hsl, hg] at H; replace H := nt_Up H) | skip; simp only [List.drop_succ_cons, List.drop_zero, List.drop_nil]
          refine v_callT [] [] (hin1) H (by rfl) (by rfl) rfl rfl (by rfl) (by simp [pickB, bxs, ren, idx?, sub_refl, sub, allP, hsl, hg] <;> omega) (by first | rfl | (simp [hsl, hg] <;> omega)) (by first | exact trivial | exact ⟨sub_refl _ _, trivial⟩ | exact ⟨sub_refl _ _, sub_refl _ _, trivial⟩ | exact ⟨sub_refl _ _, sub_refl _ _, sub_refl _ _, trivial⟩ | exact ⟨⟨rfl, sub_refl _ _, trivial⟩, sub_refl _ _, trivial⟩ | (simp [cargs, cargsG, St.ev, St.tmp, find, ren, idx?, sub_refl, sub, allP, resv, resC, bss, hsl, hg] <;> omega)) ?_; clear H; intro a w H; try replace H := nt_Up H; first | (simp only [hsl, hg] at H; replace H := nt_Up H) | skip
          repeat (refine v_someT 5 tab_ok hN H (by rfl) (by (try simp only [hsl, hg, hsl, hx]); first | done | exact ct_Up) ?_; clear H; intro a w H; replace H := nt_Up H; first | (simp only [hsl, hg] at H; replace H := nt_Up H) | skip; simp only [List.drop_succ_cons, List.drop_zero, List.drop_nil])
          refine v_moreT tab_ok hN H (by rfl) (by (try simp only [hsl, hg, hsl, hx]); first | done | exact ct_Up) ?_; clear H; intro a w H; try replace H := nt_Up H; first | (simp only [hsl, hg] at H; replace H := nt_Up H) | skip
          refine v_drawNil H (fun H => ?_)
          repeat (first | refine wp_seq ?_ | refine wp_block ?_ | refine wp_skip ?_ | refine wp_exit ?_ | ((first | refine v_some 5 tab_ok hN H (by rfl) (by (try simp only [hsl]); first | done | exact ct_Up) ?_ | refine v_more tab_ok hN H (by rfl) (by rfl) (by (try simp only [hsl]); first | done | exact ct_Up) ?_); clear H; intro a w H; replace H := nf_Up H; first | (simp only [hsl] at H; replace H := nf_Up H) | skip; (try simp only [List.drop_succ_cons, List.drop_zero, List.drop_nil]); try refine wpList_nil ?_) | refine wp_region_lit ?_)
          exact ⟨j, by omega, by omega, H.to 4 0 ⟨Nat.le_trans hN (by decide), hR⟩ ⟨rfl, rfl, rfl, rfl, rfl, rfl, trivial⟩ (by dsimp only; rw [hup]; rfl) rfl rfl rfl rfl⟩
        · have hbt : bitN key j = true := by cases h : bitN key j; (rw [h] at hb; simp at hb); rfl
          have hst : stepH key j x u = innerH x u := by unfold stepH; rw [hbt]; rfl
          rw [hst] at hup
          clear hb
          repeat (first | refine wp_seq ?_ | refine wp_block ?_ | refine wp_skip ?_ | refine wp_exit ?_ | ((first | refine v_some 5 tab_ok hN H (by rfl) (by (try simp only [hsl]); first | done | exact ct_Up) ?_ | refine v_more tab_ok hN H (by rfl) (by rfl) (by (try simp only [hsl]); first | done | exact ct_Up) ?_); clear H; intro a w H; replace H := nf_Up H; first | (simp only [hsl] at H; replace H := nf_Up H) | skip; (try simp only [List.drop_succ_cons, List.drop_zero, List.drop_nil]); try refine wpList_nil ?_) | refine wp_region_lit ?_)
          repeat (first | refine wp_seq ?_ | refine wp_block ?_)
          refine v_draw 0 [6, 7] [] (by kernel_rfl) (by kernel_rfl) H (by rfl) (fun gS H => ?_); try replace H := nt_Up H; first | (simp only [hsl, hg] at H; replace H := nt_Up H) | skip
          refine v_someT 2 tab_ok hN H (by rfl) (by (try simp only [hsl, hg, hsl, hx]); first | done | exact ct_Up) ?_; clear H; intro a w H; replace H := nt_Up H; first | (simp only [hsl, hg] at H; replace H := nt_Up H) | skip; simp only [List.drop_succ_cons, List.drop_zero, List.drop_nil]
          refine v_someT 2 tab_ok hN H (by rfl) (by (try simp only [hsl, hg, hsl, hx]); first | done | exact ct_Up) ?_; clear H; intro a w H; replace H := nt_Up H; first | (simp only [hsl, hg] at H; replace H := nt_Up H) | skip; simp only [List.drop_succ_cons, List.drop_zero, List.drop_nil]
          refine v_someT 2 tab_ok hN H (by rfl) (by (try simp only [hsl, hg, hsl, hx]); first | done | exact ct_Up) ?_; clear H; intro a w H; replace H := nt_Up H; first | (simp only [hsl, hg] at H; replace H := nt_Up H) | skip; simp only [List.drop_succ_cons, List.drop_zero, List.drop_nil]
          refine v_callT [] [] (hin2) H (by rfl) (by rfl) rfl rfl (by rfl) (by simp [pickB, bxs, ren, idx?, sub_refl, sub, allP, hsl, hg] <;> omega) (by first | rfl | (simp [hsl, hg] <;> omega)) (by first | exact trivial | exact ⟨sub_refl _ _, trivial⟩ | exact ⟨sub_refl _ _, sub_refl _ _, trivial⟩ | exact ⟨sub_refl _ _, sub_refl _ _, sub_refl _ _, trivial⟩ | exact ⟨⟨rfl, sub_refl _ _, trivial⟩, sub_refl _ _, trivial⟩ | (simp [cargs, cargsG, St.ev, St.tmp, find, ren, idx?, sub_refl, sub, allP, resv, resC, bss, hsl, hg] <;> omega)) ?_; clear H; intro a w H; try replace H := nt_Up H; first | (simp only [hsl, hg] at H; replace H := nt_Up H) | skip
          repeat (refine v_someT 5 tab_ok hN H (by rfl) (by (try simp only [hsl, hg, hsl, hx]); first | done | exact ct_Up) ?_; clear H; intro a w H; replace H := nt_Up H; first | (simp only [hsl, hg] at H; replace H := nt_Up H) | skip; simp only [List.drop_succ_cons, List.drop_zero, List.drop_nil])
          refine v_moreT tab_ok hN H (by rfl) (by (try simp only [hsl, hg, hsl, hx]); first | done | exact ct_Up) ?_; clear H; intro a w H; try replace H := nt_Up H; first | (simp only [hsl, hg] at H; replace H := nt_Up H) | skip
          refine v_drawNil H (fun H => ?_)
          repeat (first | refine wp_seq ?_ | refine wp_block ?_ | refine wp_skip ?_ | refine wp_exit ?_ | ((first | refine v_some 5 tab_ok hN H (by rfl) (by (try simp only [hsl]); first | done | exact ct_Up) ?_ | refine v_more tab_ok hN H (by rfl) (by rfl) (by (try simp only [hsl]); first | done | exact ct_Up) ?_); clear H; intro a w H; replace H := nf_Up H; first | (simp only [hsl] at H; replace H := nf_Up H) | skip; (try simp only [List.drop_succ_cons, List.drop_zero, List.drop_nil]); try refine wpList_nil ?_) | refine wp_region_lit ?_)
          exact ⟨j, by omega, by omega, H.to 4 0 ⟨Nat.le_trans hN (by decide), hR⟩ ⟨rfl, rfl, rfl, rfl, rfl, rfl, trivial⟩ (by dsimp only; rw [hup]; rfl) rfl rfl rfl rfl⟩
      · have hge : k = 0 := by rw [decide_eq_false_iff_not] at hb; omega
        subst hge
        rw [List.drop_zero] at H hul
        repeat (first | refine wp_seq ?_ | refine wp_block ?_ | refine wp_skip ?_ | refine wp_exit ?_ | ((first | refine v_some 5 tab_ok hN H (by rfl) (by (try simp only [hsl]); first | done | exact ct_Up) ?_ | refine v_more tab_ok hN H (by rfl) (by rfl) (by (try simp only [hsl]); first | done | exact ct_Up) ?_); clear H; intro a w H; replace H := nf_Up H; first | (simp only [hsl] at H; replace H := nf_Up H) | skip; (try simp only [List.drop_succ_cons, List.drop_zero, List.drop_nil]); try refine wpList_nil ?_) | refine wp_region_lit ?_)
        refine wp_ret ?_
        exact v_end [] [] tab_ok ⟨hN, hR⟩ (rs := [.cell 4 30, .tmp 5]) (ress := [_, _]) rfl H (by rfl) (by rfl) (by simp [pickB, bxs, ren, idx?, sub_refl, sub, allP, hsl] <;> omega) (by first | rfl | (simp [hsl] <;> omega)) (by first | exact trivial | exact ⟨sub_refl _ _, trivial⟩ | exact ⟨sub_refl _ _, sub_refl _ _, trivial⟩ | exact ⟨sub_refl _ _, sub_refl _ _, sub_refl _ _, trivial⟩ | exact ⟨⟨rfl, sub_refl _ _, trivial⟩, sub_refl _ _, trivial⟩ | (simp [cargs, cargsG, St.ev, St.tmp, find, ren, idx?, sub_refl, sub, allP, resv, resC, bss, hsl] <;> omega)) rfl
end Go.Proofs.Ytlagngkafllbiaa
